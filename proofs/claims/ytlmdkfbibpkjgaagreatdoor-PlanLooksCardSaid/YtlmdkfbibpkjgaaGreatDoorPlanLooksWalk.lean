/-
 The document's gaps of a plan, granule by granule; the law PlanLooks, walked.
-/
import Derived.Test.YtlmdkfbibpkjgaaGreatDoorPlanAl
import Derived.Test.YtlmdkfbibpkjgaaGreatDoorPlanArgs
import Derived.Test.YtlmdkfbibpkjgaaGreatDoorIsleR
import Derived.Deep.DeepCutAuto
import Derived.Deep.CutBlock
namespace Go.Proofs.YtlmdkfbibpkjgaaGreatDoor
open Go.RowKit
set_option linter.unusedVariables false

theorem flatR_snoc2 {P : List (Nat × Nat)} {s k : Nat} : AV (P ++ [(s, k + 1)]) = ((AV (P ++ [(s, k)])).set (P.length * 2) (.int .i64 (s : Nat))).set (P.length * 2 + 1) (.int .i64 ((k + 1 : Nat) : Int)) := by
 rw [CV, CV]
 have e : (AV P).length = P.length * 2 := BR P
 rw [List.set_append_right _ _ (by omega), List.set_append_right _ _ (by omega), e, Nat.sub_self, show P.length * 2 + 1 - P.length * 2 = 1 by omega]
 rfl

set_option maxRecDepth 20000 in
set_option maxHeartbeats 8000000 in
theorem RefGaps_at (es : List (Int × Int × Int)) (v : Value) (n : Int) (w : World) (h : RowH w v es) (hl : es.length <= 1000) (hs : ∀ x ∈ es, -1099511627776 <= x.2.1 /\ x.2.1 <= 1099511627776 /\ 0 <= x.2.2 /\ x.2.2 <= 1099511627776) (hn : n <= 2000) :
  Calls Tryz.prog 12 #[.agg #[v], .int .i64 n] w (EM (CY (Ex es) n.toNat) w) := by
 have HR := sE h
 obtain ⟨va, vc, rfl, -⟩ := h
 obtain ⟨len, hlen⟩ : ∃ len, es.length = len := ⟨_, rfl⟩
 rw [hlen] at HR hl
 rw [hlen]
 have HN := sE hlen
 have HS := sE hs
 obtain ⟨w1, hw1⟩ : ∃ w1, w1 = w.alloc (.cells #[.slice va len vc] 24) := ⟨_, rfl⟩
 have k1 : Keep Aa w w1 := by rw [hw1]; exact (Keep.refl _ w).alloc _
 have b1 : w1.heap[w.heap.size]? = some (.cells #[.slice va len vc] 24 (0, 0)) := by rw [hw1]; exact World.alloc_heap_new w _
 have HB1 := sE b1
 have HK1 := sE k1
 have d2 : ¬ (65536 : Int) < n := by omega
 obtain ⟨F, hF⟩ : ∃ F, Ex es = F := ⟨_, rfl⟩
 have HF := sE hF
 rw [hF]
 obtain ⟨N, hN⟩ : ∃ N, n.toNat = N := ⟨_, rfl⟩
 rw [hN]
 have hN2 : N <= 2000 := by omega
 have HNn : Seal (∀ g : Nat, (g : Int) < n ↔ g < N) := ⟨λ g => by omega⟩
 have hz1 : w1.heap.size = w.heap.size + 1 := by rw [hw1]; simp
 clear hlen hs b1 k1 hF hN
 go_enter Tryz.func12, Tryz.ntmps12
 go_wp2_with fail
 rw [<- hw1]
 clear hw1
 go_loopw [5, 6, 7, 8, 9, 10] (λ x5 x6 x7 _ _ _ wr => ∃ g : Nat, g <= N /\ x7 = .int .i64 (g : Nat) /\ x6 = .bool (EL F g) /\ wr.ownsRow w1.heap.size 68 2 x5 (CY F g).length (AV (CY F g)) /\ Keep Aa w1 wr) (λ _ _ x7 _ _ _ _ => N - (intOf x7).toNat)
 case atStart => exact ⟨0, Nat.zero_le _, rfl, rfl, World.ownsRow_nil _ _ _ _, Keep.refl _ _⟩
 case round =>
  obtain ⟨g, hg, rfl, rfl, ho, hk⟩ := hrel
  have HO := sE ho
  have HK := sE hk
  have hgn := HNn.out g
  obtain ⟨op, hop⟩ : ∃ op, EL F g = op := ⟨_, rfl⟩
  have HOp := sE hop
  rw [hop]
  obtain ⟨qa, qc, rfl⟩ := AA ho
  clear ho hk hop
  by_cases hgl : g < N
  ·have hgl' : (g : Int) < n := hgn.2 hgl
   clear hgn
   go_wp2_with fail
   go_loopw [8, 9] (λ x8 x9 wq => ∃ i : Nat, i <= len /\ x9 = .int .i64 (i : Nat) /\ x8 = .bool (Ex (es.take i) g) /\ Keep Aa wr wq) (λ _ x9 _ => len - (intOf x9).toNat)
   case atStart => exact ⟨0, Nat.zero_le _, rfl, rfl, Keep.refl _ _⟩
   case round =>
    obtain ⟨i, hi, rfl, rfl, hk⟩ := hrel
    have HKi := sE hk
    have KN : Seal (Keep Aa w1 _) := ⟨HK.out.then' hk⟩
    have c0 := cell_of_one (KN.out.at_ HB1.out (λ h => h))
    clear hk
    by_cases hil : i < len
    ·have hil' : (i : Int) < (len : Int) := by omega
     obtain ⟨va', vc', e, hx⟩ := HR.out.Ad (HK1.out.then' KN.out)
     injection e with e1 e3 e2
     clear e3
     subst e1 e2
     obtain ⟨x, hxj⟩ : ∃ x, es[i]? = some x := ⟨_, List.getElem?_eq_getElem (by rw [HN.out]; exact hil)⟩
     obtain ⟨bb, o, rfl, hbb, x0, x1, x2⟩ := hx i x hxj
     have hT := takenS_take hxj g
     have hxs := HS.out x (List.mem_of_getElem? hxj)
     obtain ⟨f0, t, z⟩ := x
     simp only at x0 x1 x2 hT hxs
     have HT := sE hT
     have u1 : IntKind.i64.wrap ((g : Int) - t) = (g : Int) - t := by rw [IntKind.wrap_i64]; omega
     clear hx hxj hT
     obtain ⟨fl, hfl⟩ : ∃ fl, Ex (es.take i) g = fl := ⟨_, rfl⟩
     rw [hfl] at HT ⊢
     clear hfl
     cases fl with
     | true =>
      go_wp2_with fail
      go_quiet (fail)
      go_wp2_with fail
      exact ⟨⟨i + 1, by omega, by go_num, by rw [HT.out]; rfl, HKi.out.then' (Keep.Ag _)⟩, by simp only [intOf]; omega⟩
     | false =>
      by_cases h1 : t <= (g : Int)
      ·have d1 : decide (t <= (g : Int)) = true := decide_eq_true h1
       have HQ : Seal (decide (t <= (g : Int) /\ (g : Int) - t < z) = decide ((g : Int) - t < z)) := ⟨by simp [h1]⟩
       clear h1
       go_wp2_with fail
       go_quiet (fail)
       go_wp2_with fail
       exact ⟨⟨i + 1, by omega, by go_num, by rw [HT.out, HQ.out]; rfl, HKi.out.then' (Keep.Ag _)⟩, by simp only [intOf]; omega⟩
      ·have d1 : decide (t <= (g : Int)) = false := decide_eq_false h1
       have HQ : Seal (decide (t <= (g : Int) /\ (g : Int) - t < z) = false) := ⟨by simp [h1]⟩
       clear h1
       go_wp2_with fail
       go_quiet (fail)
       go_wp2_with fail
       exact ⟨⟨i + 1, by omega, by go_num, by rw [HT.out, HQ.out]; rfl, HKi.out.then' (Keep.Ag _)⟩, by simp only [intOf]; omega⟩
    ·have hil' : ¬ (i : Int) < (len : Int) := by omega
     have hfe : Ex (es.take i) g = F g := by rw [List.take_of_length_le (by rw [HN.out]; omega), HF.out]
     rw [hfe]
     have HO2 := sE (Ai HO.out HKi.out (λ _ _ h => h))
     have HG2 : Seal (CY F (g + 1) = if F g then CY F g else if EL F g then bumpL (CY F g) else CY F g ++ [(g, 1)]) := ⟨rfl⟩
     have HOs : Seal (EL F (g + 1) = !F g) := ⟨rfl⟩
     have hql := gapG_len F g
     have HGo : Seal (EL F g = true -> ∃ Q s, s < g /\ CY F g = Q ++ [(s, g - s)]) := ⟨gapG_open⟩
     obtain ⟨G, hG⟩ : ∃ G, CY F g = G := ⟨_, rfl⟩
     rw [hG] at HO2 HG2 hql HGo
     rw [HOp.out] at HG2 HGo
     rw [hG]
     obtain ⟨fl, hfl⟩ : ∃ fl, F g = fl := ⟨_, rfl⟩
     rw [hfl] at HG2 HOs ⊢
     have hzr := HKi.out.size
     have hz0 := HK.out.size
     clear hfe hG hfl HO HOp
     cases fl with
     | true =>
      obtain ⟨ql, hqe⟩ : ∃ ql, G.length = ql := ⟨_, rfl⟩
      rw [hqe] at HO2
      rw [hqe]
      have HQl := sE hqe
      clear hqe
      go_wp2_with fail
      refine ⟨⟨g + 1, by omega, by go_num, by rw [HOs.out]; rfl, ?_, KN.out⟩, by simp only [intOf]; omega⟩
      rw [HG2.out, if_pos rfl, HQl.out]
      exact HO2.out
     | false =>
      cases op with
      | true =>
       obtain ⟨Q, s, hsg, hGe⟩ := HGo.out rfl
       subst hGe
       have hGn : CY F (g + 1) = Q ++ [(s, (g - s) + 1)] := by
        rw [HG2.out, if_neg (by simp), if_pos rfl, bumpL_snoc]
       have HGn := sE hGn
       obtain ⟨k, hk⟩ : ∃ k, Q.length = k := ⟨_, rfl⟩
       have HQk := sE hk
       have hll : (Q ++ [(s, g - s)]).length = k + 1 := by rw [List.length_append, hk]; rfl
       have HLl := sE hll
       rw [hll] at HO2 hql ⊢
       rcases HO2.out.2 with ⟨-, h0⟩ | ⟨gb, cap, cur, e, g2, g3, g4, g5, g6, g7⟩
       ·omega
       injection e with e1 e2 e3
       subst e1 e3
       have hxl : (Q ++ [(s, g - s)])[k]? = some (s, g - s) := by rw [<- hk]; simp
       obtain ⟨a0, a1⟩ := EP _ k _ hxl
       have key : ∀ j, j < (k + 1) * 2 -> wr.cell? ⟨gb, j, none⟩ = (AV (Q ++ [(s, g - s)]))[j]? := λ j hj => by
        rw [<- g7, List.getElem?_take_of_lt hj]
        simp [World.cell?, g3]
       obtain ⟨L1, hL1⟩ : ∃ L1 : Nat, g - s = L1 := ⟨_, rfl⟩
       have e0 : wr.cell? ⟨gb, k * 2, none⟩ = some (.int .i64 (s : Nat)) := by rw [key _ (by omega)]; exact a0
       have e1 : wr.cell? ⟨gb, k * 2 + 1, none⟩ = some (.int .i64 (L1 : Nat)) := by rw [key _ (by omega), <- hL1]; exact a1
       rw [hL1] at HO2 HGn
       have hgbB : w1.heap.size <= gb /\ gb < wr.heap.size := ⟨g2, lt_of_heap g3⟩
       have gf := Ac g3
       have HG3 := sE g3
       have u1 : IntKind.i64.wrap ((k : Int) + 1 - 1) = (k : Int) := by rw [IntKind.wrap_i64]; omega
       have u2 : IntKind.i64.wrap (((k + 1 : Nat) : Int) - 1) = (k : Int) := by rw [IntKind.wrap_i64]; omega
       have u3 : IntKind.i64.wrap (k : Int) = (k : Int) := by rw [IntKind.wrap_i64]; omega
       have p1 : (k : Int) < (k : Int) + 1 := by omega
       have p2 : (0 : Int) <= (k : Int) := by omega
       have u4 : IntKind.i64.wrap ((L1 : Int) + 1) = (L1 : Int) + 1 := by rw [IntKind.wrap_i64]; omega
       obtain ⟨wA, hwA⟩ : ∃ wA, wA = wr.alloc (.cells #[.int .i64 (s : Nat), .int .i64 (L1 : Nat)] 68) := ⟨_, rfl⟩
       have kA : Keep Aa wr wA := by rw [hwA]; exact (Keep.refl _ wr).alloc _
       have bA : wA.heap[wr.heap.size]? = some (.cells #[.int .i64 (s : Nat), .int .i64 (L1 : Nat)] 68 (0, 0)) := by rw [hwA]; exact World.alloc_heap_new wr _
       have HKA := sE kA
       have HBA := sE bA
       have s1 : wA.cell? ⟨wr.heap.size, 1, none⟩ = some (.int .i64 (L1 : Nat)) := by simp [World.cell?, bA]
       have sf := Ac bA 1
       clear key a0 a1 g2 g3 g4 g5 g6 g7 hxl hL1 hGn hk hll kA bA
       go_upto_region 15 with fail
       rw [<- hwA]
       clear hwA
       go_upto_region 16 with fail
       obtain ⟨wB, hwB⟩ : ∃ wB, wB = wA.setCell ⟨wr.heap.size, 1, none⟩ (.int .i64 ((L1 : Int) + 1)) := ⟨_, rfl⟩
       have kB : Keep (λ b => b = wr.heap.size) wA wB := by rw [hwB]; exact (Keep.refl (λ b => b = wr.heap.size) wA).setCell (λ _ => rfl) _
       have bB : wB.heap[wr.heap.size]? = some (.cells #[.int .i64 (s : Nat), .int .i64 ((L1 : Int) + 1)] 68 (0, 0)) := by
        rw [hwB, block_setCell HBA.out]
        rfl
       have kAB : Keep (λ b => b = wr.heap.size) wr wB := (HKA.out.Am _).trans kB (λ _ _ h => h)
       have t0 : wB.cell? ⟨wr.heap.size, 0, none⟩ = some (.int .i64 (s : Nat)) := by simp [World.cell?, bB]
       have t1 : wB.cell? ⟨wr.heap.size, 1, none⟩ = some (.int .i64 ((L1 : Int) + 1)) := by simp [World.cell?, bB]
       have gB := kAB.at_ HG3.out (by omega)
       have f0 := kAB.cell e0 (by show ¬ gb = wr.heap.size; omega)
       have f1 := kAB.cell e1 (by show ¬ gb = wr.heap.size; omega)
       have gf0 := Ac gB (k * 2)
       have gf1 := Ac gB (k * 2 + 1)
       have HOB := sE (Ai HO2.out kAB (λ b hb h => by have := (Ah HO2.out hb).2; omega))
       have HKB := sE kAB
       have hzB := kAB.size
       rw [<- hwB]
       clear hwB kB bB kAB gB s1 sf e0 e1 HBA HKA
       go_wp2_with fail
       refine ⟨⟨g + 1, by omega, by go_num, by rw [HOs.out]; rfl, ?_, ?_⟩, by simp only [intOf]; omega⟩
       ·rw [HGn.out, flatR_snoc2, HQk.out, List.length_append, HQk.out]
        exact owns_set (owns_set HOB.out (by omega)) (by omega)
       ·refine ((((KN.out.Am (λ b => b = wr.heap.size \/ b = gb)).trans (HKB.out.mono λ i _ h => .inl h) (λ _ _ h => h)).setCell (p := ⟨gb, k * 2, none⟩) (λ _ => .inr rfl) _).setCell (p := ⟨gb, k * 2 + 1, none⟩) (λ _ => .inr rfl) _).mono λ b hb h => ?_
        have := KN.out.size
        omega
      | false =>
       have HGn : Seal (CY F (g + 1) = G ++ [(g, 1)]) := ⟨by rw [HG2.out, if_neg (by simp), if_neg (by simp)]⟩
       obtain ⟨ql, hqe⟩ : ∃ ql, G.length = ql := ⟨_, rfl⟩
       rw [hqe] at HO2 hql
       rw [hqe]
       have HQl := sE hqe
       clear hqe
       go_wp2_with (at_builtin; obtain ⟨i0, hi, hz0, hz1, hz2⟩ := info_parts Tryz.EO; go_loud (refine wpList_append_lies _ rfl (.tmp 76) (.tmp 79) 32 rfl w1.heap.size 68 i0 _ 2 16 Tryz.Bt hi hz0 hz1 hz2 rfl (by omega) (.slice qa ql qc) ql (AV G) rfl (HO2.out.alloc _) ⟨wr.heap.size, 0, none⟩ 1 1 [.int .i64 (g : Nat), .int .i64 1] rfl rfl (World.news_of_block (World.alloc_heap_new wr _)) (by intro u hu; simp at hu; rcases hu with rfl | rfl <;> rfl) (by omega) (by unfold maxLen; omega) (by omega) (by first | (simp; done) | (simp; omega)) (wr.heap.size + 1) (by simp) ?_); intro gn capn w7 hown7 hgrow hat hlt; clear hi hz0 hz1 hz2; have HR7 := sE hown7; have HG7 := sE hgrow; clear hown7 hgrow hat hlt)
       refine ⟨⟨g + 1, by omega, by go_num, by rw [HOs.out]; rfl, ?_, ?_⟩, by simp only [intOf]; omega⟩
       ·rw [HGn.out, CV, List.length_append, HQl.out]
        exact HR7.out
       ·exact (KN.out.alloc _).grown HG7.out (λ k e hk => by have := (Ah HO2.out e).1; omega)
  ·have hgl' : ¬ (g : Int) < n := λ h => hgl (hgn.1 h)
   have hge : CY F N = CY F g := by
    obtain rfl : g = N := by omega
    rfl
   have HGe := sE hge
   clear hgn hge
   go_wp2_with fail
   go_ret
   exact ⟨_, rfl, by rw [HGe.out]; exact Br HO.out (by omega), HK1.out.then' HK.out⟩

set_option maxRecDepth 20000 in
theorem Gaps_none (v : Value) (es : List (Int × Int × Int)) (n : Int) (w : World) (h : RowH w v es) (hn : n < 1 \/ 65536 < n) : Calls Tryz.prog 11 #[.agg #[v], .int .i64 n] w (EM [] w) := by
 obtain ⟨va, vc, rfl, -⟩ := h
 rcases hn with h1 | h1
 ·go_enter Tryz.func11, Tryz.ntmps11
  go_wp2_with fail
  go_ret
  exact ⟨_, rfl, World.ownsRow_nil _ _ _ _, (Keep.refl _ w).alloc _⟩
 ·have h2 : ¬ n < 1 := by omega
  go_enter Tryz.func11, Tryz.ntmps11
  go_wp2_with fail
  go_ret
  exact ⟨_, rfl, World.ownsRow_nil _ _ _ _, (Keep.refl _ w).alloc _⟩

theorem RefGaps_none (v : Value) (es : List (Int × Int × Int)) (n : Int) (w : World) (h : RowH w v es) (hn : 65536 < n) : Calls Tryz.prog 12 #[.agg #[v], .int .i64 n] w (EM [] w) := by
 obtain ⟨va, vc, rfl, -⟩ := h
 go_enter Tryz.func12, Tryz.ntmps12
 go_wp2_with fail
 go_ret
 exact ⟨_, rfl, World.ownsRow_nil _ _ _ _, (Keep.refl _ w).alloc _⟩

def gapsS (es : List (Int × Int × Int)) (n : Int) : List (Nat × Nat) := if n <= 2000 then CY (Ex es) n.toNat else []

def SaneS (x : Int × Int × Int) : Prop := -1099511627776 <= x.2.1 /\ x.2.1 <= 1099511627776 /\ 0 <= x.2.2 /\ x.2.2 <= 1099511627776

theorem Gaps_both (es : List (Int × Int × Int)) (v : Value) (n : Int) (w : World) (h : RowH w v es) (hl : es.length <= 60) (hs : ∀ x ∈ es, SaneS x) (hn : n <= 2000 \/ 65536 < n) :
  (∀ W', Keep Aa w W' -> Calls Tryz.prog 11 #[.agg #[v], .int .i64 n] W' (EM (gapsS es n) W')) /\ (∀ W', Keep Aa w W' -> Calls Tryz.prog 12 #[.agg #[v], .int .i64 n] W' (EM (gapsS es n) W')) /\ (gapsS es n).length <= 2000 := by
 unfold gapsS
 by_cases h2 : n <= 2000
 ·rw [if_pos h2]
  refine ⟨λ W' k => ?_, λ W' k => RefGaps_at es v n W' (h.Ad k) (by omega) hs h2, ?_⟩
  ·by_cases h1 : 1 <= n
   ·obtain ⟨m, rfl⟩ : ∃ m : Nat, n = (m : Int) := Int.eq_ofNat_of_zero_le (by omega)
    rw [Int.toNat_natCast]
    exact Gaps_at es v m W' (h.Ad k) (by omega) hs (by omega) (by omega)
   ·rw [show n.toNat = 0 by omega]
    exact Gaps_none v es n W' (h.Ad k) (.inl (by omega))
  ·have := gapG_len (Ex es) n.toNat
   omega
 ·rw [if_neg h2]
  exact ⟨λ W' k => Gaps_none v es n W' (h.Ad k) (.inr (by omega)), λ W' k => RefGaps_none v es n W' (h.Ad k) (by omega), Nat.zero_le _⟩

set_option maxRecDepth 20000 in
set_option maxHeartbeats 8000000 in
theorem planlooks_walk (v : Value) (es : List (Int × Int × Int)) (g n : Int) (w : World) (hF : Al w) (h : RowH w v es) :
  Calls Tryz.prog 3 #[.agg #[v], .int .i64 g, .int .i64 n] w λ e w' => e = .returned (.bool true) /\ Keep Aa w w' := by
 have HAlive : Seal (∀ W', Keep Aa w W' -> Calls Tryz.prog 5 #[] W' λ e w' => e = .returned (.bool true) /\ Keep Aa W' w') := ⟨λ W' kk => alive22 W' (hF.Ad kk)⟩
 have HR := sE h
 have hv := h
 obtain ⟨va, vc, rfl, -⟩ := hv
 have HGb := λ a b c => Gaps_both es _ n w h a b c
 have HTo : Seal (es.length <= 60 -> ∀ W', Keep Aa w W' -> Calls Tryz.prog 6 #[.agg #[.slice va es.length vc], .int .i64 g] W' λ e w' => e = .returned (.tuple #[.int .i64 (toP es g).1, .bool (toP es g).2]) /\ Keep Aa W' w') := ⟨λ hl W' k => To_at es _ g W' (h.Ad k) (by omega)⟩
 have HRt : Seal (es.length <= 60 -> ∀ W', Keep Aa w W' -> Calls Tryz.prog 7 #[.agg #[.slice va es.length vc], .int .i64 g] W' λ e w' => e = .returned (.tuple #[.int .i64 (toP es g).1, .bool (toP es g).2]) /\ Keep Aa W' w') := ⟨λ hl W' k => RefTo_at es _ g W' (h.Ad k) (by omega)⟩
 have HMv : Seal (es.length <= 60 -> (∀ x ∈ es, SaneS x) -> ∀ W', Keep Aa w W' -> Calls Tryz.prog 8 #[.agg #[.slice va es.length vc]] W' λ e w' => e = .returned (.int .i64 (Cn es)) /\ Keep Aa W' w') := ⟨λ hl hs W' k => Moved_at es _ W' (h.Ad k) (by omega) (λ x hx => (hs x hx).2.2)⟩
 have HRm : Seal (es.length <= 60 -> (∀ x ∈ es, SaneS x) -> ∀ W', Keep Aa w W' -> Calls Tryz.prog 9 #[.agg #[.slice va es.length vc]] W' λ e w' => e = .returned (.int .i64 (Cn es)) /\ Keep Aa W' w') := ⟨λ hl hs W' k => RefMoved_at es _ W' (h.Ad k) (by omega) (λ x hx => (hs x hx).2.2)⟩
 have HGp := sE HGb
 obtain ⟨len, hlen⟩ : ∃ len, es.length = len := ⟨_, rfl⟩
 rw [hlen] at HR HTo HRt HMv HRm HGp
 rw [hlen]
 have HN := sE hlen
 obtain ⟨w1, hw1⟩ : ∃ w1, w1 = w.alloc (.cells #[.slice va len vc] 24) := ⟨_, rfl⟩
 have k1 : Keep Aa w w1 := by rw [hw1]; exact (Keep.refl _ w).alloc _
 have b1 : w1.heap[w.heap.size]? = some (.cells #[.slice va len vc] 24 (0, 0)) := by rw [hw1]; exact World.alloc_heap_new w _
 have HK1 := sE k1
 have HB1 := sE b1
 have c0 := cell_of_one b1
 have HAl1 := sE (HAlive.out w1 k1)
 clear h hlen k1 b1 HGb hF
 by_cases h60 : len <= 60
 case neg =>
  have d0 : (60 : Int) < (len : Int) := by omega
  clear h60 HGp HTo HRt HMv HRm
  subst hw1
  go_enter Tryz.func3, Tryz.ntmps3
  go_wp2_with fail
  refine HAl1.out.mono ?_
  rintro e w3 ⟨rfl, k3⟩
  go_wp2
  go_ret
  exact ⟨rfl, HK1.out.then' k3⟩
 case pos =>
 have d0 : ¬ (60 : Int) < (len : Int) := by omega
 by_cases hn : n <= 2000 \/ 65536 < n
 case neg =>
  have d1 : (2000 : Int) < n := by omega
  have d2 : n <= (65536 : Int) := by omega
  clear hn h60 HGp HTo HRt HMv HRm
  subst hw1
  go_enter Tryz.func3, Tryz.ntmps3
  go_wp2_with fail
  refine HAl1.out.mono ?_
  rintro e w3 ⟨rfl, k3⟩
  go_wp2
  go_ret
  exact ⟨rfl, HK1.out.then' k3⟩
 case pos =>
 have HHn := sE hn
 have HTo' := sE (HTo.out h60)
 have HRt' := sE (HRt.out h60)
 clear HTo HRt
 go_enter Tryz.func3, Tryz.ntmps3
 go_upto_region 1 with fail
 rw [<- hw1]
 clear hw1
 go_cut [24] from 13 to 24 (λ x24 wx => x24 = .bool false /\ wx = w1)
 case first =>
  rcases hn with hn | hn
  ·have d1 : ¬ (2000 : Int) < n := by omega
   clear hn
   go_wp2_with fail
   go_meet
   exact ⟨rfl, rfl⟩
  ·have d1 : (2000 : Int) < n := by omega
   have d2 : ¬ n <= (65536 : Int) := by omega
   clear hn
   go_wp2_with fail
   go_meet
   exact ⟨rfl, rfl⟩
 case rest =>
  obtain ⟨rfl, rfl⟩ := hcut
  clear hn
  go_wp2_with fail
  go_loopw [7, 8] (λ x7 _ wr => ∃ i : Nat, i <= len /\ x7 = .int .i64 (i : Nat) /\ (∀ k x, k < i -> es[k]? = some x -> SaneS x) /\ Keep Aa wc wr) (λ x7 _ _ => len - (intOf x7).toNat)
  case atStart => exact ⟨0, Nat.zero_le _, rfl, λ k x hk _ => by omega, Keep.refl _ _⟩
  case round =>
   obtain ⟨i, hi, rfl, hsane, hk⟩ := hrel
   have HSn := sE hsane
   have HK := sE hk
   have c1 := hk.cell c0 (λ h => h)
   have KN : Seal (Keep Aa w wr) := ⟨HK1.out.then' hk⟩
   clear hsane hk
   by_cases hil : i < len
   ·have hil' : (i : Int) < (len : Int) := by omega
    obtain ⟨va', vc', e, hx⟩ := HR.out.Ad KN.out
    injection e with e1 e3 e2
    clear e3
    subst e1 e2
    obtain ⟨x, hxj⟩ : ∃ x, es[i]? = some x := ⟨_, List.getElem?_eq_getElem (by rw [HN.out]; exact hil)⟩
    obtain ⟨bb, o, rfl, hbb, x0, x1, x2⟩ := hx i x hxj
    have HX := sE hxj
    obtain ⟨f0, t, z⟩ := x
    simp only at x0 x1 x2
    have hA : (wr.alloc (.cells #[.int .i64 f0, .int .i64 t, .int .i64 z] 27)).heap[wr.heap.size]? = some (.cells #[.int .i64 f0, .int .i64 t, .int .i64 z] 27 (0, 0)) := World.alloc_heap_new wr _
    obtain ⟨wA, hwA⟩ : ∃ wA, wA = wr.alloc (.cells #[.int .i64 f0, .int .i64 t, .int .i64 z] 27) := ⟨_, rfl⟩
    rw [<- hwA] at hA
    have kA : Keep Aa wr wA := by rw [hwA]; exact (Keep.refl _ wr).alloc _
    obtain ⟨z0, z1, z2⟩ := cells3 hA
    have HKA : Seal (Keep Aa wc wA) := ⟨HK.out.then' kA⟩
    have HAl2 := sE (HAlive.out wA (KN.out.then' kA))
    have KA : Seal (Keep Aa w wA) := ⟨KN.out.then' kA⟩
    clear hx hxj hA kA hbb
    go_upto_region 7 with fail
    rw [<- hwA]
    clear hwA x0 x1 x2 c1 z0
    have hcs : SaneS (f0, t, z) \/ t < -1099511627776 \/ (¬ t < -1099511627776 /\ 1099511627776 < t) \/ (¬ t < -1099511627776 /\ ¬ 1099511627776 < t /\ z < 0) \/ (¬ t < -1099511627776 /\ ¬ 1099511627776 < t /\ ¬ z < 0 /\ 1099511627776 < z) := by
     unfold SaneS
     simp only
     omega
    rcases hcs with hsn | p1 | ⟨p1, p2⟩ | ⟨p1, p2, p3⟩ | ⟨p1, p2, p3, p4⟩
    ·have HS2 : Seal (∀ k x, k < i + 1 -> es[k]? = some x -> SaneS x) := ⟨λ k x hk1 hk2 => by
      by_cases hki : k < i
      ·exact HSn.out k x hki hk2
      ·obtain rfl : k = i := by omega
       rw [HX.out] at hk2
       injection hk2 with hk2
       rw [<- hk2]
       exact hsn⟩
     obtain ⟨q1, q2, q3, q4⟩ := hsn
     simp only at q1 q2 q3 q4
     have p1 : ¬ t < -1099511627776 := by omega
     have p2 : ¬ 1099511627776 < t := by omega
     have p3 : ¬ z < 0 := by omega
     have p4 : ¬ 1099511627776 < z := by omega
     clear q1 q2 q3 q4
     go_wp2_with fail
     exact ⟨⟨i + 1, by omega, by go_num, HS2.out, HKA.out⟩, by simp only [intOf]; omega⟩
    all_goals
     go_wp2_with fail
     refine HAl2.out.mono ?_
     rintro e w3 ⟨rfl, k3⟩
     go_wp2
     go_ret
     exact ⟨rfl, KA.out.then' k3⟩
   ·have hil' : ¬ (i : Int) < (len : Int) := by omega
    have hse : ∀ x ∈ es, SaneS x := λ x hx => by
     obtain ⟨k, hk⟩ := List.mem_iff_getElem?.1 hx
     exact HSn.out k x (by have := (List.getElem?_eq_some_iff.1 hk).1; have := HN.out; omega) hk
    have HMv' := sE (HMv.out h60 hse)
    have HRm' := sE (HRm.out h60 hse)
    obtain ⟨g1, g2, g3⟩ := HGp.out h60 hse HHn.out
    have HG1 := sE g1
    have HG2 := sE g2
    have HG3 := sE g3
    obtain ⟨GL, hGL⟩ : ∃ GL, gapsS es n = GL := ⟨_, rfl⟩
    rw [hGL] at HG1 HG2 HG3
    obtain ⟨tp, htp⟩ : ∃ tp, toP es g = tp := ⟨_, rfl⟩
    rw [htp] at HTo' HRt'
    obtain ⟨a, b⟩ := tp
    obtain ⟨mv, hmv⟩ : ∃ mv, Cn es = mv := ⟨_, rfl⟩
    rw [hmv] at HMv' HRm'
    have HT1 := sE (HTo'.out wr KN.out)
    clear g1 g2 g3 hGL hmv hse HSn htp HMv HRm HGp
    go_wp2_with fail
    refine HT1.out.mono ?_
    rintro e w3 ⟨rfl, k3⟩
    have c3 := k3.cell c1 (λ h => h)
    have K3 : Seal (Keep Aa w w3) := ⟨KN.out.then' k3⟩
    have HT2 := sE (HRt'.out w3 K3.out)
    clear k3 c1 HT1
    go_wp2_with fail
    refine HT2.out.mono ?_
    rintro e w4 ⟨rfl, k4⟩
    have c4 := k4.cell c3 (λ h => h)
    have K4 : Seal (Keep Aa w w4) := ⟨K3.out.then' k4⟩
    clear k4 c3 HT2
    go_wp2_with fail
    have qa : (a == a) = true := by simp
    have qb : (b == b) = true := by simp
    have qm : (mv == mv) = true := by simp
    have kd : Keep Aa w w4.drew := K4.out.drew
    have cd : w4.drew.cell? ⟨w.heap.size, 0, none⟩ = some (.slice va len vc) := c4
    refine wp_region_held_drew (S := λ w' => w'.cell? ⟨w.heap.size, 0, none⟩ = some (.slice va len vc)) (by kernel_rfl) ?_ (λ hHeld => ?_)
    ·(try dsimp only); (exact cd)
    refine Av 0 ?_; refine Av 1 ?_; refine Av 2 ?_; refine Av 3 ?_; refine Av 4 ?_; refine Av 5 ?_; refine Av 6 ?_; refine Av 7 ?_; refine Av 8 ?_; refine Av 9 ?_; refine Av 11 ?_
    try simp only [Ay]
    refine AZ [10] ?_
    refine Ae rfl (λ K hK => ?_)
    go_simp
    go_at_call 8
    (with_reducible refine (HMv'.out _ kd).mono ?_)
    rintro e w5 ⟨rfl, k5⟩
    have c5 := k5.cell cd (λ h => h)
    have K5 := kd.then' k5
    refine hK _ _ ?_ (λ hHeld => ?_)
    ·(try dsimp only); (exact c5)
    clear hK K
    try simp only [Ay]
    refine AZ [12] ?_
    refine Ae rfl (λ K hK => ?_)
    go_simp
    go_at_call 9
    (with_reducible refine (HRm'.out _ K5).mono ?_)
    rintro e w6 ⟨rfl, k6⟩
    have c6 := k6.cell c5 (λ h => h)
    have K6 := K5.then' k6
    refine hK _ _ ?_ (λ hHeld => ?_)
    ·(try dsimp only); (exact c6)
    clear hK K
    try simp only [Ay]
    refine Av 13 ?_; refine Av 14 ?_; refine Av 15 ?_; refine Av 16 ?_; refine Av 17 ?_; refine Av 19 ?_; refine Av 20 ?_
    try simp only [Ay]
    refine AZ [18] ?_
    refine Ae rfl (λ K hK => ?_)
    go_simp
    go_at_call 11
    (with_reducible refine (HG1.out _ K6).mono ?_)
    rintro e w7 ⟨gv, rfl, go7, k7⟩
    have c7 := k7.cell c6 (λ h => h)
    have K7 := K6.then' k7
    have R7 : EN w7 gv GL := EN.A9 go7
    obtain ⟨ga, gc, rfl⟩ := AA go7
    refine hK _ _ ?_ (λ hHeld => ?_)
    ·(try dsimp only); (exact c7)
    clear hK K
    try simp only [Ay]
    refine AZ [21] ?_
    refine Ae rfl (λ K hK => ?_)
    go_simp
    go_at_call 12
    (with_reducible refine (HG2.out _ K7).mono ?_)
    rintro e w8 ⟨hv, rfl, go8, k8⟩
    have c8 := k8.cell c7 (λ h => h)
    have K8 := K7.then' k8
    have R8 : EN w8 hv GL := EN.A9 go8
    obtain ⟨ha, hc, rfl⟩ := AA go8
    have R9 := R7.Ad k8
    have hgl := HG3.out
    refine hK _ _ ?_ (λ hHeld => ?_)
    ·(try dsimp only); (exact c8)
    clear hK K
    try simp only [Ay]
    refine AZ [22] ?_
    refine Ae rfl (λ K hK => ?_)
    go_simp
    go_at_call 10
    (with_reducible refine (SameRuns_yes GL _ _ _ R9 R8 (by omega)).mono ?_)
    rintro e w9 ⟨rfl, k9⟩
    have c9 := k9.cell c8 (λ h => h)
    have K9 := K8.then' k9
    refine hK _ _ ?_ (λ hHeld => ?_)
    ·(try dsimp only); (exact c9)
    clear hK K
    try simp only [Ay]
    refine Av 23 ?_; refine Av 24 ?_
    try simp only [Ay]
    refine AZ [25] ?_
    refine Ae rfl (λ K hK => ?_)
    go_simp
    go_at_call 5
    (with_reducible refine (HAlive.out _ K9).mono ?_)
    rintro e wz ⟨rfl, kz⟩
    have cz := kz.cell c9 (λ h => h)
    have Kz := K9.then' kz
    refine hK _ _ ?_ (λ hHeld => ?_)
    ·(try dsimp only); (exact cz)
    clear hK K
    try simp only [Ay]
    refine Av 26 ?_; refine Av 27 ?_
    try simp only [Ay]
    refine wpAnyH_done (by kernel_rfl) ?_ _
    go_wp2_with fail
    go_ret
    exact ⟨rfl, Kz⟩

end Go.Proofs.YtlmdkfbibpkjgaaGreatDoor
