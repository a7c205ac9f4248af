/-
 The law PlanSlides, walked.
-/
import Derived.Test.YtlmdkfbibpkjgaaGreatDoorPlanAl
import Derived.Test.YtlmdkfbibpkjgaaGreatDoorArgsA
import Derived.Deep.DeepCutAuto
import Derived.Deep.CutBlock
namespace Go.Proofs.YtlmdkfbibpkjgaaGreatDoor
open Go.RowKit
set_option linter.unusedVariables false

theorem Tryz.infoBool : (Tryz.prog.info? 4).map (λ i => (i.zero, i.size, i.bytes)) = some (some (.bool false), 1, 1) := by kernel_rfl

theorem Tryz.underlyingBools : Tryz.prog.underlying 47 = some (.slice 4) := by kernel_rfl

def Cg (w : World) (g H : Nat) (f : Nat -> Bool) : Prop := ∃ cs, w.heap[g]? = some (.cells cs 4 (0, 0)) /\ H <= cs.size /\ ∀ j, j < H -> cs[j]? = some (.bool (f j))

theorem Cg.keep {S : Nat -> Prop} {w w' : World} {g H : Nat} {f : Nat -> Bool} (h : Cg w g H f) (k : Keep S w w') (hg : ¬ S g) : Cg w' g H f := by
 obtain ⟨cs, h1, h2, h3⟩ := h
 exact ⟨cs, k.at_ h1 hg, h2, h3⟩

theorem Cg.bit {w : World} {g H : Nat} {f : Nat -> Bool} (h : Cg w g H f) {j : Nat} (hj : j < H) : w.cell? ⟨g, j, none⟩ = some (.bool (f j)) := by
 obtain ⟨cs, h1, h2, h3⟩ := h
 simp only [World.cell?, h1]
 exact h3 j hj

theorem Cg.free {w : World} {g H : Nat} {f : Nat -> Bool} (h : Cg w g H f) (j : Nat) : w.frozen? ⟨g, j, none⟩ = false := by
 obtain ⟨cs, h1, h2, h3⟩ := h
 exact Ac h1 j

theorem Cg.store {w : World} {g H : Nat} {f f' : Nat -> Bool} (h : Cg w g H f) {j : Nat} (hf : ∀ i, i < H -> f' i = (f i || decide (i = j))) : Cg (w.setCell ⟨g, j, none⟩ (.bool true)) g H f' := by
 obtain ⟨cs, h1, h2, h3⟩ := h
 refine ⟨_, block_setCell h1 _, by simpa using h2, λ i hi => ?_⟩
 rw [Array.getElem?_setIfInBounds, hf i hi]
 by_cases e : j = i
 ·subst e
  rw [if_pos rfl, if_pos (by omega)]
  simp
 ·rw [if_neg e, h3 i hi]
  have : ¬ i = j := λ h => e h.symm
  simp [this]

theorem MakeBools (w : World) (H : Nat) (hH : H <= 65536) : ∃ w', (Instr.makeSlice 47 (.int .i64 (H : Nat)) (.int .i64 (H : Nat))).run Tryz.prog w = .ok (.slice (some ⟨w.heap.size, 0, none⟩) H H) w' /\ Cg w' w.heap.size H (λ _ => false) /\ Keep Aa w w' := by
 obtain ⟨i0, hi, hz0, hz1, hz2⟩ := info_parts Tryz.infoBool
 have h := run_makeSlice (P := Tryz.prog) (w := w) 47 4 i0 (.bool false) Tryz.underlyingBools hi hz0 .i64 .i64 (H : Nat) (H : Nat) (by omega) (by omega) (by rw [hz1]; omega) (by rw [hz2]; omega) (by omega)
 simp only [Int.toNat_natCast] at h
 refine ⟨_, h, ⟨_, World.alloc_heap_new w _, ?_, λ j hj => ?_⟩, (Keep.refl _ w).alloc _⟩
 ·rw [hz1, <- Array.length_toList, show (Value.bool false).cells = #[Value.bool false] from rfl, toList_madeCells_one, List.length_replicate]
  omega
 ·rw [hz1, <- Array.getElem?_toList, show (Value.bool false).cells = #[Value.bool false] from rfl, toList_madeCells_one, List.getElem?_replicate, if_pos (by omega)]

structure SlOk (ms ps : List Nat) (L : List (Nat × Nat × Nat)) (H j : Nat) (x : Nat × Nat × Nat) : Prop where
 le : x.2.1 <= x.1
 pos : 1 <= x.2.2
 fit : x.1 + x.2.2 <= H
 pin : BF ps x.1 = true -> x.2.1 = x.1
 mark : BF ps x.1 = false -> BF ms x.1 = true
 apart : ∀ q, x.2.1 <= q -> q < x.2.1 + x.2.2 -> DI (L.take j) q = false
 last : ∀ last, Ey (BF ps) L j last -> BF ps x.1 = false -> last < (x.2.1 : Int)
 up : ∀ i y, i < j -> L[i]? = some y -> y.1 < x.1

theorem slides_ok {cs : List Cel} {ms ps : List Nat} {H j : Nat} {x : Nat × Nat × Nat} (ht : Aq 0 cs H) (hm : ∀ g ∈ ms, BV cs g) (hp : ∀ g ∈ ps, BV cs g) (hx : (BB cs ps (BH (ms ++ ps)) H)[j]? = some x) : SlOk ms ps (BB cs ps (BH (ms ++ ps)) H) H j x := by
 have hl := Eb (ms ++ ps)
 have ho : ∀ g ∈ BH (ms ++ ps), BV cs g := λ g hg => by
  rcases List.mem_append.1 (Cu.1 hg) with h | h
  ·exact hm g h
  ·exact hp g h
 obtain ⟨hf, hk⟩ := planOf_ok (pins := ps) ht hl ho
 have hr := rowS_of ht hl ho
 have hxm := List.mem_of_getElem? hx
 obtain ⟨e1, e2, e3⟩ := hk.each x hxm
 have hxX : x.1 ∈ BH (ms ++ ps) := by
  rw [<- hf]
  exact List.mem_map.2 ⟨x, hxm, rfl⟩
 have hb := hr.mem hxX
 refine ⟨?_, by omega, by omega, e2, λ h => ?_, λ q h1 h2 => plan_apart ht hl ho hp hx h1 h2, λ last h h2 => h.lt ht hl ho hx h2, λ i y hi hy => ?_⟩
 ·cases h : BF ps x.1 with
  | true => rw [e2 h]; exact Nat.le_refl _
  | false => exact (e3 h).2.1
 ·rcases List.mem_append.1 (Cu.1 hxX) with h2 | h2
  ·exact Bu.2 h2
  ·rw [Bu.2 h2] at h
   cases h
 ·have hl2 := hl
  rw [<- hf, List.pairwise_map] at hl2
  obtain ⟨q1, q2⟩ := List.getElem?_eq_some_iff.1 hy
  obtain ⟨q3, q4⟩ := List.getElem?_eq_some_iff.1 hx
  have := List.pairwise_iff_getElem.1 hl2 i j q1 q3 hi
  rw [q2, q4] at this
  exact this

theorem survives_ok {cs : List Cel} {ms ps : List Nat} {H : Nat} {c : Cel} (ht : Aq 0 cs H) (hm : ∀ g ∈ ms, BV cs g) (hp : ∀ g ∈ ps, BV cs g) (hc : c ∈ cs) : BF (BH (ms ++ ps)) c.g = (decide (c.tag = 1) && (BF ms c.g || BF ps c.g)) := by
 have hmem : BF (BH (ms ++ ps)) c.g = (BF ms c.g || BF ps c.g) := by
  rw [Bool.eq_iff_iff, Bool.or_eq_true, Bu, Bu, Bu, Cu, List.mem_append]
 rw [hmem]
 cases h : (BF ms c.g || BF ps c.g) with
 | false => simp
 | true =>
  have ho : BV cs c.g := by
   rcases Bool.or_eq_true _ _ ▸ h with h | h
   ·exact hm _ (Bu.1 h)
   ·exact hp _ (Bu.1 h)
  obtain ⟨d, hd, d1, d2⟩ := ho
  have b1 := ht.mem hc
  have b2 := ht.mem hd
  have : c = d := cell_only ht hc hd (j := c.g) (Nat.le_refl _) (by unfold Cel.fin; omega) (by omega) (by unfold Cel.fin; omega)
  subst this
  simp [d1]

set_option maxRecDepth 20000 in
set_option maxHeartbeats 8000000 in
theorem planslides_walk (n : Int) (v1 v2 v3 v4 : Value) (xs : List TypR) (len : Nat) (d g i nn y : Nat -> Int) (u : Nat -> Value) (m : Nat -> Nat) (ns : Nat) (ys : Nat -> Nat) (np : Nat) (yp : Nat -> Nat) (w : World) (hF : Al w) (h1 : AQ w v1 xs) (h2 : EK w v2 len d g i nn y u m)
  (hl : xs.length <= 17592186044416) (hM : Cw xs) (hl2 : len <= 17592186044416) (hy : ∀ j, j < len -> 0 <= y j /\ y j <= 18446744073709551615) (hA : AtsAt w len u m) (hb3 : BytesIn w v3 ns ys) (hl3 : ns <= 140737488355328) (hb4 : BytesIn w v4 np yp) (hl4 : np <= 140737488355328) :
  Calls Tryz.prog 4 #[.int .i64 n, v1, v2, v3, v4] w λ e w' => e = .returned (.bool true) /\ Keep Aa w w' := by
 have HF := sE hF
 have HAlive : Seal (∀ W', Keep Aa w W' -> Calls Tryz.prog 5 #[] W' λ e w' => e = .returned (.bool true) /\ Keep Aa W' w') := ⟨λ W' kk => alive22 W' (hF.Ad kk)⟩
 have HH := sE (Heavy9_any n v1 v2 xs len d g i nn y u m w h1 h2 hl hl2)
 have HPl : Seal (len <= 60 -> (∀ j, j < len -> m j <= 300) -> Calls Tryz.prog 14 #[.int .i64 n, v1, v2] w (Dp n xs v1 w)) := ⟨λ q1 q2 => Played_any n v1 v2 xs len d g i nn y u m w hF h1 hl hM h2 q1 hy hA q2⟩
 have hv1 : ∃ a l c, v1 = .slice a l c := by obtain ⟨a, c, h, -⟩ := h1; exact ⟨_, _, _, h⟩
 have hv2 : ∃ a l c, v2 = .slice a l c := by obtain ⟨a, c, h, -⟩ := h2; exact ⟨_, _, _, h⟩
 obtain ⟨a1, l1, c1, rfl⟩ := hv1
 obtain ⟨a2, l2, c2, rfl⟩ := hv2
 have HB3 := sE hb3
 have HB4 := sE hb4
 obtain ⟨a3, c3, rfl, -⟩ := hb3
 obtain ⟨a4, c4, rfl, -⟩ := hb4
 have u0 : IntKind.i64.wrap ((ns : Int) + (np : Int)) = (ns : Int) + (np : Int) := by rw [IntKind.wrap_i64]; omega
 clear hF h1 h2 hM hy hA hl hl2
 by_cases hs3 : ns + np <= 80
 case neg =>
  have p5 : decide ((80 : Int) < (ns : Int) + (np : Int)) = true := decide_eq_true (by omega)
  clear hs3
  go_enter Tryz.func4, Tryz.ntmps4
  go_wp2_with fail
  refine HH.out.mono ?_
  rintro e w2 ⟨t, rfl, rfl, ht⟩
  clear ht
  cases t
  all_goals
   go_wp2_with fail
   refine (HAlive.out _ (Keep.refl _ _)).mono ?_
   rintro e w3 ⟨rfl, k3⟩
   go_wp2
   go_ret
   exact ⟨rfl, k3⟩
 case pos =>
 have p5 : decide ((80 : Int) < (ns : Int) + (np : Int)) = false := decide_eq_false (by omega)
 go_enter Tryz.func4, Tryz.ntmps4
 go_wp2_with fail
 refine HH.out.mono ?_
 rintro e w2 ⟨t, rfl, rfl, ht⟩
 cases t with
 | true =>
  clear ht
  go_wp2_with fail
  refine (HAlive.out _ (Keep.refl _ _)).mono ?_
  rintro e w3 ⟨rfl, k3⟩
  go_wp2
  go_ret
  exact ⟨rfl, k3⟩
 | false =>
  obtain ⟨-, -, q1, q2⟩ := ht rfl
  have HPp := sE (HPl.out q1 q2)
  clear q1 q2 ht HPl
  go_wp2_with fail
  refine HPp.out.mono ?_
  rintro e w3 (⟨rfl, k3⟩ | ⟨P, rb, q, W, cs, rfl, hBt, hPn, hPs, h16⟩)
  ·have HK3 := sE k3
   clear k3
   go_wp2_with fail
   refine (HAlive.out _ HK3.out).mono ?_
   rintro e w4 ⟨rfl, k4⟩
   go_wp2
   go_ret
   exact ⟨rfl, HK3.out.then' k4⟩
  ·obtain ⟨f, hsp, hcs, hst⟩ := hBt.sp
   have HK3 : Seal (Keep Aa _ w3) := ⟨hBt.kb.new'⟩
   have hcn : cs ≠ [] := λ e => by
    have := hcs.tl
    rw [e] at this
    have h0 : 0 = P.n / 2 := this
    omega
   have hsm := hsp.ar.small
   have HRt : Seal (∀ W' v n ys, Keep Aa w3 W' -> n <= 65536 -> BytesIn W' v n ys -> Calls Tryz.prog 16 #[.pointer (some ⟨P.s, 0, none⟩), v] W' λ e w' => ∃ a c, e = .returned (.slice a (AC (Aw cs) ys n).length c) /\ w'.ownsRow W'.heap.size 3 1 (.slice a (AC (Aw cs) ys n).length c) (AC (Aw cs) ys n).length (AJ (AC (Aw cs) ys n)) /\ Keep Aa W' w') := ⟨λ W' v n ys kk hn hv => Roots20_at P cs W' ⟨W, f, hsp.Ad kk, hcs, hst⟩ hcn v n ys hn hv⟩
   have HCl : Seal (∀ W', Keep Aa w3 W' -> Calls Tryz.prog 18 #[.pointer (some ⟨P.s, 0, none⟩)] W' λ e w' => ∃ v, e = .returned v /\ w'.ownsRow W'.heap.size 54 5 v cs.length (BU cs) /\ Keep Aa W' w') := ⟨λ W' kk => Cells_at P cs W' ⟨W, f, hsp.Ad kk, hcs, hst⟩⟩
   have HPd := sE (Planned_at P W f cs w3 _ _ ns np ys yp hsp hcs hst hcn (HB3.out.Ad HK3.out) (HB4.out.Ad HK3.out) (by omega) (by omega))
   have hro : ∀ (ys : Nat -> Nat) (n : Nat), ∀ g ∈ AC (Aw cs) ys n, BV cs g := λ ys n => roots_obj
   have hrl : ∀ (ys : Nat -> Nat) (n : Nat), (AC (Aw cs) ys n).length <= n := λ ys n => rootsOf_len (Aw cs) ys n
   obtain ⟨H, hH⟩ : ∃ H, P.n / 2 = H := ⟨_, rfl⟩
   have HTl : Seal (Aq 0 cs H) := ⟨by rw [<- hH]; exact hcs.tl⟩
   have hPn2 : n / 2 = (H : Int) := by omega
   have hn0 : 0 <= n := by omega
   have hH2 : H <= 32768 := by omega
   rw [hH] at HPd
   obtain ⟨ms, hms⟩ : ∃ ms, AC (Aw cs) ys ns = ms := ⟨_, rfl⟩
   obtain ⟨ps, hps⟩ : ∃ ps, AC (Aw cs) yp np = ps := ⟨_, rfl⟩
   have HMs := sE hms
   have hmo : ∀ g ∈ ms, BV cs g := by rw [<- hms]; exact hro ys ns
   have hpo : ∀ g ∈ ps, BV cs g := by rw [<- hps]; exact hro yp np
   have hml : ms.length <= 80 := by rw [<- hms]; have := hrl ys ns; omega
   have hpl : ps.length <= 80 := by rw [<- hps]; have := hrl yp np; omega
   rw [hms, hps] at HPd
   have HSu : Seal (∀ c ∈ cs, BF (BH (ms ++ ps)) c.g = (decide (c.tag = 1) && (BF ms c.g || BF ps c.g))) := ⟨λ c hc => survives_ok HTl.out hmo hpo hc⟩
   obtain ⟨X, hX⟩ : ∃ X, BH (ms ++ ps) = X := ⟨_, rfl⟩
   have HSl : Seal (∀ j x, (BB cs ps X H)[j]? = some x -> SlOk ms ps (BB cs ps X H) H j x) := ⟨λ j x hx => by rw [<- hX] at hx ⊢; exact slides_ok HTl.out hmo hpo hx⟩
   have HLm : Seal ((BB cs ps X H).map (·.1) = X) := ⟨by
    rw [<- hX]
    refine (planOf_ok (pins := ps) HTl.out (Eb _) λ g hg => ?_).1
    rcases List.mem_append.1 (Cu.1 hg) with h | h
    ·exact hmo g h
    ·exact hpo g h⟩
   have hXl : X.length <= 32768 := by
    rw [<- hX]
    have := up_len (e := 0) (H := H) (Eb (ms ++ ps)) λ g hg => ⟨Nat.zero_le _, by
     have ho : BV cs g := by
      rcases List.mem_append.1 (Cu.1 hg) with h | h
      ·exact hmo g h
      ·exact hpo g h
     obtain ⟨c, hcm, h1, rfl⟩ := ho
     have := HTl.out.mem hcm
     omega⟩
    omega
   rw [hX] at HPd HSu
   obtain ⟨L, hL⟩ : ∃ L, BB cs ps X H = L := ⟨_, rfl⟩
   rw [hL] at HPd HSl HLm
   have hLX : L.length = X.length := by rw [<- HLm.out, List.length_map]
   have hcl : cs.length <= 32768 := by have := Cc HTl.out; omega
   clear hsp hcs hst hcn hBt hPn hPs h16 hH HPp HH hsm hms hps hmo hpo hro hrl hX hL
   go_wp2_with fail
   refine HPd.out.mono ?_
   rintro e w4 ⟨pv, ra, rc, rfl, hrow, hns, k4⟩
   obtain ⟨pa, pc, rfl⟩ := AA hrow
   obtain ⟨pl, hpll⟩ : ∃ pl, L.length = pl := ⟨_, rfl⟩
   have HPL := sE hpll
   have HR4 : Seal (RowO w4 (.slice pa pl pc) L) := ⟨by rw [<- hpll]; exact RowO.A9 hrow⟩
   have HN4 := sE hns
   have HK4 : Seal (Keep Aa w3 w4) := ⟨k4⟩
   rw [hpll] at hLX ⊢
   have hpb : pl <= 32768 := by omega
   have HLX := sE hLX
   clear hrow hns k4 hpll HPd hLX hXl
   obtain ⟨w5, hw5⟩ : ∃ w5, w5 = w4.alloc (.cells #[.slice pa pl pc] 24) := ⟨_, rfl⟩
   have k5 : Keep Aa w4 w5 := by rw [hw5]; exact (Keep.refl _ w4).alloc _
   have b5 : w5.heap[w4.heap.size]? = some (.cells #[.slice pa pl pc] 24 (0, 0)) := by rw [hw5]; exact World.alloc_heap_new w4 _
   have HR5 := sE (HRt.out w5 _ ns ys (HK4.out.then' k5) (by omega) (HB3.out.Ad (HK3.out.then' (HK4.out.then' k5))))
   rw [HMs.out] at HR5
   have HB5 := sE b5
   have HK5 := sE k5
   clear k5 b5 HRt HB3 HB4
   go_wp2_with fail
   rw [<- hw5]
   clear hw5
   refine HR5.out.mono ?_
   rintro e w6 ⟨ma, mc, rfl, hmrow, k6⟩
   have HM6 : Seal (Bf w6 (.slice ma ms.length mc) ms) := ⟨Bf.A9 hmrow⟩
   have HK6 : Seal (Keep Aa w4 w6) := ⟨HK5.out.then' k6⟩
   have HB6 := sE (k6.at_ HB5.out (λ h => h))
   have HN6 := sE (HN4.out.Ad HK6.out)
   have HR6 := sE (HR4.out.Ad HK6.out)
   have HK36 : Seal (Keep Aa w3 w6) := ⟨HK4.out.then' HK6.out⟩
   clear hmrow k6 HR5 HN4 HR4 HB5 HK5 HK4
   obtain ⟨w7, hmk, hF7, k7⟩ := MakeBools w6 H (by omega)
   have h67 : w6.heap.size < w7.heap.size := by
    obtain ⟨cs', h, -⟩ := hF7
    exact lt_of_heap h
   have HF7 := sE hF7
   have HK7 := sE k7
   have h46 : w4.heap.size < w6.heap.size := lt_of_heap HB6.out
   obtain ⟨fb, hfb⟩ : ∃ fb, w6.heap.size = fb := ⟨_, rfl⟩
   rw [hfb] at hmk HF7 h67 h46
   have HFb := sE hfb
   obtain ⟨B, hB⟩ : ∃ B, w7.heap.size = B := ⟨_, rfl⟩
   have HBe := sE hB
   rw [hB] at h67
   clear hF7 k7 hfb hB
   go_wp2_with fail
   clear hmk
   rw [hPn2]
   go_loopw [18, 19, 20, 21, 22] (λ x18 x19 x20 _ _ wr => ∃ (j : Nat) (last : Int), j <= pl /\ x20 = .int .i64 (j : Nat) /\ x18 = .int .i64 last /\ Ey (BF ps) L j last /\ wr.ownsRow B 3 1 x19 j (AJ (X.take j)) /\ Cg wr fb H (DI (L.take j)) /\ B <= wr.heap.size /\ Keep Aa w6 wr) (λ _ _ x20 _ _ _ => pl - (intOf x20).toNat)
   case atStart => exact ⟨0, -1, Nat.zero_le _, rfl, rfl, .inl rfl, World.ownsRow_nil _ _ _ _, HF7.out, by rw [<- HBe.out]; exact Nat.le_refl _, HK7.out⟩
   case round =>
    obtain ⟨j, last, hj, rfl, rfl, hla, ho, hf, hB7, hk⟩ := hrel
    have HO := sE ho
    have HFl := sE hf
    have HK := sE hk
    have HLa := sE hla
    have c14 := cell_of_one (hk.at_ HB6.out (λ h => h))
    clear ho hf hk hla
    by_cases hjl : j < pl
    ·have hjl' : (j : Int) < (pl : Int) := by omega
     obtain ⟨x, hxj⟩ : ∃ x, L[j]? = some x := ⟨_, List.getElem?_eq_getElem (by rw [HPL.out]; exact hjl)⟩
     have hS := HSl.out j x hxj
     have hXj : X[j]? = some x.1 := by rw [<- HLm.out, List.getElem?_map, hxj]; rfl
     have HXs : Seal (X.take (j + 1) = X.take j ++ [x.1]) := ⟨by rw [List.take_add_one, hXj]; rfl⟩
     have HFs : Seal (∀ q, DI (L.take (j + 1)) q = (DI (L.take j) q || decide (x.2.1 <= q /\ q < x.2.1 + x.2.2))) := ⟨λ q => fullF_take hxj q⟩
     have HXj := sE hxj
     obtain ⟨pa', pc', e, hx⟩ := HR6.out
     injection e with e1 e3 e2
     clear e3
     subst e1 e2
     obtain ⟨bb, o, rfl, hbb, y0, y1, y2⟩ := hx j x hxj
     replace y0 := HK.out.cell y0 (λ h => h)
     replace y1 := HK.out.cell y1 (λ h => h)
     replace y2 := HK.out.cell y2 (λ h => h)
     have HPv : Seal (∀ i, j = i + 1 -> ∃ pf : Nat, pf < x.1 /\ ∀ W', Keep Aa w6 W' -> W'.cell? ⟨bb, o + i * 3, none⟩ = some (.int .i64 (pf : Nat))) := ⟨λ i hi => by
      obtain ⟨z, hz⟩ : ∃ z, L[i]? = some z := ⟨_, List.getElem?_eq_getElem (by rw [HPL.out]; omega)⟩
      obtain ⟨b', o', e, -, q0, -⟩ := hx i z hz
      injection e with e
      injection e with e1 e2
      subst e1 e2
      exact ⟨z.1, hS.up i z (by omega) hz, λ W' k => k.cell q0 (λ h => h)⟩⟩
     obtain ⟨xf, xt, xz⟩ := x
     simp only at y0 y1 y2 HXs HFs HPv
     obtain ⟨wA, hwA⟩ : ∃ wA, wA = wr.alloc (.cells #[.int .i64 (xf : Nat), .int .i64 (xt : Nat), .int .i64 (xz : Nat)] 27) := ⟨_, rfl⟩
     have kA : Keep Aa wr wA := by rw [hwA]; exact (Keep.refl _ wr).alloc _
     have bA : wA.heap[wr.heap.size]? = some (.cells #[.int .i64 (xf : Nat), .int .i64 (xt : Nat), .int .i64 (xz : Nat)] 27 (0, 0)) := by rw [hwA]; exact World.alloc_heap_new wr _
     have HKA := sE (HK.out.then' kA)
     have HOA := sE (Ai HO.out kA (λ _ _ h => h))
     have HFA := sE (HFl.out.keep kA (λ h => h))
     have HBA := sE bA
     have HSS := sE hS
     have hzA := kA.size
     obtain ⟨z0, z1, z2⟩ := cells3 bA
     obtain ⟨qa, qc, rfl⟩ := AA HO.out
     have hxf : xf <= 32768 := by have := hS.fit; simp only at this; omega
     clear hx hxj hXj hS kA bA hbb
     go_upto_region 17 with fail
     rw [<- hwA]
     clear hwA y0 y1 y2 z1 z2
     go_wp2_with (at_builtin; obtain ⟨i0, hi, hz0, hz1, hz2⟩ := info_parts Tryz.DN; go_loud (refine wpList_append_lies _ rfl (.tmp 82) (.tmp 85) 43 rfl B 3 i0 _ 1 8 Tryz.Bn hi hz0 hz1 hz2 rfl (by omega) (.slice qa j qc) j (AJ (X.take j)) rfl (HOA.out.alloc _) ⟨wA.heap.size, 0, none⟩ 1 1 [.int .i64 (xf : Nat)] rfl rfl (World.news_of_block (World.alloc_heap_new wA _)) (by intro u hu; simp at hu; subst hu; rfl) (by omega) (by unfold maxLen; omega) (by omega) (by first | (simp; done) | (simp; omega)) (wA.heap.size + 1) (by simp) ?_); intro gn capn w8 hown8 hgrow hat hlt; clear hi hz0 hz1 hz2; have HR8 := sE hown8; have HG8 := sE hgrow; clear hown8 hgrow hat hlt z0)
     have k8 : Keep Aa w6 w8 := (HKA.out.alloc _).grown HG8.out (λ k e hk => by have := (Ah HOA.out e).1; have := HFb.out; omega)
     have KA8 : Keep (λ b => (Value.slice qa j qc).ownBlock = some b) wA w8 := ((Keep.refl Aa wA).alloc _ |>.Am _).grown HG8.out (λ k e h => by first | exact h | exact e)
     have hxB : ¬ (Value.slice qa j qc).ownBlock = some wr.heap.size := λ h => by have := (Ah HO.out h).2; omega
     have hfB : ¬ (Value.slice qa j qc).ownBlock = some fb := λ h => by have := (Ah HO.out h).1; omega
     have b8 := KA8.at_ HBA.out hxB
     have HF8 := sE (HFA.out.keep KA8 hfB)
     have HK8 := sE k8
     have HB8 := sE b8
     have hz8 := KA8.size
     obtain ⟨z0, z1, z2⟩ := cells3 b8
     have c14' := cell_of_one (k8.at_ HB6.out (λ h => h))
     clear k8 KA8 hxB hfB b8 HG8 HOA HFA HO HFl HKA HBA c14
     go_cut [127] from 87 to 127 (λ x127 wx => x127 = .bool false /\ ∃ nq, wx = w8.drewN nq)
     case first =>
      have hle := HSS.out.le
      have hpos := HSS.out.pos
      have hfit := HSS.out.fit
      simp only at hle hpos hfit
      have p1 : ¬ (xt : Int) < 0 := by omega
      have p2 : ¬ (xf : Int) < (xt : Int) := by omega
      have p3 : ¬ (xz : Int) < 1 := by omega
      have hq : IntKind.i64.wrap (n.tdiv 2) = (H : Int) := by rw [Int.tdiv_eq_ediv_of_nonneg hn0, hPn2, IntKind.wrap_i64]; omega
      have p4 : ¬ (H : Int) - (xf : Int) < (xz : Int) := by omega
      have p4' : decide (IntKind.i64.wrap (IntKind.i64.wrap (n.tdiv 2) - (xf : Int)) < (xz : Int)) = false := by
       rw [hq, show IntKind.i64.wrap ((H : Int) - (xf : Int)) = (H : Int) - (xf : Int) by rw [IntKind.wrap_i64]; omega]
       exact decide_eq_false p4
      clear hq
      have u4 : IntKind.i64.wrap ((H : Int) - (xf : Int)) = (H : Int) - (xf : Int) := by rw [IntKind.wrap_i64]; omega
      by_cases hj0 : j = 0
      ·have p7 : decide ((0 : Int) < (j : Int)) = false := decide_eq_false (by omega)
       have p7' : decide (0 < j) = false := decide_eq_false (by omega)
       clear hj0
       go_quiet (fail)
       go_wp2_with fail
       go_meet
       exact ⟨rfl, _, rfl⟩
      ·obtain ⟨i, hi⟩ : ∃ i, j = i + 1 := ⟨j - 1, by omega⟩
       obtain ⟨pf, hpf, hcell⟩ := HPv.out i hi
       have q0 := hcell w8 HK8.out
       have p6 : ¬ (xf : Int) <= (pf : Int) := by omega
       have u5 : IntKind.i64.wrap ((j : Int) - 1) = (i : Int) := by rw [IntKind.wrap_i64]; omega
       have p7 : decide ((0 : Int) < (j : Int)) = true := decide_eq_true (by omega)
       have p7' : decide (0 < j) = true := decide_eq_true (by omega)
       have p8 : (i : Int) < (pl : Int) := by omega
       clear hcell hi hj0
       go_quiet (fail)
       go_wp2_with fail
       go_meet
       exact ⟨rfl, _, rfl⟩
     case rest =>
      obtain ⟨rfl, nq, rfl⟩ := hcut
      obtain ⟨w9, hw9⟩ : ∃ w9, w9 = w8.drewN nq := ⟨_, rfl⟩
      have k9 : Keep Aa w8 w9 := by rw [hw9]; exact Keep.Ag _
      have HHp := sE (Has22_at ps _ xf w9 (HN6.out.Ad (HK8.out.then' k9)) (by omega))
      have HB9 := sE (k9.at_ HB8.out (λ h => h))
      have HF9 := sE (HF8.out.keep k9 (λ h => h))
      have HR9 := sE (Ai HR8.out k9 (λ _ _ h => h))
      have HK9 := sE (HK8.out.then' k9)
      have hz9 := k9.size
      replace z0 := k9.cell z0 (λ h => h)
      replace z1 := k9.cell z1 (λ h => h)
      replace z2 := k9.cell z2 (λ h => h)
      rw [<- hw9]
      clear hw9 k9 c14' HB8 HF8 HR8 HK8 HPv
      go_wp2_with fail
      refine HHp.out.mono ?_
      rintro e wb ⟨rfl, kb⟩
      have hB10 := kb.at_ HB9.out (λ h => h)
      obtain ⟨t0, t1, t2⟩ := cells3 hB10
      have HB10 := sE hB10
      have HF10 := sE (HF9.out.keep kb (λ h => h))
      have HR10 := sE (Ai HR9.out kb (λ _ _ h => h))
      have HK10 := sE (HK9.out.then' kb)
      have hz10 := kb.size
      clear kb hB10 z0 z1 z2 HB9 HF9 HR9 HK9 HHp
      have hle := HSS.out.le
      have hfit := HSS.out.fit
      have hpos := HSS.out.pos
      simp only at hle hfit hpos
      cases ht : BF ps xf with
      | true =>
       have hpe := HSS.out.pin ht
       simp only at hpe
       have d0 : ((xt : Int) != (xf : Int)) = false := by rw [hpe]; simp
       clear hpe ht
       go_wp2_with fail
       go_loopw [22] (λ x22 wr => ∃ q : Nat, xt <= q /\ q <= xt + xz /\ x22 = .int .i64 (q : Nat) /\ Cg wr fb H (λ p => DI (L.take j) p || decide (xt <= p /\ p < q)) /\ Keep (λ k => k = fb) wb wr) (λ x22 _ => xt + xz - (intOf x22).toNat)
       case atStart =>
        refine ⟨xt, Nat.le_refl _, by omega, rfl, ?_, Keep.refl _ _⟩
        obtain ⟨cs', h1, h2, h3⟩ := HF10.out
        exact ⟨cs', h1, h2, λ p hp => by
         rw [h3 p hp]
         have : ¬ (xt <= p /\ p < xt) := by omega
         simp [this]⟩
       case round =>
        obtain ⟨q, hq1, hq2, rfl, hfq, hkq⟩ := hrel
        have HFq := sE hfq
        have HKq := sE hkq
        obtain ⟨s0, s1, s2⟩ := cells3 (hkq.at_ HB10.out (by omega))
        have u8 : IntKind.i64.wrap ((xt : Int) + (xz : Int)) = (xt : Int) + (xz : Int) := by rw [IntKind.wrap_i64]; omega
        clear hfq hkq t0 t1 t2
        by_cases hqe : q < xt + xz
        ·have d1 : (q : Int) < (xt : Int) + (xz : Int) := by omega
         have hqH : (q : Int) < (H : Int) := by omega
         have hbit := HFq.out.bit (j := q) (by omega)
         have hap := HSS.out.apart q hq1 hqe
         have hnq : ¬ (xt <= q /\ q < q) := by omega
         simp only [hap, hnq, decide_false, Bool.or_false] at hbit
         have hfr := HFq.out.free q
         have HSt : Seal (Cg (wr.setCell ⟨fb, q, none⟩ (.bool true)) fb H (λ p => DI (L.take j) p || decide (xt <= p /\ p < q + 1))) := ⟨HFq.out.store λ i hi => by
          by_cases e : i = q
          ·subst e
           have : xt <= i /\ i < i + 1 := by omega
           simp [this]
          ·have : (xt <= i /\ i < q + 1) ↔ (xt <= i /\ i < q) := by omega
           simp [this, e]⟩
         have HKs := sE (HKq.out.setCell (p := ⟨fb, q, none⟩) (λ _ => rfl) (.bool true))
         clear hap hnq
         go_wp2_with fail
         exact ⟨⟨q + 1, by omega, by omega, by go_num, HSt.out, HKs.out⟩, by simp only [intOf]; omega⟩
        ·have d1 : ¬ (q : Int) < (xt : Int) + (xz : Int) := by omega
         have HFe : Seal (Cg wr fb H (DI (L.take (j + 1)))) := ⟨by
          obtain ⟨cs', h1, h2, h3⟩ := HFq.out
          refine ⟨cs', h1, h2, λ p hp => ?_⟩
          rw [h3 p hp, HFs.out p]
          obtain rfl : q = xt + xz := by omega
          rfl⟩
         have HKe : Seal (Keep Aa w6 wr) := ⟨(HK10.out.Am _).trans HKq.out (λ _ _ h => h) |>.mono (λ k h1 h2 => by have h2' : k = fb := h2; have := HFb.out; omega)⟩
         have HRe : Seal (wr.ownsRow B 3 1 (.slice (some ⟨gn, 0, none⟩) (j + 1) capn) (j + 1) (AJ (X.take (j + 1)))) := ⟨by
          rw [HXs.out, AJ, List.map_append]
          exact Ai HR10.out HKq.out (λ b hb h => by have := (Ah HR10.out hb).1; omega)⟩
         have hBe : B <= wr.heap.size := by have := HKq.out.size; omega
         clear HFq HKq hqe hq1 hq2
         go_wp2_with fail
         exact ⟨⟨j + 1, last, by omega, by go_num, rfl, HLa.out.keep, HRe.out, HFe.out, hBe, HKe.out⟩, by simp only [intOf]; omega⟩
      | false =>
       have HPf : Seal (BF ps xf = false) := ⟨ht⟩
       have hlt := HSS.out.last last HLa.out ht
       simp only at hlt
       have d0 : ¬ (xt : Int) <= last := by omega
       have HHm := sE (Has22_at ms _ xf wb (HM6.out.Ad HK10.out) (by omega))
       rw [HSS.out.mark ht] at HHm
       clear ht hlt
       go_wp2_with fail
       refine HHm.out.mono ?_
       rintro e wc ⟨rfl, kc⟩
       have hB11 := kc.at_ HB10.out (λ h => h)
       replace t0 := kc.cell t0 (λ h => h)
       replace t1 := kc.cell t1 (λ h => h)
       replace t2 := kc.cell t2 (λ h => h)
       have HB11 := sE hB11
       have HF11 := sE (HF10.out.keep kc (λ h => h))
       have HR11 := sE (Ai HR10.out kc (λ _ _ h => h))
       have HK11 := sE (HK10.out.then' kc)
       have hz11 := kc.size
       clear kc hB11 HB10 HF10 HR10 HK10 HHm
       go_wp2_with fail
       go_loopw [22] (λ x22 wr => ∃ q : Nat, xt <= q /\ q <= xt + xz /\ x22 = .int .i64 (q : Nat) /\ Cg wr fb H (λ p => DI (L.take j) p || decide (xt <= p /\ p < q)) /\ Keep (λ k => k = fb) wc wr) (λ x22 _ => xt + xz - (intOf x22).toNat)
       case atStart =>
        refine ⟨xt, Nat.le_refl _, by omega, rfl, ?_, Keep.refl _ _⟩
        obtain ⟨cs', h1, h2, h3⟩ := HF11.out
        exact ⟨cs', h1, h2, λ p hp => by
         rw [h3 p hp]
         have : ¬ (xt <= p /\ p < xt) := by omega
         simp [this]⟩
       case round =>
        obtain ⟨q, hq1, hq2, rfl, hfq, hkq⟩ := hrel
        have HFq := sE hfq
        have HKq := sE hkq
        obtain ⟨s0, s1, s2⟩ := cells3 (hkq.at_ HB11.out (by omega))
        have u8 : IntKind.i64.wrap ((xt : Int) + (xz : Int)) = (xt : Int) + (xz : Int) := by rw [IntKind.wrap_i64]; omega
        clear hfq hkq t0 t1 t2
        by_cases hqe : q < xt + xz
        ·have d1 : (q : Int) < (xt : Int) + (xz : Int) := by omega
         have hqH : (q : Int) < (H : Int) := by omega
         have hbit := HFq.out.bit (j := q) (by omega)
         have hap := HSS.out.apart q hq1 hqe
         have hnq : ¬ (xt <= q /\ q < q) := by omega
         simp only [hap, hnq, decide_false, Bool.or_false] at hbit
         have hfr := HFq.out.free q
         have HSt : Seal (Cg (wr.setCell ⟨fb, q, none⟩ (.bool true)) fb H (λ p => DI (L.take j) p || decide (xt <= p /\ p < q + 1))) := ⟨HFq.out.store λ i hi => by
          by_cases e : i = q
          ·subst e
           have : xt <= i /\ i < i + 1 := by omega
           simp [this]
          ·have : (xt <= i /\ i < q + 1) ↔ (xt <= i /\ i < q) := by omega
           simp [this, e]⟩
         have HKs := sE (HKq.out.setCell (p := ⟨fb, q, none⟩) (λ _ => rfl) (.bool true))
         clear hap hnq
         go_wp2_with fail
         exact ⟨⟨q + 1, by omega, by omega, by go_num, HSt.out, HKs.out⟩, by simp only [intOf]; omega⟩
        ·have d1 : ¬ (q : Int) < (xt : Int) + (xz : Int) := by omega
         have HFe : Seal (Cg wr fb H (DI (L.take (j + 1)))) := ⟨by
          obtain ⟨cs', h1, h2, h3⟩ := HFq.out
          refine ⟨cs', h1, h2, λ p hp => ?_⟩
          rw [h3 p hp, HFs.out p]
          obtain rfl : q = xt + xz := by omega
          rfl⟩
         have HKe : Seal (Keep Aa w6 wr) := ⟨(HK11.out.Am _).trans HKq.out (λ _ _ h => h) |>.mono (λ k h1 h2 => by have h2' : k = fb := h2; have := HFb.out; omega)⟩
         have HRe : Seal (wr.ownsRow B 3 1 (.slice (some ⟨gn, 0, none⟩) (j + 1) capn) (j + 1) (AJ (X.take (j + 1)))) := ⟨by
          rw [HXs.out, AJ, List.map_append]
          exact Ai HR11.out HKq.out (λ b hb h => by have := (Ah HR11.out hb).1; omega)⟩
         have hBe : B <= wr.heap.size := by have := HKq.out.size; omega
         clear HFq HKq hqe hq1 hq2
         go_wp2_with fail
         exact ⟨⟨j + 1, (xt : Nat), by omega, by go_num, rfl, Ey.new HXj.out HPf.out, HRe.out, HFe.out, hBe, HKe.out⟩, by simp only [intOf]; omega⟩
    ·obtain rfl : j = pl := by omega
     have hjl' : ¬ (j : Int) < (j : Int) := by omega
     have HKw : Seal (Keep Aa w3 wr) := ⟨HK36.out.then' HK.out⟩
     obtain ⟨fa, fc, rfl⟩ := AA HO.out
     have hXn : Bf wr (.slice fa j fc) X := by
      have := HO.out
      have hlx := HLX.out
      rw [List.take_of_length_le (by omega)] at this
      exact Bf.A9 this
     have HXn := sE hXn
     have HCe := sE (HCl.out wr HKw.out)
     clear hXn HO HFl HLa hjl HSl HR6 HPL HTl HLm HF7 HBe
     go_wp2_with fail
     refine HCe.out.mono ?_
     rintro e wa ⟨cv, rfl, hco, ka⟩
     have HCr := sE (RowC.A9 hco)
     obtain ⟨cl, hcl⟩ : ∃ cl, cs.length = cl := ⟨_, rfl⟩
     have HCL : Seal (cs.length = cl) := ⟨hcl⟩
     have hcl2 : cl <= 32768 := by omega
     obtain ⟨cva, cvc, rfl⟩ : ∃ a c, cv = .slice a cl c := by
      obtain ⟨a, c, h, -⟩ := HCr.out
      exact ⟨a, c, by rw [h, hcl]⟩
     have Ka : Seal (Keep Aa w3 wa) := ⟨HKw.out.then' ka⟩
     have HHm : Seal (∀ (x : Nat) W', Keep Aa wa W' -> Calls Tryz.prog 17 #[.slice ma ms.length mc, .int .i64 (x : Nat)] W' λ e w' => e = .returned (.bool (BF ms x)) /\ Keep Aa W' w') := ⟨λ x W' kk => Has22_at ms _ x W' (HM6.out.Ad ((HK.out.then' ka).then' kk)) (by omega)⟩
     have HHp : Seal (∀ (x : Nat) W', Keep Aa wa W' -> Calls Tryz.prog 17 #[.slice ra ps.length rc, .int .i64 (x : Nat)] W' λ e w' => e = .returned (.bool (BF ps x)) /\ Keep Aa W' w') := ⟨λ x W' kk => Has22_at ps _ x W' (HN6.out.Ad ((HK.out.then' ka).then' kk)) (by omega)⟩
     have HHx : Seal (∀ (x : Nat) W', Keep Aa wa W' -> Calls Tryz.prog 17 #[.slice fa j fc, .int .i64 (x : Nat)] W' λ e w' => e = .returned (.bool (BF X x)) /\ Keep Aa W' w') := ⟨λ x W' kk => Has22_at X _ x W' (HXn.out.Ad (ka.then' kk)) (by have := HLX.out; omega)⟩
     have HAe : Seal (∀ W', Keep Aa wa W' -> _) := ⟨λ W' kk => HAlive.out W' ((HK3.out.then' Ka.out).then' kk)⟩
     clear hco hcl ka HCe HXn HM6 HN6 HK
     go_wp2_with fail
     go_loopw [24, 25, 26] (λ x24 _ _ wr => ∃ k : Nat, k <= cl /\ x24 = .int .i64 (k : Nat) /\ Keep Aa wa wr) (λ x24 _ _ _ => cl - (intOf x24).toNat)
     case atStart => exact ⟨0, Nat.zero_le _, rfl, Keep.refl _ _⟩
     case round =>
      obtain ⟨k, hk1, rfl, hk⟩ := hrel
      have HKk := sE hk
      clear hk
      by_cases hkl : k < cl
      ·have hkl' : (k : Int) < (cl : Int) := by omega
       obtain ⟨c, hc⟩ : ∃ c, cs[k]? = some c := ⟨_, List.getElem?_eq_getElem (by rw [HCL.out]; exact hkl)⟩
       have hcm := List.mem_of_getElem? hc
       have HXe := sE (HSu.out c hcm)
       obtain ⟨ya, yc, hv, hcx⟩ := HCr.out
       injection hv with q1 q2 q3
       subst q1
       obtain ⟨cb, rfl, hb0, y0, y1, y2, y3, y4⟩ := hcx k c hc
       replace y0 := HKk.out.cell y0 (λ h => h)
       replace y1 := HKk.out.cell y1 (λ h => h)
       replace y2 := HKk.out.cell y2 (λ h => h)
       replace y3 := HKk.out.cell y3 (λ h => h)
       replace y4 := HKk.out.cell y4 (λ h => h)
       obtain ⟨wm, hwm⟩ : ∃ wm, wm = wr.alloc (.cells #[.int .i64 (c.g : Nat), .int .u8 (c.tag : Nat), .int .i64 (c.ty : Nat), .int .i64 (c.ln : Nat), .int .i64 (c.sz : Nat)] 54) := ⟨_, rfl⟩
       have km : Keep Aa wr wm := by rw [hwm]; exact (Keep.refl _ wr).alloc _
       have bm : wm.heap[wr.heap.size]? = some (.cells #[.int .i64 (c.g : Nat), .int .u8 (c.tag : Nat), .int .i64 (c.ty : Nat), .int .i64 (c.ln : Nat), .int .i64 (c.sz : Nat)] 54 (0, 0)) := by rw [hwm]; exact World.alloc_heap_new wr _
       obtain ⟨s0, s1, s2, s3, s4⟩ := cells5g bm
       have HBm := sE bm
       have HKm : Seal (Keep Aa wa wm) := ⟨HKk.out.then' km⟩
       clear hc hcm hcx q2 q3 hb0 km bm s2 s3 s4
       go_upto_region 37 with fail
       rw [<- hwm]
       clear hwm y0 y1 y2 y3 y4
       by_cases htg : c.tag = 1
       ·have d1 : ((c.tag : Int) == 1) = true := by simp [htg]
        rw [show decide (c.tag = 1) = true from decide_eq_true htg, Bool.true_and] at HXe
        clear htg
        go_wp2_with fail
        refine (HHm.out c.g _ HKm.out).mono ?_
        rintro e wn ⟨rfl, kn⟩
        have s0' := kn.cell s0 (λ h => h)
        have HKn : Seal (Keep Aa wa wn) := ⟨HKm.out.then' kn⟩
        have hbn := kn.at_ HBm.out (λ h => h)
        have HBn := sE hbn
        clear kn hbn s0
        cases ha : BF ms c.g with
        | true =>
         rw [ha, Bool.true_or] at HXe
         clear ha
         go_wp2_with fail
         refine (HHx.out c.g _ HKn.out).mono ?_
         rintro e wz ⟨rfl, kz⟩
         rw [HXe.out]
         have HKz := sE (HKn.out.then' kz)
         clear kz
         go_wp2_with fail
         exact ⟨⟨k + 1, by omega, by go_num, HKz.out⟩, by simp only [intOf]; omega⟩
        | false =>
         rw [ha, Bool.false_or] at HXe
         clear ha
         go_wp2_with fail
         refine (HHp.out c.g _ HKn.out).mono ?_
         rintro e wo ⟨rfl, ko⟩
         have s0'' := ko.cell s0' (λ h => h)
         have HKo : Seal (Keep Aa wa wo) := ⟨HKn.out.then' ko⟩
         obtain ⟨b, hb⟩ : ∃ b, BF ps c.g = b := ⟨_, rfl⟩
         rw [hb] at HXe ⊢
         clear ko s0' hb
         go_wp2_with fail
         refine (HHx.out c.g _ HKo.out).mono ?_
         rintro e wz ⟨rfl, kz⟩
         rw [HXe.out]
         have HKz := sE (HKo.out.then' kz)
         clear kz
         cases b
         all_goals
          go_wp2_with fail
          exact ⟨⟨k + 1, by omega, by go_num, HKz.out⟩, by simp only [intOf]; omega⟩
       ·have d1 : ((c.tag : Int) == 1) = false := by rw [beq_eq_false_iff_ne]; omega
        rw [show decide (c.tag = 1) = false from decide_eq_false htg, Bool.false_and] at HXe
        clear htg
        go_wp2_with fail
        refine (HHx.out c.g _ HKm.out).mono ?_
        rintro e wz ⟨rfl, kz⟩
        rw [HXe.out]
        have HKz := sE (HKm.out.then' kz)
        clear kz
        go_wp2_with fail
        exact ⟨⟨k + 1, by omega, by go_num, HKz.out⟩, by simp only [intOf]; omega⟩
      ·have hkl' : ¬ (k : Int) < (cl : Int) := by omega
       have HAz := sE (HAe.out wr HKk.out)
       go_wp2_with fail
       refine HAz.out.mono ?_
       rintro e wz ⟨rfl, kz⟩
       go_wp2
       go_ret
       exact ⟨rfl, ((HK3.out.then' Ka.out).then' HKk.out).then' kz⟩

end Go.Proofs.YtlmdkfbibpkjgaaGreatDoor
