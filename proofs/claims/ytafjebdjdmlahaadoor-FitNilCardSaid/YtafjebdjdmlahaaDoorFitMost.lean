/-
  Most of package fit.
-/
import Derived.Test.YtafjebdjdmlahaaDoorFitFree
namespace Go.Proofs.YtafjebdjdmlahaaDoor
open Go.RowKit
set_option linter.unusedVariables false
attribute [local go_sem] Oper.semAt_some

/-- Where the longest run stands behind d granules of a gap from g to e: where the run at hand began, and the longest one. -/
def mostW (blk : Nat → Bool) (g e best : Nat) : Nat → Nat × Nat
  | 0 => (g, best)
  | d + 1 => if g + d = e ∨ blk (g + d) = true then (g + d + 1, max (mostW blk g e best d).2 (g + d - (mostW blk g e best d).1)) else mostW blk g e best d

/-- The longest run in gaps. -/
def mostOf (blk : Nat → Bool) (gs : List Cel) : Nat := gs.foldl (fun b c => (mostW blk c.g (c.g + c.sz) b (c.sz + 1)).2) 0

theorem mostOf_app (blk : Nat → Bool) (xs : List Cel) (x : Cel) : mostOf blk (xs ++ [x]) = (mostW blk x.g (x.g + x.sz) (mostOf blk xs) (x.sz + 1)).2 := by
  rw [mostOf, List.foldl_append]; rfl

/-- Behind some gaps. -/
def MostI (blk : Nat → Bool) (m : Nat) (wl : World) (pre : List Cel) (W' : World) : Prop :=
  W'.heap[m + 1]? = some (.cells #[.int .i64 (mostOf blk pre : Nat)] 3 (0, 0)) ∧ mostOf blk pre ≤ 32768 ∧ Keep (fun b => b = m + 1) wl W'

/-- Inside a gap. -/
def MostJ (blk : Nat → Bool) (m acc g sz : Nat) (w2 : World) (z y : Value) (wr : World) : Prop :=
  ∃ q a t, g ≤ q ∧ q ≤ g + sz + 1 ∧ g ≤ a ∧ a ≤ q ∧ t ≤ 32768 ∧ z = .int .i64 (a : Nat) ∧ y = .int .i64 (q : Nat) ∧ mostW blk g (g + sz) acc (q - g) = (a, t) ∧ wr.heap[m + 1]? = some (.cells #[.int .i64 (t : Nat)] 3 (0, 0)) ∧ Keep (fun b => b = m + 1) w2 wr

set_option maxRecDepth 20000 in
set_option maxHeartbeats 8000000 in
theorem FMost_at (P : Sp) (cs : List Cel) (bv : Value) (blk : Nat → Bool) (w : World) (h : SpaceHas w P cs) (hb : BlkAt w bv (P.n / 2) blk) :
    Calls Tryd.prog 22 #[.pointer (some ⟨P.s, 0, none⟩), bv] w (FreePost (mostOf blk (gapsOf cs)) w) := by
  have hlen : cs.length ≤ 32768 := by
    obtain ⟨_, _, h1, h2, _⟩ := h
    have := tiles_len h2.tl
    have := h1.ar.small
    omega
  have hfin : ∀ c ∈ cs, c.g + c.sz ≤ P.n / 2 ∧ P.n / 2 ≤ 32768 := by
    intro c hc
    obtain ⟨_, _, h1, h2, _⟩ := h
    have := h2.tl.mem hc
    have := h1.ar.small
    exact ⟨by omega, by omega⟩
  have HH : Seal _ := ⟨h⟩
  have HB0 : Seal _ := ⟨hb⟩
  have HFin : Seal _ := ⟨hfin⟩
  have lts := h.lt P.s (by simp [Sp.all])
  clear hfin
  obtain ⟨bn, hbn⟩ : ∃ bn, bv = .pointer bn := by
    rcases hb with ⟨h, _⟩ | ⟨b, _, _, _, _, _, _, h, _⟩
    · exact ⟨_, h⟩
    · exact ⟨_, h⟩
  subst hbn
  clear h hb
  obtain ⟨w5, hw5⟩ : ∃ w5, w5 = (w.alloc (.cells #[.pointer bn] 55)).alloc (.cells #[.int .i64 0] 3) := ⟨_, rfl⟩
  have k5 : Keep Nope w w5 := by rw [hw5]; exact ((Keep.refl _ w).alloc _).alloc _
  have g0 : w5.heap[w.heap.size]? = some (.cells #[.pointer bn] 55 (0, 0)) := by
    rw [hw5]; exact ((Keep.refl Nope _).alloc _).at_ (World.alloc_heap_new w _) (fun h => h)
  have g1 : w5.heap[w.heap.size + 1]? = some (.cells #[.int .i64 0] 3 (0, 0)) := by
    rw [hw5]; exact alloc_new' _ _ (by simp)
  have z5 : w5.heap.size = w.heap.size + 1 + 1 := by rw [hw5]; simp
  refine (callsIn_wide (n := 0)).1 ?_
  refine callsIn_of_wp_marks Tryd.func22 rfl trivial ?_
  simp only [Tryd.ntmps22, List.size_toArray, List.length_cons, List.length_nil, Nat.reduceAdd, Nat.reduceSub, Array.replicate_succ, Array.replicate_zero, List.push_toArray, List.append_toArray, List.nil_append, List.cons_append]
  have HCk : Seal _ := ⟨check_blk (HH.out.keepN k5) (HB0.out.keepN k5)⟩
  have HG : Seal _ := ⟨And.intro g0 g1⟩
  have c0 := cell_of_one g0
  have c1 := cell_of_one g1
  have HZ5 : Seal _ := ⟨z5⟩
  clear g0 g1 z5
  gi_wp2_with fail
  rw [← hw5]
  obtain ⟨m, hm⟩ : ∃ m, w.heap.size = m := ⟨_, rfl⟩
  rw [hm] at HG c0 c1 HZ5 ⊢
  have HM : Seal _ := ⟨hm⟩
  rw [hm] at lts
  clear hw5 hm
  refine ⟨trivial, rfl, ?_⟩
  refine (callsIn_wide.2 HCk.out).mono ?_
  rintro e w6 ⟨rfl, rfl⟩
  gi_wp2_with fail
  clear c0 c1
  refine ⟨trivial, rfl, ?_⟩
  refine (callsIn_wide.2 (free_fn P.s w6)).mono ?_
  rintro e wl ⟨rfl, hwl⟩
  have hzl : wl.heap.size = w6.heap.size + 1 := by rw [← hwl]; simp
  have kl : Keep Nope w6 wl := by rw [← hwl]; exact (Keep.refl _ w6).alloc _
  have gbx : wl.heap[w6.heap.size]? = some (.cells #[.pointer (some ⟨P.s, 0, none⟩)] 30 (0, 0)) := by rw [← hwl]; exact World.alloc_heap_new w6 _
  clear hwl
  rw [HZ5.out] at gbx hzl
  rw [HZ5.out]
  have KL : Keep Nope w wl := k5.then' kl
  have b0 := kl.at_ HG.out.1 (fun h => h)
  have b1 := kl.at_ HG.out.2 (fun h => h)
  have HB : Seal _ := ⟨And.intro b0 b1⟩
  have HKL : Seal _ := ⟨KL⟩
  have HSL : Seal _ := ⟨HH.out.keepN KL⟩
  have HBL : Seal (∀ w', Keep (fun b => b = m + 1) wl w' → HasC (.pointer bn) blk (P.n / 2) w') := ⟨fun w' hw' => has_blk (BlkAt.keepB (z := 0) HB0.out ((KL.of_not (fun b => b = m + 1)).trans hw' (fun b hb h => h)) (fun b hb h => by rw [HM.out] at hb; omega))⟩
  clear b0 b1 kl k5 KL HCk
  gi_wp2_with fail
  refine wpIn_range2 (n := 0) (gf := 67) (lb := #[.pointer (some ⟨m + 1 + 1, 0, none⟩)]) rfl (enters_of Tryd.func67 (by kernel_rfl) rfl)
    (free_iter P cs wl (m + 1 + 1) HSL.out gbx (R := fun k => k = m + 1) (X := fun k => k = m + 1) (fun k hk => by omega) hlen) (fun k hk => hk.elim) (fun k hk => by omega)
    (fun k hk => by omega) (fun k hk => hk) (fun _ => rfl)
    (fun pre W' => MostI blk m wl pre W') (fun c pre W' => False) ?hI ?hIx ?h0 ?hround ?hdone ?hstop
  case hI =>
    rintro pre A B ⟨a1, a0, a2⟩ hk
    exact ⟨hk.at_ a1 (fun h => by rcases h with h | h | h; exact h; omega; omega), a0, a2.trans hk (fun b hb h => by rcases h with h | h | h; exact h.elim; omega; omega)⟩
  case hIx => exact fun c pre A B h hk => h
  case h0 => exact ⟨HB.out.2, Nat.zero_le _, Keep.refl _ _⟩
  case hround =>
    rintro pre x rest W' hx ⟨hA, hac, hK⟩ hs
    have hxm : x ∈ cs := by
      have : x ∈ gapsOf cs := by rw [hx]; simp
      exact (List.mem_filter.1 this).1
    obtain ⟨f1, f2⟩ := HFin.out x hxm
    obtain ⟨acc, hacc⟩ : ∃ acc, mostOf blk pre = acc := ⟨_, rfl⟩
    rw [hacc] at hA hac
    have HAcc : Seal _ := ⟨hacc⟩
    unfold cellV
    gi_wp2_with fail
    refine ⟨(Keep.refl _ W').alloc _, ?_⟩
    intro W2 hc2 hf2 hk2 hs2 hr2
    have kW : Keep Nope W' (W'.alloc (.cells #[.int .i64 (x.g : Nat), .int .u8 (x.tag : Nat), .int .i64 (x.ty : Nat), .int .i64 (x.ln : Nat), .int .i64 (x.sz : Nat)] 45)) := (Keep.refl _ W').alloc _
    have bc := hk2.at_ (World.alloc_heap_new W' (.cells #[.int .i64 (x.g : Nat), .int .u8 (x.tag : Nat), .int .i64 (x.ty : Nat), .int .i64 (x.ln : Nat), .int .i64 (x.sz : Nat)] 45)) (by omega)
    have hzW := hK.size
    have N2 : Keep (fun b => b = m + 1) wl W2 := ((hK.trans kW (fun b hb h => h.elim)).trans hk2 (fun b hb h => by omega))
    have hA2 := hk2.at_ (kW.at_ hA (fun h => h)) (by omega)
    have n0 := cell_of_one (N2.at_ HB.out.1 (by omega))
    have d0 : W2.cell? ⟨W'.heap.size, 0, none⟩ = some (.int .i64 (x.g : Nat)) := by simp [World.cell?, bc]
    have d4 : W2.cell? ⟨W'.heap.size, 4, none⟩ = some (.int .i64 (x.sz : Nat)) := by simp [World.cell?, bc]
    have HN2 : Seal _ := ⟨N2⟩
    have HA2 : Seal _ := ⟨hA2⟩
    have HBc : Seal _ := ⟨bc⟩
    have hzz : W'.heap.size < W2.heap.size := lt_of_heap bc
    have HX : Seal _ := ⟨hx⟩
    clear hc2 hf2 hs2 kW bc hx N2 hK hk2 hA hA2 hacc
    gi_wp2_with fail
    gi_loopw [8, 9] (fun z y wr => MostJ blk m acc x.g x.sz W2 z y wr) (fun _ y wr => x.g + x.sz + 1 - (intOf y).toNat)
    case atStart => exact ⟨x.g, x.g, acc, Nat.le_refl _, by omega, Nat.le_refl _, Nat.le_refl _, hac, rfl, rfl, by rw [Nat.sub_self]; rfl, HA2.out, Keep.refl _ _⟩
    case round =>
      obtain ⟨q, a, t, hq1, hq2, ha1, ha2, ht2, rfl, rfl, hT, hA, hK⟩ := hrel
      have HT : Seal _ := ⟨hT⟩
      replace d0 := hK.cell d0 (by dsimp only; omega)
      replace d4 := hK.cell d4 (by dsimp only; omega)
      replace n0 := hK.cell n0 (by dsimp only; omega)
      have cA := cell_of_one hA
      have fA := free_of_one hA
      have HA : Seal _ := ⟨hA⟩
      clear hT hA
      by_cases hdl : q ≤ x.g + x.sz
      · have t1 : decide ((q : Int) ≤ (x.g : Int) + (x.sz : Int)) = true := decide_eq_true (by omega)
        have HS : Seal (mostW blk x.g (x.g + x.sz) acc (q + 1 - x.g) = if q = x.g + x.sz ∨ blk q = true then (q + 1, max t (q - a)) else (a, t)) := ⟨by
          rw [show q + 1 - x.g = (q - x.g) + 1 by omega, mostW, show x.g + (q - x.g) = q by omega, HT.out]⟩
        have HMx : Seal (max (t : Int) ((q : Int) - (a : Int)) = ((max t (q - a) : Nat) : Int)) := ⟨by omega⟩
        have hmx : max t (q - a) ≤ 32768 := by omega
        by_cases hqe : q = x.g + x.sz
        · have t2 : ((q : Int) == (x.g : Int) + (x.sz : Int)) = true := by simp; omega
          have HS' : Seal (mostW blk x.g (x.g + x.sz) acc (q + 1 - x.g) = (q + 1, max t (q - a))) := ⟨by rw [HS.out, if_pos (.inl hqe)]⟩
          clear hqe
          gi_wp2_with fail
          refine ⟨trivial, ?_⟩
          gi_wp2_with fail
          refine ⟨trivial, rfl, ?_⟩
          refine (callsIn_round (bigger_any (t : Nat) ((q : Int) - (a : Int)) _)).mono ?_
          rintro e w4 ⟨rfl, rfl⟩
          rw [HMx.out]
          gi_wp2_with fail
          exact ⟨⟨q + 1, q + 1, max t (q - a), by omega, by omega, by omega, Nat.le_refl _, hmx, by go_num, by go_num, HS'.out, one_setCell (u := .int .i64 ((max t (q - a) : Nat) : Int)) HA.out, hK.setCell (fun _ => rfl) _⟩, by simp only [intOf]; omega⟩
        · have t2 : ((q : Int) == (x.g : Int) + (x.sz : Int)) = false := by simp; omega
          have HC : Seal _ := ⟨HBL.out wr (HN2.out.trans hK (fun b hb h => h)) q (by omega)⟩
          gi_wp2_with fail
          refine ⟨trivial, rfl, ?_⟩
          refine (callsIn_round HC.out).mono ?_
          rintro e w3 ⟨rfl, k3⟩
          have hA3 := k3.at_ HA.out (fun h => h)
          have K3 : Keep (fun b => b = m + 1) W2 w3 := hK.trans k3 (fun b hb h => h.elim)
          replace cA := cell_of_one hA3
          replace fA := free_of_one hA3
          have HA3 : Seal _ := ⟨hA3⟩
          clear hA3 k3 d0 d4 n0
          cases hbk : blk q with
          | false =>
            have HS' : Seal (mostW blk x.g (x.g + x.sz) acc (q + 1 - x.g) = (a, t)) := ⟨by rw [HS.out, if_neg (by rw [hbk]; simp [hqe])]⟩
            clear hbk
            gi_wp2_with fail
            exact ⟨⟨q + 1, a, t, by omega, by omega, ha1, by omega, ht2, rfl, by go_num, HS'.out, HA3.out, K3⟩, by simp only [intOf]; omega⟩
          | true =>
            have HS' : Seal (mostW blk x.g (x.g + x.sz) acc (q + 1 - x.g) = (q + 1, max t (q - a))) := ⟨by rw [HS.out, if_pos (.inr hbk)]⟩
            clear hbk hqe
            gi_wp2_with fail
            refine ⟨trivial, rfl, ?_⟩
            refine (callsIn_round (bigger_any (t : Nat) ((q : Int) - (a : Int)) _)).mono ?_
            rintro e w4 ⟨rfl, rfl⟩
            rw [HMx.out]
            gi_wp2_with fail
            exact ⟨⟨q + 1, q + 1, max t (q - a), by omega, by omega, by omega, Nat.le_refl _, hmx, by go_num, by go_num, HS'.out, one_setCell (u := .int .i64 ((max t (q - a) : Nat) : Int)) HA3.out, K3.setCell (fun _ => rfl) _⟩, by simp only [intOf]; omega⟩
      · have t1 : decide ((q : Int) ≤ (x.g : Int) + (x.sz : Int)) = false := decide_eq_false (by omega)
        have hqq : q - x.g = x.sz + 1 := by omega
        have HQ : Seal _ := ⟨hqq⟩
        clear hqq
        gi_wp2_with fail
        have : mostOf blk (pre ++ [x]) = t := by
          rw [mostOf_app, HAcc.out, ← HQ.out, HT.out]
        exact ⟨hK, by rw [this]; exact HA.out, by rw [this]; exact ht2, HN2.out.trans hK (fun b hb h => h)⟩
  case hdone =>
    rintro W' ⟨hA, -, hK⟩ hs hD
    have cA := cell_of_one hA
    have fA := free_of_one hA
    have HA : Seal _ := ⟨hA⟩
    obtain ⟨T, hT⟩ : ∃ T, mostOf blk (gapsOf cs) = T := ⟨_, rfl⟩
    rw [hT] at cA HA
    have HT : Seal _ := ⟨hT⟩
    clear hA hT
    gi_wp2_with fail
    obtain ⟨w9, hw9⟩ : ∃ w9, w9 = W'.setCell ⟨m + 1, 0, none⟩ (.int .i64 (T : Nat)) := ⟨_, rfl⟩
    rw [← hw9]
    have kB : Keep (fun b => b = m + 1) W' w9 := by rw [hw9]; exact (Keep.refl (fun b => b = m + 1) W').setCell (fun _ => rfl) _
    have s1 : w9.heap[m + 1]? = some (.cells #[.int .i64 (T : Nat)] 3 (0, 0)) := by rw [hw9]; exact one_setCell HA.out
    clear hw9
    refine ⟨by simp, .inl ⟨_, _, rfl, run_takeDeferred (kB.at_ hD (by omega)), ?_⟩⟩
    have kE : Keep (fun b => b = wl.heap.size) w9 (w9.putObj wl.heap.size (.deferred none)) := (Keep.refl (fun b => b = wl.heap.size) w9).putObj (fun _ => rfl) _
    have e1 := cell_of_one (kE.at_ s1 (by omega))
    refine ⟨.tuple #[.int .i64 (T : Nat), .int .i64 0], by simp [results, Tryd.results22, go_sem, e1], ?_, ?_⟩
    · rw [HT.out]
    · exact ((HKL.out.trans hK (fun b hb h => by rw [HM.out] at hb; omega)).trans kB (fun b hb h => by rw [HM.out] at hb; omega)).trans kE (fun b hb h => by rw [HM.out] at hb; omega)
  case hstop => exact fun c pre W' hp h => h.elim

end Go.Proofs.YtafjebdjdmlahaaDoor
