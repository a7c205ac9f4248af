/-
  What package bits does with runs of bits, each by a walk.
-/
import Derived.Test.YtpjcgjbobljaeaaBitsAt
namespace Go.Proofs.Ytpjcgjbobljaeaa
open Go.RowKit
set_option linter.unusedVariables false
attribute [local go_sem] Oper.semAt_some

theorem in_nil (i n : Int) (w : World) :
    Calls Try.prog 49 #[.pointer none, .int .i64 i, .int .i64 n] w fun e w' => e = .returned (.int .i64 1) ∧ w = w' := by
  go_enter Try.func49, Try.ntmps49
  go_wp2
  go_ret
  exact ⟨rfl, rfl⟩

theorem in_yes (i n N : Int) (p : Nat) (w : World) (h : w.cell? ⟨p, 1, none⟩ = some (.int .i64 N)) (h1 : 0 ≤ i) (h2 : 0 ≤ n) (h3 : i ≤ N) (h4 : n ≤ N - i) (h5 : N ≤ 65536) :
    Calls Try.prog 49 #[.pointer (some ⟨p, 0, none⟩), .int .i64 i, .int .i64 n] w fun e w' => e = .returned (.int .i64 0) ∧ w = w' := by
  go_enter Try.func49, Try.ntmps49
  go_wp2
  go_ret
  exact ⟨rfl, rfl⟩

theorem in_no (i n N : Int) (p : Nat) (w : World) (h : w.cell? ⟨p, 1, none⟩ = some (.int .i64 N)) (hn : ¬ (0 ≤ i ∧ 0 ≤ n ∧ i ≤ N ∧ n ≤ N - i)) (h5 : N ≤ 65536) (h6 : 0 ≤ N) :
    Calls Try.prog 49 #[.pointer (some ⟨p, 0, none⟩), .int .i64 i, .int .i64 n] w fun e w' => e = .returned (.int .i64 2) ∧ w = w' := by
  by_cases h1 : 0 ≤ i
  · by_cases h2 : 0 ≤ n
    · by_cases h3 : i ≤ N
      · have h4 : N - i < n := by omega
        clear hn
        go_enter Try.func49, Try.ntmps49
        go_wp2
        go_ret
        exact ⟨rfl, rfl⟩
      · clear hn
        go_enter Try.func49, Try.ntmps49
        go_wp2
        go_ret
        exact ⟨rfl, rfl⟩
    · clear hn
      go_enter Try.func49, Try.ntmps49
      go_wp2
      go_ret
      exact ⟨rfl, rfl⟩
  · clear hn
    go_enter Try.func49, Try.ntmps49
    go_wp2
    go_ret
    exact ⟨rfl, rfl⟩

/-- The bits f with n more of them, from i on, made t. -/
def runSet (f : Nat → Bool) (i n : Nat) (t : Bool) : Nat → Bool := fun k => if i ≤ k ∧ k < i + n then t else f k

set_option maxHeartbeats 2000000 in
theorem SetRun_yes (i k n p q : Nat) (f : Nat → Bool) (w : World) (hb : BitsAt w p q f n) (hi : i + k ≤ n) :
    Calls Try.prog 16 #[.pointer (some ⟨p, 0, none⟩), .int .i64 (i : Nat), .int .i64 (k : Nat)] w fun e w' =>
      e = .returned (.int .i64 0) ∧ Keep (fun b => b = q) w w' ∧ BitsAt w' p q (runSet f i k true) n := by
  obtain ⟨ws, hw, hbits⟩ := hb
  obtain ⟨⟨cap, r0⟩, r1, r2, r3⟩ := hw.reads
  have lp := hw.lt_p
  have lq := hw.lt_q
  have hn := hw.small
  refine (callsIn_wide (n := 0)).1 ?_
  refine callsIn_of_wp_marks Try.func16 rfl trivial ?_
  simp only [Try.ntmps16, List.size_toArray, List.length_cons, List.length_nil, Nat.reduceAdd, Nat.reduceSub, Array.replicate_succ, Array.replicate_zero, List.push_toArray, List.append_toArray, List.nil_append, List.cons_append]
  gi_wp2_with fail
  refine ⟨trivial, rfl, ?_⟩
  refine (callsIn_wide.2 (in_yes _ _ n p _ (by rw [World.cell?_alloc_past _ _ _ lp]; exact r1) (by omega) (by omega) (by omega) (by omega) (by omega))).mono ?_
  rintro e w' ⟨rfl, rfl⟩
  gi_wp2_with fail
  refine ⟨trivial, rfl, ?_⟩
  refine (callsIn_wide.2 (pieces_any _ _ _)).mono ?_
  rintro e w' ⟨rfl, rfl⟩
  gi_wp2_with fail
  obtain ⟨wl, hwl⟩ : ∃ wl, wl = ((w.alloc (.cells #[.pointer (some ⟨p, 0, none⟩)] 24)).alloc (.cells #[.int .i64 (i : Nat)] 3)).alloc (.cells #[.int .i64 (k : Nat)] 3) := ⟨_, rfl⟩
  rw [← hwl]
  have hz : wl.heap.size = w.heap.size + 3 := by rw [hwl]; simp
  have kl : Keep Nope w wl := by rw [hwl]; exact (((Keep.refl _ w).alloc _).alloc _).alloc _
  have gb : wl.heap[w.heap.size]? = some (.cells #[.pointer (some ⟨p, 0, none⟩)] 24 (0, 0)) := by
    rw [hwl]; exact (((Keep.refl Nope _).alloc _).alloc _).at_ (World.alloc_heap_new w _) (fun h => h)
  have gi : wl.heap[w.heap.size + 1]? = some (.cells #[.int .i64 (i : Nat)] 3 (0, 0)) := by
    rw [hwl]; refine ((Keep.refl Nope _).alloc _).at_ ?_ (fun h => h); have := World.alloc_heap_new (w.alloc (.cells #[.pointer (some ⟨p, 0, none⟩)] 24)) (.cells #[.int .i64 (i : Nat)] 3); rwa [World.size_alloc] at this
  have gk : wl.heap[w.heap.size + 1 + 1]? = some (.cells #[.int .i64 (k : Nat)] 3 (0, 0)) := by
    rw [hwl]; have := World.alloc_heap_new ((w.alloc (.cells #[.pointer (some ⟨p, 0, none⟩)] 24)).alloc (.cells #[.int .i64 (i : Nat)] 3)) (.cells #[.int .i64 (k : Nat)] 3); rwa [World.size_alloc, World.size_alloc] at this
  clear hwl
  refine wpIn_range (n := 0) (gf := 65) (lb := #[.pointer (some ⟨w.heap.size + 1 + 1, 0, none⟩), .pointer (some ⟨w.heap.size + 1, 0, none⟩)]) rfl (enters_of Try.func65 (by kernel_rfl) rfl)
    (pieces_iter (w := wl) (i := i) (n := k) (by omega) _ _ gk gi (by omega) (R := fun b => b = q) (fun b hb => by omega)) (fun b hb => by omega) (fun b hb => by omega) (fun _ => rfl)
    (fun pre W => Keep (fun b => b = q) w W ∧ W.heap[w.heap.size]? = some (.cells #[.pointer (some ⟨p, 0, none⟩)] 24 (0, 0)) ∧ ∃ ws, WordsAt W p q ws n ∧ ∀ j, j < n → bitOf ws j = (inPcs pre j || f j))
    (fun _ _ _ => False) ?hI ?hIx ?h0 ?hround ?hdone ?hstop
  case hI =>
    rintro pre A B ⟨hK, hx, ws, hW, hB⟩ hk
    exact ⟨hK.trans hk (fun b hb h => by omega), hk.at_ hx (by omega), ws, hW.keep hk (by omega) (by omega), hB⟩
  case hIx => rintro c pre A B h _; exact h
  case h0 => exact ⟨kl.of_not _, gb, ws, hw.keep kl (fun h => h) (fun h => h), fun j hj => by rw [inPcs_nil, Bool.false_or]; exact hbits j hj⟩
  case hround =>
    rintro pre x rest W hx ⟨hK, hbx, ws, hW, hB⟩ hs
    have hm := pcs_mem (i := i) (n := k) (x := x) (by rw [hx]; simp)
    obtain ⟨xw, xb, xk⟩ := x
    dsimp only [pieceV] at hm ⊢
    gi_wp2_with fail
    refine ⟨(Keep.refl _ W).alloc _, ?_⟩
    intro W2 hc hf hk2 hs2 hr2
    have hl := hW.len
    have hxl : xw < ws.length := by rw [hl]; omega
    have lW := hW.lt_p
    have lW' := hW.lt_q
    obtain ⟨⟨cap, r0⟩, r1, r2, r3⟩ := hW.reads
    have r2 := r2 xw hxl
    have r3 := r3 xw
    have cb := cell_of_one hbx
    have lb := lt_of_heap hbx
    gi_wp2_with fail
    refine wpIn_region_quiet_tail 13 (by kernel_rfl) (by kernel_rfl) (by kernel_rfl) (fun _ _ h => h) ?_
    simp only [List.take_succ_cons, List.take_zero, List.drop_succ_cons, List.drop_zero]
    repeat (go_big_quiet_step (fail))
    refine wpQuiet_nil ?_
    intro _ hw'
    obtain ⟨nq, hw''⟩ := hw'
    subst hw''
    go_wp2
    have kW : Keep Nope W (W.alloc (.cells #[.int .i64 (xw : Nat), .int .i64 (xb : Nat), .int .u64 (pmk xb xk : Nat)] 86)) := (Keep.refl _ W).alloc _
    have kW2 := (kW.of_not (fun k => k = wl.heap.size + 1)).trans hk2 (fun _ _ h => h)
    have hW2 := (hW.keep kW2 (by omega) (by omega)).keep (Keep.of_drewN (S := Nope) nq) (fun h => h) (fun h => h)
    have ho := u64_or_nat (ws.getD xw 0) (pmk xb xk) (hW.fits xw) (pmask_lt (by omega))
    rw [← List.getD_eq_getElem?_getD, ho]
    have hfit : ws.getD xw 0 ||| pmk xb xk < 18446744073709551616 := by
      have := Nat.or_lt_two_pow (n := 64) (x := ws.getD xw 0) (y := pmk xb xk) (by rw [Wd.two64]; exact hW.fits xw) (by rw [Wd.two64]; exact pmask_lt (by omega))
      rwa [Wd.two64] at this
    have kE : Keep (fun b => b = q) W2 ((W2.drewN nq).setCell ⟨q, xw, none⟩ (.int .u64 (ws.getD xw 0 ||| pmk xb xk : Nat))) := ((Keep.refl (fun b => b = q) W2).drewN nq).setCell (fun _ => rfl) _
    refine ⟨kE, (hK.trans kW2 (fun b hb h => by omega)).trans kE (fun _ _ h => h), kE.at_ (kW2.at_ hbx (by omega)) (by omega), _, hW2.store hxl hfit, fun j hj => ?_⟩
    rw [bitOf_set hxl, inPcs_snoc, Nat.testBit_or, testBit_pmask]
    have hb := hB j hj
    unfold bitOf at hb ⊢
    by_cases e : j / 64 = xw
    · subst e
      rw [if_pos rfl, hb]
      simp [Bool.or_comm, Bool.or_left_comm, Bool.or_assoc]
    · rw [if_neg e, hb]
      have : decide (xw = j / 64 ∧ xb ≤ j % 64 ∧ j % 64 < xb + xk) = false := by simp; omega
      rw [this, Bool.or_false]
  case hdone =>
    rintro W ⟨hK, hbx, ws, hW, hB⟩ hs hD
    gi_wp2_with fail
    refine ⟨by simp, .inl ⟨_, _, rfl, run_takeDeferred hD, ?_⟩⟩
    have kE : Keep (fun b => b = wl.heap.size) W (W.putObj wl.heap.size (.deferred none)) := (Keep.refl (fun b => b = wl.heap.size) W).putObj (fun _ => rfl) _
    refine ⟨_, results_tmp rfl _ _ _, rfl, hK.trans kE (fun b hb h => by omega), ws, hW.keep kE (by omega) (by omega), fun j hj => ?_⟩
    rw [hB j hj, inPcs_pcs, runSet]
    by_cases e : i ≤ j ∧ j < i + k
    · simp [e]
    · simp [e]
  case hstop =>
    intro c pre W _ h
    exact h.elim

-- GENERATED BELOW by tools/bitsruns.py off SetRun

set_option maxHeartbeats 2000000 in
theorem ClearRun_yes (i k n p q : Nat) (f : Nat → Bool) (w : World) (hb : BitsAt w p q f n) (hi : i + k ≤ n) :
    Calls Try.prog 17 #[.pointer (some ⟨p, 0, none⟩), .int .i64 (i : Nat), .int .i64 (k : Nat)] w fun e w' =>
      e = .returned (.int .i64 0) ∧ Keep (fun b => b = q) w w' ∧ BitsAt w' p q (runSet f i k false) n := by
  obtain ⟨ws, hw, hbits⟩ := hb
  obtain ⟨⟨cap, r0⟩, r1, r2, r3⟩ := hw.reads
  have lp := hw.lt_p
  have lq := hw.lt_q
  have hn := hw.small
  refine (callsIn_wide (n := 0)).1 ?_
  refine callsIn_of_wp_marks Try.func17 rfl trivial ?_
  simp only [Try.ntmps17, List.size_toArray, List.length_cons, List.length_nil, Nat.reduceAdd, Nat.reduceSub, Array.replicate_succ, Array.replicate_zero, List.push_toArray, List.append_toArray, List.nil_append, List.cons_append]
  gi_wp2_with fail
  refine ⟨trivial, rfl, ?_⟩
  refine (callsIn_wide.2 (in_yes _ _ n p _ (by rw [World.cell?_alloc_past _ _ _ lp]; exact r1) (by omega) (by omega) (by omega) (by omega) (by omega))).mono ?_
  rintro e w' ⟨rfl, rfl⟩
  gi_wp2_with fail
  refine ⟨trivial, rfl, ?_⟩
  refine (callsIn_wide.2 (pieces_any _ _ _)).mono ?_
  rintro e w' ⟨rfl, rfl⟩
  gi_wp2_with fail
  obtain ⟨wl, hwl⟩ : ∃ wl, wl = ((w.alloc (.cells #[.pointer (some ⟨p, 0, none⟩)] 24)).alloc (.cells #[.int .i64 (i : Nat)] 3)).alloc (.cells #[.int .i64 (k : Nat)] 3) := ⟨_, rfl⟩
  rw [← hwl]
  have hz : wl.heap.size = w.heap.size + 3 := by rw [hwl]; simp
  have kl : Keep Nope w wl := by rw [hwl]; exact (((Keep.refl _ w).alloc _).alloc _).alloc _
  have gb : wl.heap[w.heap.size]? = some (.cells #[.pointer (some ⟨p, 0, none⟩)] 24 (0, 0)) := by
    rw [hwl]; exact (((Keep.refl Nope _).alloc _).alloc _).at_ (World.alloc_heap_new w _) (fun h => h)
  have gi : wl.heap[w.heap.size + 1]? = some (.cells #[.int .i64 (i : Nat)] 3 (0, 0)) := by
    rw [hwl]; refine ((Keep.refl Nope _).alloc _).at_ ?_ (fun h => h); have := World.alloc_heap_new (w.alloc (.cells #[.pointer (some ⟨p, 0, none⟩)] 24)) (.cells #[.int .i64 (i : Nat)] 3); rwa [World.size_alloc] at this
  have gk : wl.heap[w.heap.size + 1 + 1]? = some (.cells #[.int .i64 (k : Nat)] 3 (0, 0)) := by
    rw [hwl]; have := World.alloc_heap_new ((w.alloc (.cells #[.pointer (some ⟨p, 0, none⟩)] 24)).alloc (.cells #[.int .i64 (i : Nat)] 3)) (.cells #[.int .i64 (k : Nat)] 3); rwa [World.size_alloc, World.size_alloc] at this
  clear hwl
  refine wpIn_range (n := 0) (gf := 65) (lb := #[.pointer (some ⟨w.heap.size + 1 + 1, 0, none⟩), .pointer (some ⟨w.heap.size + 1, 0, none⟩)]) rfl (enters_of Try.func65 (by kernel_rfl) rfl)
    (pieces_iter (w := wl) (i := i) (n := k) (by omega) _ _ gk gi (by omega) (R := fun b => b = q) (fun b hb => by omega)) (fun b hb => by omega) (fun b hb => by omega) (fun _ => rfl)
    (fun pre W => Keep (fun b => b = q) w W ∧ W.heap[w.heap.size]? = some (.cells #[.pointer (some ⟨p, 0, none⟩)] 24 (0, 0)) ∧ ∃ ws, WordsAt W p q ws n ∧ ∀ j, j < n → bitOf ws j = (!inPcs pre j && f j))
    (fun _ _ _ => False) ?hI ?hIx ?h0 ?hround ?hdone ?hstop
  case hI =>
    rintro pre A B ⟨hK, hx, ws, hW, hB⟩ hk
    exact ⟨hK.trans hk (fun b hb h => by omega), hk.at_ hx (by omega), ws, hW.keep hk (by omega) (by omega), hB⟩
  case hIx => rintro c pre A B h _; exact h
  case h0 => exact ⟨kl.of_not _, gb, ws, hw.keep kl (fun h => h) (fun h => h), fun j hj => by rw [inPcs_nil, Bool.not_false, Bool.true_and]; exact hbits j hj⟩
  case hround =>
    rintro pre x rest W hx ⟨hK, hbx, ws, hW, hB⟩ hs
    have hm := pcs_mem (i := i) (n := k) (x := x) (by rw [hx]; simp)
    obtain ⟨xw, xb, xk⟩ := x
    dsimp only [pieceV] at hm ⊢
    gi_wp2_with fail
    refine ⟨(Keep.refl _ W).alloc _, ?_⟩
    intro W2 hc hf hk2 hs2 hr2
    have hl := hW.len
    have hxl : xw < ws.length := by rw [hl]; omega
    have lW := hW.lt_p
    have lW' := hW.lt_q
    obtain ⟨⟨cap, r0⟩, r1, r2, r3⟩ := hW.reads
    have r2 := r2 xw hxl
    have r3 := r3 xw
    have cb := cell_of_one hbx
    have lb := lt_of_heap hbx
    gi_wp2_with fail
    refine wpIn_region_quiet_tail 12 (by kernel_rfl) (by kernel_rfl) (by kernel_rfl) (fun _ _ h => h) ?_
    simp only [List.take_succ_cons, List.take_zero, List.drop_succ_cons, List.drop_zero]
    repeat (go_big_quiet_step (fail))
    refine wpQuiet_nil ?_
    intro _ hw'
    obtain ⟨nq, hw''⟩ := hw'
    subst hw''
    go_wp2
    have kW : Keep Nope W (W.alloc (.cells #[.int .i64 (xw : Nat), .int .i64 (xb : Nat), .int .u64 (pmk xb xk : Nat)] 86)) := (Keep.refl _ W).alloc _
    have kW2 := (kW.of_not (fun k => k = wl.heap.size + 1)).trans hk2 (fun _ _ h => h)
    have hW2 := (hW.keep kW2 (by omega) (by omega)).keep (Keep.of_drewN (S := Nope) nq) (fun h => h) (fun h => h)
    have ho := u64_andNot_nat (ws.getD xw 0) (pmk xb xk) (hW.fits xw) (pmask_lt (by omega))
    rw [← List.getD_eq_getElem?_getD, ho]
    have hfit : ws.getD xw 0 &&& (18446744073709551615 - pmk xb xk) < 18446744073709551616 := Nat.lt_of_le_of_lt Nat.and_le_left (hW.fits xw)
    have hpm : pmk xb xk < 2 ^ 64 := by rw [Wd.two64]; exact pmask_lt (by omega)
    have kE : Keep (fun b => b = q) W2 ((W2.drewN nq).setCell ⟨q, xw, none⟩ (.int .u64 (ws.getD xw 0 &&& (18446744073709551615 - pmk xb xk) : Nat))) := ((Keep.refl (fun b => b = q) W2).drewN nq).setCell (fun _ => rfl) _
    refine ⟨kE, (hK.trans kW2 (fun b hb h => by omega)).trans kE (fun _ _ h => h), kE.at_ (kW2.at_ hbx (by omega)) (by omega), _, hW2.store hxl hfit, fun j hj => ?_⟩
    rw [bitOf_set hxl, inPcs_snoc, Nat.testBit_and, Wd.tb_not hpm, testBit_pmask]
    have hb := hB j hj
    unfold bitOf at hb ⊢
    have h64 : decide (j % 64 < 64) = true := by simp; omega
    by_cases e : j / 64 = xw
    · subst e
      rw [if_pos rfl, hb, h64]
      cases inPcs pre j <;> cases f j <;> simp
    · rw [if_neg e, hb]
      have : decide (xw = j / 64 ∧ xb ≤ j % 64 ∧ j % 64 < xb + xk) = false := by simp; omega
      rw [this, Bool.or_false]
  case hdone =>
    rintro W ⟨hK, hbx, ws, hW, hB⟩ hs hD
    gi_wp2_with fail
    refine ⟨by simp, .inl ⟨_, _, rfl, run_takeDeferred hD, ?_⟩⟩
    have kE : Keep (fun b => b = wl.heap.size) W (W.putObj wl.heap.size (.deferred none)) := (Keep.refl (fun b => b = wl.heap.size) W).putObj (fun _ => rfl) _
    refine ⟨_, results_tmp rfl _ _ _, rfl, hK.trans kE (fun b hb h => by omega), ws, hW.keep kE (by omega) (by omega), fun j hj => ?_⟩
    rw [hB j hj, inPcs_pcs, runSet]
    by_cases e : i ≤ j ∧ j < i + k
    · simp [e]
    · simp [e]
  case hstop =>
    intro c pre W _ h
    exact h.elim

theorem SetRun_nil (i k : Int) (w : World) : Calls Try.prog 16 #[.pointer none, .int .i64 i, .int .i64 k] w fun e w' => e = .returned (.int .i64 1) ∧ Keep Nope w w' := by
  refine (callsIn_wide (n := 0)).1 ?_
  refine callsIn_of_wp_marks Try.func16 rfl trivial ?_
  simp only [Try.ntmps16, List.size_toArray, List.length_cons, List.length_nil, Nat.reduceAdd, Nat.reduceSub, Array.replicate_succ, Array.replicate_zero, List.push_toArray, List.append_toArray, List.nil_append, List.cons_append]
  gi_wp2_with fail
  refine ⟨trivial, rfl, ?_⟩
  refine (callsIn_wide.2 (in_nil _ _ _)).mono ?_
  rintro e w' ⟨rfl, rfl⟩
  gi_wp2_with fail
  exact ⟨_, results_tmp rfl _ _ _, rfl, (Keep.refl _ w).alloc _⟩

theorem SetRun_no (i k : Int) (n p q : Nat) (f : Nat → Bool) (w : World) (hb : BitsAt w p q f n) (hn : ¬ (0 ≤ i ∧ 0 ≤ k ∧ i ≤ n ∧ k ≤ n - i)) :
    Calls Try.prog 16 #[.pointer (some ⟨p, 0, none⟩), .int .i64 i, .int .i64 k] w fun e w' => e = .returned (.int .i64 2) ∧ Keep Nope w w' := by
  obtain ⟨ws, hw, hbits⟩ := hb
  obtain ⟨⟨cap, r0⟩, r1, r2, r3⟩ := hw.reads
  have lp := hw.lt_p
  have hs := hw.small
  have HN : Seal _ := ⟨hn⟩
  clear hn
  refine (callsIn_wide (n := 0)).1 ?_
  refine callsIn_of_wp_marks Try.func16 rfl trivial ?_
  simp only [Try.ntmps16, List.size_toArray, List.length_cons, List.length_nil, Nat.reduceAdd, Nat.reduceSub, Array.replicate_succ, Array.replicate_zero, List.push_toArray, List.append_toArray, List.nil_append, List.cons_append]
  gi_wp2_with fail
  refine ⟨trivial, rfl, ?_⟩
  refine (callsIn_wide.2 (in_no _ _ n p _ (by rw [World.cell?_alloc_past _ _ _ lp]; exact r1) HN.out (by omega) (by omega))).mono ?_
  rintro e w' ⟨rfl, rfl⟩
  gi_wp2_with fail
  exact ⟨_, results_tmp rfl _ _ _, rfl, (Keep.refl _ w).alloc _⟩

theorem ClearRun_nil (i k : Int) (w : World) : Calls Try.prog 17 #[.pointer none, .int .i64 i, .int .i64 k] w fun e w' => e = .returned (.int .i64 1) ∧ Keep Nope w w' := by
  refine (callsIn_wide (n := 0)).1 ?_
  refine callsIn_of_wp_marks Try.func17 rfl trivial ?_
  simp only [Try.ntmps17, List.size_toArray, List.length_cons, List.length_nil, Nat.reduceAdd, Nat.reduceSub, Array.replicate_succ, Array.replicate_zero, List.push_toArray, List.append_toArray, List.nil_append, List.cons_append]
  gi_wp2_with fail
  refine ⟨trivial, rfl, ?_⟩
  refine (callsIn_wide.2 (in_nil _ _ _)).mono ?_
  rintro e w' ⟨rfl, rfl⟩
  gi_wp2_with fail
  exact ⟨_, results_tmp rfl _ _ _, rfl, (Keep.refl _ w).alloc _⟩

theorem ClearRun_no (i k : Int) (n p q : Nat) (f : Nat → Bool) (w : World) (hb : BitsAt w p q f n) (hn : ¬ (0 ≤ i ∧ 0 ≤ k ∧ i ≤ n ∧ k ≤ n - i)) :
    Calls Try.prog 17 #[.pointer (some ⟨p, 0, none⟩), .int .i64 i, .int .i64 k] w fun e w' => e = .returned (.int .i64 2) ∧ Keep Nope w w' := by
  obtain ⟨ws, hw, hbits⟩ := hb
  obtain ⟨⟨cap, r0⟩, r1, r2, r3⟩ := hw.reads
  have lp := hw.lt_p
  have hs := hw.small
  have HN : Seal _ := ⟨hn⟩
  clear hn
  refine (callsIn_wide (n := 0)).1 ?_
  refine callsIn_of_wp_marks Try.func17 rfl trivial ?_
  simp only [Try.ntmps17, List.size_toArray, List.length_cons, List.length_nil, Nat.reduceAdd, Nat.reduceSub, Array.replicate_succ, Array.replicate_zero, List.push_toArray, List.append_toArray, List.nil_append, List.cons_append]
  gi_wp2_with fail
  refine ⟨trivial, rfl, ?_⟩
  refine (callsIn_wide.2 (in_no _ _ n p _ (by rw [World.cell?_alloc_past _ _ _ lp]; exact r1) HN.out (by omega) (by omega))).mono ?_
  rintro e w' ⟨rfl, rfl⟩
  gi_wp2_with fail
  exact ⟨_, results_tmp rfl _ _ _, rfl, (Keep.refl _ w).alloc _⟩

theorem Set_nil (i : Int) (w : World) : Calls Try.prog 28 #[.pointer none, .int .i64 i] w fun e w' => e = .returned (.int .i64 1) ∧ Keep Nope w w' := by
  go_enter Try.func28, Try.ntmps28
  go_wp2_with fail
  refine (SetRun_nil _ _ _).mono ?_
  rintro e w' ⟨rfl, hk⟩
  go_wp2_with fail
  go_ret
  exact ⟨rfl, hk⟩

theorem Set_no (i : Int) (n p q : Nat) (f : Nat → Bool) (w : World) (hb : BitsAt w p q f n) (hn : ¬ (0 ≤ i ∧ i < n)) :
    Calls Try.prog 28 #[.pointer (some ⟨p, 0, none⟩), .int .i64 i] w fun e w' => e = .returned (.int .i64 2) ∧ Keep Nope w w' := by
  have HN : Seal _ := ⟨hn⟩
  clear hn
  go_enter Try.func28, Try.ntmps28
  go_wp2_with fail
  refine (SetRun_no _ _ n p q f _ hb (by have := HN.out; omega)).mono ?_
  rintro e w' ⟨rfl, hk⟩
  go_wp2_with fail
  go_ret
  exact ⟨rfl, hk⟩

theorem Set_yes (i n p q : Nat) (f : Nat → Bool) (w : World) (hb : BitsAt w p q f n) (hi : i < n) :
    Calls Try.prog 28 #[.pointer (some ⟨p, 0, none⟩), .int .i64 (i : Nat)] w fun e w' => e = .returned (.int .i64 0) ∧ Keep (fun b => b = q) w w' ∧ BitsAt w' p q (runSet f i 1 true) n := by
  go_enter Try.func28, Try.ntmps28
  go_wp2_with fail
  refine (SetRun_yes i 1 n p q f _ hb (by omega)).mono ?_
  rintro e w' ⟨rfl, hk, hb'⟩
  go_wp2_with fail
  go_ret
  exact ⟨rfl, hk, hb'⟩

theorem Clear_nil (i : Int) (w : World) : Calls Try.prog 29 #[.pointer none, .int .i64 i] w fun e w' => e = .returned (.int .i64 1) ∧ Keep Nope w w' := by
  go_enter Try.func29, Try.ntmps29
  go_wp2_with fail
  refine (ClearRun_nil _ _ _).mono ?_
  rintro e w' ⟨rfl, hk⟩
  go_wp2_with fail
  go_ret
  exact ⟨rfl, hk⟩

theorem Clear_no (i : Int) (n p q : Nat) (f : Nat → Bool) (w : World) (hb : BitsAt w p q f n) (hn : ¬ (0 ≤ i ∧ i < n)) :
    Calls Try.prog 29 #[.pointer (some ⟨p, 0, none⟩), .int .i64 i] w fun e w' => e = .returned (.int .i64 2) ∧ Keep Nope w w' := by
  have HN : Seal _ := ⟨hn⟩
  clear hn
  go_enter Try.func29, Try.ntmps29
  go_wp2_with fail
  refine (ClearRun_no _ _ n p q f _ hb (by have := HN.out; omega)).mono ?_
  rintro e w' ⟨rfl, hk⟩
  go_wp2_with fail
  go_ret
  exact ⟨rfl, hk⟩

theorem Clear_yes (i n p q : Nat) (f : Nat → Bool) (w : World) (hb : BitsAt w p q f n) (hi : i < n) :
    Calls Try.prog 29 #[.pointer (some ⟨p, 0, none⟩), .int .i64 (i : Nat)] w fun e w' => e = .returned (.int .i64 0) ∧ Keep (fun b => b = q) w w' ∧ BitsAt w' p q (runSet f i 1 false) n := by
  go_enter Try.func29, Try.ntmps29
  go_wp2_with fail
  refine (ClearRun_yes i 1 n p q f _ hb (by omega)).mono ?_
  rintro e w' ⟨rfl, hk, hb'⟩
  go_wp2_with fail
  go_ret
  exact ⟨rfl, hk, hb'⟩

theorem Len_nil (w : World) : Calls Try.prog 24 #[.pointer none] w fun e w' => e = .returned (.int .i64 0) ∧ w = w' := by
  go_enter Try.func24, Try.ntmps24
  go_wp2
  go_ret
  exact ⟨rfl, rfl⟩

theorem Len_at (n p q : Nat) (f : Nat → Bool) (w : World) (hb : BitsAt w p q f n) : Calls Try.prog 24 #[.pointer (some ⟨p, 0, none⟩)] w fun e w' => e = .returned (.int .i64 (n : Nat)) ∧ w = w' := by
  obtain ⟨ws, hw, hbits⟩ := hb
  obtain ⟨⟨cap, r0⟩, r1, r2, r3⟩ := hw.reads
  go_enter Try.func24, Try.ntmps24
  go_wp2
  go_ret
  exact ⟨rfl, rfl⟩

end Go.Proofs.Ytpjcgjbobljaeaa
