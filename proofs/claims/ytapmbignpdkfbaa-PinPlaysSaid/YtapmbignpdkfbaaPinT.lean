/-
  pin.Times: the sum over a table.
-/
import Derived.Test.YtapmbignpdkfbaaPinG
namespace Go.Proofs.Ytapmbignpdkfbaa
open Go.RowKit Go.Maps
set_option linter.unusedVariables false
attribute [local go_sem] Oper.semAt_some

/-- Where Times' loop stands. -/
def SumI (c : Nat → Nat) (B : Nat) (wl : World) (pre : List Nat) (S : Nat → Prop) (W' : World) : Prop :=
  W'.heap[B]? = some (.cells #[.int .i64 ((pre.map c).sum : Nat)] 3 (0, 0)) ∧ (S = fun k => k = B) ∧ Keep (fun k => k = B) wl W'

theorem sum_prefix {c : Nat → Nat} {xs ys : List Nat} (h : xs <+: ys) : (xs.map c).sum ≤ (ys.map c).sum := by
  obtain ⟨zs, rfl⟩ := h
  rw [List.map_append, List.sum_append]
  omega

set_option maxRecDepth 20000 in
set_option maxHeartbeats 4000000 in
theorem Times_at {w : World} {p b n : Nat} {c : Nat → Nat} {K0 : List Nat} (hP : PinAt w p b n c) (hK : KeyF c K0) (hKr : K0.Pairwise (· < ·)) (hKl : K0.length ≤ 1099511627776) (hs : (K0.map c).sum < 4611686018427387904) :
    Calls Try.prog 15 #[.pointer (some ⟨p, 0, none⟩)] w fun e w' => e = .returned (.int .i64 ((K0.map c).sum : Nat)) ∧ Keep Nope w w' := by
  obtain ⟨T, hT⟩ : ∃ T, (K0.map c).sum = T := ⟨_, rfl⟩
  have HT : Seal _ := ⟨hT⟩
  rw [hT] at hs ⊢
  clear hT
  have hl := hP.lt
  obtain ⟨w1, hw1⟩ : ∃ w1, w1 = (w.alloc (.cells #[.pointer (some ⟨p, 0, none⟩)] 25)).alloc (.cells #[.int .i64 0] 3) := ⟨_, rfl⟩
  have k1 : Keep Nope w w1 := by rw [hw1]; exact ((Keep.refl _ w).alloc _).alloc _
  have z1 : w1.heap.size = w.heap.size + 2 := by rw [hw1]; simp
  have bA : w1.heap[w.heap.size]? = some (.cells #[.pointer (some ⟨p, 0, none⟩)] 25 (0, 0)) := by rw [hw1]; exact ((Keep.refl Nope _).alloc _).at_ (World.alloc_heap_new w _) (fun h => h)
  have bB : w1.heap[w.heap.size + 1]? = some (.cells #[.int .i64 0] 3 (0, 0)) := by
    rw [hw1]
    have := World.alloc_heap_new (w.alloc (.cells #[.pointer (some ⟨p, 0, none⟩)] 25)) (.cells #[.int .i64 0] 3)
    simpa using this
  have cA := cell_of_one bA
  obtain ⟨w2, hw2⟩ : ∃ w2, w2 = w1.alloc (.cells #[.pointer (some ⟨p, 0, none⟩)] 25) := ⟨_, rfl⟩
  have k2 : Keep Nope w1 w2 := by rw [hw2]; exact (Keep.refl _ w1).alloc _
  have z2 : w2.heap.size = w1.heap.size + 1 := by rw [hw2]; simp
  have bC : w2.heap[w1.heap.size]? = some (.cells #[.pointer (some ⟨p, 0, none⟩)] 25 (0, 0)) := by rw [hw2]; exact World.alloc_heap_new w1 _
  have HIt : Seal _ := ⟨all_iter w2 w1.heap.size p b n c K0 bC ((hP.keep k1 (fun h => h) (fun h => h)).keep k2 (fun h => h) (fun h => h)) hK hKr hKl (R := fun i => i = w.heap.size + 1) (fun i hi => by subst hi; omega)⟩
  have HP2 : Seal (PinAt w2 p b n c) := ⟨(hP.keep k1 (fun h => h) (fun h => h)).keep k2 (fun h => h) (fun h => h)⟩
  have HK2 : Seal (Keep Nope w w2) := ⟨k1.thenU k2⟩
  have HA2 : Seal _ := ⟨k2.at_ bA (fun h => h)⟩
  have HB2 : Seal _ := ⟨k2.at_ bB (fun h => h)⟩
  have HKF : Seal _ := ⟨hK⟩
  clear hP hK hKr bA bB bC k1 k2
  refine (callsIn_wide (n := 0)).1 ?_
  refine callsIn_of_wp_marks Try.func15 rfl trivial ?_
  simp only [Try.ntmps15, List.size_toArray, List.length_cons, List.length_nil, Nat.reduceAdd, Nat.reduceSub, Array.replicate_succ, Array.replicate_zero, List.push_toArray, List.append_toArray, List.nil_append, List.cons_append]
  have HW1 : Seal _ := ⟨hw1⟩
  have HW2 : Seal _ := ⟨hw2⟩
  have HZ : Seal (w1.heap.size = w.heap.size + 2 ∧ w2.heap.size = w.heap.size + 3) := ⟨by omega⟩
  clear hw1 hw2 z1 z2
  gi_wp2_with fail
  refine ⟨trivial, rfl, ?_⟩
  rw [← HW1.out]
  refine (callsIn_wide.2 (All_fn _ w1)).mono ?_
  rintro e w' ⟨rfl, rfl⟩
  rw [← HW2.out]
  obtain ⟨A, hA⟩ : ∃ A, w.heap.size = A := ⟨_, rfl⟩
  rw [hA] at HIt HA2 HB2 HZ hl cA ⊢
  gi_wp2_with fail
  have hz := HZ.out
  clear cA
  refine wpIn_rangeN (n := 0) (gf := 28) (lb := #[.pointer (some ⟨w1.heap.size, 0, none⟩)]) rfl (enters_of Try.func28 (by kernel_rfl) rfl) HIt.out (fun k h => h.elim) (fun i hi => by omega)
    (X := fun _ => False) (fun i hi => hi.elim) (fun _ => rfl)
    (fun pre S W' => SumI c (A + 1) w2 pre S W') (fun c pre W' => False) (fun i => i = A + 1) ?hS ?hI ?hIx ?h0 ?hround ?hdone ?hstop
  case hS =>
    rintro pre S W' ⟨a1, rfl, a3⟩ i hi
    exact ⟨.inl hi, by have := (Array.getElem?_eq_some_iff.1 a1).1; omega, fun h => h⟩
  case hI =>
    rintro pre S W' W'' ⟨a1, a2, a3⟩ hk
    exact ⟨hk.at_ a1 (fun h => by rcases h with h | h | h; exact h; omega; omega), a2, a3.trans hk (fun b hb h => by rcases h with h | h | h; exact h.elim; omega; omega)⟩
  case hIx => exact fun c pre A B h hk => h
  case h0 => exact ⟨HB2.out, rfl, Keep.refl _ _⟩
  case hround =>
    rintro pre S x W' hx ⟨a1, rfl, a3⟩ hs2 -
    have hx2 : x < 18446744073709551616 := ((HKF.out.2 x).1 (hx.subset (by simp))).1
    have hsum : ((pre ++ [x]).map c).sum ≤ T := by rw [← HT.out]; exact sum_prefix hx
    rw [List.map_append, List.sum_append, List.map_cons, List.map_nil, List.sum_cons, List.sum_nil, Nat.add_zero] at hsum
    obtain ⟨s0, hs0⟩ : ∃ s0, (pre.map c).sum = s0 := ⟨_, rfl⟩
    obtain ⟨m, hm⟩ : ∃ m, c x = m := ⟨_, rfl⟩
    have HSm : Seal (((pre ++ [x]).map c).sum = s0 + m) := ⟨by rw [List.map_append, List.sum_append, List.map_cons, List.map_nil, List.sum_cons, List.sum_nil, Nat.add_zero, hs0, hm]⟩
    rw [hs0] at a1 hsum
    rw [hm] at hsum
    clear hs0 hx
    gi_wp2_with fail
    refine ⟨Keep.refl _ W', ?_⟩
    intro W2 hc2 hf2 hk2 hsz2 hr2
    have K2 : Keep (fun k => k = A + 1 ∨ k = w2.heap.size + 1) w2 W2 := (a3.mono fun _ _ h => .inl h).trans hk2 (fun _ _ h => .inr h)
    have P2 : PinAt W2 p b n c := HP2.out.keep K2 (fun h => by rcases h with h | h; omega; omega) (fun h => by rcases h with h | h; omega; omega)
    have cA := cell_of_one (K2.at_ HA2.out (fun h => by rcases h with h | h; omega; omega))
    have cp := cell_of_one P2.1
    have bB := hk2.at_ a1 (by omega)
    have HBB : Seal _ := ⟨bB⟩
    have cB := cell_of_one bB
    have fB : W2.frozen? ⟨A + 1, 0, none⟩ = false := frozen_one bB
    have hl2 : ∀ q, (Instr.lookup 44 (.map (some b)) (.int .u64 (x : Nat)) false).run Try.prog (W2.drewN q) = .ok (.int .i64 (m : Nat)) (W2.drewN q) := fun q => by rw [← hm]; exact (P2.2.keep (S := Nope) (Keep.of_drewN q) (fun h => h)).look hx2
    have u1 : IntKind.i64.wrap ((s0 : Int) + (m : Int)) = (s0 : Int) + (m : Int) := by rw [IntKind.wrap_i64]; omega
    have HA3 : Seal _ := ⟨a3⟩
    have HK3 : Seal _ := ⟨hk2⟩
    clear hc2 hf2 hk2 hr2 bB a1 a3 P2 K2 hm
    gi_wp2_with fail
    refine wpIn_region_quiet_tail 8 (by kernel_rfl) (by kernel_rfl) (by kernel_rfl) (fun _ _ h => h) ?_
    simp only [List.take_succ_cons, List.take_zero, List.drop_succ_cons, List.drop_zero]
    repeat (go_big_quiet_step (fail))
    refine wpQuiet_nil ?_
    intro _ hw'
    obtain ⟨nq, hw''⟩ := hw'
    subst hw''
    go_wp2_with fail
    have KW : Keep (fun k => k = A + 1) W2 ((W2.drewN nq).setCell ⟨A + 1, 0, none⟩ (.int .i64 ((s0 : Int) + (m : Int)))) := ((Keep.refl (fun k => k = A + 1) W2).drewN nq).setCell (fun _ => rfl) _
    refine ⟨KW, _, ⟨?_, rfl, (HA3.out.trans HK3.out (fun i hi h => by omega)).trans KW (fun i hi h => h)⟩, fun k h => .inl h⟩
    rw [HSm.out]
    have := one_setCell (w := W2.drewN nq) HBB.out (u := .int .i64 ((s0 : Int) + (m : Int)))
    rwa [show ((s0 : Int) + (m : Int)) = ((s0 + m : Nat) : Int) by omega] at this ⊢
  case hdone =>
    rintro ss S W' rfl ⟨a1, -, a3⟩ hs2 hD
    rw [HT.out] at a1
    have cB := cell_of_one a1
    have fB : W'.frozen? ⟨A + 1, 0, none⟩ = false := frozen_one a1
    have HA1 : Seal _ := ⟨a1⟩
    have HA3 : Seal _ := ⟨a3⟩
    clear a1 a3 hs
    gi_wp2_with fail
    have b4 := one_setCell (u := .int .i64 (T : Nat)) HA1.out
    have KB : Keep (fun k => k = A + 1) W' (W'.setCell ⟨A + 1, 0, none⟩ (.int .i64 (T : Nat))) := (Keep.refl (fun k => k = A + 1) W').setCell (fun _ => rfl) _
    generalize W'.setCell ⟨A + 1, 0, none⟩ (.int .i64 (T : Nat)) = w4 at b4 KB ⊢
    refine ⟨by simp, .inl ⟨_, _, rfl, run_takeDeferred (KB.at_ hD (by omega)), ?_⟩⟩
    have kE : Keep (fun b => b = w2.heap.size) w4 (w4.putObj w2.heap.size (.deferred none)) := (Keep.refl (fun b => b = w2.heap.size) w4).putObj (fun _ => rfl) _
    have e4 := cell_of_one (kE.at_ b4 (by omega))
    exact ⟨.int .i64 (T : Nat), by simp [results, Try.results15, go_sem, e4], rfl, ((HK2.out.trans HA3.out (fun i hi h => by omega)).trans KB (fun i hi h => by omega)).trans kE (fun i hi h => by omega)⟩
  case hstop => exact fun c pre W' hp h => h.elim

end Go.Proofs.Ytapmbignpdkfbaa
