/-
  PinNil: no table.
-/
import Derived.Test.YtapmbignpdkfbaaPinL
namespace Go.Proofs.Ytapmbignpdkfbaa
open Go.RowKit Go.Maps
set_option linter.unusedVariables false

set_option maxHeartbeats 1000000 in
theorem all_nil (w : World) (Ap : Nat) (hA : w.heap[Ap]? = some (.cells #[.pointer none] 25 (0, 0))) {R : Nat → Prop} :
    IterN Try.prog 28 #[.pointer (some ⟨Ap, 0, none⟩)] (fun x : Nat => #[.int .u64 (x : Nat)]) (fun l => l = []) (fun l => l = []) Nope R w := by
  intro l J Jx S0 W hW hl1 hl2 hsz hS hJ hJx hY h0
  have H0 : Seal _ := ⟨h0⟩
  have cA := cell_of_one (hW.at_ hA (fun h => h))
  clear hS hJ hY h0 hsz
  refine (callsIn_wide (n := 0)).1 ?_
  refine callsIn_of_wp Try.func28 rfl trivial ?_
  simp only [Try.ntmps28, List.size_toArray, List.length_cons, List.length_nil, Nat.reduceAdd, Nat.reduceSub, Array.replicate_succ, Array.replicate_zero, List.push_toArray, List.append_toArray, List.nil_append, List.cons_append]
  gi_wp2_with fail
  exact bodyPost_ret (results_none rfl _ _ _) rfl ⟨⟨_, rfl⟩, Or.inl ⟨[], rfl, S0, H0.out⟩⟩

set_option maxHeartbeats 1000000 in
theorem PinNo (g : Nat) (w : World) : Calls Try.prog 10 #[.pointer none, .int .u64 (g : Nat)] w fun e w' => e = .returned (.int .i64 1) ∧ w' = w := by
  go_enter Try.func10, Try.ntmps10
  go_wp2_with fail
  exact bodyPost_ret (v := .int .i64 1) (by simp [results, Try.results10, go_sem]) rfl ⟨rfl, rfl⟩

set_option maxHeartbeats 1000000 in
theorem UnpinNo (g : Nat) (w : World) : Calls Try.prog 11 #[.pointer none, .int .u64 (g : Nat)] w fun e w' => e = .returned (.int .i64 1) ∧ w' = w := by
  go_enter Try.func11, Try.ntmps11
  go_wp2_with fail
  exact bodyPost_ret (v := .int .i64 1) (by simp [results, Try.results11, go_sem]) rfl ⟨rfl, rfl⟩

theorem CountNo (g : Nat) (w : World) : Calls Try.prog 12 #[.pointer none, .int .u64 (g : Nat)] w fun e w' => e = .returned (.int .i64 0) ∧ w' = w := by
  go_enter Try.func12, Try.ntmps12
  go_wp2_with fail
  exact bodyPost_ret (v := .int .i64 0) (by simp [results, Try.results12, go_sem]) rfl ⟨rfl, rfl⟩

theorem LenNo (w : World) : Calls Try.prog 16 #[.pointer none] w fun e w' => e = .returned (.int .i64 0) ∧ w' = w := by
  go_enter Try.func16, Try.ntmps16
  go_wp2_with fail
  exact bodyPost_ret (v := .int .i64 0) (by simp [results, Try.results16, go_sem]) rfl ⟨rfl, rfl⟩

theorem CopyNo (w : World) : Calls Try.prog 17 #[.pointer none] w fun e w' => e = .returned (.pointer none) ∧ w' = w := by
  go_enter Try.func17, Try.ntmps17
  go_wp2_with fail
  exact bodyPost_ret (v := .pointer none) (by simp [results, Try.results17, go_sem]) rfl ⟨rfl, rfl⟩

set_option maxHeartbeats 1000000 in
theorem ListNo (w : World) : Calls Try.prog 14 #[.pointer none] w (RowKPost [] w) := by
  obtain ⟨w1, hw1⟩ : ∃ w1, w1 = w.alloc (.cells #[.pointer none] 25) := ⟨_, rfl⟩
  have k1 : Keep Nope w w1 := by rw [hw1]; exact (Keep.refl _ w).alloc _
  have z1 : w1.heap.size = w.heap.size + 1 := by rw [hw1]; simp
  have b1 : w1.heap[w.heap.size]? = some (.cells #[.pointer none] 25 (0, 0)) := by rw [hw1]; exact World.alloc_heap_new w _
  have k2 : Keep Nope w1 (w1.alloc (.cells #[.slice none 0 0] 34)) := (Keep.refl _ w1).alloc _
  have HC : Seal _ := ⟨Collect_at (O := Nope) w1 (enters_of Try.func28 (by kernel_rfl) rfl)
    (all_nil (w1.alloc (.cells #[.slice none 0 0] 34)) w.heap.size (k2.at_ b1 (fun h => h)) (R := fun i => i = w1.heap.size)) (fun k hk => hk.elim)
    (fun pre hp => by rw [hp]; simp)⟩
  have HK1 : Seal _ := ⟨k1⟩
  have HW1 : Seal _ := ⟨hw1⟩
  have HZ1 : Seal _ := ⟨z1⟩
  clear k1 hw1 b1 k2 z1
  go_enter Try.func14, Try.ntmps14
  go_wp2_with fail
  refine (All_fn _ _).mono ?_
  rintro e w' ⟨rfl, rfl⟩
  rw [← HW1.out]
  go_wp2_with fail
  refine HC.out.mono ?_
  rintro e w2 ⟨v, ss, rfl, rfl, hrow, k2⟩
  have HR : Seal _ := ⟨rowU_less hrow (base' := w.heap.size) (by have := HZ1.out; omega)⟩
  have HK2 : Seal _ := ⟨HK1.out.thenU k2⟩
  clear hrow k2
  go_wp2_with fail
  exact bodyPost_ret (v := v) (by simp [results, Try.results14, go_sem]) rfl ⟨v, rfl, HR.out, HK2.out⟩

/-- Where Times' loop stands when there is nothing to add. -/
def SumNo (B : Nat) (wl : World) (pre : List Nat) (S : Nat → Prop) (W' : World) : Prop :=
  W'.heap[B]? = some (.cells #[.int .i64 0] 3 (0, 0)) ∧ (S = fun k => k = B) ∧ Keep (fun k => k = B) wl W'

set_option maxRecDepth 20000 in
set_option maxHeartbeats 4000000 in
theorem TimesNo (w : World) : Calls Try.prog 15 #[.pointer none] w fun e w' => e = .returned (.int .i64 0) ∧ Keep Nope w w' := by
  obtain ⟨w1, hw1⟩ : ∃ w1, w1 = (w.alloc (.cells #[.pointer none] 25)).alloc (.cells #[.int .i64 0] 3) := ⟨_, rfl⟩
  have k1 : Keep Nope w w1 := by rw [hw1]; exact ((Keep.refl _ w).alloc _).alloc _
  have z1 : w1.heap.size = w.heap.size + 2 := by rw [hw1]; simp
  have bA : w1.heap[w.heap.size]? = some (.cells #[.pointer none] 25 (0, 0)) := by rw [hw1]; exact ((Keep.refl Nope _).alloc _).at_ (World.alloc_heap_new w _) (fun h => h)
  have bB : w1.heap[w.heap.size + 1]? = some (.cells #[.int .i64 0] 3 (0, 0)) := by
    rw [hw1]
    have := World.alloc_heap_new (w.alloc (.cells #[.pointer none] 25)) (.cells #[.int .i64 0] 3)
    simpa using this
  have cA := cell_of_one bA
  obtain ⟨w2, hw2⟩ : ∃ w2, w2 = w1.alloc (.cells #[.pointer none] 25) := ⟨_, rfl⟩
  have k2 : Keep Nope w1 w2 := by rw [hw2]; exact (Keep.refl _ w1).alloc _
  have z2 : w2.heap.size = w1.heap.size + 1 := by rw [hw2]; simp
  have bC : w2.heap[w1.heap.size]? = some (.cells #[.pointer none] 25 (0, 0)) := by rw [hw2]; exact World.alloc_heap_new w1 _
  have HIt : Seal _ := ⟨all_nil w2 w1.heap.size bC (R := fun i => i = w.heap.size + 1)⟩
  have HK2 : Seal (Keep Nope w w2) := ⟨k1.thenU k2⟩
  have HB2 : Seal _ := ⟨k2.at_ bB (fun h => h)⟩
  clear bA bB bC k1 k2
  refine (callsIn_wide (n := 0)).1 ?_
  refine callsIn_of_wp_marks Try.func15 rfl trivial ?_
  simp only [Try.ntmps15, List.size_toArray, List.length_cons, List.length_nil, Nat.reduceAdd, Nat.reduceSub, Array.replicate_succ, Array.replicate_zero, List.push_toArray, List.append_toArray, List.nil_append, List.cons_append]
  have HW1 : Seal _ := ⟨hw1⟩
  have HW2 : Seal _ := ⟨hw2⟩
  have HZ : Seal (w1.heap.size = w.heap.size + 2 ∧ w2.heap.size = w.heap.size + 3) := ⟨by omega⟩
  clear hw1 hw2 z1 z2
  gi_wp2_with fail
  refine ⟨trivial, rfl, ?_⟩
  rw [← HW1.out]
  refine (callsIn_wide.2 (All_fn _ w1)).mono ?_
  rintro e w' ⟨rfl, rfl⟩
  rw [← HW2.out]
  obtain ⟨A, hA⟩ : ∃ A, w.heap.size = A := ⟨_, rfl⟩
  rw [hA] at HIt HB2 HZ cA ⊢
  gi_wp2_with fail
  have hz := HZ.out
  clear cA
  refine wpIn_rangeN (n := 0) (gf := 28) (lb := #[.pointer (some ⟨w1.heap.size, 0, none⟩)]) rfl (enters_of Try.func28 (by kernel_rfl) rfl) HIt.out (fun k h => h.elim) (fun i hi => by omega)
    (X := fun _ => False) (fun i hi => hi.elim) (fun _ => rfl)
    (fun pre S W' => SumNo (A + 1) w2 pre S W') (fun c pre W' => False) (fun i => i = A + 1) ?hS ?hI ?hIx ?h0 ?hround ?hdone ?hstop
  case hS =>
    rintro pre S W' ⟨a1, rfl, a3⟩ i hi
    exact ⟨.inl hi, by have := (Array.getElem?_eq_some_iff.1 a1).1; omega, fun h => h⟩
  case hI =>
    rintro pre S W' W'' ⟨a1, a2, a3⟩ hk
    exact ⟨hk.at_ a1 (fun h => by rcases h with h | h | h; exact h; omega; omega), a2, a3.trans hk (fun b hb h => by rcases h with h | h | h; exact h.elim; omega; omega)⟩
  case hIx => exact fun c pre A B h hk => h
  case h0 => exact ⟨HB2.out, rfl, Keep.refl _ _⟩
  case hround =>
    rintro pre S x W' hx
    simp at hx
  case hdone =>
    rintro ss S W' rfl ⟨a1, -, a3⟩ hs2 hD
    have cB := cell_of_one a1
    have fB : W'.frozen? ⟨A + 1, 0, none⟩ = false := frozen_one a1
    have HA1 : Seal _ := ⟨a1⟩
    have HA3 : Seal _ := ⟨a3⟩
    clear a1 a3
    gi_wp2_with fail
    have b4 := one_setCell (u := .int .i64 0) HA1.out
    have KB : Keep (fun k => k = A + 1) W' (W'.setCell ⟨A + 1, 0, none⟩ (.int .i64 0)) := (Keep.refl (fun k => k = A + 1) W').setCell (fun _ => rfl) _
    generalize W'.setCell ⟨A + 1, 0, none⟩ (.int .i64 0) = w4 at b4 KB ⊢
    refine ⟨by simp, .inl ⟨_, _, rfl, run_takeDeferred (KB.at_ hD (by omega)), ?_⟩⟩
    have kE : Keep (fun b => b = w2.heap.size) w4 (w4.putObj w2.heap.size (.deferred none)) := (Keep.refl (fun b => b = w2.heap.size) w4).putObj (fun _ => rfl) _
    have e4 := cell_of_one (kE.at_ b4 (by omega))
    exact ⟨.int .i64 0, by simp [results, Try.results15, go_sem, e4], rfl, ((HK2.out.trans HA3.out (fun i hi h => by omega)).trans KB (fun i hi h => by omega)).trans kE (fun i hi h => by omega)⟩
  case hstop => exact fun c pre W' hp h => h.elim

set_option maxRecDepth 20000 in
set_option maxHeartbeats 2000000 in
theorem nilP_walk (g : Nat) (w : World) : Calls Try.prog 6 #[.int .u64 (g : Nat)] w fun e w' => e = .returned (.bool true) ∧ Keep Nope w w' := by
  go_enter Try.func6, Try.ntmps6
  go_wp2_with fail
  refine (PinNo g _).mono ?_
  rintro e w' ⟨rfl, rfl⟩
  go_wp2_with fail
  refine (UnpinNo g _).mono ?_
  rintro e w' ⟨rfl, rfl⟩
  go_wp2_with fail
  refine (CountNo g _).mono ?_
  rintro e w' ⟨rfl, rfl⟩
  go_wp2_with fail
  refine (LenNo _).mono ?_
  rintro e w' ⟨rfl, rfl⟩
  go_wp2_with fail
  refine (TimesNo _).mono ?_
  rintro e w1 ⟨rfl, k1⟩
  have HK1 : Seal _ := ⟨k1⟩
  clear k1
  go_wp2_with fail
  refine (ListNo _).mono ?_
  rintro e w2 ⟨v, rfl, hr, k2⟩
  obtain ⟨va, vc, rfl⟩ := rowU_slice hr
  have HK2 : Seal _ := ⟨HK1.out.thenU k2⟩
  clear k2 hr HK1
  go_wp2_with fail
  refine (CopyNo _).mono ?_
  rintro e w' ⟨rfl, rfl⟩
  go_wp2_with fail
  refine (alive17 _).mono ?_
  rintro e w3 ⟨rfl, k3⟩
  have HK3 : Seal _ := ⟨HK2.out.thenU k3⟩
  clear k3
  go_wp2_with fail
  exact bodyPost_ret (v := .bool true) (by simp [results, Try.results6, go_sem]) rfl ⟨rfl, HK3.out⟩

end Go.Proofs.Ytapmbignpdkfbaa
