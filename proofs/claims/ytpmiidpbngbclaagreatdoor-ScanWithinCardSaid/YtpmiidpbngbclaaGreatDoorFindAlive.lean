/-
  The chapter's example of find.
-/
import Derived.Test.YtpmiidpbngbclaaGreatDoorFindAl
namespace Go.Proofs.YtpmiidpbngbclaaGreatDoor
open Go.RowKit
set_option linter.unusedVariables false

def al11B : List Cel := [⟨0, 2, 0, 0, 1⟩, ⟨1, 1, 1, 2, 2⟩, ⟨3, 3, 0, 0, 5⟩]

theorem al11_put {P : Sp} (ht : P.ts = alT) (hn : P.n = 16) (w : World) (h : SpaceHas w P alA) :
    Calls Tryz.prog 47 #[.pointer (some ⟨P.s, 0, none⟩), .int .i64 1, .int .i64 1, .int .i64 2] w fun e w' => e = .returned (.int .i64 0) ∧ Keep P.own w w' ∧ SpaceHas w' P al11B := by
  have hR : putR P.ts (P.n / 2) alA 1 1 2 = 0 := by rw [ht, hn]; decide +kernel
  have hS : sizeS P.ts 1 2 = 2 := by rw [ht]; decide +kernel
  refine (Put_any 1 1 2 P alA w h).mono ?_
  rintro e w' ⟨rfl, k, hp⟩
  rw [hR] at hp ⊢
  refine ⟨rfl, k, ?_⟩
  rcases hp with ⟨h0, _⟩ | ⟨_, pre, c, post, j, i, l, S, e1, e2, e3, e4, e5, e6, e7, e8, e9, hp⟩
  · exact absurd rfl h0
  · obtain rfl : j = 1 := by omega
    obtain rfl : i = 1 := by omega
    obtain rfl : l = 2 := by omega
    obtain rfl : S = 2 := by omega
    cases pre with
    | nil =>
      simp only [alA, List.nil_append, List.cons.injEq] at e1
      obtain ⟨rfl, rfl⟩ := e1
      exact hp
    | cons d pre =>
      simp [alA] at e1

theorem al11_yes {P : Sp} (k : Nat) (w : World) (h : SpaceHas w P al11B) (h1 : 2 ≤ k) (h2 : k < 6) :
    Calls Tryz.prog 46 #[.pointer (some ⟨P.s, 0, none⟩), .int .u64 ((1048576 + k : Nat) : Int)] w fun e w' => e = .returned (.tuple #[.int .i64 ((1 : Nat) : Int), .bool true]) ∧ Keep Nope w w' := by
  obtain ⟨W, f, a, b, c⟩ := h
  exact FOf_at k ⟨1, 1, 1, 2, 2⟩ [⟨0, 2, 0, 0, 1⟩] [⟨3, 3, 0, 0, 5⟩] P W f w a b c (by simp; omega) (by simp [Cel.fin]; omega)

theorem al11_no {P : Sp} (w : World) (h : SpaceHas w P al11B) :
    Calls Tryz.prog 46 #[.pointer (some ⟨P.s, 0, none⟩), .int .u64 1048582] w (OfFail w) := by
  obtain ⟨W, f, a, b, c⟩ := h
  exact FOf_at 6 ⟨3, 3, 0, 0, 5⟩ [⟨0, 2, 0, 0, 1⟩, ⟨1, 1, 1, 2, 2⟩] [] P W f w a b c (by simp) (by simp [Cel.fin])

theorem al11_slot {P : Sp} (ht : P.ts = alT) (w : World) (h : SpaceHas w P al11B) :
    Calls Tryz.prog 37 #[.pointer (some ⟨P.s, 0, none⟩), .int .u64 1048579] w fun e w' => e = .returned (.tuple #[.int .i64 1, .int .i64 0, .bool true]) ∧ Keep Nope w w' := by
  obtain ⟨W, f, a, b, c⟩ := h
  have := FSlot_at 3 ⟨1, 1, 1, 2, 2⟩ [⟨0, 2, 0, 0, 1⟩] [⟨3, 3, 0, 0, 5⟩] P W f w a b c (by simp) (by simp [Cel.fin])
  rw [ht, show decide (2 * (⟨1, 1, 1, 2, 2⟩ : Cel).g < 3 ∧ 3 ≤ 2 * (⟨1, 1, 1, 2, 2⟩ : Cel).g + slotN alT ⟨1, 1, 1, 2, 2⟩) = true by decide +kernel] at this
  exact this

theorem al11_none {P : Sp} (ht : P.ts = alT) (w : World) (h : SpaceHas w P al11B) :
    Calls Tryz.prog 37 #[.pointer (some ⟨P.s, 0, none⟩), .int .u64 1048581] w fun e w' => e = .returned (.tuple #[.int .i64 0, .int .i64 0, .bool false]) ∧ Keep Nope w w' := by
  obtain ⟨W, f, a, b, c⟩ := h
  have := FSlot_at 5 ⟨1, 1, 1, 2, 2⟩ [⟨0, 2, 0, 0, 1⟩] [⟨3, 3, 0, 0, 5⟩] P W f w a b c (by simp) (by simp [Cel.fin])
  rw [ht, show decide (2 * (⟨1, 1, 1, 2, 2⟩ : Cel).g < 5 ∧ 5 ≤ 2 * (⟨1, 1, 1, 2, 2⟩ : Cel).g + slotN alT ⟨1, 1, 1, 2, 2⟩) = false by decide +kernel] at this
  exact this

set_option maxRecDepth 20000 in
set_option maxHeartbeats 8000000 in
theorem alive11 (w : World) (hF : FieldsAt w) : Calls Tryz.prog 36 #[] w fun e w' => e = .returned (.bool true) ∧ Keep Nope w w' := by
  have HF : Seal _ := ⟨hF⟩
  clear hF
  go_enter Tryz.func36, Tryz.ntmps36
  go_wp2_with fail
  obtain ⟨w1, hw1⟩ : ∃ w1, w1 = w.alloc (.cells #[.int .u8 2, .int .i64 0, .int .u64 0] 100) := ⟨_, rfl⟩
  rw [← hw1]
  have k1 : Keep Nope w w1 := by rw [hw1]; exact (Keep.refl _ w).alloc _
  have b1 : w1.heap[w.heap.size]? = some (.cells #[.int .u8 2, .int .i64 0, .int .u64 0] 100 (0, 0)) := by rw [hw1]; exact World.alloc_heap_new w _
  have T1 : TypsAt w1 (.slice (some ⟨w.heap.size, 0, none⟩) 1 1) alT := by
    refine ⟨_, _, rfl, fun i x hx => ?_⟩
    obtain rfl : i = 0 := by have := (List.getElem?_eq_some_iff.1 hx).1; simp [alT] at this; exact this
    simp [alT] at hx
    subst hx
    exact ⟨_, _, rfl, lt_of_heap b1, by simp [World.cell?, b1], by simp [World.cell?, b1], by simp [World.cell?, b1]⟩
  clear hw1 b1
  refine (Made_new 16 _ alT w1 (HF.out.keepN k1) T1 (by simp [alT]) (fun x hx => by simp [alT] at hx; subst hx; decide) al_tab (by decide)).mono ?_
  rintro e w2 ⟨P, rb, q, rfl, hB, hn, hts⟩
  have HS2 : Seal (SpaceHas w2 P alA) := ⟨⟨_, hB.sp⟩⟩
  have HP : Seal _ := ⟨And.intro hts hn⟩
  have HK2 : Seal (Keep Nope w w2) := ⟨k1.then' (hB.kb.mono fun i hi h => by omega)⟩
  have HOW : Seal (∀ k, P.own k → w.heap.size ≤ k) := ⟨fun k hk => by have := hB.own k hk; have := k1.size; omega⟩
  clear T1 k1 hB hn hts
  go_wp2_with fail
  refine (al11_put HP.out.1 HP.out.2 w2 HS2.out).mono ?_
  rintro e w3 ⟨rfl, k3, h3⟩
  have HS3 : Seal _ := ⟨h3⟩
  have HK3 : Seal (Keep Nope w w3) := ⟨HK2.out.trans k3 (fun i hi h => by have := HOW.out i h; omega)⟩
  clear k3 h3
  go_wp2_with fail
  refine (al11_yes 2 w3 HS3.out (by omega) (by omega)).mono ?_
  rintro e w4 ⟨rfl, k4⟩
  go_wp2_with fail
  refine (al11_yes 5 w4 (HS3.out.keepN k4) (by omega) (by omega)).mono ?_
  rintro e w5 ⟨rfl, k5⟩
  have k35 := k4.then' k5
  clear k4 k5
  go_wp2_with fail
  refine (al11_no w5 (HS3.out.keepN k35)).mono ?_
  rintro e w6 ⟨rfl, k6⟩
  have k36 := k35.then' k6
  clear k35 k6
  go_wp2_with fail
  refine (al11_slot HP.out.1 w6 (HS3.out.keepN k36)).mono ?_
  rintro e w7 ⟨rfl, k7⟩
  have k37 := k36.then' k7
  clear k36 k7
  go_wp2_with fail
  refine (al11_none HP.out.1 w7 (HS3.out.keepN k37)).mono ?_
  rintro e w8 ⟨rfl, k8⟩
  have k38 := k37.then' k8
  clear k37 k8
  go_wp2_with fail
  refine (FOf_nil 1048576 w8 (by omega)).mono ?_
  rintro e w9 ⟨rfl, k9⟩
  have k39 := k38.then' k9
  have HK9 : Seal _ := ⟨HK3.out.then' k39⟩
  have HS9 : Seal _ := ⟨HS3.out.keepN k39⟩
  clear k38 k9 k39
  go_wp2_with fail
  obtain ⟨wA, hwA⟩ : ∃ wA, wA = w9.alloc (.cells #[.int .u64 1048581, .int .u64 1048578] 32) := ⟨_, rfl⟩
  rw [← hwA]
  have kA : Keep Nope w9 wA := by rw [hwA]; exact (Keep.refl _ w9).alloc _
  have bA : wA.heap[w9.heap.size]? = some (.cells #[.int .u64 1048581, .int .u64 1048578] 32 (0, 0)) := by rw [hwA]; exact World.alloc_heap_new w9 _
  have c0 : wA.cell? ⟨w9.heap.size, 0, none⟩ = some (.int .u64 ((1048576 + 5 : Nat) : Int)) := by simp [World.cell?, bA]
  have c1 : wA.cell? ⟨w9.heap.size, 1, none⟩ = some (.int .u64 ((1048576 + 2 : Nat) : Int)) := by simp [World.cell?, bA]
  have HSA : Seal _ := ⟨HS9.out.keepN kA⟩
  have HKA : Seal _ := ⟨HK9.out.then' kA⟩
  clear hwA bA kA
  refine (All_two P (1048576 + 5) (1048576 + 2) 1 w9.heap.size 2 wA c0 c1 (fun w' kk => al11_yes 5 w' (HSA.out.keepN kk) (by omega) (by omega)) (fun w' kk => al11_yes 2 w' (HSA.out.keepN kk) (by omega) (by omega))).mono ?_
  rintro e wB ⟨v, rfl, ⟨b, cap, rfl, cb, hb⟩, kB⟩
  have HKB : Seal _ := ⟨HKA.out.then' kB⟩
  clear c0 c1 kB
  obtain ⟨wC, hwC⟩ : ∃ wC, wC = wB.alloc (.cells #[.int .i64 1] 3) := ⟨_, rfl⟩
  have kC : Keep Nope wB wC := by rw [hwC]; exact (Keep.refl _ wB).alloc _
  have bC : wC.heap[wB.heap.size]? = some (.cells #[.int .i64 1] 3 (0, 0)) := by rw [hwC]; exact World.alloc_heap_new wB _
  have I1 : IntsAt 1 wC (.slice (some ⟨b, 0, none⟩) 1 cap) 1 (fun _ _ => 1) := ⟨_, _, rfl, fun i hi => ⟨b, 0, rfl, Nat.lt_of_lt_of_le hb kC.size, fun j hj => by
    obtain rfl : i = 0 := by omega
    obtain rfl : j = 0 := by omega
    exact ⟨kC.cell cb (fun h => h), by dsimp only; omega, by dsimp only; omega⟩⟩⟩
  have I2 : IntsAt 1 wC (.slice (some ⟨wB.heap.size, 0, none⟩) 1 1) 1 (fun _ _ => 1) := ⟨_, _, rfl, fun i hi => ⟨_, 0, rfl, lt_of_heap bC, fun j hj => by
    obtain rfl : i = 0 := by omega
    obtain rfl : j = 0 := by omega
    exact ⟨by simp [World.cell?, bC], by dsimp only; omega, by dsimp only; omega⟩⟩⟩
  have HSI : Seal (Calls Tryz.prog 34 #[.slice (some ⟨b, 0, none⟩) 1 cap, .slice (some ⟨wB.heap.size, 0, none⟩) 1 1] wC fun e w' => e = .returned (.bool true) ∧ Keep Nope wC w') := ⟨by
    have := SameInts_at 1 1 (fun _ _ => 1) (fun _ _ => 1) _ _ wC I1 I2 (by omega)
    rw [show SameB 1 1 (fun _ _ => 1) (fun _ _ => 1) = true by simp [SameB]] at this
    exact this⟩
  have HKC : Seal _ := ⟨HKB.out.then' kC⟩
  clear I1 I2 bC cb kC
  go_wp2_with fail
  rw [← hwC]
  clear hwC
  refine HSI.out.mono ?_
  rintro e wD ⟨rfl, kD⟩
  go_wp2
  go_ret
  exact ⟨rfl, HKC.out.then' kD⟩

end Go.Proofs.YtpmiidpbngbclaaGreatDoor
