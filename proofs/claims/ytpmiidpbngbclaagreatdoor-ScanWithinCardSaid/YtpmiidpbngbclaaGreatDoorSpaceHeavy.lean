/-
  Heavy of skerrylaw09. Printed by tools/heavy09.py.
-/
import Derived.Test.YtpmiidpbngbclaaGreatDoorSpaceArgs
namespace Go.Proofs.YtpmiidpbngbclaaGreatDoor
open Go.RowKit
set_option linter.unusedVariables false

def Heavy9Post (n : Int) (lt len : Nat) (m : Nat → Nat) (w : World) (e : Ending) (w' : World) : Prop :=
  ∃ t : Bool, e = .returned (.bool t) ∧ w' = w ∧ (t = false → (n ≤ 600 ∨ 65536 < n) ∧ lt ≤ 70 ∧ len ≤ 60 ∧ ∀ i, i < len → m i ≤ 300)

def Heavy9I (len : Nat) (m : Nat → Nat) (w : World) (z y : Value) (wr : World) : Prop :=
  ∃ j s : Nat, j ≤ len ∧ j ≤ 100 ∧ z = .int .i64 (s : Nat) ∧ y = .int .i64 (j : Nat) ∧ s ≤ j * 17592186044416 ∧ Seal (∀ i, i < j → m i ≤ s) ∧ wr = w

set_option maxRecDepth 20000 in
set_option maxHeartbeats 4000000 in
theorem Heavy9_any (n : Int) (v1 v2 : Value) (xs : List TypR) (len : Nat) (d g i nn y : Nat → Int) (u : Nat → Value) (m : Nat → Nat) (w : World) (h1 : TypsAt w v1 xs) (h2 : Steps6At w v2 len d g i nn y u m) (hl1 : xs.length ≤ 17592186044416) (hl2 : len ≤ 17592186044416) :
    Calls Tryz.prog 10 #[.int .i64 n, v1, v2] w (Heavy9Post n xs.length len m w) := by
  have HV : Seal _ := ⟨h2⟩
  obtain ⟨va, vc, rfl, -⟩ := h2
  obtain ⟨ta, tc, rfl, -⟩ := h1
  obtain ⟨lt, hlt⟩ : ∃ lt, xs.length = lt := ⟨_, rfl⟩
  rw [hlt] at hl1 ⊢
  clear hlt
  go_enter Tryz.func10, Tryz.ntmps10
  go_wp2_with fail
  go_loopw [7, 8] (fun z y wr => Heavy9I len m w z y wr) (fun _ y _ => 100 - (intOf y).toNat)
  case atStart => exact ⟨0, 0, Nat.zero_le _, Nat.zero_le _, rfl, rfl, Nat.zero_le _, ⟨fun i h => by omega⟩, rfl⟩
  case round =>
    obtain ⟨j, s, hj, hj2, rfl, rfl, hs, hsm, rfl⟩ := hrel
    by_cases hjl : j < len
    · have a1 : decide ((j : Int) < (len : Int)) = true := decide_eq_true (by omega)
      by_cases hj1 : j < 100
      · have a2 : decide ((j : Int) < 100) = true := decide_eq_true (by omega)
        obtain ⟨va', vc', e, hx⟩ := HV.out
        injection e with e1 e3 e2
        subst e1 e2
        obtain ⟨b, o, rfl, hbl, x0, x1, x2, x3, x4, x5, ⟨ua, uc, hu⟩, hm, -⟩ := hx j hjl
        rw [hu] at x5
        clear hx x0 x1 x2 x3 x4 hu
        go_wp2
        exact ⟨⟨j + 1, s + m j, by omega, by omega, by go_num, by go_num, by omega, ⟨fun i hi => by
          rcases Nat.lt_or_ge i j with h | h
          · have := hsm.out i h; omega
          · obtain rfl : i = j := by omega
            omega⟩, rfl⟩, by simp only [intOf]; omega⟩
      · have a2 : decide ((j : Int) < 100) = false := decide_eq_false (by omega)
        by_cases hA : 600 < n
        · by_cases hB : n ≤ 65536
          · have c1 : decide ((600 : Int) < n) = true := decide_eq_true (by omega)
            have c2 : decide (n ≤ 65536) = true := decide_eq_true (by omega)
            go_wp2
            go_ret
            exact ⟨true, rfl, rfl, fun h => by cases h⟩
          · by_cases hC : 70 < lt
            · have c1 : decide ((600 : Int) < n) = true := decide_eq_true (by omega)
              have c2 : decide (n ≤ 65536) = false := decide_eq_false (by omega)
              have c3 : decide ((70 : Int) < (lt : Int)) = true := decide_eq_true (by omega)
              go_wp2
              go_ret
              exact ⟨true, rfl, rfl, fun h => by cases h⟩
            · by_cases hD : 60 < len
              · have c1 : decide ((600 : Int) < n) = true := decide_eq_true (by omega)
                have c2 : decide (n ≤ 65536) = false := decide_eq_false (by omega)
                have c3 : decide ((70 : Int) < (lt : Int)) = false := decide_eq_false (by omega)
                have c4 : decide ((60 : Int) < (len : Int)) = true := decide_eq_true (by omega)
                go_wp2
                go_ret
                exact ⟨true, rfl, rfl, fun h => by cases h⟩
              · by_cases hE : 300 < s
                · have c1 : decide ((600 : Int) < n) = true := decide_eq_true (by omega)
                  have c2 : decide (n ≤ 65536) = false := decide_eq_false (by omega)
                  have c3 : decide ((70 : Int) < (lt : Int)) = false := decide_eq_false (by omega)
                  have c4 : decide ((60 : Int) < (len : Int)) = false := decide_eq_false (by omega)
                  have c5 : decide ((300 : Int) < (s : Int)) = true := decide_eq_true (by omega)
                  go_wp2
                  go_ret
                  exact ⟨true, rfl, rfl, fun h => by cases h⟩
                · have c1 : decide ((600 : Int) < n) = true := decide_eq_true (by omega)
                  have c2 : decide (n ≤ 65536) = false := decide_eq_false (by omega)
                  have c3 : decide ((70 : Int) < (lt : Int)) = false := decide_eq_false (by omega)
                  have c4 : decide ((60 : Int) < (len : Int)) = false := decide_eq_false (by omega)
                  have c5 : decide ((300 : Int) < (s : Int)) = false := decide_eq_false (by omega)
                  go_wp2
                  go_ret
                  exact ⟨false, rfl, rfl, fun _ => ⟨by omega, by omega, by omega, fun i hi => by have := hsm.out i (by omega); omega⟩⟩
        · by_cases hC : 70 < lt
          · have c1 : decide ((600 : Int) < n) = false := decide_eq_false (by omega)
            have c3 : decide ((70 : Int) < (lt : Int)) = true := decide_eq_true (by omega)
            go_wp2
            go_ret
            exact ⟨true, rfl, rfl, fun h => by cases h⟩
          · by_cases hD : 60 < len
            · have c1 : decide ((600 : Int) < n) = false := decide_eq_false (by omega)
              have c3 : decide ((70 : Int) < (lt : Int)) = false := decide_eq_false (by omega)
              have c4 : decide ((60 : Int) < (len : Int)) = true := decide_eq_true (by omega)
              go_wp2
              go_ret
              exact ⟨true, rfl, rfl, fun h => by cases h⟩
            · by_cases hE : 300 < s
              · have c1 : decide ((600 : Int) < n) = false := decide_eq_false (by omega)
                have c3 : decide ((70 : Int) < (lt : Int)) = false := decide_eq_false (by omega)
                have c4 : decide ((60 : Int) < (len : Int)) = false := decide_eq_false (by omega)
                have c5 : decide ((300 : Int) < (s : Int)) = true := decide_eq_true (by omega)
                go_wp2
                go_ret
                exact ⟨true, rfl, rfl, fun h => by cases h⟩
              · have c1 : decide ((600 : Int) < n) = false := decide_eq_false (by omega)
                have c3 : decide ((70 : Int) < (lt : Int)) = false := decide_eq_false (by omega)
                have c4 : decide ((60 : Int) < (len : Int)) = false := decide_eq_false (by omega)
                have c5 : decide ((300 : Int) < (s : Int)) = false := decide_eq_false (by omega)
                go_wp2
                go_ret
                exact ⟨false, rfl, rfl, fun _ => ⟨by omega, by omega, by omega, fun i hi => by have := hsm.out i (by omega); omega⟩⟩
    · have a1 : decide ((j : Int) < (len : Int)) = false := decide_eq_false (by omega)
      by_cases hA : 600 < n
      · by_cases hB : n ≤ 65536
        · have c1 : decide ((600 : Int) < n) = true := decide_eq_true (by omega)
          have c2 : decide (n ≤ 65536) = true := decide_eq_true (by omega)
          go_wp2
          go_ret
          exact ⟨true, rfl, rfl, fun h => by cases h⟩
        · by_cases hC : 70 < lt
          · have c1 : decide ((600 : Int) < n) = true := decide_eq_true (by omega)
            have c2 : decide (n ≤ 65536) = false := decide_eq_false (by omega)
            have c3 : decide ((70 : Int) < (lt : Int)) = true := decide_eq_true (by omega)
            go_wp2
            go_ret
            exact ⟨true, rfl, rfl, fun h => by cases h⟩
          · by_cases hD : 60 < len
            · have c1 : decide ((600 : Int) < n) = true := decide_eq_true (by omega)
              have c2 : decide (n ≤ 65536) = false := decide_eq_false (by omega)
              have c3 : decide ((70 : Int) < (lt : Int)) = false := decide_eq_false (by omega)
              have c4 : decide ((60 : Int) < (len : Int)) = true := decide_eq_true (by omega)
              go_wp2
              go_ret
              exact ⟨true, rfl, rfl, fun h => by cases h⟩
            · by_cases hE : 300 < s
              · have c1 : decide ((600 : Int) < n) = true := decide_eq_true (by omega)
                have c2 : decide (n ≤ 65536) = false := decide_eq_false (by omega)
                have c3 : decide ((70 : Int) < (lt : Int)) = false := decide_eq_false (by omega)
                have c4 : decide ((60 : Int) < (len : Int)) = false := decide_eq_false (by omega)
                have c5 : decide ((300 : Int) < (s : Int)) = true := decide_eq_true (by omega)
                go_wp2
                go_ret
                exact ⟨true, rfl, rfl, fun h => by cases h⟩
              · have c1 : decide ((600 : Int) < n) = true := decide_eq_true (by omega)
                have c2 : decide (n ≤ 65536) = false := decide_eq_false (by omega)
                have c3 : decide ((70 : Int) < (lt : Int)) = false := decide_eq_false (by omega)
                have c4 : decide ((60 : Int) < (len : Int)) = false := decide_eq_false (by omega)
                have c5 : decide ((300 : Int) < (s : Int)) = false := decide_eq_false (by omega)
                go_wp2
                go_ret
                exact ⟨false, rfl, rfl, fun _ => ⟨by omega, by omega, by omega, fun i hi => by have := hsm.out i (by omega); omega⟩⟩
      · by_cases hC : 70 < lt
        · have c1 : decide ((600 : Int) < n) = false := decide_eq_false (by omega)
          have c3 : decide ((70 : Int) < (lt : Int)) = true := decide_eq_true (by omega)
          go_wp2
          go_ret
          exact ⟨true, rfl, rfl, fun h => by cases h⟩
        · by_cases hD : 60 < len
          · have c1 : decide ((600 : Int) < n) = false := decide_eq_false (by omega)
            have c3 : decide ((70 : Int) < (lt : Int)) = false := decide_eq_false (by omega)
            have c4 : decide ((60 : Int) < (len : Int)) = true := decide_eq_true (by omega)
            go_wp2
            go_ret
            exact ⟨true, rfl, rfl, fun h => by cases h⟩
          · by_cases hE : 300 < s
            · have c1 : decide ((600 : Int) < n) = false := decide_eq_false (by omega)
              have c3 : decide ((70 : Int) < (lt : Int)) = false := decide_eq_false (by omega)
              have c4 : decide ((60 : Int) < (len : Int)) = false := decide_eq_false (by omega)
              have c5 : decide ((300 : Int) < (s : Int)) = true := decide_eq_true (by omega)
              go_wp2
              go_ret
              exact ⟨true, rfl, rfl, fun h => by cases h⟩
            · have c1 : decide ((600 : Int) < n) = false := decide_eq_false (by omega)
              have c3 : decide ((70 : Int) < (lt : Int)) = false := decide_eq_false (by omega)
              have c4 : decide ((60 : Int) < (len : Int)) = false := decide_eq_false (by omega)
              have c5 : decide ((300 : Int) < (s : Int)) = false := decide_eq_false (by omega)
              go_wp2
              go_ret
              exact ⟨false, rfl, rfl, fun _ => ⟨by omega, by omega, by omega, fun i hi => by have := hsm.out i (by omega); omega⟩⟩

end Go.Proofs.YtpmiidpbngbclaaGreatDoor
