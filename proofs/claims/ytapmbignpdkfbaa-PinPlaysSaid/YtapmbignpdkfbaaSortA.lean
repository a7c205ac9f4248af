/-
  The library's sort at uint64, walked: comparing, insertion, reversing.
-/
import Derived.Test.YtapmbignpdkfbaaProg
import Derived.Test.YtapmbignpdkfbaaSortR
import Derived.BigGuard
import Derived.BigCall
import Derived.CellFam
import Derived.Deep.Draws
namespace Go.Proofs.Ytapmbignpdkfbaa
open Go.RowKit
set_option linter.unusedVariables false

set_option maxHeartbeats 1000000 in
theorem NaN_at (x : Nat) (w : World) : Calls Try.prog 52 #[.int .u64 (x : Nat)] w fun e w' => e = .returned (.bool false) ∧ w' = w := by
  go_enter Try.func52, Try.ntmps52
  go_wp2
  go_ret
  exact ⟨by simp, rfl⟩

set_option maxHeartbeats 1000000 in
theorem Less_at (x y : Nat) (w : World) : Calls Try.prog 42 #[.int .u64 (x : Nat), .int .u64 (y : Nat)] w fun e w' => e = .returned (.bool (decide (x < y))) ∧ w' = w := by
  go_enter Try.func42, Try.ntmps42
  go_wp2_with (go_at_call 52; refine (NaN_at _ _).mono ?_; rintro e w' ⟨rfl, rfl⟩)
  go_ret
  exact ⟨by simp, rfl⟩

section

variable {c0 : Array Value} {b T o n cap : Nat} {F : Nat → Nat} {w : World}

set_option maxHeartbeats 1000000 in
theorem Ins_at {a z : Nat} (h : RowU c0 b T o n F w) (haz : a ≤ z) (hz : z ≤ n) (hn : n < 4611686018427387904) :
    Calls Try.prog 36 #[.slice (some ⟨b, o, none⟩) n cap, .int .i64 (a : Nat), .int .i64 (z : Nat)] w fun e w' => e = .returned (.tuple #[]) ∧ Sorts c0 b T o n a z F (SortedR a z) w w' := by
  have H0 : Seal _ := ⟨h⟩
  clear h
  go_enter Try.func36, Try.ntmps36
  go_wp2
  go_loopw [6] (fun vi wr => ∃ (i : Nat), vi = .int .i64 (i : Nat) ∧ a < i ∧ i ≤ z + 1 ∧ Seal (Sorts c0 b T o n a z F (fun G => SortedR a (min i z) G) w wr)) (fun vi _ => z + 1 - (intOf vi).toNat)
  case atStart => exact ⟨a + 1, by go_num, by omega, by omega, ⟨F, H0.out, .refl, fun i j h1 h2 h3 => by rw [show i = j by omega]; exact Nat.le_refl _, Keep.refl _ _⟩⟩
  case round =>
    obtain ⟨i, rfl, hai, hib, HS⟩ := hrel
    obtain ⟨dk, hR, hSw, hso, hK⟩ := HS.out
    have HR : Seal _ := ⟨hR⟩
    have HSw : Seal _ := ⟨hSw⟩
    have HSo : Seal _ := ⟨hso⟩
    have HK : Seal _ := ⟨hK⟩
    clear hR hSw hso hK HS
    by_cases hlt : i < z
    · have hlt' : (i : Int) < (z : Int) := by omega
      go_wp2_with fail
      go_loopw [7] (fun vj wr2 => ∃ (j : Nat), vj = .int .i64 (j : Nat) ∧ a ≤ j ∧ j ≤ i ∧ Seal (Sorts c0 b T o n a z F (InsAt a i j) w wr2)) (fun vj _ => (intOf vj).toNat)
      case atStart => exact ⟨i, rfl, by omega, Nat.le_refl _, ⟨dk, HR.out, HSw.out, InsAt.start (by have := HSo.out; rwa [Nat.min_eq_left (by omega)] at this), HK.out⟩⟩
      case round =>
        obtain ⟨j, rfl, haj, hji, HT⟩ := hrel
        obtain ⟨dj, hR, hSw, hso, hK⟩ := HT.out
        have hcw : ∀ t, t < n → wr.cell? ⟨b, o + t, none⟩ = some (.int .u64 (dj t : Nat)) := fun t ht => hR.cell ht
        have hfw : ∀ t, t < n → wr.frozen? ⟨b, o + t, none⟩ = false := fun t ht => hR.warm t
        have HR : Seal _ := ⟨hR⟩
        have HSw : Seal _ := ⟨hSw⟩
        have HSo : Seal _ := ⟨hso⟩
        have HK : Seal _ := ⟨hK⟩
        clear hR hSw hso hK HT
        have OUT : Seal ((j = a ∨ dj (j - 1) ≤ dj j) → ∀ q, ∃ i' : Nat, Value.int .i64 ((i : Int) + 1) = .int .i64 (i' : Nat) ∧ a < i' ∧ i' ≤ z + 1 ∧ Seal (Sorts c0 b T o n a z F (fun G => SortedR a (min i' z) G) w (wr.drewN q))) := ⟨fun hs q =>
          ⟨i + 1, by go_num, by omega, by omega, ⟨dj, HR.out.keep (S := Nope) (Keep.of_drewN q) (fun x => x), HSw.out, by
            rw [Nat.min_eq_left (by omega)]
            exact HSo.out.stop haj hji hs, HK.out.drewN q⟩⟩⟩
        go_wp2_with fail
        by_cases hja : a < j
        · go_quiet (first | (go_at_call 42; refine Calls.quiet_of_same (Less_at _ _ _)))
          go_wp2
          · have hl : dj j < dj (j - 1) := by assumption
            go_region
            all_goals go_wp2
            go_roundw
            case rel => exact ⟨j - 1, by congr 1; omega, by omega, by omega, ⟨_, HR.out.swap (i := j) (j := j - 1) (by omega) (by omega) _, HSw.out.step (by omega) (by omega) (by omega) (by omega), HSo.out.step hja hji hl, (((HK.out.drewN _).setCell (fun _ => rfl) _).setCell (fun _ => rfl) _)⟩⟩
            case measure => simp [intOf]; omega
          · have hl : ¬ dj j < dj (j - 1) := by assumption
            go_roundw
            case rel => exact OUT.out (Or.inr (by omega)) nq
            case measure => simp [intOf]; omega
        · go_quiet (first | (go_at_call 42; refine Calls.quiet_of_same (Less_at _ _ _)))
          go_wp2
          go_roundw
          case rel => exact OUT.out (Or.inl (by omega)) nq
          case measure => simp [intOf]; omega
    · have hlt' : ¬ (i : Int) < (z : Int) := by omega
      go_wp2
      go_end0
      exact ⟨rfl, dk, HR.out, HSw.out, by have := HSo.out; rwa [Nat.min_eq_right (by omega)] at this, HK.out⟩

set_option maxHeartbeats 1000000 in
theorem Rev_at {a z : Nat} (h : RowU c0 b T o n F w) (haz : a < z) (hz : z ≤ n) (hn : n < 4611686018427387904) :
    Calls Try.prog 40 #[.slice (some ⟨b, o, none⟩) n cap, .int .i64 (a : Nat), .int .i64 (z : Nat)] w fun e w' => e = .returned (.tuple #[]) ∧ Sorts c0 b T o n a z F (fun _ => True) w w' := by
  have H0 : Seal _ := ⟨h⟩
  clear h
  go_enter Try.func40, Try.ntmps40
  go_wp2
  go_loopw [6, 7] (fun vi vj wr => ∃ (i j : Nat), vi = .int .i64 (i : Nat) ∧ vj = .int .i64 (j : Nat) ∧ a ≤ i ∧ j < z ∧ i ≤ j + 1 ∧ Seal (Sorts c0 b T o n a z F (fun _ => True) w wr)) (fun vi vj _ => (intOf vj).toNat + 1 - (intOf vi).toNat)
  case atStart => exact ⟨a, z - 1, rfl, by congr 1; omega, by omega, by omega, by omega, ⟨F, H0.out, .refl, trivial, Keep.refl _ _⟩⟩
  case round =>
    obtain ⟨i, j, rfl, rfl, hai, hjz, hij, HS⟩ := hrel
    obtain ⟨dk, hR, hSw, -, hK⟩ := HS.out
    have hcw : ∀ t, t < n → wr.cell? ⟨b, o + t, none⟩ = some (.int .u64 (dk t : Nat)) := fun t ht => hR.cell ht
    have hfw : ∀ t, t < n → wr.frozen? ⟨b, o + t, none⟩ = false := fun t ht => hR.warm t
    have HR : Seal _ := ⟨hR⟩
    have HSw : Seal _ := ⟨hSw⟩
    have HK : Seal _ := ⟨hK⟩
    clear hR hSw hK HS
    by_cases hlt : i < j
    · have hlt' : (i : Int) < (j : Int) := by omega
      go_wp2_with fail
      go_region
      all_goals go_wp2
      go_roundw
      case rel => exact ⟨i + 1, j - 1, by go_num, by congr 1; omega, by omega, by omega, by omega, ⟨_, HR.out.swap (i := i) (j := j) (by omega) (by omega) _, HSw.out.step (by omega) (by omega) (by omega) (by omega), trivial, (((HK.out.drewN _).setCell (fun _ => rfl) _).setCell (fun _ => rfl) _)⟩⟩
      case measure => simp [intOf]; omega
    · have hlt' : ¬ (i : Int) < (j : Int) := by omega
      go_wp2
      go_end0
      exact ⟨rfl, dk, HR.out, HSw.out, trivial, HK.out⟩

end

end Go.Proofs.Ytapmbignpdkfbaa
