/-
  The law on how sums, differences and products go back returns true: by a walk over what the functions return.
-/
import Derived.Test.YtfglbbfcjbhmjaaWordLaws
import Derived.Deep.DeepCutAuto
namespace Go.Proofs.Ytfglbbfcjbhmjaa
open Go.RowKit

section
variable (w : World)

structure Seal (p : Prop) : Prop where
  out : p

set_option maxRecDepth 100000 in
set_option maxHeartbeats 2000000 in
theorem back_walk (a b n : Int) (h0 : 0 ≤ a) (h1 : a < 18446744073709551616) (h2 : 0 ≤ b) (h3 : b < 18446744073709551616) (h4 : -9223372036854775808 ≤ n) (h5 : n < 9223372036854775808) :
    Calls Try.prog 5 #[.int .u64 a, .int .u64 b, .int .i64 n] w fun e w' => (∃ m, w' = w.drewN m) ∧ e = .returned (.bool true) := by
  go_enter Try.func5, Try.ntmps5
  go_upto_if 26 with (go_at_call 7; refine (Add_any _ _ _ (by omega) (by omega) (by omega) (by omega)).mono ?_; rintro e w' ⟨rfl, rfl⟩)
  go_cut [6, 7, 8, 9, 10] (fun _ _ _ _ _ wx => w = wx)
  case first =>
    by_cases h : a + b < 18446744073709551616
    · have e1 : Wd.addE a b = 0 := if_pos h
      have e2 : Wd.addS a b = a + b := if_pos h
      have e3 : Wd.subE (a + b) a = 0 := if_neg (by omega)
      have e4 : Wd.subS (a + b) a = b := by unfold Wd.subS; rw [if_neg (by omega)]; omega
      have g1 : ¬ a + b < a := by omega
      have g2 : ¬ a + b < b := by omega
      go_wp2_with fail
      refine (Sub_any _ _ _ (by omega) (by omega) (by omega) (by omega)).mono ?_
      rintro e w' ⟨rfl, rfl⟩
      go_wp2_with fail
      go_meet
      rfl
    · have e1 : Wd.addE a b = 10 := if_neg h
      clear h
      go_wp2_with fail
      go_meet
      rfl
  case rest =>
    subst hcut
    have t7 : (Wd.subE a b == 0) = decide (b ≤ a) := by
      unfold Wd.subE; by_cases h : a < b
      · rw [if_pos h]; simp; omega
      · rw [if_neg h]; simp; omega
    go_upto_if 61 with (go_at_call 9; refine (Sub_any _ _ _ (by omega) (by omega) (by omega) (by omega)).mono ?_; rintro e w' ⟨rfl, rfl⟩)
    go_upto_if 63 with fail
    clear t7
    go_cut [11, 12, 13, 14] (fun _ _ _ _ wx => w = wx)
    case first =>
      by_cases h : a < b
      · have e1 : Wd.subE a b = 10 := if_pos h
        go_wp2_with fail
        go_meet
        rfl
      · have e1 : Wd.subE a b = 0 := if_neg h
        have e2 : Wd.subS a b = a - b := if_neg h
        have e3 : Wd.addE (a - b) b = 0 := if_pos (by omega)
        have e4 : Wd.addS (a - b) b = a := by unfold Wd.addS; rw [if_pos (by omega)]; omega
        go_wp2_with fail
        refine (Add_any _ _ _ (by omega) (by omega) (by omega) (by omega)).mono ?_
        rintro e w' ⟨rfl, rfl⟩
        go_wp2_with fail
        go_meet
        rfl
    case rest =>
      subst hcut
      go_upto_region 14 with (go_at_call 11; refine (Mul_any _ _ _ (by omega) (by omega) (by omega) (by omega)).mono ?_; rintro e w' ⟨rfl, rfl⟩)
      go_cut [15, 16, 101] (fun _ _ s wx => w = wx ∧ s = .bool false)
      case first =>
        by_cases h : a * b < 18446744073709551616
        · have e1 : Wd.mulE a b = 0 := if_pos h
          have e2 : Wd.mulS a b = a * b := if_pos h
          by_cases hb : 0 < b
          · have d1 : (a * b).tdiv b = a := Int.mul_tdiv_cancel a (by omega)
            have d2 : (a * b).tmod b = 0 := Int.mul_tmod_left a b
            have d3 : a * b / b = a := Int.mul_ediv_cancel a (by omega)
            have d4 : ¬ b = 0 := by omega
            have h := Lib.hid h
            go_wp2_with fail
            go_meet
            exact ⟨rfl, rfl⟩
          · have h := Lib.hid h
            go_wp2_with fail
            go_meet
            exact ⟨rfl, rfl⟩
        · have e1 : Wd.mulE a b = 10 := if_neg h
          clear h
          go_wp2_with fail
          go_meet
          exact ⟨rfl, rfl⟩
      case rest =>
        obtain ⟨rfl, rfl⟩ := hcut
        by_cases hn : n < 0
        · go_wp2_with (go_at_call 17; refine (alive_any _).mono ?_; rintro e w' ⟨⟨m1, rfl⟩, rfl⟩)
          go_ret
          exact ⟨⟨_, rfl⟩, rfl⟩
        · by_cases hn2 : 1099511627776 < n
          · go_wp2_with (go_at_call 17; refine (alive_any _).mono ?_; rintro e w' ⟨⟨m1, rfl⟩, rfl⟩)
            go_ret
            exact ⟨⟨_, rfl⟩, rfl⟩
          · have hu : Wd.upS n = (n + 1) / 2 := by unfold Wd.upS; split <;> omega
            have hd : Wd.downS n = n / 2 := by unfold Wd.downS; split <;> omega
            have HU : Seal _ := ⟨hu⟩
            have HD : Seal _ := ⟨hd⟩
            obtain ⟨u, hu'⟩ : ∃ u, (n + 1) / 2 = u := ⟨_, rfl⟩
            obtain ⟨d, hd'⟩ : ∃ d, n / 2 = d := ⟨_, rfl⟩
            rw [hu'] at hu
            rw [hd'] at hd
            have b1 : n ≤ u * 2 := by omega
            have b2 : d * 2 ≤ n := by omega
            have b3 : u ≤ d + 1 := by omega
            have b4 : d ≤ u := by omega
            have b5 : 0 ≤ d := by omega
            have b6 : u - d ≤ 1 := by omega
            by_cases hm : n % 2 = 0
            all_goals
              first
                | have t1 : (u == d) = true := by rw [beq_iff_eq]; omega
                | have t1 : (u == d) = false := by rw [beq_eq_false_iff_ne]; omega
              first
                | have t2 : (n % 2 == 0) = true := by rw [beq_iff_eq]; omega
                | have t2 : (n % 2 == 0) = false := by rw [beq_eq_false_iff_ne]; omega
              clear hm hu' hd' HU HD
              go_upto_region 19 with (first | (go_at_call 13; refine (Up_any _ _ (by omega) (by omega)).mono ?_; rintro e w' ⟨rfl, rfl⟩) | (go_at_call 15; refine (Down_any _ _ (by omega) (by omega)).mono ?_; rintro e w' ⟨rfl, rfl⟩))
              go_wp2_with (go_at_call 17; refine (alive_any _).mono ?_; rintro e w' ⟨⟨m1, rfl⟩, rfl⟩)
              go_ret
              exact ⟨⟨_, rfl⟩, rfl⟩

end
end Go.Proofs.Ytfglbbfcjbhmjaa
