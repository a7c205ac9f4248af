/-
  The four laws on words return true: each by a walk over what the functions return.
-/
import Derived.Test.YtfglbbfcjbhmjaaWordRefLay
namespace Go.Proofs.Ytfglbbfcjbhmjaa
open Go.RowKit

section
variable (w : World)

theorem Wd.low0 : Wd.low 0 = 64 := by decide +kernel
theorem Wd.low4 : Wd.low 4 = 2 := by decide +kernel
theorem Wd.ones5 : Wd.ones 5 = 2 := by unfold Wd.ones; decide +kernel

theorem al_add : Calls Try.prog 7 #[.int .u64 18446744073709551615, .int .u64 1] w fun e w' => w = w' ∧ e = .returned (.tuple #[.int .u64 0, .int .i64 10]) :=
  (Add_any w 18446744073709551615 1 (by omega) (by omega) (by omega) (by omega)).mono fun _ _ ⟨a, b⟩ => ⟨a, b.trans (ret2 (by decide +kernel) (by decide +kernel))⟩
theorem al_sub : Calls Try.prog 9 #[.int .u64 0, .int .u64 1] w fun e w' => w = w' ∧ e = .returned (.tuple #[.int .u64 0, .int .i64 10]) :=
  (Sub_any w 0 1 (by omega) (by omega) (by omega) (by omega)).mono fun _ _ ⟨a, b⟩ => ⟨a, b.trans (ret2 (by decide +kernel) (by decide +kernel))⟩
theorem al_mul : Calls Try.prog 11 #[.int .u64 4294967296, .int .u64 4294967296] w fun e w' => w = w' ∧ e = .returned (.tuple #[.int .u64 0, .int .i64 10]) :=
  (Mul_any w 4294967296 4294967296 (by omega) (by omega) (by omega) (by omega)).mono fun _ _ ⟨a, b⟩ => ⟨a, b.trans (ret2 (by decide +kernel) (by decide +kernel))⟩
theorem al_bits : Calls Try.prog 18 #[.int .u64 240, .int .i64 4, .int .i64 4] w fun e w' => (∃ m, w' = w.drewN m) ∧ e = .returned (.tuple #[.int .u64 15, .int .i64 0]) :=
  (Bits_yes w 240 4 4 (by omega) (by omega) (by omega) (by omega) (by omega) (by omega)).mono fun _ _ ⟨a, b⟩ => ⟨a, b.trans (ret2 (by decide +kernel) rfl)⟩
theorem al_lay : Calls Try.prog 20 #[.int .u64 240, .int .i64 4, .int .i64 4, .int .u64 1] w fun e w' => (∃ m, w' = w.drewN m) ∧ e = .returned (.tuple #[.int .u64 16, .int .i64 0]) :=
  (Lay_yes w 240 4 4 1 (by omega) (by omega) (by omega) (by omega) (by omega) (by omega) (by omega) (by decide)).mono fun _ _ ⟨a, b⟩ => ⟨a, b.trans (ret2 (by decide +kernel) rfl)⟩
theorem al_lay2 : Calls Try.prog 20 #[.int .u64 0, .int .i64 0, .int .i64 1, .int .u64 2] w fun e w' => w = w' ∧ e = .returned (.tuple #[.int .u64 0, .int .i64 2]) :=
  Lay_long w 0 0 1 2 (by omega) (by omega) (by omega) (by omega) (by decide) (by omega)
theorem al_up : Calls Try.prog 13 #[.int .i64 3] w fun e w' => w = w' ∧ e = .returned (.int .i64 2) :=
  (Up_any w 3 (by omega) (by omega)).mono fun _ _ ⟨a, b⟩ => ⟨a, b.trans (ret1 (by decide +kernel))⟩
theorem al_up2 : Calls Try.prog 13 #[.int .i64 (-1)] w fun e w' => w = w' ∧ e = .returned (.int .i64 0) :=
  (Up_any w (-1) (by omega) (by omega)).mono fun _ _ ⟨a, b⟩ => ⟨a, b.trans (ret1 (by decide +kernel))⟩
theorem al_down : Calls Try.prog 15 #[.int .i64 3] w fun e w' => w = w' ∧ e = .returned (.int .i64 1) :=
  (Down_any w 3 (by omega) (by omega)).mono fun _ _ ⟨a, b⟩ => ⟨a, b.trans (ret1 (by decide +kernel))⟩
theorem al_ones : Calls Try.prog 22 #[.int .u64 5] w fun e w' => w = w' ∧ e = .returned (.int .i64 2) :=
  (Ones_any w 5 (by omega) (by omega)).mono fun _ _ ⟨a, b⟩ => ⟨a, b.trans (ret1 (by show ((Wd.ones 5 : Nat) : Int) = 2; rw [Wd.ones5]; rfl))⟩
theorem al_low : Calls Try.prog 24 #[.int .u64 4] w fun e w' => w = w' ∧ e = .returned (.int .i64 2) :=
  (Low_any w 4 (by omega) (by omega)).mono fun _ _ ⟨a, b⟩ => ⟨a, b.trans (ret1 (by show ((Wd.low 4 : Nat) : Int) = 2; rw [Wd.low4]; rfl))⟩
theorem al_low0 : Calls Try.prog 24 #[.int .u64 0] w fun e w' => w = w' ∧ e = .returned (.int .i64 64) :=
  (Low_any w 0 (by omega) (by omega)).mono fun _ _ ⟨a, b⟩ => ⟨a, b.trans (ret1 (by show ((Wd.low 0 : Nat) : Int) = 64; rw [Wd.low0]; rfl))⟩

set_option maxHeartbeats 1000000 in
theorem alive_any : Calls Try.prog 17 #[] w fun e w' => (∃ m, w' = w.drewN m) ∧ e = .returned (.bool true) := by
  go_enter Try.func17, Try.ntmps17
  go_wp2_with fail
  refine (al_add _).mono ?_
  rintro e w' ⟨rfl, rfl⟩
  go_wp2_with fail
  refine (al_sub _).mono ?_
  rintro e w' ⟨rfl, rfl⟩
  go_wp2_with fail
  refine (al_mul _).mono ?_
  rintro e w' ⟨rfl, rfl⟩
  go_wp2_with fail
  refine (al_bits _).mono ?_
  rintro e w' ⟨⟨m1, rfl⟩, rfl⟩
  go_wp2_with fail
  refine (al_lay _).mono ?_
  rintro e w' ⟨⟨m2, rfl⟩, rfl⟩
  go_wp2_with fail
  refine (al_lay2 _).mono ?_
  rintro e w' ⟨rfl, rfl⟩
  go_wp2_with fail
  refine (al_up _).mono ?_
  rintro e w' ⟨rfl, rfl⟩
  go_wp2_with fail
  refine (al_down _).mono ?_
  rintro e w' ⟨rfl, rfl⟩
  go_wp2_with fail
  refine (al_up2 _).mono ?_
  rintro e w' ⟨rfl, rfl⟩
  go_wp2_with fail
  refine (al_ones _).mono ?_
  rintro e w' ⟨rfl, rfl⟩
  go_wp2_with fail
  refine (al_low _).mono ?_
  rintro e w' ⟨rfl, rfl⟩
  go_wp2_with fail
  refine (al_low0 _).mono ?_
  rintro e w' ⟨rfl, rfl⟩
  go_wp2_with fail
  go_ret
  exact ⟨⟨_, rfl⟩, rfl⟩

set_option maxHeartbeats 1000000 in
theorem numbers_walk (a b n : Int) (h0 : 0 ≤ a) (h1 : a < 18446744073709551616) (h2 : 0 ≤ b) (h3 : b < 18446744073709551616) (h4 : -9223372036854775808 ≤ n) (h5 : n < 9223372036854775808) :
    Calls Try.prog 3 #[.int .u64 a, .int .u64 b, .int .i64 n] w fun e w' => (∃ m, w' = w.drewN m) ∧ e = .returned (.bool true) := by
  go_enter Try.func3, Try.ntmps3
  go_wp2_with fail
  refine (Add_any _ _ _ (by omega) (by omega) (by omega) (by omega)).mono ?_
  rintro e w' ⟨rfl, rfl⟩
  go_wp2_with fail
  refine (rAdd_any _ _ _ (by omega) (by omega) (by omega) (by omega)).mono ?_
  rintro e w' ⟨rfl, rfl⟩
  go_wp2_with fail
  refine (Sub_any _ _ _ (by omega) (by omega) (by omega) (by omega)).mono ?_
  rintro e w' ⟨rfl, rfl⟩
  go_wp2_with fail
  refine (rSub_any _ _ _ (by omega) (by omega) (by omega) (by omega)).mono ?_
  rintro e w' ⟨rfl, rfl⟩
  go_wp2_with fail
  refine (Mul_any _ _ _ (by omega) (by omega) (by omega) (by omega)).mono ?_
  rintro e w' ⟨rfl, rfl⟩
  go_wp2_with fail
  refine (rMul_any _ _ _ (by omega) (by omega) (by omega) (by omega)).mono ?_
  rintro e w' ⟨rfl, rfl⟩
  go_wp2_with fail
  refine (Up_any _ _ (by omega) (by omega)).mono ?_
  rintro e w' ⟨rfl, rfl⟩
  go_wp2_with fail
  refine (rUp_any _ _ (by omega) (by omega)).mono ?_
  rintro e w' ⟨rfl, rfl⟩
  go_wp2_with fail
  refine (Down_any _ _ (by omega) (by omega)).mono ?_
  rintro e w' ⟨rfl, rfl⟩
  go_wp2_with fail
  refine (rDown_any _ _ (by omega) (by omega)).mono ?_
  rintro e w' ⟨rfl, rfl⟩
  go_wp2_with fail
  refine (alive_any _ ).mono ?_
  rintro e w' ⟨⟨m1, rfl⟩, rfl⟩
  go_wp2_with fail
  go_ret
  exact ⟨⟨_, rfl⟩, rfl⟩

set_option maxHeartbeats 1000000 in
theorem pieces_walk (v a n x : Int) (h0 : 0 ≤ v) (h1 : v < 18446744073709551616) (h2 : 0 ≤ x) (h3 : x < 18446744073709551616) (h4 : -9223372036854775808 ≤ n) (h5 : n < 9223372036854775808) :
    Calls Try.prog 4 #[.int .u64 v, .int .i64 a, .int .i64 n, .int .u64 x] w fun e w' => (∃ m, w' = w.drewN m) ∧ e = .returned (.bool true) := by
  by_cases hm : 1 ≤ n ∧ n ≤ 64 ∧ 0 ≤ a ∧ a ≤ 64 - n
  · obtain ⟨k1, k2, k3, k4⟩ := hm
    by_cases hx : x < 2 ^ n.toNat
    · have X := Lib.hid hx; clear hx
      go_enter Try.func4, Try.ntmps4
      go_wp2_with fail
      refine (Bits_yes _ _ _ _ (by omega) (by omega) (by omega) (by omega) (by omega) (by omega)).mono ?_
      rintro e w' ⟨⟨m1, rfl⟩, rfl⟩
      go_wp2_with fail
      refine (rBits_yes _ _ _ _ (by omega) (by omega) (by omega) (by omega) (by omega) (by omega)).mono ?_
      rintro e w' ⟨rfl, rfl⟩
      go_wp2_with fail
      refine (Lay_yes _ _ _ _ _ (by omega) (by omega) (by omega) (by omega) (by omega) (by omega) (by omega) X.out).mono ?_
      rintro e w' ⟨⟨m2, rfl⟩, rfl⟩
      go_wp2_with fail
      refine (rLay_yes _ _ _ _ _ (by omega) (by omega) (by omega) (by omega) (by omega) (by omega) (by omega) X.out).mono ?_
      rintro e w' ⟨rfl, rfl⟩
      go_wp2_with fail
      refine (Ones_any _ _ (by omega) (by omega)).mono ?_
      rintro e w' ⟨rfl, rfl⟩
      go_wp2_with fail
      refine (rOnes_any _ _ (by omega) (by omega)).mono ?_
      rintro e w' ⟨rfl, rfl⟩
      go_wp2_with fail
      refine (Low_any _ _ (by omega) (by omega)).mono ?_
      rintro e w' ⟨rfl, rfl⟩
      go_wp2_with fail
      refine (rLow_any _ _ (by omega) (by omega)).mono ?_
      rintro e w' ⟨rfl, rfl⟩
      go_wp2_with fail
      refine (alive_any _ ).mono ?_
      rintro e w' ⟨⟨m3, rfl⟩, rfl⟩
      go_wp2_with fail
      go_ret
      exact ⟨⟨_, rfl⟩, rfl⟩
    · have X := Lib.hid hx; clear hx
      go_enter Try.func4, Try.ntmps4
      go_wp2_with fail
      refine (Bits_yes _ _ _ _ (by omega) (by omega) (by omega) (by omega) (by omega) (by omega)).mono ?_
      rintro e w' ⟨⟨m1, rfl⟩, rfl⟩
      go_wp2_with fail
      refine (rBits_yes _ _ _ _ (by omega) (by omega) (by omega) (by omega) (by omega) (by omega)).mono ?_
      rintro e w' ⟨rfl, rfl⟩
      go_wp2_with fail
      refine (Lay_long _ _ _ _ _ (by omega) (by omega) (by omega) (by omega) (Int.not_lt.2 X.out) (by omega)).mono ?_
      rintro e w' ⟨rfl, rfl⟩
      go_wp2_with fail
      refine (rLay_long _ _ _ _ _ (by omega) (by omega) (by omega) (by omega) (Int.not_lt.2 X.out) (by omega)).mono ?_
      rintro e w' ⟨rfl, rfl⟩
      go_wp2_with fail
      refine (Ones_any _ _ (by omega) (by omega)).mono ?_
      rintro e w' ⟨rfl, rfl⟩
      go_wp2_with fail
      refine (rOnes_any _ _ (by omega) (by omega)).mono ?_
      rintro e w' ⟨rfl, rfl⟩
      go_wp2_with fail
      refine (Low_any _ _ (by omega) (by omega)).mono ?_
      rintro e w' ⟨rfl, rfl⟩
      go_wp2_with fail
      refine (rLow_any _ _ (by omega) (by omega)).mono ?_
      rintro e w' ⟨rfl, rfl⟩
      go_wp2_with fail
      refine (alive_any _ ).mono ?_
      rintro e w' ⟨⟨m3, rfl⟩, rfl⟩
      go_wp2_with fail
      go_ret
      exact ⟨⟨_, rfl⟩, rfl⟩
  · have X := Lib.hid hm; clear hm
    go_enter Try.func4, Try.ntmps4
    go_wp2_with fail
    refine (Bits_no _ _ _ _ (by omega) X.out).mono ?_
    rintro e w' ⟨rfl, rfl⟩
    go_wp2_with fail
    refine (rBits_no _ _ _ _ X.out).mono ?_
    rintro e w' ⟨rfl, rfl⟩
    go_wp2_with fail
    refine (Lay_no _ _ _ _ _ (by omega) X.out).mono ?_
    rintro e w' ⟨rfl, rfl⟩
    go_wp2_with fail
    refine (rLay_no _ _ _ _ _ X.out).mono ?_
    rintro e w' ⟨rfl, rfl⟩
    go_wp2_with fail
    refine (Ones_any _ _ (by omega) (by omega)).mono ?_
    rintro e w' ⟨rfl, rfl⟩
    go_wp2_with fail
    refine (rOnes_any _ _ (by omega) (by omega)).mono ?_
    rintro e w' ⟨rfl, rfl⟩
    go_wp2_with fail
    refine (Low_any _ _ (by omega) (by omega)).mono ?_
    rintro e w' ⟨rfl, rfl⟩
    go_wp2_with fail
    refine (rLow_any _ _ (by omega) (by omega)).mono ?_
    rintro e w' ⟨rfl, rfl⟩
    go_wp2_with fail
    refine (alive_any _ ).mono ?_
    rintro e w' ⟨⟨m3, rfl⟩, rfl⟩
    go_wp2_with fail
    go_ret
    exact ⟨⟨_, rfl⟩, rfl⟩

end
end Go.Proofs.Ytfglbbfcjbhmjaa
