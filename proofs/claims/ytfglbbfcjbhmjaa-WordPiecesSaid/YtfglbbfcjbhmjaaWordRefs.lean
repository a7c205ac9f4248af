/-
  What the document's functions of layer 1 (skerryref01) return, each by a walk: whatever the memory, which they leave as it is.
-/
import Derived.Test.YtfglbbfcjbhmjaaWordPieces
namespace Go.Proofs.Ytfglbbfcjbhmjaa
open Go.RowKit

section
variable (w : World)

theorem rAdd_any (a b : Int) (h0 : 0 ≤ a) (h1 : a < 18446744073709551616) (h2 : 0 ≤ b) (h3 : b < 18446744073709551616) :
    Calls Try.prog 8 #[.int .u64 a, .int .u64 b] w fun e w' => w = w' ∧ e = .returned (.tuple #[.int .u64 (Wd.addS a b), .int .i64 (Wd.addE a b)]) := by
  by_cases h : a + b < 18446744073709551616
  · rw [Wd.addS, Wd.addE, if_pos h, if_pos h]
    go_enter Try.func8, Try.ntmps8
    go_wp2
    go_ret2
    exact ⟨rfl, rfl⟩
  · rw [Wd.addS, Wd.addE, if_neg h, if_neg h]
    go_enter Try.func8, Try.ntmps8
    go_wp2
    go_ret2
    exact ⟨rfl, rfl⟩

theorem rSub_any (a b : Int) (h0 : 0 ≤ a) (h1 : a < 18446744073709551616) (h2 : 0 ≤ b) (h3 : b < 18446744073709551616) :
    Calls Try.prog 10 #[.int .u64 a, .int .u64 b] w fun e w' => w = w' ∧ e = .returned (.tuple #[.int .u64 (Wd.subS a b), .int .i64 (Wd.subE a b)]) := by
  by_cases h : a < b
  · rw [Wd.subS, Wd.subE, if_pos h, if_pos h]
    go_enter Try.func10, Try.ntmps10
    go_wp2
    go_ret2
    exact ⟨rfl, rfl⟩
  · rw [Wd.subS, Wd.subE, if_neg h, if_neg h]
    go_enter Try.func10, Try.ntmps10
    go_wp2
    go_ret2
    exact ⟨rfl, rfl⟩

theorem rMul_any (a b : Int) (h0 : 0 ≤ a) (h1 : a < 18446744073709551616) (h2 : 0 ≤ b) (h3 : b < 18446744073709551616) :
    Calls Try.prog 12 #[.int .u64 a, .int .u64 b] w fun e w' => w = w' ∧ e = .returned (.tuple #[.int .u64 (Wd.mulS a b), .int .i64 (Wd.mulE a b)]) := by
  by_cases hz : 0 < a
  · have T := Lib.hid (Wd.mul_test_ref hz h2)
    have B := Lib.hid (Int.mul_nonneg h0 h2)
    by_cases h : a * b < 18446744073709551616
    · rw [Wd.mulS, Wd.mulE, if_pos h, if_pos h]
      have t : ¬ 18446744073709551615 / a < b := by rw [T.out]; simp [h]
      have h := Lib.hid h
      go_enter Try.func12, Try.ntmps12
      go_wp2
      go_ret2
      exact ⟨rfl, ret2 (wrap_of B.out h.out) rfl⟩
    · rw [Wd.mulS, Wd.mulE, if_neg h, if_neg h]
      have t : 18446744073709551615 / a < b := by rw [T.out]; exact h
      clear h
      go_enter Try.func12, Try.ntmps12
      go_wp2
      go_ret2
      exact ⟨rfl, rfl⟩
  · obtain rfl : a = 0 := by omega
    go_enter Try.func12, Try.ntmps12
    go_wp2
    go_ret2
    exact ⟨rfl, ret2 (by simp [Wd.mulS]) (by simp [Wd.mulE])⟩

theorem rUp_any (n : Int) (h0 : -9223372036854775808 ≤ n) (h1 : n < 9223372036854775808) :
    Calls Try.prog 14 #[.int .i64 n] w fun e w' => w = w' ∧ e = .returned (.int .i64 (Wd.upS n)) := by
  by_cases h : n < 1
  · rw [Wd.upS, if_pos h]
    go_enter Try.func14, Try.ntmps14
    go_wp2
    go_ret
    exact ⟨rfl, rfl⟩
  · rw [Wd.upS, if_neg h]
    go_enter Try.func14, Try.ntmps14
    go_wp2
    go_ret
    exact ⟨rfl, rfl⟩

theorem rDown_any (n : Int) (h0 : -9223372036854775808 ≤ n) (h1 : n < 9223372036854775808) :
    Calls Try.prog 16 #[.int .i64 n] w fun e w' => w = w' ∧ e = .returned (.int .i64 (Wd.downS n)) := by
  by_cases h : n < 1
  · rw [Wd.downS, if_pos h]
    go_enter Try.func16, Try.ntmps16
    go_wp2
    go_ret
    exact ⟨rfl, rfl⟩
  · rw [Wd.downS, if_neg h]
    go_enter Try.func16, Try.ntmps16
    go_wp2
    go_ret
    exact ⟨rfl, rfl⟩

theorem rmay_yes (a n : Int) (h1 : 1 ≤ n) (h2 : n ≤ 64) (h3 : 0 ≤ a) (h4 : a ≤ 64 - n) :
    Calls Try.prog 28 #[.int .i64 a, .int .i64 n] w fun e w' => w = w' ∧ e = .returned (.bool true) := by
  go_enter Try.func28, Try.ntmps28
  go_wp2
  go_ret
  exact ⟨rfl, by simp⟩

theorem rmay_no (a n : Int) (h : ¬ (1 ≤ n ∧ n ≤ 64 ∧ 0 ≤ a ∧ a ≤ 64 - n)) :
    Calls Try.prog 28 #[.int .i64 a, .int .i64 n] w fun e w' => w = w' ∧ e = .returned (.bool false) := by
  by_cases h1 : n < 1
  · go_enter Try.func28, Try.ntmps28
    go_wp2
    go_ret
    exact ⟨rfl, by simp⟩
  · by_cases h2 : 64 < n
    · go_enter Try.func28, Try.ntmps28
      go_wp2
      go_ret
      exact ⟨rfl, by simp⟩
    · by_cases h3 : a < 0
      · go_enter Try.func28, Try.ntmps28
        go_wp2
        go_ret
        exact ⟨rfl, by simp⟩
      · have h4 : 64 - n < a := by omega
        clear h
        go_enter Try.func28, Try.ntmps28
        go_wp2
        go_ret
        exact ⟨rfl, by simp; omega⟩

theorem Wd.bit_eq {v i : Int} (h0 : 0 ≤ v) (j : Nat) (hj : i = j) : (v / 2 ^ i.toNat) % 2 = ((v.toNat / 2 ^ j % 2 : Nat) : Int) := by
  obtain ⟨V, rfl⟩ := Int.eq_ofNat_of_zero_le h0
  subst hj
  simp

theorem rbit_any (t : Bool) (v i : Int) (h0 : 0 ≤ v) (h1 : v < 18446744073709551616) (k0 : 0 ≤ i) (k1 : i < 64) (ht : decide (v.toNat / 2 ^ i.toNat % 2 = 1) = t) :
    Calls Try.prog 29 #[.int .u64 v, .int .i64 i] w fun e w' => w = w' ∧ e = .returned (.bool t) := by
  have T : RowKit.Hid (((v / 2 ^ i.toNat).tmod 2 == 1) = t) := by
    rw [Int.tmod_eq_emod_of_nonneg (Int.ediv_nonneg h0 (Int.le_of_lt (Wd.pow_pos i))), Wd.bit_eq h0 i.toNat (by omega), ← ht]
    rw [Bool.eq_iff_iff, beq_iff_eq, decide_eq_true_iff]; exact ⟨fun h => by exact_mod_cast h, fun h => by exact_mod_cast h⟩
  clear ht
  go_enter Try.func29, Try.ntmps29
  go_wp2
  go_ret
  exact ⟨rfl, by simpa using T.out⟩

theorem rBits_no (v a n : Int) (h : ¬ (1 ≤ n ∧ n ≤ 64 ∧ 0 ≤ a ∧ a ≤ 64 - n)) :
    Calls Try.prog 19 #[.int .u64 v, .int .i64 a, .int .i64 n] w fun e w' => w = w' ∧ e = .returned (.tuple #[.int .u64 0, .int .i64 2]) := by
  have H := Lib.hid h; clear h
  go_enter Try.func19, Try.ntmps19
  go_wp2_with (go_at_call 28; refine (rmay_no _ _ _ H.out).mono ?_; rintro e w' ⟨rfl, rfl⟩)
  go_ret2
  exact ⟨rfl, rfl⟩

theorem Wd.piece_half (v a n j : Nat) (hj : j < n) : piece v a n / 2 ^ j = 2 * (piece v a n / 2 ^ (j + 1)) + v / 2 ^ (a + j) % 2 := by
  have h := gather (piece v a n) j
  have e : piece v a n / 2 ^ j % 2 = v / 2 ^ (a + j) % 2 := by
    have t : (piece v a n).testBit j = v.testBit (a + j) := by
      unfold piece
      rw [Nat.testBit_mod_two_pow, Nat.testBit_div_two_pow]
      simp [hj, Nat.add_comm]
    rw [testBit_div, testBit_div] at t
    have := decide_eq_decide.1 t; omega
  omega

theorem Wd.pow_le' {n : Nat} (h : n ≤ 64) : (2 : Nat) ^ n ≤ 18446744073709551616 := by
  have h1 : (2 : Nat) ^ n ≤ 2 ^ 64 := Nat.pow_le_pow_right (by decide) h
  rwa [Wd.two64] at h1

theorem rBits_yes (v a n : Int) (h0 : 0 ≤ v) (h1 : v < 18446744073709551616) (k1 : 1 ≤ n) (k2 : n ≤ 64) (k3 : 0 ≤ a) (k4 : a ≤ 64 - n) :
    Calls Try.prog 19 #[.int .u64 v, .int .i64 a, .int .i64 n] w fun e w' => w = w' ∧ e = .returned (.tuple #[.int .u64 (Wd.piece v.toNat a.toNat n.toNat : Nat), .int .i64 0]) := by
  obtain ⟨x, hx⟩ : ∃ x, x = Wd.piece v.toNat a.toNat n.toNat := ⟨_, rfl⟩
  have hlt : x < 18446744073709551616 := by
    have l1 := Wd.piece_lt v.toNat a.toNat n.toNat
    have l2 := Wd.pow_le' (n := n.toNat) (by omega)
    rw [hx]; omega
  have half : RowKit.Hid (∀ j : Nat, j < n.toNat → x / 2 ^ j = 2 * (x / 2 ^ (j + 1)) + v.toNat / 2 ^ (a.toNat + j) % 2) := by
    intro j hj; rw [hx]; exact Wd.piece_half _ _ _ j hj
  rw [← hx]
  have X := Lib.hid hx; clear hx
  go_enter Try.func19, Try.ntmps19
  go_wp2_with (go_at_call 28; refine (rmay_yes _ _ _ (by omega) (by omega) (by omega) (by omega)).mono ?_; rintro e w' ⟨rfl, rfl⟩)
  go_loop [8, 9] (fun y i => ∃ c : Int, -1 ≤ c ∧ c < n ∧ i = .int .i64 c ∧ y = .int .u64 (x / 2 ^ (c + 1).toNat : Nat)) (fun _ i => (intOf i + 1).toNat)
  case atStart =>
    refine ⟨n - 1, by omega, by omega, rfl, ?_⟩
    have l1 := Wd.piece_lt v.toNat a.toNat n.toNat
    rw [← X.out] at l1
    rw [show (n - 1 + 1).toNat = n.toNat by omega, Nat.div_eq_of_lt l1]; rfl
  case round =>
    obtain ⟨c, hc1, hc2, rfl, rfl⟩ := hrel
    by_cases hc : 0 ≤ c
    · obtain ⟨j, rfl⟩ := Int.eq_ofNat_of_zero_le hc
      have hh := half.out j (by omega)
      have e1 : (a + (j : Int)).toNat = a.toNat + j := by omega
      rw [show ((j : Int) + 1).toNat = j + 1 by omega]
      have hle : x / 2 ^ j ≤ x := Nat.div_le_self _ _
      obtain ⟨y, hy⟩ : ∃ y, x / 2 ^ (j + 1) = y := ⟨_, rfl⟩
      rw [hy] at hh ⊢
      have hy' := Lib.hid hy; clear hy
      have hE := Lib.hid e1; clear e1
      by_cases hb : v.toNat / 2 ^ (a.toNat + j) % 2 = 1
      · rw [hb] at hh
        have hb' := Lib.hid (show decide (v.toNat / 2 ^ (a + (j : Int)).toNat % 2 = 1) = true by rw [hE.out]; simpa using hb)
        have hB := Lib.hid hb; clear hb
        have hy2 : (2 : Int) * y + 1 < 18446744073709551616 := by omega
        have hH := Lib.hid hh; clear hh
        go_wp2_with (go_at_call 29; refine (rbit_any _ true _ _ (by omega) (by omega) (by omega) (by omega) hb'.out).mono ?_; rintro e w' ⟨rfl, rfl⟩)
        go_round
        case rel =>
          refine ⟨(j : Int) - 1, by omega, by omega, rfl, ?_⟩
          rw [show ((j : Int) - 1 + 1).toNat = j by omega, hH.out]
          go_num
        case measure => simp only [intOf]; omega
      · have h2 : v.toNat / 2 ^ (a.toNat + j) % 2 = 0 := by omega
        rw [h2] at hh
        have hb' := Lib.hid (show decide (v.toNat / 2 ^ (a + (j : Int)).toNat % 2 = 1) = false by rw [hE.out]; simpa using hb)
        have hB := Lib.hid hb; clear hb
        have hB2 := Lib.hid h2; clear h2
        have hy2 : (2 : Int) * y + 1 < 18446744073709551616 := by omega
        have hH := Lib.hid hh; clear hh
        go_wp2_with (go_at_call 29; refine (rbit_any _ false _ _ (by omega) (by omega) (by omega) (by omega) hb'.out).mono ?_; rintro e w' ⟨rfl, rfl⟩)
        go_round
        case rel =>
          refine ⟨(j : Int) - 1, by omega, by omega, rfl, ?_⟩
          rw [show ((j : Int) - 1 + 1).toNat = j by omega, hH.out]
          go_num
        case measure => simp only [intOf]; omega
    · obtain rfl : c = -1 := by omega
      go_wp2
      go_ret2
      exact ⟨rfl, by simp⟩

theorem rOnes_any (v : Int) (h0 : 0 ≤ v) (h1 : v < 18446744073709551616) :
    Calls Try.prog 23 #[.int .u64 v] w fun e w' => w = w' ∧ e = .returned (.int .i64 (Wd.ones v.toNat)) := by
  go_enter Try.func23, Try.ntmps23
  go_wp2
  go_loop [3, 4] (fun n i => ∃ k : Nat, k ≤ 64 ∧ i = .int .i64 k ∧ n = .int .i64 (Wd.onesF k v.toNat : Nat)) (fun _ i => 64 - (intOf i).toNat)
  case atStart => exact ⟨0, by omega, rfl, rfl⟩
  case round =>
    obtain ⟨k, hk, rfl, rfl⟩ := hrel
    have hs := Lib.hid (Wd.onesF_last k v.toNat)
    have hl := Wd.onesF_le k v.toNat
    obtain ⟨c, hc⟩ : ∃ c, Wd.onesF k v.toNat = c := ⟨_, rfl⟩
    rw [hc] at hl ⊢
    have hC := Lib.hid hc; clear hc
    by_cases hlt : k < 64
    · by_cases hb : v.toNat / 2 ^ k % 2 = 1
      · have hB := Lib.hid hb; clear hb
        go_wp2_with (go_at_call 29; refine (rbit_any _ true _ _ (by omega) (by omega) (by omega) (by omega) (by rw [Int.toNat_natCast, hB.out]; rfl)).mono ?_; rintro e w' ⟨rfl, rfl⟩)
        go_round
        case rel => exact ⟨k + 1, by omega, by go_num, by rw [hs.out, hC.out, hB.out]; go_num⟩
        case measure => simp only [intOf]; omega
      · have hB := Lib.hid (show v.toNat / 2 ^ k % 2 = 0 by omega); clear hb
        go_wp2_with (go_at_call 29; refine (rbit_any _ false _ _ (by omega) (by omega) (by omega) (by omega) (by rw [Int.toNat_natCast, hB.out]; rfl)).mono ?_; rintro e w' ⟨rfl, rfl⟩)
        go_round
        case rel => exact ⟨k + 1, by omega, by go_num, by rw [hs.out, hC.out, hB.out]; rfl⟩
        case measure => simp only [intOf]; omega
    · obtain rfl : k = 64 := by omega
      go_wp2
      go_ret
      exact ⟨rfl, ret1 (by unfold Wd.ones; rw [hC.out])⟩

theorem rLow_any (v : Int) (h0 : 0 ≤ v) (h1 : v < 18446744073709551616) :
    Calls Try.prog 25 #[.int .u64 v] w fun e w' => w = w' ∧ e = .returned (.int .i64 (Wd.low v.toNat)) := by
  go_enter Try.func25, Try.ntmps25
  go_wp2
  go_loop [3] (fun i => ∃ k : Nat, k ≤ 64 ∧ i = .int .i64 k ∧ ∀ j, j < k → v.toNat / 2 ^ j % 2 ≠ 1) (fun i => 64 - (intOf i).toNat)
  case atStart => exact ⟨0, by omega, rfl, fun _ h => by omega⟩
  case round =>
    obtain ⟨k, hk, rfl, hb⟩ := hrel
    have hb := Lib.hid hb
    by_cases hlt : k < 64
    · by_cases ht : v.toNat / 2 ^ k % 2 = 1
      · have hB := Lib.hid ht; clear ht
        go_wp2_with (go_at_call 29; refine (rbit_any _ true _ _ (by omega) (by omega) (by omega) (by omega) (by rw [Int.toNat_natCast, hB.out]; rfl)).mono ?_; rintro e w' ⟨rfl, rfl⟩)
        go_ret
        exact ⟨rfl, ret1 (by rw [Wd.low_eq hk hb.out (fun _ => hB.out)])⟩
      · have hB := Lib.hid ht; clear ht
        go_wp2_with (go_at_call 29; refine (rbit_any _ false _ _ (by omega) (by omega) (by omega) (by omega) (by rw [Int.toNat_natCast]; simpa using hB.out)).mono ?_; rintro e w' ⟨rfl, rfl⟩)
        go_round
        case rel =>
          refine ⟨k + 1, by omega, by go_num, fun j hj => ?_⟩
          by_cases e : j = k
          · subst e; exact hB.out
          · exact hb.out j (by omega)
        case measure => simp [intOf]; omega
    · go_wp2
      go_ret
      exact ⟨rfl, ret1 (by rw [Wd.low_eq (Nat.le_refl 64) (fun j hj => hb.out j (by omega)) (fun h => by omega)]; rfl)⟩

theorem rLay_no (v a n x : Int) (h : ¬ (1 ≤ n ∧ n ≤ 64 ∧ 0 ≤ a ∧ a ≤ 64 - n)) :
    Calls Try.prog 21 #[.int .u64 v, .int .i64 a, .int .i64 n, .int .u64 x] w fun e w' => w = w' ∧ e = .returned (.tuple #[.int .u64 0, .int .i64 2]) := by
  have H := Lib.hid h; clear h
  go_enter Try.func21, Try.ntmps21
  go_wp2_with (go_at_call 28; refine (rmay_no _ _ _ H.out).mono ?_; rintro e w' ⟨rfl, rfl⟩)
  go_ret2
  exact ⟨rfl, rfl⟩

theorem rLay_long (v a n x : Int) (k1 : 1 ≤ n) (k2 : n ≤ 64) (k3 : 0 ≤ a) (k4 : a ≤ 64 - n) (x1 : ¬ x < 2 ^ n.toNat) (x2 : x < 18446744073709551616) :
    Calls Try.prog 21 #[.int .u64 v, .int .i64 a, .int .i64 n, .int .u64 x] w fun e w' => w = w' ∧ e = .returned (.tuple #[.int .u64 0, .int .i64 2]) := by
  have hn : n < 64 := by
    by_cases h : n = 64
    · subst h; have := Wd.pow64; omega
    · omega
  have t : IntKind.u64.wrap (2 ^ n.toNat) ≤ x := by
    rw [wrap_of (Int.le_of_lt (Wd.pow_pos n)) (Wd.pow_lt hn)]; omega
  clear x1
  go_enter Try.func21, Try.ntmps21
  go_wp2_with (go_at_call 28; refine (rmay_yes _ _ _ (by omega) (by omega) (by omega) (by omega)).mono ?_; rintro e w' ⟨rfl, rfl⟩)
  go_ret2
  exact ⟨rfl, rfl⟩

theorem Wd.laid_half {v a n x : Nat} (h : x < 2 ^ n) (j : Nat) : laid v a n x / 2 ^ j = 2 * (laid v a n x / 2 ^ (j + 1)) + (if a ≤ j ∧ j < a + n then x / 2 ^ (j - a) % 2 else v / 2 ^ j % 2) := by
  have h1 := gather (laid v a n x) j
  rw [div_laid h j] at h1
  exact h1

theorem Wd.laid_lt' {v a n x : Nat} (hv : v < 18446744073709551616) (hn : a + n ≤ 64) (h : x < 2 ^ n) : laid v a n x < 18446744073709551616 := by
  have := laid_lt (at_ := a) (by rw [two64]; exact hv) hn h
  rwa [two64] at this

theorem Wd.top_zero {v : Nat} (hv : v < 18446744073709551616) : v / 2 ^ 64 = 0 := Nat.div_eq_of_lt (by rw [two64]; exact hv)

end
end Go.Proofs.Ytfglbbfcjbhmjaa
