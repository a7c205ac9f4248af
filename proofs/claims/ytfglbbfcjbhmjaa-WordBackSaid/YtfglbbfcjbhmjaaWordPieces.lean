/-
  What the functions of package word that cut and lay pieces return, each by a walk: whatever the memory, which they leave as it is.
-/
import Derived.Test.YtfglbbfcjbhmjaaWordWalks
namespace Go.Proofs.Ytfglbbfcjbhmjaa
open Go.RowKit

section
variable (w : World)

theorem may_yes (a n : Int) (h1 : 1 ≤ n) (h2 : n ≤ 64) (h3 : 0 ≤ a) (h4 : a ≤ 64 - n) :
    Calls Try.prog 26 #[.int .i64 a, .int .i64 n] w fun e w' => w = w' ∧ e = .returned (.bool true) := by
  go_enter Try.func26, Try.ntmps26
  go_wp2
  go_ret
  exact ⟨rfl, by simp; omega⟩

theorem may_no (a n : Int) (h0 : -9223372036854775808 ≤ n) (h : ¬ (1 ≤ n ∧ n ≤ 64 ∧ 0 ≤ a ∧ a ≤ 64 - n)) :
    Calls Try.prog 26 #[.int .i64 a, .int .i64 n] w fun e w' => w = w' ∧ e = .returned (.bool false) := by
  by_cases h1 : n < 1
  · go_enter Try.func26, Try.ntmps26
    go_wp2
    go_ret
    exact ⟨rfl, rfl⟩
  · by_cases h2 : 64 < n
    · go_enter Try.func26, Try.ntmps26
      go_wp2
      go_ret
      exact ⟨rfl, rfl⟩
    · by_cases h3 : a < 0
      · go_enter Try.func26, Try.ntmps26
        go_wp2
        go_ret
        exact ⟨rfl, rfl⟩
      · have h4 : 64 - n < a := by omega
        clear h
        go_enter Try.func26, Try.ntmps26
        go_wp2
        go_ret
        exact ⟨rfl, by simp⟩

theorem Wd.pow_le {n : Int} (h : n ≤ 64) : (2 : Int) ^ n.toNat ≤ 18446744073709551616 := by
  have h1 : (2 : Nat) ^ n.toNat ≤ 2 ^ 64 := Nat.pow_le_pow_right (by decide) (by omega)
  rw [Wd.two64] at h1
  have e : (2 : Int) ^ n.toNat = ((2 ^ n.toNat : Nat) : Int) := by simp
  rw [e]; omega
theorem Wd.pow_lt {n : Int} (h : n < 64) : (2 : Int) ^ n.toNat < 18446744073709551616 := by
  have h1 : (2 : Nat) ^ n.toNat < 2 ^ 64 := Nat.pow_lt_pow_right (by decide) (by omega)
  rw [Wd.two64] at h1
  have e : (2 : Int) ^ n.toNat = ((2 ^ n.toNat : Nat) : Int) := by simp
  rw [e]; omega
theorem Wd.pow_pos (n : Int) : (0 : Int) < (2 : Int) ^ n.toNat := Int.pow_pos (by decide)

theorem Wd.all_ones : bits BinOp.xor IntKind.u64 IntKind.u64.max 0 = 18446744073709551615 := by decide +kernel

theorem Wd.mask_wrap {m : Int} (h0 : 0 < m) (h1 : m < 18446744073709551616) : IntKind.u64.wrap (IntKind.u64.wrap m - 1) = m - 1 := by
  rw [wrap_of (n := m) (by omega) (by omega), wrap_of (by omega) (by omega)]

set_option maxRecDepth 100000 in
theorem mask_small (n : Int) (h1 : 1 ≤ n) (h : n < 64) :
    Calls Try.prog 27 #[.int .i64 n] w fun e w' => w = w' ∧ e = .returned (.int .u64 (2 ^ n.toNat - 1)) := by
  go_enter Try.func27, Try.ntmps27
  go_wp2
  go_ret
  exact ⟨rfl, ret1 (Wd.mask_wrap (Wd.pow_pos n) (Wd.pow_lt h))⟩

set_option maxRecDepth 100000 in
theorem mask_whole :
    Calls Try.prog 27 #[.int .i64 64] w fun e w' => w = w' ∧ e = .returned (.int .u64 18446744073709551615) := by
  go_enter Try.func27, Try.ntmps27
  go_wp2
  go_ret
  exact ⟨rfl, ret1 Wd.all_ones⟩

theorem Wd.pow64 : (2 : Int) ^ (64 : Int).toNat - 1 = 18446744073709551615 := by decide +kernel

theorem mask_any (n : Int) (h1 : 1 ≤ n) (h2 : n ≤ 64) :
    Calls Try.prog 27 #[.int .i64 n] w fun e w' => w = w' ∧ e = .returned (.int .u64 (2 ^ n.toNat - 1)) := by
  by_cases h : n < 64
  · exact mask_small w n h1 h
  · obtain rfl : n = 64 := by omega
    rw [Wd.pow64]
    exact mask_whole w

theorem Wd.piece_bits {v a n : Int} (h0 : 0 ≤ v) (h1 : v < 18446744073709551616) (h2 : n ≤ 64) :
    bits BinOp.and IntKind.u64 (v / 2 ^ a.toNat) (2 ^ n.toNat - 1) = ((Wd.piece v.toNat a.toNat n.toNat : Nat) : Int) := by
  obtain ⟨V, rfl⟩ := Int.eq_ofNat_of_zero_le h0
  have P1 := Wd.pow_le h2
  have P2 := Wd.pow_pos n
  have e : ((V : Int) / 2 ^ a.toNat) = ((V / 2 ^ a.toNat : Nat) : Int) := by simp
  have e' : ((2 : Int) ^ n.toNat - 1) = ((2 ^ n.toNat - 1 : Nat) : Int) := by
    rw [Int.natCast_sub (Nat.two_pow_pos _)]; simp
  have e3 : (2 : Int) ^ n.toNat = ((2 ^ n.toNat : Nat) : Int) := by simp
  have hl : V / 2 ^ a.toNat < 18446744073709551616 := Nat.lt_of_le_of_lt (Nat.div_le_self _ _) (by omega)
  rw [e, e', u64_and_nat _ _ hl (by omega), Nat.and_two_pow_sub_one_eq_mod, Int.toNat_natCast]
  rfl

theorem Bits_yes (v a n : Int) (h0 : 0 ≤ v) (h1 : v < 18446744073709551616) (k1 : 1 ≤ n) (k2 : n ≤ 64) (k3 : 0 ≤ a) (k4 : a ≤ 64 - n) :
    Calls Try.prog 18 #[.int .u64 v, .int .i64 a, .int .i64 n] w fun e w' => (∃ m, w' = w.drewN m) ∧ e = .returned (.tuple #[.int .u64 (Wd.piece v.toNat a.toNat n.toNat : Nat), .int .i64 0]) := by
  have B := Lib.hid (Wd.piece_bits (v := v) (a := a) (n := n) h0 h1 k2)
  go_enter Try.func18, Try.ntmps18
  go_wp2_with (go_at_call 26; refine (may_yes _ _ _ (by omega) (by omega) (by omega) (by omega)).mono ?_; rintro e w' ⟨rfl, rfl⟩)
  go_quiet ((go_at_call 27; exact Calls.quiet_of_same ((mask_any _ _ (by omega) (by omega)).mono fun _ _ ⟨a, b⟩ => ⟨b, a.symm⟩)))
  go_wp2
  go_ret2
  exact ⟨⟨_, rfl⟩, ret2 B.out rfl⟩

theorem Bits_no (v a n : Int) (h0 : -9223372036854775808 ≤ n) (h : ¬ (1 ≤ n ∧ n ≤ 64 ∧ 0 ≤ a ∧ a ≤ 64 - n)) :
    Calls Try.prog 18 #[.int .u64 v, .int .i64 a, .int .i64 n] w fun e w' => w = w' ∧ e = .returned (.tuple #[.int .u64 0, .int .i64 2]) := by
  have H := Lib.hid h; clear h
  go_enter Try.func18, Try.ntmps18
  go_wp2_with (go_at_call 26; refine (may_no _ _ _ (by omega) H.out).mono ?_; rintro e w' ⟨rfl, rfl⟩)
  go_ret2
  exact ⟨rfl, rfl⟩

theorem Wd.shl_small {x a n : Int} (k2 : n ≤ 64) (k3 : 0 ≤ a) (k4 : a ≤ 64 - n) (x0 : 0 ≤ x) (x1 : x < 2 ^ n.toNat) (k1 : 0 ≤ n) :
    IntKind.u64.wrap (x * 2 ^ a.toNat) = ((x.toNat * 2 ^ a.toNat : Nat) : Int) ∧ x.toNat * 2 ^ a.toNat < 18446744073709551616 := by
  obtain ⟨X, rfl⟩ := Int.eq_ofNat_of_zero_le x0
  have hX : X < 2 ^ n.toNat := by
    have e : (2 : Int) ^ n.toNat = ((2 ^ n.toNat : Nat) : Int) := by simp
    rw [e] at x1; omega
  have h : X * 2 ^ a.toNat < 18446744073709551616 := by
    have h1 : X * 2 ^ a.toNat < 2 ^ n.toNat * 2 ^ a.toNat := Nat.mul_lt_mul_of_pos_right hX (Nat.two_pow_pos _)
    have h2 : 2 ^ n.toNat * 2 ^ a.toNat ≤ 2 ^ 64 := by rw [← Nat.pow_add]; exact Nat.pow_le_pow_right (by decide) (by omega)
    rw [Wd.two64] at h2; omega
  have e : (X : Int) * 2 ^ a.toNat = ((X * 2 ^ a.toNat : Nat) : Int) := by simp
  rw [Int.toNat_natCast, e, wrap_of (by omega) (by omega)]
  exact ⟨rfl, h⟩

theorem Wd.lay_bits {v a n x : Int} (h0 : 0 ≤ v) (h1 : v < 18446744073709551616) (k1 : 1 ≤ n) (k2 : n ≤ 64) (k3 : 0 ≤ a) (k4 : a ≤ 64 - n) (x0 : 0 ≤ x) (x1 : x < 2 ^ n.toNat) :
    bits BinOp.or IntKind.u64 (bits BinOp.andNot IntKind.u64 v (IntKind.u64.wrap ((2 ^ n.toNat - 1) * 2 ^ a.toNat))) (IntKind.u64.wrap (x * 2 ^ a.toNat)) = ((Wd.laid v.toNat a.toNat n.toNat x.toNat : Nat) : Int) := by
  have P := Wd.pow_pos n
  obtain ⟨e1, l1⟩ := Wd.shl_small (n := n) k2 k3 k4 (x := 2 ^ n.toNat - 1) (by omega) (by omega) (by omega)
  obtain ⟨e2, l2⟩ := Wd.shl_small (n := n) k2 k3 k4 x0 x1 (by omega)
  obtain ⟨V, rfl⟩ := Int.eq_ofNat_of_zero_le h0
  have e' : ((2 : Int) ^ n.toNat - 1).toNat = 2 ^ n.toNat - 1 := by
    have e : (2 : Int) ^ n.toNat = ((2 ^ n.toNat : Nat) : Int) := by simp
    rw [e]; omega
  rw [e'] at e1 l1
  rw [e1, e2, u64_andNot_nat _ _ (by omega) l1]
  have l3 : V &&& (18446744073709551615 - (2 ^ n.toNat - 1) * 2 ^ a.toNat) < 18446744073709551616 := Nat.lt_of_le_of_lt Nat.and_le_left (by omega)
  rw [u64_or_nat _ _ l3 l2, Int.toNat_natCast]
  have hX : x.toNat < 2 ^ n.toNat := by
    have e : (2 : Int) ^ n.toNat = ((2 ^ n.toNat : Nat) : Int) := by simp
    rw [e] at x1; omega
  rw [Wd.lay_eq (by rw [Wd.two64]; omega) (by omega) hX]

theorem Lay_no (v a n x : Int) (h0 : -9223372036854775808 ≤ n) (h : ¬ (1 ≤ n ∧ n ≤ 64 ∧ 0 ≤ a ∧ a ≤ 64 - n)) :
    Calls Try.prog 20 #[.int .u64 v, .int .i64 a, .int .i64 n, .int .u64 x] w fun e w' => w = w' ∧ e = .returned (.tuple #[.int .u64 0, .int .i64 2]) := by
  have H := Lib.hid h; clear h
  go_enter Try.func20, Try.ntmps20
  go_wp2_with (go_at_call 26; refine (may_no _ _ _ (by omega) H.out).mono ?_; rintro e w' ⟨rfl, rfl⟩)
  go_ret2
  exact ⟨rfl, rfl⟩

theorem Wd.shr_zero {x n : Int} (x0 : 0 ≤ x) (x1 : x < 2 ^ n.toNat) : x / 2 ^ n.toNat = 0 := Int.ediv_eq_zero_of_lt x0 x1
theorem Wd.shr_pos {x n : Int} (x1 : ¬ x < 2 ^ n.toNat) : x / 2 ^ n.toNat ≠ 0 := by
  have P := Wd.pow_pos n
  have h : 1 ≤ x / 2 ^ n.toNat := by rw [Int.le_ediv_iff_mul_le P]; omega
  omega

theorem Lay_long (v a n x : Int) (k1 : 1 ≤ n) (k2 : n ≤ 64) (k3 : 0 ≤ a) (k4 : a ≤ 64 - n) (x1 : ¬ x < 2 ^ n.toNat) (x2 : x < 18446744073709551616) :
    Calls Try.prog 20 #[.int .u64 v, .int .i64 a, .int .i64 n, .int .u64 x] w fun e w' => w = w' ∧ e = .returned (.tuple #[.int .u64 0, .int .i64 2]) := by
  have hn : n < 64 := by
    by_cases h : n = 64
    · subst h; have := Wd.pow64; omega
    · omega
  have t : (x / 2 ^ n.toNat != 0) = true := by rw [bne_iff_ne]; exact Wd.shr_pos x1
  clear x1
  go_enter Try.func20, Try.ntmps20
  go_wp2_with (go_at_call 26; refine (may_yes _ _ _ (by omega) (by omega) (by omega) (by omega)).mono ?_; rintro e w' ⟨rfl, rfl⟩)
  go_ret2
  exact ⟨rfl, rfl⟩

theorem Lay_yes (v a n x : Int) (h0 : 0 ≤ v) (h1 : v < 18446744073709551616) (k1 : 1 ≤ n) (k2 : n ≤ 64) (k3 : 0 ≤ a) (k4 : a ≤ 64 - n) (x0 : 0 ≤ x) (x1 : x < 2 ^ n.toNat) :
    Calls Try.prog 20 #[.int .u64 v, .int .i64 a, .int .i64 n, .int .u64 x] w fun e w' => (∃ m, w' = w.drewN m) ∧ e = .returned (.tuple #[.int .u64 (Wd.laid v.toNat a.toNat n.toNat x.toNat : Nat), .int .i64 0]) := by
  have t : (x / 2 ^ n.toNat != 0) = false := by rw [bne_eq_false_iff_eq]; exact Wd.shr_zero x0 x1
  have B := Lib.hid (Wd.lay_bits h0 h1 k1 k2 k3 k4 x0 x1)
  clear x1
  by_cases hn : n < 64
  · go_enter Try.func20, Try.ntmps20
    go_wp2_with (first | (go_at_call 26; refine (may_yes _ _ _ (by omega) (by omega) (by omega) (by omega)).mono ?_; rintro e w' ⟨rfl, rfl⟩) | (go_at_call 27; refine (mask_any _ _ (by omega) (by omega)).mono ?_; rintro e w' ⟨rfl, rfl⟩))
    go_quiet (fail)
    go_wp2
    go_ret2
    exact ⟨⟨_, rfl⟩, ret2 B.out rfl⟩
  · go_enter Try.func20, Try.ntmps20
    go_wp2_with (first | (go_at_call 26; refine (may_yes _ _ _ (by omega) (by omega) (by omega) (by omega)).mono ?_; rintro e w' ⟨rfl, rfl⟩) | (go_at_call 27; refine (mask_any _ _ (by omega) (by omega)).mono ?_; rintro e w' ⟨rfl, rfl⟩))
    go_quiet (fail)
    go_wp2
    go_ret2
    exact ⟨⟨_, rfl⟩, ret2 B.out rfl⟩

end
end Go.Proofs.Ytfglbbfcjbhmjaa
