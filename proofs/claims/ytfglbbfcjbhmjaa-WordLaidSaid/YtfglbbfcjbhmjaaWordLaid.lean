/-
  The law on what was laid returns true: by a walk over what the functions return.
-/
import Derived.Test.YtfglbbfcjbhmjaaWordBack
namespace Go.Proofs.Ytfglbbfcjbhmjaa
open Go.RowKit

section
variable (w : World)

theorem Wd.laid_kept {V L X : Nat} {a n : Int} (h1 : V < 18446744073709551616) (h3 : L < 18446744073709551616) (k1 : 1 ≤ n) (k2 : n < 64) (k3 : 0 ≤ a) (k4 : a ≤ 64 - n)
    (hX : X < 2 ^ n.toNat) (hL : Wd.laid V a.toNat n.toNat X = L) :
    bits BinOp.andNot IntKind.u64 (bits BinOp.xor IntKind.u64 V L) (IntKind.u64.wrap (IntKind.u64.wrap (IntKind.u64.wrap (2 ^ n.toNat) - 1) * 2 ^ a.toNat)) = 0 := by
  have P := Wd.pow_pos n
  obtain ⟨e1, l1⟩ := Wd.shl_small (n := n) (a := a) (by omega) k3 k4 (x := 2 ^ n.toNat - 1) (by omega) (by omega) (by omega)
  have e' : ((2 : Int) ^ n.toNat - 1).toNat = 2 ^ n.toNat - 1 := by
    have e : (2 : Int) ^ n.toNat = ((2 ^ n.toNat : Nat) : Int) := by simp
    rw [e]; omega
  rw [e'] at e1 l1
  rw [Wd.mask_wrap P (Wd.pow_lt k2), e1, u64_xor_nat _ _ h1 h3]
  have hx : V ^^^ L < 18446744073709551616 := by
    have := Nat.xor_lt_two_pow (x := V) (y := L) (n := 64) (by rw [Wd.two64]; exact h1) (by rw [Wd.two64]; exact h3)
    rwa [Wd.two64] at this
  rw [u64_andNot_nat _ _ hx l1, ← hL, Wd.laid_same (by omega) hX]
  rfl

set_option maxRecDepth 100000 in
set_option maxHeartbeats 2000000 in
theorem laid_walk (v a n x : Int) (h0 : 0 ≤ v) (h1 : v < 18446744073709551616) (h2 : 0 ≤ x) (h3 : x < 18446744073709551616) (h4 : -9223372036854775808 ≤ n) (h5 : n < 9223372036854775808) :
    Calls Try.prog 6 #[.int .u64 v, .int .i64 a, .int .i64 n, .int .u64 x] w fun e w' => (∃ m, w' = w.drewN m) ∧ e = .returned (.bool true) := by
  by_cases hm : 1 ≤ n ∧ n ≤ 64 ∧ 0 ≤ a ∧ a ≤ 64 - n
  · obtain ⟨k1, k2, k3, k4⟩ := hm
    by_cases hx : x < 2 ^ n.toNat
    · obtain ⟨V, rfl⟩ := Int.eq_ofNat_of_zero_le h0
      obtain ⟨X, rfl⟩ := Int.eq_ofNat_of_zero_le h2
      have hX : X < 2 ^ n.toNat := by
        have e : (2 : Int) ^ n.toNat = ((2 ^ n.toNat : Nat) : Int) := by simp
        rw [e] at hx; omega
      have xs : Seal _ := ⟨hx⟩
      clear hx
      obtain ⟨L, hL⟩ : ∃ L, L = Wd.laid V a.toNat n.toNat X := ⟨_, rfl⟩
      obtain ⟨P, hP⟩ : ∃ P, P = Wd.piece V a.toNat n.toNat := ⟨_, rfl⟩
      have lL : L < 18446744073709551616 := by rw [hL]; exact Wd.laid_lt' (by omega) (by omega) hX
      have hPl : P < 2 ^ n.toNat := by rw [hP]; exact Wd.piece_lt _ _ _
      have lP : P < 18446744073709551616 := Nat.lt_of_lt_of_le hPl (Wd.pow_le' (by omega))
      have ps : Seal ((P : Int) < 2 ^ n.toNat) := ⟨by
        have e : (2 : Int) ^ n.toNat = ((2 ^ n.toNat : Nat) : Int) := by simp
        rw [e]; omega⟩
      have r1 : Wd.piece L a.toNat n.toNat = X := by rw [hL]; exact Wd.piece_laid hX
      have r2 : Wd.laid L a.toNat n.toNat P = V := by rw [hL, hP]; exact Wd.laid_back hX
      have r3 : Wd.ones L + Wd.ones P = Wd.ones V + Wd.ones X := by rw [hL, hP]; exact Wd.ones_laid (by omega) hX
      have o1 := Wd.ones_le L
      have o2 := Wd.ones_le P
      have o3 := Wd.ones_le V
      have o4 := Wd.ones_le X
      have t : ((Wd.ones L : Int) - Wd.ones V != (Wd.ones X : Int) - Wd.ones P) = false := by rw [bne_eq_false_iff_eq]; omega
      have r3 : Seal _ := ⟨r3⟩
      have hXs : Seal _ := ⟨hX⟩
      clear hX hPl
      have hL' : Wd.laid V a.toNat n.toNat X = L := hL.symm
      have hP' : Wd.piece V a.toNat n.toNat = P := hP.symm
      clear hL hP
      have bb : Seal (V < 18446744073709551616 ∧ X < 18446744073709551616 ∧ L < 18446744073709551616 ∧ P < 18446744073709551616) := ⟨by omega, by omega, lL, lP⟩
      clear h1 h3 lL lP
      by_cases hn : n < 64
      · have T3 := Wd.laid_kept (V := V) (L := L) (X := X) (by have := bb.out; omega) (by have := bb.out; omega) k1 hn k3 k4 hXs.out hL'
        go_enter Try.func6, Try.ntmps6
        go_wp2_with fail
        refine (Bits_yes _ _ _ _ (by omega) (by have := bb.out; omega) (by omega) (by omega) (by omega) (by omega)).mono ?_
        rintro e w' ⟨⟨m1, rfl⟩, rfl⟩
        go_wp2_with fail
        refine (Lay_yes _ _ _ _ _ (by omega) (by have := bb.out; omega) (by omega) (by omega) (by omega) (by omega) (by omega) xs.out).mono ?_
        rintro e w' ⟨⟨m2, rfl⟩, rfl⟩
        go_wp2_with fail
        refine (Bits_yes _ _ _ _ (by omega) (by have := bb.out; omega) (by omega) (by omega) (by omega) (by omega)).mono ?_
        rintro e w' ⟨⟨m3, rfl⟩, rfl⟩
        go_wp2_with fail
        refine (Lay_yes _ _ _ _ _ (by omega) (by have := bb.out; omega) (by omega) (by omega) (by omega) (by omega) (by omega) ps.out).mono ?_
        rintro e w' ⟨⟨m4, rfl⟩, rfl⟩
        go_wp2_with fail
        refine (Ones_any _ _ (by omega) (by have := bb.out; omega)).mono ?_
        rintro e w' ⟨rfl, rfl⟩
        go_wp2_with fail
        refine (Ones_any _ _ (by omega) (by have := bb.out; omega)).mono ?_
        rintro e w' ⟨rfl, rfl⟩
        go_wp2_with fail
        refine (Ones_any _ _ (by omega) (by have := bb.out; omega)).mono ?_
        rintro e w' ⟨rfl, rfl⟩
        go_wp2_with fail
        refine (Ones_any _ _ (by omega) (by have := bb.out; omega)).mono ?_
        rintro e w' ⟨rfl, rfl⟩
        go_wp2_with fail
        refine (alive_any _).mono ?_
        rintro e w' ⟨⟨m5, rfl⟩, rfl⟩
        go_wp2_with fail
        go_ret
        exact ⟨⟨_, rfl⟩, rfl⟩
      · go_enter Try.func6, Try.ntmps6
        go_wp2_with fail
        refine (Bits_yes _ _ _ _ (by omega) (by have := bb.out; omega) (by omega) (by omega) (by omega) (by omega)).mono ?_
        rintro e w' ⟨⟨m1, rfl⟩, rfl⟩
        go_wp2_with fail
        refine (Lay_yes _ _ _ _ _ (by omega) (by have := bb.out; omega) (by omega) (by omega) (by omega) (by omega) (by omega) xs.out).mono ?_
        rintro e w' ⟨⟨m2, rfl⟩, rfl⟩
        go_wp2_with fail
        refine (Bits_yes _ _ _ _ (by omega) (by have := bb.out; omega) (by omega) (by omega) (by omega) (by omega)).mono ?_
        rintro e w' ⟨⟨m3, rfl⟩, rfl⟩
        go_wp2_with fail
        refine (Lay_yes _ _ _ _ _ (by omega) (by have := bb.out; omega) (by omega) (by omega) (by omega) (by omega) (by omega) ps.out).mono ?_
        rintro e w' ⟨⟨m4, rfl⟩, rfl⟩
        go_wp2_with fail
        refine (Ones_any _ _ (by omega) (by have := bb.out; omega)).mono ?_
        rintro e w' ⟨rfl, rfl⟩
        go_wp2_with fail
        refine (Ones_any _ _ (by omega) (by have := bb.out; omega)).mono ?_
        rintro e w' ⟨rfl, rfl⟩
        go_wp2_with fail
        refine (Ones_any _ _ (by omega) (by have := bb.out; omega)).mono ?_
        rintro e w' ⟨rfl, rfl⟩
        go_wp2_with fail
        refine (Ones_any _ _ (by omega) (by have := bb.out; omega)).mono ?_
        rintro e w' ⟨rfl, rfl⟩
        go_wp2_with (go_at_call 17; refine (alive_any _).mono ?_; rintro e w' ⟨⟨m3, rfl⟩, rfl⟩)
        go_ret
        exact ⟨⟨_, rfl⟩, rfl⟩
    · have X : Seal _ := ⟨hx⟩
      clear hx
      go_enter Try.func6, Try.ntmps6
      go_wp2_with fail
      refine (Bits_yes _ _ _ _ (by omega) (by omega) (by omega) (by omega) (by omega) (by omega)).mono ?_
      rintro e w' ⟨⟨m1, rfl⟩, rfl⟩
      go_wp2_with fail
      refine (Lay_long _ _ _ _ _ (by omega) (by omega) (by omega) (by omega) (Int.not_lt.2 X.out) (by omega)).mono ?_
      rintro e w' ⟨rfl, rfl⟩
      go_wp2_with (go_at_call 17; refine (alive_any _).mono ?_; rintro e w' ⟨⟨m3, rfl⟩, rfl⟩)
      go_ret
      exact ⟨⟨_, rfl⟩, rfl⟩
  · have X : Seal _ := ⟨hm⟩
    clear hm
    go_enter Try.func6, Try.ntmps6
    go_wp2_with fail
    refine (Bits_no _ _ _ _ (by omega) X.out).mono ?_
    rintro e w' ⟨rfl, rfl⟩
    go_wp2_with fail
    refine (Lay_no _ _ _ _ _ (by omega) X.out).mono ?_
    rintro e w' ⟨rfl, rfl⟩
    go_wp2_with (go_at_call 17; refine (alive_any _).mono ?_; rintro e w' ⟨⟨m3, rfl⟩, rfl⟩)
    go_ret
    exact ⟨⟨_, rfl⟩, rfl⟩

end
end Go.Proofs.Ytfglbbfcjbhmjaa
