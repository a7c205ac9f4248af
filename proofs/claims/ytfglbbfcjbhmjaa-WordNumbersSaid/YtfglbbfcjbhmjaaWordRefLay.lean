/-
  What the document's Lay (skerryref01) returns where a piece may be laid, by a walk: whatever the memory, which it leaves as it is.
-/
import Derived.Test.YtfglbbfcjbhmjaaWordRefs
namespace Go.Proofs.Ytfglbbfcjbhmjaa
open Go.RowKit

section
variable (w : World)

structure Wd.Fits (y : Nat) : Prop where
  lt : (2 : Int) * y + 1 < 18446744073709551616

set_option maxRecDepth 100000 in
set_option maxHeartbeats 1000000 in
theorem rLay_yes (v a n x : Int) (h0 : 0 ≤ v) (h1 : v < 18446744073709551616) (k1 : 1 ≤ n) (k2 : n ≤ 64) (k3 : 0 ≤ a) (k4 : a ≤ 64 - n) (x0 : 0 ≤ x) (x1 : x < 2 ^ n.toNat) :
    Calls Try.prog 21 #[.int .u64 v, .int .i64 a, .int .i64 n, .int .u64 x] w fun e w' => w = w' ∧ e = .returned (.tuple #[.int .u64 (Wd.laid v.toNat a.toNat n.toNat x.toNat : Nat), .int .i64 0]) := by
  have hx : x.toNat < 2 ^ n.toNat := by
    have e : (2 : Int) ^ n.toNat = ((2 ^ n.toNat : Nat) : Int) := by simp
    rw [e] at x1; omega
  have hxl : x < 18446744073709551616 := by have := Wd.pow_le k2; omega
  obtain ⟨l, hl⟩ : ∃ l, l = Wd.laid v.toNat a.toNat n.toNat x.toNat := ⟨_, rfl⟩
  have hlt : l < 18446744073709551616 := by rw [hl]; exact Wd.laid_lt' (by omega) (by omega) hx
  have half : RowKit.Hid (∀ j : Nat, l / 2 ^ j = 2 * (l / 2 ^ (j + 1)) + (if a.toNat ≤ j ∧ j < a.toNat + n.toNat then x.toNat / 2 ^ (j - a.toNat) % 2 else v.toNat / 2 ^ j % 2)) := by
    intro j; rw [hl]; exact Wd.laid_half hx j
  have top := Lib.hid (Wd.top_zero hlt)
  rw [← hl]
  clear hl hx
  have guard : n < 64 → ¬ (IntKind.u64.wrap (2 ^ n.toNat) ≤ x) := fun hn => by rw [wrap_of (Int.le_of_lt (Wd.pow_pos n)) (Wd.pow_lt hn)]; omega
  clear x1
  have G := Lib.hid guard; clear guard
  by_cases hn : n < 64
  all_goals
    try have t := G.out hn
    go_enter Try.func21, Try.ntmps21
    go_wp2_with (go_at_call 28; refine (rmay_yes _ _ _ (by omega) (by omega) (by omega) (by omega)).mono ?_; rintro e w' ⟨rfl, rfl⟩)
    go_loop [10, 11] (fun y i => ∃ c : Int, -1 ≤ c ∧ c < 64 ∧ i = .int .i64 c ∧ y = .int .u64 (l / 2 ^ (c + 1).toNat : Nat)) (fun _ i => (intOf i + 1).toNat)
    case atStart =>
      exact ⟨63, by omega, by omega, rfl, by rw [show ((63 : Int) + 1).toNat = 64 by omega, top.out]; rfl⟩
    case round =>
      obtain ⟨c, hc1, hc2, rfl, rfl⟩ := hrel
      by_cases hc : 0 ≤ c
      · obtain ⟨j, rfl⟩ := Int.eq_ofNat_of_zero_le hc
        have hh := half.out j
        rw [show ((j : Int) + 1).toNat = j + 1 by omega]
        have hle : l / 2 ^ j ≤ l := Nat.div_le_self _ _
        obtain ⟨y, hy⟩ : ∃ y, l / 2 ^ (j + 1) = y := ⟨_, rfl⟩
        rw [hy] at hh ⊢
        clear hy
        by_cases hin : a.toNat ≤ j ∧ j < a.toNat + n.toNat
        · rw [if_pos hin] at hh
          have g1 : a ≤ (j : Int) := by omega
          have g2 : (j : Int) < a + n := by omega
          clear hin
          have e1 := Lib.hid (show ((j : Int) - a).toNat = j - a.toNat by omega)
          obtain ⟨b, hb⟩ : ∃ b : Bool, decide (v.toNat / 2 ^ j % 2 = 1) = b := ⟨_, rfl⟩
          have hb' := Lib.hid hb; clear hb
          rcases Nat.mod_two_eq_zero_or_one (x.toNat / 2 ^ (j - a.toNat)) with hz | hz
          · rw [hz] at hh
            have hz' := Lib.hid hz; clear hz
            have hy2 : (2 : Int) * y + 1 < 18446744073709551616 := by omega
            have hH := Lib.hid hh; clear hh
            go_wp2_with fail
            refine (rbit_any _ b _ _ (by omega) (by omega) (by omega) (by omega) (by rw [Int.toNat_natCast]; exact hb'.out)).mono ?_
            rintro e w' ⟨rfl, rfl⟩
            go_wp2_with fail
            refine (rbit_any _ false _ _ (by omega) (by omega) (by omega) (by omega) (by rw [e1.out, hz'.out]; rfl)).mono ?_
            rintro e w' ⟨rfl, rfl⟩
            go_wp2_with fail
            go_round
            case rel => exact ⟨(j : Int) - 1, by omega, by omega, rfl, by rw [show ((j : Int) - 1 + 1).toNat = j by omega, hH.out]; go_num⟩
            case measure => simp only [intOf]; omega
          · rw [hz] at hh
            have hz' := Lib.hid hz; clear hz
            have hy2 : (2 : Int) * y + 1 < 18446744073709551616 := by omega
            have hH := Lib.hid hh; clear hh
            go_wp2_with fail
            refine (rbit_any _ b _ _ (by omega) (by omega) (by omega) (by omega) (by rw [Int.toNat_natCast]; exact hb'.out)).mono ?_
            rintro e w' ⟨rfl, rfl⟩
            go_wp2_with fail
            refine (rbit_any _ true _ _ (by omega) (by omega) (by omega) (by omega) (by rw [e1.out, hz'.out]; rfl)).mono ?_
            rintro e w' ⟨rfl, rfl⟩
            go_wp2_with fail
            go_round
            case rel => exact ⟨(j : Int) - 1, by omega, by omega, rfl, by rw [show ((j : Int) - 1 + 1).toNat = j by omega, hH.out]; go_num⟩
            case measure => simp only [intOf]; omega
        · rw [if_neg hin] at hh
          have g3 : (j : Int) < a ∨ (a ≤ (j : Int) ∧ a + n ≤ (j : Int)) := by omega
          clear hin
          rcases Nat.mod_two_eq_zero_or_one (v.toNat / 2 ^ j) with hz | hz
          · rw [hz] at hh
            have hz' := Lib.hid hz; clear hz
            have hy2 : Wd.Fits y := ⟨by omega⟩
            have hH := Lib.hid hh; clear hh hle hlt
            rcases g3 with g3 | ⟨g3, g4⟩
            all_goals try (exfalso; omega)
            all_goals
              go_wp2_with fail
              refine (rbit_any _ false _ _ (by omega) (by omega) (by omega) (by omega) (by rw [Int.toNat_natCast, hz'.out]; rfl)).mono ?_
              rintro e w' ⟨rfl, rfl⟩
              go_wp2_with fail
              refine ⟨⟨(j : Int) - 1, by omega, by omega, rfl, ?_⟩, by simp only [intOf]; omega⟩
              rw [show ((j : Int) - 1 + 1).toNat = j by omega, hH.out]
              have hy3 := hy2.lt
              apply congrArg (Value.int IntKind.u64)
              rw [wrap_of (by omega) (by omega)]; try omega
          · rw [hz] at hh
            have hz' := Lib.hid hz; clear hz
            have hy2 : Wd.Fits y := ⟨by omega⟩
            have hH := Lib.hid hh; clear hh hle hlt
            rcases g3 with g3 | ⟨g3, g4⟩
            all_goals try (exfalso; omega)
            all_goals
              go_wp2_with fail
              refine (rbit_any _ true _ _ (by omega) (by omega) (by omega) (by omega) (by rw [Int.toNat_natCast, hz'.out]; rfl)).mono ?_
              rintro e w' ⟨rfl, rfl⟩
              go_wp2_with fail
              refine ⟨⟨(j : Int) - 1, by omega, by omega, rfl, ?_⟩, by simp only [intOf]; omega⟩
              rw [show ((j : Int) - 1 + 1).toNat = j by omega, hH.out]
              have hy3 := hy2.lt
              apply congrArg (Value.int IntKind.u64)
              rw [wrap_of (n := 2 * (y : Int)) (by omega) (by omega), wrap_of (by omega) (by omega)]; try omega
      · obtain rfl : c = -1 := by omega
        go_wp2
        go_ret2
        exact ⟨rfl, by simp⟩

end
end Go.Proofs.Ytfglbbfcjbhmjaa
