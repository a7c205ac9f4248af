/-
  What package bits tells of a row, each by a walk.
-/
import Derived.Test.YtpjcgjbobljaeaaBitsMath
import Derived.Test.YtpjcgjbobljaeaaBitsRuns
namespace Go.Proofs.Ytpjcgjbobljaeaa
open Go.RowKit
set_option linter.unusedVariables false
attribute [local go_sem] Oper.semAt_some

theorem Has_nil (i : Int) (w : World) : Calls Try.prog 19 #[.pointer none, .int .i64 i] w fun e w' => e = .returned (.bool false) ∧ w = w' := by
  go_enter Try.func19, Try.ntmps19
  go_wp2
  go_ret
  exact ⟨rfl, rfl⟩

theorem Has_out (i : Int) (n p q : Nat) (f : Nat → Bool) (w : World) (hb : BitsAt w p q f n) (hn : ¬ (0 ≤ i ∧ i < n)) :
    Calls Try.prog 19 #[.pointer (some ⟨p, 0, none⟩), .int .i64 i] w fun e w' => e = .returned (.bool false) ∧ w = w' := by
  obtain ⟨ws, hw, hbits⟩ := hb
  obtain ⟨⟨cap, r0⟩, r1, r2, r3⟩ := hw.reads
  by_cases h0 : i < 0
  · clear hn
    go_enter Try.func19, Try.ntmps19
    go_wp2
    go_ret
    exact ⟨rfl, rfl⟩
  · have h1 : (n : Int) ≤ i := by omega
    clear hn
    go_enter Try.func19, Try.ntmps19
    go_wp2
    go_ret
    exact ⟨rfl, rfl⟩

theorem bit_test (v k : Nat) (hv : v < 18446744073709551616) : (bits BinOp.and IntKind.u64 ((v : Int) / 2 ^ k) 1 == 1) = v.testBit k := by
  rw [Wd.and_one' k (by omega) (by omega), Int.toNat_natCast, Wd.testBit_div]
  rcases Nat.mod_two_eq_zero_or_one (v / 2 ^ k) with e | e <;> rw [e] <;> rfl

theorem Has_in (i n p q : Nat) (f : Nat → Bool) (w : World) (hb : BitsAt w p q f n) (hi : i < n) :
    Calls Try.prog 19 #[.pointer (some ⟨p, 0, none⟩), .int .i64 (i : Nat)] w fun e w' => e = .returned (.bool (f i)) ∧ Keep Nope w w' := by
  obtain ⟨ws, hw, hbits⟩ := hb
  obtain ⟨⟨cap, r0⟩, r1, -, -⟩ := hw.reads
  have lp := hw.lt_p
  have lq := hw.lt_q
  have hl := hw.len
  have hs := hw.small
  have hx : i / 64 < ws.length := by omega
  obtain ⟨v, hv, r2, r3, hvs⟩ := hw.word (i / 64) hx
  have T : Seal ((bits BinOp.and IntKind.u64 ((v : Int) / 2 ^ (i % 64)) 1 == 1) = f i) := ⟨by rw [bit_test v _ hv, ← hbits i hi, bitOf, hvs.out]⟩
  clear hl hv
  go_enter Try.func19, Try.ntmps19
  go_wp2_with (go_at_call 52; refine (at_any _ _ (by omega) (by omega)).mono ?_; rintro e w' ⟨rfl, rfl⟩)
  go_quiet (fail)
  go_wp2
  go_ret
  exact ⟨congrArg (fun b => Ending.returned (.bool b)) T.out, (((Keep.refl _ w).alloc _).alloc _).drewN _⟩

/-- An optional number and whether it is there. -/
def optV (o : Option Nat) : Value := .tuple #[.int .i64 ((o.getD 0 : Nat) : Int), .bool o.isSome]

theorem next_nil (i : Int) (t : Int) (w : World) : Calls Try.prog 53 #[.pointer none, .int .i64 i, .int .u64 t] w fun e w' => e = .returned (optV none) ∧ w = w' := by
  go_enter Try.func53, Try.ntmps53
  go_wp2
  go_ret2
  exact ⟨rfl, rfl⟩

/-- The word against which bits are turned. -/
def turnW (t : Bool) : Nat := if t then 18446744073709551615 else 0

theorem turned_bit (v : Nat) (t : Bool) (k : Nat) (hk : k < 64) : (v ^^^ turnW t).testBit k = (v.testBit k ^^ t) := by
  rw [Nat.testBit_xor]
  congr 1
  cases t
  · simp [turnW]
  · have := Wd.tb_not (m := 0) (by decide) k
    simp only [Nat.sub_zero] at this
    simp [turnW, this, hk]

theorem turned_lt {v : Nat} (t : Bool) (hv : v < 18446744073709551616) : v ^^^ turnW t < 18446744073709551616 := by
  have := Nat.xor_lt_two_pow (x := v) (y := turnW t) (n := 64) (by rw [Wd.two64]; exact hv) (by rw [Wd.two64]; cases t <;> decide)
  rwa [Wd.two64] at this

theorem y_zero {x k : Nat} (h : x / 2 ^ k = 0) (t : Nat) (ht : k ≤ t) : x.testBit t = false := by
  have := Nat.testBit_div_two_pow x (n := k) (i := t - k)
  rw [h, Nat.zero_testBit, show t - k + k = t by omega] at this
  exact this.symm

theorem y_low {x k : Nat} (hx : x < 18446744073709551616) (h : x / 2 ^ k ≠ 0) : Wd.low (x / 2 ^ k) < 64 ∧ k + Wd.low (x / 2 ^ k) < 64 ∧ x.testBit (k + Wd.low (x / 2 ^ k)) = true ∧ ∀ t, k ≤ t → t < k + Wd.low (x / 2 ^ k) → x.testBit t = false := by
  have hb : ∀ j, (x / 2 ^ k).testBit j = x.testBit (k + j) := fun j => by rw [Nat.testBit_div_two_pow, Nat.add_comm]
  have hlow : Wd.low (x / 2 ^ k) < 64 := by
    rcases Nat.lt_or_ge (Wd.low (x / 2 ^ k)) 64 with h1 | h1
    · exact h1
    · exfalso
      apply h
      apply Nat.eq_of_testBit_eq
      intro j
      rw [Nat.zero_testBit, Wd.testBit_div]
      by_cases hj : j < 64
      · simpa using Wd.low_below (v := x / 2 ^ k) (k := j) (by omega)
      · have h2 : x / 2 ^ k < 2 ^ j := Nat.lt_of_le_of_lt (Nat.div_le_self _ _) (Nat.lt_of_lt_of_le (by rw [← Wd.two64] at hx; exact hx) (Nat.pow_le_pow_right (by decide) (by omega)))
        rw [Nat.div_eq_of_lt h2]; rfl
  have h1 : x.testBit (k + Wd.low (x / 2 ^ k)) = true := by
    rw [← hb, Wd.testBit_div]; simpa using Wd.low_is hlow
  refine ⟨hlow, ?_, h1, fun t h2 h3 => ?_⟩
  · rcases Nat.lt_or_ge (k + Wd.low (x / 2 ^ k)) 64 with h2 | h2
    · exact h2
    · rw [Nat.testBit_lt_two_pow (Nat.lt_of_lt_of_le (by rw [← Wd.two64] at hx; exact hx) (Nat.pow_le_pow_right (by decide) h2))] at h1; cases h1
  · have := Wd.low_below (v := x / 2 ^ k) (k := t - k) (by omega)
    have e := hb (t - k)
    rw [show k + (t - k) = t by omega] at e
    rw [← e, Wd.testBit_div]; simpa using this

set_option maxHeartbeats 2000000 in
theorem next_from (s : Nat) (i : Int) (hi0 : (i < 0 ∧ s = 0) ∨ (0 ≤ i ∧ i = s)) (t : Bool) (n p q : Nat) (f : Nat → Bool) (w : World) (hb : BitsAt w p q f n) (hi : s ≤ 131072) :
    Calls Try.prog 53 #[.pointer (some ⟨p, 0, none⟩), .int .i64 i, .int .u64 (turnW t : Nat)] w fun e w' =>
      e = .returned (optV (nextB (fun j => f j ^^ t) n s)) ∧ Keep Nope w w' := by
  obtain ⟨ws, hw, hbits⟩ := hb
  have hs := hw.small
  have HB : Seal _ := ⟨hbits⟩
  clear hbits
  have S0 : Seal (i < 0 → s = 0) := ⟨by omega⟩
  rcases hi0 with ⟨h0, hs0⟩ | ⟨h0, rfl⟩
  all_goals
    have r1 := hw.reads.2.1
    try clear hs0
    go_enter Try.func53, Try.ntmps53
    go_wp2
    clear r1
    go_loopw [1, 8, 9] (fun x _ _ wr => ∃ j : Nat, s ≤ j ∧ j ≤ 131072 + 64 ∧ x = .int .i64 j ∧ Seal (∀ k, s ≤ k → k < j → k < n → (f k ^^ t) = false) ∧ Keep Nope w wr) (fun x _ _ _ => 131072 + 64 - (intOf x).toNat)
    case atStart => first | exact ⟨0, by have := S0.out h0; omega, by omega, rfl, ⟨fun k a b => by omega⟩, Keep.refl _ _⟩ | exact ⟨s, by omega, by omega, rfl, ⟨fun k a b => by omega⟩, Keep.refl _ _⟩
    case round =>
      obtain ⟨j, hj1, hj2, rfl, hall, hk⟩ := hrel
      have hW := hw.keep hk (fun h => h) (fun h => h)
      obtain ⟨⟨cap, r0⟩, r1, -, -⟩ := hW.reads
      have lp := hW.lt_p
      have lq := hW.lt_q
      by_cases hjn : j < n
      · have hl := hW.len
        have hx : j / 64 < ws.length := by omega
        obtain ⟨v, hv, r2, r3, hvs⟩ := hW.word (j / 64) hx
        obtain ⟨x, hxd⟩ : ∃ x, x = v ^^^ turnW t := ⟨_, rfl⟩
        have hX : bits BinOp.xor IntKind.u64 (v : Int) (turnW t : Nat) = (x : Nat) := by rw [hxd]; exact u64_xor_nat v (turnW t) hv (by cases t <;> decide)
        have hxl : Seal (x < 18446744073709551616) := ⟨by rw [hxd]; exact turned_lt t hv⟩
        have hbit : Seal (∀ k, k < 64 → j / 64 * 64 + k < n → x.testBit k = (f (j / 64 * 64 + k) ^^ t)) := ⟨fun k h1 h2 => by
          rw [hxd, turned_bit v t k h1, ← HB.out _ h2, bitOf, show (j / 64 * 64 + k) / 64 = j / 64 by omega, show (j / 64 * 64 + k) % 64 = k by omega, hvs.out]⟩
        have hw0 : (x : Int) / 2 ^ (j % 64) = ((x / 2 ^ (j % 64) : Nat) : Int) := by simp
        clear hl hv hxd
        obtain ⟨y, hy⟩ : ∃ y, x / 2 ^ (j % 64) = y := ⟨_, rfl⟩
        rw [hy] at hw0
        have hY : Seal _ := ⟨hy⟩
        clear hy
        by_cases hy0 : y = 0
        · have ht : ((y : Int) == 0) = true := by rw [hy0]; rfl
          have hY0 : Seal _ := ⟨hy0⟩
          clear hy0
          go_wp2_with (go_at_call 52; refine (at_any _ _ (by omega) (by omega)).mono ?_; rintro e w' ⟨rfl, rfl⟩)
          go_quiet (fail)
          go_wp2
          refine ⟨⟨j + (64 - j % 64), by omega, by omega, by go_num, ⟨fun k a b c => ?_⟩, ((hk.alloc _).alloc _).drewN _⟩, by simp only [intOf]; omega⟩
          by_cases hkj : k < j
          · exact hall.out k a hkj c
          · have := hbit.out (k % 64) (by omega) (by omega)
            rw [show j / 64 * 64 + k % 64 = k by omega] at this
            rw [← this]
            exact y_zero (by rw [hY.out, hY0.out]) _ (by omega)
        · have ht : ((y : Int) == 0) = false := by rw [beq_eq_false_iff_ne]; omega
          have hY0 : Seal _ := ⟨hy0⟩
          clear hy0
          go_wp2_with (go_at_call 52; refine (at_any _ _ (by omega) (by omega)).mono ?_; rintro e w' ⟨rfl, rfl⟩)
          go_quiet (fail)
          have hyl := y_low (x := x) (k := j % 64) hxl.out (by rw [hY.out]; exact hY0.out)
          rw [hY.out] at hyl
          obtain ⟨l1, l2, l3, l4⟩ := hyl
          have L3 : Seal _ := ⟨l3⟩
          have L4 : Seal _ := ⟨l4⟩
          clear l3 l4
          have yl : Seal (y < 18446744073709551616) := ⟨by rw [← hY.out]; exact Nat.lt_of_le_of_lt (Nat.div_le_self _ _) hxl.out⟩
          have before : Seal (∀ k, s ≤ k → k < j + Wd.low y → k < n → (f k ^^ t) = false) := ⟨fun k a b c => by
            by_cases hkj : k < j
            · exact hall.out k a hkj c
            · have := hbit.out (k % 64) (by omega) (by omega)
              rw [show j / 64 * 64 + k % 64 = k by omega] at this
              rw [← this]
              exact L4.out _ (by omega) (by omega)⟩
          have found : Seal (j + Wd.low y < n → (f (j + Wd.low y) ^^ t) = true) := ⟨fun c => by
            have := hbit.out (j % 64 + Wd.low y) (by omega) (by omega)
            rw [show j / 64 * 64 + (j % 64 + Wd.low y) = j + Wd.low y by omega] at this
            rw [← this]
            exact L3.out⟩
          go_wp2_with fail
          refine (Low_any _ _ (by omega) (by have := yl.out; omega)).mono ?_
          rintro e w' ⟨rfl, rfl⟩
          by_cases hin : j + Wd.low y < n
          · have hin' : ¬ (n : Int) ≤ (j : Int) + (Wd.low y : Nat) := by omega
            go_wp2
            go_ret2
            refine ⟨?_, ((hk.alloc _).alloc _).drewN _⟩
            rw [nextB_some (by omega) hin (found.out hin) (fun k a b => before.out k a b (by omega))]
            simp [optV]
          · have hin' : (n : Int) ≤ (j : Int) + (Wd.low y : Nat) := by omega
            go_wp2
            go_ret2
            refine ⟨?_, ((hk.alloc _).alloc _).drewN _⟩
            rw [nextB_none (fun k a b => before.out k a (by omega) b)]
            simp [optV]
      · go_wp2
        go_ret2
        refine ⟨?_, hk⟩
        rw [nextB_none (fun k a b => hall.out k a (by omega) b)]
        simp [optV]

end Go.Proofs.Ytpjcgjbobljaeaa
