/-
  What package bits tells of a row, each by a walk: the next one, the next clear one, the one ahead.
-/
import Derived.Test.YtpjcgjbobljaeaaBitsAsk
namespace Go.Proofs.Ytpjcgjbobljaeaa
open Go.RowKit
set_option linter.unusedVariables false
attribute [local go_sem] Oper.semAt_some

theorem next_big (i : Int) (u : Int) (n p q : Nat) (f g : Nat → Bool) (w : World) (hb : BitsAt w p q f n) (hi : (n : Int) ≤ i) :
    Calls Try.prog 53 #[.pointer (some ⟨p, 0, none⟩), .int .i64 i, .int .u64 u] w fun e w' =>
      e = .returned (optV (nextB g n i.toNat)) ∧ Keep Nope w w' := by
  obtain ⟨ws, hw, hbits⟩ := hb
  have r1 := hw.reads.2.1
  have h0 : ¬ i < 0 := by omega
  rw [nextB_none (g := g) (n := n) (i := i.toNat) (fun t a b => by omega)]
  go_enter Try.func53, Try.ntmps53
  go_wp2
  refine wp_loop_once ?_
  go_wp2
  go_ret2
  exact ⟨by simp [optV], Keep.refl _ _⟩

theorem next_all (i : Int) (t : Bool) (n p q : Nat) (f : Nat → Bool) (w : World) (hb : BitsAt w p q f n) :
    Calls Try.prog 53 #[.pointer (some ⟨p, 0, none⟩), .int .i64 i, .int .u64 (turnW t : Nat)] w fun e w' =>
      e = .returned (optV (nextB (fun j => f j ^^ t) n i.toNat)) ∧ Keep Nope w w' := by
  have hs : n ≤ 65536 := by obtain ⟨ws, hw, _⟩ := hb; exact hw.small
  by_cases h : (n : Int) ≤ i
  · exact next_big i _ n p q f _ w hb h
  · exact next_from i.toNat i (by omega) t n p q f w hb (by omega)

theorem Next_at (i : Int) (n p q : Nat) (f : Nat → Bool) (w : World) (hb : BitsAt w p q f n) :
    Calls Try.prog 20 #[.pointer (some ⟨p, 0, none⟩), .int .i64 i] w fun e w' => e = .returned (optV (nextB f n i.toNat)) ∧ Keep Nope w w' := by
  have h := next_all i false n p q f
  rw [show (fun j => f j ^^ false) = f from funext fun j => Bool.xor_false _] at h
  go_enter Try.func20, Try.ntmps20
  go_wp2_with fail
  refine (h _ hb).mono ?_
  rintro e w' ⟨rfl, hk⟩
  unfold optV
  go_wp2_with fail
  go_ret2
  exact ⟨rfl, hk⟩

theorem NextClear_at (i : Int) (n p q : Nat) (f : Nat → Bool) (w : World) (hb : BitsAt w p q f n) :
    Calls Try.prog 21 #[.pointer (some ⟨p, 0, none⟩), .int .i64 i] w fun e w' => e = .returned (optV (nextB (fun j => !f j) n i.toNat)) ∧ Keep Nope w w' := by
  have h := next_all i true n p q f
  rw [show (fun j => f j ^^ true) = (fun j => !f j) from funext fun j => Bool.xor_true _] at h
  go_enter Try.func21, Try.ntmps21
  go_wp2_with fail
  refine (h _ hb).mono ?_
  rintro e w' ⟨rfl, hk⟩
  unfold optV
  go_wp2_with fail
  go_ret2
  exact ⟨rfl, hk⟩

theorem Next_nil (i : Int) (w : World) :
    Calls Try.prog 20 #[.pointer none, .int .i64 i] w fun e w' => e = .returned (optV none) ∧ w = w' := by
  go_enter Try.func20, Try.ntmps20
  go_wp2_with fail
  refine (next_nil _ _ _).mono ?_
  rintro e w' ⟨rfl, rfl⟩
  unfold optV
  go_wp2_with fail
  go_ret2
  exact ⟨rfl, rfl⟩

theorem NextClear_nil (i : Int) (w : World) :
    Calls Try.prog 21 #[.pointer none, .int .i64 i] w fun e w' => e = .returned (optV none) ∧ w = w' := by
  go_enter Try.func21, Try.ntmps21
  go_wp2_with fail
  refine (next_nil _ _ _).mono ?_
  rintro e w' ⟨rfl, rfl⟩
  unfold optV
  go_wp2_with fail
  go_ret2
  exact ⟨rfl, rfl⟩

theorem Prev_nil (i : Int) (w : World) :
    Calls Try.prog 22 #[.pointer none, .int .i64 i] w fun e w' => e = .returned (optV none) ∧ w = w' := by
  go_enter Try.func22, Try.ntmps22
  go_wp2
  go_ret2
  exact ⟨rfl, rfl⟩

set_option maxHeartbeats 2000000 in
theorem Prev_at (i : Int) (n p q : Nat) (f : Nat → Bool) (w : World) (hb : BitsAt w p q f n) (hi0 : -9223372036854775808 ≤ i) :
    Calls Try.prog 22 #[.pointer (some ⟨p, 0, none⟩), .int .i64 i] w fun e w' => e = .returned (optV (prevB f (min (i + 1) n).toNat)) ∧ Keep Nope w w' := by
  obtain ⟨ws, hw, hbits⟩ := hb
  have hs := hw.small
  have HB : Seal _ := ⟨hbits⟩
  have HI : Seal _ := ⟨hi0⟩
  clear hbits hi0
  obtain ⟨m, hm⟩ : ∃ m, m = (min (i + 1) n).toNat := ⟨_, rfl⟩
  rw [← hm]
  have hmn : m ≤ n := by omega
  by_cases hc : (n : Int) - 1 < i
  all_goals
    have r1 := hw.reads.2.1
    have M : Seal _ := ⟨hm⟩
    clear hm
    go_enter Try.func22, Try.ntmps22
    go_wp2
    clear r1
    go_loopw [1, 6] (fun x _ wr => ∃ c : Int, c < n ∧ x = .int .i64 c ∧ Seal (prevB f m = prevB f (c + 1).toNat) ∧ Seal (-9223372036854775808 ≤ c) ∧ Keep Nope w wr) (fun x _ _ => (intOf x + 1).toNat)
    case atStart =>
      first
        | exact ⟨(n : Int) - 1, by omega, rfl, ⟨by rw [M.out]; congr 1; omega⟩, ⟨by omega⟩, Keep.refl _ _⟩
        | exact ⟨i, by omega, rfl, ⟨by rw [M.out]; congr 1; omega⟩, HI, Keep.refl _ _⟩
    case round =>
      obtain ⟨c, hcn, rfl, hP, hlow, hk⟩ := hrel
      have hW := hw.keep hk (fun h => h) (fun h => h)
      obtain ⟨⟨cap, r0⟩, r1, -, -⟩ := hW.reads
      have lp := hW.lt_p
      have lq := hW.lt_q
      by_cases hc0 : 0 ≤ c
      · obtain ⟨j, rfl⟩ := Int.eq_ofNat_of_zero_le hc0
        have hl := hW.len
        have hx : j / 64 < ws.length := by omega
        obtain ⟨v, hv, r2, r3, hvs⟩ := hW.word (j / 64) hx
        have hP : Seal (prevB f m = prevB f (j + 1)) := ⟨by rw [hP.out]; congr 1⟩
        have T := bit_test v (j % 64) hv
        have hbit : Seal (∀ k, k < n → k / 64 = j / 64 → v.testBit (k % 64) = f k) := ⟨fun k h1 h2 => by rw [← HB.out _ h1, bitOf, h2, hvs.out]⟩
        clear hl hv
        by_cases hv0 : v = 0
        · have ht : ((v : Int) == 0) = true := by rw [hv0]; rfl
          have V0 : Seal _ := ⟨hv0⟩
          clear hv0 T
          go_wp2_with (go_at_call 52; refine (at_any _ _ (by omega) (by omega)).mono ?_; rintro e w' ⟨rfl, rfl⟩)
          go_quiet (fail)
          go_wp2
          refine ⟨⟨(j : Int) - (j : Int) % 64 - 1, by omega, rfl, ⟨?_⟩, ⟨by omega⟩, ((hk.alloc _).alloc _).drewN _⟩, by simp only [intOf]; omega⟩
          rw [hP.out, show ((j : Int) - (j : Int) % 64 - 1 + 1).toNat = j - j % 64 by omega]
          refine prevB_skip (by omega) (fun t a b => ?_)
          rw [← hbit.out t (by omega) (by omega), V0.out, Nat.zero_testBit]
        · have ht : ((v : Int) == 0) = false := by rw [beq_eq_false_iff_ne]; omega
          have V0 : Seal _ := ⟨hv0⟩
          clear hv0
          cases hfj : f j
          · have hb2 := hbit.out j (by omega) rfl
            rw [hb2, hfj] at T
            have F0 : Seal _ := ⟨hfj⟩
            clear hb2 hfj
            go_wp2_with (go_at_call 52; refine (at_any _ _ (by omega) (by omega)).mono ?_; rintro e w' ⟨rfl, rfl⟩)
            go_quiet (fail)
            go_wp2
            go_quiet (fail)
            go_wp2
            refine ⟨⟨(j : Int) - 1, by omega, rfl, ⟨?_⟩, ⟨by omega⟩, ((hk.alloc _).alloc _).drewN _⟩, by simp only [intOf]; omega⟩
            rw [hP.out, show ((j : Int) - 1 + 1).toNat = j by omega]
            exact prevB_skip (by omega) (fun t a b => by rw [show t = j by omega]; exact F0.out)
          · have hb2 := hbit.out j (by omega) rfl
            rw [hb2, hfj] at T
            have F0 : Seal _ := ⟨hfj⟩
            clear hb2 hfj
            go_wp2_with (go_at_call 52; refine (at_any _ _ (by omega) (by omega)).mono ?_; rintro e w' ⟨rfl, rfl⟩)
            go_quiet (fail)
            go_wp2
            go_quiet (fail)
            go_wp2
            go_ret2
            refine ⟨?_, (((hk.alloc _).alloc _).drewN _).drewN _⟩
            rw [hP.out, prevB_some (g := f) (i := j + 1) (by omega) F0.out (fun t a b => by omega)]
            simp [optV]
      · go_wp2
        go_ret2
        refine ⟨?_, hk⟩
        rw [hP.out, show (c + 1).toNat = 0 by omega]
        simp [optV, prevB]

end Go.Proofs.Ytpjcgjbobljaeaa
