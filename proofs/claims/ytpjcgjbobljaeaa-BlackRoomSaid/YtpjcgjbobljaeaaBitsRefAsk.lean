/-
  The document's row of bools, walked: Has, Next, Prev, Count.
-/
import Derived.Test.YtpjcgjbobljaeaaBitsDoes
namespace Go.Proofs.Ytpjcgjbobljaeaa
open Go.RowKit
set_option linter.unusedVariables false

theorem RHas_int (i : Int) (n p g : Nat) (f : Nat → Bool) (w : World) (hb : RefAt w p g f n) :
    Calls Try.prog 57 #[.pointer (some ⟨p, 0, none⟩), .int .i64 i] w fun e w' => e = .returned (.bool (hasI f n i)) ∧ w = w' := by
  obtain ⟨cap, hc⟩ := hb.head
  have hn := hb.small
  by_cases h1 : 0 ≤ i
  · obtain ⟨a, rfl⟩ := Int.eq_ofNat_of_zero_le h1
    by_cases h2 : a < n
    · have hbit := hb.bit h2
      have h2' : (a : Int) < n := by omega
      have hv : Seal (hasI f n (a : Int) = f a) := ⟨by rw [hasI, decide_eq_true ⟨h1, h2'⟩]; rfl⟩
      obtain ⟨v, hfv⟩ : ∃ v, v = f a := ⟨_, rfl⟩
      rw [← hfv] at hbit hv
      clear hfv
      cases v
      all_goals
        go_enter Try.func57, Try.ntmps57
        go_wp2
        go_ret
        exact ⟨by rw [hv.out]; rfl, rfl⟩
    · have h2' : ¬ (a : Int) < n := by omega
      have hv : Seal (hasI f n (a : Int) = false) := ⟨by rw [hasI, decide_eq_false (fun h => h2' h.2)]; rfl⟩
      go_enter Try.func57, Try.ntmps57
      go_wp2
      go_ret
      exact ⟨by rw [hv.out]; rfl, rfl⟩
  · have hv : Seal (hasI f n i = false) := ⟨by rw [hasI, decide_eq_false (fun h => h1 h.1)]; rfl⟩
    go_enter Try.func57, Try.ntmps57
    go_wp2
    go_ret
    exact ⟨by rw [hv.out]; rfl, rfl⟩

set_option maxHeartbeats 2000000 in
theorem RNext_from (s : Nat) (i : Int) (hi0 : (i < 0 ∧ s = 0) ∨ (0 ≤ i ∧ i = s)) (t : Bool) (n p g : Nat) (f : Nat → Bool) (w : World) (hb : RefAt w p g f n) :
    Calls Try.prog 54 #[.pointer (some ⟨p, 0, none⟩), .int .i64 i, .bool t] w fun e w' => e = .returned (optV (nextB (fun j => f j == t) n s)) ∧ w = w' := by
  obtain ⟨cap, hc⟩ := hb.head
  have hn := hb.small
  rcases hi0 with ⟨h0, hs0⟩ | ⟨h0, hs0⟩
  all_goals
    have HS : Seal _ := ⟨hs0⟩
    clear hs0
    go_enter Try.func54, Try.ntmps54
    go_wp2_with fail
    go_loop [8] (fun x => ∃ κ : Nat, x = .int .i64 (κ : Nat) ∧ Seal (∀ j, s ≤ j → j < κ → (f j == t) = false) ∧ s ≤ κ) (fun x => n - (intOf x).toNat)
    case atStart => exact ⟨s, by rw [HS.out]; first | done | rfl, ⟨fun j a b => by omega⟩, by omega⟩
    case round =>
      obtain ⟨κ, rfl, hall, hs⟩ := hrel
      by_cases hκ : κ < n
      · have hκ' : (κ : Int) < n := by omega
        have hbit := hb.bit hκ
        obtain ⟨v, hv⟩ : ∃ v, v = f κ := ⟨_, rfl⟩
        rw [← hv] at hbit
        have HV : Seal _ := ⟨hv⟩
        clear hv
        cases hvt : v == t with
        | true =>
          have hn1 : Seal (nextB (fun j => f j == t) n s = some κ) := ⟨nextB_some hs hκ (by rw [← HV.out]; exact hvt) (fun j a b => hall.out j a b)⟩
          go_wp2
          go_ret2
          exact ⟨by rw [hn1.out]; rfl, rfl⟩
        | false =>
          have hn1 : Seal (∀ j, s ≤ j → j < κ + 1 → (f j == t) = false) := ⟨fun j a b => by
            by_cases e : j = κ
            · rw [e, ← HV.out]; exact hvt
            · exact hall.out j a (by omega)⟩
          go_wp2
          exact ⟨⟨κ + 1, by go_num, hn1, by omega⟩, by simp only [intOf]; omega⟩
      · have hκ' : ¬ (κ : Int) < n := by omega
        have hn1 : Seal (nextB (fun j => f j == t) n s = none) := ⟨nextB_none (fun j a b => hall.out j a (by omega))⟩
        go_wp2
        go_ret2
        exact ⟨by rw [hn1.out]; rfl, rfl⟩

theorem RNext_at (i : Int) (t : Bool) (n p g : Nat) (f : Nat → Bool) (w : World) (hb : RefAt w p g f n) :
    Calls Try.prog 54 #[.pointer (some ⟨p, 0, none⟩), .int .i64 i, .bool t] w fun e w' => e = .returned (optV (nextB (fun j => f j == t) n i.toNat)) ∧ w = w' :=
  RNext_from i.toNat i (by omega) t n p g f w hb

set_option maxHeartbeats 2000000 in
theorem RPrev_at (i : Int) (n p g : Nat) (f : Nat → Bool) (w : World) (hb : RefAt w p g f n) (hi : -9223372036854775808 ≤ i) :
    Calls Try.prog 55 #[.pointer (some ⟨p, 0, none⟩), .int .i64 i] w fun e w' => e = .returned (optV (prevB f (min (i + 1) n).toNat)) ∧ w = w' := by
  obtain ⟨cap, hc⟩ := hb.head
  have hn := hb.small
  have HI : Seal _ := ⟨hi⟩
  clear hi
  obtain ⟨s, hs⟩ : ∃ s, s = (min (i + 1) (n : Int)).toNat := ⟨_, rfl⟩
  rw [← hs]
  have hsn : s ≤ n := by omega
  have hmin : (i ≤ (n : Int) - 1 ∧ i + 1 ≤ s ∧ (i < 0 → s = 0) ∧ (0 ≤ i → i + 1 = s)) ∨ ((n : Int) - 1 < i ∧ s = n) := by omega
  clear hs
  rcases hmin with ⟨h0, h1, h2, h3⟩ | ⟨h0, h1⟩
  · have H2 : Seal _ := ⟨h2⟩
    have H3 : Seal _ := ⟨h3⟩
    clear h2 h3
    go_enter Try.func55, Try.ntmps55
    go_wp2_with fail
    go_loop [6] (fun x => ∃ X : Int, x = .int .i64 X ∧ X < s ∧ Seal (∀ j : Nat, X < j → j < s → f j = false)) (fun x => (intOf x + 1).toNat)
    case atStart => exact ⟨i, rfl, by omega, ⟨fun j a b => by have := H2.out; have := H3.out; omega⟩⟩
    case round =>
      obtain ⟨X, rfl, hX, hall⟩ := hrel
      by_cases h : 0 ≤ X
      · obtain ⟨κ, rfl⟩ := Int.eq_ofNat_of_zero_le h
        have hκ : κ < n := by omega
        have hbit := hb.bit hκ
        obtain ⟨v, hv⟩ : ∃ v, v = f κ := ⟨_, rfl⟩
        rw [← hv] at hbit
        have HV : Seal _ := ⟨hv⟩
        clear hv
        cases v with
        | true =>
          have hn1 : Seal (prevB f s = some κ) := ⟨prevB_some (by omega) HV.out.symm (fun j a b => hall.out j (by omega) b)⟩
          go_wp2
          go_ret2
          exact ⟨by rw [hn1.out]; rfl, rfl⟩
        | false =>
          have hn1 : Seal (∀ j : Nat, (κ : Int) - 1 < j → j < s → f j = false) := ⟨fun j a b => by
            by_cases e : j = κ
            · rw [e]; exact HV.out.symm
            · exact hall.out j (by omega) b⟩
          go_wp2
          exact ⟨⟨(κ : Int) - 1, rfl, by omega, hn1⟩, by simp only [intOf]; omega⟩
      · have hn1 : Seal (prevB f s = none) := ⟨prevB_none (fun j a => hall.out j (by omega) a)⟩
        go_wp2
        go_ret2
        exact ⟨by rw [hn1.out]; rfl, rfl⟩
  · have H1 : Seal _ := ⟨h1⟩
    clear h1
    go_enter Try.func55, Try.ntmps55
    go_wp2_with fail
    go_loop [6] (fun x => ∃ X : Int, x = .int .i64 X ∧ X < s ∧ Seal (∀ j : Nat, X < j → j < s → f j = false)) (fun x => (intOf x + 1).toNat)
    case atStart => exact ⟨(n : Int) - 1, rfl, by have := H1.out; omega, ⟨fun j a b => by have := H1.out; omega⟩⟩
    case round =>
      obtain ⟨X, rfl, hX, hall⟩ := hrel
      by_cases h : 0 ≤ X
      · obtain ⟨κ, rfl⟩ := Int.eq_ofNat_of_zero_le h
        have hκ : κ < n := by omega
        have hbit := hb.bit hκ
        obtain ⟨v, hv⟩ : ∃ v, v = f κ := ⟨_, rfl⟩
        rw [← hv] at hbit
        have HV : Seal _ := ⟨hv⟩
        clear hv
        cases v with
        | true =>
          have hn1 : Seal (prevB f s = some κ) := ⟨prevB_some (by omega) HV.out.symm (fun j a b => hall.out j (by omega) b)⟩
          go_wp2
          go_ret2
          exact ⟨by rw [hn1.out]; rfl, rfl⟩
        | false =>
          have hn1 : Seal (∀ j : Nat, (κ : Int) - 1 < j → j < s → f j = false) := ⟨fun j a b => by
            by_cases e : j = κ
            · rw [e]; exact HV.out.symm
            · exact hall.out j (by omega) b⟩
          go_wp2
          exact ⟨⟨(κ : Int) - 1, rfl, by omega, hn1⟩, by simp only [intOf]; omega⟩
      · have hn1 : Seal (prevB f s = none) := ⟨prevB_none (fun j a => hall.out j (by omega) a)⟩
        go_wp2
        go_ret2
        exact ⟨by rw [hn1.out]; rfl, rfl⟩

set_option maxHeartbeats 2000000 in
theorem RCount_int (i k : Int) (n p g : Nat) (f : Nat → Bool) (w : World) (hb : RefAt w p g f n) :
    Calls Try.prog 56 #[.pointer (some ⟨p, 0, none⟩), .int .i64 i, .int .i64 k] w fun e w' => e = .returned (.tuple #[.int .i64 (cntI f n i k : Nat), .int .i64 (errV (okRun n i k))]) ∧ ∃ m, w' = w.drewN m := by
  obtain ⟨cap, hc⟩ := hb.head
  have hn := hb.small
  cases ho : okRun n i k with
  | false =>
    rw [show cntI f n i k = 0 by rw [cntI, ho]; rfl]
    have HO : Seal _ := ⟨ho⟩
    clear ho
    go_enter Try.func56, Try.ntmps56
    go_wp2_with fail
    refine (rin_any _ _ n p g f w hb).mono ?_
    rintro e w' ⟨rfl, m, rfl⟩
    rw [HO.out]
    go_wp2
    go_ret2
    exact ⟨rfl, m, rfl⟩
  | true =>
    have hp : 0 ≤ i ∧ 0 ≤ k ∧ i ≤ n ∧ k ≤ n - i := by simpa [okRun] using ho
    obtain ⟨a, rfl⟩ := Int.eq_ofNat_of_zero_le hp.1
    obtain ⟨b, rfl⟩ := Int.eq_ofNat_of_zero_le hp.2.1
    rw [show cntI f n a b = cntB f a b by rw [cntI, ho]; rfl]
    have HO : Seal _ := ⟨ho⟩
    have hab : a + b ≤ n := by omega
    clear ho hp
    go_enter Try.func56, Try.ntmps56
    go_wp2_with fail
    refine (rin_any _ _ n p g f w hb).mono ?_
    rintro e w' ⟨rfl, m, rfl⟩
    rw [HO.out]
    go_wp2_with fail
    go_loop [8, 9] (fun z x => ∃ j c : Nat, j ≤ b ∧ x = .int .i64 ((a + j : Nat) : Int) ∧ z = .int .i64 (c : Nat) ∧ Seal (c = cntB f a j) ∧ c ≤ j) (fun _ x => a + b - (intOf x).toNat)
    case atStart => exact ⟨0, 0, by omega, rfl, rfl, ⟨rfl⟩, by omega⟩
    case round =>
      obtain ⟨j, c, hj, rfl, rfl, hcn, hcj⟩ := hrel
      by_cases hjb : j < b
      · have ht : ((a + j : Nat) : Int) < (a : Int) + (b : Int) := by omega
        have hbit := hb.bit (show a + j < n by omega)
        obtain ⟨v, hv⟩ : ∃ v, v = f (a + j) := ⟨_, rfl⟩
        rw [← hv] at hbit
        have HV : Seal _ := ⟨hv⟩
        clear hv
        cases v with
        | true =>
          have hc1 : Seal (c + 1 = cntB f a (j + 1)) := ⟨by simp only [cntB]; rw [← HV.out, ← hcn.out]; simp⟩
          go_wp2
          exact ⟨⟨j + 1, c + 1, by omega, by go_num, by go_num, hc1, by omega⟩, by simp only [intOf]; omega⟩
        | false =>
          have hc1 : Seal (c = cntB f a (j + 1)) := ⟨by simp only [cntB]; rw [← HV.out, ← hcn.out]; simp⟩
          go_wp2
          exact ⟨⟨j + 1, c, by omega, by go_num, rfl, hc1, by omega⟩, by simp only [intOf]; omega⟩
      · have ht : ¬ ((a + j : Nat) : Int) < (a : Int) + (b : Int) := by omega
        have hc1 : Seal (c = cntB f a b) := ⟨by rw [hcn.out, show j = b by omega]⟩
        go_wp2
        go_ret2
        exact ⟨by rw [← hc1.out]; rfl, m, rfl⟩

end Go.Proofs.Ytpjcgjbobljaeaa
