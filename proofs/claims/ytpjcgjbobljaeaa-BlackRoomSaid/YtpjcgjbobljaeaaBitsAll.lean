/-
  Package bits, at any numbers.
-/
import Derived.Test.YtpjcgjbobljaeaaBitsSame
namespace Go.Proofs.Ytpjcgjbobljaeaa
open Go.RowKit
set_option linter.unusedVariables false

/-- May a run of a row of n be asked for? -/
def okRun (n : Nat) (i k : Int) : Bool := decide (0 ≤ i ∧ 0 ≤ k ∧ i ≤ n ∧ k ≤ n - i)

/-- The bits behind a run that was laid, if it may be. -/
def setF (f : Nat → Bool) (n : Nat) (i k : Int) (t : Bool) : Nat → Bool := if okRun n i k then runSet f i.toNat k.toNat t else f

def errV (ok : Bool) : Int := if ok then 0 else 2

theorem SetRun_int (i k : Int) (n p q : Nat) (f : Nat → Bool) (w : World) (hb : BitsAt w p q f n) :
    Calls Try.prog 16 #[.pointer (some ⟨p, 0, none⟩), .int .i64 i, .int .i64 k] w fun e w' =>
      e = .returned (.int .i64 (errV (okRun n i k))) ∧ Keep (fun b => b = q) w w' ∧ BitsAt w' p q (setF f n i k true) n := by
  by_cases h : 0 ≤ i ∧ 0 ≤ k ∧ i ≤ n ∧ k ≤ n - i
  · have ho : okRun n i k = true := by simpa [okRun] using h
    obtain ⟨a, rfl⟩ := Int.eq_ofNat_of_zero_le h.1
    obtain ⟨b, rfl⟩ := Int.eq_ofNat_of_zero_le h.2.1
    refine (SetRun_yes a b n p q f w hb (by omega)).mono ?_
    rintro e w' ⟨rfl, hk, hb'⟩
    rw [setF, ho]
    exact ⟨rfl, hk, hb'⟩
  · have ho : okRun n i k = false := by simpa [okRun] using h
    refine (SetRun_no i k n p q f w hb h).mono ?_
    rintro e w' ⟨rfl, hk⟩
    rw [setF, ho]
    have hk' := hk.of_not (fun b => b = q)
    exact ⟨rfl, hk', hb.keep hk (fun h => h) (fun h => h)⟩

theorem ClearRun_int (i k : Int) (n p q : Nat) (f : Nat → Bool) (w : World) (hb : BitsAt w p q f n) :
    Calls Try.prog 17 #[.pointer (some ⟨p, 0, none⟩), .int .i64 i, .int .i64 k] w fun e w' =>
      e = .returned (.int .i64 (errV (okRun n i k))) ∧ Keep (fun b => b = q) w w' ∧ BitsAt w' p q (setF f n i k false) n := by
  by_cases h : 0 ≤ i ∧ 0 ≤ k ∧ i ≤ n ∧ k ≤ n - i
  · have ho : okRun n i k = true := by simpa [okRun] using h
    obtain ⟨a, rfl⟩ := Int.eq_ofNat_of_zero_le h.1
    obtain ⟨b, rfl⟩ := Int.eq_ofNat_of_zero_le h.2.1
    refine (ClearRun_yes a b n p q f w hb (by omega)).mono ?_
    rintro e w' ⟨rfl, hk, hb'⟩
    rw [setF, ho]
    exact ⟨rfl, hk, hb'⟩
  · have ho : okRun n i k = false := by simpa [okRun] using h
    refine (ClearRun_no i k n p q f w hb h).mono ?_
    rintro e w' ⟨rfl, hk⟩
    rw [setF, ho]
    have hk' := hk.of_not (fun b => b = q)
    exact ⟨rfl, hk', hb.keep hk (fun h => h) (fun h => h)⟩

theorem Set_int (i : Int) (n p q : Nat) (f : Nat → Bool) (w : World) (hb : BitsAt w p q f n) :
    Calls Try.prog 28 #[.pointer (some ⟨p, 0, none⟩), .int .i64 i] w fun e w' =>
      e = .returned (.int .i64 (errV (okRun n i 1))) ∧ Keep (fun b => b = q) w w' ∧ BitsAt w' p q (setF f n i 1 true) n := by
  by_cases h : 0 ≤ i ∧ i < n
  · have ho : okRun n i 1 = true := by simp [okRun]; omega
    obtain ⟨a, rfl⟩ := Int.eq_ofNat_of_zero_le h.1
    refine (Set_yes a n p q f w hb (by omega)).mono ?_
    rintro e w' ⟨rfl, hk, hb'⟩
    rw [setF, ho]
    exact ⟨rfl, hk, hb'⟩
  · have ho : okRun n i 1 = false := by simp [okRun]; omega
    refine (Set_no i n p q f w hb h).mono ?_
    rintro e w' ⟨rfl, hk⟩
    rw [setF, ho]
    have hk' := hk.of_not (fun b => b = q)
    exact ⟨rfl, hk', hb.keep hk (fun h => h) (fun h => h)⟩

theorem Clear_int (i : Int) (n p q : Nat) (f : Nat → Bool) (w : World) (hb : BitsAt w p q f n) :
    Calls Try.prog 29 #[.pointer (some ⟨p, 0, none⟩), .int .i64 i] w fun e w' =>
      e = .returned (.int .i64 (errV (okRun n i 1))) ∧ Keep (fun b => b = q) w w' ∧ BitsAt w' p q (setF f n i 1 false) n := by
  by_cases h : 0 ≤ i ∧ i < n
  · have ho : okRun n i 1 = true := by simp [okRun]; omega
    obtain ⟨a, rfl⟩ := Int.eq_ofNat_of_zero_le h.1
    refine (Clear_yes a n p q f w hb (by omega)).mono ?_
    rintro e w' ⟨rfl, hk, hb'⟩
    rw [setF, ho]
    exact ⟨rfl, hk, hb'⟩
  · have ho : okRun n i 1 = false := by simp [okRun]; omega
    refine (Clear_no i n p q f w hb h).mono ?_
    rintro e w' ⟨rfl, hk⟩
    rw [setF, ho]
    have hk' := hk.of_not (fun b => b = q)
    exact ⟨rfl, hk', hb.keep hk (fun h => h) (fun h => h)⟩

/-- How many of a run are set. -/
def cntI (f : Nat → Bool) (n : Nat) (i k : Int) : Nat := if okRun n i k then cntB f i.toNat k.toNat else 0

theorem Count_int (i k : Int) (n p q : Nat) (f : Nat → Bool) (w : World) (hb : BitsAt w p q f n) :
    Calls Try.prog 15 #[.pointer (some ⟨p, 0, none⟩), .int .i64 i, .int .i64 k] w fun e w' =>
      e = .returned (.tuple #[.int .i64 (cntI f n i k : Nat), .int .i64 (errV (okRun n i k))]) ∧ Keep Nope w w' := by
  by_cases h : 0 ≤ i ∧ 0 ≤ k ∧ i ≤ n ∧ k ≤ n - i
  · have ho : okRun n i k = true := by simpa [okRun] using h
    obtain ⟨a, rfl⟩ := Int.eq_ofNat_of_zero_le h.1
    obtain ⟨b, rfl⟩ := Int.eq_ofNat_of_zero_le h.2.1
    refine (Count_yes a b n p q f w hb (by omega)).mono ?_
    rintro e w' ⟨rfl, hk⟩
    rw [cntI, ho]
    exact ⟨rfl, hk⟩
  · have ho : okRun n i k = false := by simpa [okRun] using h
    refine (Count_no i k n p q f w hb h).mono ?_
    rintro e w' ⟨rfl, hk⟩
    rw [cntI, ho]
    exact ⟨rfl, hk⟩

/-- Is bit i set? -/
def hasI (f : Nat → Bool) (n : Nat) (i : Int) : Bool := decide (0 ≤ i ∧ i < n) && f i.toNat

theorem Has_int (i : Int) (n p q : Nat) (f : Nat → Bool) (w : World) (hb : BitsAt w p q f n) :
    Calls Try.prog 19 #[.pointer (some ⟨p, 0, none⟩), .int .i64 i] w fun e w' =>
      e = .returned (.bool (hasI f n i)) ∧ Keep Nope w w' := by
  by_cases h : 0 ≤ i ∧ i < n
  · obtain ⟨a, rfl⟩ := Int.eq_ofNat_of_zero_le h.1
    refine (Has_in a n p q f w hb (by omega)).mono ?_
    rintro e w' ⟨rfl, hk⟩
    rw [hasI, decide_eq_true h]
    exact ⟨rfl, hk⟩
  · refine (Has_out i n p q f w hb h).mono ?_
    rintro e w' ⟨rfl, rfl⟩
    rw [hasI, decide_eq_false h]
    exact ⟨rfl, Keep.refl _ _⟩

end Go.Proofs.Ytpjcgjbobljaeaa
