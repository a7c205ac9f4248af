/-
  A list of black granules in memory; next, Has, Len of package black.
  List and Count of package black.
  New, Copy, Turn of package black.
  Turn of package black.
  First of package black: the least place with room.
  Hit of package black.
-/
import Derived.Test.YtpmiidpbngbclaaGreatDoorHead
import Derived.Deep.RegionHeld3
import Derived.Test.YtpmiidpbngbclaaGreatDoorLib
namespace Go.Proofs.YtpmiidpbngbclaaGreatDoor
open Go.RowKit
set_option linter.unusedVariables false

theorem cell_of_three {w : World} {b : Nat} {u v x : Value} {t : TypeId} (h : w.heap[b]? = some (.cells #[u, v, x] t (0, 0))) : w.cell? ⟨b, 0, none⟩ = some u ∧ w.cell? ⟨b, 1, none⟩ = some v ∧ w.cell? ⟨b, 2, none⟩ = some x := by
  simp [World.cell?, h]

/-- The least one of two. -/
theorem nextB_or {f g : Nat → Bool} {n i : Nat} : nextB (fun j => f j || g j) n i = match nextB f n i, nextB g n i with
    | some a, some c => some (min a c)
    | some a, none => some a
    | none, o => o := by
  rcases nextB_spec f n i with ⟨a, ha, a1, a2, a3, a4⟩ | ⟨ha, a4⟩
  · rcases nextB_spec g n i with ⟨c, hc, c1, c2, c3, c4⟩ | ⟨hc, c4⟩
    · rw [ha, hc]
      refine nextB_some (by omega) (by omega) ?_ (fun t u v => by rw [a4 t u (by omega), c4 t u (by omega)]; rfl)
      rcases Nat.le_total a c with e | e
      · rw [Nat.min_eq_left e, a3]; rfl
      · rw [Nat.min_eq_right e, c3, Bool.or_true]
    · rw [ha, hc]
      exact nextB_some a1 a2 (by rw [a3]; rfl) (fun t u v => by rw [a4 t u v, c4 t u (by omega)]; rfl)
  · rcases nextB_spec g n i with ⟨c, hc, c1, c2, c3, c4⟩ | ⟨hc, c4⟩
    · rw [ha, hc]
      exact nextB_some c1 c2 (by rw [c3, Bool.or_true]) (fun t u v => by rw [a4 t u (by omega), c4 t u v]; rfl)
    · rw [ha, hc]
      exact nextB_none (fun t u v => by rw [a4 t u v, c4 t u v]; rfl)

end Go.Proofs.YtpmiidpbngbclaaGreatDoor

namespace Go.Proofs.YtpmiidpbngbclaaGreatDoor
open Go.RowKit
set_option linter.unusedVariables false

/-- Those from c on, below n. -/
def fromB (f : Nat → Bool) (n c : Nat) : List Nat := (List.range' c (n - c)).filter f

theorem fromB_skip {f : Nat → Bool} {n : Nat} : ∀ (d c : Nat), c + d ≤ n → (∀ t, c ≤ t → t < c + d → f t = false) → fromB f n c = fromB f n (c + d)
  | 0, c, _, _ => rfl
  | d + 1, c, h, hf => by
    have h1 : fromB f n c = fromB f n (c + 1) := by
      rw [fromB, fromB, show n - c = (n - (c + 1)) + 1 by omega, List.range'_succ, List.filter_cons, hf c (Nat.le_refl _) (by omega)]
      rfl
    rw [h1, fromB_skip d (c + 1) (by omega) (fun t a b => hf t (by omega) (by omega))]
    congr 1; omega

theorem fromB_some {f : Nat → Bool} {n c a : Nat} (h : nextB f n c = some a) : fromB f n c = a :: fromB f n (a + 1) ∧ c ≤ a ∧ a < n := by
  rcases nextB_spec f n c with ⟨j, h1, h2, h3, h4, h5⟩ | ⟨h1, _⟩
  · rw [h1] at h
    obtain rfl : j = a := Option.some.inj h
    refine ⟨?_, h2, h3⟩
    obtain ⟨d, rfl⟩ : ∃ d, j = c + d := ⟨j - c, by omega⟩
    rw [fromB_skip d c (by omega) (fun t a b => h5 t a b)]
    rw [fromB, fromB, show n - (c + d) = (n - (c + d + 1)) + 1 by omega, List.range'_succ, List.filter_cons, h4]
    rfl
  · rw [h1] at h; cases h

theorem fromB_none {f : Nat → Bool} {n c : Nat} (h : nextB f n c = none) : fromB f n c = [] := by
  rcases nextB_spec f n c with ⟨j, h1, _⟩ | ⟨_, h2⟩
  · rw [h1] at h; cases h
  · rw [fromB, List.filter_eq_nil_iff]
    intro t ht
    rw [List.mem_range'_1] at ht
    rw [h2 t ht.1 (by omega)]; simp

theorem fromB_len (f : Nat → Bool) (n c : Nat) : (fromB f n c).length ≤ n - c := by
  have := List.length_filter_le f (List.range' c (n - c))
  rw [List.length_range'] at this
  exact this

/-- Numbers as values. -/
def natVs (l : List Nat) : List Value := l.map fun x => .int .i64 (x : Nat)

theorem Tryz.underlyingInts : Tryz.prog.underlying 33 = some (.slice 3) := by kernel_rfl

theorem Tryz.infoInt : (Tryz.prog.info? 3).map (fun i => (i.zero, i.size, i.bytes)) = some (some (.int .i64 0), 1, 8) := by kernel_rfl

theorem owns_len {w : World} {base : Nat} {e : TypeId} {size : Nat} {v : Value} {n : Nat} {xs : List Value} (h : w.ownsRow base e size v n xs) : ∃ a cap, v = .slice a n cap := by
  rcases h.2 with ⟨rfl, rfl⟩ | ⟨g, cap, cur, rfl, _⟩
  · exact ⟨none, 0, rfl⟩
  · exact ⟨_, cap, rfl⟩

end Go.Proofs.YtpmiidpbngbclaaGreatDoor

namespace Go.Proofs.YtpmiidpbngbclaaGreatDoor
open Go.RowKit
set_option linter.unusedVariables false

end Go.Proofs.YtpmiidpbngbclaaGreatDoor

namespace Go.Proofs.YtpmiidpbngbclaaGreatDoor
open Go.RowKit
set_option linter.unusedVariables false

end Go.Proofs.YtpmiidpbngbclaaGreatDoor

namespace Go.Proofs.YtpmiidpbngbclaaGreatDoor
open Go.RowKit
set_option linter.unusedVariables false

/-- Is there room for k at g? -/
def roomB (f : Nat → Bool) (k g : Nat) : Bool := (List.range' g k).all fun t => !f t

theorem roomB_yes {f : Nat → Bool} {k g : Nat} (h : ∀ t, g ≤ t → t < g + k → f t = false) : roomB f k g = true := by
  rw [roomB, List.all_eq_true]
  intro t ht
  rw [List.mem_range'_1] at ht
  rw [h t ht.1 ht.2]; rfl

theorem roomB_no {f : Nat → Bool} {k g t : Nat} (h1 : g ≤ t) (h2 : t < g + k) (h3 : f t = true) : roomB f k g = false := by
  rw [roomB, List.all_eq_false]
  exact ⟨t, by rw [List.mem_range'_1]; exact ⟨h1, h2⟩, by rw [h3]; simp⟩

/-- What First answers. -/
def firstI (f : Nat → Bool) (n : Nat) (a z k : Int) : Option Nat :=
  if 1 ≤ k ∧ k ≤ n then nextB (roomB f k.toNat) ((max (min z n) 0).toNat + 1 - k.toNat) a.toNat else none

/-- The rounds of First, behind the limits: X is the upper limit as it stands in the frame. -/
theorem room_step {f : Nat → Bool} {n k T s κ : Nat} (hk : 0 < k) (hT : T ≤ n) (hall : ∀ g, s ≤ g → g < κ → roomB f k g = false) (hs : s ≤ κ) (hκ : κ + k ≤ T) :
    (∀ a, nextB f n κ = some a → κ + k ≤ a → nextB (roomB f k) (T + 1 - k) s = some κ) ∧ (nextB f n κ = none → nextB (roomB f k) (T + 1 - k) s = some κ) ∧
      (∀ a, nextB f n κ = some a → a < κ + k → κ ≤ a ∧ a < n ∧ ∀ g, s ≤ g → g < a + 1 → roomB f k g = false) := by
  refine ⟨fun a ha hak => ?_, fun ha => ?_, fun a ha hak => ?_⟩
  · rcases nextB_spec f n κ with ⟨j, h1, h2, h3, h4, h5⟩ | ⟨h1, _⟩
    · rw [h1] at ha
      obtain rfl : j = a := Option.some.inj ha
      exact nextB_some hs (by omega) (roomB_yes (fun t u v => h5 t u (by omega))) hall
    · rw [h1] at ha; cases ha
  · rcases nextB_spec f n κ with ⟨j, h1, _⟩ | ⟨_, h2⟩
    · rw [h1] at ha; cases ha
    · exact nextB_some hs (by omega) (roomB_yes (fun t u v => h2 t u (by omega))) hall
  · rcases nextB_spec f n κ with ⟨j, h1, h2, h3, h4, h5⟩ | ⟨h1, _⟩
    · rw [h1] at ha
      obtain rfl : j = a := Option.some.inj ha
      refine ⟨h2, h3, fun g u v => ?_⟩
      by_cases e : g < κ
      · exact hall g u e
      · exact roomB_no (t := j) (by omega) (by omega) h4
    · rw [h1] at ha; cases ha

end Go.Proofs.YtpmiidpbngbclaaGreatDoor

namespace Go.Proofs.YtpmiidpbngbclaaGreatDoor
open Go.RowKit
set_option linter.unusedVariables false

/-- Is x among the first len of g? -/
def hitB (x : Nat → Int) (len : Nat) (j : Nat) : Bool := (List.range len).any fun i => x i == (j : Int)

theorem hitB_succ (x : Nat → Int) (len j : Nat) : hitB x (len + 1) j = (hitB x len j || x len == (j : Int)) := by
  simp [hitB, List.range_succ]

/-- May all of them be hit? -/
def okHit (n : Nat) (x : Nat → Int) (len : Nat) : Bool := (List.range len).all fun i => decide (0 ≤ x i ∧ x i < n)

theorem okHit_at {n : Nat} {x : Nat → Int} {len i : Nat} (h : okHit n x len = true) (hi : i < len) : 0 ≤ x i ∧ x i < n := by
  rw [okHit, List.all_eq_true] at h
  simpa using h i (List.mem_range.2 hi)

theorem okHit_no {n : Nat} {x : Nat → Int} {len i : Nat} (hi : i < len) (h : ¬ (0 ≤ x i ∧ x i < n)) : okHit n x len = false := by
  rw [okHit, List.all_eq_false]
  exact ⟨i, List.mem_range.2 hi, by simpa using h⟩

theorem ints_at {w : World} {v : Value} {len : Nat} {x : Nat → Nat → Int} (hv : IntsAt 1 w v len x) : ∃ a cap, v = .slice a len cap ∧ ∀ i, i < len → ∃ g o, a = some ⟨g, o, none⟩ ∧ g < w.heap.size ∧ w.cell? ⟨g, o + i, none⟩ = some (.int .i64 (x i 0)) ∧ -9223372036854775808 ≤ x i 0 ∧ x i 0 ≤ 9223372036854775807 := by
  obtain ⟨a, cap, rfl, h⟩ := hv
  refine ⟨a, cap, rfl, fun i hi => ?_⟩
  obtain ⟨g, o, rfl, h1, h2⟩ := h i hi
  have h3 := h2 0 (by omega)
  rw [Nat.mul_one, Nat.add_zero] at h3
  exact ⟨g, o, rfl, h1, h3⟩

end Go.Proofs.YtpmiidpbngbclaaGreatDoor
