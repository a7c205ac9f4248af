/-
  List and Count of package black.
-/
import Derived.Test.YtafjebdjdmlahaaDoorBlackAt
namespace Go.Proofs.YtafjebdjdmlahaaDoor
open Go.RowKit
set_option linter.unusedVariables false

/-- Those from c on, below n. -/
def fromB (f : Nat → Bool) (n c : Nat) : List Nat := (List.range' c (n - c)).filter f

theorem fromB_skip {f : Nat → Bool} {n : Nat} : ∀ (d c : Nat), c + d ≤ n → (∀ t, c ≤ t → t < c + d → f t = false) → fromB f n c = fromB f n (c + d)
  | 0, c, _, _ => rfl
  | d + 1, c, h, hf => by
    have h1 : fromB f n c = fromB f n (c + 1) := by
      rw [fromB, fromB, show n - c = (n - (c + 1)) + 1 by omega, List.range'_succ, List.filter_cons, hf c (Nat.le_refl _) (by omega)]
      rfl
    rw [h1, fromB_skip d (c + 1) (by omega) (fun t a b => hf t (by omega) (by omega))]
    congr 1; omega

theorem fromB_some {f : Nat → Bool} {n c a : Nat} (h : nextB f n c = some a) : fromB f n c = a :: fromB f n (a + 1) ∧ c ≤ a ∧ a < n := by
  rcases nextB_spec f n c with ⟨j, h1, h2, h3, h4, h5⟩ | ⟨h1, _⟩
  · rw [h1] at h
    obtain rfl : j = a := Option.some.inj h
    refine ⟨?_, h2, h3⟩
    obtain ⟨d, rfl⟩ : ∃ d, j = c + d := ⟨j - c, by omega⟩
    rw [fromB_skip d c (by omega) (fun t a b => h5 t a b)]
    rw [fromB, fromB, show n - (c + d) = (n - (c + d + 1)) + 1 by omega, List.range'_succ, List.filter_cons, h4]
    rfl
  · rw [h1] at h; cases h

theorem fromB_none {f : Nat → Bool} {n c : Nat} (h : nextB f n c = none) : fromB f n c = [] := by
  rcases nextB_spec f n c with ⟨j, h1, _⟩ | ⟨_, h2⟩
  · rw [h1] at h; cases h
  · rw [fromB, List.filter_eq_nil_iff]
    intro t ht
    rw [List.mem_range'_1] at ht
    rw [h2 t ht.1 (by omega)]; simp

theorem fromB_len (f : Nat → Bool) (n c : Nat) : (fromB f n c).length ≤ n - c := by
  have := List.length_filter_le f (List.range' c (n - c))
  rw [List.length_range'] at this
  exact this

/-- Numbers as values. -/
def natVs (l : List Nat) : List Value := l.map fun x => .int .i64 (x : Nat)

theorem Tryd.underlyingInts : Tryd.prog.underlying 35 = some (.slice 3) := by kernel_rfl

theorem Tryd.infoInt : (Tryd.prog.info? 3).map (fun i => (i.zero, i.size, i.bytes)) = some (some (.int .i64 0), 1, 8) := by kernel_rfl

theorem owns_len {w : World} {base : Nat} {e : TypeId} {size : Nat} {v : Value} {n : Nat} {xs : List Value} (h : w.ownsRow base e size v n xs) : ∃ a cap, v = .slice a n cap := by
  rcases h.2 with ⟨rfl, rfl⟩ | ⟨g, cap, cur, rfl, _⟩
  · exact ⟨none, 0, rfl⟩
  · exact ⟨_, cap, rfl⟩

end Go.Proofs.YtafjebdjdmlahaaDoor
