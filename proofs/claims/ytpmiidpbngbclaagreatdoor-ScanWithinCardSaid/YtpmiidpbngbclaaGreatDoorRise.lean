/-
  A row of ints that the call owns, sorted and made one of each by the library's Sort and Compact (contracts of the shelf).
-/
import Derived.Test.YtpmiidpbngbclaaGreatDoorRiseL
import Derived.Test.YtpmiidpbngbclaaGreatDoorLib
import Derived.Test.YtpmiidpbngbclaaGreatDoorShelf
import Derived.Sort.OwnSortedInts
namespace Go.Proofs.YtpmiidpbngbclaaGreatDoor
open Go.RowKit Go.Sort
set_option linter.unusedVariables false

def intVs (xs : List Int) : List Value := xs.map (Value.int .i64)

theorem intVs_len (xs : List Int) : (intVs xs).length = xs.length := by simp [intVs]

theorem Keep.of_grownBy {w w' : World} {b : Nat} (h : w.grownBy w' (some b)) : Keep (fun k => k = b) w w' :=
  (Keep.refl (fun k => k = b) w).grown h (fun k e _ => by injection e with e; exact e.symm)

theorem Sort_row (base : Nat) (v : Value) (zs : List Int) (w : World) (ho : w.ownsRow base 3 1 v zs.length (intVs zs)) (hl : zs.length ≤ 4611686018427387903) :
    Calls Tryz.prog 122 #[v] w fun e w' => e = .returned (.tuple #[]) ∧ w'.ownsRow base 3 1 v zs.length (intVs (zs.mergeSort fun x y => decide (x ≤ y))) ∧ Keep (fun k => v.ownBlock = some k) w w' := by
  rcases ho.2 with ⟨rfl, h0⟩ | ⟨b, cap, cur, rfl, h2, h3, h4, h5, h6, h7⟩
  · rw [h0]
    refine (Tryz.slices_Sort_int_none none 0 w).mono ?_
    rintro e w' ⟨rfl, rfl⟩
    obtain rfl : zs = [] := List.length_eq_zero_iff.1 h0
    exact ⟨rfl, ⟨by simp [intVs], .inl ⟨rfl, rfl⟩⟩, Keep.refl _ _⟩
  · rw [Nat.mul_one] at h7
    refine (Tryz.slices_Sort_int b 0 cap zs w (holds_of_blockI h3 h7) (Array.getElem?_eq_some_iff.1 h3).1 (by omega)).mono ?_
    rintro e w' ⟨rfl, n, os, rfl⟩
    refine ⟨rfl, ownsRow_sortedI (by simp) h2 h3 h4 h5 h6, (Keep.of_grownBy (grownBy_sortedI _)).mono fun i _ h => by subst h; rfl⟩

theorem Compact_row (base : Nat) (v : Value) (zs : List Int) (w : World) (ho : w.ownsRow base 3 1 v zs.length (intVs zs)) (hl : zs.length ≤ 4611686018427387903) :
    Calls Tryz.prog 123 #[v] w fun e w' => ∃ v', e = .returned v' ∧ w'.ownsRow base 3 1 v' (Lib.compact zs).length (intVs (Lib.compact zs)) ∧ v'.ownBlock = v.ownBlock ∧ Keep (fun k => v.ownBlock = some k) w w' := by
  rcases ho.2 with ⟨rfl, h0⟩ | ⟨b, cap, cur, rfl, h2, h3, h4, h5, h6, h7⟩
  · refine (Tryz.slices_Compact_int_empty none 0 w).mono ?_
    rintro e w' ⟨rfl, rfl⟩
    obtain rfl : zs = [] := List.length_eq_zero_iff.1 h0
    exact ⟨_, rfl, ⟨by simp [intVs], .inl ⟨rfl, rfl⟩⟩, rfl, Keep.refl _ _⟩
  · rw [Nat.mul_one] at h7
    have hc : (Lib.compact zs).length ≤ zs.length := by
      unfold Lib.compact Lib.compactUpTo
      rw [List.length_map]
      exact Nat.le_trans (List.length_filter_le _ _) (by simp)
    refine (Tryz.slices_Compact_int b 0 cap zs w (holds_of_blockI h3 h7) (by omega) h4).mono ?_
    rintro e w' ⟨rfl, q, rfl⟩
    obtain ⟨ts, hts⟩ : ∃ ts, Lib.compact zs ++ List.replicate (zs.length - (Lib.compact zs).length) 0 = ts := ⟨_, rfl⟩
    have hlt : ts.length = zs.length := by rw [← hts]; simp; omega
    rw [hts]
    have hg := heap_sortedI (n := q) (os := #[]) ts.toArray h3
    have hgb := grownBy_sortedI (w := w) (g := b) (n := q) (os := #[]) ts.toArray
    rw [grow_empty] at hg hgb
    refine ⟨_, rfl, ⟨by simp [intVs], .inr ⟨b, cap, _, rfl, h2, hg, by omega, h5, by simp [putCells, h6], ?_⟩⟩, rfl, (Keep.of_grownBy hgb).mono fun i _ h => by subst h; rfl⟩
    have ht := take_putCellsI cur ts (by omega)
    have h8 := congrArg (List.take (Lib.compact zs).length) ht
    rw [List.take_take, Nat.min_eq_left (by omega), ← List.map_take, ← hts, List.take_left'  rfl] at h8
    rw [Nat.mul_one, hts] at *
    rw [← hts] at h8 ⊢
    exact h8

theorem row_slice {w : World} {base : Nat} {e : TypeId} {size : Nat} {v : Value} {n : Nat} {xs : List Value} (h : w.ownsRow base e size v n xs) : ∃ a n c, v = .slice a n c := by
  rcases h.2 with ⟨h, _⟩ | ⟨g, cap, cur, h, _⟩
  · exact ⟨_, _, _, h⟩
  · exact ⟨_, _, _, h⟩

end Go.Proofs.YtpmiidpbngbclaaGreatDoor
