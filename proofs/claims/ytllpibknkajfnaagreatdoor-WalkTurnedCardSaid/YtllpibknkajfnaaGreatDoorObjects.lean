/-
  walk: Objects, by the library's IndexFunc and DeleteFunc, walked at cells.
-/
import Derived.Test.YtllpibknkajfnaaGreatDoorRowsA
import Derived.Lib.SliceRun
import Derived.Laws.EntriesVeiled
namespace Go.Proofs.YtllpibknkajfnaaGreatDoor
open Go.RowKit
set_option linter.unusedVariables false

/-- A row of cells lies in block g, at place p the cell f p, of n places; its room is cap. -/
structure RowF (w : World) (g cap n : Nat) (f : Nat → Cel) : Prop where
  blk : ∃ cur, w.heap[g]? = some (.cells cur 62 (0, 0)) ∧ cur.size = cap * 5 ∧ ∀ p, p < n → cur[p * 5]? = some (.int .i64 ((f p).g : Nat)) ∧ cur[p * 5 + 1]? = some (.int .u8 ((f p).tag : Nat)) ∧ cur[p * 5 + 2]? = some (.int .i64 ((f p).ty : Nat)) ∧ cur[p * 5 + 3]? = some (.int .i64 ((f p).ln : Nat)) ∧ cur[p * 5 + 4]? = some (.int .i64 ((f p).sz : Nat))
  le : n ≤ cap
  cap_le : cap ≤ maxLen

theorem RowF.keep {S : Nat → Prop} {w w' : World} {g cap n : Nat} {f : Nat → Cel} (h : RowF w g cap n f) (k : Keep S w w') (hs : ¬ S g) : RowF w' g cap n f := by
  obtain ⟨cur, h1, h2⟩ := h.blk
  exact ⟨⟨cur, k.at_ h1 hs, h2⟩, h.le, h.cap_le⟩

theorem RowF.cells {w : World} {g cap n p : Nat} {f : Nat → Cel} (h : RowF w g cap n f) (hp : p < n) : w.cell? ⟨g, p * 5, none⟩ = some (.int .i64 ((f p).g : Nat)) ∧ w.cell? ⟨g, p * 5 + 1, none⟩ = some (.int .u8 ((f p).tag : Nat)) ∧ w.cell? ⟨g, p * 5 + 2, none⟩ = some (.int .i64 ((f p).ty : Nat)) ∧
    w.cell? ⟨g, p * 5 + 3, none⟩ = some (.int .i64 ((f p).ln : Nat)) ∧ w.cell? ⟨g, p * 5 + 4, none⟩ = some (.int .i64 ((f p).sz : Nat)) := by
  obtain ⟨cur, h1, h2, h3⟩ := h.blk
  obtain ⟨a0, a1, a2, a3, a4⟩ := h3 p hp
  simp only [World.cell?, h1]
  exact ⟨by simpa using a0, by simpa using a1, by simpa using a2, by simpa using a3, by simpa using a4⟩

theorem RowF.free {w : World} {g cap n : Nat} {f : Nat → Cel} (h : RowF w g cap n f) (j : Nat) : w.frozen? ⟨g, j, none⟩ = false := by
  obtain ⟨cur, h1, -⟩ := h.blk
  exact free_of_block h1 j

theorem RowF.lt {w : World} {g cap n : Nat} {f : Nat → Cel} (h : RowF w g cap n f) : g < w.heap.size := by
  obtain ⟨cur, h1, -⟩ := h.blk
  exact lt_of_heap h1

/-- f, but x at p. -/
def updF (f : Nat → Cel) (p : Nat) (x : Cel) (i : Nat) : Cel := if i = p then x else f i

theorem RowF.store {w : World} {g cap n p : Nat} {f : Nat → Cel} (h : RowF w g cap n f) (hp : p < n) (x : Cel) :
    RowF (((((w.setCell ⟨g, p * 5, none⟩ (.int .i64 (x.g : Nat))).setCell ⟨g, p * 5 + 1, none⟩ (.int .u8 (x.tag : Nat))).setCell ⟨g, p * 5 + 2, none⟩ (.int .i64 (x.ty : Nat))).setCell ⟨g, p * 5 + 3, none⟩ (.int .i64 (x.ln : Nat))).setCell ⟨g, p * 5 + 4, none⟩ (.int .i64 (x.sz : Nat))) g cap n (updF f p x) := by
  obtain ⟨cur, h1, h2, h3⟩ := h.blk
  have hle := h.le
  refine ⟨⟨_, block_setCell (block_setCell (block_setCell (block_setCell (block_setCell h1 _) _) _) _) _, by simp [h2], fun i hi => ?_⟩, h.le, h.cap_le⟩
  have hsz : p * 5 + 4 < cur.size := by omega
  obtain ⟨a0, a1, a2, a3, a4⟩ := h3 i hi
  by_cases e : i = p
  · subst e
    unfold updF
    rw [if_pos rfl]
    simp only [Array.getElem?_setIfInBounds]
    refine ⟨?_, ?_, ?_, ?_, ?_⟩ <;> (simp; omega)
  · unfold updF
    rw [if_neg e]
    simp only [Array.getElem?_setIfInBounds]
    refine ⟨?_, ?_, ?_, ?_, ?_⟩ <;> (rw [if_neg (by omega), if_neg (by omega), if_neg (by omega), if_neg (by omega), if_neg (by omega)]; assumption)

theorem RowF.of_owns {w : World} {base : Nat} {v : Value} {cs : List Cel} (h : w.ownsRow base 62 5 v cs.length (flatC cs)) (hne : cs ≠ []) : ∃ g cap, v = .slice (some ⟨g, 0, none⟩) cs.length cap ∧ base ≤ g ∧ RowF w g cap cs.length (fun p => (cs[p]?).getD ⟨0, 0, 0, 0, 0⟩) := by
  rcases h.2 with ⟨-, h0⟩ | ⟨g, cap, cur, hv, g2, g3, g4, g5, g6, g7⟩
  · exact absurd (List.length_eq_zero_iff.1 h0) hne
  · refine ⟨g, cap, hv, g2, ⟨cur, g3, g6, fun p hp => ?_⟩, g4, g5⟩
    have hx : cs[p]? = some cs[p] := List.getElem?_eq_getElem hp
    obtain ⟨x0, x1, x2, x3, x4⟩ := flatC_at cs p _ hx
    have key : ∀ j, j < cs.length * 5 → cur[j]? = (flatC cs)[j]? := fun j hj => by
      rw [← g7, List.getElem?_take_of_lt hj]
      simp
    rw [hx]
    exact ⟨by rw [key _ (by omega)]; exact x0, by rw [key _ (by omega)]; exact x1, by rw [key _ (by omega)]; exact x2, by rw [key _ (by omega)]; exact x3, by rw [key _ (by omega)]; exact x4⟩

end Go.Proofs.YtllpibknkajfnaaGreatDoor
