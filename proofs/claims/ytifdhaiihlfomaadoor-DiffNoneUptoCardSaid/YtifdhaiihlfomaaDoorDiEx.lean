/-
  The chapter's examples as plain data and in memory.
-/
import Derived.Test.YtifdhaiihlfomaaDoorDiIn
namespace Go.Proofs.YtifdhaiihlfomaaDoor
open Go Go.RowKit Go.Conc
set_option linter.unusedVariables false

/-- One node with one word. -/
def exG (r n : Nat) (x : Int) : GraphV := ⟨.slice (some ⟨n, 0, none⟩) 1 1, .slice none 0 0, .slice none 0 0, .slice none 0 0, [⟨1, 0, .slice (some ⟨r, 0, none⟩) 1 1, .slice none 0 0, [x], []⟩], [], [], []⟩
/-- Two nodes, both of which refer to the second. -/
def exC (r s n : Nat) : GraphV := ⟨.slice (some ⟨n, 0, none⟩) 2 2, .slice none 0 0, .slice none 0 0, .slice none 0 0, [⟨1, 0, .slice none 0 0, .slice (some ⟨r, 0, none⟩) 1 1, [], [2]⟩, ⟨2, 0, .slice none 0 0, .slice (some ⟨s, 0, none⟩) 1 1, [], [2]⟩], [], [], []⟩
/-- The part of the second. -/
def exP (r n h : Nat) : GraphV := ⟨.slice (some ⟨n, 0, none⟩) 1 1, .slice (some ⟨h, 0, none⟩) 1 1, .slice none 0 0, .slice none 0 0, [⟨2, 0, .slice none 0 0, .slice (some ⟨r, 0, none⟩) 1 1, [], [1]⟩], [0], [], []⟩

theorem rowR_one {k : IntKind} {T : TypeId} {W : World} {r : Nat} {x : Int} (h : W.heap[r]? = some (.cells #[.int k x] T)) : RowR k W (.slice (some ⟨r, 0, none⟩) 1 1) [x] :=
  ⟨some ⟨r, 0, none⟩, 1, rfl, fun i y hy => by
    match i, hy with
    | 0, hy =>
      obtain rfl : x = y := by simpa using hy
      exact ⟨r, 0, rfl, lt_of_heap h, cell_at h rfl⟩⟩
theorem exG_R {W : World} {r n : Nat} {x : Int} {T : TypeId} (h1 : W.heap[r]? = some (.cells #[.int .u64 x] T)) (h2 : W.heap[n]? = some (.cells #[.int .i64 1, .int .i64 0, .slice (some ⟨r, 0, none⟩) 1 1, .slice none 0 0] 41)) : GraphR W (exG r n x) := by
  refine ⟨⟨_, 1, rfl, fun i y hy => ?_⟩, row_none _ _, row_none _ _, row_none _ _⟩
  match i, hy with
  | 0, hy =>
    obtain rfl : _ = y := by simpa [exG] using hy
    obtain ⟨c0, c1, c2, c3⟩ := cells4 h2
    exact ⟨n, 0, rfl, lt_of_heap h2, c0, c1, c2, c3, rowR_one h1, row_none _ _⟩
theorem exC_R {W : World} {r s n : Nat} {T : TypeId} (h1 : W.heap[r]? = some (.cells #[.int .i64 2] T)) (h2 : W.heap[s]? = some (.cells #[.int .i64 2] T))
    (h3 : W.heap[n]? = some (.cells #[.int .i64 1, .int .i64 0, .slice none 0 0, .slice (some ⟨r, 0, none⟩) 1 1, .int .i64 2, .int .i64 0, .slice none 0 0, .slice (some ⟨s, 0, none⟩) 1 1] 41)) : GraphR W (exC r s n) := by
  refine ⟨⟨_, 2, rfl, fun i y hy => ?_⟩, row_none _ _, row_none _ _, row_none _ _⟩
  match i, hy with
  | 0, hy =>
    obtain rfl : _ = y := by simpa [exC] using hy
    exact ⟨n, 0, rfl, lt_of_heap h3, cell_at h3 rfl, cell_at h3 rfl, cell_at h3 rfl, cell_at h3 rfl, row_none _ _, rowR_one h1⟩
  | 1, hy =>
    obtain rfl : _ = y := by simpa [exC] using hy
    exact ⟨n, 0, rfl, lt_of_heap h3, cell_at h3 rfl, cell_at h3 rfl, cell_at h3 rfl, cell_at h3 rfl, row_none _ _, rowR_one h2⟩
theorem exP_R {W : World} {r n h : Nat} {T : TypeId} (h1 : W.heap[r]? = some (.cells #[.int .i64 1] T)) (h2 : W.heap[n]? = some (.cells #[.int .i64 2, .int .i64 0, .slice none 0 0, .slice (some ⟨r, 0, none⟩) 1 1] 41)) (h3 : W.heap[h]? = some (.cells #[.int .i64 0] T)) : GraphR W (exP r n h) := by
  refine ⟨⟨_, 1, rfl, fun i y hy => ?_⟩, rowR_one h3, row_none _ _, row_none _ _⟩
  match i, hy with
  | 0, hy =>
    obtain rfl : _ = y := by simpa [exP] using hy
    obtain ⟨c0, c1, c2, c3⟩ := cells4 h2
    exact ⟨n, 0, rfl, lt_of_heap h2, c0, c1, c2, c3, row_none _ _, rowR_one h1⟩
theorem exG_L (r n : Nat) (x : Int) : GraphL (exG r n x) := ⟨by simp [exG], by simp [exG], by simp [exG], by simp [exG], fun y hy => by
  obtain rfl : y = _ := by simpa [exG] using hy
  exact ⟨by simp, by simp⟩⟩
theorem exC_L (r s n : Nat) : GraphL (exC r s n) := ⟨by simp [exC], by simp [exC], by simp [exC], by simp [exC], fun y hy => by
  rcases (by simpa [exC] using hy) with rfl | rfl <;> exact ⟨by simp, by simp⟩⟩
theorem exG_in {W : World} {r n : Nat} {x : Int} (h : GraphR W (exG r n x)) : GraphIn W (exG r n x) := graph_in h (by simp [exG]) (by simp [exG]) (by simp [exG]) (by simp [exG]) fun y hy => by
  obtain rfl : y = _ := by simpa [exG] using hy
  exact ⟨by simp, by simp⟩
theorem allL_ex (r n s m : Nat) : allL (exG r n 7) (exG s m 8) = [dV 3 0 0] := rfl
theorem allL_self (r n : Nat) : allL (exG r n 7) (exG r n 7) = [] := rfl
theorem exC_one (r s n : Nat) : partP (exC r s n).p 1 = [⟨2, 0, [], [1]⟩] := rfl
theorem exC_zero (r s n : Nat) : (partP (exC r s n).p 0).length = 2 := rfl
theorem exG_one (r n : Nat) (x : Int) : partP (exG r n x).p 1 = [] := rfl
theorem exP_p (r n h : Nat) : (exP r n h).p = [⟨2, 0, [], [1]⟩] := rfl
theorem exP_zero : partP [(⟨2, 0, [], [1]⟩ : NodeP)] 0 = [⟨2, 0, [], [1]⟩] := rfl
theorem exC_cnt (r s n : Nat) : cntT (exC r s n).ns 2 = 1 := rfl
theorem exC_ty (r s n : Nat) : ∀ y ∈ (exC r s n).ns, -9223372036854775808 ≤ y.ty ∧ y.ty < 9223372036854775808 := fun y hy => by
  rcases (by simpa [exC] using hy) with rfl | rfl <;> exact ⟨by simp, by simp⟩

end Go.Proofs.YtifdhaiihlfomaaDoor
