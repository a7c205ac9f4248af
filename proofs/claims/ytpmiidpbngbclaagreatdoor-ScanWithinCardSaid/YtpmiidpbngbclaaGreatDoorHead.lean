/-
  Headers: Check, Encode, Decode of package head, over the table of fields.
-/
import Derived.Test.YtpmiidpbngbclaaGreatDoorBits2
import Derived.Test.YtpmiidpbngbclaaGreatDoorCells
import Derived.BigQuiet
namespace Go.Proofs.YtpmiidpbngbclaaGreatDoor
open Go.RowKit
set_option linter.unusedVariables false

/-- The fields' numbers: where each begins, how many bits it has. -/
def fieldsL : List Int := [0, 2, 2, 12, 14, 2, 16, 24, 40, 24]

/-- The table of fields stands as it was laid. -/
def FieldsAt (w : World) : Prop := 0 < w.heap.size ∧ ∀ j, j < 10 → w.cell? ⟨0, j, none⟩ = some (.int .i64 (fieldsL.getD j 0))

theorem FieldsAt.keep {S : Nat → Prop} {w w' : World} (h : FieldsAt w) (k : Keep S w w') (hs : ¬ S 0) : FieldsAt w' :=
  ⟨Nat.lt_of_lt_of_le h.1 k.size, fun j hj => k.cell (h.2 j hj) hs⟩

theorem FieldsAt.keepN {w w' : World} (h : FieldsAt w) (k : Keep Nope w w') : FieldsAt w' := h.keep k (fun h => h)

theorem FieldsAt.all {w : World} (h : FieldsAt w) : w.cell? ⟨0, 0, none⟩ = some (.int .i64 0) ∧ w.cell? ⟨0, 1, none⟩ = some (.int .i64 2) ∧ w.cell? ⟨0, 2, none⟩ = some (.int .i64 2) ∧ w.cell? ⟨0, 3, none⟩ = some (.int .i64 12) ∧
    w.cell? ⟨0, 4, none⟩ = some (.int .i64 14) ∧ w.cell? ⟨0, 5, none⟩ = some (.int .i64 2) ∧ w.cell? ⟨0, 6, none⟩ = some (.int .i64 16) ∧ w.cell? ⟨0, 7, none⟩ = some (.int .i64 24) ∧ w.cell? ⟨0, 8, none⟩ = some (.int .i64 40) ∧ w.cell? ⟨0, 9, none⟩ = some (.int .i64 24) :=
  ⟨h.2 0 (by omega), h.2 1 (by omega), h.2 2 (by omega), h.2 3 (by omega), h.2 4 (by omega), h.2 5 (by omega), h.2 6 (by omega), h.2 7 (by omega), h.2 8 (by omega), h.2 9 (by omega)⟩

theorem most_1 (w : World) (h : FieldsAt w) : Calls Tryz.prog 155 #[.int .i64 1] w fun e w' => e = .returned (.int .i64 4095) ∧ w' = w := by
  obtain ⟨c0, c1, c2, c3, c4, c5, c6, c7, c8, c9⟩ := h.all
  clear h
  go_enter Tryz.func155, Tryz.ntmps155
  go_wp2
  go_ret
  exact ⟨rfl, rfl⟩

theorem most_3 (w : World) (h : FieldsAt w) : Calls Tryz.prog 155 #[.int .i64 3] w fun e w' => e = .returned (.int .i64 16777215) ∧ w' = w := by
  obtain ⟨c0, c1, c2, c3, c4, c5, c6, c7, c8, c9⟩ := h.all
  clear h
  go_enter Tryz.func155, Tryz.ntmps155
  go_wp2
  go_ret
  exact ⟨rfl, rfl⟩

theorem most_4 (w : World) (h : FieldsAt w) : Calls Tryz.prog 155 #[.int .i64 4] w fun e w' => e = .returned (.int .i64 16777215) ∧ w' = w := by
  obtain ⟨c0, c1, c2, c3, c4, c5, c6, c7, c8, c9⟩ := h.all
  clear h
  go_enter Tryz.func155, Tryz.ntmps155
  go_wp2
  go_ret
  exact ⟨rfl, rfl⟩

/-- A header as a value. -/
def headV (tag ty ln sz : Int) : Value := .agg #[.int .u8 tag, .int .i64 ty, .int .i64 ln, .int .i64 sz]

end Go.Proofs.YtpmiidpbngbclaaGreatDoor
