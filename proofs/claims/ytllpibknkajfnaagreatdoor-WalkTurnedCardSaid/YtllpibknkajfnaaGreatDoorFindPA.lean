/-
  find, the plain law: how many words of cells are slots.
  find: the object, and the slot, that has an address.
-/
import Derived.Test.YtllpibknkajfnaaGreatDoorView
import Derived.Test.YtllpibknkajfnaaGreatDoorRowsA
import Derived.Test.YtllpibknkajfnaaGreatDoorSpaceIter
namespace Go.Proofs.YtllpibknkajfnaaGreatDoor
open Go.RowKit
set_option linter.unusedVariables false

/-- How many slots a cell has. -/
def slotN (ts : List TypR) (c : Cel) : Nat := if c.tag = 1 then (match typeOf ts (c.ty : Nat) with | some x => (slotsT x.k x.wds (c.ln : Nat)).toNat | none => 0) else 0

theorem slotN_room {ts : List TypR} {c : Cel} (hok : CelOk ts c) (hs : 0 < c.sz) : slotN ts c + 1 ≤ 2 * c.sz := by
  unfold slotN
  split
  · rename_i ht
    obtain ⟨e1, e2⟩ := hok.2 ht
    split
    · rename_i x hx
      unfold sizeS at e2
      rw [hx] at e2
      simp only [sizeT] at e2
      omega
    · omega
  · omega

end Go.Proofs.YtllpibknkajfnaaGreatDoor

namespace Go.Proofs.YtllpibknkajfnaaGreatDoor
open Go.RowKit
set_option linter.unusedVariables false

theorem SWord_no (y : Nat) (w : World) (h : y < 1048576 ∨ 1114112 ≤ y) (hy : y < 18446744073709551616) : Calls Tryz.prog 122 #[.int .u64 (y : Nat)] w fun e w' => e = .returned (.tuple #[.int .i64 0, .bool false]) ∧ w' = w := by
  by_cases h1 : y < 1048576
  · have d1 : decide ((y : Int) < 1048576) = true := decide_eq_true (by omega)
    clear h
    go_enter Tryz.func122, Tryz.ntmps122
    go_wp2
    go_ret2
    exact ⟨rfl, rfl⟩
  · have d1 : decide ((y : Int) < 1048576) = false := decide_eq_false (by omega)
    have d2 : decide ((65536 : Int) ≤ (y : Int) - 1048576) = true := decide_eq_true (by omega)
    have d3 : IntKind.u64.wrap ((y : Int) - 1048576) = (y : Int) - 1048576 := by rw [IntKind.wrap_u64]; omega
    clear h
    go_enter Tryz.func122, Tryz.ntmps122
    go_wp2
    go_ret2
    exact ⟨rfl, rfl⟩

theorem SWord_yes (n : Nat) (w : World) (h : n < 65536) : Calls Tryz.prog 122 #[.int .u64 ((1048576 + n : Nat) : Int)] w fun e w' => e = .returned (.tuple #[.int .i64 (n : Nat), .bool true]) ∧ w' = w := by
  obtain ⟨y, hy⟩ : ∃ y, y = 1048576 + n := ⟨_, rfl⟩
  rw [← hy]
  have HY : Seal ((y : Int) - 1048576 = (n : Nat)) := ⟨by omega⟩
  have d1 : decide ((y : Int) < 1048576) = false := decide_eq_false (by omega)
  have d2 : decide ((65536 : Int) ≤ (y : Int) - 1048576) = false := decide_eq_false (by omega)
  have d3 : IntKind.u64.wrap ((y : Int) - 1048576) = (y : Int) - 1048576 := by rw [IntKind.wrap_u64]; omega
  have d4 : IntKind.i64.wrap ((y : Int) - 1048576) = (y : Int) - 1048576 := by rw [IntKind.wrap_i64]; omega
  clear hy
  go_enter Tryz.func122, Tryz.ntmps122
  go_wp2
  go_ret2
  exact ⟨by rw [HY.out]; rfl, rfl⟩

end Go.Proofs.YtllpibknkajfnaaGreatDoor
