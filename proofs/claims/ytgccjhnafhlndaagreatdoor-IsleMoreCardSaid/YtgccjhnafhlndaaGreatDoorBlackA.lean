/-
 A list of black granules in memory; next, Has, Len of package black.
 List and Count of package black.
 New, Copy, Turn of package black.
 Turn of package black.
 First of package black: the least place with room.
 Hit of package black.
-/
import Derived.Test.YtgccjhnafhlndaaGreatDoorHeadA
import Derived.Deep.RegionHeld3
import Derived.Test.YtgccjhnafhlndaaGreatDoorLibA
namespace Go.Proofs.YtgccjhnafhlndaaGreatDoor
open Go.RowKit
set_option linter.unusedVariables false

def AR (l : List Nat) : List Value := l.map λ x => .int .i64 (x : Nat)

theorem Tryz.A9 : Tryz.prog.underlying 31 = some (.slice 3) := by kernel_rfl

theorem Tryz.C8 : (Tryz.prog.info? 3).map (λ i => (i.zero, i.size, i.bytes)) = some (some (.int .i64 0), 1, 8) := by kernel_rfl

theorem ints_at {w : World} {v : Value} {len : Nat} {x : Nat -> Nat -> Int} (hv : Bn 1 w v len x) : ∃ a cap, v = .slice a len cap /\ ∀ i, i < len -> ∃ g o, a = some ⟨g, o, none⟩ /\ g < w.heap.size /\ w.cell? ⟨g, o + i, none⟩ = some (.int .i64 (x i 0)) /\ -9223372036854775808 <= x i 0 /\ x i 0 <= 9223372036854775807 := by
 obtain ⟨a, cap, rfl, h⟩ := hv
 refine ⟨a, cap, rfl, λ i hi => ?_⟩
 obtain ⟨g, o, rfl, h1, h2⟩ := h i hi
 have h3 := h2 0 (by omega)
 rw [Nat.mul_one, Nat.add_zero] at h3
 exact ⟨g, o, rfl, h1, h3⟩

end Go.Proofs.YtgccjhnafhlndaaGreatDoor
