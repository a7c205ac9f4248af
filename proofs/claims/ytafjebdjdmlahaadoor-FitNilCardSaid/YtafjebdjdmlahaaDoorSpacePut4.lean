/-
  Put of package space, whole.
-/
import Derived.Test.YtafjebdjdmlahaaDoorSpacePut3
namespace Go.Proofs.YtafjebdjdmlahaaDoor
open Go.RowKit
set_option linter.unusedVariables false

theorem Put_any (g id n : Int) (P : Sp) (cs : List Cel) (w : World) (h : SpaceHas w P cs) :
    Calls Tryd.prog 10 #[.pointer (some ⟨P.s, 0, none⟩), .int .i64 g, .int .i64 id, .int .i64 n] w (PutPost P cs g id n w) := by
  by_cases he : sizeE P.ts id n = 0
  · have few : P.ts.length ≤ 64 := by obtain ⟨_, _, hs, _⟩ := h; exact hs.tb.few
    obtain ⟨i, l, S, rfl, rfl, hS, h0, h1, hok⟩ := obj_ok few he
    by_cases ho : g < 0 ∨ ((P.n / 2 : Nat) : Int) ≤ g
    · exact Put_out g i l S P cs w h he hS ho
    · obtain ⟨j, rfl⟩ := Int.eq_ofNat_of_zero_le (show 0 ≤ g by omega)
      exact Put_in j i l S P cs w h he hS h0 hok (by omega)
  · exact Put_err g id n P cs w h he

end Go.Proofs.YtafjebdjdmlahaaDoor
