/-
  New of package space, where there is none.
-/
import Derived.Test.YtafjebdjdmlahaaDoorSpaceNew
namespace Go.Proofs.YtafjebdjdmlahaaDoor
open Go.RowKit
set_option linter.unusedVariables false

theorem SNew_nil (n : Int) (w : World) : Calls Tryd.prog 8 #[.int .i64 n, .pointer none] w fun e w' => e = .returned (.tuple #[.pointer none, .int .i64 1]) ∧ w' = w := by
  go_enter Tryd.func8, Tryd.ntmps8
  go_wp2
  exact bodyPost_ret (v := .tuple #[.pointer none, .int .i64 1]) (by simp [results, Tryd.results8, go_sem]) rfl ⟨rfl, rfl⟩

theorem SNew_no (n : Int) (t : Nat) (w : World) (h : okWords n = false) : Calls Tryd.prog 8 #[.int .i64 n, .pointer (some ⟨t, 0, none⟩)] w fun e w' => e = .returned (.tuple #[.pointer none, .int .i64 2]) ∧ w' = w := by
  have HA : Seal _ := ⟨ANew_no n w h⟩
  clear h
  go_enter Tryd.func8, Tryd.ntmps8
  go_wp2_with fail
  refine HA.out.mono ?_
  rintro e w' ⟨rfl, rfl⟩
  go_wp2
  exact bodyPost_ret (v := .tuple #[.pointer none, .int .i64 2]) (by simp [results, Tryd.results8, go_sem]) rfl ⟨rfl, rfl⟩

end Go.Proofs.YtafjebdjdmlahaaDoor
