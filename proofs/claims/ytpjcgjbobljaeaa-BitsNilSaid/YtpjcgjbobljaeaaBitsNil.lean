/-
  What no row answers: the law's walk.
-/
import Derived.Test.YtpjcgjbobljaeaaBitsAlive
namespace Go.Proofs.Ytpjcgjbobljaeaa
open Go.RowKit
set_option linter.unusedVariables false

set_option maxHeartbeats 4000000 in
theorem nil_walk (i n : Int) (w : World) : Calls Try.prog 6 #[.int .i64 i, .int .i64 n] w fun e w' => e = .returned (.bool true) ∧ Keep Nope w w' := by
  go_enter Try.func6, Try.ntmps6
  go_wp2_with fail
  refine (Next_nil _ _).mono ?_
  rintro e w' ⟨rfl, rfl⟩
  dsimp only [optV, Option.getD_none, Option.isSome_none]
  go_wp2_with fail
  refine (NextClear_nil _ _).mono ?_
  rintro e w' ⟨rfl, rfl⟩
  dsimp only [optV, Option.getD_none, Option.isSome_none]
  go_wp2_with fail
  refine (Prev_nil _ _).mono ?_
  rintro e w' ⟨rfl, rfl⟩
  dsimp only [optV, Option.getD_none, Option.isSome_none]
  go_wp2_with fail
  refine (Count_nil _ _ _).mono ?_
  rintro e w1 ⟨rfl, k1⟩
  go_wp2_with fail
  refine (Len_nil _).mono ?_
  rintro e w' ⟨rfl, rfl⟩
  go_wp2_with fail
  refine (Set_nil _ _).mono ?_
  rintro e w2 ⟨rfl, k2⟩
  go_wp2_with fail
  refine (Clear_nil _ _).mono ?_
  rintro e w3 ⟨rfl, k3⟩
  go_wp2_with fail
  refine (SetRun_nil _ _ _).mono ?_
  rintro e w4 ⟨rfl, k4⟩
  go_wp2_with fail
  refine (ClearRun_nil _ _ _).mono ?_
  rintro e w5 ⟨rfl, k5⟩
  go_wp2_with fail
  refine (Has_nil _ _).mono ?_
  rintro e w' ⟨rfl, rfl⟩
  go_wp2_with fail
  refine (Runs_nil _).mono ?_
  rintro e w' ⟨rfl, rfl⟩
  go_wp2_with fail
  refine (Copy_nil _).mono ?_
  rintro e w' ⟨rfl, rfl⟩
  go_wp2_with fail
  refine (alive03 _).mono ?_
  rintro e w6 ⟨rfl, k6⟩
  go_wp2
  go_ret
  exact ⟨rfl, ((((k1.trans k2 (fun _ _ h => h)).trans k3 (fun _ _ h => h)).trans k4 (fun _ _ h => h)).trans k5 (fun _ _ h => h)).trans k6 (fun _ _ h => h)⟩

end Go.Proofs.Ytpjcgjbobljaeaa
