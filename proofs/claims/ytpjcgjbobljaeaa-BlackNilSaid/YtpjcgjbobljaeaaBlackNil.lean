/-
  What no list answers: the law's walk.
-/
import Derived.Test.YtpjcgjbobljaeaaBlackAlive
namespace Go.Proofs.Ytpjcgjbobljaeaa
open Go.RowKit
set_option linter.unusedVariables false

set_option maxHeartbeats 4000000 in
theorem bnil_walk (g n : Int) (w : World) : Calls Try.prog 10 #[.int .i64 g, .int .i64 n] w fun e w' => e = .returned (.bool true) ∧ Keep Nope w w' := by
  go_enter Try.func10, Try.ntmps10
  go_wp2_with fail
  refine (First_nil _ _ _ _).mono ?_
  rintro e w' ⟨rfl, rfl⟩
  dsimp only [optV, Option.getD_none, Option.isSome_none]
  go_wp2_with fail
  refine (Hit_nil _ _).mono ?_
  rintro e w' ⟨rfl, rfl⟩
  go_wp2_with fail
  refine (BTurn_nil _).mono ?_
  rintro e w' ⟨rfl, rfl⟩
  go_wp2_with fail
  refine (BHas_nil _ _).mono ?_
  rintro e w' ⟨rfl, rfl⟩
  go_wp2_with fail
  refine (BLen_nil _).mono ?_
  rintro e w' ⟨rfl, rfl⟩
  go_wp2_with fail
  refine (BCount_nil _).mono ?_
  rintro e w' ⟨rfl, rfl⟩
  go_wp2_with fail
  refine (List_nil _).mono ?_
  rintro e w' ⟨rfl, rfl⟩
  go_wp2_with fail
  refine (BCopy_nil _).mono ?_
  rintro e w' ⟨rfl, rfl⟩
  go_wp2_with fail
  refine (alive12 _).mono ?_
  rintro e w6 ⟨rfl, k6⟩
  go_wp2
  go_ret
  exact ⟨rfl, ((Keep.refl Nope w).alloc _).trans k6 (fun _ _ h => h)⟩

end Go.Proofs.Ytpjcgjbobljaeaa
