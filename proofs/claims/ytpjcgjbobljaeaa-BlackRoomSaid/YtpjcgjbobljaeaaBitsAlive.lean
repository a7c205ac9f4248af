/-
  The chapter's examples.
-/
import Derived.Test.YtpjcgjbobljaeaaBitsAll
namespace Go.Proofs.Ytpjcgjbobljaeaa
open Go.RowKit
set_option linter.unusedVariables false

/-- What a row has behind SetRun(62, 4), and behind Clear(64). -/
def al1 : Nat → Bool := runSet (fun _ => false) 62 4 true
def al2 : Nat → Bool := runSet al1 64 1 false

theorem al_next : nextB al1 70 0 = some 62 := by decide

theorem al_clear : nextB (fun j => !al1 j) 70 62 = some 66 := by decide

theorem al_prev : prevB al1 70 = some 65 := by decide

theorem al_cnt : cntB al1 60 4 = 2 := by decide

theorem al_runs : runsB al1 70 = [(62, 4)] := by decide

theorem al_runs2 : runsB al2 70 = [(62, 2), (65, 1)] := by decide

set_option maxHeartbeats 4000000 in
theorem alive03 (w : World) : Calls Try.prog 11 #[] w fun e w' => e = .returned (.bool true) ∧ Keep Nope w w' := by
  go_enter Try.func11, Try.ntmps11
  go_wp2_with fail
  refine (New_yes 70 w (by omega)).mono ?_
  rintro e w1 ⟨p, q, rfl, hp, hq, b1, k1⟩
  go_wp2_with fail
  refine (SetRun_yes 62 4 70 p q _ w1 b1 (by omega)).mono ?_
  rintro e w2 ⟨rfl, k2, b2⟩
  go_wp2_with fail
  refine (Next_at 0 70 p q _ w2 b2).mono ?_
  rintro e w3 ⟨rfl, k3⟩
  rw [show nextB (runSet (fun x => false) 62 4 true) 70 (Int.toNat 0) = some 62 from al_next]
  have b3 := b2.keep k3 (fun h => h) (fun h => h)
  dsimp only [optV, Option.getD_some, Option.isSome_some]
  go_wp2_with fail
  refine (NextClear_at 62 70 p q _ w3 b3).mono ?_
  rintro e w4 ⟨rfl, k4⟩
  rw [show nextB (fun j => !runSet (fun x => false) 62 4 true j) 70 (Int.toNat 62) = some 66 from al_clear]
  have b4 := b3.keep k4 (fun h => h) (fun h => h)
  dsimp only [optV, Option.getD_some, Option.isSome_some]
  go_wp2_with fail
  refine (Prev_at 69 70 p q _ w4 b4 (by omega)).mono ?_
  rintro e w5 ⟨rfl, k5⟩
  rw [show prevB (runSet (fun x => false) 62 4 true) (min ((69 : Int) + 1) (70 : Nat)).toNat = some 65 from al_prev]
  have b5 := b4.keep k5 (fun h => h) (fun h => h)
  dsimp only [optV, Option.getD_some, Option.isSome_some]
  go_wp2_with fail
  refine (Count_yes 60 4 70 p q _ w5 b5 (by omega)).mono ?_
  rintro e w6 ⟨rfl, k6⟩
  rw [show cntB (runSet (fun x => false) 62 4 true) 60 4 = 2 from al_cnt]
  have b6 := b5.keep k6 (fun h => h) (fun h => h)
  go_wp2_with fail
  refine (Runs_at 70 p q _ w6 b6).mono ?_
  rintro e w7 ⟨v, rfl, o7, k7⟩
  rw [show runsB (runSet (fun x => false) 62 4 true) 70 = [(62, 4)] from al_runs] at o7
  have b7 := b6.keep k7 (fun h => h) (fun h => h)
  go_wp2_with fail
  refine (Clear_yes 64 70 p q _ w7 b7 (by omega)).mono ?_
  rintro e w8 ⟨rfl, k8, b8⟩
  have q6 := b6.lt_q'
  have r8 : RunsAt w8 v [(62, 4)] := (RunsAt.of_owns o7).keep k8 (fun b _ h e => by have := (o7.lt b h).1; omega)
  go_wp2_with fail
  refine (New_no (-1) w8 (by omega)).mono ?_
  rintro e w9 ⟨rfl, rfl⟩
  have q8 := b8.lt_q'
  go_wp2_with fail
  refine (SameRuns_any v _ [(62, 4)] [(62, 4)] _ (r8.keep ((Keep.refl Nope w8).alloc _) (fun _ _ _ h => h)) (RunsAt.of_block (World.alloc_heap_new w8 _) rfl) (by simp)).mono ?_
  rintro e w9 ⟨rfl, m9, rfl⟩
  go_wp2_with fail
  have k9 : Keep Nope w8 ((w8.alloc (.cells #[.int .i64 62, .int .i64 4] 40)).drewN m9) := ((Keep.refl Nope w8).alloc _).drewN _
  have b9 := b8.keep k9 (fun h => h) (fun h => h)
  refine (Runs_at 70 p q _ _ b9).mono ?_
  rintro e w10 ⟨u, rfl, o10, k10⟩
  rw [show runsB (runSet (runSet (fun x => false) 62 4 true) 64 1 false) 70 = [(62, 2), (65, 1)] from al_runs2] at o10
  have b10 := b9.keep k10 (fun h => h) (fun h => h)
  go_wp2_with fail
  refine (SameRuns_any u _ [(62, 2), (65, 1)] [(62, 2), (65, 1)] _ ((RunsAt.of_owns o10).keep ((Keep.refl Nope w10).alloc _) (fun _ _ _ h => h)) (RunsAt.of_block (World.alloc_heap_new w10 _) rfl) (by simp)).mono ?_
  rintro e w11 ⟨rfl, m11, rfl⟩
  go_wp2_with fail
  have k11 : Keep Nope w10 ((w10.alloc (.cells #[.int .i64 62, .int .i64 2, .int .i64 65, .int .i64 1] 40)).drewN m11) := ((Keep.refl Nope w10).alloc _).drewN _
  have b11 := b10.keep k11 (fun h => h) (fun h => h)
  refine (Set_no 70 70 p q _ _ b11 (by omega)).mono ?_
  rintro e w12 ⟨rfl, k12⟩
  go_wp2
  go_ret
  refine ⟨rfl, ?_⟩
  have K1 := k1.of_not (fun b => b = q)
  have a1 := (K1.trans k2 (fun _ _ h => h))
  have a2 := ((((a1.trans k3 (fun _ _ h => h.elim)).trans k4 (fun _ _ h => h.elim)).trans k5 (fun _ _ h => h.elim)).trans k6 (fun _ _ h => h.elim)).trans k7 (fun _ _ h => h.elim)
  have a3 := (((((a2.trans k8 (fun _ _ h => h)).trans k9 (fun _ _ h => h.elim)).trans k10 (fun _ _ h => h.elim)).trans k11 (fun _ _ h => h.elim)).trans k12 (fun _ _ h => h.elim))
  exact a3.mono (fun i hi h => by omega)

end Go.Proofs.Ytpjcgjbobljaeaa
