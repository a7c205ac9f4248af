/-
  What two rows tell, side by side: tells, Same.
-/
import Derived.Test.YtpjcgjbobljaeaaBitsRefList
import Derived.Deep.RegionHeld3
namespace Go.Proofs.Ytpjcgjbobljaeaa
open Go.RowKit
set_option linter.unusedVariables false

theorem beq_true_fun (f : Nat → Bool) : (fun j => f j == true) = f := by funext j; cases f j <;> rfl

theorem beq_false_fun (f : Nat → Bool) : (fun j => f j == false) = fun j => !f j := by funext j; cases f j <;> rfl

set_option maxRecDepth 20000 in
set_option maxHeartbeats 4000000 in
theorem tells_any (i k : Int) (p q rp g n : Nat) (f : Nat → Bool) (w : World) (hb : BitsAt w p q f n) (hr : RefAt w rp g f n) (hi : -9223372036854775808 ≤ i) :
    Calls Try.prog 26 #[.pointer (some ⟨p, 0, none⟩), .pointer (some ⟨rp, 0, none⟩), .int .i64 i, .int .i64 k] w fun e w' => e = .returned (.bool true) ∧ Keep Nope w w' := by
  have HI : Seal _ := ⟨hi⟩
  clear hi
  obtain ⟨o1, ho1⟩ : ∃ o, nextB f n i.toNat = o := ⟨_, rfl⟩
  obtain ⟨o2, ho2⟩ : ∃ o, nextB (fun j => !f j) n i.toNat = o := ⟨_, rfl⟩
  obtain ⟨o3, ho3⟩ : ∃ o, prevB f (min (i + 1) n).toNat = o := ⟨_, rfl⟩
  have H1 : Seal _ := ⟨ho1⟩
  have H2 : Seal _ := ⟨ho2⟩
  have H3 : Seal _ := ⟨ho3⟩
  clear ho1 ho2 ho3
  obtain ⟨c, hc⟩ : ∃ c, cntI f n i k = c := ⟨_, rfl⟩
  have HC : Seal _ := ⟨hc⟩
  clear hc
  go_enter Try.func26, Try.ntmps26
  go_wp2_with fail
  refine (Next_at i n p q f _ hb).mono ?_
  rintro e w1 ⟨rfl, k1⟩
  rw [H1.out]
  dsimp only [optV]
  have b1 := hb.keep k1 (fun h => h) (fun h => h)
  have r1 := hr.keep k1 (fun h => h) (fun h => h)
  go_wp2_with fail
  refine (RNext_at i true n rp g f _ r1).mono ?_
  rintro e w' ⟨rfl, rfl⟩
  rw [beq_true_fun, H1.out]
  dsimp only [optV]
  go_wp2_with fail
  refine (NextClear_at i n p q f _ b1).mono ?_
  rintro e w2 ⟨rfl, k2⟩
  rw [H2.out]
  dsimp only [optV]
  have b2 := b1.keep k2 (fun h => h) (fun h => h)
  have r2 := r1.keep k2 (fun h => h) (fun h => h)
  go_wp2_with fail
  refine (RNext_at i false n rp g f _ r2).mono ?_
  rintro e w' ⟨rfl, rfl⟩
  rw [beq_false_fun, H2.out]
  dsimp only [optV]
  go_wp2_with fail
  refine (Prev_at i n p q f _ b2 HI.out).mono ?_
  rintro e w3 ⟨rfl, k3⟩
  rw [H3.out]
  dsimp only [optV]
  have b3 := b2.keep k3 (fun h => h) (fun h => h)
  have r3 := r2.keep k3 (fun h => h) (fun h => h)
  go_wp2_with fail
  refine (RPrev_at i n rp g f _ r3 HI.out).mono ?_
  rintro e w' ⟨rfl, rfl⟩
  rw [H3.out]
  dsimp only [optV]
  go_wp2_with fail
  refine (Count_int i k n p q f _ b3).mono ?_
  rintro e w4 ⟨rfl, k4⟩
  rw [HC.out]
  have b4 := b3.keep k4 (fun h => h) (fun h => h)
  have r4 := r3.keep k4 (fun h => h) (fun h => h)
  go_wp2_with fail
  refine (RCount_int i k n rp g f _ r4).mono ?_
  rintro e w' ⟨rfl, m, rfl⟩
  rw [HC.out]
  have k5 := Keep.of_drewN (S := Nope) (w := w4) m
  have b5 := b4.keep k5 (fun h => h) (fun h => h)
  have r5 := r4.keep k5 (fun h => h) (fun h => h)
  go_wp2_with fail
  refine (Has_int i n p q f _ b5).mono ?_
  rintro e w6 ⟨rfl, k6⟩
  have b6 := b5.keep k6 (fun h => h) (fun h => h)
  have r6 := r5.keep k6 (fun h => h) (fun h => h)
  go_wp2_with fail
  refine (RHas_int i n rp g f _ r6).mono ?_
  rintro e w' ⟨rfl, rfl⟩
  go_wp2
  go_ret
  exact ⟨rfl, ((((k1.trans k2 (fun _ _ h => h)).trans k3 (fun _ _ h => h)).trans k4 (fun _ _ h => h)).trans k5 (fun _ _ h => h)).trans k6 (fun _ _ h => h)⟩

set_option maxHeartbeats 4000000 in
theorem Same_any (p q rp g n : Nat) (f : Nat → Bool) (w : World) (hb : BitsAt w p q f n) (hr : RefAt w rp g f n) :
    Calls Try.prog 27 #[.pointer (some ⟨p, 0, none⟩), .pointer (some ⟨rp, 0, none⟩)] w fun e w' => e = .returned (.bool true) ∧ Keep Nope w w' := by
  obtain ⟨cap, hc⟩ := hr.head
  have hn := hb.small'
  have lr := hr.lt_p
  have hlen : (runsB f n).length ≤ 65536 := by
    have := (runsF_of (f := f) (n := n) (n + 1) 0 (by omega) (by omega)).len (by omega)
    rw [runsB]; omega
  go_enter Try.func27, Try.ntmps27
  go_wp2_with fail
  go_region_held3 (fun w' => w'.cell? ⟨rp, 0, none⟩ = some (.slice (some ⟨g, 0, none⟩) n cap))
    (first | go_keep | exact k2.cell hc (fun h => h) | exact k3.cell (k2.cell hc (fun h => h)) (fun h => h))
    (first
      | (go_at_call 24; refine (Len_at n p q f _ (hb.keep (S := Nope) (by first | exact Keep.refl Nope _ | exact (Keep.refl Nope _).drew) (fun h => h) (fun h => h))).mono ?_; rintro e w' ⟨rfl, rfl⟩)
      | (go_at_call 18; refine (Runs_at n p q f _ (hb.keep (S := Nope) (by first | exact Keep.refl Nope _ | exact (Keep.refl Nope _).drew | exact (Keep.refl Nope _).drew.drew) (fun h => h) (fun h => h))).mono ?_; rintro e w2 ⟨v2, rfl, o2, k2⟩)
      | (go_at_call 58; refine (RRuns_at n rp g f _ ((hr.keep (S := Nope) (by first | exact k2 | exact ((Keep.refl Nope _).drew).trans k2 (fun _ _ h => h) | exact ((Keep.refl Nope _).drew.drew).trans k2 (fun _ _ h => h)) (fun h => h) (fun h => h)).keep (S := Nope) (by first | exact Keep.refl Nope _ | exact (Keep.refl Nope _).drew) (fun h => h) (fun h => h))).mono ?_; rintro e w3 ⟨v3, rfl, o3, k3⟩)
      | (go_at_call 46; refine (SameRuns_any v2 v3 (runsB f n) (runsB f n) _ (RunsAt.of_owns (k3.owns o2 (fun _ _ h => h))) (RunsAt.of_owns o3) hlen).mono ?_; rintro e w4 ⟨rfl, m4, rfl⟩))
  go_wp2
  go_ret
  exact ⟨rfl, (((Keep.refl Nope w).drew.trans k2 (fun _ _ h => h)).trans k3 (fun _ _ h => h)).drewN _⟩

end Go.Proofs.Ytpjcgjbobljaeaa
