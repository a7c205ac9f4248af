/-
  A list of black granules in memory; next, Has, Len of package black.
-/
import Derived.Test.YtafjebdjdmlahaaDoorHead
namespace Go.Proofs.YtafjebdjdmlahaaDoor
open Go.RowKit
set_option linter.unusedVariables false

/-- A list lies at b: its two rows, f0 (hit behind the last Turn) and f1, of n bits. -/
structure BlackAt (w : World) (b p0 q0 p1 q1 : Nat) (f0 f1 : Nat → Bool) (n : Nat) : Prop where
  hb : w.heap[b]? = some (.cells #[.pointer (some ⟨p0, 0, none⟩), .pointer (some ⟨p1, 0, none⟩), .int .i64 (n : Nat)] 93 (0, 0))
  h0 : BitsAt w p0 q0 f0 n
  h1 : BitsAt w p1 q1 f1 n
  ne : q0 ≠ q1

theorem BlackAt.keep {S : Nat → Prop} {w w' : World} {b p0 q0 p1 q1 n : Nat} {f0 f1 : Nat → Bool} (h : BlackAt w b p0 q0 p1 q1 f0 f1 n) (k : Keep S w w') (hb : ¬ S b) (hp0 : ¬ S p0) (hq0 : ¬ S q0) (hp1 : ¬ S p1) (hq1 : ¬ S q1) : BlackAt w' b p0 q0 p1 q1 f0 f1 n :=
  ⟨k.at_ h.hb hb, h.h0.keep k hp0 hq0, h.h1.keep k hp1 hq1, h.ne⟩

theorem BlackAt.keepN {w w' : World} {b p0 q0 p1 q1 n : Nat} {f0 f1 : Nat → Bool} (h : BlackAt w b p0 q0 p1 q1 f0 f1 n) (k : Keep Nope w w') : BlackAt w' b p0 q0 p1 q1 f0 f1 n :=
  h.keep k (fun h => h) (fun h => h) (fun h => h) (fun h => h) (fun h => h)

theorem cell_of_three {w : World} {b : Nat} {u v x : Value} {t : TypeId} (h : w.heap[b]? = some (.cells #[u, v, x] t (0, 0))) : w.cell? ⟨b, 0, none⟩ = some u ∧ w.cell? ⟨b, 1, none⟩ = some v ∧ w.cell? ⟨b, 2, none⟩ = some x := by
  simp [World.cell?, h]

/-- The least one of two. -/
theorem nextB_or {f g : Nat → Bool} {n i : Nat} : nextB (fun j => f j || g j) n i = match nextB f n i, nextB g n i with
    | some a, some c => some (min a c)
    | some a, none => some a
    | none, o => o := by
  rcases nextB_spec f n i with ⟨a, ha, a1, a2, a3, a4⟩ | ⟨ha, a4⟩
  · rcases nextB_spec g n i with ⟨c, hc, c1, c2, c3, c4⟩ | ⟨hc, c4⟩
    · rw [ha, hc]
      refine nextB_some (by omega) (by omega) ?_ (fun t u v => by rw [a4 t u (by omega), c4 t u (by omega)]; rfl)
      rcases Nat.le_total a c with e | e
      · rw [Nat.min_eq_left e, a3]; rfl
      · rw [Nat.min_eq_right e, c3, Bool.or_true]
    · rw [ha, hc]
      exact nextB_some a1 a2 (by rw [a3]; rfl) (fun t u v => by rw [a4 t u v, c4 t u (by omega)]; rfl)
  · rcases nextB_spec g n i with ⟨c, hc, c1, c2, c3, c4⟩ | ⟨hc, c4⟩
    · rw [ha, hc]
      exact nextB_some c1 c2 (by rw [c3, Bool.or_true]) (fun t u v => by rw [a4 t u (by omega), c4 t u v]; rfl)
    · rw [ha, hc]
      exact nextB_none (fun t u v => by rw [a4 t u v, c4 t u v]; rfl)

theorem BLen_at (b p0 q0 p1 q1 n : Nat) (f0 f1 : Nat → Bool) (w : World) (h : BlackAt w b p0 q0 p1 q1 f0 f1 n) : Calls Tryd.prog 65 #[.pointer (some ⟨b, 0, none⟩)] w fun e w' => e = .returned (.int .i64 (n : Nat)) ∧ w = w' := by
  obtain ⟨c0, c1, c2⟩ := cell_of_three h.hb
  go_enter Tryd.func65, Tryd.ntmps65
  go_wp2
  go_ret
  exact ⟨rfl, rfl⟩

theorem BLen_nil (w : World) : Calls Tryd.prog 65 #[.pointer none] w fun e w' => e = .returned (.int .i64 0) ∧ w = w' := by
  go_enter Tryd.func65, Tryd.ntmps65
  go_wp2
  go_ret
  exact ⟨rfl, rfl⟩

theorem BHas_nil (i : Int) (w : World) : Calls Tryd.prog 45 #[.pointer none, .int .i64 i] w fun e w' => e = .returned (.bool false) ∧ w = w' := by
  go_enter Tryd.func45, Tryd.ntmps45
  go_wp2
  go_ret
  exact ⟨rfl, rfl⟩

theorem BHas_at (i : Int) (b p0 q0 p1 q1 n : Nat) (f0 f1 : Nat → Bool) (w : World) (h : BlackAt w b p0 q0 p1 q1 f0 f1 n) :
    Calls Tryd.prog 45 #[.pointer (some ⟨b, 0, none⟩), .int .i64 i] w fun e w' => e = .returned (.bool (hasI f0 n i || hasI f1 n i)) ∧ Keep Nope w w' := by
  obtain ⟨c0, c1, c2⟩ := cell_of_three h.hb
  obtain ⟨u, hu⟩ : ∃ u, hasI f0 n i = u := ⟨_, rfl⟩
  have HU : Seal _ := ⟨hu⟩
  rw [hu]
  clear hu
  go_enter Tryd.func45, Tryd.ntmps45
  go_wp2_with fail
  refine (Has_int i n p0 q0 f0 _ h.h0).mono ?_
  rintro e w1 ⟨rfl, k1⟩
  rw [HU.out]
  have d1 := k1.cell c1 (fun h => h)
  have h1 := h.h1.keep k1 (fun h => h) (fun h => h)
  cases u with
  | true =>
    go_wp2
    go_ret
    exact ⟨rfl, k1⟩
  | false =>
    go_wp2_with fail
    refine (Has_int i n p1 q1 f1 _ h1).mono ?_
    rintro e w2 ⟨rfl, k2⟩
    go_wp2
    go_ret
    exact ⟨by simp, k1.trans k2 (fun _ _ h => h)⟩

theorem bnext_at (i : Int) (b p0 q0 p1 q1 n : Nat) (f0 f1 : Nat → Bool) (w : World) (h : BlackAt w b p0 q0 p1 q1 f0 f1 n) :
    Calls Tryd.prog 66 #[.pointer (some ⟨b, 0, none⟩), .int .i64 i] w fun e w' => e = .returned (optV (nextB (fun j => f0 j || f1 j) n i.toNat)) ∧ Keep Nope w w' := by
  obtain ⟨c0, c1, c2⟩ := cell_of_three h.hb
  rw [nextB_or]
  obtain ⟨u, hu⟩ : ∃ u, nextB f0 n i.toNat = u := ⟨_, rfl⟩
  obtain ⟨v, hv⟩ : ∃ v, nextB f1 n i.toNat = v := ⟨_, rfl⟩
  have HU : Seal _ := ⟨hu⟩
  have HV : Seal _ := ⟨hv⟩
  rw [hu, hv]
  clear hu hv
  go_enter Tryd.func66, Tryd.ntmps66
  go_wp2_with fail
  refine (Next_at i n p0 q0 f0 _ h.h0).mono ?_
  rintro e w1 ⟨rfl, k1⟩
  rw [HU.out]
  have d1 := k1.cell c1 (fun h => h)
  have h1 := h.h1.keep k1 (fun h => h) (fun h => h)
  dsimp only [optV]
  go_wp2_with fail
  refine (Next_at i n p1 q1 f1 _ h1).mono ?_
  rintro e w2 ⟨rfl, k2⟩
  rw [HV.out]
  dsimp only [optV]
  have K := k1.trans k2 (fun _ _ h => h)
  clear d1 c0 c1 c2
  cases u with
  | none => cases v with
    | none =>
      dsimp only [Option.getD_none, Option.isSome_none]
      go_wp2
      go_ret2
      exact ⟨rfl, K⟩
    | some c =>
      dsimp only [Option.getD_none, Option.isSome_none, Option.getD_some, Option.isSome_some]
      go_wp2
      go_ret2
      exact ⟨rfl, K⟩
  | some a => cases v with
    | none =>
      dsimp only [Option.getD_none, Option.isSome_none, Option.getD_some, Option.isSome_some]
      go_wp2
      go_ret2
      exact ⟨rfl, K⟩
    | some c =>
      dsimp only [Option.getD_some, Option.isSome_some]
      by_cases hca : c < a
      · have hm : Seal (min a c = c) := ⟨by omega⟩
        have hca' : (c : Int) < a := by omega
        go_wp2
        go_ret2
        exact ⟨by rw [hm.out]; rfl, K⟩
      · have hm : Seal (min a c = a) := ⟨by omega⟩
        have hca' : ¬ (c : Int) < a := by omega
        go_wp2
        go_ret2
        exact ⟨by rw [hm.out]; rfl, K⟩

end Go.Proofs.YtafjebdjdmlahaaDoor
