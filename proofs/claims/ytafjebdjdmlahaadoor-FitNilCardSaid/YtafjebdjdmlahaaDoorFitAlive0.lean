/-
  The chapter's example of fit: the steps, one by one.
-/
import Derived.Test.YtafjebdjdmlahaaDoorFitPlace
namespace Go.Proofs.YtafjebdjdmlahaaDoor
open Go.RowKit
set_option linter.unusedVariables false

def alK0 : Nat → Bool := fun j => (fun _ => false) j || hitB (fun _ => 2) 1 j
def alK : Nat → Bool := fun i => alK0 i || (fun _ => false) i
def alC : List Cel := [⟨0, 1, 1, 3, 2⟩, ⟨2, 3, 0, 0, 6⟩]

theorem al13_first {P : Sp} (hn : P.n = 16) {b p0 q0 p1 q1 : Nat} (k : Nat) (cs : List Cel) (g : Nat) (hg : firstFit alK k (gapsOf cs) = some g) (hk : 1 ≤ k) (hk2 : k ≤ 16) (w : World) (h : SpaceHas w P cs) (hb : BlackAt w b p0 q0 p1 q1 alK0 (fun _ => false) 8) :
    Calls Tryd.prog 20 #[.pointer (some ⟨P.s, 0, none⟩), .pointer (some ⟨b, 0, none⟩), .int .i64 (k : Nat)] w fun e w' => e = .returned (.tuple #[.int .i64 (g : Nat), .int .i64 0]) ∧ Keep Nope w w' := by
  refine (FFirst_black k P cs b p0 q0 p1 q1 alK0 (fun _ => false) w h (by rw [hn]; exact hb) hk (by omega)).mono ?_
  rintro e w' ⟨rfl, hk'⟩
  rw [show firstFit (fun i => alK0 i || (fun _ => false) i) k (gapsOf cs) = some g from hg]
  exact ⟨rfl, hk'⟩

theorem al13_blk {w : World} {b p0 q0 p1 q1 : Nat} {P : Sp} (hn : P.n = 16) (hb : BlackAt w b p0 q0 p1 q1 alK0 (fun _ => false) 8) : BlkAt w (.pointer (some ⟨b, 0, none⟩)) (P.n / 2) alK :=
  .inr ⟨b, p0, q0, p1, q1, alK0, _, rfl, by rw [hn]; exact hb, rfl⟩

theorem al13_most {P : Sp} (hn : P.n = 16) {b p0 q0 p1 q1 : Nat} (w : World) (h : SpaceHas w P alA) (hb : BlackAt w b p0 q0 p1 q1 alK0 (fun _ => false) 8) :
    Calls Tryd.prog 22 #[.pointer (some ⟨P.s, 0, none⟩), .pointer (some ⟨b, 0, none⟩)] w fun e w' => e = .returned (.tuple #[.int .i64 5, .int .i64 0]) ∧ Keep Nope w w' := by
  refine (FMost_at P alA _ alK w h (al13_blk hn hb)).mono ?_
  rintro e w' ⟨rfl, hk⟩
  rw [show mostOf alK (gapsOf alA) = 5 by decide +kernel]
  exact ⟨rfl, hk⟩

theorem al13_free {P : Sp} (hn : P.n = 16) {b p0 q0 p1 q1 : Nat} (w : World) (h : SpaceHas w P alA) (hb : BlackAt w b p0 q0 p1 q1 alK0 (fun _ => false) 8) :
    Calls Tryd.prog 23 #[.pointer (some ⟨P.s, 0, none⟩), .pointer (some ⟨b, 0, none⟩)] w fun e w' => e = .returned (.tuple #[.int .i64 7, .int .i64 0]) ∧ Keep Nope w w' := by
  refine (FFree_at P alA _ alK w h (al13_blk hn hb)).mono ?_
  rintro e w' ⟨rfl, hk⟩
  rw [show freeOf alK (gapsOf alA) = 7 by decide +kernel]
  exact ⟨rfl, hk⟩

theorem al13_place {P : Sp} (ht : P.ts = alT) (hn : P.n = 16) {b p0 q0 p1 q1 : Nat} (w : World) (h : SpaceHas w P alA) (hb : BlackAt w b p0 q0 p1 q1 alK0 (fun _ => false) 8) :
    Calls Tryd.prog 21 #[.pointer (some ⟨P.s, 0, none⟩), .pointer (some ⟨b, 0, none⟩), .int .i64 1, .int .i64 3] w fun e w' => e = .returned (.tuple #[.int .i64 0, .int .i64 0]) ∧ Keep P.own w w' ∧ SpaceHas w' P alC := by
  have h0 : sizeE P.ts 1 3 = 0 := by rw [ht]; decide +kernel
  have hS : sizeS P.ts 1 3 = 2 := by rw [ht]; decide +kernel
  have hR : putR P.ts (P.n / 2) alA 0 1 3 = 0 := by rw [ht, hn]; decide +kernel
  refine (FPlace_at P alA _ 1 3 0 w h h0 (fun w' hw' => ?_)).mono ?_
  · rw [hS]
    exact al13_first hn 2 alA 0 (by decide +kernel) (by omega) (by omega) w' (h.keepN hw') (hb.keepN hw')
  · rintro e w' ⟨rfl, -, k, hp⟩
    rw [hR] at hp ⊢
    refine ⟨rfl, k, ?_⟩
    rcases hp with ⟨h0, _⟩ | ⟨_, pre, c, post, j, i, l, S, e1, e2, e3, e4, e5, e6, e7, e8, e9, hp⟩
    · exact absurd rfl h0
    · obtain rfl : j = 0 := by omega
      obtain rfl : i = 1 := by omega
      obtain rfl : l = 3 := by omega
      obtain rfl : S = 2 := by omega
      cases pre with
      | nil =>
        simp only [alA, List.nil_append, List.cons.injEq] at e1
        obtain ⟨rfl, rfl⟩ := e1
        exact hp
      | cons d pre =>
        simp [alA] at e1

/-- Where check lets pass. -/
theorem passed {P : Sp} {cs : List Cel} {b p0 q0 p1 q1 : Nat} {f0 f1 : Nat → Bool} {w : World} (h : SpaceHas w P cs) (hb : BlackAt w b p0 q0 p1 q1 f0 f1 (P.n / 2)) : Refused (some ⟨P.s, 0, none⟩) (some ⟨b, 0, none⟩) 0 w := fun w' hw' => by
  obtain ⟨_, _, h1, _⟩ := h
  have := check_at P _ _ b p0 q0 p1 q1 _ f0 f1 w' (h1.keepN hw') (hb.keepN hw')
  rw [if_pos rfl] at this
  exact this

end Go.Proofs.YtafjebdjdmlahaaDoor
