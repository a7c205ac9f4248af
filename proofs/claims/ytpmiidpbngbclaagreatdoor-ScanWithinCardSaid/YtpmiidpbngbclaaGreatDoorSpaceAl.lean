/-
  The chapter's example of a space: the steps, one by one.
  The chapter's example of a space.
-/
import Derived.Test.YtpmiidpbngbclaaGreatDoorSpacePuts
import Derived.Test.YtpmiidpbngbclaaGreatDoorSpaceNews
import Derived.Test.YtpmiidpbngbclaaGreatDoorRows1
import Derived.Test.YtpmiidpbngbclaaGreatDoorTables
namespace Go.Proofs.YtpmiidpbngbclaaGreatDoor
open Go.RowKit
set_option linter.unusedVariables false

def alT : List TypR := [⟨2, 0, 0⟩]
def alA : List Cel := [⟨0, 3, 0, 0, 8⟩]
def alB : List Cel := [⟨0, 2, 0, 0, 1⟩, ⟨1, 1, 1, 3, 2⟩, ⟨3, 3, 0, 0, 5⟩]

theorem al_tab : tabE 0 alT = 0 := by decide +kernel

theorem al_put {P : Sp} (ht : P.ts = alT) (hn : P.n = 16) (w : World) (h : SpaceHas w P alA) :
    Calls Tryz.prog 47 #[.pointer (some ⟨P.s, 0, none⟩), .int .i64 1, .int .i64 1, .int .i64 3] w fun e w' => e = .returned (.int .i64 0) ∧ Keep P.own w w' ∧ SpaceHas w' P alB := by
  have hR : putR P.ts (P.n / 2) alA 1 1 3 = 0 := by rw [ht, hn]; decide +kernel
  have hS : sizeS P.ts 1 3 = 2 := by rw [ht]; decide +kernel
  refine (Put_any 1 1 3 P alA w h).mono ?_
  rintro e w' ⟨rfl, k, hp⟩
  rw [hR] at hp ⊢
  refine ⟨rfl, k, ?_⟩
  rcases hp with ⟨h0, _⟩ | ⟨_, pre, c, post, j, i, l, S, e1, e2, e3, e4, e5, e6, e7, e8, e9, hp⟩
  · exact absurd rfl h0
  · obtain rfl : j = 1 := by omega
    obtain rfl : i = 1 := by omega
    obtain rfl : l = 3 := by omega
    obtain rfl : S = 2 := by omega
    cases pre with
    | nil =>
      simp only [alA, List.nil_append, List.cons.injEq] at e1
      obtain ⟨rfl, rfl⟩ := e1
      exact hp
    | cons d pre =>
      simp [alA] at e1

theorem al_drop_of {p1 g1 g2 p2 : List Cel} {c : Cel} {x y : Nat} (h : DropOf alB 1 p1 g1 c g2 p2 x y) : dropL p1 p2 x y = alA := by
  obtain ⟨e, h1, h2, h3, h4, h5, h6, h7, h8, h9⟩ := h
  have hp1 : p1 = [] := by
    rcases h5 with h5 | ⟨q, d, rfl, hd⟩
    · exact h5
    · exfalso
      rw [alB] at e
      rcases q with _ | ⟨q1, q⟩
      · simp only [List.nil_append, List.cons_append, List.cons.injEq] at e
        rw [← e.1] at hd
        simp at hd
      · rcases q with _ | ⟨q2, q⟩
        · simp only [List.nil_append, List.cons_append, List.cons.injEq] at e
          have hc : c ∈ [(⟨3, 3, 0, 0, 5⟩ : Cel)] := by rw [e.2.2]; simp
          rw [List.mem_singleton.1 hc] at h2
          simp at h2
        · simp only [List.cons_append, List.cons.injEq] at e
          rcases q with _ | ⟨q3, q⟩
          · simp at e
          · simp at e
  subst hp1
  have hx : 0 = x := h7
  subst hx
  have hp2 : p2 = [] := by
    rcases h6 with h6 | ⟨d, q, rfl, hd⟩
    · exact h6
    · exfalso
      have hc1 : c ∈ alB := by rw [e]; simp
      have hd1 : d ∈ alB := by rw [e]; simp
      have c1 : c = ⟨1, 1, 1, 3, 2⟩ := by
        simp only [alB, List.mem_cons, List.not_mem_nil, or_false] at hc1
        rcases hc1 with rfl | rfl | rfl
        · simp at h2
        · rfl
        · simp at h2
      have d1 : d = ⟨1, 1, 1, 3, 2⟩ := by
        simp only [alB, List.mem_cons, List.not_mem_nil, or_false] at hd1
        rcases hd1 with rfl | rfl | rfl
        · simp at hd
        · rfl
        · simp at hd
      have ht : Tiles 0 alB 8 := ⟨rfl, by decide, rfl, by decide, rfl, by decide, rfl⟩
      rw [e, List.nil_append] at ht
      obtain ⟨b, t1, t2⟩ := ht.split
      have m1 := t1.mem (c := c) (by simp)
      have m2 := t2.mem (c := d) (by simp)
      rw [c1] at m1
      rw [d1] at m2
      dsimp only at m1 m2
      omega
  subst hp2
  have ht : Tiles 0 alB 8 := ⟨rfl, by decide, rfl, by decide, rfl, by decide, rfl⟩
  rw [e, List.nil_append, List.append_nil] at ht
  obtain rfl := h8.uniq ht
  rfl

theorem al_drop {P : Sp} (w : World) (h : SpaceHas w P alB) :
    Calls Tryz.prog 56 #[.pointer (some ⟨P.s, 0, none⟩), .int .i64 1] w fun e w' => e = .returned (.int .i64 0) ∧ Keep P.own w w' ∧ SpaceHas w' P alA := by
  refine (Drop_any 1 P alB w h).mono ?_
  rintro e w' (⟨rfl, h1, h2⟩ | ⟨rfl, h1, j, p1, g1, c, g2, p2, x, y, hj, h2, h3⟩)
  · have := h1 1 rfl
    simp [startOf, alB] at this
  · obtain rfl : j = 1 := by omega
    rw [al_drop_of h2] at h3
    exact ⟨rfl, h1, h3⟩

theorem al_none {P : Sp} (w : World) (h : SpaceHas w P alA) :
    Calls Tryz.prog 56 #[.pointer (some ⟨P.s, 0, none⟩), .int .i64 1] w fun e w' => e = .returned (.int .i64 3) ∧ Keep Nope w w' := by
  refine (Drop_any 1 P alA w h).mono ?_
  rintro e w' (⟨rfl, h1, h2⟩ | ⟨rfl, h1, j, p1, g1, c, g2, p2, x, y, hj, h2, h3⟩)
  · exact ⟨rfl, h2⟩
  · exfalso
    obtain ⟨e, h1, h2, -⟩ := h2
    have hc1 : c ∈ alA := by rw [e]; simp
    rw [alA, List.mem_singleton] at hc1
    subst hc1
    simp at h2

theorem al_out {P : Sp} (ht : P.ts = alT) (hn : P.n = 16) (w : World) (h : SpaceHas w P alA) :
    Calls Tryz.prog 47 #[.pointer (some ⟨P.s, 0, none⟩), .int .i64 8, .int .i64 1, .int .i64 1] w fun e w' => e = .returned (.int .i64 2) ∧ Keep P.own w w' := by
  have hR : putR P.ts (P.n / 2) alA 8 1 1 = 2 := by rw [ht, hn]; decide +kernel
  refine (Put_any 8 1 1 P alA w h).mono ?_
  rintro e w' ⟨rfl, k, hp⟩
  rw [hR]
  exact ⟨rfl, k⟩

end Go.Proofs.YtpmiidpbngbclaaGreatDoor

namespace Go.Proofs.YtpmiidpbngbclaaGreatDoor
open Go.RowKit
set_option linter.unusedVariables false
attribute [local go_sem ↓] run_eql_cell

theorem SpaceHas.lt {w : World} {P : Sp} {cs : List Cel} (h : SpaceHas w P cs) : ∀ k, P.all k → k < w.heap.size := by
  obtain ⟨W, f, h, _⟩ := h; exact h.lt

theorem Sp.all_own {P : Sp} {k : Nat} (h : P.own k) : P.all k := by simp only [Sp.own] at h; simp only [Sp.all]; omega

/-- A row that was laid behind a space reads on. -/
theorem row_stays {w w' : World} {P : Sp} {base : Nat} {v : Value} {cs : List Cel} (h : w.ownsRow base 62 5 v cs.length (flatC cs)) (k : Keep P.own w w') (hb : ∀ k, P.all k → k < base) : w'.ownsRow base 62 5 v cs.length (flatC cs) :=
  ownsRow_keep h k (fun b hv ho => by have h1 := (ownsRow_block h hv).1; have h2 := hb b (Sp.all_own ho); omega)

end Go.Proofs.YtpmiidpbngbclaaGreatDoor
