/-
 walk: what is wrong with an arena's words (Check).
 The document's SameFaults, SameEdges, SameRuns, where two rows are the same.
 walk: how many cells there are, and how many granules they have (Count); Objects of no space; Gaps of one tag.
-/
import Derived.Test.YtgccjhnafhlndaaGreatDoorWalkB
import Derived.Maps.OwnIn
import Derived.Sort.CutIn
import Derived.Test.YtgccjhnafhlndaaGreatDoorObjects
namespace Go.Proofs.YtgccjhnafhlndaaGreatDoor
open Go.RowKit
set_option linter.unusedVariables false
attribute [local go_sem] Oper.semAt_some

end Go.Proofs.YtgccjhnafhlndaaGreatDoor

namespace Go.Proofs.YtgccjhnafhlndaaGreatDoor
open Go.RowKit
set_option linter.unusedVariables false

def RowO (w : World) (v : Value) (es : List (Nat × Nat × Nat)) : Prop :=
 ∃ a cap, v = .slice a es.length cap /\ ∀ i x, es[i]? = some x -> ∃ b o, a = some ⟨b, o, none⟩ /\ b < w.heap.size /\
  w.cell? ⟨b, o + i * 3, none⟩ = some (.int .i64 (x.1 : Nat)) /\ w.cell? ⟨b, o + i * 3 + 1, none⟩ = some (.int .i64 (x.2.1 : Nat)) /\ w.cell? ⟨b, o + i * 3 + 2, none⟩ = some (.int .i64 (x.2.2 : Nat))

theorem RowO.AO {T : TypeId} {w : World} {base : Nat} {v : Value} {es : List (Nat × Nat × Nat)} (h : w.ownsRow base T 3 v es.length (flatE es)) : RowO w v es := by
 rcases h.2 with ⟨rfl, h0⟩ | ⟨g, cap, cur, rfl, g2, g3, g4, g5, g6, g7⟩
 ·exact ⟨none, 0, by rw [h0], λ i x hx => by have := (List.getElem?_eq_some_iff.1 hx).1; omega⟩
 ·refine ⟨some ⟨g, 0, none⟩, cap, rfl, λ i x hx => ?_⟩
  have hi := (List.getElem?_eq_some_iff.1 hx).1
  obtain ⟨x0, x1, x2⟩ := flatE_at es i x hx
  have key : ∀ j, j < es.length * 3 -> w.cell? ⟨g, j, none⟩ = (flatE es)[j]? := λ j hj => by
   rw [<- g7, List.getElem?_take_of_lt hj]
   simp [World.cell?, g3]
  exact ⟨g, 0, rfl, lt_of_heap g3, by rw [Nat.zero_add, key _ (by omega)]; exact x0, by rw [Nat.zero_add, key _ (by omega)]; exact x1, by rw [Nat.zero_add, key _ (by omega)]; exact x2⟩

theorem RowO.Ac {w w' : World} {v : Value} {es : List (Nat × Nat × Nat)} (h : RowO w v es) (k : Keep Aa w w') : RowO w' v es := by
 obtain ⟨a, cap, rfl, h⟩ := h
 refine ⟨a, cap, rfl, λ i x hi => ?_⟩
 obtain ⟨b, o, rfl, h1, h2, h3, h4⟩ := h i x hi
 exact ⟨b, o, rfl, Nat.lt_of_lt_of_le h1 k.size, k.cell h2 (λ h => h), k.cell h3 (λ h => h), k.cell h4 (λ h => h)⟩

section

end

section

end

def cS (t : Nat) : List Cel -> Nat
 | [] => 0
 | c :: cs => (if c.tag = t then c.sz else 0) + cS t cs

theorem cS_app (t : Nat) : ∀ (xs ys : List Cel), cS t (xs ++ ys) = cS t xs + cS t ys
 | [], ys => by simp [cS]
 | x :: xs, ys => by simp [cS, cS_app t xs ys]; omega

theorem cS_take {t : Nat} {cs : List Cel} {j : Nat} {x : Cel} (h : cs[j]? = some x) : cS t (cs.take (j + 1)) = cS t (cs.take j) + (if x.tag = t then x.sz else 0) := by
 rw [List.take_add_one, h, cS_app]
 simp [cS]

theorem cS_le (t : Nat) : ∀ {cs : List Cel} {a b : Nat}, Am a cs b -> cS t cs <= b - a
 | [], a, b, h => Nat.zero_le _
 | c :: cs, a, b, ⟨h1, h2, h3⟩ => by
  have := cS_le t h3
  have := h3.le
  simp only [cS]
  split <;> omega

theorem cS_all : ∀ {cs : List Cel} {a b : Nat}, Am a cs b -> (∀ c ∈ cs, c.tag = 1 \/ c.tag = 2 \/ c.tag = 3) -> cS 1 cs + cS 3 cs + cS 2 cs = b - a
 | [], a, b, h, _ => by
  have : a = b := h
  simp only [cS]
  omega
 | c :: cs, a, b, ⟨h1, h2, h3⟩, ht => by
  have h := cS_all h3 (λ d hd => ht d (List.mem_cons_of_mem _ hd))
  have hc := ht c List.mem_cons_self
  have := h3.le
  simp only [cS]
  rcases hc with e | e | e <;> simp only [e] <;> simp <;> omega

end Go.Proofs.YtgccjhnafhlndaaGreatDoor
