/-
 mark: edges are what marked objects refer to (plain).
-/
import Derived.Test.YtllpibknkajfnaaGreatDoorMarkC
import Derived.Test.YtllpibknkajfnaaGreatDoorWalkB
namespace Go.Proofs.YtllpibknkajfnaaGreatDoor
open Go.RowKit
set_option linter.unusedVariables false

theorem mem_refsW {ts : List TypR} {W : Nat → Nat} {xs : List Cel} {x : Nat × Nat × Nat} : x ∈ refsW ts W xs ↔ ∃ c ∈ xs, ∃ s ∈ refsC ts c, x = (c.g, s, W (2 * c.g + 1 + s)) := by
 unfold refsW
 rw [List.mem_flatMap]
 constructor
 ·rintro ⟨c, hc, hx⟩
  obtain ⟨s, hs, rfl⟩ := List.mem_map.1 hx
  exact ⟨c, hc, s, hs, rfl⟩
 ·rintro ⟨c, hc, s, hs, rfl⟩
  exact ⟨c, hc, List.mem_map.2 ⟨s, hs, rfl⟩⟩

theorem mem_edgeOf {cs : List Cel} {x e : Nat × Nat × Nat} : e ∈ edgeOf cs x ↔ 0 ≤ tgt cs x.2.2 ∧ e = (x.1, x.2.1, (tgt cs x.2.2).toNat) := by
 unfold edgeOf
 by_cases h : 0 ≤ tgt cs x.2.2
 ·rw [if_pos h]
  simp [h]
 ·rw [if_neg h]
  simp [h]

theorem tgt_yes' {cs : List Cel} {y z k : Nat} (hz : y - 1048576 = z) : tgt cs y = (k : Int) ↔ 1048576 ≤ y ∧ y < 1114112 ∧ z % 2 = 0 ∧ startOf cs (z / 2) = true ∧ k = z / 2 := by
 unfold tgt
 rw [hz]
 clear hz
 by_cases h : 1048576 ≤ y ∧ y < 1114112 ∧ z % 2 = 0 ∧ startOf cs (z / 2) = true
 ·rw [if_pos h]
  constructor
  ·intro e
   exact ⟨h.1, h.2.1, h.2.2.1, h.2.2.2, by omega⟩
  ·rintro ⟨-, -, -, -, e⟩
   omega
 ·rw [if_neg h]
  constructor
  ·intro e
   omega
  ·rintro ⟨h1, h2, h3, h4, -⟩
   exact absurd ⟨h1, h2, h3, h4⟩ h

theorem kidOf_iff {f : Nat → Bool} {H y z k : Nat} (hz : y - 1048576 = z) : k ∈ kidOf f H y ↔ 1048576 ≤ y ∧ y < 1114112 ∧ z % 2 = 0 ∧ hasI f H ((z / 2 : Nat) : Int) = true ∧ k = z / 2 := by
 unfold kidOf
 rw [hz]
 clear hz
 by_cases h : 1048576 ≤ y ∧ y < 1114112 ∧ z % 2 = 0 ∧ hasI f H ((z / 2 : Nat) : Int) = true
 ·rw [if_pos h, List.mem_singleton]
  exact ⟨fun e => ⟨h.1, h.2.1, h.2.2.1, h.2.2.2, e⟩, fun e => e.2.2.2.2⟩
 ·rw [if_neg h]
  constructor
  ·intro e
   cases e
  ·rintro ⟨h1, h2, h3, h4, -⟩
   exact absurd ⟨h1, h2, h3, h4⟩ h

theorem kid_tgt {P : Sp} {W : Nat → Nat} {f : Nat → Bool} {cs : List Cel} (hc : CellsAt P W cs) (hst : ∀ i, i < P.n / 2 → f i = startOf cs i) {y k : Nat} : k ∈ kidOf f (P.n / 2) y ↔ tgt cs y = (k : Int) := by
 obtain ⟨z, hz⟩ : ∃ z, y - 1048576 = z := ⟨_, rfl⟩
 rw [tgt_yes' hz, kidOf_iff hz]
 have hs : ∀ i, startOf cs i = true → i < P.n / 2 := fun i h => by
  obtain ⟨c, h1, -, h3⟩ := objG_start.2 h
  have := hc.tl.mem h1
  omega
 have hi : hasI f (P.n / 2) ((z / 2 : Nat) : Int) = true ↔ startOf cs (z / 2) = true := by
  simp only [hasI, Bool.and_eq_true, decide_eq_true_eq, Int.toNat_natCast]
  constructor
  ·rintro ⟨h1, h2⟩
   rw [← hst _ (by omega)]
   exact h2
  ·intro h
   have := hs _ h
   exact ⟨by omega, by rw [hst _ this]; exact h⟩
 rw [hi]

theorem kidsOf_mem {P : Sp} {W : Nat → Nat} {f : Nat → Bool} {cs : List Cel} (hc : CellsAt P W cs) (hst : ∀ i, i < P.n / 2 → f i = startOf cs i) {c : Cel} (hm : c ∈ cs) (ht : c.tag = 1) {k : Nat} :
  k ∈ kidsOf f (P.n / 2) P.ts W cs c.g ↔ ∃ s ∈ refsC P.ts c, tgt cs (W (2 * c.g + 1 + s)) = (k : Int) := by
 obtain ⟨c', h1, h2, h3, h4⟩ := objG_find ⟨c, hm, ht, rfl⟩
 obtain rfl : c' = c := hc.tl.only h2 hm h4
 unfold kidsOf
 rw [h1]
 dsimp only
 unfold kidL
 rw [List.take_length, List.mem_flatMap]
 constructor
 ·rintro ⟨y, hy, hk⟩
  unfold tgtsC tgtL at hy
  obtain ⟨s, hs, rfl⟩ := List.mem_map.1 (List.mem_filter.1 hy).1
  exact ⟨s, hs, (kid_tgt hc hst).1 hk⟩
 ·rintro ⟨s, hs, hk⟩
  refine ⟨W (2 * c'.g + 1 + s), ?_, (kid_tgt hc hst).2 hk⟩
  unfold tgtsC tgtL
  refine List.mem_filter.2 ⟨List.mem_map.2 ⟨s, hs, rfl⟩, ?_⟩
  have := ((tgt_yes' rfl).1 hk).1
  rw [bne_iff_ne]
  omega

/-- An edge leads from an object to one of its own. -/
theorem edge_kid {P : Sp} {W : Nat → Nat} {f : Nat → Bool} {cs : List Cel} (hc : CellsAt P W cs) (hst : ∀ i, i < P.n / 2 → f i = startOf cs i) {e : Nat × Nat × Nat} (he : e ∈ edgesL P.ts W cs) :
  ObjG cs e.1 ∧ ObjG cs e.2.2 ∧ e.2.2 ∈ kidsOf f (P.n / 2) P.ts W cs e.1 := by
 unfold edgesL edgesP at he
 obtain ⟨x, hx, hy⟩ := List.mem_flatMap.1 he
 obtain ⟨c, hm, s, hs, rfl⟩ := mem_refsW.1 hx
 obtain ⟨h0, rfl⟩ := mem_edgeOf.1 hy
 obtain ⟨h1, h2⟩ := mem_objsOf.1 hm
 have ht : tgt cs (W (2 * c.g + 1 + s)) = ((tgt cs (W (2 * c.g + 1 + s))).toNat : Int) := by
  rw [Int.toNat_of_nonneg h0]
 refine ⟨⟨c, h1, h2, rfl⟩, objG_start.2 ?_, (kidsOf_mem hc hst h1 h2).2 ⟨s, hs, ht⟩⟩
 obtain ⟨z, hz⟩ : ∃ z, W (2 * c.g + 1 + s) - 1048576 = z := ⟨_, rfl⟩
 have := (tgt_yes' hz).1 ht
 dsimp only
 rw [this.2.2.2.2]
 exact this.2.2.2.1

/-- And whatever an object refers to has an edge. -/
theorem kid_edge {P : Sp} {W : Nat → Nat} {f : Nat → Bool} {cs : List Cel} (hc : CellsAt P W cs) (hst : ∀ i, i < P.n / 2 → f i = startOf cs i) {g k : Nat} (hg : ObjG cs g) (hk : k ∈ kidsOf f (P.n / 2) P.ts W cs g) :
  ∃ e ∈ edgesL P.ts W cs, e.1 = g ∧ e.2.2 = k := by
 obtain ⟨c, h1, h2, rfl⟩ := hg
 obtain ⟨s, hs, ht⟩ := (kidsOf_mem hc hst h1 h2).1 hk
 refine ⟨(c.g, s, k), ?_, rfl, rfl⟩
 unfold edgesL edgesP
 refine List.mem_flatMap.2 ⟨(c.g, s, W (2 * c.g + 1 + s)), mem_refsW.2 ⟨c, mem_objsOf.2 ⟨h1, h2⟩, s, hs, rfl⟩, mem_edgeOf.2 ⟨by dsimp only; rw [ht]; omega, ?_⟩⟩
 dsimp only
 rw [ht, Int.toNat_natCast]

/-- The value v is a row of edges. -/
def RowE (w : World) (v : Value) (es : List (Nat × Nat × Nat)) : Prop :=
 ∃ a cap, v = .slice a es.length cap ∧ ∀ i x, es[i]? = some x → ∃ b, a = some ⟨b, 0, none⟩ ∧ b < w.heap.size ∧
  w.cell? ⟨b, i * 3, none⟩ = some (.int .i64 (x.1 : Nat)) ∧ w.cell? ⟨b, i * 3 + 1, none⟩ = some (.int .i64 (x.2.1 : Nat)) ∧ w.cell? ⟨b, i * 3 + 2, none⟩ = some (.int .i64 (x.2.2 : Nat))

theorem RowE.of_owns {w : World} {base : Nat} {v : Value} {es : List (Nat × Nat × Nat)} (h : w.ownsRow base 81 3 v es.length (flatE es)) : RowE w v es := by
 rcases h.2 with ⟨rfl, h0⟩ | ⟨g, cap, cur, rfl, g2, g3, g4, g5, g6, g7⟩
 ·exact ⟨none, 0, by rw [h0], fun i x hx => by have := (List.getElem?_eq_some_iff.1 hx).1; omega⟩
 ·refine ⟨some ⟨g, 0, none⟩, cap, rfl, fun i x hx => ?_⟩
  have hi := (List.getElem?_eq_some_iff.1 hx).1
  obtain ⟨x0, x1, x2⟩ := flatE_at es i x hx
  have key : ∀ j, j < es.length * 3 → w.cell? ⟨g, j, none⟩ = (flatE es)[j]? := fun j hj => by
   rw [← g7, List.getElem?_take_of_lt hj]
   simp [World.cell?, g3]
  exact ⟨g, rfl, lt_of_heap g3, by rw [key _ (by omega)]; exact x0, by rw [key _ (by omega)]; exact x1, by rw [key _ (by omega)]; exact x2⟩

theorem RowE.keepN {w w' : World} {v : Value} {es : List (Nat × Nat × Nat)} (h : RowE w v es) (k : Keep Nope w w') : RowE w' v es := by
 obtain ⟨a, cap, rfl, h⟩ := h
 refine ⟨a, cap, rfl, fun i x hi => ?_⟩
 obtain ⟨b, rfl, h1, h2, h3, h4⟩ := h i x hi
 exact ⟨b, rfl, Nat.lt_of_lt_of_le h1 k.size, k.cell h2 (fun h => h), k.cell h3 (fun h => h), k.cell h4 (fun h => h)⟩

theorem any_take {α : Type} {p : α → Bool} {xs : List α} {j : Nat} {x : α} (h : xs[j]? = some x) : (xs.take (j + 1)).any p = ((xs.take j).any p || p x) := by
 rw [List.take_add_one, h, List.any_append]
 simp

/-- Why an object is marked. -/
def whyB (rs : List Nat) (es : List (Nat × Nat × Nat)) (fm : Nat → Bool) (m : Nat) : Bool := rs.any (fun x => x == m) || es.any (fun e => e.2.2 == m && (e.1 != m && fm e.1))

theorem why_marked {P : Sp} {W : Nat → Nat} {f : Nat → Bool} {cs : List Cel} (hc : CellsAt P W cs) (hst : ∀ i, i < P.n / 2 → f i = startOf cs i) {rs : List Nat} {fm : Nat → Bool} (hr : ∀ g, fm g = true ↔ MReach (kidsOf f (P.n / 2) P.ts W cs) (fun g => g ∈ rs) g) (ht : ∀ g, fm g = true → ObjG cs g) {m : Nat} (hm : fm m = true) :
  whyB rs (edgesL P.ts W cs) fm m = true := by
 unfold whyB
 rcases MReach.why ((hr m).1 hm) with h | ⟨x, h1, h2, h3⟩
 ·rw [Bool.or_eq_true]
  exact .inl (List.any_eq_true.2 ⟨m, h, by simp⟩)
 ·have hx := (hr x).2 h2
  obtain ⟨e, he, e1, e2⟩ := kid_edge hc hst (ht x hx) h3
  rw [Bool.or_eq_true]
  refine .inr (List.any_eq_true.2 ⟨e, he, ?_⟩)
  rw [e1, e2, hx]
  simp [h1]

/-- And where it refers to, that is marked too. -/
theorem edge_marked {P : Sp} {W : Nat → Nat} {f : Nat → Bool} {cs : List Cel} (hc : CellsAt P W cs) (hst : ∀ i, i < P.n / 2 → f i = startOf cs i) {rs : List Nat} {fm : Nat → Bool} (hr : ∀ g, fm g = true ↔ MReach (kidsOf f (P.n / 2) P.ts W cs) (fun g => g ∈ rs) g) {e : Nat × Nat × Nat} (he : e ∈ edgesL P.ts W cs) (h : fm e.1 = true) : fm e.2.2 = true :=
 (hr _).2 (.step ((hr _).1 h) (edge_kid hc hst he).2.2)

theorem objG_lt {P : Sp} {W : Nat → Nat} {cs : List Cel} (hc : CellsAt P W cs) {g : Nat} (h : ObjG cs g) : g < P.n / 2 := by
 obtain ⟨c, h1, -, h3⟩ := h
 have := hc.tl.mem h1
 omega

end Go.Proofs.YtllpibknkajfnaaGreatDoor
