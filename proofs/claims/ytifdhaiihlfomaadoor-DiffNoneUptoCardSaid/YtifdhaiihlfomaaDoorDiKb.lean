/-
  The contracts beside leavers: what a call of a tame function leaves, said of the blocks alone.
-/
import Derived.Test.YtifdhaiihlfomaaDoorConTopE
import Derived.Test.YtifdhaiihlfomaaDoorDiEnv
import Derived.Test.YtifdhaiihlfomaaDoorDiOf
import Derived.Test.YtifdhaiihlfomaaDoorDiAlike
import Derived.Test.YtifdhaiihlfomaaDoorDiLine
import Derived.Test.YtifdhaiihlfomaaDoorDiCount
import Derived.Test.YtifdhaiihlfomaaDoorDiRef
import Derived.Test.YtifdhaiihlfomaaDoorDiLong
namespace Go.Proofs.YtifdhaiihlfomaaDoor
open Go Go.RowKit Go.Conc
set_option linter.unusedVariables false

/-- All older blocks stand. -/
structure Older (w w' : World) : Prop where
  size : w.heap.size ≤ w'.heap.size
  block : ∀ k, k < w.heap.size → w'.heap[k]? = w.heap[k]?
  os : w'.os = w.os
  out : w'.output = w.output
theorem Older.refl (w : World) : Older w w := ⟨Nat.le_refl _, fun _ _ => rfl, rfl, rfl⟩
theorem Older.trans {w w' w'' : World} (h : Older w w') (k : Older w' w'') : Older w w'' := ⟨Nat.le_trans h.size k.size, fun i hi => (k.block i (Nat.lt_of_lt_of_le hi h.size)).trans (h.block i hi), k.os.trans h.os, k.out.trans h.out⟩
theorem Older.of_keep {w w' : World} (h : Keep Nope w w') : Older w w' := ⟨h.size, fun k hk => h.block k hk (fun h => h), h.os, h.output⟩
theorem Older.onT (w : World) (τ : Nat → Question → Nat) (d : Nat) : Older w (onT w τ d) := ⟨Nat.le_refl _, fun _ _ => rfl, rfl, rfl⟩
theorem Older.to {w w' : World} (h : Older w w') (τ : Nat → Question → Nat) (d : Nat) : Older w (Go.Proofs.YtifdhaiihlfomaaDoor.onT w' τ d) := h.trans (Older.onT _ _ _)
theorem Older.from {w w' : World} {τ : Nat → Question → Nat} {d : Nat} (h : Older (Go.Proofs.YtifdhaiihlfomaaDoor.onT w τ d) w') : Older w w' := (Older.onT w τ d).trans h
theorem Older.rel {w w' : World} (h : AtRel w w') : Older w w' := by
  obtain ⟨d, rfl⟩ := h
  exact ⟨Nat.le_refl _, fun _ _ => rfl, rfl, rfl⟩
theorem Older.alloc (w : World) (o : Obj) : Older w (w.alloc o) := Older.of_keep ((Keep.refl Nope w).alloc o)
theorem Older.at_ {w w' : World} {b : Nat} {o : Obj} (h : Older w w') (hb : w.heap[b]? = some o) : w'.heap[b]? = some o := by rw [h.block b (lt_of_heap hb)]; exact hb
theorem cell_lt {w : World} {p : Addr} {v : Value} (c : w.cell? p = some v) : p.block < w.heap.size := by
  rcases Nat.lt_or_ge p.block w.heap.size with h | h
  · exact h
  · unfold World.cell? at c
    rw [Array.getElem?_eq_none h] at c
    cases c
theorem Older.cell {w w' : World} {p : Addr} {v : Value} (h : Older w w') (c : w.cell? p = some v) : w'.cell? p = some v := by
  have := h.block p.block (cell_lt c)
  unfold World.cell? at c ⊢
  rw [this]
  exact c
theorem RowR.kb {k : IntKind} {w w' : World} {v : Value} {xs : List Int} (h : RowR k w v xs) (hk : Older w w') : RowR k w' v xs := by
  obtain ⟨a, c, rfl, h⟩ := h
  refine ⟨a, c, rfl, fun i x hx => ?_⟩
  obtain ⟨b, o, rfl, h1, h2⟩ := h i x hx
  exact ⟨b, o, rfl, Nat.lt_of_lt_of_le h1 hk.size, hk.cell h2⟩
theorem NodesR.kb {w w' : World} {v : Value} {ns : List NodeV} (h : NodesR w v ns) (hk : Older w w') : NodesR w' v ns := by
  obtain ⟨a, c, rfl, h⟩ := h
  refine ⟨a, c, rfl, fun i n hn => ?_⟩
  obtain ⟨b, o, rfl, h1, h2, h3, h4, h5, h6⟩ := h i n hn
  exact ⟨b, o, rfl, Nat.lt_of_lt_of_le h1 hk.size, hk.cell h2, hk.cell h3, hk.cell h4, hk.cell h5, h6.1.kb hk, h6.2.kb hk⟩
theorem GraphR.kb {w w' : World} {x : GraphV} (h : GraphR w x) (hk : Older w w') : GraphR w' x := ⟨h.nodes.kb hk, h.hands.kb hk, h.pins.kb hk, h.stack.kb hk⟩
theorem own_kb {base : Nat} {e : TypeId} {s n : Nat} {v : Value} {xs : List Value} {w w' : World} (h : w.ownsRow base e s v n xs) (hk : Older w w') : w'.ownsRow base e s v n xs := by
  refine ⟨h.1, ?_⟩
  rcases h.2 with hn | ⟨g, cap, cur, rfl, hb, hgg, rest⟩
  · exact .inl hn
  · exact .inr ⟨g, cap, cur, rfl, hb, hk.at_ hgg, rest⟩
theorem OwnG.kb {base : Nat} {w w' : World} {y : GraphV} (h : OwnG base w y) (hk : Older w w') : OwnG base w' y :=
  ⟨own_kb h.nodes hk, fun n hn => ⟨own_kb (h.rows n hn).1 hk, own_kb (h.rows n hn).2 hk⟩, own_kb h.hands hk, h.pins, h.stack⟩
theorem TypIn.kb {w w' : World} {b n : Nat} {c : Int → Nat} (h : TypIn w b n c) (k : Older w w') : TypIn w' b n c := by
  obtain ⟨D, ⟨es, clock, h1, h2⟩, h3⟩ := h
  exact ⟨D, ⟨es, clock, k.at_ h1, h2⟩, h3⟩

theorem Part_D {x : GraphV} {w : World} (hx : GraphR w x) (hl : GraphL x) (hn6 : x.ns.length ≤ 600) (n : Int) :
    CallsD Tryd.prog 15 #[x.val, .int .i64 n] w fun v w' => ∃ y : GraphV, v = y.val ∧ y.p = partP x.p n ∧ y.hs = (if y.ns = [] then [] else [0]) ∧ OwnG w.heap.size w' y ∧ Older w w' :=
  callsD_of_calls envD_ok calmD rfl (fun i h => by cases h) (fun v w' τ d ⟨y, h1, h2, h3, h4, h5⟩ => ⟨y, h1, h2, h3, h4.kb (Older.onT _ _ _), h5.to _ _⟩)
    fun τ => (Part_R (w := onT w τ 0) (hx.kb (Older.onT _ _ _)) hl hn6 n).mono fun e w' ⟨v, he, y, h1, h2, h3, h4, h5⟩ => ⟨v, he, y, h1, h2, h3, h4, (Older.of_keep h5).from⟩
theorem Alike_D {a b : GraphV} {w : World} (ha : GraphR w a) (hla : GraphL a) (hna : a.ns.length ≤ 600) (hb : GraphR w b) (hlb : GraphL b) (hnb : b.ns.length ≤ 600) (n m : Int) :
    CallsD Tryd.prog 16 #[a.val, .int .i64 n, b.val, .int .i64 m] w fun v w' => ∃ r : Bool, v = .bool r ∧ (r = true ↔ (partP a.p n ≠ [] ∧ partP a.p n = partP b.p m)) ∧ Older w w' :=
  callsD_of_calls envD_ok calmD rfl (fun i h => by cases h) (fun v w' τ d ⟨r, h1, h2, h3⟩ => ⟨r, h1, h2, h3.to _ _⟩)
    fun τ => (Alike_R (w := onT w τ 0) (ha.kb (Older.onT _ _ _)) hla hna (hb.kb (Older.onT _ _ _)) hlb hnb n m).mono fun e w' ⟨r, he, h2, h3⟩ => ⟨.bool r, he, r, rfl, h2, (Older.of_keep h3).from⟩
theorem Same_D {a b : GraphV} {w : World} (ha : GraphR w a) (hb : GraphR w b) (hl : GraphL a) :
    CallsD Tryd.prog 14 #[a.val, b.val] w fun v w' => v = .bool (sameG a b) ∧ Older w w' :=
  callsD_of_calls envD_ok calmD rfl (fun i h => by cases h) (fun v w' τ d ⟨h1, h3⟩ => ⟨h1, h3.to _ _⟩)
    fun τ => (SameRef_R (w := onT w τ 0) (ha.kb (Older.onT _ _ _)) (hb.kb (Older.onT _ _ _)) hl).mono fun e w' ⟨he, h3⟩ => ⟨_, he, rfl, (Older.of_keep h3).from⟩
theorem Line_D (w : World) : CallsD Tryd.prog 11 #[.agg #[.int .u8 3, .int .i64 0, .int .i64 0]] w fun v w' => v = .string ⟨#[119, 111, 114, 100, 32, 48, 32, 48]⟩ ∧ Older w w' :=
  callsD_of_calls envD_ok calmD rfl (fun i h => by cases h) (fun v w' τ d ⟨h1, h3⟩ => ⟨h1, h3.to _ _⟩)
    fun τ => (Line_R (onT w τ 0)).mono fun e w' ⟨he, h3⟩ => ⟨_, he, rfl, (Older.of_keep h3).from⟩
theorem Count_D {x : GraphV} {w : World} (hx : GraphR w x) (hl : x.ns.length ≤ 1000000) (ht : ∀ y ∈ x.ns, -9223372036854775808 ≤ y.ty ∧ y.ty < 9223372036854775808) :
    CallsD Tryd.prog 17 #[x.val] w fun v w' => ∃ b, v = .map (some b) ∧ TypIn w' b x.ns.length (cntT x.ns) ∧ w.heap.size ≤ b ∧ Older w w' :=
  callsD_of_calls envD_ok calmD rfl (fun i h => by cases h) (fun v w' τ d ⟨b, h1, h2, h3, h4⟩ => ⟨b, h1, h2.kb (Older.onT _ _ _), h3, h4.to _ _⟩)
    fun τ => (Count_R (w := onT w τ 0) (hx.kb (Older.onT _ _ _)) hl ht).mono fun e w' ⟨b, he, h2, h3, h4⟩ => ⟨_, he, b, rfl, h2, h3, (Older.of_keep h4).from⟩
theorem Long_D {x : GraphV} {w : World} (hx : GraphR w x) (hb : GraphL x) :
    CallsD Tryd.prog 6 #[x.val] w fun v w' => v = .bool (longB x) ∧ Older w w' :=
  callsD_of_calls envD_ok calmD rfl (fun i h => by cases h) (fun v w' τ d ⟨h1, h3⟩ => ⟨h1, h3.to _ _⟩)
    fun τ => (Long_R (w := onT w τ 0) (hx.kb (Older.onT _ _ _)) hb).mono fun e w' ⟨he, h3⟩ => ⟨_, he, rfl, (Older.of_keep h3).from⟩
theorem Of_D {a b : GraphV} {w : World} (ha : GraphIn w a) (hb : GraphIn w b) (hlen : (allL a b).length ≤ 4000000000) :
    CallsD Tryd.prog 9 #[a.val, b.val] w fun v w' => w'.ownsRow w.heap.size 27 3 v (allL a b).length ((allL a b).flatMap cellsOf) ∧ Older w w' :=
  (of_c a b w ha hb hlen).mono fun v w' ⟨h1, h2, h3, h4, h5⟩ => ⟨h3, h2, h1, h4, h5⟩

end Go.Proofs.YtifdhaiihlfomaaDoor
