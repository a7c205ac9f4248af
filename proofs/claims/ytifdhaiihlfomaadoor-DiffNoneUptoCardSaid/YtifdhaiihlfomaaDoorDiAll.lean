/-
  diff.all, walked in company: it sends all differences of two graphs.
-/
import Derived.Test.YtifdhaiihlfomaaDoorDiNode
namespace Go.Proofs.YtifdhaiihlfomaaDoor
open Go Go.Conc Go.RowKit
set_option linter.unusedVariables false

/-- A graph as it comes in. -/
structure GraphV where
  nv : Value
  hv : Value
  pv : Value
  sv : Value
  ns : List NodeV
  hs : List Int
  ps : List Int
  ss : List Int
def GraphV.val (x : GraphV) : Value := .agg #[x.nv, x.hv, x.pv, x.sv]
def nodeZ : NodeV := ⟨0, 0, .slice none 0 0, .slice none 0 0, [], []⟩
/-- A row of nodes that came in. -/
structure ArgN (c Low : Nat) (w₀ : World) (nv : Value) (ns : List NodeV) : Prop where
  small : ns.length ≤ 4000000000
  form : ∃ a cp, nv = .slice a ns.length cp
  idx : ∀ j : Nat, j < ns.length → ∃ ad : Addr, (∀ w, (Instr.indexAt 22 nv (.int .i64 (j : Int))).run Tryd.prog w = .ok (.pointer (some ad)) w) ∧ (∀ w es, (Instr.indexAt 22 nv (.int .i64 (j : Int))).events Tryd.prog w es = es) ∧
    ad.block < Low ∧ ad.block ≠ c ∧ w₀.cell? ad = some (.int .i64 (ns.getD j nodeZ).ty) ∧ w₀.cell? ⟨ad.block, ad.off + 1, none⟩ = some (.int .i64 (ns.getD j nodeZ).ln) ∧ w₀.cell? ⟨ad.block, ad.off + 2, none⟩ = some (ns.getD j nodeZ).wv ∧ w₀.cell? ⟨ad.block, ad.off + 3, none⟩ = some (ns.getD j nodeZ).rv
  ok : ∀ j : Nat, j < ns.length → NodeOk c Low w₀ (ns.getD j nodeZ)
structure GraphOk (c Low : Nat) (w₀ : World) (x : GraphV) : Prop where
  nodes : ArgN c Low w₀ x.nv x.ns
  hands : ArgOf Tryd.prog c Low w₀ 23 .i64 x.hv x.hs.length x.hs
  pins : ArgOf Tryd.prog c Low w₀ 23 .i64 x.pv x.ps.length x.ps
  stack : ArgOf Tryd.prog c Low w₀ 23 .i64 x.sv x.ss.length x.ss
  h1 : ∃ a l cp, x.hv = .slice a l cp
  p1 : ∃ a l cp, x.pv = .slice a l cp
  s1 : ∃ a l cp, x.sv = .slice a l cp
  hl : x.hs.length ≤ 4000000000
  pl : x.ps.length ≤ 4000000000
  sl : x.ss.length ≤ 4000000000
/-- What is told of node number j. -/
def tellN (us bs : List NodeV) (j : Nat) : List Value := if j < min us.length bs.length then nodeL j (us.getD j nodeZ) (bs.getD j nodeZ) else [dV 5 j 0]
/-- What is told of two rows of the graph. -/
def rowK (kd : Int) (zs ys : List Int) : List Value := (drow zs.length ys.length zs ys (max zs.length ys.length)).map fun k => dV kd k 0
def GraphV.row (x : GraphV) : Nat → List Int
  | 0 => x.hs
  | 1 => x.ps
  | _ => x.ss
def GraphV.rowV (x : GraphV) : Nat → Value
  | 0 => x.hv
  | 1 => x.pv
  | _ => x.sv
/-- ALL DIFFERENCES. -/
def allL (a b : GraphV) : List Value := (List.range (max a.ns.length b.ns.length)).flatMap (tellN a.ns b.ns) ++ (List.range 3).flatMap fun (t : Nat) => rowK (6 + (t : Int)) (a.row t) (b.row t)

theorem wpS_midL {P : Program} {ch Low : Nat} {own : Obj → Bool} {fn : FuncId} {Q : Exit → Act → World → Prop} {a : Act} {w : World} {x y : Code} {n₁ n₂ : Nat} {vs : List Value} (M : Act → World → Prop) (hx : wpS P ch Low own fn x n₁ vs (thenS M [] Q) a w) (hy : ∀ a' w', M a' w' → wpS P ch Low own fn y n₂ [] Q a' w') :
    wpS P ch Low own fn (.seq x y) (n₁ + n₂ + 1) vs Q a w :=
  wpS_seqL (wpS_mono hx fun e a' w' q => by cases e <;> first | exact hy _ _ q | exact q)
theorem wpS_mid0 {P : Program} {ch Low : Nat} {own : Obj → Bool} {fn : FuncId} {Q : Exit → Act → World → Prop} {a : Act} {w : World} {x y : Code} {n₁ n₂ : Nat} {vs : List Value} (M : Act → World → Prop) (hx : wpS P ch Low own fn x n₁ [] (thenS M vs Q) a w) (hy : ∀ a' w', M a' w' → wpS P ch Low own fn y n₂ vs Q a' w') :
    wpS P ch Low own fn (.seq x y) (n₁ + n₂ + 1) vs Q a w :=
  wpS_seq0 (wpS_mono hx fun e a' w' q => by cases e <;> first | exact hy _ _ q | exact q)
theorem events_min2 (P : Program) (w : World) (es : Array Event) (k : IntKind) (x y : Int) (ty : TypeId) (ts : Array TypeId) : (Builtin.min_ ts ty #[.int k x, .int k y]).events P w es = es := by
  simp [Builtin.min_, Builtin.min2]
theorem frozen_at {w : World} {g i : Nat} {cs : Array Value} {e : TypeId} (h : w.heap[g]? = some (.cells cs e)) : w.frozen? ⟨g, i, none⟩ = false := by
  simp [World.frozen?, h]
theorem set3 {w : World} {g : Nat} {e : TypeId} {a0 a1 a2 v0 v1 v2 : Value} (h : w.heap[g]? = some (.cells #[a0, a1, a2] e)) :
    (((w.setCell ⟨g, 0, none⟩ v0).setCell ⟨g, 1, none⟩ v1).setCell ⟨g, 2, none⟩ v2).heap[g]? = some (.cells #[v0, v1, v2] e) := by
  have one : ∀ (w : World) (cs : Array Value) (i : Nat) (v : Value), w.heap[g]? = some (.cells cs e) → (w.setCell ⟨g, i, none⟩ v).heap[g]? = some (.cells (cs.setIfInBounds i v) e) := fun w cs i v h => by
    simp [World.setCell, Array.getElem?_modify, h]
  have h2 := one _ _ 2 v2 (one _ _ 1 v1 (one _ _ 0 v0 h))
  exact h2
theorem set3_other {w : World} {g k : Nat} {v0 v1 v2 : Value} (h : k ≠ g) : (((w.setCell ⟨g, 0, none⟩ v0).setCell ⟨g, 1, none⟩ v1).setCell ⟨g, 2, none⟩ v2).heap[k]? = w.heap[k]? := by
  simp [World.setCell, Array.getElem?_modify, Ne.symm h]
theorem Kb.turn {c Low base : Nat} {B : Nat → Obj → Prop} {w₀ w w' : World} {own : Obj → Bool} {g : Nat} {o o' : Obj} (hb : Bks Low base own B) (hg : base ≤ g) (h : Kb c Low (g + 1) (addB B g o) w₀ w) (hrest : ∀ k, k ≠ g → w'.heap[k]? = w.heap[k]?) (hs : w'.heap.size = w.heap.size) (ho : w'.heap[g]? = some o') : Kb c Low (g + 1) (addB B g o') w₀ w' := by
  have hl := hb.low
  refine ⟨⟨fun k h1 h2 => ?_, by rw [hs]; exact h.kn.size⟩, by rw [hs]; exact h.size, ?_⟩
  · rw [hrest k (by omega)]
    exact h.kn.low k h1 h2
  · rintro k x (hk | ⟨rfl, rfl⟩)
    · have := (hb.all k x hk).2.1
      rw [hrest k (by omega)]
      exact h.mine k x (.inl hk)
    · exact ho
theorem events_store_slice {P : Program} {w : World} {es : Array Event} {m : Mode} (a : Addr) (x : Option Addr) (n cp : Nat) : (store a (.slice x n cp) m).events P w es = storedEv P w es a (.slice x n cp) m := events_store P w es a _ m rfl
theorem callsC_more {P : Program} {main : Bool} {R : World → World → Prop} {D : World → World → Array Event → Prop} {f : FuncId} {args : Array Value} {n n' : Nat} {w : World} {Post : Value → World → Prop} (h : CallsC P main R D f args n w Post) (hn : n ≤ n') : CallsC P main R D f args n' w Post := by
  obtain ⟨fx, c, h1, h2, h3, h4⟩ := h
  exact ⟨fx, c, h1, h2, h3, wpC_more h4 hn⟩
def AllM (c Low g5 : Nat) (BB : Nat → Obj → Prop) (w₀ : World) (dd : Deferred) (g4 : Nat) (ans bns : List NodeV) (j : Nat) (a : Act) (w : World) : Prop := ∃ u : Nat → Value, Kb c Low (g5 + 1) BB w₀ w ∧ a = { tmps := #[.chan (some c), u 1, u 2, u 3, .pointer (some ⟨g4, 0, none⟩), .pointer (some ⟨g5, 0, none⟩), .int .i64 ((min ans.length bns.length : Nat) : Int), u 7, u 8, u 9, u 10, u 11, u 12, u 13, u 14, u 15, u 16, u 17, u 18, u 19, u 20, u 21, u 22, u 23, u 24, u 25, .int .i64 ((max ans.length bns.length : Nat) : Int), .int .i64 (j : Int), u 28, u 29, u 30, u 31, u 32, u 33, u 34, u 35, u 36, u 37, u 38, u 39, u 40, u 41, u 42, u 43, u 44, u 45, u 46, u 47, u 48, u 49, u 50, u 51, u 52, u 53, u 54, u 55, u 56, u 57, u 58, u 59, u 60, u 61, u 62, u 63, u 64, u 65, u 66, u 67, u 68, u 69, u 70, u 71, u 72, u 73, u 74, u 75, u 76, u 77, u 78, u 79, u 80, u 81, u 82, u 83, u 84, u 85, u 86, u 87], defers := [dd] }
set_option maxRecDepth 100000 in
theorem AllM.mk {c Low g5 : Nat} {BB : Nat → Obj → Prop} {w₀ : World} {dd : Deferred} {g4 : Nat} {ans bns : List NodeV} {j : Nat} {x1 x2 x3 x7 x8 x9 x10 x11 x12 x13 x14 x15 x16 x17 x18 x19 x20 x21 x22 x23 x24 x25 x28 x29 x30 x31 x32 x33 x34 x35 x36 x37 x38 x39 x40 x41 x42 x43 x44 x45 x46 x47 x48 x49 x50 x51 x52 x53 x54 x55 x56 x57 x58 x59 x60 x61 x62 x63 x64 x65 x66 x67 x68 x69 x70 x71 x72 x73 x74 x75 x76 x77 x78 x79 x80 x81 x82 x83 x84 x85 x86 x87 : Value} {w : World} (h : Kb c Low (g5 + 1) BB w₀ w) : AllM c Low g5 BB w₀ dd g4 ans bns j { tmps := #[.chan (some c), x1, x2, x3, .pointer (some ⟨g4, 0, none⟩), .pointer (some ⟨g5, 0, none⟩), .int .i64 ((min ans.length bns.length : Nat) : Int), x7, x8, x9, x10, x11, x12, x13, x14, x15, x16, x17, x18, x19, x20, x21, x22, x23, x24, x25, .int .i64 ((max ans.length bns.length : Nat) : Int), .int .i64 (j : Int), x28, x29, x30, x31, x32, x33, x34, x35, x36, x37, x38, x39, x40, x41, x42, x43, x44, x45, x46, x47, x48, x49, x50, x51, x52, x53, x54, x55, x56, x57, x58, x59, x60, x61, x62, x63, x64, x65, x66, x67, x68, x69, x70, x71, x72, x73, x74, x75, x76, x77, x78, x79, x80, x81, x82, x83, x84, x85, x86, x87], defers := [dd] } w :=
  ⟨fun i => (#[undef, x1, x2, x3, undef, undef, undef, x7, x8, x9, x10, x11, x12, x13, x14, x15, x16, x17, x18, x19, x20, x21, x22, x23, x24, x25, undef, undef, x28, x29, x30, x31, x32, x33, x34, x35, x36, x37, x38, x39, x40, x41, x42, x43, x44, x45, x46, x47, x48, x49, x50, x51, x52, x53, x54, x55, x56, x57, x58, x59, x60, x61, x62, x63, x64, x65, x66, x67, x68, x69, x70, x71, x72, x73, x74, x75, x76, x77, x78, x79, x80, x81, x82, x83, x84, x85, x86, x87] : Array Value).getD i undef, h, rfl⟩
theorem AllM.rely {c Low g5 : Nat} {BB : Nat → Obj → Prop} {w₀ : World} {dd : Deferred} {g4 : Nat} {ans bns : List NodeV} {j : Nat} {own : Obj → Bool} (hb : Bks Low (g5 + 1) own BB) {a : Act} {w w₁ : World} (h : AllM c Low g5 BB w₀ dd g4 ans bns j a w) (r : Oth c Low own false w w₁) : AllM c Low g5 BB w₀ dd g4 ans bns j a w₁ := by
  obtain ⟨u, hS, rfl⟩ := h
  exact ⟨u, hS.oth hb r, rfl⟩
def AllK (c Low g5 : Nat) (BB : Nat → Obj → Prop) (w₀ : World) (dd : Deferred) (g4 : Nat) (ans bns : List NodeV) (j : Nat) (a : Act) (w : World) : Prop := ∃ u : Nat → Value, Kb c Low (g5 + 1) BB w₀ w ∧ a = { tmps := #[.chan (some c), u 1, u 2, u 3, .pointer (some ⟨g4, 0, none⟩), .pointer (some ⟨g5, 0, none⟩), u 6, u 7, u 8, u 9, u 10, u 11, u 12, u 13, u 14, u 15, u 16, u 17, u 18, u 19, u 20, u 21, u 22, u 23, u 24, u 25, u 26, u 27, u 28, u 29, u 30, u 31, u 32, u 33, u 34, u 35, u 36, u 37, u 38, u 39, u 40, u 41, u 42, u 43, u 44, u 45, u 46, u 47, u 48, u 49, u 50, u 51, u 52, u 53, u 54, u 55, u 56, u 57, u 58, u 59, u 60, u 61, u 62, u 63, u 64, u 65, u 66, u 67, u 68, u 69, u 70, u 71, u 72, u 73, u 74, u 75, u 76, u 77, u 78, u 79, u 80, u 81, u 82, u 83, u 84, u 85, u 86, u 87], defers := [dd] }
set_option maxRecDepth 100000 in
theorem AllK.mk {c Low g5 : Nat} {BB : Nat → Obj → Prop} {w₀ : World} {dd : Deferred} {g4 : Nat} {ans bns : List NodeV} {j : Nat} {x1 x2 x3 x6 x7 x8 x9 x10 x11 x12 x13 x14 x15 x16 x17 x18 x19 x20 x21 x22 x23 x24 x25 x26 x27 x28 x29 x30 x31 x32 x33 x34 x35 x36 x37 x38 x39 x40 x41 x42 x43 x44 x45 x46 x47 x48 x49 x50 x51 x52 x53 x54 x55 x56 x57 x58 x59 x60 x61 x62 x63 x64 x65 x66 x67 x68 x69 x70 x71 x72 x73 x74 x75 x76 x77 x78 x79 x80 x81 x82 x83 x84 x85 x86 x87 : Value} {w : World} (h : Kb c Low (g5 + 1) BB w₀ w) : AllK c Low g5 BB w₀ dd g4 ans bns j { tmps := #[.chan (some c), x1, x2, x3, .pointer (some ⟨g4, 0, none⟩), .pointer (some ⟨g5, 0, none⟩), x6, x7, x8, x9, x10, x11, x12, x13, x14, x15, x16, x17, x18, x19, x20, x21, x22, x23, x24, x25, x26, x27, x28, x29, x30, x31, x32, x33, x34, x35, x36, x37, x38, x39, x40, x41, x42, x43, x44, x45, x46, x47, x48, x49, x50, x51, x52, x53, x54, x55, x56, x57, x58, x59, x60, x61, x62, x63, x64, x65, x66, x67, x68, x69, x70, x71, x72, x73, x74, x75, x76, x77, x78, x79, x80, x81, x82, x83, x84, x85, x86, x87], defers := [dd] } w :=
  ⟨fun i => (#[undef, x1, x2, x3, undef, undef, x6, x7, x8, x9, x10, x11, x12, x13, x14, x15, x16, x17, x18, x19, x20, x21, x22, x23, x24, x25, x26, x27, x28, x29, x30, x31, x32, x33, x34, x35, x36, x37, x38, x39, x40, x41, x42, x43, x44, x45, x46, x47, x48, x49, x50, x51, x52, x53, x54, x55, x56, x57, x58, x59, x60, x61, x62, x63, x64, x65, x66, x67, x68, x69, x70, x71, x72, x73, x74, x75, x76, x77, x78, x79, x80, x81, x82, x83, x84, x85, x86, x87] : Array Value).getD i undef, h, rfl⟩
theorem AllK.rely {c Low g5 : Nat} {BB : Nat → Obj → Prop} {w₀ : World} {dd : Deferred} {g4 : Nat} {ans bns : List NodeV} {j : Nat} {own : Obj → Bool} (hb : Bks Low (g5 + 1) own BB) {a : Act} {w w₁ : World} (h : AllK c Low g5 BB w₀ dd g4 ans bns j a w) (r : Oth c Low own false w w₁) : AllK c Low g5 BB w₀ dd g4 ans bns j a w₁ := by
  obtain ⟨u, hS, rfl⟩ := h
  exact ⟨u, hS.oth hb r, rfl⟩
def AllT (c Low : Nat) (w₀ : World) (dd : Deferred) (g65 : Nat) (B65 : Nat → Obj → Prop) (t : Nat) (a : Act) (w : World) : Prop := ∃ u : Nat → Value, Kb c Low (g65 + 1) B65 w₀ w ∧ a = { tmps := #[.chan (some c), u 1, u 2, u 3, u 4, u 5, u 6, u 7, u 8, u 9, u 10, u 11, u 12, u 13, u 14, u 15, u 16, u 17, u 18, u 19, u 20, u 21, u 22, u 23, u 24, u 25, u 26, u 27, u 28, u 29, u 30, u 31, u 32, u 33, u 34, u 35, u 36, u 37, u 38, u 39, u 40, u 41, u 42, u 43, u 44, u 45, u 46, u 47, u 48, u 49, u 50, u 51, u 52, u 53, u 54, u 55, u 56, u 57, u 58, u 59, u 60, u 61, u 62, u 63, u 64, .slice (some ⟨g65, 0, none⟩) 3 3, .int .i64 3, .int .i64 (t : Int), u 68, u 69, u 70, u 71, u 72, u 73, u 74, u 75, u 76, u 77, u 78, u 79, u 80, u 81, u 82, u 83, u 84, u 85, u 86, u 87], defers := [dd] }
set_option maxRecDepth 100000 in
theorem AllT.mk {c Low : Nat} {w₀ : World} {dd : Deferred} {g65 : Nat} {B65 : Nat → Obj → Prop} {t : Nat} {x1 x2 x3 x4 x5 x6 x7 x8 x9 x10 x11 x12 x13 x14 x15 x16 x17 x18 x19 x20 x21 x22 x23 x24 x25 x26 x27 x28 x29 x30 x31 x32 x33 x34 x35 x36 x37 x38 x39 x40 x41 x42 x43 x44 x45 x46 x47 x48 x49 x50 x51 x52 x53 x54 x55 x56 x57 x58 x59 x60 x61 x62 x63 x64 x68 x69 x70 x71 x72 x73 x74 x75 x76 x77 x78 x79 x80 x81 x82 x83 x84 x85 x86 x87 : Value} {w : World} (h : Kb c Low (g65 + 1) B65 w₀ w) : AllT c Low w₀ dd g65 B65 t { tmps := #[.chan (some c), x1, x2, x3, x4, x5, x6, x7, x8, x9, x10, x11, x12, x13, x14, x15, x16, x17, x18, x19, x20, x21, x22, x23, x24, x25, x26, x27, x28, x29, x30, x31, x32, x33, x34, x35, x36, x37, x38, x39, x40, x41, x42, x43, x44, x45, x46, x47, x48, x49, x50, x51, x52, x53, x54, x55, x56, x57, x58, x59, x60, x61, x62, x63, x64, .slice (some ⟨g65, 0, none⟩) 3 3, .int .i64 3, .int .i64 (t : Int), x68, x69, x70, x71, x72, x73, x74, x75, x76, x77, x78, x79, x80, x81, x82, x83, x84, x85, x86, x87], defers := [dd] } w :=
  ⟨fun i => (#[undef, x1, x2, x3, x4, x5, x6, x7, x8, x9, x10, x11, x12, x13, x14, x15, x16, x17, x18, x19, x20, x21, x22, x23, x24, x25, x26, x27, x28, x29, x30, x31, x32, x33, x34, x35, x36, x37, x38, x39, x40, x41, x42, x43, x44, x45, x46, x47, x48, x49, x50, x51, x52, x53, x54, x55, x56, x57, x58, x59, x60, x61, x62, x63, x64, undef, undef, undef, x68, x69, x70, x71, x72, x73, x74, x75, x76, x77, x78, x79, x80, x81, x82, x83, x84, x85, x86, x87] : Array Value).getD i undef, h, rfl⟩
theorem AllT.rely {c Low : Nat} {w₀ : World} {dd : Deferred} {g65 : Nat} {B65 : Nat → Obj → Prop} {t : Nat} {own : Obj → Bool} (hb : Bks Low (g65 + 1) own B65) {a : Act} {w w₁ : World} (h : AllT c Low w₀ dd g65 B65 t a w) (r : Oth c Low own false w w₁) : AllT c Low w₀ dd g65 B65 t a w₁ := by
  obtain ⟨u, hS, rfl⟩ := h
  exact ⟨u, hS.oth hb r, rfl⟩
def AllR (c Low : Nat) (w₀ : World) (dd : Deferred) (g65 g9 : Nat) (B9 : Nat → Obj → Prop) (v : Value) (l : List Nat) (t k : Nat) (a : Act) (w : World) : Prop := ∃ u : Nat → Value, HR c Low (g9 + 1) B9 w₀ v l w ∧ a = { tmps := #[.chan (some c), u 1, u 2, u 3, u 4, u 5, u 6, u 7, u 8, .pointer (some ⟨g9, 0, none⟩), u 10, u 11, u 12, u 13, u 14, u 15, u 16, u 17, u 18, u 19, u 20, u 21, u 22, u 23, u 24, u 25, u 26, u 27, u 28, u 29, u 30, u 31, u 32, u 33, u 34, u 35, u 36, u 37, u 38, u 39, u 40, u 41, u 42, u 43, u 44, u 45, u 46, u 47, u 48, u 49, u 50, u 51, u 52, u 53, u 54, u 55, u 56, u 57, u 58, u 59, u 60, u 61, u 62, u 63, u 64, .slice (some ⟨g65, 0, none⟩) 3 3, .int .i64 3, .int .i64 (t : Int), u 68, u 69, u 70, u 71, u 72, u 73, u 74, v, .int .i64 ((l.length : Nat) : Int), .int .i64 (k : Int), u 78, u 79, u 80, u 81, u 82, u 83, u 84, u 85, u 86, u 87], defers := [dd] }
set_option maxRecDepth 100000 in
theorem AllR.mk {c Low : Nat} {w₀ : World} {dd : Deferred} {g65 g9 : Nat} {B9 : Nat → Obj → Prop} {v : Value} {l : List Nat} {t k : Nat} {x1 x2 x3 x4 x5 x6 x7 x8 x10 x11 x12 x13 x14 x15 x16 x17 x18 x19 x20 x21 x22 x23 x24 x25 x26 x27 x28 x29 x30 x31 x32 x33 x34 x35 x36 x37 x38 x39 x40 x41 x42 x43 x44 x45 x46 x47 x48 x49 x50 x51 x52 x53 x54 x55 x56 x57 x58 x59 x60 x61 x62 x63 x64 x68 x69 x70 x71 x72 x73 x74 x78 x79 x80 x81 x82 x83 x84 x85 x86 x87 : Value} {w : World} (h : HR c Low (g9 + 1) B9 w₀ v l w) : AllR c Low w₀ dd g65 g9 B9 v l t k { tmps := #[.chan (some c), x1, x2, x3, x4, x5, x6, x7, x8, .pointer (some ⟨g9, 0, none⟩), x10, x11, x12, x13, x14, x15, x16, x17, x18, x19, x20, x21, x22, x23, x24, x25, x26, x27, x28, x29, x30, x31, x32, x33, x34, x35, x36, x37, x38, x39, x40, x41, x42, x43, x44, x45, x46, x47, x48, x49, x50, x51, x52, x53, x54, x55, x56, x57, x58, x59, x60, x61, x62, x63, x64, .slice (some ⟨g65, 0, none⟩) 3 3, .int .i64 3, .int .i64 (t : Int), x68, x69, x70, x71, x72, x73, x74, v, .int .i64 ((l.length : Nat) : Int), .int .i64 (k : Int), x78, x79, x80, x81, x82, x83, x84, x85, x86, x87], defers := [dd] } w :=
  ⟨fun i => (#[undef, x1, x2, x3, x4, x5, x6, x7, x8, undef, x10, x11, x12, x13, x14, x15, x16, x17, x18, x19, x20, x21, x22, x23, x24, x25, x26, x27, x28, x29, x30, x31, x32, x33, x34, x35, x36, x37, x38, x39, x40, x41, x42, x43, x44, x45, x46, x47, x48, x49, x50, x51, x52, x53, x54, x55, x56, x57, x58, x59, x60, x61, x62, x63, x64, undef, undef, undef, x68, x69, x70, x71, x72, x73, x74, undef, undef, undef, x78, x79, x80, x81, x82, x83, x84, x85, x86, x87] : Array Value).getD i undef, h, rfl⟩
theorem AllR.rely {c Low : Nat} {w₀ : World} {dd : Deferred} {g65 g9 : Nat} {B9 : Nat → Obj → Prop} {v : Value} {l : List Nat} {t k : Nat} {own : Obj → Bool} (hk : ∀ cs fz, own (.cells cs 3 fz) = false) (hb : Bks Low (g9 + 1) own B9) {a : Act} {w w₁ : World} (h : AllR c Low w₀ dd g65 g9 B9 v l t k a w) (r : Oth c Low own false w w₁) : AllR c Low w₀ dd g65 g9 B9 v l t k a w₁ := by
  obtain ⟨u, hS, rfl⟩ := h
  exact ⟨u, hS.rely hk hb r, rfl⟩

set_option maxRecDepth 100000 in
set_option maxHeartbeats 8000000 in
theorem all_c {c Low : Nat} {own : Obj → Bool} {w₀ : World} (hcL : c < Low) (hko : ∀ e, e ≠ 27 → ∀ cs fz, own (.cells cs e fz) = false) (a b : GraphV) (ha : GraphOk c Low w₀ a) (hbb : GraphOk c Low w₀ b) (w : World) (hK : Kn c Low w₀ w) :
    SendsW Tryd.prog c Low own (allL a b) (born Tryd.prog (dcall 20 #[.chan (some c), a.val, b.val])) w := by
  have hk : ∀ cs fz, own (.cells cs 3 fz) = false := hko _ (by decide)
  obtain ⟨rn, hN⟩ : ∃ r, ∀ j, j < min a.ns.length b.ns.length → ∀ (base : Nat) (B : Nat → Obj → Prop) w, Bks Low base own B → Kb c Low base B w₀ w → CallsS Tryd.prog c Low own 35 #[.chan (some c), .int .i64 (j : Int), (a.ns.getD j nodeZ).val, (b.ns.getD j nodeZ).val] r (nodeL j (a.ns.getD j nodeZ) (b.ns.getD j nodeZ)) w fun _ w' => Kb c Low base B w₀ w' :=
    bound_all (fun j n n' hn h base B w h1 h2 => (h base B w h1 h2).more hn) fun j hj => node_c hcL hko j _ _ (ha.nodes.ok j (by omega)) (hbb.nodes.ok j (by omega))
  obtain ⟨rr, hR⟩ : ∃ r, ∀ t, t < 3 → ∀ (base : Nat) (B : Nat → Obj → Prop) w, Bks Low base own B → Kb c Low base B w₀ w → CallsC Tryd.prog false (Oth c Low own false) (DOwn c Low own false) 36 #[a.rowV t, b.rowV t] r w fun v w' => HR c Low base B w₀ v (drow (a.row t).length (b.row t).length (a.row t) (b.row t) (max (a.row t).length (b.row t).length)) w' :=
    bound_all (fun j n n' hn h base B w h1 h2 => callsC_more (h base B w h1 h2) hn) fun t ht => by
      match t, ht with
      | 0, _ => exact rowsI_c hcL hk ha.hl hbb.hl ha.hands hbb.hands
      | 1, _ => exact rowsI_c hcL hk ha.pl hbb.pl ha.pins hbb.pins
      | 2, _ => exact rowsI_c hcL hk ha.sl hbb.sl ha.stack hbb.stack
  obtain ⟨L, hL⟩ : ∃ L : Nat → List Nat, ∀ t, L t = drow (a.row t).length (b.row t).length (a.row t) (b.row t) (max (a.row t).length (b.row t).length) := ⟨_, fun _ => rfl⟩
  have hall : allL a b = (List.range (max a.ns.length b.ns.length)).flatMap (tellN a.ns b.ns) ++ (List.range 3).flatMap fun (t : Nat) => (L t).map fun k => dV (6 + (t : Int)) k 0 := by
    unfold allL rowK
    simp only [hL]
  simp only [← hL] at hR
  have hrl : ∀ t, (L t).length ≤ 4000000000 := fun t => by
    rw [hL]
    refine Nat.le_trans (drow_le ..) ?_
    have h1 := ha.hl; have h2 := ha.pl; have h3 := ha.sl; have h4 := hbb.hl; have h5 := hbb.pl; have h6 := hbb.sl
    match t with
    | 0 => simp only [GraphV.row]; omega
    | 1 => simp only [GraphV.row]; omega
    | _ + 2 => simp only [GraphV.row]; omega
  rw [hall]
  clear hall hL
  obtain ⟨VA, hVA⟩ : ∃ V : Nat → Value, ∀ t, V t = a.rowV t := ⟨_, fun _ => rfl⟩
  obtain ⟨VB, hVB⟩ : ∃ V : Nat → Value, ∀ t, V t = b.rowV t := ⟨_, fun _ => rfl⟩
  simp only [← hVA, ← hVB] at hR
  have va0 := hVA 0
  have va1 := hVA 1
  have va2 := hVA 2
  have vb0 := hVB 0
  have vb1 := hVB 1
  have vb2 := hVB 2
  clear hVA hVB
  replace hN := Hid.mk hN
  replace hR := Hid.mk hR
  replace hrl := Hid.mk hrl
  have hAn := ha.nodes
  have hBn := hbb.nodes
  obtain ⟨anv, ahv, apv, asv, ans, ahs, aps, ass⟩ := a
  obtain ⟨bnv, bhv, bpv, bsv, bns, bhs, bps, bss⟩ := b
  obtain ⟨ana, anc, hx1⟩ := hAn.form
  obtain ⟨bna, bnc, hx2⟩ := hBn.form
  obtain ⟨aha, ahl, ahc, hx3⟩ := ha.h1
  obtain ⟨apa, apl, apc, hx4⟩ := ha.p1
  obtain ⟨asa, asl, asc, hx5⟩ := ha.s1
  obtain ⟨bha, bhl, bhc, hx6⟩ := hbb.h1
  obtain ⟨bpa, bpl, bpc, hx7⟩ := hbb.p1
  obtain ⟨bsa, bsl, bsc, hx8⟩ := hbb.s1
  clear ha hbb
  dsimp only at hx1 hx2 hx3 hx4 hx5 hx6 hx7 hx8 hAn hBn hN
  have hAs := hAn.small
  have hBs := hBn.small
  replace hAn := Hid.mk hAn
  replace hBn := Hid.mk hBn
  subst hx1 hx2 hx3 hx4 hx5 hx6 hx7 hx8
  dsimp only [GraphV.rowV] at va0 va1 va2 vb0 vb1 vb2
  co_apply sendsW_child hcL Tryd.func20 (by rfl) rfl (by rfl) (by rfl)
  simp only [Tryd.ntmps20, GraphV.val, List.size_toArray, List.length_cons, List.length_nil, Nat.reduceAdd, Nat.reduceSub, Array.replicate_succ, Array.replicate_zero, List.push_toArray, List.append_toArray, List.nil_append, List.cons_append]
  have hF : Kb c Low Low (fun _ _ => False) w₀ w := ⟨hK, hK.size, fun _ _ h => h.elim⟩
  have hb : Bks Low Low own (fun _ _ => False) := ⟨Nat.le_refl _, fun _ _ h => h.elim⟩
  -- the two boxes
  co_apply wpS_stmt
  intro KK hKK
  simp only [List.size_toArray, List.length_cons, List.length_nil, Nat.reduceAdd, Nat.zero_add, List.range, List.range.loop]
  co_opw (Kb.oth hb) hF (skip) (refine ⟨oth_push hF.kn.size (hko _ (by decide) _ _), ?_, ?_⟩; exact Below.heap_alloc _ _ _ (Nat.lt_of_lt_of_le hcL hF.kn.size); co_evs (skip))
  rename_i wA
  have hS := hF.add hb (.cells #[.slice ana ans.length anc, .slice aha ahl ahc, .slice apa apl apc, .slice asa asl asc] 25)
  have hb4 := hb.add hF.size (o := (.cells #[.slice ana ans.length anc, .slice aha ahl ahc, .slice apa apl apc, .slice asa asl asc] 25)) (hko _ (by decide) _ _)
  have hg4 := hF.size
  clear hF
  generalize wA.heap.size = g4 at hS hb4 hg4 ⊢
  co_opw (Kb.oth hb4) hS (skip) (refine ⟨oth_push hS.kn.size (hko _ (by decide) _ _), ?_, ?_⟩; exact Below.heap_alloc _ _ _ (Nat.lt_of_lt_of_le hcL hS.kn.size); co_evs (skip))
  rename_i wB
  replace hF := hS.add hb4 (.cells #[.slice bna bns.length bnc, .slice bha bhl bhc, .slice bpa bpl bpc, .slice bsa bsl bsc] 25)
  have hb5 := hb4.add hS.size (o := (.cells #[.slice bna bns.length bnc, .slice bha bhl bhc, .slice bpa bpl bpc, .slice bsa bsl bsc] 25)) (hko _ (by decide) _ _)
  have hg5 := hS.size
  clear hS
  generalize wB.heap.size = g5 at hF hb5 hg5 ⊢
  have hS := hF
  clear hF hb hb4 hg4 hg5
  generalize hBB : addB (addB (fun _ _ => False) g4 (.cells #[.slice ana ans.length anc, .slice aha ahl ahc, .slice apa apl apc, .slice asa asl asc] 25)) g5 (.cells #[.slice bna bns.length bnc, .slice bha bhl bhc, .slice bpa bpl bpc, .slice bsa bsl bsc] 25) = BB at hS hb5
  have m4 : ∀ {w}, Kb c Low (g5 + 1) BB w₀ w → w.heap[g4]? = some (.cells #[.slice ana ans.length anc, .slice aha ahl ahc, .slice apa apl apc, .slice asa asl asc] 25) := fun h => h.mine g4 _ (by rw [← hBB]; exact .inl (.inr ⟨rfl, rfl⟩))
  have m5 : ∀ {w}, Kb c Low (g5 + 1) BB w₀ w → w.heap[g5]? = some (.cells #[.slice bna bns.length bnc, .slice bha bhl bhc, .slice bpa bpl bpc, .slice bsa bsl bsc] 25) := fun h => h.mine g5 _ (by rw [← hBB]; exact .inr ⟨rfl, rfl⟩)
  have l4 : Low ≤ g4 := (hb5.all g4 _ (by rw [← hBB]; exact .inl (.inr ⟨rfl, rfl⟩))).1
  have l5 : Low ≤ g5 := (hb5.all g5 _ (by rw [← hBB]; exact .inr ⟨rfl, rfl⟩)).1
  clear hBB
  co_apply opsC_nil (termsO c Low own false)
  refine hKK.out _ _ ?_
  clear hKK KK
  -- defer close(c)
  co_apply wpS_seq0
  co_apply wpS_sends
  intro KK hKK
  simp only [List.size_toArray, List.length_cons, List.length_nil, Nat.reduceAdd, Nat.zero_add, List.range, List.range.loop]
  co_apply opsS_cons_k rfl (by rfl)
  intro _ hR K hK
  replace hS := (Kb.oth hb5) hS hR
  clear hR
  skip
  go_simp
  try (unfold stored; go_simp)
  refine hK _ _ ⟨?_, ?_⟩
  · co_still (termsO c Low own false)
  clear hK K
  try walk_nrm
  co_apply opsS_defer rfl (by rfl) rfl (by rfl)
  intro cs'
  try walk_nrm
  generalize hdd : dclose c _ _ cs' = dd
  co_apply opsS_nil
  refine hKK.out _ _ ?_
  clear hKK KK
  dsimp only [thenS]
  -- how many in both, in either
  co_apply wpS_stmt
  intro KK hKK
  simp only [List.size_toArray, List.length_cons, List.length_nil, Nat.reduceAdd, Nat.zero_add, List.range, List.range.loop]
  co_opw (Kb.oth hb5) hS (skip) (co_still (termsO c Low own false))
  co_opw (Kb.oth hb5) hS (have hm := m4 hS; have hcc := cell_at hm (i := 0) rfl) ((refine ⟨Oth.refl .., rfl, ?_⟩; co_evs (exact evO_read (.inr ⟨l4, _, hm, hko _ (by decide) _ _⟩))))
  clear hm hcc
  co_opw (Kb.oth hb5) hS (skip) (co_still (termsO c Low own false))
  co_opw (Kb.oth hb5) hS (skip) (co_still (termsO c Low own false))
  co_opw (Kb.oth hb5) hS (have hm := m5 hS; have hcc := cell_at hm (i := 0) rfl) ((refine ⟨Oth.refl .., rfl, ?_⟩; co_evs (exact evO_read (.inr ⟨l5, _, hm, hko _ (by decide) _ _⟩))))
  clear hm hcc
  co_opw (Kb.oth hb5) hS (skip) (co_still (termsO c Low own false))
  co_opw (Kb.oth hb5) hS (have hmx := fun w es k (x y : Int) ty ts => events_min2 Tryd.prog w es k x y ty ts) (co_still (termsO c Low own false))
  clear hmx
  co_opw (Kb.oth hb5) hS (skip) (co_still (termsO c Low own false))
  co_apply opsC_nil (termsO c Low own false)
  refine hKK.out _ _ ?_
  clear hKK KK
  have hmin : (if bns.length < ans.length then (bns.length : Int) else (ans.length : Int)) = ((min ans.length bns.length : Nat) : Int) := by split <;> omega
  rw [hmin]
  clear hmin
  co_apply wpS_mid (vs₁ := (List.range (max ans.length bns.length)).flatMap (tellN ans bns)) (vs₂ := (List.range 3).flatMap fun (t : Nat) => (L t).map fun k => dV (6 + (t : Int)) k 0) (AllK c Low g5 BB w₀ dd g4 ans bns 0)
  · co_apply wpS_stmt
    intro KK hKK
    simp only [List.size_toArray, List.length_cons, List.length_nil, Nat.reduceAdd, Nat.zero_add, List.range, List.range.loop]
    co_opw (Kb.oth hb5) hS (skip) (co_still (termsO c Low own false))
    co_opw (Kb.oth hb5) hS (have hm := m4 hS; have hcc := cell_at hm (i := 0) rfl) ((refine ⟨Oth.refl .., rfl, ?_⟩; co_evs (exact evO_read (.inr ⟨l4, _, hm, hko _ (by decide) _ _⟩))))
    clear hm hcc
    co_opw (Kb.oth hb5) hS (skip) (co_still (termsO c Low own false))
    co_opw (Kb.oth hb5) hS (skip) (co_still (termsO c Low own false))
    co_opw (Kb.oth hb5) hS (have hm := m5 hS; have hcc := cell_at hm (i := 0) rfl) ((refine ⟨Oth.refl .., rfl, ?_⟩; co_evs (exact evO_read (.inr ⟨l5, _, hm, hko _ (by decide) _ _⟩))))
    clear hm hcc
    co_opw (Kb.oth hb5) hS (skip) (co_still (termsO c Low own false))
    co_opw (Kb.oth hb5) hS (have hmx := fun w es k (x y : Int) ty ts => events_max2 Tryd.prog w es k x y ty ts) (co_still (termsO c Low own false))
    clear hmx
    co_opw (Kb.oth hb5) hS (skip) (co_still (termsO c Low own false))
    co_apply opsC_nil (termsO c Low own false)
    refine hKK.out _ _ ?_
    clear hKK KK
    have hmax : (if ans.length < bns.length then (bns.length : Int) else (ans.length : Int)) = ((max ans.length bns.length : Nat) : Int) := by split <;> omega
    rw [hmax]
    clear hmax
    co_apply wpS_block
    co_apply wpS_loop (fun j => (AllM c Low g5 BB w₀ dd g4 ans bns j)) _ _ (max ans.length bns.length)
    · exact AllM.mk hS
    · clear hS
      rintro j a' w' hj ⟨u, hS, rfl⟩
      co_apply wpS_cases (p := j < max ans.length bns.length)
      · intro hlt
        rw [if_pos hlt]
        co_apply wpS_stmt
        intro KK hKK
        simp only [List.size_toArray, List.length_cons, List.length_nil, Nat.zero_add, List.range, List.range.loop]
        co_opw (Kb.oth hb5) hS (skip) (co_still (termsO c Low own false))
        co_apply opsC_nil (termsO c Low own false)
        refine hKK.out _ _ ?_
        clear hKK KK
        co_apply wpS_seq0
        co_apply wpS_true (by rfl)
        co_apply wpS_skip
        dsimp only [thenS]
        co_apply wpS_midL (AllM c Low g5 BB w₀ dd g4 ans bns j)
        · co_apply wpS_block
          co_apply wpS_stmt
          intro KK hKK
          simp only [List.size_toArray, List.length_cons, List.length_nil, Nat.reduceAdd, Nat.zero_add, List.range, List.range.loop]
          co_opw (Kb.oth hb5) hS (skip) (co_still (termsO c Low own false))
          co_opw (Kb.oth hb5) hS (skip) (co_still (termsO c Low own false))
          co_apply opsC_nil (termsO c Low own false)
          refine hKK.out _ _ ?_
          clear hKK KK
          co_apply wpS_cases (p := j < min ans.length bns.length)
          · intro hin
            have e : tellN ans bns j = nodeL j (ans.getD j nodeZ) (bns.getD j nodeZ) := if_pos hin
            rw [e]
            clear e
            have hin2 : ¬ min ans.length bns.length ≤ j := by omega
            co_apply wpS_seq0
            · co_apply wpS_stmt
              intro KK hKK
              simp only [List.size_toArray, List.length_cons, List.length_nil, Nat.reduceAdd, Nat.zero_add, List.range, List.range.loop]
              co_opw (Kb.oth hb5) hS (skip) (co_still (termsO c Low own false))
              co_opw (Kb.oth hb5) hS (skip) (co_still (termsO c Low own false))
              co_opw (Kb.oth hb5) hS (skip) (co_still (termsO c Low own false))
              co_apply opsC_nil (termsO c Low own false)
              refine hKK.out _ _ ?_
              clear hKK KK
              co_apply wpS_false (by rfl)
              co_apply wpS_skip
              dsimp only [thenS]
              obtain ⟨pa, fa⟩ := hAn.out.idx j (by omega)
              obtain ⟨pb, fb⟩ := hBn.out.idx j (by omega)
              have hcall := Hid.mk (hN.out j hin (g5 + 1) BB)
              generalize ans.getD j nodeZ = xn at fa hcall ⊢
              generalize bns.getD j nodeZ = yn at fb hcall ⊢
              obtain ⟨xt, xl, xw, xr, xws, xrs⟩ := xn
              obtain ⟨yt, yl, yw, yr, yws, yrs⟩ := yn
              dsimp only [NodeV.val] at fa fb hcall
              co_apply wpS_mono (Q := onN (AllM c Low g5 BB w₀ dd g4 ans bns j)) (hq := onN_to fun _ _ x => x)
              co_apply wpS_region_held (S := Kb c Low (g5 + 1) BB w₀) (by first | kernel_rfl | rfl)
              intro _ hR'
              replace hS := Kb.oth hb5 (Kb.oth hb5 hS hR') (ownDrawO c Low own false _)
              clear hR'
              simp only [List.size_toArray, List.length_cons, List.length_nil, Nat.reduceAdd, Nat.zero_add]
              co_applyP anyS_take (fun _ _ h r => (Kb.oth hb5) h r) (fun a x y h r => AllM.rely hb5 h r) (i := 0) rfl (by first | kernel_rfl | decide +kernel) (by first | kernel_rfl | decide +kernel) (by first | kernel_rfl | decide +kernel) (.inl ⟨by rfl, fun _ hw => ⟨run_eq_of ?run1, ?guar1⟩⟩) hS ?rest1
              case run1 =>
                intro K hK
                skip
                go_simp
                exact hK
              case guar1 =>
                skip
                co_still (termsO c Low own false)
              try walk_nrm
              co_applyP anyS_take (fun _ _ h r => (Kb.oth hb5) h r) (fun a x y h r => AllM.rely hb5 h r) (i := 1) rfl (by first | kernel_rfl | decide +kernel) (by first | kernel_rfl | decide +kernel) (by first | kernel_rfl | decide +kernel) (.inl ⟨by rfl, fun _ hw => ⟨run_eq_of ?run2, ?guar2⟩⟩) hS ?rest2
              case run2 =>
                intro K hK
                skip
                go_simp
                exact hK
              case guar2 =>
                skip
                co_still (termsO c Low own false)
              try walk_nrm
              co_applyP anyS_take (fun _ _ h r => (Kb.oth hb5) h r) (fun a x y h r => AllM.rely hb5 h r) (i := 2) rfl (by first | kernel_rfl | decide +kernel) (by first | kernel_rfl | decide +kernel) (by first | kernel_rfl | decide +kernel) (.inl ⟨by rfl, fun _ hw => ⟨run_eq_of ?run3, ?guar3⟩⟩) hS ?rest3
              case run3 =>
                intro K hK
                skip
                go_simp
                exact hK
              case guar3 =>
                skip
                co_still (termsO c Low own false)
              try walk_nrm
              co_applyP anyS_take (fun _ _ h r => (Kb.oth hb5) h r) (fun a x y h r => AllM.rely hb5 h r) (i := 3) rfl (by first | kernel_rfl | decide +kernel) (by first | kernel_rfl | decide +kernel) (by first | kernel_rfl | decide +kernel) (.inl ⟨by rfl, fun _ hw => ⟨run_eq_of ?run4, ?guar4⟩⟩) hS ?rest4
              case run4 =>
                intro K hK
                (have hm := m4 hw; have hcc := cell_at hm (i := 0) rfl)
                go_simp
                exact hK
              case guar4 =>
                (have hm := m4 hw; have hcc := cell_at hm (i := 0) rfl)
                (refine ⟨Oth.refl .., rfl, ?_⟩; co_evs (exact evO_read (.inr ⟨l4, _, hm, hko _ (by decide) _ _⟩)))
              try walk_nrm
              co_applyP anyS_take (fun _ _ h r => (Kb.oth hb5) h r) (fun a x y h r => AllM.rely hb5 h r) (i := 4) rfl (by first | kernel_rfl | decide +kernel) (by first | kernel_rfl | decide +kernel) (by first | kernel_rfl | decide +kernel) (.inl ⟨by rfl, fun _ hw => ⟨run_eq_of ?run5, ?guar5⟩⟩) hS ?rest5
              case run5 =>
                intro K hK
                skip
                go_simp
                exact hK
              case guar5 =>
                skip
                co_still (termsO c Low own false)
              try walk_nrm
              co_applyP anyS_take (fun _ _ h r => (Kb.oth hb5) h r) (fun a x y h r => AllM.rely hb5 h r) (i := 5) rfl (by first | kernel_rfl | decide +kernel) (by first | kernel_rfl | decide +kernel) (by first | kernel_rfl | decide +kernel) (.inl ⟨by rfl, fun _ hw => ⟨run_eq_of ?run6, ?guar6⟩⟩) hS ?rest6
              case run6 =>
                intro K hK
                (have hx := fa.1; have hxe := fa.2.1)
                go_simp
                exact hK
              case guar6 =>
                (have hx := fa.1; have hxe := fa.2.1)
                co_still (termsO c Low own false)
              try walk_nrm
              co_applyP anyS_take (fun _ _ h r => (Kb.oth hb5) h r) (fun a x y h r => AllM.rely hb5 h r) (i := 6) rfl (by first | kernel_rfl | decide +kernel) (by first | kernel_rfl | decide +kernel) (by first | kernel_rfl | decide +kernel) (.inl ⟨by rfl, fun _ hw => ⟨run_eq_of ?run7, ?guar7⟩⟩) hS ?rest7
              case run7 =>
                intro K hK
                (have hc0 := hw.kn.cell fa.2.2.1 fa.2.2.2.1 fa.2.2.2.2.1; have hc1 := hw.kn.cell (a := ⟨pa.block, pa.off + 1, none⟩) fa.2.2.1 fa.2.2.2.1 fa.2.2.2.2.2.1; have hc2 := hw.kn.cell (a := ⟨pa.block, pa.off + 2, none⟩) fa.2.2.1 fa.2.2.2.1 fa.2.2.2.2.2.2.1; have hc3 := hw.kn.cell (a := ⟨pa.block, pa.off + 3, none⟩) fa.2.2.1 fa.2.2.2.1 fa.2.2.2.2.2.2.2)
                go_simp
                exact hK
              case guar7 =>
                (have hc0 := hw.kn.cell fa.2.2.1 fa.2.2.2.1 fa.2.2.2.2.1; have hc1 := hw.kn.cell (a := ⟨pa.block, pa.off + 1, none⟩) fa.2.2.1 fa.2.2.2.1 fa.2.2.2.2.2.1; have hc2 := hw.kn.cell (a := ⟨pa.block, pa.off + 2, none⟩) fa.2.2.1 fa.2.2.2.1 fa.2.2.2.2.2.2.1; have hc3 := hw.kn.cell (a := ⟨pa.block, pa.off + 3, none⟩) fa.2.2.1 fa.2.2.2.1 fa.2.2.2.2.2.2.2)
                (refine ⟨Oth.refl .., rfl, fun e he => ?_⟩; have hm := mem_listed he; simp [go_sem, *] at hm; rcases hm with rfl | rfl | rfl | rfl <;> exact evO_read (.inl fa.2.2.1))
              try walk_nrm
              co_applyP anyS_take (fun _ _ h r => (Kb.oth hb5) h r) (fun a x y h r => AllM.rely hb5 h r) (i := 7) rfl (by first | kernel_rfl | decide +kernel) (by first | kernel_rfl | decide +kernel) (by first | kernel_rfl | decide +kernel) (.inl ⟨by rfl, fun _ hw => ⟨run_eq_of ?run8, ?guar8⟩⟩) hS ?rest8
              case run8 =>
                intro K hK
                skip
                go_simp
                exact hK
              case guar8 =>
                skip
                co_still (termsO c Low own false)
              try walk_nrm
              co_applyP anyS_take (fun _ _ h r => (Kb.oth hb5) h r) (fun a x y h r => AllM.rely hb5 h r) (i := 8) rfl (by first | kernel_rfl | decide +kernel) (by first | kernel_rfl | decide +kernel) (by first | kernel_rfl | decide +kernel) (.inl ⟨by rfl, fun _ hw => ⟨run_eq_of ?run9, ?guar9⟩⟩) hS ?rest9
              case run9 =>
                intro K hK
                (have hm := m5 hw; have hcc := cell_at hm (i := 0) rfl)
                go_simp
                exact hK
              case guar9 =>
                (have hm := m5 hw; have hcc := cell_at hm (i := 0) rfl)
                (refine ⟨Oth.refl .., rfl, ?_⟩; co_evs (exact evO_read (.inr ⟨l5, _, hm, hko _ (by decide) _ _⟩)))
              try walk_nrm
              co_applyP anyS_take (fun _ _ h r => (Kb.oth hb5) h r) (fun a x y h r => AllM.rely hb5 h r) (i := 9) rfl (by first | kernel_rfl | decide +kernel) (by first | kernel_rfl | decide +kernel) (by first | kernel_rfl | decide +kernel) (.inl ⟨by rfl, fun _ hw => ⟨run_eq_of ?run10, ?guar10⟩⟩) hS ?rest10
              case run10 =>
                intro K hK
                skip
                go_simp
                exact hK
              case guar10 =>
                skip
                co_still (termsO c Low own false)
              try walk_nrm
              co_applyP anyS_take (fun _ _ h r => (Kb.oth hb5) h r) (fun a x y h r => AllM.rely hb5 h r) (i := 10) rfl (by first | kernel_rfl | decide +kernel) (by first | kernel_rfl | decide +kernel) (by first | kernel_rfl | decide +kernel) (.inl ⟨by rfl, fun _ hw => ⟨run_eq_of ?run11, ?guar11⟩⟩) hS ?rest11
              case run11 =>
                intro K hK
                (have hx := fb.1; have hxe := fb.2.1)
                go_simp
                exact hK
              case guar11 =>
                (have hx := fb.1; have hxe := fb.2.1)
                co_still (termsO c Low own false)
              try walk_nrm
              co_applyP anyS_take (fun _ _ h r => (Kb.oth hb5) h r) (fun a x y h r => AllM.rely hb5 h r) (i := 11) rfl (by first | kernel_rfl | decide +kernel) (by first | kernel_rfl | decide +kernel) (by first | kernel_rfl | decide +kernel) (.inl ⟨by rfl, fun _ hw => ⟨run_eq_of ?run12, ?guar12⟩⟩) hS ?rest12
              case run12 =>
                intro K hK
                (have hc0 := hw.kn.cell fb.2.2.1 fb.2.2.2.1 fb.2.2.2.2.1; have hc1 := hw.kn.cell (a := ⟨pb.block, pb.off + 1, none⟩) fb.2.2.1 fb.2.2.2.1 fb.2.2.2.2.2.1; have hc2 := hw.kn.cell (a := ⟨pb.block, pb.off + 2, none⟩) fb.2.2.1 fb.2.2.2.1 fb.2.2.2.2.2.2.1; have hc3 := hw.kn.cell (a := ⟨pb.block, pb.off + 3, none⟩) fb.2.2.1 fb.2.2.2.1 fb.2.2.2.2.2.2.2)
                go_simp
                exact hK
              case guar12 =>
                (have hc0 := hw.kn.cell fb.2.2.1 fb.2.2.2.1 fb.2.2.2.2.1; have hc1 := hw.kn.cell (a := ⟨pb.block, pb.off + 1, none⟩) fb.2.2.1 fb.2.2.2.1 fb.2.2.2.2.2.1; have hc2 := hw.kn.cell (a := ⟨pb.block, pb.off + 2, none⟩) fb.2.2.1 fb.2.2.2.1 fb.2.2.2.2.2.2.1; have hc3 := hw.kn.cell (a := ⟨pb.block, pb.off + 3, none⟩) fb.2.2.1 fb.2.2.2.1 fb.2.2.2.2.2.2.2)
                (refine ⟨Oth.refl .., rfl, fun e he => ?_⟩; have hm := mem_listed he; simp [go_sem, *] at hm; rcases hm with rfl | rfl | rfl | rfl <;> exact evO_read (.inl fb.2.2.1))
              try walk_nrm
              co_apply anyS_last (i := 12) (by first | kernel_rfl | decide +kernel) (by first | kernel_rfl | decide +kernel) rfl (by rfl) rfl (by simp [Act.eval]) (hcall.out _ hb5 hS)
              intro v w' hS
              exact ⟨hS, AllM.mk hS⟩
          · intro hin
            have e : tellN ans bns j = [dV 5 j 0] := if_neg hin
            rw [e]
            clear e
            have hin2 : min ans.length bns.length ≤ j := by omega
            co_apply wpS_seq_out
            co_apply wpS_stmt
            intro KK hKK
            simp only [List.size_toArray, List.length_cons, List.length_nil, Nat.reduceAdd, Nat.zero_add, List.range, List.range.loop]
            co_opw (Kb.oth hb5) hS (skip) (co_still (termsO c Low own false))
            co_opw (Kb.oth hb5) hS (skip) (co_still (termsO c Low own false))
            co_opw (Kb.oth hb5) hS (skip) (co_still (termsO c Low own false))
            co_apply opsC_nil (termsO c Low own false)
            refine hKK.out _ _ ?_
            clear hKK KK
            co_apply wpS_true (by rfl)
            co_apply wpS_seqL
            co_apply wpS_sends
            intro KK hKK
            simp only [List.size_toArray, List.length_cons, List.length_nil, Nat.reduceAdd, Nat.zero_add, List.range, List.range.loop]
            co_apply opsS_cons_k rfl (by rfl)
            intro _ hR K hK
            replace hS := (Kb.oth hb5) hS hR
            clear hR
            skip
            go_simp
            try (unfold stored; go_simp)
            refine hK _ _ ⟨?_, ?_⟩
            · co_still (termsO c Low own false)
            clear hK K
            try walk_nrm
            co_apply opsS_cons_k rfl (by rfl)
            intro _ hR K hK
            replace hS := (Kb.oth hb5) hS hR
            clear hR
            skip
            go_simp
            try (unfold stored; go_simp)
            refine hK _ _ ⟨?_, ?_⟩
            · co_still (termsO c Low own false)
            clear hK K
            try walk_nrm
            co_apply opsS_cons_k rfl (by rfl)
            intro _ hR K hK
            replace hS := (Kb.oth hb5) hS hR
            clear hR
            skip
            go_simp
            try (unfold stored; go_simp)
            refine hK _ _ ⟨?_, ?_⟩
            · co_still (termsO c Low own false)
            clear hK K
            try walk_nrm
            co_apply opsS_send rfl (by rfl) rfl (by rfl) (by rfl)
            co_apply opsS_nil
            refine hKK.out _ _ ?_
            clear hKK KK
            dsimp only [thenS]
            co_apply wpS_exit
            refine ⟨by simp, ?_⟩
            exact AllM.mk hS
        · rintro a' w'' ⟨u, hS, rfl⟩
          co_apply wpS_last
          intro KK hKK
          simp only [List.size_toArray, List.length_cons, List.length_nil, Nat.reduceAdd, Nat.zero_add, List.range, List.range.loop]
          co_opw (Kb.oth hb5) hS (skip) (co_still (termsO c Low own false))
          co_opw (Kb.oth hb5) hS (skip) (co_still (termsO c Low own false))
          co_apply opsC_nil (termsO c Low own false)
          refine hKK.out _ _ ?_
          clear hKK KK
          have e : IntKind.i64.wrap ((j : Int) + 1) = ((j + 1 : Nat) : Int) := by rw [IntKind.wrap_i64]; omega
          rw [e]
          exact ⟨hlt, AllM.mk hS⟩
      · intro hlt
        rw [if_neg hlt]
        co_apply wpS_stmt
        intro KK hKK
        simp only [List.size_toArray, List.length_cons, List.length_nil, Nat.zero_add, List.range, List.range.loop]
        co_opw (Kb.oth hb5) hS (skip) (co_still (termsO c Low own false))
        co_apply opsC_nil (termsO c Low own false)
        refine hKK.out _ _ ?_
        clear hKK KK
        co_apply wpS_seq_out
        co_apply wpS_false (by rfl)
        co_apply wpS_exit
        refine ⟨by simp, by omega, ?_⟩
        exact AllK.mk (ans := ans) (bns := bns) (j := 0) hS
  · rintro a' w'' ⟨u, hS, rfl⟩
    co_apply wpS_stmt
    intro KK hKK
    simp only [List.size_toArray, List.length_cons, List.length_nil, Nat.reduceAdd, Nat.zero_add, List.range, List.range.loop]
    co_opw (Kb.oth hb5) hS (skip) (co_still (termsO c Low own false))
    co_opw (Kb.oth hb5) hS (have hm := m4 hS; have hcc := cell_at hm (i := 1) rfl) ((refine ⟨Oth.refl .., rfl, ?_⟩; co_evs (exact evO_read (.inr ⟨l4, _, hm, hko _ (by decide) _ _⟩))))
    clear hm hcc
    co_opw (Kb.oth hb5) hS (skip) (co_still (termsO c Low own false))
    co_opw (Kb.oth hb5) hS (have hm := m5 hS; have hcc := cell_at hm (i := 1) rfl) ((refine ⟨Oth.refl .., rfl, ?_⟩; co_evs (exact evO_read (.inr ⟨l5, _, hm, hko _ (by decide) _ _⟩))))
    clear hm hcc
    co_opw (Kb.oth hb5) hS (skip) (co_still (termsO c Low own false))
    co_opw (Kb.oth hb5) hS (skip) (co_still (termsO c Low own false))
    co_opw (Kb.oth hb5) hS (have hm := m4 hS; have hcc := cell_at hm (i := 2) rfl) ((refine ⟨Oth.refl .., rfl, ?_⟩; co_evs (exact evO_read (.inr ⟨l4, _, hm, hko _ (by decide) _ _⟩))))
    clear hm hcc
    co_opw (Kb.oth hb5) hS (skip) (co_still (termsO c Low own false))
    co_opw (Kb.oth hb5) hS (have hm := m5 hS; have hcc := cell_at hm (i := 2) rfl) ((refine ⟨Oth.refl .., rfl, ?_⟩; co_evs (exact evO_read (.inr ⟨l5, _, hm, hko _ (by decide) _ _⟩))))
    clear hm hcc
    co_opw (Kb.oth hb5) hS (skip) (co_still (termsO c Low own false))
    co_opw (Kb.oth hb5) hS (skip) (co_still (termsO c Low own false))
    co_opw (Kb.oth hb5) hS (have hm := m4 hS; have hcc := cell_at hm (i := 3) rfl) ((refine ⟨Oth.refl .., rfl, ?_⟩; co_evs (exact evO_read (.inr ⟨l4, _, hm, hko _ (by decide) _ _⟩))))
    clear hm hcc
    co_opw (Kb.oth hb5) hS (skip) (co_still (termsO c Low own false))
    co_opw (Kb.oth hb5) hS (have hm := m5 hS; have hcc := cell_at hm (i := 3) rfl) ((refine ⟨Oth.refl .., rfl, ?_⟩; co_evs (exact evO_read (.inr ⟨l5, _, hm, hko _ (by decide) _ _⟩))))
    clear hm hcc
    co_opw (Kb.oth hb5) hS (skip) (co_still (termsO c Low own false))
    co_opw (Kb.oth hb5) hS (skip) (refine ⟨oth_push hS.kn.size (hko _ (by decide) _ _), ?_, ?_⟩; exact Below.heap_alloc _ _ _ (Nat.lt_of_lt_of_le hcL hS.kn.size); co_evs (skip))
    rename_i wC
    have hT := hS.add hb5 (.cells #[.int .u8 6, .slice aha ahl ahc, .slice bha bhl bhc, .int .u8 7, .slice apa apl apc, .slice bpa bpl bpc, .int .u8 8, .slice asa asl asc, .slice bsa bsl bsc] 66)
    have hb65 := hb5.add hS.size (o := (.cells #[.int .u8 6, .slice aha ahl ahc, .slice bha bhl bhc, .int .u8 7, .slice apa apl apc, .slice bpa bpl bpc, .int .u8 8, .slice asa asl asc, .slice bsa bsl bsc] 66)) (hko _ (by decide) _ _)
    clear hS
    generalize wC.heap.size = g65 at hT hb65 ⊢
    generalize hB65 : addB BB g65 (.cells #[.int .u8 6, .slice aha ahl ahc, .slice bha bhl bhc, .int .u8 7, .slice apa apl apc, .slice bpa bpl bpc, .int .u8 8, .slice asa asl asc, .slice bsa bsl bsc] 66) = B65 at hT hb65
    have m65 : ∀ {w}, Kb c Low (g65 + 1) B65 w₀ w → w.heap[g65]? = some (.cells #[.int .u8 6, .slice aha ahl ahc, .slice bha bhl bhc, .int .u8 7, .slice apa apl apc, .slice bpa bpl bpc, .int .u8 8, .slice asa asl asc, .slice bsa bsl bsc] 66) := fun h => h.mine g65 _ (by rw [← hB65]; exact .inr ⟨rfl, rfl⟩)
    have l65 : Low ≤ g65 := (hb65.all g65 _ (by rw [← hB65]; exact .inr ⟨rfl, rfl⟩)).1
    clear hB65
    co_opw (Kb.oth hb65) hT (skip) (co_still (termsO c Low own false))
    co_opw (Kb.oth hb65) hT (skip) (co_still (termsO c Low own false))
    co_apply opsC_nil (termsO c Low own false)
    refine hKK.out _ _ ?_
    clear hKK KK
    co_apply wpS_block
    co_apply wpS_loop (fun t => (AllT c Low w₀ dd g65 B65 t)) _ _ 3
    · exact AllT.mk hT
    · clear hT
      rintro t a' w₃ ht ⟨u, hS, rfl⟩
      co_apply wpS_cases (p := t < 3)
      · intro hlt
        rw [if_pos hlt]
        have hd : (t : Int) < 3 := by omega
        co_apply wpS_stmt
        intro KK hKK
        simp only [List.size_toArray, List.length_cons, List.length_nil, Nat.zero_add, List.range, List.range.loop]
        co_opw (Kb.oth hb65) hS (skip) (co_still (termsO c Low own false))
        co_apply opsC_nil (termsO c Low own false)
        refine hKK.out _ _ ?_
        clear hKK KK
        co_apply wpS_seq0
        co_apply wpS_true (by rfl)
        co_apply wpS_skip
        dsimp only [thenS]
        co_apply wpS_midL (AllT c Low w₀ dd g65 B65 t)
        · co_apply wpS_block
          have hc3 : ∀ {w}, Kb c Low (g65 + 1) B65 w₀ w → w.cell? ⟨g65, t * 3, none⟩ = some (.int .u8 (6 + (t : Int))) ∧ w.cell? ⟨g65, t * 3 + 1, none⟩ = some (VA t) ∧ w.cell? ⟨g65, t * 3 + 2, none⟩ = some (VB t) := fun h => by
            have hm := m65 h
            match t, hlt with
            | 0, _ => exact ⟨cell_at hm rfl, by rw [va0]; exact cell_at hm rfl, by rw [vb0]; exact cell_at hm rfl⟩
            | 1, _ => exact ⟨cell_at hm rfl, by rw [va1]; exact cell_at hm rfl, by rw [vb1]; exact cell_at hm rfl⟩
            | 2, _ => exact ⟨cell_at hm rfl, by rw [va2]; exact cell_at hm rfl, by rw [vb2]; exact cell_at hm rfl⟩
          have hcall := Hid.mk (hR.out t hlt)
          have hll := hrl.out t
          have hcV : ∃ a l cp, VA t = .slice a l cp := by
            match t, hlt with
            | 0, _ => exact ⟨_, _, _, va0⟩
            | 1, _ => exact ⟨_, _, _, va1⟩
            | 2, _ => exact ⟨_, _, _, va2⟩
          have hcW : ∃ a l cp, VB t = .slice a l cp := by
            match t, hlt with
            | 0, _ => exact ⟨_, _, _, vb0⟩
            | 1, _ => exact ⟨_, _, _, vb1⟩
            | 2, _ => exact ⟨_, _, _, vb2⟩
          generalize hLt : L t = l at hcall hll ⊢
          generalize VA t = va at hc3 hcall hcV ⊢
          generalize VB t = vb at hc3 hcall hcW ⊢
          obtain ⟨va', vl', vc', rfl⟩ := hcV
          obtain ⟨vb', vbl', vbc', rfl⟩ := hcW
          co_apply wpS_stmt
          intro KK hKK
          simp only [List.size_toArray, List.length_cons, List.length_nil, Nat.reduceAdd, Nat.zero_add, List.range, List.range.loop]
          co_opw (Kb.oth hb65) hS (skip) (co_still (termsO c Low own false))
          co_opw (Kb.oth hb65) hS (have hm := m65 hS; have hc0 := (hc3 hS).1; have hc1 := (hc3 hS).2.1; have hc2 := (hc3 hS).2.2) ((refine ⟨Oth.refl .., rfl, fun e he => ?_⟩; have hm2 := mem_listed he; simp [go_sem, *] at hm2; rcases hm2 with rfl | rfl | rfl <;> exact evO_read (.inr ⟨l65, _, hm, hko _ (by decide) _ _⟩)))
          clear hm hc0 hc1 hc2
          co_opw (Kb.oth hb65) hS (skip) (refine ⟨oth_push hS.kn.size (hko _ (by decide) _ _), ?_, ?_⟩; exact Below.heap_alloc _ _ _ (Nat.lt_of_lt_of_le hcL hS.kn.size); co_evs (skip))
          rename_i wD
          have hU := hS.add hb65 (.cells #[.int .u8 0, .slice none 0 0, .slice none 0 0] 66)
          have hb9z := hb65.add hS.size (o := (.cells #[.int .u8 0, .slice none 0 0, .slice none 0 0] 66)) (hko _ (by decide) _ _)
          have hg9 := hS.size
          clear hS
          generalize wD.heap.size = g9 at hU hb9z hg9 ⊢
          have hb9 := hb65.add hg9 (o := (.cells #[.int .u8 (6 + (t : Int)), .slice va' vl' vc', .slice vb' vbl' vbc'] 66)) (hko _ (by decide) _ _)
          have l9 : Low ≤ g9 := (hb9.all g9 _ (.inr ⟨rfl, rfl⟩)).1
          co_apply opsC_cons_k rfl (by rfl)
          intro w₅ hR' K hK'
          replace hU := Kb.oth hb9z hU hR'
          clear hR'
          have hm := hU.mine g9 _ (.inr ⟨rfl, rfl⟩)
          have hc0 := cell_at hm (i := 0) rfl
          have hc1 := cell_at hm (i := 1) rfl
          have hc2 := cell_at hm (i := 2) rfl
          have hz0 := frozen_at (i := 0) hm
          have hz1 := frozen_at (i := 1) hm
          have hz2 := frozen_at (i := 2) hm
          go_simp
          try (unfold stored; go_simp)
          have hs3 := set3 (v0 := .int .u8 (6 + (t : Int))) (v1 := .slice va' vl' vc') (v2 := .slice vb' vbl' vbc') hm
          have ho3 : ∀ k, k ≠ g9 → (((w₅.setCell ⟨g9, 0, none⟩ (.int .u8 (6 + (t : Int)))).setCell ⟨g9, 1, none⟩ (.slice va' vl' vc')).setCell ⟨g9, 2, none⟩ (.slice vb' vbl' vbc')).heap[k]? = w₅.heap[k]? := fun k hk => set3_other hk
          have hsz : (((w₅.setCell ⟨g9, 0, none⟩ (.int .u8 (6 + (t : Int)))).setCell ⟨g9, 1, none⟩ (.slice va' vl' vc')).setCell ⟨g9, 2, none⟩ (.slice vb' vbl' vbc')).heap.size = w₅.heap.size := by simp [World.setCell]
          have hV := hU.turn hb65 hg9 ho3 hsz hs3
          refine hK' _ _ ⟨⟨oth_set l9 hs3 (hko _ (by decide) _ _) (fun x hx => by rw [hm] at hx; cases hx; exact hko _ (by decide) _ _) hsz ho3 rfl rfl rfl, ho3 c (by omega), fun ev hev => ?_⟩, ?_⟩
          · have hm2 := mem_listed hev
            simp [go_sem, events_store_slice, *] at hm2
            rcases hm2 with rfl | rfl | rfl <;> exact evO_own l9 hs3 (hko _ (by decide) _ _)
          clear hK' K hm hc0 hc1 hc2 hz0 hz1 hz2 hU hs3 ho3 hsz hb9z
          generalize (((w₅.setCell ⟨g9, 0, none⟩ (.int .u8 (6 + (t : Int)))).setCell ⟨g9, 1, none⟩ (.slice va' vl' vc')).setCell ⟨g9, 2, none⟩ (.slice vb' vbl' vbc')) = w₆ at hV ⊢
          try walk_nrm
          generalize hB9 : addB B65 g9 (.cells #[.int .u8 (6 + (t : Int)), .slice va' vl' vc', .slice vb' vbl' vbc'] 66) = B9 at hV hb9
          have m9 : ∀ {w}, Kb c Low (g9 + 1) B9 w₀ w → w.heap[g9]? = some (.cells #[.int .u8 (6 + (t : Int)), .slice va' vl' vc', .slice vb' vbl' vbc'] 66) := fun h => h.mine g9 _ (by rw [← hB9]; exact .inr ⟨rfl, rfl⟩)
          have hwk : ∀ {w}, Kb c Low (g9 + 1) B9 w₀ w → Kb c Low (g65 + 1) B65 w₀ w := fun h => by
            rw [← hB9] at h
            exact h.weak hg9
          clear hB9
          co_apply opsC_nil (termsO c Low own false)
          refine hKK.out _ _ ?_
          clear hKK KK
          -- the row, then each of its places
          co_apply wpS_seq0
          co_apply wpS_sends
          intro KK hKK
          simp only [List.size_toArray, List.length_cons, List.length_nil, Nat.reduceAdd, Nat.zero_add, List.range, List.range.loop]
          co_apply opsS_cons_k rfl (by rfl)
          intro _ hR K hK
          replace hV := (Kb.oth hb9) hV hR
          clear hR
          skip
          go_simp
          try (unfold stored; go_simp)
          refine hK _ _ ⟨?_, ?_⟩
          · co_still (termsO c Low own false)
          clear hK K
          try walk_nrm
          co_apply opsS_cons_k rfl (by rfl)
          intro _ hR K hK
          replace hV := (Kb.oth hb9) hV hR
          clear hR
          have hm := m9 hV; have hcc := cell_at hm (i := 1) rfl
          go_simp
          try (unfold stored; go_simp)
          refine hK _ _ ⟨?_, ?_⟩
          · (refine ⟨Oth.refl .., rfl, ?_⟩; co_evs (exact evO_read (.inr ⟨l9, _, hm, hko _ (by decide) _ _⟩)))
          clear hK K
          try walk_nrm
          clear hm hcc
          co_apply opsS_cons_k rfl (by rfl)
          intro _ hR K hK
          replace hV := (Kb.oth hb9) hV hR
          clear hR
          skip
          go_simp
          try (unfold stored; go_simp)
          refine hK _ _ ⟨?_, ?_⟩
          · co_still (termsO c Low own false)
          clear hK K
          try walk_nrm
          co_apply opsS_cons_k rfl (by rfl)
          intro _ hR K hK
          replace hV := (Kb.oth hb9) hV hR
          clear hR
          have hm := m9 hV; have hcc := cell_at hm (i := 2) rfl
          go_simp
          try (unfold stored; go_simp)
          refine hK _ _ ⟨?_, ?_⟩
          · (refine ⟨Oth.refl .., rfl, ?_⟩; co_evs (exact evO_read (.inr ⟨l9, _, hm, hko _ (by decide) _ _⟩)))
          clear hK K
          try walk_nrm
          clear hm hcc
          co_apply opsS_callC rfl (by rfl) rfl (by simp [Act.eval]) (hcall.out (g9 + 1) B9 _ hb9 hV)
          clear hV
          intro v w₇ hH
          try walk_nrm
          have hlen : ∀ ty w, (Builtin.len_ #[23] ty #[v]).run Tryd.prog w = .ok (.int .i64 ((l.length : Nat) : Int)) w := by
            obtain ⟨a, cp, rfl⟩ := hH.shape
            intro ty w
            simp [go_sem]
          have hlenE : ∀ ty w es, (Builtin.len_ #[23] ty #[v]).events Tryd.prog w es = es := by
            obtain ⟨a, cp, rfl⟩ := hH.shape
            intro ty w es
            simp [go_sem]
          co_apply opsS_cons_k rfl (by rfl)
          intro _ hR K hK
          replace hH := (HR.rely hk hb9) hH hR
          clear hR
          skip
          go_simp
          try (unfold stored; go_simp)
          refine hK _ _ ⟨?_, ?_⟩
          · co_still (termsO c Low own false)
          clear hK K
          try walk_nrm
          co_apply opsS_cons_k rfl (by rfl)
          intro _ hR K hK
          replace hH := (HR.rely hk hb9) hH hR
          clear hR
          skip
          go_simp
          try (unfold stored; go_simp)
          refine hK _ _ ⟨?_, ?_⟩
          · co_still (termsO c Low own false)
          clear hK K
          try walk_nrm
          clear hlen hlenE
          co_apply opsS_nil
          refine hKK.out _ _ ?_
          clear hKK KK
          dsimp only [thenS]
          co_apply wpS_block
          rw [← flat_one l (fun k => dV (6 + (t : Int)) k 0)]
          co_apply wpS_loopN (fun k => (AllR c Low w₀ dd g65 g9 B9 v l t k)) _ _ l.length 4000000000 hll
          · exact AllR.mk hH
          · clear hH
            rintro k a' w₈ hkl ⟨u, hS, rfl⟩
            co_apply wpS_cases (p := k < l.length)
            · intro hlt3
              rw [if_pos hlt3]
              obtain ⟨ad, hx, hxe, hc⟩ := hS.idx hk hb9 hlt3
              generalize l.getD k 0 = x at hc ⊢
              have hd3 : (k : Int) < ((l.length : Nat) : Int) := by omega
              co_apply wpS_stmt
              intro KK hKK
              simp only [List.size_toArray, List.length_cons, List.length_nil, Nat.zero_add, List.range, List.range.loop]
              co_opw (HR.rely hk hb9) hS (skip) (co_still (termsO c Low own false))
              co_apply opsC_nil (termsO c Low own false)
              refine hKK.out _ _ ?_
              clear hKK KK
              co_apply wpS_seq0
              co_apply wpS_true (by rfl)
              co_apply wpS_skip
              dsimp only [thenS]
              co_apply wpS_seqL
              co_apply wpS_block
              co_apply wpS_stmt
              intro KK hKK
              simp only [List.size_toArray, List.length_cons, List.length_nil, Nat.reduceAdd, Nat.zero_add, List.range, List.range.loop]
              co_opw (HR.rely hk hb9) hS (skip) (co_still (termsO c Low own false))
              co_opw (HR.rely hk hb9) hS (have hcc := (hc _ hS).1) ((refine ⟨Oth.refl .., rfl, ?_⟩; co_evs (exact evO_read (.inr (hc _ hS).2))))
              co_opw (HR.rely hk hb9) hS (skip) (co_still (termsO c Low own false))
              co_apply opsC_nil (termsO c Low own false)
              refine hKK.out _ _ ?_
              clear hKK KK
              co_apply wpS_sends
              intro KK hKK
              simp only [List.size_toArray, List.length_cons, List.length_nil, Nat.reduceAdd, Nat.zero_add, List.range, List.range.loop]
              co_apply opsS_cons_k rfl (by rfl)
              intro _ hR K hK
              replace hS := (HR.rely hk hb9) hS hR
              clear hR
              skip
              go_simp
              try (unfold stored; go_simp)
              refine hK _ _ ⟨?_, ?_⟩
              · co_still (termsO c Low own false)
              clear hK K
              try walk_nrm
              co_apply opsS_cons_k rfl (by rfl)
              intro _ hR K hK
              replace hS := (HR.rely hk hb9) hS hR
              clear hR
              skip
              go_simp
              try (unfold stored; go_simp)
              refine hK _ _ ⟨?_, ?_⟩
              · co_still (termsO c Low own false)
              clear hK K
              try walk_nrm
              co_apply opsS_cons_k rfl (by rfl)
              intro _ hR K hK
              replace hS := (HR.rely hk hb9) hS hR
              clear hR
              have hm := m9 hS.kn; have hcc := cell_at hm (i := 0) rfl
              go_simp
              try (unfold stored; go_simp)
              refine hK _ _ ⟨?_, ?_⟩
              · (refine ⟨Oth.refl .., rfl, ?_⟩; co_evs (exact evO_read (.inr ⟨l9, _, hm, hko _ (by decide) _ _⟩)))
              clear hK K
              try walk_nrm
              clear hm hcc
              co_apply opsS_cons_k rfl (by rfl)
              intro _ hR K hK
              replace hS := (HR.rely hk hb9) hS hR
              clear hR
              skip
              go_simp
              try (unfold stored; go_simp)
              refine hK _ _ ⟨?_, ?_⟩
              · co_still (termsO c Low own false)
              clear hK K
              try walk_nrm
              co_apply opsS_cons_k rfl (by rfl)
              intro _ hR K hK
              replace hS := (HR.rely hk hb9) hS hR
              clear hR
              skip
              go_simp
              try (unfold stored; go_simp)
              refine hK _ _ ⟨?_, ?_⟩
              · co_still (termsO c Low own false)
              clear hK K
              try walk_nrm
              co_apply opsS_send rfl (by rfl) rfl (by rfl) (by rfl)
              co_apply opsS_nil
              refine hKK.out _ _ ?_
              clear hKK KK
              dsimp only [thenS, Exit.inBlock]
              co_apply wpS_last
              intro KK hKK
              simp only [List.size_toArray, List.length_cons, List.length_nil, Nat.reduceAdd, Nat.zero_add, List.range, List.range.loop]
              co_opw (HR.rely hk hb9) hS (skip) (co_still (termsO c Low own false))
              co_opw (HR.rely hk hb9) hS (skip) (co_still (termsO c Low own false))
              co_apply opsC_nil (termsO c Low own false)
              refine hKK.out _ _ ?_
              clear hKK KK
              have e : IntKind.i64.wrap ((k : Int) + 1) = ((k + 1 : Nat) : Int) := by rw [IntKind.wrap_i64]; omega
              rw [e]
              exact ⟨hlt3, AllR.mk hS⟩
            · intro hlt3
              rw [if_neg hlt3]
              have hd3 : ¬ (k : Int) < ((l.length : Nat) : Int) := by omega
              co_apply wpS_stmt
              intro KK hKK
              simp only [List.size_toArray, List.length_cons, List.length_nil, Nat.zero_add, List.range, List.range.loop]
              co_opw (HR.rely hk hb9) hS (skip) (co_still (termsO c Low own false))
              co_apply opsC_nil (termsO c Low own false)
              refine hKK.out _ _ ?_
              clear hKK KK
              co_apply wpS_seq_out
              co_apply wpS_false (by rfl)
              co_apply wpS_exit
              refine ⟨by simp, by omega, ?_⟩
              exact AllT.mk (hwk hS.kn)
        · rintro a' w₄ ⟨u, hS, rfl⟩
          co_apply wpS_last
          intro KK hKK
          simp only [List.size_toArray, List.length_cons, List.length_nil, Nat.reduceAdd, Nat.zero_add, List.range, List.range.loop]
          co_opw (Kb.oth hb65) hS (skip) (co_still (termsO c Low own false))
          co_opw (Kb.oth hb65) hS (skip) (co_still (termsO c Low own false))
          co_apply opsC_nil (termsO c Low own false)
          refine hKK.out _ _ ?_
          clear hKK KK
          have e : IntKind.i64.wrap ((t : Int) + 1) = ((t + 1 : Nat) : Int) := by rw [IntKind.wrap_i64]; omega
          rw [e]
          exact ⟨hlt, AllT.mk hS⟩
      · intro hlt
        rw [if_neg hlt]
        have ht3 : t = 3 := by omega
        subst ht3
        co_apply wpS_stmt
        intro KK hKK
        simp only [List.size_toArray, List.length_cons, List.length_nil, Nat.zero_add, List.range, List.range.loop]
        co_opw (Kb.oth hb65) hS (skip) (co_still (termsO c Low own false))
        co_apply opsC_nil (termsO c Low own false)
        refine hKK.out _ _ ?_
        clear hKK KK
        co_apply wpS_seq_out
        co_apply wpS_false (by rfl)
        co_apply wpS_exit
        exact ⟨by simp, rfl, _, _, _, by rw [← hdd]⟩


end Go.Proofs.YtifdhaiihlfomaaDoor
