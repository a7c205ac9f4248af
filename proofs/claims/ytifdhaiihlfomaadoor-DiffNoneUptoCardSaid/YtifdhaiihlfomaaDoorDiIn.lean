/-
  A graph in memory, as Of's contract wants it.
-/
import Derived.Test.YtifdhaiihlfomaaDoorDiKb
namespace Go.Proofs.YtifdhaiihlfomaaDoor
open Go Go.RowKit Go.Conc
set_option linter.unusedVariables false

theorem arg_in {w : World} {v : Value} {sl el : TypeId} {kind : IntKind} {xs : List Int} (hu : Tryd.prog.underlying sl = some (.slice (Tryd.prog.elem sl))) (hs : ∀ w, (sizeOf (Tryd.prog.elem sl)).run Tryd.prog w = .ok 1 w)
    (hb : ∀ (a : Addr) (len cap : Nat) (i : Int), 0 ≤ i → i < len → ∀ w, (Instr.indexAt sl (.slice (some a) len cap) (.int .i64 i)).run Tryd.prog w = .ok (.pointer (some (a.add (i.toNat * 1)))) w ∧ ∀ es, (Instr.indexAt sl (.slice (some a) len cap) (.int .i64 i)).events Tryd.prog w es = es)
    (hlen : ∀ (ty : TypeId) (a : Option Addr) (len cap : Nat) (w : World), (Builtin.len_ #[sl] ty #[.slice a len cap]).run Tryd.prog w = .ok (.int .i64 (len : Int)) w ∧ ∀ es, (Builtin.len_ #[sl] ty #[.slice a len cap]).events Tryd.prog w es = es)
    (h : RowR kind w v xs) (hl : xs.length ≤ 4000000000) : ArgOf Tryd.prog w.heap.size w.heap.size w sl kind v xs.length xs := by
  obtain ⟨a, c, rfl, hx⟩ := h
  refine ⟨rfl, by omega, fun ty w => (hlen ty _ _ _ w).1, fun ty w es => (hlen ty _ _ _ w).2 es, fun i hi => ?_⟩
  obtain ⟨b, o, rfl, h1, h2⟩ := hx i xs[i] (List.getElem?_eq_getElem hi)
  refine ⟨⟨b, o + i, none⟩, fun w => ?_, fun w es => (hb _ _ _ _ (by omega) (by omega) w).2 es, h1, Nat.ne_of_lt h1, ?_⟩
  · rw [(hb ⟨b, o, none⟩ _ _ (i : Int) (by omega) (by omega) w).1, Int.toNat_natCast, Nat.mul_one, Addr.add_lit]
  · rw [h2, List.getD_eq_getElem?_getD, List.getElem?_eq_getElem hi]
    rfl
theorem arg_int {w : World} {v : Value} {xs : List Int} (h : RowR .i64 w v xs) (hl : xs.length ≤ 4000000000) : ArgOf Tryd.prog w.heap.size w.heap.size w 23 .i64 v xs.length xs :=
  arg_in (el := 3) (by kernel_rfl) (fun w => by kernel_rfl) (fun a len cap i h0 h1 w => ⟨by simp [go_sem, h0, h1], fun es => by simp [go_sem, h0, h1]⟩) (fun ty a len cap w => ⟨by simp [go_sem], fun es => by simp [go_sem]⟩) h hl
theorem arg_word {w : World} {v : Value} {xs : List Int} (h : RowR .u64 w v xs) (hl : xs.length ≤ 4000000000) : ArgOf Tryd.prog w.heap.size w.heap.size w 39 .u64 v xs.length xs :=
  arg_in (el := 45) (by kernel_rfl) (fun w => by kernel_rfl) (fun a len cap i h0 h1 w => ⟨by simp [go_sem, h0, h1], fun es => by simp [go_sem, h0, h1]⟩) (fun ty a len cap w => ⟨by simp [go_sem], fun es => by simp [go_sem]⟩) h hl
theorem nodes_at (a : Addr) (len cap : Nat) (i : Int) (h0 : 0 ≤ i) (h1 : i < len) (w : World) : (Instr.indexAt 22 (.slice (some a) len cap) (.int .i64 i)).run Tryd.prog w = .ok (.pointer (some (a.add (i.toNat * 4)))) w ∧ ∀ es, (Instr.indexAt 22 (.slice (some a) len cap) (.int .i64 i)).events Tryd.prog w es = es :=
  ⟨by simp [go_sem, h0, h1], fun es => by simp [go_sem, h0, h1]⟩
theorem node_in {w : World} {n : NodeV} (h : NodeR w n) (h1 : n.ws.length ≤ 4000000000) (h2 : n.rs.length ≤ 4000000000) : NodeOk w.heap.size w.heap.size w n := by
  obtain ⟨a, c, e, _⟩ := h.1
  obtain ⟨a2, c2, e2, _⟩ := h.2
  exact ⟨arg_word h.1 h1, arg_int h.2 h2, ⟨_, _, _, e⟩, ⟨_, _, _, e2⟩, h1, h2⟩
theorem graph_in {w : World} {x : GraphV} (h : GraphR w x) (hn : x.ns.length ≤ 4000000000) (hh : x.hs.length ≤ 4000000000) (hp : x.ps.length ≤ 4000000000) (hs : x.ss.length ≤ 4000000000) (hw : ∀ y ∈ x.ns, y.ws.length ≤ 4000000000 ∧ y.rs.length ≤ 4000000000) : GraphIn w x := by
  obtain ⟨a1, c1, e1, _⟩ := h.hands
  obtain ⟨a2, c2, e2, _⟩ := h.pins
  obtain ⟨a3, c3, e3, _⟩ := h.stack
  refine ⟨⟨hn, ?_, fun j hj => ?_, fun j hj => ?_⟩, arg_int h.hands hh, arg_int h.pins hp, arg_int h.stack hs, ⟨_, _, _, e1⟩, ⟨_, _, _, e2⟩, ⟨_, _, _, e3⟩, hh, hp, hs⟩
  · obtain ⟨a, c, e, _⟩ := h.nodes
    exact ⟨a, c, e⟩
  · obtain ⟨a, c, e, hx⟩ := h.nodes
    have hg : x.ns.getD j nodeZ = x.ns[j] := by rw [List.getD_eq_getElem?_getD, List.getElem?_eq_getElem hj]; rfl
    obtain ⟨b, o, rfl, hb, r0, r1, r2, r3, hn⟩ := hx j x.ns[j] (List.getElem?_eq_getElem hj)
    rw [e, hg]
    refine ⟨⟨b, o + j * 4, none⟩, fun w => ?_, fun w es => (nodes_at _ _ _ _ (by omega) (by omega) w).2 es, hb, Nat.ne_of_lt hb, r0, r1, r2, r3⟩
    rw [(nodes_at ⟨b, o, none⟩ _ _ (j : Int) (by omega) (by omega) w).1, Int.toNat_natCast, Addr.add_lit]
  · have hg : x.ns.getD j nodeZ = x.ns[j] := by rw [List.getD_eq_getElem?_getD, List.getElem?_eq_getElem hj]; rfl
    obtain ⟨a, c, e, hx⟩ := h.nodes
    obtain ⟨b, o, rfl, hb, r0, r1, r2, r3, hn⟩ := hx j x.ns[j] (List.getElem?_eq_getElem hj)
    have := hw x.ns[j] (List.getElem_mem hj)
    rw [hg]
    exact node_in hn this.1 this.2

end Go.Proofs.YtifdhaiihlfomaaDoor
