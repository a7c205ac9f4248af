/-
  diff.Part, walked: the part of a node.
-/
import Derived.Test.YtifdhaiihlfomaaDoorDiPartP
import Derived.Test.YtifdhaiihlfomaaDoorDiView
namespace Go.Proofs.YtifdhaiihlfomaaDoor
open Go Go.RowKit
set_option linter.unusedVariables false

/-- A node whose rows were made by the call. -/
def OutN (base : Nat) (w : World) (n : NodeV) : Prop := w.ownsRow base 45 1 n.wv n.ws.length (n.ws.map (.int .u64)) ∧ w.ownsRow base 3 1 n.rv n.rs.length (n.rs.map (.int .i64))
theorem row_of_own {k : IntKind} {e : TypeId} {base : Nat} {w : World} {v : Value} {xs : List Int} (h : w.ownsRow base e 1 v xs.length (xs.map (.int k))) : RowR k w v xs := by
  have h0 := h
  obtain ⟨hl, hcase⟩ := h
  rcases hcase with ⟨rfl, h2⟩ | ⟨g, cap, cur, rfl, hg, hh, hn, hcap, hsz, htake⟩
  · refine ⟨none, 0, by rw [h2], fun i x hx => ?_⟩
    have := (List.getElem?_eq_some_iff.1 hx).1
    omega
  · refine ⟨some ⟨g, 0, none⟩, cap, rfl, fun i x hx => ⟨g, 0, rfl, (Array.getElem?_eq_some_iff.1 hh).1, ?_⟩⟩
    have hi := (List.getElem?_eq_some_iff.1 hx).1
    rw [Nat.zero_add, h0.cellAt i (by omega), List.getElem?_map, hx]
    rfl
theorem OutN.node {base : Nat} {w : World} {n : NodeV} (h : OutN base w n) : NodeR w n := ⟨row_of_own h.1, row_of_own h.2⟩
/-- The cells of nodes. -/
def NodeV.cells (n : NodeV) : List Value := [.int .i64 n.ty, .int .i64 n.ln, n.wv, n.rv]
def cellsN (l : List NodeV) : List Value := l.flatMap NodeV.cells
theorem cellsN_length : ∀ l : List NodeV, (cellsN l).length = l.length * 4
  | [] => rfl
  | n :: l => by
    have ih := cellsN_length l
    unfold cellsN at ih ⊢
    rw [List.flatMap_cons, List.length_append, ih, List.length_cons]
    have : n.cells.length = 4 := rfl
    omega
theorem cellsN_at : ∀ (l : List NodeV) (i j : Nat) (n : NodeV), l[i]? = some n → j < 4 → (cellsN l)[i * 4 + j]? = n.cells[j]?
  | [], i, j, n, h, _ => by simp at h
  | m :: l, 0, j, n, h, hj => by
    obtain rfl : m = n := by simpa using h
    unfold cellsN
    rw [List.flatMap_cons, Nat.zero_mul, Nat.zero_add, List.getElem?_append_left (by have : m.cells.length = 4 := rfl; omega)]
  | m :: l, i + 1, j, n, h, hj => by
    have ih := cellsN_at l i j n (by simpa using h) hj
    unfold cellsN at ih ⊢
    have h4 : m.cells.length = 4 := rfl
    rw [List.flatMap_cons, List.getElem?_append_right (by omega), ← ih, h4]
    congr 1
    omega
theorem nodes_of_own {base : Nat} {w : World} {v : Value} {l : List NodeV} (h : w.ownsRow base 41 4 v l.length (cellsN l)) (hr : ∀ n ∈ l, NodeR w n) : NodesR w v l := by
  have h0 := h
  obtain ⟨hl, hcase⟩ := h
  rcases hcase with ⟨rfl, h2⟩ | ⟨g, cap, cur, rfl, hg, hh, hn, hcap, hsz, htake⟩
  · refine ⟨none, 0, by rw [h2], fun i x hx => ?_⟩
    have := (List.getElem?_eq_some_iff.1 hx).1
    omega
  · refine ⟨some ⟨g, 0, none⟩, cap, rfl, fun i x hx => ⟨g, 0, rfl, (Array.getElem?_eq_some_iff.1 hh).1, ?_⟩⟩
    have hi := (List.getElem?_eq_some_iff.1 hx).1
    have hc : ∀ j, j < 4 → w.cell? ⟨g, i * 4 + j, none⟩ = x.cells[j]? := fun j hj => by
      rw [h0.cellAt (i * 4 + j) (by omega), cellsN_at l i j x hx hj]
    rw [Nat.zero_add]
    exact ⟨hc 0 (by omega), hc 1 (by omega), hc 2 (by omega), hc 3 (by omega), hr x (List.mem_of_getElem? hx)⟩
theorem own_block {base : Nat} {e : TypeId} {s n : Nat} {v : Value} {xs : List Value} {w : World} (h : w.ownsRow base e s v n xs) : ∀ b, v.ownBlock = some b → base ≤ b ∧ b < w.heap.size ∧ ∃ c, w.heap[b]? = some (.cells c e (0, 0)) := by
  intro b hb
  rcases h.2 with ⟨rfl, _⟩ | ⟨g, cap, cur, rfl, hg, hh, _⟩
  · simp [Value.ownBlock] at hb
  · simp only [Value.ownBlock, Option.some.injEq] at hb
    subst hb
    exact ⟨hg, (Array.getElem?_eq_some_iff.1 hh).1, cur, hh⟩
theorem own_keep {base : Nat} {e : TypeId} {s n : Nat} {v : Value} {xs : List Value} {w w' : World} {S : Nat → Prop} (h : w.ownsRow base e s v n xs) (hk : Keep S w w') (hs : ∀ b, v.ownBlock = some b → ¬ S b) : w'.ownsRow base e s v n xs := by
  refine ⟨h.1, ?_⟩
  rcases h.2 with hn | ⟨g, cap, cur, rfl, hb, hgg, rest⟩
  · exact .inl hn
  · exact .inr ⟨g, cap, cur, rfl, hb, hk.at_ hgg (hs g rfl), rest⟩
theorem own_low {base base' : Nat} {e : TypeId} {s n : Nat} {v : Value} {xs : List Value} {w : World} (h : w.ownsRow base e s v n xs) (hb : base' ≤ base) : w.ownsRow base' e s v n xs := by
  refine ⟨h.1, ?_⟩
  rcases h.2 with hn | ⟨g, cap, cur, e1, hg, rest⟩
  · exact .inl hn
  · exact .inr ⟨g, cap, cur, e1, Nat.le_trans hb hg, rest⟩
theorem own_apart {base base' : Nat} {e e' : TypeId} {s s' n n' : Nat} {v v' : Value} {xs xs' : List Value} {w : World} (h : w.ownsRow base e s v n xs) (h' : w.ownsRow base' e' s' v' n' xs') (he : e ≠ e') : ∀ b, v.ownBlock = some b → v'.ownBlock ≠ some b := by
  intro b hb hb'
  obtain ⟨_, _, c, h1⟩ := own_block h b hb
  obtain ⟨_, _, c', h2⟩ := own_block h' b hb'
  rw [h1] at h2
  injection Option.some.inj h2 with _ h3
  exact he h3
theorem own_notBlock {base : Nat} {e T : TypeId} {s n : Nat} {v : Value} {xs : List Value} {w : World} {b : Nat} {cs : Array Value} (h : w.ownsRow base e s v n xs) (hb : w.heap[b]? = some (.cells cs T (0, 0))) (he : e ≠ T) : v.ownBlock ≠ some b := by
  intro hv
  obtain ⟨_, _, c, h1⟩ := own_block h b hv
  rw [h1] at hb
  injection Option.some.inj hb with _ h3
  exact he h3
theorem OutN.keep {base : Nat} {w w' : World} {S : Nat → Prop} {n : NodeV} (h : OutN base w n) (hk : Keep S w w') (h1 : ∀ b, n.wv.ownBlock = some b → ¬ S b) (h2 : ∀ b, n.rv.ownBlock = some b → ¬ S b) : OutN base w' n :=
  ⟨own_keep h.1 hk h1, own_keep h.2 hk h2⟩

/-- Where a call of Part stands: ob is the graph, q the queue, outs the nodes so far. -/
structure PartI (w wr : World) (ob : Obj) (q : List Int) (qv nv : Value) (outs : List NodeV) : Prop where
  keep : Keep Nope w wr
  g0 : wr.heap[w.heap.size]? = some ob
  out : wr.heap[w.heap.size + 1]? = some (.cells #[nv, .slice none 0 0, .slice none 0 0, .slice none 0 0] 25)
  queue : wr.ownsRow (w.heap.size + 2) 3 1 qv q.length (q.map (.int .i64))
  nodes : wr.ownsRow (w.heap.size + 2) 41 4 nv outs.length (cellsN outs)
  rows : ∀ n ∈ outs, OutN (w.heap.size + 2) wr n ∧ ∀ b, n.rv.ownBlock = some b → qv.ownBlock ≠ some b
theorem PartI.next {w wr w2 : World} {ob : Obj} {q : List Int} {qv nv : Value} {outs : List NodeV} (h : PartI w wr ob q qv nv outs) (hk : Keep Nope wr w2) : PartI w w2 ob q qv nv outs :=
  ⟨h.keep.then' hk, hk.at_ h.g0 (fun h => h), hk.at_ h.out (fun h => h), own_keep h.queue hk (fun _ _ h => h), own_keep h.nodes hk (fun _ _ h => h), fun n hn => ⟨(h.rows n hn).1.keep hk (fun _ _ h => h) (fun _ _ h => h), (h.rows n hn).2⟩⟩
/-- One block changes, which is none of its own. -/
theorem PartI.but {w wr w2 : World} {ob : Obj} {q : List Int} {qv nv : Value} {outs : List NodeV} {b : Nat} (h : PartI w wr ob q qv nv outs) (hk : Keep (fun i => i = b) wr w2) (hb : w.heap.size + 2 ≤ b) (hq : qv.ownBlock ≠ some b) (hn : nv.ownBlock ≠ some b)
    (hr : ∀ n ∈ outs, n.wv.ownBlock ≠ some b ∧ n.rv.ownBlock ≠ some b) : PartI w w2 ob q qv nv outs :=
  ⟨h.keep.trans hk (fun i hi (e : i = b) => by omega), hk.at_ h.g0 (fun (e : _ = b) => by omega), hk.at_ h.out (fun (e : _ = b) => by omega), own_keep h.queue hk (fun c hc (e : c = b) => hq (e ▸ hc)), own_keep h.nodes hk (fun c hc (e : c = b) => hn (e ▸ hc)),
    fun n hm => ⟨(h.rows n hm).1.keep hk (fun c hc (e : c = b) => (hr n hm).1 (e ▸ hc)) (fun c hc (e : c = b) => (hr n hm).2 (e ▸ hc)), (h.rows n hm).2⟩⟩
/-- The queue grows. -/
theorem PartI.grow {w wr w2 : World} {ob : Obj} {q q' : List Int} {qv qv' nv : Value} {outs : List NodeV} (h : PartI w wr ob q qv nv outs) (ho : w2.ownsRow (w.heap.size + 2) 3 1 qv' q'.length (q'.map (.int .i64))) (hg : wr.grownBy w2 qv.ownBlock)
    (hat : qv'.ownBlock = qv.ownBlock ∨ ∃ b, qv'.ownBlock = some b ∧ wr.heap.size ≤ b) : PartI w w2 ob q' qv' nv outs := by
  have hk : Keep (fun i => qv.ownBlock = some i) wr w2 := ⟨hg.os, hg.tape, hg.output, hg.size, fun k hk hn => hg.block k hk (fun e => hn e.symm)⟩
  have hlo : ∀ b, qv.ownBlock = some b → w.heap.size + 2 ≤ b := fun b hb => (own_block h.queue b hb).1
  refine ⟨h.keep.trans hk (fun i hi e => by have := hlo i e; omega), hk.at_ h.g0 (fun e => by have := hlo _ e; omega), hk.at_ h.out (fun e => by have := hlo _ e; omega), ho, own_keep h.nodes hk (fun b hb => own_apart h.nodes h.queue (by decide) b hb), fun n hn => ?_⟩
  obtain ⟨h1, h2⟩ := h.rows n hn
  refine ⟨h1.keep hk (fun b hb => own_apart h1.1 h.queue (by decide) b hb) h2, fun b hb => ?_⟩
  rcases hat with e | ⟨c, e, hc⟩
  · rw [e]; exact h2 b hb
  · rw [e]
    intro e2
    have := (own_block h1.2 b hb).2.1
    have := Option.some.inj e2
    omega
/-- .. and node y is in hand, in block gy. -/
structure PartJ (w wr : World) (ob : Obj) (q : List Int) (qv nv : Value) (outs : List NodeV) (gy : Nat) (y : NodeV) : Prop where
  base : PartI w wr ob q qv nv outs
  g : wr.heap[gy]? = some y.obj
  own : OutN (w.heap.size + 2) wr y
  yq : ∀ b, y.rv.ownBlock = some b → qv.ownBlock ≠ some b
  yo : ∀ n ∈ outs, ∀ b, y.rv.ownBlock = some b → n.rv.ownBlock ≠ some b
  yn : nv.ownBlock ≠ some gy
  gl : w.heap.size + 2 ≤ gy
theorem PartJ.next {w wr w2 : World} {ob : Obj} {q : List Int} {qv nv : Value} {outs : List NodeV} {gy : Nat} {y : NodeV} (h : PartJ w wr ob q qv nv outs gy y) (hk : Keep Nope wr w2) : PartJ w w2 ob q qv nv outs gy y :=
  ⟨h.base.next hk, hk.at_ h.g (fun h => h), h.own.keep hk (fun _ _ h => h) (fun _ _ h => h), h.yq, h.yo, h.yn, h.gl⟩
theorem PartJ.grow {w wr w2 : World} {ob : Obj} {q q' : List Int} {qv qv' nv : Value} {outs : List NodeV} {gy : Nat} {y : NodeV} (h : PartJ w wr ob q qv nv outs gy y) (ho : w2.ownsRow (w.heap.size + 2) 3 1 qv' q'.length (q'.map (.int .i64))) (hg : wr.grownBy w2 qv.ownBlock)
    (hat : qv'.ownBlock = qv.ownBlock ∨ ∃ b, qv'.ownBlock = some b ∧ wr.heap.size ≤ b) : PartJ w w2 ob q' qv' nv outs gy y := by
  have hk : Keep (fun i => qv.ownBlock = some i) wr w2 := ⟨hg.os, hg.tape, hg.output, hg.size, fun k hk hn => hg.block k hk (fun e => hn e.symm)⟩
  refine ⟨h.base.grow ho hg hat, hk.at_ h.g (fun e => ?_), h.own.keep hk (fun b hb => own_apart h.own.1 h.base.queue (by decide) b hb) h.yq, fun b hb => ?_, h.yo, h.yn, h.gl⟩
  · exact own_notBlock h.base.queue (show wr.heap[gy]? = some (.cells _ _ (0, 0)) from h.g) (by decide) e
  · rcases hat with e | ⟨c, e, hc⟩
    · rw [e]; exact h.yq b hb
    · rw [e]
      intro e2
      have := (own_block h.own.2 b hb).2.1
      have := Option.some.inj e2
      omega
/-- A reference is turned. -/
theorem PartJ.turn {w wr : World} {ob : Obj} {q : List Int} {qv nv : Value} {outs : List NodeV} {gy : Nat} {y : NodeV} {rb cap : Nat} (h : PartJ w wr ob q qv nv outs gy y) (hv : y.rv = .slice (some ⟨rb, 0, none⟩) y.rs.length cap) (i : Nat) (v : Int) :
    PartJ w (wr.setCell ⟨rb, i, none⟩ (.int .i64 v)) ob q qv nv outs gy ⟨y.ty, y.ln, y.wv, y.rv, y.ws, y.rs.set i v⟩ := by
  have h2 := h.own.2
  rw [hv] at h2
  have hs := h2.stored i (.int .i64 v)
  have hb : y.rv.ownBlock = some rb := by rw [hv]; rfl
  obtain ⟨hlo, hlt, c, hc⟩ := own_block h.own.2 rb hb
  have hk : Keep (fun i => i = rb) wr (wr.setCell ⟨rb, i, none⟩ (.int .i64 v)) := (Keep.refl (fun i => i = rb) wr).setCell (fun _ => rfl) _
  refine ⟨h.base.but hk hlo (h.yq rb hb) (fun e => own_apart h.base.nodes h.own.2 (by decide) rb e hb) (fun n hn => ⟨fun e => own_apart (h.base.rows n hn).1.1 h.own.2 (by decide) rb e hb, h.yo n hn rb hb⟩), hk.at_ h.g (fun (e : gy = rb) => ?_), ⟨own_keep h.own.1 hk (fun b hb2 (e : b = rb) => own_apart h.own.1 h.own.2 (by decide) b hb2 (e ▸ hb)), ?_⟩, h.yq, h.yo, h.yn, h.gl⟩
  · subst e
    rw [h.g] at hc
    injection Option.some.inj hc with _ h3
    exact absurd h3 (by decide)
  · have := hs.1
    rw [← hv, ← List.map_set] at this
    simpa using this
/-- The node in hand is put behind the others. -/
theorem PartJ.push {w wr w2 w3 : World} {ob : Obj} {q : List Int} {qv nv nv' : Value} {outs : List NodeV} {gy : Nat} {y : NodeV} (h : PartJ w wr ob q qv nv outs gy y) (ho : w2.ownsRow (w.heap.size + 2) 41 4 nv' (outs ++ [y]).length (cellsN (outs ++ [y]))) (hg : wr.grownBy w2 nv.ownBlock)
    (hs : w3 = w2.setCell ⟨w.heap.size + 1, 0, none⟩ nv') : PartI w w3 ob q qv nv' (outs ++ [y]) := by
  have hk : Keep (fun i => nv.ownBlock = some i) wr w2 := ⟨hg.os, hg.tape, hg.output, hg.size, fun k hk hn => hg.block k hk (fun e => hn e.symm)⟩
  have hlo : ∀ b, nv.ownBlock = some b → w.heap.size + 2 ≤ b := fun b hb => (own_block h.base.nodes b hb).1
  have ho2 := hk.at_ h.base.out (fun e => by have := hlo _ e; omega)
  have hk3 : Keep (fun i => i = w.heap.size + 1) w2 w3 := by subst hs; exact (Keep.refl (fun i => i = w.heap.size + 1) w2).setCell (fun _ => rfl) _
  have ho3 : w3.heap[w.heap.size + 1]? = some (.cells #[nv', .slice none 0 0, .slice none 0 0, .slice none 0 0] 25) := by subst hs; exact block_setCell ho2 (j := 0) nv'
  have q2 : w2.ownsRow (w.heap.size + 2) 3 1 qv q.length (q.map (.int .i64)) := own_keep h.base.queue hk (fun b hb => own_apart h.base.queue h.base.nodes (by decide) b hb)
  have far : ∀ {e : TypeId} {s n : Nat} {v : Value} {xs : List Value}, w2.ownsRow (w.heap.size + 2) e s v n xs → w3.ownsRow (w.heap.size + 2) e s v n xs := fun ho => own_keep ho hk3 (fun b hb (e : b = w.heap.size + 1) => by have := (own_block ho b hb).1; omega)
  have nd : ∀ n, OutN (w.heap.size + 2) wr n → OutN (w.heap.size + 2) w3 n := fun n hn => ⟨far (own_keep hn.1 hk (fun b hb => own_apart hn.1 h.base.nodes (by decide) b hb)), far (own_keep hn.2 hk (fun b hb => own_apart hn.2 h.base.nodes (by decide) b hb))⟩
  refine ⟨(h.base.keep.trans hk (fun i hi e => by have := hlo i e; omega)).trans hk3 (fun i hi (e : i = _) => by omega), hk3.at_ (hk.at_ h.base.g0 (fun e => by have := hlo _ e; omega)) (fun (e : _ = w.heap.size + 1) => by omega), ho3, far q2, far ho, fun n hn => ?_⟩
  rcases List.mem_append.1 hn with hn | hn
  · exact ⟨nd n (h.base.rows n hn).1, (h.base.rows n hn).2⟩
  · rw [List.mem_singleton] at hn
    subst hn
    exact ⟨nd n h.own, h.yq⟩

theorem partJ_start {w wr W1 w2 w3 : World} {ob : Obj} {q : List Int} {qv nv xw xr cw cr : Value} {outs : List NodeV} {gy : Nat} {xt xl : Int} {xws xrs : List Int} (h : PartI w wr ob q qv nv outs) (hgs : wr.heap.size ≤ gy) (k1 : Keep Nope wr W1) (g1 : W1.heap[gy]? = some (.cells #[.int .i64 xt, .int .i64 xl, xw, xr] 41))
    (k2 : Keep Nope W1 w2) (o2 : w2.ownsRow W1.heap.size 45 1 cw xws.length (xws.map (.int .u64))) (k3 : Keep Nope (w2.setCell ⟨gy, 2, none⟩ cw) w3) (o3 : w3.ownsRow (w2.setCell ⟨gy, 2, none⟩ cw).heap.size 3 1 cr xrs.length (xrs.map (.int .i64))) :
    PartJ w (w3.setCell ⟨gy, 3, none⟩ cr) ob q qv nv outs gy ⟨xt, xl, cw, cr, xws, xrs⟩ := by
  have hw0 := lt_of_heap h.out
  have kA : Keep Nope wr (w3.setCell ⟨gy, 3, none⟩ cr) := (((k1.then' k2).setCell (p := ⟨gy, 2, none⟩) (fun e => absurd (show gy < wr.heap.size from e) (by omega)) cw).then' k3).setCell (p := ⟨gy, 3, none⟩) (fun e => absurd (show gy < wr.heap.size from e) (by omega)) cr
  have g2 : (w2.setCell ⟨gy, 2, none⟩ cw).heap[gy]? = some (.cells #[.int .i64 xt, .int .i64 xl, cw, xr] 41) := block_setCell (k2.at_ g1 (fun h => h)) (j := 2) cw
  have g3 : (w3.setCell ⟨gy, 3, none⟩ cr).heap[gy]? = some (.cells #[.int .i64 xt, .int .i64 xl, cw, cr] 41) := block_setCell (k3.at_ g2 (fun h => h)) (j := 3) cr
  have hz2 : W1.heap.size ≤ (w2.setCell ⟨gy, 2, none⟩ cw).heap.size := by simpa using k2.size
  have hz1 : wr.heap.size ≤ W1.heap.size := k1.size
  have s2 : Keep (fun i => i = gy) w2 (w2.setCell ⟨gy, 2, none⟩ cw) := (Keep.refl (fun i => i = gy) w2).setCell (fun _ => rfl) _
  have s3 : Keep (fun i => i = gy) w3 (w3.setCell ⟨gy, 3, none⟩ cr) := (Keep.refl (fun i => i = gy) w3).setCell (fun _ => rfl) _
  have n3 : w3.heap[gy]? = some (.cells #[.int .i64 xt, .int .i64 xl, cw, xr] 41) := k3.at_ g2 (fun h => h)
  have o2' : (w2.setCell ⟨gy, 2, none⟩ cw).ownsRow W1.heap.size 45 1 cw xws.length (xws.map (.int .u64)) := own_keep o2 s2 (fun b hb (e : b = gy) => own_notBlock o2 (k2.at_ g1 (fun h => h)) (by decide) (e ▸ hb))
  have o2'' := own_keep o2' k3 (fun _ _ h => h)
  have new : ∀ b, cr.ownBlock = some b → wr.heap.size ≤ b := fun b hb => by have := (own_block o3 b hb).1; omega
  refine ⟨h.next kA, g3, ⟨own_low (own_keep o2'' s3 (fun b hb (e : b = gy) => own_notBlock o2'' n3 (by decide) (e ▸ hb))) (by omega), own_low (own_keep o3 s3 (fun b hb (e : b = gy) => own_notBlock o3 n3 (by decide) (e ▸ hb))) (by omega)⟩, fun b hb e => ?_, fun n hn b hb e => ?_, fun e => ?_, by omega⟩
  · have := new b hb
    have := (own_block h.queue b e).2.1
    omega
  · have := new b hb
    have := (own_block (h.rows n hn).1.2 b e).2.1
    omega
  · have := (own_block h.nodes gy e).2.1
    omega

theorem set_mid {t l : List Int} {i : Nat} {r : Int} (v : Int) (ht : t.length = i) (h : l[i]? = some r) : (t ++ l.drop i).set i v = (t ++ [v]) ++ l.drop (i + 1) := by
  have hi := (List.getElem?_eq_some_iff.1 h).1
  rw [List.drop_eq_getElem_cons hi, List.set_append_right _ _ (by omega), ht, Nat.sub_self, List.set_cons_zero, List.append_assoc]
  rfl
theorem keep_mid {t l : List Int} {i : Nat} {r : Int} (h : l[i]? = some r) : t ++ l.drop i = (t ++ [r]) ++ l.drop (i + 1) := by
  obtain ⟨hi, he⟩ := List.getElem?_eq_some_iff.1 h
  rw [List.drop_eq_getElem_cons hi, he, List.append_assoc]
  rfl
theorem mid_at {t l : List Int} {i : Nat} {r : Int} (ht : t.length = i) (h : l[i]? = some r) : (t ++ l.drop i)[i]? = some r := by
  rw [List.getElem?_append_right (by omega), ht, Nat.sub_self, List.getElem?_drop, Nat.add_zero, h]

end Go.Proofs.YtifdhaiihlfomaaDoor
