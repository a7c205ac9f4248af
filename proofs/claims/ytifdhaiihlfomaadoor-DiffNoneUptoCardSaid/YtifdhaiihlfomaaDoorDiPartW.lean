/-
  diff.Part, walked: the walk.
-/
import Derived.Test.YtifdhaiihlfomaaDoorDiPart
namespace Go.Proofs.YtifdhaiihlfomaaDoor
open Go Go.RowKit
set_option linter.unusedVariables false

/-- A graph's nodes in plain words. -/
def GraphV.p (x : GraphV) : List NodeP := x.ns.map NodeV.p
theorem row_none (k : IntKind) (w : World) : RowR k w (.slice none 0 0) [] := ⟨none, 0, rfl, fun i x h => by simp at h⟩
/-- A graph that a call has made, from block base on. -/
structure OwnG (base : Nat) (w : World) (y : GraphV) : Prop where
  nodes : w.ownsRow base 41 4 y.nv y.ns.length (cellsN y.ns)
  rows : ∀ n ∈ y.ns, OutN base w n
  hands : w.ownsRow base 3 1 y.hv y.hs.length (y.hs.map (.int .i64))
  pins : y.pv = .slice none 0 0 ∧ y.ps = []
  stack : y.sv = .slice none 0 0 ∧ y.ss = []
theorem OwnG.graph {base : Nat} {w : World} {y : GraphV} (h : OwnG base w y) : GraphR w y := by
  refine ⟨nodes_of_own h.nodes fun n hn => (h.rows n hn).node, row_of_own h.hands, ?_, ?_⟩
  · rw [h.pins.1, h.pins.2]; exact row_none _ _
  · rw [h.stack.1, h.stack.2]; exact row_none _ _
theorem OwnG.keepS {base : Nat} {w w' : World} {y : GraphV} {S : Nat → Prop} (h : OwnG base w y) (hk : Keep S w w') (hs : ∀ b, S b → ∃ c, w.heap[b]? = some (.cells c 25 (0, 0))) : OwnG base w' y := by
  have far : ∀ {e : TypeId} {s n : Nat} {v : Value} {xs : List Value}, w.ownsRow base e s v n xs → e ≠ 25 → w'.ownsRow base e s v n xs := fun ho he => own_keep ho hk (fun b hb hS => by
    obtain ⟨c, hc⟩ := hs b hS
    exact own_notBlock ho hc he hb)
  exact ⟨far h.nodes (by decide), fun n hn => ⟨far (h.rows n hn).1 (by decide), far (h.rows n hn).2 (by decide)⟩, far h.hands (by decide), h.pins, h.stack⟩
theorem OwnG.keep {base : Nat} {w w' : World} {y : GraphV} (h : OwnG base w y) (hk : Keep Nope w w') : OwnG base w' y := h.keepS hk (fun b hb => absurd hb (fun h => h))
theorem OwnG.low {base base' : Nat} {w : World} {y : GraphV} (h : OwnG base w y) (hb : base' ≤ base) : OwnG base' w y :=
  ⟨own_low h.nodes hb, fun n hn => ⟨own_low (h.rows n hn).1 hb, own_low (h.rows n hn).2 hb⟩, own_low h.hands hb, h.pins, h.stack⟩
/-- What a call of Part answers. -/
def PartPost (P : List NodeP) (n : Int) (w : World) (v : Value) (w' : World) : Prop :=
  ∃ y : GraphV, v = y.val ∧ y.p = partP P n ∧ y.hs = (if y.ns = [] then [] else [0]) ∧ OwnG w.heap.size w' y ∧ Keep Nope w w'
theorem part_none {P : List NodeP} {n : Int} {w w' : World} (h : n < 0 ∨ (P.length : Int) ≤ n) (hk : Keep Nope w w') : PartPost P n w (.agg #[.slice none 0 0, .slice none 0 0, .slice none 0 0, .slice none 0 0]) w' :=
  ⟨⟨.slice none 0 0, .slice none 0 0, .slice none 0 0, .slice none 0 0, [], [], [], []⟩, rfl, by rw [partP, if_pos h]; rfl, rfl,
    ⟨World.ownsRow_nil _ _ _ _, fun n hn => by simp at hn, World.ownsRow_nil _ _ _ _, ⟨rfl, rfl⟩, ⟨rfl, rfl⟩⟩, hk⟩

theorem own_form {base : Nat} {e : TypeId} {s n : Nat} {v : Value} {xs : List Value} {w : World} (h : w.ownsRow base e s v n xs) : ∃ a c, v = .slice a n c := by
  rcases h.2 with ⟨rfl, rfl⟩ | ⟨g, cap, cur, rfl, _⟩
  · exact ⟨_, _, rfl⟩
  · exact ⟨_, _, rfl⟩

theorem chain5 {wr : World} {b : Nat} {a0 a1 a2 a3 : Value} {T : TypeId} (hb : wr.heap[b]? = some (.cells #[a0, a1, a2, a3] T (0, 0))) (u v0 v1 v2 v3 : Value) (wX : World) (hX : wX = ((((wr.setCell ⟨b, 1, none⟩ u).setCell ⟨b, 0, none⟩ v0).setCell ⟨b, 1, none⟩ v1).setCell ⟨b, 2, none⟩ v2).setCell ⟨b, 3, none⟩ v3) :
    wX.heap[b]? = some (.cells #[v0, v1, v2, v3] T (0, 0)) ∧ Keep (fun i => i = b) wr wX ∧ wX.heap.size = wr.heap.size := by
  subst hX
  exact ⟨block_setCell (block_setCell (block_setCell (block_setCell (block_setCell hb (j := 1) _) (j := 0) _) (j := 1) _) (j := 2) _) (j := 3) _,
    (((((Keep.refl (fun i => i = b) wr).setCell (fun _ => rfl) _).setCell (fun _ => rfl) _).setCell (fun _ => rfl) _).setCell (fun _ => rfl) _).setCell (fun _ => rfl) _, by simp⟩
theorem part_done {P : List NodeP} {n : Int} {k : Nat} {w wr wX : World} {ob : Obj} {q : List Int} {qv nv : Value} {outs : List NodeV} (hr : 0 ≤ n ∧ n < (P.length : Int)) (h : PartI w wr ob q qv nv outs) (hs : stP P n k = (q, outs.map NodeV.p)) (hq : q.length = k) (h1 : 1 ≤ k)
    (hk : Keep (fun i => i = w.heap.size + 1) wr wX) (hz : wX.heap.size = wr.heap.size) : PartPost P n w (.agg #[nv, .slice (some ⟨wr.heap.size, 0, none⟩) 1 1, .slice none 0 0, .slice none 0 0]) (wX.alloc (.cells #[.int .i64 0] 3)) := by
  have hql : (stP P n k).1.length = k := by rw [hs]; exact hq
  have hk2 : k ≤ P.length := by rw [← hql]; exact (stP_ok hr.1 hr.2 k).le
  have hlen := stP_len (ns := P) (n := n) k (Nat.le_of_eq hql.symm)
  rw [hs, List.length_map] at hlen
  have ho : outs ≠ [] := fun e => by rw [e] at hlen; simp at hlen; omega
  have far : ∀ {e : TypeId} {s n : Nat} {v : Value} {xs : List Value}, wr.ownsRow (w.heap.size + 2) e s v n xs → (wX.alloc (.cells #[.int .i64 0] 3)).ownsRow (w.heap.size + 2) e s v n xs := fun ho => (own_keep ho hk (fun b hb (e : b = w.heap.size + 1) => by have := (own_block ho b hb).1; omega)).alloc _
  have hb : w.heap.size ≤ wX.heap.size := by rw [hz]; exact h.keep.size
  have hlit := World.ownsRow_lit (base := w.heap.size) (e := 3) (size := 1) wX #[.int .i64 0] 1 hb (by unfold maxLen; omega) rfl
  refine ⟨⟨nv, _, _, _, outs, [0], [], []⟩, rfl, ?_, by rw [if_neg ho], ⟨own_low (far h.nodes) (by omega), fun n hn => ⟨own_low (far (h.rows n hn).1.1) (by omega), own_low (far (h.rows n hn).1.2) (by omega)⟩, ?_, ⟨rfl, rfl⟩, ⟨rfl, rfl⟩⟩, (h.keep.trans hk (fun i hi (e : i = _) => by omega)).alloc _⟩
  · show outs.map NodeV.p = partP P n
    rw [partP_end hr.1 hr.2 (Nat.le_of_eq hql) hk2, hs]
  · rw [← hz]
    exact hlit

theorem own_some {base : Nat} {e : TypeId} {s n m c : Nat} {a : Option Addr} {xs : List Value} {w : World} (h : w.ownsRow base e s (.slice a m c) n xs) (hn : 0 < n) : ∃ g, a = some ⟨g, 0, none⟩ := by
  rcases h.2 with ⟨h1, h2⟩ | ⟨g, cap, cur, h1, _⟩
  · omega
  · injection h1 with h1
    exact ⟨g, h1⟩
/-- The references of the node in hand. -/
theorem PartJ.refs {w wr : World} {ob : Obj} {q : List Int} {qv nv wv rv : Value} {outs : List NodeV} {gy : Nat} {xt xl : Int} {xws rs : List Int} (h : PartJ w wr ob q qv nv outs gy ⟨xt, xl, wv, rv, xws, rs⟩) : wr.cell? ⟨gy, 3, none⟩ = some rv :=
  cell_at (show wr.heap[gy]? = some (.cells #[.int .i64 xt, .int .i64 xl, wv, rv] 41) from h.g) (i := 3) rfl
theorem PartJ.free {w wr : World} {ob : Obj} {q : List Int} {qv nv wv : Value} {outs : List NodeV} {gy rb n c : Nat} {xt xl : Int} {xws rs : List Int} (h : PartJ w wr ob q qv nv outs gy ⟨xt, xl, wv, .slice (some ⟨rb, 0, none⟩) n c, xws, rs⟩) (i : Nat) : wr.frozen? ⟨rb, i, none⟩ = false := by
  obtain ⟨_, _, c, hc⟩ := own_block h.own.2 rb rfl
  exact free_of_block hc i
theorem PartJ.ref {w wr : World} {ob : Obj} {q : List Int} {qv nv wv : Value} {outs : List NodeV} {gy rb n c i : Nat} {xt xl r : Int} {xws rs : List Int} (h : PartJ w wr ob q qv nv outs gy ⟨xt, xl, wv, .slice (some ⟨rb, 0, none⟩) n c, xws, rs⟩) (hn : rs.length = n) (hr : rs[i]? = some r) : wr.cell? ⟨rb, i, none⟩ = some (.int .i64 r) := by
  have h2 := h.own.2
  dsimp only at h2
  subst hn
  have hi := (List.getElem?_eq_some_iff.1 hr).1
  rw [h2.cellAt i (by omega), List.getElem?_map, hr]
  rfl
theorem PartJ.turned {w wr : World} {ob : Obj} {q : List Int} {qv nv wv : Value} {outs : List NodeV} {gy rb n c i : Nat} {xt xl r : Int} {xws t l : List Int} (h : PartJ w wr ob q qv nv outs gy ⟨xt, xl, wv, .slice (some ⟨rb, 0, none⟩) n c, xws, t ++ l.drop i⟩) (hl : l.length = n) (ht : t.length = i) (hr : l[i]? = some r) (v : Int) :
    PartJ w (wr.setCell ⟨rb, i, none⟩ (.int .i64 v)) ob q qv nv outs gy ⟨xt, xl, wv, .slice (some ⟨rb, 0, none⟩) n c, xws, (t ++ [v]) ++ l.drop (i + 1)⟩ := by
  have hi := (List.getElem?_eq_some_iff.1 hr).1
  have h2 := h.turn (rb := rb) (cap := c) (show Value.slice (some ⟨rb, 0, none⟩) n c = .slice (some ⟨rb, 0, none⟩) (t ++ l.drop i).length c by rw [List.length_append, List.length_drop, ht, hl, Nat.add_sub_cancel' (by omega)]) i v
  rw [← set_mid v ht hr]
  exact h2

theorem World.grownBy.keep {w w2 : World} {b : Option Nat} (hg : w.grownBy w2 b) : Keep (fun i => b = some i) w w2 := ⟨hg.os, hg.tape, hg.output, hg.size, fun k hk hn => hg.block k hk (fun e => hn e.symm)⟩
theorem part_ints {base m : Nat} {T : TypeId} {w : World} {v : Value} {q : List Int} {x : Int} (hq : q.length = m) (h : w.ownsRow base T 1 v (m + 1) (q.map (.int .i64) ++ [.int .i64 x])) : w.ownsRow base T 1 v (q ++ [x]).length ((q ++ [x]).map (.int .i64)) := by
  subst hq
  rw [List.map_append, List.length_append]
  exact h
theorem part_cells {base m : Nat} {T : TypeId} {w : World} {v : Value} {outs : List NodeV} {xt xl : Int} {wv rv : Value} {ws rs : List Int} (h : w.ownsRow base T 4 v m (cellsN outs ++ [.int .i64 xt, .int .i64 xl, wv, rv])) : w.ownsRow base T 4 v m (cellsN (outs ++ [⟨xt, xl, wv, rv, ws, rs⟩])) := by
  unfold cellsN at h ⊢
  rw [List.flatMap_append]
  exact h

set_option maxRecDepth 20000 in
set_option maxHeartbeats 16000000 in
theorem Part_R {x : GraphV} {w : World} (hx : GraphR w x) (hl : GraphL x) (hn6 : x.ns.length ≤ 600) (n : Int) :
    Calls Tryd.prog 15 #[x.val, .int .i64 n] w fun e w' => ∃ v, e = .returned v ∧ PartPost x.p n w v w' := by
  obtain ⟨xnv, xhv, xpv, xsv, xns, xhs, xps, xss⟩ := x
  obtain ⟨na, ha1, pa, sa⟩ := hx
  dsimp only at na ha1 pa sa hn6
  obtain ⟨xha, xhn, xhc, rfl⟩ := row_form ha1
  obtain ⟨xpa, xpn, xpc, rfl⟩ := row_form pa
  obtain ⟨xsa, xsn, xsc, rfl⟩ := row_form sa
  obtain ⟨xna, xnc, rfl, hnx⟩ := na
  obtain ⟨N, hN⟩ : ∃ N, xns.length = N := ⟨_, rfl⟩
  have HN : Seal _ := ⟨hN⟩
  have HX : Seal _ := ⟨hnx⟩
  have HL : Seal (∀ y ∈ xns, y.ws.length ≤ 17592186044416 ∧ y.rs.length ≤ 17592186044416) := ⟨hl.w⟩
  rw [hN] at hn6
  rw [hN]
  unfold GraphV.p GraphV.val
  dsimp only
  obtain ⟨P, hP⟩ : ∃ P, xns.map NodeV.p = P := ⟨_, rfl⟩
  have HPl : Seal (P.length = N) := ⟨by rw [← hP, List.length_map, hN]⟩
  have HPg : Seal (∀ (i : Nat) y, xns[i]? = some y → P.getD i nodePZ = y.p) := ⟨fun i y h => by rw [← hP, List.getD_eq_getElem?_getD, List.getElem?_map, h]; rfl⟩
  rw [hP]
  clear hnx hN hl ha1 pa sa hP
  obtain ⟨W2, hW2⟩ : ∃ W2, (w.alloc (.cells #[.slice xna N xnc, .slice xha xhn xhc, .slice xpa xpn xpc, .slice xsa xsn xsc] 25)).alloc (.cells #[.slice none 0 0, .slice none 0 0, .slice none 0 0, .slice none 0 0] 25) = W2 := ⟨_, rfl⟩
  have HW2 : Seal _ := ⟨hW2⟩
  have HK : Seal (Keep Nope w ((w.alloc (.cells #[.slice xna N xnc, .slice xha xhn xhc, .slice xpa xpn xpc, .slice xsa xsn xsc] 25)).alloc (.cells #[.slice none 0 0, .slice none 0 0, .slice none 0 0, .slice none 0 0] 25))) := ⟨((Keep.refl _ _).alloc _).alloc _⟩
  clear hW2
  by_cases h0 : n < 0
  · have HP : Seal (n < 0 ∨ (P.length : Int) ≤ n) := ⟨.inl h0⟩
    go_enter Tryd.func15, Tryd.ntmps15
    go_wp2_with fail
    exact bodyPost_ret (v := .agg #[.slice none 0 0, .slice none 0 0, .slice none 0 0, .slice none 0 0]) (by simp [results, Tryd.results15, go_sem]) rfl ⟨_, rfl, part_none HP.out HK.out⟩
  · by_cases h1 : (N : Int) ≤ n
    · have HP : Seal (n < 0 ∨ (P.length : Int) ≤ n) := ⟨.inr (by rw [HPl.out]; exact h1)⟩
      go_enter Tryd.func15, Tryd.ntmps15
      go_wp2_with fail
      exact bodyPost_ret (v := .agg #[.slice none 0 0, .slice none 0 0, .slice none 0 0, .slice none 0 0]) (by simp [results, Tryd.results15, go_sem]) rfl ⟨_, rfl, part_none HP.out HK.out⟩
    · have HR : Seal (0 ≤ n ∧ n < (P.length : Int)) := ⟨by rw [HPl.out]; omega⟩
      go_enter Tryd.func15, Tryd.ntmps15
      go_wp2_with fail
      have HI : Seal (PartI w ((((w.alloc (.cells #[.slice xna N xnc, .slice xha xhn xhc, .slice xpa xpn xpc, .slice xsa xsn xsc] 25)).alloc (.cells #[.slice none 0 0, .slice none 0 0, .slice none 0 0, .slice none 0 0] 25)).alloc (.cells #[.int .i64 n] 3))) (.cells #[.slice xna N xnc, .slice xha xhn xhc, .slice xpa xpn xpc, .slice xsa xsn xsc] 25) [n] (.slice (some ⟨w.heap.size + 1 + 1, 0, none⟩) 1 1) (.slice none 0 0) []) := ⟨by
        refine ⟨HK.out.alloc _, ?_, ?_, ?_, World.ownsRow_nil _ _ _ _, fun n hn => by simp at hn⟩
        · rw [Below.heap_alloc _ _ _ (by simp; omega), Below.heap_alloc _ _ _ (by simp)]
          exact World.alloc_heap_new w _
        · rw [Below.heap_alloc _ _ _ (by simp)]
          have := World.alloc_heap_new (w.alloc (.cells #[.slice xna N xnc, .slice xha xhn xhc, .slice xpa xpn xpc, .slice xsa xsn xsc] 25)) (.cells #[.slice none 0 0, .slice none 0 0, .slice none 0 0, .slice none 0 0] 25)
          simpa using this
        · have := World.ownsRow_lit (base := w.heap.size + 2) (e := 3) (size := 1) ((w.alloc (.cells #[.slice xna N xnc, .slice xha xhn xhc, .slice xpa xpn xpc, .slice xsa xsn xsc] 25)).alloc (.cells #[.slice none 0 0, .slice none 0 0, .slice none 0 0, .slice none 0 0] 25)) #[.int .i64 n] 1 (by simp) (by unfold maxLen; omega) rfl
          simpa using this⟩
      clear h0 h1
      go_loopw [5, 6] (fun z kv wr => ∃ (qg qc k : Nat) (q : List Int) (nv : Value) (outs : List NodeV), z = .slice (some ⟨qg, 0, none⟩) q.length qc ∧ (k ≤ q.length ∧ 1 ≤ q.length) ∧ kv = .int .i64 (k : Nat) ∧ Seal (PartI w wr (.cells #[.slice xna N xnc, .slice xha xhn xhc, .slice xpa xpn xpc, .slice xsa xsn xsc] 25) q (.slice (some ⟨qg, 0, none⟩) q.length qc) nv outs) ∧ Seal (stP P n k = (q, outs.map NodeV.p))) (fun _ kv _ => N - (intOf kv).toNat)
      case atStart => exact ⟨_, _, 0, [n], _, [], rfl, ⟨Nat.zero_le _, Nat.le_refl _⟩, rfl, HI, ⟨rfl⟩⟩
      case round =>
        obtain ⟨qg, qc, k, q, nv, outs, hz, ⟨hkq, hq1⟩, rfl, HIr, HS⟩ := hrel
        obtain ⟨m, hm⟩ : ∃ m, q.length = m := ⟨_, rfl⟩
        have HM : Seal _ := ⟨hm⟩
        rw [hm] at hkq hq1 hz HIr
        subst hz
        clear hm
        have hgl := lt_of_heap HIr.out.out
        obtain ⟨nva, nvc, rfl⟩ := own_form HIr.out.nodes
        obtain ⟨ol, hol⟩ : ∃ ol, outs.length = ol := ⟨_, rfl⟩
        have HOl : Seal _ := ⟨hol⟩
        rw [hol] at HIr
        clear hol
        by_cases hk : k < m
        · skip
          have hk' : (k : Int) < (m : Int) := by omega
          have hq := HM.out
          obtain ⟨j, hj⟩ : ∃ j, q[k]? = some j := ⟨_, List.getElem?_eq_getElem (by omega)⟩
          have hok := stP_ok HR.out.1 HR.out.2 k
          rw [HS.out] at hok
          have hjr := hok.rng j (List.mem_of_getElem? hj)
          have hle : q.length ≤ P.length := hok.le
          rw [HPl.out] at hjr hle
          obtain ⟨jn, rfl⟩ := Int.eq_ofNat_of_zero_le hjr.1
          have hjn : jn < N := by omega
          obtain ⟨X, hX⟩ : ∃ X, xns[jn]? = some X := ⟨_, List.getElem?_eq_getElem (by rw [HN.out]; exact hjn)⟩
          have HLX : Seal _ := ⟨HL.out X (List.mem_of_getElem? hX)⟩
          have HXp : Seal _ := ⟨HPg.out jn X hX⟩
          have cq : wr.cell? ⟨qg, k, none⟩ = some (.int .i64 (jn : Nat)) := by
            have := HIr.out.queue
            rw [hq] at this
            rw [this.cellAt k (by omega), List.getElem?_map, hj]
            rfl
          obtain ⟨xb, xo, hxa, hxb, r0, r1, r2, r3, hn⟩ := HX.out jn X hX
          subst hxa
          replace r0 := keepc HIr.out.keep r0
          replace r1 := keepc HIr.out.keep r1
          replace r2 := keepc HIr.out.keep r2
          replace r3 := keepc HIr.out.keep r3
          have HNX : Seal _ := ⟨hn.keep HIr.out.keep⟩
          have HQ : Seal (m ≤ N ∧ k + 1 ≤ m) := ⟨by omega⟩
          have HJ : Seal _ := ⟨hj⟩
          obtain ⟨c0, -, -, -⟩ := cells4 HIr.out.g0
          clear hkq hk hX hn hj hok hjr hle hq
          obtain ⟨xt, xl, xw, xr, xws, xrs⟩ := X
          obtain ⟨xwa, xwn, xwc, rfl⟩ := row_form HNX.out.1
          obtain ⟨xra, xrn, xrc, rfl⟩ := row_form HNX.out.2
          dsimp only at r0 r1 r2 r3
          go_wp2_with fail
          have k0 : Keep Nope wr wr.drew := (Keep.refl _ _).drew
          refine wp_region_held_drew (S := fun w' => w'.cell? ⟨w.heap.size, 0, none⟩ = some (.slice (some ⟨xb, xo, none⟩) N xnc) ∧ w'.cell? ⟨qg, k, none⟩ = some (.int .i64 (jn : Nat)) ∧ w'.cell? ⟨xb, xo + jn * 4, none⟩ = some (.int .i64 xt) ∧ w'.cell? ⟨xb, xo + jn * 4 + 1, none⟩ = some (.int .i64 xl) ∧ w'.cell? ⟨xb, xo + jn * 4 + 2, none⟩ = some (.slice xwa xwn xwc) ∧ w'.cell? ⟨xb, xo + jn * 4 + 3, none⟩ = some (.slice xra xrn xrc)) (by kernel_rfl) ?_ (fun hHeld => ?_)
          · (try dsimp only); exact ⟨keepc k0 c0, keepc k0 cq, keepc k0 r0, keepc k0 r1, keepc k0 r2, keepc k0 r3⟩
          obtain ⟨W0, hW0⟩ : ∃ W0, wr.drew = W0 := ⟨_, rfl⟩
          rw [hW0] at k0 hHeld ⊢
          clear hW0
          refine tko 0 ?_; refine tko 1 ?_; refine tko 2 ?_; refine tko 3 ?_; refine tko 4 ?_; refine tko 5 ?_; refine tko 6 ?_; refine tko 7 ?_
          try simp only [Act.put, List.setIfInBounds_toArray, List.set_cons_zero, List.set_cons_succ]
          refine wpAnyH_ready (rs := [8]) (by kernel_rfl) (by simp) ?_
          refine ready_held rfl (fun K hK => ?_)
          go_simp
          obtain ⟨gy, hgy⟩ : ∃ g, W0.heap.size = g := ⟨_, rfl⟩
          have p1 : (W0.alloc (.cells #[.int .i64 0, .int .i64 0, .slice none 0 0, .slice none 0 0] 41)).heap[gy]? = some (.cells #[.int .i64 0, .int .i64 0, .slice none 0 0, .slice none 0 0] 41) := by rw [← hgy]; exact World.alloc_heap_new _ _
          have k1 : Keep Nope wr (W0.alloc (.cells #[.int .i64 0, .int .i64 0, .slice none 0 0, .slice none 0 0] 41)) := k0.then' ((Keep.refl _ _).alloc _)
          have hgs : wr.heap.size ≤ gy := by rw [← hgy]; exact k0.size
          rw [hgy]
          obtain ⟨W1, hW1⟩ : ∃ W1, W0.alloc (.cells #[.int .i64 0, .int .i64 0, .slice none 0 0, .slice none 0 0] 41) = W1 := ⟨_, rfl⟩
          rw [hW1] at p1 k1 ⊢
          refine hK _ _ ?_ (fun hHeld => ?_)
          · (try dsimp only); exact ⟨keepc k1 c0, keepc k1 cq, keepc k1 r0, keepc k1 r1, keepc k1 r2, keepc k1 r3⟩
          clear hK K hgy hW1 k0
          try simp only [Act.put, List.setIfInBounds_toArray, List.set_cons_zero, List.set_cons_succ]
          refine wpAnyH_ready (rs := [9]) (by kernel_rfl) (by simp) ?_
          refine ready_held rfl (fun K hK => ?_)
          have f1 := free_of_block p1; have f0 := f1 0; have f11 := f1 1; have f2 := f1 2; have f3 := f1 3
          obtain ⟨e0, e1, e2, e3⟩ := cells4 p1
          clear f1
          go_simp
          obtain ⟨W2', hW2'⟩ : ∃ W, W = World.setCell (World.setCell (World.setCell (World.setCell (W1) ⟨gy, 0, none⟩ (.int .i64 xt)) ⟨gy, 1, none⟩ (.int .i64 xl)) ⟨gy, 2, none⟩ (.slice xwa xwn xwc)) ⟨gy, 3, none⟩ (.slice xra xrn xrc) := ⟨_, rfl⟩
          rw [← hW2']
          obtain ⟨hy1, ky⟩ := store4 p1 _ _ _ _ W2' hW2'
          have kyw : Keep Nope wr W2' := k1.trans ky (fun i hi (e : i = gy) => by omega)
          clear hW2' f0 f11 f2 f3 e0 e1 e2 e3
          refine hK _ _ ?_ (fun hHeld => ?_)
          · (try dsimp only); exact ⟨keepc kyw c0, keepc kyw cq, keepc kyw r0, keepc kyw r1, keepc kyw r2, keepc kyw r3⟩
          clear hK K hHeld p1 k1 ky c0 cq r0 r1 r2 r3
          try simp only [Act.put, List.setIfInBounds_toArray, List.set_cons_zero, List.set_cons_succ]
          refine wpAnyH_done (by kernel_rfl) ?_ _
          have KYW : Seal _ := ⟨kyw⟩
          have HY1 : Seal _ := ⟨hy1⟩
          have HGs : Seal _ := ⟨hgs⟩
          obtain ⟨R, hR⟩ : ∃ R, xrs.length = R := ⟨_, rfl⟩
          obtain ⟨Wn, hWn⟩ : ∃ R, xws.length = R := ⟨_, rfl⟩
          have HRr : Seal _ := ⟨hR⟩
          have HWn : Seal _ := ⟨hWn⟩
          have b2 := cell_at hy1 (i := 2) rfl
          clear hR hWn kyw hgl hgs hy1
          try dsimp only at HNX HLX HXp
          go_wp2_with (first | (go_at_call 28; refine (CloneWords_R (HNX.out.keep KYW.out).1 HLX.out.1).mono ?_; rintro e w2 ⟨cw, rfl, ho2, hk2⟩; rw [HWn.out] at ho2; obtain ⟨cwa, cwc, rfl⟩ := own_form ho2; have HO2 : Seal _ := ⟨ho2⟩; have K2 : Seal _ := ⟨hk2⟩; have hy2 := hk2.at_ HY1.out (fun h => h); have b22 := cell_at hy2 (i := 2) rfl; have f22 := free_of_block hy2 2; have b23 := cell_at (block_setCell hy2 (j := 2) (.slice cwa Wn cwc)) (i := 3) rfl; have HY2 : Seal _ := ⟨block_setCell hy2 (j := 2) (.slice cwa Wn cwc)⟩; have KA : Seal (Keep Nope wr (w2.setCell ⟨gy, 2, none⟩ (.slice cwa Wn cwc))) := ⟨(KYW.out.then' hk2).setCell (p := ⟨gy, 2, none⟩) (fun e => absurd (show gy < wr.heap.size from e) (by have := HGs.out; omega)) _⟩; clear ho2 hk2 hy2) | (go_at_call 29; refine (CloneInts_R (HNX.out.keep KA.out).2 HLX.out.2).mono ?_; rintro e w3 ⟨cr, rfl, ho3, hk3⟩; rw [HRr.out] at ho3; obtain ⟨cra, crc, rfl⟩ := own_form ho3; have HO3 : Seal _ := ⟨ho3⟩; have K3 : Seal _ := ⟨hk3⟩; have hy3 := hk3.at_ HY2.out (fun h => h); have b33 := cell_at hy3 (i := 3) rfl; have f33 := free_of_block hy3 3; clear ho3 hk3 hy3))
          have HJ0 : Seal (PartJ w (w3.setCell ⟨gy, 3, none⟩ (.slice cra R crc)) (.cells #[.slice (some ⟨xb, xo, none⟩) N xnc, .slice xha xhn xhc, .slice xpa xpn xpc, .slice xsa xsn xsc] 25) q (.slice (some ⟨qg, 0, none⟩) m qc) (.slice nva ol nvc) outs gy ⟨xt, xl, .slice cwa Wn cwc, .slice cra R crc, xws, xrs⟩) := ⟨partJ_start HIr.out HGs.out KYW.out HY1.out K2.out (by rw [HWn.out]; exact HO2.out) K3.out (by rw [HRr.out]; exact HO3.out)⟩
          go_loopw [5, 48] (fun zq zi wi => ∃ (qg' qc' i : Nat) (q' t : List Int), zq = .slice (some ⟨qg', 0, none⟩) q'.length qc' ∧ i ≤ R ∧ zi = .int .i64 (i : Nat) ∧ Seal (turnL P.length q (xrs.take i) = (q', t)) ∧ Seal (PartJ w wi (.cells #[.slice (some ⟨xb, xo, none⟩) N xnc, .slice xha xhn xhc, .slice xpa xpn xpc, .slice xsa xsn xsc] 25) q' (.slice (some ⟨qg', 0, none⟩) q'.length qc') (.slice nva ol nvc) outs gy ⟨xt, xl, .slice cwa Wn cwc, .slice cra R crc, xws, t ++ xrs.drop i⟩)) (fun _ zi _ => R - (intOf zi).toNat)
          case atStart => exact ⟨qg, qc, 0, q, [], by rw [HM.out], Nat.zero_le _, rfl, ⟨rfl⟩, by rw [HM.out]; exact HJ0⟩
          case round =>
            obtain ⟨qg', qc', i, q', t, hzq, hiR, rfl, HT, HJi⟩ := hrel
            obtain ⟨m', hm'⟩ : ∃ m, q'.length = m := ⟨_, rfl⟩
            have HM' : Seal _ := ⟨hm'⟩
            rw [hm'] at hzq HJi
            subst hzq
            clear hm'
            have hrb : R ≤ 17592186044416 := by
              have := HLX.out.2
              rwa [HRr.out] at this
            by_cases hi : i < R
            · have hi' : (i : Int) < (R : Int) := by omega
              obtain ⟨r, hr⟩ : ∃ r, xrs[i]? = some r := ⟨_, List.getElem?_eq_getElem (by rw [HRr.out]; exact hi)⟩
              have hti : t.length = i := by
                have := turnL_length P.length (xrs.take i) q
                rw [HT.out, List.length_take, HRr.out] at this
                dsimp only at this
                omega
              have hlen : (t ++ xrs.drop i).length = R := by rw [List.length_append, List.length_drop, hti, HRr.out]; omega
              have hok' : QOk P.length q' := by
                have h1 := stP_ok HR.out.1 HR.out.2 k
                rw [HS.out] at h1
                have h2 := turnL_ok P.length (xrs.take i) q h1
                rw [HT.out] at h2
                exact h2
              have hle' := hok'.le
              rw [HPl.out, HM'.out] at hle'
              obtain ⟨rb, rfl⟩ : ∃ rb, cra = some ⟨rb, 0, none⟩ := own_some HJi.out.own.2 (by dsimp only; omega)
              have HTn : Seal (∀ q2 v, turn1 N q' r = (q2, v) → turnL P.length q (xrs.take (i + 1)) = (q2, t ++ [v])) := ⟨fun q2 v h => by
                rw [turnL_take hr, HT.out, HPl.out]
                dsimp only
                rw [h]⟩
              have HRi : Seal _ := ⟨hr⟩
              have HTi : Seal _ := ⟨hti⟩
              have HLn : Seal _ := ⟨hlen⟩
              have cr := HJi.out.ref hlen (mid_at hti hr)
              have cy := HJi.out.refs
              have fr := HJi.out.free i
              have cg := (cells4 HJi.out.base.g0).1
              clear hr hti hlen hok' HT hiR
              by_cases h0 : r = 0
              · subst h0
                have HE : Seal _ := ⟨HTn.out q' 0 (by rw [turn1, if_pos rfl])⟩
                have HJe : Seal _ := ⟨HJi.out⟩
                rw [keep_mid HRi.out] at HJe
                clear HTn hle' fr
                go_wp2_with fail
                exact ⟨⟨qg', qc', i + 1, q', t ++ [0], by rw [HM'.out], by omega, by go_num, HE, by rw [HM'.out]; exact HJe⟩, by simp only [intOf]; omega⟩
              · by_cases hb : r < 0 ∨ (N : Int) < r
                · have HE : Seal _ := ⟨HTn.out q' (-1) (by rw [turn1, if_neg h0, if_pos hb])⟩
                  have HJt : Seal _ := ⟨HJi.out.turned HRr.out HTi.out HRi.out (-1)⟩
                  clear HTn hle'
                  by_cases h1 : r < 0
                  · clear hb
                    go_wp2_with fail
                    exact ⟨⟨qg', qc', i + 1, q', t ++ [-1], by rw [HM'.out], by omega, by go_num, HE, by rw [HM'.out]; exact HJt⟩, by simp only [intOf]; omega⟩
                  · have h2 : (N : Int) < r := by omega
                    clear hb
                    go_wp2_with fail
                    exact ⟨⟨qg', qc', i + 1, q', t ++ [-1], by rw [HM'.out], by omega, by go_num, HE, by rw [HM'.out]; exact HJt⟩, by simp only [intOf]; omega⟩
                · have h1 : ¬ r < 0 := by omega
                  have h2 : ¬ (N : Int) < r := by omega
                  have e1 : IntKind.i64.wrap (r - 1) = r - 1 := by rw [IntKind.wrap_i64]; omega
                  obtain ⟨jx, hjx⟩ : ∃ jx, idxF q' (r - 1) = jx := ⟨_, rfl⟩
                  have HJx : Seal _ := ⟨hjx⟩
                  have HLe : Seal (m' ≤ 600) := ⟨by omega⟩
                  by_cases hx : jx < 0
                  · have HE : Seal _ := ⟨HTn.out (q' ++ [r - 1]) ((m' : Int) + 1) (by rw [turn1, if_neg h0, if_neg hb, hjx, if_pos hx, HM'.out])⟩
                    have e3 : IntKind.i64.wrap ((m' : Int) + 1) = (m' : Int) + 1 := by rw [IntKind.wrap_i64]; omega
                    clear HTn hle' hb hjx
                    go_wp2_with (first | (go_at_call 30; refine (Index_R (xs := q') (r - 1) (row_of_own HJi.out.base.queue) (by have := HLe.out; rw [HM'.out]; omega)).mono ?_; rintro e w2 ⟨rfl, hk2⟩; rw [HJx.out]; have HJ2 : Seal _ := ⟨HJi.out.next hk2⟩; have HQ2 : Seal _ := ⟨HJ2.out.base.queue⟩; rw [HM'.out] at HQ2; have HZ2 : Seal (w.heap.size + 2 ≤ w2.heap.size) := ⟨by have := own_block HQ2.out qg' rfl; omega⟩; clear hk2) | (at_builtin; obtain ⟨i0, hi0, hz0, hz1, hz2⟩ := info_parts (by kernel_rfl : (Tryd.prog.info? 3).map (fun i => (i.zero, i.size, i.bytes)) = some (some (.int .i64 0), 1, 8)); go_loud (refine wpList_append_own_at _ rfl (.tmp 78) (.tmp 81) 23 rfl (w.heap.size + 2) 3 i0 _ 1 8 Tryd.underlying23 hi0 hz0 hz1 hz2 rfl (by omega) (.slice (some ⟨qg', 0, none⟩) m' qc') m' (q'.map (.int .i64)) rfl (HQ2.out.alloc _) ⟨w2.heap.size, 0, none⟩ 1 1 [.int .i64 (r - 1)] rfl rfl (cell_one_new _ _ _) (fun u hu => (List.mem_singleton.1 hu) ▸ rfl) (by have := HLe.out; unfold maxLen; omega) (by have := HLe.out; omega) (Nat.le_trans HZ2.out (Keep.size ((Keep.refl Nope w2).alloc _))) ?_); go_loud (intro v' w3 hown hgrow hnil hat; obtain ⟨qa2, qc2, rfl⟩ := own_form hown; go_loud (obtain ⟨qg2, rfl⟩ := own_some hown (Nat.succ_pos _)); have hown2 := part_ints HM'.out hown; have hloc : (Value.slice (some ⟨qg2, 0, none⟩) (m' + 1) qc2).ownBlock = (Value.slice (some ⟨qg', 0, none⟩) m' qc').ownBlock ∨ ∃ b, (Value.slice (some ⟨qg2, 0, none⟩) (m' + 1) qc2).ownBlock = some b ∧ (w2.alloc (.cells #[.int .i64 (r - 1)] 3)).heap.size ≤ b := hat.elim .inl (fun h => .inr ⟨_, h, Nat.le_refl _⟩); have HJ3 : Seal _ := ⟨(HJ2.out.next ((Keep.refl _ _).alloc (.cells #[.int .i64 (r - 1)] 3))).grow hown2 hgrow hloc⟩; have cy3 := HJ3.out.refs; have fr3 := HJ3.out.free i; have cr3 := HJ3.out.ref HLn.out (mid_at HTi.out HRi.out); clear hi0 hz0 hz1 hz2 hat hnil hown hgrow hown2 hloc)))
                    have HJt : Seal _ := ⟨HJ3.out.turned HRr.out HTi.out HRi.out ((m' : Int) + 1)⟩
                    exact ⟨⟨qg2, qc2, i + 1, q' ++ [r - 1], t ++ [(m' : Int) + 1], by rw [List.length_append, HM'.out]; rfl, by omega, by go_num, HE, by rw [List.length_append, HM'.out]; exact HJt⟩, by simp only [intOf]; omega⟩
                  · have HE : Seal _ := ⟨HTn.out q' (jx + 1) (by rw [turn1, if_neg h0, if_neg hb, hjx, if_neg hx])⟩
                    have hxm : jx < (m' : Int) := by
                      rcases idxF_cases q' (r - 1) with ⟨h3, _⟩ | ⟨j3, h3, h4⟩
                      · omega
                      · have h5 := (List.getElem?_eq_some_iff.1 h4).1
                        rw [HM'.out] at h5
                        omega
                    have e3 : IntKind.i64.wrap (jx + 1) = jx + 1 := by rw [IntKind.wrap_i64]; omega
                    clear HTn hle' hb hjx hxm
                    go_wp2_with (go_at_call 30; refine (Index_R (xs := q') (r - 1) (row_of_own HJi.out.base.queue) (by have := HLe.out; rw [HM'.out]; omega)).mono ?_; rintro e w2 ⟨rfl, hk2⟩; rw [HJx.out]; have HJ2 : Seal _ := ⟨HJi.out.next hk2⟩; have cy2 := HJ2.out.refs; have fr2 := HJ2.out.free i; have cr2 := keepc hk2 cr; clear hk2)
                    have HJt : Seal _ := ⟨HJ2.out.turned HRr.out HTi.out HRi.out (jx + 1)⟩
                    exact ⟨⟨qg', qc', i + 1, q', t ++ [jx + 1], by rw [HM'.out], by omega, by go_num, HE, by rw [HM'.out]; exact HJt⟩, by simp only [intOf]; omega⟩
            · obtain rfl : i = R := by omega
              have hi' : ¬ (i : Int) < (i : Int) := by omega
              have HQm : Seal (k + 1 ≤ q'.length) := ⟨by
                have := turnL_grows P.length (xrs.take i) q
                rw [HT.out, HM.out] at this
                dsimp only at this
                have := HQ.out.2
                omega⟩
              have HTe : Seal (turnL P.length q xrs = (q', t)) := ⟨by
                have := HT.out
                rwa [List.take_of_length_le (by rw [HRr.out]; exact Nat.le_refl _)] at this⟩
              have HJe : Seal _ := ⟨HJi.out⟩
              rw [List.drop_eq_nil_of_le (by rw [HRr.out]; exact Nat.le_refl _), List.append_nil] at HJe
              have HND : Seal _ := ⟨HJe.out.base.nodes⟩
              rw [HOl.out] at HND
              have HZ2 : Seal (w.heap.size + 2 ≤ wr.heap.size) := ⟨by have := lt_of_heap HJe.out.base.out; omega⟩
              have HOle : Seal (ol ≤ 600) := ⟨by
                have hq2 := HQ.out
                have := stP_len (ns := P) (n := n) k (by rw [HS.out]; dsimp only; rw [HM.out]; omega)
                rw [HS.out, List.length_map, HOl.out] at this
                omega⟩
              obtain ⟨y0, y1, y2, y3⟩ := cells4 (show wr.heap[gy]? = some (.cells #[.int .i64 xt, .int .i64 xl, .slice cwa Wn cwc, .slice cra i crc] 41) from HJe.out.g)
              obtain ⟨o0, -, -, -⟩ := cells4 HJe.out.base.out
              clear hi hiR HT
              have hk6 : k < N := by have := HQ.out; omega
              have HNW : Seal ((wr.alloc (.cells #[.int .i64 xt, .int .i64 xl, .slice cwa Wn cwc, .slice cra i crc] 41)).heap[wr.heap.size]? = some (.cells #[.int .i64 xt, .int .i64 xl, .slice cwa Wn cwc, .slice cra i crc] 41 (0, 0))) := ⟨World.alloc_heap_new _ _⟩
              have HNX2 : Seal (stP P n (k + 1) = (q', (outs ++ [(⟨xt, xl, .slice cwa Wn cwc, .slice cra i crc, xws, t⟩ : NodeV)]).map NodeV.p)) := ⟨by
                rw [stP_some (j := (jn : Int)) (y := ⟨xt, xl, xws, xrs⟩) (by rw [HS.out]; exact HJ.out) HXp.out, HS.out, List.map_append]
                show ((turnL P.length q xrs).1, outs.map NodeV.p ++ [(⟨xt, xl, xws, (turnL P.length q xrs).2⟩ : NodeP)]) = _
                rw [HTe.out]
                rfl⟩
              go_wp2_with (at_builtin; obtain ⟨i0, hi0, hz0, hz1, hz2⟩ := info_parts (by kernel_rfl : (Tryd.prog.info? 41).map (fun i => (i.zero, i.size, i.bytes)) = some (some (.agg #[.int .i64 0, .int .i64 0, .slice none 0 0, .slice none 0 0]), 4, 64)); go_loud (refine wpList_append_own_at _ rfl (.tmp 91) (.tmp 93) 22 rfl (w.heap.size + 2) 41 i0 _ 4 64 Tryd.underlying22 hi0 hz0 hz1 hz2 rfl (by omega) (.slice nva ol nvc) ol (cellsN outs) rfl (HND.out.alloc _) ⟨wr.heap.size, 0, none⟩ 1 1 [.int .i64 xt, .int .i64 xl, .slice cwa Wn cwc, .slice cra i crc] rfl rfl (World.news_of_block HNW.out) (by intro u hu; simp at hu; rcases hu with rfl | rfl | rfl | rfl <;> rfl) (by have := HOle.out; unfold maxLen; omega) (by have := HOle.out; omega) (Nat.le_trans HZ2.out (Keep.size ((Keep.refl Nope wr).alloc _))) ?_); go_loud (intro v' w3 hown hgrow hnil hat; obtain ⟨na, nc, rfl⟩ := own_form hown; have HP3 : Seal (∀ w4, w4 = w3.setCell ⟨w.heap.size + 1, 0, none⟩ (.slice na (ol + 1) nc) → PartI w w4 _ q' _ (.slice na (ol + 1) nc) (outs ++ [⟨xt, xl, .slice cwa Wn cwc, .slice cra i crc, xws, t⟩])) := ⟨fun w4 h4 => (HJe.out.next ((Keep.refl _ _).alloc (.cells #[.int .i64 xt, .int .i64 xl, .slice cwa Wn cwc, .slice cra i crc] 41))).push (by rw [List.length_append, HOl.out]; exact part_cells hown) hgrow h4⟩; have o3 := (World.grownBy.keep hgrow).at_ ((HJe.out.next ((Keep.refl _ _).alloc (.cells #[.int .i64 xt, .int .i64 xl, .slice cwa Wn cwc, .slice cra i crc] 41))).base.out) (fun e => by have := (own_block HND.out _ e).1; omega); have o30 := cell_at o3 (i := 0) rfl; have f30 := free_of_block o3 0; clear hi0 hz0 hz1 hz2 hat hnil hown hgrow o3))
              exact ⟨⟨qg', qc', k + 1, q', _, outs ++ [⟨xt, xl, .slice cwa Wn cwc, .slice cra i crc, xws, t⟩], by rw [HM'.out], ⟨HQm.out, by have := HQm.out; omega⟩, by have := HQ.out; go_num, by rw [HM'.out]; exact ⟨HP3.out _ rfl⟩, HNX2⟩, by have := HQ.out; simp only [intOf]; omega⟩
        · obtain rfl : k = m := by omega
          have hk' : ¬ (k : Int) < (k : Int) := by omega
          obtain ⟨c0, c1, c2, c3⟩ := cells4 HIr.out.out
          have fr := free_of_block HIr.out.out
          clear hkq hk
          go_wp2_with fail
          obtain ⟨wX, hX⟩ : ∃ wX, wX = ((((wr.setCell ⟨w.heap.size + 1, 1, none⟩ (.slice (some ⟨wr.heap.size, 0, none⟩) 1 1)).setCell ⟨w.heap.size + 1, 0, none⟩ (.slice nva ol nvc)).setCell ⟨w.heap.size + 1, 1, none⟩ (.slice (some ⟨wr.heap.size, 0, none⟩) 1 1)).setCell ⟨w.heap.size + 1, 2, none⟩ (.slice none 0 0)).setCell ⟨w.heap.size + 1, 3, none⟩ (.slice none 0 0) := ⟨_, rfl⟩
          rw [← hX]
          obtain ⟨hx1, hx2, hx3⟩ := chain5 HIr.out.out _ _ _ _ _ wX hX
          clear hX
          have hx4 := (Below.heap_alloc wX (.cells #[.int .i64 0] 3) _ (lt_of_heap hx1)).trans hx1
          obtain ⟨d0, d1, d2, d3⟩ := cells4 hx4
          exact bodyPost_ret (v := .agg #[.slice nva ol nvc, .slice (some ⟨wr.heap.size, 0, none⟩) 1 1, .slice none 0 0, .slice none 0 0]) (by simp [results, Tryd.results15, go_sem, d0, d1, d2, d3]) rfl ⟨_, rfl, part_done HR.out HIr.out HS.out HM.out hq1 hx2 hx3⟩

end Go.Proofs.YtifdhaiihlfomaaDoor
