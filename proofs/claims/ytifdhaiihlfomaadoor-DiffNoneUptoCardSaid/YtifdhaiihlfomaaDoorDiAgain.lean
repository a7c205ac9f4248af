/-
  DiffAgain, beside leavers. Printed by tools/againc.py.
-/
import Derived.Test.YtifdhaiihlfomaaDoorDiAlive
namespace Go.Proofs.YtifdhaiihlfomaaDoor
open Go Go.RowKit Go.Conc
set_option linter.unusedVariables false
set_option linter.unusedSimpArgs false

section
variable {fn : FuncId} {ops : Array Oper} {Q : Exit → Act → World → Prop} {x y : Code} {a : Act} {w w' : World}
theorem wpD_first {P : Program} (h : ∀ K : Act → World → Prop, Hid (∀ a' w', wpD P fn y Q a' w' → K a' w') → wpD P fn x (Exit.then K Q) a w) : wpD P fn (.seq x y) Q a w := wpD_seq (h _ ⟨fun _ _ x => x⟩)
theorem dun {i : Nat} {rest : List Nat} {o : Oper} (h : OpsD Tryd.prog fn ops rest Q (a.put o.dst undef) w) (ho : ops[i]? = some o := by rfl) (hw : Region.wanted o (yielded ops a.tmps) = false := by rfl) : OpsD Tryd.prog fn ops (i :: rest) Q a w := opsD_unwanted ho hw h
theorem wpD.rely {P : Program} {c : Code} {w₁ : World} (h : wpD P fn c Q a w) (r : AtRel w w₁) : wpD P fn c Q a w₁ := fun b k cs S hb hk hc => Drive.rely (h b k cs S hb hk hc) r
theorem wpD_step_held {P : Program} {id : Nat} {S : World → Prop} (h : ∀ w₁, AtRel w w₁ → ∀ K : Act → World → Prop, Hid (∀ a x z, K a x → AtRel x z → K a z) → Hid (∀ a' w', wpD P fn y Q a' w' → K a' w') → AnyD P fn .any ops (onN K) S ops.size (Array.replicate ops.size false) a { w₁ with drawn := w₁.drawn + 1 })
    (hm : P.follows .mixedOrders = true := by kernel_rfl) : wpD P fn (.seq (.region id ops true) y) Q a w :=
  wpD_seq (wpD_mono (wpD_region_held hm fun w₁ h₁ => h w₁ h₁ (fun a' w' => wpD P fn y Q a' w') ⟨fun _ _ _ k r => k.rely r⟩ ⟨fun _ _ x => x⟩) (onN_to fun _ _ x => x))
/-- What the last statement reads. -/
structure AgS (V : World) (g b : Nat) (x0 x1 x2 x3 y0 y1 y2 y3 : Value) (w : World) : Prop where
  c0 : w.cell? ⟨g, 0, none⟩ = some x0
  c1 : w.cell? ⟨g, 1, none⟩ = some x1
  c2 : w.cell? ⟨g, 2, none⟩ = some x2
  c3 : w.cell? ⟨g, 3, none⟩ = some x3
  d0 : w.cell? ⟨b, 0, none⟩ = some y0
  d1 : w.cell? ⟨b, 1, none⟩ = some y1
  d2 : w.cell? ⟨b, 2, none⟩ = some y2
  d3 : w.cell? ⟨b, 3, none⟩ = some y3
  o : Seal (Older V w)
theorem AgS.old {V : World} {g b : Nat} {x0 x1 x2 x3 y0 y1 y2 y3 : Value} {w : World} (h : AgS V g b x0 x1 x2 x3 y0 y1 y2 y3 w) : Older V w := h.o.out
theorem AgS.next {V : World} {g b : Nat} {x0 x1 x2 x3 y0 y1 y2 y3 : Value} {w w' : World} (h : AgS V g b x0 x1 x2 x3 y0 y1 y2 y3 w) (k : Older w w') : AgS V g b x0 x1 x2 x3 y0 y1 y2 y3 w' :=
  ⟨k.cell h.c0, k.cell h.c1, k.cell h.c2, k.cell h.c3, k.cell h.d0, k.cell h.d1, k.cell h.d2, k.cell h.d3, ⟨h.o.out.trans k⟩⟩
theorem dany {V : World} {g b : Nat} {x0 x1 x2 x3 y0 y1 y2 y3 : Value} {K : Act → World → Prop} (i : Nat) {oi : Oper} {v : Value} {fuel : Nat} {listed : Array Bool}
    (h : AnyD Tryd.prog fn .any ops (onN K) (AgS V g b x0 x1 x2 x3 y0 y1 y2 y3) fuel (listed.setIfInBounds i true) (a.put oi.dst v) w) (hK : Hid (∀ a x z, K a x → AtRel x z → K a z) := by assumption) (hS : AgS V g b x0 x1 x2 x3 y0 y1 y2 y3 w := by assumption) (hi : ops[i]? = some oi := by rfl)
    (hy : ∀ w, AgS V g b x0 x1 x2 x3 y0 y1 y2 y3 w → (execOp a.eval oi).run Tryd.prog w = .ok (.value v) w := by (intro w0 hSw; obtain ⟨z0, z1, z2, z3, z4, z5, z6, z7, -⟩ := hSw; go_simp; (first | done | exact ⟨rfl, rfl⟩ | exact rfl)))
    (hw : Region.wanted oi (yielded ops a.tmps) = true := by kernel_rfl) (hkind : kindOk Tryd.prog envD fn oi.op = true := by kernel_rfl) (hs : Region.noSelect ops = true := by kernel_rfl) (hf : Region.free .any ops listed i = true := by kernel_rfl) (hr : (Region.ready .any ops listed).contains i = true := by kernel_rfl)
    (hpins : ∀ i, envD.pins fn i = false := by exact fun _ => rfl) : AnyD Tryd.prog fn .any ops (onN K) (AgS V g b x0 x1 x2 x3 y0 y1 y2 y3) (fuel + 1) listed a w :=
  anyD_mild envD_ok calmD hpins (fun x y h r => h.next (Older.rel r)) (fun a x y h r => hK.out a x y h r) i hy hi hw hkind hs hf hr hS h
end
/-- The empty graph. -/
def zeroG : GraphV := ⟨.slice none 0 0, .slice none 0 0, .slice none 0 0, .slice none 0 0, [], [], [], []⟩
theorem zeroG_R (w : World) : GraphR w zeroG := ⟨⟨none, 0, rfl, fun i x h => by simp [zeroG] at h⟩, row_none _ _, row_none _ _, row_none _ _⟩
theorem part_out {P : List NodeP} {n : Int} (h : n < 0 ∨ (P.length : Int) ≤ n) : partP P n = [] := by rw [partP, if_pos h]
theorem long_le {x : GraphV} (h : longB x = false) : x.ns.length ≤ 600 := by
  unfold longB sizeTo at h
  have := of_decide_eq_false h
  omega

set_option maxRecDepth 20000 in
set_option maxHeartbeats 8000000 in
theorem again_T {x : GraphV} {w : World} (hx : GraphR w x) (hl : GraphL x) (n : Int) :
    Drive Tryd.prog (fun a' w' => a'.status = .running ∧ ∃ v es, (∀ e ∈ es, quietE e) ∧ ∀ d, stepG Tryd.prog true a' (w'.at d) = .ended (.done v) (w'.at d) es ∧ (v = .bool true ∧ Older w (w'.at d))) (G (Frame.enter Tryd.prog 5 #[x.val, .int .i64 n] .normal) []) w := by
  obtain ⟨xnv, xhv, xpv, xsv, xns, xhs, xps, xss⟩ := x
  obtain ⟨xha, xhn, xhc, rfl⟩ := row_form hx.hands
  obtain ⟨xpa, xpn, xpc, rfl⟩ := row_form hx.pins
  obtain ⟨xsa, xsn, xsc, rfl⟩ := row_form hx.stack
  obtain ⟨N, hN⟩ : ∃ N, xns.length = N := ⟨_, rfl⟩
  obtain ⟨xna, xnc, e1, -⟩ := id hx.nodes
  dsimp only at e1
  subst e1
  rw [hN] at hx hl ⊢
  have hPl : (GraphV.p ⟨.slice xna N xnc, .slice xha xhn xhc, .slice xpa xpn xpc, .slice xsa xsn xsc, xns, xhs, xps, xss⟩).length = N := by simp [GraphV.p, hN]
  refine drive_top (R := fun v w' => v = .bool true ∧ Older w w') Tryd.func5 (by rfl) ?_ (fun v w' d h => ⟨h.1, h.2.trans (Older.rel ⟨d, rfl⟩)⟩) (by kernel_rfl)
  simp only [Tryd.ntmps5, GraphV.val, List.size_toArray, List.length_cons, List.length_nil, Nat.reduceAdd, Nat.reduceSub, Array.replicate_succ, Array.replicate_zero, List.push_toArray, List.append_toArray, List.nil_append, List.cons_append]
  refine wpD_step fun K hK => ?_
  simp only [List.size_toArray, List.length_cons, List.length_nil, Nat.reduceAdd, Nat.zero_add, List.range, List.range.loop]
  refine dop ?_
  walk_nrm
  refine dop ?_
  walk_nrm
  obtain ⟨g, hg⟩ : ∃ g, w.heap.size = g := ⟨_, rfl⟩
  have p0 : (w.alloc (.cells #[.slice xna N xnc, .slice xha xhn xhc, .slice xpa xpn xpc, .slice xsa xsn xsc] 25)).heap[g]? = some (.cells #[.slice xna N xnc, .slice xha xhn xhc, .slice xpa xpn xpc, .slice xsa xsn xsc] 25) := by rw [← hg]; exact World.alloc_heap_new _ _
  have BO : Older w (w.alloc (.cells #[.slice xna N xnc, .slice xha xhn xhc, .slice xpa xpn xpc, .slice xsa xsn xsc] 25)) := Older.alloc _ _
  rw [hg]
  obtain ⟨W, hW⟩ : ∃ W, w.alloc (.cells #[.slice xna N xnc, .slice xha xhn xhc, .slice xpa xpn xpc, .slice xsa xsn xsc] 25) = W := ⟨_, rfl⟩
  rw [hW] at p0 BO ⊢
  clear hW hg
  have R := hx.kb BO
  obtain ⟨c0, c1, c2, c3⟩ := cells4 p0
  clear p0 hx
  refine opsD_nil ?_
  refine hK.out _ _ ?_
  clear hK K
  refine wpD_first fun KA hKA => ?_
  refine wpD_step fun K hK => ?_
  simp only [List.size_toArray, List.length_cons, List.length_nil, Nat.reduceAdd, Nat.zero_add, List.range, List.range.loop]
  refine dop ?_
  walk_nrm
  refine opsD_call rfl (by rfl) rfl (av := #[(⟨.slice xna N xnc, .slice xha xhn xhc, .slice xpa xpn xpc, .slice xsa xsn xsc, xns, xhs, xps, xss⟩ : GraphV).val]) (by simp [go_sem, GraphV.val, zeroG]) Tryd.func6 (by rfl) (by rfl) (Long_D R hl) ?_
  rintro v w' ⟨rfl, ko⟩
  try walk_nrm
  replace c0 := ko.cell c0
  replace c1 := ko.cell c1
  replace c2 := ko.cell c2
  replace c3 := ko.cell c3
  replace R := R.kb ko
  replace BO := BO.trans ko
  clear ko
  refine opsD_nil ?_
  refine hK.out _ _ ?_
  clear hK K
  obtain ⟨lb, hlb⟩ : ∃ lb, longB ⟨.slice xna N xnc, .slice xha xhn xhc, .slice xpa xpn xpc, .slice xsa xsn xsc, xns, xhs, xps, xss⟩ = lb := ⟨_, rfl⟩
  rw [hlb]
  cases lb with
  | true =>
    refine wpD_true rfl ?_
    refine wpD_step fun K hK => ?_
    simp only [List.size_toArray, List.length_cons, List.length_nil, Nat.reduceAdd, Nat.zero_add, List.range, List.range.loop]
    refine opsD_call rfl (by rfl) rfl (av := #[]) (by simp [go_sem, GraphV.val, zeroG]) Tryd.func7 (by rfl) (by rfl) (alive_D _) ?_
    rintro v w' ⟨rfl, ko⟩
    try walk_nrm
    refine dop ?_
    walk_nrm
    refine opsD_nil ?_
    refine hK.out _ _ ?_
    clear hK K
    exact wpD_ret ⟨rfl, _, resultsC_tmp (t := 4) (by rfl) _, rfl, BO.trans ko⟩
  | false =>
    have hn6 : N ≤ 600 := by
      have h := long_le hlb
      dsimp only at h
      rwa [hN] at h
    clear hlb
    refine wpD_false rfl (wpD_skip (hKA.out _ _ ?_))
    clear hKA KA
    refine wpD_step fun K hK => ?_
    simp only [List.size_toArray, List.length_cons, List.length_nil, Nat.reduceAdd, Nat.zero_add, List.range, List.range.loop]
    refine dop ?_
    walk_nrm
    refine dop ?_
    walk_nrm
    refine opsD_call rfl (by rfl) rfl (av := #[(⟨.slice xna N xnc, .slice xha xhn xhc, .slice xpa xpn xpc, .slice xsa xsn xsc, xns, xhs, xps, xss⟩ : GraphV).val, .int .i64 n]) (by simp [go_sem, GraphV.val, zeroG]) Tryd.func15 (by rfl) (by rfl) (Part_D R hl (by dsimp only; omega) n) ?_
    rintro v w' ⟨⟨ynv, yhv, ypv, ysv, yns, yhs, yps, yss⟩, rfl, hp, hh, ho, ko⟩
    try walk_nrm
    replace c0 := ko.cell c0
    replace c1 := ko.cell c1
    replace c2 := ko.cell c2
    replace c3 := ko.cell c3
    replace R := R.kb ko
    replace BO := BO.trans ko
    clear ko
    have LY := part_small hl (by dsimp only; omega) hp hh ho
    obtain ⟨yna, ync, e1⟩ := own_form ho.nodes
    dsimp only at e1
    subst e1
    obtain ⟨M, hM⟩ : ∃ M, yns.length = M := ⟨_, rfl⟩
    rw [hM] at hp hh ho LY ⊢
    obtain ⟨-, ⟨yha, yhn, yhc, rfl⟩, rfl, rfl⟩ := ho.forms
    have hyps : yps = [] := ho.pins.2
    have hyss : yss = [] := ho.stack.2
    have RY := ho.graph
    clear ho
    dsimp only [GraphV.val]
    obtain ⟨b, hz⟩ : ∃ r, w'.heap.size = r := ⟨_, rfl⟩
    refine dop ?_
    walk_nrm
    have hh2 : (w'.alloc (.cells #[.slice none 0 0, .slice none 0 0, .slice none 0 0, .slice none 0 0] 25)).heap[b]? = some (.cells #[.slice none 0 0, .slice none 0 0, .slice none 0 0, .slice none 0 0] 25) := by rw [← hz]; exact World.alloc_heap_new _ _
    have kk : Older w' (w'.alloc (.cells #[.slice none 0 0, .slice none 0 0, .slice none 0 0, .slice none 0 0] 25)) := Older.alloc _ _
    try rw [hz]
    obtain ⟨U, hU⟩ : ∃ U, w'.alloc (.cells #[.slice none 0 0, .slice none 0 0, .slice none 0 0, .slice none 0 0] 25) = U := ⟨_, rfl⟩
    rw [hU] at hh2 kk ⊢
    clear hU
    have f0 := free_of_block hh2 0; have f1 := free_of_block hh2 1; have f2 := free_of_block hh2 2; have f3 := free_of_block hh2 3
    obtain ⟨e0, e1, e2, e3⟩ := cells4 hh2
    refine dops ?_
    walk_nrm
    obtain ⟨V, hV⟩ : ∃ V, V = World.setCell (World.setCell (World.setCell (World.setCell U ⟨b, 0, none⟩ (.slice yna M ync)) ⟨b, 1, none⟩ (.slice yha yhn yhc)) ⟨b, 2, none⟩ (.slice none 0 0)) ⟨b, 3, none⟩ (.slice none 0 0) := ⟨_, rfl⟩
    rw [← hV]
    obtain ⟨pg, ks⟩ := store4 hh2 _ _ _ _ V hV
    have kv : Older w' V := ⟨Nat.le_trans kk.size ks.size, fun i hi => (ks.block i (Nat.lt_of_lt_of_le hi kk.size) (fun (e : i = _) => by omega)).trans (kk.block i hi), ks.os.trans kk.os, ks.output.trans kk.out⟩
    obtain ⟨d0, d1, d2, d3⟩ := cells4 pg
    replace c0 := kv.cell c0
    replace c1 := kv.cell c1
    replace c2 := kv.cell c2
    replace c3 := kv.cell c3
    replace R := R.kb kv
    replace RY := RY.kb kv
    replace BO := BO.trans kv
    clear f0 f1 f2 f3 e0 e1 e2 e3 hV ks hh2 kk hz pg kv
    refine opsD_nil ?_
    refine hK.out _ _ ?_
    clear hK K
    refine wpD_first fun KA hKA => ?_
    by_cases h0 : n < 0
    · skip
      refine wpD_step fun K hK => ?_
      simp only [List.size_toArray, List.length_cons, List.length_nil, Nat.reduceAdd, Nat.zero_add, List.range, List.range.loop]
      refine dop ?_
      walk_nrm
      refine dop ?_
      walk_nrm
      refine dop ?_
      walk_nrm
      refine dun ?_
      walk_nrm
      refine dun ?_
      walk_nrm
      refine dun ?_
      walk_nrm
      refine dun ?_
      walk_nrm
      refine dun ?_
      walk_nrm
      refine dop ?_
      walk_nrm
      refine opsD_nil ?_
      refine hK.out _ _ ?_
      clear hK K
      rw [part_out (P := (⟨.slice xna N xnc, .slice xha xhn xhc, .slice xpa xpn xpc, .slice xsa xsn xsc, xns, xhs, xps, xss⟩ : GraphV).p) (.inl h0)] at hp
      have hy0 : Seal (yns = []) := ⟨by simpa [GraphV.p] using hp⟩
      have hy1 : yhs = [] := by rw [show yhs = _ from hh, if_pos hy0.out]
      refine wpD_true rfl ?_
      refine wpD_step fun K hK => ?_
      simp only [List.size_toArray, List.length_cons, List.length_nil, Nat.reduceAdd, Nat.zero_add, List.range, List.range.loop]
      refine dop ?_
      walk_nrm
      refine dop ?_
      walk_nrm
      have hsm := sameG_true (y := ⟨.slice yna M ync, .slice yha yhn yhc, .slice none 0 0, .slice none 0 0, yns, yhs, yps, yss⟩) (z := zeroG) hp hy1 hyps hyss
      refine opsD_call rfl (by rfl) rfl (av := #[(⟨.slice yna M ync, .slice yha yhn yhc, .slice none 0 0, .slice none 0 0, yns, yhs, yps, yss⟩ : GraphV).val, zeroG.val]) (by simp [go_sem, GraphV.val, zeroG]) Tryd.func14 (by rfl) (by rfl) (Same_D RY (zeroG_R _) LY.1) ?_
      rintro v w' ⟨rfl, ko⟩
      try walk_nrm
      rw [hsm]
      replace BO := BO.trans ko
      refine dop ?_
      walk_nrm
      refine opsD_call rfl (by rfl) rfl (av := #[]) (by simp [go_sem, GraphV.val, zeroG]) Tryd.func7 (by rfl) (by rfl) (alive_D _) ?_
      rintro v w' ⟨rfl, ko2⟩
      try walk_nrm
      refine dop ?_
      walk_nrm
      refine dop ?_
      walk_nrm
      refine opsD_nil ?_
      refine hK.out _ _ ?_
      clear hK K
      exact wpD_ret ⟨rfl, _, resultsC_tmp (t := 4) (by rfl) _, rfl, BO.trans ko2⟩
    · by_cases h1 : (N : Int) ≤ n
      · skip
        refine wpD_step fun K hK => ?_
        simp only [List.size_toArray, List.length_cons, List.length_nil, Nat.reduceAdd, Nat.zero_add, List.range, List.range.loop]
        refine dop ?_
        walk_nrm
        refine dop ?_
        walk_nrm
        refine dop ?_
        walk_nrm
        refine dop ?_
        walk_nrm
        refine dop ?_
        walk_nrm
        refine dop ?_
        walk_nrm
        refine dop ?_
        walk_nrm
        refine dop ?_
        walk_nrm
        refine dop ?_
        walk_nrm
        refine opsD_nil ?_
        refine hK.out _ _ ?_
        clear hK K
        rw [part_out (P := (⟨.slice xna N xnc, .slice xha xhn xhc, .slice xpa xpn xpc, .slice xsa xsn xsc, xns, xhs, xps, xss⟩ : GraphV).p) (.inr (by rw [hPl]; exact h1))] at hp
        have hy0 : Seal (yns = []) := ⟨by simpa [GraphV.p] using hp⟩
        have hy1 : yhs = [] := by rw [show yhs = _ from hh, if_pos hy0.out]
        refine wpD_true rfl ?_
        refine wpD_step fun K hK => ?_
        simp only [List.size_toArray, List.length_cons, List.length_nil, Nat.reduceAdd, Nat.zero_add, List.range, List.range.loop]
        refine dop ?_
        walk_nrm
        refine dop ?_
        walk_nrm
        have hsm := sameG_true (y := ⟨.slice yna M ync, .slice yha yhn yhc, .slice none 0 0, .slice none 0 0, yns, yhs, yps, yss⟩) (z := zeroG) hp hy1 hyps hyss
        refine opsD_call rfl (by rfl) rfl (av := #[(⟨.slice yna M ync, .slice yha yhn yhc, .slice none 0 0, .slice none 0 0, yns, yhs, yps, yss⟩ : GraphV).val, zeroG.val]) (by simp [go_sem, GraphV.val, zeroG]) Tryd.func14 (by rfl) (by rfl) (Same_D RY (zeroG_R _) LY.1) ?_
        rintro v w' ⟨rfl, ko⟩
        try walk_nrm
        rw [hsm]
        replace BO := BO.trans ko
        refine dop ?_
        walk_nrm
        refine opsD_call rfl (by rfl) rfl (av := #[]) (by simp [go_sem, GraphV.val, zeroG]) Tryd.func7 (by rfl) (by rfl) (alive_D _) ?_
        rintro v w' ⟨rfl, ko2⟩
        try walk_nrm
        refine dop ?_
        walk_nrm
        refine dop ?_
        walk_nrm
        refine opsD_nil ?_
        refine hK.out _ _ ?_
        clear hK K
        exact wpD_ret ⟨rfl, _, resultsC_tmp (t := 4) (by rfl) _, rfl, BO.trans ko2⟩
      · skip
        refine wpD_step fun K hK => ?_
        simp only [List.size_toArray, List.length_cons, List.length_nil, Nat.reduceAdd, Nat.zero_add, List.range, List.range.loop]
        refine dop ?_
        walk_nrm
        refine dop ?_
        walk_nrm
        refine dop ?_
        walk_nrm
        refine dop ?_
        walk_nrm
        refine dop ?_
        walk_nrm
        refine dop ?_
        walk_nrm
        refine dop ?_
        walk_nrm
        refine dop ?_
        walk_nrm
        refine dop ?_
        walk_nrm
        refine opsD_nil ?_
        refine hK.out _ _ ?_
        clear hK K
        refine wpD_false rfl (wpD_skip (hKA.out _ _ ?_))
        clear hKA KA
        obtain ⟨ag1, ag2, ag3⟩ := partP_again (ns := (⟨.slice xna N xnc, .slice xha xhn xhc, .slice xpa xpn xpc, .slice xsa xsn xsc, xns, xhs, xps, xss⟩ : GraphV).p) (n := n) (by omega) (by omega)
        have hyl : (partP (⟨.slice xna N xnc, .slice xha xhn xhc, .slice xpa xpn xpc, .slice xsa xsn xsc, xns, xhs, xps, xss⟩ : GraphV).p n).length = M := by rw [← hp, ← hM]; simp [GraphV.p]
        rw [hyl] at ag2 ag3
        rw [hPl] at ag3
        have hne : partP (⟨.slice xna N xnc, .slice xha xhn xhc, .slice xpa xpn xpc, .slice xsa xsn xsc, xns, xhs, xps, xss⟩ : GraphV).p n ≠ [] := fun h => by rw [h] at hyl; simp at hyl; omega
        have hag : partP (⟨.slice yna M ync, .slice yha yhn yhc, .slice none 0 0, .slice none 0 0, yns, yhs, yps, yss⟩ : GraphV).p 0 = (⟨.slice yna M ync, .slice yha yhn yhc, .slice none 0 0, .slice none 0 0, yns, yhs, yps, yss⟩ : GraphV).p := by rw [hp]; exact ag1
        have LY2 : yns.length ≤ 600 := by rw [hM]; exact LY.2
        have m1 : (1 : Int) ≤ (M : Int) := by omega
        have m2 : (M : Int) ≤ (N : Int) := by omega
        clear ag1 ag2 ag3 hyl
        have hS0 : AgS V g b (.slice xna N xnc) (.slice xha xhn xhc) (.slice xpa xpn xpc) (.slice xsa xsn xsc) (.slice yna M ync) (.slice yha yhn yhc) (.slice none 0 0) (.slice none 0 0) V := ⟨c0, c1, c2, c3, d0, d1, d2, d3, ⟨Older.refl _⟩⟩
        clear c0 c1 c2 c3 d0 d1 d2 d3
        refine wpD_step_held (S := AgS V g b (.slice xna N xnc) (.slice xha xhn xhc) (.slice xpa xpn xpc) (.slice xsa xsn xsc) (.slice yna M ync) (.slice yha yhn yhc) (.slice none 0 0) (.slice none 0 0)) fun w₁ hw₁ K hKc hK => ?_
        have hS := hS0.next (Older.rel hw₁)
        replace hS := hS.next (w' := { w₁ with drawn := w₁.drawn + 1 }) ⟨Nat.le_refl _, fun _ _ => rfl, rfl, rfl⟩
        generalize ({ w₁ with drawn := w₁.drawn + 1 } : World) = Z at hS ⊢
        clear hw₁ hS0 w₁
        simp only [List.size_toArray, List.length_cons, List.length_nil, Nat.reduceAdd, Nat.zero_add]
        refine dany 0 ?_
        walk_nrm
        refine dany 1 ?_
        walk_nrm
        refine dany 2 ?_
        walk_nrm
        refine dany 3 ?_
        walk_nrm
        refine dany 4 ?_
        walk_nrm
        refine dany 5 ?_
        walk_nrm
        refine dany 6 ?_
        walk_nrm
        refine dany 7 ?_
        walk_nrm
        refine dany 8 ?_
        walk_nrm
        refine dany 9 ?_
        walk_nrm
        refine dany 10 ?_
        walk_nrm
        refine dany 11 ?_
        walk_nrm
        refine dany 12 ?_
        walk_nrm
        refine dany 13 ?_
        walk_nrm
        refine dany 14 ?_
        walk_nrm
        refine dany 16 ?_
        walk_nrm
        refine anyD_call (i := 15) (by kernel_rfl) rfl (by rfl) rfl (av := #[(⟨.slice yna M ync, .slice yha yhn yhc, .slice none 0 0, .slice none 0 0, yns, yhs, yps, yss⟩ : GraphV).val, .int .i64 0]) (by simp [go_sem, GraphV.val, zeroG]) Tryd.func15 (by rfl) (by rfl) (Part_D (RY.kb hS.old) LY.1 LY2 0) ?_
        rintro v w' ⟨⟨znv, zhv, zpv, zsv, zns, zhs, zps, zss⟩, rfl, zp, zh, zo, ko⟩
        have LZ := part_small LY.1 LY2 zp zh zo
        have RZ := zo.graph
        have hsz := (sameG_part zh hh (zo.pins.2.trans hyps.symm) (zo.stack.2.trans hyss.symm)).2 (zp.trans hag)
        obtain ⟨⟨zna, znn, znc, rfl⟩, ⟨zha, zhn, zhc, rfl⟩, rfl, rfl⟩ := zo.forms
        clear zo zp zh
        replace hS := hS.next ko
        refine ⟨hS, ?_⟩
        clear ko
        try walk_nrm
        dsimp only [GraphV.val]
        refine anyD_call (i := 17) (by kernel_rfl) rfl (by rfl) rfl (av := #[(⟨.slice zna znn znc, .slice zha zhn zhc, .slice none 0 0, .slice none 0 0, zns, zhs, zps, zss⟩ : GraphV).val, (⟨.slice yna M ync, .slice yha yhn yhc, .slice none 0 0, .slice none 0 0, yns, yhs, yps, yss⟩ : GraphV).val]) (by simp [go_sem, GraphV.val, zeroG]) Tryd.func14 (by rfl) (by rfl) (Same_D RZ (RY.kb hS.old) LZ.1) ?_
        rintro v w' ⟨rfl, ko⟩
        rw [hsz]
        replace hS := hS.next ko
        refine ⟨hS, ?_⟩
        clear ko
        try walk_nrm
        refine dany 18 ?_
        walk_nrm
        refine dany 19 ?_
        walk_nrm
        refine dany 20 ?_
        walk_nrm
        refine dany 21 ?_
        walk_nrm
        refine dany 22 ?_
        walk_nrm
        refine anyD_call (i := 23) (by kernel_rfl) rfl (by rfl) rfl (av := #[(⟨.slice xna N xnc, .slice xha xhn xhc, .slice xpa xpn xpc, .slice xsa xsn xsc, xns, xhs, xps, xss⟩ : GraphV).val, .int .i64 n, (⟨.slice yna M ync, .slice yha yhn yhc, .slice none 0 0, .slice none 0 0, yns, yhs, yps, yss⟩ : GraphV).val, .int .i64 0]) (by simp [go_sem, GraphV.val, zeroG]) Tryd.func16 (by rfl) (by rfl) (Alike_D (R.kb hS.old) hl (by dsimp only; omega) (RY.kb hS.old) LY.1 LY2 n 0) ?_
        rintro v w' ⟨r, rfl, hr, ko⟩
        obtain rfl : r = true := hr.2 ⟨hne, by rw [hag, hp]⟩
        clear hr
        replace hS := hS.next ko
        refine ⟨hS, ?_⟩
        clear ko
        try walk_nrm
        refine dany 24 ?_
        walk_nrm
        refine dany 25 ?_
        walk_nrm
        refine dany 26 ?_
        walk_nrm
        refine dany 27 ?_
        walk_nrm
        refine dany 28 ?_
        walk_nrm
        refine anyD_call (i := 29) (by kernel_rfl) rfl (by rfl) rfl (av := #[(⟨.slice yna M ync, .slice yha yhn yhc, .slice none 0 0, .slice none 0 0, yns, yhs, yps, yss⟩ : GraphV).val, .int .i64 0, (⟨.slice xna N xnc, .slice xha xhn xhc, .slice xpa xpn xpc, .slice xsa xsn xsc, xns, xhs, xps, xss⟩ : GraphV).val, .int .i64 n]) (by simp [go_sem, GraphV.val, zeroG]) Tryd.func16 (by rfl) (by rfl) (Alike_D (RY.kb hS.old) LY.1 LY2 (R.kb hS.old) hl (by dsimp only; omega) 0 n) ?_
        rintro v w' ⟨r, rfl, hr, ko⟩
        obtain rfl : r = true := hr.2 ⟨by rw [hag, hp]; exact hne, by rw [hag, hp]⟩
        clear hr
        replace hS := hS.next ko
        refine ⟨hS, ?_⟩
        clear ko
        try walk_nrm
        refine dany 30 ?_
        walk_nrm
        refine dany 31 ?_
        walk_nrm
        refine anyD_call (i := 32) (by kernel_rfl) rfl (by rfl) rfl (av := #[]) (by simp [go_sem, GraphV.val, zeroG]) Tryd.func7 (by rfl) (by rfl) (alive_D _) ?_
        rintro v w' ⟨rfl, ko⟩
        replace hS := hS.next ko
        refine ⟨hS, ?_⟩
        clear ko
        try walk_nrm
        refine dany 33 ?_
        walk_nrm
        refine dany 34 ?_
        walk_nrm
        refine anyD_done (by kernel_rfl) ?_ _
        refine hK.out _ _ ?_
        exact wpD_ret ⟨rfl, _, resultsC_tmp (t := 4) (by rfl) _, rfl, BO.trans hS.old⟩

end Go.Proofs.YtifdhaiihlfomaaDoor
