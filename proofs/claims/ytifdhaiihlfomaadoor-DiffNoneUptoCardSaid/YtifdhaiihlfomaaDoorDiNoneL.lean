/-
  What the walk of DiffNone leans on: regions that draw by their cells; a row of nodes copied, one of them changed.
-/
import Derived.Test.YtifdhaiihlfomaaDoorDiSameD
import Derived.Test.YtifdhaiihlfomaaDoorDiAgain
import Derived.Test.YtifdhaiihlfomaaDoorConTopF
namespace Go.Proofs.YtifdhaiihlfomaaDoor
open Go Go.RowKit Go.Conc
set_option linter.unusedVariables false

section
variable {fn : FuncId} {ops : Array Oper} {Q : Exit → Act → World → Prop} {x y : Code} {a : Act} {w w' : World} {S : World → Prop} {K : Act → World → Prop}
theorem danyS (i : Nat) {oi : Oper} {v : Value} {fuel : Nat} {listed : Array Bool} (h : AnyD Tryd.prog fn .any ops (onN K) S fuel (listed.setIfInBounds i true) (a.put oi.dst v) w) (hK : Hid (∀ a x z, K a x → AtRel x z → K a z) := by assumption) (hS : S w := by assumption) (hi : ops[i]? = some oi := by rfl)
    (hy : ∀ w, S w → (execOp a.eval oi).run Tryd.prog w = .ok (.value v) w := by (intro w0 hSw; (try dsimp only at hSw); go_simp; (first | done | exact ⟨rfl, rfl⟩ | exact rfl)))
    (hw : Region.wanted oi (yielded ops a.tmps) = true := by kernel_rfl) (hkind : kindOk Tryd.prog envD fn oi.op = true := by kernel_rfl) (hs : Region.noSelect ops = true := by kernel_rfl) (hf : Region.free .any ops listed i = true := by kernel_rfl) (hr : (Region.ready .any ops listed).contains i = true := by kernel_rfl)
    (hpins : ∀ i, envD.pins fn i = false := by exact fun _ => rfl) (hSR : ∀ x y, S x → AtRel x y → S y := by (intro x y h r; obtain ⟨d, rfl⟩ := r; exact h)) : AnyD Tryd.prog fn .any ops (onN K) S (fuel + 1) listed a w :=
  anyD_mild envD_ok calmD hpins hSR (fun a x y h r => hK.out a x y h r) i hy hi hw hkind hs hf hr hS h
theorem dskS (i : Nat) {oi : Oper} {fuel : Nat} {listed : Array Bool} (h : AnyD Tryd.prog fn .any ops (onN K) S fuel (listed.setIfInBounds i true) (a.put oi.dst undef) w) (hK : Hid (∀ a x z, K a x → AtRel x z → K a z) := by assumption) (hS : S w := by assumption) (hi : ops[i]? = some oi := by rfl)
    (hw : Region.wanted oi (yielded ops a.tmps) = false := by kernel_rfl) (hs : Region.noSelect ops = true := by kernel_rfl) (hf : Region.free .any ops listed i = true := by kernel_rfl) (hr : (Region.ready .any ops listed).contains i = true := by kernel_rfl)
    (hSR : ∀ x y, S x → AtRel x y → S y := by (intro x y h r; obtain ⟨d, rfl⟩ := r; exact h)) : AnyD Tryd.prog fn .any ops (onN K) S (fuel + 1) listed a w :=
  anyD_skip hSR (fun a x y h r => hK.out a x y h r) i hi hw hs hf hr hS h
/-- One alone comes up, and it lays. -/
theorem dturn (i : Nat) {o : Oper} {v : Value} {fuel : Nat} {listed : Array Bool} (h : AnyD Tryd.prog fn .any ops (onN K) S fuel (listed.setIfInBounds i true) (a.put o.dst v) w') (hS : S w') (hK : Hid (∀ a x z, K a x → AtRel x z → K a z) := by assumption) (hi : ops[i]? = some o := by rfl)
    (hrun : (execOp a.eval o).run Tryd.prog w = .ok (.value v) w' := by (go_simp; (first | done | exact ⟨rfl, rfl⟩ | exact rfl))) (hr : Region.ready .any ops listed = [i] := by kernel_rfl) (hw : Region.wanted o (yielded ops a.tmps) = true := by kernel_rfl) (hkind : kindOk Tryd.prog envD fn o.op = true := by kernel_rfl) (hd : w'.drawn = w.drawn := by rfl)
    (hpins : ∀ i, envD.pins fn i = false := by exact fun _ => rfl) (hSR : ∀ x y, S x → AtRel x y → S y := by (intro x y h r; obtain ⟨d, rfl⟩ := r; exact h)) : AnyD Tryd.prog fn .any ops (onN K) S (fuel + 1) listed a w :=
  anyD_turn calmD hpins hSR (fun a x y h r => hK.out a x y h r) hrun (.inl rfl) hr hi hw hkind hd hS h
theorem dturnS (i : Nat) {o : Oper} {fuel : Nat} {listed : Array Bool} (h : AnyD Tryd.prog fn .any ops (onN K) S fuel (listed.setIfInBounds i true) (a.put o.dst undef) w') (hS : S w') (hK : Hid (∀ a x z, K a x → AtRel x z → K a z) := by assumption) (hi : ops[i]? = some o := by rfl)
    (hrun : (execOp a.eval o).run Tryd.prog w = .ok .skip w' := by (go_simp; (first | done | exact ⟨rfl, rfl⟩ | exact rfl))) (hr : Region.ready .any ops listed = [i] := by kernel_rfl) (hw : Region.wanted o (yielded ops a.tmps) = true := by kernel_rfl) (hkind : kindOk Tryd.prog envD fn o.op = true := by kernel_rfl) (hd : w'.drawn = w.drawn := by rfl)
    (hpins : ∀ i, envD.pins fn i = false := by exact fun _ => rfl) (hSR : ∀ x y, S x → AtRel x y → S y := by (intro x y h r; obtain ⟨d, rfl⟩ := r; exact h)) : AnyD Tryd.prog fn .any ops (onN K) S (fuel + 1) listed a w :=
  anyD_turn calmD hpins hSR (fun a x y h r => hK.out a x y h r) hrun (.inr ⟨rfl, rfl⟩) hr hi hw hkind hd hS h
end

theorem Older.but {V w w' : World} {b : Nat} (h : Older V w) (k : Keep (fun i => i = b) w w') (hb : V.heap.size ≤ b) : Older V w' :=
  ⟨Nat.le_trans h.size k.size, fun i hi => (k.block i (Nat.lt_of_lt_of_le hi h.size) (fun (e : i = b) => by omega)).trans (h.block i hi), k.os.trans h.os, k.output.trans h.out⟩
theorem cellsN_one : ∀ (l : List NodeV) (w : World), (∀ n ∈ l, NodeR w n) → ∀ u ∈ cellsN l, u.oneCell' = true := by
  intro l w h u hu
  obtain ⟨n, hn, hu⟩ := List.mem_flatMap.1 hu
  obtain ⟨a, c, e, -⟩ := (h n hn).1
  obtain ⟨a2, c2, e2, -⟩ := (h n hn).2
  unfold NodeV.cells at hu
  rw [e, e2] at hu
  simp only [List.mem_cons, List.not_mem_nil, or_false] at hu
  rcases hu with rfl | rfl | rfl | rfl <;> rfl
theorem nodes_each {w : World} {v : Value} {ns : List NodeV} (h : NodesR w v ns) : ∀ n ∈ ns, NodeR w n := by
  obtain ⟨a, c, rfl, hx⟩ := h
  intro n hn
  obtain ⟨i, hi, rfl⟩ := List.getElem_of_mem hn
  obtain ⟨_, _, _, _, _, _, _, _, hr⟩ := hx i ns[i] (List.getElem?_eq_getElem hi)
  exact hr
/-- The cells of a row of nodes. -/
theorem nodes_cells {w : World} {v : Value} {ns : List NodeV} (h : NodesR w v ns) (h0 : 0 < ns.length) : ∃ b o c, v = .slice (some ⟨b, o, none⟩) ns.length c ∧ b < w.heap.size ∧ (∀ n ∈ ns, NodeR w n) ∧ ∀ t u, (cellsN ns)[t]? = some u → w.cell? ⟨b, o + t, none⟩ = some u := by
  obtain ⟨a, c, rfl, hx⟩ := h
  obtain ⟨b, o, rfl, hb, -⟩ := hx 0 ns[0] (List.getElem?_eq_getElem h0)
  refine ⟨b, o, c, rfl, hb, fun n hn => ?_, fun t u hu => ?_⟩
  · obtain ⟨i, hi, rfl⟩ := List.getElem_of_mem hn
    obtain ⟨_, _, _, _, _, _, _, _, hr⟩ := hx i ns[i] (List.getElem?_eq_getElem hi)
    exact hr
  · have ht := (List.getElem?_eq_some_iff.1 hu).1
    rw [cellsN_length] at ht
    have hi : t / 4 < ns.length := by omega
    have hj : t % 4 < 4 := Nat.mod_lt _ (by omega)
    obtain ⟨b', o', e, hb', r0, r1, r2, r3, hr⟩ := hx (t / 4) ns[t / 4] (List.getElem?_eq_getElem hi)
    injection e with e
    injection e with e1 e2
    subst e1 e2
    have hc := cellsN_at ns (t / 4) (t % 4) ns[t / 4] (List.getElem?_eq_getElem hi) hj
    rw [Nat.div_add_mod' t 4] at hc
    rw [hc] at hu
    have e4 : o + t = o + t / 4 * 4 + t % 4 := by omega
    rw [e4]
    match t % 4, hj, hu with
    | 0, _, hu => rw [← Option.some.inj hu]; exact r0
    | 1, _, hu => rw [← Option.some.inj hu]; exact r1
    | 2, _, hu => rw [← Option.some.inj hu]; exact r2
    | 3, _, hu => rw [← Option.some.inj hu]; exact r3
/-- append([]Node(nil), nodes..). -/
theorem copy_run {W : World} {ns : List NodeV} {nv : Value} (hr : NodesR W nv ns) (h0 : 0 < ns.length) (h6 : ns.length ≤ 600) (ty : TypeId) :
    ∃ g cap w', (∀ {o : Oper} {a : Act} {s x : Operand}, o.op = .call { callee := .builtin .append, args := #[s, x], argTypes := #[22, 22] } → o.type = ty → a.eval s = .slice none 0 0 → a.eval x = nv → (execOp a.eval o).run Tryd.prog W = .ok (.value (.slice (some ⟨g, 0, none⟩) ns.length cap)) w') ∧
      w'.ownsRow W.heap.size 41 4 (.slice (some ⟨g, 0, none⟩) ns.length cap) ns.length (cellsN ns) ∧ Older W w' := by
  obtain ⟨b, off, c, rfl, hb, hn, hc⟩ := nodes_cells hr h0
  obtain ⟨i0, hi, hz0, hz1, hz2⟩ := info_parts (by kernel_rfl : (Tryd.prog.info? 41).map (fun i => (i.zero, i.size, i.bytes)) = some (some (.agg #[.int .i64 0, .int .i64 0, .slice none 0 0, .slice none 0 0]), 4, 64))
  obtain ⟨v', w', hrun, h2, h3, h4, h5⟩ := run_append_own_at (P := Tryd.prog) W W.heap.size 22 ty 41 i0 _ 4 64 Tryd.underlying22 hi hz0 hz1 hz2 rfl (by omega) (.slice none 0 0) 0 [] (World.ownsRow_nil _ _ _ _) ⟨b, off, none⟩ ns.length c (cellsN ns) (cellsN_length ns) (fun j u hu => by rw [Addr.add_lit]; exact hc j u hu) (cellsN_one ns W hn) (by unfold maxLen; omega) (by omega) (Nat.le_refl _)
  rw [Nat.zero_add, List.nil_append] at h2
  obtain ⟨va, vc, rfl⟩ := own_form h2
  obtain ⟨g, rfl⟩ := own_some h2 h0
  refine ⟨g, vc, w', fun {o a s x} ho ht hs hx => ?_, h2, ⟨h3.size, fun k hk => h3.block k hk (by simp [Value.ownBlock]), h3.os, h3.output⟩⟩
  unfold execOp
  simp only [ho, ht, resolve, invoke, builtin, Sem.run_bind, Sem.run_pure, Result.andThen_ok, List.map_toArray, List.map_cons, List.map_nil, hs, hx, hrun]
/-- One node of an own row is put anew. -/
theorem own_put {base g n cap : Nat} {w wz : World} {ns : List NodeV} {y : NodeV} {j : Nat} (h : w.ownsRow base 41 4 (.slice (some ⟨g, 0, none⟩) n cap) n (cellsN ns)) (hn : n = ns.length) (hj : j < n)
    (hz : wz = (((w.setCell ⟨g, j * 4, none⟩ (.int .i64 y.ty)).setCell ⟨g, j * 4 + 1, none⟩ (.int .i64 y.ln)).setCell ⟨g, j * 4 + 2, none⟩ y.wv).setCell ⟨g, j * 4 + 3, none⟩ y.rv) :
    wz.ownsRow base 41 4 (.slice (some ⟨g, 0, none⟩) n cap) n (cellsN (ns.set j y)) ∧ Keep (fun i => i = g) w wz := by
  have e : cellsN (ns.set j y) = ((((cellsN ns).set (j * 4) (.int .i64 y.ty)).set (j * 4 + 1) (.int .i64 y.ln)).set (j * 4 + 2) y.wv).set (j * 4 + 3) y.rv := by
    clear h hz
    subst hn
    induction ns generalizing j with
    | nil => simp at hj
    | cons x ns ih =>
      match j, hj with
      | 0, hj => rfl
      | j + 1, hj =>
        have hi := ih (j := j) (by simpa using hj)
        have e4 : (j + 1) * 4 = j * 4 + 4 := by omega
        rw [List.set_cons_succ, e4]
        unfold cellsN at hi ⊢
        rw [List.flatMap_cons, List.flatMap_cons, hi]
        rfl
  subst hz
  refine ⟨?_, ((((Keep.refl (fun i => i = g) w).setCell (fun _ => rfl) _).setCell (fun _ => rfl) _).setCell (fun _ => rfl) _).setCell (fun _ => rfl) _⟩
  rw [e]
  exact (((((h.stored (j * 4) _).1).stored (j * 4 + 1) _).1.stored (j * 4 + 2) _).1.stored (j * 4 + 3) _).1

end Go.Proofs.YtifdhaiihlfomaaDoor
