/-
  The chapter's examples: alive, beside leavers. Printed by tools/alivec.py.
-/
import Derived.Test.YtifdhaiihlfomaaDoorDiEx
namespace Go.Proofs.YtifdhaiihlfomaaDoor
open Go Go.RowKit Go.Conc
set_option linter.unusedVariables false
set_option linter.unusedSimpArgs false

section
variable {fn : FuncId} {ops : Array Oper} {Q : Exit → Act → World → Prop} {y : Code} {a : Act} {w w' : World}
theorem wpD_step {P : Program} {id : Nat} (h : ∀ K : Act → World → Prop, Hid (∀ a' w', wpD P fn y Q a' w' → K a' w') → OpsD P fn ops (List.range ops.size) (onN K) a w) : wpD P fn (.seq (.region id ops false) y) Q a w :=
  wpD_seq (wpD_mono (wpD_region (h _ ⟨fun _ _ x => x⟩)) (onN_to fun _ _ x => x))
/-- One operation, by its run. -/
theorem dop {i : Nat} {rest : List Nat} {o : Oper} {v : Value} (h : OpsD Tryd.prog fn ops rest Q (a.put o.dst v) w') (ho : ops[i]? = some o := by rfl) (hrun : (execOp a.eval o).run Tryd.prog w = .ok (.value v) w' := by (go_simp; (first | done | exact ⟨rfl, rfl⟩ | exact rfl)))
    (hw : Region.wanted o (yielded ops a.tmps) = true := by rfl) (hkind : kindOk Tryd.prog envD fn o.op = true := by kernel_rfl) (hd : w'.drawn = w.drawn := by rfl) (hpins : ∀ i, envD.pins fn i = false := by exact fun _ => rfl) : OpsD Tryd.prog fn ops (i :: rest) Q a w :=
  opsD_mild envD_ok calmD hpins hrun ho hw hkind hd h
theorem dops {i : Nat} {rest : List Nat} {o : Oper} (h : OpsD Tryd.prog fn ops rest Q (a.put o.dst undef) w') (ho : ops[i]? = some o := by rfl) (hrun : (execOp a.eval o).run Tryd.prog w = .ok .skip w' := by (go_simp; (first | done | exact ⟨rfl, rfl⟩ | exact rfl)))
    (hw : Region.wanted o (yielded ops a.tmps) = true := by rfl) (hkind : kindOk Tryd.prog envD fn o.op = true := by kernel_rfl) (hd : w'.drawn = w.drawn := by rfl) (hpins : ∀ i, envD.pins fn i = false := by exact fun _ => rfl) : OpsD Tryd.prog fn ops (i :: rest) Q a w :=
  opsD_mildS envD_ok calmD hpins hrun ho hw hkind hd h
end

theorem sameG_true {y z : GraphV} (h : y.p = z.p) (h1 : y.hs = z.hs) (h2 : y.ps = z.ps) (h3 : y.ss = z.ss) : sameG y z = true := by
  unfold sameG
  rw [Bool.and_eq_true, Bool.and_eq_true, Bool.and_eq_true, decide_eq_true_eq, decide_eq_true_eq, decide_eq_true_eq, sameNs_p]
  exact ⟨h, h1, h2, h3⟩
theorem heap2 {w : World} {r : Nat} (o1 o2 : Obj) (h : w.heap.size = r) : ((w.alloc o1).alloc o2).heap[r]? = some o1 ∧ ((w.alloc o1).alloc o2).heap[r + 1]? = some o2 ∧ ((w.alloc o1).alloc o2).heap.size = r + 2 := by
  subst h
  refine ⟨?_, ?_, by simp⟩
  · rw [Below.heap_alloc _ _ _ (by simp)]
    exact World.alloc_heap_new w o1
  · have := World.alloc_heap_new (w.alloc o1) o2
    simpa using this
theorem heap3 {w : World} {r : Nat} (o1 o2 o3 : Obj) (h : w.heap.size = r) : (((w.alloc o1).alloc o2).alloc o3).heap[r]? = some o1 ∧ (((w.alloc o1).alloc o2).alloc o3).heap[r + 1]? = some o2 ∧ (((w.alloc o1).alloc o2).alloc o3).heap[r + 2]? = some o3 ∧ (((w.alloc o1).alloc o2).alloc o3).heap.size = r + 3 := by
  obtain ⟨h1, h2, h3⟩ := heap2 o1 o2 h
  refine ⟨?_, ?_, ?_, by simp [h]⟩
  · rw [Below.heap_alloc _ _ _ (by omega)]
    exact h1
  · rw [Below.heap_alloc _ _ _ (by omega)]
    exact h2
  · have := World.alloc_heap_new ((w.alloc o1).alloc o2) o3
    rw [h3] at this
    exact this

set_option maxRecDepth 20000 in
set_option maxHeartbeats 8000000 in
theorem alive_D (w : World) : CallsD Tryd.prog 7 #[] w fun v w' => v = .bool true ∧ Older w w' := by
  refine callsD_of_wpD Tryd.func7 (by rfl) ?_
  simp only [Tryd.ntmps7, List.size_toArray, List.length_cons, List.length_nil, Nat.reduceAdd, Nat.reduceSub, Array.replicate_succ, Array.replicate_zero, List.push_toArray, List.append_toArray, List.nil_append, List.cons_append]
  refine wpD_step fun K hK => ?_
  simp only [List.size_toArray, List.length_cons, List.length_nil, Nat.reduceAdd, Nat.zero_add, List.range, List.range.loop]
  refine dop ?_
  walk_nrm
  refine opsD_nil ?_
  refine hK.out _ _ ?_
  clear hK K
  refine wpD_step fun K hK => ?_
  simp only [List.size_toArray, List.length_cons, List.length_nil, Nat.reduceAdd, Nat.zero_add, List.range, List.range.loop]
  refine dop ?_
  walk_nrm
  refine dop ?_
  walk_nrm
  refine dop ?_
  walk_nrm
  refine dop ?_
  walk_nrm
  obtain ⟨r1, hr⟩ : ∃ r, w.heap.size = r := ⟨_, rfl⟩
  rw [hr]
  obtain ⟨p0, p1, hz⟩ := heap2 (w := w) (.cells #[.int .u64 7] 45) (.cells #[.int .i64 1, .int .i64 0, .slice (some ⟨r1, 0, none⟩) 1 1, .slice none 0 0] 41) hr
  have kb : Older w ((w.alloc (.cells #[.int .u64 7] 45)).alloc (.cells #[.int .i64 1, .int .i64 0, .slice (some ⟨r1, 0, none⟩) 1 1, .slice none 0 0] 41)) := (Older.alloc _ _).trans (Older.alloc _ _)
  obtain ⟨W1, hW⟩ : ∃ W, ((w.alloc (.cells #[.int .u64 7] 45)).alloc (.cells #[.int .i64 1, .int .i64 0, .slice (some ⟨r1, 0, none⟩) 1 1, .slice none 0 0] 41)) = W := ⟨_, rfl⟩
  rw [hW] at p0 p1 kb hz ⊢
  clear hW hr
  refine dop ?_
  walk_nrm
  have hh : (W1.alloc (.cells #[.slice none 0 0, .slice none 0 0, .slice none 0 0, .slice none 0 0] 25)).heap[r1 + 2]? = some (.cells #[.slice none 0 0, .slice none 0 0, .slice none 0 0, .slice none 0 0] 25) := by rw [← hz]; exact World.alloc_heap_new _ _
  have kk : Older W1 (W1.alloc (.cells #[.slice none 0 0, .slice none 0 0, .slice none 0 0, .slice none 0 0] 25)) := Older.alloc _ _
  try rw [hz]
  obtain ⟨U1, hU⟩ : ∃ U, W1.alloc (.cells #[.slice none 0 0, .slice none 0 0, .slice none 0 0, .slice none 0 0] 25) = U := ⟨_, rfl⟩
  rw [hU] at hh kk ⊢
  clear hU
  have f0 := free_of_block hh 0; have f1 := free_of_block hh 1; have f2 := free_of_block hh 2; have f3 := free_of_block hh 3
  obtain ⟨e0, e1, e2, e3⟩ := cells4 hh
  refine dops ?_
  walk_nrm
  obtain ⟨V1, hV⟩ : ∃ V, V = World.setCell (World.setCell (World.setCell (World.setCell (U1) ⟨r1 + 2, 0, none⟩ (.slice (some ⟨r1 + 1, 0, none⟩) 1 1)) ⟨r1 + 2, 1, none⟩ (.slice none 0 0)) ⟨r1 + 2, 2, none⟩ (.slice none 0 0)) ⟨r1 + 2, 3, none⟩ (.slice none 0 0) := ⟨_, rfl⟩
  rw [← hV]
  obtain ⟨pg, ks⟩ := store4 hh _ _ _ _ V1 hV
  have kv : Older W1 V1 := ⟨Nat.le_trans kk.size ks.size, fun i hi => (ks.block i (Nat.lt_of_lt_of_le hi kk.size) (fun (e : i = _) => by omega)).trans (kk.block i hi), ks.os.trans kk.os, ks.output.trans kk.out⟩
  replace p0 := kv.at_ p0
  replace p1 := kv.at_ p1
  obtain ⟨c10, c11, c12, c13⟩ := cells4 pg
  clear f0 f1 f2 f3 e0 e1 e2 e3 hV ks hh kk hz pg
  have ko := kb.trans kv
  have BO := ko
  have R1 : GraphR V1 (exG r1 (r1 + 1) 7) := exG_R p0 p1
  clear p0 p1 ko kb kv
  refine opsD_nil ?_
  refine hK.out _ _ ?_
  clear hK K
  refine wpD_step fun K hK => ?_
  simp only [List.size_toArray, List.length_cons, List.length_nil, Nat.reduceAdd, Nat.zero_add, List.range, List.range.loop]
  refine dop ?_
  walk_nrm
  refine dop ?_
  walk_nrm
  refine dop ?_
  walk_nrm
  refine dop ?_
  walk_nrm
  obtain ⟨r2, hr⟩ : ∃ r, V1.heap.size = r := ⟨_, rfl⟩
  rw [hr]
  obtain ⟨p0, p1, hz⟩ := heap2 (w := V1) (.cells #[.int .u64 8] 45) (.cells #[.int .i64 1, .int .i64 0, .slice (some ⟨r2, 0, none⟩) 1 1, .slice none 0 0] 41) hr
  have kb : Older V1 ((V1.alloc (.cells #[.int .u64 8] 45)).alloc (.cells #[.int .i64 1, .int .i64 0, .slice (some ⟨r2, 0, none⟩) 1 1, .slice none 0 0] 41)) := (Older.alloc _ _).trans (Older.alloc _ _)
  obtain ⟨W2, hW⟩ : ∃ W, ((V1.alloc (.cells #[.int .u64 8] 45)).alloc (.cells #[.int .i64 1, .int .i64 0, .slice (some ⟨r2, 0, none⟩) 1 1, .slice none 0 0] 41)) = W := ⟨_, rfl⟩
  rw [hW] at p0 p1 kb hz ⊢
  clear hW hr
  refine dop ?_
  walk_nrm
  have hh : (W2.alloc (.cells #[.slice none 0 0, .slice none 0 0, .slice none 0 0, .slice none 0 0] 25)).heap[r2 + 2]? = some (.cells #[.slice none 0 0, .slice none 0 0, .slice none 0 0, .slice none 0 0] 25) := by rw [← hz]; exact World.alloc_heap_new _ _
  have kk : Older W2 (W2.alloc (.cells #[.slice none 0 0, .slice none 0 0, .slice none 0 0, .slice none 0 0] 25)) := Older.alloc _ _
  try rw [hz]
  obtain ⟨U2, hU⟩ : ∃ U, W2.alloc (.cells #[.slice none 0 0, .slice none 0 0, .slice none 0 0, .slice none 0 0] 25) = U := ⟨_, rfl⟩
  rw [hU] at hh kk ⊢
  clear hU
  have f0 := free_of_block hh 0; have f1 := free_of_block hh 1; have f2 := free_of_block hh 2; have f3 := free_of_block hh 3
  obtain ⟨e0, e1, e2, e3⟩ := cells4 hh
  refine dops ?_
  walk_nrm
  obtain ⟨V2, hV⟩ : ∃ V, V = World.setCell (World.setCell (World.setCell (World.setCell (U2) ⟨r2 + 2, 0, none⟩ (.slice (some ⟨r2 + 1, 0, none⟩) 1 1)) ⟨r2 + 2, 1, none⟩ (.slice none 0 0)) ⟨r2 + 2, 2, none⟩ (.slice none 0 0)) ⟨r2 + 2, 3, none⟩ (.slice none 0 0) := ⟨_, rfl⟩
  rw [← hV]
  obtain ⟨pg, ks⟩ := store4 hh _ _ _ _ V2 hV
  have kv : Older W2 V2 := ⟨Nat.le_trans kk.size ks.size, fun i hi => (ks.block i (Nat.lt_of_lt_of_le hi kk.size) (fun (e : i = _) => by omega)).trans (kk.block i hi), ks.os.trans kk.os, ks.output.trans kk.out⟩
  replace p0 := kv.at_ p0
  replace p1 := kv.at_ p1
  obtain ⟨c20, c21, c22, c23⟩ := cells4 pg
  clear f0 f1 f2 f3 e0 e1 e2 e3 hV ks hh kk hz pg
  have ko := kb.trans kv
  replace BO := BO.trans (ko)
  replace R1 := R1.kb (ko)
  replace c10 := (ko).cell c10
  replace c11 := (ko).cell c11
  replace c12 := (ko).cell c12
  replace c13 := (ko).cell c13
  have R2 : GraphR V2 (exG r2 (r2 + 1) 8) := exG_R p0 p1
  clear p0 p1 ko kb kv
  refine opsD_nil ?_
  refine hK.out _ _ ?_
  clear hK K
  refine wpD_step fun K hK => ?_
  simp only [List.size_toArray, List.length_cons, List.length_nil, Nat.reduceAdd, Nat.zero_add, List.range, List.range.loop]
  refine dop ?_
  walk_nrm
  refine dop ?_
  walk_nrm
  refine dop ?_
  walk_nrm
  refine dop ?_
  walk_nrm
  refine dop ?_
  walk_nrm
  refine dop ?_
  walk_nrm
  obtain ⟨r3, hr⟩ : ∃ r, V2.heap.size = r := ⟨_, rfl⟩
  rw [hr]
  obtain ⟨p0, p1, p2, hz⟩ := heap3 (w := V2) (.cells #[.int .i64 2] 3) (.cells #[.int .i64 2] 3) (.cells #[.int .i64 1, .int .i64 0, .slice none 0 0, .slice (some ⟨r3, 0, none⟩) 1 1, .int .i64 2, .int .i64 0, .slice none 0 0, .slice (some ⟨r3 + 1, 0, none⟩) 1 1] 41) hr
  have kb : Older V2 (((V2.alloc (.cells #[.int .i64 2] 3)).alloc (.cells #[.int .i64 2] 3)).alloc (.cells #[.int .i64 1, .int .i64 0, .slice none 0 0, .slice (some ⟨r3, 0, none⟩) 1 1, .int .i64 2, .int .i64 0, .slice none 0 0, .slice (some ⟨r3 + 1, 0, none⟩) 1 1] 41)) := (((Older.alloc _ _).trans (Older.alloc _ _)).trans (Older.alloc _ _))
  obtain ⟨W3, hW⟩ : ∃ W, (((V2.alloc (.cells #[.int .i64 2] 3)).alloc (.cells #[.int .i64 2] 3)).alloc (.cells #[.int .i64 1, .int .i64 0, .slice none 0 0, .slice (some ⟨r3, 0, none⟩) 1 1, .int .i64 2, .int .i64 0, .slice none 0 0, .slice (some ⟨r3 + 1, 0, none⟩) 1 1] 41)) = W := ⟨_, rfl⟩
  rw [hW] at p0 p1 p2 kb hz ⊢
  clear hW hr
  refine dop ?_
  walk_nrm
  have hh : (W3.alloc (.cells #[.slice none 0 0, .slice none 0 0, .slice none 0 0, .slice none 0 0] 25)).heap[r3 + 3]? = some (.cells #[.slice none 0 0, .slice none 0 0, .slice none 0 0, .slice none 0 0] 25) := by rw [← hz]; exact World.alloc_heap_new _ _
  have kk : Older W3 (W3.alloc (.cells #[.slice none 0 0, .slice none 0 0, .slice none 0 0, .slice none 0 0] 25)) := Older.alloc _ _
  try rw [hz]
  obtain ⟨U3, hU⟩ : ∃ U, W3.alloc (.cells #[.slice none 0 0, .slice none 0 0, .slice none 0 0, .slice none 0 0] 25) = U := ⟨_, rfl⟩
  rw [hU] at hh kk ⊢
  clear hU
  have f0 := free_of_block hh 0; have f1 := free_of_block hh 1; have f2 := free_of_block hh 2; have f3 := free_of_block hh 3
  obtain ⟨e0, e1, e2, e3⟩ := cells4 hh
  refine dops ?_
  walk_nrm
  obtain ⟨V3, hV⟩ : ∃ V, V = World.setCell (World.setCell (World.setCell (World.setCell (U3) ⟨r3 + 3, 0, none⟩ (.slice (some ⟨r3 + 2, 0, none⟩) 2 2)) ⟨r3 + 3, 1, none⟩ (.slice none 0 0)) ⟨r3 + 3, 2, none⟩ (.slice none 0 0)) ⟨r3 + 3, 3, none⟩ (.slice none 0 0) := ⟨_, rfl⟩
  rw [← hV]
  obtain ⟨pg, ks⟩ := store4 hh _ _ _ _ V3 hV
  have kv : Older W3 V3 := ⟨Nat.le_trans kk.size ks.size, fun i hi => (ks.block i (Nat.lt_of_lt_of_le hi kk.size) (fun (e : i = _) => by omega)).trans (kk.block i hi), ks.os.trans kk.os, ks.output.trans kk.out⟩
  replace p0 := kv.at_ p0
  replace p1 := kv.at_ p1
  replace p2 := kv.at_ p2
  obtain ⟨c30, c31, c32, c33⟩ := cells4 pg
  clear f0 f1 f2 f3 e0 e1 e2 e3 hV ks hh kk hz pg
  have ko := kb.trans kv
  replace BO := BO.trans (ko)
  replace R1 := R1.kb (ko)
  replace c10 := (ko).cell c10
  replace c11 := (ko).cell c11
  replace c12 := (ko).cell c12
  replace c13 := (ko).cell c13
  replace R2 := R2.kb (ko)
  replace c20 := (ko).cell c20
  replace c21 := (ko).cell c21
  replace c22 := (ko).cell c22
  replace c23 := (ko).cell c23
  have R3 : GraphR V3 (exC r3 (r3 + 1) (r3 + 2)) := exC_R p0 p1 p2
  clear p0 p1 p2 ko kb kv
  refine opsD_nil ?_
  refine hK.out _ _ ?_
  clear hK K
  refine wpD_step fun K hK => ?_
  simp only [List.size_toArray, List.length_cons, List.length_nil, Nat.reduceAdd, Nat.zero_add, List.range, List.range.loop]
  refine dop ?_
  walk_nrm
  refine dop ?_
  walk_nrm
  refine opsD_call rfl (by rfl) rfl (av := #[(exG r1 (r1 + 1) 7).val, (exG r2 (r2 + 1) 8).val]) (by simp [go_sem, GraphV.val, exG, exC, exP]) Tryd.func9 (by rfl) (by rfl) (Of_D (exG_in R1) (exG_in R2) (by rw [allL_ex]; decide)) ?_
  rintro v w' ⟨ho, ko⟩
  try walk_nrm
  replace BO := BO.trans (ko)
  replace R1 := R1.kb (ko)
  replace c10 := (ko).cell c10
  replace c11 := (ko).cell c11
  replace c12 := (ko).cell c12
  replace c13 := (ko).cell c13
  replace R2 := R2.kb (ko)
  replace c20 := (ko).cell c20
  replace c21 := (ko).cell c21
  replace c22 := (ko).cell c22
  replace c23 := (ko).cell c23
  replace R3 := R3.kb (ko)
  replace c30 := (ko).cell c30
  replace c31 := (ko).cell c31
  replace c32 := (ko).cell c32
  replace c33 := (ko).cell c33
  rw [allL_ex] at ho
  obtain ⟨la, lc, rfl⟩ := own_form ho
  obtain ⟨lg, rfl⟩ := own_some ho (by decide)
  have l0 := ho.cellAt 0 (by decide); have l1 := ho.cellAt 1 (by decide); have l2 := ho.cellAt 2 (by decide)
  clear ho ko
  refine dop ?_
  walk_nrm
  refine opsD_nil ?_
  refine hK.out _ _ ?_
  clear hK K
  refine wpD_step fun K hK => ?_
  simp only [List.size_toArray, List.length_cons, List.length_nil, Nat.reduceAdd, Nat.zero_add, List.range, List.range.loop]
  refine dop ?_
  walk_nrm
  refine opsD_call rfl (by rfl) rfl (av := #[(exC r3 (r3 + 1) (r3 + 2)).val, .int .i64 1]) (by simp [go_sem, GraphV.val, exG, exC, exP]) Tryd.func15 (by rfl) (by rfl) (Part_D R3 (exC_L _ _ _) (by simp [exC]) 1) ?_
  rintro v w' ⟨⟨ynv, yhv, ypv, ysv, yns, yhs, yps, yss⟩, rfl, hp, hhs, ho, ko⟩
  try walk_nrm
  have LY := part_small (exC_L r3 (r3 + 1) (r3 + 2)) (by simp [exC]) hp hhs ho
  rw [exC_one] at hp
  have hyl : yns.length = 1 := by simpa [GraphV.p] using congrArg List.length hp
  obtain ⟨⟨yna, ynn, ync, rfl⟩, ⟨yha, yhn, yhc, rfl⟩, rfl, rfl⟩ := ho.forms
  have hy0 : yhs = [0] := by rw [show yhs = _ from hhs, if_neg (by intro h; dsimp only at h; rw [h] at hyl; cases hyl)]
  have hyps : yps = [] := ho.pins.2
  have hyss : yss = [] := ho.stack.2
  replace BO := BO.trans (ko)
  replace R1 := R1.kb (ko)
  replace c10 := (ko).cell c10
  replace c11 := (ko).cell c11
  replace c12 := (ko).cell c12
  replace c13 := (ko).cell c13
  replace R2 := R2.kb (ko)
  replace c20 := (ko).cell c20
  replace c21 := (ko).cell c21
  replace c22 := (ko).cell c22
  replace c23 := (ko).cell c23
  replace R3 := R3.kb (ko)
  replace c30 := (ko).cell c30
  replace c31 := (ko).cell c31
  replace c32 := (ko).cell c32
  replace c33 := (ko).cell c33
  replace l0 := (ko).cell l0
  replace l1 := (ko).cell l1
  replace l2 := (ko).cell l2
  have R5 := ho.graph
  clear hhs ho ko
  dsimp only [GraphV.val]
  obtain ⟨r5, hz⟩ : ∃ r, w'.heap.size = r := ⟨_, rfl⟩
  refine dop ?_
  walk_nrm
  have hh : (w'.alloc (.cells #[.slice none 0 0, .slice none 0 0, .slice none 0 0, .slice none 0 0] 25)).heap[r5]? = some (.cells #[.slice none 0 0, .slice none 0 0, .slice none 0 0, .slice none 0 0] 25) := by rw [← hz]; exact World.alloc_heap_new _ _
  have kk : Older w' (w'.alloc (.cells #[.slice none 0 0, .slice none 0 0, .slice none 0 0, .slice none 0 0] 25)) := Older.alloc _ _
  try rw [hz]
  obtain ⟨U5, hU⟩ : ∃ U, w'.alloc (.cells #[.slice none 0 0, .slice none 0 0, .slice none 0 0, .slice none 0 0] 25) = U := ⟨_, rfl⟩
  rw [hU] at hh kk ⊢
  clear hU
  have f0 := free_of_block hh 0; have f1 := free_of_block hh 1; have f2 := free_of_block hh 2; have f3 := free_of_block hh 3
  obtain ⟨e0, e1, e2, e3⟩ := cells4 hh
  refine dops ?_
  walk_nrm
  obtain ⟨V5, hV⟩ : ∃ V, V = World.setCell (World.setCell (World.setCell (World.setCell (U5) ⟨r5, 0, none⟩ (.slice yna ynn ync)) ⟨r5, 1, none⟩ (.slice yha yhn yhc)) ⟨r5, 2, none⟩ (.slice none 0 0)) ⟨r5, 3, none⟩ (.slice none 0 0) := ⟨_, rfl⟩
  rw [← hV]
  obtain ⟨pg, ks⟩ := store4 hh _ _ _ _ V5 hV
  have kv : Older w' V5 := ⟨Nat.le_trans kk.size ks.size, fun i hi => (ks.block i (Nat.lt_of_lt_of_le hi kk.size) (fun (e : i = _) => by omega)).trans (kk.block i hi), ks.os.trans kk.os, ks.output.trans kk.out⟩
  obtain ⟨c50, c51, c52, c53⟩ := cells4 pg
  clear f0 f1 f2 f3 e0 e1 e2 e3 hV ks hh kk hz pg
  replace BO := BO.trans (kv)
  replace R1 := R1.kb (kv)
  replace c10 := (kv).cell c10
  replace c11 := (kv).cell c11
  replace c12 := (kv).cell c12
  replace c13 := (kv).cell c13
  replace R2 := R2.kb (kv)
  replace c20 := (kv).cell c20
  replace c21 := (kv).cell c21
  replace c22 := (kv).cell c22
  replace c23 := (kv).cell c23
  replace R3 := R3.kb (kv)
  replace c30 := (kv).cell c30
  replace c31 := (kv).cell c31
  replace c32 := (kv).cell c32
  replace c33 := (kv).cell c33
  replace l0 := (kv).cell l0
  replace l1 := (kv).cell l1
  replace l2 := (kv).cell l2
  replace R5 := R5.kb (kv)
  clear kv
  refine opsD_nil ?_
  refine hK.out _ _ ?_
  clear hK K
  refine wpD_step fun K hK => ?_
  simp only [List.size_toArray, List.length_cons, List.length_nil, Nat.reduceAdd, Nat.zero_add, List.range, List.range.loop]
  refine dop ?_
  walk_nrm
  refine dop ?_
  walk_nrm
  refine dop ?_
  walk_nrm
  refine dop ?_
  walk_nrm
  refine dop ?_
  walk_nrm
  refine dop ?_
  walk_nrm
  refine dop ?_
  walk_nrm
  refine opsD_call rfl (by rfl) rfl (av := #[.agg #[.int .u8 3, .int .i64 0, .int .i64 0]]) (by simp [go_sem, GraphV.val, exG, exC, exP]) Tryd.func11 (by rfl) (by rfl) (Line_D _) ?_
  rintro v w' ⟨rfl, ko⟩
  try walk_nrm
  replace BO := BO.trans (ko)
  replace R1 := R1.kb (ko)
  replace c10 := (ko).cell c10
  replace c11 := (ko).cell c11
  replace c12 := (ko).cell c12
  replace c13 := (ko).cell c13
  replace R2 := R2.kb (ko)
  replace c20 := (ko).cell c20
  replace c21 := (ko).cell c21
  replace c22 := (ko).cell c22
  replace c23 := (ko).cell c23
  replace R3 := R3.kb (ko)
  replace c30 := (ko).cell c30
  replace c31 := (ko).cell c31
  replace c32 := (ko).cell c32
  replace c33 := (ko).cell c33
  replace l0 := (ko).cell l0
  replace l1 := (ko).cell l1
  replace l2 := (ko).cell l2
  replace R5 := R5.kb (ko)
  replace c50 := (ko).cell c50
  replace c51 := (ko).cell c51
  replace c52 := (ko).cell c52
  replace c53 := (ko).cell c53
  clear ko
  refine dop ?_
  walk_nrm
  refine dop ?_
  walk_nrm
  refine dop ?_
  walk_nrm
  refine dop ?_
  walk_nrm
  refine dop ?_
  walk_nrm
  refine opsD_call rfl (by rfl) rfl (av := #[(exG r1 (r1 + 1) 7).val, (exG r1 (r1 + 1) 7).val]) (by simp [go_sem, GraphV.val, exG, exC, exP]) Tryd.func9 (by rfl) (by rfl) (Of_D (exG_in R1) (exG_in R1) (by rw [allL_self]; decide)) ?_
  rintro v w' ⟨ho, ko⟩
  try walk_nrm
  replace BO := BO.trans (ko)
  replace R1 := R1.kb (ko)
  replace c10 := (ko).cell c10
  replace c11 := (ko).cell c11
  replace c12 := (ko).cell c12
  replace c13 := (ko).cell c13
  replace R2 := R2.kb (ko)
  replace c20 := (ko).cell c20
  replace c21 := (ko).cell c21
  replace c22 := (ko).cell c22
  replace c23 := (ko).cell c23
  replace R3 := R3.kb (ko)
  replace c30 := (ko).cell c30
  replace c31 := (ko).cell c31
  replace c32 := (ko).cell c32
  replace c33 := (ko).cell c33
  replace l0 := (ko).cell l0
  replace l1 := (ko).cell l1
  replace l2 := (ko).cell l2
  replace R5 := R5.kb (ko)
  replace c50 := (ko).cell c50
  replace c51 := (ko).cell c51
  replace c52 := (ko).cell c52
  replace c53 := (ko).cell c53
  rw [allL_self] at ho
  obtain ⟨ma, mc, rfl⟩ := own_form ho
  dsimp only [List.length_nil]
  clear ho ko
  refine dop ?_
  walk_nrm
  refine dop ?_
  walk_nrm
  refine dop ?_
  walk_nrm
  refine dop ?_
  walk_nrm
  refine dop ?_
  walk_nrm
  refine dop ?_
  walk_nrm
  refine dop ?_
  walk_nrm
  refine dop ?_
  walk_nrm
  refine dop ?_
  walk_nrm
  refine dop ?_
  walk_nrm
  obtain ⟨r6, hr⟩ : ∃ r, w'.heap.size = r := ⟨_, rfl⟩
  rw [hr]
  obtain ⟨p0, p1, p2, hz⟩ := heap3 (w := w') (.cells #[.int .i64 1] 3) (.cells #[.int .i64 2, .int .i64 0, .slice none 0 0, .slice (some ⟨r6, 0, none⟩) 1 1] 41) (.cells #[.int .i64 0] 3) hr
  have kb : Older w' (((w'.alloc (.cells #[.int .i64 1] 3)).alloc (.cells #[.int .i64 2, .int .i64 0, .slice none 0 0, .slice (some ⟨r6, 0, none⟩) 1 1] 41)).alloc (.cells #[.int .i64 0] 3)) := (((Older.alloc _ _).trans (Older.alloc _ _)).trans (Older.alloc _ _))
  obtain ⟨W6, hW⟩ : ∃ W, (((w'.alloc (.cells #[.int .i64 1] 3)).alloc (.cells #[.int .i64 2, .int .i64 0, .slice none 0 0, .slice (some ⟨r6, 0, none⟩) 1 1] 41)).alloc (.cells #[.int .i64 0] 3)) = W := ⟨_, rfl⟩
  rw [hW] at p0 p1 p2 kb hz ⊢
  clear hW hr
  replace BO := BO.trans (kb)
  replace R1 := R1.kb (kb)
  replace c10 := (kb).cell c10
  replace c11 := (kb).cell c11
  replace c12 := (kb).cell c12
  replace c13 := (kb).cell c13
  replace R2 := R2.kb (kb)
  replace c20 := (kb).cell c20
  replace c21 := (kb).cell c21
  replace c22 := (kb).cell c22
  replace c23 := (kb).cell c23
  replace R3 := R3.kb (kb)
  replace c30 := (kb).cell c30
  replace c31 := (kb).cell c31
  replace c32 := (kb).cell c32
  replace c33 := (kb).cell c33
  replace l0 := (kb).cell l0
  replace l1 := (kb).cell l1
  replace l2 := (kb).cell l2
  replace R5 := R5.kb (kb)
  replace c50 := (kb).cell c50
  replace c51 := (kb).cell c51
  replace c52 := (kb).cell c52
  replace c53 := (kb).cell c53
  have R6 : GraphR W6 (exP r6 (r6 + 1) (r6 + 2)) := exP_R p0 p1 p2
  clear p0 p1 p2 kb hz
  have hsm := sameG_true (y := ⟨.slice yna ynn ync, .slice yha yhn yhc, .slice none 0 0, .slice none 0 0, yns, yhs, yps, yss⟩) (z := exP r6 (r6 + 1) (r6 + 2)) hp hy0 hyps hyss
  refine opsD_call rfl (by rfl) rfl (av := #[(⟨.slice yna ynn ync, .slice yha yhn yhc, .slice none 0 0, .slice none 0 0, yns, yhs, yps, yss⟩ : GraphV).val, (exP r6 (r6 + 1) (r6 + 2)).val]) (by simp [go_sem, GraphV.val, exG, exC, exP]) Tryd.func14 (by rfl) (by rfl) (Same_D R5 R6 LY.1) ?_
  rintro v w' ⟨rfl, ko⟩
  try walk_nrm
  rw [hsm]
  replace BO := BO.trans (ko)
  replace R1 := R1.kb (ko)
  replace c10 := (ko).cell c10
  replace c11 := (ko).cell c11
  replace c12 := (ko).cell c12
  replace c13 := (ko).cell c13
  replace R2 := R2.kb (ko)
  replace c20 := (ko).cell c20
  replace c21 := (ko).cell c21
  replace c22 := (ko).cell c22
  replace c23 := (ko).cell c23
  replace R3 := R3.kb (ko)
  replace c30 := (ko).cell c30
  replace c31 := (ko).cell c31
  replace c32 := (ko).cell c32
  replace c33 := (ko).cell c33
  replace l0 := (ko).cell l0
  replace l1 := (ko).cell l1
  replace l2 := (ko).cell l2
  replace R5 := R5.kb (ko)
  replace c50 := (ko).cell c50
  replace c51 := (ko).cell c51
  replace c52 := (ko).cell c52
  replace c53 := (ko).cell c53
  clear ko R6 hsm
  refine dop ?_
  walk_nrm
  refine dop ?_
  walk_nrm
  refine dop ?_
  walk_nrm
  refine dop ?_
  walk_nrm
  refine opsD_call rfl (by rfl) rfl (av := #[(exC r3 (r3 + 1) (r3 + 2)).val, .int .i64 1, (⟨.slice yna ynn ync, .slice yha yhn yhc, .slice none 0 0, .slice none 0 0, yns, yhs, yps, yss⟩ : GraphV).val, .int .i64 0]) (by simp [go_sem, GraphV.val, exG, exC, exP]) Tryd.func16 (by rfl) (by rfl) (Alike_D R3 (exC_L _ _ _) (by simp [exC]) R5 LY.1 LY.2 1 0) ?_
  rintro v w' ⟨r, rfl, hr, ko⟩
  try walk_nrm
  obtain rfl : r = true := hr.2 ⟨by rw [exC_one]; simp, by rw [exC_one, hp, exP_zero]⟩
  replace BO := BO.trans (ko)
  replace R1 := R1.kb (ko)
  replace c10 := (ko).cell c10
  replace c11 := (ko).cell c11
  replace c12 := (ko).cell c12
  replace c13 := (ko).cell c13
  replace R2 := R2.kb (ko)
  replace c20 := (ko).cell c20
  replace c21 := (ko).cell c21
  replace c22 := (ko).cell c22
  replace c23 := (ko).cell c23
  replace R3 := R3.kb (ko)
  replace c30 := (ko).cell c30
  replace c31 := (ko).cell c31
  replace c32 := (ko).cell c32
  replace c33 := (ko).cell c33
  replace l0 := (ko).cell l0
  replace l1 := (ko).cell l1
  replace l2 := (ko).cell l2
  replace R5 := R5.kb (ko)
  replace c50 := (ko).cell c50
  replace c51 := (ko).cell c51
  replace c52 := (ko).cell c52
  replace c53 := (ko).cell c53
  clear ko hr
  refine dop ?_
  walk_nrm
  refine dop ?_
  walk_nrm
  refine dop ?_
  walk_nrm
  refine dop ?_
  walk_nrm
  refine opsD_call rfl (by rfl) rfl (av := #[(exC r3 (r3 + 1) (r3 + 2)).val, .int .i64 0, (exC r3 (r3 + 1) (r3 + 2)).val, .int .i64 1]) (by simp [go_sem, GraphV.val, exG, exC, exP]) Tryd.func16 (by rfl) (by rfl) (Alike_D R3 (exC_L _ _ _) (by simp [exC]) R3 (exC_L _ _ _) (by simp [exC]) 0 1) ?_
  rintro v w' ⟨r, rfl, hr, ko⟩
  try walk_nrm
  obtain rfl : r = false := by
    cases r
    · rfl
    · exact absurd (congrArg List.length (hr.1 rfl).2) (by rw [exC_zero, exC_one]; decide)
  replace BO := BO.trans (ko)
  replace R1 := R1.kb (ko)
  replace c10 := (ko).cell c10
  replace c11 := (ko).cell c11
  replace c12 := (ko).cell c12
  replace c13 := (ko).cell c13
  replace R2 := R2.kb (ko)
  replace c20 := (ko).cell c20
  replace c21 := (ko).cell c21
  replace c22 := (ko).cell c22
  replace c23 := (ko).cell c23
  replace R3 := R3.kb (ko)
  replace c30 := (ko).cell c30
  replace c31 := (ko).cell c31
  replace c32 := (ko).cell c32
  replace c33 := (ko).cell c33
  replace l0 := (ko).cell l0
  replace l1 := (ko).cell l1
  replace l2 := (ko).cell l2
  replace R5 := R5.kb (ko)
  replace c50 := (ko).cell c50
  replace c51 := (ko).cell c51
  replace c52 := (ko).cell c52
  replace c53 := (ko).cell c53
  clear ko hr
  refine dop ?_
  walk_nrm
  refine dop ?_
  walk_nrm
  refine dop ?_
  walk_nrm
  refine dop ?_
  walk_nrm
  refine dop ?_
  walk_nrm
  refine opsD_call rfl (by rfl) rfl (av := #[(exG r1 (r1 + 1) 7).val, .int .i64 1, (exG r1 (r1 + 1) 7).val, .int .i64 1]) (by simp [go_sem, GraphV.val, exG, exC, exP]) Tryd.func16 (by rfl) (by rfl) (Alike_D R1 (exG_L _ _ _) (by simp [exG]) R1 (exG_L _ _ _) (by simp [exG]) 1 1) ?_
  rintro v w' ⟨r, rfl, hr, ko⟩
  try walk_nrm
  obtain rfl : r = false := by
    cases r
    · rfl
    · exact absurd (exG_one _ _ _) (hr.1 rfl).1
  replace BO := BO.trans (ko)
  replace R1 := R1.kb (ko)
  replace c10 := (ko).cell c10
  replace c11 := (ko).cell c11
  replace c12 := (ko).cell c12
  replace c13 := (ko).cell c13
  replace R2 := R2.kb (ko)
  replace c20 := (ko).cell c20
  replace c21 := (ko).cell c21
  replace c22 := (ko).cell c22
  replace c23 := (ko).cell c23
  replace R3 := R3.kb (ko)
  replace c30 := (ko).cell c30
  replace c31 := (ko).cell c31
  replace c32 := (ko).cell c32
  replace c33 := (ko).cell c33
  replace l0 := (ko).cell l0
  replace l1 := (ko).cell l1
  replace l2 := (ko).cell l2
  replace R5 := R5.kb (ko)
  replace c50 := (ko).cell c50
  replace c51 := (ko).cell c51
  replace c52 := (ko).cell c52
  replace c53 := (ko).cell c53
  clear ko hr
  refine dop ?_
  walk_nrm
  refine dop ?_
  walk_nrm
  refine dop ?_
  walk_nrm
  refine dop ?_
  walk_nrm
  refine opsD_call rfl (by rfl) rfl (av := #[(exC r3 (r3 + 1) (r3 + 2)).val]) (by simp [go_sem, GraphV.val, exG, exC, exP]) Tryd.func17 (by rfl) (by rfl) (Count_D R3 (by simp [exC]) (exC_ty _ _ _)) ?_
  rintro v w' ⟨b, rfl, ht, hbz, ko⟩
  try walk_nrm
  have hlk := ht.look (g := 2) (by omega) (by omega)
  rw [exC_cnt] at hlk
  replace hlk : (Instr.lookup 37 (.map (some b)) (.int .i64 2) false).run Tryd.prog w' = .ok (.int .i64 1) w' := hlk
  replace BO := BO.trans (ko)
  replace R1 := R1.kb (ko)
  replace c10 := (ko).cell c10
  replace c11 := (ko).cell c11
  replace c12 := (ko).cell c12
  replace c13 := (ko).cell c13
  replace R2 := R2.kb (ko)
  replace c20 := (ko).cell c20
  replace c21 := (ko).cell c21
  replace c22 := (ko).cell c22
  replace c23 := (ko).cell c23
  replace R3 := R3.kb (ko)
  replace c30 := (ko).cell c30
  replace c31 := (ko).cell c31
  replace c32 := (ko).cell c32
  replace c33 := (ko).cell c33
  replace l0 := (ko).cell l0
  replace l1 := (ko).cell l1
  replace l2 := (ko).cell l2
  replace R5 := R5.kb (ko)
  replace c50 := (ko).cell c50
  replace c51 := (ko).cell c51
  replace c52 := (ko).cell c52
  replace c53 := (ko).cell c53
  clear ko ht hbz
  refine dop ?_
  walk_nrm
  refine dop ?_
  walk_nrm
  refine dop ?_
  walk_nrm
  refine dop ?_
  walk_nrm
  refine opsD_nil ?_
  refine hK.out _ _ ?_
  clear hK K
  refine wpD_ret ⟨rfl, _, resultsC_tmp (t := 0) (by rfl) _, rfl, BO⟩

end Go.Proofs.YtifdhaiihlfomaaDoor
