/-
  diff.Of: the differences of two graphs, by a goroutine that sends them one by one.
-/
import Derived.Test.YtifdhaiihlfomaaDoorDiAll
import Derived.Test.YtifdhaiihlfomaaDoorConTop
import Derived.Conc.SmallLaws
namespace Go.Proofs.YtifdhaiihlfomaaDoor
open Go Go.Conc Go.RowKit
set_option linter.unusedVariables false

/-- Whose block it is: differences are the receiver's. -/
def ownD : Obj → Bool
  | .cells _ e _ => e == 27
  | _ => false
theorem ownD_other : ∀ e, e ≠ 27 → ∀ cs fz, ownD (.cells cs e fz) = false := fun e he cs fz => by simp [ownD, he]
theorem ownD_diff : ∀ cs fz, ownD (.cells cs 27 fz) = true := fun cs fz => by simp [ownD]
def cellsOf : Value → List Value
  | .agg xs => xs.toList
  | v => [v]
/-- A difference. -/
def IsD (v : Value) : Prop := ∃ k : Int, ∃ n j : Nat, v = dV k n j
theorem cells_len {L : List Value} (h : ∀ v ∈ L, IsD v) : (L.flatMap cellsOf).length = L.length * 3 := by
  induction L with
  | nil => rfl
  | cons v L ih =>
    obtain ⟨k, n, j, rfl⟩ := h v (List.mem_cons_self ..)
    rw [List.flatMap_cons, List.length_append, ih fun u hu => h u (List.mem_cons_of_mem _ hu)]
    simp only [dV, cellsOf, List.length_cons, List.length_nil]
    omega
/-- What the receiver holds of the world. -/
structure HO (c Low : Nat) (w₀ : World) (v : Value) (L : List Value) (w : World) : Prop where
  kn : Kn c Low w₀ w
  row : w.ownsRow Low 27 3 v L.length (L.flatMap cellsOf)
  os : w.os = w₀.os
  out : w.output = w₀.output
theorem HO.rely {c Low : Nat} {w₀ : World} {v : Value} {L : List Value} {w w₁ : World} (h : HO c Low w₀ v L w) (r : Oth c Low ownD true w w₁) : HO c Low w₀ v L w₁ := ⟨h.kn.oth r, row_oth ownD_diff h.row r, r.os.trans h.os, r.output.trans h.out⟩
/-- .. and one block of its own. -/
structure HX (c Low : Nat) (w₀ : World) (v : Value) (L : List Value) (g : Nat) (xs : Array Value) (w : World) : Prop where
  ho : HO c Low w₀ v L w
  low : Low ≤ g
  blk : w.heap[g]? = some (.cells xs 27)
  ne : ∀ b, v.ownBlock = some b → b ≠ g
theorem HX.rely {c Low : Nat} {w₀ : World} {v : Value} {L : List Value} {g : Nat} {xs : Array Value} {w w₁ : World} (h : HX c Low w₀ v L g xs w) (r : Oth c Low ownD true w w₁) : HX c Low w₀ v L g xs w₁ :=
  ⟨h.ho.rely r, h.low, r.mine g _ h.low h.blk (ownD_diff _ _), h.ne⟩
theorem Kn.push {c Low : Nat} {w₀ w : World} (h : Kn c Low w₀ w) (o : Obj) : Kn c Low w₀ (w.alloc o) := by
  refine ⟨fun k h1 h2 => ?_, ?_⟩
  · rw [Below.heap_alloc _ _ _ (Nat.lt_of_lt_of_le h1 h.size)]
    exact h.low k h1 h2
  · have := h.size
    simp
    omega
theorem HO.push {c Low : Nat} {w₀ : World} {v : Value} {L : List Value} {w : World} (h : HO c Low w₀ v L w) (xs : Array Value) : HX c Low w₀ v L w.heap.size xs (w.alloc (.cells xs 27)) := by
  refine ⟨⟨h.kn.push _, ⟨h.row.1, ?_⟩, h.os, h.out⟩, h.kn.size, Array.getElem?_push_size, fun b hb => ?_⟩
  · obtain ⟨_, h2 | ⟨g, cap, cur, hv, hg, hh, ht⟩⟩ := h.row
    · exact .inl h2
    · exact .inr ⟨g, cap, cur, hv, hg, by rw [Below.heap_alloc _ _ _ (Array.getElem?_eq_some_iff.1 hh).1]; exact hh, ht⟩
  · obtain ⟨_, h2 | ⟨g, cap, cur, hv, hg, hh, ht⟩⟩ := h.row
    · rw [h2.1] at hb
      cases hb
    · rw [hv] at hb
      simp only [Value.ownBlock, Option.some.injEq] at hb
      have := (Array.getElem?_eq_some_iff.1 hh).1
      omega
/-- The block is turned. -/
theorem HX.turn {c Low : Nat} {w₀ : World} {v : Value} {L : List Value} {g : Nat} {xs ys : Array Value} {w w' : World} (h : HX c Low w₀ v L g xs w) (hs : w'.heap.size = w.heap.size) (hrest : ∀ k, k ≠ g → w'.heap[k]? = w.heap[k]?) (hg : w'.heap[g]? = some (.cells ys 27)) (hos : w'.os = w.os) (hout : w'.output = w.output) : HX c Low w₀ v L g ys w' := by
  have hl := h.low
  refine ⟨⟨⟨fun k h1 h2 => ?_, by rw [hs]; exact h.ho.kn.size⟩, ⟨h.ho.row.1, ?_⟩, hos.trans h.ho.os, hout.trans h.ho.out⟩, h.low, hg, h.ne⟩
  · rw [hrest k (by omega)]
    exact h.ho.kn.low k h1 h2
  · obtain ⟨_, h2 | ⟨g', cap, cur, hv, hg', hh, ht⟩⟩ := h.ho.row
    · exact .inl h2
    · exact .inr ⟨g', cap, cur, hv, hg', by rw [hrest g' (h.ne g' (by rw [hv]; rfl))]; exact hh, ht⟩

/-- Where it stands at the receive. -/
def OfR (c Low : Nat) (w₀ : World) (L : List Value) (a : Act) (w : World) : Prop := ∃ (v : Value) (u : Nat → Value), HO c Low w₀ v L w ∧ a = { tmps := #[u 0, u 1, u 2, u 3, v, u 5, u 6, u 7, u 8, u 9, u 10, .chan (some c), u 12, u 13, u 14, u 15, u 16, u 17, u 18, u 19], defers := [] }
set_option maxRecDepth 100000 in
theorem OfR.mk {c Low : Nat} {w₀ : World} {L : List Value} {v x0 x1 x2 x3 x5 x6 x7 x8 x9 x10 x12 x13 x14 x15 x16 x17 x18 x19 : Value} {w : World} (h : HO c Low w₀ v L w) : OfR c Low w₀ L { tmps := #[x0, x1, x2, x3, v, x5, x6, x7, x8, x9, x10, .chan (some c), x12, x13, x14, x15, x16, x17, x18, x19], defers := [] } w :=
  ⟨v, fun i => (#[x0, x1, x2, x3, undef, x5, x6, x7, x8, x9, x10, undef, x12, x13, x14, x15, x16, x17, x18, x19] : Array Value).getD i undef, h, rfl⟩
theorem OfR.rely {c Low : Nat} {w₀ : World} {L : List Value} {a : Act} {w w₁ : World} (h : OfR c Low w₀ L a w) (r : Oth c Low ownD true w w₁) : OfR c Low w₀ L a w₁ := by
  obtain ⟨v, u, hS, rfl⟩ := h
  exact ⟨v, u, hS.rely r, rfl⟩

/-- A graph in memory. -/
def GraphIn (w : World) (x : GraphV) : Prop := GraphOk w.heap.size w.heap.size w x
theorem ArgOf.lift {P : Program} {n₀ c Low : Nat} {w w₁ : World} {sl : TypeId} {kind : IntKind} {va : Value} {n : Nat} {zs : List Int} (h : ArgOf P n₀ n₀ w sl kind va n zs) (hc : n₀ ≤ c) (hL : n₀ ≤ Low) (he : ∀ k, k < n₀ → w₁.heap[k]? = w.heap[k]?) : ArgOf P c Low w₁ sl kind va n zs :=
  ⟨h.size, h.small, h.len, h.lenE, fun i hi => by
    obtain ⟨ad, h1, h2, h3, h4, h5⟩ := h.idx i hi
    exact ⟨ad, h1, h2, by omega, by omega, by rw [World.cell?_of_block (he ad.block h3)]; exact h5⟩⟩
theorem NodeOk.lift {n₀ c Low : Nat} {w w₁ : World} {x : NodeV} (h : NodeOk n₀ n₀ w x) (hc : n₀ ≤ c) (hL : n₀ ≤ Low) (he : ∀ k, k < n₀ → w₁.heap[k]? = w.heap[k]?) : NodeOk c Low w₁ x :=
  ⟨h.words.lift hc hL he, h.refs.lift hc hL he, h.w1, h.r1, h.wl, h.rl⟩
theorem GraphOk.lift {n₀ c Low : Nat} {w w₁ : World} {x : GraphV} (h : GraphOk n₀ n₀ w x) (hc : n₀ ≤ c) (hL : n₀ ≤ Low) (he : ∀ k, k < n₀ → w₁.heap[k]? = w.heap[k]?) : GraphOk c Low w₁ x :=
  ⟨⟨h.nodes.small, h.nodes.form, fun j hj => by
      obtain ⟨ad, h1, h2, h3, h4, h5, h6, h7, h8⟩ := h.nodes.idx j hj
      have hc' : ∀ {o : Nat} {v : Value}, w.cell? ⟨ad.block, o, none⟩ = some v → w₁.cell? ⟨ad.block, o, none⟩ = some v := fun {o v} hv => (World.cell?_of_block (a := ⟨ad.block, o, none⟩) (he ad.block h3)).trans hv
      exact ⟨ad, h1, h2, by omega, by omega, by rw [World.cell?_of_block (he ad.block h3)]; exact h5, hc' h6, hc' h7, hc' h8⟩,
    fun j hj => (h.nodes.ok j hj).lift hc hL he⟩, h.hands.lift hc hL he, h.pins.lift hc hL he, h.stack.lift hc hL he, h.h1, h.p1, h.s1, h.hl, h.pl, h.sl⟩

/-- All is told as differences. -/
theorem allL_isD (a b : GraphV) : ∀ v ∈ allL a b, IsD v := by
  intro v hv
  unfold allL at hv
  rcases List.mem_append.1 hv with hv | hv
  · obtain ⟨j, _, hv⟩ := List.mem_flatMap.1 hv
    unfold tellN at hv
    split at hv
    · unfold nodeL rowL at hv
      simp only [List.mem_append, List.mem_map] at hv
      rcases hv with hv | hv | ⟨i, _, rfl⟩ | ⟨i, _, rfl⟩
      · split at hv
        · cases hv
        · rw [List.mem_singleton] at hv
          subst hv
          exact ⟨_, _, _, rfl⟩
      · split at hv
        · cases hv
        · rw [List.mem_singleton] at hv
          subst hv
          exact ⟨_, _, _, rfl⟩
      · exact ⟨_, _, _, rfl⟩
      · exact ⟨_, _, _, rfl⟩
    · rw [List.mem_singleton] at hv
      subst hv
      exact ⟨_, _, _, rfl⟩
  · obtain ⟨t, _, hv⟩ := List.mem_flatMap.1 hv
    unfold rowK at hv
    obtain ⟨i, _, rfl⟩ := List.mem_map.1 hv
    exact ⟨_, _, _, rfl⟩

theorem three_cells {w : World} {g : Nat} {x y z : Value} {e : TypeId} (h : w.heap[g]? = some (.cells #[x, y, z] e)) : ∀ j u, [x, y, z][j]? = some u → w.cell? ((⟨g, 0, none⟩ : Addr).add j) = some u := by
  intro j u hj
  have e : (⟨g, 0, none⟩ : Addr).add j = ⟨g, j, none⟩ := by cases j <;> simp [Addr.add]
  rw [e]
  refine cell_at h ?_
  simpa using hj
theorem get3 (h : Array Obj) (x y z : Obj) : (((h.push x).push y).push z)[h.size]? = some x ∧ (((h.push x).push y).push z)[h.size + 1]? = some y ∧ (((h.push x).push y).push z)[h.size + 2]? = some z ∧ ∀ k, k < h.size → (((h.push x).push y).push z)[k]? = h[k]? := by
  refine ⟨?_, ?_, ?_, fun k hk => ?_⟩
  · rw [Array.getElem?_push, if_neg (by simp only [Array.size_push]; omega), Array.getElem?_push, if_neg (by simp only [Array.size_push]; omega), Array.getElem?_push, if_pos rfl]
  · rw [Array.getElem?_push, if_neg (by simp only [Array.size_push]; omega), Array.getElem?_push, if_pos (by simp only [Array.size_push])]
  · rw [Array.getElem?_push, if_pos (by simp only [Array.size_push])]
  · rw [Array.getElem?_push, if_neg (by simp only [Array.size_push]; omega), Array.getElem?_push, if_neg (by simp only [Array.size_push]; omega), Array.getElem?_push, if_neg (by omega)]

/-- The heap is this one. -/
structure Hp (b : World) (h : Array Obj) (w : World) : Prop where
  eq : w.heap = h
  os : w.os = b.os
  out : w.output = b.output
theorem Hp.rely {b : World} {h : Array Obj} {w w₁ : World} (hh : Hp b h w) (r : AtRel w w₁) : Hp b h w₁ := by
  obtain ⟨d, rfl⟩ := r
  exact ⟨hh.eq, hh.os, hh.out⟩
theorem Hp.alloc {b : World} {h : Array Obj} {w : World} (hh : Hp b h w) (o : Obj) : Hp b (h.push o) (w.alloc o) := ⟨by show w.heap.push o = _; rw [hh.eq], hh.os, hh.out⟩

set_option maxRecDepth 100000 in
set_option maxHeartbeats 4000000 in
theorem of_c (a b : GraphV) (w : World) (ha : GraphIn w a) (hb : GraphIn w b) (hlen : (allL a b).length ≤ 4000000000) :
    CallsD Tryd.prog 9 #[a.val, b.val] w fun v w' => (∀ k, k < w.heap.size → w'.heap[k]? = w.heap[k]?) ∧ w.heap.size ≤ w'.heap.size ∧ w'.ownsRow w.heap.size 27 3 v (allL a b).length ((allL a b).flatMap cellsOf) ∧ w'.os = w.os ∧ w'.output = w.output := by
  refine callsD_of_wpD Tryd.func9 (by rfl) ?_
  have hF : Hp w w.heap w := ⟨rfl, rfl, rfl⟩
  simp only [Tryd.ntmps9, GraphV.val, List.size_toArray, List.length_cons, List.length_nil, Nat.reduceAdd, Nat.reduceSub, Array.replicate_succ, Array.replicate_zero, List.push_toArray, List.append_toArray, List.nil_append, List.cons_append]
  obtain ⟨ana, anc, hx1⟩ := ha.nodes.form
  obtain ⟨bna, bnc, hx2⟩ := hb.nodes.form
  obtain ⟨aha, ahl, ahc, hx3⟩ := ha.h1
  obtain ⟨apa, apl, apc, hx4⟩ := ha.p1
  obtain ⟨asa, asl, asc, hx5⟩ := ha.s1
  obtain ⟨bha, bhl, bhc, hx6⟩ := hb.h1
  obtain ⟨bpa, bpl, bpc, hx7⟩ := hb.p1
  obtain ⟨bsa, bsl, bsc, hx8⟩ := hb.s1
  rw [hx1, hx2, hx3, hx4, hx5, hx6, hx7, hx8]
  co_apply wpD_stmt
  intro KK hKK
  simp only [List.size_toArray, List.length_cons, List.length_nil, Nat.reduceAdd, Nat.zero_add, List.range, List.range.loop]
  co_opw Hp.rely hF (skip) (intro e he; have hm := mem_listed he; simp [go_sem, *] at hm)
  rename_i wA
  have e1 : wA.heap.size = w.heap.size := congrArg Array.size hF.eq
  rw [e1]
  replace hF := hF.alloc (.cells #[.slice ana a.ns.length anc, .slice aha ahl ahc, .slice apa apl apc, .slice asa asl asc] 25)
  clear e1
  co_opw Hp.rely hF (skip) (intro e he; have hm := mem_listed he; simp [go_sem, *] at hm)
  rename_i wB
  have e1 : wB.heap.size = w.heap.size + 1 := by rw [hF.eq]; simp
  rw [e1]
  replace hF := hF.alloc (.cells #[.slice bna b.ns.length bnc, .slice bha bhl bhc, .slice bpa bpl bpc, .slice bsa bsl bsc] 25)
  clear e1
  co_opw Hp.rely hF (skip) (co_still termsQ)
  co_apply opsC_nil termsQ
  refine hKK.out _ _ ?_
  clear hKK KK
  co_apply wpD_stmt
  intro KK hKK
  simp only [List.size_toArray, List.length_cons, List.length_nil, Nat.reduceAdd, Nat.zero_add, List.range, List.range.loop]
  obtain ⟨iD, hiD, hzD, hsD, hbD⟩ := info_parts (by kernel_rfl : (Tryd.prog.info? 27).map (fun i => (i.zero, i.size, i.bytes)) = some (some (.agg #[.int .u8 0, .int .i64 0, .int .i64 0]), 3, 24))
  have hme := fun w es => events_makeChan (P := Tryd.prog) (w := w) Tryd.underlying46 hiD .i64 0 (by omega) (by rw [hbD]; omega) es
  rw [Int.ofNat_zero] at hme
  co_opw Hp.rely hF (skip) (intro e he; have hm := mem_listed he; simp [go_sem, *] at hm)
  rename_i wC
  have e1 : wC.heap.size = w.heap.size + 2 := by rw [hF.eq]; simp
  rw [e1, Int.toNat_zero]
  clear e1
  replace hF : Hp w (((w.heap.push (.cells #[.slice ana a.ns.length anc, .slice aha ahl ahc, .slice apa apl apc, .slice asa asl asc] 25)).push (.cells #[.slice bna b.ns.length bnc, .slice bha bhl bhc, .slice bpa bpl bpc, .slice bsa bsl bsc] 25)).push (.chan 0 #[] false 0 0 false)) { wC with heap := wC.heap.push (.chan 0 #[] false 0 0 false) } := ⟨by show wC.heap.push _ = _; rw [hF.eq], hF.os, hF.out⟩
  co_opw Hp.rely hF (skip) (co_still termsQ)
  co_apply opsC_nil termsQ
  refine hKK.out _ _ ?_
  clear hKK KK
  -- the go statement
  intro b' k cs S hbb hbk hcont
  refine drive_ctl rfl (fun _ => stepG_seq) (drive_ctl rfl (fun _ => stepG_region) ?_)
  simp only [List.size_toArray, List.length_cons, List.length_nil, Nat.reduceAdd, Nat.zero_add, List.range, List.range.loop]
  refine drive_op_k rfl (by rfl) hbk fun w₁ hR K hK => ?_
  replace hF := hF.rely hR
  clear hR
  skip
  go_simp
  refine hK _ _ ⟨?_, ?_⟩
  · co_still termsQ
  clear hK K
  try walk_nrm
  refine drive_op_k rfl (by rfl) hbk fun w₁ hR K hK => ?_
  replace hF := hF.rely hR
  clear hR
  have hm : w₁.heap[w.heap.size]? = some (.cells #[.slice ana a.ns.length anc, .slice aha ahl ahc, .slice apa apl apc, .slice asa asl asc] 25) := by rw [hF.eq]; exact (get3 _ _ _ _).1
  have hc0 := cell_at hm (i := 0) rfl
  have hc1 := cell_at hm (i := 1) rfl
  have hc2 := cell_at hm (i := 2) rfl
  have hc3 := cell_at hm (i := 3) rfl
  go_simp
  refine hK _ _ ⟨?_, ?_⟩
  · intro e he
    have hm2 := mem_listed he
    simp [go_sem, *] at hm2
    rcases hm2 with rfl | rfl | rfl | rfl <;> exact ⟨by simp, by simp⟩
  clear hK K
  try walk_nrm
  clear hm hc0 hc1 hc2 hc3
  refine drive_op_k rfl (by rfl) hbk fun w₁ hR K hK => ?_
  replace hF := hF.rely hR
  clear hR
  have hm : w₁.heap[w.heap.size + 1]? = some (.cells #[.slice bna b.ns.length bnc, .slice bha bhl bhc, .slice bpa bpl bpc, .slice bsa bsl bsc] 25) := by rw [hF.eq]; exact (get3 _ _ _ _).2.1
  have hc0 := cell_at hm (i := 0) rfl
  have hc1 := cell_at hm (i := 1) rfl
  have hc2 := cell_at hm (i := 2) rfl
  have hc3 := cell_at hm (i := 3) rfl
  go_simp
  refine hK _ _ ⟨?_, ?_⟩
  · intro e he
    have hm2 := mem_listed he
    simp [go_sem, *] at hm2
    rcases hm2 with rfl | rfl | rfl | rfl <;> exact ⟨by simp, by simp⟩
  clear hK K
  try walk_nrm
  clear hm hc0 hc1 hc2 hc3
  have hlow : ∀ k, k < w.heap.size → w₁.heap[k]? = w.heap[k]? := fun k hk => by
    rw [hF.eq]
    exact (get3 _ _ _ _).2.2.2 k hk
  have hsz : w₁.heap.size = w.heap.size + 3 := by rw [hF.eq]; simp
  have hos1 : w₁.os = w.os := hF.os
  have hout1 : w₁.output = w.output := hF.out
  have hGA : GraphOk (w.heap.size + 2) (w.heap.size + 3) w₁ a := GraphOk.lift ha (by omega) (by omega) hlow
  have hGB : GraphOk (w.heap.size + 2) (w.heap.size + 3) w₁ b := GraphOk.lift hb (by omega) (by omega) hlow
  have hKn : Kn (w.heap.size + 2) (w.heap.size + 3) w₁ w₁ := ⟨fun _ _ _ => rfl, by omega⟩
  have hsend := all_c (own := ownD) (by omega) ownD_other a b hGA hGB w₁ hKn
  have hch : w₁.heap[w.heap.size + 2]? = some (.chan 0 #[] false 0 0 false) := by rw [hF.eq]; exact (get3 _ _ _ _).2.2.1
  generalize hc : w.heap.size + 2 = c at hGA hGB hKn hsend hch ⊢
  generalize hLw : w.heap.size + 3 = Low at hGA hGB hKn hsend hsz ⊢
  have hcL : c < Low := by omega
  rw [GraphV.val, GraphV.val, hx1, hx2, hx3, hx4, hx5, hx6, hx7, hx8] at hsend
  co_apply Drive.trans
  · co_apply drive_pipe (c := c) (Low := Low) (own := ownD) (z := .agg #[.int .u8 0, .int .i64 0, .int .i64 0]) (vs := allL a b) (es := #[]) hcL
    · rfl
    · simp
    · intro d
      rw [stepG_spawn (f := .func 20) (c := #[]) rfl (by rfl) hbk (by unfold execOp; simp [resolve, Deferred.ofValue, Act.eval]; exact ⟨rfl, rfl⟩) rfl, listed_nil (by unfold execOp; simp [resolve, Deferred.ofValue, Act.eval])]
    · exact hch
    · skip
      co_apply recvsW_of 10
      have hO : HO c Low w₁ (.slice none 0 0) [] w₁ := ⟨hKn, World.ownsRow_nil w₁ Low 27 3, rfl, rfl⟩
      try walk_nrm
      refine Goes.step rfl fun w₂ h₂ => ?_
      rw [stepG_region_end]
      refine ⟨dOwn_idle _, ?_⟩
      replace hO := hO.rely h₂
      clear h₂
      refine Goes.step rfl fun w₂ h₂ => ?_
      rw [stepG_seq]
      refine ⟨dOwn_idle _, ?_⟩
      replace hO := hO.rely h₂
      clear h₂
      refine Goes.step rfl fun w₂ h₂ => ?_
      rw [stepG_seq]
      refine ⟨dOwn_idle _, ?_⟩
      replace hO := hO.rely h₂
      clear h₂
      refine Goes.step rfl fun w₂ h₂ => ?_
      rw [stepG_region]
      refine ⟨dOwn_idle _, ?_⟩
      replace hO := hO.rely h₂
      clear h₂
      simp only [List.size_toArray, List.length_cons, List.length_nil, Nat.zero_add, List.range, List.range.loop]
      refine Goes.step rfl fun w₂ h₂ => goes_oper_k rfl (by rfl) hbk fun K hK => ?_
      replace hO := hO.rely h₂
      clear h₂
      go_simp
      refine hK _ _ ⟨?_, ?_⟩
      · co_still (termsO c Low ownD true)
      clear hK K
      try walk_nrm
      refine Goes.step rfl fun w₂ h₂ => ?_
      rw [stepG_region_end]
      refine ⟨dOwn_idle _, ?_⟩
      replace hO := hO.rely h₂
      clear h₂
      refine Goes.step rfl fun w₂ h₂ => ?_
      rw [stepG_block]
      refine ⟨dOwn_idle _, ?_⟩
      replace hO := hO.rely h₂
      clear h₂
      refine Goes.step rfl fun w₂ h₂ => ?_
      rw [stepG_loop]
      refine ⟨dOwn_idle _, ?_⟩
      replace hO := hO.rely h₂
      clear h₂
      refine Goes.step rfl fun w₂ h₂ => ?_
      rw [stepG_seq]
      refine ⟨dOwn_idle _, ?_⟩
      replace hO := hO.rely h₂
      clear h₂
      refine Goes.step rfl fun w₂ h₂ => ?_
      rw [stepG_region]
      refine ⟨dOwn_idle _, ?_⟩
      replace hO := hO.rely h₂
      clear h₂
      simp only [List.size_toArray, List.length_cons, List.length_nil, Nat.reduceAdd, Nat.zero_add, List.range, List.range.loop]
      refine Goes.stop fun w₂ h₂ => ?_
      replace hO := hO.rely h₂
      clear h₂
      co_apply recv_loop (fn := 9) (Gd := IsD) (Lt := allL a b) (I := fun L a w => OfR c Low w₁ L a w) hbb hbk
      · rfl
      · rfl
      · rfl
      · rfl
      · intro tm
        rfl
      · exact fun L a w w' h r => h.rely r
      · rintro L a w ⟨v, u, hO, rfl⟩
        rfl
      · intro a w hx
        constructor
        · unfold execOp
          simp [go_sem, rcase]
          simpa [Act.eval] using hx
        · unfold execOp
          simp [go_sem]
      · rintro L v us aa w₂ hLt ⟨kd, dn, dj, rfl⟩ ⟨vv, u, hO, rfl⟩
        have hll : L.length + 1 ≤ 4000000000 := by
          have := congrArg List.length hLt
          simp only [List.length_append, List.length_cons] at this
          omega
        unfold dV
        try walk_nrm
        co_opw HO.rely hO (skip) (co_still (termsO c Low ownD true))
        co_apply opsC_nil (termsO c Low ownD true)
        dsimp only [onN]
        co_apply wpC_seq (termsO c Low ownD true)
        co_apply wpC_cond (termsO c Low ownD true) (t := true)
        focus (exact rfl)
        simp only [if_true]
        co_apply wpC_skip (termsO c Low ownD true)
        dsimp only [Exit.then]
        co_apply wpC_block (termsO c Low ownD true)
        co_apply wpC_seq (termsO c Low ownD true)
        co_reg (termsO c Low ownD true)
        co_opw HO.rely hO (skip) (co_still (termsO c Low ownD true))
        co_opw HO.rely hO (skip) (refine ⟨oth_push hO.kn.size (ownD_diff _ _), ?_, ?_⟩; exact Below.heap_alloc _ _ _ (Nat.lt_of_lt_of_le hcL hO.kn.size); co_evs (skip))
        rename_i wD
        have hX := hO.push #[.int .u8 0, .int .i64 0, .int .i64 0]
        clear hO
        generalize wD.heap.size = g6 at hX ⊢
        co_apply opsC_cons_k rfl (by rfl)
        intro w₅ hR' K hK'
        replace hX := hX.rely hR'
        clear hR'
        have hm := hX.blk
        have hc0 := cell_at hm (i := 0) rfl
        have hc1 := cell_at hm (i := 1) rfl
        have hc2 := cell_at hm (i := 2) rfl
        have hz0 := frozen_at (i := 0) hm
        have hz1 := frozen_at (i := 1) hm
        have hz2 := frozen_at (i := 2) hm
        go_simp
        try (unfold stored; go_simp)
        have hs3 := set3 (v0 := .int .u8 kd) (v1 := .int .i64 (dn : Int)) (v2 := .int .i64 (dj : Int)) hm
        have ho3 : ∀ k, k ≠ g6 → (((w₅.setCell ⟨g6, 0, none⟩ (.int .u8 kd)).setCell ⟨g6, 1, none⟩ (.int .i64 (dn : Int))).setCell ⟨g6, 2, none⟩ (.int .i64 (dj : Int))).heap[k]? = w₅.heap[k]? := fun k hk => set3_other hk
        have hsz3 : (((w₅.setCell ⟨g6, 0, none⟩ (.int .u8 kd)).setCell ⟨g6, 1, none⟩ (.int .i64 (dn : Int))).setCell ⟨g6, 2, none⟩ (.int .i64 (dj : Int))).heap.size = w₅.heap.size := by simp [World.setCell]
        have hl6 := hX.low
        replace hX := hX.turn hsz3 ho3 hs3 rfl rfl
        refine hK' _ _ ⟨⟨oth_set hl6 hs3 (ownD_diff _ _) (fun x hx => by rw [hm] at hx; cases hx; exact ownD_diff _ _) hsz3 ho3 rfl rfl rfl, ho3 c (by omega), fun ev hev => ?_⟩, ?_⟩
        · have hm2 := mem_listed hev
          simp [go_sem, *] at hm2
          rcases hm2 with rfl | rfl | rfl <;> exact evO_own hl6 hs3 (ownD_diff _ _)
        clear hK' K hm hc0 hc1 hc2 hz0 hz1 hz2 hs3 ho3 hsz3
        generalize (((w₅.setCell ⟨g6, 0, none⟩ (.int .u8 kd)).setCell ⟨g6, 1, none⟩ (.int .i64 (dn : Int))).setCell ⟨g6, 2, none⟩ (.int .i64 (dj : Int))) = w₆ at hX ⊢
        try walk_nrm
        co_apply opsC_nil (termsO c Low ownD true)
        co_then
        co_reg (termsO c Low ownD true)
        co_opw HX.rely hX (skip) (co_still (termsO c Low ownD true))
        co_opw HX.rely hX (have hm := hX.blk; have hc0 := cell_at hm (i := 0) rfl; have hc1 := cell_at hm (i := 1) rfl; have hc2 := cell_at hm (i := 2) rfl) (refine ⟨Oth.refl .., rfl, fun e he => ?_⟩; have hm2 := mem_listed he; simp [go_sem, *] at hm2; rcases hm2 with rfl | rfl | rfl <;> exact evO_read (.inr ⟨hl6, _, hm, ownD_diff _ _⟩))
        clear hm hc0 hc1 hc2
        have hO := hX.ho
        clear hX hl6
        co_opw HO.rely hO (skip) (refine ⟨oth_push hO.kn.size (ownD_diff _ _), ?_, ?_⟩; exact Below.heap_alloc _ _ _ (Nat.lt_of_lt_of_le hcL hO.kn.size); co_evs (skip))
        rename_i wE
        have hX := hO.push #[.int .u8 kd, .int .i64 (dn : Int), .int .i64 (dj : Int)]
        clear hO
        generalize wE.heap.size = g7 at hX ⊢
        co_apply opsC_cons rfl (by rfl)
        intro w₇ hR'
        replace hX := hX.rely hR'
        clear hR'
        have hm := hX.blk
        obtain ⟨v', w₈, hr, hrow, hoth, hch', hbel, hev⟩ := append_own (P := Tryd.prog) hcL Low (Nat.le_refl _) 31 31 27 iD (.agg #[.int .u8 0, .int .i64 0, .int .i64 0]) 3 24 Tryd.underlying31 hiD hzD hsD hbD rfl (by omega) ownD_diff vv _ _ hX.ho.row ⟨g7, 0, none⟩ 1 1 [.int .u8 kd, .int .i64 (dn : Int), .int .i64 (dj : Int)] rfl (three_cells hm) (by simp [Value.oneCell']) (by omega) (by simp only [maxLen]; omega) (by omega) hX.ho.kn.size (.inr ⟨hX.low, _, hm, ownD_diff _ _⟩)
        refine uponK_append (P := Tryd.prog) (.tmp 15) (.tmp 17) 31 rfl rfl rfl hr ⟨⟨hoth, hch', fun e he => hev e ?_⟩, ?_⟩
        · have := mem_listed he
          rw [events_append_op (P := Tryd.prog) (.tmp 15) (.tmp 17) 31 rfl rfl rfl] at this
          exact this
        have hO : HO c Low w₁ v' (L ++ [dV kd dn dj]) w₈ := ⟨hX.ho.kn.oth hoth, by
          rw [List.length_append, List.flatMap_append]
          exact hrow, hoth.os.trans hX.ho.os, hoth.output.trans hX.ho.out⟩
        clear hX hr hrow hoth hch' hbel hev hm
        try walk_nrm
        co_opw HO.rely hO (skip) (co_still (termsO c Low ownD true))
        co_apply opsC_nil (termsO c Low ownD true)
        exact OfR.mk hO
      · exact allL_isD a b
      · exact List.nil_append _
      · exact OfR.mk hO
    · exact hsend
  · rintro g₂ w₂ ⟨aa, ⟨v, u, hO, rfl⟩, rfl⟩
    try walk_nrm
    have hQ : ∀ w₃, HO c Low w₁ v (allL a b) w₃ → (∀ k, k < w.heap.size → w₃.heap[k]? = w.heap[k]?) ∧ w.heap.size ≤ w₃.heap.size ∧ w₃.ownsRow w.heap.size 27 3 v (allL a b).length ((allL a b).flatMap cellsOf) ∧ w₃.os = w.os ∧ w₃.output = w.output := fun w₃ h => by
      refine ⟨fun k hk => ?_, ?_, ?_, h.os.trans hos1, h.out.trans hout1⟩
      · rw [h.kn.low k (by omega) (by omega)]
        exact hlow k hk
      · have := h.kn.size
        omega
      · obtain ⟨h1, h2 | ⟨g, cap, cur, hv, hg, hh, ht⟩⟩ := h.row
        · exact ⟨h1, .inl h2⟩
        · exact ⟨h1, .inr ⟨g, cap, cur, hv, by omega, hh, ht⟩⟩
    have hR : ∀ {w₃ w₄}, HO c Low w₁ v (allL a b) w₃ → AtRel w₃ w₄ → HO c Low w₁ v (allL a b) w₄ := fun {w₃ w₄} h r => by
      obtain ⟨d, rfl⟩ := r
      exact ⟨⟨h.kn.low, h.kn.size⟩, h.row, h.os, h.out⟩
    refine drive_op_k rfl (by rfl) hbk fun w₃ hr K hK => ?_
    replace hO := hR hO hr
    clear hr
    go_simp
    refine hK _ _ ⟨by co_still termsQ, ?_⟩
    clear hK K
    try walk_nrm
    refine drive_ctl rfl (fun _ => stepG_region_end) (drive_ctl rfl (fun _ => stepG_seq) (drive_ctl rfl (fun _ => stepG_cond (t := false) rfl) (drive_ctl rfl (fun _ => stepG_exit rfl) (drive_ctl rfl (fun _ => stepG_seq) (drive_ctl rfl (fun _ => stepG_region) ?_)))))
    simp only [List.size_toArray, List.length_cons, List.length_nil, Nat.reduceAdd, Nat.zero_add, List.range, List.range.loop]
    refine drive_op_k rfl (by rfl) hbk fun w₃ hr K hK => ?_
    replace hO := hR hO hr
    clear hr
    go_simp
    refine hK _ _ ⟨by co_still termsQ, ?_⟩
    clear hK K
    try walk_nrm
    refine drive_op_k rfl (by rfl) hbk fun w₃ hr K hK => ?_
    replace hO := hR hO hr
    clear hr
    go_simp
    refine hK _ _ ⟨by co_still termsQ, ?_⟩
    clear hK K
    try walk_nrm
    refine drive_ctl rfl (fun _ => stepG_region_end) (drive_ctl rfl (fun _ => stepG_ret') ?_)
    refine hcont .ret _ _ ⟨rfl, _, resultsC_tmp (t := 4) (by rfl) _, ?_⟩ _
    exact hQ _ hO

end Go.Proofs.YtifdhaiihlfomaaDoor
