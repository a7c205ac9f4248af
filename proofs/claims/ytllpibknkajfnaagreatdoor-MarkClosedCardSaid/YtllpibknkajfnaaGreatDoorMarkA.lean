/-
 A walk of a function that asks a channel of its own in a select with a default: the walk of one goroutine's frames of the ordinary kind. No program in sight.
 mark: a stack that holds as many as its channel has room.
 mark: one granule is marked.
 mark: what a marking knows, and what is reached (plain).
-/
import Derived.Test.YtllpibknkajfnaaGreatDoorLibA
import Derived.Conc.LoneSelect
import Derived.Test.YtllpibknkajfnaaGreatDoorRowsA
import Derived.Test.YtllpibknkajfnaaGreatDoorBlackA
import Derived.Deep.RegionHeld3
import Derived.Deep.RegionHeldLaw
import Derived.Test.YtllpibknkajfnaaGreatDoorView
import Derived.Test.YtllpibknkajfnaaGreatDoorBits2
namespace Go.Proofs.YtllpibknkajfnaaGreatDoor
open Go.RowKit Go.Conc
set_option linter.unusedVariables false

/-- The walk of a code, in a frame that is no early one. -/
def wpN (P : Program) (c : Code) (Q : Exit → Act → World → Prop) (a : Act) (w : World) : Prop :=
 ∀ (b : Frame) (k : List Item) (cs : List Frame), b.kind ≠ .early →
  ∃ e a' w', Q e a' w' ∧ Arrives P (lone (b.at a (.code c :: k)) cs w) b k cs e a' w'

section
variable {P : Program} {Q : Exit → Act → World → Prop} {a : Act} {w : World}

theorem wpN_of_wp {c : Code} (h : c.wp P Q a w) : wpN P c Q a w := fun b k cs _ => h b k cs

theorem wpN_seq {x y : Code} (h : wpN P x (Exit.then (fun a w => wpN P y Q a w) Q) a w) : wpN P (Code.seq x y) Q a w := by
 intro b k cs hb
 obtain ⟨e, a₁, w₁, hq, harr⟩ := h b (.code y :: k) cs hb
 cases e with
 | normal =>
  obtain ⟨e₂, a₂, w₂, hq₂, harr₂⟩ := hq b k cs hb
  exact ⟨e₂, a₂, w₂, hq₂, .of_steps (.head step_seq harr) harr₂⟩
 | exit id => exact ⟨_, a₁, w₁, hq, .of_steps (.one step_seq) (.pass (x := .code y) rfl (fun _ _ => .inl (by simp)) harr)⟩
 | goto l => exact ⟨_, a₁, w₁, hq, .of_steps (.one step_seq) (.pass (x := .code y) rfl (fun _ _ => .inl (by simp)) harr)⟩
 | ret => exact ⟨_, a₁, w₁, hq, .of_steps (.one step_seq) (.pass (x := .code y) rfl (fun _ _ => .inl (by simp)) harr)⟩
 | panic ch => exact ⟨_, a₁, w₁, hq, .of_steps (.one step_seq) (.pass (x := .code y) rfl (fun _ _ => .inl (by simp)) harr)⟩
 | outgrown => exact ⟨_, a₁, w₁, hq, .of_steps (.one step_seq) (.pass (x := .code y) rfl (fun _ _ => .inl (by simp)) harr)⟩

/-- A region whose first operation is a communication that yields v, and leaves the world w'. -/
theorem wpN_region_comm {id : Nat} {ops : Array Oper} {rest : List Nat} {v : Value} {w' : World} (hr : List.range ops.size = 0 :: rest)
  (hs : ∀ (b : Frame) (k : List Item) (cs : List Frame), b.kind ≠ .early → step P (solo (G (b.at a (.inRegion ops (0 :: rest) :: k)) cs) w) = .next (solo (G ((b.at a (.inRegion ops (0 :: rest) :: k)).finish v) cs) w'))
  (h : wpOps P ops Q rest (a.put ((ops[0]?).bind (·.dst)) v) w') : wpN P (Code.region id ops false) Q a w := by
 intro b k cs hb
 obtain ⟨e, a', w'', q, r⟩ := wp_ops rest _ w' h b k cs
 refine ⟨e, a', w'', q, .of_steps (.head step_region ?_) r⟩
 rw [hr]
 refine .one ?_
 have := hs b k cs hb
 rw [Frame.finish_at] at this
 exact this

theorem wpN_comm_lit {id : Nat} {o : Oper} {l : List Oper} {v : Value} {w' : World} {cases : Array CommCase} {blocking : Bool} {shape : CommShape} (hw : Region.wanted o (yielded (o :: l).toArray a.tmps) = true) (hr : (execOp a.eval o).run P w = .ok (.comm cases blocking shape) w)
  (hs : ∀ (fr : Frame) (cs : List Frame) (es : Array Event), stepG P true (G fr cs) w = .comm (G fr cs) cases blocking shape w es → step P (solo (G fr cs) w) = .next (solo (G (fr.finish v) cs) w'))
  (h : wpList P (o :: l).toArray Q l (a.put o.dst v) w') : wpN P (Code.region id (o :: l).toArray false) Q a w := by
 refine wpN_region_comm (rest := List.range' 1 l.length) (v := v) (w' := w') ?_ (fun b k cs hb => hs _ cs _ (stepG_comm (by simp) hw hb hr)) ?_
 ·rw [List.range_eq_range']
  simp [List.range'_succ]
 ·have e := wpOps_eq_wpList (P := P) (ops := (o :: l).toArray) (Q := Q) l 1 (fun j => by simp [Nat.add_comm 1 j])
  rw [e]
  simpa using h

theorem wpN_send_room {id : Nat} {o : Oper} {l : List Oper} {c cap s r : Nat} {buf : Array Value} {v z : Value} {tm : Bool} (hw : Region.wanted o (yielded (o :: l).toArray a.tmps) = true) (hr : (execOp a.eval o).run P w = .ok (.comm #[scase c v z] false .select) w)
  (hc : w.heap[c]? = some (.chan cap buf false s r tm)) (hroom : buf.size < cap) (h : wpList P (o :: l).toArray Q l (a.put o.dst (.tuple #[goInt 0, .bool false])) (w.setChan c cap (buf.push v) false (s + 1) r tm)) : wpN P (Code.region id (o :: l).toArray false) Q a w :=
 wpN_comm_lit hw hr (fun _ _ _ hg => step_lone_select_send_room hg hc hroom) h

theorem wpN_send_full {id : Nat} {o : Oper} {l : List Oper} {c cap s r : Nat} {buf : Array Value} {v z : Value} {tm : Bool} (hw : Region.wanted o (yielded (o :: l).toArray a.tmps) = true) (hr : (execOp a.eval o).run P w = .ok (.comm #[scase c v z] false .select) w)
  (hc : w.heap[c]? = some (.chan cap buf false s r tm)) (hfull : cap ≤ buf.size) (h : wpList P (o :: l).toArray Q l (a.put o.dst (.tuple #[goInt (-1), .bool false])) w) : wpN P (Code.region id (o :: l).toArray false) Q a w :=
 wpN_comm_lit hw hr (fun _ _ _ hg => step_lone_select_send_full hg hc hfull) h

theorem wpN_recv_buf {id : Nat} {o : Oper} {l : List Oper} {c cap s r : Nat} {buf : Array Value} {z : Value} {tm closed : Bool} (hw : Region.wanted o (yielded (o :: l).toArray a.tmps) = true) (hr : (execOp a.eval o).run P w = .ok (.comm #[rcase c z] false .select) w)
  (hc : w.heap[c]? = some (.chan cap buf closed s r tm)) (hsome : 0 < buf.size) (h : wpList P (o :: l).toArray Q l (a.put o.dst (.tuple #[goInt 0, .bool true, buf.getD 0 undef])) (w.setChan c cap (buf.extract 1 buf.size) closed s (r + 1) tm)) : wpN P (Code.region id (o :: l).toArray false) Q a w :=
 wpN_comm_lit hw hr (fun _ _ _ hg => step_lone_select_recv_buf hg hc hsome) h

theorem wpN_recv_empty {id : Nat} {o : Oper} {l : List Oper} {c cap s r : Nat} {z : Value} {tm : Bool} (hw : Region.wanted o (yielded (o :: l).toArray a.tmps) = true) (hr : (execOp a.eval o).run P w = .ok (.comm #[rcase c z] false .select) w)
  (hc : w.heap[c]? = some (.chan cap #[] false s r tm)) (h : wpList P (o :: l).toArray Q l (a.put o.dst (.tuple #[goInt (-1), .bool false, z])) w) : wpN P (Code.region id (o :: l).toArray false) Q a w :=
 wpN_comm_lit hw hr (fun _ _ _ hg => step_lone_select_default hg hc) h

theorem calls_of_wpN {f : FuncId} {fn : Func} {c : Code} {args : Array Value} {R : Ending → World → Prop}
  (hf : P.funcs[f]? = some fn) (hb : fn.body = some c)
  (h : wpN P c (bodyPost P fn R) { tmps := args ++ Array.replicate (fn.ntmps - args.size) undef, defers := [] } w) : Calls P f args w R := by
 intro cs
 let b : Frame := { (default : Frame) with fn := f, kind := .normal }
 have henter : Frame.enter P f args .normal = b.at { tmps := args ++ Array.replicate (fn.ntmps - args.size) undef, defers := [] } [.code c] := by
  simp [Frame.enter, Frame.at, hf, hb, b]
 obtain ⟨e, a', w', hq, harr⟩ := h b [] cs (by simp [b])
 rw [← henter] at harr
 cases e with
 | normal =>
  obtain ⟨hd, v, hr, hR⟩ := hq
  exact ⟨.returned v, w', _, hR, Steps.trans harr (.one step_end), rfl, rfl, hd, rfl, fn, hf, hr⟩
 | ret =>
  obtain ⟨hd, v, hr, hR⟩ := hq
  obtain ⟨todo, hs⟩ := harr
  exact ⟨.returned v, w', _, hR, hs, rfl, rfl, hd, rfl, fn, hf, hr⟩
 | panic chain =>
  obtain ⟨hd, hR⟩ := hq
  obtain ⟨todo, hs⟩ := harr
  exact ⟨.panicked chain, w', _, hR, hs, rfl, rfl, hd, fn, hf⟩
 | exit id => exact hq.elim
 | goto l => exact hq.elim
 | outgrown => exact ⟨.outgrown, w', b, hq, harr.resolve_left (by simp [b]), rfl, trivial⟩

end

end Go.Proofs.YtllpibknkajfnaaGreatDoor

namespace Go.Proofs.YtllpibknkajfnaaGreatDoor
open Go.RowKit Go.Conc
set_option linter.unusedVariables false

/-- A marking lies at mb: its stack, over the channel c. -/
structure StackAt (w : World) (mb c cap base : Nat) (v0 v1 v2 v6 v7 lv : Value) (stk : List Nat) (deep : Nat) : Prop where
 blk : w.heap[mb]? = some (.cells #[v0, v1, v2, .chan (some c), lv, .int .i64 (deep : Nat), v6, v7] 134 (0, 0))
 ch : ∃ buf s r, w.heap[c]? = some (.chan cap buf false s r false) ∧ buf.size = stk.length
 row : w.ownsRow base 3 1 lv stk.length (natVs stk)
 le : stk.length ≤ cap
 cap_le : cap ≤ 65536
 deep_le : deep ≤ cap
 mb_lt : mb < base
 c_lt : c < base
 ne : ¬ mb = c

theorem cells8 {w : World} {b : Nat} {a0 a1 a2 a3 a4 a5 a6 a7 : Value} {T : TypeId} (hb : w.heap[b]? = some (.cells #[a0, a1, a2, a3, a4, a5, a6, a7] T (0, 0))) :
  w.cell? ⟨b, 0, none⟩ = some a0 ∧ w.cell? ⟨b, 1, none⟩ = some a1 ∧ w.cell? ⟨b, 2, none⟩ = some a2 ∧ w.cell? ⟨b, 3, none⟩ = some a3 ∧ w.cell? ⟨b, 4, none⟩ = some a4 ∧ w.cell? ⟨b, 5, none⟩ = some a5 ∧ w.cell? ⟨b, 6, none⟩ = some a6 ∧ w.cell? ⟨b, 7, none⟩ = some a7 := by
 refine ⟨?_, ?_, ?_, ?_, ?_, ?_, ?_, ?_⟩ <;> simp only [World.cell?, hb] <;> rfl

theorem Keep.setChan {S : Nat → Prop} {a w : World} (h : Keep S a w) {c : Nat} (hc : c < a.heap.size → S c) (cap : Nat) (buf : Array Value) (cl : Bool) (s r : Nat) (tm : Bool) : Keep S a (w.setChan c cap buf cl s r tm) :=
 ⟨h.os, h.tape, h.output, by simp [World.setChan]; exact h.size, fun k hk hn => by
  simp only [World.setChan]
  rw [Array.getElem?_setIfInBounds_ne (fun e => hn (by subst e; exact hc hk))]
  exact h.block k hk hn⟩

set_option maxRecDepth 20000 in
set_option maxHeartbeats 2000000 in
theorem Push_full (mb c cap base x : Nat) (v0 v1 v2 v6 v7 lv : Value) (stk : List Nat) (deep : Nat) (w : World) (h : StackAt w mb c cap base v0 v1 v2 v6 v7 lv stk deep) (hf : stk.length = cap) :
  Calls Tryz.prog 96 #[.pointer (some ⟨mb, 3, none⟩), .int .i64 (x : Nat)] w fun e w' => e = .returned (.bool false) ∧ w' = w := by
 obtain ⟨b0, b1, b2, b3, b4, b5, b6, b7⟩ := cells8 h.blk
 obtain ⟨buf, s, r, hc, hb⟩ := h.ch
 have HC : Seal _ := ⟨hc⟩
 have HB : Seal (cap ≤ buf.size) := ⟨by omega⟩
 clear h hc hb hf
 refine calls_of_wpN Tryz.func96 rfl ?_
 simp only [Tryz.ntmps96, List.size_toArray, List.length_cons, List.length_nil, Nat.reduceAdd, Nat.reduceSub, Array.replicate_succ, Array.replicate_zero, List.push_toArray, List.append_toArray, List.nil_append, List.cons_append]
 refine wpN_seq (wpN_of_wp ?_)
 go_wp2_with fail
 refine wpN_seq ?_
 refine wpN_of_wp ?_
 go_wp2_with fail
 refine wpN_seq ?_
 refine wpN_send_full (c := c) (cap := cap) (buf := buf) (s := s) (r := r) (tm := false) (v := .agg #[]) (z := .agg #[]) ?_ ?_ HC.out HB.out ?_
 ·kernel_rfl
 ·simp [go_sem, execOp, scase, Act.eval]
  done
 ·go_wp2_with fail
  refine wpN_of_wp ?_
  go_wp2
  go_ret
  exact ⟨rfl, rfl⟩

/-- What push leaves, where there is room. -/
def PushPost (mb c cap base x : Nat) (v0 v1 v2 v6 v7 lv : Value) (stk : List Nat) (deep : Nat) (w : World) (e : Ending) (w' : World) : Prop :=
 e = .returned (.bool true) ∧ ∃ lv', StackAt w' mb c cap base v0 v1 v2 v6 v7 lv' (stk ++ [x]) (max deep (stk.length + 1)) ∧ (∀ b, lv'.ownBlock = some b → lv.ownBlock = some b ∨ w.heap.size ≤ b) ∧ Keep (fun k => k = mb ∨ k = c ∨ lv.ownBlock = some k) w w'

theorem set8_4 {w : World} {b : Nat} {a0 a1 a2 a3 a4 a5 a6 a7 : Value} {T : TypeId} (hb : w.heap[b]? = some (.cells #[a0, a1, a2, a3, a4, a5, a6, a7] T (0, 0))) (v : Value) : (w.setCell ⟨b, 4, none⟩ v).heap[b]? = some (.cells #[a0, a1, a2, a3, v, a5, a6, a7] T (0, 0)) := by
 rw [block_setCell hb]
 rfl

theorem set8_5 {w : World} {b : Nat} {a0 a1 a2 a3 a4 a5 a6 a7 : Value} {T : TypeId} (hb : w.heap[b]? = some (.cells #[a0, a1, a2, a3, a4, a5, a6, a7] T (0, 0))) (v : Value) : (w.setCell ⟨b, 5, none⟩ v).heap[b]? = some (.cells #[a0, a1, a2, a3, a4, v, a6, a7] T (0, 0)) := by
 rw [block_setCell hb]
 rfl

theorem chan_setChan {w : World} {c cap : Nat} {buf : Array Value} {cl : Bool} {s r : Nat} {tm : Bool} (h : c < w.heap.size) : (w.setChan c cap buf cl s r tm).heap[c]? = some (.chan cap buf cl s r tm) := by
 simp [World.setChan, h]

set_option maxRecDepth 20000 in
set_option maxHeartbeats 4000000 in
theorem Push_room (mb c cap base x : Nat) (v0 v1 v2 v6 v7 lv : Value) (stk : List Nat) (deep : Nat) (w : World) (h : StackAt w mb c cap base v0 v1 v2 v6 v7 lv stk deep) (hf : stk.length < cap) (hbase : base ≤ w.heap.size) :
  Calls Tryz.prog 96 #[.pointer (some ⟨mb, 3, none⟩), .int .i64 (x : Nat)] w (PushPost mb c cap base x v0 v1 v2 v6 v7 lv stk deep w) := by
 obtain ⟨b0, b1, b2, b3, b4, b5, b6, b7⟩ := cells8 h.blk
 obtain ⟨buf, s, r, hc, hb⟩ := h.ch
 have hne := h.ne
 have hcl := lt_of_heap hc
 have hcb := h.c_lt
 have hmb := h.mb_lt
 have hcap := h.cap_le
 have hdp := h.deep_le
 have HC : Seal _ := ⟨hc⟩
 have HB : Seal (buf.size < cap) := ⟨by omega⟩
 have HBs : Seal _ := ⟨hb⟩
 obtain ⟨w1, hw1⟩ : ∃ w1, w1 = w.setChan c cap (buf.push (.agg #[])) false (s + 1) r false := ⟨_, rfl⟩
 have k1 : Keep (fun k => k = c) w w1 := by rw [hw1]; exact (Keep.refl (fun k => k = c) w).setChan (fun _ => rfl) _ _ _ _ _ _
 have c1 : w1.heap[c]? = some (.chan cap (buf.push (.agg #[])) false (s + 1) r false) := by rw [hw1]; exact chan_setChan hcl
 have blk1 := k1.at_ h.blk hne
 have row1 := ownsRow_keep h.row k1 (fun b hb e => by have := (ownsRow_block h.row hb).1; omega)
 have z1 := k1.size
 have HK1 : Seal _ := ⟨k1⟩
 have HC1 : Seal _ := ⟨c1⟩
 have HBl1 : Seal _ := ⟨blk1⟩
 have HR1 : Seal _ := ⟨row1⟩
 have HLe : Seal (stk.length + 1 ≤ cap) := ⟨hf⟩
 have hlen : stk.length ≤ 65536 := by omega
 clear h hc hb k1 c1 row1
 refine calls_of_wpN Tryz.func96 rfl ?_
 simp only [Tryz.ntmps96, List.size_toArray, List.length_cons, List.length_nil, Nat.reduceAdd, Nat.reduceSub, Array.replicate_succ, Array.replicate_zero, List.push_toArray, List.append_toArray, List.nil_append, List.cons_append]
 refine wpN_seq (wpN_of_wp ?_)
 go_wp2_with fail
 refine wpN_seq ?_
 refine wpN_of_wp ?_
 go_wp2_with fail
 refine wpN_seq ?_
 refine wpN_send_room (c := c) (cap := cap) (buf := buf) (s := s) (r := r) (tm := false) (v := .agg #[]) (z := .agg #[]) ?_ ?_ HC.out HB.out ?_
 ·kernel_rfl
 ·simp [go_sem, execOp, scase, Act.eval]
  done
 ·rw [← hw1]
  clear hw1 b0 b1 b2 b3 b4 b5 b6 b7
  obtain ⟨b0, b1, b2, b3, b4, b5, b6, b7⟩ := cells8 blk1
  clear blk1
  go_wp2_with fail
  refine wpN_of_wp ?_
  go_wp2_with (at_builtin; obtain ⟨i0, hi, hz0, hz1, hz2⟩ := info_parts Tryz.infoInt; go_loud (refine wpList_append_lies _ rfl (.tmp 17) (.tmp 19) 33 rfl base 3 i0 _ 1 8 Tryz.underlyingInts hi hz0 hz1 hz2 rfl (by omega) lv stk.length (natVs stk) rfl (HR1.out.alloc _) ⟨w1.heap.size, 0, none⟩ 1 1 [.int .i64 (x : Nat)] rfl rfl (World.news_of_block (World.alloc_heap_new w1 _)) (by intro u hu; simp at hu; subst hu; rfl) (by omega) (by unfold maxLen; omega) (by omega) (by simp; omega) (w1.heap.size + 1) (by simp) ?_); intro gn capn w3 hown3 hgrow hat hlt; clear hi hz0 hz1 hz2; have hnb : ¬ lv.ownBlock = some mb := fun h => (by have := (ownsRow_block HR1.out h).1; omega); have k3 : Keep (fun k => lv.ownBlock = some k) w1 w3 := ((Keep.refl Nope w1).alloc _ |>.of_not _).grown hgrow (fun k e h => by first | exact h | (injection e with e; subst e; assumption) | exact e); have b3' := k3.at_ HBl1.out hnb; have f3 := free_of_block b3' 4; obtain ⟨e0, e1, e2, e3, e4, e5, e6, e7⟩ := cells8 b3'; have HR3 : Seal _ := ⟨hown3⟩; have HB3 : Seal _ := ⟨b3'⟩; have HK3 : Seal _ := ⟨k3⟩; have HAt : Seal _ := ⟨hat⟩; clear hown3 hgrow hat b3' k3 b0 b1 b2 b3 b4 b5 b6 b7)
  obtain ⟨w4, hw4⟩ : ∃ w4, w4 = w3.setCell ⟨mb, 4, none⟩ (.slice (some ⟨gn, 0, none⟩) (stk.length + 1) capn) := ⟨_, rfl⟩
  have k4 : Keep (fun k => k = mb) w3 w4 := by rw [hw4]; exact (Keep.refl (fun k => k = mb) w3).setCell (fun _ => rfl) _
  have b4 : w4.heap[mb]? = some (.cells #[v0, v1, v2, .chan (some c), .slice (some ⟨gn, 0, none⟩) (stk.length + 1) capn, .int .i64 (deep : Nat), v6, v7] 134 (0, 0)) := by rw [hw4]; exact set8_4 HB3.out _
  rw [← hw4]
  clear hw4 e0 e1 e2 e3 e4 e5 e6 e7 f3
  obtain ⟨e0, e1, e2, e3, e4, e5, e6, e7⟩ := cells8 b4
  have f4 := free_of_block b4 5
  have HB4 : Seal _ := ⟨b4⟩
  have HK4 : Seal _ := ⟨k4⟩
  clear k4 b4
  obtain ⟨d, hd⟩ : ∃ d, max deep (stk.length + 1) = d := ⟨_, rfl⟩
  have HD : Seal (d ≤ cap) := ⟨by have := HLe.out; omega⟩
  have HDq : Seal _ := ⟨hd⟩
  have hmx : max (deep : Int) ((stk.length : Int) + 1) = (d : Nat) := by omega
  have HMx : Seal _ := ⟨hmx⟩
  clear hd hmx
  refine wp_region_quiet_tail 13 (by kernel_rfl) (by kernel_rfl) ?_
  simp only [List.take_succ_cons, List.take_zero, List.drop_succ_cons, List.drop_zero]
  repeat (go_big_quiet_step (fail))
  refine wpQuiet_nil ?_
  intro _ hw'
  obtain ⟨nq, hw''⟩ := hw'
  subst hw''
  go_wp2_with fail
  ·have hdv : ((stk.length : Int) + 1) = (d : Nat) := by have := HDq.out; omega
   rw [hdv]
   go_ret
   have k5 : Keep (fun k => k = mb) w4 ((w4.drewN nq).setCell ⟨mb, 5, none⟩ (.int .i64 (d : Nat))) := ((Keep.refl (fun k => k = mb) w4).drewN _).setCell (fun _ => rfl) _
   have K : Keep (fun k => k = mb) w3 _ := HK4.out.trans k5 (fun _ _ h => h)
   have hgb : ∀ b, (Value.slice (some ⟨gn, 0, none⟩) (stk.length + 1) capn).ownBlock = some b → base ≤ b := fun b h => (ownsRow_block HR3.out h).1
   refine ⟨rfl, _, ⟨by have := set8_5 (w := w4.drewN nq) HB4.out (.int .i64 (d : Nat)); rw [HDq.out]; exact this, ⟨_, _, _, K.at_ (HK3.out.at_ HC1.out (fun h => by have := (ownsRow_block HR1.out h).1; omega)) (fun h => hne h.symm), by simp [HBs.out]⟩, ?_, by simpa using HLe.out, hcap, by rw [HDq.out]; exact HD.out, hmb, hcb, hne⟩, fun b hb => ?_, ?_⟩
   ·rw [natVs, List.map_append, List.length_append]
    exact ownsRow_keep HR3.out K (fun b hb e => by have := hgb b hb; omega)
   ·have hg : gn = b := by simpa [Value.ownBlock] using hb
    subst hg
    rcases HAt.out with h | h
    ·exact .inl h
    ·right
     rw [h]
     have := HK1.out.size
     simp
     omega
   ·exact (((HK1.out.mono fun i _ h => .inr (.inl h)).trans HK3.out (fun i _ h => .inr (.inr h))).trans K (fun i _ h => .inl h))
  ·have hdv : (deep : Int) = (d : Nat) := by have := HDq.out; omega
   rw [hdv]
   go_ret
   have k5 : Keep (fun k => k = mb) w4 ((w4.drewN nq).setCell ⟨mb, 5, none⟩ (.int .i64 (d : Nat))) := ((Keep.refl (fun k => k = mb) w4).drewN _).setCell (fun _ => rfl) _
   have K : Keep (fun k => k = mb) w3 _ := HK4.out.trans k5 (fun _ _ h => h)
   have hgb : ∀ b, (Value.slice (some ⟨gn, 0, none⟩) (stk.length + 1) capn).ownBlock = some b → base ≤ b := fun b h => (ownsRow_block HR3.out h).1
   refine ⟨rfl, _, ⟨by have := set8_5 (w := w4.drewN nq) HB4.out (.int .i64 (d : Nat)); rw [HDq.out]; exact this, ⟨_, _, _, K.at_ (HK3.out.at_ HC1.out (fun h => by have := (ownsRow_block HR1.out h).1; omega)) (fun h => hne h.symm), by simp [HBs.out]⟩, ?_, by simpa using HLe.out, hcap, by rw [HDq.out]; exact HD.out, hmb, hcb, hne⟩, fun b hb => ?_, ?_⟩
   ·rw [natVs, List.map_append, List.length_append]
    exact ownsRow_keep HR3.out K (fun b hb e => by have := hgb b hb; omega)
   ·have hg : gn = b := by simpa [Value.ownBlock] using hb
    subst hg
    rcases HAt.out with h | h
    ·exact .inl h
    ·right
     rw [h]
     have := HK1.out.size
     simp
     omega
   ·exact (((HK1.out.mono fun i _ h => .inr (.inl h)).trans HK3.out (fun i _ h => .inr (.inr h))).trans K (fun i _ h => .inl h))

set_option maxRecDepth 20000 in
set_option maxHeartbeats 2000000 in
theorem Pop_none (mb c cap base : Nat) (v0 v1 v2 v6 v7 lv : Value) (deep : Nat) (w : World) (h : StackAt w mb c cap base v0 v1 v2 v6 v7 lv [] deep) :
  Calls Tryz.prog 97 #[.pointer (some ⟨mb, 3, none⟩)] w fun e w' => e = .returned (.tuple #[.int .i64 0, .bool false]) ∧ w' = w := by
 obtain ⟨b0, b1, b2, b3, b4, b5, b6, b7⟩ := cells8 h.blk
 obtain ⟨buf, s, r, hc, hb⟩ := h.ch
 obtain rfl : buf = #[] := by simpa using hb
 have HC : Seal _ := ⟨hc⟩
 clear h hc hb
 refine calls_of_wpN Tryz.func97 rfl ?_
 simp only [Tryz.ntmps97, List.size_toArray, List.length_cons, List.length_nil, Nat.reduceAdd, Nat.reduceSub, Array.replicate_succ, Array.replicate_zero, List.push_toArray, List.append_toArray, List.nil_append, List.cons_append]
 refine wpN_seq (wpN_of_wp ?_)
 go_wp2_with fail
 refine wpN_seq ?_
 refine wpN_of_wp ?_
 go_wp2_with fail
 refine wpN_seq ?_
 refine wpN_recv_empty (c := c) (cap := cap) (s := s) (r := r) (tm := false) (z := .agg #[]) ?_ ?_ HC.out ?_
 ·kernel_rfl
 ·simp [go_sem, execOp, rcase, Act.eval]
  done
 ·go_wp2_with fail
  refine wpN_of_wp ?_
  go_wp2
  go_ret2
  exact ⟨rfl, rfl⟩

/-- What pop leaves. -/
def PopPost (mb c cap base x : Nat) (v0 v1 v2 v6 v7 lv : Value) (stk : List Nat) (deep : Nat) (w : World) (e : Ending) (w' : World) : Prop :=
 e = .returned (.tuple #[.int .i64 (x : Nat), .bool true]) ∧ ∃ lv', StackAt w' mb c cap base v0 v1 v2 v6 v7 lv' stk deep ∧ (∀ b, lv'.ownBlock = some b → lv.ownBlock = some b) ∧ Keep (fun k => k = mb ∨ k = c) w w'

theorem row_last {w : World} {base : Nat} {v : Value} {xs : List Nat} {x n : Nat} (h : w.ownsRow base 3 1 v (xs ++ [x]).length (natVs (xs ++ [x]))) (hn : xs.length = n) :
  ∃ g cap, v = .slice (some ⟨g, 0, none⟩) (n + 1) cap ∧ base ≤ g ∧ n + 1 ≤ cap ∧ cap ≤ maxLen ∧ w.cell? ⟨g, n, none⟩ = some (.int .i64 (x : Nat)) ∧ w.ownsRow base 3 1 (.slice (some ⟨g, 0, none⟩) n cap) xs.length (natVs xs) := by
 subst hn
 rcases h.2 with ⟨-, h0⟩ | ⟨g, cap, cur, rfl, g2, g3, g4, g5, g6, g7⟩
 ·simp at h0
 ·rw [Nat.mul_one] at g7
  have hl : (xs ++ [x]).length = xs.length + 1 := by simp
  rw [hl] at g4 g7 ⊢
  refine ⟨g, cap, rfl, g2, g4, g5, ?_, ⟨by simp [natVs], .inr ⟨g, cap, cur, rfl, g2, g3, by omega, g5, g6, ?_⟩⟩⟩
  ·have : cur.toList[xs.length]? = some (.int .i64 (x : Nat)) := by
    rw [← List.getElem?_take_of_lt (j := xs.length + 1) (by omega), g7]
    simp [natVs]
   simp only [World.cell?, g3]
   rw [← this]
   simp
  ·have h8 := congrArg (List.take xs.length) g7
   rw [List.take_take, Nat.min_eq_left (by omega)] at h8
   rw [Nat.mul_one, h8]
   simp [natVs]

set_option maxRecDepth 20000 in
set_option maxHeartbeats 4000000 in
theorem Pop_some (mb c cap base x : Nat) (v0 v1 v2 v6 v7 lv : Value) (stk : List Nat) (deep : Nat) (w : World) (h : StackAt w mb c cap base v0 v1 v2 v6 v7 lv (stk ++ [x]) deep) (hbase : base ≤ w.heap.size) :
  Calls Tryz.prog 97 #[.pointer (some ⟨mb, 3, none⟩)] w (PopPost mb c cap base x v0 v1 v2 v6 v7 lv stk deep w) := by
 obtain ⟨n, hn⟩ : ∃ n, stk.length = n := ⟨_, rfl⟩
 obtain ⟨b0, b1, b2, b3, b4, b5, b6, b7⟩ := cells8 h.blk
 obtain ⟨buf, s, r, hc, hb⟩ := h.ch
 have hne := h.ne
 have hcl := lt_of_heap hc
 have hcb := h.c_lt
 have hmb := h.mb_lt
 have hcap := h.cap_le
 have hdp := h.deep_le
 have hle := h.le
 have hlen : (stk ++ [x]).length = n + 1 := by simp [hn]
 rw [hlen] at hle hb
 have HC : Seal _ := ⟨hc⟩
 have HB : Seal (0 < buf.size) := ⟨by omega⟩
 obtain ⟨w1, hw1⟩ : ∃ w1, w1 = w.setChan c cap (buf.extract 1 buf.size) false s (r + 1) false := ⟨_, rfl⟩
 have k1 : Keep (fun k => k = c) w w1 := by rw [hw1]; exact (Keep.refl (fun k => k = c) w).setChan (fun _ => rfl) _ _ _ _ _ _
 have c1 : w1.heap[c]? = some (.chan cap (buf.extract 1 buf.size) false s (r + 1) false) := by rw [hw1]; exact chan_setChan hcl
 have blk1 := k1.at_ h.blk hne
 have row1 := ownsRow_keep h.row k1 (fun b hb e => by have := (ownsRow_block h.row hb).1; omega)
 obtain ⟨g, capl, rfl, hg, hgc, hgm, cx, row2⟩ := row_last row1 hn
 have HSz : Seal ((buf.extract 1 buf.size).size = stk.length) := ⟨by simp; omega⟩
 have HK1 : Seal _ := ⟨k1⟩
 have HC1 : Seal _ := ⟨c1⟩
 have HBl1 : Seal _ := ⟨blk1⟩
 have HR2 : Seal _ := ⟨row2⟩
 have hn2 : n ≤ 65536 := by omega
 have hsub : IntKind.i64.wrap ((n : Int) + 1 - 1) = (n : Nat) := by rw [IntKind.wrap_i64]; omega
 have hi1 : (n : Int) < (n : Int) + 1 := by omega
 have hgc' : (n : Int) ≤ (capl : Int) := by omega
 clear h hc hb k1 c1 row1 row2 hlen hgm
 refine calls_of_wpN Tryz.func97 rfl ?_
 simp only [Tryz.ntmps97, List.size_toArray, List.length_cons, List.length_nil, Nat.reduceAdd, Nat.reduceSub, Array.replicate_succ, Array.replicate_zero, List.push_toArray, List.append_toArray, List.nil_append, List.cons_append]
 refine wpN_seq (wpN_of_wp ?_)
 go_wp2_with fail
 refine wpN_seq ?_
 refine wpN_of_wp ?_
 go_wp2_with fail
 refine wpN_seq ?_
 refine wpN_recv_buf (c := c) (cap := cap) (buf := buf) (closed := false) (s := s) (r := r) (tm := false) (z := .agg #[]) ?_ ?_ HC.out HB.out ?_
 ·kernel_rfl
 ·simp [go_sem, execOp, rcase, Act.eval]
  done
 ·rw [← hw1]
  clear hw1 b0 b1 b2 b3 b4 b5 b6 b7
  obtain ⟨b0, b1, b2, b3, b4, b5, b6, b7⟩ := cells8 blk1
  have hf := free_of_block blk1 4
  clear blk1
  go_wp2_with fail
  refine wpN_of_wp ?_
  go_wp2_with fail
  go_quiet (fail)
  go_wp2_with fail
  refine wp_region_quiet_tail 14 (by kernel_rfl) (by kernel_rfl) ?_
  simp only [List.take_succ_cons, List.take_zero, List.drop_succ_cons, List.drop_zero]
  repeat (go_big_quiet_step (fail))
  refine wpQuiet_nil ?_
  intro _ hw'
  obtain ⟨nq, hw''⟩ := hw'
  subst hw''
  go_wp2_with fail
  rename_i nq0
  have k5 : Keep (fun k => k = mb) w1 ((w1.drewN (nq0 + nq)).setCell ⟨mb, 4, none⟩ (.slice (some ⟨g, 0, none⟩) n capl)) := ((Keep.refl (fun k => k = mb) w1).drewN _).setCell (fun _ => rfl) _
  have b9 := set8_4 (w := w1.drewN (nq0 + nq)) HBl1.out (.slice (some ⟨g, 0, none⟩) n capl)
  have row9 := ownsRow_keep HR2.out k5 (fun b hb e => by have := (ownsRow_block HR2.out hb).1; omega)
  have ch9 := k5.at_ HC1.out (fun h => hne h.symm)
  rw [hn] at row9
  go_ret2
  exact ⟨rfl, _, ⟨b9, ⟨_, _, _, ch9, HSz.out⟩, by rw [hn]; exact row9, by omega, hcap, hdp, hmb, hcb, hne⟩, fun b hb => hb, (HK1.out.mono fun i _ h => .inr h).trans k5 (fun i _ h => .inl h)⟩

end Go.Proofs.YtllpibknkajfnaaGreatDoor

namespace Go.Proofs.YtllpibknkajfnaaGreatDoor
open Go.RowKit Go.Conc
set_option linter.unusedVariables false

/-- What a marking knows: the marks, whether an object was left, how many are marked, what waits, how many waited at most. -/
structure MS where
 f : Nat → Bool
 full : Bool
 n : Nat
 stk : List Nat
 deep : Nat

/-- One granule more. -/
def markR (cap : Nat) (S : MS) (g : Nat) : MS :=
 if S.f g = true then S else if S.stk.length < cap then ⟨runSet S.f g 1 true, S.full, S.n + 1, S.stk ++ [g], max S.deep (S.stk.length + 1)⟩ else ⟨runSet S.f g 1 true, true, S.n + 1, S.stk, S.deep⟩

theorem countP_point (f : Nat → Bool) (g : Nat) (hf : f g = false) : ∀ n, (List.range n).countP (runSet f g 1 true) = (List.range n).countP f + (if g < n then 1 else 0)
 | 0 => rfl
 | n + 1 => by
  rw [List.range_succ, List.countP_append, List.countP_append, countP_point f g hf n]
  by_cases h : n = g
  ·subst h
   simp [runSet, hf]
  ·have h1 : runSet f g 1 true n = f n := by unfold runSet; rw [if_neg (by omega)]
   simp only [List.countP_cons, List.countP_nil, h1]
   by_cases h2 : g < n
   ·rw [if_pos h2, if_pos (show g < n + 1 by omega)]
    omega
   ·rw [if_neg h2, if_neg (show ¬ g < n + 1 by omega)]
    omega

/-- A marking lies at mb, over its channel c. -/
structure MarkAt (w : World) (mb c cap base : Nat) (v0 : Value) (sp sq mp mq H : Nat) (fs : Nat → Bool) (lv : Value) (S : MS) : Prop where
 st : StackAt w mb c cap base v0 (.pointer (some ⟨sp, 0, none⟩)) (.pointer (some ⟨mp, 0, none⟩)) (.bool S.full) (.int .i64 (S.n : Nat)) lv S.stk S.deep
 sb : BitsAt w sp sq fs H
 mbits : BitsAt w mp mq S.f H
 cnt : S.n = (List.range H).countP S.f
 ap : sp < base ∧ sq < base ∧ mp < base ∧ mq < base
 ne : ¬ mb = sp ∧ ¬ mb = sq ∧ ¬ mb = mp ∧ ¬ mb = mq ∧ ¬ c = sp ∧ ¬ c = sq ∧ ¬ c = mp ∧ ¬ c = mq ∧ ¬ mq = sp ∧ ¬ mq = sq
 bz : base ≤ w.heap.size

/-- The blocks that a marking turns. -/
def MarkS (mb c mq : Nat) (lv : Value) : Nat → Prop := fun k => k = mb ∨ k = c ∨ k = mq ∨ lv.ownBlock = some k

def MarkPost (mb c cap base : Nat) (v0 : Value) (sp sq mp mq H : Nat) (fs : Nat → Bool) (lv : Value) (S : MS) (w : World) (e : Ending) (w' : World) : Prop :=
 e = .returned (.tuple #[]) ∧ ∃ lv', MarkAt w' mb c cap base v0 sp sq mp mq H fs lv' S ∧ (∀ b, lv'.ownBlock = some b → lv.ownBlock = some b ∨ w.heap.size ≤ b) ∧ Keep (MarkS mb c mq lv) w w'

theorem set8_6 {w : World} {b : Nat} {a0 a1 a2 a3 a4 a5 a6 a7 : Value} {T : TypeId} (hb : w.heap[b]? = some (.cells #[a0, a1, a2, a3, a4, a5, a6, a7] T (0, 0))) (v : Value) : (w.setCell ⟨b, 6, none⟩ v).heap[b]? = some (.cells #[a0, a1, a2, a3, a4, a5, v, a7] T (0, 0)) := by
 rw [block_setCell hb]
 rfl

theorem set8_7 {w : World} {b : Nat} {a0 a1 a2 a3 a4 a5 a6 a7 : Value} {T : TypeId} (hb : w.heap[b]? = some (.cells #[a0, a1, a2, a3, a4, a5, a6, a7] T (0, 0))) (v : Value) : (w.setCell ⟨b, 7, none⟩ v).heap[b]? = some (.cells #[a0, a1, a2, a3, a4, a5, a6, v] T (0, 0)) := by
 rw [block_setCell hb]
 rfl

/-- The marking's own block is kept but for one field. -/
theorem StackAt.turn {w w' : World} {mb c cap base deep : Nat} {v0 v1 v2 v6 v7 u6 u7 lv : Value} {stk : List Nat} (h : StackAt w mb c cap base v0 v1 v2 v6 v7 lv stk deep) (k : Keep (fun k => k = mb) w w')
  (hb : w'.heap[mb]? = some (.cells #[v0, v1, v2, .chan (some c), lv, .int .i64 (deep : Nat), u6, u7] 134 (0, 0))) : StackAt w' mb c cap base v0 v1 v2 u6 u7 lv stk deep :=
 have ⟨buf, s, r, hc, hs⟩ := h.ch
 ⟨hb, ⟨buf, s, r, k.at_ hc (fun e => h.ne e.symm), hs⟩, ownsRow_keep h.row k (fun b hb e => by have := (ownsRow_block h.row hb).1; have := h.mb_lt; omega), h.le, h.cap_le, h.deep_le, h.mb_lt, h.c_lt, h.ne⟩

theorem StackAt.keep {S : Nat → Prop} {w w' : World} {mb c cap base deep : Nat} {v0 v1 v2 v6 v7 lv : Value} {stk : List Nat} (h : StackAt w mb c cap base v0 v1 v2 v6 v7 lv stk deep) (k : Keep S w w') (h1 : ¬ S mb) (h2 : ¬ S c) (h3 : ∀ b, base ≤ b → b < w.heap.size → ¬ S b) : StackAt w' mb c cap base v0 v1 v2 v6 v7 lv stk deep :=
 have ⟨buf, s, r, hc, hs⟩ := h.ch
 ⟨k.at_ h.blk h1, ⟨buf, s, r, k.at_ hc h2, hs⟩, ownsRow_keep h.row k (fun b hb => h3 b (ownsRow_block h.row hb).1 (ownsRow_block h.row hb).2), h.le, h.cap_le, h.deep_le, h.mb_lt, h.c_lt, h.ne⟩

theorem MarkAt.keep {S : Nat → Prop} {w w' : World} {mb c cap base : Nat} {v0 : Value} {sp sq mp mq H : Nat} {fs : Nat → Bool} {lv : Value} {M : MS} (h : MarkAt w mb c cap base v0 sp sq mp mq H fs lv M) (k : Keep S w w') (hS : ∀ b, S b → w.heap.size ≤ b) : MarkAt w' mb c cap base v0 sp sq mp mq H fs lv M :=
 have hst := h.st
 have z := h.bz
 have a := h.ap
 have l1 := hst.mb_lt
 have l2 := hst.c_lt
 ⟨hst.keep k (fun e => by have := hS _ e; omega) (fun e => by have := hS _ e; omega) (fun b _ hb e => by have := hS _ e; omega),
  h.sb.keep k (fun e => by have := hS _ e; omega) (fun e => by have := hS _ e; omega), h.mbits.keep k (fun e => by have := hS _ e; omega) (fun e => by have := hS _ e; omega), h.cnt, h.ap, h.ne, Nat.le_trans z k.size⟩

set_option maxRecDepth 20000 in
set_option maxHeartbeats 4000000 in
theorem Mark_at (mb c cap base : Nat) (v0 : Value) (sp sq mp mq H : Nat) (fs : Nat → Bool) (lv : Value) (S : MS) (g : Nat) (hg : g < H) (w : World) (h : MarkAt w mb c cap base v0 sp sq mp mq H fs lv S) :
  Calls Tryz.prog 61 #[.pointer (some ⟨mb, 0, none⟩), .int .i64 (g : Nat)] w (MarkPost mb c cap base v0 sp sq mp mq H fs lv (markR cap S g) w) := by
 have hst := h.st
 obtain ⟨b0, b1, b2, b3, b4, b5, b6, b7⟩ := cells8 hst.blk
 have HH : Seal _ := ⟨h⟩
 have HS : Seal _ := ⟨hst⟩
 clear h hst
 go_enter Tryz.func61, Tryz.ntmps61
 go_wp2_with fail
 refine (Has_in g H mp mq S.f _ HH.out.mbits hg).mono ?_
 rintro e w1 ⟨rfl, k1⟩
 have HK1 : Seal _ := ⟨k1⟩
 rcases hfg : S.f g with _ | _
 ·have HF : Seal _ := ⟨hfg⟩
  clear hfg b0 b1 b2 b3 b4 b5 b6 b7
  have hM1 := HH.out.keep k1 (fun b e => e.elim)
  have HM1 : Seal _ := ⟨hM1⟩
  have st1 := HS.out.keep k1 (fun e => e.elim) (fun e => e.elim) (fun _ _ _ e => e.elim)
  obtain ⟨b0, b1, b2, b3, b4, b5, b6, b7⟩ := cells8 st1.blk
  have HS1 : Seal _ := ⟨st1⟩
  clear hM1 st1 k1
  go_wp2_with fail
  refine (Set_yes g H mp mq S.f _ HM1.out.mbits hg).mono ?_
  rintro e w2 ⟨rfl, k2, hb2⟩
  have hne := HM1.out.ne
  have hap := HM1.out.ap
  have hbz := HM1.out.bz
  have hcnt := HM1.out.cnt
  have hsm := HM1.out.mbits.small'
  have hct := countP_point S.f g HF.out H
  rw [if_pos hg, ← hcnt] at hct
  have hle : S.n + 1 ≤ H := by rw [← hct]; exact Nat.le_trans List.countP_le_length (by simp)
  have st2 := HS1.out.keep k2 (fun e => hne.2.2.2.1 e) (fun e => hne.2.2.2.2.2.2.2.1 e) (fun b hb _ e => by omega)
  have sb2 := HM1.out.sb.keep k2 (fun e => hne.2.2.2.2.2.2.2.2.1 e.symm) (fun e => hne.2.2.2.2.2.2.2.2.2 e.symm)
  have HK2 : Seal _ := ⟨k2⟩
  have HB2 : Seal _ := ⟨hb2⟩
  have HS2 : Seal _ := ⟨st2⟩
  have HSb2 : Seal _ := ⟨sb2⟩
  have HCt : Seal _ := ⟨hct⟩
  clear b0 b1 b2 b3 b4 b5 b6 b7 hb2 sb2 hct hcnt hne hap
  obtain ⟨b0, b1, b2, b3, b4, b5, b6, b7⟩ := cells8 st2.blk
  have f7 := free_of_block st2.blk 7
  clear st2
  go_wp2_with fail
  obtain ⟨w3, hw3⟩ : ∃ w3, w3 = w2.setCell ⟨mb, 7, none⟩ (.int .i64 ((S.n : Int) + 1)) := ⟨_, rfl⟩
  have k3 : Keep (fun k => k = mb) w2 w3 := by rw [hw3]; exact (Keep.refl (fun k => k = mb) w2).setCell (fun _ => rfl) _
  have st3 := HS2.out.turn k3 (u6 := .bool S.full) (u7 := .int .i64 ((S.n + 1 : Nat) : Int)) (by rw [hw3]; exact set8_7 HS2.out.blk _)
  rw [← hw3]
  clear hw3 b0 b1 b2 b3 b4 b5 b6 b7 f7
  have hz3 : base ≤ w3.heap.size := by have := HK2.out.size; have := k3.size; omega
  have HK3 : Seal _ := ⟨k3⟩
  have HS3 : Seal _ := ⟨st3⟩
  have hnf : ¬ S.f g = true := by rw [HF.out]; exact Bool.false_ne_true
  clear st3 k2 k3
  by_cases hroom : S.stk.length < cap
  ·have hR : markR cap S g = ⟨runSet S.f g 1 true, S.full, S.n + 1, S.stk ++ [g], max S.deep (S.stk.length + 1)⟩ := by rw [markR, if_neg hnf, if_pos hroom]
   have HR : Seal _ := ⟨hR⟩
   clear hR hnf
   refine (Push_room mb c cap base g _ _ _ _ _ lv S.stk S.deep w3 HS3.out hroom hz3).mono ?_
   rintro e w4 ⟨rfl, lv', st4, hat, k4⟩
   have HK4 : Seal _ := ⟨k4⟩
   have HS4 : Seal _ := ⟨st4⟩
   clear st4 k4 hroom
   go_wp2_with fail
   go_end0
   rw [HR.out]
   have hne := HM1.out.ne
   have hap := HM1.out.ap
   have hown : ∀ b, base ≤ b ∨ ¬ lv.ownBlock = some b := fun b => by
    by_cases e : lv.ownBlock = some b
    ·exact .inl (ownsRow_block HS3.out.row e).1
    ·exact .inr e
   refine ⟨rfl, lv', ⟨HS4.out, ?_, ?_, HCt.out.symm, hap, HM1.out.ne, Nat.le_trans hz3 HK4.out.size⟩, fun b hb => ?_, ?_⟩
   ·exact (HSb2.out.keep HK3.out (fun e => hne.1 e.symm) (fun e => hne.2.1 e.symm)).keep HK4.out (fun e => by rcases e with e | e | e; exact hne.1 e.symm; exact hne.2.2.2.2.1 e.symm; exact (by have := hown sp; rcases this with h | h; omega; exact h e)) (fun e => by rcases e with e | e | e; exact hne.2.1 e.symm; exact hne.2.2.2.2.2.1 e.symm; exact (by have := hown sq; rcases this with h | h; omega; exact h e))
   ·exact (HB2.out.keep HK3.out (fun e => hne.2.2.1 e.symm) (fun e => hne.2.2.2.1 e.symm)).keep HK4.out (fun e => by rcases e with e | e | e; exact hne.2.2.1 e.symm; exact hne.2.2.2.2.2.2.1 e.symm; exact (by have := hown mp; rcases this with h | h; omega; exact h e)) (fun e => by rcases e with e | e | e; exact hne.2.2.2.1 e.symm; exact hne.2.2.2.2.2.2.2.1 e.symm; exact (by have := hown mq; rcases this with h | h; omega; exact h e))
   ·rcases hat b hb with h | h
    ·exact .inl h
    ·right
     have := HK1.out.size
     have := HK2.out.size
     have := HK3.out.size
     omega
   ·exact ((HK1.out.mono fun _ _ e => e.elim).trans (HK2.out) (fun i _ e => .inr (.inr (.inl e)))).trans ((show Keep (MarkS mb c mq lv) w2 w3 from HK3.out.mono (fun i _ e => .inl e)).trans HK4.out (fun i _ e => by rcases e with e | e | e; exact .inl e; exact .inr (.inl e); exact .inr (.inr (.inr e)))) (fun i _ e => e)
  ·have hfullq : S.stk.length = cap := by have := HS3.out.le; omega
   have hR : markR cap S g = ⟨runSet S.f g 1 true, true, S.n + 1, S.stk, S.deep⟩ := by rw [markR, if_neg hnf, if_neg hroom]
   have HR : Seal _ := ⟨hR⟩
   clear hR hnf hroom
   refine (Push_full mb c cap base g _ _ _ _ _ lv S.stk S.deep w3 HS3.out hfullq).mono ?_
   rintro e w4 ⟨rfl, rfl⟩
   have f6 := free_of_block HS3.out.blk 6
   obtain ⟨b0, b1, b2, b3, b4, b5, b6, b7⟩ := cells8 HS3.out.blk
   clear hfullq
   go_wp2_with fail
   obtain ⟨w5, hw5⟩ : ∃ w5, w5 = w4.setCell ⟨mb, 6, none⟩ (.bool true) := ⟨_, rfl⟩
   have k5 : Keep (fun k => k = mb) w4 w5 := by rw [hw5]; exact (Keep.refl (fun k => k = mb) w4).setCell (fun _ => rfl) _
   have st5 := HS3.out.turn k5 (u6 := .bool true) (u7 := .int .i64 ((S.n + 1 : Nat) : Int)) (by rw [hw5]; exact set8_6 HS3.out.blk _)
   rw [← hw5]
   go_end0
   rw [HR.out]
   have hne := HM1.out.ne
   have hap := HM1.out.ap
   refine ⟨rfl, lv, ⟨st5, ?_, ?_, HCt.out.symm, hap, HM1.out.ne, Nat.le_trans hz3 k5.size⟩, fun b hb => .inl hb, ?_⟩
   ·exact (HSb2.out.keep HK3.out (fun e => hne.1 e.symm) (fun e => hne.2.1 e.symm)).keep k5 (fun e => hne.1 e.symm) (fun e => hne.2.1 e.symm)
   ·exact (HB2.out.keep HK3.out (fun e => hne.2.2.1 e.symm) (fun e => hne.2.2.2.1 e.symm)).keep k5 (fun e => hne.2.2.1 e.symm) (fun e => hne.2.2.2.1 e.symm)
   ·exact ((HK1.out.mono fun _ _ e => e.elim).trans (HK2.out) (fun i _ e => .inr (.inr (.inl e)))).trans (HK3.out.trans k5 (fun i _ e => e)) (fun i _ e => .inl e)
 ·go_wp2_with fail
  go_end0
  refine ⟨rfl, lv, ?_, fun b hb => .inl hb, k1.mono fun _ _ h => h.elim⟩
  have : markR cap S g = S := by rw [markR, if_pos hfg]
  rw [this]
  exact HH.out.keep k1 (fun b e => e.elim)

end Go.Proofs.YtllpibknkajfnaaGreatDoor

namespace Go.Proofs.YtllpibknkajfnaaGreatDoor
open Go.RowKit
set_option linter.unusedVariables false

/-- What roots reach. -/
inductive MReach (KF : Nat → List Nat) (rs : Nat → Prop) : Nat → Prop
 | root {g : Nat} : rs g → MReach KF rs g
 | step {g k : Nat} : MReach KF rs g → k ∈ KF g → MReach KF rs k

structure MInv (KF : Nat → List Nat) (T rs : Nat → Prop) (cap : Nat) (X : Nat → Prop) (S : MS) : Prop where
 re : ∀ g, S.f g = true → T g ∧ MReach KF rs g
 st : ∀ g ∈ S.stk, S.f g = true
 ln : S.stk.length ≤ S.n
 fl : S.full = true → cap < S.n
 cl : S.full = false → ∀ g, S.f g = true → g ∈ S.stk ∨ X g ∨ ∀ k ∈ KF g, S.f k = true

/-- What no marking takes back. -/
structure MExt (S S' : MS) : Prop where
 f : ∀ g, S.f g = true → S'.f g = true
 n : S.n ≤ S'.n
 up : S.full = true → S'.full = true
 dn : S'.full = true → S.full = true ∨ S.n < S'.n
 mu : S'.stk.length + 2 * S.n ≤ S.stk.length + 2 * S'.n

theorem MExt.refl (S : MS) : MExt S S := ⟨fun _ h => h, Nat.le_refl _, fun h => h, fun h => .inl h, Nat.le_refl _⟩

theorem MExt.trans {A B C : MS} (h : MExt A B) (k : MExt B C) : MExt A C :=
 ⟨fun g e => k.f g (h.f g e), Nat.le_trans h.n k.n, fun e => k.up (h.up e), fun e => by
  have h1 := h.n
  have h2 := k.n
  rcases k.dn e with e | e
  ·rcases h.dn e with e | e
   ·exact .inl e
   ·exact .inr (by omega)
  ·exact .inr (by omega), by have := h.mu; have := k.mu; omega⟩

theorem runSet_one {f : Nat → Bool} {g k : Nat} : runSet f g 1 true k = true ↔ k = g ∨ f k = true := by
 unfold runSet
 by_cases h : g ≤ k ∧ k < g + 1
 ·rw [if_pos h]
  exact ⟨fun _ => .inl (by omega), fun _ => rfl⟩
 ·rw [if_neg h]
  exact ⟨fun e => .inr e, fun e => e.elim (fun e => absurd ⟨by omega, by omega⟩ h) (fun e => e)⟩

theorem markR_inv {KF : Nat → List Nat} {T rs : Nat → Prop} {cap : Nat} {X : Nat → Prop} {S : MS} (h : MInv KF T rs cap X S) {g : Nat} (ht : T g) (hr : MReach KF rs g) : MInv KF T rs cap X (markR cap S g) ∧ (markR cap S g).f g = true ∧ MExt S (markR cap S g) := by
 unfold markR
 by_cases h1 : S.f g = true
 ·rw [if_pos h1]
  exact ⟨h, h1, MExt.refl S⟩
 ·rw [if_neg h1]
  by_cases h2 : S.stk.length < cap
  ·rw [if_pos h2]
   refine ⟨⟨fun x hx => ?_, fun x hx => ?_, ?_, fun hf => ?_, fun hf x hx => ?_⟩, runSet_one.2 (.inl rfl), ⟨fun x hx => runSet_one.2 (.inr hx), Nat.le_succ _, fun e => e, fun e => .inl e, ?_⟩⟩
   ·rcases runSet_one.1 hx with e | e
    ·subst e
     exact ⟨ht, hr⟩
    ·exact h.re x e
   ·rcases List.mem_append.1 hx with e | e
    ·exact runSet_one.2 (.inr (h.st x e))
    ·exact runSet_one.2 (.inl (by simpa using e))
   ·have := h.ln
    simp
    omega
   ·have := h.fl hf
    show cap < S.n + 1
    omega
   ·rcases runSet_one.1 hx with e | e
    ·subst e
     exact .inl (by simp)
    ·rcases h.cl hf x e with e | e | e
     ·exact .inl (by simp [e])
     ·exact .inr (.inl e)
     ·exact .inr (.inr fun k hk => runSet_one.2 (.inr (e k hk)))
   ·simp
    omega
  ·rw [if_neg h2]
   refine ⟨⟨fun x hx => ?_, fun x hx => runSet_one.2 (.inr (h.st x hx)), Nat.le_succ_of_le h.ln, fun hf => ?_, fun hf => by cases hf⟩, runSet_one.2 (.inl rfl), ⟨fun x hx => runSet_one.2 (.inr hx), Nat.le_succ _, fun e => rfl, fun e => .inr (Nat.lt_succ_self _), ?_⟩⟩
   ·rcases runSet_one.1 hx with e | e
    ·subst e
     exact ⟨ht, hr⟩
    ·exact h.re x e
   ·have := h.ln
    show cap < S.n + 1
    omega
   ·simp
    omega

theorem MInv.pop {KF : Nat → List Nat} {T rs : Nat → Prop} {cap : Nat} {X : Nat → Prop} {S : MS} {stk : List Nat} {g : Nat} (h : MInv KF T rs cap X S) (hs : S.stk = stk ++ [g]) : MInv KF T rs cap (fun x => X x ∨ x = g) ⟨S.f, S.full, S.n, stk, S.deep⟩ ∧ S.f g = true := by
 refine ⟨⟨h.re, fun x hx => h.st x (by rw [hs]; simp [hx]), ?_, h.fl, fun hf x hx => ?_⟩, h.st g (by rw [hs]; simp)⟩
 ·have := h.ln
  rw [hs] at this
  simp at this
  show stk.length ≤ S.n
  omega
 ·rcases h.cl hf x hx with e | e | e
  ·rw [hs] at e
   rcases List.mem_append.1 e with e | e
   ·exact .inl e
   ·exact .inr (.inl (.inr (by simpa using e)))
  ·exact .inr (.inl (.inl e))
  ·exact .inr (.inr e)

theorem MInv.close {KF : Nat → List Nat} {T rs : Nat → Prop} {cap : Nat} {X : Nat → Prop} {S : MS} {g : Nat} (h : MInv KF T rs cap (fun x => X x ∨ x = g) S) (hk : ∀ k ∈ KF g, S.f k = true) : MInv KF T rs cap X S :=
 ⟨h.re, h.st, h.ln, h.fl, fun hf x hx => by
  rcases h.cl hf x hx with e | (e | e) | e
  ·exact .inl e
  ·exact .inr (.inl e)
  ·exact .inr (.inr (by rw [e]; exact hk))
  ·exact .inr (.inr e)⟩

theorem MInv.mono {KF : Nat → List Nat} {T rs : Nat → Prop} {cap : Nat} {X Y : Nat → Prop} {S : MS} (h : MInv KF T rs cap X S) (hxy : ∀ g, X g → Y g) : MInv KF T rs cap Y S :=
 ⟨h.re, h.st, h.ln, h.fl, fun hf x hx => by
  rcases h.cl hf x hx with e | e | e
  ·exact .inl e
  ·exact .inr (.inl (hxy x e))
  ·exact .inr (.inr e)⟩

/-- How much is left to do, read off the world. -/
def muW (mb H : Nat) (w : World) : Nat :=
 match w.cell? ⟨mb, 7, none⟩, w.cell? ⟨mb, 4, none⟩ with
 | some (.int _ n), some (.slice _ l _) => 2 * (H - n.toNat) + l
 | _, _ => 0

theorem muW_at {w : World} {mb c cap base : Nat} {v0 : Value} {sp sq mp mq H : Nat} {fs : Nat → Bool} {lv : Value} {S : MS} (h : MarkAt w mb c cap base v0 sp sq mp mq H fs lv S) : muW mb H w = 2 * (H - S.n) + S.stk.length := by
 obtain ⟨-, -, -, -, b4, -, -, b7⟩ := cells8 h.st.blk
 unfold muW
 rw [b4, b7]
 rcases h.st.row.2 with ⟨e, e0⟩ | ⟨g, cap, cur, e, _⟩
 ·rw [e, e0]
  simp
 ·rw [e]
  simp

theorem MarkAt.n_le {w : World} {mb c cap base : Nat} {v0 : Value} {sp sq mp mq H : Nat} {fs : Nat → Bool} {lv : Value} {S : MS} (h : MarkAt w mb c cap base v0 sp sq mp mq H fs lv S) : S.n ≤ H := by
 rw [h.cnt]
 exact Nat.le_trans List.countP_le_length (by simp)

def b01 : Value → Nat
 | .bool true => 1
 | _ => 0

end Go.Proofs.YtllpibknkajfnaaGreatDoor
