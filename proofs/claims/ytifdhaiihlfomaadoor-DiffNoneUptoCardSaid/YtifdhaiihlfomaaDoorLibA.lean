/-
  A word on worlds: of what lay in memory only blocks of a given kind have turned. Regions whose order is open, walked within a round of a loop over a function. No program in sight.   A loop over a function, by a contract of the function and a walk of one round. No program in sight.   A loop over a function whose last round may turn more than the others: by a contract of the function and a walk of one round. No program in sight.   A loop over a function whose rounds may turn blocks that earlier rounds made (a row that grows). No program in sight.   A row's last step behind a call that at most laid new blocks ('Keep Nope'), whatever is frozen among the new ones.   An argument that is a slice of structs of k fields, each an int; and all arguments read behind a call that at most laid new blocks as they did.
  A loop over a function whose rounds may turn blocks that earlier rounds made, but no block that the function itself keeps. No program in sight.
-/
import Derived.RangeFuncNested
import Derived.RangeFuncBound
import Derived.RangeFuncCalls
import Derived.RangeFuncLeaves
import Derived.WalkKit
import Derived.WalkLawsBesides
import Derived.Deep.QuietTactic
import Derived.BigQuiet
import Derived.OwnWalkIn
import Derived.TacticsInMore
import Derived.LoopNIn
import Derived.LoopIn
import Derived.StillTailTactics
import Derived.Lib.Hide
import Derived.Shelf.Abstract
import Derived.ChangeSame
import Derived.Deep.Slices
import Derived.Deep.Fields
import Derived.Carry
import Derived.OpenShut
namespace Go.Proofs.YtifdhaiihlfomaaDoor
open Go.RowKit
set_option linter.unusedVariables false

/-- A fact kept from the walk. -/
structure Seal (p : Prop) : Prop where
  out : p

theorem sE {p : Prop} (h : p) : Seal p := ⟨h⟩

/-- Of the blocks that lay in w only those of S have turned. -/
structure Keep (S : Nat → Prop) (w w' : World) : Prop where
  os : w'.os = w.os
  tape : w'.tape = w.tape
  output : w'.output = w.output
  size : w.heap.size ≤ w'.heap.size
  block : ∀ k, k < w.heap.size → ¬ S k → w'.heap[k]? = w.heap[k]?

/-- Nothing. -/
def Nope : Nat → Prop := fun _ => False

namespace Keep
variable {S S' : Nat → Prop} {w w' a b c : World}

theorem refl (S : Nat → Prop) (w : World) : Keep S w w := ⟨rfl, rfl, rfl, Nat.le_refl _, fun _ _ _ => rfl⟩

theorem trans (h : Keep S a b) (k : Keep S' b c) (hs : ∀ i, i < a.heap.size → S' i → S i) : Keep S a c :=
  ⟨k.os.trans h.os, k.tape.trans h.tape, k.output.trans h.output, Nat.le_trans h.size k.size,
   fun i hi hn => (k.block i (Nat.lt_of_lt_of_le hi h.size) (fun hs' => hn (hs i hi hs'))).trans (h.block i hi hn)⟩

theorem mono (h : Keep S a b) (hs : ∀ i, i < a.heap.size → S i → S' i) : Keep S' a b :=
  ⟨h.os, h.tape, h.output, h.size, fun i hi hn => h.block i hi (fun hx => hn (hs i hi hx))⟩

theorem of_not (h : Keep Nope a b) (S : Nat → Prop) : Keep S a b := h.mono fun _ _ hf => hf.elim

theorem alloc (h : Keep S a w) (o : Obj) : Keep S a (w.alloc o) :=
  h.trans (S' := Nope) ⟨rfl, rfl, rfl, by simp, fun k hk _ => Below.heap_alloc _ _ _ hk⟩ (fun _ _ hf => hf.elim)

theorem setCell (h : Keep S a w) {p : Addr} (hp : p.block < a.heap.size → S p.block) (v : Value) : Keep S a (w.setCell p v) :=
  h.trans (S' := fun k => k = p.block) ⟨rfl, rfl, rfl, by simp [World.setCell], fun k _ hn => Below.heap_setCell _ _ _ _ hn⟩ (fun i hi e => by subst e; exact hp hi)

theorem putObj (h : Keep S a w) {r : Nat} (hr : r < a.heap.size → S r) (o : Obj) : Keep S a (w.putObj r o) :=
  h.trans (S' := fun k => k = r) ⟨rfl, rfl, rfl, by simp, fun k _ hn => World.putObj_heap_other hn⟩ (fun i hi e => by subst e; exact hr hi)

theorem drewN (h : Keep S a w) (n : Nat) : Keep S a (w.drewN n) := ⟨h.os, h.tape, h.output, h.size, h.block⟩
theorem drew (h : Keep S a w) : Keep S a w.drew := ⟨h.os, h.tape, h.output, h.size, h.block⟩
theorem of_drewN (n : Nat) : Keep S w (w.drewN n) := (refl S w).drewN n

theorem grown (h : Keep S a w) {row : Option Nat} (hg : w.grownBy w' row) (hr : ∀ k, row = some k → k < a.heap.size → S k) : Keep S a w' :=
  h.trans (S' := fun k => some k = row) ⟨hg.os, hg.tape, hg.output, hg.size, fun k hk hn => hg.block k hk hn⟩ (fun i hi e => hr i e.symm hi)

theorem of_below {B : Nat} (h : Below B a b) : Keep (fun k => B ≤ k) a b := ⟨h.os, h.tape, h.output, h.size, fun k _ hn => h.block k (by omega)⟩

theorem below (h : Keep S a b) {B : Nat} (hB : B ≤ a.heap.size) (hs : ∀ k, k < B → ¬ S k) : Below B a b :=
  ⟨h.os, h.tape, h.output, h.size, fun k hk => h.block k (by omega) (hs k hk)⟩

theorem below_not (h : Keep Nope a b) : Below a.heap.size a b := h.below (Nat.le_refl _) (fun _ _ hf => hf)

theorem grownBy (h : Keep S a b) {q : Nat} (hs : ∀ k, k < a.heap.size → S k → k = q) : a.grownBy b (some q) :=
  ⟨h.os, h.tape, h.output, h.size, fun k hk hn => h.block k hk (fun hx => hn (by rw [hs k hk hx]))⟩

theorem grownBy_not (h : Keep Nope a b) : a.grownBy b none := ⟨h.os, h.tape, h.output, h.size, fun k hk _ => h.block k hk (fun hf => hf)⟩

/-- A block that has not turned. -/
theorem at_ (h : Keep S a b) {k : Nat} {o : Obj} (hk : a.heap[k]? = some o) (hn : ¬ S k) : b.heap[k]? = some o :=
  (h.block k (Array.getElem?_eq_some_iff.1 hk).1 hn).trans hk

theorem cell (h : Keep S a b) {p : Addr} {v : Value} (hc : a.cell? p = some v) (hn : ¬ S p.block) : b.cell? p = some v :=
  (World.cell?_of_block (w := a) (h.block p.block (World.block_lt_of_cell? a p hc) hn)).trans hc

end Keep

/-! ### Regions whose order is open, within a round -/
section
variable {P : Program} {ops : Array Oper} {Q : Exit → Act → World → Prop}

def noDefers (ops : Array Oper) : Bool := ops.all fun o => match o.op with | .defer _ => false | _ => true

theorem noDefers_spec (h : noDefers ops = true) {i : Nat} {o : Oper} (ho : ops[i]? = some o) : ∀ c, o.op ≠ .defer c := by
  intro c e
  unfold noDefers at h
  rw [Array.all_eq_true'] at h
  have := h o (Array.mem_of_getElem? ho)
  rw [e] at this
  cases this

theorem Oper.wpIn_of_wp {o : Oper} {a : Act} {w : World} {K : Act → World → Prop} {n l : Nat} (hd : ∀ c, o.op ≠ .defer c) (h : o.wp P a w K Q) : o.wpIn (Fence.wide.inRound l) n P a w K Q := by
  refine ⟨fun _ _ => trivial, ?_⟩
  unfold Oper.wp at h
  rw [Fence.inRound_round, Oper.semAt_some l a.eval o hd]
  generalize (execOp a.eval o).run P w = r at *
  cases r with
  | ok x w' =>
    cases x <;> simp only [Oper.upon] at h <;> simp only [Oper.uponIn] <;> try exact h
    · exact ⟨fun hh => (by simp [Fence.wide] at hh), callsIn_wide.2 h⟩
    · refine ⟨fun hh => (by simp [Fence.wide] at hh), fun c cs _ => ?_⟩
      obtain ⟨v, w'', r, s⟩ := h c cs
      exact ⟨v, w'', r, stepsIn_wide.2 s⟩
  | halt x w' => cases x <;> simp only [Oper.upon] at h <;> simp only [Oper.uponIn] <;> exact h

theorem wpOpsIn_of_wpOps {n l : Nat} (hd : noDefers ops = true) (hq : ∀ a w, ¬ Q .outgrown a w) : ∀ (is : List Nat) (a : Act) (w : World), wpOps P ops Q is a w → wpOpsIn (Fence.wide.inRound l) n P ops Q is a w
  | [], _, _, h => h
  | i :: is, a, w, h => by
    simp only [wpOps] at h
    simp only [wpOpsIn]
    cases ho : ops[i]? with
    | none => simp only [ho] at h ⊢; exact wpOpsIn_of_wpOps hd hq is a w h
    | some o =>
      simp only [ho] at h ⊢
      split
      · rename_i hw
        simp only [hw, if_true] at h
        rcases h with h | ⟨_, a', w', h⟩
        · exact Oper.wpIn_of_wp (noDefers_spec hd ho) (Oper.wp_mono (fun a' w' => wpOpsIn_of_wpOps hd hq is a' w') h)
        · exact (hq _ _ h).elim
      · rename_i hw
        simp only [hw] at h
        exact ⟨fun _ _ => trivial, wpOpsIn_of_wpOps hd hq is _ w h⟩

theorem wpIn_region_any {id n l : Nat} {a : Act} {w : World} (hm : P.follows .mixedOrders = true) (hd : noDefers ops = true) (hq : ∀ a w, ¬ Q .outgrown a w)
    (h : wpAny P .any ops Q ops.size (Array.replicate ops.size false) a { w with drawn := w.drawn + 1 }) : (Code.region id ops true).wpIn (Fence.wide.inRound l) n P Q a w :=
  wpIn_region_draw fun t => by
    simp only [Region.schedule, hm, Bool.true_or, if_true]
    exact wpOpsIn_of_wpOps hd hq _ _ _ (wpAny_sound ops.size t _ a _ h)

theorem wpIn_region_quiet {id n lo : Nat} {a : Act} {w : World} {l : List Oper} (hm : P.follows .mixedOrders = true) (hB : Region.lexB .any l.toArray = true) (hd : noDefers l.toArray = true) (hq : ∀ a w, ¬ Q .outgrown a w)
    (h : wpQuiet P l.toArray (fun w' => ∃ n, w' = w.drewN n) (fun a' => ∀ w', (∃ n, w' = w.drewN n) → Q .normal a' w') l a) : (Code.region id l.toArray true).wpIn (Fence.wide.inRound lo) n P Q a w := by
  simp only [Region.lexB, Bool.and_eq_true] at hB
  refine wpIn_region_any hm hd hq (wpAny_of_quiet (C := fun w' => ∃ n, w' = w.drewN n) (Q := fun a' => ∀ w', (∃ n, w' = w.drewN n) → Q .normal a' w') (fun _ w' hw' h => h w' hw') _ _ _ _ ⟨1, rfl⟩ ?_)
  have := wpAnyQ_lex (P := P) (Q := fun a' => ∀ w', (∃ n, w' = w.drewN n) → Q .normal a' w') (C := fun w' => ∃ n, w' = w.drewN n) (md := .any) hB.1 l 0 (Array.replicate l.toArray.size false) a (by simp) (by simpa using hB.2) h
  simpa using this

/-! Reads and quiet calls first, in whatever order; then a tail in one order: a store, an append. -/

def wpAnyLQ (P : Program) (md : Region.Mode) (ops : Array Oper) (C : World → Prop) (n : Nat) (L : Array Bool → Act → Prop) : Nat → Array Bool → Act → Prop
  | 0, listed, a => L listed a
  | f + 1, listed, a =>
    Region.ready md ops listed ≠ [] ∧ ∀ i ∈ Region.ready md ops listed, i < n ∧ qOp P ops C i (wpAnyLQ P md ops C n L f (listed.setIfInBounds i true)) a

theorem wpAny_of_headQ {md : Region.Mode} {C : World → Prop} {n g : Nat} {L : Array Bool → Act → Prop} {Q' : Exit → Act → World → Prop} (hL : ∀ listed a w, C w → L listed a → wpAny P md ops Q' g listed a w) :
    ∀ (f : Nat) (listed : Array Bool) (a : Act) (w : World), C w → wpAnyLQ P md ops C n L f listed a → wpAny P md ops Q' (f + g) listed a w
  | 0, listed, a, w, hw, h => by rw [Nat.zero_add]; exact hL _ _ _ hw h
  | f + 1, listed, a, w, hw, h => by
    rw [show f + 1 + g = (f + g) + 1 by omega]
    exact ⟨fun h0 => absurd h0 h.1, fun i hi => wpOp_of_qOp hw (fun a' w' hw' h' => wpAny_of_headQ hL f _ a' w' hw' h') (h.2 i hi).2⟩

theorem wpAnyLQ_first {md : Region.Mode} {C : World → Prop} {n i : Nat} {oi : Oper} {v : Value} {L : Array Bool → Act → Prop} (hi : ops[i]? = some oi) (hsel : ∀ (j : Nat) (o : Oper) cs b, ops[j]? = some o → o.op ≠ .select cs b)
    (hs : Region.sinkB md ops n = true) (hc : Region.chainB md ops n = true) (hn : n < ops.size) (hin : i < n)
    (hdone : ∀ listed a, L listed a → ∀ j ∈ Region.ready md ops listed, n ≤ j) :
    ∀ (f : Nat) (listed : Array Bool) (a : Act), HeadInv md ops n listed →
      (∀ j oj, ops[j]? = some oj → j ≠ i → listed.getD j true = false → (∀ e ∈ oj.after, Region.binds md e = true → e.on ≠ i) → oi.apart ops oj = true) →
      i ∈ Region.ready md ops listed → Go.YieldsIn P ops C oi v a →
      wpAnyLQ P md ops C n L f (listed.setIfInBounds i true) (a.put oi.dst v) → wpAnyLQ P md ops C n L (f + 1) listed a := by
  intro f
  induction f with
  | zero =>
    intro listed a inv _ hr hy H
    have hun := (mem_ready.1 hr).1
    refine ⟨fun h => (by rw [h] at hr; cases hr), fun j hj => ?_⟩
    have hjn : j < n := by
      rcases Nat.lt_or_ge j n with h | h
      · exact h
      · exact absurd hj (tail_waits hs hc hn inv _ i rfl hin hun j h)
    refine ⟨hjn, ?_⟩
    by_cases hji : j = i
    · subst hji; exact hy.qOp hi H
    · have := hdone _ _ H j (ready_mono hj hji)
      omega
  | succ f ih =>
    intro listed a inv hfree hr hy H
    have hun := (mem_ready.1 hr).1
    refine ⟨fun h => (by rw [h] at hr; cases hr), fun j hj => ?_⟩
    have hjn : j < n := by
      rcases Nat.lt_or_ge j n with h | h
      · exact h
      · exact absurd hj (tail_waits hs hc hn inv _ i rfl hin hun j h)
    refine ⟨hjn, ?_⟩
    by_cases hji : j = i
    · subst hji; exact hy.qOp hi H
    · have h1 := (H.2 j (ready_mono hj hji)).2
      obtain ⟨hjun, oj, hoj, hall⟩ := mem_ready.1 hj
      have hnot : ∀ e ∈ oj.after, Region.binds md e = true → e.on ≠ i := fun e he hb heq => by
        have h1 := hall e he hb
        rw [heq, getD_both hun] at h1
        cases h1
      have h2 := qOp_put hoj (hfree j oj hoj hji hjun hnot) (fun cs b => hsel i oi cs b hi) (fun cs b => hsel j oj cs b hoj) hy h1
      have hfree' : ∀ k ok, ops[k]? = some ok → k ≠ i → (listed.setIfInBounds j true).getD k true = false →
          (∀ e ∈ ok.after, Region.binds md e = true → e.on ≠ i) → oi.apart ops ok = true := fun k ok hk hki hun hno => by
        refine hfree k ok hk hki ?_ hno
        by_cases hjk : j = k
        · subst hjk; exact hjun
        · rw [getD_set_ne true hjk] at hun; exact hun
      refine qOp_mono (fun a' h3 => ih (listed.setIfInBounds j true) a' (inv.set hj hjn) hfree' (ready_mono hr (Ne.symm hji)) h3.1 ?_) h2
      rw [Array.setIfInBounds_comm _ _ hji]
      exact h3.2

theorem wpAnyLQ_lex {md : Region.Mode} {C : World → Prop} {n g : Nat} {Lq : Act → Prop} (hsel : Region.noSelect ops = true) (hs : Region.sinkB md ops n = true) (hc : Region.chainB md ops n = true) (hn : n < ops.size) :
    ∀ (l : List Oper) (k : Nat) (listed : Array Bool) (a : Act), (∀ j, j < l.length → l[j]? = ops[k + j]?) → k + l.length = n → HeadInv md ops n listed →
    Region.lexHead md ops g l.length k listed = true → wpQuiet P ops C Lq l a →
    wpAnyLQ P md ops C n (fun listed' a' => Region.seqB md ops g n listed' = true ∧ Lq a') l.length listed a
  | [], k, listed, a, _, hk, _, hB, h => by
    have : k = n := by simpa using hk
    subst this
    exact ⟨by simpa [Region.lexHead] using hB, h⟩
  | o :: l, k, listed, a, hl, hk, inv, hB, h => by
    have h0 : ops[k]? = some o := by simpa using (hl 0 (by simp)).symm
    simp only [List.length_cons, Region.lexHead, Bool.and_eq_true] at hB
    obtain ⟨⟨hr, hf⟩, hB'⟩ := hB
    have hkn : k < n := by simp only [List.length_cons] at hk; omega
    have hr' : k ∈ Region.ready md ops listed := by simpa using hr
    have hst : qOp P ops C k (wpQuiet P ops C Lq l) a := by unfold qOp; simp only [h0]; exact h
    obtain ⟨v, hy, hK⟩ := yieldsIn_of_qOp h0 hst
    exact wpAnyLQ_first h0 (Region.noSelect_spec hsel) hs hc hn hkn (fun listed' a' hL => seqB_ready hL.1) l.length listed a inv (Region.free_spec h0 hf) hr' hy
      (wpAnyLQ_lex hsel hs hc hn l (k + 1) _ _ (fun j hj => by have := hl (j + 1) (by simp; omega); simpa [Nat.add_assoc, Nat.add_comm 1 j] using this) (by simp only [List.length_cons] at hk; omega) (inv.set hr' hkn) hB' hK)

theorem wpAny_quiet_tail {a : Act} {w : World} {l : List Oper} (n : Nat) (hB : Region.lexTailB .any l.toArray n = true)
    (h : wpQuiet P l.toArray (fun w' => ∃ n, w' = w.drewN n) (fun a' => ∀ w', (∃ n, w' = w.drewN n) → wpList P l.toArray Q (l.drop n) a' w') (l.take n) a) :
    wpAny P .any l.toArray Q l.toArray.size (Array.replicate l.toArray.size false) a { w with drawn := w.drawn + 1 } := by
  simp only [Region.lexTailB, Bool.and_eq_true, decide_eq_true_eq] at hB
  obtain ⟨⟨⟨⟨hsel, hn⟩, hs⟩, hc⟩, hlex⟩ := hB
  have hn' : n < l.length := by simpa using hn
  have htl : (l.take n).length = n := by simp; omega
  have hdl : (l.drop n).length = l.toArray.size - n := by simp
  have inv0 : HeadInv .any l.toArray n (Array.replicate l.toArray.size false) :=
    ⟨by simp, fun j oj _ hl => (by rw [getD_replicate_false] at hl; cases hl), fun t _ ht => getD_in (by simpa using ht) (getD_replicate_false _ _)⟩
  have H := wpAnyLQ_lex (md := .any) (g := l.toArray.size - n) hsel hs hc hn (l.take n) 0 _ a (fun j hj => by
    have hj' : j < n := by rw [htl] at hj; exact hj
    simp [hj']) (by simpa using htl) inv0 (by rw [htl]; exact hlex) h
  have := wpAny_of_headQ (Q' := Q) (g := l.toArray.size - n) (fun listed a' w' hw' hL => by
    have := wpAny_of_seq (md := .any) (Q' := Q) (l.drop n) n listed a' w' (fun j => by simp [List.getElem?_drop]) (by rw [hdl]; exact hL.1) (hL.2 w' hw')
    rwa [hdl] at this) _ _ _ { w with drawn := w.drawn + 1 } ⟨1, rfl⟩ H
  rw [htl, show n + (l.toArray.size - n) = l.toArray.size by omega] at this
  exact this

theorem wp_region_quiet_tail {id : Nat} {a : Act} {w : World} {l : List Oper} (n : Nat) (hm : P.follows .mixedOrders = true) (hB : Region.lexTailB .any l.toArray n = true)
    (h : wpQuiet P l.toArray (fun w' => ∃ n, w' = w.drewN n) (fun a' => ∀ w', (∃ n, w' = w.drewN n) → wpList P l.toArray Q (l.drop n) a' w') (l.take n) a) : (Code.region id l.toArray true).wp P Q a w :=
  wp_region_any hm (wpAny_quiet_tail n hB h)

theorem wpIn_region_quiet_tail {id m lo : Nat} {a : Act} {w : World} {l : List Oper} (n : Nat) (hm : P.follows .mixedOrders = true) (hB : Region.lexTailB .any l.toArray n = true) (hd : noDefers l.toArray = true) (hq : ∀ a w, ¬ Q .outgrown a w)
    (h : wpQuiet P l.toArray (fun w' => ∃ n, w' = w.drewN n) (fun a' => ∀ w', (∃ n, w' = w.drewN n) → wpList P l.toArray Q (l.drop n) a' w') (l.take n) a) : (Code.region id l.toArray true).wpIn (Fence.wide.inRound lo) m P Q a w :=
  wpIn_region_any hm hd hq (wpAny_quiet_tail n hB h)
end

end Go.Proofs.YtifdhaiihlfomaaDoor

namespace Go.Proofs.YtifdhaiihlfomaaDoor
open Go.RowKit
set_option linter.unusedVariables false

variable {P : Program} {n : Nat}

theorem cell_putObj {W : World} {l : Nat} {o o' : Obj} (h : W.heap[l]? = some o) (hc : o.isCells = false) (hc' : o'.isCells = false) (a : Addr) : (W.putObj l o').cell? a = W.cell? a := by
  unfold World.cell?
  by_cases e : a.block = l
  · rw [e, World.putObj_heap_same (Array.getElem?_eq_some_iff.1 h).1, h]
    cases o <;> cases o' <;> simp_all [Obj.isCells]
  · rw [World.putObj_heap_other e]

theorem frozen_putObj {W : World} {l : Nat} {o o' : Obj} (h : W.heap[l]? = some o) (hc : o.isCells = false) (hc' : o'.isCells = false) (a : Addr) : (W.putObj l o').frozen? a = W.frozen? a := by
  unfold World.frozen?
  by_cases e : a.block = l
  · rw [e, World.putObj_heap_same (Array.getElem?_eq_some_iff.1 h).1, h]
    cases o <;> cases o' <;> simp_all [Obj.isCells]
  · rw [World.putObj_heap_other e]

/-- What a round that goes on may add to what later rounds may turn: where t, what was made in it. -/
def newIn (S S' : Nat → Prop) (A : World) : Bool → Prop
  | true => ∀ k, S' k → S k ∨ A.heap.size ≤ k
  | false => True

theorem newIn_le {S S' : Nat → Prop} {A B : World} {t : Bool} (h : A.heap.size ≤ B.heap.size) (hn : newIn S S' B t) : newIn S S' A t := by
  cases t with
  | false => trivial
  | true => exact fun k hk => (hn k hk).imp id fun h' => Nat.le_trans h h'

/-- WHAT AN ITERATOR PROMISES, in general. J pre S W: S is what the next round may turn: old blocks of R, or blocks that were made since; Rd: what holds ahead of each round. O: the iterator's own blocks. X: what the last round may turn, too. -/
def IterG (P : Program) {α : Type} (g : Nat) (lb : Array Value) (encs : α → Array Value) (xs : List α) (O R X : Nat → Prop) (t : Bool) (Rd : List α → (Nat → Prop) → World → Prop) (w : World) : Prop :=
  ∀ (l : Nat) (J : List α → (Nat → Prop) → World → Prop) (Jx : List α → World → Prop) (S0 : Nat → Prop) (W : World), Keep Nope w W → w.heap.size ≤ l → l < W.heap.size →
    (∀ pre S A, J pre S A → Rd pre S A ∧ ∀ k, S k → (R k ∨ W.heap.size ≤ k) ∧ k < A.heap.size) →
    (∀ pre S A B, J pre S A → Keep O A B → J pre S B) → (∀ pre A B, Jx pre A → Keep O A B → Jx pre B) →
    (∀ pre S x rest A, xs = pre ++ x :: rest → J pre S A → YieldAt Fence.wide 0 P l (encs x) A fun e B =>
      (e = .returned (.bool true) ∧ Keep (fun k => S k ∨ k = l) A B ∧ ∃ S', J (pre ++ [x]) S' B ∧ newIn S S' A t) ∨ (e = .returned (.bool false) ∧ Keep (fun k => (X k ∨ S k) ∨ k = l) A B ∧ Jx (pre ++ [x]) B)) →
    J [] S0 W →
    Calls P g (#[.func (.yield l) #[] #[]] ++ lb) W fun e B => (∃ v, e = .returned v) ∧ ((∃ S, J xs S B) ∨ ∃ pre, pre <+: xs ∧ Jx pre B)

theorem yield_weak {F : Fence} {m : Nat} {l : Nat} {args : Array Value} {W : World} {Q Q' : Ending → World → Prop} (h : YieldAt F m P l args W Q) (hq : ∀ e B, Q e B → Q' e B) : YieldAt F m P l args W Q' := by
  obtain ⟨fn, tmps, assign, body, hy, hr⟩ := h
  exact ⟨fn, tmps, assign, body, hy, hr.mono hq⟩

/-- How a round may be left. -/
def roundEndG {α : Type} (t : Bool) (S X : Nat → Prop) (I : List α → (Nat → Prop) → World → Prop) (Ix : Code → List α → World → Prop) (xs : List α) (W : World) : Exit → Act → World → Prop
  | .normal, _, W' => Keep S W W' ∧ ∃ S', I xs S' W' ∧ newIn S S' W t
  | .ret, _, W' => Keep (fun k => X k ∨ S k) W W' ∧ Ix .ret xs W'
  | .exit id, _, W' => Keep (fun k => X k ∨ S k) W W' ∧ Ix (.exit id) xs W'
  | .goto t, _, W' => Keep (fun k => X k ∨ S k) W W' ∧ Ix (.goto t) xs W'
  | .panic _, _, _ => False
  | .outgrown, _, _ => False

/-- **A LOOP OVER A FUNCTION, outside every other such loop.** -/
theorem wpIn_rangeG {α : Type} {g : Operand} {ps : Array Tmp} {assign body : Code} {Q : Exit → Act → World → Prop} {a : Act} {w : World}
    {gf : Nat} {lb : Array Value} (hg : a.eval g = .func (.func gf) #[] lb) (eg : ∀ args w, (callFunc gf args).run P w = .ok (.enter gf args) w)
    {encs : α → Array Value} {xs : List α} {O R X : Nat → Prop} {t : Bool} {Rd : List α → (Nat → Prop) → World → Prop} (hit : IterG P gf lb encs xs O R X t Rd w) (hO : ∀ k, O k → k < w.heap.size) (hR : ∀ k, R k → k < w.heap.size) (hX : ∀ k, X k → k < w.heap.size) (hps : ∀ x, (encs x).size = ps.size)
    (I : List α → (Nat → Prop) → World → Prop) (Ix : Code → List α → World → Prop) (S0 : Nat → Prop)
    (hS : ∀ pre S A, I pre S A → Rd pre S A ∧ ∀ k, S k → (R k ∨ w.heap.size + 2 ≤ k) ∧ k < A.heap.size)
    (hI : ∀ pre S A B, I pre S A → Keep (fun k => O k ∨ k = w.heap.size ∨ k = w.heap.size + 1) A B → I pre S B)
    (hIx : ∀ c pre A B, Ix c pre A → Keep (fun k => O k ∨ k = w.heap.size ∨ k = w.heap.size + 1) A B → Ix c pre B)
    (h0 : I [] S0 w)
    (hround : ∀ (pre : List α) (S : Nat → Prop) (x : α) (rest : List α) (W : World), xs = pre ++ x :: rest → I pre S W → w.heap.size + 2 ≤ W.heap.size →
      assign.wpIn (Fence.wide.inRound (w.heap.size + 1)) n P (Exit.then (fun a₁ W₁ => Keep S W W₁ ∧
          ∀ W₂, (∀ p, W₂.cell? p = W₁.cell? p) → (∀ p, W₂.frozen? p = W₁.frozen? p) → Keep (fun k => k = w.heap.size + 1) W₁ W₂ → W₂.heap.size = W₁.heap.size → (∃ r, W₂.heap[w.heap.size + 1]? = some (.loop r)) →
            body.wpIn (Fence.wide.inRound (w.heap.size + 1)) n P (roundEndG t S X I Ix (pre ++ [x]) W₂) a₁ W₂) (fun _ _ _ => False))
        { tmps := (ps.zip (encs x)).foldl (fun t (p, v) => t.setIfInBounds p v) a.tmps, defers := [] } W)
    (hdone : ∀ (S : Nat → Prop) (W : World), I xs S W → w.heap.size + 2 ≤ W.heap.size → W.heap[w.heap.size]? = some (.deferred (some [])) → Q .normal { a with defers := { target := .collected w.heap.size, args := #[] } :: a.defers } W)
    (hstop : ∀ (c : Code) (pre : List α) (W : World), pre <+: xs → Ix c pre W → w.heap.size + 2 ≤ W.heap.size → W.heap[w.heap.size]? = some (.deferred (some [])) →
      c.wpIn Fence.wide n P Q { a with defers := { target := .collected w.heap.size, args := #[] } :: a.defers } W) :
    (Code.rangeFunc g ps assign body).wpIn Fence.wide n P Q a w := by
  refine wpIn_rangeFunc ?_
  intro fn hfn
  rw [show Fence.wide.round = none from rfl]
  obtain ⟨rec, hrec⟩ : ∃ rec : LoopState → Option Code → Loop, rec = fun st pe => { state := st, pending := pe, fn, tmps := a.tmps, params := ps, assign, body, defers := w.heap.size } := ⟨_, rfl⟩
  obtain ⟨W1, hW1⟩ : ∃ W1, (w.alloc (.deferred (some []))).alloc (.loop (rec .ready none)) = W1 := ⟨_, rfl⟩
  have hL1 : W1.heap[w.heap.size + 1]? = some (.loop (rec .ready none)) := by
    rw [← hW1]; have := World.alloc_heap_new (w.alloc (.deferred (some []))) (.loop (rec .ready none)); rwa [World.size_alloc] at this
  have hK1 : W1.heap[w.heap.size]? = some (.deferred (some [])) := by
    rw [← hW1]; exact (Below.heap_alloc _ _ _ (by simp)).trans (World.alloc_heap_new w _)
  have hKe : Keep Nope w W1 := by rw [← hW1]; exact ((Keep.refl _ w).alloc _).alloc _
  have hs1 : W1.heap.size = w.heap.size + 2 := by rw [← hW1]; simp
  have hI1 : I [] S0 W1 := hI _ _ _ _ h0 (hKe.mono fun _ _ hf => hf.elim)
  refine ⟨w.heap.size + 1, [{ target := .collected w.heap.size, args := #[] }], W1, { target := .fn (.func gf) lb, args := #[.func (.yield (w.heap.size + 1)) #[] #[]] }, W1, gf,
    #[.func (.yield (w.heap.size + 1)) #[] #[]] ++ lb, W1, ?_, ?_, ?_, ?_, fun hh => (by simp [Fence.wide] at hh), ?_⟩
  · rw [← hW1, hrec]; exact run_enterLoop_outer _ _ _ _ _
  · simp only [resolve, hg]
    simp [go_sem]
  · intro f' _; trivial
  · simp [invoke, go_sem, eg]
  · refine callsIn_wide.2 ((hit (w.heap.size + 1)
      (fun pre S W => I pre S W ∧ W.heap[w.heap.size + 1]? = some (.loop (rec .ready none)) ∧ W.heap[w.heap.size]? = some (.deferred (some [])))
      (fun pre W => ∃ c, Ix c pre W ∧ W.heap[w.heap.size + 1]? = some (.loop (rec .done (some c))) ∧ W.heap[w.heap.size]? = some (.deferred (some [])))
      S0 W1 hKe (by omega) (by omega) ?_ ?_ ?_ ?_ ⟨hI1, hL1, hK1⟩).mono ?_)
    · rintro pre S A ⟨hi, hl, hk⟩
      refine ⟨(hS pre S A hi).1, fun k hs => ?_⟩
      obtain ⟨a1, a2⟩ := (hS pre S A hi).2 k hs
      exact ⟨by rcases a1 with a1 | a1; exact .inl a1; exact .inr (by omega), a2⟩
    · rintro pre S A B ⟨hi, hl, hk⟩ hg'
      exact ⟨hI _ _ _ _ hi (hg'.mono fun _ _ h => .inl h), hg'.at_ hl (fun h => by have := hO _ h; omega), hg'.at_ hk (fun h => by have := hO _ h; omega)⟩
    · rintro pre A B ⟨c, hi, hl, hk⟩ hg'
      exact ⟨c, hIx _ _ _ _ hi (hg'.mono fun _ _ h => .inl h), hg'.at_ hl (fun h => by have := hO _ h; omega), hg'.at_ hk (fun h => by have := hO _ h; omega)⟩
    · rintro pre S x rest W hx ⟨hi, hl, hk⟩
      have hSn : ∀ k, S k → ¬ k = w.heap.size ∧ ¬ k = w.heap.size + 1 := fun k hs => by
        obtain ⟨a1, a2⟩ := (hS pre S W hi).2 k hs
        rcases a1 with a1 | a1
        · have := hR k a1; omega
        · omega
      have hlt : w.heap.size + 1 < W.heap.size := (Array.getElem?_eq_some_iff.1 hl).1
      have hy := run_yield (P := P) (args := encs x) hl (by rw [hrec]; exact hps x)
      rw [hrec] at hy
      refine ⟨fn, _, assign, body, hy, roundIn_of_wpIn hfn ((fun (h : assign.wpIn (Fence.wide.inRound (w.heap.size + 1)) 0 P _ _ W) => h) ?_)⟩
      have hA := hround pre S x rest W hx hi (by omega)
      have room : ∀ k, Fence.wide.room k := room_wide
      refine wpIn_mono (Q := Exit.then (fun a₁ W₁ => Keep S W W₁ ∧ ∀ W₂, (∀ p, W₂.cell? p = W₁.cell? p) → (∀ p, W₂.frozen? p = W₁.frozen? p) → Keep (fun k => k = w.heap.size + 1) W₁ W₂ → W₂.heap.size = W₁.heap.size → (∃ r, W₂.heap[w.heap.size + 1]? = some (.loop r)) →
            body.wpIn (Fence.wide.inRound (w.heap.size + 1)) n P (roundEndG t S X I Ix (pre ++ [x]) W₂) a₁ W₂) (fun _ _ _ => False)) (fun b k cs hro hb hr => hA b k cs hro hb (room_wide _)) ?_
      rintro e a₁ Wa hp
      cases e with
      | normal =>
        obtain ⟨hKa, hbody⟩ := hp
        have hla := hKa.at_ hl (fun h => by have := hSn _ h; omega)
        have hka := hKa.at_ hk (fun h => by have := hSn _ h; omega)
        refine ⟨_, run_beginRound hla (by rw [hrec]), ?_⟩
        obtain ⟨W2, hW2⟩ : ∃ W2, Wa.putObj (w.heap.size + 1) (.loop { rec .ready none with state := .busy }) = W2 := ⟨_, rfl⟩
        rw [hW2]
        have hlta : w.heap.size + 1 < Wa.heap.size := (Array.getElem?_eq_some_iff.1 hla).1
        have hl2 : W2.heap[w.heap.size + 1]? = some (.loop { rec .ready none with state := .busy }) := by rw [← hW2]; exact World.putObj_heap_same hlta
        have hk2 : W2.heap[w.heap.size]? = some (.deferred (some [])) := by rw [← hW2]; exact (World.putObj_heap_other (by omega)).trans hka
        have hKp : Keep (fun k => k = w.heap.size + 1) Wa W2 := by rw [← hW2]; exact (Keep.refl (fun k => k = w.heap.size + 1) Wa).putObj (fun _ => rfl) _
        have hs2 : W2.heap.size = Wa.heap.size := by rw [← hW2]; simp
        have hb2 := hbody W2 (fun p => by rw [← hW2]; exact cell_putObj hla rfl rfl p) (fun p => by rw [← hW2]; exact frozen_putObj hla rfl rfl p) hKp hs2 ⟨_, hl2⟩
        have hb3 : body.wpIn (Fence.wide.inRound (w.heap.size + 1)) 0 P (roundEndG t S X I Ix (pre ++ [x]) W2) a₁ W2 := fun b k cs hro hb hr => hb2 b k cs hro hb (room_wide _)
        refine wpIn_mono hb3 ?_
        have fin : ∀ (T : Nat → Prop) (hT : ∀ k, T k → ¬ k = w.heap.size ∧ ¬ k = w.heap.size + 1) (hRS : ∀ k, S k → T k) (jump : Option Code) (W3 : World), Keep T W2 W3 →
            (Instr.endRound (w.heap.size + 1) jump).run P W3 = .ok (.bool jump.isNone) (W3.putObj (w.heap.size + 1) (.loop (rec (if jump.isNone then .ready else .done) jump))) ∧
            (W3.putObj (w.heap.size + 1) (.loop (rec (if jump.isNone then .ready else .done) jump))).heap[w.heap.size + 1]? = some (.loop (rec (if jump.isNone then .ready else .done) jump)) ∧
            (W3.putObj (w.heap.size + 1) (.loop (rec (if jump.isNone then .ready else .done) jump))).heap[w.heap.size]? = some (.deferred (some [])) ∧
            Keep (fun k => O k ∨ k = w.heap.size ∨ k = w.heap.size + 1) W3 (W3.putObj (w.heap.size + 1) (.loop (rec (if jump.isNone then .ready else .done) jump))) ∧
            Keep (fun k => T k ∨ k = w.heap.size + 1) W (W3.putObj (w.heap.size + 1) (.loop (rec (if jump.isNone then .ready else .done) jump))) := fun T hT hRS jump W3 hk3 => by
          have hl3 := hk3.at_ hl2 (fun h => by have := hT _ h; omega)
          have hd3 := hk3.at_ hk2 (fun h => by have := hT _ h; omega)
          have := run_endRound (P := P) jump hl3
          rw [hrec] at this ⊢
          refine ⟨this, World.putObj_heap_same (Array.getElem?_eq_some_iff.1 hl3).1, (World.putObj_heap_other (by omega)).trans hd3, (Keep.refl _ W3).putObj (fun _ => .inr (.inr rfl)) _, ?_⟩
          refine Keep.putObj ?_ (fun _ => .inr rfl) _
          exact ((hKa.mono fun _ _ h => .inl (hRS _ h)).trans hKp (fun i _ h => .inr h)).trans hk3 (fun i _ h => .inl h)
        rintro e a3 W3 hp
        cases e with
        | normal =>
          obtain ⟨hk3, S', hi3, hss⟩ := hp
          obtain ⟨hr, hl4, hk4, hkO, hkR⟩ := fin S hSn (fun _ h => h) none W3 hk3
          exact ⟨_, _, hr, .inl ⟨rfl, hkR, S', ⟨hI _ _ _ _ hi3 hkO, hl4, hk4⟩, newIn_le (by have := hKa.size; omega) hss⟩⟩
        | ret =>
          obtain ⟨hk3, hi3⟩ := hp
          obtain ⟨hr, hl4, hk4, hkO, hkR⟩ := fin (fun k => X k ∨ S k) (fun k h => by rcases h with h | h; have := hX k h; omega; exact hSn k h) (fun _ h => .inr h) (some .ret) W3 hk3
          exact ⟨_, _, hr, .inr ⟨rfl, hkR, .ret, hIx _ _ _ _ hi3 hkO, hl4, hk4⟩⟩
        | exit id =>
          obtain ⟨hk3, hi3⟩ := hp
          obtain ⟨hr, hl4, hk4, hkO, hkR⟩ := fin (fun k => X k ∨ S k) (fun k h => by rcases h with h | h; have := hX k h; omega; exact hSn k h) (fun _ h => .inr h) (some (.exit id)) W3 hk3
          exact ⟨_, _, hr, .inr ⟨rfl, hkR, .exit id, hIx _ _ _ _ hi3 hkO, hl4, hk4⟩⟩
        | goto t =>
          obtain ⟨hk3, hi3⟩ := hp
          obtain ⟨hr, hl4, hk4, hkO, hkR⟩ := fin (fun k => X k ∨ S k) (fun k h => by rcases h with h | h; have := hX k h; omega; exact hSn k h) (fun _ h => .inr h) (some (.goto t)) W3 hk3
          exact ⟨_, _, hr, .inr ⟨rfl, hkR, .goto t, hIx _ _ _ _ hi3 hkO, hl4, hk4⟩⟩
        | panic ch => exact hp.elim
        | outgrown => exact hp.elim
      | exit id => exact hp.elim
      | goto t => exact hp.elim
      | ret => exact hp.elim
      | panic ch => exact hp.elim
      | outgrown => exact hp.elim
    · rintro e W2 ⟨⟨v, rfl⟩, (⟨S, hi, hl, hk⟩ | ⟨pre, hp, c, hi, hl, hk⟩)⟩
      · refine ⟨none, _, by have := run_endLoop (P := P) hl (by rw [hrec]; simp); rw [hrec] at this; exact this, hdone S _ (hI _ _ _ _ hi ((Keep.refl _ W2).putObj (fun _ => .inr (.inr rfl)) _)) ?_ ((World.putObj_heap_other (by omega)).trans hk)⟩
        have := (Array.getElem?_eq_some_iff.1 hl).1; simp; omega
      · refine ⟨some c, _, by have := run_endLoop (P := P) hl (by rw [hrec]; simp); rw [hrec] at this; exact this, hstop c pre _ hp (hIx _ _ _ _ hi ((Keep.refl _ W2).putObj (fun _ => .inr (.inr rfl)) _)) ?_ ((World.putObj_heap_other (by omega)).trans hk)⟩
        have := (Array.getElem?_eq_some_iff.1 hl).1; simp; omega

/-- WHAT AN ITERATOR PROMISES. J pre S W: S is what the next round may turn: old blocks of R, or blocks that were made since; what it may turn later is of S, or made in that round. -/
def IterAt4 (P : Program) {α : Type} (g : Nat) (lb : Array Value) (encs : α → Array Value) (xs : List α) (O R : Nat → Prop) (w : World) : Prop :=
  ∀ (l : Nat) (J : List α → (Nat → Prop) → World → Prop) (Jx : List α → World → Prop) (S0 : Nat → Prop) (W : World), Keep Nope w W → w.heap.size ≤ l → l < W.heap.size →
    (∀ pre S A, J pre S A → ∀ k, S k → (R k ∨ W.heap.size ≤ k) ∧ k < A.heap.size) →
    (∀ pre S A B, J pre S A → Keep O A B → J pre S B) → (∀ pre A B, Jx pre A → Keep O A B → Jx pre B) →
    (∀ pre S x rest A, xs = pre ++ x :: rest → J pre S A → YieldAt Fence.wide 0 P l (encs x) A fun e B =>
      (e = .returned (.bool true) ∧ Keep (fun k => S k ∨ k = l) A B ∧ ∃ S', J (pre ++ [x]) S' B ∧ ∀ k, S' k → S k ∨ A.heap.size ≤ k) ∨ (e = .returned (.bool false) ∧ Jx (pre ++ [x]) B)) →
    J [] S0 W →
    Calls P g (#[.func (.yield l) #[] #[]] ++ lb) W fun e B => (∃ v, e = .returned v) ∧ ((∃ S, J xs S B) ∨ ∃ pre, pre <+: xs ∧ Jx pre B)

theorem IterAt4.g {α : Type} {g : Nat} {lb : Array Value} {encs : α → Array Value} {xs : List α} {O R X : Nat → Prop} {w : World} (h : IterAt4 P g lb encs xs O R w) : IterG P g lb encs xs O R X true (fun _ _ _ => True) w :=
  fun l J Jx S0 W h1 h2 h3 hS hJ hJx hY h0 => h l J Jx S0 W h1 h2 h3 (fun pre S A hj => (hS pre S A hj).2) hJ hJx (fun pre S x rest A hx hj => yield_weak (hY pre S x rest A hx hj) fun e B => Or.imp id fun k => ⟨k.1, k.2.2⟩) h0

/-- How a round may be left. -/
abbrev roundEnd4 {α : Type} (S X : Nat → Prop) (I : List α → (Nat → Prop) → World → Prop) (Ix : Code → List α → World → Prop) (xs : List α) (W : World) : Exit → Act → World → Prop := roundEndG true S X I Ix xs W

theorem roundEnd4_out {α : Type} {S X : Nat → Prop} {I : List α → (Nat → Prop) → World → Prop} {Ix : Code → List α → World → Prop} {xs : List α} {W : World} (a : Act) (w : World) : ¬ roundEnd4 S X I Ix xs W .outgrown a w := fun h => h

/-- **A LOOP OVER A FUNCTION, outside every other such loop.** -/
theorem wpIn_range4 {α : Type} {g : Operand} {ps : Array Tmp} {assign body : Code} {Q : Exit → Act → World → Prop} {a : Act} {w : World}
    {gf : Nat} {lb : Array Value} (hg : a.eval g = .func (.func gf) #[] lb) (eg : ∀ args w, (callFunc gf args).run P w = .ok (.enter gf args) w)
    {encs : α → Array Value} {xs : List α} {O R X : Nat → Prop} (hit : IterAt4 P gf lb encs xs O R w) (hO : ∀ k, O k → k < w.heap.size) (hR : ∀ k, R k → k < w.heap.size) (hX : ∀ k, X k → k < w.heap.size) (hps : ∀ x, (encs x).size = ps.size)
    (I : List α → (Nat → Prop) → World → Prop) (Ix : Code → List α → World → Prop) (S0 : Nat → Prop)
    (hS : ∀ pre S A, I pre S A → ∀ k, S k → (R k ∨ w.heap.size + 2 ≤ k) ∧ k < A.heap.size)
    (hI : ∀ pre S A B, I pre S A → Keep (fun k => O k ∨ k = w.heap.size ∨ k = w.heap.size + 1) A B → I pre S B)
    (hIx : ∀ c pre A B, Ix c pre A → Keep (fun k => O k ∨ k = w.heap.size ∨ k = w.heap.size + 1) A B → Ix c pre B)
    (h0 : I [] S0 w)
    (hround : ∀ (pre : List α) (S : Nat → Prop) (x : α) (rest : List α) (W : World), xs = pre ++ x :: rest → I pre S W → w.heap.size + 2 ≤ W.heap.size →
      assign.wpIn (Fence.wide.inRound (w.heap.size + 1)) n P (Exit.then (fun a₁ W₁ => Keep S W W₁ ∧
          ∀ W₂, (∀ p, W₂.cell? p = W₁.cell? p) → (∀ p, W₂.frozen? p = W₁.frozen? p) → Keep (fun k => k = w.heap.size + 1) W₁ W₂ → W₂.heap.size = W₁.heap.size → (∃ r, W₂.heap[w.heap.size + 1]? = some (.loop r)) →
            body.wpIn (Fence.wide.inRound (w.heap.size + 1)) n P (roundEnd4 S X I Ix (pre ++ [x]) W₂) a₁ W₂) (fun _ _ _ => False))
        { tmps := (ps.zip (encs x)).foldl (fun t (p, v) => t.setIfInBounds p v) a.tmps, defers := [] } W)
    (hdone : ∀ (S : Nat → Prop) (W : World), I xs S W → w.heap.size + 2 ≤ W.heap.size → W.heap[w.heap.size]? = some (.deferred (some [])) → Q .normal { a with defers := { target := .collected w.heap.size, args := #[] } :: a.defers } W)
    (hstop : ∀ (c : Code) (pre : List α) (W : World), pre <+: xs → Ix c pre W → w.heap.size + 2 ≤ W.heap.size → W.heap[w.heap.size]? = some (.deferred (some [])) →
      c.wpIn Fence.wide n P Q { a with defers := { target := .collected w.heap.size, args := #[] } :: a.defers } W) :
    (Code.rangeFunc g ps assign body).wpIn Fence.wide n P Q a w :=
  wpIn_rangeG hg eg (t := true) (Rd := fun _ _ _ => True) hit.g hO hR hX hps I Ix S0 (fun pre S A h => ⟨trivial, hS pre S A h⟩) hI hIx h0 hround hdone hstop

/-- WHAT AN ITERATOR PROMISES, called in a world that has grown out of w by new blocks alone: it hands all of xs to yield, one behind the other, as long as a round says that it goes on. O: its own blocks. R: the old blocks that a round may turn that goes on; X: those that the last round may turn. -/
def IterAt2 (P : Program) {α : Type} (g : Nat) (lb : Array Value) (encs : α → Array Value) (xs : List α) (O R X : Nat → Prop) (w : World) : Prop :=
  ∀ (l : Nat) (J Jx : List α → World → Prop) (W : World), Keep Nope w W → w.heap.size ≤ l → l < W.heap.size →
    (∀ pre A B, J pre A → Keep O A B → J pre B) → (∀ pre A B, Jx pre A → Keep O A B → Jx pre B) →
    (∀ pre x rest A, xs = pre ++ x :: rest → J pre A → YieldAt Fence.wide 0 P l (encs x) A fun e B =>
      (e = .returned (.bool true) ∧ Keep (fun k => R k ∨ k = l) A B ∧ J (pre ++ [x]) B) ∨ (e = .returned (.bool false) ∧ Keep (fun k => X k ∨ k = l) A B ∧ Jx (pre ++ [x]) B)) →
    J [] W →
    Calls P g (#[.func (.yield l) #[] #[]] ++ lb) W fun e B => (∃ v, e = .returned v) ∧ (J xs B ∨ ∃ pre, pre <+: xs ∧ Jx pre B)

theorem IterAt2.g {α : Type} {g : Nat} {lb : Array Value} {encs : α → Array Value} {xs : List α} {O R X : Nat → Prop} {w : World} (h : IterAt2 P g lb encs xs O R X w) (hRX : ∀ k, R k → X k) : IterG P g lb encs xs O R X false (fun _ S _ => S = R) w :=
  fun l J Jx S0 W h1 h2 h3 hS hJ hJx hY h0 => by
    have e0 := (hS _ _ _ h0).1
    subst e0
    refine (h l (fun pre A => J pre S0 A) Jx W h1 h2 h3 (fun pre A B => hJ pre S0 A B) hJx (fun pre x rest A hx hj => yield_weak (hY pre S0 x rest A hx hj) ?_) h0).mono fun e B k => ⟨k.1, k.2.imp (fun q => ⟨_, q⟩) id⟩
    rintro e B (⟨k1, k2, S', k3, _⟩ | ⟨k1, k2, k3⟩)
    · have := (hS _ _ _ k3).1
      subst this
      exact .inl ⟨k1, k2, k3⟩
    · exact .inr ⟨k1, k2.mono fun i _ hi => hi.imp (fun q => q.elim (fun q => q) (hRX i)) id, k3⟩

/-- How a round may be left. -/
def roundEnd2 {α : Type} (R X : Nat → Prop) (I : List α → World → Prop) (Ix : Code → List α → World → Prop) (xs : List α) (W : World) : Exit → Act → World → Prop
  | .normal, _, W' => Keep R W W' ∧ I xs W'
  | .ret, _, W' => Keep X W W' ∧ Ix .ret xs W'
  | .exit id, _, W' => Keep X W W' ∧ Ix (.exit id) xs W'
  | .goto t, _, W' => Keep X W W' ∧ Ix (.goto t) xs W'
  | .panic _, _, _ => False
  | .outgrown, _, _ => False

theorem roundEnd2_out {α : Type} {R X : Nat → Prop} {I : List α → World → Prop} {Ix : Code → List α → World → Prop} {xs : List α} {W : World} (a : Act) (w : World) : ¬ roundEnd2 R X I Ix xs W .outgrown a w := fun h => h

theorem roundEnd2.g {α : Type} {R X : Nat → Prop} {I : List α → World → Prop} {Ix : Code → List α → World → Prop} {xs : List α} {W : World} (n : Nat) (hn : n ≤ W.heap.size) : ∀ e a W', roundEnd2 R X I Ix xs W e a W' → roundEndG false R X (fun pre S A => S = R ∧ n ≤ A.heap.size ∧ I pre A) Ix xs W e a W'
  | .normal, _, _, h => ⟨h.1, R, ⟨rfl, Nat.le_trans hn h.1.size, h.2⟩, trivial⟩
  | .ret, _, _, h => ⟨h.1.mono fun _ _ => .inl, h.2⟩
  | .exit _, _, _, h => ⟨h.1.mono fun _ _ => .inl, h.2⟩
  | .goto _, _, _, h => ⟨h.1.mono fun _ _ => .inl, h.2⟩
  | .panic _, _, _, h => h
  | .outgrown, _, _, h => h

/-- **A LOOP OVER A FUNCTION, outside every other such loop.** -/
theorem wpIn_range2 {α : Type} {g : Operand} {ps : Array Tmp} {assign body : Code} {Q : Exit → Act → World → Prop} {a : Act} {w : World}
    {gf : Nat} {lb : Array Value} (hg : a.eval g = .func (.func gf) #[] lb) (eg : ∀ args w, (callFunc gf args).run P w = .ok (.enter gf args) w)
    {encs : α → Array Value} {xs : List α} {O R X : Nat → Prop} (hit : IterAt2 P gf lb encs xs O R X w) (hO : ∀ k, O k → k < w.heap.size) (hR : ∀ k, R k → k < w.heap.size) (hX : ∀ k, X k → k < w.heap.size) (hRX : ∀ k, R k → X k) (hps : ∀ x, (encs x).size = ps.size)
    (I : List α → World → Prop) (Ix : Code → List α → World → Prop)
    (hI : ∀ pre A B, I pre A → Keep (fun k => O k ∨ k = w.heap.size ∨ k = w.heap.size + 1) A B → I pre B)
    (hIx : ∀ c pre A B, Ix c pre A → Keep (fun k => O k ∨ k = w.heap.size ∨ k = w.heap.size + 1) A B → Ix c pre B)
    (h0 : I [] w)
    (hround : ∀ (pre : List α) (x : α) (rest : List α) (W : World), xs = pre ++ x :: rest → I pre W → w.heap.size + 2 ≤ W.heap.size →
      assign.wpIn (Fence.wide.inRound (w.heap.size + 1)) n P (Exit.then (fun a₁ W₁ => Keep R W W₁ ∧
          ∀ W₂, (∀ p, W₂.cell? p = W₁.cell? p) → (∀ p, W₂.frozen? p = W₁.frozen? p) → Keep (fun k => k = w.heap.size + 1) W₁ W₂ → W₂.heap.size = W₁.heap.size → (∃ r, W₂.heap[w.heap.size + 1]? = some (.loop r)) →
            body.wpIn (Fence.wide.inRound (w.heap.size + 1)) n P (roundEnd2 R X I Ix (pre ++ [x]) W₂) a₁ W₂) (fun _ _ _ => False))
        { tmps := (ps.zip (encs x)).foldl (fun t (p, v) => t.setIfInBounds p v) a.tmps, defers := [] } W)
    (hdone : ∀ (W : World), I xs W → w.heap.size + 2 ≤ W.heap.size → W.heap[w.heap.size]? = some (.deferred (some [])) → Q .normal { a with defers := { target := .collected w.heap.size, args := #[] } :: a.defers } W)
    (hstop : ∀ (c : Code) (pre : List α) (W : World), pre <+: xs → Ix c pre W → w.heap.size + 2 ≤ W.heap.size → W.heap[w.heap.size]? = some (.deferred (some [])) →
      c.wpIn Fence.wide n P Q { a with defers := { target := .collected w.heap.size, args := #[] } :: a.defers } W) :
    (Code.rangeFunc g ps assign body).wpIn Fence.wide n P Q a w :=
  wpIn_rangeG hg eg (t := false) (Rd := fun _ S _ => S = R) (hit.g hRX) hO hR hX hps (fun pre S A => S = R ∧ w.heap.size ≤ A.heap.size ∧ I pre A) Ix R
    (fun pre S A h => ⟨h.1, fun k hk => by have := hR k (h.1 ▸ hk); have := h.2.1; exact ⟨.inl (h.1 ▸ hk), by omega⟩⟩)
    (fun pre S A B h hk => ⟨h.1, Nat.le_trans h.2.1 hk.size, hI _ _ _ h.2.2 hk⟩) hIx ⟨rfl, Nat.le_refl _, h0⟩
    (fun pre S x rest W hx hi hs => by
      obtain ⟨rfl, hw, hi⟩ := hi
      exact wpIn_mono (hround pre x rest W hx hi hs) (by
        rintro (_ | _ | _ | _ | _ | _) a₁ W₁ h <;> first
          | exact h
          | exact ⟨h.1, fun W₂ c1 c2 c3 c4 c5 => wpIn_mono (h.2 W₂ c1 c2 c3 c4 c5) (roundEnd2.g _ (by have := h.1.size; omega))⟩))
    (fun S W h => hdone W h.2.2) hstop

/-- WHAT AN ITERATOR PROMISES, called in a world that has grown out of w by new blocks alone: it hands all of xs to yield, one behind the other, as long as a round says that it goes on. O: its own blocks. R: the old blocks that a round may turn. -/
def IterAt (P : Program) {α : Type} (g : Nat) (lb : Array Value) (encs : α → Array Value) (xs : List α) (O R : Nat → Prop) (w : World) : Prop :=
  ∀ (l : Nat) (J Jx : List α → World → Prop) (W : World), Keep Nope w W → w.heap.size ≤ l → l < W.heap.size →
    (∀ pre A B, J pre A → Keep O A B → J pre B) → (∀ pre A B, Jx pre A → Keep O A B → Jx pre B) →
    (∀ pre x rest A, xs = pre ++ x :: rest → J pre A → YieldAt Fence.wide 0 P l (encs x) A fun e B =>
      Keep (fun k => R k ∨ k = l) A B ∧ ((e = .returned (.bool true) ∧ J (pre ++ [x]) B) ∨ (e = .returned (.bool false) ∧ Jx (pre ++ [x]) B))) →
    J [] W →
    Calls P g (#[.func (.yield l) #[] #[]] ++ lb) W fun e B => (∃ v, e = .returned v) ∧ (J xs B ∨ ∃ pre, pre <+: xs ∧ Jx pre B)

theorem IterAt.two {α : Type} {g : Nat} {lb : Array Value} {encs : α → Array Value} {xs : List α} {O R : Nat → Prop} {w : World} (h : IterAt P g lb encs xs O R w) : IterAt2 P g lb encs xs O R R w :=
  fun l J Jx W h1 h2 h3 hJ hJx hY h0 => h l J Jx W h1 h2 h3 hJ hJx (fun pre x rest A hx hj => yield_weak (hY pre x rest A hx hj) fun e B k => k.elim (fun q => ⟨q.2.1, .inl ⟨q.1, q.2.2⟩⟩) fun q => ⟨q.2.1, .inr ⟨q.1, q.2.2⟩⟩) h0

/-- How a round may be left. -/
def roundEnd {α : Type} (R : Nat → Prop) (I : List α → World → Prop) (Ix : Code → List α → World → Prop) (xs : List α) (W : World) : Exit → Act → World → Prop
  | .normal, _, W' => Keep R W W' ∧ I xs W'
  | .ret, _, W' => Keep R W W' ∧ Ix .ret xs W'
  | .exit id, _, W' => Keep R W W' ∧ Ix (.exit id) xs W'
  | .goto t, _, W' => Keep R W W' ∧ Ix (.goto t) xs W'
  | .panic _, _, _ => False
  | .outgrown, _, _ => False

theorem roundEnd_out {α : Type} {R : Nat → Prop} {I : List α → World → Prop} {Ix : Code → List α → World → Prop} {xs : List α} {W : World} (a : Act) (w : World) : ¬ roundEnd R I Ix xs W .outgrown a w := fun h => h

/-- **A LOOP OVER A FUNCTION, outside every other such loop.** -/
theorem wpIn_range {α : Type} {g : Operand} {ps : Array Tmp} {assign body : Code} {Q : Exit → Act → World → Prop} {a : Act} {w : World}
    {gf : Nat} {lb : Array Value} (hg : a.eval g = .func (.func gf) #[] lb) (eg : ∀ args w, (callFunc gf args).run P w = .ok (.enter gf args) w)
    {encs : α → Array Value} {xs : List α} {O R : Nat → Prop} (hit : IterAt P gf lb encs xs O R w) (hO : ∀ k, O k → k < w.heap.size) (hR : ∀ k, R k → k < w.heap.size) (hps : ∀ x, (encs x).size = ps.size)
    (I : List α → World → Prop) (Ix : Code → List α → World → Prop)
    (hI : ∀ pre A B, I pre A → Keep (fun k => O k ∨ k = w.heap.size ∨ k = w.heap.size + 1) A B → I pre B)
    (hIx : ∀ c pre A B, Ix c pre A → Keep (fun k => O k ∨ k = w.heap.size ∨ k = w.heap.size + 1) A B → Ix c pre B)
    (h0 : I [] w)
    (hround : ∀ (pre : List α) (x : α) (rest : List α) (W : World), xs = pre ++ x :: rest → I pre W → w.heap.size + 2 ≤ W.heap.size →
      assign.wpIn (Fence.wide.inRound (w.heap.size + 1)) n P (Exit.then (fun a₁ W₁ => Keep R W W₁ ∧
          ∀ W₂, (∀ p, W₂.cell? p = W₁.cell? p) → (∀ p, W₂.frozen? p = W₁.frozen? p) → Keep (fun k => k = w.heap.size + 1) W₁ W₂ → W₂.heap.size = W₁.heap.size → (∃ r, W₂.heap[w.heap.size + 1]? = some (.loop r)) →
            body.wpIn (Fence.wide.inRound (w.heap.size + 1)) n P (roundEnd R I Ix (pre ++ [x]) W₂) a₁ W₂) (fun _ _ _ => False))
        { tmps := (ps.zip (encs x)).foldl (fun t (p, v) => t.setIfInBounds p v) a.tmps, defers := [] } W)
    (hdone : ∀ (W : World), I xs W → w.heap.size + 2 ≤ W.heap.size → W.heap[w.heap.size]? = some (.deferred (some [])) → Q .normal { a with defers := { target := .collected w.heap.size, args := #[] } :: a.defers } W)
    (hstop : ∀ (c : Code) (pre : List α) (W : World), pre <+: xs → Ix c pre W → w.heap.size + 2 ≤ W.heap.size → W.heap[w.heap.size]? = some (.deferred (some [])) →
      c.wpIn Fence.wide n P Q { a with defers := { target := .collected w.heap.size, args := #[] } :: a.defers } W) :
    (Code.rangeFunc g ps assign body).wpIn Fence.wide n P Q a w :=
  wpIn_range2 (X := R) hg eg hit.two hO hR hR (fun _ h => h) hps I Ix hI hIx h0
    (fun pre x rest W hx hi hs => wpIn_mono (hround pre x rest W hx hi hs) (by
      rintro (_ | _ | _ | _ | _ | _) a₁ W₁ h <;> first
        | exact h
        | exact ⟨h.1, fun W₂ c1 c2 c3 c4 c5 => wpIn_mono (h.2 W₂ c1 c2 c3 c4 c5) (by rintro (_ | _ | _ | _ | _ | _) _ _ h <;> exact h)⟩)) hdone hstop

/-- WHAT AN ITERATOR PROMISES. J pre S W: S is what the next round may turn: old blocks of R, or blocks that were made since. -/
def IterAt3 (P : Program) {α : Type} (g : Nat) (lb : Array Value) (encs : α → Array Value) (xs : List α) (O R : Nat → Prop) (w : World) : Prop :=
  ∀ (l : Nat) (J : List α → (Nat → Prop) → World → Prop) (Jx : List α → World → Prop) (S0 : Nat → Prop) (W : World), Keep Nope w W → w.heap.size ≤ l → l < W.heap.size →
    (∀ pre S A, J pre S A → ∀ k, S k → (R k ∨ W.heap.size ≤ k) ∧ k < A.heap.size) →
    (∀ pre S A B, J pre S A → Keep O A B → J pre S B) → (∀ pre A B, Jx pre A → Keep O A B → Jx pre B) →
    (∀ pre S x rest A, xs = pre ++ x :: rest → J pre S A → YieldAt Fence.wide 0 P l (encs x) A fun e B =>
      (e = .returned (.bool true) ∧ Keep (fun k => S k ∨ k = l) A B ∧ ∃ S', J (pre ++ [x]) S' B) ∨ (e = .returned (.bool false) ∧ Jx (pre ++ [x]) B)) →
    J [] S0 W →
    Calls P g (#[.func (.yield l) #[] #[]] ++ lb) W fun e B => (∃ v, e = .returned v) ∧ ((∃ S, J xs S B) ∨ ∃ pre, pre <+: xs ∧ Jx pre B)

/-- The plainer promise follows. -/
theorem IterAt3.two {α : Type} {g : Nat} {lb : Array Value} {encs : α → Array Value} {xs : List α} {O R X : Nat → Prop} {w : World} (h : IterAt3 P g lb encs xs O R w) (hR : ∀ k, R k → k < w.heap.size) : IterAt2 P g lb encs xs O R X w := by
  intro l J Jx W hW hl1 hl2 hJ hJx hY h0
  have hsz := hW.size
  refine (h l (fun pre S A => S = R ∧ w.heap.size ≤ A.heap.size ∧ J pre A) Jx R W hW hl1 hl2 ?_ ?_ hJx ?_ ⟨rfl, hsz, h0⟩).mono ?_
  · rintro pre S A ⟨rfl, h1, h2⟩ k hk
    have := hR k hk
    exact ⟨.inl hk, by omega⟩
  · rintro pre S A B ⟨rfl, h1, h2⟩ hk
    exact ⟨rfl, Nat.le_trans h1 hk.size, hJ _ _ _ h2 hk⟩
  · rintro pre S x rest A hx ⟨rfl, h1, h2⟩
    obtain ⟨fn, tmps, assign, body, hy, hr⟩ := hY pre x rest A hx h2
    refine ⟨fn, tmps, assign, body, hy, hr.mono ?_⟩
    rintro e B (⟨rfl, k1, k2⟩ | ⟨rfl, k1, k2⟩)
    · exact .inl ⟨rfl, k1, _, rfl, Nat.le_trans h1 k1.size, k2⟩
    · exact .inr ⟨rfl, k2⟩
  · rintro e B ⟨hv, ⟨S, hS⟩ | hp⟩
    · exact ⟨hv, .inl hS.2.2⟩
    · exact ⟨hv, .inr hp⟩

theorem IterAt3.g {α : Type} {g : Nat} {lb : Array Value} {encs : α → Array Value} {xs : List α} {O R X : Nat → Prop} {w : World} (h : IterAt3 P g lb encs xs O R w) : IterG P g lb encs xs O R X false (fun _ _ _ => True) w :=
  fun l J Jx S0 W h1 h2 h3 hS hJ hJx hY h0 => h l J Jx S0 W h1 h2 h3 (fun pre S A hj => (hS pre S A hj).2) hJ hJx (fun pre S x rest A hx hj => yield_weak (hY pre S x rest A hx hj) fun e B => Or.imp (fun k => ⟨k.1, k.2.1, k.2.2.imp fun _ q => q.1⟩) fun k => ⟨k.1, k.2.2⟩) h0

/-- How a round may be left. -/
def roundEnd3 {α : Type} (S X : Nat → Prop) (I : List α → (Nat → Prop) → World → Prop) (Ix : Code → List α → World → Prop) (xs : List α) (W : World) : Exit → Act → World → Prop
  | .normal, _, W' => Keep S W W' ∧ ∃ S', I xs S' W'
  | .ret, _, W' => Keep (fun k => X k ∨ S k) W W' ∧ Ix .ret xs W'
  | .exit id, _, W' => Keep (fun k => X k ∨ S k) W W' ∧ Ix (.exit id) xs W'
  | .goto t, _, W' => Keep (fun k => X k ∨ S k) W W' ∧ Ix (.goto t) xs W'
  | .panic _, _, _ => False
  | .outgrown, _, _ => False

theorem roundEnd3_out {α : Type} {S X : Nat → Prop} {I : List α → (Nat → Prop) → World → Prop} {Ix : Code → List α → World → Prop} {xs : List α} {W : World} (a : Act) (w : World) : ¬ roundEnd3 S X I Ix xs W .outgrown a w := fun h => h

theorem roundEnd3.g {α : Type} {S X : Nat → Prop} {I : List α → (Nat → Prop) → World → Prop} {Ix : Code → List α → World → Prop} {xs : List α} {W : World} : ∀ e a W', roundEnd3 S X I Ix xs W e a W' → roundEndG false S X I Ix xs W e a W'
  | .normal, _, _, h => ⟨h.1, h.2.imp fun _ q => ⟨q, trivial⟩⟩
  | .ret, _, _, h => h
  | .exit _, _, _, h => h
  | .goto _, _, _, h => h
  | .panic _, _, _, h => h
  | .outgrown, _, _, h => h

/-- **A LOOP OVER A FUNCTION, outside every other such loop.** -/
theorem wpIn_range3 {α : Type} {g : Operand} {ps : Array Tmp} {assign body : Code} {Q : Exit → Act → World → Prop} {a : Act} {w : World}
    {gf : Nat} {lb : Array Value} (hg : a.eval g = .func (.func gf) #[] lb) (eg : ∀ args w, (callFunc gf args).run P w = .ok (.enter gf args) w)
    {encs : α → Array Value} {xs : List α} {O R X : Nat → Prop} (hit : IterAt3 P gf lb encs xs O R w) (hO : ∀ k, O k → k < w.heap.size) (hR : ∀ k, R k → k < w.heap.size) (hX : ∀ k, X k → k < w.heap.size) (hps : ∀ x, (encs x).size = ps.size)
    (I : List α → (Nat → Prop) → World → Prop) (Ix : Code → List α → World → Prop) (S0 : Nat → Prop)
    (hS : ∀ pre S A, I pre S A → ∀ k, S k → (R k ∨ w.heap.size + 2 ≤ k) ∧ k < A.heap.size)
    (hI : ∀ pre S A B, I pre S A → Keep (fun k => O k ∨ k = w.heap.size ∨ k = w.heap.size + 1) A B → I pre S B)
    (hIx : ∀ c pre A B, Ix c pre A → Keep (fun k => O k ∨ k = w.heap.size ∨ k = w.heap.size + 1) A B → Ix c pre B)
    (h0 : I [] S0 w)
    (hround : ∀ (pre : List α) (S : Nat → Prop) (x : α) (rest : List α) (W : World), xs = pre ++ x :: rest → I pre S W → w.heap.size + 2 ≤ W.heap.size →
      assign.wpIn (Fence.wide.inRound (w.heap.size + 1)) n P (Exit.then (fun a₁ W₁ => Keep S W W₁ ∧
          ∀ W₂, (∀ p, W₂.cell? p = W₁.cell? p) → (∀ p, W₂.frozen? p = W₁.frozen? p) → Keep (fun k => k = w.heap.size + 1) W₁ W₂ → W₂.heap.size = W₁.heap.size → (∃ r, W₂.heap[w.heap.size + 1]? = some (.loop r)) →
            body.wpIn (Fence.wide.inRound (w.heap.size + 1)) n P (roundEnd3 S X I Ix (pre ++ [x]) W₂) a₁ W₂) (fun _ _ _ => False))
        { tmps := (ps.zip (encs x)).foldl (fun t (p, v) => t.setIfInBounds p v) a.tmps, defers := [] } W)
    (hdone : ∀ (S : Nat → Prop) (W : World), I xs S W → w.heap.size + 2 ≤ W.heap.size → W.heap[w.heap.size]? = some (.deferred (some [])) → Q .normal { a with defers := { target := .collected w.heap.size, args := #[] } :: a.defers } W)
    (hstop : ∀ (c : Code) (pre : List α) (W : World), pre <+: xs → Ix c pre W → w.heap.size + 2 ≤ W.heap.size → W.heap[w.heap.size]? = some (.deferred (some [])) →
      c.wpIn Fence.wide n P Q { a with defers := { target := .collected w.heap.size, args := #[] } :: a.defers } W) :
    (Code.rangeFunc g ps assign body).wpIn Fence.wide n P Q a w :=
  wpIn_rangeG hg eg (t := false) (Rd := fun _ _ _ => True) hit.g hO hR hX hps I Ix S0 (fun pre S A h => ⟨trivial, hS pre S A h⟩) hI hIx h0
    (fun pre S x rest W hx hi hs => wpIn_mono (hround pre S x rest W hx hi hs) (by
      rintro (_ | _ | _ | _ | _ | _) a₁ W₁ h <;> first
        | exact h
        | exact ⟨h.1, fun W₂ c1 c2 c3 c4 c5 => wpIn_mono (h.2 W₂ c1 c2 c3 c4 c5) roundEnd3.g⟩)) hdone hstop

/-- A call of yield, in a walk. -/
theorem uponIn_yield {o : Oper} {a : Act} {K : Act → World → Prop} {Q : Exit → Act → World → Prop} {l : Nat} {args args' : Array Value} {W : World} {C T E : World → Prop}
    (h : YieldAt Fence.wide 0 P l args W fun e B => C B ∧ ((e = .returned (.bool true) ∧ T B) ∨ (e = .returned (.bool false) ∧ E B))) (e : args' = args)
    (ht : ∀ B, C B → T B → K (a.put o.dst (.bool true)) B) (hf : ∀ B, C B → E B → K (a.put o.dst (.bool false)) B) : o.uponIn Fence.wide n P a K Q ((Instr.yield l args').run P W) := by
  obtain ⟨fn, tmps, assign, body, hy, hR⟩ := h
  rw [e, hy, Oper.uponIn_round]
  refine ⟨fun hh => (by simp [Fence.wide] at hh), hR.1, fun c cs _ => ?_⟩
  obtain ⟨e, w', ⟨hC, hr⟩, hs⟩ := hR.2 c cs (room_wide _)
  refine ⟨e, w', ?_, hs⟩
  rcases hr with ⟨rfl, hT⟩ | ⟨rfl, hE⟩
  · exact ht _ hC hT
  · exact hf _ hC hE

end Go.Proofs.YtifdhaiihlfomaaDoor

namespace Go.Proofs.YtifdhaiihlfomaaDoor
open Go.RowKit
set_option linter.unusedVariables false

variable {P : Program} {n : Nat}

/-- A call of yield, in a walk. -/
theorem uponIn_yield2 {o : Oper} {a : Act} {K : Act → World → Prop} {Q : Exit → Act → World → Prop} {l : Nat} {args args' : Array Value} {W : World} {T E : World → Prop}
    (h : YieldAt Fence.wide 0 P l args W fun e B => (e = .returned (.bool true) ∧ T B) ∨ (e = .returned (.bool false) ∧ E B)) (e : args' = args)
    (ht : ∀ B, T B → K (a.put o.dst (.bool true)) B) (hf : ∀ B, E B → K (a.put o.dst (.bool false)) B) : o.uponIn Fence.wide n P a K Q ((Instr.yield l args').run P W) := by
  obtain ⟨fn, tmps, assign, body, hy, hR⟩ := h
  rw [e, hy, Oper.uponIn_round]
  refine ⟨fun hh => (by simp [Fence.wide] at hh), hR.1, fun c cs _ => ?_⟩
  obtain ⟨e, w', hr, hs⟩ := hR.2 c cs (room_wide _)
  refine ⟨e, w', ?_, hs⟩
  rcases hr with ⟨rfl, hT⟩ | ⟨rfl, hE⟩
  · exact ht _ hT
  · exact hf _ hE

end Go.Proofs.YtifdhaiihlfomaaDoor

namespace Go.Proofs.YtifdhaiihlfomaaDoor
open Go.RowKit
set_option linter.unusedVariables false

variable {P : Program} {n : Nat}

end Go.Proofs.YtifdhaiihlfomaaDoor

namespace Go.Proofs.YtifdhaiihlfomaaDoor
open Go.RowKit Go.WideShapes Go.ChangeShapes
set_option linter.unusedVariables false

theorem Keep.post {H : Type} {enc : TypeId × Value → H} {P : Program} {f : Func} {s : ChangeSpec} {apart fresh handsOn again : Bool} {W W' : World} {args : Array Value} {v : Value} {ds gs : List (DataW H)} {pa pv : List MemPlace}
    (k : Keep Nope W W') (hW : DataW.Whole enc P f.params.toList s.vars apart W args.toList ds gs (pa ++ pv))
    (hr : ∀ (b : Nat) (sp : Nat → Bool) (hd : Bool), DataW.TrodAll enc P W' b sp hd f.resultTypes.toList (v.resultList f.resultTypes.size) (s.fn H (ds ++ gs)).results [])
    (ha : ∀ sp : Nat → Bool, (∀ p ∈ pa ++ pv, sp p.block = true) → DataW.TrodAll enc P W' 0 sp true f.params.toList args.toList (s.fn H (ds ++ gs)).args pa)
    (hv : ∀ sp : Nat → Bool, (∀ p ∈ pa ++ pv, sp p.block = true) → DataW.TrodVars enc P W' sp s.vars (s.fn H (ds ++ gs)).vars pv)
    (ho : ∀ (j : Nat) (t : TypeId) (r : Value), f.resultTypes[j]? = some t → (v.resultList f.resultTypes.size)[j]? = some r → Value.okWide P W' .any 0 t r) :
    s.post enc P f apart fresh handsOn again W args v W' := by
  have old : ∀ p ∈ pa ++ pv, p.block < W.heap.size := fun p hp => hW.lt p hp
  have below := k.below_not
  have whole := trodAll_append (ha (fun _ => true) (fun _ _ => rfl)) (hr 0 (fun _ => true) true)
  refine ⟨ds, gs, pa ++ pv, [], pa, pv, hW, hr _ _ _, ha _ (fun p hp => decide_eq_true (old p hp)), hv _ (fun p hp => decide_eq_true (old p hp)),
    World.keptBut_mono (fun p hp => ⟨hp, .inr (List.mem_append.1 hp)⟩) (below.frame (· ∈ pa ++ pv)), fun _ => ⟨ho, (s.fn H (ds ++ gs)).results ++ (s.fn H (ds ++ gs)).args, (s.fn H (ds ++ gs)).vars, pa ++ pv, ?_, fun p hp _ => hp⟩⟩
  obtain ⟨_, _, _, _, _, hz, hn⟩ := hW
  exact ⟨pa, pv, whole, hv _ (fun _ _ => rfl), rfl, fun b off hp => (below.frozen (old _ hp)).trans (hz b off hp), fun e => hn e⟩

end Go.Proofs.YtifdhaiihlfomaaDoor

namespace Go.Proofs.YtifdhaiihlfomaaDoor
open Go.RowKit Go.WideShapes Go.ChangeShapes Go.Deep
set_option linter.unusedVariables false

/-- The value v is a slice of len rows of k ints each, x i j the j-th of row i. -/
def IntsAt (k : Nat) (w : World) (v : Value) (len : Nat) (x : Nat → Nat → Int) : Prop :=
  ∃ a cap, v = .slice a len cap ∧ ∀ i, i < len → ∃ b o, a = some ⟨b, o, none⟩ ∧ b < w.heap.size ∧
    ∀ j, j < k → w.cell? ⟨b, o + (i * k + j), none⟩ = some (.int .i64 (x i j)) ∧ -9223372036854775808 ≤ x i j ∧ x i j ≤ 9223372036854775807

theorem IntsAt.keep {k : Nat} {w w' : World} {v : Value} {len : Nat} {x : Nat → Nat → Int} (h : IntsAt k w v len x) {S : Nat → Prop} (kp : Keep S w w') (hs : ∀ b, b < w.heap.size → ¬ S b) : IntsAt k w' v len x := by
  obtain ⟨a, cap, rfl, h⟩ := h
  refine ⟨a, cap, rfl, fun i hi => ?_⟩
  obtain ⟨b, o, rfl, h1, h2⟩ := h i hi
  exact ⟨b, o, rfl, Nat.lt_of_lt_of_le h1 kp.size, fun j hj => ⟨kp.cell (h2 j hj).1 (hs b h1), (h2 j hj).2⟩⟩

theorem cell_plain {w : World} {a : Addr} {v : Value} (h : w.cell? a = some v) : a = ⟨a.block, a.off, none⟩ ∧ a.block < w.heap.size := by
  unfold World.cell? at h
  cases hh : w.heap[a.block]? with
  | none => rw [hh] at h; cases h
  | some o =>
    have hb : a.block < w.heap.size := (Array.getElem?_eq_some_iff.1 hh).1
    rw [hh] at h
    cases o with
    | cells c e f =>
      by_cases hs : a.spot.isSome
      · simp [hs] at h
      · refine ⟨?_, hb⟩
        cases a with
        | mk b o s => cases s with
          | none => rfl
          | some _ => simp at hs
    | _ => cases h

section
variable {H : Type} {enc : TypeId × Value → H} {P : Program}

theorem open_intstructs {w : World} {base : Nat} {sp : Nat → Bool} {held : Bool} {t e : TypeId} {fs : Array Field} {v : Value} {d : DataW H} {ps : List MemPlace} (ht : P.underlying t = some (.slice e)) (he : P.underlying e = some (.struct fs)) (hone : oneCellFields P fs = true) (hC : P.cellsOf e = fs.size)
    (hpos : 0 < fs.size) (hint : ∀ (j : Nat) (f : Field), fs[j]? = some f → P.underlying f.type = some (.int .i64)) (hv : ∃ a len cap, v = .slice a len cap) (h : DataW.Trod enc P w base sp held t v d ps) :
    ∃ len x, IntsAt fs.size w v len x := by
  obtain ⟨a, len, cap, rfl⟩ := hv
  obtain ⟨fuel, h⟩ := h
  have hcs : (Value.slice a len cap).cells.toList = [.slice a len cap] := rfl
  rw [hcs] at h
  rcases open_slice ht h with ⟨h0, -⟩ | ⟨a', len', cap', m, n, D, Pl, h1, h2, h3, h4, h5, -, h7⟩
  · injection h0 with h0
    injection h0 with h0 h1 h2
    subst h0 h1 h2
    exact ⟨0, fun _ _ => 0, none, 0, rfl, fun i hi => by omega⟩
  · injection h1 with h1
    injection h1 with e1 e2 e3
    subst e1 e2 e3
    refine ⟨len, fun i j => match w.cell? ((a'.add (i * fs.size)).add j) with | some (.int _ z) => z | _ => 0, some a', cap, rfl, fun i hi => ?_⟩
    have him : i < m := by rw [h5]; split <;> omega
    obtain ⟨cs, hc, hd⟩ := h7 i him
    rw [hC] at hc
    obtain ⟨_, hcl, hat⟩ := World.cells?_some hc
    obtain ⟨ys, n', _, _, _, hyl, hf⟩ := DataW.trod_struct he hd
    have field : ∀ j, j < fs.size → ∃ z, w.cell? ((a'.add (i * fs.size)).add j) = some (.int .i64 z) ∧ -9223372036854775808 ≤ z ∧ z ≤ 9223372036854775807 := by
      intro j hj
      have hjf : fs[j]? = some fs[j] := Array.getElem?_eq_getElem hj
      obtain ⟨ho, hk⟩ := hone_of hone j _ hjf
      have h8 := hf j _ hjf
      rw [ho, hk] at h8
      have hjl : j < cs.length := by omega
      have hone' : (cs.drop j).take 1 = [cs[j]] := by rw [List.drop_eq_getElem_cons hjl]; rfl
      rw [hone', List.getElem?_eq_getElem (by omega)] at h8
      obtain ⟨z, hz, _, hwf⟩ := DataW.trod_int (hint j _ hjf) h8
      injection hz with hz
      refine ⟨z, ?_, bounds_i64 hwf⟩
      rw [hat j hj, List.getElem?_eq_getElem hjl, hz]
    obtain ⟨z0, hz0, _⟩ := field 0 hpos
    have hspot : a'.spot = none := by
      rcases Nat.eq_zero_or_pos (i * fs.size) with e0 | e0
      · rw [e0] at hz0
        have := (cell_plain hz0).1
        simp [Addr.add] at this
        exact this ▸ rfl
      · have hi0 : 0 < len := by omega
        have h00 : 0 < m := by omega
        obtain ⟨cs0, hc0, -⟩ := h7 0 h00
        rw [hC] at hc0
        obtain ⟨_, hcl0, hat0⟩ := World.cells?_some hc0
        have h9 := hat0 0 hpos
        rw [List.getElem?_eq_getElem (by omega)] at h9
        have := (cell_plain h9).1
        simp [Addr.add] at this
        exact this ▸ rfl
    have ha' : a' = ⟨a'.block, a'.off, none⟩ := by cases a'; simp at hspot; simp [hspot]
    have hadd : ∀ j, (a'.add (i * fs.size)).add j = ⟨a'.block, a'.off + (i * fs.size + j), none⟩ := by
      intro j
      rw [ha', Addr.add_lit, Addr.add_lit, Nat.add_assoc]
    refine ⟨a'.block, a'.off, congrArg some ha', ?_, fun j hj => ?_⟩
    · have := (cell_plain hz0).2
      rw [hadd] at this
      exact this
    · obtain ⟨z, hz, hb⟩ := field j hj
      have hz' := hz
      rw [hadd] at hz'
      simp only [hz]
      exact ⟨hz', hb⟩

/-- All arguments read as they did, whatever their types. -/
theorem Keep.trodAll {W W' : World} (k : Keep Nope W W') (hl : laidOutB P = true) {sp : Nat → Bool} : ∀ {ts : List TypeId} {vs : List Value} {ds : List (DataW H)} {ps : List MemPlace}, (∀ t ∈ ts, P.readableRec t = true ∧ t < P.types.size) →
    DataW.TrodAll enc P W 0 (fun _ => true) true ts vs ds ps → (∀ x ∈ ps, x.block < W.heap.size) → (∀ x ∈ ps, sp x.block = true) → DataW.TrodAll enc P W' 0 sp true ts vs ds ps
  | [], [], [], _, _, h, _, _ => h
  | t :: ts, v :: vs, d :: ds, ps, ht, h, hb, hs => by
    obtain ⟨p, q, h1, h2, e⟩ := h
    subst e
    have ht0 := ht t (by simp)
    exact ⟨p, q, WideElems.Trod_stays hl ht0.1 ht0.2 h1 (fun x hx => k.below_not.same (hb x (by simp [hx]))) (fun x hx => hs x (by simp [hx])),
      Keep.trodAll k hl (fun u hu => ht u (by simp [hu])) h2 (fun x hx => hb x (by simp [hx])) (fun x hx => hs x (by simp [hx])), rfl⟩

/-- The types of the parameters can be read and are rows of the table: one closed fact. -/
def typesB (P : Program) (ts : List TypeId) : Bool := ts.all fun t => P.readableRec t && decide (t < P.types.size)

theorem Keep.trodArgs {W W' : World} (k : Keep Nope W W') (hl : laidOutB P = true) {sp : Nat → Bool} {ts : List TypeId} {vs : List Value} {ds : List (DataW H)} {ps : List MemPlace} (ht : typesB P ts = true)
    (h : DataW.TrodAll enc P W 0 (fun _ => true) true ts vs ds ps) (hb : ∀ x ∈ ps, x.block < W.heap.size) (hs : ∀ x ∈ ps, sp x.block = true) : DataW.TrodAll enc P W' 0 sp true ts vs ds ps :=
  k.trodAll hl (fun t hm => by have := List.all_eq_true.1 ht t hm; simpa using this) h hb hs

end

end Go.Proofs.YtifdhaiihlfomaaDoor

namespace Go.Proofs.YtifdhaiihlfomaaDoor
open Go.RowKit
set_option linter.unusedVariables false

variable {P : Program} {n : Nat}

end Go.Proofs.YtifdhaiihlfomaaDoor
