/-
  A loop over a function, by a contract of the function and a walk of one round. No program in sight.
-/
import Derived.Test.YtpjcgjbobljaeaaKeep
namespace Go.Proofs.Ytpjcgjbobljaeaa
open Go.RowKit
set_option linter.unusedVariables false

variable {P : Program} {n : Nat}

/-- WHAT AN ITERATOR PROMISES, called in a world that has grown out of w by new blocks alone: it hands all of xs to yield, one behind the other, as long as a round says that it goes on. O: its own blocks. R: the old blocks that a round may turn. -/
def IterAt (P : Program) {α : Type} (g : Nat) (lb : Array Value) (encs : α → Array Value) (xs : List α) (O R : Nat → Prop) (w : World) : Prop :=
  ∀ (l : Nat) (J Jx : List α → World → Prop) (W : World), Keep Nope w W → w.heap.size ≤ l → l < W.heap.size →
    (∀ pre A B, J pre A → Keep O A B → J pre B) → (∀ pre A B, Jx pre A → Keep O A B → Jx pre B) →
    (∀ pre x rest A, xs = pre ++ x :: rest → J pre A → YieldAt Fence.wide 0 P l (encs x) A fun e B =>
      Keep (fun k => R k ∨ k = l) A B ∧ ((e = .returned (.bool true) ∧ J (pre ++ [x]) B) ∨ (e = .returned (.bool false) ∧ Jx (pre ++ [x]) B))) →
    J [] W →
    Calls P g (#[.func (.yield l) #[] #[]] ++ lb) W fun e B => (∃ v, e = .returned v) ∧ (J xs B ∨ ∃ pre, pre <+: xs ∧ Jx pre B)

/-- How a round may be left. -/
def roundEnd {α : Type} (R : Nat → Prop) (I : List α → World → Prop) (Ix : Code → List α → World → Prop) (xs : List α) (W : World) : Exit → Act → World → Prop
  | .normal, _, W' => Keep R W W' ∧ I xs W'
  | .ret, _, W' => Keep R W W' ∧ Ix .ret xs W'
  | .exit id, _, W' => Keep R W W' ∧ Ix (.exit id) xs W'
  | .goto t, _, W' => Keep R W W' ∧ Ix (.goto t) xs W'
  | .panic _, _, _ => False
  | .outgrown, _, _ => False

theorem roundEnd_out {α : Type} {R : Nat → Prop} {I : List α → World → Prop} {Ix : Code → List α → World → Prop} {xs : List α} {W : World} (a : Act) (w : World) : ¬ roundEnd R I Ix xs W .outgrown a w := fun h => h

theorem cell_putObj {W : World} {l : Nat} {o o' : Obj} (h : W.heap[l]? = some o) (hc : o.isCells = false) (hc' : o'.isCells = false) (a : Addr) : (W.putObj l o').cell? a = W.cell? a := by
  unfold World.cell?
  by_cases e : a.block = l
  · rw [e, World.putObj_heap_same (Array.getElem?_eq_some_iff.1 h).1, h]
    cases o <;> cases o' <;> simp_all [Obj.isCells]
  · rw [World.putObj_heap_other e]

theorem frozen_putObj {W : World} {l : Nat} {o o' : Obj} (h : W.heap[l]? = some o) (hc : o.isCells = false) (hc' : o'.isCells = false) (a : Addr) : (W.putObj l o').frozen? a = W.frozen? a := by
  unfold World.frozen?
  by_cases e : a.block = l
  · rw [e, World.putObj_heap_same (Array.getElem?_eq_some_iff.1 h).1, h]
    cases o <;> cases o' <;> simp_all [Obj.isCells]
  · rw [World.putObj_heap_other e]

/-- **A LOOP OVER A FUNCTION, outside every other such loop.** -/
theorem wpIn_range {α : Type} {g : Operand} {ps : Array Tmp} {assign body : Code} {Q : Exit → Act → World → Prop} {a : Act} {w : World}
    {gf : Nat} {lb : Array Value} (hg : a.eval g = .func (.func gf) #[] lb) (eg : ∀ args w, (callFunc gf args).run P w = .ok (.enter gf args) w)
    {encs : α → Array Value} {xs : List α} {O R : Nat → Prop} (hit : IterAt P gf lb encs xs O R w) (hO : ∀ k, O k → k < w.heap.size) (hR : ∀ k, R k → k < w.heap.size) (hps : ∀ x, (encs x).size = ps.size)
    (I : List α → World → Prop) (Ix : Code → List α → World → Prop)
    (hI : ∀ pre A B, I pre A → Keep (fun k => O k ∨ k = w.heap.size ∨ k = w.heap.size + 1) A B → I pre B)
    (hIx : ∀ c pre A B, Ix c pre A → Keep (fun k => O k ∨ k = w.heap.size ∨ k = w.heap.size + 1) A B → Ix c pre B)
    (h0 : I [] w)
    (hround : ∀ (pre : List α) (x : α) (rest : List α) (W : World), xs = pre ++ x :: rest → I pre W → w.heap.size + 2 ≤ W.heap.size →
      assign.wpIn (Fence.wide.inRound (w.heap.size + 1)) n P (Exit.then (fun a₁ W₁ => Keep R W W₁ ∧
          ∀ W₂, (∀ p, W₂.cell? p = W₁.cell? p) → (∀ p, W₂.frozen? p = W₁.frozen? p) → Keep (fun k => k = w.heap.size + 1) W₁ W₂ → W₂.heap.size = W₁.heap.size → (∃ r, W₂.heap[w.heap.size + 1]? = some (.loop r)) →
            body.wpIn (Fence.wide.inRound (w.heap.size + 1)) n P (roundEnd R I Ix (pre ++ [x]) W₂) a₁ W₂) (fun _ _ _ => False))
        { tmps := (ps.zip (encs x)).foldl (fun t (p, v) => t.setIfInBounds p v) a.tmps, defers := [] } W)
    (hdone : ∀ (W : World), I xs W → w.heap.size + 2 ≤ W.heap.size → W.heap[w.heap.size]? = some (.deferred (some [])) → Q .normal { a with defers := { target := .collected w.heap.size, args := #[] } :: a.defers } W)
    (hstop : ∀ (c : Code) (pre : List α) (W : World), pre <+: xs → Ix c pre W → w.heap.size + 2 ≤ W.heap.size → W.heap[w.heap.size]? = some (.deferred (some [])) →
      c.wpIn Fence.wide n P Q { a with defers := { target := .collected w.heap.size, args := #[] } :: a.defers } W) :
    (Code.rangeFunc g ps assign body).wpIn Fence.wide n P Q a w := by
  refine wpIn_rangeFunc ?_
  intro fn hfn
  rw [show Fence.wide.round = none from rfl]
  obtain ⟨rec, hrec⟩ : ∃ rec : LoopState → Option Code → Loop, rec = fun st pe => { state := st, pending := pe, fn, tmps := a.tmps, params := ps, assign, body, defers := w.heap.size } := ⟨_, rfl⟩
  obtain ⟨W1, hW1⟩ : ∃ W1, (w.alloc (.deferred (some []))).alloc (.loop (rec .ready none)) = W1 := ⟨_, rfl⟩
  have hL1 : W1.heap[w.heap.size + 1]? = some (.loop (rec .ready none)) := by
    rw [← hW1]; have := World.alloc_heap_new (w.alloc (.deferred (some []))) (.loop (rec .ready none)); rwa [World.size_alloc] at this
  have hK1 : W1.heap[w.heap.size]? = some (.deferred (some [])) := by
    rw [← hW1]; exact (Below.heap_alloc _ _ _ (by simp)).trans (World.alloc_heap_new w _)
  have hKe : Keep Nope w W1 := by rw [← hW1]; exact ((Keep.refl _ w).alloc _).alloc _
  have hs1 : W1.heap.size = w.heap.size + 2 := by rw [← hW1]; simp
  have hI1 : I [] W1 := hI _ _ _ h0 (hKe.mono fun _ _ hf => hf.elim)
  refine ⟨w.heap.size + 1, [{ target := .collected w.heap.size, args := #[] }], W1, { target := .fn (.func gf) lb, args := #[.func (.yield (w.heap.size + 1)) #[] #[]] }, W1, gf,
    #[.func (.yield (w.heap.size + 1)) #[] #[]] ++ lb, W1, ?_, ?_, ?_, ?_, fun hh => (by simp [Fence.wide] at hh), ?_⟩
  · rw [← hW1, hrec]; exact run_enterLoop_outer _ _ _ _ _
  · simp only [resolve, hg]
    simp [go_sem]
  · intro f' _; trivial
  · simp [invoke, go_sem, eg]
  · refine callsIn_wide.2 ((hit (w.heap.size + 1)
      (fun pre W => I pre W ∧ W.heap[w.heap.size + 1]? = some (.loop (rec .ready none)) ∧ W.heap[w.heap.size]? = some (.deferred (some [])))
      (fun pre W => ∃ c, Ix c pre W ∧ W.heap[w.heap.size + 1]? = some (.loop (rec .done (some c))) ∧ W.heap[w.heap.size]? = some (.deferred (some [])))
      W1 hKe (by omega) (by omega) ?_ ?_ ?_ ⟨hI1, hL1, hK1⟩).mono ?_)
    · rintro pre A B ⟨hi, hl, hk⟩ hg'
      exact ⟨hI _ _ _ hi (hg'.mono fun _ _ h => .inl h), hg'.at_ hl (fun h => by have := hO _ h; omega), hg'.at_ hk (fun h => by have := hO _ h; omega)⟩
    · rintro pre A B ⟨c, hi, hl, hk⟩ hg'
      exact ⟨c, hIx _ _ _ _ hi (hg'.mono fun _ _ h => .inl h), hg'.at_ hl (fun h => by have := hO _ h; omega), hg'.at_ hk (fun h => by have := hO _ h; omega)⟩
    · rintro pre x rest W hx ⟨hi, hl, hk⟩
      have hlt : w.heap.size + 1 < W.heap.size := (Array.getElem?_eq_some_iff.1 hl).1
      have hy := run_yield (P := P) (args := encs x) hl (by rw [hrec]; exact hps x)
      rw [hrec] at hy
      refine ⟨fn, _, assign, body, hy, roundIn_of_wpIn hfn ((fun (h : assign.wpIn (Fence.wide.inRound (w.heap.size + 1)) 0 P _ _ W) => h) ?_)⟩
      have hA := hround pre x rest W hx hi (by omega)
      have room : ∀ k, Fence.wide.room k := room_wide
      refine wpIn_mono (Q := Exit.then (fun a₁ W₁ => Keep R W W₁ ∧ ∀ W₂, (∀ p, W₂.cell? p = W₁.cell? p) → (∀ p, W₂.frozen? p = W₁.frozen? p) → Keep (fun k => k = w.heap.size + 1) W₁ W₂ → W₂.heap.size = W₁.heap.size → (∃ r, W₂.heap[w.heap.size + 1]? = some (.loop r)) →
            body.wpIn (Fence.wide.inRound (w.heap.size + 1)) n P (roundEnd R I Ix (pre ++ [x]) W₂) a₁ W₂) (fun _ _ _ => False)) (fun b k cs hro hb hr => hA b k cs hro hb (room_wide _)) ?_
      rintro e a₁ Wa hp
      cases e with
      | normal =>
        obtain ⟨hKa, hbody⟩ := hp
        have hla := hKa.at_ hl (fun h => by have := hR _ h; omega)
        have hka := hKa.at_ hk (fun h => by have := hR _ h; omega)
        refine ⟨_, run_beginRound hla (by rw [hrec]), ?_⟩
        obtain ⟨W2, hW2⟩ : ∃ W2, Wa.putObj (w.heap.size + 1) (.loop { rec .ready none with state := .busy }) = W2 := ⟨_, rfl⟩
        rw [hW2]
        have hlta : w.heap.size + 1 < Wa.heap.size := (Array.getElem?_eq_some_iff.1 hla).1
        have hl2 : W2.heap[w.heap.size + 1]? = some (.loop { rec .ready none with state := .busy }) := by rw [← hW2]; exact World.putObj_heap_same hlta
        have hk2 : W2.heap[w.heap.size]? = some (.deferred (some [])) := by rw [← hW2]; exact (World.putObj_heap_other (by omega)).trans hka
        have hKp : Keep (fun k => k = w.heap.size + 1) Wa W2 := by rw [← hW2]; exact (Keep.refl (fun k => k = w.heap.size + 1) Wa).putObj (fun _ => rfl) _
        have hs2 : W2.heap.size = Wa.heap.size := by rw [← hW2]; simp
        have hb2 := hbody W2 (fun p => by rw [← hW2]; exact cell_putObj hla rfl rfl p) (fun p => by rw [← hW2]; exact frozen_putObj hla rfl rfl p) hKp hs2 ⟨_, hl2⟩
        have hb3 : body.wpIn (Fence.wide.inRound (w.heap.size + 1)) 0 P (roundEnd R I Ix (pre ++ [x]) W2) a₁ W2 := fun b k cs hro hb hr => hb2 b k cs hro hb (room_wide _)
        refine wpIn_mono hb3 ?_
        have fin : ∀ (jump : Option Code) (W3 : World), Keep R W2 W3 →
            (Instr.endRound (w.heap.size + 1) jump).run P W3 = .ok (.bool jump.isNone) (W3.putObj (w.heap.size + 1) (.loop (rec (if jump.isNone then .ready else .done) jump))) ∧
            (W3.putObj (w.heap.size + 1) (.loop (rec (if jump.isNone then .ready else .done) jump))).heap[w.heap.size + 1]? = some (.loop (rec (if jump.isNone then .ready else .done) jump)) ∧
            (W3.putObj (w.heap.size + 1) (.loop (rec (if jump.isNone then .ready else .done) jump))).heap[w.heap.size]? = some (.deferred (some [])) ∧
            Keep (fun k => O k ∨ k = w.heap.size ∨ k = w.heap.size + 1) W3 (W3.putObj (w.heap.size + 1) (.loop (rec (if jump.isNone then .ready else .done) jump))) ∧
            Keep (fun k => R k ∨ k = w.heap.size + 1) W (W3.putObj (w.heap.size + 1) (.loop (rec (if jump.isNone then .ready else .done) jump))) := fun jump W3 hk3 => by
          have hl3 := hk3.at_ hl2 (fun h => by have := hR _ h; omega)
          have hd3 := hk3.at_ hk2 (fun h => by have := hR _ h; omega)
          have := run_endRound (P := P) jump hl3
          rw [hrec] at this ⊢
          refine ⟨this, World.putObj_heap_same (Array.getElem?_eq_some_iff.1 hl3).1, (World.putObj_heap_other (by omega)).trans hd3, (Keep.refl _ W3).putObj (fun _ => .inr (.inr rfl)) _, ?_⟩
          refine Keep.putObj ?_ (fun _ => .inr rfl) _
          exact ((hKa.mono fun _ _ h => .inl h).trans hKp (fun i _ h => .inr h)).trans hk3 (fun i _ h => .inl h)
        rintro e a3 W3 hp
        cases e with
        | normal =>
          obtain ⟨hk3, hi3⟩ := hp
          obtain ⟨hr, hl4, hk4, hkO, hkR⟩ := fin none W3 hk3
          exact ⟨_, _, hr, hkR, .inl ⟨rfl, hI _ _ _ hi3 hkO, hl4, hk4⟩⟩
        | ret =>
          obtain ⟨hk3, hi3⟩ := hp
          obtain ⟨hr, hl4, hk4, hkO, hkR⟩ := fin (some .ret) W3 hk3
          exact ⟨_, _, hr, hkR, .inr ⟨rfl, .ret, hIx _ _ _ _ hi3 hkO, hl4, hk4⟩⟩
        | exit id =>
          obtain ⟨hk3, hi3⟩ := hp
          obtain ⟨hr, hl4, hk4, hkO, hkR⟩ := fin (some (.exit id)) W3 hk3
          exact ⟨_, _, hr, hkR, .inr ⟨rfl, .exit id, hIx _ _ _ _ hi3 hkO, hl4, hk4⟩⟩
        | goto t =>
          obtain ⟨hk3, hi3⟩ := hp
          obtain ⟨hr, hl4, hk4, hkO, hkR⟩ := fin (some (.goto t)) W3 hk3
          exact ⟨_, _, hr, hkR, .inr ⟨rfl, .goto t, hIx _ _ _ _ hi3 hkO, hl4, hk4⟩⟩
        | panic ch => exact hp.elim
        | outgrown => exact hp.elim
      | exit id => exact hp.elim
      | goto t => exact hp.elim
      | ret => exact hp.elim
      | panic ch => exact hp.elim
      | outgrown => exact hp.elim
    · rintro e W2 ⟨⟨v, rfl⟩, (⟨hi, hl, hk⟩ | ⟨pre, hp, c, hi, hl, hk⟩)⟩
      · refine ⟨none, _, by have := run_endLoop (P := P) hl (by rw [hrec]; simp); rw [hrec] at this; exact this, hdone _ (hI _ _ _ hi ((Keep.refl _ W2).putObj (fun _ => .inr (.inr rfl)) _)) ?_ ((World.putObj_heap_other (by omega)).trans hk)⟩
        have := (Array.getElem?_eq_some_iff.1 hl).1; simp; omega
      · refine ⟨some c, _, by have := run_endLoop (P := P) hl (by rw [hrec]; simp); rw [hrec] at this; exact this, hstop c pre _ hp (hIx _ _ _ _ hi ((Keep.refl _ W2).putObj (fun _ => .inr (.inr rfl)) _)) ?_ ((World.putObj_heap_other (by omega)).trans hk)⟩
        have := (Array.getElem?_eq_some_iff.1 hl).1; simp; omega

/-- A call of yield, in a walk. -/
theorem uponIn_yield {o : Oper} {a : Act} {K : Act → World → Prop} {Q : Exit → Act → World → Prop} {l : Nat} {args args' : Array Value} {W : World} {C T E : World → Prop}
    (h : YieldAt Fence.wide 0 P l args W fun e B => C B ∧ ((e = .returned (.bool true) ∧ T B) ∨ (e = .returned (.bool false) ∧ E B))) (e : args' = args)
    (ht : ∀ B, C B → T B → K (a.put o.dst (.bool true)) B) (hf : ∀ B, C B → E B → K (a.put o.dst (.bool false)) B) : o.uponIn Fence.wide n P a K Q ((Instr.yield l args').run P W) := by
  obtain ⟨fn, tmps, assign, body, hy, hR⟩ := h
  rw [e, hy, Oper.uponIn_round]
  refine ⟨fun hh => (by simp [Fence.wide] at hh), hR.1, fun c cs _ => ?_⟩
  obtain ⟨e, w', ⟨hC, hr⟩, hs⟩ := hR.2 c cs (room_wide _)
  refine ⟨e, w', ?_, hs⟩
  rcases hr with ⟨rfl, hT⟩ | ⟨rfl, hE⟩
  · exact ht _ hC hT
  · exact hf _ hC hE

end Go.Proofs.Ytpjcgjbobljaeaa
