/-
  A loop over a function that hands on its values in an order that is open, and keeps a new block of its own: by a contract of the function and a walk of one round. No program in sight.
-/
import Derived.Test.YtapmbignpdkfbaaLibA
namespace Go.Proofs.Ytapmbignpdkfbaa
open Go.RowKit
set_option linter.unusedVariables false

section

variable {P : Program} {n : Nat}

/-- WHAT AN ITERATOR PROMISES whose order is open: Px: what it may have handed on so far; Fx: what it has handed on at the end. O: its own blocks, the two that the loop lays counted ahead. -/
def IterN (P : Program) {α : Type} (g : Nat) (lb : Array Value) (encs : α → Array Value) (Px Fx : List α → Prop) (O R : Nat → Prop) (w : World) : Prop :=
  ∀ (l : Nat) (J : List α → (Nat → Prop) → World → Prop) (Jx : List α → World → Prop) (S0 : Nat → Prop) (W : World), Keep Nope w W → w.heap.size ≤ l → l < W.heap.size → W.heap.size = w.heap.size + 2 →
    (∀ pre S A, J pre S A → ∀ k, S k → (R k ∨ W.heap.size ≤ k) ∧ k < A.heap.size ∧ ¬ O k) →
    (∀ pre S A B, J pre S A → Keep O A B → J pre S B) → (∀ pre A B, Jx pre A → Keep O A B → Jx pre B) →
    (∀ pre S x A, Px (pre ++ [x]) → J pre S A → (∀ k, O k → k < A.heap.size) → YieldAt Fence.wide 0 P l (encs x) A fun e B =>
      (e = .returned (.bool true) ∧ Keep (fun k => S k ∨ k = l) A B ∧ ∃ S', J (pre ++ [x]) S' B ∧ newIn S S' A true) ∨ (e = .returned (.bool false) ∧ Jx (pre ++ [x]) B)) →
    J [] S0 W →
    Calls P g (#[.func (.yield l) #[] #[]] ++ lb) W fun e B => (∃ v, e = .returned v) ∧ ((∃ xs, Fx xs ∧ ∃ S, J xs S B) ∨ ∃ pre, Px pre ∧ Jx pre B)

/-- **A LOOP OVER A FUNCTION, outside every other such loop.** -/
theorem wpIn_rangeN {α : Type} {g : Operand} {ps : Array Tmp} {assign body : Code} {Q : Exit → Act → World → Prop} {a : Act} {w : World}
    {gf : Nat} {lb : Array Value} (hg : a.eval g = .func (.func gf) #[] lb) (eg : ∀ args w, (callFunc gf args).run P w = .ok (.enter gf args) w)
    {encs : α → Array Value} {Px Fx : List α → Prop} {O R X : Nat → Prop} (hit : IterN P gf lb encs Px Fx O R w) (hO : ∀ k, O k → k < w.heap.size ∨ w.heap.size + 2 ≤ k) (hR : ∀ k, R k → k < w.heap.size) (hX : ∀ k, X k → k < w.heap.size) (hps : ∀ x, (encs x).size = ps.size)
    (I : List α → (Nat → Prop) → World → Prop) (Ix : Code → List α → World → Prop) (S0 : Nat → Prop)
    (hS : ∀ pre S A, I pre S A → ∀ k, S k → (R k ∨ w.heap.size + 2 ≤ k) ∧ k < A.heap.size ∧ ¬ O k)
    (hI : ∀ pre S A B, I pre S A → Keep (fun k => O k ∨ k = w.heap.size ∨ k = w.heap.size + 1) A B → I pre S B)
    (hIx : ∀ c pre A B, Ix c pre A → Keep (fun k => O k ∨ k = w.heap.size ∨ k = w.heap.size + 1) A B → Ix c pre B)
    (h0 : I [] S0 w)
    (hround : ∀ (pre : List α) (S : Nat → Prop) (x : α) (W : World), Px (pre ++ [x]) → I pre S W → w.heap.size + 2 ≤ W.heap.size → (∀ k, O k → k < W.heap.size) →
      assign.wpIn (Fence.wide.inRound (w.heap.size + 1)) n P (Exit.then (fun a₁ W₁ => Keep S W W₁ ∧
          ∀ W₂, (∀ p, W₂.cell? p = W₁.cell? p) → (∀ p, W₂.frozen? p = W₁.frozen? p) → Keep (fun k => k = w.heap.size + 1) W₁ W₂ → W₂.heap.size = W₁.heap.size → (∃ r, W₂.heap[w.heap.size + 1]? = some (.loop r)) →
            body.wpIn (Fence.wide.inRound (w.heap.size + 1)) n P (roundEndG true S X I Ix (pre ++ [x]) W₂) a₁ W₂) (fun _ _ _ => False))
        { tmps := (ps.zip (encs x)).foldl (fun t (p, v) => t.setIfInBounds p v) a.tmps, defers := [] } W)
    (hdone : ∀ (xs : List α) (S : Nat → Prop) (W : World), Fx xs → I xs S W → w.heap.size + 2 ≤ W.heap.size → W.heap[w.heap.size]? = some (.deferred (some [])) → Q .normal { a with defers := { target := .collected w.heap.size, args := #[] } :: a.defers } W)
    (hstop : ∀ (c : Code) (pre : List α) (W : World), Px pre → Ix c pre W → w.heap.size + 2 ≤ W.heap.size → W.heap[w.heap.size]? = some (.deferred (some [])) →
      c.wpIn Fence.wide n P Q { a with defers := { target := .collected w.heap.size, args := #[] } :: a.defers } W) :
    (Code.rangeFunc g ps assign body).wpIn Fence.wide n P Q a w := by
  refine wpIn_rangeFunc ?_
  intro fn hfn
  rw [show Fence.wide.round = none from rfl]
  obtain ⟨rec, hrec⟩ : ∃ rec : LoopState → Option Code → Loop, rec = fun st pe => { state := st, pending := pe, fn, tmps := a.tmps, params := ps, assign, body, defers := w.heap.size } := ⟨_, rfl⟩
  obtain ⟨W1, hW1⟩ : ∃ W1, (w.alloc (.deferred (some []))).alloc (.loop (rec .ready none)) = W1 := ⟨_, rfl⟩
  have hL1 : W1.heap[w.heap.size + 1]? = some (.loop (rec .ready none)) := by
    rw [← hW1]; have := World.alloc_heap_new (w.alloc (.deferred (some []))) (.loop (rec .ready none)); rwa [World.size_alloc] at this
  have hK1 : W1.heap[w.heap.size]? = some (.deferred (some [])) := by
    rw [← hW1]; exact (Below.heap_alloc _ _ _ (by simp)).trans (World.alloc_heap_new w _)
  have hKe : Keep Nope w W1 := by rw [← hW1]; exact ((Keep.refl _ w).alloc _).alloc _
  have hs1 : W1.heap.size = w.heap.size + 2 := by rw [← hW1]; simp
  have hI1 : I [] S0 W1 := hI _ _ _ _ h0 (hKe.mono fun _ _ hf => hf.elim)
  refine ⟨w.heap.size + 1, [{ target := .collected w.heap.size, args := #[] }], W1, { target := .fn (.func gf) lb, args := #[.func (.yield (w.heap.size + 1)) #[] #[]] }, W1, gf,
    #[.func (.yield (w.heap.size + 1)) #[] #[]] ++ lb, W1, ?_, ?_, ?_, ?_, fun hh => (by simp [Fence.wide] at hh), ?_⟩
  · rw [← hW1, hrec]; exact run_enterLoop_outer _ _ _ _ _
  · simp only [resolve, hg]
    simp [go_sem]
  · intro f' _; trivial
  · simp [invoke, go_sem, eg]
  · refine callsIn_wide.2 ((hit (w.heap.size + 1)
      (fun pre S W => I pre S W ∧ W.heap[w.heap.size + 1]? = some (.loop (rec .ready none)) ∧ W.heap[w.heap.size]? = some (.deferred (some [])))
      (fun pre W => ∃ c, Ix c pre W ∧ W.heap[w.heap.size + 1]? = some (.loop (rec .done (some c))) ∧ W.heap[w.heap.size]? = some (.deferred (some [])))
      S0 W1 hKe (by omega) (by omega) hs1 ?_ ?_ ?_ ?_ ⟨hI1, hL1, hK1⟩).mono ?_)
    · rintro pre S A ⟨hi, hl, hk⟩
      intro k hs
      obtain ⟨a1, a2⟩ := hS pre S A hi k hs
      exact ⟨by rcases a1 with a1 | a1; exact .inl a1; exact .inr (by omega), a2⟩
    · rintro pre S A B ⟨hi, hl, hk⟩ hg'
      exact ⟨hI _ _ _ _ hi (hg'.mono fun _ _ h => .inl h), hg'.at_ hl (fun h => by have := hO _ h; omega), hg'.at_ hk (fun h => by have := hO _ h; omega)⟩
    · rintro pre A B ⟨c, hi, hl, hk⟩ hg'
      exact ⟨c, hIx _ _ _ _ hi (hg'.mono fun _ _ h => .inl h), hg'.at_ hl (fun h => by have := hO _ h; omega), hg'.at_ hk (fun h => by have := hO _ h; omega)⟩
    · rintro pre S x W hx ⟨hi, hl, hk⟩ hOl
      have hSn : ∀ k, S k → ¬ k = w.heap.size ∧ ¬ k = w.heap.size + 1 := fun k hs => by
        obtain ⟨a1, a2⟩ := hS pre S W hi k hs
        rcases a1 with a1 | a1
        · have := hR k a1; omega
        · omega
      have hlt : w.heap.size + 1 < W.heap.size := (Array.getElem?_eq_some_iff.1 hl).1
      have hy := run_yield (P := P) (args := encs x) hl (by rw [hrec]; exact hps x)
      rw [hrec] at hy
      refine ⟨fn, _, assign, body, hy, roundIn_of_wpIn hfn ((fun (h : assign.wpIn (Fence.wide.inRound (w.heap.size + 1)) 0 P _ _ W) => h) ?_)⟩
      have hA := hround pre S x W hx hi (by omega) hOl
      have room : ∀ k, Fence.wide.room k := room_wide
      refine wpIn_mono (Q := Exit.then (fun a₁ W₁ => Keep S W W₁ ∧ ∀ W₂, (∀ p, W₂.cell? p = W₁.cell? p) → (∀ p, W₂.frozen? p = W₁.frozen? p) → Keep (fun k => k = w.heap.size + 1) W₁ W₂ → W₂.heap.size = W₁.heap.size → (∃ r, W₂.heap[w.heap.size + 1]? = some (.loop r)) →
            body.wpIn (Fence.wide.inRound (w.heap.size + 1)) n P (roundEndG true S X I Ix (pre ++ [x]) W₂) a₁ W₂) (fun _ _ _ => False)) (fun b k cs hro hb hr => hA b k cs hro hb (room_wide _)) ?_
      rintro e a₁ Wa hp
      cases e with
      | normal =>
        obtain ⟨hKa, hbody⟩ := hp
        have hla := hKa.at_ hl (fun h => by have := hSn _ h; omega)
        have hka := hKa.at_ hk (fun h => by have := hSn _ h; omega)
        refine ⟨_, run_beginRound hla (by rw [hrec]), ?_⟩
        obtain ⟨W2, hW2⟩ : ∃ W2, Wa.putObj (w.heap.size + 1) (.loop { rec .ready none with state := .busy }) = W2 := ⟨_, rfl⟩
        rw [hW2]
        have hlta : w.heap.size + 1 < Wa.heap.size := (Array.getElem?_eq_some_iff.1 hla).1
        have hl2 : W2.heap[w.heap.size + 1]? = some (.loop { rec .ready none with state := .busy }) := by rw [← hW2]; exact World.putObj_heap_same hlta
        have hk2 : W2.heap[w.heap.size]? = some (.deferred (some [])) := by rw [← hW2]; exact (World.putObj_heap_other (by omega)).trans hka
        have hKp : Keep (fun k => k = w.heap.size + 1) Wa W2 := by rw [← hW2]; exact (Keep.refl (fun k => k = w.heap.size + 1) Wa).putObj (fun _ => rfl) _
        have hs2 : W2.heap.size = Wa.heap.size := by rw [← hW2]; simp
        have hb2 := hbody W2 (fun p => by rw [← hW2]; exact cell_putObj hla rfl rfl p) (fun p => by rw [← hW2]; exact frozen_putObj hla rfl rfl p) hKp hs2 ⟨_, hl2⟩
        have hb3 : body.wpIn (Fence.wide.inRound (w.heap.size + 1)) 0 P (roundEndG true S X I Ix (pre ++ [x]) W2) a₁ W2 := fun b k cs hro hb hr => hb2 b k cs hro hb (room_wide _)
        refine wpIn_mono hb3 ?_
        have fin : ∀ (T : Nat → Prop) (hT : ∀ k, T k → ¬ k = w.heap.size ∧ ¬ k = w.heap.size + 1) (hRS : ∀ k, S k → T k) (jump : Option Code) (W3 : World), Keep T W2 W3 →
            (Instr.endRound (w.heap.size + 1) jump).run P W3 = .ok (.bool jump.isNone) (W3.putObj (w.heap.size + 1) (.loop (rec (if jump.isNone then .ready else .done) jump))) ∧
            (W3.putObj (w.heap.size + 1) (.loop (rec (if jump.isNone then .ready else .done) jump))).heap[w.heap.size + 1]? = some (.loop (rec (if jump.isNone then .ready else .done) jump)) ∧
            (W3.putObj (w.heap.size + 1) (.loop (rec (if jump.isNone then .ready else .done) jump))).heap[w.heap.size]? = some (.deferred (some [])) ∧
            Keep (fun k => O k ∨ k = w.heap.size ∨ k = w.heap.size + 1) W3 (W3.putObj (w.heap.size + 1) (.loop (rec (if jump.isNone then .ready else .done) jump))) ∧
            Keep (fun k => T k ∨ k = w.heap.size + 1) W (W3.putObj (w.heap.size + 1) (.loop (rec (if jump.isNone then .ready else .done) jump))) := fun T hT hRS jump W3 hk3 => by
          have hl3 := hk3.at_ hl2 (fun h => by have := hT _ h; omega)
          have hd3 := hk3.at_ hk2 (fun h => by have := hT _ h; omega)
          have := run_endRound (P := P) jump hl3
          rw [hrec] at this ⊢
          refine ⟨this, World.putObj_heap_same (Array.getElem?_eq_some_iff.1 hl3).1, (World.putObj_heap_other (by omega)).trans hd3, (Keep.refl _ W3).putObj (fun _ => .inr (.inr rfl)) _, ?_⟩
          refine Keep.putObj ?_ (fun _ => .inr rfl) _
          exact ((hKa.mono fun _ _ h => .inl (hRS _ h)).trans hKp (fun i _ h => .inr h)).trans hk3 (fun i _ h => .inl h)
        rintro e a3 W3 hp
        cases e with
        | normal =>
          obtain ⟨hk3, S', hi3, hss⟩ := hp
          obtain ⟨hr, hl4, hk4, hkO, hkR⟩ := fin S hSn (fun _ h => h) none W3 hk3
          exact ⟨_, _, hr, .inl ⟨rfl, hkR, S', ⟨hI _ _ _ _ hi3 hkO, hl4, hk4⟩, newIn_le (t := true) (by have := hKa.size; omega) hss⟩⟩
        | ret =>
          obtain ⟨hk3, hi3⟩ := hp
          obtain ⟨hr, hl4, hk4, hkO, hkR⟩ := fin (fun k => X k ∨ S k) (fun k h => by rcases h with h | h; have := hX k h; omega; exact hSn k h) (fun _ h => .inr h) (some .ret) W3 hk3
          exact ⟨_, _, hr, .inr ⟨rfl, .ret, hIx _ _ _ _ hi3 hkO, hl4, hk4⟩⟩
        | exit id =>
          obtain ⟨hk3, hi3⟩ := hp
          obtain ⟨hr, hl4, hk4, hkO, hkR⟩ := fin (fun k => X k ∨ S k) (fun k h => by rcases h with h | h; have := hX k h; omega; exact hSn k h) (fun _ h => .inr h) (some (.exit id)) W3 hk3
          exact ⟨_, _, hr, .inr ⟨rfl, .exit id, hIx _ _ _ _ hi3 hkO, hl4, hk4⟩⟩
        | goto t =>
          obtain ⟨hk3, hi3⟩ := hp
          obtain ⟨hr, hl4, hk4, hkO, hkR⟩ := fin (fun k => X k ∨ S k) (fun k h => by rcases h with h | h; have := hX k h; omega; exact hSn k h) (fun _ h => .inr h) (some (.goto t)) W3 hk3
          exact ⟨_, _, hr, .inr ⟨rfl, .goto t, hIx _ _ _ _ hi3 hkO, hl4, hk4⟩⟩
        | panic ch => exact hp.elim
        | outgrown => exact hp.elim
      | exit id => exact hp.elim
      | goto t => exact hp.elim
      | ret => exact hp.elim
      | panic ch => exact hp.elim
      | outgrown => exact hp.elim
    · rintro e W2 ⟨⟨v, rfl⟩, (⟨xs, hx, S, hi, hl, hk⟩ | ⟨pre, hp, c, hi, hl, hk⟩)⟩
      · refine ⟨none, _, by have := run_endLoop (P := P) hl (by rw [hrec]; simp); rw [hrec] at this; exact this, hdone xs S _ hx (hI _ _ _ _ hi ((Keep.refl _ W2).putObj (fun _ => .inr (.inr rfl)) _)) ?_ ((World.putObj_heap_other (by omega)).trans hk)⟩
        have := (Array.getElem?_eq_some_iff.1 hl).1; simp; omega
      · refine ⟨some c, _, by have := run_endLoop (P := P) hl (by rw [hrec]; simp); rw [hrec] at this; exact this, hstop c pre _ hp (hIx _ _ _ _ hi ((Keep.refl _ W2).putObj (fun _ => .inr (.inr rfl)) _)) ?_ ((World.putObj_heap_other (by omega)).trans hk)⟩
        have := (Array.getElem?_eq_some_iff.1 hl).1; simp; omega

end

end Go.Proofs.Ytapmbignpdkfbaa
