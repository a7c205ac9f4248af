/-
  From a contract of a function that runs alone, over whatever tape, to its run step by step, whatever the tape answers at each step: no bound on the number of steps is wanted. (A run that never came to its end would give one tape over which the function alone never comes to its end.) No program in sight.
-/
import Derived.Test.YtifdhaiihlfomaaDoorConStep
import Derived.KernelRfl
namespace Go.Proofs.YtifdhaiihlfomaaDoor
open Go Go.Conc
set_option linter.unusedVariables false

/-- STEP BY STEP TO A STOP, whatever the tape answers. -/
inductive Lone (P : Program) (Stop : Frame → World → Prop) : Frame → List Frame → World → Prop
  | stop {fr : Frame} {w : World} : Stop fr w → Lone P Stop fr [] w
  | step {fr : Frame} {X : List Frame} {w : World} (n : (Nat → Question → Nat) → Nat → Nat) (fr' : (Nat → Question → Nat) → Nat → Frame) (X' : (Nat → Question → Nat) → Nat → List Frame) (w' : (Nat → Question → Nat) → Nat → World) (es : (Nat → Question → Nat) → Nat → Array Event) :
      (∀ τ d, ∀ e ∈ es τ d, quietE e) →
      (∀ τ d main Z, stepG P main (G fr (X ++ Z)) (onT w τ d) = .go (G (fr' τ d) (X' τ d ++ Z)) (onT (w' τ d) τ (d + n τ d)) (es τ d)) →
      (∀ τ d, Lone P Stop (fr' τ d) (X' τ d) (w' τ d)) → Lone P Stop fr X w

/-- Nobody's frame, beneath a lone run: nothing comes of it. -/
def nobody (P : Program) : Frame := { fn := P.funcs.size, tmps := #[], todo := [.call { target := .nil, args := #[] } false "fmt's door: nobody" #[]], defers := [], mode := .run, kind := .normal }

section
variable {P : Program}

theorem nobody_catches (fr : Frame) (h1 : fr.fn = P.funcs.size) (h2 : fr.todo = (nobody P).todo) : fr.catches P = true := by
  unfold Frame.catches
  rw [h1, h2]
  simp only [nobody, Array.getElem?_size]
  decide +kernel

theorem nobody_row : Extern.next "fmt's door: nobody" = none := by
  have h : (Extern.next "fmt's door: nobody").isNone = true := by kernel_rfl
  simpa using h

/-- Nothing comes of it any more: it panics, with nobody to recover; or it has returned to nobody. -/
inductive Dead (P : Program) : Stepped → Prop
  | ended (o : Outcome) (w : World) : Dead P (.ended o w)
  | panics {fr : Frame} {cs : List Frame} {w : World} {chain : List PanicEntry} : fr.mode = .panicking chain → fr.defers = [] → (cs = [] → fr.catches P = true) → (cs = [] ∨ ∃ X, cs = X ++ [nobody P] ∧ ∀ c ∈ X, c.defers = []) → Dead P (.next (lone fr cs w))
  | past {v : Value} {w : World} : Dead P (.next (lone ((nobody P).finish v) [] w))

theorem raise_mode (c : Frame) (chain : List PanicEntry) : ∃ ch, (c.raise chain).mode = .panicking ch := by
  unfold Frame.raise
  split <;> exact ⟨_, rfl⟩
theorem raise_defers (c : Frame) (chain : List PanicEntry) : (c.raise chain).defers = c.defers := by
  unfold Frame.raise
  split <;> rfl

theorem step_of_go {fr fr' : Frame} {cs cs' : List Frame} {w w' : World} {es : Array Event} (h : stepG P true (G fr cs) w = .go (G fr' cs') w' es) : step P (lone fr cs w) = .next (lone fr' cs' w') :=
  step_lone_go (by have : stepG P true { frame := fr, callers := cs, status := .running, dying := none } w = _ := h; rw [this]; rfl)
theorem step_of_ended {fr : Frame} {cs : List Frame} {w : World} (h : isEnded (stepG P true (G fr cs) w)) : Dead P (step P (lone fr cs w)) := by
  have e : stepG P true { frame := fr, callers := cs, status := .running, dying := none } w = stepG P true (G fr cs) w := rfl
  cases hs : stepG P true (G fr cs) w with
  | ended o w' es =>
    rw [step_lone_ended (o := o) (w' := w') (by rw [e, hs]; rfl)]
    exact .ended _ _
  | _ => rw [hs] at h; exact h.elim

theorem dead_step {m : Machine} (h : Dead P (.next m)) : Dead P (step P m) := by
  generalize e : Stepped.next m = s at h
  cases h with
  | ended o w => cases e
  | @panics fr cs w chain hm hd hc hX =>
    cases e
    cases hcat : fr.catches P with
    | true =>
      have : step P (lone fr cs w) = .ended (.unsupported (.noEntry "a panic or Goexit out of a method that fmt calls behind a cut's door") (fr.pos P)) w := step_lone_ended (by simp [stepG, unwind, hm, hd, hcat])
      rw [this]
      exact .ended _ _
    | false =>
      cases cs with
      | nil => rw [hc rfl] at hcat; cases hcat
      | cons c rest =>
        have : step P (lone fr (c :: rest) w) = .next (lone (c.raise chain) rest w) := step_lone_go (by simp [stepG, unwind, hm, hd, hcat])
        rw [this]
        obtain ⟨ch, hch⟩ := raise_mode c chain
        rcases hX with h | ⟨X, hX, hall⟩
        · cases h
        cases X with
        | nil =>
          simp only [List.nil_append, List.cons.injEq] at hX
          obtain ⟨rfl, rfl⟩ := hX
          refine .panics hch (by rw [raise_defers]; rfl) (fun _ => nobody_catches _ ?_ ?_) (.inl rfl)
          · unfold Frame.raise; split <;> rfl
          · unfold Frame.raise; split <;> rfl
        | cons x X =>
          simp only [List.cons_append, List.cons.injEq] at hX
          obtain ⟨rfl, rfl⟩ := hX
          exact .panics hch (by rw [raise_defers]; exact hall c (List.mem_cons_self ..)) (fun h => by simp at h) (.inr ⟨X, rfl, fun y hy => hall y (List.mem_cons_of_mem _ hy)⟩)
  | @past v w =>
    cases e
    exact step_of_ended (by simp [G, stepG, stepG.exec, nobody, Frame.finish, nobody_row])

theorem runN_succ (k : Nat) (m : Machine) : runN P (k + 1) m = match runN P k m with | .next m' => step P m' | e => e := by
  rw [runN_add]
  cases runN P k m with
  | next m' =>
    simp only [runN]
    cases step P m' <;> rfl
  | ended o w => rfl

variable {E : Env} {Stop : Frame → World → Prop}

/-- A state from which it does not come to a stop step by step. -/
structure Bad (P : Program) (E : Env) (Stop : Frame → World → Prop) where
  fr : Frame
  X : List Frame
  w : World
  top : TopOk P E fr
  callers : ∀ c ∈ X, CallerOk P E c
  calm : Calm P w
  bad : ¬ Lone P Stop fr X w

theorem bad_next (hE : EnvOk P E) (b : Bad P E Stop) : ∃ (x : (Nat → Question → Nat) × Nat × Nat) (ob : Option (Bad P E Stop)),
    ∀ τ' d', agree x.2.2 (onT b.w x.1 x.2.1) τ' d' → match ob with
      | some b' => step P (lone b.fr (b.X ++ [nobody P]) (onT b.w τ' d')) = .next (lone b'.fr (b'.X ++ [nobody P]) (onT b'.w τ' (d' + x.2.2)))
      | none => Dead P (step P (lone b.fr (b.X ++ [nobody P]) (onT b.w τ' d'))) := by
  by_cases hb : b.X ≠ [] ∨ b.fr.mode = .run
  · -- some answer leads nowhere
    have h1 : ∃ τ d, ¬ ∃ n fr' X' w' es, (∀ e ∈ es, quietE e) ∧ (∀ main Z, stepG P main (G b.fr (b.X ++ Z)) (onT b.w τ d) = .go (G fr' (X' ++ Z)) (onT w' τ (d + n)) es) ∧ Lone P Stop fr' X' w' := by
      apply Classical.byContradiction
      intro hno
      have hall : ∀ τ d, ∃ y : Nat × Frame × List Frame × World × Array Event, (∀ e ∈ y.2.2.2.2, quietE e) ∧ (∀ main Z, stepG P main (G b.fr (b.X ++ Z)) (onT b.w τ d) = .go (G y.2.1 (y.2.2.1 ++ Z)) (onT y.2.2.2.1 τ (d + y.1)) y.2.2.2.2) ∧ Lone P Stop y.2.1 y.2.2.1 y.2.2.2.1 := fun τ d =>
        Classical.byContradiction fun h => hno ⟨τ, d, fun ⟨n, fr', X', w', es, h1, h2, h3⟩ => h ⟨(n, fr', X', w', es), h1, h2, h3⟩⟩
      exact b.bad (.step (fun τ d => (hall τ d).choose.1) (fun τ d => (hall τ d).choose.2.1) (fun τ d => (hall τ d).choose.2.2.1) (fun τ d => (hall τ d).choose.2.2.2.1) (fun τ d => (hall τ d).choose.2.2.2.2)
        (fun τ d => (hall τ d).choose_spec.1) (fun τ d => (hall τ d).choose_spec.2.1) (fun τ d => (hall τ d).choose_spec.2.2))
    obtain ⟨τ, d, hno⟩ := h1
    obtain ⟨n, hr⟩ := tame_step hE b.top b.callers (w := onT b.w τ d) (b.calm.of_heap rfl) hb
    rcases hr with ⟨fr', X', w', es, hf', hX', hc', hq, hgo⟩ | hend | hpan
    · refine ⟨(τ, d, n), some ⟨fr', X', w', hf', hX', hc', fun hl => hno ⟨n, fr', X', w', es, hq, fun main Z => hgo main Z τ d (fun _ _ _ => rfl), hl⟩⟩, fun τ' d' ha => ?_⟩
      exact step_of_go (hgo true _ τ' d' ha)
    · exact ⟨(τ, d, n), none, fun τ' d' ha => step_of_ended (hend true _ τ' d' ha)⟩
    · refine ⟨(τ, d, n), none, fun τ' d' ha => ?_⟩
      obtain ⟨chain, w', es, hgo⟩ := hpan true [nobody P] τ' d' ha
      have hst := step_of_go hgo
      rw [onT_onT] at hst
      show Dead P (step P (lone b.fr (b.X ++ [nobody P]) (onT b.w τ' d')))
      rw [hst]
      exact .panics rfl b.top.defers (fun h => by simp at h) (.inr ⟨b.X, rfl, fun c hc => (b.callers c hc).defers⟩)
  · -- it returns to nobody
    have hX : b.X = [] := Classical.byContradiction fun h => hb (.inl h)
    have hm : b.fr.mode = .returning := b.top.mode.elim (fun h => absurd (.inr h) hb) id
    refine ⟨(fun _ _ => 0, 0, 0), none, fun τ' d' _ => ?_⟩
    show Dead P (step P (lone b.fr (b.X ++ [nobody P]) (onT b.w τ' d')))
    rw [hX]
    obtain ⟨fn, _, hfn, _, _⟩ := hE.body b.fr.fn b.top.tame
    cases hr : (results fn b.fr.tmps).run P (onT b.w τ' d') with
    | ok v w' =>
      have : step P (lone b.fr [nobody P] (onT b.w τ' d')) = .next (lone ((nobody P).finish v) [] w') := step_lone_go (by simp [stepG, unwind, hm, b.top.defers, hfn, hr, doReturn, b.top.kind])
      rw [List.nil_append, this]
      exact .past
    | halt h w' =>
      refine step_of_ended ?_
      rw [List.nil_append]
      cases h <;> simp [G, stepG, unwind, hm, b.top.defers, hfn, hr]

section
variable (nx : Bad P E Stop → ((Nat → Question → Nat) × Nat × Nat) × Option (Bad P E Stop)) (b₀ : Bad P E Stop)

def bseq : Nat → Option (Bad P E Stop)
  | 0 => some b₀
  | k + 1 => (bseq k).bind fun b => (nx b).2
def bnum (k : Nat) : Nat := match bseq nx b₀ k with | some b => (nx b).1.2.2 | none => 0
def bsum : Nat → Nat
  | 0 => 0
  | k + 1 => bsum k + bnum nx b₀ k
open Classical in
noncomputable def btape (j : Nat) (q : Question) : Nat :=
  if h : ∃ k, bsum nx b₀ k ≤ j ∧ j < bsum nx b₀ (k + 1) then
    match bseq nx b₀ h.choose with
    | some b => (nx b).1.1 ((nx b).1.2.1 + (j - bsum nx b₀ h.choose)) q
    | none => 0
  else 0

theorem bsum_mono {i k : Nat} (h : i ≤ k) : bsum nx b₀ i ≤ bsum nx b₀ k := by
  induction h with
  | refl => exact Nat.le_refl _
  | step _ ih => exact Nat.le_trans ih (Nat.le_add_right _ _)

theorem btape_at {k : Nat} {b : Bad P E Stop} (hb : bseq nx b₀ k = some b) : agree (nx b).1.2.2 (onT b.w (nx b).1.1 (nx b).1.2.1) (btape nx b₀) (bsum nx b₀ k) := by
  intro j hj q
  have hn : bnum nx b₀ k = (nx b).1.2.2 := by simp [bnum, hb]
  have hex : ∃ i, bsum nx b₀ i ≤ bsum nx b₀ k + j ∧ bsum nx b₀ k + j < bsum nx b₀ (i + 1) := ⟨k, Nat.le_add_right _ _, by show _ < bsum nx b₀ k + bnum nx b₀ k; omega⟩
  have hk : hex.choose = k := by
    obtain ⟨h1, h2⟩ := hex.choose_spec
    rcases Nat.lt_trichotomy hex.choose k with h | h | h
    · have := bsum_mono nx b₀ (show hex.choose + 1 ≤ k from h)
      omega
    · exact h
    · have := bsum_mono nx b₀ (show k + 1 ≤ hex.choose from h)
      have e : bsum nx b₀ (k + 1) = bsum nx b₀ k + bnum nx b₀ k := rfl
      omega
  unfold btape
  rw [dif_pos hex, hk, hb]
  dsimp only
  rw [Nat.add_sub_cancel_left]
  rfl
end

/-- ████ FROM 'OVER EVERY TAPE THE RUN COMES TO A STOP' TO 'STEP BY STEP'. ████ -/
theorem lone_of (hE : EnvOk P E) {S : Frame → World → Prop} (hS : ∀ fr w τ d, S fr (onT w τ d) → S fr w) {fr : Frame} {w : World} (hf : TopOk P E fr) (hc : Calm P w)
    (h : ∀ τ, ∃ N fr' w', runN P N (lone fr [nobody P] (onT w τ 0)) = .next (lone fr' [nobody P] w') ∧ fr'.mode = .returning ∧ S fr' w') :
    Lone P (fun fr w => S fr w ∧ Calm P w ∧ TopOk P E fr ∧ fr.mode = .returning) fr [] w := by
  generalize hst : (fun fr w => S fr w ∧ Calm P w ∧ TopOk P E fr ∧ fr.mode = .returning) = Stop
  apply Classical.byContradiction
  intro hbad
  have hnx : ∀ b : Bad P E Stop, ∃ y : ((Nat → Question → Nat) × Nat × Nat) × Option (Bad P E Stop), ∀ τ' d', agree y.1.2.2 (onT b.w y.1.1 y.1.2.1) τ' d' → match y.2 with
      | some b' => step P (lone b.fr (b.X ++ [nobody P]) (onT b.w τ' d')) = .next (lone b'.fr (b'.X ++ [nobody P]) (onT b'.w τ' (d' + y.1.2.2)))
      | none => Dead P (step P (lone b.fr (b.X ++ [nobody P]) (onT b.w τ' d'))) := fun b => by
    obtain ⟨x, ob, hx⟩ := bad_next hE b
    exact ⟨(x, ob), hx⟩
  obtain ⟨nx, hnx⟩ : ∃ nx : Bad P E Stop → ((Nat → Question → Nat) × Nat × Nat) × Option (Bad P E Stop), ∀ b τ' d', agree (nx b).1.2.2 (onT b.w (nx b).1.1 (nx b).1.2.1) τ' d' → match (nx b).2 with
      | some b' => step P (lone b.fr (b.X ++ [nobody P]) (onT b.w τ' d')) = .next (lone b'.fr (b'.X ++ [nobody P]) (onT b'.w τ' (d' + (nx b).1.2.2)))
      | none => Dead P (step P (lone b.fr (b.X ++ [nobody P]) (onT b.w τ' d'))) := ⟨fun b => (hnx b).choose, fun b => (hnx b).choose_spec⟩
  let b₀ : Bad P E Stop := ⟨fr, [], w, hf, fun c h => absurd h (List.not_mem_nil), hc, hbad⟩
  have key : ∀ k, (∃ b, bseq nx b₀ k = some b ∧ runN P k (lone fr [nobody P] (onT w (btape nx b₀) 0)) = .next (lone b.fr (b.X ++ [nobody P]) (onT b.w (btape nx b₀) (bsum nx b₀ k)))) ∨ Dead P (runN P k (lone fr [nobody P] (onT w (btape nx b₀) 0))) := by
    intro k
    induction k with
    | zero => exact .inl ⟨b₀, rfl, rfl⟩
    | succ k ih =>
      rcases ih with ⟨b, hb, hr⟩ | hd
      · have hag := btape_at nx b₀ hb
        have hst := hnx b _ _ hag
        rw [runN_succ, hr]
        dsimp only
        cases hob : (nx b).2 with
        | none =>
          rw [hob] at hst
          exact .inr hst
        | some b' =>
          rw [hob] at hst
          refine .inl ⟨b', by simp [bseq, hb, hob], ?_⟩
          have e : bsum nx b₀ (k + 1) = bsum nx b₀ k + (nx b).1.2.2 := by
            show bsum nx b₀ k + bnum nx b₀ k = _
            simp [bnum, hb]
          rw [e]
          exact hst
      · refine .inr ?_
        rw [runN_succ]
        cases hr : runN P k (lone fr [nobody P] (onT w (btape nx b₀) 0)) with
        | next m =>
          rw [hr] at hd
          exact dead_step hd
        | ended o w' => exact .ended _ _
  obtain ⟨N, fr', w', hN, hm, hs⟩ := h (btape nx b₀)
  rcases key N with ⟨b, hb, hr⟩ | hd
  · rw [hN] at hr
    simp only [Stepped.next.injEq, lone, Machine.mk.injEq, Array.mk.injEq, List.cons.injEq, Goroutine.mk.injEq, and_true] at hr
    obtain ⟨h1, h2, h3⟩ := hr
    have hX : b.X = [] := by
      cases hx : b.X with
      | nil => rfl
      | cons c l =>
        rw [hx] at h3
        have := congrArg List.length h3
        simp only [List.length_cons, List.length_nil, List.length_append, List.cons_append] at this
        omega
    refine b.bad ?_
    have hs' : S b.fr b.w := hS b.fr b.w _ _ (by rw [← h1, ← h2]; exact hs)
    rw [hX]
    exact .stop ((congrFun (congrFun hst b.fr) b.w).mp ⟨hs', b.calm, b.top, by rw [← h2]; exact hm⟩)
  · rw [hN] at hd
    generalize e : Stepped.next (lone fr' [nobody P] w') = s at hd
    cases hd with
    | ended o w => cases e
    | panics hm' _ _ _ =>
      simp only [Stepped.next.injEq, lone, Machine.mk.injEq, Array.mk.injEq, List.cons.injEq, Goroutine.mk.injEq, and_true] at e
      rw [e.2.1] at hm
      rw [hm] at hm'
      cases hm'
    | past =>
      simp only [Stepped.next.injEq, lone, Machine.mk.injEq, Array.mk.injEq, List.cons.injEq, Goroutine.mk.injEq, and_true] at e
      cases e.2.2
end
end Go.Proofs.YtifdhaiihlfomaaDoor
