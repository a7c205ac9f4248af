/-
  A call of a tame function, by the contract that was shown for it running alone, made beside goroutines that only leave. The first frame and the last step of a whole run. No program in sight.
-/
import Derived.Test.YtifdhaiihlfomaaDoorConDrive
import Derived.Conc.LeavingOf
namespace Go.Proofs.YtifdhaiihlfomaaDoor
open Go Go.Conc
set_option linter.unusedVariables false

section
variable {P : Program} {E : Env}

theorem enter_top (hE : EnvOk P E) {f : FuncId} {args : Array Value} (hT : E.T f = true) (hargs : ∀ i, E.pins f i = true → okPin E (args.getD i undef)) : TopOk P E (Frame.enter P f args .normal) := by
  obtain ⟨fn, c, hfn, hbody, hcode⟩ := hE.body f hT
  refine ⟨⟨rfl, rfl, rfl, hT, ?_, fun j hj => ?_⟩, .inl rfl⟩
  · intro x hx
    have e : (Frame.enter P f args .normal).todo = [.code c] := by simp [Frame.enter, hfn, hbody]
    rw [e, List.mem_singleton] at hx
    subst hx
    exact hcode
  · have := hargs j hj
    simp only [Frame.enter]
    rw [Array.getD_eq_getD_getElem?] at this ⊢
    rw [Array.getElem?_append]
    split
    · exact this
    · rw [Array.getElem?_replicate]
      split <;> exact okPin_undef

/-- What a leaving frame hands over hangs on memory alone. -/
theorem results_any {fn : Func} {tmps : Array Value} {w : World} {τ : Nat → Question → Nat} {d : Nat} {v : Value} (hc : Calm P w) (h : (results fn tmps).run P (onT w τ d) = .ok v (onT w τ d)) :
    ∃ es, (∀ e ∈ es, quietE e) ∧ ∀ τ' d', (results fn tmps).run P (onT w τ' d') = .ok v (onT w τ' d') ∧ (results fn tmps).events P (onT w τ' d') #[] = es := by
  have hml : MildT P (results fn tmps) := by
    unfold results
    refine mildT_bind (mild_mapArray (fun x => ?_) _) fun _ => trivial
    cases x with
    | tmp t => exact trivial
    | cell a t => exact mildT_bind (mild_asAddr _) fun _ => mild_loadVar _ _
  obtain ⟨n, r, es, h1, h2, h3⟩ := mild_run hml (onT w τ d) #[] (hc.of_heap rfl)
  have e0 := h1 τ d (fun _ _ _ => rfl)
  simp only [Sem.runT_eq, Prod.mk.injEq, onT_onT] at e0
  rw [h] at e0
  cases r with
  | halt x y => cases e0.1
  | ok v' w' =>
    have e1 := e0.1
    simp only [resT, Result.ok.injEq] at e1
    obtain ⟨rfl, e2⟩ := e1
    have hd : d = d + n := congrArg World.drawn e2
    have hn : n = 0 := by omega
    subst hn
    have hw : ∀ τ' d', onT w τ' d' = onT w' τ' d' := fun τ' d' => by
      have := congrArg (fun x => onT x τ' d') e2
      exact this
    refine ⟨es, h2, fun τ' d' => ?_⟩
    have e3 := h1 τ' d' (fun j hj => absurd hj (Nat.not_lt_zero _))
    simp only [Sem.runT_eq, Prod.mk.injEq, onT_onT] at e3
    refine ⟨?_, by rw [e3.2]; simp⟩
    rw [e3.1, hw]
    rfl

/-- ████ A CALL BY ITS CONTRACT. ████ 'R': what is said of the result and of memory; it hangs on memory alone. -/
theorem drive_calls (hE : EnvOk P E) {f : FuncId} {args : Array Value} {c : Frame} {cs : List Frame} {w : World} {R : Value → World → Prop} (hT : E.T f = true) (hargs : ∀ i, E.pins f i = true → okPin E (args.getD i undef))
    (hc : Calm P w) (hR : ∀ v w τ d, R v w → R v (onT w τ d)) (h : ∀ τ, Calls P f args (onT w τ 0) fun e w' => ∃ v, e = .returned v ∧ R v w') :
    Drive P (fun a' w' => ∃ v, a' = G (c.finish v) cs ∧ R v w' ∧ Calm P w') (G (Frame.enter P f args .normal) (c :: cs)) w := by
  have hL := lone_of hE (S := fun fr w => ∃ v τ d fn, fr.kind = .normal ∧ P.funcs[fr.fn]? = some fn ∧ (results fn fr.tmps).run P (onT w τ d) = .ok v (onT w τ d) ∧ R v w)
    (fun fr w τ d ⟨v, τ', d', fn, h1, h2, h3, h4⟩ => ⟨v, τ', d', fn, h1, h2, h3, hR v (onT w τ d) w.tape w.drawn h4⟩) (enter_top hE hT hargs) hc (fun τ => by
      obtain ⟨e, w', fr, ⟨v, rfl, hv⟩, ⟨N, hN⟩, _, hm, hd, hk, fn, hfn, hr⟩ := h τ [nobody P]
      exact ⟨N, fr, w', hN, hm, v, w'.tape, w'.drawn, fn, hk, hfn, hr, hv⟩)
  refine (drive_lone hL (c :: cs) w.tape w.drawn).trans ?_
  rintro a' w' ⟨fr, w₁, rfl, ⟨⟨v, τ, d, fn, hk, hfn, hr, hv⟩, hc₁, htop, hm⟩, d', rfl⟩
  obtain ⟨es, hq, hall⟩ := results_any hc₁ hr
  refine Drive.step rfl fun d₂ => ⟨G (c.finish v) cs, onT w₁ w.tape d₂, seen P fr.fn es, ?_, fun e he => hq e (mem_seen he), Drive.stop fun d₃ => ⟨v, rfl, hR v w₁ _ _ hv, hc₁.of_heap rfl⟩⟩
  obtain ⟨e1, e2⟩ := hall w.tape d₂
  have e0 : (onT w₁ w.tape d').at d₂ = onT w₁ w.tape d₂ := rfl
  rw [e0]
  simp [G, stepG, unwind, hm, htop.defers, hfn, e1, e2, doReturn, hk, GStep.after]

/-- THE WHOLE RUN: from the first frame to the return. -/
theorem drive_ends {Post : Value → World → Prop} {fr : Frame} {w : World}
    (h : Drive P (fun a' w' => a'.status = .running ∧ ∃ v es, (∀ e ∈ es, quietE e) ∧ ∀ d, stepG P true a' (w'.at d) = .ended (.done v) (w'.at d) es ∧ Post v (w'.at d)) (G fr []) w) :
    ∃ M last o w' t', runNT P (M + 1) (solo (G fr []) w) #[] = (.ended o w', t') ∧ runN P M (solo (G fr []) w) = .next last ∧ step P last = .ended o w' ∧ Conc.Good P Post last o w' t' := by
  obtain ⟨N, gs, a, w₁, sl, t, q, B, r, z, ⟨hrun, v, es, hq, hend⟩, L, H⟩ := h w.drawn #[G fr []] none #[] (fun _ => 0) 0 rfl (leavers_one _ _) past_nil
  obtain ⟨B', hB, hev⟩ := evL_some hq B
  obtain ⟨M, last, o, w', t', e1, e2, e3, e4⟩ := beside_ends (P := P) (Shun := fun _ => False) (B := B') (D := fun _ _ es => ∀ e ∈ es, EvL (fun _ => False) B' e) (Post := Post) (sl := sl) (n := 0) (fun _ _ _ h => h) z L (H.mono hB)
    (show Goes P true AtRel _ (AtEnd P (fun _ => False) B' Post) 0 a w₁ from fun w₂ ⟨d, hd⟩ => by
      subst hd
      exact ⟨hrun, v, es, (hend d).1, hev, (hend d).2⟩)
  rw [solo_eq_crowd]
  have hr : runNT P N (crowd #[G fr []] w none) #[] = (.next (crowd gs w₁ sl), t) := r
  refine ⟨N + M, last, o, w', t', ?_, ?_, e3, e4⟩
  · rw [Nat.add_assoc, runNT_add, hr]
    exact e1
  · rw [runN_add, ← runNT_fst P _ _ #[], hr]
    exact e2
end
end Go.Proofs.YtifdhaiihlfomaaDoor
