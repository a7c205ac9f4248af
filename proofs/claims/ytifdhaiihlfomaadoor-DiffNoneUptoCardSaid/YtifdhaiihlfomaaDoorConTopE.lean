/-
  Goroutine 0's walk beside leavers: an operation by its run in ONE world; a call of a tame function by its contract. No program in sight.
-/
import Derived.Test.YtifdhaiihlfomaaDoorConTopD
namespace Go.Proofs.YtifdhaiihlfomaaDoor
open Go Go.Conc
set_option linter.unusedVariables false

section
variable {P : Program} {E : Env} {fn : FuncId} {ops : Array Oper} {Q : Exit → Act → World → Prop} {S : World → Prop}

/-- What an operation that draws nothing does in one world it does in each that has drawn more. -/
theorem mild_all (hcalm : ∀ w, Calm P w) (hpins : ∀ i, E.pins fn i = false) {o : Oper} {a : Act} {x : Next} {w w' : World} (hkind : kindOk P E fn o.op = true) (hrun : (execOp a.eval o).run P w = .ok x w') (hd : w'.drawn = w.drawn) :
    ∀ w₁, AtRel w w₁ → ∃ w₂, (execOp a.eval o).run P w₁ = .ok x w₂ ∧ AtRel w' w₂ ∧ ∀ e ∈ listed P fn a o w₁, quietE e := by
  obtain ⟨n, r, es, h1, h2, h3⟩ := mild_run (mild_exec (P := P) (E := E) (fn := fn) (a := a) (o := o) (fun j hj => by rw [hpins] at hj; cases hj) hkind) w #[] (hcalm w)
  have e0 := h1 w.tape w.drawn (fun _ _ _ => rfl)
  rw [onT_self] at e0
  simp only [Sem.runT_eq, Prod.mk.injEq] at e0
  rw [hrun] at e0
  cases r with
  | halt h wr => cases e0.1
  | ok y wr =>
    have e1 := e0.1
    unfold resT at e1
    dsimp only at e1
    injection e1 with e1 e2
    subst e1
    have hn : n = 0 := by
      have := congrArg World.drawn e2
      rw [hd] at this
      have h4 : (onT wr w.tape (w.drawn + n)).drawn = w.drawn + n := rfl
      omega
    subst hn
    rintro w₁ ⟨d, rfl⟩
    have e3 := h1 w.tape d (fun _ hj => absurd hj (Nat.not_lt_zero _))
    simp only [Sem.runT_eq, Prod.mk.injEq] at e3
    refine ⟨onT wr w.tape d, by rw [at_onT]; exact e3.1, ⟨d, by rw [e2]; rfl⟩, fun e he => ?_⟩
    have hm := mem_listed he
    rw [at_onT, e3.2] at hm
    exact h2 e (by simpa using hm)

theorem opsD_mild (hE : EnvOk P E) (hcalm : ∀ w, Calm P w) (hpins : ∀ i, E.pins fn i = false) {i : Nat} {rest : List Nat} {o : Oper} {v : Value} {a : Act} {w w' : World} (hrun : (execOp a.eval o).run P w = .ok (.value v) w') (ho : ops[i]? = some o) (hw : Region.wanted o (yielded ops a.tmps) = true)
    (hkind : kindOk P E fn o.op = true) (hd : w'.drawn = w.drawn) (h : OpsD P fn ops rest Q (a.put o.dst v) w') : OpsD P fn ops (i :: rest) Q a w := by
  refine opsD_cons_k ho hw fun w₁ h₁ K hK => ?_
  obtain ⟨w₂, e1, e2, e3⟩ := mild_all hcalm hpins hkind hrun hd w₁ h₁
  rw [e1]
  exact hK _ _ ⟨e3, fun b k cs S hb hk hc => Drive.rely (h b k cs S hb hk hc) e2⟩
theorem opsD_mildS (hE : EnvOk P E) (hcalm : ∀ w, Calm P w) (hpins : ∀ i, E.pins fn i = false) {i : Nat} {rest : List Nat} {o : Oper} {a : Act} {w w' : World} (hrun : (execOp a.eval o).run P w = .ok .skip w') (ho : ops[i]? = some o) (hw : Region.wanted o (yielded ops a.tmps) = true)
    (hkind : kindOk P E fn o.op = true) (hd : w'.drawn = w.drawn) (h : OpsD P fn ops rest Q (a.put o.dst undef) w') : OpsD P fn ops (i :: rest) Q a w := by
  refine opsD_cons_k ho hw fun w₁ h₁ K hK => ?_
  obtain ⟨w₂, e1, e2, e3⟩ := mild_all hcalm hpins hkind hrun hd w₁ h₁
  rw [e1]
  exact hK _ _ ⟨e3, fun b k cs S hb hk hc => Drive.rely (h b k cs S hb hk hc) e2⟩
/-- A call of a tame function, by its contract. -/
theorem opsD_tame (hE : EnvOk P E) (hcalm : ∀ w, Calm P w) {i : Nat} {rest : List Nat} {o : Oper} {f : FuncId} {fx : Func} {code : Code} {args : Array Operand} {av : Array Value} {ats : Array TypeId} {R : Value → World → Prop} {a : Act} {w : World}
    (ho : ops[i]? = some o) (hw : Region.wanted o (yielded ops a.tmps) = true) (hop : o.op = .call { callee := .value (.func f), args, argTypes := ats }) (hav : args.map a.eval = av)
    (hf : P.funcs[f]? = some fx) (hname : (fx.name == "runtime.NumGoroutine") = false) (hbody : fx.body = some code) (hT : E.T f = true) (hpin : ∀ j, E.pins f j = false)
    (hR : ∀ v w τ d, R v w → R v (onT w τ d)) (hcall : ∀ τ, Calls P f av (onT w τ 0) fun e w' => ∃ v, e = .returned v ∧ R v w')
    (hnext : ∀ v w', R v w' → OpsD P fn ops rest Q (a.put o.dst v) w') : OpsD P fn ops (i :: rest) Q a w :=
  opsD_call ho hw hop hav hf hname hbody (callsD_of_calls hE hcalm hT (fun j hj => by rw [hpin] at hj; cases hj) hR hcall) hnext
/-- In a region that draws: an operation that only reads, taken ahead. -/
theorem anyD_mild (hE : EnvOk P E) (hcalm : ∀ w, Calm P w) (hpins : ∀ i, E.pins fn i = false) (hSR : ∀ x y, S x → AtRel x y → S y) (hQR : ∀ a x y, Q .normal a x → AtRel x y → Q .normal a y) (i : Nat) {oi : Oper} {v : Value} {fuel : Nat} {listed : Array Bool} {a : Act} {w : World}
    (hy : ∀ w, S w → (execOp a.eval oi).run P w = .ok (.value v) w) (hi : ops[i]? = some oi) (hw : Region.wanted oi (yielded ops a.tmps) = true) (hkind : kindOk P E fn oi.op = true)
    (hs : Region.noSelect ops = true) (hf : Region.free .any ops listed i = true) (hr : (Region.ready .any ops listed).contains i = true) (hS : S w)
    (h : AnyD P fn .any ops Q S fuel (listed.setIfInBounds i true) (a.put oi.dst v) w) : AnyD P fn .any ops Q S (fuel + 1) listed a w :=
  anyD_take hSR hQR hi hs hf hr (.inl ⟨hw, fun w hSw => ⟨hy w hSw, fun e he => by
    obtain ⟨w₂, e1, e2, e3⟩ := mild_all hcalm hpins hkind (hy w hSw) rfl w (AtRel.self w)
    exact e3 e he⟩⟩) hS h
theorem anyD_skip (hSR : ∀ x y, S x → AtRel x y → S y) (hQR : ∀ a x y, Q .normal a x → AtRel x y → Q .normal a y) (i : Nat) {oi : Oper} {fuel : Nat} {listed : Array Bool} {a : Act} {w : World}
    (hi : ops[i]? = some oi) (hw : Region.wanted oi (yielded ops a.tmps) = false) (hs : Region.noSelect ops = true) (hf : Region.free .any ops listed i = true) (hr : (Region.ready .any ops listed).contains i = true) (hS : S w)
    (h : AnyD P fn .any ops Q S fuel (listed.setIfInBounds i true) (a.put oi.dst undef) w) : AnyD P fn .any ops Q S (fuel + 1) listed a w :=
  anyD_take hSR hQR hi hs hf hr (.inr ⟨hw, rfl⟩) hS h
end

section
variable {P : Program}
theorem stepG_done {b : Frame} {a : Act} {w : World} {fn : Func} {todo : List Item} {v : Value} (hn : b.kind = .normal) (hd : a.defers = []) (hf : P.funcs[b.fn]? = some fn) (hr : (results fn a.tmps).run P w = .ok v w) (he : (results fn a.tmps).events P w #[] = #[]) (hi : P.inits.idxOf? b.fn = none) :
    stepG P true (G { b.at a todo with mode := .returning } []) w = .ended (.done v) w #[] := by
  simp [G, stepG, unwind, doReturn, Frame.at, hn, hd, hf, hr, he, hi, seen, GStep.after]
/-- Goroutine 0's first function, by its body. -/
theorem drive_top {f : FuncId} {fx : Func} {code : Code} {args : Array Value} {R : Value → World → Prop} {w : World} (hf : P.funcs[f]? = some fx) (hb : fx.body = some code)
    (h : wpD P f code (bodyD P fx R) { tmps := args ++ Array.replicate (fx.ntmps - args.size) undef, defers := [] } w) (hR : ∀ v w d, R v w → R v (w.at d)) (hi : P.inits.idxOf? f = none) :
    Drive P (fun a' w' => a'.status = .running ∧ ∃ v es, (∀ e ∈ es, quietE e) ∧ ∀ d, stepG P true a' (w'.at d) = .ended (.done v) (w'.at d) es ∧ R v (w'.at d)) (G (Frame.enter P f args .normal) []) w := by
  generalize hSt : (fun (a' : Goroutine) (w' : World) => a'.status = .running ∧ ∃ v es, (∀ e ∈ es, quietE e) ∧ ∀ d, stepG P true a' (w'.at d) = .ended (.done v) (w'.at d) es ∧ R v (w'.at d)) = St
  have hleave : ∀ (a' : Act) (w' : World) (todo : List Item), (a'.defers = [] ∧ ∃ v, ResultsC P fx a'.tmps v ∧ R v w') → Drive P St (G { (base f).at a' todo with mode := .returning } []) w' := by
    rintro a' w' todo ⟨hd, v, hr, hp⟩
    refine Drive.stop fun d => ?_
    subst hSt
    exact ⟨rfl, v, #[], quiet_none, fun d' => ⟨stepG_done (b := base f) rfl hd hf (hr _).1 (hr _).2 hi, hR _ _ _ (hR _ _ d hp)⟩⟩
  rw [enter_at args hf hb]
  refine h (base f) [] [] St rfl (by simp [base]) fun e a' w' q => ?_
  cases e with
  | normal => exact drive_ctl rfl (fun _ => stepG_end) (hleave a' w' [] q)
  | ret => exact fun todo => hleave a' w' todo q
  | exit id => exact q.elim
  | goto l => exact q.elim
  | panic ch => exact q.elim
  | outgrown => exact q.elim
end

end Go.Proofs.YtifdhaiihlfomaaDoor
