/-
  Goroutine 0's walk beside leavers: operations that draw; in a region that draws its order, operations that lay or store. No program in sight.
-/
import Derived.Test.YtifdhaiihlfomaaDoorConTopE
namespace Go.Proofs.YtifdhaiihlfomaaDoor
open Go Go.Conc
set_option linter.unusedVariables false

section
variable {P : Program} {E : Env} {fn : FuncId} {ops : Array Oper} {Q : Exit → Act → World → Prop} {S : World → Prop}

theorem mild_quiet (hcalm : ∀ w, Calm P w) (hpins : ∀ i, E.pins fn i = false) {o : Oper} {a : Act} (hkind : kindOk P E fn o.op = true) (w : World) : ∀ e ∈ listed P fn a o w, quietE e := by
  obtain ⟨n, r, es, h1, h2, h3⟩ := mild_run (mild_exec (P := P) (E := E) (fn := fn) (a := a) (o := o) (fun j hj => by rw [hpins] at hj; cases hj) hkind) w #[] (hcalm w)
  have e0 := h1 w.tape w.drawn (fun _ _ _ => rfl)
  rw [onT_self] at e0
  simp only [Sem.runT_eq, Prod.mk.injEq] at e0
  intro e he
  have hm := mem_listed he
  rw [e0.2] at hm
  exact h2 e (by simpa using hm)
/-- An operation that may draw: in whichever world it comes up. -/
theorem opsD_any (hcalm : ∀ w, Calm P w) (hpins : ∀ i, E.pins fn i = false) {i : Nat} {rest : List Nat} {o : Oper} {a : Act} {w : World} (ho : ops[i]? = some o) (hw : Region.wanted o (yielded ops a.tmps) = true) (hkind : kindOk P E fn o.op = true)
    (h : ∀ w₁, AtRel w w₁ → ∃ v w', (execOp a.eval o).run P w₁ = .ok (.value v) w' ∧ OpsD P fn ops rest Q (a.put o.dst v) w') : OpsD P fn ops (i :: rest) Q a w := by
  refine opsD_cons_k ho hw fun w₁ h₁ K hK => ?_
  obtain ⟨v, w', e1, e2⟩ := h w₁ h₁
  rw [e1]
  exact hK _ _ ⟨mild_quiet hcalm hpins hkind w₁, e2⟩
/-- In a region that draws its order: one alone may come up, and it lays. -/
theorem anyD_turn (hcalm : ∀ w, Calm P w) (hpins : ∀ i, E.pins fn i = false) (hSR : ∀ x y, S x → AtRel x y → S y) (hQR : ∀ a x y, Q .normal a x → AtRel x y → Q .normal a y) {i : Nat} {o : Oper} {x : Next} {v : Value} {fuel : Nat} {listed : Array Bool} {a : Act} {w w' : World}
    (hrun : (execOp a.eval o).run P w = .ok x w') (hx : x = .value v ∨ (x = .skip ∧ v = undef)) (hr : Region.ready .any ops listed = [i]) (hi : ops[i]? = some o) (hw : Region.wanted o (yielded ops a.tmps) = true) (hkind : kindOk P E fn o.op = true) (hd : w'.drawn = w.drawn)
    (hS : S w') (h : AnyD P fn .any ops Q S fuel (listed.setIfInBounds i true) (a.put o.dst v) w') : AnyD P fn .any ops Q S (fuel + 1) listed a w := by
  refine ⟨fun e => (by rw [hr] at e; cases e), fun j hj => ?_⟩
  rw [hr, List.mem_singleton] at hj
  subst hj
  unfold OpD
  simp only [hi, hw, if_true]
  refine .inl fun w₁ h₁ => ?_
  obtain ⟨w₂, e1, e2, e3⟩ := mild_all hcalm hpins hkind hrun hd w₁ h₁
  rw [e1]
  rcases hx with rfl | ⟨rfl, rfl⟩
  · exact ⟨e3, hSR _ _ hS e2, AnyD.rely hSR hQR _ _ _ _ _ h e2⟩
  · exact ⟨e3, hSR _ _ hS e2, AnyD.rely hSR hQR _ _ _ _ _ h e2⟩
end
end Go.Proofs.YtifdhaiihlfomaaDoor
