/-
  Goroutine 0's walk, beside leavers, through a region that draws its order and in which functions are called: any order that can be drawn; what reads alone may be taken first. And calls of tame functions, by the contracts of runs alone. No program in sight.
-/
import Derived.Test.YtifdhaiihlfomaaDoorConTop
import Derived.Conc.CompanyDraw
namespace Go.Proofs.YtifdhaiihlfomaaDoor
open Go Go.Conc
set_option linter.unusedVariables false

theorem CallsD.rely {P : Program} {f : FuncId} {args : Array Value} {w w₁ : World} {R : Value → World → Prop} (h : CallsD P f args w R) (r : AtRel w w₁) : CallsD P f args w₁ R := fun c cs S hc => Drive.rely (h c cs S hc) r
theorem CallsD.mono {P : Program} {f : FuncId} {args : Array Value} {w : World} {R R' : Value → World → Prop} (h : CallsD P f args w R) (hr : ∀ v w, R v w → R' v w) : CallsD P f args w R' := fun c cs S hc => h c cs S fun v w' r => hc v w' (hr v w' r)

/-- ████ A CALL OF A TAME FUNCTION, by its contract alone. ████ -/
theorem callsD_of_calls {P : Program} {E : Env} (hE : EnvOk P E) (hcalm : ∀ w, Calm P w) {f : FuncId} {args : Array Value} {w : World} {R : Value → World → Prop} (hT : E.T f = true) (hargs : ∀ i, E.pins f i = true → okPin E (args.getD i undef))
    (hR : ∀ v w τ d, R v w → R v (onT w τ d)) (h : ∀ τ, Calls P f args (onT w τ 0) fun e w' => ∃ v, e = .returned v ∧ R v w') : CallsD P f args w R := fun c cs S hc =>
  (drive_calls (c := c) (cs := cs) hE hT hargs (hcalm w) hR h).trans fun a' w' ⟨v, e, r, _⟩ => by
    subst e
    exact hc v w' r

/-- Operation number i comes up; K is asked of the state in which it ends. -/
def OpD (P : Program) (fn : FuncId) (ops : Array Oper) (i : Nat) (K : Act → World → Prop) (a : Act) (w : World) : Prop :=
  match ops[i]? with
  | none => False
  | some o => if Region.wanted o (yielded ops a.tmps) then
      (∀ w₁, AtRel w w₁ → uponK o a (fun a' w' => Dq w₁ w' (listed P fn a o w₁) ∧ K a' w') ((execOp a.eval o).run P w₁)) ∨
      (∃ f fx code args ats R, o.op = .call { callee := .value (.func f), args, argTypes := ats } ∧ P.funcs[f]? = some fx ∧ (fx.name == "runtime.NumGoroutine") = false ∧ fx.body = some code ∧ CallsD P f (args.map a.eval) w R ∧ ∀ v w', R v w' → K (a.put o.dst v) w')
    else K (a.put o.dst undef) w

section
variable {P : Program} {fn : FuncId} {ops : Array Oper} {Q : Exit → Act → World → Prop} {md : Region.Mode} {S : World → Prop}

theorem OpD_mono {i : Nat} {a : Act} {w : World} {K K' : Act → World → Prop} (h : ∀ a w, K a w → K' a w) (hh : OpD P fn ops i K a w) : OpD P fn ops i K' a w := by
  unfold OpD at *
  split
  · simp_all
  · rename_i o ho
    simp only [ho] at hh
    split
    · rename_i hw
      simp only [hw, if_true] at hh
      rcases hh with h1 | ⟨f, fx, code, args, ats, R, h1, h2, h3, h4, h5, h6⟩
      · exact .inl fun w₁ h₁ => uponK_mono (fun a' w' x => ⟨x.1, h _ _ x.2⟩) (h1 w₁ h₁)
      · exact .inr ⟨f, fx, code, args, ats, R, h1, h2, h3, h4, h5, fun v w' p => h _ _ (h6 v w' p)⟩
    · rename_i hw; simp only [hw] at hh; exact h _ _ hh

theorem opsD_of_opD {i : Nat} {rest : List Nat} {a : Act} {w : World} (h : OpD P fn ops i (fun a' w' => OpsD P fn ops rest Q a' w') a w) : OpsD P fn ops (i :: rest) Q a w := by
  unfold OpD at h
  split at h
  · exact h.elim
  · rename_i o ho
    split at h
    · rename_i hw
      rcases h with h1 | ⟨f, fx, code, args, ats, R, h1, h2, h3, h4, h5, h6⟩
      · refine opsD_cons_k ho hw fun w₁ h₁ K hK => ?_
        exact uponK_mono (fun a' w' x => hK a' w' x) (h1 w₁ h₁)
      · exact opsD_call ho hw h1 rfl h2 h3 h4 h5 h6
    · rename_i hw
      exact opsD_unwanted ho (by simpa using hw) h

def AnyD (P : Program) (fn : FuncId) (md : Region.Mode) (ops : Array Oper) (Q : Exit → Act → World → Prop) (S : World → Prop) : Nat → Array Bool → Act → World → Prop
  | 0, listed, a, w => Region.ready md ops listed = [] ∧ Q .normal a w
  | fuel + 1, listed, a, w =>
    (Region.ready md ops listed = [] → Q .normal a w) ∧
    ∀ i ∈ Region.ready md ops listed, OpD P fn ops i (fun a' w' => S w' ∧ AnyD P fn md ops Q S fuel (listed.setIfInBounds i true) a' w') a w

theorem AnyD.rely (hSR : ∀ x y, S x → AtRel x y → S y) (hQR : ∀ a x y, Q .normal a x → AtRel x y → Q .normal a y) :
    ∀ (fuel : Nat) (listed : Array Bool) (a : Act) (w w₁ : World), AnyD P fn md ops Q S fuel listed a w → AtRel w w₁ → AnyD P fn md ops Q S fuel listed a w₁
  | 0, _, _, _, _, h, r => ⟨h.1, hQR _ _ _ h.2 r⟩
  | fuel + 1, listed, a, w, w₁, h, r => ⟨fun e => hQR _ _ _ (h.1 e) r, fun i hi => by
      have this := h.2 i hi
      unfold OpD at *
      split
      · simp_all
      · rename_i o ho
        simp only [ho] at this
        split
        · rename_i hw
          simp only [hw, if_true] at this
          rcases this with h1 | ⟨f, fx, code, args, ats, R, h1, h2, h3, h4, h5, h6⟩
          · exact .inl fun w₂ h₂ => h1 w₂ (termsQ.trans _ _ _ r h₂)
          · exact .inr ⟨f, fx, code, args, ats, R, h1, h2, h3, h4, h5.rely r, h6⟩
        · rename_i hw; simp only [hw] at this; exact ⟨hSR _ _ this.1 r, AnyD.rely hSR hQR fuel _ _ _ _ this.2 r⟩⟩

theorem anyD_sound : ∀ (fuel t : Nat) (listed : Array Bool) (a : Act) (w : World), AnyD P fn md ops Q S fuel listed a w →
    OpsD P fn ops (Region.linearise.go md ops fuel t listed []) Q a w := by
  intro fuel
  induction fuel with
  | zero =>
    intro t listed a w h
    simpa [Region.linearise.go] using opsD_nil h.2
  | succ fuel ih =>
    intro t listed a w h
    obtain ⟨h₀, h₁⟩ := h
    simp only [Region.linearise.go]
    change OpsD P fn ops (match (Region.ready md ops listed)[t % (Region.ready md ops listed).length]? with
      | some i => Region.linearise.go md ops fuel (t / (Region.ready md ops listed).length) (listed.setIfInBounds i true) [i]
      | none => [].reverse) Q a w
    cases hi : (Region.ready md ops listed)[t % (Region.ready md ops listed).length]? with
    | none =>
      have hnil : Region.ready md ops listed = [] := by
        cases hr : Region.ready md ops listed with
        | nil => rfl
        | cons x xs =>
          rw [hr] at hi
          have hlt : t % (x :: xs).length < (x :: xs).length := Nat.mod_lt _ (by simp)
          simp at hi
          simp at hlt
          omega
      simpa using opsD_nil (h₀ hnil)
    | some i =>
      simp only []
      rw [linearise_go_acc, List.reverse_singleton, List.singleton_append]
      exact opsD_of_opD (OpD_mono (fun a' w' x => ih _ _ a' w' x.2) (h₁ i (List.mem_of_getElem? hi)))

theorem YieldsIfC.opD (hSR : ∀ x y, S x → AtRel x y → S y) {i : Nat} {o : Oper} {v : Value} {a : Act} (hi : ops[i]? = some o) (hy : YieldsIfC P Dq fn ops S o v a)
    {K : Act → World → Prop} (hK : ∀ a x y, K a x → AtRel x y → K a y) {w : World} (hS : S w) (h : K (a.put o.dst v) w) : OpD P fn ops i K a w := by
  unfold OpD
  simp only [hi]
  rcases hy with ⟨hw, hv⟩ | ⟨hw, rfl⟩
  · simp only [hw, if_true]
    refine .inl fun w₁ h₁ => ?_
    rw [(hv w₁ (hSR _ _ hS h₁)).1]
    exact ⟨(hv w₁ (hSR _ _ hS h₁)).2, hK _ _ _ h h₁⟩
  · simp only [hw, Bool.false_eq_true, if_false]; exact h

theorem OpD_putIf {j : Nat} {oi oj : Oper} {v : Value} (hj : ops[j]? = some oj) (hap : oi.apart ops oj = true)
    (hsi : ∀ cs b, oi.op ≠ .select cs b) (hsj : ∀ cs b, oj.op ≠ .select cs b) {K : Act → World → Prop} {a : Act} {w : World}
    (hy : YieldsIfC P Dq fn ops S oi v a) (h : OpD P fn ops j K (a.put oi.dst v) w) :
    OpD P fn ops j (fun a' w' => YieldsIfC P Dq fn ops S oi v a' ∧ K (a'.put oi.dst v) w') a w := by
  obtain ⟨h1, h2, h3⟩ := Oper.apart_spec hap
  have keep : ∀ (a : Act), YieldsIfC P Dq fn ops S oi v a → ∀ u, YieldsIfC P Dq fn ops S oi v (a.put oj.dst u) := fun a hy u =>
    hy.of_same (execOp_put oi hsi a oj.dst u h3) (wanted_put oi a oj.dst u h3)
  unfold OpD at *
  simp only [hj] at *
  rw [wanted_put oj a oi.dst v h1] at h
  split
  · rename_i hw
    simp only [hw, if_true] at h
    rcases h with h | ⟨f, fx, code, args, ats, R, h4, h5, h6, h7, h8, h9⟩
    · refine .inl fun w₁ h₁ => ?_
      have h := h w₁ h₁
      unfold listed at *
      rw [execOp_put oj hsj a oi.dst v h1] at h
      generalize (execOp a.eval oj).run P w₁ = r at *
      cases r with
      | ok n w' =>
        cases n <;> simp only [uponK] at h ⊢
        case value u => exact ⟨h.1, keep a hy u, by rw [← Act.put_comm a v u h2]; exact h.2⟩
        case skip => exact ⟨h.1, keep a hy _, by rw [← Act.put_comm a v undef h2]; exact h.2⟩
      | halt x w' => simp only [uponK] at h
    · refine .inr ⟨f, fx, code, args, ats, R, h4, h5, h6, h7, ?_, fun u w' p => ⟨keep a hy u, by rw [← Act.put_comm a v u h2]; exact h9 u w' p⟩⟩
      have e : args.map (a.put oi.dst v).eval = args.map a.eval := by
        refine Array.map_congr_left fun x hx => Act.eval_put fun d hd hxd => ?_
        refine h1 d hd ?_
        unfold Oper.looksAt
        refine List.mem_append.2 (.inl (List.mem_filterMap.2 ⟨x, ?_, by rw [hxd]⟩))
        rw [h4]
        simpa [Op.operands, Call.operands] using .inr (by simpa using hx)
      rw [← e]
      exact h8
  · rename_i hw
    simp only [hw] at h
    exact ⟨keep a hy _, by rw [← Act.put_comm a v undef h2]; exact h⟩

theorem anyD_first (hSR : ∀ x y, S x → AtRel x y → S y) (hQR : ∀ a x y, Q .normal a x → AtRel x y → Q .normal a y) {i : Nat} {oi : Oper} {v : Value} (hi : ops[i]? = some oi)
    (hsel : ∀ (j : Nat) (o : Oper) cs b, ops[j]? = some o → o.op ≠ .select cs b) :
    ∀ (fuel : Nat) (listed : Array Bool) (a : Act) (w : World),
      (∀ j oj, ops[j]? = some oj → j ≠ i → listed.getD j true = false → (∀ e ∈ oj.after, Region.binds md e = true → e.on ≠ i) → oi.apart ops oj = true) →
      i ∈ Region.ready md ops listed → YieldsIfC P Dq fn ops S oi v a → S w →
      AnyD P fn md ops Q S fuel (listed.setIfInBounds i true) (a.put oi.dst v) w → AnyD P fn md ops Q S (fuel + 1) listed a w := by
  have hK : ∀ fuel listed, ∀ a x y, (S x ∧ AnyD P fn md ops Q S fuel listed a x) → AtRel x y → (S y ∧ AnyD P fn md ops Q S fuel listed a y) :=
    fun fuel listed a x y h r => ⟨hSR _ _ h.1 r, AnyD.rely hSR hQR fuel listed a x y h.2 r⟩
  intro fuel
  induction fuel with
  | zero =>
    intro listed a w _ hr hy hS H
    refine ⟨fun h => (by rw [h] at hr; cases hr), fun j hj => ?_⟩
    by_cases hji : j = i
    · subst hji; exact YieldsIfC.opD hSR hi hy (hK _ _) hS ⟨hS, H⟩
    · have := ready_mono hj hji
      rw [H.1] at this
      cases this
  | succ fuel ih =>
    intro listed a w hfree hr hy hS H
    refine ⟨fun h => (by rw [h] at hr; cases hr), fun j hj => ?_⟩
    by_cases hji : j = i
    · subst hji; exact YieldsIfC.opD hSR hi hy (hK _ _) hS ⟨hS, H⟩
    · have h1 := H.2 j (ready_mono hj hji)
      obtain ⟨hjun, oj, hoj, hall⟩ := mem_ready.1 hj
      have hnot : ∀ e ∈ oj.after, Region.binds md e = true → e.on ≠ i := fun e he hb heq => by
        have h1 := hall e he hb
        have h0 := (mem_ready.1 hr).1
        rw [heq] at h1
        rcases Nat.lt_or_ge i listed.size with h' | h'
        · simp [h'] at h0 h1; rw [h0] at h1; cases h1
        · simp [Array.getElem?_eq_none h'] at h1
      have h2 := OpD_putIf hoj (hfree j oj hoj hji hjun hnot) (fun cs b => hsel i oi cs b hi) (fun cs b => hsel j oj cs b hoj) hy h1
      have hfree' : ∀ k ok, ops[k]? = some ok → k ≠ i → (listed.setIfInBounds j true).getD k true = false →
          (∀ e ∈ ok.after, Region.binds md e = true → e.on ≠ i) → oi.apart ops ok = true := fun k ok hk hki hun hno => by
        refine hfree k ok hk hki ?_ hno
        by_cases hjk : j = k
        · subst hjk; exact hjun
        · rw [getD_set_ne true hjk] at hun; exact hun
      refine OpD_mono (fun a' w' h3 => ⟨h3.2.1, ih (listed.setIfInBounds j true) a' w' hfree' (ready_mono hr (Ne.symm hji)) h3.1 h3.2.1 ?_⟩) h2
      rw [Array.setIfInBounds_comm _ _ hji]
      exact h3.2.2

/-- Take number i first. -/
theorem anyD_take (hSR : ∀ x y, S x → AtRel x y → S y) (hQR : ∀ a x y, Q .normal a x → AtRel x y → Q .normal a y) {i : Nat} {oi : Oper} {v : Value} {fuel : Nat} {listed : Array Bool} {a : Act} {w : World} (hi : ops[i]? = some oi)
    (hs : Region.noSelect ops = true) (hf : Region.free md ops listed i = true) (hr : (Region.ready md ops listed).contains i = true)
    (hy : YieldsIfC P Dq fn ops S oi v a) (hS : S w) (h : AnyD P fn md ops Q S fuel (listed.setIfInBounds i true) (a.put oi.dst v) w) : AnyD P fn md ops Q S (fuel + 1) listed a w :=
  anyD_first hSR hQR hi (Region.noSelect_spec hs) fuel listed a w (Region.free_spec hi hf) (by simpa using hr) hy hS h

/-- One call alone may come up. -/
theorem anyD_call {i : Nat} {o : Oper} {f : FuncId} {fx : Func} {code : Code} {args : Array Operand} {av : Array Value} {ats : Array TypeId} {R : Value → World → Prop} {fuel : Nat} {listed : Array Bool} {a : Act} {w : World} (hr : Region.ready md ops listed = [i])
    (hi : ops[i]? = some o) (hw : Region.wanted o (yielded ops a.tmps) = true) (hop : o.op = .call { callee := .value (.func f), args, argTypes := ats }) (hav : args.map a.eval = av)
    (hf : P.funcs[f]? = some fx) (hname : (fx.name == "runtime.NumGoroutine") = false) (hbody : fx.body = some code) (hcall : CallsD P f av w R)
    (h : ∀ v w', R v w' → S w' ∧ AnyD P fn md ops Q S fuel (listed.setIfInBounds i true) (a.put o.dst v) w') : AnyD P fn md ops Q S (fuel + 1) listed a w := by
  subst hav
  refine ⟨fun e => (by rw [hr] at e; cases e), fun j hj => ?_⟩
  rw [hr, List.mem_singleton] at hj
  subst hj
  unfold OpD
  simp only [hi, hw, if_true]
  exact .inr ⟨f, fx, code, args, ats, R, hop, hf, hname, hbody, hcall, h⟩
/-- Whichever of those that may come up comes up. -/
theorem anyD_all {rs : List Nat} {fuel : Nat} {listed : Array Bool} {a : Act} {w : World} (hr : Region.ready md ops listed = rs) (hne : rs ≠ [])
    (h : ∀ i ∈ rs, OpD P fn ops i (fun a' w' => S w' ∧ AnyD P fn md ops Q S fuel (listed.setIfInBounds i true) a' w') a w) : AnyD P fn md ops Q S (fuel + 1) listed a w :=
  ⟨fun h0 => absurd (hr ▸ h0) hne, hr ▸ h⟩
theorem opD_call {i : Nat} {o : Oper} {f : FuncId} {fx : Func} {code : Code} {args : Array Operand} {av : Array Value} {ats : Array TypeId} {R : Value → World → Prop} {K : Act → World → Prop} {a : Act} {w : World}
    (hi : ops[i]? = some o) (hw : Region.wanted o (yielded ops a.tmps) = true) (hop : o.op = .call { callee := .value (.func f), args, argTypes := ats }) (hav : args.map a.eval = av)
    (hf : P.funcs[f]? = some fx) (hname : (fx.name == "runtime.NumGoroutine") = false) (hbody : fx.body = some code) (hcall : CallsD P f av w R) (h : ∀ v w', R v w' → K (a.put o.dst v) w') : OpD P fn ops i K a w := by
  subst hav
  unfold OpD
  simp only [hi, hw, if_true]
  exact .inr ⟨f, fx, code, args, ats, R, hop, hf, hname, hbody, hcall, h⟩
/-- All have come up. -/
theorem anyD_done {listed : Array Bool} {a : Act} {w : World} (hr : Region.ready md ops listed = []) (h : Q .normal a w) : ∀ fuel, AnyD P fn md ops Q S fuel listed a w
  | 0 => ⟨hr, h⟩
  | _ + 1 => ⟨fun _ => h, fun i hi => by rw [hr] at hi; cases hi⟩

theorem wpD_region_held {id : Nat} {a : Act} {w : World} (hm : P.follows .mixedOrders = true)
    (h : ∀ w₁, AtRel w w₁ → AnyD P fn .any ops Q S ops.size (Array.replicate ops.size false) a { w₁ with drawn := w₁.drawn + 1 }) : wpD P fn (.region id ops true) Q a w := fun b k cs S' hb hk hc => by
  refine drive_of_goes 1 _ _ (Goes.step rfl fun w₁ h₁ => ?_)
  rw [stepG_region_draw]
  refine ⟨drawQ _, Goes.stop fun w₂ h₂ => Drive.rely ?_ h₂⟩
  have := anyD_sound ops.size (w₁.tape w₁.drawn (.order b.fn id)) _ a _ (h w₁ h₁) b k cs S' hb hk hc
  simp only [Region.schedule, hm, Bool.true_or, if_true]
  exact this
end
end Go.Proofs.YtifdhaiihlfomaaDoor
