/-
  A sender's walk through a region that draws its order, in which a function is called that sends: any order that can be drawn; what reads alone may be taken first. No program in sight.
-/
import Derived.Test.YtifdhaiihlfomaaDoorConSend
namespace Go.Proofs.YtifdhaiihlfomaaDoor
open Go Go.Conc
set_option linter.unusedVariables false

/-- Operation number i comes up; vs is sent; K is asked of the state in which it ends. -/
def OpS (P : Program) (ch Low : Nat) (own : Obj → Bool) (fn : FuncId) (ops : Array Oper) (nc : Nat) (vs : List Value) (i : Nat) (K : Act → World → Prop) (a : Act) (w : World) : Prop :=
  match ops[i]? with
  | none => False
  | some o => if Region.wanted o (yielded ops a.tmps) then
      (vs = [] ∧ ∀ w₁, Oth ch Low own false w w₁ → uponK o a (fun a' w' => DOwn ch Low own false w₁ w' (listed P fn a o w₁) ∧ K a' w') ((execOp a.eval o).run P w₁)) ∨
      (∃ f args ats Post, o.op = .call { callee := .value (.func f), args, argTypes := ats } ∧ CallsS P ch Low own f (args.map a.eval) nc vs w Post ∧ ∀ v w', Post v w' → K (a.put o.dst v) w')
    else vs = [] ∧ K (a.put o.dst undef) w

section
variable {P : Program} {ch Low : Nat} {own : Obj → Bool} {fn : FuncId} {ops : Array Oper} {nc : Nat} {Q : Exit → Act → World → Prop} {md : Region.Mode} {S : World → Prop}

theorem OpS_mono {vs : List Value} {i : Nat} {a : Act} {w : World} {K K' : Act → World → Prop} (h : ∀ a w, K a w → K' a w) (hh : OpS P ch Low own fn ops nc vs i K a w) : OpS P ch Low own fn ops nc vs i K' a w := by
  unfold OpS at *
  split
  · simp_all
  · rename_i o ho
    simp only [ho] at hh
    split
    · rename_i hw
      simp only [hw, if_true] at hh
      rcases hh with ⟨e, h1⟩ | ⟨f, args, ats, Post, h1, h2, h3⟩
      · exact .inl ⟨e, fun w₁ h₁ => uponK_mono (fun a' w' x => ⟨x.1, h _ _ x.2⟩) (h1 w₁ h₁)⟩
      · exact .inr ⟨f, args, ats, Post, h1, h2, fun v w' p => h _ _ (h3 v w' p)⟩
    · rename_i hw; simp only [hw] at hh; exact ⟨hh.1, h _ _ hh.2⟩

theorem opsS_of_opS {vs₁ vs₂ : List Value} {i : Nat} {rest : List Nat} {n : Nat} {a : Act} {w : World} (h : OpS P ch Low own fn ops nc vs₁ i (fun a' w' => OpsS P ch Low own fn ops rest n vs₂ Q a' w') a w) : OpsS P ch Low own fn ops (i :: rest) (n + nc + 3) (vs₁ ++ vs₂) Q a w := by
  unfold OpS at h
  split at h
  · exact h.elim
  · rename_i o ho
    split at h
    · rename_i hw
      rcases h with ⟨rfl, h1⟩ | ⟨f, args, ats, Post, h1, h2, h3⟩
      · exact opsS_more (opsS_cons ho hw h1) (by omega)
      · exact opsS_call ho hw h1 h2 h3
    · rename_i hw
      obtain ⟨rfl, h⟩ := h
      exact opsS_more (opsS_unwanted ho (by simpa using hw) h) (by omega)

def AnyS (P : Program) (ch Low : Nat) (own : Obj → Bool) (fn : FuncId) (md : Region.Mode) (ops : Array Oper) (nc : Nat) (Q : Exit → Act → World → Prop) (S : World → Prop) : Nat → List Value → Array Bool → Act → World → Prop
  | 0, vs, listed, a, w => Region.ready md ops listed = [] ∧ vs = [] ∧ Q .normal a w
  | fuel + 1, vs, listed, a, w =>
    (Region.ready md ops listed = [] → vs = [] ∧ Q .normal a w) ∧
    ∀ i ∈ Region.ready md ops listed, ∃ vs₁ vs₂, vs = vs₁ ++ vs₂ ∧ OpS P ch Low own fn ops nc vs₁ i (fun a' w' => S w' ∧ AnyS P ch Low own fn md ops nc Q S fuel vs₂ (listed.setIfInBounds i true) a' w') a w

theorem AnyS.rely (hSR : ∀ x y, S x → Oth ch Low own false x y → S y) (hQR : ∀ a x y, Q .normal a x → Oth ch Low own false x y → Q .normal a y) :
    ∀ (fuel : Nat) (vs : List Value) (listed : Array Bool) (a : Act) (w w₁ : World), AnyS P ch Low own fn md ops nc Q S fuel vs listed a w → Oth ch Low own false w w₁ → AnyS P ch Low own fn md ops nc Q S fuel vs listed a w₁
  | 0, _, _, _, _, _, h, r => ⟨h.1, h.2.1, hQR _ _ _ h.2.2 r⟩
  | fuel + 1, vs, listed, a, w, w₁, h, r => ⟨fun e => ⟨(h.1 e).1, hQR _ _ _ (h.1 e).2 r⟩, fun i hi => by
      obtain ⟨vs₁, vs₂, e, this⟩ := h.2 i hi
      refine ⟨vs₁, vs₂, e, ?_⟩
      unfold OpS at *
      split
      · simp_all
      · rename_i o ho
        simp only [ho] at this
        split
        · rename_i hw
          simp only [hw, if_true] at this
          rcases this with ⟨e, h1⟩ | ⟨f, args, ats, Post, h1, h2, h3⟩
          · exact .inl ⟨e, fun w₂ h₂ => h1 w₂ (r.trans h₂)⟩
          · exact .inr ⟨f, args, ats, Post, h1, h2.rely r, h3⟩
        · rename_i hw; simp only [hw] at this; exact ⟨this.1, hSR _ _ this.2.1 r, AnyS.rely hSR hQR fuel _ _ _ _ _ this.2.2 r⟩⟩

theorem anyS_sound : ∀ (fuel t : Nat) (vs : List Value) (listed : Array Bool) (a : Act) (w : World), AnyS P ch Low own fn md ops nc Q S fuel vs listed a w →
    OpsS P ch Low own fn ops (Region.linearise.go md ops fuel t listed []) (fuel * (nc + 3) + 1) vs Q a w := by
  intro fuel
  induction fuel with
  | zero =>
    intro t vs listed a w h
    obtain ⟨_, rfl, h⟩ := h
    simpa [Region.linearise.go] using opsS_nil h
  | succ fuel ih =>
    intro t vs listed a w h
    obtain ⟨h₀, h₁⟩ := h
    simp only [Region.linearise.go]
    change OpsS P ch Low own fn ops (match (Region.ready md ops listed)[t % (Region.ready md ops listed).length]? with
      | some i => Region.linearise.go md ops fuel (t / (Region.ready md ops listed).length) (listed.setIfInBounds i true) [i]
      | none => [].reverse) ((fuel + 1) * (nc + 3) + 1) vs Q a w
    cases hi : (Region.ready md ops listed)[t % (Region.ready md ops listed).length]? with
    | none =>
      have hnil : Region.ready md ops listed = [] := by
        cases hr : Region.ready md ops listed with
        | nil => rfl
        | cons x xs =>
          rw [hr] at hi
          have hlt : t % (x :: xs).length < (x :: xs).length := Nat.mod_lt _ (by simp)
          simp at hi
          simp at hlt
          omega
      obtain ⟨rfl, h⟩ := h₀ hnil
      exact opsS_more (by simpa using opsS_nil h) (by omega)
    | some i =>
      simp only []
      rw [linearise_go_acc, List.reverse_singleton, List.singleton_append]
      obtain ⟨vs₁, vs₂, rfl, h⟩ := h₁ i (List.mem_of_getElem? hi)
      refine opsS_more (opsS_of_opS (OpS_mono (fun a' w' x => ih _ _ _ a' w' x.2) h)) ?_
      rw [Nat.succ_mul]
      omega

theorem YieldsIfC.opS {D : World → World → Array Event → Prop} (hSR : ∀ x y, S x → Oth ch Low own false x y → S y) {i : Nat} {o : Oper} {v : Value} {a : Act} (hi : ops[i]? = some o) (hy : YieldsIfC P (DOwn ch Low own false) fn ops S o v a)
    {K : Act → World → Prop} (hK : ∀ a x y, K a x → Oth ch Low own false x y → K a y) {w : World} (hS : S w) (h : K (a.put o.dst v) w) : OpS P ch Low own fn ops nc [] i K a w := by
  unfold OpS
  simp only [hi]
  rcases hy with ⟨hw, hv⟩ | ⟨hw, rfl⟩
  · simp only [hw, if_true]
    refine .inl ⟨trivial, fun w₁ h₁ => ?_⟩
    rw [(hv w₁ (hSR _ _ hS h₁)).1]
    exact ⟨(hv w₁ (hSR _ _ hS h₁)).2, hK _ _ _ h h₁⟩
  · simp only [hw, Bool.false_eq_true, if_false]; exact ⟨trivial, h⟩

theorem OpS_putIf {vs : List Value} {j : Nat} {oi oj : Oper} {v : Value} (hj : ops[j]? = some oj) (hap : oi.apart ops oj = true)
    (hsi : ∀ cs b, oi.op ≠ .select cs b) (hsj : ∀ cs b, oj.op ≠ .select cs b) {K : Act → World → Prop} {a : Act} {w : World}
    (hy : YieldsIfC P (DOwn ch Low own false) fn ops S oi v a) (h : OpS P ch Low own fn ops nc vs j K (a.put oi.dst v) w) :
    OpS P ch Low own fn ops nc vs j (fun a' w' => YieldsIfC P (DOwn ch Low own false) fn ops S oi v a' ∧ K (a'.put oi.dst v) w') a w := by
  obtain ⟨h1, h2, h3⟩ := Oper.apart_spec hap
  have keep : ∀ (a : Act), YieldsIfC P (DOwn ch Low own false) fn ops S oi v a → ∀ u, YieldsIfC P (DOwn ch Low own false) fn ops S oi v (a.put oj.dst u) := fun a hy u =>
    hy.of_same (execOp_put oi hsi a oj.dst u h3) (wanted_put oi a oj.dst u h3)
  unfold OpS at *
  simp only [hj] at *
  rw [wanted_put oj a oi.dst v h1] at h
  split
  · rename_i hw
    simp only [hw, if_true] at h
    rcases h with ⟨e, h⟩ | ⟨f, args, ats, Post, h4, h5, h6⟩
    · refine .inl ⟨e, fun w₁ h₁ => ?_⟩
      have h := h w₁ h₁
      unfold listed at *
      rw [execOp_put oj hsj a oi.dst v h1] at h
      generalize (execOp a.eval oj).run P w₁ = r at *
      cases r with
      | ok n w' =>
        cases n <;> simp only [uponK] at h ⊢
        case value u => exact ⟨h.1, keep a hy u, by rw [← Act.put_comm a v u h2]; exact h.2⟩
        case skip => exact ⟨h.1, keep a hy _, by rw [← Act.put_comm a v undef h2]; exact h.2⟩
      | halt x w' => simp only [uponK] at h
    · refine .inr ⟨f, args, ats, Post, h4, ?_, fun u w' p => ⟨keep a hy u, by rw [← Act.put_comm a v u h2]; exact h6 u w' p⟩⟩
      have e : args.map (a.put oi.dst v).eval = args.map a.eval := by
        refine Array.map_congr_left fun x hx => Act.eval_put fun d hd hxd => ?_
        refine h1 d hd ?_
        unfold Oper.looksAt
        refine List.mem_append.2 (.inl (List.mem_filterMap.2 ⟨x, ?_, by rw [hxd]⟩))
        rw [h4]
        simpa [Op.operands, Call.operands] using .inr (by simpa using hx)
      rw [← e]
      exact h5
  · rename_i hw
    simp only [hw] at h
    exact ⟨h.1, keep a hy _, by rw [← Act.put_comm a v undef h2]; exact h.2⟩

theorem anyS_first (hSR : ∀ x y, S x → Oth ch Low own false x y → S y) (hQR : ∀ a x y, Q .normal a x → Oth ch Low own false x y → Q .normal a y) {i : Nat} {oi : Oper} {v : Value} (hi : ops[i]? = some oi)
    (hsel : ∀ (j : Nat) (o : Oper) cs b, ops[j]? = some o → o.op ≠ .select cs b) :
    ∀ (fuel : Nat) (vs : List Value) (listed : Array Bool) (a : Act) (w : World),
      (∀ j oj, ops[j]? = some oj → j ≠ i → listed.getD j true = false → (∀ e ∈ oj.after, Region.binds md e = true → e.on ≠ i) → oi.apart ops oj = true) →
      i ∈ Region.ready md ops listed → YieldsIfC P (DOwn ch Low own false) fn ops S oi v a → S w →
      AnyS P ch Low own fn md ops nc Q S fuel vs (listed.setIfInBounds i true) (a.put oi.dst v) w → AnyS P ch Low own fn md ops nc Q S (fuel + 1) vs listed a w := by
  have hK : ∀ fuel vs listed, ∀ a x y, (S x ∧ AnyS P ch Low own fn md ops nc Q S fuel vs listed a x) → Oth ch Low own false x y → (S y ∧ AnyS P ch Low own fn md ops nc Q S fuel vs listed a y) :=
    fun fuel vs listed a x y h r => ⟨hSR _ _ h.1 r, AnyS.rely hSR hQR fuel vs listed a x y h.2 r⟩
  intro fuel
  induction fuel with
  | zero =>
    intro vs listed a w _ hr hy hS H
    refine ⟨fun h => (by rw [h] at hr; cases hr), fun j hj => ?_⟩
    by_cases hji : j = i
    · subst hji; exact ⟨[], vs, rfl, YieldsIfC.opS (D := DOwn ch Low own false) hSR hi hy (hK _ _ _) hS ⟨hS, H⟩⟩
    · have := ready_mono hj hji
      rw [H.1] at this
      cases this
  | succ fuel ih =>
    intro vs listed a w hfree hr hy hS H
    refine ⟨fun h => (by rw [h] at hr; cases hr), fun j hj => ?_⟩
    by_cases hji : j = i
    · subst hji; exact ⟨[], vs, rfl, YieldsIfC.opS (D := DOwn ch Low own false) hSR hi hy (hK _ _ _) hS ⟨hS, H⟩⟩
    · obtain ⟨vs₁, vs₂, e, h1⟩ := H.2 j (ready_mono hj hji)
      obtain ⟨hjun, oj, hoj, hall⟩ := mem_ready.1 hj
      have hnot : ∀ e ∈ oj.after, Region.binds md e = true → e.on ≠ i := fun e he hb heq => by
        have h1 := hall e he hb
        have h0 := (mem_ready.1 hr).1
        rw [heq] at h1
        rcases Nat.lt_or_ge i listed.size with h' | h'
        · simp [h'] at h0 h1; rw [h0] at h1; cases h1
        · simp [Array.getElem?_eq_none h'] at h1
      have h2 := OpS_putIf hoj (hfree j oj hoj hji hjun hnot) (fun cs b => hsel i oi cs b hi) (fun cs b => hsel j oj cs b hoj) hy h1
      have hfree' : ∀ k ok, ops[k]? = some ok → k ≠ i → (listed.setIfInBounds j true).getD k true = false →
          (∀ e ∈ ok.after, Region.binds md e = true → e.on ≠ i) → oi.apart ops ok = true := fun k ok hk hki hun hno => by
        refine hfree k ok hk hki ?_ hno
        by_cases hjk : j = k
        · subst hjk; exact hjun
        · rw [getD_set_ne true hjk] at hun; exact hun
      refine ⟨vs₁, vs₂, e, OpS_mono (fun a' w' h3 => ⟨h3.2.1, ih vs₂ (listed.setIfInBounds j true) a' w' hfree' (ready_mono hr (Ne.symm hji)) h3.1 h3.2.1 ?_⟩) h2⟩
      rw [Array.setIfInBounds_comm _ _ hji]
      exact h3.2.2

/-- Take number i first. -/
theorem anyS_take (hSR : ∀ x y, S x → Oth ch Low own false x y → S y) (hQR : ∀ a x y, Q .normal a x → Oth ch Low own false x y → Q .normal a y) {i : Nat} {oi : Oper} {v : Value} {fuel : Nat} {vs : List Value} {listed : Array Bool} {a : Act} {w : World} (hi : ops[i]? = some oi)
    (hs : Region.noSelect ops = true) (hf : Region.free md ops listed i = true) (hr : (Region.ready md ops listed).contains i = true)
    (hy : YieldsIfC P (DOwn ch Low own false) fn ops S oi v a) (hS : S w) (h : AnyS P ch Low own fn md ops nc Q S fuel vs (listed.setIfInBounds i true) (a.put oi.dst v) w) : AnyS P ch Low own fn md ops nc Q S (fuel + 1) vs listed a w :=
  anyS_first hSR hQR hi (Region.noSelect_spec hs) fuel vs listed a w (Region.free_spec hi hf) (by simpa using hr) hy hS h

/-- The last one is a call. -/
theorem anyS_last {i : Nat} {o : Oper} {f : FuncId} {args : Array Operand} {av : Array Value} {ats : Array TypeId} {Post : Value → World → Prop} {fuel : Nat} {vs : List Value} {listed : Array Bool} {a : Act} {w : World} (hr : Region.ready md ops listed = [i]) (hn : Region.ready md ops (listed.setIfInBounds i true) = [])
    (hi : ops[i]? = some o) (hw : Region.wanted o (yielded ops a.tmps) = true) (hop : o.op = .call { callee := .value (.func f), args, argTypes := ats }) (hav : args.map a.eval = av) (hcall : CallsS P ch Low own f av nc vs w Post)
    (h : ∀ v w', Post v w' → S w' ∧ Q .normal (a.put o.dst v) w') : AnyS P ch Low own fn md ops nc Q S (fuel + 1) vs listed a w := by
  subst hav
  refine ⟨fun e => (by rw [hr] at e; cases e), fun j hj => ?_⟩
  rw [hr, List.mem_singleton] at hj
  subst hj
  refine ⟨vs, [], by simp, ?_⟩
  unfold OpS
  simp only [hi, hw, if_true]
  refine .inr ⟨f, args, ats, Post, hop, hcall, fun v w' p => ⟨(h v w' p).1, ?_⟩⟩
  cases fuel with
  | zero => exact ⟨hn, rfl, (h v w' p).2⟩
  | succ fuel => exact ⟨fun _ => ⟨rfl, (h v w' p).2⟩, fun x hx => by rw [hn] at hx; cases hx⟩

theorem wpS_region_held {id : Nat} {vs : List Value} {a : Act} {w : World} (hm : P.follows .mixedOrders = true)
    (h : ∀ w₁, Oth ch Low own false w w₁ → AnyS P ch Low own fn .any ops nc Q S ops.size vs (Array.replicate ops.size false) a { w₁ with drawn := w₁.drawn + 1 }) : wpS P ch Low own fn (.region id ops true) (ops.size * (nc + 3) + 1 + 1) vs Q a w :=
  fun b k cs us m hb hk hc => Goes.step rfl fun w₁ h₁ => by
    rw [stepG_region_draw]
    refine ⟨drawO ch Low own false _, ?_⟩
    have := anyS_sound ops.size (w₁.tape w₁.drawn (.order b.fn id)) vs _ a _ (h w₁ h₁)
    have h2 := this b k cs us m hb hk hc
    simp only [Region.schedule, hm, Bool.true_or, if_true]
    exact h2
end
end Go.Proofs.YtifdhaiihlfomaaDoor
