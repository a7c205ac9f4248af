/-
  A step of a goroutine within tame functions: it goes on within tame functions, alike over any tape whose next answers are the same, whoever stands beneath; or the program ends there; or it panics. No program in sight.
-/
import Derived.Test.YtifdhaiihlfomaaDoorConTame
import Derived.Conc.Own5
namespace Go.Proofs.YtifdhaiihlfomaaDoor
open Go Go.Conc
set_option linter.unusedVariables false

def agree (n : Nat) (w : World) (τ : Nat → Question → Nat) (d : Nat) : Prop := ∀ j, j < n → ∀ q, τ (d + j) q = w.tape (w.drawn + j) q

structure TopOk (P : Program) (E : Env) (fr : Frame) : Prop extends FrOk P E fr where
  mode : fr.mode = .run ∨ fr.mode = .returning

/-- The step is the program's end. -/
def isEnded : GStep → Prop
  | .ended .. => True
  | _ => False
@[simp] theorem isEnded_ended (o : Outcome) (w : World) (es : Array Event) : isEnded (.ended o w es) = True := rfl
@[simp] theorem isEnded_after (es : Array Event) (s : GStep) : isEnded (s.after es) = isEnded s := by cases s <;> rfl

/-- What becomes of a step. -/
def StepRes (P : Program) (E : Env) (fr : Frame) (X : List Frame) (w : World) (n : Nat) : Prop :=
  (∃ fr' X' w' es, TopOk P E fr' ∧ (∀ c ∈ X', CallerOk P E c) ∧ Calm P w' ∧ (∀ e ∈ es, quietE e) ∧
    ∀ main Z τ d, agree n w τ d → stepG P main (G fr (X ++ Z)) (onT w τ d) = .go (G fr' (X' ++ Z)) (onT w' τ (d + n)) es) ∨
  (∀ main Z τ d, agree n w τ d → isEnded (stepG P main (G fr (X ++ Z)) (onT w τ d))) ∨
  (∀ main Z τ d, agree n w τ d → ∃ chain w' es, stepG P main (G fr (X ++ Z)) (onT w τ d) = .go (G { fr with mode := .panicking chain } (X ++ Z)) w' es)

section
variable {P : Program} {E : Env}

theorem FrOk.at_eq {fr : Frame} (h : FrOk P E fr) (hm : fr.mode = .run) : fr = fr.at ⟨fr.tmps, fr.defers⟩ fr.todo := by
  obtain ⟨fn, tmps, todo, defers, mode, kind, round⟩ := fr
  have := h.round
  simp only at this hm
  subst this hm
  rfl

theorem FrOk.to {fr : Frame} (h : FrOk P E fr) {todo : List Item} (ht : ∀ x ∈ todo, itemOk P E fr.fn x = true) : TopOk P E (fr.at ⟨fr.tmps, fr.defers⟩ todo) :=
  ⟨⟨h.defers, h.kind, rfl, h.tame, ht, h.pins⟩, .inl rfl⟩

theorem getD_set {tmps : Array Value} {d j : Nat} {v : Value} : (tmps.setIfInBounds d v).getD j undef = if d = j ∧ d < tmps.size then v else tmps.getD j undef := by
  simp only [Array.getD_eq_getD_getElem?, Array.getElem?_setIfInBounds]
  split
  · rename_i h
    subst h
    by_cases hlt : d < tmps.size <;> simp [hlt]
  · rename_i h
    simp [h]

theorem FrOk.put {fr : Frame} (h : FrOk P E fr) {dst : Option Tmp} {v : Value} (hd : ∀ d, dst = some d → E.pins fr.fn d = true → okPin E v) {todo : List Item} (ht : ∀ x ∈ todo, itemOk P E fr.fn x = true) :
    TopOk P E (fr.at ((⟨fr.tmps, fr.defers⟩ : Act).put dst v) todo) := by
  refine ⟨⟨?_, h.kind, rfl, h.tame, ht, fun j hj => ?_⟩, .inl rfl⟩
  · cases dst <;> exact h.defers
  · cases dst with
    | none => exact h.pins j hj
    | some d =>
      show okPin E ((fr.tmps.setIfInBounds d v).getD j undef)
      rw [getD_set]
      split
      · rename_i hc
        rw [hc.1] at hd
        exact hd j rfl hj
      · exact h.pins j hj

theorem exitTo_ok {fn : FuncId} {id : Nat} : ∀ {k k' : List Item}, (∀ x ∈ k, itemOk P E fn x = true) → exitTo id k = some k' → ∀ x ∈ k', itemOk P E fn x = true
  | [], _, _, h => by cases h
  | y :: k, k', hk, h => by
    have hr : exitTo id (y :: k) = some k ∨ exitTo id (y :: k) = exitTo id k := by
      cases y <;> first | exact .inr rfl | skip
      simp only [exitTo]
      split
      · exact .inl rfl
      · exact .inr rfl
    rcases hr with e | e
    · rw [e] at h
      cases h
      exact fun x hx => hk x (List.mem_cons_of_mem _ hx)
    · rw [e] at h
      exact exitTo_ok (fun x hx => hk x (List.mem_cons_of_mem _ hx)) h

theorem quiet_none : ∀ e ∈ (#[] : Array Event), quietE e := by simp

/-- A move of control. -/
theorem step_move {fr fr' : Frame} {X : List Frame} {w : World} (hf : TopOk P E fr') (hX : ∀ c ∈ X, CallerOk P E c) (hc : Calm P w)
    (h : ∀ main (cs : List Frame) w, stepG P main (G fr cs) w = .go (G fr' cs) w) : StepRes P E fr X w 0 :=
  .inl ⟨fr', X, w, #[], hf, hX, hc, quiet_none, fun main Z τ d _ => h main _ _⟩

theorem step_stuck {fr : Frame} {X : List Frame} {w : World} (h : ∀ main (cs : List Frame) w, isEnded (stepG P main (G fr cs) w)) : StepRes P E fr X w 0 :=
  .inr (.inl fun main Z τ d _ => h main _ _)

/-- An operation that is wanted. -/
theorem step_oper (hE : EnvOk P E) {fr : Frame} {X : List Frame} {w : World} (hf : FrOk P E fr) (hm : fr.mode = .run) (hX : ∀ c ∈ X, CallerOk P E c) (hc : Calm P w)
    {ops : Array Oper} {i : Nat} {rest : List Nat} {k : List Item} {o : Oper} (ht : fr.todo = .inRegion ops (i :: rest) :: k) (ho : ops[i]? = some o) (hw : Region.wanted o (yielded ops fr.tmps) = true) :
    ∃ n, StepRes P E fr X w n := by
  have hit : itemOk P E fr.fn (.inRegion ops (i :: rest)) = true := hf.todo _ (by rw [ht]; simp)
  have hk : ∀ x ∈ k, itemOk P E fr.fn x = true := fun x hx => hf.todo x (by rw [ht]; simp [hx])
  have hops : ops.toList.all (opOk P E fr.fn) = true := hit
  have hop : opOk P E fr.fn o = true := List.all_eq_true.1 hops o (Array.mem_toList_iff.2 (Array.mem_of_getElem? ho))
  simp only [opOk, Bool.and_eq_true] at hop
  obtain ⟨hkind, hdst⟩ := hop
  have hpins := hf.pins
  have hrest : ∀ x ∈ Item.inRegion ops rest :: k, itemOk P E fr.fn x = true := fun x hx => by
    rcases List.mem_cons.1 hx with rfl | hx
    · exact hops
    · exact hk x hx
  have efr : fr = fr.at ⟨fr.tmps, fr.defers⟩ (.inRegion ops (i :: rest) :: k) := by rw [← ht]; exact hf.at_eq hm
  have hke : fr.kind ≠ .early := by rw [hf.kind]; simp
  obtain ⟨n, r, es, h1, h2, h3⟩ := mild_run (mild_exec (P := P) (E := E) (fn := fr.fn) (a := ⟨fr.tmps, fr.defers⟩) (o := o) hpins hkind) w #[] hc
  have hrun : ∀ τ d, agree n w τ d → (execOp (⟨fr.tmps, fr.defers⟩ : Act).eval o).run P (onT w τ d) = resT r τ (d + n) := fun τ d ha => by
    have := h1 τ d ha
    simp only [Sem.runT_eq, Prod.mk.injEq] at this
    exact this.1
  have hev : ∀ τ d, agree n w τ d → ∀ e ∈ listed P fr.fn ⟨fr.tmps, fr.defers⟩ o (onT w τ d), quietE e := fun τ d ha e he => by
    have := h1 τ d ha
    simp only [Sem.runT_eq, Prod.mk.injEq] at this
    have hm := mem_listed he
    rw [this.2] at hm
    exact h2 e (by simpa using hm)
  have hls : ∀ τ d, agree n w τ d → listed P fr.fn ⟨fr.tmps, fr.defers⟩ o (onT w τ d) = listed P fr.fn ⟨fr.tmps, fr.defers⟩ o w := fun τ d ha => by
    have e1 := h1 τ d ha
    have e2 := h1 w.tape w.drawn (fun _ _ _ => rfl)
    rw [onT_self] at e2
    simp only [Sem.runT_eq, Prod.mk.injEq] at e1 e2
    unfold listed
    rw [e1.2, e2.2]
  have hself : agree n w w.tape w.drawn := fun _ _ _ => rfl
  -- what a pinned slot takes
  have hput : ∀ (v : Value) w', r = .ok (.value v) w' → ∀ d, o.dst = some d → E.pins fr.fn d = true → okPin E v := by
    intro v w' hr d hd hp
    simp only [dstOk, hd, hp, Bool.not_true, Bool.false_or] at hdst
    split at hdst
    · rename_i x hx
      have e := hrun w.tape w.drawn hself
      rw [onT_self, hr] at e
      have e2 : (execOp (⟨fr.tmps, fr.defers⟩ : Act).eval o).run P w = .ok (.value ((⟨fr.tmps, fr.defers⟩ : Act).eval x)) w := by
        simp only [execOp, hx]; rfl
      rw [e2] at e
      simp only [resT, Result.ok.injEq, Next.value.injEq] at e
      rw [← e.1]
      exact okPin_src (fn := fr.fn) hpins hdst
    · rename_i t x hx
      have e := hrun w.tape w.drawn hself
      rw [onT_self, hr] at e
      simp only [execOp, hx, Sem.run_bind] at e
      cases hi : (Instr.makeInterface t ((⟨fr.tmps, fr.defers⟩ : Act).eval x)).run P w with
      | halt y z => rw [hi] at e; cases e
      | ok u w₁ =>
        rw [hi] at e
        simp only [Result.andThen_ok, Sem.run_pure, resT, Result.ok.injEq, Next.value.injEq] at e
        rw [← e.1]
        exact .inr (iface_run hi)
    · cases hdst
  have hnotpin : ∀ f args w', r = .ok (.enter f args) w' → ∀ d, o.dst = some d → E.pins fr.fn d = false := by
    intro f args w' hr d hd
    cases hp : E.pins fr.fn d with
    | false => rfl
    | true =>
      simp only [dstOk, hd, hp, Bool.not_true, Bool.false_or] at hdst
      split at hdst
      · rename_i x hx
        have e := hrun w.tape w.drawn hself
        rw [onT_self, hr] at e
        have e2 : (execOp (⟨fr.tmps, fr.defers⟩ : Act).eval o).run P w = .ok (.value ((⟨fr.tmps, fr.defers⟩ : Act).eval x)) w := by
          simp only [execOp, hx]; rfl
        rw [e2] at e
        simp only [resT, Result.ok.injEq] at e
        cases e.1
      · rename_i t x hx
        have e := hrun w.tape w.drawn hself
        rw [onT_self, hr] at e
        simp only [execOp, hx, Sem.run_bind] at e
        cases hi : (Instr.makeInterface t ((⟨fr.tmps, fr.defers⟩ : Act).eval x)).run P w with
        | halt y z => rw [hi] at e; cases e
        | ok u w₁ =>
          rw [hi] at e
          simp only [Result.andThen_ok, Sem.run_pure, resT, Result.ok.injEq] at e
          cases e.1
      · cases hdst
  refine ⟨n, ?_⟩
  cases r with
  | ok x w' =>
    obtain ⟨hl, hc'⟩ := h3
    cases x with
    | value v =>
      refine .inl ⟨_, X, w', listed P fr.fn ⟨fr.tmps, fr.defers⟩ o w, hf.put (dst := o.dst) (v := v) (todo := .inRegion ops rest :: k) (hput v w' rfl) hrest, hX, hc', fun e he => hev w.tape w.drawn hself e (by rw [onT_self]; exact he), fun main Z τ d ha => ?_⟩
      conv => lhs; rw [efr]
      rw [stepG_value ho hw hke (hrun τ d ha), hls τ d ha]
    | skip =>
      refine .inl ⟨_, X, w', listed P fr.fn ⟨fr.tmps, fr.defers⟩ o w, hf.put (dst := o.dst) (v := undef) (todo := .inRegion ops rest :: k) (fun _ _ _ => okPin_undef) hrest, hX, hc', fun e he => hev w.tape w.drawn hself e (by rw [onT_self]; exact he), fun main Z τ d ha => ?_⟩
      conv => lhs; rw [efr]
      rw [stepG_none ho hw hke (hrun τ d ha), hls τ d ha]
    | enter f args =>
      obtain ⟨hT, hargs⟩ := hl
      obtain ⟨fn, c, hfn, hbody, hcode⟩ := hE.body f hT
      refine .inl ⟨Frame.enter P f args .normal, fr :: X, w', listed P fr.fn ⟨fr.tmps, fr.defers⟩ o w, ?_, ?_, hc', fun e he => hev w.tape w.drawn hself e (by rw [onT_self]; exact he), fun main Z τ d ha => ?_⟩
      · refine ⟨⟨rfl, rfl, rfl, hT, ?_, fun j hj => ?_⟩, .inl rfl⟩
        · intro x hx
          have e : (Frame.enter P f args .normal).todo = [.code c] := by simp [Frame.enter, hfn, hbody]
          rw [e, List.mem_singleton] at hx
          subst hx
          exact hcode
        · have := hargs j hj
          simp only [Frame.enter]
          rw [Array.getD_eq_getD_getElem?] at this ⊢
          rw [Array.getElem?_append]
          split
          · exact this
          · rw [Array.getElem?_replicate]
            split <;> exact okPin_undef
      · intro c hcm
        rcases List.mem_cons.1 hcm with rfl | hcm
        · exact ⟨hf, hm, ops, i, rest, k, ht, fun o' d ho' hd => by
            rw [ho] at ho'
            cases ho'
            exact hnotpin f args w' rfl d hd⟩
        · exact hX c hcm
      · conv => lhs; rw [efr]
        rw [stepG_enter ho hw hke (hrun τ d ha), hls τ d ha, ← efr]
        rfl
    | _ => exact hl.elim
  | halt h w' =>
    have h3' : haltOk P h := h3
    have hgen : ∀ main Z τ d, agree n w τ d → stepG P main (G fr (X ++ Z)) (onT w τ d) = stepG.apply P true (fr.at ⟨fr.tmps, fr.defers⟩ (.inRegion ops (i :: rest) :: k)) (X ++ Z) none (execOp (⟨fr.tmps, fr.defers⟩ : Act).eval o) (onT w τ d) := fun main Z τ d ha => by
      conv => lhs; rw [efr]
      exact stepG_oper ho hw
    have hk' : (fr.kind == CallKind.early) = false := by rw [hf.kind]; rfl
    cases h with
    | panic v =>
      refine .inr (.inr fun main Z τ d ha => ?_)
      rw [hgen main Z τ d ha]
      refine ⟨[{ v, recovered := false }], onT w' τ (d + n), listed P fr.fn ⟨fr.tmps, fr.defers⟩ o (onT w τ d), ?_⟩
      conv => rhs; rw [efr]
      simp [stepG.apply, hrun τ d ha, resT, G, Frame.at, hk', GStep.after, Frame.raise, listed]
    | exit c =>
      refine .inr (.inl fun main Z τ d ha => ?_)
      rw [hgen main Z τ d ha]
      simp [stepG.apply, hrun τ d ha, resT, Frame.at, hk']
    | stuck s =>
      refine .inr (.inl fun main Z τ d ha => ?_)
      rw [hgen main Z τ d ha]
      simp [stepG.apply, hrun τ d ha, resT, Frame.at, hk']
    | unsupported u =>
      refine .inr (.inl fun main Z τ d ha => ?_)
      rw [hgen main Z τ d ha]
      rcases h3' with hml | ⟨g, hg, hso⟩
      · cases u with
        | initOrder g => exact hml.elim
        | _ =>
          simp [stepG.apply, hrun τ d ha, resT, Frame.at, hk']
      · cases hg
        simp [stepG.apply, hrun τ d ha, resT, Frame.at, hk', early, hE.follows, hso]
    | _ => rcases h3' with hml | ⟨g, hg, _⟩ <;> first | exact hml.elim | cases hg

/-- THE RETURN to a tame caller. -/
theorem step_return (hE : EnvOk P E) {fr c : Frame} {X : List Frame} {w : World} (hf : FrOk P E fr) (hm : fr.mode = .returning) (hX : ∀ x ∈ c :: X, CallerOk P E x) (hc : Calm P w) : ∃ n, StepRes P E fr (c :: X) w n := by
  obtain ⟨fn, _, hfn, _, _⟩ := hE.body fr.fn hf.tame
  have hml : MildT P (results fn fr.tmps) := by
    unfold results
    refine mildT_bind (mild_mapArray (fun x => ?_) _) fun _ => trivial
    cases x with
    | tmp t => exact trivial
    | cell a t => exact mildT_bind (mild_asAddr _) fun _ => mild_loadVar _ _
  obtain ⟨n, r, es, h1, h2, h3⟩ := mild_run hml w #[] hc
  have hcO := hX c (List.mem_cons_self ..)
  obtain ⟨ops, i, rest, k, htodo, hnp⟩ := hcO.call
  have hrun : ∀ τ d, agree n w τ d → (results fn fr.tmps).run P (onT w τ d) = resT r τ (d + n) ∧ (results fn fr.tmps).events P (onT w τ d) #[] = es := fun τ d ha => by
    have := h1 τ d ha
    simp only [Sem.runT_eq, Prod.mk.injEq] at this
    exact ⟨this.1, by rw [this.2]; simp⟩
  refine ⟨n, ?_⟩
  cases r with
  | ok v w' =>
    refine .inl ⟨c.finish v, X, w', seen P fr.fn es, ?_, fun x hx => hX x (List.mem_cons_of_mem _ hx), h3.2, fun e he => h2 e (mem_seen he), fun main Z τ d ha => ?_⟩
    · have e : c.finish v = c.at ((⟨c.tmps, c.defers⟩ : Act).put ((ops[i]?).bind (·.dst)) v) (.inRegion ops rest :: k) := by
        conv => lhs; rw [hcO.toFrOk.at_eq hcO.mode, htodo]
        rw [Frame.finish_at]
      rw [e]
      refine hcO.toFrOk.put (fun d hd hp => ?_) fun x hx => ?_
      · cases ho : ops[i]? with
        | none => rw [ho] at hd; cases hd
        | some o =>
          rw [ho] at hd
          rw [hnp o d ho hd] at hp
          cases hp
      · have hall : ∀ x ∈ c.todo, itemOk P E c.fn x = true := hcO.todo
        rw [htodo] at hall
        rcases List.mem_cons.1 hx with rfl | hx
        · exact hall (.inRegion ops (i :: rest)) (List.mem_cons_self ..)
        · exact hall x (List.mem_cons_of_mem _ hx)
    · obtain ⟨e1, e2⟩ := hrun τ d ha
      simp [G, stepG, unwind, hm, hf.defers, hfn, e1, e2, resT, doReturn, hf.kind, GStep.after]
  | halt h w' =>
    refine .inr (.inl fun main Z τ d ha => ?_)
    obtain ⟨e1, e2⟩ := hrun τ d ha
    cases h <;> simp [G, stepG, unwind, hm, hf.defers, hfn, e1, e2, resT]

/-- ████ A STEP WITHIN TAME FUNCTIONS. ████ -/
theorem tame_step (hE : EnvOk P E) {fr : Frame} {X : List Frame} {w : World} (hf : TopOk P E fr) (hX : ∀ c ∈ X, CallerOk P E c) (hc : Calm P w) (hb : X ≠ [] ∨ fr.mode = .run) : ∃ n, StepRes P E fr X w n := by
  rcases hf.mode with hm | hm
  rotate_left
  · cases X with
    | nil => rcases hb with h | h
             · exact absurd rfl h
             · rw [h] at hm; cases hm
    | cons c X => exact step_return hE hf.toFrOk hm hX hc
  have efr := hf.toFrOk.at_eq hm
  have htodo := hf.todo
  generalize ht : fr.todo = todo at efr htodo
  have hre : TopOk P E { fr.at ⟨fr.tmps, fr.defers⟩ todo with mode := .returning } := ⟨⟨hf.defers, hf.kind, rfl, hf.tame, htodo, hf.pins⟩, .inr rfl⟩
  match todo, ht, efr, htodo, hre with
  | [], ht, efr, htodo, hre =>
    refine ⟨0, step_move hre hX hc fun main cs w => ?_⟩
    conv => lhs; rw [efr]
    exact stepG_end
  | x :: k, ht, efr, htodo, hre =>
    have hk : ∀ y ∈ k, itemOk P E fr.fn y = true := fun y hy => htodo y (List.mem_cons_of_mem _ hy)
    have hx := htodo x (List.mem_cons_self ..)
    have one : ∀ {y : Item}, itemOk P E fr.fn y = true → ∀ z ∈ y :: k, itemOk P E fr.fn z = true := fun hy z hz => by
      rcases List.mem_cons.1 hz with rfl | hz
      · exact hy
      · exact hk z hz
    have two : ∀ {y y' : Item}, itemOk P E fr.fn y = true → itemOk P E fr.fn y' = true → ∀ z ∈ y :: y' :: k, itemOk P E fr.fn z = true := fun hy hy' z hz => by
      rcases List.mem_cons.1 hz with rfl | hz
      · exact hy
      · exact one hy' z hz
    cases x with
    | inBlock id =>
      refine ⟨0, step_move (hf.toFrOk.to hk) hX hc fun main cs w => ?_⟩
      conv => lhs; rw [efr]
      exact stepG_inBlock
    | inLoop c =>
      refine ⟨0, step_move (hf.toFrOk.to (two (y := .code c) (y' := .inLoop c) hx hx)) hX hc fun main cs w => ?_⟩
      conv => lhs; rw [efr]
      exact stepG_inLoop
    | inScope c =>
      refine ⟨0, step_move (hf.toFrOk.to hk) hX hc fun main cs w => ?_⟩
      conv => lhs; rw [efr]
      simp [G, stepG, stepG.exec, Frame.at]
    | inRangeFunc l => cases hx
    | endRangeFunc l => cases hx
    | beginRound => cases hx
    | call d b r s => cases hx
    | extern r a => cases hx
    | inRegion ops l =>
      cases l with
      | nil =>
        refine ⟨0, step_move (hf.toFrOk.to hk) hX hc fun main cs w => ?_⟩
        conv => lhs; rw [efr]
        exact stepG_region_end
      | cons i rest =>
        have hrest : ∀ y ∈ Item.inRegion ops rest :: k, itemOk P E fr.fn y = true := one (y := .inRegion ops rest) hx
        have hun : ((ops[i]?).map (Region.wanted · (yielded ops fr.tmps))).getD false = false → ∃ n, StepRes P E fr X w n := fun hn => by
          refine ⟨0, step_move (hf.toFrOk.put (dst := (ops[i]?).bind (·.dst)) (v := undef) (fun _ _ _ => okPin_undef) hrest) hX hc fun main cs w => ?_⟩
          conv => lhs; rw [efr]
          rw [← Frame.finish_at]
          have hn' := hn
          simp only [Frame.at] at *
          simp [G, stepG, stepG.exec, hn']
        cases ho : ops[i]? with
        | none => exact hun (by rw [ho]; rfl)
        | some o =>
          cases hw : Region.wanted o (yielded ops fr.tmps) with
          | false => exact hun (by rw [ho]; exact hw)
          | true => exact step_oper hE hf.toFrOk hm hX hc ht ho hw
    | code c =>
      cases c with
      | skip =>
        refine ⟨0, step_move (hf.toFrOk.to hk) hX hc fun main cs w => ?_⟩
        conv => lhs; rw [efr]
        exact stepG_skip
      | label l =>
        refine ⟨0, step_move (hf.toFrOk.to hk) hX hc fun main cs w => ?_⟩
        conv => lhs; rw [efr]
        exact stepG_label
      | seq p q =>
        have h2 : codeOk P E fr.fn p = true ∧ codeOk P E fr.fn q = true := by simpa [itemOk, codeOk] using hx
        refine ⟨0, step_move (hf.toFrOk.to (two (y := .code p) (y' := .code q) h2.1 h2.2)) hX hc fun main cs w => ?_⟩
        conv => lhs; rw [efr]
        exact stepG_seq
      | cond c p q =>
        have h2 : codeOk P E fr.fn p = true ∧ codeOk P E fr.fn q = true := by simpa [itemOk, codeOk] using hx
        cases hb : ((⟨fr.tmps, fr.defers⟩ : Act).eval c) with
        | bool b =>
          refine ⟨0, step_move (hf.toFrOk.to (one (y := .code (if b then p else q)) (by cases b; exact h2.2; exact h2.1))) hX hc fun main cs w => ?_⟩
          conv => lhs; rw [efr]
          exact stepG_cond hb
        | _ =>
          refine ⟨0, step_stuck fun main cs w => ?_⟩
          have h' : (fr.at ⟨fr.tmps, fr.defers⟩ (.code (.cond c p q) :: k)).eval c = (⟨fr.tmps, fr.defers⟩ : Act).eval c := Frame.eval_at _ _ _ _
          rw [hb] at h'
          rw [efr]
          simp only [Frame.at] at h'
          simp [G, stepG, stepG.exec, Frame.at, h']
      | block id p =>
        refine ⟨0, step_move (hf.toFrOk.to (two (y := .code p) (y' := .inBlock id) hx rfl)) hX hc fun main cs w => ?_⟩
        conv => lhs; rw [efr]
        exact stepG_block
      | loop p =>
        refine ⟨0, step_move (hf.toFrOk.to (two (y := .code p) (y' := .inLoop p) hx hx)) hX hc fun main cs w => ?_⟩
        conv => lhs; rw [efr]
        exact stepG_loop
      | scope p =>
        refine ⟨0, step_move (hf.toFrOk.to (two (y := .code p) (y' := .inScope p) hx hx)) hX hc fun main cs w => ?_⟩
        conv => lhs; rw [efr]
        simp [G, stepG, stepG.exec, Frame.at]
      | exit id =>
        cases he : exitTo id k with
        | some k' =>
          refine ⟨0, step_move (hf.toFrOk.to (exitTo_ok hk he)) hX hc fun main cs w => ?_⟩
          conv => lhs; rw [efr]
          exact stepG_exit he
        | none =>
          refine ⟨0, step_stuck fun main cs w => ?_⟩
          rw [efr]
          simp [G, stepG, stepG.exec, Frame.at, he]
      | ret =>
        refine ⟨0, step_move hre hX hc fun main cs w => ?_⟩
        conv => lhs; rw [efr]
        exact stepG_ret'
      | refuse s =>
        refine ⟨0, step_stuck fun main cs w => ?_⟩
        rw [efr]
        simp [G, stepG, stepG.exec, Frame.at]
      | goto l => cases hx
      | rangeFunc f ps a p => cases hx
      | region id ops draw =>
        cases draw with
        | false =>
          refine ⟨0, step_move (hf.toFrOk.to (one (y := .inRegion ops (List.range ops.size)) hx)) hX hc fun main cs w => ?_⟩
          conv => lhs; rw [efr]
          exact stepG_region
        | true =>
          refine ⟨1, .inl ⟨fr.at ⟨fr.tmps, fr.defers⟩ (.inRegion ops (Region.schedule (P.follows .mixedOrders) ops (w.tape w.drawn (.order fr.fn id))) :: k), X, w, #[], hf.toFrOk.to (one (y := .inRegion ops _) hx), hX, hc, quiet_none, fun main Z τ d ha => ?_⟩⟩
          have e0 : τ d (.order fr.fn id) = w.tape w.drawn (.order fr.fn id) := ha 0 (by omega) _
          conv => lhs; rw [efr]
          simp [G, stepG, stepG.exec, Frame.at, choose, Sem.run, Question.forced, Question.cut, onT, e0]
end
end Go.Proofs.YtifdhaiihlfomaaDoor
