/-
  Tame functions: their bodies hold everyday operations alone, and call tame functions alone, each by its name, or by a value that is known to be one of them. A goroutine within tame functions goes its steps alike over any tape whose next answers are the same, whoever stands beneath. No program in sight.
-/
import Derived.Test.YtifdhaiihlfomaaDoorConShift
namespace Go.Proofs.YtifdhaiihlfomaaDoor
open Go Go.Conc

/-- The tame functions; the slots in which no function value lies but h0's; h0. -/
structure Env where
  T : FuncId → Bool
  pins : FuncId → Tmp → Bool
  h0 : FuncId

def isFn : Value → Bool
  | .func .. => true
  | .nilIface => true
  | _ => false

def pinSrc (E : Env) (fn : FuncId) : Operand → Bool
  | .tmp j => E.pins fn j
  | .func f => f == E.h0
  | .const v => !isFn v
  | .global _ => true

/-- A call of function f with these arguments may stand in function fn. -/
def callOk (P : Program) (E : Env) (fn f : FuncId) (args : Array Operand) : Bool :=
  E.T f && (match P.funcs[f]? with | some x => x.body.isSome && x.name != "runtime.NumGoroutine" | none => false) &&
    (List.range args.size).all fun i => !E.pins f i || (match args[i]? with | some x => pinSrc E fn x | none => true)

def builtinOk : Builtin → Bool
  | .len | .cap | .append | .copy | .max | .min => true
  | _ => false

def kindOk (P : Program) (E : Env) (fn : FuncId) : Op → Bool
  | .move _ | .assign _ | .pick .. | .alloc _ | .box .. | .build .. | .buildSlice .. | .load .. | .store .. | .binOp .. | .unOp .. | .makeMap .. | .makeSlice .. | .slice .. | .fieldAddr .. | .field .. | .indexAddr .. | .index .. | .lookup .. | .mapUpdate .. | .insert .. | .range .. | .next .. | .extract .. | .makeInterface .. => true
  | .panic x => match x with
    | .tmp j => E.pins fn j
    | _ => false
  | .convert s d _ => safeType P s && safeType P d
  | .call c => match c.callee with
    | .builtin b => builtinOk b
    | .value (.func f) => callOk P E fn f c.args
    | .value (.tmp j) => E.pins fn j && callOk P E fn E.h0 c.args
    | _ => false
  | _ => false

def dstOk (E : Env) (fn : FuncId) (o : Oper) : Bool :=
  match o.dst with
  | none => true
  | some d => !E.pins fn d || (match o.op with | .move x => pinSrc E fn x | .makeInterface .. => true | _ => false)

def opOk (P : Program) (E : Env) (fn : FuncId) (o : Oper) : Bool := kindOk P E fn o.op && dstOk E fn o

def codeOk (P : Program) (E : Env) (fn : FuncId) : Code → Bool
  | .region _ ops _ => ops.toList.all (opOk P E fn)
  | .seq a b | .cond _ a b => codeOk P E fn a && codeOk P E fn b
  | .block _ c | .loop c | .scope c => codeOk P E fn c
  | .skip | .exit _ | .label _ | .ret | .refuse _ => true
  | _ => false

def itemOk (P : Program) (E : Env) (fn : FuncId) : Item → Bool
  | .code c | .inLoop c | .inScope c => codeOk P E fn c
  | .inBlock _ => true
  | .inRegion ops _ => ops.toList.all (opOk P E fn)
  | _ => false

/-- All of it, said of the program's text once. -/
structure EnvOk (P : Program) (E : Env) : Prop where
  follows : P.follows .staticDataAhead = true
  body : ∀ f, E.T f = true → ∃ fn c, P.funcs[f]? = some fn ∧ fn.body = some c ∧ codeOk P E f c = true
  /-- What a function takes by its parameters alone is pinned at a call: a slot behind them begins empty. -/
  h0T : E.T E.h0 = true

def okPin (E : Env) (v : Value) : Prop := v = .func (.func E.h0) #[] #[] ∨ isFn v = false

structure FrOk (P : Program) (E : Env) (fr : Frame) : Prop where
  defers : fr.defers = []
  kind : fr.kind = .normal
  round : fr.roundOf = none
  tame : E.T fr.fn = true
  todo : ∀ x ∈ fr.todo, itemOk P E fr.fn x = true
  pins : ∀ j, E.pins fr.fn j = true → okPin E (fr.tmps.getD j undef)

structure CallerOk (P : Program) (E : Env) (fr : Frame) : Prop extends FrOk P E fr where
  mode : fr.mode = .run
  call : ∃ ops i rest k, fr.todo = .inRegion ops (i :: rest) :: k ∧ ∀ o d, ops[i]? = some o → o.dst = some d → E.pins fr.fn d = false

def leafOk (E : Env) : Next → Prop
  | .value _ | .skip => True
  | .enter f args => E.T f = true ∧ ∀ i, E.pins f i = true → okPin E (args.getD i undef)
  | _ => False

section
variable {P : Program} {E : Env}

theorem okPin_undef : okPin E undef := .inr rfl

theorem okPin_src {a : Act} {fn : FuncId} (hp : ∀ j, E.pins fn j = true → okPin E (a.tmps.getD j undef)) {x : Operand} (h : pinSrc E fn x = true) : okPin E (a.eval x) := by
  cases x with
  | tmp j => exact hp j h
  | func f =>
    simp only [pinSrc, beq_iff_eq] at h
    subst h
    exact .inl rfl
  | const v => exact .inr (show isFn v = false by simpa [pinSrc] using h)
  | global g => exact .inr rfl

theorem callOk_enter {fn f : FuncId} {args : Array Operand} {a : Act} (hp : ∀ j, E.pins fn j = true → okPin E (a.tmps.getD j undef)) (h : callOk P E fn f args = true) : Mild P (leafOk E) (callFunc f (args.map a.eval)) := by
  unfold callOk at h
  simp only [Bool.and_eq_true] at h
  obtain ⟨⟨hT, hf⟩, hpin⟩ := h
  unfold callFunc
  refine mild_program ?_
  cases e : P.funcs[f]? with
  | none => rw [e] at hf; cases hf
  | some x =>
    rw [e] at hf
    simp only [Bool.and_eq_true, bne_iff_ne, ne_eq] at hf
    dsimp only
    rw [if_neg (by simpa using hf.2)]
    have hb : x.body.isNone = false := by cases h : x.body <;> simp_all
    rw [if_neg (by simp [hb])]
    refine ⟨hT, fun i hi => ?_⟩
    rcases Nat.lt_or_ge i args.size with hlt | hge
    · have := List.all_eq_true.1 hpin i (List.mem_range.2 hlt)
      rw [hi, Array.getElem?_eq_getElem hlt] at this
      have e2 : (args.map a.eval).getD i undef = a.eval args[i] := by simp [Array.getD, hlt]
      rw [e2]
      exact okPin_src hp (by simpa using this)
    · have e2 : (args.map a.eval).getD i undef = undef := by simp [Array.getD, Nat.not_lt.2 hge]
      rw [e2]
      exact okPin_undef

theorem mild_value {L : Next → Prop} {s : Sem Value} (hL : ∀ v, L (.value v)) (h : MildT P s) : Mild P L (do pure (.value (← s))) := mildT_bind h fun v => hL v
theorem mild_unit {L : Next → Prop} {s : Sem Unit} (hL : L .skip) (h : MildT P s) : Mild P L (do s; pure .skip) := mildT_bind h fun _ => hL

theorem mild_makeInterface (t : TypeId) (v : Value) : MildT P (Instr.makeInterface t v) := by
  unfold Instr.makeInterface
  refine mildT_bind (mild_underlying _) fun u => ?_
  split
  · exact mild_stuck _
  · exact trivial
theorem mild_panic {v : Value} (h : v ≠ .nilIface) : MildT P (Instr.panic v) := by
  unfold Instr.panic
  split
  · exact mild_goPanic _
  · exact absurd rfl h
  · exact mild_stuck _
theorem iface_run {t : TypeId} {x v : Value} {w w' : World} (h : (Instr.makeInterface t x).run P w = .ok v w') : isFn v = false := by
  unfold Instr.makeInterface at h
  simp only [Sem.run_bind] at h
  cases hu : (underlying t).run P w with
  | halt a b => rw [hu] at h; cases h
  | ok u w₁ =>
    rw [hu] at h
    simp only [Result.andThen_ok] at h
    split at h
    · cases h
    · cases h
      rfl

theorem mild_exec {fn : FuncId} {a : Act} {o : Oper} (hp : ∀ j, E.pins fn j = true → okPin E (a.tmps.getD j undef)) (h : kindOk P E fn o.op = true) : Mild P (leafOk E) (execOp a.eval o) := by
  have hv : ∀ v, leafOk E (.value v) := fun _ => trivial
  have hs : leafOk E .skip := trivial
  unfold execOp
  cases ho : o.op <;> rw [ho] at h <;> dsimp only <;> (try cases h)
  case move => exact trivial
  case assign => exact trivial
  case pick => exact mildT_bind (mild_asBool _) fun _ => by split <;> trivial
  case alloc => exact mild_value hv (mild_alloc _ _ _)
  case box => exact mild_value hv (mild_box _ _)
  case build => exact mild_value hv (mild_build _ _)
  case buildSlice => exact mild_value hv (mild_buildSlice _ _ _)
  case insert => exact mild_unit hs (mild_mapUpdate _ _ _ _)
  case load => exact mild_value hv (mild_loadAt _ _)
  case store => exact mild_unit hs (mild_storeAt _ _ _)
  case binOp => exact mild_value hv (mildT_bind (mild_eqGuard _ _ _ _ _ _) fun _ => mild_binOp _ _ _ _)
  case unOp => exact mild_value hv (mild_unary _ _)
  case convert s d x =>
    simp only [kindOk, Bool.and_eq_true] at h
    exact mild_value hv (mild_convert h.1 h.2 _)
  case makeMap => exact mild_value hv (mild_makeMap _ _)
  case makeSlice => exact mild_value hv (mild_makeSlice _ _ _)
  case slice => exact mild_value hv (mild_sliceAt _ _ _ _ _)
  case fieldAddr => exact mild_value hv (mild_fieldAt _ _ _)
  case field => exact mild_value hv (mild_field _ _ _)
  case indexAddr => exact mild_value hv (mild_indexAt _ _ _)
  case index => exact mild_value hv (mild_index _ _ _)
  case lookup => exact mild_value hv (mild_lookup _ _ _ _)
  case mapUpdate => exact mild_unit hs (mild_mapUpdate _ _ _ _)
  case range => exact mild_value hv (mild_range _ _)
  case next => exact mild_value hv (mild_next _ _ _)
  case extract => exact mild_value hv (mild_extract _ _)
  case makeInterface => exact mild_value hv (mild_makeInterface _ _)
  case panic x =>
    simp only [kindOk] at h
    split at h
    · rename_i j
      refine mild_value hv (mild_panic ?_)
      have hpin := hp j h
      have ev : a.eval (.tmp j) = a.tmps.getD j undef := rfl
      rw [ev]
      rcases hpin with hv0 | hnf
      · rw [hv0]; exact fun e => by cases e
      · exact fun e => by rw [e] at hnf; cases hnf
    · cases h
  case call c =>
    simp only [kindOk] at h
    unfold resolve
    split at h
    · rename_i b hb
      rw [hb]
      dsimp only
      show Mild P (leafOk E) (builtin b c.argTypes o.type _ _)
      unfold builtin
      cases b <;> first | (cases h; done) | dsimp only
      case append => exact mild_value hv (mild_append _ _ _)
      case cap => exact mild_value hv (mild_cap _ _ _)
      case copy => exact mild_value hv (mild_copy _ _ _)
      case len => exact mild_value hv (mild_len _ _ _)
      case max => exact mild_value hv (mild_max _ _ _)
      case min => exact mild_value hv (mild_min _ _ _)
    · rename_i f hf
      rw [hf]
      have e : (#[] : Array Value) ++ c.args.map a.eval ++ #[] = c.args.map a.eval := by simp
      have := callOk_enter (P := P) (a := a) hp h
      rw [← e] at this
      exact this
    · rename_i j hj
      simp only [Bool.and_eq_true] at h
      rw [hj]
      have hpin := hp j h.1
      have ev : a.eval (.tmp j) = a.tmps.getD j undef := rfl
      rcases hpin with hv0 | hnf
      · have e : (#[] : Array Value) ++ c.args.map a.eval ++ #[] = c.args.map a.eval := by simp
        have := callOk_enter (P := P) (a := a) hp h.2
        rw [← e] at this
        dsimp only
        rw [ev, hv0]
        exact this
      · dsimp only
        rw [ev]
        generalize a.tmps.getD j undef = v at hnf
        cases v <;> first | (cases hnf; done) | exact trivial | exact mild_runtimePanic _
    · cases h
end
end Go.Proofs.YtifdhaiihlfomaaDoor
