/-
  Goroutine 0's walk beside goroutines that only leave: pieces of code, by what follows; calls by contract. No program in sight.
-/
import Derived.Test.YtifdhaiihlfomaaDoorConRecv
import Derived.Conc.Starve
namespace Go.Proofs.YtifdhaiihlfomaaDoor
open Go Go.Conc
set_option linter.unusedVariables false

/-- The others only draw; what is listed says nothing of deafness. -/
def Dq (_ _ : World) (es : Array Event) : Prop := ∀ e ∈ es, quietE e
theorem termsQ : Terms AtRel Dq := ⟨fun a b c ⟨d, h⟩ ⟨d', h'⟩ => ⟨d', by subst h; subst h'; rfl⟩, fun _ e he => by simp at he⟩
theorem drawQ : LetsDraw Dq := fun _ e he => by simp at he

section
variable {P : Program} {S : Goroutine → World → Prop}

theorem AtRel.self (w : World) : AtRel w w := ⟨w.drawn, rfl⟩
theorem Drive.rely {a : Goroutine} {w w₁ : World} (h : Drive P S a w) (r : AtRel w w₁) : Drive P S a w₁ := by
  obtain ⟨d, rfl⟩ := r
  exact h.at d
theorem drive_of_goes : ∀ (n : Nat) (g : Goroutine) (w : World), Goes P true AtRel Dq (fun g w => Drive P S g w) n g w → Drive P S g w
  | 0, g, w, h => h w (AtRel.self w)
  | n + 1, g, w, h => by
    rcases h with h | ⟨hs, h⟩
    · exact h w (AtRel.self w)
    · refine Drive.step hs fun d => ?_
      have h1 := h (w.at d) ⟨d, rfl⟩
      cases hst : stepG P true g (w.at d) with
      | go g' w' es =>
        rw [hst] at h1
        exact ⟨g', w', es, rfl, h1.1, drive_of_goes n g' w' h1.2⟩
      | _ => rw [hst] at h1; exact h1.elim
end

/-- What follows a piece of code. -/
def AfterD (P : Program) (S : Goroutine → World → Prop) (b : Frame) (k : List Item) (cs : List Frame) : Exit → Act → World → Prop
  | .normal, a, w => Drive P S (G (b.at a k) cs) w
  | .exit id, a, w => ∃ k', exitTo id k = some k' ∧ Drive P S (G (b.at a k') cs) w
  | .ret, a, w => ∀ todo, Drive P S (G { b.at a todo with mode := .returning } cs) w
  | _, _, _ => False
/-- THE JUDGEMENT. -/
def wpD (P : Program) (fn : FuncId) (c : Code) (Q : Exit → Act → World → Prop) (a : Act) (w : World) : Prop :=
  ∀ (b : Frame) (k : List Item) (cs : List Frame) (S : Goroutine → World → Prop), b.fn = fn → b.kind ≠ .early → (∀ e a' w', Q e a' w' → AfterD P S b k cs e a' w') → Drive P S (G (b.at a (.code c :: k)) cs) w
def OpsD (P : Program) (fn : FuncId) (ops : Array Oper) (todo : List Nat) (Q : Exit → Act → World → Prop) (a : Act) (w : World) : Prop :=
  ∀ (b : Frame) (k : List Item) (cs : List Frame) (S : Goroutine → World → Prop), b.fn = fn → b.kind ≠ .early → (∀ e a' w', Q e a' w' → AfterD P S b k cs e a' w') → Drive P S (G (b.at a (.inRegion ops todo :: k)) cs) w
/-- A contract of a function that goroutine 0 calls. -/
def CallsD (P : Program) (f : FuncId) (args : Array Value) (w : World) (R : Value → World → Prop) : Prop :=
  ∀ (c : Frame) (cs : List Frame) (S : Goroutine → World → Prop), (∀ v w', R v w' → Drive P S (G (c.finish v) cs) w') → Drive P S (G (Frame.enter P f args .normal) (c :: cs)) w
def bodyD (P : Program) (fn : Func) (R : Value → World → Prop) : Exit → Act → World → Prop
  | .normal, a, w | .ret, a, w => a.defers = [] ∧ ∃ v, ResultsC P fn a.tmps v ∧ R v w
  | _, _, _ => False

section
variable {P : Program} {S : Goroutine → World → Prop} {fn : FuncId} {Q Q' : Exit → Act → World → Prop} {a : Act} {w : World} {c x y : Code} {n : Nat}

theorem AfterD.push {b : Frame} {i : Item} {k : List Item} {cs : List Frame} {e : Exit} (hi : i.plain = true) (he : e ≠ .normal) (h : AfterD P S b k cs e a w) : AfterD P S b (i :: k) cs e a w := by
  cases e with
  | normal => exact absurd rfl he
  | exit id => obtain ⟨k', hk, hg⟩ := h; exact ⟨k', by cases i <;> simp_all [exitTo, Item.plain], hg⟩
  | ret => exact h
  | goto l => exact h
  | panic ch => exact h
  | outgrown => exact h
theorem after_of {b : Frame} {k : List Item} {cs : List Frame} {e : Exit} (h : AfterD P S b k cs e a w) : After P true AtRel Dq (fun g w => Drive P S g w) 0 b k cs e a w := by
  cases e with
  | normal => exact Goes.stop fun w₁ h₁ => Drive.rely h h₁
  | exit id => obtain ⟨k', hk, hg⟩ := h; exact ⟨k', hk, Goes.stop fun w₁ h₁ => Drive.rely hg h₁⟩
  | ret => exact fun todo => Goes.stop fun w₁ h₁ => Drive.rely (h todo) h₁
  | goto l => exact h
  | panic ch => exact h
  | outgrown => exact h
theorem wpD_of_wpC (h : c.wpC P true AtRel Dq fn n Q a w) : wpD P fn c Q a w :=
  fun b k cs S hb hk hc => drive_of_goes _ _ _ (h b k cs (fun g w => Drive P S g w) 0 hb hk fun e a' w' q => after_of (hc e a' w' q))
theorem opsD_of_opsC {ops : Array Oper} {todo : List Nat} (h : OpsC P true AtRel Dq fn ops todo n Q a w) : OpsD P fn ops todo Q a w :=
  fun b k cs S hb hk hc => drive_of_goes _ _ _ (h b k cs (fun g w => Drive P S g w) 0 hb hk fun e a' w' q => after_of (hc e a' w' q))
theorem wpD_mono (h : wpD P fn c Q a w) (hq : ∀ e a w, Q e a w → Q' e a w) : wpD P fn c Q' a w := fun b k cs S hb hk hc => h b k cs S hb hk fun e a' w' q => hc e a' w' (hq e a' w' q)

/-- One step that only moves control. -/
theorem drive_ctl {g g' : Goroutine} (hs : g.status = .running) (h : ∀ w, stepG P true g w = .go g' w #[]) (hd : Drive P S g' w) : Drive P S g w :=
  Drive.step hs fun d => ⟨g', w.at d, #[], h _, by simp, hd.at d⟩

theorem wpD_seq (h : wpD P fn x (Exit.then (fun a' w' => wpD P fn y Q a' w') Q) a w) : wpD P fn (.seq x y) Q a w := fun b k cs S hb hk hc =>
  drive_ctl rfl (fun _ => stepG_seq) (h b (.code y :: k) cs S hb hk fun e a' w' q => by
    cases e with
    | normal => exact q b k cs S hb hk hc
    | exit id => exact (hc _ _ _ q).push rfl (by simp)
    | ret => exact AfterD.push (i := .code y) rfl (by simp) (hc _ _ _ q)
    | goto l => exact hc _ _ _ q
    | panic ch => exact hc _ _ _ q
    | outgrown => exact hc _ _ _ q)
theorem wpD_cond {o : Operand} {t : Bool} (hc : a.eval o = .bool t) (h : wpD P fn (if t then x else y) Q a w) : wpD P fn (.cond o x y) Q a w := fun b k cs S hb hk hq =>
  drive_ctl rfl (fun _ => stepG_cond hc) (h b k cs S hb hk hq)
theorem wpD_true {o : Operand} (hc : a.eval o = .bool true) (h : wpD P fn x Q a w) : wpD P fn (.cond o x y) Q a w := wpD_cond hc h
theorem wpD_false {o : Operand} (hc : a.eval o = .bool false) (h : wpD P fn y Q a w) : wpD P fn (.cond o x y) Q a w := wpD_cond (t := false) hc h
theorem wpD_skip (h : Q .normal a w) : wpD P fn .skip Q a w := fun b k cs S hb hk hc => drive_ctl rfl (fun _ => stepG_skip) (hc _ _ _ h)
theorem wpD_ret (h : Q .ret a w) : wpD P fn .ret Q a w := fun b k cs S hb hk hc => drive_ctl rfl (fun _ => stepG_ret') (hc _ _ _ h _)
theorem wpD_exit {id : Nat} (h : Q (.exit id) a w) : wpD P fn (.exit id) Q a w := fun b k cs S hb hk hc => by
  obtain ⟨k', hk', hg⟩ := hc _ _ _ h
  exact drive_ctl rfl (fun _ => stepG_exit hk') hg
theorem wpD_block {id : Nat} (h : wpD P fn c (Exit.inBlock id Q) a w) : wpD P fn (.block id c) Q a w := fun b k cs S hb hk hc =>
  drive_ctl rfl (fun _ => stepG_block) (h b (.inBlock id :: k) cs S hb hk fun e a' w' q => by
    cases e with
    | normal => exact drive_ctl rfl (fun _ => stepG_inBlock) (hc _ _ _ q)
    | exit id' =>
      by_cases hid : id' = id
      · simp only [Exit.inBlock, hid, if_true] at q
        exact ⟨k, by simp [exitTo, hid], hc _ _ _ q⟩
      · simp only [Exit.inBlock, hid, if_false] at q
        obtain ⟨k', hk', hg⟩ := hc _ _ _ q
        have : (id == id') = false := by simp; exact fun h => hid h.symm
        exact ⟨k', by simp [exitTo, this, hk'], hg⟩
    | ret => exact fun todo => hc _ _ _ q todo
    | goto l => exact hc _ _ _ q
    | panic ch => exact hc _ _ _ q
    | outgrown => exact hc _ _ _ q)
theorem wpD_loop (I : Act → World → Prop) (μ : Act → World → Nat) (h₀ : I a w) (round : ∀ a w, I a w → wpD P fn c (Exit.then (fun a' w' => I a' w' ∧ μ a' w' < μ a w) Q) a w) : wpD P fn (.loop c) Q a w := by
  intro b k cs S hb hk hc
  have key : ∀ N a w, μ a w = N → I a w → Drive P S (G (b.at a (.code c :: .inLoop c :: k)) cs) w := by
    intro N
    induction N using Nat.strongRecOn with
    | ind N ih =>
      intro a w hN hI
      refine round a w hI b (.inLoop c :: k) cs S hb hk fun e a' w' q => ?_
      cases e with
      | normal => exact drive_ctl rfl (fun _ => stepG_inLoop) (ih _ (hN ▸ q.2) a' w' rfl q.1)
      | exit id => exact (hc _ _ _ q).push rfl (by simp)
      | ret => exact AfterD.push (i := .inLoop c) rfl (by simp) (hc _ _ _ q)
      | goto l => exact hc _ _ _ q
      | panic ch => exact hc _ _ _ q
      | outgrown => exact hc _ _ _ q
  exact drive_ctl rfl (fun _ => stepG_loop) (key _ a w rfl h₀)
theorem wpD_region {id : Nat} {ops : Array Oper} (h : OpsD P fn ops (List.range ops.size) Q a w) : wpD P fn (.region id ops false) Q a w := fun b k cs S hb hk hc => drive_ctl rfl (fun _ => stepG_region) (h b k cs S hb hk hc)
theorem opsD_nil {ops : Array Oper} (h : Q .normal a w) : OpsD P fn ops [] Q a w := fun b k cs S hb hk hc => drive_ctl rfl (fun _ => stepG_region_end) (hc _ _ _ h)
theorem opsD_cons_k {ops : Array Oper} {i : Nat} {rest : List Nat} {o : Oper} (ho : ops[i]? = some o) (hw : Region.wanted o (yielded ops a.tmps) = true)
    (h : ∀ w₁, AtRel w w₁ → ∀ K : Act → World → Prop, (∀ a' w', Dq w₁ w' (listed P fn a o w₁) ∧ OpsD P fn ops rest Q a' w' → K a' w') → uponK o a K ((execOp a.eval o).run P w₁)) : OpsD P fn ops (i :: rest) Q a w := by
  intro b k cs S hb hk hc
  refine drive_of_goes 1 _ _ (Goes.step rfl fun w₁ h₁ => goes_oper ho hw hk ?_)
  have := h w₁ h₁ _ fun a' w' x => x
  revert this
  cases (execOp a.eval o).run P w₁ with
  | ok x w' => cases x <;> first | exact fun ⟨d, g⟩ => ⟨hb ▸ d, Goes.stop fun w₂ h₂ => Drive.rely (g b k cs S hb hk hc) h₂⟩ | exact id
  | halt _ _ => exact id
/-- One operation, the frame in sight. -/
theorem drive_op_k {b : Frame} {k : List Item} {cs : List Frame} {ops : Array Oper} {i : Nat} {rest : List Nat} {o : Oper} (ho : ops[i]? = some o) (hw : Region.wanted o (yielded ops a.tmps) = true) (hk : b.kind ≠ .early)
    (h : ∀ w₁, AtRel w w₁ → ∀ K : Act → World → Prop, (∀ a' w', Dq w₁ w' (listed P b.fn a o w₁) ∧ Drive P S (G (b.at a' (.inRegion ops rest :: k)) cs) w' → K a' w') → uponK o a K ((execOp a.eval o).run P w₁)) : Drive P S (G (b.at a (.inRegion ops (i :: rest) :: k)) cs) w := by
  refine drive_of_goes 1 _ _ (Goes.step rfl fun w₁ h₁ => goes_oper ho hw hk ?_)
  have := h w₁ h₁ _ fun a' w' x => x
  revert this
  cases (execOp a.eval o).run P w₁ with
  | ok x w' => cases x <;> first | exact fun ⟨d, g⟩ => ⟨d, Goes.stop fun w₂ h₂ => Drive.rely g h₂⟩ | exact id
  | halt _ _ => exact id
/-- A statement that calls nothing, then the rest, out of sight. -/
theorem wpD_stmt {id : Nat} {ops : Array Oper} (h : ∀ K : Act → World → Prop, Hid (∀ a' w', wpD P fn y Q a' w' → K a' w') → OpsC P true AtRel Dq fn ops (List.range ops.size) n (onN K) a w) : wpD P fn (.seq (.region id ops false) y) Q a w :=
  wpD_seq (wpD_mono (wpD_of_wpC (wpC_region termsQ (h _ ⟨fun _ _ x => x⟩))) (onN_to fun _ _ x => x))
theorem wpD_last {id : Nat} {ops : Array Oper} (h : ∀ K : Act → World → Prop, Hid (∀ a' w', Q .normal a' w' → K a' w') → OpsC P true AtRel Dq fn ops (List.range ops.size) n (onN K) a w) : wpD P fn (.region id ops false) Q a w :=
  wpD_mono (wpD_of_wpC (wpC_region termsQ (h _ ⟨fun _ _ x => x⟩))) (onN_to fun _ _ x => x)
theorem opsD_unwanted {ops : Array Oper} {i : Nat} {rest : List Nat} {o : Oper} (ho : ops[i]? = some o) (hw : Region.wanted o (yielded ops a.tmps) = false)
    (h : OpsD P fn ops rest Q (a.put o.dst undef) w) : OpsD P fn ops (i :: rest) Q a w := fun b k cs S hb hk hc => drive_ctl rfl (fun _ => stepG_unwanted ho hw) (h b k cs S hb hk hc)

/-- A function's contract out of its body's. -/
theorem callsD_of_wpD {f : FuncId} {fx : Func} {code : Code} {args : Array Value} {R : Value → World → Prop} (hf : P.funcs[f]? = some fx) (hb : fx.body = some code)
    (h : wpD P f code (bodyD P fx R) { tmps := args ++ Array.replicate (fx.ntmps - args.size) undef, defers := [] } w) : CallsD P f args w R := by
  intro c cs S hc
  have hleave : ∀ (a' : Act) (w' : World) (todo : List Item), (a'.defers = [] ∧ ∃ v, ResultsC P fx a'.tmps v ∧ R v w') → Drive P S (G { (base f).at a' todo with mode := .returning } (c :: cs)) w' := by
    rintro a' w' todo ⟨hd, v, hr, hp⟩
    exact drive_ctl rfl (fun w => stepG_leave (b := base f) rfl hd hf (hr w).1 (hr w).2) (hc v w' hp)
  rw [enter_at args hf hb]
  refine h (base f) [] (c :: cs) S rfl (by simp [base]) fun e a' w' q => ?_
  cases e with
  | normal => exact drive_ctl rfl (fun _ => stepG_end) (hleave a' w' [] q)
  | ret => exact fun todo => hleave a' w' todo q
  | exit id => exact q.elim
  | goto l => exact q.elim
  | panic ch => exact q.elim
  | outgrown => exact q.elim
theorem opsD_call {ops : Array Oper} {i : Nat} {rest : List Nat} {o : Oper} {f : FuncId} {fx : Func} {code : Code} {args : Array Operand} {av : Array Value} {ats : Array TypeId} {R : Value → World → Prop}
    (ho : ops[i]? = some o) (hw : Region.wanted o (yielded ops a.tmps) = true) (hop : o.op = .call { callee := .value (.func f), args, argTypes := ats }) (hav : args.map a.eval = av)
    (hf : P.funcs[f]? = some fx) (hname : (fx.name == "runtime.NumGoroutine") = false) (hbody : fx.body = some code)
    (hcall : CallsD P f av w R) (hnext : ∀ v w', R v w' → OpsD P fn ops rest Q (a.put o.dst v) w') : OpsD P fn ops (i :: rest) Q a w := by
  intro b k cs S hb hk hc
  subst hav
  have hfin : ∀ v, (b.at a (.inRegion ops (i :: rest) :: k)).finish v = b.at (a.put o.dst v) (.inRegion ops rest :: k) := fun v => by rw [Frame.finish_at, ho]; rfl
  refine drive_of_goes 1 _ _ (Goes.step rfl fun w₁ h₁ => goes_call ho hw hk hop hf hname hbody ⟨fun e he => by simp at he, Goes.stop fun w₂ h₂ => ?_⟩)
  have := hcall (b.at a (.inRegion ops (i :: rest) :: k)) cs S fun v w' hp => by
    rw [hfin]
    exact hnext v w' hp b k cs S hb hk hc
  rw [enter_at _ hf hbody] at this
  exact Drive.rely this (termsQ.trans _ _ _ h₁ h₂)
end
end Go.Proofs.YtifdhaiihlfomaaDoor
