/-
  A sender's walk: a piece of code in company that sends a row of values over the channel on its way. The rules of the walk in company, with the row that is sent. No program in sight.
-/
import Derived.Test.YtifdhaiihlfomaaDoorConWalk
import Derived.Conc.CompanyDraw
import Derived.Conc.DeferLaws
namespace Go.Proofs.YtifdhaiihlfomaaDoor
open Go Go.Conc
set_option linter.unusedVariables false

/-- A fact, out of the walk's sight. -/
structure Hid (p : Prop) : Prop where
  out : p

/-- THE JUDGEMENT: the piece of code is left within n own steps (to the first send, or to its end), vs being sent on the way. -/
def wpS (P : Program) (ch Low : Nat) (own : Obj → Bool) (fn : FuncId) (c : Code) (n : Nat) (vs : List Value) (Q : Exit → Act → World → Prop) (a : Act) (w : World) : Prop :=
  ∀ (b : Frame) (k : List Item) (cs : List Frame) (us : List Value) (m : Nat), b.fn = fn → b.kind ≠ .early →
    (∀ e a' w', Q e a' w' → After P false (Oth ch Low own false) (DOwn ch Low own false) (StopBW P ch Low own us) m b k cs e a' w') →
    Goes P false (Oth ch Low own false) (DOwn ch Low own false) (StopBW P ch Low own (vs ++ us)) (m + n) (G (b.at a (.code c :: k)) cs) w

/-- The same of the operations of a region that are still to come, in this order. -/
def OpsS (P : Program) (ch Low : Nat) (own : Obj → Bool) (fn : FuncId) (ops : Array Oper) (todo : List Nat) (n : Nat) (vs : List Value) (Q : Exit → Act → World → Prop) (a : Act) (w : World) : Prop :=
  ∀ (b : Frame) (k : List Item) (cs : List Frame) (us : List Value) (m : Nat), b.fn = fn → b.kind ≠ .early →
    (∀ e a' w', Q e a' w' → After P false (Oth ch Low own false) (DOwn ch Low own false) (StopBW P ch Low own us) m b k cs e a' w') →
    Goes P false (Oth ch Low own false) (DOwn ch Low own false) (StopBW P ch Low own (vs ++ us)) (m + n) (G (b.at a (.inRegion ops todo :: k)) cs) w

/-- A contract of a function that sends. -/
def CallsS (P : Program) (ch Low : Nat) (own : Obj → Bool) (f : FuncId) (args : Array Value) (n : Nat) (vs : List Value) (w : World) (Post : Value → World → Prop) : Prop :=
  ∃ fn c, P.funcs[f]? = some fn ∧ (fn.name == "runtime.NumGoroutine") = false ∧ fn.body = some c ∧
    wpS P ch Low own f c n vs (bodyPostC P fn Post) { tmps := args ++ Array.replicate (fn.ntmps - args.size) undef, defers := [] } w

/-- What is asked behind the first of two pieces. -/
def thenS (next : Act → World → Prop) (vs : List Value) (Q : Exit → Act → World → Prop) : Exit → Act → World → Prop
  | .normal, a, w => next a w
  | e, a, w => vs = [] ∧ Q e a w

section
variable {P : Program} {ch Low : Nat} {own : Obj → Bool} {fn : FuncId} {Q Q' : Exit → Act → World → Prop} {a : Act} {w w₁ : World} {c x y : Code} {n n' n₁ n₂ : Nat} {vs vs₁ vs₂ : List Value}

theorem wpS_of_wpC (h : c.wpC P false (Oth ch Low own false) (DOwn ch Low own false) fn n Q a w) : wpS P ch Low own fn c n [] Q a w :=
  fun b k cs us m hb hk hc => h b k cs _ m hb hk hc
theorem opsS_of_opsC {ops : Array Oper} {todo : List Nat} (h : OpsC P false (Oth ch Low own false) (DOwn ch Low own false) fn ops todo n Q a w) : OpsS P ch Low own fn ops todo n [] Q a w :=
  fun b k cs us m hb hk hc => h b k cs _ m hb hk hc

theorem wpS_more (h : wpS P ch Low own fn c n vs Q a w) (hn : n ≤ n') : wpS P ch Low own fn c n' vs Q a w :=
  fun b k cs us m hb hk hc => (h b k cs us m hb hk hc).mono (by omega)
theorem opsS_more {ops : Array Oper} {todo : List Nat} (h : OpsS P ch Low own fn ops todo n vs Q a w) (hn : n ≤ n') : OpsS P ch Low own fn ops todo n' vs Q a w :=
  fun b k cs us m hb hk hc => (h b k cs us m hb hk hc).mono (by omega)
theorem wpS_mono (h : wpS P ch Low own fn c n vs Q a w) (hq : ∀ e a w, Q e a w → Q' e a w) : wpS P ch Low own fn c n vs Q' a w :=
  fun b k cs us m hb hk hc => h b k cs us m hb hk fun e a' w' q => hc e a' w' (hq e a' w' q)
theorem wpS_rely (h : wpS P ch Low own fn c n vs Q a w) (hr : Oth ch Low own false w w₁) : wpS P ch Low own fn c n vs Q a w₁ :=
  fun b k cs us m hb hk hc => (h b k cs us m hb hk hc).rely oth_trans hr
theorem opsS_rely {ops : Array Oper} {todo : List Nat} (h : OpsS P ch Low own fn ops todo n vs Q a w) (hr : Oth ch Low own false w w₁) : OpsS P ch Low own fn ops todo n vs Q a w₁ :=
  fun b k cs us m hb hk hc => (h b k cs us m hb hk hc).rely oth_trans hr

theorem wpS_cases {p : Prop} (h1 : p → wpS P ch Low own fn c n₁ vs Q a w) (h2 : ¬ p → wpS P ch Low own fn c n₂ vs Q a w) : wpS P ch Low own fn c (max n₁ n₂) vs Q a w := by
  by_cases h : p
  · exact wpS_more (h1 h) (Nat.le_max_left _ _)
  · exact wpS_more (h2 h) (Nat.le_max_right _ _)

theorem after_out {us : List Value} {m : Nat} {b : Frame} {i : Item} {k : List Item} {cs : List Frame} {e : Exit} (hi : i.plain = true) (he : e ≠ .normal) (h : After P false (Oth ch Low own false) (DOwn ch Low own false) (StopBW P ch Low own us) m b k cs e a w) :
    After P false (Oth ch Low own false) (DOwn ch Low own false) (StopBW P ch Low own us) m b (i :: k) cs e a w := h.push hi he

theorem wpS_seq (h : wpS P ch Low own fn x n₁ vs₁ (thenS (fun a' w' => wpS P ch Low own fn y n₂ vs₂ Q a' w') vs₂ Q) a w) : wpS P ch Low own fn (.seq x y) (n₁ + n₂ + 1) (vs₁ ++ vs₂) Q a w := by
  intro b k cs us m hb hk hc
  have hx : Goes P false (Oth ch Low own false) (DOwn ch Low own false) (StopBW P ch Low own (vs₁ ++ (vs₂ ++ us))) (m + n₂ + n₁) (G (b.at a (.code x :: .code y :: k)) cs) w := by
    refine h b (.code y :: k) cs (vs₂ ++ us) (m + n₂) hb hk fun e a' w' q => ?_
    cases e with
    | normal => exact q b k cs us m hb hk hc
    | exit id => obtain ⟨rfl, q⟩ := q; exact ((hc _ _ _ q).mono (Nat.le_add_right _ _)).push rfl (by simp)
    | ret => obtain ⟨rfl, q⟩ := q; exact ((hc _ _ _ q).mono (Nat.le_add_right _ _)).push (x := .code y) rfl (by simp)
    | goto l => exact hc _ _ _ q.2
    | panic ch => exact hc _ _ _ q.2
    | outgrown => exact hc _ _ _ q.2
  have e : m + (n₁ + n₂ + 1) = (m + n₂ + n₁) + 1 := by omega
  rw [e, List.append_assoc]
  exact Goes.step rfl fun w₁ h₁ => by rw [stepG_seq]; exact ⟨dOwn_idle _, hx.rely oth_trans h₁⟩

/-- The first sends nothing. -/
theorem wpS_seq0 (h : wpS P ch Low own fn x n₁ [] (thenS (fun a' w' => wpS P ch Low own fn y n₂ vs Q a' w') vs Q) a w) : wpS P ch Low own fn (.seq x y) (n₁ + n₂ + 1) vs Q a w := wpS_seq h
/-- The second sends nothing. -/
theorem wpS_seqL (h : wpS P ch Low own fn x n₁ vs (thenS (fun a' w' => wpS P ch Low own fn y n₂ [] Q a' w') [] Q) a w) : wpS P ch Low own fn (.seq x y) (n₁ + n₂ + 1) vs Q a w := by
  have := wpS_seq h
  rwa [List.append_nil] at this
theorem wpS_seqA (vs₁ vs₂ : List Value) (hvs : vs = vs₁ ++ vs₂) (h : wpS P ch Low own fn x n₁ vs₁ (thenS (fun a' w' => wpS P ch Low own fn y n₂ vs₂ Q a' w') vs₂ Q) a w) : wpS P ch Low own fn (.seq x y) (n₁ + n₂ + 1) vs Q a w := hvs ▸ wpS_seq h
/-- The first of two pieces is not left by its end. -/
theorem wpS_seq_out (h : wpS P ch Low own fn x n vs (fun e a' w' => e ≠ .normal ∧ Q e a' w') a w) : wpS P ch Low own fn (.seq x y) (n + 1) vs Q a w := by
  intro b k cs us m hb hk hc
  have hx : Goes P false (Oth ch Low own false) (DOwn ch Low own false) (StopBW P ch Low own (vs ++ us)) (m + n) (G (b.at a (.code x :: .code y :: k)) cs) w := by
    refine h b (.code y :: k) cs us m hb hk fun e a' w' q => ?_
    cases e with
    | normal => exact absurd rfl q.1
    | exit id => exact (hc _ _ _ q.2).push rfl (by simp)
    | ret => exact (hc _ _ _ q.2).push (x := .code y) rfl (by simp)
    | goto l => exact hc _ _ _ q.2
    | panic ch => exact hc _ _ _ q.2
    | outgrown => exact hc _ _ _ q.2
  exact Goes.step rfl fun w₁ h₁ => by rw [stepG_seq]; exact ⟨dOwn_idle _, hx.rely oth_trans h₁⟩

theorem wpS_cond {o : Operand} {t : Bool} (hc : a.eval o = .bool t) (h : wpS P ch Low own fn (if t then x else y) n vs Q a w) : wpS P ch Low own fn (.cond o x y) (n + 1) vs Q a w :=
  fun b k cs us m hb hk hq => Goes.step rfl fun w₁ h₁ => by rw [stepG_cond hc]; exact ⟨dOwn_idle _, (h b k cs us m hb hk hq).rely oth_trans h₁⟩

theorem wpS_block {id : Nat} (h : wpS P ch Low own fn c n vs (Exit.inBlock id Q) a w) : wpS P ch Low own fn (.block id c) (n + 2) vs Q a w := by
  intro b k cs us m hb hk hc
  have hx : Goes P false (Oth ch Low own false) (DOwn ch Low own false) (StopBW P ch Low own (vs ++ us)) (m + 1 + n) (G (b.at a (.code c :: .inBlock id :: k)) cs) w := by
    refine h b (.inBlock id :: k) cs us (m + 1) hb hk fun e a' w' q => ?_
    cases e with
    | normal => exact Goes.step rfl fun w₁ h₁ => by rw [stepG_inBlock]; exact ⟨dOwn_idle _, Goes.rely oth_trans (hc _ _ _ q) h₁⟩
    | exit id' =>
      by_cases hid : id' = id
      · simp only [Exit.inBlock, hid, if_true] at q
        exact ⟨k, by simp [exitTo, hid], Goes.more (hc _ _ _ q)⟩
      · simp only [Exit.inBlock, hid, if_false] at q
        obtain ⟨k', hk', hg⟩ := hc _ _ _ q
        have : (id == id') = false := by simp; exact fun h => hid h.symm
        exact ⟨k', by simp [exitTo, this, hk'], hg.more⟩
    | ret => exact fun todo => (hc _ _ _ q todo).more
    | goto l => exact hc _ _ _ q
    | panic ch => exact hc _ _ _ q
    | outgrown => exact hc _ _ _ q
  have e : m + (n + 2) = (m + 1 + n) + 1 := by omega
  rw [e]
  exact Goes.step rfl fun w₁ h₁ => by rw [stepG_block]; exact ⟨dOwn_idle _, hx.rely oth_trans h₁⟩

/-! ### What follows, out of sight while a region is walked -/

theorem wpS_true {o : Operand} (hc : a.eval o = .bool true) (h : wpS P ch Low own fn x n vs Q a w) : wpS P ch Low own fn (.cond o x y) (n + 1) vs Q a w := wpS_cond hc h
theorem wpS_false {o : Operand} (hc : a.eval o = .bool false) (h : wpS P ch Low own fn y n vs Q a w) : wpS P ch Low own fn (.cond o x y) (n + 1) vs Q a w := wpS_cond (t := false) hc h
theorem wpS_skip (h : Q .normal a w) : wpS P ch Low own fn .skip 1 [] Q a w := wpS_of_wpC (wpC_skip (termsO ch Low own false) h)
theorem wpS_exit {id : Nat} (h : Q (.exit id) a w) : wpS P ch Low own fn (.exit id) 1 [] Q a w := wpS_of_wpC (wpC_exit (termsO ch Low own false) h)
def onN (K : Act → World → Prop) : Exit → Act → World → Prop
  | .normal, a, w => K a w
  | _, _, _ => False
theorem onN_to {K : Act → World → Prop} (h : ∀ a w, K a w → Q .normal a w) : ∀ e a w, onN K e a w → Q e a w := fun e a w q => by cases e <;> first | exact h _ _ q | exact q.elim
/-- A statement that sends nothing, then the rest. -/
theorem wpS_stmt {id : Nat} {ops : Array Oper} (h : ∀ K : Act → World → Prop, Hid (∀ a' w', wpS P ch Low own fn y n₂ vs Q a' w' → K a' w') → OpsC P false (Oth ch Low own false) (DOwn ch Low own false) fn ops (List.range ops.size) n (onN K) a w) :
    wpS P ch Low own fn (.seq (.region id ops false) y) (n + 1 + n₂ + 1) vs Q a w :=
  wpS_seq0 (wpS_of_wpC (wpC_mono (wpC_region (termsO ch Low own false) (h _ ⟨fun _ _ x => x⟩)) (onN_to fun _ _ x => x)))
theorem wpS_last {id : Nat} {ops : Array Oper} (h : ∀ K : Act → World → Prop, Hid (∀ a' w', Q .normal a' w' → K a' w') → OpsC P false (Oth ch Low own false) (DOwn ch Low own false) fn ops (List.range ops.size) n (onN K) a w) :
    wpS P ch Low own fn (.region id ops false) (n + 1) [] Q a w :=
  wpS_of_wpC (wpC_mono (wpC_region (termsO ch Low own false) (h _ ⟨fun _ _ x => x⟩)) (onN_to fun _ _ x => x))

/-- What is asked behind round number j of N. -/
def roundS (I : Nat → Act → World → Prop) (N j : Nat) (Q : Exit → Act → World → Prop) : Exit → Act → World → Prop
  | .normal, a, w => j < N ∧ I (j + 1) a w
  | e, a, w => j = N ∧ Q e a w

/-- A LOOP OF N ROUNDS: round number j sends f j. -/
theorem wpS_loop (I : Nat → Act → World → Prop) (f : Nat → List Value) (r N : Nat) (h₀ : I 0 a w)
    (round : ∀ j a w, j ≤ N → I j a w → wpS P ch Low own fn c r (if j < N then f j else []) (roundS I N j Q) a w) : wpS P ch Low own fn (.loop c) ((N + 1) * (r + 1) + 1) ((List.range N).flatMap f) Q a w := by
  intro b k cs us m hb hk hc
  have key : ∀ d j a w, j + d = N → I j a w → Goes P false (Oth ch Low own false) (DOwn ch Low own false) (StopBW P ch Low own (((List.range' j d).flatMap f) ++ us)) (m + (d + 1) * (r + 1)) (G (b.at a (.code c :: .inLoop c :: k)) cs) w := by
    intro d
    induction d with
    | zero =>
      intro j a w hj hI
      have hr := round j a w (by omega) hI
      rw [if_neg (by omega)] at hr
      have := hr b (.inLoop c :: k) cs us (m + 1) hb hk fun e a' w' q => by
        cases e with
        | normal => exact absurd q.1 (by omega)
        | exit id => exact ((hc _ _ _ q.2).mono (Nat.le_add_right _ _)).push rfl (by simp)
        | ret => exact ((hc _ _ _ q.2).mono (Nat.le_add_right _ _)).push (x := .inLoop c) rfl (by simp)
        | goto l => exact hc _ _ _ q.2
        | panic ch => exact hc _ _ _ q.2
        | outgrown => exact hc _ _ _ q.2
      exact this.mono (by simp; omega)
    | succ d ih =>
      intro j a w hj hI
      have hr := round j a w (by omega) hI
      rw [if_pos (by omega)] at hr
      have := hr b (.inLoop c :: k) cs (((List.range' (j + 1) d).flatMap f) ++ us) (m + (d + 1) * (r + 1) + 1) hb hk fun e a' w' q => by
        cases e with
        | normal => exact Goes.step rfl fun w₁ h₁ => by rw [stepG_inLoop]; exact ⟨dOwn_idle _, (ih (j + 1) a' w' (by omega) q.2).rely oth_trans h₁⟩
        | exit id => exact absurd q.1 (by omega)
        | ret => exact absurd q.1 (by omega)
        | goto l => exact absurd q.1 (by omega)
        | panic ch => exact absurd q.1 (by omega)
        | outgrown => exact absurd q.1 (by omega)
      have e1 : List.range' j (d + 1) = j :: List.range' (j + 1) d := rfl
      rw [e1, List.flatMap_cons, List.append_assoc]
      refine this.mono ?_
      have : (d + 1 + 1) * (r + 1) = (d + 1) * (r + 1) + (r + 1) := by rw [Nat.succ_mul]
      omega
  have e : m + ((N + 1) * (r + 1) + 1) = (m + (N + 1) * (r + 1)) + 1 := by omega
  rw [e, List.range_eq_range']
  exact Goes.step rfl fun w₁ h₁ => by rw [stepG_loop]; exact ⟨dOwn_idle _, (key N 0 a w (by omega) h₀).rely oth_trans h₁⟩

/-- .. where the number of rounds has a bound that stands for all. -/
theorem wpS_loopN (I : Nat → Act → World → Prop) (f : Nat → List Value) (r N M : Nat) (hM : N ≤ M) (h₀ : I 0 a w)
    (round : ∀ j a w, j ≤ N → I j a w → wpS P ch Low own fn c r (if j < N then f j else []) (roundS I N j Q) a w) : wpS P ch Low own fn (.loop c) ((M + 1) * (r + 1) + 1) ((List.range N).flatMap f) Q a w :=
  wpS_more (wpS_loop I f r N h₀ round) (Nat.succ_le_succ (Nat.mul_le_mul_right (r + 1) (Nat.succ_le_succ hM)))

/-! ### A region whose order is the text's -/

theorem wpS_region {id : Nat} {ops : Array Oper} (h : OpsS P ch Low own fn ops (List.range ops.size) n vs Q a w) : wpS P ch Low own fn (.region id ops false) (n + 1) vs Q a w :=
  fun b k cs us m hb hk hc => Goes.step rfl fun w₁ h₁ => by rw [stepG_region]; exact ⟨dOwn_idle _, (h b k cs us m hb hk hc).rely oth_trans h₁⟩
theorem opsS_nil {ops : Array Oper} (h : Q .normal a w) : OpsS P ch Low own fn ops [] 1 [] Q a w := fun b k cs us m _ _ hc =>
  Goes.step rfl fun w₁ h₁ => by rw [stepG_region_end]; exact ⟨dOwn_idle _, Goes.rely oth_trans (hc _ _ _ h) h₁⟩
theorem opsS_cons {ops : Array Oper} {i : Nat} {rest : List Nat} {o : Oper} (ho : ops[i]? = some o) (hw : Region.wanted o (yielded ops a.tmps) = true)
    (h : ∀ w₁, Oth ch Low own false w w₁ → uponK o a (fun a' w' => DOwn ch Low own false w₁ w' (listed P fn a o w₁) ∧ OpsS P ch Low own fn ops rest n vs Q a' w') ((execOp a.eval o).run P w₁)) : OpsS P ch Low own fn ops (i :: rest) (n + 1) vs Q a w := by
  intro b k cs us m hb hk hc
  refine Goes.step rfl fun w₁ h₁ => goes_oper ho hw hk ?_
  have := h w₁ h₁
  revert this
  cases (execOp a.eval o).run P w₁ with
  | ok x w' => cases x <;> first | exact fun ⟨d, g⟩ => ⟨hb ▸ d, g b k cs us m hb hk hc⟩ | exact id
  | halt _ _ => exact id
theorem opsS_cons_k {ops : Array Oper} {i : Nat} {rest : List Nat} {o : Oper} (ho : ops[i]? = some o) (hw : Region.wanted o (yielded ops a.tmps) = true)
    (h : ∀ w₁, Oth ch Low own false w w₁ → ∀ K : Act → World → Prop, (∀ a' w', DOwn ch Low own false w₁ w' (listed P fn a o w₁) ∧ OpsS P ch Low own fn ops rest n vs Q a' w' → K a' w') → uponK o a K ((execOp a.eval o).run P w₁)) : OpsS P ch Low own fn ops (i :: rest) (n + 1) vs Q a w :=
  opsS_cons ho hw fun w₁ h₁ => h w₁ h₁ _ fun _ _ x => x
theorem opsS_unwanted {ops : Array Oper} {i : Nat} {rest : List Nat} {o : Oper} (ho : ops[i]? = some o) (hw : Region.wanted o (yielded ops a.tmps) = false)
    (h : OpsS P ch Low own fn ops rest n vs Q (a.put o.dst undef) w) : OpsS P ch Low own fn ops (i :: rest) (n + 1) vs Q a w :=
  fun b k cs us m hb hk hc => Goes.step rfl fun w₁ h₁ => by rw [stepG_unwanted ho hw]; exact ⟨dOwn_idle _, (h b k cs us m hb hk hc).rely oth_trans h₁⟩

/-- A region that sends, what follows out of sight. -/
theorem wpS_sends {id : Nat} {ops : Array Oper} (h : ∀ K : Act → World → Prop, Hid (∀ a' w', Q .normal a' w' → K a' w') → OpsS P ch Low own fn ops (List.range ops.size) n vs (onN K) a w) : wpS P ch Low own fn (.region id ops false) (n + 1) vs Q a w :=
  wpS_mono (wpS_region (h _ ⟨fun _ _ x => x⟩)) (onN_to fun _ _ x => x)
theorem wpS_stmtS {id : Nat} {ops : Array Oper} (vs₁ vs₂ : List Value) (h : ∀ K : Act → World → Prop, Hid (∀ a' w', wpS P ch Low own fn y n₂ vs₂ Q a' w' → K a' w') → OpsS P ch Low own fn ops (List.range ops.size) n vs₁ (onN K) a w) : wpS P ch Low own fn (.seq (.region id ops false) y) (n + 1 + n₂ + 1) (vs₁ ++ vs₂) Q a w :=
  wpS_seq (wpS_mono (wpS_region (h _ ⟨fun _ _ x => x⟩)) (onN_to fun _ _ x => x))

/-- ████ A SEND. ████ -/
theorem opsS_send {ops : Array Oper} {i : Nat} {rest : List Nat} {o : Oper} {ox oy : Operand} {v : Value} (ho : ops[i]? = some o) (hw : Region.wanted o (yielded ops a.tmps) = true) (hop : o.op = .send ox oy)
    (hx : a.eval ox = .chan (some ch)) (hy : a.eval oy = v) (h : OpsS P ch Low own fn ops rest n vs Q (a.put o.dst undef) w) : OpsS P ch Low own fn ops (i :: rest) n (v :: vs) Q a w := by
  intro b k cs us m hb hk hc
  refine Goes.stop fun w₁ h₁ => ⟨rfl, .tuple #[], #[], ?_, by simp, fun w₂ h₂ => ?_⟩
  · rw [stepG_comm (cases := #[scase ch v (.tuple #[])]) (blocking := true) (shape := .send) (w' := w₁) ho hw hk (by simp [execOp, hop, hx, hy, scase])]
    have he : (execOp a.eval o).events P w₁ #[] = #[] := by
      unfold execOp
      simp only [hop]
      rfl
    unfold listed
    rw [he]
    simp [seen, core, G]
  · have e : Conc.served (core (G (b.at a (.inRegion ops (i :: rest) :: k)) cs)) undef = G (b.at (a.put o.dst undef) (.inRegion ops rest :: k)) cs := by
      have e1 : core (G (b.at a (.inRegion ops (i :: rest) :: k)) cs) = G (b.at a (.inRegion ops (i :: rest) :: k)) cs := rfl
      rw [e1, served_G]
      simp [ho]
    rw [e]
    exact (sendsW_iff P ch Low own (vs ++ us) _ _).2 ⟨m + n, (h b k cs us m hb hk hc).rely oth_trans (h₁.trans h₂)⟩

/-! ### Calls -/

theorem callsS_of_wpS {f : FuncId} {fx : Func} {c : Code} {args : Array Value} {Post : Value → World → Prop} (hf : P.funcs[f]? = some fx) (hname : (fx.name == "runtime.NumGoroutine") = false) (hb : fx.body = some c)
    (h : wpS P ch Low own f c n vs (bodyPostC P fx Post) { tmps := args ++ Array.replicate (fx.ntmps - args.size) undef, defers := [] } w) : CallsS P ch Low own f args n vs w Post := ⟨fx, c, hf, hname, hb, h⟩
theorem CallsS.more {f : FuncId} {args : Array Value} {Post : Value → World → Prop} (h : CallsS P ch Low own f args n vs w Post) (hn : n ≤ n') : CallsS P ch Low own f args n' vs w Post := by
  obtain ⟨fx, c, h1, h2, h3, h4⟩ := h
  exact ⟨fx, c, h1, h2, h3, wpS_more h4 hn⟩
theorem CallsS.rely {f : FuncId} {args : Array Value} {Post : Value → World → Prop} (h : CallsS P ch Low own f args n vs w Post) (hr : Oth ch Low own false w w₁) : CallsS P ch Low own f args n vs w₁ Post := by
  obtain ⟨fx, c, h1, h2, h3, h4⟩ := h
  exact ⟨fx, c, h1, h2, h3, wpS_rely h4 hr⟩
theorem callsS_of_callsC {f : FuncId} {args : Array Value} {Post : Value → World → Prop} (h : CallsC P false (Oth ch Low own false) (DOwn ch Low own false) f args n w Post) : CallsS P ch Low own f args n [] w Post := by
  obtain ⟨fx, c, h1, h2, h3, h4⟩ := h
  exact ⟨fx, c, h1, h2, h3, wpS_of_wpC h4⟩

/-- ████ THROUGH A CALL. ████ -/
theorem opsS_call {ops : Array Oper} {i : Nat} {rest : List Nat} {o : Oper} {f : FuncId} {args : Array Operand} {ats : Array TypeId} {nf : Nat} {Post : Value → World → Prop}
    (ho : ops[i]? = some o) (hw : Region.wanted o (yielded ops a.tmps) = true) (hop : o.op = .call { callee := .value (.func f), args, argTypes := ats })
    (hcall : CallsS P ch Low own f (args.map a.eval) nf vs₁ w Post) (hnext : ∀ v w', Post v w' → OpsS P ch Low own fn ops rest n vs₂ Q (a.put o.dst v) w') : OpsS P ch Low own fn ops (i :: rest) (n + nf + 3) (vs₁ ++ vs₂) Q a w := by
  intro b k cs us m hb hk hc
  obtain ⟨fx, c, hf, hname, hbody, hwp⟩ := hcall
  have hfin : ∀ v, (b.at a (.inRegion ops (i :: rest) :: k)).finish v = b.at (a.put o.dst v) (.inRegion ops rest :: k) := fun v => by rw [Frame.finish_at, ho]; rfl
  have hleave : ∀ (a' : Act) (w' : World) (todo : List Item), (a'.defers = [] ∧ ∃ v, ResultsC P fx a'.tmps v ∧ Post v w') →
      Goes P false (Oth ch Low own false) (DOwn ch Low own false) (StopBW P ch Low own (vs₂ ++ us)) (m + n + 1) (G { (base f).at a' todo with mode := .returning } (b.at a (.inRegion ops (i :: rest) :: k) :: cs)) w' := by
    rintro a' w' todo ⟨hd, v, hr, hp⟩
    refine Goes.step rfl fun w₁ h₁ => ?_
    rw [stepG_leave (b := base f) rfl hd hf (hr w₁).1 (hr w₁).2, hfin]
    exact ⟨dOwn_idle _, (hnext v w' hp b k cs us m hb hk hc).rely oth_trans h₁⟩
  have hbodyG : Goes P false (Oth ch Low own false) (DOwn ch Low own false) (StopBW P ch Low own (vs₁ ++ (vs₂ ++ us))) (m + n + 2 + nf) (G ((base f).at { tmps := args.map a.eval ++ Array.replicate (fx.ntmps - (args.map a.eval).size) undef, defers := [] } [.code c]) (b.at a (.inRegion ops (i :: rest) :: k) :: cs)) w := by
    refine hwp (base f) [] _ (vs₂ ++ us) (m + n + 2) rfl (by simp [base]) fun e a' w' q => ?_
    cases e with
    | normal => exact Goes.step rfl fun w₁ h₁ => by rw [stepG_end]; exact ⟨dOwn_idle _, (hleave a' w' [] q).rely oth_trans h₁⟩
    | ret => exact fun todo => (hleave a' w' todo q).more
    | exit id => exact q.elim
    | goto l => exact q.elim
    | panic ch => exact q.elim
    | outgrown => exact q.elim
  have e : m + (n + nf + 3) = (m + n + 2 + nf) + 1 := by omega
  rw [e, List.append_assoc]
  exact Goes.step rfl fun w₁ h₁ => goes_call ho hw hk hop hf hname hbody ⟨dOwn_idle _, hbodyG.rely oth_trans h₁⟩
theorem opsS_callC {ops : Array Oper} {i : Nat} {rest : List Nat} {o : Oper} {f : FuncId} {args : Array Operand} {av : Array Value} {ats : Array TypeId} {nf : Nat} {Post : Value → World → Prop}
    (ho : ops[i]? = some o) (hw : Region.wanted o (yielded ops a.tmps) = true) (hop : o.op = .call { callee := .value (.func f), args, argTypes := ats }) (hav : args.map a.eval = av)
    (hcall : CallsC P false (Oth ch Low own false) (DOwn ch Low own false) f av nf w Post) (hnext : ∀ v w', Post v w' → OpsS P ch Low own fn ops rest n vs Q (a.put o.dst v) w') : OpsS P ch Low own fn ops (i :: rest) (n + nf + 3) vs Q a w :=
  opsS_call ho hw hop (hav.symm ▸ callsS_of_callsC hcall) hnext
/-- The last call of a region. -/
theorem opsS_callL {ops : Array Oper} {i : Nat} {rest : List Nat} {o : Oper} {f : FuncId} {args : Array Operand} {av : Array Value} {ats : Array TypeId} {nf : Nat} {Post : Value → World → Prop}
    (ho : ops[i]? = some o) (hw : Region.wanted o (yielded ops a.tmps) = true) (hop : o.op = .call { callee := .value (.func f), args, argTypes := ats }) (hav : args.map a.eval = av)
    (hcall : CallsS P ch Low own f av nf vs w Post) (hnext : ∀ v w', Post v w' → OpsS P ch Low own fn ops rest n [] Q (a.put o.dst v) w') : OpsS P ch Low own fn ops (i :: rest) (n + nf + 3) vs Q a w := by
  subst hav
  have := opsS_call ho hw hop hcall hnext
  rwa [List.append_nil] at this
end

/-! ### The deferred close, and the whole script -/

/-- A deferred call of close. -/
def dclose (ch : Nat) (ats : Array TypeId) (ty : TypeId) (cs : Array Bool) : Deferred := { target := .builtin .close ats ty cs, args := #[.chan (some ch)] }

section
variable {P : Program} {ch Low : Nat} {own : Obj → Bool} {fn : FuncId} {Q : Exit → Act → World → Prop} {a : Act} {w : World} {n : Nat} {vs : List Value}

/-- THE OPERATION 'defer close(c)'. -/
theorem opsS_defer {ops : Array Oper} {i : Nat} {rest : List Nat} {o : Oper} {x : Operand} {ats : Array TypeId} (ho : ops[i]? = some o) (hw : Region.wanted o (yielded ops a.tmps) = true)
    (hop : o.op = .defer { callee := .builtin .close, args := #[x], argTypes := ats }) (hx : a.eval x = .chan (some ch))
    (h : ∀ cs', OpsS P ch Low own fn ops rest n vs Q (Act.put ⟨a.tmps, dclose ch ats o.type cs' :: a.defers⟩ o.dst undef) w) : OpsS P ch Low own fn ops (i :: rest) (n + 1) vs Q a w := by
  intro b k cs us m hb hk hc
  have hr : ∃ cs', ∀ w₁, (execOp a.eval o).run P w₁ = .ok (.defer (dclose ch ats o.type cs')) w₁ ∧ (execOp a.eval o).events P w₁ #[] = #[] := by
    unfold execOp
    simp only [hop, resolve, dclose, List.map_toArray, List.map_cons, List.map_nil, hx, Sem.run_bind, Sem.run_pure, Result.andThen_ok, Sem.events_bind, Sem.events_pure, Result.evThen_ok]
    exact ⟨_, fun w₁ => ⟨rfl, trivial⟩⟩
  obtain ⟨cs', hr⟩ := hr
  refine Goes.step rfl fun w₁ h₁ => ?_
  have hfin : (b.at ⟨a.tmps, dclose ch ats o.type cs' :: a.defers⟩ (.inRegion ops (i :: rest) :: k)).finish undef = b.at (Act.put ⟨a.tmps, dclose ch ats o.type cs' :: a.defers⟩ o.dst undef) (.inRegion ops rest :: k) := by rw [Frame.finish_at, ho]; rfl
  have hk' : (b.kind == CallKind.early) = false := by simpa using hk
  have hst : stepG P false (G (b.at a (.inRegion ops (i :: rest) :: k)) cs) w₁ = .go (G (b.at (Act.put ⟨a.tmps, dclose ch ats o.type cs' :: a.defers⟩ o.dst undef) (.inRegion ops rest :: k)) cs) w₁ #[] := by
    rw [stepG_oper ho hw, ← hfin]
    simp [stepG.apply, (hr w₁).1, (hr w₁).2, G, Frame.at, hk', GStep.after, seen_none]
  rw [hst]
  exact ⟨dOwn_idle _, (h cs' b k cs us m hb hk hc).rely oth_trans h₁⟩

/-- The child's bottom frame, its one deferred call made. -/
def botF (P : Program) : Frame := { (default : Frame) with fn := P.funcs.size, defers := [], mode := .panicking [goexitEntry] }

/-- Behind the close it only leaves. -/
theorem quits_tail {f : FuncId} {fx : Func} (hf : P.funcs[f]? = some fx) (hres : fx.results = #[]) (T : Array Value) (todo : List Item) : QuitsD P 2 0 (G { (baseD f).at { tmps := T, defers := [] } todo with mode := .returning } [botF P]) := by
  have hr : ∀ w, (results fx T).run P w = .ok (.tuple #[]) w := fun w => results_none hres _ P w
  have he : ∀ w, (results fx T).events P w #[] = #[] := fun w => events_results_none hres _ _
  refine QuitsD.ctl (g' := G (botF P) []) rfl (fun w => ?_) ?_
  · simp [G, stepG, unwind, doReturn, Frame.at, baseD, botF, hf, hr w, he w, seen, GStep.after, goexitEntry]
  refine QuitsD.ctl (g' := { G (botF P) [] with status := .finished }) rfl (fun w => ?_) ⟨rfl, rfl⟩
  simp [G, stepG, unwind, botF, goexitEntry, Frame.catches]
  rfl

/-- IT STANDS AT ITS DEFERRED CLOSE. -/
theorem atClose_deferred (hcL : ch < Low) {f : FuncId} {fx : Func} (hf : P.funcs[f]? = some fx) (hnr : (P.funcs[f]?).any (·.norace) = false) (hres : fx.results = #[]) (T : Array Value) (ats : Array TypeId) (ty : TypeId) (cs : Array Bool) (todo : List Item) (w : World) :
    AtCloseW P ch Low own (G { (baseD f).at { tmps := T, defers := [dclose ch ats ty cs] } todo with mode := .returning } [botF P]) w := by
  refine ⟨rfl, rfl, G { (baseD f).at { tmps := T, defers := [] } todo with mode := .returning } [botF P], #[⟨.obj ch, false, true⟩], 2, fun k hc => ?_, fun e he => ?_, by simp [G], by simp [G], quits_tail hf hres T todo⟩
  · have hr : (invoke (.builtin .close ats ty cs) #[.chan (some ch)]).run P w = .ok (.value (.tuple #[])) (w.setChan ch 0 #[] true k k false) := by
      simp only [invoke, builtin, Sem.run_bind, run_close_open _ _ hc, Result.andThen_ok, Sem.run_pure]
      rfl
    have he : (invoke (.builtin .close ats ty cs) #[.chan (some ch)]).events P w #[] = #[⟨.obj ch, false, true⟩, ⟨.obj ch, true, true⟩] := by
      simp only [invoke, builtin, Sem.events_bind, run_close_open _ _ hc, events_close_open _ _ hc, Result.evThen_ok, Sem.events_pure]
      rfl
    have hl : seen P f #[⟨.obj ch, false, true⟩, ⟨.obj ch, true, true⟩] = #[⟨.obj ch, false, true⟩, ⟨.obj ch, true, true⟩] := seen_eq hnr (by simp)
    simp [G, stepG, unwind, callDeferred, Frame.at, dclose, baseD, hr, he, hl, GStep.after]
  · simp only [List.mem_toArray, List.mem_singleton] at he
    subst he
    refine ⟨⟨by simp, by simp⟩, fun x hx hm => ⟨ch, ?_, .inl ⟨hcL, ?_⟩⟩⟩
    · simp only [MemAct.ofEvent, MemAct.touch?, Option.some.injEq] at hx
      subst hx; rfl
    · simp only [MemAct.ofEvent, MemAct.touch?, Option.some.injEq] at hx
      subst hx; rfl

/-- ████ THE WHOLE SCRIPT of a child that defers a close, sends vs, and comes to its end. ████ -/
theorem sendsW_child (hcL : ch < Low) {f : FuncId} {fx : Func} {code : Code} {args : Array Value} (hf : P.funcs[f]? = some fx) (hname : (fx.name == "runtime.NumGoroutine") = false) (hb : fx.body = some code) (hnr : (P.funcs[f]?).any (·.norace) = false) (hres : fx.results = #[])
    (h : wpS P ch Low own f code n vs (fun e a _ => match e with | .normal => ∃ ats ty cs, a.defers = [dclose ch ats ty cs] | _ => False) { tmps := args ++ Array.replicate (fx.ntmps - args.size) undef, defers := [] } w) :
    SendsW P ch Low own vs (born P (dcall f args)) w := by
  refine (sendsW_iff P ch Low own vs _ _).2 ⟨1 + n + 1, ?_⟩
  have h1 : ¬ fx.name = "runtime.NumGoroutine" := by simpa using hname
  refine Goes.step rfl fun w₁ h₁ => ?_
  have hst : stepG P false (born P (dcall f args)) w₁ = .go (G ((baseD f).at { tmps := args ++ Array.replicate (fx.ntmps - args.size) undef, defers := [] } [.code code]) [botF P]) w₁ #[] := by
    rw [← enter_atD args hf hb]
    simp [born, stepG, unwind, callDeferred, dcall, invoke, callFunc, hf, h1, hb, GStep.after, seen_none, G, botF]
  rw [hst]
  refine ⟨dOwn_idle _, Goes.rely oth_trans ?_ h₁⟩
  have := h (baseD f) [] [botF P] [] 1 rfl (by simp [baseD]) fun e a' w' q => by
    cases e with
    | normal =>
      obtain ⟨ats, ty, cs, hd⟩ := q
      refine Goes.step rfl fun w₂ h₂ => ?_
      rw [stepG_end]
      refine ⟨dOwn_idle _, Goes.stop fun w₃ h₃ => ?_⟩
      obtain ⟨T, ds⟩ := a'
      simp only at hd
      subst hd
      exact atClose_deferred hcL hf hnr hres T ats ty cs [] w₃
    | exit id => exact q.elim
    | ret => exact q.elim
    | goto l => exact q.elim
    | panic c => exact q.elim
    | outgrown => exact q.elim
  rwa [List.append_nil] at this
end

/-- Bounds for each, up to N: one for all. -/
theorem bound_all {N : Nat} {p : Nat → Nat → Prop} (mono : ∀ j n n', n ≤ n' → p j n → p j n') (h : ∀ j, j < N → ∃ n, p j n) : ∃ n, ∀ j, j < N → p j n := by
  induction N with
  | zero => exact ⟨0, fun j hj => absurd hj (Nat.not_lt_zero _)⟩
  | succ N ih =>
    obtain ⟨n, hn⟩ := ih fun j hj => h j (by omega)
    obtain ⟨m, hm⟩ := h N (by omega)
    refine ⟨max n m, fun j hj => ?_⟩
    rcases Nat.lt_or_ge j N with hlt | hge
    · exact mono j n _ (Nat.le_max_left _ _) (hn j hlt)
    · have : j = N := by omega
      subst this
      exact mono j m _ (Nat.le_max_right _ _) hm

end Go.Proofs.YtifdhaiihlfomaaDoor
