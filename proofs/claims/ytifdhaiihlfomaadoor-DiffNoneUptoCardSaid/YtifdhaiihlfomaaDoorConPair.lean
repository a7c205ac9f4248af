/-
  Two goroutines that work at once, each on memory of its own kind: goroutine 0 receives over a channel without a buffer whatever goroutine j sends, till j closes it; beside them goroutines that only leave. On whatever tape goroutine 0 comes to find the channel closed; no race. No program in sight.
-/
import Derived.Test.YtifdhaiihlfomaaDoorConTrace
import Derived.Conc.CrowdComm
namespace Go.Proofs.YtifdhaiihlfomaaDoor
open Go Go.Conc
open Go.ConcN (sumTo upd sumTo_upd upd_ne upd_same)
set_option linter.unusedVariables false

/-- WHAT OTHERS MAY DO to the world of whoever owns the blocks of a kind ('own o = who') from Low on: below Low all stands but block c; what is owned stands; the others' blocks stay of the others' kind; what is new is theirs. -/
structure Oth (c Low : Nat) (own : Obj → Bool) (who : Bool) (w w₁ : World) : Prop where
  tape : w₁.tape = w.tape
  os : w₁.os = w.os
  output : w₁.output = w.output
  size : w.heap.size ≤ w₁.heap.size
  low : ∀ k, k < Low → k ≠ c → w₁.heap[k]? = w.heap[k]?
  mine : ∀ k o, Low ≤ k → w.heap[k]? = some o → own o = who → w₁.heap[k]? = some o
  rest : ∀ k o, Low ≤ k → w.heap[k]? = some o → own o = !who → ∃ o', w₁.heap[k]? = some o' ∧ own o' = !who
  new : ∀ k o, Low ≤ k → w.heap.size ≤ k → w₁.heap[k]? = some o → own o = !who

def blkOf : Loc → Option Nat
  | .cell a => some a.block
  | .obj r => some r
  | _ => none

/-- The touch is of a block that is the toucher's own, or it reads below Low. -/
def TouchIn (Low : Nat) (own : Obj → Bool) (who : Bool) (w : World) (x : Touch) : Prop :=
  ∃ b, blkOf x.loc = some b ∧ ((b < Low ∧ x.write = false) ∨ (Low ≤ b ∧ ∃ o, w.heap[b]? = some o ∧ own o = who))

/-- An entry that the owner of a kind may list, w being the world behind the step. -/
def EvO (Low : Nat) (own : Obj → Bool) (who : Bool) (w : World) (e : Event) : Prop :=
  quietE e ∧ ∀ x, (MemAct.ofEvent e).touch? = some x → x.loc.isMemory = true → TouchIn Low own who w x

/-- THE GUARANTEE of a step of the owner's: to all others it is an other's doing; the channel's block stands. -/
def DOwn (c Low : Nat) (own : Obj → Bool) (who : Bool) (w w' : World) (es : Array Event) : Prop :=
  Oth c Low own (!who) w w' ∧ w'.heap[c]? = w.heap[c]? ∧ ∀ e ∈ es, EvO Low own who w' e

section
variable {c Low : Nat} {own : Obj → Bool} {who : Bool} {w w₁ w₂ : World}

theorem Oth.refl (c Low : Nat) (own : Obj → Bool) (who : Bool) (w : World) : Oth c Low own who w w :=
  ⟨rfl, rfl, rfl, Nat.le_refl _, fun _ _ _ => rfl, fun _ _ _ h _ => h, fun k o _ h hq => ⟨o, h, hq⟩, fun k o _ hk h => by rw [Array.getElem?_eq_none hk] at h; cases h⟩
theorem Oth.trans (h : Oth c Low own who w w₁) (k : Oth c Low own who w₁ w₂) : Oth c Low own who w w₂ := by
  refine ⟨k.tape.trans h.tape, k.os.trans h.os, k.output.trans h.output, Nat.le_trans h.size k.size, fun i hi hc => (k.low i hi hc).trans (h.low i hi hc), fun i o hi ho hq => k.mine i o hi (h.mine i o hi ho hq) hq, fun i o hi ho hq => ?_, fun i o hi hs ho => ?_⟩
  · obtain ⟨o', h1, h2⟩ := h.rest i o hi ho hq
    exact k.rest i o' hi h1 h2
  · rcases Nat.lt_or_ge i w₁.heap.size with hlt | hge
    · obtain ⟨o₁, e₁⟩ : ∃ o₁, w₁.heap[i]? = some o₁ := ⟨_, Array.getElem?_eq_getElem hlt⟩
      have hn := h.new i o₁ hi hs e₁
      obtain ⟨o', h1, h2⟩ := k.rest i o₁ hi e₁ hn
      rw [h1] at ho
      cases ho
      exact h2
    · exact k.new i o hi hge ho
theorem Oth.at (c Low : Nat) (own : Obj → Bool) (who : Bool) (w : World) (d : Nat) : Oth c Low own who w (w.at d) :=
  ⟨rfl, rfl, rfl, Nat.le_refl _, fun _ _ _ => rfl, fun _ _ _ h _ => h, fun k o _ h hq => ⟨o, h, hq⟩, fun k o _ hk h => by
    have h' : w.heap[k]? = some o := h
    rw [Array.getElem?_eq_none hk] at h'
    cases h'⟩
/-- What happens to the channel's block alone. -/
theorem Oth.chan (hc : c < Low) (own : Obj → Bool) (who : Bool) (w : World) (cap : Nat) (buf : Array Value) (cl : Bool) (s r : Nat) (tm : Bool) : Oth c Low own who w (w.setChan c cap buf cl s r tm) := by
  have hk : ∀ k, k ≠ c → (w.setChan c cap buf cl s r tm).heap[k]? = w.heap[k]? := fun k h => by simp [World.setChan, Ne.symm h]
  refine ⟨rfl, rfl, rfl, by simp [World.setChan], fun k _ h => hk k h, fun k o hl h _ => by rw [hk k (by omega)]; exact h, fun k o hl h hq => ⟨o, by rw [hk k (by omega)]; exact h, hq⟩, fun k o hl hs h => ?_⟩
  rw [hk k (by omega), Array.getElem?_eq_none hs] at h
  cases h
theorem chan_set {cap : Nat} {buf : Array Value} {cl : Bool} {s r : Nat} {tm : Bool} {o : Obj} (h : w.heap[c]? = some o) : (w.setChan c cap buf cl s r tm).heap[c]? = some (.chan cap buf cl s r tm) := by
  have hlt := (Array.getElem?_eq_some_iff.1 h).1
  simp [World.setChan, hlt]

theorem TouchIn.oth {v : Bool} {x : Touch} (h : TouchIn Low own v w x) (hc : Oth c Low own who w w₁) : TouchIn Low own v w₁ x := by
  obtain ⟨b, hb, hl | ⟨hl, o, ho, hq⟩⟩ := h
  · exact ⟨b, hb, .inl hl⟩
  · refine ⟨b, hb, .inr ⟨hl, ?_⟩⟩
    by_cases e : own o = who
    · exact ⟨o, hc.mine b o hl ho e, hq⟩
    · have e' : own o = !who := by cases h1 : own o <;> cases who <;> simp_all
      obtain ⟨o', h1, h2⟩ := hc.rest b o hl ho e'
      exact ⟨o', h1, by rw [h2, ← e']; exact hq⟩

theorem touch_apart (w : World) : ApartT (TouchIn Low own true w) (TouchIn Low own false w) := by
  rintro a b ⟨x, hx, h1⟩ ⟨y, hy, h2⟩ hloc
  rw [hloc, hy] at hx
  cases hx
  rcases h1 with ⟨l1, r1⟩ | ⟨l1, o, ho, hq⟩ <;> rcases h2 with ⟨l2, r2⟩ | ⟨l2, o', ho', hq'⟩
  · exact ⟨r1, r2⟩
  · omega
  · omega
  · rw [ho] at ho'
    cases ho'
    rw [hq] at hq'
    cases hq'
end

section
variable (P : Program) (c Low : Nat) (own : Obj → Bool) (z : Value)

/-- IT STANDS AT A SEND of v. -/
def AtSendW (v : Value) (Next : Goroutine → World → Prop) (g : Goroutine) (w : World) : Prop :=
  g.status = .running ∧ ∃ z' es, stepG P false g w = .comm (core g) #[scase c v z'] true .send w es ∧ (∀ e ∈ es, EvO Low own false w e) ∧ ∀ w₂, Oth c Low own false w w₂ → Next (Conc.served (core g) undef) w₂

/-- IT STANDS AT THE CLOSE, and only leaves behind it. -/
def AtCloseW (g : Goroutine) (w : World) : Prop :=
  g.status = .running ∧ mayWake P g = true ∧ ∃ (g₂ : Goroutine) (es : Array Event) (n : Nat), (∀ k, w.heap[c]? = some (.chan 0 #[] false k k false) → stepG P false g w = .go g₂ (w.setChan c 0 #[] true k k false) (es.push ⟨.obj c, true, true⟩)) ∧
    (∀ e ∈ es, EvO Low own false w e) ∧ g₂.status ≠ .blocked ∧ g₂.status ≠ .waiting ∧ QuitsD P n 0 g₂

/-- THE SENDER's SCRIPT. -/
def SendsW : List Value → Goroutine → World → Prop
  | [], g, w => ∃ n, Goes P false (Oth c Low own false) (DOwn c Low own false) (fun g₁ w₁ => AtCloseW P c Low own g₁ w₁) n g w
  | v :: vs, g, w => ∃ n, Goes P false (Oth c Low own false) (DOwn c Low own false) (fun g₁ w₁ => AtSendW P c Low own v (SendsW vs) g₁ w₁) n g w

def StopBW : List Value → Goroutine → World → Prop
  | [] => AtCloseW P c Low own
  | v :: vs => AtSendW P c Low own v (SendsW P c Low own vs)

theorem sendsW_iff (vs : List Value) (g : Goroutine) (w : World) : SendsW P c Low own vs g w ↔ ∃ n, Goes P false (Oth c Low own false) (DOwn c Low own false) (StopBW P c Low own vs) n g w := by
  cases vs <;> exact Iff.rfl

/-- IT STANDS AT A RECEIVE (with comma-ok: a range is). -/
def AtRecvW (Next : Goroutine → World → Prop) (g : Goroutine) (w : World) : Prop :=
  g.status = .running ∧ ∃ es, stepG P true g w = .comm (core g) #[rcase c z] true (.recv true) w es ∧ (∀ e ∈ es, EvO Low own true w e) ∧ ∀ w₂, Oth c Low own true w w₂ → Next (core g) w₂

/-- THE RECEIVER's SCRIPT; 'Fin': what holds once it has found the channel closed. -/
def RecvsW (Fin : Goroutine → World → Prop) : List Value → Goroutine → World → Prop
  | [], g, w => ∃ n, Goes P true (Oth c Low own true) (DOwn c Low own true) (AtRecvW P c Low own z fun g₂ w₂ => Fin (Conc.served g₂ (.tuple #[z, .bool false])) w₂) n g w
  | v :: vs, g, w => ∃ n, Goes P true (Oth c Low own true) (DOwn c Low own true) (AtRecvW P c Low own z fun g₂ w₂ => RecvsW Fin vs (Conc.served g₂ (.tuple #[v, .bool true])) w₂) n g w

def StopAW (Fin : Goroutine → World → Prop) : List Value → Goroutine → World → Prop
  | [] => AtRecvW P c Low own z fun g₂ w₂ => Fin (Conc.served g₂ (.tuple #[z, .bool false])) w₂
  | v :: vs => AtRecvW P c Low own z fun g₂ w₂ => RecvsW P c Low own z Fin vs (Conc.served g₂ (.tuple #[v, .bool true])) w₂

theorem recvsW_iff (Fin : Goroutine → World → Prop) (vs : List Value) (g : Goroutine) (w : World) : RecvsW P c Low own z Fin vs g w ↔ ∃ n, Goes P true (Oth c Low own true) (DOwn c Low own true) (StopAW P c Low own z Fin vs) n g w := by
  cases vs <;> exact Iff.rfl
end

section
variable {P : Program} {c Low : Nat} {own : Obj → Bool} {z : Value} {Fin : Goroutine → World → Prop}

theorem oth_trans {who : Bool} : ∀ a b d, Oth c Low own who a b → Oth c Low own who b d → Oth c Low own who a d := fun _ _ _ h k => h.trans k

theorem StopAW.running {vs : List Value} {g : Goroutine} {w : World} (h : StopAW P c Low own z Fin vs g w) : g.status = .running := by cases vs <;> exact h.1
theorem StopBW.running {vs : List Value} {g : Goroutine} {w : World} (h : StopBW P c Low own vs g w) : g.status = .running := by cases vs <;> exact h.1
theorem StopAW.comm {vs : List Value} {g : Goroutine} {w : World} (h : StopAW P c Low own z Fin vs g w) : ∃ es, stepG P true g w = .comm (core g) #[rcase c z] true (.recv true) w es ∧ ∀ e ∈ es, EvO Low own true w e := by
  cases vs <;> exact ⟨_, h.2.choose_spec.1, h.2.choose_spec.2.1⟩
theorem StopAW.cons {v : Value} {vs : List Value} {g : Goroutine} {w : World} (h : StopAW P c Low own z Fin (v :: vs) g w) : ∀ w₂, Oth c Low own true w w₂ → RecvsW P c Low own z Fin vs (Conc.served (core g) (.tuple #[v, .bool true])) w₂ := h.2.choose_spec.2.2
theorem StopAW.nil {g : Goroutine} {w : World} (h : StopAW P c Low own z Fin [] g w) : ∀ w₂, Oth c Low own true w w₂ → Fin (Conc.served (core g) (.tuple #[z, .bool false])) w₂ := h.2.choose_spec.2.2
/-- Whoever was parked and is let try again stands at the receive still. -/
theorem StopAW.tries {vs : List Value} {g : Goroutine} {w : World} (h : StopAW P c Low own z Fin vs g w) (cs : Array CommCase) (sh : CommShape) : StopAW P c Low own z Fin vs { parked (core g) cs sh with status := .running } w := by
  have e : core { parked (core g) cs sh with status := .running } = core g := rfl
  have hs : stepG P true { parked (core g) cs sh with status := .running } w = stepG P true g w := stepG_same rfl rfl rfl w
  cases vs with
  | nil =>
    obtain ⟨_, es, h1, h2, h3⟩ := h
    exact ⟨rfl, es, by rw [hs, e]; exact h1, h2, by rw [e]; exact h3⟩
  | cons v vs =>
    obtain ⟨_, es, h1, h2, h3⟩ := h
    exact ⟨rfl, es, by rw [hs, e]; exact h1, h2, by rw [e]; exact h3⟩

/-- The receiver: on its way (n = k + 1), or parked (n = 0). -/
def StA (P : Program) (c Low : Nat) (own : Obj → Bool) (z : Value) (Fin : Goroutine → World → Prop) (vs : List Value) (n : Nat) (a : Goroutine) (w : World) : Prop :=
  (∃ k, n = k + 1 ∧ Goes P true (Oth c Low own true) (DOwn c Low own true) (StopAW P c Low own z Fin vs) k a w) ∨
  (n = 0 ∧ ∃ g, a = parked (core g) #[rcase c z] (.recv true) ∧ ∀ w₁, Oth c Low own true w w₁ → StopAW P c Low own z Fin vs g w₁)
/-- The sender. -/
def StB (P : Program) (c Low : Nat) (own : Obj → Bool) (vs : List Value) (n : Nat) (b : Goroutine) (w : World) : Prop :=
  (∃ k, n = k + 1 ∧ Goes P false (Oth c Low own false) (DOwn c Low own false) (StopBW P c Low own vs) k b w) ∨
  (n = 0 ∧ ∃ v vs' z' g, vs = v :: vs' ∧ b = parked (core g) #[scase c v z'] .send ∧ ∀ w₁, Oth c Low own false w w₁ → SendsW P c Low own vs' (Conc.served (core g) undef) w₁)

theorem StA.rely {vs : List Value} {n : Nat} {a : Goroutine} {w w₁ : World} (h : StA P c Low own z Fin vs n a w) (hr : Oth c Low own true w w₁) : StA P c Low own z Fin vs n a w₁ := by
  rcases h with ⟨k, rfl, h⟩ | ⟨rfl, g, rfl, h⟩
  · exact .inl ⟨k, rfl, h.rely oth_trans hr⟩
  · exact .inr ⟨rfl, g, rfl, fun w₂ h₂ => h w₂ (hr.trans h₂)⟩
theorem StB.rely {vs : List Value} {n : Nat} {b : Goroutine} {w w₁ : World} (h : StB P c Low own vs n b w) (hr : Oth c Low own false w w₁) : StB P c Low own vs n b w₁ := by
  rcases h with ⟨k, rfl, h⟩ | ⟨rfl, v, vs', z', g, rfl, rfl, h⟩
  · exact .inl ⟨k, rfl, h.rely oth_trans hr⟩
  · exact .inr ⟨rfl, v, vs', z', g, rfl, rfl, fun w₂ h₂ => h w₂ (hr.trans h₂)⟩
theorem StA.status {vs : List Value} {n : Nat} {a : Goroutine} {w : World} (h : StA P c Low own z Fin vs n a w) : (a.status = .running ∧ 0 < n) ∨ (a.status = .blocked ∧ n = 0) := by
  rcases h with ⟨k, rfl, h⟩ | ⟨rfl, g, rfl, h⟩
  · exact .inl ⟨h.running (fun _ _ => StopAW.running) w (Oth.refl ..), Nat.succ_pos _⟩
  · exact .inr ⟨rfl, rfl⟩
theorem StB.status {vs : List Value} {n : Nat} {b : Goroutine} {w : World} (h : StB P c Low own vs n b w) : (b.status = .running ∧ 0 < n) ∨ (b.status = .blocked ∧ n = 0) := by
  rcases h with ⟨k, rfl, h⟩ | ⟨rfl, v, vs', z', g, rfl, rfl, h⟩
  · exact .inl ⟨h.running (fun _ _ => StopBW.running) w (Oth.refl ..), Nat.succ_pos _⟩
  · exact .inr ⟨rfl, rfl⟩
/-- Neither is let try again while the channel is open. -/
theorem StA.woken {vs : List Value} {n : Nat} {a g g' : Goroutine} {w w' : World} (h : StA P c Low own z Fin vs n a w) {k : Nat} (hc : w'.heap[c]? = some (.chan 0 #[] false k k false)) : woken P g g' w' a = a := by
  rcases h with ⟨k, rfl, h⟩ | ⟨rfl, g, rfl, h⟩
  · exact woken_run (h.running (fun _ _ => StopAW.running) w (Oth.refl ..))
  · exact woken_recv_open _ _ hc
theorem StB.woken {vs : List Value} {n : Nat} {b g g' : Goroutine} {w w' : World} (h : StB P c Low own vs n b w) {k : Nat} (hc : w'.heap[c]? = some (.chan 0 #[] false k k false)) : woken P g g' w' b = b := by
  rcases h with ⟨k, rfl, h⟩ | ⟨rfl, v, vs', z', g, rfl, rfl, h⟩
  · exact woken_run (h.running (fun _ _ => StopBW.running) w (Oth.refl ..))
  · exact woken_send_open _ _ hc

/-- THE STATE while the channel is open. -/
structure Two (P : Program) (c Low : Nat) (own : Obj → Bool) (z : Value) (Fin : Goroutine → World → Prop) (vs : List Value) (j na nb k Bd : Nat) (gs : Array Goroutine) (a b : Goroutine) (w : World) (t : Trace) (q : Nat → Nat) : Prop where
  h0 : gs[0]? = some a
  hj : gs[j]? = some b
  ne : j ≠ 0
  old : ∀ i g, i ≠ 0 → i ≠ j → gs[i]? = some g → QuitsD P (q i) (Deaf t i) g
  above : ∀ i, gs.size ≤ i → Deaf t i = 0
  chan : w.heap[c]? = some (.chan 0 #[] false k k false)
  tr : TI j (TouchIn Low own true w) (TouchIn Low own false w) Bd t
  low : c < Bd
  A : StA P c Low own z Fin vs na a w
  B : StB P c Low own vs nb b w
  pos : 0 < na + nb

/-- WHERE IT COMES TO. -/
def Comes0 (P : Program) (Fin : Goroutine → World → Prop) (gs : Array Goroutine) (w : World) (sl : Option (Nat × Nat)) (t : Trace) : Prop :=
  ∃ (N : Nat) (gs' : Array Goroutine) (a' : Goroutine) (w' : World) (sl' : Option (Nat × Nat)) (t' : Trace) (q' : Nat → Nat) (B' : Nat),
    runNT P N (crowd gs w sl) t = (.next (crowd gs' w' sl'), t') ∧ gs'[0]? = some a' ∧ Fin a' w' ∧ Leavers P t' gs' q' ∧ PastB B' t'

theorem Comes0.one {gs gs' : Array Goroutine} {w w' : World} {sl sl' : Option (Nat × Nat)} {t : Trace} {ops : Array MemOp} (hs : stepT P (crowd gs w sl) = (.next (crowd gs' w' sl'), ops)) (h : Comes0 P Fin gs' w' sl' (t ++ ops)) : Comes0 P Fin gs w sl t := by
  obtain ⟨N, gs2, a2, w2, sl2, t2, q2, B2, r2, h2⟩ := h
  exact ⟨N + 1, gs2, a2, w2, sl2, t2, q2, B2, by simp only [runNT, hs]; exact r2, h2⟩
end
end Go.Proofs.YtifdhaiihlfomaaDoor
