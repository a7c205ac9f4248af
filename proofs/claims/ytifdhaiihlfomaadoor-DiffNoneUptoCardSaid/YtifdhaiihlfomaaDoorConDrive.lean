/-
  Goroutine 0 beside goroutines that only leave: where it comes to, on whatever tape, the trace free of races, all known to it. A function whose contract was shown for a run alone is run so, too. No program in sight.
-/
import Derived.Test.YtifdhaiihlfomaaDoorConLone
namespace Go.Proofs.YtifdhaiihlfomaaDoor
open Go Go.Conc
open Go.ConcN (sumTo upd sumTo_upd upd_ne upd_same)
set_option linter.unusedVariables false

/-- Nothing is shunned. -/
abbrev PastB (B : Nat) (t : Trace) : Prop := Past (fun _ => False) B t

/-- FROM RECORD a IN WORLD w, beside whoever only leaves, on whatever tape, goroutine 0 comes to a stop. -/
def Drive (P : Program) (Stop : Goroutine → World → Prop) (a : Goroutine) (w : World) : Prop :=
  ∀ (d : Nat) (gs : Array Goroutine) (sl : Option (Nat × Nat)) (t : Trace) (q : Nat → Nat) (B : Nat), gs[0]? = some a → Leavers P t gs q → PastB B t →
    ∃ (N : Nat) (gs' : Array Goroutine) (a' : Goroutine) (w' : World) (sl' : Option (Nat × Nat)) (t' : Trace) (q' : Nat → Nat) (B' : Nat),
      runNT P N (crowd gs (w.at d) sl) t = (.next (crowd gs' w' sl'), t') ∧ gs'[0]? = some a' ∧ Stop a' w' ∧ Leavers P t' gs' q' ∧ PastB B' t'

section
variable {P : Program} {Stop Stop' : Goroutine → World → Prop}

theorem at_drawn (w : World) : w.at w.drawn = w := rfl

theorem runNT_then {m m' m'' : Machine} {t t' t'' : Trace} {N K : Nat} (h : runNT P N m t = (.next m', t')) (hk : runNT P K m' t' = (.next m'', t'')) : runNT P (N + K) m t = (.next m'', t'') := by
  rw [runNT_add, h]
  exact hk

theorem Drive.stop {a : Goroutine} {w : World} (h : ∀ d, Stop a (w.at d)) : Drive P Stop a w :=
  fun d gs sl t q B h0 hL hP => ⟨0, gs, a, w.at d, sl, t, q, B, rfl, h0, h d, hL, hP⟩

theorem Drive.trans {a : Goroutine} {w : World} (h : Drive P Stop a w) (h' : ∀ a' w', Stop a' w' → Drive P Stop' a' w') : Drive P Stop' a w := by
  intro d gs sl t q B h0 hL hP
  obtain ⟨N, gs1, a1, w1, sl1, t1, q1, B1, r1, z1, s1, L1, P1⟩ := h d gs sl t q B h0 hL hP
  obtain ⟨M, gs2, a2, w2, sl2, t2, q2, B2, r2, z2, s2, L2, P2⟩ := h' a1 w1 s1 w1.drawn gs1 sl1 t1 q1 B1 z1 L1 P1
  exact ⟨N + M, gs2, a2, w2, sl2, t2, q2, B2, runNT_then r1 r2, z2, s2, L2, P2⟩

theorem Drive.mono {a : Goroutine} {w : World} (h : Drive P Stop a w) (h' : ∀ a' w', Stop a' w' → Stop' a' w') : Drive P Stop' a w := by
  intro d gs sl t q B h0 hL hP
  obtain ⟨N, gs1, a1, w1, sl1, t1, q1, B1, r1, z1, s1, L1, P1⟩ := h d gs sl t q B h0 hL hP
  exact ⟨N, gs1, a1, w1, sl1, t1, q1, B1, r1, z1, h' _ _ s1, L1, P1⟩

theorem Drive.at {a : Goroutine} {w : World} (h : Drive P Stop a w) (d : Nat) : Drive P Stop a (w.at d) := fun d' => h d'

theorem low_some (x : MemAct) : ∃ B, x.low B := by
  cases x with
  | access e =>
    obtain ⟨loc, wr, sy⟩ := e
    cases loc with
    | cell a => exact ⟨a.block + 1, Nat.lt_succ_self _⟩
    | obj r => exact ⟨r + 1, Nat.lt_succ_self _⟩
    | _ => exact ⟨0, trivial⟩
  | mark m => cases m <;> first | exact ⟨_, Nat.lt_succ_self _⟩ | exact ⟨0, trivial⟩
  | go _ | start => exact ⟨0, trivial⟩
  | send _ _ | sendDone _ _ | recv _ _ _ | recvDone _ _ | close _ | recvClosed _ => exact ⟨_, Nat.lt_succ_self _⟩
theorem low_all : ∀ l : List Event, ∃ B, ∀ e ∈ l, (MemAct.ofEvent e).low B
  | [] => ⟨0, fun _ h => by cases h⟩
  | x :: l => by
    obtain ⟨B, hB⟩ := low_all l
    obtain ⟨C, hC⟩ := low_some (MemAct.ofEvent x)
    refine ⟨max B C, fun e he => ?_⟩
    rcases List.mem_cons.1 he with rfl | he
    · exact MemAct.low_mono (Nat.le_max_right _ _) hC
    · exact MemAct.low_mono (Nat.le_max_left _ _) (hB e he)
/-- Entries that say nothing of deafness: whatever they name, some bound holds. -/
theorem evL_some {es : Array Event} (h : ∀ e ∈ es, quietE e) (B : Nat) : ∃ B', B ≤ B' ∧ ∀ e ∈ es, EvL (fun _ => False) B' e := by
  obtain ⟨C, hC⟩ := low_all es.toList
  exact ⟨max B C, Nat.le_max_left _ _, fun e he => ⟨fun _ _ hf => hf.elim, (h e he).1, (h e he).2, MemAct.low_mono (Nat.le_max_right _ _) (hC e (Array.mem_toList_iff.2 he))⟩⟩

theorem leavers_awake {gs : Array Goroutine} {a : Goroutine} {t : Trace} {q : Nat → Nat} (h0 : gs[0]? = some a) (hrun : a.status = .running) (hL : Leavers P t gs q) : ∀ g ∈ gs, awake g := by
  intro g hg
  obtain ⟨i, hi, rfl⟩ := Array.mem_iff_getElem.1 hg
  cases i with
  | zero =>
    have e : gs[0] = a := Option.some.inj ((Array.getElem?_eq_getElem hi).symm.trans h0)
    rw [e]
    exact awake_of (.inl hrun)
  | succ i =>
    have hq := hL.old (i + 1) _ (Nat.succ_pos i) (Array.getElem?_eq_getElem hi)
    exact awake_of (hq.status.elim .inl fun x => .inr (.inr x))

/-- Goroutine 0 has gone a step: the leavers are leavers still. -/
theorem leavers_zero {gs : Array Goroutine} {g a' : Goroutine} {w' : World} {t : Trace} {q : Nat → Nat} {fn : FuncId} {pos : String} {es : Array Event} (hlt : 0 < gs.size) (hL : Leavers P t gs q) :
    Leavers P (t ++ MemOp.ofEvents 0 fn pos es) ((gs.map (woken P g a' w')).setIfInBounds 0 a') q := by
  have hg : ∀ op ∈ MemOp.ofEvents 0 fn pos es, op.g = 0 := fun op hop => by
    obtain ⟨e, _, rfl⟩ := Go.Conc.mem_ofEvents hop
    rfl
  constructor
  · intro j x hj hx
    have hne : 0 ≠ j := Nat.ne_of_lt hj
    rw [Array.getElem?_setIfInBounds_ne hne, Array.getElem?_map] at hx
    obtain ⟨y, hy, rfl⟩ := Option.map_eq_some_iff.1 hx
    rw [Deaf_other t hne _ hg, woken_quitsD (hL.old j y hj hy)]
    exact hL.old j y hj hy
  · intro j hj
    simp only [Array.size_setIfInBounds, Array.size_map] at hj
    rw [Deaf_other t (Nat.ne_of_lt (Nat.lt_of_lt_of_le hlt hj)) _ hg]
    exact hL.above j hj

/-- A leaver has slipped. -/
theorem leavers_slip {gs : Array Goroutine} {i k : Nat} {g g' : Goroutine} {w' : World} {t : Trace} {q : Nat → Nat} {fn : FuncId} {pos : String} {es : Array Event} (hL : Leavers P t gs q) (hi : i < gs.size)
    (hq : QuitsD P k (deafBehind (Deaf t i) es) g') : Leavers P (t ++ MemOp.ofEvents i fn pos es) ((gs.map (woken P g g' w')).setIfInBounds i g') (upd q i k) := by
  have hg : ∀ op ∈ MemOp.ofEvents i fn pos es, op.g = i := fun op hop => by
    obtain ⟨e, _, rfl⟩ := Go.Conc.mem_ofEvents hop
    rfl
  constructor
  · intro j x hj hx
    by_cases e : i = j
    · subst e
      rw [Array.getElem?_setIfInBounds_self_of_lt (by simpa using hi)] at hx
      cases hx
      rw [upd_same, Deaf_own]
      exact hq
    · rw [Array.getElem?_setIfInBounds_ne e, Array.getElem?_map] at hx
      obtain ⟨y, hy, rfl⟩ := Option.map_eq_some_iff.1 hx
      rw [Deaf_other t e _ hg, upd_ne q k (fun h => e h.symm), woken_quitsD (hL.old j y hj hy)]
      exact hL.old j y hj hy
  · intro j hj
    simp only [Array.size_setIfInBounds, Array.size_map] at hj
    rw [Deaf_other t (Nat.ne_of_lt (Nat.lt_of_lt_of_le hi hj)) _ hg]
    exact hL.above j hj

/-- ████ ONE STEP OF GOROUTINE 0's OWN. ████ -/
theorem Drive.step {a : Goroutine} {w : World} (hrun : a.status = .running)
    (h : ∀ d, ∃ a' w' es, stepG P true a (w.at d) = .go a' w' es ∧ (∀ e ∈ es, quietE e) ∧ Drive P Stop a' w') : Drive P Stop a w := by
  intro d gs sl t q B h0 hL hP
  generalize hM : sumTo gs.size q = M
  induction M using Nat.strongRecOn generalizing d gs sl t q B with
  | ind M ih =>
    obtain ⟨i, g, d', sl', hi, hg, hst⟩ := crowd_pick (P := P) (w := w.at d) (sl := sl) (leavers_awake h0 hrun hL) ⟨0, a, h0, hrun⟩
    have hlt : i < gs.size := (Array.getElem?_eq_some_iff.1 hi).1
    have hat : (w.at d).at d' = w.at d' := rfl
    rw [hat] at hst
    cases i with
    | zero =>
      have e : g = a := Option.some.inj (hi.symm.trans h0)
      subst e
      obtain ⟨a', w', es, hgo, hq, hD⟩ := h d'
      have hr := runT_crowd_go (P := P) (sl := sl') (i := 0) hi hgo
      obtain ⟨B', hB, hev⟩ := evL_some hq B
      obtain ⟨N, gs2, a2, w2, sl2, t2, q2, B2, r2, z2, s2, L2, P2⟩ := hD w'.drawn _ sl' _ q B' (Array.getElem?_setIfInBounds_self_of_lt (by simpa using hlt)) (leavers_zero (g := g) (a' := a') (w' := w') (fn := g.frame.fn) (pos := g.frame.place) (es := es) hlt hL) ((hP.mono hB).own hev)
      exact ⟨N + 1, gs2, a2, w2, sl2, t2, q2, B2, by simp only [runNT, hst, hr]; exact r2, z2, s2, L2, P2⟩
    | succ i =>
      have hq := hL.old (i + 1) g (Nat.succ_pos i) hi
      cases hqi : q (i + 1) with
      | zero =>
        rw [hqi] at hq
        rw [hq.1] at hg
        cases hg
      | succ k =>
        rw [hqi] at hq
        rcases hq with ⟨hf, _⟩ | ⟨_, g', es, hm, hstp, hq'⟩
        · rw [hf] at hg
          cases hg
        have hr := runT_crowd_go (P := P) (sl := sl') (i := i + 1) hi (hstp (w.at d'))
        have hsum : sumTo gs.size (upd q (i + 1) k) < M := by
          have e2 : sumTo gs.size (upd q (i + 1) k) + q (i + 1) = sumTo gs.size q + k := sumTo_upd q k id hlt
          rw [hqi, hM] at e2
          omega
        have hne : i + 1 ≠ 0 := by omega
        obtain ⟨N, gs2, a2, w2, sl2, t2, q2, B2, r2, z2, s2, L2, P2⟩ := ih _ hsum d' _ sl' (t ++ MemOp.ofEvents (i + 1) g.frame.fn g.frame.place es) (upd q (i + 1) k) B (by
          rw [Array.getElem?_setIfInBounds_ne hne, Array.getElem?_map, h0]
          simp [woken_run hrun]) (leavers_slip (g := g) (g' := g') (w' := w.at d') hL hlt hq') (hP.mute hne hm) (by simp)
        exact ⟨N + 1, gs2, a2, w2, sl2, t2, q2, B2, by simp only [runNT, hst, hr]; exact r2, z2, s2, L2, P2⟩

/-- ████ STEP BY STEP, BESIDE LEAVERS. ████ -/
theorem drive_lone {S : Frame → World → Prop} {fr : Frame} {X : List Frame} {w : World} (h : Lone P S fr X w) : ∀ (cs : List Frame) (τ : Nat → Question → Nat) (d : Nat),
    Drive P (fun a' w' => ∃ fr' w₁, a' = G fr' cs ∧ S fr' w₁ ∧ ∃ d', w' = onT w₁ τ d') (G fr (X ++ cs)) (onT w τ d) := by
  induction h with
  | stop hs => exact fun cs τ d => Drive.stop fun d' => ⟨_, _, rfl, hs, d', rfl⟩
  | step n fr' X' w' es hq hgo hl ih =>
    intro cs τ d
    refine Drive.step rfl fun d' => ⟨_, _, es τ d', hgo τ d' true cs, hq τ d', ih τ d' cs τ _⟩
end
end Go.Proofs.YtifdhaiihlfomaaDoor
