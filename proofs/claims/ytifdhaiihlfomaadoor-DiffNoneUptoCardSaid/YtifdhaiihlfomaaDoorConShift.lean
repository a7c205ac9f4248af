/-
  What a mild operation does hangs on memory and on the answers that it draws alone: carried out over another tape whose next answers are the same it does the same. No program in sight.
-/
import Derived.Test.YtifdhaiihlfomaaDoorConIns
namespace Go.Proofs.YtifdhaiihlfomaaDoor
open Go Go.Conc

/-- The world w over another tape, at another place of it. -/
def onT (w : World) (τ : Nat → Question → Nat) (d : Nat) : World := { w with tape := τ, drawn := d }

/-- No block whose initialisation is still to come is one that a step of the program's own would lay. -/
def Calm (P : Program) (w : World) : Prop := ∀ g c e, w.heap[g]? = some (.pending c e) → P.stepOf g = none

def resT {α : Type} (r : Result α) (τ : Nat → Question → Nat) (d : Nat) : Result α :=
  match r with
  | .ok a w => .ok a (onT w τ d)
  | .halt h w => .halt h (onT w τ d)

/-- An entry that says nothing of deafness. -/
def quietE (e : Event) : Prop := e.loc ≠ .mark .disable ∧ e.loc ≠ .mark .enable

def haltOk (P : Program) (h : Halt) : Prop := mildHalt h ∨ ∃ g, h = .unsupported (.initOrder g) ∧ P.stepOf g = none

def resOk {α : Type} (P : Program) (L : α → Prop) : Result α → Prop
  | .ok a w => L a ∧ Calm P w
  | .halt h _ => haltOk P h

section
variable {P : Program}

theorem onT_self (w : World) : onT w w.tape w.drawn = w := rfl
theorem onT_onT (w : World) (τ τ' : Nat → Question → Nat) (d d' : Nat) : onT (onT w τ d) τ' d' = onT w τ' d' := rfl
theorem onT_heap (w : World) (τ : Nat → Question → Nat) (d : Nat) : (onT w τ d).heap = w.heap := rfl
theorem at_onT (w : World) (d : Nat) : w.at d = onT w w.tape d := rfl

theorem Calm.of_heap {w w' : World} (h : Calm P w) (e : w'.heap = w.heap) : Calm P w' := fun g c x hx => h g c x (by rw [← e]; exact hx)
theorem Calm.push {w : World} {o : Obj} (h : Calm P w) (ho : ¬ waitsInit o) : Calm P { w with heap := w.heap.push o } := fun g c x hx => by
  rw [Array.getElem?_push] at hx
  split at hx
  · cases hx; exact absurd trivial ho
  · exact h g c x hx
theorem Calm.set {w : World} {r : Nat} {o : Obj} (h : Calm P w) (ho : ¬ waitsInit o) : Calm P { w with heap := w.heap.setIfInBounds r o } := fun g c x hx => by
  rw [Array.getElem?_setIfInBounds] at hx
  split at hx
  · split at hx
    · cases hx; exact absurd trivial ho
    · cases hx
  · exact h g c x hx
theorem Calm.modify {w : World} {r : Nat} {f : Obj → Obj} (h : Calm P w) (hf : ∀ o, waitsInit (f o) → f o = o) : Calm P { w with heap := w.heap.modify r f } := fun g c x hx => by
  simp only [Array.getElem?_modify] at hx
  split at hx
  · obtain ⟨o, ho, he⟩ := Option.map_eq_some_iff.1 hx
    have := hf o (by rw [he]; trivial)
    rw [this] at he
    exact h g c x (he ▸ ho)
  · exact h g c x hx
theorem Calm.setCell {w : World} {a : Addr} {v : Value} (h : Calm P w) : Calm P (w.setCell a v) := by
  unfold World.setCell
  refine h.modify fun o ho => ?_
  cases o <;> first | rfl | cases ho
theorem Calm.freeze {w : World} {a : Addr} {n : Nat} (h : Calm P w) : Calm P (w.freeze a n) := by
  unfold World.freeze
  split
  · exact h
  · refine h.modify fun o ho => ?_
    cases o <;> first | rfl | cases ho

theorem farLoad_onT (w : World) (τ : Nat → Question → Nat) (d : Nat) (a : Addr) (b : Bool) : (onT w τ d).farLoad P a b = w.farLoad P a b := rfl
theorem viewStore_onT (w : World) (τ : Nat → Question → Nat) (d : Nat) (at_ : Addr) (u : TypeId) (k : Addr) (v : Value) (b : Bool) :
    (onT w τ d).viewStore P at_ u k v b = (w.viewStore P at_ u k v b).map fun x => (onT x.1 τ d, x.2) := by
  unfold World.viewStore
  have e : (onT w τ d).seen P at_ u k b = w.seen P at_ u k b := rfl
  rw [e]
  cases tight P P.depth u with
  | false => rfl
  | true =>
    cases w.seen P at_ u k b with
    | error s => rfl
    | ok x =>
      obtain ⟨c, e, fz, first, like, cells⟩ := x
      simp only [Bool.not_true, Bool.false_eq_true, if_false, bind, Except.bind]
      split
      · rename_i bytes hb
        split
        · rfl
        · split <;> rfl
      · rfl
theorem viewStore_calm {w w' : World} {at_ : Addr} {u : TypeId} {k : Addr} {v : Value} {b : Bool} {l : List Addr} (hc : Calm P w) (h : w.viewStore P at_ u k v b = .ok (w', l)) : Calm P w' := by
  unfold World.viewStore at h
  simp only [bind, Except.bind] at h
  repeat' (first | (cases h; done) | split at h)
  all_goals
    simp only [pure, Except.pure, Except.ok.injEq, Prod.mk.injEq] at h
    obtain ⟨rfl, _⟩ := h
    exact hc.set (by simp [waitsInit])

theorem farStore_onT (w : World) (τ : Nat → Question → Nat) (d : Nat) (a : Addr) (v : Value) (b : Bool) :
    (onT w τ d).farStore P a v b = (w.farStore P a v b).map fun x => (onT x.1 τ d, x.2) := by
  unfold World.farStore
  rw [onT_heap]
  split
  · rw [viewStore_onT]
    cases w.viewStore P _ _ a v b <;> rfl
  · rfl
theorem farStore_calm {w w' : World} {a : Addr} {v : Value} {b : Bool} {l : List Addr} (hc : Calm P w) (h : w.farStore P a v b = .ok (w', l)) : Calm P w' := by
  unfold World.farStore at h
  split at h
  · split at h
    · rename_i hr
      cases h
      exact viewStore_calm hc hr
    · cases h
  · cases h

theorem noCell_ok {w : World} (hc : Calm P w) (a : Addr) (what : String) : haltOk P (w.noCell a what) := by
  unfold World.noCell
  split
  · rename_i h
    exact .inr ⟨_, rfl, hc _ _ _ h⟩
  · exact .inl trivial
  · exact .inl trivial
theorem farLoad_ok {w : World} (hc : Calm P w) {a : Addr} {b : Bool} {h : Halt} (e : w.farLoad P a b = .error h) : haltOk P h := by
  unfold World.farLoad at e
  split at e
  · split at e
    · cases e
    · cases e; exact .inl trivial
  · cases e; exact noCell_ok hc _ _
theorem farStore_ok {w : World} (hc : Calm P w) {a : Addr} {v : Value} {b : Bool} {h : Halt} (e : w.farStore P a v b = .error h) : haltOk P h := by
  unfold World.farStore at e
  split at e
  · split at e
    · cases e
    · cases e; exact .inl trivial
  · cases e; exact noCell_ok hc _ _

/-- ████ A MILD OPERATION, OVER ANY TAPE WHOSE NEXT ANSWERS ARE THE SAME. ████ -/
theorem mild_run {α : Type} {L : α → Prop} {s : Sem α} : Mild P L s → ∀ (w : World) (es0 : Array Event), Calm P w →
    ∃ (n : Nat) (r : Result α) (es : Array Event), (∀ τ d, (∀ j, j < n → ∀ q, τ (d + j) q = w.tape (w.drawn + j) q) → s.runT P (onT w τ d) es0 = (resT r τ (d + n), es0 ++ es)) ∧
      (∀ e ∈ es, quietE e) ∧ resOk P L r := by
  induction s with
  | pure a => exact fun h w es0 hc => ⟨0, .ok a w, #[], fun τ d _ => by simp only [Sem.runT, resT, Array.append_empty, Nat.add_zero], by simp, h, hc⟩
  | halt h => exact fun hh w es0 hc => ⟨0, .halt h w, #[], fun τ d _ => by simp only [Sem.runT, resT, Array.append_empty, Nat.add_zero], by simp, .inl hh⟩
  | load m a k ih =>
    intro h w es0 hc
    cases hw : w.cell? a with
    | some v =>
      obtain ⟨n, r, es, h1, h2, h3⟩ := ih v (h v) w (es0.push ⟨.cell a, false, m == .atomic⟩) hc
      refine ⟨n, r, #[⟨.cell a, false, m == .atomic⟩] ++ es, fun τ d ht => ?_, fun e he => ?_, h3⟩
      · have e1 : (onT w τ d).cell? a = some v := hw
        simp only [Sem.runT, e1]
        rw [h1 τ d ht]
        simp
      · rcases Array.mem_append.1 he with he | he
        · simp only [List.mem_toArray, List.mem_singleton] at he
          subst he; exact ⟨by simp, by simp⟩
        · exact h2 e he
    | none =>
      cases hf : w.farLoad P a (m == .atomic) with
      | error e =>
        refine ⟨0, .halt e w, #[], fun τ d _ => ?_, by simp, farLoad_ok hc hf⟩
        have e1 : (onT w τ d).cell? a = none := hw
        have e2 : (onT w τ d).farLoad P a (m == .atomic) = .error e := hf
        simp only [Sem.runT, e1, e2, resT, Array.append_empty, Nat.add_zero]
      | ok x =>
        obtain ⟨v, l⟩ := x
        obtain ⟨n, r, es, h1, h2, h3⟩ := ih v (h v) w (es0 ++ l.toArray.map (⟨.cell ·, false, m == .atomic⟩)) hc
        refine ⟨n, r, l.toArray.map (⟨.cell ·, false, m == .atomic⟩) ++ es, fun τ d ht => ?_, fun e he => ?_, h3⟩
        · have e1 : (onT w τ d).cell? a = none := hw
          have e2 : (onT w τ d).farLoad P a (m == .atomic) = .ok (v, l) := hf
          simp only [Sem.runT, e1, e2]
          rw [h1 τ d ht, Array.append_assoc]
        · rcases Array.mem_append.1 he with he | he
          · obtain ⟨y, _, rfl⟩ := Array.mem_map.1 he
            exact ⟨by simp, by simp⟩
          · exact h2 e he
  | store m a v k ih =>
    intro h w es0 hc
    by_cases hv : (∃ x, v = .agg x) ∨ ∃ x, v = .tuple x
    · refine ⟨0, .halt (.stuck "store: not the value of one cell") w, #[], fun τ d _ => ?_, by simp, .inl trivial⟩
      rcases hv with ⟨x, rfl⟩ | ⟨x, rfl⟩ <;> simp only [Sem.runT, resT, Array.append_empty, Nat.add_zero]
    have hun : ∀ (w : World) (es : Array Event), Sem.runT P (.store m a v k) w es = (match w.cell? a with
        | some _ => if w.frozen? a then (.halt (.unsupported (.unsafePointer "a write to bytes that a string shares")) w, es) else k.runT P (w.setCell a v) (es.push ⟨.cell a, true, m == .atomic⟩)
        | none => match w.farStore P a v (m == .atomic) with
          | .ok (w, touched) => k.runT P w (es ++ touched.toArray.map (⟨.cell ·, true, m == .atomic⟩))
          | .error h => (.halt h w, es)) := by
      intro w es
      cases v <;> first | rfl | exact absurd (.inl ⟨_, rfl⟩) hv | exact absurd (.inr ⟨_, rfl⟩) hv
    cases hw : w.cell? a with
    | some x =>
      cases hz : w.frozen? a with
      | true =>
        refine ⟨0, .halt (.unsupported (.unsafePointer "a write to bytes that a string shares")) w, #[], fun τ d _ => ?_, by simp, .inl trivial⟩
        have e1 : (onT w τ d).cell? a = some x := hw
        have e2 : (onT w τ d).frozen? a = true := hz
        rw [hun, e1]
        simp [e2, resT]
      | false =>
        obtain ⟨n, r, es, h1, h2, h3⟩ := ih h (w.setCell a v) (es0.push ⟨.cell a, true, m == .atomic⟩) hc.setCell
        refine ⟨n, r, #[⟨.cell a, true, m == .atomic⟩] ++ es, fun τ d ht => ?_, fun e he => ?_, h3⟩
        · have e1 : (onT w τ d).cell? a = some x := hw
          have e2 : (onT w τ d).frozen? a = false := hz
          have e3 : (onT w τ d).setCell a v = onT (w.setCell a v) τ d := rfl
          rw [hun, e1]
          simp only [e2, Bool.false_eq_true, if_false, e3]
          rw [h1 τ d ht]
          simp
        · rcases Array.mem_append.1 he with he | he
          · simp only [List.mem_toArray, List.mem_singleton] at he
            subst he; exact ⟨by simp, by simp⟩
          · exact h2 e he
    | none =>
      cases hf : w.farStore P a v (m == .atomic) with
      | error e =>
        refine ⟨0, .halt e w, #[], fun τ d _ => ?_, by simp, farStore_ok hc hf⟩
        have e1 : (onT w τ d).cell? a = none := hw
        rw [hun, e1, farStore_onT, hf]
        simp [Except.map, resT]
      | ok x =>
        obtain ⟨w', l⟩ := x
        obtain ⟨n, r, es, h1, h2, h3⟩ := ih h w' (es0 ++ l.toArray.map (⟨.cell ·, true, m == .atomic⟩)) (farStore_calm hc hf)
        have hw' : w'.tape = w.tape ∧ w'.drawn = w.drawn := by
          have := farStore_onT (P := P) w w.tape w.drawn a v (m == .atomic)
          rw [onT_self, hf] at this
          simp only [Except.map, Except.ok.injEq, Prod.mk.injEq] at this
          rw [this.1]
          exact ⟨rfl, rfl⟩
        refine ⟨n, r, l.toArray.map (⟨.cell ·, true, m == .atomic⟩) ++ es, fun τ d ht => ?_, fun e he => ?_, h3⟩
        · have e1 : (onT w τ d).cell? a = none := hw
          rw [hun, e1, farStore_onT, hf]
          simp only [Except.map]
          rw [h1 τ d (by rw [hw'.1, hw'.2]; exact ht), Array.append_assoc]
        · rcases Array.mem_append.1 he with he | he
          · obtain ⟨y, _, rfl⟩ := Array.mem_map.1 he
            exact ⟨by simp, by simp⟩
          · exact h2 e he
  | new o k ih =>
    intro h w es0 hc
    obtain ⟨n, r, es, h1, h2, h3⟩ := ih w.heap.size (h.2 _) { w with heap := w.heap.push o } es0 (hc.push h.1)
    exact ⟨n, r, es, fun τ d ht => by simp only [Sem.runT]; exact h1 τ d ht, h2, h3⟩
  | shape x k ih =>
    intro h w es0 hc
    obtain ⟨n, r, es, h1, h2, h3⟩ := ih (w.shape? x) (h _) w es0 hc
    exact ⟨n, r, es, fun τ d ht => by simp only [Sem.runT]; exact h1 τ d ht, h2, h3⟩
  | freeze a m k ih =>
    intro h w es0 hc
    have e : ∀ τ d, (onT w τ d).freeze a m = onT (w.freeze a m) τ d := fun τ d => by unfold World.freeze; split <;> rfl
    have e2 : (w.freeze a m).tape = w.tape ∧ (w.freeze a m).drawn = w.drawn := by unfold World.freeze; split <;> exact ⟨rfl, rfl⟩
    obtain ⟨n, r, es, h1, h2, h3⟩ := ih h (w.freeze a m) es0 hc.freeze
    exact ⟨n, r, es, fun τ d ht => by simp only [Sem.runT, e]; exact h1 τ d (by rw [e2.1, e2.2]; exact ht), h2, h3⟩
  | frozen a k ih =>
    intro h w es0 hc
    obtain ⟨n, r, es, h1, h2, h3⟩ := ih (w.frozen? a) (h _) w es0 hc
    exact ⟨n, r, es, fun τ d ht => by simp only [Sem.runT]; exact h1 τ d ht, h2, h3⟩
  | getObj x k ih =>
    intro h w es0 hc
    have hx : ∀ τ d, (onT w τ d).heap[x]? = w.heap[x]? := fun _ _ => rfl
    match hw : w.heap[x]? with
    | some (.cells c t z) => exact ⟨0, .halt (.stuck "getObj: a row of cells") w, #[], fun τ d _ => by simp only [Sem.runT, hx, hw, resT, Array.append_empty, Nat.add_zero], by simp, .inl trivial⟩
    | none => exact ⟨0, .halt (.stuck "getObj: no such block") w, #[], fun τ d _ => by simp only [Sem.runT, hx, hw, resT, Array.append_empty, Nat.add_zero], by simp, .inl trivial⟩
    | some o =>
      by_cases ho : ∃ c t z, o = .cells c t z
      · obtain ⟨c, t, z, rfl⟩ := ho
        exact ⟨0, .halt (.stuck "getObj: a row of cells") w, #[], fun τ d _ => by simp only [Sem.runT, hx, hw, resT, Array.append_empty, Nat.add_zero], by simp, .inl trivial⟩
      obtain ⟨n, r, es, h1, h2, h3⟩ := ih o (h o) w (es0.push ⟨.obj x, false, o.isChan⟩) hc
      refine ⟨n, r, #[⟨.obj x, false, o.isChan⟩] ++ es, fun τ d ht => ?_, fun e he => ?_, h3⟩
      · have : Sem.runT P (.getObj x k) (onT w τ d) es0 = (k o).runT P (onT w τ d) (es0.push ⟨.obj x, false, o.isChan⟩) := by
          simp only [Sem.runT, hx, hw]
          cases o <;> first | rfl | exact absurd ⟨_, _, _, rfl⟩ ho
        rw [this, h1 τ d ht]
        simp
      · rcases Array.mem_append.1 he with he | he
        · simp only [List.mem_toArray, List.mem_singleton] at he
          subst he; exact ⟨by simp, by simp⟩
        · exact h2 e he
  | setObj x o k ih =>
    intro h w es0 hc
    have hx : ∀ τ d, (onT w τ d).heap[x]? = w.heap[x]? := fun _ _ => rfl
    match hw : w.heap[x]? with
    | none => exact ⟨0, .halt (.stuck "setObj: no such block") w, #[], fun τ d _ => by simp only [Sem.runT, hx, hw, resT, Array.append_empty, Nat.add_zero], by simp, .inl trivial⟩
    | some o' =>
      by_cases ho : ∃ c t z, o' = .cells c t z
      · obtain ⟨c, t, z, rfl⟩ := ho
        exact ⟨0, .halt (.stuck "setObj: a row of cells") w, #[], fun τ d _ => by simp only [Sem.runT, hx, hw, resT, Array.append_empty, Nat.add_zero], by simp, .inl trivial⟩
      obtain ⟨n, r, es, h1, h2, h3⟩ := ih h.2 { w with heap := w.heap.setIfInBounds x o } (es0.push ⟨.obj x, true, o.isChan⟩) (hc.set h.1)
      refine ⟨n, r, #[⟨.obj x, true, o.isChan⟩] ++ es, fun τ d ht => ?_, fun e he => ?_, h3⟩
      · have : Sem.runT P (.setObj x o k) (onT w τ d) es0 = k.runT P (onT { w with heap := w.heap.setIfInBounds x o } τ d) (es0.push ⟨.obj x, true, o.isChan⟩) := by
          simp only [Sem.runT, hx, hw]
          cases o' <;> first | rfl | exact absurd ⟨_, _, _, rfl⟩ ho
        rw [this, h1 τ d ht]
        simp
      · rcases Array.mem_append.1 he with he | he
        · simp only [List.mem_toArray, List.mem_singleton] at he
          subst he; exact ⟨by simp, by simp⟩
        · exact h2 e he
  | choose q k ih =>
    intro h w es0 hc
    cases hq : q.forced with
    | true =>
      obtain ⟨n, r, es, h1, h2, h3⟩ := ih 0 (h 0) w es0 hc
      exact ⟨n, r, es, fun τ d ht => by simp only [Sem.runT, hq, if_true]; exact h1 τ d ht, h2, h3⟩
    | false =>
      obtain ⟨n, r, es, h1, h2, h3⟩ := ih (q.cut (w.tape w.drawn q)) (h _) { w with drawn := w.drawn + 1 } es0 (hc.of_heap rfl)
      refine ⟨n + 1, r, es, fun τ d ht => ?_, h2, h3⟩
      simp only [Sem.runT, hq, Bool.false_eq_true, if_false]
      have e0 : (onT w τ d).tape (onT w τ d).drawn q = w.tape w.drawn q := ht 0 (by omega) q
      rw [e0]
      have := h1 τ (d + 1) (fun j hj q' => by have := ht (j + 1) (by omega) q'; rw [show d + 1 + j = d + (j + 1) by omega, this]; show _ = w.tape (w.drawn + 1 + j) q'; rw [show w.drawn + 1 + j = w.drawn + (j + 1) by omega])
      rw [show d + (n + 1) = d + 1 + n by omega]
      exact this
  | sys c k _ => exact fun h => h.elim
  | program k ih =>
    intro h w es0 hc
    obtain ⟨n, r, es, h1, h2, h3⟩ := ih P h w es0 hc
    exact ⟨n, r, es, fun τ d ht => by simp only [Sem.runT]; exact h1 τ d ht, h2, h3⟩
  | mark m k ih =>
    intro h w es0 hc
    obtain ⟨n, r, es, h1, h2, h3⟩ := ih h.2 w (es0.push ⟨.mark m, false, true⟩) hc
    refine ⟨n, r, #[⟨.mark m, false, true⟩] ++ es, fun τ d ht => ?_, fun e he => ?_, h3⟩
    · simp only [Sem.runT]
      rw [h1 τ d ht]
      simp
    · rcases Array.mem_append.1 he with he | he
      · simp only [List.mem_toArray, List.mem_singleton] at he
        subst he
        rw [h.1]
        exact ⟨by simp, by simp⟩
      · exact h2 e he
end
end Go.Proofs.YtifdhaiihlfomaaDoor
