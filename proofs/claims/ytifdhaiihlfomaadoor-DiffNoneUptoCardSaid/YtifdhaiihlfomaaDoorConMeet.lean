/-
  Two goroutines that work at once: each step of the machine, told one by one; and all of them together, till the channel is found closed. No program in sight.
-/
import Derived.Test.YtifdhaiihlfomaaDoorConPair
namespace Go.Proofs.YtifdhaiihlfomaaDoor
open Go Go.Conc
open Go.ConcN (sumTo upd sumTo_upd upd_ne upd_same)
set_option linter.unusedVariables false

section
variable {P : Program} {c Low : Nat} {own : Obj → Bool} {z : Value} {Fin : Goroutine → World → Prop} {vs : List Value} {j na nb k Bd : Nat} {gs : Array Goroutine} {a b : Goroutine} {w : World} {t : Trace} {q : Nat → Nat}

theorem get_other {f : Goroutine → Goroutine} {i x : Nat} {y : Goroutine} (h : i ≠ x) : ((gs.map f).setIfInBounds i y)[x]? = (gs[x]?).map f := by
  rw [Array.getElem?_setIfInBounds_ne h, Array.getElem?_map]
theorem get_self {f : Goroutine → Goroutine} {i : Nat} {y g : Goroutine} (h : gs[i]? = some g) : ((gs.map f).setIfInBounds i y)[i]? = some y :=
  Array.getElem?_setIfInBounds_self_of_lt (by simpa using (Array.getElem?_eq_some_iff.1 h).1)

theorem ofEvents_g {g : Nat} {fn : FuncId} {pos : String} {es : Array Event} : ∀ op ∈ MemOp.ofEvents g fn pos es, op.g = g := fun op hop => by
  obtain ⟨e, _, rfl⟩ := Go.Conc.mem_ofEvents hop
  rfl
theorem deaf_quietE {g : Nat} {fn : FuncId} {pos : String} {es : Array Event} (h : ∀ e ∈ es, quietE e) : Deaf (t ++ MemOp.ofEvents g fn pos es) g = Deaf t g := by
  rw [Deaf_own]
  exact deafBehind_still h _

/-- The entries of an own step, laid into the trace. -/
theorem tr_own0 {w' : World} {fn : FuncId} {pos : String} {es : Array Event} (hj : j ≠ 0) (h : TI j (TouchIn Low own true w') (TouchIn Low own false w') Bd t) (he : ∀ e ∈ es, EvO Low own true w' e) :
    ∃ Bd', Bd ≤ Bd' ∧ TI j (TouchIn Low own true w') (TouchIn Low own false w') Bd' (t ++ MemOp.ofEvents 0 fn pos es) := by
  obtain ⟨C, hC⟩ := low_all es.toList
  refine ⟨max Bd C, Nat.le_max_left _ _, (h.mono (fun _ x => x) (fun _ x => x) (Nat.le_max_left _ _)).app0 (touch_apart w') hj ofEvents_g (fun op hop b hb hm => ?_) (deaf_quietE fun e x => (he e x).1) fun op hop => ?_⟩
  · obtain ⟨e, hx, rfl⟩ := Go.Conc.mem_ofEvents hop
    exact (he e hx).2 b hb hm
  · obtain ⟨e, hx, rfl⟩ := Go.Conc.mem_ofEvents hop
    exact MemAct.low_mono (Nat.le_max_right _ _) (hC e (Array.mem_toList_iff.2 hx))
theorem tr_ownJ {w' : World} {fn : FuncId} {pos : String} {es : Array Event} (hj : j ≠ 0) (h : TI j (TouchIn Low own true w') (TouchIn Low own false w') Bd t) (he : ∀ e ∈ es, EvO Low own false w' e) :
    ∃ Bd', Bd ≤ Bd' ∧ TI j (TouchIn Low own true w') (TouchIn Low own false w') Bd' (t ++ MemOp.ofEvents j fn pos es) := by
  obtain ⟨C, hC⟩ := low_all es.toList
  refine ⟨max Bd C, Nat.le_max_left _ _, (h.mono (fun _ x => x) (fun _ x => x) (Nat.le_max_left _ _)).appJ (touch_apart w') hj ofEvents_g (fun op hop b hb hm => ?_) (deaf_quietE fun e x => (he e x).1) fun op hop => ?_⟩
  · obtain ⟨e, hx, rfl⟩ := Go.Conc.mem_ofEvents hop
    exact (he e hx).2 b hb hm
  · obtain ⟨e, hx, rfl⟩ := Go.Conc.mem_ofEvents hop
    exact MemAct.low_mono (Nat.le_max_right _ _) (hC e (Array.mem_toList_iff.2 hx))

theorem TI.world {who : Bool} {w' : World} (h : TI j (TouchIn Low own true w) (TouchIn Low own false w) Bd t) (ho : Oth c Low own who w w') : TI j (TouchIn Low own true w') (TouchIn Low own false w') Bd t :=
  h.mono (fun _ x => x.oth ho) (fun _ x => x.oth ho) (Nat.le_refl _)

/-- GOROUTINE 0 GOES A STEP. -/
theorem two_stepA (H : Two P c Low own z Fin vs j na nb k Bd gs a b w t q) {d na' : Nat} {a' : Goroutine} {w' : World} {es : Array Event} (hd : DOwn c Low own true (w.at d) w' es) (hA : StA P c Low own z Fin vs na' a' w') (hn : 0 < na') :
    ∃ Bd', Two P c Low own z Fin vs j na' nb k Bd' ((gs.map (woken P a a' w')).setIfInBounds 0 a') a' b w' (t ++ MemOp.ofEvents 0 a.frame.fn a.frame.place es) q := by
  obtain ⟨hoth, hch, hev⟩ := hd
  have hw : Oth c Low own false w w' := (Oth.at ..).trans hoth
  have hchan : w'.heap[c]? = some (.chan 0 #[] false k k false) := hch.trans H.chan
  obtain ⟨Bd', hB, htr⟩ := tr_own0 (fn := a.frame.fn) (pos := a.frame.place) H.ne (H.tr.world hw) hev
  refine ⟨Bd', get_self H.h0, ?_, H.ne, fun i g hi0 hij hg => ?_, fun i hi => ?_, hchan, htr, Nat.lt_of_lt_of_le H.low hB, hA, H.B.rely hw, by omega⟩
  · rw [get_other (fun e => H.ne e.symm), H.hj]
    simp [H.B.woken hchan]
  · rw [get_other (fun e => hi0 e.symm)] at hg
    obtain ⟨y, hy, rfl⟩ := Option.map_eq_some_iff.1 hg
    have hq := H.old i y hi0 hij hy
    rw [woken_quitsD hq, Deaf_other t (fun e => hi0 e.symm) _ ofEvents_g]
    exact hq
  · have h0 := (Array.getElem?_eq_some_iff.1 H.h0).1
    simp only [Array.size_setIfInBounds, Array.size_map] at hi
    rw [Deaf_other t (Nat.ne_of_lt (Nat.lt_of_lt_of_le h0 hi)) _ ofEvents_g]
    exact H.above i hi

/-- GOROUTINE j GOES A STEP. -/
theorem two_stepB (H : Two P c Low own z Fin vs j na nb k Bd gs a b w t q) {d nb' : Nat} {b' : Goroutine} {w' : World} {es : Array Event} (hd : DOwn c Low own false (w.at d) w' es) (hB : StB P c Low own vs nb' b' w') (hn : 0 < nb') :
    ∃ Bd', Two P c Low own z Fin vs j na nb' k Bd' ((gs.map (woken P b b' w')).setIfInBounds j b') a b' w' (t ++ MemOp.ofEvents j b.frame.fn b.frame.place es) q := by
  obtain ⟨hoth, hch, hev⟩ := hd
  have hw : Oth c Low own true w w' := (Oth.at ..).trans hoth
  have hchan : w'.heap[c]? = some (.chan 0 #[] false k k false) := hch.trans H.chan
  obtain ⟨Bd', hB', htr⟩ := tr_ownJ (fn := b.frame.fn) (pos := b.frame.place) H.ne (H.tr.world hw) hev
  refine ⟨Bd', ?_, get_self H.hj, H.ne, fun i g hi0 hij hg => ?_, fun i hi => ?_, hchan, htr, Nat.lt_of_lt_of_le H.low hB', H.A.rely hw, hB, by omega⟩
  · rw [get_other H.ne, H.h0]
    simp [H.A.woken hchan]
  · rw [get_other (fun e => hij e.symm)] at hg
    obtain ⟨y, hy, rfl⟩ := Option.map_eq_some_iff.1 hg
    have hq := H.old i y hi0 hij hy
    rw [woken_quitsD hq, Deaf_other t (fun e => hij e.symm) _ ofEvents_g]
    exact hq
  · have hj := (Array.getElem?_eq_some_iff.1 H.hj).1
    simp only [Array.size_setIfInBounds, Array.size_map] at hi
    rw [Deaf_other t (Nat.ne_of_lt (Nat.lt_of_lt_of_le hj hi)) _ ofEvents_g]
    exact H.above i hi

/-- A LEAVER SLIPS. -/
theorem two_slip (H : Two P c Low own z Fin vs j na nb k Bd gs a b w t q) {i k' d : Nat} {g g' : Goroutine} {es : Array Event} (hi : gs[i]? = some g) (hi0 : i ≠ 0) (hij : i ≠ j) (hm : ∀ e ∈ es, e.mute = true) (hq : QuitsD P k' (deafBehind (Deaf t i) es) g') :
    Two P c Low own z Fin vs j na nb k Bd ((gs.map (woken P g g' (w.at d))).setIfInBounds i g') a b (w.at d) (t ++ MemOp.ofEvents i g.frame.fn g.frame.place es) (upd q i k') := by
  have hchan : (w.at d).heap[c]? = some (.chan 0 #[] false k k false) := H.chan
  have hlt := (Array.getElem?_eq_some_iff.1 hi).1
  refine ⟨?_, ?_, H.ne, fun x y hx0 hxj hy => ?_, fun x hx => ?_, hchan, (H.tr.world (Oth.at c Low own true w d)).appNone ?_ ?_ ?_ ?_, H.low, H.A.rely (Oth.at ..), H.B.rely (Oth.at ..), H.pos⟩
  · rw [get_other hi0, H.h0]
    simp [H.A.woken hchan]
  · rw [get_other hij, H.hj]
    simp [H.B.woken hchan]
  · by_cases e : i = x
    · subst e
      rw [get_self hi] at hy
      cases hy
      rw [upd_same, Deaf_own]
      exact hq
    · rw [get_other e] at hy
      obtain ⟨y', hy', rfl⟩ := Option.map_eq_some_iff.1 hy
      have hq' := H.old x y' hx0 hxj hy'
      rw [woken_quitsD hq', Deaf_other t e _ ofEvents_g, upd_ne q k' (fun h => e h.symm)]
      exact hq'
  · simp only [Array.size_setIfInBounds, Array.size_map] at hx
    rw [Deaf_other t (Nat.ne_of_lt (Nat.lt_of_lt_of_le hlt hx)) _ ofEvents_g]
    exact H.above x hx
  · intro op hop
    obtain ⟨e, he, rfl⟩ := Go.Conc.mem_ofEvents hop
    exact touch_mute (hm e he)
  · exact Deaf_other t hi0 _ ofEvents_g
  · exact Deaf_other t hij _ ofEvents_g
  · intro op hop
    obtain ⟨e, he, rfl⟩ := Go.Conc.mem_ofEvents hop
    exact low_mute (hm e he) Bd

/-- Nobody but the two is blocked. -/
theorem two_others (H : Two P c Low own z Fin vs j na nb k Bd gs a b w t q) {i : Nat} {g : Goroutine} (hi0 : i ≠ 0) (hij : i ≠ j) (hg : gs[i]? = some g) (r : Nat) (s : Bool) : offersAt g r s = [] :=
  offersAt_of_not_blocked (fun hb => by
    rcases (H.old i g hi0 hij hg).status with e | e <;> rw [e] at hb <;> cases hb) r s

/-- GOROUTINE 0 COMES TO ITS RECEIVE, AND NOBODY IS THERE: it is parked. -/
theorem two_parkA (H : Two P c Low own z Fin vs j na nb k Bd gs a b w t q) {d : Nat} {sl : Option (Nat × Nat)} (hb : 0 < nb) (hst : ∀ w₁, Oth c Low own true w w₁ → StopAW P c Low own z Fin vs a w₁) :
    ∃ gs' a' t' Bd' ops, runT P (crowd gs (w.at d) sl) 0 = (.next (crowd gs' (w.at d) sl), ops) ∧ t' = t ++ ops ∧ gs'.size = gs.size ∧ Two P c Low own z Fin vs j 0 nb k Bd' gs' a' b (w.at d) t' q := by
  obtain ⟨es, hcomm, hes⟩ := (hst (w.at d) (Oth.at ..)).comm
  have hchan : (w.at d).heap[c]? = some (.chan 0 #[] false k k false) := H.chan
  have hbs : b.status ≠ .blocked := by
    rcases H.B.status with ⟨e, _⟩ | ⟨_, e⟩
    · rw [e]; simp
    · omega
  have hp : partners (gs.setIfInBounds 0 ph) c true = [] := partners_nil fun x y hy => by
    rcases getElem?_stand gs 0 x y hy with ⟨_, rfl⟩ | ⟨hx, hy⟩
    · exact offersAt_ph c true
    · by_cases e : x = j
      · subst e
        rw [H.hj] at hy
        cases hy
        exact offersAt_of_not_blocked hbs c true
      · exact two_others H hx e hy c true
  have hr := crowd_waits (P := P) (gs := gs) (w := w.at d) (sl := sl) (i := 0) (g := a) (cases := #[rcase c z]) (shape := .recv true) H.h0 hcomm (fun cc hcc => by
    simp only [List.mem_toArray, List.mem_singleton] at hcc
    subst hcc
    exact ways_recv_none hchan hp)
  obtain ⟨Bd', hB', htr⟩ := tr_own0 (fn := a.frame.fn) (pos := a.frame.place) H.ne (H.tr.world (Oth.at c Low own true w d)) hes
  have h0 := (Array.getElem?_eq_some_iff.1 H.h0).1
  refine ⟨_, parked (core a) #[rcase c z] (.recv true), _, Bd', _, hr, rfl, by simp, Array.getElem?_setIfInBounds_self_of_lt h0, ?_, H.ne, fun i g hi0 hij hg => ?_, fun i hi => ?_, hchan, htr, Nat.lt_of_lt_of_le H.low hB', .inr ⟨rfl, a, rfl, fun w₁ h₁ => hst w₁ ((Oth.at ..).trans h₁)⟩, H.B.rely (Oth.at ..), by omega⟩
  · rw [Array.getElem?_setIfInBounds_ne (fun e => H.ne e.symm)]
    exact H.hj
  · rw [Array.getElem?_setIfInBounds_ne (fun e => hi0 e.symm)] at hg
    rw [Deaf_other t (fun e => hi0 e.symm) _ ofEvents_g]
    exact H.old i g hi0 hij hg
  · simp only [Array.size_setIfInBounds] at hi
    rw [Deaf_other t (Nat.ne_of_lt (Nat.lt_of_lt_of_le h0 hi)) _ ofEvents_g]
    exact H.above i hi

/-- GOROUTINE j COMES TO A SEND, AND NOBODY IS THERE: it is parked. -/
theorem two_parkB {v : Value} {vs' : List Value} (H : Two P c Low own z Fin (v :: vs') j na nb k Bd gs a b w t q) {d : Nat} {sl : Option (Nat × Nat)} (ha : 0 < na) (hst : AtSendW P c Low own v (SendsW P c Low own vs') b (w.at d)) :
    ∃ gs' b' t' Bd' ops, runT P (crowd gs (w.at d) sl) j = (.next (crowd gs' (w.at d) sl), ops) ∧ t' = t ++ ops ∧ gs'.size = gs.size ∧ Two P c Low own z Fin (v :: vs') j na 0 k Bd' gs' a b' (w.at d) t' q := by
  obtain ⟨_, z', es, hcomm, hes, hnext⟩ := hst
  have hchan : (w.at d).heap[c]? = some (.chan 0 #[] false k k false) := H.chan
  have hj0 : (j == 0) = false := by simp [H.ne]
  have has : a.status ≠ .blocked := by
    rcases H.A.status with ⟨e, _⟩ | ⟨_, e⟩
    · rw [e]; simp
    · omega
  have hp : partners (gs.setIfInBounds j ph) c false = [] := partners_nil fun x y hy => by
    rcases getElem?_stand gs j x y hy with ⟨_, rfl⟩ | ⟨hx, hy⟩
    · exact offersAt_ph c false
    · by_cases e : x = 0
      · subst e
        rw [H.h0] at hy
        cases hy
        exact offersAt_of_not_blocked has c false
      · exact two_others H e hx hy c false
  have hr := crowd_waits (P := P) (gs := gs) (w := w.at d) (sl := sl) (i := j) (g := b) (cases := #[scase c v z']) (shape := .send) H.hj (by rw [hj0]; exact hcomm) (fun cc hcc => by
    simp only [List.mem_toArray, List.mem_singleton] at hcc
    subst hcc
    exact ways_send_none hchan (by simp) hp)
  obtain ⟨Bd', hB', htr⟩ := tr_ownJ (fn := b.frame.fn) (pos := b.frame.place) H.ne (H.tr.world (Oth.at c Low own true w d)) hes
  have hlt := (Array.getElem?_eq_some_iff.1 H.hj).1
  refine ⟨_, parked (core b) #[scase c v z'] .send, _, Bd', _, hr, rfl, by simp, ?_, Array.getElem?_setIfInBounds_self_of_lt hlt, H.ne, fun i g hi0 hij hg => ?_, fun i hi => ?_, hchan, htr, Nat.lt_of_lt_of_le H.low hB', H.A.rely (Oth.at ..), .inr ⟨rfl, v, vs', z', b, rfl, rfl, hnext⟩, by omega⟩
  · rw [Array.getElem?_setIfInBounds_ne H.ne]
    exact H.h0
  · rw [Array.getElem?_setIfInBounds_ne (fun e => hij e.symm)] at hg
    rw [Deaf_other t (fun e => hij e.symm) _ ofEvents_g]
    exact H.old i g hi0 hij hg
  · simp only [Array.size_setIfInBounds] at hi
    rw [Deaf_other t (Nat.ne_of_lt (Nat.lt_of_lt_of_le hlt hi)) _ ofEvents_g]
    exact H.above i hi

theorem tr_none {u : Trace} (h : TI j (TouchIn Low own true w) (TouchIn Low own false w) Bd t) (hu : ∀ op ∈ u, op.act.touch? = none ∧ (∀ g d, deafStep g d op = d) ∧ op.act.low Bd) : TI j (TouchIn Low own true w) (TouchIn Low own false w) Bd (t ++ u) :=
  h.appNone (fun op hop => (hu op hop).1) (Deaf_quiet fun op hop => (hu op hop).2.1 0) (Deaf_quiet fun op hop => (hu op hop).2.1 j) fun op hop => (hu op hop).2.2
theorem four_ops {p q' : Nat} {f1 f2 f3 f4 : FuncId} {s1 s2 s3 s4 : String} {n : Nat} (hc : c < Bd) : ∀ op ∈ (#[{ g := p, fn := f1, pos := s1, act := .send c n }, { g := q', fn := f2, pos := s2, act := .recv c n 0 }, { g := p, fn := f3, pos := s3, act := .sendDone c n }, { g := q', fn := f4, pos := s4, act := .recvDone c n }] : Array MemOp),
    op.act.touch? = none ∧ (∀ g d, deafStep g d op = d) ∧ op.act.low Bd := by
  intro op hop
  simp only [List.mem_toArray, List.mem_cons, List.not_mem_nil, or_false] at hop
  rcases hop with rfl | rfl | rfl | rfl <;> exact ⟨rfl, fun _ _ => rfl, hc⟩
theorem deaf_four {p q' x : Nat} {f1 f2 f3 f4 : FuncId} {s1 s2 s3 s4 : String} {n : Nat} (t : Trace) : Deaf (t ++ #[{ g := p, fn := f1, pos := s1, act := .send c n }, { g := q', fn := f2, pos := s2, act := .recv c n 0 }, { g := p, fn := f3, pos := s3, act := .sendDone c n }, { g := q', fn := f4, pos := s4, act := .recvDone c n }]) x = Deaf t x :=
  Deaf_quiet fun op hop => (four_ops (c := c) (Bd := c + 1) (Nat.lt_succ_self c) op hop).2.1 x

/-- GOROUTINE 0 COMES TO ITS RECEIVE, AND j WAITS THERE WITH v. -/
theorem two_meetA {v : Value} {vs' : List Value} (hcL : c < Low) (H : Two P c Low own z Fin (v :: vs') j na nb k Bd gs a b w t q) {d : Nat} {sl : Option (Nat × Nat)} {g : Goroutine} {z' : Value} (hbp : b = parked (core g) #[scase c v z'] .send)
    (hbn : ∀ w₁, Oth c Low own false w w₁ → SendsW P c Low own vs' (Conc.served (core g) undef) w₁) (hst : StopAW P c Low own z Fin (v :: vs') a (w.at d)) :
    ∃ gs' a' b' w' t' na' nb' Bd' ops, runT P (crowd gs (w.at d) sl) 0 = (.next (crowd gs' w' sl), ops) ∧ t' = t ++ ops ∧ Two P c Low own z Fin vs' j na' nb' (k + 1) Bd' gs' a' b' w' t' q := by
  obtain ⟨es, hcomm, hes⟩ := hst.comm
  have hchan : (w.at d).heap[c]? = some (.chan 0 #[] false k k false) := H.chan
  have hne : j ≠ 0 := H.ne
  have hgj : (gs.setIfInBounds 0 ph)[j]? = some b := stand_get hne H.hj
  have hp : partners (gs.setIfInBounds 0 ph) c true = [(j, 0)] := by
    rw [partners_one hgj fun x y hx hy => ?_, hbp, offersAt_parked_send]
    · simp
    · rcases getElem?_stand gs 0 x y hy with ⟨_, rfl⟩ | ⟨hx0, hy⟩
      · exact offersAt_ph c true
      · exact two_others H hx0 hx hy c true
  have hr := crowd_recv_meets (P := P) (gs := gs) (w := w.at d) (sl := sl) (i := 0) (g := a) (shape := .recv true) (blocking := true) H.h0 hcomm hchan hne (by rw [H.hj, hbp]) hp
  rw [finishComm_send, finishComm_recv] at hr
  have hO : ∀ who, Oth c Low own who w ((w.at d).setChan c 0 #[] false (k + 1) (k + 1) false) := fun who => (Oth.at ..).trans (Oth.chan hcL own who _ _ _ _ _ _ _)
  obtain ⟨Bd', hB', htr⟩ := tr_own0 (fn := a.frame.fn) (pos := a.frame.place) H.ne (H.tr.world (Oth.at c Low own true w d)) hes
  have htr2 := tr_none (htr.world (Oth.chan hcL own true (w.at d) 0 #[] false (k + 1) (k + 1) false)) (four_ops (p := j) (q' := 0) (f1 := (core g).frame.fn) (f2 := (core a).frame.fn) (f3 := (core g).frame.fn) (f4 := (core a).frame.fn) (s1 := (core g).frame.place) (s2 := (core a).frame.place) (s3 := (core g).frame.place) (s4 := (core a).frame.place) (n := k) (Nat.lt_of_lt_of_le H.low hB'))
  have h0 := (Array.getElem?_eq_some_iff.1 H.h0).1
  have hlt := (Array.getElem?_eq_some_iff.1 H.hj).1
  obtain ⟨n1, hn1⟩ := (recvsW_iff P c Low own z Fin vs' _ _).1 (hst.cons _ (Oth.chan hcL own true (w.at d) 0 #[] false (k + 1) (k + 1) false))
  obtain ⟨n2, hn2⟩ := (sendsW_iff P c Low own vs' _ _).1 (hbn _ (hO false))
  refine ⟨_, _, _, _, _, n1 + 1, n2 + 1, Bd', _, hr, rfl, ?_, ?_, H.ne, fun i y hi0 hij hg => ?_, fun i hi => ?_, chan_set hchan, by rw [← Array.append_assoc]; exact htr2, Nat.lt_of_lt_of_le H.low hB', .inl ⟨n1, rfl, hn1⟩, .inl ⟨n2, rfl, hn2⟩, by omega⟩
  · exact Array.getElem?_setIfInBounds_self_of_lt (by simpa using h0)
  · rw [Array.getElem?_setIfInBounds_ne (fun e => hne e.symm)]
    exact Array.getElem?_setIfInBounds_self_of_lt hlt
  · rw [Array.getElem?_setIfInBounds_ne (fun e => hi0 e.symm), Array.getElem?_setIfInBounds_ne (fun e => hij e.symm)] at hg
    rw [← Array.append_assoc, deaf_four, Deaf_other t (fun e => hi0 e.symm) _ ofEvents_g]
    exact H.old i y hi0 hij hg
  · simp only [Array.size_setIfInBounds] at hi
    rw [← Array.append_assoc, deaf_four, Deaf_other t (Nat.ne_of_lt (Nat.lt_of_lt_of_le h0 hi)) _ ofEvents_g]
    exact H.above i hi

/-- GOROUTINE j COMES TO A SEND, AND GOROUTINE 0 WAITS THERE. -/
theorem two_meetB {v : Value} {vs' : List Value} (hcL : c < Low) (H : Two P c Low own z Fin (v :: vs') j na nb k Bd gs a b w t q) {d : Nat} {sl : Option (Nat × Nat)} {g : Goroutine} (hap : a = parked (core g) #[rcase c z] (.recv true))
    (han : ∀ w₁, Oth c Low own true w w₁ → StopAW P c Low own z Fin (v :: vs') g w₁) (hst : AtSendW P c Low own v (SendsW P c Low own vs') b (w.at d)) :
    ∃ gs' a' b' w' t' na' nb' Bd' ops, runT P (crowd gs (w.at d) sl) j = (.next (crowd gs' w' sl), ops) ∧ t' = t ++ ops ∧ Two P c Low own z Fin vs' j na' nb' (k + 1) Bd' gs' a' b' w' t' q := by
  obtain ⟨_, z', es, hcomm, hes, hnext⟩ := hst
  have hchan : (w.at d).heap[c]? = some (.chan 0 #[] false k k false) := H.chan
  have hne : j ≠ 0 := H.ne
  have hj0 : (j == 0) = false := by simp [H.ne]
  have hg0 : (gs.setIfInBounds j ph)[0]? = some a := stand_get (fun e => hne e.symm) H.h0
  have hp : partners (gs.setIfInBounds j ph) c false = [(0, 0)] := by
    rw [partners_one hg0 fun x y hx hy => ?_, hap, offersAt_parked_recv]
    · simp
    · rcases getElem?_stand gs j x y hy with ⟨_, rfl⟩ | ⟨hxj, hy⟩
      · exact offersAt_ph c false
      · exact two_others H hx hxj hy c false
  have hr := crowd_send_meets (P := P) (gs := gs) (w := w.at d) (sl := sl) (i := j) (g := b) (shape := .send) (blocking := true) H.hj (by rw [hj0]; exact hcomm) hchan (fun e => hne e.symm) (by rw [H.h0, hap]) hp
  rw [finishComm_send, finishComm_recv] at hr
  have hO : ∀ who, Oth c Low own who w ((w.at d).setChan c 0 #[] false (k + 1) (k + 1) false) := fun who => (Oth.at ..).trans (Oth.chan hcL own who _ _ _ _ _ _ _)
  obtain ⟨Bd', hB', htr⟩ := tr_ownJ (fn := b.frame.fn) (pos := b.frame.place) H.ne (H.tr.world (Oth.at c Low own true w d)) hes
  have htr2 := tr_none (htr.world (Oth.chan hcL own true (w.at d) 0 #[] false (k + 1) (k + 1) false)) (four_ops (p := j) (q' := 0) (f1 := (core b).frame.fn) (f2 := (core g).frame.fn) (f3 := (core b).frame.fn) (f4 := (core g).frame.fn) (s1 := (core b).frame.place) (s2 := (core g).frame.place) (s3 := (core b).frame.place) (s4 := (core g).frame.place) (n := k) (Nat.lt_of_lt_of_le H.low hB'))
  have h0 := (Array.getElem?_eq_some_iff.1 H.h0).1
  have hlt := (Array.getElem?_eq_some_iff.1 H.hj).1
  obtain ⟨n1, hn1⟩ := (recvsW_iff P c Low own z Fin vs' _ _).1 ((han _ (Oth.refl ..)).cons _ (hO true))
  obtain ⟨n2, hn2⟩ := (sendsW_iff P c Low own vs' _ _).1 (hnext _ (Oth.chan hcL own false (w.at d) 0 #[] false (k + 1) (k + 1) false))
  refine ⟨_, _, _, _, _, n1 + 1, n2 + 1, Bd', _, hr, rfl, ?_, ?_, H.ne, fun i y hi0 hij hg => ?_, fun i hi => ?_, chan_set hchan, by rw [← Array.append_assoc]; exact htr2, Nat.lt_of_lt_of_le H.low hB', .inl ⟨n1, rfl, hn1⟩, .inl ⟨n2, rfl, hn2⟩, by omega⟩
  · rw [Array.getElem?_setIfInBounds_ne hne]
    exact Array.getElem?_setIfInBounds_self_of_lt h0
  · exact Array.getElem?_setIfInBounds_self_of_lt (by simpa using hlt)
  · rw [Array.getElem?_setIfInBounds_ne (fun e => hij e.symm), Array.getElem?_setIfInBounds_ne (fun e => hi0 e.symm)] at hg
    rw [← Array.append_assoc, deaf_four, Deaf_other t (fun e => hij e.symm) _ ofEvents_g]
    exact H.old i y hi0 hij hg
  · simp only [Array.size_setIfInBounds] at hi
    rw [← Array.append_assoc, deaf_four, Deaf_other t (Nat.ne_of_lt (Nat.lt_of_lt_of_le hlt hi)) _ ofEvents_g]
    exact H.above i hi

/-! ### behind the close -/

/-- THE STATE behind the close. -/
structure Clo (P : Program) (c Low : Nat) (own : Obj → Bool) (z : Value) (Fin : Goroutine → World → Prop) (n k m Bd : Nat) (gs : Array Goroutine) (a : Goroutine) (w : World) (t : Trace) (q : Nat → Nat) : Prop where
  h0 : gs[0]? = some a
  old : Leavers P t gs q
  chan : w.heap[c]? = some (.chan 0 #[] true k k false)
  tr : TC c m (TouchIn Low own false w) Bd t
  low : c < Bd
  A : Goes P true (Oth c Low own true) (DOwn c Low own true) (StopAW P c Low own z Fin []) n a w

theorem clo_comes {n m : Nat} (H : Clo P c Low own z Fin n k m Bd gs a w t q) (sl : Option (Nat × Nat)) : Comes0 P Fin gs w sl t := by
  generalize hM : n + sumTo gs.size q = M
  induction M using Nat.strongRecOn generalizing n Bd gs a w t q sl with
  | ind M ih =>
    have hrun : a.status = .running := H.A.running (fun _ _ => StopAW.running) w (Oth.refl ..)
    obtain ⟨i, g, d, sl', hi, hg, hst⟩ := crowd_pick (P := P) (w := w) (sl := sl) (leavers_awake H.h0 hrun H.old) ⟨0, a, H.h0, hrun⟩
    have hlt : i < gs.size := (Array.getElem?_eq_some_iff.1 hi).1
    cases i with
    | zero =>
      have e : g = a := Option.some.inj (hi.symm.trans H.h0)
      subst e
      rcases H.A.cases with hstop | ⟨n', rfl, hstep⟩
      · -- it finds the channel closed
        have hat := hstop (w.at d) (Oth.at ..)
        obtain ⟨es, hcomm, hes⟩ := hat.comm
        have hchan : (w.at d).heap[c]? = some (.chan 0 #[] true k k false) := H.chan
        have hp : partners (gs.setIfInBounds 0 ph) c true = [] := partners_nil fun x y hy => by
          rcases getElem?_stand gs 0 x y hy with ⟨_, rfl⟩ | ⟨hx, hy⟩
          · exact offersAt_ph c true
          · exact offersAt_of_not_blocked (fun hb => by rcases (H.old.old x y (Nat.pos_of_ne_zero hx) hy).status with e | e <;> rw [e] at hb <;> cases hb) c true
        have hr := crowd_recv_closed (P := P) (gs := gs) (w := w.at d) (sl := sl') (i := 0) (g := g) (shape := .recv true) (blocking := true) H.h0 hcomm hchan hp
        rw [finishComm_recv] at hr
        obtain ⟨C, hC⟩ := low_all es.toList
        have htr : TC c m (TouchIn Low own false (w.at d)) (max Bd C) (t ++ MemOp.ofEvents 0 g.frame.fn g.frame.place es) :=
          (H.tr.mono (B' := TouchIn Low own false (w.at d)) (fun _ x => x.oth (Oth.at c Low own true w d)) (Nat.le_max_left _ _)).app0 (touch_apart (w.at d)) ofEvents_g (fun op hop b hb hm => by
            obtain ⟨e, hx, rfl⟩ := Go.Conc.mem_ofEvents hop
            exact (hes e hx).2 b hb hm) (deaf_quietE fun e x => (hes e x).1) fun op hop => by
            obtain ⟨e, hx, rfl⟩ := Go.Conc.mem_ofEvents hop
            exact MemAct.low_mono (Nat.le_max_right _ _) (hC e (Array.mem_toList_iff.2 hx))
        refine Comes0.one (hst.trans hr) ?_
        refine ⟨0, _, _, _, _, _, q, max Bd C, rfl, Array.getElem?_setIfInBounds_self_of_lt hlt, hat.nil _ (Oth.refl ..), ⟨fun x y hx hy => ?_, fun x hx => ?_⟩, by rw [← Array.append_assoc]; exact htr.take (Nat.lt_of_lt_of_le H.low (Nat.le_max_left _ _)) _ _⟩
        · have hne : 0 ≠ x := Nat.ne_of_lt hx
          rw [Array.getElem?_setIfInBounds_ne hne] at hy
          rw [← Array.append_assoc, Deaf_other _ hne _ (fun op hop => by simp only [List.mem_toArray, List.mem_singleton] at hop; subst hop; rfl), Deaf_other t hne _ ofEvents_g]
          exact H.old.old x y hx hy
        · simp only [Array.size_setIfInBounds] at hx
          have hne : 0 ≠ x := Nat.ne_of_lt (Nat.lt_of_lt_of_le hlt hx)
          rw [← Array.append_assoc, Deaf_other _ hne _ (fun op hop => by simp only [List.mem_toArray, List.mem_singleton] at hop; subst hop; rfl), Deaf_other t hne _ ofEvents_g]
          exact H.old.above x hx
      · obtain ⟨a', w', es, hgo, ⟨hoth, hch, hev⟩, hg'⟩ := hstep (w.at d) (Oth.at ..)
        have hr := runT_crowd_go (P := P) (sl := sl') (i := 0) hi hgo
        have hw : Oth c Low own false w w' := (Oth.at ..).trans hoth
        obtain ⟨C, hC⟩ := low_all es.toList
        refine Comes0.one (hst.trans hr) (ih (n' + sumTo gs.size q) (by omega) (n := n') (q := q) (Bd := max Bd C) ⟨get_self H.h0, leavers_zero hlt H.old, hch.trans H.chan, ?_, Nat.lt_of_lt_of_le H.low (Nat.le_max_left _ _), hg'⟩ sl' (by simp))
        exact (H.tr.mono (B' := TouchIn Low own false w') (fun _ x => x.oth hw) (Nat.le_max_left _ _)).app0 (touch_apart w') ofEvents_g (fun op hop b hb hm => by
            obtain ⟨e, hx, rfl⟩ := Go.Conc.mem_ofEvents hop
            exact (hev e hx).2 b hb hm) (deaf_quietE fun e x => (hev e x).1) fun op hop => by
            obtain ⟨e, hx, rfl⟩ := Go.Conc.mem_ofEvents hop
            exact MemAct.low_mono (Nat.le_max_right _ _) (hC e (Array.mem_toList_iff.2 hx))
    | succ i =>
      have hq := H.old.old (i + 1) g (Nat.succ_pos i) hi
      cases hqi : q (i + 1) with
      | zero =>
        rw [hqi] at hq
        rw [hq.1] at hg
        cases hg
      | succ k' =>
        rw [hqi] at hq
        rcases hq with ⟨hf, _⟩ | ⟨_, g', es, hm, hstp, hq'⟩
        · rw [hf] at hg
          cases hg
        have hr := runT_crowd_go (P := P) (sl := sl') (i := i + 1) hi (hstp (w.at d))
        have e2 : sumTo gs.size (upd q (i + 1) k') + q (i + 1) = sumTo gs.size q + k' := sumTo_upd q k' id hlt
        rw [hqi] at e2
        have hne : i + 1 ≠ 0 := by omega
        refine Comes0.one (hst.trans hr) (ih (n + sumTo gs.size (upd q (i + 1) k')) (by omega) (n := n) (w := w.at d) (q := upd q (i + 1) k') (Bd := Bd) ⟨?_, leavers_slip H.old hlt hq', H.chan, ?_, H.low, H.A.rely oth_trans (Oth.at ..)⟩ sl' (by simp))
        · rw [get_other hne, H.h0]
          simp [woken_run hrun]
        · refine (H.tr.mono (B' := TouchIn Low own false (w.at d)) (fun _ x => x.oth (Oth.at c Low own true w d)) (Nat.le_refl _)).appNone (fun op hop => ?_) (Deaf_other t hne _ ofEvents_g) fun op hop => ?_
          · obtain ⟨e, he, rfl⟩ := Go.Conc.mem_ofEvents hop
            exact touch_mute (hm e he)
          · obtain ⟨e, he, rfl⟩ := Go.Conc.mem_ofEvents hop
            exact low_mute (hm e he) Bd

/-- GOROUTINE j CLOSES THE CHANNEL. -/
theorem two_close (hcL : c < Low) (H : Two P c Low own z Fin [] j na nb k Bd gs a b w t q) {d : Nat} {sl : Option (Nat × Nat)} (hst : AtCloseW P c Low own b (w.at d)) :
    ∃ gs' a' w' t' n m Bd' q' ops, runT P (crowd gs (w.at d) sl) j = (.next (crowd gs' w' sl), ops) ∧ t' = t ++ ops ∧ Clo P c Low own z Fin n k m Bd' gs' a' w' t' q' := by
  obtain ⟨_, hmw, g₂, es, n, hgo, hes, hb1, hb2, hq⟩ := hst
  have hchan : (w.at d).heap[c]? = some (.chan 0 #[] false k k false) := H.chan
  have hj0 : (j == 0) = false := by simp [H.ne]
  have hr := runT_crowd_go (P := P) (sl := sl) (i := j) H.hj (by rw [hj0]; exact hgo k hchan)
  generalize hw' : (w.at d).setChan c 0 #[] true k k false = w' at hr
  have hO : ∀ who, Oth c Low own who (w.at d) w' := fun who => hw' ▸ Oth.chan hcL own who _ _ _ _ _ _ _
  have hO2 : ∀ who, Oth c Low own who w w' := fun who => (Oth.at ..).trans (hO who)
  have hchan' : w'.heap[c]? = some (.chan 0 #[] true k k false) := hw' ▸ chan_set hchan
  have hlt := (Array.getElem?_eq_some_iff.1 H.hj).1
  have h0 := (Array.getElem?_eq_some_iff.1 H.h0).1
  -- the trace
  obtain ⟨Bd', hB', htr⟩ := tr_ownJ (fn := b.frame.fn) (pos := b.frame.place) (w' := w') H.ne (H.tr.world (hO2 true)) (fun e he => ⟨(hes e he).1, fun x hx hm => ((hes e he).2 x hx hm).oth (hO true)⟩)
  have esplit : MemOp.ofEvents j b.frame.fn b.frame.place (es.push ⟨.obj c, true, true⟩) = MemOp.ofEvents j b.frame.fn b.frame.place es ++ #[{ g := j, fn := b.frame.fn, pos := b.frame.place, act := .close c }] := by
    rw [ofEvents_eq, ofEvents_eq, Array.map_push]
    apply Array.ext'
    simp [MemAct.ofEvent]
  have hone : ∀ op ∈ (#[{ g := j, fn := b.frame.fn, pos := b.frame.place, act := .close c }] : Array MemOp), op.act.touch? = none ∧ (∀ g d, deafStep g d op = d) ∧ op.act.low Bd' := by
    intro op hop
    simp only [List.mem_toArray, List.mem_singleton] at hop
    subst hop
    exact ⟨rfl, fun _ _ => rfl, Nat.lt_of_lt_of_le H.low hB'⟩
  have htr2 := tr_none htr hone
  have hclose := TI.close (c := c) (m := (t ++ MemOp.ofEvents j b.frame.fn b.frame.place es).size) htr2 (op := { g := j, fn := b.frame.fn, pos := b.frame.place, act := .close c }) (by simp) rfl rfl (by simp [Nat.add_assoc]) (by rw [deaf_old (Nat.le_refl _)]; exact htr.hearsJ)
  -- the receiver
  have hA : ∃ n', Goes P true (Oth c Low own true) (DOwn c Low own true) (StopAW P c Low own z Fin []) n' (woken P b g₂ w' a) w' := by
    rcases H.A.rely (hO2 true) with ⟨k', _, h⟩ | ⟨_, g, rfl, h⟩
    · refine ⟨k', ?_⟩
      rw [woken_run (h.running (fun _ _ => StopAW.running) w' (Oth.refl ..))]
      exact h
    · refine ⟨0, ?_⟩
      have e : woken P b g₂ w' (parked (core g) #[rcase c z] (.recv true)) = { parked (core g) #[rcase c z] (.recv true) with status := .running } := by
        unfold Go.Conc.woken
        rw [if_pos (by simp [hmw, hb1, hb2])]
        exact again_recv_closed hchan'
      rw [e]
      exact fun w₁ h₁ => (h w₁ h₁).tries _ _
  obtain ⟨n', hA⟩ := hA
  refine ⟨_, woken P b g₂ w' a, w', _, n', _, Bd', upd q j n, _, hr, rfl, ?_, ⟨fun x y hx hy => ?_, fun x hx => ?_⟩, hchan', by rw [esplit, ← Array.append_assoc]; exact hclose, Nat.lt_of_lt_of_le H.low hB', hA⟩
  · rw [get_other H.ne, H.h0]
    rfl
  · by_cases e : j = x
    · subst e
      rw [get_self H.hj] at hy
      cases hy
      rw [upd_same, esplit, ← Array.append_assoc, htr2.hearsJ]
      exact hq
    · rw [get_other e] at hy
      obtain ⟨y', hy', rfl⟩ := Option.map_eq_some_iff.1 hy
      have hq' := H.old x y' (Nat.ne_of_gt hx) (fun h => e h.symm) hy'
      rw [woken_quitsD hq', Deaf_other t e _ ofEvents_g, upd_ne q n (fun h => e h.symm)]
      exact hq'
  · simp only [Array.size_setIfInBounds, Array.size_map] at hx
    rw [Deaf_other t (Nat.ne_of_lt (Nat.lt_of_lt_of_le hlt hx)) _ ofEvents_g]
    exact H.above x hx

theorem two_awake (H : Two P c Low own z Fin vs j na nb k Bd gs a b w t q) : ∀ g ∈ gs, awake g := by
  intro g hg
  obtain ⟨i, hi, rfl⟩ := Array.mem_iff_getElem.1 hg
  have hgi := Array.getElem?_eq_getElem hi
  by_cases e0 : i = 0
  · subst e0
    rw [H.h0] at hgi
    have e : gs[0] = a := (Option.some.inj hgi).symm
    rw [e]
    rcases H.A.status with ⟨h, _⟩ | ⟨h, _⟩
    · exact awake_of (.inl h)
    · exact awake_of (.inr (.inl h))
  · by_cases ej : i = j
    · subst ej
      rw [H.hj] at hgi
      have e : gs[i] = b := (Option.some.inj hgi).symm
      rw [e]
      rcases H.B.status with ⟨h, _⟩ | ⟨h, _⟩
      · exact awake_of (.inl h)
      · exact awake_of (.inr (.inl h))
    · exact awake_of ((H.old i _ e0 ej hgi).status.elim .inl fun x => .inr (.inr x))

/-- ████ WHATEVER THE TAPE, THE CHANNEL IS FOUND CLOSED. ████ -/
theorem two_comes (hcL : c < Low) (H : Two P c Low own z Fin vs j na nb k Bd gs a b w t q) (sl : Option (Nat × Nat)) : Comes0 P Fin gs w sl t := by
  induction vs generalizing na nb k Bd gs a b w t q sl with
  | nil =>
    generalize hM : na + nb + sumTo gs.size q = M
    induction M using Nat.strongRecOn generalizing na nb k Bd gs a b w t q sl with
    | ind M ih =>
      obtain ⟨i, g, d, sl', hi, hg, hst⟩ := crowd_pick (P := P) (w := w) (sl := sl) (two_awake H) (by
        rcases H.A.status with ⟨h, _⟩ | ⟨_, h⟩
        · exact ⟨0, a, H.h0, h⟩
        · rcases H.B.status with ⟨h', _⟩ | ⟨_, h'⟩
          · exact ⟨j, b, H.hj, h'⟩
          · have := H.pos; omega)
      by_cases e0 : i = 0
      · subst e0
        have e : g = a := Option.some.inj (hi.symm.trans H.h0)
        subst e
        rcases H.A with ⟨k', rfl, hG⟩ | ⟨_, g', rfl, _⟩
        · rcases hG.cases with hstop | ⟨n', rfl, hstep⟩
          · have hnb : 0 < nb := by
              rcases H.B with ⟨x, rfl, _⟩ | ⟨_, v, vs', z', g, hv, _⟩
              · omega
              · cases hv
            obtain ⟨gs', a', t', Bd', ops, hr, rfl, hsz, H'⟩ := two_parkA H (d := d) (sl := sl') hnb hstop
            exact Comes0.one (hst.trans hr) (ih (0 + nb + sumTo gs.size q) (by omega) H' sl' (by rw [hsz]))
          · obtain ⟨a', w', es, hgo, hd, hg'⟩ := hstep (w.at d) (Oth.at ..)
            have hr := runT_crowd_go (P := P) (sl := sl') (i := 0) hi hgo
            obtain ⟨Bd', H'⟩ := two_stepA H hd (.inl ⟨n', rfl, hg'⟩) (Nat.succ_pos _)
            exact Comes0.one (hst.trans hr) (ih (n' + 1 + nb + sumTo gs.size q) (by omega) H' sl' (by simp))
        · cases hg
      · by_cases ej : i = j
        · subst ej
          have e : g = b := Option.some.inj (hi.symm.trans H.hj)
          subst e
          have hi0 : (i == 0) = false := by simp [e0]
          rcases H.B with ⟨k', rfl, hG⟩ | ⟨_, v, vs', z', g', hv, _⟩
          · rcases hG.cases with hstop | ⟨n', rfl, hstep⟩
            · obtain ⟨gs', a', w', t', n, m, Bd', q', ops, hr, rfl, H'⟩ := two_close hcL H (sl := sl') (hstop (w.at d) (Oth.at ..))
              exact Comes0.one (hst.trans hr) (clo_comes H' sl')
            · obtain ⟨b', w', es, hgo, hd, hg'⟩ := hstep (w.at d) (Oth.at ..)
              have hr := runT_crowd_go (P := P) (sl := sl') (i := i) hi (by rw [hi0]; exact hgo)
              obtain ⟨Bd', H'⟩ := two_stepB H hd (.inl ⟨n', rfl, hg'⟩) (Nat.succ_pos _)
              exact Comes0.one (hst.trans hr) (ih (na + (n' + 1) + sumTo gs.size q) (by omega) H' sl' (by simp))
          · cases hv
        · have hq := H.old i g e0 ej hi
          have hlt := (Array.getElem?_eq_some_iff.1 hi).1
          have hi0 : (i == 0) = false := by simp [e0]
          cases hqi : q i with
          | zero =>
            rw [hqi] at hq
            rw [hq.1] at hg
            cases hg
          | succ k' =>
            rw [hqi] at hq
            rcases hq with ⟨hf, _⟩ | ⟨_, g', es, hm, hstp, hq'⟩
            · rw [hf] at hg
              cases hg
            have hr := runT_crowd_go (P := P) (sl := sl') (i := i) hi (by rw [hi0]; exact hstp (w.at d))
            have e2 : sumTo gs.size (upd q i k') + q i = sumTo gs.size q + k' := sumTo_upd q k' id hlt
            rw [hqi] at e2
            exact Comes0.one (hst.trans hr) (ih (na + nb + sumTo gs.size (upd q i k')) (by omega) (two_slip H hi e0 ej hm hq') sl' (by simp))
  | cons v vs' ihv =>
    generalize hM : na + nb + sumTo gs.size q = M
    induction M using Nat.strongRecOn generalizing na nb k Bd gs a b w t q sl with
    | ind M ih =>
      obtain ⟨i, g, d, sl', hi, hg, hst⟩ := crowd_pick (P := P) (w := w) (sl := sl) (two_awake H) (by
        rcases H.A.status with ⟨h, _⟩ | ⟨_, h⟩
        · exact ⟨0, a, H.h0, h⟩
        · rcases H.B.status with ⟨h', _⟩ | ⟨_, h'⟩
          · exact ⟨j, b, H.hj, h'⟩
          · have := H.pos; omega)
      by_cases e0 : i = 0
      · subst e0
        have e : g = a := Option.some.inj (hi.symm.trans H.h0)
        subst e
        rcases H.A with ⟨k', rfl, hG⟩ | ⟨_, g', rfl, _⟩
        · rcases hG.cases with hstop | ⟨n', rfl, hstep⟩
          · rcases id H.B with ⟨x, rfl, _⟩ | ⟨_, v', vs'', z', g', hv, hbp, hbn⟩
            · obtain ⟨gs', a', t', Bd', ops, hr, rfl, hsz, H'⟩ := two_parkA H (d := d) (sl := sl') (Nat.succ_pos _) hstop
              exact Comes0.one (hst.trans hr) (ih (0 + (x + 1) + sumTo gs.size q) (by omega) H' sl' (by rw [hsz]))
            · cases hv
              obtain ⟨gs', a', b', w', t', na', nb', Bd', ops, hr, rfl, H'⟩ := two_meetA hcL H (d := d) (sl := sl') hbp hbn (hstop (w.at d) (Oth.at ..))
              exact Comes0.one (hst.trans hr) (ihv H' sl')
          · obtain ⟨a', w', es, hgo, hd, hg'⟩ := hstep (w.at d) (Oth.at ..)
            have hr := runT_crowd_go (P := P) (sl := sl') (i := 0) hi hgo
            obtain ⟨Bd', H'⟩ := two_stepA H hd (.inl ⟨n', rfl, hg'⟩) (Nat.succ_pos _)
            exact Comes0.one (hst.trans hr) (ih (n' + 1 + nb + sumTo gs.size q) (by omega) H' sl' (by simp))
        · cases hg
      · by_cases ej : i = j
        · subst ej
          have e : g = b := Option.some.inj (hi.symm.trans H.hj)
          subst e
          have hi0 : (i == 0) = false := by simp [e0]
          rcases H.B with ⟨k', rfl, hG⟩ | ⟨_, v', vs'', z', g', hv, rfl, _⟩
          · rcases hG.cases with hstop | ⟨n', rfl, hstep⟩
            · rcases id H.A with ⟨x, rfl, _⟩ | ⟨_, g', hap, han⟩
              · obtain ⟨gs', b', t', Bd', ops, hr, rfl, hsz, H'⟩ := two_parkB H (d := d) (sl := sl') (Nat.succ_pos _) (hstop (w.at d) (Oth.at ..))
                exact Comes0.one (hst.trans hr) (ih (x + 1 + 0 + sumTo gs.size q) (by omega) H' sl' (by rw [hsz]))
              · obtain ⟨gs', a', b', w', t', na', nb', Bd', ops, hr, rfl, H'⟩ := two_meetB hcL H (d := d) (sl := sl') hap han (hstop (w.at d) (Oth.at ..))
                exact Comes0.one (hst.trans hr) (ihv H' sl')
            · obtain ⟨b', w', es, hgo, hd, hg'⟩ := hstep (w.at d) (Oth.at ..)
              have hr := runT_crowd_go (P := P) (sl := sl') (i := i) hi (by rw [hi0]; exact hgo)
              obtain ⟨Bd', H'⟩ := two_stepB H hd (.inl ⟨n', rfl, hg'⟩) (Nat.succ_pos _)
              exact Comes0.one (hst.trans hr) (ih (na + (n' + 1) + sumTo gs.size q) (by omega) H' sl' (by simp))
          · cases hg
        · have hq := H.old i g e0 ej hi
          have hlt := (Array.getElem?_eq_some_iff.1 hi).1
          have hi0 : (i == 0) = false := by simp [e0]
          cases hqi : q i with
          | zero =>
            rw [hqi] at hq
            rw [hq.1] at hg
            cases hg
          | succ k' =>
            rw [hqi] at hq
            rcases hq with ⟨hf, _⟩ | ⟨_, g', es, hm, hstp, hq'⟩
            · rw [hf] at hg
              cases hg
            have hr := runT_crowd_go (P := P) (sl := sl') (i := i) hi (by rw [hi0]; exact hstp (w.at d))
            have e2 : sumTo gs.size (upd q i k') + q i = sumTo gs.size q + k' := sumTo_upd q k' id hlt
            rw [hqi] at e2
            exact Comes0.one (hst.trans hr) (ih (na + nb + sumTo gs.size (upd q i k')) (by omega) (two_slip H hi e0 ej hm hq') sl' (by simp))

/-- ████ THE PIPELINE, BESIDE LEAVERS: goroutine 0 stands at a go statement; behind it goroutine 0 receives, the child sends. ████ -/
theorem drive_pipe (hcL : c < Low) {child : Goroutine} {a a' : Goroutine} {w : World} (hrun : a.status = .running) {es : Array Event} (hes : ∀ e ∈ es, quietE e) (hgo : ∀ d, stepG P true a (w.at d) = .spawn a' child (w.at d) es)
    (hc : w.heap[c]? = some (.chan 0 #[] false 0 0 false)) (hA : RecvsW P c Low own z Fin vs a' w) (hB : SendsW P c Low own vs child w) : Drive P Fin a w := by
  intro d gs sl t q B h0 hL hP
  show Comes0 P Fin gs (w.at d) sl t
  generalize hM : sumTo gs.size q = M
  induction M using Nat.strongRecOn generalizing d gs sl t q B with
  | ind M ih =>
    obtain ⟨i, g, d', sl', hi, hg, hst⟩ := crowd_pick (P := P) (w := w.at d) (sl := sl) (leavers_awake h0 hrun hL) ⟨0, a, h0, hrun⟩
    have hlt : i < gs.size := (Array.getElem?_eq_some_iff.1 hi).1
    have hat : (w.at d).at d' = w.at d' := rfl
    rw [hat] at hst
    cases i with
    | zero =>
      have e : g = a := Option.some.inj (hi.symm.trans h0)
      subst e
      have hr := runT_crowd_spawn (P := P) (sl := sl') (i := 0) hi (hgo d')
      obtain ⟨B', hBB, hev⟩ := evL_some hes B
      have hP' : PastB B' (t ++ MemOp.ofEvents 0 g.frame.fn g.frame.place es) := (hP.mono hBB).own hev
      have hne : gs.size ≠ 0 := by omega
      have hD : ∀ x, x ≠ 0 → Deaf (t ++ MemOp.ofEvents 0 g.frame.fn g.frame.place es) x = Deaf t x := fun x hx => Deaf_other t (fun e => hx e.symm) _ ofEvents_g
      have hj0 : Deaf (t ++ MemOp.ofEvents 0 g.frame.fn g.frame.place es) gs.size = 0 := by rw [hD _ hne]; exact hL.above _ (Nat.le_refl _)
      have htr := TI.hire (A := TouchIn Low own true (w.at d')) (B := TouchIn Low own false (w.at d')) hP' hj0 hne g.frame.fn g.frame.place child.frame.fn
      obtain ⟨n1, hn1⟩ := (recvsW_iff P c Low own z Fin vs _ _).1 hA
      obtain ⟨n2, hn2⟩ := (sendsW_iff P c Low own vs _ _).1 hB
      have hops : ((MemOp.ofEvents 0 g.frame.fn g.frame.place es).push { g := 0, fn := g.frame.fn, pos := g.frame.place, act := .go gs.size }).push { g := gs.size, fn := child.frame.fn, pos := g.frame.place, act := .start } = MemOp.ofEvents 0 g.frame.fn g.frame.place es ++ #[{ g := 0, fn := g.frame.fn, pos := g.frame.place, act := .go gs.size }, { g := gs.size, fn := child.frame.fn, pos := g.frame.place, act := .start }] := by
        apply Array.ext'
        simp
      have hDq : ∀ x, Deaf (t ++ MemOp.ofEvents 0 g.frame.fn g.frame.place es ++ #[{ g := 0, fn := g.frame.fn, pos := g.frame.place, act := .go gs.size }, { g := gs.size, fn := child.frame.fn, pos := g.frame.place, act := .start }]) x = Deaf (t ++ MemOp.ofEvents 0 g.frame.fn g.frame.place es) x := fun x => Deaf_quiet fun op hop d => by
        simp only [List.mem_toArray, List.mem_cons, List.not_mem_nil, or_false] at hop
        rcases hop with rfl | rfl <;> rfl
      refine Comes0.one (hst.trans hr) (two_comes (w := w.at d') (j := gs.size) (na := n1 + 1) (nb := n2 + 1) (k := 0) (Bd := max B' (c + 1)) (a := a') (b := child) (q := q) hcL ⟨?_, ?_, hne, fun i y hi0 hij hy => ?_, fun i hi => ?_, hc, ?_, Nat.lt_of_lt_of_le (Nat.lt_succ_self c) (Nat.le_max_right _ _), (StA.rely (.inl ⟨n1, rfl, hn1⟩) (Oth.at ..)), (StB.rely (.inl ⟨n2, rfl, hn2⟩) (Oth.at ..)), by omega⟩ sl')
      · rw [Array.getElem?_push_lt (by simpa using hlt)]
        simp
      · have : (gs.setIfInBounds 0 a').size = gs.size := by simp
        rw [← this, Array.getElem?_push_size]
      · have hlt' : i < gs.size := by
          have := (Array.getElem?_eq_some_iff.1 hy).1
          simp at this
          omega
        rw [Array.getElem?_push_lt (by simpa using hlt')] at hy
        have hy' : gs[i]? = some y := by
          rw [Array.getElem?_eq_getElem hlt', ← hy]
          simp [Array.getElem_setIfInBounds_ne, Ne.symm hi0, hlt']
        rw [hops, ← Array.append_assoc, hDq, hD _ hi0]
        exact hL.old i y (Nat.pos_of_ne_zero hi0) hy'
      · simp only [Array.size_push, Array.size_setIfInBounds] at hi
        have hi0 : i ≠ 0 := by omega
        rw [hops, ← Array.append_assoc, hDq, hD _ hi0]
        exact hL.above i (by omega)
      · rw [hops, ← Array.append_assoc]
        exact htr.mono (fun _ x => x) (fun _ x => x) (Nat.le_max_left _ _)
    | succ i =>
      have hq := hL.old (i + 1) g (Nat.succ_pos i) hi
      cases hqi : q (i + 1) with
      | zero =>
        rw [hqi] at hq
        rw [hq.1] at hg
        cases hg
      | succ k =>
        rw [hqi] at hq
        rcases hq with ⟨hf, _⟩ | ⟨_, g', es, hm, hstp, hq'⟩
        · rw [hf] at hg
          cases hg
        have hr := runT_crowd_go (P := P) (sl := sl') (i := i + 1) hi (hstp (w.at d'))
        have e2 : sumTo gs.size (upd q (i + 1) k) + q (i + 1) = sumTo gs.size q + k := sumTo_upd q k id hlt
        rw [hqi] at e2
        have hne : i + 1 ≠ 0 := by omega
        exact Comes0.one (hst.trans hr) (ih (sumTo gs.size (upd q (i + 1) k)) (by omega) d' _ sl' (t ++ MemOp.ofEvents (i + 1) g.frame.fn g.frame.place es) (upd q (i + 1) k) B (by
          rw [get_other hne, h0]
          simp [woken_run hrun]) (leavers_slip (g := g) (g' := g') (w' := w.at d') hL hlt hq') (hP.mute hne hm) (by simp))
end
end Go.Proofs.YtifdhaiihlfomaaDoor
