/-
  The trace of two goroutines that work at once, each on memory of its own, over a channel that one of them closes and the other finds closed: no race; behind the close all is known to the one that found it. No program in sight.
-/
import Derived.Test.YtifdhaiihlfomaaDoorConCall
import Derived.Conc.TokenTrace
namespace Go.Proofs.YtifdhaiihlfomaaDoor
open Go Go.Conc
set_option linter.unusedVariables false

/-- TWO AT WORK, 0 and j: what both know; what 0 has touched since (A); what j has touched since (B). -/
structure TI (j : Nat) (A B : Touch → Prop) (Bd : Nat) (t : Trace) : Prop where
  clean : ∀ said, ¬ Race said t
  known : ∀ i a, touchAt t i = some a → a.loc.isMemory = true → (Knows t 0 i ∧ Knows t j i) ∨ (t.g? i = some 0 ∧ A a) ∨ (t.g? i = some j ∧ B a)
  hears0 : Deaf t 0 = 0
  hearsJ : Deaf t j = 0
  seen : ∀ op ∈ t, op.act.low Bd

/-- j HAS CLOSED the channel c (operation m) and does nothing more. -/
structure TC (c m : Nat) (B : Touch → Prop) (Bd : Nat) (t : Trace) : Prop where
  clean : ∀ said, ¬ Race said t
  known : ∀ i a, touchAt t i = some a → a.loc.isMemory = true → Knows t 0 i ∨ (Before t i m ∧ B a)
  hears0 : Deaf t 0 = 0
  seen : ∀ op ∈ t, op.act.low Bd
  closed : t.act? m = some (.close c)
  heard : t.heard m

/-- What the two touch is apart: where both touch a place neither writes. -/
def ApartT (A B : Touch → Prop) : Prop := ∀ a b, A a → B b → a.loc = b.loc → a.write = false ∧ b.write = false

section
variable {j c m Bd : Nat} {A A' B B' : Touch → Prop} {t u : Trace}

theorem own_of_g {i : Nat} {g : Nat} {x : MemOp} (hx : t[i]? = some x) (h : t.g? i = some g) : Knows t g i := by
  have : x.g = g := by
    have e : t.g? i = some x.g := g?_of hx
    rw [h] at e
    exact (Option.some.inj e).symm
  rw [← this]
  exact knows_own hx

theorem touch_at {i : Nat} {a : Touch} (h : touchAt t i = some a) : ∃ x, t[i]? = some x ∧ x.act.touch? = some a := touch_of h

theorem TI.mono {Bd' : Nat} (h : TI j A B Bd t) (hA : ∀ a, A a → A' a) (hB : ∀ a, B a → B' a) (hb : Bd ≤ Bd') : TI j A' B' Bd' t :=
  ⟨h.clean, fun i a hi hm => (h.known i a hi hm).imp id (Or.imp (fun x => ⟨x.1, hA a x.2⟩) fun x => ⟨x.1, hB a x.2⟩), h.hears0, h.hearsJ, fun op hop => MemAct.low_mono hb (h.seen op hop)⟩

/-- What is held of an old touch is held of it still. -/
theorem TI.old (h : TI j A B Bd t) {i : Nat} {a : Touch} {x : MemOp} (hx : t[i]? = some x) (hxa : x.act.touch? = some a) (hm : a.loc.isMemory = true) :
    (Knows (t ++ u) 0 i ∧ Knows (t ++ u) j i) ∨ ((t ++ u).g? i = some 0 ∧ A a) ∨ ((t ++ u).g? i = some j ∧ B a) := by
  have hlt := lt_size_of_getElem? hx
  rcases h.known i a (by rw [touchAt_of hx]; exact hxa) hm with ⟨h1, h2⟩ | ⟨h1, h2⟩ | ⟨h1, h2⟩
  · exact .inl ⟨h1.app u, h2.app u⟩
  · exact .inr (.inl ⟨by rw [g?_old hlt]; exact h1, h2⟩)
  · exact .inr (.inr ⟨by rw [g?_old hlt]; exact h1, h2⟩)

theorem TI.app0 (h : TI j A B Bd t) (hap : ApartT A B) (hj : j ≠ 0) (hu : ∀ op ∈ u, op.g = 0) (ht : ∀ op ∈ u, ∀ b, op.act.touch? = some b → b.loc.isMemory = true → A b) (hd : Deaf (t ++ u) 0 = Deaf t 0) (hl : ∀ op ∈ u, op.act.low Bd) : TI j A B Bd (t ++ u) := by
  refine ⟨fun said => noRace_append (h.clean said) hu fun i a ha op hop b hb hc => ?_, fun i a ha hm => ?_, hd.trans h.hears0, (Deaf_other t (fun e => hj e.symm) u hu).trans h.hearsJ, seen_app h.seen hl⟩
  · obtain ⟨hloc, hmem, hwr, _⟩ := hc
    obtain ⟨x, hx, hxa⟩ := touch_at ha
    rcases h.known i a ha hmem with ⟨h1, _⟩ | ⟨h1, _⟩ | ⟨_, h2⟩
    · exact h1
    · exact own_of_g hx h1
    · obtain ⟨w1, w2⟩ := hap b a (ht op hop b hb (hloc ▸ hmem)) h2 hloc.symm
      rw [w1, w2] at hwr
      rcases hwr with e | e <;> cases e
  · obtain ⟨x, hx, hxa⟩ := touch_at ha
    rcases getElem?_append_cases hx with ⟨_, hx'⟩ | ⟨_, hxu⟩
    · exact h.old hx' hxa hm
    · exact .inr (.inl ⟨by rw [g?_of hx, hu x hxu], ht x hxu a hxa hm⟩)

theorem TI.appJ (h : TI j A B Bd t) (hap : ApartT A B) (hj : j ≠ 0) (hu : ∀ op ∈ u, op.g = j) (ht : ∀ op ∈ u, ∀ b, op.act.touch? = some b → b.loc.isMemory = true → B b) (hd : Deaf (t ++ u) j = Deaf t j) (hl : ∀ op ∈ u, op.act.low Bd) : TI j A B Bd (t ++ u) := by
  refine ⟨fun said => noRace_append (h.clean said) hu fun i a ha op hop b hb hc => ?_, fun i a ha hm => ?_, (Deaf_other t hj u hu).trans h.hears0, hd.trans h.hearsJ, seen_app h.seen hl⟩
  · obtain ⟨hloc, hmem, hwr, _⟩ := hc
    obtain ⟨x, hx, hxa⟩ := touch_at ha
    rcases h.known i a ha hmem with ⟨_, h1⟩ | ⟨_, h2⟩ | ⟨h1, _⟩
    · exact h1
    · obtain ⟨w1, w2⟩ := hap a b h2 (ht op hop b hb (hloc ▸ hmem)) hloc
      rw [w1, w2] at hwr
      rcases hwr with e | e <;> cases e
    · exact own_of_g hx h1
  · obtain ⟨x, hx, hxa⟩ := touch_at ha
    rcases getElem?_append_cases hx with ⟨_, hx'⟩ | ⟨_, hxu⟩
    · exact h.old hx' hxa hm
    · exact .inr (.inr ⟨by rw [g?_of hx, hu x hxu], ht x hxu a hxa hm⟩)

theorem TI.appNone (h : TI j A B Bd t) (hn : ∀ op ∈ u, op.act.touch? = none) (hd0 : Deaf (t ++ u) 0 = Deaf t 0) (hdj : Deaf (t ++ u) j = Deaf t j) (hl : ∀ op ∈ u, op.act.low Bd) : TI j A B Bd (t ++ u) := by
  refine ⟨fun said => noRace_appendMute (h.clean said) hn, fun i a ha hm => ?_, hd0.trans h.hears0, hdj.trans h.hearsJ, seen_app h.seen hl⟩
  obtain ⟨x, hx, hxa⟩ := touch_at ha
  rcases getElem?_append_cases hx with ⟨_, hx'⟩ | ⟨_, hxu⟩
  · exact h.old hx' hxa hm
  · rw [hn x hxu] at hxa
    cases hxa

/-- A go STATEMENT of goroutine 0's, which knows all: the child j knows all, too. -/
theorem TI.hire (h : PastB Bd t) (hj0 : Deaf t j = 0) (hj : j ≠ 0) (f0 : FuncId) (p0 : String) (fj : FuncId) :
    TI j A B Bd (t ++ #[{ g := 0, fn := f0, pos := p0, act := .go j }, { g := j, fn := fj, pos := p0, act := .start }]) := by
  generalize hu : (#[{ g := 0, fn := f0, pos := p0, act := .go j }, { g := j, fn := fj, pos := p0, act := .start }] : Trace) = u
  have hall : ∀ op ∈ u, op.act.touch? = none ∧ (∀ g d, deafStep g d op = d) ∧ op.act.low Bd := by
    intro op hop
    subst hu
    simp only [List.mem_toArray, List.mem_cons, List.not_mem_nil, or_false] at hop
    rcases hop with rfl | rfl <;> exact ⟨rfl, fun _ _ => rfl, trivial⟩
  have e0 : (t ++ u)[t.size]? = some { g := 0, fn := f0, pos := p0, act := .go j } := by subst hu; simp
  have e1 : (t ++ u)[t.size + 1]? = some { g := j, fn := fj, pos := p0, act := .start } := by subst hu; simp
  have hq : ∀ g, ∀ op ∈ u, ∀ d, deafStep g d op = d := fun g op hop d => (hall op hop).2.1 g d
  have edge : HappensBefore (t ++ u) t.size (t.size + 1) :=
    Relation.TransGen.single (.inr ⟨.spawn (act?_of e0) (act?_of e1) (g?_of e1), ⟨0, g?_of e0, by rw [deaf_old (Nat.le_refl _)]; exact h.hears⟩, ⟨j, g?_of e1, by rw [deaf_quiet (hq j) 1 (by subst hu; simp)]; exact hj0⟩⟩)
  refine ⟨fun said => noRace_appendMute (h.clean said) fun op hop => (hall op hop).1, fun i a ha hm => ?_, (Deaf_quiet (hq 0)).trans h.hears, (Deaf_quiet (hq j)).trans hj0, seen_app h.seen fun op hop => (hall op hop).2.2⟩
  obtain ⟨x, hx, hxa⟩ := touch_at ha
  rcases getElem?_append_cases hx with ⟨_, hx'⟩ | ⟨_, hxu⟩
  · have hk : Knows t 0 i := (h.known i a (by rw [touchAt_of hx']; exact hxa) hm).elim id fun x => x.1.elim
    exact .inl ⟨hk.app u, t.size + 1, _, e1, rfl, .inr ((hk.hb_new (Nat.le_refl _) e0 rfl).trans edge)⟩
  · rw [(hall x hxu).1] at hxa
    cases hxa

/-- j's LAST OPERATION IS THE CLOSE. -/
theorem TI.close (h : TI j A B Bd t) {op : MemOp} (hm : t[m]? = some op) (hg : op.g = j) (ha : op.act = .close c) (hlast : m + 1 = t.size) (hd : t.deaf j m = 0) : TC c m B Bd t := by
  refine ⟨h.clean, fun i a hi hmem => ?_, h.hears0, h.seen, by rw [act?_of hm, ha], j, by rw [g?_of hm, hg], hd⟩
  obtain ⟨x, hx, hxa⟩ := touch_at hi
  rcases h.known i a hi hmem with ⟨h1, _⟩ | ⟨h1, _⟩ | ⟨h1, h2⟩
  · exact .inl h1
  · exact .inl (own_of_g hx h1)
  · refine .inr ⟨?_, h2⟩
    have hxg : x.g = j := by
      have e : t.g? i = some x.g := g?_of hx
      rw [h1] at e
      exact (Option.some.inj e).symm
    have hlt := lt_size_of_getElem? hx
    rcases Nat.lt_or_ge i m with h' | h'
    · exact .inr (hb_po h' hx hm (hxg.trans hg.symm))
    · exact .inl (by omega)

theorem TC.act_old (h : TC c m B Bd t) : m < t.size := lt_of_act? h.closed

theorem TC.keep (h : TC c m B Bd t) : (t ++ u).act? m = some (.close c) ∧ (t ++ u).heard m :=
  ⟨by rw [act?_old h.act_old]; exact h.closed, (heard_old h.act_old).2 h.heard⟩

theorem TC.old (h : TC c m B Bd t) {i : Nat} {a : Touch} {x : MemOp} (hx : t[i]? = some x) (hxa : x.act.touch? = some a) (hm : a.loc.isMemory = true) : Knows (t ++ u) 0 i ∨ (Before (t ++ u) i m ∧ B a) :=
  (h.known i a (by rw [touchAt_of hx]; exact hxa) hm).imp (·.app u) fun x => ⟨x.1.app u, x.2⟩

theorem TC.mono {Bd' : Nat} (h : TC c m B Bd t) (hB : ∀ a, B a → B' a) (hb : Bd ≤ Bd') : TC c m B' Bd' t :=
  ⟨h.clean, fun i a hi hm => (h.known i a hi hm).imp id fun x => ⟨x.1, hB a x.2⟩, h.hears0, fun op hop => MemAct.low_mono hb (h.seen op hop), h.closed, h.heard⟩

theorem TC.app0 (h : TC c m B Bd t) (hap : ApartT A B) (hu : ∀ op ∈ u, op.g = 0) (ht : ∀ op ∈ u, ∀ b, op.act.touch? = some b → b.loc.isMemory = true → A b) (hd : Deaf (t ++ u) 0 = Deaf t 0) (hl : ∀ op ∈ u, op.act.low Bd) : TC c m B Bd (t ++ u) := by
  refine ⟨fun said => noRace_append (h.clean said) hu fun i a ha op hop b hb hc => ?_, fun i a ha hm => ?_, hd.trans h.hears0, seen_app h.seen hl, h.keep.1, h.keep.2⟩
  · obtain ⟨hloc, hmem, hwr, _⟩ := hc
    rcases h.known i a ha hmem with h1 | ⟨_, h2⟩
    · exact h1
    · obtain ⟨w1, w2⟩ := hap b a (ht op hop b hb (hloc ▸ hmem)) h2 hloc.symm
      rw [w1, w2] at hwr
      rcases hwr with e | e <;> cases e
  · obtain ⟨x, hx, hxa⟩ := touch_at ha
    rcases getElem?_append_cases hx with ⟨_, hx'⟩ | ⟨_, hxu⟩
    · exact h.old hx' hxa hm
    · have := knows_own hx
      rw [hu x hxu] at this
      exact .inl this

theorem TC.appNone (h : TC c m B Bd t) (hn : ∀ op ∈ u, op.act.touch? = none) (hd0 : Deaf (t ++ u) 0 = Deaf t 0) (hl : ∀ op ∈ u, op.act.low Bd) : TC c m B Bd (t ++ u) := by
  refine ⟨fun said => noRace_appendMute (h.clean said) hn, fun i a ha hm => ?_, hd0.trans h.hears0, seen_app h.seen hl, h.keep.1, h.keep.2⟩
  obtain ⟨x, hx, hxa⟩ := touch_at ha
  rcases getElem?_append_cases hx with ⟨_, hx'⟩ | ⟨_, hxu⟩
  · exact h.old hx' hxa hm
  · rw [hn x hxu] at hxa
    cases hxa

/-- ████ GOROUTINE 0 FINDS THE CHANNEL CLOSED: all is known to it. ████ -/
theorem TC.take (h : TC c m B Bd t) (hc : c < Bd) (f0 : FuncId) (p0 : String) : PastB Bd (t ++ #[{ g := 0, fn := f0, pos := p0, act := .recvClosed c }]) := by
  generalize hu : (#[{ g := 0, fn := f0, pos := p0, act := .recvClosed c }] : Trace) = u
  have hall : ∀ op ∈ u, op.act.touch? = none ∧ (∀ g d, deafStep g d op = d) ∧ op.act.low Bd := by
    intro op hop
    subst hu
    simp only [List.mem_toArray, List.mem_cons, List.not_mem_nil, or_false] at hop
    subst hop
    exact ⟨rfl, fun _ _ => rfl, hc⟩
  have e0 : (t ++ u)[t.size]? = some { g := 0, fn := f0, pos := p0, act := .recvClosed c } := by subst hu; simp
  have edge : HappensBefore (t ++ u) m t.size :=
    Relation.TransGen.single (.inr ⟨.closed h.keep.1 (act?_of e0), h.keep.2, ⟨0, g?_of e0, by rw [deaf_old (Nat.le_refl _)]; exact h.hears0⟩⟩)
  have hk : ∀ i a, touchAt (t ++ u) i = some a → a.loc.isMemory = true → Knows (t ++ u) 0 i := by
    intro i a ha hm
    obtain ⟨x, hx, hxa⟩ := touch_at ha
    rcases getElem?_append_cases hx with ⟨_, hx'⟩ | ⟨_, hxu⟩
    · rcases h.old (u := u) hx' hxa hm with h1 | ⟨h1, _⟩
      · exact h1
      · exact ⟨t.size, _, e0, rfl, .inr (h1.hb edge)⟩
    · rw [(hall x hxu).1] at hxa
      cases hxa
  refine ⟨fun said => noRace_appendMute (h.clean said) fun op hop => (hall op hop).1, fun i a ha hm => .inl (hk i a ha hm), fun i g hg hne ⟨x, hx, hm, _⟩ => ?_, (Deaf_quiet fun op hop => (hall op hop).2.1 0).trans h.hears0, seen_app h.seen fun op hop => (hall op hop).2.2⟩
  obtain ⟨q, z, hq, hz, hb⟩ := hk i x hx hm
  rcases hb with rfl | hb
  · rw [g?_of hq, hz] at hg
    exact absurd (Option.some.inj hg).symm hne
  · exact ⟨q, by rw [g?_of hq, hz], hb⟩
end
end Go.Proofs.YtifdhaiihlfomaaDoor
