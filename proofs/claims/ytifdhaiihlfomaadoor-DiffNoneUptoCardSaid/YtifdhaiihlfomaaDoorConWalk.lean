/-
  For a walk of a goroutine that lays memory of its own kind while another lays its: what it knows is kept by the other's doing; what it does itself is within what it promises. No program in sight.
-/
import Derived.Test.YtifdhaiihlfomaaDoorConMeet
import Derived.Conc.CompanyMem
import Derived.Conc.AppendWalk
namespace Go.Proofs.YtifdhaiihlfomaaDoor
open Go Go.Conc
set_option linter.unusedVariables false

section
variable {P : Program} {c Low : Nat} {own : Obj → Bool} {who : Bool} {w w' w₀ w₁ : World}

theorem dOwn_idle (w : World) : DOwn c Low own who w w #[] := ⟨Oth.refl .., rfl, by simp⟩
theorem termsO (c Low : Nat) (own : Obj → Bool) (who : Bool) : Terms (Oth c Low own who) (DOwn c Low own who) := ⟨oth_trans, dOwn_idle⟩
theorem drawO (c Low : Nat) (own : Obj → Bool) (who : Bool) : LetsDraw (DOwn c Low own who) := fun w => ⟨Oth.at c Low own (!who) w (w.drawn + 1), rfl, by simp⟩
theorem ownDrawO (c Low : Nat) (own : Obj → Bool) (who : Bool) (w : World) : Oth c Low own who w { w with drawn := w.drawn + 1 } := Oth.at c Low own who w (w.drawn + 1)

/-- What is known of memory from the fork on: below Low all is as it was, but for the channel. -/
structure Kn (c Low : Nat) (w₀ w : World) : Prop where
  low : ∀ k, k < Low → k ≠ c → w.heap[k]? = w₀.heap[k]?
  size : Low ≤ w.heap.size
theorem Kn.oth (h : Kn c Low w₀ w) (r : Oth c Low own who w w₁) : Kn c Low w₀ w₁ := ⟨fun k h1 h2 => (r.low k h1 h2).trans (h.low k h1 h2), Nat.le_trans h.size r.size⟩
theorem Kn.cell (h : Kn c Low w₀ w) {a : Addr} {v : Value} (hb : a.block < Low) (hc : a.block ≠ c) (hv : w₀.cell? a = some v) : w.cell? a = some v := by
  rw [World.cell?_of_block (h.low a.block hb hc)]
  exact hv

/-- An own block is as it was. -/
theorem own_oth {b : Nat} {o : Obj} (h : w.heap[b]? = some o) (hb : Low ≤ b) (ho : own o = who) (r : Oth c Low own who w w₁) : w₁.heap[b]? = some o := r.mine b o hb h ho
theorem row_oth {e size n : Nat} {v : Value} {xs : List Value} (hk : ∀ cs fz, own (.cells cs e fz) = who) (h : w.ownsRow Low e size v n xs) (r : Oth c Low own who w w₁) : w₁.ownsRow Low e size v n xs := by
  obtain ⟨h1, h2 | ⟨g, cap, cur, hv, hg, hh, ht⟩⟩ := h
  · exact ⟨h1, .inl h2⟩
  · exact ⟨h1, .inr ⟨g, cap, cur, hv, hg, r.mine g _ hg hh (hk _ _), ht⟩⟩

/-! ### own steps that turn memory -/

theorem bool_ne {a b : Bool} (h : a ≠ b) : a = !b := by cases a <;> cases b <;> simp_all

/-- A new block of one's own kind. -/
theorem oth_push {o : Obj} (hL : Low ≤ w.heap.size) (ho : own o = who) : Oth c Low own (!who) w { w with heap := w.heap.push o } := by
  have hold : ∀ k, k < w.heap.size → (w.heap.push o)[k]? = w.heap[k]? := fun k hk => Array.getElem?_push_lt hk ▸ (Array.getElem?_eq_getElem hk).symm
  refine ⟨rfl, rfl, rfl, by simp, fun k hk _ => hold k (by omega), fun k x hk hx _ => ?_, fun k x hk hx hq => ⟨x, ?_, hq⟩, fun k x hk hs hx => ?_⟩
  · rw [hold k (Array.getElem?_eq_some_iff.1 hx).1]; exact hx
  · show (w.heap.push o)[k]? = _
    rw [hold k (Array.getElem?_eq_some_iff.1 hx).1]; exact hx
  · have hx' : (w.heap.push o)[k]? = some x := hx
    rw [Array.getElem?_push] at hx'
    split at hx'
    · cases hx'
      simpa using ho
    · rw [Array.getElem?_eq_none hs] at hx'
      cases hx'

/-- A block of one's own is turned, and is of one's own kind still. -/
theorem oth_set {g : Nat} {o : Obj} (hg : Low ≤ g) (hh : w'.heap[g]? = some o) (hko : own o = who) (hold : ∀ x, w.heap[g]? = some x → own x = who) (hs : w'.heap.size = w.heap.size) (hrest : ∀ k, k ≠ g → w'.heap[k]? = w.heap[k]?)
    (ht : w'.tape = w.tape) (hos : w'.os = w.os) (hout : w'.output = w.output) : Oth c Low own (!who) w w' := by
  refine ⟨ht, hos, hout, by omega, fun k hk _ => hrest k (by omega), fun k x hk hx hq => ?_, fun k x hk hx hq => ?_, fun k x hk hsz hx => ?_⟩
  · by_cases e : k = g
    · subst e
      rw [hold x hx] at hq
      cases who <;> cases hq
    · rw [hrest k e]; exact hx
  · by_cases e : k = g
    · subst e
      exact ⟨o, hh, by simpa using hko⟩
    · exact ⟨x, by rw [hrest k e]; exact hx, hq⟩
  · rw [Array.getElem?_eq_none (by omega)] at hx
    cases hx

theorem oth_drew : Oth c Low own (!who) w w.drew := Oth.at c Low own (!who) w (w.drawn + 1)

/-! ### what may be listed -/

theorem evO_mark {m : Mark} (h : Neutral m) (wr sy : Bool) : EvO Low own who w ⟨.mark m, wr, sy⟩ := by
  have e : MemAct.ofEvent ⟨.mark m, wr, sy⟩ = .mark m := by cases wr <;> cases sy <;> rfl
  refine ⟨⟨fun x => ?_, fun x => ?_⟩, fun x hx hm => ?_⟩
  · cases x; cases h
  · cases x; cases h
  · rw [e, h.touch] at hx
    cases hx
theorem evO_read {a : Addr} {sy : Bool} (h : a.block < Low ∨ (Low ≤ a.block ∧ ∃ o, w.heap[a.block]? = some o ∧ own o = who)) : EvO Low own who w ⟨.cell a, false, sy⟩ := by
  refine ⟨⟨by simp, by simp⟩, fun x hx hm => ⟨a.block, ?_, ?_⟩⟩
  · simp only [MemAct.ofEvent, MemAct.touch?, Option.some.injEq] at hx
    subst hx; rfl
  · simp only [MemAct.ofEvent, MemAct.touch?, Option.some.injEq] at hx
    subst hx
    exact h.imp (fun h => ⟨h, rfl⟩) id
theorem evO_own {a : Addr} {wr sy : Bool} (h : Low ≤ a.block) {o : Obj} (ho : w.heap[a.block]? = some o) (hk : own o = who) : EvO Low own who w ⟨.cell a, wr, sy⟩ := by
  have e : MemAct.ofEvent ⟨.cell a, wr, sy⟩ = .access ⟨.cell a, wr, sy⟩ := by cases wr <;> cases sy <;> rfl
  refine ⟨⟨by simp, by simp⟩, fun x hx hm => ⟨a.block, ?_, .inr ⟨?_, o, ho, hk⟩⟩⟩
  · rw [e] at hx
    simp only [MemAct.touch?, Option.some.injEq] at hx
    subst hx; rfl
  · exact h

/-- ████ AN APPEND TO A ROW OF ONE's OWN (or to nil), IN COMPANY. ████ -/
theorem append_own (hcL : c < Low) (base : Nat) (hLB : Low ≤ base) (t ty e : TypeId) (i : TypeInfo) (z : Value) (size bytes : Nat) (ht : P.underlying t = some (.slice e)) (hi : P.info? e = some i) (hz : i.zero = some z)
    (hsize : i.size = size) (hby : i.bytes = bytes) (hzs : z.cells.size = size) (hsz : 0 < size) (hk : ∀ cs fz, own (.cells cs e fz) = who)
    (v : Value) (n : Nat) (xs : List Value) (hown : w.ownsRow base e size v n xs)
    (a : Addr) (m cp : Nat) (news : List Value) (hl : news.length = m * size) (hnews : ∀ j u, news[j]? = some u → w.cell? (a.add j) = some u) (h1 : ∀ u ∈ news, u.oneCell' = true) (hm0 : 0 < m)
    (h63 : n + m ≤ maxLen) (hbytes : (n + m) * bytes ≤ 140737488355328) (hbase : base ≤ w.heap.size) (ha : a.block < Low ∨ (Low ≤ a.block ∧ ∃ o, w.heap[a.block]? = some o ∧ own o = who)) :
    ∃ v' w', (Builtin.append_ #[t, t] ty #[v, .slice (some a) m cp]).run P w = .ok v' w' ∧ w'.ownsRow base e size v' (n + m) (xs ++ news) ∧ Oth c Low own (!who) w w' ∧
      w'.heap[c]? = w.heap[c]? ∧ (∀ k, k < base → w'.heap[k]? = w.heap[k]?) ∧ ∀ ev ∈ (Builtin.append_ #[t, t] ty #[v, .slice (some a) m cp]).events P w #[], EvO Low own who w' ev := by
  obtain ⟨v', w', hr, hrow, hgr, _⟩ := run_append_own (P := P) w base t ty e i z size bytes ht hi hz hsize hby hzs hsz v n xs hown a m cp news hl hnews h1 h63 hbytes hbase
  have hoth : Oth c Low own (!who) w w' := by
    subst hsize
    subst hby
    rcases hown.2 with ⟨rfl, rfl⟩ | ⟨g, cap, cur, rfl, hbg, hg, hnc, hcm, hcs, htake⟩
    · have hr2 := run_append_nil (P := P) w t ty e i z ht hi hz a m cp news hl hnews (by omega) (by simp only [maxLen] at h63; omega) (by have hb := hbytes; simp only [Nat.zero_add] at hb; omega)
      rw [hr] at hr2
      simp only [Result.ok.injEq] at hr2
      rw [hr2.2]
      exact oth_drew.trans (oth_push (Nat.le_trans hLB hbase) (hk _ _))
    · by_cases hroom : n + m ≤ cap
      · have hfit : n * i.size + news.length ≤ cur.size := by rw [hl, hcs, ← Nat.add_mul]; exact Nat.mul_le_mul_right _ hroom
        have hr2 := run_append_room (P := P) w t ty e i ht hi g n cap cur hg a m cp news hl hnews h1 hroom hfit
        rw [hr] at hr2
        simp only [Result.ok.injEq] at hr2
        rw [hr2.2]
        exact oth_set (Nat.le_trans hLB hbg) (setRow_heap w g cur _ e _ hg) (hk _ _) (fun x hx => by rw [hg] at hx; cases hx; exact hk _ _) (by simp) (fun k hne => setRow_other w g k _ hne) rfl rfl rfl
      · have holds : ∀ j u, xs[j]? = some u → w.cell? ((⟨g, 0, none⟩ : Addr).add j) = some u := hown.cells (g := g) rfl
        have hr2 := run_append_grow (P := P) w t ty e i z ht hi hz ⟨g, 0, none⟩ n cap xs hown.1 holds a m cp news hl hnews (by omega) (by simp only [maxLen] at h63; omega) (growslice_fits (by omega) hbytes)
        rw [hr] at hr2
        simp only [Result.ok.injEq] at hr2
        rw [hr2.2]
        exact oth_drew.trans (oth_push (Nat.le_trans hLB hbase) (hk _ _))
  have hbelow : ∀ k, k < base → w'.heap[k]? = w.heap[k]? := fun k hkb => by
    refine hgr.block k (by omega) fun e => ?_
    obtain ⟨_, h2 | ⟨g, cap, cur, rfl, hbg, _⟩⟩ := hown
    · rw [h2.1] at e; cases e
    · simp only [Value.ownBlock, Option.some.injEq] at e
      omega
  refine ⟨v', w', hr, hrow, hoth, hbelow c (by omega), hbelow, fun ev hev => ?_⟩
  -- what is owned is owned behind it
  have kept : ∀ b, Low ≤ b → (∃ o, w.heap[b]? = some o ∧ own o = who) → ∃ o, w'.heap[b]? = some o ∧ own o = who := fun b hb ⟨o, ho, hq⟩ => by
    obtain ⟨o', h1, h2⟩ := hoth.rest b o hb ho (by simpa using hq)
    exact ⟨o', h1, by simpa using h2⟩
  rcases events_append_where (P := P) w base t ty e i z size bytes ht hi hz hsize hby v n xs hown a m cp news hl hnews h1 h63 hbytes ev hev with ⟨ad, hloc, h⟩ | ⟨mk, rfl, hn⟩
  · obtain ⟨loc, wr, sy⟩ := ev
    simp only at hloc h
    subst hloc
    rcases h with ⟨rfl, hb⟩ | hb
    · refine evO_read ?_
      rw [hb]
      exact ha.imp id fun x => ⟨x.1, kept _ x.1 x.2⟩
    · obtain ⟨_, h2 | ⟨g, cap, cur, rfl, hbg, hg, _⟩⟩ := hown
      · rw [h2.1] at hb; cases hb
      · simp only [Value.ownBlock, Option.some.injEq] at hb
        obtain ⟨o, h1, h2⟩ := kept g (Nat.le_trans hLB hbg) ⟨_, hg, hk _ _⟩
        exact evO_own (by omega) (by rw [hb]; exact h1) h2
  · exact evO_mark hn _ _
end
end Go.Proofs.YtifdhaiihlfomaaDoor
