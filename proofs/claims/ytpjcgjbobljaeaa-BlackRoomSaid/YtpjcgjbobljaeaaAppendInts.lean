/-
  append([]int(nil), x...): the numbers of an argument, laid anew.
-/
import Derived.Test.YtpjcgjbobljaeaaSteps
import Derived.Deep.AppendLies
namespace Go.Proofs.Ytpjcgjbobljaeaa
open Go.RowKit
set_option linter.unusedVariables false

theorem Keep.grown0 {a w w' : World} (h : Keep Nope a w) (hg : w.grownBy w' none) : Keep Nope a w' := h.grown hg (fun k e _ => by cases e)

/-- A slice of numbers reads as it did where its own block is kept. -/
theorem IntsAt.keepB {w w' : World} {v : Value} {len : Nat} {x : Nat → Nat → Int} (h : IntsAt 1 w v len x) {S : Nat → Prop} (k : Keep S w w') (hs : ∀ b, 0 < len → v.ownBlock = some b → ¬ S b) : IntsAt 1 w' v len x := by
  obtain ⟨a, cap, rfl, h⟩ := h
  refine ⟨a, cap, rfl, fun i hi => ?_⟩
  obtain ⟨b, o, rfl, h1, h2⟩ := h i hi
  exact ⟨b, o, rfl, Nat.lt_of_lt_of_le h1 k.size, fun j hj => ⟨k.cell (h2 j hj).1 (hs b (by omega) rfl), (h2 j hj).2⟩⟩

/-- The numbers as values. -/
def numVs (len : Nat) (x : Nat → Nat → Int) : List Value := (List.range len).map fun i => .int .i64 (x i 0)

theorem numVs_at (len : Nat) (x : Nat → Nat → Int) (i : Nat) (h : i < len) : (numVs len x)[i]? = some (.int .i64 (x i 0)) := by
  simp [numVs, h]

theorem numVs_len (len : Nat) (x : Nat → Nat → Int) : (numVs len x).length = len := by simp [numVs]

theorem IntsAt.of_owns {w : World} {base : Nat} {e : TypeId} {v : Value} {len : Nat} {x : Nat → Nat → Int} (h : w.ownsRow base e 1 v len (numVs len x)) (hb : ∀ i, i < len → -9223372036854775808 ≤ x i 0 ∧ x i 0 ≤ 9223372036854775807) : IntsAt 1 w v len x := by
  rcases h.2 with ⟨rfl, h0⟩ | ⟨g, cap, cur, rfl, h2, h3, h4, h5, h6, h7⟩
  · exact ⟨none, 0, by rw [h0], fun i hi => by omega⟩
  · refine ⟨_, cap, rfl, fun i hi => ⟨g, 0, rfl, ?_, fun j hj => ?_⟩⟩
    · rcases Nat.lt_or_ge g w.heap.size with hlt | hge
      · exact hlt
      · rw [Array.getElem?_eq_none hge] at h3; cases h3
    · obtain rfl : j = 0 := by omega
      refine ⟨?_, hb i hi⟩
      rw [Nat.zero_add, Nat.mul_one, Nat.add_zero, ← numVs_at len x i hi, ← h7, List.getElem?_take_of_lt (by omega)]
      simp [World.cell?, h3]

section
variable {P : Program}

theorem run_append_ints (w : World) (t ty e : TypeId) (i : TypeInfo) (ht : P.underlying t = some (.slice e)) (hi : P.info? e = some i) (hz : i.zero = some (.int .i64 0)) (hsize : i.size = 1) (hby : i.bytes = 8)
    (u : Value) (len : Nat) (x : Nat → Nat → Int) (hu : IntsAt 1 w u len x) (hle : len ≤ 1000000) :
    ∃ v' w', (Builtin.append_ #[t, t] ty #[.slice none 0 0, u]).run P w = .ok v' w' ∧ w'.ownsRow w.heap.size e 1 v' len (numVs len x) ∧ w.grownBy w' none := by
  obtain ⟨a, cap, rfl, h⟩ := hu
  cases a with
  | none =>
    have h0 : len = 0 := by
      rcases Nat.eq_zero_or_pos len with h0 | h0
      · exact h0
      · obtain ⟨b, o, e, _⟩ := h 0 h0; cases e
    subst h0
    refine ⟨.slice none 0 0, w, ?_, World.ownsRow_nil w _ _ _, ⟨rfl, rfl, rfl, Nat.le_refl _, fun _ _ _ => rfl⟩⟩
    simp [Builtin.append_, run_underlying ht, sizeOf, typeInfo, hi, Builtin.lenOf, Builtin.firstCells, loadCells, loadCellsFrom]
  | some ad =>
    obtain ⟨v', w', hr, h2, h3, _, h5⟩ := run_append_own_at (P := P) w w.heap.size t ty e i (.int .i64 0) 1 8 ht hi hz hsize hby rfl (by omega) (.slice none 0 0) 0 [] (World.ownsRow_nil w _ _ _) ad len cap (numVs len x) (by rw [numVs_len]; omega)
      (by
        intro j u hu
        have hj : j < len := by have := (List.getElem?_eq_some_iff.1 hu).1; rwa [numVs_len] at this
        obtain ⟨b, o, ea, hb, hc⟩ := h j hj
        injection ea with ea
        subst ea
        rw [numVs_at len x j hj] at hu
        injection hu with hu
        subst hu
        have := (hc 0 (by omega)).1
        rw [Nat.mul_one, Nat.add_zero] at this
        rw [Addr.add_lit]
        exact this)
      (by
        intro u hu
        obtain ⟨_, _, rfl⟩ := List.mem_map.1 hu
        rfl) (by unfold maxLen; omega) (by omega) (Nat.le_refl _)
    rw [Nat.zero_add, List.nil_append] at h2
    exact ⟨v', w', hr, h2, h3⟩

/-- At a step of a region that draws its order. -/
theorem step_append_ints {w : World} {ops : Array Oper} {o : Oper} {a : Act} {K : Act → World → Prop} {Q : Exit → Act → World → Prop} {E : Prop} (hgd : o.guard = none) (s x : Operand) (t : TypeId)
    (ho : o.op = .call { callee := .builtin .append, args := #[s, x], argTypes := #[t, t] }) (e : TypeId) (i : TypeInfo) (ht : P.underlying t = some (.slice e)) (hi : P.info? e = some i) (hz : i.zero = some (.int .i64 0)) (hsize : i.size = 1) (hby : i.bytes = 8)
    (hs : a.eval s = .slice none 0 0) (u : Value) (len : Nat) (y : Nat → Nat → Int) (hx : a.eval x = u) (hu : IntsAt 1 w u len y) (hle : len ≤ 1000000)
    (h : ∀ v' w', w'.ownsRow w.heap.size e 1 v' len (numVs len y) → w.grownBy w' none → K (a.put o.dst v') w') :
    if Region.wanted o (yielded ops a.tmps) = true then Oper.wp P o a w K Q else E := by
  have hw : Region.wanted o (yielded ops a.tmps) = true := by simp [Region.wanted, hgd]
  rw [if_pos hw]
  obtain ⟨v', w', hr, h2, h3⟩ := run_append_ints (P := P) w t o.type e i ht hi hz hsize hby u len y hu hle
  unfold Oper.wp execOp
  simp only [ho, resolve, invoke, builtin, Sem.run_bind, Sem.run_pure, Result.andThen_ok, List.map_toArray, List.map_cons, List.map_nil, hs, hx, hr]
  exact h v' w' h2 h3

end

end Go.Proofs.Ytpjcgjbobljaeaa
