/-
  The differences, in plain words: the same whichever graph is the first; none just if the graphs are the same; a type that is mended is one less.
-/
import Derived.Test.YtifdhaiihlfomaaDoorDiEx
namespace Go.Proofs.YtifdhaiihlfomaaDoor
open Go Go.RowKit Go.Conc
set_option linter.unusedVariables false

theorem pd_sym (n m : Nat) (zs ys : List Int) (j : Nat) : pd n m zs ys j = pd m n ys zs j := by
  unfold pd
  rw [show decide (zs.getD j 0 = ys.getD j 0) = decide (ys.getD j 0 = zs.getD j 0) from by simp [eq_comm]]
  cases decide (n ≤ j) <;> cases decide (m ≤ j) <;> rfl
theorem drow_sym (n m : Nat) (zs ys : List Int) (i : Nat) : drow n m zs ys i = drow m n ys zs i := by
  unfold drow
  rw [show pd n m zs ys = pd m n ys zs from funext (pd_sym n m zs ys)]
theorem rowL_sym (kd : Int) (n : Nat) (zs ys : List Int) : rowL kd n zs ys = rowL kd n ys zs := by
  unfold rowL
  rw [drow_sym, Nat.max_comm]
theorem rowK_sym (kd : Int) (zs ys : List Int) : rowK kd zs ys = rowK kd ys zs := by
  unfold rowK
  rw [drow_sym, Nat.max_comm]
theorem nodeL_sym (n : Nat) (x y : NodeV) : nodeL n x y = nodeL n y x := by
  unfold nodeL
  rw [rowL_sym 3 n x.ws, rowL_sym 4 n x.rs]
  simp only [eq_comm]
theorem tellN_sym (us bs : List NodeV) (j : Nat) : tellN us bs j = tellN bs us j := by
  unfold tellN
  rw [Nat.min_comm, nodeL_sym]
theorem allL_sym (a b : GraphV) : allL a b = allL b a := by
  unfold allL
  rw [Nat.max_comm, show tellN a.ns b.ns = tellN b.ns a.ns from funext (tellN_sym a.ns b.ns)]
  congr 1
  rw [show (fun (t : Nat) => rowK (6 + (t : Int)) (a.row t) (b.row t)) = fun (t : Nat) => rowK (6 + (t : Int)) (b.row t) (a.row t) from funext fun t => rowK_sym _ _ _]

theorem drow_nil (zs ys : List Int) : drow zs.length ys.length zs ys (max zs.length ys.length) = [] ↔ zs = ys := by
  unfold drow
  rw [List.filter_eq_nil_iff]
  constructor
  · intro h
    have hl : zs.length = ys.length := by
      refine Classical.byContradiction fun hne => ?_
      have := h (min zs.length ys.length) (List.mem_range.2 (by omega))
      unfold pd at this
      simp only [Bool.or_eq_true, decide_eq_true_eq, Bool.not_eq_true'] at this
      exact this (by omega)
    refine List.ext_getElem hl fun i h1 h2 => ?_
    have := h i (List.mem_range.2 (by omega))
    unfold pd at this
    simp only [Bool.or_eq_true, decide_eq_true_eq, Bool.not_eq_true', not_or, decide_eq_false_iff_not, Classical.not_not] at this
    have h3 := this.2.2
    rw [List.getD_eq_getElem?_getD, List.getD_eq_getElem?_getD, List.getElem?_eq_getElem h1, List.getElem?_eq_getElem h2] at h3
    exact h3
  · rintro rfl j hj
    have := List.mem_range.1 hj
    unfold pd
    simp
    omega
theorem nodeL_nil (n : Nat) (x y : NodeV) : nodeL n x y = [] ↔ sameN x y = true := by
  unfold nodeL sameN rowL
  simp only [List.append_eq_nil_iff, List.map_eq_nil_iff, drow_nil, Bool.and_eq_true, decide_eq_true_eq]
  refine and_congr ?_ (and_congr ?_ Iff.rfl)
  · split <;> simp_all
  · split <;> simp_all
theorem allL_nil (a b : GraphV) : allL a b = [] ↔ sameG a b = true := by
  unfold allL sameG sameNs
  simp only [List.append_eq_nil_iff, List.flatMap_eq_nil_iff, List.mem_range, Bool.and_eq_true, decide_eq_true_eq]
  refine and_congr ⟨fun h => ?_, fun ⟨hl, h⟩ j hj => ?_⟩ ⟨fun h => ?_, fun ⟨h1, h2, h3⟩ t ht => ?_⟩
  · have hl : a.ns.length = b.ns.length := by
      refine Classical.byContradiction fun hne => ?_
      have := h (min a.ns.length b.ns.length) (by omega)
      unfold tellN at this
      rw [if_neg (by omega)] at this
      cases this
    refine ⟨hl, fun i hi => ?_⟩
    have := h i (by omega)
    unfold tellN at this
    rw [if_pos (by omega)] at this
    exact (nodeL_nil _ _ _).1 this
  · unfold tellN
    rw [if_pos (by omega)]
    exact (nodeL_nil _ _ _).2 (h j (by omega))
  · have h0 := h 0 (by omega)
    have h1 := h 1 (by omega)
    have h2 := h 2 (by omega)
    unfold rowK at h0 h1 h2
    rw [List.map_eq_nil_iff, drow_nil] at h0 h1 h2
    exact ⟨h0, h1, h2⟩
  · unfold rowK
    rw [List.map_eq_nil_iff, drow_nil]
    match t, ht with
    | 0, _ => exact h1
    | 1, _ => exact h2
    | 2, _ => exact h3

/-- What is told of a type lies at a node that both have. -/
theorem allL_kind (a b : GraphV) : ∀ v ∈ allL a b, ∃ (kd : Int) (n k : Nat), v = dV kd n k ∧ (kd = 1 → n < a.ns.length ∧ n < b.ns.length ∧ (a.ns.getD n nodeZ).ty ≠ (b.ns.getD n nodeZ).ty) := by
  intro v hv
  unfold allL at hv
  rcases List.mem_append.1 hv with hv | hv
  · obtain ⟨j, hj, hv⟩ := List.mem_flatMap.1 hv
    unfold tellN at hv
    split at hv
    · rename_i hmin
      unfold nodeL rowL at hv
      simp only [List.mem_append, List.mem_map] at hv
      rcases hv with hv | hv | ⟨i, _, rfl⟩ | ⟨i, _, rfl⟩
      · split at hv
        · cases hv
        · rename_i hne
          rw [List.mem_singleton] at hv
          exact ⟨1, j, 0, hv, fun _ => ⟨by omega, by omega, hne⟩⟩
      · split at hv
        · cases hv
        · rw [List.mem_singleton] at hv
          exact ⟨2, j, 0, hv, fun h => absurd h (by decide)⟩
      · exact ⟨3, j, i, rfl, fun h => absurd h (by decide)⟩
      · exact ⟨4, j, i, rfl, fun h => absurd h (by decide)⟩
    · rw [List.mem_singleton] at hv
      exact ⟨5, j, 0, hv, fun h => absurd h (by decide)⟩
  · obtain ⟨t, ht, hv⟩ := List.mem_flatMap.1 hv
    unfold rowK at hv
    obtain ⟨i, _, rfl⟩ := List.mem_map.1 hv
    exact ⟨6 + (t : Int), i, 0, rfl, fun h => by omega⟩

theorem sum_one {n j : Nat} (hj : j < n) {f g : Nat → Nat} (h : ∀ i, i ≠ j → f i = g i) (h1 : f j = g j + 1) : ((List.range n).map f).sum = ((List.range n).map g).sum + 1 := by
  induction n with
  | zero => omega
  | succ n ih =>
    rw [List.range_succ, List.map_append, List.map_append, List.sum_append, List.sum_append]
    simp only [List.map_cons, List.map_nil, List.sum_cons, List.sum_nil, Nat.add_zero]
    by_cases e : j = n
    · subst e
      have : (List.range j).map f = (List.range j).map g := List.map_congr_left fun i hi => h i (by have := List.mem_range.1 hi; omega)
      rw [this, h1]
      omega
    · rw [ih (by omega), h n (Ne.symm e)]
      omega
/-- The graph with one type mended. -/
def mendG (a b : GraphV) (j : Nat) (nv : Value) : GraphV := ⟨nv, a.hv, a.pv, a.sv, a.ns.set j { a.ns.getD j nodeZ with ty := (b.ns.getD j nodeZ).ty }, a.hs, a.ps, a.ss⟩
theorem mend_len (a b : GraphV) (j : Nat) (nv : Value) (h1 : j < a.ns.length) (h2 : j < b.ns.length) (hne : (a.ns.getD j nodeZ).ty ≠ (b.ns.getD j nodeZ).ty) : (allL a b).length = (allL (mendG a b j nv) b).length + 1 := by
  unfold allL
  rw [List.length_append, List.length_append]
  have hl : (mendG a b j nv).ns.length = a.ns.length := by simp [mendG]
  have hr : ((List.range 3).flatMap fun (t : Nat) => rowK (6 + (t : Int)) ((mendG a b j nv).row t) (b.row t)) = ((List.range 3).flatMap fun (t : Nat) => rowK (6 + (t : Int)) (a.row t) (b.row t)) := by
    have : ∀ t, (mendG a b j nv).row t = a.row t := fun t => by
      match t with
      | 0 => rfl
      | 1 => rfl
      | _ + 2 => rfl
    simp only [this]
  rw [hr, hl]
  have := sum_one (n := max a.ns.length b.ns.length) (j := j) (by omega) (f := fun i => (tellN a.ns b.ns i).length) (g := fun i => (tellN (mendG a b j nv).ns b.ns i).length) (fun i hi => ?_) ?_
  · simp only [List.length_flatMap] at this ⊢
    omega
  · unfold tellN
    rw [hl]
    have : (mendG a b j nv).ns.getD i nodeZ = a.ns.getD i nodeZ := by
      unfold mendG
      rw [List.getD_eq_getElem?_getD, List.getElem?_set_ne (Ne.symm hi), List.getD_eq_getElem?_getD]
    rw [this]
  · unfold tellN
    rw [hl, if_pos (by omega), if_pos (by omega)]
    have : (mendG a b j nv).ns.getD j nodeZ = { a.ns.getD j nodeZ with ty := (b.ns.getD j nodeZ).ty } := by
      unfold mendG
      rw [List.getD_eq_getElem?_getD, List.getElem?_set_self h1]
      rfl
    rw [this]
    unfold nodeL
    rw [if_neg hne]
    simp only [if_true, List.length_append, List.length_cons, List.length_nil]
    omega

theorem drow_len (n m : Nat) (zs ys : List Int) (i : Nat) : (drow n m zs ys i).length ≤ i := drow_le n m zs ys i
theorem flat_le {B : Nat} : ∀ (n : Nat) {f : Nat → List Value}, (∀ i, (f i).length ≤ B) → ((List.range n).flatMap f).length ≤ n * B
  | 0, f, h => by simp
  | n + 1, f, h => by
    rw [List.range_succ, List.flatMap_append, List.length_append]
    have := flat_le n h
    have := h n
    simp only [List.flatMap_cons, List.flatMap_nil, List.append_nil]
    rw [Nat.succ_mul]
    omega
theorem allL_len {a b : GraphV} {B : Nat} (ha : a.ns.length ≤ 600) (hb : b.ns.length ≤ 600) (h1 : a.hs.length ≤ B ∧ a.ps.length ≤ B ∧ a.ss.length ≤ B) (h2 : b.hs.length ≤ B ∧ b.ps.length ≤ B ∧ b.ss.length ≤ B)
    (wa : ∀ y ∈ a.ns, y.ws.length ≤ B ∧ y.rs.length ≤ B) (wb : ∀ y ∈ b.ns, y.ws.length ≤ B ∧ y.rs.length ≤ B) : (allL a b).length ≤ 600 * (2 + 2 * B) + 3 * B := by
  have get : ∀ {ns : List NodeV}, (∀ y ∈ ns, y.ws.length ≤ B ∧ y.rs.length ≤ B) → ∀ j, (ns.getD j nodeZ).ws.length ≤ B ∧ (ns.getD j nodeZ).rs.length ≤ B := fun {ns} h j => by
    rw [List.getD_eq_getElem?_getD]
    cases e : ns[j]? with
    | none => exact ⟨Nat.zero_le _, Nat.zero_le _⟩
    | some x => exact h x (List.mem_of_getElem? e)
  unfold allL
  rw [List.length_append]
  have e1 := flat_le (B := 2 + 2 * B) (max a.ns.length b.ns.length) (f := tellN a.ns b.ns) fun j => by
    unfold tellN
    split
    · unfold nodeL rowL
      have := get wa j
      have := get wb j
      have r1 := drow_len (a.ns.getD j nodeZ).ws.length (b.ns.getD j nodeZ).ws.length (a.ns.getD j nodeZ).ws (b.ns.getD j nodeZ).ws (max (a.ns.getD j nodeZ).ws.length (b.ns.getD j nodeZ).ws.length)
      have r2 := drow_len (a.ns.getD j nodeZ).rs.length (b.ns.getD j nodeZ).rs.length (a.ns.getD j nodeZ).rs (b.ns.getD j nodeZ).rs (max (a.ns.getD j nodeZ).rs.length (b.ns.getD j nodeZ).rs.length)
      have t1 : (if (a.ns.getD j nodeZ).ty = (b.ns.getD j nodeZ).ty then ([] : List Value) else [dV 1 j 0]).length ≤ 1 := by split <;> simp
      have t2 : (if (a.ns.getD j nodeZ).ln = (b.ns.getD j nodeZ).ln then ([] : List Value) else [dV 2 j 0]).length ≤ 1 := by split <;> simp
      rw [List.length_append, List.length_append, List.length_append, List.length_map, List.length_map]
      omega
    · simp
      omega
  have e2 := flat_le (B := B) 3 (f := fun t => rowK (6 + (t : Int)) (a.row t) (b.row t)) fun t => by
    unfold rowK
    rw [List.length_map]
    refine Nat.le_trans (drow_len _ _ _ _ _) ?_
    match t with
    | 0 => exact Nat.max_le.2 ⟨h1.1, h2.1⟩
    | 1 => exact Nat.max_le.2 ⟨h1.2.1, h2.2.1⟩
    | _ + 2 => exact Nat.max_le.2 ⟨h1.2.2, h2.2.2⟩
  have e3 : max a.ns.length b.ns.length * (2 + 2 * B) ≤ 600 * (2 + 2 * B) := Nat.mul_le_mul_right _ (Nat.max_le.2 ⟨ha, hb⟩)
  omega

end Go.Proofs.YtifdhaiihlfomaaDoor
