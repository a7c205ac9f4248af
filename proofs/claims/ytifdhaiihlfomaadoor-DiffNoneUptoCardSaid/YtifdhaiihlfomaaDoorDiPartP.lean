/-
  The part of a node, in plain words: the queue of the nodes that are reached, the turned references; a part of a part is the part.
-/
import Derived.Test.YtifdhaiihlfomaaDoorDiSame
namespace Go.Proofs.YtifdhaiihlfomaaDoor
open Go Go.RowKit
set_option linter.unusedVariables false

theorem idxG_cases (x : Int) : ∀ (l : List Int) (n : Nat), (idxG x l n = -1 ∧ x ∉ l) ∨ ∃ j : Nat, idxG x l n = ((n + j : Nat) : Int) ∧ l[j]? = some x
  | [], n => .inl ⟨rfl, by simp⟩
  | y :: l, n => by
    rw [idxG]
    by_cases h : y = x
    · rw [if_pos h]
      exact .inr ⟨0, by simp, by simp [h]⟩
    · rw [if_neg h]
      rcases idxG_cases x l (n + 1) with ⟨h1, h2⟩ | ⟨j, h1, h2⟩
      · exact .inl ⟨h1, by simp [h2, Ne.symm h]⟩
      · exact .inr ⟨j + 1, by rw [h1]; congr 1; omega, by simpa using h2⟩
theorem idxF_cases (q : List Int) (x : Int) : (idxF q x = -1 ∧ x ∉ q) ∨ ∃ j : Nat, idxF q x = (j : Int) ∧ q[j]? = some x := by
  rcases idxG_cases x q 0 with h | ⟨j, h, h2⟩
  · exact .inl h
  · exact .inr ⟨j, by rw [idxF, h, Nat.zero_add], h2⟩

/-- One reference turned: the queue behind it, and what it is now. -/
def turn1 (N : Nat) (q : List Int) (r : Int) : List Int × Int :=
  if r = 0 then (q, 0) else if r < 0 ∨ (N : Int) < r then (q, -1) else if idxF q (r - 1) < 0 then (q ++ [r - 1], (q.length : Int) + 1) else (q, idxF q (r - 1) + 1)
/-- A row of references turned. -/
def turnL (N : Nat) : List Int → List Int → List Int × List Int
  | q, [] => (q, [])
  | q, r :: rs => ((turnL N (turn1 N q r).1 rs).1, (turn1 N q r).2 :: (turnL N (turn1 N q r).1 rs).2)
theorem turnL_snoc (N : Nat) (r : Int) : ∀ (l q : List Int), turnL N q (l ++ [r]) = ((turn1 N (turnL N q l).1 r).1, (turnL N q l).2 ++ [(turn1 N (turnL N q l).1 r).2])
  | [], q => rfl
  | y :: l, q => by
    rw [List.cons_append, turnL, turnL_snoc N r l]
    rfl
theorem turnL_take {N : Nat} {q l : List Int} {i : Nat} {r : Int} (h : l[i]? = some r) : turnL N q (l.take (i + 1)) = ((turn1 N (turnL N q (l.take i)).1 r).1, (turnL N q (l.take i)).2 ++ [(turn1 N (turnL N q (l.take i)).1 r).2]) := by
  rw [List.take_add_one, h, Option.toList_some, turnL_snoc]
theorem turnL_length (N : Nat) : ∀ (l q : List Int), (turnL N q l).2.length = l.length
  | [], q => rfl
  | y :: l, q => by rw [turnL, List.length_cons, turnL_length N l, List.length_cons]

/-- The queue holds places of nodes, each once. -/
structure QOk (N : Nat) (q : List Int) : Prop where
  rng : ∀ j ∈ q, 0 ≤ j ∧ j < (N : Int)
  nd : q.Nodup
theorem nodup_le : ∀ (N : Nat) (q : List Int), (∀ j ∈ q, 0 ≤ j ∧ j < (N : Int)) → q.Nodup → q.length ≤ N
  | 0, q, h, _ => by
    cases q with
    | nil => exact Nat.le_refl _
    | cons y q => have := h y (by simp); omega
  | N + 1, q, h, hn => by
    by_cases hm : (N : Int) ∈ q
    · have h1 := nodup_le N (q.erase (N : Int)) (fun j hj => by
        have hj2 := (List.Nodup.mem_erase_iff hn).1 hj
        have := h j hj2.2
        have := hj2.1
        omega) (hn.erase _)
      rw [List.length_erase_of_mem hm] at h1
      omega
    · have := nodup_le N q (fun j hj => by
        have := h j hj
        have : j ≠ (N : Int) := fun e => hm (e ▸ hj)
        omega) hn
      omega
theorem QOk.le {N : Nat} {q : List Int} (h : QOk N q) : q.length ≤ N := nodup_le N q h.rng h.nd
theorem turn1_ok {N : Nat} {q : List Int} (h : QOk N q) (r : Int) : QOk N (turn1 N q r).1 := by
  unfold turn1
  split
  · exact h
  · split
    · exact h
    · split
      · rename_i h0 h1 h2
        rcases idxF_cases q (r - 1) with ⟨_, hn⟩ | ⟨j, hj, _⟩
        · refine ⟨fun j hj => ?_, ?_⟩
          · rcases List.mem_append.1 hj with hj | hj
            · exact h.rng j hj
            · rw [List.mem_singleton] at hj
              omega
          · rw [List.nodup_append]
            refine ⟨h.nd, by simp, ?_⟩
            rintro a ha b hb rfl
            rw [List.mem_singleton] at hb
            exact hn (hb ▸ ha)
        · omega
      · exact h
theorem turnL_ok (N : Nat) : ∀ (l q : List Int), QOk N q → QOk N (turnL N q l).1
  | [], q, h => h
  | y :: l, q, h => by
    rw [turnL]
    exact turnL_ok N l _ (turn1_ok h y)
theorem turn1_pre (N : Nat) (q : List Int) (r : Int) : ∃ e, (turn1 N q r).1 = q ++ e := by
  unfold turn1
  split
  · exact ⟨[], by simp⟩
  · split
    · exact ⟨[], by simp⟩
    · split
      · exact ⟨_, rfl⟩
      · exact ⟨[], by simp⟩
theorem turnL_pre (N : Nat) : ∀ (l q : List Int), ∃ e, (turnL N q l).1 = q ++ e
  | [], q => ⟨[], by simp [turnL]⟩
  | y :: l, q => by
    rw [turnL]
    obtain ⟨e, he⟩ := turn1_pre N q y
    obtain ⟨f, hf⟩ := turnL_pre N l (turn1 N q y).1
    exact ⟨e ++ f, by rw [hf, he, List.append_assoc]⟩
theorem turnL_grows (N : Nat) (l q : List Int) : q.length ≤ (turnL N q l).1.length := by
  obtain ⟨e, he⟩ := turnL_pre N l q
  rw [he, List.length_append]
  omega

/-- A node in plain words. -/
structure NodeP where
  ty : Int
  ln : Int
  ws : List Int
  rs : List Int
def NodeV.p (n : NodeV) : NodeP := ⟨n.ty, n.ln, n.ws, n.rs⟩
def nodePZ : NodeP := ⟨0, 0, [], []⟩
/-- The queue and the nodes behind k rounds. -/
def stP (ns : List NodeP) (n : Int) : Nat → List Int × List NodeP
  | 0 => ([n], [])
  | k + 1 => match (stP ns n k).1[k]? with
    | none => stP ns n k
    | some j => ((turnL ns.length (stP ns n k).1 (ns.getD j.toNat nodePZ).rs).1,
        (stP ns n k).2 ++ [⟨(ns.getD j.toNat nodePZ).ty, (ns.getD j.toNat nodePZ).ln, (ns.getD j.toNat nodePZ).ws, (turnL ns.length (stP ns n k).1 (ns.getD j.toNat nodePZ).rs).2⟩])
theorem stP_some {ns : List NodeP} {n j : Int} {k : Nat} {y : NodeP} (h : (stP ns n k).1[k]? = some j) (hy : ns.getD j.toNat nodePZ = y) : stP ns n (k + 1) = ((turnL ns.length (stP ns n k).1 y.rs).1, (stP ns n k).2 ++ [⟨y.ty, y.ln, y.ws, (turnL ns.length (stP ns n k).1 y.rs).2⟩]) := by
  subst hy
  rw [stP, h]
theorem stP_none {ns : List NodeP} {n : Int} {k : Nat} (h : (stP ns n k).1[k]? = none) : stP ns n (k + 1) = stP ns n k := by
  rw [stP, h]
theorem stP_ok {ns : List NodeP} {n : Int} (h0 : 0 ≤ n) (h1 : n < (ns.length : Int)) : ∀ k, QOk ns.length (stP ns n k).1
  | 0 => ⟨fun j hj => by
      have e : j = n := by simpa [stP] using hj
      omega, by simp [stP]⟩
  | k + 1 => by
    cases h : (stP ns n k).1[k]? with
    | none => rw [stP_none h]; exact stP_ok h0 h1 k
    | some j => rw [stP_some h rfl]; exact turnL_ok _ _ _ (stP_ok h0 h1 k)
theorem stP_stop {ns : List NodeP} {n : Int} {k : Nat} (h : (stP ns n k).1.length ≤ k) : ∀ d, stP ns n (k + d) = stP ns n k
  | 0 => rfl
  | d + 1 => by
    have ih := stP_stop h d
    rw [← Nat.add_assoc, stP_none (by rw [ih]; exact List.getElem?_eq_none (by omega)), ih]
/-- THE PART's NODES. -/
def partP (ns : List NodeP) (n : Int) : List NodeP := if n < 0 ∨ (ns.length : Int) ≤ n then [] else (stP ns n ns.length).2
theorem stP_len {ns : List NodeP} {n : Int} : ∀ k, k ≤ (stP ns n k).1.length → (stP ns n k).2.length = k
  | 0, _ => rfl
  | k + 1, h => by
    cases e : (stP ns n k).1[k]? with
    | none =>
      rw [stP_none e] at h
      have := List.getElem?_eq_none_iff.1 e
      omega
    | some j =>
      have hk := (List.getElem?_eq_some_iff.1 e).1
      rw [stP_some e rfl, List.length_append, stP_len k (by omega)]
      rfl
/-- The rounds end. -/
theorem stP_end {ns : List NodeP} {n : Int} (h0 : 0 ≤ n) (h1 : n < (ns.length : Int)) : ∃ m, (stP ns n m).1.length = m ∧ 1 ≤ m ∧ m ≤ ns.length ∧ (∀ k, k ≤ m → k ≤ (stP ns n k).1.length) ∧ ∀ d, stP ns n (m + d) = stP ns n m := by
  have hup : ∀ k, (∀ i, i < k → (stP ns n i).1.length ≠ i) → k ≤ (stP ns n k).1.length := by
    intro k
    induction k with
    | zero => intro _; exact Nat.zero_le _
    | succ k ih =>
      intro h
      have hk := ih fun i hi => h i (by omega)
      have hk2 := h k (by omega)
      obtain ⟨j, hj⟩ : ∃ j, (stP ns n k).1[k]? = some j := ⟨_, List.getElem?_eq_getElem (by omega)⟩
      rw [stP_some hj rfl]
      have := turnL_grows ns.length (ns.getD j.toNat nodePZ).rs (stP ns n k).1
      dsimp only
      omega
  have hex : ∃ m, m ≤ ns.length ∧ (stP ns n m).1.length = m := by
    refine Classical.byContradiction fun hne => ?_
    have h := hup (ns.length + 1) fun i hi he => hne ⟨i, by omega, he⟩
    have := (stP_ok h0 h1 (ns.length + 1)).le
    omega
  obtain ⟨m, hm1, hm2, hmin⟩ : ∃ m, m ≤ ns.length ∧ (stP ns n m).1.length = m ∧ ∀ i, i < m → (stP ns n i).1.length ≠ i := by
    obtain ⟨m, hm⟩ := hex
    induction m using Nat.strongRecOn with
    | ind m ih =>
      by_cases h : ∃ i, i < m ∧ (stP ns n i).1.length = i
      · obtain ⟨i, hi, he⟩ := h
        exact ih i hi ⟨by omega, he⟩
      · exact ⟨m, hm.1, hm.2, fun i hi he => h ⟨i, hi, he⟩⟩
  refine ⟨m, hm2, ?_, hm1, fun k hk => hup k fun i hi => hmin i (by omega), stP_stop (Nat.le_of_eq hm2)⟩
  rcases Nat.eq_zero_or_pos m with rfl | h
  · simp [stP] at hm2
  · exact h
theorem partP_end {ns : List NodeP} {n : Int} {m : Nat} (h0 : 0 ≤ n) (h1 : n < (ns.length : Int)) (hm : (stP ns n m).1.length ≤ m) (hl : m ≤ ns.length) : partP ns n = (stP ns n m).2 := by
  rw [partP, if_neg (by omega)]
  have := stP_stop hm (ns.length - m)
  rw [Nat.add_sub_cancel' hl] at this
  rw [this]

/-- 0, 1, .. -/
def upL (n : Nat) : List Int := (List.range n).map fun (i : Nat) => (i : Int)
theorem upL_length (n : Nat) : (upL n).length = n := by simp [upL]
theorem upL_at {n i : Nat} (h : i < n) : (upL n)[i]? = some (i : Int) := by simp [upL, h]
theorem upL_mem {n : Nat} {x : Int} (h : x ∈ upL n) : 0 ≤ x ∧ x < n := by
  obtain ⟨i, hi, rfl⟩ := List.mem_map.1 h
  have := List.mem_range.1 hi
  omega
theorem upL_succ (n : Nat) : upL n ++ [(n : Int)] = upL (n + 1) := by simp [upL, List.range_succ]
theorem idxF_up {n i : Nat} (h : i < n) : idxF (upL n) (i : Int) = (i : Int) := by
  refine idxF_at (upL_at h) fun k hk e => ?_
  rw [upL_at (by omega)] at e
  have := Option.some.inj e
  omega
theorem idxF_upNo (n : Nat) : idxF (upL n) (n : Int) = -1 := by
  refine idxF_no fun i hi e => ?_
  rw [upL_length] at hi
  rw [upL_at hi] at e
  have := Option.some.inj e
  omega
theorem turn1_again {N M : Nat} {q : List Int} {r : Int} (hm : (turn1 N q r).1.length ≤ M) : turn1 M (upL q.length) (turn1 N q r).2 = (upL (turn1 N q r).1.length, (turn1 N q r).2) := by
  revert hm
  unfold turn1
  split
  · intro hm
    simp
  · split
    · intro hm
      simp
    · split
      · intro hm
        rw [List.length_append, List.length_singleton] at hm
        dsimp only
        rw [if_neg (by omega), if_neg (by omega), Int.add_sub_cancel, idxF_upNo, if_pos (by omega), upL_succ, upL_length, List.length_append, List.length_singleton]
      · rename_i h2
        intro hm
        dsimp only at hm ⊢
        rcases idxF_cases q (r - 1) with ⟨hj, _⟩ | ⟨j, hj, he⟩
        · omega
        · have hjl := (List.getElem?_eq_some_iff.1 he).1
          rw [hj, if_neg (by omega), if_neg (by omega), Int.add_sub_cancel, idxF_up hjl, if_neg (by omega)]
theorem turnL_again {N M : Nat} : ∀ (l q : List Int), (turnL N q l).1.length ≤ M → turnL M (upL q.length) (turnL N q l).2 = (upL (turnL N q l).1.length, (turnL N q l).2)
  | [], q, _ => rfl
  | y :: l, q, h => by
    rw [turnL] at h ⊢
    dsimp only at h ⊢
    have h1 : (turn1 N q y).1.length ≤ M := Nat.le_trans (turnL_grows N l _) h
    rw [turnL, turn1_again h1]
    dsimp only
    rw [turnL_again l _ h]
/-- A PART OF A PART IS THE PART. -/
theorem partP_again {ns : List NodeP} {n : Int} (h0 : 0 ≤ n) (h1 : n < (ns.length : Int)) : partP (partP ns n) 0 = partP ns n ∧ 1 ≤ (partP ns n).length ∧ (partP ns n).length ≤ ns.length := by
  obtain ⟨m, hm, hm1, hml, hup, hst⟩ := stP_end h0 h1
  have hp : partP ns n = (stP ns n m).2 := partP_end h0 h1 (Nat.le_of_eq hm) hml
  have hlen : (partP ns n).length = m := by rw [hp]; exact stP_len m (Nat.le_of_eq hm.symm)
  have hqm : ∀ k, k ≤ m → (stP ns n k).1.length ≤ m := by
    have step : ∀ k d, (stP ns n k).1.length ≤ (stP ns n (k + d)).1.length := by
      intro k d
      induction d with
      | zero => exact Nat.le_refl _
      | succ d ih =>
        refine Nat.le_trans ih ?_
        rw [← Nat.add_assoc]
        cases e : (stP ns n (k + d)).1[k + d]? with
        | none => rw [stP_none e]; exact Nat.le_refl _
        | some j => rw [stP_some e rfl]; exact turnL_grows _ _ _
    intro k hk
    have := step k (m - k)
    rw [Nat.add_sub_cancel' hk, hm] at this
    exact this
  have hpre : ∀ k d, ∃ e, (stP ns n (k + d)).2 = (stP ns n k).2 ++ e := by
    intro k d
    induction d with
    | zero => exact ⟨[], by simp⟩
    | succ d ih =>
      obtain ⟨e, he⟩ := ih
      rw [← Nat.add_assoc]
      cases e2 : (stP ns n (k + d)).1[k + d]? with
      | none => exact ⟨e, by rw [stP_none e2, he]⟩
      | some j => exact ⟨e ++ [_], by rw [stP_some e2 rfl, he, List.append_assoc]⟩
  have hall : ∀ k, k ≤ m → stP (partP ns n) 0 k = (upL (stP ns n k).1.length, (stP ns n k).2) := by
    intro k
    induction k with
    | zero => intro _; rfl
    | succ k ih =>
      intro hk
      have ihk := ih (by omega)
      have hk2 : k < (stP ns n k).1.length := by
        have := hup k (by omega)
        rcases Nat.lt_or_ge k (stP ns n k).1.length with h | h
        · exact h
        · have hs := stP_stop (ns := ns) (n := n) (k := k) (by omega)
          have := hs (m - k)
          rw [Nat.add_sub_cancel' (by omega)] at this
          rw [this] at hm
          omega
      obtain ⟨j, hj⟩ : ∃ j, (stP ns n k).1[k]? = some j := ⟨_, List.getElem?_eq_getElem hk2⟩
      have hj' : (stP (partP ns n) 0 k).1[k]? = some (k : Int) := by rw [ihk]; exact upL_at hk2
      have hstep := stP_some hj rfl
      obtain ⟨e, he⟩ := hpre (k + 1) (m - (k + 1))
      rw [Nat.add_sub_cancel' hk, ← hp, hstep] at he
      dsimp only at he
      have hlk : (stP ns n k).2.length = k := stP_len k (by omega)
      have hy : (partP ns n).getD ((k : Int)).toNat nodePZ = ⟨(ns.getD j.toNat nodePZ).ty, (ns.getD j.toNat nodePZ).ln, (ns.getD j.toNat nodePZ).ws, (turnL ns.length (stP ns n k).1 (ns.getD j.toNat nodePZ).rs).2⟩ := by
        rw [he, Int.toNat_natCast, List.append_assoc, List.getD_eq_getElem?_getD, List.getElem?_append_right (by omega), hlk, Nat.sub_self]
        rfl
      rw [stP_some hj' hy, hstep, ihk, hlen]
      dsimp only
      have hq := hqm (k + 1) hk
      rw [hstep] at hq
      rw [turnL_again _ _ hq]
  refine ⟨?_, by omega, by omega⟩
  have h := hall m (Nat.le_refl _)
  rw [partP_end (m := m) (by omega) (by omega) (by rw [h, upL_length, hm]; exact Nat.le_refl _) (by omega), h, hp]

end Go.Proofs.YtifdhaiihlfomaaDoor
