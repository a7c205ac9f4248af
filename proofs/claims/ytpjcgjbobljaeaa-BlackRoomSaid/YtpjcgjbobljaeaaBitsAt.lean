/-
  How a row of bits lies in memory, and the plain facts on its words.
-/
import Derived.Test.YtpjcgjbobljaeaaBitsIter
namespace Go.Proofs.Ytpjcgjbobljaeaa
open Go.RowKit
set_option linter.unusedVariables false

/-- Bit i of a row of words. -/
def bitOf (ws : List Nat) (i : Nat) : Bool := (ws.getD (i / 64) 0).testBit (i % 64)

/-- The words ws, of n bits, lie at p, their row at q. -/
structure WordsAt (w : World) (p q : Nat) (ws : List Nat) (n : Nat) : Prop where
  hp : ∃ cap, w.heap[p]? = some (.cells #[.slice (some ⟨q, 0, none⟩) ws.length cap, .int .i64 (n : Nat)] 75 (0, 0))
  hq : ∃ cs, w.heap[q]? = some (.cells cs 70 (0, 0)) ∧ ∀ j, j < ws.length → cs[j]? = some (.int .u64 (ws.getD j 0 : Nat))
  len : ws.length = (n + 63) / 64
  small : n ≤ 65536
  fits : ∀ j, ws.getD j 0 < 18446744073709551616

/-- The n bits f lie at p, their row at q. -/
def BitsAt (w : World) (p q : Nat) (f : Nat → Bool) (n : Nat) : Prop := ∃ ws, WordsAt w p q ws n ∧ ∀ i, i < n → bitOf ws i = f i

theorem WordsAt.keep {S : Nat → Prop} {w w' : World} {p q n : Nat} {ws : List Nat} (h : WordsAt w p q ws n) (k : Keep S w w') (hp : ¬ S p) (hq : ¬ S q) : WordsAt w' p q ws n := by
  obtain ⟨cap, h1⟩ := h.hp
  obtain ⟨cs, h2, h3⟩ := h.hq
  exact ⟨⟨cap, k.at_ h1 hp⟩, ⟨cs, k.at_ h2 hq, h3⟩, h.len, h.small, h.fits⟩

theorem BitsAt.keep {S : Nat → Prop} {w w' : World} {p q n : Nat} {f : Nat → Bool} (h : BitsAt w p q f n) (k : Keep S w w') (hp : ¬ S p) (hq : ¬ S q) : BitsAt w' p q f n :=
  let ⟨ws, a, b⟩ := h; ⟨ws, a.keep k hp hq, b⟩

theorem cell_of_two {w : World} {b : Nat} {u v : Value} {t : TypeId} (h : w.heap[b]? = some (.cells #[u, v] t (0, 0))) : w.cell? ⟨b, 0, none⟩ = some u ∧ w.cell? ⟨b, 1, none⟩ = some v := by
  simp [World.cell?, h]

theorem free_of_block {w : World} {b : Nat} {cs : Array Value} {t : TypeId} (h : w.heap[b]? = some (.cells cs t (0, 0))) (j : Nat) : w.frozen? ⟨b, j, none⟩ = false := by simp [World.frozen?, h]

theorem lt_of_heap {w : World} {b : Nat} {o : Obj} (h : w.heap[b]? = some o) : b < w.heap.size := (Array.getElem?_eq_some_iff.1 h).1

theorem alloc_new' (w : World) (o : Obj) {k : Nat} (h : k = w.heap.size) : (w.alloc o).heap[k]? = some o := by subst h; exact World.alloc_heap_new w o

theorem WordsAt.lt_p {w : World} {p q n : Nat} {ws : List Nat} (h : WordsAt w p q ws n) : p < w.heap.size := by obtain ⟨_, h⟩ := h.hp; exact lt_of_heap h
theorem WordsAt.lt_q {w : World} {p q n : Nat} {ws : List Nat} (h : WordsAt w p q ws n) : q < w.heap.size := by obtain ⟨_, h, _⟩ := h.hq; exact lt_of_heap h
theorem WordsAt.ne {w : World} {p q n : Nat} {ws : List Nat} (h : WordsAt w p q ws n) : p ≠ q := by
  obtain ⟨_, h1⟩ := h.hp
  obtain ⟨_, h2, _⟩ := h.hq
  intro e; subst e; rw [h1] at h2; injection h2 with h2; injection h2 with _ h2 _; revert h2; decide

/-- What a walk reads of a row of words. -/
theorem WordsAt.reads {w : World} {p q n : Nat} {ws : List Nat} (h : WordsAt w p q ws n) :
    (∃ cap, w.cell? ⟨p, 0, none⟩ = some (.slice (some ⟨q, 0, none⟩) ws.length cap)) ∧ w.cell? ⟨p, 1, none⟩ = some (.int .i64 (n : Nat)) ∧
    (∀ j, j < ws.length → w.cell? ⟨q, j, none⟩ = some (.int .u64 (ws.getD j 0 : Nat))) ∧ (∀ j, w.frozen? ⟨q, j, none⟩ = false) := by
  obtain ⟨cap, h1⟩ := h.hp
  obtain ⟨cs, h2, h3⟩ := h.hq
  refine ⟨⟨cap, (cell_of_two h1).1⟩, (cell_of_two h1).2, fun j hj => ?_, free_of_block h2⟩
  have := h3 j hj
  simp only [World.cell?, h2]; simpa using this

theorem WordsAt.word {w : World} {p q n : Nat} {ws : List Nat} (h : WordsAt w p q ws n) (j : Nat) (hj : j < ws.length) :
    ∃ v : Nat, v < 18446744073709551616 ∧ w.cell? ⟨q, j, none⟩ = some (.int .u64 (v : Nat)) ∧ w.frozen? ⟨q, j, none⟩ = false ∧ Seal (ws.getD j 0 = v) :=
  ⟨_, h.fits j, h.reads.2.2.1 j hj, h.reads.2.2.2 j, ⟨rfl⟩⟩

theorem block_setCell {w : World} {b j : Nat} {cs : Array Value} {t : TypeId} (h : w.heap[b]? = some (.cells cs t (0, 0))) (v : Value) : (w.setCell ⟨b, j, none⟩ v).heap[b]? = some (.cells (cs.setIfInBounds j v) t (0, 0)) := by
  have hlt := lt_of_heap h
  have h' : w.heap[b] = .cells cs t (0, 0) := by simpa [Array.getElem?_eq_getElem hlt] using h
  show (w.heap.modify b _)[b]? = _
  rw [Array.getElem?_eq_getElem (by simpa using hlt), Array.getElem_modify_self, h']
  rfl

/-- A word is stored. -/
theorem WordsAt.store {w : World} {p q n : Nat} {ws : List Nat} (h : WordsAt w p q ws n) {j v : Nat} (hj : j < ws.length) (hv : v < 18446744073709551616) :
    WordsAt (w.setCell ⟨q, j, none⟩ (.int .u64 (v : Nat))) p q (ws.set j v) n := by
  obtain ⟨cap, h1⟩ := h.hp
  obtain ⟨cs, h2, h3⟩ := h.hq
  refine ⟨⟨cap, ?_⟩, ⟨_, block_setCell h2 _, fun i hi => ?_⟩, by simpa using h.len, h.small, fun i => ?_⟩
  · rw [List.length_set]; exact (Below.heap_setCell _ _ _ _ h.ne).trans h1
  · simp only [List.length_set] at hi
    rw [Array.getElem?_setIfInBounds, List.getD_eq_getElem?_getD, List.getElem?_set]
    by_cases e : j = i
    · subst e
      have hc := h3 j hj
      have : j < cs.size := (Array.getElem?_eq_some_iff.1 hc).1
      simp [this, hj]
    · simp only [e, if_false]; rw [h3 i hi, List.getD_eq_getElem?_getD]
  · rw [List.getD_eq_getElem?_getD, List.getElem?_set]
    by_cases e : j = i
    · subst e; simp [hj, hv]
    · simp only [e, if_false]; rw [← List.getD_eq_getElem?_getD]; exact h.fits i

theorem bitOf_set {ws : List Nat} {j v i : Nat} (hj : j < ws.length) : bitOf (ws.set j v) i = if i / 64 = j then v.testBit (i % 64) else bitOf ws i := by
  unfold bitOf
  rw [List.getD_eq_getElem?_getD, List.getElem?_set]
  by_cases e : j = i / 64
  · rw [if_pos e, if_pos e.symm, if_pos (by omega)]; rfl
  · rw [if_neg e, if_neg (fun h => e h.symm), ← List.getD_eq_getElem?_getD]

/-- Which bits pieces hold. -/
def inPcs (l : List (Nat × Nat × Nat)) (i : Nat) : Bool := l.any fun x => decide (x.1 = i / 64 ∧ x.2.1 ≤ i % 64 ∧ i % 64 < x.2.1 + x.2.2)

theorem inPcs_nil (i : Nat) : inPcs [] i = false := rfl
theorem inPcs_snoc (l : List (Nat × Nat × Nat)) (x : Nat × Nat × Nat) (i : Nat) : inPcs (l ++ [x]) i = (inPcs l i || decide (x.1 = i / 64 ∧ x.2.1 ≤ i % 64 ∧ i % 64 < x.2.1 + x.2.2)) := by
  simp [inPcs]

theorem inPcsF : ∀ (f i n k : Nat), n ≤ f → inPcs (pcsF f i n) k = decide (i ≤ k ∧ k < i + n)
  | 0, i, n, k, h => by simp [pcsF, inPcs]; omega
  | f + 1, i, n, k, h => by
    simp only [pcsF]
    by_cases h0 : n = 0
    · rw [if_pos h0]; simp [inPcs]; omega
    · rw [if_neg h0]
      have ih := inPcsF f (i + min n (64 - i % 64)) (n - min n (64 - i % 64)) k (by omega)
      unfold inPcs at ih ⊢
      rw [List.any_cons, ih, Bool.eq_iff_iff]
      simp only [Bool.or_eq_true, decide_eq_true_eq]
      have hm : min n (64 - i % 64) = n ∨ min n (64 - i % 64) = 64 - i % 64 := by omega
      rcases hm with hm | hm <;> rw [hm] <;> omega

theorem inPcs_pcs (i n k : Nat) : inPcs (pcs i n) k = decide (i ≤ k ∧ k < i + n) := inPcsF n i n k (Nat.le_refl _)

/-- Each piece lies in a word, and within the run. -/
theorem pcsF_mem : ∀ (f i n : Nat) (x : Nat × Nat × Nat), x ∈ pcsF f i n → 0 < x.2.2 ∧ x.2.1 + x.2.2 ≤ 64 ∧ i ≤ x.1 * 64 + x.2.1 ∧ x.1 * 64 + x.2.1 + x.2.2 ≤ i + n
  | 0, _, _, _, h => by simp [pcsF] at h
  | f + 1, i, n, x, h => by
    simp only [pcsF] at h
    by_cases h0 : n = 0
    · rw [if_pos h0] at h; simp at h
    · rw [if_neg h0] at h
      rcases List.mem_cons.1 h with rfl | h
      · dsimp only; omega
      · have := pcsF_mem f _ _ x h
        omega

theorem pcs_mem {i n : Nat} {x : Nat × Nat × Nat} (h : x ∈ pcs i n) : 0 < x.2.2 ∧ x.2.1 + x.2.2 ≤ 64 ∧ i ≤ x.1 * 64 + x.2.1 ∧ x.1 * 64 + x.2.1 + x.2.2 ≤ i + n := pcsF_mem n i n x h

/-- The mask of a piece. -/
theorem testBit_pmask (b k i : Nat) : (pmk b k).testBit i = decide (b ≤ i ∧ i < b + k) := by
  unfold pmk
  rw [Nat.mul_comm, Nat.testBit_two_pow_mul, Nat.testBit_two_pow_sub_one, Bool.eq_iff_iff]
  simp only [Bool.and_eq_true, decide_eq_true_eq]; omega

theorem pmask_lt {b k : Nat} (h : b + k ≤ 64) : pmk b k < 18446744073709551616 := by
  unfold pmk
  have := Wd.mask_lt (at_ := b) (n := k) h
  rwa [Wd.two64] at this

end Go.Proofs.Ytpjcgjbobljaeaa
