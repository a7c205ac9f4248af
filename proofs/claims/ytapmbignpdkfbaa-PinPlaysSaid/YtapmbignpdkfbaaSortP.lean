/-
  Sorting, plain: exchanges inside a part of a row, what is sorted, and what each step of the library's sort keeps.
-/
import Derived.Test.YtapmbignpdkfbaaLibA
namespace Go.Proofs.Ytapmbignpdkfbaa
set_option linter.unusedVariables false

/-- Two places exchanged. -/
def swpF (F : Nat → Nat) (i j : Nat) : Nat → Nat := fun k => if k = i then F j else if k = j then F i else F k

theorem swpF_l (F : Nat → Nat) (i j : Nat) : swpF F i j i = F j := by unfold swpF; rw [if_pos rfl]

theorem swpF_r (F : Nat → Nat) (i j : Nat) : swpF F i j j = F i := by
  unfold swpF
  by_cases h : j = i
  · rw [if_pos h, h]
  · rw [if_neg h, if_pos rfl]

theorem swpF_o (F : Nat → Nat) {i j k : Nat} (h : k ≠ i) (h2 : k ≠ j) : swpF F i j k = F k := by unfold swpF; rw [if_neg h, if_neg h2]

/-- Exchanges between a and b. -/
inductive Swps (a b : Nat) (F : Nat → Nat) : (Nat → Nat) → Prop
  | refl : Swps a b F F
  | step {G : Nat → Nat} {i j : Nat} : Swps a b F G → a ≤ i → i < b → a ≤ j → j < b → Swps a b F (swpF G i j)

theorem Swps.one {a b i j : Nat} (F : Nat → Nat) (h1 : a ≤ i) (h2 : i < b) (h3 : a ≤ j) (h4 : j < b) : Swps a b F (swpF F i j) := Swps.step .refl h1 h2 h3 h4

theorem Swps.trans {a b : Nat} {F G H : Nat → Nat} (h : Swps a b F G) (h2 : Swps a b G H) : Swps a b F H := by
  induction h2 with
  | refl => exact h
  | step _ h1 h2 h3 h4 ih => exact ih.step h1 h2 h3 h4

theorem Swps.mono {a b a' b' : Nat} {F G : Nat → Nat} (h : Swps a b F G) (h1 : a' ≤ a) (h2 : b ≤ b') : Swps a' b' F G := by
  induction h with
  | refl => exact .refl
  | step _ p1 p2 p3 p4 ih => exact ih.step (by omega) (by omega) (by omega) (by omega)

theorem Swps.out {a b k : Nat} {F G : Nat → Nat} (h : Swps a b F G) (hk : k < a ∨ b ≤ k) : G k = F k := by
  induction h with
  | refl => rfl
  | step _ p1 p2 p3 p4 ih => rw [swpF_o _ (by omega) (by omega), ih]

theorem Swps.all {a b : Nat} {F G : Nat → Nat} {p : Nat → Prop} (h : Swps a b F G) (hp : ∀ k, a ≤ k → k < b → p (F k)) : ∀ k, a ≤ k → k < b → p (G k) := by
  induction h with
  | refl => exact hp
  | @step G i j _ p1 p2 p3 p4 ih =>
    intro k h1 h2
    unfold swpF
    split
    · exact ih _ p3 p4
    · split
      · exact ih _ p1 p2
      · exact ih _ h1 h2

theorem map_swp (n i j : Nat) (F : Nat → Nat) (hi : i < n) (hj : j < n) : ((List.range n).map (swpF F i j)).Perm ((List.range n).map F) := by
  have h : (List.range n).map (swpF F i j) = ((List.range n).map (fun k => if k = i then j else if k = j then i else k)).map F := by
    rw [List.map_map]
    refine List.map_congr_left fun k _ => ?_
    show swpF F i j k = F (if k = i then j else if k = j then i else k)
    unfold swpF
    split
    · rfl
    · split <;> rfl
  rw [h]
  refine List.Perm.map F ?_
  have hinj : ∀ a b : Nat, (if a = i then j else if a = j then i else a) = (if b = i then j else if b = j then i else b) → a = b := by
    intro a b h
    repeat' split at h
    all_goals omega
  refine (List.perm_ext_iff_of_nodup ?_ List.nodup_range).2 fun k => ?_
  · exact List.Pairwise.map _ (fun a b hab e => hab (hinj a b e)) List.nodup_range
  · constructor
    · intro hk
      obtain ⟨x, hx, rfl⟩ := List.mem_map.1 hk
      rw [List.mem_range] at hx ⊢
      split
      · exact hj
      · split
        · exact hi
        · exact hx
    · intro hk
      rw [List.mem_range] at hk
      refine List.mem_map.2 ⟨if k = i then j else if k = j then i else k, ?_, ?_⟩
      · rw [List.mem_range]
        split
        · exact hj
        · split
          · exact hi
          · exact hk
      · repeat' split
        all_goals omega

theorem Swps.perm {a b n : Nat} {F G : Nat → Nat} (h : Swps a b F G) (hb : b ≤ n) : ((List.range n).map G).Perm ((List.range n).map F) := by
  induction h with
  | refl => exact .refl _
  | step _ p1 p2 p3 p4 ih => exact (map_swp n _ _ _ (by omega) (by omega)).trans ih

/-- Rising between a and b. -/
def SortedR (a b : Nat) (F : Nat → Nat) : Prop := ∀ i j, a ≤ i → i ≤ j → j < b → F i ≤ F j

theorem SortedR.of_next {a b : Nat} {F : Nat → Nat} (h : ∀ i, a < i → i < b → F (i - 1) ≤ F i) : SortedR a b F := by
  intro i j h1 h2 h3
  obtain ⟨d, rfl⟩ : ∃ d, j = i + d := ⟨j - i, by omega⟩
  clear h2
  induction d with
  | zero => exact Nat.le_refl _
  | succ d ih => exact Nat.le_trans (ih (by omega)) (h (i + (d + 1)) (by omega) h3)

/-- Nothing between a and b is less than what stands ahead of a. -/
def Lower (a b : Nat) (F : Nat → Nat) : Prop := a = 0 ∨ ∀ k, a ≤ k → k < b → F (a - 1) ≤ F k

theorem Lower.swps {a b : Nat} {F G : Nat → Nat} (h : Lower a b F) (hs : Swps a b F G) : Lower a b G := by
  by_cases h0 : a = 0
  · exact Or.inl h0
  · refine Or.inr ?_
    rw [hs.out (k := a - 1) (by omega)]
    rcases h with h | h
    · omega
    · exact hs.all (p := fun x => F (a - 1) ≤ x) h

/-! insertion -/

/-- The one at j is on its way down; the others up to i rise. -/
def InsAt (a i j : Nat) (H : Nat → Nat) : Prop := (∀ p q, a ≤ p → p ≤ q → q ≤ i → p ≠ j → q ≠ j → H p ≤ H q) ∧ ∀ q, j < q → q ≤ i → H j ≤ H q

theorem InsAt.start {a i : Nat} {G : Nat → Nat} (h : SortedR a i G) : InsAt a i i G :=
  ⟨fun p q h1 h2 h3 h4 h5 => h p q h1 h2 (by omega), fun q h1 h2 => by omega⟩

theorem InsAt.step {a i j : Nat} {H : Nat → Nat} (h : InsAt a i j H) (hj : a < j) (hi : j ≤ i) (hl : H j < H (j - 1)) : InsAt a i (j - 1) (swpF H j (j - 1)) := by
  have e1 := swpF_l H j (j - 1)
  have e2 := swpF_r H j (j - 1)
  refine ⟨fun p q h1 h2 h3 h4 h5 => ?_, fun q h1 h2 => ?_⟩
  · by_cases hp : p = j
    · by_cases hq : q = j
      · rw [hp, hq]; exact Nat.le_refl _
      · rw [hp, e1, swpF_o H hq h5]
        exact h.1 _ _ (by omega) (by omega) h3 (by omega) hq
    · rw [swpF_o H hp h4]
      by_cases hq : q = j
      · rw [hq, e1]
        exact h.1 _ _ h1 (by omega) (by omega) hp (by omega)
      · rw [swpF_o H hq h5]
        exact h.1 _ _ h1 h2 h3 hp hq
  · rw [e2]
    by_cases hq : q = j
    · rw [hq, e1]; omega
    · rw [swpF_o H hq (by omega)]
      exact h.2 q (by omega) h2

theorem InsAt.stop {a i j : Nat} {H : Nat → Nat} (h : InsAt a i j H) (hj : a ≤ j) (hi : j ≤ i) (hl : j = a ∨ H (j - 1) ≤ H j) : SortedR a (i + 1) H := by
  intro p q h1 h2 h3
  by_cases hp : p = j
  · by_cases hq : q = j
    · rw [hp, hq]; exact Nat.le_refl _
    · rw [hp]; exact h.2 q (by omega) (by omega)
  · by_cases hq : q = j
    · rcases hl with hl | hl
      · omega
      · rw [hq]
        exact Nat.le_trans (h.1 p (j - 1) h1 (by omega) (by omega) hp (by omega)) hl
    · exact h.1 p q h1 h2 (by omega) hp hq

/-! the heap: places as the library counts them, from f on -/

/-- c is one of p's two. -/
def Kid (p c : Nat) : Prop := c = 2 * p + 1 ∨ c = 2 * p + 2

/-- From lo on no one below hi is less than its two. -/
def HeapF (f lo hi : Nat) (G : Nat → Nat) : Prop := ∀ p c, lo ≤ p → Kid p c → c < hi → G (f + c) ≤ G (f + p)

/-- The one at r is on its way down. -/
def SiftAt (f lo hi r : Nat) (G : Nat → Nat) : Prop :=
  (∀ p c, lo ≤ p → p ≠ r → Kid p c → c < hi → G (f + c) ≤ G (f + p)) ∧ ∀ p c, lo ≤ p → Kid p r → Kid r c → c < hi → G (f + c) ≤ G (f + p)

theorem SiftAt.start {f lo hi : Nat} {G : Nat → Nat} (h : HeapF f (lo + 1) hi G) : SiftAt f lo hi lo G :=
  ⟨fun p c h1 h2 h3 h4 => h p c (by omega) h3 h4, fun p c h1 h2 h3 h4 => by unfold Kid at h2; omega⟩

theorem SiftAt.step {f lo hi r c : Nat} {G : Nat → Nat} (h : SiftAt f lo hi r G) (hlo : lo ≤ r) (hc : Kid r c) (hch : c < hi) (hl : G (f + r) < G (f + c))
    (hm : ∀ c', Kid r c' → c' < hi → G (f + c') ≤ G (f + c)) : SiftAt f lo hi c (swpF G (f + r) (f + c)) := by
  have hrc : r < c := by unfold Kid at hc; omega
  have e1 := swpF_l G (f + r) (f + c)
  have e2 := swpF_r G (f + r) (f + c)
  refine ⟨fun p d h1 h2 h3 h4 => ?_, fun p d h1 h2 h3 h4 => ?_⟩
  · by_cases hp : p = r
    · subst hp
      rw [e1]
      by_cases hd : d = c
      · rw [hd, e2]; omega
      · rw [swpF_o G (by unfold Kid at h3; omega) (by omega)]
        exact hm d h3 h4
    · rw [swpF_o G (k := f + p) (by omega) (by omega)]
      by_cases hd : d = r
      · rw [hd, e1]
        rw [hd] at h3
        exact h.2 p c h1 h3 hc hch
      · by_cases hd2 : d = c
        · unfold Kid at hc h3; omega
        · rw [swpF_o G (by omega) (by omega)]
          exact h.1 p d h1 hp h3 h4
  · have hp : p = r := by unfold Kid at hc h2; omega
    rw [hp, e1]
    have hdc : c < d := by unfold Kid at h3; omega
    rw [swpF_o G (by omega) (by omega)]
    exact h.1 c d (by omega) (by omega) h3 h4

theorem SiftAt.stop {f lo hi r : Nat} {G : Nat → Nat} (h : SiftAt f lo hi r G) (hl : ∀ c, Kid r c → c < hi → G (f + c) ≤ G (f + r)) : HeapF f lo hi G := by
  intro p c h1 h2 h3
  by_cases hp : p = r
  · rw [hp] at h2 ⊢; exact hl c h2 h3
  · exact h.1 p c h1 hp h2 h3

theorem HeapF.top {f hi : Nat} {G : Nat → Nat} (h : HeapF f 0 hi G) : ∀ c, c < hi → G (f + c) ≤ G f := by
  intro c
  induction c using Nat.strongRecOn with
  | ind c ih =>
    intro hc
    by_cases h0 : c = 0
    · rw [h0]; exact Nat.le_refl _
    · have h1 := h ((c - 1) / 2) c (Nat.zero_le _) (by unfold Kid; omega) hc
      exact Nat.le_trans h1 (ih ((c - 1) / 2) (by omega) (by omega))

theorem HeapF.last {f hi : Nat} {G : Nat → Nat} {k : Nat} (h : hi ≤ 2 * k + 1) : HeapF f k hi G := fun p c h1 h2 h3 => by unfold Kid at h2; omega

/-- A heap of i, the others rise behind it, and are no less. -/
def PopAt (f i hi : Nat) (G : Nat → Nat) : Prop := HeapF f 0 i G ∧ (∀ p q, i ≤ p → p ≤ q → q < hi → G (f + p) ≤ G (f + q)) ∧ ∀ p q, p < i → i ≤ q → q < hi → G (f + p) ≤ G (f + q)

theorem PopAt.start {f hi : Nat} {G : Nat → Nat} (h : HeapF f 0 hi G) : PopAt f hi hi G := ⟨h, fun p q h1 h2 h3 => by omega, fun p q h1 h2 h3 => by omega⟩

/-- The first one is laid last. -/
theorem PopAt.swap {f i hi : Nat} {G : Nat → Nat} (h : PopAt f (i + 1) hi G) (hi' : i + 1 ≤ hi) : HeapF f 1 i (swpF G f (f + i)) ∧ (∀ p q, i ≤ p → p ≤ q → q < hi → swpF G f (f + i) (f + p) ≤ swpF G f (f + i) (f + q)) ∧ ∀ p q, p < i → i ≤ q → q < hi → swpF G f (f + i) (f + p) ≤ swpF G f (f + i) (f + q) := by
  have e1 := swpF_l G f (f + i)
  have e2 := swpF_r G f (f + i)
  have ht := h.1.top
  refine ⟨fun p c h1 h2 h3 => ?_, fun p q h1 h2 h3 => ?_, fun p q h1 h2 h3 => ?_⟩
  · have : p < c := by unfold Kid at h2; omega
    rw [swpF_o G (by omega) (by omega), swpF_o G (by omega) (by omega)]
    exact h.1 p c (by omega) h2 (by omega)
  · by_cases hp : p = i
    · by_cases hq : q = i
      · rw [hp, hq]; exact Nat.le_refl _
      · rw [hp, e2, swpF_o G (k := f + q) (by omega) (by omega)]
        have := h.2.2 0 q (by omega) (by omega) h3
        exact this
    · rw [swpF_o G (k := f + p) (by omega) (by omega), swpF_o G (k := f + q) (by omega) (by omega)]
      exact h.2.1 p q (by omega) h2 h3
  · have hx : ∀ x, x < i → swpF G f (f + i) (f + x) ≤ G f := by
      intro x hx
      unfold swpF
      split
      · exact ht i (by omega)
      · split
        · omega
        · exact ht x (by omega)
    refine Nat.le_trans (hx p h1) ?_
    by_cases hq : q = i
    · rw [hq, e2]; exact Nat.le_refl _
    · rw [swpF_o G (k := f + q) (by omega) (by omega)]
      exact h.2.2 0 q (by omega) (by omega) h3

theorem PopAt.next {f i hi : Nat} {G H : Nat → Nat} (h : (∀ p q, i ≤ p → p ≤ q → q < hi → G (f + p) ≤ G (f + q)) ∧ ∀ p q, p < i → i ≤ q → q < hi → G (f + p) ≤ G (f + q)) (hs : Swps f (f + i) G H) (hH : HeapF f 0 i H) : PopAt f i hi H := by
  refine ⟨hH, fun p q h1 h2 h3 => ?_, fun p q h1 h2 h3 => ?_⟩
  · rw [hs.out (by omega), hs.out (by omega)]; exact h.1 p q h1 h2 h3
  · rw [hs.out (k := f + q) (by omega)]
    refine hs.all (p := fun x => x ≤ G (f + q)) (fun k h4 h5 => ?_) (f + p) (by omega) (by omega)
    have := h.2 (k - f) q (by omega) h2 h3
    rwa [show f + (k - f) = k by omega] at this

theorem PopAt.done {f hi : Nat} {G : Nat → Nat} (h : PopAt f 0 hi G) : SortedR f (f + hi) G := by
  intro i j h1 h2 h3
  have := h.2.1 (i - f) (j - f) (by omega) (by omega) (by omega)
  rwa [show f + (i - f) = i by omega, show f + (j - f) = j by omega] at this

/-! the parts -/

/-- Between a and i all are less than x, from j on none is. -/
def PartAt (a b i j x : Nat) (G : Nat → Nat) : Prop := G a = x ∧ (∀ k, a < k → k < i → G k < x) ∧ ∀ k, j < k → k < b → x ≤ G k

theorem PartAt.swap {a b i j x : Nat} {G : Nat → Nat} (h : PartAt a b i j x G) (hi : a < i) (hj : i ≤ j) (hb : j < b) (h1 : x ≤ G i) (h2 : G j < x) : PartAt a b (i + 1) (j - 1) x (swpF G i j) := by
  have hij : i < j := by
    rcases Nat.lt_or_eq_of_le hj with h3 | h3
    · exact h3
    · subst h3; omega
  refine ⟨by rw [swpF_o G (by omega) (by omega)]; exact h.1, fun k q1 q2 => ?_, fun k q1 q2 => ?_⟩
  · by_cases hk : k = i
    · rw [hk, swpF_l]; exact h2
    · rw [swpF_o G hk (by omega)]; exact h.2.1 k q1 (by omega)
  · by_cases hk : k = j
    · rw [hk, swpF_r]; exact h1
    · rw [swpF_o G (by omega) hk]; exact h.2.2 k (by omega) q2

/-- What a partition leaves: the one at m stands right. -/
def Parted (a b m : Nat) (G : Nat → Nat) : Prop := (∀ k, a ≤ k → k < m → G k ≤ G m) ∧ ∀ k, m < k → k < b → G m ≤ G k

theorem PartAt.done {a b i j x : Nat} {G : Nat → Nat} (h : PartAt a b i j x G) (hi : a < i) (hj : j < i) (ha : i ≤ j + 1) (hb : j < b) : Parted a b j (swpF G j a) := by
  have hx := h.1
  have e1 := swpF_l G j a
  have e2 := swpF_r G j a
  rw [hx] at e1
  refine ⟨fun k q1 q2 => ?_, fun k q1 q2 => ?_⟩
  · rw [e1]
    by_cases hk : k = a
    · rw [hk, e2]
      exact Nat.le_of_lt (h.2.1 j (by omega) (by omega))
    · rw [swpF_o G (by omega) hk]
      exact Nat.le_of_lt (h.2.1 k (by omega) (by omega))
  · rw [e1, swpF_o G (by omega) (by omega)]
    exact h.2.2 k q1 q2

/-- Between a and i all are at most x, from j on all are more. -/
def EqAt' (a b i j x : Nat) (G : Nat → Nat) : Prop := G a = x ∧ (∀ k, a < k → k < i → G k ≤ x) ∧ ∀ k, j < k → k < b → x < G k

theorem EqAt'.swap {a b i j x : Nat} {G : Nat → Nat} (h : EqAt' a b i j x G) (hi : a < i) (hj : i ≤ j) (hb : j < b) (h1 : x < G i) (h2 : G j ≤ x) : EqAt' a b (i + 1) (j - 1) x (swpF G i j) := by
  have hij : i < j := by
    rcases Nat.lt_or_eq_of_le hj with h3 | h3
    · exact h3
    · subst h3; omega
  refine ⟨by rw [swpF_o G (by omega) (by omega)]; exact h.1, fun k q1 q2 => ?_, fun k q1 q2 => ?_⟩
  · by_cases hk : k = i
    · rw [hk, swpF_l]; exact h2
    · rw [swpF_o G hk (by omega)]; exact h.2.1 k q1 (by omega)
  · by_cases hk : k = j
    · rw [hk, swpF_r]; exact h1
    · rw [swpF_o G (by omega) hk]; exact h.2.2 k (by omega) q2

/-- What partitionEqual leaves. -/
def Evened (a b m x : Nat) (G : Nat → Nat) : Prop := (∀ k, a ≤ k → k < m → G k ≤ x) ∧ ∀ k, m ≤ k → k < b → x ≤ G k

theorem EqAt'.done {a b i j x : Nat} {G : Nat → Nat} (h : EqAt' a b i j x G) (hj : j < i) : Evened a b i x G := by
  refine ⟨fun k q1 q2 => ?_, fun k q1 q2 => Nat.le_of_lt (h.2.2 k (by omega) q2)⟩
  by_cases hk : k = a
  · rw [hk, h.1]; exact Nat.le_refl _
  · exact h.2.1 k (by omega) q2

/-! the sort's own loop: what is left is between a' and b' -/

/-- Who sorts what is left has sorted all. -/
def RestR (a b a' b' : Nat) (G : Nat → Nat) : Prop := ∀ H, Swps a' b' G H → SortedR a' b' H → SortedR a b H

theorem RestR.start (a b : Nat) (F : Nat → Nat) : RestR a b a b F := fun H _ h => h

theorem RestR.swps {a b a' b' : Nat} {G G' : Nat → Nat} (h : RestR a b a' b' G) (hs : Swps a' b' G G') : RestR a b a' b' G' := fun H h1 h2 => h H (hs.trans h1) h2

theorem RestR.right {a b a' b' m : Nat} {G G1 : Nat → Nat} (h : RestR a b a' b' G) (hm : a' ≤ m) (hb : m < b') (hp : Parted a' b' m G) (hs : Swps a' m G G1) (ho : SortedR a' m G1) : RestR a b (m + 1) b' G1 := by
  intro H h1 h2
  refine h H ((hs.mono (Nat.le_refl _) (by omega)).trans (h1.mono (by omega) (Nat.le_refl _))) ?_
  have e : ∀ k, k ≤ m → H k = G1 k := fun k hk => h1.out (by omega)
  have em : H m = G m := by rw [e m (Nat.le_refl _), hs.out (by omega)]
  have hl : ∀ k, a' ≤ k → k < m → H k ≤ G m := fun k q1 q2 => by
    rw [e k (by omega)]
    exact hs.all (p := fun x => x ≤ G m) hp.1 k q1 q2
  have hr : ∀ k, m + 1 ≤ k → k < b' → G m ≤ H k := by
    refine h1.all (p := fun x => G m ≤ x) fun k q1 q2 => ?_
    rw [hs.out (by omega)]
    exact hp.2 k (by omega) q2
  intro i j q1 q2 q3
  by_cases hi : m + 1 ≤ i
  · exact h2 i j hi q2 q3
  · by_cases hj : m + 1 ≤ j
    · by_cases him : i = m
      · rw [him, em]; exact hr j hj q3
      · exact Nat.le_trans (hl i q1 (by omega)) (hr j hj q3)
    · by_cases hjm : j = m
      · by_cases him : i = m
        · rw [him, hjm]; exact Nat.le_refl _
        · rw [hjm, em]; exact hl i q1 (by omega)
      · rw [e i (by omega), e j (by omega)]; exact ho i j q1 q2 (by omega)

theorem RestR.left {a b a' b' m : Nat} {G G1 : Nat → Nat} (h : RestR a b a' b' G) (hm : a' ≤ m) (hb : m < b') (hp : Parted a' b' m G) (hs : Swps (m + 1) b' G G1) (ho : SortedR (m + 1) b' G1) : RestR a b a' m G1 := by
  intro H h1 h2
  refine h H ((hs.mono (by omega) (Nat.le_refl _)).trans (h1.mono (Nat.le_refl _) (by omega))) ?_
  have e : ∀ k, m ≤ k → H k = G1 k := fun k hk => h1.out (by omega)
  have em : H m = G m := by rw [e m (Nat.le_refl _), hs.out (by omega)]
  have hr : ∀ k, m + 1 ≤ k → k < b' → G m ≤ H k := fun k q1 q2 => by
    rw [e k (by omega)]
    exact hs.all (p := fun x => G m ≤ x) (fun k q1 q2 => hp.2 k (by omega) q2) k q1 q2
  have hl : ∀ k, a' ≤ k → k < m → H k ≤ G m := by
    refine h1.all (p := fun x => x ≤ G m) fun k q1 q2 => ?_
    rw [hs.out (by omega)]
    exact hp.1 k q1 q2
  intro i j q1 q2 q3
  by_cases hj : j < m
  · exact h2 i j q1 q2 hj
  · by_cases hi : i < m
    · by_cases hjm : j = m
      · rw [hjm, em]; exact hl i q1 hi
      · exact Nat.le_trans (hl i q1 hi) (hr j (by omega) q3)
    · by_cases him : i = m
      · by_cases hjm : j = m
        · rw [him, hjm]; exact Nat.le_refl _
        · rw [him, em]; exact hr j (by omega) q3
      · rw [e i (by omega), e j (by omega)]; exact ho i j (by omega) q2 q3

theorem RestR.even {a b a' b' m x : Nat} {G G1 : Nat → Nat} (h : RestR a b a' b' G) (hm : a' < m) (hb : m ≤ b') (hs : Swps a' b' G G1) (he : Evened a' b' m x G1) (hx : ∀ k, a' ≤ k → k < b' → x ≤ G k) : RestR a b m b' G1 := by
  intro H h1 h2
  refine h H (hs.trans (h1.mono (by omega) (Nat.le_refl _))) ?_
  have hx1 : ∀ k, a' ≤ k → k < b' → x ≤ G1 k := hs.all (p := fun y => x ≤ y) hx
  have e : ∀ k, a' ≤ k → k < m → H k = x := fun k q1 q2 => by
    rw [h1.out (by omega)]
    have := he.1 k q1 q2
    have := hx1 k q1 (by omega)
    omega
  have hr : ∀ k, m ≤ k → k < b' → x ≤ H k := h1.all (p := fun y => x ≤ y) he.2
  intro i j q1 q2 q3
  by_cases hi : m ≤ i
  · exact h2 i j hi q2 q3
  · rw [e i q1 (by omega)]
    by_cases hj : m ≤ j
    · exact hr j hj q3
    · rw [e j (by omega) (by omega)]; exact Nat.le_refl _

theorem Lower.right {a b m : Nat} {G : Nat → Nat} (hp : Parted a b m G) : Lower (m + 1) b G := Or.inr fun k h1 h2 => hp.2 k (by omega) h2

theorem Lower.left {a b m : Nat} {G : Nat → Nat} (h : Lower a b G) (hm : m ≤ b) : Lower a m G := by
  rcases h with h | h
  · exact Or.inl h
  · exact Or.inr fun k h1 h2 => h k h1 (by omega)

theorem Lower.even {a b m x : Nat} {G : Nat → Nat} (hm : a < m) (he : Evened a b m x G) : Lower m b G := Or.inr fun k h1 h2 => Nat.le_trans (he.1 (m - 1) (by omega) (by omega)) (he.2 k h1 h2)

end Go.Proofs.Ytapmbignpdkfbaa
