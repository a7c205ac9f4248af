/-
 Runs of granules (plain): joined where they touch, the water between them, what they cover, how many there are.
 Islands of a space's cells (plain): which runs pinned objects make; rows in order, each once.
 Islands of a space's cells (plain): what is said of them.
 The water between runs, one run after the other (plain); where a list of cells parts at a granule.
-/
import Derived.Test.YtgccjhnafhlndaaGreatDoorLibA
import Derived.Test.YtgccjhnafhlndaaGreatDoorWalkCheck
import Derived.Test.YtgccjhnafhlndaaGreatDoorSettleA
namespace Go.Proofs.YtgccjhnafhlndaaGreatDoor
set_option linter.unusedVariables false

def Ch (L : List (Nat × Nat)) (g : Nat) : Bool := L.any λ r => decide (r.1 <= g /\ g < r.1 + r.2)

def Bw : Nat -> List (Nat × Nat) -> Nat -> Prop
 | e, [], H => e <= H
 | e, r :: L, H => e <= r.1 /\ 0 < r.2 /\ Bw (r.1 + r.2) L H

def ApartR : Nat -> List (Nat × Nat) -> Nat -> Prop
 | e, [], H => e <= H
 | e, r :: L, H => e < r.1 /\ 0 < r.2 /\ ApartR (r.1 + r.2) L H

def Ed : List (Nat × Nat) -> Nat -> Prop
 | [], H => True
 | r :: L, H => 0 < r.2 /\ ApartR (r.1 + r.2) L H

theorem ApartR.rise : ∀ {L : List (Nat × Nat)} {e H : Nat}, ApartR e L H -> Bw e L H
 | [], e, H, h => h
 | r :: L, e, H, ⟨h1, h2, h3⟩ => ⟨Nat.le_of_lt h1, h2, h3.rise⟩

theorem Ed.rise {L : List (Nat × Nat)} {H : Nat} (h : Ed L H) : Bw 0 L H := by
 cases L with
 | nil => exact Nat.zero_le _
 | cons r L => exact ⟨Nat.zero_le _, h.1, h.2.rise⟩

theorem Bw.le : ∀ {L : List (Nat × Nat)} {e H : Nat}, Bw e L H -> e <= H
 | [], e, H, h => h
 | r :: L, e, H, ⟨h1, h2, h3⟩ => by have := h3.le; omega

theorem Bw.cov_lt : ∀ {L : List (Nat × Nat)} {e H g : Nat}, Bw e L H -> Ch L g = true -> e <= g /\ g < H
 | [], e, H, g, h, hc => by simp [Ch] at hc
 | r :: L, e, H, g, ⟨h1, h2, h3⟩, hc => by
  unfold Ch at hc
  rw [List.any_cons, Bool.or_eq_true, decide_eq_true_eq] at hc
  have := h3.le
  rcases hc with h | h
  ·omega
  ·have := h3.cov_lt (g := g) h
   omega

theorem El (r : Nat × Nat) (L : List (Nat × Nat)) (g : Nat) : Ch (r :: L) g = (decide (r.1 <= g /\ g < r.1 + r.2) || Ch L g) := rfl

theorem cov_app (L M : List (Nat × Nat)) (g : Nat) : Ch (L ++ M) g = (Ch L g || Ch M g) := by simp [Ch]

def BB : Nat × Nat -> List (Nat × Nat) -> List (Nat × Nat)
 | c, [] => [c]
 | c, r :: rs => if c.1 + c.2 = r.1 then BB (c.1, c.2 + r.2) rs else c :: BB r rs

def CU : List (Nat × Nat) -> List (Nat × Nat)
 | [] => []
 | r :: rs => BB r rs

def joinL (l : List (Nat × Nat)) (r : Nat × Nat) : List (Nat × Nat) :=
 match l.getLast? with
 | some x => if x.1 + x.2 = r.1 then l.dropLast ++ [(x.1, x.2 + r.2)] else l ++ [r]
 | none => [r]

theorem joinGo_ne : ∀ (c : Nat × Nat) (rs : List (Nat × Nat)), BB c rs ≠ []
 | c, [] => by simp [BB]
 | c, r :: rs => by
  unfold BB
  split
  ·exact joinGo_ne _ _
  ·simp

theorem joinL_cons {c : Nat × Nat} {M : List (Nat × Nat)} (h : M ≠ []) (r : Nat × Nat) : joinL (c :: M) r = c :: joinL M r := by
 cases M with
 | nil => exact absurd rfl h
 | cons d M =>
  unfold joinL
  rw [List.getLast?_cons_cons]
  cases hh : (d :: M).getLast? with
  | none => simp at hh
  | some x =>
   dsimp only
   split
   ·rw [List.dropLast_cons_of_ne_nil (by simp)]
    rfl
   ·rfl

theorem joinGo_snoc : ∀ (c : Nat × Nat) (rs : List (Nat × Nat)) (r : Nat × Nat), BB c (rs ++ [r]) = joinL (BB c rs) r
 | c, [], r => by
  simp only [List.nil_append, BB, joinL, List.getLast?_singleton]
  split <;> rfl
 | c, x :: rs, r => by
  simp only [List.cons_append, BB]
  split
  ·exact joinGo_snoc _ rs r
  ·rw [joinGo_snoc x rs r, joinL_cons (joinGo_ne _ _)]

theorem joinsR_snoc (rs : List (Nat × Nat)) (r : Nat × Nat) : CU (rs ++ [r]) = joinL (CU rs) r := by
 cases rs with
 | nil => rfl
 | cons x rs => exact joinGo_snoc x rs r

theorem joinGo_apart : ∀ {rs : List (Nat × Nat)} {c : Nat × Nat} {H : Nat}, 0 < c.2 -> Bw (c.1 + c.2) rs H -> ∃ n M, BB c rs = (c.1, n) :: M /\ 0 < n /\ ApartR (c.1 + n) M H
 | [], c, H, h0, h => ⟨c.2, [], rfl, h0, h⟩
 | r :: rs, c, H, h0, ⟨h1, h2, h3⟩ => by
  unfold BB
  split
  ·rename_i e
   exact joinGo_apart (c := (c.1, c.2 + r.2)) (by simp only; omega) (by rw [show (c.1, c.2 + r.2).1 + (c.1, c.2 + r.2).2 = r.1 + r.2 by simp only; omega]; exact h3)
  ·rename_i e
   obtain ⟨n, M, e1, e2, e3⟩ := joinGo_apart (c := r) h2 h3
   exact ⟨c.2, BB r rs, rfl, h0, by rw [e1]; exact ⟨by simp only; omega, e2, e3⟩⟩

theorem joinsR_apart {rs : List (Nat × Nat)} {H : Nat} (h : Bw 0 rs H) : Ed (CU rs) H := by
 cases rs with
 | nil => trivial
 | cons r rs =>
  obtain ⟨h1, h2, h3⟩ := h
  obtain ⟨n, M, e1, e2, e3⟩ := joinGo_apart h2 h3
  show Ed (BB r rs) H
  rw [e1]
  exact ⟨e2, e3⟩

theorem joinGo_cov : ∀ {rs : List (Nat × Nat)} {c : Nat × Nat} {H : Nat}, Bw (c.1 + c.2) rs H -> ∀ g, Ch (BB c rs) g = Ch (c :: rs) g
 | [], c, H, h, g => rfl
 | r :: rs, c, H, ⟨h1, h2, h3⟩, g => by
  unfold BB
  split
  ·rename_i e
   rw [joinGo_cov (c := (c.1, c.2 + r.2)) (H := H) (by rw [show (c.1, c.2 + r.2).1 + (c.1, c.2 + r.2).2 = r.1 + r.2 by simp only; omega]; exact h3) g]
   rw [El, El, El, <- Bool.or_assoc]
   congr 1
   rw [<- Bool.decide_or]
   refine decide_eq_decide.2 ?_
   simp only
   omega
  ·rw [El, joinGo_cov h3 g, El c]

theorem joinsR_cov {rs : List (Nat × Nat)} {H : Nat} (h : Bw 0 rs H) (g : Nat) : Ch (CU rs) g = Ch rs g := by
 cases rs with
 | nil => rfl
 | cons r rs => exact joinGo_cov h.2.2 g

def AV : Nat -> List (Nat × Nat) -> Nat -> List (Nat × Nat)
 | e, [], H => if e < H then [(e, H - e)] else []
 | e, r :: L, H => (if e < r.1 then [(e, r.1 - e)] else []) ++ AV (r.1 + r.2) L H

def CE : List (Nat × Nat) -> Nat
 | [] => 0
 | r :: L => r.2 + CE L

theorem sumR_app : ∀ (L M : List (Nat × Nat)), CE (L ++ M) = CE L + CE M
 | [], M => by simp [CE]
 | r :: L, M => by simp only [List.cons_append, CE, sumR_app L M]; omega

theorem water_sum : ∀ {L : List (Nat × Nat)} {e H : Nat}, Bw e L H -> CE (AV e L H) + CE L = H - e
 | [], e, H, h => by
  unfold AV
  split <;> simp [CE]
  omega
 | r :: L, e, H, ⟨h1, h2, h3⟩ => by
  have h4 := water_sum h3
  have h5 := h3.le
  unfold AV
  rw [sumR_app]
  simp only [CE]
  split <;> simp only [CE] <;> omega

theorem water_cov : ∀ {L : List (Nat × Nat)} {e H : Nat}, Bw e L H -> ∀ g, Ch (AV e L H) g = (decide (e <= g /\ g < H) && !Ch L g)
 | [], e, H, h, g => by
  unfold AV
  split
  ·simp only [Ch, List.any_cons, List.any_nil, Bool.or_false, Bool.not_false, Bool.and_true]
   refine decide_eq_decide.2 ?_
   omega
  ·simp only [Ch, List.any_nil, Bool.not_false, Bool.and_true]
   exact (decide_eq_false (by omega)).symm
 | r :: L, e, H, ⟨h1, h2, h3⟩, g => by
  have h4 := water_cov h3 g
  have h5 := h3.le
  unfold AV
  rw [cov_app, h4, El]
  have h6 : Ch L g = true -> r.1 + r.2 <= g /\ g < H := λ hc => h3.cov_lt hc
  by_cases hL : Ch L g = true
  ·have := h6 hL
   rw [hL]
   simp only [Bool.not_true, Bool.and_false, Bool.or_true, Bool.or_false]
   split
   ·simp only [Ch, List.any_cons, List.any_nil, Bool.or_false]
    exact decide_eq_false (by omega)
   ·rfl
  ·have hL' : Ch L g = false := by simpa using hL
   rw [hL']
   simp only [Bool.not_false, Bool.and_true, Bool.or_false]
   split
   ·simp only [Ch, List.any_cons, List.any_nil, Bool.or_false]
    rw [<- Bool.decide_or]
    by_cases hg : e <= g /\ g < H
    ·by_cases hr : r.1 <= g /\ g < r.1 + r.2
     ·rw [decide_eq_true hg, decide_eq_true hr]
      exact decide_eq_false (by omega)
     ·rw [decide_eq_true hg, decide_eq_false hr]
      exact decide_eq_true (by omega)
    ·rw [decide_eq_false hg]
     exact decide_eq_false (by omega)
   ·simp only [Ch, List.any_nil, Bool.false_or]
    by_cases hg : e <= g /\ g < H
    ·by_cases hr : r.1 <= g /\ g < r.1 + r.2
     ·rw [decide_eq_true hg, decide_eq_true hr]
      exact decide_eq_false (by omega)
     ·rw [decide_eq_true hg, decide_eq_false hr]
      exact decide_eq_true (by omega)
    ·rw [decide_eq_false hg]
     exact decide_eq_false (by omega)

def Ei (p : Nat -> Bool) (a : Nat) : Nat -> Nat
 | 0 => 0
 | n + 1 => Ei p a n + (if p (a + n) = true then 1 else 0)

theorem Ej (p : Nat -> Bool) (a : Nat) (m : Nat) : ∀ n, Ei p a (m + n) = Ei p a m + Ei p (a + m) n
 | 0 => rfl
 | n + 1 => by
  rw [<- Nat.add_assoc]
  simp only [Ei, Ej p a m n, Nat.add_assoc]

theorem Dt {p : Nat -> Bool} {a : Nat} : ∀ {n : Nat}, (∀ i, a <= i -> i < a + n -> p i = false) -> Ei p a n = 0
 | 0, _ => rfl
 | n + 1, h => by
  simp only [Ei]
  rw [Dt (λ i h1 h2 => h i h1 (by omega)), h (a + n) (by omega) (by omega)]
  simp

theorem cntR_le {p q : Nat -> Bool} {a x : Nat} : ∀ {n : Nat}, (∀ i, a <= i -> i < a + n -> p i = true -> q i = true \/ i = x) -> Ei p a n <= Ei q a n + (if a <= x /\ x < a + n then 1 else 0)
 | 0, _ => by simp [Ei]
 | n + 1, h => by
  have ih := cntR_le (n := n) (λ i h1 h2 => h i h1 (by omega))
  have hl := h (a + n) (by omega) (by omega)
  simp only [Ei]
  by_cases hp : p (a + n) = true
  ·rcases hl hp with hq | hx
   ·rw [if_pos hp, if_pos hq]
    split at ih <;> split <;> omega
   ·have hn : ¬ (a <= x /\ x < a + n) := by omega
    have hn2 : a <= x /\ x < a + (n + 1) := by omega
    rw [if_neg hn] at ih
    rw [if_pos hp, if_pos hn2]
    split <;> omega
  ·rw [if_neg hp]
   split at ih <;> split <;> split <;> omega

def stB (f : Nat -> Bool) (g : Nat) : Bool := f g && (g == 0 || !f (g - 1))

theorem apart_count : ∀ {L : List (Nat × Nat)} {e H : Nat} {f : Nat -> Bool}, ApartR e L H -> (∀ g, e <= g -> g < H -> f g = Ch L g) -> Ei (stB f) e (H - e) = L.length
 | [], e, H, f, h, hf => by
  refine Dt λ i h1 h2 => ?_
  unfold stB
  rw [hf i h1 (by omega)]
  simp [Ch]
 | r :: L, e, H, f, ⟨h1, h2, h3⟩, hf => by
  have h4 := h3.rise.le
  have hcov : ∀ g, e <= g -> g < H -> f g = (decide (r.1 <= g /\ g < r.1 + r.2) || Ch L g) := λ g a b => hf g a b
  have hL : ∀ g, g < r.1 + r.2 -> Ch L g = false := λ g hg => by
   cases hc : Ch L g with
   | false => rfl
   | true => have := (h3.rise.cov_lt hc).1; omega
  have ih := apart_count (f := f) h3 (λ g a b => by
   rw [hcov g (by omega) b, decide_eq_false (by omega), Bool.false_or])
  rw [show H - e = (r.1 - e) + (1 + (r.2 - 1) + (H - (r.1 + r.2))) by omega, Ej, Ej, Ej]
  rw [show e + (r.1 - e) = r.1 by omega, show r.1 + (1 + (r.2 - 1)) = r.1 + r.2 by omega, ih]
  have z1 : Ei (stB f) e (r.1 - e) = 0 := Dt λ i a b => by
   unfold stB
   rw [hcov i a (by omega), decide_eq_false (by omega), hL i (by omega)]
   rfl
  have z2 : Ei (stB f) r.1 1 = 1 := by
   simp only [Ei, Nat.add_zero]
   rw [if_pos]
   unfold stB
   rw [hcov r.1 (by omega) (by omega), decide_eq_true (by omega), hcov (r.1 - 1) (by omega) (by omega), decide_eq_false (by omega), hL (r.1 - 1) (by omega)]
   simp
  have z3 : Ei (stB f) (r.1 + 1) (r.2 - 1) = 0 := Dt λ i a b => by
   unfold stB
   rw [hcov (i - 1) (by omega) (by omega), decide_eq_true (by omega)]
   simp
   intro _
   omega
  rw [z1, z2, z3, List.length_cons]
  omega

theorem apart0_count {L : List (Nat × Nat)} {H : Nat} {f : Nat -> Bool} (h : Ed L H) (hf : ∀ g, g < H -> f g = Ch L g) : Ei (stB f) 0 H = L.length := by
 cases L with
 | nil =>
  refine Dt λ i h1 h2 => ?_
  unfold stB
  rw [hf i (by omega)]
  simp [Ch]
 | cons r L =>
  obtain ⟨h2, h3⟩ := h
  by_cases h0 : r.1 = 0
  ·have h4 := h3.rise.le
   have hcov : ∀ g, g < H -> f g = (decide (r.1 <= g /\ g < r.1 + r.2) || Ch L g) := λ g b => hf g b
   have ih := apart_count (f := f) h3 (λ g a b => by
    rw [hcov g b, decide_eq_false (by omega), Bool.false_or])
   have e1 := Ej (stB f) 0 (1 + (r.2 - 1)) (H - (r.1 + r.2))
   have e2 := Ej (stB f) 0 1 (r.2 - 1)
   rw [show 1 + (r.2 - 1) + (H - (r.1 + r.2)) = H by omega, show 0 + (1 + (r.2 - 1)) = r.1 + r.2 by omega, ih, e2] at e1
   rw [e1]
   have z2 : Ei (stB f) 0 1 = 1 := by
    simp only [Ei, Nat.add_zero]
    rw [if_pos]
    unfold stB
    rw [hcov 0 (by omega), decide_eq_true (by omega)]
    simp
   have z3 : Ei (stB f) (0 + 1) (r.2 - 1) = 0 := Dt λ i a b => by
    unfold stB
    rw [hcov (i - 1) (by omega), decide_eq_true (by omega)]
    simp
    intro _
    omega
   rw [z2, z3, List.length_cons]
   omega
  ·have := apart_count (L := r :: L) (e := 0) (H := H) (f := f) ⟨by omega, h2, h3⟩ (λ g _ b => hf g b)
   simpa using this

def AltR (L b : List (Nat × Nat)) (H g i k : Nat) (land : Bool) : Prop :=
 (land = true /\ ((g = H /\ L.drop i = [] /\ b.drop k = []) \/ ∃ r M, L.drop i = r :: M /\ r.1 = g /\ 0 < r.2 /\ ApartR (r.1 + r.2) M H /\ b.drop k = AV (r.1 + r.2) M H)) \/
 (land = false /\ ApartR g (L.drop i) H /\ b.drop k = AV g (L.drop i) H)

theorem drop_head {α : Type} {l M : List α} {i : Nat} {r : α} (h : l.drop i = r :: M) : l[i]? = some r /\ l.drop (i + 1) = M := by
 refine ⟨?_, ?_⟩
 ·have := List.getElem?_drop (xs := l) (i := i) (j := 0)
  rw [h] at this
  simpa using this.symm
 ·rw [<- List.tail_drop, h]
  rfl

theorem AltR.start {L : List (Nat × Nat)} {H : Nat} (h : Ed L H) : AltR L (AV 0 L H) H 0 0 0 (match L with | [] => false | r :: _ => decide (r.1 = 0)) := by
 cases L with
 | nil => exact .inr ⟨rfl, Nat.zero_le _, rfl⟩
 | cons r M =>
  obtain ⟨h1, h2⟩ := h
  by_cases e : r.1 = 0
  ·refine .inl ⟨decide_eq_true e, .inr ⟨r, M, rfl, e, h1, h2, ?_⟩⟩
   have hw : AV 0 (r :: M) H = (if 0 < r.1 then [(0, r.1 - 0)] else []) ++ AV (r.1 + r.2) M H := rfl
   rw [hw, if_neg (by omega)]
   rfl
  ·exact .inr ⟨decide_eq_false e, ⟨by omega, h1, h2⟩, rfl⟩

theorem AltR.le {L b : List (Nat × Nat)} {H g i k : Nat} {land : Bool} (h : AltR L b H g i k land) : g <= H := by
 rcases h with ⟨-, ⟨h, -⟩ | ⟨r, M, -, h1, h2, h3, -⟩⟩ | ⟨-, h, -⟩
 ·omega
 ·have := h3.rise.le; omega
 ·exact h.rise.le

theorem AltR.land {L b : List (Nat × Nat)} {H g i k : Nat} (h : AltR L b H g i k true) (hg : g < H) : ∃ r, L[i]? = some r /\ r.1 = g /\ 0 < r.2 /\ AltR L b H (g + r.2) (i + 1) k false := by
 rcases h with ⟨-, ⟨h, -⟩ | ⟨r, M, h0, h1, h2, h3, h4⟩⟩ | ⟨h, -⟩
 ·omega
 ·obtain ⟨a, c⟩ := drop_head h0
  refine ⟨r, a, h1, h2, .inr ⟨rfl, ?_, ?_⟩⟩
  ·rw [c, <- h1]; exact h3
  ·rw [c, <- h1]; exact h4
 ·cases h

theorem AltR.sea {L b : List (Nat × Nat)} {H g i k : Nat} (h : AltR L b H g i k false) (hg : g < H) : ∃ r, b[k]? = some r /\ r.1 = g /\ 0 < r.2 /\ AltR L b H (g + r.2) i (k + 1) true := by
 rcases h with ⟨h, -⟩ | ⟨-, h1, h2⟩
 ·cases h
 ·cases hL : L.drop i with
  | nil =>
   rw [hL] at h2
   unfold AV at h2
   rw [if_pos hg] at h2
   obtain ⟨a, c⟩ := drop_head h2
   refine ⟨_, a, rfl, by simp only; omega, .inl ⟨rfl, .inl ⟨by simp only; omega, hL, c⟩⟩⟩
  | cons r M =>
   rw [hL] at h1 h2
   obtain ⟨e1, e2, e3⟩ := h1
   unfold AV at h2
   rw [if_pos e1] at h2
   obtain ⟨a, c⟩ := drop_head h2
   refine ⟨_, a, rfl, by simp only; omega, .inl ⟨rfl, .inr ⟨r, M, hL, by simp only; omega, e2, e3, c⟩⟩⟩

theorem AltR.fin {L b : List (Nat × Nat)} {H g i k : Nat} {land : Bool} (h : AltR L b H g i k land) (hg : ¬ g < H) : g = H /\ L.drop i = [] /\ b.drop k = [] := by
 have hle := h.le
 rcases h with ⟨-, h | ⟨r, M, h0, h1, h2, h3, h4⟩⟩ | ⟨-, h1, h2⟩
 ·exact h
 ·have := h3.rise.le; omega
 ·refine ⟨by omega, ?_⟩
  cases hL : L.drop i with
  | nil =>
   rw [hL] at h2
   unfold AV at h2
   rw [if_neg hg] at h2
   exact ⟨rfl, h2⟩
  | cons r M =>
   rw [hL] at h1
   obtain ⟨e1, e2, e3⟩ := h1
   have := e3.rise.le
   omega

def pinL (cs : List Cel) (p : Nat -> Bool) : List (Nat × Nat) := ((Av cs).filter λ c => p c.g).map λ c => (c.g, c.sz)

theorem pinL_cons (c : Cel) (cs : List Cel) (p : Nat -> Bool) : pinL (c :: cs) p = (if c.tag = 1 /\ p c.g = true then [(c.g, c.sz)] else []) ++ pinL cs p := by
 unfold pinL Av
 by_cases ht : c.tag = 1 <;> by_cases hp : p c.g = true <;> simp [ht, hp]

theorem Bw.mono {L : List (Nat × Nat)} {e e' H : Nat} (h : Bw e L H) (he : e' <= e) : Bw e' L H := by
 cases L with
 | nil => exact Nat.le_trans he h
 | cons r L => exact ⟨Nat.le_trans he h.1, h.2⟩

theorem Eo {p : Nat -> Bool} : ∀ {cs : List Cel} {a H : Nat}, Am a cs H -> Bw a (pinL cs p) H
 | [], a, H, h => Nat.le_of_eq h
 | c :: cs, a, H, ⟨h1, h2, h3⟩ => by
  have ih := Eo (p := p) h3
  rw [pinL_cons]
  split
  ·exact ⟨by simp only; omega, h2, by rw [show (c.g, c.sz).1 + (c.g, c.sz).2 = a + c.sz by simp only; omega]; exact ih⟩
  ·exact ih.mono (by omega)

theorem mem_pinL {cs : List Cel} {p : Nat -> Bool} {r : Nat × Nat} : r ∈ pinL cs p ↔ ∃ c ∈ cs, c.tag = 1 /\ p c.g = true /\ r = (c.g, c.sz) := by
 unfold pinL
 rw [List.mem_map]
 constructor
 ·rintro ⟨c, h, rfl⟩
  rw [List.mem_filter] at h
  obtain ⟨h1, h2⟩ := h
  obtain ⟨h3, h4⟩ := DD.1 h1
  exact ⟨c, h3, h4, h2, rfl⟩
 ·rintro ⟨c, h1, h2, h3, rfl⟩
  exact ⟨c, List.mem_filter.2 ⟨DD.2 ⟨h1, h2⟩, h3⟩, rfl⟩

theorem cov_mem {L : List (Nat × Nat)} {g : Nat} : Ch L g = true ↔ ∃ r ∈ L, r.1 <= g /\ g < r.1 + r.2 := by
 unfold Ch
 rw [List.any_eq_true]
 simp only [decide_eq_true_eq]

theorem cov_pinL {cs : List Cel} {p : Nat -> Bool} {H g : Nat} {c : Cel} (ht : Am 0 cs H) (hc : c ∈ cs) (h1 : c.g <= g) (h2 : g < c.fin) : Ch (pinL cs p) g = (c.tag == 1 && p c.g) := by
 rw [Bool.eq_iff_iff, cov_mem]
 constructor
 ·rintro ⟨r, hr, a, b⟩
  obtain ⟨d, hd, e1, e2, rfl⟩ := mem_pinL.1 hr
  have : d = c := (cell_only ht hd hc (j := g) a b h1 h2)
  subst this
  simp [e1, e2]
 ·intro h
  rw [Bool.and_eq_true, beq_iff_eq] at h
  exact ⟨(c.g, c.sz), mem_pinL.2 ⟨c, hc, h.1, h.2, rfl⟩, h1, h2⟩

theorem joinGo_sum : ∀ (c : Nat × Nat) (rs : List (Nat × Nat)), CE (BB c rs) = c.2 + CE rs
 | c, [] => rfl
 | c, r :: rs => by
  unfold BB
  split
  ·rw [joinGo_sum]
   simp only [CE]
   omega
  ·simp only [CE]
   rw [joinGo_sum r rs]

theorem joinsR_sum (rs : List (Nat × Nat)) : CE (CU rs) = CE rs := by
 cases rs with
 | nil => rfl
 | cons r rs => exact joinGo_sum r rs

theorem pinL_sum {p : Nat -> Bool} : ∀ {cs : List Cel}, (∀ c ∈ cs, c.tag = 1 -> p c.g = true) -> CE (pinL cs p) = cS 1 cs
 | [], _ => rfl
 | c :: cs, h => by
  have ih := pinL_sum (p := p) (λ d hd => h d (List.mem_cons_of_mem _ hd))
  rw [pinL_cons, sumR_app, ih]
  simp only [cS]
  by_cases ht : c.tag = 1
  ·rw [if_pos ⟨ht, h c List.mem_cons_self ht⟩, if_pos ht]
   rfl
  ·rw [if_neg (λ h => ht h.1), if_neg ht]
   rfl

def UpR (l : List (Nat × Nat)) : Prop := l.Pairwise λ a b => a.1 < b.1

theorem Bw.up : ∀ {L : List (Nat × Nat)} {e H : Nat}, Bw e L H -> UpR L /\ ∀ r ∈ L, e <= r.1
 | [], e, H, h => ⟨List.Pairwise.nil, λ r h => by cases h⟩
 | r :: L, e, H, ⟨h1, h2, h3⟩ => by
  obtain ⟨h4, h5⟩ := h3.up
  refine ⟨List.Pairwise.cons (λ x hx => by have := h5 x hx; omega) h4, λ x hx => ?_⟩
  rcases List.mem_cons.1 hx with rfl | hx
  ·exact h1
  ·have := h5 x hx; omega

theorem UpR.uniq : ∀ {xs ys : List (Nat × Nat)}, UpR xs -> UpR ys -> (∀ r, r ∈ xs ↔ r ∈ ys) -> xs = ys
 | [], [], _, _, _ => rfl
 | [], y :: ys, _, _, h => by have := (h y).2 List.mem_cons_self; cases this
 | x :: xs, [], _, _, h => by have := (h x).1 List.mem_cons_self; cases this
 | x :: xs, y :: ys, hx, hy, h => by
  obtain ⟨a1, a2⟩ := List.pairwise_cons.1 hx
  obtain ⟨b1, b2⟩ := List.pairwise_cons.1 hy
  have e : x = y := by
   have m1 := (h x).1 List.mem_cons_self
   have m2 := (h y).2 List.mem_cons_self
   rcases List.mem_cons.1 m1 with e | m1
   ·exact e
   ·rcases List.mem_cons.1 m2 with e | m2
    ·exact e.symm
    ·have := a1 y m2
     have := b1 x m1
     omega
  subst e
  rw [UpR.uniq a2 b2 λ r => ?_]
  constructor
  ·intro hr
   rcases List.mem_cons.1 ((h r).1 (List.mem_cons_of_mem _ hr)) with rfl | m
   ·have := a1 r hr; omega
   ·exact m
  ·intro hr
   rcases List.mem_cons.1 ((h r).2 (List.mem_cons_of_mem _ hr)) with rfl | m
   ·have := b1 r hr; omega
   ·exact m

def Em : Nat -> List (Nat × Nat) -> List (Nat × Nat)
 | c, [] => []
 | c, x :: l => if x.1 = c then Em c l else x :: Em x.1 l

def BL : List (Nat × Nat) -> List (Nat × Nat)
 | [] => []
 | x :: l => x :: Em x.1 l

theorem onceG_up : ∀ {l : List (Nat × Nat)} {c : Nat}, l.Pairwise (λ a b => a.1 <= b.1) -> (∀ a ∈ l, c <= a.1) -> (∀ a ∈ l, ∀ b ∈ l, a.1 = b.1 -> a = b) -> UpR (Em c l) /\ ∀ r, r ∈ Em c l ↔ r ∈ l /\ ¬ r.1 = c
 | [], c, _, _, _ => ⟨List.Pairwise.nil, λ r => by simp [Em]⟩
 | x :: l, c, hp, hc, hu => by
  obtain ⟨p1, p2⟩ := List.pairwise_cons.1 hp
  have hu2 : ∀ a ∈ l, ∀ b ∈ l, a.1 = b.1 -> a = b := λ a ha b hb => hu a (List.mem_cons_of_mem _ ha) b (List.mem_cons_of_mem _ hb)
  unfold Em
  split
  ·rename_i e
   obtain ⟨h1, h2⟩ := onceG_up (c := c) p2 (λ a ha => hc a (List.mem_cons_of_mem _ ha)) hu2
   refine ⟨h1, λ r => ?_⟩
   rw [h2, List.mem_cons]
   constructor
   ·rintro ⟨a, b⟩; exact ⟨.inr a, b⟩
   ·rintro ⟨rfl | a, b⟩
    ·exact absurd e b
    ·exact ⟨a, b⟩
  ·rename_i e
   have hcx := hc x List.mem_cons_self
   obtain ⟨h1, h2⟩ := onceG_up (c := x.1) p2 p1 hu2
   refine ⟨List.Pairwise.cons (λ a ha => ?_) h1, λ r => ?_⟩
   ·have h3 := (h2 a).1 ha
    have := p1 a h3.1
    have := h3.2
    omega
   ·rw [List.mem_cons, h2, List.mem_cons]
    constructor
    ·rintro (rfl | ⟨a, b⟩)
     ·exact ⟨.inl rfl, e⟩
     ·have := p1 r a
      exact ⟨.inr a, by omega⟩
    ·rintro ⟨rfl | a, b⟩
     ·exact .inl rfl
     ·by_cases h : r.1 = x.1
      ·exact .inl (hu r (List.mem_cons_of_mem _ a) x List.mem_cons_self h)
      ·exact .inr ⟨a, h⟩

theorem onceR_up {l : List (Nat × Nat)} (hp : l.Pairwise (λ a b => a.1 <= b.1)) (hu : ∀ a ∈ l, ∀ b ∈ l, a.1 = b.1 -> a = b) : UpR (BL l) /\ ∀ r, r ∈ BL l ↔ r ∈ l := by
 cases l with
 | nil => exact ⟨List.Pairwise.nil, λ r => by simp [BL]⟩
 | cons x l =>
  obtain ⟨p1, p2⟩ := List.pairwise_cons.1 hp
  obtain ⟨h1, h2⟩ := onceG_up (c := x.1) p2 p1 (λ a ha b hb => hu a (List.mem_cons_of_mem _ ha) b (List.mem_cons_of_mem _ hb))
  refine ⟨List.Pairwise.cons (λ a ha => ?_) h1, λ r => ?_⟩
  ·have h3 := (h2 a).1 ha
   have := p1 a h3.1
   have := h3.2
   omega
  ·show r ∈ x :: Em x.1 l ↔ r ∈ x :: l
   rw [List.mem_cons, h2, List.mem_cons]
   constructor
   ·rintro (h | ⟨a, -⟩)
    ·exact .inl h
    ·exact .inr a
   ·rintro (h | a)
    ·exact .inl h
    ·by_cases h : r.1 = x.1
     ·exact .inl (hu r (List.mem_cons_of_mem _ a) x List.mem_cons_self h)
     ·exact .inr ⟨a, h⟩

theorem onceG_snoc : ∀ (xs : List (Nat × Nat)) (c : Nat) (z y : Nat × Nat), Em c (xs ++ [z, y]) = Em c (xs ++ [z]) ++ (if y.1 = z.1 then [] else [y])
 | [], c, z, y => by
  simp only [List.nil_append, Em]
  by_cases h1 : z.1 = c
  ·rw [if_pos h1, if_pos h1, h1]
   split <;> rfl
  ·rw [if_neg h1, if_neg h1]
   split <;> rfl
 | x :: xs, c, z, y => by
  simp only [List.cons_append, Em]
  split
  ·exact onceG_snoc xs c z y
  ·rw [onceG_snoc xs x.1 z y]
   rfl

theorem onceR_take {l : List (Nat × Nat)} {j : Nat} {z y : Nat × Nat} (hz : l[j]? = some z) (hy : l[j + 1]? = some y) : BL (l.take (j + 1 + 1)) = BL (l.take (j + 1)) ++ (if y.1 = z.1 then [] else [y]) := by
 rw [List.take_add_one, hy, List.take_add_one, hz]
 obtain ⟨p, hp⟩ : ∃ p, l.take j = p := ⟨_, rfl⟩
 rw [hp]
 cases p with
 | nil =>
  show BL [z, y] = BL [z] ++ _
  simp only [BL, Em]
  split <;> rfl
 | cons x p =>
  have := onceG_snoc p x.1 z y
  simp only [Option.toList_some, List.cons_append, List.append_assoc, List.nil_append, BL]
  rw [this]

def Ar (cs : List Cel) (p : Nat -> Bool) : List (Nat × Nat) := CU (pinL cs p)

theorem Bp {cs : List Cel} {p : Nat -> Bool} {H : Nat} (h : Am 0 cs H) : Ed (Ar cs p) H := joinsR_apart (Eo h)

theorem CR {cs : List Cel} {p : Nat -> Bool} {H g : Nat} {c : Cel} (h : Am 0 cs H) (hc : c ∈ cs) (h1 : c.g <= g) (h2 : g < c.fin) : Ch (Ar cs p) g = (c.tag == 1 && p c.g) := by
 unfold Ar
 rw [joinsR_cov (Eo h), cov_pinL h hc h1 h2]

theorem tiles_has : ∀ {cs : List Cel} {a H g : Nat}, Am a cs H -> a <= g -> g < H -> ∃ c ∈ cs, c.g <= g /\ g < c.fin
 | [], a, H, g, h, h1, h2 => by
  have : a = H := h
  omega
 | c :: cs, a, H, g, ⟨t1, t2, t3⟩, h1, h2 => by
  by_cases hg : g < a + c.sz
  ·exact ⟨c, List.mem_cons_self, by omega, by unfold Cel.fin; omega⟩
  ·obtain ⟨d, hd, e⟩ := tiles_has t3 (by omega) h2
   exact ⟨d, List.mem_cons_of_mem _ hd, e⟩

theorem pinL_congr {cs : List Cel} {p p' : Nat -> Bool} (h : ∀ c ∈ cs, c.tag = 1 -> p c.g = p' c.g) : pinL cs p = pinL cs p' := by
 unfold pinL
 congr 1
 refine List.filter_congr λ c hc => ?_
 obtain ⟨h1, h2⟩ := DD.1 hc
 exact h c h1 h2

theorem isles_more {cs : List Cel} {p p' : Nat -> Bool} {H x : Nat} (h : Am 0 cs H) (hp : ∀ g, p' g = true ↔ p g = true \/ g = x) : (Ar cs p').length <= (Ar cs p).length + 1 := by
 have e1 := apart0_count (f := Ch (Ar cs p)) (Bp (p := p) h) (λ g _ => rfl)
 have e2 := apart0_count (f := Ch (Ar cs p')) (Bp (p := p') h) (λ g _ => rfl)
 rw [<- e1, <- e2]
 have := cntR_le (p := stB (Ch (Ar cs p'))) (q := stB (Ch (Ar cs p))) (a := 0) (x := x) (n := H) (λ g _ hg hst => by
  unfold stB at hst ⊢
  rw [Bool.and_eq_true] at hst
  obtain ⟨f1, f2⟩ := hst
  obtain ⟨c, hc, c1, c2⟩ := tiles_has h (Nat.zero_le g) (by omega)
  rw [CR h hc c1 c2, Bool.and_eq_true, beq_iff_eq] at f1
  obtain ⟨t1, t2⟩ := f1
  have hsub : ∀ g, g < H -> Ch (Ar cs p) g = true -> Ch (Ar cs p') g = true := λ g hg hcv => by
   obtain ⟨d, hd, d1, d2⟩ := tiles_has h (Nat.zero_le g) hg
   rw [CR h hd d1 d2, Bool.and_eq_true] at hcv ⊢
   exact ⟨hcv.1, (hp _).2 (.inl hcv.2)⟩
  by_cases hpc : p c.g = true
  ·left
   rw [Bool.and_eq_true, CR h hc c1 c2, Bool.and_eq_true, beq_iff_eq]
   refine ⟨⟨t1, hpc⟩, ?_⟩
   rw [Bool.or_eq_true] at f2 ⊢
   rcases f2 with f2 | f2
   ·exact .inl f2
   ·right
    rw [Bool.not_eq_true'] at f2 ⊢
    cases hcv : Ch (Ar cs p) (g - 1) with
    | false => rfl
    | true =>
     have := hsub (g - 1) (by omega) hcv
     rw [this] at f2
     cases f2
  ·right
   have hx : c.g = x := by
    rcases (hp _).1 t2 with h1 | h1
    ·exact absurd h1 hpc
    ·exact h1
   by_cases hgc : g = c.g
   ·omega
   ·exfalso
    rw [Bool.or_eq_true, Bool.not_eq_true'] at f2
    rcases f2 with f2 | f2
    ·rw [beq_iff_eq] at f2
     omega
    ·rw [CR h hc (g := g - 1) (by omega) (by omega), t2] at f2
     simp [t1] at f2)
 split at this <;> omega

theorem water_gaps {cs : List Cel} {p : Nat -> Bool} {H : Nat} (h : Am 0 cs H) (hp : ∀ c ∈ cs, c.tag = 1 -> p c.g = true) (ht : ∀ c ∈ cs, c.tag = 1 \/ c.tag = 2 \/ c.tag = 3) : CE (AV 0 (Ar cs p) H) = cS 3 cs + cS 2 cs := by
 have h1 := water_sum ((Bp (p := p) h).rise)
 have h2 : CE (Ar cs p) = cS 1 cs := by
  unfold Ar
  rw [joinsR_sum, pinL_sum hp]
 have h3 := cS_all h ht
 omega

theorem water_not {cs : List Cel} {p : Nat -> Bool} {H g : Nat} (h : Am 0 cs H) (hg : g < H) : Ch (AV 0 (Ar cs p) H) g = !Ch (Ar cs p) g := by
 rw [water_cov ((Bp (p := p) h).rise) g, decide_eq_true (show 0 <= g /\ g < H from ⟨Nat.zero_le _, hg⟩), Bool.true_and]

def Cg : Nat -> List (Nat × Nat) -> List (Nat × Nat)
 | e, [] => []
 | e, r :: L => (if e < r.1 then [(e, r.1 - e)] else []) ++ Cg (r.1 + r.2) L

def endR : Nat -> List (Nat × Nat) -> Nat
 | e, [] => e
 | e, r :: L => endR (r.1 + r.2) L

theorem Ec : ∀ (L : List (Nat × Nat)) (e H : Nat), AV e L H = Cg e (L ++ [(H, 0)])
 | [], e, H => by simp [AV, Cg]
 | r :: L, e, H => by simp only [AV, List.cons_append, Cg, Ec L]

theorem gapsR_snoc : ∀ (L : List (Nat × Nat)) (e : Nat) (x : Nat × Nat), Cg e (L ++ [x]) = Cg e L ++ (if endR e L < x.1 then [(endR e L, x.1 - endR e L)] else [])
 | [], e, x => by
  simp only [List.nil_append, Cg, endR, List.append_nil]
  rfl
 | r :: L, e, x => by
  simp only [List.cons_append, Cg, endR, gapsR_snoc L, List.append_assoc]
  rfl

theorem endR_snoc : ∀ (L : List (Nat × Nat)) (e : Nat) (x : Nat × Nat), endR e (L ++ [x]) = x.1 + x.2
 | [], e, x => rfl
 | r :: L, e, x => by simp only [List.cons_append, endR, endR_snoc L]

theorem gapsR_len : ∀ (L : List (Nat × Nat)) (e : Nat), (Cg e L).length <= L.length
 | [], e => Nat.le_refl _
 | r :: L, e => by
  have := gapsR_len L (r.1 + r.2)
  simp only [Cg, List.length_append, List.length_cons]
  split <;> simp only [List.length_cons, List.length_nil] <;> omega

theorem Dw {α : Type} {L : List α} {j : Nat} {x : α} (h : L[j]? = some x) : L.take (j + 1) = L.take j ++ [x] := by
 rw [List.take_add_one, h]
 rfl

theorem split_uniq : ∀ {pre pre' : List Cel} {post post' : List Cel} {c c' : Cel} {a b j : Nat}, Am a (pre ++ c :: post) b -> pre ++ c :: post = pre' ++ c' :: post' -> c.g <= j -> j < c.fin -> c'.g <= j -> j < c'.fin -> pre = pre' /\ c = c' /\ post = post'
 | [], [], post, post', c, c', a, b, j, ht, h, _, _, _, _ => by
  simp only [List.nil_append, List.cons.injEq] at h
  exact ⟨rfl, h.1, h.2⟩
 | [], d :: pre', post, post', c, c', a, b, j, ht, h, h1, h2, h3, h4 => by
  simp only [List.nil_append, List.cons_append, List.cons.injEq] at h
  obtain ⟨t1, t2, t3⟩ := ht
  have hm : c' ∈ post := by rw [h.2]; simp
  have := (t3.mem hm).1
  unfold Cel.fin at h2
  omega
 | d :: pre, [], post, post', c, c', a, b, j, ht, h, h1, h2, h3, h4 => by
  simp only [List.nil_append, List.cons_append, List.cons.injEq] at h
  obtain ⟨t1, t2, t3⟩ := ht
  have := (t3.mem (show c ∈ pre ++ c :: post by simp)).1
  rw [<- h.1] at h4
  unfold Cel.fin at h4
  omega
 | d :: pre, d' :: pre', post, post', c, c', a, b, j, ht, h, h1, h2, h3, h4 => by
  simp only [List.cons_append, List.cons.injEq] at h
  obtain ⟨t1, t2, t3⟩ := ht
  obtain ⟨e1, e2, e3⟩ := split_uniq t3 h.2 h1 h2 h3 h4
  exact ⟨by rw [h.1, e1], e2, e3⟩

end Go.Proofs.YtgccjhnafhlndaaGreatDoor
