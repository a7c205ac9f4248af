/-
 Runs of granules (plain): joined where they touch, the water between them, what they cover, how many there are.
 Islands of a space's cells (plain): which runs pinned objects make; rows in order, each once.
 Islands of a space's cells (plain): what is said of them.
 The water between runs, one run after the other (plain); where a list of cells parts at a granule.
-/
import Derived.Test.YtlmdkfbibpkjgaaGreatDoorLibA
import Derived.Test.YtlmdkfbibpkjgaaGreatDoorWalkCheck
import Derived.Test.YtlmdkfbibpkjgaaGreatDoorSettleA
namespace Go.Proofs.YtlmdkfbibpkjgaaGreatDoor
set_option linter.unusedVariables false

def cov (L : List (Nat × Nat)) (g : Nat) : Bool := L.any λ r => decide (r.1 <= g /\ g < r.1 + r.2)

def Bv : Nat -> List (Nat × Nat) -> Nat -> Prop
 | e, [], H => e <= H
 | e, r :: L, H => e <= r.1 /\ 0 < r.2 /\ Bv (r.1 + r.2) L H

def ApartR : Nat -> List (Nat × Nat) -> Nat -> Prop
 | e, [], H => e <= H
 | e, r :: L, H => e < r.1 /\ 0 < r.2 /\ ApartR (r.1 + r.2) L H

def Apart0 : List (Nat × Nat) -> Nat -> Prop
 | [], H => True
 | r :: L, H => 0 < r.2 /\ ApartR (r.1 + r.2) L H

theorem ApartR.rise : ∀ {L : List (Nat × Nat)} {e H : Nat}, ApartR e L H -> Bv e L H
 | [], e, H, h => h
 | r :: L, e, H, ⟨h1, h2, h3⟩ => ⟨Nat.le_of_lt h1, h2, h3.rise⟩

theorem Apart0.rise {L : List (Nat × Nat)} {H : Nat} (h : Apart0 L H) : Bv 0 L H := by
 cases L with
 | nil => exact Nat.zero_le _
 | cons r L => exact ⟨Nat.zero_le _, h.1, h.2.rise⟩

theorem Bv.le : ∀ {L : List (Nat × Nat)} {e H : Nat}, Bv e L H -> e <= H
 | [], e, H, h => h
 | r :: L, e, H, ⟨h1, h2, h3⟩ => by have := h3.le; omega

theorem Bv.cov_lt : ∀ {L : List (Nat × Nat)} {e H g : Nat}, Bv e L H -> cov L g = true -> e <= g /\ g < H
 | [], e, H, g, h, hc => by simp [cov] at hc
 | r :: L, e, H, g, ⟨h1, h2, h3⟩, hc => by
  unfold cov at hc
  rw [List.any_cons, Bool.or_eq_true, decide_eq_true_eq] at hc
  have := h3.le
  rcases hc with h | h
  ·omega
  ·have := h3.cov_lt (g := g) h
   omega

theorem Dw (r : Nat × Nat) (L : List (Nat × Nat)) (g : Nat) : cov (r :: L) g = (decide (r.1 <= g /\ g < r.1 + r.2) || cov L g) := rfl

theorem cov_app (L M : List (Nat × Nat)) (g : Nat) : cov (L ++ M) g = (cov L g || cov M g) := by simp [cov]

def Ca : Nat × Nat -> List (Nat × Nat) -> List (Nat × Nat)
 | c, [] => [c]
 | c, r :: rs => if c.1 + c.2 = r.1 then Ca (c.1, c.2 + r.2) rs else c :: Ca r rs

def Dz : List (Nat × Nat) -> List (Nat × Nat)
 | [] => []
 | r :: rs => Ca r rs

def joinL (l : List (Nat × Nat)) (r : Nat × Nat) : List (Nat × Nat) :=
 match l.getLast? with
 | some x => if x.1 + x.2 = r.1 then l.dropLast ++ [(x.1, x.2 + r.2)] else l ++ [r]
 | none => [r]

theorem joinGo_ne : ∀ (c : Nat × Nat) (rs : List (Nat × Nat)), Ca c rs ≠ []
 | c, [] => by simp [Ca]
 | c, r :: rs => by
  unfold Ca
  split
  ·exact joinGo_ne _ _
  ·simp

theorem joinL_cons {c : Nat × Nat} {M : List (Nat × Nat)} (h : M ≠ []) (r : Nat × Nat) : joinL (c :: M) r = c :: joinL M r := by
 cases M with
 | nil => exact absurd rfl h
 | cons d M =>
  unfold joinL
  rw [List.getLast?_cons_cons]
  cases hh : (d :: M).getLast? with
  | none => simp at hh
  | some x =>
   dsimp only
   split
   ·rw [List.dropLast_cons_of_ne_nil (by simp)]
    rfl
   ·rfl

theorem joinGo_snoc : ∀ (c : Nat × Nat) (rs : List (Nat × Nat)) (r : Nat × Nat), Ca c (rs ++ [r]) = joinL (Ca c rs) r
 | c, [], r => by
  simp only [List.nil_append, Ca, joinL, List.getLast?_singleton]
  split <;> rfl
 | c, x :: rs, r => by
  simp only [List.cons_append, Ca]
  split
  ·exact joinGo_snoc _ rs r
  ·rw [joinGo_snoc x rs r, joinL_cons (joinGo_ne _ _)]

theorem joinsR_snoc (rs : List (Nat × Nat)) (r : Nat × Nat) : Dz (rs ++ [r]) = joinL (Dz rs) r := by
 cases rs with
 | nil => rfl
 | cons x rs => exact joinGo_snoc x rs r

theorem joinGo_apart : ∀ {rs : List (Nat × Nat)} {c : Nat × Nat} {H : Nat}, 0 < c.2 -> Bv (c.1 + c.2) rs H -> ∃ n M, Ca c rs = (c.1, n) :: M /\ 0 < n /\ ApartR (c.1 + n) M H
 | [], c, H, h0, h => ⟨c.2, [], rfl, h0, h⟩
 | r :: rs, c, H, h0, ⟨h1, h2, h3⟩ => by
  unfold Ca
  split
  ·rename_i e
   exact joinGo_apart (c := (c.1, c.2 + r.2)) (by simp only; omega) (by rw [show (c.1, c.2 + r.2).1 + (c.1, c.2 + r.2).2 = r.1 + r.2 by simp only; omega]; exact h3)
  ·rename_i e
   obtain ⟨n, M, e1, e2, e3⟩ := joinGo_apart (c := r) h2 h3
   exact ⟨c.2, Ca r rs, rfl, h0, by rw [e1]; exact ⟨by simp only; omega, e2, e3⟩⟩

theorem joinsR_apart {rs : List (Nat × Nat)} {H : Nat} (h : Bv 0 rs H) : Apart0 (Dz rs) H := by
 cases rs with
 | nil => trivial
 | cons r rs =>
  obtain ⟨h1, h2, h3⟩ := h
  obtain ⟨n, M, e1, e2, e3⟩ := joinGo_apart h2 h3
  show Apart0 (Ca r rs) H
  rw [e1]
  exact ⟨e2, e3⟩

theorem joinGo_cov : ∀ {rs : List (Nat × Nat)} {c : Nat × Nat} {H : Nat}, Bv (c.1 + c.2) rs H -> ∀ g, cov (Ca c rs) g = cov (c :: rs) g
 | [], c, H, h, g => rfl
 | r :: rs, c, H, ⟨h1, h2, h3⟩, g => by
  unfold Ca
  split
  ·rename_i e
   rw [joinGo_cov (c := (c.1, c.2 + r.2)) (H := H) (by rw [show (c.1, c.2 + r.2).1 + (c.1, c.2 + r.2).2 = r.1 + r.2 by simp only; omega]; exact h3) g]
   rw [Dw, Dw, Dw, <- Bool.or_assoc]
   congr 1
   rw [<- Bool.decide_or]
   refine decide_eq_decide.2 ?_
   simp only
   omega
  ·rw [Dw, joinGo_cov h3 g, Dw c]

theorem joinsR_cov {rs : List (Nat × Nat)} {H : Nat} (h : Bv 0 rs H) (g : Nat) : cov (Dz rs) g = cov rs g := by
 cases rs with
 | nil => rfl
 | cons r rs => exact joinGo_cov h.2.2 g

def Bi : Nat -> List (Nat × Nat) -> Nat -> List (Nat × Nat)
 | e, [], H => if e < H then [(e, H - e)] else []
 | e, r :: L, H => (if e < r.1 then [(e, r.1 - e)] else []) ++ Bi (r.1 + r.2) L H

theorem water_cov : ∀ {L : List (Nat × Nat)} {e H : Nat}, Bv e L H -> ∀ g, cov (Bi e L H) g = (decide (e <= g /\ g < H) && !cov L g)
 | [], e, H, h, g => by
  unfold Bi
  split
  ·simp only [cov, List.any_cons, List.any_nil, Bool.or_false, Bool.not_false, Bool.and_true]
   refine decide_eq_decide.2 ?_
   omega
  ·simp only [cov, List.any_nil, Bool.not_false, Bool.and_true]
   exact (decide_eq_false (by omega)).symm
 | r :: L, e, H, ⟨h1, h2, h3⟩, g => by
  have h4 := water_cov h3 g
  have h5 := h3.le
  unfold Bi
  rw [cov_app, h4, Dw]
  have h6 : cov L g = true -> r.1 + r.2 <= g /\ g < H := λ hc => h3.cov_lt hc
  by_cases hL : cov L g = true
  ·have := h6 hL
   rw [hL]
   simp only [Bool.not_true, Bool.and_false, Bool.or_true, Bool.or_false]
   split
   ·simp only [cov, List.any_cons, List.any_nil, Bool.or_false]
    exact decide_eq_false (by omega)
   ·rfl
  ·have hL' : cov L g = false := by simpa using hL
   rw [hL']
   simp only [Bool.not_false, Bool.and_true, Bool.or_false]
   split
   ·simp only [cov, List.any_cons, List.any_nil, Bool.or_false]
    rw [<- Bool.decide_or]
    by_cases hg : e <= g /\ g < H
    ·by_cases hr : r.1 <= g /\ g < r.1 + r.2
     ·rw [decide_eq_true hg, decide_eq_true hr]
      exact decide_eq_false (by omega)
     ·rw [decide_eq_true hg, decide_eq_false hr]
      exact decide_eq_true (by omega)
    ·rw [decide_eq_false hg]
     exact decide_eq_false (by omega)
   ·simp only [cov, List.any_nil, Bool.false_or]
    by_cases hg : e <= g /\ g < H
    ·by_cases hr : r.1 <= g /\ g < r.1 + r.2
     ·rw [decide_eq_true hg, decide_eq_true hr]
      exact decide_eq_false (by omega)
     ·rw [decide_eq_true hg, decide_eq_false hr]
      exact decide_eq_true (by omega)
    ·rw [decide_eq_false hg]
     exact decide_eq_false (by omega)

def AltR (L b : List (Nat × Nat)) (H g i k : Nat) (land : Bool) : Prop :=
 (land = true /\ ((g = H /\ L.drop i = [] /\ b.drop k = []) \/ ∃ r M, L.drop i = r :: M /\ r.1 = g /\ 0 < r.2 /\ ApartR (r.1 + r.2) M H /\ b.drop k = Bi (r.1 + r.2) M H)) \/
 (land = false /\ ApartR g (L.drop i) H /\ b.drop k = Bi g (L.drop i) H)

theorem drop_head {α : Type} {l M : List α} {i : Nat} {r : α} (h : l.drop i = r :: M) : l[i]? = some r /\ l.drop (i + 1) = M := by
 refine ⟨?_, ?_⟩
 ·have := List.getElem?_drop (xs := l) (i := i) (j := 0)
  rw [h] at this
  simpa using this.symm
 ·rw [<- List.tail_drop, h]
  rfl

theorem AltR.start {L : List (Nat × Nat)} {H : Nat} (h : Apart0 L H) : AltR L (Bi 0 L H) H 0 0 0 (match L with | [] => false | r :: _ => decide (r.1 = 0)) := by
 cases L with
 | nil => exact .inr ⟨rfl, Nat.zero_le _, rfl⟩
 | cons r M =>
  obtain ⟨h1, h2⟩ := h
  by_cases e : r.1 = 0
  ·refine .inl ⟨decide_eq_true e, .inr ⟨r, M, rfl, e, h1, h2, ?_⟩⟩
   have hw : Bi 0 (r :: M) H = (if 0 < r.1 then [(0, r.1 - 0)] else []) ++ Bi (r.1 + r.2) M H := rfl
   rw [hw, if_neg (by omega)]
   rfl
  ·exact .inr ⟨decide_eq_false e, ⟨by omega, h1, h2⟩, rfl⟩

theorem AltR.le {L b : List (Nat × Nat)} {H g i k : Nat} {land : Bool} (h : AltR L b H g i k land) : g <= H := by
 rcases h with ⟨-, ⟨h, -⟩ | ⟨r, M, -, h1, h2, h3, -⟩⟩ | ⟨-, h, -⟩
 ·omega
 ·have := h3.rise.le; omega
 ·exact h.rise.le

theorem AltR.land {L b : List (Nat × Nat)} {H g i k : Nat} (h : AltR L b H g i k true) (hg : g < H) : ∃ r, L[i]? = some r /\ r.1 = g /\ 0 < r.2 /\ AltR L b H (g + r.2) (i + 1) k false := by
 rcases h with ⟨-, ⟨h, -⟩ | ⟨r, M, h0, h1, h2, h3, h4⟩⟩ | ⟨h, -⟩
 ·omega
 ·obtain ⟨a, c⟩ := drop_head h0
  refine ⟨r, a, h1, h2, .inr ⟨rfl, ?_, ?_⟩⟩
  ·rw [c, <- h1]; exact h3
  ·rw [c, <- h1]; exact h4
 ·cases h

theorem AltR.fin {L b : List (Nat × Nat)} {H g i k : Nat} {land : Bool} (h : AltR L b H g i k land) (hg : ¬ g < H) : g = H /\ L.drop i = [] /\ b.drop k = [] := by
 have hle := h.le
 rcases h with ⟨-, h | ⟨r, M, h0, h1, h2, h3, h4⟩⟩ | ⟨-, h1, h2⟩
 ·exact h
 ·have := h3.rise.le; omega
 ·refine ⟨by omega, ?_⟩
  cases hL : L.drop i with
  | nil =>
   rw [hL] at h2
   unfold Bi at h2
   rw [if_neg hg] at h2
   exact ⟨rfl, h2⟩
  | cons r M =>
   rw [hL] at h1
   obtain ⟨e1, e2, e3⟩ := h1
   have := e3.rise.le
   omega

def pinL (cs : List Cel) (p : Nat -> Bool) : List (Nat × Nat) := ((Aw cs).filter λ c => p c.g).map λ c => (c.g, c.sz)

theorem pinL_cons (c : Cel) (cs : List Cel) (p : Nat -> Bool) : pinL (c :: cs) p = (if c.tag = 1 /\ p c.g = true then [(c.g, c.sz)] else []) ++ pinL cs p := by
 unfold pinL Aw
 by_cases ht : c.tag = 1 <;> by_cases hp : p c.g = true <;> simp [ht, hp]

theorem Bv.mono {L : List (Nat × Nat)} {e e' H : Nat} (h : Bv e L H) (he : e' <= e) : Bv e' L H := by
 cases L with
 | nil => exact Nat.le_trans he h
 | cons r L => exact ⟨Nat.le_trans he h.1, h.2⟩

theorem DV {p : Nat -> Bool} : ∀ {cs : List Cel} {a H : Nat}, Aq a cs H -> Bv a (pinL cs p) H
 | [], a, H, h => Nat.le_of_eq h
 | c :: cs, a, H, ⟨h1, h2, h3⟩ => by
  have ih := DV (p := p) h3
  rw [pinL_cons]
  split
  ·exact ⟨by simp only; omega, h2, by rw [show (c.g, c.sz).1 + (c.g, c.sz).2 = a + c.sz by simp only; omega]; exact ih⟩
  ·exact ih.mono (by omega)

theorem mem_pinL {cs : List Cel} {p : Nat -> Bool} {r : Nat × Nat} : r ∈ pinL cs p ↔ ∃ c ∈ cs, c.tag = 1 /\ p c.g = true /\ r = (c.g, c.sz) := by
 unfold pinL
 rw [List.mem_map]
 constructor
 ·rintro ⟨c, h, rfl⟩
  rw [List.mem_filter] at h
  obtain ⟨h1, h2⟩ := h
  obtain ⟨h3, h4⟩ := mem_objsOf.1 h1
  exact ⟨c, h3, h4, h2, rfl⟩
 ·rintro ⟨c, h1, h2, h3, rfl⟩
  exact ⟨c, List.mem_filter.2 ⟨mem_objsOf.2 ⟨h1, h2⟩, h3⟩, rfl⟩

theorem cov_mem {L : List (Nat × Nat)} {g : Nat} : cov L g = true ↔ ∃ r ∈ L, r.1 <= g /\ g < r.1 + r.2 := by
 unfold cov
 rw [List.any_eq_true]
 simp only [decide_eq_true_eq]

theorem cov_pinL {cs : List Cel} {p : Nat -> Bool} {H g : Nat} {c : Cel} (ht : Aq 0 cs H) (hc : c ∈ cs) (h1 : c.g <= g) (h2 : g < c.fin) : cov (pinL cs p) g = (c.tag == 1 && p c.g) := by
 rw [Bool.eq_iff_iff, cov_mem]
 constructor
 ·rintro ⟨r, hr, a, b⟩
  obtain ⟨d, hd, e1, e2, rfl⟩ := mem_pinL.1 hr
  have : d = c := (cell_only ht hd hc (j := g) a b h1 h2)
  subst this
  simp [e1, e2]
 ·intro h
  rw [Bool.and_eq_true, beq_iff_eq] at h
  exact ⟨(c.g, c.sz), mem_pinL.2 ⟨c, hc, h.1, h.2, rfl⟩, h1, h2⟩

def UpR (l : List (Nat × Nat)) : Prop := l.Pairwise λ a b => a.1 < b.1

theorem Bv.up : ∀ {L : List (Nat × Nat)} {e H : Nat}, Bv e L H -> UpR L /\ ∀ r ∈ L, e <= r.1
 | [], e, H, h => ⟨List.Pairwise.nil, λ r h => by cases h⟩
 | r :: L, e, H, ⟨h1, h2, h3⟩ => by
  obtain ⟨h4, h5⟩ := h3.up
  refine ⟨List.Pairwise.cons (λ x hx => by have := h5 x hx; omega) h4, λ x hx => ?_⟩
  rcases List.mem_cons.1 hx with rfl | hx
  ·exact h1
  ·have := h5 x hx; omega

theorem UpR.uniq : ∀ {xs ys : List (Nat × Nat)}, UpR xs -> UpR ys -> (∀ r, r ∈ xs ↔ r ∈ ys) -> xs = ys
 | [], [], _, _, _ => rfl
 | [], y :: ys, _, _, h => by have := (h y).2 List.mem_cons_self; cases this
 | x :: xs, [], _, _, h => by have := (h x).1 List.mem_cons_self; cases this
 | x :: xs, y :: ys, hx, hy, h => by
  obtain ⟨a1, a2⟩ := List.pairwise_cons.1 hx
  obtain ⟨b1, b2⟩ := List.pairwise_cons.1 hy
  have e : x = y := by
   have m1 := (h x).1 List.mem_cons_self
   have m2 := (h y).2 List.mem_cons_self
   rcases List.mem_cons.1 m1 with e | m1
   ·exact e
   ·rcases List.mem_cons.1 m2 with e | m2
    ·exact e.symm
    ·have := a1 y m2
     have := b1 x m1
     omega
  subst e
  rw [UpR.uniq a2 b2 λ r => ?_]
  constructor
  ·intro hr
   rcases List.mem_cons.1 ((h r).1 (List.mem_cons_of_mem _ hr)) with rfl | m
   ·have := a1 r hr; omega
   ·exact m
  ·intro hr
   rcases List.mem_cons.1 ((h r).2 (List.mem_cons_of_mem _ hr)) with rfl | m
   ·have := b1 r hr; omega
   ·exact m

def EI : Nat -> List (Nat × Nat) -> List (Nat × Nat)
 | c, [] => []
 | c, x :: l => if x.1 = c then EI c l else x :: EI x.1 l

def BX : List (Nat × Nat) -> List (Nat × Nat)
 | [] => []
 | x :: l => x :: EI x.1 l

theorem onceG_up : ∀ {l : List (Nat × Nat)} {c : Nat}, l.Pairwise (λ a b => a.1 <= b.1) -> (∀ a ∈ l, c <= a.1) -> (∀ a ∈ l, ∀ b ∈ l, a.1 = b.1 -> a = b) -> UpR (EI c l) /\ ∀ r, r ∈ EI c l ↔ r ∈ l /\ ¬ r.1 = c
 | [], c, _, _, _ => ⟨List.Pairwise.nil, λ r => by simp [EI]⟩
 | x :: l, c, hp, hc, hu => by
  obtain ⟨p1, p2⟩ := List.pairwise_cons.1 hp
  have hu2 : ∀ a ∈ l, ∀ b ∈ l, a.1 = b.1 -> a = b := λ a ha b hb => hu a (List.mem_cons_of_mem _ ha) b (List.mem_cons_of_mem _ hb)
  unfold EI
  split
  ·rename_i e
   obtain ⟨h1, h2⟩ := onceG_up (c := c) p2 (λ a ha => hc a (List.mem_cons_of_mem _ ha)) hu2
   refine ⟨h1, λ r => ?_⟩
   rw [h2, List.mem_cons]
   constructor
   ·rintro ⟨a, b⟩; exact ⟨.inr a, b⟩
   ·rintro ⟨rfl | a, b⟩
    ·exact absurd e b
    ·exact ⟨a, b⟩
  ·rename_i e
   have hcx := hc x List.mem_cons_self
   obtain ⟨h1, h2⟩ := onceG_up (c := x.1) p2 p1 hu2
   refine ⟨List.Pairwise.cons (λ a ha => ?_) h1, λ r => ?_⟩
   ·have h3 := (h2 a).1 ha
    have := p1 a h3.1
    have := h3.2
    omega
   ·rw [List.mem_cons, h2, List.mem_cons]
    constructor
    ·rintro (rfl | ⟨a, b⟩)
     ·exact ⟨.inl rfl, e⟩
     ·have := p1 r a
      exact ⟨.inr a, by omega⟩
    ·rintro ⟨rfl | a, b⟩
     ·exact .inl rfl
     ·by_cases h : r.1 = x.1
      ·exact .inl (hu r (List.mem_cons_of_mem _ a) x List.mem_cons_self h)
      ·exact .inr ⟨a, h⟩

theorem onceR_up {l : List (Nat × Nat)} (hp : l.Pairwise (λ a b => a.1 <= b.1)) (hu : ∀ a ∈ l, ∀ b ∈ l, a.1 = b.1 -> a = b) : UpR (BX l) /\ ∀ r, r ∈ BX l ↔ r ∈ l := by
 cases l with
 | nil => exact ⟨List.Pairwise.nil, λ r => by simp [BX]⟩
 | cons x l =>
  obtain ⟨p1, p2⟩ := List.pairwise_cons.1 hp
  obtain ⟨h1, h2⟩ := onceG_up (c := x.1) p2 p1 (λ a ha b hb => hu a (List.mem_cons_of_mem _ ha) b (List.mem_cons_of_mem _ hb))
  refine ⟨List.Pairwise.cons (λ a ha => ?_) h1, λ r => ?_⟩
  ·have h3 := (h2 a).1 ha
   have := p1 a h3.1
   have := h3.2
   omega
  ·show r ∈ x :: EI x.1 l ↔ r ∈ x :: l
   rw [List.mem_cons, h2, List.mem_cons]
   constructor
   ·rintro (h | ⟨a, -⟩)
    ·exact .inl h
    ·exact .inr a
   ·rintro (h | a)
    ·exact .inl h
    ·by_cases h : r.1 = x.1
     ·exact .inl (hu r (List.mem_cons_of_mem _ a) x List.mem_cons_self h)
     ·exact .inr ⟨a, h⟩

theorem onceG_snoc : ∀ (xs : List (Nat × Nat)) (c : Nat) (z y : Nat × Nat), EI c (xs ++ [z, y]) = EI c (xs ++ [z]) ++ (if y.1 = z.1 then [] else [y])
 | [], c, z, y => by
  simp only [List.nil_append, EI]
  by_cases h1 : z.1 = c
  ·rw [if_pos h1, if_pos h1, h1]
   split <;> rfl
  ·rw [if_neg h1, if_neg h1]
   split <;> rfl
 | x :: xs, c, z, y => by
  simp only [List.cons_append, EI]
  split
  ·exact onceG_snoc xs c z y
  ·rw [onceG_snoc xs x.1 z y]
   rfl

theorem onceR_take {l : List (Nat × Nat)} {j : Nat} {z y : Nat × Nat} (hz : l[j]? = some z) (hy : l[j + 1]? = some y) : BX (l.take (j + 1 + 1)) = BX (l.take (j + 1)) ++ (if y.1 = z.1 then [] else [y]) := by
 rw [List.take_add_one, hy, List.take_add_one, hz]
 obtain ⟨p, hp⟩ : ∃ p, l.take j = p := ⟨_, rfl⟩
 rw [hp]
 cases p with
 | nil =>
  show BX [z, y] = BX [z] ++ _
  simp only [BX, EI]
  split <;> rfl
 | cons x p =>
  have := onceG_snoc p x.1 z y
  simp only [Option.toList_some, List.cons_append, List.append_assoc, List.nil_append, BX]
  rw [this]

def BC (cs : List Cel) (p : Nat -> Bool) : List (Nat × Nat) := Dz (pinL cs p)

theorem DK {cs : List Cel} {p : Nat -> Bool} {H : Nat} (h : Aq 0 cs H) : Apart0 (BC cs p) H := joinsR_apart (DV h)

theorem islesL_cov {cs : List Cel} {p : Nat -> Bool} {H g : Nat} {c : Cel} (h : Aq 0 cs H) (hc : c ∈ cs) (h1 : c.g <= g) (h2 : g < c.fin) : cov (BC cs p) g = (c.tag == 1 && p c.g) := by
 unfold BC
 rw [joinsR_cov (DV h), cov_pinL h hc h1 h2]

def Dc : Nat -> List (Nat × Nat) -> List (Nat × Nat)
 | e, [] => []
 | e, r :: L => (if e < r.1 then [(e, r.1 - e)] else []) ++ Dc (r.1 + r.2) L

def endR : Nat -> List (Nat × Nat) -> Nat
 | e, [] => e
 | e, r :: L => endR (r.1 + r.2) L

theorem waterL_gaps : ∀ (L : List (Nat × Nat)) (e H : Nat), Bi e L H = Dc e (L ++ [(H, 0)])
 | [], e, H => by simp [Bi, Dc]
 | r :: L, e, H => by simp only [Bi, List.cons_append, Dc, waterL_gaps L]

theorem gapsR_snoc : ∀ (L : List (Nat × Nat)) (e : Nat) (x : Nat × Nat), Dc e (L ++ [x]) = Dc e L ++ (if endR e L < x.1 then [(endR e L, x.1 - endR e L)] else [])
 | [], e, x => by
  simp only [List.nil_append, Dc, endR, List.append_nil]
  rfl
 | r :: L, e, x => by
  simp only [List.cons_append, Dc, endR, gapsR_snoc L, List.append_assoc]
  rfl

theorem endR_snoc : ∀ (L : List (Nat × Nat)) (e : Nat) (x : Nat × Nat), endR e (L ++ [x]) = x.1 + x.2
 | [], e, x => rfl
 | r :: L, e, x => by simp only [List.cons_append, endR, endR_snoc L]

theorem gapsR_len : ∀ (L : List (Nat × Nat)) (e : Nat), (Dc e L).length <= L.length
 | [], e => Nat.le_refl _
 | r :: L, e => by
  have := gapsR_len L (r.1 + r.2)
  simp only [Dc, List.length_append, List.length_cons]
  split <;> simp only [List.length_cons, List.length_nil] <;> omega

theorem DX {α : Type} {L : List α} {j : Nat} {x : α} (h : L[j]? = some x) : L.take (j + 1) = L.take j ++ [x] := by
 rw [List.take_add_one, h]
 rfl

theorem split_uniq : ∀ {pre pre' : List Cel} {post post' : List Cel} {c c' : Cel} {a b j : Nat}, Aq a (pre ++ c :: post) b -> pre ++ c :: post = pre' ++ c' :: post' -> c.g <= j -> j < c.fin -> c'.g <= j -> j < c'.fin -> pre = pre' /\ c = c' /\ post = post'
 | [], [], post, post', c, c', a, b, j, ht, h, _, _, _, _ => by
  simp only [List.nil_append, List.cons.injEq] at h
  exact ⟨rfl, h.1, h.2⟩
 | [], d :: pre', post, post', c, c', a, b, j, ht, h, h1, h2, h3, h4 => by
  simp only [List.nil_append, List.cons_append, List.cons.injEq] at h
  obtain ⟨t1, t2, t3⟩ := ht
  have hm : c' ∈ post := by rw [h.2]; simp
  have := (t3.mem hm).1
  unfold Cel.fin at h2
  omega
 | d :: pre, [], post, post', c, c', a, b, j, ht, h, h1, h2, h3, h4 => by
  simp only [List.nil_append, List.cons_append, List.cons.injEq] at h
  obtain ⟨t1, t2, t3⟩ := ht
  have := (t3.mem (show c ∈ pre ++ c :: post by simp)).1
  rw [<- h.1] at h4
  unfold Cel.fin at h4
  omega
 | d :: pre, d' :: pre', post, post', c, c', a, b, j, ht, h, h1, h2, h3, h4 => by
  simp only [List.cons_append, List.cons.injEq] at h
  obtain ⟨t1, t2, t3⟩ := ht
  obtain ⟨e1, e2, e3⟩ := split_uniq t3 h.2 h1 h2 h3 h4
  exact ⟨by rw [h.1, e1], e2, e3⟩

end Go.Proofs.YtlmdkfbibpkjgaaGreatDoor
