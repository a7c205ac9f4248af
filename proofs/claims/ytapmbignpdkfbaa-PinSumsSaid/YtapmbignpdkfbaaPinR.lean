/-
  Sums over steps, begun anywhere.
-/
import Derived.Test.YtapmbignpdkfbaaPinRisesWalk
namespace Go.Proofs.Ytapmbignpdkfbaa
set_option linter.unusedVariables false

def sumI (f : Nat → Int) : Nat → Int
  | 0 => 0
  | k + 1 => sumI f k + f k

theorem sumI_congr {f h : Nat → Int} {k : Nat} (e : ∀ i, i < k → f i = h i) : sumI f k = sumI h k := by
  induction k with
  | zero => rfl
  | succ k ih => rw [sumI, sumI, ih fun i hi => e i (by omega), e k (by omega)]

theorem sumI_head (f : Nat → Int) (m : Nat) : sumI f (m + 1) = f 0 + sumI (fun i => f (i + 1)) m := by
  induction m with
  | zero => simp [sumI]
  | succ m ih => rw [sumI, ih, sumI]; omega

theorem sumI_rot1 (f : Nat → Int) (n : Nat) : sumI (fun i => f ((i + 1) % n)) n = sumI f n := by
  cases n with
  | zero => rfl
  | succ m =>
    rw [sumI_head f m, sumI]
    have h1 : (m + 1) % (m + 1) = 0 := Nat.mod_self _
    have h2 : sumI (fun i => f ((i + 1) % (m + 1))) m = sumI (fun i => f (i + 1)) m := sumI_congr fun i hi => by
      show f ((i + 1) % (m + 1)) = f (i + 1)
      rw [Nat.mod_eq_of_lt (by omega)]
    rw [h2]
    show sumI (fun i => f (i + 1)) m + f ((m + 1) % (m + 1)) = _
    rw [h1]
    omega

theorem sumI_rot (f : Nat → Int) (n t : Nat) : sumI (fun i => f ((i + t) % n)) n = sumI f n := by
  induction t with
  | zero => exact sumI_congr fun i hi => by show f ((i + 0) % n) = f i; rw [Nat.add_zero, Nat.mod_eq_of_lt hi]
  | succ t ih =>
    rw [← ih, ← sumI_rot1 (fun i => f ((i + t) % n)) n]
    refine sumI_congr fun i hi => ?_
    show f ((i + (t + 1)) % n) = f (((i + 1) % n + t) % n)
    rw [Nat.mod_add_mod, show i + (t + 1) = i + 1 + t by omega]

theorem sumN_I (n : Nat → Int) (k : Nat) : (sumN n k : Int) = sumI (fun i => ((n i).toNat : Int)) k := by
  induction k with
  | zero => rfl
  | succ k ih => rw [sumN, sumI, ← ih]; omega

theorem sumN_rot (n : Nat → Int) (len t : Nat) : sumN (fun i => n ((i + t) % len)) len = sumN n len := by
  have h := sumI_rot (fun i => ((n i).toNat : Int)) len t
  have h1 := sumN_I n len
  have h2 := sumN_I (fun i => n ((i + t) % len)) len
  rw [← h1] at h
  omega

/-- What a round of a step does to its address's count. -/
def eff (d : Int) : Int := if d = 0 then 1 else if d = 1 then -1 else 0

/-- What step k adds to the count of x. -/
def cT (d n : Nat → Int) (g : Nat → Nat) (x k : Nat) : Int := if g k = x then eff (d k) * ((n k).toNat : Int) else 0

/-- What step k adds to the times. -/
def tT (d n : Nat → Int) (k : Nat) : Int := eff (d k) * ((n k).toNat : Int)

theorem eff_mul (d : Int) (q : Nat) : -(q : Int) ≤ eff d * (q : Int) ∧ eff d * (q : Int) ≤ (q : Int) := by
  unfold eff
  split
  · omega
  · split <;> omega

theorem cT_bound (d n : Nat → Int) (g : Nat → Nat) (x k : Nat) : -(sumN n k : Int) ≤ sumI (cT d n g x) k ∧ sumI (cT d n g x) k ≤ (sumN n k : Int) := by
  induction k with
  | zero => exact ⟨by simp [sumI, sumN], by simp [sumI, sumN]⟩
  | succ k ih =>
    rw [sumI, sumN]
    have h := eff_mul (d k) (n k).toNat
    have : -((n k).toNat : Int) ≤ cT d n g x k ∧ cT d n g x k ≤ ((n k).toNat : Int) := by
      unfold cT
      split
      · exact h
      · omega
    omega

theorem tT_bound (d n : Nat → Int) (k : Nat) : -(sumN n k : Int) ≤ sumI (tT d n) k ∧ sumI (tT d n) k ≤ (sumN n k : Int) := by
  induction k with
  | zero => exact ⟨by simp [sumI, sumN], by simp [sumI, sumN]⟩
  | succ k ih =>
    rw [sumI, sumN]
    have h := eff_mul (d k) (n k).toNat
    have : tT d n k = eff (d k) * ((n k).toNat : Int) := rfl
    omega

/-- The row L has f's counts, and T times. -/
def Bal (f : Nat → Int) (T : Int) (L : List Nat) : Prop := (∀ x, (L.count x : Int) = f x) ∧ (L.length : Int) = T

/-- The counts behind i steps and k rounds of the next one. -/
def fK (d n : Nat → Int) (g : Nat → Nat) (i k : Nat) : Nat → Int := fun x => sumI (cT d n g x) i + if g i = x then eff (d i) * (k : Int) else 0

def tK (d n : Nat → Int) (i k : Nat) : Int := sumI (tT d n) i + eff (d i) * (k : Int)

theorem Bal.nil (d n : Nat → Int) (g : Nat → Nat) : Bal (fK d n g 0 0) (tK d n 0 0) [] := ⟨fun x => by simp [fK, sumI], by simp [tK, sumI]⟩

theorem fK_done {d n : Nat → Int} {g : Nat → Nat} {i : Nat} : fK d n g i (n i).toNat = fK d n g (i + 1) 0 := by
  funext x
  unfold fK
  rw [sumI]
  show _ = sumI (cT d n g x) i + cT d n g x i + _
  unfold cT
  simp

theorem tK_done {d n : Nat → Int} {i : Nat} : tK d n i (n i).toNat = tK d n (i + 1) 0 := by
  unfold tK
  rw [sumI]
  show _ = sumI (tT d n) i + tT d n i + _
  unfold tT
  simp

theorem Bal.pin {d n : Nat → Int} {g : Nat → Nat} {i k : Nat} {L : List Nat} (h : Bal (fK d n g i k) (tK d n i k) L) (hd : d i = 0) {G : Nat} (hG : g i = G) (he : pinE (cL L) G = 0) : Bal (fK d n g i (k + 1)) (tK d n i (k + 1)) (pinL L G) := by
  have e : eff (d i) = 1 := by rw [hd]; rfl
  have hp : pinL L G = insL L G := by unfold pinL; rw [if_pos he]
  rw [hp]
  refine ⟨fun x => ?_, ?_⟩
  · have := h.1 x
    rw [insL_count]
    unfold fK at this ⊢
    rw [e] at this ⊢
    rw [hG] at this ⊢
    by_cases hx : G = x
    · rw [if_pos hx] at this ⊢; rw [if_pos hx.symm]; omega
    · rw [if_neg hx] at this ⊢; rw [if_neg (fun h => hx h.symm)]; omega
  · have := h.2
    rw [insL_len]
    unfold tK at this ⊢
    rw [e] at this ⊢
    omega

theorem Bal.unpin {d n : Nat → Int} {g : Nat → Nat} {i k : Nat} {L : List Nat} (h : Bal (fK d n g i k) (tK d n i k) L) (hd : d i = 1) {G : Nat} (hG : g i = G) (he : unE (cL L) G = 0) : Bal (fK d n g i (k + 1)) (tK d n i (k + 1)) (L.erase G) := by
  have e : eff (d i) = -1 := by rw [hd]; rfl
  have hc : 0 < L.count G := by
    unfold unE cL at he
    by_cases h0 : L.count G = 0
    · rw [if_pos h0] at he; cases he
    · omega
  refine ⟨fun x => ?_, ?_⟩
  · have := h.1 x
    unfold fK at this ⊢
    rw [e] at this ⊢
    rw [hG] at this ⊢
    by_cases hx : G = x
    · subst hx
      rw [if_pos rfl] at this ⊢
      rw [List.count_erase_self]
      omega
    · rw [if_neg hx] at this ⊢
      rw [List.count_erase_of_ne (fun h => hx h.symm)]
      omega
  · have := h.2
    rw [List.length_erase_of_mem (List.count_pos_iff.1 hc)]
    have := List.length_pos_of_mem (List.count_pos_iff.1 hc)
    unfold tK at *
    rw [e] at *
    omega

theorem Bal.rest {d n : Nat → Int} {g : Nat → Nat} {i k : Nat} {L : List Nat} (h : Bal (fK d n g i k) (tK d n i k) L) (h0 : d i ≠ 0) (h1 : d i ≠ 1) : Bal (fK d n g i (k + 1)) (tK d n i (k + 1)) L := by
  have e : eff (d i) = 0 := by unfold eff; rw [if_neg h0, if_neg h1]
  refine ⟨fun x => ?_, ?_⟩
  · have := h.1 x
    unfold fK at this ⊢
    rw [e] at this ⊢
    simpa using this
  · have := h.2
    unfold tK at this ⊢
    rw [e] at this ⊢
    simpa using this

theorem Bal.end {d n : Nat → Int} {g : Nat → Nat} {i : Nat} {L : List Nat} (h : Bal (fK d n g i 0) (tK d n i 0) L) : (∀ x, (L.count x : Int) = sumI (cT d n g x) i) ∧ (L.length : Int) = sumI (tT d n) i :=
  ⟨fun x => by have := h.1 x; unfold fK at this; simpa using this, by have := h.2; unfold tK at this; simpa using this⟩

theorem once_same {L1 L2 : List Nat} (h1 : L1.Pairwise (· ≤ ·)) (h2 : L2.Pairwise (· ≤ ·)) (h : ∀ x, L1.count x = L2.count x) : onceU L1 = onceU L2 :=
  riseU_uniq (onceU_rise h1) (onceU_rise h2) fun x => by rw [onceU_mem h1, onceU_mem h2, ← List.count_pos_iff, ← List.count_pos_iff, h]

end Go.Proofs.Ytapmbignpdkfbaa
