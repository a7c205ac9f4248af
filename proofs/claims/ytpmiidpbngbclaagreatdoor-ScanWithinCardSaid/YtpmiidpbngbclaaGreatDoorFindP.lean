/-
  find, the plain law: how many words of cells are slots.
-/
import Derived.Test.YtpmiidpbngbclaaGreatDoorView
import Derived.Test.YtpmiidpbngbclaaGreatDoorSpaceNews
import Derived.Test.YtpmiidpbngbclaaGreatDoorRows1
import Derived.Test.YtpmiidpbngbclaaGreatDoorSpaceIter
namespace Go.Proofs.YtpmiidpbngbclaaGreatDoor
open Go.RowKit
set_option linter.unusedVariables false

/-- How many slots a cell has. -/
def slotN (ts : List TypR) (c : Cel) : Nat := if c.tag = 1 then (match typeOf ts (c.ty : Nat) with | some x => (slotsT x.k x.wds (c.ln : Nat)).toNat | none => 0) else 0

def slotSum (ts : List TypR) : List Cel → Nat
  | [] => 0
  | c :: cs => slotN ts c + slotSum ts cs

theorem slotSum_append (ts : List TypR) : ∀ (xs ys : List Cel), slotSum ts (xs ++ ys) = slotSum ts xs + slotSum ts ys
  | [], ys => by simp [slotSum]
  | x :: xs, ys => by simp [slotSum, slotSum_append ts xs ys]; omega

theorem slotSum_take {ts : List TypR} {cs : List Cel} {j : Nat} {x : Cel} (h : cs[j]? = some x) : slotSum ts (cs.take (j + 1)) = slotSum ts (cs.take j) + slotN ts x := by
  rw [List.take_add_one, h, slotSum_append]
  simp [slotSum]

theorem slotN_room {ts : List TypR} {c : Cel} (hok : CelOk ts c) (hs : 0 < c.sz) : slotN ts c + 1 ≤ 2 * c.sz := by
  unfold slotN
  split
  · rename_i ht
    obtain ⟨e1, e2⟩ := hok.2 ht
    split
    · rename_i x hx
      unfold sizeS at e2
      rw [hx] at e2
      simp only [sizeT] at e2
      omega
    · omega
  · omega

/-- A word is a slot. -/
def isSlot (ts : List TypR) (cs : List Cel) (k : Nat) : Bool := cs.any fun c => decide (2 * c.g < k ∧ k ≤ 2 * c.g + slotN ts c)

def cnt (p : Nat → Bool) : Nat → Nat
  | 0 => 0
  | k + 1 => cnt p k + (if p k then 1 else 0)

theorem cnt_le (p : Nat → Bool) : ∀ k, cnt p k ≤ k
  | 0 => Nat.le_refl _
  | k + 1 => by
    have := cnt_le p k
    rw [cnt]
    split <;> omega

theorem cnt_same {p q : Nat → Bool} : ∀ (k : Nat), (∀ i, i < k → p i = q i) → cnt p k = cnt q k
  | 0, h => rfl
  | k + 1, h => by rw [cnt, cnt, cnt_same k (fun i hi => h i (by omega)), h k (by omega)]

theorem cnt_off {p : Nat → Bool} {a : Nat} : ∀ (n : Nat), (∀ i, a ≤ i → i < a + n → p i = false) → cnt p (a + n) = cnt p a
  | 0, h => rfl
  | n + 1, h => by
    rw [← Nat.add_assoc, cnt, cnt_off n (fun i h1 h2 => h i h1 (by omega)), h (a + n) (by omega) (by omega)]
    simp

theorem cnt_on {p : Nat → Bool} {a : Nat} : ∀ (n : Nat), (∀ i, a ≤ i → i < a + n → p i = true) → cnt p (a + n) = cnt p a + n
  | 0, h => rfl
  | n + 1, h => by
    rw [← Nat.add_assoc, cnt, cnt_on n (fun i h1 h2 => h i h1 (by omega)), h (a + n) (by omega) (by omega)]
    simp; omega

/-- In a cell's words. -/
theorem isSlot_at {ts : List TypR} {pre post : List Cel} {c : Cel} {H k : Nat} (ht : Tiles 0 (pre ++ c :: post) H) (hr : ∀ d ∈ pre ++ c :: post, slotN ts d + 1 ≤ 2 * d.sz) (h1 : 2 * c.g ≤ k) (h2 : k < 2 * c.fin) :
    isSlot ts (pre ++ c :: post) k = decide (2 * c.g < k ∧ k ≤ 2 * c.g + slotN ts c) := by
  have t := ht.fin_at
  rw [Bool.eq_iff_iff, isSlot, List.any_eq_true, decide_eq_true_eq]
  constructor
  · rintro ⟨d, hd, hk⟩
    rw [decide_eq_true_eq] at hk
    have hrd := hr d hd
    rcases List.mem_append.1 hd with hm | hm
    · have := t.2.2.mem hm
      unfold Cel.fin at *
      omega
    · rcases List.mem_cons.1 hm with rfl | hm
      · exact hk
      · have := t.2.1.mem hm
        unfold Cel.fin at *
        omega
  · exact fun h => ⟨c, by simp, by rw [decide_eq_true_eq]; exact h⟩

/-- As many words are slots as the cells have. -/
theorem cnt_slots {ts : List TypR} {cs : List Cel} {H : Nat} (ht : Tiles 0 cs H) (hr : ∀ d ∈ cs, slotN ts d + 1 ≤ 2 * d.sz) : ∀ (j : Nat) (z : Nat), j ≤ cs.length → Tiles 0 (cs.take j) z → cnt (isSlot ts cs) (2 * z) = slotSum ts (cs.take j)
  | 0, z, _, hz => by
    obtain rfl : 0 = z := hz
    simp [cnt, slotSum]
  | j + 1, z, hj, hz => by
    obtain ⟨x, hx⟩ : ∃ x, cs[j]? = some x := ⟨cs[j]'(by omega), by simp⟩
    have hcs : cs = cs.take j ++ x :: cs.drop (j + 1) := take_drop_at hx
    have hz' := hz
    rw [List.take_add_one, hx] at hz'
    obtain ⟨y, t1, t2⟩ := hz'.split
    obtain ⟨e1, e2, e3⟩ := t2
    have e3 : y + x.sz = z := e3
    have ih := cnt_slots ht hr j y (by omega) t1
    have hat : ∀ k, 2 * x.g ≤ k → k < 2 * x.fin → isSlot ts cs k = decide (2 * x.g < k ∧ k ≤ 2 * x.g + slotN ts x) := fun k h1 h2 => by
      have := ht
      have hr' := hr
      rw [hcs] at this hr' ⊢
      exact isSlot_at this hr' h1 h2
    have hrx := hr x (by rw [hcs]; simp)
    unfold Cel.fin at hat
    rw [slotSum_take hx, ← ih]
    have s1 : cnt (isSlot ts cs) (2 * y + 1) = cnt (isSlot ts cs) (2 * y) := cnt_off 1 (fun i h1 h2 => by rw [hat i (by omega) (by omega)]; simp; omega)
    have s2 : cnt (isSlot ts cs) (2 * y + 1 + slotN ts x) = cnt (isSlot ts cs) (2 * y + 1) + slotN ts x := cnt_on _ (fun i h1 h2 => by rw [hat i (by omega) (by omega)]; simp; omega)
    have s3 : cnt (isSlot ts cs) (2 * y + 1 + slotN ts x + (2 * x.sz - 1 - slotN ts x)) = cnt (isSlot ts cs) (2 * y + 1 + slotN ts x) := cnt_off _ (fun i h1 h2 => by rw [hat i (by omega) (by omega)]; simp; omega)
    rw [show 2 * z = 2 * y + 1 + slotN ts x + (2 * x.sz - 1 - slotN ts x) by omega, s3, s2, s1]

/-- And in all. -/
theorem cnt_all {ts : List TypR} {cs : List Cel} {H : Nat} (ht : Tiles 0 cs H) (hr : ∀ d ∈ cs, slotN ts d + 1 ≤ 2 * d.sz) : cnt (isSlot ts cs) (2 * H) = slotSum ts cs := by
  have := cnt_slots ht hr cs.length H (Nat.le_refl _) (by rw [List.take_length]; exact ht)
  rw [List.take_length] at this
  exact this

theorem slotSum_le {ts : List TypR} : ∀ {cs : List Cel} {a b : Nat}, Tiles a cs b → (∀ d ∈ cs, slotN ts d + 1 ≤ 2 * d.sz) → slotSum ts cs ≤ 2 * (b - a)
  | [], a, b, h, _ => Nat.zero_le _
  | c :: cs, a, b, ⟨h1, h2, h3⟩, hr => by
    have := slotSum_le h3 (fun d hd => hr d (List.mem_cons_of_mem _ hd))
    have hc := hr c (by simp)
    have := h3.le
    rw [slotSum]
    omega

end Go.Proofs.YtpmiidpbngbclaaGreatDoor
