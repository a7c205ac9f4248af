/-
  Package fit: check, the gaps one by one.
  First of package fit. Printed by tools/fitfirst.py.
  Free of package fit.
  Most of package fit.
  Package fit: where nothing can be asked; Place.
  Place of package fit.
-/
import Derived.Test.YtpmiidpbngbclaaGreatDoorSpaceAl
import Derived.Test.YtpmiidpbngbclaaGreatDoorBlackA
import Derived.Test.YtpmiidpbngbclaaGreatDoorSpacePuts
namespace Go.Proofs.YtpmiidpbngbclaaGreatDoor
open Go.RowKit
set_option linter.unusedVariables false
attribute [local go_sem] Oper.semAt_some

theorem STable_at (P : Sp) (W : Nat → Nat) (f : Nat → Bool) (w : World) (h : SpaceAt w P W f) :
    Calls Tryz.prog 16 #[.pointer (some ⟨P.s, 0, none⟩)] w fun e w' => e = .returned (.pointer (some ⟨P.t, 0, none⟩)) ∧ w' = w := by
  obtain ⟨c0, c1, c2⟩ := h.head
  clear h
  go_enter Tryz.func16, Tryz.ntmps16
  go_wp2
  go_ret
  exact ⟨rfl, rfl⟩

/-- The gaps of a row. -/
def gapsOf (cs : List Cel) : List Cel := cs.filter fun c => !(c.tag == 1)

theorem gapsOf_take {cs : List Cel} {j : Nat} {x : Cel} (h : cs[j]? = some x) : gapsOf (cs.take (j + 1)) = gapsOf (cs.take j) ++ (if x.tag = 1 then [] else [x]) := by
  rw [List.take_add_one, h, gapsOf, List.filter_append]
  by_cases ht : x.tag = 1 <;> simp [gapsOf, ht]

theorem gapsOf_split {cs : List Cel} {j : Nat} {x : Cel} (h : cs[j]? = some x) (ht : ¬ x.tag = 1) : gapsOf cs = gapsOf (cs.take j) ++ x :: gapsOf (cs.drop (j + 1)) := by
  have hj := (List.getElem?_eq_some_iff.1 h).1
  have e : cs[j] = x := (List.getElem?_eq_some_iff.1 h).2
  conv => lhs; rw [← List.take_append_drop j cs, List.drop_eq_getElem_cons hj, e]
  rw [gapsOf, List.filter_append, List.filter_cons, if_pos (by simpa using ht)]
  rfl

end Go.Proofs.YtpmiidpbngbclaaGreatDoor

namespace Go.Proofs.YtpmiidpbngbclaaGreatDoor
open Go.RowKit
set_option linter.unusedVariables false
attribute [local go_sem] Oper.semAt_some

/-- The least place between two granules where k have room. -/
def askB (blk : Nat → Bool) (s T k : Nat) : Option Nat := nextB (roomB blk k) (T + 1 - k) s

/-- The least place in gaps. -/
def firstFit (blk : Nat → Bool) (k : Nat) (gs : List Cel) : Option Nat := gs.findSome? fun c => askB blk c.g c.fin k

theorem firstFit_none {blk : Nat → Bool} {k : Nat} {gs : List Cel} (h : ∀ c ∈ gs, askB blk c.g c.fin k = none) : firstFit blk k gs = none := by
  rw [firstFit, List.findSome?_eq_none_iff]; exact h

theorem firstFit_some {blk : Nat → Bool} {k g : Nat} {p rest : List Cel} {x : Cel} (h : ∀ c ∈ p, askB blk c.g c.fin k = none) (hx : askB blk x.g x.fin k = some g) : firstFit blk k (p ++ x :: rest) = some g := by
  rw [firstFit, List.findSome?_append, List.findSome?_eq_none_iff.2 h, Option.none_or, List.findSome?_cons, hx]

theorem nextB_zero (f : Nat → Bool) (i : Nat) : nextB f 0 i = none := by
  rcases nextB_spec f 0 i with ⟨j, h1, h2, h3, h4, h5⟩ | ⟨h1, _⟩
  · omega
  · exact h1

/-- Where nothing is black. -/
theorem askB_bare (s T k : Nat) (hk : 1 ≤ k) : askB (fun _ => false) s T k = if s + k ≤ T then some s else none := by
  have hr : ∀ g, roomB (fun _ => false) k g = true := fun g => roomB_yes (fun _ _ _ => rfl)
  rw [askB]
  rcases nextB_spec (roomB (fun _ => false) k) (T + 1 - k) s with ⟨j, h1, h2, h3, h4, h5⟩ | ⟨h1, h2⟩
  · rw [h1]
    have : j = s := by
      rcases Nat.lt_or_ge s j with h | h
      · have := h5 s (Nat.le_refl _) h
        rw [hr s] at this
        cases this
      · omega
    subst this
    rw [if_pos (by omega)]
  · rw [h1]
    by_cases h : s + k ≤ T
    · have := h2 s (Nat.le_refl _) (by omega)
      rw [hr s] at this
      cases this
    · rw [if_neg h]

theorem firstI_ask (f : Nat → Bool) (n s T k : Nat) (hk : 1 ≤ k) (hT : T ≤ n) : firstI f n (s : Nat) (T : Nat) (k : Nat) = askB f s T k := by
  rw [firstI, askB]
  by_cases h : k ≤ n
  · rw [if_pos (by omega), Int.toNat_natCast, Int.toNat_natCast]
    congr 1
    omega
  · rw [if_neg (by omega), show T + 1 - k = 0 by omega, nextB_zero]

/-- What asking answers. -/
def AskPost (o : Option Nat) (w : World) (e : Ending) (w' : World) : Prop :=
  Keep Nope w w' ∧ ∃ (g : Int) (b : Bool), e = .returned (.tuple #[.int .i64 g, .bool b]) ∧ ((b = true ∧ ∃ j : Nat, g = (j : Nat) ∧ o = some j) ∨ (b = false ∧ o = none))

/-- What First answers, of at least one granule. -/
def FirstPost (o : Option Nat) (w : World) (e : Ending) (w' : World) : Prop :=
  e = .returned (.tuple #[.int .i64 ((o.getD 0 : Nat) : Int), .int .i64 (if o.isSome then 0 else 4)]) ∧ Keep Nope w w'

/-- How its last round ends. -/
def FirstIx (blk : Nat → Bool) (k m : Nat) (wl : World) (c : Code) (pre : List Cel) (W' : World) : Prop :=
  c = .ret ∧ ∃ (p : List Cel) (x : Cel) (g : Nat), pre = p ++ [x] ∧ (∀ d ∈ p, askB blk d.g d.fin k = none) ∧ askB blk x.g x.fin k = some g ∧
    W'.heap[m + 1]? = some (.cells #[.int .i64 (g : Nat)] 3 (0, 0)) ∧ W'.heap[m + 1 + 1]? = some (.cells #[.int .i64 0] 37 (0, 0)) ∧ Keep (fun b => b = m + 1 ∨ b = m + 1 + 1) wl W'

end Go.Proofs.YtpmiidpbngbclaaGreatDoor

namespace Go.Proofs.YtpmiidpbngbclaaGreatDoor
open Go.RowKit
set_option linter.unusedVariables false
attribute [local go_sem] Oper.semAt_some

/-- How many of d granules from s on are not black. -/
def cntW (blk : Nat → Bool) (s : Nat) : Nat → Nat
  | 0 => 0
  | d + 1 => cntW blk s d + (if blk (s + d) then 0 else 1)

theorem cntW_le (blk : Nat → Bool) (s : Nat) : ∀ d, cntW blk s d ≤ d
  | 0 => Nat.le_refl _
  | d + 1 => by rw [cntW]; have := cntW_le blk s d; split <;> omega

/-- How many granules of gaps are not black. -/
def freeOf (blk : Nat → Bool) : List Cel → Nat
  | [] => 0
  | c :: cs => cntW blk c.g c.sz + freeOf blk cs

theorem freeOf_app (blk : Nat → Bool) : ∀ (xs : List Cel) (x : Cel), freeOf blk (xs ++ [x]) = freeOf blk xs + cntW blk x.g x.sz
  | [], x => by simp [freeOf]
  | y :: xs, x => by rw [List.cons_append, freeOf, freeOf, freeOf_app blk xs x]; omega

theorem freeOf_le (blk : Nat → Bool) : ∀ {xs cs : List Cel} {a b : Nat}, Tiles a cs b → xs <+: gapsOf cs → freeOf blk xs ≤ b - a
  | [], cs, a, b, h, hp => Nat.zero_le _
  | x :: xs, [], a, b, h, hp => by
    obtain ⟨t, ht⟩ := hp
    simp [gapsOf] at ht
  | x :: xs, c :: cs, a, b, ⟨h1, h2, h3⟩, hp => by
    have hle := h3.le
    by_cases ht : c.tag = 1
    · have e : gapsOf (c :: cs) = gapsOf cs := by simp [gapsOf, ht]
      rw [e] at hp
      have := freeOf_le blk h3 hp
      omega
    · have e : gapsOf (c :: cs) = c :: gapsOf cs := by simp [gapsOf, ht]
      rw [e] at hp
      obtain ⟨t, ht'⟩ := hp
      simp only [List.cons_append, List.cons.injEq] at ht'
      obtain ⟨rfl, ht'⟩ := ht'
      have := freeOf_le blk h3 ⟨t, ht'⟩
      have h5 := cntW_le blk x.g x.sz
      rw [freeOf]
      omega
termination_by xs cs => cs.length

def FreePost (n : Nat) (w : World) (e : Ending) (w' : World) : Prop :=
  e = .returned (.tuple #[.int .i64 (n : Nat), .int .i64 0]) ∧ Keep Nope w w'

/-- Behind some gaps. -/
def FreeI (blk : Nat → Bool) (m : Nat) (wl : World) (pre : List Cel) (W' : World) : Prop :=
  W'.heap[m + 1]? = some (.cells #[.int .i64 (freeOf blk pre : Nat)] 3 (0, 0)) ∧ Keep (fun b => b = m + 1) wl W'

/-- Inside a gap. -/
def FreeJ (blk : Nat → Bool) (m acc g sz : Nat) (w2 : World) (y : Value) (wr : World) : Prop :=
  ∃ q t, g ≤ q ∧ q ≤ g + sz ∧ y = .int .i64 (q : Nat) ∧ t = acc + cntW blk g (q - g) ∧ wr.heap[m + 1]? = some (.cells #[.int .i64 (t : Nat)] 3 (0, 0)) ∧ Keep (fun b => b = m + 1) w2 wr

end Go.Proofs.YtpmiidpbngbclaaGreatDoor

namespace Go.Proofs.YtpmiidpbngbclaaGreatDoor
open Go.RowKit
set_option linter.unusedVariables false
attribute [local go_sem] Oper.semAt_some

/-- Where the longest run stands behind d granules of a gap from g to e: where the run at hand began, and the longest one. -/
def mostW (blk : Nat → Bool) (g e best : Nat) : Nat → Nat × Nat
  | 0 => (g, best)
  | d + 1 => if g + d = e ∨ blk (g + d) = true then (g + d + 1, max (mostW blk g e best d).2 (g + d - (mostW blk g e best d).1)) else mostW blk g e best d

/-- The longest run in gaps. -/
def mostOf (blk : Nat → Bool) (gs : List Cel) : Nat := gs.foldl (fun b c => (mostW blk c.g (c.g + c.sz) b (c.sz + 1)).2) 0

theorem mostOf_app (blk : Nat → Bool) (xs : List Cel) (x : Cel) : mostOf blk (xs ++ [x]) = (mostW blk x.g (x.g + x.sz) (mostOf blk xs) (x.sz + 1)).2 := by
  rw [mostOf, List.foldl_append]; rfl

/-- Behind some gaps. -/
def MostI (blk : Nat → Bool) (m : Nat) (wl : World) (pre : List Cel) (W' : World) : Prop :=
  W'.heap[m + 1]? = some (.cells #[.int .i64 (mostOf blk pre : Nat)] 3 (0, 0)) ∧ mostOf blk pre ≤ 32768 ∧ Keep (fun b => b = m + 1) wl W'

/-- Inside a gap. -/
def MostJ (blk : Nat → Bool) (m acc g sz : Nat) (w2 : World) (z y : Value) (wr : World) : Prop :=
  ∃ q a t, g ≤ q ∧ q ≤ g + sz + 1 ∧ g ≤ a ∧ a ≤ q ∧ t ≤ 32768 ∧ z = .int .i64 (a : Nat) ∧ y = .int .i64 (q : Nat) ∧ mostW blk g (g + sz) acc (q - g) = (a, t) ∧ wr.heap[m + 1]? = some (.cells #[.int .i64 (t : Nat)] 3 (0, 0)) ∧ Keep (fun b => b = m + 1) w2 wr

end Go.Proofs.YtpmiidpbngbclaaGreatDoor

namespace Go.Proofs.YtpmiidpbngbclaaGreatDoor
open Go.RowKit
set_option linter.unusedVariables false
attribute [local go_sem] Oper.semAt_some

def ErrPost (E : Int) (w : World) (e : Ending) (w' : World) : Prop := e = .returned (.tuple #[.int .i64 0, .int .i64 E]) ∧ Keep Nope w w'

end Go.Proofs.YtpmiidpbngbclaaGreatDoor

namespace Go.Proofs.YtpmiidpbngbclaaGreatDoor
open Go.RowKit
set_option linter.unusedVariables false

def PlacePost (P : Sp) (cs : List Cel) (g id n : Int) (w : World) (e : Ending) (w' : World) : Prop :=
  e = .returned (.tuple #[.int .i64 (if putR P.ts (P.n / 2) cs g id n = 0 then g else 0), .int .i64 (putR P.ts (P.n / 2) cs g id n)]) ∧ PutPost P cs g id n w (.returned (.int .i64 (putR P.ts (P.n / 2) cs g id n))) w'

end Go.Proofs.YtpmiidpbngbclaaGreatDoor
