/-
 A walk of a function that asks a channel of its own in a select with a default: the walk of one goroutine's frames of the ordinary kind. No program in sight.   mark: a stack that holds as many as its channel has room.   mark: one granule is marked.   mark: what a marking knows, and what is reached (plain).
 mark: the objects that one refers to.   mark: drain follows what waits.   mark: again goes through the heap once more.
-/
import Derived.Test.YtgccjhnafhlndaaGreatDoorLibA
import Derived.Conc.LoneSelect
import Derived.Test.YtgccjhnafhlndaaGreatDoorRowsA
import Derived.Test.YtgccjhnafhlndaaGreatDoorBlackA
import Derived.Deep.RegionHeld3
import Derived.Deep.RegionHeldLaw
import Derived.Test.YtgccjhnafhlndaaGreatDoorView
import Derived.Test.YtgccjhnafhlndaaGreatDoorBits2
import Derived.Test.YtgccjhnafhlndaaGreatDoorFindB
import Derived.Test.YtgccjhnafhlndaaGreatDoorWalkB
namespace Go.Proofs.YtgccjhnafhlndaaGreatDoor
open Go.RowKit Go.Conc
set_option linter.unusedVariables false

section
variable {P : Program} {Q : Exit -> Act -> World -> Prop} {a : Act} {w : World}

end

structure MS where
 f : Nat -> Bool
 full : Bool
 n : Nat
 stk : List Nat
 deep : Nat

open Go.RowKit

inductive MReach (KF : Nat -> List Nat) (rs : Nat -> Prop) : Nat -> Prop
 | root {g : Nat} : rs g -> MReach KF rs g
 | step {g k : Nat} : MReach KF rs g -> k ∈ KF g -> MReach KF rs k

structure MInv (KF : Nat -> List Nat) (T rs : Nat -> Prop) (cap : Nat) (X : Nat -> Prop) (S : MS) : Prop where
 re : ∀ g, S.f g = true -> T g /\ MReach KF rs g
 st : ∀ g ∈ S.stk, S.f g = true
 ln : S.stk.length <= S.n
 fl : S.full = true -> cap < S.n
 cl : S.full = false -> ∀ g, S.f g = true -> g ∈ S.stk \/ X g \/ ∀ k ∈ KF g, S.f k = true

structure MExt (S S' : MS) : Prop where
 f : ∀ g, S.f g = true -> S'.f g = true
 n : S.n <= S'.n
 up : S.full = true -> S'.full = true
 dn : S'.full = true -> S.full = true \/ S.n < S'.n
 mu : S'.stk.length + 2 * S.n <= S.stk.length + 2 * S'.n

theorem MExt.refl (S : MS) : MExt S S := ⟨λ _ h => h, Nat.le_refl _, λ h => h, λ h => .inl h, Nat.le_refl _⟩

theorem MExt.trans {A B C : MS} (h : MExt A B) (k : MExt B C) : MExt A C :=
 ⟨λ g e => k.f g (h.f g e), Nat.le_trans h.n k.n, λ e => k.up (h.up e), λ e => by
  have h1 := h.n
  have h2 := k.n
  rcases k.dn e with e | e
  ·rcases h.dn e with e | e
   ·exact .inl e
   ·exact .inr (by omega)
  ·exact .inr (by omega), by have := h.mu; have := k.mu; omega⟩

theorem MInv.mono {KF : Nat -> List Nat} {T rs : Nat -> Prop} {cap : Nat} {X Y : Nat -> Prop} {S : MS} (h : MInv KF T rs cap X S) (hxy : ∀ g, X g -> Y g) : MInv KF T rs cap Y S :=
 ⟨h.re, h.st, h.ln, h.fl, λ hf x hx => by
  rcases h.cl hf x hx with e | e | e
  ·exact .inl e
  ·exact .inr (.inl (hxy x e))
  ·exact .inr (.inr e)⟩

attribute [local go_sem] Oper.semAt_some

end Go.Proofs.YtgccjhnafhlndaaGreatDoor

namespace Go.Proofs.YtgccjhnafhlndaaGreatDoor
open Go.RowKit Go.Conc
set_option linter.unusedVariables false

section
variable {KF : Nat -> List Nat} {T rs : Nat -> Prop} {mb c cap base : Nat} {v0 : Value} {sp sq mp mq H : Nat} {fs : Nat -> Bool} {I : World -> Prop} {X Y : Nat -> Prop} {w0 w1 w2 : World} {lv0 lv1 lv2 : Value} {S0 S1 S2 : MS}

end

section
variable {KF : Nat -> List Nat} {T rs : Nat -> Prop} {mb c cap base : Nat} {v0 : Value} {sp sq mp mq H : Nat} {fs : Nat -> Bool} {I : World -> Prop} {X Y : Nat -> Prop} {w0 w1 w2 : World} {lv0 lv1 lv2 : Value} {S0 S1 S2 : MS}

end

end Go.Proofs.YtgccjhnafhlndaaGreatDoor
