/-
 The cells that any words have, till the first that is none (plain); Fits of package head where an object's header does not fit.
 walk: the cells of an arena, handed over one behind the other.
 A map of whole numbers to true: a set.
 walk: through, which objects begin where.
 walk: the object whose address a word is.
-/
import Derived.Test.YtgccjhnafhlndaaGreatDoorSpacePut
import Derived.Maps.Own
import Derived.Maps.OwnSet
import Derived.Test.YtgccjhnafhlndaaGreatDoorView
import Derived.Test.YtgccjhnafhlndaaGreatDoorRowsA
import Derived.Test.YtgccjhnafhlndaaGreatDoorBlackA
import Derived.Test.YtgccjhnafhlndaaGreatDoorTablesA
namespace Go.Proofs.YtgccjhnafhlndaaGreatDoor
open Go.RowKit
set_option linter.unusedVariables false

def StopW (ts : List TypR) (H : Nat) (W : Nat -> Nat) (g : Nat) : Prop :=
 BN (W (2 * g)) = false \/ (BS (W (2 * g)) = 1 /\ ¬ (AC ts (DK (W (2 * g)) : Nat) (DX (W (2 * g)) : Nat) = 0 /\ Bf ts (DK (W (2 * g)) : Nat) (DX (W (2 * g)) : Nat) = (Da (W (2 * g)) : Nat))) \/ H - g < Da (W (2 * g))

structure CellsTo (P : Sp) (W : Nat -> Nat) (cs : List Cel) (e : Nat) : Prop where
 tl : Am 0 cs e
 le : e <= P.n / 2
 hd : HeadsAt W cs
 ok : ∀ c ∈ cs, CL P.ts c
 stop : e = P.n / 2 \/ StopW P.ts (P.n / 2) W e

theorem CellsAt.to {P : Sp} {W : Nat -> Nat} {cs : List Cel} (h : CellsAt P W cs) : CellsTo P W cs (P.n / 2) := ⟨h.tl, Nat.le_refl _, h.hd, h.ok, .inl rfl⟩

theorem CellsTo.at_ {P : Sp} {W : Nat -> Nat} {cs : List Cel} (h : CellsTo P W cs (P.n / 2)) : CellsAt P W cs := ⟨h.tl, h.hd, h.ok⟩

attribute [local go_sem] Oper.semAt_some

end Go.Proofs.YtgccjhnafhlndaaGreatDoor

namespace Go.Proofs.YtgccjhnafhlndaaGreatDoor
open Go.RowKit Go.Maps
set_option linter.unusedVariables false

section
variable {P : Program} {k e t : TypeId}

def SetIn (P : Program) (k e : TypeId) (w : World) (b n : Nat) (f : Int -> Bool) : Prop :=
 ∃ D : DataW Unit, w.ownsMap P k (plainElem P e) b n D /\ ∀ g : Int, (Lit.int .i64 g).wf = true -> D.atKey (.int .i64 g) (.lit (.bool false)) = .lit (.bool (f g))

theorem SetIn.put {w : World} {b n : Nat} {f : Int -> Bool} (h : SetIn P k e w b n f) (hk : P.underlying k = some (.int .i64)) (he : P.underlying e = some .bool) (ht : P.underlying t = some (.map k e)) (hn : n < maxLen) {g : Int} (hg : (Lit.int .i64 g).wf = true) :
  ∃ w', (Instr.mapUpdate t (.map (some b)) (.int .i64 g) (.bool true)).run P w = .ok () w' /\ SetIn P k e w' b (n + 1) (λ x => f x || x == g) /\ Keep (λ k => k = b) w w' := by
 obtain ⟨D, h1, h2⟩ := h
 have hkk := keyOf_int_mk hk hg
 obtain ⟨w', hrun, ho, hgr⟩ := h1.update (int_keyed hk) ht hn hkk (plainElem_bool he true)
 refine ⟨w', hrun, ⟨_, ho, λ x hx => ?_⟩, (Keep.refl _ w).grown hgr (λ k e _ => by injection e with e; exact e.symm)⟩
 by_cases ex : x = g
 ·subst ex
  rw [Maps.atKey_put_same h1.isMap ((int_keyed hk).key hkk)]
  simp
 ·rw [Maps.atKey_put_other (by intro h; injection h with _ h; exact ex h), h2 x hx]
  simp [ex]

end

def SetAt (w : World) (b n : Nat) (f : Int -> Bool) : Prop := SetIn Tryz.prog 3 4 w b n f

theorem SetAt.lt {w : World} {b n : Nat} {f : Int -> Bool} (h : SetAt w b n f) : b < w.heap.size := by
 obtain ⟨D, h1, -⟩ := h
 exact h1.lt

theorem SetAt.keep {S : Nat -> Prop} {w w' : World} {b n : Nat} {f : Int -> Bool} (h : SetAt w b n f) (k : Keep S w w') (hb : ¬ S b) : SetAt w' b n f := by
 obtain ⟨D, ⟨es, clock, h1, h2⟩, h3⟩ := h
 exact ⟨D, ⟨es, clock, k.at_ h1 hb, h2⟩, h3⟩

open Go.RowKit
attribute [local go_sem] Oper.semAt_some

end Go.Proofs.YtgccjhnafhlndaaGreatDoor

namespace Go.Proofs.YtgccjhnafhlndaaGreatDoor
open Go.RowKit
set_option linter.unusedVariables false

end Go.Proofs.YtgccjhnafhlndaaGreatDoor
