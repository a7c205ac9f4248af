/-
 The cells that any words have, till the first that is none (plain); Fits of package head where an object's header does not fit.
 walk: the cells of an arena, handed over one behind the other.
 A map of whole numbers to true: a set.
 walk: through, which objects begin where.
 walk: the object whose address a word is.
-/
import Derived.Test.YtlmdkfbibpkjgaaGreatDoorSpacePut
import Derived.Maps.Own
import Derived.Maps.OwnSet
import Derived.Test.YtlmdkfbibpkjgaaGreatDoorView
import Derived.Test.YtlmdkfbibpkjgaaGreatDoorRowsA
import Derived.Test.YtlmdkfbibpkjgaaGreatDoorBlackA
import Derived.Test.YtlmdkfbibpkjgaaGreatDoorTablesA
namespace Go.Proofs.YtlmdkfbibpkjgaaGreatDoor
open Go.RowKit
set_option linter.unusedVariables false

def StopW (ts : List TypR) (H : Nat) (W : Nat -> Nat) (g : Nat) : Prop :=
 BS (W (2 * g)) = false \/ (Ck (W (2 * g)) = 1 /\ ¬ (AO ts (Ed (W (2 * g)) : Nat) (Et (W (2 * g)) : Nat) = 0 /\ Bj ts (Ed (W (2 * g)) : Nat) (Et (W (2 * g)) : Nat) = (Dt (W (2 * g)) : Nat))) \/ H - g < Dt (W (2 * g))

structure CellsTo (P : Sp) (W : Nat -> Nat) (cs : List Cel) (e : Nat) : Prop where
 tl : Aq 0 cs e
 le : e <= P.n / 2
 hd : HeadsAt W cs
 ok : ∀ c ∈ cs, Dv P.ts c
 stop : e = P.n / 2 \/ StopW P.ts (P.n / 2) W e

theorem CellsAt.to {P : Sp} {W : Nat -> Nat} {cs : List Cel} (h : CellsAt P W cs) : CellsTo P W cs (P.n / 2) := ⟨h.tl, Nat.le_refl _, h.hd, h.ok, .inl rfl⟩

theorem CellsTo.at_ {P : Sp} {W : Nat -> Nat} {cs : List Cel} (h : CellsTo P W cs (P.n / 2)) : CellsAt P W cs := ⟨h.tl, h.hd, h.ok⟩

attribute [local go_sem] Oper.semAt_some

end Go.Proofs.YtlmdkfbibpkjgaaGreatDoor

namespace Go.Proofs.YtlmdkfbibpkjgaaGreatDoor
open Go.RowKit Go.Maps
set_option linter.unusedVariables false

section
variable {P : Program} {k e t : TypeId}

theorem plainElem_bool_inv (he : P.underlying e = some .bool) {v : Value} {z : DataW Unit × List MemPlace} (h : plainElem P e v = some z) : ∃ x, v = .bool x /\ z = (.lit (.bool x), []) := by
 unfold plainElem at h
 rw [he] at h
 cases v <;> simp at h
 exact ⟨_, rfl, h.symm⟩

def SetIn (P : Program) (k e : TypeId) (w : World) (b n : Nat) (f : Int -> Bool) : Prop :=
 ∃ D : DataW Unit, w.ownsMap P k (plainElem P e) b n D /\ ∀ g : Int, (Lit.int .i64 g).wf = true -> D.atKey (.int .i64 g) (.lit (.bool false)) = .lit (.bool (f g))

theorem SetIn.look {w : World} {b n : Nat} {f : Int -> Bool} (h : SetIn P k e w b n f) (hk : P.underlying k = some (.int .i64)) (he : P.underlying e = some .bool) (ht : P.underlying t = some (.map k e)) (hz : (zeroValue e).run P w = .ok (.bool false) w) {g : Int} (hg : (Lit.int .i64 g).wf = true) :
  (Instr.lookup t (.map (some b)) (.int .i64 g) false).run P w = .ok (.bool (f g)) w := by
 obtain ⟨D, h1, h2⟩ := h
 obtain ⟨v, ps, hrun, hv⟩ := h1.lookup (int_keyed hk) ht hz (plainElem_bool he false) (keyOf_int_mk hk hg)
 rw [h2 g hg] at hv
 obtain ⟨x, rfl, hx⟩ := plainElem_bool_inv he hv
 simp only [Prod.mk.injEq] at hx
 have : f g = x := by have := hx.1; injection this with this; injection this
 rw [hrun, this]

theorem SetIn.put {w : World} {b n : Nat} {f : Int -> Bool} (h : SetIn P k e w b n f) (hk : P.underlying k = some (.int .i64)) (he : P.underlying e = some .bool) (ht : P.underlying t = some (.map k e)) (hn : n < maxLen) {g : Int} (hg : (Lit.int .i64 g).wf = true) :
  ∃ w', (Instr.mapUpdate t (.map (some b)) (.int .i64 g) (.bool true)).run P w = .ok () w' /\ SetIn P k e w' b (n + 1) (λ x => f x || x == g) /\ Keep (λ k => k = b) w w' := by
 obtain ⟨D, h1, h2⟩ := h
 have hkk := keyOf_int_mk hk hg
 obtain ⟨w', hrun, ho, hgr⟩ := h1.update (int_keyed hk) ht hn hkk (plainElem_bool he true)
 refine ⟨w', hrun, ⟨_, ho, λ x hx => ?_⟩, (Keep.refl _ w).grown hgr (λ k e _ => by injection e with e; exact e.symm)⟩
 by_cases ex : x = g
 ·subst ex
  rw [Maps.atKey_put_same h1.isMap ((int_keyed hk).key hkk)]
  simp
 ·rw [Maps.atKey_put_other (by intro h; injection h with _ h; exact ex h), h2 x hx]
  simp [ex]

end

def SetAt (w : World) (b n : Nat) (f : Int -> Bool) : Prop := SetIn Tryz.prog 3 4 w b n f

theorem SetAt.made (w : World) : SetAt (w.alloc (.map #[] 0)) w.heap.size 0 (λ _ => false) :=
 ⟨.map [], World.ownsMap_made w _ _ _, λ g _ => rfl⟩

theorem SetAt.lt {w : World} {b n : Nat} {f : Int -> Bool} (h : SetAt w b n f) : b < w.heap.size := by
 obtain ⟨D, h1, -⟩ := h
 exact h1.lt

theorem SetAt.keep {S : Nat -> Prop} {w w' : World} {b n : Nat} {f : Int -> Bool} (h : SetAt w b n f) (k : Keep S w w') (hb : ¬ S b) : SetAt w' b n f := by
 obtain ⟨D, ⟨es, clock, h1, h2⟩, h3⟩ := h
 exact ⟨D, ⟨es, clock, k.at_ h1 hb, h2⟩, h3⟩

theorem wf_small {g : Nat} (h : g <= 9223372036854775807) : (Lit.int .i64 (g : Int)).wf = true := by
 have h1 : IntKind.i64.min = -9223372036854775808 := by decide
 have h2 : IntKind.i64.max = 9223372036854775807 := by decide
 simp only [Lit.wf, h1, h2, Bool.and_eq_true, decide_eq_true_eq]
 omega

open Go.RowKit
attribute [local go_sem] Oper.semAt_some

theorem cells5g {w : World} {b : Nat} {a0 a1 a2 a3 a4 : Value} {T : TypeId} (hb : w.heap[b]? = some (.cells #[a0, a1, a2, a3, a4] T (0, 0))) :
  w.cell? ⟨b, 0, none⟩ = some a0 /\ w.cell? ⟨b, 1, none⟩ = some a1 /\ w.cell? ⟨b, 2, none⟩ = some a2 /\ w.cell? ⟨b, 3, none⟩ = some a3 /\ w.cell? ⟨b, 4, none⟩ = some a4 := by
 refine ⟨?_, ?_, ?_, ?_, ?_⟩ <;> simp only [World.cell?, hb] <;> rfl

theorem wpIn_region_held_drew {P : Program} {Q : Exit -> Act -> World -> Prop} {S : World -> Prop} {l : List Oper} {id n lo : Nat} {a : Act} {w : World} (hm : P.follows .mixedOrders = true) (hd : CZ l.toArray = true) (hq : ∀ a w, ¬ Q .outgrown a w) (hS : S w.drew)
  (h : S w.drew -> wpAnyH P .any l.toArray Q S l.toArray.size (Array.replicate l.toArray.size false) a w.drew) : (Code.region id l.toArray true).wpIn (Fence.wide.inRound lo) n P Q a w :=
 wpIn_region_any hm hd hq (wpAny_of_held _ _ _ _ (h hS))

end Go.Proofs.YtlmdkfbibpkjgaaGreatDoor

namespace Go.Proofs.YtlmdkfbibpkjgaaGreatDoor
open Go.RowKit
set_option linter.unusedVariables false

end Go.Proofs.YtlmdkfbibpkjgaaGreatDoor
