/-
 Rows of whole numbers: an argument or an owned row as a list, and SameInts of the document.
-/
import Derived.Test.YtllpibknkajfnaaGreatDoorFindB
namespace Go.Proofs.YtllpibknkajfnaaGreatDoor
open Go.RowKit
set_option linter.unusedVariables false

/-- Are two rows of ints the same? -/
def SameB (la lb : Nat) (x y : Nat → Nat → Int) : Bool := decide (la = lb ∧ ∀ i, i < la → x i 0 = y i 0)

set_option maxHeartbeats 1000000 in
theorem SameInts_at (la lb : Nat) (x y : Nat → Nat → Int) (v u : Value) (w : World) (hv : IntsAt 1 w v la x) (hu : IntsAt 1 w u lb y) (hl : la ≤ 9223372036854775806) :
  Calls Tryz.prog 31 #[v, u] w fun e w' => e = .returned (.bool (SameB la lb x y)) ∧ Keep Nope w w' := by
 obtain ⟨va, vc, rfl, hx⟩ := ints_at hv
 obtain ⟨ua, uc, rfl, hy⟩ := ints_at hu
 have HX : Seal _ := ⟨hx⟩
 have HY : Seal _ := ⟨hy⟩
 clear hv hu hx hy
 by_cases hle : la = lb
 ·subst hle
  have hl1 : ((la : Int) != (la : Int)) = false := by simp
  obtain ⟨r, hr⟩ : ∃ r, SameB la la x y = r := ⟨_, rfl⟩
  rw [hr]
  have HR : Seal _ := ⟨hr⟩
  clear hr
  go_enter Tryz.func31, Tryz.ntmps31
  go_wp2_with fail
  go_loopw [5] (fun z wr => ∃ j : Nat, j ≤ la ∧ z = .int .i64 (j : Nat) ∧ Seal (∀ i, i < j → x i 0 = y i 0) ∧ Keep Nope w wr) (fun z _ => la - (intOf z).toNat)
  case atStart => exact ⟨0, Nat.zero_le _, rfl, ⟨fun i hi => by omega⟩, Keep.refl _ _⟩
  case round =>
   obtain ⟨j, hj, rfl, HE, hk⟩ := hrel
   have HK : Seal _ := ⟨hk⟩
   by_cases hjl : j < la
   ·have hjl' : (j : Int) < la := by omega
    obtain ⟨b, o, rfl, hb, r0, -⟩ := HX.out j hjl
    obtain ⟨b', o', rfl, hb', r1, -⟩ := HY.out j hjl
    replace r0 := hk.cell r0 (fun h => h)
    replace r1 := hk.cell r1 (fun h => h)
    clear hk
    obtain ⟨X, hX⟩ : ∃ X, x j 0 = X := ⟨_, rfl⟩
    obtain ⟨Y, hY⟩ : ∃ Y, y j 0 = Y := ⟨_, rfl⟩
    rw [hX] at r0
    rw [hY] at r1
    have HXY : Seal _ := ⟨And.intro hX hY⟩
    clear hX hY
    by_cases q : X = Y
    ·have q1 : (X != Y) = false := by simp [q]
     have HE2 : Seal (∀ i, i < j + 1 → x i 0 = y i 0) := ⟨fun i hi => by
      by_cases e : i = j
      ·rw [e, HXY.out.1, HXY.out.2, q]
      ·exact HE.out i (by omega)⟩
     clear q
     go_wp2_with fail
     go_quiet (fail)
     go_wp2
     exact ⟨⟨j + 1, by omega, by go_num, HE2, HK.out.then' (Keep.of_drewN _)⟩, by simp only [intOf]; omega⟩
    ·have q1 : (X != Y) = true := by simp [q]
     have HF : Seal (r = false) := ⟨by
      rw [← HR.out, SameB, decide_eq_false]
      rintro ⟨-, h⟩
      have := h j hjl
      rw [HXY.out.1, HXY.out.2] at this
      exact q this⟩
     clear q
     go_wp2_with fail
     go_quiet (fail)
     go_wp2
     go_ret
     exact ⟨by rw [HF.out]; rfl, HK.out.then' (Keep.of_drewN _)⟩
   ·have hjl' : ¬ (j : Int) < la := by omega
    have HF : Seal (r = true) := ⟨by
     rw [← HR.out, SameB, decide_eq_true]
     exact ⟨rfl, fun i hi => HE.out i (by omega)⟩⟩
    clear hk
    go_wp2
    go_ret
    exact ⟨by rw [HF.out]; rfl, HK.out⟩
 ·have hl1 : ((la : Int) != (lb : Int)) = true := by simp; omega
  rw [show SameB la lb x y = false by rw [SameB, decide_eq_false]; exact fun h => hle h.1]
  clear hle
  go_enter Tryz.func31, Tryz.ntmps31
  go_wp2
  go_ret
  exact ⟨rfl, Keep.refl _ _⟩

def intVs (xs : List Int) : List Value := xs.map (Value.int .i64)

/-- The value v is a row of ints. -/
def IntsIn (w : World) (v : Value) (xs : List Int) : Prop := IntsAt 1 w v xs.length (fun i _ => xs.getD i 0)

theorem IntsIn.keepN {w w' : World} {v : Value} {xs : List Int} (h : IntsIn w v xs) (k : Keep Nope w w') : IntsIn w' v xs := IntsAt.keep h k (fun _ _ h => h)

theorem ints_of_owns {w : World} {base : Nat} {v : Value} {xs : List Int} (h : w.ownsRow base 3 1 v xs.length (intVs xs)) (hr : ∀ x ∈ xs, -9223372036854775808 ≤ x ∧ x ≤ 9223372036854775807) : IntsIn w v xs := by
 rcases h.2 with ⟨rfl, h0⟩ | ⟨g, cap, cur, rfl, g2, g3, g4, g5, g6, g7⟩
 ·exact ⟨none, 0, by rw [h0], fun i hi => by omega⟩
 ·refine ⟨some ⟨g, 0, none⟩, cap, rfl, fun i hi => ⟨g, 0, rfl, lt_of_heap g3, fun j hj => ?_⟩⟩
  obtain rfl : j = 0 := by omega
  have hx : xs[i]? = some xs[i] := List.getElem?_eq_getElem hi
  refine ⟨?_, ?_⟩
  ·have : cur.toList[i]? = some (.int .i64 xs[i]) := by
    rw [← List.getElem?_take_of_lt (j := xs.length * 1) (by omega), g7, intVs, List.getElem?_map, hx]
    rfl
   rw [show 0 + (i * 1 + 0) = i by omega]
   simp only [World.cell?, g3]
   rw [show xs.getD i 0 = xs[i] by simp [List.getD, hx], ← this]
   simp
  ·dsimp only
   rw [show xs.getD i 0 = xs[i] by simp [List.getD, hx]]
   exact hr _ (List.getElem_mem hi)

theorem sameB_iff (xs ys : List Int) : SameB xs.length ys.length (fun i _ => xs.getD i 0) (fun i _ => ys.getD i 0) = decide (xs = ys) := by
 unfold SameB
 by_cases h : xs = ys
 ·subst h
  simp
 ·rw [decide_eq_false h, decide_eq_false]
  rintro ⟨h1, h2⟩
  refine h (List.ext_getElem h1 fun i a b => ?_)
  have := h2 i a
  simpa [List.getD, List.getElem?_eq_getElem a, List.getElem?_eq_getElem b] using this

theorem SameInts_any {xs ys : List Int} {v u : Value} {w : World} (hv : IntsIn w v xs) (hu : IntsIn w u ys) (hl : xs.length ≤ 9223372036854775806) :
  Calls Tryz.prog 31 #[v, u] w fun e w' => e = .returned (.bool (decide (xs = ys))) ∧ Keep Nope w w' := by
 have := SameInts_at _ _ _ _ v u w hv hu hl
 rwa [sameB_iff] at this

theorem SameInts_yes {xs : List Int} {v u : Value} {w : World} (hv : IntsIn w v xs) (hu : IntsIn w u xs) (hl : xs.length ≤ 9223372036854775806) :
  Calls Tryz.prog 31 #[v, u] w fun e w' => e = .returned (.bool true) ∧ Keep Nope w w' := by
 have := SameInts_any hv hu hl
 rwa [decide_eq_true rfl] at this

end Go.Proofs.YtllpibknkajfnaaGreatDoor
