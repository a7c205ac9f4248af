/-
  Drop's closure: how the gap grows by a cell.
-/
import Derived.Test.YtafjebdjdmlahaaDoorCells
import Derived.Test.YtafjebdjdmlahaaDoorKinds
namespace Go.Proofs.YtafjebdjdmlahaaDoor
open Go.RowKit
set_option linter.unusedVariables false

/-- What is laid behind a cell. -/
def growX (c : Cel) (g x : Nat) (over : Bool) : Nat := if c.tag = 1 ∧ ¬ c.g = g ∧ over = false then c.fin else x
def growY (c : Cel) (g y : Nat) : Nat := if c.tag = 1 ∧ ¬ c.g = g then y else c.fin

def GrowPost (c : Cel) (fb tb g x y : Nat) (over : Bool) (w : World) (e : Ending) (w' : World) : Prop :=
  e = .returned (.tuple #[]) ∧ Keep (fun b => b = fb ∨ b = tb) w w' ∧ w'.heap[fb]? = some (.cells #[.int .i64 (growX c g x over : Nat)] 3 (0, 0)) ∧ w'.heap[tb]? = some (.cells #[.int .i64 (growY c g y : Nat)] 3 (0, 0))

set_option maxHeartbeats 2000000 in
theorem Grow_at (c : Cel) (gb ob fb tb g x y : Nat) (over : Bool) (w : World) (hfin : c.g + c.sz ≤ 65536) (hft : ¬ fb = tb)
    (h0 : w.heap[gb]? = some (.cells #[.int .i64 (g : Nat)] 3 (0, 0))) (h1 : w.heap[ob]? = some (.cells #[.bool over] 4 (0, 0)))
    (h2 : w.heap[fb]? = some (.cells #[.int .i64 (x : Nat)] 3 (0, 0))) (h3 : w.heap[tb]? = some (.cells #[.int .i64 (y : Nat)] 3 (0, 0))) :
    Calls Tryd.prog 37 #[.agg #[.int .i64 (c.g : Nat), .int .u8 (c.tag : Nat), .int .i64 (c.ty : Nat), .int .i64 (c.ln : Nat), .int .i64 (c.sz : Nat)], .pointer (some ⟨gb, 0, none⟩), .pointer (some ⟨ob, 0, none⟩), .pointer (some ⟨fb, 0, none⟩), .pointer (some ⟨tb, 0, none⟩)] w (GrowPost c fb tb g x y over w) := by
  have k5 : Keep Nope w (w.alloc (.cells #[.int .i64 (c.g : Nat), .int .u8 (c.tag : Nat), .int .i64 (c.ty : Nat), .int .i64 (c.ln : Nat), .int .i64 (c.sz : Nat)] 45)) := (Keep.refl _ w).alloc _
  have g0 := cell_of_one h0
  have g1 := cell_of_one h1
  have g2 := cell_of_one h2
  have g3 := cell_of_one h3
  have f2 := free_of_one h2
  have f3 := free_of_one h3
  have l0 := lt_of_heap h0
  have l1 := lt_of_heap h1
  have l2 := lt_of_heap h2
  have l3 := lt_of_heap h3
  have hcf : c.fin = c.g + c.sz := rfl
  have HK : Seal _ := ⟨k5.of_not (fun b => b = fb ∨ b = tb)⟩
  have HBB : Seal _ := ⟨And.intro h2 h3⟩
  have hft2 : Seal (¬ fb = tb) := ⟨hft⟩
  clear h0 h1 h2 h3 k5 hft
  by_cases ht : c.tag = 1
  · have t1 : ((c.tag : Int) == 1) = true := by simp; omega
    by_cases hg : c.g = g
    · have t2 : ((c.g : Int) != (g : Int)) = false := by simp; omega
      have e1 : growX c g x over = x := if_neg (fun h => h.2.1 hg)
      have e2 : growY c g y = c.fin := if_neg (fun h => h.2 hg)
      have HE : Seal _ := ⟨And.intro e1 e2⟩
      clear e1 e2 hg ht
      go_enter Tryd.func37, Tryd.ntmps37
      go_wp2_with fail
      go_end0
      refine ⟨rfl, ((Keep.refl _ w).setCell (fun _ => .inr rfl) _).alloc _, ?_, ?_⟩
      · rw [HE.out.1]; exact ((Keep.refl Nope _).alloc _).at_ ((Below.heap_setCell _ _ _ _ (by have := hft2.out; dsimp only; omega)).trans HBB.out.1) (fun h => h)
      · rw [HE.out.2, hcf]; exact ((Keep.refl Nope _).alloc _).at_ (one_setCell HBB.out.2) (fun h => h)
    · have t2 : ((c.g : Int) != (g : Int)) = true := by simp; omega
      cases over with
      | true =>
        have e1 : growX c g x true = x := if_neg (fun h => by cases h.2.2)
        have e2 : growY c g y = y := if_pos ⟨ht, hg⟩
        have HE : Seal _ := ⟨And.intro e1 e2⟩
        clear e1 e2 hg ht
        go_enter Tryd.func37, Tryd.ntmps37
        go_wp2_with fail
        go_end0
        refine ⟨rfl, HK.out, ?_, ?_⟩
        · rw [HE.out.1]; exact ((Keep.refl Nope _).alloc _).at_ (HBB.out.1) (fun h => h)
        · rw [HE.out.2]; exact ((Keep.refl Nope _).alloc _).at_ (HBB.out.2) (fun h => h)
      | false =>
        have e1 : growX c g x false = c.fin := if_pos ⟨ht, hg, rfl⟩
        have e2 : growY c g y = y := if_pos ⟨ht, hg⟩
        have HE : Seal _ := ⟨And.intro e1 e2⟩
        clear e1 e2 hg ht
        go_enter Tryd.func37, Tryd.ntmps37
        go_wp2_with fail
        go_end0
        refine ⟨rfl, ((Keep.refl _ w).setCell (fun _ => .inl rfl) _).alloc _, ?_, ?_⟩
        · rw [HE.out.1, hcf]; exact ((Keep.refl Nope _).alloc _).at_ (one_setCell HBB.out.1) (fun h => h)
        · rw [HE.out.2]; exact ((Keep.refl Nope _).alloc _).at_ ((Below.heap_setCell _ _ _ _ (by have := hft2.out; dsimp only; omega)).trans HBB.out.2) (fun h => h)
  · have t1 : ((c.tag : Int) == 1) = false := by simp; omega
    have e1 : growX c g x over = x := if_neg (fun h => ht h.1)
    have e2 : growY c g y = c.fin := if_neg (fun h => ht h.1)
    have HE : Seal _ := ⟨And.intro e1 e2⟩
    clear e1 e2 ht
    go_enter Tryd.func37, Tryd.ntmps37
    go_wp2_with fail
    go_end0
    refine ⟨rfl, ((Keep.refl _ w).setCell (fun _ => .inr rfl) _).alloc _, ?_, ?_⟩
    · rw [HE.out.1]; exact ((Keep.refl Nope _).alloc _).at_ ((Below.heap_setCell _ _ _ _ (by have := hft2.out; dsimp only; omega)).trans HBB.out.1) (fun h => h)
    · rw [HE.out.2, hcf]; exact ((Keep.refl Nope _).alloc _).at_ (one_setCell HBB.out.2) (fun h => h)

end Go.Proofs.YtafjebdjdmlahaaDoor
