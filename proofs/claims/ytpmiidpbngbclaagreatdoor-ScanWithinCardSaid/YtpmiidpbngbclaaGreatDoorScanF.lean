/-
  scan: one word of a cell.
-/
import Derived.Test.YtpmiidpbngbclaaGreatDoorScanAlive
namespace Go.Proofs.YtpmiidpbngbclaaGreatDoor
open Go.RowKit
set_option linter.unusedVariables false

theorem one_in {P : Sp} {W : Nat → Nat} {pre post : List Cel} {x : Cel} {q : Nat} (hc : CellsAt P W (pre ++ x :: post)) (hev : P.n % 2 = 0) (h1 : 2 * x.g ≤ q) (h2 : q < 2 * x.fin) : wordIn P.n (1048576 + q) ∧ celHas (pre ++ x :: post) ((1048576 + q - 1048576) / 2) = some x := by
  have hle := hc.tl.fin_at.2.1.le
  refine ⟨by unfold wordIn; omega, ?_⟩
  rw [Nat.add_sub_cancel_left]
  exact celHas_at hc.tl (by omega) (by omega)

theorem scan_one (q : Nat) (x : Cel) (pre post : List Cel) (P : Sp) (W : Nat → Nat) (f : Nat → Bool) (v : Value) (w : World) (hsp : SpaceAt w P W f) (hc : CellsAt P W (pre ++ x :: post)) (hst : ∀ i, i < P.n / 2 → f i = startOf (pre ++ x :: post) i) (h1 : 2 * x.g ≤ q) (h2 : q < 2 * x.fin) (hv : WordArg w v 1 (fun _ => 1048576 + q)) :
    Calls Tryz.prog 44 #[.pointer (some ⟨P.s, 0, none⟩), v] w fun e w' => ∃ a n c a' n' c', e = .returned (.agg #[.slice a n c, .slice a' n' c', .int .i64 0]) ∧
      (IntsIn w' (.slice a n c) (if x.tag = 1 then [(x.g : Int)] else []) ∧ IntsIn w' (.slice a' n' c') (if x.tag = 1 then [] else [((q / 2 : Nat) : Int)])) ∧ Keep Nope w w' := by
  have hsm := hsp.ar.small
  obtain ⟨hin, hco⟩ := one_in hc hsp.ev h1 h2
  have hle := hc.tl.fin_at.2.1.le
  have e1 : riseL (pinsL P.n (pre ++ x :: post) (fun _ => 1048576 + q) 1) = if x.tag = 1 then [(x.g : Int)] else [] := by
    rw [pinsL_succ]
    unfold pinsW
    rw [if_pos hin, hco]
    dsimp only
    split
    · exact riseL_one _
    · exact riseL_nil
  have e2 : riseL (hitsL P.n (pre ++ x :: post) (fun _ => 1048576 + q) 1) = if x.tag = 1 then [] else [((q / 2 : Nat) : Int)] := by
    rw [hitsL_succ]
    unfold hitsW
    rw [if_pos hin, hco]
    dsimp only
    rw [Nat.add_sub_cancel_left]
    split
    · exact riseL_nil
    · exact riseL_one _
  have e3 : looseL P.n (fun _ => 1048576 + q) 1 = 0 := by
    rw [looseL, looseL]
    unfold looseW
    rw [if_pos hin]
  refine (ScanOf_at P W f _ v 1 _ w hsp hc hst hv (by omega)).mono ?_
  rintro e w' ⟨pv, hv', rfl, o1, o2, k⟩
  rw [e1] at o1
  rw [e2] at o2
  have i1 := ints_of_owns o1 (fun y hy => by split at hy <;> simp at hy; subst hy; unfold Cel.fin at *; omega)
  have i2 := ints_of_owns o2 (fun y hy => by split at hy <;> simp at hy; subst hy; unfold Cel.fin at *; omega)
  obtain ⟨a, c, h3⟩ := ints_slice i1
  obtain ⟨a', c', h4⟩ := ints_slice i2
  obtain ⟨n1, hn1⟩ : ∃ n, (if x.tag = 1 then [(x.g : Int)] else []).length = n := ⟨_, rfl⟩
  obtain ⟨n2, hn2⟩ : ∃ n, (if x.tag = 1 then [] else [((q / 2 : Nat) : Int)]).length = n := ⟨_, rfl⟩
  rw [hn1] at h3
  rw [hn2] at h4
  subst h3 h4
  exact ⟨_, _, _, _, _, _, by rw [e3]; rfl, ⟨i1, i2⟩, k⟩

theorem pre_yes (x : Cel) (pre post : List Cel) (P : Sp) (W : Nat → Nat) (f : Nat → Bool) (v : Value) (w : World) (hsp : SpaceAt w P W f) (hc : CellsAt P W (pre ++ x :: post)) (hst : ∀ i, i < P.n / 2 → f i = startOf (pre ++ x :: post) i) (ht : x.tag = 1) (hv : WordArg w v 1 (fun _ => 1048576 + 2 * x.g)) :
    Calls Tryz.prog 42 #[.pointer (some ⟨P.s, 0, none⟩), v] w fun e w' => ∃ a n c, e = .returned (.tuple #[.slice a n c, .int .i64 0]) ∧ IntsIn w' (.slice a n c) [(x.g : Int)] ∧ Keep Nope w w' := by
  have hsm := hsp.ar.small
  have hz := (hc.tl.mem (show x ∈ pre ++ x :: post by simp)).2.2
  have hle := hc.tl.fin_at.2.1.le
  obtain ⟨hin, hco⟩ := one_in (q := 2 * x.g) hc hsp.ev (by omega) (by unfold Cel.fin; omega)
  have hof : ofW P.n (pre ++ x :: post) (1048576 + 2 * x.g) = some x.g := by
    unfold ofW
    rw [if_pos hin, hco]
    simp [ht]
  have e1 : riseL (preLL P.n (pre ++ x :: post) (fun _ => 1048576 + 2 * x.g) 1) = [(x.g : Int)] := by
    rw [preLL_succ, preL, hof]
    dsimp only
    rw [if_pos rfl]
    exact riseL_one _
  refine (Precise_at P W f _ v 1 _ w hsp hc hst hv (by omega)).mono ?_
  rintro e w' ⟨k, ⟨-, v', rfl, o1⟩ | ⟨⟨i, hi, hno⟩, -⟩⟩
  · rw [e1] at o1
    have i1 := ints_of_owns o1 (fun y hy => by simp at hy; subst hy; unfold Cel.fin at *; omega)
    obtain ⟨a, c, rfl⟩ := ints_slice i1
    exact ⟨a, _, c, rfl, i1, k⟩
  · exact absurd (.inr ⟨x.g, hof, rfl⟩) hno

theorem pre_no (q : Nat) (x : Cel) (pre post : List Cel) (P : Sp) (W : Nat → Nat) (f : Nat → Bool) (v : Value) (w : World) (hsp : SpaceAt w P W f) (hc : CellsAt P W (pre ++ x :: post)) (hst : ∀ i, i < P.n / 2 → f i = startOf (pre ++ x :: post) i) (h1 : 2 * x.g ≤ q) (h2 : q < 2 * x.fin) (hn : ¬ (x.tag = 1 ∧ q = 2 * x.g)) (hv : WordArg w v 1 (fun _ => 1048576 + q)) :
    Calls Tryz.prog 42 #[.pointer (some ⟨P.s, 0, none⟩), v] w fun e w' => e = .returned (.tuple #[.slice none 0 0, .int .i64 8]) ∧ Keep Nope w w' := by
  obtain ⟨hin, hco⟩ := one_in hc hsp.ev h1 h2
  have hno : ¬ preOk P.n (pre ++ x :: post) (1048576 + q) := by
    rintro (h | ⟨g, h, h'⟩)
    · omega
    · unfold ofW at h
      rw [if_pos hin, hco] at h
      dsimp only at h
      split at h
      · rename_i ht
        injection h with h
        subst h
        exact hn ⟨ht, by omega⟩
      · cases h
  refine (Precise_at P W f _ v 1 _ w hsp hc hst hv (by omega)).mono ?_
  rintro e w' ⟨k, ⟨h, -⟩ | ⟨-, rfl⟩⟩
  · exact absurd (h 0 (by omega)) hno
  · exact ⟨rfl, k⟩

theorem four_allocs (w : World) (A B C D : Obj) : ((((w.alloc A).alloc B).alloc C).alloc D).heap[w.heap.size]? = some A ∧ ((((w.alloc A).alloc B).alloc C).alloc D).heap[w.heap.size + 1]? = some B ∧ ((((w.alloc A).alloc B).alloc C).alloc D).heap[w.heap.size + 1 + 1]? = some C ∧ ((((w.alloc A).alloc B).alloc C).alloc D).heap[w.heap.size + 1 + 1 + 1]? = some D ∧ Keep Nope w ((((w.alloc A).alloc B).alloc C).alloc D) := by
  have kA : ∀ w o, Keep Nope w (w.alloc o) := fun w o => (Keep.refl _ w).alloc o
  have n1 := World.alloc_heap_new (w.alloc A) B
  have n2 := World.alloc_heap_new ((w.alloc A).alloc B) C
  have n3 := World.alloc_heap_new (((w.alloc A).alloc B).alloc C) D
  rw [show (w.alloc A).heap.size = w.heap.size + 1 by simp] at n1
  rw [show ((w.alloc A).alloc B).heap.size = w.heap.size + 1 + 1 by simp] at n2
  rw [show (((w.alloc A).alloc B).alloc C).heap.size = w.heap.size + 1 + 1 + 1 by simp] at n3
  exact ⟨(kA _ _).at_ ((kA _ _).at_ ((kA _ _).at_ (World.alloc_heap_new w A) (fun h => h)) (fun h => h)) (fun h => h), (kA _ _).at_ ((kA _ _).at_ n1 (fun h => h)) (fun h => h), (kA _ _).at_ n2 (fun h => h), n3, (((kA _ _).then' (kA _ _)).then' (kA _ _)).then' (kA _ _)⟩

theorem three_allocs (w : World) (A B C : Obj) : (((w.alloc A).alloc B).alloc C).heap[w.heap.size]? = some A ∧ (((w.alloc A).alloc B).alloc C).heap[w.heap.size + 1]? = some B ∧ (((w.alloc A).alloc B).alloc C).heap[w.heap.size + 1 + 1]? = some C ∧ Keep Nope w (((w.alloc A).alloc B).alloc C) := by
  have kA : ∀ w o, Keep Nope w (w.alloc o) := fun w o => (Keep.refl _ w).alloc o
  have n1 := World.alloc_heap_new (w.alloc A) B
  have n2 := World.alloc_heap_new ((w.alloc A).alloc B) C
  rw [show (w.alloc A).heap.size = w.heap.size + 1 by simp] at n1
  rw [show ((w.alloc A).alloc B).heap.size = w.heap.size + 1 + 1 by simp] at n2
  exact ⟨(kA _ _).at_ ((kA _ _).at_ (World.alloc_heap_new w A) (fun h => h)) (fun h => h), (kA _ _).at_ n1 (fun h => h), n2, ((kA _ _).then' (kA _ _)).then' (kA _ _)⟩

theorem word_one {w : World} {b cap q : Nat} {T : TypeId} (h : w.heap[b]? = some (.cells #[.int .u64 (1048576 + (q : Int))] T (0, 0))) (hq : q ≤ 65536) : WordArg w (.slice (some ⟨b, 0, none⟩) 1 cap) 1 (fun _ => 1048576 + q) :=
  words_of h (fun i hi => by
    obtain rfl : i = 0 := by omega
    exact ⟨by simp, by omega⟩)

end Go.Proofs.YtpmiidpbngbclaaGreatDoor
