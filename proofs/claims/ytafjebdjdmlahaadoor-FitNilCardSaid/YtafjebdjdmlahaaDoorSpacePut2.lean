/-
  Put of package space, where the table knows the size.
-/
import Derived.Test.YtafjebdjdmlahaaDoorSpacePut
namespace Go.Proofs.YtafjebdjdmlahaaDoor
open Go.RowKit
set_option linter.unusedVariables false
attribute [local go_sem] Oper.semAt_some

set_option maxRecDepth 20000 in
set_option maxHeartbeats 4000000 in
theorem Put_out (g : Int) (i l S : Nat) (P : Sp) (cs : List Cel) (w : World) (h : SpaceHas w P cs) (he : sizeE P.ts (i : Nat) (l : Nat) = 0) (hS : sizeS P.ts (i : Nat) (l : Nat) = (S : Nat)) (ho : g < 0 ∨ ((P.n / 2 : Nat) : Int) ≤ g) :
    Calls Tryd.prog 10 #[.pointer (some ⟨P.s, 0, none⟩), .int .i64 g, .int .i64 (i : Nat), .int .i64 (l : Nat)] w (PutPost P cs g (i : Nat) (l : Nat) w) := by
  have hR : Seal (putR P.ts (P.n / 2) cs g (i : Nat) (l : Nat) = 2) := ⟨by rw [putR, if_neg (by simpa using he), if_pos ho]⟩
  have HO : Seal (∀ W' W0 f0, SpaceAt W' P W0 f0 → Calls Tryd.prog 31 #[.pointer (some ⟨P.t, 0, none⟩), .int .i64 (i : Nat), .int .i64 (l : Nat)] W' fun e w' => e = .returned (.tuple #[.agg #[.int .u8 1, .int .i64 (i : Nat), .int .i64 (l : Nat), .int .i64 (S : Nat)], .int .i64 0]) ∧ Keep Nope W' w') :=
    ⟨fun W' _ _ h' => (HOf_any (i : Nat) (l : Nat) P.t P.tq P.ts W' h'.tb).mono fun e w' hp => by rw [HOfPost, he, if_pos rfl, hS] at hp; exact hp⟩
  obtain ⟨H, hH⟩ : ∃ H, P.n / 2 = H := ⟨_, rfl⟩
  have HG : Seal (∀ W' W0 f0, SpaceAt W' P W0 f0 → Calls Tryd.prog 29 #[.pointer (some ⟨P.s, 0, none⟩)] W' fun e w'' => e = .returned (.int .i64 (H : Nat)) ∧ w'' = W') := ⟨fun w' W0 f0 h' => by rw [← hH]; exact Gran_at P W0 f0 w' h'⟩
  rw [hH] at ho
  clear he hS hH
  obtain ⟨W, f, hs, hc, hst⟩ := h
  have HSs : Seal _ := ⟨hs⟩
  have HCs : Seal _ := ⟨hc⟩
  have HSt : Seal _ := ⟨hst⟩
  obtain ⟨w5, hw5⟩ : ∃ w5, w5 = ((((w.alloc (.cells #[.pointer (some ⟨P.s, 0, none⟩)] 30)).alloc (.cells #[.int .i64 g] 3)).alloc (.cells #[.int .i64 (i : Nat)] 3)).alloc (.cells #[.int .i64 (l : Nat)] 3)).alloc (.cells #[.int .i64 0] 27) := ⟨_, rfl⟩
  have k5 : Keep Nope w w5 := by rw [hw5]; exact (((((Keep.refl _ w).alloc _).alloc _).alloc _).alloc _).alloc _
  have z5 : Seal (w5.heap.size = w.heap.size + 1 + 1 + 1 + 1 + 1) := ⟨by rw [hw5]; simp⟩
  have g0 : w5.heap[w.heap.size]? = some (.cells #[.pointer (some ⟨P.s, 0, none⟩)] 30 (0, 0)) := by
    rw [hw5]; exact ((((Keep.refl Nope _).alloc _).alloc _).alloc _ |>.alloc _).at_ (World.alloc_heap_new w _) (fun h => h)
  have g1 : w5.heap[w.heap.size + 1]? = some (.cells #[.int .i64 g] 3 (0, 0)) := by
    rw [hw5]; exact (((Keep.refl Nope _).alloc _).alloc _ |>.alloc _).at_ (alloc_new' _ _ (by simp)) (fun h => h)
  have g2 : w5.heap[w.heap.size + 1 + 1]? = some (.cells #[.int .i64 (i : Nat)] 3 (0, 0)) := by
    rw [hw5]; exact ((Keep.refl Nope _).alloc _ |>.alloc _).at_ (alloc_new' _ _ (by simp)) (fun h => h)
  have g3 : w5.heap[w.heap.size + 1 + 1 + 1]? = some (.cells #[.int .i64 (l : Nat)] 3 (0, 0)) := by
    rw [hw5]; exact ((Keep.refl Nope _).alloc _).at_ (alloc_new' _ _ (by simp)) (fun h => h)
  have g4 : w5.heap[w.heap.size + 1 + 1 + 1 + 1]? = some (.cells #[.int .i64 0] 27 (0, 0)) := by
    rw [hw5]; exact alloc_new' _ _ (by simp)
  have S5 := hs.keepN k5
  have HB : Seal _ := ⟨And.intro g0 (And.intro g1 (And.intro g2 (And.intro g3 g4)))⟩
  have c0 := cell_of_one g0
  have c1 := cell_of_one g1
  have c2 := cell_of_one g2
  have c3 := cell_of_one g3
  have c4 := cell_of_one g4
  have f4 := free_of_one g4
  obtain ⟨s0, s1, s2⟩ := S5.head
  have HS5 : Seal _ := ⟨S5⟩
  have lts := hs.lt P.s (by simp [Sp.all])
  clear hs hc hst S5 g0 g1 g2 g3 g4
  refine (callsIn_wide (n := 0)).1 ?_
  refine callsIn_of_wp_marks Tryd.func10 rfl trivial ?_
  simp only [Tryd.ntmps10, List.size_toArray, List.length_cons, List.length_nil, Nat.reduceAdd, Nat.reduceSub, Array.replicate_succ, Array.replicate_zero, List.push_toArray, List.append_toArray, List.nil_append, List.cons_append]
  gi_wp2_with fail
  try rw [← hw5]
  clear hw5
  gi_wp2_with fail
  refine wpIn_wide.2 ?_
  go_region_held3 (fun w' => w'.cell? ⟨w.heap.size, 0, none⟩ = some (.pointer (some ⟨P.s, 0, none⟩)) ∧ w'.cell? ⟨w.heap.size + 1 + 1, 0, none⟩ = some (.int .i64 (i : Nat)) ∧ w'.cell? ⟨w.heap.size + 1 + 1 + 1, 0, none⟩ = some (.int .i64 (l : Nat)) ∧ w'.cell? ⟨P.s, 1, none⟩ = some (.pointer (some ⟨P.t, 0, none⟩)))
    (exact ⟨keep_cell (by (repeat (first | assumption | exact Keep.refl _ _ | refine Keep.drew ?_ | refine Keep.alloc ?_ _ | refine Keep.setNew ?_ (by omega) _))) c0, keep_cell (by (repeat (first | assumption | exact Keep.refl _ _ | refine Keep.drew ?_ | refine Keep.alloc ?_ _ | refine Keep.setNew ?_ (by omega) _))) c2, keep_cell (by (repeat (first | assumption | exact Keep.refl _ _ | refine Keep.drew ?_ | refine Keep.alloc ?_ _ | refine Keep.setNew ?_ (by omega) _))) c3, keep_cell (by (repeat (first | assumption | exact Keep.refl _ _ | refine Keep.drew ?_ | refine Keep.alloc ?_ _ | refine Keep.setNew ?_ (by omega) _))) s1⟩)
    (first
      | (go_at_call 31; with_reducible refine (HO.out w5.drew W f (HS5.out.keepN (Keep.refl Nope _).drew)).mono ?_; rintro e w6 ⟨rfl, k6⟩
         have KK : Keep Nope w5 w6 := (Keep.refl Nope w5).drew.then' k6
         have KS := KK.size)
      | (go_at_call 31; with_reducible refine (HO.out (w5.alloc (.cells #[.int .u8 0, .int .i64 0, .int .i64 0, .int .i64 0] 43)).drew W f (HS5.out.keepN ((Keep.refl Nope _).alloc _).drew)).mono ?_; rintro e w6 ⟨rfl, k6⟩
         have KK : Keep Nope w5 w6 := ((Keep.refl Nope w5).alloc _).drew.then' k6
         have KS := KK.size
         have B6 := k6.at_ (show (w5.alloc (.cells #[.int .u8 0, .int .i64 0, .int .i64 0, .int .i64 0] 43)).drew.heap[w5.heap.size]? = _ from World.alloc_heap_new w5 _) (fun h => h)
         have fb0 := free_of_block B6 0
         have fb1 := free_of_block B6 1
         have fb2 := free_of_block B6 2
         have fb3 := free_of_block B6 3
         have db0 : w6.cell? ⟨w5.heap.size, 0, none⟩ = some (.int .u8 0) := by simp [World.cell?, B6]
         have db1 : w6.cell? ⟨w5.heap.size, 1, none⟩ = some (.int .i64 0) := by simp [World.cell?, B6]
         have db2 : w6.cell? ⟨w5.heap.size, 2, none⟩ = some (.int .i64 0) := by simp [World.cell?, B6]
         have db3 : w6.cell? ⟨w5.heap.size, 3, none⟩ = some (.int .i64 0) := by simp [World.cell?, B6]
         have HB6 : Seal _ := ⟨B6⟩
         clear B6))
  all_goals
    first
      | (generalize hwz : World.setCell _ _ _ = wz
         have kz : Keep Nope w5 wz := by rw [← hwz]; (repeat (first | assumption | exact Keep.refl _ _ | refine Keep.drew ?_ | refine Keep.alloc ?_ _ | refine Keep.setNew ?_ (by omega) _))
         have bz : wz.heap[w5.heap.size]? = some (.cells #[.int .u8 1, .int .i64 (i : Nat), .int .i64 (l : Nat), .int .i64 (S : Nat)] 43 (0, 0)) := by
           rw [← hwz]; exact block_setCell (block_setCell (block_setCell (block_setCell HB6.out (j := 0) _) (j := 1) _) (j := 2) _) (j := 3) _
         have lb9 : w5.heap.size < wz.heap.size := lt_of_heap bz
         have lb9' : w5.heap.size ≤ w5.heap.size := Nat.le_refl _
         generalize hb9 : w5.heap.size = b9 at bz lb9 lb9' ⊢
         replace lb9' : w5.heap.size ≤ b9 := by omega
         clear hwz)
      | (generalize hwz : World.alloc _ _ = wz
         have kz : Keep Nope w5 wz := by rw [← hwz]; (repeat (first | assumption | exact Keep.refl _ _ | refine Keep.drew ?_ | refine Keep.alloc ?_ _ | refine Keep.setNew ?_ (by omega) _))
         have bz : wz.heap[w6.heap.size]? = some (.cells #[.int .u8 1, .int .i64 (i : Nat), .int .i64 (l : Nat), .int .i64 (S : Nat)] 43 (0, 0)) := by
           rw [← hwz]; exact World.alloc_heap_new w6 _
         have lb9 : w6.heap.size < wz.heap.size := lt_of_heap bz
         have lb9' : w5.heap.size ≤ w6.heap.size := KS
         generalize hb9 : w6.heap.size = b9 at bz lb9 lb9' ⊢
         clear hwz)
    clear hb9
    replace c0 := kz.cell c0 (fun h => h)
    replace c1 := kz.cell c1 (fun h => h)
    replace c4 := kz.cell c4 (fun h => h)
    have f4 := free_of_one (kz.at_ HB.out.2.2.2.2 (fun h => h))
    have SZ := HS5.out.keepN kz
    have HSZ : Seal _ := ⟨SZ⟩
    clear SZ
    gi_wp2_with fail
    rcases ho with ho | ho
    · have hd0 : decide (g < 0) = true := decide_eq_true ho
      refine wpIn_wide.2 ?_
      go_quiet (first | (go_at_call 29; with_reducible refine Calls.quiet_of_same (HG.out _ W f ?_); (first | exact HSZ.out | exact HSZ.out.keepN (Keep.refl Nope _).drew | exact HSZ.out.keepN (Keep.of_drewN _) | exact HSZ.out.keepN ((Keep.of_drewN _).drewN _))))
      gi_wp2_with fail
      have kw : Keep Nope w (wz.drewN nq) := (k5.then' kz).drewN nq
      have B4 : (wz.drewN nq).heap[w.heap.size + 1 + 1 + 1 + 1]? = some (.cells #[.int .i64 0] 27 (0, 0)) := kz.at_ HB.out.2.2.2.2 (fun h => h)
      have kq : Keep (fun i => i = w.heap.size + 1 + 1 + 1 + 1) (wz.drewN nq) ((wz.drewN nq).setCell ⟨w.heap.size + 1 + 1 + 1 + 1, 0, none⟩ (.int .i64 2)) := (Keep.refl (fun i => i = w.heap.size + 1 + 1 + 1 + 1) (wz.drewN nq)).setCell (fun _ => rfl) _
      have e4 := cell_of_one (one_setCell (u := .int .i64 2) B4)
      refine ⟨.int .i64 2, by simp [results, Tryd.results10, go_sem, e4], by rw [hR.out], (kw.of_not P.own).trans kq (fun i hi h => by omega), .inl ⟨by rw [hR.out]; omega, ?_⟩⟩
      refine SpaceHas.keep ⟨W, f, HSs.out.keepN kw, HCs.out, HSt.out⟩ kq (fun i hi h => by have := HSs.out.lt i hi; omega)
    · have hd0 : decide (g < 0) = false := decide_eq_false (by omega)
      have hd1 : decide ((H : Int) ≤ g) = true := decide_eq_true ho
      refine wpIn_wide.2 ?_
      go_quiet (first | (go_at_call 29; with_reducible refine Calls.quiet_of_same (HG.out _ W f ?_); (first | exact HSZ.out | exact HSZ.out.keepN (Keep.refl Nope _).drew | exact HSZ.out.keepN (Keep.of_drewN _) | exact HSZ.out.keepN ((Keep.of_drewN _).drewN _))))
      gi_wp2_with fail
      have kw : Keep Nope w (wz.drewN nq) := (k5.then' kz).drewN nq
      have B4 : (wz.drewN nq).heap[w.heap.size + 1 + 1 + 1 + 1]? = some (.cells #[.int .i64 0] 27 (0, 0)) := kz.at_ HB.out.2.2.2.2 (fun h => h)
      have kq : Keep (fun i => i = w.heap.size + 1 + 1 + 1 + 1) (wz.drewN nq) ((wz.drewN nq).setCell ⟨w.heap.size + 1 + 1 + 1 + 1, 0, none⟩ (.int .i64 2)) := (Keep.refl (fun i => i = w.heap.size + 1 + 1 + 1 + 1) (wz.drewN nq)).setCell (fun _ => rfl) _
      have e4 := cell_of_one (one_setCell (u := .int .i64 2) B4)
      refine ⟨.int .i64 2, by simp [results, Tryd.results10, go_sem, e4], by rw [hR.out], (kw.of_not P.own).trans kq (fun i hi h => by omega), .inl ⟨by rw [hR.out]; omega, ?_⟩⟩
      refine SpaceHas.keep ⟨W, f, HSs.out.keepN kw, HCs.out, HSt.out⟩ kq (fun i hi h => by have := HSs.out.lt i hi; omega)

end Go.Proofs.YtafjebdjdmlahaaDoor
