/-
  Check of package head: which headers may be.
-/
import Derived.Test.YtpmiidpbngbclaaGreatDoorHead
namespace Go.Proofs.YtpmiidpbngbclaaGreatDoor
open Go.RowKit
set_option linter.unusedVariables false

theorem Check_small (tag ty ln sz : Int) (w : World) (hF : FieldsAt w) (h : sz < 1) :
    Calls Tryz.prog 126 #[headV tag ty ln sz] w fun e w' => e = .returned (.int .i64 2) ∧ Keep Nope w w' := by
  have hd0 : decide (sz < 1) = true := decide_eq_true (by omega)
  have b0 := World.alloc_heap_new w (.cells #[.int .u8 tag, .int .i64 ty, .int .i64 ln, .int .i64 sz] 60)
  have kA := (Keep.refl Nope w).alloc (.cells #[.int .u8 tag, .int .i64 ty, .int .i64 ln, .int .i64 sz] 60)
  unfold headV
  go_enter Tryz.func126, Tryz.ntmps126
  go_wp2_with fail
  obtain ⟨w1, hw1⟩ : ∃ w1, w1 = w.alloc (.cells #[.int .u8 tag, .int .i64 ty, .int .i64 ln, .int .i64 sz] 60) := ⟨_, rfl⟩
  rw [← hw1] at b0 kA ⊢
  have hF1 := hF.keepN kA
  have c0 : w1.cell? ⟨w.heap.size, 0, none⟩ = some (.int .u8 tag) := by simp [World.cell?, b0]
  have c1 : w1.cell? ⟨w.heap.size, 1, none⟩ = some (.int .i64 ty) := by simp [World.cell?, b0]
  have c2 : w1.cell? ⟨w.heap.size, 2, none⟩ = some (.int .i64 ln) := by simp [World.cell?, b0]
  have c3 : w1.cell? ⟨w.heap.size, 3, none⟩ = some (.int .i64 sz) := by simp [World.cell?, b0]
  have HB : Seal _ := ⟨hF1⟩
  clear hw1 b0 hF1
  go_wp2_with fail
  go_quiet (fail)
  go_wp2
  go_ret
  exact ⟨rfl, kA.drewN _⟩

theorem Check_big (tag ty ln sz : Int) (w : World) (hF : FieldsAt w) (h1 : 1 ≤ sz) (h2 : 16777215 < sz) :
    Calls Tryz.prog 126 #[headV tag ty ln sz] w fun e w' => e = .returned (.int .i64 2) ∧ Keep Nope w w' := by
  have hd0 : decide (sz < 1) = false := decide_eq_false (by omega)
  have hd1 : decide (16777215 < sz) = true := decide_eq_true (by omega)
  have b0 := World.alloc_heap_new w (.cells #[.int .u8 tag, .int .i64 ty, .int .i64 ln, .int .i64 sz] 60)
  have kA := (Keep.refl Nope w).alloc (.cells #[.int .u8 tag, .int .i64 ty, .int .i64 ln, .int .i64 sz] 60)
  unfold headV
  go_enter Tryz.func126, Tryz.ntmps126
  go_wp2_with fail
  obtain ⟨w1, hw1⟩ : ∃ w1, w1 = w.alloc (.cells #[.int .u8 tag, .int .i64 ty, .int .i64 ln, .int .i64 sz] 60) := ⟨_, rfl⟩
  rw [← hw1] at b0 kA ⊢
  have hF1 := hF.keepN kA
  have c0 : w1.cell? ⟨w.heap.size, 0, none⟩ = some (.int .u8 tag) := by simp [World.cell?, b0]
  have c1 : w1.cell? ⟨w.heap.size, 1, none⟩ = some (.int .i64 ty) := by simp [World.cell?, b0]
  have c2 : w1.cell? ⟨w.heap.size, 2, none⟩ = some (.int .i64 ln) := by simp [World.cell?, b0]
  have c3 : w1.cell? ⟨w.heap.size, 3, none⟩ = some (.int .i64 sz) := by simp [World.cell?, b0]
  have HB : Seal _ := ⟨hF1⟩
  clear hw1 b0 hF1
  go_wp2_with fail
  go_quiet (first | (go_at_call 155; with_reducible refine Calls.quiet_of_same (most_4 _ ?_); (first | exact HB.out | exact HB.out.keepN (Keep.refl Nope _).drew | exact HB.out.keepN (Keep.of_drewN _) | exact HB.out.keepN ((Keep.of_drewN _).drewN _))) | (go_at_call 155; with_reducible refine Calls.quiet_of_same (most_3 _ ?_); (first | exact HB.out | exact HB.out.keepN (Keep.refl Nope _).drew | exact HB.out.keepN (Keep.of_drewN _) | exact HB.out.keepN ((Keep.of_drewN _).drewN _))))
  go_wp2
  go_ret
  exact ⟨rfl, kA.drewN _⟩

theorem Check_low (tag ty ln sz : Int) (w : World) (hF : FieldsAt w) (h1 : 1 ≤ sz) (h2 : sz ≤ 16777215) (h3 : ln < 0) :
    Calls Tryz.prog 126 #[headV tag ty ln sz] w fun e w' => e = .returned (.int .i64 2) ∧ Keep Nope w w' := by
  have hd0 : decide (sz < 1) = false := decide_eq_false (by omega)
  have hd1 : decide (16777215 < sz) = false := decide_eq_false (by omega)
  have hd2 : decide (ln < 0) = true := decide_eq_true (by omega)
  have b0 := World.alloc_heap_new w (.cells #[.int .u8 tag, .int .i64 ty, .int .i64 ln, .int .i64 sz] 60)
  have kA := (Keep.refl Nope w).alloc (.cells #[.int .u8 tag, .int .i64 ty, .int .i64 ln, .int .i64 sz] 60)
  unfold headV
  go_enter Tryz.func126, Tryz.ntmps126
  go_wp2_with fail
  obtain ⟨w1, hw1⟩ : ∃ w1, w1 = w.alloc (.cells #[.int .u8 tag, .int .i64 ty, .int .i64 ln, .int .i64 sz] 60) := ⟨_, rfl⟩
  rw [← hw1] at b0 kA ⊢
  have hF1 := hF.keepN kA
  have c0 : w1.cell? ⟨w.heap.size, 0, none⟩ = some (.int .u8 tag) := by simp [World.cell?, b0]
  have c1 : w1.cell? ⟨w.heap.size, 1, none⟩ = some (.int .i64 ty) := by simp [World.cell?, b0]
  have c2 : w1.cell? ⟨w.heap.size, 2, none⟩ = some (.int .i64 ln) := by simp [World.cell?, b0]
  have c3 : w1.cell? ⟨w.heap.size, 3, none⟩ = some (.int .i64 sz) := by simp [World.cell?, b0]
  have HB : Seal _ := ⟨hF1⟩
  clear hw1 b0 hF1
  go_wp2_with fail
  go_quiet (first | (go_at_call 155; with_reducible refine Calls.quiet_of_same (most_4 _ ?_); (first | exact HB.out | exact HB.out.keepN (Keep.refl Nope _).drew | exact HB.out.keepN (Keep.of_drewN _) | exact HB.out.keepN ((Keep.of_drewN _).drewN _))) | (go_at_call 155; with_reducible refine Calls.quiet_of_same (most_3 _ ?_); (first | exact HB.out | exact HB.out.keepN (Keep.refl Nope _).drew | exact HB.out.keepN (Keep.of_drewN _) | exact HB.out.keepN ((Keep.of_drewN _).drewN _))))
  go_wp2
  go_ret
  exact ⟨rfl, kA.drewN _⟩

theorem Check_long (tag ty ln sz : Int) (w : World) (hF : FieldsAt w) (h1 : 1 ≤ sz) (h2 : sz ≤ 16777215) (h3 : 0 ≤ ln) (h4 : 16777215 < ln) :
    Calls Tryz.prog 126 #[headV tag ty ln sz] w fun e w' => e = .returned (.int .i64 2) ∧ Keep Nope w w' := by
  have hd0 : decide (sz < 1) = false := decide_eq_false (by omega)
  have hd1 : decide (16777215 < sz) = false := decide_eq_false (by omega)
  have hd2 : decide (ln < 0) = false := decide_eq_false (by omega)
  have hd3 : decide (16777215 < ln) = true := decide_eq_true (by omega)
  have b0 := World.alloc_heap_new w (.cells #[.int .u8 tag, .int .i64 ty, .int .i64 ln, .int .i64 sz] 60)
  have kA := (Keep.refl Nope w).alloc (.cells #[.int .u8 tag, .int .i64 ty, .int .i64 ln, .int .i64 sz] 60)
  unfold headV
  go_enter Tryz.func126, Tryz.ntmps126
  go_wp2_with fail
  obtain ⟨w1, hw1⟩ : ∃ w1, w1 = w.alloc (.cells #[.int .u8 tag, .int .i64 ty, .int .i64 ln, .int .i64 sz] 60) := ⟨_, rfl⟩
  rw [← hw1] at b0 kA ⊢
  have hF1 := hF.keepN kA
  have c0 : w1.cell? ⟨w.heap.size, 0, none⟩ = some (.int .u8 tag) := by simp [World.cell?, b0]
  have c1 : w1.cell? ⟨w.heap.size, 1, none⟩ = some (.int .i64 ty) := by simp [World.cell?, b0]
  have c2 : w1.cell? ⟨w.heap.size, 2, none⟩ = some (.int .i64 ln) := by simp [World.cell?, b0]
  have c3 : w1.cell? ⟨w.heap.size, 3, none⟩ = some (.int .i64 sz) := by simp [World.cell?, b0]
  have HB : Seal _ := ⟨hF1⟩
  clear hw1 b0 hF1
  go_wp2_with fail
  go_quiet (first | (go_at_call 155; with_reducible refine Calls.quiet_of_same (most_4 _ ?_); (first | exact HB.out | exact HB.out.keepN (Keep.refl Nope _).drew | exact HB.out.keepN (Keep.of_drewN _) | exact HB.out.keepN ((Keep.of_drewN _).drewN _))) | (go_at_call 155; with_reducible refine Calls.quiet_of_same (most_3 _ ?_); (first | exact HB.out | exact HB.out.keepN (Keep.refl Nope _).drew | exact HB.out.keepN (Keep.of_drewN _) | exact HB.out.keepN ((Keep.of_drewN _).drewN _))))
  go_wp2
  go_ret
  exact ⟨rfl, kA.drewN _⟩

theorem Check_obj (tag ty ln sz : Int) (w : World) (hF : FieldsAt w) (h1 : 1 ≤ sz) (h2 : sz ≤ 16777215) (h3 : 0 ≤ ln) (h4 : ln ≤ 16777215) (h5 : tag = 1) (h6 : 1 ≤ ty) (h7 : ty ≤ 4095) :
    Calls Tryz.prog 126 #[headV tag ty ln sz] w fun e w' => e = .returned (.int .i64 0) ∧ Keep Nope w w' := by
  subst h5
  have hd0 : decide (sz < 1) = false := decide_eq_false (by omega)
  have hd1 : decide (16777215 < sz) = false := decide_eq_false (by omega)
  have hd2 : decide (ln < 0) = false := decide_eq_false (by omega)
  have hd3 : decide (16777215 < ln) = false := decide_eq_false (by omega)
  have hd4 : decide (1 ≤ ty) = true := decide_eq_true (by omega)
  have hd5 : decide (ty ≤ 4095) = true := decide_eq_true (by omega)
  have b0 := World.alloc_heap_new w (.cells #[.int .u8 1, .int .i64 ty, .int .i64 ln, .int .i64 sz] 60)
  have kA := (Keep.refl Nope w).alloc (.cells #[.int .u8 1, .int .i64 ty, .int .i64 ln, .int .i64 sz] 60)
  unfold headV
  go_enter Tryz.func126, Tryz.ntmps126
  go_wp2_with fail
  obtain ⟨w1, hw1⟩ : ∃ w1, w1 = w.alloc (.cells #[.int .u8 1, .int .i64 ty, .int .i64 ln, .int .i64 sz] 60) := ⟨_, rfl⟩
  rw [← hw1] at b0 kA ⊢
  have hF1 := hF.keepN kA
  have c0 : w1.cell? ⟨w.heap.size, 0, none⟩ = some (.int .u8 1) := by simp [World.cell?, b0]
  have c1 : w1.cell? ⟨w.heap.size, 1, none⟩ = some (.int .i64 ty) := by simp [World.cell?, b0]
  have c2 : w1.cell? ⟨w.heap.size, 2, none⟩ = some (.int .i64 ln) := by simp [World.cell?, b0]
  have c3 : w1.cell? ⟨w.heap.size, 3, none⟩ = some (.int .i64 sz) := by simp [World.cell?, b0]
  have HB : Seal _ := ⟨hF1⟩
  clear hw1 b0 hF1
  go_wp2_with fail
  go_quiet (first | (go_at_call 155; with_reducible refine Calls.quiet_of_same (most_4 _ ?_); (first | exact HB.out | exact HB.out.keepN (Keep.refl Nope _).drew | exact HB.out.keepN (Keep.of_drewN _) | exact HB.out.keepN ((Keep.of_drewN _).drewN _))) | (go_at_call 155; with_reducible refine Calls.quiet_of_same (most_3 _ ?_); (first | exact HB.out | exact HB.out.keepN (Keep.refl Nope _).drew | exact HB.out.keepN (Keep.of_drewN _) | exact HB.out.keepN ((Keep.of_drewN _).drewN _))))
  obtain ⟨w2, hw2⟩ : ∃ w2, w2 = w1.drewN nq := ⟨_, rfl⟩
  rw [← hw2]
  have kD : Keep Nope w1 w2 := by rw [hw2]; exact Keep.of_drewN _
  have kB : Keep Nope w w2 := kA.trans kD (fun _ _ h => h)
  replace c0 := kD.cell c0 (fun h => h)
  replace c1 := kD.cell c1 (fun h => h)
  replace c2 := kD.cell c2 (fun h => h)
  replace c3 := kD.cell c3 (fun h => h)
  replace HB : Seal _ := ⟨HB.out.keepN kD⟩
  clear hw2
  go_wp2_with fail
  go_quiet ((go_at_call 155; with_reducible refine Calls.quiet_of_same (most_1 _ ?_); (first | exact HB.out | exact HB.out.keepN (Keep.refl Nope _).drew | exact HB.out.keepN (Keep.of_drewN _) | exact HB.out.keepN ((Keep.of_drewN _).drewN _))))
  go_wp2
  go_ret
  exact ⟨rfl, kB.drewN _⟩

theorem Check_obj0 (tag ty ln sz : Int) (w : World) (hF : FieldsAt w) (h1 : 1 ≤ sz) (h2 : sz ≤ 16777215) (h3 : 0 ≤ ln) (h4 : ln ≤ 16777215) (h5 : tag = 1) (h6 : ty < 1) :
    Calls Tryz.prog 126 #[headV tag ty ln sz] w fun e w' => e = .returned (.int .i64 2) ∧ Keep Nope w w' := by
  subst h5
  have hd0 : decide (sz < 1) = false := decide_eq_false (by omega)
  have hd1 : decide (16777215 < sz) = false := decide_eq_false (by omega)
  have hd2 : decide (ln < 0) = false := decide_eq_false (by omega)
  have hd3 : decide (16777215 < ln) = false := decide_eq_false (by omega)
  have hd4 : decide (1 ≤ ty) = false := decide_eq_false (by omega)
  have b0 := World.alloc_heap_new w (.cells #[.int .u8 1, .int .i64 ty, .int .i64 ln, .int .i64 sz] 60)
  have kA := (Keep.refl Nope w).alloc (.cells #[.int .u8 1, .int .i64 ty, .int .i64 ln, .int .i64 sz] 60)
  unfold headV
  go_enter Tryz.func126, Tryz.ntmps126
  go_wp2_with fail
  obtain ⟨w1, hw1⟩ : ∃ w1, w1 = w.alloc (.cells #[.int .u8 1, .int .i64 ty, .int .i64 ln, .int .i64 sz] 60) := ⟨_, rfl⟩
  rw [← hw1] at b0 kA ⊢
  have hF1 := hF.keepN kA
  have c0 : w1.cell? ⟨w.heap.size, 0, none⟩ = some (.int .u8 1) := by simp [World.cell?, b0]
  have c1 : w1.cell? ⟨w.heap.size, 1, none⟩ = some (.int .i64 ty) := by simp [World.cell?, b0]
  have c2 : w1.cell? ⟨w.heap.size, 2, none⟩ = some (.int .i64 ln) := by simp [World.cell?, b0]
  have c3 : w1.cell? ⟨w.heap.size, 3, none⟩ = some (.int .i64 sz) := by simp [World.cell?, b0]
  have HB : Seal _ := ⟨hF1⟩
  clear hw1 b0 hF1
  go_wp2_with fail
  go_quiet (first | (go_at_call 155; with_reducible refine Calls.quiet_of_same (most_4 _ ?_); (first | exact HB.out | exact HB.out.keepN (Keep.refl Nope _).drew | exact HB.out.keepN (Keep.of_drewN _) | exact HB.out.keepN ((Keep.of_drewN _).drewN _))) | (go_at_call 155; with_reducible refine Calls.quiet_of_same (most_3 _ ?_); (first | exact HB.out | exact HB.out.keepN (Keep.refl Nope _).drew | exact HB.out.keepN (Keep.of_drewN _) | exact HB.out.keepN ((Keep.of_drewN _).drewN _))))
  obtain ⟨w2, hw2⟩ : ∃ w2, w2 = w1.drewN nq := ⟨_, rfl⟩
  rw [← hw2]
  have kD : Keep Nope w1 w2 := by rw [hw2]; exact Keep.of_drewN _
  have kB : Keep Nope w w2 := kA.trans kD (fun _ _ h => h)
  replace c0 := kD.cell c0 (fun h => h)
  replace c1 := kD.cell c1 (fun h => h)
  replace c2 := kD.cell c2 (fun h => h)
  replace c3 := kD.cell c3 (fun h => h)
  replace HB : Seal _ := ⟨HB.out.keepN kD⟩
  clear hw2
  go_wp2_with fail
  go_quiet ((go_at_call 155; with_reducible refine Calls.quiet_of_same (most_1 _ ?_); (first | exact HB.out | exact HB.out.keepN (Keep.refl Nope _).drew | exact HB.out.keepN (Keep.of_drewN _) | exact HB.out.keepN ((Keep.of_drewN _).drewN _))))
  go_wp2
  go_ret
  exact ⟨rfl, kB.drewN _⟩

theorem Check_obj9 (tag ty ln sz : Int) (w : World) (hF : FieldsAt w) (h1 : 1 ≤ sz) (h2 : sz ≤ 16777215) (h3 : 0 ≤ ln) (h4 : ln ≤ 16777215) (h5 : tag = 1) (h6 : 1 ≤ ty) (h7 : 4095 < ty) :
    Calls Tryz.prog 126 #[headV tag ty ln sz] w fun e w' => e = .returned (.int .i64 2) ∧ Keep Nope w w' := by
  subst h5
  have hd0 : decide (sz < 1) = false := decide_eq_false (by omega)
  have hd1 : decide (16777215 < sz) = false := decide_eq_false (by omega)
  have hd2 : decide (ln < 0) = false := decide_eq_false (by omega)
  have hd3 : decide (16777215 < ln) = false := decide_eq_false (by omega)
  have hd4 : decide (1 ≤ ty) = true := decide_eq_true (by omega)
  have hd5 : decide (ty ≤ 4095) = false := decide_eq_false (by omega)
  have b0 := World.alloc_heap_new w (.cells #[.int .u8 1, .int .i64 ty, .int .i64 ln, .int .i64 sz] 60)
  have kA := (Keep.refl Nope w).alloc (.cells #[.int .u8 1, .int .i64 ty, .int .i64 ln, .int .i64 sz] 60)
  unfold headV
  go_enter Tryz.func126, Tryz.ntmps126
  go_wp2_with fail
  obtain ⟨w1, hw1⟩ : ∃ w1, w1 = w.alloc (.cells #[.int .u8 1, .int .i64 ty, .int .i64 ln, .int .i64 sz] 60) := ⟨_, rfl⟩
  rw [← hw1] at b0 kA ⊢
  have hF1 := hF.keepN kA
  have c0 : w1.cell? ⟨w.heap.size, 0, none⟩ = some (.int .u8 1) := by simp [World.cell?, b0]
  have c1 : w1.cell? ⟨w.heap.size, 1, none⟩ = some (.int .i64 ty) := by simp [World.cell?, b0]
  have c2 : w1.cell? ⟨w.heap.size, 2, none⟩ = some (.int .i64 ln) := by simp [World.cell?, b0]
  have c3 : w1.cell? ⟨w.heap.size, 3, none⟩ = some (.int .i64 sz) := by simp [World.cell?, b0]
  have HB : Seal _ := ⟨hF1⟩
  clear hw1 b0 hF1
  go_wp2_with fail
  go_quiet (first | (go_at_call 155; with_reducible refine Calls.quiet_of_same (most_4 _ ?_); (first | exact HB.out | exact HB.out.keepN (Keep.refl Nope _).drew | exact HB.out.keepN (Keep.of_drewN _) | exact HB.out.keepN ((Keep.of_drewN _).drewN _))) | (go_at_call 155; with_reducible refine Calls.quiet_of_same (most_3 _ ?_); (first | exact HB.out | exact HB.out.keepN (Keep.refl Nope _).drew | exact HB.out.keepN (Keep.of_drewN _) | exact HB.out.keepN ((Keep.of_drewN _).drewN _))))
  obtain ⟨w2, hw2⟩ : ∃ w2, w2 = w1.drewN nq := ⟨_, rfl⟩
  rw [← hw2]
  have kD : Keep Nope w1 w2 := by rw [hw2]; exact Keep.of_drewN _
  have kB : Keep Nope w w2 := kA.trans kD (fun _ _ h => h)
  replace c0 := kD.cell c0 (fun h => h)
  replace c1 := kD.cell c1 (fun h => h)
  replace c2 := kD.cell c2 (fun h => h)
  replace c3 := kD.cell c3 (fun h => h)
  replace HB : Seal _ := ⟨HB.out.keepN kD⟩
  clear hw2
  go_wp2_with fail
  go_quiet ((go_at_call 155; with_reducible refine Calls.quiet_of_same (most_1 _ ?_); (first | exact HB.out | exact HB.out.keepN (Keep.refl Nope _).drew | exact HB.out.keepN (Keep.of_drewN _) | exact HB.out.keepN ((Keep.of_drewN _).drewN _))))
  go_wp2
  go_ret
  exact ⟨rfl, kB.drewN _⟩

theorem Check_fil (tag ty ln sz : Int) (w : World) (hF : FieldsAt w) (h1 : 1 ≤ sz) (h2 : sz ≤ 16777215) (h3 : 0 ≤ ln) (h4 : ln ≤ 16777215) (h5 : tag = 2) (h6 : ty = 0) (h7 : ln = 0) :
    Calls Tryz.prog 126 #[headV tag ty ln sz] w fun e w' => e = .returned (.int .i64 0) ∧ Keep Nope w w' := by
  subst h5 h6 h7
  have hd0 : decide (sz < 1) = false := decide_eq_false (by omega)
  have hd1 : decide (16777215 < sz) = false := decide_eq_false (by omega)
  have b0 := World.alloc_heap_new w (.cells #[.int .u8 2, .int .i64 0, .int .i64 0, .int .i64 sz] 60)
  have kA := (Keep.refl Nope w).alloc (.cells #[.int .u8 2, .int .i64 0, .int .i64 0, .int .i64 sz] 60)
  unfold headV
  go_enter Tryz.func126, Tryz.ntmps126
  go_wp2_with fail
  obtain ⟨w1, hw1⟩ : ∃ w1, w1 = w.alloc (.cells #[.int .u8 2, .int .i64 0, .int .i64 0, .int .i64 sz] 60) := ⟨_, rfl⟩
  rw [← hw1] at b0 kA ⊢
  have hF1 := hF.keepN kA
  have c0 : w1.cell? ⟨w.heap.size, 0, none⟩ = some (.int .u8 2) := by simp [World.cell?, b0]
  have c1 : w1.cell? ⟨w.heap.size, 1, none⟩ = some (.int .i64 0) := by simp [World.cell?, b0]
  have c2 : w1.cell? ⟨w.heap.size, 2, none⟩ = some (.int .i64 0) := by simp [World.cell?, b0]
  have c3 : w1.cell? ⟨w.heap.size, 3, none⟩ = some (.int .i64 sz) := by simp [World.cell?, b0]
  have HB : Seal _ := ⟨hF1⟩
  clear hw1 b0 hF1
  go_wp2_with fail
  go_quiet (first | (go_at_call 155; with_reducible refine Calls.quiet_of_same (most_4 _ ?_); (first | exact HB.out | exact HB.out.keepN (Keep.refl Nope _).drew | exact HB.out.keepN (Keep.of_drewN _) | exact HB.out.keepN ((Keep.of_drewN _).drewN _))) | (go_at_call 155; with_reducible refine Calls.quiet_of_same (most_3 _ ?_); (first | exact HB.out | exact HB.out.keepN (Keep.refl Nope _).drew | exact HB.out.keepN (Keep.of_drewN _) | exact HB.out.keepN ((Keep.of_drewN _).drewN _))))
  go_wp2_with fail
  go_quiet (fail)
  go_wp2
  go_ret
  exact ⟨rfl, kA.drewN _⟩

theorem Check_filT (tag ty ln sz : Int) (w : World) (hF : FieldsAt w) (h1 : 1 ≤ sz) (h2 : sz ≤ 16777215) (h3 : 0 ≤ ln) (h4 : ln ≤ 16777215) (h5 : tag = 2) (h6 : ¬ ty = 0) :
    Calls Tryz.prog 126 #[headV tag ty ln sz] w fun e w' => e = .returned (.int .i64 2) ∧ Keep Nope w w' := by
  subst h5
  have hd0 : decide (sz < 1) = false := decide_eq_false (by omega)
  have hd1 : decide (16777215 < sz) = false := decide_eq_false (by omega)
  have hd2 : decide (ln < 0) = false := decide_eq_false (by omega)
  have hd3 : decide (16777215 < ln) = false := decide_eq_false (by omega)
  have b0 := World.alloc_heap_new w (.cells #[.int .u8 2, .int .i64 ty, .int .i64 ln, .int .i64 sz] 60)
  have kA := (Keep.refl Nope w).alloc (.cells #[.int .u8 2, .int .i64 ty, .int .i64 ln, .int .i64 sz] 60)
  unfold headV
  go_enter Tryz.func126, Tryz.ntmps126
  go_wp2_with fail
  obtain ⟨w1, hw1⟩ : ∃ w1, w1 = w.alloc (.cells #[.int .u8 2, .int .i64 ty, .int .i64 ln, .int .i64 sz] 60) := ⟨_, rfl⟩
  rw [← hw1] at b0 kA ⊢
  have hF1 := hF.keepN kA
  have c0 : w1.cell? ⟨w.heap.size, 0, none⟩ = some (.int .u8 2) := by simp [World.cell?, b0]
  have c1 : w1.cell? ⟨w.heap.size, 1, none⟩ = some (.int .i64 ty) := by simp [World.cell?, b0]
  have c2 : w1.cell? ⟨w.heap.size, 2, none⟩ = some (.int .i64 ln) := by simp [World.cell?, b0]
  have c3 : w1.cell? ⟨w.heap.size, 3, none⟩ = some (.int .i64 sz) := by simp [World.cell?, b0]
  have HB : Seal _ := ⟨hF1⟩
  clear hw1 b0 hF1
  go_wp2_with fail
  go_quiet (first | (go_at_call 155; with_reducible refine Calls.quiet_of_same (most_4 _ ?_); (first | exact HB.out | exact HB.out.keepN (Keep.refl Nope _).drew | exact HB.out.keepN (Keep.of_drewN _) | exact HB.out.keepN ((Keep.of_drewN _).drewN _))) | (go_at_call 155; with_reducible refine Calls.quiet_of_same (most_3 _ ?_); (first | exact HB.out | exact HB.out.keepN (Keep.refl Nope _).drew | exact HB.out.keepN (Keep.of_drewN _) | exact HB.out.keepN ((Keep.of_drewN _).drewN _))))
  go_wp2_with fail
  go_quiet (fail)
  go_wp2
  go_ret
  exact ⟨rfl, kA.drewN _⟩

theorem Check_filL (tag ty ln sz : Int) (w : World) (hF : FieldsAt w) (h1 : 1 ≤ sz) (h2 : sz ≤ 16777215) (h3 : 0 ≤ ln) (h4 : ln ≤ 16777215) (h5 : tag = 2) (h6 : ty = 0) (h7 : ¬ ln = 0) :
    Calls Tryz.prog 126 #[headV tag ty ln sz] w fun e w' => e = .returned (.int .i64 2) ∧ Keep Nope w w' := by
  subst h5 h6
  have hd0 : decide (sz < 1) = false := decide_eq_false (by omega)
  have hd1 : decide (16777215 < sz) = false := decide_eq_false (by omega)
  have hd2 : decide (ln < 0) = false := decide_eq_false (by omega)
  have hd3 : decide (16777215 < ln) = false := decide_eq_false (by omega)
  have b0 := World.alloc_heap_new w (.cells #[.int .u8 2, .int .i64 0, .int .i64 ln, .int .i64 sz] 60)
  have kA := (Keep.refl Nope w).alloc (.cells #[.int .u8 2, .int .i64 0, .int .i64 ln, .int .i64 sz] 60)
  unfold headV
  go_enter Tryz.func126, Tryz.ntmps126
  go_wp2_with fail
  obtain ⟨w1, hw1⟩ : ∃ w1, w1 = w.alloc (.cells #[.int .u8 2, .int .i64 0, .int .i64 ln, .int .i64 sz] 60) := ⟨_, rfl⟩
  rw [← hw1] at b0 kA ⊢
  have hF1 := hF.keepN kA
  have c0 : w1.cell? ⟨w.heap.size, 0, none⟩ = some (.int .u8 2) := by simp [World.cell?, b0]
  have c1 : w1.cell? ⟨w.heap.size, 1, none⟩ = some (.int .i64 0) := by simp [World.cell?, b0]
  have c2 : w1.cell? ⟨w.heap.size, 2, none⟩ = some (.int .i64 ln) := by simp [World.cell?, b0]
  have c3 : w1.cell? ⟨w.heap.size, 3, none⟩ = some (.int .i64 sz) := by simp [World.cell?, b0]
  have HB : Seal _ := ⟨hF1⟩
  clear hw1 b0 hF1
  go_wp2_with fail
  go_quiet (first | (go_at_call 155; with_reducible refine Calls.quiet_of_same (most_4 _ ?_); (first | exact HB.out | exact HB.out.keepN (Keep.refl Nope _).drew | exact HB.out.keepN (Keep.of_drewN _) | exact HB.out.keepN ((Keep.of_drewN _).drewN _))) | (go_at_call 155; with_reducible refine Calls.quiet_of_same (most_3 _ ?_); (first | exact HB.out | exact HB.out.keepN (Keep.refl Nope _).drew | exact HB.out.keepN (Keep.of_drewN _) | exact HB.out.keepN ((Keep.of_drewN _).drewN _))))
  go_wp2_with fail
  go_quiet (fail)
  go_wp2
  go_ret
  exact ⟨rfl, kA.drewN _⟩

theorem Check_fre (tag ty ln sz : Int) (w : World) (hF : FieldsAt w) (h1 : 1 ≤ sz) (h2 : sz ≤ 16777215) (h3 : 0 ≤ ln) (h4 : ln ≤ 16777215) (h5 : tag = 3) (h6 : ty = 0) (h7 : ln = 0) :
    Calls Tryz.prog 126 #[headV tag ty ln sz] w fun e w' => e = .returned (.int .i64 0) ∧ Keep Nope w w' := by
  subst h5 h6 h7
  have hd0 : decide (sz < 1) = false := decide_eq_false (by omega)
  have hd1 : decide (16777215 < sz) = false := decide_eq_false (by omega)
  have b0 := World.alloc_heap_new w (.cells #[.int .u8 3, .int .i64 0, .int .i64 0, .int .i64 sz] 60)
  have kA := (Keep.refl Nope w).alloc (.cells #[.int .u8 3, .int .i64 0, .int .i64 0, .int .i64 sz] 60)
  unfold headV
  go_enter Tryz.func126, Tryz.ntmps126
  go_wp2_with fail
  obtain ⟨w1, hw1⟩ : ∃ w1, w1 = w.alloc (.cells #[.int .u8 3, .int .i64 0, .int .i64 0, .int .i64 sz] 60) := ⟨_, rfl⟩
  rw [← hw1] at b0 kA ⊢
  have hF1 := hF.keepN kA
  have c0 : w1.cell? ⟨w.heap.size, 0, none⟩ = some (.int .u8 3) := by simp [World.cell?, b0]
  have c1 : w1.cell? ⟨w.heap.size, 1, none⟩ = some (.int .i64 0) := by simp [World.cell?, b0]
  have c2 : w1.cell? ⟨w.heap.size, 2, none⟩ = some (.int .i64 0) := by simp [World.cell?, b0]
  have c3 : w1.cell? ⟨w.heap.size, 3, none⟩ = some (.int .i64 sz) := by simp [World.cell?, b0]
  have HB : Seal _ := ⟨hF1⟩
  clear hw1 b0 hF1
  go_wp2_with fail
  go_quiet (first | (go_at_call 155; with_reducible refine Calls.quiet_of_same (most_4 _ ?_); (first | exact HB.out | exact HB.out.keepN (Keep.refl Nope _).drew | exact HB.out.keepN (Keep.of_drewN _) | exact HB.out.keepN ((Keep.of_drewN _).drewN _))) | (go_at_call 155; with_reducible refine Calls.quiet_of_same (most_3 _ ?_); (first | exact HB.out | exact HB.out.keepN (Keep.refl Nope _).drew | exact HB.out.keepN (Keep.of_drewN _) | exact HB.out.keepN ((Keep.of_drewN _).drewN _))))
  go_wp2_with fail
  go_quiet (fail)
  go_wp2
  go_ret
  exact ⟨rfl, kA.drewN _⟩

theorem Check_freT (tag ty ln sz : Int) (w : World) (hF : FieldsAt w) (h1 : 1 ≤ sz) (h2 : sz ≤ 16777215) (h3 : 0 ≤ ln) (h4 : ln ≤ 16777215) (h5 : tag = 3) (h6 : ¬ ty = 0) :
    Calls Tryz.prog 126 #[headV tag ty ln sz] w fun e w' => e = .returned (.int .i64 2) ∧ Keep Nope w w' := by
  subst h5
  have hd0 : decide (sz < 1) = false := decide_eq_false (by omega)
  have hd1 : decide (16777215 < sz) = false := decide_eq_false (by omega)
  have hd2 : decide (ln < 0) = false := decide_eq_false (by omega)
  have hd3 : decide (16777215 < ln) = false := decide_eq_false (by omega)
  have b0 := World.alloc_heap_new w (.cells #[.int .u8 3, .int .i64 ty, .int .i64 ln, .int .i64 sz] 60)
  have kA := (Keep.refl Nope w).alloc (.cells #[.int .u8 3, .int .i64 ty, .int .i64 ln, .int .i64 sz] 60)
  unfold headV
  go_enter Tryz.func126, Tryz.ntmps126
  go_wp2_with fail
  obtain ⟨w1, hw1⟩ : ∃ w1, w1 = w.alloc (.cells #[.int .u8 3, .int .i64 ty, .int .i64 ln, .int .i64 sz] 60) := ⟨_, rfl⟩
  rw [← hw1] at b0 kA ⊢
  have hF1 := hF.keepN kA
  have c0 : w1.cell? ⟨w.heap.size, 0, none⟩ = some (.int .u8 3) := by simp [World.cell?, b0]
  have c1 : w1.cell? ⟨w.heap.size, 1, none⟩ = some (.int .i64 ty) := by simp [World.cell?, b0]
  have c2 : w1.cell? ⟨w.heap.size, 2, none⟩ = some (.int .i64 ln) := by simp [World.cell?, b0]
  have c3 : w1.cell? ⟨w.heap.size, 3, none⟩ = some (.int .i64 sz) := by simp [World.cell?, b0]
  have HB : Seal _ := ⟨hF1⟩
  clear hw1 b0 hF1
  go_wp2_with fail
  go_quiet (first | (go_at_call 155; with_reducible refine Calls.quiet_of_same (most_4 _ ?_); (first | exact HB.out | exact HB.out.keepN (Keep.refl Nope _).drew | exact HB.out.keepN (Keep.of_drewN _) | exact HB.out.keepN ((Keep.of_drewN _).drewN _))) | (go_at_call 155; with_reducible refine Calls.quiet_of_same (most_3 _ ?_); (first | exact HB.out | exact HB.out.keepN (Keep.refl Nope _).drew | exact HB.out.keepN (Keep.of_drewN _) | exact HB.out.keepN ((Keep.of_drewN _).drewN _))))
  go_wp2_with fail
  go_quiet (fail)
  go_wp2
  go_ret
  exact ⟨rfl, kA.drewN _⟩

theorem Check_freL (tag ty ln sz : Int) (w : World) (hF : FieldsAt w) (h1 : 1 ≤ sz) (h2 : sz ≤ 16777215) (h3 : 0 ≤ ln) (h4 : ln ≤ 16777215) (h5 : tag = 3) (h6 : ty = 0) (h7 : ¬ ln = 0) :
    Calls Tryz.prog 126 #[headV tag ty ln sz] w fun e w' => e = .returned (.int .i64 2) ∧ Keep Nope w w' := by
  subst h5 h6
  have hd0 : decide (sz < 1) = false := decide_eq_false (by omega)
  have hd1 : decide (16777215 < sz) = false := decide_eq_false (by omega)
  have hd2 : decide (ln < 0) = false := decide_eq_false (by omega)
  have hd3 : decide (16777215 < ln) = false := decide_eq_false (by omega)
  have b0 := World.alloc_heap_new w (.cells #[.int .u8 3, .int .i64 0, .int .i64 ln, .int .i64 sz] 60)
  have kA := (Keep.refl Nope w).alloc (.cells #[.int .u8 3, .int .i64 0, .int .i64 ln, .int .i64 sz] 60)
  unfold headV
  go_enter Tryz.func126, Tryz.ntmps126
  go_wp2_with fail
  obtain ⟨w1, hw1⟩ : ∃ w1, w1 = w.alloc (.cells #[.int .u8 3, .int .i64 0, .int .i64 ln, .int .i64 sz] 60) := ⟨_, rfl⟩
  rw [← hw1] at b0 kA ⊢
  have hF1 := hF.keepN kA
  have c0 : w1.cell? ⟨w.heap.size, 0, none⟩ = some (.int .u8 3) := by simp [World.cell?, b0]
  have c1 : w1.cell? ⟨w.heap.size, 1, none⟩ = some (.int .i64 0) := by simp [World.cell?, b0]
  have c2 : w1.cell? ⟨w.heap.size, 2, none⟩ = some (.int .i64 ln) := by simp [World.cell?, b0]
  have c3 : w1.cell? ⟨w.heap.size, 3, none⟩ = some (.int .i64 sz) := by simp [World.cell?, b0]
  have HB : Seal _ := ⟨hF1⟩
  clear hw1 b0 hF1
  go_wp2_with fail
  go_quiet (first | (go_at_call 155; with_reducible refine Calls.quiet_of_same (most_4 _ ?_); (first | exact HB.out | exact HB.out.keepN (Keep.refl Nope _).drew | exact HB.out.keepN (Keep.of_drewN _) | exact HB.out.keepN ((Keep.of_drewN _).drewN _))) | (go_at_call 155; with_reducible refine Calls.quiet_of_same (most_3 _ ?_); (first | exact HB.out | exact HB.out.keepN (Keep.refl Nope _).drew | exact HB.out.keepN (Keep.of_drewN _) | exact HB.out.keepN ((Keep.of_drewN _).drewN _))))
  go_wp2_with fail
  go_quiet (fail)
  go_wp2
  go_ret
  exact ⟨rfl, kA.drewN _⟩

theorem Check_else (tag ty ln sz : Int) (w : World) (hF : FieldsAt w) (h1 : 1 ≤ sz) (h2 : sz ≤ 16777215) (h3 : 0 ≤ ln) (h4 : ln ≤ 16777215) (h5 : ¬ tag = 1) (h6 : ¬ tag = 2) (h7 : ¬ tag = 3) :
    Calls Tryz.prog 126 #[headV tag ty ln sz] w fun e w' => e = .returned (.int .i64 2) ∧ Keep Nope w w' := by
  have hd0 : decide (sz < 1) = false := decide_eq_false (by omega)
  have hd1 : decide (16777215 < sz) = false := decide_eq_false (by omega)
  have hd2 : decide (ln < 0) = false := decide_eq_false (by omega)
  have hd3 : decide (16777215 < ln) = false := decide_eq_false (by omega)
  have he1 : (tag == 1) = false := by simpa using h5
  have b0 := World.alloc_heap_new w (.cells #[.int .u8 tag, .int .i64 ty, .int .i64 ln, .int .i64 sz] 60)
  have kA := (Keep.refl Nope w).alloc (.cells #[.int .u8 tag, .int .i64 ty, .int .i64 ln, .int .i64 sz] 60)
  unfold headV
  go_enter Tryz.func126, Tryz.ntmps126
  go_wp2_with fail
  obtain ⟨w1, hw1⟩ : ∃ w1, w1 = w.alloc (.cells #[.int .u8 tag, .int .i64 ty, .int .i64 ln, .int .i64 sz] 60) := ⟨_, rfl⟩
  rw [← hw1] at b0 kA ⊢
  have hF1 := hF.keepN kA
  have c0 : w1.cell? ⟨w.heap.size, 0, none⟩ = some (.int .u8 tag) := by simp [World.cell?, b0]
  have c1 : w1.cell? ⟨w.heap.size, 1, none⟩ = some (.int .i64 ty) := by simp [World.cell?, b0]
  have c2 : w1.cell? ⟨w.heap.size, 2, none⟩ = some (.int .i64 ln) := by simp [World.cell?, b0]
  have c3 : w1.cell? ⟨w.heap.size, 3, none⟩ = some (.int .i64 sz) := by simp [World.cell?, b0]
  have HB : Seal _ := ⟨hF1⟩
  clear hw1 b0 hF1
  go_wp2_with fail
  go_quiet (first | (go_at_call 155; with_reducible refine Calls.quiet_of_same (most_4 _ ?_); (first | exact HB.out | exact HB.out.keepN (Keep.refl Nope _).drew | exact HB.out.keepN (Keep.of_drewN _) | exact HB.out.keepN ((Keep.of_drewN _).drewN _))) | (go_at_call 155; with_reducible refine Calls.quiet_of_same (most_3 _ ?_); (first | exact HB.out | exact HB.out.keepN (Keep.refl Nope _).drew | exact HB.out.keepN (Keep.of_drewN _) | exact HB.out.keepN ((Keep.of_drewN _).drewN _))))
  go_wp2_with fail
  go_quiet (fail)
  go_wp2
  go_ret
  exact ⟨rfl, kA.drewN _⟩

theorem Check_any (tag ty ln sz : Int) (w : World) (hF : FieldsAt w) :
    Calls Tryz.prog 126 #[headV tag ty ln sz] w fun e w' => e = .returned (.int .i64 (errV (headOk tag ty ln sz))) ∧ Keep Nope w w' := by
  have yes : headOk tag ty ln sz = true → errV (headOk tag ty ln sz) = 0 := fun h => by rw [h]; rfl
  have no : headOk tag ty ln sz = false → errV (headOk tag ty ln sz) = 2 := fun h => by rw [h]; rfl
  by_cases h1 : sz < 1
  · rw [no (by simp [headOk]; omega)]; exact Check_small tag ty ln sz w hF h1
  by_cases h2 : 16777215 < sz
  · rw [no (by simp [headOk]; omega)]; exact Check_big tag ty ln sz w hF (by omega) h2
  by_cases h3 : ln < 0
  · rw [no (by simp [headOk]; omega)]; exact Check_low tag ty ln sz w hF (by omega) (by omega) h3
  by_cases h4 : 16777215 < ln
  · rw [no (by simp [headOk]; omega)]; exact Check_long tag ty ln sz w hF (by omega) (by omega) (by omega) h4
  by_cases t1 : tag = 1
  · by_cases h5 : ty < 1
    · rw [no (by simp [headOk]; omega)]; exact Check_obj0 tag ty ln sz w hF (by omega) (by omega) (by omega) (by omega) t1 h5
    by_cases h6 : 4095 < ty
    · rw [no (by simp [headOk]; omega)]; exact Check_obj9 tag ty ln sz w hF (by omega) (by omega) (by omega) (by omega) t1 (by omega) h6
    rw [yes (by simp [headOk]; omega)]; exact Check_obj tag ty ln sz w hF (by omega) (by omega) (by omega) (by omega) t1 (by omega) (by omega)
  by_cases t2 : tag = 2
  · by_cases h5 : ty = 0
    · by_cases h6 : ln = 0
      · rw [yes (by simp [headOk]; omega)]; exact Check_fil tag ty ln sz w hF (by omega) (by omega) (by omega) (by omega) t2 h5 h6
      rw [no (by simp [headOk]; omega)]; exact Check_filL tag ty ln sz w hF (by omega) (by omega) (by omega) (by omega) t2 h5 h6
    rw [no (by simp [headOk]; omega)]; exact Check_filT tag ty ln sz w hF (by omega) (by omega) (by omega) (by omega) t2 h5
  by_cases t3 : tag = 3
  · by_cases h5 : ty = 0
    · by_cases h6 : ln = 0
      · rw [yes (by simp [headOk]; omega)]; exact Check_fre tag ty ln sz w hF (by omega) (by omega) (by omega) (by omega) t3 h5 h6
      rw [no (by simp [headOk]; omega)]; exact Check_freL tag ty ln sz w hF (by omega) (by omega) (by omega) (by omega) t3 h5 h6
    rw [no (by simp [headOk]; omega)]; exact Check_freT tag ty ln sz w hF (by omega) (by omega) (by omega) (by omega) t3 h5
  rw [no (by simp [headOk]; omega)]; exact Check_else tag ty ln sz w hF (by omega) (by omega) (by omega) (by omega) t1 t2 t3

end Go.Proofs.YtpmiidpbngbclaaGreatDoor
