/-
  Package fit: where nothing can be asked; Place.
-/
import Derived.Test.YtafjebdjdmlahaaDoorFitMost
namespace Go.Proofs.YtafjebdjdmlahaaDoor
open Go.RowKit
set_option linter.unusedVariables false
attribute [local go_sem] Oper.semAt_some

/-- Where check refuses. -/
def Refused (sp bp : Option Addr) (E : Int) (w : World) : Prop := ∀ w', Keep Nope w w' → Calls Tryd.prog 40 #[.pointer sp, .pointer bp] w' fun e w'' => e = .returned (.int .i64 E) ∧ w'' = w'

theorem refused_nil (bp : Option Addr) (w : World) : Refused none bp 1 w := fun w' _ => check_nil _ w'

theorem refused_diff {P : Sp} {cs : List Cel} {b p0 q0 p1 q1 n : Nat} {f0 f1 : Nat → Bool} {w : World} (h : SpaceHas w P cs) (hb : BlackAt w b p0 q0 p1 q1 f0 f1 n) (hn : ¬ n = P.n / 2) : Refused (some ⟨P.s, 0, none⟩) (some ⟨b, 0, none⟩) 2 w := fun w' hw' => by
  obtain ⟨_, _, h1, _⟩ := h
  have := check_at P _ _ b p0 q0 p1 q1 n f0 f1 w' (h1.keepN hw') (hb.keepN hw')
  rw [if_neg hn] at this
  exact this

def ErrPost (E : Int) (w : World) (e : Ending) (w' : World) : Prop := e = .returned (.tuple #[.int .i64 0, .int .i64 E]) ∧ Keep Nope w w'

set_option maxRecDepth 20000 in
set_option maxHeartbeats 4000000 in
theorem FFirst_err (sp bp : Option Addr) (n E : Int) (w : World) (h : Refused sp bp E w) (hE : ¬ E = 0) :
    Calls Tryd.prog 20 #[.pointer sp, .pointer bp, .int .i64 n] w (ErrPost E w) := by
  have hb : (E != 0) = true := by simpa using hE
  obtain ⟨w5, hw5⟩ : ∃ w5, w5 = ((w.alloc (.cells #[.int .i64 n] 3)).alloc (.cells #[.int .i64 0] 3)).alloc (.cells #[.int .i64 0] 27) := ⟨_, rfl⟩
  have k5 : Keep Nope w w5 := by rw [hw5]; exact (((Keep.refl _ w).alloc _).alloc _).alloc _
  have g1 : w5.heap[w.heap.size + 1]? = some (.cells #[.int .i64 0] 3 (0, 0)) := by
    rw [hw5]; exact ((Keep.refl Nope _).alloc _).at_ (alloc_new' _ _ (by simp)) (fun h => h)
  have g2 : w5.heap[w.heap.size + 1 + 1]? = some (.cells #[.int .i64 0] 27 (0, 0)) := by
    rw [hw5]; exact alloc_new' _ _ (by simp)
  refine (callsIn_wide (n := 0)).1 ?_
  refine callsIn_of_wp_marks Tryd.func20 rfl trivial ?_
  simp only [Tryd.ntmps20, List.size_toArray, List.length_cons, List.length_nil, Nat.reduceAdd, Nat.reduceSub, Array.replicate_succ, Array.replicate_zero, List.push_toArray, List.append_toArray, List.nil_append, List.cons_append]
  have HCk : Seal _ := ⟨h w5 k5⟩
  have HG : Seal _ := ⟨And.intro g1 g2⟩
  have c1 := cell_of_one g1
  have c2 := cell_of_one g2
  have f1 := free_of_one g1
  have f2 := free_of_one g2
  clear g1 g2 h
  gi_wp2_with fail
  rw [← hw5]
  obtain ⟨m, hm⟩ : ∃ m, w.heap.size = m := ⟨_, rfl⟩
  rw [hm] at HG c1 c2 f1 f2 ⊢
  have HM : Seal _ := ⟨hm⟩
  clear hw5 hm
  refine ⟨trivial, rfl, ?_⟩
  refine (callsIn_wide.2 HCk.out).mono ?_
  rintro e w6 ⟨rfl, rfl⟩
  gi_wp2_with fail
  obtain ⟨w9, hw9⟩ : ∃ w9, w9 = (w6.setCell ⟨m + 1, 0, none⟩ (.int .i64 0)).setCell ⟨m + 1 + 1, 0, none⟩ (.int .i64 E) := ⟨_, rfl⟩
  rw [← hw9]
  have kB : Keep (fun b => b = m + 1 ∨ b = m + 1 + 1) w6 w9 := by rw [hw9]; exact ((Keep.refl (fun b => b = m + 1 ∨ b = m + 1 + 1) w6).setCell (fun _ => .inl rfl) _).setCell (fun _ => .inr rfl) _
  have e1 := cell_of_one (show w9.heap[m + 1]? = some (.cells #[.int .i64 0] 3 (0, 0)) by rw [hw9]; exact (Below.heap_setCell _ _ _ _ (by dsimp only; omega)).trans (one_setCell HG.out.1))
  have e2 := cell_of_one (show w9.heap[m + 1 + 1]? = some (.cells #[.int .i64 E] 27 (0, 0)) by rw [hw9]; exact one_setCell ((Below.heap_setCell _ _ _ _ (by dsimp only; omega)).trans HG.out.2))
  clear hw9
  refine ⟨.tuple #[.int .i64 0, .int .i64 E], by simp [results, Tryd.results20, go_sem, e1, e2], rfl, k5.trans kB (fun b hb h => by rw [HM.out] at hb; omega)⟩

set_option maxRecDepth 20000 in
set_option maxHeartbeats 4000000 in
theorem FFirst_low (sp bp : Option Addr) (n : Int) (w : World) (h : Refused sp bp 0 w) (hn : n < 1) :
    Calls Tryd.prog 20 #[.pointer sp, .pointer bp, .int .i64 n] w (ErrPost 2 w) := by
  obtain ⟨w5, hw5⟩ : ∃ w5, w5 = ((w.alloc (.cells #[.int .i64 n] 3)).alloc (.cells #[.int .i64 0] 3)).alloc (.cells #[.int .i64 0] 27) := ⟨_, rfl⟩
  have k5 : Keep Nope w w5 := by rw [hw5]; exact (((Keep.refl _ w).alloc _).alloc _).alloc _
  have g0 : w5.heap[w.heap.size]? = some (.cells #[.int .i64 n] 3 (0, 0)) := by
    rw [hw5]; exact ((Keep.refl Nope _).alloc _ |>.alloc _).at_ (World.alloc_heap_new w _) (fun h => h)
  have g1 : w5.heap[w.heap.size + 1]? = some (.cells #[.int .i64 0] 3 (0, 0)) := by
    rw [hw5]; exact ((Keep.refl Nope _).alloc _).at_ (alloc_new' _ _ (by simp)) (fun h => h)
  have g2 : w5.heap[w.heap.size + 1 + 1]? = some (.cells #[.int .i64 0] 27 (0, 0)) := by
    rw [hw5]; exact alloc_new' _ _ (by simp)
  have hd1 : decide (n < 1) = true := decide_eq_true hn
  refine (callsIn_wide (n := 0)).1 ?_
  refine callsIn_of_wp_marks Tryd.func20 rfl trivial ?_
  simp only [Tryd.ntmps20, List.size_toArray, List.length_cons, List.length_nil, Nat.reduceAdd, Nat.reduceSub, Array.replicate_succ, Array.replicate_zero, List.push_toArray, List.append_toArray, List.nil_append, List.cons_append]
  have HCk : Seal _ := ⟨h w5 k5⟩
  have HG : Seal _ := ⟨And.intro g1 g2⟩
  have c0 := cell_of_one g0
  have c1 := cell_of_one g1
  have c2 := cell_of_one g2
  have f1 := free_of_one g1
  have f2 := free_of_one g2
  clear g0 g1 g2 h
  gi_wp2_with fail
  rw [← hw5]
  obtain ⟨m, hm⟩ : ∃ m, w.heap.size = m := ⟨_, rfl⟩
  rw [hm] at HG c0 c1 c2 f1 f2 ⊢
  have HM : Seal _ := ⟨hm⟩
  clear hw5 hm
  refine ⟨trivial, rfl, ?_⟩
  refine (callsIn_wide.2 HCk.out).mono ?_
  rintro e w6 ⟨rfl, rfl⟩
  gi_wp2_with fail
  obtain ⟨w9, hw9⟩ : ∃ w9, w9 = (w6.setCell ⟨m + 1, 0, none⟩ (.int .i64 0)).setCell ⟨m + 1 + 1, 0, none⟩ (.int .i64 2) := ⟨_, rfl⟩
  rw [← hw9]
  have kB : Keep (fun b => b = m + 1 ∨ b = m + 1 + 1) w6 w9 := by rw [hw9]; exact ((Keep.refl (fun b => b = m + 1 ∨ b = m + 1 + 1) w6).setCell (fun _ => .inl rfl) _).setCell (fun _ => .inr rfl) _
  have e1 := cell_of_one (show w9.heap[m + 1]? = some (.cells #[.int .i64 0] 3 (0, 0)) by rw [hw9]; exact (Below.heap_setCell _ _ _ _ (by dsimp only; omega)).trans (one_setCell HG.out.1))
  have e2 := cell_of_one (show w9.heap[m + 1 + 1]? = some (.cells #[.int .i64 2] 27 (0, 0)) by rw [hw9]; exact one_setCell ((Below.heap_setCell _ _ _ _ (by dsimp only; omega)).trans HG.out.2))
  clear hw9
  refine ⟨.tuple #[.int .i64 0, .int .i64 2], by simp [results, Tryd.results20, go_sem, e1, e2], rfl, k5.trans kB (fun b hb h => by rw [HM.out] at hb; omega)⟩

set_option maxRecDepth 20000 in
set_option maxHeartbeats 4000000 in
theorem FMost_err (sp bp : Option Addr) (E : Int) (w : World) (h : Refused sp bp E w) (hE : ¬ E = 0) :
    Calls Tryd.prog 22 #[.pointer sp, .pointer bp] w (ErrPost E w) := by
  have hb : (E != 0) = true := by simpa using hE
  obtain ⟨w5, hw5⟩ : ∃ w5, w5 = (w.alloc (.cells #[.pointer bp] 55)).alloc (.cells #[.int .i64 0] 3) := ⟨_, rfl⟩
  have k5 : Keep Nope w w5 := by rw [hw5]; exact ((Keep.refl _ w).alloc _).alloc _
  have g0 : w5.heap[w.heap.size]? = some (.cells #[.pointer bp] 55 (0, 0)) := by
    rw [hw5]; exact ((Keep.refl Nope _).alloc _).at_ (World.alloc_heap_new w _) (fun h => h)
  have g1 : w5.heap[w.heap.size + 1]? = some (.cells #[.int .i64 0] 3 (0, 0)) := by
    rw [hw5]; exact alloc_new' _ _ (by simp)
  refine (callsIn_wide (n := 0)).1 ?_
  refine callsIn_of_wp_marks Tryd.func22 rfl trivial ?_
  simp only [Tryd.ntmps22, List.size_toArray, List.length_cons, List.length_nil, Nat.reduceAdd, Nat.reduceSub, Array.replicate_succ, Array.replicate_zero, List.push_toArray, List.append_toArray, List.nil_append, List.cons_append]
  have HCk : Seal _ := ⟨h w5 k5⟩
  have HG : Seal _ := ⟨g1⟩
  have c0 := cell_of_one g0
  have c1 := cell_of_one g1
  have f1 := free_of_one g1
  clear g0 g1 h
  gi_wp2_with fail
  rw [← hw5]
  obtain ⟨m, hm⟩ : ∃ m, w.heap.size = m := ⟨_, rfl⟩
  rw [hm] at HG c0 c1 f1 ⊢
  have HM : Seal _ := ⟨hm⟩
  clear hw5 hm
  refine ⟨trivial, rfl, ?_⟩
  refine (callsIn_wide.2 HCk.out).mono ?_
  rintro e w6 ⟨rfl, rfl⟩
  gi_wp2_with fail
  obtain ⟨w9, hw9⟩ : ∃ w9, w9 = w6.setCell ⟨m + 1, 0, none⟩ (.int .i64 0) := ⟨_, rfl⟩
  rw [← hw9]
  have kB : Keep (fun b => b = m + 1) w6 w9 := by rw [hw9]; exact (Keep.refl (fun b => b = m + 1) w6).setCell (fun _ => rfl) _
  have e1 := cell_of_one (show w9.heap[m + 1]? = some (.cells #[.int .i64 0] 3 (0, 0)) by rw [hw9]; exact one_setCell HG.out)
  clear hw9
  refine ⟨.tuple #[.int .i64 0, .int .i64 E], by simp [results, Tryd.results22, go_sem, e1], rfl, k5.trans kB (fun b hb h => by rw [HM.out] at hb; omega)⟩

set_option maxRecDepth 20000 in
set_option maxHeartbeats 4000000 in
theorem FFree_err (sp bp : Option Addr) (E : Int) (w : World) (h : Refused sp bp E w) (hE : ¬ E = 0) :
    Calls Tryd.prog 23 #[.pointer sp, .pointer bp] w (ErrPost E w) := by
  have hb : (E != 0) = true := by simpa using hE
  obtain ⟨w5, hw5⟩ : ∃ w5, w5 = (w.alloc (.cells #[.pointer bp] 55)).alloc (.cells #[.int .i64 0] 3) := ⟨_, rfl⟩
  have k5 : Keep Nope w w5 := by rw [hw5]; exact ((Keep.refl _ w).alloc _).alloc _
  have g0 : w5.heap[w.heap.size]? = some (.cells #[.pointer bp] 55 (0, 0)) := by
    rw [hw5]; exact ((Keep.refl Nope _).alloc _).at_ (World.alloc_heap_new w _) (fun h => h)
  have g1 : w5.heap[w.heap.size + 1]? = some (.cells #[.int .i64 0] 3 (0, 0)) := by
    rw [hw5]; exact alloc_new' _ _ (by simp)
  refine (callsIn_wide (n := 0)).1 ?_
  refine callsIn_of_wp_marks Tryd.func23 rfl trivial ?_
  simp only [Tryd.ntmps23, List.size_toArray, List.length_cons, List.length_nil, Nat.reduceAdd, Nat.reduceSub, Array.replicate_succ, Array.replicate_zero, List.push_toArray, List.append_toArray, List.nil_append, List.cons_append]
  have HCk : Seal _ := ⟨h w5 k5⟩
  have HG : Seal _ := ⟨g1⟩
  have c0 := cell_of_one g0
  have c1 := cell_of_one g1
  have f1 := free_of_one g1
  clear g0 g1 h
  gi_wp2_with fail
  rw [← hw5]
  obtain ⟨m, hm⟩ : ∃ m, w.heap.size = m := ⟨_, rfl⟩
  rw [hm] at HG c0 c1 f1 ⊢
  have HM : Seal _ := ⟨hm⟩
  clear hw5 hm
  refine ⟨trivial, rfl, ?_⟩
  refine (callsIn_wide.2 HCk.out).mono ?_
  rintro e w6 ⟨rfl, rfl⟩
  gi_wp2_with fail
  obtain ⟨w9, hw9⟩ : ∃ w9, w9 = w6.setCell ⟨m + 1, 0, none⟩ (.int .i64 0) := ⟨_, rfl⟩
  rw [← hw9]
  have kB : Keep (fun b => b = m + 1) w6 w9 := by rw [hw9]; exact (Keep.refl (fun b => b = m + 1) w6).setCell (fun _ => rfl) _
  have e1 := cell_of_one (show w9.heap[m + 1]? = some (.cells #[.int .i64 0] 3 (0, 0)) by rw [hw9]; exact one_setCell HG.out)
  clear hw9
  refine ⟨.tuple #[.int .i64 0, .int .i64 E], by simp [results, Tryd.results23, go_sem, e1], rfl, k5.trans kB (fun b hb h => by rw [HM.out] at hb; omega)⟩

end Go.Proofs.YtafjebdjdmlahaaDoor
