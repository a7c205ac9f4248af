/-
  FitNil: the law's walk.
-/
import Derived.Test.YtafjebdjdmlahaaDoorFitAlive
namespace Go.Proofs.YtafjebdjdmlahaaDoor
open Go.RowKit
set_option linter.unusedVariables false

def nilT : List TypR := [⟨4, 0, 0⟩]

theorem nil_tab : tabE 0 nilT = 0 := by decide +kernel

set_option maxRecDepth 20000 in
set_option maxHeartbeats 8000000 in
theorem fitnil_walk (id n : Int) (w : World) (hF : FieldsAt w) : Calls Tryd.prog 4 #[.int .i64 id, .int .i64 n] w fun e w' => e = .returned (.bool true) ∧ Keep Nope w w' := by
  have HF : Seal _ := ⟨hF⟩
  clear hF
  go_enter Tryd.func4, Tryd.ntmps4
  go_wp2_with fail
  obtain ⟨w1, hw1⟩ : ∃ w1, w1 = w.alloc (.cells #[.int .u8 4, .int .i64 0, .int .u64 0] 54) := ⟨_, rfl⟩
  rw [← hw1]
  have k1 : Keep Nope w w1 := by rw [hw1]; exact (Keep.refl _ w).alloc _
  have b1 : w1.heap[w.heap.size]? = some (.cells #[.int .u8 4, .int .i64 0, .int .u64 0] 54 (0, 0)) := by rw [hw1]; exact World.alloc_heap_new w _
  have T1 : TypsAt w1 (.slice (some ⟨w.heap.size, 0, none⟩) 1 1) nilT := by
    refine ⟨_, _, rfl, fun i x hx => ?_⟩
    obtain rfl : i = 0 := by have := (List.getElem?_eq_some_iff.1 hx).1; simp [nilT] at this; exact this
    simp [nilT] at hx
    subst hx
    exact ⟨_, _, rfl, lt_of_heap b1, by simp [World.cell?, b1], by simp [World.cell?, b1], by simp [World.cell?, b1]⟩
  clear hw1 b1
  refine (TNew_any _ nilT w1 T1 (by simp [nilT])).mono ?_
  rintro e w2 ⟨k2, ⟨-, t, q, rfl, T2, ht, hq, hq2⟩ | ⟨h, -⟩⟩
  case inr => exact absurd nil_tab h
  have K2 := k1.then' k2
  have HK2 : Seal _ := ⟨K2⟩
  have HT2 : Seal _ := ⟨T2⟩
  clear T1 T2 k1 k2
  go_wp2_with fail
  refine (SNew_yes 16 t q nilT w2 HT2.out (HF.out.keepN HK2.out) HT2.out.lt_t hq2 (by omega) (by omega) (by omega)).mono ?_
  rintro e w3 ⟨P, hPt, hPq, hts, hn, rfl, H3, hown, hs, hb, k3⟩
  have HS3 : Seal _ := ⟨H3⟩
  have HP : Seal _ := ⟨And.intro hts hn⟩
  have HK3 : Seal _ := ⟨K2.then' k3⟩
  clear H3 hPt hPq hts hn hown hs hb k3 K2 ht hq hq2
  go_wp2_with fail
  refine (BNew_yes 9 w3 (by omega)).mono ?_
  rintro e w4 ⟨b, p0, q0, p1, q1, rfl, lb, lq0, lq1, B4, k4⟩
  have HS4 : Seal _ := ⟨HS3.out.keepN k4⟩
  have HK4 : Seal _ := ⟨HK3.out.then' k4⟩
  have HB4 : Seal _ := ⟨B4⟩
  have HD : Seal (∀ w', Keep Nope w4 w' → Refused (some ⟨P.s, 0, none⟩) (some ⟨b, 0, none⟩) 2 w') := ⟨fun w' h' => refused_diff (HS4.out.keepN h') (B4.keepN h') (by rw [HP.out.2]; omega)⟩
  clear B4 k4 lb lq0 lq1
  go_wp2_with fail
  refine (FFirst_err none none n 1 w4 (refused_nil _ w4) (by omega)).mono ?_
  rintro e w5 ⟨rfl, k5⟩
  go_wp2_with fail
  refine (FPlace_nil none id n w5).mono ?_
  rintro e w6 ⟨rfl, k6⟩
  go_wp2_with fail
  refine (FMost_err none none 1 w6 (refused_nil _ w6) (by omega)).mono ?_
  rintro e w7 ⟨rfl, k7⟩
  go_wp2_with fail
  refine (FFree_err none none 1 w7 (refused_nil _ w7) (by omega)).mono ?_
  rintro e w8 ⟨rfl, k8⟩
  have k48 := ((k5.then' k6).then' k7).then' k8
  clear k5 k6 k7 k8
  go_wp2_with fail
  refine (FFirst_err _ _ 1 2 w8 (HD.out w8 k48) (by omega)).mono ?_
  rintro e w9 ⟨rfl, k9⟩
  have k49 := k48.then' k9
  go_wp2_with fail
  refine (FMost_err _ _ 2 w9 (HD.out w9 k49) (by omega)).mono ?_
  rintro e wA ⟨rfl, kA⟩
  have k4A := k49.then' kA
  go_wp2_with fail
  refine (FFree_err _ _ 2 wA (HD.out wA k4A) (by omega)).mono ?_
  rintro e wB ⟨rfl, kB⟩
  have k4B := k4A.then' kB
  clear k48 k9 k49 kA k4A kB
  go_wp2_with fail
  refine (FPlace_first P _ _ 1 0 0 2 wB (HS4.out.keepN k4B) (by rw [HP.out.1]; decide +kernel) (fun w' hw' => FFirst_err _ _ _ 2 w' (HD.out w' (k4B.then' hw')) (by omega)) (by omega)).mono ?_
  rintro e wC ⟨rfl, kC⟩
  have HKC : Seal _ := ⟨(HK4.out.then' k4B).then' kC⟩
  clear k4B kC
  go_wp2_with fail
  refine (alive13 wC (HF.out.keepN HKC.out)).mono ?_
  rintro e wD ⟨rfl, kD⟩
  go_wp2
  go_ret
  exact ⟨rfl, HKC.out.then' kD⟩

end Go.Proofs.YtafjebdjdmlahaaDoor
