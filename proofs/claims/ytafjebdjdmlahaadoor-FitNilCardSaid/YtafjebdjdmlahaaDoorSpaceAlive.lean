/-
  The chapter's example of a space.
-/
import Derived.Test.YtafjebdjdmlahaaDoorSpaceAlive0
namespace Go.Proofs.YtafjebdjdmlahaaDoor
open Go.RowKit
set_option linter.unusedVariables false
attribute [local go_sem ↓] run_eql_cell

theorem SpaceHas.lt {w : World} {P : Sp} {cs : List Cel} (h : SpaceHas w P cs) : ∀ k, P.all k → k < w.heap.size := by
  obtain ⟨W, f, h, _⟩ := h; exact h.lt

theorem Sp.all_own {P : Sp} {k : Nat} (h : P.own k) : P.all k := by simp only [Sp.own] at h; simp only [Sp.all]; omega

/-- A row that was laid behind a space reads on. -/
theorem row_stays {w w' : World} {P : Sp} {base : Nat} {v : Value} {cs : List Cel} (h : w.ownsRow base 45 5 v cs.length (flatC cs)) (k : Keep P.own w w') (hb : ∀ k, P.all k → k < base) : w'.ownsRow base 45 5 v cs.length (flatC cs) :=
  ownsRow_keep h k (fun b hv ho => by have h1 := (ownsRow_block h hv).1; have h2 := hb b (Sp.all_own ho); omega)

set_option maxRecDepth 20000 in
set_option maxHeartbeats 8000000 in
theorem alive09 (w : World) (hF : FieldsAt w) : Calls Tryd.prog 6 #[] w fun e w' => e = .returned (.bool true) ∧ Keep Nope w w' := by
  have HF : Seal _ := ⟨hF⟩
  clear hF
  go_enter Tryd.func6, Tryd.ntmps6
  go_wp2_with fail
  obtain ⟨w1, hw1⟩ : ∃ w1, w1 = w.alloc (.cells #[.int .u8 2, .int .i64 0, .int .u64 0] 54) := ⟨_, rfl⟩
  rw [← hw1]
  have k1 : Keep Nope w w1 := by rw [hw1]; exact (Keep.refl _ w).alloc _
  have b1 : w1.heap[w.heap.size]? = some (.cells #[.int .u8 2, .int .i64 0, .int .u64 0] 54 (0, 0)) := by rw [hw1]; exact World.alloc_heap_new w _
  have T1 : TypsAt w1 (.slice (some ⟨w.heap.size, 0, none⟩) 1 1) alT := by
    refine ⟨_, _, rfl, fun i x hx => ?_⟩
    obtain rfl : i = 0 := by have := (List.getElem?_eq_some_iff.1 hx).1; simp [alT] at this; exact this
    simp [alT] at hx
    subst hx
    exact ⟨_, _, rfl, lt_of_heap b1, by simp [World.cell?, b1], by simp [World.cell?, b1], by simp [World.cell?, b1]⟩
  clear hw1 b1
  refine (TNew_any _ alT w1 T1 (by simp [alT])).mono ?_
  rintro e w2 ⟨k2, ⟨-, t, q, rfl, T2, ht, hq, hq2⟩ | ⟨h, -⟩⟩
  case inr => exact absurd al_tab h
  have K2 := k1.then' k2
  have HK2 : Seal _ := ⟨K2⟩
  have HT2 : Seal _ := ⟨T2⟩
  have z1 := k1.size
  have z2 := k2.size
  clear T1 T2 k1 k2
  go_wp2_with fail
  refine (SNew_yes 16 t q alT w2 HT2.out (HF.out.keepN HK2.out) HT2.out.lt_t hq2 (by omega) (by omega) (by omega)).mono ?_
  rintro e w3 ⟨P, hPt, hPq, hts, hn, rfl, H3, hown, hs, hb, k3⟩
  have H3' : SpaceHas w3 P alA := H3
  have HS3 : Seal _ := ⟨H3'⟩
  have HP : Seal _ := ⟨And.intro hts hn⟩
  have HK3 : Seal _ := ⟨K2.then' k3⟩
  have HOW : Seal (∀ k, P.own k → w.heap.size ≤ k) := ⟨fun k hk => by have := hown k hk; omega⟩
  clear H3 H3' hPt hPq hts hn hown hs hb k3 K2 ht hq hq2 z1 z2
  go_wp2_with fail
  refine (Cells_at P alA w3 HS3.out).mono ?_
  rintro e w4 ⟨va, rfl, o4, k4⟩
  have lt4 := HS3.out.lt
  have HS4 : Seal _ := ⟨HS3.out.keepN k4⟩
  have HK4 : Seal _ := ⟨HK3.out.then' k4⟩
  have HO4 : Seal _ := ⟨o4⟩
  clear k4 o4
  go_wp2_with fail
  refine (al_put HP.out.1 HP.out.2 w4 HS4.out).mono ?_
  rintro e w5 ⟨rfl, k5, H5⟩
  have HS5 : Seal _ := ⟨H5⟩
  have HK5 : Seal _ := ⟨HK4.out.trans k5 (fun b hb h => by have := HOW.out b h; omega)⟩
  have HO5 : Seal _ := ⟨row_stays HO4.out k5 lt4⟩
  clear k5 H5
  go_wp2_with fail
  refine (Cells_at P alB w5 HS5.out).mono ?_
  rintro e w6 ⟨vb, rfl, o6, k6⟩
  have lt6 := HS5.out.lt
  have HS6 : Seal _ := ⟨HS5.out.keepN k6⟩
  have HK6 : Seal _ := ⟨HK5.out.then' k6⟩
  have HO6 : Seal _ := ⟨ownsRow_keep HO5.out k6 (fun b hb h => h)⟩
  have HB6 : Seal _ := ⟨o6⟩
  clear k6 o6
  go_wp2_with fail
  refine (al_drop w6 HS6.out).mono ?_
  rintro e w7 ⟨rfl, k7, H7⟩
  have HS7 : Seal _ := ⟨H7⟩
  have HK7 : Seal _ := ⟨HK6.out.trans k7 (fun b hb h => by have := HOW.out b h; omega)⟩
  have HO7 : Seal _ := ⟨row_stays HO6.out k7 lt4⟩
  have HB7 : Seal _ := ⟨row_stays HB6.out k7 lt6⟩
  clear k7 H7
  go_wp2_with fail
  refine (Cells_at P alA w7 HS7.out).mono ?_
  rintro e w8 ⟨vc, rfl, o8, k8⟩
  have HS8 : Seal _ := ⟨HS7.out.keepN k8⟩
  have HK8 : Seal _ := ⟨HK7.out.then' k8⟩
  have HC8 : Seal _ := ⟨RowC.of_owns o8⟩
  have RA := RowC.of_owns (ownsRow_keep HO7.out k8 (fun b hb h => h))
  have RB := RowC.of_owns (ownsRow_keep HB7.out k8 (fun b hb h => h))
  have HA8 : Seal _ := ⟨RA⟩
  clear k8 o8
  obtain ⟨a1, ac, rfl, ra⟩ := RA
  obtain ⟨b1, bc, rfl, rb⟩ := RB
  obtain ⟨ba, rfl, -, x0, x1, x2, x3, x4⟩ := ra 0 ⟨0, 3, 0, 0, 8⟩ rfl
  obtain ⟨bb, rfl, -, y0, y1, y2, y3, y4⟩ := rb 0 ⟨0, 2, 0, 0, 1⟩ rfl
  obtain ⟨bb', e, -, u0, u1, u2, u3, u4⟩ := rb 1 ⟨1, 1, 1, 3, 2⟩ rfl
  obtain rfl : bb = bb' := by injection e with e; injection e
  clear e
  obtain ⟨bb', e, -, s0, s1, s2, s3, s4⟩ := rb 2 ⟨3, 3, 0, 0, 5⟩ rfl
  obtain rfl : bb = bb' := by injection e with e; injection e
  clear e ra rb
  simp only [Nat.zero_mul, Nat.one_mul, Nat.zero_add, Nat.reduceMul, Nat.reduceAdd] at x0 x1 x2 x3 x4 y0 y1 y2 y3 y4 u0 u1 u2 u3 u4 s0 s1 s2 s3 s4
  go_wp2_with fail
  refine (SameC_at alA _ vc w8 HA8.out HC8.out (by simp [alA])).mono ?_
  rintro e w9 ⟨rfl, k9⟩
  have HS9 : Seal _ := ⟨HS8.out.keepN k9⟩
  have HK9 : Seal _ := ⟨HK8.out.then' k9⟩
  clear k9 x0 x1 x2 x3 x4 y0 y1 y2 y3 y4 u0 u1 u2 u3 u4 s0 s1 s2 s3 s4
  go_wp2_with fail
  refine (al_none w9 HS9.out).mono ?_
  rintro e w10 ⟨rfl, k10⟩
  have HS10 : Seal _ := ⟨HS9.out.keepN k10⟩
  have HK10 : Seal _ := ⟨HK9.out.then' k10⟩
  clear k10
  go_wp2_with fail
  refine (al_out HP.out.1 HP.out.2 w10 HS10.out).mono ?_
  rintro e w11 ⟨rfl, k11⟩
  have HK11 : Seal _ := ⟨HK10.out.trans k11 (fun b hb h => by have := HOW.out b h; omega)⟩
  clear k11
  go_wp2
  go_ret
  exact ⟨rfl, HK11.out⟩

end Go.Proofs.YtafjebdjdmlahaaDoor
