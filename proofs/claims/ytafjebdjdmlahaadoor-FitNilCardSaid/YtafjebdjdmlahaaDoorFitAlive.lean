/-
  The chapter's example of fit.
-/
import Derived.Test.YtafjebdjdmlahaaDoorFitAlive0
namespace Go.Proofs.YtafjebdjdmlahaaDoor
open Go.RowKit
set_option linter.unusedVariables false

theorem types_apart {w : World} {x : Nat} {c1 c2 : Array Value} {t1 t2 : TypeId} {f1 f2 : Nat × Nat} (h1 : w.heap[x]? = some (.cells c1 t1 f1)) (h2 : w.heap[x]? = some (.cells c2 t2 f2)) : t1 = t2 := by
  rw [h1] at h2
  injection h2 with h2
  injection h2

/-- A list lies beside a space's own blocks. -/
theorem black_beside {w : World} {P : Sp} {cs : List Cel} {b p0 q0 p1 q1 n : Nat} {f0 f1 : Nat → Bool} (h : SpaceHas w P cs) (hb : BlackAt w b p0 q0 p1 q1 f0 f1 n) (h0 : ¬ P.own q0) (h1 : ¬ P.own q1) :
    ¬ P.own b ∧ ¬ P.own p0 ∧ ¬ P.own q0 ∧ ¬ P.own p1 ∧ ¬ P.own q1 := by
  obtain ⟨W, f, hs, -⟩ := h
  obtain ⟨_, _, ta⟩ := hs.ar.ha
  obtain ⟨_, tq, -⟩ := hs.ar.hq
  obtain ⟨_, hw, -⟩ := hs.bt
  obtain ⟨_, tbq, -⟩ := hw.hq
  obtain ⟨_, w0, -⟩ := hb.h0
  obtain ⟨_, w1, -⟩ := hb.h1
  obtain ⟨_, t0⟩ := w0.hp
  obtain ⟨_, t1⟩ := w1.hp
  refine ⟨fun h => ?_, fun h => ?_, h0, fun h => ?_, h1⟩
  · rcases h with e | e | e <;> subst e
    · exact absurd (types_apart hb.hb ta) (by decide)
    · exact absurd (types_apart hb.hb tq) (by decide)
    · exact absurd (types_apart hb.hb tbq) (by decide)
  · rcases h with e | e | e <;> subst e
    · exact absurd (types_apart t0 ta) (by decide)
    · exact absurd (types_apart t0 tq) (by decide)
    · exact absurd (types_apart t0 tbq) (by decide)
  · rcases h with e | e | e <;> subst e
    · exact absurd (types_apart t1 ta) (by decide)
    · exact absurd (types_apart t1 tq) (by decide)
    · exact absurd (types_apart t1 tbq) (by decide)

set_option maxRecDepth 20000 in
set_option maxHeartbeats 8000000 in
theorem alive13 (w : World) (hF : FieldsAt w) : Calls Tryd.prog 24 #[] w fun e w' => e = .returned (.bool true) ∧ Keep Nope w w' := by
  have HF : Seal _ := ⟨hF⟩
  clear hF
  go_enter Tryd.func24, Tryd.ntmps24
  go_wp2_with fail
  obtain ⟨w1, hw1⟩ : ∃ w1, w1 = w.alloc (.cells #[.int .u8 2, .int .i64 0, .int .u64 0] 54) := ⟨_, rfl⟩
  rw [← hw1]
  have k1 : Keep Nope w w1 := by rw [hw1]; exact (Keep.refl _ w).alloc _
  have b1 : w1.heap[w.heap.size]? = some (.cells #[.int .u8 2, .int .i64 0, .int .u64 0] 54 (0, 0)) := by rw [hw1]; exact World.alloc_heap_new w _
  have T1 : TypsAt w1 (.slice (some ⟨w.heap.size, 0, none⟩) 1 1) alT := by
    refine ⟨_, _, rfl, fun i x hx => ?_⟩
    obtain rfl : i = 0 := by have := (List.getElem?_eq_some_iff.1 hx).1; simp [alT] at this; exact this
    simp [alT] at hx
    subst hx
    exact ⟨_, _, rfl, lt_of_heap b1, by simp [World.cell?, b1], by simp [World.cell?, b1], by simp [World.cell?, b1]⟩
  clear hw1 b1
  refine (TNew_any _ alT w1 T1 (by simp [alT])).mono ?_
  rintro e w2 ⟨k2, ⟨-, t, q, rfl, T2, ht, hq, hq2⟩ | ⟨h, -⟩⟩
  case inr => exact absurd al_tab h
  have K2 := k1.then' k2
  have HK2 : Seal _ := ⟨K2⟩
  have HT2 : Seal _ := ⟨T2⟩
  have z1 := k1.size
  have z2 := k2.size
  clear T1 T2 k1 k2
  go_wp2_with fail
  refine (SNew_yes 16 t q alT w2 HT2.out (HF.out.keepN HK2.out) HT2.out.lt_t hq2 (by omega) (by omega) (by omega)).mono ?_
  rintro e w3 ⟨P, hPt, hPq, hts, hn, rfl, H3, hown, hs, hb, k3⟩
  have H3' : SpaceHas w3 P alA := H3
  have HS3 : Seal _ := ⟨H3'⟩
  have HP : Seal _ := ⟨And.intro hts hn⟩
  have HK3 : Seal _ := ⟨K2.then' k3⟩
  have HOW : Seal (∀ k, P.own k → w.heap.size ≤ k) := ⟨fun k hk => by have := hown k hk; omega⟩
  have z3 := k3.size
  clear H3 H3' hPt hPq hts hn hown hs hb k3 K2 ht hq hq2
  go_wp2_with fail
  refine (BNew_yes 8 w3 (by omega)).mono ?_
  rintro e w4 ⟨b, p0, q0, p1, q1, rfl, lb, lq0, lq1, B4, k4⟩
  have HS4 : Seal _ := ⟨HS3.out.keepN k4⟩
  have HK4 : Seal _ := ⟨HK3.out.then' k4⟩
  have HB4 : Seal _ := ⟨B4⟩
  have lP : ∀ x, P.all x → x < w3.heap.size := HS3.out.lt
  have HQ0 : Seal (¬ P.own q0 ∧ ¬ P.own q1) := ⟨⟨fun h => by have := lP q0 (Sp.all_own h); omega, fun h => by have := lP q1 (Sp.all_own h); omega⟩⟩
  have z4 := k4.size
  have lqw := B4.h0.lt_q'
  clear B4 k4
  go_wp2_with fail
  obtain ⟨w5, hw5⟩ : ∃ w5, w5 = w4.alloc (.cells #[.int .i64 2] 3) := ⟨_, rfl⟩
  rw [← hw5]
  have k5 : Keep Nope w4 w5 := by rw [hw5]; exact (Keep.refl _ w4).alloc _
  have b5 : w5.heap[w4.heap.size]? = some (.cells #[.int .i64 2] 3 (0, 0)) := by rw [hw5]; exact World.alloc_heap_new w4 _
  have I5 : IntsAt 1 w5 (.slice (some ⟨w4.heap.size, 0, none⟩) 1 1) 1 (fun _ _ => 2) := ⟨_, _, rfl, fun i hi => ⟨_, _, rfl, lt_of_heap b5, fun j hj => by
    obtain rfl : i = 0 := by omega
    obtain rfl : j = 0 := by omega
    exact ⟨by simp [World.cell?, b5], by dsimp only; omega, by dsimp only; omega⟩⟩⟩
  clear hw5 b5
  refine (Hit_at _ 1 (fun _ _ => 2) b p0 q0 p1 q1 8 _ _ w5 I5 (HB4.out.keepN k5) (fun _ e => by injection e with e; dsimp only at e; omega) (by omega)).mono ?_
  rintro e w6 ⟨rfl, k6, B6⟩
  rw [show okHit 8 (fun i => (fun _ _ => (2 : Int)) i 0) 1 = true by decide] at B6 ⊢
  have B6' : BlackAt w6 b p0 q0 p1 q1 alK0 (fun _ => false) 8 := B6
  have HB6 : Seal _ := ⟨B6'⟩
  have HS6 : Seal _ := ⟨(HS4.out.keepN k5).keep k6 (fun x hx h => by have := lP x hx; omega)⟩
  have HK6 : Seal _ := ⟨(HK4.out.then' k5).trans k6 (fun x hx h => by omega)⟩
  rw [show errV true = 0 from rfl]
  clear B6 B6' k5 k6 I5
  go_wp2_with fail
  refine (al13_first HP.out.2 2 alA 0 (by decide +kernel) (by omega) (by omega) w6 HS6.out HB6.out).mono ?_
  rintro e w7 ⟨rfl, k7⟩
  go_wp2_with fail
  refine (al13_first HP.out.2 3 alA 3 (by decide +kernel) (by omega) (by omega) w7 (HS6.out.keepN k7) (HB6.out.keepN k7)).mono ?_
  rintro e w8 ⟨rfl, k8⟩
  have k68 := k7.then' k8
  go_wp2_with fail
  refine (al13_most HP.out.2 w8 (HS6.out.keepN k68) (HB6.out.keepN k68)).mono ?_
  rintro e w9 ⟨rfl, k9⟩
  have k69 := k68.then' k9
  go_wp2_with fail
  refine (al13_free HP.out.2 w9 (HS6.out.keepN k69) (HB6.out.keepN k69)).mono ?_
  rintro e wA ⟨rfl, kA⟩
  have k6A := k69.then' kA
  have HSA : Seal _ := ⟨HS6.out.keepN k6A⟩
  have HBA : Seal _ := ⟨HB6.out.keepN k6A⟩
  have HKA : Seal _ := ⟨HK6.out.then' k6A⟩
  clear k7 k8 k68 k9 k69 kA k6A
  go_wp2_with fail
  refine (al13_place HP.out.1 HP.out.2 wA HSA.out HBA.out).mono ?_
  rintro e wB ⟨rfl, kB, SB⟩
  have hbes := black_beside HSA.out HBA.out HQ0.out.1 HQ0.out.2
  have HSB : Seal _ := ⟨SB⟩
  have HBB : Seal _ := ⟨HBA.out.keep kB hbes.1 hbes.2.1 hbes.2.2.1 hbes.2.2.2.1 hbes.2.2.2.2⟩
  have HKB : Seal _ := ⟨HKA.out.trans kB (fun x hx h => by have := HOW.out x h; omega)⟩
  clear kB SB hbes
  go_wp2_with fail
  refine (al13_first HP.out.2 2 alC 3 (by decide +kernel) (by omega) (by omega) wB HSB.out HBB.out).mono ?_
  rintro e wC ⟨rfl, kC⟩
  go_wp2_with fail
  refine (FFirst_low _ _ 0 wC (passed (HSB.out.keepN kC) (by rw [HP.out.2]; exact HBB.out.keepN kC)) (by omega)).mono ?_
  rintro e wD ⟨rfl, kD⟩
  go_wp2_with fail
  refine (FFirst_err none _ 1 1 wD (refused_nil _ wD) (by omega)).mono ?_
  rintro e wE ⟨rfl, kE⟩
  have HKE : Seal _ := ⟨((HKB.out.then' kC).then' kD).then' kE⟩
  clear kC kD kE
  go_wp2
  go_ret
  exact ⟨rfl, HKE.out⟩

end Go.Proofs.YtafjebdjdmlahaaDoor
