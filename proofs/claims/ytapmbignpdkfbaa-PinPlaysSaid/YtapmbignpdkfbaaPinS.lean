/-
  The law's comparing of a table with the document's.
-/
import Derived.Test.YtapmbignpdkfbaaPinH
import Derived.Test.YtapmbignpdkfbaaPinU
import Derived.Deep.RegionHeld3
namespace Go.Proofs.Ytapmbignpdkfbaa
open Go.RowKit
set_option linter.unusedVariables false

set_option maxRecDepth 20000 in
set_option maxHeartbeats 4000000 in
theorem Same17_at {w : World} {p b n r : Nat} {L : List Nat} (hP : PinAt w p b n (cL L)) (hD : DocP w r L) (ho : OkL L) (hl : L.length < 1000000) :
    Calls Try.prog 20 #[.pointer (some ⟨p, 0, none⟩), .pointer (some ⟨r, 0, none⟩)] w fun e w' => e = .returned (.bool true) ∧ Keep Nope w w' := by
  obtain ⟨R, hR⟩ : ∃ R, onceU L = R := ⟨_, rfl⟩
  have hRl : R.length < 1000000 := by have := onceU_len L; rw [hR] at this; omega
  have HO : Seal _ := ⟨ho⟩
  have HRK : Seal (KeyF (cL L) R) := ⟨hR ▸ KeyF_L ho⟩
  have HDL : Seal _ := ⟨DList_at hD (by omega)⟩
  rw [hR] at HDL
  have HP : Seal _ := ⟨hP⟩
  have HD : Seal _ := ⟨hD⟩
  have HRX : Seal (∀ x ∈ R, x < 18446744073709551616) := ⟨fun x hx => ((HRK.out.2 x).1 hx).1⟩
  have HLS : Seal (∀ W, PinAt W p b n (cL L) → Calls Try.prog 14 #[.pointer (some ⟨p, 0, none⟩)] W (RowKPost R W)) := ⟨fun W h => hR ▸ ListL_at h ho hl⟩
  have HTS : Seal (∀ W, PinAt W p b n (cL L) → Calls Try.prog 15 #[.pointer (some ⟨p, 0, none⟩)] W fun e w' => e = .returned (.int .i64 (L.length : Nat)) ∧ Keep Nope W w') := ⟨fun W h => TimesL_at h ho hl⟩
  have HLN : Seal (∀ W, PinAt W p b n (cL L) → Calls Try.prog 16 #[.pointer (some ⟨p, 0, none⟩)] W fun e w' => e = .returned (.int .i64 (R.length : Nat)) ∧ w' = W) := ⟨fun W h => Len_at h HRK.out⟩
  have HSM : Seal (∀ (v u : Value) (W : World), RowW W v R → RowW W u R → Calls Try.prog 13 #[v, u] W fun e w' => e = .returned (.bool true) ∧ Keep Nope W w') := ⟨fun v u W h1 h2 => Same_yes R v u W h1 h2 (by omega)⟩
  clear hP hD ho hR
  go_enter Try.func20, Try.ntmps20
  go_wp2_with fail
  refine HDL.out.mono ?_
  rintro e w1 ⟨v, rfl, hr, k1⟩
  obtain ⟨ra, rc, rfl⟩ := rowU_slice hr
  obtain ⟨M, hM⟩ : ∃ M, R.length = M := ⟨_, rfl⟩
  have HM : Seal _ := ⟨hM⟩
  have HR : Seal _ := ⟨hr⟩
  have HRW : Seal _ := ⟨RowW.of_owns hr⟩
  have HK1 : Seal _ := ⟨k1⟩
  have HP1 : Seal _ := ⟨HP.out.keep k1 (fun h => h) (fun h => h)⟩
  have HD1 : Seal _ := ⟨HD.out.keepN k1⟩
  rw [hM] at HRW HR hRl HLN ⊢
  clear hr k1 HP HD HDL hM
  go_wp2_with fail
  go_loopw [6] (fun z wr => ∃ j : Nat, j ≤ M ∧ z = .int .i64 (j : Nat) ∧ Keep Nope w1 wr) (fun z _ => M - (intOf z).toNat)
  case atStart => exact ⟨0, Nat.zero_le _, rfl, Keep.refl _ _⟩
  case round =>
    obtain ⟨j, hj, rfl, hk⟩ := hrel
    have HK : Seal _ := ⟨hk⟩
    by_cases hjl : j < M
    · have hjl' : (j : Int) < (M : Int) := by omega
      obtain ⟨gb, o, c1, e1, f1⟩ := (HRW.out.keepN hk).fam (by rw [HM.out]; omega)
      injection e1 with a1 a2 a3
      subst a1
      clear a2 a3 hk
      have x1 := f1 j (by rw [HM.out]; exact hjl)
      obtain ⟨X, hX⟩ : ∃ X, R.getD j 0 = X := ⟨_, rfl⟩
      have hXl : X < 18446744073709551616 := by
        rw [← hX]
        have hj2 : j < R.length := by rw [HM.out]; exact hjl
        rw [List.getD_eq_getElem?_getD, List.getElem?_eq_getElem hj2]
        exact HRX.out _ (List.getElem_mem _)
      rw [hX] at x1
      obtain ⟨C, hC⟩ : ∃ C, L.count X = C := ⟨_, rfl⟩
      have HC1 : Seal (∀ m, Calls Try.prog 12 #[.pointer (some ⟨p, 0, none⟩), .int .u64 (X : Nat)] (wr.drewN m) fun e w' => e = .returned (.int .i64 (C : Nat)) ∧ w' = wr.drewN m) := ⟨fun m => hC ▸ Count_at (c := cL L) ((HP1.out.keep HK.out (fun h => h) (fun h => h)).keep (Keep.of_drewN (S := Nope) m) (fun h => h) (fun h => h)) hXl⟩
      have HC2 : Seal (∀ m, Calls Try.prog 21 #[.pointer (some ⟨r, 0, none⟩), .int .u64 (X : Nat)] (wr.drewN m) fun e w' => e = .returned (.int .i64 (C : Nat)) ∧ w' = wr.drewN m) := ⟨fun m => hC ▸ DCount_at ((HD1.out.keepN HK.out).keepN (Keep.of_drewN m)) (by omega) HO.out.2 X hXl⟩
      have hne : ((C : Int) != (C : Int)) = false := by simp
      clear f1 hX hXl hC
      go_wp2_with fail
      go_quiet (first | (go_at_call 12; exact Calls.quiet_of_same (HC1.out _)) | (go_at_call 21; exact Calls.quiet_of_same (HC2.out _)))
      go_wp2_with fail
      exact ⟨⟨j + 1, by omega, by go_num, HK.out.drewN _⟩, by simp only [intOf]; omega⟩
    · have hjl' : ¬ (j : Int) < (M : Int) := by omega
      have HK2 : Seal _ := ⟨HK1.out.trans hk (fun _ _ h => h)⟩
      have HP2 : Seal _ := ⟨HP1.out.keep hk (fun h => h) (fun h => h)⟩
      have HD2 : Seal _ := ⟨HD1.out.keepN hk⟩
      have HR2 : Seal _ := ⟨HRW.out.keepN hk⟩
      clear hk HK HP1 HD1 HK1 HRW HR HRX HRK HO
      obtain ⟨dv, d1, d2⟩ := HD2.out
      have cr := cell_of_one d1
      obtain ⟨da, dc, rfl⟩ := rowU_slice d2
      have K0 : Keep Nope wr wr := Keep.refl _ _
      obtain ⟨T, hT⟩ : ∃ T, L.length = T := ⟨_, rfl⟩
      rw [hT] at cr HTS
      clear d1 d2 hT
      go_wp2_with fail
      go_region_held3 (fun w' => w'.cell? ⟨r, 0, none⟩ = some (.slice da T dc))
        (first | go_keep | exact K2.cell cr (fun h => h) | exact K3.cell cr (fun h => h) | exact K4.cell cr (fun h => h))
        (first
          | (go_simp; go_at_call 14; refine (HLS.out _ (HP2.out.keep (S := Nope) (by first | exact K0 | exact K0.drew | exact K0.drew.drew) (fun h => h) (fun h => h))).mono ?_; rintro e w2 ⟨v2, rfl, hr2, k2⟩; dsimp only; have K2 : Keep Nope wr w2 := (by first | exact K0.thenU k2 | exact K0.drew.thenU k2 | exact K0.drew.drew.thenU k2); have HR3 : Seal _ := ⟨RowW.of_owns hr2⟩; clear hr2 k2)
          | (go_simp; go_at_call 13; refine (HSM.out _ _ _ (HR3.out.keepN (by first | exact Keep.refl _ _ | exact (Keep.refl _ _).drew | exact (Keep.refl _ _).drew.drew)) (HR2.out.keepN (by first | exact K2 | exact K2.drew | exact K2.drew.drew))).mono ?_; rintro e w3 ⟨rfl, k3⟩; dsimp only; have K3 : Keep Nope wr w3 := (by first | exact K2.thenU k3 | exact K2.drew.thenU k3 | exact K2.drew.drew.thenU k3); clear k3)
          | (go_simp; go_at_call 16; refine (HLN.out _ (HP2.out.keep (S := Nope) (by first | exact K3 | exact K3.drew | exact K3.drew.drew) (fun h => h) (fun h => h))).mono ?_; rintro e w9 ⟨rfl, rfl⟩; dsimp only)
          | (go_simp; go_at_call 15; refine (HTS.out _ (HP2.out.keep (S := Nope) (by first | exact K3 | exact K3.drew | exact K3.drew.drew | exact K3.drew.drew.drew) (fun h => h) (fun h => h))).mono ?_; rintro e w4 ⟨rfl, k4⟩; dsimp only; have K4 : Keep Nope wr w4 := (by first | exact K3.thenU k4 | exact K3.drew.thenU k4 | exact K3.drew.drew.thenU k4 | exact K3.drew.drew.drew.thenU k4); clear k4))
      go_wp2_with fail
      exact bodyPost_ret (v := .bool true) (by simp [results, Try.results20, go_sem]) rfl ⟨rfl, HK2.out.thenU K4⟩

end Go.Proofs.Ytapmbignpdkfbaa
