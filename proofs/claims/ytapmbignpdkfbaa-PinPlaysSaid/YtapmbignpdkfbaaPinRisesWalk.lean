/-
  PinRises: the law's walk.
-/
import Derived.Test.YtapmbignpdkfbaaPinS
namespace Go.Proofs.Ytapmbignpdkfbaa
open Go.RowKit
set_option linter.unusedVariables false

/-- A row that a table of pins may have. -/
def GoodL (L : List Nat) : Prop := OkL L ∧ (∀ x ∈ L, x ≠ 0) ∧ ∀ x, L.count x ≤ 256

theorem GoodL.nil : GoodL [] := ⟨OkL.nil, fun x h => by simp at h, fun x => by simp⟩

theorem GoodL.pin {L : List Nat} (h : GoodL L) {g : Nat} (hg : g < 18446744073709551616) : GoodL (pinL L g) := by
  by_cases h0 : g = 0
  · have : pinL L g = L := by unfold pinL pinE; rw [if_pos h0]; rfl
    rw [this]
    exact h
  · by_cases h1 : 256 ≤ cL L g
    · have : pinL L g = L := by unfold pinL; rw [pinE_full h0 h1]; rfl
      rw [this]
      exact h
    · have : pinL L g = insL L g := by unfold pinL; rw [pinE_ok h0 h1]; rfl
      refine ⟨h.1.pin hg, ?_, ?_⟩
      · rw [this]
        intro x hx
        rcases (insL_mem L g x).1 hx with rfl | hx
        · exact h0
        · exact h.2.1 x hx
      · rw [this]
        intro x
        rw [insL_count]
        have := h.2.2 x
        split
        · rename_i e
          subst e
          unfold cL at h1
          omega
        · omega

theorem GoodL.erase {L : List Nat} (h : GoodL L) (g : Nat) : GoodL (L.erase g) := ⟨h.1.erase g, fun x hx => h.2.1 x (List.mem_of_mem_erase hx), fun x => Nat.le_trans (List.erase_sublist.count_le x) (h.2.2 x)⟩

theorem sumN_mono (n : Nat → Int) {i j : Nat} (h : i ≤ j) : sumN n i ≤ sumN n j := by
  induction h with
  | refl => exact Nat.le_refl _
  | step _ ih => rw [sumN]; omega

theorem erase_len (L : List Nat) (g : Nat) : (L.erase g).length ≤ L.length := List.erase_sublist.length_le

/-- The counts of the list's first j, together. -/
theorem onceU_sumTake {L R : List Nat} (hs : L.Pairwise (· ≤ ·)) (hR : onceU L = R) {j : Nat} (hj : j ≤ R.length) : ((R.take j).map (cL L)).sum ≤ L.length := by
  have h := sum_once hs
  rw [hR] at h
  have h2 : ((R.take j).map (cL L)).sum ≤ (R.map (cL L)).sum := sum_prefix (List.take_prefix j R)
  have h3 : (R.map (cL L)).sum = L.length := h
  omega

set_option maxRecDepth 20000 in
set_option maxHeartbeats 4000000 in
theorem rises_walk (v : Value) (len : Nat) (d n : Nat → Int) (g : Nat → Nat) (w : World) (hv : StepU w v len d n g) :
    Calls Try.prog 4 #[v] w fun e w' => e = .returned (.bool true) ∧ Keep Nope w w' := by
  have HV : Seal _ := ⟨hv⟩
  obtain ⟨a, c, rfl⟩ := hv.slice
  clear hv
  go_enter Try.func4, Try.ntmps4
  go_wp2_with fail
  refine (HeavyU_any _ len d n g w HV.out).mono ?_
  rintro e w' ⟨t, rfl, rfl, hlight⟩
  cases t with
  | true =>
    go_wp2_with fail
    refine (alive17 _).mono ?_
    rintro e w2 ⟨rfl, k⟩
    go_wp2_with fail
    exact bodyPost_ret (v := .bool true) (by simp [results, Try.results4, go_sem]) rfl ⟨rfl, k⟩
  | false =>
    have HL : Seal _ := ⟨hlight rfl⟩
    have hl80 := HL.out.1
    clear hlight
    go_wp2_with fail
    refine (PNew_at _).mono ?_
    rintro e w1 ⟨p, b, rfl, hP, hp, hb, k1⟩
    have HP : Seal (PinAt w1 p b 0 (cL [])) := ⟨hP⟩
    have HK : Seal _ := ⟨k1⟩
    clear hP k1
    go_wp2_with fail
    go_loopw [4] (fun z wr => ∃ (i m : Nat) (L : List Nat), i ≤ len ∧ z = .int .i64 (i : Nat) ∧ Seal (PinAt wr p b m (cL L) ∧ GoodL L ∧ L.length ≤ m ∧ m ≤ sumN n i ∧ Keep Nope w' wr)) (fun z _ => len - (intOf z).toNat)
    case atStart => exact ⟨0, 0, [], Nat.zero_le _, rfl, ⟨HP.out, GoodL.nil, Nat.le_refl _, Nat.zero_le _, HK.out⟩⟩
    case round =>
      obtain ⟨i, m, L, hi, rfl, HI⟩ := hrel
      by_cases hil : i < len
      · have hil' : (i : Int) < (len : Int) := by omega
        obtain ⟨q, hq⟩ : ∃ q, n i = q := ⟨_, rfl⟩
        have HS1 : Seal (sumN n (i + 1) = sumN n i + q.toNat ∧ sumN n (i + 1) ≤ 1200) := ⟨by rw [sumN, hq], Nat.le_trans (sumN_mono n (by omega)) HL.out.2.2⟩
        have hq12 : q.toNat ≤ 1200 := by have := HS1.out; omega
        obtain ⟨ab, o, rfl, hab, y0, y1, y2, hg⟩ := HV.out.at hil
        rw [hq] at y1
        obtain ⟨D, hD⟩ : ∃ D, d i = D := ⟨_, rfl⟩
        obtain ⟨G, hG⟩ : ∃ G, g i = G := ⟨_, rfl⟩
        rw [hD] at y0
        rw [hG] at y2 hg
        have HY : Seal _ := ⟨And.intro y0 (And.intro y1 y2)⟩
        clear hq hD hG y0 y1 y2
        go_wp2_with fail
        go_loopw [5] (fun z wr2 => ∃ (k m2 : Nat) (L2 : List Nat), k ≤ q.toNat ∧ z = .int .i64 (k : Nat) ∧ Seal (PinAt wr2 p b m2 (cL L2) ∧ GoodL L2 ∧ L2.length ≤ m2 ∧ m2 ≤ sumN n i + k ∧ Keep Nope w' wr2)) (fun z _ => q.toNat - (intOf z).toNat)
        case atStart => exact ⟨0, m, L, Nat.zero_le _, rfl, ⟨HI.out⟩⟩
        case round =>
          obtain ⟨k, m2, L2, hk, rfl, HJ⟩ := hrel
          have hk12 : k ≤ 1200 := by omega
          have y0 := HJ.out.2.2.2.2.cell HY.out.1 (fun h => h)
          have y1 := HJ.out.2.2.2.2.cell HY.out.2.1 (fun h => h)
          have y2 := HJ.out.2.2.2.2.cell HY.out.2.2 (fun h => h)
          by_cases hkq : k < q.toNat
          · have hkq' : (k : Int) < q := by omega
            have hm2 : m2 < 4096 := by have := HJ.out.2.2.2.1; have := HS1.out; omega
            have HPin : Seal _ := ⟨PinL_at HJ.out.1 hm2 hg⟩
            have HUn : Seal _ := ⟨UnpinL_at HJ.out.1 hm2 hg (by have := HJ.out.2.2.1; omega)⟩
            by_cases hD0 : D = 0
            · subst hD0
              go_wp2_with fail
              refine HPin.out.mono ?_
              rintro e w3 ⟨rfl, h3, k3⟩
              have HJ2 : Seal (PinAt w3 p b (m2 + 1) (cL (pinL L2 G)) ∧ GoodL (pinL L2 G) ∧ (pinL L2 G).length ≤ m2 + 1 ∧ m2 + 1 ≤ sumN n i + (k + 1) ∧ Keep Nope w' w3) := ⟨h3, HJ.out.2.1.pin hg, by have := pinL_len L2 G; have := HJ.out.2.2.1; omega, by have := HJ.out.2.2.2.1; omega, HJ.out.2.2.2.2.trans k3 (fun x hx e => by omega)⟩
              have z0 := k3.cell y0 (show ¬ ab = b by omega)
              clear h3 k3 y0 y1 y2 HPin HUn HJ
              go_wp2_with fail
              exact ⟨⟨k + 1, m2 + 1, _, by omega, by go_num, HJ2⟩, by simp only [intOf]; omega⟩
            · by_cases hD1 : D = 1
              · subst hD1
                go_wp2_with fail
                refine HUn.out.mono ?_
                rintro e w3 ⟨rfl, h3, k3⟩
                have HJ2 : Seal (PinAt w3 p b (m2 + 1) (cL (L2.erase G)) ∧ GoodL (L2.erase G) ∧ (L2.erase G).length ≤ m2 + 1 ∧ m2 + 1 ≤ sumN n i + (k + 1) ∧ Keep Nope w' w3) := ⟨h3, HJ.out.2.1.erase G, by have := erase_len L2 G; have := HJ.out.2.2.1; omega, by have := HJ.out.2.2.2.1; omega, HJ.out.2.2.2.2.trans k3 (fun x hx e => by omega)⟩
                clear h3 k3 y0 y1 y2 HPin HUn HJ
                go_wp2_with fail
                exact ⟨⟨k + 1, m2 + 1, _, by omega, by go_num, HJ2⟩, by simp only [intOf]; omega⟩
              · have c0 : (D == 0) = false := by simp; omega
                have c1 : (D == 1) = false := by simp; omega
                have HJ2 : Seal (PinAt wr p b m2 (cL L2) ∧ GoodL L2 ∧ L2.length ≤ m2 ∧ m2 ≤ sumN n i + (k + 1) ∧ Keep Nope w' wr) := ⟨HJ.out.1, HJ.out.2.1, HJ.out.2.2.1, by have := HJ.out.2.2.2.1; omega, HJ.out.2.2.2.2⟩
                clear HPin HUn HJ
                go_wp2_with fail
                exact ⟨⟨k + 1, m2, _, by omega, by go_num, HJ2⟩, by simp only [intOf]; omega⟩
          · have hkq' : ¬ (k : Int) < q := by omega
            have HJ2 : Seal (PinAt wr p b m2 (cL L2) ∧ GoodL L2 ∧ L2.length ≤ m2 ∧ m2 ≤ sumN n (i + 1) ∧ Keep Nope w' wr) := ⟨HJ.out.1, HJ.out.2.1, HJ.out.2.2.1, by have := HJ.out.2.2.2.1; have := HS1.out; omega, HJ.out.2.2.2.2⟩
            clear HJ
            go_wp2_with fail
            exact ⟨⟨i + 1, m2, _, by omega, by go_num, HJ2⟩, by simp only [intOf]; omega⟩
      · have hil' : ¬ (i : Int) < (len : Int) := by omega
        obtain ⟨R, hR⟩ : ∃ R, onceU L = R := ⟨_, rfl⟩
        have hLl : L.length < 1000000 := by
          have h1 := HI.out.2.2.1
          have h2 := HI.out.2.2.2.1
          have h3 := HL.out.2.2
          have h4 := sumN_mono n hi
          omega
        have hRl : R.length < 1000000 := by have := onceU_len L; rw [hR] at this; omega
        have HRK : Seal (KeyF (cL L) R) := ⟨hR ▸ KeyF_L HI.out.2.1.1⟩
        have HRR : Seal (R.Pairwise (· < ·)) := ⟨hR ▸ onceU_rise HI.out.2.1.1.1⟩
        have HST : Seal (∀ j, j ≤ R.length → ((R.take j).map (cL L)).sum ≤ L.length) := ⟨fun j hj => onceU_sumTake HI.out.2.1.1.1 hR hj⟩
        have HSA : Seal ((R.map (cL L)).sum = L.length) := ⟨hR ▸ sum_once HI.out.2.1.1.1⟩
        have HLS : Seal _ := ⟨hR ▸ ListL_at HI.out.1 HI.out.2.1.1 hLl⟩
        clear hR
        go_wp2_with fail
        refine HLS.out.mono ?_
        rintro e w2 ⟨v, rfl, hr, k2⟩
        obtain ⟨ra, rc, rfl⟩ := rowU_slice hr
        obtain ⟨M, hM⟩ : ∃ M, R.length = M := ⟨_, rfl⟩
        have HM : Seal _ := ⟨hM⟩
        have HRW : Seal _ := ⟨RowW.of_owns hr⟩
        have HP2 : Seal _ := ⟨HI.out.1.keep k2 (fun h => h) (fun h => h)⟩
        have HK2 : Seal _ := ⟨HI.out.2.2.2.2.thenU k2⟩
        rw [hM] at HRW hRl HST ⊢
        clear hr k2 hM HLS
        go_wp2_with fail
        go_loopw [7, 8] (fun s z wr2 => ∃ j q : Nat, j ≤ M ∧ q ≤ L.length ∧ s = .int .i64 (q : Nat) ∧ z = .int .i64 (j : Nat) ∧ Seal (q = ((R.take j).map (cL L)).sum) ∧ Keep Nope w2 wr2) (fun _ z _ => M - (intOf z).toNat)
        case atStart => exact ⟨0, 0, Nat.zero_le _, Nat.zero_le _, rfl, rfl, ⟨by simp⟩, Keep.refl _ _⟩
        case round =>
          obtain ⟨j, q, hj, hq, rfl, rfl, HQ, hk⟩ := hrel
          have HKr : Seal _ := ⟨hk⟩
          by_cases hjl : j < M
          · have hjl' : (j : Int) < (M : Int) := by omega
            obtain ⟨gb, o, c1, e1, f1⟩ := (HRW.out.keepN hk).fam (by rw [HM.out]; omega)
            injection e1 with a1 a2 a3
            subst a1
            clear a2 a3 hk
            rw [HM.out] at f1
            obtain ⟨F, hF⟩ : ∃ F : Nat → Nat, F = fun t => R.getD t 0 := ⟨_, rfl⟩
            have hcw : ∀ t, t < M → wr.cell? ⟨gb, o + t, none⟩ = some (.int .u64 (F t : Nat)) := fun t ht => by rw [hF]; exact f1 t ht
            have hj2 : j < R.length := by rw [HM.out]; exact hjl
            have hFj : F j = R[j] := by rw [hF]; simp [List.getD, List.getElem?_eq_getElem hj2]
            have hmem : F j ∈ R := by rw [hFj]; exact List.getElem_mem _
            have hX := (HRK.out.2 (F j)).1 hmem
            have hXl := hX.1
            obtain ⟨C, hC⟩ : ∃ C, cL L (F j) = C := ⟨_, rfl⟩
            have hC1 : 1 ≤ C := by rw [← hC]; exact hX.2
            have hC2 : C ≤ 256 := by rw [← hC]; exact HI.out.2.1.2.2 _
            have hX0 : F j ≠ 0 := HI.out.2.1.2.1 _ (List.count_pos_iff.1 hX.2)
            have HQ2 : Seal (q + C = ((R.take (j + 1)).map (cL L)).sum) := ⟨by
              rw [List.take_add_one, List.getElem?_eq_getElem hj2, Option.toList_some, List.map_append, List.sum_append, ← HQ.out, ← hFj, List.map_cons, hC]
              simp⟩
            have hqC : q + C ≤ L.length := by rw [HQ2.out]; exact HST.out _ (by omega)
            have HCn : Seal _ := ⟨Count_at (HP2.out.keep HKr.out (fun h => h) (fun h => h)) hXl⟩
            rw [hC] at HCn
            have z1 : decide ((C : Int) < 1) = false := decide_eq_false (by omega)
            have z2 : decide ((256 : Int) < (C : Int)) = false := decide_eq_false (by omega)
            have z3 : ((F j : Int) == 0) = false := by simp; omega
            have HFl : Seal (0 < j → F (j - 1) < F j) := ⟨fun h0 => by
              rw [hF]
              have h1 : j - 1 < R.length := by omega
              have := List.pairwise_iff_getElem.1 HRR.out (j - 1) j h1 hj2 (by omega)
              simpa [List.getD, List.getElem?_eq_getElem h1, List.getElem?_eq_getElem hj2] using this⟩
            clear f1 hF hFj hmem hX hC
            go_wp2_with fail
            refine HCn.out.mono ?_
            rintro e _ ⟨rfl, rfl⟩
            clear HCn
            by_cases h0 : 0 < j
            · have h0' : decide ((0 : Int) < (j : Int)) = true := decide_eq_true (by omega)
              have u1 : IntKind.i64.wrap ((j : Int) - 1) = (j : Int) - 1 := by rw [IntKind.wrap_i64]; omega
              have u2 : 1 ≤ (j : Int) := by omega
              have u3 : (j : Int) - 1 < (M : Int) := by omega
              have z4 := HFl.out h0
              go_wp2_with fail
              go_quiet (fail)
              go_wp2_with fail
              exact ⟨⟨j + 1, q + C, by omega, hqC, by go_num, by go_num, HQ2, HKr.out.drewN _⟩, by simp only [intOf]; omega⟩
            · have h0' : decide ((0 : Int) < (j : Int)) = false := decide_eq_false (by omega)
              go_wp2_with fail
              go_quiet (fail)
              go_wp2_with fail
              exact ⟨⟨j + 1, q + C, by omega, hqC, by go_num, by go_num, HQ2, HKr.out.drewN _⟩, by simp only [intOf]; omega⟩
          · have hjl' : ¬ (j : Int) < (M : Int) := by omega
            have hqL : q = L.length := by
              have := HQ.out
              rw [show j = R.length by rw [HM.out]; omega, List.take_length] at this
              rw [this]
              exact HSA.out
            have HP3 : Seal _ := ⟨HP2.out.keep hk (fun h => h) (fun h => h)⟩
            have HK3 : Seal _ := ⟨HK2.out.thenU hk⟩
            have HT : Seal _ := ⟨TimesL_at HP3.out HI.out.2.1.1 hLl⟩
            have HLN : Seal (∀ W, PinAt W p b m (cL L) → Calls Try.prog 16 #[.pointer (some ⟨p, 0, none⟩)] W fun e w' => e = .returned (.int .i64 (M : Nat)) ∧ w' = W) := ⟨fun W h => HM.out ▸ Len_at h HRK.out⟩
            obtain ⟨T, hT⟩ : ∃ T, L.length = T := ⟨_, rfl⟩
            rw [hT] at HT
            have hqT : q = T := by omega
            subst hqT
            clear hk HQ hT hqL
            go_wp2_with fail
            refine HT.out.mono ?_
            rintro e w4 ⟨rfl, k4⟩
            have HP4 : Seal _ := ⟨HP3.out.keep k4 (fun h => h) (fun h => h)⟩
            have HK4 : Seal _ := ⟨HK3.out.thenU k4⟩
            clear k4 HT
            go_wp2_with fail
            refine (HLN.out _ HP4.out).mono ?_
            rintro e _ ⟨rfl, rfl⟩
            go_wp2_with fail
            refine (alive17 _).mono ?_
            rintro e w5 ⟨rfl, k5⟩
            have HK5 : Seal _ := ⟨HK4.out.thenU k5⟩
            clear k5
            go_wp2_with fail
            exact bodyPost_ret (v := .bool true) (by simp [results, Try.results4, go_sem]) rfl ⟨rfl, HK5.out⟩

end Go.Proofs.Ytapmbignpdkfbaa
