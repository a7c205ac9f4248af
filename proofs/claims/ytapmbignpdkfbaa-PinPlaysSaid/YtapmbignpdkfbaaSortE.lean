/-
  The library's sort at uint64, walked: a few steps of insertion.
-/
import Derived.Test.YtapmbignpdkfbaaSortD
namespace Go.Proofs.Ytapmbignpdkfbaa
open Go.RowKit
set_option linter.unusedVariables false

/-- What a few steps of insertion leave. -/
def PIPost (c0 : Array Value) (b T o n a z : Nat) (F : Nat → Nat) (w : World) (e : Ending) (w' : World) : Prop :=
  ∃ r : Bool, e = .returned (.bool r) ∧ Sorts c0 b T o n a z F (fun G => r = true → SortedR a z G) w w'

/-- Rising up to i. -/
def UpTo (a i : Nat) (G : Nat → Nat) : Prop := ∀ k, a < k → k < i → G (k - 1) ≤ G k

section

variable {c0 : Array Value} {b T o n cap : Nat} {F : Nat → Nat} {w : World}

set_option maxRecDepth 20000 in
set_option maxHeartbeats 4000000 in
theorem PartI_at {a z : Nat} (h : RowU c0 b T o n F w) (haz : a < z) (hz : z ≤ n) (hn : n < 4611686018427387904) (hlo : Lower a z F) :
    Calls Try.prog 41 #[.slice (some ⟨b, o, none⟩) n cap, .int .i64 (a : Nat), .int .i64 (z : Nat)] w (PIPost c0 b T o n a z F w) := by
  have H0 : Seal _ := ⟨h⟩
  have HLo : Seal _ := ⟨hlo⟩
  clear h hlo
  go_enter Try.func41, Try.ntmps41
  go_wp2
  go_loopw [7, 8, 9, 10] (fun v7 v8 _ _ wr => ∃ i s : Nat, v7 = .int .i64 (i : Nat) ∧ v8 = .int .i64 (s : Nat) ∧ s ≤ 5 ∧ a < i ∧ i ≤ z ∧ Seal (Sorts c0 b T o n a z F (UpTo a i) w wr)) (fun _ v8 _ _ _ => 5 - (intOf v8).toNat)
  case atStart => exact ⟨a + 1, 0, by go_num, rfl, by omega, by omega, by omega, ⟨F, H0.out, .refl, fun k h1 h2 => by omega, Keep.refl _ _⟩⟩
  case round =>
    obtain ⟨i0, s, rfl, rfl, hs5, hai, hiz, HS⟩ := hrel
    obtain ⟨G, hR, hSw, hso, hK⟩ := HS.out
    have HR : Seal _ := ⟨hR⟩
    have HSw : Seal _ := ⟨hSw⟩
    have HUp : Seal _ := ⟨hso⟩
    have HK : Seal _ := ⟨hK⟩
    clear hR hSw hso hK HS
    by_cases hs : s < 5
    case neg =>
      have hs' : ¬ (s : Int) < 5 := by omega
      go_wp2_with fail
      exact bodyPost_ret (v := .bool false) (by simp [results, Try.results41, go_sem]) rfl ⟨false, rfl, G, HR.out, HSw.out, fun h => Bool.noConfusion h, HK.out⟩
    have hs' : (s : Int) < 5 := by omega
    go_upto_block 2 with fail
    go_cut [7] from 17 to 34 (fun v wx => ∃ i : Nat, v = .int .i64 (i : Nat) ∧ a < i ∧ i ≤ z ∧ Seal (RowU c0 b T o n G wx ∧ Keep (fun k => k = b) w wx ∧ UpTo a i G ∧ (i < z → G i < G (i - 1))))
    case first =>
      go_wp2_with fail
      go_loopw [7] (fun v wr => ∃ i : Nat, v = .int .i64 (i : Nat) ∧ a < i ∧ i ≤ z ∧ Seal (RowU c0 b T o n G wr ∧ Keep (fun k => k = b) w wr ∧ UpTo a i G)) (fun v _ => z - (intOf v).toNat)
      case atStart => exact ⟨i0, rfl, hai, hiz, ⟨HR.out, HK.out, HUp.out⟩⟩
      case round =>
        obtain ⟨i, rfl, h1, h2, HS⟩ := hrel
        obtain ⟨hR, hK, hL⟩ := HS.out
        have HR : Seal _ := ⟨hR⟩
        have HK : Seal _ := ⟨hK⟩
        have HL : Seal _ := ⟨hL⟩
        clear hR hK hL HS
        have hcw : ∀ t, t < n → wr.cell? ⟨b, o + t, none⟩ = some (.int .u64 (G t : Nat)) := fun t ht => HR.out.cell ht
        have hfw : ∀ t, t < n → wr.frozen? ⟨b, o + t, none⟩ = false := fun t ht => HR.out.warm t
        by_cases hlt : i < z
        · have hlt' : (i : Int) < (z : Int) := by omega
          have u1 : IntKind.i64.wrap ((i : Int) - 1) = (i : Int) - 1 := by rw [IntKind.wrap_i64]; omega
          go_wp2_with fail
          go_quiet (first | (go_at_call 42; refine Calls.quiet_of_same (Less_at _ _ _)))
          go_wp2_with fail
          · have hl : G (i - 1) ≤ G i := by
              have h0 : (!decide (G i < G (i - 1))) = true := by assumption
              simpa using h0
            exact ⟨⟨i + 1, by go_num, by omega, by omega, ⟨HR.out.keep (S := Nope) (Keep.of_drewN nq) (fun x => x), HK.out.drewN nq, fun k h1 h2 => by
              by_cases e : k = i
              · rw [e]; exact hl
              · exact HL.out k h1 (by omega)⟩⟩, by simp only [intOf]; omega⟩
          · have hl : G i < G (i - 1) := by
              have h0 : (!decide (G i < G (i - 1))) = false := by assumption
              simpa using h0
            go_meet
            exact ⟨i, rfl, by omega, by omega, ⟨HR.out.keep (S := Nope) (Keep.of_drewN nq) (fun x => x), HK.out.drewN nq, HL.out, fun _ => hl⟩⟩
        · have hlt' : decide ((i : Int) < (z : Int)) = false := decide_eq_false (by omega)
          go_wp2_with fail
          go_quiet (first | (go_at_call 42; refine Calls.quiet_of_same (Less_at _ _ _)))
          go_wp2_with fail
          go_meet
          exact ⟨i, rfl, by omega, by omega, ⟨HR.out.keep (S := Nope) (Keep.of_drewN nq) (fun x => x), HK.out.drewN nq, HL.out, fun h => absurd h hlt⟩⟩
    case rest =>
      obtain ⟨i, rfl, hi1, hi2, HC⟩ := hcut
      clear HR HK HUp
      obtain ⟨hR, hK, hU, hl⟩ := HC.out
      have HR : Seal _ := ⟨hR⟩
      have HK : Seal _ := ⟨hK⟩
      have HUp : Seal _ := ⟨hU⟩
      have HL : Seal _ := ⟨hl⟩
      clear hR hK hU hl HC
      by_cases hiz2 : i = z
      · obtain rfl : z = i := hiz2.symm
        clear hiz2
        go_wp2_with fail
        exact bodyPost_ret (v := .bool true) (by simp [results, Try.results41, go_sem]) rfl ⟨true, rfl, G, HR.out, HSw.out, fun _ => SortedR.of_next HUp.out, HK.out⟩
      · have hne : ((i : Int) == (z : Int)) = false := by simp; omega
        have hilt : i < z := by omega
        by_cases h50 : z - a < 50
        · have h50' : (z : Int) - (a : Int) < 50 := by omega
          go_wp2_with fail
          exact bodyPost_ret (v := .bool false) (by simp [results, Try.results41, go_sem]) rfl ⟨false, rfl, G, HR.out, HSw.out, fun h => Bool.noConfusion h, HK.out⟩
        · have h50' : ¬ (z : Int) - (a : Int) < 50 := by omega
          have hcw : ∀ t, t < n → wc.cell? ⟨b, o + t, none⟩ = some (.int .u64 (G t : Nat)) := fun t ht => HR.out.cell ht
          have hfw : ∀ t, t < n → wc.frozen? ⟨b, o + t, none⟩ = false := fun t ht => HR.out.warm t
          clear hiz2
          go_wp2_with fail
          go_region
          have HR2 : Seal (RowU c0 b T o n (swpF G i (i - 1)) (((wc.setCell ⟨b, o + i, none⟩ (.int .u64 (G (i - 1) : Nat))).setCell ⟨b, o + (i - 1), none⟩ (.int .u64 (G i : Nat))).drew)) := ⟨HR.out.swap (i := i) (j := i - 1) (by omega) (by omega) 1⟩
          have HK2 : Seal (Keep (fun k => k = b) w (((wc.setCell ⟨b, o + i, none⟩ (.int .u64 (G (i - 1) : Nat))).setCell ⟨b, o + (i - 1), none⟩ (.int .u64 (G i : Nat))).drew)) := ⟨((HK.out.setCell (fun _ => rfl) _).setCell (fun _ => rfl) _).drew⟩
          clear hcw hfw
          generalize (((wc.setCell ⟨b, o + i, none⟩ (.int .u64 (G (i - 1) : Nat))).setCell ⟨b, o + (i - 1), none⟩ (.int .u64 (G i : Nat))).drew) = w2 at HR2 HK2 ⊢
          have HS2 : Seal (Swps a z F (swpF G i (i - 1))) := ⟨HSw.out.step (by omega) (by omega) (by omega) (by omega)⟩
          have HU2 : Seal (SortedR a (i - 1) (swpF G i (i - 1))) := ⟨SortedR.of_next fun k h1 h2 => by
            rw [swpF_o G (by omega) (by omega), swpF_o G (by omega) (by omega)]
            exact HUp.out k h1 (by omega)⟩
          clear HR HK HSw HUp HL
          generalize swpF G i (i - 1) = D at HR2 HS2 HU2
          go_upto_if 61 with fail
          go_cut [9, 61] from 62 to 94 (fun v9 _ wx => Seal (Sorts c0 b T o n a z F (UpTo a i) w wx))
          case first =>
            by_cases hi3 : 2 ≤ i - a
            · have hi3' : (2 : Int) ≤ (i : Int) - (a : Int) := by omega
              go_wp2_with fail
              go_loopw [9] (fun v9 wr => ∃ j : Nat, v9 = .int .i64 (j : Nat) ∧ a ≤ j ∧ j ≤ i - 1 ∧ Seal (Sorts c0 b T o n a z F (InsAt a (i - 1) j) w wr)) (fun v9 _ => (intOf v9).toNat)
              case atStart => exact ⟨i - 1, by congr 1; omega, by omega, by omega, ⟨D, HR2.out, HS2.out, InsAt.start HU2.out, HK2.out⟩⟩
              case round =>
                obtain ⟨j, rfl, hj1, hj2, HS⟩ := hrel
                obtain ⟨H, hR, hSw, hso, hK⟩ := HS.out
                have HR : Seal _ := ⟨hR⟩
                have HSw : Seal _ := ⟨hSw⟩
                have HIn : Seal _ := ⟨hso⟩
                have HK : Seal _ := ⟨hK⟩
                clear hR hSw hso hK HS
                have hcw : ∀ t, t < n → wr.cell? ⟨b, o + t, none⟩ = some (.int .u64 (H t : Nat)) := fun t ht => HR.out.cell ht
                have hfw : ∀ t, t < n → wr.frozen? ⟨b, o + t, none⟩ = false := fun t ht => HR.out.warm t
                have OUT : Seal (∀ q, (j = a ∨ H (j - 1) ≤ H j) → Seal (Sorts c0 b T o n a z F (UpTo a i) w (wr.drewN q))) := ⟨fun q h => ⟨H, HR.out.keep (S := Nope) (Keep.of_drewN q) (fun x => x), HSw.out, fun k h1 h2 => HIn.out.stop hj1 hj2 h (k - 1) k (by omega) (by omega) (by omega), HK.out.drewN q⟩⟩
                by_cases hj : 1 ≤ j
                · have hj' : (1 : Int) ≤ (j : Int) := by omega
                  have u1 : IntKind.i64.wrap ((j : Int) - 1) = (j : Int) - 1 := by rw [IntKind.wrap_i64]; omega
                  go_wp2_with fail
                  go_quiet (first | (go_at_call 42; refine Calls.quiet_of_same (Less_at _ _ _)))
                  go_wp2_with fail
                  · have hl : H (j - 1) ≤ H j := by
                      have h0 : (!decide (H j < H (j - 1))) = true := by assumption
                      simpa using h0
                    go_meet
                    exact OUT.out nq (Or.inr hl)
                  · have hl : H j < H (j - 1) := by
                      have h0 : (!decide (H j < H (j - 1))) = false := by assumption
                      simpa using h0
                    have hja : a < j := by
                      rcases Nat.lt_or_eq_of_le hj1 with h3 | h3
                      · exact h3
                      · have h4 := HLo.out.swps HSw.out
                        rcases h4 with h4 | h4
                        · omega
                        · have := h4 j (by omega) (by omega)
                          rw [h3] at this
                          omega
                    clear OUT
                    have HR2 : Seal (RowU c0 b T o n H (wr.drewN nq)) := ⟨HR.out.keep (S := Nope) (Keep.of_drewN nq) (fun x => x)⟩
                    have HK2 : Seal (Keep (fun k => k = b) w (wr.drewN nq)) := ⟨HK.out.drewN nq⟩
                    clear hcw hfw HR HK
                    generalize wr.drewN nq = wr2 at HR2 HK2 ⊢
                    have HR := HR2
                    have HK := HK2
                    clear HR2 HK2 nq
                    have hcw : ∀ t, t < n → wr2.cell? ⟨b, o + t, none⟩ = some (.int .u64 (H t : Nat)) := fun t ht => HR.out.cell ht
                    have hfw : ∀ t, t < n → wr2.frozen? ⟨b, o + t, none⟩ = false := fun t ht => HR.out.warm t
                    go_region
                    go_wp2_with fail
                    exact ⟨⟨j - 1, by congr 1; omega, by omega, by omega, ⟨_, HR.out.swap (i := j) (j := j - 1) (by omega) (by omega) 1, HSw.out.step (by omega) (by omega) (by omega) (by omega), HIn.out.step hja hj2 hl, ((HK.out.setCell (fun _ => rfl) _).setCell (fun _ => rfl) _).drew⟩⟩, by simp only [intOf]; omega⟩
                · have hj' : ¬ (1 : Int) ≤ (j : Int) := by omega
                  go_wp2_with fail
                  go_meet
                  exact OUT.out 0 (Or.inl (by omega))
            · have hi3' : ¬ (2 : Int) ≤ (i : Int) - (a : Int) := by omega
              go_wp2_with fail
              go_meet
              exact ⟨D, HR2.out, HS2.out, fun k h1 h2 => by omega, HK2.out⟩
          case rest =>
            obtain ⟨D2, hR, hSw, hso, hK⟩ := hcut.out
            clear HR2 HS2 HU2 HK2 hcut
            have HR : Seal _ := ⟨hR⟩
            have HSw : Seal _ := ⟨hSw⟩
            have HUp : Seal _ := ⟨hso⟩
            have HK : Seal _ := ⟨hK⟩
            clear hR hSw hso hK
            by_cases hi4 : 2 ≤ z - i
            · have hi4' : (2 : Int) ≤ (z : Int) - (i : Int) := by omega
              go_wp2_with fail
              go_loopw [10] (fun v10 wr => ∃ j : Nat, v10 = .int .i64 (j : Nat) ∧ i < j ∧ j ≤ z ∧ Seal (Sorts c0 b T o n a z F (UpTo a i) w wr)) (fun v10 _ => z - (intOf v10).toNat)
              case atStart => exact ⟨i + 1, by go_num, by omega, by omega, ⟨D2, HR.out, HSw.out, HUp.out, HK.out⟩⟩
              case round =>
                obtain ⟨j, rfl, hj1, hj2, HS⟩ := hrel
                clear HR HSw HUp HK
                obtain ⟨H, hR, hSw, hso, hK⟩ := HS.out
                have HR : Seal _ := ⟨hR⟩
                have HSw : Seal _ := ⟨hSw⟩
                have HUp : Seal _ := ⟨hso⟩
                have HK : Seal _ := ⟨hK⟩
                clear hR hSw hso hK HS
                have hcw : ∀ t, t < n → wr.cell? ⟨b, o + t, none⟩ = some (.int .u64 (H t : Nat)) := fun t ht => HR.out.cell ht
                have hfw : ∀ t, t < n → wr.frozen? ⟨b, o + t, none⟩ = false := fun t ht => HR.out.warm t
                by_cases hj : j < z
                · have hj' : (j : Int) < (z : Int) := by omega
                  have u1 : IntKind.i64.wrap ((j : Int) - 1) = (j : Int) - 1 := by rw [IntKind.wrap_i64]; omega
                  go_wp2_with fail
                  go_quiet (first | (go_at_call 42; refine Calls.quiet_of_same (Less_at _ _ _)))
                  go_wp2_with fail
                  · exact ⟨⟨i, s + 1, rfl, by go_num, by omega, by omega, by omega, ⟨H, HR.out.keep (S := Nope) (Keep.of_drewN nq) (fun x => x), HSw.out, HUp.out, HK.out.drewN nq⟩⟩, by simp only [intOf]; omega⟩
                  ·
                    have HR2 : Seal (RowU c0 b T o n H (wr.drewN nq)) := ⟨HR.out.keep (S := Nope) (Keep.of_drewN nq) (fun x => x)⟩
                    have HK2 : Seal (Keep (fun k => k = b) w (wr.drewN nq)) := ⟨HK.out.drewN nq⟩
                    clear hcw hfw HR HK
                    generalize wr.drewN nq = wr2 at HR2 HK2 ⊢
                    have HR := HR2
                    have HK := HK2
                    clear HR2 HK2 nq
                    have hcw : ∀ t, t < n → wr2.cell? ⟨b, o + t, none⟩ = some (.int .u64 (H t : Nat)) := fun t ht => HR.out.cell ht
                    have hfw : ∀ t, t < n → wr2.frozen? ⟨b, o + t, none⟩ = false := fun t ht => HR.out.warm t
                    go_region
                    go_wp2_with fail
                    exact ⟨⟨j + 1, by go_num, by omega, by omega, ⟨_, HR.out.swap (i := j) (j := j - 1) (by omega) (by omega) 1, HSw.out.step (by omega) (by omega) (by omega) (by omega), fun k h1 h2 => by
                      rw [swpF_o H (by omega) (by omega), swpF_o H (by omega) (by omega)]
                      exact HUp.out k h1 h2, ((HK.out.setCell (fun _ => rfl) _).setCell (fun _ => rfl) _).drew⟩⟩, by simp only [intOf]; omega⟩
                · have hj' : ¬ (j : Int) < (z : Int) := by omega
                  go_wp2_with fail
                  exact ⟨⟨i, s + 1, rfl, by go_num, by omega, by omega, by omega, ⟨H, HR.out, HSw.out, HUp.out, HK.out⟩⟩, by simp only [intOf]; omega⟩
            · have hi4' : ¬ (2 : Int) ≤ (z : Int) - (i : Int) := by omega
              go_wp2_with fail
              exact ⟨⟨i, s + 1, rfl, by go_num, by omega, by omega, by omega, ⟨D2, HR.out, HSw.out, HUp.out, HK.out⟩⟩, by simp only [intOf]; omega⟩

end

end Go.Proofs.Ytapmbignpdkfbaa
