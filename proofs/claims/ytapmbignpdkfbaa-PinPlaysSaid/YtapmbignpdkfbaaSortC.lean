/-
  The library's sort at uint64, walked: the parts. Printed by tools/sortpart.py.
-/
import Derived.Test.YtapmbignpdkfbaaSortB
import Derived.Deep.DeepCutAuto
import Derived.Deep.CutBlock
namespace Go.Proofs.Ytapmbignpdkfbaa
open Go.RowKit
set_option linter.unusedVariables false

section

variable {c0 : Array Value} {b T o n cap : Nat} {F : Nat → Nat} {w : World}

set_option maxRecDepth 20000 in
set_option maxHeartbeats 4000000 in
theorem PartE_at {a z p : Nat} (h : RowU c0 b T o n F w) (hap : a ≤ p) (hpz : p < z) (hz : z ≤ n) (hn : n < 4611686018427387904) :
    Calls Try.prog 43 #[.slice (some ⟨b, o, none⟩) n cap, .int .i64 (a : Nat), .int .i64 (z : Nat), .int .i64 (p : Nat)] w fun e w' => ∃ m : Nat, e = .returned (.int .i64 (m : Nat)) ∧ a < m ∧ m ≤ z ∧ Sorts c0 b T o n a z F (Evened a z m (F p)) w w' := by
  have HR : Seal _ := ⟨h⟩
  clear h
  obtain ⟨G, hG⟩ : ∃ G, G = swpF F a p := ⟨_, rfl⟩
  have hGa : G a = F p := by rw [hG, swpF_l]
  have HSw : Seal (Swps a z F G) := ⟨by rw [hG]; exact Swps.one F (by omega) (by omega) (by omega) (by omega)⟩
  obtain ⟨x, hx⟩ : ∃ x, F p = x := ⟨_, rfl⟩
  have HX : Seal (G a = x ∧ F p = x) := ⟨by rw [hGa, hx], hx⟩
  have HG : Seal _ := ⟨hG⟩
  clear hG hGa
  have hcw : ∀ t, t < n → w.cell? ⟨b, o + t, none⟩ = some (.int .u64 (F t : Nat)) := fun t ht => HR.out.cell ht
  have hfw : ∀ t, t < n → w.frozen? ⟨b, o + t, none⟩ = false := fun t ht => HR.out.warm t
  go_enter Try.func43, Try.ntmps43
  have HFp : Seal _ := ⟨hx⟩
  clear hx
  go_upto_region 1 with fail
  go_cut [] from 11 to 24 (fun wx => Seal (RowU c0 b T o n G wx ∧ Keep (fun k => k = b) w wx))
  case first =>
    by_cases hap0 : p = a
    · subst hap0
      go_region
      go_wp2_with fail
      go_meet
      exact ⟨by rw [HG.out]; exact HR.out.swap (i := p) (j := p) (by omega) (by omega) 1, (((Keep.refl (fun k => k = b) w).setCell (fun _ => rfl) _).setCell (fun _ => rfl) _).drew⟩
    · go_region
      go_wp2_with fail
      go_meet
      exact ⟨by rw [HG.out]; exact HR.out.swap (i := a) (j := p) (by omega) (by omega) 1, (((Keep.refl (fun k => k = b) w).setCell (fun _ => rfl) _).setCell (fun _ => rfl) _).drew⟩
  case rest =>
    obtain ⟨hR1, hK1⟩ := hcut.out
    have HS0 : Seal (Sorts c0 b T o n a z F (EqAt' a z (a + 1) (z - 1) x) w wc) := ⟨G, hR1, HSw.out, ⟨HX.out.1, fun k h1 h2 => by omega, fun k h1 h2 => by omega⟩, hK1⟩
    clear hcw hfw HR hR1 hK1 hcut HSw
    go_wp2_with fail
    go_loopw [9, 10] (fun v9 v10 wr => ∃ i j : Nat, v9 = .int .i64 (i : Nat) ∧ v10 = .int .i64 (j : Nat) ∧ a < i ∧ i ≤ j + 1 ∧ j < z ∧ Seal (Sorts c0 b T o n a z F (EqAt' a z i j x) w wr)) (fun v9 v10 _ => (intOf v10 + 1).toNat - (intOf v9).toNat)
    case atStart => exact ⟨a + 1, z - 1, by go_num, by congr 1; omega, by omega, by omega, by omega, HS0⟩
    case round =>
      obtain ⟨i0, j0, rfl, rfl, hai, hij, hjz, HS⟩ := hrel
      clear HX HG HS0
      obtain ⟨G, hR, hSw, hso, hK⟩ := HS.out
      have HR : Seal _ := ⟨hR⟩
      have HSw : Seal _ := ⟨hSw⟩
      have HX : Seal _ := ⟨hso⟩
      have HK : Seal _ := ⟨hK⟩
      clear hR hSw hso hK HS
      go_upto_block 2 with fail
      go_cut [9] from 29 to 45 (fun v wx => ∃ i2 : Nat, v = .int .i64 (i2 : Nat) ∧ i0 ≤ i2 ∧ i2 ≤ j0 + 1 ∧ Seal (RowU c0 b T o n G wx ∧ Keep (fun k => k = b) w wx ∧ (∀ k, a < k → k < i2 → G k ≤ x) ∧ (i2 = j0 + 1 ∨ ¬ (G i2 ≤ x))))
      case first =>
        go_wp2_with fail
        go_loopw [9] (fun v wr => ∃ i2 : Nat, v = .int .i64 (i2 : Nat) ∧ i0 ≤ i2 ∧ i2 ≤ j0 + 1 ∧ Seal (RowU c0 b T o n G wr ∧ Keep (fun k => k = b) w wr ∧ (∀ k, a < k → k < i2 → G k ≤ x))) (fun v _ => j0 + 1 - (intOf v).toNat)
        case atStart => exact ⟨i0, rfl, by omega, by omega, ⟨HR.out, HK.out, HX.out.2.1⟩⟩
        case round =>
          obtain ⟨i2, rfl, hs1, hs2, HS⟩ := hrel
          obtain ⟨hR, hK, hL⟩ := HS.out
          have HR : Seal _ := ⟨hR⟩
          have HK : Seal _ := ⟨hK⟩
          have HL : Seal _ := ⟨hL⟩
          clear hR hK hL HS
          have hcw : ∀ t, t < n → wr.cell? ⟨b, o + t, none⟩ = some (.int .u64 (G t : Nat)) := fun t ht => HR.out.cell ht
          have hfw : ∀ t, t < n → wr.frozen? ⟨b, o + t, none⟩ = false := fun t ht => HR.out.warm t
          by_cases hlt : i2 ≤ j0
          · have hlt' : ((i2 : Nat) : Int) ≤ ((j0 : Nat) : Int) := by omega
            go_wp2_with fail
            go_quiet (first | (go_at_call 42; refine Calls.quiet_of_same (Less_at _ _ _)))
            go_wp2_with fail
            · have hl : G i2 ≤ x := by
                have h0 : (!decide (G a < G i2)) = true := by assumption
                have := HX.out.1
                simp at h0
                omega
              exact ⟨⟨i2 + 1, by go_num, by omega, by omega, ⟨HR.out.keep (S := Nope) (Keep.of_drewN nq) (fun x => x), HK.out.drewN nq, fun k h1 h2 => by
                by_cases e : k = i2
                · rw [e]; exact hl
                · exact HL.out k h1 (by omega)⟩⟩, by simp only [intOf]; omega⟩
            · have hl : ¬ (G i2 ≤ x) := by
                have h0 : (!decide (G a < G i2)) = false := by assumption
                have := HX.out.1
                simp at h0
                omega
              go_meet
              exact ⟨i2, rfl, by omega, by omega, ⟨HR.out.keep (S := Nope) (Keep.of_drewN nq) (fun x => x), HK.out.drewN nq, HL.out, Or.inr hl⟩⟩
          · have hlt' : decide (((i2 : Nat) : Int) ≤ ((j0 : Nat) : Int)) = false := decide_eq_false (by omega)
            go_wp2_with fail
            go_quiet (first | (go_at_call 42; refine Calls.quiet_of_same (Less_at _ _ _)))
            go_wp2_with fail
            go_meet
            exact ⟨i2, rfl, by omega, by omega, ⟨HR.out.keep (S := Nope) (Keep.of_drewN nq) (fun x => x), HK.out.drewN nq, HL.out, Or.inl (by omega)⟩⟩
      case rest =>
        obtain ⟨i1, rfl, hs1, hs2, HC1⟩ := hcut
        obtain ⟨hR1, hK1, hL1, hE1⟩ := HC1.out
        have HR1 : Seal _ := ⟨hR1⟩
        have HK1 : Seal _ := ⟨hK1⟩
        have HL1 : Seal _ := ⟨And.intro hL1 hE1⟩
        clear hR1 hK1 hL1 hE1 HC1 HR HK
        go_upto_block 4 with fail
        go_cut [10] from 46 to 62 (fun v wx => ∃ j2 : Nat, v = .int .i64 (j2 : Nat) ∧ i1 ≤ j2 + 1 ∧ j2 ≤ j0 ∧ Seal (RowU c0 b T o n G wx ∧ Keep (fun k => k = b) w wx ∧ (∀ k, j2 < k → k < z → x < G k) ∧ (i1 = j2 + 1 ∨ ¬ (x < G j2))))
        case first =>
          go_wp2_with fail
          go_loopw [10] (fun v wr => ∃ j2 : Nat, v = .int .i64 (j2 : Nat) ∧ i1 ≤ j2 + 1 ∧ j2 ≤ j0 ∧ Seal (RowU c0 b T o n G wr ∧ Keep (fun k => k = b) w wr ∧ (∀ k, j2 < k → k < z → x < G k))) (fun v _ => (intOf v).toNat)
          case atStart => exact ⟨j0, rfl, by omega, by omega, ⟨HR1.out, HK1.out, HX.out.2.2⟩⟩
          case round =>
            obtain ⟨j2, rfl, hs1, hs2, HS⟩ := hrel
            obtain ⟨hR, hK, hL⟩ := HS.out
            have HR : Seal _ := ⟨hR⟩
            have HK : Seal _ := ⟨hK⟩
            have HL : Seal _ := ⟨hL⟩
            clear hR hK hL HS
            have hcw : ∀ t, t < n → wr.cell? ⟨b, o + t, none⟩ = some (.int .u64 (G t : Nat)) := fun t ht => HR.out.cell ht
            have hfw : ∀ t, t < n → wr.frozen? ⟨b, o + t, none⟩ = false := fun t ht => HR.out.warm t
            by_cases hlt : i1 ≤ j2
            · have hlt' : ((i1 : Nat) : Int) ≤ ((j2 : Nat) : Int) := by omega
              go_wp2_with fail
              go_quiet (first | (go_at_call 42; refine Calls.quiet_of_same (Less_at _ _ _)))
              go_wp2_with fail
              · have hl : x < G j2 := by
                  have h0 : G a < G j2 := by assumption
                  have := HX.out.1
                  omega
                exact ⟨⟨j2 - 1, by congr 1; omega, by omega, by omega, ⟨HR.out.keep (S := Nope) (Keep.of_drewN nq) (fun x => x), HK.out.drewN nq, fun k h1 h2 => by
                  by_cases e : k = j2
                  · rw [e]; exact hl
                  · exact HL.out k (by omega) h2⟩⟩, by simp only [intOf]; omega⟩
              · have hl : ¬ (x < G j2) := by
                  have h0 : ¬ G a < G j2 := by assumption
                  have := HX.out.1
                  omega
                go_meet
                exact ⟨j2, rfl, by omega, by omega, ⟨HR.out.keep (S := Nope) (Keep.of_drewN nq) (fun x => x), HK.out.drewN nq, HL.out, Or.inr hl⟩⟩
            · have hlt' : decide (((i1 : Nat) : Int) ≤ ((j2 : Nat) : Int)) = false := decide_eq_false (by omega)
              go_wp2_with fail
              go_quiet (first | (go_at_call 42; refine Calls.quiet_of_same (Less_at _ _ _)))
              go_wp2_with fail
              go_meet
              exact ⟨j2, rfl, by omega, by omega, ⟨HR.out.keep (S := Nope) (Keep.of_drewN nq) (fun x => x), HK.out.drewN nq, HL.out, Or.inl (by omega)⟩⟩
        case rest =>
          obtain ⟨j1, rfl, ht1, ht2, HC2⟩ := hcut
          obtain ⟨hR2, hK2, hL2, hE2⟩ := HC2.out
          have HR : Seal _ := ⟨hR2⟩
          have HK : Seal _ := ⟨hK2⟩
          have HE : Seal (EqAt' a z i1 j1 x G) := ⟨HX.out.1, HL1.out.1, hL2⟩
          have HE2 : Seal (i1 ≤ j1 → x < G i1 ∧ G j1 ≤ x ∧ i1 < j1) := ⟨fun h => by
            have h1 : ¬ G i1 ≤ x := by
              rcases HL1.out.2 with e | e
              · omega
              · exact e
            have h2 : ¬ x < G j1 := by
              rcases hE2 with e | e
              · omega
              · exact e
            refine ⟨by omega, by omega, ?_⟩
            rcases Nat.lt_or_eq_of_le h with h3 | h3
            · exact h3
            · subst h3; omega⟩
          clear hR2 hK2 hL2 hE2 HC2 HR1 HK1 HL1 HX
          have hcw : ∀ t, t < n → wc.cell? ⟨b, o + t, none⟩ = some (.int .u64 (G t : Nat)) := fun t ht => HR.out.cell ht
          have hfw : ∀ t, t < n → wc.frozen? ⟨b, o + t, none⟩ = false := fun t ht => HR.out.warm t
          by_cases hlt : i1 ≤ j1
          · have hlt' : ¬ (j1 : Int) < (i1 : Int) := by omega
            obtain ⟨q1, q2, q3⟩ := HE2.out hlt
            have HQ : Seal _ := ⟨And.intro q1 q2⟩
            clear q1 q2 HE2
            go_wp2_with fail
            go_region
            go_wp2_with fail
            exact ⟨⟨i1 + 1, j1 - 1, by go_num, by congr 1; omega, by omega, by omega, by omega, ⟨_, HR.out.swap (i := i1) (j := j1) (by omega) (by omega) 1, HSw.out.step (by omega) (by omega) (by omega) (by omega), HE.out.swap (by omega) hlt (by omega) HQ.out.1 HQ.out.2, ((HK.out.setCell (fun _ => rfl) _).setCell (fun _ => rfl) _).drew⟩⟩, by simp only [intOf]; omega⟩
          · have hlt' : (j1 : Int) < (i1 : Int) := by omega
            clear HE2
            go_wp2_with fail
            exact bodyPost_ret (v := .int .i64 (i1 : Nat)) (by simp [results, Try.results43, go_sem]) rfl ⟨i1, rfl, by omega, by omega, G, HR.out, HSw.out, by rw [HFp.out]; exact HE.out.done (by omega), HK.out⟩

end

end Go.Proofs.Ytapmbignpdkfbaa
