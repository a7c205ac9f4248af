/-
  The library's sort at uint64, walked: the heap.
-/
import Derived.Test.YtapmbignpdkfbaaSortA
namespace Go.Proofs.Ytapmbignpdkfbaa
open Go.RowKit
set_option linter.unusedVariables false

section

variable {c0 : Array Value} {b T o n cap : Nat} {F : Nat → Nat} {w : World}

set_option maxHeartbeats 1000000 in
theorem Sift_at {lo hi f : Nat} (h : RowU c0 b T o n F w) (hz : f + hi ≤ n) (hn : n < 4611686018427387904) (hlo : lo ≤ hi) (hh : HeapF f (lo + 1) hi F) :
    Calls Try.prog 47 #[.slice (some ⟨b, o, none⟩) n cap, .int .i64 (lo : Nat), .int .i64 (hi : Nat), .int .i64 (f : Nat)] w fun e w' => e = .returned (.tuple #[]) ∧ Sorts c0 b T o n (f + lo) (f + hi) F (HeapF f lo hi) w w' := by
  have H0 : Seal _ := ⟨h⟩
  have HH : Seal _ := ⟨hh⟩
  clear h hh
  go_enter Try.func47, Try.ntmps47
  go_wp2
  go_loopw [8, 9] (fun v8 _ wr => ∃ (r : Nat), v8 = .int .i64 (r : Nat) ∧ lo ≤ r ∧ r ≤ hi ∧ Seal (Sorts c0 b T o n (f + lo) (f + hi) F (SiftAt f lo hi r) w wr)) (fun v8 _ _ => hi - (intOf v8).toNat)
  case atStart => exact ⟨lo, rfl, Nat.le_refl _, hlo, ⟨F, H0.out, .refl, SiftAt.start HH.out, Keep.refl _ _⟩⟩
  case round =>
    obtain ⟨r, rfl, hr, hrh, HS⟩ := hrel
    obtain ⟨dk, hR, hSw, hso, hK⟩ := HS.out
    have HR : Seal _ := ⟨hR⟩
    have HSw : Seal _ := ⟨hSw⟩
    have HSo : Seal _ := ⟨hso⟩
    have HK : Seal _ := ⟨hK⟩
    clear hR hSw hso hK HS
    have hcw : ∀ t, t < n → wr.cell? ⟨b, o + t, none⟩ = some (.int .u64 (dk t : Nat)) := fun t ht => HR.out.cell ht
    have hfw : ∀ t, t < n → wr.frozen? ⟨b, o + t, none⟩ = false := fun t ht => HR.out.warm t
    obtain ⟨C, hC⟩ : ∃ C : Nat, C = 2 * r + 1 := ⟨_, rfl⟩
    have hCi : (2 * (r : Int) + 1) = (C : Int) := by omega
    clear hC
    by_cases hlt : C < hi
    · have hlt' : ¬ (hi : Int) ≤ (C : Int) := by omega
      go_wp2_with fail
      have u1 : IntKind.i64.wrap ((C : Int) + 1) = (C : Int) + 1 := by rw [IntKind.wrap_i64]; omega
      have u2 : IntKind.i64.wrap ((f : Int) + (C : Int)) = (f : Int) + (C : Int) := by rw [IntKind.wrap_i64]; omega
      have u3 : IntKind.i64.wrap ((f : Int) + (C : Int) + 1) = (f : Int) + (C : Int) + 1 := by rw [IntKind.wrap_i64]; omega
      by_cases h2 : C + 1 < hi
      · have h2' : (C : Int) + 1 < (hi : Int) := by omega
        go_quiet (first | (go_at_call 42; refine Calls.quiet_of_same (Less_at _ _ _)))
        go_wp2_with fail
        · have hl : dk (f + C) < dk (f + C + 1) := by assumption
          obtain ⟨D, hDi, HD⟩ : ∃ D : Nat, (C : Int) + 1 = (D : Int) ∧ Seal (Kid r D ∧ D < hi ∧ ∀ c, Kid r c → c < hi → dk (f + c) ≤ dk (f + D)) := ⟨C + 1, by omega, ⟨by unfold Kid; omega, h2, fun c h3 h4 => by
            have h5 : c = C ∨ c = C + 1 := by unfold Kid at h3; omega
            rcases h5 with rfl | rfl
            · exact Nat.le_of_lt hl
            · exact Nat.le_refl _⟩⟩
          rw [hDi]
          clear hl
          clear u1 u2 u3 h2' h2 hlt' hlt hCi hDi
          have hDh := HD.out.2.1
          have u2 : IntKind.i64.wrap ((f : Int) + (D : Int)) = (f : Int) + (D : Int) := by rw [IntKind.wrap_i64]; omega
          have u3 : IntKind.i64.wrap ((f : Int) + (r : Int)) = (f : Int) + (r : Int) := by rw [IntKind.wrap_i64]; omega
          have hrD : r < D := by have := HD.out.1; unfold Kid at this; omega
          have HR2 : Seal (RowU c0 b T o n dk (wr.drewN nq)) := ⟨HR.out.keep (S := Nope) (Keep.of_drewN nq) (fun x => x)⟩
          have HK2 : Seal (Keep (fun k => k = b) w (wr.drewN nq)) := ⟨HK.out.drewN nq⟩
          clear hcw hfw HR HK
          generalize wr.drewN nq = wr2 at HR2 HK2 ⊢
          have HR := HR2
          have HK := HK2
          clear HR2 HK2 nq
          have hcw : ∀ t, t < n → wr2.cell? ⟨b, o + t, none⟩ = some (.int .u64 (dk t : Nat)) := fun t ht => HR.out.cell ht
          have hfw : ∀ t, t < n → wr2.frozen? ⟨b, o + t, none⟩ = false := fun t ht => HR.out.warm t
          go_quiet (first | (go_at_call 42; refine Calls.quiet_of_same (Less_at _ _ _)))
          go_wp2_with fail
          · have hl : dk (f + D) ≤ dk (f + r) := by
              have : (!decide (dk (f + r) < dk (f + D))) = true := by assumption
              simpa using this
            (try simp only [Exit.inBlock, Exit.then])
            refine bodyPost_ret (results_none rfl _ _ _) rfl ?_
            exact ⟨rfl, dk, HR.out.keep (S := Nope) (Keep.of_drewN nq) (fun x => x), HSw.out, HSo.out.stop fun c h1 h2 => Nat.le_trans (HD.out.2.2 c h1 h2) hl, HK.out.drewN nq⟩
          · have hl : dk (f + r) < dk (f + D) := by
              have : (!decide (dk (f + r) < dk (f + D))) = false := by assumption
              simpa using this
            have HR2 : Seal (RowU c0 b T o n dk (wr2.drewN nq)) := ⟨HR.out.keep (S := Nope) (Keep.of_drewN nq) (fun x => x)⟩
            have HK2 : Seal (Keep (fun k => k = b) w (wr2.drewN nq)) := ⟨HK.out.drewN nq⟩
            clear hcw hfw HR HK
            generalize wr2.drewN nq = wr3 at HR2 HK2 ⊢
            have HR := HR2
            have HK := HK2
            clear HR2 HK2 nq
            have hcw : ∀ t, t < n → wr3.cell? ⟨b, o + t, none⟩ = some (.int .u64 (dk t : Nat)) := fun t ht => HR.out.cell ht
            have hfw : ∀ t, t < n → wr3.frozen? ⟨b, o + t, none⟩ = false := fun t ht => HR.out.warm t
            go_region
            all_goals go_wp2
            go_roundw
            case rel => exact ⟨D, rfl, by omega, by omega, ⟨_, HR.out.swap (i := f + r) (j := f + D) (by omega) (by omega) _, HSw.out.step (by omega) (by omega) (by omega) (by omega), HSo.out.step hr HD.out.1 hDh hl HD.out.2.2, (((HK.out.drewN _).setCell (fun _ => rfl) _).setCell (fun _ => rfl) _)⟩⟩
            case measure => simp [intOf]; omega
        · have hl : ¬ dk (f + C) < dk (f + C + 1) := by assumption
          obtain ⟨D, hDi, HD⟩ : ∃ D : Nat, (C : Int) = (D : Int) ∧ Seal (Kid r D ∧ D < hi ∧ ∀ c, Kid r c → c < hi → dk (f + c) ≤ dk (f + D)) := ⟨C, rfl, ⟨by unfold Kid; omega, hlt, fun c h3 h4 => by
            have h5 : c = C ∨ c = C + 1 := by unfold Kid at h3; omega
            rcases h5 with rfl | rfl
            · exact Nat.le_refl _
            · rw [show f + (C + 1) = f + C + 1 by omega]; omega⟩⟩
          rw [hDi]
          clear hl
          clear u1 u2 u3 h2' h2 hlt' hlt hCi hDi
          have hDh := HD.out.2.1
          have u2 : IntKind.i64.wrap ((f : Int) + (D : Int)) = (f : Int) + (D : Int) := by rw [IntKind.wrap_i64]; omega
          have u3 : IntKind.i64.wrap ((f : Int) + (r : Int)) = (f : Int) + (r : Int) := by rw [IntKind.wrap_i64]; omega
          have hrD : r < D := by have := HD.out.1; unfold Kid at this; omega
          have HR2 : Seal (RowU c0 b T o n dk (wr.drewN nq)) := ⟨HR.out.keep (S := Nope) (Keep.of_drewN nq) (fun x => x)⟩
          have HK2 : Seal (Keep (fun k => k = b) w (wr.drewN nq)) := ⟨HK.out.drewN nq⟩
          clear hcw hfw HR HK
          generalize wr.drewN nq = wr2 at HR2 HK2 ⊢
          have HR := HR2
          have HK := HK2
          clear HR2 HK2 nq
          have hcw : ∀ t, t < n → wr2.cell? ⟨b, o + t, none⟩ = some (.int .u64 (dk t : Nat)) := fun t ht => HR.out.cell ht
          have hfw : ∀ t, t < n → wr2.frozen? ⟨b, o + t, none⟩ = false := fun t ht => HR.out.warm t
          go_quiet (first | (go_at_call 42; refine Calls.quiet_of_same (Less_at _ _ _)))
          go_wp2_with fail
          · have hl : dk (f + D) ≤ dk (f + r) := by
              have : (!decide (dk (f + r) < dk (f + D))) = true := by assumption
              simpa using this
            (try simp only [Exit.inBlock, Exit.then])
            refine bodyPost_ret (results_none rfl _ _ _) rfl ?_
            exact ⟨rfl, dk, HR.out.keep (S := Nope) (Keep.of_drewN nq) (fun x => x), HSw.out, HSo.out.stop fun c h1 h2 => Nat.le_trans (HD.out.2.2 c h1 h2) hl, HK.out.drewN nq⟩
          · have hl : dk (f + r) < dk (f + D) := by
              have : (!decide (dk (f + r) < dk (f + D))) = false := by assumption
              simpa using this
            have HR2 : Seal (RowU c0 b T o n dk (wr2.drewN nq)) := ⟨HR.out.keep (S := Nope) (Keep.of_drewN nq) (fun x => x)⟩
            have HK2 : Seal (Keep (fun k => k = b) w (wr2.drewN nq)) := ⟨HK.out.drewN nq⟩
            clear hcw hfw HR HK
            generalize wr2.drewN nq = wr3 at HR2 HK2 ⊢
            have HR := HR2
            have HK := HK2
            clear HR2 HK2 nq
            have hcw : ∀ t, t < n → wr3.cell? ⟨b, o + t, none⟩ = some (.int .u64 (dk t : Nat)) := fun t ht => HR.out.cell ht
            have hfw : ∀ t, t < n → wr3.frozen? ⟨b, o + t, none⟩ = false := fun t ht => HR.out.warm t
            go_region
            all_goals go_wp2
            go_roundw
            case rel => exact ⟨D, rfl, by omega, by omega, ⟨_, HR.out.swap (i := f + r) (j := f + D) (by omega) (by omega) _, HSw.out.step (by omega) (by omega) (by omega) (by omega), HSo.out.step hr HD.out.1 hDh hl HD.out.2.2, (((HK.out.drewN _).setCell (fun _ => rfl) _).setCell (fun _ => rfl) _)⟩⟩
            case measure => simp [intOf]; omega
      · have h2' : decide ((C : Int) + 1 < (hi : Int)) = false := decide_eq_false (by omega)
        go_quiet (first | (go_at_call 42; refine Calls.quiet_of_same (Less_at _ _ _)))
        go_wp2_with fail
        obtain ⟨D, hDi, HD⟩ : ∃ D : Nat, (C : Int) = (D : Int) ∧ Seal (Kid r D ∧ D < hi ∧ ∀ c, Kid r c → c < hi → dk (f + c) ≤ dk (f + D)) := ⟨C, rfl, ⟨by unfold Kid; omega, hlt, fun c h3 h4 => by
          have h5 : c = C := by unfold Kid at h3; omega
          rw [h5]; exact Nat.le_refl _⟩⟩
        rw [hDi]
        clear u1 u2 u3 h2' h2 hlt' hlt hCi hDi
        have hDh := HD.out.2.1
        have u2 : IntKind.i64.wrap ((f : Int) + (D : Int)) = (f : Int) + (D : Int) := by rw [IntKind.wrap_i64]; omega
        have u3 : IntKind.i64.wrap ((f : Int) + (r : Int)) = (f : Int) + (r : Int) := by rw [IntKind.wrap_i64]; omega
        have hrD : r < D := by have := HD.out.1; unfold Kid at this; omega
        have HR2 : Seal (RowU c0 b T o n dk (wr.drewN nq)) := ⟨HR.out.keep (S := Nope) (Keep.of_drewN nq) (fun x => x)⟩
        have HK2 : Seal (Keep (fun k => k = b) w (wr.drewN nq)) := ⟨HK.out.drewN nq⟩
        clear hcw hfw HR HK
        generalize wr.drewN nq = wr2 at HR2 HK2 ⊢
        have HR := HR2
        have HK := HK2
        clear HR2 HK2 nq
        have hcw : ∀ t, t < n → wr2.cell? ⟨b, o + t, none⟩ = some (.int .u64 (dk t : Nat)) := fun t ht => HR.out.cell ht
        have hfw : ∀ t, t < n → wr2.frozen? ⟨b, o + t, none⟩ = false := fun t ht => HR.out.warm t
        go_quiet (first | (go_at_call 42; refine Calls.quiet_of_same (Less_at _ _ _)))
        go_wp2_with fail
        · have hl : dk (f + D) ≤ dk (f + r) := by
            have : (!decide (dk (f + r) < dk (f + D))) = true := by assumption
            simpa using this
          (try simp only [Exit.inBlock, Exit.then])
          refine bodyPost_ret (results_none rfl _ _ _) rfl ?_
          exact ⟨rfl, dk, HR.out.keep (S := Nope) (Keep.of_drewN nq) (fun x => x), HSw.out, HSo.out.stop fun c h1 h2 => Nat.le_trans (HD.out.2.2 c h1 h2) hl, HK.out.drewN nq⟩
        · have hl : dk (f + r) < dk (f + D) := by
            have : (!decide (dk (f + r) < dk (f + D))) = false := by assumption
            simpa using this
          have HR2 : Seal (RowU c0 b T o n dk (wr2.drewN nq)) := ⟨HR.out.keep (S := Nope) (Keep.of_drewN nq) (fun x => x)⟩
          have HK2 : Seal (Keep (fun k => k = b) w (wr2.drewN nq)) := ⟨HK.out.drewN nq⟩
          clear hcw hfw HR HK
          generalize wr2.drewN nq = wr3 at HR2 HK2 ⊢
          have HR := HR2
          have HK := HK2
          clear HR2 HK2 nq
          have hcw : ∀ t, t < n → wr3.cell? ⟨b, o + t, none⟩ = some (.int .u64 (dk t : Nat)) := fun t ht => HR.out.cell ht
          have hfw : ∀ t, t < n → wr3.frozen? ⟨b, o + t, none⟩ = false := fun t ht => HR.out.warm t
          go_region
          all_goals go_wp2
          go_roundw
          case rel => exact ⟨D, rfl, by omega, by omega, ⟨_, HR.out.swap (i := f + r) (j := f + D) (by omega) (by omega) _, HSw.out.step (by omega) (by omega) (by omega) (by omega), HSo.out.step hr HD.out.1 hDh hl HD.out.2.2, (((HK.out.drewN _).setCell (fun _ => rfl) _).setCell (fun _ => rfl) _)⟩⟩
          case measure => simp [intOf]; omega
    · have hlt' : (hi : Int) ≤ (C : Int) := by omega
      go_wp2_with fail
      go_end0
      exact ⟨rfl, dk, HR.out, HSw.out, HSo.out.stop fun c h1 h2 => by unfold Kid at h1; omega, HK.out⟩

set_option maxHeartbeats 1000000 in
theorem Heap_at {a z : Nat} (h : RowU c0 b T o n F w) (haz : a < z) (hz : z ≤ n) (hn : n < 4611686018427387904) :
    Calls Try.prog 37 #[.slice (some ⟨b, o, none⟩) n cap, .int .i64 (a : Nat), .int .i64 (z : Nat)] w fun e w' => e = .returned (.tuple #[]) ∧ Sorts c0 b T o n a z F (SortedR a z) w w' := by
  have H0 : Seal _ := ⟨h⟩
  obtain ⟨H, hH⟩ : ∃ H, z = a + H := ⟨z - a, by omega⟩
  have HZ : Seal _ := ⟨hH⟩
  have hHi : (z : Int) - (a : Int) = (H : Int) := by omega
  have hH0 : 0 < H := by omega
  have hdv : ((H : Int) - 1).tdiv 2 = ((((H - 1) / 2 + 1 : Nat) : Int) - 1) := by rw [Int.tdiv_eq_ediv_of_nonneg (by omega)]; omega
  have u1 : IntKind.i64.wrap (((H : Int) - 1).tdiv 2) = ((((H - 1) / 2 + 1 : Nat) : Int) - 1) := by rw [hdv, IntKind.wrap_i64]; omega
  clear h haz hH
  have HD : Seal _ := ⟨hdv⟩
  clear hdv
  go_enter Try.func37, Try.ntmps37
  go_wp2_with fail
  go_loopw [9] (fun v9 wr => ∃ (k : Nat), v9 = .int .i64 ((k : Int) - 1) ∧ k ≤ H ∧ Seal (Sorts c0 b T o n a z F (HeapF a k H) w wr)) (fun v9 _ => (intOf v9 + 1).toNat)
  case atStart => exact ⟨(H - 1) / 2 + 1, by (try simp only [hHi]); first | rfl | (rw [HD.out]) | (congr 1; omega), by omega, ⟨F, H0.out, .refl, HeapF.last (by omega), Keep.refl _ _⟩⟩
  case round =>
    obtain ⟨k, rfl, hk, HS⟩ := hrel
    obtain ⟨dk, hR, hSw, hso, hK⟩ := HS.out
    have HR : Seal _ := ⟨hR⟩
    have HSw : Seal _ := ⟨hSw⟩
    have HSo : Seal _ := ⟨hso⟩
    have HK : Seal _ := ⟨hK⟩
    clear hR hSw hso hK HS
    cases k with
    | succ i =>
      rw [show ((i + 1 : Nat) : Int) - 1 = (i : Int) by omega]
      have HC : Seal _ := ⟨Sift_at (cap := cap) (lo := i) (hi := H) (f := a) HR.out (by omega) hn (by omega) HSo.out⟩
      go_wp2_with fail
      refine HC.out.mono ?_
      rintro e w2 ⟨rfl, G, hR2, hS2, hH2, hK2⟩
      go_wp2_with fail
      exact ⟨⟨i, rfl, by omega, ⟨G, hR2, HSw.out.trans (hS2.mono (by omega) (by omega)), hH2, HK.out.trans hK2 (fun _ _ h => h)⟩⟩, by simp only [intOf]; omega⟩
    | zero =>
      rw [show ((0 : Nat) : Int) - 1 = -1 from rfl]
      go_wp2_with fail
      go_loopw [10] (fun v10 wr => ∃ (k : Nat), v10 = .int .i64 ((k : Int) - 1) ∧ k ≤ H ∧ Seal (Sorts c0 b T o n a z F (PopAt a k H) w wr)) (fun v10 _ => (intOf v10 + 1).toNat)
      case atStart => exact ⟨H, rfl, Nat.le_refl _, ⟨dk, HR.out, HSw.out, PopAt.start HSo.out, HK.out⟩⟩
      case round =>
        obtain ⟨k, rfl, hk, HS⟩ := hrel
        obtain ⟨dj, hR, hSw, hso, hK⟩ := HS.out
        clear HR HSw HSo HK
        have HR : Seal _ := ⟨hR⟩
        have HSw : Seal _ := ⟨hSw⟩
        have HSo : Seal _ := ⟨hso⟩
        have HK : Seal _ := ⟨hK⟩
        clear hR hSw hso hK HS
        cases k with
        | succ i =>
          rw [show ((i + 1 : Nat) : Int) - 1 = (i : Int) by omega]
          have hcw : ∀ t, t < n → wr.cell? ⟨b, o + t, none⟩ = some (.int .u64 (dj t : Nat)) := fun t ht => HR.out.cell ht
          have hfw : ∀ t, t < n → wr.frozen? ⟨b, o + t, none⟩ = false := fun t ht => HR.out.warm t
          have u2 : IntKind.i64.wrap ((a : Int) + (i : Int)) = (a : Int) + (i : Int) := by rw [IntKind.wrap_i64]; omega
          by_cases hi0 : i = 0
          · subst hi0
            rw [show ((0 : Nat) : Int) = 0 from rfl]
            have HR3 : Seal (RowU c0 b T o n (swpF dj a (a + 0)) ((wr.setCell ⟨b, o + a, none⟩ (.int .u64 (dj a : Nat))).setCell ⟨b, o + a, none⟩ (.int .u64 (dj a : Nat))).drew) := ⟨HR.out.swap (i := a) (j := a + 0) (by omega) (by omega) 1⟩
            have HK3 : Seal (Keep (fun k => k = b) w ((wr.setCell ⟨b, o + a, none⟩ (.int .u64 (dj a : Nat))).setCell ⟨b, o + a, none⟩ (.int .u64 (dj a : Nat))).drew) := ⟨((HK.out.setCell (fun _ => rfl) _).setCell (fun _ => rfl) _).drew⟩
            have HP : Seal _ := ⟨HSo.out.swap hk⟩
            have HC : Seal (Calls Try.prog 47 #[.slice (some ⟨b, o, none⟩) n cap, .int .i64 0, .int .i64 0, .int .i64 (a : Nat)] ((wr.setCell ⟨b, o + a, none⟩ (.int .u64 (dj a : Nat))).setCell ⟨b, o + a, none⟩ (.int .u64 (dj a : Nat))).drew fun e w' => e = .returned (.tuple #[]) ∧ Sorts c0 b T o n (a + 0) (a + 0) (swpF dj a (a + 0)) (HeapF a 0 0) ((wr.setCell ⟨b, o + a, none⟩ (.int .u64 (dj a : Nat))).setCell ⟨b, o + a, none⟩ (.int .u64 (dj a : Nat))).drew w') := ⟨Sift_at (cap := cap) (lo := 0) (hi := 0) (f := a) HR3.out (by omega) hn (by omega) HP.out.1⟩
            go_wp2_with fail
            go_region
            go_wp2_with fail
            with_reducible refine HC.out.mono ?_
            rintro e w4 ⟨rfl, G, hR2, hS2, hH2, hK2⟩
            go_wp2_with fail
            exact ⟨⟨0, rfl, by omega, ⟨G, hR2, ((HSw.out.step (by omega) (by have := HZ.out; omega) (by omega) (by have := HZ.out; omega)).trans (hS2.mono (by omega) (by have := HZ.out; omega))), PopAt.next HP.out.2 hS2 hH2, HK3.out.trans hK2 (fun _ _ h => h)⟩⟩, by simp only [intOf]; omega⟩
          · have HR3 : Seal (RowU c0 b T o n (swpF dj a (a + i)) ((wr.setCell ⟨b, o + a, none⟩ (.int .u64 (dj (a + i) : Nat))).setCell ⟨b, o + (a + i), none⟩ (.int .u64 (dj a : Nat))).drew) := ⟨HR.out.swap (i := a) (j := a + i) (by omega) (by omega) 1⟩
            have HK3 : Seal (Keep (fun k => k = b) w ((wr.setCell ⟨b, o + a, none⟩ (.int .u64 (dj (a + i) : Nat))).setCell ⟨b, o + (a + i), none⟩ (.int .u64 (dj a : Nat))).drew) := ⟨((HK.out.setCell (fun _ => rfl) _).setCell (fun _ => rfl) _).drew⟩
            have HP : Seal _ := ⟨HSo.out.swap hk⟩
            have HC : Seal (Calls Try.prog 47 #[.slice (some ⟨b, o, none⟩) n cap, .int .i64 0, .int .i64 (i : Nat), .int .i64 (a : Nat)] ((wr.setCell ⟨b, o + a, none⟩ (.int .u64 (dj (a + i) : Nat))).setCell ⟨b, o + (a + i), none⟩ (.int .u64 (dj a : Nat))).drew fun e w' => e = .returned (.tuple #[]) ∧ Sorts c0 b T o n (a + 0) (a + i) (swpF dj a (a + i)) (HeapF a 0 i) ((wr.setCell ⟨b, o + a, none⟩ (.int .u64 (dj (a + i) : Nat))).setCell ⟨b, o + (a + i), none⟩ (.int .u64 (dj a : Nat))).drew w') := ⟨Sift_at (cap := cap) (lo := 0) (hi := i) (f := a) HR3.out (by omega) hn (by omega) HP.out.1⟩
            go_wp2_with fail
            go_region
            go_wp2_with fail
            with_reducible refine HC.out.mono ?_
            rintro e w4 ⟨rfl, G, hR2, hS2, hH2, hK2⟩
            go_wp2_with fail
            exact ⟨⟨i, rfl, by omega, ⟨G, hR2, ((HSw.out.step (by omega) (by have := HZ.out; omega) (by omega) (by have := HZ.out; omega)).trans (hS2.mono (by omega) (by have := HZ.out; omega))), PopAt.next HP.out.2 hS2 hH2, HK3.out.trans hK2 (fun _ _ h => h)⟩⟩, by simp only [intOf]; omega⟩
        | zero =>
          rw [show ((0 : Nat) : Int) - 1 = -1 from rfl]
          go_wp2_with fail
          go_end0
          exact ⟨rfl, dj, HR.out, HSw.out, by rw [HZ.out]; exact HSo.out.done, HK.out⟩

end

end Go.Proofs.Ytapmbignpdkfbaa
