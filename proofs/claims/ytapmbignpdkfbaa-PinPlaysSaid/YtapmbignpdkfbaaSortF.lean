/-
  The library's sort at uint64, walked: which place is chosen to part at.
-/
import Derived.Test.YtapmbignpdkfbaaSortE
namespace Go.Proofs.Ytapmbignpdkfbaa
open Go.RowKit
set_option linter.unusedVariables false

/-- A block of one whole number. -/
def CellI (w : World) (q : Nat) : Prop := ∃ s : Int, w.heap[q]? = some (.cells #[.int .i64 s] 3 (0, 0))

theorem CellI.keepN {w w' : World} {q : Nat} (h : CellI w q) (k : Keep Nope w w') : CellI w' q := by
  obtain ⟨s, hs⟩ := h
  exact ⟨s, k.at_ hs (fun x => x)⟩

theorem frozen_one {w : World} {q : Nat} {cs : Array Value} {t : TypeId} (h : w.heap[q]? = some (.cells cs t (0, 0))) {k : Nat} : w.frozen? ⟨q, k, none⟩ = false := by
  simp [World.frozen?, h]

/-- The first pair, or turned round. -/
def Ord2Post (q x y : Nat) (w : World) (e : Ending) (w' : World) : Prop :=
  ∃ x' y' : Nat, e = .returned (.tuple #[.int .i64 (x' : Nat), .int .i64 (y' : Nat)]) ∧ (x' = x ∧ y' = y ∨ x' = y ∧ y' = x) ∧ CellI w' q ∧ Keep (fun k => k = q) w w'

/-- One of three. -/
def MedPost (q x y z : Nat) (w : World) (e : Ending) (w' : World) : Prop :=
  ∃ r : Nat, e = .returned (.int .i64 (r : Nat)) ∧ (r = x ∨ r = y ∨ r = z) ∧ CellI w' q ∧ Keep (fun k => k = q) w w'

/-- A place between a and z, and a hint. -/
def PivPost (a z : Nat) (w : World) (e : Ending) (w' : World) : Prop :=
  ∃ (p : Nat) (t : Int), e = .returned (.tuple #[.int .i64 (p : Nat), .int .i64 t]) ∧ a ≤ p ∧ p < z ∧ (t = 0 ∨ t = 1 ∨ t = 2) ∧ Keep Nope w w'

section

variable {c0 : Array Value} {b T o n cap : Nat} {F : Nat → Nat} {w : World}

set_option maxHeartbeats 1000000 in
theorem Ord2_at {q x y : Nat} (h : RowU c0 b T o n F w) (hx : x < n) (hy : y < n) (hn : n < 4611686018427387904) (hq : CellI w q) (hqb : q ≠ b) :
    Calls Try.prog 53 #[.slice (some ⟨b, o, none⟩) n cap, .int .i64 (x : Nat), .int .i64 (y : Nat), .pointer (some ⟨q, 0, none⟩)] w (Ord2Post q x y w) := by
  have HR : Seal _ := ⟨h⟩
  obtain ⟨s, hs⟩ := hq
  have HQ : Seal _ := ⟨hs⟩
  clear h hs
  have hcw : ∀ t, t < n → w.cell? ⟨b, o + t, none⟩ = some (.int .u64 (F t : Nat)) := fun t ht => HR.out.cell ht
  have hfw : ∀ t, t < n → w.frozen? ⟨b, o + t, none⟩ = false := fun t ht => HR.out.warm t
  go_enter Try.func53, Try.ntmps53
  go_wp2_with fail
  go_quiet (first | (go_at_call 42; refine Calls.quiet_of_same (Less_at _ _ _)))
  have c1 := cell_of_one (HQ.out)
  have f1 : w.frozen? ⟨q, 0, none⟩ = false := frozen_one HQ.out
  go_wp2_with fail
  · exact bodyPost_ret (v := .tuple #[.int .i64 (y : Nat), .int .i64 (x : Nat)]) (by simp [results, Try.results53, go_sem]) rfl ⟨y, x, rfl, Or.inr ⟨rfl, rfl⟩, ⟨_, one_setCell (w := w.drewN nq) HQ.out⟩, ((Keep.refl (fun k => k = q) w).drewN nq).setCell (fun _ => rfl) _⟩
  · exact bodyPost_ret (v := .tuple #[.int .i64 (x : Nat), .int .i64 (y : Nat)]) (by simp [results, Try.results53, go_sem]) rfl ⟨x, y, rfl, Or.inl ⟨rfl, rfl⟩, ⟨_, HQ.out⟩, Keep.of_drewN nq⟩

set_option maxHeartbeats 1000000 in
theorem Med_at {q x y z : Nat} (h : RowU c0 b T o n F w) (hx : x < n) (hy : y < n) (hz : z < n) (hn : n < 4611686018427387904) (hq : CellI w q) (hqb : q ≠ b) :
    Calls Try.prog 51 #[.slice (some ⟨b, o, none⟩) n cap, .int .i64 (x : Nat), .int .i64 (y : Nat), .int .i64 (z : Nat), .pointer (some ⟨q, 0, none⟩)] w (MedPost q x y z w) := by
  have HR : Seal _ := ⟨h⟩
  have HC : Seal (∀ (x y : Nat) (W : World), x < n → y < n → Keep (fun k => k = q) w W → CellI W q → Calls Try.prog 53 #[.slice (some ⟨b, o, none⟩) n cap, .int .i64 (x : Nat), .int .i64 (y : Nat), .pointer (some ⟨q, 0, none⟩)] W (Ord2Post q x y W)) := ⟨fun x y W h1 h2 k hc => Ord2_at (HR.out.keep k (fun e => hqb e.symm)) h1 h2 hn hc hqb⟩
  have HQ : Seal _ := ⟨hq⟩
  clear h hq
  go_enter Try.func51, Try.ntmps51
  go_wp2_with fail
  refine (HC.out x y w hx hy (Keep.refl _ _) HQ.out).mono ?_
  rintro e w1 ⟨x1, y1, rfl, h1, hc1, k1⟩
  have H1 : Seal _ := ⟨h1⟩
  have HQ1 : Seal _ := ⟨hc1⟩
  have HK1 : Seal _ := ⟨k1⟩
  have hx1 : x1 < n := by omega
  have hy1 : y1 < n := by omega
  clear h1 hc1 k1
  go_wp2_with fail
  refine (HC.out y1 z w1 hy1 hz HK1.out HQ1.out).mono ?_
  rintro e w2 ⟨y2, z2, rfl, h1, hc1, k1⟩
  have H2 : Seal _ := ⟨h1⟩
  have HQ2 : Seal _ := ⟨hc1⟩
  have HK2 : Seal (Keep (fun k => k = q) w w2) := ⟨HK1.out.trans k1 (fun _ _ h => h)⟩
  have hy2 : y2 < n := by omega
  clear h1 hc1 k1
  go_wp2_with fail
  refine (HC.out x1 y2 w2 hx1 hy2 HK2.out HQ2.out).mono ?_
  rintro e w3 ⟨x3, y3, rfl, h1, hc1, k1⟩
  have H3 : Seal _ := ⟨h1⟩
  have HQ3 : Seal _ := ⟨hc1⟩
  have HK3 : Seal (Keep (fun k => k = q) w w3) := ⟨HK2.out.trans k1 (fun _ _ h => h)⟩
  clear h1 hc1 k1
  go_wp2_with fail
  refine bodyPost_ret (v := .int .i64 (y3 : Nat)) (by simp [results, Try.results51, go_sem]) rfl ⟨y3, rfl, ?_, HQ3.out, HK3.out⟩
  have h1 := H1.out
  have h2 := H2.out
  have h3 := H3.out
  omega

set_option maxHeartbeats 1000000 in
theorem MedA_at {q x : Nat} (h : RowU c0 b T o n F w) (hx : 1 ≤ x) (hy : x + 1 < n) (hn : n < 4611686018427387904) (hq : CellI w q) (hqb : q ≠ b) :
    Calls Try.prog 50 #[.slice (some ⟨b, o, none⟩) n cap, .int .i64 (x : Nat), .pointer (some ⟨q, 0, none⟩)] w (MedPost q (x - 1) x (x + 1) w) := by
  have HC : Seal _ := ⟨Med_at (cap := cap) (x := x - 1) (y := x) (z := x + 1) h (by omega) (by omega) hy hn hq hqb⟩
  clear h hq
  go_enter Try.func50, Try.ntmps50
  go_wp2_with fail
  rw [show ((x : Int) - 1) = ((x - 1 : Nat) : Int) by omega, show ((x : Int) + 1) = ((x + 1 : Nat) : Int) by omega]
  refine HC.out.mono ?_
  rintro e w1 ⟨r, rfl, h1, hc1, k1⟩
  have H1 : Seal _ := ⟨h1⟩
  have HQ1 : Seal _ := ⟨hc1⟩
  have HK1 : Seal _ := ⟨k1⟩
  clear h1 hc1 k1
  go_wp2_with fail
  exact bodyPost_ret (v := .int .i64 (r : Nat)) (by simp [results, Try.results50, go_sem]) rfl ⟨r, rfl, H1.out, HQ1.out, HK1.out⟩

set_option maxHeartbeats 1000000 in
theorem Piv_at {a z : Nat} (h : RowU c0 b T o n F w) (haz : a + 12 < z) (hz : z ≤ n) (hn : n < 4611686018427387904) :
    Calls Try.prog 39 #[.slice (some ⟨b, o, none⟩) n cap, .int .i64 (a : Nat), .int .i64 (z : Nat)] w (PivPost a z w) := by
  have HR : Seal _ := ⟨h⟩
  obtain ⟨L, hL, HL⟩ : ∃ L : Nat, (z : Int) - (a : Int) = (L : Int) ∧ Seal (a + L = z) := ⟨z - a, by omega, ⟨by omega⟩⟩
  have hL12 : 12 < L := by omega
  obtain ⟨q, hq⟩ : ∃ q, w.heap.size = q := ⟨_, rfl⟩
  have hqb : q ≠ b := by have := h.lt; omega
  have HC : Seal (CellI (w.alloc (.cells #[.int .i64 0] 3)) q) := ⟨⟨0, by rw [← hq]; exact World.alloc_heap_new w _⟩⟩
  have HRW : Seal (∀ W, Keep (fun k => k = q) (w.alloc (.cells #[.int .i64 0] 3)) W → RowU c0 b T o n F W) := ⟨fun W k => (h.keep (S := Nope) ((Keep.refl _ w).alloc _) (fun x => x)).keep k (fun e => hqb e.symm)⟩
  have HKW : Seal (∀ W, Keep (fun k => k = q) (w.alloc (.cells #[.int .i64 0] 3)) W → Keep Nope w W) := ⟨fun W k => ((Keep.refl Nope w).alloc _).trans k (fun i hi e => by omega)⟩
  clear h
  have h8 : (8 : Int) ≤ (L : Int) := by omega
  obtain ⟨I, eI, HI⟩ : ∃ I : Nat, (a : Int) + (L : Int) / 4 = (I : Int) ∧ Seal (a + L / 4 = I) := ⟨a + L / 4, by omega, ⟨rfl⟩⟩
  obtain ⟨J, eJ, HJ⟩ : ∃ I : Nat, (a : Int) + (L : Int) / 4 * 2 = (I : Int) ∧ Seal (a + L / 4 * 2 = I) := ⟨a + L / 4 * 2, by omega, ⟨rfl⟩⟩
  obtain ⟨K, eK, HKk⟩ : ∃ I : Nat, (a : Int) + (L : Int) / 4 * 3 = (I : Int) ∧ Seal (a + L / 4 * 3 = I) := ⟨a + L / 4 * 3, by omega, ⟨rfl⟩⟩
  have HE : Seal _ := ⟨And.intro eI (And.intro eJ eK)⟩
  have HB : Seal (a + 3 ≤ I ∧ I + 3 ≤ J ∧ J + 3 ≤ K ∧ K + 3 ≤ z ∧ z ≤ n) := ⟨by have := HL.out; omega⟩
  clear eI eJ eK
  by_cases h50 : 50 ≤ L
  · have h50' : (50 : Int) ≤ (L : Int) := by omega
    go_enter Try.func39, Try.ntmps39
    go_wp2_with fail
    rw [HE.out.1, HE.out.2.1, HE.out.2.2]
    have hB := HB.out
    have HK0 : Seal (Keep (fun k => k = q) (w.alloc (.cells #[.int .i64 0] 3)) (w.alloc (.cells #[.int .i64 0] 3))) := ⟨Keep.refl _ _⟩
    refine (MedA_at (x := I) (HRW.out _ HK0.out) (by omega) (by omega) hn HC.out hqb).mono ?_
    rintro e w1 ⟨r1, rfl, h1, hc1, k1⟩
    have HR1 : Seal _ := ⟨h1⟩
    have HQ1 : Seal _ := ⟨hc1⟩
    have HK1 : Seal _ := ⟨HK0.out.trans k1 (fun _ _ h => h)⟩
    clear h1 hc1 k1
    go_wp2_with fail
    refine (MedA_at (x := J) (HRW.out _ HK1.out) (by omega) (by omega) hn HQ1.out hqb).mono ?_
    rintro e w2 ⟨r2, rfl, h1, hc1, k1⟩
    have HR2 : Seal _ := ⟨h1⟩
    have HQ2 : Seal _ := ⟨hc1⟩
    have HK2 : Seal _ := ⟨HK1.out.trans k1 (fun _ _ h => h)⟩
    clear h1 hc1 k1
    go_wp2_with fail
    refine (MedA_at (x := K) (HRW.out _ HK2.out) (by omega) (by omega) hn HQ2.out hqb).mono ?_
    rintro e w3 ⟨r3, rfl, h1, hc1, k1⟩
    have HR3 : Seal _ := ⟨h1⟩
    have HQ3 : Seal _ := ⟨hc1⟩
    have HK3 : Seal _ := ⟨HK2.out.trans k1 (fun _ _ h => h)⟩
    clear h1 hc1 k1
    go_wp2_with fail
    refine (Med_at (x := r1) (y := r2) (z := r3) (HRW.out _ HK3.out) (by have := HR1.out; omega) (by have := HR2.out; omega) (by have := HR3.out; omega) hn HQ3.out hqb).mono ?_
    rintro e w4 ⟨r, rfl, h1, hc1, k1⟩
    have HRr : Seal (a ≤ r ∧ r < z) := ⟨by have q1 := HR1.out; have q2 := HR2.out; have q3 := HR3.out; omega⟩
    have HQe : Seal _ := ⟨hc1⟩
    have HKe : Seal (Keep Nope w w4) := ⟨HKW.out _ (HK3.out.trans k1 (fun _ _ h => h))⟩
    clear h1 hc1 k1
    obtain ⟨sv, hs⟩ := HQe.out
    have c1 := cell_of_one hs
    clear hs
    have hr1 : a ≤ r := by have := HRr.out; omega
    have hr2 : r < z := by have := HRr.out; omega
    by_cases s0 : sv = 0
    · subst s0
      go_wp2_with fail
      exact bodyPost_ret (v := .tuple #[.int .i64 (r : Nat), .int .i64 1]) (by simp [results, Try.results39, go_sem]) rfl ⟨r, 1, rfl, hr1, hr2, Or.inr (Or.inl rfl), HKe.out⟩
    · have s0' : (sv == 0) = false := by simp [s0]
      by_cases s1 : sv = 12
      · subst s1
        go_wp2_with fail
        exact bodyPost_ret (v := .tuple #[.int .i64 (r : Nat), .int .i64 2]) (by simp [results, Try.results39, go_sem]) rfl ⟨r, 2, rfl, hr1, hr2, Or.inr (Or.inr rfl), HKe.out⟩
      · have s1' : (sv == 12) = false := by simp [s1]
        go_wp2_with fail
        exact bodyPost_ret (v := .tuple #[.int .i64 (r : Nat), .int .i64 0]) (by simp [results, Try.results39, go_sem]) rfl ⟨r, 0, rfl, hr1, hr2, Or.inl rfl, HKe.out⟩
  · have h50' : ¬ (50 : Int) ≤ (L : Int) := by omega
    go_enter Try.func39, Try.ntmps39
    go_wp2_with fail
    rw [HE.out.1, HE.out.2.1, HE.out.2.2]
    have hB := HB.out
    refine (Med_at (x := I) (y := J) (z := K) (HRW.out _ (Keep.refl _ _)) (by omega) (by omega) (by omega) hn HC.out hqb).mono ?_
    rintro e w4 ⟨r, rfl, h1, hc1, k1⟩
    have HRr : Seal (a ≤ r ∧ r < z) := ⟨by omega⟩
    have HQe : Seal _ := ⟨hc1⟩
    have HKe : Seal (Keep Nope w w4) := ⟨HKW.out _ k1⟩
    clear h1 hc1 k1
    obtain ⟨sv, hs⟩ := HQe.out
    have c1 := cell_of_one hs
    clear hs
    have hr1 : a ≤ r := by have := HRr.out; omega
    have hr2 : r < z := by have := HRr.out; omega
    by_cases s0 : sv = 0
    · subst s0
      go_wp2_with fail
      exact bodyPost_ret (v := .tuple #[.int .i64 (r : Nat), .int .i64 1]) (by simp [results, Try.results39, go_sem]) rfl ⟨r, 1, rfl, hr1, hr2, Or.inr (Or.inl rfl), HKe.out⟩
    · have s0' : (sv == 0) = false := by simp [s0]
      by_cases s1 : sv = 12
      · subst s1
        go_wp2_with fail
        exact bodyPost_ret (v := .tuple #[.int .i64 (r : Nat), .int .i64 2]) (by simp [results, Try.results39, go_sem]) rfl ⟨r, 2, rfl, hr1, hr2, Or.inr (Or.inr rfl), HKe.out⟩
      · have s1' : (sv == 12) = false := by simp [s1]
        go_wp2_with fail
        exact bodyPost_ret (v := .tuple #[.int .i64 (r : Nat), .int .i64 0]) (by simp [results, Try.results39, go_sem]) rfl ⟨r, 0, rfl, hr1, hr2, Or.inl rfl, HKe.out⟩

end

end Go.Proofs.Ytapmbignpdkfbaa
