/-
  New, Copy, Turn of package black.
-/
import Derived.Test.YtafjebdjdmlahaaDoorBlackList
import Derived.Deep.RegionHeld3
namespace Go.Proofs.YtafjebdjdmlahaaDoor
open Go.RowKit
set_option linter.unusedVariables false

theorem BNew_no (n : Int) (w : World) (h : ¬ (0 ≤ n ∧ n ≤ 65536)) : Calls Tryd.prog 19 #[.int .i64 n] w fun e w' => e = .returned (.tuple #[.pointer none, .int .i64 2]) ∧ Keep Nope w w' := by
  have HN : Seal _ := ⟨h⟩
  clear h
  go_enter Tryd.func19, Tryd.ntmps19
  go_wp2_with fail
  go_loopw [11] (fun x wr => x = .int .i64 0 ∧ Keep Nope w wr) (fun _ _ => 0)
  case atStart => exact ⟨rfl, (Keep.refl _ w).alloc _⟩
  case round =>
    obtain ⟨rfl, hk⟩ := hrel
    go_wp2_with fail
    refine (New_no n _ HN.out).mono ?_
    rintro e w' ⟨rfl, rfl⟩
    go_wp2
    go_ret2
    exact ⟨rfl, hk⟩

/-- What New leaves, behind a plain name. -/
def MadeBlack (w : World) (n : Nat) (e : Ending) (w' : World) : Prop :=
  ∃ b p0 q0 p1 q1, e = .returned (.tuple #[.pointer (some ⟨b, 0, none⟩), .int .i64 0]) ∧ w.heap.size ≤ b ∧ w.heap.size ≤ q0 ∧ w.heap.size ≤ q1 ∧ BlackAt w' b p0 q0 p1 q1 (fun _ => false) (fun _ => false) n ∧ Keep Nope w w'

/-- What Copy leaves. -/
def CopiedBlack (w : World) (n : Nat) (f0 f1 : Nat → Bool) (e : Ending) (w' : World) : Prop :=
  ∃ b' p0' q0' p1' q1', e = .returned (.pointer (some ⟨b', 0, none⟩)) ∧ w.heap.size ≤ b' ∧ w.heap.size ≤ p0' ∧ w.heap.size ≤ q0' ∧ w.heap.size ≤ p1' ∧ w.heap.size ≤ q1' ∧ BlackAt w' b' p0' q0' p1' q1' f0 f1 n ∧ Keep Nope w w'

set_option maxHeartbeats 4000000 in
theorem BNew_yes (n : Nat) (w : World) (h : n ≤ 65536) : Calls Tryd.prog 19 #[.int .i64 (n : Nat)] w (MadeBlack w n) := by
  go_enter Tryd.func19, Tryd.ntmps19
  go_wp2_with fail
  go_loopw [11] (fun x wr => ∃ k : Nat, x = .int .i64 (k : Nat) ∧ k ≤ 2 ∧ Keep Nope w wr ∧
    Seal (∃ p0 q0 p1 q1, (k = 0 → wr.heap[w.heap.size]? = some (.cells #[.pointer none, .pointer none, .int .i64 (n : Nat)] 93 (0, 0))) ∧
      (k = 1 → wr.heap[w.heap.size]? = some (.cells #[.pointer (some ⟨p0, 0, none⟩), .pointer none, .int .i64 (n : Nat)] 93 (0, 0)) ∧ BitsAt wr p0 q0 (fun _ => false) n ∧ w.heap.size < p0 ∧ w.heap.size < q0) ∧
      (k = 2 → BlackAt wr w.heap.size p0 q0 p1 q1 (fun _ => false) (fun _ => false) n ∧ w.heap.size ≤ q0 ∧ w.heap.size ≤ q1)) ∧ w.heap.size < wr.heap.size ∧ (∀ j, wr.frozen? ⟨w.heap.size, j, none⟩ = false))
    (fun x _ => 2 - (intOf x).toNat)
  case atStart =>
    have z := World.alloc_heap_new w (.cells #[.pointer none, .pointer none, .int .i64 (n : Nat)] 93)
    exact ⟨0, rfl, by omega, (Keep.refl _ w).alloc _, ⟨0, 0, 0, 0, fun _ => z, fun h => by omega, fun h => by omega⟩, lt_of_heap z, free_of_block z⟩
  case round =>
    obtain ⟨k, rfl, hk2, hk, hs, hlt, hfr⟩ := hrel
    obtain ⟨p0, q0, p1, q1, s0, s1, s2⟩ := hs.out
    rcases (show k = 0 ∨ k = 1 ∨ k = 2 by omega) with rfl | rfl | rfl
    · have z0 := s0 rfl
      clear s0 s1 s2 hs hfr
      go_wp2_with fail
      refine (New_yes n _ h).mono ?_
      rintro e w1 ⟨p, q, rfl, hp, hq, b1, k1⟩
      have t0 := k1.at_ z0 (fun h => h)
      have tf := free_of_block t0 0
      have tc := (cell_of_three t0).1
      have hlt1 := Nat.lt_of_lt_of_le hlt k1.size
      go_wp2
      have t1 := block_setCell t0 (.pointer (some ⟨p, 0, none⟩)) (j := 0)
      have kE : Keep (fun i => i = w.heap.size) w1 (w1.setCell ⟨w.heap.size, 0, none⟩ (.pointer (some ⟨p, 0, none⟩))) := (Keep.refl (fun i => i = w.heap.size) w1).setCell (fun _ => rfl) _
      refine ⟨⟨1, rfl, by omega, (hk.trans k1 (fun _ _ h => h)).trans kE (fun i hi h => by omega), ⟨p, q, 0, 0, fun h => by omega, fun _ => ⟨t1, b1.keep kE (by omega) (by omega), by omega, by omega⟩, fun h => by omega⟩, Nat.lt_of_lt_of_le hlt1 kE.size, free_of_block t1⟩, by simp [intOf]⟩
    · obtain ⟨z0, zb, zp, zq⟩ := s1 rfl
      clear s0 s1 s2 hs hfr
      go_wp2_with fail
      refine (New_yes n _ h).mono ?_
      rintro e w1 ⟨p, q, rfl, hp, hq, b1, k1⟩
      have t0 := k1.at_ z0 (fun h => h)
      have tf := free_of_block t0 1
      have tc := (cell_of_three t0).2.1
      have hlt1 := Nat.lt_of_lt_of_le hlt k1.size
      have zb1 := zb.keep k1 (fun h => h) (fun h => h)
      have zql := zb.lt_q'
      go_wp2
      have t1 := block_setCell t0 (.pointer (some ⟨p, 0, none⟩)) (j := 1)
      have kE : Keep (fun i => i = w.heap.size) w1 (w1.setCell ⟨w.heap.size, 1, none⟩ (.pointer (some ⟨p, 0, none⟩))) := (Keep.refl (fun i => i = w.heap.size) w1).setCell (fun _ => rfl) _
      refine ⟨⟨2, rfl, by omega, (hk.trans k1 (fun _ _ h => h)).trans kE (fun i hi h => by omega), ⟨p0, q0, p, q, fun h => by omega, fun h => by omega, fun _ => ⟨⟨t1, zb1.keep kE (by omega) (by omega), b1.keep kE (by omega) (by omega), by omega⟩, by omega, by omega⟩⟩, Nat.lt_of_lt_of_le hlt1 kE.size, free_of_block t1⟩, by simp [intOf]⟩
    · obtain ⟨zb, zq0, zq1⟩ := s2 rfl
      clear s0 s1 s2 hs hfr
      go_wp2
      exact bodyPost_ret (v := .tuple #[.pointer (some ⟨w.heap.size, 0, none⟩), .int .i64 0]) (by simp [results, Tryd.results19, go_sem]) rfl ⟨w.heap.size, p0, q0, p1, q1, rfl, Nat.le_refl _, zq0, zq1, zb, hk⟩

end Go.Proofs.YtafjebdjdmlahaaDoor
