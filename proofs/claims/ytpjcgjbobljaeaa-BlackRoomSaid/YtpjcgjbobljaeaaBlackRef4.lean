/-
  The document's row of ages, walked: Hit.
-/
import Derived.Test.YtpjcgjbobljaeaaBlackHit
import Derived.Test.YtpjcgjbobljaeaaBlackRef3
namespace Go.Proofs.Ytpjcgjbobljaeaa
open Go.RowKit
set_option linter.unusedVariables false

/-- The ages behind a Hit of the first len of x, if all may be hit. -/
def markL (L : Nat → Nat) (x : Nat → Int) (len : Nat) (j : Nat) : Nat := if hitB x len j then 2 else L j

theorem markL_zero (L : Nat → Nat) (x : Nat → Int) : markL L x 0 = L := by funext j; rfl

theorem markL_succ (L : Nat → Nat) (x : Nat → Int) (j Y : Nat) (h : x j = (Y : Int)) : updN (markL L x j) Y 2 = markL L x (j + 1) := by
  funext i
  simp only [updN, markL, hitB_succ, h]
  by_cases e : i = Y
  · subst e; simp
  · rw [if_neg e]
    have : ((Y : Int) == (i : Int)) = false := by simp; omega
    rw [this, Bool.or_false]

theorem markL_left (f0 f1 : Nat → Bool) (x : Nat → Int) (len : Nat) : markL (leftN f0 f1) x len = leftN (fun j => f0 j || hitB x len j) f1 := by
  funext j
  simp only [markL, leftN]
  by_cases h : hitB x len j = true
  · simp [h]
  · simp [h]

/-- What Hit leaves. -/
def LHitPost (w : World) (p g n len : Nat) (x : Nat → Int) (L : Nat → Nat) (e : Ending) (w' : World) : Prop :=
  e = .returned (.int .i64 (errV (okHit n x len))) ∧ Keep (fun i => i = g) w w' ∧ LeftAt w' p g (if okHit n x len then markL L x len else L) n

set_option maxHeartbeats 4000000 in
theorem LHit_at (v : Value) (len : Nat) (x : Nat → Nat → Int) (p g n : Nat) (L : Nat → Nat) (w : World) (hv : IntsAt 1 w v len x) (h : LeftAt w p g L n) (hvq : 0 < len → v.ownBlock ≠ some g) (hlen : len ≤ 9223372036854775807) :
    Calls Try.prog 60 #[.pointer (some ⟨p, 0, none⟩), v] w (LHitPost w p g n len (fun i => x i 0) L) := by
  obtain ⟨pc, hc⟩ := h.head
  have hn := h.small
  obtain ⟨a, cap, rfl, hx⟩ := ints_at hv
  have HX : Seal _ := ⟨hx⟩
  have HQ : Seal _ := ⟨hvq⟩
  clear hv hx hvq
  go_enter Try.func60, Try.ntmps60
  go_wp2_with fail
  go_loopw [5] (fun y wr => ∃ j m : Nat, y = .int .i64 (j : Nat) ∧ j ≤ len ∧ Seal (∀ i, i < j → 0 ≤ x i 0 ∧ x i 0 < n) ∧ wr = w.drewN m) (fun y _ => len - (intOf y).toNat)
  case atStart => exact ⟨0, 0, rfl, by omega, ⟨fun i hi => by omega⟩, rfl⟩
  case round =>
    obtain ⟨j, m, rfl, hj, hall, rfl⟩ := hrel
    by_cases hjl : j < len
    · have hjl' : (j : Int) < len := by omega
      obtain ⟨g1, o, rfl, gl, gc, -, -⟩ := HX.out j hjl
      obtain ⟨y, hy⟩ : ∃ y, y = x j 0 := ⟨_, rfl⟩
      rw [← hy] at gc
      have HY : Seal _ := ⟨hy⟩
      clear hy HX HQ
      by_cases hy0 : y < 0
      · have hno : Seal (okHit n (fun i => x i 0) len = false) := ⟨okHit_no hjl (by show ¬ (0 ≤ x j 0 ∧ x j 0 < n); rw [← HY.out]; omega)⟩
        have hd : decide (y < 0) = true := decide_eq_true hy0
        go_wp2_with fail
        go_quiet (fail)
        go_wp2
        exact bodyPost_ret (v := .int .i64 2) (by simp [results, Try.results60, go_sem]) rfl ⟨by rw [hno.out]; rfl, by rw [drewN_two]; exact Keep.of_drewN _, by rw [hno.out, drewN_two]; exact h.keep (Keep.of_drewN (S := Nope) _) (fun h => h) (fun h => h)⟩
      · obtain ⟨Y, rfl⟩ := Int.eq_ofNat_of_zero_le (show 0 ≤ y by omega)
        have hd : decide ((Y : Int) < 0) = false := decide_eq_false hy0
        by_cases hyn : (n : Int) ≤ Y
        · have hno : Seal (okHit n (fun i => x i 0) len = false) := ⟨okHit_no hjl (by show ¬ (0 ≤ x j 0 ∧ x j 0 < n); rw [← HY.out]; omega)⟩
          go_wp2_with fail
          go_quiet (fail)
          go_wp2
          exact bodyPost_ret (v := .int .i64 2) (by simp [results, Try.results60, go_sem]) rfl ⟨by rw [hno.out]; rfl, by rw [drewN_two]; exact Keep.of_drewN _, by rw [hno.out, drewN_two]; exact h.keep (Keep.of_drewN (S := Nope) _) (fun h => h) (fun h => h)⟩
        · have hall' : Seal (∀ i, i < j + 1 → 0 ≤ x i 0 ∧ x i 0 < n) := ⟨fun i hi => by
            by_cases e : i = j
            · subst e; rw [← HY.out]; exact ⟨by omega, by omega⟩
            · exact hall.out i (by omega)⟩
          go_wp2_with fail
          go_quiet (fail)
          go_wp2
          exact ⟨⟨j + 1, m + nq, by go_num, by omega, hall', rfl⟩, by simp only [intOf]; omega⟩
    · have hjl' : ¬ (j : Int) < len := by omega
      have hok : Seal (okHit n (fun i => x i 0) len = true) := ⟨by
        rw [okHit, List.all_eq_true]
        intro i hi
        have := hall.out i (by have := List.mem_range.1 hi; omega)
        simpa using this⟩
      have hall' : Seal (∀ i, i < len → 0 ≤ x i 0 ∧ x i 0 < n) := ⟨fun i hi => hall.out i (by omega)⟩
      clear hall
      go_wp2_with fail
      go_loopw [6] (fun y wr => ∃ j : Nat, y = .int .i64 (j : Nat) ∧ j ≤ len ∧ Keep (fun i => i = g) w wr ∧ LeftAt wr p g (markL L (fun i => x i 0) j) n) (fun y _ => len - (intOf y).toNat)
      case atStart => exact ⟨0, rfl, by omega, Keep.of_drewN _, by rw [markL_zero]; exact h.keep (Keep.of_drewN (S := Nope) _) (fun h => h) (fun h => h)⟩
      case round =>
        obtain ⟨i, rfl, hi, hk, hr⟩ := hrel
        obtain ⟨pc2, hc2⟩ := hr.head
        by_cases hil : i < len
        · have hil' : (i : Int) < len := by omega
          obtain ⟨g1, o, rfl, gl, gc, -, -⟩ := HX.out i hil
          have g1n : g1 ≠ g := fun e => HQ.out (by omega) (by rw [e]; rfl)
          have gc2 := hk.cell gc g1n
          obtain ⟨y0, yn⟩ := hall'.out i hil
          obtain ⟨Y, hY⟩ := Int.eq_ofNat_of_zero_le y0
          rw [hY] at gc2 yn
          have hYn : Y < n := by omega
          have hst := hr.store hYn 2
          rw [markL_succ L (fun i => x i 0) i Y hY] at hst
          have hcell := hr.at_ hYn
          have hfr := hr.free Y
          have HST : Seal _ := ⟨hst⟩
          obtain ⟨z, hz⟩ : ∃ z, z = markL L (fun i => x i 0) i Y := ⟨_, rfl⟩
          rw [← hz] at hcell
          clear y0 yn gc hY hst HX HQ hz
          go_wp2_with fail
          go_region
          go_wp2
          exact ⟨⟨i + 1, by go_num, by omega, (hk.setCell (fun _ => rfl) _).drew, HST.out.keep (Keep.refl Nope _).drew (fun h => h) (fun h => h)⟩, by simp only [intOf]; omega⟩
        · have hil' : ¬ (i : Int) < len := by omega
          have hie : i = len := by omega
          subst hie
          go_wp2
          exact bodyPost_ret (v := .int .i64 0) (by simp [results, Try.results60, go_sem]) rfl ⟨by rw [hok.out]; rfl, hk, by rw [hok.out]; exact hr⟩

end Go.Proofs.Ytpjcgjbobljaeaa
