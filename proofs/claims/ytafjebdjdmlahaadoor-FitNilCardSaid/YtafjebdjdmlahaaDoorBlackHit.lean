/-
  Hit of package black.
-/
import Derived.Test.YtafjebdjdmlahaaDoorBlackFirst
import Derived.Test.YtafjebdjdmlahaaDoorLib
namespace Go.Proofs.YtafjebdjdmlahaaDoor
open Go.RowKit
set_option linter.unusedVariables false

theorem Hit_nil (v : Value) (w : World) : Calls Tryd.prog 47 #[.pointer none, v] w fun e w' => e = .returned (.int .i64 1) ∧ w = w' := by
  go_enter Tryd.func47, Tryd.ntmps47
  go_wp2
  go_ret
  exact ⟨rfl, rfl⟩

/-- Is x among the first len of g? -/
def hitB (x : Nat → Int) (len : Nat) (j : Nat) : Bool := (List.range len).any fun i => x i == (j : Int)

theorem hitB_succ (x : Nat → Int) (len j : Nat) : hitB x (len + 1) j = (hitB x len j || x len == (j : Int)) := by
  simp [hitB, List.range_succ]

/-- May all of them be hit? -/
def okHit (n : Nat) (x : Nat → Int) (len : Nat) : Bool := (List.range len).all fun i => decide (0 ≤ x i ∧ x i < n)

theorem okHit_at {n : Nat} {x : Nat → Int} {len i : Nat} (h : okHit n x len = true) (hi : i < len) : 0 ≤ x i ∧ x i < n := by
  rw [okHit, List.all_eq_true] at h
  simpa using h i (List.mem_range.2 hi)

theorem okHit_no {n : Nat} {x : Nat → Int} {len i : Nat} (hi : i < len) (h : ¬ (0 ≤ x i ∧ x i < n)) : okHit n x len = false := by
  rw [okHit, List.all_eq_false]
  exact ⟨i, List.mem_range.2 hi, by simpa using h⟩

theorem ints_at {w : World} {v : Value} {len : Nat} {x : Nat → Nat → Int} (hv : IntsAt 1 w v len x) : ∃ a cap, v = .slice a len cap ∧ ∀ i, i < len → ∃ g o, a = some ⟨g, o, none⟩ ∧ g < w.heap.size ∧ w.cell? ⟨g, o + i, none⟩ = some (.int .i64 (x i 0)) ∧ -9223372036854775808 ≤ x i 0 ∧ x i 0 ≤ 9223372036854775807 := by
  obtain ⟨a, cap, rfl, h⟩ := hv
  refine ⟨a, cap, rfl, fun i hi => ?_⟩
  obtain ⟨g, o, rfl, h1, h2⟩ := h i hi
  have h3 := h2 0 (by omega)
  rw [Nat.mul_one, Nat.add_zero] at h3
  exact ⟨g, o, rfl, h1, h3⟩

/-- A list's blocks are apart. -/
theorem BlackAt.apart {w : World} {b p0 q0 p1 q1 n : Nat} {f0 f1 : Nat → Bool} (h : BlackAt w b p0 q0 p1 q1 f0 f1 n) : b ≠ q0 ∧ b ≠ p0 ∧ b ≠ q1 ∧ b ≠ p1 ∧ p1 ≠ q0 ∧ p0 ≠ q1 := by
  have h0 := h.hb
  obtain ⟨ws, hw, -⟩ := h.h0
  obtain ⟨_, h1⟩ := hw.hp
  obtain ⟨_, h2, -⟩ := hw.hq
  obtain ⟨ws', hw', -⟩ := h.h1
  obtain ⟨_, h3⟩ := hw'.hp
  obtain ⟨_, h4, -⟩ := hw'.hq
  refine ⟨fun e => ?_, fun e => ?_, fun e => ?_, fun e => ?_, fun e => ?_, fun e => ?_⟩
  · rw [e, h2] at h0; injection h0 with h0; injection h0 with _ h0; exact absurd h0 (by decide)
  · rw [e, h1] at h0; injection h0 with h0; injection h0 with _ h0; exact absurd h0 (by decide)
  · rw [e, h4] at h0; injection h0 with h0; injection h0 with _ h0; exact absurd h0 (by decide)
  · rw [e, h3] at h0; injection h0 with h0; injection h0 with _ h0; exact absurd h0 (by decide)
  · rw [e, h2] at h3; injection h3 with h3; injection h3 with _ h3; exact absurd h3 (by decide)
  · rw [e, h4] at h1; injection h1 with h1; injection h1 with _ h1; exact absurd h1 (by decide)

/-- What Hit leaves, behind a plain name (the walk parts on an 'if' in a post). -/
def HitPost (w : World) (b p0 q0 p1 q1 n len : Nat) (x : Nat → Int) (f0 f1 : Nat → Bool) (e : Ending) (w' : World) : Prop :=
  e = .returned (.int .i64 (errV (okHit n x len))) ∧ Keep (fun i => i = q0) w w' ∧ BlackAt w' b p0 q0 p1 q1 (if okHit n x len then fun j => f0 j || hitB x len j else f0) f1 n

set_option maxHeartbeats 4000000 in
theorem Hit_at (v : Value) (len : Nat) (x : Nat → Nat → Int) (b p0 q0 p1 q1 n : Nat) (f0 f1 : Nat → Bool) (w : World) (hv : IntsAt 1 w v len x) (h : BlackAt w b p0 q0 p1 q1 f0 f1 n) (hvq : 0 < len → v.ownBlock ≠ some q0) (hlen : len ≤ 9223372036854775807) :
    Calls Tryd.prog 47 #[.pointer (some ⟨b, 0, none⟩), v] w (HitPost w b p0 q0 p1 q1 n len (fun i => x i 0) f0 f1) := by
  obtain ⟨hbq, -, -, -, hp1q, -⟩ := h.apart
  obtain ⟨c0, c1, c2⟩ := cell_of_three h.hb
  have lb := lt_of_heap h.hb
  have hn := h.h0.small'
  obtain ⟨a, cap, rfl, hx⟩ := ints_at hv
  have HX : Seal _ := ⟨hx⟩
  have HQ : Seal _ := ⟨hvq⟩
  clear hv hx hvq
  go_enter Tryd.func47, Tryd.ntmps47
  go_wp2_with fail
  go_loop [13] (fun y => ∃ j : Nat, y = .int .i64 (j : Nat) ∧ j ≤ len ∧ Seal (∀ i, i < j → 0 ≤ x i 0 ∧ x i 0 < n)) (fun y => len - (intOf y).toNat)
  case atStart => exact ⟨0, rfl, by omega, ⟨fun i hi => by omega⟩⟩
  case round =>
    obtain ⟨j, rfl, hj, hall⟩ := hrel
    by_cases hjl : j < len
    · have hjl' : (j : Int) < len := by omega
      obtain ⟨g, o, rfl, gl, gc, -, -⟩ := HX.out j hjl
      obtain ⟨y, hy⟩ : ∃ y, y = x j 0 := ⟨_, rfl⟩
      rw [← hy] at gc
      have HY : Seal _ := ⟨hy⟩
      clear hy
      by_cases hy0 : y < 0
      · have hno : Seal (okHit n (fun i => x i 0) len = false) := ⟨okHit_no hjl (by show ¬ (0 ≤ x j 0 ∧ x j 0 < n); rw [← HY.out]; omega)⟩
        go_wp2
        exact bodyPost_ret (v := .int .i64 2) (by simp [results, Tryd.results47, go_sem]) rfl ⟨by rw [hno.out]; rfl, Keep.refl _ _, by rw [hno.out]; exact h⟩
      obtain ⟨Y, rfl⟩ := Int.eq_ofNat_of_zero_le (show 0 ≤ y by omega)
      clear hy0
      have hy0 : ¬ (Y : Int) < 0 := by omega
      by_cases hyn : (n : Int) ≤ Y
      · have hno : Seal (okHit n (fun i => x i 0) len = false) := ⟨okHit_no hjl (by show ¬ (0 ≤ x j 0 ∧ x j 0 < n); rw [← HY.out]; omega)⟩
        go_wp2
        exact bodyPost_ret (v := .int .i64 2) (by simp [results, Tryd.results47, go_sem]) rfl ⟨by rw [hno.out]; rfl, Keep.refl _ _, by rw [hno.out]; exact h⟩
      have hyn' : (Y : Int) < n := by omega
      have hall' : Seal (∀ i, i < j + 1 → 0 ≤ x i 0 ∧ x i 0 < n) := ⟨fun i hi => by
        by_cases e : i = j
        · subst e; rw [← HY.out]; exact ⟨by omega, by omega⟩
        · exact hall.out i (by omega)⟩
      go_wp2
      exact ⟨⟨j + 1, by go_num, by omega, hall'⟩, by simp only [intOf]; omega⟩
    · have hjl' : ¬ (j : Int) < len := by omega
      have hok : Seal (okHit n (fun i => x i 0) len = true) := ⟨by
        rw [okHit, List.all_eq_true]
        intro i hi
        have := hall.out i (by have := List.mem_range.1 hi; omega)
        simpa using this⟩
      have hall' : Seal (∀ i, i < len → 0 ≤ x i 0 ∧ x i 0 < n) := ⟨fun i hi => hall.out i (by omega)⟩
      clear hall
      go_wp2_with fail
      go_loopw [30] (fun y wr => ∃ j : Nat, y = .int .i64 (j : Nat) ∧ j ≤ len ∧ Keep (fun i => i = q0) w wr ∧ BlackAt wr b p0 q0 p1 q1 (fun t => f0 t || hitB (fun i => x i 0) j t) f1 n) (fun y _ => len - (intOf y).toNat)
      case atStart => exact ⟨0, rfl, by omega, Keep.refl _ _, by rw [show (fun t => f0 t || hitB (fun i => x i 0) 0 t) = f0 from funext fun t => Bool.or_false _]; exact h⟩
      case round =>
        obtain ⟨i, rfl, hi, hk, hr⟩ := hrel
        obtain ⟨d0, d1, d2⟩ := cell_of_three hr.hb
        clear c0 c1 c2
        by_cases hil : i < len
        · have hil' : (i : Int) < len := by omega
          obtain ⟨g1, o, rfl, gl, gc, -, -⟩ := HX.out i hil
          have g1n : g1 ≠ q0 := fun e => HQ.out (by omega) (by rw [e]; rfl)
          have gc2 := hk.cell gc g1n
          obtain ⟨y0, yn⟩ := hall'.out i hil
          obtain ⟨Y, hY⟩ := Int.eq_ofNat_of_zero_le y0
          rw [hY] at gc2 yn
          have hYn : Y < n := by omega
          have HY : Seal _ := ⟨hY⟩
          clear y0 gc hY HX HQ
          go_wp2_with fail
          refine (Set_int (Y : Int) n p0 q0 _ wr hr.h0).mono ?_
          rintro e w2 ⟨rfl, k2, b2⟩
          go_wp2
          refine ⟨⟨i + 1, by go_num, by omega, hk.trans k2 (fun _ _ h => h), ⟨k2.at_ hr.hb hbq, ?_, hr.h1.keep k2 hp1q (fun e => hr.ne e.symm), hr.ne⟩⟩, by simp only [intOf]; omega⟩
          have e : setF (fun t => f0 t || hitB (fun i => x i 0) i t) n (Y : Int) 1 true = fun t => f0 t || hitB (fun i => x i 0) (i + 1) t := by
            have ho : okRun n (Y : Int) 1 = true := by simp [okRun]; omega
            rw [setF, ho, if_pos rfl]
            funext t
            rw [hitB_succ, HY.out, Int.toNat_natCast, runSet]
            by_cases e : t = Y
            · subst e
              rw [if_pos (by omega)]; simp
            · rw [if_neg (by omega), show ((Y : Int) == (t : Int)) = false by simp; omega, Bool.or_false]
          rw [← e]; exact b2
        · have hil' : ¬ (i : Int) < len := by omega
          have hie : i = len := by omega
          subst hie
          go_wp2
          exact bodyPost_ret (v := .int .i64 0) (by simp [results, Tryd.results47, go_sem]) rfl ⟨by rw [hok.out]; rfl, hk, by rw [hok.out]; exact hr⟩

end Go.Proofs.YtafjebdjdmlahaaDoor
