/-
  BitsPlay: the law's walk.
-/
import Derived.Test.YtpjcgjbobljaeaaBitsTells
import Derived.Test.YtpjcgjbobljaeaaSteps
namespace Go.Proofs.Ytpjcgjbobljaeaa
open Go.RowKit
set_option linter.unusedVariables false

theorem May_any (n : Int) (w : World) : Calls Try.prog 23 #[.int .i64 n] w fun e w' => e = .returned (.bool (decide (0 ≤ n ∧ n ≤ 65536))) ∧ w = w' := by
  by_cases h0 : 0 ≤ n
  · by_cases h1 : n ≤ 65536
    · go_enter Try.func23, Try.ntmps23
      go_wp2
      go_ret
      exact ⟨by simp [h0, h1], rfl⟩
    · go_enter Try.func23, Try.ntmps23
      go_wp2
      go_ret
      exact ⟨by simp [h1], rfl⟩
  · go_enter Try.func23, Try.ntmps23
    go_wp2
    go_ret
    exact ⟨by simp; omega, rfl⟩

set_option maxRecDepth 20000 in
set_option maxHeartbeats 8000000 in
theorem play_walk (n : Int) (v : Value) (len : Nat) (x : Nat → Nat → Int) (w : World) (hv : IntsAt 3 w v len x) :
    Calls Try.prog 5 #[.int .i64 n, v] w fun e w' => e = .returned (.bool true) ∧ Keep Nope w w' := by
  have HV : Seal _ := ⟨hv⟩
  obtain ⟨va, vc, rfl, -⟩ := hv
  by_cases h1 : 60 < len
  · have h1' : (60 : Int) < len := by omega
    go_enter Try.func5, Try.ntmps5
    go_wp2_with (go_at_call 11; refine (alive03 _).mono ?_; rintro e w' ⟨rfl, hk⟩)
    go_ret
    exact ⟨rfl, hk⟩
  have h1' : ¬ (60 : Int) < len := by omega
  clear h1
  by_cases h2 : 3000 < n
  · by_cases h3 : n ≤ 65536
    · go_enter Try.func5, Try.ntmps5
      go_wp2_with (go_at_call 11; refine (alive03 _).mono ?_; rintro e w' ⟨rfl, hk⟩)
      go_ret
      exact ⟨rfl, hk⟩
    · have hno : ¬ (0 ≤ n ∧ n ≤ 65536) := by omega
      have HN : Seal _ := ⟨hno⟩
      clear hno
      go_enter Try.func5, Try.ntmps5
      go_wp2_with fail
      refine (New_no n w HN.out).mono ?_
      rintro e w' ⟨rfl, rfl⟩
      go_wp2_with fail
      refine (May_any n _).mono ?_
      rintro e w' ⟨rfl, rfl⟩
      rw [decide_eq_false HN.out]
      go_wp2_with (go_at_call 11; refine (alive03 _).mono ?_; rintro e w' ⟨rfl, hk⟩)
      go_ret
      exact ⟨rfl, hk⟩
  by_cases h3 : n < 0
  · have hno : ¬ (0 ≤ n ∧ n ≤ 65536) := by omega
    have HN : Seal _ := ⟨hno⟩
    clear hno
    go_enter Try.func5, Try.ntmps5
    go_wp2_with fail
    refine (New_no n w HN.out).mono ?_
    rintro e w' ⟨rfl, rfl⟩
    go_wp2_with fail
    refine (May_any n _).mono ?_
    rintro e w' ⟨rfl, rfl⟩
    rw [decide_eq_false HN.out]
    go_wp2_with (go_at_call 11; refine (alive03 _).mono ?_; rintro e w' ⟨rfl, hk⟩)
    go_ret
    exact ⟨rfl, hk⟩
  obtain ⟨N, rfl⟩ : ∃ N : Nat, n = N := ⟨n.toNat, by omega⟩
  have hN : N ≤ 3000 := by omega
  clear h3
  go_enter Try.func5, Try.ntmps5
  go_wp2_with fail
  refine (New_yes N w (by omega)).mono ?_
  rintro e w1 ⟨p0, q0, rfl, hp, hq, b1, k1⟩
  go_wp2_with fail
  refine (May_any N _).mono ?_
  rintro e w' ⟨rfl, rfl⟩
  rw [decide_eq_true (show (0 : Int) ≤ N ∧ (N : Int) ≤ 65536 by omega)]
  go_wp2_with fail
  refine (Len_at N p0 q0 _ _ b1).mono ?_
  rintro e w' ⟨rfl, rfl⟩
  go_wp2_with fail
  refine (RNew_at N _ (by omega)).mono ?_
  rintro e w2 ⟨rp, g, rfl, hrp, hg, r2, k2⟩
  have b2 := b1.keep k2 (fun h => h) (fun h => h)
  have hk2 := k1.trans k2 (fun _ _ h => h)
  have hg' : w.heap.size ≤ g := Nat.le_trans k1.size hg
  go_wp2_with fail
  go_loopw [5, 8] (fun z y wr => ∃ (j p q : Nat) (f : Nat → Bool), j ≤ len ∧ z = .pointer (some ⟨p, 0, none⟩) ∧ y = .int .i64 (j : Nat) ∧ BitsAt wr p q f N ∧ RefAt wr rp g f N ∧ w.heap.size ≤ q ∧ Keep Nope w wr) (fun _ y _ => len - (intOf y).toNat)
  case atStart => exact ⟨0, p0, q0, _, by omega, rfl, rfl, b2, r2, hq, hk2⟩
  case round =>
    obtain ⟨j, p, q, f, hj, rfl, rfl, hb, hr, hqw, hk⟩ := hrel
    by_cases hjl : j < len
    · obtain ⟨va', vc', e, hx⟩ := HV.out
      injection e with e1 _ e2
      subst e1 e2
      obtain ⟨b, o, rfl, hbl, hx⟩ := hx j hjl
      obtain ⟨d, hd⟩ : ∃ d, d = x j 0 := ⟨_, rfl⟩
      obtain ⟨a, ha⟩ : ∃ a, a = x j 1 := ⟨_, rfl⟩
      obtain ⟨c, hc⟩ : ∃ c, c = x j 2 := ⟨_, rfl⟩
      have ha0 : Seal (-9223372036854775808 ≤ a) := ⟨by rw [ha]; exact (hx 1 (by omega)).2.1⟩
      have x0 := hk.cell (hx 0 (by omega)).1 (fun h => h)
      have x1 := hk.cell (hx 1 (by omega)).1 (fun h => h)
      have x2 := hk.cell (hx 2 (by omega)).1 (fun h => h)
      rw [Nat.add_zero, ← hd] at x0
      rw [← Nat.add_assoc, ← ha] at x1
      rw [← Nat.add_assoc, ← hc] at x2
      clear hx hd ha hc
      have hwr := hk.size
      have lq := hb.lt_q'
      have hbw : b < wr.heap.size := by omega
      by_cases hd4 : d = 4
      · subst hd4
        go_wp2_with fail
        refine (Copy_at N p q f _ hb).mono ?_
        rintro e w5 ⟨p5, q5, rfl, hp5, hq5, b5, k5⟩
        have hbo := hb.keep k5 (fun h => h) (fun h => h)
        have ro := hr.keep k5 (fun h => h) (fun h => h)
        have lp := hb.lt_p'
        go_wp2_with fail
        refine (SetRun_int 0 ((N : Int) / 2) N p q f _ hbo).mono ?_
        rintro e w6 ⟨rfl, k6, bo6⟩
        obtain ⟨n1, n2, n3, n4⟩ := RefAt.ne_bits hbo ro
        have b6 := b5.keep k6 (by omega) (by omega)
        have r6 := ro.keep k6 n3 n2.symm
        go_wp2_with fail
        refine (ClearRun_int ((N : Int) / 2) ((N : Int) - (N : Int) / 2) N p q _ _ bo6).mono ?_
        rintro e w7 ⟨rfl, k7, bo7⟩
        have b7 := b6.keep k7 (by omega) (by omega)
        have r7 := r6.keep k7 n3 n2.symm
        have bq : ¬ b = q := by omega
        have y0 := k7.cell (k6.cell (k5.cell x0 (fun h => h)) bq) bq
        have y1 := k7.cell (k6.cell (k5.cell x1 (fun h => h)) bq) bq
        have y2 := k7.cell (k6.cell (k5.cell x2 (fun h => h)) bq) bq
        have hbw7 : b < w7.heap.size := by have := k5.size; have := k6.size; have := k7.size; omega
        clear x0 x1 x2
        go_wp2_with fail
        have nqg : ¬ (b = q5 ∨ b = g) := by omega
        go_region_held3 (fun w' => w'.cell? ⟨b, o + j * 3, none⟩ = some (.int .i64 4) ∧ w'.cell? ⟨b, o + j * 3 + 1, none⟩ = some (.int .i64 a) ∧ w'.cell? ⟨b, o + j * 3 + 2, none⟩ = some (.int .i64 c))
          (first | go_keep | exact ⟨k3.cell y0 nqg, k3.cell y1 nqg, k3.cell y2 nqg⟩ | exact ⟨k4.cell (k3.cell y0 nqg) (fun h => h), k4.cell (k3.cell y1 nqg) (fun h => h), k4.cell (k3.cell y2 nqg) (fun h => h)⟩)
          (first
            | (go_at_call 13; refine (does_any 4 a c p5 q5 rp g N f f _ (b7.keep (S := Nope) (by first | exact Keep.refl Nope _ | exact (Keep.refl Nope _).drew) (fun h => h) (fun h => h)) (r7.keep (S := Nope) (by first | exact Keep.refl Nope _ | exact (Keep.refl Nope _).drew) (fun h => h) (fun h => h))).mono ?_; rintro e w3 ⟨rfl, k3, b3, r3⟩)
            | (go_at_call 26; refine (tells_any a c p5 q5 rp g N (doF f N 4 a c) _ (b3.keep (S := Nope) (by first | exact Keep.refl Nope _ | exact (Keep.refl Nope _).drew) (fun h => h) (fun h => h)) (r3.keep (S := Nope) (by first | exact Keep.refl Nope _ | exact (Keep.refl Nope _).drew) (fun h => h) (fun h => h)) ha0.out).mono ?_; rintro e w4 ⟨rfl, k4⟩))
        clear y0 y1 y2
        go_wp2
        refine ⟨⟨j + 1, p5, q5, _, by omega, rfl, by go_num, b3.keep k4 (fun h => h) (fun h => h), r3.keep k4 (fun h => h) (fun h => h), by omega, ?_⟩, by simp only [intOf]; omega⟩
        have K7 : Keep Nope w w7 := ((hk.trans k5 (fun _ _ h => h)).trans k6 (fun t ht h => by omega)).trans k7 (fun t ht h => by omega)
        exact ((K7.trans ((Keep.refl Nope w7).drew) (fun _ _ h => h)).trans k3 (fun t ht h => by rcases h with h | h <;> omega)).trans k4 (fun _ _ h => h)
      · go_wp2_with fail
        have nqg : ¬ (b = q ∨ b = g) := by omega
        go_region_held3 (fun w' => w'.cell? ⟨b, o + j * 3, none⟩ = some (.int .i64 d) ∧ w'.cell? ⟨b, o + j * 3 + 1, none⟩ = some (.int .i64 a) ∧ w'.cell? ⟨b, o + j * 3 + 2, none⟩ = some (.int .i64 c))
          (first | go_keep | exact ⟨k3.cell x0 nqg, k3.cell x1 nqg, k3.cell x2 nqg⟩ | exact ⟨k4.cell (k3.cell x0 nqg) (fun h => h), k4.cell (k3.cell x1 nqg) (fun h => h), k4.cell (k3.cell x2 nqg) (fun h => h)⟩)
          (first
            | (go_at_call 13; refine (does_any d a c p q rp g N f f _ (hb.keep (S := Nope) (by first | exact Keep.refl Nope _ | exact (Keep.refl Nope _).drew) (fun h => h) (fun h => h)) (hr.keep (S := Nope) (by first | exact Keep.refl Nope _ | exact (Keep.refl Nope _).drew) (fun h => h) (fun h => h))).mono ?_; rintro e w3 ⟨rfl, k3, b3, r3⟩)
            | (go_at_call 26; refine (tells_any a c p q rp g N (doF f N d a c) _ (b3.keep (S := Nope) (by first | exact Keep.refl Nope _ | exact (Keep.refl Nope _).drew) (fun h => h) (fun h => h)) (r3.keep (S := Nope) (by first | exact Keep.refl Nope _ | exact (Keep.refl Nope _).drew) (fun h => h) (fun h => h)) ha0.out).mono ?_; rintro e w4 ⟨rfl, k4⟩))
        clear x0 x1 x2
        go_wp2
        refine ⟨⟨j + 1, p, q, _, by omega, rfl, by go_num, b3.keep k4 (fun h => h) (fun h => h), r3.keep k4 (fun h => h) (fun h => h), hqw, ?_⟩, by simp only [intOf]; omega⟩
        exact ((hk.trans ((Keep.refl Nope wr).drew) (fun _ _ h => h)).trans k3 (fun t ht h => by rcases h with h | h <;> omega)).trans k4 (fun _ _ h => h)
    · have hjl' : ¬ (j : Int) < len := by omega
      clear HV
      go_wp2_with fail
      refine (Same_any p q rp g N f _ hb hr).mono ?_
      rintro e w3 ⟨rfl, k3⟩
      go_wp2_with (go_at_call 11; refine (alive03 _).mono ?_; rintro e w' ⟨rfl, hk'⟩)
      go_ret
      exact ⟨rfl, (hk.trans k3 (fun _ _ h => h)).trans hk' (fun _ _ h => h)⟩

end Go.Proofs.Ytpjcgjbobljaeaa
