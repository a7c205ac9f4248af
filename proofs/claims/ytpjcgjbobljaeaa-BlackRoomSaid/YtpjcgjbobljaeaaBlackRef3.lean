/-
  The document's row of ages, walked: First.
-/
import Derived.Test.YtpjcgjbobljaeaaBlackRef2
namespace Go.Proofs.Ytpjcgjbobljaeaa
open Go.RowKit
set_option linter.unusedVariables false

theorem roomB_zero (f : Nat → Bool) (g : Nat) : roomB f 0 g = true := by rw [roomB]; rfl

theorem roomB_snoc (f : Nat → Bool) (j g : Nat) : roomB f (j + 1) g = (roomB f j g && !f (g + j)) := by
  rw [roomB, roomB, List.range'_concat, List.all_append, Nat.one_mul]
  simp

theorem LFirst_no (a z k : Int) (n p g : Nat) (L : Nat → Nat) (w : World) (h : LeftAt w p g L n) (hk : ¬ (1 ≤ k ∧ k ≤ n)) :
    Calls Try.prog 42 #[.pointer (some ⟨p, 0, none⟩), .int .i64 a, .int .i64 z, .int .i64 k] w fun e w' => e = .returned (optV none) ∧ w = w' := by
  obtain ⟨cap, hc⟩ := h.head
  have hk' : k < 1 ∨ (1 ≤ k ∧ (n : Int) < k) := by omega
  clear hk
  rcases hk' with h1 | ⟨h1, h2⟩
  all_goals
    rcases (show (z < 0 ∧ z ≤ (n : Int)) ∨ (0 ≤ z ∧ z ≤ (n : Int)) ∨ (¬ z ≤ (n : Int) ∧ 0 ≤ z) by omega) with ⟨h3, h4⟩ | ⟨h3, h4⟩ | ⟨h3, h4⟩
    all_goals
      go_enter Try.func42, Try.ntmps42
      go_wp2
      go_ret2
      exact ⟨rfl, rfl⟩

set_option maxHeartbeats 4000000 in
theorem LFirst_mid (a : Int) (T s k : Nat) (hsa : (a < 0 ∧ s = 0) ∨ (0 ≤ a ∧ a = s)) (n p g : Nat) (L : Nat → Nat) (w : World) (h : LeftAt w p g L n) (hk0 : 0 < k) (hkn : k ≤ n) (hT : T ≤ n) :
    Calls Try.prog 42 #[.pointer (some ⟨p, 0, none⟩), .int .i64 a, .int .i64 (T : Nat), .int .i64 (k : Nat)] w fun e w' => e = .returned (optV (nextB (roomB (posB L) k) (T + 1 - k) s)) ∧ w = w' := by
  obtain ⟨cap, hc⟩ := h.head
  have hn := h.small
  obtain ⟨f, hf⟩ : ∃ f, f = posB L := ⟨_, rfl⟩
  have cells : ∀ j, j < n → w.cell? ⟨g, j, none⟩ = some (.int .i64 (L j : Nat)) ∧ f j = decide (0 < L j) := fun j hj => ⟨h.at_ hj, by rw [hf]; rfl⟩
  have CS : Seal _ := ⟨cells⟩
  rw [← hf]
  clear cells hf h
  have t1 : ¬ (k : Int) < 1 := by omega
  have t2 : ¬ (n : Int) < k := by omega
  have t3 : (T : Int) ≤ n := by omega
  rcases hsa with ⟨h0, hs⟩ | ⟨h0, hs⟩
  all_goals
    have HS : Seal _ := ⟨hs⟩
    clear hs
    go_enter Try.func42, Try.ntmps42
    go_wp2_with fail
    go_loop [10] (fun y => ∃ κ : Nat, y = .int .i64 (κ : Nat) ∧ s ≤ κ ∧ Seal (∀ t, s ≤ t → t < κ → roomB f k t = false)) (fun y => n + 1 - (intOf y).toNat)
    case atStart => exact ⟨s, by rw [HS.out]; first | done | rfl, by omega, ⟨fun g u v => by omega⟩⟩
    case round =>
      obtain ⟨κ, rfl, hsκ, hall⟩ := hrel
      by_cases hκ : κ + k ≤ T
      · have hκ' : (κ : Int) ≤ (T : Int) - k := by omega
        go_wp2_with fail
        go_loop [11, 12] (fun b y => ∃ j : Nat, j ≤ k ∧ y = .int .i64 ((κ + j : Nat) : Int) ∧ b = .bool (roomB f j κ)) (fun _ y => n + 1 - (intOf y).toNat)
        case atStart => exact ⟨0, by omega, rfl, by rw [roomB_zero]⟩
        case round =>
          obtain ⟨j, hj, rfl, rfl⟩ := hrel
          by_cases hjk : j < k
          · have hjk' : ((κ + j : Nat) : Int) < (κ : Int) + (k : Int) := by omega
            obtain ⟨gc, gf⟩ := CS.out (κ + j) (by omega)
            obtain ⟨v, hv⟩ : ∃ v, v = L (κ + j) := ⟨_, rfl⟩
            rw [← hv] at gc gf
            have hsn := roomB_snoc f j κ
            rw [gf] at hsn
            have HSN : Seal _ := ⟨hsn⟩
            clear hv gf hsn
            cases hr : roomB f j κ with
            | false =>
              have hr' : Seal (roomB f (j + 1) κ = false) := ⟨by rw [HSN.out, hr]; rfl⟩
              clear hr
              go_wp2
              exact ⟨⟨j + 1, by omega, by go_num, by rw [hr'.out]⟩, by simp only [intOf]; omega⟩
            | true =>
              by_cases hv0 : v = 0
              · subst hv0
                have hr' : Seal (roomB f (j + 1) κ = true) := ⟨by rw [HSN.out, hr]; rfl⟩
                clear hr
                go_wp2
                exact ⟨⟨j + 1, by omega, by go_num, by rw [hr'.out]⟩, by simp only [intOf]; omega⟩
              · have hv1 : ¬ (v : Int) = 0 := by omega
                have hr' : Seal (roomB f (j + 1) κ = false) := ⟨by rw [HSN.out, hr, decide_eq_true (show 0 < v by omega)]; rfl⟩
                have hvb : Seal (((v : Int) == 0) = false) := ⟨by simp; omega⟩
                clear hr
                go_wp2
                exact ⟨⟨j + 1, by omega, by go_num, by rw [hr'.out, hvb.out]⟩, by simp only [intOf]; omega⟩
          · have hjk' : ¬ ((κ + j : Nat) : Int) < (κ : Int) + (k : Int) := by omega
            obtain rfl : j = k := by omega
            cases hr : roomB f j κ with
            | false =>
              have hall' : Seal (∀ t, s ≤ t → t < κ + 1 → roomB f j t = false) := ⟨fun t u v => by
                by_cases e : t = κ
                · rw [e]; exact hr
                · exact hall.out t u (by omega)⟩
              clear hr
              go_wp2
              exact ⟨⟨κ + 1, by go_num, by omega, hall'⟩, by simp only [intOf]; omega⟩
            | true =>
              have H1 : Seal (nextB (roomB f j) (T + 1 - j) s = some κ) := ⟨nextB_some hsκ (by omega) hr hall.out⟩
              clear hr
              go_wp2
              go_ret2
              exact ⟨by rw [H1.out]; rfl, rfl⟩
      · have hκ' : ¬ (κ : Int) ≤ (T : Int) - k := by omega
        have H1 : Seal (nextB (roomB f k) (T + 1 - k) s = none) := ⟨nextB_none (fun t u v => hall.out t u (by omega))⟩
        go_wp2
        go_ret2
        exact ⟨by rw [H1.out]; rfl, rfl⟩

set_option maxHeartbeats 4000000 in
theorem LFirst_high (a z : Int) (s k : Nat) (hsa : (a < 0 ∧ s = 0) ∨ (0 ≤ a ∧ a = s)) (n p g : Nat) (L : Nat → Nat) (w : World) (h : LeftAt w p g L n) (hk0 : 0 < k) (hkn : k ≤ n) (hT : (n : Int) < z) :
    Calls Try.prog 42 #[.pointer (some ⟨p, 0, none⟩), .int .i64 a, .int .i64 z, .int .i64 (k : Nat)] w fun e w' => e = .returned (optV (nextB (roomB (posB L) k) (n + 1 - k) s)) ∧ w = w' := by
  obtain ⟨cap, hc⟩ := h.head
  have hn := h.small
  obtain ⟨f, hf⟩ : ∃ f, f = posB L := ⟨_, rfl⟩
  have cells : ∀ j, j < n → w.cell? ⟨g, j, none⟩ = some (.int .i64 (L j : Nat)) ∧ f j = decide (0 < L j) := fun j hj => ⟨h.at_ hj, by rw [hf]; rfl⟩
  have CS : Seal _ := ⟨cells⟩
  rw [← hf]
  clear cells hf h
  have t1 : ¬ (k : Int) < 1 := by omega
  have t2 : ¬ (n : Int) < k := by omega
  have t3 : ¬ z ≤ (n : Int) := by omega
  rcases hsa with ⟨h0, hs⟩ | ⟨h0, hs⟩
  all_goals
    have HS : Seal _ := ⟨hs⟩
    clear hs
    go_enter Try.func42, Try.ntmps42
    go_wp2_with fail
    go_loop [10] (fun y => ∃ κ : Nat, y = .int .i64 (κ : Nat) ∧ s ≤ κ ∧ Seal (∀ t, s ≤ t → t < κ → roomB f k t = false)) (fun y => n + 1 - (intOf y).toNat)
    case atStart => exact ⟨s, by rw [HS.out]; first | done | rfl, by omega, ⟨fun g u v => by omega⟩⟩
    case round =>
      obtain ⟨κ, rfl, hsκ, hall⟩ := hrel
      by_cases hκ : κ + k ≤ n
      · have hκ' : (κ : Int) ≤ (n : Int) - k := by omega
        go_wp2_with fail
        go_loop [11, 12] (fun b y => ∃ j : Nat, j ≤ k ∧ y = .int .i64 ((κ + j : Nat) : Int) ∧ b = .bool (roomB f j κ)) (fun _ y => n + 1 - (intOf y).toNat)
        case atStart => exact ⟨0, by omega, rfl, by rw [roomB_zero]⟩
        case round =>
          obtain ⟨j, hj, rfl, rfl⟩ := hrel
          by_cases hjk : j < k
          · have hjk' : ((κ + j : Nat) : Int) < (κ : Int) + (k : Int) := by omega
            obtain ⟨gc, gf⟩ := CS.out (κ + j) (by omega)
            obtain ⟨v, hv⟩ : ∃ v, v = L (κ + j) := ⟨_, rfl⟩
            rw [← hv] at gc gf
            have hsn := roomB_snoc f j κ
            rw [gf] at hsn
            have HSN : Seal _ := ⟨hsn⟩
            clear hv gf hsn
            cases hr : roomB f j κ with
            | false =>
              have hr' : Seal (roomB f (j + 1) κ = false) := ⟨by rw [HSN.out, hr]; rfl⟩
              clear hr
              go_wp2
              exact ⟨⟨j + 1, by omega, by go_num, by rw [hr'.out]⟩, by simp only [intOf]; omega⟩
            | true =>
              by_cases hv0 : v = 0
              · subst hv0
                have hr' : Seal (roomB f (j + 1) κ = true) := ⟨by rw [HSN.out, hr]; rfl⟩
                clear hr
                go_wp2
                exact ⟨⟨j + 1, by omega, by go_num, by rw [hr'.out]⟩, by simp only [intOf]; omega⟩
              · have hv1 : ¬ (v : Int) = 0 := by omega
                have hr' : Seal (roomB f (j + 1) κ = false) := ⟨by rw [HSN.out, hr, decide_eq_true (show 0 < v by omega)]; rfl⟩
                have hvb : Seal (((v : Int) == 0) = false) := ⟨by simp; omega⟩
                clear hr
                go_wp2
                exact ⟨⟨j + 1, by omega, by go_num, by rw [hr'.out, hvb.out]⟩, by simp only [intOf]; omega⟩
          · have hjk' : ¬ ((κ + j : Nat) : Int) < (κ : Int) + (k : Int) := by omega
            obtain rfl : j = k := by omega
            cases hr : roomB f j κ with
            | false =>
              have hall' : Seal (∀ t, s ≤ t → t < κ + 1 → roomB f j t = false) := ⟨fun t u v => by
                by_cases e : t = κ
                · rw [e]; exact hr
                · exact hall.out t u (by omega)⟩
              clear hr
              go_wp2
              exact ⟨⟨κ + 1, by go_num, by omega, hall'⟩, by simp only [intOf]; omega⟩
            | true =>
              have H1 : Seal (nextB (roomB f j) (n + 1 - j) s = some κ) := ⟨nextB_some hsκ (by omega) hr hall.out⟩
              clear hr
              go_wp2
              go_ret2
              exact ⟨by rw [H1.out]; rfl, rfl⟩
      · have hκ' : ¬ (κ : Int) ≤ (n : Int) - k := by omega
        have H1 : Seal (nextB (roomB f k) (n + 1 - k) s = none) := ⟨nextB_none (fun t u v => hall.out t u (by omega))⟩
        go_wp2
        go_ret2
        exact ⟨by rw [H1.out]; rfl, rfl⟩

set_option maxHeartbeats 4000000 in
theorem LFirst_low (a z : Int) (s k : Nat) (hsa : (a < 0 ∧ s = 0) ∨ (0 ≤ a ∧ a = s)) (n p g : Nat) (L : Nat → Nat) (w : World) (h : LeftAt w p g L n) (hk0 : 0 < k) (hkn : k ≤ n) (hz : z < 0) :
    Calls Try.prog 42 #[.pointer (some ⟨p, 0, none⟩), .int .i64 a, .int .i64 z, .int .i64 (k : Nat)] w fun e w' => e = .returned (optV (nextB (roomB (posB L) k) (0 + 1 - k) s)) ∧ w = w' := by
  obtain ⟨cap, hc⟩ := h.head
  have hn := h.small
  have t1 : ¬ (k : Int) < 1 := by omega
  have t2 : ¬ (n : Int) < k := by omega
  have t3 : z ≤ (n : Int) := by omega
  have t4 : ¬ 0 ≤ z := by omega
  rcases hsa with ⟨h0, hs⟩ | ⟨h0, hs⟩
  all_goals
    have HS : Seal _ := ⟨hs⟩
    clear hs
    go_enter Try.func42, Try.ntmps42
    go_wp2_with fail
    go_loop [10] (fun y => ∃ κ : Nat, y = .int .i64 (κ : Nat) ∧ s ≤ κ) (fun y => 0)
    case atStart => exact ⟨s, by rw [HS.out]; first | done | rfl, by omega⟩
    case round =>
      obtain ⟨κ, rfl, hsκ⟩ := hrel
      have hκ' : ¬ (κ : Int) ≤ -(k : Int) := by omega
      have hκ'' : ¬ (κ : Int) ≤ (0 : Int) - k := by omega
      have H1 : Seal (nextB (roomB (posB L) k) (0 + 1 - k) s = none) := ⟨nextB_none (fun t u v => by omega)⟩
      go_wp2
      go_ret2
      exact ⟨by rw [H1.out]; rfl, rfl⟩

theorem LFirst_int (a z k : Int) (n p g : Nat) (L : Nat → Nat) (w : World) (h : LeftAt w p g L n) :
    Calls Try.prog 42 #[.pointer (some ⟨p, 0, none⟩), .int .i64 a, .int .i64 z, .int .i64 k] w fun e w' => e = .returned (optV (firstI (posB L) n a z k)) ∧ w = w' := by
  by_cases hk : 1 ≤ k ∧ k ≤ n
  · obtain ⟨K, rfl⟩ := Int.eq_ofNat_of_zero_le (show 0 ≤ k by omega)
    rw [firstI, if_pos hk, Int.toNat_natCast]
    have hs : (a < 0 ∧ a.toNat = 0) ∨ (0 ≤ a ∧ a = a.toNat) := by omega
    by_cases h1 : z < 0
    · rw [show (max (min z (n : Int)) 0).toNat = 0 by omega]
      exact LFirst_low a z a.toNat K hs n p g L w h (by omega) (by omega) h1
    by_cases h2 : z ≤ n
    · obtain ⟨T, rfl⟩ := Int.eq_ofNat_of_zero_le (show 0 ≤ z by omega)
      rw [show (max (min (T : Int) (n : Int)) 0).toNat = T by omega]
      exact LFirst_mid a T a.toNat K hs n p g L w h (by omega) (by omega) (by omega)
    · rw [show (max (min z (n : Int)) 0).toNat = n by omega]
      exact LFirst_high a z a.toNat K hs n p g L w h (by omega) (by omega) (by omega)
  · rw [firstI, if_neg hk]
    exact LFirst_no a z k n p g L w h hk

end Go.Proofs.Ytpjcgjbobljaeaa
