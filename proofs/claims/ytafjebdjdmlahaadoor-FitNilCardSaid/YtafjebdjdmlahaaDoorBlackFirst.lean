/-
  First of package black: the least place with room.
-/
import Derived.Test.YtafjebdjdmlahaaDoorBlackTurn
namespace Go.Proofs.YtafjebdjdmlahaaDoor
open Go.RowKit
set_option linter.unusedVariables false

/-- Is there room for k at g? -/
def roomB (f : Nat → Bool) (k g : Nat) : Bool := (List.range' g k).all fun t => !f t

theorem roomB_yes {f : Nat → Bool} {k g : Nat} (h : ∀ t, g ≤ t → t < g + k → f t = false) : roomB f k g = true := by
  rw [roomB, List.all_eq_true]
  intro t ht
  rw [List.mem_range'_1] at ht
  rw [h t ht.1 ht.2]; rfl

theorem roomB_no {f : Nat → Bool} {k g t : Nat} (h1 : g ≤ t) (h2 : t < g + k) (h3 : f t = true) : roomB f k g = false := by
  rw [roomB, List.all_eq_false]
  exact ⟨t, by rw [List.mem_range'_1]; exact ⟨h1, h2⟩, by rw [h3]; simp⟩

/-- What First answers. -/
def firstI (f : Nat → Bool) (n : Nat) (a z k : Int) : Option Nat :=
  if 1 ≤ k ∧ k ≤ n then nextB (roomB f k.toNat) ((max (min z n) 0).toNat + 1 - k.toNat) a.toNat else none

theorem First_nil (a z k : Int) (w : World) : Calls Tryd.prog 42 #[.pointer none, .int .i64 a, .int .i64 z, .int .i64 k] w fun e w' => e = .returned (optV none) ∧ w = w' := by
  go_enter Tryd.func42, Tryd.ntmps42
  go_wp2
  go_ret2
  exact ⟨rfl, rfl⟩

theorem First_no (a z k : Int) (b p0 q0 p1 q1 n : Nat) (f0 f1 : Nat → Bool) (w : World) (h : BlackAt w b p0 q0 p1 q1 f0 f1 n) (hk : ¬ (1 ≤ k ∧ k ≤ n)) :
    Calls Tryd.prog 42 #[.pointer (some ⟨b, 0, none⟩), .int .i64 a, .int .i64 z, .int .i64 k] w fun e w' => e = .returned (optV none) ∧ w = w' := by
  obtain ⟨c0, c1, c2⟩ := cell_of_three h.hb
  by_cases h1 : k < 1
  · go_enter Tryd.func42, Tryd.ntmps42
    go_wp2
    go_ret2
    exact ⟨rfl, rfl⟩
  · have h2 : (n : Int) < k := by omega
    clear hk
    go_enter Tryd.func42, Tryd.ntmps42
    go_wp2
    go_ret2
    exact ⟨rfl, rfl⟩

/-- The rounds of First, behind the limits: X is the upper limit as it stands in the frame. -/
theorem room_step {f : Nat → Bool} {n k T s κ : Nat} (hk : 0 < k) (hT : T ≤ n) (hall : ∀ g, s ≤ g → g < κ → roomB f k g = false) (hs : s ≤ κ) (hκ : κ + k ≤ T) :
    (∀ a, nextB f n κ = some a → κ + k ≤ a → nextB (roomB f k) (T + 1 - k) s = some κ) ∧ (nextB f n κ = none → nextB (roomB f k) (T + 1 - k) s = some κ) ∧
      (∀ a, nextB f n κ = some a → a < κ + k → κ ≤ a ∧ a < n ∧ ∀ g, s ≤ g → g < a + 1 → roomB f k g = false) := by
  refine ⟨fun a ha hak => ?_, fun ha => ?_, fun a ha hak => ?_⟩
  · rcases nextB_spec f n κ with ⟨j, h1, h2, h3, h4, h5⟩ | ⟨h1, _⟩
    · rw [h1] at ha
      obtain rfl : j = a := Option.some.inj ha
      exact nextB_some hs (by omega) (roomB_yes (fun t u v => h5 t u (by omega))) hall
    · rw [h1] at ha; cases ha
  · rcases nextB_spec f n κ with ⟨j, h1, _⟩ | ⟨_, h2⟩
    · rw [h1] at ha; cases ha
    · exact nextB_some hs (by omega) (roomB_yes (fun t u v => h2 t u (by omega))) hall
  · rcases nextB_spec f n κ with ⟨j, h1, h2, h3, h4, h5⟩ | ⟨h1, _⟩
    · rw [h1] at ha
      obtain rfl : j = a := Option.some.inj ha
      refine ⟨h2, h3, fun g u v => ?_⟩
      by_cases e : g < κ
      · exact hall g u e
      · exact roomB_no (t := j) (by omega) (by omega) h4
    · rw [h1] at ha; cases ha

set_option maxHeartbeats 4000000 in
theorem First_mid (a : Int) (T s k : Nat) (hsa : (a < 0 ∧ s = 0) ∨ (0 ≤ a ∧ a = s)) (b p0 q0 p1 q1 n : Nat) (f0 f1 f : Nat → Bool) (hf : (fun j => f0 j || f1 j) = f) (w : World) (h : BlackAt w b p0 q0 p1 q1 f0 f1 n) (hk0 : 0 < k) (hkn : k ≤ n) (hT : T ≤ n) :
    Calls Tryd.prog 42 #[.pointer (some ⟨b, 0, none⟩), .int .i64 a, .int .i64 (T : Nat), .int .i64 (k : Nat)] w fun e w' => e = .returned (optV (nextB (roomB f k) (T + 1 - k) s)) ∧ Keep Nope w w' := by
  obtain ⟨c0, c1, c2⟩ := cell_of_three h.hb
  have hn := h.h0.small'
  have next : ∀ (i : Int) (W : World), Keep Nope w W → Calls Tryd.prog 66 #[.pointer (some ⟨b, 0, none⟩), .int .i64 i] W fun e w' => e = .returned (optV (nextB f n i.toNat)) ∧ Keep Nope W w' := by
    intro i W k
    rw [← hf]
    exact bnext_at i b p0 q0 p1 q1 n f0 f1 W (h.keepN k)
  have NX : Seal _ := ⟨next⟩
  clear hf next
  have t1 : ¬ (k : Int) < 1 := by omega
  have t2 : ¬ (n : Int) < k := by omega
  have t3 : (T : Int) ≤ n := by omega
  rcases hsa with ⟨h0, hs⟩ | ⟨h0, hs⟩
  all_goals
    have HS : Seal _ := ⟨hs⟩
    clear hs
    go_enter Tryd.func42, Tryd.ntmps42
    go_wp2_with fail
    go_loopw [10] (fun y wr => ∃ κ : Nat, y = .int .i64 (κ : Nat) ∧ s ≤ κ ∧ Seal (∀ g, s ≤ g → g < κ → roomB f k g = false) ∧ Keep Nope w wr) (fun y _ => n + 1 - (intOf y).toNat)
    case atStart => exact ⟨s, by rw [HS.out]; first | done | rfl, by omega, ⟨fun g u v => by omega⟩, Keep.refl _ _⟩
    case round =>
      obtain ⟨κ, rfl, hsκ, hall, hkr⟩ := hrel
      by_cases hκ : κ + k ≤ T
      · have hκ' : (κ : Int) ≤ (T : Int) - k := by omega
        obtain ⟨st1, st2, st3⟩ := room_step (n := n) hk0 hT hall.out hsκ hκ
        have S1 : Seal _ := ⟨st1⟩
        have S2 : Seal _ := ⟨st2⟩
        have S3 : Seal _ := ⟨st3⟩
        clear st1 st2 st3
        go_wp2_with fail
        refine (NX.out _ _ hkr).mono ?_
        rintro e w1 ⟨rfl, k1⟩
        rw [Int.toNat_natCast]
        cases ha : nextB f n κ with
        | none =>
          have H1 : Seal _ := ⟨S2.out ha⟩
          clear ha
          dsimp only [optV, Option.getD_none, Option.isSome_none]
          go_wp2
          go_ret2
          exact ⟨by rw [H1.out]; rfl, hkr.trans k1 (fun _ _ h => h)⟩
        | some a =>
          dsimp only [optV, Option.getD_some, Option.isSome_some]
          by_cases hak : κ + k ≤ a
          · have H1 : Seal _ := ⟨S1.out a ha hak⟩
            have hak' : (k : Int) ≤ (a : Int) - κ := by omega
            have han : a ≤ 65536 := by
              rcases nextB_spec f n κ with ⟨j, h1, _, h3, _⟩ | ⟨h1, _⟩
              · rw [h1] at ha; have := Option.some.inj ha; omega
              · rw [h1] at ha; cases ha
            clear ha
            go_wp2
            go_ret2
            exact ⟨by rw [H1.out]; rfl, hkr.trans k1 (fun _ _ h => h)⟩
          · obtain ⟨q1', q2', q3'⟩ := S3.out a ha (by omega)
            have Q3 : Seal _ := ⟨q3'⟩
            have hak' : ¬ (k : Int) ≤ (a : Int) - κ := by omega
            clear ha q3'
            go_wp2
            exact ⟨⟨a + 1, by go_num, by omega, Q3, hkr.trans k1 (fun _ _ h => h)⟩, by simp only [intOf]; omega⟩
      · have hκ' : ¬ (κ : Int) ≤ (T : Int) - k := by omega
        have H1 : Seal (nextB (roomB f k) (T + 1 - k) s = none) := ⟨nextB_none (fun t u v => hall.out t u (by omega))⟩
        go_wp2
        go_ret2
        exact ⟨by rw [H1.out]; rfl, hkr⟩

set_option maxHeartbeats 4000000 in
theorem First_high (a z : Int) (s k : Nat) (hsa : (a < 0 ∧ s = 0) ∨ (0 ≤ a ∧ a = s)) (b p0 q0 p1 q1 n : Nat) (f0 f1 f : Nat → Bool) (hf : (fun j => f0 j || f1 j) = f) (w : World) (h : BlackAt w b p0 q0 p1 q1 f0 f1 n) (hk0 : 0 < k) (hkn : k ≤ n) (hz : (n : Int) < z) :
    Calls Tryd.prog 42 #[.pointer (some ⟨b, 0, none⟩), .int .i64 a, .int .i64 z, .int .i64 (k : Nat)] w fun e w' => e = .returned (optV (nextB (roomB f k) (n + 1 - k) s)) ∧ Keep Nope w w' := by
  obtain ⟨c0, c1, c2⟩ := cell_of_three h.hb
  have hn := h.h0.small'
  have next : ∀ (i : Int) (W : World), Keep Nope w W → Calls Tryd.prog 66 #[.pointer (some ⟨b, 0, none⟩), .int .i64 i] W fun e w' => e = .returned (optV (nextB f n i.toNat)) ∧ Keep Nope W w' := by
    intro i W k
    rw [← hf]
    exact bnext_at i b p0 q0 p1 q1 n f0 f1 W (h.keepN k)
  have NX : Seal _ := ⟨next⟩
  clear hf next
  have t1 : ¬ (k : Int) < 1 := by omega
  have t2 : ¬ (n : Int) < k := by omega
  have t3 : ¬ z ≤ (n : Int) := by omega
  rcases hsa with ⟨h0, hs⟩ | ⟨h0, hs⟩
  all_goals
    have HS : Seal _ := ⟨hs⟩
    clear hs
    go_enter Tryd.func42, Tryd.ntmps42
    go_wp2_with fail
    go_loopw [10] (fun y wr => ∃ κ : Nat, y = .int .i64 (κ : Nat) ∧ s ≤ κ ∧ Seal (∀ g, s ≤ g → g < κ → roomB f k g = false) ∧ Keep Nope w wr) (fun y _ => n + 1 - (intOf y).toNat)
    case atStart => exact ⟨s, by rw [HS.out]; first | done | rfl, by omega, ⟨fun g u v => by omega⟩, Keep.refl _ _⟩
    case round =>
      obtain ⟨κ, rfl, hsκ, hall, hkr⟩ := hrel
      by_cases hκ : κ + k ≤ n
      · have hκ' : (κ : Int) ≤ (n : Int) - k := by omega
        obtain ⟨st1, st2, st3⟩ := room_step (n := n) hk0 (Nat.le_refl n) hall.out hsκ hκ
        have S1 : Seal _ := ⟨st1⟩
        have S2 : Seal _ := ⟨st2⟩
        have S3 : Seal _ := ⟨st3⟩
        clear st1 st2 st3
        go_wp2_with fail
        refine (NX.out _ _ hkr).mono ?_
        rintro e w1 ⟨rfl, k1⟩
        rw [Int.toNat_natCast]
        cases ha : nextB f n κ with
        | none =>
          have H1 : Seal _ := ⟨S2.out ha⟩
          clear ha
          dsimp only [optV, Option.getD_none, Option.isSome_none]
          go_wp2
          go_ret2
          exact ⟨by rw [H1.out]; rfl, hkr.trans k1 (fun _ _ h => h)⟩
        | some a =>
          dsimp only [optV, Option.getD_some, Option.isSome_some]
          by_cases hak : κ + k ≤ a
          · have H1 : Seal _ := ⟨S1.out a ha hak⟩
            have hak' : (k : Int) ≤ (a : Int) - κ := by omega
            have han : a ≤ 65536 := by
              rcases nextB_spec f n κ with ⟨j, h1, _, h3, _⟩ | ⟨h1, _⟩
              · rw [h1] at ha; have := Option.some.inj ha; omega
              · rw [h1] at ha; cases ha
            clear ha
            go_wp2
            go_ret2
            exact ⟨by rw [H1.out]; rfl, hkr.trans k1 (fun _ _ h => h)⟩
          · obtain ⟨q1', q2', q3'⟩ := S3.out a ha (by omega)
            have Q3 : Seal _ := ⟨q3'⟩
            have hak' : ¬ (k : Int) ≤ (a : Int) - κ := by omega
            clear ha q3'
            go_wp2
            exact ⟨⟨a + 1, by go_num, by omega, Q3, hkr.trans k1 (fun _ _ h => h)⟩, by simp only [intOf]; omega⟩
      · have hκ' : ¬ (κ : Int) ≤ (n : Int) - k := by omega
        have H1 : Seal (nextB (roomB f k) (n + 1 - k) s = none) := ⟨nextB_none (fun t u v => hall.out t u (by omega))⟩
        go_wp2
        go_ret2
        exact ⟨by rw [H1.out]; rfl, hkr⟩

set_option maxHeartbeats 4000000 in
theorem First_low (a z : Int) (s k : Nat) (hsa : (a < 0 ∧ s = 0) ∨ (0 ≤ a ∧ a = s)) (b p0 q0 p1 q1 n : Nat) (f0 f1 f : Nat → Bool) (hf : (fun j => f0 j || f1 j) = f) (w : World) (h : BlackAt w b p0 q0 p1 q1 f0 f1 n) (hk0 : 0 < k) (hkn : k ≤ n) (hz : z < 0) :
    Calls Tryd.prog 42 #[.pointer (some ⟨b, 0, none⟩), .int .i64 a, .int .i64 z, .int .i64 (k : Nat)] w fun e w' => e = .returned (optV (nextB (roomB f k) (0 + 1 - k) s)) ∧ Keep Nope w w' := by
  obtain ⟨c0, c1, c2⟩ := cell_of_three h.hb
  have hn := h.h0.small'
  have next : ∀ (i : Int) (W : World), Keep Nope w W → Calls Tryd.prog 66 #[.pointer (some ⟨b, 0, none⟩), .int .i64 i] W fun e w' => e = .returned (optV (nextB f n i.toNat)) ∧ Keep Nope W w' := by
    intro i W k
    rw [← hf]
    exact bnext_at i b p0 q0 p1 q1 n f0 f1 W (h.keepN k)
  have NX : Seal _ := ⟨next⟩
  clear hf next
  have t1 : ¬ (k : Int) < 1 := by omega
  have t2 : ¬ (n : Int) < k := by omega
  have t3 : z ≤ (n : Int) := by omega
  have t4 : ¬ 0 ≤ z := by omega
  rcases hsa with ⟨h0, hs⟩ | ⟨h0, hs⟩
  all_goals
    have HS : Seal _ := ⟨hs⟩
    clear hs
    go_enter Tryd.func42, Tryd.ntmps42
    go_wp2_with fail
    go_loopw [10] (fun y wr => ∃ κ : Nat, y = .int .i64 (κ : Nat) ∧ s ≤ κ ∧ Seal (∀ g, s ≤ g → g < κ → roomB f k g = false) ∧ Keep Nope w wr) (fun y _ => n + 1 - (intOf y).toNat)
    case atStart => exact ⟨s, by rw [HS.out]; first | done | rfl, by omega, ⟨fun g u v => by omega⟩, Keep.refl _ _⟩
    case round =>
      obtain ⟨κ, rfl, hsκ, hall, hkr⟩ := hrel
      have hκ' : ¬ (κ : Int) ≤ -(k : Int) := by omega
      have hκ'' : ¬ (κ : Int) ≤ (0 : Int) - k := by omega
      have H1 : Seal (nextB (roomB f k) (0 + 1 - k) s = none) := ⟨nextB_none (fun t u v => by omega)⟩
      go_wp2
      go_ret2
      exact ⟨by rw [H1.out]; rfl, hkr⟩

theorem First_int (a z k : Int) (b p0 q0 p1 q1 n : Nat) (f0 f1 : Nat → Bool) (w : World) (h : BlackAt w b p0 q0 p1 q1 f0 f1 n) :
    Calls Tryd.prog 42 #[.pointer (some ⟨b, 0, none⟩), .int .i64 a, .int .i64 z, .int .i64 k] w fun e w' => e = .returned (optV (firstI (fun j => f0 j || f1 j) n a z k)) ∧ Keep Nope w w' := by
  by_cases hk : 1 ≤ k ∧ k ≤ n
  · obtain ⟨K, rfl⟩ := Int.eq_ofNat_of_zero_le (show 0 ≤ k by omega)
    rw [firstI, if_pos hk, Int.toNat_natCast]
    have hs : (a < 0 ∧ a.toNat = 0) ∨ (0 ≤ a ∧ a = a.toNat) := by omega
    by_cases h1 : z < 0
    · rw [show (max (min z (n : Int)) 0).toNat = 0 by omega]
      exact First_low a z a.toNat K hs b p0 q0 p1 q1 n f0 f1 _ rfl w h (by omega) (by omega) h1
    by_cases h2 : z ≤ n
    · obtain ⟨T, rfl⟩ := Int.eq_ofNat_of_zero_le (show 0 ≤ z by omega)
      rw [show (max (min (T : Int) (n : Int)) 0).toNat = T by omega]
      exact First_mid a T a.toNat K hs b p0 q0 p1 q1 n f0 f1 _ rfl w h (by omega) (by omega) (by omega)
    · rw [show (max (min z (n : Int)) 0).toNat = n by omega]
      exact First_high a z a.toNat K hs b p0 q0 p1 q1 n f0 f1 _ rfl w h (by omega) (by omega) (by omega)
  · rw [firstI, if_neg hk]
    exact (First_no a z k b p0 q0 p1 q1 n f0 f1 w h hk).mono fun _ _ ⟨e1, e2⟩ => ⟨e1, e2 ▸ Keep.refl _ _⟩

end Go.Proofs.YtafjebdjdmlahaaDoor
