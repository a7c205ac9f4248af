/-
  BlackRoom: the law's walk.
-/
import Derived.Test.YtpjcgjbobljaeaaBlackAges
namespace Go.Proofs.Ytpjcgjbobljaeaa
open Go.RowKit
set_option linter.unusedVariables false

/-- What stands at the first loop's head. -/
def RoomAt (w : World) (len N b : Nat) (y : Value) (wr : World) : Prop :=
  ∃ (j p0 q0 p1 q1 : Nat) (f0 f1 : Nat → Bool), j ≤ len ∧ y = .int .i64 (j : Nat) ∧ BlackAt wr b p0 q0 p1 q1 f0 f1 N ∧ w.heap.size ≤ q0 ∧ Keep Nope w wr

theorem firstI_next (F : Nat → Bool) (N K : Nat) (a z : Int) (E s : Nat) (hK : 1 ≤ K) (hE : E = (max (min z N) 0).toNat) (hs : s = a.toNat) : firstI F N a z (K : Nat) = nextB (roomB F K) (E + 1 - K) s := by
  rw [firstI, hE, hs]
  by_cases h : 1 ≤ (K : Int) ∧ (K : Int) ≤ N
  · rw [if_pos h, Int.toNat_natCast]
  · rw [if_neg h]
    exact (nextB_none (fun t u v => by omega)).symm

theorem hasI_at {F G : Nat → Bool} {N t : Nat} (h : t < N) : (hasI F N (t : Nat) || hasI G N (t : Nat)) = (F t || G t) := by
  simp only [hasI]
  rw [decide_eq_true (show 0 ≤ (t : Int) ∧ (t : Int) < N by omega)]
  rfl

set_option maxRecDepth 20000 in
set_option maxHeartbeats 16000000 in
theorem broom_walk (n fro to size : Int) (v : Value) (len : Nat) (d : Nat → Int) (u : Nat → Value) (ll : Nat → Nat) (lx : Nat → Nat → Nat → Int) (w : World) (hv : StepsAt w v len d u ll lx) (hlen : len ≤ 17592186044416) :
    Calls Try.prog 8 #[.int .i64 n, v, .int .i64 fro, .int .i64 to, .int .i64 size] w fun e w' => e = .returned (.bool true) ∧ Keep Nope w w' := by
  have HV : Seal _ := ⟨hv⟩
  obtain ⟨va, vc, rfl, -⟩ := hv
  go_enter Try.func8, Try.ntmps8
  go_wp2_with fail
  refine (Heavy_any n _ len d u ll lx w HV.out hlen).mono ?_
  rintro e w' ⟨t, rfl, rfl, ht⟩
  cases t with
  | true =>
    clear ht
    go_wp2_with fail
    refine (alive12 _).mono ?_
    rintro e w' ⟨rfl, hk⟩
    go_wp2
    go_ret
    exact ⟨rfl, hk⟩
  | false =>
    obtain ⟨-, hl100, hll⟩ := ht rfl
    have HLL : Seal _ := ⟨hll⟩
    clear ht hll
    by_cases hn4 : 400 < n
    · go_wp2_with fail
      refine (alive12 _).mono ?_
      rintro e w' ⟨rfl, hk⟩
      go_wp2
      go_ret
      exact ⟨rfl, hk⟩
    by_cases hs1 : size < 1
    · go_wp2_with fail
      refine (alive12 _).mono ?_
      rintro e w' ⟨rfl, hk⟩
      go_wp2
      go_ret
      exact ⟨rfl, hk⟩
    by_cases hs2 : 400 < size
    · go_wp2_with fail
      refine (alive12 _).mono ?_
      rintro e w' ⟨rfl, hk⟩
      go_wp2
      go_ret
      exact ⟨rfl, hk⟩
    obtain ⟨K, rfl⟩ : ∃ K : Nat, size = K := ⟨size.toNat, by omega⟩
    have hK1 : 1 ≤ K := by omega
    have hK2 : K ≤ 400 := by omega
    by_cases hno : ¬ (0 ≤ n ∧ n ≤ 65536)
    · have HN : Seal _ := ⟨hno⟩
      clear hno
      go_wp2_with fail
      refine (BNew_no n w HN.out).mono ?_
      rintro e w1 ⟨rfl, k1⟩
      go_wp2_with fail
      refine (alive12 _).mono ?_
      rintro e w' ⟨rfl, hk⟩
      go_wp2
      go_ret
      exact ⟨rfl, k1.then hk⟩
    obtain ⟨N, rfl⟩ : ∃ N : Nat, n = N := ⟨n.toNat, by omega⟩
    have hN : N ≤ 400 := by omega
    clear hno
    go_wp2_with fail
    refine (BNew_yes N w (by omega)).mono ?_
    rintro e w1 ⟨b, p0, q0, p1, q1, rfl, hbw, hq0, hq1, b1, k1⟩
    go_wp2_with fail
    go_loopw [13] (fun y wr => RoomAt w len N b y wr) (fun y _ => len - (intOf y).toNat)
    case atStart => exact ⟨0, p0, q0, p1, q1, _, _, by omega, rfl, b1, hq0, k1⟩
    case round =>
      obtain ⟨j, p0, q0, p1, q1, f0, f1, hj, rfl, hb, hqw, hk⟩ := hrel
      by_cases hjl : j < len
      · have hjl' : (j : Int) < len := by omega
        obtain ⟨va', vc', e, hx⟩ := HV.out
        injection e with e1 _ e2
        subst e1 e2
        obtain ⟨B, o, rfl, hbl, ax0, ax1, I, -⟩ := hx j hjl
        have hl0 := HLL.out j hjl
        obtain ⟨d0, hd0⟩ : ∃ d0, d0 = d j := ⟨_, rfl⟩
        obtain ⟨u0, hu0⟩ : ∃ u0, u0 = u j := ⟨_, rfl⟩
        obtain ⟨l0, hl0'⟩ : ∃ l0, l0 = ll j := ⟨_, rfl⟩
        obtain ⟨y, hy⟩ : ∃ y, y = lx j := ⟨_, rfl⟩
        rw [← hd0] at ax0
        rw [← hu0] at ax1 I
        rw [← hl0'] at hl0 I
        rw [← hy] at I
        clear hx hd0 hu0 hl0' hy
        have x0 := hk.cell ax0 (fun h => h)
        have x1 := hk.cell ax1 (fun h => h)
        have HUQ : Seal (0 < l0 → u0.ownBlock ≠ some q0) := ⟨fun h => I.own_lt h hqw⟩
        have IR := I.keep hk (fun _ _ h => h)
        have z1 := hk.size
        have K0 : Keep Nope wr wr := Keep.refl _ _
        go_wp2_with fail
        go_region_held3 (fun w' => w'.cell? ⟨B, o + j * 2, none⟩ = some (.int .i64 d0) ∧ w'.cell? ⟨B, o + j * 2 + 1, none⟩ = some u0)
          (first | go_keep | exact ⟨K5.cell ax0 (fun h => h), K5.cell ax1 (fun h => h)⟩ | exact ⟨K2.cell x0 (fun h => h), K2.cell x1 (fun h => h)⟩)
          (first
            | (go_at_call 38; refine (LNew_at N _ (by omega)).mono ?_; rintro e w2 ⟨rp, g, rfl, hrp, hg, r2, k2⟩; have K2 : Keep Nope wr w2 := (by first | exact K0.then k2 | exact K0.drew.then k2 | exact K0.drew.drew.then k2); have hgr : wr.heap.size ≤ g := (by first | exact hg | exact Nat.le_trans (Nat.le_refl _) hg))
            | (go_at_call 37; refine (Does_any d0 u0 l0 y b p0 q0 p1 q1 rp g N f0 f1 _ _ (hb.keepN (by first | exact K2 | exact K2.drew | exact K2.drew.drew)) (LeftAt.keep r2 (S := Nope) (by first | exact Keep.refl Nope _ | exact (Keep.refl Nope _).drew | exact (Keep.refl Nope _).drew.drew) (fun h => h) (fun h => h)) (fun _ => by omega) (IR.keep (S := Nope) (by first | exact K2 | exact K2.drew | exact K2.drew.drew) (fun _ _ h => h)) (fun h => I.own_lt h (by omega)) HUQ.out hl0).mono ?_; rintro e wd ⟨t, pd, qd, p1d, q1d, rfl, -, Bd, -, hqd, kd⟩; have zz := K2.size; have K5 : Keep Nope w wd := (by first | exact (hk.then K2).trans kd (fun i hi h => by omega) | exact (hk.then K2).drew.trans kd (fun i hi h => by omega) | exact (hk.then K2).drew.drew.trans kd (fun i hi h => by omega)); have hqd' : w.heap.size ≤ qd := (by first | omega | (rcases hqd with h | h; exact h ▸ hqw; exact Nat.le_trans (hk.then K2).size h))))
        clear x0 x1
        go_wp2
        exact ⟨⟨j + 1, pd, qd, p1d, q1d, _, _, by omega, by go_num, Bd, hqd', K5⟩, by simp only [intOf]; omega⟩
      · have hjl' : ¬ (j : Int) < len := by omega
        clear HV
        obtain ⟨F, hF⟩ : ∃ F : Nat → Bool, F = fun j => f0 j || f1 j := ⟨_, rfl⟩
        have HF : Seal _ := ⟨hF⟩
        have hfi : Seal (∀ E s : Nat, E = (max (min to (N : Int)) 0).toNat → s = (fro).toNat → firstI (fun j => f0 j || f1 j) N fro to (K : Nat) = nextB (roomB F K) (E + 1 - K) s) := ⟨fun E s h1 h2 => by rw [← hF]; exact firstI_next F N K fro to E s hK1 h1 h2⟩
        clear hF
        go_wp2_with fail
        refine (First_int fro to K b p0 q0 p1 q1 N f0 f1 wr hb).mono ?_
        rintro e wf ⟨rfl, kf⟩
        have bf := hb.keepN kf
        have Kf := hk.then kf
        obtain ⟨s, hs⟩ : ∃ s : Nat, s = (fro).toNat := ⟨_, rfl⟩
        have hs' : (fro < 0 ∧ s = 0) ∨ (0 ≤ fro ∧ fro = s) := by omega
        rcases (show to < 0 ∨ (0 ≤ to ∧ to ≤ (N : Int)) ∨ (N : Int) < to by omega) with h1 | h1 | h1
        · rw [hfi.out 0 s (by omega) hs, show nextB (roomB F K) (0 + 1 - K) s = none from nextB_none (fun t u v => by omega)]
          clear hs hfi
          have t3 : to ≤ (N : Int) := by omega
          have t4 : ¬ 0 ≤ to := by omega
          dsimp only [optV, Option.getD_none, Option.isSome_none]
          rcases hs' with ⟨hf, hs⟩ | ⟨hf, hs⟩
          all_goals
            have HS : Seal _ := ⟨hs⟩
            clear hs
            go_wp2_with fail
            go_loop [17] (fun y => ∃ κ : Nat, y = .int .i64 (κ : Nat)) (fun y => 0)
            case atStart => exact ⟨s, by rw [HS.out]; first | done | rfl⟩
            case round =>
              obtain ⟨κ, rfl⟩ := hrel
              have hκ' : ¬ (κ : Int) ≤ -(K : Int) := by omega
              have hκ'' : ¬ (κ : Int) ≤ (0 : Int) - K := by omega
              go_wp2_with fail
              refine (alive12 _).mono ?_
              rintro e w4 ⟨rfl, k4⟩
              go_wp2
              go_ret
              exact ⟨rfl, Kf.then k4⟩
        · obtain ⟨T, rfl⟩ := Int.eq_ofNat_of_zero_le h1.1
          rw [hfi.out T s (by omega) hs]
          have hen : T ≤ N := by omega
          clear hfi hs
          have t3 : (T : Int) ≤ (N : Int) := by omega
          rcases nextB_spec (roomB F K) (T + 1 - K) s with ⟨a, ha, a1, a2, a3, a4⟩ | ⟨ha, a4⟩
          · rw [ha]
            clear ha
            dsimp only [optV, Option.getD_some, Option.isSome_some]
            have hbd : s ≤ a ∧ a + K ≤ T := by omega
            have hfa : ¬ (a : Int) < fro := by omega
            have hae : ¬ (T : Int) - K < a := by omega
            have HALL : Seal (∀ t, s ≤ t → t < a → roomB F K t = false) := ⟨a4⟩
            have HA : Seal (roomB F K a = true) := ⟨a3⟩
            clear a4 a3
            rcases hs' with ⟨hf, hs⟩ | ⟨hf, hs⟩
            all_goals
              have HS : Seal _ := ⟨hs⟩
              clear hs
              go_wp2_with fail
              go_loopw [17] (fun y wr => ∃ κ : Nat, y = .int .i64 (κ : Nat) ∧ s ≤ κ ∧ κ ≤ a + 1 ∧ Keep Nope wf wr) (fun y _ => a + 2 - (intOf y).toNat)
              case atStart => exact ⟨s, by rw [HS.out]; first | done | rfl, by omega, by omega, Keep.refl _ _⟩
              case round =>
                obtain ⟨κ, rfl, hκs, hκa, kr⟩ := hrel
                by_cases hκ : κ ≤ a
                · have hκ1 : (κ : Int) ≤ (T : Int) - K := by omega
                  have hκ2 : (κ : Int) ≤ a := by omega
                  go_wp2_with fail
                  go_loopw [18, 19] (fun y18 y19 wq => ∃ i : Nat, i ≤ K ∧ y18 = .bool (roomB F i κ) ∧ y19 = .int .i64 ((κ + i : Nat) : Int) ∧ Keep Nope wf wq) (fun _ y _ => κ + K - (intOf y).toNat)
                  case atStart => exact ⟨0, by omega, by rw [roomB_zero], rfl, kr⟩
                  case round =>
                    obtain ⟨i, hiK, rfl, rfl, kq⟩ := hrel
                    by_cases hi : i < K
                    · have hi' : ((κ + i : Nat) : Int) < (κ : Int) + (K : Int) := by omega
                      have hsn := roomB_snoc F i κ
                      have hFat : (hasI f0 N ((κ + i : Nat) : Int) || hasI f1 N ((κ + i : Nat) : Int)) = F (κ + i) := by rw [hasI_at (by omega), HF.out]
                      obtain ⟨c, hc⟩ : ∃ c, c = F (κ + i) := ⟨_, rfl⟩
                      rw [← hc] at hsn hFat
                      have HSN : Seal _ := ⟨hsn⟩
                      have HFA : Seal _ := ⟨hFat⟩
                      clear hsn hFat hc
                      cases hr : roomB F i κ with
                      | false =>
                        have hr' : Seal (roomB F (i + 1) κ = false) := ⟨by rw [HSN.out, hr]; rfl⟩
                        clear hr
                        go_wp2
                        exact ⟨⟨i + 1, by omega, by rw [hr'.out], by go_num, kq⟩, by simp only [intOf]; omega⟩
                      | true =>
                        have hr' : Seal (roomB F (i + 1) κ = !c) := ⟨by rw [HSN.out, hr]; rfl⟩
                        clear hr
                        go_wp2_with fail
                        refine (BHas_at ((κ + i : Nat) : Int) b p0 q0 p1 q1 N f0 f1 _ (bf.keepN kq)).mono ?_
                        rintro e w5 ⟨rfl, k5⟩
                        rw [HFA.out]
                        go_wp2
                        exact ⟨⟨i + 1, by omega, by rw [hr'.out], by go_num, kq.then k5⟩, by simp only [intOf]; omega⟩
                    · have hi' : ¬ ((κ + i : Nat) : Int) < (κ : Int) + (K : Int) := by omega
                      obtain rfl : i = K := by omega
                      by_cases hka : κ = a
                      · subst hka
                        rw [HA.out]
                        go_wp2
                        exact ⟨⟨κ + 1, by go_num, by omega, by omega, kq⟩, by simp only [intOf]; omega⟩
                      · rw [HALL.out κ hκs (by omega)]
                        have hka' : ¬ (κ : Int) = a := by omega
                        have hkb : Seal (((κ : Int) == (a : Int)) = false) := ⟨by simp; omega⟩
                        go_wp2
                        exact ⟨⟨κ + 1, by go_num, by omega, by omega, kq⟩, by simp only [intOf]; omega⟩
                · have hκ2 : ¬ (κ : Int) ≤ a := by omega
                  by_cases hκ1 : (κ : Int) ≤ (T : Int) - K
                  all_goals
                    go_wp2_with fail
                    refine (alive12 _).mono ?_
                    rintro e w4 ⟨rfl, k4⟩
                    go_wp2
                    go_ret
                    exact ⟨rfl, (Kf.then kr).then k4⟩
          · rw [ha]
            clear ha
            dsimp only [optV, Option.getD_none, Option.isSome_none]
            rw [show ((0 : Nat) : Int) = 0 from rfl]
            have HALL : Seal (∀ t, s ≤ t → t < T + 1 - K → roomB F K t = false) := ⟨a4⟩
            clear a4
            rcases hs' with ⟨hf, hs⟩ | ⟨hf, hs⟩
            all_goals
              have HS : Seal _ := ⟨hs⟩
              clear hs
              go_wp2_with fail
              go_loopw [17] (fun y wr => ∃ κ : Nat, y = .int .i64 (κ : Nat) ∧ s ≤ κ ∧ Keep Nope wf wr) (fun y _ => T + 1 - (intOf y).toNat)
              case atStart => exact ⟨s, by rw [HS.out]; first | done | rfl, by omega, Keep.refl _ _⟩
              case round =>
                obtain ⟨κ, rfl, hκs, kr⟩ := hrel
                by_cases hκ : κ + K ≤ T
                · have hκ1 : (κ : Int) ≤ (T : Int) - K := by omega
                  go_wp2_with fail
                  go_loopw [18, 19] (fun y18 y19 wq => ∃ i : Nat, i ≤ K ∧ y18 = .bool (roomB F i κ) ∧ y19 = .int .i64 ((κ + i : Nat) : Int) ∧ Keep Nope wf wq) (fun _ y _ => κ + K - (intOf y).toNat)
                  case atStart => exact ⟨0, by omega, by rw [roomB_zero], rfl, kr⟩
                  case round =>
                    obtain ⟨i, hiK, rfl, rfl, kq⟩ := hrel
                    by_cases hi : i < K
                    · have hi' : ((κ + i : Nat) : Int) < (κ : Int) + (K : Int) := by omega
                      have hsn := roomB_snoc F i κ
                      have hFat : (hasI f0 N ((κ + i : Nat) : Int) || hasI f1 N ((κ + i : Nat) : Int)) = F (κ + i) := by rw [hasI_at (by omega), HF.out]
                      obtain ⟨c, hc⟩ : ∃ c, c = F (κ + i) := ⟨_, rfl⟩
                      rw [← hc] at hsn hFat
                      have HSN : Seal _ := ⟨hsn⟩
                      have HFA : Seal _ := ⟨hFat⟩
                      clear hsn hFat hc
                      cases hr : roomB F i κ with
                      | false =>
                        have hr' : Seal (roomB F (i + 1) κ = false) := ⟨by rw [HSN.out, hr]; rfl⟩
                        clear hr
                        go_wp2
                        exact ⟨⟨i + 1, by omega, by rw [hr'.out], by go_num, kq⟩, by simp only [intOf]; omega⟩
                      | true =>
                        have hr' : Seal (roomB F (i + 1) κ = !c) := ⟨by rw [HSN.out, hr]; rfl⟩
                        clear hr
                        go_wp2_with fail
                        refine (BHas_at ((κ + i : Nat) : Int) b p0 q0 p1 q1 N f0 f1 _ (bf.keepN kq)).mono ?_
                        rintro e w5 ⟨rfl, k5⟩
                        rw [HFA.out]
                        go_wp2
                        exact ⟨⟨i + 1, by omega, by rw [hr'.out], by go_num, kq.then k5⟩, by simp only [intOf]; omega⟩
                    · have hi' : ¬ ((κ + i : Nat) : Int) < (κ : Int) + (K : Int) := by omega
                      obtain rfl : i = K := by omega
                      rw [HALL.out κ hκs (by omega)]
                      go_wp2
                      exact ⟨⟨κ + 1, by go_num, by omega, kq⟩, by simp only [intOf]; omega⟩
                · have hκ1 : ¬ (κ : Int) ≤ (T : Int) - K := by omega
                  go_wp2_with fail
                  refine (alive12 _).mono ?_
                  rintro e w4 ⟨rfl, k4⟩
                  go_wp2
                  go_ret
                  exact ⟨rfl, (Kf.then kr).then k4⟩
        · have t3 : ¬ to ≤ (N : Int) := by omega
          rw [hfi.out N s (by omega) hs]
          have hen : N ≤ N := by omega
          clear hfi hs
          have t5 : 0 ≤ to := by omega
          rcases nextB_spec (roomB F K) (N + 1 - K) s with ⟨a, ha, a1, a2, a3, a4⟩ | ⟨ha, a4⟩
          · rw [ha]
            clear ha
            dsimp only [optV, Option.getD_some, Option.isSome_some]
            have hbd : s ≤ a ∧ a + K ≤ N := by omega
            have hfa : ¬ (a : Int) < fro := by omega
            have hae : ¬ (N : Int) - K < a := by omega
            have HALL : Seal (∀ t, s ≤ t → t < a → roomB F K t = false) := ⟨a4⟩
            have HA : Seal (roomB F K a = true) := ⟨a3⟩
            clear a4 a3
            rcases hs' with ⟨hf, hs⟩ | ⟨hf, hs⟩
            all_goals
              have HS : Seal _ := ⟨hs⟩
              clear hs
              go_wp2_with fail
              go_loopw [17] (fun y wr => ∃ κ : Nat, y = .int .i64 (κ : Nat) ∧ s ≤ κ ∧ κ ≤ a + 1 ∧ Keep Nope wf wr) (fun y _ => a + 2 - (intOf y).toNat)
              case atStart => exact ⟨s, by rw [HS.out]; first | done | rfl, by omega, by omega, Keep.refl _ _⟩
              case round =>
                obtain ⟨κ, rfl, hκs, hκa, kr⟩ := hrel
                by_cases hκ : κ ≤ a
                · have hκ1 : (κ : Int) ≤ (N : Int) - K := by omega
                  have hκ2 : (κ : Int) ≤ a := by omega
                  go_wp2_with fail
                  go_loopw [18, 19] (fun y18 y19 wq => ∃ i : Nat, i ≤ K ∧ y18 = .bool (roomB F i κ) ∧ y19 = .int .i64 ((κ + i : Nat) : Int) ∧ Keep Nope wf wq) (fun _ y _ => κ + K - (intOf y).toNat)
                  case atStart => exact ⟨0, by omega, by rw [roomB_zero], rfl, kr⟩
                  case round =>
                    obtain ⟨i, hiK, rfl, rfl, kq⟩ := hrel
                    by_cases hi : i < K
                    · have hi' : ((κ + i : Nat) : Int) < (κ : Int) + (K : Int) := by omega
                      have hsn := roomB_snoc F i κ
                      have hFat : (hasI f0 N ((κ + i : Nat) : Int) || hasI f1 N ((κ + i : Nat) : Int)) = F (κ + i) := by rw [hasI_at (by omega), HF.out]
                      obtain ⟨c, hc⟩ : ∃ c, c = F (κ + i) := ⟨_, rfl⟩
                      rw [← hc] at hsn hFat
                      have HSN : Seal _ := ⟨hsn⟩
                      have HFA : Seal _ := ⟨hFat⟩
                      clear hsn hFat hc
                      cases hr : roomB F i κ with
                      | false =>
                        have hr' : Seal (roomB F (i + 1) κ = false) := ⟨by rw [HSN.out, hr]; rfl⟩
                        clear hr
                        go_wp2
                        exact ⟨⟨i + 1, by omega, by rw [hr'.out], by go_num, kq⟩, by simp only [intOf]; omega⟩
                      | true =>
                        have hr' : Seal (roomB F (i + 1) κ = !c) := ⟨by rw [HSN.out, hr]; rfl⟩
                        clear hr
                        go_wp2_with fail
                        refine (BHas_at ((κ + i : Nat) : Int) b p0 q0 p1 q1 N f0 f1 _ (bf.keepN kq)).mono ?_
                        rintro e w5 ⟨rfl, k5⟩
                        rw [HFA.out]
                        go_wp2
                        exact ⟨⟨i + 1, by omega, by rw [hr'.out], by go_num, kq.then k5⟩, by simp only [intOf]; omega⟩
                    · have hi' : ¬ ((κ + i : Nat) : Int) < (κ : Int) + (K : Int) := by omega
                      obtain rfl : i = K := by omega
                      by_cases hka : κ = a
                      · subst hka
                        rw [HA.out]
                        go_wp2
                        exact ⟨⟨κ + 1, by go_num, by omega, by omega, kq⟩, by simp only [intOf]; omega⟩
                      · rw [HALL.out κ hκs (by omega)]
                        have hka' : ¬ (κ : Int) = a := by omega
                        have hkb : Seal (((κ : Int) == (a : Int)) = false) := ⟨by simp; omega⟩
                        go_wp2
                        exact ⟨⟨κ + 1, by go_num, by omega, by omega, kq⟩, by simp only [intOf]; omega⟩
                · have hκ2 : ¬ (κ : Int) ≤ a := by omega
                  by_cases hκ1 : (κ : Int) ≤ (N : Int) - K
                  all_goals
                    go_wp2_with fail
                    refine (alive12 _).mono ?_
                    rintro e w4 ⟨rfl, k4⟩
                    go_wp2
                    go_ret
                    exact ⟨rfl, (Kf.then kr).then k4⟩
          · rw [ha]
            clear ha
            dsimp only [optV, Option.getD_none, Option.isSome_none]
            rw [show ((0 : Nat) : Int) = 0 from rfl]
            have HALL : Seal (∀ t, s ≤ t → t < N + 1 - K → roomB F K t = false) := ⟨a4⟩
            clear a4
            rcases hs' with ⟨hf, hs⟩ | ⟨hf, hs⟩
            all_goals
              have HS : Seal _ := ⟨hs⟩
              clear hs
              go_wp2_with fail
              go_loopw [17] (fun y wr => ∃ κ : Nat, y = .int .i64 (κ : Nat) ∧ s ≤ κ ∧ Keep Nope wf wr) (fun y _ => N + 1 - (intOf y).toNat)
              case atStart => exact ⟨s, by rw [HS.out]; first | done | rfl, by omega, Keep.refl _ _⟩
              case round =>
                obtain ⟨κ, rfl, hκs, kr⟩ := hrel
                by_cases hκ : κ + K ≤ N
                · have hκ1 : (κ : Int) ≤ (N : Int) - K := by omega
                  go_wp2_with fail
                  go_loopw [18, 19] (fun y18 y19 wq => ∃ i : Nat, i ≤ K ∧ y18 = .bool (roomB F i κ) ∧ y19 = .int .i64 ((κ + i : Nat) : Int) ∧ Keep Nope wf wq) (fun _ y _ => κ + K - (intOf y).toNat)
                  case atStart => exact ⟨0, by omega, by rw [roomB_zero], rfl, kr⟩
                  case round =>
                    obtain ⟨i, hiK, rfl, rfl, kq⟩ := hrel
                    by_cases hi : i < K
                    · have hi' : ((κ + i : Nat) : Int) < (κ : Int) + (K : Int) := by omega
                      have hsn := roomB_snoc F i κ
                      have hFat : (hasI f0 N ((κ + i : Nat) : Int) || hasI f1 N ((κ + i : Nat) : Int)) = F (κ + i) := by rw [hasI_at (by omega), HF.out]
                      obtain ⟨c, hc⟩ : ∃ c, c = F (κ + i) := ⟨_, rfl⟩
                      rw [← hc] at hsn hFat
                      have HSN : Seal _ := ⟨hsn⟩
                      have HFA : Seal _ := ⟨hFat⟩
                      clear hsn hFat hc
                      cases hr : roomB F i κ with
                      | false =>
                        have hr' : Seal (roomB F (i + 1) κ = false) := ⟨by rw [HSN.out, hr]; rfl⟩
                        clear hr
                        go_wp2
                        exact ⟨⟨i + 1, by omega, by rw [hr'.out], by go_num, kq⟩, by simp only [intOf]; omega⟩
                      | true =>
                        have hr' : Seal (roomB F (i + 1) κ = !c) := ⟨by rw [HSN.out, hr]; rfl⟩
                        clear hr
                        go_wp2_with fail
                        refine (BHas_at ((κ + i : Nat) : Int) b p0 q0 p1 q1 N f0 f1 _ (bf.keepN kq)).mono ?_
                        rintro e w5 ⟨rfl, k5⟩
                        rw [HFA.out]
                        go_wp2
                        exact ⟨⟨i + 1, by omega, by rw [hr'.out], by go_num, kq.then k5⟩, by simp only [intOf]; omega⟩
                    · have hi' : ¬ ((κ + i : Nat) : Int) < (κ : Int) + (K : Int) := by omega
                      obtain rfl : i = K := by omega
                      rw [HALL.out κ hκs (by omega)]
                      go_wp2
                      exact ⟨⟨κ + 1, by go_num, by omega, kq⟩, by simp only [intOf]; omega⟩
                · have hκ1 : ¬ (κ : Int) ≤ (N : Int) - K := by omega
                  go_wp2_with fail
                  refine (alive12 _).mono ?_
                  rintro e w4 ⟨rfl, k4⟩
                  go_wp2
                  go_ret
                  exact ⟨rfl, (Kf.then kr).then k4⟩

end Go.Proofs.Ytpjcgjbobljaeaa
