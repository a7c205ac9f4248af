/-
  BlackAges: the law's walk.
-/
import Derived.Test.YtpjcgjbobljaeaaBlackPlays
namespace Go.Proofs.Ytpjcgjbobljaeaa
open Go.RowKit
set_option linter.unusedVariables false

/-- Is g among the first k of x? -/
def anyEq (x : Nat → Int) (k : Nat) (g : Int) : Bool := (List.range k).any fun i => x i == g

theorem anyEq_succ (x : Nat → Int) (k : Nat) (g : Int) : anyEq x (k + 1) g = (anyEq x k g || x k == g) := by
  simp [anyEq, List.range_succ]

theorem hasI_hit {f : Nat → Bool} {n len : Nat} {x : Nat → Int} (h : okHit n x len = true) (g : Int) : hasI (fun j => f j || hitB x len j) n g = (hasI f n g || anyEq x len g) := by
  simp only [hasI]
  by_cases hg : 0 ≤ g ∧ g < n
  · rw [decide_eq_true hg]
    obtain ⟨G, rfl⟩ := Int.eq_ofNat_of_zero_le hg.1
    rfl
  · rw [decide_eq_false hg]
    have : anyEq x len g = false := by
      rw [anyEq, List.any_eq_false]
      intro i hi
      have h2 := okHit_at h (List.mem_range.1 hi)
      simp only [beq_iff_eq]
      intro e
      rw [e] at h2
      exact hg h2
    rw [this]; rfl

theorem fromB_or_le (f0 f1 : Nat → Bool) (n : Nat) : (fromB f0 n 0).length ≤ (fromB (fun j => f0 j || f1 j) n 0).length := by
  have := ones_left f0 f1 n
  omega

theorem hasI_none (n : Nat) (g : Int) : hasI (fun _ => false) n g = false := by
  simp [hasI]

/-- What stands at the loop's head. -/
def AgesAt (w : World) (len N b : Nat) (gI : Int) (y9 y10 y11 : Value) (wr : World) : Prop :=
  ∃ (j p0 q0 p1 q1 : Nat) (f0 f1 : Nat → Bool), j ≤ len ∧ y9 = .bool (hasI f0 N gI) ∧ y10 = .bool (hasI f1 N gI) ∧ y11 = .int .i64 (j : Nat) ∧ BlackAt wr b p0 q0 p1 q1 f0 f1 N ∧ w.heap.size ≤ q0 ∧ Keep Nope w wr

set_option maxRecDepth 20000 in
set_option maxHeartbeats 8000000 in
theorem bages_walk (n gI : Int) (v : Value) (len : Nat) (d : Nat → Int) (u : Nat → Value) (ll : Nat → Nat) (lx : Nat → Nat → Nat → Int) (w : World) (hv : StepsAt w v len d u ll lx) (hlen : len ≤ 17592186044416) :
    Calls Try.prog 7 #[.int .i64 n, v, .int .i64 gI] w fun e w' => e = .returned (.bool true) ∧ Keep Nope w w' := by
  have HV : Seal _ := ⟨hv⟩
  obtain ⟨va, vc, rfl, -⟩ := hv
  go_enter Try.func7, Try.ntmps7
  go_wp2_with fail
  refine (Heavy_any n _ len d u ll lx w HV.out hlen).mono ?_
  rintro e w' ⟨t, rfl, rfl, ht⟩
  cases t with
  | true =>
    clear ht
    go_wp2_with fail
    refine (alive12 _).mono ?_
    rintro e w' ⟨rfl, hk⟩
    go_wp2
    go_ret
    exact ⟨rfl, hk⟩
  | false =>
    obtain ⟨-, hl100, hll⟩ := ht rfl
    have HLL : Seal _ := ⟨hll⟩
    clear ht hll
    by_cases hn4 : 400 < n
    · go_wp2_with fail
      refine (alive12 _).mono ?_
      rintro e w' ⟨rfl, hk⟩
      go_wp2
      go_ret
      exact ⟨rfl, hk⟩
    by_cases hno : ¬ (0 ≤ n ∧ n ≤ 65536)
    · have HN : Seal _ := ⟨hno⟩
      clear hno
      go_wp2_with fail
      refine (BNew_no n w HN.out).mono ?_
      rintro e w1 ⟨rfl, k1⟩
      go_wp2_with fail
      refine (alive12 _).mono ?_
      rintro e w' ⟨rfl, hk⟩
      go_wp2
      go_ret
      exact ⟨rfl, k1.then hk⟩
    obtain ⟨N, rfl⟩ : ∃ N : Nat, n = N := ⟨n.toNat, by omega⟩
    have hN : N ≤ 400 := by omega
    clear hno
    go_wp2_with fail
    refine (BNew_yes N w (by omega)).mono ?_
    rintro e w1 ⟨b, p0, q0, p1, q1, rfl, hbw, hq0, hq1, b1, k1⟩
    go_wp2_with fail
    go_loopw [9, 10, 11] (fun y9 y10 y11 wr => AgesAt w len N b gI y9 y10 y11 wr) (fun _ _ y _ => len - (intOf y).toNat)
    case atStart => exact ⟨0, p0, q0, p1, q1, _, _, by omega, by rw [hasI_none], by rw [hasI_none], rfl, b1, hq0, k1⟩
    case round =>
      obtain ⟨j, p0, q0, p1, q1, f0, f1, hj, rfl, rfl, rfl, hb, hqw, hk⟩ := hrel
      by_cases hjl : j < len
      · have hjl' : (j : Int) < len := by omega
        obtain ⟨va', vc', e, hx⟩ := HV.out
        injection e with e1 _ e2
        subst e1 e2
        obtain ⟨B, o, rfl, hbl, ax0, ax1, I, -⟩ := hx j hjl
        have hl0 := HLL.out j hjl
        obtain ⟨d0, hd0⟩ : ∃ d0, d0 = d j := ⟨_, rfl⟩
        obtain ⟨u0, hu0⟩ : ∃ u0, u0 = u j := ⟨_, rfl⟩
        obtain ⟨l0, hl0'⟩ : ∃ l0, l0 = ll j := ⟨_, rfl⟩
        obtain ⟨y, hy⟩ : ∃ y, y = lx j := ⟨_, rfl⟩
        rw [← hd0] at ax0
        rw [← hu0] at ax1 I
        rw [← hl0'] at hl0 I
        rw [← hy] at I
        clear hx hd0 hu0 hl0' hy
        obtain ⟨A, hA⟩ : ∃ A, (fromB (fun j => f0 j || f1 j) N 0).length = A := ⟨_, rfl⟩
        obtain ⟨C, hC⟩ : ∃ C, (fromB f0 N 0).length = C := ⟨_, rfl⟩
        have hCA : C ≤ A := by rw [← hA, ← hC]; exact fromB_or_le f0 f1 N
        have hAN : A ≤ N := by rw [← hA]; exact fromB_len _ _ _
        have HA : Seal _ := ⟨hA⟩
        have HC : Seal _ := ⟨hC⟩
        clear hA hC
        go_wp2_with fail
        refine (BCount_at b p0 q0 p1 q1 N f0 f1 wr hb).mono ?_
        rintro e w2 ⟨rfl, k2⟩
        rw [HA.out]
        have b2 := hb.keepN k2
        have K2 := hk.then k2
        have x0 := K2.cell ax0 (fun h => h)
        have x1 := K2.cell ax1 (fun h => h)
        have z2 := K2.size
        by_cases hd0 : d0 = 0
        · subst hd0
          go_wp2_with fail
          have I2 := I.keep K2 (fun _ _ h => h)
          refine (Hit_at u0 l0 y b p0 q0 p1 q1 N f0 f1 w2 I2 b2 (fun h => I.own_lt h hqw) (by omega)).mono ?_
          rintro e w3 ⟨rfl, k3, b3⟩
          have K3 : Keep Nope w w3 := K2.trans k3 (fun i hi h => by omega)
          have y0 := K3.cell ax0 (fun h => h)
          have y1 := K3.cell ax1 (fun h => h)
          have I3 := I.keep K3 (fun _ _ h => h)
          clear x0 x1
          by_cases hok : okHit N (fun i => y i 0) l0 = true
          · rw [hok] at b3 ⊢
            rw [if_pos rfl] at b3
            have hnow := hasI_hit (f := f0) hok gI
            clear hok
            obtain ⟨ua, uc, rfl, hiv⟩ := ints_at I3
            have HIV : Seal _ := ⟨hiv⟩
            clear hiv
            have HNOW : Seal _ := ⟨hnow⟩
            clear hnow
            go_wp2_with fail
            go_loop [9, 13] (fun y9 y13 => ∃ k : Nat, k ≤ l0 ∧ y13 = .int .i64 (k : Nat) ∧ y9 = .bool (hasI f0 N gI || anyEq (fun i => y i 0) k gI)) (fun _ y => l0 - (intOf y).toNat)
            case atStart => exact ⟨0, by omega, rfl, by rw [show anyEq (fun i => y i 0) 0 gI = false from rfl, Bool.or_false]⟩
            case round =>
              obtain ⟨k, hkl, rfl, rfl⟩ := hrel
              by_cases hk0 : k < l0
              · have hk0' : (k : Int) < l0 := by omega
                obtain ⟨B2, o2, rfl, hB2, gc, -⟩ := HIV.out k hk0
                have hsn := anyEq_succ (fun i => y i 0) k gI
                obtain ⟨Y, hY⟩ : ∃ Y, Y = y k 0 := ⟨_, rfl⟩
                rw [← hY] at gc
                have hsn2 : Seal ((hasI f0 N gI || anyEq (fun i => y i 0) (k + 1) gI) = ((hasI f0 N gI || anyEq (fun i => y i 0) k gI) || Y == gI)) := ⟨by rw [hsn, hY, Bool.or_assoc]⟩
                clear hsn hY
                obtain ⟨c, hc⟩ : ∃ c, (hasI f0 N gI || anyEq (fun i => y i 0) k gI) = c := ⟨_, rfl⟩
                rw [hc] at hsn2 ⊢
                clear hc
                cases c
                all_goals
                  go_wp2
                  exact ⟨⟨k + 1, by omega, by go_num, by rw [hsn2.out]; rfl⟩, by simp only [intOf]; omega⟩
              · have hk0' : ¬ (k : Int) < l0 := by omega
                obtain rfl : k = l0 := by omega
                rw [← HNOW.out]
                obtain ⟨c0, hc0⟩ : ∃ c, hasI (fun j => f0 j || hitB (fun i => y i 0) k j) N gI = c := ⟨_, rfl⟩
                obtain ⟨c1, hc1⟩ : ∃ c, hasI (f1) N gI = c := ⟨_, rfl⟩
                have HC0 : Seal _ := ⟨hc0⟩
                have HC1 : Seal _ := ⟨hc1⟩
                rw [hc0, hc1]
                clear hc0 hc1
                go_wp2_with fail
                refine (BHas_at gI b p0 q0 p1 q1 N _ _ w3 b3).mono ?_
                rintro e w9 ⟨rfl, k9⟩
                rw [HC0.out, HC1.out]
                have b9 := BlackAt.keepN b3 k9
                cases c0
                all_goals
                  go_wp2
                  exact ⟨⟨j + 1, p0, q0, p1, q1, _, _, by omega, by rw [HC0.out], by rw [HC1.out], by go_num, b9, hqw, Keep.then K3 k9⟩, by simp only [intOf]; omega⟩
          · have hok' : okHit N (fun i => y i 0) l0 = false := by simpa using hok
            rw [hok'] at b3 ⊢
            rw [if_neg (by simp)] at b3
            clear hok hok'
            obtain ⟨c0, hc0⟩ : ∃ c, hasI (f0) N gI = c := ⟨_, rfl⟩
            obtain ⟨c1, hc1⟩ : ∃ c, hasI (f1) N gI = c := ⟨_, rfl⟩
            have HC0 : Seal _ := ⟨hc0⟩
            have HC1 : Seal _ := ⟨hc1⟩
            rw [hc0, hc1]
            clear hc0 hc1
            go_wp2_with fail
            refine (BHas_at gI b p0 q0 p1 q1 N _ _ w3 b3).mono ?_
            rintro e w9 ⟨rfl, k9⟩
            rw [HC0.out, HC1.out]
            have b9 := BlackAt.keepN b3 k9
            cases c0
            all_goals
              go_wp2
              exact ⟨⟨j + 1, p0, q0, p1, q1, _, _, by omega, by rw [HC0.out], by rw [HC1.out], by go_num, b9, hqw, Keep.then K3 k9⟩, by simp only [intOf]; omega⟩
        · by_cases hd1 : d0 = 1
          · subst hd1
            obtain ⟨a1, a2, -, -, -, -⟩ := b2.apart
            have lq2 := b2.h0.lt_q'
            go_wp2_with fail
            refine (BTurn_at b p0 q0 p1 q1 N f0 f1 w2 b2 a1 a2).mono ?_
            rintro e w3 ⟨p, q, rfl, hp, hq, b3, k3⟩
            rw [HA.out, HC.out]
            have K3 : Keep Nope w w3 := K2.trans k3 (fun i hi h => by omega)
            have y0 := K3.cell ax0 (fun h => h)
            clear x0 x1
            go_wp2_with fail
            refine (BCount_at b p q p0 q0 N _ _ w3 b3).mono ?_
            rintro e w4 ⟨rfl, k4⟩
            rw [show (fun j => false || f0 j) = f0 from funext fun j => Bool.false_or _, HC.out]
            have b4 := b3.keepN k4
            have K4 := K3.then k4
            have hAC : ¬ (A : Int) - (C : Int) < 0 := by omega
            obtain ⟨c0, hc0⟩ : ∃ c, hasI (fun _ => false) N gI = c := ⟨_, rfl⟩
            obtain ⟨c1, hc1⟩ : ∃ c, hasI (f0) N gI = c := ⟨_, rfl⟩
            have HC0 : Seal _ := ⟨hc0⟩
            have HC1 : Seal _ := ⟨hc1⟩
            obtain rfl : c0 = false := by rw [← hc0, hasI_none]
            rw [hc1]
            clear hc0 hc1
            go_wp2_with fail
            refine (BHas_at gI b p q p0 q0 N _ _ w4 b4).mono ?_
            rintro e w9 ⟨rfl, k9⟩
            rw [HC0.out, HC1.out]
            have b9 := BlackAt.keepN b4 k9
            go_wp2
            exact ⟨⟨j + 1, p, q, p0, q0, _, _, by omega, by rw [HC0.out], by rw [HC1.out], by go_num, b9, (by omega), Keep.then K4 k9⟩, by simp only [intOf]; omega⟩
          · have hd0' : Seal (¬ d0 = 0) := ⟨hd0⟩
            have hd1' : Seal (¬ d0 = 1) := ⟨hd1⟩
            obtain ⟨c0, hc0⟩ : ∃ c, hasI (f0) N gI = c := ⟨_, rfl⟩
            obtain ⟨c1, hc1⟩ : ∃ c, hasI (f1) N gI = c := ⟨_, rfl⟩
            have HC0 : Seal _ := ⟨hc0⟩
            have HC1 : Seal _ := ⟨hc1⟩
            rw [hc0, hc1]
            clear hc0 hc1
            go_wp2_with fail
            refine (BHas_at gI b p0 q0 p1 q1 N _ _ w2 b2).mono ?_
            rintro e w9 ⟨rfl, k9⟩
            rw [HC0.out, HC1.out]
            have b9 := BlackAt.keepN b2 k9
            cases c0
            all_goals
              go_wp2
              exact ⟨⟨j + 1, p0, q0, p1, q1, _, _, by omega, by rw [HC0.out], by rw [HC1.out], by go_num, b9, hqw, Keep.then K2 k9⟩, by simp only [intOf]; omega⟩
      · have hjl' : ¬ (j : Int) < len := by omega
        clear HV
        go_wp2_with fail
        refine (alive12 _).mono ?_
        rintro e w4 ⟨rfl, k4⟩
        go_wp2
        go_ret
        exact ⟨rfl, hk.then k4⟩

end Go.Proofs.Ytpjcgjbobljaeaa
