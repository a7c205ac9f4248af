/-
  BlackPlays: the law's walk.
-/
import Derived.Test.YtpjcgjbobljaeaaBlackSame
namespace Go.Proofs.Ytpjcgjbobljaeaa
open Go.RowKit
set_option linter.unusedVariables false

theorem MayN_any (n : Int) (w : World) : Calls Try.prog 23 #[.int .i64 n] w fun e w' => e = .returned (.bool (decide (0 ≤ n ∧ n ≤ 65536))) ∧ w = w' := by
  by_cases h0 : 0 ≤ n
  · by_cases h1 : n ≤ 65536
    · go_enter Try.func23, Try.ntmps23
      go_wp2
      go_ret
      exact ⟨by simp [h0, h1], rfl⟩
    · go_enter Try.func23, Try.ntmps23
      go_wp2
      go_ret
      exact ⟨by simp [h1], rfl⟩
  · go_enter Try.func23, Try.ntmps23
    go_wp2
    go_ret
    exact ⟨by simp; omega, rfl⟩

theorem hasI_or (f g : Nat → Bool) (n : Nat) (i : Int) : (hasI f n i || hasI g n i) = hasI (fun j => f j || g j) n i := by
  simp only [hasI]
  by_cases h : 0 ≤ i ∧ i < n
  · rw [decide_eq_true h]; rfl
  · rw [decide_eq_false h]; rfl

theorem IntsAt.own_lt {w : World} {v : Value} {len : Nat} {x : Nat → Nat → Int} (h : IntsAt 1 w v len x) (hl : 0 < len) {g : Nat} (hg : w.heap.size ≤ g) : v.ownBlock ≠ some g := by
  obtain ⟨a, cap, rfl, h⟩ := h
  obtain ⟨b, o, rfl, hb, -⟩ := h 0 hl
  intro e
  have e := Option.some.inj e
  dsimp only at e
  omega

theorem leftN_le (f0 f1 : Nat → Bool) (j : Nat) : leftN f0 f1 j ≤ 2 := by
  rw [leftN]; split
  · omega
  · split <;> omega

/-- What stands at the loop's head. -/
def PlaysAt (w : World) (len N rp g : Nat) (z y : Value) (wr : World) : Prop :=
  ∃ (j b p0 q0 p1 q1 : Nat) (f0 f1 : Nat → Bool), j ≤ len ∧ z = .pointer (some ⟨b, 0, none⟩) ∧ y = .int .i64 (j : Nat) ∧ BlackAt wr b p0 q0 p1 q1 f0 f1 N ∧ LeftAt wr rp g (leftN f0 f1) N ∧ w.heap.size ≤ b ∧ w.heap.size ≤ q0 ∧ Keep Nope w wr

set_option maxRecDepth 20000 in
set_option maxHeartbeats 8000000 in
theorem bplays_walk (n fro to size : Int) (v : Value) (len : Nat) (d : Nat → Int) (u : Nat → Value) (ll : Nat → Nat) (lx : Nat → Nat → Nat → Int) (w : World) (hv : StepsAt w v len d u ll lx) (hlen : len ≤ 17592186044416) :
    Calls Try.prog 9 #[.int .i64 n, v, .int .i64 fro, .int .i64 to, .int .i64 size] w fun e w' => e = .returned (.bool true) ∧ Keep Nope w w' := by
  have HV : Seal _ := ⟨hv⟩
  obtain ⟨va, vc, rfl, -⟩ := hv
  have hsz : (500 < size ∧ size ≤ 65536) ∨ (500 < size ∧ 65536 < size) ∨ size ≤ 500 := by omega
  rcases hsz with ⟨s1, s2⟩ | hsz
  · go_enter Try.func9, Try.ntmps9
    go_wp2_with fail
    refine (Heavy_any n _ len d u ll lx w HV.out hlen).mono ?_
    rintro e w' ⟨t, rfl, rfl, ht⟩
    clear ht
    cases t
    all_goals
      go_wp2_with fail
      refine (alive12 _).mono ?_
      rintro e w' ⟨rfl, hk⟩
      go_wp2
      go_ret
      exact ⟨rfl, hk⟩
  rcases hsz with ⟨s1, s2⟩ | s1
  all_goals
    go_enter Try.func9, Try.ntmps9
    go_wp2_with fail
    refine (Heavy_any n _ len d u ll lx w HV.out hlen).mono ?_
    rintro e w' ⟨t, rfl, rfl, ht⟩
    cases t with
    | true =>
      clear ht
      go_wp2_with fail
      refine (alive12 _).mono ?_
      rintro e w' ⟨rfl, hk⟩
      go_wp2
      go_ret
      exact ⟨rfl, hk⟩
    | false =>
      obtain ⟨hn, hl100, hll⟩ := ht rfl
      have HLL : Seal _ := ⟨hll⟩
      clear ht hll
      by_cases hno : ¬ (0 ≤ n ∧ n ≤ 65536)
      · have HN : Seal _ := ⟨hno⟩
        clear hno hn
        go_wp2_with fail
        refine (BNew_no n w HN.out).mono ?_
        rintro e w1 ⟨rfl, k1⟩
        go_wp2_with fail
        refine (MayN_any n _).mono ?_
        rintro e w' ⟨rfl, rfl⟩
        rw [decide_eq_false HN.out]
        go_wp2_with fail
        refine (alive12 _).mono ?_
        rintro e w' ⟨rfl, hk⟩
        go_wp2
        go_ret
        exact ⟨rfl, k1.then hk⟩
      obtain ⟨N, rfl⟩ : ∃ N : Nat, n = N := ⟨n.toNat, by omega⟩
      have hN : N ≤ 400 := by omega
      clear hno hn
      go_wp2_with fail
      refine (BNew_yes N w (by omega)).mono ?_
      rintro e w1 ⟨b0, p0, q0, p1, q1, rfl, hb0, hq0, hq1, b1, k1⟩
      go_wp2_with fail
      refine (MayN_any N _).mono ?_
      rintro e w' ⟨rfl, rfl⟩
      rw [decide_eq_true (show (0 : Int) ≤ N ∧ (N : Int) ≤ 65536 by omega)]
      go_wp2_with fail
      refine (LNew_at N _ (by omega)).mono ?_
      rintro e w2 ⟨rp, g, rfl, hrp, hg, r2, k2⟩
      have b2 := b1.keepN k2
      have hk2 := k1.then k2
      have hg' : w.heap.size ≤ g := Nat.le_trans k1.size hg
      go_wp2_with fail
      go_loopw [11, 14] (fun z y wr => PlaysAt w len N rp g z y wr) (fun _ y _ => len - (intOf y).toNat)
      case atStart => exact ⟨0, b0, p0, q0, p1, q1, _, _, by omega, rfl, rfl, b2, r2, hb0, hq0, hk2⟩
      case round =>
        obtain ⟨j, b, p0, q0, p1, q1, f0, f1, hj, rfl, rfl, hb, hr, hbw, hqw, hk⟩ := hrel
        obtain ⟨m1, m2, m3, m4, m5, m6, m7⟩ := hb.ne_left hr
        by_cases hjl : j < len
        · have hjl' : (j : Int) < len := by omega
          obtain ⟨va', vc', e, hx⟩ := HV.out
          injection e with e1 _ e2
          subst e1 e2
          obtain ⟨B, o, rfl, hbl, ax0, ax1, I, -⟩ := hx j hjl
          have hl0 := HLL.out j hjl
          obtain ⟨d0, hd0⟩ : ∃ d0, d0 = d j := ⟨_, rfl⟩
          obtain ⟨u0, hu0⟩ : ∃ u0, u0 = u j := ⟨_, rfl⟩
          obtain ⟨l0, hl0'⟩ : ∃ l0, l0 = ll j := ⟨_, rfl⟩
          obtain ⟨y, hy⟩ : ∃ y, y = lx j := ⟨_, rfl⟩
          rw [← hd0] at ax0
          rw [← hu0] at ax1 I
          rw [← hl0'] at hl0 I
          rw [← hy] at I
          clear hx hd0 hu0 hl0' hy
          have x0 := hk.cell ax0 (fun h => h)
          have x1 := hk.cell ax1 (fun h => h)
          have HUG : Seal (0 < l0 → u0.ownBlock ≠ some g) := ⟨fun h => I.own_lt h hg'⟩
          by_cases hd2 : d0 = 2
          · subst hd2
            go_wp2_with fail
            refine (BCopy_at b p0 q0 p1 q1 N f0 f1 wr hb).mono ?_
            rintro e w5 ⟨b5, p5, q5, p15, q15, rfl, hb5, hp5, hq5, hp15, hq15, B5a, k5⟩
            have lb := lt_of_heap hb.hb
            have lq0 := hb.h0.lt_q'
            have lp0 := hb.h0.lt_p'
            have z5 := k5.size
            have hbo := hb.keepN k5
            have R5a := hr.keep k5 (fun h => h) (fun h => h)
            go_wp2_with fail
            have I6 := ints_block (cap := 1) (World.alloc_heap_new w5 (.cells #[.int .i64 0] 3)) (show _ = natVs [0] from rfl) (by intro i; rcases i with _ | i <;> simp)
            have A6 := (Keep.refl Nope w5).alloc (.cells #[.int .i64 0] 3)
            refine (Hit_at _ 1 _ b p0 q0 p1 q1 N _ _ _ I6 (hbo.keepN A6) (by intro _ e; have e := Option.some.inj e; dsimp only at e; omega) (by omega)).mono ?_
            rintro e w6 ⟨rfl, k6, B6⟩
            obtain ⟨G0, hG0⟩ : ∃ G, G = (if okHit N (fun i => (([0] : List Nat).getD i 0 : Nat)) 1 then fun j => f0 j || hitB (fun i => (([0] : List Nat).getD i 0 : Nat)) 1 j else f0) := ⟨_, rfl⟩
            have B6' : BlackAt w6 b p0 q0 p1 q1 G0 f1 N := by rw [hG0]; exact B6
            clear B6 hG0 I6
            have KA : Keep (fun i => i = q0) w5 w6 := (A6.of_not _).trans k6 (fun _ _ h => h)
            obtain ⟨a1, a2, -, -, -, -⟩ := B6'.apart
            go_wp2_with fail
            refine (BTurn_at b p0 q0 p1 q1 N G0 f1 w6 B6' a1 a2).mono ?_
            rintro e w7 ⟨p7, q7, rfl, hp7, hq7, B7, k7⟩
            obtain ⟨a3, a4, -, -, -, -⟩ := B7.apart
            go_wp2_with fail
            refine (BTurn_at b p7 q7 p0 q0 N _ _ w7 B7 a3 a4).mono ?_
            rintro e w8 ⟨p8, q8, rfl, hp8, hq8, B8, k8⟩
            clear B8 B7 B6'
            have K58 : Keep (fun i => i = q0 ∨ i = b) w5 w8 := ((KA.mono (fun _ _ h => .inl h)).trans k7 (fun _ _ h => .inr h)).trans k8 (fun _ _ h => .inr h)
            have B58 : BlackAt w8 b5 p5 q5 p15 q15 f0 f1 N := B5a.keep K58 (by omega) (by omega) (by omega) (by omega) (by omega)
            have R58 : LeftAt w8 rp g (leftN f0 f1) N := R5a.keep K58 (by omega) (by omega)
            have K8 : Keep Nope w w8 := (hk.then k5).trans K58 (fun i hi h => by omega)
            have y0 := K8.cell ax0 (fun h => h)
            have y1 := K8.cell ax1 (fun h => h)
            have I5 := I.keep K8 (fun _ _ h => h)
            have HUQ5 : Seal (0 < l0 → u0.ownBlock ≠ some q5) := ⟨fun h => I.own_lt h (by have := hk.size; omega)⟩
            have z8 := K8.size
            clear x0 x1
            go_wp2_with fail
            refine (Does_any 2 u0 l0 y b5 p5 q5 p15 q15 rp g N f0 f1 _ _ B58 R58 (leftN_le f0 f1) I5 HUG.out HUQ5.out hl0).mono ?_
            rintro e wd ⟨t, pd, qd, p1d, q1d, rfl, ht, Bd, Rd, hqd, kd⟩
            obtain rfl := ht rfl
            rw [doL_left] at Rd
            obtain ⟨F0, hF0⟩ : ∃ F, doB0 f0 N 2 l0 (fun i => y i 0) = F := ⟨_, rfl⟩
            obtain ⟨F1, hF1⟩ : ∃ F, doB1 f0 f1 2 = F := ⟨_, rfl⟩
            rw [hF0, hF1] at Bd Rd
            clear hF0 hF1 ht y0 y1
            go_wp2_with fail
            refine (BSame_any b5 pd qd p1d q1d rp g N F0 F1 wd Bd Rd).mono ?_
            rintro e we ⟨rfl, ke⟩
            have Be := Bd.keepN ke
            have Re := Rd.keep ke (fun h => h) (fun h => h)
            obtain ⟨fo, hfo⟩ : ∃ o, firstI (fun j => F0 j || F1 j) N fro to size = o := ⟨_, rfl⟩
            have HFO : Seal _ := ⟨hfo⟩
            have HFP : Seal (firstI (posB (leftN F0 F1)) N fro to size = fo) := ⟨by rw [posB_left]; exact hfo⟩
            obtain ⟨ho, hho⟩ : ∃ o, hasI (fun j => F0 j || F1 j) N fro = o := ⟨_, rfl⟩
            have HHO : Seal ((hasI F0 N fro || hasI F1 N fro) = ho) := ⟨by rw [hasI_or]; exact hho⟩
            have HHP : Seal (hasI (posB (leftN F0 F1)) N fro = ho) := ⟨by rw [posB_left]; exact hho⟩
            clear hfo hho
            go_wp2_with fail
            refine (First_int fro to size b5 pd qd p1d q1d N F0 F1 we Be).mono ?_
            rintro e wf ⟨rfl, kf⟩
            have Bf := Be.keepN kf
            have Rf := Re.keep kf (fun h => h) (fun h => h)
            rw [HFO.out]
            dsimp only [optV]
            go_wp2_with fail
            refine (LFirst_int fro to size N rp g _ wf Rf).mono ?_
            rintro e w' ⟨rfl, rfl⟩
            rw [HFP.out]
            dsimp only [optV]
            go_wp2_with fail
            refine (BHas_at fro b5 pd qd p1d q1d N F0 F1 wf Bf).mono ?_
            rintro e wg ⟨rfl, kg⟩
            rw [HHO.out]
            have Rg := Rf.keep kg (fun h => h) (fun h => h)
            have Bg := Bf.keepN kg
            go_wp2_with fail
            refine (LHas_int fro N rp g _ wg Rg).mono ?_
            rintro e w' ⟨rfl, rfl⟩
            rw [HHP.out]
            go_wp2
            refine ⟨⟨j + 1, b5, pd, qd, p1d, q1d, F0, F1, by omega, rfl, by go_num, Bg, Rg, by omega, by omega, ?_⟩, by simp only [intOf]; omega⟩
            exact (((((K8).trans kd (fun i hi h => by omega)).then ke).then kf).then kg)
          · have hd2' : Seal (¬ d0 = 2) := ⟨hd2⟩
            have IR := I.keep hk (fun _ _ h => h)
            have HUQ0 : Seal (0 < l0 → u0.ownBlock ≠ some q0) := ⟨fun h => I.own_lt h hqw⟩
            have z8 := hk.size
            go_wp2_with fail
            refine (Does_any d0 u0 l0 y b p0 q0 p1 q1 rp g N f0 f1 _ _ hb hr (leftN_le f0 f1) IR HUG.out HUQ0.out hl0).mono ?_
            rintro e wd ⟨t, pd, qd, p1d, q1d, rfl, ht, Bd, Rd, hqd, kd⟩
            obtain rfl := ht rfl
            rw [doL_left] at Rd
            obtain ⟨F0, hF0⟩ : ∃ F, doB0 f0 N d0 l0 (fun i => y i 0) = F := ⟨_, rfl⟩
            obtain ⟨F1, hF1⟩ : ∃ F, doB1 f0 f1 d0 = F := ⟨_, rfl⟩
            rw [hF0, hF1] at Bd Rd
            clear hF0 hF1 ht x0 x1
            go_wp2_with fail
            refine (BSame_any b pd qd p1d q1d rp g N F0 F1 wd Bd Rd).mono ?_
            rintro e we ⟨rfl, ke⟩
            have Be := Bd.keepN ke
            have Re := Rd.keep ke (fun h => h) (fun h => h)
            obtain ⟨fo, hfo⟩ : ∃ o, firstI (fun j => F0 j || F1 j) N fro to size = o := ⟨_, rfl⟩
            have HFO : Seal _ := ⟨hfo⟩
            have HFP : Seal (firstI (posB (leftN F0 F1)) N fro to size = fo) := ⟨by rw [posB_left]; exact hfo⟩
            obtain ⟨ho, hho⟩ : ∃ o, hasI (fun j => F0 j || F1 j) N fro = o := ⟨_, rfl⟩
            have HHO : Seal ((hasI F0 N fro || hasI F1 N fro) = ho) := ⟨by rw [hasI_or]; exact hho⟩
            have HHP : Seal (hasI (posB (leftN F0 F1)) N fro = ho) := ⟨by rw [posB_left]; exact hho⟩
            clear hfo hho
            go_wp2_with fail
            refine (First_int fro to size b pd qd p1d q1d N F0 F1 we Be).mono ?_
            rintro e wf ⟨rfl, kf⟩
            have Bf := Be.keepN kf
            have Rf := Re.keep kf (fun h => h) (fun h => h)
            rw [HFO.out]
            dsimp only [optV]
            go_wp2_with fail
            refine (LFirst_int fro to size N rp g _ wf Rf).mono ?_
            rintro e w' ⟨rfl, rfl⟩
            rw [HFP.out]
            dsimp only [optV]
            go_wp2_with fail
            refine (BHas_at fro b pd qd p1d q1d N F0 F1 wf Bf).mono ?_
            rintro e wg ⟨rfl, kg⟩
            rw [HHO.out]
            have Rg := Rf.keep kg (fun h => h) (fun h => h)
            have Bg := Bf.keepN kg
            go_wp2_with fail
            refine (LHas_int fro N rp g _ wg Rg).mono ?_
            rintro e w' ⟨rfl, rfl⟩
            rw [HHP.out]
            go_wp2
            refine ⟨⟨j + 1, b, pd, qd, p1d, q1d, F0, F1, by omega, rfl, by go_num, Bg, Rg, by omega, by omega, ?_⟩, by simp only [intOf]; omega⟩
            exact (((((hk).trans kd (fun i hi h => by omega)).then ke).then kf).then kg)
        · have hjl' : ¬ (j : Int) < len := by omega
          clear HV
          go_wp2_with fail
          refine (BSame_any b p0 q0 p1 q1 rp g N f0 f1 wr hb hr).mono ?_
          rintro e w3 ⟨rfl, k3⟩
          go_wp2_with fail
          refine (alive12 _).mono ?_
          rintro e w4 ⟨rfl, k4⟩
          go_wp2
          go_ret
          exact ⟨rfl, (hk.then k3).then k4⟩

end Go.Proofs.Ytpjcgjbobljaeaa
