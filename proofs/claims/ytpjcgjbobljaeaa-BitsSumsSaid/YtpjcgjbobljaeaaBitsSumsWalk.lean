/-
  BitsSums: the law's walk.
-/
import Derived.Test.YtpjcgjbobljaeaaBitsDoes
import Derived.Test.YtpjcgjbobljaeaaSteps
namespace Go.Proofs.Ytpjcgjbobljaeaa
open Go.RowKit
set_option linter.unusedVariables false

theorem okRun_parts {n : Nat} {i k : Int} (h : okRun n i k = true) : ∃ a b : Nat, i = a ∧ k = b ∧ a + b ≤ n := by
  have h : 0 ≤ i ∧ 0 ≤ k ∧ i ≤ n ∧ k ≤ n - i := by simpa [okRun] using h
  exact ⟨i.toNat, k.toNat, by omega, by omega, by omega⟩

theorem okRun_nat {n a b : Nat} (h : a + b ≤ n) : okRun n (a : Nat) (b : Nat) = true := by
  simp [okRun]; omega

theorem cntI_nat {f : Nat → Bool} {n a b : Nat} (h : a + b ≤ n) : cntI f n (a : Nat) (b : Nat) = cntB f a b := by
  rw [cntI, okRun_nat h]; rfl

theorem setF_nat {f : Nat → Bool} {n a b : Nat} {t : Bool} (h : a + b ≤ n) : setF f n (a : Nat) (b : Nat) t = runSet f a b t := by
  rw [setF, okRun_nat h]; rfl

theorem cnt_set {f : Nat → Bool} {a c d : Nat} (hd : d ≤ c) : cntB (runSet f a d true) a c = d + cntB f (a + d) (c - d) := by
  obtain ⟨e, rfl⟩ : ∃ e, c = d + e := ⟨c - d, by omega⟩
  rw [cntB_add, cntB_all d (fun t u v => by rw [runSet, if_pos ⟨u, v⟩]), Nat.add_sub_cancel_left]
  exact congrArg _ (cntB_congr _ (fun t u v => by rw [runSet, if_neg (by omega)]))

set_option maxHeartbeats 4000000 in
theorem sums_walk (n i k part : Int) (v : Value) (len : Nat) (x : Nat → Nat → Int) (w : World) (hv : IntsAt 3 w v len x) :
    Calls Try.prog 3 #[.int .i64 n, v, .int .i64 i, .int .i64 k, .int .i64 part] w fun e w' => e = .returned (.bool true) ∧ Keep Nope w w' := by
  have HV : Seal _ := ⟨hv⟩
  obtain ⟨va, vc, rfl, -⟩ := hv
  by_cases h1 : 60 < len
  · have h1' : (60 : Int) < len := by omega
    go_enter Try.func3, Try.ntmps3
    go_wp2_with (go_at_call 11; refine (alive03 _).mono ?_; rintro e w' ⟨rfl, hk⟩)
    go_ret
    exact ⟨rfl, hk⟩
  have h1' : ¬ (60 : Int) < len := by omega
  by_cases h2 : n < 0
  · go_enter Try.func3, Try.ntmps3
    go_wp2_with (go_at_call 11; refine (alive03 _).mono ?_; rintro e w' ⟨rfl, hk⟩)
    go_ret
    exact ⟨rfl, hk⟩
  by_cases h3 : 3000 < n
  · go_enter Try.func3, Try.ntmps3
    go_wp2_with (go_at_call 11; refine (alive03 _).mono ?_; rintro e w' ⟨rfl, hk⟩)
    go_ret
    exact ⟨rfl, hk⟩
  obtain ⟨N, rfl⟩ : ∃ N : Nat, n = N := ⟨n.toNat, by omega⟩
  have hN : N ≤ 3000 := by omega
  clear h1 h2 h3
  have h2 : ¬ (N : Int) < 0 := by omega
  have h3 : ¬ (3000 : Int) < N := by omega
  go_enter Try.func3, Try.ntmps3
  go_wp2_with fail
  refine (New_yes N w (by omega)).mono ?_
  rintro e w1 ⟨p, q, rfl, hp, hq, b1, k1⟩
  have q1 := b1.lt_q'
  go_wp2_with fail
  go_loopw [13] (fun y wr => ∃ (j : Nat) (f : Nat → Bool), j ≤ len ∧ y = .int .i64 (j : Nat) ∧ BitsAt wr p q f N ∧ Keep Nope w wr) (fun y _ => len - (intOf y).toNat)
  case atStart => exact ⟨0, _, by omega, rfl, b1, k1⟩
  case round =>
    obtain ⟨j, f, hj, rfl, hb, hk⟩ := hrel
    by_cases hjl : j < len
    · obtain ⟨va', vc', e, hx⟩ := HV.out
      injection e with e1 _ e2
      subst e1 e2
      obtain ⟨b, o, rfl, hbl, hx⟩ := hx j hjl
      obtain ⟨d, hd⟩ : ∃ d, d = x j 0 := ⟨_, rfl⟩
      obtain ⟨a, ha⟩ : ∃ a, a = x j 1 := ⟨_, rfl⟩
      obtain ⟨c, hc⟩ : ∃ c, c = x j 2 := ⟨_, rfl⟩
      have x0 := hk.cell (hx 0 (by omega)).1 (fun h => h)
      have x1 := hk.cell (hx 1 (by omega)).1 (fun h => h)
      have x2 := hk.cell (hx 2 (by omega)).1 (fun h => h)
      rw [Nat.add_zero, ← hd] at x0
      rw [← Nat.add_assoc, ← ha] at x1
      rw [← Nat.add_assoc, ← hc] at x2
      clear hx hd ha hc
      have hwr := hk.size
      have lq := hb.lt_q'
      go_wp2_with fail
      set_option maxRecDepth 8000 in
      go_region_held3 (fun w' => w'.cell? ⟨b, o + j * 3, none⟩ = some (.int .i64 d) ∧ w'.cell? ⟨b, o + j * 3 + 1, none⟩ = some (.int .i64 a) ∧ w'.cell? ⟨b, o + j * 3 + 2, none⟩ = some (.int .i64 c))
        (first | go_keep | exact ⟨k2.cell x0 (fun h => h), k2.cell x1 (fun h => h), k2.cell x2 (fun h => h)⟩ | exact ⟨k3.cell (k2.cell x0 (fun h => h)) nqg, k3.cell (k2.cell x1 (fun h => h)) nqg, k3.cell (k2.cell x2 (fun h => h)) nqg⟩)
        (first
          | (go_at_call 14; refine (RNew_at N _ (by omega)).mono ?_; rintro e w2 ⟨rp, g, rfl, hrp, hg, r2, k2⟩; have b2 := hb.keep (S := Nope) (by first | exact k2 | exact (Keep.refl _ _).drew.trans k2 (fun _ _ h => h)) (fun h => h) (fun h => h); have nqg : ¬ (b = q ∨ b = g) := by first | omega | (have hg' : wr.heap.size ≤ g := hg; omega))
          | (go_at_call 13; refine (does_any d a c p q rp g N f (fun _ => false) _ (b2.keep (S := Nope) (by first | exact Keep.refl Nope _ | exact (Keep.refl Nope _).drew) (fun h => h) (fun h => h)) (r2.keep (S := Nope) (by first | exact Keep.refl Nope _ | exact (Keep.refl Nope _).drew) (fun h => h) (fun h => h))).mono ?_; rintro e w3 ⟨rfl, k3, b3, r3⟩))
      clear x0 x1 x2
      set_option maxRecDepth 8000 in
      go_wp2
      refine ⟨⟨j + 1, _, by omega, by go_num, b3, ?_⟩, by simp only [intOf]; omega⟩
      exact ((hk.trans ((Keep.refl Nope wr).drew) (fun _ _ h => h)).trans k2 (fun _ _ h => h)).trans k3 (fun t ht h => by have hg' : wr.heap.size ≤ g := hg; rcases h with h | h <;> omega)
    · have hjl' : ¬ (j : Int) < len := by omega
      clear HV
      set_option maxRecDepth 8000 in
      go_wp2_with fail
      refine (Count_int i k N p q f _ hb).mono ?_
      rintro e w2 ⟨rfl, k2⟩
      have b2 := hb.keep k2 (fun h => h) (fun h => h)
      have hk2 := hk.trans k2 (fun _ _ h => h)
      cases ho : okRun N i k with
      | false =>
        rw [show cntI f N i k = 0 by rw [cntI, ho]; rfl]
        clear ho
        dsimp only [errV]
        set_option maxRecDepth 8000 in
        go_wp2_with (go_at_call 11; refine (alive03 _).mono ?_; rintro e w' ⟨rfl, hk'⟩)
        go_ret
        exact ⟨rfl, hk2.trans hk' (fun _ _ h => h)⟩
      | true =>
        obtain ⟨a, c, rfl, rfl, hac⟩ := okRun_parts ho
        clear ho
        rw [cntI_nat hac]
        dsimp only [errV]
        by_cases hp1 : part < 0
        · set_option maxRecDepth 8000 in
          go_wp2_with (go_at_call 11; refine (alive03 _).mono ?_; rintro e w' ⟨rfl, hk'⟩)
          go_ret
          exact ⟨rfl, hk2.trans hk' (fun _ _ h => h)⟩
        by_cases hp2 : (c : Int) < part
        · set_option maxRecDepth 8000 in
          go_wp2_with (go_at_call 11; refine (alive03 _).mono ?_; rintro e w' ⟨rfl, hk'⟩)
          go_ret
          exact ⟨rfl, hk2.trans hk' (fun _ _ h => h)⟩
        obtain ⟨d, rfl⟩ : ∃ d : Nat, part = d := ⟨part.toNat, by omega⟩
        set_option maxRecDepth 8000 in
        go_wp2_with fail
        have hd : d ≤ c := by omega
        obtain ⟨c0, h0⟩ : ∃ c0, cntB f a c = c0 := ⟨_, rfl⟩
        obtain ⟨c1, hc1⟩ : ∃ c1, cntB f a d = c1 := ⟨_, rfl⟩
        obtain ⟨c2, hc2⟩ : ∃ c2, cntB f (a + d) (c - d) = c2 := ⟨_, rfl⟩
        have hs : c1 + c2 = c0 := by rw [← h0, ← hc1, ← hc2, ← cntB_add]; congr 1; omega
        have l1 : c1 ≤ d := by rw [← hc1]; exact cntB_le _ _ _
        have l2 : c2 ≤ c - d := by rw [← hc2]; exact cntB_le _ _ _
        have z1 : Seal (cntB (runSet f a d true) a c = d + c2) := ⟨by rw [cnt_set hd, hc2]⟩
        have z2 : Seal (cntB (runSet (runSet f a d true) a c false) a c = 0) := ⟨cntB_zero _ (fun t u v => by rw [runSet, if_pos ⟨u, v⟩])⟩
        have C1 : Seal _ := ⟨hc1⟩
        have e1 : Seal (okRun N ((a : Int) + d) ((c : Int) - d) = true) := ⟨by simp [okRun]; omega⟩
        have e2 : Seal (cntI f N ((a : Int) + d) ((c : Int) - d) = c2) := ⟨by rw [cntI, e1.out, ← hc2]; show cntB f _ _ = _; congr 1; omega⟩
        rw [h0]
        clear h0 hc1 hc2
        refine (Count_yes a d N p q f _ b2 (by omega)).mono ?_
        rintro e w3 ⟨rfl, k3⟩
        rw [C1.out]
        have b3 := b2.keep k3 (fun h => h) (fun h => h)
        have hsi : (c1 : Int) + c2 = c0 := by omega
        set_option maxRecDepth 8000 in
        go_wp2_with fail
        refine (Count_int ((a : Int) + d) ((c : Int) - d) N p q f _ b3).mono ?_
        rintro e w4 ⟨rfl, k4⟩
        rw [e1.out, e2.out]
        dsimp only [errV]
        have b4 := b3.keep k4 (fun h => h) (fun h => h)
        set_option maxRecDepth 8000 in
        go_wp2_with fail
        refine (SetRun_yes a d N p q f _ b4 (by omega)).mono ?_
        rintro e w5 ⟨rfl, k5, b5⟩
        clear hsi
        set_option maxRecDepth 8000 in
        go_wp2_with fail
        refine (Count_yes a c N p q _ _ b5 (by omega)).mono ?_
        rintro e w6 ⟨rfl, k6⟩
        rw [z1.out]
        have b6 := b5.keep k6 (fun h => h) (fun h => h)
        set_option maxRecDepth 8000 in
        go_wp2_with fail
        refine (ClearRun_yes a c N p q _ _ b6 (by omega)).mono ?_
        rintro e w7 ⟨rfl, k7, b7⟩
        set_option maxRecDepth 8000 in
        go_wp2_with fail
        refine (Count_yes a c N p q _ _ b7 (by omega)).mono ?_
        rintro e w8 ⟨rfl, k8⟩
        rw [z2.out]
        set_option maxRecDepth 8000 in
        go_wp2_with (go_at_call 11; refine (alive03 _).mono ?_; rintro e w' ⟨rfl, hk'⟩)
        go_ret
        refine ⟨rfl, ?_⟩
        have K := (((((((hk2.of_not (fun b => b = q)).trans k3 (fun _ _ h => h.elim)).trans k4 (fun _ _ h => h.elim)).trans k5 (fun _ _ h => h)).trans k6 (fun _ _ h => h.elim)).trans k7 (fun _ _ h => h)).trans k8 (fun _ _ h => h.elim)).trans hk' (fun _ _ h => h.elim)
        exact K.mono (fun t ht h => by omega)

end Go.Proofs.Ytpjcgjbobljaeaa
