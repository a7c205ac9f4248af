/-
  BitsRuns: the law's walk.
-/
import Derived.Test.YtpjcgjbobljaeaaBitsDoes
import Derived.Test.YtpjcgjbobljaeaaSteps
namespace Go.Proofs.Ytpjcgjbobljaeaa
open Go.RowKit
set_option linter.unusedVariables false

theorem runs_step {f : Nat → Bool} {N F c : Nat} {acc : List (Nat × Nat)} (h : runsB f N = acc ++ runsF f N F c) (hF : N + 1 ≤ F + c) (hc : c ≤ N) (hl : acc.length < (runsB f N).length) :
    ∃ a k F', c ≤ a ∧ 0 < k ∧ a + k ≤ N ∧ nextB f N c = some a ∧ (∀ t, c ≤ t → t < a → f t = false) ∧ (∀ t, a ≤ t → t < a + k → f t = true) ∧ (a + k < N → f (a + k) = false) ∧
      nextB (fun t => !f t) N a = (if a + k < N then some (a + k) else none) ∧ (runsB f N).getD acc.length (0, 0) = (a, k) ∧ N + 1 ≤ F' + (a + k) ∧ runsB f N = (acc ++ [(a, k)]) ++ runsF f N F' (a + k) := by
  obtain ⟨F', rfl⟩ : ∃ F', F = F' + 1 := ⟨F - 1, by omega⟩
  rcases nextB_spec f N c with ⟨a, ha, a1, a2, a3, a4⟩ | ⟨ha, -⟩
  · obtain ⟨e, he⟩ : ∃ e, (nextB (fun t => !f t) N a).getD N = e := ⟨_, rfl⟩
    have hr := runsF_some (F := F') ha he
    rw [hr] at h
    have key : a < e ∧ e ≤ N ∧ (∀ t, a ≤ t → t < e → f t = true) ∧ (e < N → f e = false) ∧ nextB (fun t => !f t) N a = (if e < N then some e else none) := by
      rcases nextB_spec (fun t => !f t) N a with ⟨j, h1, h2, h3, h4, h5⟩ | ⟨h1, h5⟩
      · rw [h1] at he
        obtain rfl : j = e := he
        have hne : j ≠ a := fun e => by rw [e, a3] at h4; simp at h4
        exact ⟨by omega, by omega, fun t u v => by simpa using h5 t u v, fun _ => by simpa using h4, by rw [h1, if_pos h3]⟩
      · rw [h1] at he
        obtain rfl : N = e := he
        exact ⟨a2, Nat.le_refl _, fun t u v => by simpa using h5 t u v, fun h => by omega, by rw [h1, if_neg (by omega)]⟩
    obtain ⟨k1, k2, k3, k4, k5⟩ := key
    obtain ⟨k, rfl⟩ : ∃ k, e = a + k := ⟨e - a, by omega⟩
    rw [Nat.add_sub_cancel_left] at h
    exact ⟨a, k, F', a1, by omega, k2, ha, a4, k3, k4, k5, by rw [h]; simp [List.getD_eq_getElem?_getD], by omega, by rw [h]; simp⟩
  · rw [runsF_none ha, List.append_nil] at h
    rw [h] at hl
    omega

theorem runs_end {f : Nat → Bool} {N F c : Nat} {acc : List (Nat × Nat)} (h : runsB f N = acc ++ runsF f N F c) (hF : N + 1 ≤ F + c) (hc : c ≤ N) (hl : ¬ acc.length < (runsB f N).length) : nextB f N c = none ∧ ∀ t, c ≤ t → t < N → f t = false := by
  obtain ⟨F', rfl⟩ : ∃ F', F = F' + 1 := ⟨F - 1, by omega⟩
  rcases nextB_spec f N c with ⟨a, ha, -, -, -, -⟩ | ⟨ha, h2⟩
  · rw [runsF_some ha rfl] at h
    rw [h] at hl
    simp at hl
  · exact ⟨ha, h2⟩

theorem runs_len {f : Nat → Bool} {N : Nat} : ∀ (F c : Nat), c ≤ N → (runsF f N F c).length + c ≤ N
  | 0, c, h => by simp [runsF]; exact h
  | F + 1, c, h => by
    rcases nextB_spec f N c with ⟨a, ha, a1, a2, a3, a4⟩ | ⟨ha, -⟩
    · obtain ⟨e, he⟩ : ∃ e, (nextB (fun t => !f t) N a).getD N = e := ⟨_, rfl⟩
      rw [runsF_some ha he]
      have key : a < e ∧ e ≤ N := by
        rcases nextB_spec (fun t => !f t) N a with ⟨j, h1, h2, h3, h4, h5⟩ | ⟨h1, h5⟩
        · rw [h1] at he
          obtain rfl : j = e := he
          have hne : j ≠ a := fun e => by rw [e, a3] at h4; simp at h4
          omega
        · rw [h1] at he
          obtain rfl : N = e := he
          omega
      have := runs_len (f := f) F e key.2
      simp only [List.length_cons]
      omega
    · rw [runsF_none ha]; simpa using h

set_option maxRecDepth 20000 in
set_option maxHeartbeats 8000000 in
theorem runs_walk (n : Int) (v : Value) (len : Nat) (x : Nat → Nat → Int) (w : World) (hv : IntsAt 3 w v len x) :
    Calls Try.prog 4 #[.int .i64 n, v] w fun e w' => e = .returned (.bool true) ∧ Keep Nope w w' := by
  have HV : Seal _ := ⟨hv⟩
  obtain ⟨va, vc, rfl, -⟩ := hv
  by_cases h1 : 60 < len
  · have h1' : (60 : Int) < len := by omega
    go_enter Try.func4, Try.ntmps4
    go_wp2_with (go_at_call 11; refine (alive03 _).mono ?_; rintro e w' ⟨rfl, hk⟩)
    go_ret
    exact ⟨rfl, hk⟩
  have h1' : ¬ (60 : Int) < len := by omega
  by_cases h2 : n < 0
  · go_enter Try.func4, Try.ntmps4
    go_wp2_with (go_at_call 11; refine (alive03 _).mono ?_; rintro e w' ⟨rfl, hk⟩)
    go_ret
    exact ⟨rfl, hk⟩
  by_cases h3 : 3000 < n
  · go_enter Try.func4, Try.ntmps4
    go_wp2_with (go_at_call 11; refine (alive03 _).mono ?_; rintro e w' ⟨rfl, hk⟩)
    go_ret
    exact ⟨rfl, hk⟩
  obtain ⟨N, rfl⟩ : ∃ N : Nat, n = N := ⟨n.toNat, by omega⟩
  have hN : N ≤ 3000 := by omega
  clear h1 h2 h3
  have h2 : ¬ (N : Int) < 0 := by omega
  have h3 : ¬ (3000 : Int) < N := by omega
  go_enter Try.func4, Try.ntmps4
  go_wp2_with fail
  refine (New_yes N w (by omega)).mono ?_
  rintro e w1 ⟨p, q, rfl, hp, hq, b1, k1⟩
  have q1 := b1.lt_q'
  go_wp2_with fail
  go_loopw [7] (fun y wr => ∃ (j : Nat) (f : Nat → Bool), j ≤ len ∧ y = .int .i64 (j : Nat) ∧ BitsAt wr p q f N ∧ Keep Nope w wr) (fun y _ => len - (intOf y).toNat)
  case atStart => exact ⟨0, _, by omega, rfl, b1, k1⟩
  case round =>
    obtain ⟨j, f, hj, rfl, hb, hk⟩ := hrel
    by_cases hjl : j < len
    · obtain ⟨va', vc', e, hx⟩ := HV.out
      injection e with e1 _ e2
      subst e1 e2
      obtain ⟨b, o, rfl, hbl, hx⟩ := hx j hjl
      obtain ⟨d, hd⟩ : ∃ d, d = x j 0 := ⟨_, rfl⟩
      obtain ⟨a, ha⟩ : ∃ a, a = x j 1 := ⟨_, rfl⟩
      obtain ⟨c, hc⟩ : ∃ c, c = x j 2 := ⟨_, rfl⟩
      have x0 := hk.cell (hx 0 (by omega)).1 (fun h => h)
      have x1 := hk.cell (hx 1 (by omega)).1 (fun h => h)
      have x2 := hk.cell (hx 2 (by omega)).1 (fun h => h)
      rw [Nat.add_zero, ← hd] at x0
      rw [← Nat.add_assoc, ← ha] at x1
      rw [← Nat.add_assoc, ← hc] at x2
      clear hx hd ha hc
      have hwr := hk.size
      have lq := hb.lt_q'
      go_wp2_with fail
      go_region_held3 (fun w' => w'.cell? ⟨b, o + j * 3, none⟩ = some (.int .i64 d) ∧ w'.cell? ⟨b, o + j * 3 + 1, none⟩ = some (.int .i64 a) ∧ w'.cell? ⟨b, o + j * 3 + 2, none⟩ = some (.int .i64 c))
        (first | go_keep | exact ⟨k2.cell x0 (fun h => h), k2.cell x1 (fun h => h), k2.cell x2 (fun h => h)⟩ | exact ⟨k3.cell (k2.cell x0 (fun h => h)) nqg, k3.cell (k2.cell x1 (fun h => h)) nqg, k3.cell (k2.cell x2 (fun h => h)) nqg⟩)
        (first
          | (go_at_call 14; refine (RNew_at N _ (by omega)).mono ?_; rintro e w2 ⟨rp, g, rfl, hrp, hg, r2, k2⟩; have b2 := hb.keep (S := Nope) (by first | exact k2 | exact (Keep.refl _ _).drew.trans k2 (fun _ _ h => h)) (fun h => h) (fun h => h); have nqg : ¬ (b = q ∨ b = g) := by first | omega | (have hg' : wr.heap.size ≤ g := hg; omega))
          | (go_at_call 13; refine (does_any d a c p q rp g N f (fun _ => false) _ (b2.keep (S := Nope) (by first | exact Keep.refl Nope _ | exact (Keep.refl Nope _).drew) (fun h => h) (fun h => h)) (r2.keep (S := Nope) (by first | exact Keep.refl Nope _ | exact (Keep.refl Nope _).drew) (fun h => h) (fun h => h))).mono ?_; rintro e w3 ⟨rfl, k3, b3, r3⟩))
      clear x0 x1 x2
      go_wp2
      refine ⟨⟨j + 1, _, by omega, by go_num, b3, ?_⟩, by simp only [intOf]; omega⟩
      exact ((hk.trans ((Keep.refl Nope wr).drew) (fun _ _ h => h)).trans k2 (fun _ _ h => h)).trans k3 (fun t ht h => by have hg' : wr.heap.size ≤ g := hg; rcases h with h | h <;> omega)
    · have hjl' : ¬ (j : Int) < len := by omega
      clear HV
      go_wp2_with fail
      refine (Runs_at N p q f _ hb).mono ?_
      rintro e w2 ⟨u, rfl, o2, k2⟩
      have b2 := hb.keep k2 (fun h => h) (fun h => h)
      have hk2 := hk.trans k2 (fun _ _ h => h)
      have r2 := RunsAt.of_owns o2
      clear o2
      go_wp2_with fail
      obtain ⟨ua, uc, rfl, hx⟩ := r2
      obtain ⟨L, hL⟩ : ∃ L, L = (runsB f N).length := ⟨_, rfl⟩
      have hLN : L ≤ N := by have := runs_len (f := f) (N := N) (N + 1) 0 (by omega); rw [hL, runsB]; omega
      have HX : Seal _ := ⟨hx⟩
      have HL : Seal _ := ⟨hL⟩
      rw [← hL]
      clear hx hL
      go_loopw [9, 10, 11] (fun y z i wr => ∃ (c F : Nat) (acc : List (Nat × Nat)) (E : Int), c ≤ N ∧ N + 1 ≤ F + c ∧ Seal (runsB f N = acc ++ runsF f N F c) ∧ acc.length ≤ L ∧ i = .int .i64 (acc.length : Nat) ∧ y = .int .i64 E ∧
        ((E = -1 ∧ c = 0) ∨ (E = c ∧ 0 < c ∧ Seal (c < N → f c = false))) ∧ z = .int .i64 (cntB f 0 c : Nat) ∧ Keep Nope w2 wr) (fun _ _ i _ => L - (intOf i).toNat)
      case atStart => exact ⟨0, N + 1, [], -1, by omega, by omega, ⟨rfl⟩, by simp, rfl, rfl, .inl ⟨rfl, rfl⟩, rfl, Keep.refl _ _⟩
      case round =>
        obtain ⟨c, F, acc, E, hc, hF, HR, hal, rfl, rfl, hE, rfl, hkr⟩ := hrel
        obtain ⟨ci, hci⟩ : ∃ ci, cntB f 0 c = ci := ⟨_, rfl⟩
        have hcl : ci ≤ c := by rw [← hci]; exact cntB_le _ _ _
        have HCI : Seal _ := ⟨hci⟩
        rw [hci]
        clear hci
        obtain ⟨I, hI⟩ : ∃ I, I = acc.length := ⟨_, rfl⟩
        have HI : Seal _ := ⟨hI⟩
        rw [← hI] at hal ⊢
        have hbr := b2.keep hkr (fun h => h) (fun h => h)
        by_cases hIL : I < L
        · obtain ⟨a, k, F', a1, a2, a3, a4, a5, a6, a7, a8, a9, a10, a11⟩ := runs_step HR.out hF hc (by rw [← HL.out, ← hI]; exact hIL)
          obtain ⟨g, hg, hgl, gx, gy⟩ := HX.out I (by rw [← HL.out]; exact hIL)
          rw [hI, a9] at gx gy
          rw [← hI] at gx gy
          dsimp only at gx gy
          subst hg
          have gx := hkr.cell gx (fun h => h)
          have gy := hkr.cell gy (fun h => h)
          have gl : g < _ := Nat.lt_of_lt_of_le hgl hkr.size
          have A4 : Seal _ := ⟨a4⟩
          have A5 : Seal _ := ⟨a5⟩
          have A6 : Seal _ := ⟨a6⟩
          have A7 : Seal _ := ⟨a7⟩
          have A8 : Seal _ := ⟨a8⟩
          have A11 : Seal _ := ⟨a11⟩
          clear hI a4 a5 a6 a7 a8 a9 a11 HX
          have hEa : ¬ (a : Int) ≤ E := by
            rcases hE with ⟨e1, e2⟩ | ⟨e1, e2, e3⟩
            · omega
            · have : a ≠ c := fun e => by
                have h1 := A6.out a (Nat.le_refl _) (by omega)
                rw [e, e3.out (by omega)] at h1
                cases h1
              omega
          have t2 : ¬ (k : Int) < 1 := by omega
          have t3 : ¬ (N : Int) < a := by omega
          have t4 : ¬ (N : Int) - a < k := by omega
          have HE : Seal _ := ⟨hE⟩
          rcases hE with ⟨e1, e2⟩ | ⟨e1, e2, -⟩
          all_goals
            have hsg : (E < 0 ∧ Seal (Int.toNat 0 = c)) ∨ (0 ≤ E ∧ Seal (E.toNat = c)) := by first | exact .inl ⟨by omega, ⟨by omega⟩⟩ | exact .inr ⟨by omega, ⟨by omega⟩⟩
            first | have hs0 : E < 0 := by omega | have hs0 : 0 ≤ E := by omega
            first | have hval : Seal ((0 : Int) = c) := ⟨by omega⟩ | have hval : Seal (E = c) := ⟨by omega⟩
            clear e1 e2 hsg
            try clear e2
            go_wp2_with fail
            obtain ⟨W0, hW0⟩ : ∃ W0, W0 = wr.alloc (.cells #[.int .i64 (a : Nat), .int .i64 (k : Nat)] 40) := ⟨_, rfl⟩
            rw [← hW0]
            have kW0 : Keep Nope wr W0 := by rw [hW0]; exact (Keep.refl _ wr).alloc _
            have hB0 : W0.heap[wr.heap.size]? = some (.cells #[.int .i64 (a : Nat), .int .i64 (k : Nat)] 40 (0, 0)) := by rw [hW0]; exact World.alloc_heap_new wr _
            obtain ⟨B, hB⟩ : ∃ B, B = wr.heap.size := ⟨_, rfl⟩
            rw [← hB] at hB0 ⊢
            have s0 := (cell_of_two hB0).1
            have s1 := (cell_of_two hB0).2
            have hWl := lt_of_heap hB0
            clear hW0 hB hB0
            go_loopw [13] (fun y wk => ∃ κ : Nat, c ≤ κ ∧ κ ≤ a + k ∧ y = .int .i64 (κ : Nat) ∧ Keep Nope W0 wk) (fun y _ => a + k - (intOf y).toNat)
            case atStart => exact ⟨c, by omega, by omega, by rw [← hval.out], Keep.refl _ _⟩
            case round =>
              obtain ⟨κ, c1, c2, rfl, kk⟩ := hrel
              have s0 := kk.cell s0 (fun h => h)
              have s1 := kk.cell s1 (fun h => h)
              have hWl := Nat.lt_of_lt_of_le hWl kk.size
              have hbk := (hbr.keep kW0 (fun h => h) (fun h => h)).keep kk (fun h => h) (fun h => h)
              by_cases hκ : κ < a + k
              · have hκ' : (κ : Int) < (a : Int) + k := by omega
                have hf : Seal (f κ = decide ((a : Int) ≤ κ)) := ⟨by
                  by_cases h : a ≤ κ
                  · rw [A6.out κ h hκ]; simp; omega
                  · rw [A5.out κ c1 (by omega)]; simp; omega⟩
                go_wp2_with fail
                go_region_held3 (fun w' => w'.cell? ⟨B, 0, none⟩ = some (.int .i64 (a : Nat)) ∧ w'.cell? ⟨B, 1, none⟩ = some (.int .i64 (k : Nat))) (first | go_keep | exact ⟨kH.cell s0 (fun h => h), kH.cell s1 (fun h => h)⟩)
                  ((go_at_call 19; refine (Has_in κ N p q f _ (hbk.keep (S := Nope) (by first | exact Keep.refl Nope _ | exact (Keep.refl Nope _).drew) (fun h => h) (fun h => h)) (by omega)).mono ?_; rintro e wH ⟨rfl, kH⟩; rw [hf.out]))
                clear gx gy
                go_wp2
                exact ⟨⟨κ + 1, by omega, by omega, by go_num, kk.trans (((Keep.refl Nope _).drew).trans kH (fun _ _ h => h)) (fun _ _ h => h)⟩, by simp only [intOf]; omega⟩
              · have hκ' : ¬ (κ : Int) < (a : Int) + k := by omega
                have hcl' := hval.out
                have A9 : Seal (prevB f (min ((a : Int) + k + 1) N).toNat = some (a + k - 1)) := ⟨prevB_some (by omega) (A6.out _ (by omega) (by omega)) (fun t u v => by rw [show t = a + k by omega]; exact A7.out (by omega))⟩
                have N1 : Seal (Int.toNat 0 = c ∨ E.toNat = c) := ⟨by omega⟩
                have N0 : Seal (0 < E ∨ E < 0 → (E < 0 → Int.toNat 0 = c) ∧ (0 ≤ E → E.toNat = c)) := ⟨by omega⟩
                have hz : ((a + k - 1 : Nat) : Int) = (a : Int) + k - 1 := by omega
                have HZ : Seal _ := ⟨hz⟩
                have CE : Seal (cntB f 0 (a + k) = ci + k) := ⟨by
                  rw [show a + k = c + ((a - c) + k) by omega, cntB_add, HCI.out, Nat.zero_add, cntB_add, cntB_zero (a - c) (fun t u v => A5.out t u (by omega)), Nat.zero_add, cntB_all k (fun t u v => A6.out t (by omega) (by omega))]⟩
                have hcik : ci + k ≤ N := by omega
                clear hcl' hz gx gy gl hgl
                go_wp2_with fail
                refine (Next_at _ N p q f _ hbk).mono ?_
                rintro e x1 ⟨rfl, y1⟩
                first
                  | rw [show Int.toNat 0 = c from by have := hval.out; omega]
                  | rw [show E.toNat = c from by have := hval.out; omega]
                rw [A4.out]
                dsimp only [optV, Option.getD_some, Option.isSome_some]
                have hx1 := hbk.keep y1 (fun h => h) (fun h => h)
                have s0 := y1.cell s0 (fun h => h)
                have s1 := y1.cell s1 (fun h => h)
                have hWl := Nat.lt_of_lt_of_le hWl y1.size
                go_wp2_with fail
                refine (NextClear_at _ N p q f _ hx1).mono ?_
                rintro e x2 ⟨rfl, y2⟩
                rw [Int.toNat_natCast, A8.out]
                have hx2 := hx1.keep y2 (fun h => h) (fun h => h)
                have s0 := y2.cell s0 (fun h => h)
                have s1 := y2.cell s1 (fun h => h)
                have hWl := Nat.lt_of_lt_of_le hWl y2.size
                have hrel2 : ∀ x6 : World, Keep Nope x2 x6 → (∃ (c' F'' : Nat) (acc' : List (Nat × Nat)) (E' : Int), c' ≤ N ∧ N + 1 ≤ F'' + c' ∧ Seal (runsB f N = acc' ++ runsF f N F'' c') ∧ acc'.length ≤ L ∧ Value.int .i64 ((I : Int) + 1) = .int .i64 (acc'.length : Nat) ∧ Value.int .i64 ((a : Int) + k) = .int .i64 E' ∧
                    ((E' = -1 ∧ c' = 0) ∨ (E' = c' ∧ 0 < c' ∧ Seal (c' < N → f c' = false))) ∧ Value.int .i64 ((ci : Int) + k) = .int .i64 (cntB f 0 c' : Nat) ∧ Keep Nope w2 x6) := fun x6 y6 =>
                  ⟨a + k, F', acc ++ [(a, k)], (a : Int) + k, a3, a10, A11, by rw [List.length_append, ← HI.out]; simp; omega, by rw [List.length_append, ← HI.out]; rfl, rfl, .inr ⟨by omega, by omega, A7⟩, by rw [CE.out]; rfl,
                    ((((hkr.trans kW0 (fun _ _ h => h)).trans kk (fun _ _ h => h)).trans y1 (fun _ _ h => h)).trans y2 (fun _ _ h => h)).trans y6 (fun _ _ h => h)⟩
                have H2 : Seal _ := ⟨hrel2⟩
                clear hrel2
                by_cases hek : a + k < N
                · rw [if_pos hek]
                  have hek' : (a : Int) + k < N := by omega
                  dsimp only [optV, Option.getD_some, Option.isSome_some]
                  go_wp2_with fail
                  refine (Prev_at _ N p q f _ hx2 (by omega)).mono ?_
                  rintro e x3 ⟨rfl, y3⟩
                  rw [A9.out]
                  dsimp only [optV, Option.getD_some, Option.isSome_some]
                  rw [HZ.out]
                  have s0 := y3.cell s0 (fun h => h)
                  have s1 := y3.cell s1 (fun h => h)
                  have hWl := Nat.lt_of_lt_of_le hWl y3.size
                  go_wp2
                  exact ⟨H2.out x3 y3, by simp only [intOf]; omega⟩
                · rw [if_neg hek]
                  have hek' : ¬ (a : Int) + k < N := by omega
                  dsimp only [optV, Option.getD_none, Option.isSome_none]
                  go_wp2_with fail
                  refine (Prev_at _ N p q f _ hx2 (by omega)).mono ?_
                  rintro e x3 ⟨rfl, y3⟩
                  rw [A9.out]
                  dsimp only [optV, Option.getD_some, Option.isSome_some]
                  rw [HZ.out]
                  have s0 := y3.cell s0 (fun h => h)
                  have s1 := y3.cell s1 (fun h => h)
                  have hWl := Nat.lt_of_lt_of_le hWl y3.size
                  go_wp2
                  exact ⟨H2.out x3 y3, by simp only [intOf]; omega⟩
        · obtain ⟨z1, z2⟩ := runs_end HR.out hF hc (by rw [← HL.out, ← hI]; exact hIL)
          have Z1 : Seal _ := ⟨z1⟩
          have Z2 : Seal _ := ⟨z2⟩
          have CN : Seal (cntB f 0 N = ci) := ⟨by
            rw [show N = c + (N - c) by omega, cntB_add, HCI.out, Nat.zero_add, cntB_zero (N - c) (fun t u v => Z2.out t u (by omega)), Nat.add_zero]⟩
          have hIL' : ¬ (I : Int) < L := by omega
          clear z1 z2 hI HX
          have HE : Seal _ := ⟨hE⟩
          rcases hE with ⟨e1, e2⟩ | ⟨e1, e2, -⟩
          all_goals
            first | have hs0 : E < 0 := by omega | have hs0 : 0 ≤ E := by omega
            first | have hval : Seal ((0 : Int) = c) := ⟨by omega⟩ | have hval : Seal (E = c) := ⟨by omega⟩
            clear e1
            try clear e2
            go_wp2_with fail
            go_loopw [20] (fun y wk => ∃ κ : Nat, c ≤ κ ∧ κ ≤ N ∧ y = .int .i64 (κ : Nat) ∧ Keep Nope w2 wk) (fun y _ => N - (intOf y).toNat)
            case atStart => exact ⟨c, by omega, by omega, by rw [← hval.out], hkr⟩
            case round =>
              obtain ⟨κ, c1, c2, rfl, kk⟩ := hrel
              have hbk := b2.keep kk (fun h => h) (fun h => h)
              by_cases hκ : κ < N
              · have hκ' : (κ : Int) < N := by omega
                have hf : Seal (f κ = false) := ⟨Z2.out κ c1 hκ⟩
                go_wp2_with fail
                refine (Has_in κ N p q f _ hbk (by omega)).mono ?_
                rintro e wH ⟨rfl, kH⟩
                rw [hf.out]
                go_wp2
                exact ⟨⟨κ + 1, by omega, by omega, by go_num, kk.trans kH (fun _ _ h => h)⟩, by simp only [intOf]; omega⟩
              · have hκ' : ¬ (κ : Int) < N := by omega
                go_wp2_with fail
                refine (Next_at _ N p q f _ hbk).mono ?_
                rintro e x1 ⟨rfl, y1⟩
                first
                  | rw [show Int.toNat 0 = c from by have := hval.out; omega]
                  | rw [show E.toNat = c from by have := hval.out; omega]
                rw [Z1.out]
                dsimp only [optV, Option.getD_none, Option.isSome_none]
                have hx1 := hbk.keep y1 (fun h => h) (fun h => h)
                go_wp2_with fail
                refine (Count_yes 0 N N p q f _ hx1 (by omega)).mono ?_
                rintro e x2 ⟨rfl, y2⟩
                rw [CN.out]
                go_wp2_with (go_at_call 11; refine (alive03 _).mono ?_; rintro e w' ⟨rfl, hk'⟩)
                go_ret
                exact ⟨rfl, (((hk2.trans kk (fun _ _ h => h)).trans y1 (fun _ _ h => h)).trans y2 (fun _ _ h => h)).trans hk' (fun _ _ h => h)⟩

end Go.Proofs.Ytpjcgjbobljaeaa
