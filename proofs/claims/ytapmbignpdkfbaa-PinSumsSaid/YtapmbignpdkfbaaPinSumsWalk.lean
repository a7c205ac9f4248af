/-
  PinSums: the law's walk.
-/
import Derived.Test.YtapmbignpdkfbaaPinR
namespace Go.Proofs.Ytapmbignpdkfbaa
open Go.RowKit
set_option linter.unusedVariables false

/-- A table with the row L behind m acts, of A at most. -/
def OneT (w : World) (p b m : Nat) (L : List Nat) (A : Nat) : Prop := PinAt w p b m (cL L) ∧ OkL L ∧ L.length ≤ m ∧ m ≤ A

theorem OneT.keep {S : Nat → Prop} {w w' : World} {p b m A : Nat} {L : List Nat} (h : OneT w p b m L A) (k : Keep S w w') (hp : ¬ S p) (hb : ¬ S b) : OneT w' p b m L A := ⟨h.1.keep k hp hb, h.2⟩

theorem OneT.more {w : World} {p b m A B : Nat} {L : List Nat} (h : OneT w p b m L A) (hA : A ≤ B) : OneT w p b m L B := ⟨h.1, h.2.1, h.2.2.1, Nat.le_trans h.2.2.2 hA⟩

theorem OneT.pin {w : World} {p b m A : Nat} {L : List Nat} (h : OneT w p b m L A) (hA : A < 4096) {g : Nat} (hg : g < 18446744073709551616) :
    Calls Try.prog 10 #[.pointer (some ⟨p, 0, none⟩), .int .u64 (g : Nat)] w fun e w' => e = .returned (.int .i64 (pinE (cL L) g : Nat)) ∧ OneT w' p b (m + 1) (pinL L g) (A + 1) ∧ Keep (fun k => k = b) w w' :=
  (PinL_at h.1 (by have := h.2.2.2; omega) hg).mono fun e w' ⟨h1, h2, h3⟩ => ⟨h1, ⟨h2, h.2.1.pin hg, by have := pinL_len L g; have := h.2.2.1; omega, by have := h.2.2.2; omega⟩, h3⟩

theorem OneT.unpin {w : World} {p b m A : Nat} {L : List Nat} (h : OneT w p b m L A) (hA : A < 4096) {g : Nat} (hg : g < 18446744073709551616) :
    Calls Try.prog 11 #[.pointer (some ⟨p, 0, none⟩), .int .u64 (g : Nat)] w fun e w' => e = .returned (.int .i64 (unE (cL L) g : Nat)) ∧ OneT w' p b (m + 1) (L.erase g) (A + 1) ∧ Keep (fun k => k = b) w w' :=
  (UnpinL_at h.1 (by have := h.2.2.2; omega) hg (by have := h.2.2.2; have := h.2.2.1; omega)).mono fun e w' ⟨h1, h2, h3⟩ => ⟨h1, ⟨h2, h.2.1.erase g, by have := erase_len L g; have := h.2.2.1; omega, by have := h.2.2.2; omega⟩, h3⟩

def BalK (d n : Nat → Int) (g : Nat → Nat) (i k : Nat) (L : List Nat) : Prop := Bal (fK d n g i k) (tK d n i k) L

theorem BalK.pin {d n : Nat → Int} {g : Nat → Nat} {i k G : Nat} {L : List Nat} (h : BalK d n g i k L) (hd : d i = 0) (hG : g i = G) (he : pinE (cL L) G = 0) : BalK d n g i (k + 1) (pinL L G) := Bal.pin h hd hG he

theorem BalK.unpin {d n : Nat → Int} {g : Nat → Nat} {i k G : Nat} {L : List Nat} (h : BalK d n g i k L) (hd : d i = 1) (hG : g i = G) (he : unE (cL L) G = 0) : BalK d n g i (k + 1) (L.erase G) := Bal.unpin h hd hG he

theorem BalK.rest {d n : Nat → Int} {g : Nat → Nat} {i k : Nat} {L : List Nat} (h : BalK d n g i k L) (h0 : d i ≠ 0) (h1 : d i ≠ 1) : BalK d n g i (k + 1) L := Bal.rest h h0 h1

theorem BalK.done {d n : Nat → Int} {g : Nat → Nat} {i : Nat} {L : List Nat} (h : BalK d n g i (n i).toNat L) : BalK d n g (i + 1) 0 L := by
  unfold BalK at h ⊢
  rwa [fK_done, tK_done] at h

set_option maxRecDepth 20000 in
set_option maxHeartbeats 8000000 in
theorem sums_walk (v : Value) (len : Nat) (d n : Nat → Int) (g : Nat → Nat) (t : Int) (ht0 : 0 ≤ t) (ht1 : t ≤ 255) (w : World) (hv : StepU w v len d n g) :
    Calls Try.prog 3 #[v, .int .u8 t] w fun e w' => e = .returned (.bool true) ∧ Keep Nope w w' := by
  have HV : Seal _ := ⟨hv⟩
  obtain ⟨a, c, rfl⟩ := hv.slice
  obtain ⟨T, rfl⟩ : ∃ T : Nat, t = T := ⟨t.toNat, by omega⟩
  clear hv
  go_enter Try.func3, Try.ntmps3
  go_wp2_with fail
  refine (HeavyU_any _ len d n g w HV.out).mono ?_
  rintro e w' ⟨t, rfl, rfl, hlight⟩
  cases t with
  | true =>
    go_wp2_with fail
    refine (alive17 _).mono ?_
    rintro e w2 ⟨rfl, k⟩
    go_wp2_with fail
    exact bodyPost_ret (v := .bool true) (by simp [results, Try.results3, go_sem]) rfl ⟨rfl, k⟩
  | false =>
    have HL : Seal _ := ⟨hlight rfl⟩
    have hl80 := HL.out.1
    clear hlight
    go_wp2_with fail
    refine (PNew_at _).mono ?_
    rintro e w1 ⟨p, b, rfl, hP, hp, hb, k1⟩
    have HP : Seal (PinAt w1 p b 0 (cL [])) := ⟨hP⟩
    have HK : Seal _ := ⟨k1⟩
    have hlt := hP.lt
    clear hP k1
    go_wp2_with fail
    refine (PNew_at _).mono ?_
    rintro e w2 ⟨p2, b2, rfl, hP2, hp2, hb2, k2⟩
    have HP1 : Seal (OneT w2 p b 0 [] 0) := ⟨HP.out.keep k2 (fun h => h) (fun h => h), OkL.nil, Nat.le_refl _, Nat.le_refl _⟩
    have HP2 : Seal (OneT w2 p2 b2 0 [] 0) := ⟨hP2, OkL.nil, Nat.le_refl _, Nat.le_refl _⟩
    have HK2 : Seal _ := ⟨HK.out.thenU k2⟩
    have hne : p ≠ b2 ∧ b ≠ b2 ∧ p2 ≠ b ∧ b2 ≠ b ∧ w'.heap.size ≤ b2 := by have := HK.out.size; omega
    clear hP2 k2 HK HP
    go_wp2_with fail
    obtain ⟨dr, hdr⟩ : ∃ dr : Nat → Int, dr = fun i => d ((i + T) % len) := ⟨_, rfl⟩
    obtain ⟨nr, hnr⟩ : ∃ nr : Nat → Int, nr = fun i => n ((i + T) % len) := ⟨_, rfl⟩
    obtain ⟨gr, hgr⟩ : ∃ gr : Nat → Nat, gr = fun i => g ((i + T) % len) := ⟨_, rfl⟩
    have HN1 : Seal (∀ i, i ≤ len → sumN n i ≤ 1200) := ⟨fun i hi => Nat.le_trans (sumN_mono n hi) HL.out.2.2⟩
    have HN2 : Seal (∀ i, i ≤ len → sumN nr i ≤ 1200) := ⟨fun i hi => Nat.le_trans (sumN_mono nr hi) (by rw [hnr, sumN_rot]; exact HL.out.2.2)⟩
    have HR : Seal (dr = (fun i => d ((i + T) % len)) ∧ nr = (fun i => n ((i + T) % len)) ∧ gr = fun i => g ((i + T) % len)) := ⟨hdr, hnr, hgr⟩
    clear hdr hnr hgr
    go_loopw [7, 8] (fun r z wr => ∃ (i m1 m2 : Nat) (L1 L2 : List Nat) (rf : Bool), i ≤ len ∧ r = .bool rf ∧ z = .int .i64 (i : Nat) ∧ Seal (OneT wr p b m1 L1 (sumN n i) ∧ OneT wr p2 b2 m2 L2 (sumN nr i) ∧ (rf = false → Bal (fK d n g i 0) (tK d n i 0) L1 ∧ Bal (fK dr nr gr i 0) (tK dr nr i 0) L2) ∧ Keep Nope w' wr)) (fun _ z _ => len - (intOf z).toNat)
    case atStart => exact ⟨0, 0, 0, [], [], false, Nat.zero_le _, rfl, rfl, ⟨HP1.out, HP2.out, fun _ => ⟨Bal.nil _ _ _, Bal.nil _ _ _⟩, HK2.out⟩⟩
    case round =>
      obtain ⟨i, m1, m2, L1, L2, rf, hi, rfl, rfl, HI⟩ := hrel
      by_cases hil : i < len
      · have hil' : (i : Int) < (len : Int) := by omega
        have hk0 := HI.out.2.2.2
        obtain ⟨ab, o, rfl, hab, y0, y1, y2, hg⟩ := HV.out.at hil
        obtain ⟨ab', o', e, -, v0, v1, v2, hg2⟩ := HV.out.at (Nat.mod_lt (i + T) (show 0 < len by omega))
        injection e with e
        injection e with e1 e2
        subst e1
        subst e2
        have R1 : Seal (d ((i + T) % len) = dr i ∧ n ((i + T) % len) = nr i ∧ g ((i + T) % len) = gr i) := ⟨by rw [HR.out.1], by rw [HR.out.2.1], by rw [HR.out.2.2]⟩
        obtain ⟨ir, hir⟩ : ∃ ir, (i + T) % len = ir := ⟨_, rfl⟩
        have hirl : ir < len := by rw [← hir]; exact Nat.mod_lt _ (by omega)
        rw [R1.out.1] at v0
        rw [R1.out.2.1] at v1
        rw [R1.out.2.2] at v2 hg2
        rw [hir] at v0 v1 v2
        obtain ⟨q, hq⟩ : ∃ q, n i = q := ⟨_, rfl⟩
        obtain ⟨D, hD⟩ : ∃ D, d i = D := ⟨_, rfl⟩
        obtain ⟨G, hG⟩ : ∃ G, g i = G := ⟨_, rfl⟩
        obtain ⟨q2, hq2⟩ : ∃ q2, nr i = q2 := ⟨_, rfl⟩
        obtain ⟨D2, hD2⟩ : ∃ D2, dr i = D2 := ⟨_, rfl⟩
        obtain ⟨G2, hG2⟩ : ∃ G2, gr i = G2 := ⟨_, rfl⟩
        rw [hD] at y0
        rw [hq] at y1
        rw [hG] at y2 hg
        rw [hD2] at v0
        rw [hq2] at v1
        rw [hG2] at v2 hg2
        have HF : Seal (d i = D ∧ n i = q ∧ g i = G ∧ dr i = D2 ∧ nr i = q2 ∧ gr i = G2) := ⟨hD, hq, hG, hD2, hq2, hG2⟩
        have HQ : Seal (sumN n (i + 1) = sumN n i + q.toNat ∧ sumN nr (i + 1) = sumN nr i + q2.toNat) := ⟨by rw [sumN, hq], by rw [sumN, hq2]⟩
        have hq12 : sumN n i + q.toNat ≤ 1200 := by rw [← HQ.out.1]; exact HN1.out _ (by omega)
        have hq13 : sumN nr i + q2.toNat ≤ 1200 := by rw [← HQ.out.2]; exact HN2.out _ (by omega)
        replace y0 := hk0.cell y0 (fun h => h)
        replace y1 := hk0.cell y1 (fun h => h)
        replace y2 := hk0.cell y2 (fun h => h)
        replace v0 := hk0.cell v0 (fun h => h)
        replace v1 := hk0.cell v1 (fun h => h)
        replace v2 := hk0.cell v2 (fun h => h)
        clear hq hD hG hq2 hD2 hG2 hk0
        have hab' : ab < wr.heap.size := by have := HI.out.2.2.2.size; omega
        have hrm : ((i : Int) + (T : Int)).tmod (len : Int) = (ir : Nat) := by rw [show ((i : Int) + (T : Int)) = ((i + T : Nat) : Int) by omega, ← hir]; exact (Int.ofNat_tmod (i + T) len).symm
        have hrm2 : IntKind.i64.wrap ((i : Int) + (T : Int)) = (i : Int) + (T : Int) := by rw [IntKind.wrap_i64]; omega
        go_wp2_with fail
        obtain ⟨A, hA⟩ : ∃ A, wr.heap.size = A := ⟨_, rfl⟩
        obtain ⟨W0, hW0⟩ : ∃ W0, (wr.alloc (.cells #[.int .i64 D, .int .i64 q, .int .u64 (G : Nat)] 29)).alloc (.cells #[.int .i64 D2, .int .i64 q2, .int .u64 (G2 : Nat)] 29) = W0 := ⟨_, rfl⟩
        have hkW : Keep Nope wr W0 := by rw [← hW0]; exact ((Keep.refl _ wr).alloc _).alloc _
        have hbA : W0.heap[A]? = some (.cells #[.int .i64 D, .int .i64 q, .int .u64 (G : Nat)] 29 (0, 0)) := by rw [← hW0, ← hA]; exact ((Keep.refl Nope _).alloc _).at_ (World.alloc_heap_new wr _) (fun h => h)
        have hbA1 : W0.heap[A + 1]? = some (.cells #[.int .i64 D2, .int .i64 q2, .int .u64 (G2 : Nat)] 29 (0, 0)) := by
          rw [← hW0, ← hA]
          have := World.alloc_heap_new (wr.alloc (.cells #[.int .i64 D, .int .i64 q, .int .u64 (G : Nat)] 29)) (.cells #[.int .i64 D2, .int .i64 q2, .int .u64 (G2 : Nat)] 29)
          simpa using this
        have hl1 := HI.out.1.1.lt
        have hl2 := HI.out.2.1.1.lt
        have hAb : ¬ A = b := by omega
        have hA1b : ¬ A + 1 = b := by omega
        have hAb2 : ¬ A + 1 = b2 := by omega
        have HZ1 : Seal (W0.cell? ⟨A, 0, none⟩ = some (.int .i64 D) ∧ W0.cell? ⟨A, 1, none⟩ = some (.int .i64 q) ∧ W0.cell? ⟨A, 2, none⟩ = some (.int .u64 (G : Nat))) := ⟨by simp [World.cell?, hbA], by simp [World.cell?, hbA], by simp [World.cell?, hbA]⟩
        have HZ2 : Seal (W0.cell? ⟨A + 1, 0, none⟩ = some (.int .i64 D2) ∧ W0.cell? ⟨A + 1, 1, none⟩ = some (.int .i64 q2) ∧ W0.cell? ⟨A + 1, 2, none⟩ = some (.int .u64 (G2 : Nat))) := ⟨by simp [World.cell?, hbA1], by simp [World.cell?, hbA1], by simp [World.cell?, hbA1]⟩
        have HO2 : Seal _ := ⟨HI.out.2.1.keep hkW (fun h => h) (fun h => h)⟩
        have HK0 : Seal (Keep Nope w' W0) := ⟨HI.out.2.2.2.thenU hkW⟩
        obtain ⟨R1, hR1⟩ : ∃ R1 : Prop, R1 = BalK dr nr gr i 0 L2 := ⟨_, rfl⟩
        have HR1 : Seal _ := ⟨hR1⟩
        have HJ0 : Seal (OneT W0 p b m1 L1 (sumN n i + 0) ∧ (rf = false → BalK d n g i 0 L1 ∧ R1) ∧ Keep (fun x => x = b) W0 W0) := ⟨HI.out.1.keep hkW (fun h => h) (fun h => h), fun h => ⟨(HI.out.2.2.1 h).1, hR1 ▸ (HI.out.2.2.1 h).2⟩, Keep.refl _ _⟩
        have HF1 : Seal (d i = D ∧ g i = G) := ⟨HF.out.1, HF.out.2.2.1⟩
        have HF2 : Seal (dr i = D2 ∧ gr i = G2) := ⟨HF.out.2.2.2.1, HF.out.2.2.2.2.2⟩
        have HQ1 : Seal (n i = q) := ⟨HF.out.2.1⟩
        have HQ2 : Seal (nr i = q2) := ⟨HF.out.2.2.2.2.1⟩
        rw [hA, hW0]
        clear hA hW0 hkW hbA hbA1 HI y0 y1 y2 v0 v1 v2 hR1 hl1 hl2 HF
        -- LOOPS
        go_loopw [7, 11] (fun r z W => ∃ (k m : Nat) (L : List Nat) (rf2 : Bool), k ≤ q.toNat ∧ r = .bool rf2 ∧ z = .int .i64 (k : Nat) ∧ Seal (OneT W p b m L (sumN n i + k) ∧ (rf2 = false → BalK d n g i k L ∧ R1) ∧ Keep (fun x => x = b) W0 W)) (fun _ z _ => q.toNat - (intOf z).toNat)
        case atStart => exact ⟨0, _, _, _, Nat.zero_le _, rfl, rfl, HJ0⟩
        case round =>
          obtain ⟨k, m, L, rf2, hk, rfl, rfl, HJ⟩ := hrel
          have hk12 : k ≤ 1200 := by omega
          have z0 := HJ.out.2.2.cell HZ1.out.1 hAb
          have z1 := HJ.out.2.2.cell HZ1.out.2.1 hAb
          have z2 := HJ.out.2.2.cell HZ1.out.2.2 hAb
          by_cases hkq : k < q.toNat
          · have hkq' : (k : Int) < q := by omega
            have HPin : Seal _ := ⟨HJ.out.1.pin (by omega) hg⟩
            have HUn : Seal _ := ⟨HJ.out.1.unpin (by omega) hg⟩
            by_cases hD0 : D = 0
            · obtain ⟨E, hE⟩ : ∃ E, pinE (cL L) G = E := ⟨_, rfl⟩
              rw [hE] at HPin
              have HD0 : Seal (d i = 0) := ⟨HF1.out.1.trans hD0⟩
              have d0 : (D == 0) = true := by simp; omega
              have d1 : (D == 1) = false := by simp; omega
              clear hD0
              go_wp2_with fail
              refine HPin.out.mono ?_
              rintro e W3 ⟨rfl, h3, k3⟩
              have y0 := k3.cell z0 hAb
              have y1 := k3.cell z1 hAb
              have y2 := k3.cell z2 hAb
              have HK3 : Seal _ := ⟨HJ.out.2.2.trans k3 (fun _ _ h => h)⟩
              have H3 : Seal (OneT W3 p b (m + 1) (pinL L G) (sumN n i + (k + 1))) := ⟨h3⟩
              by_cases hE0 : E = 0
              · have e0 : ((E : Int) != 0) = false := by simp; omega
                have HB : Seal (rf2 = false → BalK d n g i (k + 1) (pinL L G) ∧ R1) := ⟨fun h => ⟨(HJ.out.2.1 h).1.pin HD0.out HF1.out.2 (hE.trans hE0), (HJ.out.2.1 h).2⟩⟩
                clear z0 z1 z2 HPin HUn HJ h3 k3 hE hE0
                go_wp2_with fail
                exact ⟨⟨k + 1, m + 1, _, rf2, by omega, rfl, by go_num, ⟨H3.out, HB.out, HK3.out⟩⟩, by simp only [intOf]; omega⟩
              · have e0 : ((E : Int) != 0) = true := by simp; omega
                clear z0 z1 z2 HPin HUn HJ h3 k3 hE hE0
                go_wp2_with fail
                exact ⟨⟨k + 1, m + 1, _, true, by omega, rfl, by go_num, ⟨H3.out, (fun h => by cases h), HK3.out⟩⟩, by simp only [intOf]; omega⟩
            · by_cases hD1 : D = 1
              · obtain ⟨E, hE⟩ : ∃ E, unE (cL L) G = E := ⟨_, rfl⟩
                rw [hE] at HUn
                have HD0 : Seal (d i = 1) := ⟨HF1.out.1.trans hD1⟩
                have d0 : (D == 0) = false := by simp; omega
                have d1 : (D == 1) = true := by simp; omega
                clear hD0 hD1
                go_wp2_with fail
                refine HUn.out.mono ?_
                rintro e W3 ⟨rfl, h3, k3⟩
                have HK3 : Seal _ := ⟨HJ.out.2.2.trans k3 (fun _ _ h => h)⟩
                have H3 : Seal (OneT W3 p b (m + 1) (L.erase G) (sumN n i + (k + 1))) := ⟨h3⟩
                by_cases hE0 : E = 0
                · have e0 : ((E : Int) != 0) = false := by simp; omega
                  have HB : Seal (rf2 = false → BalK d n g i (k + 1) (L.erase G) ∧ R1) := ⟨fun h => ⟨(HJ.out.2.1 h).1.unpin HD0.out HF1.out.2 (hE.trans hE0), (HJ.out.2.1 h).2⟩⟩
                  clear z0 z1 z2 HPin HUn HJ h3 k3 hE hE0
                  go_wp2_with fail
                  exact ⟨⟨k + 1, m + 1, _, rf2, by omega, rfl, by go_num, ⟨H3.out, HB.out, HK3.out⟩⟩, by simp only [intOf]; omega⟩
                · have e0 : ((E : Int) != 0) = true := by simp; omega
                  clear z0 z1 z2 HPin HUn HJ h3 k3 hE hE0
                  go_wp2_with fail
                  exact ⟨⟨k + 1, m + 1, _, true, by omega, rfl, by go_num, ⟨H3.out, (fun h => by cases h), HK3.out⟩⟩, by simp only [intOf]; omega⟩
              · have d0 : (D == 0) = false := by simp; omega
                have d1 : (D == 1) = false := by simp; omega
                have HB : Seal (rf2 = false → BalK d n g i (k + 1) L ∧ R1) := ⟨fun h => ⟨(HJ.out.2.1 h).1.rest (fun e => hD0 (HF1.out.1.symm.trans e)) (fun e => hD1 (HF1.out.1.symm.trans e)), (HJ.out.2.1 h).2⟩⟩
                have H3 : Seal (OneT wr p b m L (sumN n i + (k + 1))) := ⟨HJ.out.1.more (by omega)⟩
                have HK3 : Seal _ := ⟨HJ.out.2.2⟩
                clear HPin HUn HJ
                go_wp2_with fail
                exact ⟨⟨k + 1, m, _, rf2, by omega, rfl, by go_num, ⟨H3.out, HB.out, HK3.out⟩⟩, by simp only [intOf]; omega⟩
          · have hkq' : ¬ (k : Int) < q := by omega
            have hkq2 : k = q.toNat := by omega
            subst hkq2
            have HA : Seal (OneT wr p b m L (sumN n (i + 1)) ∧ OneT wr p2 b2 m2 L2 (sumN nr i) ∧ (rf2 = false → BalK d n g (i + 1) 0 L ∧ R1) ∧ Keep Nope w' wr) := ⟨by rw [HQ.out.1]; exact HJ.out.1, HO2.out.keep HJ.out.2.2 hne.2.2.1 hne.2.2.2.1, fun h => ⟨by have := (HJ.out.2.1 h).1; rw [← HQ1.out] at this; exact this.done, (HJ.out.2.1 h).2⟩, HK0.out.trans HJ.out.2.2 (fun x hx e => by omega)⟩
            have HZ5 : Seal (wr.cell? ⟨A + 1, 0, none⟩ = some (.int .i64 D2) ∧ wr.cell? ⟨A + 1, 1, none⟩ = some (.int .i64 q2) ∧ wr.cell? ⟨A + 1, 2, none⟩ = some (.int .u64 (G2 : Nat))) := ⟨HJ.out.2.2.cell HZ2.out.1 hA1b, HJ.out.2.2.cell HZ2.out.2.1 hA1b, HJ.out.2.2.cell HZ2.out.2.2 hA1b⟩
            clear HJ z0 z2
            go_wp2_with fail
            obtain ⟨W5, hW5⟩ : ∃ W5, wr = W5 := ⟨_, rfl⟩
            obtain ⟨R2, hR2⟩ : ∃ R2 : Prop, R2 = BalK d n g (i + 1) 0 L := ⟨_, rfl⟩
            have HR2 : Seal _ := ⟨hR2⟩
            have HJ5 : Seal (OneT wr p2 b2 m2 L2 (sumN nr i + 0) ∧ (rf2 = false → BalK dr nr gr i 0 L2 ∧ R2) ∧ Keep (fun x => x = b2) W5 wr) := ⟨HA.out.2.1, fun h => ⟨HR1.out.mp (HA.out.2.2.1 h).2, hR2 ▸ (HA.out.2.2.1 h).1⟩, by rw [hW5]; exact Keep.refl _ _⟩
            have HA5 : Seal (OneT W5 p b m L (sumN n (i + 1)) ∧ Keep Nope w' W5) := by rw [← hW5]; exact ⟨HA.out.1, HA.out.2.2.2⟩
            rw [hW5] at HZ5
            obtain ⟨m1', hm1⟩ : ∃ m1', m = m1' := ⟨_, rfl⟩
            obtain ⟨L1', hL1⟩ : ∃ L1', L = L1' := ⟨_, rfl⟩
            rw [hm1, hL1] at HA5
            rw [hL1] at HR2
            clear HA hW5 hR2 hm1 hL1
            go_loopw [7, 12] (fun r z W => ∃ (k m : Nat) (L : List Nat) (rf2 : Bool), k ≤ q2.toNat ∧ r = .bool rf2 ∧ z = .int .i64 (k : Nat) ∧ Seal (OneT W p2 b2 m L (sumN nr i + k) ∧ (rf2 = false → BalK dr nr gr i k L ∧ R2) ∧ Keep (fun x => x = b2) W5 W)) (fun _ z _ => q2.toNat - (intOf z).toNat)
            case atStart => exact ⟨0, _, _, _, Nat.zero_le _, rfl, rfl, HJ5⟩
            case round =>
              obtain ⟨k, m, L, rf2, hk, rfl, rfl, HJ⟩ := hrel
              have hk12 : k ≤ 1200 := by omega
              have z0 := HJ.out.2.2.cell HZ5.out.1 hAb2
              have z1 := HJ.out.2.2.cell HZ5.out.2.1 hAb2
              have z2 := HJ.out.2.2.cell HZ5.out.2.2 hAb2
              by_cases hkq : k < q2.toNat
              · have hkq' : (k : Int) < q2 := by omega
                have HPin : Seal _ := ⟨HJ.out.1.pin (by omega) hg2⟩
                have HUn : Seal _ := ⟨HJ.out.1.unpin (by omega) hg2⟩
                by_cases hD0 : D2 = 0
                · obtain ⟨E, hE⟩ : ∃ E, pinE (cL L) G2 = E := ⟨_, rfl⟩
                  rw [hE] at HPin
                  have HD0 : Seal (dr i = 0) := ⟨HF2.out.1.trans hD0⟩
                  have d0 : (D2 == 0) = true := by simp; omega
                  have d1 : (D2 == 1) = false := by simp; omega
                  clear hD0
                  go_wp2_with fail
                  refine HPin.out.mono ?_
                  rintro e W3 ⟨rfl, h3, k3⟩
                  have y0 := k3.cell z0 hAb2
                  have y1 := k3.cell z1 hAb2
                  have y2 := k3.cell z2 hAb2
                  have HK3 : Seal _ := ⟨HJ.out.2.2.trans k3 (fun _ _ h => h)⟩
                  have H3 : Seal (OneT W3 p2 b2 (m + 1) (pinL L G2) (sumN nr i + (k + 1))) := ⟨h3⟩
                  by_cases hE0 : E = 0
                  · have e0 : ((E : Int) != 0) = false := by simp; omega
                    have HB : Seal (rf2 = false → BalK dr nr gr i (k + 1) (pinL L G2) ∧ R2) := ⟨fun h => ⟨(HJ.out.2.1 h).1.pin HD0.out HF2.out.2 (hE.trans hE0), (HJ.out.2.1 h).2⟩⟩
                    clear z0 z1 z2 HPin HUn HJ h3 k3 hE hE0
                    go_wp2_with fail
                    exact ⟨⟨k + 1, m + 1, _, rf2, by omega, rfl, by go_num, ⟨H3.out, HB.out, HK3.out⟩⟩, by simp only [intOf]; omega⟩
                  · have e0 : ((E : Int) != 0) = true := by simp; omega
                    clear z0 z1 z2 HPin HUn HJ h3 k3 hE hE0
                    go_wp2_with fail
                    exact ⟨⟨k + 1, m + 1, _, true, by omega, rfl, by go_num, ⟨H3.out, (fun h => by cases h), HK3.out⟩⟩, by simp only [intOf]; omega⟩
                · by_cases hD1 : D2 = 1
                  · obtain ⟨E, hE⟩ : ∃ E, unE (cL L) G2 = E := ⟨_, rfl⟩
                    rw [hE] at HUn
                    have HD0 : Seal (dr i = 1) := ⟨HF2.out.1.trans hD1⟩
                    have d0 : (D2 == 0) = false := by simp; omega
                    have d1 : (D2 == 1) = true := by simp; omega
                    clear hD0 hD1
                    go_wp2_with fail
                    refine HUn.out.mono ?_
                    rintro e W3 ⟨rfl, h3, k3⟩
                    have HK3 : Seal _ := ⟨HJ.out.2.2.trans k3 (fun _ _ h => h)⟩
                    have H3 : Seal (OneT W3 p2 b2 (m + 1) (L.erase G2) (sumN nr i + (k + 1))) := ⟨h3⟩
                    by_cases hE0 : E = 0
                    · have e0 : ((E : Int) != 0) = false := by simp; omega
                      have HB : Seal (rf2 = false → BalK dr nr gr i (k + 1) (L.erase G2) ∧ R2) := ⟨fun h => ⟨(HJ.out.2.1 h).1.unpin HD0.out HF2.out.2 (hE.trans hE0), (HJ.out.2.1 h).2⟩⟩
                      clear z0 z1 z2 HPin HUn HJ h3 k3 hE hE0
                      go_wp2_with fail
                      exact ⟨⟨k + 1, m + 1, _, rf2, by omega, rfl, by go_num, ⟨H3.out, HB.out, HK3.out⟩⟩, by simp only [intOf]; omega⟩
                    · have e0 : ((E : Int) != 0) = true := by simp; omega
                      clear z0 z1 z2 HPin HUn HJ h3 k3 hE hE0
                      go_wp2_with fail
                      exact ⟨⟨k + 1, m + 1, _, true, by omega, rfl, by go_num, ⟨H3.out, (fun h => by cases h), HK3.out⟩⟩, by simp only [intOf]; omega⟩
                  · have d0 : (D2 == 0) = false := by simp; omega
                    have d1 : (D2 == 1) = false := by simp; omega
                    have HB : Seal (rf2 = false → BalK dr nr gr i (k + 1) L ∧ R2) := ⟨fun h => ⟨(HJ.out.2.1 h).1.rest (fun e => hD0 (HF2.out.1.symm.trans e)) (fun e => hD1 (HF2.out.1.symm.trans e)), (HJ.out.2.1 h).2⟩⟩
                    have H3 : Seal (OneT wr p2 b2 m L (sumN nr i + (k + 1))) := ⟨HJ.out.1.more (by omega)⟩
                    have HK3 : Seal _ := ⟨HJ.out.2.2⟩
                    clear HPin HUn HJ
                    go_wp2_with fail
                    exact ⟨⟨k + 1, m, _, rf2, by omega, rfl, by go_num, ⟨H3.out, HB.out, HK3.out⟩⟩, by simp only [intOf]; omega⟩
              · have hkq' : ¬ (k : Int) < q2 := by omega
                have hkq2 : k = q2.toNat := by omega
                subst hkq2
                have HA6 : Seal (OneT wr p b m1' L1' (sumN n (i + 1)) ∧ OneT wr p2 b2 m L (sumN nr (i + 1)) ∧ (rf2 = false → Bal (fK d n g (i + 1) 0) (tK d n (i + 1) 0) L1' ∧ Bal (fK dr nr gr (i + 1) 0) (tK dr nr (i + 1) 0) L) ∧ Keep Nope w' wr) := ⟨HA5.out.1.keep HJ.out.2.2 hne.1 hne.2.1, by rw [HQ.out.2]; exact HJ.out.1, fun h => ⟨HR2.out.mp (HJ.out.2.1 h).2, by have := (HJ.out.2.1 h).1; rw [← HQ2.out] at this; exact this.done⟩, HA5.out.2.trans HJ.out.2.2 (fun x hx e => by omega)⟩
                clear HJ z0 z2
                go_wp2_with fail
                exact ⟨⟨i + 1, m1', m, L1', L, rf2, by omega, rfl, by go_num, HA6⟩, by simp only [intOf]; omega⟩
        -- DONE
      · have hil' : ¬ (i : Int) < (len : Int) := by omega
        obtain rfl : i = len := by omega
        cases rf with
        | true =>
          have HK6 : Seal _ := ⟨HI.out.2.2.2⟩
          clear HI
          go_wp2_with fail
          refine (alive17 _).mono ?_
          rintro e w5 ⟨rfl, k5⟩
          have HK5 : Seal _ := ⟨HK6.out.thenU k5⟩
          clear k5
          go_wp2_with fail
          exact bodyPost_ret (v := .bool true) (by simp [results, Try.results3, go_sem]) rfl ⟨rfl, HK5.out⟩
        | false =>
          have HB1 : Seal ((∀ x, (L1.count x : Int) = sumI (cT d n g x) i) ∧ (L1.length : Int) = sumI (tT d n) i) := ⟨(HI.out.2.2.1 rfl).1.end⟩
          have HB2 : Seal ((∀ x, (L2.count x : Int) = sumI (cT d n g x) i) ∧ (L2.length : Int) = sumI (tT d n) i) := ⟨by
            have h := (HI.out.2.2.1 rfl).2.end
            obtain ⟨e1, e2, e3⟩ := HR.out
            refine ⟨fun x => ?_, ?_⟩
            · rw [h.1 x, ← sumI_rot (cT d n g x) i T]
              refine sumI_congr fun k hk => ?_
              rw [e1, e2, e3]
              rfl
            · rw [h.2, ← sumI_rot (tT d n) i T]
              refine sumI_congr fun k hk => ?_
              rw [e1, e2]
              rfl⟩
          have HO1 : Seal _ := ⟨HI.out.1⟩
          have HO2 : Seal _ := ⟨HI.out.2.1⟩
          have HK6 : Seal _ := ⟨HI.out.2.2.2⟩
          have hlw := HI.out.2.2.2.size
          obtain ⟨W6, hW6⟩ : ∃ W6, wr = W6 := ⟨_, rfl⟩
          clear HI HR HP1 HP2 HK2 HN2
          go_wp2_with fail
          rw [hW6] at HO1 HO2 HK6 hlw
          have HV6 : Seal _ := ⟨HV.out.keep HK6.out (fun _ _ h => h)⟩
          have HBd : Seal (∀ k, k ≤ i → (∀ x, -1200 ≤ sumI (cT d n g x) k ∧ sumI (cT d n g x) k ≤ 1200) ∧ -1200 ≤ sumI (tT d n) k ∧ sumI (tT d n) k ≤ 1200) := ⟨fun k hk => ⟨fun x => by have := cT_bound d n g x k; have := HN1.out k hk; omega, by have := tT_bound d n k; have := HN1.out k hk; omega⟩⟩
          have HNb : Seal (∀ k, k < i → (n k).toNat ≤ 1200) := ⟨fun k hk => by have := HN1.out (k + 1) (by omega); rw [sumN] at this; omega⟩
          go_loopw [13, 14] (fun s z W => ∃ (x : Nat) (u : Int), x ≤ i ∧ s = .int .i64 u ∧ z = .int .i64 (x : Nat) ∧ Seal (u = sumI (tT d n) x) ∧ -1200 ≤ u ∧ u ≤ 1200 ∧ Seal (Keep Nope W6 W)) (fun _ z _ => i - (intOf z).toNat)
          case atStart => exact ⟨0, 0, Nat.zero_le _, rfl, rfl, ⟨rfl⟩, by omega, by omega, ⟨Keep.refl _ _⟩⟩
          case round =>
            obtain ⟨x, u, hx, rfl, rfl, HU, hu1, hu2, HKx⟩ := hrel
            by_cases hxi : x < i
            · have hxi' : (x : Int) < (i : Int) := by omega
              obtain ⟨gX, hgX⟩ : ∃ gX, g x = gX := ⟨_, rfl⟩
              have HGX : Seal _ := ⟨hgX⟩
              clear hgX
              go_wp2_with fail
              go_loopw [15, 16] (fun s z W => ∃ (k : Nat) (y : Int), k ≤ i ∧ s = .int .i64 y ∧ z = .int .i64 (k : Nat) ∧ Seal (y = sumI (cT d n g gX) k) ∧ -1200 ≤ y ∧ y ≤ 1200 ∧ Seal (Keep Nope W6 W)) (fun _ z _ => i - (intOf z).toNat)
              case atStart => exact ⟨0, 0, Nat.zero_le _, rfl, rfl, ⟨rfl⟩, by omega, by omega, HKx⟩
              case round =>
                obtain ⟨k, y, hk, rfl, rfl, HY, hy1, hy2, HKk⟩ := hrel
                obtain ⟨ab, o, rfl, hab, -, -, x2, hgx⟩ := HV6.out.at hxi
                rw [HGX.out] at x2 hgx
                replace x2 := HKk.out.cell x2 (fun h => h)
                by_cases hki : k < i
                · have hki' : (k : Int) < (i : Int) := by omega
                  obtain ⟨ab', o', e, -, c0, c1, c2, hgk⟩ := HV6.out.at hki
                  injection e with e
                  injection e with e1 e2
                  subst e1
                  subst e2
                  obtain ⟨D, hD⟩ : ∃ D, d k = D := ⟨_, rfl⟩
                  obtain ⟨q, hq⟩ : ∃ q, n k = q := ⟨_, rfl⟩
                  obtain ⟨G, hG⟩ : ∃ G, g k = G := ⟨_, rfl⟩
                  obtain ⟨r, hr⟩ : ∃ r, q.toNat = r := ⟨_, rfl⟩
                  have hr12 : r ≤ 1200 := by rw [← hr, ← hq]; exact HNb.out k hki
                  have hb2 := (HBd.out (k + 1) (by omega)).1 gX
                  have HS : Seal (sumI (cT d n g gX) (k + 1) = y + if G = gX then eff D * (r : Int) else 0) := ⟨by rw [sumI, ← HY.out, cT, hG, hD, hq, hr]⟩
                  rw [HS.out] at hb2
                  rw [hD] at c0
                  rw [hq] at c1
                  rw [hG] at c2 hgk
                  replace c0 := HKk.out.cell c0 (fun h => h)
                  replace c1 := HKk.out.cell c1 (fun h => h)
                  replace c2 := HKk.out.cell c2 (fun h => h)
                  have hmx : max q 0 = (r : Nat) := by omega
                  have hmx2 : (if q < 0 then 0 else q) = (r : Nat) := by split <;> omega
                  have HHr : Seal _ := ⟨hr⟩
                  clear hD hq hG hr
                  by_cases hGX : G = gX
                  · subst hGX
                    rw [if_pos rfl] at hb2
                    have g0 : ((G : Int) == (G : Int)) = true := by simp
                    by_cases hD0 : D = 0
                    · subst hD0
                      rw [show eff 0 = 1 from rfl] at hb2
                      have HS2 : Seal (y + (r : Int) = sumI (cT d n g G) (k + 1)) := ⟨by rw [HS.out, if_pos rfl, show eff 0 = 1 from rfl]; omega⟩
                      go_wp2_with fail
                      go_quiet (fail)
                      go_wp2_with fail
                      go_quiet (fail)
                      go_wp2_with fail
                      exact ⟨⟨k + 1, y + (r : Int), by omega, by go_num, by go_num, HS2, by omega, by omega, ⟨HKk.out.drewN _⟩⟩, by simp only [intOf]; omega⟩
                    · by_cases hD1 : D = 1
                      · subst hD1
                        rw [show eff 1 = -1 from rfl] at hb2
                        have HS2 : Seal (y - (r : Int) = sumI (cT d n g G) (k + 1)) := ⟨by rw [HS.out, if_pos rfl, show eff 1 = -1 from rfl]; omega⟩
                        go_wp2_with fail
                        go_quiet (fail)
                        go_wp2_with fail
                        go_quiet (fail)
                        go_wp2_with fail
                        exact ⟨⟨k + 1, y - (r : Int), by omega, by go_num, by go_num, HS2, by omega, by omega, ⟨HKk.out.drewN _⟩⟩, by simp only [intOf]; omega⟩
                      · have d0 : (D == 0) = false := by simp; omega
                        have d1 : (D == 1) = false := by simp; omega
                        have HS2 : Seal (y = sumI (cT d n g G) (k + 1)) := ⟨by rw [HS.out, if_pos rfl, show eff D = 0 by unfold eff; rw [if_neg hD0, if_neg hD1]]; omega⟩
                        clear hb2
                        go_wp2_with fail
                        go_quiet (fail)
                        go_wp2_with fail
                        go_quiet (fail)
                        go_wp2_with fail
                        exact ⟨⟨k + 1, y, by omega, by go_num, by go_num, HS2, by omega, by omega, ⟨HKk.out.drewN _⟩⟩, by simp only [intOf]; omega⟩
                  · have g0 : ((G : Int) == (gX : Int)) = false := by simp; omega
                    have HS2 : Seal (y = sumI (cT d n g gX) (k + 1)) := ⟨by rw [HS.out, if_neg hGX]; omega⟩
                    clear hb2
                    go_wp2_with fail
                    go_quiet (fail)
                    go_wp2_with fail
                    go_quiet (fail)
                    go_wp2_with fail
                    exact ⟨⟨k + 1, y, by omega, by go_num, by go_num, HS2, by omega, by omega, ⟨HKk.out.drewN _⟩⟩, by simp only [intOf]; omega⟩
                · have hki' : ¬ (k : Int) < (i : Int) := by omega
                  obtain ⟨ab', o', e, -, c0, c1, -, -⟩ := HV6.out.at hxi
                  injection e with e
                  injection e with e1 e2
                  subst e1
                  subst e2
                  obtain ⟨C, hC⟩ : ∃ C, L1.count gX = C := ⟨_, rfl⟩
                  have HC1 : Seal _ := ⟨Count_at (HO1.out.1.keep HKk.out (fun h => h) (fun h => h)) hgx⟩
                  have HC2 : Seal _ := ⟨Count_at (HO2.out.1.keep HKk.out (fun h => h) (fun h => h)) hgx⟩
                  have hc1 : (C : Int) = y := by rw [← hC, HB1.out.1, HY.out]; congr 1; omega
                  have hc2 : cL L2 gX = C := by have h1 := HB1.out.1 gX; have h2 := HB2.out.1 gX; unfold cL; omega
                  rw [show cL L1 gX = C from hC] at HC1
                  rw [hc2] at HC2
                  subst hc1
                  have hcc : ((C : Int) != (C : Int)) = false := by simp
                  obtain ⟨D, hD⟩ : ∃ D, d x = D := ⟨_, rfl⟩
                  obtain ⟨q, hq⟩ : ∃ q, n x = q := ⟨_, rfl⟩
                  obtain ⟨r, hr⟩ : ∃ r, q.toNat = r := ⟨_, rfl⟩
                  have hr12 : r ≤ 1200 := by rw [← hr, ← hq]; exact HNb.out x hxi
                  have hb2 := (HBd.out (x + 1) (by omega)).2
                  have HS : Seal (sumI (tT d n) (x + 1) = u + eff D * (r : Int)) := ⟨by rw [sumI, ← HU.out, tT, hD, hq, hr]⟩
                  rw [HS.out] at hb2
                  rw [hD] at c0
                  rw [hq] at c1
                  replace c0 := HKk.out.cell c0 (fun h => h)
                  replace c1 := HKk.out.cell c1 (fun h => h)
                  have hmx : max q 0 = (r : Nat) := by omega
                  have hmx2 : (if q < 0 then 0 else q) = (r : Nat) := by split <;> omega
                  clear hD hq hC hc2 hr HY
                  go_wp2_with fail
                  refine HC1.out.mono ?_
                  rintro e _ ⟨rfl, rfl⟩
                  go_wp2_with fail
                  refine HC2.out.mono ?_
                  rintro e _ ⟨rfl, rfl⟩
                  clear HC1 HC2
                  by_cases hD0 : D = 0
                  · subst hD0
                    rw [show eff 0 = 1 from rfl] at hb2
                    have HS2 : Seal (u + (r : Int) = sumI (tT d n) (x + 1)) := ⟨by rw [HS.out, show eff 0 = 1 from rfl]; omega⟩
                    go_wp2_with fail
                    exact ⟨⟨x + 1, u + (r : Int), by omega, by go_num, by go_num, HS2, by omega, by omega, HKk⟩, by simp only [intOf]; omega⟩
                  · by_cases hD1 : D = 1
                    · subst hD1
                      rw [show eff 1 = -1 from rfl] at hb2
                      have HS2 : Seal (u - (r : Int) = sumI (tT d n) (x + 1)) := ⟨by rw [HS.out, show eff 1 = -1 from rfl]; omega⟩
                      go_wp2_with fail
                      exact ⟨⟨x + 1, u - (r : Int), by omega, by go_num, by go_num, HS2, by omega, by omega, HKk⟩, by simp only [intOf]; omega⟩
                    · have d0 : (D == 0) = false := by simp; omega
                      have d1 : (D == 1) = false := by simp; omega
                      have HS2 : Seal (u = sumI (tT d n) (x + 1)) := ⟨by rw [HS.out, show eff D = 0 by unfold eff; rw [if_neg hD0, if_neg hD1]]; omega⟩
                      clear hb2
                      go_wp2_with fail
                      exact ⟨⟨x + 1, u, by omega, by go_num, by go_num, HS2, by omega, by omega, HKk⟩, by simp only [intOf]; omega⟩
            · have hxi' : ¬ (x : Int) < (i : Int) := by omega
              have HP1' : Seal _ := ⟨HO1.out.keep HKx.out (fun h => h) (fun h => h)⟩
              have HP2' : Seal _ := ⟨HO2.out.keep HKx.out (fun h => h) (fun h => h)⟩
              have HKa : Seal _ := ⟨HK6.out.thenU HKx.out⟩
              have HLe : Seal (L1.length < 1000000 ∧ L2.length < 1000000) := ⟨by have h1 := HP1'.out.2.2; have h2 := HP2'.out.2.2; have h3 := HB1.out.2; have h4 := HB2.out.2; have h5 := (HBd.out i (Nat.le_refl _)).2; omega⟩
              obtain ⟨R, hR⟩ : ∃ R, onceU L1 = R := ⟨_, rfl⟩
              have hR2 : onceU L2 = R := by rw [← hR]; exact (once_same HP1'.out.2.1.1 HP2'.out.2.1.1 fun x => by have h1 := HB1.out.1 x; have h2 := HB2.out.1 x; omega).symm
              have hRl : R.length ≤ 1000000 := by have h := onceU_len L1; rw [hR] at h; have := HLe.out; omega
              have HL1 : Seal (∀ W, PinAt W p b m1 (cL L1) → Calls Try.prog 14 #[.pointer (some ⟨p, 0, none⟩)] W (RowKPost R W)) := ⟨fun W h => hR ▸ ListL_at h HP1'.out.2.1 HLe.out.1⟩
              have HL2 : Seal (∀ W, PinAt W p2 b2 m2 (cL L2) → Calls Try.prog 14 #[.pointer (some ⟨p2, 0, none⟩)] W (RowKPost R W)) := ⟨fun W h => hR2 ▸ ListL_at h HP2'.out.2.1 HLe.out.2⟩
              obtain ⟨Z, hZ⟩ : ∃ Z, L1.length = Z := ⟨_, rfl⟩
              have hZ2 : L2.length = Z := by have h3 := HB1.out.2; have h4 := HB2.out.2; omega
              have hZu : (Z : Int) = u := by rw [← hZ, HB1.out.2, HU.out]; congr 1; omega
              have HT1 : Seal (∀ W, PinAt W p b m1 (cL L1) → Calls Try.prog 15 #[.pointer (some ⟨p, 0, none⟩)] W fun e w' => e = .returned (.int .i64 (Z : Nat)) ∧ Keep Nope W w') := ⟨fun W h => hZ ▸ TimesL_at h HP1'.out.2.1 HLe.out.1⟩
              have HT2 : Seal (∀ W, PinAt W p2 b2 m2 (cL L2) → Calls Try.prog 15 #[.pointer (some ⟨p2, 0, none⟩)] W fun e w' => e = .returned (.int .i64 (Z : Nat)) ∧ Keep Nope W w') := ⟨fun W h => hZ2 ▸ TimesL_at h HP2'.out.2.1 HLe.out.2⟩
              subst hZu
              have hzz : ((Z : Int) == (Z : Int)) = true := by simp
              clear hR hR2 hZ hZ2 HU HB1 HB2 HBd HNb HO1 HO2
              go_wp2_with fail
              refine (HL1.out _ HP1'.out.1).mono ?_
              rintro e W7 ⟨v7, rfl, hr7, k7⟩
              have HR7 : Seal _ := ⟨RowW.of_owns hr7⟩
              have HQ1 : Seal _ := ⟨HP1'.out.1.keep k7 (fun h => h) (fun h => h)⟩
              have HQ2 : Seal _ := ⟨HP2'.out.1.keep k7 (fun h => h) (fun h => h)⟩
              have HK7 : Seal _ := ⟨HKa.out.thenU k7⟩
              clear hr7 k7
              go_wp2_with fail
              refine (HL2.out _ HQ2.out).mono ?_
              rintro e W8 ⟨v8, rfl, hr8, k8⟩
              have HR8 : Seal _ := ⟨RowW.of_owns hr8⟩
              have HR7' : Seal _ := ⟨HR7.out.keepN k8⟩
              have HQ3 : Seal _ := ⟨HQ1.out.keep k8 (fun h => h) (fun h => h)⟩
              have HQ4 : Seal _ := ⟨HQ2.out.keep k8 (fun h => h) (fun h => h)⟩
              have HK8 : Seal _ := ⟨HK7.out.thenU k8⟩
              clear hr8 k8
              go_wp2_with fail
              refine (Same_yes R _ _ _ HR7'.out HR8.out hRl).mono ?_
              rintro e W9 ⟨rfl, k9⟩
              have HQ5 : Seal _ := ⟨HQ3.out.keep k9 (fun h => h) (fun h => h)⟩
              have HQ6 : Seal _ := ⟨HQ4.out.keep k9 (fun h => h) (fun h => h)⟩
              have HK9 : Seal _ := ⟨HK8.out.thenU k9⟩
              clear k9
              go_wp2_with fail
              refine (HT1.out _ HQ5.out).mono ?_
              rintro e Wa ⟨rfl, ka⟩
              have HQ7 : Seal _ := ⟨HQ6.out.keep ka (fun h => h) (fun h => h)⟩
              have HKb : Seal _ := ⟨HK9.out.thenU ka⟩
              clear ka
              go_wp2_with fail
              refine (HT2.out _ HQ7.out).mono ?_
              rintro e Wb ⟨rfl, kb⟩
              have HKc : Seal _ := ⟨HKb.out.thenU kb⟩
              clear kb
              go_wp2_with fail
              refine (alive17 _).mono ?_
              rintro e Wc ⟨rfl, kc⟩
              have HKd : Seal _ := ⟨HKc.out.thenU kc⟩
              clear kc
              go_wp2_with fail
              exact bodyPost_ret (v := .bool true) (by simp [results, Try.results3, go_sem]) rfl ⟨rfl, HKd.out⟩

end Go.Proofs.Ytapmbignpdkfbaa
