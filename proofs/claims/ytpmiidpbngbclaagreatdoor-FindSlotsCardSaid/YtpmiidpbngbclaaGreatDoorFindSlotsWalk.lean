/-
  The law FindSlots, walked.
-/
import Derived.Test.YtpmiidpbngbclaaGreatDoorFindAlive
namespace Go.Proofs.YtpmiidpbngbclaaGreatDoor
open Go.RowKit
set_option linter.unusedVariables false

theorem tiles_take' {cs : List Cel} {a b j : Nat} (h : Tiles a cs b) : ∃ z, Tiles a (cs.take j) z ∧ z ≤ b := by
  have := h
  rw [← List.take_append_drop j cs] at this
  obtain ⟨z, t1, t2⟩ := this.split
  exact ⟨z, t1, t2.le⟩

set_option maxRecDepth 20000 in
set_option maxHeartbeats 8000000 in
theorem findslots_walk (n : Int) (v1 v2 : Value) (xs : List TypR) (len : Nat) (d g i nn y : Nat → Int) (u : Nat → Value) (m : Nat → Nat) (w : World) (hF : FieldsAt w) (h1 : TypsAt w v1 xs) (h2 : Steps6At w v2 len d g i nn y u m)
    (hl : xs.length ≤ 17592186044416) (hM : Masks xs) (hl2 : len ≤ 17592186044416) (hy : ∀ j, j < len → 0 ≤ y j ∧ y j ≤ 18446744073709551615) (hA : AtsAt w len u m) :
    Calls Tryz.prog 7 #[.int .i64 n, v1, v2] w fun e w' => e = .returned (.bool true) ∧ Keep Nope w w' := by
  have HF : Seal _ := ⟨hF⟩
  have HH : Seal _ := ⟨Heavy9_any n v1 v2 xs len d g i nn y u m w h1 h2 hl hl2⟩
  have HPl : Seal (len ≤ 60 → (∀ j, j < len → m j ≤ 300) → Calls Tryz.prog 30 #[.int .i64 n, v1, v2] w (PlayedPost n xs v1 w)) := ⟨fun q1 q2 => Played_any n v1 v2 xs len d g i nn y u m w hF h1 hl hM h2 q1 hy hA q2⟩
  have hv1 : ∃ a l c, v1 = .slice a l c := by obtain ⟨a, c, h, -⟩ := h1; exact ⟨_, _, _, h⟩
  have hv2 : ∃ a l c, v2 = .slice a l c := by obtain ⟨a, c, h, -⟩ := h2; exact ⟨_, _, _, h⟩
  obtain ⟨a1, l1, c1, rfl⟩ := hv1
  obtain ⟨a2, l2, c2, rfl⟩ := hv2
  clear hF h1 h2 hM hy hA hl hl2
  go_enter Tryz.func7, Tryz.ntmps7
  go_wp2_with fail
  refine HH.out.mono ?_
  rintro e w2 ⟨t, rfl, rfl, ht⟩
  cases t with
  | true =>
    clear ht
    go_wp2_with fail
    refine (alive11 _ HF.out).mono ?_
    rintro e w3 ⟨rfl, k3⟩
    go_wp2
    go_ret
    exact ⟨rfl, k3⟩
  | false =>
    obtain ⟨-, -, q1, q2⟩ := ht rfl
    have HPp : Seal _ := ⟨HPl.out q1 q2⟩
    clear q1 q2 ht HPl
    go_wp2_with fail
    refine HPp.out.mono ?_
    rintro e w3 (⟨rfl, k3⟩ | ⟨P, rb, q, W, cs, rfl, hBt, hPn, hPs, h16⟩)
    · have HK3 : Seal _ := ⟨k3⟩
      clear k3
      go_wp2_with fail
      refine (alive11 w3 (HF.out.keepN HK3.out)).mono ?_
      rintro e w4 ⟨rfl, k4⟩
      go_wp2
      go_ret
      exact ⟨rfl, HK3.out.then' k4⟩
    · obtain ⟨f, hsp, hcs, hst⟩ := hBt.sp
      have HSp : Seal _ := ⟨hsp⟩
      have HCs : Seal _ := ⟨hcs⟩
      have HSt : Seal _ := ⟨hst⟩
      have HHas : Seal _ := ⟨hBt.has'⟩
      have HK3 : Seal (Keep Nope w2 w3) := ⟨hBt.kb.new'⟩
      have hsm := hsp.ar.small
      have hev := hsp.ev
      have HRm : Seal (∀ c ∈ cs, slotN P.ts c + 1 ≤ 2 * c.sz) := ⟨fun c hc => slotN_room (hcs.ok c hc) (hcs.tl.mem hc).2.2⟩
      have hlen : cs.length ≤ 32768 := by have := tiles_len hcs.tl; omega
      have HAll : Seal (cnt (isSlot P.ts cs) P.n = slotSum P.ts cs) := ⟨by
        have := cnt_all hcs.tl HRm.out
        rwa [show 2 * (P.n / 2) = P.n by omega] at this⟩
      have HAr : Seal (∀ W', Keep Nope w3 W' → Calls Tryz.prog 15 #[.pointer (some ⟨P.s, 0, none⟩)] W' fun e w'' => e = .returned (.pointer (some ⟨P.a, 0, none⟩)) ∧ w'' = W') := ⟨fun W' kk => SArena_at P W f W' (HSp.out.keepN kk)⟩
      have HTb : Seal (∀ W', Keep Nope w3 W' → Calls Tryz.prog 16 #[.pointer (some ⟨P.s, 0, none⟩)] W' fun e w'' => e = .returned (.pointer (some ⟨P.t, 0, none⟩)) ∧ w'' = W') := ⟨fun W' kk => STable_at P W f W' (HSp.out.keepN kk)⟩
      obtain ⟨N, hN⟩ : ∃ N, P.n = N := ⟨_, rfl⟩
      have HN : Seal _ := ⟨hN⟩
      rw [hN] at hPn hsm hev HAll
      subst hPn
      clear hBt hPs h16 hsp hcs hst hN
      go_wp2_with fail
      go_loopw [10, 11, 12, 13, 14, 15, 16, 17, 18, 19, 20] (fun x10 x11 _ _ _ _ _ _ _ _ _ wr => ∃ (j a : Nat), j ≤ N ∧ x11 = .int .i64 (j : Nat) ∧ x10 = .int .i64 (a : Nat) ∧ a ≤ j ∧ Seal (a = cnt (isSlot P.ts cs) j) ∧ Keep Nope w3 wr) (fun _ x11 _ _ _ _ _ _ _ _ _ _ => N - (intOf x11).toNat)
      case atStart => exact ⟨0, 0, Nat.zero_le _, rfl, rfl, Nat.zero_le _, ⟨rfl⟩, Keep.refl _ _⟩
      case round =>
        obtain ⟨j, a, hj, rfl, rfl, ha, HA, hkr⟩ := hrel
        have HKR : Seal _ := ⟨hkr⟩
        clear hkr
        by_cases hjl : j < N
        · have hjl' : (j : Int) < (N : Int) := by omega
          obtain ⟨pre, c, post, hcs, hg1, hg2, -⟩ := cell_split (g := j / 2) HCs.out.tl (by omega) (by rw [HN.out]; omega)
          have hc1 : 2 * c.g ≤ j := by omega
          have hc2 : j < 2 * c.fin := by omega
          have hmem : c ∈ cs := by rw [hcs]; simp
          have HIs : Seal (isSlot P.ts cs j = decide (2 * c.g < j ∧ j ≤ 2 * c.g + slotN P.ts c)) := ⟨by
            have h1 := HCs.out.tl
            have h2 := HRm.out
            rw [hcs] at h1 h2 ⊢
            exact isSlot_at h1 h2 hc1 hc2⟩
          have HSl : Seal (∀ W', Keep Nope w3 W' → Calls Tryz.prog 37 #[.pointer (some ⟨P.s, 0, none⟩), .int .u64 (1048576 + (j : Int))] W' (SlotPost (decide (2 * c.g < j ∧ j ≤ 2 * c.g + slotN P.ts c)) c.g (j - 2 * c.g - 1) W')) := ⟨fun W' kk => by
            have h1 := HCs.out
            have h2 := HSt.out
            rw [hcs] at h1 h2
            exact FSlot_at j c pre post P W f W' (HSp.out.keepN kk) h1 h2 hc1 hc2⟩
          have hcv1 : IntKind.u64.wrap (j : Int) = (j : Int) := by rw [IntKind.wrap_u64]; omega
          have hcv2 : IntKind.u64.wrap (1048576 + (j : Int)) = 1048576 + (j : Int) := by rw [IntKind.wrap_u64]; omega
          have HCn : Seal (cnt (isSlot P.ts cs) (j + 1) = cnt (isSlot P.ts cs) j + (if isSlot P.ts cs j then 1 else 0)) := ⟨rfl⟩
          by_cases hs : 2 * c.g < j ∧ j ≤ 2 * c.g + slotN P.ts c
          · have ht : c.tag = 1 := by
              by_cases ht : c.tag = 1
              · exact ht
              · have : slotN P.ts c = 0 := by unfold slotN; rw [if_neg ht]
                omega
            obtain ⟨s, hse⟩ : ∃ s, j - 2 * c.g - 1 = s := ⟨_, rfl⟩
            have hjs : j = 2 * c.g + 1 + s := by omega
            rw [decide_eq_true hs] at HIs
            rw [decide_eq_true hs, hse] at HSl
            have HE : Seal (a + 1 = cnt (isSlot P.ts cs) (j + 1)) := ⟨by rw [HCn.out, HIs.out, if_pos rfl, HA.out]⟩
            have HOf : Seal _ := ⟨fun W' (kk : Keep Nope w3 W') => SOf_cell c P W f cs W' (HSp.out.keepN kk) HCs.out hmem ht⟩
            have HLd : Seal (∀ W', Keep Nope w3 W' → Calls Tryz.prog 26 #[.pointer (some ⟨P.a, 0, none⟩), .int .i64 (j : Nat)] W' fun e w'' => e = .returned (.tuple #[.int .u64 (W j : Nat), .int .i64 0]) ∧ Keep Nope W' w'') := ⟨fun W' kk => (ALoad_yes j P.a P.q P.n W W' (HSp.out.keepN kk).ar (by rw [HN.out]; exact hjl)).mono fun e w'' hp => by first | exact hp | exact ⟨hp.1, by have := hp.2; subst this; exact Keep.refl _ _⟩⟩
            have HSj : Seal _ := ⟨hjs⟩
            have HSs : Seal ((s : Int) < slotN P.ts c) := ⟨by omega⟩
            have q1 : ((W j : Int) != (W j : Int)) = false := by simp
            clear hs hg1 hg2 hc1 hc2 hcs hse hjs ht hmem
            go_wp2_with fail
            refine (HSl.out _ HKR.out).mono ?_
            rintro e w4 ⟨rfl, k4⟩
            have HK4 : Seal _ := ⟨HKR.out.then' k4⟩
            clear k4
            go_wp2_with fail
            refine (HAr.out _ HK4.out).mono ?_
            rintro e w5 ⟨rfl, rfl⟩
            go_wp2_with fail
            refine (HTb.out _ HK4.out).mono ?_
            rintro e w6 ⟨rfl, rfl⟩
            go_wp2_with fail
            refine (HOf.out _ HK4.out).mono ?_
            rintro e w7 ⟨b, kd, wds, mk, ⟨hE, hS⟩, rfl, hV, hb, k7⟩
            have HK7 : Seal _ := ⟨HK4.out.then' k7⟩
            have HVL : Seal (∀ W', Keep Nope w7 W' → Calls Tryz.prog 39 #[.pointer (some ⟨b, 0, none⟩), .int .i64 (s : Nat)] W' fun e w'' => e = .returned (.tuple #[.int .u64 (W j : Nat), .int .i64 0]) ∧ Keep Nope W' w'') := ⟨fun W' kk => by
              have := VLoad_yes s b P.a P.q P.n W c kd wds mk W' (HSp.out.keepN (HK7.out.then' kk)).ar (hV.keepN kk) hE (by rw [hS]; exact HSs.out) (by rw [← HSj.out, HN.out]; exact hjl)
              rwa [← HSj.out] at this⟩
            clear k7 hE hS hV hb
            go_wp2_with fail
            refine (HAr.out _ HK7.out).mono ?_
            rintro e w8 ⟨rfl, rfl⟩
            go_wp2_with fail
            refine (HLd.out _ HK7.out).mono ?_
            rintro e w9 ⟨rfl, k9⟩
            have HK9 : Seal _ := ⟨k9⟩
            clear k9
            go_wp2_with fail
            refine (HVL.out _ HK9.out).mono ?_
            rintro e wA ⟨rfl, kA⟩
            have HKA : Seal _ := ⟨(HK7.out.then' HK9.out).then' kA⟩
            clear kA
            go_wp2
            exact ⟨⟨j + 1, a + 1, by omega, by go_num, by go_num, by omega, HE, HKA.out⟩, by simp only [intOf]; omega⟩
          · rw [decide_eq_false hs] at HIs HSl
            have HE : Seal (a = cnt (isSlot P.ts cs) (j + 1)) := ⟨by rw [HCn.out, HIs.out, if_neg (by simp), HA.out, Nat.add_zero]⟩
            clear hs hg1 hg2 hc1 hc2 hcs hmem
            go_wp2_with fail
            refine (HSl.out _ HKR.out).mono ?_
            rintro e w4 ⟨rfl, k4⟩
            have HK4 : Seal _ := ⟨HKR.out.then' k4⟩
            clear k4
            go_wp2
            exact ⟨⟨j + 1, a, by omega, by go_num, rfl, by omega, HE, HK4.out⟩, by simp only [intOf]; omega⟩
        · have hjl' : ¬ (j : Int) < (N : Int) := by omega
          obtain rfl : j = N := by omega
          have HE : Seal (a = slotSum P.ts cs) := ⟨by rw [HA.out, HAll.out]⟩
          have HCl : Seal _ := ⟨Cells_at P cs wr (HHas.out.keepN HKR.out)⟩
          go_wp2_with fail
          refine HCl.out.mono ?_
          rintro e wl ⟨v, rfl, hown, kl⟩
          have HKL : Seal _ := ⟨HKR.out.then' kl⟩
          have HRow : Seal _ := ⟨RowC.of_owns hown⟩
          obtain ⟨va, vc, hva, -⟩ := HRow.out
          subst hva
          obtain ⟨L, hL⟩ : ∃ L, cs.length = L := ⟨_, rfl⟩
          rw [hL] at HRow hlen ⊢
          have HLen : Seal _ := ⟨hL⟩
          clear hown kl HCl hL
          go_wp2_with fail
          go_loopw [22, 23, 24, 25] (fun x22 x23 _ _ wr => ∃ (k s : Nat), k ≤ L ∧ x23 = .int .i64 (k : Nat) ∧ x22 = .int .i64 (s : Nat) ∧ s ≤ 65536 ∧ Seal (s = slotSum P.ts (cs.take k)) ∧ Keep Nope wl wr) (fun _ x23 _ _ _ => L - (intOf x23).toNat)
          case atStart => exact ⟨0, 0, Nat.zero_le _, rfl, rfl, Nat.zero_le _, ⟨by simp [slotSum]⟩, Keep.refl _ _⟩
          case round =>
            obtain ⟨k, s, hk, rfl, rfl, hs, HS, hkk⟩ := hrel
            have HKK : Seal _ := ⟨hkk⟩
            by_cases hkl : k < L
            · have hkl' : (k : Int) < (L : Int) := by omega
              obtain ⟨x, hx⟩ : ∃ x, cs[k]? = some x := ⟨cs[k]'(by rw [HLen.out]; exact hkl), by simp⟩
              have hmem : x ∈ cs := List.mem_of_getElem? hx
              obtain ⟨a', cap', ha', hrow⟩ := HRow.out.keepN hkk
              obtain ⟨b, hab, hb0, r0, r1, r2, r3, r4⟩ := hrow k x hx
              have hva : va = some ⟨b, 0, none⟩ := by injection ha' with h1; rw [h1]; exact hab
              subst hva
              have HTk : Seal _ := ⟨slotSum_take (ts := P.ts) hx⟩
              have hs2 : s + slotN P.ts x ≤ 65536 := by
                rw [HS.out, ← HTk.out]
                obtain ⟨z, t1, t2⟩ := tiles_take' (j := k + 1) HCs.out.tl
                have := slotSum_le t1 (fun d hd => HRm.out d (List.mem_of_mem_take hd))
                rw [HN.out] at t2
                omega
              have HE : Seal (s + slotN P.ts x = slotSum P.ts (cs.take (k + 1))) := ⟨by rw [HTk.out, HS.out]⟩
              by_cases q2 : x.tag = 1
              · have p2 : ((x.tag : Int) == 1) = true := by simp [q2]
                have HOf : Seal _ := ⟨fun W' (kk : Keep Nope w3 W') => SOf_cell x P W f cs W' (HSp.out.keepN kk) HCs.out hmem q2⟩
                have HKW : Seal (Keep Nope w3 wr) := ⟨HKL.out.then' hkk⟩
                have HArR : Seal (∀ W', Keep Nope wr W' → Calls Tryz.prog 15 #[.pointer (some ⟨P.s, 0, none⟩)] W' fun e w'' => e = .returned (.pointer (some ⟨P.a, 0, none⟩)) ∧ w'' = W') := ⟨fun W' kk => HAr.out W' (HKW.out.then' kk)⟩
                have HTbR : Seal (∀ W', Keep Nope wr W' → Calls Tryz.prog 16 #[.pointer (some ⟨P.s, 0, none⟩)] W' fun e w'' => e = .returned (.pointer (some ⟨P.t, 0, none⟩)) ∧ w'' = W') := ⟨fun W' kk => HTb.out W' (HKW.out.then' kk)⟩
                have HOfR : Seal _ := ⟨fun W' (kk : Keep Nope wr W') => HOf.out W' (HKW.out.then' kk)⟩
                clear hx hrow ha' hab hkk r2 r3 r4 q2 hmem
                go_wp2_with fail
                go_region_held3 (fun w' => w'.cell? ⟨b, k * 5, none⟩ = some (.int .i64 (x.g : Nat)))
                  (first | exact keepc (by (repeat (first | assumption | exact Keep.refl _ _ | refine Keep.drew ?_ | refine Keep.alloc ?_ _ | refine Keep.setNew ?_ (by omega) _))) r0 | exact keepc (Keep.then' (by (repeat (first | assumption | exact Keep.refl _ _ | refine Keep.drew ?_ | refine Keep.alloc ?_ _ | refine Keep.setNew ?_ (by omega) _))) K9) r0)
                  (first
                    | (go_at_call 15; (with_reducible refine (HArR.out _ (by (repeat (first | assumption | exact Keep.refl _ _ | refine Keep.drew ?_ | refine Keep.alloc ?_ _ | refine Keep.setNew ?_ (by omega) _)))).mono ?_); rintro e w9 ⟨rfl, rfl⟩)
                    | (go_at_call 16; (with_reducible refine (HTbR.out _ (by (repeat (first | assumption | exact Keep.refl _ _ | refine Keep.drew ?_ | refine Keep.alloc ?_ _ | refine Keep.setNew ?_ (by omega) _)))).mono ?_); rintro e w9 ⟨rfl, rfl⟩)
                    | (go_at_call 38; (with_reducible refine (HOfR.out _ (by (repeat (first | assumption | exact Keep.refl _ _ | refine Keep.drew ?_ | refine Keep.alloc ?_ _ | refine Keep.setNew ?_ (by omega) _)))).mono ?_); rintro e w9 ⟨vb, kd, wds, mk, ⟨hE, hS⟩, rfl, hV, hvb, k9⟩
                       have K9 : Keep Nope wr w9 := Keep.then' (by (repeat (first | assumption | exact Keep.refl _ _ | refine Keep.drew ?_ | refine Keep.alloc ?_ _ | refine Keep.setNew ?_ (by omega) _))) k9))
                have HK9 : Seal (Keep Nope wl w9) := ⟨HKK.out.then' K9⟩
                have HSl : Seal (Calls Tryz.prog 40 #[.pointer (some ⟨vb, 0, none⟩)] w9 fun e w' => e = .returned (.int .i64 (slotN P.ts x : Nat)) ∧ Keep Nope w9 w') := ⟨by
                  have := VSlots_at vb P.a x kd wds mk w9 hV hE
                  rwa [hS] at this⟩
                clear hE hS hV hvb k9 K9 r0 r1
                go_wp2_with fail
                refine HSl.out.mono ?_
                rintro e wA ⟨rfl, kA⟩
                have HKA : Seal _ := ⟨HK9.out.then' kA⟩
                clear kA
                go_wp2
                exact ⟨⟨k + 1, s + slotN P.ts x, by omega, by go_num, by go_num, hs2, HE, HKA.out⟩, by simp only [intOf]; omega⟩
              · have p2 : ((x.tag : Int) == 1) = false := by simp; omega
                have hz : slotN P.ts x = 0 := by unfold slotN; rw [if_neg q2]
                rw [hz, Nat.add_zero] at HE
                clear hx hrow ha' hab hkk r0 r2 r3 r4 q2 hmem hs2 hz
                go_wp2
                exact ⟨⟨k + 1, s, by omega, by go_num, rfl, hs, HE, HKK.out⟩, by simp only [intOf]; omega⟩
            · have hkl' : ¬ (k : Int) < (L : Int) := by omega
              have HQ : Seal (a = s) := ⟨by rw [HE.out, HS.out, List.take_of_length_le (by rw [HLen.out]; omega)]⟩
              have p3 : ((a : Int) == (s : Int)) = true := by rw [HQ.out]; simp
              have HKW : Seal (Keep Nope w3 wr) := ⟨HKL.out.then' hkk⟩
              have HAl : Seal _ := ⟨alive11 wr (HF.out.keepN (HK3.out.then' HKW.out))⟩
              clear hkk
              go_wp2_with fail
              refine HAl.out.mono ?_
              rintro e w9 ⟨rfl, k9⟩
              go_wp2
              go_ret
              exact ⟨rfl, (HK3.out.then' HKW.out).then' k9⟩

end Go.Proofs.YtpmiidpbngbclaaGreatDoor
