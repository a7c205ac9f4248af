/-
  The law FindEvery, walked.
-/
import Derived.Test.YtpmiidpbngbclaaGreatDoorFindAlive
import Derived.Test.YtpmiidpbngbclaaGreatDoorFindC
import Derived.DataShut
namespace Go.Proofs.YtpmiidpbngbclaaGreatDoor
open Go.RowKit
set_option linter.unusedVariables false

attribute [local go_sem ↓] run_neq_cell

theorem wf_u64_le {n : Int} (h : (Lit.int .u64 n).wf = true) : 0 ≤ n ∧ n ≤ 18446744073709551615 := (Lit.wf_int_iff .u64 n).1 h

theorem tiles_at' {cs : List Cel} {H j : Nat} {x : Cel} (h : Tiles 0 cs H) (hx : cs[j]? = some x) : Tiles 0 (cs.take j) x.g ∧ Tiles 0 (cs.take (j + 1)) x.fin := by
  have := h
  rw [take_drop_at hx] at this
  have t := this.fin_at
  refine ⟨t.2.2, ?_⟩
  rw [List.take_add_one, hx]
  exact Tiles.app t.2.2 ⟨rfl, by have := (h.mem (List.mem_of_getElem? hx)).2.2; omega, rfl⟩

set_option maxRecDepth 20000 in
set_option maxHeartbeats 8000000 in
theorem findevery_walk (n : Int) (v1 v2 : Value) (y0 : Int) (xs : List TypR) (len : Nat) (d g i nn y : Nat → Int) (u : Nat → Value) (m : Nat → Nat) (w : World) (hF : FieldsAt w) (h1 : TypsAt w v1 xs) (h2 : Steps6At w v2 len d g i nn y u m)
    (hl : xs.length ≤ 17592186044416) (hM : Masks xs) (hl2 : len ≤ 17592186044416) (hy : ∀ j, j < len → 0 ≤ y j ∧ y j ≤ 18446744073709551615) (hA : AtsAt w len u m) (hy0 : 0 ≤ y0 ∧ y0 ≤ 18446744073709551615) :
    Calls Tryz.prog 9 #[.int .i64 n, v1, v2, .int .u64 y0] w fun e w' => e = .returned (.bool true) ∧ Keep Nope w w' := by
  obtain ⟨yb, rfl⟩ : ∃ yb : Nat, y0 = (yb : Nat) := ⟨y0.toNat, by omega⟩
  have hyb : yb < 18446744073709551616 := by omega
  have HF : Seal _ := ⟨hF⟩
  have HH : Seal _ := ⟨Heavy9_any n v1 v2 xs len d g i nn y u m w h1 h2 hl hl2⟩
  have HPl : Seal (len ≤ 60 → (∀ j, j < len → m j ≤ 300) → Calls Tryz.prog 30 #[.int .i64 n, v1, v2] w (PlayedPost n xs v1 w)) := ⟨fun q1 q2 => Played_any n v1 v2 xs len d g i nn y u m w hF h1 hl hM h2 q1 hy hA q2⟩
  have hv1 : ∃ a l c, v1 = .slice a l c := by obtain ⟨a, c, h, -⟩ := h1; exact ⟨_, _, _, h⟩
  have hv2 : ∃ a l c, v2 = .slice a l c := by obtain ⟨a, c, h, -⟩ := h2; exact ⟨_, _, _, h⟩
  obtain ⟨a1, l1, c1, rfl⟩ := hv1
  obtain ⟨a2, l2, c2, rfl⟩ := hv2
  clear hF h1 h2 hM hy hA hl hl2 hy0
  have HYB : Seal _ := ⟨hyb⟩
  clear hyb
  go_enter Tryz.func9, Tryz.ntmps9
  go_wp2_with fail
  refine HH.out.mono ?_
  rintro e w2 ⟨t, rfl, rfl, ht⟩
  cases t with
  | true =>
    clear ht
    go_wp2_with fail
    refine (alive11 _ HF.out).mono ?_
    rintro e w3 ⟨rfl, k3⟩
    go_wp2
    go_ret
    exact ⟨rfl, k3⟩
  | false =>
    obtain ⟨-, -, q1, q2⟩ := ht rfl
    have HPp : Seal _ := ⟨HPl.out q1 q2⟩
    clear q1 q2 ht HPl
    go_wp2_with fail
    refine HPp.out.mono ?_
    rintro e w3 (⟨rfl, k3⟩ | ⟨P, rb, q, W, cs, rfl, hBt, hPn, hPs, h16⟩)
    · have HK3 : Seal _ := ⟨k3⟩
      clear k3
      go_wp2_with fail
      refine (alive11 w3 (HF.out.keepN HK3.out)).mono ?_
      rintro e w4 ⟨rfl, k4⟩
      go_wp2
      go_ret
      exact ⟨rfl, HK3.out.then' k4⟩
    · obtain ⟨f, hsp, hcs, hst⟩ := hBt.sp
      have HSp : Seal _ := ⟨hsp⟩
      have HCs : Seal _ := ⟨hcs⟩
      have HSt : Seal _ := ⟨hst⟩
      have HHas : Seal _ := ⟨hBt.has'⟩
      have HK3 : Seal (Keep Nope w2 w3) := ⟨hBt.kb.new'⟩
      have hsm := hsp.ar.small
      have hev := hsp.ev
      have hlen : cs.length ≤ 32768 := by have := tiles_len hcs.tl; omega
      obtain ⟨N, hN⟩ : ∃ N, P.n = N := ⟨_, rfl⟩
      have HN : Seal _ := ⟨hN⟩
      rw [hN] at hPn hsm hev
      have HEv : Seal _ := ⟨hev⟩
      subst hPn
      clear hBt hPs h16 hsp hcs hst hN hev
      have HCl : Seal _ := ⟨Cells_at P cs w3 HHas.out⟩
      go_wp2_with fail
      refine HCl.out.mono ?_
      rintro e wl ⟨v, rfl, hown, kl⟩
      have HKL : Seal _ := ⟨kl⟩
      have HRow : Seal _ := ⟨RowC.of_owns hown⟩
      obtain ⟨va, vc, hva, -⟩ := HRow.out
      subst hva
      obtain ⟨L, hL⟩ : ∃ L, cs.length = L := ⟨_, rfl⟩
      rw [hL] at HRow hlen ⊢
      have HLen : Seal _ := ⟨hL⟩
      clear hown kl HCl hL
      go_wp2_with fail
      go_loopw [13, 14, 15, 16, 17, 18, 19, 20] (fun x13 x14 _ _ _ _ _ _ wr => ∃ (j z : Nat), j ≤ L ∧ x14 = .int .i64 (j : Nat) ∧ x13 = .int .i64 ((2 * z : Nat) : Int) ∧ z ≤ 32768 ∧ Seal (Tiles 0 (cs.take j) z) ∧ Keep Nope wl wr) (fun _ x14 _ _ _ _ _ _ _ => L - (intOf x14).toNat)
      case atStart => exact ⟨0, 0, Nat.zero_le _, rfl, rfl, Nat.zero_le _, ⟨rfl⟩, Keep.refl _ _⟩
      case round =>
        obtain ⟨j, z, hj, rfl, rfl, hz, HT, hkk⟩ := hrel
        have HKK : Seal _ := ⟨hkk⟩
        by_cases hjl : j < L
        · have hjl' : (j : Int) < (L : Int) := by omega
          obtain ⟨x, hx⟩ : ∃ x, cs[j]? = some x := ⟨cs[j]'(by rw [HLen.out]; exact hjl), by simp⟩
          have hmem : x ∈ cs := List.mem_of_getElem? hx
          have hsplit := take_drop_at hx
          have hta := tiles_at' HCs.out.tl hx
          obtain rfl : x.g = z := hta.1.uniq HT.out
          have hfin : x.fin ≤ 32768 := by
            have := HCs.out.tl
            rw [hsplit] at this
            have := this.fin_at.2.1.le
            rw [HN.out] at this
            omega
          have HTn : Seal (Tiles 0 (cs.take (j + 1)) (x.g + x.sz)) := ⟨hta.2⟩
          have hsz : x.g + x.sz ≤ 32768 := hfin
          have HCell : Seal (∀ W' (k : Nat), k < 2 * x.sz → Keep Nope w3 W' → Calls Tryz.prog 45 #[.pointer (some ⟨P.s, 0, none⟩), .int .u64 (1048576 + ((2 * x.g + k : Nat) : Int))] W' fun e w' => e = .returned (.tuple #[.agg #[.int .i64 (x.g : Nat), .int .u8 (x.tag : Nat), .int .i64 (x.ty : Nat), .int .i64 (x.ln : Nat), .int .i64 (x.sz : Nat)], .bool true]) ∧ Keep Nope W' w') := ⟨fun W' k hk kk => by
            have h1 := HCs.out
            have h2 := HSt.out
            rw [hsplit] at h1 h2
            exact FCell_at (2 * x.g + k) x _ _ P W f W' (HSp.out.keepN kk) h1 h2 (by omega) (by unfold Cel.fin; omega)⟩
          have HOf : Seal (∀ W' (k : Nat), k < 2 * x.sz → Keep Nope w3 W' → Calls Tryz.prog 46 #[.pointer (some ⟨P.s, 0, none⟩), .int .u64 (1048576 + ((2 * x.g + k : Nat) : Int))] W' (FOfPost x W')) := ⟨fun W' k hk kk => by
            have h1 := HCs.out
            have h2 := HSt.out
            rw [hsplit] at h1 h2
            exact FOf_at (2 * x.g + k) x _ _ P W f W' (HSp.out.keepN kk) h1 h2 (by omega) (by unfold Cel.fin; omega)⟩
          obtain ⟨a', cap', ha', hrow⟩ := HRow.out.keepN hkk
          obtain ⟨b, hab, hb0, r0, r1, r2, r3, r4⟩ := hrow j x hx
          have hva : va = some ⟨b, 0, none⟩ := by injection ha' with h1; rw [h1]; exact hab
          subst hva
          obtain ⟨wc, hwc⟩ : ∃ wc, wc = wr.alloc (.cells #[.int .i64 (x.g : Nat), .int .u8 (x.tag : Nat), .int .i64 (x.ty : Nat), .int .i64 (x.ln : Nat), .int .i64 (x.sz : Nat)] 62) := ⟨_, rfl⟩
          have kc : Keep Nope wr wc := by rw [hwc]; exact (Keep.refl _ wr).alloc _
          have bc : wc.heap[wr.heap.size]? = some (.cells #[.int .i64 (x.g : Nat), .int .u8 (x.tag : Nat), .int .i64 (x.ty : Nat), .int .i64 (x.ln : Nat), .int .i64 (x.sz : Nat)] 62 (0, 0)) := by rw [hwc]; exact World.alloc_heap_new wr _
          have HBC : Seal _ := ⟨bc⟩
          have HKC : Seal (Keep Nope wl wc) := ⟨hkk.then' kc⟩
          obtain ⟨B, hB⟩ : ∃ B, wr.heap.size = B := ⟨_, rfl⟩
          have HBs : Seal _ := ⟨hB⟩
          rw [hB] at HBC
          clear hrow ha' hab hkk hmem hsplit hta hfin kc bc hx
          go_wp2_with fail
          rw [← hwc]
          clear hwc hB r0 r1 r2 r3 r4 hb0
          go_loopw [13, 16, 17, 18, 19, 20] (fun x13 x16 _ _ _ _ wr => ∃ k : Nat, k ≤ 2 * x.sz ∧ x16 = .int .i64 (k : Nat) ∧ x13 = .int .i64 ((2 * x.g + k : Nat) : Int) ∧ Keep Nope wc wr) (fun _ x16 _ _ _ _ _ => 2 * x.sz - (intOf x16).toNat)
          case atStart => exact ⟨0, Nat.zero_le _, rfl, rfl, Keep.refl _ _⟩
          case round =>
            obtain ⟨k, hk, rfl, rfl, hkr⟩ := hrel
            have HKR : Seal _ := ⟨hkr⟩
            obtain ⟨d0, d1, d2, d3, d4⟩ := cells5 (hkr.at_ HBC.out (fun h => h))
            by_cases hkl : k < 2 * x.sz
            · have hkl' : (k : Int) < 2 * (x.sz : Int) := by omega
              have HCk : Seal _ := ⟨HCell.out wr k hkl (HKL.out.then' (HKC.out.then' hkr))⟩
              have HOk : Seal (∀ W', Keep Nope w3 W' → _) := ⟨fun W' kk => HOf.out W' k hkl kk⟩
              have HE : Seal ((2 * x.g + k : Nat) + 1 = 2 * x.g + (k + 1)) := ⟨rfl⟩
              obtain ⟨q, hq⟩ : ∃ q, 2 * x.g + k = q := ⟨_, rfl⟩
              rw [hq] at HCk HOk HE ⊢
              have hq6 : q ≤ 65536 := by omega
              have hcv1 : IntKind.u64.wrap (q : Int) = (q : Int) := by rw [IntKind.wrap_u64]; omega
              have hcv2 : IntKind.u64.wrap (1048576 + (q : Int)) = 1048576 + (q : Int) := by rw [IntKind.wrap_u64]; omega
              have n1 : ((x.g : Int) != (x.g : Int)) = false := by simp
              clear hkr hq
              go_wp2_with fail
              refine HCk.out.mono ?_
              rintro e wA ⟨rfl, kA⟩
              have HKA : Seal _ := ⟨HKR.out.then' kA⟩
              replace d0 := kA.cell d0 (fun h => h)
              replace d1 := kA.cell d1 (fun h => h)
              replace d2 := kA.cell d2 (fun h => h)
              replace d3 := kA.cell d3 (fun h => h)
              replace d4 := kA.cell d4 (fun h => h)
              clear kA
              go_wp2_with fail
              refine (HOk.out _ (HKL.out.then' (HKC.out.then' (HKA.out.alloc _)))).mono ?_
              rintro e wB ⟨rfl, kB⟩
              have kAB := ((Keep.refl Nope wA).alloc (.cells #[.int .i64 (x.g : Nat), .int .u8 (x.tag : Nat), .int .i64 (x.ty : Nat), .int .i64 (x.ln : Nat), .int .i64 (x.sz : Nat)] 62)).then' kB
              obtain ⟨e0, e1, e2, e3, e4⟩ := cells5 (kB.at_ (World.alloc_heap_new wA _) (fun h => h))
              replace d0 := kAB.cell d0 (fun h => h)
              replace d1 := kAB.cell d1 (fun h => h)
              replace d2 := kAB.cell d2 (fun h => h)
              replace d3 := kAB.cell d3 (fun h => h)
              replace d4 := kAB.cell d4 (fun h => h)
              have HKB : Seal _ := ⟨HKA.out.then' kAB⟩
              clear kB kAB
              by_cases q1 : x.tag = 1
              · have p1 : (x.tag == 1) = true := by simp [q1]
                have p2 : ((x.tag : Int) == 1) = true := by simp [q1]
                rw [if_pos q1, p1]
                clear q1 p1
                go_wp2
                exact ⟨⟨k + 1, by omega, by go_num, by rw [← HE.out]; go_num, HKB.out⟩, by simp only [intOf]; omega⟩
              · have p1 : (x.tag == 1) = false := by simp [q1]
                have p2 : ((x.tag : Int) == 1) = false := by simp; omega
                rw [if_neg q1, p1]
                clear q1 p1
                go_wp2
                exact ⟨⟨k + 1, by omega, by go_num, by rw [← HE.out]; go_num, HKB.out⟩, by simp only [intOf]; omega⟩
            · obtain rfl : k = 2 * x.sz := by omega
              have hE : 2 * x.g + 2 * x.sz = 2 * (x.g + x.sz) := by omega
              rw [hE]
              have HK9 : Seal (Keep Nope wl wr) := ⟨HKC.out.then' hkr⟩
              clear hkr hE
              go_wp2
              exact ⟨⟨j + 1, x.g + x.sz, by omega, by go_num, rfl, hsz, HTn, HK9.out⟩, by simp only [intOf]; omega⟩
        · have hjl' : ¬ (j : Int) < (L : Int) := by omega
          have hzN : 2 * z = N := by
            have h1 := HT.out
            rw [List.take_of_length_le (by rw [HLen.out]; omega)] at h1
            have := HCs.out.tl.uniq h1
            have h3 := HEv.out
            rw [HN.out] at this
            omega
          rw [hzN]
          have HKW : Seal (Keep Nope w3 wr) := ⟨HKL.out.then' hkk⟩
          have n1 : ((N : Int) != (N : Int)) = false := by simp
          have hcv1 : IntKind.u64.wrap (N : Int) = (N : Int) := by rw [IntKind.wrap_u64]; omega
          have hcv2 : IntKind.u64.wrap (1048576 + (N : Int)) = 1048576 + (N : Int) := by rw [IntKind.wrap_u64]; omega
          clear hkk hzN
          by_cases hb : 1048576 ≤ yb ∧ yb < 1048576 + N
          · have e1 : decide (1048576 ≤ (yb : Int)) = true := decide_eq_true (by omega)
            have e2 : decide ((yb : Int) < 1048576 + (N : Int)) = true := decide_eq_true (by omega)
            have HCo : Seal (∀ W', Keep Nope w3 W' → Calls Tryz.prog 45 #[.pointer (some ⟨P.s, 0, none⟩), .int .u64 (1048576 + (N : Int))] W' (CellFail W')) := ⟨fun W' kk => FCell_out (1048576 + N) P W f W' (HSp.out.keepN kk) (by rw [HN.out]; omega) (by have := HYB.out; omega)⟩
            have HOo : Seal (∀ W', Keep Nope w3 W' → Calls Tryz.prog 46 #[.pointer (some ⟨P.s, 0, none⟩), .int .u64 (1048576 + (N : Int))] W' (OfFail W')) := ⟨fun W' kk => FOf_out (1048576 + N) P W f W' (HSp.out.keepN kk) (by rw [HN.out]; omega) (by have := HYB.out; omega)⟩
            have HSo : Seal (∀ W', Keep Nope w3 W' → Calls Tryz.prog 37 #[.pointer (some ⟨P.s, 0, none⟩), .int .u64 (1048576 + (N : Int))] W' (SlotPost false 0 0 W')) := ⟨fun W' kk => FSlot_out (1048576 + N) P W f W' (HSp.out.keepN kk) (by rw [HN.out]; omega) (by have := HYB.out; omega)⟩
            clear hb
            go_wp2_with fail
            refine (HCo.out _ HKW.out).mono ?_
            rintro e w5 ⟨rfl, k5⟩
            have HK5 : Seal _ := ⟨(HKW.out.then' k5).alloc (.cells #[.int .i64 0, .int .u8 0, .int .i64 0, .int .i64 0, .int .i64 0] 62)⟩
            clear k5
            go_wp2_with fail
            refine (HOo.out _ HK5.out).mono ?_
            rintro e w6 ⟨rfl, k6⟩
            have HK6 : Seal _ := ⟨HK5.out.then' k6⟩
            clear k6
            go_wp2_with fail
            refine (HSo.out _ HK6.out).mono ?_
            rintro e w7 ⟨rfl, k7⟩
            have HK7 : Seal _ := ⟨HK6.out.then' k7⟩
            clear k7
            go_wp2_with fail
            refine (alive11 _ (HF.out.keepN (HK3.out.then' HK7.out))).mono ?_
            rintro e w8 ⟨rfl, k8⟩
            go_wp2
            go_ret
            exact ⟨rfl, (HK3.out.then' HK7.out).then' k8⟩
          · by_cases hb1 : 1048576 ≤ yb
            · have e1 : decide (1048576 ≤ (yb : Int)) = true := decide_eq_true (by omega)
              have e2 : decide ((yb : Int) < 1048576 + (N : Int)) = false := decide_eq_false (by omega)
              have HCo : Seal (∀ W', Keep Nope w3 W' → Calls Tryz.prog 45 #[.pointer (some ⟨P.s, 0, none⟩), .int .u64 (yb : Nat)] W' (CellFail W')) := ⟨fun W' kk => FCell_out (yb) P W f W' (HSp.out.keepN kk) (by rw [HN.out]; omega) (by have := HYB.out; omega)⟩
              have HOo : Seal (∀ W', Keep Nope w3 W' → Calls Tryz.prog 46 #[.pointer (some ⟨P.s, 0, none⟩), .int .u64 (yb : Nat)] W' (OfFail W')) := ⟨fun W' kk => FOf_out (yb) P W f W' (HSp.out.keepN kk) (by rw [HN.out]; omega) (by have := HYB.out; omega)⟩
              have HSo : Seal (∀ W', Keep Nope w3 W' → Calls Tryz.prog 37 #[.pointer (some ⟨P.s, 0, none⟩), .int .u64 (yb : Nat)] W' (SlotPost false 0 0 W')) := ⟨fun W' kk => FSlot_out (yb) P W f W' (HSp.out.keepN kk) (by rw [HN.out]; omega) (by have := HYB.out; omega)⟩
              clear hb
              go_wp2_with fail
              refine (HCo.out _ HKW.out).mono ?_
              rintro e w5 ⟨rfl, k5⟩
              have HK5 : Seal _ := ⟨(HKW.out.then' k5).alloc (.cells #[.int .i64 0, .int .u8 0, .int .i64 0, .int .i64 0, .int .i64 0] 62)⟩
              clear k5
              go_wp2_with fail
              refine (HOo.out _ HK5.out).mono ?_
              rintro e w6 ⟨rfl, k6⟩
              have HK6 : Seal _ := ⟨HK5.out.then' k6⟩
              clear k6
              go_wp2_with fail
              refine (HSo.out _ HK6.out).mono ?_
              rintro e w7 ⟨rfl, k7⟩
              have HK7 : Seal _ := ⟨HK6.out.then' k7⟩
              clear k7
              go_wp2_with fail
              refine (alive11 _ (HF.out.keepN (HK3.out.then' HK7.out))).mono ?_
              rintro e w8 ⟨rfl, k8⟩
              go_wp2
              go_ret
              exact ⟨rfl, (HK3.out.then' HK7.out).then' k8⟩
            · have e1 : decide (1048576 ≤ (yb : Int)) = false := decide_eq_false (by omega)
              have HCo : Seal (∀ W', Keep Nope w3 W' → Calls Tryz.prog 45 #[.pointer (some ⟨P.s, 0, none⟩), .int .u64 (yb : Nat)] W' (CellFail W')) := ⟨fun W' kk => FCell_out (yb) P W f W' (HSp.out.keepN kk) (by rw [HN.out]; omega) (by have := HYB.out; omega)⟩
              have HOo : Seal (∀ W', Keep Nope w3 W' → Calls Tryz.prog 46 #[.pointer (some ⟨P.s, 0, none⟩), .int .u64 (yb : Nat)] W' (OfFail W')) := ⟨fun W' kk => FOf_out (yb) P W f W' (HSp.out.keepN kk) (by rw [HN.out]; omega) (by have := HYB.out; omega)⟩
              have HSo : Seal (∀ W', Keep Nope w3 W' → Calls Tryz.prog 37 #[.pointer (some ⟨P.s, 0, none⟩), .int .u64 (yb : Nat)] W' (SlotPost false 0 0 W')) := ⟨fun W' kk => FSlot_out (yb) P W f W' (HSp.out.keepN kk) (by rw [HN.out]; omega) (by have := HYB.out; omega)⟩
              clear hb
              go_wp2_with fail
              refine (HCo.out _ HKW.out).mono ?_
              rintro e w5 ⟨rfl, k5⟩
              have HK5 : Seal _ := ⟨(HKW.out.then' k5).alloc (.cells #[.int .i64 0, .int .u8 0, .int .i64 0, .int .i64 0, .int .i64 0] 62)⟩
              clear k5
              go_wp2_with fail
              refine (HOo.out _ HK5.out).mono ?_
              rintro e w6 ⟨rfl, k6⟩
              have HK6 : Seal _ := ⟨HK5.out.then' k6⟩
              clear k6
              go_wp2_with fail
              refine (HSo.out _ HK6.out).mono ?_
              rintro e w7 ⟨rfl, k7⟩
              have HK7 : Seal _ := ⟨HK6.out.then' k7⟩
              clear k7
              go_wp2_with fail
              refine (alive11 _ (HF.out.keepN (HK3.out.then' HK7.out))).mono ?_
              rintro e w8 ⟨rfl, k8⟩
              go_wp2
              go_ret
              exact ⟨rfl, (HK3.out.then' HK7.out).then' k8⟩

end Go.Proofs.YtpmiidpbngbclaaGreatDoor
