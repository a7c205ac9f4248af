/-
  The law ScanWithin, walked.
-/
import Derived.Test.YtpmiidpbngbclaaGreatDoorScanF
namespace Go.Proofs.YtpmiidpbngbclaaGreatDoor
open Go.RowKit
set_option linter.unusedVariables false

set_option maxRecDepth 20000 in
set_option maxHeartbeats 8000000 in
theorem scanwithin_walk (n : Int) (v1 v2 : Value) (xs : List TypR) (len : Nat) (d g i nn y : Nat → Int) (u : Nat → Value) (m : Nat → Nat) (w : World) (hF : FieldsAt w) (h1 : TypsAt w v1 xs) (h2 : Steps6At w v2 len d g i nn y u m)
    (hl : xs.length ≤ 17592186044416) (hM : Masks xs) (hl2 : len ≤ 17592186044416) (hy : ∀ j, j < len → 0 ≤ y j ∧ y j ≤ 18446744073709551615) (hA : AtsAt w len u m) :
    Calls Tryz.prog 8 #[.int .i64 n, v1, v2] w fun e w' => e = .returned (.bool true) ∧ Keep Nope w w' := by
  have HF : Seal _ := ⟨hF⟩
  have HH : Seal _ := ⟨Heavy9_any n v1 v2 xs len d g i nn y u m w h1 h2 hl hl2⟩
  have HPl : Seal (len ≤ 60 → (∀ j, j < len → m j ≤ 300) → Calls Tryz.prog 30 #[.int .i64 n, v1, v2] w (PlayedPost n xs v1 w)) := ⟨fun q1 q2 => Played_any n v1 v2 xs len d g i nn y u m w hF h1 hl hM h2 q1 hy hA q2⟩
  have hv1 : ∃ a l c, v1 = .slice a l c := by obtain ⟨a, c, h, -⟩ := h1; exact ⟨_, _, _, h⟩
  have hv2 : ∃ a l c, v2 = .slice a l c := by obtain ⟨a, c, h, -⟩ := h2; exact ⟨_, _, _, h⟩
  obtain ⟨a1, l1, c1, rfl⟩ := hv1
  obtain ⟨a2, l2, c2, rfl⟩ := hv2
  clear hF h1 h2 hM hy hA hl hl2
  go_enter Tryz.func8, Tryz.ntmps8
  go_wp2_with fail
  refine HH.out.mono ?_
  rintro e w2 ⟨t, rfl, rfl, ht⟩
  cases t with
  | true =>
    clear ht
    go_wp2_with fail
    refine (alive18 _ HF.out).mono ?_
    rintro e w3 ⟨rfl, k3⟩
    go_wp2
    go_ret
    exact ⟨rfl, k3⟩
  | false =>
    obtain ⟨-, -, q1, q2⟩ := ht rfl
    have HPp : Seal _ := ⟨HPl.out q1 q2⟩
    clear q1 q2 ht HPl
    go_wp2_with fail
    refine HPp.out.mono ?_
    rintro e w3 (⟨rfl, k3⟩ | ⟨P, rb, q, W, cs, rfl, hBt, hPn, hPs, h16⟩)
    · have HK3 : Seal _ := ⟨k3⟩
      clear k3
      go_wp2_with fail
      refine (alive18 w3 (HF.out.keepN HK3.out)).mono ?_
      rintro e w4 ⟨rfl, k4⟩
      go_wp2
      go_ret
      exact ⟨rfl, HK3.out.then' k4⟩
    · obtain ⟨f, hsp, hcs, hst⟩ := hBt.sp
      have HSp : Seal _ := ⟨hsp⟩
      have HCs : Seal _ := ⟨hcs⟩
      have HSt : Seal _ := ⟨hst⟩
      have HHas : Seal _ := ⟨hBt.has'⟩
      have HK3 : Seal (Keep Nope w2 w3) := ⟨hBt.kb.new'⟩
      have hsm := hsp.ar.small
      have hev := hsp.ev
      have hlen : cs.length ≤ 32768 := by have := tiles_len hcs.tl; omega
      obtain ⟨N, hN⟩ : ∃ N, P.n = N := ⟨_, rfl⟩
      have HN : Seal _ := ⟨hN⟩
      rw [hN] at hPn hsm hev
      have HEv : Seal _ := ⟨hev⟩
      subst hPn
      clear hBt hPs h16 hsp hcs hst hN hev
      have HCl : Seal _ := ⟨Cells_at P cs w3 HHas.out⟩
      go_wp2_with fail
      refine HCl.out.mono ?_
      rintro e wl ⟨v, rfl, hown, kl⟩
      have HKL : Seal _ := ⟨kl⟩
      have HRow : Seal _ := ⟨RowC.of_owns hown⟩
      obtain ⟨va, vc, hva, -⟩ := HRow.out
      subst hva
      obtain ⟨L, hL⟩ : ∃ L, cs.length = L := ⟨_, rfl⟩
      rw [hL] at HRow hlen ⊢
      have HLen : Seal _ := ⟨hL⟩
      clear hown kl HCl hL
      go_wp2_with fail
      go_loopw [11, 12, 13, 14, 15, 16, 17] (fun x11 _ _ _ _ _ _ wr => ∃ j : Nat, j ≤ L ∧ x11 = .int .i64 (j : Nat) ∧ Keep Nope wl wr) (fun x11 _ _ _ _ _ _ _ => L - (intOf x11).toNat)
      case atStart => exact ⟨0, Nat.zero_le _, rfl, Keep.refl _ _⟩
      case round =>
        obtain ⟨j, hj, rfl, hkk⟩ := hrel
        have HKK : Seal _ := ⟨hkk⟩
        by_cases hjl : j < L
        · have hjl' : (j : Int) < (L : Int) := by omega
          obtain ⟨x, hx⟩ : ∃ x, cs[j]? = some x := ⟨cs[j]'(by rw [HLen.out]; exact hjl), by simp⟩
          have hmem : x ∈ cs := List.mem_of_getElem? hx
          have hsplit := take_drop_at hx
          have hfin : x.fin ≤ 32768 := by
            have := HCs.out.tl
            rw [hsplit] at this
            have := this.fin_at.2.1.le
            rw [HN.out] at this
            omega
          have hsz : x.g + x.sz ≤ 32768 := hfin
          obtain ⟨pre, post, HSplit⟩ : ∃ pre post, Seal (cs = pre ++ x :: post) := ⟨_, _, ⟨hsplit⟩⟩
          have HAt : Seal (∀ W', Keep Nope w3 W' → SpaceAt W' P W f ∧ CellsAt P W (pre ++ x :: post) ∧ (∀ i, i < P.n / 2 → f i = startOf (pre ++ x :: post) i)) := ⟨fun W' kk => by
            have h1 := HCs.out
            have h2 := HSt.out
            rw [HSplit.out] at h1 h2
            exact ⟨HSp.out.keepN kk, h1, h2⟩⟩
          obtain ⟨a', cap', ha', hrow⟩ := HRow.out.keepN hkk
          obtain ⟨b, hab, hb0, r0, r1, r2, r3, r4⟩ := hrow j x hx
          have hva : va = some ⟨b, 0, none⟩ := by injection ha' with h1; rw [h1]; exact hab
          subst hva
          obtain ⟨wc, hwc⟩ : ∃ wc, wc = wr.alloc (.cells #[.int .i64 (x.g : Nat), .int .u8 (x.tag : Nat), .int .i64 (x.ty : Nat), .int .i64 (x.ln : Nat), .int .i64 (x.sz : Nat)] 62) := ⟨_, rfl⟩
          have kc : Keep Nope wr wc := by rw [hwc]; exact (Keep.refl _ wr).alloc _
          have bc : wc.heap[wr.heap.size]? = some (.cells #[.int .i64 (x.g : Nat), .int .u8 (x.tag : Nat), .int .i64 (x.ty : Nat), .int .i64 (x.ln : Nat), .int .i64 (x.sz : Nat)] 62 (0, 0)) := by rw [hwc]; exact World.alloc_heap_new wr _
          obtain ⟨c0, c1, c2, c3, c4⟩ := cells5 bc
          have HBC : Seal _ := ⟨bc⟩
          have HKC : Seal (Keep Nope w3 wc) := ⟨HKL.out.then' (hkk.then' kc)⟩
          have HKW : Seal (Keep Nope wl wc) := ⟨hkk.then' kc⟩
          obtain ⟨B, hB⟩ : ∃ B, wr.heap.size = B := ⟨_, rfl⟩
          rw [hB] at HBC
          clear hrow ha' hab hkk hmem hsplit hfin kc bc hx
          go_wp2_with fail
          rw [← hwc]
          clear hwc hB r0 r1 r2 r3 r4 hb0 c0 c1 c2 c3 c4
          go_loopw [13, 14, 15, 16, 17] (fun x13 _ _ _ _ wr => ∃ k : Nat, k ≤ 2 * x.sz ∧ x13 = .int .i64 ((2 * x.g + k : Nat) : Int) ∧ Keep Nope wc wr) (fun x13 _ _ _ _ _ => 2 * (x.g + x.sz) - (intOf x13).toNat)
          case atStart => exact ⟨0, Nat.zero_le _, by go_num, Keep.refl _ _⟩
          case round =>
            obtain ⟨k, hk, rfl, hkr⟩ := hrel
            have HKR : Seal _ := ⟨hkr⟩
            obtain ⟨d0, d1, d2, d3, d4⟩ := cells5 (hkr.at_ HBC.out (fun h => h))
            have HE : Seal ((2 * x.g + k : Nat) + 1 = 2 * x.g + (k + 1)) := ⟨rfl⟩
            have HQ : Seal (2 * x.g ≤ 2 * x.g + k ∧ (k < 2 * x.sz → 2 * x.g + k < 2 * x.fin) ∧ (2 * x.g + k = 2 * x.g ↔ k = 0)) := ⟨by omega, fun h => by unfold Cel.fin; omega, by omega⟩
            obtain ⟨q, hq⟩ : ∃ q, 2 * x.g + k = q := ⟨_, rfl⟩
            rw [hq] at HE HQ ⊢
            by_cases hkl : k < 2 * x.sz
            · have hkl' : (q : Int) < 2 * ((x.g : Int) + (x.sz : Int)) := by omega
              have hq6 : q ≤ 65536 := by omega
              have HKQ : Seal (k + 1 ≤ 2 * x.sz) := ⟨hkl⟩
              have hcv1 : IntKind.u64.wrap (q : Int) = (q : Int) := by rw [IntKind.wrap_u64]; omega
              have hcv2 : IntKind.u64.wrap (1048576 + (q : Int)) = 1048576 + (q : Int) := by rw [IntKind.wrap_u64]; omega
              have e1 : ∀ o1 o2, ((wr.alloc o1).alloc o2).cell? ⟨B, 1, none⟩ = some (.int .u8 (x.tag : Nat)) := fun o1 o2 => (((Keep.refl Nope wr).alloc o1).alloc o2).cell d1 (fun h => h)
              have e0 : ∀ o1 o2, ((wr.alloc o1).alloc o2).cell? ⟨B, 0, none⟩ = some (.int .i64 (x.g : Nat)) := fun o1 o2 => (((Keep.refl Nope wr).alloc o1).alloc o2).cell d0 (fun h => h)
              clear hkr
              by_cases q1 : x.tag = 1
              · have p2 : ((x.tag : Int) == 1) = true := by simp [q1]
                have Q1 : Seal _ := ⟨q1⟩
                clear q1
                by_cases hk0 : k = 0
                · have hqk : q = 2 * x.g := HQ.out.2.2.2 hk0
                  have p3 : ((q : Int) == 2 * (x.g : Int)) = true := by simp; omega
                  have hgs : (x.g : Int) ≤ 32768 := by omega
                  clear hq hkl hk hk0
                  obtain ⟨wd, hwd⟩ : ∃ wd, wd = (((wr.alloc (.cells #[.int .i64 ((q : Int) / 2)] 3)).alloc (.cells #[.slice (some ⟨wr.heap.size + 1 + 1, 0, none⟩) 1 1, .slice none 0 0, .int .i64 0] 89)).alloc (.cells #[.int .i64 (x.g : Nat)] 3)).alloc (.cells #[.int .u64 (1048576 + (q : Int))] 32) := ⟨_, rfl⟩
                  have hfour := four_allocs wr (.cells #[.int .i64 ((q : Int) / 2)] 3) (.cells #[.slice (some ⟨wr.heap.size + 1 + 1, 0, none⟩) 1 1, .slice none 0 0, .int .i64 0] 89) (.cells #[.int .i64 (x.g : Nat)] 3) (.cells #[.int .u64 (1048576 + (q : Int))] 32)
                  rw [← hwd] at hfour
                  obtain ⟨bA, bB, bC, bD, kd⟩ := hfour
                  have HKD : Seal _ := ⟨HKR.out.then' kd⟩
                  have HBB : Seal _ := ⟨bB⟩
                  have HBA : Seal _ := ⟨bC⟩
                  have HB0 : Seal (wd.cell? ⟨B, 0, none⟩ = some (.int .i64 (x.g : Nat)) ∧ wd.cell? ⟨B, 1, none⟩ = some (.int .u8 (x.tag : Nat))) := ⟨⟨kd.cell d0 (fun h => h), kd.cell d1 (fun h => h)⟩⟩
                  have hword := word_one (q := q) (cap := 1) bD (by omega)
                  have HPr : Seal _ := ⟨pre_yes x pre post P W f (.slice (some ⟨wr.heap.size + 1 + 1 + 1, 0, none⟩) 1 1) wd (HAt.out wd (HKC.out.then' HKD.out)).1 (HAt.out wd (HKC.out.then' HKD.out)).2.1 (HAt.out wd (HKC.out.then' HKD.out)).2.2 Q1.out (by rw [← hqk]; exact hword)⟩
                  clear bA bB bC bD kd hword hqk
                  go_wp2_with fail
                  rw [← hwd]
                  clear hwd e0 e1 d0 d1 d2 d3 d4
                  refine HPr.out.mono ?_
                  rintro e w4 ⟨ra, rn, rc, rfl, hri, k4⟩
                  have HRI : Seal _ := ⟨hri⟩
                  have HK4 : Seal _ := ⟨HKD.out.then' k4⟩
                  have s3 := k4.cell HB0.out.1 (fun h => h)
                  have s4 := k4.cell HB0.out.2 (fun h => h)
                  obtain ⟨s0, s1, s2⟩ := scan_cells (k4.at_ HBB.out (fun h => h))
                  have HA4 : Seal _ := ⟨k4.at_ HBA.out (fun h => h)⟩
                  clear k4 hri
                  go_wp2_with fail
                  refine wp_region_held_drew (S := fun w' => w'.cell? ⟨wr.heap.size + 1, 0, none⟩ = some (.slice (some ⟨wr.heap.size + 1 + 1, 0, none⟩) 1 1) ∧ w'.cell? ⟨wr.heap.size + 1, 1, none⟩ = some (.slice none 0 0) ∧ w'.cell? ⟨wr.heap.size + 1, 2, none⟩ = some (.int .i64 0) ∧ w'.cell? ⟨B, 0, none⟩ = some (.int .i64 (x.g : Nat))) (by kernel_rfl) ?_ (fun hHeld => ?_)
                  · (try dsimp only); (exact ⟨s0, s1, s2, s3⟩)
                  refine tk 0 (v := ?_) rfl (fun w0 hSw => ?_) ?_
                  rotate_left
                  · (try dsimp only at hSw); go_simp; (try with_reducible rfl)
                  refine tk 1 (v := ?_) rfl (fun w0 hSw => ?_) ?_
                  rotate_left
                  · (try dsimp only at hSw); go_simp; (try with_reducible rfl)
                  refine tk 2 (v := ?_) rfl (fun w0 hSw => ?_) ?_
                  rotate_left
                  · (try dsimp only at hSw); go_simp; (try with_reducible rfl)
                  refine tk 3 (v := ?_) rfl (fun w0 hSw => ?_) ?_
                  rotate_left
                  · (try dsimp only at hSw); go_simp; (try with_reducible rfl)
                  refine tk 6 (v := ?_) rfl (fun w0 hSw => ?_) ?_
                  rotate_left
                  · (try dsimp only at hSw); go_simp; (try with_reducible rfl)
                  try simp only [Act.put, List.setIfInBounds_toArray, List.set_cons_zero, List.set_cons_succ]
                  refine wpAnyH_ready (rs := [4]) (by kernel_rfl) (by simp) ?_
                  refine ready_held rfl (fun K hK => ?_)
                  go_simp
                  obtain ⟨w5, hw5⟩ : ∃ w5, w5 = World.drew (World.alloc w4 (.cells #[.int .u64 (1048576 + (q : Int))] 32)) := ⟨_, rfl⟩
                  rw [← hw5]
                  have k5 : Keep Nope w4 w5 := by rw [hw5]; exact ((Keep.refl _ _).alloc _).drew
                  have b5 : w5.heap[w4.heap.size]? = some (.cells #[.int .u64 (1048576 + (q : Int))] 32 (0, 0)) := by rw [hw5]; exact World.alloc_heap_new w4 _
                  clear hw5
                  refine hK _ _ ?_ (fun hHeld => ?_)
                  · (try dsimp only); exact ⟨keepc k5 s0, keepc k5 s1, keepc k5 s2, keepc k5 s3⟩
                  clear hK K
                  try simp only [Act.put, List.setIfInBounds_toArray, List.set_cons_zero, List.set_cons_succ]
                  have HO5 : Seal _ := ⟨scan_one q x pre post P W f (.slice (some ⟨w4.heap.size, 0, none⟩) 1 1) w5 (HAt.out w5 (HKC.out.then' (HK4.out.then' k5))).1 (HAt.out w5 (HKC.out.then' (HK4.out.then' k5))).2.1 (HAt.out w5 (HKC.out.then' (HK4.out.then' k5))).2.2 HQ.out.1 (HQ.out.2.1 HKQ.out) (word_one (cap := 1) b5 (by omega))⟩
                  refine wpAnyH_ready (rs := [5]) (by kernel_rfl) (by simp) ?_
                  refine ready_held rfl (fun K hK => ?_)
                  go_simp
                  go_at_call 44
                  (with_reducible refine HO5.out.mono ?_)
                  rintro e w6 ⟨oa, on, oc, oa', on', oc', rfl, hoi, k6⟩
                  have k46 := k5.then' k6
                  refine hK _ _ ?_ (fun hHeld => ?_)
                  · (try dsimp only); exact ⟨keepc k46 s0, keepc k46 s1, keepc k46 s2, keepc k46 s3⟩
                  clear hK K
                  try simp only [Act.put, List.setIfInBounds_toArray, List.set_cons_zero, List.set_cons_succ]
                  rw [if_pos Q1.out, if_pos Q1.out] at hoi
                  have HSm : Seal _ := ⟨ScanSame_yes (l := 0) hoi.1 hoi.2 (ints_one (cap := 1) (k46.at_ HA4.out (fun h => h)) (by omega)) (ints_nil w6) (by simp) (by simp)⟩
                  clear hoi HO5 b5 k5 k6
                  refine wpAnyH_ready (rs := [7]) (by kernel_rfl) (by simp) ?_
                  refine ready_held rfl (fun K hK => ?_)
                  go_simp
                  go_at_call 43
                  (with_reducible refine HSm.out.mono ?_)
                  rintro e w7 ⟨rfl, k7⟩
                  have k47 := k46.then' k7
                  refine hK _ _ ?_ (fun hHeld => ?_)
                  · (try dsimp only); exact ⟨keepc k47 s0, keepc k47 s1, keepc k47 s2, keepc k47 s3⟩
                  clear hK K
                  try simp only [Act.put, List.setIfInBounds_toArray, List.set_cons_zero, List.set_cons_succ]
                  clear k46 k7 HSm
                  refine tk 8 (v := ?_) rfl (fun w0 hSw => ?_) ?_
                  rotate_left
                  · (try dsimp only at hSw); go_simp; (try with_reducible rfl)
                  refine tk 9 (v := ?_) rfl (fun w0 hSw => ?_) ?_
                  rotate_left
                  · (try dsimp only at hSw); go_simp; (try with_reducible rfl)
                  refine tk 10 (v := ?_) rfl (fun w0 hSw => ?_) ?_
                  rotate_left
                  · (try dsimp only at hSw); go_simp; (try with_reducible rfl)
                  refine tk 11 (v := ?_) rfl (fun w0 hSw => ?_) ?_
                  rotate_left
                  · (try dsimp only at hSw); go_simp; (try with_reducible rfl)
                  refine tk 12 (v := ?_) rfl (fun w0 hSw => ?_) ?_
                  rotate_left
                  · (try dsimp only at hSw); go_simp; (try with_reducible rfl)
                  refine tk 13 (v := ?_) rfl (fun w0 hSw => ?_) ?_
                  rotate_left
                  · (try dsimp only at hSw); go_simp; (try with_reducible rfl)
                  refine tk 14 (v := ?_) rfl (fun w0 hSw => ?_) ?_
                  rotate_left
                  · (try dsimp only at hSw); go_simp; (try with_reducible rfl)
                  refine tk 15 (v := ?_) rfl (fun w0 hSw => ?_) ?_
                  rotate_left
                  · (try dsimp only at hSw); go_simp; (try with_reducible rfl)
                  refine tk 16 (v := ?_) rfl (fun w0 hSw => ?_) ?_
                  rotate_left
                  · (try dsimp only at hSw); go_simp; (try with_reducible rfl)
                  refine tk 17 (v := ?_) rfl (fun w0 hSw => ?_) ?_
                  rotate_left
                  · (try dsimp only at hSw); go_simp; (try with_reducible rfl)
                  try simp only [Act.put, List.setIfInBounds_toArray, List.set_cons_zero, List.set_cons_succ]
                  refine tk 18 (v := ?_) rfl (fun w0 hSw => ?_) ?_
                  rotate_left
                  · (try dsimp only at hSw); go_simp; (try with_reducible rfl)
                  refine tk 19 (v := ?_) rfl (fun w0 hSw => ?_) ?_
                  rotate_left
                  · (try dsimp only at hSw); go_simp; (try with_reducible rfl)
                  refine tk 20 (v := ?_) rfl (fun w0 hSw => ?_) ?_
                  rotate_left
                  · (try dsimp only at hSw); go_simp; (try with_reducible rfl)
                  try simp only [Act.put, List.setIfInBounds_toArray, List.set_cons_zero, List.set_cons_succ]
                  refine wpAnyH_ready (rs := [21]) (by kernel_rfl) (by simp) ?_
                  refine ready_held rfl (fun K hK => ?_)
                  go_simp
                  obtain ⟨w8, hw8⟩ : ∃ w8, w8 = World.alloc w7 (.cells #[.int .i64 (x.g : Nat)] 3) := ⟨_, rfl⟩
                  rw [← hw8]
                  have k8 : Keep Nope w7 w8 := by rw [hw8]; exact (Keep.refl _ _).alloc _
                  have b8 : w8.heap[w7.heap.size]? = some (.cells #[.int .i64 (x.g : Nat)] 3 (0, 0)) := by rw [hw8]; exact World.alloc_heap_new w7 _
                  clear hw8
                  have k48 := k47.then' k8
                  refine hK _ _ ?_ (fun hHeld => ?_)
                  · (try dsimp only); exact ⟨keepc k48 s0, keepc k48 s1, keepc k48 s2, keepc k48 s3⟩
                  clear hK K
                  try simp only [Act.put, List.setIfInBounds_toArray, List.set_cons_zero, List.set_cons_succ]
                  have HSI : Seal _ := ⟨SameInts_yes (HRI.out.keepN k48) (ints_one (cap := 1) b8 (by omega)) (by simp)⟩
                  clear b8 k47 k8
                  refine wpAnyH_ready (rs := [22]) (by kernel_rfl) (by simp) ?_
                  refine ready_held rfl (fun K hK => ?_)
                  go_simp
                  go_at_call 34
                  (with_reducible refine HSI.out.mono ?_)
                  rintro e w9 ⟨rfl, k9⟩
                  have k49 := k48.then' k9
                  refine hK _ _ ?_ (fun hHeld => ?_)
                  · (try dsimp only); exact ⟨keepc k49 s0, keepc k49 s1, keepc k49 s2, keepc k49 s3⟩
                  clear hK K
                  try simp only [Act.put, List.setIfInBounds_toArray, List.set_cons_zero, List.set_cons_succ]
                  clear k48 k9 HSI
                  refine tk 23 (v := ?_) rfl (fun w0 hSw => ?_) ?_
                  rotate_left
                  · (try dsimp only at hSw); go_simp; (try with_reducible rfl)
                  refine tk 24 (v := ?_) rfl (fun w0 hSw => ?_) ?_
                  rotate_left
                  · (try dsimp only at hSw); go_simp; (try with_reducible rfl)
                  refine tk 25 (v := ?_) rfl (fun w0 hSw => ?_) ?_
                  rotate_left
                  · (try dsimp only at hSw); go_simp; (try with_reducible rfl)
                  try simp only [Act.put, List.setIfInBounds_toArray, List.set_cons_zero, List.set_cons_succ]
                  refine wpAnyH_done (by kernel_rfl) ?_ _
                  have HK9 : Seal _ := ⟨HK4.out.then' k49⟩
                  clear k49 s0 s1 s2 s3 s4
                  go_wp2
                  exact ⟨⟨k + 1, HKQ.out, by rw [← HE.out]; go_num, HK9.out⟩, by simp only [intOf]; omega⟩
                · have p3 : ((q : Int) == 2 * (x.g : Int)) = false := by simp; omega
                  have hgs : (x.g : Int) ≤ 32768 := by omega
                  clear hq hkl hk
                  obtain ⟨wd, hwd⟩ : ∃ wd, wd = (((wr.alloc (.cells #[.int .i64 ((q : Int) / 2)] 3)).alloc (.cells #[.slice (some ⟨wr.heap.size + 1 + 1, 0, none⟩) 1 1, .slice none 0 0, .int .i64 0] 89)).alloc (.cells #[.int .i64 (x.g : Nat)] 3)).alloc (.cells #[.int .u64 (1048576 + (q : Int))] 32) := ⟨_, rfl⟩
                  have hfour := four_allocs wr (.cells #[.int .i64 ((q : Int) / 2)] 3) (.cells #[.slice (some ⟨wr.heap.size + 1 + 1, 0, none⟩) 1 1, .slice none 0 0, .int .i64 0] 89) (.cells #[.int .i64 (x.g : Nat)] 3) (.cells #[.int .u64 (1048576 + (q : Int))] 32)
                  rw [← hwd] at hfour
                  obtain ⟨bA, bB, bC, bD, kd⟩ := hfour
                  have HKD : Seal _ := ⟨HKR.out.then' kd⟩
                  have HBB : Seal _ := ⟨bB⟩
                  have HBA : Seal _ := ⟨bC⟩
                  have HB0 : Seal (wd.cell? ⟨B, 0, none⟩ = some (.int .i64 (x.g : Nat)) ∧ wd.cell? ⟨B, 1, none⟩ = some (.int .u8 (x.tag : Nat))) := ⟨⟨kd.cell d0 (fun h => h), kd.cell d1 (fun h => h)⟩⟩
                  have hword := word_one (q := q) (cap := 1) bD (by omega)
                  have HPr : Seal _ := ⟨pre_no q x pre post P W f (.slice (some ⟨wr.heap.size + 1 + 1 + 1, 0, none⟩) 1 1) wd (HAt.out wd (HKC.out.then' HKD.out)).1 (HAt.out wd (HKC.out.then' HKD.out)).2.1 (HAt.out wd (HKC.out.then' HKD.out)).2.2 HQ.out.1 (HQ.out.2.1 HKQ.out) (by rintro ⟨-, h⟩; exact hk0 (HQ.out.2.2.1 h)) hword⟩
                  clear bA bB bC bD kd hword
                  go_wp2_with fail
                  rw [← hwd]
                  clear hwd e0 e1 d0 d1 d2 d3 d4
                  refine HPr.out.mono ?_
                  rintro e w4 ⟨rfl, k4⟩
                  have HK4 : Seal _ := ⟨HKD.out.then' k4⟩
                  have s3 := k4.cell HB0.out.1 (fun h => h)
                  have s4 := k4.cell HB0.out.2 (fun h => h)
                  obtain ⟨s0, s1, s2⟩ := scan_cells (k4.at_ HBB.out (fun h => h))
                  have HA4 : Seal _ := ⟨k4.at_ HBA.out (fun h => h)⟩
                  clear k4
                  go_wp2_with fail
                  refine wp_region_held_drew (S := fun w' => w'.cell? ⟨wr.heap.size + 1, 0, none⟩ = some (.slice (some ⟨wr.heap.size + 1 + 1, 0, none⟩) 1 1) ∧ w'.cell? ⟨wr.heap.size + 1, 1, none⟩ = some (.slice none 0 0) ∧ w'.cell? ⟨wr.heap.size + 1, 2, none⟩ = some (.int .i64 0) ∧ w'.cell? ⟨B, 0, none⟩ = some (.int .i64 (x.g : Nat))) (by kernel_rfl) ?_ (fun hHeld => ?_)
                  · (try dsimp only); (exact ⟨s0, s1, s2, s3⟩)
                  refine tk 0 (v := ?_) rfl (fun w0 hSw => ?_) ?_
                  rotate_left
                  · (try dsimp only at hSw); go_simp; (try with_reducible rfl)
                  refine tk 1 (v := ?_) rfl (fun w0 hSw => ?_) ?_
                  rotate_left
                  · (try dsimp only at hSw); go_simp; (try with_reducible rfl)
                  refine tk 2 (v := ?_) rfl (fun w0 hSw => ?_) ?_
                  rotate_left
                  · (try dsimp only at hSw); go_simp; (try with_reducible rfl)
                  refine tk 3 (v := ?_) rfl (fun w0 hSw => ?_) ?_
                  rotate_left
                  · (try dsimp only at hSw); go_simp; (try with_reducible rfl)
                  refine tk 6 (v := ?_) rfl (fun w0 hSw => ?_) ?_
                  rotate_left
                  · (try dsimp only at hSw); go_simp; (try with_reducible rfl)
                  try simp only [Act.put, List.setIfInBounds_toArray, List.set_cons_zero, List.set_cons_succ]
                  refine wpAnyH_ready (rs := [4]) (by kernel_rfl) (by simp) ?_
                  refine ready_held rfl (fun K hK => ?_)
                  go_simp
                  obtain ⟨w5, hw5⟩ : ∃ w5, w5 = World.drew (World.alloc w4 (.cells #[.int .u64 (1048576 + (q : Int))] 32)) := ⟨_, rfl⟩
                  rw [← hw5]
                  have k5 : Keep Nope w4 w5 := by rw [hw5]; exact ((Keep.refl _ _).alloc _).drew
                  have b5 : w5.heap[w4.heap.size]? = some (.cells #[.int .u64 (1048576 + (q : Int))] 32 (0, 0)) := by rw [hw5]; exact World.alloc_heap_new w4 _
                  clear hw5
                  refine hK _ _ ?_ (fun hHeld => ?_)
                  · (try dsimp only); exact ⟨keepc k5 s0, keepc k5 s1, keepc k5 s2, keepc k5 s3⟩
                  clear hK K
                  try simp only [Act.put, List.setIfInBounds_toArray, List.set_cons_zero, List.set_cons_succ]
                  have HO5 : Seal _ := ⟨scan_one q x pre post P W f (.slice (some ⟨w4.heap.size, 0, none⟩) 1 1) w5 (HAt.out w5 (HKC.out.then' (HK4.out.then' k5))).1 (HAt.out w5 (HKC.out.then' (HK4.out.then' k5))).2.1 (HAt.out w5 (HKC.out.then' (HK4.out.then' k5))).2.2 HQ.out.1 (HQ.out.2.1 HKQ.out) (word_one (cap := 1) b5 (by omega))⟩
                  refine wpAnyH_ready (rs := [5]) (by kernel_rfl) (by simp) ?_
                  refine ready_held rfl (fun K hK => ?_)
                  go_simp
                  go_at_call 44
                  (with_reducible refine HO5.out.mono ?_)
                  rintro e w6 ⟨oa, on, oc, oa', on', oc', rfl, hoi, k6⟩
                  have k46 := k5.then' k6
                  refine hK _ _ ?_ (fun hHeld => ?_)
                  · (try dsimp only); exact ⟨keepc k46 s0, keepc k46 s1, keepc k46 s2, keepc k46 s3⟩
                  clear hK K
                  try simp only [Act.put, List.setIfInBounds_toArray, List.set_cons_zero, List.set_cons_succ]
                  rw [if_pos Q1.out, if_pos Q1.out] at hoi
                  have HSm : Seal _ := ⟨ScanSame_yes (l := 0) hoi.1 hoi.2 (ints_one (cap := 1) (k46.at_ HA4.out (fun h => h)) (by omega)) (ints_nil w6) (by simp) (by simp)⟩
                  clear hoi HO5 b5 k5 k6
                  refine wpAnyH_ready (rs := [7]) (by kernel_rfl) (by simp) ?_
                  refine ready_held rfl (fun K hK => ?_)
                  go_simp
                  go_at_call 43
                  (with_reducible refine HSm.out.mono ?_)
                  rintro e w7 ⟨rfl, k7⟩
                  have k47 := k46.then' k7
                  refine hK _ _ ?_ (fun hHeld => ?_)
                  · (try dsimp only); exact ⟨keepc k47 s0, keepc k47 s1, keepc k47 s2, keepc k47 s3⟩
                  clear hK K
                  try simp only [Act.put, List.setIfInBounds_toArray, List.set_cons_zero, List.set_cons_succ]
                  clear k46 k7 HSm
                  refine tk 8 (v := ?_) rfl (fun w0 hSw => ?_) ?_
                  rotate_left
                  · (try dsimp only at hSw); go_simp; (try with_reducible rfl)
                  refine tk 9 (v := ?_) rfl (fun w0 hSw => ?_) ?_
                  rotate_left
                  · (try dsimp only at hSw); go_simp; (try with_reducible rfl)
                  refine tk 10 (v := ?_) rfl (fun w0 hSw => ?_) ?_
                  rotate_left
                  · (try dsimp only at hSw); go_simp; (try with_reducible rfl)
                  refine tk 11 (v := ?_) rfl (fun w0 hSw => ?_) ?_
                  rotate_left
                  · (try dsimp only at hSw); go_simp; (try with_reducible rfl)
                  refine tk 12 (v := ?_) rfl (fun w0 hSw => ?_) ?_
                  rotate_left
                  · (try dsimp only at hSw); go_simp; (try with_reducible rfl)
                  refine tk 13 (v := ?_) rfl (fun w0 hSw => ?_) ?_
                  rotate_left
                  · (try dsimp only at hSw); go_simp; (try with_reducible rfl)
                  refine tk 14 (v := ?_) rfl (fun w0 hSw => ?_) ?_
                  rotate_left
                  · (try dsimp only at hSw); go_simp; (try with_reducible rfl)
                  refine tk 15 (v := ?_) rfl (fun w0 hSw => ?_) ?_
                  rotate_left
                  · (try dsimp only at hSw); go_simp; (try with_reducible rfl)
                  refine tk 16 (v := ?_) rfl (fun w0 hSw => ?_) ?_
                  rotate_left
                  · (try dsimp only at hSw); go_simp; (try with_reducible rfl)
                  refine tk 17 (v := ?_) rfl (fun w0 hSw => ?_) ?_
                  rotate_left
                  · (try dsimp only at hSw); go_simp; (try with_reducible rfl)
                  try simp only [Act.put, List.setIfInBounds_toArray, List.set_cons_zero, List.set_cons_succ]
                  refine sk 18 rfl ?_
                  refine sk 19 rfl ?_
                  refine sk 20 rfl ?_
                  refine sk 21 rfl ?_
                  refine sk 22 rfl ?_
                  refine sk 23 rfl ?_
                  try simp only [Act.put, List.setIfInBounds_toArray, List.set_cons_zero, List.set_cons_succ]
                  refine tk 24 (v := ?_) rfl (fun w0 hSw => ?_) ?_
                  rotate_left
                  · (try dsimp only at hSw); go_simp; (try with_reducible rfl)
                  refine tk 25 (v := ?_) rfl (fun w0 hSw => ?_) ?_
                  rotate_left
                  · (try dsimp only at hSw); go_simp; (try with_reducible rfl)
                  try simp only [Act.put, List.setIfInBounds_toArray, List.set_cons_zero, List.set_cons_succ]
                  refine wpAnyH_done (by kernel_rfl) ?_ _
                  have HK9 : Seal _ := ⟨HK4.out.then' k47⟩
                  clear k47 s0 s1 s2 s3 s4
                  go_wp2
                  exact ⟨⟨k + 1, HKQ.out, by rw [← HE.out]; go_num, HK9.out⟩, by simp only [intOf]; omega⟩
              · have p2 : ((x.tag : Int) == 1) = false := by simp; omega
                have hgs : (x.g : Int) ≤ 32768 := by omega
                have Q1 : Seal _ := ⟨q1⟩
                clear hq hkl hk q1
                obtain ⟨wd, hwd⟩ : ∃ wd, wd = ((wr.alloc (.cells #[.int .i64 ((q : Int) / 2)] 3)).alloc (.cells #[.slice none 0 0, .slice (some ⟨wr.heap.size, 0, none⟩) 1 1, .int .i64 0] 89)).alloc (.cells #[.int .u64 (1048576 + (q : Int))] 32) := ⟨_, rfl⟩
                have hthree := three_allocs wr (.cells #[.int .i64 ((q : Int) / 2)] 3) (.cells #[.slice none 0 0, .slice (some ⟨wr.heap.size, 0, none⟩) 1 1, .int .i64 0] 89) (.cells #[.int .u64 (1048576 + (q : Int))] 32)
                rw [← hwd] at hthree
                obtain ⟨bA, bB, bD, kd⟩ := hthree
                have HKD : Seal _ := ⟨HKR.out.then' kd⟩
                have HBB : Seal _ := ⟨bB⟩
                have HBA : Seal _ := ⟨bA⟩
                have HB0 : Seal (wd.cell? ⟨B, 0, none⟩ = some (.int .i64 (x.g : Nat)) ∧ wd.cell? ⟨B, 1, none⟩ = some (.int .u8 (x.tag : Nat))) := ⟨⟨kd.cell d0 (fun h => h), kd.cell d1 (fun h => h)⟩⟩
                have hword := word_one (q := q) (cap := 1) bD (by omega)
                have HPr : Seal _ := ⟨pre_no q x pre post P W f (.slice (some ⟨wr.heap.size + 1 + 1, 0, none⟩) 1 1) wd (HAt.out wd (HKC.out.then' HKD.out)).1 (HAt.out wd (HKC.out.then' HKD.out)).2.1 (HAt.out wd (HKC.out.then' HKD.out)).2.2 HQ.out.1 (HQ.out.2.1 HKQ.out) (by rintro ⟨h, -⟩; exact Q1.out h) hword⟩
                clear bA bB bD kd hword
                go_wp2_with fail
                rw [← hwd]
                clear hwd e0 e1 d0 d1 d2 d3 d4
                refine HPr.out.mono ?_
                rintro e w4 ⟨rfl, k4⟩
                have HK4 : Seal _ := ⟨HKD.out.then' k4⟩
                have s3 := k4.cell HB0.out.1 (fun h => h)
                have s4 := k4.cell HB0.out.2 (fun h => h)
                obtain ⟨s0, s1, s2⟩ := scan_cells (k4.at_ HBB.out (fun h => h))
                have HA4 : Seal _ := ⟨k4.at_ HBA.out (fun h => h)⟩
                clear k4
                go_wp2_with fail
                refine wp_region_held_drew (S := fun w' => w'.cell? ⟨wr.heap.size + 1, 0, none⟩ = some (.slice none 0 0) ∧ w'.cell? ⟨wr.heap.size + 1, 1, none⟩ = some (.slice (some ⟨wr.heap.size, 0, none⟩) 1 1) ∧ w'.cell? ⟨wr.heap.size + 1, 2, none⟩ = some (.int .i64 0) ∧ w'.cell? ⟨B, 0, none⟩ = some (.int .i64 (x.g : Nat))) (by kernel_rfl) ?_ (fun hHeld => ?_)
                · (try dsimp only); (exact ⟨s0, s1, s2, s3⟩)
                refine tk 0 (v := ?_) rfl (fun w0 hSw => ?_) ?_
                rotate_left
                · (try dsimp only at hSw); go_simp; (try with_reducible rfl)
                refine tk 1 (v := ?_) rfl (fun w0 hSw => ?_) ?_
                rotate_left
                · (try dsimp only at hSw); go_simp; (try with_reducible rfl)
                refine tk 2 (v := ?_) rfl (fun w0 hSw => ?_) ?_
                rotate_left
                · (try dsimp only at hSw); go_simp; (try with_reducible rfl)
                refine tk 3 (v := ?_) rfl (fun w0 hSw => ?_) ?_
                rotate_left
                · (try dsimp only at hSw); go_simp; (try with_reducible rfl)
                refine tk 6 (v := ?_) rfl (fun w0 hSw => ?_) ?_
                rotate_left
                · (try dsimp only at hSw); go_simp; (try with_reducible rfl)
                try simp only [Act.put, List.setIfInBounds_toArray, List.set_cons_zero, List.set_cons_succ]
                refine wpAnyH_ready (rs := [4]) (by kernel_rfl) (by simp) ?_
                refine ready_held rfl (fun K hK => ?_)
                go_simp
                obtain ⟨w5, hw5⟩ : ∃ w5, w5 = World.drew (World.alloc w4 (.cells #[.int .u64 (1048576 + (q : Int))] 32)) := ⟨_, rfl⟩
                rw [← hw5]
                have k5 : Keep Nope w4 w5 := by rw [hw5]; exact ((Keep.refl _ _).alloc _).drew
                have b5 : w5.heap[w4.heap.size]? = some (.cells #[.int .u64 (1048576 + (q : Int))] 32 (0, 0)) := by rw [hw5]; exact World.alloc_heap_new w4 _
                clear hw5
                refine hK _ _ ?_ (fun hHeld => ?_)
                · (try dsimp only); exact ⟨keepc k5 s0, keepc k5 s1, keepc k5 s2, keepc k5 s3⟩
                clear hK K
                try simp only [Act.put, List.setIfInBounds_toArray, List.set_cons_zero, List.set_cons_succ]
                have HO5 : Seal _ := ⟨scan_one q x pre post P W f (.slice (some ⟨w4.heap.size, 0, none⟩) 1 1) w5 (HAt.out w5 (HKC.out.then' (HK4.out.then' k5))).1 (HAt.out w5 (HKC.out.then' (HK4.out.then' k5))).2.1 (HAt.out w5 (HKC.out.then' (HK4.out.then' k5))).2.2 HQ.out.1 (HQ.out.2.1 HKQ.out) (word_one (cap := 1) b5 (by omega))⟩
                refine wpAnyH_ready (rs := [5]) (by kernel_rfl) (by simp) ?_
                refine ready_held rfl (fun K hK => ?_)
                go_simp
                go_at_call 44
                (with_reducible refine HO5.out.mono ?_)
                rintro e w6 ⟨oa, on, oc, oa', on', oc', rfl, hoi, k6⟩
                have k46 := k5.then' k6
                refine hK _ _ ?_ (fun hHeld => ?_)
                · (try dsimp only); exact ⟨keepc k46 s0, keepc k46 s1, keepc k46 s2, keepc k46 s3⟩
                clear hK K
                try simp only [Act.put, List.setIfInBounds_toArray, List.set_cons_zero, List.set_cons_succ]
                rw [if_neg Q1.out, if_neg Q1.out] at hoi
                have HSm : Seal _ := ⟨ScanSame_yes (l := 0) hoi.1 hoi.2 (ints_nil w6) (ints_one (cap := 1) (x := ((q / 2 : Nat) : Int)) (k46.at_ HA4.out (fun h => h)) (by omega)) (by simp) (by simp)⟩
                clear hoi HO5 b5 k5 k6
                refine wpAnyH_ready (rs := [7]) (by kernel_rfl) (by simp) ?_
                refine ready_held rfl (fun K hK => ?_)
                go_simp
                go_at_call 43
                (with_reducible refine HSm.out.mono ?_)
                rintro e w7 ⟨rfl, k7⟩
                have k47 := k46.then' k7
                refine hK _ _ ?_ (fun hHeld => ?_)
                · (try dsimp only); exact ⟨keepc k47 s0, keepc k47 s1, keepc k47 s2, keepc k47 s3⟩
                clear hK K
                try simp only [Act.put, List.setIfInBounds_toArray, List.set_cons_zero, List.set_cons_succ]
                clear k46 k7 HSm
                refine tk 8 (v := ?_) rfl (fun w0 hSw => ?_) ?_
                rotate_left
                · (try dsimp only at hSw); go_simp; (try with_reducible rfl)
                refine tk 9 (v := ?_) rfl (fun w0 hSw => ?_) ?_
                rotate_left
                · (try dsimp only at hSw); go_simp; (try with_reducible rfl)
                refine tk 10 (v := ?_) rfl (fun w0 hSw => ?_) ?_
                rotate_left
                · (try dsimp only at hSw); go_simp; (try with_reducible rfl)
                refine tk 11 (v := ?_) rfl (fun w0 hSw => ?_) ?_
                rotate_left
                · (try dsimp only at hSw); go_simp; (try with_reducible rfl)
                refine tk 12 (v := ?_) rfl (fun w0 hSw => ?_) ?_
                rotate_left
                · (try dsimp only at hSw); go_simp; (try with_reducible rfl)
                refine tk 13 (v := ?_) rfl (fun w0 hSw => ?_) ?_
                rotate_left
                · (try dsimp only at hSw); go_simp; (try with_reducible rfl)
                refine tk 14 (v := ?_) rfl (fun w0 hSw => ?_) ?_
                rotate_left
                · (try dsimp only at hSw); go_simp; (try with_reducible rfl)
                refine tk 15 (v := ?_) rfl (fun w0 hSw => ?_) ?_
                rotate_left
                · (try dsimp only at hSw); go_simp; (try with_reducible rfl)
                refine tk 16 (v := ?_) rfl (fun w0 hSw => ?_) ?_
                rotate_left
                · (try dsimp only at hSw); go_simp; (try with_reducible rfl)
                refine tk 17 (v := ?_) rfl (fun w0 hSw => ?_) ?_
                rotate_left
                · (try dsimp only at hSw); go_simp; (try with_reducible rfl)
                try simp only [Act.put, List.setIfInBounds_toArray, List.set_cons_zero, List.set_cons_succ]
                refine sk 18 rfl ?_
                refine sk 19 rfl ?_
                refine sk 20 rfl ?_
                refine sk 21 rfl ?_
                refine sk 22 rfl ?_
                refine sk 23 rfl ?_
                try simp only [Act.put, List.setIfInBounds_toArray, List.set_cons_zero, List.set_cons_succ]
                refine tk 24 (v := ?_) rfl (fun w0 hSw => ?_) ?_
                rotate_left
                · (try dsimp only at hSw); go_simp; (try with_reducible rfl)
                refine tk 25 (v := ?_) rfl (fun w0 hSw => ?_) ?_
                rotate_left
                · (try dsimp only at hSw); go_simp; (try with_reducible rfl)
                try simp only [Act.put, List.setIfInBounds_toArray, List.set_cons_zero, List.set_cons_succ]
                refine wpAnyH_done (by kernel_rfl) ?_ _
                have HK9 : Seal _ := ⟨HK4.out.then' k47⟩
                clear k47 s0 s1 s2 s3 s4
                go_wp2
                exact ⟨⟨k + 1, HKQ.out, by rw [← HE.out]; go_num, HK9.out⟩, by simp only [intOf]; omega⟩
            · have hkl' : ¬ (q : Int) < 2 * ((x.g : Int) + (x.sz : Int)) := by omega
              have HK9 : Seal (Keep Nope wl wr) := ⟨HKW.out.then' hkr⟩
              clear hkr hq
              go_wp2
              exact ⟨⟨j + 1, by omega, by go_num, HK9.out⟩, by simp only [intOf]; omega⟩
        · have hjl' : ¬ (j : Int) < (L : Int) := by omega
          have HKW : Seal (Keep Nope w3 wr) := ⟨HKL.out.then' hkk⟩
          clear hkk
          go_wp2_with fail
          refine (alive18 _ (HF.out.keepN (HK3.out.then' HKW.out))).mono ?_
          rintro e w8 ⟨rfl, k8⟩
          go_wp2
          go_ret
          exact ⟨rfl, (HK3.out.then' HKW.out).then' k8⟩

end Go.Proofs.YtpmiidpbngbclaaGreatDoor
