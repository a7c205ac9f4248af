/-
  FitMost: the law's walk.
-/
import Derived.Test.YtfnmflgnbjjkkaaGreatDoorFitCase
namespace Go.Proofs.YtfnmflgnbjjkkaaGreatDoor
open Go.RowKit
set_option linter.unusedVariables false

theorem Keep.new {w w' : World} (h : Keep (fun k => w.heap.size ≤ k) w w') : Keep Nope w w' := h.mono (fun i hi hp => by omega)

theorem Both.has {w0 w : World} {P : Sp} {rb q : Nat} {lv : Value} {W : Nat → Nat} {cs : List Cel} (h : Both w0 w P rb q lv W cs) : SpaceHas w P cs := ⟨W, h.sp⟩

theorem FFirst_blk (k : Nat) (P : Sp) (cs : List Cel) (bv : Value) (blk : Nat → Bool) (w : World) (h : SpaceHas w P cs) (hb : BlkOf w P bv blk) (hk : 1 ≤ k) (hk2 : k ≤ 9223372036854775807) :
    Calls Tryz.prog 18 #[.pointer (some ⟨P.s, 0, none⟩), bv, .int .i64 (k : Nat)] w (FirstPost (firstFit blk k (gapsOf cs)) w) := by
  rcases hb with ⟨rfl, rfl⟩ | ⟨b, p0, q0, p1, q1, f0, f1, rfl, h2, rfl, -⟩
  · exact FFirst_bare k P cs w h hk hk2
  · exact FFirst_black k P cs b p0 q0 p1 q1 f0 f1 w h h2 hk hk2

theorem gaps_tiles {w0 w : World} {P : Sp} {rb q : Nat} {lv : Value} {W : Nat → Nat} {cs : List Cel} (h : Both w0 w P rb q lv W cs) : Tiles 0 cs (P.n / 2) := h.cells.tl

set_option maxRecDepth 20000 in
set_option maxHeartbeats 8000000 in
theorem fitmost_walk (n : Int) (v1 v2 : Value) (bare : Bool) (xs : List TypR) (len lb : Nat) (d g i nn y : Nat → Int) (u : Nat → Value) (m : Nat → Nat) (v3 : Value) (x3 : Nat → Nat → Int) (w : World) (hF : FieldsAt w) (h1 : TypsAt w v1 xs) (h2 : Steps6At w v2 len d g i nn y u m) (h3 : IntsAt 1 w v3 lb x3)
    (hl : xs.length ≤ 17592186044416) (hM : Masks xs) (hl2 : len ≤ 17592186044416) (hy : ∀ j, j < len → 0 ≤ y j ∧ y j ≤ 18446744073709551615) (hA : AtsAt w len u m) (hlb : lb ≤ 17592186044416) :
    Calls Tryz.prog 4 #[.agg #[.int .i64 n, v1, v2, v3, .bool bare]] w fun e w' => e = .returned (.bool true) ∧ Keep Nope w w' := by
  have hv1 : ∃ a l c, v1 = .slice a l c := by obtain ⟨a, c, h, -⟩ := h1; exact ⟨_, _, _, h⟩
  have hv2 : ∃ a l c, v2 = .slice a l c := by obtain ⟨a, c, h, -⟩ := h2; exact ⟨_, _, _, h⟩
  have hv3 : ∃ a c, v3 = .slice a lb c := by obtain ⟨a, c, h, -⟩ := h3; exact ⟨_, _, h⟩
  obtain ⟨a1, l1, c1, rfl⟩ := hv1
  obtain ⟨a2, l2, c2, rfl⟩ := hv2
  obtain ⟨a3, c3, rfl⟩ := hv3
  obtain ⟨w1, hw1⟩ : ∃ w1, w1 = w.alloc (.cells #[.int .i64 n, .slice a1 l1 c1, .slice a2 l2 c2, .slice a3 lb c3, .bool bare] 26) := ⟨_, rfl⟩
  have k1 : Keep Nope w w1 := by rw [hw1]; exact (Keep.refl _ w).alloc _
  have b1 : w1.heap[w.heap.size]? = some (.cells #[.int .i64 n, .slice a1 l1 c1, .slice a2 l2 c2, .slice a3 lb c3, .bool bare] 26 (0, 0)) := by rw [hw1]; exact World.alloc_heap_new w _
  have HH : Seal _ := ⟨Heavy13_any n (.slice a1 l1 c1) (.slice a2 l2 c2) bare xs len lb d g i nn y u m a3 c3 w1 (h1.keepN k1) (h2.keepN k1) hl hl2 hlb⟩
  have HMd : Seal (∀ W', Keep Nope w1 W' → len ≤ 60 → (∀ j, j < len → m j ≤ 300) → lb ≤ 200 → Calls Tryz.prog 11 #[.agg #[.int .i64 n, .slice a1 l1 c1, .slice a2 l2 c2, .slice a3 lb c3, .bool bare]] W' (MadeCase n xs (.slice a1 l1 c1) W')) :=
    ⟨fun W' kk q1 q2 q3 => made13_any n _ _ bare xs len lb d g i nn y u m _ x3 W' (hF.keepN (k1.then' kk)) (h1.keepN (k1.then' kk)) (h2.keepN (k1.then' kk)) (h3.keepN1 (k1.then' kk)) hl hM q1 hy (hA.keepN (k1.then' kk)) q2 q3⟩
  have HF : Seal _ := ⟨hF⟩
  have HB : Seal _ := ⟨b1⟩
  have HK : Seal _ := ⟨k1⟩
  have hl1 := lt_of_heap b1
  clear hF h1 h2 h3 hM hy hA k1 b1 hl hl2 hlb
  go_enter Tryz.func4, Tryz.ntmps4
  go_wp2_with fail
  rw [← hw1]
  clear hw1
  refine HH.out.mono ?_
  rintro e w2 ⟨t, rfl, k2, hp⟩
  have HK2 : Seal _ := ⟨HK.out.then' k2⟩
  have HB2 : Seal _ := ⟨k2.at_ HB.out (fun h => h)⟩
  have HP : Seal _ := ⟨hp⟩
  have HK12 : Seal _ := ⟨k2⟩
  clear hp k2
  cases t with
  | true =>
    go_wp2_with fail
    refine (alive13 w2 (HF.out.keepN HK2.out)).mono ?_
    rintro e w3 ⟨rfl, k3⟩
    go_wp2
    go_ret
    exact ⟨rfl, HK2.out.then' k3⟩
  | false =>
    obtain ⟨⟨-, -, q1, q2⟩, q3⟩ := HP.out (by trivial)
    have HMm : Seal _ := ⟨HMd.out w2 HK12.out q1 q2 q3⟩
    obtain ⟨s0, s1, s2, s3, s4⟩ := cells5 HB2.out
    have hl2 := lt_of_heap HB2.out
    clear q1 q2 q3
    go_wp2_with fail
    refine HMm.out.mono ?_
    rintro e w3 (⟨rfl, k3⟩ | ⟨P, rb, q, W, cs, bv, blk, l, rfl, hBt, hPn, hPs, h16, hblk⟩)
    · have HK3 : Seal _ := ⟨HK2.out.then' k3⟩
      clear k3 s0 s1 s2 s3 s4
      go_wp2_with fail
      refine (alive13 w3 (HF.out.keepN HK3.out)).mono ?_
      rintro e w4 ⟨rfl, k4⟩
      go_wp2
      go_ret
      exact ⟨rfl, HK3.out.then' k4⟩
    · have HBt : Seal _ := ⟨hBt⟩
      have HBk : Seal _ := ⟨hblk⟩
      have k3 : Keep Nope w2 w3 := hBt.kb.new
      have HK3 : Seal (Keep Nope w w3) := ⟨HK2.out.then' k3⟩
      have hB3 := k3.at_ HB2.out (fun h => h)
      have hl3 := lt_of_heap hB3
      clear s0 s1 s2 s3 s4
      obtain ⟨s0, -, -, -, -⟩ := cells5 hB3
      rw [← hPn] at s0
      have hsm := hBt.small
      have htl := gaps_tiles hBt
      have hsep : Seal (Sep (gapsOf cs)) := ⟨sep_gaps htl⟩
      have hfr : freeOf blk (gapsOf cs) ≤ P.n / 2 := by have := freeOf_le blk htl (xs := gapsOf cs) (List.prefix_refl _); omega
      have hmf := most_free blk (gapsOf cs)
      have hmb := most_bare blk (gapsOf cs)
      have HMost : Seal (∀ W', Keep Nope w3 W' → Calls Tryz.prog 21 #[.pointer (some ⟨P.s, 0, none⟩), bv] W' (FreePost (mostOf blk (gapsOf cs)) W')) := ⟨fun W' kk => FMost_at P cs bv blk W' (HBt.out.has.keepN kk) (HBk.out.keepN kk).blk⟩
      have HBare : Seal (∀ W', Keep Nope w3 W' → Calls Tryz.prog 21 #[.pointer (some ⟨P.s, 0, none⟩), .pointer none] W' (FreePost (mostOf (fun _ => false) (gapsOf cs)) W')) := ⟨fun W' kk => FMost_at P cs _ _ W' (HBt.out.has.keepN kk) (.inl ⟨rfl, rfl⟩)⟩
      have HFree : Seal (∀ W', Keep Nope w3 W' → Calls Tryz.prog 17 #[.pointer (some ⟨P.s, 0, none⟩), bv] W' (FreePost (freeOf blk (gapsOf cs)) W')) := ⟨fun W' kk => FFree_at P cs bv blk W' (HBt.out.has.keepN kk) (HBk.out.keepN kk).blk⟩
      have HFirst : Seal (∀ (k : Nat) W', Keep Nope w3 W' → 1 ≤ k → k ≤ 65536 → Calls Tryz.prog 18 #[.pointer (some ⟨P.s, 0, none⟩), bv, .int .i64 (k : Nat)] W' (FirstPost (firstFit blk k (gapsOf cs)) W')) := ⟨fun k W' kk z1 z2 => FFirst_blk k P cs bv blk W' (HBt.out.has.keepN kk) (HBk.out.keepN kk) z1 (by omega)⟩
      have HFirB : Seal (∀ (k : Nat) W', Keep Nope w3 W' → 1 ≤ k → k ≤ 65536 → Calls Tryz.prog 18 #[.pointer (some ⟨P.s, 0, none⟩), .pointer none, .int .i64 (k : Nat)] W' (FirstPost (firstFit (fun _ => false) k (gapsOf cs)) W')) := ⟨fun k W' kk z1 z2 => FFirst_blk k P cs _ _ W' (HBt.out.has.keepN kk) (.inl ⟨rfl, rfl⟩) z1 (by omega)⟩
      have HRm : Seal (∀ k, 1 ≤ k → k ≤ mostOf blk (gapsOf cs) → ∃ x y, firstFit blk k (gapsOf cs) = some x ∧ firstFit (fun _ => false) k (gapsOf cs) = some y ∧ y ≤ x ∧ x ≤ 65536 ∧ ∀ z, firstFit blk (k - 1) (gapsOf cs) = some z → z ≤ x) := ⟨fun k z1 z2 => by
        obtain ⟨j, hj⟩ := most_room z1 z2
        obtain ⟨x, hx, -⟩ := firstFit_room hsep.out hj
        obtain ⟨r1, r2⟩ := firstFit_yes hsep.out hx
        obtain ⟨y, hy, hyx⟩ := firstFit_room hsep.out r1.bare
        refine ⟨x, y, hx, hy, hyx, ?_, fun z hz => (firstFit_yes hsep.out hz).2 x (r1.less (by omega))⟩
        obtain ⟨c, hc, c1, c2, -⟩ := r1
        have := (htl.mem (List.mem_filter.1 hc).1).2.1
        unfold Cel.fin at c2
        omega⟩
      have HNo : Seal (firstFit blk (mostOf blk (gapsOf cs) + 1) (gapsOf cs) = none) := ⟨by
        cases e : firstFit blk (mostOf blk (gapsOf cs) + 1) (gapsOf cs) with
        | none => rfl
        | some x =>
          have := room_most (by omega) (firstFit_yes hsep.out e).1
          omega⟩
      obtain ⟨M, hM⟩ : ∃ M, mostOf blk (gapsOf cs) = M := ⟨_, rfl⟩
      obtain ⟨Fr, hFr⟩ : ∃ Fr, freeOf blk (gapsOf cs) = Fr := ⟨_, rfl⟩
      obtain ⟨Mb, hMb⟩ : ∃ Mb, mostOf (fun _ => false) (gapsOf cs) = Mb := ⟨_, rfl⟩
      rw [hM] at HMost HRm HNo hmf hmb
      rw [hFr] at HFree hfr hmf
      rw [hMb] at HBare hmb
      clear hM hFr hMb hBt hblk hPn hPs htl k3 hB3
      go_wp2_with fail
      refine (HMost.out _ (Keep.refl _ _)).mono ?_
      rintro e w4 ⟨rfl, k4⟩
      have HK4 : Seal _ := ⟨k4⟩
      replace s0 := k4.cell s0 (fun h => h)
      clear k4
      go_wp2_with fail
      refine (HFree.out _ HK4.out).mono ?_
      rintro e w5 ⟨rfl, k5⟩
      have HK5 : Seal _ := ⟨HK4.out.then' k5⟩
      replace s0 := k5.cell s0 (fun h => h)
      clear k5
      go_wp2_with fail
      refine (HBare.out _ HK5.out).mono ?_
      rintro e w6 ⟨rfl, k6⟩
      have HK6 : Seal _ := ⟨HK5.out.then' k6⟩
      replace s0 := k6.cell s0 (fun h => h)
      have hl6 : w.heap.size < w6.heap.size := Nat.lt_of_lt_of_le hl3 HK6.out.size
      clear k6
      have dd1 : decide ((M : Int) < 0) = false := decide_eq_false (by omega)
      have dd2 : decide (Fr < M) = false := decide_eq_false (by omega)
      have dd3 : decide (Mb < M) = false := decide_eq_false (by omega)
      have dd4 : decide ((P.n : Int) / 2 < (Fr : Int)) = false := decide_eq_false (by omega)
      go_wp2_with fail
      clear dd1 dd2 dd3 dd4
      go_loopw [14, 15] (fun v14 v15 wr => ∃ (k last : Nat), 1 ≤ k ∧ k ≤ M + 1 ∧ v15 = .int .i64 (k : Nat) ∧ v14 = .int .i64 (last : Nat) ∧ Seal (last = 0 ∨ firstFit blk (k - 1) (gapsOf cs) = some last) ∧ Keep Nope w3 wr) (fun _ y _ => M + 1 - (intOf y).toNat)
      case atStart => exact ⟨1, 0, Nat.le_refl _, by omega, rfl, rfl, ⟨.inl rfl⟩, HK6.out⟩
      case round =>
        obtain ⟨k, last, hk1, hk2, rfl, rfl, hla, hkr⟩ := hrel
        have HKr : Seal _ := ⟨hkr⟩
        clear hkr
        by_cases hkM : k ≤ M
        · have hkM' : (k : Int) ≤ (M : Int) := by omega
          obtain ⟨x, y, hx, hy, hyx, hxb, hz⟩ := HRm.out k hk1 hkM
          have hlx : last ≤ x := by
            rcases hla.out with h | h
            · omega
            · exact hz last h
          have HX : Seal _ := ⟨hx⟩
          have HF1 := HFirst.out k wr HKr.out hk1 (by omega)
          rw [hx] at HF1
          have HF1' : Seal _ := ⟨HF1⟩
          have HF2 : Seal (∀ W', Keep Nope w3 W' → Calls Tryz.prog 18 #[.pointer (some ⟨P.s, 0, none⟩), .pointer none, .int .i64 (k : Nat)] W' (FirstPost (some y) W')) := ⟨fun W' kk => by
            have := HFirB.out k W' kk hk1 (by omega)
            rwa [hy] at this⟩
          clear hx hy hz HF1 hla
          go_wp2_with fail
          refine HF1'.out.mono ?_
          rintro e w7 ⟨rfl, k7⟩
          have HK7 : Seal _ := ⟨HKr.out.then' k7⟩
          clear k7
          simp only [Option.getD_some, Option.isSome_some, if_true]
          go_wp2_with fail
          refine (HF2.out _ HK7.out).mono ?_
          rintro e w8 ⟨rfl, k8⟩
          have HK8 : Seal _ := ⟨HK7.out.then' k8⟩
          clear k8
          simp only [Option.getD_some, Option.isSome_some, if_true]
          go_wp2
          exact ⟨⟨k + 1, x, by omega, by omega, by go_num, rfl, ⟨.inr HX.out⟩, HK8.out⟩, by simp only [intOf]; omega⟩
        · have hkM' : ¬ (k : Int) ≤ (M : Int) := by omega
          have HM1 : Seal ((M : Int) + 1 = ((M + 1 : Nat) : Int)) := ⟨by omega⟩
          have HF1 := HFirst.out (M + 1) wr HKr.out (by omega) (by omega)
          rw [HNo.out] at HF1
          have HF1' : Seal _ := ⟨HF1⟩
          have HAl : Seal (∀ W', Keep Nope w3 W' → Calls Tryz.prog 10 #[] W' fun e w' => e = .returned (.bool true) ∧ Keep Nope W' w') := ⟨fun W' kk => alive13 W' (HF.out.keepN (HK3.out.then' kk))⟩
          clear HF1 hla
          go_wp2_with fail
          rw [HM1.out]
          refine HF1'.out.mono ?_
          rintro e w7 ⟨rfl, k7⟩
          have HK7 : Seal _ := ⟨HKr.out.then' k7⟩
          clear k7
          simp only [Option.getD_none, Option.isSome_none, Bool.false_eq_true, if_false]
          go_wp2_with fail
          refine (HAl.out _ HK7.out).mono ?_
          rintro e w8 ⟨rfl, k8⟩
          have HK8 : Seal _ := ⟨HK3.out.then' (HK7.out.then' k8)⟩
          clear k8
          go_wp2
          go_ret
          exact ⟨rfl, HK8.out⟩

end Go.Proofs.YtfnmflgnbjjkkaaGreatDoor
