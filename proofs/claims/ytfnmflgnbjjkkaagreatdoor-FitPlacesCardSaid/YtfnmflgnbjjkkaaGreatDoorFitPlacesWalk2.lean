/-
  FitPlaces: the law's walk, whole.
-/
import Derived.Test.YtfnmflgnbjjkkaaGreatDoorFitPlacesWalk
import Derived.Test.YtfnmflgnbjjkkaaGreatDoorCaseArgs
import Derived.BigQuiet
import Derived.Laws.StructEq
namespace Go.Proofs.YtfnmflgnbjjkkaaGreatDoor
open Go.RowKit
set_option linter.unusedVariables false
attribute [local go_sem ↓] run_neq_cell

set_option maxRecDepth 40000 in
set_option maxHeartbeats 16000000 in
theorem fitplaces_walk (id ln n : Int) (v1 v2 : Value) (bare : Bool) (xs : List TypR) (len lb : Nat) (d g i nn y : Nat → Int) (u : Nat → Value) (m : Nat → Nat) (v3 : Value) (x3 : Nat → Nat → Int) (w : World) (hF : FieldsAt w) (h1 : TypsAt w v1 xs) (h2 : Steps6At w v2 len d g i nn y u m) (h3 : IntsAt 1 w v3 lb x3)
    (hl : xs.length ≤ 17592186044416) (hM : Masks xs) (hl2 : len ≤ 17592186044416) (hy : ∀ j, j < len → 0 ≤ y j ∧ y j ≤ 18446744073709551615) (hA : AtsAt w len u m) (hlb : lb ≤ 17592186044416) :
    Calls Tryz.prog 3 #[.agg #[.int .i64 n, v1, v2, v3, .bool bare], .int .i64 id, .int .i64 ln] w fun e w' => e = .returned (.bool true) ∧ Keep Nope w w' := by
  have hv1 : ∃ a l c, v1 = .slice a l c := by obtain ⟨a, c, h, -⟩ := h1; exact ⟨_, _, _, h⟩
  have hv2 : ∃ a l c, v2 = .slice a l c := by obtain ⟨a, c, h, -⟩ := h2; exact ⟨_, _, _, h⟩
  have hv3 : ∃ a c, v3 = .slice a lb c := by obtain ⟨a, c, h, -⟩ := h3; exact ⟨_, _, h⟩
  obtain ⟨a1, l1, c1, rfl⟩ := hv1
  obtain ⟨a2, l2, c2, rfl⟩ := hv2
  obtain ⟨a3, c3, rfl⟩ := hv3
  obtain ⟨w1, hw1⟩ : ∃ w1, w1 = w.alloc (.cells #[.int .i64 n, .slice a1 l1 c1, .slice a2 l2 c2, .slice a3 lb c3, .bool bare] 26) := ⟨_, rfl⟩
  have k1 : Keep Nope w w1 := by rw [hw1]; exact (Keep.refl _ w).alloc _
  have b1 : w1.heap[w.heap.size]? = some (.cells #[.int .i64 n, .slice a1 l1 c1, .slice a2 l2 c2, .slice a3 lb c3, .bool bare] 26 (0, 0)) := by rw [hw1]; exact World.alloc_heap_new w _
  have HH : Seal _ := ⟨Heavy13_any n (.slice a1 l1 c1) (.slice a2 l2 c2) bare xs len lb d g i nn y u m a3 c3 w1 (h1.keepN k1) (h2.keepN k1) hl hl2 hlb⟩
  have HMd : Seal (∀ W', Keep Nope w1 W' → len ≤ 60 → (∀ j, j < len → m j ≤ 300) → lb ≤ 200 → Calls Tryz.prog 11 #[.agg #[.int .i64 n, .slice a1 l1 c1, .slice a2 l2 c2, .slice a3 lb c3, .bool bare]] W' (MadeCase n xs (.slice a1 l1 c1) W')) :=
    ⟨fun W' kk q1 q2 q3 => made13_any n _ _ bare xs len lb d g i nn y u m _ x3 W' (hF.keepN (k1.then' kk)) (h1.keepN (k1.then' kk)) (h2.keepN (k1.then' kk)) (h3.keepN1 (k1.then' kk)) hl hM q1 hy (hA.keepN (k1.then' kk)) q2 q3⟩
  have HAl : Seal (∀ W', Keep Nope w W' → Calls Tryz.prog 10 #[] W' fun e w' => e = .returned (.bool true) ∧ Keep Nope W' w') := ⟨fun W' kk => alive13 W' (hF.keepN kk)⟩
  have HB : Seal _ := ⟨b1⟩
  have HK : Seal _ := ⟨k1⟩
  have hl1 := lt_of_heap b1
  clear hF h1 h2 h3 hM hy hA k1 b1 hl hl2 hlb
  go_enter Tryz.func3, Tryz.ntmps3
  go_wp2_with fail
  rw [← hw1]
  clear hw1
  refine HH.out.mono ?_
  rintro e w2 ⟨t, rfl, k2, hp⟩
  have HK2 : Seal _ := ⟨HK.out.then' k2⟩
  have HB2 : Seal _ := ⟨k2.at_ HB.out (fun h => h)⟩
  have HP : Seal _ := ⟨hp⟩
  have HK12 : Seal _ := ⟨k2⟩
  clear hp k2
  cases t with
  | true =>
    go_wp2_with fail
    refine (HAl.out w2 HK2.out).mono ?_
    rintro e w3 ⟨rfl, k3⟩
    go_wp2
    go_ret
    exact ⟨rfl, HK2.out.then' k3⟩
  | false =>
    obtain ⟨⟨-, -, q1, q2⟩, q3⟩ := HP.out (by trivial)
    have HMm : Seal _ := ⟨HMd.out w2 HK12.out q1 q2 q3⟩
    obtain ⟨s0, s1, s2, s3, s4⟩ := cells5 HB2.out
    have hl2 := lt_of_heap HB2.out
    clear q1 q2 q3
    go_wp2_with fail
    refine HMm.out.mono ?_
    rintro e w3 (⟨rfl, k3⟩ | ⟨P, rb, q, W, cs, bv, blk, l, rfl, hBt, hPn, hPs, h16, hblk⟩)
    · have HK3 : Seal _ := ⟨HK2.out.then' k3⟩
      clear k3 s0 s1 s2 s3 s4
      go_wp2_with fail
      refine (HAl.out w3 HK3.out).mono ?_
      rintro e w4 ⟨rfl, k4⟩
      go_wp2
      go_ret
      exact ⟨rfl, HK3.out.then' k4⟩
    · have HBt : Seal _ := ⟨hBt⟩
      have HBk : Seal _ := ⟨hblk⟩
      have HK3 : Seal (Keep Nope w w3) := ⟨HK2.out.then' hBt.kb.new⟩
      have HOw : Seal (∀ k, P.own k → w.heap.size ≤ k) := ⟨fun k hk => Nat.le_trans HK2.out.size (hBt.own k hk)⟩
      obtain ⟨f, hAt⟩ := hBt.at_
      have HAt : Seal _ := ⟨hAt⟩
      have few := hBt.few
      have hsm := hBt.small
      have HTb : Seal _ := ⟨STable_at P W f w3 hAt⟩
      clear s0 s1 s2 s3 s4 hBt hblk hPn hPs hAt
      have HSz : Seal _ := ⟨TSize_any id ln P.t P.tq P.ts w3 HAt.out.tb⟩
      go_wp2_with fail
      refine HTb.out.mono ?_
      rintro e w4 ⟨rfl, rfl⟩
      go_wp2_with fail
      refine HSz.out.mono ?_
      rintro e w4 ⟨rfl, k4⟩
      have HB4 : Seal _ := ⟨HBt.out.keepN k4⟩
      have HBk4 : Seal _ := ⟨HBk.out.keepN k4⟩
      have HK4 : Seal _ := ⟨HK3.out.then' k4⟩
      clear k4
      by_cases hE : sizeE P.ts id ln = 0
      · obtain ⟨ii', ll', S, rfl, rfl, hS, hS0, hS1, hok⟩ := obj_ok few hE
        have hbp : ∃ bp, bv = .pointer bp := by
          rcases HBk.out with ⟨h, _⟩ | ⟨b, p0, q0, p1, q1, f0, f1, h, _⟩
          · exact ⟨_, h⟩
          · exact ⟨_, h⟩
        obtain ⟨bp, rfl⟩ := hbp
        have HE : Seal _ := ⟨hE⟩
        have HSS : Seal _ := ⟨hS⟩
        have HTl : Seal (Tiles 0 cs (P.n / 2)) := ⟨HB4.out.cells.tl⟩
        have hlen1 : cs.length ≤ 32768 := by have := tiles_len HTl.out; omega
        have hsum1 : objSum cs + freeOf (fun _ => false) (gapsOf cs) = P.n / 2 := by have := sum_all HTl.out; omega
        have HOwn : Seal (∀ k, P.own k → k < w4.heap.size) := ⟨fun k hk => HB4.out.lt _ (Sp.own_all hk)⟩
        have HFi : Seal (∀ W', Keep Nope w4 W' → Calls Tryz.prog 18 #[.pointer (some ⟨P.s, 0, none⟩), .pointer bp, .int .i64 (S : Nat)] W' (FirstPost (firstFit blk S (gapsOf cs)) W')) := ⟨fun W' kk => FFirst_blk S P cs _ blk W' (HB4.out.has.keepN kk) (HBk4.out.keepN kk) hS0 (by omega)⟩
        rw [if_pos hE, hS, hE]
        clear hE hS hok
        go_wp2_with fail
        refine (Cells_at P cs w4 HB4.out.has).mono ?_
        rintro e w5 ⟨v, rfl, hown, k5⟩
        have HO5 : Seal _ := ⟨hown⟩
        have HK5 : Seal _ := ⟨k5⟩
        obtain ⟨va, vc, rfl, -⟩ := RowC.of_owns hown
        obtain ⟨len1, hlen1'⟩ : ∃ len1, cs.length = len1 := ⟨_, rfl⟩
        have HL1 : Seal _ := ⟨hlen1'⟩
        rw [hlen1'] at HO5 hlen1 ⊢
        clear hown k5 hlen1'
        go_wp2_with fail
        refine (objects_at P cs w5 (HB4.out.has.keepN HK5.out)).mono ?_
        rintro e w6 ⟨rfl, k6⟩
        have HK6 : Seal _ := ⟨HK5.out.then' k6⟩
        have HL6 : Seal _ := ⟨k6⟩
        clear k6
        go_wp2_with fail
        refine (FFree_at P cs _ _ w6 (HB4.out.has.keepN HK6.out) (.inl ⟨rfl, rfl⟩)).mono ?_
        rintro e w7 ⟨rfl, k7⟩
        have HK7 : Seal _ := ⟨HK6.out.then' k7⟩
        have HL7 : Seal _ := ⟨HL6.out.then' k7⟩
        clear k7
        obtain ⟨A, hA⟩ : ∃ A, objSum cs = A := ⟨_, rfl⟩
        obtain ⟨F, hF⟩ : ∃ F, freeOf (fun _ => false) (gapsOf cs) = F := ⟨_, rfl⟩
        have HA : Seal _ := ⟨hA⟩
        rw [hA, hF] at hsum1
        rw [hA, hF]
        clear hA hF
        cases hff : firstFit blk S (gapsOf cs) with
        | none =>
          rw [hff] at HFi
          have HFn : Seal (∀ W', Keep Nope w4 W' → Calls Tryz.prog 18 #[.pointer (some ⟨P.s, 0, none⟩), .pointer bp, .int .i64 (S : Nat)] W' fun e w' => e = .returned (.tuple #[.int .i64 0, .int .i64 4]) ∧ Keep Nope W' w') := ⟨fun W' kk => HFi.out W' kk⟩
          have HPl : Seal (∀ W', Keep Nope w4 W' → Calls Tryz.prog 14 #[.pointer (some ⟨P.s, 0, none⟩), .pointer bp, .int .i64 (ii' : Nat), .int .i64 (ll' : Nat)] W' (ErrPost 4 W')) := ⟨fun W' kk => FPlace_first P cs bp _ _ 0 4 W' (HB4.out.has.keepN kk) HE.out (fun w' k' => by rw [HSS.out]; exact HFn.out w' (kk.then' k')) (by decide)⟩
          clear hff HFi
          go_wp2_with fail
          refine (HFn.out w7 HK7.out).mono ?_
          rintro e w8 ⟨rfl, k8⟩
          have HK8 : Seal _ := ⟨HK7.out.then' k8⟩
          have HL8 : Seal _ := ⟨HL7.out.then' k8⟩
          clear k8
          go_wp2_with fail
          refine (HPl.out w8 HK8.out).mono ?_
          rintro e w9 ⟨rfl, k9⟩
          have HK9 : Seal _ := ⟨HK8.out.then' k9⟩
          have HK59 : Seal (Keep Nope w5 w9) := ⟨HL8.out.then' k9⟩
          clear k9
          go_wp2_with fail
          refine (Cells_at P cs w9 (HB4.out.has.keepN HK9.out)).mono ?_
          rintro e w10 ⟨v2, rfl, hown2, k10⟩
          have HR1 : Seal (RowC w10 (.slice va len1 vc) cs) := ⟨(RowC.of_owns (by rw [HL1.out]; exact HO5.out)).keepN (HK59.out.then' k10)⟩
          have HR2 : Seal _ := ⟨RowC.of_owns hown2⟩
          have HK10 : Seal _ := ⟨HK9.out.then' k10⟩
          clear hown2 k10
          go_wp2_with fail
          refine (SameC_at cs _ v2 w10 HR1.out HR2.out (by rw [HL1.out]; omega)).mono ?_
          rintro e w11 ⟨rfl, k11⟩
          have HK11 : Seal _ := ⟨HK4.out.then' (HK10.out.then' k11)⟩
          clear k11
          go_wp2_with fail
          refine (HAl.out w11 HK11.out).mono ?_
          rintro e w12 ⟨rfl, k12⟩
          go_wp2
          go_ret
          exact ⟨rfl, HK11.out.then' k12⟩
        | some j =>
          obtain ⟨hr, -⟩ := firstFit_yes (sep_gaps HTl.out) hff
          obtain ⟨x, hx, x1, x2, x3, x4⟩ := room_put (ts := P.ts) (i := 0) (l := 0) HTl.out hr hS0
          have HPut : Seal (putR P.ts (P.n / 2) cs (j : Nat) (ii' : Nat) (ll' : Nat) = 0) := ⟨putR_hit HTl.out HE.out HSS.out hx ⟨x1, x2, x3, x4⟩⟩
          have hjS : j + S ≤ P.n / 2 := by have := (HTl.out.mem hx).2.1; unfold Cel.fin at x4; omega
          have HBl : Seal (∀ t, j ≤ t → t < j + S → blk t = false) := ⟨by obtain ⟨_, _, _, _, h⟩ := hr; exact h⟩
          rw [hff] at HFi
          have HFn : Seal (∀ W', Keep Nope w4 W' → Calls Tryz.prog 18 #[.pointer (some ⟨P.s, 0, none⟩), .pointer bp, .int .i64 (S : Nat)] W' fun e w' => e = .returned (.tuple #[.int .i64 (j : Nat), .int .i64 0]) ∧ Keep Nope W' w') := ⟨fun W' kk => HFi.out W' kk⟩
          have HPl : Seal (∀ W', Keep Nope w4 W' → Calls Tryz.prog 14 #[.pointer (some ⟨P.s, 0, none⟩), .pointer bp, .int .i64 (ii' : Nat), .int .i64 (ll' : Nat)] W' (PlacePost P cs (j : Nat) (ii' : Nat) (ll' : Nat) W')) := ⟨fun W' kk => FPlace_at P cs bp _ _ (j : Nat) W' (HB4.out.has.keepN kk) HE.out (fun w' k' => by rw [HSS.out]; exact HFn.out w' (kk.then' k'))⟩
          clear hff HFi hr hx x1 x2 x3 x4
          go_wp2_with fail
          refine (HFn.out w7 HK7.out).mono ?_
          rintro e w8 ⟨rfl, k8⟩
          have HK8 : Seal _ := ⟨HK7.out.then' k8⟩
          have HL8 : Seal _ := ⟨HL7.out.then' k8⟩
          clear k8
          go_wp2_with fail
          refine (HPl.out w8 HK8.out).mono ?_
          rintro e w9 ⟨rfl, -, k9, hq⟩
          rw [HPut.out, if_pos rfl]
          have HKo : Seal (Keep P.own w4 w9) := ⟨(HK8.out.of_not P.own).trans k9 (fun b hb h => h)⟩
          have HR9 : Seal (RowC w9 (.slice va len1 vc) cs) := ⟨RowC.of_owns (by rw [HL1.out]; exact ownsRow_keep HO5.out ((HL8.out.of_not P.own).trans k9 (fun b hb h => h)) (fun b hb h => by have := (HO5.out.lt b hb).1; have := HOwn.out b h; omega))⟩
          have HBk9 : Seal (BlkOf w9 P (.pointer bp) blk) := ⟨HBk4.out.own HB4.out.has HKo.out⟩
          have HK9 : Seal (Keep Nope w w9) := ⟨(HK4.out.then' HK8.out).trans k9 (fun b hb h => by have := HOw.out b h; omega)⟩
          have hfacts : ∃ cs2, SpaceHas w9 P cs2 ∧ othersOf j cs2 = objsOf cs ∧ objSum cs2 = objSum cs + S ∧ startOf cs2 j = true ∧ ∀ b ∈ cs2, b.tag = 1 → b.g = j → b.sz = S ∧ b.ty = ii' ∧ b.ln = ll' := by
            rcases hq with ⟨h, _⟩ | ⟨-, pre, c, post, j', i', l', S', hcs, hc, ej, ei, el, eS, c1, c2, c3, hsp⟩
            · exact absurd HPut.out h
            · have e1 : j' = j := by omega
              have e2 : i' = ii' := by omega
              have e3 : l' = ll' := by omega
              have e4 : S' = S := by have := HSS.out; omega
              subst e1 e2 e3 e4
              have ht := HTl.out
              rw [hcs] at ht
              have ht2 : Tiles 0 (putL pre c post j' i' l' S') (P.n / 2) := by obtain ⟨W, f, _, hc, _⟩ := hsp; exact hc.tl
              refine ⟨_, hsp, ?_, ?_, ?_, ?_⟩
              · rw [hcs]; exact put_others ht hc c1 (by omega)
              · rw [hcs]; exact objSum_put hc
              · unfold putL; simp [startOf]
              · intro b hb h1 h2
                exact put_uniq ht2 hb h2
          clear hq k9
          obtain ⟨cs2, hsp2, hoth, hos, hst, hun⟩ := hfacts
          have HSp2 : Seal _ := ⟨hsp2⟩
          have HTl2 : Seal (Tiles 0 cs2 (P.n / 2)) := ⟨by obtain ⟨W, f, _, hc, _⟩ := hsp2; exact hc.tl⟩
          have hsum2 : objSum cs2 + freeOf (fun _ => false) (gapsOf cs2) = P.n / 2 := by have := sum_all HTl2.out; omega
          have hlen2 : cs2.length ≤ 32768 := by have := tiles_len HTl2.out; omega
          have HOth : Seal _ := ⟨hoth⟩
          have HSt : Seal _ := ⟨hst⟩
          have HUn : Seal _ := ⟨hun⟩
          rw [HA.out] at hos
          clear hsp2 hoth hst hun HFn HPl
          go_wp2_with fail
          go_loopw [24] (fun y wr => ∃ k : Nat, j ≤ k ∧ k ≤ j + S ∧ y = .int .i64 (k : Nat) ∧ Keep Nope w9 wr) (fun y _ => j + S - (intOf y).toNat)
          case atStart => exact ⟨j, Nat.le_refl _, by omega, rfl, Keep.refl _ _⟩
          case round =>
            obtain ⟨k, hk1, hk2, rfl, hkr⟩ := hrel
            have HKr : Seal _ := ⟨hkr⟩
            clear hkr
            by_cases hkS : k < j + S
            · have hk3 : (k : Int) < (j : Int) + (S : Int) := by omega
              have hk4 : (k : Int) - (j : Int) < 65536 := by omega
              have hH := has_blk (HBk9.out.keepN HKr.out).blk k (by omega)
              rw [HBl.out k hk1 hkS] at hH
              have HH : Seal _ := ⟨hH⟩
              clear hH
              go_wp2_with fail
              refine HH.out.mono ?_
              rintro e w10 ⟨rfl, k10⟩
              go_wp2
              exact ⟨⟨k + 1, by omega, by omega, by go_num, HKr.out.then' k10⟩, by simp only [intOf]; omega⟩
            · have hk3 : ¬ (k : Int) < (j : Int) + (S : Int) := by omega
              clear hkS
              have HC2 : Seal _ := ⟨Cells_at P cs2 wr (HSp2.out.keepN HKr.out)⟩
              go_wp2_with fail
              refine HC2.out.mono ?_
              rintro e w10 ⟨v2, rfl, hown2, k10⟩
              have HR1 : Seal (RowC w10 (.slice va len1 vc) cs) := ⟨HR9.out.keepN (HKr.out.then' k10)⟩
              have HR2 : Seal _ := ⟨RowC.of_owns hown2⟩
              have HKa : Seal _ := ⟨HKr.out.then' k10⟩
              obtain ⟨vb, vd, rfl, -⟩ := HR2.out
              obtain ⟨len2, hlen2'⟩ : ∃ len2, cs2.length = len2 := ⟨_, rfl⟩
              have HL2 : Seal _ := ⟨hlen2'⟩
              rw [hlen2'] at HR2 hlen2 ⊢
              clear hown2 k10 hlen2' HC2
              go_wp2_with fail
              go_loopw [26, 27, 28] (fun z26 z27 z28 wr => ∃ a i : Nat, a ≤ len1 ∧ i ≤ len2 ∧ z26 = .int .i64 (a : Nat) ∧ z27 = .bool (startOf (cs2.take i) j) ∧ z28 = .int .i64 (i : Nat) ∧ Seal (othersOf j (cs2.drop i) = objsOf (cs.drop a)) ∧ Keep Nope w10 wr) (fun _ _ z _ => len2 - (intOf z).toNat)
              case atStart => exact ⟨0, 0, Nat.zero_le _, Nat.zero_le _, rfl, by simp [startOf], rfl, ⟨by simpa using HOth.out⟩, Keep.refl _ _⟩
              case round =>
                obtain ⟨a, i, ha, hi, rfl, rfl, rfl, HE2, hkk⟩ := hrel
                have HKK : Seal _ := ⟨hkk⟩
                by_cases hil : i < len2
                · have hil' : (i : Int) < (len2 : Int) := by omega
                  obtain ⟨b, hb⟩ : ∃ b, cs2[i]? = some b := ⟨cs2[i]'(by rw [HL2.out]; exact hil), by simp⟩
                  obtain ⟨a', cap', ha', hrow⟩ := HR2.out.keepN hkk
                  obtain ⟨bb, hab, hb0, r0, r1, r2, r3, r4⟩ := hrow i b hb
                  have hvb : vb = some ⟨bb, 0, none⟩ := by injection ha' with h1; rw [h1]; exact hab
                  subst hvb
                  have hTk := startOf_take (j := j) hb
                  have hDr := drop_at hb
                  have hE2 := HE2.out
                  rw [hDr] at hE2
                  have hmem : b ∈ cs2 := List.mem_of_getElem? hb
                  by_cases q2 : b.tag = 1
                  · have p2 : ((b.tag : Int) != 1) = false := by simp [q2]
                    by_cases q3 : b.g = j
                    · have p3 : ((b.g : Int) == (j : Int)) = true := by simp [q3]
                      obtain ⟨e1, e2, e3⟩ := HUn.out b hmem q2 q3
                      have p4 : ((b.sz : Int) == (S : Int)) = true := by simp [e1]
                      have p5 : ((b.ty : Int) == (ii' : Int)) = true := by simp [e2]
                      have p6 : ((b.ln : Int) == (ll' : Int)) = true := by simp [e3]
                      rw [others_at q3] at hE2
                      have HE3 : Seal _ := ⟨hE2⟩
                      have HT3 : Seal (startOf (cs2.take (i + 1)) j = true) := ⟨by rw [hTk]; simp [q2, q3]⟩
                      clear hb hrow ha' hab hkk hTk hDr hE2 hmem q2 q3 e1 e2 e3
                      go_wp2
                      exact ⟨⟨a, i + 1, ha, by omega, rfl, by rw [HT3.out], by go_num, HE3, HKK.out⟩, by simp only [intOf]; omega⟩
                    · have p3 : ((b.g : Int) == (j : Int)) = false := by simp; omega
                      rw [others_obj q2 q3] at hE2
                      have HE3 : Seal _ := ⟨hE2⟩
                      have HT3 : Seal (startOf (cs2.take (i + 1)) j = startOf (cs2.take i) j) := ⟨by rw [hTk]; simp [q3]⟩
                      clear hb hrow ha' hab hTk hDr hE2 hmem q2 q3 HE2
                      go_wp2_with fail
                      go_loopw [26] (fun z wr2 => ∃ a2 : Nat, a2 ≤ len1 ∧ z = .int .i64 (a2 : Nat) ∧ Seal (b :: othersOf j (cs2.drop (i + 1)) = objsOf (cs.drop a2)) ∧ Keep Nope wr wr2) (fun z _ => len1 - (intOf z).toNat)
                      case atStart => exact ⟨a, ha, rfl, HE3, Keep.refl _ _⟩
                      case round =>
                        obtain ⟨a2, ha2, rfl, HE4, hkk2⟩ := hrel
                        have hal : a2 < len1 := by
                          by_cases h : a2 < len1
                          · exact h
                          · have := HE4.out
                            rw [show cs.drop a2 = [] from List.drop_eq_nil_of_le (by rw [HL1.out]; omega)] at this
                            cases this
                        have hal' : (a2 : Int) < (len1 : Int) := by omega
                        obtain ⟨x, hx⟩ : ∃ x, cs[a2]? = some x := ⟨cs[a2]'(by rw [HL1.out]; exact hal), by simp⟩
                        obtain ⟨a', cap', ha', hrow⟩ := HR1.out.keepN (HKK.out.then' hkk2)
                        obtain ⟨ba, hab, hb0', y0, y1, y2, y3, y4⟩ := hrow a2 x hx
                        have hva : va = some ⟨ba, 0, none⟩ := by injection ha' with h1; rw [h1]; exact hab
                        subst hva
                        have hDx := drop_at hx
                        have hE4 := HE4.out
                        rw [hDx] at hE4
                        have HK22 : Seal _ := ⟨hkk2⟩
                        by_cases q4 : x.tag = 1
                        · have p4 : ((x.tag : Int) != 1) = false := by simp [q4]
                          rw [objs_obj q4] at hE4
                          injection hE4 with e1 e2
                          subst e1
                          have HE5 : Seal _ := ⟨e2⟩
                          have p7 : ¬ (len1 : Int) ≤ (a2 : Int) := by omega
                          replace r0 := hkk2.cell r0 (fun h => h)
                          replace r1 := hkk2.cell r1 (fun h => h)
                          replace r2 := hkk2.cell r2 (fun h => h)
                          replace r3 := hkk2.cell r3 (fun h => h)
                          replace r4 := hkk2.cell r4 (fun h => h)
                          clear hx hrow ha' hab hDx hkk2
                          go_wp2_with fail
                          go_quiet (fail)
                          go_wp2
                          exact ⟨⟨a2 + 1, i + 1, by omega, by omega, by go_num, by rw [HT3.out], by go_num, HE5, (HKK.out.then' HK22.out).then' (Keep.of_drewN _)⟩, by simp only [intOf]; omega⟩
                        · have p4 : ((x.tag : Int) != 1) = true := by simp; omega
                          rw [objs_gap q4] at hE4
                          have HE5 : Seal _ := ⟨hE4⟩
                          clear hx hrow ha' hab hDx hE4 q4 y0 y2 y3 y4 r0 r1 r2 r3 r4 hkk2
                          go_wp2
                          exact ⟨⟨a2 + 1, by omega, by go_num, HE5, HK22.out⟩, by simp only [intOf]; omega⟩
                  · have p2 : ((b.tag : Int) != 1) = true := by simp; omega
                    rw [others_gap q2] at hE2
                    have HE3 : Seal _ := ⟨hE2⟩
                    have HT3 : Seal (startOf (cs2.take (i + 1)) j = startOf (cs2.take i) j) := ⟨by rw [hTk]; simp [q2]⟩
                    clear hb hrow ha' hab hkk hTk hDr hE2 hmem q2 r0 r2 r3 r4
                    go_wp2
                    exact ⟨⟨a, i + 1, ha, by omega, rfl, by rw [HT3.out], by go_num, HE3, HKK.out⟩, by simp only [intOf]; omega⟩
                · have hil' : ¬ (i : Int) < (len2 : Int) := by omega
                  have hfd : startOf (cs2.take i) j = true := by rw [List.take_of_length_le (by rw [HL2.out]; omega)]; exact HSt.out
                  have HK10 : Seal (Keep Nope w9 wr) := ⟨HKa.out.then' hkk⟩
                  obtain ⟨A2, hA2⟩ : ∃ A2, objSum cs2 = A2 := ⟨_, rfl⟩
                  obtain ⟨F2, hF2⟩ : ∃ F2, freeOf (fun _ => false) (gapsOf cs2) = F2 := ⟨_, rfl⟩
                  have HFr : Seal (Calls Tryz.prog 17 #[.pointer (some ⟨P.s, 0, none⟩), .pointer none] wr (FreePost F2 wr)) := ⟨by rw [← hF2]; exact FFree_at P cs2 _ _ wr (HSp2.out.keepN HK10.out) (.inl ⟨rfl, rfl⟩)⟩
                  have HOb : Seal (∀ W', Keep Nope w9 W' → Calls Tryz.prog 16 #[.pointer (some ⟨P.s, 0, none⟩)] W' fun e w' => e = .returned (.int .i64 (A2 : Nat)) ∧ Keep Nope W' w') := ⟨fun W' kk => by rw [← hA2]; exact objects_at P cs2 W' (HSp2.out.keepN kk)⟩
                  rw [hA2] at hos hsum2
                  rw [hF2] at hsum2
                  rw [hfd]
                  have p1 : ((A2 : Int) == (A : Int) + (S : Int)) = true := by rw [beq_iff_eq]; omega
                  have p2 : ((F2 : Int) == (F : Int) - (S : Int)) = true := by rw [beq_iff_eq]; omega
                  clear hA2 hF2 hfd hkk HE2
                  go_wp2_with fail
                  refine HFr.out.mono ?_
                  rintro e w11 ⟨rfl, k11⟩
                  have HK11 : Seal _ := ⟨HK10.out.then' k11⟩
                  clear k11
                  go_wp2_with fail
                  refine (HOb.out w11 HK11.out).mono ?_
                  rintro e w12 ⟨rfl, k12⟩
                  have HK12 : Seal (Keep Nope w w12) := ⟨HK9.out.then' (HK11.out.then' k12)⟩
                  clear k12
                  go_wp2_with fail
                  refine (HAl.out w12 HK12.out).mono ?_
                  rintro e w13 ⟨rfl, k13⟩
                  go_wp2
                  go_ret
                  exact ⟨rfl, HK12.out.then' k13⟩
      · have hbp : ∃ bp, bv = .pointer bp := by
          rcases HBk.out with ⟨h, _⟩ | ⟨b, p0, q0, p1, q1, f0, f1, h, _⟩
          · exact ⟨_, h⟩
          · exact ⟨_, h⟩
        obtain ⟨bp, rfl⟩ := hbp
        have HPl : Seal _ := ⟨FPlace_size P cs bp id ln w4 HB4.out.has hE⟩
        rw [if_neg hE]
        obtain ⟨E, hEE⟩ : ∃ E, sizeE P.ts id ln = E := ⟨_, rfl⟩
        rw [hEE] at HPl hE ⊢
        have hb : (E != 0) = true := by simpa using hE
        clear hE hEE
        go_wp2_with fail
        refine HPl.out.mono ?_
        rintro e w5 ⟨rfl, k5⟩
        have HK5 : Seal _ := ⟨HK4.out.then' k5⟩
        clear k5
        go_wp2_with fail
        refine (HAl.out w5 HK5.out).mono ?_
        rintro e w6 ⟨rfl, k6⟩
        go_wp2
        go_ret
        exact ⟨rfl, HK5.out.then' k6⟩

theorem fitplaces_case {w : World} {v : Value} {n : Int} {v1 v2 v3 : Value} {bare : Bool} {xs : List TypR} {len lb : Nat} {d g i nn y : Nat → Int} {u : Nat → Value} {m : Nat → Nat} {x3 : Nat → Nat → Int} (id ln : Int) (hF : FieldsAt w) (h : CaseAt w v n v1 v2 v3 bare xs len lb d g i nn y u m x3) :
    Calls Tryz.prog 3 #[v, .int .i64 id, .int .i64 ln] w fun e w' => e = .returned (.bool true) ∧ Keep Nope w w' := by
  obtain ⟨rfl, h1, h2, h3, hl, hM, hl2, hy, hA, hlb⟩ := h
  exact fitplaces_walk id ln n v1 v2 bare xs len lb d g i nn y u m v3 x3 w hF h1 h2 h3 hl hM hl2 hy hA hlb

end Go.Proofs.YtfnmflgnbjjkkaaGreatDoor
