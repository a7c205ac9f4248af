/-
  SpaceCells: the law's walk.
-/
import Derived.Test.YtafjebdjdmlahaaDoorSpaceAlive
import Derived.Test.YtafjebdjdmlahaaDoorSpaceHeavy
import Derived.Test.YtafjebdjdmlahaaDoorRowApp
import Derived.Test.YtafjebdjdmlahaaDoorSpaceNew2
import Derived.Test.YtafjebdjdmlahaaDoorRows1
import Derived.Deep.RegionHeldLaw
import Derived.Deep.DeepCutAuto
import Derived.Deep.CutBlock
namespace Go.Proofs.YtafjebdjdmlahaaDoor
open Go.RowKit
set_option linter.unusedVariables false

/-- What holds at the loop's head: a space whose objects are the row 'th' of what was put, and not dropped. -/
structure CellsInv (P : Sp) (B : Nat) (th : List Cel) (z : Value) (wr : World) : Prop where
  cs : ∃ cs, SpaceHas wr P cs ∧ GapsOk cs ∧ (objsOf cs).Perm th
  own : wr.ownsRow B 45 5 z th.length (flatC th)
  sz : B ≤ wr.heap.size

def CellsRel (P : Sp) (B len : Nat) (w : World) (z y : Value) (wr : World) : Prop :=
  ∃ j th, j ≤ len ∧ y = .int .i64 (j : Nat) ∧ th.length ≤ j ∧ CellsInv P B th z wr ∧ Keep Nope w wr

/-- Where the steps meet again: what was put, the error, and what the space has now. -/
def CutRel (P : Sp) (B Bw j : Nat) (was : List Cel) (vw : Value) (w : World) (z e : Value) (wc : World) : Prop :=
  ∃ (cs th : List Cel) (r : Int), e = .int .i64 r ∧ (¬ r = 0 → cs = was) ∧ SpaceHas wc P cs ∧ GapsOk cs ∧ (objsOf cs).Perm th ∧ th.length ≤ j + 1 ∧
    wc.ownsRow B 45 5 z th.length (flatC th) ∧ wc.ownsRow Bw 45 5 vw was.length (flatC was) ∧ B ≤ wc.heap.size ∧ Keep Nope w wc

/-- Where the inner loop stands. -/
def InRel (cs : List Cel) (w : World) (y : Value) (wz : World) : Prop := ∃ k, k ≤ cs.length ∧ y = .int .i64 (k : Nat) ∧ Keep Nope w wz

theorem starts_tell {cs : List Cel} {H : Nat} {f : Nat → Bool} (htl : Tiles 0 cs H) (hst : ∀ i, i < H → f i = startOf cs i) {x : Cel} (hx : x ∈ cs) : hasI f H (x.g : Nat) = (x.tag == 1) := by
  have hm := htl.mem hx
  have hg : x.g < H := by omega
  simp only [hasI]
  rw [decide_eq_true (show (0 : Int) ≤ (x.g : Nat) ∧ ((x.g : Nat) : Int) < (H : Nat) by omega), Bool.true_and, Int.toNat_natCast, hst _ hg]
  by_cases ht : x.tag = 1
  · rw [show (x.tag == 1) = true by simpa using ht, startOf, List.any_eq_true]
    exact ⟨x, hx, by simp [ht]⟩
  · rw [show (x.tag == 1) = false by simpa using ht, startOf, List.any_eq_false]
    intro c hc
    simp only [Bool.and_eq_true, beq_iff_eq, not_and]
    intro h1 h2
    have := htl.only hc hx h2
    rw [this] at h1
    exact ht h1

set_option maxRecDepth 20000 in
set_option maxHeartbeats 8000000 in
theorem cells_walk (n : Int) (v1 v2 : Value) (xs : List TypR) (len : Nat) (d g i nn y : Nat → Int) (u : Nat → Value) (m : Nat → Nat) (w : World) (hF : FieldsAt w) (h1 : TypsAt w v1 xs) (h2 : Steps6At w v2 len d g i nn y u m) (hl1 : xs.length ≤ 17592186044416) (hl2 : len ≤ 17592186044416) :
    Calls Tryd.prog 3 #[.int .i64 n, v1, v2] w fun e w' => e = .returned (.bool true) ∧ Keep Nope w w' := by
  have HF : Seal _ := ⟨hF⟩
  have HV : Seal _ := ⟨h2⟩
  have HT : Seal _ := ⟨h1⟩
  have HH : Seal _ := ⟨Heavy9_any n v1 v2 xs len d g i nn y u m w h1 h2 hl1 hl2⟩
  obtain ⟨va, vc, rfl, -⟩ := h2
  obtain ⟨ta, tc, rfl, -⟩ := h1
  clear hF
  go_enter Tryd.func3, Tryd.ntmps3
  go_wp2_with fail
  refine HH.out.mono ?_
  rintro e w' ⟨t, rfl, rfl, ht⟩
  cases t with
  | true =>
    clear ht
    go_wp2_with fail
    refine (alive09 _ HF.out).mono ?_
    rintro e w' ⟨rfl, hk⟩
    go_wp2
    go_ret
    exact ⟨rfl, hk⟩
  | false =>
    obtain ⟨hn, hlt, hls⟩ := ht rfl
    have HN : Seal _ := ⟨hn⟩
    clear ht hn
    go_wp2_with fail
    refine (TNew_any _ xs w' HT.out hl1).mono ?_
    rintro e w1 ⟨k1, ⟨hT0, t, q, rfl, T1, ht, hq, hq2⟩ | ⟨hE, rfl⟩⟩
    case inr =>
      obtain ⟨E, hEE⟩ : ∃ E, tabE 0 xs = E := ⟨_, rfl⟩
      rw [hEE] at hE ⊢
      clear hEE
      have hb : (E != 0) = true := by simpa using hE
      go_wp2_with fail
      refine (SNew_nil n w1).mono ?_
      rintro e w2 ⟨rfl, rfl⟩
      go_wp2_with fail
      refine (alive09 _ (HF.out.keepN k1)).mono ?_
      rintro e w3 ⟨rfl, hk⟩
      go_wp2
      go_ret
      exact ⟨rfl, k1.then' hk⟩
    clear hT0
    by_cases hok : okWords n = true
    case neg =>
      have hok' : okWords n = false := by simpa using hok
      have HO : Seal _ := ⟨hok'⟩
      clear hok hok'
      go_wp2_with fail
      refine (SNew_no n t w1 HO.out).mono ?_
      rintro e w2 ⟨rfl, rfl⟩
      go_wp2_with fail
      refine (alive09 _ (HF.out.keepN k1)).mono ?_
      rintro e w3 ⟨rfl, hk⟩
      go_wp2
      go_ret
      exact ⟨rfl, k1.then' hk⟩
    have hn3 : 16 ≤ n ∧ n ≤ 65536 ∧ n % 2 = 0 := by simpa [okWords] using hok
    clear hok
    obtain ⟨N, rfl⟩ := Int.eq_ofNat_of_zero_le (show 0 ≤ n by omega)
    have hN6 : N ≤ 600 := by have := HN.out; omega
    have hN1 : 16 ≤ N := by omega
    have HN2 : Seal (N % 2 = 0) := ⟨by omega⟩
    have HT1 : Seal _ := ⟨T1⟩
    clear hn3 T1
    go_wp2_with fail
    refine (SNew_yes N t q xs w1 HT1.out (HF.out.keepN k1) HT1.out.lt_t hq2 hN1 (by omega) HN2.out).mono ?_
    rintro e w2 ⟨P, rfl, rfl, hts, hPn, rfl, H2, hown, hs, hb, k2⟩
    have K2 := k1.then' k2
    have HH2 : Seal _ := ⟨H2⟩
    have HP : Seal (P.ts = xs ∧ P.n = N) := ⟨⟨hts, hPn⟩⟩
    have HOW : Seal (∀ k, P.own k → w'.heap.size ≤ k) := ⟨fun k hk => by have := hown k hk; have := k1.size; omega⟩
    have lt2 := H2.lt
    have HI0 : Seal (CellsInv P w2.heap.size [] (.slice none 0 0) w2) := ⟨⟨⟨_, H2, ?gaps, ?perm⟩, World.ownsRow_nil w2 _ _ _, Nat.le_refl _⟩⟩
    case gaps =>
      intro c hc _
      obtain ⟨_, rfl⟩ := gapL_mem hc
      exact ⟨rfl, rfl, rfl⟩
    case perm =>
      have : objsOf (gapL 0 (N / 2)) = [] := by
        rw [objsOf, List.filter_eq_nil_iff]
        intro c hc
        obtain ⟨_, rfl⟩ := gapL_mem hc
        have hT := gapTag_or (N / 2)
        simp
        omega
      rw [this]
    clear HT1 hts hPn hown hs hb H2 k2 HH
    go_wp2_with fail
    go_loopw [11, 12] (fun z y wr => CellsRel P w2.heap.size len w' z y wr) (fun _ y _ => len - (intOf y).toNat)
    case atStart => exact ⟨0, [], Nat.zero_le _, rfl, Nat.le_refl _, HI0.out, K2⟩
    case round =>
      obtain ⟨j, th, hj, rfl, hth, hI, hk⟩ := hrel
      have HI : Seal _ := ⟨hI⟩
      clear hI
      by_cases hjl : j < len
      · have hjl' : (j : Int) < len := by omega
        obtain ⟨va', vc', e, hx⟩ := HV.out
        injection e with e1 e3 e2
        clear e3
        subst e1 e2
        obtain ⟨b, o, rfl, hbl, x0, x1, x2, x3, x4, x5, ⟨ua, uc, hu⟩, hm, bg, bi, bn⟩ := hx j hjl
        obtain ⟨D, hD⟩ : ∃ D, d j = D := ⟨_, rfl⟩
        obtain ⟨G, hG⟩ : ∃ G, g j = G := ⟨_, rfl⟩
        obtain ⟨I, hI⟩ : ∃ I, i j = I := ⟨_, rfl⟩
        obtain ⟨L, hL⟩ : ∃ L, nn j = L := ⟨_, rfl⟩
        obtain ⟨Y, hY⟩ : ∃ Y, y j = Y := ⟨_, rfl⟩
        rw [hD] at x0
        rw [hG] at x1 bg
        rw [hI] at x2 bi
        rw [hL] at x3 bn
        rw [hY] at x4
        rw [hu] at x5
        have hbw : b < wr.heap.size := by have := hk.size; omega
        replace x0 := hk.cell x0 (fun h => h)
        replace x1 := hk.cell x1 (fun h => h)
        replace x2 := hk.cell x2 (fun h => h)
        replace x3 := hk.cell x3 (fun h => h)
        replace x4 := hk.cell x4 (fun h => h)
        replace x5 := hk.cell x5 (fun h => h)
        clear hx hD hG hI hL hY hu
        go_wp2_with fail
        obtain ⟨wa, hwa⟩ : ∃ wa, wa = wr.alloc (.cells #[.int .i64 D, .int .i64 G, .int .i64 I, .int .i64 L, .int .u64 Y, .slice ua (m j) uc] 37) := ⟨_, rfl⟩
        rw [← hwa]
        have ka : Keep Nope wr wa := by rw [hwa]; exact (Keep.refl _ wr).alloc _
        have ba : wa.heap[wr.heap.size]? = some (.cells #[.int .i64 D, .int .i64 G, .int .i64 I, .int .i64 L, .int .u64 Y, .slice ua (m j) uc] 37 (0, 0)) := by rw [hwa]; exact World.alloc_heap_new wr _
        obtain ⟨cs, hS, hGp, hPm⟩ := HI.out.cs
        have HSa : Seal _ := ⟨hS.keepN ka⟩
        have HGp : Seal _ := ⟨hGp⟩
        have HPm : Seal _ := ⟨hPm⟩
        have lta := hS.lt
        have hzr := ka.size
        have HKa : Seal _ := ⟨hk.then' ka⟩
        have HTH : Seal _ := ⟨ownsRow_keep HI.out.own ka (fun b hb h => h)⟩
        clear hwa x0 x1 x2 x3 x4 x5 hS hGp hPm hm ka
        refine (Cells_at P cs wa HSa.out).mono ?_
        rintro e wb ⟨vw, rfl, ow, kb⟩
        have HKb : Seal _ := ⟨HKa.out.then' kb⟩
        have HSb : Seal _ := ⟨HSa.out.keepN kb⟩
        have HTHb : Seal _ := ⟨ownsRow_keep HTH.out kb (fun b hb h => h)⟩
        have HOW1 : Seal _ := ⟨ow⟩
        have bb := kb.at_ ba (fun h => h)
        have d0 : wb.cell? ⟨wr.heap.size, 0, none⟩ = some (.int .i64 D) := by simp [World.cell?, bb]
        have d1 : wb.cell? ⟨wr.heap.size, 1, none⟩ = some (.int .i64 G) := by simp [World.cell?, bb]
        have d2 : wb.cell? ⟨wr.heap.size, 2, none⟩ = some (.int .i64 I) := by simp [World.cell?, bb]
        have d3 : wb.cell? ⟨wr.heap.size, 3, none⟩ = some (.int .i64 L) := by simp [World.cell?, bb]
        have HBB : Seal _ := ⟨bb⟩
        have lbb := lt_of_heap bb
        have hzb := kb.size
        clear kb ow ba bb
        go_upto_block 2 with fail
        go_cut [11, 15, 16, 17, 18] (fun z e _ _ _ wc => CutRel P w2.heap.size wa.heap.size j cs vw w' z e wc)
        case first =>
          have nown : ∀ k, P.own k → ¬ k = wr.heap.size := fun k hk e => by have := lta k (Sp.all_own hk); omega
          have ltA : ∀ k, P.all k → k < wa.heap.size := fun k hk => by have := lta k hk; omega
          by_cases hD0 : D = 0
          · subst hD0
            go_wp2_with fail
            refine (Put_any G I L P cs wb HSb.out).mono ?_
            rintro e wc ⟨rfl, k3, hp⟩
            obtain ⟨r, hr⟩ : ∃ r, putR P.ts (P.n / 2) cs G I L = r := ⟨_, rfl⟩
            rw [hr] at hp ⊢
            have HR : Seal _ := ⟨hr⟩
            have HKC : Seal (Keep Nope w' wc) := ⟨HKb.out.trans k3 (fun b hb h => by have := HOW.out b h; omega)⟩
            have HTHc : Seal _ := ⟨row_stays HTHb.out k3 lt2⟩
            have HOWc : Seal _ := ⟨row_stays HOW1.out k3 ltA⟩
            have hzc := k3.size
            have bc := k3.at_ HBB.out (fun h => nown _ h rfl)
            replace d1 : wc.cell? ⟨wr.heap.size, 1, none⟩ = some (.int .i64 G) := by simp [World.cell?, bc]
            replace d2 : wc.cell? ⟨wr.heap.size, 2, none⟩ = some (.int .i64 I) := by simp [World.cell?, bc]
            replace d3 : wc.cell? ⟨wr.heap.size, 3, none⟩ = some (.int .i64 L) := by simp [World.cell?, bc]
            have HBC : Seal _ := ⟨bc⟩
            clear hr k3 bc
            rcases hp with ⟨h0, hS⟩ | ⟨h0, pre, c, post, j', i', l', S, e1, e2, rfl, rfl, rfl, e6, e7, e8, e9, hS⟩
            · have hb : (r == 0) = false := by simpa using h0
              have HSc : Seal _ := ⟨hS⟩
              clear hS h0
              go_wp2_with fail
              go_meet
              exact ⟨cs, th, r, rfl, fun _ => rfl, HSc.out, HGp.out, HPm.out, by omega, HTHc.out, HOWc.out, by have := HI.out.sz; omega, HKC.out⟩
            · subst h0
              have HSc : Seal _ := ⟨hS⟩
              have HE1 : Seal _ := ⟨e1⟩
              have HE2 : Seal _ := ⟨e2⟩
              have HE6 : Seal _ := ⟨e6⟩
              have hE : Seal (sizeE P.ts (i' : Nat) (l' : Nat) = 0) := ⟨by
                have h := HR.out
                rw [putR] at h
                split at h
                · rename_i hne; exact absurd h hne
                · rename_i hne; simpa using hne⟩
              have HTS : Seal _ := ⟨TSize_any (i' : Nat) (l' : Nat) P.t P.tq P.ts wc (by obtain ⟨_, _, h, _⟩ := hS; exact h.tb)⟩
              clear hS e1 e2 e6 e7 e8 e9
              go_wp2_with fail
              refine HTS.out.mono ?_
              rintro e wd ⟨rfl, kd⟩
              rw [if_pos hE.out, hE.out, HE6.out]
              have bd := kd.at_ HBC.out (fun h => h)
              replace d1 : wd.cell? ⟨wr.heap.size, 1, none⟩ = some (.int .i64 (j' : Nat)) := by simp [World.cell?, bd]
              replace d2 : wd.cell? ⟨wr.heap.size, 2, none⟩ = some (.int .i64 (i' : Nat)) := by simp [World.cell?, bd]
              replace d3 : wd.cell? ⟨wr.heap.size, 3, none⟩ = some (.int .i64 (l' : Nat)) := by simp [World.cell?, bd]
              have HSd : Seal _ := ⟨HSc.out.keepN kd⟩
              have HKD : Seal _ := ⟨HKC.out.then' kd⟩
              have HTHd : Seal _ := ⟨ownsRow_keep HTHc.out kd (fun b hb h => h)⟩
              have HOWd : Seal _ := ⟨ownsRow_keep HOWc.out kd (fun b hb h => h)⟩
              have hzd := kd.size
              have hBd : w2.heap.size ≤ wd.heap.size := by have := HI.out.sz; omega
              clear kd bd
              obtain ⟨i0, hi, hz0, hz1, hz2⟩ := info_parts Tryd.infoCell
              go_wp2_with (at_builtin; go_loud (refine wpList_append_lies _ rfl (.tmp 83) (.tmp 93) 33 rfl w2.heap.size 45 i0 (.agg #[.int .i64 0, .int .u8 0, .int .i64 0, .int .i64 0, .int .i64 0]) 5 40 Tryd.underlyingCells hi hz0 hz1 hz2 rfl (by omega) u11 th.length (flatC th) rfl (Keep.owns (S := Nope) (a := wd) (by (repeat (first | assumption | exact Keep.refl _ _ | refine Keep.drew ?_ | refine Keep.alloc ?_ _ | refine Keep.setNew ?_ (by omega) _))) HTHd.out (fun b hb h => h)) ⟨wd.heap.size, 0, none⟩ 1 1 [.int .i64 (j' : Nat), .int .u8 1, .int .i64 (i' : Nat), .int .i64 (l' : Nat), .int .i64 (S : Nat)] rfl rfl (World.news_of_block (World.alloc_heap_new wd _)) (by simp [Value.oneCell']) (by omega) (by unfold maxLen; omega) (by omega) (by simp; omega) _ rfl ?_); intro gN capN we hown hgrow hat hlt; clear hi hz0 hz1 hz2; have KA : Keep (fun b => u11.ownBlock = some b) wd we := ((by (repeat (first | assumption | exact Keep.refl _ _ | refine Keep.drew ?_ | refine Keep.alloc ?_ _ | refine Keep.setNew ?_ (by omega) _)) : Keep Nope wd _).of_not (fun b => u11.ownBlock = some b)).grown hgrow (fun k e _ => e))
              clear hgrow hat
              go_meet
              refine ⟨_, th ++ [⟨j', 1, i', l', S⟩], 0, rfl, fun h => absurd rfl h, HSd.out.keep KA (fun b hb hv => ?_), put_gaps (HE1.out ▸ HGp.out), put_objs (HE1.out ▸ HPm.out) HE2.out, by simp; omega, ?_, ownsRow_keep HOWd.out KA (fun b hb hv => ?_), by have := KA.size; omega, HKD.out.trans KA (fun b hb hv => ?_)⟩
              · have h1 := (ownsRow_block HTHd.out hv).1
                have h2 := lt2 b hb
                omega
              · rw [flatC_append, List.length_append]
                exact hown
              · have h1 := (ownsRow_block HOW1.out hb).1
                have h2 := (ownsRow_block HI.out.own hv).2
                omega
              · have h1 := (ownsRow_block HTHd.out hv).1
                have h2 := K2.size
                omega
          · by_cases hD1 : D = 1
            · subst hD1
              go_wp2_with fail
              refine (Drop_any G P cs wb HSb.out).mono ?_
              rintro e wc (⟨rfl, hno, k3⟩ | ⟨rfl, k3, j', p1, g1, c, g2, p2, X, Y2, rfl, hDO, hS⟩)
              · have HNO : Seal _ := ⟨hno⟩
                have bc := k3.at_ HBB.out (fun h => h)
                replace d1 : wc.cell? ⟨wr.heap.size, 1, none⟩ = some (.int .i64 G) := by simp [World.cell?, bc]
                have HKC : Seal (Keep Nope w' wc) := ⟨HKb.out.then' k3⟩
                have HSc : Seal _ := ⟨HSb.out.keepN k3⟩
                have HTHc : Seal _ := ⟨ownsRow_keep HTHb.out k3 (fun b hb h => h)⟩
                have HOWc : Seal _ := ⟨ownsRow_keep HOW1.out k3 (fun b hb h => h)⟩
                have hzc := k3.size
                clear hno k3 bc
                go_wp2_with fail
                refine (find_at th G u11 wc (RowC.of_owns HTHc.out) (by omega)).mono ?_
                rintro e wd ⟨rfl, ⟨k, c', h1, h2, rfl⟩ | ⟨h, rfl⟩⟩
                · exfalso
                  have h3 := start_of_mem HPm.out (List.mem_of_getElem? h1)
                  rw [HNO.out c'.g h2.symm] at h3
                  cases h3
                · clear h
                  go_wp2_with fail
                  go_meet
                  exact ⟨cs, th, 3, rfl, fun _ => rfl, HSc.out, HGp.out, HPm.out, by omega, HTHc.out, HOWc.out, by have := HI.out.sz; omega, HKC.out⟩
              · have HDO : Seal _ := ⟨hDO⟩
                have HSc : Seal _ := ⟨hS⟩
                have bc := k3.at_ HBB.out (fun h => nown _ h rfl)
                replace d1 : wc.cell? ⟨wr.heap.size, 1, none⟩ = some (.int .i64 (j' : Nat)) := by simp [World.cell?, bc]
                have HKC : Seal (Keep Nope w' wc) := ⟨HKb.out.trans k3 (fun b hb h => by have := HOW.out b h; omega)⟩
                have HTHc : Seal _ := ⟨row_stays HTHb.out k3 lt2⟩
                have HOWc : Seal _ := ⟨row_stays HOW1.out k3 ltA⟩
                have hzc := k3.size
                clear k3 bc hS hDO
                go_wp2_with fail
                refine (find_at th (j' : Nat) u11 wc (RowC.of_owns HTHc.out) (by omega)).mono ?_
                rintro e wd ⟨rfl, ⟨k, c', h1, h2, rfl⟩ | ⟨h, rfl⟩⟩
                · have hkl := (List.getElem?_eq_some_iff.1 h1).1
                  have HK1 : Seal _ := ⟨h1⟩
                  have HK2 : Seal _ := ⟨h2⟩
                  obtain ⟨gT, cT, curT, rfl, hcT⟩ : ∃ gT cT curT, u11 = .slice (some ⟨gT, 0, none⟩) th.length cT ∧ wd.heap[gT]? = some (.cells curT 45 (0, 0)) ∧ th.length ≤ cT ∧ curT.toList.take (th.length * 5) = flatC th := by
                    rcases HTHc.out.2 with ⟨_, h0⟩ | ⟨g', cap', cur', e, _, h3, h4, _, _, h5⟩
                    · omega
                    · exact ⟨g', cap', cur', e, h3, h4, h5⟩
                  have HCT : Seal _ := ⟨hcT⟩
                  have hcap := hcT.2.1
                  have t1 : decide ((0 : Int) ≤ (k : Int)) = true := decide_eq_true (by omega)
                  clear h1 h2 hcT
                  obtain ⟨i0, hi, hz0, hz1, hz2⟩ := info_parts Tryd.infoCell
                  have hBd : w2.heap.size ≤ wd.heap.size := by have := HI.out.sz; omega
                  have hlt1 : (flatC (th.take k)).length = k * 5 := by rw [flatC_length, List.length_take]; omega
                  have hld1 : (flatC (th.drop (k + 1))).length = (th.length - (k + 1)) * 5 := by rw [flatC_length, List.length_drop]
                  have HLT : Seal _ := ⟨hlt1⟩
                  have HLD : Seal _ := ⟨hld1⟩
                  clear hlt1 hld1
                  by_cases hcap2 : cT = k + 1
                  · subst hcap2
                    have hk0 : (0 : Int) ≤ (k : Int) + 1 := by omega
                    have hk1 : (k : Int) + 1 ≤ (th.length : Int) := by omega
                    have hk2 : ((k : Int) + 1).toNat = k + 1 := by omega
                    have hk3 : (k : Int) ≤ ((k + 1 : Nat) : Int) := by omega
                    have hk4 : IntKind.i64.wrap ((k : Int) + 1) = (k : Int) + 1 := by rw [IntKind.wrap_i64]; omega
                    go_wp2_with fail
                    go_region_held_law (fun _ => True) (exact trivial)
                      (first
                        | (refine step_append_row rfl rfl _ _ 33 rfl wd.heap.size 45 i0 (.agg #[.int .i64 0, .int .u8 0, .int .i64 0, .int .i64 0, .int .i64 0]) 5 40 Tryd.underlyingCells hi hz0 hz1 hz2 rfl (by omega) (.slice none 0 0) 0 [] rfl (World.ownsRow_nil _ _ _ _) ⟨gT, 0, none⟩ k _ (flatC (th.take k)) rfl HLT.out (row_news ((by (repeat (first | assumption | exact Keep.refl _ _ | refine Keep.drew ?_ | refine Keep.alloc ?_ _ | refine Keep.setNew ?_ (by omega) _)) : Keep Nope wd _).at_ HCT.out.1 (fun h => h)) HCT.out.2.2 0 news_take) (flatC_one _) (by unfold maxLen; omega) (by omega) (Keep.size (S := Nope) (by (repeat (first | assumption | exact Keep.refl _ _ | refine Keep.drew ?_ | refine Keep.alloc ?_ _ | refine Keep.setNew ?_ (by omega) _)))) ?_
                           intro v1 wA o1 g1 b1
                           have kA : Keep Nope wd wA := (by (repeat (first | assumption | exact Keep.refl _ _ | refine Keep.drew ?_ | refine Keep.alloc ?_ _ | refine Keep.setNew ?_ (by omega) _)) : Keep Nope wd _).grown0 g1
                           try dsimp only)
                        | (refine step_append_row rfl rfl _ _ 33 rfl wd.heap.size 45 i0 (.agg #[.int .i64 0, .int .u8 0, .int .i64 0, .int .i64 0, .int .i64 0]) 5 40 Tryd.underlyingCells hi hz0 hz1 hz2 rfl (by omega) v1 (0 + k) ([] ++ flatC (th.take k)) rfl (Keep.owns (S := Nope) (a := wA) (by (repeat (first | assumption | exact Keep.refl _ _ | refine Keep.drew ?_ | refine Keep.alloc ?_ _ | refine Keep.setNew ?_ (by omega) _))) o1 (fun b hb h => h)) ⟨gT, 0, none⟩ _ _ [] rfl (by simp; try omega) (fun j u h => by simp at h) (fun u h => by cases h) (by unfold maxLen; omega) (by omega) (Keep.size (S := Nope) (by (repeat (first | assumption | exact Keep.refl _ _ | refine Keep.drew ?_ | refine Keep.alloc ?_ _ | refine Keep.setNew ?_ (by omega) _)))) ?_
                           intro v2 wB o2 g2 b2
                           have kB : Keep Nope wd wB := (by (repeat (first | assumption | exact Keep.refl _ _ | refine Keep.drew ?_ | refine Keep.alloc ?_ _ | refine Keep.setNew ?_ (by omega) _)) : Keep Nope wd _).grown g2 (fun q e hq => absurd hq (by have := (ownsRow_block o1 e).1; omega))
                           try dsimp only))
                    clear g2 b2 b1 g1 hi hz0 hz1 hz2
                    go_wp2_with fail
                    go_meet
                    refine ⟨_, th.take k ++ th.drop (k + 1), 0, rfl, fun h => absurd rfl h, HSc.out.keepN kB, drop_gaps HGp.out HDO.out, ?_, (by rw [List.length_append, List.length_take, List.length_drop]; omega), ?_, ownsRow_keep HOWc.out kB (fun b hb h => h), by have := kB.size; omega, HKC.out.then' kB⟩
                    · obtain ⟨_, _, _, hcA, _⟩ := HSb.out
                      refine drop_objs (c' := c') (t1 := th.take k) (t2 := th.drop (k + 1)) HDO.out hcA.tl ?_ (by have := HK2.out; omega)
                      rw [← take_drop_at HK1.out]
                      exact HPm.out
                    · refine ownsRow_less (base := wd.heap.size) ?_ hBd
                      have e0 : th.length - (k + 1) = 0 := by omega
                      rw [List.drop_eq_nil_of_le (by omega), List.append_nil, List.length_take, Nat.min_eq_left (by omega)]
                      simpa [e0] using o2
                  · have hk0 : (0 : Int) ≤ (k : Int) + 1 := by omega
                    have hk1 : (k : Int) + 1 ≤ (th.length : Int) := by omega
                    have hk2 : ((k : Int) + 1).toNat = k + 1 := by omega
                    have hk3 : (k : Int) ≤ (cT : Int) := by omega
                    have hk4 : IntKind.i64.wrap ((k : Int) + 1) = (k : Int) + 1 := by rw [IntKind.wrap_i64]; omega
                    go_wp2_with fail
                    go_region_held_law (fun _ => True) (exact trivial)
                      (first
                        | (refine step_append_row rfl rfl _ _ 33 rfl wd.heap.size 45 i0 (.agg #[.int .i64 0, .int .u8 0, .int .i64 0, .int .i64 0, .int .i64 0]) 5 40 Tryd.underlyingCells hi hz0 hz1 hz2 rfl (by omega) (.slice none 0 0) 0 [] rfl (World.ownsRow_nil _ _ _ _) ⟨gT, 0, none⟩ k _ (flatC (th.take k)) rfl HLT.out (row_news ((by (repeat (first | assumption | exact Keep.refl _ _ | refine Keep.drew ?_ | refine Keep.alloc ?_ _ | refine Keep.setNew ?_ (by omega) _)) : Keep Nope wd _).at_ HCT.out.1 (fun h => h)) HCT.out.2.2 0 news_take) (flatC_one _) (by unfold maxLen; omega) (by omega) (Keep.size (S := Nope) (by (repeat (first | assumption | exact Keep.refl _ _ | refine Keep.drew ?_ | refine Keep.alloc ?_ _ | refine Keep.setNew ?_ (by omega) _)))) ?_
                           intro v1 wA o1 g1 b1
                           have kA : Keep Nope wd wA := (by (repeat (first | assumption | exact Keep.refl _ _ | refine Keep.drew ?_ | refine Keep.alloc ?_ _ | refine Keep.setNew ?_ (by omega) _)) : Keep Nope wd _).grown0 g1
                           try dsimp only)
                        | (refine step_append_row rfl rfl _ _ 33 rfl wd.heap.size 45 i0 (.agg #[.int .i64 0, .int .u8 0, .int .i64 0, .int .i64 0, .int .i64 0]) 5 40 Tryd.underlyingCells hi hz0 hz1 hz2 rfl (by omega) v1 (0 + k) ([] ++ flatC (th.take k)) rfl (Keep.owns (S := Nope) (a := wA) (by (repeat (first | assumption | exact Keep.refl _ _ | refine Keep.drew ?_ | refine Keep.alloc ?_ _ | refine Keep.setNew ?_ (by omega) _))) o1 (fun b hb h => h)) ⟨gT, ((k + 1) * 5), none⟩ (th.length - (k + 1)) _ (flatC (th.drop (k + 1))) rfl HLD.out (row_news ((by (repeat (first | assumption | exact Keep.refl _ _ | refine Keep.drew ?_ | refine Keep.alloc ?_ _ | refine Keep.setNew ?_ (by omega) _)) : Keep Nope wd _).at_ HCT.out.1 (fun h => h)) HCT.out.2.2 ((k + 1) * 5) news_drop) (flatC_one _) (by unfold maxLen; omega) (by omega) (Keep.size (S := Nope) (by (repeat (first | assumption | exact Keep.refl _ _ | refine Keep.drew ?_ | refine Keep.alloc ?_ _ | refine Keep.setNew ?_ (by omega) _)))) ?_
                           intro v2 wB o2 g2 b2
                           have kB : Keep Nope wd wB := (by (repeat (first | assumption | exact Keep.refl _ _ | refine Keep.drew ?_ | refine Keep.alloc ?_ _ | refine Keep.setNew ?_ (by omega) _)) : Keep Nope wd _).grown g2 (fun q e hq => absurd hq (by have := (ownsRow_block o1 e).1; omega))
                           try dsimp only))
                    clear g2 b2 b1 g1 hi hz0 hz1 hz2
                    go_wp2_with fail
                    go_meet
                    refine ⟨_, th.take k ++ th.drop (k + 1), 0, rfl, fun h => absurd rfl h, HSc.out.keepN kB, drop_gaps HGp.out HDO.out, ?_, (by rw [List.length_append, List.length_take, List.length_drop]; omega), ?_, ownsRow_keep HOWc.out kB (fun b hb h => h), by have := kB.size; omega, HKC.out.then' kB⟩
                    · obtain ⟨_, _, _, hcA, _⟩ := HSb.out
                      refine drop_objs (c' := c') (t1 := th.take k) (t2 := th.drop (k + 1)) HDO.out hcA.tl ?_ (by have := HK2.out; omega)
                      rw [← take_drop_at HK1.out]
                      exact HPm.out
                    · refine ownsRow_less (base := wd.heap.size) ?_ hBd
                      rw [Nat.zero_add, List.nil_append] at o2
                      rw [flatC_append, List.length_append, List.length_take, List.length_drop, Nat.min_eq_left (by omega)]
                      exact o2
                · exfalso
                  obtain ⟨e, h1, h2, -⟩ := HDO.out
                  exact h c (HPm.out.mem_iff.1 (mem_objsOf.2 ⟨by rw [e]; simp, h2⟩)) (by omega)
            · have hb0 : (D == 0) = false := by simpa using hD0
              have hb1 : (D == 1) = false := by simpa using hD1
              go_wp2_with fail
              go_meet
              exact ⟨cs, th, 0, rfl, fun h => absurd rfl h, HSb.out, HGp.out, HPm.out, by omega, HTHb.out, HOW1.out, by have := HI.out.sz; omega, HKb.out⟩
        case rest =>
          obtain ⟨cs', th', r, rfl, hwas, hS, hG, hPm2, hlen, hown, hw, hsz, hkc⟩ := hcut
          have HS' : Seal _ := ⟨hS⟩
          have HG' : Seal _ := ⟨hG⟩
          have HPm' : Seal _ := ⟨hPm2⟩
          have HWas : Seal _ := ⟨hwas⟩
          have HOn : Seal _ := ⟨hown⟩
          have HWr : Seal _ := ⟨hw⟩
          have HKc : Seal _ := ⟨hkc⟩
          clear hS hG hPm2 hwas hown hw hkc d0 d1 d2 d3
          go_wp2_with fail
          refine (Cells_at P cs' wc HS'.out).mono ?_
          rintro e wd ⟨vn, rfl, on, kd⟩
          have htl : Tiles 0 cs' (N / 2) := by
            obtain ⟨_, _, _, h, _⟩ := HS'.out
            have := h.tl
            rwa [HP.out.2] at this
          have hcl : cs'.length ≤ 300 := by
            have := tiles_len htl
            omega
          have HTl : Seal _ := ⟨htl⟩
          have HSd : Seal _ := ⟨HS'.out.keepN kd⟩
          have HKd : Seal _ := ⟨HKc.out.then' kd⟩
          have HRn : Seal _ := ⟨RowC.of_owns on⟩
          have HRw : Seal _ := ⟨RowC.of_owns (ownsRow_keep HWr.out kd (fun b hb h => h))⟩
          have HRt : Seal _ := ⟨RowC.of_owns (ownsRow_keep HOn.out kd (fun b hb h => h))⟩
          have HOd : Seal _ := ⟨ownsRow_keep HOn.out kd (fun b hb h => h)⟩
          have hzd := kd.size
          have HQ : Seal (((N : Nat) : Int) / 2 = ((N / 2 : Nat) : Int)) := ⟨by omega⟩
          have HQ' : Seal (((N : Nat) : Int).tdiv 2 = ((N / 2 : Nat) : Int)) := ⟨by rw [Int.tdiv_eq_ediv_of_nonneg (by omega)]; omega⟩
          have HTol : Seal (∀ wx, Keep Nope wd wx → Calls Tryd.prog 16 #[vn, u11] wx fun e w' => e = .returned (.bool true) ∧ Keep Nope wx w') :=
            ⟨fun wx hx => told_at cs' th' vn u11 wx (HRn.out.keepN hx) (HRt.out.keepN hx) (by omega) (by omega) HG'.out
              (fun c hc ht => HPm'.out.mem_iff.1 (mem_objsOf.2 ⟨hc, ht⟩))
              (fun c hc ht d hd hg => htl.only (mem_objsOf.1 (HPm'.out.mem_iff.2 hd)).1 hc hg) HPm'.out.length_eq⟩
          clear htl on kd
          go_upto_region 28 with fail
          go_cut [143] (fun s wx => s = .bool false ∧ Keep Nope wd wx)
          case first =>
            by_cases hr : r = 0
            · subst hr
              go_wp2_with fail
              try rw [HQ.out]
              try rw [HQ'.out]
              refine (tiles_at cs' (N / 2) vn wd HRn.out (by omega) (by omega) HTl.out).mono ?_
              rintro e we ⟨rfl, rfl⟩
              go_wp2_with fail
              refine (HTol.out _ (Keep.refl _ _)).mono ?_
              rintro e wf ⟨rfl, kf⟩
              go_wp2
              go_meet
              exact ⟨rfl, kf⟩
            · have hb : (r != 0) = true := by simpa using hr
              have hcs := HWas.out hr
              subst hcs
              go_wp2_with fail
              refine (SameC_at cs' vw vn wd HRw.out HRn.out (by omega)).mono ?_
              rintro e we ⟨rfl, ke⟩
              go_wp2_with fail
              try rw [HQ.out]
              try rw [HQ'.out]
              refine (tiles_at cs' (N / 2) vn we (HRn.out.keepN ke) (by omega) (by omega) HTl.out).mono ?_
              rintro e we' ⟨rfl, rfl⟩
              go_wp2_with fail
              refine (HTol.out _ ke).mono ?_
              rintro e wf ⟨rfl, kf⟩
              go_wp2
              go_meet
              exact ⟨rfl, ke.then' kf⟩
          case rest =>
            obtain ⟨rfl, hkx⟩ := hcut
            obtain ⟨na, nc, hvn, -⟩ := HRn.out
            subst hvn
            obtain ⟨W0, f0, S0, c0, st0⟩ := HSd.out
            have HS0 : Seal _ := ⟨S0⟩
            have HT0 : Seal (∀ x ∈ cs', hasI f0 (P.n / 2) (x.g : Nat) = (x.tag == 1)) := ⟨fun x hx => starts_tell c0.tl st0 hx⟩
            clear S0 c0 st0
            go_wp2_with fail
            go_loopw [20] (fun y wz => InRel cs' wd y wz) (fun y _ => cs'.length - (intOf y).toNat)
            case atStart => exact ⟨0, Nat.zero_le _, rfl, hkx⟩
            case round =>
              obtain ⟨kk, hkk, rfl, hkz⟩ := hrel
              by_cases hkl : kk < cs'.length
              · have hkl' : (kk : Int) < (cs'.length : Int) := by omega
                obtain ⟨na', nc', e, hx⟩ := HRn.out
                injection e with e1 e3 e2
                clear e3
                subst e1 e2
                obtain ⟨x, hxk⟩ : ∃ x, cs'[kk]? = some x := ⟨cs'[kk], List.getElem?_eq_getElem hkl⟩
                obtain ⟨bx, rfl, hbx, x0, x1, -⟩ := hx kk x hxk
                have hxm := HT0.out x (List.mem_of_getElem? hxk)
                clear hx hxk
                replace x0 := hkz.cell x0 (fun h => h)
                replace x1 := hkz.cell x1 (fun h => h)
                by_cases ht : x.tag = 1
                · have t1 : ((x.tag : Int) == 1) = true := by simp; omega
                  have hxb : (x.tag == 1) = true := by simp; omega
                  have HST : Seal (∀ w9, Keep Nope wr w9 → Calls Tryd.prog 17 #[.pointer (some ⟨P.s, 0, none⟩)] w9 fun e w' => ∃ p q, e = .returned (.pointer (some ⟨p, 0, none⟩)) ∧ w9.heap.size ≤ p ∧ w9.heap.size ≤ q ∧ BitsAt w' p q f0 (P.n / 2) ∧ Keep Nope w9 w') :=
                    ⟨fun w9 h9 => Starts_at P W0 f0 w9 ((HS0.out.keepN hkz).keepN h9)⟩
                  have HHS : Seal (∀ p q w9, BitsAt w9 p q f0 (P.n / 2) → Calls Tryd.prog 18 #[.pointer (some ⟨p, 0, none⟩), .int .i64 (x.g : Nat)] w9 fun e w' => e = .returned (.bool true) ∧ Keep Nope w9 w') :=
                    ⟨fun p q w9 h9 => by have := Has_int (x.g : Nat) (P.n / 2) p q f0 w9 h9; rw [hxm, hxb] at this; exact this⟩
                  clear hxm hxb
                  go_wp2_with fail
                  go_region_held3 (fun w9 => w9.cell? ⟨bx, kk * 5, none⟩ = some (.int .i64 (x.g : Nat)) ∧ w9.cell? ⟨bx, kk * 5 + 1, none⟩ = some (.int .u8 (x.tag : Nat)))
                    (exact ⟨keep_cell (by (repeat (first | assumption | exact Keep.refl _ _ | refine Keep.drew ?_ | refine Keep.alloc ?_ _ | refine Keep.setNew ?_ (by omega) _))) x0, keep_cell (by (repeat (first | assumption | exact Keep.refl _ _ | refine Keep.drew ?_ | refine Keep.alloc ?_ _ | refine Keep.setNew ?_ (by omega) _))) x1⟩)
                    (first
                      | (go_at_call 17; with_reducible refine (HST.out _ (by (repeat (first | assumption | exact Keep.refl _ _ | refine Keep.drew ?_ | refine Keep.alloc ?_ _ | refine Keep.setNew ?_ (by omega) _)))).mono ?_; rintro e wS ⟨pS, qS, rfl, hpS, hqS, bS, kS⟩
                         have KS : Keep Nope wr wS := Keep.then' (a := wr) (by (repeat (first | assumption | exact Keep.refl _ _ | refine Keep.drew ?_ | refine Keep.alloc ?_ _ | refine Keep.setNew ?_ (by omega) _))) kS)
                      | (go_at_call 18; with_reducible refine (HHS.out pS qS _ (bS.keep (S := Nope) (by (repeat (first | assumption | exact Keep.refl _ _ | refine Keep.drew ?_ | refine Keep.alloc ?_ _ | refine Keep.setNew ?_ (by omega) _))) (fun h => h) (fun h => h))).mono ?_; rintro e wH ⟨rfl, kH⟩
                         have KH : Keep Nope wr wH := Keep.then' (a := wr) (by (repeat (first | assumption | exact Keep.refl _ _ | refine Keep.drew ?_ | refine Keep.alloc ?_ _ | refine Keep.setNew ?_ (by omega) _))) kH))
                  clear bS
                  go_wp2
                  exact ⟨⟨kk + 1, by omega, by go_num, hkz.then' KH⟩, by simp only [intOf]; omega⟩
                · have t1 : ((x.tag : Int) == 1) = false := by simp; omega
                  have hxb : (x.tag == 1) = false := by simp; omega
                  have HST : Seal (∀ w9, Keep Nope wr w9 → Calls Tryd.prog 17 #[.pointer (some ⟨P.s, 0, none⟩)] w9 fun e w' => ∃ p q, e = .returned (.pointer (some ⟨p, 0, none⟩)) ∧ w9.heap.size ≤ p ∧ w9.heap.size ≤ q ∧ BitsAt w' p q f0 (P.n / 2) ∧ Keep Nope w9 w') :=
                    ⟨fun w9 h9 => Starts_at P W0 f0 w9 ((HS0.out.keepN hkz).keepN h9)⟩
                  have HHS : Seal (∀ p q w9, BitsAt w9 p q f0 (P.n / 2) → Calls Tryd.prog 18 #[.pointer (some ⟨p, 0, none⟩), .int .i64 (x.g : Nat)] w9 fun e w' => e = .returned (.bool false) ∧ Keep Nope w9 w') :=
                    ⟨fun p q w9 h9 => by have := Has_int (x.g : Nat) (P.n / 2) p q f0 w9 h9; rw [hxm, hxb] at this; exact this⟩
                  clear hxm hxb
                  go_wp2_with fail
                  go_region_held3 (fun w9 => w9.cell? ⟨bx, kk * 5, none⟩ = some (.int .i64 (x.g : Nat)) ∧ w9.cell? ⟨bx, kk * 5 + 1, none⟩ = some (.int .u8 (x.tag : Nat)))
                    (exact ⟨keep_cell (by (repeat (first | assumption | exact Keep.refl _ _ | refine Keep.drew ?_ | refine Keep.alloc ?_ _ | refine Keep.setNew ?_ (by omega) _))) x0, keep_cell (by (repeat (first | assumption | exact Keep.refl _ _ | refine Keep.drew ?_ | refine Keep.alloc ?_ _ | refine Keep.setNew ?_ (by omega) _))) x1⟩)
                    (first
                      | (go_at_call 17; with_reducible refine (HST.out _ (by (repeat (first | assumption | exact Keep.refl _ _ | refine Keep.drew ?_ | refine Keep.alloc ?_ _ | refine Keep.setNew ?_ (by omega) _)))).mono ?_; rintro e wS ⟨pS, qS, rfl, hpS, hqS, bS, kS⟩
                         have KS : Keep Nope wr wS := Keep.then' (a := wr) (by (repeat (first | assumption | exact Keep.refl _ _ | refine Keep.drew ?_ | refine Keep.alloc ?_ _ | refine Keep.setNew ?_ (by omega) _))) kS)
                      | (go_at_call 18; with_reducible refine (HHS.out pS qS _ (bS.keep (S := Nope) (by (repeat (first | assumption | exact Keep.refl _ _ | refine Keep.drew ?_ | refine Keep.alloc ?_ _ | refine Keep.setNew ?_ (by omega) _))) (fun h => h) (fun h => h))).mono ?_; rintro e wH ⟨rfl, kH⟩
                         have KH : Keep Nope wr wH := Keep.then' (a := wr) (by (repeat (first | assumption | exact Keep.refl _ _ | refine Keep.drew ?_ | refine Keep.alloc ?_ _ | refine Keep.setNew ?_ (by omega) _))) kH))
                  clear bS
                  go_wp2
                  exact ⟨⟨kk + 1, by omega, by go_num, hkz.then' KH⟩, by simp only [intOf]; omega⟩
              · have hkl' : ¬ (kk : Int) < (cs'.length : Int) := by omega
                go_wp2
                exact ⟨⟨j + 1, th', by omega, by go_num, hlen, ⟨⟨cs', HSd.out.keepN hkz, HG'.out, HPm'.out⟩, ownsRow_keep HOd.out hkz (fun b hb h => h), by have := hkz.size; omega⟩, HKd.out.then' hkz⟩, by simp only [intOf]; omega⟩
      · have hjl' : ¬ (j : Int) < len := by omega
        go_wp2_with fail
        refine (alive09 _ (HF.out.keepN hk)).mono ?_
        rintro e w3 ⟨rfl, hk3⟩
        go_wp2
        go_ret
        exact ⟨rfl, hk.then' hk3⟩

end Go.Proofs.YtafjebdjdmlahaaDoor
