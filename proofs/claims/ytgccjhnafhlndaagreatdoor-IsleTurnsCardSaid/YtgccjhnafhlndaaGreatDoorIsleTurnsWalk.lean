/-
  The law IsleTurns, walked.
-/
import Derived.Test.YtgccjhnafhlndaaGreatDoorIsleAlive
import Derived.Test.YtgccjhnafhlndaaGreatDoorIsleO
import Derived.Test.YtgccjhnafhlndaaGreatDoorIsleR
import Derived.Test.YtgccjhnafhlndaaGreatDoorMarkC
import Derived.Test.YtgccjhnafhlndaaGreatDoorArgsA
import Derived.Deep.DeepCutAuto
import Derived.Deep.CutBlock
namespace Go.Proofs.YtgccjhnafhlndaaGreatDoor
open Go.RowKit
set_option linter.unusedVariables false

set_option maxRecDepth 20000 in
set_option maxHeartbeats 8000000 in
theorem isleturns_walk (n : Int) (v1 v2 v3 : Value) (xs : List TypR) (len : Nat) (d g i nn y : Nat → Int) (u : Nat → Value) (m : Nat → Nat) (ns : Nat) (ys : Nat → Nat) (w : World) (hF : FieldsAt w) (h1 : TypsAt w v1 xs) (h2 : Steps6At w v2 len d g i nn y u m)
    (hl : xs.length ≤ 17592186044416) (hM : Masks xs) (hl2 : len ≤ 17592186044416) (hy : ∀ j, j < len → 0 ≤ y j ∧ y j ≤ 18446744073709551615) (hA : AtsAt w len u m) (hb3 : BytesIn w v3 ns ys) :
    Calls Tryz.prog 3 #[.int .i64 n, v1, v2, v3] w fun e w' => e = .returned (.bool true) ∧ Keep Nope w w' := by
  have HF : Seal _ := ⟨hF⟩
  have HAlive : Seal (∀ W', Keep Nope w W' → Calls Tryz.prog 6 #[] W' fun e w' => e = .returned (.bool true) ∧ Keep Nope W' w') := ⟨fun W' kk => alive21 W' (hF.keepN kk)⟩
  have HH : Seal _ := ⟨Heavy9_any n v1 v2 xs len d g i nn y u m w h1 h2 hl hl2⟩
  have HPl : Seal (len ≤ 60 → (∀ j, j < len → m j ≤ 300) → Calls Tryz.prog 7 #[.int .i64 n, v1, v2] w (PlayedPost n xs v1 w)) := ⟨fun q1 q2 => Played_any n v1 v2 xs len d g i nn y u m w hF h1 hl hM h2 q1 hy hA q2⟩
  have hv1 : ∃ a l c, v1 = .slice a l c := by obtain ⟨a, c, h, -⟩ := h1; exact ⟨_, _, _, h⟩
  have hv2 : ∃ a l c, v2 = .slice a l c := by obtain ⟨a, c, h, -⟩ := h2; exact ⟨_, _, _, h⟩
  obtain ⟨a1, l1, c1, rfl⟩ := hv1
  obtain ⟨a2, l2, c2, rfl⟩ := hv2
  have HB3 : Seal _ := ⟨hb3⟩
  obtain ⟨a3, c3, rfl, -⟩ := hb3
  clear hF h1 h2 hM hy hA hl hl2
  by_cases hs3 : ns ≤ 40
  case neg =>
    have p5 : decide ((40 : Int) < (ns : Int)) = true := decide_eq_true (by omega)
    clear hs3
    go_enter Tryz.func3, Tryz.ntmps3
    go_wp2_with fail
    refine HH.out.mono ?_
    rintro e w2 ⟨t, rfl, rfl, ht⟩
    clear ht
    cases t
    all_goals
      go_wp2_with fail
      refine (HAlive.out _ (Keep.refl _ _)).mono ?_
      rintro e w3 ⟨rfl, k3⟩
      go_wp2
      go_ret
      exact ⟨rfl, k3⟩
  case pos =>
  have p5 : decide ((40 : Int) < (ns : Int)) = false := decide_eq_false (by omega)
  go_enter Tryz.func3, Tryz.ntmps3
  go_wp2_with fail
  refine HH.out.mono ?_
  rintro e w2 ⟨t, rfl, rfl, ht⟩
  cases t with
  | true =>
    clear ht
    go_wp2_with fail
    refine (HAlive.out _ (Keep.refl _ _)).mono ?_
    rintro e w3 ⟨rfl, k3⟩
    go_wp2
    go_ret
    exact ⟨rfl, k3⟩
  | false =>
    obtain ⟨-, -, q1, q2⟩ := ht rfl
    have HPp : Seal _ := ⟨HPl.out q1 q2⟩
    clear q1 q2 ht HPl
    go_wp2_with fail
    refine HPp.out.mono ?_
    rintro e w3 (⟨rfl, k3⟩ | ⟨P, rb, q, W, cs, rfl, hBt, hPn, hPs, h16⟩)
    · have HK3 : Seal _ := ⟨k3⟩
      clear k3
      go_wp2_with fail
      refine (HAlive.out _ HK3.out).mono ?_
      rintro e w4 ⟨rfl, k4⟩
      go_wp2
      go_ret
      exact ⟨rfl, HK3.out.then' k4⟩
    · obtain ⟨f, hsp, hcs, hst⟩ := hBt.sp
      have HK3 : Seal (Keep Nope _ w3) := ⟨hBt.kb.new'⟩
      have hcn : cs ≠ [] := fun e => by
        have := hcs.tl
        rw [e] at this
        have h0 : 0 = P.n / 2 := this
        omega
      have hsm := hsp.ar.small
      have HRt : Seal (∀ W' v n ys, Keep Nope w3 W' → n ≤ 65536 → BytesIn W' v n ys → Calls Tryz.prog 8 #[.pointer (some ⟨P.s, 0, none⟩), v] W' fun e w' => ∃ a c, e = .returned (.slice a (rootsOf (objsOf cs) ys n).length c) ∧ w'.ownsRow W'.heap.size 3 1 (.slice a (rootsOf (objsOf cs) ys n).length c) (rootsOf (objsOf cs) ys n).length (natVs (rootsOf (objsOf cs) ys n)) ∧ Keep Nope W' w') := ⟨fun W' v n ys kk hn hv => Roots20_at P cs W' ⟨W, f, hsp.keepN kk, hcs, hst⟩ hcn v n ys hn hv⟩
      have HTl : Seal _ := ⟨hcs.tl⟩
      have HCl : Seal (∀ W', Keep Nope w3 W' → Calls Tryz.prog 13 #[.pointer (some ⟨P.s, 0, none⟩)] W' fun e w' => ∃ v, e = .returned v ∧ w'.ownsRow W'.heap.size 46 5 v cs.length (flatC cs) ∧ Keep Nope W' w') := ⟨fun W' kk => Cells_at P cs W' ⟨W, f, hsp.keepN kk, hcs, hst⟩⟩
      have HOf : Seal (∀ W' v rs, Keep Nope w3 W' → NatsIn W' v rs → (∀ g ∈ rs, ObjG cs g) → rs.length ≤ 65536 → Calls Tryz.prog 9 #[.pointer (some ⟨P.s, 0, none⟩), v] W' (IslePost W'.heap.size (islesL cs (inL rs)) W')) := ⟨fun W' v rs kk hx ho hl => IsleOf_at P W f cs W' rs v (hsp.keepN kk) hcs hst hx ho hl⟩
      obtain ⟨H, hH⟩ : ∃ H, P.n / 2 = H := ⟨_, rfl⟩
      have HWa : Seal (∀ W' v rs, Keep Nope w3 W' → NatsIn W' v rs → (∀ g ∈ rs, ObjG cs g) → rs.length ≤ 65536 → Calls Tryz.prog 10 #[.pointer (some ⟨P.s, 0, none⟩), v] W' (IslePost W'.heap.size (waterL 0 (islesL cs (inL rs)) H) W')) := ⟨fun W' v rs kk hx ho hl => by
        rw [← hH]
        exact IsleWater_at P W f cs W' rs v (hsp.keepN kk) hcs hst hx ho hl⟩
      have HGr : Seal (∀ W', Keep Nope w3 W' → Calls Tryz.prog 12 #[.pointer (some ⟨P.s, 0, none⟩)] W' fun e w'' => e = .returned (.int .i64 (H : Nat)) ∧ w'' = W') := ⟨fun W' kk => by
        rw [← hH]
        exact Gran_at P W f W' (hsp.keepN kk)⟩
      rw [hH] at HTl
      have hH2 : H ≤ 32768 := by omega
      clear hsp hcs hst hcn hBt hPn hPs h16 hH HPp HH hsm
      go_wp2_with fail
      refine (HRt.out w3 _ ns ys (Keep.refl _ _) (by omega) (HB3.out.keepN HK3.out)).mono ?_
      rintro e w4 ⟨ra, rc, rfl, hrow, k4⟩
      have HRow : Seal _ := ⟨hrow⟩
      have K4 : Seal (Keep Nope w3 w4) := ⟨k4⟩
      have hRo : ∀ g ∈ rootsOf (objsOf cs) ys ns, ObjG cs g := roots_obj
      have hRl : (rootsOf (objsOf cs) ys ns).length ≤ 40 := by have := rootsOf_len (objsOf cs) ys ns; omega
      obtain ⟨rs, hrs⟩ : ∃ rs, rootsOf (objsOf cs) ys ns = rs := ⟨_, rfl⟩
      rw [hrs] at HRow hRo hRl ⊢
      obtain ⟨rl, hrl⟩ : ∃ rl, rs.length = rl := ⟨_, rfl⟩
      have HN4 : Seal (NatsIn w4 (.slice ra rl rc) rs) := ⟨by rw [← hrl]; exact NatsIn.of_owns HRow.out⟩
      have HRL : Seal (rs.length = rl) := ⟨hrl⟩
      have HRO : Seal (∀ g ∈ rs, ObjG cs g) := ⟨hRo⟩
      rw [hrl] at hRl ⊢
      clear hrow k4 HRow hRo hrl hrs HRt
      go_wp2_with fail
      refine (HOf.out w4 _ rs K4.out HN4.out HRO.out (by rw [HRL.out]; omega)).mono ?_
      rintro e w5 ⟨la, lc, rfl, ho5, k5⟩
      have K5 : Seal (Keep Nope w3 w5) := ⟨K4.out.then' k5⟩
      have HN5 : Seal _ := ⟨HN4.out.keepN k5⟩
      have HAp : Seal (Apart0 (islesL cs (inL rs)) H) := ⟨islesL_apart HTl.out⟩
      have HIn : Seal (∀ c ∈ cs, ∀ g, c.g ≤ g → g < c.fin → cov (islesL cs (inL rs)) g = inL rs c.g ∧ cov (waterL 0 (islesL cs (inL rs)) H) g = !inL rs c.g) := ⟨fun c hc g q1 q2 => by
        have e1 := cov_in HTl.out HRO.out hc q1 q2
        have := (HTl.out.mem hc)
        exact ⟨e1, by rw [water_not HTl.out (by unfold Cel.fin at q2; omega), e1]⟩⟩
      have HTu : Seal (islesL cs (inL (turnL rs 0)) = islesL cs (inL rs)) := ⟨isles_congr fun g => mem_turnL⟩
      have HLr : Seal (RowR w5 (.slice la (islesL cs (inL rs)).length lc) (islesL cs (inL rs))) := ⟨RowR.of_owns ho5⟩
      obtain ⟨L, hL⟩ : ∃ L, islesL cs (inL rs) = L := ⟨_, rfl⟩
      rw [hL] at HLr HAp HIn HTu ⊢
      have hLl := HAp.out.rise.len
      have HLf : Seal (∀ r ∈ L, r.1 + r.2 ≤ 65536) := ⟨fun r hr => by have := HAp.out.rise.fits r hr; omega⟩
      have HWl : Seal ((waterL 0 L H).length ≤ L.length + 1) := ⟨water_len⟩
      have HWf : Seal (∀ r ∈ waterL 0 L H, r.1 + r.2 ≤ 65536) := ⟨fun r hr => by have := water_fits HAp.out.rise r hr; omega⟩
      obtain ⟨ll, hll⟩ : ∃ ll, L.length = ll := ⟨_, rfl⟩
      have HLL : Seal (L.length = ll) := ⟨hll⟩
      rw [hll] at HLr hLl HWl ⊢
      clear hll ho5 k5
      have HWa5 : Seal _ := ⟨HWa.out w5 _ rs K5.out HN5.out HRO.out (by rw [HRL.out]; omega)⟩
      rw [hL] at HWa5
      obtain ⟨B, hB⟩ : ∃ B, waterL 0 L H = B := ⟨_, rfl⟩
      rw [hB] at HWa5 HWl HWf HIn
      have HBe : Seal _ := ⟨hB⟩
      clear hL hB
      go_wp2_with fail
      refine HWa5.out.mono ?_
      rintro e w6 ⟨ba, bc, rfl, ho6, k6⟩
      have HBr : Seal (RowR w6 (.slice ba B.length bc) B) := ⟨RowR.of_owns ho6⟩
      obtain ⟨bl, hbl⟩ : ∃ bl, B.length = bl := ⟨_, rfl⟩
      have HBL : Seal (B.length = bl) := ⟨hbl⟩
      have hBl := HWl.out
      rw [hbl] at HBr hBl ⊢
      have HLr6 : Seal _ := ⟨HLr.out.keepN k6⟩
      have HN6 : Seal _ := ⟨HN5.out.keepN k6⟩
      have K6 : Seal (Keep Nope w3 w6) := ⟨K5.out.then' k6⟩
      have u1 : IntKind.i64.wrap ((rl : Int) - 1) = (rl : Int) - 1 := by rw [IntKind.wrap_i64]; omega
      clear ho6 k6 hbl HWl HWa5 HWa HLr HN5 HN4
      go_wp2_with fail
      go_loopw [17, 18] (fun v17 v18 wr => ∃ j : Nat, j ≤ rl ∧ v18 = .int .i64 ((j : Int) - 1) ∧ wr.ownsRow w6.heap.size 3 1 v17 (turnL rs j).length (natVs (turnL rs j)) ∧ Keep Nope w6 wr) (fun _ v18 _ => (intOf v18 + 1).toNat)
      case atStart => exact ⟨rl, Nat.le_refl _, rfl, by rw [← HRL.out, turnL_end]; exact World.ownsRow_nil _ _ _ _, Keep.refl _ _⟩
      case round =>
        obtain ⟨j, hj, rfl, ho, hk⟩ := hrel
        have HO : Seal _ := ⟨ho⟩
        have HK : Seal _ := ⟨hk⟩
        clear ho hk u1
        rcases j with _ | k
        · rw [show (((0 : Nat) : Int) - 1) = -1 by omega]
          obtain ⟨ta, tc, rfl⟩ := owns_slice HO.out
          have HTn : Seal _ := ⟨NatsIn.of_owns HO.out⟩
          have htl : (turnL rs 0).length = 2 * rl := by rw [turnL_len, HRL.out]; omega
          have HTo : Seal (∀ g ∈ turnL rs 0, ObjG cs g) := ⟨fun g hg => HRO.out g (mem_turnL.1 hg)⟩
          have K7 : Seal (Keep Nope w3 wr) := ⟨K6.out.then' HK.out⟩
          have HC : Seal _ := ⟨HOf.out wr _ _ K7.out HTn.out HTo.out (by omega)⟩
          rw [HTu.out] at HC
          clear htl HOf
          go_wp2_with fail
          refine HC.out.mono ?_
          rintro e w7 ⟨ca, cc, rfl, ho7, k7⟩
          rw [HLL.out] at ho7 ⊢
          have HCr : Seal (RowR w7 (.slice ca ll cc) L) := ⟨by
            have := ho7
            rw [← HLL.out] at this ⊢
            exact RowR.of_owns this⟩
          have K67 : Keep Nope w6 w7 := HK.out.then' k7
          have HLr7 : Seal _ := ⟨HLr6.out.keepN K67⟩
          have HBr7 : Seal _ := ⟨HBr.out.keepN K67⟩
          have HN7 : Seal _ := ⟨HN6.out.keepN K67⟩
          have K7' : Seal (Keep Nope w3 w7) := ⟨K7.out.then' k7⟩
          clear ho7 k7 K67 HC HTn HTo HTu HO HLr6 HBr HN6 HK
          have HSm : Seal _ := ⟨SameRuns_yes L (.slice la ll lc) (.slice ca ll cc) w7 HLr7.out HCr.out (by rw [HLL.out]; omega)⟩
          go_wp2_with fail
          refine HSm.out.mono ?_
          rintro e w8 ⟨rfl, k8⟩
          have HLr8 : Seal _ := ⟨HLr7.out.keepN k8⟩
          have HBr8 : Seal _ := ⟨HBr7.out.keepN k8⟩
          have HN8 : Seal _ := ⟨HN7.out.keepN k8⟩
          have K8 : Seal (Keep Nope w3 w8) := ⟨K7'.out.then' k8⟩
          clear k8 HSm HLr7 HBr7 HN7 K7 HCr
          have HLe : Seal (landOf L = false → L = [] ∨ ∃ r M, L = r :: M ∧ ¬ r.1 = 0) := ⟨fun h => by
            match L, h with
            | [], _ => exact .inl rfl
            | r :: M, h => exact .inr ⟨r, M, rfl, of_decide_eq_false h⟩⟩
          go_upto_region 18 with fail
          go_cut [24] from 113 to 122 (fun c wx => c = .bool (landOf L) ∧ wx = w8)
          case first =>
            clear HGr HCl HIn HAlive HLf HWf
            match L, HLL, HLr8 with
            | [], HLL, HLr8 =>
              have h0 : ll = 0 := HLL.out.symm
              subst h0
              go_wp2_with fail
              go_meet
              exact ⟨rfl, rfl⟩
            | r :: M, HLL, HLr8 =>
              obtain ⟨za, zc, hv, hzx⟩ := HLr8.out
              injection hv with q1 q2 q3
              subst q1
              obtain ⟨bb, o, rfl, hb0, x0, x1⟩ := hzx 0 r rfl
              rw [Nat.zero_mul, Nat.add_zero] at x0
              have hpos : (0 : Int) < (ll : Int) := by have := HLL.out; simp at this; omega
              have hd : ((r.1 : Int) == 0) = landOf (r :: M) := by
                unfold landOf
                by_cases h : r.1 = 0 <;> simp [h]
              clear hzx x1 q2 q3
              go_wp2_with fail
              go_meet
              exact ⟨rfl, rfl⟩
          case rest =>
            obtain ⟨rfl, rfl⟩ := hcut
            have HSt : Seal (AltR L B H 0 0 0 (landOf L)) := ⟨by rw [← HBe.out]; exact alt_start HAp.out⟩
            obtain ⟨land0, hland0⟩ : ∃ b, landOf L = b := ⟨_, rfl⟩
            rw [hland0] at HSt ⊢
            clear hland0 HLe
            go_wp2_with fail
            go_loopw [21, 22, 23, 24] (fun x21 x22 x23 x24 wr => ∃ (gg ii kk : Nat) (land : Bool), x21 = .int .i64 (gg : Nat) ∧ x22 = .int .i64 (ii : Nat) ∧ x23 = .int .i64 (kk : Nat) ∧ x24 = .bool land ∧ AltR L B H gg ii kk land ∧ ii ≤ ll ∧ kk ≤ bl ∧ Keep Nope wc wr) (fun x21 _ _ _ _ => H - (intOf x21).toNat)
            case atStart => exact ⟨0, 0, 0, land0, rfl, rfl, rfl, rfl, HSt.out, Nat.zero_le _, Nat.zero_le _, Keep.refl _ _⟩
            case round =>
              obtain ⟨gg, ii, kk, land, rfl, rfl, rfl, rfl, hA, hil, hkl, hk⟩ := hrel
              have HA : Seal _ := ⟨hA⟩
              have HK : Seal _ := ⟨hk⟩
              have HGn : Seal _ := ⟨HGr.out wr (K8.out.then' hk)⟩
              have hgH := hA.le
              clear hA hk
              by_cases hg : gg < H
              · have d0 : decide ((gg : Int) < (H : Int)) = true := decide_eq_true (by omega)
                cases land with
                | true =>
                  obtain ⟨r, hr, hr1, hr2, hN⟩ := HA.out.land hg
                  have hil' := (List.getElem?_eq_some_iff.1 hr).1
                  rw [HLL.out] at hil'
                  have hrf := hN.le
                  obtain ⟨za, zc, hv, hzx⟩ := HLr8.out
                  injection hv with q1 q2 q3
                  subst q1
                  obtain ⟨bb, o, rfl, hb0, y0, y1⟩ := hzx ii r hr
                  have x0 := HK.out.cell y0 (fun h => h)
                  have x1 := HK.out.cell y1 (fun h => h)
                  have hi1 : (ii : Int) < (ll : Int) := by omega
                  have d1 : decide ((ll : Int) ≤ (ii : Int)) = false := decide_eq_false (by omega)
                  have d2 : ((r.1 : Int) != (gg : Int)) = false := by rw [hr1]; simp
                  have d3 : decide ((r.2 : Int) < 1) = false := decide_eq_false (by omega)
                  have u3 : IntKind.i64.wrap ((gg : Int) + (r.2 : Int)) = ((gg + r.2 : Nat) : Int) := by rw [IntKind.wrap_i64]; omega
                  have u4 : IntKind.i64.wrap ((ii : Int) + 1) = ((ii + 1 : Nat) : Int) := by rw [IntKind.wrap_i64]; omega
                  have HN : Seal _ := ⟨hN⟩
                  clear hr hzx q2 q3 hb0 y0 y1 hN HA hr1
                  go_wp2_with fail
                  refine HGn.out.mono ?_
                  rintro e w9 ⟨rfl, rfl⟩
                  go_wp2_with fail
                  exact ⟨⟨gg + r.2, ii + 1, kk, false, rfl, rfl, rfl, rfl, HN.out, hil', hkl, HK.out⟩, by simp only [intOf]; omega⟩
                | false =>
                  obtain ⟨r, hr, hr1, hr2, hN⟩ := HA.out.sea hg
                  have hkl' := (List.getElem?_eq_some_iff.1 hr).1
                  rw [HBL.out] at hkl'
                  have hrf := hN.le
                  obtain ⟨za, zc, hv, hzx⟩ := HBr8.out
                  injection hv with q1 q2 q3
                  subst q1
                  obtain ⟨bb, o, rfl, hb0, y0, y1⟩ := hzx kk r hr
                  have x0 := HK.out.cell y0 (fun h => h)
                  have x1 := HK.out.cell y1 (fun h => h)
                  have hi1 : (kk : Int) < (bl : Int) := by omega
                  have d1 : decide ((bl : Int) ≤ (kk : Int)) = false := decide_eq_false (by omega)
                  have d2 : ((r.1 : Int) != (gg : Int)) = false := by rw [hr1]; simp
                  have d3 : decide ((r.2 : Int) < 1) = false := decide_eq_false (by omega)
                  have u3 : IntKind.i64.wrap ((gg : Int) + (r.2 : Int)) = ((gg + r.2 : Nat) : Int) := by rw [IntKind.wrap_i64]; omega
                  have u4 : IntKind.i64.wrap ((kk : Int) + 1) = ((kk + 1 : Nat) : Int) := by rw [IntKind.wrap_i64]; omega
                  have HN : Seal _ := ⟨hN⟩
                  clear hr hzx q2 q3 hb0 y0 y1 hN HA hr1
                  go_wp2_with fail
                  refine HGn.out.mono ?_
                  rintro e w9 ⟨rfl, rfl⟩
                  go_wp2_with fail
                  exact ⟨⟨gg + r.2, ii, kk + 1, true, rfl, rfl, rfl, rfl, HN.out, hil, hkl', HK.out⟩, by simp only [intOf]; omega⟩
              · have d0 : decide ((gg : Int) < (H : Int)) = false := decide_eq_false (by omega)
                obtain ⟨rfl, e1, e2⟩ := HA.out.fin hg
                have hii := drop_nil e1 (by rw [HLL.out]; exact hil)
                have hkk := drop_nil e2 (by rw [HBL.out]; exact hkl)
                rw [HLL.out] at hii
                rw [HBL.out] at hkk
                obtain rfl := hii.symm
                obtain rfl := hkk.symm
                have HLr9 : Seal _ := ⟨HLr8.out.keepN HK.out⟩
                have HBr9 : Seal _ := ⟨HBr8.out.keepN HK.out⟩
                have HN9 : Seal _ := ⟨HN8.out.keepN HK.out⟩
                have K9 : Seal (Keep Nope w3 wr) := ⟨K8.out.then' HK.out⟩
                have HCe : Seal _ := ⟨HCl.out wr K9.out⟩
                clear e1 e2 HA HLr8 HBr8 HN8 HSt HK HCl hg hgH
                go_wp2_with fail
                refine HGn.out.mono ?_
                rintro e w9 ⟨rfl, rfl⟩
                clear HGn d0
                go_wp2_with fail
                refine HCe.out.mono ?_
                rintro e wa ⟨cv, rfl, hco, ka⟩
                have HCr : Seal _ := ⟨RowC.of_owns hco⟩
                obtain ⟨cl, hcl⟩ : ∃ cl, cs.length = cl := ⟨_, rfl⟩
                have hcl2 : cl ≤ gg := by rw [← hcl]; have := tiles_len HTl.out; omega
                have HCL : Seal (cs.length = cl) := ⟨hcl⟩
                obtain ⟨cva, cvc, rfl⟩ : ∃ a c, cv = .slice a cl c := by
                  obtain ⟨a, c, h, -⟩ := HCr.out
                  exact ⟨a, c, by rw [h, hcl]⟩
                have HLra : Seal _ := ⟨HLr9.out.keepN ka⟩
                have HBra : Seal _ := ⟨HBr9.out.keepN ka⟩
                have HNa : Seal _ := ⟨HN9.out.keepN ka⟩
                have Ka : Seal (Keep Nope w3 wa) := ⟨K9.out.then' ka⟩
                clear hco hcl ka HLr9 HBr9 HN9 HCe
                have HAtL : Seal (∀ W' (p : Nat), Keep Nope wa W' → p ≤ 65536 → Calls Tryz.prog 14 #[.slice la ll lc, .int .i64 (p : Nat)] W' fun e w' => (∃ i : Nat, e = .returned (.tuple #[.int .i64 (i : Nat), .bool (cov L p)])) ∧ Keep Nope W' w') := ⟨fun W' p kk hp => IsleAt_at L _ p W' (HLra.out.keepN kk) (by rw [HLL.out]; omega) HLf.out hp⟩
                have HAtB : Seal (∀ W' (p : Nat), Keep Nope wa W' → p ≤ 65536 → Calls Tryz.prog 14 #[.slice ba bl bc, .int .i64 (p : Nat)] W' fun e w' => (∃ i : Nat, e = .returned (.tuple #[.int .i64 (i : Nat), .bool (cov B p)])) ∧ Keep Nope W' w') := ⟨fun W' p kk hp => IsleAt_at B _ p W' (HBra.out.keepN kk) (by rw [HBL.out]; omega) HWf.out hp⟩
                clear HLra HBra
                go_wp2_with fail
                go_loopw [26] (fun x26 wr => ∃ j : Nat, j ≤ cl ∧ x26 = .int .i64 (j : Nat) ∧ Keep Nope wa wr) (fun x26 _ => cl - (intOf x26).toNat)
                case atStart => exact ⟨0, Nat.zero_le _, rfl, Keep.refl _ _⟩
                case round =>
                  obtain ⟨j, hj, rfl, hk⟩ := hrel
                  have HK : Seal _ := ⟨hk⟩
                  clear hk
                  by_cases hjl : j < cl
                  · have hjl' : (j : Int) < (cl : Int) := by omega
                    obtain ⟨c, hc⟩ : ∃ c, cs[j]? = some c := ⟨_, List.getElem?_eq_getElem (by rw [HCL.out]; exact hjl)⟩
                    have hcm := List.mem_of_getElem? hc
                    have HCi : Seal _ := ⟨HIn.out c hcm⟩
                    have hcf := HTl.out.mem hcm
                    obtain ⟨ya, yc, hv, hcx⟩ := HCr.out
                    injection hv with q1 q2 q3
                    subst q1
                    obtain ⟨cb, rfl, hb0, y0, -, -, -, y4⟩ := hcx j c hc
                    have HY0 : Seal _ := ⟨y0⟩
                    have HY4 : Seal _ := ⟨y4⟩
                    clear hc hcm hcx q2 q3 hb0 y0 y4
                    go_wp2_with fail
                    go_loopw [27, 28] (fun x27 x28 wr => ∃ m : Nat, m ≤ rl ∧ x28 = .int .i64 (m : Nat) ∧ x27 = .bool (inL (rs.take m) c.g) ∧ Keep Nope wa wr) (fun _ x28 _ => rl - (intOf x28).toNat)
                    case atStart => exact ⟨0, Nat.zero_le _, rfl, rfl, HK.out⟩
                    case round =>
                      obtain ⟨m, hm, rfl, rfl, hk⟩ := hrel
                      have HKm : Seal _ := ⟨hk⟩
                      clear hk
                      by_cases hml : m < rl
                      · have hml' : (m : Int) < (rl : Int) := by omega
                        obtain ⟨r, hr⟩ : ∃ r, rs[m]? = some r := ⟨_, List.getElem?_eq_getElem (by rw [HRL.out]; exact hml)⟩
                        obtain ⟨va, vc, hv, hnx⟩ := HNa.out
                        injection hv with q1 q2 q3
                        subst q1
                        obtain ⟨bb, o, rfl, y0⟩ := hnx m r hr
                        have x0 := HKm.out.cell y0 (fun h => h)
                        have x1 := HKm.out.cell HY0.out (fun h => h)
                        have HT : Seal _ := ⟨inL_take (g := c.g) hr⟩
                        obtain ⟨t, ht⟩ : ∃ t, inL (rs.take m) c.g = t := ⟨_, rfl⟩
                        rw [ht] at HT ⊢
                        clear hr hnx q2 q3 y0 ht
                        cases t with
                        | true =>
                          rw [Bool.true_or] at HT
                          go_wp2_with fail
                          go_quiet (fail)
                          go_wp2_with fail
                          exact ⟨⟨m + 1, by omega, by go_num, by rw [HT.out], HKm.out.then' (Keep.of_drewN _)⟩, by simp only [intOf]; omega⟩
                        | false =>
                          rw [Bool.false_or] at HT
                          obtain ⟨qb, hq⟩ : ∃ qb, (r == c.g) = qb := ⟨_, rfl⟩
                          have q1 : ((r : Int) == (c.g : Int)) = qb := by
                            rw [← hq, Bool.eq_iff_iff, beq_iff_eq, beq_iff_eq]
                            omega
                          rw [hq] at HT
                          clear hq
                          go_wp2_with fail
                          go_quiet (fail)
                          go_wp2_with fail
                          exact ⟨⟨m + 1, by omega, by go_num, by rw [HT.out], HKm.out.then' (Keep.of_drewN _)⟩, by simp only [intOf]; omega⟩
                      · obtain rfl : m = rl := by omega
                        have hw : rs.take m = rs := List.take_of_length_le (by rw [HRL.out]; exact Nat.le_refl _)
                        rw [hw]
                        obtain ⟨t, ht⟩ : ∃ t, inL rs c.g = t := ⟨_, rfl⟩
                        rw [ht] at HCi ⊢
                        have x0 := HKm.out.cell HY0.out (fun h => h)
                        clear hw ht
                        go_wp2_with fail
                        go_loopw [29] (fun x29 wr => ∃ p : Nat, c.g ≤ p ∧ p ≤ c.fin ∧ x29 = .int .i64 (p : Nat) ∧ Keep Nope wa wr) (fun x29 _ => c.fin - (intOf x29).toNat)
                        case atStart => exact ⟨c.g, Nat.le_refl _, by unfold Cel.fin; omega, rfl, HKm.out⟩
                        case round =>
                          obtain ⟨p, hp1, hp2, rfl, hk⟩ := hrel
                          have HKp : Seal _ := ⟨hk⟩
                          have z0 := hk.cell HY0.out (fun h => h)
                          have z4 := hk.cell HY4.out (fun h => h)
                          have hfin : c.fin = c.g + c.sz := rfl
                          have u5 : IntKind.i64.wrap ((c.g : Int) + (c.sz : Int)) = (c.g : Int) + (c.sz : Int) := by rw [IntKind.wrap_i64]; omega
                          have HJ : Seal (p < c.fin → cov L p = t ∧ cov B p = !t) := ⟨fun h => HCi.out p hp1 h⟩
                          clear hk
                          by_cases hpf : p < c.fin
                          · have d5 : decide ((p : Int) < (c.g : Int) + (c.sz : Int)) = true := decide_eq_true (by omega)
                            obtain ⟨e1, e2⟩ := HJ.out hpf
                            have HQ1 : Seal (∀ W', Keep Nope wr W' → _) := ⟨fun W' kk => HAtL.out W' p (HKp.out.then' kk) (by omega)⟩
                            have HQ2 : Seal (∀ W', Keep Nope wr W' → _) := ⟨fun W' kk => HAtB.out W' p (HKp.out.then' kk) (by omega)⟩
                            rw [e1] at HQ1
                            rw [e2] at HQ2
                            clear e1 e2 HJ
                            go_wp2_with fail
                            go_quiet (fail)
                            go_wp2_with fail
                            refine (HQ1.out _ (Keep.of_drewN _)).mono ?_
                            rintro e w7 ⟨⟨i7, rfl⟩, k7⟩
                            have HK7 : Seal (Keep Nope wr w7) := ⟨(Keep.of_drewN _).then' k7⟩
                            clear k7
                            go_wp2_with fail
                            refine (HQ2.out _ HK7.out).mono ?_
                            rintro e w8 ⟨⟨i8, rfl⟩, k8⟩
                            have HK8 : Seal (Keep Nope wr w8) := ⟨HK7.out.then' k8⟩
                            clear k8
                            cases t
                            all_goals
                              go_wp2_with fail
                              exact ⟨⟨p + 1, by omega, by omega, by go_num, HKp.out.then' HK8.out⟩, by simp only [intOf]; omega⟩
                          · have d5 : decide ((p : Int) < (c.g : Int) + (c.sz : Int)) = false := decide_eq_false (by omega)
                            go_wp2_with fail
                            go_quiet (fail)
                            go_wp2_with fail
                            exact ⟨⟨j + 1, by omega, by go_num, HKp.out.then' (Keep.of_drewN _)⟩, by simp only [intOf]; omega⟩
                  · obtain rfl : j = cl := by omega
                    have HGe : Seal _ := ⟨HGr.out wr (Ka.out.then' HK.out)⟩
                    have HAe : Seal _ := ⟨HAlive.out wr (HK3.out.then' (Ka.out.then' HK.out))⟩
                    go_wp2_with fail
                    refine HGe.out.mono ?_
                    rintro e w7 ⟨rfl, rfl⟩
                    go_wp2_with fail
                    refine HAe.out.mono ?_
                    rintro e w8 ⟨rfl, k8⟩
                    go_wp2
                    go_ret
                    exact ⟨rfl, (HK3.out.then' (Ka.out.then' HK.out)).then' k8⟩
        · rw [show (((k + 1 : Nat) : Int) - 1) = ((k : Nat) : Int) by omega]
          obtain ⟨x, hx⟩ : ∃ x, rs[k]? = some x := ⟨_, List.getElem?_eq_getElem (by rw [HRL.out]; omega)⟩
          obtain ⟨va, vc, hv, hnx⟩ := HN6.out
          injection hv with q1 q2 q3
          subst q1
          obtain ⟨bb, o, rfl, y0⟩ := hnx k x hx
          have c0 := HK.out.cell y0 (fun h => h)
          have HT : Seal _ := ⟨turnL_step hx⟩
          have htl : (turnL rs (k + 1)).length = 2 * (rl - (k + 1)) := by rw [turnL_len, HRL.out]
          obtain ⟨Q, hQ⟩ : ∃ Q, turnL rs (k + 1) = Q := ⟨_, rfl⟩
          rw [hQ] at HT HO htl
          obtain ⟨ql, hql⟩ : ∃ ql, Q.length = ql := ⟨_, rfl⟩
          rw [hql] at HO htl
          have HQl : Seal _ := ⟨hql⟩
          have HY0 : Seal _ := ⟨y0⟩
          have hq80 : ql ≤ 80 := by omega
          obtain ⟨qa, qc, rfl⟩ := owns_slice HO.out
          have hkl : (k : Int) < (rl : Int) := by omega
          have hs6 := HK.out.size
          clear hx hnx y0 hQ hql q2 q3 htl
          go_wp2_with fail
          refine wp_region_held_drew (S := fun w' => w'.cell? ⟨bb, o + k, none⟩ = some (.int .i64 (x : Nat))) (by kernel_rfl) ?_ (fun hHeld => ?_)
          · (try dsimp only); (exact c0)
          refine tko 0 ?_; refine tko 1 ?_; refine tko 2 ?_; refine tko 3 ?_; refine tko 4 ?_; refine tko 5 ?_; refine tko 6 ?_; refine tko 7 ?_; refine tko 8 ?_
          try simp only [Act.put, List.setIfInBounds_toArray, List.set_cons_zero, List.set_cons_succ]
          refine wpAnyH_ready (rs := [9]) (by kernel_rfl) (by simp) ?_
          refine ready_held rfl (fun K hK => ?_)
          go_simp
          refine hK _ _ ?_ (fun hHeld => ?_)
          · (try dsimp only); (exact ((Keep.refl Nope wr).alloc _).drew.cell c0 (fun h => h))
          clear hK K
          try simp only [Act.put, List.setIfInBounds_toArray, List.set_cons_zero, List.set_cons_succ]
          obtain ⟨w7, hw7⟩ : ∃ w7, w7 = (wr.alloc (.cells #[.int .i64 (x : Nat), .int .i64 (x : Nat)] 3)).drew := ⟨_, rfl⟩
          have k7 : Keep Nope wr w7 := by rw [hw7]; exact ((Keep.refl _ wr).alloc _).drew
          have bn : w7.heap[wr.heap.size]? = some (.cells #[.int .i64 (x : Nat), .int .i64 (x : Nat)] 3 (0, 0)) := by rw [hw7]; exact World.alloc_heap_new wr _
          rw [← hw7]
          clear hw7
          have o7 := ownsRow_keep HO.out k7 (fun _ _ h => h)
          have z7 := k7.size
          obtain ⟨i0, hi, hz0, hz1, hz2⟩ := info_parts Tryz.infoInt
          refine wpAnyH_ready (rs := [10]) (by kernel_rfl) (by simp) ?_
          refine ready_held rfl (fun K hK => ?_)
          refine step_append_row rfl rfl (.tmp 80) (.tmp 89) 31 rfl w6.heap.size 3 i0 (.int .i64 0) 1 8 Tryz.underlyingInts hi hz0 hz1 hz2 rfl (by omega) (.slice qa ql qc) ql (natVs Q) rfl o7 ⟨wr.heap.size, 0, none⟩ 2 _ [.int .i64 (x : Nat), .int .i64 (x : Nat)] rfl rfl (World.news_of_block bn) (by intro u hu; simp at hu; subst hu; rfl) (by unfold maxLen; omega) (by omega) (by omega) ?_
          intro nv w8 hown8 hgrow hblk
          obtain ⟨na, nc, rfl⟩ := owns_slice hown8
          clear hi hz0 hz1 hz2
          have k8 : Keep Nope w6 w8 := (HK.out.then' k7).grown hgrow (fun k e hk => by have := (ownsRow_block o7 e).1; omega)
          have c8 : w8.cell? ⟨bb, o + k, none⟩ = some (.int .i64 (x : Nat)) := k8.cell HY0.out (fun h => h)
          refine hK _ _ ?_ (fun hHeld => ?_)
          · (try dsimp only); (exact c8)
          clear hK K
          try simp only [Act.put, List.setIfInBounds_toArray, List.set_cons_zero, List.set_cons_succ]
          refine tko 11 ?_
          try simp only [Act.put, List.setIfInBounds_toArray, List.set_cons_zero, List.set_cons_succ]
          refine wpAnyH_done (by kernel_rfl) ?_ _
          have u2 : IntKind.i64.wrap ((k : Int) - 1) = (k : Int) - 1 := by rw [IntKind.wrap_i64]; omega
          have HO8 : Seal _ := ⟨hown8⟩
          have HK8 : Seal _ := ⟨k8⟩
          clear hown8 hgrow hblk k8 c8 bn o7 k7 c0 hHeld
          go_wp2_with fail
          refine ⟨⟨k, by omega, rfl, ?_, HK8.out⟩, by simp only [intOf]; omega⟩
          rw [HT.out, natVs, List.map_append, List.length_append, HQl.out]
          exact HO8.out

end Go.Proofs.YtgccjhnafhlndaaGreatDoor
