/-
 The law IsleTurns, walked.
-/
import Derived.Test.YtgccjhnafhlndaaGreatDoorIsleAlive
import Derived.Test.YtgccjhnafhlndaaGreatDoorIsleO
import Derived.Test.YtgccjhnafhlndaaGreatDoorIsleR
import Derived.Test.YtgccjhnafhlndaaGreatDoorMarkC
import Derived.Test.YtgccjhnafhlndaaGreatDoorArgsA
import Derived.Deep.DeepCutAuto
import Derived.Deep.CutBlock
namespace Go.Proofs.YtgccjhnafhlndaaGreatDoor
open Go.RowKit
set_option linter.unusedVariables false

set_option maxRecDepth 20000 in
set_option maxHeartbeats 8000000 in
theorem isleturns_walk (n : Int) (v1 v2 v3 : Value) (xs : List TypR) (len : Nat) (d g i nn y : Nat -> Int) (u : Nat -> Value) (m : Nat -> Nat) (ns : Nat) (ys : Nat -> Nat) (w : World) (hF : Aj w) (h1 : AL w v1 xs) (h2 : Dy w v2 len d g i nn y u m)
  (hl : xs.length <= 17592186044416) (hM : BV xs) (hl2 : len <= 17592186044416) (hy : ∀ j, j < len -> 0 <= y j /\ y j <= 18446744073709551615) (hA : AtsAt w len u m) (hb3 : BytesIn w v3 ns ys) :
  Calls Tryz.prog 3 #[.int .i64 n, v1, v2, v3] w λ e w' => e = .returned (.bool true) /\ Keep Aa w w' := by
 have HF := sE hF
 have HAlive : Seal (∀ W', Keep Aa w W' -> Calls Tryz.prog 6 #[] W' λ e w' => e = .returned (.bool true) /\ Keep Aa W' w') := ⟨λ W' kk => alive21 W' (hF.Ac kk)⟩
 have HH := sE (Heavy9_any n v1 v2 xs len d g i nn y u m w h1 h2 hl hl2)
 have HPl : Seal (len <= 60 -> (∀ j, j < len -> m j <= 300) -> Calls Tryz.prog 7 #[.int .i64 n, v1, v2] w (Cr n xs v1 w)) := ⟨λ q1 q2 => Played_any n v1 v2 xs len d g i nn y u m w hF h1 hl hM h2 q1 hy hA q2⟩
 have hv1 : ∃ a l c, v1 = .slice a l c := by obtain ⟨a, c, h, -⟩ := h1; exact ⟨_, _, _, h⟩
 have hv2 : ∃ a l c, v2 = .slice a l c := by obtain ⟨a, c, h, -⟩ := h2; exact ⟨_, _, _, h⟩
 obtain ⟨a1, l1, c1, rfl⟩ := hv1
 obtain ⟨a2, l2, c2, rfl⟩ := hv2
 have HB3 := sE hb3
 obtain ⟨a3, c3, rfl, -⟩ := hb3
 clear hF h1 h2 hM hy hA hl hl2
 by_cases hs3 : ns <= 40
 case neg =>
  have p5 : decide ((40 : Int) < (ns : Int)) = true := decide_eq_true (by omega)
  clear hs3
  go_enter Tryz.func3, Tryz.ntmps3
  go_wp2_with fail
  refine HH.out.mono ?_
  rintro e w2 ⟨t, rfl, rfl, ht⟩
  clear ht
  cases t
  all_goals
   go_wp2_with fail
   refine (HAlive.out _ (Keep.refl _ _)).mono ?_
   rintro e w3 ⟨rfl, k3⟩
   go_wp2
   go_ret
   exact ⟨rfl, k3⟩
 case pos =>
 have p5 : decide ((40 : Int) < (ns : Int)) = false := decide_eq_false (by omega)
 go_enter Tryz.func3, Tryz.ntmps3
 go_wp2_with fail
 refine HH.out.mono ?_
 rintro e w2 ⟨t, rfl, rfl, ht⟩
 cases t with
 | true =>
  clear ht
  go_wp2_with fail
  refine (HAlive.out _ (Keep.refl _ _)).mono ?_
  rintro e w3 ⟨rfl, k3⟩
  go_wp2
  go_ret
  exact ⟨rfl, k3⟩
 | false =>
  obtain ⟨-, -, q1, q2⟩ := ht rfl
  have HPp := sE (HPl.out q1 q2)
  clear q1 q2 ht HPl
  go_wp2_with fail
  refine HPp.out.mono ?_
  rintro e w3 (⟨rfl, k3⟩ | ⟨P, rb, q, W, cs, rfl, hBt, hPn, hPs, h16⟩)
  ·have HK3 := sE k3
   clear k3
   go_wp2_with fail
   refine (HAlive.out _ HK3.out).mono ?_
   rintro e w4 ⟨rfl, k4⟩
   go_wp2
   go_ret
   exact ⟨rfl, HK3.out.then' k4⟩
  ·obtain ⟨f, hsp, hcs, hst⟩ := hBt.sp
   have HK3 : Seal (Keep Aa _ w3) := ⟨hBt.kb.new'⟩
   have hcn : cs ≠ [] := λ e => by
    have := hcs.tl
    rw [e] at this
    have h0 : 0 = P.n / 2 := this
    omega
   have hsm := hsp.ar.small
   have HRt : Seal (∀ W' v n ys, Keep Aa w3 W' -> n <= 65536 -> BytesIn W' v n ys -> Calls Tryz.prog 8 #[.pointer (some ⟨P.s, 0, none⟩), v] W' λ e w' => ∃ a c, e = .returned (.slice a (AJ (Av cs) ys n).length c) /\ w'.ownsRow W'.heap.size 3 1 (.slice a (AJ (Av cs) ys n).length c) (AJ (Av cs) ys n).length (AR (AJ (Av cs) ys n)) /\ Keep Aa W' w') := ⟨λ W' v n ys kk hn hv => Roots20_at P cs W' ⟨W, f, hsp.Ac kk, hcs, hst⟩ hcn v n ys hn hv⟩
   have HTl := sE hcs.tl
   have HCl : Seal (∀ W', Keep Aa w3 W' -> Calls Tryz.prog 13 #[.pointer (some ⟨P.s, 0, none⟩)] W' λ e w' => ∃ v, e = .returned v /\ w'.ownsRow W'.heap.size 46 5 v cs.length (BC cs) /\ Keep Aa W' w') := ⟨λ W' kk => Cells_at P cs W' ⟨W, f, hsp.Ac kk, hcs, hst⟩⟩
   have HOf : Seal (∀ W' v rs, Keep Aa w3 W' -> Bh W' v rs -> (∀ g ∈ rs, DN cs g) -> rs.length <= 65536 -> Calls Tryz.prog 9 #[.pointer (some ⟨P.s, 0, none⟩), v] W' (Dc W'.heap.size (Ar cs (Ce rs)) W')) := ⟨λ W' v rs kk hx ho hl => IsleOf_at P W f cs W' rs v (hsp.Ac kk) hcs hst hx ho hl⟩
   obtain ⟨H, hH⟩ : ∃ H, P.n / 2 = H := ⟨_, rfl⟩
   have HWa : Seal (∀ W' v rs, Keep Aa w3 W' -> Bh W' v rs -> (∀ g ∈ rs, DN cs g) -> rs.length <= 65536 -> Calls Tryz.prog 10 #[.pointer (some ⟨P.s, 0, none⟩), v] W' (Dc W'.heap.size (AV 0 (Ar cs (Ce rs)) H) W')) := ⟨λ W' v rs kk hx ho hl => by
    rw [<- hH]
    exact IsleWater_at P W f cs W' rs v (hsp.Ac kk) hcs hst hx ho hl⟩
   have HGr : Seal (∀ W', Keep Aa w3 W' -> Calls Tryz.prog 12 #[.pointer (some ⟨P.s, 0, none⟩)] W' λ e w'' => e = .returned (.int .i64 (H : Nat)) /\ w'' = W') := ⟨λ W' kk => by
    rw [<- hH]
    exact DV P W f W' (hsp.Ac kk)⟩
   rw [hH] at HTl
   have hH2 : H <= 32768 := by omega
   clear hsp hcs hst hcn hBt hPn hPs h16 hH HPp HH hsm
   go_wp2_with fail
   refine (HRt.out w3 _ ns ys (Keep.refl _ _) (by omega) (HB3.out.Ac HK3.out)).mono ?_
   rintro e w4 ⟨ra, rc, rfl, hrow, k4⟩
   have HRow := sE hrow
   have K4 : Seal (Keep Aa w3 w4) := ⟨k4⟩
   have hRo : ∀ g ∈ AJ (Av cs) ys ns, DN cs g := roots_obj
   have hRl : (AJ (Av cs) ys ns).length <= 40 := by have := rootsOf_len (Av cs) ys ns; omega
   obtain ⟨rs, hrs⟩ : ∃ rs, AJ (Av cs) ys ns = rs := ⟨_, rfl⟩
   rw [hrs] at HRow hRo hRl ⊢
   obtain ⟨rl, hrl⟩ : ∃ rl, rs.length = rl := ⟨_, rfl⟩
   have HN4 : Seal (Bh w4 (.slice ra rl rc) rs) := ⟨by rw [<- hrl]; exact Bh.AO HRow.out⟩
   have HRL : Seal (rs.length = rl) := ⟨hrl⟩
   have HRO : Seal (∀ g ∈ rs, DN cs g) := ⟨hRo⟩
   rw [hrl] at hRl ⊢
   clear hrow k4 HRow hRo hrl hrs HRt
   go_wp2_with fail
   refine (HOf.out w4 _ rs K4.out HN4.out HRO.out (by rw [HRL.out]; omega)).mono ?_
   rintro e w5 ⟨la, lc, rfl, ho5, k5⟩
   have K5 : Seal (Keep Aa w3 w5) := ⟨K4.out.then' k5⟩
   have HN5 := sE (HN4.out.Ac k5)
   have HAp : Seal (Ed (Ar cs (Ce rs)) H) := ⟨Bp HTl.out⟩
   have HIn : Seal (∀ c ∈ cs, ∀ g, c.g <= g -> g < c.fin -> Ch (Ar cs (Ce rs)) g = Ce rs c.g /\ Ch (AV 0 (Ar cs (Ce rs)) H) g = !Ce rs c.g) := ⟨λ c hc g q1 q2 => by
    have e1 := cov_in HTl.out HRO.out hc q1 q2
    have := (HTl.out.mem hc)
    exact ⟨e1, by rw [water_not HTl.out (by unfold Cel.fin at q2; omega), e1]⟩⟩
   have HTu : Seal (Ar cs (Ce (Dk rs 0)) = Ar cs (Ce rs)) := ⟨isles_congr λ g => mem_turnL⟩
   have HLr : Seal (BK w5 (.slice la (Ar cs (Ce rs)).length lc) (Ar cs (Ce rs))) := ⟨BK.AO ho5⟩
   obtain ⟨L, hL⟩ : ∃ L, Ar cs (Ce rs) = L := ⟨_, rfl⟩
   rw [hL] at HLr HAp HIn HTu ⊢
   have hLl := HAp.out.rise.len
   have HLf : Seal (∀ r ∈ L, r.1 + r.2 <= 65536) := ⟨λ r hr => by have := HAp.out.rise.fits r hr; omega⟩
   have HWl : Seal ((AV 0 L H).length <= L.length + 1) := ⟨water_len⟩
   have HWf : Seal (∀ r ∈ AV 0 L H, r.1 + r.2 <= 65536) := ⟨λ r hr => by have := water_fits HAp.out.rise r hr; omega⟩
   obtain ⟨ll, hll⟩ : ∃ ll, L.length = ll := ⟨_, rfl⟩
   have HLL : Seal (L.length = ll) := ⟨hll⟩
   rw [hll] at HLr hLl HWl ⊢
   clear hll ho5 k5
   have HWa5 := sE (HWa.out w5 _ rs K5.out HN5.out HRO.out (by rw [HRL.out]; omega))
   rw [hL] at HWa5
   obtain ⟨B, hB⟩ : ∃ B, AV 0 L H = B := ⟨_, rfl⟩
   rw [hB] at HWa5 HWl HWf HIn
   have HBe := sE hB
   clear hL hB
   go_wp2_with fail
   refine HWa5.out.mono ?_
   rintro e w6 ⟨ba, bc, rfl, ho6, k6⟩
   have HBr : Seal (BK w6 (.slice ba B.length bc) B) := ⟨BK.AO ho6⟩
   obtain ⟨bl, hbl⟩ : ∃ bl, B.length = bl := ⟨_, rfl⟩
   have HBL : Seal (B.length = bl) := ⟨hbl⟩
   have hBl := HWl.out
   rw [hbl] at HBr hBl ⊢
   have HLr6 := sE (HLr.out.Ac k6)
   have HN6 := sE (HN5.out.Ac k6)
   have K6 : Seal (Keep Aa w3 w6) := ⟨K5.out.then' k6⟩
   have u1 : IntKind.i64.wrap ((rl : Int) - 1) = (rl : Int) - 1 := by rw [IntKind.wrap_i64]; omega
   clear ho6 k6 hbl HWl HWa5 HWa HLr HN5 HN4
   go_wp2_with fail
   go_loopw [17, 18] (λ v17 v18 wr => ∃ j : Nat, j <= rl /\ v18 = .int .i64 ((j : Int) - 1) /\ wr.ownsRow w6.heap.size 3 1 v17 (Dk rs j).length (AR (Dk rs j)) /\ Keep Aa w6 wr) (λ _ v18 _ => (intOf v18 + 1).toNat)
   case atStart => exact ⟨rl, Nat.le_refl _, rfl, by rw [<- HRL.out, turnL_end]; exact World.ownsRow_nil _ _ _ _, Keep.refl _ _⟩
   case round =>
    obtain ⟨j, hj, rfl, ho, hk⟩ := hrel
    have HO := sE ho
    have HK := sE hk
    clear ho hk u1
    rcases j with _ | k
    ·rw [show (((0 : Nat) : Int) - 1) = -1 by omega]
     obtain ⟨ta, tc, rfl⟩ := Bd HO.out
     have HTn := sE (Bh.AO HO.out)
     have htl : (Dk rs 0).length = 2 * rl := by rw [turnL_len, HRL.out]; omega
     have HTo : Seal (∀ g ∈ Dk rs 0, DN cs g) := ⟨λ g hg => HRO.out g (mem_turnL.1 hg)⟩
     have K7 : Seal (Keep Aa w3 wr) := ⟨K6.out.then' HK.out⟩
     have HC := sE (HOf.out wr _ _ K7.out HTn.out HTo.out (by omega))
     rw [HTu.out] at HC
     clear htl HOf
     go_wp2_with fail
     refine HC.out.mono ?_
     rintro e w7 ⟨ca, cc, rfl, ho7, k7⟩
     rw [HLL.out] at ho7 ⊢
     have HCr : Seal (BK w7 (.slice ca ll cc) L) := ⟨by
      have := ho7
      rw [<- HLL.out] at this ⊢
      exact BK.AO this⟩
     have K67 : Keep Aa w6 w7 := HK.out.then' k7
     have HLr7 := sE (HLr6.out.Ac K67)
     have HBr7 := sE (HBr.out.Ac K67)
     have HN7 := sE (HN6.out.Ac K67)
     have K7' : Seal (Keep Aa w3 w7) := ⟨K7.out.then' k7⟩
     clear ho7 k7 K67 HC HTn HTo HTu HO HLr6 HBr HN6 HK
     have HSm := sE (Dl L (.slice la ll lc) (.slice ca ll cc) w7 HLr7.out HCr.out (by rw [HLL.out]; omega))
     go_wp2_with fail
     refine HSm.out.mono ?_
     rintro e w8 ⟨rfl, k8⟩
     have HLr8 := sE (HLr7.out.Ac k8)
     have HBr8 := sE (HBr7.out.Ac k8)
     have HN8 := sE (HN7.out.Ac k8)
     have K8 : Seal (Keep Aa w3 w8) := ⟨K7'.out.then' k8⟩
     clear k8 HSm HLr7 HBr7 HN7 K7 HCr
     have HLe : Seal (landOf L = false -> L = [] \/ ∃ r M, L = r :: M /\ ¬ r.1 = 0) := ⟨λ h => by
      match L, h with
      | [], _ => exact .inl rfl
      | r :: M, h => exact .inr ⟨r, M, rfl, of_decide_eq_false h⟩⟩
     go_upto_region 18 with fail
     go_cut [24] from 113 to 122 (λ c wx => c = .bool (landOf L) /\ wx = w8)
     case first =>
      clear HGr HCl HIn HAlive HLf HWf
      match L, HLL, HLr8 with
      | [], HLL, HLr8 =>
       have h0 : ll = 0 := HLL.out.symm
       subst h0
       go_wp2_with fail
       go_meet
       exact ⟨rfl, rfl⟩
      | r :: M, HLL, HLr8 =>
       obtain ⟨za, zc, hv, hzx⟩ := HLr8.out
       injection hv with q1 q2 q3
       subst q1
       obtain ⟨bb, o, rfl, hb0, x0, x1⟩ := hzx 0 r rfl
       rw [Nat.zero_mul, Nat.add_zero] at x0
       have hpos : (0 : Int) < (ll : Int) := by have := HLL.out; simp at this; omega
       have hd : ((r.1 : Int) == 0) = landOf (r :: M) := by
        unfold landOf
        by_cases h : r.1 = 0 <;> simp [h]
       clear hzx x1 q2 q3
       go_wp2_with fail
       go_meet
       exact ⟨rfl, rfl⟩
     case rest =>
      obtain ⟨rfl, rfl⟩ := hcut
      have HSt : Seal (AltR L B H 0 0 0 (landOf L)) := ⟨by rw [<- HBe.out]; exact alt_start HAp.out⟩
      obtain ⟨land0, hland0⟩ : ∃ b, landOf L = b := ⟨_, rfl⟩
      rw [hland0] at HSt ⊢
      clear hland0 HLe
      go_wp2_with fail
      go_loopw [21, 22, 23, 24] (λ x21 x22 x23 x24 wr => ∃ (gg ii kk : Nat) (land : Bool), x21 = .int .i64 (gg : Nat) /\ x22 = .int .i64 (ii : Nat) /\ x23 = .int .i64 (kk : Nat) /\ x24 = .bool land /\ AltR L B H gg ii kk land /\ ii <= ll /\ kk <= bl /\ Keep Aa wc wr) (λ x21 _ _ _ _ => H - (intOf x21).toNat)
      case atStart => exact ⟨0, 0, 0, land0, rfl, rfl, rfl, rfl, HSt.out, Nat.zero_le _, Nat.zero_le _, Keep.refl _ _⟩
      case round =>
       obtain ⟨gg, ii, kk, land, rfl, rfl, rfl, rfl, hA, hil, hkl, hk⟩ := hrel
       have HA := sE hA
       have HK := sE hk
       have HGn := sE (HGr.out wr (K8.out.then' hk))
       have hgH := hA.le
       clear hA hk
       by_cases hg : gg < H
       ·have d0 : decide ((gg : Int) < (H : Int)) = true := decide_eq_true (by omega)
        cases land with
        | true =>
         obtain ⟨r, hr, hr1, hr2, hN⟩ := HA.out.land hg
         have hil' := (List.getElem?_eq_some_iff.1 hr).1
         rw [HLL.out] at hil'
         have hrf := hN.le
         obtain ⟨za, zc, hv, hzx⟩ := HLr8.out
         injection hv with q1 q2 q3
         subst q1
         obtain ⟨bb, o, rfl, hb0, y0, y1⟩ := hzx ii r hr
         have x0 := HK.out.cell y0 (λ h => h)
         have x1 := HK.out.cell y1 (λ h => h)
         have hi1 : (ii : Int) < (ll : Int) := by omega
         have d1 : decide ((ll : Int) <= (ii : Int)) = false := decide_eq_false (by omega)
         have d2 : ((r.1 : Int) != (gg : Int)) = false := by rw [hr1]; simp
         have d3 : decide ((r.2 : Int) < 1) = false := decide_eq_false (by omega)
         have u3 : IntKind.i64.wrap ((gg : Int) + (r.2 : Int)) = ((gg + r.2 : Nat) : Int) := by rw [IntKind.wrap_i64]; omega
         have u4 : IntKind.i64.wrap ((ii : Int) + 1) = ((ii + 1 : Nat) : Int) := by rw [IntKind.wrap_i64]; omega
         have HN := sE hN
         clear hr hzx q2 q3 hb0 y0 y1 hN HA hr1
         go_wp2_with fail
         refine HGn.out.mono ?_
         rintro e w9 ⟨rfl, rfl⟩
         go_wp2_with fail
         exact ⟨⟨gg + r.2, ii + 1, kk, false, rfl, rfl, rfl, rfl, HN.out, hil', hkl, HK.out⟩, by simp only [intOf]; omega⟩
        | false =>
         obtain ⟨r, hr, hr1, hr2, hN⟩ := HA.out.sea hg
         have hkl' := (List.getElem?_eq_some_iff.1 hr).1
         rw [HBL.out] at hkl'
         have hrf := hN.le
         obtain ⟨za, zc, hv, hzx⟩ := HBr8.out
         injection hv with q1 q2 q3
         subst q1
         obtain ⟨bb, o, rfl, hb0, y0, y1⟩ := hzx kk r hr
         have x0 := HK.out.cell y0 (λ h => h)
         have x1 := HK.out.cell y1 (λ h => h)
         have hi1 : (kk : Int) < (bl : Int) := by omega
         have d1 : decide ((bl : Int) <= (kk : Int)) = false := decide_eq_false (by omega)
         have d2 : ((r.1 : Int) != (gg : Int)) = false := by rw [hr1]; simp
         have d3 : decide ((r.2 : Int) < 1) = false := decide_eq_false (by omega)
         have u3 : IntKind.i64.wrap ((gg : Int) + (r.2 : Int)) = ((gg + r.2 : Nat) : Int) := by rw [IntKind.wrap_i64]; omega
         have u4 : IntKind.i64.wrap ((kk : Int) + 1) = ((kk + 1 : Nat) : Int) := by rw [IntKind.wrap_i64]; omega
         have HN := sE hN
         clear hr hzx q2 q3 hb0 y0 y1 hN HA hr1
         go_wp2_with fail
         refine HGn.out.mono ?_
         rintro e w9 ⟨rfl, rfl⟩
         go_wp2_with fail
         exact ⟨⟨gg + r.2, ii, kk + 1, true, rfl, rfl, rfl, rfl, HN.out, hil, hkl', HK.out⟩, by simp only [intOf]; omega⟩
       ·have d0 : decide ((gg : Int) < (H : Int)) = false := decide_eq_false (by omega)
        obtain ⟨rfl, e1, e2⟩ := HA.out.fin hg
        have hii := drop_nil e1 (by rw [HLL.out]; exact hil)
        have hkk := drop_nil e2 (by rw [HBL.out]; exact hkl)
        rw [HLL.out] at hii
        rw [HBL.out] at hkk
        obtain rfl := hii.symm
        obtain rfl := hkk.symm
        have HLr9 := sE (HLr8.out.Ac HK.out)
        have HBr9 := sE (HBr8.out.Ac HK.out)
        have HN9 := sE (HN8.out.Ac HK.out)
        have K9 : Seal (Keep Aa w3 wr) := ⟨K8.out.then' HK.out⟩
        have HCe := sE (HCl.out wr K9.out)
        clear e1 e2 HA HLr8 HBr8 HN8 HSt HK HCl hg hgH
        go_wp2_with fail
        refine HGn.out.mono ?_
        rintro e w9 ⟨rfl, rfl⟩
        clear HGn d0
        go_wp2_with fail
        refine HCe.out.mono ?_
        rintro e wa ⟨cv, rfl, hco, ka⟩
        have HCr := sE (RowC.AO hco)
        obtain ⟨cl, hcl⟩ : ∃ cl, cs.length = cl := ⟨_, rfl⟩
        have hcl2 : cl <= gg := by rw [<- hcl]; have := BI HTl.out; omega
        have HCL : Seal (cs.length = cl) := ⟨hcl⟩
        obtain ⟨cva, cvc, rfl⟩ : ∃ a c, cv = .slice a cl c := by
         obtain ⟨a, c, h, -⟩ := HCr.out
         exact ⟨a, c, by rw [h, hcl]⟩
        have HLra := sE (HLr9.out.Ac ka)
        have HBra := sE (HBr9.out.Ac ka)
        have HNa := sE (HN9.out.Ac ka)
        have Ka : Seal (Keep Aa w3 wa) := ⟨K9.out.then' ka⟩
        clear hco hcl ka HLr9 HBr9 HN9 HCe
        have HAtL : Seal (∀ W' (p : Nat), Keep Aa wa W' -> p <= 65536 -> Calls Tryz.prog 14 #[.slice la ll lc, .int .i64 (p : Nat)] W' λ e w' => (∃ i : Nat, e = .returned (.tuple #[.int .i64 (i : Nat), .bool (Ch L p)])) /\ Keep Aa W' w') := ⟨λ W' p kk hp => IsleAt_at L _ p W' (HLra.out.Ac kk) (by rw [HLL.out]; omega) HLf.out hp⟩
        have HAtB : Seal (∀ W' (p : Nat), Keep Aa wa W' -> p <= 65536 -> Calls Tryz.prog 14 #[.slice ba bl bc, .int .i64 (p : Nat)] W' λ e w' => (∃ i : Nat, e = .returned (.tuple #[.int .i64 (i : Nat), .bool (Ch B p)])) /\ Keep Aa W' w') := ⟨λ W' p kk hp => IsleAt_at B _ p W' (HBra.out.Ac kk) (by rw [HBL.out]; omega) HWf.out hp⟩
        clear HLra HBra
        go_wp2_with fail
        go_loopw [26] (λ x26 wr => ∃ j : Nat, j <= cl /\ x26 = .int .i64 (j : Nat) /\ Keep Aa wa wr) (λ x26 _ => cl - (intOf x26).toNat)
        case atStart => exact ⟨0, Nat.zero_le _, rfl, Keep.refl _ _⟩
        case round =>
         obtain ⟨j, hj, rfl, hk⟩ := hrel
         have HK := sE hk
         clear hk
         by_cases hjl : j < cl
         ·have hjl' : (j : Int) < (cl : Int) := by omega
          obtain ⟨c, hc⟩ : ∃ c, cs[j]? = some c := ⟨_, List.getElem?_eq_getElem (by rw [HCL.out]; exact hjl)⟩
          have hcm := List.mem_of_getElem? hc
          have HCi := sE (HIn.out c hcm)
          have hcf := HTl.out.mem hcm
          obtain ⟨ya, yc, hv, hcx⟩ := HCr.out
          injection hv with q1 q2 q3
          subst q1
          obtain ⟨cb, rfl, hb0, y0, -, -, -, y4⟩ := hcx j c hc
          have HY0 := sE y0
          have HY4 := sE y4
          clear hc hcm hcx q2 q3 hb0 y0 y4
          go_wp2_with fail
          go_loopw [27, 28] (λ x27 x28 wr => ∃ m : Nat, m <= rl /\ x28 = .int .i64 (m : Nat) /\ x27 = .bool (Ce (rs.take m) c.g) /\ Keep Aa wa wr) (λ _ x28 _ => rl - (intOf x28).toNat)
          case atStart => exact ⟨0, Nat.zero_le _, rfl, rfl, HK.out⟩
          case round =>
           obtain ⟨m, hm, rfl, rfl, hk⟩ := hrel
           have HKm := sE hk
           clear hk
           by_cases hml : m < rl
           ·have hml' : (m : Int) < (rl : Int) := by omega
            obtain ⟨r, hr⟩ : ∃ r, rs[m]? = some r := ⟨_, List.getElem?_eq_getElem (by rw [HRL.out]; exact hml)⟩
            obtain ⟨va, vc, hv, hnx⟩ := HNa.out
            injection hv with q1 q2 q3
            subst q1
            obtain ⟨bb, o, rfl, y0⟩ := hnx m r hr
            have x0 := HKm.out.cell y0 (λ h => h)
            have x1 := HKm.out.cell HY0.out (λ h => h)
            have HT := sE (inL_take (g := c.g) hr)
            obtain ⟨t, ht⟩ : ∃ t, Ce (rs.take m) c.g = t := ⟨_, rfl⟩
            rw [ht] at HT ⊢
            clear hr hnx q2 q3 y0 ht
            cases t with
            | true =>
             rw [Bool.true_or] at HT
             go_wp2_with fail
             go_quiet (fail)
             go_wp2_with fail
             exact ⟨⟨m + 1, by omega, by go_num, by rw [HT.out], HKm.out.then' (Keep.Ae _)⟩, by simp only [intOf]; omega⟩
            | false =>
             rw [Bool.false_or] at HT
             obtain ⟨qb, hq⟩ : ∃ qb, (r == c.g) = qb := ⟨_, rfl⟩
             have q1 : ((r : Int) == (c.g : Int)) = qb := by
              rw [<- hq, Bool.eq_iff_iff, beq_iff_eq, beq_iff_eq]
              omega
             rw [hq] at HT
             clear hq
             go_wp2_with fail
             go_quiet (fail)
             go_wp2_with fail
             exact ⟨⟨m + 1, by omega, by go_num, by rw [HT.out], HKm.out.then' (Keep.Ae _)⟩, by simp only [intOf]; omega⟩
           ·obtain rfl : m = rl := by omega
            have hw : rs.take m = rs := List.take_of_length_le (by rw [HRL.out]; exact Nat.le_refl _)
            rw [hw]
            obtain ⟨t, ht⟩ : ∃ t, Ce rs c.g = t := ⟨_, rfl⟩
            rw [ht] at HCi ⊢
            have x0 := HKm.out.cell HY0.out (λ h => h)
            clear hw ht
            go_wp2_with fail
            go_loopw [29] (λ x29 wr => ∃ p : Nat, c.g <= p /\ p <= c.fin /\ x29 = .int .i64 (p : Nat) /\ Keep Aa wa wr) (λ x29 _ => c.fin - (intOf x29).toNat)
            case atStart => exact ⟨c.g, Nat.le_refl _, by unfold Cel.fin; omega, rfl, HKm.out⟩
            case round =>
             obtain ⟨p, hp1, hp2, rfl, hk⟩ := hrel
             have HKp := sE hk
             have z0 := hk.cell HY0.out (λ h => h)
             have z4 := hk.cell HY4.out (λ h => h)
             have hfin : c.fin = c.g + c.sz := rfl
             have u5 : IntKind.i64.wrap ((c.g : Int) + (c.sz : Int)) = (c.g : Int) + (c.sz : Int) := by rw [IntKind.wrap_i64]; omega
             have HJ : Seal (p < c.fin -> Ch L p = t /\ Ch B p = !t) := ⟨λ h => HCi.out p hp1 h⟩
             clear hk
             by_cases hpf : p < c.fin
             ·have d5 : decide ((p : Int) < (c.g : Int) + (c.sz : Int)) = true := decide_eq_true (by omega)
              obtain ⟨e1, e2⟩ := HJ.out hpf
              have HQ1 : Seal (∀ W', Keep Aa wr W' -> _) := ⟨λ W' kk => HAtL.out W' p (HKp.out.then' kk) (by omega)⟩
              have HQ2 : Seal (∀ W', Keep Aa wr W' -> _) := ⟨λ W' kk => HAtB.out W' p (HKp.out.then' kk) (by omega)⟩
              rw [e1] at HQ1
              rw [e2] at HQ2
              clear e1 e2 HJ
              go_wp2_with fail
              go_quiet (fail)
              go_wp2_with fail
              refine (HQ1.out _ (Keep.Ae _)).mono ?_
              rintro e w7 ⟨⟨i7, rfl⟩, k7⟩
              have HK7 : Seal (Keep Aa wr w7) := ⟨(Keep.Ae _).then' k7⟩
              clear k7
              go_wp2_with fail
              refine (HQ2.out _ HK7.out).mono ?_
              rintro e w8 ⟨⟨i8, rfl⟩, k8⟩
              have HK8 : Seal (Keep Aa wr w8) := ⟨HK7.out.then' k8⟩
              clear k8
              cases t
              all_goals
               go_wp2_with fail
               exact ⟨⟨p + 1, by omega, by omega, by go_num, HKp.out.then' HK8.out⟩, by simp only [intOf]; omega⟩
             ·have d5 : decide ((p : Int) < (c.g : Int) + (c.sz : Int)) = false := decide_eq_false (by omega)
              go_wp2_with fail
              go_quiet (fail)
              go_wp2_with fail
              exact ⟨⟨j + 1, by omega, by go_num, HKp.out.then' (Keep.Ae _)⟩, by simp only [intOf]; omega⟩
         ·obtain rfl : j = cl := by omega
          have HGe := sE (HGr.out wr (Ka.out.then' HK.out))
          have HAe := sE (HAlive.out wr (HK3.out.then' (Ka.out.then' HK.out)))
          go_wp2_with fail
          refine HGe.out.mono ?_
          rintro e w7 ⟨rfl, rfl⟩
          go_wp2_with fail
          refine HAe.out.mono ?_
          rintro e w8 ⟨rfl, k8⟩
          go_wp2
          go_ret
          exact ⟨rfl, (HK3.out.then' (Ka.out.then' HK.out)).then' k8⟩
    ·rw [show (((k + 1 : Nat) : Int) - 1) = ((k : Nat) : Int) by omega]
     obtain ⟨x, hx⟩ : ∃ x, rs[k]? = some x := ⟨_, List.getElem?_eq_getElem (by rw [HRL.out]; omega)⟩
     obtain ⟨va, vc, hv, hnx⟩ := HN6.out
     injection hv with q1 q2 q3
     subst q1
     obtain ⟨bb, o, rfl, y0⟩ := hnx k x hx
     have c0 := HK.out.cell y0 (λ h => h)
     have HT := sE (turnL_step hx)
     have htl : (Dk rs (k + 1)).length = 2 * (rl - (k + 1)) := by rw [turnL_len, HRL.out]
     obtain ⟨Q, hQ⟩ : ∃ Q, Dk rs (k + 1) = Q := ⟨_, rfl⟩
     rw [hQ] at HT HO htl
     obtain ⟨ql, hql⟩ : ∃ ql, Q.length = ql := ⟨_, rfl⟩
     rw [hql] at HO htl
     have HQl := sE hql
     have HY0 := sE y0
     have hq80 : ql <= 80 := by omega
     obtain ⟨qa, qc, rfl⟩ := Bd HO.out
     have hkl : (k : Int) < (rl : Int) := by omega
     have hs6 := HK.out.size
     clear hx hnx y0 hQ hql q2 q3 htl
     go_wp2_with fail
     refine wp_region_held_drew (S := λ w' => w'.cell? ⟨bb, o + k, none⟩ = some (.int .i64 (x : Nat))) (by kernel_rfl) ?_ (λ hHeld => ?_)
     ·(try dsimp only); (exact c0)
     refine Aw 0 ?_; refine Aw 1 ?_; refine Aw 2 ?_; refine Aw 3 ?_; refine Aw 4 ?_; refine Aw 5 ?_; refine Aw 6 ?_; refine Aw 7 ?_; refine Aw 8 ?_
     try simp only [AA]
     refine Bq [9] ?_
     refine Ag rfl (λ K hK => ?_)
     go_simp
     refine hK _ _ ?_ (λ hHeld => ?_)
     ·(try dsimp only); (exact ((Keep.refl Aa wr).alloc _).drew.cell c0 (λ h => h))
     clear hK K
     try simp only [AA]
     obtain ⟨w7, hw7⟩ : ∃ w7, w7 = (wr.alloc (.cells #[.int .i64 (x : Nat), .int .i64 (x : Nat)] 3)).drew := ⟨_, rfl⟩
     have k7 : Keep Aa wr w7 := by rw [hw7]; exact ((Keep.refl _ wr).alloc _).drew
     have bn : w7.heap[wr.heap.size]? = some (.cells #[.int .i64 (x : Nat), .int .i64 (x : Nat)] 3 (0, 0)) := by rw [hw7]; exact World.alloc_heap_new wr _
     rw [<- hw7]
     clear hw7
     have o7 := Az HO.out k7 (λ _ _ h => h)
     have z7 := k7.size
     obtain ⟨i0, hi, hz0, hz1, hz2⟩ := info_parts Tryz.C8
     refine Bq [10] ?_
     refine Ag rfl (λ K hK => ?_)
     refine step_append_row rfl rfl (.tmp 80) (.tmp 89) 31 rfl w6.heap.size 3 i0 (.int .i64 0) 1 8 Tryz.A9 hi hz0 hz1 hz2 rfl (by omega) (.slice qa ql qc) ql (AR Q) rfl o7 ⟨wr.heap.size, 0, none⟩ 2 _ [.int .i64 (x : Nat), .int .i64 (x : Nat)] rfl rfl (World.news_of_block bn) (by intro u hu; simp at hu; subst hu; rfl) (by unfold maxLen; omega) (by omega) (by omega) ?_
     intro nv w8 hown8 hgrow hblk
     obtain ⟨na, nc, rfl⟩ := Bd hown8
     clear hi hz0 hz1 hz2
     have k8 : Keep Aa w6 w8 := (HK.out.then' k7).grown hgrow (λ k e hk => by have := (Al o7 e).1; omega)
     have c8 : w8.cell? ⟨bb, o + k, none⟩ = some (.int .i64 (x : Nat)) := k8.cell HY0.out (λ h => h)
     refine hK _ _ ?_ (λ hHeld => ?_)
     ·(try dsimp only); (exact c8)
     clear hK K
     try simp only [AA]
     refine Aw 11 ?_
     try simp only [AA]
     refine wpAnyH_done (by kernel_rfl) ?_ _
     have u2 : IntKind.i64.wrap ((k : Int) - 1) = (k : Int) - 1 := by rw [IntKind.wrap_i64]; omega
     have HO8 := sE hown8
     have HK8 := sE k8
     clear hown8 hgrow hblk k8 c8 bn o7 k7 c0 hHeld
     go_wp2_with fail
     refine ⟨⟨k, by omega, rfl, ?_, HK8.out⟩, by simp only [intOf]; omega⟩
     rw [HT.out, AR, List.map_append, List.length_append, HQl.out]
     exact HO8.out

end Go.Proofs.YtgccjhnafhlndaaGreatDoor
