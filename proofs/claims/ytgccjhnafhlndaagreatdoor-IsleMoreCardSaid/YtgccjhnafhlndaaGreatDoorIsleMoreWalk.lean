/-
 The law IsleMore, walked.
-/
import Derived.Test.YtgccjhnafhlndaaGreatDoorIsleAlive
import Derived.Test.YtgccjhnafhlndaaGreatDoorIsleO
import Derived.Test.YtgccjhnafhlndaaGreatDoorIsleR
import Derived.Test.YtgccjhnafhlndaaGreatDoorMarkC
import Derived.Test.YtgccjhnafhlndaaGreatDoorArgsA
namespace Go.Proofs.YtgccjhnafhlndaaGreatDoor
open Go.RowKit
set_option linter.unusedVariables false

set_option maxRecDepth 20000 in
set_option maxHeartbeats 8000000 in
theorem islemore_walk (n : Int) (v1 v2 v3 : Value) (xs : List TypR) (len : Nat) (d g i nn y : Nat -> Int) (u : Nat -> Value) (m : Nat -> Nat) (ns : Nat) (ys : Nat -> Nat) (one : Nat) (w : World) (hF : Aj w) (h1 : AL w v1 xs) (h2 : Dy w v2 len d g i nn y u m)
  (hl : xs.length <= 17592186044416) (hM : BV xs) (hl2 : len <= 17592186044416) (hy : ∀ j, j < len -> 0 <= y j /\ y j <= 18446744073709551615) (hA : AtsAt w len u m) (hb3 : BytesIn w v3 ns ys) (ho1 : one < 256) :
  Calls Tryz.prog 4 #[.int .i64 n, v1, v2, v3, .int .u8 (one : Nat)] w λ e w' => e = .returned (.bool true) /\ Keep Aa w w' := by
 have HF := sE hF
 have HAlive : Seal (∀ W', Keep Aa w W' -> Calls Tryz.prog 6 #[] W' λ e w' => e = .returned (.bool true) /\ Keep Aa W' w') := ⟨λ W' kk => alive21 W' (hF.Ac kk)⟩
 have HH := sE (Heavy9_any n v1 v2 xs len d g i nn y u m w h1 h2 hl hl2)
 have HPl : Seal (len <= 60 -> (∀ j, j < len -> m j <= 300) -> Calls Tryz.prog 7 #[.int .i64 n, v1, v2] w (Cr n xs v1 w)) := ⟨λ q1 q2 => Played_any n v1 v2 xs len d g i nn y u m w hF h1 hl hM h2 q1 hy hA q2⟩
 have hv1 : ∃ a l c, v1 = .slice a l c := by obtain ⟨a, c, h, -⟩ := h1; exact ⟨_, _, _, h⟩
 have hv2 : ∃ a l c, v2 = .slice a l c := by obtain ⟨a, c, h, -⟩ := h2; exact ⟨_, _, _, h⟩
 obtain ⟨a1, l1, c1, rfl⟩ := hv1
 obtain ⟨a2, l2, c2, rfl⟩ := hv2
 have HB3 := sE hb3
 obtain ⟨a3, c3, rfl, -⟩ := hb3
 clear hF h1 h2 hM hy hA hl hl2
 by_cases hs3 : ns <= 40
 case neg =>
  have p5 : decide ((40 : Int) < (ns : Int)) = true := decide_eq_true (by omega)
  clear hs3
  go_enter Tryz.func4, Tryz.ntmps4
  go_wp2_with fail
  refine HH.out.mono ?_
  rintro e w2 ⟨t, rfl, rfl, ht⟩
  clear ht
  cases t
  all_goals
   go_wp2_with fail
   refine (HAlive.out _ (Keep.refl _ _)).mono ?_
   rintro e w3 ⟨rfl, k3⟩
   go_wp2
   go_ret
   exact ⟨rfl, k3⟩
 case pos =>
 have p5 : decide ((40 : Int) < (ns : Int)) = false := decide_eq_false (by omega)
 go_enter Tryz.func4, Tryz.ntmps4
 go_wp2_with fail
 refine HH.out.mono ?_
 rintro e w2 ⟨t, rfl, rfl, ht⟩
 cases t with
 | true =>
  clear ht
  go_wp2_with fail
  refine (HAlive.out _ (Keep.refl _ _)).mono ?_
  rintro e w3 ⟨rfl, k3⟩
  go_wp2
  go_ret
  exact ⟨rfl, k3⟩
 | false =>
  obtain ⟨-, -, q1, q2⟩ := ht rfl
  have HPp := sE (HPl.out q1 q2)
  clear q1 q2 ht HPl
  go_wp2_with fail
  refine HPp.out.mono ?_
  rintro e w3 (⟨rfl, k3⟩ | ⟨P, rb, q, W, cs, rfl, hBt, hPn, hPs, h16⟩)
  ·have HK3 := sE k3
   clear k3
   go_wp2_with fail
   refine (HAlive.out _ HK3.out).mono ?_
   rintro e w4 ⟨rfl, k4⟩
   go_wp2
   go_ret
   exact ⟨rfl, HK3.out.then' k4⟩
  ·obtain ⟨f, hsp, hcs, hst⟩ := hBt.sp
   have HK3 : Seal (Keep Aa _ w3) := ⟨hBt.kb.new'⟩
   have hcn : cs ≠ [] := λ e => by
    have := hcs.tl
    rw [e] at this
    have h0 : 0 = P.n / 2 := this
    omega
   have hsm := hsp.ar.small
   have HRt : Seal (∀ W' v n ys, Keep Aa w3 W' -> n <= 65536 -> BytesIn W' v n ys -> Calls Tryz.prog 8 #[.pointer (some ⟨P.s, 0, none⟩), v] W' λ e w' => ∃ a c, e = .returned (.slice a (AJ (Av cs) ys n).length c) /\ w'.ownsRow W'.heap.size 3 1 (.slice a (AJ (Av cs) ys n).length c) (AJ (Av cs) ys n).length (AR (AJ (Av cs) ys n)) /\ Keep Aa W' w') := ⟨λ W' v n ys kk hn hv => Roots20_at P cs W' ⟨W, f, hsp.Ac kk, hcs, hst⟩ hcn v n ys hn hv⟩
   have HTl := sE hcs.tl
   have HCl : Seal (∀ W', Keep Aa w3 W' -> Calls Tryz.prog 15 #[.pointer (some ⟨rb, 0, none⟩)] W' λ e w' => ∃ v, e = .returned v /\ w'.ownsRow W'.heap.size 46 5 v cs.length (BC cs) /\ Keep Aa W' w') := ⟨λ W' kk => DAll_at P W cs rb q _ W' (hBt.dc.Ac kk) hcs (hBt.tyAt.Ac kk) hBt.few' hBt.ms⟩
   have HTg : Seal (∀ c ∈ cs, c.tag = 1 \/ c.tag = 2 \/ c.tag = 3) := ⟨λ c hc => tag_of (hcs.ok c hc)⟩
   have HOf : Seal (∀ W' v rs, Keep Aa w3 W' -> Bh W' v rs -> (∀ g ∈ rs, DN cs g) -> rs.length <= 65536 -> Calls Tryz.prog 9 #[.pointer (some ⟨P.s, 0, none⟩), v] W' (Dc W'.heap.size (Ar cs (Ce rs)) W')) := ⟨λ W' v rs kk hx ho hl => IsleOf_at P W f cs W' rs v (hsp.Ac kk) hcs hst hx ho hl⟩
   obtain ⟨H, hH⟩ : ∃ H, P.n / 2 = H := ⟨_, rfl⟩
   have HWa : Seal (∀ W' v rs, Keep Aa w3 W' -> Bh W' v rs -> (∀ g ∈ rs, DN cs g) -> rs.length <= 65536 -> Calls Tryz.prog 10 #[.pointer (some ⟨P.s, 0, none⟩), v] W' (Dc W'.heap.size (AV 0 (Ar cs (Ce rs)) H) W')) := ⟨λ W' v rs kk hx ho hl => by
    rw [<- hH]
    exact IsleWater_at P W f cs W' rs v (hsp.Ac kk) hcs hst hx ho hl⟩
   have HGr : Seal (∀ W', Keep Aa w3 W' -> Calls Tryz.prog 12 #[.pointer (some ⟨P.s, 0, none⟩)] W' λ e w'' => e = .returned (.int .i64 (H : Nat)) /\ w'' = W') := ⟨λ W' kk => by
    rw [<- hH]
    exact DV P W f W' (hsp.Ac kk)⟩
   rw [hH] at HTl
   have hH2 : H <= 32768 := by omega
   clear hsp hcs hst hcn hBt hPn hPs h16 hH HPp HH hsm
   go_wp2_with fail
   refine (HRt.out w3 _ ns ys (Keep.refl _ _) (by omega) (HB3.out.Ac HK3.out)).mono ?_
   rintro e w4 ⟨ra, rc, rfl, hrow, k4⟩
   have HRow := sE hrow
   have K4 : Seal (Keep Aa w3 w4) := ⟨k4⟩
   have hRo : ∀ g ∈ AJ (Av cs) ys ns, DN cs g := roots_obj
   have hRl : (AJ (Av cs) ys ns).length <= 40 := by have := rootsOf_len (Av cs) ys ns; omega
   obtain ⟨rs, hrs⟩ : ∃ rs, AJ (Av cs) ys ns = rs := ⟨_, rfl⟩
   rw [hrs] at HRow hRo hRl ⊢
   obtain ⟨rl, hrl⟩ : ∃ rl, rs.length = rl := ⟨_, rfl⟩
   have HN4 : Seal (Bh w4 (.slice ra rl rc) rs) := ⟨by rw [<- hrl]; exact Bh.AO HRow.out⟩
   have HRL : Seal (rs.length = rl) := ⟨hrl⟩
   have HRO : Seal (∀ g ∈ rs, DN cs g) := ⟨hRo⟩
   rw [hrl] at hRl ⊢
   clear hrow k4 HRow hRo hrl hrs
   go_wp2_with fail
   refine (HOf.out w4 _ rs K4.out HN4.out HRO.out (by rw [HRL.out]; omega)).mono ?_
   rintro e w5 ⟨la, lc, rfl, ho5, k5⟩
   have K5 : Seal (Keep Aa w3 w5) := ⟨K4.out.then' k5⟩
   have HN5 := sE (HN4.out.Ac k5)
   have HAp : Seal (Ed (Ar cs (Ce rs)) H) := ⟨Bp HTl.out⟩
   have HMo : Seal (∀ rt : List Nat, rt.length <= 1 -> (Ar cs (Ce (rs ++ rt))).length <= (Ar cs (Ce rs)).length + 1 /\ ∀ g, g < H -> Ch (Ar cs (Ce rs)) g = true -> Ch (Ar cs (Ce (rs ++ rt))) g = true) := ⟨λ rt hrt => ⟨isles_one HTl.out hrt, λ g hg hc => cov_more HTl.out hg hc⟩⟩
   have HLr : Seal (BK w5 (.slice la (Ar cs (Ce rs)).length lc) (Ar cs (Ce rs))) := ⟨BK.AO ho5⟩
   obtain ⟨L, hL⟩ : ∃ L, Ar cs (Ce rs) = L := ⟨_, rfl⟩
   rw [hL] at HLr HAp HMo ⊢
   have hLl := HAp.out.rise.len
   have HLf : Seal (∀ r ∈ L, r.1 + r.2 <= 65536) := ⟨λ r hr => by have := HAp.out.rise.fits r hr; omega⟩
   obtain ⟨ll, hll⟩ : ∃ ll, L.length = ll := ⟨_, rfl⟩
   have HLL : Seal (L.length = ll) := ⟨hll⟩
   rw [hll] at HLr hLl HMo ⊢
   clear hll ho5 k5 hL HN4
   go_wp2_with (at_builtin; obtain ⟨i0, hi, hz0, hz1, hz2⟩ := info_parts Tryz.C8; go_loud (refine DL _ rfl (.const (.slice none 0 0)) (.tmp 67) 31 rfl 3 i0 Tryz.A9 hi hz0 hz1 hz2 w5.heap.size (.slice none 0 0) 0 [] rfl (World.ownsRow_nil _ _ _ _) (.slice ra rl rc) rs rfl HN5.out (by rw [HRL.out]; omega) (Nat.le_refl _) ?_); intro v9 w9 hown9 hgrow9; rw [Nat.zero_add, List.nil_append] at hown9; obtain ⟨a9, c9, rfl⟩ := Bd hown9; have HO9 := sE hown9; have HG9 := sE hgrow9; clear hi hz0 hz1 hz2 hown9 hgrow9)
   have K59 : Keep Aa w5 w9 := (Keep.refl Aa w5).grown HG9.out (λ k e _ => by cases e)
   have KS59 := sE K59
   have hone : BytesIn (w9.alloc (.cells #[.int .u8 (one : Nat)] 5)) (.slice (some ⟨w9.heap.size, 0, none⟩) 1 1) 1 (λ _ => one) := ⟨_, _, rfl, λ i hi => by
    have h0 : i = 0 := by omega
    subst h0
    exact ⟨w9.heap.size, 0, rfl, by simp only [World.cell?, World.alloc_heap_new w9 _]; rfl, ho1⟩⟩
   have HR1 := sE (HRt.out (w9.alloc (.cells #[.int .u8 (one : Nat)] 5)) _ 1 (λ _ => one) ((K5.out.then' K59).alloc _) (by omega) hone)
   have hRo : ∀ g ∈ AJ (Av cs) (λ _ => one) 1, DN cs g := roots_obj
   have hRl2 : (AJ (Av cs) (λ _ => one) 1).length <= 1 := rootsOf_len (Av cs) (λ _ => one) 1
   obtain ⟨rt, hrt⟩ : ∃ rt, AJ (Av cs) (λ _ => one) 1 = rt := ⟨_, rfl⟩
   rw [hrt] at HR1 hRo hRl2
   obtain ⟨rl2, hrl2⟩ : ∃ rl2, rt.length = rl2 := ⟨_, rfl⟩
   have HRL2 : Seal (rt.length = rl2) := ⟨hrl2⟩
   have HRO3 : Seal (∀ g ∈ rs ++ rt, DN cs g) := ⟨λ g hg => by
    rcases List.mem_append.1 hg with h | h
    ·exact HRO.out g h
    ·exact hRo g h⟩
   have HMo2 := sE (HMo.out rt hRl2)
   rw [hrl2] at hRl2
   clear hRo hrt K59 hone HRt HMo
   refine HR1.out.mono ?_
   rw [hrl2]
   rintro e w10 ⟨rb', rc', rfl, hrow, k10⟩
   have HN10 : Seal (Bh w10 (.slice rb' rl2 rc') rt) := ⟨by rw [<- hrl2] at hrow ⊢; exact Bh.AO hrow⟩
   have K8x : Seal (Keep Aa w5 w10) := ⟨(KS59.out.alloc _).then' k10⟩
   have HO10 := sE (Az (Az HO9.out ((Keep.refl Aa w9).alloc _) (λ _ _ h => h)) k10 (λ _ _ h => h))
   clear hrow hrl2 k10 HR1 HO9 HG9
   go_wp2_with (at_builtin; obtain ⟨i0, hi, hz0, hz1, hz2⟩ := info_parts Tryz.C8; go_loud (refine DL _ rfl (.tmp 68) (.tmp 72) 31 rfl 3 i0 Tryz.A9 hi hz0 hz1 hz2 w5.heap.size (.slice a9 rs.length c9) rs.length rs rfl HO10.out (.slice rb' rl2 rc') rt rfl HN10.out (by rw [HRL.out, HRL2.out]; omega) K8x.out.size ?_); intro v11 w11 hown11 hgrow11; obtain ⟨a11, c11, rfl⟩ := Bd hown11; have HO11 := sE hown11; have HG11 := sE hgrow11; clear hi hz0 hz1 hz2 hown11 hgrow11)
   have K511 : Keep Aa w5 w11 := K8x.out.grown HG11.out (λ k e hk => by have := (Al HO10.out e).1; omega)
   have K11 : Seal (Keep Aa w3 w11) := ⟨K5.out.then' K511⟩
   have HLr11 := sE (HLr.out.Ac K511)
   have HN11 : Seal (Bh w11 _ (rs ++ rt)) := ⟨Bh.AO HO11.out⟩
   have HLb : Seal (∀ r ∈ Ar cs (Ce (rs ++ rt)), r.1 + r.2 <= H) := ⟨(Bp HTl.out).rise.fits⟩
   have hlb := (Bp (p := Ce (rs ++ rt)) HTl.out).rise.len
   obtain ⟨hm1, hm2⟩ := HMo2.out
   have HB := sE (HOf.out w11 _ (rs ++ rt) K11.out HN11.out HRO3.out (by rw [List.length_append, HRL.out, HRL2.out]; omega))
   obtain ⟨M, hM⟩ : ∃ M, Ar cs (Ce (rs ++ rt)) = M := ⟨_, rfl⟩
   rw [hM] at HLb hlb hm1 hm2 HB
   have HM2 := sE hm2
   obtain ⟨ml, hml⟩ : ∃ ml, M.length = ml := ⟨_, rfl⟩
   have HML : Seal (M.length = ml) := ⟨hml⟩
   rw [hml] at hlb hm1
   clear K511 hm2 hM hml HMo2 HO11 HG11 HO10 K8x HN10 HRO3 HLr HN5 HOf HRO HN11
   refine HB.out.mono ?_
   rintro e w12 ⟨ma, mc, rfl, ho12, k12⟩
   rw [HML.out] at ho12 ⊢
   have HMr : Seal (BK w12 (.slice ma ml mc) M) := ⟨by
    have := ho12
    rw [<- HML.out] at this ⊢
    exact BK.AO this⟩
   have HLr12 := sE (HLr11.out.Ac k12)
   have K12 : Seal (Keep Aa w3 w12) := ⟨K11.out.then' k12⟩
   have e9 : decide ((ll : Int) + 1 < (ml : Int)) = false := decide_eq_false (by omega)
   have u9 : IntKind.i64.wrap ((ll : Int) + 1) = (ll : Int) + 1 := by rw [IntKind.wrap_i64]; omega
   clear ho12 k12 HB HLr11
   go_wp2_with fail
   go_loopw [19] (λ x19 wr => ∃ p : Nat, p <= H /\ x19 = .int .i64 (p : Nat) /\ Keep Aa w12 wr) (λ x19 _ => H - (intOf x19).toNat)
   case atStart => exact ⟨0, Nat.zero_le _, rfl, Keep.refl _ _⟩
   case round =>
    obtain ⟨p, hp, rfl, hk⟩ := hrel
    have HK := sE hk
    have HGn := sE (HGr.out wr (K12.out.then' hk))
    clear hk u9 e9
    by_cases hpH : p < H
    ·have d0 : decide ((p : Int) < (H : Int)) = true := decide_eq_true (by omega)
     have hcv := HM2.out p hpH
     have HQ1 : Seal (∀ W', Keep Aa w12 W' -> Calls Tryz.prog 14 #[.slice la ll lc, .int .i64 (p : Nat)] W' λ e w' => (∃ i : Nat, e = .returned (.tuple #[.int .i64 (i : Nat), .bool (Ch L p)])) /\ Keep Aa W' w') := ⟨λ W' kk => IsleAt_at L _ p W' (HLr12.out.Ac kk) (by rw [HLL.out]; omega) HLf.out (by omega)⟩
     have HQ2 : Seal (∀ W', Keep Aa w12 W' -> Calls Tryz.prog 14 #[.slice ma ml mc, .int .i64 (p : Nat)] W' λ e w' => (∃ i : Nat, e = .returned (.tuple #[.int .i64 (i : Nat), .bool (Ch M p)])) /\ Keep Aa W' w') := ⟨λ W' kk => IsleAt_at M _ p W' (HMr.out.Ac kk) (by rw [HML.out]; omega) (λ r hr => by have := HLb.out r hr; omega) (by omega)⟩
     obtain ⟨t1, ht1⟩ : ∃ t, Ch L p = t := ⟨_, rfl⟩
     obtain ⟨t2, ht2⟩ : ∃ t, Ch M p = t := ⟨_, rfl⟩
     rw [ht1] at HQ1 hcv
     rw [ht2] at HQ2 hcv
     have HCv := sE hcv
     clear ht1 ht2 hcv
     go_wp2_with fail
     refine HGn.out.mono ?_
     rintro e w13 ⟨rfl, rfl⟩
     clear HGn
     go_wp2_with fail
     refine (HQ1.out _ HK.out).mono ?_
     rintro e w14 ⟨⟨i1, rfl⟩, k14⟩
     have HK14 := sE (HK.out.then' k14)
     clear k14
     go_wp2_with fail
     refine (HQ2.out _ HK14.out).mono ?_
     rintro e w15 ⟨⟨i2, rfl⟩, k15⟩
     have HK15 := sE (HK14.out.then' k15)
     clear k15
     cases t1 with
     | false =>
      go_wp2_with fail
      exact ⟨⟨p + 1, by omega, by go_num, HK15.out⟩, by simp only [intOf]; omega⟩
     | true =>
      obtain rfl : t2 = true := HCv.out rfl
      go_wp2_with fail
      exact ⟨⟨p + 1, by omega, by go_num, HK15.out⟩, by simp only [intOf]; omega⟩
    ·have d0 : decide ((p : Int) < (H : Int)) = false := decide_eq_false (by omega)
     have K13 : Seal (Keep Aa w3 wr) := ⟨K12.out.then' HK.out⟩
     have HCe := sE (HCl.out wr K13.out)
     clear HCl HM2 HLr12 HMr HLf HLb HLL HML HAp
     go_wp2_with fail
     refine HGn.out.mono ?_
     rintro e w13 ⟨rfl, rfl⟩
     clear HGn
     go_wp2_with fail
     refine HCe.out.mono ?_
     rintro e wa ⟨cv, rfl, hco, ka⟩
     have HCr := sE (RowC.AO hco)
     obtain ⟨cl, hcl⟩ : ∃ cl, cs.length = cl := ⟨_, rfl⟩
     have hcl2 : cl <= H := by rw [<- hcl]; have := BI HTl.out; omega
     have HCL : Seal (cs.length = cl) := ⟨hcl⟩
     obtain ⟨cva, cvc, rfl⟩ : ∃ a c, cv = .slice a cl c := by
      obtain ⟨a, c, h, -⟩ := HCr.out
      exact ⟨a, c, by rw [h, hcl]⟩
     have Ka : Seal (Keep Aa w3 wa) := ⟨K13.out.then' ka⟩
     have hgs := gapS_le HTl.out
     clear hco hcl ka HCe HK
     go_wp2_with fail
     go_loopw [24, 26, 27] (λ x24 x26 x27 wr => ∃ j : Nat, j <= cl /\ x27 = .int .i64 (j : Nat) /\ x26 = .int .i64 (gapS (cs.take j) : Nat) /\ wr.ownsRow wa.heap.size 3 1 x24 (Bo (cs.take j)).length (AR (Bo (cs.take j))) /\ Keep Aa wa wr) (λ _ _ x27 _ => cl - (intOf x27).toNat)
     case atStart => exact ⟨0, Nat.zero_le _, rfl, rfl, World.ownsRow_nil _ _ _ _, Keep.refl _ _⟩
     case round =>
      obtain ⟨j, hj, rfl, rfl, ho, hk⟩ := hrel
      have HO := sE ho
      have HK := sE hk
      have hgl := obsG_len_take cs j
      rw [HCL.out] at hgl
      clear ho
      by_cases hjl : j < cl
      ·have hjl' : (j : Int) < (cl : Int) := by omega
       obtain ⟨c, hc⟩ : ∃ c, cs[j]? = some c := ⟨_, List.getElem?_eq_getElem (by rw [HCL.out]; exact hjl)⟩
       have htg := HTg.out c (List.mem_of_getElem? hc)
       have HGs := sE (gapS_take hc htg)
       have HOg := sE (obsG_take hc)
       have hs1 := gapS_take_le cs (j + 1)
       obtain ⟨ya, yc, hv, hcx⟩ := HCr.out
       injection hv with q1 q2 q3
       subst q1
       obtain ⟨cb, rfl, hb0, y0, y1, -, -, y4⟩ := hcx j c hc
       have x0 := hk.cell y0 (λ h => h)
       have x1 := hk.cell y1 (λ h => h)
       have x4 := hk.cell y4 (λ h => h)
       obtain ⟨S, hS⟩ : ∃ S, gapS (cs.take j) = S := ⟨_, rfl⟩
       obtain ⟨Q, hQ⟩ : ∃ Q, Bo (cs.take j) = Q := ⟨_, rfl⟩
       obtain ⟨ql, hql⟩ : ∃ ql, Q.length = ql := ⟨_, rfl⟩
       rw [hS] at HGs ⊢
       rw [hQ] at HOg HO hgl
       rw [hql] at HO hgl
       have HQl := sE hql
       obtain ⟨qa, qc, rfl⟩ := Bd HO.out
       have hsz := hk.size
       clear hc hcx q2 q3 hb0 y0 y1 y4 hS hQ hql hk
       by_cases ht : c.tag = 1
       ·have q1 : ((c.tag : Int) == 1) = true := by rw [ht]; rfl
        rw [if_pos ht] at HGs HOg
        clear ht htg hs1 x4
        go_wp2_with (at_builtin; obtain ⟨i0, hi, hz0, hz1, hz2⟩ := info_parts Tryz.C8; go_loud (refine wpList_append_lies _ rfl (.tmp 129) (.tmp 135) 31 rfl wa.heap.size 3 i0 _ 1 8 Tryz.A9 hi hz0 hz1 hz2 rfl (by omega) (.slice qa ql qc) ql (AR Q) rfl (HO.out.alloc _) ⟨wr.heap.size, 0, none⟩ 1 1 [.int .i64 (c.g : Nat)] rfl rfl (World.news_of_block (World.alloc_heap_new wr _)) (by intro u hu; simp at hu; subst hu; rfl) (by omega) (by unfold maxLen; omega) (by omega) (by first | (simp; done) | (simp; omega)) (wr.heap.size + 1) (by simp) ?_); intro gn capn w5 hown5 hgrow hat hlt; clear hi hz0 hz1 hz2; have HGw := sE hgrow; have HR5 := sE hown5; clear hown5 hgrow hat hlt)
        have k5 : Keep Aa wa w5 := (HK.out.alloc _).grown HGw.out (λ k e hk => by have := (Al HO.out e).1; omega)
        refine ⟨⟨j + 1, by omega, by go_num, by rw [HGs.out, Nat.add_zero], ?_, k5⟩, by simp only [intOf]; omega⟩
        rw [HOg.out, AR, List.map_append, List.length_append, HQl.out]
        exact HR5.out
       ·have q1 : ((c.tag : Int) == 1) = false := by
         rw [beq_eq_false_iff_ne]
         omega
        rw [if_neg ht] at HGs HOg
        have u5 : IntKind.i64.wrap ((S : Int) + (c.sz : Int)) = ((S + c.sz : Nat) : Int) := by
         have := HGs.out
         rw [IntKind.wrap_i64]
         omega
        clear ht htg hs1 x0
        go_wp2_with fail
        refine ⟨⟨j + 1, by omega, by go_num, by rw [HGs.out]; go_num, ?_, HK.out⟩, by simp only [intOf]; omega⟩
        rw [HOg.out, List.append_nil, HQl.out]
        exact HO.out
      ·obtain rfl : j = cl := by omega
       have hw : cs.take j = cs := List.take_of_length_le (by rw [HCL.out]; exact Nat.le_refl _)
       rw [hw] at HO ⊢
       obtain ⟨ta, tc, rfl⟩ := Bd HO.out
       have K14 : Seal (Keep Aa w3 wr) := ⟨Ka.out.then' hk⟩
       have hol : (Bo cs).length <= 65536 := by
        have := obsG_len_take cs j
        rw [hw, HCL.out] at this
        omega
       have HWr := sE (HWa.out wr _ (Bo cs) K14.out (Bh.AO HO.out) obs_obj hol)
       have HSm : Seal (CE (AV 0 (Ar cs (Ce (Bo cs))) H) = gapS cs) := ⟨water_all HTl.out HTg.out⟩
       have hwl : (AV 0 (Ar cs (Ce (Bo cs))) H).length <= H + 1 := by
        have h1 := (Bp (p := Ce (Bo cs)) HTl.out).rise.len
        have h2 := water_len (L := Ar cs (Ce (Bo cs))) (e := 0) (H := H)
        omega
       obtain ⟨B, hB⟩ : ∃ B, AV 0 (Ar cs (Ce (Bo cs))) H = B := ⟨_, rfl⟩
       rw [hB] at HWr HSm hwl
       obtain ⟨S, hS⟩ : ∃ S, gapS cs = S := ⟨_, rfl⟩
       rw [hS] at HSm hgs ⊢
       clear hw hk hol hB hS HO HWa HCr HK hgl
       go_wp2_with fail
       refine HWr.out.mono ?_
       rintro e wb ⟨ba, bc, rfl, hob, kb⟩
       have HBr := sE (BK.AO hob)
       have Kb : Seal (Keep Aa w3 wb) := ⟨K14.out.then' kb⟩
       obtain ⟨bl, hbl⟩ : ∃ bl, B.length = bl := ⟨_, rfl⟩
       have HBL : Seal (B.length = bl) := ⟨hbl⟩
       rw [hbl] at HBr hwl ⊢
       clear hob kb hbl HWr
       go_wp2_with fail
       go_loopw [30, 31] (λ x30 x31 wr => ∃ i : Nat, i <= bl /\ x31 = .int .i64 (i : Nat) /\ x30 = .int .i64 (CE (B.take i) : Nat) /\ Keep Aa wb wr) (λ _ x31 _ => bl - (intOf x31).toNat)
       case atStart => exact ⟨0, Nat.zero_le _, rfl, rfl, Keep.refl _ _⟩
       case round =>
        obtain ⟨i, hi, rfl, rfl, hk⟩ := hrel
        have HK := sE hk
        by_cases hil : i < bl
        ·have hil' : (i : Int) < (bl : Int) := by omega
         obtain ⟨x, hx⟩ : ∃ x, B[i]? = some x := ⟨_, List.getElem?_eq_getElem (by rw [HBL.out]; exact hil)⟩
         obtain ⟨ya, yc, hv, hbx⟩ := HBr.out
         injection hv with q1 q2 q3
         subst q1
         obtain ⟨bb, o, rfl, hb0, y0, y1⟩ := hbx i x hx
         have x1 := hk.cell y1 (λ h => h)
         have HT := sE (sumR_take hx)
         have hs1 := sumR_take_le B (i + 1)
         rw [HSm.out, HT.out] at hs1
         obtain ⟨U, hU⟩ : ∃ U, CE (B.take i) = U := ⟨_, rfl⟩
         rw [hU] at HT hs1 ⊢
         have u5 : IntKind.i64.wrap ((U : Int) + (x.2 : Int)) = ((U + x.2 : Nat) : Int) := by
          rw [IntKind.wrap_i64]
          omega
         clear hx hbx q2 q3 hb0 y0 y1 hU hk
         go_wp2_with fail
         exact ⟨⟨i + 1, by omega, by go_num, by rw [HT.out]; go_num, HK.out⟩, by simp only [intOf]; omega⟩
        ·obtain rfl : i = bl := by omega
         have hw : B.take i = B := List.take_of_length_le (by rw [HBL.out]; exact Nat.le_refl _)
         rw [hw, HSm.out]
         have HAe := sE (HAlive.out wr (HK3.out.then' (Kb.out.then' hk)))
         clear hw hk
         go_wp2_with fail
         refine HAe.out.mono ?_
         rintro e w16 ⟨rfl, k16⟩
         go_wp2
         go_ret
         exact ⟨rfl, (HK3.out.then' (Kb.out.then' HK.out)).then' k16⟩

end Go.Proofs.YtgccjhnafhlndaaGreatDoor
