/-
 The law MarkLimits, walked.
-/
import Derived.Test.YtllpibknkajfnaaGreatDoorMarkAl
import Derived.Test.YtllpibknkajfnaaGreatDoorMarkC
import Derived.Test.YtllpibknkajfnaaGreatDoorArgsA
namespace Go.Proofs.YtllpibknkajfnaaGreatDoor
open Go.RowKit
set_option linter.unusedVariables false

/-- What a marking of the laws answers. -/
def MarkedL (KF : Nat → List Nat) (xs : List Nat) (lim H : Nat) (w : World) (e : Ending) (w' : World) : Prop :=
 ∃ (mp mq : Nat) (fm : Nat → Bool) (n dp ag : Nat), e = .returned (.tuple #[.pointer (some ⟨mp, 0, none⟩), .agg #[.int .i64 (n : Nat), .int .i64 (dp : Nat), .int .i64 (ag : Nat)], .int .i64 0]) ∧
  (BitsAt w' mp mq fm H ∧ n = (setL fm H).length ∧ dp ≤ lim ∧ (∀ g, fm g = true ↔ MReach KF (fun g => g ∈ xs) g)) ∧ Keep Nope w w'

theorem markedL {KF : Nat → List Nat} {T : Nat → Prop} {xs : List Nat} {lim H : Nat} {w : World} {e : Ending} {w' : World} (h : MarkOfPost KF T xs lim H w e w') : MarkedL KF xs lim H w e w' := by
 obtain ⟨mp, mq, fm, n, dp, ag, he, hb, hn, hd, -, hr, -, -, -, k⟩ := h
 exact ⟨mp, mq, fm, n, dp, ag, he, ⟨hb, by rw [hn, setL_count], hd, hr⟩, k⟩

set_option maxRecDepth 20000 in
set_option maxHeartbeats 8000000 in
theorem marklimits_walk (n : Int) (v1 v2 v5 v6 : Value) (one two : Nat) (xs : List TypR) (len : Nat) (d g i nn y : Nat → Int) (u : Nat → Value) (m : Nat → Nat) (ns nm : Nat) (ys zs : Nat → Nat) (w : World) (hF : FieldsAt w) (h1 : TypsAt w v1 xs) (h2 : Steps6At w v2 len d g i nn y u m)
  (hl : xs.length ≤ 17592186044416) (hM : Masks xs) (hl2 : len ≤ 17592186044416) (hy : ∀ j, j < len → 0 ≤ y j ∧ y j ≤ 18446744073709551615) (hA : AtsAt w len u m) (ho1 : one < 256) (ho2 : two < 256) (hb5 : BytesIn w v5 ns ys) (hb6 : BytesIn w v6 nm zs) :
  Calls Tryz.prog 5 #[.int .i64 n, v1, v2, .int .u8 (one : Nat), .int .u8 (two : Nat), v5, v6] w fun e w' => e = .returned (.bool true) ∧ Keep Nope w w' := by
 have HF : Seal _ := ⟨hF⟩
 have HAlive : Seal (∀ W', Keep Nope w W' → Calls Tryz.prog 26 #[] W' fun e w' => e = .returned (.bool true) ∧ Keep Nope W' w') := ⟨fun W' kk => alive20 W' (hF.keepN kk)⟩
 have HH : Seal _ := ⟨Heavy9_any n v1 v2 xs len d g i nn y u m w h1 h2 hl hl2⟩
 have HPl : Seal (len ≤ 60 → (∀ j, j < len → m j ≤ 300) → Calls Tryz.prog 27 #[.int .i64 n, v1, v2] w (PlayedPost n xs v1 w)) := ⟨fun q1 q2 => Played_any n v1 v2 xs len d g i nn y u m w hF h1 hl hM h2 q1 hy hA q2⟩
 have hv1 : ∃ a l c, v1 = .slice a l c := by obtain ⟨a, c, h, -⟩ := h1; exact ⟨_, _, _, h⟩
 have hv2 : ∃ a l c, v2 = .slice a l c := by obtain ⟨a, c, h, -⟩ := h2; exact ⟨_, _, _, h⟩
 obtain ⟨a1, l1, c1, rfl⟩ := hv1
 obtain ⟨a2, l2, c2, rfl⟩ := hv2
 have HB5 : Seal _ := ⟨hb5⟩
 have HB6 : Seal _ := ⟨hb6⟩
 obtain ⟨a5, c5, rfl, -⟩ := hb5
 obtain ⟨a6, c6, rfl, -⟩ := hb6
 clear hF h1 h2 hM hy hA hl hl2
 by_cases hs5 : ns ≤ 40
 case neg =>
  have p5 : decide ((40 : Int) < (ns : Int)) = true := decide_eq_true (by omega)
  clear hs5
  go_enter Tryz.func5, Tryz.ntmps5
  go_wp2_with fail
  refine HH.out.mono ?_
  rintro e w2 ⟨t, rfl, rfl, ht⟩
  clear ht
  cases t
  all_goals
   go_wp2_with fail
   refine (HAlive.out _ (Keep.refl _ _)).mono ?_
   rintro e w3 ⟨rfl, k3⟩
   go_wp2
   go_ret
   exact ⟨rfl, k3⟩
 case pos =>
 by_cases hs6 : nm ≤ 40
 case neg =>
  have p5 : decide ((40 : Int) < (ns : Int)) = false := decide_eq_false (by omega)
  have p6 : decide ((40 : Int) < (nm : Int)) = true := decide_eq_true (by omega)
  clear hs6 hs5
  go_enter Tryz.func5, Tryz.ntmps5
  go_wp2_with fail
  refine HH.out.mono ?_
  rintro e w2 ⟨t, rfl, rfl, ht⟩
  clear ht
  cases t
  all_goals
   go_wp2_with fail
   refine (HAlive.out _ (Keep.refl _ _)).mono ?_
   rintro e w3 ⟨rfl, k3⟩
   go_wp2
   go_ret
   exact ⟨rfl, k3⟩
 case pos =>
 have p5 : decide ((40 : Int) < (ns : Int)) = false := decide_eq_false (by omega)
 have p6 : decide ((40 : Int) < (nm : Int)) = false := decide_eq_false (by omega)
 go_enter Tryz.func5, Tryz.ntmps5
 go_wp2_with fail
 refine HH.out.mono ?_
 rintro e w2 ⟨t, rfl, rfl, ht⟩
 cases t with
 | true =>
  clear ht
  go_wp2_with fail
  refine (HAlive.out _ (Keep.refl _ _)).mono ?_
  rintro e w3 ⟨rfl, k3⟩
  go_wp2
  go_ret
  exact ⟨rfl, k3⟩
 | false =>
  obtain ⟨-, -, q1, q2⟩ := ht rfl
  have HPp : Seal _ := ⟨HPl.out q1 q2⟩
  clear q1 q2 ht HPl
  go_wp2_with fail
  refine HPp.out.mono ?_
  rintro e w3 (⟨rfl, k3⟩ | ⟨P, rb, q, W, cs, rfl, hBt, hPn, hPs, h16⟩)
  ·have HK3 : Seal _ := ⟨k3⟩
   clear k3
   go_wp2_with fail
   refine (HAlive.out _ HK3.out).mono ?_
   rintro e w4 ⟨rfl, k4⟩
   go_wp2
   go_ret
   exact ⟨rfl, HK3.out.then' k4⟩
  ·obtain ⟨f, hsp, hcs, hst⟩ := hBt.sp
   have HK3 : Seal (Keep Nope _ w3) := ⟨hBt.kb.new'⟩
   have hcn : cs ≠ [] := fun e => by
    have := hcs.tl
    rw [e] at this
    have h0 : 0 = P.n / 2 := this
    omega
   have hmks : ∀ x ∈ P.ts, x.m < 18446744073709551616 := hBt.ms
   have HRt : Seal (∀ W' v n ys, Keep Nope w3 W' → n ≤ 65536 → BytesIn W' v n ys → Calls Tryz.prog 28 #[.pointer (some ⟨P.s, 0, none⟩), v] W' fun e w' => ∃ a c, e = .returned (.slice a (rootsOf (objsOf cs) ys n).length c) ∧ w'.ownsRow W'.heap.size 3 1 (.slice a (rootsOf (objsOf cs) ys n).length c) (rootsOf (objsOf cs) ys n).length (natVs (rootsOf (objsOf cs) ys n)) ∧ Keep Nope W' w') := ⟨fun W' v n ys kk hn hv => Roots20_at P cs W' ⟨W, f, hsp.keepN kk, hcs, hst⟩ hcn v n ys hn hv⟩
   obtain ⟨H, hH⟩ : ∃ H, P.n / 2 = H := ⟨_, rfl⟩
   obtain ⟨KF, hKF⟩ : ∃ KF, kidsOf f (P.n / 2) P.ts W cs = KF := ⟨_, rfl⟩
   have HMk : Seal (∀ (lim : Nat) (i : Int) W' v rs, i = (lim : Nat) → Keep Nope w3 W' → 1 ≤ lim → lim ≤ 4096 → NatsIn W' v rs → (∀ g ∈ rs, ObjG cs g) → rs.length ≤ 65536 → Calls Tryz.prog 29 #[.pointer (some ⟨P.s, 0, none⟩), .int .i64 i, v] W' (MarkedL KF rs lim H W')) := ⟨fun lim i W' v rs hi kk l1 l2 hx ho hl => by
    rw [← hKF, ← hH, hi]
    exact (MarkOf_at P W f lim W' cs (hsp.keepN kk) hcs hst hmks l1 l2 v rs hx ho hl).mono fun e w' hp => markedL hp⟩
   clear hsp hcs hst hcn hmks hBt hPn hPs h16 hH hKF HPp HH
   go_wp2_with fail
   refine (HRt.out w3 _ ns ys (Keep.refl _ _) (by omega) (HB5.out.keepN HK3.out)).mono ?_
   rintro e w4 ⟨ra, rc, rfl, hrow, k4⟩
   have HRow : Seal _ := ⟨hrow⟩
   have K4 : Seal (Keep Nope w3 w4) := ⟨k4⟩
   have hRo : ∀ g ∈ rootsOf (objsOf cs) ys ns, ObjG cs g := roots_obj
   have hRl : (rootsOf (objsOf cs) ys ns).length ≤ 40 := by have := rootsOf_len (objsOf cs) ys ns; omega
   obtain ⟨rs, hrs⟩ : ∃ rs, rootsOf (objsOf cs) ys ns = rs := ⟨_, rfl⟩
   rw [hrs] at HRow hRo hRl ⊢
   obtain ⟨rl, hrl⟩ : ∃ rl, rs.length = rl := ⟨_, rfl⟩
   have HN4 : Seal (NatsIn w4 (.slice ra rl rc) rs) := ⟨by rw [← hrl]; exact NatsIn.of_owns HRow.out⟩
   have HRL : Seal (rs.length = rl) := ⟨hrl⟩
   have HRO : Seal (∀ g ∈ rs, ObjG cs g) := ⟨hRo⟩
   rw [hrl] at hRl ⊢
   clear hrow k4 HRow hRo hrl hrs
   go_wp2_with fail
   refine (HMk.out (1 + one) _ w4 _ rs (by omega) K4.out (by omega) (by omega) HN4.out HRO.out (by rw [HRL.out]; omega)).mono ?_
   rintro e w5 ⟨mp1, mq1, f1, n1, dp1, ag1, rfl, hm1, k5⟩
   obtain ⟨w6, hw6⟩ : ∃ w6, w6 = w5.alloc (.cells #[.int .i64 (n1 : Nat), .int .i64 (dp1 : Nat), .int .i64 (ag1 : Nat)] 72) := ⟨_, rfl⟩
   have k6 : Keep Nope w5 w6 := by rw [hw6]; exact (Keep.refl _ w5).alloc _
   have b6 : w6.heap[w5.heap.size]? = some (.cells #[.int .i64 (n1 : Nat), .int .i64 (dp1 : Nat), .int .i64 (ag1 : Nat)] 72 (0, 0)) := by rw [hw6]; exact World.alloc_heap_new w5 _
   have K6 : Seal (Keep Nope w3 w6) := ⟨K4.out.then' (k5.then' k6)⟩
   have K46 : Seal (Keep Nope w4 w6) := ⟨k5.then' k6⟩
   have HM1 : Seal (BitsAt w6 mp1 mq1 f1 H) := ⟨BitsAt.keep hm1.1 k6 (fun h => h) (fun h => h)⟩
   have HM1r : Seal _ := ⟨hm1.2⟩
   have HK1 : Seal _ := ⟨b6⟩
   obtain ⟨a1x, ha1x⟩ : ∃ q, w5.heap.size = q := ⟨_, rfl⟩
   rw [ha1x] at HK1
   clear hm1 k5 k6 b6
   go_wp2_with fail
   rw [← hw6]
   clear hw6
   refine (HMk.out (1 + two) _ w6 _ rs (by omega) K6.out (by omega) (by omega) (HN4.out.keepN K46.out) HRO.out (by rw [HRL.out]; omega)).mono ?_
   rintro e w7 ⟨mp2, mq2, f2, n2, dp2, ag2, rfl, hm2, k7⟩
   obtain ⟨w8, hw8⟩ : ∃ w8, w8 = w7.alloc (.cells #[.int .i64 (n2 : Nat), .int .i64 (dp2 : Nat), .int .i64 (ag2 : Nat)] 72) := ⟨_, rfl⟩
   have k8 : Keep Nope w7 w8 := by rw [hw8]; exact (Keep.refl _ w7).alloc _
   have b8 : w8.heap[w7.heap.size]? = some (.cells #[.int .i64 (n2 : Nat), .int .i64 (dp2 : Nat), .int .i64 (ag2 : Nat)] 72 (0, 0)) := by rw [hw8]; exact World.alloc_heap_new w7 _
   have K68 : Keep Nope w6 w8 := k7.then' k8
   have K8 : Seal (Keep Nope w3 w8) := ⟨K6.out.then' K68⟩
   have HM1b : Seal (BitsAt w8 mp1 mq1 f1 H) := ⟨BitsAt.keep HM1.out K68 (fun h => h) (fun h => h)⟩
   have HM2 : Seal (BitsAt w8 mp2 mq2 f2 H) := ⟨BitsAt.keep hm2.1 k8 (fun h => h) (fun h => h)⟩
   have HM2r : Seal _ := ⟨hm2.2⟩
   have HK1b : Seal _ := ⟨K68.at_ HK1.out (fun h => h)⟩
   have HK2 : Seal _ := ⟨b8⟩
   have HN8 : Seal (NatsIn w8 (.slice ra rl rc) rs) := ⟨HN4.out.keepN (K46.out.then' K68)⟩
   obtain ⟨a2x, ha2x⟩ : ∃ q, w7.heap.size = q := ⟨_, rfl⟩
   rw [ha2x] at HK2
   clear hm2 k7 k8 b8 K68 HM1 HK1 ha1x
   go_wp2_with (at_builtin; obtain ⟨i0, hi, hz0, hz1, hz2⟩ := info_parts Tryz.infoInt; rw [← hw8]; go_loud (refine wpList_append_nats _ rfl (.const (.slice none 0 0)) (.tmp 89) 33 rfl 3 i0 Tryz.underlyingInts hi hz0 hz1 hz2 w8.heap.size (.slice none 0 0) 0 [] rfl (World.ownsRow_nil _ _ _ _) (.slice ra rl rc) rs rfl HN8.out (by rw [HRL.out]; omega) (Nat.le_refl _) ?_); intro v9 w9 hown9 hgrow9; rw [Nat.zero_add, List.nil_append] at hown9; obtain ⟨a9, c9, rfl⟩ := owns_slice hown9; have HO9 : Seal _ := ⟨hown9⟩; have HG9 : Seal _ := ⟨hgrow9⟩; clear hi hz0 hz1 hz2 hown9 hgrow9)
   have K89 : Keep Nope w8 w9 := (Keep.refl Nope w8).grown HG9.out (fun k e _ => by cases e)
   have K9 : Seal (Keep Nope w3 w9) := ⟨K8.out.then' K89⟩
   have KS89 : Seal _ := ⟨K89⟩
   clear K89 hw8
   refine (HRt.out w9 _ nm zs K9.out (by omega) ((HB6.out.keepN HK3.out).keepN K9.out)).mono ?_
   rintro e w10 ⟨rb', rc', rfl, hrow, k10⟩
   have hRo : ∀ g ∈ rootsOf (objsOf cs) zs nm, ObjG cs g := roots_obj
   have hRl2 : (rootsOf (objsOf cs) zs nm).length ≤ 40 := by have := rootsOf_len (objsOf cs) zs nm; omega
   obtain ⟨rt, hrt⟩ : ∃ rt, rootsOf (objsOf cs) zs nm = rt := ⟨_, rfl⟩
   rw [hrt] at hrow hRo hRl2 ⊢
   obtain ⟨rl2, hrl2⟩ : ∃ rl2, rt.length = rl2 := ⟨_, rfl⟩
   have HRL2 : Seal (rt.length = rl2) := ⟨hrl2⟩
   have HRO2 : Seal (∀ g ∈ rt, ObjG cs g) := ⟨hRo⟩
   have HN10 : Seal (NatsIn w10 (.slice rb' rt.length rc') rt) := ⟨NatsIn.of_owns hrow⟩
   have K10 : Seal (Keep Nope w3 w10) := ⟨K9.out.then' k10⟩
   have K8x : Seal (Keep Nope w8 w10) := ⟨KS89.out.then' k10⟩
   have HO10 : Seal _ := ⟨ownsRow_keep HO9.out k10 (fun _ _ h => h)⟩
   rw [hrl2] at hRl2 HN10 ⊢
   clear hrow hRo hrt hrl2 k10
   go_wp2_with (at_builtin; obtain ⟨i0, hi, hz0, hz1, hz2⟩ := info_parts Tryz.infoInt; go_loud (refine wpList_append_nats _ rfl (.tmp 90) (.tmp 93) 33 rfl 3 i0 Tryz.underlyingInts hi hz0 hz1 hz2 w8.heap.size (.slice a9 rs.length c9) rs.length rs rfl HO10.out (.slice rb' rl2 rc') rt rfl HN10.out (by rw [HRL.out, HRL2.out]; omega) K8x.out.size ?_); intro v11 w11 hown11 hgrow11; obtain ⟨a11, c11, rfl⟩ := owns_slice hown11; have HO11 : Seal _ := ⟨hown11⟩; have HG11 : Seal _ := ⟨hgrow11⟩; clear hi hz0 hz1 hz2 hown11 hgrow11)
   have K811 : Keep Nope w8 w11 := K8x.out.grown HG11.out (fun k e hk => by have := (ownsRow_block HO10.out e).1; omega)
   have K11 : Seal (Keep Nope w3 w11) := ⟨K8.out.then' K811⟩
   have HM1c : Seal (BitsAt w11 mp1 mq1 f1 H) := ⟨BitsAt.keep HM1b.out K811 (fun h => h) (fun h => h)⟩
   have HM2c : Seal (BitsAt w11 mp2 mq2 f2 H) := ⟨BitsAt.keep HM2.out K811 (fun h => h) (fun h => h)⟩
   have HK1c : Seal _ := ⟨K811.at_ HK1b.out (fun h => h)⟩
   have HK2c : Seal _ := ⟨K811.at_ HK2.out (fun h => h)⟩
   have HN11 : Seal (NatsIn w11 _ (rs ++ rt)) := ⟨NatsIn.of_owns HO11.out⟩
   have hRO3 : ∀ g ∈ rs ++ rt, ObjG cs g := fun g hg => by
    rcases List.mem_append.1 hg with h | h
    ·exact HRO.out g h
    ·exact HRO2.out g h
   have HRO3 : Seal _ := ⟨hRO3⟩
   clear K811 hRO3 ha2x
   refine (HMk.out (1 + two) _ w11 _ (rs ++ rt) (by omega) K11.out (by omega) (by omega) HN11.out HRO3.out (by rw [List.length_append, HRL.out, HRL2.out]; omega)).mono ?_
   rintro e w12 ⟨mp3, mq3, f3, n3, dp3, ag3, rfl, hm3, k12⟩
   obtain ⟨w13, hw13⟩ : ∃ w13, w13 = w12.alloc (.cells #[.int .i64 (n3 : Nat), .int .i64 (dp3 : Nat), .int .i64 (ag3 : Nat)] 72) := ⟨_, rfl⟩
   have k13 : Keep Nope w12 w13 := by rw [hw13]; exact (Keep.refl _ w12).alloc _
   have b13 : w13.heap[w12.heap.size]? = some (.cells #[.int .i64 (n3 : Nat), .int .i64 (dp3 : Nat), .int .i64 (ag3 : Nat)] 72 (0, 0)) := by rw [hw13]; exact World.alloc_heap_new w12 _
   have K1113 : Keep Nope w11 w13 := k12.then' k13
   have K13 : Seal (Keep Nope w3 w13) := ⟨K11.out.then' K1113⟩
   have HM1d : Seal (BitsAt w13 mp1 mq1 f1 H) := ⟨BitsAt.keep HM1c.out K1113 (fun h => h) (fun h => h)⟩
   have HM2d : Seal (BitsAt w13 mp2 mq2 f2 H) := ⟨BitsAt.keep HM2c.out K1113 (fun h => h) (fun h => h)⟩
   have HM3 : Seal (BitsAt w13 mp3 mq3 f3 H) := ⟨BitsAt.keep hm3.1 k13 (fun h => h) (fun h => h)⟩
   obtain ⟨x0, x1, x2⟩ := cells3 (K1113.at_ HK1c.out (fun h => h))
   obtain ⟨y0, y1, y2⟩ := cells3 (K1113.at_ HK2c.out (fun h => h))
   obtain ⟨z0, z1, z2⟩ := cells3 b13
   have hS12 : setL f1 H = setL f2 H := marks_same HM1r.out.2.2 HM2r.out.2.2 H
   have hSub : (setL f1 H).Sublist (setL f3 H) := by
    rw [hS12]
    exact marks_more (fun x hx => List.mem_append_left rt hx) HM2r.out.2.2 hm3.2.2.2 H
   have hn12 : n2 = n1 := by rw [HM1r.out.1, HM2r.out.1, hS12]
   have hn13 : n1 ≤ n3 := by rw [HM1r.out.1, hm3.2.1]; exact hSub.length_le
   have hd1 := HM1r.out.2.1
   have hd2 := HM2r.out.2.1
   subst hn12
   have q1 : ((n2 : Int) != (n2 : Int)) = false := by simp
   have q2 : decide (n3 < n2) = false := decide_eq_false (by omega)
   have q3 : decide (1 + (one : Int) < (dp1 : Int)) = false := decide_eq_false (by omega)
   have q4 : decide (1 + (two : Int) < (dp2 : Int)) = false := decide_eq_false (by omega)
   have HS12 : Seal _ := ⟨hS12⟩
   have HSub : Seal _ := ⟨hSub⟩
   obtain ⟨a3x, ha3x⟩ : ∃ q, w12.heap.size = q := ⟨_, rfl⟩
   rw [hw13] at x0 x1 y0 y1 z0
   rw [ha3x] at z0
   clear z1 z2
   clear hm3 k12 k13 b13 K1113 hS12 hSub hn13 hd1 hd2 x2 y2
   go_wp2_with fail
   rw [← hw13]
   clear hw13 q1 q2 q3 q4 x0 x1 y0 y1 z0 ha3x
   have hHs := HM1d.out.small'
   refine (All20_at H mp1 mq1 f1 w13 HM1d.out).mono ?_
   rintro e w14 ⟨xa, xc, rfl, hx, k14⟩
   have HAl3 : Seal _ := ⟨All20_at H mp3 mq3 f3 w14 (BitsAt.keep HM3.out k14 (fun h => h) (fun h => h))⟩
   have HX14 : Seal _ := ⟨hx⟩
   have K14 : Seal (Keep Nope w13 w14) := ⟨k14⟩
   clear hx k14
   go_wp2_with fail
   refine HAl3.out.mono ?_
   rintro e w15 ⟨ya, yc, rfl, hy, k15⟩
   obtain ⟨X, hX⟩ : ∃ X, setL f1 H = X := ⟨_, rfl⟩
   obtain ⟨Y, hY⟩ : ∃ Y, setL f3 H = Y := ⟨_, rfl⟩
   have hXl : ∀ x ∈ X, x < H := by rw [← hX]; exact setL_lt
   have hX2 : X.length ≤ H := by rw [← hX]; exact setL_len f1 H
   have hY2 : Y.length ≤ H := by rw [← hY]; exact setL_len f3 H
   rw [hX] at HX14 HS12 HSub ⊢
   rw [hY] at hy HSub ⊢
   obtain ⟨xl, hxl⟩ : ∃ xl, X.length = xl := ⟨_, rfl⟩
   obtain ⟨yl, hyl⟩ : ∃ yl, Y.length = yl := ⟨_, rfl⟩
   have HX15 : Seal (w15.ownsRow w13.heap.size 3 1 (.slice xa xl xc) xl (natVs X)) := ⟨by rw [← hxl]; exact ownsRow_keep HX14.out k15 (fun _ _ h => h)⟩
   have HY15 : Seal (w15.ownsRow w14.heap.size 3 1 (.slice ya yl yc) yl (natVs Y)) := ⟨by rw [← hyl]; exact hy⟩
   have HXl : Seal (X.length = xl) := ⟨hxl⟩
   have HYl : Seal (Y.length = yl) := ⟨hyl⟩
   have HXb : Seal _ := ⟨hXl⟩
   have HAl2 : Seal (∀ W', Keep Nope w15 W' → _) := ⟨fun W' kk => All20_at H mp2 mq2 f2 W' (BitsAt.keep HM2d.out (K14.out.then' (k15.then' kk)) (fun h => h) (fun h => h))⟩
   rw [HS12.out.symm] at HAl2
   have K15 : Seal (Keep Nope w3 w15) := ⟨K13.out.then' (K14.out.then' k15)⟩
   rw [hxl] at hX2 ⊢
   rw [hyl] at hY2 ⊢
   clear hy k15 hX hY hxl hyl hXl HX14
   go_wp2_with fail
   go_loopw [30, 31] (fun x30 x31 wr => ∃ j : Nat, j ≤ yl ∧ x31 = .int .i64 (j : Nat) ∧ x30 = .int .i64 (mergeAt X Y j : Nat) ∧ Keep Nope w15 wr) (fun _ x31 _ => yl - (intOf x31).toNat)
   case atStart => exact ⟨0, Nat.zero_le _, rfl, rfl, Keep.refl _ _⟩
   case round =>
    obtain ⟨j, hj, rfl, rfl, hkk⟩ := hrel
    have HKK : Seal _ := ⟨hkk⟩
    have hml : mergeAt X Y j ≤ xl := by rw [← HXl.out]; exact (sub_drop j HSub.out (by rw [HYl.out]; exact hj)).2
    have HNx : Seal (mergeAt X Y (j + 1) = if mergeAt X Y j < xl ∧ X[mergeAt X Y j]? = Y[j]? then mergeAt X Y j + 1 else mergeAt X Y j) := ⟨by rw [← HXl.out]; rfl⟩
    have HAll : Seal (mergeAt X Y yl = xl) := ⟨by rw [← HXl.out, ← HYl.out]; exact merge_all HSub.out⟩
    obtain ⟨a, ha⟩ : ∃ a, mergeAt X Y j = a := ⟨_, rfl⟩
    rw [ha] at hml HNx ⊢
    have HA : Seal _ := ⟨ha⟩
    clear ha
    by_cases hgo : j < yl ∧ a < xl
    ·obtain ⟨hjl, hal⟩ := hgo
     have d1 : decide (j < yl) = true := decide_eq_true hjl
     have d2 : decide (a < xl) = true := decide_eq_true hal
     have hxv : X[a]? = some (X[a]'(by rw [HXl.out]; exact hal)) := List.getElem?_eq_getElem _
     have hyv : Y[j]? = some (Y[j]'(by rw [HYl.out]; exact hjl)) := List.getElem?_eq_getElem _
     obtain ⟨vx, hvx⟩ : ∃ v, X[a]'(by rw [HXl.out]; exact hal) = v := ⟨_, rfl⟩
     obtain ⟨vy, hvy⟩ : ∃ v, Y[j]'(by rw [HYl.out]; exact hjl) = v := ⟨_, rfl⟩
     rw [hvx] at hxv
     rw [hvy] at hyv
     obtain ⟨bx, hbx, cx⟩ := row_cell (ownsRow_keep HX15.out hkk (fun _ _ h => h)) hxv
     obtain ⟨by', hby, cy⟩ := row_cell (ownsRow_keep HY15.out hkk (fun _ _ h => h)) hyv
     subst hbx
     subst hby
     rw [hxv, hyv] at HNx
     have hax : (a : Int) < (xl : Int) := by omega
     have hjy : (j : Int) < (yl : Int) := by omega
     clear hvx hvy hxv hyv hkk
     by_cases q : vx = vy
     ·have q1 : ((vx : Int) == (vy : Int)) = true := by simp [q]
      have HN1 : Seal (mergeAt X Y (j + 1) = a + 1) := ⟨by rw [HNx.out, if_pos ⟨hal, by rw [q]⟩]⟩
      clear q
      go_wp2_with fail
      go_quiet (fail)
      go_wp2
      exact ⟨⟨j + 1, by omega, by go_num, by rw [HN1.out]; go_num, HKK.out.then' (Keep.of_drewN _)⟩, by simp only [intOf]; omega⟩
     ·have q1 : ((vx : Int) == (vy : Int)) = false := by simp; omega
      have HN1 : Seal (mergeAt X Y (j + 1) = a) := ⟨by rw [HNx.out, if_neg (fun h => q (Option.some.inj h.2))]⟩
      clear q
      go_wp2_with fail
      go_quiet (fail)
      go_wp2
      exact ⟨⟨j + 1, by omega, by go_num, by rw [HN1.out], HKK.out.then' (Keep.of_drewN _)⟩, by simp only [intOf]; omega⟩
    ·have hae : a = xl := by
      rcases Nat.lt_or_ge a xl with h | h
      ·have : j = yl := by omega
       subst this
       rw [← HA.out, HAll.out]
      ·omega
     subst hae
     have HF : Seal (∀ W', Keep Nope wr W' → _) := ⟨fun W' kk => HAl2.out W' (HKK.out.then' kk)⟩
     have HXr : Seal _ := ⟨ownsRow_keep HX15.out hkk (fun _ _ h => h)⟩
     have HAe : Seal (∀ W', Keep Nope wr W' → _) := ⟨fun W' kk => HAlive.out W' (HK3.out.then' (K15.out.then' (HKK.out.then' kk)))⟩
     clear hkk HNx HA HAll
     have fin : ∀ (W' : World) (za : Option Addr) (zc : Nat), Keep Nope wr W' → W'.ownsRow wr.heap.size 3 1 (.slice za X.length zc) X.length (natVs X) → Calls Tryz.prog 31 #[.slice xa a xc, .slice za X.length zc] W' fun e w' => e = .returned (.bool true) ∧ Keep Nope W' w' := fun W' za zc kk ho => by
      have hb : ∀ x ∈ X, x ≤ 9223372036854775807 := fun x hx => by have := HXb.out x hx; omega
      exact SameInts_yes (ints_of_nats (ownsRow_keep HXr.out kk (fun _ _ h => h)) hb) (ints_of_nats ho hb) (by rw [List.length_map]; have := HXl.out; omega)
     have HFin : Seal _ := ⟨fin⟩
     clear fin
     by_cases hjl : j < yl
     all_goals
      go_wp2_with fail
      refine (HF.out wr (Keep.refl _ _)).mono ?_
      rintro e w16 ⟨za, zc, rfl, hz, k16⟩
      have HS : Seal _ := ⟨HFin.out w16 za zc k16 hz⟩
      have K16 : Seal _ := ⟨k16⟩
      clear hz k16
      go_wp2_with fail
      refine HS.out.mono ?_
      rintro e w17 ⟨rfl, k17⟩
      have K17 : Seal _ := ⟨K16.out.then' k17⟩
      clear k17
      go_wp2_with fail
      refine (HAe.out w17 K17.out).mono ?_
      rintro e w18 ⟨rfl, k18⟩
      go_wp2
      go_ret
      exact ⟨rfl, (HK3.out.then' (K15.out.then' (HKK.out.then' K17.out))).then' k18⟩

end Go.Proofs.YtllpibknkajfnaaGreatDoor
