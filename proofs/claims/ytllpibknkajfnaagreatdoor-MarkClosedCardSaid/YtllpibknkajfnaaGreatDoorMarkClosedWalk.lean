/-
 The law MarkClosed, walked.
-/
import Derived.Test.YtllpibknkajfnaaGreatDoorMarkAl
import Derived.Test.YtllpibknkajfnaaGreatDoorMarkE
import Derived.Test.YtllpibknkajfnaaGreatDoorArgsA
namespace Go.Proofs.YtllpibknkajfnaaGreatDoor
open Go.RowKit
set_option linter.unusedVariables false

/-- What a marking of the laws answers. -/
def MarkedC (KF : Nat → List Nat) (T : Nat → Prop) (xs : List Nat) (lim H : Nat) (w : World) (e : Ending) (w' : World) : Prop :=
 ∃ (mp mq : Nat) (fm : Nat → Bool) (n dp ag : Nat), e = .returned (.tuple #[.pointer (some ⟨mp, 0, none⟩), .agg #[.int .i64 (n : Nat), .int .i64 (dp : Nat), .int .i64 (ag : Nat)], .int .i64 0]) ∧
  (BitsAt w' mp mq fm H ∧ n = (setL fm H).length ∧ (∀ g, fm g = true ↔ MReach KF (fun g => g ∈ xs) g) ∧ ∀ g, fm g = true → T g) ∧ Keep Nope w w'

theorem markedC {KF : Nat → List Nat} {T : Nat → Prop} {xs : List Nat} {lim H : Nat} {w : World} {e : Ending} {w' : World} (h : MarkOfPost KF T xs lim H w e w') : MarkedC KF T xs lim H w e w' := by
 obtain ⟨mp, mq, fm, n, dp, ag, he, hb, hn, hd, -, hr, ht, -, -, k⟩ := h
 exact ⟨mp, mq, fm, n, dp, ag, he, ⟨hb, by rw [hn, setL_count], hr, ht⟩, k⟩

set_option maxRecDepth 20000 in
set_option maxHeartbeats 16000000 in
theorem markclosed_walk (n : Int) (v1 v2 v5 : Value) (one : Nat) (xs : List TypR) (len : Nat) (d g i nn y : Nat → Int) (u : Nat → Value) (m : Nat → Nat) (ns : Nat) (ys : Nat → Nat) (w : World) (hF : FieldsAt w) (h1 : TypsAt w v1 xs) (h2 : Steps6At w v2 len d g i nn y u m)
  (hl : xs.length ≤ 17592186044416) (hM : Masks xs) (hl2 : len ≤ 17592186044416) (hy : ∀ j, j < len → 0 ≤ y j ∧ y j ≤ 18446744073709551615) (hA : AtsAt w len u m) (ho1 : one < 256) (hb5 : BytesIn w v5 ns ys) :
  Calls Tryz.prog 6 #[.int .i64 n, v1, v2, .int .u8 (one : Nat), v5] w fun e w' => e = .returned (.bool true) ∧ Keep Nope w w' := by
 have HF : Seal _ := ⟨hF⟩
 have HAlive : Seal (∀ W', Keep Nope w W' → Calls Tryz.prog 26 #[] W' fun e w' => e = .returned (.bool true) ∧ Keep Nope W' w') := ⟨fun W' kk => alive20 W' (hF.keepN kk)⟩
 have HH : Seal _ := ⟨Heavy9_any n v1 v2 xs len d g i nn y u m w h1 h2 hl hl2⟩
 have HPl : Seal (len ≤ 60 → (∀ j, j < len → m j ≤ 300) → Calls Tryz.prog 27 #[.int .i64 n, v1, v2] w (PlayedPost n xs v1 w)) := ⟨fun q1 q2 => Played_any n v1 v2 xs len d g i nn y u m w hF h1 hl hM h2 q1 hy hA q2⟩
 have hv1 : ∃ a l c, v1 = .slice a l c := by obtain ⟨a, c, h, -⟩ := h1; exact ⟨_, _, _, h⟩
 have hv2 : ∃ a l c, v2 = .slice a l c := by obtain ⟨a, c, h, -⟩ := h2; exact ⟨_, _, _, h⟩
 obtain ⟨a1, l1, c1, rfl⟩ := hv1
 obtain ⟨a2, l2, c2, rfl⟩ := hv2
 have HB5 : Seal _ := ⟨hb5⟩
 obtain ⟨a5, c5, rfl, -⟩ := hb5
 clear hF h1 h2 hM hy hA hl hl2
 by_cases hs5 : ns ≤ 40
 case neg =>
  have p5 : decide ((40 : Int) < (ns : Int)) = true := decide_eq_true (by omega)
  clear hs5
  go_enter Tryz.func6, Tryz.ntmps6
  go_wp2_with fail
  refine HH.out.mono ?_
  rintro e w2 ⟨t, rfl, rfl, ht⟩
  clear ht
  cases t
  all_goals
   go_wp2_with fail
   refine (HAlive.out _ (Keep.refl _ _)).mono ?_
   rintro e w3 ⟨rfl, k3⟩
   go_wp2
   go_ret
   exact ⟨rfl, k3⟩
 case pos =>
 go_enter Tryz.func6, Tryz.ntmps6
 go_wp2_with fail
 refine HH.out.mono ?_
 rintro e w2 ⟨t, rfl, rfl, ht⟩
 cases t with
 | true =>
  clear ht
  go_wp2_with fail
  refine (HAlive.out _ (Keep.refl _ _)).mono ?_
  rintro e w3 ⟨rfl, k3⟩
  go_wp2
  go_ret
  exact ⟨rfl, k3⟩
 | false =>
  obtain ⟨-, -, q1, q2⟩ := ht rfl
  have HPp : Seal _ := ⟨HPl.out q1 q2⟩
  clear q1 q2 ht HPl
  go_wp2_with fail
  refine HPp.out.mono ?_
  rintro e w3 (⟨rfl, k3⟩ | ⟨P, rb, q, W, cs, rfl, hBt, hPn, hPs, h16⟩)
  ·have HK3 : Seal _ := ⟨k3⟩
   clear k3
   go_wp2_with fail
   refine (HAlive.out _ HK3.out).mono ?_
   rintro e w4 ⟨rfl, k4⟩
   go_wp2
   go_ret
   exact ⟨rfl, HK3.out.then' k4⟩
  ·obtain ⟨f, hsp, hcs, hst⟩ := hBt.sp
   have HK3 : Seal (Keep Nope _ w3) := ⟨hBt.kb.new'⟩
   have hcn : cs ≠ [] := fun e => by
    have := hcs.tl
    rw [e] at this
    have h0 : 0 = P.n / 2 := this
    omega
   have hmks : ∀ x ∈ P.ts, x.m < 18446744073709551616 := hBt.ms
   have HRt : Seal (∀ W' v n ys, Keep Nope w3 W' → n ≤ 65536 → BytesIn W' v n ys → Calls Tryz.prog 28 #[.pointer (some ⟨P.s, 0, none⟩), v] W' fun e w' => ∃ a c, e = .returned (.slice a (rootsOf (objsOf cs) ys n).length c) ∧ w'.ownsRow W'.heap.size 3 1 (.slice a (rootsOf (objsOf cs) ys n).length c) (rootsOf (objsOf cs) ys n).length (natVs (rootsOf (objsOf cs) ys n)) ∧ Keep Nope W' w') := ⟨fun W' v n ys kk hn hv => Roots20_at P cs W' ⟨W, f, hsp.keepN kk, hcs, hst⟩ hcn v n ys hn hv⟩
   obtain ⟨H, hH⟩ : ∃ H, P.n / 2 = H := ⟨_, rfl⟩
   obtain ⟨KF, hKF⟩ : ∃ KF, kidsOf f (P.n / 2) P.ts W cs = KF := ⟨_, rfl⟩
   have HMk : Seal (∀ (lim : Nat) (i : Int) W' v rs, i = (lim : Nat) → Keep Nope w3 W' → 1 ≤ lim → lim ≤ 4096 → NatsIn W' v rs → (∀ g ∈ rs, ObjG cs g) → rs.length ≤ 65536 → Calls Tryz.prog 29 #[.pointer (some ⟨P.s, 0, none⟩), .int .i64 i, v] W' (MarkedC KF (ObjG cs) rs lim H W')) := ⟨fun lim i W' v rs hi kk l1 l2 hx ho hl => by
    rw [← hKF, ← hH, hi]
    exact (MarkOf_at P W f lim W' cs (hsp.keepN kk) hcs hst hmks l1 l2 v rs hx ho hl).mono fun e w' hp => markedC hp⟩
   have HSp : Seal _ := ⟨hsp⟩
   have HCs : Seal _ := ⟨hcs⟩
   have HSt : Seal _ := ⟨hst⟩
   have HMs : Seal _ := ⟨hmks⟩
   have HH' : Seal _ := ⟨hH⟩
   have HKF : Seal _ := ⟨hKF⟩
   clear hsp hcs hst hcn hmks hBt hPn hPs h16 hH hKF HPp HH
   go_wp2_with fail
   refine (HRt.out w3 _ ns ys (Keep.refl _ _) (by omega) (HB5.out.keepN HK3.out)).mono ?_
   rintro e w4 ⟨ra, rc, rfl, hrow, k4⟩
   have HRow : Seal _ := ⟨hrow⟩
   have K4 : Seal (Keep Nope w3 w4) := ⟨k4⟩
   have hRo : ∀ g ∈ rootsOf (objsOf cs) ys ns, ObjG cs g := roots_obj
   have hRl : (rootsOf (objsOf cs) ys ns).length ≤ 40 := by have := rootsOf_len (objsOf cs) ys ns; omega
   obtain ⟨rs, hrs⟩ : ∃ rs, rootsOf (objsOf cs) ys ns = rs := ⟨_, rfl⟩
   rw [hrs] at HRow hRo hRl ⊢
   obtain ⟨rl, hrl⟩ : ∃ rl, rs.length = rl := ⟨_, rfl⟩
   have HR4 : Seal (w4.ownsRow w3.heap.size 3 1 (.slice ra rl rc) rl (natVs rs)) := ⟨by rw [← hrl]; exact HRow.out⟩
   have HRL : Seal (rs.length = rl) := ⟨hrl⟩
   have HRO : Seal (∀ g ∈ rs, ObjG cs g) := ⟨hRo⟩
   rw [hrl] at hRl ⊢
   clear hrow k4 HRow hRo hrl hrs
   go_wp2_with fail
   refine (HMk.out (1 + one) _ w4 _ rs (by omega) K4.out (by omega) (by omega) (NatsIn.of_owns HR4.out) HRO.out (by rw [HRL.out]; omega)).mono ?_
   rintro e w5 ⟨mp1, mq1, fm, n1, dp1, ag1, rfl, hm1, k5⟩
   obtain ⟨w6, hw6⟩ : ∃ w6, w6 = w5.alloc (.cells #[.int .i64 (n1 : Nat), .int .i64 (dp1 : Nat), .int .i64 (ag1 : Nat)] 72) := ⟨_, rfl⟩
   have k6 : Keep Nope w5 w6 := by rw [hw6]; exact (Keep.refl _ w5).alloc _
   have b6 : w6.heap[w5.heap.size]? = some (.cells #[.int .i64 (n1 : Nat), .int .i64 (dp1 : Nat), .int .i64 (ag1 : Nat)] 72 (0, 0)) := by rw [hw6]; exact World.alloc_heap_new w5 _
   have K6 : Seal (Keep Nope w3 w6) := ⟨K4.out.then' (k5.then' k6)⟩
   have K46 : Seal (Keep Nope w4 w6) := ⟨k5.then' k6⟩
   have HM1 : Seal (BitsAt w6 mp1 mq1 fm H) := ⟨BitsAt.keep hm1.1 k6 (fun h => h) (fun h => h)⟩
   have HMr : Seal _ := ⟨hm1.2⟩
   have HK1 : Seal _ := ⟨b6⟩
   have hHs := HM1.out.small'
   have HEd : Seal _ := ⟨Edges_at P W f cs w6 (HSp.out.keepN K6.out) HCs.out HMs.out⟩
   obtain ⟨a1x, ha1x⟩ : ∃ q, w5.heap.size = q := ⟨_, rfl⟩
   rw [ha1x] at HK1
   clear hm1 k5 k6 b6
   go_wp2_with fail
   rw [← hw6]
   clear hw6 ha1x
   refine HEd.out.mono ?_
   rintro e w7 ⟨ev, rfl, he, k7⟩
   obtain ⟨es, hes⟩ : ∃ es, edgesL P.ts W cs = es := ⟨_, rfl⟩
   rw [hes] at he
   have HEs : Seal _ := ⟨hes⟩
   have HRe : Seal _ := ⟨RowE.of_owns he⟩
   obtain ⟨ea, ec, rfl, -⟩ := HRe.out
   have hel : es.length ≤ 2147483648 := by
    rw [← hes]
    exact Nat.le_trans (edgesP_len cs _) (HCs.out.to.refs_len HSp.out.ar.small)
   have K7 : Seal (Keep Nope w3 w7) := ⟨K6.out.then' k7⟩
   have HB7 : Seal (BitsAt w7 mp1 mq1 fm H) := ⟨BitsAt.keep HM1.out k7 (fun h => h) (fun h => h)⟩
   have HK7 : Seal _ := ⟨k7.at_ HK1.out (fun h => h)⟩
   have HR7 : Seal _ := ⟨ownsRow_keep HR4.out (K46.out.then' k7) (fun _ _ h => h)⟩
   have HEL : Seal (∀ (j : Nat) x, es[j]? = some x → x.1 < H ∧ x.2.2 < H ∧ (fm x.1 = true → fm x.2.2 = true)) := ⟨fun j x hx => by
    have hx' : x ∈ edgesL P.ts W cs := by rw [HEs.out]; exact List.mem_of_getElem? hx
    obtain ⟨q1, q2, q3⟩ := edge_kid HCs.out HSt.out hx'
    rw [← HH'.out]
    exact ⟨objG_lt HCs.out q1, objG_lt HCs.out q2, edge_marked HCs.out HSt.out (by rw [HKF.out]; exact HMr.out.2.1) hx'⟩⟩
   obtain ⟨el, hel'⟩ : ∃ el, es.length = el := ⟨_, rfl⟩
   rw [hel'] at hel HRe ⊢
   have HELn : Seal _ := ⟨hel'⟩
   clear he k7 hes hel'
   go_wp2_with fail
   go_loopw [19] (fun x19 wr => ∃ j : Nat, j ≤ el ∧ x19 = .int .i64 (j : Nat) ∧ Keep Nope w7 wr) (fun x19 _ => el - (intOf x19).toNat)
   case atStart => exact ⟨0, Nat.zero_le _, rfl, Keep.refl _ _⟩
   case round =>
    obtain ⟨j, hj, rfl, hkk⟩ := hrel
    have HKK : Seal _ := ⟨hkk⟩
    by_cases hjl : j < el
    ·have hjl' : (j : Int) < (el : Int) := by omega
     obtain ⟨x, hx⟩ : ∃ x, es[j]? = some x := ⟨es[j]'(by rw [HELn.out]; exact hjl), by simp⟩
     obtain ⟨ea', ec', hea, hcells⟩ := (HRe.out.keepN hkk)
     obtain ⟨eb, heb, heb0, x0, x1, x2⟩ := hcells j x hx
     have hea2 : ea = some ⟨eb, 0, none⟩ := by injection hea with h1; rw [h1]; exact heb
     subst hea2
     obtain ⟨q1, q2, q3⟩ := HEL.out j x hx
     have HHa : Seal _ := ⟨Has_in x.1 H mp1 mq1 fm wr (BitsAt.keep HB7.out hkk (fun h => h) (fun h => h)) q1⟩
     have HHb : Seal (∀ W', Keep Nope wr W' → _) := ⟨fun W' kk => Has_in x.2.2 H mp1 mq1 fm W' (BitsAt.keep HB7.out (hkk.then' kk) (fun h => h) (fun h => h)) q2⟩
     cases h1 : fm x.1 with
     | true =>
      have h2 := q3 h1
      rw [h1] at HHa
      rw [h2] at HHb
      clear hcells hea heb hx hkk q1 q2 q3 h1 h2
      go_wp2_with fail
      refine HHa.out.mono ?_
      rintro e w8 ⟨rfl, k8⟩
      have y0 := k8.cell x0 (fun h => h)
      have y2 := k8.cell x2 (fun h => h)
      have HHb8 : Seal _ := ⟨HHb.out w8 k8⟩
      have K8 : Seal _ := ⟨HKK.out.then' k8⟩
      clear k8
      go_wp2_with fail
      refine HHb8.out.mono ?_
      rintro e w9 ⟨rfl, k9⟩
      have K9 : Seal _ := ⟨K8.out.then' k9⟩
      clear k9
      go_wp2
      exact ⟨⟨j + 1, by omega, by go_num, K9.out⟩, by simp only [intOf]; omega⟩
     | false =>
      rw [h1] at HHa
      clear hcells hea heb hx hkk q1 q2 q3 h1 HHb
      go_wp2_with fail
      refine HHa.out.mono ?_
      rintro e w8 ⟨rfl, k8⟩
      have K8 : Seal _ := ⟨HKK.out.then' k8⟩
      clear k8
      go_wp2
      exact ⟨⟨j + 1, by omega, by go_num, K8.out⟩, by simp only [intOf]; omega⟩
    ·have hjl' : ¬ (j : Int) < (el : Int) := by omega
     have HAl : Seal _ := ⟨All20_at H mp1 mq1 fm wr (BitsAt.keep HB7.out hkk (fun h => h) (fun h => h))⟩
     have K8 : Seal (Keep Nope w7 wr) := ⟨hkk⟩
     clear hkk
     go_wp2_with fail
     refine HAl.out.mono ?_
     rintro e w8 ⟨ma, mc, rfl, hm, k8⟩
     obtain ⟨ms, hms⟩ : ∃ ms, setL fm H = ms := ⟨_, rfl⟩
     rw [hms] at hm ⊢
     obtain ⟨ml, hml⟩ : ∃ ml, ms.length = ml := ⟨_, rfl⟩
     have hml2 : ml ≤ 65536 := by rw [← hml, ← hms]; have := setL_len fm H; omega
     have HMm : Seal (∀ (j : Nat) x, ms[j]? = some x → fm x = true ∧ x < H) := ⟨fun j x hx => by
      have hx' : x ∈ setL fm H := by rw [hms]; exact List.mem_of_getElem? hx
      exact ⟨by unfold setL at hx'; exact (List.mem_filter.1 hx').2, setL_lt x hx'⟩⟩
     have HMl : Seal _ := ⟨hml⟩
     have HMn : Seal (n1 = ml) := ⟨by rw [HMr.out.1, hms, hml]⟩
     rw [hml] at hm ⊢
     have HMw : Seal _ := ⟨hm⟩
     have HM8 : Seal (Keep Nope w7 w8) := ⟨K8.out.then' k8⟩
     clear hm k8 hms hml HAl
     go_wp2_with fail
     go_loopw [21] (fun x21 wr => ∃ i : Nat, i ≤ ml ∧ x21 = .int .i64 (i : Nat) ∧ Keep Nope w8 wr) (fun x21 _ => ml - (intOf x21).toNat)
     case atStart => exact ⟨0, Nat.zero_le _, rfl, Keep.refl _ _⟩
     case round =>
      obtain ⟨i, hi, rfl, hkk⟩ := hrel
      obtain ⟨wo, rfl⟩ : ∃ wo : World, wo = wr := ⟨_, rfl⟩
      have HKo : Seal _ := ⟨hkk⟩
      by_cases hil : i < ml
      ·have hil' : (i : Int) < (ml : Int) := by omega
       obtain ⟨x, hx⟩ : ∃ x, ms[i]? = some x := ⟨ms[i]'(by rw [HMl.out]; exact hil), by simp⟩
       obtain ⟨hfx, hxH⟩ := HMm.out i x hx
       obtain ⟨mb, hmb, cm⟩ := row_cell (ownsRow_keep HMw.out hkk (fun _ _ h => h)) hx
       subst hmb
       have HCm : Seal (wo.cell? ⟨mb, i, none⟩ = some (.int .i64 (x : Nat))) := ⟨cm⟩
       have HRr : Seal (wo.ownsRow _ 3 1 (.slice ra rl rc) rl (natVs rs)) := ⟨ownsRow_keep HR7.out (HM8.out.then' hkk) (fun _ _ h => h)⟩
       have HRr2 : Seal (RowE wo (.slice ea el ec) es) := ⟨HRe.out.keepN (HM8.out.then' hkk)⟩
       have HBo : Seal (BitsAt wo mp1 mq1 fm H) := ⟨BitsAt.keep HB7.out (HM8.out.then' hkk) (fun h => h) (fun h => h)⟩
       have HWhy : Seal (whyB rs es fm x = true) := ⟨by rw [← HEs.out]; exact why_marked HCs.out HSt.out (by rw [HKF.out]; exact HMr.out.2.1) HMr.out.2.2 hfx⟩
       have HFx : Seal _ := ⟨And.intro hfx hxH⟩
       clear hkk cm hfx hxH hx
       go_wp2_with fail
       go_loopw [22, 23] (fun x22 x23 wr => ∃ k : Nat, k ≤ rl ∧ x23 = .int .i64 (k : Nat) ∧ x22 = .bool ((rs.take k).any fun z => z == x) ∧ Keep Nope wo wr) (fun _ x23 _ => rl - (intOf x23).toNat)
       case atStart => exact ⟨0, Nat.zero_le _, rfl, rfl, Keep.refl _ _⟩
       case round =>
        obtain ⟨k, hk, rfl, rfl, hkk⟩ := hrel
        have HKK : Seal _ := ⟨hkk⟩
        by_cases hkl : k < rl
        ·have hkl' : (k : Int) < (rl : Int) := by omega
         obtain ⟨z, hz⟩ : ∃ z, rs[k]? = some z := ⟨rs[k]'(by rw [HRL.out]; exact hkl), by simp⟩
         obtain ⟨rb', hrb', cr⟩ := row_cell (ownsRow_keep HRr.out hkk (fun _ _ h => h)) hz
         subst hrb'
         have cm := hkk.cell HCm.out (fun h => h)
         have HNx := any_take (p := fun z => z == x) hz
         obtain ⟨q, hq⟩ : ∃ q, (rs.take k).any (fun z => z == x) = q := ⟨_, rfl⟩
         rw [hq] at HNx ⊢
         clear hq hz hkk
         cases q with
         | true =>
          have HN1 : Seal ((rs.take (k + 1)).any (fun z => z == x) = true) := ⟨by rw [HNx]; rfl⟩
          clear HNx
          go_wp2_with fail
          go_quiet (fail)
          go_wp2
          exact ⟨⟨k + 1, by omega, by go_num, by rw [HN1.out], HKK.out.then' (Keep.of_drewN _)⟩, by simp only [intOf]; omega⟩
         | false =>
          obtain ⟨q, hq⟩ : ∃ q, ((z : Int) == (x : Int)) = q := ⟨_, rfl⟩
          have HN1 : Seal ((rs.take (k + 1)).any (fun z => z == x) = q) := ⟨by
           rw [HNx, Bool.false_or, ← hq, Bool.eq_iff_iff, beq_iff_eq, beq_iff_eq]
           omega⟩
          clear HNx
          go_wp2_with fail
          go_quiet (fail)
          go_wp2
          exact ⟨⟨k + 1, by omega, by go_num, by rw [HN1.out], HKK.out.then' (Keep.of_drewN _)⟩, by simp only [intOf]; omega⟩
        ·have hkl' : ¬ (k : Int) < (rl : Int) := by omega
         obtain rfl : k = rl := by omega
         have HQ0 : Seal (((rs.take k).any fun z => z == x) = (rs.any fun z => z == x)) := ⟨by rw [List.take_of_length_le (by rw [HRL.out]; omega)]⟩
         obtain ⟨q0, hq0⟩ : ∃ q, ((rs.take k).any fun z => z == x) = q := ⟨_, rfl⟩
         rw [hq0] at HQ0 ⊢
         have HWh : Seal ((q0 || es.any fun e => e.2.2 == x && (e.1 != x && fm e.1)) = true) := ⟨by rw [HQ0.out]; exact HWhy.out⟩
         obtain ⟨wp, rfl⟩ : ∃ wp : World, wp = wr := ⟨_, rfl⟩
         have HKp : Seal (Keep Nope wo wp) := ⟨hkk⟩
         clear hq0 hkk HQ0
         go_wp2_with fail
         go_loopw [22, 24] (fun x22 x24 wr => ∃ k : Nat, k ≤ el ∧ x24 = .int .i64 (k : Nat) ∧ x22 = .bool (q0 || (es.take k).any fun e => e.2.2 == x && (e.1 != x && fm e.1)) ∧ Keep Nope wo wr) (fun _ x24 _ => el - (intOf x24).toNat)
         case atStart => exact ⟨0, Nat.zero_le _, rfl, by rw [List.take_zero]; simp, HKp.out⟩
         case round =>
          obtain ⟨k, hk, rfl, rfl, hkk⟩ := hrel
          have HKK : Seal _ := ⟨hkk⟩
          by_cases hkl : k < el
          ·have hkl' : (k : Int) < (el : Int) := by omega
           obtain ⟨z, hz⟩ : ∃ z, es[k]? = some z := ⟨es[k]'(by rw [HELn.out]; exact hkl), by simp⟩
           obtain ⟨ea', ec', hea, hcells⟩ := HRr2.out.keepN hkk
           obtain ⟨eb, heb, heb0, x0, x1, x2⟩ := hcells k z hz
           have hea2 : ea = some ⟨eb, 0, none⟩ := by injection hea with h1; rw [h1]; exact heb
           subst hea2
           obtain ⟨p1, p2, p3⟩ := HEL.out k z hz
           have cm := hkk.cell HCm.out (fun h => h)
           have HHa : Seal (∀ W', Keep Nope wr W' → _) := ⟨fun W' kk => Has_in z.1 H mp1 mq1 fm W' (BitsAt.keep HBo.out (hkk.then' kk) (fun h => h) (fun h => h)) p1⟩
           have HNx : Seal ((q0 || (es.take (k + 1)).any fun e => e.2.2 == x && (e.1 != x && fm e.1)) = ((q0 || (es.take k).any fun e => e.2.2 == x && (e.1 != x && fm e.1)) || (z.2.2 == x && (z.1 != x && fm z.1)))) := ⟨by
            rw [any_take (p := fun e : Nat × Nat × Nat => e.2.2 == x && (e.1 != x && fm e.1)) hz, Bool.or_assoc]⟩
           obtain ⟨q, hq⟩ : ∃ q, (q0 || (es.take k).any fun e => e.2.2 == x && (e.1 != x && fm e.1)) = q := ⟨_, rfl⟩
           rw [hq] at HNx ⊢
           clear hq hz hkk hcells hea heb x1 p1 p2 p3
           cases q with
           | true =>
            have HN1 : Seal ((q0 || (es.take (k + 1)).any fun e => e.2.2 == x && (e.1 != x && fm e.1)) = true) := ⟨by rw [HNx.out]; rfl⟩
            clear HNx HHa
            go_wp2_with fail
            go_quiet (fail)
            go_wp2
            exact ⟨⟨k + 1, by omega, by go_num, by rw [HN1.out], HKK.out.then' (Keep.of_drewN _)⟩, by simp only [intOf]; omega⟩
           | false =>
            by_cases t1 : z.2.2 = x
            ·have b1 : ((z.2.2 : Int) == (x : Int)) = true := by rw [beq_iff_eq]; omega
             by_cases t2 : z.1 = x
             ·have b2 : ((z.1 : Int) != (x : Int)) = false := by rw [bne_eq_false_iff_eq]; omega
              have HN1 : Seal ((q0 || (es.take (k + 1)).any fun e => e.2.2 == x && (e.1 != x && fm e.1)) = false) := ⟨by rw [HNx.out, t2]; simp⟩
              clear HNx HHa t1 t2
              go_wp2_with fail
              go_quiet (fail)
              go_wp2
              exact ⟨⟨k + 1, by omega, by go_num, by rw [HN1.out], HKK.out.then' (Keep.of_drewN _)⟩, by simp only [intOf]; omega⟩
             ·have b2 : ((z.1 : Int) != (x : Int)) = true := by rw [bne_iff_ne]; omega
              have HN1 : Seal ((q0 || (es.take (k + 1)).any fun e => e.2.2 == x && (e.1 != x && fm e.1)) = fm z.1) := ⟨by rw [HNx.out, t1]; simp [t2]⟩
              clear HNx t1 t2
              go_wp2_with fail
              refine wp_region_held_drew (S := fun w' => w'.cell? ⟨eb, k * 3, none⟩ = some (.int .i64 (z.1 : Nat)) ∧ w'.cell? ⟨eb, k * 3 + 2, none⟩ = some (.int .i64 (z.2.2 : Nat)) ∧ w'.cell? ⟨mb, i, none⟩ = some (.int .i64 (x : Nat))) (by kernel_rfl) ?_ (fun hHeld => ?_)
              ·(try dsimp only); (exact ⟨x0, x2, cm⟩)
              refine tko 0 ?_; refine tko 1 ?_; refine tko 2 ?_; refine tko 3 ?_; refine tko 4 ?_; refine tko 5 ?_; refine tko 6 ?_; refine tko 7 ?_; refine tko 8 ?_; refine tko 9 ?_; refine tko 10 ?_; refine tko 11 ?_; refine tko 12 ?_
              try simp only [Act.put, List.setIfInBounds_toArray, List.set_cons_zero, List.set_cons_succ]
              refine tko 13 ?_; refine tko 14 ?_; refine tko 15 ?_; refine tko 16 ?_; refine tko 17 ?_; refine tko 18 ?_; refine tko 19 ?_; refine tko 20 ?_; refine tko 21 ?_; refine tko 22 ?_; refine tko 23 ?_; refine tko 24 ?_
              try simp only [Act.put, List.setIfInBounds_toArray, List.set_cons_zero, List.set_cons_succ]
              refine tko 25 ?_; refine tko 26 ?_; refine tko 27 ?_; refine tko 28 ?_; refine tko 29 ?_; refine tko 30 ?_
              try simp only [Act.put, List.setIfInBounds_toArray, List.set_cons_zero, List.set_cons_succ]
              refine wpAnyH_ready (rs := [31]) (by kernel_rfl) (by simp) ?_
              refine ready_held rfl (fun K hK => ?_)
              go_simp
              go_at_call 18
              (with_reducible refine (HHa.out _ (Keep.refl _ _).drew).mono ?_)
              rintro e w9 ⟨rfl, k9⟩
              have K9 : Keep Nope wr w9 := ((Keep.refl Nope wr).drew).then' k9
              refine hK _ _ ?_ (fun hHeld => ?_)
              ·(try dsimp only); (exact ⟨keepc K9 x0, keepc K9 x2, keepc K9 cm⟩)
              clear hK K
              try simp only [Act.put, List.setIfInBounds_toArray, List.set_cons_zero, List.set_cons_succ]
              refine tko 32 ?_; refine tko 33 ?_; refine tko 34 ?_
              try simp only [Act.put, List.setIfInBounds_toArray, List.set_cons_zero, List.set_cons_succ]
              refine wpAnyH_done (by kernel_rfl) ?_ _
              have HK9 : Seal _ := ⟨HKK.out.then' K9⟩
              clear K9 k9 x0 x2 cm hHeld
              go_wp2
              exact ⟨⟨k + 1, by omega, by go_num, by rw [HN1.out], HK9.out⟩, by simp only [intOf]; omega⟩
            ·have b1 : ((z.2.2 : Int) == (x : Int)) = false := by rw [beq_eq_false_iff_ne]; omega
             have HN1 : Seal ((q0 || (es.take (k + 1)).any fun e => e.2.2 == x && (e.1 != x && fm e.1)) = false) := ⟨by rw [HNx.out]; simp [t1]⟩
             clear HNx HHa t1
             go_wp2_with fail
             go_quiet (fail)
             go_wp2
             exact ⟨⟨k + 1, by omega, by go_num, by rw [HN1.out], HKK.out.then' (Keep.of_drewN _)⟩, by simp only [intOf]; omega⟩
          ·have hkl' : ¬ (k : Int) < (el : Int) := by omega
           obtain rfl : k = el := by omega
           have hWt : (q0 || (es.take k).any fun e => e.2.2 == x && (e.1 != x && fm e.1)) = true := by
            rw [List.take_of_length_le (by rw [HELn.out]; omega)]
            exact HWh.out
           rw [hWt]
           have cm := hkk.cell HCm.out (fun h => h)
           have HSt1 : Seal (∀ W', Keep Nope wr W' → Calls Tryz.prog 14 #[.pointer (some ⟨P.s, 0, none⟩)] W' fun e w' => ∃ p q, e = .returned (.pointer (some ⟨p, 0, none⟩)) ∧ BitsAt w' p q f H ∧ Keep Nope W' w') := ⟨fun W' kk => by
            have := Starts_at P W f W' (HSp.out.keepN (K7.out.then' (HM8.out.then' (HKo.out.then' (HKK.out.then' kk)))))
            rw [HH'.out] at this
            exact this.mono fun e w' ⟨p, q, h1, h2, h3, h4, h5⟩ => ⟨p, q, h1, h4, h5⟩⟩
           have HFs : Seal (f x = true) := ⟨by
            rw [HSt.out x (by rw [HH'.out]; exact HFx.out.2)]
            exact objG_start.1 (HMr.out.2.2 x HFx.out.1)⟩
           clear hWt hkk
           go_wp2_with fail
           refine wp_region_held_drew (S := fun w' => w'.cell? ⟨mb, i, none⟩ = some (.int .i64 (x : Nat))) (by kernel_rfl) ?_ (fun hHeld => ?_)
           ·(try dsimp only); (exact cm)
           refine tko 0 ?_; refine tko 1 ?_; refine tko 2 ?_; refine tko 3 ?_
           try simp only [Act.put, List.setIfInBounds_toArray, List.set_cons_zero, List.set_cons_succ]
           refine wpAnyH_ready (rs := [4]) (by kernel_rfl) (by simp) ?_
           refine ready_held rfl (fun K hK => ?_)
           go_simp
           go_at_call 14
           (with_reducible refine (HSt1.out _ (Keep.refl _ _).drew).mono ?_)
           rintro e w9 ⟨sp1, sq1, rfl, hb1, k9⟩
           have K9 : Keep Nope wr w9 := ((Keep.refl Nope wr).drew).then' k9
           clear hb1
           refine hK _ _ ?_ (fun hHeld => ?_)
           ·(try dsimp only); (exact keepc K9 cm)
           clear hK K
           try simp only [Act.put, List.setIfInBounds_toArray, List.set_cons_zero, List.set_cons_succ]
           refine tko 5 ?_; refine tko 6 ?_; refine tko 7 ?_; refine tko 8 ?_; refine tko 10 ?_; refine tko 11 ?_; refine tko 12 ?_; refine tko 13 ?_
           try simp only [Act.put, List.setIfInBounds_toArray, List.set_cons_zero, List.set_cons_succ]
           refine wpAnyH_ready (rs := [9]) (by kernel_rfl) (by simp) ?_
           refine ready_held rfl (fun K hK => ?_)
           go_simp
           go_at_call 14
           (with_reducible refine (HSt1.out _ K9).mono ?_)
           rintro e w10 ⟨sp2, sq2, rfl, hb2, k10⟩
           have K10 : Keep Nope wr w10 := K9.then' k10
           have HHs : Seal _ := ⟨Has_in x H sp2 sq2 f w10 hb2 HFx.out.2⟩
           rw [HFs.out] at HHs
           clear hb2
           refine hK _ _ ?_ (fun hHeld => ?_)
           ·(try dsimp only); (exact keepc K10 cm)
           clear hK K
           try simp only [Act.put, List.setIfInBounds_toArray, List.set_cons_zero, List.set_cons_succ]
           refine wpAnyH_ready (rs := [14]) (by kernel_rfl) (by simp) ?_
           refine ready_held rfl (fun K hK => ?_)
           go_simp
           go_at_call 18
           (with_reducible refine HHs.out.mono ?_)
           rintro e w11 ⟨rfl, k11⟩
           have K11 : Keep Nope wr w11 := K10.then' k11
           refine hK _ _ ?_ (fun hHeld => ?_)
           ·(try dsimp only); (exact keepc K11 cm)
           clear hK K
           try simp only [Act.put, List.setIfInBounds_toArray, List.set_cons_zero, List.set_cons_succ]
           refine tko 15 ?_; refine tko 16 ?_
           try simp only [Act.put, List.setIfInBounds_toArray, List.set_cons_zero, List.set_cons_succ]
           refine wpAnyH_done (by kernel_rfl) ?_ _
           have HK11 : Seal _ := ⟨HKo.out.then' (HKK.out.then' K11)⟩
           clear K9 k9 K10 k10 K11 k11 cm hHeld
           go_wp2
           exact ⟨⟨i + 1, by omega, by go_num, HK11.out⟩, by simp only [intOf]; omega⟩
      ·have hil' : ¬ (i : Int) < (ml : Int) := by omega
       have HRr : Seal (wo.ownsRow _ 3 1 (.slice ra rl rc) rl (natVs rs)) := ⟨ownsRow_keep HR7.out (HM8.out.then' hkk) (fun _ _ h => h)⟩
       have HBo : Seal (BitsAt wo mp1 mq1 fm H) := ⟨BitsAt.keep HB7.out (HM8.out.then' hkk) (fun h => h) (fun h => h)⟩
       have HKb : Seal _ := ⟨(HM8.out.then' hkk).at_ HK7.out (fun h => h)⟩
       have HKW : Seal (Keep Nope w3 wo) := ⟨K7.out.then' (HM8.out.then' hkk)⟩
       have HRm : Seal (∀ (k : Nat) z, rs[k]? = some z → fm z = true ∧ z < H) := ⟨fun k z hz => by
        have hm := List.mem_of_getElem? hz
        refine ⟨(HMr.out.2.1 z).2 (.root hm), ?_⟩
        rw [← HH'.out]
        exact objG_lt HCs.out (HRO.out z hm)⟩
       clear hkk
       go_wp2_with fail
       go_loopw [25] (fun x25 wr => ∃ k : Nat, k ≤ rl ∧ x25 = .int .i64 (k : Nat) ∧ Keep Nope wo wr) (fun x25 _ => rl - (intOf x25).toNat)
       case atStart => exact ⟨0, Nat.zero_le _, rfl, Keep.refl _ _⟩
       case round =>
        obtain ⟨k, hk, rfl, hkk⟩ := hrel
        have HKK : Seal _ := ⟨hkk⟩
        by_cases hkl : k < rl
        ·have hkl' : (k : Int) < (rl : Int) := by omega
         obtain ⟨z, hz⟩ : ∃ z, rs[k]? = some z := ⟨rs[k]'(by rw [HRL.out]; exact hkl), by simp⟩
         obtain ⟨rb', hrb', cr⟩ := row_cell (ownsRow_keep HRr.out hkk (fun _ _ h => h)) hz
         subst hrb'
         obtain ⟨g1, g2⟩ := HRm.out k z hz
         have HHa : Seal _ := ⟨Has_in z H mp1 mq1 fm wr (BitsAt.keep HBo.out hkk (fun h => h) (fun h => h)) g2⟩
         rw [g1] at HHa
         clear hkk hz g1 g2
         go_wp2_with fail
         refine HHa.out.mono ?_
         rintro e w9 ⟨rfl, k9⟩
         have K9 : Seal _ := ⟨HKK.out.then' k9⟩
         clear k9
         go_wp2
         exact ⟨⟨k + 1, by omega, by go_num, K9.out⟩, by simp only [intOf]; omega⟩
        ·have hkl' : ¬ (k : Int) < (rl : Int) := by omega
         obtain ⟨x0, x1, x2⟩ := cells3 (hkk.at_ HKb.out (fun h => h))
         have q1 : ((n1 : Int) == (ml : Int)) = true := by rw [HMn.out]; simp
         have HAe : Seal _ := ⟨HAlive.out wr (HK3.out.then' (HKW.out.then' hkk))⟩
         have HKf : Seal _ := ⟨HK3.out.then' (HKW.out.then' hkk)⟩
         clear hkk x1 x2
         go_wp2_with fail
         refine HAe.out.mono ?_
         rintro e w9 ⟨rfl, k9⟩
         go_wp2
         go_ret
         exact ⟨rfl, HKf.out.then' k9⟩

end Go.Proofs.YtllpibknkajfnaaGreatDoor
