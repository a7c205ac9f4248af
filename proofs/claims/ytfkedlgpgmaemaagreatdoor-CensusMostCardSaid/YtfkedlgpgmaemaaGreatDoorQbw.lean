/-
  Lemmas for the laws, together: CenZ, CenG.
-/
import Derived.Test.YtfkedlgpgmaemaaGreatDoorQbu
import Derived.Test.YtfkedlgpgmaemaaGreatDoorQbq
set_option linter.unusedVariables false
set_option maxHeartbeats 16000000
namespace Go.Proofs.YtfkedlgpgmaemaaGreatDoor
open Tryz
section
open Go.RowKit

theorem CMost_at(w:World)(n:Int)(v:Value)(L:List T3)(hv:Df w v L)(hl:L.length<=100000):
  Calls prog 26 #[.int .i64 n,v] w λ e w'=>∃ v',e=.returned v'/\Df w' v' ((Cb Fq L).take n.toNat)/\Kp Aa w w':=
 CMost_of w n v L hv hl λ h=>ByK_at FW MostCmp_at (by omega) h

end

section
open Go.RowKit

theorem most39:(Cb Fq [(0,1,3),(1,1,2),(2,1,1)]).take 1=[(0,1,3)]:=by decide

set_option maxRecDepth 20000 in
theorem alive39(w:World)(hF:Aq w):Calls prog 9 #[] w λ e w'=>e=.returned (.bool true)/\Kp Aa w w':=by
 have HF:=sE hF
 clear hF
 go_enter func9,ntmps9
 go_wp2_with fail
 obtain⟨wp,hwp⟩:∃ wp,wp=(w.alloc (.cells steps20 104)).alloc (.cells #[.int .u8 2,.int .i64 0,.int .u64 0] 106):=⟨_,rfl⟩
 have kp:Kp Aa w wp:=by rw[hwp];exact ((Kr _ w).alloc _).alloc _
 have hb1:wp.heap[w.heap.size]?=some (.cells steps20 104 (0,0)):=by rw[hwp];exact ((Kr Aa _).alloc _).at_ (wN w _) (λ h=>h)
 have hb2:wp.heap[w.heap.size+1]?=some (.cells #[.int .u8 2,.int .i64 0,.int .u64 0] 106 (0,0)):=by
  rw[hwp]
  have:=wN (w.alloc (.cells steps20 104)) (.cells #[.int .u8 2,.int .i64 0,.int .u64 0] 106)
  rwa [show (w.alloc (.cells steps20 104)).heap.size=w.heap.size+1 by simp] at this
 have HP:=sE (played20 wp (HF.out.Ad kp) w.heap.size (w.heap.size+1) _ _ hb1 hb2)
 have HKp:=sE kp
 unfold steps20 at hwp
 rw[<- hwp]
 clear hwp hb1 hb2 kp
 refine HP.out.mono ?_
 rintro e w1 ⟨P,rb,W,f,rfl,⟨ht,hn⟩,hs,hc,hst,⟨r1,r3,r5⟩,k1⟩
 have HK1:=sE (HKp.out.then' k1)
 have HX:Sl (Ex40 w1 P W f):=⟨⟨hs,hc,hst,by rw[ht];intro x hx;have:=List.mem_singleton.1 hx;subst this;decide,by rw[ht];exact edges20 r1 r3 r5,hn⟩⟩
 clear ht hn hs hc hst r1 r3 r5 k1 HP HKp
 go_wp2_with fail
 refine(keeps39_at (HX.out.Ad ((Kr _ _).alloc _)) _ (natsIn_one w1 0 _)).mono ?_
 rintro e w2 ⟨a2,c2,hc2,rfl,hr2,k2⟩
 have K2:Sl (Kp Aa w1 w2):=⟨((Kr _ _).alloc _).then' k2⟩
 have HR2:=sE hr2
 clear hr2 k2
 go_wp2_with fail
 refine(over39_at (HX.out.Ad (K2.out.alloc _)) _ (natsIn_one w2 0 _)).mono ?_
 rintro e w3 ⟨a3,c3,rfl,hr3,k3⟩
 have K3:Sl (Kp Aa w2 w3):=⟨((Kr _ _).alloc _).then' k3⟩
 have HR3:=sE hr3
 clear hr3 k3
 go_wp2_with fail
 refine(types39_at (HX.out.Ad ((K2.out.then' K3.out).alloc _)) _ (natsIn_one w3 1 _)).mono ?_
 rintro e w4 ⟨a4,c4,rfl,hr4,k4⟩
 have K4:Sl (Kp Aa w3 w4):=⟨((Kr _ _).alloc _).then' k4⟩
 have HR4:=sE hr4
 clear hr4 k4
 go_wp2_with fail
 refine(lost39_at (HX.out.Ad (((K2.out.then' K3.out).then' K4.out).alloc _)) _ (natsIn_one w4 1 _)).mono ?_
 rintro e w5 ⟨rfl,k5⟩
 have K5:Sl (Kp Aa w4 w5):=⟨((Kr _ _).alloc _).then' k5⟩
 clear k5
 go_wp2_with fail
 refine(CKeeps_nil none 0 0 w5).mono ?_
 rintro e w6 ⟨rfl,k6⟩
 have K6:Sl (Kp Aa w5 w6):=⟨k6⟩
 have HR2':Sl (Df w6 (.slice a2 3 c2) [(0,1,3),(1,1,2),(2,1,1)]):=⟨HR2.out.Ad (K3.out.then' (K4.out.then' (K5.out.then' K6.out)))⟩
 have HR3':=sE (HR3.out.Ad (K4.out.then' (K5.out.then' K6.out)))
 have HR4':=sE (HR4.out.Ad (K5.out.then' K6.out))
 have HK16:Sl (Kp Aa w w6):=⟨HK1.out.then' (K2.out.then' (K3.out.then' (K4.out.then' (K5.out.then' K6.out))))⟩
 clear k6 HX K2 K3 K4 K5 K6 HR2 HR3 HR4 HK1 HF
 go_wp2_with fail
 have hc1:(1:Int)<=(c2:Int):=by omega
 refine wp_region_held_drew (S:=λ _=>True/\True) (by kernel_rfl) ?_ (λ qZ=>?_)
 .exact ⟨trivial,trivial⟩
 refine Ao 0 ?_;refine Ao 1 ?_;refine Ao 2 ?_;refine Ao 3 ?_;refine Ao 4 ?_
 try simp only[Ay]
 refine Ao 5 ?_;refine Ao 6 ?_
 try simp only[Ay]
 refine Bl [7] ?_
 refine Af rfl (λ K hK=>?_)
 go_simp
 refine hK _ _ ?_ (λ qZ=>?_)
 .exact ⟨trivial,trivial⟩
 clear hK K
 try simp only[Ay]
 refine Bl [8] ?_
 refine Af rfl (λ K hK=>?_)
 go_simp
 refine(FR [(0,1,3),(1,1,2),(2,1,1)] _ _ _ (HR2'.out.Ad ((Kr _ _).alloc _).drew) (rowT_lit w6 _ [(0,1,3),(1,1,2),(2,1,1)]) (by decide)).mono ?_
 rintro e w7 ⟨rfl,k7⟩
 have K7:Sl (Kp Aa w6 w7):=⟨((Kr _ _).alloc _).drew.then' k7⟩
 clear k7
 refine hK _ _ ?_ (λ qZ=>?_)
 .exact ⟨trivial,trivial⟩
 clear hK K
 try simp only[Ay]
 refine Ao 9 ?_;refine Ao 10 ?_;refine Ao 11 ?_;refine Ao 12 ?_;refine Ao 13 ?_
 try simp only[Ay]
 refine Ao 14 ?_;refine Ao 15 ?_
 try simp only[Ay]
 refine Bl [16] ?_
 refine Af rfl (λ K hK=>?_)
 go_simp
 refine hK _ _ ?_ (λ qZ=>?_)
 .exact ⟨trivial,trivial⟩
 clear hK K
 try simp only[Ay]
 refine Bl [17] ?_
 refine Af rfl (λ K hK=>?_)
 go_simp
 refine(SameInts_yes (xs:=[((0:Nat):Int),((1:Nat):Int)]) (HR3'.out.Ad (K7.out.then' ((Kr _ _).alloc _))) (ints_lit2 w7 _ rfl) (by decide)).mono ?_
 rintro e w8 ⟨rfl,k8⟩
 have K8:Sl (Kp Aa w7 w8):=⟨((Kr _ _).alloc _).then' k8⟩
 clear k8
 refine hK _ _ ?_ (λ qZ=>?_)
 .exact ⟨trivial,trivial⟩
 clear hK K
 try simp only[Ay]
 refine Ao 18 ?_;refine Ao 19 ?_;refine Ao 20 ?_;refine Ao 21 ?_;refine Ao 22 ?_
 try simp only[Ay]
 refine Ao 23 ?_;refine Ao 24 ?_;refine Ao 25 ?_
 try simp only[Ay]
 refine Bl [26] ?_
 refine Af rfl (λ K hK=>?_)
 go_simp
 refine hK _ _ ?_ (λ qZ=>?_)
 .exact ⟨trivial,trivial⟩
 clear hK K
 try simp only[Ay]
 refine Bl [27] ?_
 refine Af rfl (λ K hK=>?_)
 go_simp
 refine(SameShares_yes [(1,2,2)] _ _ _ (HR4'.out.Ad ((K7.out.then' K8.out).alloc _)) (rowT_lit' w8 _ [(1,2,2)]) (by decide)).mono ?_
 rintro e w9 ⟨rfl,k9⟩
 have K9:Sl (Kp Aa w8 w9):=⟨((Kr _ _).alloc _).then' k9⟩
 clear k9
 refine hK _ _ ?_ (λ qZ=>?_)
 .exact ⟨trivial,trivial⟩
 clear hK K
 try simp only[Ay]
 refine Ao 28 ?_;refine Ao 29 ?_;refine Ao 30 ?_;refine Ao 31 ?_;refine Ao 32 ?_
 try simp only[Ay]
 refine Ao 33 ?_;refine Ao 34 ?_;refine Ao 35 ?_;refine Ao 36 ?_;refine Ao 37 ?_
 try simp only[Ay]
 refine Ao 38 ?_;refine Ao 39 ?_;refine Ao 40 ?_;refine Ao 41 ?_;refine Ao 42 ?_
 try simp only[Ay]
 refine Ao 43 ?_;refine Ao 44 ?_;refine Ao 45 ?_;refine Ao 46 ?_;refine Ao 48 ?_;refine Ao 49 ?_
 try simp only[Ay]
 refine Bl [47] ?_
 refine Af rfl (λ K hK=>?_)
 go_simp
 refine(CMost_few w9 1 (.slice a2 3 c2) [(0,1,3),(1,1,2),(2,1,1)] (HR2'.out.Ad (K7.out.then' (K8.out.then' K9.out))) (by decide)).mono ?_
 rintro e wm ⟨vm,rfl,hrm,km⟩
 have KM:Sl (Kp Aa w9 wm):=⟨km⟩
 have HRm:Sl (Df wm vm [(0,1,3)]):=⟨by have h1:=hrm;rw [show (1:Int).toNat=1 from rfl,most39] at h1;exact h1⟩
 clear hrm km
 refine hK _ _ ?_ (λ qZ=>?_)
 .exact ⟨trivial,trivial⟩
 clear hK K
 try simp only[Ay]
 refine Bl [50] ?_
 refine Af rfl (λ K hK=>?_)
 go_simp
 refine(FR [(0,1,3)] _ _ _ HRm.out ((HR2'.out.take (k:=1) (by omega)).Ad (K7.out.then' (K8.out.then' (K9.out.then' KM.out)))) (by decide)).mono ?_
 rintro e wn ⟨rfl,kn⟩
 have KN:Sl (Kp Aa w6 wn):=⟨K7.out.then' (K8.out.then' (K9.out.then' (KM.out.then' kn)))⟩
 clear kn
 refine hK _ _ ?_ (λ qZ=>?_)
 .exact ⟨trivial,trivial⟩
 clear hK K
 try simp only[Ay]
 refine Ao 51 ?_;refine Ao 52 ?_
 try simp only[Ay]
 refine wpAnyH_done (by kernel_rfl) ?_ _
 go_wp2
 go_ret
 exact⟨rfl,HK16.out.then' KN.out⟩

end

end Go.Proofs.YtfkedlgpgmaemaaGreatDoor
