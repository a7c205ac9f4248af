/-
  The law TurnNothing, walked.
-/
import Derived.Test.YtmfajopmppfldaaGreatDoorQo
import Derived.Test.YtmfajopmppfldaaGreatDoorQn
import Derived.Test.YtmfajopmppfldaaGreatDoorQc
import Derived.Deep.DeepCutAuto
import Derived.Deep.CutBlock
set_option linter.unusedVariables false
set_option maxHeartbeats 16000000
namespace Go.Proofs.YtmfajopmppfldaaGreatDoor
open Go.Proofs.Tryz
open Go.RowKit

theorem C9.at_{w:World}{a:Option Addr}{l c:Nat}{es:List (Nat×Nat×Nat)}(h:C9 w (.slice a l c) es){j:Nat}{x:Nat×Nat×Nat}(hx:es[j]?=some x):∃ b o,a=some ⟨b,o,none⟩/\b<w.heap.size/\
  w.cell? ⟨b,o+j*3,none⟩=some (.int .i64 (x.1:Nat))/\w.cell? ⟨b,o+j*3+1,none⟩=some (.int .i64 (x.2.1:Nat))/\w.cell? ⟨b,o+j*3+2,none⟩=some (.int .i64 (x.2.2:Nat)):=by
 obtain⟨a',c',e,hh⟩:=h
 injection e with e1 e2 e3
 subst e1
 exact hh j x hx

set_option maxRecDepth 20000 in
theorem turnnothing_walk(n:Int)(v1 v2 v3 v4:Value)(xs:List TypR)(len:Nat)(d g i nn y:Nat->Int)(u:Nat->Value)(m:Nat->Nat)(ns:Nat)(ys:Nat->Nat)(np:Nat)(yp:Nat->Nat)(w:World)(hF:Au w)(h1:AV w v1 xs)(h2:Fz w v2 len d g i nn y u m)
  (hl:xs.length<=17592186044416) (hM:CV xs) (hl2:len<=17592186044416) (hy:∀ j,j<len->0<=y j/\y j<=18446744073709551615) (hA:AtsAt w len u m) (hb3:BytesIn w v3 ns ys) (hl3:ns<=140737488355328) (hb4:BytesIn w v4 np yp) (hl4:np<=140737488355328):
  Calls prog 4 #[.int .i64 n,v1,v2,v3,v4] w λ e w'=>e=.returned (.bool true)/\Kp Ab w w':=by
 have HF:=sE hF
 have HAlive:Sl (∀ W',Kp (λ k=>w.heap.size<=k) w W'->Calls prog 23 #[] W' λ e w'=>e=.returned (.bool true)/\Kp Ab W' w'):=⟨λ W' kk=>alive23 W' (hF.keep kk (by have:=hF.1;omega))⟩
 have HH:=sE (Heavy9_any n v1 v2 xs len d g i nn y u m w h1 h2 hl hl2)
 have HPl:Sl (len<=60->(∀ j,j<len->m j<=300)->Calls prog 8 #[.int .i64 n,v1,v2] w (DW n xs v1 w)):=⟨λ q1 q2=>Played_any n v1 v2 xs len d g i nn y u m w hF h1 hl hM h2 q1 hy hA q2⟩
 have hv1:∃ a l c,v1=.slice a l c:=by obtain⟨a,c,h,-⟩:=h1;exact ⟨_,_,_,h⟩
 have hv2:∃ a l c,v2=.slice a l c:=by obtain⟨a,c,h,-⟩:=h2;exact ⟨_,_,_,h⟩
 obtain⟨a1,l1,c1,rfl⟩:=hv1
 obtain⟨a2,l2,c2,rfl⟩:=hv2
 have HB3:=sE hb3
 have HB4:=sE hb4
 obtain⟨a3,c3,rfl,-⟩:=hb3
 obtain⟨a4,c4,rfl,-⟩:=hb4
 have u0:IntKind.i64.wrap ((ns:Int)+(np:Int))=(ns:Int)+(np:Int):=by rw[IntKind.wrap_i64];omega
 have HKr:Sl (Kp (λ k=>w.heap.size<=k) w w):=⟨Kr _ _⟩
 clear hF h1 h2 hM hy hA hl hl2
 by_cases hs3:ns+np<=80
 case neg=>
  have p5:decide ((80:Int)<(ns:Int)+(np:Int))=true:=dT (by omega)
  clear hs3
  go_enter func4,ntmps4
  go_wp2_with fail
  refine HH.out.mono ?_
  rintro e w2 ⟨t,rfl,rfl,ht⟩
  clear ht
  cases t
  all_goals
   go_wp2_with fail
   refine(HAlive.out _ HKr.out).mono ?_
   rintro e w3 ⟨rfl,k3⟩
   go_wp2
   go_ret
   exact⟨rfl,k3⟩
 case pos=>
 have p5:decide ((80:Int)<(ns:Int)+(np:Int))=false:=dF (by omega)
 go_enter func4,ntmps4
 go_wp2_with fail
 refine HH.out.mono ?_
 rintro e w2 ⟨t,rfl,rfl,ht⟩
 cases t with
 |true=>
  clear ht
  go_wp2_with fail
  refine(HAlive.out _ HKr.out).mono ?_
  rintro e w3 ⟨rfl,k3⟩
  go_wp2
  go_ret
  exact⟨rfl,k3⟩
 |false=>
  obtain⟨-,-,q1,q2⟩:=ht rfl
  have HPp:=sE (HPl.out q1 q2)
  clear q1 q2 ht HPl
  go_wp2_with fail
  refine HPp.out.mono ?_
  rintro e w3 (⟨rfl,k3⟩|⟨P,rb,q,W,cs,rfl,hBt,hPn,hPs,h16⟩)
  .have HK3:=sE k3
   clear k3
   go_wp2_with fail
   refine(HAlive.out _ (HK3.out.Am _)).mono ?_
   rintro e w4 ⟨rfl,k4⟩
   go_wp2
   go_ret
   exact⟨rfl,HK3.out.then' k4⟩
  .have HBt:=sE hBt
   obtain⟨f,hsp,hcs,hst⟩:=hBt.sp
   have HK3:Sl (Kp (λ k=>_<=k) _ w3):=⟨hBt.kb⟩
   have hcn:cs≠[]:=λ e=>by
    have:=hcs.tl
    rw[e] at this
    have h0:0=P.n/2:=this
    omega
   have hsm:=hsp.ar.small
   have HPd:=sE (Planned23_at P W f cs w3 _ _ ns np ys yp hsp hcs hst hcn ((HB3.out.Ad HK3.out.newW)) ((HB4.out.Ad HK3.out.newW)) (by omega) (by omega))
   have hro:∀ (ys:Nat->Nat) (n:Nat),∀ g∈AY (Ak cs) ys n,CR cs g:=λ ys n=>roots_obj
   obtain⟨H,hH⟩:∃ H,P.n/2=H:=⟨_,rfl⟩
   have HTl:Sl (Av 0 cs H):=⟨by rw[<- hH];exact hcs.tl⟩
   have hH2:H<=32768:=by omega
   have HH':=sE hH
   rw[hH] at HPd
   obtain⟨L,hL⟩:∃ L,BN cs (AY (Ak cs) yp np) (BQ (AY (Ak cs) ys ns++AY (Ak cs) yp np)) H=L:=⟨_,rfl⟩
   have HGd:Sl (GoodP cs L):=⟨by rw[<- hL];exact planOf_good HTl.out (hro ys ns) (hro yp np)⟩
   rw[hL] at HPd
   have hpl:L.length<=32768:=by
    have h1:=HGd.out.up
    have h2:=up_len (l:=L.map (·.1)) (e:=0) (H:=H) (by rw[List.pairwise_map];exact h1) λ g hg=>⟨Nat.zero_le _,by
     obtain⟨x,hx,rfl⟩:=List.mem_map.1 hg
     have:=HGd.out.fit HTl.out hx
     omega⟩
    rw[List.length_map] at h2
    omega
   have HSm:Sl (∀ x∈L,x.1<=32768/\x.2.1<=32768/\x.2.2<=32768):=⟨λ x hx=>by
    have:=HGd.out.fit HTl.out hx
    omega⟩
   have HSp:=sE hsp
   have HCs:=sE hcs
   have HSt:=sE hst
   have HNe:=sE hcn
   clear hsp hcs hst hcn hro hH hL HH HPp hPn hPs h16 hBt
   go_wp2_with fail
   refine HPd.out.mono ?_
   rintro e w4 ⟨pv,rfl,hrow,k4⟩
   obtain⟨pa,pc,rfl⟩:=Aw hrow
   obtain⟨pl,hpll⟩:∃ pl,L.length=pl:=⟨_,rfl⟩
   have HPL:=sE hpll
   have HR4:Sl (C9 w4 (.slice pa pl pc) L):=⟨by rw[<- hpll];exact C9.Bd hrow⟩
   have HK4:Sl (Kp Ab w3 w4):=⟨k4⟩
   rw[hpll] at hpl ⊢
   clear hrow k4 hpll HPd
   obtain⟨w5,hw5⟩:∃ w5,w5=w4.alloc (.cells #[.slice pa pl pc] 33):=⟨_,rfl⟩
   have k5:Kp Ab w4 w5:=by rw[hw5];exact (Kr _ w4).alloc _
   have b5:w5.heap[w4.heap.size]?=some (.cells #[.slice pa pl pc] 33 (0,0)):=by rw[hw5];exact wN w4 _
   obtain⟨A,hA⟩:∃ A,w4.heap.size=A:=⟨_,rfl⟩
   rw[hA] at b5
   have HB5:=sE b5
   have HK5:=sE k5
   have HBk:=sE (TBack_at L (.slice pa pl pc) w5 (HR4.out.Ad k5) (by rw[HPL.out];omega))
   have c5:=cell_of_one b5
   clear k5 b5
   go_wp2_with fail
   try rw[hA]
   rw[<- hw5]
   clear hw5
   refine HBk.out.mono ?_
   rintro e w6 ⟨bv,rfl,hbo,k6⟩
   obtain⟨ba,bc,rfl⟩:=Aw hbo
   have hbl:(Dy L).length=pl:=by unfold Dy;rw [List.length_map,HPL.out]
   have HQ6:Sl (C9 w6 (.slice ba pl bc) (Dy L)):=⟨by
    rw[show L.length=(Dy L).length by unfold Dy;rw [List.length_map]] at hbo
    have:=C9.Bd hbo
    rwa [hbl] at this⟩
   rw[HPL.out]
   obtain⟨w7,hw7⟩:∃ w7,w7=w6.alloc (.cells #[.slice ba pl bc] 33):=⟨_,rfl⟩
   have k7:Kp Ab w6 w7:=by rw[hw7];exact (Kr _ w6).alloc _
   have b7:w7.heap[w6.heap.size]?=some (.cells #[.slice ba pl bc] 33 (0,0)):=by rw[hw7];exact wN w6 _
   obtain⟨B,hB⟩:∃ B,w6.heap.size=B:=⟨_,rfl⟩
   rw[hB] at b7
   have HB7:=sE b7
   have HK57:Sl (Kp Ab w5 w7):=⟨k6.then' k7⟩
   have HA7:=sE (HK57.out.at_ HB5.out (λ h=>h))
   have HR7:Sl (C9 w7 (.slice pa pl pc) L):=⟨HR4.out.Ad (HK5.out.then' HK57.out)⟩
   have HQ7:=sE (HQ6.out.Ad k7)
   have HK37:Sl (Kp Ab w3 w7):=⟨HK4.out.then' (HK5.out.then' HK57.out)⟩
   have HAd:Sl (∀ (g:Nat) W',g<=65536->Calls prog 25 #[.int .i64 (g:Nat)] W' λ e w'=>e=.returned (.int .u64 (Bz g:Nat))/\w'=W'):=⟨λ g W' hg=>Dx g W' hg⟩
   have HTA:Sl (∀ (y:Nat) W',y<18446744073709551616->Kp Ab w7 W'->Calls prog 26 #[.agg #[.slice pa pl pc],.int .u64 (y:Nat)] W' λ e w'=>e=.returned (.int .u64 (toA L y:Nat))/\Kp Ab W' w'):=⟨λ y W' hy kk=>TAddr_at L _ y W' (HR7.out.Ad kk) (by rw[HPL.out];omega) (λ x hx=>by have:=HSm.out x hx;omega) hy⟩
   have HTB:Sl (∀ (y:Nat) W',y<18446744073709551616->Kp Ab w7 W'->Calls prog 26 #[.agg #[.slice ba pl bc],.int .u64 (y:Nat)] W' λ e w'=>e=.returned (.int .u64 (toA (Dy L) y:Nat))/\Kp Ab W' w'):=⟨λ y W' hy kk=>TAddr_at (Dy L) _ y W' (HQ7.out.Ad kk) (by rw[hbl];omega) (λ x hx=>by
    obtain⟨z,hz,rfl⟩:=List.mem_map.1 hx
    have:=HSm.out z hz
    simp only
    omega) hy⟩
   have HWi:Sl (∀ (k:Nat) W',k<65536->Kp Ab w7 W'->Calls prog 27 #[.agg #[.slice pa pl pc],.int .u64 ((1048576+k:Nat):Int)] W' λ e w'=>e=.returned (.int .u64 (witA L k:Nat))/\Kp Ab W' w'):=⟨λ k W' hk kk=>TWithin_at L _ k W' (HR7.out.Ad kk) (by rw[HPL.out];omega) (λ x hx=>by have:=HSm.out x hx;omega) hk⟩
   have ca:=cell_of_one HA7.out
   have cb:=cell_of_one HB7.out
   clear k7 b7 k6 hbo hbl HQ6 c5 HBk
   go_wp2_with fail
   try rw[hB]
   rw[<- hw7]
   clear hw7
   go_loopw [17,18,19,20] (λ x17 _ _ _ wr=>∃ j:Nat,j<=pl/\x17=.int .i64 (j:Nat)/\Kp Ab w7 wr) (λ x17 _ _ _ _=>pl-(intOf x17).toNat)
   case atStart=>exact ⟨0,Nat.zero_le _,rfl,Kr _ _⟩
   case round=>
    obtain⟨j,hj,rfl,hk⟩:=hrel
    have HK:=sE hk
    replace ca:=hk.cell ca (λ h=>h)
    replace cb:=hk.cell cb (λ h=>h)
    by_cases hjl:j<pl
    .have hjl':(j:Int)<(pl:Int):=by omega
     obtain⟨x,hxj⟩:∃ x,L[j]?=some x:=⟨_,List.getElem?_eq_getElem (by rw[HPL.out];exact hjl)⟩
     obtain⟨bb,o,rfl,hbb,x0,x1,-⟩:=HR7.out.at_ hxj
     replace x0:=hk.cell x0 (λ h=>h)
     replace x1:=hk.cell x1 (λ h=>h)
     have hxm:=List.mem_of_getElem? hxj
     have hsx:=HSm.out x hxm
     have HX:=sE hxj
     have hxk:2*x.1+1<65536:=by have:=HGd.out.fit HTl.out hxm;omega
     have hto:=HGd.out.to hxm
     have hbk:=HGd.out.back HTl.out hxm
     have hwi:=HGd.out.wit HTl.out hxm
     obtain⟨xf,xt,xz⟩:=x
     simp only at x0 x1 hsx hto hbk hwi hxk
     obtain⟨yf,hyf⟩:∃ yf,Bz xf=yf:=⟨_,rfl⟩
     obtain⟨yt,hyt⟩:∃ yt,Bz xt=yt:=⟨_,rfl⟩
     rw[hyf,hyt] at hto hbk
     rw[hyt] at hwi
     have hyl:yf=1048576+2*xf/\yt=1048576+2*xt:=⟨by rw[<- hyf];rfl,by rw[<- hyt];rfl⟩
     have HYl:=sE hyl
     have HA1:Sl (∀ W',Calls prog 25 #[.int .i64 (xf:Nat)] W' λ e w'=>e=.returned (.int .u64 (yf:Nat))/\w'=W'):=⟨λ W'=>by rw[<- hyf];exact HAd.out xf W' (by omega)⟩
     have HA2:Sl (∀ W',Calls prog 25 #[.int .i64 (xt:Nat)] W' λ e w'=>e=.returned (.int .u64 (yt:Nat))/\w'=W'):=⟨λ W'=>by rw[<- hyt];exact HAd.out xt W' (by omega)⟩
     have HT1:Sl (∀ W',Kp Ab w7 W'->Calls prog 26 #[.agg #[.slice (some ⟨bb,o,none⟩) pl pc],.int .u64 (yf:Nat)] W' λ e w'=>e=.returned (.int .u64 (yt:Nat))/\Kp Ab W' w'):=⟨λ W' kk=>by rw[<- hto];exact HTA.out yf W' (by omega) kk⟩
     have HT2:Sl (∀ W',Kp Ab w7 W'->Calls prog 26 #[.agg #[.slice ba pl bc],.int .u64 (yt:Nat)] W' λ e w'=>e=.returned (.int .u64 (yf:Nat))/\Kp Ab W' w'):=⟨λ W' kk=>by rw[<- hbk];exact HTB.out yt W' (by omega) kk⟩
     obtain⟨z1,hz1⟩:∃ z1,yf+1=z1:=⟨_,rfl⟩
     obtain⟨z2,hz2⟩:∃ z2,yt+1=z2:=⟨_,rfl⟩
     rw[hz2] at hwi
     have HW1:Sl (∀ W',Kp Ab w7 W'->Calls prog 27 #[.agg #[.slice (some ⟨bb,o,none⟩) pl pc],.int .u64 (z1:Nat)] W' λ e w'=>e=.returned (.int .u64 (z2:Nat))/\Kp Ab W' w'):=⟨λ W' kk=>by
      rw[<- hwi,show z1=1048576+(2*xf+1) by omega]
      exact HWi.out (2*xf+1) W' hxk kk⟩
     have u1:IntKind.u64.wrap ((yf:Int)+1)=(z1:Int):=by rw[IntKind.wrap_u64];omega
     have u2:IntKind.u64.wrap ((yt:Int)+1)=(z2:Int):=by rw[IntKind.wrap_u64];omega
     clear hk hxj hxm hto hbk hwi hyf hyt hyl hz1 hz2 hsx
     go_wp2_with fail
     refine(HA1.out wr).mono ?_
     rintro e w8 ⟨rfl,rfl⟩
     go_wp2_with fail
     refine(HT1.out w8 HK.out).mono ?_
     rintro e w9 ⟨rfl,k9⟩
     have HK9:Sl (Kp Ab w7 w9):=⟨HK.out.then' k9⟩
     replace ca:=k9.cell ca (λ h=>h)
     replace cb:=k9.cell cb (λ h=>h)
     replace x1:=k9.cell x1 (λ h=>h)
     clear k9
     go_wp2_with fail
     refine(HA2.out w9).mono ?_
     rintro e wa ⟨rfl,rfl⟩
     go_wp2_with fail
     refine(HT2.out wa HK9.out).mono ?_
     rintro e wb ⟨rfl,kb⟩
     have HKb:Sl (Kp Ab w7 wb):=⟨HK9.out.then' kb⟩
     replace ca:=kb.cell ca (λ h=>h)
     clear kb cb
     go_wp2_with fail
     refine(HW1.out wb HKb.out).mono ?_
     rintro e wc ⟨rfl,kc⟩
     have HKc:Sl (Kp Ab w7 wc):=⟨HKb.out.then' kc⟩
     clear kc ca x0 x1
     go_wp2_with fail
     go_loopw [20] (λ x20 wr=>∃ k:Nat,k<=j/\x20=.int .i64 (k:Nat)/\Kp Ab w7 wr) (λ x20 _=>j-(intOf x20).toNat)
     case atStart=>exact ⟨0,Nat.zero_le _,rfl,HKc.out⟩
     case round=>
      obtain⟨k,hkj,rfl,hkk⟩:=hrel
      have HKk:=sE hkk
      by_cases hkl:k<j
      .have hkl':(k:Int)<(j:Int):=by omega
       have hkp:(k:Int)<(pl:Int):=by omega
       obtain⟨v,hvk⟩:∃ v,L[k]?=some v:=⟨_,List.getElem?_eq_getElem (by rw[HPL.out];omega)⟩
       obtain⟨b9,o9,hbe,hb9,v0,-,-⟩:=HR7.out.at_ hvk
       injection hbe with hbe
       injection hbe with e1 e2
       subst e1 e2
       replace v0:=hkk.cell v0 (λ h=>h)
       have ca':=cell_of_one (hkk.at_ HA7.out (λ h=>h))
       have hvm:=List.mem_of_getElem? hvk
       have hsv:=HSm.out v hvm
       have hne:¬ toA L (Bz v.1)=yt:=λ h=>by
        rw[HGd.out.to hvm] at h
        have h2:v.2.1=xt:=adrG_inj (h.trans (by unfold Bz;have:=HYl.out;omega))
        have h3:=HGd.out.uniq_to HTl.out hvm (List.mem_of_getElem? HX.out) h2
        have h4:=(gE.1 hvk).2
        have h5:=(gE.1 HX.out).2
        have h6:=List.pairwise_iff_getElem.1 HGd.out.up k j (by rw[HPL.out];omega) (by rw[HPL.out];omega) hkl
        rw[h4,h5,h3] at h6
        omega
       obtain⟨vf,vt,vz⟩:=v
       simp only at v0 hsv hne
       obtain⟨yv,hyv⟩:∃ yv,Bz vf=yv:=⟨_,rfl⟩
       rw[hyv] at hne
       have hyvl:yv<18446744073709551616:=by rw[<- hyv];unfold Bz;omega
       have HA3:Sl (∀ W',Calls prog 25 #[.int .i64 (vf:Nat)] W' λ e w'=>e=.returned (.int .u64 (yv:Nat))/\w'=W'):=⟨λ W'=>by rw[<- hyv];exact HAd.out vf W' (by omega)⟩
       obtain⟨zz,hzz⟩:∃ zz,toA L yv=zz:=⟨_,rfl⟩
       have HT3:=sE (λ W' kk=>HTA.out yv W' hyvl kk)
       rw[hzz] at hne HT3
       have hne':((zz:Int)==(yt:Int))=false:=by rw[beq_eq_false_iff_ne];omega
       have K37k:Kp Ab wr wr:=Kr _ _
       clear hvk hvm hsv hyv hzz hkk
       go_wp2_with fail
       have kk0:Kp Ab wr wr.drew:=(Kr _ _).drew
       refine wp_region_held_drew (S:=λ w'=>w'.cell? ⟨A,0,none⟩=some (.slice (some ⟨bb,o,none⟩) pl pc)/\w'.cell? ⟨bb,o+k*3,none⟩=some (.int .i64 (vf:Nat))) (by kernel_rfl) ?_ (λ hHeld=>?_)
       .exact ⟨ca',v0⟩
       refine Ao 0 ?_;refine Ao 1 ?_;refine Ao 2 ?_;refine Ao 3 ?_;refine Ao 4 ?_;refine Ao 5 ?_;refine Ao 6 ?_;refine Ao 9 ?_
       try simp only[Ar]
       refine AO [7] ?_
       refine Ag rfl (λ K hK=>?_)
       go_simp
       go_at_call 25
       (with_reducible refine(HA3.out _).mono ?_)
       rintro e wz ⟨rfl,rfl⟩
       refine hK _ _ ?_ (λ hHeld=>?_)
       .exact ⟨Ac kk0 ca',Ac kk0 v0⟩
       clear hK K
       try simp only[Ar]
       refine AO [8] ?_
       refine Ag rfl (λ K hK=>?_)
       go_simp
       go_at_call 26
       (with_reducible refine(HT3.out _ (HKk.out.then' kk0)).mono ?_)
       rintro e wd ⟨rfl,kd⟩
       have Kd:Kp Ab wr wd:=kk0.then' kd
       refine hK _ _ ?_ (λ hHeld=>?_)
       .exact ⟨Ac Kd ca',Ac Kd v0⟩
       clear hK K
       try simp only[Ar]
       refine Ao 10 ?_
       try simp only[Ar]
       refine wpAnyH_done (by kernel_rfl) ?_ _
       have HKd:=sE (HKk.out.then' Kd)
       clear hHeld Kd kd ca' v0 K37k kk0
       go_wp2_with fail
       exact⟨⟨k+1,by omega,by go_num,HKd.out⟩,by simp only[intOf];omega⟩
      .have hkl':¬ (k:Int)<(j:Int):=by omega
       clear hkk
       go_wp2_with fail
       exact⟨⟨j+1,by omega,by go_num,HKk.out⟩,by simp only[intOf];omega⟩
    .have hjl':¬ (j:Int)<(pl:Int):=by omega
     have K3r:Kp Ab w3 wr:=HK37.out.then' HK.out
     have HK3r:=sE K3r
     have HAr:Sl (∀ W',Kp Ab w3 W'->Calls prog 14 #[.pointer (some ⟨P.s,0,none⟩)] W' λ e w'=>e=.returned (.pointer (some ⟨P.a,0,none⟩))/\w'=W'):=⟨λ W' k=>Ck P W f W' (HSp.out.Ad k)⟩
     have HTb:Sl (∀ W',Kp Ab w3 W'->Calls prog 15 #[.pointer (some ⟨P.s,0,none⟩)] W' λ e w'=>e=.returned (.pointer (some ⟨P.t,0,none⟩))/\w'=W'):=⟨λ W' k=>Fx P W f W' (HSp.out.Ad k)⟩
     have HStt:Sl (∀ W',Kp Ab w3 W'->Calls prog 22 #[.pointer (some ⟨P.s,0,none⟩)] W' λ e w'=>∃ p q,e=.returned (.pointer (some ⟨p,0,none⟩))/\W'.heap.size<=p/\W'.heap.size<=q/\AC w' p q f (P.n/2)/\Kp Ab W' w'):=⟨λ W' k=>Fy P W f W' (HSp.out.Ad k)⟩
     have hms:∀ x∈P.ts,x.m<18446744073709551616:=HBt.out.ms
     have HCh:Sl (∀ W' sp sq,Kp Ab w3 W'->AC W' sp sq f (P.n/2)->_):=⟨λ W' sp sq k hb=>Check_to P W f cs (P.n/2) sp sq f W' (HSp.out.Ad k) HCs.out.to hms hb⟩
     clear hk cb K3r hms
     go_wp2_with fail
     clear ca
     refine(HAr.out wr HK3r.out).mono ?_
     rintro e w8 ⟨rfl,rfl⟩
     go_wp2_with fail
     refine(HTb.out w8 HK3r.out).mono ?_
     rintro e w9 ⟨rfl,rfl⟩
     go_wp2_with fail
     refine(HStt.out w9 HK3r.out).mono ?_
     rintro e wa ⟨sp,sq,rfl,-,-,hbt,ka⟩
     have HKa:=sE (HK3r.out.then' ka)
     have HC2:=sE (HCh.out wa sp sq HKa.out hbt)
     clear ka hbt
     go_wp2_with fail
     refine HC2.out.mono ?_
     rintro e wb ⟨fv,rfl,hfo,kb⟩
     have HKb:Sl (Kp Ab w3 wb):=⟨HKa.out.then' kb⟩
     obtain⟨fl,hfl⟩:∃ fl,faultsL P.ts (P.n/2) W f cs (P.n/2)=fl:=⟨_,rfl⟩
     rw[hfl] at hfo
     obtain⟨fa,fc,rfl⟩:=Aw hfo
     have HAb:Sl (∀ W',Kp (λ k=>P.own k) wb W'->Calls prog 23 #[] W' λ e w'=>e=.returned (.bool true)/\Kp Ab W' w'):=⟨λ W' kk=>HAlive.out W' (((HK3.out.trans HKb.out (λ _ _ h=>h.elim)).trans kk (λ i _ h=>HBt.out.own i h)))⟩
     clear kb hfo HC2
     by_cases hf0:fl.length=0
     case neg=>
      have hfp:(0:Int)<(fl.length:Int):=by omega
      go_wp2_with fail
      refine(HAb.out wb (Kr _ _)).mono ?_
      rintro e wc ⟨rfl,kc⟩
      go_wp2
      go_ret
      exact⟨rfl,((HK3.out.trans HKb.out (λ _ _ h=>h.elim)).trans kc (λ _ _ h=>h.elim)).newW⟩
     case pos=>
     have hfn:¬ (0:Int)<(fl.length:Int):=by omega
     have HSame:Sl (CZ (Ch (Ak cs)) (rfG P.ts cs) (Ch (Ak cs)) W=W/\ET (Ch (Ak cs)) (rfG P.ts cs) (Ch (Ak cs)) W=0):=⟨stayP_same HCs.out (by
      have h1:=List.length_eq_zero_iff.1 hf0
      rw[<- hfl] at h1
      unfold faultsL at h1
      exact(List.append_eq_nil_iff.1 h1).2)⟩
     have HOb:Sl (∀ W',Kp Ab w3 W'->_):=⟨λ W' k=>Objects_at P cs W' ⟨W,f,HSp.out.Ad k,HCs.out,HSt.out⟩ HNe.out⟩
     obtain⟨ol,hol⟩:∃ ol,(Ak cs).length=ol:=⟨_,rfl⟩
     have HOl:=sE hol
     have holl:ol<=32768:=by
      have h1:(Ak cs).length<=cs.length:=List.length_filter_le _ _
      have h2:=BB HTl.out
      omega
     rw[hol] at HOb
     obtain⟨wc,hwc⟩:∃ wc,wc=wb.alloc (.cells #[.slice none 0 0] 33):=⟨_,rfl⟩
     obtain⟨D,hD⟩:∃ D,wb.heap.size=D:=⟨_,rfl⟩
     have kc:Kp Ab wb wc:=by rw[hwc];exact (Kr _ wb).alloc _
     have bc':wc.heap[D]?=some (.cells #[.slice none 0 0] 33 (0,0)):=by rw[hwc,<- hD];exact wN wb _
     have HKc:Sl (Kp Ab w3 wc):=⟨HKb.out.then' kc⟩
     have HBc:=sE bc'
     have HKbc:=sE kc
     clear hf0 hfl kc bc' hol
     go_wp2_with fail
     try rw[hD]
     rw[<- hwc]
     clear hwc
     refine(HOb.out wc HKc.out).mono ?_
     rintro e wd ⟨oa,oc,rfl,hor,kd⟩
     have HKd:=sE (HKc.out.then' kd)
     have HBd:=sE (kd.at_ HBc.out (λ h=>h))
     have HKbd:=sE (HKbc.out.then' kd)
     have HOr:=sE hor
     have ldd:=lt_of_heap HBd.out
     clear kd hor
     go_wp2_with fail
     have HnD:Sl (∀ b off z,wd.cell? ⟨b,off,none⟩=some (.int .i64 z)->¬ b=D):=⟨λ b off z h hb=>by
      subst hb
      simp only[World.cell?,HBd.out] at h
      cases off with
      |zero=>simp at h
      |succ k=>simp at h⟩
     have hde:D<wd.heap.size:=ldd
     obtain⟨E,hE⟩:∃ E,wd.heap.size=E:=⟨_,rfl⟩
     have HEe:=sE hE
     rw[hE] at hde
     go_loopw [25] (λ x25 wr=>∃ (j:Nat) (u:Value),j<=ol/\x25=.int .i64 (j:Nat)/\wr.heap[D]?=some (.cells #[u] 33 (0,0))/\wr.ownsRow E 43 3 u j (Bn (Ch ((Ak cs).take j)))/\Kp (λ k=>k=D) wd wr) (λ x25 _=>ol-(intOf x25).toNat)
     case atStart=>exact ⟨0,_,Nat.zero_le _,rfl,HBd.out,World.ownsRow_nil _ _ _ _,Kr _ _⟩
     case round=>
      obtain⟨j,uv,hj,rfl,hb,ho,hk⟩:=hrel
      have HK:=sE hk
      have HBj:=sE hb
      have HO:=sE ho
      obtain⟨ua,uc,rfl⟩:=Aw ho
      by_cases hjl:j<ol
      .have hjl':(j:Int)<(ol:Int):=by omega
       obtain⟨c,hcj⟩:∃ c,(Ak cs)[j]?=some c:=⟨_,List.getElem?_eq_getElem (by rw[HOl.out];exact hjl)⟩
       obtain⟨oa',oc',e,hx⟩:=HOr.out
       injection e with e1 e3 e2
       subst e1 e2
       obtain⟨bb,rfl,hbb,x0,-,-,-,x4⟩:=hx j c hcj
       have hbD:=HnD.out _ _ _ x0
       replace x0:=hk.cell x0 hbD
       replace x4:=hk.cell x4 hbD
       have HT:Sl (Bn (Ch ((Ak cs).take (j+1)))=Bn (Ch ((Ak cs).take j))++[.int .i64 (c.g:Nat),.int .i64 (c.g:Nat),.int .i64 (c.sz:Nat)]):=⟨by
        rw[Co hcj,Ch,List.map_append,FC]
        rfl⟩
       have cD:=cell_of_one hb
       have hzr:=hk.size
       have HX:=sE (And.intro x0 x4)
       clear hx hcj hk hb ho e3
       go_wp2_with fail
       have kk0:Kp Ab wr wr.drew:=(Kr _ _).drew
       refine wp_region_held_drew (S:=λ w'=>w'.cell? ⟨bb,j*5,none⟩=some (.int .i64 (c.g:Nat))/\w'.cell? ⟨bb,j*5+4,none⟩=some (.int .i64 (c.sz:Nat))) (by kernel_rfl) ?_ (λ hHeld=>?_)
       .exact ⟨x0,x4⟩
       refine Ao 0 ?_;refine Ao 2 ?_;refine Ao 3 ?_;refine Ao 4 ?_;refine Ao 5 ?_;refine Ao 6 ?_;refine Ao 7 ?_;refine Ao 8 ?_;refine Ao 9 ?_;refine Ao 10 ?_;refine Ao 11 ?_;refine Ao 12 ?_;refine Ao 13 ?_;refine Ao 14 ?_;refine Ao 15 ?_;refine Ao 16 ?_;refine Ao 17 ?_;refine Ao 18 ?_
       try simp only[Ar]
       refine AO [1,19] ?_
       refine Ai rfl (λ K hK=>?_) (Ai rfl (λ K hK=>?_) AllReadyH.nil)
       .skip
        have cD0:wr.drew.cell? ⟨D,0,none⟩=some (.slice ua j uc):=kk0.cell cD (λ h=>h)
        go_simp
        refine hK _ _ ?_ (λ hHeld=>?_)
        .exact ⟨Ac kk0 x0,Ac kk0 x4⟩
        clear hK K
        try simp only[Ar]
        refine AO [19] ?_
        refine Ag rfl (λ K hK=>?_)
        go_simp
        clear cD0
        obtain⟨w8,hw8⟩:∃ w8,w8=(wr.alloc (.cells #[.int .i64 (c.g:Nat),.int .i64 (c.g:Nat),.int .i64 (c.sz:Nat)] 43)).drew:=⟨_,rfl⟩
        have k8:Kp Ab wr w8:=by rw[hw8];exact ((Kr _ wr).alloc _).drew
        have b8:w8.heap[wr.heap.size]?=some (.cells #[.int .i64 (c.g:Nat),.int .i64 (c.g:Nat),.int .i64 (c.sz:Nat)] 43 (0,0)):=by rw[hw8];exact wN wr _
        rw[<- hw8]
        clear hw8
        refine hK _ _ ?_ (λ hHeld=>?_)
        .exact ⟨Ac k8 x0,Ac k8 x4⟩
        clear hK K
        try simp only[Ar]
        have o8:=Ah HO.out k8 (λ _ _ h=>h)
        have bD8:=k8.at_ HBj.out (λ h=>h)
        have z8:=k8.size
        have lw8:=lt_of_heap b8
        obtain⟨i0,hi,hz0,hz1,hz2⟩:=info_parts FE
        refine AO [20] ?_
        refine Ag rfl (λ K hK=>?_)
        refine Bv rfl rfl (.tmp 149) (.tmp 167) 31 rfl E 43 i0 _ 3 24 Cs hi hz0 hz1 hz2 rfl (by omega) (.slice ua j uc) j (Bn (Ch ((Ak cs).take j))) rfl o8 ⟨wr.heap.size,0,none⟩ 1 _ [.int .i64 (c.g:Nat),.int .i64 (c.g:Nat),.int .i64 (c.sz:Nat)] rfl rfl (World.news_of_block b8) (by intro u hu;simp at hu;rcases hu with rfl|rfl|rfl <;> rfl) (by unfold maxLen;omega) (by omega) (by omega) ?_
        intro nv w9 hown9 hgrow hblk
        obtain⟨na,nc,rfl⟩:=Aw hown9
        clear hi hz0 hz1 hz2
        have KA:Kp (λ b=>(Value.slice ua j uc).ownBlock=some b) w8 w9:=(Kr _ w8).grown hgrow (λ k e _=>by first|exact e|exact e.symm)
        have hnD:¬ (Value.slice ua j uc).ownBlock=some D:=λ h=>by have:=(Af HO.out h).1;omega
        have hnb:¬ (Value.slice ua j uc).ownBlock=some bb:=λ h=>by have:=(Af HO.out h).1;have:=HEe.out;omega
        have bD9:=KA.at_ bD8 hnD
        have cD9:=cell_of_one bD9
        have fD9:=free_of_one bD9
        have lD9:=lt_of_heap bD9
        have x09:=KA.cell (Ac k8 x0) hnb
        have x49:=KA.cell (Ac k8 x4) hnb
        refine hK _ _ ?_ (λ hHeld=>?_)
        .exact ⟨x09,x49⟩
        clear hK K
        try simp only[Ar]
        refine Ao 21 ?_
        try simp only[Ar]
        refine AO [22] ?_
        refine Ag rfl (λ K hK=>?_)
        go_simp
        have ks:Kp (λ k=>k=D) w9 (w9.setCell ⟨D,0,none⟩ (.slice na (j+1) nc)):=(Kr (λ k=>k=D) w9).setCell (λ _=>rfl) _
        refine hK _ _ ?_ (λ hHeld=>?_)
        .exact ⟨ks.cell x09 (show ¬ _=_ from hbD),ks.cell x49 (show ¬ _=_ from hbD)⟩
        clear hK K
        try simp only[Ar]
        refine wpAnyH_done (by kernel_rfl) ?_ _
        have HFin:Sl (wr.heap.size<=w9.heap.size):=⟨by have:=KA.size;omega⟩
        have HO9:=sE (Ah hown9 ks (λ b hb h=>by have:=(Af hown9 hb).1;have h':b=D:=h;omega))
        have HB9:=sE (Fe bD9 (.slice na (j+1) nc))
        have HK9:Sl (Kp (λ k=>k=D) wd (w9.setCell ⟨D,0,none⟩ (.slice na (j+1) nc))):=⟨((HK.out.trans k8 (λ _ _ h=>h.elim)).trans (S':=λ b=>(Value.slice ua j uc).ownBlock=some b) KA (λ i hi h=>by have:=(Af HO.out h).1;have:=HEe.out;omega)).trans ks (λ _ _ h=>h)⟩
        clear hHeld hown9 hgrow hblk KA hnD hnb bD9 cD9 fD9 x09 x49 ks o8 bD8 b8 k8 kk0 cD x0 x4
        go_wp2_with fail
        exact⟨⟨j+1,.slice na (j+1) nc,by omega,by go_num,HB9.out,by rw[HT.out];exact HO9.out,HK9.out⟩,by simp only[intOf];omega⟩
       .skip
        go_simp
        obtain⟨w8,hw8⟩:∃ w8,w8=(wr.alloc (.cells #[.int .i64 (c.g:Nat),.int .i64 (c.g:Nat),.int .i64 (c.sz:Nat)] 43)).drew:=⟨_,rfl⟩
        have k8:Kp Ab wr w8:=by rw[hw8];exact ((Kr _ wr).alloc _).drew
        have b8:w8.heap[wr.heap.size]?=some (.cells #[.int .i64 (c.g:Nat),.int .i64 (c.g:Nat),.int .i64 (c.sz:Nat)] 43 (0,0)):=by rw[hw8];exact wN wr _
        rw[<- hw8]
        clear hw8
        refine hK _ _ ?_ (λ hHeld=>?_)
        .exact ⟨Ac k8 x0,Ac k8 x4⟩
        clear hK K
        try simp only[Ar]
        have cD8:w8.cell? ⟨D,0,none⟩=some (.slice ua j uc):=k8.cell cD (λ h=>h)
        refine AO [1] ?_
        refine Ag rfl (λ K hK=>?_)
        go_simp
        refine hK _ _ ?_ (λ hHeld=>?_)
        .exact ⟨Ac k8 x0,Ac k8 x4⟩
        clear hK K
        try simp only[Ar]
        clear cD8
        have o8:=Ah HO.out k8 (λ _ _ h=>h)
        have bD8:=k8.at_ HBj.out (λ h=>h)
        have z8:=k8.size
        have lw8:=lt_of_heap b8
        obtain⟨i0,hi,hz0,hz1,hz2⟩:=info_parts FE
        refine AO [20] ?_
        refine Ag rfl (λ K hK=>?_)
        refine Bv rfl rfl (.tmp 149) (.tmp 167) 31 rfl E 43 i0 _ 3 24 Cs hi hz0 hz1 hz2 rfl (by omega) (.slice ua j uc) j (Bn (Ch ((Ak cs).take j))) rfl o8 ⟨wr.heap.size,0,none⟩ 1 _ [.int .i64 (c.g:Nat),.int .i64 (c.g:Nat),.int .i64 (c.sz:Nat)] rfl rfl (World.news_of_block b8) (by intro u hu;simp at hu;rcases hu with rfl|rfl|rfl <;> rfl) (by unfold maxLen;omega) (by omega) (by omega) ?_
        intro nv w9 hown9 hgrow hblk
        obtain⟨na,nc,rfl⟩:=Aw hown9
        clear hi hz0 hz1 hz2
        have KA:Kp (λ b=>(Value.slice ua j uc).ownBlock=some b) w8 w9:=(Kr _ w8).grown hgrow (λ k e _=>by first|exact e|exact e.symm)
        have hnD:¬ (Value.slice ua j uc).ownBlock=some D:=λ h=>by have:=(Af HO.out h).1;omega
        have hnb:¬ (Value.slice ua j uc).ownBlock=some bb:=λ h=>by have:=(Af HO.out h).1;have:=HEe.out;omega
        have bD9:=KA.at_ bD8 hnD
        have cD9:=cell_of_one bD9
        have fD9:=free_of_one bD9
        have lD9:=lt_of_heap bD9
        have x09:=KA.cell (Ac k8 x0) hnb
        have x49:=KA.cell (Ac k8 x4) hnb
        refine hK _ _ ?_ (λ hHeld=>?_)
        .exact ⟨x09,x49⟩
        clear hK K
        try simp only[Ar]
        refine Ao 21 ?_
        try simp only[Ar]
        refine AO [22] ?_
        refine Ag rfl (λ K hK=>?_)
        go_simp
        have ks:Kp (λ k=>k=D) w9 (w9.setCell ⟨D,0,none⟩ (.slice na (j+1) nc)):=(Kr (λ k=>k=D) w9).setCell (λ _=>rfl) _
        refine hK _ _ ?_ (λ hHeld=>?_)
        .exact ⟨ks.cell x09 (show ¬ _=_ from hbD),ks.cell x49 (show ¬ _=_ from hbD)⟩
        clear hK K
        try simp only[Ar]
        refine wpAnyH_done (by kernel_rfl) ?_ _
        have HFin:Sl (wr.heap.size<=w9.heap.size):=⟨by have:=KA.size;omega⟩
        have HO9:=sE (Ah hown9 ks (λ b hb h=>by have:=(Af hown9 hb).1;have h':b=D:=h;omega))
        have HB9:=sE (Fe bD9 (.slice na (j+1) nc))
        have HK9:Sl (Kp (λ k=>k=D) wd (w9.setCell ⟨D,0,none⟩ (.slice na (j+1) nc))):=⟨((HK.out.trans k8 (λ _ _ h=>h.elim)).trans (S':=λ b=>(Value.slice ua j uc).ownBlock=some b) KA (λ i hi h=>by have:=(Af HO.out h).1;have:=HEe.out;omega)).trans ks (λ _ _ h=>h)⟩
        clear hHeld hown9 hgrow hblk KA hnD hnb bD9 cD9 fD9 x09 x49 ks o8 bD8 b8 k8 kk0 cD x0 x4
        go_wp2_with fail
        exact⟨⟨j+1,.slice na (j+1) nc,by omega,by go_num,HB9.out,by rw[HT.out];exact HO9.out,HK9.out⟩,by simp only[intOf];omega⟩
      .have hjl':¬ (j:Int)<(ol:Int):=by omega
       obtain rfl:j=ol:=by omega
       have ht:(Ak cs).take j=Ak cs:=List.take_of_length_le (by rw[HOl.out];exact Nat.le_refl _)
       have hsl:(Ch (Ak cs)).length=j:=by unfold Ch;rw [List.length_map,HOl.out]
       have hzb:=HKb.out.size
       have hzd:=HKbd.out.size
       have HDe:Sl (wb.heap.size=D):=⟨hD⟩
       have K3r:Kp Ab w3 wr:=((HKd.out.Am (λ k=>k=D)).trans hk (λ _ _ h=>h)).mono (λ i hi h=>by have h':i=D:=h;have:=HDe.out;omega)
       have HK3r:=sE K3r
       have HRw:Sl (C9 wr (.slice ua j uc) (Ch (Ak cs))):=⟨by
        have:=ho
        rw[ht,<- hsl] at this
        have h2:=C9.Bd this
        rwa [hsl] at h2⟩
       have hms:∀ x∈P.ts,x.m<18446744073709551616:=HBt.out.ms
       have HDo:Sl _:=⟨TDo_at P W cs (Ch (Ak cs)) (.slice ua j uc) wr ⟨f,HSp.out.Ad K3r,HCs.out,HSt.out⟩ HRw.out (stayP_good HTl.out) (by rw[hsl];omega) hms (λ b o l c h hb=>by
        have h1:=(Af ho (b:=b) (by injection h with h;rw [h];rfl)).1
        have h2:=HSp.out.lt b (Sp.BG hb)
        have:=HDe.out
        omega)⟩
       have HOw:=sE ho
       have cD:=cell_of_one hb
       clear hk ho hb hms K3r
       go_wp2_with fail
       refine HDo.out.mono ?_
       rintro e we ⟨rfl,hSe,ke⟩
       rw[HSame.out.1] at hSe
       rw[HSame.out.2]
       have lB:∀ k,P.own k->k<w3.heap.size:=λ k hk=>HSp.out.lt k (Sp.BG hk)
       have hDe:=HDe.out
       have hnD:¬ (D=P.a\/D=P.q):=λ h=>by have:=lB D (by rcases h with h|h;exact .inl h;exact .inr (.inl h));omega
       have HBe:=sE (ke.at_ HBj.out hnD)
       have HKe:=sE ke
       have HSe:=sE hSe
       have hnU:∀ b,(Value.slice ua j uc).ownBlock=some b->¬ (b=P.a\/b=P.q):=λ b hb h=>by
        have h1:=(Af HOw.out hb).1
        have h2:=lB b (by rcases h with h|h;exact .inl h;exact .inr (.inl h))
        omega
       have HOe:=sE (Ah HOw.out ke (λ b hb h=>hnU b hb h))
       have HRe:Sl (C9 we (.slice ua j uc) (Ch (Ak cs))):=⟨by
        have:=HOe.out
        rw[ht,<- hsl] at this
        have h2:=C9.Bd this
        rwa [hsl] at h2⟩
       have K3e:Kp (λ k=>k=P.a\/k=P.q) w3 we:=(HK3r.out.Am _).trans ke (λ _ _ h=>h)
       have hown:∀ k,(k=P.a\/k=P.q)->P.own k:=λ k h=>by rcases h with h|h;exact .inl h;exact .inr (.inl h)
       have HKb0:Sl (Kp (λ k=>w2.heap.size<=k) w2 we):=⟨HK3.out.trans K3e (λ i _ h=>HBt.out.own i (hown i h))⟩
       have HDc:Sl (DocAt we rb q P.n W (.slice a1 l1 c1)):=⟨HBt.out.dc.keep K3e (λ h=>HBt.out.rbn (Sp.BG (hown _ h))) (λ h=>HBt.out.qn (Sp.BG (hown _ h)))⟩
       have HTy:Sl (AV we (.slice a1 l1 c1) P.ts):=⟨HBt.out.ty.FH HKb0.out⟩
       have HSm9:Sl (∀ W',Kp Ab we W'->Calls prog 29 #[.pointer (some ⟨P.s,0,none⟩),.pointer (some ⟨rb,0,none⟩)] W' λ e w'=>e=.returned (.bool true)/\Kp Ab W' w'):=⟨λ W' k=>Same09_at P W cs rb q _ W' (hsW1 HSe.out k) (HDc.out.Ad k) (HTy.out.FH (k.Am _)) HBt.out.few' HBt.out.ms⟩
       have HBk2:Sl (∀ W',Kp Ab we W'->Calls prog 24 #[.agg #[.slice ua j uc]] W' (BackPost (Ch (Ak cs)) W')):=⟨λ W' k=>TBack_at _ _ W' (HRe.out.Ad k) (by rw[hsl];omega)⟩
       have HS22:Sl (∀ W' v,Kp Ab we W'->C9 W' v (Ch (Ak cs))->Calls prog 30 #[.agg #[v],.agg #[.slice ua j uc]] W' λ e w'=>e=.returned (.bool true)/\Kp Ab W' w'):=⟨λ W' v k h=>SameP_yes _ _ _ W' h (HRe.out.Ad k) (by rw[hsl];omega)⟩
       have HCl:Sl (∀ W',Kp Ab we W'->Calls prog 32 #[.pointer (some ⟨P.s,0,none⟩)] W' λ e w'=>∃ v,e=.returned v/\w'.ownsRow W'.heap.size 71 5 v cs.length (BP cs)/\Kp Ab W' w'):=⟨λ W' k=>Cells_at P cs W' ⟨W,hsW1 HSe.out k⟩⟩
       have hcl:=BB HTl.out
       have hol2:(Ak cs).length=j:=HOl.out
       have ce:=cell_of_one HBe.out
       clear hSe ke K3e HDo cD ht
       go_wp2_with fail
       have kk0:Kp Ab we we.drew:=(Kr _ _).drew
       refine wp_region_held_drew (S:=λ w'=>w'.cell? ⟨D,0,none⟩=some (.slice ua j uc)) (by kernel_rfl) ?_ (λ hHeld=>?_)
       .exact ce
       refine Ao 0 ?_;refine Ao 1 ?_;refine Ao 2 ?_;refine Ao 3 ?_;refine Ao 4 ?_;refine Ao 5 ?_;refine Ao 6 ?_;refine Ao 7 ?_;refine Ao 8 ?_
       try simp only[Ar]
       refine AO [9] ?_
       refine Ag rfl (λ K hK=>?_)
       go_simp
       go_at_call 29
       (with_reducible refine(HSm9.out _ kk0).mono ?_)
       rintro e wf ⟨rfl,kf⟩
       have Kf:Kp Ab we wf:=kk0.then' kf
       refine hK _ _ ?_ (λ hHeld=>?_)
       .exact Ac Kf ce
       clear hK K
       try simp only[Ar]
       refine Ao 10 ?_;refine Ao 11 ?_;refine Ao 12 ?_;refine Ao 14 ?_
       try simp only[Ar]
       refine AO [13] ?_
       refine Ag rfl (λ K hK=>?_)
       go_simp
       go_at_call 24
       (with_reducible refine(HBk2.out _ Kf).mono ?_)
       rintro e wg ⟨bk,rfl,hbko,kg⟩
       have Kg:Kp Ab we wg:=Kf.then' kg
       have HRg:C9 wg bk (Ch (Ak cs)):=by
        rw[stayP_back] at hbko
        exact C9.Bd hbko
       refine hK _ _ ?_ (λ hHeld=>?_)
       .exact Ac Kg ce
       clear hK K
       try simp only[Ar]
       refine AO [15] ?_
       refine Ag rfl (λ K hK=>?_)
       go_simp
       go_at_call 30
       (with_reducible refine(HS22.out _ _ Kg HRg).mono ?_)
       rintro e wh ⟨rfl,kh⟩
       have Kh:Kp Ab we wh:=Kg.then' kh
       refine hK _ _ ?_ (λ hHeld=>?_)
       .exact Ac Kh ce
       clear hK K
       try simp only[Ar]
       refine Ao 16 ?_;refine Ao 17 ?_;refine Ao 18 ?_;refine Ao 22 ?_;refine Ao 23 ?_
       try simp only[Ar]
       refine AO [19] ?_
       refine Ag rfl (λ K hK=>?_)
       go_simp
       go_at_call 32
       (with_reducible refine(HCl.out _ Kh).mono ?_)
       rintro e wi ⟨cv,rfl,hco,ki⟩
       have Ki:Kp Ab we wi:=Kh.then' ki
       refine hK _ _ ?_ (λ hHeld=>?_)
       .exact Ac Ki ce
       clear hK K
       try simp only[Ar]
       refine AO [20] ?_
       refine Ag rfl (λ K hK=>?_)
       go_simp
       go_at_call 31
       (with_reducible refine(Objs10_at cs cv wi (RowC.Bd hco) (by omega)).mono ?_)
       rintro e wj ⟨ov,rfl,hoo,kj⟩
       have Kj:Kp Ab we wj:=Ki.then' kj
       obtain⟨ova,ovc,rfl⟩:=Aw hoo
       rw[hol2]
       refine hK _ _ ?_ (λ hHeld=>?_)
       .exact Ac Kj ce
       clear hK K
       try simp only[Ar]
       refine Ao 21 ?_;refine Ao 24 ?_;refine Ao 25 ?_;refine Ao 26 ?_
       try simp only[Ar]
       refine AO [27] ?_
       refine Ag rfl (λ K hK=>?_)
       go_simp
       go_at_call 23
       (with_reducible refine(HAlive.out _ (HKb0.out.trans (Kj.Am (λ k=>w2.heap.size<=k)) (λ _ _ h=>h))).mono ?_)
       rintro e wk ⟨rfl,kk⟩
       have Kk:Kp Ab we wk:=Kj.then' kk
       refine hK _ _ ?_ (λ hHeld=>?_)
       .exact Ac Kk ce
       clear hK K
       try simp only[Ar]
       refine Ao 28 ?_;refine Ao 29 ?_
       try simp only[Ar]
       refine wpAnyH_done (by kernel_rfl) ?_ _
       go_wp2_with fail
       go_ret
       exact⟨rfl,(HKb0.out.trans (Kk.Am (λ k=>w2.heap.size<=k)) (λ _ _ h=>h)).newW⟩

end Go.Proofs.YtmfajopmppfldaaGreatDoor
