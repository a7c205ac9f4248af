/-
  The law SlideTells, walked.
-/
import Derived.Test.YtmfajopmppfldaaGreatDoorQbw
import Derived.Test.YtmfajopmppfldaaGreatDoorQbs
import Derived.Test.YtmfajopmppfldaaGreatDoorQbr
import Derived.Test.YtmfajopmppfldaaGreatDoorQbm
import Derived.Test.YtmfajopmppfldaaGreatDoorQas
set_option linter.unusedVariables false
set_option maxHeartbeats 16000000
namespace Go.Proofs.YtmfajopmppfldaaGreatDoor
open Go.Proofs.Tryz
open Go.RowKit

theorem riseN_len(xs:List Nat):(BQ xs).length<=xs.length:=by
 have h:=congrArg List.length (riseN_cast xs)
 rw[List.length_map] at h
 rw[h]
 have:=riseL_len (xs.map λ(n:Nat)=>(n:Int))
 rwa [List.length_map] at this

theorem planOf_len{cs:List Cel}{pins l:List Nat}{H:Nat}(ht:Au 0 cs H)(ho:∀ g∈l,CX cs g):(BU cs pins (BQ l) H).length<=l.length:=by
 have h:=congrArg List.length (FJ (pins:=pins) ht (EZ l) λ g hg=>ho g (Eg.1 hg)).1
 rw[List.length_map] at h
 rw[h]
 exact riseN_len l

theorem DR.Ad{w w':World}{v:Value}{len:Nat}{d g i n y:Nat->Int}{u:Nat->Value}{m:Nat->Nat}(h:DR w v len d g i n y u m)(k:Kp Ab w w'):DR w' v len d g i n y u m:=by
 obtain⟨a,cap,rfl,hx⟩:=h
 refine⟨a,cap,rfl,λ j hj=>?_⟩
 obtain⟨b,o,hab,hb,x0,x1,x2,x3,x4,x5,hr⟩:=hx j hj
 exact⟨b,o,hab,Nat.lt_of_lt_of_le hb k.size,Ac k x0,Ac k x1,Ac k x2,Ac k x3,Ac k x4,Ac k x5,hr⟩

theorem AtsAt.Ad{w w':World}{len:Nat}{u:Nat->Value}{m:Nat->Nat}(h:AtsAt w len u m)(k:Kp Ab w w'):AtsAt w' len u m:=λ j hj=>by
 obtain⟨x,hx⟩:=h j hj
 exact⟨x,hx.keepN1 k⟩

theorem RowH.keepB{S:Nat->Prop}{w w':World}{v:Value}{es:List (Int×Int×Int)}(h:RowH w v es)(k:Kp S w w')(hS:∀ b,b<w.heap.size->¬ S b):RowH w' v es:=by
 obtain⟨a,cap,rfl,h⟩:=h
 refine⟨a,cap,rfl,λ i x hi=>?_⟩
 obtain⟨b,o,rfl,h1,h2,h3,h4⟩:=h i x hi
 have hn:=hS b h1
 exact⟨b,o,rfl,Nat.lt_of_lt_of_le h1 k.size,k.cell h2 hn,k.cell h3 hn,k.cell h4 hn⟩

set_option maxRecDepth 20000 in
theorem slidetells_walk(n:Int)(v1 v2 v3 v4 pu:Value)(ab:Bool)(xs:List TypR)(len:Nat)(d g i nn y:Nat->Int)(u:Nat->Value)(m:Nat->Nat)(ns:Nat)(ys:Nat->Nat)(np:Nat)(yp:Nat->Nat)(es:List (Int×Int×Int))(w:World)(hF:Av w)(h1:AO w v1 xs)(h2:DR w v2 len d g i nn y u m)
  (hl:xs.length<=17592186044416) (hM:Cg xs) (hl2:len<=17592186044416) (hy:∀ j,j<len->0<=y j/\y j<=18446744073709551615) (hA:AtsAt w len u m) (hb3:BytesIn w v3 ns ys) (hl3:ns<=140737488355328) (hb4:BytesIn w v4 np yp) (hl4:np<=140737488355328) (hp:RowH w pu es) (hpl:es.length<=17592186044416):
  Calls prog 5 #[.int .i64 n,v1,v2,v3,v4,.agg #[pu],.bool ab] w λ e w'=>e=.returned (.bool true)/\Kp Ab w w':=by
 obtain⟨B,hB⟩:∃ B,w.heap.size=B:=⟨_,rfl⟩
 obtain⟨w1,hw1⟩:∃ w1,w1=w.alloc (.cells #[pu] 33):=⟨_,rfl⟩
 have k1:Kp Ab w w1:=by rw[hw1];exact (Kr _ w).alloc _
 have b1:w1.heap[B]?=some (.cells #[pu] 33 (0,0)):=by rw[hw1,<- hB];exact wN w _
 replace h1:=h1.Ad k1
 replace h2:=h2.Ad k1
 replace hA:=hA.Ad k1
 replace hb3:=hb3.Ad k1
 replace hb4:=hb4.Ad k1
 replace hF:=hF.Ad k1
 replace hp:=hp.Ad k1
 have HK1:=sE k1
 have HB1:=sE b1
 have c0:=cell_of_one b1
 have HP1:=sE hp
 have HAlive:Sl (∀ W',Kp (λ k=>w1.heap.size<=k) w1 W'->Calls prog 7 #[] W' λ e w'=>e=.returned (.bool true)/\Kp Ab W' w'):=⟨λ W' kk=>alive24 W' (hF.keep kk (by have:=hF.1;omega))⟩
 have HH:=sE (Heavy9_any n v1 v2 xs len d g i nn y u m w1 h1 h2 hl hl2)
 have HWl:=sE (wild_any pu es w1 hp hpl)
 have HPl:Sl (len<=60->(∀ j,j<len->m j<=300)->∀ W',Kp Ab w1 W'->Calls prog 8 #[.int .i64 n,v1,v2] W' (Eb n xs v1 W')):=⟨λ q1 q2 W' k=>Played_any n v1 v2 xs len d g i nn y u m W' (hF.Ad k) (h1.Ad k) hl hM (h2.Ad k) q1 hy (hA.Ad k) q2⟩
 have hv1:∃ a l c,v1=.slice a l c:=by obtain⟨a,c,h,-⟩:=h1;exact ⟨_,_,_,h⟩
 have hv2:∃ a l c,v2=.slice a l c:=by obtain⟨a,c,h,-⟩:=h2;exact ⟨_,_,_,h⟩
 obtain⟨a1,l1,c1,rfl⟩:=hv1
 obtain⟨a2,l2,c2,rfl⟩:=hv2
 have HB3:=sE hb3
 have HB4:=sE hb4
 obtain⟨a3,c3,rfl,-⟩:=hb3
 obtain⟨a4,c4,rfl,-⟩:=hb4
 have u0:IntKind.i64.wrap ((ns:Int)+(np:Int))=(ns:Int)+(np:Int):=by rw[IntKind.wrap_i64];omega
 have HKr:Sl (Kp (λ k=>w1.heap.size<=k) w1 w1):=⟨Kr _ _⟩
 clear hF h1 h2 hM hy hA hl hl2 hp k1 b1
 by_cases hs3:ns+np<=80
 case neg=>
  have p5:decide ((80:Int)<(ns:Int)+(np:Int))=true:=dT (by omega)
  clear hs3
  go_enter func5,ntmps5
  go_wp2_with fail
  rw[<- hw1]
  clear hw1
  try rw[hB]
  refine HH.out.mono ?_
  rintro e w2 ⟨t,rfl,rfl,ht⟩
  clear ht
  cases t
  all_goals
   go_wp2_with fail
   refine(HAlive.out _ HKr.out).mono ?_
   rintro e w3 ⟨rfl,k3⟩
   go_wp2
   go_ret
   exact⟨rfl,HK1.out.then' k3⟩
 case pos=>
 have p5:decide ((80:Int)<(ns:Int)+(np:Int))=false:=dF (by omega)
 go_enter func5,ntmps5
 go_wp2_with fail
 rw[<- hw1]
 clear hw1
 try rw[hB]
 refine HH.out.mono ?_
 rintro e w2 ⟨t,rfl,rfl,ht⟩
 obtain⟨w1,rfl⟩:∃ w1:World,w1=w2:=⟨_,rfl⟩
 cases t with
 |true=>
  clear ht
  go_wp2_with fail
  refine(HAlive.out _ HKr.out).mono ?_
  rintro e w3 ⟨rfl,k3⟩
  go_wp2
  go_ret
  exact⟨rfl,HK1.out.then' k3⟩
 |false=>
  obtain⟨-,-,q1,q2⟩:=ht rfl
  have HPp:=sE (HPl.out q1 q2)
  clear q1 q2 ht HPl
  go_wp2_with fail
  refine HWl.out.mono ?_
  rintro e wp ⟨t2,rfl,kp,ht2⟩
  have HKp:=sE kp
  cases t2 with
  |true=>
   clear ht2 kp
   go_wp2_with fail
   refine(HAlive.out _ (HKp.out.Ak _)).mono ?_
   rintro e w3 ⟨rfl,k3⟩
   go_wp2
   go_ret
   exact⟨rfl,HK1.out.then' (HKp.out.then' k3)⟩
  |false=>
  have hes:es.length<=60:=ht2 rfl
  have HPq:=sE (HPp.out wp kp)
  have HBp:=sE (kp.at_ HB1.out (λ h=>h))
  have HPu:=sE (HP1.out.Ad kp)
  replace c0:=kp.cell c0 (λ h=>h)
  clear ht2 kp HPp
  go_wp2_with fail
  refine HPq.out.mono ?_
  rintro e w3 (⟨rfl,k3⟩|⟨P,rb,q,W,cs,rfl,hBt,hPn,hPs,h16⟩)
  .have HK3:Sl (Kp Ab w1 w3):=⟨HKp.out.then' k3⟩
   clear k3
   go_wp2_with fail
   refine(HAlive.out _ (HK3.out.Ak _)).mono ?_
   rintro e w4 ⟨rfl,k4⟩
   go_wp2
   go_ret
   exact⟨rfl,HK1.out.then' (HK3.out.then' k4)⟩
  .have HBt:=sE hBt
   obtain⟨f,hsp,hcs,hst⟩:=hBt.sp
   have HK3:Sl (Kp (λ k=>wp.heap.size<=k) wp w3):=⟨hBt.kb⟩
   have hcn:cs≠[]:=λ e=>by
    have:=hcs.tl
    rw[e] at this
    have h0:0=P.n/2:=this
    omega
   have hsm:=hsp.ar.small
   have HK13:Sl (Kp Ab w1 w3):=⟨HKp.out.then' HK3.out.newW⟩
   have HPd:=sE (Planned23_at P W f cs w3 _ _ ns np ys yp hsp hcs hst hcn (HB3.out.Ad HK13.out) (HB4.out.Ad HK13.out) (by omega) (by omega))
   have hro:∀ (ys:Nat->Nat) (n:Nat),∀ g∈A8 (Ap cs) ys n,CX cs g:=λ ys n=>roots_obj
   obtain⟨H,hH⟩:∃ H,P.n/2=H:=⟨_,rfl⟩
   have HTl:Sl (Au 0 cs H):=⟨by rw[<- hH];exact hcs.tl⟩
   rw[hH] at HPd
   obtain⟨L,hL⟩:∃ L,BU cs (A8 (Ap cs) yp np) (BQ (A8 (Ap cs) ys ns++A8 (Ap cs) yp np)) H=L:=⟨_,rfl⟩
   have HGd:Sl (GoodP cs L):=⟨by rw[<- hL];exact planOf_good HTl.out (hro ys ns) (hro yp np)⟩
   rw[hL] at HPd
   have HL2:Sl (L.length<=1000):=⟨by
    rw[<- hL]
    have:=planOf_len (pins:=A8 (Ap cs) yp np) HTl.out (l:=A8 (Ap cs) ys ns++A8 (Ap cs) yp np) (λ g hg=>by rcases List.mem_append.1 hg with h|h;exact hro ys ns g h;exact hro yp np g h)
    rw[List.length_append] at this
    have h1:=Fj (Ap cs) ys ns
    have h2:=Fj (Ap cs) yp np
    omega⟩
   have HP3:Sl (RowH w3 pu es):=⟨HPu.out.keepB HK3.out (λ b h1 h2=>by omega)⟩
   have HC3:Sl (w3.cell? ⟨B,0,none⟩=some pu):=⟨HK3.out.cell c0 (λ h=>by have:=lZ HBp.out;have h':wp.heap.size<=B:=h;omega)⟩
   have hlt:=hBt.lt
   have HDo:Sl (∀ W' v,Kp Ab w3 W'->Du W' v L->(∀ b o l c,v=.slice (some ⟨b,o,none⟩) l c->w3.heap.size<=b)->Calls prog 35 #[.pointer (some ⟨P.s,0,none⟩),.pointer (some ⟨rb,0,none⟩),.agg #[v],.bool ab] W' λ e w'=>e=.returned (.bool true)/\Kp (λ k=>P.own k\/k=rb) W' w'):=⟨λ W' v k hr hb=>by
    have b':=HBt.out.Ad k
    refine Does24_yes ab P W cs L rb q _ v W' b'.sp b'.dc (λ w' k'=>b'.ty.FD (b'.kb.trans k' λ i hi h=>?_)) b'.few' b'.ms hr HGd.out HL2.out (by omega) b'.rbn b'.qn (λ b o l c e=>?_)
    .rcases h with h|h|h
     .exact b'.own i h
     .rw [h];exact b'.rb0
     .have:=b'.size;omega
    .have h1:=hb b o l c e
     refine⟨λ h=>?_,λ h=>?_⟩
     .have:=HBt.out.lt b (Sp.BH h);omega
     .have:=HBt.out.dc.lt;omega⟩
   have HFi:Sl (∀ W',Kp Ab w3 W'->Calls prog 34 #[.pointer (some ⟨rb,0,none⟩),.agg #[pu]] W' (FitsPost cs es W')):=⟨λ W' k=>by
    have b':=HBt.out.Ad k
    exact DFits_at P W cs es rb q _ pu W' b'.cells b'.dc b'.tyAt b'.few' b'.ms (HP3.out.Ad k) (by omega)⟩
   have HNo:Sl (¬ Cs cs es->∀ W',Kp Ab w3 W'->Calls prog 35 #[.pointer (some ⟨P.s,0,none⟩),.pointer (some ⟨rb,0,none⟩),.agg #[pu],.bool ab] W' λ e w'=>e=.returned (.bool true)/\Kp Ab W' w'):=⟨λ hf W' k=>by
    have b':=HBt.out.Ad k
    exact Does24_no ab P W cs es rb q _ pu W' b'.sp b'.dc b'.tyAt b'.few' b'.ms (HP3.out.Ad k) (by omega) hf⟩
   have HEnd:Sl (∀ W' w8,Kp Ab w3 W'->Kp (λ k=>P.own k\/k=rb) W' w8->Kp (λ k=>w1.heap.size<=k) w1 w8/\Kp Ab w w8):=⟨λ W' w8 k k8=>by
    have kk:Kp (λ k=>wp.heap.size<=k) wp w8:=(HK3.out.trans (k.Ak _) (λ _ _ h=>h)).trans k8 (λ i hi h=>by
     rcases h with h|h
     .exact HBt.out.own i h
     .rw [h];exact HBt.out.rb0)
    have k18:Kp Ab w1 w8:=HKp.out.then' kk.newW
    exact⟨k18.Ak _,HK1.out.then' k18⟩⟩
   clear hsp hcs hst hcn hro hH hL HH HWl HPq hPn hPs h16 hBt hlt c0 hes
   go_wp2_with fail
   refine HPd.out.mono ?_
   rintro e w4 ⟨pv,rfl,hrow,k4⟩
   obtain⟨pa,pc,rfl⟩:=AA hrow
   have HR4:Sl (Du w4 (.slice pa L.length pc) L):=⟨Du.Br hrow⟩
   have HRb:Sl (∀ b o l c,Value.slice pa L.length pc=.slice (some ⟨b,o,none⟩) l c->w3.heap.size<=b):=⟨λ b o l c h=>by
    injection h with h1
    subst h1
    exact(Af hrow (b:=b) rfl).1⟩
   obtain⟨pl,hpll⟩:∃ pl,L.length=pl:=⟨_,rfl⟩
   rw[hpll] at HR4 HRb ⊢
   obtain⟨A,hA⟩:∃ A,w4.heap.size=A:=⟨_,rfl⟩
   obtain⟨w5,hw5⟩:∃ w5,w5=w4.alloc (.cells #[.slice pa pl pc] 33):=⟨_,rfl⟩
   have k5:Kp Ab w4 w5:=by rw[hw5];exact (Kr _ w4).alloc _
   have b5:w5.heap[A]?=some (.cells #[.slice pa pl pc] 33 (0,0)):=by rw[hw5,<- hA];exact wN w4 _
   have HK5:Sl (Kp Ab w3 w5):=⟨k4.then' k5⟩
   have HR5:Sl (Du w5 (.slice pa pl pc) L):=⟨HR4.out.Ad k5⟩
   have c5:=cell_of_one b5
   have c0:=HK5.out.cell HC3.out (λ h=>h)
   clear hrow k4 hpll HPd k5 b5
   go_upto_region 7 with fail
   try rw[hA]
   rw[<- hw5]
   clear hw5
   go_wp2_with fail
   refine(HFi.out _ HK5.out).mono ?_
   rintro e w6 ⟨(⟨-,rfl⟩|⟨hno,rfl⟩),k6⟩
   .have HK6:Sl (Kp Ab w5 w6):=⟨k6⟩
    replace c5:=k6.cell c5 (λ h=>h)
    clear k6 c0
    go_wp2_with fail
    refine(HDo.out _ _ (HK5.out.then' HK6.out) (HR5.out.Ad HK6.out) HRb.out).mono ?_
    rintro e w8 ⟨rfl,k8⟩
    have HE:=sE (HEnd.out _ _ (HK5.out.then' HK6.out) k8)
    clear k8 c5
    go_wp2_with fail
    refine(HAlive.out _ HE.out.1).mono ?_
    rintro e w9 ⟨rfl,k9⟩
    go_wp2_with fail
    exact bodyPost_ret (v:=.bool true) (by simp[results,results5,go_sem]) rfl ⟨rfl,HE.out.2.then' k9⟩
   .have HNn:=sE (HNo.out hno)
    have HK6:Sl (Kp Ab w5 w6):=⟨k6⟩
    replace c5:=k6.cell c5 (λ h=>h)
    replace c0:=k6.cell c0 (λ h=>h)
    clear k6 hno
    go_wp2_with fail
    refine(HNn.out _ (HK5.out.then' HK6.out)).mono ?_
    rintro e w7 ⟨rfl,k7⟩
    have HK7:Sl (Kp Ab w5 w7):=⟨HK6.out.then' k7⟩
    replace c5:=k7.cell c5 (λ h=>h)
    clear k7 c0
    go_wp2_with fail
    refine(HDo.out _ _ (HK5.out.then' HK7.out) (HR5.out.Ad HK7.out) HRb.out).mono ?_
    rintro e w8 ⟨rfl,k8⟩
    have HE:=sE (HEnd.out _ _ (HK5.out.then' HK7.out) k8)
    clear k8 c5
    go_wp2_with fail
    refine(HAlive.out _ HE.out.1).mono ?_
    rintro e w9 ⟨rfl,k9⟩
    go_wp2_with fail
    exact bodyPost_ret (v:=.bool true) (by simp[results,results5,go_sem]) rfl ⟨rfl,HE.out.2.then' k9⟩

end Go.Proofs.YtmfajopmppfldaaGreatDoor
