/-
  The law SlideKeeps, walked.
-/
import Derived.Test.YtmfajopmppfldaaGreatDoorQq
import Derived.Test.YtmfajopmppfldaaGreatDoorQc
import Derived.Deep.DeepCutAuto
import Derived.Deep.CutBlock
set_option linter.unusedVariables false
set_option maxHeartbeats 16000000
namespace Go.Proofs.YtmfajopmppfldaaGreatDoor
open Go.Proofs.Tryz
open Go.RowKit

set_option maxRecDepth 20000 in
theorem slidekeeps_walk(n:Int)(v1 v2 v3 v4:Value)(xs:List TypR)(len:Nat)(d g i nn y:Nat->Int)(u:Nat->Value)(m:Nat->Nat)(ns:Nat)(ys:Nat->Nat)(np:Nat)(yp:Nat->Nat)(w:World)(hF:Aq w)(h1:A9 w v1 xs)(h2:FH w v2 len d g i nn y u m)
  (hl:xs.length<=17592186044416) (hM:Dm xs) (hl2:len<=17592186044416) (hy:∀ j,j<len->0<=y j/\y j<=18446744073709551615) (hA:AtsAt w len u m) (hb3:BytesIn w v3 ns ys) (hl3:ns<=140737488355328) (hb4:BytesIn w v4 np yp) (hl4:np<=140737488355328):
  Calls prog 3 #[.int .i64 n,v1,v2,v3,v4] w λ e w'=>e=.returned (.bool true)/\Kp Ab w w':=by
 have HF:=sE hF
 have HAlive:Sl (∀ W',Kp (λ k=>w.heap.size<=k) w W'->Calls prog 7 #[] W' λ e w'=>e=.returned (.bool true)/\Kp Ab W' w'):=⟨λ W' kk=>alive24 W' (hF.keep kk (by have:=hF.1;omega))⟩
 have HH:=sE (Heavy9_any n v1 v2 xs len d g i nn y u m w h1 h2 hl hl2)
 have HPl:Sl (len<=60->(∀ j,j<len->m j<=300)->Calls prog 8 #[.int .i64 n,v1,v2] w (DZ n xs v1 w)):=⟨λ q1 q2=>Played_any n v1 v2 xs len d g i nn y u m w hF h1 hl hM h2 q1 hy hA q2⟩
 have hv1:∃ a l c,v1=.slice a l c:=by obtain⟨a,c,h,-⟩:=h1;exact ⟨_,_,_,h⟩
 have hv2:∃ a l c,v2=.slice a l c:=by obtain⟨a,c,h,-⟩:=h2;exact ⟨_,_,_,h⟩
 obtain⟨a1,l1,c1,rfl⟩:=hv1
 obtain⟨a2,l2,c2,rfl⟩:=hv2
 have HB3:=sE hb3
 have HB4:=sE hb4
 obtain⟨a3,c3,rfl,-⟩:=hb3
 obtain⟨a4,c4,rfl,-⟩:=hb4
 have u0:IntKind.i64.wrap ((ns:Int)+(np:Int))=(ns:Int)+(np:Int):=by rw[IntKind.wrap_i64];omega
 have HKr:Sl (Kp (λ k=>w.heap.size<=k) w w):=⟨Kr _ _⟩
 clear hF h1 h2 hM hy hA hl hl2
 by_cases hs3:ns+np<=80
 case neg=>
  have p5:decide ((80:Int)<(ns:Int)+(np:Int))=true:=dT (by omega)
  clear hs3
  go_enter func3,ntmps3
  go_wp2_with fail
  refine HH.out.mono ?_
  rintro e w2 ⟨t,rfl,rfl,ht⟩
  clear ht
  cases t
  all_goals
   go_wp2_with fail
   refine(HAlive.out _ HKr.out).mono ?_
   rintro e w3 ⟨rfl,k3⟩
   go_wp2
   go_ret
   exact⟨rfl,k3⟩
 case pos=>
 have p5:decide ((80:Int)<(ns:Int)+(np:Int))=false:=dF (by omega)
 go_enter func3,ntmps3
 go_wp2_with fail
 refine HH.out.mono ?_
 rintro e w2 ⟨t,rfl,rfl,ht⟩
 cases t with
 |true=>
  clear ht
  go_wp2_with fail
  refine(HAlive.out _ HKr.out).mono ?_
  rintro e w3 ⟨rfl,k3⟩
  go_wp2
  go_ret
  exact⟨rfl,k3⟩
 |false=>
  obtain⟨-,-,q1,q2⟩:=ht rfl
  have HPp:=sE (HPl.out q1 q2)
  clear q1 q2 ht HPl
  go_wp2_with fail
  refine HPp.out.mono ?_
  rintro e w3 (⟨rfl,k3⟩|⟨P,rb,q,W,cs,rfl,hBt,hPn,hPs,h16⟩)
  .have HK3:=sE k3
   clear k3
   go_wp2_with fail
   refine(HAlive.out _ (HK3.out.Al _)).mono ?_
   rintro e w4 ⟨rfl,k4⟩
   go_wp2
   go_ret
   exact⟨rfl,HK3.out.then' k4⟩
  .have HBt:=sE hBt
   obtain⟨f,hsp,hcs,hst⟩:=hBt.sp
   have HK3:Sl (Kp (λ k=>_<=k) _ w3):=⟨hBt.kb⟩
   have hcn:cs≠[]:=λ e=>by
    have:=hcs.tl
    rw[e] at this
    have h0:0=P.n/2:=this
    omega
   have hsm:=hsp.ar.small
   have HPd:=sE (Planned23_at P W f cs w3 _ _ ns np ys yp hsp hcs hst hcn ((HB3.out.Ad HK3.out.newW)) ((HB4.out.Ad HK3.out.newW)) (by omega) (by omega))
   have hro:∀ (ys:Nat->Nat) (n:Nat),∀ g∈AY (Ap cs) ys n,CV cs g:=λ ys n=>roots_obj
   obtain⟨H,hH⟩:∃ H,P.n/2=H:=⟨_,rfl⟩
   have HTl:Sl (Au 0 cs H):=⟨by rw[<- hH];exact hcs.tl⟩
   have hH2:H<=32768:=by omega
   have HH':=sE hH
   rw[hH] at HPd
   obtain⟨L,hL⟩:∃ L,BN cs (AY (Ap cs) yp np) (BL (AY (Ap cs) ys ns++AY (Ap cs) yp np)) H=L:=⟨_,rfl⟩
   have HGd:Sl (GoodP cs L):=⟨by rw[<- hL];exact planOf_good HTl.out (hro ys ns) (hro yp np)⟩
   rw[hL] at HPd
   have hpl:L.length<=32768:=by
    have h1:=HGd.out.up
    have h2:=up_len (l:=L.map (·.1)) (e:=0) (H:=H) (by rw[List.pairwise_map];exact h1) λ g hg=>⟨Nat.zero_le _,by
     obtain⟨x,hx,rfl⟩:=List.mem_map.1 hg
     have:=HGd.out.fit HTl.out hx
     omega⟩
    rw[List.length_map] at h2
    omega
   have hpl2:L.length<=80:=by
    rw[<- hL]
    have:=planOf_len (pins:=AY (Ap cs) yp np) HTl.out (l:=AY (Ap cs) ys ns++AY (Ap cs) yp np) (λ g hg=>by rcases List.mem_append.1 hg with h|h;exact hro ys ns g h;exact hro yp np g h)
    rw[List.length_append] at this
    have h1:=Fh (Ap cs) ys ns
    have h2:=Fh (Ap cs) yp np
    omega
   have HSm:Sl (∀ x∈L,x.1<=32768/\x.2.1<=32768/\x.2.2<=32768):=⟨λ x hx=>by
    have:=HGd.out.fit HTl.out hx
    omega⟩
   have HSp:=sE hsp
   have HCs:=sE hcs
   have HSt:=sE hst
   have HNe:=sE hcn
   clear hsp hcs hst hcn hro hH hL HH HPp hPn hPs h16 hBt
   go_wp2_with fail
   refine HPd.out.mono ?_
   rintro e w4 ⟨pv,rfl,hrow,k4⟩
   obtain⟨pa,pc,rfl⟩:=AA hrow
   obtain⟨pl,hpll⟩:∃ pl,L.length=pl:=⟨_,rfl⟩
   have HPL:=sE hpll
   have HR4:Sl (Et w4 (.slice pa pl pc) L):=⟨by rw[<- hpll];exact Et.BK hrow⟩
   have HK4:Sl (Kp Ab w3 w4):=⟨k4⟩
   rw[hpll] at hpl hpl2 ⊢
   have HRb:Sl (∀ b,(Value.slice pa pl pc).ownBlock=some b->w3.heap.size<=b):=⟨λ b h=>(Af hrow (b:=b) (by cases pa with | none=>simp [Value.ownBlock] at h | some x=>simpa [Value.ownBlock] using h)).1⟩
   clear hrow k4 hpll HPd
   obtain⟨w5,hw5⟩:∃ w5,w5=w4.alloc (.cells #[.slice pa pl pc] 33):=⟨_,rfl⟩
   have k5:Kp Ab w4 w5:=by rw[hw5];exact (Kr _ w4).alloc _
   have b5:w5.heap[w4.heap.size]?=some (.cells #[.slice pa pl pc] 33 (0,0)):=by rw[hw5];exact wN w4 _
   obtain⟨A,hA⟩:∃ A,w4.heap.size=A:=⟨_,rfl⟩
   rw[hA] at b5
   have HB5:=sE b5
   have HK5:=sE k5
   have HK35:Sl (Kp Ab w3 w5):=⟨HK4.out.then' k5⟩
   have HS5:Sl (SpaceAt w5 P W f):=⟨HSp.out.Ad HK35.out⟩
   have HCp:=sE (SCopy_at P W f w5 HS5.out)
   have c5:=cell_of_one b5
   clear k5 b5
   go_wp2_with fail
   try rw[hA]
   rw[<- hw5]
   clear hw5
   refine HCp.out.mono ?_
   rintro e w6 ⟨ps,pa',pq',pb,pbq,rfl,hpl3,hsc,k6⟩
   have HSc:=sE hsc
   have HP3:=sE hpl3
   have HK36:Sl (Kp Ab w3 w6):=⟨HK35.out.then' k6⟩
   have HR6:Sl (Et w6 (.slice pa pl pc) L):=⟨HR4.out.Ad (HK5.out.then' k6)⟩
   have HB6:=sE (k6.at_ HB5.out (λ h=>h))
   replace c5:=k6.cell c5 (λ h=>h)
   clear hsc hpl3 k6 HCp
   have hms:∀ x∈P.ts,x.m<18446744073709551616:=HBt.out.ms
   have lall:=HSp.out.lt
   have hown:∀ k,P.own k->k<w3.heap.size:=λ k hk=>lall k (Sp.Cb hk)
   have HAll:Sl _:=⟨SlAll_at P W cs L (.slice pa pl pc) w6 ⟨f,HSp.out.Ad HK36.out,HCs.out,HSt.out⟩ HR6.out HGd.out (by rw[HPL.out];omega) hms (λ b o l c h hb=>by
    injection h with h1 h2 h3
    subst h1
    have:=HRb.out b rfl
    have:=hown b hb
    omega)⟩
   have HMs:=sE hms
   have HOw:=sE hown
   clear hms lall hown
   go_wp2_with fail
   refine HAll.out.mono ?_
   rintro e w7 ⟨rfl,k7,hs7⟩
   have hz3:w3.heap.size<=w6.heap.size:=HK36.out.size
   have hA3:w3.heap.size<=A:=by rw[<- hA];exact HK4.out.size
   have HB7:=sE (k7.at_ HB6.out (λ h=>by have:=HOw.out _ h;omega))
   have HR7:Sl (Et w7 (.slice pa pl pc) L):=⟨by
    obtain⟨a,c,e,hx⟩:=HR6.out
    refine⟨a,c,e,λ i x hi=>?_⟩
    obtain⟨bb,o,rfl,h1,h2,h3,h4⟩:=hx i x hi
    have hn:¬ P.own bb:=λ h=>by
     injection e with e1
     subst e1
     have:=HRb.out bb rfl
     have:=HOw.out bb h
     omega
    exact⟨bb,o,rfl,Nat.lt_of_lt_of_le h1 k7.size,k7.cell h2 hn,k7.cell h3 hn,k7.cell h4 hn⟩⟩
   have hw5:w3.heap.size<=w5.heap.size:=HK35.out.size
   have HSc7:Sl _:=⟨HSc.out.keep k7 (λ i hi h=>by
    have h1:=HOw.out i h
    have h2:=HP3.out
    have h3:=HSp.out.ap.1 i h
    have hi':i=0\/i=ps\/i=pa'\/i=pq'\/i=P.t\/i=P.tq\/i=pb\/i=pbq:=hi
    omega)⟩
   have HK37:Sl (Kp (λ k=>_<=k) _ w7):=⟨(HK3.out.trans (HK36.out.Al _) (λ _ _ h=>h)).trans k7 (λ i hi h=>HBt.out.own i h)⟩
   have HS7:=sE hs7
   have hne2:Bd 0 (BS cs L) (P.n/2)≠[]:=λ e=>by
    have h1:=Fy (CL HGd.out HCs.out.tl)
    rw[e] at h1
    have h2:0=P.n/2:=h1
    obtain⟨c,hcm⟩:=List.exists_mem_of_ne_nil _ HNe.out
    have:=HCs.out.tl.mem hcm
    omega
   have HObj:=sE (Objects_at P _ w7.drew ⟨_,hsW1 hs7 (Kr Ab w7).drew⟩ hne2)
   have hol:(Ap (Bd 0 (BS cs L) (P.n/2))).length=pl:=by
    rw[Em λ o ho=>((CL HGd.out HCs.out.tl).mem ho).2.1]
    unfold BS goesL
    rw[List.length_map,sortT_len,HPL.out]
   rw[hol] at HObj
   replace c5:=cell_of_one HB7.out
   clear k7 hs7 HAll
   go_wp2_with fail
   refine wp_region_held_drew (S:=λ w'=>w'.cell? ⟨A,0,none⟩=some (.slice pa pl pc)) (by kernel_rfl) ?_ (λ qZ=>?_)
   .exact c5
   refine Ao 0 ?_;refine Ao 1 ?_;refine Ao 2 ?_;refine Ao 3 ?_;refine Ao 6 ?_;refine Ao 7 ?_;refine Ao 8 ?_
   try simp only[Aw]
   refine AV [4] ?_
   refine Ag rfl (λ K hK=>?_)
   go_simp
   with_reducible refine HObj.out.mono ?_
   rintro e w8 ⟨oa,oc,rfl,-,k8⟩
   have K8:Kp Ab w7 w8:=((Kr _ w7).drew).then' k8
   refine hK _ _ ?_ (λ qZ=>?_)
   .exact K8.cell c5 (λ h=>h)
   clear hK K
   try simp only[Aw]
   refine Ao 5 ?_;refine Ao 9 ?_;refine Ao 10 ?_
   try simp only[Aw]
   refine wpAnyH_done (by kernel_rfl) ?_ _
   have HB8:=sE (K8.at_ HB7.out (λ h=>h))
   have HR8:Sl (Et w8 (.slice pa pl pc) L):=⟨HR7.out.Ad K8⟩
   have HSc8:=sE (HSc7.out.Ad K8)
   have HS8:=sE (hsW1 HS7.out K8)
   have HK38:Sl (Kp (λ k=>_<=k) _ w8):=⟨HK37.out.trans (K8.Al (λ _=>False)) (λ _ _ h=>h.elim)⟩
   have hAw:A<w8.heap.size:=lZ HB8.out
   clear k8 K8 hne2 hol HObj c5 qZ
   go_wp2_with fail
   go_loopw [20,21,22,23,24,25,26,27,28,29,30,31,32] (λ x20 _ _ _ _ _ _ _ _ _ _ _ _ wr=>∃ j:Nat,j<=pl/\x20=.int .i64 (j:Nat)/\Kp Ab w8 wr) (λ x20 _ _ _ _ _ _ _ _ _ _ _ _ _=>pl-(intOf x20).toNat)
   case atStart=>exact ⟨0,Nat.zero_le _,rfl,Kr _ _⟩
   case round=>
    obtain⟨j,hj,rfl,hk⟩:=hrel
    have HK:=sE hk
    have ca:=cell_of_one (hk.at_ HB8.out (λ h=>h))
    by_cases hjl:j<pl
    .have hjl':(j:Int)<(pl:Int):=by omega
     obtain⟨x,hxj⟩:∃ x,L[j]?=some x:=⟨_,List.getElem?_eq_getElem (by rw[HPL.out];exact hjl)⟩
     obtain⟨pa2,pc2,e,hx⟩:=HR8.out
     injection e with e1 e3 e2
     clear e3
     subst e1 e2
     obtain⟨bb,o,rfl,hbb,x0,x1,x2⟩:=hx j x hxj
     replace x0:=hk.cell x0 (λ h=>h)
     replace x1:=hk.cell x1 (λ h=>h)
     replace x2:=hk.cell x2 (λ h=>h)
     have hxm:=List.mem_of_getElem? hxj
     obtain⟨c,hcm,q1,q2,q3⟩:=HGd.out.obj x hxm
     obtain⟨xf,xt,xz⟩:=x
     simp only at x0 x1 x2 q2 q3
     obtain⟨wb,hwb⟩:∃ wb,wb=wr.alloc (.cells #[.int .i64 (xf:Nat),.int .i64 (xt:Nat),.int .i64 (xz:Nat)] 43):=⟨_,rfl⟩
     have kb:Kp Ab wr wb:=by rw[hwb];exact (Kr _ wr).alloc _
     obtain⟨X,hX⟩:∃ X,wr.heap.size=X:=⟨_,rfl⟩
     have bb0:wb.heap[X]?=some (.cells #[.int .i64 (xf:Nat),.int .i64 (xt:Nat),.int .i64 (xz:Nat)] 43 (0,0)):=by rw[hwb,<- hX];exact wN wr _
     obtain⟨y0,y1,y2⟩:=cells3 bb0
     have HKb:Sl (Kp Ab w8 wb):=⟨hk.then' kb⟩
     have HXM:=sE (And.intro hxm (And.intro hcm (And.intro q1 (And.intro q2 q3))))
     obtain⟨f8,hs8,hc8,ht8⟩:=HS8.out
     have hd:Eu cs L xt=putAt c xt:=by
      obtain⟨c',hm',e1,e2,e3,hgo⟩:=DC HGd.out HTl.out hxm
      have e4:c'=c:=HTl.out.only hm' hcm (by simp only at e2;omega)
      rw[<- e4]
      exact hgo
     have hdm:putAt c xt∈Bd 0 (BS cs L) (P.n/2):=by
      have h1:putAt c xt∈Ap (Bd 0 (BS cs L) (P.n/2)):=by
       rw[Em λ o ho=>((CL HGd.out HCs.out.tl).mem ho).2.1,<- hd]
       exact List.mem_map_of_mem (DI.2 ⟨_,hxm,rfl⟩)
      exact(List.mem_filter.1 h1).1
     have hcz:=(HCs.out.tl.mem hcm).2.2
     have HA17:Sl (∀ W',Kp Ab w8 W'->Calls prog 14 #[.pointer (some ⟨ps,0,none⟩)] W' λ e w'=>e=.returned (.pointer (some ⟨pa',0,none⟩))/\w'=W'):=⟨λ W' k=>BV ⟨ps,pa',pq',P.t,P.tq,pb,pbq,P.n,P.ts⟩ W f W' (HSc8.out.Ad k)⟩
     have HT17:Sl (∀ W',Kp Ab w8 W'->Calls prog 15 #[.pointer (some ⟨ps,0,none⟩)] W' λ e w'=>e=.returned (.pointer (some ⟨P.t,0,none⟩))/\w'=W'):=⟨λ W' k=>Ea ⟨ps,pa',pq',P.t,P.tq,pb,pbq,P.n,P.ts⟩ W f W' (HSc8.out.Ad k)⟩
     have HA18:Sl (∀ W',Kp Ab w8 W'->Calls prog 14 #[.pointer (some ⟨P.s,0,none⟩)] W' λ e w'=>e=.returned (.pointer (some ⟨P.a,0,none⟩))/\w'=W'):=⟨λ W' k=>BV P _ f8 W' (hs8.Ad k)⟩
     have HT18:Sl (∀ W',Kp Ab w8 W'->Calls prog 15 #[.pointer (some ⟨P.s,0,none⟩)] W' λ e w'=>e=.returned (.pointer (some ⟨P.t,0,none⟩))/\w'=W'):=⟨λ W' k=>Ea P _ f8 W' (hs8.Ad k)⟩
     have HO17:Sl (∀ W',Kp Ab w8 W'->Calls prog 13 #[.pointer (some ⟨pa',0,none⟩),.pointer (some ⟨P.t,0,none⟩),.int .i64 (xf:Nat)] W' λ e w'=>
       ∃ b k wds m,(typeOf P.ts (c.ty:Nat)=some ⟨k,wds,m⟩/\AP k wds m (c.ln:Nat)=0/\m<18446744073709551616/\1+AL k wds (c.ln:Nat)<=2*(c.sz:Nat))/\e=.returned (.tuple #[.pointer (some ⟨b,0,none⟩),.int .i64 0])/\Bt w' b pa' c k wds m/\W'.heap.size<=b/\Kp Ab W' w'):=⟨λ W' k=>by
      have:=SOf_ty c ⟨ps,pa',pq',P.t,P.tq,pb,pbq,P.n,P.ts⟩ W f W' (HSc8.out.Ad k) (HCs.out.obj hcm q1) (HCs.out.ok c hcm) hcz q1 HMs.out
      rwa [q2] at this⟩
     have HO18:Sl (∀ W',Kp Ab w8 W'->Calls prog 13 #[.pointer (some ⟨P.a,0,none⟩),.pointer (some ⟨P.t,0,none⟩),.int .i64 (xt:Nat)] W' λ e w'=>
       ∃ b k wds m,(typeOf P.ts (c.ty:Nat)=some ⟨k,wds,m⟩/\AP k wds m (c.ln:Nat)=0/\m<18446744073709551616/\1+AL k wds (c.ln:Nat)<=2*(c.sz:Nat))/\e=.returned (.tuple #[.pointer (some ⟨b,0,none⟩),.int .i64 0])/\Bt w' b P.a (putAt c xt) k wds m/\W'.heap.size<=b/\Kp Ab W' w'):=⟨λ W' k=>
      SOf_ty (putAt c xt) P _ f8 W' (hs8.Ad k) (hc8.obj hdm q1) (hc8.ok _ hdm) hcz q1 HMs.out⟩
     have HAr8:=sE hs8.ar
     clear hk kb hx hxj hs8 hc8 ht8 hd hdm hcz
     go_wp2_with fail
     try rw[hX]
     rw[<- hwb]
     clear hwb
     have kk0:Kp Ab w8 wb.drew:=HKb.out.drew
     refine wp_region_held_drew (S:=λ w'=>w'.cell? ⟨X,0,none⟩=some (.int .i64 (xf:Nat))) (by kernel_rfl) ?_ (λ qZ=>?_)
     .exact y0
     refine Ao 0 ?_;refine Ao 2 ?_;refine Ao 4 ?_;refine Ao 5 ?_
     try simp only[Aw]
     refine AV [1] ?_
     refine Ag rfl (λ K hK=>?_)
     go_simp
     with_reducible refine(HA17.out _ kk0).mono ?_
     rintro e wz ⟨rfl,rfl⟩
     refine hK _ _ ?_ (λ qZ=>?_)
     .exact y0
     clear hK K
     try simp only[Aw]
     refine AV [3] ?_
     refine Ag rfl (λ K hK=>?_)
     go_simp
     with_reducible refine(HT17.out _ kk0).mono ?_
     rintro e wz ⟨rfl,rfl⟩
     refine hK _ _ ?_ (λ qZ=>?_)
     .exact y0
     clear hK K
     try simp only[Aw]
     refine AV [6] ?_
     refine Ag rfl (λ K hK=>?_)
     go_simp
     with_reducible refine(HO17.out _ kk0).mono ?_
     rintro e w9 ⟨b1,kk,wds,m1,⟨ty1,kE,km,ksl⟩,rfl,hV1,hb1,k9⟩
     have K9:Kp Ab wb w9:=((Kr _ wb).drew).then' k9
     refine hK _ _ ?_ (λ qZ=>?_)
     .exact K9.cell y0 (λ h=>h)
     clear hK K
     try simp only[Aw]
     refine Ao 7 ?_;refine Ao 8 ?_;refine Ao 9 ?_;refine Ao 10 ?_;refine Ao 11 ?_
     try simp only[Aw]
     refine wpAnyH_done (by kernel_rfl) ?_ _
     have HK9:Sl (Kp Ab w8 w9):=⟨HKb.out.then' K9⟩
     have y1':=K9.cell y1 (λ h=>h)
     have HV1:=sE hV1
     clear y0 y1 y2 k9 K9 kk0 hV1 HO17 HA17 HT17 bb0 qZ
     go_wp2_with fail
     have kk1:Kp Ab w8 w9.drew:=HK9.out.drew
     refine wp_region_held_drew (S:=λ w'=>w'.cell? ⟨X,1,none⟩=some (.int .i64 (xt:Nat))) (by kernel_rfl) ?_ (λ qZ=>?_)
     .exact y1'
     refine Ao 0 ?_;refine Ao 2 ?_;refine Ao 4 ?_;refine Ao 5 ?_
     try simp only[Aw]
     refine AV [1] ?_
     refine Ag rfl (λ K hK=>?_)
     go_simp
     with_reducible refine(HA18.out _ kk1).mono ?_
     rintro e wz ⟨rfl,rfl⟩
     refine hK _ _ ?_ (λ qZ=>?_)
     .exact y1'
     clear hK K
     try simp only[Aw]
     refine AV [3] ?_
     refine Ag rfl (λ K hK=>?_)
     go_simp
     with_reducible refine(HT18.out _ kk1).mono ?_
     rintro e wz ⟨rfl,rfl⟩
     refine hK _ _ ?_ (λ qZ=>?_)
     .exact y1'
     clear hK K
     try simp only[Aw]
     refine AV [6] ?_
     refine Ag rfl (λ K hK=>?_)
     go_simp
     with_reducible refine(HO18.out _ kk1).mono ?_
     rintro e wA ⟨b2,kk',wds',m2,⟨ty2,-,-,-⟩,rfl,hV2,hb2,kA⟩
     have KA:Kp Ab w9 wA:=((Kr _ w9).drew).then' kA
     refine hK _ _ ?_ (λ qZ=>?_)
     .exact KA.cell y1' (λ h=>h)
     clear hK K
     try simp only[Aw]
     refine Ao 7 ?_;refine Ao 8 ?_;refine Ao 9 ?_;refine Ao 10 ?_;refine Ao 11 ?_
     try simp only[Aw]
     refine wpAnyH_done (by kernel_rfl) ?_ _
     rw[ty1] at ty2
     obtain⟨rfl,rfl,rfl⟩:kk=kk'/\wds=wds'/\m1=m2:=by
      injection ty2 with ty2
      injection ty2 with t1 t2 t3
      exact⟨t1,t2,t3⟩
     have HKA:Sl (Kp Ab w8 wA):=⟨HK9.out.then' KA⟩
     have HV1A:=sE (HV1.out.Ad KA)
     have HV2A:=sE hV2
     have HTy:=sE (And.intro ty1 (And.intro kE (And.intro km ksl)))
     have HH1:Sl (∀ W',Kp Ab wA W'->Calls prog 16 #[.pointer (some ⟨b1,0,none⟩)] W' λ e w'=>e=.returned (.agg #[.int .u8 (c.tag:Nat),.int .i64 (c.ty:Nat),.int .i64 (c.ln:Nat),.int .i64 (c.sz:Nat)])/\Kp Ab W' w'):=⟨λ W' k=>VHead_at b1 pa' c kk wds m1 W' (HV1A.out.Ad k)⟩
     have HH2:Sl (∀ W',Kp Ab wA W'->Calls prog 16 #[.pointer (some ⟨b2,0,none⟩)] W' λ e w'=>e=.returned (.agg #[.int .u8 (c.tag:Nat),.int .i64 (c.ty:Nat),.int .i64 (c.ln:Nat),.int .i64 (c.sz:Nat)])/\Kp Ab W' w'):=⟨λ W' k=>VHead_at b2 P.a (putAt c xt) kk wds m1 W' (HV2A.out.Ad k)⟩
     clear ty1 ty2 kE km ksl kA KA kk1 hV2 HO18 HA18 HT18 y1' qZ
     go_wp2_with fail
     refine(HH1.out _ (Kr _ _)).mono ?_
     rintro e wB ⟨rfl,kB⟩
     go_wp2_with fail
     refine(HH2.out _ kB).mono ?_
     rintro e wC ⟨rfl,kC⟩
     have HKC:Sl (Kp Ab wA wC):=⟨kB.then' kC⟩
     clear kB kC HH1 HH2
     go_wp2_with fail
     have hE1:=HTy.out.2.1
     have hsl:=HTy.out.2.2.2
     obtain⟨K,hKs⟩:∃ K:Nat,AL kk wds (c.ln:Nat)=(K:Nat):=Int.eq_ofNat_of_zero_le (AU hE1).1
     have hcf:=(HCs.out.tl.mem HXM.out.2.1).2.1
     have hzf:=HXM.out.2.2.2.2
     have hgf:=HXM.out.2.2.2.1
     have hev:=HSp.out.ev
     have hft:=HGd.out.fit HCs.out.tl HXM.out.1
     dsimp only at hft hzf hgf
     rw[hKs] at hsl
     have hKl:1+K<=2*c.sz:=by omega
     have hK6:K<=65536:=by have:=(AU hE1).2;omega
     have HSl:Sl (∀ W',Kp Ab wC W'->Calls prog 17 #[.pointer (some ⟨b1,0,none⟩)] W' λ e w'=>e=.returned (.int .i64 (K:Nat))/\Kp Ab W' w'):=⟨λ W' k=>by
      have:=VSlots_at b1 pa' c kk wds m1 W' (HV1A.out.Ad (HKC.out.then' k)) hE1
      rwa [hKs] at this⟩
     have HL1:Sl (∀ (s:Nat) W',s<K->Kp Ab wC W'->Calls prog 18 #[.pointer (some ⟨b1,0,none⟩),.int .i64 (s:Nat)] W' λ e w'=>e=.returned (.tuple #[.int .u64 (W (2*c.g+1+s):Nat),.int .i64 0])/\Kp Ab W' w'):=⟨λ s W' hs k=>
      FI s b1 pa' pq' P.n W c kk wds m1 W' (HSc8.out.ar.Ad (HKA.out.then' (HKC.out.then' k))) (HV1A.out.Ad (HKC.out.then' k)) hE1 (by rw[hKs];omega) (by omega)⟩
     have HL2:Sl (∀ (s:Nat) W',s<K->Kp Ab wC W'->Calls prog 18 #[.pointer (some ⟨b2,0,none⟩),.int .i64 (s:Nat)] W' λ e w'=>e=.returned (.tuple #[.int .u64 (slidW P W cs L (2*xt+1+s):Nat),.int .i64 0])/\Kp Ab W' w'):=⟨λ s W' hs k=>
      FI s b2 P.a P.q P.n (slidW P W cs L) (putAt c xt) kk wds m1 W' (HAr8.out.Ad (HKA.out.then' (HKC.out.then' k))) (HV2A.out.Ad (HKC.out.then' k)) hE1 (by rw[show ((putAt c xt).ln:Nat)=c.ln from rfl,hKs];omega) (by show 2*xt+1+s<P.n;omega)⟩
     have HRf:Sl (∀ (s:Nat) W',s<K->Kp Ab wC W'->Calls prog 19 #[.pointer (some ⟨b1,0,none⟩),.int .i64 (s:Nat)] W' λ e w'=>e=.returned (.tuple #[.bool (Ba kk wds m1 s),.int .i64 0])/\Kp Ab W' w'):=⟨λ s W' hs k=>
      VRef_at s b1 pa' c kk wds m1 W' (HV1A.out.Ad (HKC.out.then' k)) HTy.out.2.2.1 hE1 (by rw[hKs];omega)⟩
     have HWd:Sl (∀ s,s<K->slidW P W cs L (2*xt+1+s)=if Ba kk wds m1 s=true then toA L (W (2*c.g+1+s)) else W (2*c.g+1+s)):=⟨λ s hs=>by
      have h:=slid_word HCs.out HGd.out HXM.out.1 HXM.out.2.1 HXM.out.2.2.1 HXM.out.2.2.2.1 (k:=s) (by dsimp only;omega)
      rw[h]
      have h2:=refsC_is (s:=s) HTy.out.1 (by rw[hKs];omega)
      by_cases e:s∈BP P.ts c
      .rw [if_pos e,if_pos (h2.1 e)]
      .rw [if_neg e,if_neg λ h3=>e (h2.2 h3)]⟩
     have HLe:Sl (∀ (y z:Nat) W',Kp Ab w8 W'->z=toA L y->Calls prog 20 #[.agg #[.slice (some ⟨bb,o,none⟩) pl pc],.int .u64 (y:Nat),.int .u64 (z:Nat)] W' λ e w'=>e=.returned (.bool true)/\Kp Ab W' w'):=⟨λ y z W' k hz=>Leads_at L _ y z W' (HR8.out.Ad k) (by rw[HPL.out];omega) (λ x hx=>by have:=HSm.out x hx;omega) hz⟩
     clear hE1 hsl hKs hcf hzf hgf hev hft hKl
     go_loopw [26,27,28,29,30,31,32] (λ x26 _ _ _ _ _ _ wr=>∃ s:Nat,s<=K/\x26=.int .i64 (s:Nat)/\Kp Ab wC wr) (λ x26 _ _ _ _ _ _ _=>K-(intOf x26).toNat)
     case atStart=>exact ⟨0,Nat.zero_le _,rfl,Kr _ _⟩
     case round=>
      obtain⟨s,hs,rfl,hks⟩:=hrel
      have HKs:=sE hks
      clear hks
      go_wp2_with fail
      refine(HSl.out _ HKs.out).mono ?_
      rintro e wD ⟨rfl,kD⟩
      have HKD:Sl (Kp Ab wC wD):=⟨HKs.out.then' kD⟩
      clear kD
      by_cases hsK:s<K
      .have hsK':(s:Int)<(K:Int):=by omega
       have hw:=HWd.out s hsK
       obtain⟨u,hu⟩:∃ u,W (2*c.g+1+s)=u:=⟨_,rfl⟩
       obtain⟨z,hz⟩:∃ z,slidW P W cs L (2*xt+1+s)=z:=⟨_,rfl⟩
       obtain⟨r,hr⟩:∃ r,Ba kk wds m1 s=r:=⟨_,rfl⟩
       have HM1:Sl (∀ W',Kp Ab wC W'->Calls prog 18 #[.pointer (some ⟨b1,0,none⟩),.int .i64 (s:Nat)] W' λ e w'=>e=.returned (.tuple #[.int .u64 (u:Nat),.int .i64 0])/\Kp Ab W' w'):=⟨λ W' k=>by rw[<- hu];exact HL1.out s W' hsK k⟩
       have HM2:Sl (∀ W',Kp Ab wC W'->Calls prog 18 #[.pointer (some ⟨b2,0,none⟩),.int .i64 (s:Nat)] W' λ e w'=>e=.returned (.tuple #[.int .u64 (z:Nat),.int .i64 0])/\Kp Ab W' w'):=⟨λ W' k=>by rw[<- hz];exact HL2.out s W' hsK k⟩
       have HM3:Sl (∀ W',Kp Ab wC W'->Calls prog 19 #[.pointer (some ⟨b1,0,none⟩),.int .i64 (s:Nat)] W' λ e w'=>e=.returned (.tuple #[.bool r,.int .i64 0])/\Kp Ab W' w'):=⟨λ W' k=>by rw[<- hr];exact HRf.out s W' hsK k⟩
       rw[hu,hz,hr] at hw
       have HW':=sE hw
       clear hu hz hr hw
       go_wp2_with fail
       refine(HM1.out _ HKD.out).mono ?_
       rintro e wE ⟨rfl,kE⟩
       have HKE:Sl (Kp Ab wC wE):=⟨HKD.out.then' kE⟩
       clear kE
       go_wp2_with fail
       refine(HM2.out _ HKE.out).mono ?_
       rintro e wF ⟨rfl,kF⟩
       have HKF:Sl (Kp Ab wC wF):=⟨HKE.out.then' kF⟩
       clear kF
       go_wp2_with fail
       refine(HM3.out _ HKF.out).mono ?_
       rintro e wG ⟨rfl,kG⟩
       have HKG:Sl (Kp Ab wC wG):=⟨HKF.out.then' kG⟩
       clear kG
       have cG:=cell_of_one ((HKA.out.then' (HKC.out.then' HKG.out)).at_ HB8.out (λ h=>h))
       have hw:=HW'.out
       cases r with
       |false=>
        rw[if_neg (by decide)] at hw
        subst hw
        go_wp2_with fail
        exact⟨⟨s+1,by omega,by go_num,HKG.out⟩,by simp only[intOf];omega⟩
       |true=>
        rw[if_pos rfl] at hw
        have HLd:=sE (HLe.out u z wG (HKA.out.then' (HKC.out.then' HKG.out)) hw)
        clear hw
        go_wp2_with fail
        refine HLd.out.mono ?_
        rintro e wH ⟨rfl,kH⟩
        have HKH:Sl (Kp Ab wC wH):=⟨HKG.out.then' kH⟩
        clear kH
        go_wp2_with fail
        exact⟨⟨s+1,by omega,by go_num,HKH.out⟩,by simp only[intOf];omega⟩
      .have hsK':s=K:=by omega
       subst hsK'
       go_wp2_with fail
       exact⟨⟨j+1,by omega,by go_num,HKA.out.then' (HKC.out.then' HKD.out)⟩,by simp only[intOf];omega⟩
    .have hje:j=pl:=by omega
     subst hje
     obtain⟨f8,hs8,hc8,ht8⟩:=HS8.out
     have HAr:=sE (BV P _ f8 wr (hs8.Ad HK.out))
     have HTb:=sE (Ea P _ f8 wr (hs8.Ad HK.out))
     have HSt8:=sE (Starts_at P _ f8 wr (hs8.Ad HK.out))
     have hfa:faultsL P.ts (P.n/2) (slidW P W cs L) f8 (Bd 0 (BS cs L) (P.n/2)) (P.n/2)=[]:=slid_faults HCs.out HGd.out (by omega) ht8
     have HCk:Sl (∀ W' sp sq,Kp Ab wr W'->AO W' sp sq f8 (P.n/2)->Calls prog 21 #[.pointer (some ⟨P.a,0,none⟩),.pointer (some ⟨P.t,0,none⟩),.pointer (some ⟨sp,0,none⟩)] W' λ e w'=>∃ va vc,e=.returned (.tuple #[.slice va 0 vc,.int .i64 0])/\Kp Ab W' w'):=⟨λ W' sp sq k hb=>by
      have h:=Check_to P (slidW P W cs L) f8 (Bd 0 (BS cs L) (P.n/2)) (P.n/2) sp sq f8 W' (hs8.Ad (HK.out.then' k)) hc8.to HMs.out hb
      rw[hfa] at h
      refine h.mono ?_
      rintro e w' ⟨v,rfl,ho,k'⟩
      obtain⟨va,vc,rfl⟩:=AA ho
      exact⟨va,vc,rfl,k'⟩⟩
     clear hs8 hc8 ht8 hfa
     go_wp2_with fail
     refine HAr.out.mono ?_
     rintro e wz ⟨rfl,rfl⟩
     go_wp2_with fail
     refine HTb.out.mono ?_
     rintro e wy ⟨rfl,rfl⟩
     go_wp2_with fail
     refine HSt8.out.mono ?_
     rintro e wx ⟨sp,sq,rfl,-,-,hbt,kx⟩
     go_wp2_with fail
     refine(HCk.out _ sp sq kx hbt).mono ?_
     rintro e wv ⟨va,vc,rfl,kv⟩
     have HKv:=sE (HK.out.then' (kx.then' kv))
     clear kx kv hbt HAr HTb HSt8 HCk
     go_wp2_with fail
     refine(HAlive.out _ (HK38.out.trans (HKv.out.Al (λ _=>False)) (λ _ _ h=>h.elim))).mono ?_
     rintro e wu ⟨rfl,ku⟩
     go_wp2_with fail
     exact bodyPost_ret (v:=.bool true) (by simp[results,results3,go_sem]) rfl ⟨rfl,HK38.out.newW.then' (HKv.out.then' ku)⟩

end Go.Proofs.YtmfajopmppfldaaGreatDoor
