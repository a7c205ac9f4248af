/-
  The law WhyOnly, walked.
-/
import Derived.Test.YtpeipocojmjbfaaGreatDoorQbq
import Derived.Test.YtpeipocojmjbfaaGreatDoorQbr
import Derived.Test.YtpeipocojmjbfaaGreatDoorQax
set_option linter.unusedVariables false
set_option maxHeartbeats 16000000
namespace Go.Proofs.YtpeipocojmjbfaaGreatDoor
open Tryz
open Go.RowKit

theorem ints_of_natrow{w:World}{base:Nat}{v:Value}{ns:List Nat}(h:w.ownsRow base 3 1 v ns.length (AL ns))(hr:∀ g∈ns,g<65536):IntsIn w v (ns.map λ g:Nat=>(g:Int)):=by
 refine ints_of_owns (base:=base) ?_ (λ x hx=>?_)
 .rw [List.length_map]
  have:intVs (ns.map λ g:Nat=>(g:Int))=AL ns:=by
   unfold intVs AL
   rw[List.map_map]
   rfl
  rw[this]
  exact h
 .obtain ⟨g,hg,rfl⟩:=List.mem_map.1 hx
  have:=hr g hg
  omega

theorem map_cast_inj{ns ms:List Nat}(h:ns.map (λ g:Nat=>(g:Int))=ms.map (λ g:Nat=>(g:Int))):ms=ns:=by
 have h2:=congrArg (List.map Int.toNat) h
 simp only[List.map_map] at h2
 have e:(Int.toNat ∘ λ g:Nat=>(g:Int))=id:=by funext g;simp
 rw[e,List.map_id,List.map_id] at h2
 exact h2.symm

theorem onlyL_mem{es:List (Nat×Nat×Nat)}{ns:List Nat}{g:Nat}{x:Nat×Nat×Nat}:x∈onlyL es ns g ↔ x∈inE es g/\¬ Bz (Cr es x) ns g:=by
 unfold onlyL
 rw[List.mem_filter]
 simp

theorem bytes_one(w:World)(x:Nat)(hx:x<256)(T:TypeId):BytesIn (w.alloc (.cells #[.int .u8 (x:Nat)] T)) (.slice (some ⟨w.heap.size,0,none⟩) 1 1) 1 (λ _=>x):=⟨_,_,rfl,λ i hi=>⟨w.heap.size,0,rfl,by
 obtain rfl:i=0:=by omega
 simp only[World.cell?,wN w _]
 rfl,hx⟩⟩

theorem run_eql_edge(a b c a' b' c':Int)(w:World):(binOp .eql 70 (.agg #[.int .i64 a,.int .i64 b,.int .i64 c]) (.agg #[.int .i64 a',.int .i64 b',.int .i64 c'])).run prog w=.ok (.bool (a==a'&&(b==b'&&c==c'))) w:=by
 rw[run_eql_struct,run_eq_edge];rfl

theorem eq_edge(x z:Nat×Nat×Nat):((z.1:Int)==(x.1:Int)&&((z.2.1:Int)==(x.2.1:Int)&&(z.2.2:Int)==(x.2.2:Int)))=(z==x):=by
 rw[Bool.eq_iff_iff]
 simp only[Bool.and_eq_true,beq_iff_eq]
 constructor
 .intro h
  exact Prod.ext (by omega) (Prod.ext (by omega) (by omega))
 .rintro rfl
  exact⟨rfl,rfl,rfl⟩

set_option maxRecDepth 20000 in
theorem whyonly_walk(n:Int)(v1 v2 v3:Value)(one wh:Nat)(xs:List TypR)(len:Nat)(d g i nn y:Nat->Int)(u:Nat->Value)(m:Nat->Nat)(ns:Nat)(ys:Nat->Nat)(w:World)(hF:Ai w)(h1:A8 w v1 xs)(h2:EU w v2 len d g i nn y u m)
  (hl:xs.length<=17592186044416) (hM:CW xs) (hl2:len<=17592186044416) (hy:∀ j,j<len->0<=y j/\y j<=18446744073709551615) (hA:AtsAt w len u m) (hb3:BytesIn w v3 ns ys) (ho1:one<256) (hw1:wh<256):
  Calls prog 9 #[.int .i64 n,v1,v2,v3,.int .u8 (one:Nat),.int .u8 (wh:Nat)] w λ e w'=>e=.returned (.bool true)/\Kp Ag w w':=by
 have HF:=sE hF
 have HAlive:Sl (∀ W',Kp Ag w W'->Calls prog 39 #[] W' λ e w'=>e=.returned (.bool true)/\Kp Ag W' w'):=⟨λ W' kk=>alive40 W' (hF.Am kk)⟩
 have HH:=sE (Heavy9_any n v1 v2 xs len d g i nn y u m w h1 h2 hl hl2)
 have HPl:Sl (len<=60->(∀ j,j<len->m j<=300)->Calls prog 12 #[.int .i64 n,v1,v2] w (Dt n xs v1 w)):=⟨λ q1 q2=>Played_any n v1 v2 xs len d g i nn y u m w hF h1 hl hM h2 q1 hy hA q2⟩
 have hv1:∃ a l c,v1=.slice a l c:=by obtain⟨a,c,h,-⟩:=h1;exact ⟨_,_,_,h⟩
 have hv2:∃ a l c,v2=.slice a l c:=by obtain⟨a,c,h,-⟩:=h2;exact ⟨_,_,_,h⟩
 obtain⟨a1,l1,c1,rfl⟩:=hv1
 obtain⟨a2,l2,c2,rfl⟩:=hv2
 have HB5:=sE hb3
 obtain⟨a5,c5,rfl,-⟩:=hb3
 clear hF h1 h2 hM hy hA hl hl2
 by_cases hs5:ns<=40
 case neg=>
  have p5:decide ((40:Int)<(ns:Int))=true:=dT (by omega)
  clear hs5
  go_enter func9,ntmps9
  go_wp2_with fail
  refine HH.out.mono ?_
  rintro e w2 ⟨t,rfl,rfl,ht⟩
  clear ht
  cases t
  all_goals
   go_wp2_with fail
   refine(HAlive.out _ (Kr _ _)).mono ?_
   rintro e w3 ⟨rfl,k3⟩
   go_wp2
   go_ret
   exact⟨rfl,k3⟩
 case pos=>
 go_enter func9,ntmps9
 go_wp2_with fail
 refine HH.out.mono ?_
 rintro e w2 ⟨t,rfl,rfl,ht⟩
 cases t with
 |true=>
  clear ht
  go_wp2_with fail
  refine(HAlive.out _ (Kr _ _)).mono ?_
  rintro e w3 ⟨rfl,k3⟩
  go_wp2
  go_ret
  exact⟨rfl,k3⟩
 |false=>
  obtain⟨-,-,q1,q2⟩:=ht rfl
  have HPp:=sE (HPl.out q1 q2)
  clear q1 q2 ht HPl
  go_wp2_with fail
  refine HPp.out.mono ?_
  rintro e w3 (⟨rfl,k3⟩|⟨P,rb,q,W,cs,rfl,hBt,hPn,hPs,h16⟩)
  .have HK3:=sE k3
   clear k3
   go_wp2_with fail
   refine(HAlive.out _ HK3.out).mono ?_
   rintro e w4 ⟨rfl,k4⟩
   go_wp2
   go_ret
   exact⟨rfl,HK3.out.then' k4⟩
  .obtain ⟨f,hsp,hcs,hst⟩:=hBt.sp
   have HK3:Sl (Kp Ag _ w3):=⟨hBt.kb.new'⟩
   have hcn:cs≠[]:=λ e=>by
    have:=hcs.tl
    rw[e] at this
    have h0:0=P.n/2:=this
    omega
   have hmks:∀ x∈P.ts,x.m<18446744073709551616:=hBt.ms
   have HRt:Sl (∀ W' v n ys,Kp Ag w3 W'->n<=65536->BytesIn W' v n ys->Calls prog 13 #[.pointer (some ⟨P.s,0,none⟩),v] W' λ e w'=>∃ a c,e=.returned (.slice a (Bo (Az cs) ys n).length c)/\w'.ownsRow W'.heap.size 3 1 (.slice a (Bo (Az cs) ys n).length c) (Bo (Az cs) ys n).length (AL (Bo (Az cs) ys n))/\Kp Ag W' w'):=⟨λ W' v n ys kk hn hv=>Roots20_at P cs W' ⟨W,f,hsp.Am kk,hcs,hst⟩ hcn v n ys hn hv⟩
   have HOwn:Sl (w2.heap.size<=P.a/\w2.heap.size<=P.q/\P.a<w3.heap.size/\P.q<w3.heap.size):=⟨hBt.own _ (by simp[Sp.own]),hBt.own _ (by simp[Sp.own]),hsp.lt _ (by simp[Sp.all]),hsp.lt _ (by simp[Sp.all])⟩
   have HOnly:Sl (∀ W' v xs (i:Int),Kp Ag w3 W'->IntsIn W' v xs->xs.length<=65536->Calls prog 47 #[.pointer (some ⟨P.s,0,none⟩),.int .i64 i,v] W' (WOnlyPost (AX P.ts W cs) (BJ cs) xs i W')):=⟨λ W' v xs i kk hx hl=>WOnly_at P W f W' cs (hsp.Am kk) hcs hst hmks i v xs hx hl⟩
   have HHolds:Sl (∀ W' (i:Int),Kp Ag w3 W'->Calls prog 48 #[.pointer (some ⟨P.s,0,none⟩),.int .i64 i] W' (WHoldsPost (AX P.ts W cs) (BJ cs) i W')):=⟨λ W' i kk=>WHolds_at P W f W' cs (hsp.Am kk) hcs hst hmks i⟩
   have HLt:Sl (∀ g,BJ cs g->g<65536):=⟨λ g h=>by have:=Cs hcs h;have:=hsp.bt.EB;omega⟩
   have HEl:Sl ((AX P.ts W cs).length<=2147483648):=⟨Nat.le_trans (Du cs _) (hcs.to.refs_len hsp.ar.small)⟩
   have HSp:=sE hsp
   have HCs:=sE hcs
   have HSt:=sE hst
   have HMs:=sE hmks
   have HKB:=sE hBt.kb
   clear hsp hcs hst hcn hmks hBt hPn hPs h16 HPp HH
   go_wp2_with fail
   refine(HRt.out w3 _ ns ys (Kr _ _) (by omega) (HB5.out.Am HK3.out)).mono ?_
   rintro e w4 ⟨ra,rc,rfl,hrow,k4⟩
   have K4:Sl (Kp Ag w3 w4):=⟨k4⟩
   have hRo:∀ g∈Bo (Az cs) ys ns,BJ cs g:=roots_obj
   have hRl:(Bo (Az cs) ys ns).length<=40:=by have:=rootsOf_len (Az cs) ys ns;omega
   obtain⟨rs,hrs⟩:∃ rs,Bo (Az cs) ys ns=rs:=⟨_,rfl⟩
   rw[hrs] at hrow hRo hRl ⊢
   obtain⟨rl,hrl⟩:∃ rl,rs.length=rl:=⟨_,rfl⟩
   have HR4:Sl (w4.ownsRow w3.heap.size 3 1 (.slice ra rl rc) rl (AL rs)):=⟨by rw[<- hrl];exact hrow⟩
   have HRL:Sl (rs.length=rl):=⟨hrl⟩
   have HRO:Sl (∀ g∈rs,BJ cs g):=⟨hRo⟩
   have HRI:Sl (∀ W',Kp Ag w4 W'->IntsIn W' (.slice ra rl rc) (rs.map λ g:Nat=>(g:Int))):=⟨λ W' kk=>(ints_of_natrow (base:=w3.heap.size) (by rw[HRL.out];exact HR4.out) (λ g hg=>HLt.out g (HRO.out g hg))).Am kk⟩
   rw[hrl] at hRl ⊢
   clear hrow k4 hRo hrl hrs
   have HB1:=sE (bytes_one w4 one ho1 5)
   go_wp2_with fail
   refine(HRt.out _ _ 1 _ (K4.out.alloc _) (by omega) HB1.out).mono ?_
   rintro e w5 ⟨oa,oc,rfl,hrow,k5⟩
   have K45:Sl (Kp Ag w4 w5):=⟨((Kr _ _).alloc _).then' k5⟩
   have hGo:∀ g∈Bo (Az cs) (λ _=>one) 1,BJ cs g:=roots_obj
   obtain⟨gs,hgs⟩:∃ gs,Bo (Az cs) (λ _=>one) 1=gs:=⟨_,rfl⟩
   rw[hgs] at hrow hGo ⊢
   cases gs with
   |nil=>
    clear hrow k5 hGo hgs
    simp only[List.length_nil]
    go_wp2_with fail
    refine(HAlive.out _ (HK3.out.then' (K4.out.then' K45.out))).mono ?_
    rintro e w6 ⟨rfl,k6⟩
    go_wp2
    go_ret
    exact⟨rfl,HK3.out.then' (K4.out.then' (K45.out.then' k6))⟩
   |cons g gs=>
    have HGo:Sl (BJ cs g):=⟨hGo g (by simp)⟩
    obtain⟨ob,hob,cg⟩:=Ez hrow (i:=0) (x:=g) rfl
    subst hob
    have hgl:=HLt.out g HGo.out
    obtain⟨gl,hgl2⟩:∃ gl,(g::gs).length=gl+1:=⟨_,rfl⟩
    have hgl3:gl<=1:=by
     have h1:=rootsOf_len (Az cs) (λ _=>one) 1
     rw[hgs,hgl2] at h1
     omega
    have e1:(((gl+1:Nat):Int)==0)=false:=by rw[beq_eq_false_iff_ne];omega
    rw[hgl2]
    clear hrow k5 hGo hgs
    go_wp2_with fail
    refine(HOnly.out w5 _ _ (g:Nat) (K4.out.then' K45.out) (HRI.out w5 K45.out) (by rw[List.length_map,HRL.out];omega)).mono ?_
    rintro e w6 ⟨hOn,k6⟩
    have K46:Sl (Kp Ag w4 w6):=⟨K45.out.then' k6⟩
    have hOn2:(Bz (AX P.ts W cs) rs g/\∃ v:Value,e=.returned (.tuple #[v,.int .i64 0])/\ED w6 v (onlyL (AX P.ts W cs) rs g))\/(¬ Bz (AX P.ts W cs) rs g/\e=.returned (.tuple #[.slice none 0 0,.int .i64 3])):=by
     rcases hOn with ⟨ms,hr,g',hg',-,hc⟩|⟨hno|hno,-⟩
     .obtain rfl:=map_cast_inj hr.1
      obtain rfl:g=g':=by omega
      exact hc
     .exact absurd ⟨rs,rfl,HRO.out⟩ hno
     .exact absurd ⟨g,rfl,HGo.out⟩ hno
    have HNoo:=sE hOn2
    clear hOn hOn2 k6
    obtain⟨es,hes⟩:∃ es,AX P.ts W cs=es:=⟨_,rfl⟩
    rw[hes] at HNoo HHolds HEl
    have HEs:=sE hes
    clear hes HOnly HRt HB1
    rcases HNoo.out with ⟨hre,v6,rfl,hrow6⟩|⟨hnr,rfl⟩
    .obtain ⟨na,nc,rfl,-⟩:=id hrow6
     have HRe:=sE hre
     have HR6:=sE hrow6
     clear hre hrow6 HNoo
     go_wp2_with fail
     refine(HHolds.out w6 (g:Nat) (K4.out.then' K46.out)).mono ?_
     rintro e w7 ⟨(⟨g',v7,hg',-,rfl,hrow7⟩|⟨hno,-⟩),k7⟩
     .obtain rfl:g=g':=by omega
      obtain⟨ha,hc,rfl,-⟩:=id hrow7
      have HR7:=sE hrow7
      have K47:Sl (Kp Ag w4 w7):=⟨K46.out.then' k7⟩
      have HR67:=sE (HR6.out.Am k7)
      obtain⟨N,hN⟩:∃ N,(inE es g).length=N:=⟨_,rfl⟩
      have HN:=sE hN
      have hNl:N<=2147483648:=by
       have h1:=HEl.out
       have h2:(inE es g).length<=es.length:=List.length_filter_le _ _
       omega
      have hOL:(onlyL es rs g).length<=N:=by
       rw[<- hN]
       exact List.length_filter_le _ _
      obtain⟨ol,hol⟩:∃ ol,(onlyL es rs g).length=ol:=⟨_,rfl⟩
      rw[hol] at hOL HR67 ⊢
      rw[hN] at HR7 ⊢
      have HOl:=sE hol
      clear hrow7 k7 hN hol HR6 K46 hg'
      by_cases hN0:N=0
      .subst hN0
       obtain rfl:ol=0:=by omega
       go_wp2_with fail
       refine(HAlive.out _ (HK3.out.then' (K4.out.then' K47.out))).mono ?_
       rintro e w8 ⟨rfl,k8⟩
       go_wp2
       go_ret
       exact⟨rfl,HK3.out.then' (K4.out.then' (K47.out.then' k8))⟩
      .have e2:((N:Int)==0)=false:=by rw[beq_eq_false_iff_ne];omega
       obtain⟨k,hk⟩:∃ k,wh%N=k:=⟨_,rfl⟩
       have hkN:k<N:=by rw[<- hk];exact Nat.mod_lt _ (by omega)
       have hmod:((wh:Int).tmod (N:Int))=(k:Int):=by rw[<- hk];rfl
       obtain⟨x,hx⟩:∃ x,(inE es g)[k]?=some x:=⟨(inE es g)[k]'(by rw[HN.out];exact hkN),by simp⟩
       have hxm:=mem_inE.1 (List.mem_of_getElem? hx)
       obtain⟨ha',hc',hac,hcells⟩:=HR7.out
       obtain⟨eb,heb,heb0,x0,x1,x2⟩:=hcells k x hx
       have hha:ha=some ⟨eb,0,none⟩:=by injection hac with h1;rw [h1];exact heb
       subst hha
       have HXm:=sE hxm
       clear hac hcells heb hx hxm hk HB5
       go_wp2_with fail
       obtain⟨w8,hw8⟩:∃ w8,w8=w7.alloc (.cells #[.int .i64 (x.1:Nat),.int .i64 (x.2.1:Nat),.int .i64 (x.2.2:Nat)] 70):=⟨_,rfl⟩
       obtain⟨xb,hxb⟩:∃ b,w7.heap.size=b:=⟨_,rfl⟩
       have k8:Kp Ag w7 w8:=by rw[hw8];exact (Kr _ w7).alloc _
       have HX8:Sl (w8.heap[xb]?=some (.cells #[.int .i64 (x.1:Nat),.int .i64 (x.2.1:Nat),.int .i64 (x.2.2:Nat)] 70 (0,0))):=⟨by rw[hw8,<- hxb];exact wN w7 _⟩
       try rw[<- hw8]
       try rw[hxb]
       have HR8:=sE (HR67.out.Am k8)
       have K48:Sl (Kp Ag w4 w8):=⟨K47.out.then' k8⟩
       have hxz:w3.heap.size<=xb:=by rw[<- hxb];exact (K4.out.then' K47.out).size
       clear hw8 hxb k8 x0 x1 x2 HR67 K47 HR7
       go_loopw [24,25] (λ x24 x25 wr=>∃ j:Nat,j<=ol/\x25=.int .i64 (j:Nat)/\x24=.bool (((onlyL es rs g).take j).any λ z=>z==x)/\Kp Ag w8 wr) (λ _ x25 _=>ol-(intOf x25).toNat)
       case atStart=>exact ⟨0,Nat.zero_le _,rfl,rfl,Kr _ _⟩
       case round=>
        obtain⟨j,hj,rfl,rfl,hkk⟩:=hrel
        have HKK:=sE hkk
        by_cases hjl:j<ol
        .have hjl':(j:Int)<(ol:Int):=by omega
         obtain⟨z,hz⟩:∃ z,(onlyL es rs g)[j]?=some z:=⟨(onlyL es rs g)[j]'(by rw[HOl.out];exact hjl),by simp⟩
         obtain⟨na',nc',hnn,hcells⟩:=HR8.out.Am hkk
         obtain⟨zb,hzb,hzb0,z0,z1,z2⟩:=hcells j z hz
         have hna:na=some ⟨zb,0,none⟩:=by injection hnn with h1;rw [h1];exact hzb
         subst hna
         obtain⟨y0,y1,y2⟩:=cells3 (hkk.at_ HX8.out (λ h=>h))
         have HNx:=any_take (p:=λ z=>z==x) hz
         obtain⟨t,ht⟩:∃ t,((onlyL es rs g).take j).any (λ z=>z==x)=t:=⟨_,rfl⟩
         rw[ht] at HNx ⊢
         clear ht hz hnn hcells hzb hkk
         cases t with
         |true=>
          have HN1:Sl (((onlyL es rs g).take (j+1)).any (λ z=>z==x)=true):=⟨by rw[HNx];rfl⟩
          clear HNx
          go_wp2_with fail
          go_quiet (fail)
          go_wp2
          exact⟨⟨j+1,by omega,by go_num,by rw[HN1.out],HKK.out.then' (Kp.Ap _)⟩,by simp only[intOf];omega⟩
         |false=>
          have hq:=eq_edge x z
          obtain⟨t,ht⟩:∃ t,(z==x)=t:=⟨_,rfl⟩
          rw[ht] at hq
          have HN1:Sl (((onlyL es rs g).take (j+1)).any (λ z=>z==x)=t):=⟨by rw[HNx,Bool.false_or,ht]⟩
          have heq:∀ W',(binOp .eql 70 (.agg #[.int .i64 (z.1:Nat),.int .i64 (z.2.1:Nat),.int .i64 (z.2.2:Nat)]) (.agg #[.int .i64 (x.1:Nat),.int .i64 (x.2.1:Nat),.int .i64 (x.2.2:Nat)])).run prog W'=.ok (.bool t) W':=λ W'=>by rw[run_eql_edge,hq]
          clear HNx hq ht
          go_wp2_with fail
          go_quiet (fail)
          go_wp2
          exact⟨⟨j+1,by omega,by go_num,by rw[HN1.out],HKK.out.then' (Kp.Ap _)⟩,by simp only[intOf];omega⟩
        .have hjl':¬ (j:Int)<(ol:Int):=by omega
         obtain rfl:j=ol:=by omega
         obtain⟨t,ht⟩:∃ t,((onlyL es rs g).take j).any (λ z=>z==x)=t:=⟨_,rfl⟩
         rw[ht]
         have HTd:Sl (t=true ↔ ¬ Bz (Cr es x) rs g):=⟨by
          rw[<- ht,List.take_of_length_le (by rw[HOl.out];omega),List.any_eq_true]
          constructor
          .rintro ⟨z,hz,hzx⟩
           rw[beq_iff_eq] at hzx
           subst hzx
           exact(onlyL_mem.1 hz).2
          .intro h
           exact⟨x,onlyL_mem.2 ⟨mem_inE.2 HXm.out,h⟩,by simp⟩⟩
         obtain⟨wo,rfl⟩:∃ wo,wo=wr:=⟨_,rfl⟩
         have HAr:Sl (∀ W',Kp Ag w3 W'->Calls prog 33 #[.pointer (some ⟨P.s,0,none⟩)] W' λ e w''=>e=.returned (.pointer (some ⟨P.a,0,none⟩))/\w''=W'):=⟨λ W' kk=>El P W f W' (HSp.out.Am kk)⟩
         have HTb:Sl (∀ W',Kp Ag w3 W'->Calls prog 34 #[.pointer (some ⟨P.s,0,none⟩)] W' λ e w''=>e=.returned (.pointer (some ⟨P.t,0,none⟩))/\w''=W'):=⟨λ W' kk=>ET P W f W' (HSp.out.Am kk)⟩
         have hKo:Kp Ag w3 wo:=K4.out.then' (K48.out.then' hkk)
         have HKo:=sE hKo
         have HK4o:=sE (K48.out.then' hkk)
         have hx0:x∈AX P.ts W cs:=by rw[HEs.out];exact HXm.out.1
         obtain⟨c,hcm,hct,sl,hsl,q1,q2,q3⟩:=mem_edges.1 hx0
         have HOf:Sl (∀ W',Kp Ag w3 W'->_):=⟨λ W' kk=>SOf_one c P W f W' (HSp.out.Am kk) (HCs.out.ok c hcm) (HCs.out.hd c hcm) (by have:=(HCs.out.tl.mem hcm).2.1;omega) (HCs.out.tl.mem hcm).2.2 hct HMs.out⟩
         have hxx:=hkk.at_ HX8.out (λ h=>h)
         have HXo:=sE hxx
         obtain⟨y0,y1,y2⟩:=cells3 hxx
         rw[q1] at y0
         rw[q2] at y1
         have HC:=sE (And.intro hcm (And.intro hct (And.intro hsl (And.intro q1 q2))))
         have kd:Kp Ag wo wo.drew:=(Kr _ _).drew
         clear hx0 hcm hct hsl q1 q2 q3 hkk hKo hxx ht HOl HR8 HX8 K48
         go_wp2_with fail
         refine wp_region_held_drew (S:=λ w'=>w'.cell? ⟨xb,0,none⟩=some (.int .i64 (c.g:Nat))) (by kernel_rfl) ?_ (λ qZ=>?_)
         .exact y0
         refine AB 0 ?_;refine AB 2 ?_;refine AB 4 ?_;refine AB 5 ?_
         try simp only[AJ]
         refine Bj [1] ?_
         refine Ao rfl (λ K hK=>?_)
         go_simp
         go_at_call 33
         (with_reducible refine(HAr.out _ (HKo.out.then' kd)).mono ?_)
         rintro e w9 ⟨rfl,rfl⟩
         refine hK _ _ ?_ (λ qZ=>?_)
         .exact Al kd y0
         clear hK K
         try simp only[AJ]
         refine Bj [3] ?_
         refine Ao rfl (λ K hK=>?_)
         go_simp
         go_at_call 34
         (with_reducible refine(HTb.out _ (HKo.out.then' kd)).mono ?_)
         rintro e w9 ⟨rfl,rfl⟩
         refine hK _ _ ?_ (λ qZ=>?_)
         .exact Al kd y0
         clear hK K
         try simp only[AJ]
         refine Bj [6] ?_
         refine Ao rfl (λ K hK=>?_)
         go_simp
         go_at_call 32
         (with_reducible refine(HOf.out _ (HKo.out.then' kd)).mono ?_)
         rintro e w9 ⟨vb,kk,wds,mm,⟨⟨hk0,hmm⟩,hrf,hfit⟩,rfl,hV,hbn,k9⟩
         have K9:Kp Ag wo w9:=kd.then' k9
         refine hK _ _ ?_ (λ qZ=>?_)
         .exact Al K9 y0
         clear hK K
         try simp only[AJ]
         refine AB 7 ?_;refine AB 8 ?_;refine AB 9 ?_;refine AB 10 ?_;refine AB 11 ?_
         try simp only[AJ]
         refine wpAnyH_done (by kernel_rfl) ?_ _
         have y1:=Al K9 y1
         have HK9:=sE K9
         have HSt9:=sE (VStore_yes sl 0 vb P.a P.q P.n W c kk wds mm w9 (HSp.out.Am (HKo.out.then' K9)).ar hV hk0 (EW hk0 (by rw[<- hrf];exact HC.out.2.2.1)) (by omega) (by have:=(refsC_in HCs.out HC.out.1 HC.out.2.1 HC.out.2.2.1).2.2;omega))
         clear qZ hV hbn k9 hrf hfit hk0 hmm K9 y0 y2 kd HAr HTb HOf
         go_wp2_with fail
         refine HSt9.out.mono ?_
         rintro e w10 ⟨rfl,k10,A10⟩
         obtain⟨W2,hW2⟩:∃ W2,CE W (2*c.g+1+sl) 0=W2:=⟨_,rfl⟩
         rw[hW2] at A10
         have hin:=refsC_in HCs.out HC.out.1 HC.out.2.1 HC.out.2.2.1
         have hs10:SpaceAt w10 P W2 f:=(HSp.out.Am (HKo.out.then' HK9.out)).words k10 A10
         have hc10:CellsAt P W2 cs:=by rw[<- hW2];exact HCs.out.store HC.out.1 hin.1 hin.2.1 0
         have K410:Kp (λ b=>b=P.a\/b=P.q) w4 w10:=((HK4o.out.then' HK9.out).AA _).trans k10 (λ _ _ h=>h)
         have hown:=HOwn.out
         have hr10:=Ac HR4.out K410 (λ b hb h=>by have:=(Ab HR4.out hb).1;omega)
         have HK10:Sl (Kp Ag w2 w10):=⟨((HK3.out.then' (HKo.out.then' HK9.out)).trans k10 (λ b hb h=>by omega))⟩
         have HRe2:Sl (MReach (Dn f (P.n/2) P.ts W2 cs) (λ g=>g∈rs) g ↔ Bz (Cr es x) rs g):=⟨by
          rw[reach_marks hc10 HSt.out HRO.out]
          refine reach_congr (λ e=>?_) rs g
          have hx0:x∈AX P.ts W cs:=by rw[HEs.out];exact HXm.out.1
          have h:=edges_less HCs.out hx0 e
          rw[HC.out.2.2.2.1,HC.out.2.2.2.2,hW2,HEs.out] at h
          rw[h,Ep]⟩
         have HMk:=sE (MarkOf_at P W2 f 100 w10 cs hs10 hc10 HSt.out HMs.out (by omega) (by omega) (.slice ra rl rc) rs (DU.BG hr10) HRO.out (by rw[HRL.out];omega))
         have hgH:g<P.n/2:=Cs HCs.out HGo.out
         clear hs10 hc10 K410 hr10 k10 A10 hW2 hin
         go_wp2_with fail
         refine HMk.out.mono ?_
         rintro e w11 ⟨mp,mq,fm,n1,dp,ag,rfl,hb11,-,-,-,hr11,-,-,-,k11⟩
         have HFm:Sl (fm g= !t):=⟨by
          have h1:=(hr11 g).trans HRe2.out
          have h2:=HTd.out
          cases hf:fm g <;> cases ht:t
          .have:=h2.2 (λ h=>by have:=h1.2 h;rw [hf] at this;cases this)
           rw[ht] at this
           cases this
          .rfl
          .rfl
          .exact absurd (h1.1 hf) (h2.1 ht)⟩
         have HHa:Sl (∀ o,_):=⟨λ o=>Has_in g (P.n/2) mp mq fm (w11.alloc o) (hb11.keep ((Kr Ag w11).alloc o) (λ h=>h) (λ h=>h)) hgH⟩
         have HK11:=sE (HK10.out.then' k11)
         clear hb11 hr11 k11
         go_wp2_with fail
         refine(HHa.out _).mono ?_
         rintro e w12 ⟨rfl,k12⟩
         rw[HFm.out]
         have hnt:((!t) !=t)=true:=by cases t <;> rfl
         have HK12:=sE ((HK11.out.alloc _).then' k12)
         clear k12
         go_wp2_with fail
         refine(HAlive.out _ HK12.out).mono ?_
         rintro e w13 ⟨rfl,k13⟩
         go_wp2
         go_ret
         exact⟨rfl,HK12.out.then' k13⟩
     .exact absurd ⟨g,rfl,HGo.out⟩ hno
    .clear hnr HNoo
     go_wp2_with fail
     refine(HHolds.out w6 (g:Nat) (K4.out.then' K46.out)).mono ?_
     rintro e w7 ⟨(⟨g',v7,hg',-,rfl,hrow7⟩|⟨hno,-⟩),k7⟩
     .obtain ⟨ha,hc,rfl,-⟩:=hrow7
      have K47:Sl (Kp Ag w4 w7):=⟨K46.out.then' k7⟩
      clear k7 hg'
      go_wp2_with fail
      refine(HAlive.out _ (HK3.out.then' (K4.out.then' K47.out))).mono ?_
      rintro e w8 ⟨rfl,k8⟩
      go_wp2
      go_ret
      exact⟨rfl,HK3.out.then' (K4.out.then' (K47.out.then' k8))⟩
     .exact absurd ⟨g,rfl,HGo.out⟩ hno

end Go.Proofs.YtpeipocojmjbfaaGreatDoor
