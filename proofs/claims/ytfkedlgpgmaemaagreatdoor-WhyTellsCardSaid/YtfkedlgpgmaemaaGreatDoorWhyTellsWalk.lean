/-
  The law WhyTells, walked.
-/
import Derived.Test.YtfkedlgpgmaemaaGreatDoorQbq
import Derived.Test.YtfkedlgpgmaemaaGreatDoorQbd
import Derived.Test.YtfkedlgpgmaemaaGreatDoorQau
import Derived.Test.YtfkedlgpgmaemaaGreatDoorQbp
set_option linter.unusedVariables false
set_option maxHeartbeats 16000000
namespace Go.Proofs.YtfkedlgpgmaemaaGreatDoor
open Tryz
open Go.RowKit

theorem ints_of_at{w:World}{v:Value}{len:Nat}{x:Nat->Nat->Int}(h:Bw 1 w v len x):IntsIn w v ((List.range len).map λ i=>x i 0):=by
 obtain⟨a,c,rfl,hc⟩:=h
 refine⟨a,c,by simp,λ i hi=>?_⟩
 rw[List.length_map,List.length_range] at hi
 obtain⟨b,o,h1,h2,h3⟩:=hc i hi
 refine⟨b,o,h1,h2,λ j hj=>?_⟩
 obtain rfl:j=0:=by omega
 have hd:((List.range len).map λ i=>x i 0).getD i 0=x i 0:=by simp[List.getD,hi]
 dsimp only
 rw[hd]
 exact h3 0 hj

theorem ints_range{w:World}{v:Value}{xs:List Int}(h:IntsIn w v xs):∀ x∈xs,-9223372036854775808<=x/\x<=9223372036854775807:=λ x hx=>by
 obtain⟨i,hi⟩:=List.getElem?_of_mem hx
 obtain⟨a,c,-,hc⟩:=h
 obtain⟨b,o,-,-,h3⟩:=hc i (gE.1 hi).1
 have:=(h3 0 (by omega)).2
 dsimp only at this
 rwa [List.getD_eq_getElem?_getD,hi] at this

theorem intsIn_at{w:World}{a:Option Addr}{n c:Nat}{xs:List Int}(h:IntsIn w (.slice a n c) xs){i:Nat}{x:Int}(hi:xs[i]?=some x):∃ b o,a=some ⟨b,o,none⟩/\w.cell? ⟨b,o+i,none⟩=some (.int .i64 x):=by
 obtain⟨a',c',e,hc⟩:=h
 obtain⟨b,o,h1,-,h3⟩:=hc i (gE.1 hi).1
 have:=(h3 0 (by omega)).1
 dsimp only at this
 rw[List.getD_eq_getElem?_getD,hi,show o+(i*1+0)=o+i by omega] at this
 injection e with e1
 exact⟨b,o,e1.trans h1,this⟩

theorem allObj_step{cs:List Cel}{zs:List Int}{j:Nat}{z:Int}(h:zs[j]?=some z):Cy cs (zs.take (j+1))=(Cy cs (zs.take j)&&Er cs z):=by
 unfold Cy
 rw[List.take_add_one,h,List.all_append]
 simp

theorem own_cap3{w:World}{base n c:Nat}{T:TypeId}{a:Option Addr}{xs:List Value}(h:w.ownsRow base T 3 (.slice a n c) n xs):n<=c:=by
 rcases h.2 with ⟨h1,h0⟩|⟨g,cap,cur,h1,g2,g3,g4,g5,g6,g7⟩
 .omega
 .injection h1 with _ _ h2
  omega

set_option maxRecDepth 20000 in
theorem whytells_walk(n:Int)(v1 v2:Value)(gg:Int)(one:Nat)(v3 v4:Value)(xs:List TypR)(len:Nat)(d g i nn y:Nat->Int)(u:Nat->Value)(m:Nat->Nat)(zn:Nat)(zf:Nat->Nat->Int)(ns:Nat)(ys:Nat->Nat)(w:World)(hF:Au w)(h1:A8 w v1 xs)(h2:FT w v2 len d g i nn y u m)
  (hl:xs.length<=17592186044416) (hM:Cw xs) (hl2:len<=17592186044416) (hy:∀ j,j<len->0<=y j/\y j<=18446744073709551615) (hA:AtsAt w len u m) (hz:Bw 1 w v3 zn zf) (hzl:zn<=17592186044416) (hb:BytesIn w v4 ns ys) (hnl:ns<=140737488355328) (hg1:-9223372036854775808<=gg) (hg2:gg<9223372036854775808) (ho1:one<256):
  Calls prog 7 #[.int .i64 n,v1,v2,.int .i64 gg,.int .u8 one,v3,v4] w (RK (.bool true) w):=by
 have HF:=sE hF
 have HAlive:Sl (∀ W',Kp Aa w W'->Calls prog 37 #[] W' (RK (.bool true) W')):=⟨λ W' kk=>alive40 W' (hF.Ac kk)⟩
 have HH:=sE (Heavy9_any n v1 v2 xs len d g i nn y u m w h1 h2 hl hl2)
 have HPl:Sl (len<=60->(∀ j,j<len->m j<=300)->Calls prog 10 #[.int .i64 n,v1,v2] w (Ea n xs v1 w)):=⟨λ q1 q2=>Played_any n v1 v2 xs len d g i nn y u m w hF h1 hl hM h2 q1 hy hA q2⟩
 have hv1:∃ a l c,v1=.slice a l c:=by obtain⟨a,c,h,-⟩:=h1;exact ⟨_,_,_,h⟩
 have hv2:∃ a l c,v2=.slice a l c:=by obtain⟨a,c,h,-⟩:=h2;exact ⟨_,_,_,h⟩
 obtain⟨a1,l1,c1,rfl⟩:=hv1
 obtain⟨a2,l2,c2,rfl⟩:=hv2
 have HZ:=sE (ints_of_at hz)
 obtain⟨zs3,hzs⟩:∃ z,(List.range zn).map (λ i=>zf i 0)=z:=⟨_,rfl⟩
 have HZn:Sl (zs3.length=zn):=⟨by rw[<- hzs];simp⟩
 rw[hzs] at HZ
 have HB:=sE hb
 obtain⟨a3,c3,rfl,-⟩:=hz
 obtain⟨a4,c4,rfl,-⟩:=hb
 clear hF h1 h2 hM hy hA hl hl2 hzs
 by_cases hs5:zn+ns<=40
 case neg=>
  have p5:decide ((40:Int)<(zn:Int)+(ns:Int))=true:=dT (by omega)
  clear hs5
  go_enter func7,ntmps7
  go_wp2_with fail
  refine HH.o.mono ?_
  rintro e w2 ⟨t,rfl,rfl,ht⟩
  clear ht
  cases t
  all_goals
   go_wp2_with fail
   refine(HAlive.o _ (Kr _ _)).mono ?_
   rintro e w3 ⟨rfl,k3⟩
   go_wp2
   go_ret
   exact⟨rfl,k3⟩
 case pos=>
 have p5:decide ((40:Int)<(zn:Int)+(ns:Int))=false:=dF (by omega)
 go_enter func7,ntmps7
 go_wp2_with fail
 refine HH.o.mono ?_
 rintro e w2 ⟨t,rfl,rfl,ht⟩
 cases t with
 |true=>
  clear ht
  go_wp2_with fail
  refine(HAlive.o _ (Kr _ _)).mono ?_
  rintro e w3 ⟨rfl,k3⟩
  go_wp2
  go_ret
  exact⟨rfl,k3⟩
 |false=>
  obtain⟨-,-,q1,q2⟩:=ht rfl
  have HPp:=sE (HPl.o q1 q2)
  clear q1 q2 ht HPl
  go_wp2_with fail
  refine HPp.o.mono ?_
  rintro e w3 (⟨rfl,k3⟩|⟨P,rb,q,W,cs,rfl,hBt,hPn,hPs,h16⟩)
  .have HK3:=sE k3
   clear k3
   go_wp2_with fail
   refine(HAlive.o _ HK3.o).mono ?_
   rintro e w4 ⟨rfl,k4⟩
   go_wp2
   go_ret
   exact⟨rfl,HK3.o.then' k4⟩
  .obtain ⟨f,hsp,hcs,hst⟩:=hBt.sp
   have HK3:Sl (Kp Aa _ w3):=⟨hBt.kb.new'⟩
   have hcn:cs≠[]:=λ e=>by
    have:=hcs.tl
    rw[e] at this
    have h0:0=P.n/2:=this
    omega
   have hmks:∀ x∈P.ts,x.m<18446744073709551616:=hBt.ms
   have hP64:P.n<=65536:=hsp.ar.small
   have hty:=hBt.ty.keepBase hBt.kb
   have hfw:=hBt.few
   have hcl:cs.length<=65536:=by have:=BG hcs.tl;omega
   have HRt:Sl (∀ W' v n ys,Kp Aa w3 W'->n<=65536->BytesIn W' v n ys->Calls prog 11 #[.pointer (some P.s),v] W' λ e w'=>∃ a c,e=.returned (.slice a (BD (Aj cs) ys n).length c)/\w'.ownsRow W'.heap.size 3 1 (.slice a (BD (Aj cs) ys n).length c) (BD (Aj cs) ys n).length (Az (BD (Aj cs) ys n))/\Kp Aa W' w'):=⟨λ W' v n ys kk hn hv=>Roots20_at P cs W' ⟨W,f,hsp.Ac kk,hcs,hst⟩ hcn v n ys hn hv⟩
   have HObj:Sl (∀ W' z,Kp Aa w3 W'->Calls prog 38 #[.pointer (some rb),.int .i64 z] W' (RK (.bool (Er cs z)) W')):=⟨λ W' z kk=>DObject40_at P W cs rb q _ W' z (hBt.dc.Ac kk) hcs (hty.Ac kk) (by omega) hBt.ms hcl⟩
   have HEd:Sl (∀ W' cap,Kp Aa w3 W'->_):=⟨λ W' cap kk=>DEdges_at P W cs q cap _ W' (hBt.dc.row.keep kk id) hcs (hty.Ac kk) (by omega) hBt.ms⟩
   have HFa:Sl (∀ W' v zs,Kp Aa w3 W'->IntsIn W' v zs->zs.length<=65536->_):=⟨λ W' v zs kk hx hl=>WFar_any (hsp.Ac kk) hcs hst hmks hx hl⟩
   have HWa:Sl (∀ W' v zs g,Kp Aa w3 W'->IntsIn W' v zs->zs.length<=65536->_):=⟨λ W' v zs g kk hx hl=>WWay_any (hsp.Ac kk) hcs hst hmks g hx hl⟩
   have HOn:Sl (∀ W' v zs g,Kp Aa w3 W'->IntsIn W' v zs->zs.length<=65536->_):=⟨λ W' v zs g kk hx hl=>WOnly_any (hsp.Ac kk) hcs hst hmks g hx hl⟩
   have HHo:Sl (∀ W' g,Kp Aa w3 W'->_):=⟨λ W' g kk=>WHolds_any (hsp.Ac kk) hcs hst hmks g⟩
   have HEk:Sl ((∀ e∈AP P.ts W cs,e.2.2<P.n/2)/\(AP P.ts W cs).length<=2147483648/\(AP P.ts W cs).Nodup):=⟨λ e he=>CV hcs (Ep hcs hst he).2.1,Nat.le_trans (Dv cs _) (hcs.to.F8 hP64),edges_nodup hcs⟩
   have HOk:Sl (∀ g,CL cs g->g<P.n/2):=⟨λ g h=>CV hcs h⟩
   have HH65:Sl (P.n/2<=65536):=⟨by omega⟩
   have HO65:Sl (∀ g,CL cs g->g<65536):=⟨λ g h=>by have:=CV hcs h;omega⟩
   obtain⟨dcap,hd0,hd1⟩:=hBt.dc.head
   have HD0:=sE hd0
   have HD1:=sE hd1
   obtain⟨es,hes⟩:∃ es,AP P.ts W cs=es:=⟨_,rfl⟩
   obtain⟨H,hH⟩:∃ H,P.n/2=H:=⟨_,rfl⟩
   obtain⟨s0,hs0⟩:∃ s,P.s=s:=⟨_,rfl⟩
   obtain⟨Pn,hPn'⟩:∃ n,P.n=n:=⟨_,rfl⟩
   rw[hes,hH] at HFa HWa HOn HEk
   rw[hes] at HHo
   rw[hH] at HH65 HOk
   rw[hes,hPn'] at HEd
   rw[hPn'] at HD0
   rw[hs0] at HRt HFa HWa HOn HHo ⊢
   obtain⟨EN,hEN⟩:∃ n,es.length=n:=⟨_,rfl⟩
   clear hsp hcs hst hcn hmks hBt hPn hPs h16 HPp HH hd0 hd1 hty hfw hcl hP64 hes hH hs0 hPn'
   go_wp2_with fail
   refine(HRt.o w3 _ ns ys (Kr _ _) (by omega) (HB.o.Ac HK3.o)).mono ?_
   rintro e w4 ⟨ra,rc,rfl,hrow,k4⟩
   have K4:Sl (Kp Aa w3 w4):=⟨k4⟩
   have hRo:∀ g∈BD (Aj cs) ys ns,g<65536:=λ g hg=>HO65.o g (roots_obj g hg)
   have hRl:(BD (Aj cs) ys ns).length<=ns:=rootsOf_len (Aj cs) ys ns
   obtain⟨rs,hrs⟩:∃ rs,BD (Aj cs) ys ns=rs:=⟨_,rfl⟩
   rw[hrs] at hrow hRo hRl ⊢
   obtain⟨rl,hrl⟩:∃ rl,rs.length=rl:=⟨_,rfl⟩
   rw[hrl] at hrow hRl ⊢
   rw[natVs_int] at hrow
   have HR4:=sE hrow
   have HZ4:=sE (HZ.o.Ac (HK3.o.then' k4))
   have HRg:Sl (∀ x∈rs.map (λ x:Nat=>(x:Int))++zs3,-9223372036854775808<=x/\x<=9223372036854775807):=⟨λ x hx=>by
    rcases List.mem_append.1 hx with h|h
    .obtain ⟨k,hk,rfl⟩:=List.mem_map.1 h
     have:=hRo k hk
     omega
    .exact ints_range HZ.o x h⟩
   have hZl:(rs.map (λ x:Nat=>(x:Int))++zs3).length=rl+zn:=by rw[List.length_append,List.length_map,hrl,HZn.o]
   obtain⟨zs,hzs⟩:∃ zs,rs.map (λ x:Nat=>(x:Int))++zs3=zs:=⟨_,rfl⟩
   obtain⟨zl,hzl2⟩:∃ zl,rl+zn=zl:=⟨_,rfl⟩
   have hzl3:zl<=40:=by omega
   have HZs:=sE hzs
   have HZl:Sl (rl+zs3.length=zl):=⟨by rw[HZn.o];exact hzl2⟩
   rw[hzs] at HRg hZl
   rw[hzl2] at hZl
   have HLz:Sl (zs.length=zl):=⟨hZl⟩
   clear hrow k4 hRo hrl hrs HZ hzs hzl2 hZl HB
   go_wp2_with (at_builtin;obtain ⟨i0,hi,hz0,hz1,hz2⟩:=info_parts Be;go_loud (refine Cv _ rfl (.tmp 63) (.tmp 64) 24 rfl 3 i0 Ar hi hz0 hz1 hz2 w3.heap.size (.slice ra rl rc) rl _ rfl HR4.o (.slice a3 zn c3) zs3 rfl HZ4.o (by have:=HZl.o;omega) K4.o.size ?_);intro v5 w5 hown5 hgrow5;rw [HZs.o,HZl.o] at hown5;obtain ⟨a5,c5,rfl⟩:=Aq hown5;have HI5:Sl (IntsIn w5 (.slice a5 zl c5) zs):=⟨Cz (by rw[HLz.o];exact hown5) HRg.o⟩;have K5:Sl (Kp Aa w3 w5):=⟨K4.o.grown hgrow5 (λ k e hk=>by have:=(Ad HR4.o e).1;omega)⟩;clear hi hz0 hz1 hz2 hown5 hgrow5)
   have hone:BytesIn (w5.alloc (.cells #[.int .u8 one] 5)) (.slice (some ⟨w5.heap.size,0,none⟩) 1 1) 1 (λ _=>one):=⟨_,_,rfl,λ i hi=>by
    have h0:i=0:=by omega
    subst h0
    exact⟨w5.heap.size,0,rfl,by simp only[World.cell?,wN w5 _];rfl,ho1⟩⟩
   refine(HRt.o _ _ 1 (λ _=>one) (K5.o.alloc _) (by omega) hone).mono ?_
   rintro e w6 ⟨oa,oc,rfl,hrow,k6⟩
   have K6:Sl (Kp Aa w3 w6):=⟨(K5.o.alloc _).then' k6⟩
   have HI6:=sE (HI5.o.Ac (((Kr Aa w5).alloc _).then' k6))
   have HOw:Sl (∀ g∈BD (Aj cs) (λ _=>one) 1,g<65536):=⟨λ g hg=>HO65.o g (roots_obj g hg)⟩
   have HOl:=rootsOf_len (Aj cs) (λ _=>one) 1
   obtain⟨os,hos⟩:∃ rs,BD (Aj cs) (λ _=>one) 1=rs:=⟨_,rfl⟩
   rw[hos] at hrow HOw HOl ⊢
   obtain⟨ol,hol⟩:∃ n,os.length=n:=⟨_,rfl⟩
   rw[hol] at hrow HOl ⊢
   have HR6:=sE hrow
   have HOn:=sE hol
   clear hone hrow k6 hos hol HI5 HR4 HZ4 HRt HZs HZl HZn
   go_upto_region 8 with fail
   go_cut [76] from 70 to 75 (λ x76 wx=>x76=.bool (decide (0<ol)&&decide (gg<0))/\w6=wx)
   case first=>
    by_cases ho:0<ol
    .have ho':(0:Int)<(ol:Int):=by omega
     by_cases hn:gg<0
     .go_wp2_with fail
      go_meet
      exact⟨by rw[dT (show 0<ol by omega),dT (show gg<0 by omega)];rfl,rfl⟩
     .go_wp2_with fail
      go_meet
      exact⟨by rw[dT (show 0<ol by omega),dF (show ¬ gg<0 by omega)];rfl,rfl⟩
    .have ho':¬ (0:Int)<(ol:Int):=by omega
     go_wp2_with fail
     go_meet
     exact⟨by rw[dF (show ¬ 0<ol by omega)];rfl,rfl⟩
   case rest=>
   obtain⟨rfl,rfl⟩:=hcut
   obtain⟨bb,hbb⟩:∃ b,(decide (0<ol)&&decide (gg<0))=b:=⟨_,rfl⟩
   have HBB:=sE hbb
   rw[hbb]
   clear hbb
   go_upto_if 76 with fail
   go_cut [3,76] from 77 to 79 (λ x3 _ wx=>Sl (∃ g':Int,x3=.int .i64 g'/\-9223372036854775808<=g'/\g'<9223372036854775808)/\w6=wx)
   case first=>
    cases bb with
    |true=>
     obtain⟨o0,ho0⟩:∃ o,os[0]?=some o:=⟨_,List.getElem?_eq_getElem (by
      have h1:=HBB.o
      rw[Bool.and_eq_true,decide_eq_true_iff] at h1
      rw[HOn.o]
      exact h1.1)⟩
     obtain⟨ob,hob,cg⟩:=Cu HR6.o ho0
     subst hob
     have h65:=HOw.o o0 (List.mem_of_getElem? ho0)
     have ho1:(0:Int)<(ol:Int):=by
      have h1:=HBB.o
      rw[Bool.and_eq_true,decide_eq_true_iff] at h1
      omega
     clear ho0
     go_wp2_with fail
     go_meet
     exact⟨⟨_,rfl,by omega,by omega⟩,rfl⟩
    |false=>
     go_wp2_with fail
     go_meet
     exact⟨⟨_,rfl,hg1,hg2⟩,rfl⟩
   case rest=>
   obtain⟨⟨g',rfl,hh1,hh2⟩,rfl⟩:=hcut
   clear HBB HR6 HOw HOn HOl hg1 hg2
   go_wp2_with fail
   go_loopw [20,21] (λ x20 x21 wr=>∃ j:Nat,x21=.int .i64 (j:Nat)/\j<=zl/\x20=.bool (Cy cs (zs.take j))/\Kp Aa w6 wr) (λ _ x21 _=>zl-(intOf x21).toNat)
   case atStart=>exact ⟨0,rfl,Nat.zero_le _,rfl,Kr _ _⟩
   case round=>
    obtain⟨j,rfl,hj,rfl,hk⟩:=hrel
    have HK:=sE hk
    by_cases hjl:j<zl
    .have hjl':(j:Int)<(zl:Int):=by omega
     obtain⟨z,hzj⟩:∃ z,zs[j]?=some z:=⟨_,List.getElem?_eq_getElem (by rw[HLz.o];exact hjl)⟩
     obtain⟨xb,xo,hxa,cx⟩:=intsIn_at (HI6.o.Ac hk) hzj
     subst hxa
     have HS:=sE (allObj_step (cs:=cs) hzj)
     obtain⟨t,ht⟩:∃ t,Cy cs (zs.take j)=t:=⟨_,rfl⟩
     rw[ht] at HS ⊢
     clear ht hzj hk
     cases t with
     |false=>
      go_wp2_with fail
      exact⟨⟨j+1,by go_num,by omega,by rw[HS.o];rfl,HK.o⟩,by simp only[intOf];omega⟩
     |true=>
      go_wp2_with fail
      refine(HObj.o wr z (K6.o.then' HK.o)).mono ?_
      rintro e w7 ⟨rfl,k7⟩
      have HK7:=sE (HK.o.then' k7)
      clear k7
      go_wp2_with fail
      exact⟨⟨j+1,by go_num,by omega,by rw[HS.o,Bool.true_and],HK7.o⟩,by simp only[intOf];omega⟩
    .obtain rfl:zl=j:=by omega
     have hjl':¬ (zl:Int)<(zl:Int):=by omega
     obtain⟨B,hB⟩:∃ b,Cy cs zs=b:=⟨_,rfl⟩
     rw[show zs.take zl=zs by rw[List.take_of_length_le (by rw[HLz.o];omega)],hB]
     have HBe:=sE hB
     obtain⟨rn,hrn⟩:∃ r,natL zs=r:=⟨_,rfl⟩
     have HRn:=sE hrn
     obtain⟨Q,hQ⟩:∃ q,reachL es rn H=q:=⟨_,rfl⟩
     have HQ:=sE hQ
     obtain⟨G,hG⟩:∃ b,Er cs g'=b:=⟨_,rfl⟩
     have HGe:=sE hG
     obtain⟨DD,hDD⟩:∃ d,distD es rn=d:=⟨_,rfl⟩
     have HDD:Sl (Gg es rn DD):=⟨by rw[<- hDD];exact isDist_D es rn⟩
     have hZl:zs.length<=65536:=by rw[HLz.o];omega
     have HF7:Sl (∀ W' v,Kp Aa w3 W'->IntsIn W' v zs->_):=⟨λ W' v kk hx=>HFa.o W' v zs kk hx hZl⟩
     have HW7:Sl (∀ W' v,Kp Aa w3 W'->IntsIn W' v zs->_):=⟨λ W' v kk hx=>HWa.o W' v zs g' kk hx hZl⟩
     have HO7:Sl (∀ W' v,Kp Aa w3 W'->IntsIn W' v zs->_):=⟨λ W' v kk hx=>HOn.o W' v zs g' kk hx hZl⟩
     have HH7:Sl (∀ W',Kp Aa w3 W'->_):=⟨λ W' kk=>HHo.o W' g' kk⟩
     have HOb:Sl (∀ W',Kp Aa w3 W'->_):=⟨λ W' kk=>HObj.o W' g' kk⟩
     rw[hB,hrn,hQ,hDD] at HF7
     rw[hB,hrn,hQ,hG,hDD] at HW7
     rw[hB,hrn,hQ,hG] at HO7
     rw[hG] at HH7 HOb
     obtain⟨x1,hx1⟩:∃ c,cFar B=c:=⟨_,rfl⟩
     obtain⟨x2,hx2⟩:∃ c,cWay B G (decide (g'.toNat∈Q))=c:=⟨_,rfl⟩
     obtain⟨x4,hx4⟩:∃ c,cFar G=c:=⟨_,rfl⟩
     rw[hx1] at HF7
     rw[hx2] at HW7 HO7
     rw[hx4] at HH7
     have HX1:=sE hx1
     have HX2:=sE hx2
     have HX4:=sE hx4
     have HI7:=sE (HI6.o.Ac hk)
     have K7:Sl (Kp Aa w3 wr):=⟨K6.o.then' hk⟩
     obtain⟨w7,rfl⟩:∃ w7,w7=wr:=⟨_,rfl⟩
     clear hk HFa HWa HOn HHo HObj HI6 K6 HK hB hrn hQ hG hDD hZl hjl hx1 hx2 hx4
     go_wp2_with (at_builtin;obtain ⟨i0,hi,hz0,hz1,hz2⟩:=info_parts Be;go_loud (refine Cv _ rfl (.const (.slice none 0 0)) (.tmp 97) 24 rfl 3 i0 Ar hi hz0 hz1 hz2 w7.heap.size (.slice none 0 0) 0 [] rfl (World.ownsRow_nil _ _ _ _) (.slice a5 zl c5) zs rfl HI7.o (by rw[HLz.o];omega) (Nat.le_refl _) ?_);intro vF wF hownF hgrowF;rw [Nat.zero_add,List.nil_append] at hownF;have HIF:Sl (IntsIn wF vF zs):=⟨Cz hownF HRg.o⟩;have KF:Sl (Kp Aa w3 wF):=⟨K7.o.then' ((Kr Aa _).grown hgrowF (λ k e _=>by cases e))⟩;have KFx:Sl (Kp Aa w7 wF):=⟨(Kr Aa _).grown hgrowF (λ k e _=>by cases e)⟩;clear hi hz0 hz1 hz2 hownF hgrowF)
     refine(HF7.o wF vF KF.o HIF.o).mono ?_
     rintro e wA ⟨aa,an,ac,rfl,hna,hya,kA⟩
     have KA:Sl (Kp Aa w3 wA):=⟨KF.o.then' kA⟩
     have HIA:=sE (HI7.o.Ac (KFx.o.then' kA))
     clear kA HIF KF KFx HF7 HI7
     go_wp2_with (at_builtin;obtain ⟨i0,hi,hz0,hz1,hz2⟩:=info_parts Be;go_loud (refine Cv _ rfl (.const (.slice none 0 0)) (.tmp 105) 24 rfl 3 i0 Ar hi hz0 hz1 hz2 wA.heap.size (.slice none 0 0) 0 [] rfl (World.ownsRow_nil _ _ _ _) (.slice a5 zl c5) zs rfl HIA.o (by rw[HLz.o];omega) (Nat.le_refl _) ?_);intro vF wF hownF hgrowF;rw [Nat.zero_add,List.nil_append] at hownF;have HIF:Sl (IntsIn wF vF zs):=⟨Cz hownF HRg.o⟩;have KF:Sl (Kp Aa w3 wF):=⟨KA.o.then' ((Kr Aa _).grown hgrowF (λ k e _=>by cases e))⟩;have KFx:Sl (Kp Aa wA wF):=⟨(Kr Aa _).grown hgrowF (λ k e _=>by cases e)⟩;clear hi hz0 hz1 hz2 hownF hgrowF)
     refine(HW7.o wF vF KF.o HIF.o).mono ?_
     rintro e wB ⟨ba,bn,bc,rfl,hnb,hyb,kB⟩
     have KB:Sl (Kp Aa w3 wB):=⟨KF.o.then' kB⟩
     have KAB:Sl (Kp Aa wA wB):=⟨KFx.o.then' kB⟩
     have HIB:=sE (HIA.o.Ac KAB.o)
     clear kB HIF KF KFx HW7 HIA
     go_wp2_with (at_builtin;obtain ⟨i0,hi,hz0,hz1,hz2⟩:=info_parts Be;go_loud (refine Cv _ rfl (.const (.slice none 0 0)) (.tmp 113) 24 rfl 3 i0 Ar hi hz0 hz1 hz2 wB.heap.size (.slice none 0 0) 0 [] rfl (World.ownsRow_nil _ _ _ _) (.slice a5 zl c5) zs rfl HIB.o (by rw[HLz.o];omega) (Nat.le_refl _) ?_);intro vF wF hownF hgrowF;rw [Nat.zero_add,List.nil_append] at hownF;have HIF:Sl (IntsIn wF vF zs):=⟨Cz hownF HRg.o⟩;have KF:Sl (Kp Aa w3 wF):=⟨KB.o.then' ((Kr Aa _).grown hgrowF (λ k e _=>by cases e))⟩;have KFx:Sl (Kp Aa wB wF):=⟨(Kr Aa _).grown hgrowF (λ k e _=>by cases e)⟩;clear hi hz0 hz1 hz2 hownF hgrowF)
     refine(HO7.o wF vF KF.o HIF.o).mono ?_
     rintro e wC ⟨ca,cn,cc,rfl,hnc,hyc,kC⟩
     have KC:Sl (Kp Aa w3 wC):=⟨KF.o.then' kC⟩
     have KAC:Sl (Kp Aa wA wC):=⟨KAB.o.then' (KFx.o.then' kC)⟩
     have KBC:Sl (Kp Aa wB wC):=⟨KFx.o.then' kC⟩
     have HIC:=sE (HIB.o.Ac (KFx.o.then' kC))
     clear kC HIF KF KFx HO7 HIB
     go_wp2_with fail
     refine(HH7.o wC KC.o).mono ?_
     rintro e wD ⟨da,dn,dc,rfl,hnd,hyd,kD⟩
     have KD:Sl (Kp Aa w3 wD):=⟨KC.o.then' kD⟩
     have KAD:Sl (Kp Aa wA wD):=⟨KAC.o.then' kD⟩
     have KBD:Sl (Kp Aa wB wD):=⟨KBC.o.then' kD⟩
     have KCD:Sl (Kp Aa wC wD):=⟨kD⟩
     have HID:=sE (HIC.o.Ac kD)
     have d0:=KD.o.cell HD0.o id
     have d1:=KD.o.cell HD1.o id
     clear kD HH7 HIC
     go_wp2_with fail
     refine wp_region_held_drew (S:=λ w'=>w'.cell? rb=some (.slice (some ⟨q,0,none⟩) Pn dcap)/\w'.cell? ⟨rb,1,none⟩=some (.slice a1 l1 c1)) (by kernel_rfl) ?_ (λ qZ=>?_)
     .exact ⟨d0,d1⟩
     refine Ap 0 ?_;refine Ap 1 ?_;refine Ap 2 ?_;refine Ap 3 ?_;refine Ap 4 ?_;refine Ap 5 ?_;refine Ap 6 ?_;refine Ap 7 ?_
     try simp only[AB]
     refine Bp [8] ?_
     refine Ag rfl (λ K hK=>?_)
     go_simp
     go_at_call 18
     (with_reducible refine(HEd.o _ dcap (KD.o.then' (Kr _ _).drew)).mono ?_)
     rintro e wE ⟨vE,rfl,hoE,kE⟩
     have KDE:Sl (Kp Aa wD wE):=⟨(Kr Aa wD).drew.then' kE⟩
     obtain⟨ga,gc,rfl⟩:=Aq hoE
     have hgc:=own_cap3 hoE
     have HEG:=sE (Dl.Bc hoE)
     refine hK _ _ ?_ (λ qZ=>?_)
     .exact ⟨Ae KDE.o d0,Ae KDE.o d1⟩
     clear hK K
     try simp only[AB]
     refine Ap 9 ?_
     try simp only[AB]
     refine wpAnyH_done (by kernel_rfl) ?_ _
     have hel:=HEk.o.2.1
     rw[hEN] at HEG hgc hel ⊢
     have HEn:=sE hEN
     have KE:Sl (Kp Aa w3 wE):=⟨KD.o.then' KDE.o⟩
     clear hoE kE HEd qZ d0 d1 HD0 HD1 hEN
     go_upto_region 20 with fail
     go_cut [158] from 133 to 157 (λ x158 wx=>x158=.bool false/\Kp Aa wE wx)
     case first=>
      cases G with
      |false=>
       obtain rfl:x4=2:=HX4.o.symm
       go_wp2_with fail
       refine(HOb.o wE KE.o).mono ?_
       rintro e wG ⟨rfl,kG⟩
       go_wp2_with fail
       go_meet
       exact⟨rfl,kG⟩
      |true=>
       obtain rfl:x4=0:=HX4.o.symm
       obtain⟨k,rfl,hk⟩:=EU.1 HGe.o
       have hrd:=hyd.o rfl
       rw[Int.toNat_natCast] at hrd
       have HRD:=sE (hrd.Ac KDE.o)
       have HIl:Sl ((GD es k).length<=2147483648):=⟨Nat.le_trans (List.length_filter_le _ _) (by rw[HEn.o];exact hel)⟩
       clear hrd hk
       go_wp2_with fail
       refine(HOb.o wE KE.o).mono ?_
       rintro e wG ⟨rfl,kG⟩
       have KG:=sE kG
       clear kG
       go_wp2_with fail
       with_reducible refine(DHolds40_at wG ga gc es k EN (HEG.o.Ac KG.o) HEn.o hel).mono ?_
       rintro e wH ⟨vH,rfl,hH2,kH⟩
       have KH:Sl (Kp Aa wE wH):=⟨KG.o.then' kH⟩
       go_wp2_with fail
       with_reducible refine(Gt (GD es k) _ _ _ (Gx (HRD.o.Ac KH.o)) (Gx hH2) (by have:=HIl.o;omega)).mono ?_
       rintro e wI ⟨rfl,kI⟩
       have KI:Sl (Kp Aa wE wI):=⟨KH.o.then' kI⟩
       clear kH kI hH2
       go_wp2_with fail
       go_meet
       exact⟨rfl,KI.o⟩
     case rest=>
     obtain⟨rfl,kr⟩:=hcut
     obtain⟨wJ,rfl⟩:∃ w,w=wc:=⟨_,rfl⟩
     have KEJ:Sl (Kp Aa wE wJ):=⟨kr⟩
     have KJ:Sl (Kp Aa w3 wJ):=⟨KE.o.then' kr⟩
     have KDJ:Sl (Kp Aa wD wJ):=⟨KDE.o.then' kr⟩
     clear kr hnd hyd HX4
     cases B with
     |false=>
      obtain rfl:x1=2:=HX1.o.symm
      obtain rfl:x2=2:=HX2.o.symm
      obtain rfl:=hna.o (by decide)
      obtain rfl:=hnb.o (by decide)
      obtain rfl:=hnc.o (by decide)
      go_wp2_with fail
      refine(HAlive.o _ (HK3.o.then' KJ.o)).mono ?_
      rintro e wK ⟨rfl,kK⟩
      go_wp2
      go_ret
      exact⟨rfl,HK3.o.then' (KJ.o.then' kK)⟩
     |true=>
      obtain rfl:x1=0:=HX1.o.symm
      have HRA:=sE ((hya.o rfl).Ac (KAD.o.then' KDJ.o))
      obtain⟨hzr,hro⟩:=allObj_yes HBe.o
      rw[HRn.o] at hzr hro
      have hrl:rn.length=zl:=by rw[<- HLz.o,hzr,List.length_map]
      have HNj:Sl (AO wJ (.slice a5 zl c5) rn):=⟨(nats_of_ints HID.o hzr).Ac KDJ.o⟩
      have HRk:Sl (∀ r∈rn,r<H):=⟨λ r hr=>HOk.o r (hro r hr)⟩
      have HRl:=sE hrl
      have HZk:Sl (∀ z,AA es rn z->z<H):=⟨λ z hz=>reachT_lt HRk.o HEk.o.1 hz⟩
      have HQm:Sl (∀ z,z∈Q ↔ AA es rn z):=⟨λ z=>by rw[<- HQ.o];exact mem_reachL.trans ⟨λ h=>h.2,λ h=>⟨HZk.o z h,h⟩⟩⟩
      have hQl:Q.length<=65536:=by rw[<- HQ.o];exact Nat.le_trans (setL_len _ _) HH65.o
      have HEGj:=sE (HEG.o.Ac KEJ.o)
      have HFar:=sE (DFar40_at wJ ga gc es a5 c5 rn H DD (by rw[HEn.o];exact HEGj.o) (by rw[HRl.o];exact HNj.o) HH65.o HRk.o HEk.o.1 (by rw[HEn.o];exact hel) (by rw[HRl.o];omega) HDD.o)
      rw[HEn.o,HRl.o] at HFar
      have hal:an=(farP DD Q).length:=by obtain⟨_,_,e,-⟩:=HRA.o;injection e
      have hfl:(farP DD Q).length=Q.length:=List.length_map _
      obtain⟨QL,hQL⟩:∃ n,Q.length=n:=⟨_,rfl⟩
      have HQL:=sE hQL
      rw[hQL] at hfl hQl
      rw[hfl] at hal
      obtain rfl:=hal.symm
      clear hzr hro hrl hya hna hfl hQL HID
      go_wp2_with fail
      with_reducible refine HFar.o.mono ?_
      rintro e wK ⟨vK,m,hm1,hm2,rfl,hm3,kK⟩
      have hmQ:m=Q:=by
       rw[<- HQ.o]
       classical
       exact(setL_doc (λ g=>decide_eq_true_iff) hm1 hm2 HZk.o).symm
      subst hmQ
      have HRK:Sl (RowP wK vK (farP DD m)):=⟨farP_of hm3 λ z hz=>by have:=HZk.o z ((HQm.o z).1 hz);have:=HH65.o;omega⟩
      have KJK:Sl (Kp Aa wJ wK):=⟨kK⟩
      have hvK:∃ a c,vK=.slice a QL c:=by
       obtain⟨a,c,e,-⟩:=HRK.o
       exact⟨a,c,by rw[e];unfold farP;rw [List.length_map,HQL.o]⟩
      obtain⟨fa,fc,rfl⟩:=hvK
      clear hm1 hm2 hm3 kK HFar
      go_wp2_with fail
      with_reducible refine(Same40_yes (farP DD m) _ _ _ (HRA.o.Ac KJK.o) HRK.o (by unfold farP;rw [List.length_map,HQL.o];omega)).mono ?_
      rintro e wL ⟨rfl,kL⟩
      have KJL:Sl (Kp Aa wJ wL):=⟨KJK.o.then' kL⟩
      have HRL2:=sE (HRK.o.Ac kL)
      have KL:Sl (Kp Aa w3 wL):=⟨KJ.o.then' KJL.o⟩
      clear kL KJK HRK HRA
      go_wp2_with fail
      refine(HOb.o wL KL.o).mono ?_
      rintro e wM ⟨rfl,kM⟩
      have KJM:Sl (Kp Aa wJ wM):=⟨KJL.o.then' kM⟩
      have KM:Sl (Kp Aa w3 wM):=⟨KL.o.then' kM⟩
      have HRM:=sE (HRL2.o.Ac kM)
      clear kM KJL HRL2
      cases G with
      |false=>
       obtain rfl:x2=2:=HX2.o.symm
       obtain rfl:=hnb.o (by decide)
       obtain rfl:=hnc.o (by decide)
       go_wp2_with fail
       refine(HAlive.o _ (HK3.o.then' KM.o)).mono ?_
       rintro e wN ⟨rfl,kN⟩
       go_wp2
       go_ret
       exact⟨rfl,HK3.o.then' (KM.o.then' kN)⟩
      |true=>
       obtain⟨k,rfl,hk⟩:=EU.1 HGe.o
       rw[Int.toNat_natCast] at HX2 hyb hyc
       clear hk
       go_wp2_with fail
       go_loopw [32,33] (λ x32 x33 wr=>∃ j:Nat,x33=.int .i64 (j:Nat)/\j<=QL/\x32=.int .i64 (if k∈m.take j then 0 else 3)/\wM=wr) (λ _ x33 _=>QL-(intOf x33).toNat)
       case atStart=>exact ⟨0,rfl,Nat.zero_le _,by simp,rfl⟩
       case round=>
        obtain⟨j,rfl,hj,rfl,rfl⟩:=hrel
        by_cases hjl:j<QL
        .have hjl':(j:Int)<(QL:Int):=by omega
         obtain⟨y,hy⟩:∃ y,m[j]?=some y:=⟨m[j]'(by rw[HQL.o];exact hjl),by simp⟩
         obtain⟨a',c',e,hcell⟩:=HRM.o
         obtain⟨fb,hfb,y0,-⟩:=hcell j (y,(DD y).getD 0) (by unfold farP;rw [List.getElem?_map,hy];rfl)
         have ha:fa=some ⟨fb,0,none⟩:=by injection e with h1;rw [h1];exact hfb
         subst ha
         dsimp only at y0
         have HS:Sl (k∈m.take (j+1) ↔ k∈m.take j\/y=k):=⟨by
          rw[List.take_add_one,hy,List.mem_append]
          simp[eq_comm]⟩
         clear e hcell hfb hy
         by_cases hyk:y=k
         .have q1:((y:Int)==(k:Int))=true:=by rw[hyk];simp
          have HI:Sl ((if k∈m.take (j+1) then (0:Int) else 3)=0):=⟨if_pos (HS.o.2 (.inr hyk))⟩
          clear hyk
          go_wp2_with fail
          exact⟨⟨j+1,by go_num,by omega,by rw[HI.o],trivial⟩,by simp only[intOf];omega⟩
         .have q1:((y:Int)==(k:Int))=false:=by rw[beq_eq_false_iff_ne];omega
          have HI:Sl ((if k∈m.take (j+1) then (0:Int) else 3)=if k∈m.take j then 0 else 3):=⟨by
           by_cases h:k∈m.take j
           .rw [if_pos h,if_pos (HS.o.2 (.inl h))]
           .rw [if_neg h,if_neg λ h2=>(HS.o.1 h2).elim h hyk]⟩
          clear hyk
          go_wp2_with fail
          exact⟨⟨j+1,by go_num,by omega,by rw[HI.o],trivial⟩,by simp only[intOf];omega⟩
        .have hjl':¬ (j:Int)<(QL:Int):=by omega
         rw[show m.take j=m by rw[List.take_of_length_le (by rw[HQL.o];omega)]]
         clear hjl hj
         by_cases hkm:k∈m
         .rw [if_pos hkm]
          obtain rfl:x2=0:=by rw[<- HX2.o,dT hkm];rfl
          obtain⟨d,hd⟩:=Option.isSome_iff_exists.1 (HDD.o.reach.2 ((HQm.o k).1 hkm))
          have hrb:=hyb.o rfl
          rw[hd] at hrb
          have HRB:Sl (Dl wB _ (Gz es DD d k)):=⟨hrb⟩
          have HRC:=sE (hyc.o rfl)
          have hdl:=dist_lt HDD.o (m:=m) (λ y hy=>(HQm.o y).2 (HDD.o.reach.1 hy)) hd
          rw[HQL.o] at hdl
          have HWy:=sE (DWay40_at es rn DD m ga fa gc fc EN QL HEn.o HQL.o hel hQl HDD.o (λ z=>(HQm.o z).trans HDD.o.reach.symm) d k wM (HEGj.o.Ac KJM.o) HRM.o hd (by omega))
          have hwl:=wayL_len es DD d k
          have HOl:Sl ((onlyL es rn k).length<=2147483648):=⟨Nat.le_trans (List.length_filter_le _ _) (Nat.le_trans (List.length_filter_le _ _) (by rw[HEn.o];exact hel))⟩
          clear hrb hyb hyc hd hkm hnb hnc
          go_wp2_with fail
          with_reducible refine HWy.o.mono ?_
          rintro e wN ⟨vN,rfl,hN,kN⟩
          have KJN:Sl (Kp Aa wJ wN):=⟨KJM.o.then' kN⟩
          go_wp2_with fail
          with_reducible refine(Gt (Gz es DD d k) _ _ _ (Gx (HRB.o.Ac (KBD.o.then' (KDJ.o.then' KJN.o)))) (Gx (Dl.Bc hN)) (by omega)).mono ?_
          rintro e wO ⟨rfl,kO⟩
          have KJO:Sl (Kp Aa wJ wO):=⟨KJN.o.then' kO⟩
          clear hN kN kO HWy KJN
          go_wp2_with fail
          with_reducible refine(DOnly40_at wO ga gc es a5 c5 rn k H EN zl (HEGj.o.Ac KJO.o) (HNj.o.Ac KJO.o) HEn.o HRl.o hgc HH65.o HRk.o HEk.o.1 hel (by omega) HEk.o.2.2).mono ?_
          rintro e wP ⟨vP,rfl,hP,kP⟩
          have KJP:Sl (Kp Aa wJ wP):=⟨KJO.o.then' kP⟩
          go_wp2_with fail
          with_reducible refine(Gt (onlyL es rn k) _ _ _ (Gx (HRC.o.Ac (KCD.o.then' (KDJ.o.then' KJP.o)))) (Gx hP) (by have:=HOl.o;omega)).mono ?_
          rintro e wQ ⟨rfl,kQ⟩
          have KQ:Sl (Kp Aa w3 wQ):=⟨KJ.o.then' (KJP.o.then' kQ)⟩
          clear hP kP kQ
          go_wp2_with fail
          refine(HAlive.o _ (HK3.o.then' KQ.o)).mono ?_
          rintro e wR ⟨rfl,kR⟩
          go_wp2
          go_ret
          exact⟨rfl,HK3.o.then' (KQ.o.then' kR)⟩
         .rw [if_neg hkm]
          obtain rfl:x2=3:=by rw[<- HX2.o,dF hkm];rfl
          obtain rfl:=hnb.o (by decide)
          obtain rfl:=hnc.o (by decide)
          clear hkm
          go_wp2_with fail
          refine(HAlive.o _ (HK3.o.then' KM.o)).mono ?_
          rintro e wN ⟨rfl,kN⟩
          go_wp2
          go_ret
          exact⟨rfl,HK3.o.then' (KM.o.then' kN)⟩

end Go.Proofs.YtfkedlgpgmaemaaGreatDoor
