/-
  The law CensusSums, walked.
-/
import Derived.Test.YtfkedlgpgmaemaaGreatDoorQbu
import Derived.Test.YtfkedlgpgmaemaaGreatDoorQby
import Derived.Test.YtfkedlgpgmaemaaGreatDoorQbr
import Derived.Test.YtfkedlgpgmaemaaGreatDoorQbs
import Derived.Test.YtfkedlgpgmaemaaGreatDoorQau
set_option linter.unusedVariables false
set_option maxHeartbeats 16000000
namespace Go.Proofs.YtfkedlgpgmaemaaGreatDoor
open Tryz
open Go.RowKit

theorem FJ{f g:Nat->Bool}{p:Nat->Prop}(h1:∀ x,f x=true ↔ p x)(h2:∀ x,g x=true ↔ p x):f=g:=by
 funext x
 have:=(h1 x).trans (h2 x).symm
 cases e1:f x <;> cases e2:g x <;> simp_all

set_option maxRecDepth 20000 in
theorem sums_walk(n:Int)(v1 v2 v3:Value)(one:Nat)(xs:List TypR)(len:Nat)(d g i nn y:Nat->Int)(u:Nat->Value)(m:Nat->Nat)(ns:Nat)(ys:Nat->Nat)(w:World)(hF:Aq w)(h1:Bd w v1 xs)(h2:Fg w v2 len d g i nn y u m)
  (hl:xs.length<=17592186044416) (hM:CZ xs) (hl2:len<=17592186044416) (hy:∀ j,j<len->0<=y j/\y j<=18446744073709551615) (hA:AtsAt w len u m) (hb3:BytesIn w v3 ns ys) (ho1:one<256):
  Calls prog 6 #[.int .i64 n,v1,v2,v3,.int .u8 (one:Nat)] w λ e w'=>e=.returned (.bool true)/\Kp Aa w w':=by
 have HF:=sE hF
 have HAlive:Sl (∀ W',Kp Aa w W'->Calls prog 9 #[] W' λ e w'=>e=.returned (.bool true)/\Kp Aa W' w'):=⟨λ W' kk=>alive39 W' (hF.Ad kk)⟩
 have HH:=sE (Heavy9_any n v1 v2 xs len d g i nn y u m w h1 h2 hl hl2)
 have HPl:Sl (len<=60->(∀ j,j<len->m j<=300)->Calls prog 10 #[.int .i64 n,v1,v2] w (Dz n xs v1 w)):=⟨λ q1 q2=>Played_any n v1 v2 xs len d g i nn y u m w hF h1 hl hM h2 q1 hy hA q2⟩
 have hv1:∃ a l c,v1=.slice a l c:=by obtain⟨a,c,h,-⟩:=h1;exact ⟨_,_,_,h⟩
 have hv2:∃ a l c,v2=.slice a l c:=by obtain⟨a,c,h,-⟩:=h2;exact ⟨_,_,_,h⟩
 obtain⟨a1,l1,c1,rfl⟩:=hv1
 obtain⟨a2,l2,c2,rfl⟩:=hv2
 have HB5:=sE hb3
 obtain⟨a5,c5,rfl,-⟩:=hb3
 clear hF h1 h2 hM hy hA hl hl2
 by_cases hs5:ns<=40
 case neg=>
  have p5:decide ((40:Int)<(ns:Int))=true:=dT (by omega)
  clear hs5
  go_enter func6,ntmps6
  go_wp2_with fail
  refine HH.out.mono ?_
  rintro e w2 ⟨t,rfl,rfl,ht⟩
  clear ht
  cases t
  all_goals
   go_wp2_with fail
   refine(HAlive.out _ (Kr _ _)).mono ?_
   rintro e w3 ⟨rfl,k3⟩
   go_wp2
   go_ret
   exact⟨rfl,k3⟩
 case pos=>
 go_enter func6,ntmps6
 go_wp2_with fail
 refine HH.out.mono ?_
 rintro e w2 ⟨t,rfl,rfl,ht⟩
 cases t with
 |true=>
  clear ht
  go_wp2_with fail
  refine(HAlive.out _ (Kr _ _)).mono ?_
  rintro e w3 ⟨rfl,k3⟩
  go_wp2
  go_ret
  exact⟨rfl,k3⟩
 |false=>
  obtain⟨-,-,q1,q2⟩:=ht rfl
  have HPp:=sE (HPl.out q1 q2)
  clear q1 q2 ht HPl
  go_wp2_with fail
  refine HPp.out.mono ?_
  rintro e w3 (⟨rfl,k3⟩|⟨P,rb,q,W,cs,rfl,hBt,hPn,hPs,h16⟩)
  .have HK3:=sE k3
   clear k3
   go_wp2_with fail
   refine(HAlive.out _ HK3.out).mono ?_
   rintro e w4 ⟨rfl,k4⟩
   go_wp2
   go_ret
   exact⟨rfl,HK3.out.then' k4⟩
  .obtain ⟨f,hsp,hcs,hst⟩:=hBt.sp
   have HK3:Sl (Kp Aa _ w3):=⟨hBt.kb.new'⟩
   have hcn:cs≠[]:=λ e=>by
    have:=hcs.tl
    rw[e] at this
    have h0:0=P.n/2:=this
    omega
   have hmks:∀ x∈P.ts,x.m<18446744073709551616:=hBt.ms
   have HRt:Sl (∀ W' v n ys,Kp Aa w3 W'->n<=65536->BytesIn W' v n ys->Calls prog 11 #[.pointer (some ⟨P.s,0,none⟩),v] W' λ e w'=>∃ a c,e=.returned (.slice a (BG (Ak cs) ys n).length c)/\w'.ownsRow W'.heap.size 3 1 (.slice a (BG (Ak cs) ys n).length c) (BG (Ak cs) ys n).length (Az (BG (Ak cs) ys n))/\Kp Aa W' w'):=⟨λ W' v n ys kk hn hv=>Roots20_at P cs W' ⟨W,f,hsp.Ad kk,hcs,hst⟩ hcn v n ys hn hv⟩
   have HOwn:Sl (w2.heap.size<=P.a/\w2.heap.size<=P.q/\P.a<w3.heap.size/\P.q<w3.heap.size):=⟨hBt.own _ (by simp[Sp.own]),hBt.own _ (by simp[Sp.own]),hsp.lt _ (by simp[Sp.all]),hsp.lt _ (by simp[Sp.all])⟩
   have hTy:∀ c∈Ak cs,c.ty<65536:=λ c hc=>objs_ty hcs hc
   have HTys:Sl (∀ W' v xs,Kp Aa w3 W'->Bz W' v xs->(∀ g∈xs,De cs g)->xs.length<=65536->Calls prog 14 #[.pointer (some ⟨P.s,0,none⟩),v] W' (TypesPost (Ak cs) (AP P.ts W cs) (P.n/2) xs W')):=⟨λ W' v xs kk hx ho hl=>CTypes_all P W f W' cs (hsp.Ad kk) hcs hcn hst hmks v xs hx ho hl hTy⟩
   have HLo:Sl (∀ W' v xs,Kp Aa w3 W'->Bz W' v xs->(∀ g∈xs,De cs g)->xs.length<=65536->Calls prog 15 #[.pointer (some ⟨P.s,0,none⟩),v] W' (LostPost (Ak cs) (AP P.ts W cs) xs W')):=⟨λ W' v xs kk hx ho hl=>CLost_at P W f W' cs (hsp.Ad kk) hcs hcn hst hmks v xs hx ho hl⟩
   have HKe:Sl (∀ W' v xs,Kp Aa w3 W'->Bz W' v xs->(∀ g∈xs,De cs g)->xs.length<=65536->Calls prog 13 #[.pointer (some ⟨P.s,0,none⟩),v] W' (KeepsPost (Ak cs) (AP P.ts W cs) (P.n/2) xs W')):=⟨λ W' v xs kk hx ho hl=>CKeeps_at P W f W' cs (hsp.Ad kk) hcs hcn hst hmks v xs hx ho hl⟩
   have HOv:Sl (∀ W' v xs (g:Nat),Kp Aa w3 W'->g<65536->Bz W' v xs->(∀ g∈xs,De cs g)->xs.length<=65536->Calls prog 16 #[.pointer (some ⟨P.s,0,none⟩),.int .i64 (g:Nat),v] W' (OverPost (Ak cs) (AP P.ts W cs) (P.n/2) xs g W')):=⟨λ W' v xs g kk hg hx ho hl=>COver_at P W f W' cs (hsp.Ad kk) hcs hcn hst hmks g hg v xs hx ho hl⟩
   have HCo:Sl (∀ W',Kp Aa w3 W'->_):=⟨λ W' kk=>Count_at P cs W' ⟨W,f,hsp.Ad kk,hcs,hst⟩⟩
   have HUp:=sE (objs_up hcs)
   have hH65:P.n/2<=65536:=hsp.bt.small'
   have HOb:Sl ((∀ c∈Ak cs,c.g<P.n/2)/\(∀ c∈Ak cs,0<c.sz)/\(∀ c∈Ak cs,c.sz<=65536)/\(Ak cs).length<=65536):=⟨λ c hc=>DV hcs ⟨c,(AR.1 hc).1,(AR.1 hc).2,rfl⟩,λ c hc=>(hcs.tl.mem (AR.1 hc).1).2.2,λ c hc=>by have:=hcs.tl.mem (AR.1 hc).1;omega,objs_len hcs hH65⟩
   have HEo:Sl (∀ (rs:List Nat) x,(∀ g∈rs,De cs g)->AA (AP P.ts W cs) rs x->∃ c∈Ak cs,c.g=x):=⟨λ rs x hr hx=>by
    have:De cs x:=AA.rec' (p:=λ x=>De cs x) hr (λ e he _ _=>(EF hcs hst he).2.1) hx
    obtain⟨c,h1,h2,h3⟩:=this
    exact⟨c,AR.2 ⟨h1,h2⟩,h3⟩⟩
   have HRg:Sl (∀ ys n g,g∈BG (Ak cs) ys n->∃ c∈Ak cs,c.g=g):=⟨λ ys n g hg=>by
    obtain⟨c,h1,h2,h3⟩:De cs g:=roots_obj g hg
    exact⟨c,AR.2 ⟨h1,h2⟩,h3⟩⟩
   have HOg:Sl (∀ g,De cs g->∃ c∈Ak cs,c.g=g):=⟨λ g ⟨c,h1,h2,h3⟩=>⟨c,AR.2 ⟨h1,h2⟩,h3⟩⟩
   have HTyl:Sl (∀ x,(BK (Ak cs) x).ty<65536):=⟨λ x=>by
    rcases Fh (os:=Ak cs) (x:=x) with ⟨h1,-⟩|⟨h1,-⟩
    .exact hTy _ h1
    .rw [h1];decide⟩
   have HSp:=sE hsp
   clear hsp hcs hst hcn hmks hBt hPn hPs h16 HPp HH
   go_wp2_with fail
   refine(HRt.out w3 _ ns ys (Kr _ _) (by omega) (HB5.out.Ad HK3.out)).mono ?_
   rintro e w4 ⟨ra,rc,rfl,hrow,k4⟩
   have K4:Sl (Kp Aa w3 w4):=⟨k4⟩
   have hRo:∀ g∈BG (Ak cs) ys ns,De cs g:=roots_obj
   have hRl:(BG (Ak cs) ys ns).length<=40:=by have:=rootsOf_len (Ak cs) ys ns;omega
   obtain⟨rs,hrs⟩:∃ rs,BG (Ak cs) ys ns=rs:=⟨_,rfl⟩
   rw[hrs] at hrow hRo hRl ⊢
   obtain⟨rl,hrl⟩:∃ rl,rs.length=rl:=⟨_,rfl⟩
   have HR4:Sl (w4.ownsRow w3.heap.size 3 1 (.slice ra rl rc) rl (Az rs)):=⟨by rw[<- hrl];exact hrow⟩
   have HRL:Sl (rs.length=rl):=⟨hrl⟩
   have HRO:Sl (∀ g∈rs,De cs g):=⟨hRo⟩
   rw[hrl] at hRl ⊢
   clear hrow k4 hRo hrl hrs HB5 hTy
   obtain⟨H,hH⟩:∃ H,P.n/2=H:=⟨_,rfl⟩
   obtain⟨es,hes⟩:∃ es,AP P.ts W cs=es:=⟨_,rfl⟩
   obtain⟨os,hos⟩:∃ os,Ak cs=os:=⟨_,rfl⟩
   have HAL:Sl (∀ {fm:Nat->Bool},(∀ g,fm g=true->∃ c∈os,c.g=g)->(Bb fm H).length+(FH os fm).length=cN 1 cs/\Bc os (Bb fm H)+Bc os (FH os fm)=cS 1 cs):=⟨λ {fm} hf=>by
    rw[<- hos,<- hH]
    rw[<- hos] at hf
    exact all_or_lost HUp.out HOb.out.1 hf⟩
   rw[hes,hos,hH] at HTys HKe HOv
   rw[hes,hos] at HLo HEo
   rw[hos,hH] at HOb
   rw[hos] at HUp HOg HRt HTyl HRg
   rw[hH] at hH65
   clear hes hH hos
   go_wp2_with fail
   refine(HTys.out w4 _ rs K4.out (Bz.Be HR4.out) HRO.out (by rw[HRL.out];omega)).mono ?_
   rintro e w5 ⟨fm,v5,ss,M,hfm,rfl,hn5,hs5',hp5,-,ho5,k5⟩
   have HFm:Sl (∀ g,fm g=true ↔ AA es rs g):=⟨hfm⟩
   have HM5:=sE (types_all hn5 hs5' hp5)
   have K45:Sl (Kp Aa w4 w5):=⟨k5⟩
   have HR5:=sE (Ag HR4.out k5 (λ _ _ h=>h))
   obtain⟨a5,c5,rfl⟩:=AJ ho5
   have HT5:Sl (Df w5 (.slice a5 M.length c5) (M.map toI)):=⟨by
    rw[Ev] at ho5
    have:=Df.Be (L:=M.map toI) (by rw[List.length_map];exact ho5)
    exact this⟩
   obtain⟨tn,htn⟩:∃ tn,M.length=tn:=⟨_,rfl⟩
   have HTn:=sE htn
   rw[htn] at HT5 ⊢
   have hTl:tn<=65536:=by
    rw[<- htn,hp5.length_eq,List.length_map]
    have hQ:=Fw fm H
    refine Nat.le_trans (FK 65536 ss hn5 λ t ht=>?_) (Nat.le_refl _)
    obtain⟨x,hx,rfl⟩:=(hs5' t).1 ht
    exact HTyl.out x
   clear hfm hn5 hs5' hp5 ho5 k5 htn HTys
   go_wp2_with fail
   refine(HLo.out w5 _ rs (K4.out.then' K45.out) (Bz.Be HR5.out) HRO.out (by rw[HRL.out];omega)).mono ?_
   rintro e w6 ⟨fm1,hfm1,rfl,k6⟩
   obtain rfl:fm=fm1:=FJ HFm.out hfm1
   have K46:Sl (Kp Aa w4 w6):=⟨K45.out.then' k6⟩
   have HR6:=sE (Ag HR5.out k6 (λ _ _ h=>h))
   have HT6:=sE (HT5.out.Ad k6)
   clear hfm1 k6 HR5 HT5 HLo
   have HAll:=sE (HAL.out (fm:=fm) (λ g hg=>HEo.out rs g HRO.out ((HFm.out g).1 hg)))
   have hLle:=Fy HOb.out.2.2.1 (FH os fm)
   have hLln:(FH os fm).length<=65536:=by
    have h1:(FH os fm).length<=(os.map Cel.g).length:=List.length_filter_le _ _
    rw[List.length_map] at h1
    have:=HOb.out.2.2.2
    omega
   have hLsz:Bc os (FH os fm)<=65536*65536:=Nat.le_trans hLle (Nat.mul_le_mul_right _ hLln)
   obtain⟨ln,hln⟩:∃ ln,(FH os fm).length=ln:=⟨_,rfl⟩
   obtain⟨lg,hlg⟩:∃ lg,Bc os (FH os fm)=lg:=⟨_,rfl⟩
   rw[hln,hlg] at HAll ⊢
   rw[hln] at hLln
   rw[hlg] at hLsz
   clear hln hlg hLle
   go_wp2_with fail
   refine(HKe.out w6 _ rs (K4.out.then' K46.out) (Bz.Be HR6.out) HRO.out (by rw[HRL.out];omega)).mono ?_
   rintro e w7 ⟨fm2,v7,hfm2,rfl,ho7,k7⟩
   obtain rfl:fm=fm2:=FJ HFm.out hfm2
   obtain⟨Q,hQ⟩:∃ Q,Bb fm H=Q:=⟨_,rfl⟩
   have hQl:=Fw fm H
   have HQS:Sl (∀ x,x∈Q ↔ AA es rs x):=⟨λ x=>by
    rw[<- hQ,setL_mem,HFm.out]
    constructor
    .exact λ h=>h.2
    .intro h
     obtain⟨c,hc,rfl⟩:=HEo.out rs x HRO.out h
     exact⟨HOb.out.1 c hc,h⟩⟩
   have HQn:Sl (Q.Nodup):=⟨by rw[<- hQ];exact List.nodup_range.filter _⟩
   have HQ:=sE hQ
   rw[hQ] at ho7 HAll HM5 hQl
   obtain⟨a7,c7,rfl⟩:=AJ ho7
   have hlen7:(keepsL os es rs Q Q).length=Q.length:=List.length_map _
   have HT7:Sl (Df w7 (.slice a7 (keepsL os es rs Q Q).length c7) ((keepsL os es rs Q Q).map toI)):=⟨by
    rw[Ev] at ho7
    have:=Df.Be (L:=(keepsL os es rs Q Q).map toI) (by rw[List.length_map];exact ho7)
    exact this⟩
   have HLk:=sE hlen7
   rw[hlen7] at HT7 ⊢
   obtain⟨N,hN⟩:∃ N,Q.length=N:=⟨_,rfl⟩
   have HN:=sE hN
   rw[hN] at HT7 HAll HM5 hQl ⊢
   have K47:Sl (Kp Aa w4 w7):=⟨K46.out.then' k7⟩
   have HR7:=sE (Ag HR6.out k7 (λ _ _ h=>h))
   have HTM:=sE (HT6.out.Ad k7)
   have hQsz:=Nat.le_trans (Fy HOb.out.2.2.1 Q) (Nat.mul_le_mul_right 65536 (show Q.length<=65536 by omega))
   clear hfm2 ho7 hlen7 k7 hQ hN HR6 HT6 HKe HAL
   go_wp2_with fail
   have hN1:FC (λ r:Nat×Nat×Nat=>r.2.1) M=N:=HM5.out.1
   have hN2:FC (λ r:Nat×Nat×Nat=>r.2.2) M=Bc os Q:=HM5.out.2
   obtain⟨sq,hsq⟩:∃ sq,Bc os Q=sq:=⟨_,rfl⟩
   rw[hsq] at HAll hN2 hQsz
   have HN1:=sE hN1
   have HN2:=sE hN2
   have hQs2:sq<=65536*65536:=hQsz
   clear hN1 hN2 hsq hQsz HM5
   go_loopw [18,22,23] (λ x18 x22 x23 wr=>∃ j:Nat,x23=.int .i64 (j:Nat)/\j<=tn/\x22=.int .i64 (FC (λ r:Nat×Nat×Nat=>r.2.1) (M.take j):Nat)/\x18=.int .i64 ((lg+FC (λ r:Nat×Nat×Nat=>r.2.2) (M.take j):Nat):Int)/\Kp Aa w7 wr) (λ _ _ x23 _=>tn-(intOf x23).toNat)
   case atStart=>exact ⟨0,rfl,Nat.zero_le _,rfl,rfl,Kr _ _⟩
   case round=>
    obtain⟨j,rfl,hj,rfl,rfl,hk⟩:=hrel
    have HK:=sE hk
    by_cases hjl:j<tn
    .have hjl':(j:Int)<(tn:Int):=by omega
     obtain⟨r,hr⟩:∃ r,M[j]?=some r:=⟨M[j]'(by rw[HTn.out];exact hjl),by simp⟩
     have hs1:=sumB_take (f:=λ r:Nat×Nat×Nat=>r.2.1) hr
     have hs2:=sumB_take (f:=λ r:Nat×Nat×Nat=>r.2.2) hr
     have hb1:=sumB_le (f:=λ r:Nat×Nat×Nat=>r.2.1) (l:=M) (j+1)
     have hb2:=sumB_le (f:=λ r:Nat×Nat×Nat=>r.2.2) (l:=M) (j+1)
     rw[hs1,HN1.out] at hb1
     rw[hs2,HN2.out] at hb2
     have HS1:=sE hs1
     have HS2:=sE hs2
     obtain⟨a',c',e,hcell⟩:=HTM.out.Ad hk
     obtain⟨b,hb,-,y1,y2⟩:=hcell j (toI r) (by rw[List.getElem?_map,hr];rfl)
     have ha:a5=some ⟨b,0,none⟩:=by injection e with h1;rw [h1];exact hb
     subst ha
     replace y1:wr.cell? ⟨b,j*3+1,none⟩=some (.int .i64 (r.2.1:Nat)):=y1
     replace y2:wr.cell? ⟨b,j*3+2,none⟩=some (.int .i64 (r.2.2:Nat)):=y2
     obtain⟨t1,ht1⟩:∃ t,FC (λ r:Nat×Nat×Nat=>r.2.1) (M.take j)=t:=⟨_,rfl⟩
     obtain⟨t2,ht2⟩:∃ t,FC (λ r:Nat×Nat×Nat=>r.2.2) (M.take j)=t:=⟨_,rfl⟩
     rw[ht1] at HS1 hb1 ⊢
     rw[ht2] at HS2 hb2 ⊢
     obtain⟨z1,hz1⟩:∃ z,r.2.1=z:=⟨_,rfl⟩
     obtain⟨z2,hz2⟩:∃ z,r.2.2=z:=⟨_,rfl⟩
     rw[hz1] at HS1 hb1 y1
     rw[hz2] at HS2 hb2 y2
     have u1:IntKind.i64.wrap ((t1:Int)+(z1:Int))=((t1+z1:Nat):Int):=by rw[IntKind.wrap_i64];omega
     have u2:IntKind.i64.wrap ((lg:Int)+(t2:Int)+(z2:Int))=((lg+(t2+z2):Nat):Int):=by rw[IntKind.wrap_i64];omega
     clear e hcell hb hr hs1 hs2 ht1 ht2 hz1 hz2 hk hb1 hb2
     go_wp2
     exact⟨⟨j+1,by go_num,by omega,by rw[HS1.out];first|rfl|go_num,by rw[HS2.out];first|rfl|go_num,HK.out⟩,by simp only[intOf];omega⟩
    .have hjl':¬ (j:Int)<(tn:Int):=by omega
     obtain rfl:j=tn:=by omega
     rw[List.take_of_length_le (by rw[HTn.out];exact Nat.le_refl _),HN1.out,HN2.out]
     obtain⟨w8,rfl⟩:∃ w8,w8=wr:=⟨_,rfl⟩
     have K48:Sl (Kp Aa w4 w8):=⟨K47.out.then' hk⟩
     have HR8:=sE (Ag HR7.out hk (λ _ _ h=>h))
     have HT8:=sE (HT7.out.Ad hk)
     obtain⟨c1',hc1'⟩:∃ c,cN 1 cs=c:=⟨_,rfl⟩
     obtain⟨c2',hc2'⟩:∃ c,cN 2 cs=c:=⟨_,rfl⟩
     obtain⟨c3',hc3'⟩:∃ c,cN 3 cs=c:=⟨_,rfl⟩
     obtain⟨s1',hs1'⟩:∃ c,cS 1 cs=c:=⟨_,rfl⟩
     obtain⟨s2',hs2'⟩:∃ c,cS 2 cs=c:=⟨_,rfl⟩
     obtain⟨s3',hs3'⟩:∃ c,cS 3 cs=c:=⟨_,rfl⟩
     rw[hc1',hs1'] at HAll
     have HCw:=sE (HCo.out w8 (K4.out.then' K48.out))
     rw[hc1',hc2',hc3',hs1',hs2',hs3'] at HCw
     have hA1:N+ln=c1':=HAll.out.1
     have hA2:lg+sq=s1':=by have:=HAll.out.2;omega
     have u1:IntKind.i64.wrap ((N:Int)+(ln:Int))=(c1':Int):=by rw[IntKind.wrap_i64];omega
     have u2:((lg:Int)+(sq:Int))=(s1':Int):=by omega
     have e1:((c1':Int) !=(c1':Int))=false:=by simp
     have e2:((s1':Int) !=(s1':Int))=false:=by simp
     have e3:((N:Int) !=(N:Int))=false:=by simp
     rw[hA2]
     clear hc1' hc2' hc3' hs1' hs2' hs3' hA1 hA2 hk hj hjl hjl' HK u2 HCo HN1 HN2 HTM HR7 HT7
     go_wp2_with fail
     refine HCw.out.mono ?_
     rintro e w9 ⟨rfl,k9⟩
     have K89:Sl (Kp Aa w8 w9):=⟨k9⟩
     have HRw:Sl (∀ W',Kp Aa w8 W'->W'.ownsRow w3.heap.size 3 1 (.slice ra rl rc) rl (Az rs)):=⟨λ W' kk=>Ag HR8.out kk (λ _ _ h=>h)⟩
     have K38:Sl (Kp Aa w3 w8):=⟨K4.out.then' K48.out⟩
     clear k9 HCw HR8
     obtain⟨q0,-,-,q3,-,-⟩:=cells6 (wN w9 (.cells #[.int .i64 (c1':Nat),.int .i64 (c2':Nat),.int .i64 (c3':Nat),.int .i64 (s1':Nat),.int .i64 (s3':Nat),.int .i64 (s2':Nat)] 84))
     go_wp2_with fail
     clear q0 q3
     obtain⟨wa,hwa⟩:∃ wa,wa=w9.alloc (.cells #[.int .i64 (c1':Nat),.int .i64 (c2':Nat),.int .i64 (c3':Nat),.int .i64 (s1':Nat),.int .i64 (s3':Nat),.int .i64 (s2':Nat)] 84):=⟨_,rfl⟩
     have kwa:Kp Aa w9 wa:=by rw[hwa];exact (Kr _ w9).alloc _
     have hsa:w9.heap.size+1=wa.heap.size:=by rw[hwa];simp
     have K8a:Sl (Kp Aa w8 wa):=⟨K89.out.then' kwa⟩
     rw[<- hwa,hsa]
     have HB1:=sE (bytes_one wa one ho1 5)
     clear hwa kwa hsa
     refine(HRt.out _ _ 1 _ ((K38.out.then' K8a.out).alloc _) (by omega) HB1.out).mono ?_
     rintro e wb ⟨oa,oc,rfl,hrow,kb⟩
     have K8b:Sl (Kp Aa w8 wb):=⟨(K8a.out.alloc _).then' kb⟩
     have hGo:∀ g∈BG os (λ _=>one) 1,∃ c∈os,c.g=g:=λ g hg=>HRg.out _ _ g hg
     obtain⟨gs,hgs⟩:∃ gs,BG os (λ _=>one) 1=gs:=⟨_,rfl⟩
     rw[hgs] at hrow hGo ⊢
     cases gs with
     |nil=>
      clear hrow kb hGo hgs
      simp only[List.length_nil]
      go_wp2_with fail
      refine(HAlive.out _ (HK3.out.then' (K38.out.then' K8b.out))).mono ?_
      rintro e w6 ⟨rfl,k6⟩
      go_wp2
      go_ret
      exact⟨rfl,HK3.out.then' (K38.out.then' (K8b.out.then' k6))⟩
     |cons g gs=>
      have HGo:Sl (∃ c∈os,c.g=g):=⟨hGo g (by simp)⟩
      obtain⟨ob,hob,cg⟩:=Cw hrow (i:=0) (x:=g) rfl
      subst hob
      have hgl:g<65536:=by
       obtain⟨c,hc,rfl⟩:=HGo.out
       have:=HOb.out.1 c hc
       omega
      obtain⟨gl,hgl2⟩:∃ gl,(g::gs).length=gl+1:=⟨_,rfl⟩
      have hgl3:gl<=1:=by
       have h1:=rootsOf_len os (λ _=>one) 1
       rw[hgs,hgl2] at h1
       omega
      have e1:(((gl+1:Nat):Int)==0)=false:=by rw[beq_eq_false_iff_ne];omega
      rw[hgl2]
      have HCg:=sE cg
      clear hrow kb hGo hgs
      go_wp2_with fail
      refine(HOv.out wb _ rs g (K38.out.then' K8b.out) hgl (Bz.Be (HRw.out wb K8b.out)) HRO.out (by rw[HRL.out];omega)).mono ?_
      rintro e wd ⟨⟨hno,-⟩|⟨-,fm3,va,vc,hfm3,rfl,hod⟩,kd⟩
      .exact absurd HGo.out hno
      obtain rfl:fm=fm3:=FJ HFm.out hfm3
      have K8d:Sl (Kp Aa w8 wd):=⟨K8b.out.then' kd⟩
      have HCg2:=sE (Ac kd HCg.out)
      rw[HQ.out] at hod ⊢
      obtain⟨O,hO⟩:∃ O,overL es rs Q g Q=O:=⟨_,rfl⟩
      have HO:=sE hO
      rw[hO] at hod ⊢
      obtain⟨on,hon⟩:∃ on,O.length=on:=⟨_,rfl⟩
      have HOn:=sE hon
      have hOl:on<=65536:=by
       rw[<- hon,<- hO]
       refine Nat.le_trans (List.length_filter_le _ _) ?_
       rw[HN.out]
       omega
      have HOd:Sl (O.Nodup):=⟨by rw[<- hO];exact HQn.out.filter _⟩
      rw[hon] at hod ⊢
      have HRd:=sE hod
      clear hfm3 kd hO hon hod cg HCg
      go_wp2_with fail
      go_loopw [28,29,30,31,32,33] (λ x28 _ _ _ _ _ wr=>∃ i:Nat,x28=.int .i64 (i:Nat)/\i<=on/\Kp Aa wd wr) (λ x28 _ _ _ _ _ _=>on-(intOf x28).toNat)
      case atStart=>exact ⟨0,rfl,Nat.zero_le _,Kr _ _⟩
      case round=>
       obtain⟨i,rfl,hi,hk⟩:=hrel
       have HKi:=sE hk
       by_cases hil:i<on
       .have hil':(i:Int)<(on:Int):=by omega
        obtain⟨x,hx⟩:∃ x,O[i]?=some x:=⟨O[i]'(by rw[HOn.out];exact hil),by simp⟩
        have HX:=sE hx
        clear hk hx
        go_wp2_with fail
        go_loopw [29,30,31,32,33] (λ x29 _ _ _ _ w2r=>∃ k:Nat,x29=.int .i64 (k:Nat)/\k<=i/\Kp Aa wd w2r) (λ x29 _ _ _ _ _=>i-(intOf x29).toNat)
        case atStart=>exact ⟨0,rfl,Nat.zero_le _,HKi.out⟩
        case round=>
         obtain⟨k,rfl,hki,hk⟩:=hrel
         have HKk:=sE hk
         clear HKi
         obtain⟨wq,rfl⟩:∃ wq,wq=wr:=⟨_,rfl⟩
         by_cases hkl:k<i
         .have hkl':(k:Int)<(i:Int):=by omega
          have hkn':(k:Int)<(on:Int):=by omega
          obtain⟨y,hy⟩:∃ y,O[k]?=some y:=⟨O[k]'(by rw[HOn.out];omega),by simp⟩
          obtain⟨vb,hvb,x0⟩:=Cw (Ag HRd.out hk (λ _ _ h=>h)) HX.out
          subst hvb
          obtain⟨vb2,hvb2,y0⟩:=Cw (Ag HRd.out hk (λ _ _ h=>h)) hy
          obtain rfl:vb=vb2:=by injection hvb2 with h1;injection h1
          have g0:=Ac hk HCg2.out
          have HY:=sE hy
          have hxO:x∈overL es rs Q g Q:=by rw[HO.out];exact List.mem_of_getElem? HX.out
          have hyO:y∈overL es rs Q g Q:=by rw[HO.out];exact List.mem_of_getElem? hy
          have hne:¬ x=y:=λ e=>by
           have h1:=HX.out
           rw[e,<- hy] at h1
           have:=(List.getElem?_inj (by rw[HOn.out];omega) HOd.out).1 h1
           omega
          have hch:=over_chain HQS.out hxO hyO hne
          have hxc:∃ c∈os,c.g=x:=HEo.out rs x HRO.out ((HQS.out x).1 (FE.1 hxO).1)
          have hyc:∃ c∈os,c.g=y:=HEo.out rs y HRO.out ((HQS.out y).1 (FE.1 hyO).1)
          have hmo:=over_more (os:=os) HQS.out hxO (by
           obtain⟨c,hc,rfl⟩:=hxc
           rw[celN_self HUp.out hc]
           exact HOb.out.2.1 c hc)
          have hgQ:g∈Q:=by
           have:=(FE.1 hxO).2.2
           exact(mem_keptL.1 this).1
          have HMo:Sl (FD (keepsL os es rs Q Q) g<FD (keepsL os es rs Q Q) x):=⟨by rw[lastV_keeps hgQ,lastV_keeps (FE.1 hxO).1];exact hmo⟩
          have hx65:x<65536:=by
           obtain⟨c,hc,rfl⟩:=hxc
           have:=HOb.out.1 c hc
           omega
          have hy65:y<65536:=by
           obtain⟨c,hc,rfl⟩:=hyc
           have:=HOb.out.1 c hc
           omega
          have HXY:=sE (And.intro hch (And.intro hxc hyc))
          have K3q:Sl (Kp Aa w8 wq):=⟨K8d.out.then' hk⟩
          clear hvb2 hy hxO hyO hne hch hxc hyc hmo hgQ hk
          go_wp2_with fail
          refine(HOv.out wq _ rs x (K38.out.then' K3q.out) hx65 (Bz.Be (HRw.out wq K3q.out)) HRO.out (by rw[HRL.out];omega)).mono ?_
          rintro e we ⟨⟨hno,-⟩|⟨-,fm4,xa,xc,hfm4,rfl,hoe⟩,ke⟩
          .exact absurd HXY.out.2.1 hno
          obtain rfl:fm=fm4:=FJ HFm.out hfm4
          have K8e:Sl (Kp Aa w8 we):=⟨K3q.out.then' ke⟩
          replace x0:=Ac ke x0
          replace y0:=Ac ke y0
          replace g0:=Ac ke g0
          rw[HQ.out] at hoe ⊢
          have HOe:=sE hoe
          have HKe:Sl (Kp Aa wd we):=⟨HKk.out.then' ke⟩
          have hlx:(overL es rs Q x Q).length<=65536:=Nat.le_trans (List.length_filter_le _ _) (by rw[HN.out];omega)
          obtain⟨OX,hOX⟩:∃ O,overL es rs Q x Q=O:=⟨_,rfl⟩
          rw[hOX] at HOe hlx ⊢
          have HOX:=sE hOX
          clear hfm4 ke hoe hOX
          go_wp2_with fail
          refine(HOv.out we _ rs y (K38.out.then' K8e.out) hy65 (Bz.Be (HRw.out we K8e.out)) HRO.out (by rw[HRL.out];omega)).mono ?_
          rintro e wf ⟨⟨hno,-⟩|⟨-,fm5,ya,yc,hfm5,rfl,hof⟩,kf⟩
          .exact absurd HXY.out.2.2 hno
          obtain rfl:fm=fm5:=FJ HFm.out hfm5
          have K8f:Sl (Kp Aa w8 wf):=⟨K8e.out.then' kf⟩
          have HKf:Sl (Kp Aa wd wf):=⟨HKe.out.then' kf⟩
          replace x0:=Ac kf x0
          replace y0:=Ac kf y0
          replace g0:=Ac kf g0
          have HNx:=sE ((Bz.Be HOe.out).Ad kf)
          rw[HQ.out] at hof ⊢
          have hly:(overL es rs Q y Q).length<=65536:=Nat.le_trans (List.length_filter_le _ _) (by rw[HN.out];omega)
          obtain⟨OY,hOY⟩:∃ O,overL es rs Q y Q=O:=⟨_,rfl⟩
          rw[hOY] at hof hly ⊢
          have HOY:=sE hOY
          have HNy:=sE (Bz.Be hof)
          have HTf:=sE (HT8.out.Ad K8f.out)
          clear hfm5 kf hof hOY HOe
          have p0:(i:Int)<(on:Int):=by omega
          have p1:(k:Int)<(on:Int):=by omega
          have HHx:Sl (∀ W',Kp Aa wf W'->_):=⟨λ W' kk=>LHas_at W' xa xc OX y (HNx.out.Ad kk) hlx⟩
          have HHy:Sl (∀ W',Kp Aa wf W'->_):=⟨λ W' kk=>LHas_at W' ya yc OY x (HNy.out.Ad kk) hly⟩
          have HMr:Sl (∀ W',Kp Aa wf W'->Calls prog 36 #[.slice a7 N c7,.int .i64 (x:Nat),.int .i64 (g:Nat)] W' λ e w'=>e=.returned (.bool true)/\Kp Aa W' w'):=⟨λ W' kk=>by
           have h1:=LMore_at W' a7 c7 (keepsL os es rs Q Q) x g (by rw[HLk.out,HN.out];exact HTf.out.Ad kk) (by rw[HLk.out,HN.out];omega)
           rw[dT HMo.out,HLk.out,HN.out] at h1
           exact h1⟩
          have hch:decide (y∈OX)=true\/(decide (y∈OX)=false/\decide (x∈OY)=true):=by
           rw[<- HOX.out,<- HOY.out]
           by_cases h:y∈overL es rs Q x Q
           .exact .inl (dT h)
           .exact .inr ⟨dF h,dT (HXY.out.1.resolve_left h)⟩
          obtain⟨lx,hlx2⟩:∃ lx,OX.length=lx:=⟨_,rfl⟩
          obtain⟨ly,hly2⟩:∃ ly,OY.length=ly:=⟨_,rfl⟩
          rw[hlx2] at HHx ⊢
          rw[hly2] at HHy ⊢
          clear hlx hly hlx2 hly2
          rcases hch with hd|⟨hd1,hd2⟩
          .have HHx2:Sl (∀ W',Kp Aa wf W'->Calls prog 35 #[.slice xa lx xc,.int .i64 (y:Nat)] W' λ e w'=>e=.returned (.bool true)/\Kp Aa W' w'):=⟨λ W' kk=>by have h1:=HHx.out W' kk;rwa [hd] at h1⟩
           clear hd HHx HHy
           have kd:Kp Aa wf wf.drew:=(Kr _ _).drew
           go_wp2_with fail
           refine wp_region_held_drew (S:=λ w'=>w'.cell? ⟨vb,k,none⟩=some (.int .i64 (y:Nat))/\w'.cell? ⟨vb,i,none⟩=some (.int .i64 (x:Nat))/\w'.cell? ⟨ob,0,none⟩=some (.int .i64 (g:Nat))) (by kernel_rfl) ?_ (λ qZ=>?_)
           .exact ⟨y0,x0,g0⟩
           refine Ao 0 ?_;refine Ao 1 ?_;refine Ao 2 ?_;refine Ao 3 ?_;refine Ao 4 ?_;refine Ao 5 ?_
           try simp only[Ay]
           refine Ao 6 ?_;refine Ao 7 ?_;refine Ao 8 ?_;refine Ao 9 ?_;refine Ao 10 ?_;refine Ao 11 ?_
           try simp only[Ay]
           refine Bl [12] ?_
           refine Af rfl (λ K hK=>?_)
           go_simp
           go_at_call 35
           (with_reducible refine(HHx2.out _ kd).mono ?_)
           rintro e wg ⟨rfl,kg⟩
           have kfg:Kp Aa wf wg:=kd.then' kg
           refine hK _ _ ?_ (λ qZ=>?_)
           .exact ⟨Ac kfg y0,Ac kfg x0,Ac kfg g0⟩
           clear hK K
           try simp only[Ay]
           refine Ao 13 ?_;refine Ao 14 ?_
           try simp only[Ay]
           refine sk 15 rfl ?_
           refine sk 16 rfl ?_
           refine sk 17 rfl ?_
           refine sk 18 rfl ?_
           refine sk 19 rfl ?_
           refine sk 20 rfl ?_
           refine sk 21 rfl ?_
           try simp only[Ay]
           refine Ao 22 ?_;refine Ao 23 ?_;refine Ao 24 ?_
           try simp only[Ay]
           refine Ao 25 ?_;refine Ao 26 ?_;refine Ao 27 ?_;refine Ao 28 ?_;refine Ao 29 ?_
           try simp only[Ay]
           refine Ao 30 ?_;refine Ao 31 ?_;refine Ao 32 ?_
           try simp only[Ay]
           refine Bl [33] ?_
           refine Af rfl (λ K hK=>?_)
           go_simp
           go_at_call 36
           (with_reducible refine(HMr.out _ kfg).mono ?_)
           rintro e wm ⟨rfl,km⟩
           have kfm:Kp Aa wf wm:=kfg.then' km
           refine hK _ _ ?_ (λ qZ=>?_)
           .exact ⟨Ac kfm y0,Ac kfm x0,Ac kfm g0⟩
           clear hK K
           try simp only[Ay]
           refine Ao 34 ?_;refine Ao 35 ?_
           try simp only[Ay]
           refine wpAnyH_done (by kernel_rfl) ?_ _
           have HKm:Sl (Kp Aa wd wm):=⟨HKf.out.then' kfm⟩
           clear kfm km kfg kg
           go_wp2
           exact⟨⟨k+1,by go_num,by omega,HKm.out⟩,by simp only[intOf];omega⟩
          .have HHx2:Sl (∀ W',Kp Aa wf W'->Calls prog 35 #[.slice xa lx xc,.int .i64 (y:Nat)] W' λ e w'=>e=.returned (.bool false)/\Kp Aa W' w'):=⟨λ W' kk=>by have h1:=HHx.out W' kk;rwa [hd1] at h1⟩
           have HHy2:Sl (∀ W',Kp Aa wf W'->Calls prog 35 #[.slice ya ly yc,.int .i64 (x:Nat)] W' λ e w'=>e=.returned (.bool true)/\Kp Aa W' w'):=⟨λ W' kk=>by have h1:=HHy.out W' kk;rwa [hd2] at h1⟩
           clear hd1 hd2 HHx HHy
           have kd:Kp Aa wf wf.drew:=(Kr _ _).drew
           go_wp2_with fail
           refine wp_region_held_drew (S:=λ w'=>w'.cell? ⟨vb,k,none⟩=some (.int .i64 (y:Nat))/\w'.cell? ⟨vb,i,none⟩=some (.int .i64 (x:Nat))/\w'.cell? ⟨ob,0,none⟩=some (.int .i64 (g:Nat))) (by kernel_rfl) ?_ (λ qZ=>?_)
           .exact ⟨y0,x0,g0⟩
           refine Ao 0 ?_;refine Ao 1 ?_;refine Ao 2 ?_;refine Ao 3 ?_;refine Ao 4 ?_;refine Ao 5 ?_
           try simp only[Ay]
           refine Ao 6 ?_;refine Ao 7 ?_;refine Ao 8 ?_;refine Ao 9 ?_;refine Ao 10 ?_;refine Ao 11 ?_
           try simp only[Ay]
           refine Bl [12] ?_
           refine Af rfl (λ K hK=>?_)
           go_simp
           go_at_call 35
           (with_reducible refine(HHx2.out _ kd).mono ?_)
           rintro e wg ⟨rfl,kg⟩
           have kfg:Kp Aa wf wg:=kd.then' kg
           refine hK _ _ ?_ (λ qZ=>?_)
           .exact ⟨Ac kfg y0,Ac kfg x0,Ac kfg g0⟩
           clear hK K
           try simp only[Ay]
           refine Ao 13 ?_;refine Ao 14 ?_
           try simp only[Ay]
           refine Ao 15 ?_;refine Ao 16 ?_;refine Ao 17 ?_;refine Ao 18 ?_;refine Ao 19 ?_
           try simp only[Ay]
           refine Bl [20] ?_
           refine Af rfl (λ K hK=>?_)
           go_simp
           go_at_call 35
           (with_reducible refine(HHy2.out _ kfg).mono ?_)
           rintro e wh ⟨rfl,kh⟩
           have kfh:Kp Aa wf wh:=kfg.then' kh
           refine hK _ _ ?_ (λ qZ=>?_)
           .exact ⟨Ac kfh y0,Ac kfh x0,Ac kfh g0⟩
           clear hK K
           try simp only[Ay]
           refine Ao 21 ?_
           try simp only[Ay]
           refine Ao 22 ?_;refine Ao 23 ?_;refine Ao 24 ?_
           try simp only[Ay]
           refine Ao 25 ?_;refine Ao 26 ?_;refine Ao 27 ?_;refine Ao 28 ?_;refine Ao 29 ?_
           try simp only[Ay]
           refine Ao 30 ?_;refine Ao 31 ?_;refine Ao 32 ?_
           try simp only[Ay]
           refine Bl [33] ?_
           refine Af rfl (λ K hK=>?_)
           go_simp
           go_at_call 36
           (with_reducible refine(HMr.out _ kfh).mono ?_)
           rintro e wm ⟨rfl,km⟩
           have kfm:Kp Aa wf wm:=kfh.then' km
           refine hK _ _ ?_ (λ qZ=>?_)
           .exact ⟨Ac kfm y0,Ac kfm x0,Ac kfm g0⟩
           clear hK K
           try simp only[Ay]
           refine Ao 34 ?_;refine Ao 35 ?_
           try simp only[Ay]
           refine wpAnyH_done (by kernel_rfl) ?_ _
           have HKm:Sl (Kp Aa wd wm):=⟨HKf.out.then' kfm⟩
           clear kfm km kfg kg kfh kh
           go_wp2
           exact⟨⟨k+1,by go_num,by omega,HKm.out⟩,by simp only[intOf];omega⟩
         .have hkl':¬ (k:Int)<(i:Int):=by omega
          go_wp2
          exact⟨⟨i+1,by go_num,by omega,HKk.out⟩,by simp only[intOf];omega⟩
       .have hil':¬ (i:Int)<(on:Int):=by omega
        go_wp2_with fail
        refine(HAlive.out _ (HK3.out.then' (K38.out.then' (K8d.out.then' HKi.out)))).mono ?_
        rintro e w6 ⟨rfl,k6⟩
        go_wp2
        go_ret
        exact⟨rfl,HK3.out.then' (K38.out.then' (K8d.out.then' (HKi.out.then' k6)))⟩

end Go.Proofs.YtfkedlgpgmaemaaGreatDoor
