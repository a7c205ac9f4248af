/-
  The law CensusDrops, walked.
-/
import Derived.Test.YtfkedlgpgmaemaaGreatDoorQbv
import Derived.Test.YtfkedlgpgmaemaaGreatDoorQbw
import Derived.Test.YtfkedlgpgmaemaaGreatDoorQau
set_option linter.unusedVariables false
set_option maxHeartbeats 16000000
namespace Go.Proofs.YtfkedlgpgmaemaaGreatDoor
open Tryz
open Go.RowKit

def CutSp(P:Sp)(f:Nat->Bool)(cs:List Cel)(es:List (Nat×Nat×Nat))(g j:Nat)(w:World):Prop:=
 ∃ W2:Nat->Nat,SpaceAt w P W2 f/\CellsAt P W2 cs/\EQ P.ts es cs g j W2

theorem bool_of_iff{f g:Nat->Bool}{p:Nat->Prop}(h1:∀ x,f x=true ↔ p x)(h2:∀ x,g x=true ↔ p x):f=g:=by
 funext x
 have:=(h1 x).trans (h2 x).symm
 cases e1:f x <;> cases e2:g x <;> simp_all

theorem woR_step{rs:List Nat}{g j r:Nat}(h:rs[j]?=some r):woR (rs.take (j+1)) g=woR (rs.take j) g++if r=g then [] else [r]:=by
 unfold woR
 rw[List.take_add_one,h,List.filter_append]
 congr 1
 by_cases e:r=g <;> simp[e]

theorem woR_len(rs:List Nat)(g:Nat):(woR rs g).length<=rs.length:=List.length_filter_le _ _

theorem drops_answer{es:List (Nat×Nat×Nat)}{rs:List Nat}{g H:Nat}{os:List Cel}(hu:os.Pairwise λ c d=>c.g<d.g){fm fn:Nat->Bool}(h1:∀ x,fm x=true ↔ AA es rs x)(h2:∀ x,fn x=true ↔ AQ es rs g x)(hH:∀ c∈os,c.g<H)(hf:∀ x,fm x=true->∃ c∈os,c.g=x)(hg:g∈Bb fm H)(h0:∀ c∈os,0<c.sz):
  DY os fm os.length=DY os fn os.length+Bc os (keptL es rs (Bb fm H) g)/\(BK os g).sz<=Bc os (keptL es rs (Bb fm H) g)/\0<(BK os g).sz:=by
 refine⟨?_,sizeL_mem (kept_self hg),?_⟩
 .rw [granT_all hu hH hf,granT_all hu hH (λ x hx=>hf x ((h1 x).2 ((h2 x).1 hx).all))]
  exact drops_size h1 h2
 .obtain ⟨c,hc,rfl⟩:=hf g (setL_mem.1 hg).2
  rw[celN_self hu hc]
  exact h0 c hc

set_option maxRecDepth 20000 in
theorem drops_walk(n:Int)(v1 v2 v3:Value)(wh:Nat)(xs:List TypR)(len:Nat)(d g i nn y:Nat->Int)(u:Nat->Value)(m:Nat->Nat)(ns:Nat)(ys:Nat->Nat)(w:World)(hF:Aq w)(h1:Bd w v1 xs)(h2:Fg w v2 len d g i nn y u m)
  (hl:xs.length<=17592186044416) (hM:CZ xs) (hl2:len<=17592186044416) (hy:∀ j,j<len->0<=y j/\y j<=18446744073709551615) (hA:AtsAt w len u m) (hb3:BytesIn w v3 ns ys) (hw1:wh<256):
  Calls prog 5 #[.int .i64 n,v1,v2,v3,.int .u8 (wh:Nat)] w λ e w'=>e=.returned (.bool true)/\Kp Aa w w':=by
 have HF:=sE hF
 have HAlive:Sl (∀ W',Kp Aa w W'->Calls prog 9 #[] W' λ e w'=>e=.returned (.bool true)/\Kp Aa W' w'):=⟨λ W' kk=>alive39 W' (hF.Ad kk)⟩
 have HH:=sE (Heavy9_any n v1 v2 xs len d g i nn y u m w h1 h2 hl hl2)
 have HPl:Sl (len<=60->(∀ j,j<len->m j<=300)->Calls prog 10 #[.int .i64 n,v1,v2] w (Dz n xs v1 w)):=⟨λ q1 q2=>Played_any n v1 v2 xs len d g i nn y u m w hF h1 hl hM h2 q1 hy hA q2⟩
 have hv1:∃ a l c,v1=.slice a l c:=by obtain⟨a,c,h,-⟩:=h1;exact ⟨_,_,_,h⟩
 have hv2:∃ a l c,v2=.slice a l c:=by obtain⟨a,c,h,-⟩:=h2;exact ⟨_,_,_,h⟩
 obtain⟨a1,l1,c1,rfl⟩:=hv1
 obtain⟨a2,l2,c2,rfl⟩:=hv2
 have HB5:=sE hb3
 obtain⟨a5,c5,rfl,-⟩:=hb3
 clear hF h1 h2 hM hy hA hl hl2
 by_cases hs5:ns<=40
 case neg=>
  have p5:decide ((40:Int)<(ns:Int))=true:=dT (by omega)
  clear hs5
  go_enter func5,ntmps5
  go_wp2_with fail
  refine HH.out.mono ?_
  rintro e w2 ⟨t,rfl,rfl,ht⟩
  clear ht
  cases t
  all_goals
   go_wp2_with fail
   refine(HAlive.out _ (Kr _ _)).mono ?_
   rintro e w3 ⟨rfl,k3⟩
   go_wp2
   go_ret
   exact⟨rfl,k3⟩
 case pos=>
 go_enter func5,ntmps5
 go_wp2_with fail
 refine HH.out.mono ?_
 rintro e w2 ⟨t,rfl,rfl,ht⟩
 cases t with
 |true=>
  clear ht
  go_wp2_with fail
  refine(HAlive.out _ (Kr _ _)).mono ?_
  rintro e w3 ⟨rfl,k3⟩
  go_wp2
  go_ret
  exact⟨rfl,k3⟩
 |false=>
  obtain⟨-,-,q1,q2⟩:=ht rfl
  have HPp:=sE (HPl.out q1 q2)
  clear q1 q2 ht HPl
  go_wp2_with fail
  refine HPp.out.mono ?_
  rintro e w3 (⟨rfl,k3⟩|⟨P,rb,q,W,cs,rfl,hBt,hPn,hPs,h16⟩)
  .have HK3:=sE k3
   clear k3
   go_wp2_with fail
   refine(HAlive.out _ HK3.out).mono ?_
   rintro e w4 ⟨rfl,k4⟩
   go_wp2
   go_ret
   exact⟨rfl,HK3.out.then' k4⟩
  .obtain ⟨f,hsp,hcs,hst⟩:=hBt.sp
   have HK3:Sl (Kp Aa _ w3):=⟨hBt.kb.new'⟩
   have hcn:cs≠[]:=λ e=>by
    have:=hcs.tl
    rw[e] at this
    have h0:0=P.n/2:=this
    omega
   have hmks:∀ x∈P.ts,x.m<18446744073709551616:=hBt.ms
   have HRt:Sl (∀ W' v n ys,Kp Aa w3 W'->n<=65536->BytesIn W' v n ys->Calls prog 11 #[.pointer (some ⟨P.s,0,none⟩),v] W' λ e w'=>∃ a c,e=.returned (.slice a (BG (Ak cs) ys n).length c)/\w'.ownsRow W'.heap.size 3 1 (.slice a (BG (Ak cs) ys n).length c) (BG (Ak cs) ys n).length (Az (BG (Ak cs) ys n))/\Kp Aa W' w'):=⟨λ W' v n ys kk hn hv=>Roots20_at P cs W' ⟨W,f,hsp.Ad kk,hcs,hst⟩ hcn v n ys hn hv⟩
   have HOwn:Sl (w2.heap.size<=P.a/\w2.heap.size<=P.q/\P.a<w3.heap.size/\P.q<w3.heap.size):=⟨hBt.own _ (by simp[Sp.own]),hBt.own _ (by simp[Sp.own]),hsp.lt _ (by simp[Sp.all]),hsp.lt _ (by simp[Sp.all])⟩
   have HKe:Sl (∀ W' v xs,Kp Aa w3 W'->Bz W' v xs->(∀ g∈xs,De cs g)->xs.length<=65536->Calls prog 13 #[.pointer (some ⟨P.s,0,none⟩),v] W' (KeepsPost (Ak cs) (AP P.ts W cs) (P.n/2) xs W')):=⟨λ W' v xs kk hx ho hl=>CKeeps_at P W f W' cs (hsp.Ad kk) hcs hcn hst hmks v xs hx ho hl⟩
   have HGr:Sl (∀ W' W2 v xs,SpaceAt W' P W2 f->CellsAt P W2 cs->Bz W' v xs->(∀ g∈xs,De cs g)->xs.length<=65536->Calls prog 28 #[.pointer (some ⟨P.s,0,none⟩),v] W' (GranPost (Ak cs) (AP P.ts W2 cs) xs W')):=⟨λ W' W2 v xs hs hc hx ho hl=>LGran_at P W2 f W' cs hs hc hcn hst hmks v xs hx ho hl⟩
   have HEd:Sl (∀ W',Kp Aa w3 W'->_):=⟨λ W' kk=>Edges_at P W f cs W' (hsp.Ad kk) hcs hmks⟩
   have HEl:Sl ((AP P.ts W cs).length<=2147483648):=⟨Nat.le_trans (DC cs _) (hcs.to.refs_len hsp.ar.small)⟩
   have HUp:=sE (objs_up hcs)
   have hH65:P.n/2<=65536:=hsp.bt.Fa
   have HOb:Sl ((∀ c∈Ak cs,c.g<P.n/2)/\(∀ c∈Ak cs,0<c.sz)/\(∀ c∈Ak cs,c.sz<=65536)/\(∀ x,AA (AP P.ts W cs) [] x->False)):=⟨λ c hc=>DV hcs ⟨c,(AR.1 hc).1,(AR.1 hc).2,rfl⟩,λ c hc=>(hcs.tl.mem (AR.1 hc).1).2.2,λ c hc=>by have:=hcs.tl.mem (AR.1 hc).1;omega,λ x hx=>AA.rec' (p:=λ _=>False) (λ x h=>by cases h) (λ _ _ _ h=>h) hx⟩
   have HEo:Sl (∀ (rs:List Nat) x,(∀ g∈rs,De cs g)->AA (AP P.ts W cs) rs x->∃ c∈Ak cs,c.g=x):=⟨λ rs x hr hx=>by
    have:De cs x:=AA.rec' (p:=λ x=>De cs x) hr (λ e he _ _=>(EF hcs hst he).2.1) hx
    obtain⟨c,h1,h2,h3⟩:=this
    exact⟨c,AR.2 ⟨h1,h2⟩,h3⟩⟩
   have HSp:=sE hsp
   have HCs:=sE hcs
   have HMs:=sE hmks
   clear hsp hcs hst hcn hmks hBt hPn hPs h16 HPp HH
   go_wp2_with fail
   refine(HRt.out w3 _ ns ys (Kr _ _) (by omega) (HB5.out.Ad HK3.out)).mono ?_
   rintro e w4 ⟨ra,rc,rfl,hrow,k4⟩
   have K4:Sl (Kp Aa w3 w4):=⟨k4⟩
   have hRo:∀ g∈BG (Ak cs) ys ns,De cs g:=roots_obj
   have hRl:(BG (Ak cs) ys ns).length<=40:=by have:=rootsOf_len (Ak cs) ys ns;omega
   obtain⟨rs,hrs⟩:∃ rs,BG (Ak cs) ys ns=rs:=⟨_,rfl⟩
   rw[hrs] at hrow hRo hRl ⊢
   obtain⟨rl,hrl⟩:∃ rl,rs.length=rl:=⟨_,rfl⟩
   have HR4:Sl (w4.ownsRow w3.heap.size 3 1 (.slice ra rl rc) rl (Az rs)):=⟨by rw[<- hrl];exact hrow⟩
   have HRL:Sl (rs.length=rl):=⟨hrl⟩
   have HRO:Sl (∀ g∈rs,De cs g):=⟨hRo⟩
   rw[hrl] at hRl ⊢
   clear hrow k4 hRo hrl hrs HRt HB5
   obtain⟨H,hH⟩:∃ H,P.n/2=H:=⟨_,rfl⟩
   obtain⟨es,hes⟩:∃ es,AP P.ts W cs=es:=⟨_,rfl⟩
   obtain⟨os,hos⟩:∃ os,Ak cs=os:=⟨_,rfl⟩
   have HEs:=sE hes
   have HHn:=sE hH
   rw[hes] at HKe HEd HEl HOb HEo
   rw[hos] at HKe HGr HOb HUp HEo
   rw[hH] at HKe HOb hH65
   clear hes hH hos
   go_wp2_with fail
   refine(HKe.out w4 _ rs K4.out (Bz.Be HR4.out) HRO.out (by rw[HRL.out];omega)).mono ?_
   rintro e w5 ⟨fm,v5,hfm,rfl,ho5,k5⟩
   have HFm:Sl (∀ g,fm g=true ↔ AA es rs g):=⟨hfm⟩
   have K45:Sl (Kp Aa w4 w5):=⟨k5⟩
   have HR5:=sE (Ag HR4.out k5 (λ _ _ h=>h))
   obtain⟨a5',c5',rfl⟩:=AJ ho5
   have hQl:=Fw fm H
   have hlen5:(keepsL os es rs (Bb fm H) (Bb fm H)).length=(Bb fm H).length:=List.length_map _
   rw[Ev] at ho5
   have HT5:Sl (Df w5 (.slice a5' (keepsL os es rs (Bb fm H) (Bb fm H)).length c5') ((keepsL os es rs (Bb fm H) (Bb fm H)).map toI)):=⟨by
    have:=Df.Be (L:=(keepsL os es rs (Bb fm H) (Bb fm H)).map toI) (by rw[List.length_map];exact ho5)
    exact this⟩
   rw[hlen5] at HT5 ⊢
   obtain⟨Q,hQ⟩:∃ Q,Bb fm H=Q:=⟨_,rfl⟩
   have HQ:=sE hQ
   rw[hQ] at HT5 hQl ⊢
   obtain⟨N,hN⟩:∃ N,Q.length=N:=⟨_,rfl⟩
   have HN:=sE hN
   rw[hN] at HT5 hQl ⊢
   clear hfm k5 ho5 hlen5 hQ hN HKe
   go_wp2_with fail
   refine(HGr.out w5 W _ rs (HSp.out.Ad (K4.out.then' K45.out)) HCs.out (Bz.Be HR5.out) HRO.out (by rw[HRL.out];omega)).mono ?_
   rintro e w6 ⟨fm',hfm',rfl,k6⟩
   have hff:fm=fm':=bool_of_iff HFm.out (by rw[<- HEs.out];exact hfm')
   subst hff
   have HWas:Sl (DY os fm os.length=Bc os Q):=⟨by
    rw[granT_all HUp.out HOb.out.1 (λ x hx=>HEo.out rs x HRO.out ((HFm.out x).1 hx)),HQ.out]⟩
   have HWle:Sl (DY os fm os.length<=65536*65536):=⟨by
    rw[HWas.out]
    exact Nat.le_trans (Fy HOb.out.2.2.1 Q) (Nat.mul_le_mul_right _ (by rw[HN.out];omega))⟩
   have K46:Sl (Kp Aa w4 w6):=⟨K45.out.then' k6⟩
   have HT6:=sE (HT5.out.Ad k6)
   have HR6:=sE (Ag HR5.out k6 (λ _ _ h=>h))
   obtain⟨was,hwas⟩:∃ was,DY os fm os.length=was:=⟨_,rfl⟩
   rw[hwas] at HWas HWle ⊢
   have HWq:=sE hwas
   have hwle:=HWle.out
   clear hfm' k6 hwas HT5 HR5
   by_cases hN0:N=0
   .subst hN0
    have hw0:was=0:=by
     rw[HWas.out,List.length_eq_zero_iff.1 HN.out]
     rfl
    subst hw0
    go_wp2_with fail
    refine(HAlive.out _ (HK3.out.then' (K4.out.then' K46.out))).mono ?_
    rintro e w7 ⟨rfl,k7⟩
    go_wp2
    go_ret
    exact⟨rfl,HK3.out.then' (K4.out.then' (K46.out.then' k7))⟩
   .have e2:((N:Int)==0)=false:=by rw[beq_eq_false_iff_ne];omega
    obtain⟨kk,hkk⟩:∃ kk,wh%N=kk:=⟨_,rfl⟩
    have hkN:kk<N:=by rw[<- hkk];exact Nat.mod_lt _ (by omega)
    have hmod:((wh:Int).tmod (N:Int))=(kk:Int):=by rw[<- hkk];rfl
    obtain⟨g,hg⟩:∃ g,Q[kk]?=some g:=⟨Q[kk]'(by rw[HN.out];exact hkN),by simp⟩
    obtain⟨sz,hsz⟩:∃ sz,(BK os g).sz=sz:=⟨_,rfl⟩
    obtain⟨kp,hkp⟩:∃ kp,Bc os (keptL es rs Q g)=kp:=⟨_,rfl⟩
    obtain⟨a6,c6,e6,hcell⟩:=HT6.out
    have hrow:((keepsL os es rs Q Q).map toI)[kk]?=some ((g:Int),(sz:Int),(kp:Int)):=by
     unfold keepsL
     rw[List.map_map,List.getElem?_map,hg,<- hsz,<- hkp]
     rfl
    obtain⟨kb,hkb,x0,x1,x2⟩:=hcell kk _ hrow
    have hka:a5'=some ⟨kb,0,none⟩:=by injection e6 with h1;rw [h1];exact hkb
    subst hka
    replace x0:w6.cell? ⟨kb,kk*3,none⟩=some (.int .i64 (g:Nat)):=x0
    replace x1:w6.cell? ⟨kb,kk*3+1,none⟩=some (.int .i64 (sz:Nat)):=x1
    replace x2:w6.cell? ⟨kb,kk*3+2,none⟩=some (.int .i64 (kp:Nat)):=x2
    have hgQ:=List.mem_of_getElem? hg
    have HG:Sl (g∈Q/\(BK os g).sz=sz/\Bc os (keptL es rs Q g)=kp):=⟨⟨hgQ,hsz,hkp⟩⟩
    clear e6 hcell hrow hkb hgQ hsz hkp hg hkk HT6
    go_wp2_with fail
    obtain⟨w7,hw7⟩:∃ w7,w7=w6.alloc (.cells #[.int .i64 (g:Nat),.int .i64 (sz:Nat),.int .i64 (kp:Nat)] 67):=⟨_,rfl⟩
    obtain⟨xb,hxb⟩:∃ b,w6.heap.size=b:=⟨_,rfl⟩
    have k7:Kp Aa w6 w7:=by rw[hw7];exact (Kr _ w6).alloc _
    have HX7:Sl (w7.heap[xb]?=some (.cells #[.int .i64 (g:Nat),.int .i64 (sz:Nat),.int .i64 (kp:Nat)] 67 (0,0))):=⟨by rw[hw7,<- hxb];exact wN w6 _⟩
    try rw[<- hw7]
    try rw[hxb]
    have K47:Sl (Kp Aa w4 w7):=⟨K46.out.then' k7⟩
    have HR7:=sE (Ag HR6.out k7 (λ _ _ h=>h))
    have HXz:Sl (w3.heap.size<=xb):=⟨by rw[<- hxb];exact (K4.out.then' K46.out).size⟩
    clear hw7 hxb k7 x0 x1 x2 K46 HR6
    refine(HEd.out w7 (K4.out.then' K47.out)).mono ?_
    rintro e w8 ⟨v8,rfl,ho8,k8⟩
    obtain⟨a8,c8,rfl⟩:=AJ ho8
    have HE8:=sE ho8
    have HX8:=sE (k8.at_ HX7.out (λ h=>h))
    have K48:Sl (Kp Aa w4 w8):=⟨K47.out.then' k8⟩
    have HR8:=sE (Ag HR7.out k8 (λ _ _ h=>h))
    have HZ7:Sl (w3.heap.size<=w7.heap.size):=⟨(K4.out.then' K47.out).size⟩
    obtain⟨E,hE⟩:∃ E,es.length=E:=⟨_,rfl⟩
    have hEl:=HEl.out
    rw[hE] at HE8 hEl ⊢
    have HEE:=sE hE
    have HC0:Sl (CutSp P f cs es g 0 w8):=⟨W,HSp.out.Ad (K4.out.then' K48.out),HCs.out,by rw[<- HEs.out];exact EQ.start P.ts W cs g⟩
    clear ho8 k8 HX7 K47 HR7 hE HEd
    go_wp2_with fail
    go_loopw [21,22,23] (λ x21 _ _ wr=>∃ j:Nat,x21=.int .i64 (j:Nat)/\j<=E/\Sl (CutSp P f cs es g j wr)/\Sl (Kp (λ b=>b=P.a\/b=P.q\/w8.heap.size<=b) w8 wr)) (λ x21 _ _ _=>E-(intOf x21).toNat)
    case atStart=>exact ⟨0,rfl,Nat.zero_le _,HC0,⟨Kr _ _⟩⟩
    case round=>
     obtain⟨j,rfl,hj,HCt,HKj⟩:=hrel
     clear HC0
     obtain⟨wo,rfl⟩:∃ wo,wo=wr:=⟨_,rfl⟩
     by_cases hjl:j<E
     .have hjl':(j:Int)<(E:Int):=by omega
      obtain⟨z,hz⟩:∃ z,es[j]?=some z:=⟨es[j]'(by rw[HEE.out];exact hjl),by simp⟩
      have hro:=Ag HE8.out HKj.out (λ b hb h=>by have h1:=Ae HE8.out hb;have h2:=HOwn.out;have h3:=HZ7.out;omega)
      rw[Ev] at hro
      have hrt:=Df.Be (L:=es.map toI) (by rw[List.length_map,HEE.out];exact hro)
      obtain⟨a8',c8',e8,hcell⟩:=hrt
      obtain⟨zb,hzb,z0,z1,z2⟩:=hcell j (toI z) (by rw[List.getElem?_map,hz];rfl)
      have hka:a8=some ⟨zb,0,none⟩:=by injection e8 with h1;rw [h1];exact hzb
      subst hka
      replace z0:wo.cell? ⟨zb,j*3,none⟩=some (.int .i64 (z.1:Nat)):=z0
      replace z1:wo.cell? ⟨zb,j*3+1,none⟩=some (.int .i64 (z.2.1:Nat)):=z1
      replace z2:wo.cell? ⟨zb,j*3+2,none⟩=some (.int .i64 (z.2.2:Nat)):=z2
      obtain⟨g0,-,-⟩:=cells3 (HKj.out.at_ HX8.out (λ h=>by have h2:=HOwn.out;have h3:=HXz.out;have h4:=(Array.getElem?_eq_some_iff.1 HX8.out).1;omega))
      have HZ:=sE hz
      clear hz hro e8 hcell hzb
      by_cases hzg:z.2.2=g
      .have e3:((z.2.2:Int) !=(g:Int))=false:=by rw[hzg];simp
       have HZg:=sE hzg
       clear hzg
       go_wp2_with fail
       go_quiet (fail)
       have z0:=Ac (Kp.Ah (w:=wo) nq) z0
       have z1:=Ac (Kp.Ah (w:=wo) nq) z1
       obtain⟨wd,hwd⟩:∃ wd,wd=wo.drewN nq:=⟨_,rfl⟩
       have kwd:Kp Aa wo wd:=by rw[hwd];exact Kp.Ah _
       rw[<- hwd] at z0 z1 ⊢
       have HKd:=sE kwd
       obtain⟨W2,hs2,hc2,hcut⟩:=HCt.out
       have hz0:z∈AP P.ts W cs:=by rw[HEs.out];exact List.mem_of_getElem? HZ.out
       obtain⟨c,hcm,hct,sl,hsl,q1,q2,q3⟩:=Fp.1 hz0
       rw[q1] at z0
       rw[q2] at z1
       have HC:=sE (And.intro hcm (And.intro hct (And.intro hsl (And.intro q1 q2))))
       have HS2:Sl (SpaceAt wd P W2 f/\CellsAt P W2 cs/\EQ P.ts es cs g j W2):=⟨⟨hs2.Ad kwd,hc2,hcut⟩⟩
       have HAr:Sl (∀ W',Kp Aa wd W'->Calls prog 31 #[.pointer (some ⟨P.s,0,none⟩)] W' λ e w''=>e=.returned (.pointer (some ⟨P.a,0,none⟩))/\w''=W'):=⟨λ W' kk=>Et P W2 f W' (HS2.out.1.Ad kk)⟩
       have HTb:Sl (∀ W',Kp Aa wd W'->Calls prog 32 #[.pointer (some ⟨P.s,0,none⟩)] W' λ e w''=>e=.returned (.pointer (some ⟨P.t,0,none⟩))/\w''=W'):=⟨λ W' kk=>Ff P W2 f W' (HS2.out.1.Ad kk)⟩
       have HOf:Sl (∀ W',Kp Aa wd W'->_):=⟨λ W' kk=>SOf_one c P W2 f W' (HS2.out.1.Ad kk) (hc2.ok c hcm) (hc2.hd c hcm) (by have:=(hc2.tl.mem hcm).2.1;omega) (hc2.tl.mem hcm).2.2 hct HMs.out⟩
       have kd:Kp Aa wd wd.drew:=(Kr _ _).drew
       clear z2 g0 e3 hwd kwd hs2 hc2 hcut hz0 hcm hct hsl q1 q2 q3 HCt
       go_wp2_with fail
       refine wp_region_held_drew (S:=λ w'=>w'.cell? ⟨zb,j*3,none⟩=some (.int .i64 (c.g:Nat))) (by kernel_rfl) ?_ (λ qZ=>?_)
       .exact z0
       refine Ao 0 ?_;refine Ao 2 ?_;refine Ao 4 ?_;refine Ao 5 ?_;refine Ao 6 ?_;refine Ao 7 ?_;refine Ao 8 ?_
       try simp only[Ay]
       refine Bl [1] ?_
       refine Af rfl (λ K hK=>?_)
       go_simp
       go_at_call 31
       (with_reducible refine(HAr.out _ kd).mono ?_)
       rintro e w9 ⟨rfl,rfl⟩
       refine hK _ _ ?_ (λ qZ=>?_)
       .exact Ac kd z0
       clear hK K
       try simp only[Ay]
       refine Bl [3] ?_
       refine Af rfl (λ K hK=>?_)
       go_simp
       go_at_call 32
       (with_reducible refine(HTb.out _ kd).mono ?_)
       rintro e w9 ⟨rfl,rfl⟩
       refine hK _ _ ?_ (λ qZ=>?_)
       .exact Ac kd z0
       clear hK K
       try simp only[Ay]
       refine Bl [9] ?_
       refine Af rfl (λ K hK=>?_)
       go_simp
       go_at_call 30
       (with_reducible refine(HOf.out _ kd).mono ?_)
       rintro e w9 ⟨vb,kk9,wds,mm,⟨⟨hk0,hmm⟩,hrf,hfit⟩,rfl,hV,hbn,k9⟩
       have K9:Kp Aa wd w9:=kd.then' k9
       refine hK _ _ ?_ (λ qZ=>?_)
       .exact Ac K9 z0
       clear hK K
       try simp only[Ay]
       refine Ao 10 ?_;refine Ao 11 ?_;refine Ao 12 ?_;refine Ao 13 ?_;refine Ao 14 ?_
       try simp only[Ay]
       refine wpAnyH_done (by kernel_rfl) ?_ _
       have z1:=Ac K9 z1
       have HK9:=sE K9
       have HSt9:=sE (VStore_yes sl 0 vb P.a P.q P.n W2 c kk9 wds mm w9 (HS2.out.1.Ad K9).ar hV hk0 (Fv hk0 (by rw[<- hrf];exact HC.out.2.2.1)) (by omega) (by have:=(refsC_in HCs.out HC.out.1 HC.out.2.1 HC.out.2.2.1).2.2;omega))
       clear qZ hV hbn k9 hrf hfit hk0 hmm K9 z0 kd HAr HTb HOf
       go_wp2_with fail
       refine HSt9.out.mono ?_
       rintro e w10 ⟨rfl,k10,A10⟩
       have HC1:Sl (CutSp P f cs es g (j+1) w10):=⟨⟨CE W2 (2*c.g+1+sl) 0,(HS2.out.1.Ad HK9.out).words k10 A10,HS2.out.2.1.store HC.out.1 (refsC_in HCs.out HC.out.1 HC.out.2.1 HC.out.2.2.1).1 (refsC_in HCs.out HC.out.1 HC.out.2.1 HC.out.2.2.1).2.1 0,HS2.out.2.2.cut HS2.out.2.1 HZ.out HZg.out HC.out.1 HC.out.2.1 HC.out.2.2.1 HC.out.2.2.2.1 HC.out.2.2.2.2⟩⟩
       have HK10:Sl (Kp (λ b=>b=P.a\/b=P.q\/w8.heap.size<=b) w8 w10):=⟨(HKj.out.trans (HKd.out.then' HK9.out) (λ b hb h=>h.elim)).trans k10 (λ b hb h=>h.elim .inl λ h=>.inr (.inl h))⟩
       clear k10 A10
       go_wp2
       exact⟨⟨j+1,by go_num,by omega,HC1,HK10⟩,by simp only[intOf];omega⟩
      .have e3:((z.2.2:Int) !=(g:Int))=true:=by rw[bne_iff_ne];omega
       have HC1:Sl (CutSp P f cs es g (j+1) wo):=⟨by
        obtain⟨W2,q1,q2,q3⟩:=HCt.out
        exact⟨W2,q1,q2,q3.skip HZ.out hzg⟩⟩
       clear hzg
       go_wp2_with fail
       go_quiet (fail)
       go_wp2
       refine⟨⟨j+1,by go_num,by omega,⟨?_⟩,⟨HKj.out.drewN _⟩⟩,by simp only[intOf];omega⟩
       obtain⟨W2,q1,q2,q3⟩:=HC1.out
       exact⟨W2,q1.Ad (Kp.Ah _),q2,q3⟩
     .have hjl':¬ (j:Int)<(E:Int):=by omega
      obtain rfl:j=E:=by omega
      go_wp2_with fail
      have HDn:Sl (∃ W2,SpaceAt wo P W2 f/\CellsAt P W2 cs/\∀ e,e∈AP P.ts W2 cs ↔ e∈es/\¬ e.2.2=g):=⟨by
       obtain⟨W2,q1,q2,q3⟩:=HCt.out
       refine⟨W2,q1,q2,λ e=>?_⟩
       have h1:=EQ.done (ts:=P.ts) (W0:=W) (W:=W2) (cs:=cs) (k:=g) (by rw[HEs.out,HEE.out];exact q3) e
       rw[h1,HEs.out]⟩
      have HRo:=sE (Ag HR8.out HKj.out (λ b hb h=>by have h1:=Ae HR8.out hb;have h2:=HOwn.out;omega))
      have hxo:=HKj.out.at_ HX8.out (λ h=>by have h2:=HOwn.out;have h3:=HXz.out;have h4:=(Array.getElem?_eq_some_iff.1 HX8.out).1;omega)
      have HXo:=sE hxo
      have HKo:Sl (Kp Aa w2 wo):=⟨(HK3.out.then' (K4.out.then' K48.out)).trans HKj.out (λ b hb h=>by have h2:=HOwn.out;have h3:=(HK3.out.then' (K4.out.then' K48.out)).size;omega)⟩
      obtain⟨B,hB⟩:∃ B,wo.heap.size=B:=⟨_,rfl⟩
      have HB:=sE hB
      clear hxo hB HCt HKj hjl hjl' hj HX8 HR8
      go_loopw [24,25] (λ x24 x25 wr=>∃ j:Nat,x25=.int .i64 (j:Nat)/\j<=rl/\wr.ownsRow B 3 1 x24 (woR (rs.take j) g).length (Az (woR (rs.take j) g))/\Kp (λ b=>B<=b) wo wr) (λ _ x25 _=>rl-(intOf x25).toNat)
      case atStart=>exact ⟨0,rfl,Nat.zero_le _,World.ownsRow_nil _ _ _ _,Kr _ _⟩
      case round=>
       obtain⟨j,rfl,hj,hro,hk⟩:=hrel
       have HK:=sE hk
       have HO:=sE hro
       have HKn:Sl (Kp Aa wo wr):=⟨by rw[<- HB.out] at hk;exact hk.new'⟩
       have hRlen:(woR (rs.take j) g).length<=40:=by
        have:=woR_len (rs.take j) g
        rw[List.length_take] at this
        omega
       clear hk hro
       by_cases hjl:j<rl
       .have hjl':(j:Int)<(rl:Int):=by omega
        obtain⟨r,hr⟩:∃ r,rs[j]?=some r:=⟨rs[j]'(by rw[HRL.out];exact hjl),by simp⟩
        have hstep:=woR_step (g:=g) hr
        obtain⟨rb',hrb,r0⟩:=Cw (Ag HRo.out HKn.out (λ _ _ h=>h)) hr
        subst hrb
        obtain⟨g0,-,-⟩:=cells3 (HKn.out.at_ HXo.out (λ h=>h))
        obtain⟨R,hR⟩:∃ R,woR (rs.take j) g=R:=⟨_,rfl⟩
        rw[hR] at HO hRlen hstep
        obtain⟨rn,hrn⟩:∃ rn,R.length=rn:=⟨_,rfl⟩
        rw[hrn] at HO hRlen
        have HRn:=sE hrn
        have HStep:=sE hstep
        clear hr hR hrn hstep
        obtain⟨oa,oc,rfl⟩:=AJ HO.out
        by_cases hrg:r=g
        .have e3:((r:Int) !=(g:Int))=false:=by rw[hrg];simp
         have HE:Sl (woR (rs.take (j+1)) g=R):=⟨by rw[HStep.out,if_pos hrg,List.append_nil]⟩
         clear hrg
         go_wp2_with fail
         go_quiet (fail)
         go_wp2
         refine⟨⟨j+1,by go_num,by omega,?_,HK.out.drewN _⟩,by simp only[intOf];omega⟩
         rw[HE.out,HRn.out]
         exact Ag HO.out (Kp.Ah _) (λ _ _ h=>h)
        .have e3:((r:Int) !=(g:Int))=true:=by rw[bne_iff_ne];omega
         have HE:Sl (woR (rs.take (j+1)) g=R++[r]):=⟨by rw[HStep.out,if_neg hrg]⟩
         clear hrg
         go_wp2_with fail
         go_quiet (fail)
         have r0:=Ac (Kp.Ah (w:=wr) nq) r0
         obtain⟨wz,hwz⟩:∃ wz,wz=wr.drewN nq:=⟨_,rfl⟩
         have kz:Kp Aa wr wz:=by rw[hwz];exact Kp.Ah _
         rw[<- hwz] at r0 ⊢
         have HKz:Sl (Kp (λ b=>B<=b) wo wz):=⟨HK.out.trans kz (λ _ _ h=>h.elim)⟩
         have HOz:=sE (Ag HO.out kz (λ _ _ h=>h))
         have hBz:B<=wz.heap.size:=by have:=HKz.out.size;have:=HB.out;omega
         clear g0 e3 hwz kz
         go_wp2_with (at_builtin;obtain ⟨i0,hi,hz0,hz1,hz2⟩:=info_parts Ch;go_loud (refine wpList_append_lies _ rfl (.tmp 146) (.tmp 151) 24 rfl B 3 i0 _ 1 8 AU hi hz0 hz1 hz2 rfl (by omega) (.slice oa rn oc) rn (Az R) rfl (HOz.out.alloc _) ⟨wz.heap.size,0,none⟩ 1 1 [.int .i64 (r:Nat)] rfl rfl (World.news_of_block (wN wz _)) (by intro u hu;simp at hu;subst hu;rfl) (by omega) (by unfold maxLen;omega) (by omega) (by first|(simp;done)|(simp;omega)) (wz.heap.size+1) (by simp) ?_);intro gn capn w9 hown9 hgrow hat hlt;clear hi hz0 hz1 hz2;have HGw:=sE hgrow;have HR9:=sE hown9;clear hown9 hgrow hat hlt)
         have k9:Kp (λ b=>B<=b) wo w9:=(HKz.out.alloc _).grown HGw.out (λ k e hk=>(Ae HOz.out e).1)
         refine⟨⟨j+1,by go_num,by omega,?_,k9⟩,by simp only[intOf];omega⟩
         rw[HE.out,Az,List.map_append,List.length_append,HRn.out]
         exact HR9.out
       .have hjl':¬ (j:Int)<(rl:Int):=by omega
        obtain rfl:j=rl:=by omega
        have hro:=HO.out
        rw[List.take_of_length_le (by rw[HRL.out];exact Nat.le_refl _)] at hro hRlen
        obtain⟨oa,oc,rfl⟩:=AJ hro
        obtain⟨W2,hs2,hc2,hd2⟩:=HDn.out
        have HGn:=sE (HGr.out wr W2 _ (woR rs g) (hs2.Ad HKn.out) hc2 (Bz.Be hro) (λ x hx=>HRO.out x (Dv.1 hx).1) (by omega))
        have HDr:Sl (∀ x,AA (AP P.ts W2 cs) (woR rs g) x ↔ AQ es rs g x):=⟨λ x=>AQ.drop hd2 x⟩
        obtain⟨rn,hrn⟩:∃ rn,(woR rs g).length=rn:=⟨_,rfl⟩
        rw[hrn] at HGn ⊢
        clear hro hs2 hc2 hd2 hrn HO
        go_wp2_with fail
        refine HGn.out.mono ?_
        rintro e w12 ⟨fn,hfn,rfl,k12⟩
        have hans:=drops_answer HUp.out HFm.out (λ x=>(hfn x).trans (HDr.out x)) HOb.out.1 (λ x hx=>HEo.out rs x HRO.out ((HFm.out x).1 hx)) (H:=H) (by rw[HQ.out];exact HG.out.1) HOb.out.2.1
        rw[HQ.out,HG.out.2.1,HG.out.2.2,HWq.out] at hans
        obtain⟨now,hnow⟩:∃ now,DY os fn os.length=now:=⟨_,rfl⟩
        rw[hnow] at hans ⊢
        obtain⟨t1,t2,t3⟩:=hans
        have u1:IntKind.i64.wrap ((was:Int)-(now:Int))=(kp:Int):=by rw[IntKind.wrap_i64];omega
        have p1:(sz:Int)<=(kp:Int):=by omega
        have p2:(0:Int)<(sz:Int):=by omega
        obtain⟨-,x1,x2⟩:=cells3 (((HKn.out.then' k12)).at_ HXo.out (λ h=>h))
        have HK12:Sl (Kp Aa w2 w12):=⟨HKo.out.then' (HKn.out.then' k12)⟩
        clear hfn k12 hnow t1 t2 t3 hRlen
        go_wp2_with fail
        refine(HAlive.out _ HK12.out).mono ?_
        rintro e w13 ⟨rfl,k13⟩
        go_wp2
        go_ret
        exact⟨rfl,HK12.out.then' k13⟩

end Go.Proofs.YtfkedlgpgmaemaaGreatDoor
