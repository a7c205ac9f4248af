/-
  The law WhyLeads, walked.
-/
import Derived.Test.YtpeipocojmjbfaaGreatDoorQbt
import Derived.Test.YtpeipocojmjbfaaGreatDoorQax
set_option linter.unusedVariables false
set_option maxHeartbeats 16000000
namespace Go.Proofs.YtpeipocojmjbfaaGreatDoor
open Tryz
open Go.RowKit

def FarF(D:Nat->Option Nat)(H i:Nat)(F:Nat->Nat):Prop:=(∀ k,k<i->∀ x,(dLq D H)[k]?=some x->F x.1.val=x.2)/\∀ g,(∀ k,k<i->∀ x,(dLq D H)[k]?=some x->¬ x.1.val=g)->F g=0

theorem distL_get{D:Nat->Option Nat}{H k:Nat}{x:Ce}(hH:H<=65536)(h:(dLq D H)[k]?=some x):x.1.val<H/\(D x.1.val).isSome=true/\x.2=(D x.1.val).getD 0:=by
 have hm:=List.mem_of_getElem? h
 unfold dLq at hm
 obtain⟨g,hg,rfl⟩:=List.mem_map.1 hm
 have hg2:=setL_mem.1 hg
 have:(mkD D g).1.val=g:=Nat.mod_eq_of_lt (by omega)
 rw[this]
 exact⟨hg2.1,hg2.2,rfl⟩

theorem distL_idx{D:Nat->Option Nat}{H g:Nat}(hH:H<=65536)(hg:g<H)(hs:(D g).isSome=true):∃ k x,k<(dLq D H).length/\(dLq D H)[k]?=some x/\x.1.val=g/\x.2=(D g).getD 0:=by
 have hm:mkD D g∈dLq D H:=List.mem_map.2 ⟨g,setL_mem.2 ⟨hg,hs⟩,rfl⟩
 obtain⟨k,hk,he⟩:=List.mem_iff_getElem.1 hm
 exact⟨k,mkD D g,hk,by rw[List.getElem?_eq_getElem hk,he],Nat.mod_eq_of_lt (by omega),rfl⟩

theorem FarF.step{D:Nat->Option Nat}{H i:Nat}{F:Nat->Nat}(hH:H<=65536)(h:FarF D H i F){x:Ce}(hx:(dLq D H)[i]?=some x):FarF D H (i+1) (λ g=>if g=x.1.val then x.2 else F g):=by
 have up:=distL_up (D:=D) hH
 refine⟨λ k hk z hz=>?_,λ g hg=>?_⟩
 .dsimp only
  by_cases e:k=i
  .subst e
   rw[hx] at hz
   injection hz with hz
   rw[hz,if_pos rfl]
  .have hlt:z.1.val<x.1.val:=by
    have h1:=(gE.1 hz)
    have h2:=(gE.1 hx)
    obtain⟨l1,rfl⟩:=h1
    obtain⟨l2,rfl⟩:=h2
    exact List.pairwise_iff_getElem.1 up k i l1 l2 (by omega)
   rw[if_neg (by omega)]
   exact h.1 k (by omega) z hz
 .dsimp only
  rw[if_neg (λ e=>hg i (by omega) x hx e.symm)]
  exact h.2 g λ k hk z hz=>hg k (by omega) z hz

theorem FarF.all{D:Nat->Option Nat}{H:Nat}{F:Nat->Nat}(hH:H<=65536)(h:FarF D H (dLq D H).length F){g:Nat}(hg:g<H):F g=(D g).getD 0:=by
 cases hs:D g with
 |some n=>
  obtain⟨k,x,hk,hx,h1,h2⟩:=distL_idx (D:=D) hH hg (by rw[hs];rfl)
  have:=h.1 k hk x hx
  rw[h1,h2,hs] at this
  exact this
 |none=>
  refine h.2 g λ k hk x hx e=>?_
  have:=(distL_get hH hx).2.1
  rw[e,hs] at this
  cases this

def NumAt(w:World)(b n:Nat)(F:Nat->Nat):Prop:=∃ cs,w.heap[b]?=some (.cells cs 3 (0,0))/\cs.size=n/\∀ j,j<n->cs[j]?=some (.int .i64 (F j:Nat))

theorem NumAt.Am{w w':World}{b n:Nat}{F:Nat->Nat}(h:NumAt w b n F)(k:Kp Ag w w'):NumAt w' b n F:=by
 obtain⟨cs,h1,h2⟩:=h
 exact⟨cs,k.at_ h1 (λ h=>h),h2⟩

theorem NumAt.cell{w:World}{b n:Nat}{F:Nat->Nat}(h:NumAt w b n F){j:Nat}(hj:j<n):w.cell? ⟨b,j,none⟩=some (.int .i64 (F j:Nat))/\w.frozen? ⟨b,j,none⟩=false:=by
 obtain⟨cs,h1,h2,h3⟩:=h
 exact⟨by simp only[World.cell?,h1];exact h3 j hj,by simp[World.frozen?,h1]⟩

theorem NumAt.store{w:World}{b n:Nat}{F:Nat->Nat}(h:NumAt w b n F){j:Nat}(hj:j<n)(x:Nat):NumAt (w.setCell ⟨b,j,none⟩ (.int .i64 (x:Nat))) b n (λ i=>if i=j then x else F i):=by
 obtain⟨cs,h1,h2,h3⟩:=h
 refine⟨cs.setIfInBounds j (.int .i64 (x:Nat)),bZ h1 _,by simp[h2],λ i hi=>?_⟩
 dsimp only
 by_cases e:i=j
 .subst e
  simp[h2,hi]
 .rw [Array.getElem?_setIfInBounds_ne (λ q=>e q.symm),if_neg e]
  exact h3 i hi

theorem MakeNums(w:World)(H:Nat)(hH:H<=65536):∃ w',(Instr.makeSlice 24 (.int .i64 (H:Nat)) (.int .i64 (H:Nat))).run prog w=.ok (.slice (some ⟨w.heap.size,0,none⟩) H H) w'/\NumAt w' w.heap.size H (λ _=>0)/\Kp Ag w w':=by
 obtain⟨i0,hi,hz0,hz1,hz2⟩:=info_parts CQ
 have h:=run_makeSlice (P:=prog) (w:=w) 24 3 i0 (.int .i64 0) AZ hi hz0 .i64 .i64 (H:Nat) (H:Nat) (by omega) (by omega) (by rw[hz1];omega) (by rw[hz2];omega) (by omega)
 simp only[Int.toNat_natCast] at h
 refine⟨_,h,⟨_,wN w _,?_,λ j hj=>?_⟩,(Kr _ w).alloc _⟩
 .rw [hz1,<- Array.length_toList,show (Value.int .i64 0).cells=#[Value.int .i64 0] from rfl,toList_madeCells_one,List.length_replicate]
  omega
 .rw [hz1,<- Array.getElem?_toList,show (Value.int .i64 0).cells=#[Value.int .i64 0] from rfl,toList_madeCells_one,List.getElem?_replicate,if_pos (by omega)]
  rfl

set_option maxRecDepth 20000 in
theorem whyleads_walk(n:Int)(v1 v2 v3:Value)(xs:List TypR)(len:Nat)(d g i nn y:Nat->Int)(u:Nat->Value)(m:Nat->Nat)(ns:Nat)(ys:Nat->Nat)(w:World)(hF:Ai w)(h1:A8 w v1 xs)(h2:EU w v2 len d g i nn y u m)
  (hl:xs.length<=17592186044416) (hM:CW xs) (hl2:len<=17592186044416) (hy:∀ j,j<len->0<=y j/\y j<=18446744073709551615) (hA:AtsAt w len u m) (hb3:BytesIn w v3 ns ys):
  Calls prog 7 #[.int .i64 n,v1,v2,v3] w λ e w'=>e=.returned (.bool true)/\Kp Ag w w':=by
 have HF:=sE hF
 have HAlive:Sl (∀ W',Kp Ag w W'->Calls prog 39 #[] W' λ e w'=>e=.returned (.bool true)/\Kp Ag W' w'):=⟨λ W' kk=>alive40 W' (hF.Am kk)⟩
 have HH:=sE (Heavy9_any n v1 v2 xs len d g i nn y u m w h1 h2 hl hl2)
 have HPl:Sl (len<=60->(∀ j,j<len->m j<=300)->Calls prog 12 #[.int .i64 n,v1,v2] w (Dt n xs v1 w)):=⟨λ q1 q2=>Played_any n v1 v2 xs len d g i nn y u m w hF h1 hl hM h2 q1 hy hA q2⟩
 have hv1:∃ a l c,v1=.slice a l c:=by obtain⟨a,c,h,-⟩:=h1;exact ⟨_,_,_,h⟩
 have hv2:∃ a l c,v2=.slice a l c:=by obtain⟨a,c,h,-⟩:=h2;exact ⟨_,_,_,h⟩
 obtain⟨a1,l1,c1,rfl⟩:=hv1
 obtain⟨a2,l2,c2,rfl⟩:=hv2
 have HB5:=sE hb3
 obtain⟨a5,c5,rfl,-⟩:=hb3
 clear hF h1 h2 hM hy hA hl hl2
 by_cases hs5:ns<=40
 case neg=>
  have p5:decide ((40:Int)<(ns:Int))=true:=dT (by omega)
  clear hs5
  go_enter func7,ntmps7
  go_wp2_with fail
  refine HH.out.mono ?_
  rintro e w2 ⟨t,rfl,rfl,ht⟩
  clear ht
  cases t
  all_goals
   go_wp2_with fail
   refine(HAlive.out _ (Kr _ _)).mono ?_
   rintro e w3 ⟨rfl,k3⟩
   go_wp2
   go_ret
   exact⟨rfl,k3⟩
 case pos=>
 go_enter func7,ntmps7
 go_wp2_with fail
 refine HH.out.mono ?_
 rintro e w2 ⟨t,rfl,rfl,ht⟩
 cases t with
 |true=>
  clear ht
  go_wp2_with fail
  refine(HAlive.out _ (Kr _ _)).mono ?_
  rintro e w3 ⟨rfl,k3⟩
  go_wp2
  go_ret
  exact⟨rfl,k3⟩
 |false=>
  obtain⟨-,-,q1,q2⟩:=ht rfl
  have HPp:=sE (HPl.out q1 q2)
  clear q1 q2 ht HPl
  go_wp2_with fail
  refine HPp.out.mono ?_
  rintro e w3 (⟨rfl,k3⟩|⟨P,rb,q,W,cs,rfl,hBt,hPn,hPs,h16⟩)
  .have HK3:=sE k3
   clear k3
   go_wp2_with fail
   refine(HAlive.out _ HK3.out).mono ?_
   rintro e w4 ⟨rfl,k4⟩
   go_wp2
   go_ret
   exact⟨rfl,HK3.out.then' k4⟩
  .obtain ⟨f,hsp,hcs,hst⟩:=hBt.sp
   have HK3:Sl (Kp Ag _ w3):=⟨hBt.kb.new'⟩
   have hcn:cs≠[]:=λ e=>by
    have:=hcs.tl
    rw[e] at this
    have h0:0=P.n/2:=this
    omega
   have hmks:∀ x∈P.ts,x.m<18446744073709551616:=hBt.ms
   have HRt:Sl (∀ W' v n ys,Kp Ag w3 W'->n<=65536->BytesIn W' v n ys->Calls prog 13 #[.pointer (some ⟨P.s,0,none⟩),v] W' λ e w'=>∃ a c,e=.returned (.slice a (Bo (Az cs) ys n).length c)/\w'.ownsRow W'.heap.size 3 1 (.slice a (Bo (Az cs) ys n).length c) (Bo (Az cs) ys n).length (AL (Bo (Az cs) ys n))/\Kp Ag W' w'):=⟨λ W' v n ys kk hn hv=>Roots20_at P cs W' ⟨W,f,hsp.Am kk,hcs,hst⟩ hcn v n ys hn hv⟩
   have HOf:Sl (∀ W' v rs,Kp Ag w3 W'->DU W' v rs->(∀ g∈rs,BJ cs g)->rs.length<=65536->Calls prog 40 #[.pointer (some ⟨P.s,0,none⟩),.int .i64 100,v] W' (MarkOfPost (Dn f (P.n/2) P.ts W cs) (BJ cs) rs 100 (P.n/2) W')):=⟨λ W' v rs kk hx ho hl=>MarkOf_at P W f 100 W' cs (hsp.Am kk) hcs hst hmks (by omega) (by omega) v rs hx ho hl⟩
   have HFar:Sl (∀ W' v xs,Kp Ag w3 W'->IntsIn W' v xs->xs.length<=65536->Calls prog 41 #[.pointer (some ⟨P.s,0,none⟩),v] W' (WFarPost (AX P.ts W cs) (BJ cs) xs (P.n/2) W')):=⟨λ W' v xs kk hx hl=>WFar_at P W f W' cs (hsp.Am kk) hcs hst hmks v xs hx hl⟩
   have HWay:Sl (∀ W' v xs (i:Int),Kp Ag w3 W'->IntsIn W' v xs->xs.length<=65536->Calls prog 44 #[.pointer (some ⟨P.s,0,none⟩),.int .i64 i,v] W' (WWayPost (AX P.ts W cs) (BJ cs) xs i W')):=⟨λ W' v xs i kk hx hl=>WWay_at P W f W' cs (hsp.Am kk) hcs hst hmks i v xs hx hl⟩
   have HEd:Sl (∀ W',Kp Ag w3 W'->_):=⟨λ W' kk=>Edges_at P W f cs W' (hsp.Am kk) hcs hmks⟩
   have HObj:Sl (∀ W',Kp Ag w3 W'->_):=⟨λ W' kk=>Objects_at P cs W' ⟨W,f,hsp.Am kk,hcs,hst⟩ hcn⟩
   have hH65:P.n/2<=65536:=hsp.bt.EB
   have HLt:Sl (∀ g,BJ cs g->g<P.n/2):=⟨λ g h=>Cs hcs h⟩
   have HEl:Sl ((AX P.ts W cs).length<=2147483648/\∀ x∈AX P.ts W cs,BJ cs x.1/\BJ cs x.2.2):=⟨Nat.le_trans (Du cs _) (hcs.to.refs_len hsp.ar.small),λ x hx=>⟨(DK hcs hst hx).1,(DK hcs hst hx).2.1⟩⟩
   have HRe:Sl (∀ rs:List Nat,(∀ g∈rs,BJ cs g)->∀ g,MReach (Dn f (P.n/2) P.ts W cs) (λ g=>g∈rs) g ↔ Bz (AX P.ts W cs) rs g):=⟨λ rs hr g=>reach_marks hcs hst hr g⟩
   have HOm:Sl (∀ c∈Az cs,BJ cs c.g):=⟨λ c hc=>⟨c,(Cg.1 hc).1,(Cg.1 hc).2,rfl⟩⟩
   have HOlen:Sl ((Az cs).length<=65536):=⟨by
    have h1:(Az cs).length<=cs.length:=List.length_filter_le _ _
    have h2:=BR hcs.tl
    omega⟩
   have hnq:n.tdiv 2=((P.n/2:Nat):Int):=by rw[<- hPn];rfl
   obtain⟨H,hH⟩:∃ H,P.n/2=H:=⟨_,rfl⟩
   obtain⟨KF,hKF⟩:∃ KF,Dn f (P.n/2) P.ts W cs=KF:=⟨_,rfl⟩
   obtain⟨es,hes⟩:∃ es,AX P.ts W cs=es:=⟨_,rfl⟩
   rw[hKF] at HOf HRe
   rw[hes] at HFar HWay HEd HEl HRe
   rw[hH] at HOf HFar hH65 HLt hnq
   have hPn2:Sl ((P.n:Int)=n):=⟨hPn⟩
   clear hsp hcs hst hcn hmks hBt hPn hPs h16 HPp HH hKF hes hH
   go_wp2_with fail
   refine(HRt.out w3 _ ns ys (Kr _ _) (by omega) (HB5.out.Am HK3.out)).mono ?_
   rintro e w4 ⟨ra,rc,rfl,hrow,k4⟩
   have K4:Sl (Kp Ag w3 w4):=⟨k4⟩
   have hRo:∀ g∈Bo (Az cs) ys ns,BJ cs g:=roots_obj
   have hRl:(Bo (Az cs) ys ns).length<=40:=by have:=rootsOf_len (Az cs) ys ns;omega
   obtain⟨rs,hrs⟩:∃ rs,Bo (Az cs) ys ns=rs:=⟨_,rfl⟩
   rw[hrs] at hrow hRo hRl ⊢
   obtain⟨rl,hrl⟩:∃ rl,rs.length=rl:=⟨_,rfl⟩
   have HR4:Sl (w4.ownsRow w3.heap.size 3 1 (.slice ra rl rc) rl (AL rs)):=⟨by rw[<- hrl];exact hrow⟩
   have HRL:Sl (rs.length=rl):=⟨hrl⟩
   have HRO:Sl (∀ g∈rs,BJ cs g):=⟨hRo⟩
   have HRI:Sl (∀ W',Kp Ag w4 W'->IntsIn W' (.slice ra rl rc) (rs.map λ g:Nat=>(g:Int))):=⟨λ W' kk=>(ints_of_natrow (base:=w3.heap.size) (by rw[HRL.out];exact HR4.out) (λ g hg=>by have:=HLt.out g (HRO.out g hg);omega)).Am kk⟩
   have HRN:Sl (∀ W',Kp Ag w4 W'->DU W' (.slice ra rl rc) rs):=⟨λ W' kk=>(DU.BG HR4.out).Am kk⟩
   rw[hrl] at hRl ⊢
   clear hrow k4 hRo hrl hrs HRt
   go_wp2_with fail
   refine(HOf.out w4 _ rs K4.out (HRN.out w4 (Kr _ _)) HRO.out (by rw[HRL.out];omega)).mono ?_
   rintro e w5 ⟨mp,mq,fm,n1,dp,ag,rfl,hb5,hn5,-,-,hr5,-,-,-,k5⟩
   obtain⟨w6,hw6⟩:∃ w6,w6=w5.alloc (.cells #[.int .i64 (n1:Nat),.int .i64 (dp:Nat),.int .i64 (ag:Nat)] 90):=⟨_,rfl⟩
   have k6:Kp Ag w5 w6:=by rw[hw6];exact (Kr _ w5).alloc _
   have b6:w6.heap[w5.heap.size]?=some (.cells #[.int .i64 (n1:Nat),.int .i64 (dp:Nat),.int .i64 (ag:Nat)] 90 (0,0)):=by rw[hw6];exact wN w5 _
   have K46:Sl (Kp Ag w4 w6):=⟨k5.then' k6⟩
   have HB6:Sl (AP w6 mp mq fm H):=⟨hb5.keep k6 (λ h=>h) (λ h=>h)⟩
   have HFm:Sl (∀ g,fm g=true ↔ Bz es rs g):=⟨λ g=>(hr5 g).trans (HRe.out rs HRO.out g)⟩
   have HM6:=sE b6
   have HN1:Sl (n1=(setL fm H).length):=⟨by rw[hn5,setL_count]⟩
   obtain⟨mb,hmb⟩:∃ b,w5.heap.size=b:=⟨_,rfl⟩
   rw[hmb] at HM6
   clear hb5 hn5 hr5 k5 k6 b6 HOf HRe
   go_wp2_with fail
   try rw[<- hw6]
   try rw[hmb]
   clear hw6 hmb
   refine(HFar.out w6 _ _ (K4.out.then' K46.out) (HRI.out w6 K46.out) (by rw[List.length_map,HRL.out];omega)).mono ?_
   rintro e w7 ⟨(⟨ms,hms,-,v7,D,rfl,hD,hrow7⟩|⟨hno,-⟩),k7⟩
   case inr=>exact absurd ⟨rs,rfl,HRO.out⟩ hno
   obtain rfl:=map_cast_inj hms
   have HDr:Sl (∀ g,(D g).isSome=true ↔ fm g=true):=⟨λ g=>hD.reach.trans (HFm.out g).symm⟩
   have HD:=sE hD
   have HR7:=sE hrow7
   have K47:Sl (Kp Ag w4 w7):=⟨K46.out.then' k7⟩
   have HB7:Sl (AP w7 mp mq fm H):=⟨HB6.out.keep k7 (λ h=>h) (λ h=>h)⟩
   have hn1:n1=(dLq D H).length:=by
    rw[HN1.out]
    unfold dLq
    rw[List.length_map]
    congr 1
    refine setL_congr λ i _=>?_
    have:=HDr.out i
    cases h1:fm i <;> cases h2:(D i).isSome <;> simp_all
   obtain⟨DL,hDL⟩:∃ DL,(dLq D H).length=DL:=⟨_,rfl⟩
   rw[hDL] at hn1
   subst hn1
   have HDL:=sE hDL
   obtain⟨va,vc,rfl,-⟩:=id hrow7
   rw[hDL] at HR7 ⊢
   have hDLH:n1<=H:=by
    rw[<- hDL]
    unfold dLq
    rw[List.length_map]
    exact setL_len _ _
   obtain⟨m0,-⟩:=cells3 (k7.at_ HM6.out (λ h=>h))
   obtain⟨w8,hmake,hnum8,k8⟩:=MakeNums w7 H hH65
   obtain⟨db,hdb⟩:∃ b,w7.heap.size=b:=⟨_,rfl⟩
   rw[hdb] at hmake hnum8
   have HNu8:=sE hnum8
   have HK8:=sE k8
   have HDb:Sl (w7.heap.size<=db):=⟨by omega⟩
   clear hD hrow7 k7 hms HN1 HM6 HB6 hnum8 k8 hDL hdb
   go_wp2_with fail
   go_loopw [19] (λ x19 wr=>∃ (i:Nat) (F:Nat->Nat),x19=.int .i64 (i:Nat)/\i<=n1/\NumAt wr db H F/\FarF D H i F/\Kp Ag w7 wr) (λ x19 _=>n1-(intOf x19).toNat)
   case atStart=>exact ⟨0,λ _=>0,rfl,Nat.zero_le _,HNu8.out,⟨λ k hk=>by omega,λ g _=>rfl⟩,HK8.out⟩
   case round=>
    obtain⟨i,F,rfl,hi,hNu,hFF,hkk⟩:=hrel
    have HNu:=sE hNu
    have HFF:=sE hFF
    have HKK:=sE hkk
    by_cases hil:i<n1
    .have hil':(i:Int)<(n1:Int):=by omega
     obtain⟨x,hx⟩:∃ x,(dLq D H)[i]?=some x:=⟨(dLq D H)[i]'(by rw[HDL.out];exact hil),by simp⟩
     obtain⟨hxH,hxs,hx2⟩:=distL_get hH65 hx
     obtain⟨va',vc',hva,hcells⟩:=HR7.out.Am hkk
     obtain⟨vb,hvb,hvb0,x0,x1⟩:=hcells i x hx
     have hvv:va=some ⟨vb,0,none⟩:=by injection hva with h1;rw [h1];exact hvb
     subst hvv
     have hfm:=(HDr.out _).1 hxs
     obtain⟨g,hg⟩:∃ g,x.1.val=g:=⟨_,rfl⟩
     obtain⟨st,hst⟩:∃ st,x.2=st:=⟨_,rfl⟩
     rw[hg] at x0 hxH hfm
     rw[hst] at x1
     have HFn:Sl (FarF D H (i+1) (λ z=>if z=g then st else F z)):=⟨by rw[<- hg,<- hst];exact hFF.step hH65 hx⟩
     have HHas:=sE (Has_in g H mp mq fm wr (HB7.out.keep hkk (λ h=>h) (λ h=>h)) hxH)
     rw[hfm] at HHas
     have p1:decide ((g:Int)<0)=false:=dF (by omega)
     have p2:decide ((H:Int)<=(g:Int))=false:=dF (by omega)
     have p3:decide ((st:Int)<0)=false:=dF (by omega)
     clear hva hcells hvb hx hxs hx2 hfm hg hst hkk hFF hNu
     go_wp2_with fail
     refine HHas.out.mono ?_
     rintro e w9 ⟨rfl,k9⟩
     have HNu9:=sE (HNu.out.Am k9)
     have HK9:=sE (HKK.out.then' k9)
     have x0:=Al k9 x0
     have x1:=Al k9 x1
     obtain⟨d0,d1⟩:=HNu9.out.cell hxH
     have hxH':(g:Int)<(H:Int):=by omega
     clear k9
     go_wp2_with fail
     refine A9 12 (by kernel_rfl) (by kernel_rfl) ?_
     simp only[List.take_succ_cons,List.take_zero,List.drop_succ_cons,List.drop_zero]
     repeat (go_big_quiet_step (fail))
     refine wpQuiet_nil ?_
     intro _ hw'
     obtain⟨nq,hw''⟩:=hw'
     subst hw''
     go_wp2
     have hst9:=(HNu9.out.Am (Kp.Ap (w:=w9) nq)).store hxH st
     refine⟨⟨i+1,_,by go_num,by omega,hst9,HFn.out,?_⟩,by simp only[intOf];omega⟩
     refine(HK9.out.then' (Kp.Ap nq)).trans (S':=λ b=>b=db) ((Kr (λ b=>b=db) (w9.drewN nq)).setCell (λ _=>rfl) _) (λ b hb h=>?_)
     have:=HDb.out
     omega
    .have hil':¬ (i:Int)<(n1:Int):=by omega
     obtain rfl:i=n1:=by omega
     have HFa:Sl (∀ g,g<H->F g=(D g).getD 0):=⟨λ g hg=>by
      have h1:=hFF
      rw[<- HDL.out] at h1
      exact h1.all hH65 hg⟩
     have HKi:Sl (Kp Ag w3 wr):=⟨K4.out.then' (K47.out.then' hkk)⟩
     have HEd2:=sE (HEd.out wr HKi.out)
     obtain⟨w9,rfl⟩:∃ w9,w9=wr:=⟨_,rfl⟩
     clear hkk hFF hNu HEd
     go_wp2_with fail
     refine HEd2.out.mono ?_
     rintro e w10 ⟨ev,rfl,he,k10⟩
     obtain⟨ea,ec,rfl⟩:=Ba he
     obtain⟨EL,hEL⟩:∃ n,es.length=n:=⟨_,rfl⟩
     have HE10:Sl (ED w10 (.slice ea es.length ec) es):=⟨ED.BG he⟩
     rw[hEL] at HE10 ⊢
     have hEl:=HEl.out.1
     rw[hEL] at hEl
     have HEL:=sE hEL
     have HNu10:=sE (HNu.out.Am k10)
     have K410:Sl (Kp Ag w4 w10):=⟨K47.out.then' (HKK.out.then' k10)⟩
     have HB10:=sE (HB7.out.keep (HKK.out.then' k10) (λ h=>h) (λ h=>h))
     clear he hEL k10
     go_wp2_with fail
     go_loopw [21] (λ x21 wr=>∃ j:Nat,x21=.int .i64 (j:Nat)/\j<=EL/\Kp Ag w10 wr) (λ x21 _=>EL-(intOf x21).toNat)
     case atStart=>exact ⟨0,rfl,Nat.zero_le _,Kr _ _⟩
     case round=>
      obtain⟨j,rfl,hj,hkk⟩:=hrel
      have HKj:=sE hkk
      by_cases hjl:j<EL
      .have hjl':(j:Int)<(EL:Int):=by omega
       obtain⟨x,hx⟩:∃ x,es[j]?=some x:=⟨es[j]'(by rw[HEL.out];exact hjl),by simp⟩
       have hxm:=List.mem_of_getElem? hx
       obtain⟨t1,t2⟩:=HEl.out.2 x hxm
       have hl1:=HLt.out _ t1
       have hl2:=HLt.out _ t2
       obtain⟨ea',ec',hea,hcells⟩:=HE10.out.Am hkk
       obtain⟨eb,heb,heb0,x0,x1,x2⟩:=hcells j x hx
       have hee:ea=some ⟨eb,0,none⟩:=by injection hea with h1;rw [h1];exact heb
       subst hee
       have d1:=((HNu10.out.Am hkk).cell hl1).1
       have d2:=((HNu10.out.Am hkk).cell hl2).1
       have HHas:Sl (∀ W',Kp Ag wr W'->_):=⟨λ W' kk=>Has_in x.1 H mp mq fm W' (HB10.out.keep (hkk.then' kk) (λ h=>h) (λ h=>h)) hl1⟩
       have hl1':(x.1:Int)<(H:Int):=by omega
       have hl2':(x.2.2:Int)<(H:Int):=by omega
       have p1:decide ((x.2.2:Int)<0)=false:=dF (by omega)
       have p2:decide ((H:Int)<=(x.2.2:Int))=false:=dF (by omega)
       have p2n:decide (H<=x.2.2)=false:=dF (by omega)
       have kd:Kp Ag wr wr.drew:=(Kr _ _).drew
       have HXm:=sE hxm
       clear hea hcells heb hx hxm t1 t2 hkk
       obtain⟨f1,hf1⟩:∃ f1,F x.1=f1:=⟨_,rfl⟩
       obtain⟨f2,hf2⟩:∃ f2,F x.2.2=f2:=⟨_,rfl⟩
       rw[hf1] at d1
       rw[hf2] at d2
       cases hfm:fm x.1 with
       |true=>
        rw[hfm] at HHas
        have hb:f2<=f1+1/\f1<65536:=by
         have h1:=(HDr.out x.1).2 hfm
         obtain⟨k,hk⟩:=Option.isSome_iff_exists.1 h1
         obtain⟨m',hm',hle⟩:=HD.out.near HXm.out hk
         have h2:=HFa.out x.1 hl1
         have h3:=HFa.out x.2.2 hl2
         rw[hk,hf1] at h2
         rw[hm',hf2] at h3
         have h4:=distN_lt (H:=H) HD.out (λ g hg=>HLt.out g (HRO.out g hg)) (λ y hy=>HLt.out _ (HEl.out.2 y hy).2) hk
         have e2:f1=k:=h2
         have e3:f2=m':=h3
         omega
        obtain⟨hb1,hb2⟩:=hb
        have wr1:IntKind.i64.wrap ((f1:Int)+1)=(f1:Int)+1:=by rw[IntKind.wrap_i64];omega
        have p3:decide ((f1:Int)+1<(f2:Int))=false:=dF (by omega)
        have p3n:decide (f1+1<f2)=false:=dF (by omega)
        clear hfm hf1 hf2
        go_wp2_with fail
        refine wp_region_held_drew (S:=λ w'=>w'.cell? ⟨eb,j*3,none⟩=some (.int .i64 (x.1:Nat))/\w'.cell? ⟨eb,j*3+2,none⟩=some (.int .i64 (x.2.2:Nat))/\w'.cell? ⟨db,x.1,none⟩=some (.int .i64 (f1:Nat))/\w'.cell? ⟨db,x.2.2,none⟩=some (.int .i64 (f2:Nat))) (by kernel_rfl) ?_ (λ qZ=>?_)
        .exact ⟨x0,x2,d1,d2⟩
        refine AB 0 ?_;refine AB 1 ?_;refine AB 2 ?_;refine AB 3 ?_;refine AB 4 ?_;refine AB 5 ?_;refine AB 6 ?_;refine AB 7 ?_;refine AB 8 ?_;refine AB 9 ?_;refine AB 10 ?_;refine AB 11 ?_;refine AB 12 ?_
        try simp only[AJ]
        refine AB 13 ?_;refine AB 14 ?_;refine AB 15 ?_;refine AB 16 ?_;refine AB 17 ?_;refine AB 18 ?_;refine AB 19 ?_;refine AB 20 ?_;refine AB 21 ?_;refine AB 22 ?_
        try simp only[AJ]
        refine Bj [23] ?_
        refine Ao rfl (λ K hK=>?_)
        go_simp
        go_at_call 42
        (with_reducible refine(HHas.out _ kd).mono ?_)
        rintro e w11 ⟨rfl,k11⟩
        have K11:Kp Ag wr w11:=kd.then' k11
        refine hK _ _ ?_ (λ qZ=>?_)
        .exact ⟨Al K11 x0,Al K11 x2,Al K11 d1,Al K11 d2⟩
        clear hK K
        try simp only[AJ]
        refine AB 24 ?_;refine AB 25 ?_;refine AB 26 ?_;refine AB 27 ?_;refine AB 28 ?_;refine AB 29 ?_;refine AB 30 ?_;refine AB 31 ?_;refine AB 32 ?_;refine AB 33 ?_;refine AB 34 ?_
        try simp only[AJ]
        refine AB 35 ?_;refine AB 36 ?_;refine AB 37 ?_;refine AB 38 ?_;refine AB 39 ?_;refine AB 40 ?_;refine AB 41 ?_;refine AB 42 ?_;refine AB 43 ?_;refine AB 44 ?_
        try simp only[AJ]
        refine wpAnyH_done (by kernel_rfl) ?_ _
        have HK11:=sE (HKj.out.then' K11)
        clear k11 K11 x0 x1 x2 d1 d2 qZ kd
        go_wp2
        exact⟨⟨j+1,by go_num,by omega,HK11.out⟩,by simp only[intOf];omega⟩
       |false=>
        rw[hfm] at HHas
        clear hfm hf1 hf2
        go_wp2_with fail
        refine wp_region_held_drew (S:=λ w'=>w'.cell? ⟨eb,j*3,none⟩=some (.int .i64 (x.1:Nat))/\w'.cell? ⟨eb,j*3+2,none⟩=some (.int .i64 (x.2.2:Nat))) (by kernel_rfl) ?_ (λ qZ=>?_)
        .exact ⟨x0,x2⟩
        refine AB 0 ?_;refine AB 1 ?_;refine AB 2 ?_;refine AB 3 ?_;refine AB 4 ?_;refine AB 5 ?_;refine AB 6 ?_;refine AB 7 ?_;refine AB 8 ?_;refine AB 9 ?_;refine AB 10 ?_;refine AB 11 ?_;refine AB 12 ?_
        try simp only[AJ]
        refine AB 13 ?_;refine AB 14 ?_;refine AB 15 ?_;refine AB 16 ?_;refine AB 17 ?_;refine AB 18 ?_;refine AB 19 ?_;refine AB 20 ?_;refine AB 21 ?_;refine AB 22 ?_
        try simp only[AJ]
        refine Bj [23] ?_
        refine Ao rfl (λ K hK=>?_)
        go_simp
        go_at_call 42
        (with_reducible refine(HHas.out _ kd).mono ?_)
        rintro e w11 ⟨rfl,k11⟩
        have K11:Kp Ag wr w11:=kd.then' k11
        refine hK _ _ ?_ (λ qZ=>?_)
        .exact ⟨Al K11 x0,Al K11 x2⟩
        clear hK K
        try simp only[AJ]
        refine AB 24 ?_
        try simp only[AJ]
        refine sk 25 rfl ?_
        refine sk 26 rfl ?_
        refine sk 27 rfl ?_
        refine sk 28 rfl ?_
        refine sk 29 rfl ?_
        refine sk 30 rfl ?_
        refine sk 31 rfl ?_
        refine sk 32 rfl ?_
        refine sk 33 rfl ?_
        refine sk 34 rfl ?_
        refine sk 35 rfl ?_
        refine sk 36 rfl ?_
        refine sk 37 rfl ?_
        refine sk 38 rfl ?_
        refine sk 39 rfl ?_
        refine sk 40 rfl ?_
        refine sk 41 rfl ?_
        refine sk 42 rfl ?_
        try simp only[AJ]
        refine AB 43 ?_;refine AB 44 ?_
        try simp only[AJ]
        refine wpAnyH_done (by kernel_rfl) ?_ _
        have HK11:=sE (HKj.out.then' K11)
        clear k11 K11 x0 x1 x2 d1 d2 qZ kd
        go_wp2
        exact⟨⟨j+1,by go_num,by omega,HK11.out⟩,by simp only[intOf];omega⟩
      .have hjl':¬ (j:Int)<(EL:Int):=by omega
       obtain rfl:j=EL:=by omega
       have HOb:=sE (HObj.out wr (K4.out.then' (K410.out.then' hkk)))
       obtain⟨w11,rfl⟩:∃ w11,w11=wr:=⟨_,rfl⟩
       clear hkk HObj
       go_wp2_with fail
       refine HOb.out.mono ?_
       rintro e w12 ⟨oa,oc,rfl,hrow,k12⟩
       obtain⟨OL,hOL⟩:∃ n,(Az cs).length=n:=⟨_,rfl⟩
       rw[hOL] at hrow ⊢
       have hOl:OL<=65536:=by have:=HOlen.out;omega
       have HO12:=sE hrow
       have HOL:=sE hOL
       have HNu12:=sE (HNu10.out.Am (HKj.out.then' k12))
       have HB12:=sE (HB10.out.keep (HKj.out.then' k12) (λ h=>h) (λ h=>h))
       have HE12:=sE (HE10.out.Am (HKj.out.then' k12))
       have K412:Sl (Kp Ag w4 w12):=⟨K410.out.then' (HKj.out.then' k12)⟩
       clear hrow k12 hOL
       go_wp2_with fail
       go_loopw [23] (λ x23 wr=>∃ i:Nat,x23=.int .i64 (i:Nat)/\i<=OL/\Kp Ag w12 wr) (λ x23 _=>OL-(intOf x23).toNat)
       case atStart=>exact ⟨0,rfl,Nat.zero_le _,Kr _ _⟩
       case round=>
        obtain⟨i,rfl,hi,hkk⟩:=hrel
        have HKo:=sE hkk
        by_cases hil:i<OL
        .have hil':(i:Int)<(OL:Int):=by omega
         obtain⟨c,hc⟩:∃ c,(Az cs)[i]?=some c:=⟨(Az cs)[i]'(by rw[HOL.out];exact hil),by simp⟩
         have hco:=HOm.out c (List.mem_of_getElem? hc)
         have hcl:=HLt.out _ hco
         obtain⟨oa',oc',hoa,hcells⟩:=HO12.out.Am hkk
         obtain⟨ob,hob,hob0,c0,-⟩:=hcells i c hc
         have hoo:oa=some ⟨ob,0,none⟩:=by injection hoa with h1;rw [h1];exact hob
         subst hoo
         obtain⟨g,hg⟩:∃ g,c.g=g:=⟨_,rfl⟩
         rw[hg] at c0 hco hcl
         have HGo:=sE hco
         have HWy:=sE (HWay.out wr _ _ (g:Nat) (K4.out.then' (K412.out.then' hkk)) (HRI.out wr (K412.out.then' hkk)) (by rw[List.length_map,HRL.out];omega))
         clear hoa hcells hob hc hkk hco hg
         go_wp2_with fail
         refine HWy.out.mono ?_
         rintro e w13 ⟨hWy,k13⟩
         have hWy2:(∃ (k:Nat) (v:Value),D g=some k/\e=.returned (.tuple #[v,.int .i64 0])/\ED w13 v (E5 es D k g))\/(D g=none/\e=.returned (.tuple #[.slice none 0 0,.int .i64 3])):=by
          rcases hWy with ⟨ms',D',hr,hd,g',hg',-,hc⟩|⟨hno|hno,-⟩
          .obtain rfl:=map_cast_inj hr.1
           obtain rfl:=hd.uniq HD.out
           obtain rfl:g=g':=by omega
           exact hc
          .exact absurd ⟨ms,rfl,HRO.out⟩ hno
          .exact absurd ⟨g,rfl,HGo.out⟩ hno
         have HK13:=sE (HKo.out.then' k13)
         have HHas:=sE (Has_in g H mp mq fm w13 (HB12.out.keep (HKo.out.then' k13) (λ h=>h) (λ h=>h)) hcl)
         clear hWy HWy
         rcases hWy2 with ⟨k,v,hk,rfl,hrw⟩|⟨hno,rfl⟩
         .obtain ⟨ya,yc,rfl,-⟩:=id hrw
          have hfm:fm g=true:=(HDr.out g).1 (by rw[hk];rfl)
          rw[hfm] at HHas
          obtain⟨hwl,hwok⟩:=wayL_ok HD.out k g hk
          have hFk:F g=k:=by
           have:=HFa.out g hcl
           rw[hk] at this
           exact this
          have hk64:k<H:=distN_lt HD.out (λ g hg=>HLt.out g (HRO.out g hg)) (λ y hy=>HLt.out _ (HEl.out.2 y hy).2) hk
          rw[hwl] at hrw ⊢
          have HRw:=sE hrw
          have HWok:=sE (And.intro hwl hwok)
          clear hk hrw hfm hwl hwok
          go_wp2_with fail
          refine HHas.out.mono ?_
          rintro e w14 ⟨rfl,k14⟩
          have d1:=((HNu12.out.Am (HK13.out.then' k14)).cell hcl).1
          rw[hFk] at d1
          have HK14:=sE (HK13.out.then' k14)
          have HLd:=sE (Leads40_at w14 _ _ _ es (E5 es D k g) ms g (HE12.out.Am (HK13.out.then' k14)) (HRw.out.Am k14) (HRN.out w14 (K412.out.then' (HK13.out.then' k14))) HWok.out.2 HEl.out.1 (by rw[HWok.out.1];omega) (by rw[HRL.out];omega))
          have hcl':(g:Int)<(H:Int):=by omega
          clear k14 hFk
          go_wp2_with fail
          refine HLd.out.mono ?_
          rintro e w15 ⟨rfl,k15⟩
          have HK15:=sE (HK14.out.then' k15)
          clear k15
          go_wp2
          exact⟨⟨i+1,by go_num,by omega,HK15.out⟩,by simp only[intOf];omega⟩
         .have hfm:fm g=false:=by
           cases h:fm g with
           |false=>rfl
           |true=>
            have:=(HDr.out g).2 h
            rw[hno] at this
            cases this
          rw[hfm] at HHas
          clear hno hfm k13
          go_wp2_with fail
          refine HHas.out.mono ?_
          rintro e w14 ⟨rfl,k14⟩
          have HK14:=sE (HK13.out.then' k14)
          clear k14
          go_wp2
          exact⟨⟨i+1,by go_num,by omega,HK14.out⟩,by simp only[intOf];omega⟩
        .have hil':¬ (i:Int)<(OL:Int):=by omega
         have HKa:Sl (Kp Ag w2 wr):=⟨HK3.out.then' (K4.out.then' (K412.out.then' hkk))⟩
         clear hkk
         go_wp2_with fail
         refine(HAlive.out _ HKa.out).mono ?_
         rintro e w13 ⟨rfl,k13⟩
         go_wp2
         go_ret
         exact⟨rfl,HKa.out.then' k13⟩

end Go.Proofs.YtpeipocojmjbfaaGreatDoor
