/-
  Lemmas for the laws, together: TellsD.
-/
import Derived.Test.YtmfajopmppfldaaGreatDoorQbu
import Derived.Test.YtmfajopmppfldaaGreatDoorQbp
import Derived.Test.YtmfajopmppfldaaGreatDoorQaq
import Derived.Test.YtmfajopmppfldaaGreatDoorQbg
import Derived.Deep.DeepCutAuto
import Derived.Deep.CutBlock
set_option linter.unusedVariables false
set_option maxHeartbeats 16000000
namespace Go.Proofs.YtmfajopmppfldaaGreatDoor
open Go.Proofs.Tryz
section
open Go.RowKit

theorem ownsN_take{w:World}{base T n c k:Nat}{a:Option Addr}{L:List Nat}(h:w.ownsRow base T 1 (.slice a n c) n (AB L))(hk:k<=n):w.ownsRow base T 1 (.slice a k c) k (AB (L.take k)):=by
 have hl:=h.1
 rcases h.2 with ⟨e,h0⟩|⟨g,cap,cur,e,g2,g3,g4,g5,g6,g7⟩
 .injection e with e1 e2 e3
  subst e1 e2 e3
  obtain rfl:k=0:=by omega
  exact⟨by simp[AB],.inl ⟨rfl,by simp⟩⟩
 .injection e with e1 e2 e3
  subst e1 e3
  have hL:L.length=n:=by simpa [AB] using hl
  refine⟨by simp[AB];omega,.inr ⟨g,c,cur,rfl,g2,g3,by omega,g5,g6,?_⟩⟩
  have e4:AB (L.take k)=(AB L).take (k*1):=by unfold AB;rw [List.map_take,Nat.mul_one]
  rw[e4,<- g7,List.take_take,Nat.min_eq_left (by omega)]

theorem Bw.keepO{S:Nat->Prop}{w w':World}{v:Value}{xs:List Nat}(h:Bw w v xs)(k:Kp S w w')(hS:∀ b,v.ownBlock=some b->¬ S b):Bw w' v xs:=by
 obtain⟨a,c,rfl,h⟩:=h
 refine⟨a,c,rfl,λ i x hx=>?_⟩
 obtain⟨b,o,rfl,hc⟩:=h i x hx
 exact⟨b,o,rfl,k.cell hc (hS b rfl)⟩

theorem ownsN_cap{w:World}{base T z:Nat}{a:Option Addr}{n c m:Nat}{xs:List Value}(h:w.ownsRow base T z (.slice a n c) m xs):m<=c:=by
 rcases h.2 with ⟨e,h0⟩|⟨g,cap,cur,e,g2,g3,g4,-⟩
 .omega
 .injection e with e1 e2 e3
  omega

theorem nats_one(w:World)(x:Nat)(T:TypeId):Bw (w.alloc (.cells #[.int .i64 (x:Nat)] T)) (.slice (some ⟨w.heap.size,0,none⟩) 1 1) [x]:=
 ⟨_,_,rfl,λ i y h=>by
  obtain rfl:i=0:=by have:=(gE.1 h).1;simpa using this
  obtain rfl:x=y:=by simpa using h
  exact⟨_,_,rfl,cell_of_one (wN w _)⟩⟩

def D24Post(P:Sp)(W:Nat->Nat)(cs:List Cel)(es:List (Nat×Nat×Nat))(rb:Nat)(lv:Value)(w:World)(e:Ending)(w':World):Prop:=
 e=.returned (.int .i64 (Bl es:Nat))/\Kp (λ k=>k=rb) w w'/\∃ q',DocAt w' rb q' P.n (AU (AX es W) 0 (Dm cs es) (P.n/2)) lv

set_option maxRecDepth 20000 in
theorem D24Do_at(P:Sp)(W:Nat->Nat)(cs:List Cel)(es:List (Nat×Nat×Nat))(rb q:Nat)(lv v:Value)(w:World)(hc:CellsAt P W cs)(hd:DocAt w rb q P.n W lv)(hv:∀ w',Kp (λ k=>k=rb\/w.heap.size<=k) w w'->AO w' lv P.ts)(hl:P.ts.length<=17592186044416)(hM:Cg P.ts)(h:Du w v es)(hg:GoodP cs es)(hel:es.length<=1000)(h0:0<P.n):
  Calls prog 74 #[.pointer (some ⟨rb,0,none⟩),.agg #[v]] w (D24Post P W cs es rb lv w):=by
 have HRo:=sE h
 have HGp:=sE hg
 have HCs:=sE hc
 have HDc:=sE hd
 have HTy:=sE hv
 have HMs:=sE hM
 have HTl:=sE hc.tl
 have hsm:=hd.row.small
 obtain⟨va,vc,rfl,-⟩:=h
 obtain⟨n,hn⟩:∃ n,es.length=n:=⟨_,rfl⟩
 rw[hn] at HRo hel ⊢
 have HN:=sE hn
 obtain⟨capr,d0,d1⟩:=hd.head
 have lrb:=hd.lt
 have lq:=hd.row.lt
 have hrbq:=hd.ne
 obtain⟨B,hB⟩:∃ B,w.heap.size=B:=⟨_,rfl⟩
 obtain⟨w1,hw1⟩:∃ w1,w1=w.alloc (.cells #[.slice va n vc] 33):=⟨_,rfl⟩
 have k1:Kp Ab w w1:=by rw[hw1];exact (Kr _ w).alloc _
 have b1:w1.heap[B]?=some (.cells #[.slice va n vc] 33 (0,0)):=by rw[hw1,<- hB];exact wN w _
 have HRw:=sE (hd.row.Ad k1)
 have HB1:=sE b1
 have HK1:=sE k1
 have c0:=k1.cell d0 (λ h=>h)
 have lrb1:rb<w1.heap.size:=Nat.lt_of_lt_of_le lrb k1.size
 rw[hB] at lrb lq
 have HLt:Sl (rb<B/\q<B):=⟨⟨lrb,lq⟩⟩
 have HD0:=sE d0
 clear hn hg k1 b1 hc hd hv hM d0 d1 lrb lq
 go_enter func74,ntmps74
 go_upto_region 2 with fail
 rw[<- hw1]
 clear hw1
 try rw[hB]
 go_wp2_with (at_builtin;go_loud (refine Ed rfl (.tmp 16) rfl q P.n capr W rfl HRw.out h0 ?_);intro w2 q2 cap2 hr2 hq2 k2)
 have HR2:=sE hr2
 have HK2:Sl (Kp Ab w w2):=⟨HK1.out.then' k2⟩
 have HB2:=sE (k2.at_ HB1.out (λ h=>h))
 have hq2':B<q2:=by have:=lZ HB1.out;omega
 have lq2:=hr2.lt
 obtain⟨D,hD⟩:∃ D,w2.heap.size=D:=⟨_,rfl⟩
 have HD:=sE hD
 rw[hD] at lq2
 clear hr2 hq2 k2 c0 lrb1 hD
 go_wp2_with fail
 go_loopw [5,7,8,9,10,11,12] (λ x5 x7 x8 _ _ _ _ wr=>∃ j:Nat,j<=n/\x8=.int .i64 (j:Nat)/\x5=.int .i64 (Bl (es.take j):Nat)/\WRow wr q2 P.n (AX (es.take j) W)/\Sl (wr.ownsRow D 3 1 x7 j (AB (Bn (es.take j))))/\Kp (λ k=>k=q2) w2 wr) (λ _ _ x8 _ _ _ _ _=>n-(intOf x8).toNat)
 case atStart=>exact ⟨0,Nat.zero_le _,rfl,rfl,HR2.out,⟨by rw[show Bn (es.take 0)=[] from by simp[Bn]];exact World.ownsRow_nil _ _ _ _⟩,Kr _ _⟩
 case round=>
  obtain⟨j,hj,rfl,rfl,hwr,HOw,hk⟩:=hrel
  obtain⟨wg,rfl⟩:∃ wg:World,wg=wr:=⟨_,rfl⟩
  have HWr:=sE hwr
  have HK:=sE hk
  have hBq:¬ B=q2:=by omega
  have cB:=cell_of_one (hk.at_ HB2.out hBq)
  by_cases hjl:j<n
  .have hjl':(j:Int)<(n:Int):=by omega
   obtain⟨va',vc',e,hx⟩:=HRo.out
   injection e with e1 e3 e2
   clear e3
   subst e1 e2
   obtain⟨x,hxj⟩:∃ x,es[j]?=some x:=⟨_,List.getElem?_eq_getElem (by rw[HN.out];exact hjl)⟩
   obtain⟨bb,o,rfl,hbb,x0,x1,x2⟩:=hx j x hxj
   have hbq:¬ bb=q2:=by rw[hB] at hbb;omega
   replace x0:=hk.cell (HK2.out.cell x0 (λ h=>h)) hbq
   replace x1:=hk.cell (HK2.out.cell x1 (λ h=>h)) hbq
   replace x2:=hk.cell (HK2.out.cell x2 (λ h=>h)) hbq
   have HX:=sE hxj
   have hft:=HGp.out.fit HTl.out (List.mem_of_getElem? hxj)
   have hmv:=HGp.out.moved HTl.out j
   have hab:∀ k,2*x.1<=k->AX (es.take j) W k=W k:=λ k hk=>HGp.out.above HTl.out hxj W hk
   have hns:=slideW_next hxj W
   have hnm:=movedW_next hxj
   have HIns:Sl (∀ i,(∀ a y,a<i->(Bn (es.take j))[a]?=some y->y<x.2.1)->(∀ y,(Bn (es.take j))[i]?=some y->x.2.1<=y)->(Bn (es.take j)).take i++[x.2.1]++(Bn (es.take j)).drop i=Bn (es.take (j+1))):=⟨λ i h1 h2=>sortT_ins HGp.out HTl.out hxj h1 h2⟩
   have hsl:(Bn (es.take j)).length=j:=by rw[sortT_len,List.length_take,HN.out];omega
   obtain⟨f,t,z⟩:=x
   dsimp only at x0 x1 x2 hft hab hns hnm HIns
   obtain⟨wb,hwb⟩:∃ wb,wb=wg.alloc (.cells #[.int .i64 (f:Nat),.int .i64 (t:Nat),.int .i64 (z:Nat)] 43):=⟨_,rfl⟩
   have kb:Kp Ab wg wb:=by rw[hwb];exact (Kr _ wg).alloc _
   obtain⟨hb,hhb⟩:∃ hb,wg.heap.size=hb:=⟨_,rfl⟩
   have bb0:wb.heap[hb]?=some (.cells #[.int .i64 (f:Nat),.int .i64 (t:Nat),.int .i64 (z:Nat)] 43 (0,0)):=by rw[hwb,<- hhb];exact wN wg _
   have HKb:Sl (Kp (λ k=>k=q2) w2 wb):=⟨hk.trans (kb.Ak _) (λ _ _ h=>h)⟩
   have HBb:=sE bb0
   obtain⟨y0,y1,y2⟩:=cells3 bb0
   have hqh:q2<hb:=by rw[<- hhb];exact HWr.out.lt
   obtain⟨V,hV⟩:∃ V,AX (es.take j) W=V:=⟨_,rfl⟩
   obtain⟨C,hC⟩:∃ C,Bl (es.take j)=C:=⟨_,rfl⟩
   obtain⟨S,hS⟩:∃ S,Bn (es.take j)=S:=⟨_,rfl⟩
   rw[hV] at hab hns hwr
   rw[hC] at hnm hmv ⊢
   rw[hS] at HIns hsl HOw
   have HWb:Sl (WRow wb q2 P.n (BP V (2*t) (2*f) 0)):=⟨by rw[moveW_zero];exact hwr.Ad kb⟩
   have HO0:=sE HOw.out
   have HOb:Sl (wb.ownsRow D 3 1 u7 j (AB S)):=⟨Ai HOw.out kb (λ _ _ h=>h)⟩
   have HAb:Sl (∀ k,2*f<=k->V k=W k):=⟨hab⟩
   have HNs:=sE hns
   have HNm:=sE hnm
   have HSl:=sE hsl
   have HHb:Sl (wg.heap.size=hb):=⟨hhb⟩
   clear hx hxj hbb hk hwr hV hC hS hab hns hnm hsl HWr HOw kb bb0
   go_upto_region 8 with fail
   rw[<- hwb]
   clear hwb x0 x1 x2 cB
   try rw[hhb]
   go_upto_block 2 with fail
   go_cut [5,10] from 30 to 63 (λ x5 _ wx=>x5=.int .i64 (Bl (es.take (j+1)):Nat)/\WRow wx q2 P.n (AX (es.take (j+1)) W)/\Kp (λ k=>k=q2) wb wx)
   case first=>
    obtain⟨Z,hZ⟩:∃ Z,2*z=Z:=⟨_,rfl⟩
    have u1:IntKind.i64.wrap (2*(z:Int))=(Z:Int):=by rw[IntKind.wrap_i64];omega
    have HZ:=sE hZ
    go_wp2_with fail
    go_loopw [5,10] (λ x5 x10 wr=>∃ i:Nat,i<=Z/\x10=.int .i64 (i:Nat)/\x5=.int .i64 (C+i:Nat)/\Sl (t=f->i=0)/\WRow wr q2 P.n (BP V (2*t) (2*f) i)/\Kp (λ k=>k=q2) wb wr) (λ _ x10 _=>Z-(intOf x10).toNat)
    case atStart=>exact ⟨0,Nat.zero_le _,rfl,rfl,⟨λ _=>rfl⟩,HWb.out,Kr _ _⟩
    case round=>
     obtain⟨i,hi,rfl,rfl,HT0,hwi,hki⟩:=hrel
     obtain⟨wi,rfl⟩:∃ wi:World,wi=wr:=⟨_,rfl⟩
     have HWi:=sE hwi
     have HKi:=sE hki
     have hhq:¬ hb=q2:=by omega
     obtain⟨s0,s1,s2⟩:=cells3 (hki.at_ HBb.out hhq)
     by_cases htf:t=f
     .have hi0:=HT0.out htf
      subst hi0
      subst htf
      have p1:((t:Int) !=(t:Int))=false:=by simp
      have d1:(0:Int)<(Z:Int):=by omega
      have HC5:Sl (Bl (es.take (j+1))=C):=⟨by rw[HNm.out,if_pos rfl];rfl⟩
      have HV5:Sl (AX (es.take (j+1)) W=V):=⟨by rw[HNs.out,moveW_same]⟩
      have HW5:Sl (WRow wi q2 P.n V):=⟨by have:=HWi.out;rwa [moveW_zero] at this⟩
      clear hwi hki
      go_wp2_with fail
      go_meet
      exact⟨by rw[HC5.out],by rw[HV5.out];exact HW5.out,HKi.out⟩
     .have p1:((t:Int) !=(f:Int))=true:=by rw[bne_iff_ne];omega
      by_cases hiZ:i<Z
      .have d1:(i:Int)<(Z:Int):=by omega
       obtain⟨A,hA⟩:∃ A,2*t+i=A:=⟨_,rfl⟩
       obtain⟨E,hE⟩:∃ E,2*f+i=E:=⟨_,rfl⟩
       have u2:IntKind.i64.wrap (2*(t:Int))=((2*t:Nat):Int):=by rw[IntKind.wrap_i64];omega
       have u3:IntKind.i64.wrap (((2*t:Nat):Int)+(i:Int))=(A:Int):=by rw[IntKind.wrap_i64];omega
       have u4:IntKind.i64.wrap (2*(f:Int))=((2*f:Nat):Int):=by rw[IntKind.wrap_i64];omega
       have u5:IntKind.i64.wrap (((2*f:Nat):Int)+(i:Int))=(E:Int):=by rw[IntKind.wrap_i64];omega
       have u6:IntKind.i64.wrap (((C+i:Nat):Int)+1)=((C+(i+1):Nat):Int):=by rw[IntKind.wrap_i64];omega
       have HSu:Sl (BM (BP V (2*t) (2*f) i) A (W E)=BP V (2*t) (2*f) (i+1)):=⟨by rw[<- moveW_succ,<- hA,<- hE,HAb.out _ (by omega)]⟩
       have hAn:A<P.n:=by omega
       have hEn:E<P.n:=by omega
       have hAn':(A:Int)<(P.n:Int):=by omega
       have hEn':(E:Int)<(P.n:Int):=by omega
       obtain⟨G1,hG1⟩:∃ G1,2*t=G1:=⟨_,rfl⟩
       obtain⟨G2,hG2⟩:∃ G2,2*f=G2:=⟨_,rfl⟩
       obtain⟨G3,hG3⟩:∃ G3,C+i=G3:=⟨_,rfl⟩
       rw[hG1] at u2 u3 HSu hwi
       rw[hG2] at u4 u5 HSu hwi
       rw[hG3] at u6 ⊢
       have HG:=sE (And.intro hG1 hG2)
       have HG3:=sE hG3
       have Dr:DocAt wi rb q P.n W lv:=((HDc.out.Ad HK2.out).keep HKb.out (by have:=HLt.out;omega) (by have:=HLt.out;omega)).keep hki (by have:=HLt.out;omega) (by have:=HLt.out;omega)
       obtain⟨cr',c0,-⟩:=Dr.head
       have cE:=Dr.row.at_ hEn
       have lr:=Dr.lt
       have cA:=hwi.at_ hAn
       have fA:=hwi.free A
       have lA:=hwi.lt
       have HSt:Sl (WRow (wi.setCell ⟨q2,A,none⟩ (.int .u64 (W E:Nat))) q2 P.n (BP V G1 G2 (i+1))):=⟨by rw[<- HSu.out];exact hwi.store hAn _ (Dr.row.fits E hEn)⟩
       have HKs:Sl (Kp (λ k=>k=q2) wb (wi.setCell ⟨q2,A,none⟩ (.int .u64 (W E:Nat)))):=⟨hki.trans ((Kr (λ k=>k=q2) wi).setCell (p:=⟨q2,A,none⟩) (λ _=>rfl) _) (λ _ _ h=>h)⟩
       clear hwi hki hA hE hG1 hG2 hG3 Dr
       go_wp2_with fail
       go_region
       go_wp2_with fail
       exact⟨⟨i+1,by omega,by go_num,by go_num,⟨λ h=>absurd h htf⟩,by rw[HG.out.1,HG.out.2];exact HSt.out.Ad (Kr Ab _).drew,HKs.out.drew⟩,by simp only[intOf];omega⟩
      .have hiZ':¬ (i:Int)<(Z:Int):=by omega
       obtain rfl:i=Z:=by omega
       have HC5:Sl (Bl (es.take (j+1))=C+i):=⟨by rw[HNm.out,if_neg htf,HZ.out]⟩
       have HV5:Sl (AX (es.take (j+1)) W=BP V (2*t) (2*f) i):=⟨by rw[HNs.out,HZ.out]⟩
       clear hwi hki
       go_wp2_with fail
       go_meet
       exact⟨by rw[HC5.out];go_num,by rw[HV5.out];exact HWi.out,HKi.out⟩
   case rest=>
    obtain⟨rfl,hw5,k5⟩:=hcut
    obtain⟨sa,sc,rfl⟩:=AA HOb.out
    have HW5:=sE hw5
    have HK5:=sE k5
    have HO5:Sl (wc.ownsRow D 3 1 (.slice sa j sc) j (AB S)):=⟨Ai HOb.out k5 (λ b hb h=>by
     have h':b=q2:=h
     have:=(Af HOb.out hb).1
     omega)⟩
    have hhq:¬ hb=q2:=by omega
    have HB5:=sE (k5.at_ HBb.out hhq)
    obtain⟨w5,rfl⟩:∃ w5:World,w5=wc:=⟨_,rfl⟩
    clear hw5 k5 HNs HNm HAb HWb y0 y1 y2
    go_upto_block 4 with fail
    go_cut [11] from 64 to 78 (λ x11 wx=>∃ i:Nat,x11=.int .i64 (i:Nat)/\i<=j/\Sl (∀ a y,a<i->S[a]?=some y->y<t)/\Sl (∀ y,S[i]?=some y->t<=y)/\Kp Ab w5 wx)
    case first=>
     go_wp2_with fail
     go_loopw [11] (λ x11 wr=>∃ i:Nat,i<=j/\x11=.int .i64 (i:Nat)/\Sl (∀ a y,a<i->S[a]?=some y->y<t)/\Kp Ab w5 wr) (λ x11 _=>j-(intOf x11).toNat)
     case atStart=>exact ⟨0,Nat.zero_le _,rfl,⟨λ a y h=>by omega⟩,Kr _ _⟩
     case round=>
      obtain⟨i,hi,rfl,HLs,hki⟩:=hrel
      have HKi:=sE hki
      obtain⟨s0,s1,s2⟩:=cells3 (hki.at_ HB5.out (λ h=>h))
      by_cases hij:i<j
      .have hij':(i:Int)<(j:Int):=by omega
       obtain⟨y,hy⟩:∃ y,S[i]?=some y:=⟨_,List.getElem?_eq_getElem (by rw[HSl.out];exact hij)⟩
       obtain⟨rb0,rfl,cr⟩:=Ce HO5.out hy
       replace cr:=hki.cell cr (λ h=>h)
       have HY:=sE hy
       clear hy hki
       by_cases hyt:y<t
       .have d1:(y:Int)<(t:Int):=by omega
        have HL2:Sl (∀ a y,a<i+1->S[a]?=some y->y<t):=⟨λ a y' ha hy'=>by
         by_cases e:a=i
         .subst e
          have:=HY.out.symm.trans hy'
          injection this with this
          omega
         .exact HLs.out a y' (by omega) hy'⟩
        go_wp2_with fail
        go_quiet (fail)
        go_wp2
        exact⟨⟨i+1,by omega,by go_num,HL2,HKi.out.drewN _⟩,by simp only[intOf];omega⟩
       .have d1:decide ((y:Int)<(t:Int))=false:=dF (by omega)
        have HG2:Sl (∀ y,S[i]?=some y->t<=y):=⟨λ y' hy'=>by
         have:=HY.out.symm.trans hy'
         injection this with this
         omega⟩
        go_wp2_with fail
        go_quiet (fail)
        go_wp2
        go_meet
        exact⟨i,rfl,hi,HLs,HG2,HKi.out.drewN _⟩
      .obtain rfl:i=j:=by omega
       have d1:decide ((i:Int)<(i:Int))=false:=dF (by omega)
       have HG2:Sl (∀ y,S[i]?=some y->t<=y):=⟨λ y' hy'=>by
        have:=(gE.1 hy').1
        have:=HSl.out
        omega⟩
       clear hki
       go_wp2_with fail
       go_quiet (fail)
       go_wp2
       go_meet
       exact⟨i,rfl,hi,HLs,HG2,HKi.out.drewN _⟩
    case rest=>
     obtain⟨i,rfl,hij,HLs,HGe,k6⟩:=hcut
     have HK6:=sE k6
     have HO6:=sE (Ai HO5.out k6 (λ _ _ h=>h))
     have hcap:=ownsN_cap HO6.out
     have hSj:=HIns.out i HLs.out HGe.out
     have HSj:=sE hSj
     obtain⟨y0,y1,y2⟩:=cells3 (k6.at_ HB5.out (λ h=>h))
     obtain⟨w6,rfl⟩:∃ w6:World,w6=wc:=⟨_,rfl⟩
     have p1:(i:Int)<=(j:Int):=by omega
     have p2:(j:Int)<=(sc:Int):=by omega
     have p3:(i:Int)<=(sc:Int):=by omega
     clear k6 hSj y0 y2
     have HTL:Sl ((S.take i).length=i):=⟨by rw[List.length_take,HSl.out];omega⟩
     have HDL:Sl ((S.drop i).length=j-i):=⟨by rw[List.length_drop,HSl.out]⟩
     have HK59:Sl (D<=w5.heap.size):=⟨by
      have h1:=HKb.out.size
      have h2:=HK5.out.size
      have h3:=HD.out
      omega⟩
     have hhb:q2<D/\hb<w5.heap.size:=⟨lq2,lZ HB5.out⟩
     have HD6:Sl (D<=w6.heap.size/\w5.heap.size<=w6.heap.size):=⟨by have:=HK59.out;have:=HK6.out.size;omega⟩
     have HP6:Sl (w6.ownsRow D 3 1 (.slice sa i sc) i (AB (S.take i))):=⟨ownsN_take HO6.out (by omega)⟩
     have HPb:Sl (∀ b,(Value.slice sa i sc).ownBlock=some b->D<=b/\b<w6.heap.size/\¬ b=hb):=⟨λ b h=>by
      have h':(Value.slice sa j sc).ownBlock=some b:=by cases sa with|none=>simp [Value.ownBlock] at h|some x=>simpa [Value.ownBlock] using h
      have h1:=Af HO6.out h'
      have h2:=Af HO0.out h'
      have h3:=HHb.out
      omega⟩
     have HND:Sl (∀ ta ca,(∀ gb,sa=some ⟨gb,0,none⟩->i<j->ta=some ⟨gb,i,none⟩)->Bw w6 (.slice ta (j-i) ca) (S.drop i)):=⟨λ ta ca hta=>⟨_,_,by rw[HDL.out],λ k y hy=>by
      rw[List.getElem?_drop] at hy
      obtain⟨b,e,hc⟩:=Ce HO6.out hy
      have:=(gE.1 hy).1
      rw[HSl.out] at this
      exact⟨_,_,hta b e (by omega),hc⟩⟩⟩
     have HN0:Sl (∀ ta ca,i=j->Bw w6 (.slice ta 0 ca) (S.drop i)):=⟨λ ta ca e=>by
      have h:=HDL.out
      rw[List.eq_nil_of_length_eq_zero (show (S.drop i).length=0 by omega)]
      exact⟨_,_,rfl,λ k y hy=>by simp at hy⟩⟩
     have hcase:(∃ gb,sa=some ⟨gb,0,none⟩/\i=sc)\/(∃ gb,sa=some ⟨gb,0,none⟩/\¬ sc=i)\/(sa=none/\i=sc):=by
      rcases HO6.out.2 with ⟨e,h0⟩|⟨gb,cap,cur,e,-⟩
      .injection e with e1 e2 e3
       exact .inr (.inr ⟨e1,by omega⟩)
      .injection e with e1
       by_cases h:sc=i
       .exact .inl ⟨gb,e1,h.symm⟩
       .exact .inr (.inl ⟨gb,e1,h⟩)
     rcases hcase with ⟨gb,rfl,rfl⟩|⟨gb,rfl,hci⟩|⟨rfl,rfl⟩
     all_goals
      go_upto_region 17 with (at_builtin;obtain ⟨i0,hi,hz0,hz1,hz2⟩:=info_parts Cv;go_loud (refine Dy _ rfl (.const (.slice none 0 0)) (.tmp 81) 82 rfl 3 i0 AP hi hz0 hz1 hz2 w6.heap.size (.slice none 0 0) 0 [] rfl (World.ownsRow_nil _ _ _ _) _ (S.drop i) rfl (by first|exact HND.out _ _ (by intro b e h;first|(cases e;rfl)|(exfalso;omega))|exact HN0.out _ _ (by omega)) (by rw[HDL.out];omega) (Nat.le_refl _) ?_);intro v7 w7 hown7 hgrow7;clear hi hz0 hz1 hz2)
      rw[Nat.zero_add,List.nil_append,HDL.out] at hown7
      obtain⟨ra,rc,rfl⟩:=AA hown7
      have HN7:Sl (Bw w7 (.slice ra (j-i) rc) (S.drop i)):=⟨Bw.Br hown7⟩
      have K7:Kp Ab w6 w7:=(Kr Ab w6).grown hgrow7 (λ k e _=>by cases e)
      have HB7:Sl (∀ b,(Value.slice ra (j-i) rc).ownBlock=some b->w6.heap.size<=b/\b<w7.heap.size):=⟨λ b h=>Af hown7 h⟩
      have HP7:=sE (Ai HP6.out K7 (λ _ _ h=>h))
      have HK7:=sE K7
      replace y1:=K7.cell y1 (λ h=>h)
      clear hown7 hgrow7 K7
      refine wp_region_held_drew (S:=λ w'=>w'.cell? ⟨hb,1,none⟩=some (.int .i64 (t:Nat))) (by kernel_rfl) ?_ (λ qZ=>?_)
      .exact y1
      refine Ao 0 ?_;refine Ao 1 ?_;refine Ao 2 ?_;refine Ao 3 ?_;refine Ao 4 ?_
      try simp only[Ar]
      refine AQ [5] ?_
      refine Ag rfl (λ K hK=>?_)
      go_simp
      obtain⟨w8,hw8⟩:∃ w8,w8=(w7.alloc (.cells #[.int .i64 (t:Nat)] 3)).drew:=⟨_,rfl⟩
      have K8:Kp Ab w7 w8:=by rw[hw8];exact ((Kr _ w7).alloc _).drew
      have HT8:Sl (Bw w8 (.slice (some ⟨w7.heap.size,0,none⟩) 1 1) [t]):=⟨by rw[hw8];exact (nats_one w7 t _).Ad (Kr _ _).drew⟩
      try rw[<- hw8]
      refine hK _ _ ?_ (λ qZ=>?_)
      .exact Ac K8 y1
      clear hK K
      try simp only[Ar]
      refine AQ [6] ?_
      refine Ag rfl (λ K2 hK2=>?_)
      obtain⟨i0,hi,hz0,hz1,hz2⟩:=info_parts Cv
      refine step_append_nats rfl rfl (.tmp 85) (.tmp 88) 82 rfl 3 i0 AP hi hz0 hz1 hz2 D _ i (S.take i) rfl (Ai HP7.out K8 (λ _ _ h=>h)) _ [t] rfl HT8.out (by simp only[List.length_singleton];omega) (by have:=HD6.out;have:=HK7.out.size;have:=K8.size;omega) (λ v9 w9 hown9 hgrow9=>?_)
      clear hi hz0 hz1 hz2
      rw[List.length_singleton] at hown9
      have K9:Kp (λ k=>D<=k/\k<w6.heap.size/\¬ k=hb) w7 w9:=(K8.Ak _).grown hgrow9 (λ k e _=>HPb.out k e)
      have HN9:Sl (Bw w9 (.slice ra (j-i) rc) (S.drop i)):=⟨Bw.keepO HN7.out K9 (λ b e h=>by have:=(HB7.out b e).1;omega)⟩
      have HO9:=sE hown9
      have HK9:Sl (Kp (λ k=>D<=k) w5 w9):=⟨((HK6.out.then' HK7.out).Ak _).trans K9 (λ b _ h=>h.1)⟩
      have y9:w9.cell? ⟨hb,1,none⟩=some (.int .i64 (t:Nat)):=K9.cell y1 (λ h=>h.2.2 rfl)
      refine hK2 _ _ ?_ (λ qZ=>?_)
      .exact y9
      clear hK2 K2 hgrow9 K9 K8 hown9 hw8
      try simp only[Ar]
      refine Ao 7 ?_
      try simp only[Ar]
      refine wpAnyH_done (by kernel_rfl) ?_ _
      clear qZ y1 y9
      go_wp2_with (at_builtin;obtain ⟨i0,hi,hz0,hz1,hz2⟩:=info_parts Cv;go_loud (refine Dy _ rfl (.tmp 90) (.tmp 91) 82 rfl 3 i0 AP hi hz0 hz1 hz2 D _ (i+1) (S.take i++[t]) rfl HO9.out _ (S.drop i) rfl (by first|exact HN9.out|(have h:=HN9.out;rw [show j-i=0 by omega] at h;exact h)) (by rw[HDL.out];omega) (by have:=HK9.out.size;have:=HK59.out;omega) ?_);intro v10 w10 hown10 hgrow10;clear hi hz0 hz1 hz2)
      all_goals
       rw[HSj.out,HDL.out,show i+1+(j-i)=j+1 by omega] at hown10
       have K10:Kp (λ k=>D<=k) w5 w10:=HK9.out.grown hgrow10 (λ k e _=>(Af HO9.out e).1)
       exact⟨⟨j+1,by omega,by go_num,rfl,HW5.out.keep K10 (by omega),⟨hown10⟩,(HKb.out.trans HK5.out (λ _ _ h=>h)).trans K10 (λ b hb h=>by rw[HD.out] at hb;omega)⟩,by simp only[intOf];omega⟩
  .obtain rfl:j=n:=by omega
   have hjl':¬ (j:Int)<(j:Int):=by omega
   have hta:es.take j=es:=by rw[<- HN.out,List.take_length]
   rw[hta] at HWr HOw ⊢
   have hrq:¬ rb=q2:=by have:=HLt.out.1;omega
   have hqq:¬ q=q2:=by have:=HLt.out.2;omega
   have D2:DocAt wg rb q P.n W lv:=(HDc.out.Ad HK2.out).keep hk hrq hqq
   obtain⟨cap3,hr3⟩:=D2.hr
   obtain⟨sa,sc,rfl⟩:=AA HOw.out
   obtain⟨w4,hw4⟩:∃ w4,w4=wg.setCell ⟨rb,0,none⟩ (.slice (some ⟨q2,0,none⟩) P.n cap2):=⟨_,rfl⟩
   have k4:Kp (λ k=>k=rb) wg w4:=by rw[hw4];exact (Kr (λ k=>k=rb) wg).setCell (λ _=>rfl) _
   have hqr:¬ q2=rb:=λ e=>hrq e.symm
   have D4:DocAt w4 rb q2 P.n (AX es W) lv:=⟨⟨cap2,by rw[hw4,bZ hr3 _];rfl⟩,HWr.out.keep k4 hqr⟩
   have kw4:Kp (λ k=>k=rb) w w4:=((HK2.out.Ak (λ k=>k=rb)).trans hk (λ b hb h=>by have h':b=q2:=h;omega)).trans k4 (λ _ _ h=>h)
   have T4:AO w4 lv P.ts:=HTy.out w4 (kw4.mono λ_ _ h=>.inl h)
   have hob:∀ b,(Value.slice sa j sc).ownBlock=some b->D<=b/\b<wg.heap.size:=λ b h=>Af HOw.out h
   have O4:w4.ownsRow D 3 1 (.slice sa j sc) j (AB (Bn es)):=Ai HOw.out k4 (λ b hb h=>by have h':b=rb:=h;have:=hob b hb;have:=HLt.out.1;omega)
   have I4:BA 1 w4 (.slice sa j sc) j (λ i _=>((Bn es).getD i 0:Nat)):=⟨sa,sc,rfl,λ i hi=>by
    have hsl:i<(Bn es).length:=by rw[sortT_len,HN.out];exact hi
    obtain⟨bb,h1,h2⟩:=Ce O4 (List.getElem?_eq_getElem hsl)
    refine⟨bb,0,h1,World.block_lt_of_cell? _ _ h2,λ k hk=>?_⟩
    obtain rfl:k=0:=by omega
    have hgd:(Bn es).getD i 0=(Bn es)[i]:=by rw[List.getD_eq_getElem?_getD,List.getElem?_eq_getElem hsl];rfl
    obtain⟨y,hy,hy2⟩:=DD.1 (List.getElem_mem hsl)
    have:=(HGp.out.fit HTl.out hy).2.1
    (try dsimp only)
    rw[hgd,Nat.zero_add,Nat.mul_one,Nat.add_zero]
    exact⟨h2,by omega,by omega⟩⟩
   have HSe:=sE (DSettle_any P (AX es W) rb q2 lv (.slice sa j sc) j (λ i _=>((Bn es).getD i 0:Nat)) w4 D4 T4 hl HMs.out I4 hel (λ _ h=>by have:=hob rb h;have:=HLt.out.1;omega))
   have hset:=slidO_settle (P:=P) (W:=W) HCs.out HGp.out
   rw[HN.out] at hset
   have HSet:=sE hset
   have HKw:=sE kw4
   have c0:=D2.head
   obtain⟨cap4,c0,-⟩:=c0
   have f0:=D2.free 0
   have l0:=D2.lt
   clear hwr HWr HOw hk D2 hr3 k4 D4 kw4 T4 hob O4 I4 hset
   go_upto_region 20 with fail
   rw[<- hw4]
   clear hw4 c0 f0 cB
   go_wp2_with fail
   with_reducible refine HSe.out.mono ?_
   rintro e w9 (⟨h1,-⟩|⟨os,h1,rfl,k9,q',hq9,hd9⟩)
   .rw [HSet.out] at h1
    cases h1
   rw[HSet.out] at h1
   obtain rfl:=Option.some.inj h1
   have HFin:=sE (And.intro (HKw.out.trans k9 (λ _ _ h=>h)) hd9)
   clear k9 hd9
   go_wp2_with fail
   exact bodyPost_ret (v:=.int .i64 (Bl es:Nat)) (by simp[results,results74,go_sem]) rfl ⟨rfl,HFin.out.1,q',HFin.out.2⟩

def D24AllPost(P:Sp)(W:Nat->Nat)(cs:List Cel)(es:List (Nat×Nat×Nat))(rb:Nat)(lv:Value)(w:World)(e:Ending)(w':World):Prop:=
 e=.returned (.tuple #[.int .i64 (DK es (Eu P.ts cs) es W:Nat),.int .i64 (Bl es:Nat)])/\Kp (λ k=>k=rb) w w'/\∃ q',DocAt w' rb q' P.n (AU (AX es (BL es (Eu P.ts cs) es W)) 0 (Dm cs es) (P.n/2)) lv

set_option maxRecDepth 20000 in
theorem D24All_at(P:Sp)(W:Nat->Nat)(cs:List Cel)(es:List (Nat×Nat×Nat))(rb q:Nat)(lv v:Value)(w:World)(hc:CellsAt P W cs)(hd:DocAt w rb q P.n W lv)(hv:∀ w',Kp (λ k=>k=rb\/w.heap.size<=k) w w'->AO w' lv P.ts)(hl:P.ts.length<=17592186044416)(hM:Cg P.ts)(h:Du w v es)(hg:GoodP cs es)(hel:es.length<=1000)(h0:0<P.n)(hnb:∀ b o l c,v=.slice (some ⟨b,o,none⟩) l c->¬ b=rb):
  Calls prog 73 #[.pointer (some ⟨rb,0,none⟩),.agg #[v]] w (D24AllPost P W cs es rb lv w):=by
 obtain⟨B,hB⟩:∃ B,w.heap.size=B:=⟨_,rfl⟩
 obtain⟨w1,hw1⟩:∃ w1,w1=w.alloc (.cells #[v] 33):=⟨_,rfl⟩
 have k1:Kp Ab w w1:=by rw[hw1];exact (Kr _ w).alloc _
 have b1:w1.heap[B]?=some (.cells #[v] 33 (0,0)):=by rw[hw1,<- hB];exact wN w _
 have lrb:=hd.lt
 have H23:=sE (D23Do_at P W cs es rb q lv v w1 hc (hd.Ad k1) (hv w1 (k1.Ak _)) hl hM (h.Ad k1) hg hel h0)
 have HDc:=sE (hd.Ad k1)
 have HK1:=sE k1
 have HB1:=sE b1
 have c1:=cell_of_one b1
 go_enter func73,ntmps73
 go_wp2_with fail
 rw[<- hw1]
 clear hw1
 try rw[hB]
 refine H23.out.mono ?_
 rintro e w2 ⟨q2,cap2,rfl,hw2,hq2,k2⟩
 have D2:=HDc.out.Ad k2
 obtain⟨cap3,hr3⟩:=D2.hr
 obtain⟨w3,hw3⟩:∃ w3,w3=w2.setCell ⟨rb,0,none⟩ (.slice (some ⟨q2,0,none⟩) P.n cap2):=⟨_,rfl⟩
 have k3:Kp (λ k=>k=rb) w2 w3:=by rw[hw3];exact (Kr (λ k=>k=rb) w2).setCell (λ _=>rfl) _
 have hqr:¬ q2=rb:=by have:=k1.size;omega
 have D3:DocAt w3 rb q2 P.n (BL es (Eu P.ts cs) es W) lv:=⟨⟨cap2,by rw[hw3,bZ hr3 _];rfl⟩,hw2.keep k3 hqr⟩
 have kw3:Kp (λ k=>k=rb) w w3:=((k1.then' k2).Ak (λ k=>k=rb)).trans k3 (λ _ _ h=>h)
 have R3:Du w3 v es:=by
  obtain⟨a,c,rfl,hx⟩:=h
  refine⟨a,c,rfl,λ i x hi=>?_⟩
  obtain⟨bb,o,rfl,h1,h2,h3,h4⟩:=hx i x hi
  have hn:=hnb bb o _ c rfl
  exact⟨bb,o,rfl,Nat.lt_of_lt_of_le h1 kw3.size,kw3.cell h2 hn,kw3.cell h3 hn,kw3.cell h4 hn⟩
 have H24:=sE (D24Do_at P _ cs es rb q2 lv v w3 (hc.BL es λ x hx=>(hg.obj x hx).imp λ c hc=>⟨hc.1,hc.2.1,hc.2.2.1⟩) D3 (λ w' k=>hv w' ((kw3.mono λ_ _ h=>.inl h).trans k (λ b hb h=>h.imp id λ h=>Nat.le_trans kw3.size h))) hl hM R3 hg hel h0)
 have HK3:=sE kw3
 obtain⟨cap4,c0,-⟩:=D2.head
 have f0:=D2.free 0
 have l0:=D2.lt
 have cB:w3.cell? ⟨B,0,none⟩=some v:=k3.cell (k2.cell c1 (λ h=>h)) (λ h=>by have h':B=rb:=h;omega)
 clear hw2 hq2 k2 D2 hr3 k3 D3 kw3 R3 c1 HDc H23 hd hv hc h hg hnb
 go_upto_region 3 with fail
 rw[<- hw3]
 clear hw3 c0 f0
 go_wp2_with fail
 refine H24.out.mono ?_
 rintro e w4 ⟨rfl,k4,q',hd4⟩
 have HFin:=sE (And.intro (HK3.out.trans k4 (λ _ _ h=>h)) hd4)
 clear k4 hd4
 go_wp2_with fail
 exact bodyPost_ret (v:=.tuple #[.int .i64 (DK es (Eu P.ts cs) es W:Nat),.int .i64 (Bl es:Nat)]) (by simp[results,results73,go_sem]) rfl ⟨rfl,HFin.out.1,q',HFin.out.2⟩

end

end Go.Proofs.YtmfajopmppfldaaGreatDoor
