/-
  Lemmas for the laws, together: TellsF.
-/
import Derived.Test.YtmfajopmppfldaaGreatDoorQbk
import Derived.Test.YtmfajopmppfldaaGreatDoorQbp
set_option linter.unusedVariables false
set_option maxHeartbeats 16000000
namespace Go.Proofs.YtmfajopmppfldaaGreatDoor
open Go.Proofs.Tryz
section
open Go.RowKit

def hitC(f z:Int)(c:Cel):Bool:=decide ((c.g:Int)=f/\c.tag=1/\(c.sz:Int)=z)

theorem hit_next{cs:List Cel}{k:Nat}{c:Cel}(h:cs[k]?=some c)(f z:Int):(cs.take (k+1)).any (hitC f z)=((cs.take k).any (hitC f z)||hitC f z c):=by
 obtain⟨h1,h2⟩:=gE.1 h
 rw[List.take_add_one,h,List.any_append]
 simp

def FitsPost(cs:List Cel)(es:List (Int×Int×Int))(w:World)(e:Ending)(w':World):Prop:=
 ((Cs cs es/\e=.returned (.bool true))\/(¬ Cs cs es/\e=.returned (.bool false)))/\Kp Ab w w'

set_option maxRecDepth 20000 in
theorem DFits_at(P:Sp)(W:Nat->Nat)(cs:List Cel)(es:List (Int×Int×Int))(rb q:Nat)(lv v:Value)(w:World)(hc:CellsAt P W cs)(hd:DocAt w rb q P.n W lv)(hv:AO w lv P.ts)(hl:P.ts.length<=17592186044416)(hM:Cg P.ts)(h:RowH w v es)(hel:es.length<=65536):
  Calls prog 34 #[.pointer (some ⟨rb,0,none⟩),.agg #[v]] w (FitsPost cs es w):=by
 have HR:=sE h
 obtain⟨va,vc,rfl,-⟩:=h
 obtain⟨n,hn⟩:∃ n,es.length=n:=⟨_,rfl⟩
 rw[hn] at HR hel ⊢
 have HN:=sE hn
 have hsm:=hd.row.small
 obtain⟨H,hH⟩:∃ H,P.n/2=H:=⟨_,rfl⟩
 have hH2:H<=32768:=by omega
 have HTl:Sl (Au 0 cs H):=⟨by rw[<- hH];exact hc.tl⟩
 have hcl:cs.length<=32768:=by have:=BD hc.tl;omega
 obtain⟨m,hm⟩:∃ m,cs.length=m:=⟨_,rfl⟩
 have HMl:=sE hm
 have HAll:Sl (∀ W',Kp Ab w W'->Calls prog 67 #[.pointer (some ⟨rb,0,none⟩)] W' λ e w'=>∃ v,e=.returned v/\w'.ownsRow W'.heap.size 71 5 v cs.length (BV cs)/\Kp Ab W' w'):=⟨λ W' kk=>DAll_at P W cs rb q lv W' (hd.Ad kk) hc (hv.Ad kk) hl hM⟩
 obtain⟨cap,d0,d1⟩:=hd.head
 have lrb:=hd.lt
 have hPn:(P.n:Int)/2=(H:Int):=by omega
 have hwH:IntKind.i64.wrap (H:Int)=(H:Int):=by rw[IntKind.wrap_i64];omega
 obtain⟨w1,hw1⟩:∃ w1,w1=w.alloc (.cells #[.slice va n vc] 33):=⟨_,rfl⟩
 have k1:Kp Ab w w1:=by rw[hw1];exact (Kr _ w).alloc _
 have b1:w1.heap[w.heap.size]?=some (.cells #[.slice va n vc] 33 (0,0)):=by rw[hw1];exact wN w _
 have c0:=cell_of_one b1
 have HK1:=sE k1
 replace d0:=k1.cell d0 (λ h=>h)
 rw[hm] at hcl
 clear hn hd hc hH hsm b1 k1 hv hl hM d1 hm
 go_enter func34,ntmps34
 go_wp2_with fail
 rw[<- hw1]
 clear hw1
 refine(HAll.out w1 HK1.out).mono ?_
 rintro e w3 ⟨v,rfl,hrow,k3⟩
 have HRc:=sE (E9.Br hrow)
 obtain⟨ca,cc,rfl⟩:=AA hrow
 rw[HMl.out] at HRc ⊢
 have HK3:Sl (Kp Ab w w3):=⟨HK1.out.then' k3⟩
 replace c0:=k3.cell c0 (λ h=>h)
 replace d0:=k3.cell d0 (λ h=>h)
 obtain⟨w4,hmk,hF4,k4⟩:=MakeBools w3 H (by omega)
 have HF4:Sl (Cq w4 w3.heap.size H (Bz (es.take 0))):=⟨hF4⟩
 have HK4:=sE k4
 obtain⟨fb,hfb⟩:∃ fb,w3.heap.size=fb:=⟨_,rfl⟩
 rw[hfb] at hmk HF4
 have HFb:=sE hfb
 have l4:fb<w4.heap.size:=by
  obtain⟨cs',h,-⟩:=HF4.out
  exact lZ h
 obtain⟨B,hB⟩:∃ B,w.heap.size=B:=⟨_,rfl⟩
 try rw[hB] at c0
 try rw[hB]
 have HC0:=sE c0
 clear hF4 k4 hrow k3
 go_wp2_with fail
 clear hmk
 go_loopw [7,8,9,10,11] (λ x7 _ _ _ _ wr=>∃ j:Nat,j<=n/\x7=.int .i64 (j:Nat)/\(∀ i y,i<j->es[i]?=some y->OkS cs es i y)/\Cq wr fb H (Bz (es.take j))/\Kp Ab w3 wr) (λ x7 _ _ _ _ _=>n-(intOf x7).toNat)
 case atStart=>exact ⟨0,Nat.zero_le _,rfl,λ i y h=>by omega,HF4.out,HK4.out⟩
 case round=>
  obtain⟨j,hj,rfl,hok,hfu,hk⟩:=hrel
  have HK:=sE hk
  have HOk:=sE hok
  have HFu:=sE hfu
  have cr:=HK.out.cell HC0.out (λ h=>h)
  by_cases hjl:j<n
  .have hjl':(j:Int)<(n:Int):=by omega
   obtain⟨va',vc',e,hx⟩:=HR.out
   injection e with e1 e3 e2
   clear e3
   subst e1 e2
   obtain⟨x,hxj⟩:∃ x,es[j]?=some x:=⟨_,List.getElem?_eq_getElem (by rw[HN.out];exact hjl)⟩
   obtain⟨bb,o,rfl,hbb,x0,x1,x2⟩:=hx j x hxj
   have K0:Kp Ab w wr:=HK3.out.then' hk
   replace x0:=K0.cell x0 (λ h=>h)
   replace x1:=K0.cell x1 (λ h=>h)
   replace x2:=K0.cell x2 (λ h=>h)
   have HX:=sE hxj
   obtain⟨xf,xt,xz⟩:=x
   simp only at x0 x1 x2
   obtain⟨wb,hwb⟩:∃ wb,wb=wr.alloc (.cells #[.int .i64 xf,.int .i64 xt,.int .i64 xz] 43):=⟨_,rfl⟩
   have kb:Kp Ab wr wb:=by rw[hwb];exact (Kr _ wr).alloc _
   have bb0:wb.heap[wr.heap.size]?=some (.cells #[.int .i64 xf,.int .i64 xt,.int .i64 xz] 43 (0,0)):=by rw[hwb];exact wN wr _
   obtain⟨y0,y1,y2⟩:=cells3 bb0
   have HKb:Sl (Kp Ab w wb):=⟨K0.then' kb⟩
   have HKr:Sl (Kp Ab w3 wb):=⟨hk.then' kb⟩
   have HBb:=sE bb0
   have HFb2:=sE (hfu.keep kb (λ h=>h))
   have HPr:Sl (∀ y,0<j->es[j-1]?=some y->wb.cell? ⟨bb,o+(j-1)*3,none⟩=some (.int .i64 y.1)):=⟨λ y h0 hy=>by
    obtain⟨bb',o',e',-,z0,-,-⟩:=hx (j-1) y hy
    injection e' with e'
    injection e' with e1 e2
    subst e1 e2
    exact HKb.out.cell z0 (λ h=>h)⟩
   have hwr:fb<wr.heap.size:=by
    obtain⟨cs',h,-⟩:=hfu
    exact lZ h
   clear hx hxj hk K0 kb bb0 hok hfu
   go_upto_region 9 with fail
   rw[<- hwb]
   clear hwb x0 x1 x2
   obtain⟨hb,hhb⟩:∃ hb,wr.heap.size=hb:=⟨_,rfl⟩
   rw[hhb] at y0 y1 y2 HBb hwr ⊢
   go_loopw [9,10] (λ x9 x10 wq=>∃ k:Nat,k<=m/\x10=.int .i64 (k:Nat)/\x9=.bool ((cs.take k).any (hitC xf xz))/\Kp Ab wb wq) (λ _ x10 _=>m-(intOf x10).toNat)
   case atStart=>exact ⟨0,Nat.zero_le _,rfl,rfl,Kr _ _⟩
   case round=>
    obtain⟨k,hkm,rfl,rfl,hkq⟩:=hrel
    obtain⟨wq,rfl⟩:∃ wq:World,wq=wr:=⟨_,rfl⟩
    have HKq:=sE hkq
    obtain⟨s0,s1,s2⟩:=cells3 (hkq.at_ HBb.out (λ h=>h))
    by_cases hkl:k<m
    .have hkl':(k:Int)<(m:Int):=by omega
     obtain⟨c,hck⟩:∃ c,cs[k]?=some c:=⟨_,List.getElem?_eq_getElem (by rw[HMl.out];exact hkl)⟩
     obtain⟨ca',cc',e,hcx⟩:=HRc.out
     injection e with e1 e3 e2
     clear e3
     subst e1 e2
     obtain⟨cb,rfl,hcb,x0,x1,-,-,x4⟩:=hcx k c hck
     have Kq:Kp Ab w3 wq:=HKr.out.then' hkq
     replace x0:=Kq.cell x0 (λ h=>h)
     replace x1:=Kq.cell x1 (λ h=>h)
     replace x4:=Kq.cell x4 (λ h=>h)
     have hnx:=hit_next hck xf xz
     have HNx:=sE hnx
     clear hcx hck hkq Kq
     cases hb:(cs.take k).any (hitC xf xz) with
     |true=>
      rw[hb,Bool.true_or] at hnx
      go_wp2_with fail
      go_quiet (fail)
      go_wp2
      exact⟨⟨k+1,by omega,by go_num,by rw[hnx],HKq.out.drewN _⟩,by simp only[intOf];omega⟩
     |false=>
      rw[hb,Bool.false_or] at hnx
      rcases (show ¬ (c.g:Int)=xf\/((c.g:Int)=xf/\¬ c.tag=1)\/((c.g:Int)=xf/\c.tag=1/\¬ (c.sz:Int)=xz)\/((c.g:Int)=xf/\c.tag=1/\(c.sz:Int)=xz) by omega) with q1|⟨q1,q2⟩|⟨q1,q2,q3⟩|⟨q1,q2,q3⟩
      .have hh:hitC xf xz c=false:=by simp[hitC,q1]
       have e1:((c.g:Int)==xf)=false:=by rw[beq_eq_false_iff_ne];exact q1
       rw[hh] at hnx
       go_wp2_with fail
       go_quiet (fail)
       go_wp2
       exact⟨⟨k+1,by omega,by go_num,by rw[hnx],HKq.out.drewN _⟩,by simp only[intOf];omega⟩
      .have hh:hitC xf xz c=false:=by simp[hitC,q2]
       have e1:((c.g:Int)==xf)=true:=by rw[beq_iff_eq];exact q1
       have e2:((c.tag:Int)==1)=false:=by rw[beq_eq_false_iff_ne];omega
       rw[hh] at hnx
       clear q1 q2
       go_wp2_with fail
       go_quiet (fail)
       go_wp2
       exact⟨⟨k+1,by omega,by go_num,by rw[hnx],HKq.out.drewN _⟩,by simp only[intOf];omega⟩
      .have hh:hitC xf xz c=false:=by simp[hitC,q3]
       have e1:((c.g:Int)==xf)=true:=by rw[beq_iff_eq];exact q1
       have e2:((c.tag:Int)==1)=true:=by rw[beq_iff_eq];omega
       have e3:((c.sz:Int)==xz)=false:=by rw[beq_eq_false_iff_ne];exact q3
       rw[hh] at hnx
       clear q1 q2 q3
       go_wp2_with fail
       go_quiet (fail)
       go_wp2
       exact⟨⟨k+1,by omega,by go_num,by rw[hnx],HKq.out.drewN _⟩,by simp only[intOf];omega⟩
      .have hh:hitC xf xz c=true:=by simp[hitC,q1,q2,q3]
       have e1:((c.g:Int)==xf)=true:=by rw[beq_iff_eq];exact q1
       have e2:((c.tag:Int)==1)=true:=by rw[beq_iff_eq];omega
       have e3:((c.sz:Int)==xz)=true:=by rw[beq_iff_eq];exact q3
       rw[hh] at hnx
       clear q1 q2 q3
       go_wp2_with fail
       go_quiet (fail)
       go_wp2
       exact⟨⟨k+1,by omega,by go_num,by rw[hnx],HKq.out.drewN _⟩,by simp only[intOf];omega⟩
    .obtain rfl:k=m:=by omega
     have hkl':¬ (k:Int)<(k:Int):=by omega
     have hta:cs.take k=cs:=by rw[<- HMl.out,List.take_length]
     rw[hta]
     have HKz:Sl (Kp Ab w wq):=⟨HKb.out.then' hkq⟩
     have HK3q:Sl (Kp Ab w3 wq):=⟨HKr.out.then' hkq⟩
     have HBq:=sE (hkq.at_ HBb.out (λ h=>h))
     have HFq:=sE (HFb2.out.keep hkq (λ h=>h))
     have crq:=HK3q.out.cell HC0.out (λ h=>h)
     have HPq:Sl (∀ y,0<j->es[j-1]?=some y->wq.cell? ⟨bb,o+(j-1)*3,none⟩=some (.int .i64 y.1)):=⟨λ y h0 hy=>hkq.cell (HPr.out y h0 hy) (λ h=>h)⟩
     clear hkq cr hta
     go_upto_region 12 with fail
     obtain⟨bh,hbh⟩:∃ b,cs.any (hitC xf xz)=b:=⟨_,rfl⟩
     rw[hbh]
     go_cut [99] from 70 to 98 (λ x99 wx=>∃ bd:Bool,x99=.bool bd/\Sl (bd=true->¬ Cs cs es)/\Sl (bd=false->(∃ c∈cs,c.tag=1/\(c.g:Int)=xf/\(c.sz:Int)=xz)/\0<=xt/\xt<=xf/\∀ i y,i<j->es[i]?=some y->y.1<xf)/\Kp Ab wq wx)
     case first=>
      cases bh with
      |false=>
       have HNo:Sl (¬ Cs cs es):=⟨λ hfit=>by
        obtain⟨c,hcm,c1,c2,c3⟩:=(hfit j _ HX.out).obj
        have:=List.any_eq_false.1 hbh c hcm
        simp only at c2 c3
        exact this (by simp[hitC,c1,c2,c3])⟩
       clear hbh
       go_quiet (fail)
       go_wp2
       go_meet
       exact⟨_,rfl,⟨λ _=>HNo.out⟩,⟨λ h=>by cases h⟩,(Kr _ _).drewN _⟩
      |true=>
      have HOb:Sl (∃ c∈cs,c.tag=1/\(c.g:Int)=xf/\(c.sz:Int)=xz):=⟨by
       obtain⟨c,hcm,hcc⟩:=List.any_eq_true.1 hbh
       unfold hitC at hcc
       rw[decide_eq_true_eq] at hcc
       exact⟨c,hcm,hcc.2.1,hcc.1,hcc.2.2⟩⟩
      by_cases ht0:xt<0
      .have HNo:Sl (¬ Cs cs es):=⟨λ hfit=>by
        have:=(hfit j _ HX.out).pos
        simp only at this
        omega⟩
       go_quiet (fail)
       go_wp2
       go_meet
       exact⟨_,rfl,⟨λ _=>HNo.out⟩,⟨λ h=>by cases h⟩,(Kr _ _).drewN _⟩
      have d0:decide (xt<0)=false:=dF ht0
      by_cases htf:xf<xt
      .have HNo:Sl (¬ Cs cs es):=⟨λ hfit=>by
        have:=(hfit j _ HX.out).le
        simp only at this
        omega⟩
       go_quiet (fail)
       go_wp2
       go_meet
       exact⟨_,rfl,⟨λ _=>HNo.out⟩,⟨λ h=>by cases h⟩,(Kr _ _).drewN _⟩
      have d1:decide (xf<xt)=false:=dF htf
      by_cases hj0:0<j
      .have d2:(0:Int)<(j:Int):=by omega
       obtain⟨y,hy⟩:∃ y,es[j-1]?=some y:=⟨_,List.getElem?_eq_getElem (by rw[HN.out];omega)⟩
       have z0:=HPq.out y hj0 hy
       have HY:=sE hy
       obtain⟨yf,yt,yz⟩:=y
       dsimp only at z0
       have wj:IntKind.i64.wrap ((j:Int)-1)=((j-1:Nat):Int):=by rw[IntKind.wrap_i64];omega
       obtain⟨i,hi⟩:∃ i,j-1=i:=⟨_,rfl⟩
       rw[hi] at z0 wj
       have hil:(i:Int)<(n:Int):=by omega
       by_cases hyx:yf<xf
       .have d3:decide (xf<=yf)=false:=dF (by omega)
        have HUp:Sl (∀ i y,i<j->es[i]?=some y->y.1<xf):=⟨(up_last (cs:=cs) (x:=(xf,xt,xz)) (by rw[HN.out];omega) HOk.out).2 λ z _ hz=>by
         have:=HY.out.symm.trans hz
         injection this with this
         rw[<- this]
         exact hyx⟩
        clear hy hi
        go_quiet (fail)
        go_wp2
        go_meet
        exact⟨_,rfl,⟨λ h=>by cases h⟩,⟨λ _=>⟨HOb.out,by omega,by omega,HUp.out⟩⟩,(Kr _ _).drewN _⟩
       .have d3:xf<=yf:=by omega
        have HNo:Sl (¬ Cs cs es):=⟨λ hfit=>by
         have:=(hfit j _ HX.out).up (j-1) _ (by omega) HY.out
         simp only at this
         omega⟩
        clear hy hi
        go_quiet (fail)
        go_wp2
        go_meet
        exact⟨_,rfl,⟨λ _=>HNo.out⟩,⟨λ h=>by cases h⟩,(Kr _ _).drewN _⟩
      .have d2:decide ((0:Int)<(j:Int))=false:=dF (by omega)
       have HUp:Sl (∀ i y,i<j->es[i]?=some y->y.1<xf):=⟨λ i y hi _=>by omega⟩
       go_quiet (fail)
       go_wp2
       go_meet
       exact⟨_,rfl,⟨λ h=>by cases h⟩,⟨λ _=>⟨HOb.out,by omega,by omega,HUp.out⟩⟩,(Kr _ _).drewN _⟩
     case rest=>
     obtain⟨bd,rfl,HNo,HYes,kx⟩:=hcut
     have HKx:Sl (Kp Ab w wc):=⟨HKz.out.then' kx⟩
     cases bd with
     |true=>
      go_wp2_with fail
      exact bodyPost_ret (v:=.bool false) (by simp[results,results34,go_sem]) rfl ⟨.inr ⟨HNo.out trivial,rfl⟩,HKx.out⟩
     |false=>
      obtain⟨⟨c,hcm,c1,c2,c3⟩,ht0,htf,hup⟩:=HYes.out rfl
      have hfitc:=HTl.out.mem hcm
      obtain⟨f,hf⟩:∃ f,c.g=f:=⟨_,rfl⟩
      obtain⟨sz,hsz⟩:∃ sz,c.sz=sz:=⟨_,rfl⟩
      obtain⟨t,rfl⟩:=Int.eq_ofNat_of_zero_le ht0
      rw[hf] at c2 hfitc
      rw[hsz] at c3 hfitc
      subst c2 c3
      have HOkj:Sl ((∀ g:Nat,t<=g->g<t+sz->Bz (es.take j) g=false)->OkS cs es j ((f:Nat),(t:Nat),(sz:Nat))):=⟨λ hfree=>⟨⟨c,hcm,c1,by simp only;omega,by simp only;omega⟩,by simp only;omega,by simp only;omega,hup,λ g g1 g2=>hfree g (by simp only at g1;omega) (by simp only at g2;omega)⟩⟩
      have HTk:Sl (∀ g,Bz (es.take (j+1)) g=(Bz (es.take j) g||decide (t<=g/\g<t+sz))):=⟨λ g=>takenS_nat HX.out rfl rfl g⟩
      have hfH:f+sz<=H:=by omega
      have htf':t<=f:=by omega
      have HBx:=sE (kx.at_ HBq.out (λ h=>h))
      have HFx:=sE (HFq.out.keep kx (λ h=>h))
      have HK3x:Sl (Kp Ab w3 wc):=⟨HK3q.out.then' kx⟩
      obtain⟨z0,z1,z2⟩:=cells3 HBx.out
      have hnf:¬ hb=fb:=by omega
      have hlb:=lZ HBx.out
      clear hcm c1 hf hsz hfitc hup HYes HNo kx HPq HPr HBq HFq s0 s1 s2 crq
      go_wp2_with fail
      go_loopw [11] (λ x11 wy=>∃ q:Nat,t<=q/\q<=t+sz/\x11=.int .i64 (q:Nat)/\(∀ g,t<=g->g<q->Bz (es.take j) g=false)/\Cq wy fb H (λ p=>Bz (es.take j) p||decide (t<=p/\p<q))/\Kp (λ k=>k=fb) wc wy) (λ x11 _=>t+sz-(intOf x11).toNat)
      case atStart=>
       refine⟨t,Nat.le_refl _,by omega,rfl,λ g g1 g2=>by omega,?_,Kr _ _⟩
       obtain⟨cs',h1,h2,h3⟩:=HFx.out
       exact⟨cs',h1,h2,λ p hp=>by
        rw[h3 p hp]
        have:¬ (t<=p/\p<t):=by omega
        simp[this]⟩
      case round=>
       obtain⟨q,hq1,hq2,rfl,hqf,hfq,hkq⟩:=hrel
       obtain⟨wy,rfl⟩:∃ wy:World,wy=wr:=⟨_,rfl⟩
       have HFy:=sE hfq
       have HKy:=sE hkq
       have HQf:=sE hqf
       obtain⟨s0,s1,s2⟩:=cells3 (hkq.at_ HBx.out hnf)
       have u8:IntKind.i64.wrap ((t:Int)+(sz:Int))=(t:Int)+(sz:Int):=by rw[IntKind.wrap_i64];omega
       clear hfq hkq hqf z0 z1 z2
       by_cases hqe:q<t+sz
       .have d1:(q:Int)<(t:Int)+(sz:Int):=by omega
        have hqH:(q:Int)<(H:Int):=by omega
        have hbit:=HFy.out.bit (j:=q) (by omega)
        have hnq:¬ (t<=q/\q<q):=by omega
        cases hap:Bz (es.take j) q with
        |true=>
         simp only[hap,Bool.true_or] at hbit
         have HNo:Sl (¬ Cs cs es):=⟨λ hfit=>by
          have:=(hfit j _ HX.out).free q (by simp only;omega) (by simp only;omega)
          rw[this] at hap
          cases hap⟩
         have HKv:Sl (Kp Ab w wy):=⟨((HKx.out.Ak _).trans HKy.out (λ _ _ h=>h)).mono (λ i hi h=>by have h':i=fb:=h;have:=HK3.out.size;have:=HFb.out;omega)⟩
         clear hap hnq
         go_wp2_with fail
         exact bodyPost_ret (v:=.bool false) (by simp[results,results34,go_sem]) rfl ⟨.inr ⟨HNo.out,rfl⟩,HKv.out⟩
        |false=>
         simp only[hap,hnq,decide_false,Bool.or_false] at hbit
         have hfr:=HFy.out.free q
         have HSt:Sl (Cq (wy.setCell ⟨fb,q,none⟩ (.bool true)) fb H (λ p=>Bz (es.take j) p||decide (t<=p/\p<q+1))):=⟨HFy.out.store λ i hi=>by
          by_cases e:i=q
          .subst e
           have:t<=i/\i<i+1:=by omega
           simp[this]
          .have:(t<=i/\i<q+1) ↔ (t<=i/\i<q):=by omega
           simp[this,e]⟩
         have HKs:=sE (HKy.out.setCell (p:=⟨fb,q,none⟩) (λ _=>rfl) (.bool true))
         have HQ2:Sl (∀ g,t<=g->g<q+1->Bz (es.take j) g=false):=⟨λ g g1 g2=>by
          by_cases e:g=q
          .rw [e];exact hap
          .exact HQf.out g g1 (by omega)⟩
         clear hap hnq
         go_wp2_with fail
         exact⟨⟨q+1,by omega,by omega,by go_num,HQ2.out,HSt.out,HKs.out⟩,by simp only[intOf];omega⟩
       .have d1:¬ (q:Int)<(t:Int)+(sz:Int):=by omega
        obtain rfl:q=t+sz:=by omega
        have HFe:Sl (Cq wy fb H (Bz (es.take (j+1)))):=⟨by
         obtain⟨cs',h1,h2,h3⟩:=HFy.out
         exact⟨cs',h1,h2,λ p hp=>by rw[h3 p hp,HTk.out p]⟩⟩
        have HKe:Sl (Kp Ab w3 wy):=⟨((HK3x.out.Ak _).trans HKy.out (λ _ _ h=>h)).mono (λ i hi h=>by have h':i=fb:=h;have:=HFb.out;omega)⟩
        have HOn:Sl (∀ i y,i<j+1->es[i]?=some y->OkS cs es i y):=⟨λ i y hi hy=>by
         by_cases e:i=j
         .subst e
          have:=HX.out.symm.trans hy
          injection this with this
          rw[<- this]
          exact HOkj.out HQf.out
         .exact HOk.out i y (by omega) hy⟩
        clear HFy HKy hqe hq1 hq2
        go_wp2_with fail
        exact⟨⟨j+1,by omega,by go_num,HOn.out,HFe.out,HKe.out⟩,by simp only[intOf];omega⟩
  .obtain rfl:j=n:=by omega
   have hjl':¬ (j:Int)<(j:Int):=by omega
   have HFin:Sl (Cs cs es):=⟨λ i y hy=>HOk.out i y (by have:=(gE.1 hy).1;have:=HN.out;omega) hy⟩
   clear hk hok hfu
   go_wp2_with fail
   exact bodyPost_ret (v:=.bool true) (by simp[results,results34,go_sem]) rfl ⟨.inl ⟨HFin.out,rfl⟩,HK3.out.then' HK.out⟩

end

end Go.Proofs.YtmfajopmppfldaaGreatDoor
