/-
  Lemmas for the laws, together: PlayJ.
-/
import Derived.Test.YtfkedlgpgmaemaaGreatDoorQav
import Derived.Test.YtfkedlgpgmaemaaGreatDoorQaj
import Derived.Test.YtfkedlgpgmaemaaGreatDoorQau
set_option linter.unusedVariables false
set_option maxHeartbeats 16000000
namespace Go.Proofs.YtfkedlgpgmaemaaGreatDoor
open Tryz
section
open Go.RowKit

theorem and_low(g:Int):∃ r:Nat,r<=65535/\bits .and .i64 g 65535=(r:Int):=by
 refine⟨(BitVec.ofInt 64 g &&& BitVec.ofInt 64 65535).toNat,?_,?_⟩
 .rw [BitVec.toNat_and]
  exact Nat.and_le_right
 .show IntKind.i64.wrap ((BitVec.ofInt 64 g &&& BitVec.ofInt 64 65535).toNat:Int)=_
  have h:(BitVec.ofInt 64 g &&& BitVec.ofInt 64 65535).toNat<=65535:=by
   rw[BitVec.toNat_and]
   exact Nat.and_le_right
  rw[IntKind.wrap_i64]
  omega

theorem DAddr_at(g:Nat)(w:World)(hg:g<=65536):Calls prog 158 #[g] w λ e w'=>e=.returned (.int .u64 ((1048576+2*g:Nat):Int))/\w'=w:=by
 have h0:¬ (g:Int)<0:=by omega
 go_enter func158,ntmps158
 go_wp2
 go_ret
 exact⟨rfl,rfl⟩

theorem obsG_take{cs:List Cel}{j:Nat}{x:Cel}(h:cs[j]?=some x):BK (cs.take (j+1))=BK (cs.take j)++(if x.tag=1 then [x.g] else []):=by
 unfold BK Aj
 rw[List.take_add_one,h,List.filter_append,List.map_append]
 congr 1
 by_cases ht:x.tag=1 <;> simp[ht]

theorem obsG_at{cs:List Cel}{i g:Nat}(h:(BK cs)[i]?=some g):∃ c∈cs,c.tag=1/\c.g=g:=by
 have:=List.mem_of_getElem? h
 unfold BK at this
 obtain⟨c,hc,rfl⟩:=List.mem_map.1 this
 have:=AX.1 hc
 exact⟨c,this.1,this.2,rfl⟩

def JoinW(i:Int)(g2:Nat)(w:World)(v:Value)(wx:World):Prop:=∃ Y:Nat,v=.int .u64 Y/\Y<18446744073709551616/\(0<=i->Y=1048576+2*g2)/\Kp Aa w wx

def JoinStep(P:Sp)(W:Nat->Nat)(cs:List Cel)(g i n:Int)(W':Nat->Nat)(cs':List Cel):Prop:=
 cs'=cs/\((BK cs=[]/\W'=W)\/
  ∃ (G1 G2 G3:Nat) (c:Cel) (g2:Nat) (k wds:Int) (m:Nat),(bits .and .i64 g 65535=(G1:Int)/\bits .and .i64 i 65535=(G2:Int)/\bits .and .i64 n 65535=(G3:Int))/\(c∈cs/\c.tag=1)/\(BK cs)[G1%(BK cs).length]?=some c.g/\(BK cs)[G2%(BK cs).length]?=some g2/\typeOf P.ts (c.ty:Nat)=some ⟨k,wds,m⟩/\
   ((BP k wds m (c.ln:Nat)=[]/\W'=W)\/∃ s Y:Nat,(BP k wds m (c.ln:Nat))[G3%(BP k wds m (c.ln:Nat)).length]?=some s/\(0<=i->Y=1048576+2*g2)/\W'=DN W (2*c.g+1+s) Y))

set_option maxRecDepth 40000 in
theorem joins_any(w0 w:World)(P:Sp)(rb q:Nat)(lv:Value)(W:Nat->Nat)(cs:List Cel)(d g i n y:Int)(u:Value)(hb:Both w0 w P rb q lv W cs)(hu:∃ a l c,u=.slice a l c):
  Calls prog 102 #[.pointer (some P.s),.pointer (some rb),DK d g i n y u] w (EP w0 P rb lv (λ W' cs'=>JoinStep P W cs g i n W' cs') w):=by
 obtain⟨ua,ul,uc,rfl⟩:=hu
 obtain⟨w1,hw1⟩:∃ w1,w1=w.alloc (.cells #[.int .i64 d,.int .i64 g,.int .i64 i,.int .i64 n,.int .u64 y,.slice ua ul uc] 104):=⟨_,rfl⟩
 have k1:Kp Aa w w1:=by rw[hw1];exact (Kr _ w).alloc _
 have b1:w1.heap[w.heap.size]?=some (.cells #[.int .i64 d,.int .i64 g,.int .i64 i,.int .i64 n,.int .u64 y,.slice ua ul uc] 104 (0,0)):=by rw[hw1];exact wN w _
 have hl1:=lZ b1
 obtain⟨s0,s1,s2,s3,s4,s5⟩:=cells6 b1
 have B1:=hb.Ac k1
 have HB1:=sE B1
 have hbo:¬ P.own w.heap.size:=λ h=>by have:=hb.lt _ (Sp.Cr h);omega
 have hbrb:¬ w.heap.size=rb:=λ h=>by have:=hb.dc.lt;omega
 have HNO:=sE hbo
 have HNR:=sE hbrb
 have hlen:cs.length<=32768:=by
  have:=BG hb.cells.tl
  have:=hb.small
  omega
 have hsm:=hb.small
 have HAll:=sE (DAll_at P W cs rb q lv w1 B1.dc B1.cells B1.tyAt B1.few' B1.ms)
 obtain⟨G1,hG1,a1⟩:=and_low g
 obtain⟨G2,hG2,a2⟩:=and_low i
 obtain⟨G3,hG3,a3⟩:=and_low n
 have A1:=sE a1
 have A2:=sE a2
 have A3:=sE a3
 clear b1 k1 B1 hb hbo hbrb s0 s4 s5 a1 a2 a3
 unfold DK
 go_enter func102,ntmps102
 go_wp2_with fail
 rw[<- hw1]
 clear hw1
 refine HAll.o.mono ?_
 rintro e wl ⟨v,rfl,hown,kl⟩
 have HKL:=sE kl
 have HRow:=sE (Du.Bc hown)
 obtain⟨va,vc,hva,-⟩:=HRow.o
 subst hva
 obtain⟨len,hlen'⟩:∃ len,cs.length=len:=⟨_,rfl⟩
 rw[hlen'] at HRow hlen ⊢
 have HLen:=sE hlen'
 clear hown kl HAll hlen'
 go_wp2_with fail
 go_loopw [7,9] (λ v z wr=>∃ j:Nat,j<=len/\z=.int .i64 (j:Nat)/\Sl (wr.ownsRow wl.heap.size 3 1 v (BK (cs.take j)).length (Az (BK (cs.take j))))/\Kp Aa wl wr) (λ _ z _=>len-(intOf z).toNat)
 case atStart=>exact ⟨0,Nat.zero_le _,rfl,⟨World.ownsRow_nil _ _ _ _⟩,Kr _ _⟩
 case round=>
  obtain⟨j,hj,rfl,HO,hkk⟩:=hrel
  have HKK:=sE hkk
  by_cases hjl:j<len
  .have hjl':(j:Int)<(len:Int):=by omega
   obtain⟨x,hx⟩:∃ x,cs[j]?=some x:=⟨cs[j]'(by rw[HLen.o];exact hjl),by simp⟩
   obtain⟨a',cap',ha',hrow⟩:=HRow.o.Ac hkk
   obtain⟨b,hab,hb0,r0,r1,r2,r3,r4⟩:=hrow j x hx
   have hva:va=some ⟨b,0,none⟩:=by injection ha' with h1;rw [h1];exact hab
   subst hva
   have HTk:=sE (obsG_take hx)
   have hol:(BK (cs.take j)).length<=32768:=by
    have:=obsG_len (cs.take j)
    rw[List.length_take] at this
    omega
   have hws:=hkk.size
   clear hx hrow ha' hab hkk r2 r3 r4
   by_cases q2:x.tag=1
   .have p2:((x.tag:Int)==1)=true:=by simp[q2]
    have HE:Sl (BK (cs.take (j+1))=BK (cs.take j)++[x.g]):=⟨by rw[HTk.o,if_pos q2]⟩
    clear q2
    go_wp2_with (at_builtin;obtain ⟨i0,hi,hz0,hz1,hz2⟩:=info_parts Be;go_loud (refine wpList_append_lies _ rfl (.tmp 36) (.tmp 42) 24 rfl wl.heap.size 3 i0 _ 1 8 Ar hi hz0 hz1 hz2 rfl (by omega) u7 (BK (cs.take j)).length (Az (BK (cs.take j))) rfl (HO.o.alloc _) ⟨wr.heap.size,0,none⟩ 1 1 [x.g] rfl rfl (World.news_of_block (wN wr _)) (by intro u hu;simp at hu;subst hu;rfl) (by omega) (by unfold maxLen;omega) (by omega) (by simp;omega) (wr.heap.size+1) (by simp) ?_);intro g cap w5 hown5 hgrow hat hlt;clear hi hz0 hz1 hz2)
    have k5:Kp Aa wl w5:=(HKK.o.alloc _).grown hgrow (λ k e hl=>absurd (HO.o.lt k e).1 (by omega))
    have h5:w5.ownsRow wl.heap.size 3 1 (.slice (some ⟨g,0,none⟩) ((BK (cs.take j)).length+1) cap) (BK (cs.take (j+1))).length (Az (BK (cs.take (j+1)))):=by
     rw[HE.o,Az,List.map_append,List.length_append];exact hown5
    have H5:=sE h5
    clear hown5 hgrow hat h5 hws
    go_wp2
    exact⟨⟨j+1,by omega,by go_num,H5,k5⟩,by simp only[intOf];omega⟩
   .have p2:((x.tag:Int)==1)=false:=by simp;omega
    have HE:Sl (BK (cs.take (j+1))=BK (cs.take j)):=⟨by rw[HTk.o,if_neg q2,List.append_nil]⟩
    clear q2
    go_wp2
    exact⟨⟨j+1,by omega,by go_num,⟨by rw[HE.o];exact HO.o⟩,HKK.o⟩,by simp only[intOf];omega⟩
  .have hjl':¬ (j:Int)<(len:Int):=by omega
   obtain rfl:j=len:=by omega
   have ht:cs.take j=cs:=List.take_of_length_le (by rw[HLen.o];omega)
   have HO2:Sl (wr.ownsRow wl.heap.size 3 1 u7 (BK cs).length (Az (BK cs))):=⟨by have:=HO.o;rwa [ht] at this⟩
   have hol:(BK cs).length<=32768:=by have:=obsG_len cs;have:=HLen.o;omega
   have HK1:Sl (Kp Aa w1 wr):=⟨HKL.o.then' hkk⟩
   replace s1:=HK1.o.cell s1 id
   replace s2:=HK1.o.cell s2 id
   replace s3:=HK1.o.cell s3 id
   have hlr:w.heap.size<wr.heap.size:=Nat.lt_of_lt_of_le hl1 HK1.o.size
   clear ht hkk hj
   rcases Nat.eq_zero_or_pos (BK cs).length with h0|h0
   .have hn0:u7=.slice none 0 0\/∃ a c,u7=.slice a 0 c:=by
     rcases HO2.o.2 with ⟨h,_⟩|⟨gb,cap5,cur,hu,_⟩
     .exact .inl h
     .exact .inr ⟨_,_,by rw[hu,h0]⟩
    have hn1:∃ a c,u7=.slice a 0 c:=by
     rcases hn0 with h|h
     .exact ⟨none,0,h⟩
     .exact h
    obtain⟨a,c,rfl⟩:=hn1
    have HE0:Sl (BK cs=[]):=⟨List.length_eq_zero_iff.1 h0⟩
    clear hn0 h0
    go_wp2
    exact bodyPost_ret (v:=.bool true) (by simp[results,results102,go_sem]) rfl ⟨W,cs,q,rfl,HB1.o.Ac HK1.o,rfl,.inl ⟨HE0.o,rfl⟩⟩
   .obtain ⟨N,hN⟩:∃ N,(BK cs).length=N:=⟨_,rfl⟩
    have HN:=sE hN
    rw[hN] at HO2 hol h0
    have hi1:G1%N<N:=Nat.mod_lt _ h0
    have hm1:(G1:Int)%(N:Int)=((G1%N:Nat):Int):=by push_cast;rfl
    obtain⟨i1,he1⟩:∃ i1,G1%N=i1:=⟨_,rfl⟩
    rw[he1] at hi1 hm1
    obtain⟨g1,hg1⟩:∃ g1,(BK cs)[i1]?=some g1:=⟨(BK cs)[i1]'(by omega),by simp⟩
    obtain⟨gb,cap5,rfl,hgb1,hgb2,cz1⟩:=owns_num HO2.o hN.symm hg1
    have hi2:G2%N<N:=Nat.mod_lt _ h0
    have hm2:(G2:Int)%(N:Int)=((G2%N:Nat):Int):=by push_cast;rfl
    obtain⟨i2,he2⟩:∃ i2,G2%N=i2:=⟨_,rfl⟩
    rw[he2] at hi2 hm2
    obtain⟨g2,hg2⟩:∃ g2,(BK cs)[i2]?=some g2:=⟨(BK cs)[i2]'(by omega),by simp⟩
    obtain⟨gb',cap6,hu6,-,-,cz2⟩:=owns_num HO2.o hN.symm hg2
    injection hu6 with hu6 hu6' hu6''
    injection hu6 with hu6
    injection hu6 with hu6
    subst hu6 hu6''
    have hN0:((N:Int)==0)=false:=by simp;omega
    obtain⟨c,hc,ht,rfl⟩:=obsG_at hg1
    obtain⟨c2,hc2,ht2,rfl⟩:=obsG_at hg2
    have hcg2:c2.g<=65536:=by have:=(HB1.o.cells.tl.mem hc2).2.1;omega
    have HC:=sE hc
    have HTg:=sE ht
    have HG1:Sl ((BK cs)[G1%(BK cs).length]?=some c.g):=⟨by rw[HN.o,he1];exact hg1⟩
    have HG2:Sl ((BK cs)[G2%(BK cs).length]?=some c2.g):=⟨by rw[HN.o,he2];exact hg2⟩
    have hb1:=A1.o
    have hb2:=A2.o
    clear hg1 hg2 hc hc2 ht ht2 he1 he2 hN
    obtain⟨wo,rfl⟩:∃ wo:World,wo=wr:=⟨_,rfl⟩
    go_upto_if 58 with fail
    go_cut [11] from 53 to 68 (λ v wx=>JoinW i c2.g wo v wx)
    case first=>
     by_cases hi0:0<=i
     .have HAd:=sE (DAddr_at c2.g wo hcg2)
      go_wp2_with fail
      refine HAd.o.mono ?_
      rintro e w3 ⟨rfl,rfl⟩
      go_wp2_with fail
      go_meet
      exact⟨1048576+2*c2.g,rfl,by omega,λ _=>rfl,Kr _ _⟩
     .go_wp2_with fail
      go_meet
      exact⟨0,rfl,by omega,λ h=>by omega,Kr _ _⟩
    case rest=>
     obtain⟨Y,rfl,hY,hYi,kx⟩:=hcut
     have HYi:=sE hYi
     clear hYi
     have HYb:=sE hY
     obtain⟨wg,rfl⟩:∃ wg:World,wg=wc:=⟨_,rfl⟩
     have HKg:Sl (Kp Aa w1 wg):=⟨HK1.o.then' kx⟩
     have Bg:=HB1.o.Ac HKg.o
     have HBg:=sE Bg
     obtain⟨k,wds,m,hty⟩:=Fs ((Bg.cells.ok c HC.o).2 HTg.o).1
     have HTy:=sE hty
     have hE:=kind_of Bg.cells HC.o HTg.o hty
     have HE:=sE hE
     have hMm:m<18446744073709551616:=Bg.ms _ (typeOf_mem hty)
     obtain⟨f,hSg⟩:=Bg.at_
     have HSg:=sE hSg
     obtain⟨capr,c0,c1⟩:=Bg.dc.head
     have hrb:rb<wg.heap.size:=Bg.dc.lt
     have HOf:Sl (∀ W',Kp Aa wg W'->Calls prog 154 #[.slice (some ⟨q,0,none⟩) P.n capr,lv,c.g] W' (RK (.tuple #[.agg #[.int .u8 1,c.ty,c.ln,c.sz],.agg #[.int .u8 k,.int .i64 wds,.int .u64 m],(0:Int)]) W')):=⟨λ W' kk=>by
      have B':=HBg.o.Ac kk
      refine(DOf_any (c.g:Nat) q P.n capr W lv P.ts W' B'.dc.row B'.tyAt B'.few' B'.ms).mono λ e w' hp=>?_
      unfold El at hp
      rw[HBg.o.cells.obj HC.o HTg.o] at hp
      obtain⟨k',wds',m',h1,h2,h3⟩:=hp
      rw[HTy.o] at h1
      injection h1 with h1
      injection h1 with h1 h1' h1''
      subst h1 h1' h1''
      exact⟨h2,h3⟩⟩
     have HRefs:Sl (∀ W',Calls prog 116 #[.agg #[.int .u8 k,.int .i64 wds,.int .u64 m],c.ln] W' (DRefsPost k wds m (c.ln:Nat) W')):=⟨λ W'=>DRefs_any k wds m (c.ln:Nat) W' hMm hE⟩
     replace s1:=kx.cell s1 id
     replace s2:=kx.cell s2 id
     replace s3:=kx.cell s3 id
     have hlg:w.heap.size<wg.heap.size:=Nat.lt_of_lt_of_le hlr kx.size
     clear hY kx Bg hty hE hMm hSg cz1 cz2 hm1 hm2 hb1 hb2 hi1 hi2
     go_upto_region 14 with fail
     go_cut [12,13,14] from 69 to 82 (λ a b e wx=>SlotsCut c k wds m wg a b e wx)
     case first=>
      have kk0:Kp Aa wg wg.drew:=(Kr _ _).drew
      refine wp_region_held_drew (S:=(λ w'=>w'.cell? rb=some (.slice (some ⟨q,0,none⟩) P.n capr)/\w'.cell? ⟨rb,1,none⟩=some lv)) (by kernel_rfl) ?_ (λ qZ=>?_)
      .exact ⟨Kz c0,Kz c1⟩
      refine Ap 0 ?_;refine Ap 1 ?_;refine Ap 2 ?_;refine Ap 3 ?_;refine Ap 4 ?_;refine Ap 5 ?_;refine Ap 6 ?_;refine Ap 7 ?_;refine Ap 8 ?_
      try simp only[AB]
      refine Bp [9,14,15] ?_
      refine Ai rfl (λ K hK=>?_) ?_
      .go_simp
       with_reducible refine(HOf.o _ kk0).mono ?_
       rintro e wc1 ⟨rfl,kc2⟩
       have kk3:=kk0.then' kc2
       refine hK _ _ ?_ (λ qZ=>?_)
       .exact ⟨Kz c0,Kz c1⟩
       clear hK K
       try simp only[AB]
       refine Ap 10 ?_;refine Ap 11 ?_;refine Ap 12 ?_;refine Ap 13 ?_
       try simp only[AB]
       refine Bp [14,15] ?_
       refine Ai rfl (λ K hK=>?_) ?_
       .go_simp
        obtain⟨wa4,hw5⟩:∃ wa4,wa4=World.alloc wc1 (.cells #[.int .u8 0,(0:Int),(0:Int),(0:Int)] 111):=⟨_,rfl⟩
        rw[<- hw5]
        have ka6:Kp Aa wc1 wa4:=by rw[hw5];exact ((Kr _ _).alloc _)
        have hge8:wg.heap.size<=wc1.heap.size:=kk3.size
        have hb7:wa4.heap[wc1.heap.size]?=some (.cells #[.int .u8 0,(0:Int),(0:Int),(0:Int)] 111 (0,0)):=by rw[hw5];exact wN _ _
        have hl9:wc1.heap.size<wa4.heap.size:=lZ hb7
        have kk10:=kk3.then' ka6
        have HW11:=sE hw5
        clear hw5
        refine hK _ _ ?_ (λ qZ=>?_)
        .exact ⟨Kz c0,Kz c1⟩
        clear hK K
        try simp only[AB]
        refine Bp [15] ?_
        refine Ai rfl (λ K hK=>?_) ?_
        .go_simp
         obtain⟨wa12,hw13⟩:∃ wa12,wa12=World.alloc wa4 (.cells #[.int .u8 0,(0:Int),.int .u64 0] 106):=⟨_,rfl⟩
         rw[<- hw13]
         have ka14:Kp Aa wa4 wa12:=by rw[hw13];exact ((Kr _ _).alloc _)
         have hge16:wg.heap.size<=wa4.heap.size:=kk10.size
         have hb15:wa12.heap[wa4.heap.size]?=some (.cells #[.int .u8 0,(0:Int),.int .u64 0] 106 (0,0)):=by rw[hw13];exact wN _ _
         have hl17:wa4.heap.size<wa12.heap.size:=lZ hb15
         have hx18:=lZ hb7
         have hb19:=ka14.at_ hb7 id
         have kk20:=kk10.then' ka14
         have HW21:=sE hw13
         clear hw13
         refine hK _ _ ?_ (λ qZ=>?_)
         .exact ⟨Kz c0,Kz c1⟩
         clear hK K
         try simp only[AB]
         have hsz:=lZ hb19
         obtain⟨d0,d1,d2,d3⟩:=Ay hb19
         have f0:=Ab hb19;have f00:=f0 0;have f01:=f0 1;have f02:=f0 2;have f03:=f0 3
         refine Bp [16] ?_
         refine Ag rfl (λ K hK=>?_)
         clear f0
         go_simp
         obtain⟨wz22,hz23⟩:∃ wz22,wz22=World.setCell (World.setCell (World.setCell (World.setCell (wa12) ⟨wc1.heap.size,0,none⟩ (.int .u8 1)) ⟨wc1.heap.size,1,none⟩ (.int .i64 c.ty)) ⟨wc1.heap.size,2,none⟩ (.int .i64 c.ln)) ⟨wc1.heap.size,3,none⟩ (.int .i64 c.sz):=⟨_,rfl⟩
         rw[<- hz23]
         obtain⟨tz24,kz25⟩:=BC hb19 _ _ _ _ wz22 hz23
         have hb26:=kz25.at_ hb15 (λ h=>by have h':wa4.heap.size=wc1.heap.size:=h;omega)
         have kk27:Kp Aa wg wz22:=kk20.trans kz25 (λ i hi h=>by have h':i=wc1.heap.size:=h;(try have hq:=Nat.le_of_eq h');(first|omega|(simp only[World.size_drew] at *;omega)))
         clear hz23 d0 f00 d1 f01 d2 f02 d3 f03
         refine hK _ _ ?_ (λ qZ=>?_)
         .exact ⟨Kz c0,Kz c1⟩
         clear hK K
         try simp only[AB]
         have hsz:=lZ hb26
         obtain⟨d0,d1,d2⟩:=cells3 hb26
         have f0:=Ab hb26;have f00:=f0 0;have f01:=f0 1;have f02:=f0 2
         refine Bp [17] ?_
         refine Ag rfl (λ K hK=>?_)
         clear f0
         go_simp
         obtain⟨wz28,hz29⟩:∃ wz28,wz28=World.setCell (World.setCell (World.setCell (wz22) ⟨wa4.heap.size,0,none⟩ (.int .u8 k)) ⟨wa4.heap.size,1,none⟩ (.int .i64 wds)) ⟨wa4.heap.size,2,none⟩ (.int .u64 m):=⟨_,rfl⟩
         rw[<- hz29]
         obtain⟨tz30,kz31⟩:=BL hb26 _ _ _ wz28 hz29
         have hb32:=kz31.at_ tz24 (λ h=>by have h':wc1.heap.size=wa4.heap.size:=h;omega)
         have kk33:Kp Aa wg wz28:=kk27.trans kz31 (λ i hi h=>by have h':i=wa4.heap.size:=h;(try have hq:=Nat.le_of_eq h');(first|omega|(simp only[World.size_drew] at *;omega)))
         clear hz29 d0 f00 d1 f01 d2 f02
         refine hK _ _ ?_ (λ qZ=>?_)
         .exact ⟨Kz c0,Kz c1⟩
         clear hK K
         try simp only[AB]
         refine Ap 18 ?_
         try simp only[AB]
         refine wpAnyH_done (by kernel_rfl) ?_ _
         go_wp2_with fail
         go_meet
         exact⟨_,_,rfl,rfl,rfl,hb32,tz30,kk33⟩
        exact AllReadyH.nil
       refine Ai rfl (λ K hK=>?_) ?_
       .go_simp
        obtain⟨wa34,hw35⟩:∃ wa34,wa34=World.alloc wc1 (.cells #[.int .u8 0,(0:Int),.int .u64 0] 106):=⟨_,rfl⟩
        rw[<- hw35]
        have ka36:Kp Aa wc1 wa34:=by rw[hw35];exact ((Kr _ _).alloc _)
        have hge38:wg.heap.size<=wc1.heap.size:=kk3.size
        have hb37:wa34.heap[wc1.heap.size]?=some (.cells #[.int .u8 0,(0:Int),.int .u64 0] 106 (0,0)):=by rw[hw35];exact wN _ _
        have hl39:wc1.heap.size<wa34.heap.size:=lZ hb37
        have kk40:=kk3.then' ka36
        have HW41:=sE hw35
        clear hw35
        refine hK _ _ ?_ (λ qZ=>?_)
        .exact ⟨Kz c0,Kz c1⟩
        clear hK K
        try simp only[AB]
        refine Bp [14] ?_
        refine Ai rfl (λ K hK=>?_) ?_
        .go_simp
         obtain⟨wa42,hw43⟩:∃ wa42,wa42=World.alloc wa34 (.cells #[.int .u8 0,(0:Int),(0:Int),(0:Int)] 111):=⟨_,rfl⟩
         rw[<- hw43]
         have ka44:Kp Aa wa34 wa42:=by rw[hw43];exact ((Kr _ _).alloc _)
         have hge46:wg.heap.size<=wa34.heap.size:=kk40.size
         have hb45:wa42.heap[wa34.heap.size]?=some (.cells #[.int .u8 0,(0:Int),(0:Int),(0:Int)] 111 (0,0)):=by rw[hw43];exact wN _ _
         have hl47:wa34.heap.size<wa42.heap.size:=lZ hb45
         have hx48:=lZ hb37
         have hb49:=ka44.at_ hb37 id
         have kk50:=kk40.then' ka44
         have HW51:=sE hw43
         clear hw43
         refine hK _ _ ?_ (λ qZ=>?_)
         .exact ⟨Kz c0,Kz c1⟩
         clear hK K
         try simp only[AB]
         have hsz:=lZ hb45
         obtain⟨d0,d1,d2,d3⟩:=Ay hb45
         have f0:=Ab hb45;have f00:=f0 0;have f01:=f0 1;have f02:=f0 2;have f03:=f0 3
         refine Bp [16] ?_
         refine Ag rfl (λ K hK=>?_)
         clear f0
         go_simp
         obtain⟨wz52,hz53⟩:∃ wz52,wz52=World.setCell (World.setCell (World.setCell (World.setCell (wa42) ⟨wa34.heap.size,0,none⟩ (.int .u8 1)) ⟨wa34.heap.size,1,none⟩ (.int .i64 c.ty)) ⟨wa34.heap.size,2,none⟩ (.int .i64 c.ln)) ⟨wa34.heap.size,3,none⟩ (.int .i64 c.sz):=⟨_,rfl⟩
         rw[<- hz53]
         obtain⟨tz54,kz55⟩:=BC hb45 _ _ _ _ wz52 hz53
         have hb56:=kz55.at_ hb49 (λ h=>by have h':wc1.heap.size=wa34.heap.size:=h;omega)
         have kk57:Kp Aa wg wz52:=kk50.trans kz55 (λ i hi h=>by have h':i=wa34.heap.size:=h;(try have hq:=Nat.le_of_eq h');(first|omega|(simp only[World.size_drew] at *;omega)))
         clear hz53 d0 f00 d1 f01 d2 f02 d3 f03
         refine hK _ _ ?_ (λ qZ=>?_)
         .exact ⟨Kz c0,Kz c1⟩
         clear hK K
         try simp only[AB]
         have hsz:=lZ hb56
         obtain⟨d0,d1,d2⟩:=cells3 hb56
         have f0:=Ab hb56;have f00:=f0 0;have f01:=f0 1;have f02:=f0 2
         refine Bp [17] ?_
         refine Ag rfl (λ K hK=>?_)
         clear f0
         go_simp
         obtain⟨wz58,hz59⟩:∃ wz58,wz58=World.setCell (World.setCell (World.setCell (wz52) ⟨wc1.heap.size,0,none⟩ (.int .u8 k)) ⟨wc1.heap.size,1,none⟩ (.int .i64 wds)) ⟨wc1.heap.size,2,none⟩ (.int .u64 m):=⟨_,rfl⟩
         rw[<- hz59]
         obtain⟨tz60,kz61⟩:=BL hb56 _ _ _ wz58 hz59
         have hb62:=kz61.at_ tz54 (λ h=>by have h':wa34.heap.size=wc1.heap.size:=h;omega)
         have kk63:Kp Aa wg wz58:=kk57.trans kz61 (λ i hi h=>by have h':i=wc1.heap.size:=h;(try have hq:=Nat.le_of_eq h');(first|omega|(simp only[World.size_drew] at *;omega)))
         clear hz59 d0 f00 d1 f01 d2 f02
         refine hK _ _ ?_ (λ qZ=>?_)
         .exact ⟨Kz c0,Kz c1⟩
         clear hK K
         try simp only[AB]
         refine Ap 18 ?_
         try simp only[AB]
         refine wpAnyH_done (by kernel_rfl) ?_ _
         go_wp2_with fail
         go_meet
         exact⟨_,_,rfl,rfl,rfl,hb62,tz60,kk63⟩
        exact AllReadyH.nil
       exact AllReadyH.nil
      refine Ai rfl (λ K hK=>?_) ?_
      .go_simp
       obtain⟨wa64,hw65⟩:∃ wa64,wa64=World.drew (World.alloc wg (.cells #[.int .u8 0,(0:Int),(0:Int),(0:Int)] 111)):=⟨_,rfl⟩
       rw[<- hw65]
       have ka66:Kp Aa wg wa64:=by rw[hw65];exact ((Kr _ _).alloc _).drew
       have hge68:wg.heap.size<=wg.heap.size:=kk0.size
       have hb67:wa64.heap[wg.heap.size]?=some (.cells #[.int .u8 0,(0:Int),(0:Int),(0:Int)] 111 (0,0)):=by rw[hw65];exact wN _ _
       have hl69:wg.heap.size<wa64.heap.size:=lZ hb67
       have kk70:=ka66
       have HW71:=sE hw65
       clear hw65
       refine hK _ _ ?_ (λ qZ=>?_)
       .exact ⟨Kz c0,Kz c1⟩
       clear hK K
       try simp only[AB]
       refine Bp [9,15] ?_
       refine Ai rfl (λ K hK=>?_) ?_
       .go_simp
        with_reducible refine(HOf.o _ kk70).mono ?_
        rintro e wc72 ⟨rfl,kc73⟩
        have hb74:=kc73.at_ hb67 id
        have kk75:=kk70.then' kc73
        refine hK _ _ ?_ (λ qZ=>?_)
        .exact ⟨Kz c0,Kz c1⟩
        clear hK K
        try simp only[AB]
        refine Ap 10 ?_;refine Ap 11 ?_;refine Ap 12 ?_;refine Ap 13 ?_
        try simp only[AB]
        refine Bp [15] ?_
        refine Ai rfl (λ K hK=>?_) ?_
        .go_simp
         obtain⟨wa76,hw77⟩:∃ wa76,wa76=World.alloc wc72 (.cells #[.int .u8 0,(0:Int),.int .u64 0] 106):=⟨_,rfl⟩
         rw[<- hw77]
         have ka78:Kp Aa wc72 wa76:=by rw[hw77];exact ((Kr _ _).alloc _)
         have hge80:wg.heap.size<=wc72.heap.size:=kk75.size
         have hb79:wa76.heap[wc72.heap.size]?=some (.cells #[.int .u8 0,(0:Int),.int .u64 0] 106 (0,0)):=by rw[hw77];exact wN _ _
         have hl81:wc72.heap.size<wa76.heap.size:=lZ hb79
         have hx82:=lZ hb74
         have hb83:=ka78.at_ hb74 id
         have kk84:=kk75.then' ka78
         have HW85:=sE hw77
         clear hw77
         refine hK _ _ ?_ (λ qZ=>?_)
         .exact ⟨Kz c0,Kz c1⟩
         clear hK K
         try simp only[AB]
         have hsz:=lZ hb83
         obtain⟨d0,d1,d2,d3⟩:=Ay hb83
         have f0:=Ab hb83;have f00:=f0 0;have f01:=f0 1;have f02:=f0 2;have f03:=f0 3
         refine Bp [16] ?_
         refine Ag rfl (λ K hK=>?_)
         clear f0
         go_simp
         obtain⟨wz86,hz87⟩:∃ wz86,wz86=World.setCell (World.setCell (World.setCell (World.setCell (wa76) ⟨wg.heap.size,0,none⟩ (.int .u8 1)) ⟨wg.heap.size,1,none⟩ (.int .i64 c.ty)) ⟨wg.heap.size,2,none⟩ (.int .i64 c.ln)) ⟨wg.heap.size,3,none⟩ (.int .i64 c.sz):=⟨_,rfl⟩
         rw[<- hz87]
         obtain⟨tz88,kz89⟩:=BC hb83 _ _ _ _ wz86 hz87
         have hb90:=kz89.at_ hb79 (λ h=>by have h':wc72.heap.size=wg.heap.size:=h;omega)
         have kk91:Kp Aa wg wz86:=kk84.trans kz89 (λ i hi h=>by have h':i=wg.heap.size:=h;(try have hq:=Nat.le_of_eq h');(first|omega|(simp only[World.size_drew] at *;omega)))
         clear hz87 d0 f00 d1 f01 d2 f02 d3 f03
         refine hK _ _ ?_ (λ qZ=>?_)
         .exact ⟨Kz c0,Kz c1⟩
         clear hK K
         try simp only[AB]
         have hsz:=lZ hb90
         obtain⟨d0,d1,d2⟩:=cells3 hb90
         have f0:=Ab hb90;have f00:=f0 0;have f01:=f0 1;have f02:=f0 2
         refine Bp [17] ?_
         refine Ag rfl (λ K hK=>?_)
         clear f0
         go_simp
         obtain⟨wz92,hz93⟩:∃ wz92,wz92=World.setCell (World.setCell (World.setCell (wz86) ⟨wc72.heap.size,0,none⟩ (.int .u8 k)) ⟨wc72.heap.size,1,none⟩ (.int .i64 wds)) ⟨wc72.heap.size,2,none⟩ (.int .u64 m):=⟨_,rfl⟩
         rw[<- hz93]
         obtain⟨tz94,kz95⟩:=BL hb90 _ _ _ wz92 hz93
         have hb96:=kz95.at_ tz88 (λ h=>by have h':wg.heap.size=wc72.heap.size:=h;omega)
         have kk97:Kp Aa wg wz92:=kk91.trans kz95 (λ i hi h=>by have h':i=wc72.heap.size:=h;(try have hq:=Nat.le_of_eq h');(first|omega|(simp only[World.size_drew] at *;omega)))
         clear hz93 d0 f00 d1 f01 d2 f02
         refine hK _ _ ?_ (λ qZ=>?_)
         .exact ⟨Kz c0,Kz c1⟩
         clear hK K
         try simp only[AB]
         refine Ap 18 ?_
         try simp only[AB]
         refine wpAnyH_done (by kernel_rfl) ?_ _
         go_wp2_with fail
         go_meet
         exact⟨_,_,rfl,rfl,rfl,hb96,tz94,kk97⟩
        exact AllReadyH.nil
       refine Ai rfl (λ K hK=>?_) ?_
       .go_simp
        obtain⟨wa98,hw99⟩:∃ wa98,wa98=World.alloc wa64 (.cells #[.int .u8 0,(0:Int),.int .u64 0] 106):=⟨_,rfl⟩
        rw[<- hw99]
        have ka100:Kp Aa wa64 wa98:=by rw[hw99];exact ((Kr _ _).alloc _)
        have hge102:wg.heap.size<=wa64.heap.size:=kk70.size
        have hb101:wa98.heap[wa64.heap.size]?=some (.cells #[.int .u8 0,(0:Int),.int .u64 0] 106 (0,0)):=by rw[hw99];exact wN _ _
        have hl103:wa64.heap.size<wa98.heap.size:=lZ hb101
        have hx104:=lZ hb67
        have hb105:=ka100.at_ hb67 id
        have kk106:=kk70.then' ka100
        have HW107:=sE hw99
        clear hw99
        refine hK _ _ ?_ (λ qZ=>?_)
        .exact ⟨Kz c0,Kz c1⟩
        clear hK K
        try simp only[AB]
        refine Bp [9] ?_
        refine Ai rfl (λ K hK=>?_) ?_
        .go_simp
         with_reducible refine(HOf.o _ kk106).mono ?_
         rintro e wc108 ⟨rfl,kc109⟩
         have hb110:=kc109.at_ hb105 id
         have hb111:=kc109.at_ hb101 id
         have kk112:=kk106.then' kc109
         refine hK _ _ ?_ (λ qZ=>?_)
         .exact ⟨Kz c0,Kz c1⟩
         clear hK K
         try simp only[AB]
         refine Ap 10 ?_;refine Ap 11 ?_;refine Ap 12 ?_;refine Ap 13 ?_
         try simp only[AB]
         have hsz:=lZ hb110
         obtain⟨d0,d1,d2,d3⟩:=Ay hb110
         have f0:=Ab hb110;have f00:=f0 0;have f01:=f0 1;have f02:=f0 2;have f03:=f0 3
         refine Bp [16] ?_
         refine Ag rfl (λ K hK=>?_)
         clear f0
         go_simp
         obtain⟨wz113,hz114⟩:∃ wz113,wz113=World.setCell (World.setCell (World.setCell (World.setCell (wc108) ⟨wg.heap.size,0,none⟩ (.int .u8 1)) ⟨wg.heap.size,1,none⟩ (.int .i64 c.ty)) ⟨wg.heap.size,2,none⟩ (.int .i64 c.ln)) ⟨wg.heap.size,3,none⟩ (.int .i64 c.sz):=⟨_,rfl⟩
         rw[<- hz114]
         obtain⟨tz115,kz116⟩:=BC hb110 _ _ _ _ wz113 hz114
         have hb117:=kz116.at_ hb111 (λ h=>by have h':wa64.heap.size=wg.heap.size:=h;omega)
         have kk118:Kp Aa wg wz113:=kk112.trans kz116 (λ i hi h=>by have h':i=wg.heap.size:=h;(try have hq:=Nat.le_of_eq h');(first|omega|(simp only[World.size_drew] at *;omega)))
         clear hz114 d0 f00 d1 f01 d2 f02 d3 f03
         refine hK _ _ ?_ (λ qZ=>?_)
         .exact ⟨Kz c0,Kz c1⟩
         clear hK K
         try simp only[AB]
         have hsz:=lZ hb117
         obtain⟨d0,d1,d2⟩:=cells3 hb117
         have f0:=Ab hb117;have f00:=f0 0;have f01:=f0 1;have f02:=f0 2
         refine Bp [17] ?_
         refine Ag rfl (λ K hK=>?_)
         clear f0
         go_simp
         obtain⟨wz119,hz120⟩:∃ wz119,wz119=World.setCell (World.setCell (World.setCell (wz113) ⟨wa64.heap.size,0,none⟩ (.int .u8 k)) ⟨wa64.heap.size,1,none⟩ (.int .i64 wds)) ⟨wa64.heap.size,2,none⟩ (.int .u64 m):=⟨_,rfl⟩
         rw[<- hz120]
         obtain⟨tz121,kz122⟩:=BL hb117 _ _ _ wz119 hz120
         have hb123:=kz122.at_ tz115 (λ h=>by have h':wg.heap.size=wa64.heap.size:=h;omega)
         have kk124:Kp Aa wg wz119:=kk118.trans kz122 (λ i hi h=>by have h':i=wa64.heap.size:=h;(try have hq:=Nat.le_of_eq h');(first|omega|(simp only[World.size_drew] at *;omega)))
         clear hz120 d0 f00 d1 f01 d2 f02
         refine hK _ _ ?_ (λ qZ=>?_)
         .exact ⟨Kz c0,Kz c1⟩
         clear hK K
         try simp only[AB]
         refine Ap 18 ?_
         try simp only[AB]
         refine wpAnyH_done (by kernel_rfl) ?_ _
         go_wp2_with fail
         go_meet
         exact⟨_,_,rfl,rfl,rfl,hb123,tz121,kk124⟩
        exact AllReadyH.nil
       exact AllReadyH.nil
      refine Ai rfl (λ K hK=>?_) ?_
      .go_simp
       obtain⟨wa125,hw126⟩:∃ wa125,wa125=World.drew (World.alloc wg (.cells #[.int .u8 0,(0:Int),.int .u64 0] 106)):=⟨_,rfl⟩
       rw[<- hw126]
       have ka127:Kp Aa wg wa125:=by rw[hw126];exact ((Kr _ _).alloc _).drew
       have hge129:wg.heap.size<=wg.heap.size:=kk0.size
       have hb128:wa125.heap[wg.heap.size]?=some (.cells #[.int .u8 0,(0:Int),.int .u64 0] 106 (0,0)):=by rw[hw126];exact wN _ _
       have hl130:wg.heap.size<wa125.heap.size:=lZ hb128
       have kk131:=ka127
       have HW132:=sE hw126
       clear hw126
       refine hK _ _ ?_ (λ qZ=>?_)
       .exact ⟨Kz c0,Kz c1⟩
       clear hK K
       try simp only[AB]
       refine Bp [9,14] ?_
       refine Ai rfl (λ K hK=>?_) ?_
       .go_simp
        with_reducible refine(HOf.o _ kk131).mono ?_
        rintro e wc133 ⟨rfl,kc134⟩
        have hb135:=kc134.at_ hb128 id
        have kk136:=kk131.then' kc134
        refine hK _ _ ?_ (λ qZ=>?_)
        .exact ⟨Kz c0,Kz c1⟩
        clear hK K
        try simp only[AB]
        refine Ap 10 ?_;refine Ap 11 ?_;refine Ap 12 ?_;refine Ap 13 ?_
        try simp only[AB]
        refine Bp [14] ?_
        refine Ai rfl (λ K hK=>?_) ?_
        .go_simp
         obtain⟨wa137,hw138⟩:∃ wa137,wa137=World.alloc wc133 (.cells #[.int .u8 0,(0:Int),(0:Int),(0:Int)] 111):=⟨_,rfl⟩
         rw[<- hw138]
         have ka139:Kp Aa wc133 wa137:=by rw[hw138];exact ((Kr _ _).alloc _)
         have hge141:wg.heap.size<=wc133.heap.size:=kk136.size
         have hb140:wa137.heap[wc133.heap.size]?=some (.cells #[.int .u8 0,(0:Int),(0:Int),(0:Int)] 111 (0,0)):=by rw[hw138];exact wN _ _
         have hl142:wc133.heap.size<wa137.heap.size:=lZ hb140
         have hx143:=lZ hb135
         have hb144:=ka139.at_ hb135 id
         have kk145:=kk136.then' ka139
         have HW146:=sE hw138
         clear hw138
         refine hK _ _ ?_ (λ qZ=>?_)
         .exact ⟨Kz c0,Kz c1⟩
         clear hK K
         try simp only[AB]
         have hsz:=lZ hb140
         obtain⟨d0,d1,d2,d3⟩:=Ay hb140
         have f0:=Ab hb140;have f00:=f0 0;have f01:=f0 1;have f02:=f0 2;have f03:=f0 3
         refine Bp [16] ?_
         refine Ag rfl (λ K hK=>?_)
         clear f0
         go_simp
         obtain⟨wz147,hz148⟩:∃ wz147,wz147=World.setCell (World.setCell (World.setCell (World.setCell (wa137) ⟨wc133.heap.size,0,none⟩ (.int .u8 1)) ⟨wc133.heap.size,1,none⟩ (.int .i64 c.ty)) ⟨wc133.heap.size,2,none⟩ (.int .i64 c.ln)) ⟨wc133.heap.size,3,none⟩ (.int .i64 c.sz):=⟨_,rfl⟩
         rw[<- hz148]
         obtain⟨tz149,kz150⟩:=BC hb140 _ _ _ _ wz147 hz148
         have hb151:=kz150.at_ hb144 (λ h=>by have h':wg.heap.size=wc133.heap.size:=h;omega)
         have kk152:Kp Aa wg wz147:=kk145.trans kz150 (λ i hi h=>by have h':i=wc133.heap.size:=h;(try have hq:=Nat.le_of_eq h');(first|omega|(simp only[World.size_drew] at *;omega)))
         clear hz148 d0 f00 d1 f01 d2 f02 d3 f03
         refine hK _ _ ?_ (λ qZ=>?_)
         .exact ⟨Kz c0,Kz c1⟩
         clear hK K
         try simp only[AB]
         have hsz:=lZ hb151
         obtain⟨d0,d1,d2⟩:=cells3 hb151
         have f0:=Ab hb151;have f00:=f0 0;have f01:=f0 1;have f02:=f0 2
         refine Bp [17] ?_
         refine Ag rfl (λ K hK=>?_)
         clear f0
         go_simp
         obtain⟨wz153,hz154⟩:∃ wz153,wz153=World.setCell (World.setCell (World.setCell (wz147) ⟨wg.heap.size,0,none⟩ (.int .u8 k)) ⟨wg.heap.size,1,none⟩ (.int .i64 wds)) ⟨wg.heap.size,2,none⟩ (.int .u64 m):=⟨_,rfl⟩
         rw[<- hz154]
         obtain⟨tz155,kz156⟩:=BL hb151 _ _ _ wz153 hz154
         have hb157:=kz156.at_ tz149 (λ h=>by have h':wc133.heap.size=wg.heap.size:=h;omega)
         have kk158:Kp Aa wg wz153:=kk152.trans kz156 (λ i hi h=>by have h':i=wg.heap.size:=h;(try have hq:=Nat.le_of_eq h');(first|omega|(simp only[World.size_drew] at *;omega)))
         clear hz154 d0 f00 d1 f01 d2 f02
         refine hK _ _ ?_ (λ qZ=>?_)
         .exact ⟨Kz c0,Kz c1⟩
         clear hK K
         try simp only[AB]
         refine Ap 18 ?_
         try simp only[AB]
         refine wpAnyH_done (by kernel_rfl) ?_ _
         go_wp2_with fail
         go_meet
         exact⟨_,_,rfl,rfl,rfl,hb157,tz155,kk158⟩
        exact AllReadyH.nil
       refine Ai rfl (λ K hK=>?_) ?_
       .go_simp
        obtain⟨wa159,hw160⟩:∃ wa159,wa159=World.alloc wa125 (.cells #[.int .u8 0,(0:Int),(0:Int),(0:Int)] 111):=⟨_,rfl⟩
        rw[<- hw160]
        have ka161:Kp Aa wa125 wa159:=by rw[hw160];exact ((Kr _ _).alloc _)
        have hge163:wg.heap.size<=wa125.heap.size:=kk131.size
        have hb162:wa159.heap[wa125.heap.size]?=some (.cells #[.int .u8 0,(0:Int),(0:Int),(0:Int)] 111 (0,0)):=by rw[hw160];exact wN _ _
        have hl164:wa125.heap.size<wa159.heap.size:=lZ hb162
        have hx165:=lZ hb128
        have hb166:=ka161.at_ hb128 id
        have kk167:=kk131.then' ka161
        have HW168:=sE hw160
        clear hw160
        refine hK _ _ ?_ (λ qZ=>?_)
        .exact ⟨Kz c0,Kz c1⟩
        clear hK K
        try simp only[AB]
        refine Bp [9] ?_
        refine Ai rfl (λ K hK=>?_) ?_
        .go_simp
         with_reducible refine(HOf.o _ kk167).mono ?_
         rintro e wc169 ⟨rfl,kc170⟩
         have hb171:=kc170.at_ hb166 id
         have hb172:=kc170.at_ hb162 id
         have kk173:=kk167.then' kc170
         refine hK _ _ ?_ (λ qZ=>?_)
         .exact ⟨Kz c0,Kz c1⟩
         clear hK K
         try simp only[AB]
         refine Ap 10 ?_;refine Ap 11 ?_;refine Ap 12 ?_;refine Ap 13 ?_
         try simp only[AB]
         have hsz:=lZ hb172
         obtain⟨d0,d1,d2,d3⟩:=Ay hb172
         have f0:=Ab hb172;have f00:=f0 0;have f01:=f0 1;have f02:=f0 2;have f03:=f0 3
         refine Bp [16] ?_
         refine Ag rfl (λ K hK=>?_)
         clear f0
         go_simp
         obtain⟨wz174,hz175⟩:∃ wz174,wz174=World.setCell (World.setCell (World.setCell (World.setCell (wc169) ⟨wa125.heap.size,0,none⟩ (.int .u8 1)) ⟨wa125.heap.size,1,none⟩ (.int .i64 c.ty)) ⟨wa125.heap.size,2,none⟩ (.int .i64 c.ln)) ⟨wa125.heap.size,3,none⟩ (.int .i64 c.sz):=⟨_,rfl⟩
         rw[<- hz175]
         obtain⟨tz176,kz177⟩:=BC hb172 _ _ _ _ wz174 hz175
         have hb178:=kz177.at_ hb171 (λ h=>by have h':wg.heap.size=wa125.heap.size:=h;omega)
         have kk179:Kp Aa wg wz174:=kk173.trans kz177 (λ i hi h=>by have h':i=wa125.heap.size:=h;(try have hq:=Nat.le_of_eq h');(first|omega|(simp only[World.size_drew] at *;omega)))
         clear hz175 d0 f00 d1 f01 d2 f02 d3 f03
         refine hK _ _ ?_ (λ qZ=>?_)
         .exact ⟨Kz c0,Kz c1⟩
         clear hK K
         try simp only[AB]
         have hsz:=lZ hb178
         obtain⟨d0,d1,d2⟩:=cells3 hb178
         have f0:=Ab hb178;have f00:=f0 0;have f01:=f0 1;have f02:=f0 2
         refine Bp [17] ?_
         refine Ag rfl (λ K hK=>?_)
         clear f0
         go_simp
         obtain⟨wz180,hz181⟩:∃ wz180,wz180=World.setCell (World.setCell (World.setCell (wz174) ⟨wg.heap.size,0,none⟩ (.int .u8 k)) ⟨wg.heap.size,1,none⟩ (.int .i64 wds)) ⟨wg.heap.size,2,none⟩ (.int .u64 m):=⟨_,rfl⟩
         rw[<- hz181]
         obtain⟨tz182,kz183⟩:=BL hb178 _ _ _ wz180 hz181
         have hb184:=kz183.at_ tz176 (λ h=>by have h':wa125.heap.size=wg.heap.size:=h;omega)
         have kk185:Kp Aa wg wz180:=kk179.trans kz183 (λ i hi h=>by have h':i=wg.heap.size:=h;(try have hq:=Nat.le_of_eq h');(first|omega|(simp only[World.size_drew] at *;omega)))
         clear hz181 d0 f00 d1 f01 d2 f02
         refine hK _ _ ?_ (λ qZ=>?_)
         .exact ⟨Kz c0,Kz c1⟩
         clear hK K
         try simp only[AB]
         refine Ap 18 ?_
         try simp only[AB]
         refine wpAnyH_done (by kernel_rfl) ?_ _
         go_wp2_with fail
         go_meet
         exact⟨_,_,rfl,rfl,rfl,hb184,tz182,kk185⟩
        exact AllReadyH.nil
       exact AllReadyH.nil
      exact AllReadyH.nil
     case rest=>
      obtain⟨b1,b2,rfl,rfl,rfl,hb1,hb2,kx⟩:=hcut
      obtain⟨d0,d1,d2,d3⟩:=Ay hb1
      obtain⟨t0,t1,t2⟩:=cells3 hb2
      have hl1b:=lZ hb1
      have hl2b:=lZ hb2
      have HKx:Sl (Kp Aa wg wc):=⟨kx⟩
      replace s3:=kx.cell s3 id
      have hlx:w.heap.size<wc.heap.size:=Nat.lt_of_lt_of_le hlg kx.size
      clear hb1 hb2 c0 c1 s1 s2 kx d0 d1 d3
      go_wp2_with fail
      refine(HRefs.o _).mono ?_
      rintro e w5 ⟨vr,rfl,hor,k5⟩
      have HOR:=sE hor
      have HK5:Sl (Kp Aa wg w5):=⟨HKx.o.then' k5⟩
      replace s3:=k5.cell s3 id
      have hl5:w.heap.size<w5.heap.size:=Nat.lt_of_lt_of_le hlx k5.size
      obtain⟨M,hM⟩:∃ M,(BP k wds m (c.ln:Nat)).length=M:=⟨_,rfl⟩
      rw[hM] at HOR
      clear hor k5 d2 t0 t1 t2
      rcases Nat.eq_zero_or_pos M with h0M|h0M
      .subst h0M
       have hn1:∃ a cc,vr=.slice a 0 cc:=by
        rcases HOR.o.2 with ⟨h,_⟩|⟨gb,cap5,cur,hu,_⟩
        .exact ⟨none,0,h⟩
        .exact ⟨_,_,hu⟩
       obtain⟨a,cc,rfl⟩:=hn1
       have HR0:Sl (BP k wds m (c.ln:Nat)=[]):=⟨List.length_eq_zero_iff.1 hM⟩
       clear hM
       go_wp2
       exact bodyPost_ret (v:=.bool true) (by simp[results,results102,go_sem]) rfl ⟨W,cs,q,rfl,HBg.o.Ac HK5.o,rfl,.inr ⟨G1,G2,G3,c,c2.g,k,wds,m,⟨A1.o,A2.o,A3.o⟩,⟨HC.o,HTg.o⟩,HG1.o,HG2.o,HTy.o,.inl ⟨HR0.o,rfl⟩⟩⟩
      .have hi3:G3%M<M:=Nat.mod_lt _ h0M
       have hm3:(G3:Int)%(M:Int)=((G3%M:Nat):Int):=by push_cast;rfl
       obtain⟨i3,he3⟩:∃ i3,G3%M=i3:=⟨_,rfl⟩
       rw[he3] at hi3 hm3
       obtain⟨j,hj⟩:∃ j,(BP k wds m (c.ln:Nat))[i3]?=some j:=⟨(BP k wds m (c.ln:Nat))[i3]'(by omega),by simp⟩
       obtain⟨gr,capr5,rfl,hgr1,hgr2,cz3⟩:=owns_num HOR.o hM.symm hj
       have hjs:(j:Int)<AZ k wds (c.ln:Nat):=by
        have h8:=refsUpto_mem (List.mem_of_getElem? hj)
        have h9:=(Bj HE.o).1
        omega
       obtain⟨z1,z2,z3⟩:=slot_in HBg.o.cells HC.o HTg.o HTy.o hjs
       have HZ:Sl (2*c.g<2*c.g+1+j/\2*c.g+1+j<2*c.fin/\2*c.g+1+j<P.n):=⟨⟨z1,z2,z3⟩⟩
       have HJ:=sE hjs
       have hM0:((M:Int)==0)=false:=by simp;omega
       have hb3:=A3.o
       have B5:=HBg.o.Ac HK5.o
       have HB5:=sE B5
       obtain⟨f5,hS5⟩:=B5.at_
       have HS5:=sE hS5
       have HAr:=sE (FR P W f5 w5 hS5)
       have HTb:=sE (STable_at P W f5 w5 hS5)
       have HOf5:=sE (SOf_any (c.g:Nat) P.a P.q P.n P.t P.tq W P.ts w5 hS5.fl hS5.ar hS5.tb)
       have HJ3:Sl ((BP k wds m (c.ln:Nat))[G3%(BP k wds m (c.ln:Nat)).length]?=some j):=⟨by rw[hM,he3];exact hj⟩
       clear hM he3 hj hjs z1 z2 B5 hS5
       go_wp2_with fail
       refine HAr.o.mono ?_
       rintro e w6 ⟨rfl,rfl⟩
       go_wp2_with fail
       refine HTb.o.mono ?_
       rintro e w6 ⟨rfl,rfl⟩
       go_wp2_with fail
       refine HOf5.o.mono ?_
       intro e w6 hp
       unfold Db at hp
       rw[HB5.o.cells.obj HC.o HTg.o] at hp
       obtain⟨vb,k',wds',m',h1,rfl,hv,hvb,k6⟩:=hp
       rw[HTy.o] at h1
       injection h1 with h1
       injection h1 with h1 h1' h1''
       subst h1 h1' h1''
       have HV:=sE hv
       have HB6:=sE (HB5.o.Ac k6)
       have HA6:=sE ((HS5.o.Ac k6).ar)
       have HSt:=sE (VStore_yes j Y vb P.a P.q P.n W c k wds m w6 HA6.o HV.o HE.o HJ.o HYb.o HZ.o.2.2)
       clear hv hvb k6
       go_wp2_with fail
       refine HSt.o.mono ?_
       rintro e w7 ⟨rfl,k7,A7⟩
       have K7:=sE k7
       have HA7:=sE A7
       have hno:∀ b,¬ P.own b->¬ (b=P.a\/b=P.q):=λ b h e=>h (by rcases e with e|e;exact .inl e;exact .inr (.inl e))
       have hrn:¬ P.own rb:=λ h=>HB1.o.rbn (Sp.Cr h)
       have hqn:¬ P.own q:=λ h=>HB1.o.qn (Sp.Cr h)
       have D7:=HB6.o.dc.keep k7 (hno _ hrn) (hno _ hqn)
       have HD7:=sE D7
       obtain⟨cap,g0,g1⟩:=D7.head
       have hlr7:=D7.lt
       clear s3 k7 A7 D7 hrn hqn hno cz3
       go_wp2_with (at_builtin;go_loud (refine copy_words rfl (.tmp 127) rfl q P.n cap W rfl HD7.o.row (by have:=HZ.o.2.2;omega) ?_;intro w8 q1 cap1 hr8 hq8 k8;have HR8:=sE hr8;have K8:=sE k8;have a0:=hr8.at_ HZ.o.2.2;have a1:=hr8.free (2*c.g+1+j);have D8:=HD7.o.Ac k8;obtain ⟨cap2,b0,b1⟩:=D8.head;have b2:=D8.free 0;have hlt8:=D8.lt;have hq8':=hr8.lt;have hne:¬ q1=rb:=(by omega);have hne':¬ rb=q1:=(by omega);have HD8:=sE D8;have hqq:¬ q=q1:=(by have:=HD7.o.row.lt;omega);clear g0 g1 hr8 k8 D8))
       try go_wp2
       have k9:Kp (λ k=>k=q1) w8 (w8.setCell ⟨q1,2*c.g+1+j,none⟩ (.int .u64 Y)):=(Kr (λ k=>k=q1) w8).setCell (λ _=>rfl) _
       have D9:=HD8.o.keep k9 hne' hqq
       obtain⟨cap3,hr9⟩:=D9.hr
       have k10:Kp (λ k=>k=rb) (w8.setCell ⟨q1,2*c.g+1+j,none⟩ (.int .u64 Y)) ((w8.setCell ⟨q1,2*c.g+1+j,none⟩ (.int .u64 Y)).setCell rb (.slice (some ⟨q1,0,none⟩) P.n cap1)):=(Kr (λ k=>k=rb) _).setCell (λ _=>rfl) _
       have D10:DocAt ((w8.setCell ⟨q1,2*c.g+1+j,none⟩ (.int .u64 Y)).setCell rb (.slice (some ⟨q1,0,none⟩) P.n cap1)) rb q1 P.n (DN W (2*c.g+1+j) Y) lv:=
        ⟨⟨cap1,by rw[bZ hr9 _];rfl⟩,(HR8.o.store HZ.o.2.2 Y HYb.o).keep k10 hne⟩
       have kF:Kp (λ k=>k=rb) w7 ((w8.setCell ⟨q1,2*c.g+1+j,none⟩ (.int .u64 Y)).setCell rb (.slice (some ⟨q1,0,none⟩) P.n cap1)):=
        ((K8.o.Aw _).trans k9 (λ b hb h=>by have h':b=q1:=h;omega)).trans k10 (λ _ _ h=>h)
       exact bodyPost_ret (v:=.bool true) (by simp[results,results102,go_sem]) rfl ⟨_,cs,q1,rfl,HB6.o.lay K7.o HA7.o HC.o HZ.o.1 HZ.o.2.1 kF D10 (.inr hq8),rfl,.inr ⟨G1,G2,G3,c,c2.g,k,wds,m,⟨A1.o,A2.o,A3.o⟩,⟨HC.o,HTg.o⟩,HG1.o,HG2.o,HTy.o,.inr ⟨j,Y,HJ3.o,HYi.o,rfl⟩⟩⟩

theorem Does_joinR(w0 w:World)(P:Sp)(rb q:Nat)(lv:Value)(W:Nat->Nat)(cs:List Cel)(g i n y:Int)(u:Value)(hb:Both w0 w P rb q lv W cs)(hu:∃ a l c,u=.slice a l c):
  Calls prog 50 #[.pointer (some P.s),.pointer (some rb),DK 5 g i n y u] w (EP w0 P rb lv (λ W' cs'=>JoinStep P W cs g i n W' cs') w):=by
 obtain⟨ua,ul,uc,rfl⟩:=hu
 obtain⟨w1,hw1⟩:∃ w1,w1=w.alloc (.cells #[(5:Int),.int .i64 g,.int .i64 i,.int .i64 n,.int .u64 y,.slice ua ul uc] 104):=⟨_,rfl⟩
 have k1:Kp Aa w w1:=by rw[hw1];exact (Kr _ w).alloc _
 have HJn:=sE (joins_any w0 w1 P rb q lv W cs 5 g i n y (.slice ua ul uc) (hb.Ac k1) ⟨ua,ul,uc,rfl⟩)
 unfold DK at HJn ⊢
 clear hb k1
 go_enter func50,ntmps50
 go_wp2_with fail
 rw[<- hw1]
 clear hw1
 refine HJn.o.mono ?_
 rintro e w2 ⟨W',cs',q',rfl,hB,hR⟩
 have HR:=sE hR
 clear hR
 have HB:=sE hB
 clear hB
 go_wp2
 exact bodyPost_ret (v:=.bool true) (by simp[results,results50,go_sem]) rfl ⟨W',cs',q',rfl,HB.o,HR.o⟩

theorem Does_join(w0 w:World)(P:Sp)(rb q:Nat)(lv:Value)(W:Nat->Nat)(cs:List Cel)(g i n y:Int)(u:Value)(hb:Both w0 w P rb q lv W cs)(hu:∃ a l c,u=.slice a l c):
  Calls prog 50 #[.pointer (some P.s),.pointer (some rb),DK 5 g i n y u] w (Eo w0 P rb lv w):=
 (Does_joinR w0 w P rb q lv W cs g i n y u hb hu).mono λ_ _ h=>h.weak

def Ea(n:Int)(xs:List TypR)(lv:Value)(w:World)(e:Ending)(w':World):Prop:=
 (e=.returned (.tuple #[.pointer none,.pointer none,.bool true])/\Kp Aa w w')\/
 (∃ P rb q W cs,e=.returned (.tuple #[.pointer (some P.s),.pointer (some ⟨rb,0,none⟩),.bool true])/\Both w w' P rb q lv W cs/\(P.n:Int)=n/\P.ts=xs/\16<=P.n)

theorem Made_no(n:Int)(lv:Value)(xs:List TypR)(w:World)(hv:A8 w lv xs)(hl:xs.length<=17592186044416)(he:¬ Ga 0 xs=0):
  Calls prog 49 #[.int .i64 n,lv] w (Ea n xs lv w):=by
 have HT:=sE (TNew_any lv xs w hv hl)
 have hb:(Ga 0 xs !=0)=true:=by simpa using he
 have HE:=sE he
 clear hv hl he
 go_enter func49,ntmps49
 go_wp2_with fail
 refine HT.o.mono ?_
 rintro e w1 ⟨k1,⟨h0,-⟩|⟨-,rfl⟩⟩
 .exact absurd h0 HE.o
 .go_wp2
  exact bodyPost_ret (v:=.tuple #[.pointer none,.pointer none,.bool true]) (by simp[results,results49,go_sem]) rfl (.inl ⟨rfl,k1⟩)

theorem Made_words(n:Int)(lv:Value)(xs:List TypR)(w:World)(hv:A8 w lv xs)(hl:xs.length<=17592186044416)(he:Ga 0 xs=0)(hn:Dn n=false):
  Calls prog 49 #[.int .i64 n,lv] w (Ea n xs lv w):=by
 have HT:=sE (TNew_any lv xs w hv hl)
 have HE:=sE he
 have HN:Sl (∀ t W',Calls prog 93 #[.int .i64 n,.pointer (some ⟨t,0,none⟩)] W' λ e w'=>e=.returned (.tuple #[.pointer none,(2:Int)])/\w'=W'):=⟨λ t W'=>SNew_no n t W' hn⟩
 have hn':n<16\/65536<n\/n%2≠0:=by
  unfold Dn at hn
  have:=of_decide_eq_false hn
  omega
 clear hv hl he hn
 rcases Decidable.em (n<16) with h1|h1
 .go_enter func49,ntmps49
  go_wp2_with fail
  refine HT.o.mono ?_
  rintro e w1 ⟨k1,⟨-,t,tq,rfl,-⟩|⟨h0,-⟩⟩
  .go_wp2_with fail
   refine(HN.o t w1).mono ?_
   rintro e w2 ⟨rfl,rfl⟩
   go_wp2
   exact bodyPost_ret (v:=.tuple #[.pointer none,.pointer none,.bool true]) (by simp[results,results49,go_sem]) rfl (.inl ⟨rfl,k1⟩)
  .exact absurd HE.o h0
 .rcases Decidable.em (65536<n) with h2|h2
  .go_enter func49,ntmps49
   go_wp2_with fail
   refine HT.o.mono ?_
   rintro e w1 ⟨k1,⟨-,t,tq,rfl,-⟩|⟨h0,-⟩⟩
   .go_wp2_with fail
    refine(HN.o t w1).mono ?_
    rintro e w2 ⟨rfl,rfl⟩
    go_wp2
    exact bodyPost_ret (v:=.tuple #[.pointer none,.pointer none,.bool true]) (by simp[results,results49,go_sem]) rfl (.inl ⟨rfl,k1⟩)
   .exact absurd HE.o h0
  .have h3:n%2≠0:=by omega
   have h4:(n%2 !=0)=true:=by simpa using h3
   have h0n:0<=n:=by omega
   go_enter func49,ntmps49
   go_wp2_with fail
   refine HT.o.mono ?_
   rintro e w1 ⟨k1,⟨-,t,tq,rfl,-⟩|⟨h0,-⟩⟩
   .go_wp2_with fail
    refine(HN.o t w1).mono ?_
    rintro e w2 ⟨rfl,rfl⟩
    go_wp2
    exact bodyPost_ret (v:=.tuple #[.pointer none,.pointer none,.bool true]) (by simp[results,results49,go_sem]) rfl (.inl ⟨rfl,k1⟩)
   .exact absurd HE.o h0

def NewPost(n:Nat)(xs:List TypR)(lv:Value)(w:World)(e:Ending)(w':World):Prop:=
 ∃ P rb q,e=.returned (.tuple #[.pointer (some P.s),.pointer (some ⟨rb,0,none⟩),.bool true])/\Both w w' P rb q lv (Bd (λ _=>0) 0 (n/2)) (gapL 0 (n/2))/\P.n=n/\P.ts=xs

theorem Made_new(n:Nat)(lv:Value)(xs:List TypR)(w:World)(hF:Au w)(hv:A8 w lv xs)(hl:xs.length<=17592186044416)(hM:Cw xs)(he:Ga 0 xs=0)(hn:Dn (n:Nat)=true):
  Calls prog 49 #[n,lv] w (NewPost n xs lv w):=by
 have HT:=sE (TNew_any lv xs w hv hl)
 have HV:=sE hv
 have HMs:=sE hM
 have HF:=sE hF
 have HE:=sE he
 have hlv:∃ a l c,lv=.slice a l c:=by obtain⟨a,c,h,-⟩:=hv;exact ⟨_,_,_,h⟩
 have hn':16<=n/\n<=65536/\n%2=0:=by
  unfold Dn at hn
  have:=of_decide_eq_true hn
  omega
 obtain⟨h1,h2,h3⟩:=hn'
 have HLv:=sE hlv
 have H3:=sE h3
 have h4:((n:Int)%2 !=0)=false:=by simp;omega
 clear hv hl hM he hn hF hlv h3
 go_enter func49,ntmps49
 go_wp2_with fail
 refine HT.o.mono ?_
 rintro e w1 ⟨k1,⟨-,t,tq,rfl,hta,ht1,ht2,ht3⟩|⟨h0,-⟩⟩
 .have HSN:=sE (SNew_yesW n t tq xs w1 hta (HF.o.Ac k1) hta.lt_t ht3 h1 h2 H3.o)
  have HK1:=sE k1
  have few:=hta.few
  clear k1 hta
  go_wp2_with fail
  refine HSN.o.mono ?_
  rintro e w2 ⟨P,hPt,hPq,hPs,hPn,rfl,hS,hown,hs0,hb0,k2⟩
  have HSp:=sE hS
  have HK2:=sE (HK1.o.then' k2)
  have HOw:Sl (∀ k,P.own k->w.heap.size<=k):=⟨λ k h=>Nat.le_trans HK1.o.size (hown k h)⟩
  have HPs:=sE hPs
  have HPn:=sE hPn
  have HDN:=sE (DNew_at n lv w2 HLv.o (by omega) h2)
  have hAr:∃ f,SpaceAt w2 P (Bd (λ _=>0) 0 (n/2)) f:=by obtain⟨f,h,_⟩:=hS;exact ⟨f,h⟩
  obtain⟨f,hAt⟩:=hAr
  have HAt:=sE hAt
  clear hS k2 hown hPs hPn hPt hPq hAt
  go_wp2_with fail
  refine HDN.o.mono ?_
  rintro e w3 ⟨rb,q,rfl,hrb,hq,hd,k3⟩
  have HD:=sE hd
  have HK3:=sE k3
  have HA3:=sE (FR P _ f w3 (HAt.o.Ac k3))
  clear hd k3
  go_wp2_with fail
  refine HA3.o.mono ?_
  rintro e w4 ⟨rfl,rfl⟩
  go_wp2
  refine bodyPost_ret (v:=.tuple #[.pointer (some P.s),.pointer (some rb),.bool true]) (by simp[results,results49,go_sem]) rfl ⟨P,rb,q,rfl,⟨HSp.o.Ac HK3.o,?_,HOw.o,?_,?_,?_,BX.gap _ _,?_,?_,?_,?_⟩,HPn.o,HPs.o⟩
  .rw [HPn.o];exact HD.o
  .exact Nat.le_trans HK2.o.size hrb
  .exact λ h=>by have:=HAt.o.lt rb h;omega
  .exact λ h=>by have:=HAt.o.lt q h;omega
  .exact (HK2.o.then' HK3.o).Aw _
  .rw [HPs.o];exact HV.o
  .rw [HPs.o];exact few
  .rw [HPs.o];exact HMs.o
 .exact absurd HE.o h0

theorem Made_yes(n:Nat)(lv:Value)(xs:List TypR)(w:World)(hF:Au w)(hv:A8 w lv xs)(hl:xs.length<=17592186044416)(hM:Cw xs)(he:Ga 0 xs=0)(hn:Dn (n:Nat)=true):
  Calls prog 49 #[n,lv] w (Ea (n:Nat) xs lv w):=by
 refine(Made_new n lv xs w hF hv hl hM he hn).mono ?_
 rintro e w' ⟨P,rb,q,h1,h2,h3,h4⟩
 refine .inr ⟨P,rb,q,_,_,h1,h2,by rw[h3],h4,?_⟩
 unfold Dn at hn
 have:=of_decide_eq_true hn
 omega

theorem Made_any(n:Int)(lv:Value)(xs:List TypR)(w:World)(hF:Au w)(hv:A8 w lv xs)(hl:xs.length<=17592186044416)(hM:Cw xs):
  Calls prog 49 #[.int .i64 n,lv] w (Ea n xs lv w):=by
 by_cases he:Ga 0 xs=0
 .cases hn:Dn n with
  |false=>exact Made_words n lv xs w hv hl he hn
  |true=>
   have h:=hn
   unfold Dn at h
   have:=of_decide_eq_true h
   obtain⟨N,rfl⟩:=Int.eq_ofNat_of_zero_le (show 0<=n by omega)
   exact Made_yes N lv xs w hF hv hl hM he hn
 .exact Made_no n lv xs w hv hl he

theorem Does_any(w0 w:World)(P:Sp)(rb q:Nat)(lv:Value)(W:Nat->Nat)(cs:List Cel)(d g i n y:Int)(u:Value)(m:Nat)(hb:Both w0 w P rb q lv W cs)(hy:0<=y/\y<=18446744073709551615)(hI:∃ x,Bw 1 w0 u m x)(hm:m<=300):
  Calls prog 50 #[.pointer (some P.s),.pointer (some rb),DK d g i n y u] w (Eo w0 P rb lv w):=by
 obtain⟨x,hx⟩:=hI
 have hu:∃ a l c,u=.slice a l c:=by obtain⟨a,c,h,-⟩:=hx;exact ⟨_,_,_,h⟩
 by_cases h0:d=0
 .subst h0;exact Does_put w0 w P rb q lv W cs g i n y u hb hu
 by_cases h1:d=1
 .subst h1;exact Does_drop w0 w P rb q lv W cs g i n y u hb hu
 by_cases h2:d=2
 .subst h2;exact Does_slot w0 w P rb q lv W cs g i n y u hb hu hy
 by_cases h3:d=3
 .subst h3;exact Does_settle w0 w P rb q lv W cs g i n y u hb hu m x hx hm
 by_cases h5:d=5
 .subst h5;exact Does_join w0 w P rb q lv W cs g i n y u hb hu
 .exact Does_else w0 w P rb q lv W cs d g i n y u hb h0 h1 h2 h3 h5 hu

set_option maxRecDepth 20000 in
theorem Played_any(n:Int)(lv v2:Value)(xs:List TypR)(len:Nat)(dd gg ii nn yy:Nat->Int)(uu:Nat->Value)(mm:Nat->Nat)(w:World)(hF:Au w)(hv:A8 w lv xs)(hl:xs.length<=17592186044416)(hM:Cw xs)
  (h2:FT w v2 len dd gg ii nn yy uu mm) (hlen:len<=60) (hy:∀ j,j<len->0<=yy j/\yy j<=18446744073709551615) (hA:AtsAt w len uu mm) (hm:∀ j,j<len->mm j<=300):
  Calls prog 10 #[.int .i64 n,lv,v2] w (Ea n xs lv w):=by
 have HMd:=sE (Made_any n lv xs w hF hv hl hM)
 have HY:=sE hy
 have HAt:=sE hA
 have HMm:=sE hm
 obtain⟨va,vc,rfl,hx⟩:=h2
 have HX:=sE hx
 clear hF hv hl hM hy hA hm hx
 go_enter func10,ntmps10
 go_wp2_with fail
 refine HMd.o.mono ?_
 rintro e w1 (⟨rfl,k1⟩|⟨P,rb,q,W,cs,rfl,hB,hPn,hPs,h16⟩)
 .go_wp2
  exact bodyPost_ret (v:=.tuple #[.pointer none,.pointer none,.bool true]) (by simp[results,results10,go_sem]) rfl (.inl ⟨rfl,k1⟩)
 .have HB:=sE hB
  have HPn:=sE hPn
  have HPs:=sE hPs
  clear hB hPn hPs
  go_wp2_with fail
  go_loopw [12] (λ z wr=>∃ (j q':Nat) (W':Nat->Nat) (cs':List Cel),j<=len/\z=.int .i64 (j:Nat)/\Sl (Both w wr P rb q' lv W' cs')) (λ z _=>len-(intOf z).toNat)
  case atStart=>exact ⟨0,q,W,cs,Nat.zero_le _,rfl,HB⟩
  case round=>
   obtain⟨j,q',W',cs',hj,rfl,HBr⟩:=hrel
   by_cases hjl:j<len
   .have hjl':(j:Int)<(len:Int):=by omega
    obtain⟨b,o,rfl,hbl,x0,x1,x2,x3,x4,x5,⟨ua,uc,hu⟩,-⟩:=HX.o j hjl
    have hnb:¬ w.heap.size<=b:=by omega
    have y0:=HBr.o.kb.cell x0 hnb
    have y1:=HBr.o.kb.cell x1 hnb
    have y2:=HBr.o.kb.cell x2 hnb
    have y3:=HBr.o.kb.cell x3 hnb
    have y4:=HBr.o.kb.cell x4 hnb
    have y5:=HBr.o.kb.cell x5 hnb
    have hbw:b<wr.heap.size:=Nat.lt_of_lt_of_le hbl HBr.o.size
    have HD:=sE (Does_any w wr P rb q' lv W' cs' (dd j) (gg j) (ii j) (nn j) (yy j) (uu j) (mm j) HBr.o (HY.o j hjl) (HAt.o j hjl) (HMm.o j hjl))
    unfold DK at HD
    rw[hu] at y5 HD
    clear x0 x1 x2 x3 x4 x5 hnb hu
    go_wp2_with fail
    refine HD.o.mono ?_
    rintro e w3 ⟨W3,cs3,q3,rfl,hB3⟩
    have HB3:=sE hB3
    clear hB3 y0 y1 y2 y3 y4 y5
    go_wp2
    exact⟨⟨j+1,q3,W3,cs3,by omega,by go_num,HB3⟩,by simp only[intOf];omega⟩
   .have hjl':¬ (j:Int)<(len:Int):=by omega
    go_wp2
    exact bodyPost_ret (v:=.tuple #[.pointer (some P.s),.pointer (some rb),.bool true]) (by simp[results,results10,go_sem]) rfl (.inr ⟨P,rb,q',W',cs',rfl,HBr.o,HPn.o,HPs.o,h16⟩)

def StepR(P:Sp)(W:Nat->Nat)(cs:List Cel)(d g i n:Int)(W':Nat->Nat)(cs':List Cel):Prop:=
 (d=0->PutStep P W cs g i n W' cs')/\(d=5->JoinStep P W cs g i n W' cs')

theorem Does_anyR(w0 w:World)(P:Sp)(rb q:Nat)(lv:Value)(W:Nat->Nat)(cs:List Cel)(d g i n y:Int)(u:Value)(m:Nat)(hb:Both w0 w P rb q lv W cs)(hy:0<=y/\y<=18446744073709551615)(hI:∃ x,Bw 1 w0 u m x)(hm:m<=300):
  Calls prog 50 #[.pointer (some P.s),.pointer (some rb),DK d g i n y u] w (EP w0 P rb lv (λ W' cs'=>StepR P W cs d g i n W' cs') w):=by
 have hu:∃ a l c,u=.slice a l c:=by obtain⟨x,a,c,h,-⟩:=hI;exact ⟨_,_,_,h⟩
 by_cases h0:d=0
 .subst h0
  refine(Does_putR w0 w P rb q lv W cs g i n y u hb hu).mono ?_
  rintro e w' ⟨W',cs',q',h1,h2,h3⟩
  exact⟨W',cs',q',h1,h2,λ _=>h3,λ h=>absurd h (by omega)⟩
 by_cases h5:d=5
 .subst h5
  refine(Does_joinR w0 w P rb q lv W cs g i n y u hb hu).mono ?_
  rintro e w' ⟨W',cs',q',h1,h2,h3⟩
  exact⟨W',cs',q',h1,h2,λ h=>absurd h (by omega),λ _=>h3⟩
 refine(Does_any w0 w P rb q lv W cs d g i n y u m hb hy hI hm).mono ?_
 rintro e w' ⟨W',cs',q',h1,h2⟩
 exact⟨W',cs',q',h1,h2,λ h=>absurd h h0,λ h=>absurd h h5⟩

inductive RunR (P:Sp) (dd gg ii nn:Nat->Int) (W0:Nat->Nat) (cs0:List Cel):Nat->(Nat->Nat)->List Cel->Prop
 |zero:RunR P dd gg ii nn W0 cs0 0 W0 cs0
 |succ {j:Nat} {W W':Nat->Nat} {cs cs':List Cel}:RunR P dd gg ii nn W0 cs0 j W cs->StepR P W cs (dd j) (gg j) (ii j) (nn j) W' cs'->RunR P dd gg ii nn W0 cs0 (j+1) W' cs'

def RunPost(n:Nat)(xs:List TypR)(len:Nat)(dd gg ii nn:Nat->Int)(lv:Value)(w:World)(e:Ending)(w':World):Prop:=
 ∃ P rb q W cs,e=.returned (.tuple #[.pointer (some P.s),.pointer (some ⟨rb,0,none⟩),.bool true])/\Both w w' P rb q lv W cs/\P.n=n/\P.ts=xs/\RunR P dd gg ii nn (Bd (λ _=>0) 0 (n/2)) (gapL 0 (n/2)) len W cs

set_option maxRecDepth 20000 in
theorem Played_run(n:Nat)(lv v2:Value)(xs:List TypR)(len:Nat)(dd gg ii nn yy:Nat->Int)(uu:Nat->Value)(mm:Nat->Nat)(w:World)(hF:Au w)(hv:A8 w lv xs)(hl:xs.length<=17592186044416)(hM:Cw xs)(he:Ga 0 xs=0)(hn:Dn (n:Nat)=true)
  (h2:FT w v2 len dd gg ii nn yy uu mm) (hlen:len<=60) (hy:∀ j,j<len->0<=yy j/\yy j<=18446744073709551615) (hA:AtsAt w len uu mm) (hm:∀ j,j<len->mm j<=300):
  Calls prog 10 #[n,lv,v2] w (RunPost n xs len dd gg ii nn lv w):=by
 have HMd:=sE (Made_new n lv xs w hF hv hl hM he hn)
 have HY:=sE hy
 have HAt:=sE hA
 have HMm:=sE hm
 obtain⟨va,vc,rfl,hx⟩:=h2
 have HX:=sE hx
 clear hF hv hl hM hy hA hm hx he hn
 go_enter func10,ntmps10
 go_wp2_with fail
 refine HMd.o.mono ?_
 rintro e w1 ⟨P,rb,q,rfl,hB,hPn,hPs⟩
 .have HB:=sE hB
  have HPn:=sE hPn
  have HPs:=sE hPs
  clear hB hPn hPs
  go_wp2_with fail
  go_loopw [12] (λ z wr=>∃ (j q':Nat) (W':Nat->Nat) (cs':List Cel),j<=len/\z=.int .i64 (j:Nat)/\Sl (Both w wr P rb q' lv W' cs')/\Sl (RunR P dd gg ii nn (Bd (λ _=>0) 0 (n/2)) (gapL 0 (n/2)) j W' cs')) (λ z _=>len-(intOf z).toNat)
  case atStart=>exact ⟨0,q,_,_,Nat.zero_le _,rfl,HB,⟨RunR.zero⟩⟩
  case round=>
   obtain⟨j,q',W',cs',hj,rfl,HBr,HRun⟩:=hrel
   by_cases hjl:j<len
   .have hjl':(j:Int)<(len:Int):=by omega
    obtain⟨b,o,rfl,hbl,x0,x1,x2,x3,x4,x5,⟨ua,uc,hu⟩,-⟩:=HX.o j hjl
    have hnb:¬ w.heap.size<=b:=by omega
    have y0:=HBr.o.kb.cell x0 hnb
    have y1:=HBr.o.kb.cell x1 hnb
    have y2:=HBr.o.kb.cell x2 hnb
    have y3:=HBr.o.kb.cell x3 hnb
    have y4:=HBr.o.kb.cell x4 hnb
    have y5:=HBr.o.kb.cell x5 hnb
    have hbw:b<wr.heap.size:=Nat.lt_of_lt_of_le hbl HBr.o.size
    have HD:=sE (Does_anyR w wr P rb q' lv W' cs' (dd j) (gg j) (ii j) (nn j) (yy j) (uu j) (mm j) HBr.o (HY.o j hjl) (HAt.o j hjl) (HMm.o j hjl))
    unfold DK at HD
    rw[hu] at y5 HD
    clear x0 x1 x2 x3 x4 x5 hnb hu
    go_wp2_with fail
    refine HD.o.mono ?_
    rintro e w3 ⟨W3,cs3,q3,rfl,hB3,hR3⟩
    have HR3:=sE (HRun.o.succ hR3)
    clear hR3
    have HB3:=sE hB3
    clear hB3 y0 y1 y2 y3 y4 y5
    go_wp2
    exact⟨⟨j+1,q3,W3,cs3,by omega,by go_num,HB3,HR3⟩,by simp only[intOf];omega⟩
   .have hjl':¬ (j:Int)<(len:Int):=by omega
    go_wp2
    exact bodyPost_ret (v:=.tuple #[.pointer (some P.s),.pointer (some rb),.bool true]) (by simp[results,results10,go_sem]) rfl ⟨P,rb,q',W',cs',rfl,HBr.o,HPn.o,HPs.o,by
     obtain rfl:j=len:=by omega
     exact HRun.o⟩

end

end Go.Proofs.YtfkedlgpgmaemaaGreatDoor
