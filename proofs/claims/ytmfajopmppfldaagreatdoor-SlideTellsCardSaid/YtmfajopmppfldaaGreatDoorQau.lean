/-
  Lemmas for the laws, together: PlayJ.
-/
import Derived.Test.YtmfajopmppfldaaGreatDoorQat
import Derived.Test.YtmfajopmppfldaaGreatDoorQaj
import Derived.Test.YtmfajopmppfldaaGreatDoorQas
set_option linter.unusedVariables false
set_option maxHeartbeats 16000000
namespace Go.Proofs.YtmfajopmppfldaaGreatDoor
open Tryz
section
open Go.RowKit

theorem and_low(g:Int):∃ r:Nat,r<=65535/\bits .and .i64 g 65535=(r:Int):=by
 refine⟨(BitVec.ofInt 64 g &&& BitVec.ofInt 64 65535).toNat,?_,?_⟩
 .rw [BitVec.toNat_and]
  exact Nat.and_le_right
 .show IntKind.i64.wrap ((BitVec.ofInt 64 g &&& BitVec.ofInt 64 65535).toNat:Int)=_
  have h:(BitVec.ofInt 64 g &&& BitVec.ofInt 64 65535).toNat<=65535:=by
   rw[BitVec.toNat_and]
   exact Nat.and_le_right
  rw[IntKind.wrap_i64]
  omega

theorem DAddr_at(g:Nat)(w:World)(hg:g<=65536):Calls prog 134 #[.int .i64 (g:Nat)] w λ e w'=>e=.returned (.int .u64 ((1048576+2*g:Nat):Int))/\w'=w:=by
 have h0:¬ (g:Int)<0:=by omega
 go_enter func134,ntmps134
 go_wp2
 go_ret
 exact⟨rfl,rfl⟩

theorem obsG_take{cs:List Cel}{j:Nat}{x:Cel}(h:cs[j]?=some x):Bu (cs.take (j+1))=Bu (cs.take j)++(if x.tag=1 then [x.g] else []):=by
 unfold Bu Ap
 rw[List.take_add_one,h,List.filter_append,List.map_append]
 congr 1
 by_cases ht:x.tag=1 <;> simp[ht]

theorem obsG_at{cs:List Cel}{i g:Nat}(h:(Bu cs)[i]?=some g):∃ c∈cs,c.tag=1/\c.g=g:=by
 have:=List.mem_of_getElem? h
 unfold Bu at this
 obtain⟨c,hc,rfl⟩:=List.mem_map.1 this
 have:=Dx.1 hc
 exact⟨c,this.1,this.2,rfl⟩

def JoinW(i:Int)(g2:Nat)(w:World)(v:Value)(wx:World):Prop:=∃ Y:Nat,v=.int .u64 (Y:Nat)/\Y<18446744073709551616/\(0<=i->Y=1048576+2*g2)/\Kp Ab w wx

def JoinStep(P:Sp)(W:Nat->Nat)(cs:List Cel)(g i n:Int)(W':Nat->Nat)(cs':List Cel):Prop:=
 cs'=cs/\((Bu cs=[]/\W'=W)\/
  ∃ (G1 G2 G3:Nat) (c:Cel) (g2:Nat) (k wds:Int) (m:Nat),(bits .and .i64 g 65535=(G1:Int)/\bits .and .i64 i 65535=(G2:Int)/\bits .and .i64 n 65535=(G3:Int))/\(c∈cs/\c.tag=1)/\(Bu cs)[G1%(Bu cs).length]?=some c.g/\(Bu cs)[G2%(Bu cs).length]?=some g2/\typeOf P.ts (c.ty:Nat)=some ⟨k,wds,m⟩/\
   ((Ba k wds m (c.ln:Nat)=[]/\W'=W)\/∃ s Y:Nat,(Ba k wds m (c.ln:Nat))[G3%(Ba k wds m (c.ln:Nat)).length]?=some s/\(0<=i->Y=1048576+2*g2)/\W'=BM W (2*c.g+1+s) Y))

set_option maxRecDepth 40000 in
theorem joins_any(w0 w:World)(P:Sp)(rb q:Nat)(lv:Value)(W:Nat->Nat)(cs:List Cel)(d g i n y:Int)(u:Value)(hb:Both w0 w P rb q lv W cs)(hu:∃ a l c,u=.slice a l c):
  Calls prog 89 #[.pointer (some ⟨P.s,0,none⟩),.pointer (some ⟨rb,0,none⟩),DI d g i n y u] w (EK w0 P rb lv (λ W' cs'=>JoinStep P W cs g i n W' cs') w):=by
 obtain⟨ua,ul,uc,rfl⟩:=hu
 obtain⟨w1,hw1⟩:∃ w1,w1=w.alloc (.cells #[.int .i64 d,.int .i64 g,.int .i64 i,.int .i64 n,.int .u64 y,.slice ua ul uc] 84):=⟨_,rfl⟩
 have k1:Kp Ab w w1:=by rw[hw1];exact (Kr _ w).alloc _
 have b1:w1.heap[w.heap.size]?=some (.cells #[.int .i64 d,.int .i64 g,.int .i64 i,.int .i64 n,.int .u64 y,.slice ua ul uc] 84 (0,0)):=by rw[hw1];exact wN w _
 have hl1:=lZ b1
 obtain⟨s0,s1,s2,s3,s4,s5⟩:=cells6 b1
 have B1:=hb.Ad k1
 have HB1:=sE B1
 have hbo:¬ P.own w.heap.size:=λ h=>by have:=hb.lt _ (Sp.BH h);omega
 have hbrb:¬ w.heap.size=rb:=λ h=>by have:=hb.dc.lt;omega
 have HNO:=sE hbo
 have HNR:=sE hbrb
 have hlen:cs.length<=32768:=by
  have:=BD hb.cells.tl
  have:=hb.small
  omega
 have hsm:=hb.small
 have HAll:=sE (DAll_at P W cs rb q lv w1 B1.dc B1.cells B1.tyAt B1.few' B1.ms)
 obtain⟨G1,hG1,a1⟩:=and_low g
 obtain⟨G2,hG2,a2⟩:=and_low i
 obtain⟨G3,hG3,a3⟩:=and_low n
 have A1:=sE a1
 have A2:=sE a2
 have A3:=sE a3
 clear b1 k1 B1 hb hbo hbrb s0 s4 s5 a1 a2 a3
 unfold DI
 go_enter func89,ntmps89
 go_wp2_with fail
 rw[<- hw1]
 clear hw1
 refine HAll.out.mono ?_
 rintro e wl ⟨v,rfl,hown,kl⟩
 have HKL:=sE kl
 have HRow:=sE (E9.Br hown)
 obtain⟨va,vc,hva,-⟩:=HRow.out
 subst hva
 obtain⟨len,hlen'⟩:∃ len,cs.length=len:=⟨_,rfl⟩
 rw[hlen'] at HRow hlen ⊢
 have HLen:=sE hlen'
 clear hown kl HAll hlen'
 go_wp2_with fail
 go_loopw [7,9] (λ v z wr=>∃ j:Nat,j<=len/\z=.int .i64 (j:Nat)/\Sl (wr.ownsRow wl.heap.size 3 1 v (Bu (cs.take j)).length (AB (Bu (cs.take j))))/\Kp Ab wl wr) (λ _ z _=>len-(intOf z).toNat)
 case atStart=>exact ⟨0,Nat.zero_le _,rfl,⟨World.ownsRow_nil _ _ _ _⟩,Kr _ _⟩
 case round=>
  obtain⟨j,hj,rfl,HO,hkk⟩:=hrel
  have HKK:=sE hkk
  by_cases hjl:j<len
  .have hjl':(j:Int)<(len:Int):=by omega
   obtain⟨x,hx⟩:∃ x,cs[j]?=some x:=⟨cs[j]'(by rw[HLen.out];exact hjl),by simp⟩
   obtain⟨a',cap',ha',hrow⟩:=HRow.out.Ad hkk
   obtain⟨b,hab,hb0,r0,r1,r2,r3,r4⟩:=hrow j x hx
   have hva:va=some ⟨b,0,none⟩:=by injection ha' with h1;rw [h1];exact hab
   subst hva
   have HTk:=sE (obsG_take hx)
   have hol:(Bu (cs.take j)).length<=32768:=by
    have:=obsG_len (cs.take j)
    rw[List.length_take] at this
    omega
   have hws:=hkk.size
   clear hx hrow ha' hab hkk r2 r3 r4
   by_cases q2:x.tag=1
   .have p2:((x.tag:Int)==1)=true:=by simp[q2]
    have HE:Sl (Bu (cs.take (j+1))=Bu (cs.take j)++[x.g]):=⟨by rw[HTk.out,if_pos q2]⟩
    clear q2
    go_wp2_with (at_builtin;obtain ⟨i0,hi,hz0,hz1,hz2⟩:=info_parts Cv;go_loud (refine wpList_append_lies _ rfl (.tmp 36) (.tmp 42) 82 rfl wl.heap.size 3 i0 _ 1 8 AP hi hz0 hz1 hz2 rfl (by omega) u7 (Bu (cs.take j)).length (AB (Bu (cs.take j))) rfl (HO.out.alloc _) ⟨wr.heap.size,0,none⟩ 1 1 [.int .i64 (x.g:Nat)] rfl rfl (World.news_of_block (wN wr _)) (by intro u hu;simp at hu;subst hu;rfl) (by omega) (by unfold maxLen;omega) (by omega) (by simp;omega) (wr.heap.size+1) (by simp) ?_);intro g cap w5 hown5 hgrow hat hlt;clear hi hz0 hz1 hz2)
    have k5:Kp Ab wl w5:=(HKK.out.alloc _).grown hgrow (λ k e hl=>absurd (HO.out.lt k e).1 (by omega))
    have h5:w5.ownsRow wl.heap.size 3 1 (.slice (some ⟨g,0,none⟩) ((Bu (cs.take j)).length+1) cap) (Bu (cs.take (j+1))).length (AB (Bu (cs.take (j+1)))):=by
     rw[HE.out,AB,List.map_append,List.length_append];exact hown5
    have H5:=sE h5
    clear hown5 hgrow hat h5 hws
    go_wp2
    exact⟨⟨j+1,by omega,by go_num,H5,k5⟩,by simp only[intOf];omega⟩
   .have p2:((x.tag:Int)==1)=false:=by simp;omega
    have HE:Sl (Bu (cs.take (j+1))=Bu (cs.take j)):=⟨by rw[HTk.out,if_neg q2,List.append_nil]⟩
    clear q2
    go_wp2
    exact⟨⟨j+1,by omega,by go_num,⟨by rw[HE.out];exact HO.out⟩,HKK.out⟩,by simp only[intOf];omega⟩
  .have hjl':¬ (j:Int)<(len:Int):=by omega
   obtain rfl:j=len:=by omega
   have ht:cs.take j=cs:=List.take_of_length_le (by rw[HLen.out];omega)
   have HO2:Sl (wr.ownsRow wl.heap.size 3 1 u7 (Bu cs).length (AB (Bu cs))):=⟨by have:=HO.out;rwa [ht] at this⟩
   have hol:(Bu cs).length<=32768:=by have:=obsG_len cs;have:=HLen.out;omega
   have HK1:Sl (Kp Ab w1 wr):=⟨HKL.out.then' hkk⟩
   replace s1:=HK1.out.cell s1 (λ h=>h)
   replace s2:=HK1.out.cell s2 (λ h=>h)
   replace s3:=HK1.out.cell s3 (λ h=>h)
   have hlr:w.heap.size<wr.heap.size:=Nat.lt_of_lt_of_le hl1 HK1.out.size
   clear ht hkk hj
   rcases Nat.eq_zero_or_pos (Bu cs).length with h0|h0
   .have hn0:u7=.slice none 0 0\/∃ a c,u7=.slice a 0 c:=by
     rcases HO2.out.2 with ⟨h,_⟩|⟨gb,cap5,cur,hu,_⟩
     .exact .inl h
     .exact .inr ⟨_,_,by rw[hu,h0]⟩
    have hn1:∃ a c,u7=.slice a 0 c:=by
     rcases hn0 with h|h
     .exact ⟨none,0,h⟩
     .exact h
    obtain⟨a,c,rfl⟩:=hn1
    have HE0:Sl (Bu cs=[]):=⟨List.length_eq_zero_iff.1 h0⟩
    clear hn0 h0
    go_wp2
    exact bodyPost_ret (v:=.bool true) (by simp[results,results89,go_sem]) rfl ⟨W,cs,q,rfl,HB1.out.Ad HK1.out,rfl,.inl ⟨HE0.out,rfl⟩⟩
   .obtain ⟨N,hN⟩:∃ N,(Bu cs).length=N:=⟨_,rfl⟩
    have HN:=sE hN
    rw[hN] at HO2 hol h0
    have hi1:G1%N<N:=Nat.mod_lt _ h0
    have hm1:(G1:Int)%(N:Int)=((G1%N:Nat):Int):=by push_cast;rfl
    obtain⟨i1,he1⟩:∃ i1,G1%N=i1:=⟨_,rfl⟩
    rw[he1] at hi1 hm1
    obtain⟨g1,hg1⟩:∃ g1,(Bu cs)[i1]?=some g1:=⟨(Bu cs)[i1]'(by omega),by simp⟩
    obtain⟨gb,cap5,rfl,hgb1,hgb2,cz1⟩:=owns_num HO2.out hN.symm hg1
    have hi2:G2%N<N:=Nat.mod_lt _ h0
    have hm2:(G2:Int)%(N:Int)=((G2%N:Nat):Int):=by push_cast;rfl
    obtain⟨i2,he2⟩:∃ i2,G2%N=i2:=⟨_,rfl⟩
    rw[he2] at hi2 hm2
    obtain⟨g2,hg2⟩:∃ g2,(Bu cs)[i2]?=some g2:=⟨(Bu cs)[i2]'(by omega),by simp⟩
    obtain⟨gb',cap6,hu6,-,-,cz2⟩:=owns_num HO2.out hN.symm hg2
    injection hu6 with hu6 hu6' hu6''
    injection hu6 with hu6
    injection hu6 with hu6
    subst hu6 hu6''
    have hN0:((N:Int)==0)=false:=by simp;omega
    obtain⟨c,hc,ht,rfl⟩:=obsG_at hg1
    obtain⟨c2,hc2,ht2,rfl⟩:=obsG_at hg2
    have hcg2:c2.g<=65536:=by have:=(HB1.out.cells.tl.mem hc2).2.1;omega
    have HC:=sE hc
    have HTg:=sE ht
    have HG1:Sl ((Bu cs)[G1%(Bu cs).length]?=some c.g):=⟨by rw[HN.out,he1];exact hg1⟩
    have HG2:Sl ((Bu cs)[G2%(Bu cs).length]?=some c2.g):=⟨by rw[HN.out,he2];exact hg2⟩
    have hb1:=A1.out
    have hb2:=A2.out
    clear hg1 hg2 hc hc2 ht ht2 he1 he2 hN
    obtain⟨wo,rfl⟩:∃ wo:World,wo=wr:=⟨_,rfl⟩
    go_upto_if 58 with fail
    go_cut [11] from 53 to 68 (λ v wx=>JoinW i c2.g wo v wx)
    case first=>
     by_cases hi0:0<=i
     .have HAd:=sE (DAddr_at c2.g wo hcg2)
      go_wp2_with fail
      refine HAd.out.mono ?_
      rintro e w3 ⟨rfl,rfl⟩
      go_wp2_with fail
      go_meet
      exact⟨1048576+2*c2.g,rfl,by omega,λ _=>rfl,Kr _ _⟩
     .go_wp2_with fail
      go_meet
      exact⟨0,rfl,by omega,λ h=>by omega,Kr _ _⟩
    case rest=>
     obtain⟨Y,rfl,hY,hYi,kx⟩:=hcut
     have HYi:=sE hYi
     clear hYi
     have HYb:=sE hY
     obtain⟨wg,rfl⟩:∃ wg:World,wg=wc:=⟨_,rfl⟩
     have HKg:Sl (Kp Ab w1 wg):=⟨HK1.out.then' kx⟩
     have Bg:=HB1.out.Ad HKg.out
     have HBg:=sE Bg
     obtain⟨k,wds,m,hty⟩:=En ((Bg.cells.ok c HC.out).2 HTg.out).1
     have HTy:=sE hty
     have hE:=kind_of Bg.cells HC.out HTg.out hty
     have HE:=sE hE
     have hMm:m<18446744073709551616:=Bg.ms _ (typeOf_mem hty)
     obtain⟨f,hSg⟩:=Bg.at_
     have HSg:=sE hSg
     obtain⟨capr,c0,c1⟩:=Bg.dc.head
     have hrb:rb<wg.heap.size:=Bg.dc.lt
     have HOf:Sl (∀ W',Kp Ab wg W'->Calls prog 132 #[.slice (some ⟨q,0,none⟩) P.n capr,lv,.int .i64 (c.g:Nat)] W' λ e w'=>e=.returned (.tuple #[.agg #[.int .u8 1,.int .i64 (c.ty:Nat),.int .i64 (c.ln:Nat),.int .i64 (c.sz:Nat)],.agg #[.int .u8 k,.int .i64 wds,.int .u64 (m:Nat)],.int .i64 0])/\Kp Ab W' w'):=⟨λ W' kk=>by
      have B':=HBg.out.Ad kk
      refine(DOf_any (c.g:Nat) q P.n capr W lv P.ts W' B'.dc.row B'.tyAt B'.few' B'.ms).mono λ e w' hp=>?_
      unfold DN at hp
      rw[HBg.out.cells.obj HC.out HTg.out] at hp
      obtain⟨k',wds',m',h1,h2,h3⟩:=hp
      rw[HTy.out] at h1
      injection h1 with h1
      injection h1 with h1 h1' h1''
      subst h1 h1' h1''
      exact⟨h2,h3⟩⟩
     have HRefs:Sl (∀ W',Calls prog 135 #[.agg #[.int .u8 k,.int .i64 wds,.int .u64 (m:Nat)],.int .i64 (c.ln:Nat)] W' (Fy k wds m (c.ln:Nat) W')):=⟨λ W'=>DRefs_any k wds m (c.ln:Nat) W' hMm hE⟩
     replace s1:=kx.cell s1 (λ h=>h)
     replace s2:=kx.cell s2 (λ h=>h)
     replace s3:=kx.cell s3 (λ h=>h)
     have hlg:w.heap.size<wg.heap.size:=Nat.lt_of_lt_of_le hlr kx.size
     clear hY kx Bg hty hE hMm hSg cz1 cz2 hm1 hm2 hb1 hb2 hi1 hi2
     go_upto_region 14 with fail
     go_cut [12,13,14] from 69 to 82 (λ a b e wx=>SlotsCut c k wds m wg a b e wx)
     case first=>
      obtain⟨W0,hW0⟩:∃ W0,wg.drew=W0:=⟨_,rfl⟩
      have kk:Kp Ab wg wg.drew:=(Kr _ _).drew
      refine wp_region_held_drew (S:=(λ w'=>w'.cell? ⟨rb,0,none⟩=some (.slice (some ⟨q,0,none⟩) P.n capr)/\w'.cell? ⟨rb,1,none⟩=some lv)) (by kernel_rfl) ?_ (λ qZ=>?_)
      .exact ⟨Kz c0,Kz c1⟩
      rw[hW0] at kk qZ ⊢
      refine Ao 0 ?_;refine Ao 1 ?_;refine Ao 2 ?_;refine Ao 3 ?_;refine Ao 4 ?_;refine Ao 5 ?_;refine Ao 6 ?_;refine Ao 7 ?_;refine Ao 8 ?_
      try simp only[Ar]
      iterate 3
       all_goals
        first|(have g:=pA;clear g;have g:=pB;clear g;refine AQ [9] ?_)|(have g:=pA;clear g;have g:=mC;clear g;refine AQ [15] ?_)|(have g:=pB;clear g;have g:=mC;clear g;refine AQ [14] ?_)|(have g:=pA;clear g;refine AQ [9,15] ?_)|(have g:=pB;clear g;refine AQ [9,14] ?_)|(have g:=mC;clear g;refine AQ [14,15] ?_)|(refine AQ [9,14,15] ?_)
        repeat' (first|exact AllReadyH.nil|refine Ah rfl (λ K hK=>?_) ?_)
        all_goals go_simp
        all_goals first
         |with_reducible refine(HOf.out _ kk).mono ?_
          rintro e W0 ⟨rfl,ka⟩
          try replace pA:=ka.at_ pA (λ h=>h)
          try replace pB:=ka.at_ pB (λ h=>h)
          replace kk:=kk.then' ka
          have mC:True:=trivial
          refine hK _ _ ?_ (λ qZ=>?_)
          .exact ⟨Kz c0,Kz c1⟩
          clear hK K ka
          try simp only[Ar]
          refine Ao 10 ?_;refine Ao 11 ?_;refine Ao 12 ?_;refine Ao 13 ?_
          try simp only[Ar]
         |obtain ⟨a,ha⟩:∃ a,W0.heap.size=a:=⟨_,rfl⟩
          obtain⟨V,hV⟩:∃ V,V=World.alloc W0 (.cells #[.int .u8 0,.int .i64 0,.int .i64 0,.int .i64 0] 52):=⟨_,rfl⟩
          rw[<- hV]
          have ka:Kp Ab W0 V:=by rw[hV];exact (Kr _ _).alloc _
          have pA:V.heap[a]?=some (.cells #[.int .u8 0,.int .i64 0,.int .i64 0,.int .i64 0] 52 (0,0)):=by rw[hV,<- ha];exact wN _ _
          have lA:wg.heap.size<=a:=by rw[<- ha];exact kk.size
          try have hab:¬ b=a:=by have:=lZ pB;omega
          try replace pB:=ka.at_ pB (λ h=>h)
          replace kk:=kk.then' ka
          rw[ha]
          refine hK _ _ ?_ (λ qZ=>?_)
          .exact ⟨Kz c0,Kz c1⟩
          clear hK K ka hV ha
          try simp only[Ar]
          obtain⟨W0,rfl⟩:∃ W0,W0=V:=⟨_,rfl⟩
         |obtain ⟨b,hb⟩:∃ b,W0.heap.size=b:=⟨_,rfl⟩
          obtain⟨V,hV⟩:∃ V,V=World.alloc W0 (.cells #[.int .u8 0,.int .i64 0,.int .u64 0] 86):=⟨_,rfl⟩
          rw[<- hV]
          have ka:Kp Ab W0 V:=by rw[hV];exact (Kr _ _).alloc _
          have pB:V.heap[b]?=some (.cells #[.int .u8 0,.int .i64 0,.int .u64 0] 86 (0,0)):=by rw[hV,<- hb];exact wN _ _
          have lB:wg.heap.size<=b:=by rw[<- hb];exact kk.size
          try have hab:¬ b=a:=by have:=lZ pA;omega
          try replace pA:=ka.at_ pA (λ h=>h)
          replace kk:=kk.then' ka
          rw[hb]
          refine hK _ _ ?_ (λ qZ=>?_)
          .exact ⟨Kz c0,Kz c1⟩
          clear hK K ka hV hb
          try simp only[Ar]
          obtain⟨W0,rfl⟩:∃ W0,W0=V:=⟨_,rfl⟩
      all_goals
       have hsz:=lZ pA
       obtain⟨d0,d1,d2,d3⟩:=Ay pA
       have f0:=Ae pA;have f00:=f0 0;have f01:=f0 1;have f02:=f0 2;have f03:=f0 3
       refine AQ [16] ?_
       refine Ag rfl (λ K hK=>?_)
       clear f0
       go_simp
       obtain⟨V,hV⟩:∃ V,V=World.setCell (World.setCell (World.setCell (World.setCell W0 ⟨a,0,none⟩ (.int .u8 1)) ⟨a,1,none⟩ (.int .i64 (c.ty:Nat))) ⟨a,2,none⟩ (.int .i64 (c.ln:Nat))) ⟨a,3,none⟩ (.int .i64 (c.sz:Nat)):=⟨_,rfl⟩
       rw[<- hV]
       obtain⟨qA,ka⟩:=Bb pA _ _ _ _ V hV
       replace pB:=ka.at_ pB hab
       replace kk:Kp Ab wg V:=kk.trans ka (λ i hi h=>by have h':i=a:=h;omega)
       clear hV d0 f00 d1 f01 d2 f02 d3 f03 pA ka hsz
       refine hK _ _ ?_ (λ qZ=>?_)
       .exact ⟨Kz c0,Kz c1⟩
       clear hK K
       try simp only[Ar]
       have hsz:=lZ pB
       obtain⟨d0,d1,d2⟩:=cells3 pB
       have f0:=Ae pB;have f00:=f0 0;have f01:=f0 1;have f02:=f0 2
       refine AQ [17] ?_
       refine Ag rfl (λ K hK=>?_)
       clear f0
       go_simp
       obtain⟨W0,hV⟩:∃ W,W=World.setCell (World.setCell (World.setCell V ⟨b,0,none⟩ (.int .u8 k)) ⟨b,1,none⟩ (.int .i64 wds)) ⟨b,2,none⟩ (.int .u64 (m:Nat)):=⟨_,rfl⟩
       rw[<- hV]
       obtain⟨qB,ka⟩:=Bh pB _ _ _ W0 hV
       replace qA:=ka.at_ qA (λ h=>hab (show a=b from h).symm)
       replace kk:Kp Ab wg W0:=kk.trans ka (λ i hi h=>by have h':i=b:=h;omega)
       clear hV d0 f00 d1 f01 d2 f02 pB ka hsz
       refine hK _ _ ?_ (λ qZ=>?_)
       .exact ⟨Kz c0,Kz c1⟩
       clear hK K
       try simp only[Ar]
       refine Ao 18 ?_
       try simp only[Ar]
       refine wpAnyH_done (by kernel_rfl) ?_ _
       go_wp2_with fail
       go_meet
       exact⟨_,_,rfl,rfl,rfl,qA,qB,kk⟩
     case rest=>
      obtain⟨b1,b2,rfl,rfl,rfl,hb1,hb2,kx⟩:=hcut
      obtain⟨d0,d1,d2,d3⟩:=Ay hb1
      obtain⟨t0,t1,t2⟩:=cells3 hb2
      have hl1b:=lZ hb1
      have hl2b:=lZ hb2
      have HKx:Sl (Kp Ab wg wc):=⟨kx⟩
      replace s3:=kx.cell s3 (λ h=>h)
      have hlx:w.heap.size<wc.heap.size:=Nat.lt_of_lt_of_le hlg kx.size
      clear hb1 hb2 c0 c1 s1 s2 kx d0 d1 d3
      go_wp2_with fail
      refine(HRefs.out _).mono ?_
      rintro e w5 ⟨vr,rfl,hor,k5⟩
      have HOR:=sE hor
      have HK5:Sl (Kp Ab wg w5):=⟨HKx.out.then' k5⟩
      replace s3:=k5.cell s3 (λ h=>h)
      have hl5:w.heap.size<w5.heap.size:=Nat.lt_of_lt_of_le hlx k5.size
      obtain⟨M,hM⟩:∃ M,(Ba k wds m (c.ln:Nat)).length=M:=⟨_,rfl⟩
      rw[hM] at HOR
      clear hor k5 d2 t0 t1 t2
      rcases Nat.eq_zero_or_pos M with h0M|h0M
      .subst h0M
       have hn1:∃ a cc,vr=.slice a 0 cc:=by
        rcases HOR.out.2 with ⟨h,_⟩|⟨gb,cap5,cur,hu,_⟩
        .exact ⟨none,0,h⟩
        .exact ⟨_,_,hu⟩
       obtain⟨a,cc,rfl⟩:=hn1
       have HR0:Sl (Ba k wds m (c.ln:Nat)=[]):=⟨List.length_eq_zero_iff.1 hM⟩
       clear hM
       go_wp2
       exact bodyPost_ret (v:=.bool true) (by simp[results,results89,go_sem]) rfl ⟨W,cs,q,rfl,HBg.out.Ad HK5.out,rfl,.inr ⟨G1,G2,G3,c,c2.g,k,wds,m,⟨A1.out,A2.out,A3.out⟩,⟨HC.out,HTg.out⟩,HG1.out,HG2.out,HTy.out,.inl ⟨HR0.out,rfl⟩⟩⟩
      .have hi3:G3%M<M:=Nat.mod_lt _ h0M
       have hm3:(G3:Int)%(M:Int)=((G3%M:Nat):Int):=by push_cast;rfl
       obtain⟨i3,he3⟩:∃ i3,G3%M=i3:=⟨_,rfl⟩
       rw[he3] at hi3 hm3
       obtain⟨j,hj⟩:∃ j,(Ba k wds m (c.ln:Nat))[i3]?=some j:=⟨(Ba k wds m (c.ln:Nat))[i3]'(by omega),by simp⟩
       obtain⟨gr,capr5,rfl,hgr1,hgr2,cz3⟩:=owns_num HOR.out hM.symm hj
       have hjs:(j:Int)<AR k wds (c.ln:Nat):=by
        have h8:=refsUpto_mem (List.mem_of_getElem? hj)
        have h9:=(Bi HE.out).1
        omega
       obtain⟨z1,z2,z3⟩:=slot_in HBg.out.cells HC.out HTg.out HTy.out hjs
       have HZ:Sl (2*c.g<2*c.g+1+j/\2*c.g+1+j<2*c.fin/\2*c.g+1+j<P.n):=⟨⟨z1,z2,z3⟩⟩
       have HJ:=sE hjs
       have hM0:((M:Int)==0)=false:=by simp;omega
       have hb3:=A3.out
       have B5:=HBg.out.Ad HK5.out
       have HB5:=sE B5
       obtain⟨f5,hS5⟩:=B5.at_
       have HS5:=sE hS5
       have HAr:=sE (Cj P W f5 w5 hS5)
       have HTb:=sE (STable_at P W f5 w5 hS5)
       have HOf5:=sE (SOf_any (c.g:Nat) P.a P.q P.n P.t P.tq W P.ts w5 hS5.fl hS5.ar hS5.tb)
       have HJ3:Sl ((Ba k wds m (c.ln:Nat))[G3%(Ba k wds m (c.ln:Nat)).length]?=some j):=⟨by rw[hM,he3];exact hj⟩
       clear hM he3 hj hjs z1 z2 B5 hS5
       go_wp2_with fail
       refine HAr.out.mono ?_
       rintro e w6 ⟨rfl,rfl⟩
       go_wp2_with fail
       refine HTb.out.mono ?_
       rintro e w6 ⟨rfl,rfl⟩
       go_wp2_with fail
       refine HOf5.out.mono ?_
       intro e w6 hp
       unfold Dn at hp
       rw[HB5.out.cells.obj HC.out HTg.out] at hp
       obtain⟨vb,k',wds',m',h1,rfl,hv,hvb,k6⟩:=hp
       rw[HTy.out] at h1
       injection h1 with h1
       injection h1 with h1 h1' h1''
       subst h1 h1' h1''
       have HV:=sE hv
       have HB6:=sE (HB5.out.Ad k6)
       have HA6:=sE ((HS5.out.Ad k6).ar)
       have HSt:=sE (VStore_yes j Y vb P.a P.q P.n W c k wds m w6 HA6.out HV.out HE.out HJ.out HYb.out HZ.out.2.2)
       clear hv hvb k6
       go_wp2_with fail
       refine HSt.out.mono ?_
       rintro e w7 ⟨rfl,k7,A7⟩
       have K7:=sE k7
       have HA7:=sE A7
       have hno:∀ b,¬ P.own b->¬ (b=P.a\/b=P.q):=λ b h e=>h (by rcases e with e|e;exact .inl e;exact .inr (.inl e))
       have hrn:¬ P.own rb:=λ h=>HB1.out.rbn (Sp.BH h)
       have hqn:¬ P.own q:=λ h=>HB1.out.qn (Sp.BH h)
       have D7:=HB6.out.dc.keep k7 (hno _ hrn) (hno _ hqn)
       have HD7:=sE D7
       obtain⟨cap,g0,g1⟩:=D7.head
       have hlr7:=D7.lt
       clear s3 k7 A7 D7 hrn hqn hno cz3
       go_wp2_with (at_builtin;go_loud (refine Ed rfl (.tmp 127) rfl q P.n cap W rfl HD7.out.row (by have:=HZ.out.2.2;omega) ?_;intro w8 q1 cap1 hr8 hq8 k8;have HR8:=sE hr8;have K8:=sE k8;have a0:=hr8.at_ HZ.out.2.2;have a1:=hr8.free (2*c.g+1+j);have D8:=HD7.out.Ad k8;obtain ⟨cap2,b0,b1⟩:=D8.head;have b2:=D8.free 0;have hlt8:=D8.lt;have hq8':=hr8.lt;have hne:¬ q1=rb:=(by omega);have hne':¬ rb=q1:=(by omega);have HD8:=sE D8;have hqq:¬ q=q1:=(by have:=HD7.out.row.lt;omega);clear g0 g1 hr8 k8 D8))
       try go_wp2
       have k9:Kp (λ k=>k=q1) w8 (w8.setCell ⟨q1,2*c.g+1+j,none⟩ (.int .u64 (Y:Nat))):=(Kr (λ k=>k=q1) w8).setCell (λ _=>rfl) _
       have D9:=HD8.out.keep k9 hne' hqq
       obtain⟨cap3,hr9⟩:=D9.hr
       have k10:Kp (λ k=>k=rb) (w8.setCell ⟨q1,2*c.g+1+j,none⟩ (.int .u64 (Y:Nat))) ((w8.setCell ⟨q1,2*c.g+1+j,none⟩ (.int .u64 (Y:Nat))).setCell ⟨rb,0,none⟩ (.slice (some ⟨q1,0,none⟩) P.n cap1)):=(Kr (λ k=>k=rb) _).setCell (λ _=>rfl) _
       have D10:DocAt ((w8.setCell ⟨q1,2*c.g+1+j,none⟩ (.int .u64 (Y:Nat))).setCell ⟨rb,0,none⟩ (.slice (some ⟨q1,0,none⟩) P.n cap1)) rb q1 P.n (BM W (2*c.g+1+j) Y) lv:=
        ⟨⟨cap1,by rw[bZ hr9 _];rfl⟩,(HR8.out.store HZ.out.2.2 Y HYb.out).keep k10 hne⟩
       have kF:Kp (λ k=>k=rb) w7 ((w8.setCell ⟨q1,2*c.g+1+j,none⟩ (.int .u64 (Y:Nat))).setCell ⟨rb,0,none⟩ (.slice (some ⟨q1,0,none⟩) P.n cap1)):=
        ((K8.out.Ak _).trans k9 (λ b hb h=>by have h':b=q1:=h;omega)).trans k10 (λ _ _ h=>h)
       exact bodyPost_ret (v:=.bool true) (by simp[results,results89,go_sem]) rfl ⟨_,cs,q1,rfl,HB6.out.lay K7.out HA7.out HC.out HZ.out.1 HZ.out.2.1 kF D10 (.inr hq8),rfl,.inr ⟨G1,G2,G3,c,c2.g,k,wds,m,⟨A1.out,A2.out,A3.out⟩,⟨HC.out,HTg.out⟩,HG1.out,HG2.out,HTy.out,.inr ⟨j,Y,HJ3.out,HYi.out,rfl⟩⟩⟩

theorem Does_joinR(w0 w:World)(P:Sp)(rb q:Nat)(lv:Value)(W:Nat->Nat)(cs:List Cel)(g i n y:Int)(u:Value)(hb:Both w0 w P rb q lv W cs)(hu:∃ a l c,u=.slice a l c):
  Calls prog 40 #[.pointer (some ⟨P.s,0,none⟩),.pointer (some ⟨rb,0,none⟩),DI 5 g i n y u] w (EK w0 P rb lv (λ W' cs'=>JoinStep P W cs g i n W' cs') w):=by
 obtain⟨ua,ul,uc,rfl⟩:=hu
 obtain⟨w1,hw1⟩:∃ w1,w1=w.alloc (.cells #[.int .i64 5,.int .i64 g,.int .i64 i,.int .i64 n,.int .u64 y,.slice ua ul uc] 84):=⟨_,rfl⟩
 have k1:Kp Ab w w1:=by rw[hw1];exact (Kr _ w).alloc _
 have HJn:=sE (joins_any w0 w1 P rb q lv W cs 5 g i n y (.slice ua ul uc) (hb.Ad k1) ⟨ua,ul,uc,rfl⟩)
 unfold DI at HJn ⊢
 clear hb k1
 go_enter func40,ntmps40
 go_wp2_with fail
 rw[<- hw1]
 clear hw1
 refine HJn.out.mono ?_
 rintro e w2 ⟨W',cs',q',rfl,hB,hR⟩
 have HR:=sE hR
 clear hR
 have HB:=sE hB
 clear hB
 go_wp2
 exact bodyPost_ret (v:=.bool true) (by simp[results,results40,go_sem]) rfl ⟨W',cs',q',rfl,HB.out,HR.out⟩

theorem Does_join(w0 w:World)(P:Sp)(rb q:Nat)(lv:Value)(W:Nat->Nat)(cs:List Cel)(g i n y:Int)(u:Value)(hb:Both w0 w P rb q lv W cs)(hu:∃ a l c,u=.slice a l c):
  Calls prog 40 #[.pointer (some ⟨P.s,0,none⟩),.pointer (some ⟨rb,0,none⟩),DI 5 g i n y u] w (Eo w0 P rb lv w):=
 (Does_joinR w0 w P rb q lv W cs g i n y u hb hu).mono λ_ _ h=>h.weak

def Eb(n:Int)(xs:List TypR)(lv:Value)(w:World)(e:Ending)(w':World):Prop:=
 (e=.returned (.tuple #[.pointer none,.pointer none,.bool true])/\Kp Ab w w')\/
 (∃ P rb q W cs,e=.returned (.tuple #[.pointer (some ⟨P.s,0,none⟩),.pointer (some ⟨rb,0,none⟩),.bool true])/\Both w w' P rb q lv W cs/\(P.n:Int)=n/\P.ts=xs/\16<=P.n)

theorem Made_no(n:Int)(lv:Value)(xs:List TypR)(w:World)(hv:AO w lv xs)(hl:xs.length<=17592186044416)(he:¬ FL 0 xs=0):
  Calls prog 39 #[.int .i64 n,lv] w (Eb n xs lv w):=by
 have HT:=sE (TNew_any lv xs w hv hl)
 have hb:(FL 0 xs !=0)=true:=by simpa using he
 have HE:=sE he
 clear hv hl he
 go_enter func39,ntmps39
 go_wp2_with fail
 refine HT.out.mono ?_
 rintro e w1 ⟨k1,⟨h0,-⟩|⟨-,rfl⟩⟩
 .exact absurd h0 HE.out
 .go_wp2
  exact bodyPost_ret (v:=.tuple #[.pointer none,.pointer none,.bool true]) (by simp[results,results39,go_sem]) rfl (.inl ⟨rfl,k1⟩)

theorem Made_words(n:Int)(lv:Value)(xs:List TypR)(w:World)(hv:AO w lv xs)(hl:xs.length<=17592186044416)(he:FL 0 xs=0)(hn:Dp n=false):
  Calls prog 39 #[.int .i64 n,lv] w (Eb n xs lv w):=by
 have HT:=sE (TNew_any lv xs w hv hl)
 have HE:=sE he
 have HN:Sl (∀ t W',Calls prog 81 #[.int .i64 n,.pointer (some ⟨t,0,none⟩)] W' λ e w'=>e=.returned (.tuple #[.pointer none,.int .i64 2])/\w'=W'):=⟨λ t W'=>SNew_no n t W' hn⟩
 have hn':n<16\/65536<n\/n%2≠0:=by
  unfold Dp at hn
  have:=of_decide_eq_false hn
  omega
 clear hv hl he hn
 rcases Decidable.em (n<16) with h1|h1
 .go_enter func39,ntmps39
  go_wp2_with fail
  refine HT.out.mono ?_
  rintro e w1 ⟨k1,⟨-,t,tq,rfl,-⟩|⟨h0,-⟩⟩
  .go_wp2_with fail
   refine(HN.out t w1).mono ?_
   rintro e w2 ⟨rfl,rfl⟩
   go_wp2
   exact bodyPost_ret (v:=.tuple #[.pointer none,.pointer none,.bool true]) (by simp[results,results39,go_sem]) rfl (.inl ⟨rfl,k1⟩)
  .exact absurd HE.out h0
 .rcases Decidable.em (65536<n) with h2|h2
  .go_enter func39,ntmps39
   go_wp2_with fail
   refine HT.out.mono ?_
   rintro e w1 ⟨k1,⟨-,t,tq,rfl,-⟩|⟨h0,-⟩⟩
   .go_wp2_with fail
    refine(HN.out t w1).mono ?_
    rintro e w2 ⟨rfl,rfl⟩
    go_wp2
    exact bodyPost_ret (v:=.tuple #[.pointer none,.pointer none,.bool true]) (by simp[results,results39,go_sem]) rfl (.inl ⟨rfl,k1⟩)
   .exact absurd HE.out h0
  .have h3:n%2≠0:=by omega
   have h4:(n%2 !=0)=true:=by simpa using h3
   have h0n:0<=n:=by omega
   go_enter func39,ntmps39
   go_wp2_with fail
   refine HT.out.mono ?_
   rintro e w1 ⟨k1,⟨-,t,tq,rfl,-⟩|⟨h0,-⟩⟩
   .go_wp2_with fail
    refine(HN.out t w1).mono ?_
    rintro e w2 ⟨rfl,rfl⟩
    go_wp2
    exact bodyPost_ret (v:=.tuple #[.pointer none,.pointer none,.bool true]) (by simp[results,results39,go_sem]) rfl (.inl ⟨rfl,k1⟩)
   .exact absurd HE.out h0

def NewPost(n:Nat)(xs:List TypR)(lv:Value)(w:World)(e:Ending)(w':World):Prop:=
 ∃ P rb q,e=.returned (.tuple #[.pointer (some ⟨P.s,0,none⟩),.pointer (some ⟨rb,0,none⟩),.bool true])/\Both w w' P rb q lv (AZ (λ _=>0) 0 (n/2)) (gapL 0 (n/2))/\P.n=n/\P.ts=xs

theorem Made_new(n:Nat)(lv:Value)(xs:List TypR)(w:World)(hF:Av w)(hv:AO w lv xs)(hl:xs.length<=17592186044416)(hM:Cg xs)(he:FL 0 xs=0)(hn:Dp (n:Nat)=true):
  Calls prog 39 #[.int .i64 (n:Nat),lv] w (NewPost n xs lv w):=by
 have HT:=sE (TNew_any lv xs w hv hl)
 have HV:=sE hv
 have HMs:=sE hM
 have HF:=sE hF
 have HE:=sE he
 have hlv:∃ a l c,lv=.slice a l c:=by obtain⟨a,c,h,-⟩:=hv;exact ⟨_,_,_,h⟩
 have hn':16<=n/\n<=65536/\n%2=0:=by
  unfold Dp at hn
  have:=of_decide_eq_true hn
  omega
 obtain⟨h1,h2,h3⟩:=hn'
 have HLv:=sE hlv
 have H3:=sE h3
 have h4:((n:Int)%2 !=0)=false:=by simp;omega
 clear hv hl hM he hn hF hlv h3
 go_enter func39,ntmps39
 go_wp2_with fail
 refine HT.out.mono ?_
 rintro e w1 ⟨k1,⟨-,t,tq,rfl,hta,ht1,ht2,ht3⟩|⟨h0,-⟩⟩
 .have HSN:=sE (SNew_yesW n t tq xs w1 hta (HF.out.Ad k1) hta.lt_t ht3 h1 h2 H3.out)
  have HK1:=sE k1
  have few:=hta.few
  clear k1 hta
  go_wp2_with fail
  refine HSN.out.mono ?_
  rintro e w2 ⟨P,hPt,hPq,hPs,hPn,rfl,hS,hown,hs0,hb0,k2⟩
  have HSp:=sE hS
  have HK2:=sE (HK1.out.then' k2)
  have HOw:Sl (∀ k,P.own k->w.heap.size<=k):=⟨λ k h=>Nat.le_trans HK1.out.size (hown k h)⟩
  have HPs:=sE hPs
  have HPn:=sE hPn
  have HDN:=sE (DNew_at n lv w2 HLv.out (by omega) h2)
  have hAr:∃ f,SpaceAt w2 P (AZ (λ _=>0) 0 (n/2)) f:=by obtain⟨f,h,_⟩:=hS;exact ⟨f,h⟩
  obtain⟨f,hAt⟩:=hAr
  have HAt:=sE hAt
  clear hS k2 hown hPs hPn hPt hPq hAt
  go_wp2_with fail
  refine HDN.out.mono ?_
  rintro e w3 ⟨rb,q,rfl,hrb,hq,hd,k3⟩
  have HD:=sE hd
  have HK3:=sE k3
  have HA3:=sE (Cj P _ f w3 (HAt.out.Ad k3))
  clear hd k3
  go_wp2_with fail
  refine HA3.out.mono ?_
  rintro e w4 ⟨rfl,rfl⟩
  go_wp2
  refine bodyPost_ret (v:=.tuple #[.pointer (some ⟨P.s,0,none⟩),.pointer (some ⟨rb,0,none⟩),.bool true]) (by simp[results,results39,go_sem]) rfl ⟨P,rb,q,rfl,⟨HSp.out.Ad HK3.out,?_,HOw.out,?_,?_,?_,BS.gap _ _,?_,?_,?_,?_⟩,HPn.out,HPs.out⟩
  .rw [HPn.out];exact HD.out
  .exact Nat.le_trans HK2.out.size hrb
  .exact λ h=>by have:=HAt.out.lt rb h;omega
  .exact λ h=>by have:=HAt.out.lt q h;omega
  .exact (HK2.out.then' HK3.out).Ak _
  .rw [HPs.out];exact HV.out
  .rw [HPs.out];exact few
  .rw [HPs.out];exact HMs.out
 .exact absurd HE.out h0

theorem Made_yes(n:Nat)(lv:Value)(xs:List TypR)(w:World)(hF:Av w)(hv:AO w lv xs)(hl:xs.length<=17592186044416)(hM:Cg xs)(he:FL 0 xs=0)(hn:Dp (n:Nat)=true):
  Calls prog 39 #[.int .i64 (n:Nat),lv] w (Eb (n:Nat) xs lv w):=by
 refine(Made_new n lv xs w hF hv hl hM he hn).mono ?_
 rintro e w' ⟨P,rb,q,h1,h2,h3,h4⟩
 refine .inr ⟨P,rb,q,_,_,h1,h2,by rw[h3],h4,?_⟩
 unfold Dp at hn
 have:=of_decide_eq_true hn
 omega

theorem Made_any(n:Int)(lv:Value)(xs:List TypR)(w:World)(hF:Av w)(hv:AO w lv xs)(hl:xs.length<=17592186044416)(hM:Cg xs):
  Calls prog 39 #[.int .i64 n,lv] w (Eb n xs lv w):=by
 by_cases he:FL 0 xs=0
 .cases hn:Dp n with
  |false=>exact Made_words n lv xs w hv hl he hn
  |true=>
   have h:=hn
   unfold Dp at h
   have:=of_decide_eq_true h
   obtain⟨N,rfl⟩:=Int.eq_ofNat_of_zero_le (show 0<=n by omega)
   exact Made_yes N lv xs w hF hv hl hM he hn
 .exact Made_no n lv xs w hv hl he

theorem Does_any(w0 w:World)(P:Sp)(rb q:Nat)(lv:Value)(W:Nat->Nat)(cs:List Cel)(d g i n y:Int)(u:Value)(m:Nat)(hb:Both w0 w P rb q lv W cs)(hy:0<=y/\y<=18446744073709551615)(hI:∃ x,BA 1 w0 u m x)(hm:m<=300):
  Calls prog 40 #[.pointer (some ⟨P.s,0,none⟩),.pointer (some ⟨rb,0,none⟩),DI d g i n y u] w (Eo w0 P rb lv w):=by
 obtain⟨x,hx⟩:=hI
 have hu:∃ a l c,u=.slice a l c:=by obtain⟨a,c,h,-⟩:=hx;exact ⟨_,_,_,h⟩
 by_cases h0:d=0
 .subst h0;exact Does_put w0 w P rb q lv W cs g i n y u hb hu
 by_cases h1:d=1
 .subst h1;exact Does_drop w0 w P rb q lv W cs g i n y u hb hu
 by_cases h2:d=2
 .subst h2;exact Does_slot w0 w P rb q lv W cs g i n y u hb hu hy
 by_cases h3:d=3
 .subst h3;exact Does_settle w0 w P rb q lv W cs g i n y u hb hu m x hx hm
 by_cases h5:d=5
 .subst h5;exact Does_join w0 w P rb q lv W cs g i n y u hb hu
 .exact Does_else w0 w P rb q lv W cs d g i n y u hb h0 h1 h2 h3 h5 hu

set_option maxRecDepth 20000 in
theorem Played_any(n:Int)(lv v2:Value)(xs:List TypR)(len:Nat)(dd gg ii nn yy:Nat->Int)(uu:Nat->Value)(mm:Nat->Nat)(w:World)(hF:Av w)(hv:AO w lv xs)(hl:xs.length<=17592186044416)(hM:Cg xs)
  (h2:DR w v2 len dd gg ii nn yy uu mm) (hlen:len<=60) (hy:∀ j,j<len->0<=yy j/\yy j<=18446744073709551615) (hA:AtsAt w len uu mm) (hm:∀ j,j<len->mm j<=300):
  Calls prog 8 #[.int .i64 n,lv,v2] w (Eb n xs lv w):=by
 have HMd:=sE (Made_any n lv xs w hF hv hl hM)
 have HY:=sE hy
 have HAt:=sE hA
 have HMm:=sE hm
 obtain⟨va,vc,rfl,hx⟩:=h2
 have HX:=sE hx
 clear hF hv hl hM hy hA hm hx
 go_enter func8,ntmps8
 go_wp2_with fail
 refine HMd.out.mono ?_
 rintro e w1 (⟨rfl,k1⟩|⟨P,rb,q,W,cs,rfl,hB,hPn,hPs,h16⟩)
 .go_wp2
  exact bodyPost_ret (v:=.tuple #[.pointer none,.pointer none,.bool true]) (by simp[results,results8,go_sem]) rfl (.inl ⟨rfl,k1⟩)
 .have HB:=sE hB
  have HPn:=sE hPn
  have HPs:=sE hPs
  clear hB hPn hPs
  go_wp2_with fail
  go_loopw [12] (λ z wr=>∃ (j q':Nat) (W':Nat->Nat) (cs':List Cel),j<=len/\z=.int .i64 (j:Nat)/\Sl (Both w wr P rb q' lv W' cs')) (λ z _=>len-(intOf z).toNat)
  case atStart=>exact ⟨0,q,W,cs,Nat.zero_le _,rfl,HB⟩
  case round=>
   obtain⟨j,q',W',cs',hj,rfl,HBr⟩:=hrel
   by_cases hjl:j<len
   .have hjl':(j:Int)<(len:Int):=by omega
    obtain⟨b,o,rfl,hbl,x0,x1,x2,x3,x4,x5,⟨ua,uc,hu⟩,-⟩:=HX.out j hjl
    have hnb:¬ w.heap.size<=b:=by omega
    have y0:=HBr.out.kb.cell x0 hnb
    have y1:=HBr.out.kb.cell x1 hnb
    have y2:=HBr.out.kb.cell x2 hnb
    have y3:=HBr.out.kb.cell x3 hnb
    have y4:=HBr.out.kb.cell x4 hnb
    have y5:=HBr.out.kb.cell x5 hnb
    have hbw:b<wr.heap.size:=Nat.lt_of_lt_of_le hbl HBr.out.size
    have HD:=sE (Does_any w wr P rb q' lv W' cs' (dd j) (gg j) (ii j) (nn j) (yy j) (uu j) (mm j) HBr.out (HY.out j hjl) (HAt.out j hjl) (HMm.out j hjl))
    unfold DI at HD
    rw[hu] at y5 HD
    clear x0 x1 x2 x3 x4 x5 hnb hu
    go_wp2_with fail
    refine HD.out.mono ?_
    rintro e w3 ⟨W3,cs3,q3,rfl,hB3⟩
    have HB3:=sE hB3
    clear hB3 y0 y1 y2 y3 y4 y5
    go_wp2
    exact⟨⟨j+1,q3,W3,cs3,by omega,by go_num,HB3⟩,by simp only[intOf];omega⟩
   .have hjl':¬ (j:Int)<(len:Int):=by omega
    go_wp2
    exact bodyPost_ret (v:=.tuple #[.pointer (some ⟨P.s,0,none⟩),.pointer (some ⟨rb,0,none⟩),.bool true]) (by simp[results,results8,go_sem]) rfl (.inr ⟨P,rb,q',W',cs',rfl,HBr.out,HPn.out,HPs.out,h16⟩)

def StepR(P:Sp)(W:Nat->Nat)(cs:List Cel)(d g i n:Int)(W':Nat->Nat)(cs':List Cel):Prop:=
 (d=0->PutStep P W cs g i n W' cs')/\(d=5->JoinStep P W cs g i n W' cs')

theorem Does_anyR(w0 w:World)(P:Sp)(rb q:Nat)(lv:Value)(W:Nat->Nat)(cs:List Cel)(d g i n y:Int)(u:Value)(m:Nat)(hb:Both w0 w P rb q lv W cs)(hy:0<=y/\y<=18446744073709551615)(hI:∃ x,BA 1 w0 u m x)(hm:m<=300):
  Calls prog 40 #[.pointer (some ⟨P.s,0,none⟩),.pointer (some ⟨rb,0,none⟩),DI d g i n y u] w (EK w0 P rb lv (λ W' cs'=>StepR P W cs d g i n W' cs') w):=by
 have hu:∃ a l c,u=.slice a l c:=by obtain⟨x,a,c,h,-⟩:=hI;exact ⟨_,_,_,h⟩
 by_cases h0:d=0
 .subst h0
  refine(Does_putR w0 w P rb q lv W cs g i n y u hb hu).mono ?_
  rintro e w' ⟨W',cs',q',h1,h2,h3⟩
  exact⟨W',cs',q',h1,h2,λ _=>h3,λ h=>absurd h (by omega)⟩
 by_cases h5:d=5
 .subst h5
  refine(Does_joinR w0 w P rb q lv W cs g i n y u hb hu).mono ?_
  rintro e w' ⟨W',cs',q',h1,h2,h3⟩
  exact⟨W',cs',q',h1,h2,λ h=>absurd h (by omega),λ _=>h3⟩
 refine(Does_any w0 w P rb q lv W cs d g i n y u m hb hy hI hm).mono ?_
 rintro e w' ⟨W',cs',q',h1,h2⟩
 exact⟨W',cs',q',h1,h2,λ h=>absurd h h0,λ h=>absurd h h5⟩

inductive RunR (P:Sp) (dd gg ii nn:Nat->Int) (W0:Nat->Nat) (cs0:List Cel):Nat->(Nat->Nat)->List Cel->Prop
 |zero:RunR P dd gg ii nn W0 cs0 0 W0 cs0
 |succ {j:Nat} {W W':Nat->Nat} {cs cs':List Cel}:RunR P dd gg ii nn W0 cs0 j W cs->StepR P W cs (dd j) (gg j) (ii j) (nn j) W' cs'->RunR P dd gg ii nn W0 cs0 (j+1) W' cs'

def RunPost(n:Nat)(xs:List TypR)(len:Nat)(dd gg ii nn:Nat->Int)(lv:Value)(w:World)(e:Ending)(w':World):Prop:=
 ∃ P rb q W cs,e=.returned (.tuple #[.pointer (some ⟨P.s,0,none⟩),.pointer (some ⟨rb,0,none⟩),.bool true])/\Both w w' P rb q lv W cs/\P.n=n/\P.ts=xs/\RunR P dd gg ii nn (AZ (λ _=>0) 0 (n/2)) (gapL 0 (n/2)) len W cs

set_option maxRecDepth 20000 in
theorem Played_run(n:Nat)(lv v2:Value)(xs:List TypR)(len:Nat)(dd gg ii nn yy:Nat->Int)(uu:Nat->Value)(mm:Nat->Nat)(w:World)(hF:Av w)(hv:AO w lv xs)(hl:xs.length<=17592186044416)(hM:Cg xs)(he:FL 0 xs=0)(hn:Dp (n:Nat)=true)
  (h2:DR w v2 len dd gg ii nn yy uu mm) (hlen:len<=60) (hy:∀ j,j<len->0<=yy j/\yy j<=18446744073709551615) (hA:AtsAt w len uu mm) (hm:∀ j,j<len->mm j<=300):
  Calls prog 8 #[.int .i64 (n:Nat),lv,v2] w (RunPost n xs len dd gg ii nn lv w):=by
 have HMd:=sE (Made_new n lv xs w hF hv hl hM he hn)
 have HY:=sE hy
 have HAt:=sE hA
 have HMm:=sE hm
 obtain⟨va,vc,rfl,hx⟩:=h2
 have HX:=sE hx
 clear hF hv hl hM hy hA hm hx he hn
 go_enter func8,ntmps8
 go_wp2_with fail
 refine HMd.out.mono ?_
 rintro e w1 ⟨P,rb,q,rfl,hB,hPn,hPs⟩
 .have HB:=sE hB
  have HPn:=sE hPn
  have HPs:=sE hPs
  clear hB hPn hPs
  go_wp2_with fail
  go_loopw [12] (λ z wr=>∃ (j q':Nat) (W':Nat->Nat) (cs':List Cel),j<=len/\z=.int .i64 (j:Nat)/\Sl (Both w wr P rb q' lv W' cs')/\Sl (RunR P dd gg ii nn (AZ (λ _=>0) 0 (n/2)) (gapL 0 (n/2)) j W' cs')) (λ z _=>len-(intOf z).toNat)
  case atStart=>exact ⟨0,q,_,_,Nat.zero_le _,rfl,HB,⟨RunR.zero⟩⟩
  case round=>
   obtain⟨j,q',W',cs',hj,rfl,HBr,HRun⟩:=hrel
   by_cases hjl:j<len
   .have hjl':(j:Int)<(len:Int):=by omega
    obtain⟨b,o,rfl,hbl,x0,x1,x2,x3,x4,x5,⟨ua,uc,hu⟩,-⟩:=HX.out j hjl
    have hnb:¬ w.heap.size<=b:=by omega
    have y0:=HBr.out.kb.cell x0 hnb
    have y1:=HBr.out.kb.cell x1 hnb
    have y2:=HBr.out.kb.cell x2 hnb
    have y3:=HBr.out.kb.cell x3 hnb
    have y4:=HBr.out.kb.cell x4 hnb
    have y5:=HBr.out.kb.cell x5 hnb
    have hbw:b<wr.heap.size:=Nat.lt_of_lt_of_le hbl HBr.out.size
    have HD:=sE (Does_anyR w wr P rb q' lv W' cs' (dd j) (gg j) (ii j) (nn j) (yy j) (uu j) (mm j) HBr.out (HY.out j hjl) (HAt.out j hjl) (HMm.out j hjl))
    unfold DI at HD
    rw[hu] at y5 HD
    clear x0 x1 x2 x3 x4 x5 hnb hu
    go_wp2_with fail
    refine HD.out.mono ?_
    rintro e w3 ⟨W3,cs3,q3,rfl,hB3,hR3⟩
    have HR3:=sE (HRun.out.succ hR3)
    clear hR3
    have HB3:=sE hB3
    clear hB3 y0 y1 y2 y3 y4 y5
    go_wp2
    exact⟨⟨j+1,q3,W3,cs3,by omega,by go_num,HB3,HR3⟩,by simp only[intOf];omega⟩
   .have hjl':¬ (j:Int)<(len:Int):=by omega
    go_wp2
    exact bodyPost_ret (v:=.tuple #[.pointer (some ⟨P.s,0,none⟩),.pointer (some ⟨rb,0,none⟩),.bool true]) (by simp[results,results8,go_sem]) rfl ⟨P,rb,q',W',cs',rfl,HBr.out,HPn.out,HPs.out,by
     obtain rfl:j=len:=by omega
     exact HRun.out⟩

end

end Go.Proofs.YtmfajopmppfldaaGreatDoor
