/-
  Lemmas for the laws, together: PlayJ.
-/
import Derived.Test.YtfkedlgpgmaemaaGreatDoorQav
import Derived.Test.YtfkedlgpgmaemaaGreatDoorQaj
import Derived.Test.YtfkedlgpgmaemaaGreatDoorQau
set_option linter.unusedVariables false
set_option maxHeartbeats 16000000
namespace Go.Proofs.YtfkedlgpgmaemaaGreatDoor
open Tryz
section
open Go.RowKit

theorem and_low(g:Int):∃ r:Nat,r<=65535/\bits .and .i64 g 65535=(r:Int):=by
 refine⟨(BitVec.ofInt 64 g &&& BitVec.ofInt 64 65535).toNat,?_,?_⟩
 .rw [BitVec.toNat_and]
  exact Nat.and_le_right
 .show IntKind.i64.wrap ((BitVec.ofInt 64 g &&& BitVec.ofInt 64 65535).toNat:Int)=_
  have h:(BitVec.ofInt 64 g &&& BitVec.ofInt 64 65535).toNat<=65535:=by
   rw[BitVec.toNat_and]
   exact Nat.and_le_right
  rw[IntKind.wrap_i64]
  omega

theorem DAddr_at(g:Nat)(w:World)(b:g<=65536):Calls prog 158 #[g] w λ e w'=>e=.returned (.int .u64 ((1048576+2*g:Nat):Int))/\w'=w:=by
 have a:¬ (g:Int)<0:=by omega
 go_enter func158,ntmps158
 go_wp2
 go_ret
 exact⟨rfl,rfl⟩

theorem obsG_take{cs:List Cel}{j:Nat}{x:Cel}(h:cs[j]?=some x):BK (cs.take (j+1))=BK (cs.take j)++(if x.tag=1 then [x.g] else []):=by
 unfold BK Aj
 rw[List.take_add_one,h,List.filter_append,List.map_append]
 congr 1
 by_cases ht:x.tag=1 <;> simp[ht]

theorem obsG_at{cs:List Cel}{i g:Nat}(a:(BK cs)[i]?=some g):∃ c∈cs,c.tag=1/\c.g=g:=by
 have:=List.mem_of_getElem? a
 unfold BK at this
 obtain⟨c,b,rfl⟩:=List.mem_map.1 this
 have:=AX.1 b
 exact⟨c,this.1,this.2,rfl⟩

def JoinW(i:Int)(g2:Nat)(w:World)(v:Value)(wx:World):Prop:=∃ Y:Nat,v=.int .u64 Y/\Y<18446744073709551616/\(0<=i->Y=1048576+2*g2)/\Kp Aa w wx

def JoinStep(P:Sp)(W:Nat->Nat)(cs:List Cel)(g i n:Int)(W':Nat->Nat)(cs':List Cel):Prop:=
 cs'=cs/\((BK cs=[]/\W'=W)\/
  ∃ (G1 G2 G3:Nat) (c:Cel) (g2:Nat) (k wds:Int) (m:Nat),(bits .and .i64 g 65535=(G1:Int)/\bits .and .i64 i 65535=(G2:Int)/\bits .and .i64 n 65535=(G3:Int))/\(c∈cs/\c.tag=1)/\(BK cs)[G1%(BK cs).length]?=some c.g/\(BK cs)[G2%(BK cs).length]?=some g2/\typeOf P.ts (c.ty:Nat)=some ⟨k,wds,m⟩/\
   ((BP k wds m (c.ln:Nat)=[]/\W'=W)\/∃ s Y:Nat,(BP k wds m (c.ln:Nat))[G3%(BP k wds m (c.ln:Nat)).length]?=some s/\(0<=i->Y=1048576+2*g2)/\W'=DN W (2*c.g+1+s) Y))

set_option maxRecDepth 40000 in
theorem joins_any(w0 w:World)(P:Sp)(I q:Nat)(c1:Value)(W:Nat->Nat)(cs:List Cel)(d g i n y:Int)(u:Value)(a7:Both w0 w P I q c1 W cs)(a8:∃ a l c,u=.slice a l c):
  Calls prog 102 #[.pointer (some P.s),.pointer (some I),DK d g i n y u] w (EP w0 P I c1 (λ X D4=>JoinStep P W cs g i n X D4) w):=by
 obtain⟨z9,A1,A0,rfl⟩:=a8
 obtain⟨w1,j8⟩:∃ w1,w1=w.alloc (.cells #[.int .i64 d,.int .i64 g,.int .i64 i,.int .i64 n,.int .u64 y,.slice z9 A1 A0] 104):=⟨_,rfl⟩
 have v7:Kp Aa w w1:=by rw[j8];exact (Kr _ w).alloc _
 have d9:w1.heap[w.heap.size]?=some (.cells #[.int .i64 d,.int .i64 g,.int .i64 i,.int .i64 n,.int .u64 y,.slice z9 A1 A0] 104 (0,0)):=by rw[j8];exact wN w _
 have G2:=lZ d9
 obtain⟨K7,f7,f8,a4,K8,K9⟩:=cells6 d9
 have b1:=a7.Ac v7
 have d5:=sE b1
 have s6:¬ P.own w.heap.size:=λ p=>by have:=a7.lt _ (Sp.Cr p);omega
 have s7:¬ w.heap.size=I:=λ p=>by have:=a7.dc.lt;omega
 have N3:=sE s6
 have N4:=sE s7
 have G3:cs.length<=32768:=by
  have:=BG a7.cells.tl
  have:=a7.small
  omega
 have T8:=a7.small
 have p5:=sE (DAll_at P W cs I q c1 w1 b1.dc b1.cells b1.tyAt b1.few' b1.ms)
 obtain⟨b2,P7,m1⟩:=and_low g
 obtain⟨b3,P8,q6⟩:=and_low i
 obtain⟨b4,P9,q7⟩:=and_low n
 have l3:=sE m1
 have l4:=sE q6
 have l5:=sE q7
 clear d9 v7 b1 a7 s6 s7 K7 K8 K9 m1 q6 q7
 unfold DK
 go_enter func102,ntmps102
 go_wp2_with fail
 rw[<- j8]
 clear j8
 refine p5.o.mono ?_
 rintro e wl ⟨v,rfl,t8,y6⟩
 have B7:=sE y6
 have m0:=sE (Du.Bc t8)
 obtain⟨M5,U7,n3,-⟩:=m0.o
 subst n3
 obtain⟨a9,n0⟩:∃ a9,cs.length=a9:=⟨_,rfl⟩
 rw[n0] at m0 G3 ⊢
 have l8:=sE n0
 clear t8 y6 p5 n0
 go_wp2_with fail
 go_loopw [7,9] (λ v z wr=>∃ j:Nat,j<=a9/\z=.int .i64 (j:Nat)/\Sl (wr.ownsRow wl.heap.size 3 1 v (BK (cs.take j)).length (Az (BK (cs.take j))))/\Kp Aa wl wr) (λ _ z _=>a9-(intOf z).toNat)
 case atStart=>exact ⟨0,Nat.zero_le _,rfl,⟨World.ownsRow_nil _ _ _ _⟩,Kr _ _⟩
 case round=>
  obtain⟨j,c7,rfl,g9,c8⟩:=hrel
  have q1:=sE c8
  by_cases hjl:j<a9
  .have G1:(j:Int)<(a9:Int):=by omega
   obtain⟨x,n4⟩:∃ x,cs[j]?=some x:=⟨cs[j]'(by rw[l8.o];exact hjl),by simp⟩
   obtain⟨a',O8,r8,v2⟩:=m0.o.Ac c8
   obtain⟨b,r9,Q2,U5,U6,K4,K5,K6⟩:=v2 j x n4
   have n3:M5=some ⟨b,0,none⟩:=by injection r8 with R;rw [R];exact r9
   subst n3
   have q4:=sE (obsG_take n4)
   have t6:(BK (cs.take j)).length<=32768:=by
    have:=obsG_len (cs.take j)
    rw[List.length_take] at this
    omega
   have H5:=c8.size
   clear n4 v2 r8 r9 c8 K4 K5 K6
   by_cases q2:x.tag=1
   .have K3:((x.tag:Int)==1)=true:=by simp[q2]
    have c3:Sl (BK (cs.take (j+1))=BK (cs.take j)++[x.g]):=⟨by rw[q4.o,if_pos q2]⟩
    clear q2
    go_wp2_with (at_builtin;obtain ⟨H6,T,v4,v5,v6⟩:=info_parts Be;go_loud (refine wpList_append_lies _ rfl (.tmp 36) (.tmp 42) 24 rfl wl.heap.size 3 H6 _ 1 8 Ar T v4 v5 v6 rfl (by omega) u7 (BK (cs.take j)).length (Az (BK (cs.take j))) rfl (g9.o.alloc _) ⟨wr.heap.size,0,none⟩ 1 1 [x.g] rfl rfl (World.news_of_block (wN wr _)) (by intro u a8;simp at a8;subst a8;rfl) (by omega) (by unfold maxLen;omega) (by omega) (by simp;omega) (wr.heap.size+1) (by simp) ?_);intro g cap b0 t9 t0 E2 T4;clear T v4 v5 v6)
    have c9:Kp Aa wl b0:=(q1.o.alloc _).grown t0 (λ k e R8=>absurd (g9.o.lt k e).1 (by omega))
    have r3:b0.ownsRow wl.heap.size 3 1 (.slice (some ⟨g,0,none⟩) ((BK (cs.take j)).length+1) cap) (BK (cs.take (j+1))).length (Az (BK (cs.take (j+1)))):=by
     rw[c3.o,Az,List.map_append,List.length_append];exact t9
    have A6:=sE r3
    clear t9 t0 E2 r3 H5
    go_wp2
    exact⟨⟨j+1,by omega,by go_num,A6,c9⟩,by simp only[intOf];omega⟩
   .have K3:((x.tag:Int)==1)=false:=by simp;omega
    have c3:Sl (BK (cs.take (j+1))=BK (cs.take j)):=⟨by rw[q4.o,if_neg q2,List.append_nil]⟩
    clear q2
    go_wp2
    exact⟨⟨j+1,by omega,by go_num,⟨by rw[c3.o];exact g9.o⟩,q1.o⟩,by simp only[intOf];omega⟩
  .have G1:¬ (j:Int)<(a9:Int):=by omega
   obtain rfl:j=a9:=by omega
   have e6:cs.take j=cs:=List.take_of_length_le (by rw[l8.o];omega)
   have i0:Sl (wr.ownsRow wl.heap.size 3 1 u7 (BK cs).length (Az (BK cs))):=⟨by have:=g9.o;rwa [e6] at this⟩
   have t6:(BK cs).length<=32768:=by have:=obsG_len cs;have:=l8.o;omega
   have c4:Sl (Kp Aa w1 wr):=⟨B7.o.then' c8⟩
   replace f7:=c4.o.cell f7 id
   replace f8:=c4.o.cell f8 id
   replace a4:=c4.o.cell a4 id
   have G5:w.heap.size<wr.heap.size:=Nat.lt_of_lt_of_le G2 c4.o.size
   clear e6 c8 c7
   rcases Nat.eq_zero_or_pos (BK cs).length with h0|h0
   .have t5:u7=.slice none 0 0\/∃ a c,u7=.slice a 0 c:=by
     rcases i0.o.2 with ⟨p,_⟩|⟨r2,q8,D5,a8,_⟩
     .exact .inl p
     .exact .inr ⟨_,_,by rw[a8,h0]⟩
    have n1:∃ a c,u7=.slice a 0 c:=by
     rcases t5 with p|p
     .exact ⟨none,0,p⟩
     .exact p
    obtain⟨a,c,rfl⟩:=n1
    have B4:Sl (BK cs=[]):=⟨List.length_eq_zero_iff.1 h0⟩
    clear t5 h0
    go_wp2
    exact bodyPost_ret (v:=.bool true) (by simp[results,results102,go_sem]) rfl ⟨W,cs,q,rfl,d5.o.Ac c4.o,rfl,.inl ⟨B4.o,rfl⟩⟩
   .obtain ⟨U,e0⟩:∃ U,(BK cs).length=U:=⟨_,rfl⟩
    have q3:=sE e0
    rw[e0] at i0 t6 h0
    have t1:b2%U<U:=Nat.mod_lt _ h0
    have t3:(b2:Int)%(U:Int)=((b2%U:Nat):Int):=by push_cast;rfl
    obtain⟨j9,m6⟩:∃ j9,b2%U=j9:=⟨_,rfl⟩
    rw[m6] at t1 t3
    obtain⟨i2,j5⟩:∃ i2,(BK cs)[j9]?=some i2:=⟨(BK cs)[j9]'(by omega),by simp⟩
    obtain⟨r2,q8,rfl,Q4,Q5,D6⟩:=owns_num i0.o e0.symm j5
    have t2:b3%U<U:=Nat.mod_lt _ h0
    have t4:(b3:Int)%(U:Int)=((b3%U:Nat):Int):=by push_cast;rfl
    obtain⟨k0,m7⟩:∃ k0,b3%U=k0:=⟨_,rfl⟩
    rw[m7] at t2 t4
    obtain⟨r1,j6⟩:∃ r1,(BK cs)[k0]?=some r1:=⟨(BK cs)[k0]'(by omega),by simp⟩
    obtain⟨P3,P1,b9,-,-,D7⟩:=owns_num i0.o e0.symm j6
    injection b9 with b9 hu6' hu6''
    injection b9 with b9
    injection b9 with b9
    subst b9 hu6''
    have Q1:((U:Int)==0)=false:=by simp;omega
    obtain⟨c,s8,e6,rfl⟩:=obsG_at j5
    obtain⟨b6,s9,H3,rfl⟩:=obsG_at j6
    have F8:b6.g<=65536:=by have:=(d5.o.cells.tl.mem s9).2.1;omega
    have a6:=sE s8
    have b5:=sE e6
    have p8:Sl ((BK cs)[b2%(BK cs).length]?=some c.g):=⟨by rw[q3.o,m6];exact j5⟩
    have p9:Sl ((BK cs)[b3%(BK cs).length]?=some b6.g):=⟨by rw[q3.o,m7];exact j6⟩
    have e1:=l3.o
    have e3:=l4.o
    clear j5 j6 s8 s9 e6 H3 m6 m7 e0
    obtain⟨k6,rfl⟩:∃ k6:World,k6=wr:=⟨_,rfl⟩
    go_upto_if 58 with fail
    go_cut [11] from 53 to 68 (λ v p3=>JoinW i b6.g k6 v p3)
    case first=>
     by_cases hi0:0<=i
     .have B1:=sE (DAddr_at b6.g k6 F8)
      go_wp2_with fail
      refine B1.o.mono ?_
      rintro e U8 ⟨rfl,rfl⟩
      go_wp2_with fail
      go_meet
      exact⟨1048576+2*b6.g,rfl,by omega,λ _=>rfl,Kr _ _⟩
     .go_wp2_with fail
      go_meet
      exact⟨0,rfl,by omega,λ p=>by omega,Kr _ _⟩
    case rest=>
     obtain⟨Y,rfl,r6,r7,a2⟩:=hcut
     have D0:=sE r7
     clear r7
     have q5:=sE r6
     obtain⟨r,rfl⟩:∃ r:World,r=wc:=⟨_,rfl⟩
     have B8:Sl (Kp Aa w1 r):=⟨c4.o.then' a2⟩
     have a5:=d5.o.Ac B8.o
     have d6:=sE a5
     obtain⟨k,wds,m,j7⟩:=Fs ((a5.cells.ok c a6.o).2 b5.o).1
     have d8:=sE j7
     have m3:=kind_of a5.cells a6.o b5.o j7
     have c3:=sE m3
     have r4:m<18446744073709551616:=a5.ms _ (typeOf_mem j7)
     obtain⟨f,r5⟩:=a5.at_
     have N5:=sE r5
     obtain⟨m2,c0,C⟩:=a5.dc.head
     have T7:I<r.heap.size:=a5.dc.lt
     have d7:Sl (∀ X,Kp Aa r X->Calls prog 154 #[.slice (some ⟨q,0,none⟩) P.n m2,c1,c.g] X (RK (.tuple #[.agg #[.int .u8 1,c.ty,c.ln,c.sz],.agg #[.int .u8 k,.int .i64 wds,.int .u64 m],(0:Int)]) X)):=⟨λ X I4=>by
      have g7:=d6.o.Ac I4
      refine(DOf_any (c.g:Nat) q P.n m2 W c1 P.ts X g7.dc.row g7.tyAt g7.few' g7.ms).mono λ e w' b8=>?_
      unfold El at b8
      rw[d6.o.cells.obj a6.o b5.o] at b8
      obtain⟨H7,N1,m',R,E0,E1⟩:=b8
      rw[d8.o] at R
      injection R with R
      injection R with R h1' h1''
      subst R h1' h1''
      exact⟨E0,E1⟩⟩
     have C3:Sl (∀ X,Calls prog 116 #[.agg #[.int .u8 k,.int .i64 wds,.int .u64 m],c.ln] X (DRefsPost k wds m (c.ln:Nat) X)):=⟨λ X=>DRefs_any k wds m (c.ln:Nat) X r4 m3⟩
     replace f7:=a2.cell f7 id
     replace f8:=a2.cell f8 id
     replace a4:=a2.cell a4 id
     have G4:w.heap.size<r.heap.size:=Nat.lt_of_lt_of_le G5 a2.size
     clear r6 a2 a5 j7 m3 r4 r5 D6 D7 t3 t4 e1 e3 t1 t2
     go_upto_region 14 with fail
     go_cut [12,13,14] from 69 to 82 (λ a b e p3=>SlotsCut c k wds m r a b e p3)
     case first=>
      have k2:Kp Aa r r.drew:=(Kr _ _).drew
      refine wp_region_held_drew (S:=(λ w'=>w'.cell? I=some (.slice (some ⟨q,0,none⟩) P.n m2)/\w'.cell? ⟨I,1,none⟩=some c1)) (by kernel_rfl) ?_ (λ D=>?_)
      .exact ⟨Kz c0,Kz C⟩
      refine Ap 0 ?_;refine Ap 1 ?_;refine Ap 2 ?_;refine Ap 3 ?_;refine Ap 4 ?_;refine Ap 5 ?_;refine Ap 6 ?_;refine Ap 7 ?_;refine Ap 8 ?_
      try simp only[AB]
      refine Bp [9,14,15] ?_
      refine Ai rfl (λ K hK=>?_) ?_
      .go_simp
       with_reducible refine(d7.o _ k2).mono ?_
       rintro e H ⟨rfl,I3⟩
       have k4:=k2.then' I3
       refine hK _ _ ?_ (λ D=>?_)
       .exact ⟨Kz c0,Kz C⟩
       clear hK K
       try simp only[AB]
       refine Ap 10 ?_;refine Ap 11 ?_;refine Ap 12 ?_;refine Ap 13 ?_
       try simp only[AB]
       refine Bp [14,15] ?_
       refine Ai rfl (λ K hK=>?_) ?_
       .go_simp
        obtain⟨O,f3⟩:∃ O,O=World.alloc H (.cells #[.int .u8 0,(0:Int),(0:Int),(0:Int)] 111):=⟨_,rfl⟩
        rw[<- f3]
        have I1:Kp Aa H O:=by rw[f3];exact ((Kr _ _).alloc _)
        have R4:r.heap.size<=H.heap.size:=k4.size
        have m5:O.heap[H.heap.size]?=some (.cells #[.int .u8 0,(0:Int),(0:Int),(0:Int)] 111 (0,0)):=by rw[f3];exact wN _ _
        have T1:H.heap.size<O.heap.size:=lZ m5
        have y0:=k4.then' I1
        have N7:=sE f3
        clear f3
        refine hK _ _ ?_ (λ D=>?_)
        .exact ⟨Kz c0,Kz C⟩
        clear hK K
        try simp only[AB]
        refine Bp [15] ?_
        refine Ai rfl (λ K hK=>?_) ?_
        .go_simp
         obtain⟨d0,e8⟩:∃ d0,d0=World.alloc O (.cells #[.int .u8 0,(0:Int),.int .u64 0] 106):=⟨_,rfl⟩
         rw[<- e8]
         have w4:Kp Aa O d0:=by rw[e8];exact ((Kr _ _).alloc _)
         have Q9:r.heap.size<=O.heap.size:=y0.size
         have s2:d0.heap[O.heap.size]?=some (.cells #[.int .u8 0,(0:Int),.int .u64 0] 106 (0,0)):=by rw[e8];exact wN _ _
         have S3:O.heap.size<d0.heap.size:=lZ s2
         have U2:=lZ m5
         have i9:=w4.at_ m5 id
         have J4:=y0.then' w4
         have O1:=sE e8
         clear e8
         refine hK _ _ ?_ (λ D=>?_)
         .exact ⟨Kz c0,Kz C⟩
         clear hK K
         try simp only[AB]
         have a1:=lZ i9
         obtain⟨E,F,G,V⟩:=Ay i9
         have A:=Ab i9;have f00:=A 0;have f01:=A 1;have f02:=A 2;have f03:=A 3
         refine Bp [16] ?_
         refine Ag rfl (λ K hK=>?_)
         clear A
         go_simp
         obtain⟨g4,o1⟩:∃ g4,g4=World.setCell (World.setCell (World.setCell (World.setCell (d0) ⟨H.heap.size,0,none⟩ (.int .u8 1)) ⟨H.heap.size,1,none⟩ (.int .i64 c.ty)) ⟨H.heap.size,2,none⟩ (.int .i64 c.ln)) ⟨H.heap.size,3,none⟩ (.int .i64 c.sz):=⟨_,rfl⟩
         rw[<- o1]
         obtain⟨L9,z3⟩:=BC i9 _ _ _ _ g4 o1
         have j0:=z3.at_ s2 (λ p=>by have B:O.heap.size=H.heap.size:=p;omega)
         have J5:Kp Aa r g4:=J4.trans z3 (λ i T p=>by have B:i=H.heap.size:=p;(try have a0:=Nat.le_of_eq B);(first|omega|(simp only[World.size_drew] at *;omega)))
         clear o1 E f00 F f01 G f02 V f03
         refine hK _ _ ?_ (λ D=>?_)
         .exact ⟨Kz c0,Kz C⟩
         clear hK K
         try simp only[AB]
         have a1:=lZ j0
         obtain⟨E,F,G⟩:=cells3 j0
         have A:=Ab j0;have f00:=A 0;have f01:=A 1;have f02:=A 2
         refine Bp [17] ?_
         refine Ag rfl (λ K hK=>?_)
         clear A
         go_simp
         obtain⟨l0,o2⟩:∃ l0,l0=World.setCell (World.setCell (World.setCell (g4) ⟨O.heap.size,0,none⟩ (.int .u8 k)) ⟨O.heap.size,1,none⟩ (.int .i64 wds)) ⟨O.heap.size,2,none⟩ (.int .u64 m):=⟨_,rfl⟩
         rw[<- o2]
         obtain⟨M0,z4⟩:=BL j0 _ _ _ l0 o2
         have F4:=z4.at_ L9 (λ p=>by have B:H.heap.size=O.heap.size:=p;omega)
         have J6:Kp Aa r l0:=J5.trans z4 (λ i T p=>by have B:i=O.heap.size:=p;(try have a0:=Nat.le_of_eq B);(first|omega|(simp only[World.size_drew] at *;omega)))
         clear o2 E f00 F f01 G f02
         refine hK _ _ ?_ (λ D=>?_)
         .exact ⟨Kz c0,Kz C⟩
         clear hK K
         try simp only[AB]
         refine Ap 18 ?_
         try simp only[AB]
         refine wpAnyH_done (by kernel_rfl) ?_ _
         go_wp2_with fail
         go_meet
         exact⟨_,_,rfl,rfl,rfl,F4,M0,J6⟩
        exact AllReadyH.nil
       refine Ai rfl (λ K hK=>?_) ?_
       .go_simp
        obtain⟨L,f1⟩:∃ L,L=World.alloc H (.cells #[.int .u8 0,(0:Int),.int .u64 0] 106):=⟨_,rfl⟩
        rw[<- f1]
        have I0:Kp Aa H L:=by rw[f1];exact ((Kr _ _).alloc _)
        have R1:r.heap.size<=H.heap.size:=k4.size
        have m4:L.heap[H.heap.size]?=some (.cells #[.int .u8 0,(0:Int),.int .u64 0] 106 (0,0)):=by rw[f1];exact wN _ _
        have S6:H.heap.size<L.heap.size:=lZ m4
        have y4:=k4.then' I0
        have O2:=sE f1
        clear f1
        refine hK _ _ ?_ (λ D=>?_)
        .exact ⟨Kz c0,Kz C⟩
        clear hK K
        try simp only[AB]
        refine Bp [14] ?_
        refine Ai rfl (λ K hK=>?_) ?_
        .go_simp
         obtain⟨d2,f2⟩:∃ d2,d2=World.alloc L (.cells #[.int .u8 0,(0:Int),(0:Int),(0:Int)] 111):=⟨_,rfl⟩
         rw[<- f2]
         have w6:Kp Aa L d2:=by rw[f2];exact ((Kr _ _).alloc _)
         have R2:r.heap.size<=L.heap.size:=y4.size
         have e4:d2.heap[L.heap.size]?=some (.cells #[.int .u8 0,(0:Int),(0:Int),(0:Int)] 111 (0,0)):=by rw[f2];exact wN _ _
         have S7:L.heap.size<d2.heap.size:=lZ e4
         have U3:=lZ m4
         have F5:=w6.at_ m4 id
         have J7:=y4.then' w6
         have O3:=sE f2
         clear f2
         refine hK _ _ ?_ (λ D=>?_)
         .exact ⟨Kz c0,Kz C⟩
         clear hK K
         try simp only[AB]
         have a1:=lZ e4
         obtain⟨E,F,G,V⟩:=Ay e4
         have A:=Ab e4;have f00:=A 0;have f01:=A 1;have f02:=A 2;have f03:=A 3
         refine Bp [16] ?_
         refine Ag rfl (λ K hK=>?_)
         clear A
         go_simp
         obtain⟨g5,o3⟩:∃ g5,g5=World.setCell (World.setCell (World.setCell (World.setCell (d2) ⟨L.heap.size,0,none⟩ (.int .u8 1)) ⟨L.heap.size,1,none⟩ (.int .i64 c.ty)) ⟨L.heap.size,2,none⟩ (.int .i64 c.ln)) ⟨L.heap.size,3,none⟩ (.int .i64 c.sz):=⟨_,rfl⟩
         rw[<- o3]
         obtain⟨M1,z5⟩:=BC e4 _ _ _ _ g5 o3
         have j1:=z5.at_ F5 (λ p=>by have B:H.heap.size=L.heap.size:=p;omega)
         have J8:Kp Aa r g5:=J7.trans z5 (λ i T p=>by have B:i=L.heap.size:=p;(try have a0:=Nat.le_of_eq B);(first|omega|(simp only[World.size_drew] at *;omega)))
         clear o3 E f00 F f01 G f02 V f03
         refine hK _ _ ?_ (λ D=>?_)
         .exact ⟨Kz c0,Kz C⟩
         clear hK K
         try simp only[AB]
         have a1:=lZ j1
         obtain⟨E,F,G⟩:=cells3 j1
         have A:=Ab j1;have f00:=A 0;have f01:=A 1;have f02:=A 2
         refine Bp [17] ?_
         refine Ag rfl (λ K hK=>?_)
         clear A
         go_simp
         obtain⟨l1,o4⟩:∃ l1,l1=World.setCell (World.setCell (World.setCell (g5) ⟨H.heap.size,0,none⟩ (.int .u8 k)) ⟨H.heap.size,1,none⟩ (.int .i64 wds)) ⟨H.heap.size,2,none⟩ (.int .u64 m):=⟨_,rfl⟩
         rw[<- o4]
         obtain⟨M2,z6⟩:=BL j1 _ _ _ l1 o4
         have F6:=z6.at_ M1 (λ p=>by have B:L.heap.size=H.heap.size:=p;omega)
         have J9:Kp Aa r l1:=J8.trans z6 (λ i T p=>by have B:i=H.heap.size:=p;(try have a0:=Nat.le_of_eq B);(first|omega|(simp only[World.size_drew] at *;omega)))
         clear o4 E f00 F f01 G f02
         refine hK _ _ ?_ (λ D=>?_)
         .exact ⟨Kz c0,Kz C⟩
         clear hK K
         try simp only[AB]
         refine Ap 18 ?_
         try simp only[AB]
         refine wpAnyH_done (by kernel_rfl) ?_ _
         go_wp2_with fail
         go_meet
         exact⟨_,_,rfl,rfl,rfl,F6,M2,J9⟩
        exact AllReadyH.nil
       exact AllReadyH.nil
      refine Ai rfl (λ K hK=>?_) ?_
      .go_simp
       obtain⟨Q,f4⟩:∃ Q,Q=World.drew (World.alloc r (.cells #[.int .u8 0,(0:Int),(0:Int),(0:Int)] 111)):=⟨_,rfl⟩
       rw[<- f4]
       have I2:Kp Aa r Q:=by rw[f4];exact ((Kr _ _).alloc _).drew
       have R3:r.heap.size<=r.heap.size:=k2.size
       have j2:Q.heap[r.heap.size]?=some (.cells #[.int .u8 0,(0:Int),(0:Int),(0:Int)] 111 (0,0)):=by rw[f4];exact wN _ _
       have S9:r.heap.size<Q.heap.size:=lZ j2
       have k5:=I2
       have O4:=sE f4
       clear f4
       refine hK _ _ ?_ (λ D=>?_)
       .exact ⟨Kz c0,Kz C⟩
       clear hK K
       try simp only[AB]
       refine Bp [9,15] ?_
       refine Ai rfl (λ K hK=>?_) ?_
       .go_simp
        with_reducible refine(d7.o _ k5).mono ?_
        rintro e a3 ⟨rfl,w9⟩
        have s4:=w9.at_ j2 id
        have y5:=k5.then' w9
        refine hK _ _ ?_ (λ D=>?_)
        .exact ⟨Kz c0,Kz C⟩
        clear hK K
        try simp only[AB]
        refine Ap 10 ?_;refine Ap 11 ?_;refine Ap 12 ?_;refine Ap 13 ?_
        try simp only[AB]
        refine Bp [15] ?_
        refine Ai rfl (λ K hK=>?_) ?_
        .go_simp
         obtain⟨d3,f5⟩:∃ d3,d3=World.alloc a3 (.cells #[.int .u8 0,(0:Int),.int .u64 0] 106):=⟨_,rfl⟩
         rw[<- f5]
         have w7:Kp Aa a3 d3:=by rw[f5];exact ((Kr _ _).alloc _)
         have R5:r.heap.size<=a3.heap.size:=y5.size
         have s5:d3.heap[a3.heap.size]?=some (.cells #[.int .u8 0,(0:Int),.int .u64 0] 106 (0,0)):=by rw[f5];exact wN _ _
         have T0:a3.heap.size<d3.heap.size:=lZ s5
         have U4:=lZ s4
         have j3:=w7.at_ s4 id
         have K0:=y5.then' w7
         have O5:=sE f5
         clear f5
         refine hK _ _ ?_ (λ D=>?_)
         .exact ⟨Kz c0,Kz C⟩
         clear hK K
         try simp only[AB]
         have a1:=lZ j3
         obtain⟨E,F,G,V⟩:=Ay j3
         have A:=Ab j3;have f00:=A 0;have f01:=A 1;have f02:=A 2;have f03:=A 3
         refine Bp [16] ?_
         refine Ag rfl (λ K hK=>?_)
         clear A
         go_simp
         obtain⟨g6,o5⟩:∃ g6,g6=World.setCell (World.setCell (World.setCell (World.setCell (d3) ⟨r.heap.size,0,none⟩ (.int .u8 1)) ⟨r.heap.size,1,none⟩ (.int .i64 c.ty)) ⟨r.heap.size,2,none⟩ (.int .i64 c.ln)) ⟨r.heap.size,3,none⟩ (.int .i64 c.sz):=⟨_,rfl⟩
         rw[<- o5]
         obtain⟨M3,z7⟩:=BC j3 _ _ _ _ g6 o5
         have j4:=z7.at_ s5 (λ p=>by have B:a3.heap.size=r.heap.size:=p;omega)
         have K1:Kp Aa r g6:=K0.trans z7 (λ i T p=>by have B:i=r.heap.size:=p;(try have a0:=Nat.le_of_eq B);(first|omega|(simp only[World.size_drew] at *;omega)))
         clear o5 E f00 F f01 G f02 V f03
         refine hK _ _ ?_ (λ D=>?_)
         .exact ⟨Kz c0,Kz C⟩
         clear hK K
         try simp only[AB]
         have a1:=lZ j4
         obtain⟨E,F,G⟩:=cells3 j4
         have A:=Ab j4;have f00:=A 0;have f01:=A 1;have f02:=A 2
         refine Bp [17] ?_
         refine Ag rfl (λ K hK=>?_)
         clear A
         go_simp
         obtain⟨l2,o6⟩:∃ l2,l2=World.setCell (World.setCell (World.setCell (g6) ⟨a3.heap.size,0,none⟩ (.int .u8 k)) ⟨a3.heap.size,1,none⟩ (.int .i64 wds)) ⟨a3.heap.size,2,none⟩ (.int .u64 m):=⟨_,rfl⟩
         rw[<- o6]
         obtain⟨M4,z8⟩:=BL j4 _ _ _ l2 o6
         have F7:=z8.at_ M3 (λ p=>by have B:r.heap.size=a3.heap.size:=p;omega)
         have K2:Kp Aa r l2:=K1.trans z8 (λ i T p=>by have B:i=a3.heap.size:=p;(try have a0:=Nat.le_of_eq B);(first|omega|(simp only[World.size_drew] at *;omega)))
         clear o6 E f00 F f01 G f02
         refine hK _ _ ?_ (λ D=>?_)
         .exact ⟨Kz c0,Kz C⟩
         clear hK K
         try simp only[AB]
         refine Ap 18 ?_
         try simp only[AB]
         refine wpAnyH_done (by kernel_rfl) ?_ _
         go_wp2_with fail
         go_meet
         exact⟨_,_,rfl,rfl,rfl,F7,M4,K2⟩
        exact AllReadyH.nil
       refine Ai rfl (λ K hK=>?_) ?_
       .go_simp
        obtain⟨g0,f6⟩:∃ g0,g0=World.alloc Q (.cells #[.int .u8 0,(0:Int),.int .u64 0] 106):=⟨_,rfl⟩
        rw[<- f6]
        have w2:Kp Aa Q g0:=by rw[f6];exact ((Kr _ _).alloc _)
        have Q6:r.heap.size<=Q.heap.size:=k5.size
        have s0:g0.heap[Q.heap.size]?=some (.cells #[.int .u8 0,(0:Int),.int .u64 0] 106 (0,0)):=by rw[f6];exact wN _ _
        have R9:Q.heap.size<g0.heap.size:=lZ s0
        have T9:=lZ j2
        have E3:=w2.at_ j2 id
        have y1:=k5.then' w2
        have N6:=sE f6
        clear f6
        refine hK _ _ ?_ (λ D=>?_)
        .exact ⟨Kz c0,Kz C⟩
        clear hK K
        try simp only[AB]
        refine Bp [9] ?_
        refine Ai rfl (λ K hK=>?_) ?_
        .go_simp
         with_reducible refine(d7.o _ y1).mono ?_
         rintro e M9 ⟨rfl,p0⟩
         have i3:=p0.at_ E3 id
         have E4:=p0.at_ s0 id
         have I5:=y1.then' p0
         refine hK _ _ ?_ (λ D=>?_)
         .exact ⟨Kz c0,Kz C⟩
         clear hK K
         try simp only[AB]
         refine Ap 10 ?_;refine Ap 11 ?_;refine Ap 12 ?_;refine Ap 13 ?_
         try simp only[AB]
         have a1:=lZ i3
         obtain⟨E,F,G,V⟩:=Ay i3
         have A:=Ab i3;have f00:=A 0;have f01:=A 1;have f02:=A 2;have f03:=A 3
         refine Bp [16] ?_
         refine Ag rfl (λ K hK=>?_)
         clear A
         go_simp
         obtain⟨g1,n5⟩:∃ g1,g1=World.setCell (World.setCell (World.setCell (World.setCell (M9) ⟨r.heap.size,0,none⟩ (.int .u8 1)) ⟨r.heap.size,1,none⟩ (.int .i64 c.ty)) ⟨r.heap.size,2,none⟩ (.int .i64 c.ln)) ⟨r.heap.size,3,none⟩ (.int .i64 c.sz):=⟨_,rfl⟩
         rw[<- n5]
         obtain⟨L3,y7⟩:=BC i3 _ _ _ _ g1 n5
         have i4:=y7.at_ E4 (λ p=>by have B:Q.heap.size=r.heap.size:=p;omega)
         have I6:Kp Aa r g1:=I5.trans y7 (λ i T p=>by have B:i=r.heap.size:=p;(try have a0:=Nat.le_of_eq B);(first|omega|(simp only[World.size_drew] at *;omega)))
         clear n5 E f00 F f01 G f02 V f03
         refine hK _ _ ?_ (λ D=>?_)
         .exact ⟨Kz c0,Kz C⟩
         clear hK K
         try simp only[AB]
         have a1:=lZ i4
         obtain⟨E,F,G⟩:=cells3 i4
         have A:=Ab i4;have f00:=A 0;have f01:=A 1;have f02:=A 2
         refine Bp [17] ?_
         refine Ag rfl (λ K hK=>?_)
         clear A
         go_simp
         obtain⟨k7,n6⟩:∃ k7,k7=World.setCell (World.setCell (World.setCell (g1) ⟨Q.heap.size,0,none⟩ (.int .u8 k)) ⟨Q.heap.size,1,none⟩ (.int .i64 wds)) ⟨Q.heap.size,2,none⟩ (.int .u64 m):=⟨_,rfl⟩
         rw[<- n6]
         obtain⟨L4,y8⟩:=BL i4 _ _ _ k7 n6
         have E6:=y8.at_ L3 (λ p=>by have B:r.heap.size=Q.heap.size:=p;omega)
         have I7:Kp Aa r k7:=I6.trans y8 (λ i T p=>by have B:i=Q.heap.size:=p;(try have a0:=Nat.le_of_eq B);(first|omega|(simp only[World.size_drew] at *;omega)))
         clear n6 E f00 F f01 G f02
         refine hK _ _ ?_ (λ D=>?_)
         .exact ⟨Kz c0,Kz C⟩
         clear hK K
         try simp only[AB]
         refine Ap 18 ?_
         try simp only[AB]
         refine wpAnyH_done (by kernel_rfl) ?_ _
         go_wp2_with fail
         go_meet
         exact⟨_,_,rfl,rfl,rfl,E6,L4,I7⟩
        exact AllReadyH.nil
       exact AllReadyH.nil
      refine Ai rfl (λ K hK=>?_) ?_
      .go_simp
       obtain⟨J,e7⟩:∃ J,J=World.drew (World.alloc r (.cells #[.int .u8 0,(0:Int),.int .u64 0] 106)):=⟨_,rfl⟩
       rw[<- e7]
       have H9:Kp Aa r J:=by rw[e7];exact ((Kr _ _).alloc _).drew
       have Q7:r.heap.size<=r.heap.size:=k2.size
       have i5:J.heap[r.heap.size]?=some (.cells #[.int .u8 0,(0:Int),.int .u64 0] 106 (0,0)):=by rw[e7];exact wN _ _
       have S0:r.heap.size<J.heap.size:=lZ i5
       have k3:=H9
       have N8:=sE e7
       clear e7
       refine hK _ _ ?_ (λ D=>?_)
       .exact ⟨Kz c0,Kz C⟩
       clear hK K
       try simp only[AB]
       refine Bp [9,14] ?_
       refine Ai rfl (λ K hK=>?_) ?_
       .go_simp
        with_reducible refine(d7.o _ k3).mono ?_
        rintro e Z ⟨rfl,w8⟩
        have s1:=w8.at_ i5 id
        have y2:=k3.then' w8
        refine hK _ _ ?_ (λ D=>?_)
        .exact ⟨Kz c0,Kz C⟩
        clear hK K
        try simp only[AB]
        refine Ap 10 ?_;refine Ap 11 ?_;refine Ap 12 ?_;refine Ap 13 ?_
        try simp only[AB]
        refine Bp [14] ?_
        refine Ai rfl (λ K hK=>?_) ?_
        .go_simp
         obtain⟨d1,e9⟩:∃ d1,d1=World.alloc Z (.cells #[.int .u8 0,(0:Int),(0:Int),(0:Int)] 111):=⟨_,rfl⟩
         rw[<- e9]
         have w3:Kp Aa Z d1:=by rw[e9];exact ((Kr _ _).alloc _)
         have Q8:r.heap.size<=Z.heap.size:=y2.size
         have e2:d1.heap[Z.heap.size]?=some (.cells #[.int .u8 0,(0:Int),(0:Int),(0:Int)] 111 (0,0)):=by rw[e9];exact wN _ _
         have S1:Z.heap.size<d1.heap.size:=lZ e2
         have U0:=lZ s1
         have E7:=w3.at_ s1 id
         have I8:=y2.then' w3
         have N9:=sE e9
         clear e9
         refine hK _ _ ?_ (λ D=>?_)
         .exact ⟨Kz c0,Kz C⟩
         clear hK K
         try simp only[AB]
         have a1:=lZ e2
         obtain⟨E,F,G,V⟩:=Ay e2
         have A:=Ab e2;have f00:=A 0;have f01:=A 1;have f02:=A 2;have f03:=A 3
         refine Bp [16] ?_
         refine Ag rfl (λ K hK=>?_)
         clear A
         go_simp
         obtain⟨g2,n7⟩:∃ g2,g2=World.setCell (World.setCell (World.setCell (World.setCell (d1) ⟨Z.heap.size,0,none⟩ (.int .u8 1)) ⟨Z.heap.size,1,none⟩ (.int .i64 c.ty)) ⟨Z.heap.size,2,none⟩ (.int .i64 c.ln)) ⟨Z.heap.size,3,none⟩ (.int .i64 c.sz):=⟨_,rfl⟩
         rw[<- n7]
         obtain⟨L5,y9⟩:=BC e2 _ _ _ _ g2 n7
         have i6:=y9.at_ E7 (λ p=>by have B:r.heap.size=Z.heap.size:=p;omega)
         have I9:Kp Aa r g2:=I8.trans y9 (λ i T p=>by have B:i=Z.heap.size:=p;(try have a0:=Nat.le_of_eq B);(first|omega|(simp only[World.size_drew] at *;omega)))
         clear n7 E f00 F f01 G f02 V f03
         refine hK _ _ ?_ (λ D=>?_)
         .exact ⟨Kz c0,Kz C⟩
         clear hK K
         try simp only[AB]
         have a1:=lZ i6
         obtain⟨E,F,G⟩:=cells3 i6
         have A:=Ab i6;have f00:=A 0;have f01:=A 1;have f02:=A 2
         refine Bp [17] ?_
         refine Ag rfl (λ K hK=>?_)
         clear A
         go_simp
         obtain⟨k8,n8⟩:∃ k8,k8=World.setCell (World.setCell (World.setCell (g2) ⟨r.heap.size,0,none⟩ (.int .u8 k)) ⟨r.heap.size,1,none⟩ (.int .i64 wds)) ⟨r.heap.size,2,none⟩ (.int .u64 m):=⟨_,rfl⟩
         rw[<- n8]
         obtain⟨L6,z0⟩:=BL i6 _ _ _ k8 n8
         have F0:=z0.at_ L5 (λ p=>by have B:Z.heap.size=r.heap.size:=p;omega)
         have J0:Kp Aa r k8:=I9.trans z0 (λ i T p=>by have B:i=r.heap.size:=p;(try have a0:=Nat.le_of_eq B);(first|omega|(simp only[World.size_drew] at *;omega)))
         clear n8 E f00 F f01 G f02
         refine hK _ _ ?_ (λ D=>?_)
         .exact ⟨Kz c0,Kz C⟩
         clear hK K
         try simp only[AB]
         refine Ap 18 ?_
         try simp only[AB]
         refine wpAnyH_done (by kernel_rfl) ?_ _
         go_wp2_with fail
         go_meet
         exact⟨_,_,rfl,rfl,rfl,F0,L6,J0⟩
        exact AllReadyH.nil
       refine Ai rfl (λ K hK=>?_) ?_
       .go_simp
        obtain⟨f9,f0⟩:∃ f9,f9=World.alloc J (.cells #[.int .u8 0,(0:Int),(0:Int),(0:Int)] 111):=⟨_,rfl⟩
        rw[<- f0]
        have w5:Kp Aa J f9:=by rw[f0];exact ((Kr _ _).alloc _)
        have R0:r.heap.size<=J.heap.size:=k3.size
        have s3:f9.heap[J.heap.size]?=some (.cells #[.int .u8 0,(0:Int),(0:Int),(0:Int)] 111 (0,0)):=by rw[f0];exact wN _ _
        have S2:J.heap.size<f9.heap.size:=lZ s3
        have U1:=lZ i5
        have F1:=w5.at_ i5 id
        have y3:=k3.then' w5
        have O0:=sE f0
        clear f0
        refine hK _ _ ?_ (λ D=>?_)
        .exact ⟨Kz c0,Kz C⟩
        clear hK K
        try simp only[AB]
        refine Bp [9] ?_
        refine Ai rfl (λ K hK=>?_) ?_
        .go_simp
         with_reducible refine(d7.o _ y3).mono ?_
         rintro e N0 ⟨rfl,p1⟩
         have F2:=p1.at_ F1 id
         have i7:=p1.at_ s3 id
         have J1:=y3.then' p1
         refine hK _ _ ?_ (λ D=>?_)
         .exact ⟨Kz c0,Kz C⟩
         clear hK K
         try simp only[AB]
         refine Ap 10 ?_;refine Ap 11 ?_;refine Ap 12 ?_;refine Ap 13 ?_
         try simp only[AB]
         have a1:=lZ i7
         obtain⟨E,F,G,V⟩:=Ay i7
         have A:=Ab i7;have f00:=A 0;have f01:=A 1;have f02:=A 2;have f03:=A 3
         refine Bp [16] ?_
         refine Ag rfl (λ K hK=>?_)
         clear A
         go_simp
         obtain⟨g3,n9⟩:∃ g3,g3=World.setCell (World.setCell (World.setCell (World.setCell (N0) ⟨J.heap.size,0,none⟩ (.int .u8 1)) ⟨J.heap.size,1,none⟩ (.int .i64 c.ty)) ⟨J.heap.size,2,none⟩ (.int .i64 c.ln)) ⟨J.heap.size,3,none⟩ (.int .i64 c.sz):=⟨_,rfl⟩
         rw[<- n9]
         obtain⟨L7,z1⟩:=BC i7 _ _ _ _ g3 n9
         have i8:=z1.at_ F2 (λ p=>by have B:r.heap.size=J.heap.size:=p;omega)
         have J2:Kp Aa r g3:=J1.trans z1 (λ i T p=>by have B:i=J.heap.size:=p;(try have a0:=Nat.le_of_eq B);(first|omega|(simp only[World.size_drew] at *;omega)))
         clear n9 E f00 F f01 G f02 V f03
         refine hK _ _ ?_ (λ D=>?_)
         .exact ⟨Kz c0,Kz C⟩
         clear hK K
         try simp only[AB]
         have a1:=lZ i8
         obtain⟨E,F,G⟩:=cells3 i8
         have A:=Ab i8;have f00:=A 0;have f01:=A 1;have f02:=A 2
         refine Bp [17] ?_
         refine Ag rfl (λ K hK=>?_)
         clear A
         go_simp
         obtain⟨k9,o0⟩:∃ k9,k9=World.setCell (World.setCell (World.setCell (g3) ⟨r.heap.size,0,none⟩ (.int .u8 k)) ⟨r.heap.size,1,none⟩ (.int .i64 wds)) ⟨r.heap.size,2,none⟩ (.int .u64 m):=⟨_,rfl⟩
         rw[<- o0]
         obtain⟨L8,z2⟩:=BL i8 _ _ _ k9 o0
         have F3:=z2.at_ L7 (λ p=>by have B:J.heap.size=r.heap.size:=p;omega)
         have J3:Kp Aa r k9:=J2.trans z2 (λ i T p=>by have B:i=r.heap.size:=p;(try have a0:=Nat.le_of_eq B);(first|omega|(simp only[World.size_drew] at *;omega)))
         clear o0 E f00 F f01 G f02
         refine hK _ _ ?_ (λ D=>?_)
         .exact ⟨Kz c0,Kz C⟩
         clear hK K
         try simp only[AB]
         refine Ap 18 ?_
         try simp only[AB]
         refine wpAnyH_done (by kernel_rfl) ?_ _
         go_wp2_with fail
         go_meet
         exact⟨_,_,rfl,rfl,rfl,F3,L8,J3⟩
        exact AllReadyH.nil
       exact AllReadyH.nil
      exact AllReadyH.nil
     case rest=>
      obtain⟨d9,D3,rfl,rfl,rfl,e1,e3,a2⟩:=hcut
      obtain⟨E,F,G,V⟩:=Ay e1
      obtain⟨L0,L1,L2⟩:=cells3 e3
      have S4:=lZ e1
      have S5:=lZ e3
      have B9:Sl (Kp Aa r wc):=⟨a2⟩
      replace a4:=a2.cell a4 id
      have G6:w.heap.size<wc.heap.size:=Nat.lt_of_lt_of_le G4 a2.size
      clear e1 e3 c0 C f7 f8 a2 E F V
      go_wp2_with fail
      refine(C3.o _).mono ?_
      rintro e b0 ⟨M7,rfl,t7,c9⟩
      have l9:=sE t7
      have q0:Sl (Kp Aa r b0):=⟨B9.o.then' c9⟩
      replace a4:=c9.cell a4 id
      have S8:w.heap.size<b0.heap.size:=Nat.lt_of_lt_of_le G6 c9.size
      obtain⟨M,c6⟩:∃ M,(BP k wds m (c.ln:Nat)).length=M:=⟨_,rfl⟩
      rw[c6] at l9
      clear t7 c9 G L0 L1 L2
      rcases Nat.eq_zero_or_pos M with h0M|h0M
      .subst h0M
       have n1:∃ a q9,M7=.slice a 0 q9:=by
        rcases l9.o.2 with ⟨p,_⟩|⟨r2,q8,D5,a8,_⟩
        .exact ⟨none,0,p⟩
        .exact ⟨_,_,a8⟩
       obtain⟨a,q9,rfl⟩:=n1
       have C1:Sl (BP k wds m (c.ln:Nat)=[]):=⟨List.length_eq_zero_iff.1 c6⟩
       clear c6
       go_wp2
       exact bodyPost_ret (v:=.bool true) (by simp[results,results102,go_sem]) rfl ⟨W,cs,q,rfl,d6.o.Ac q0.o,rfl,.inr ⟨b2,b3,b4,c,b6.g,k,wds,m,⟨l3.o,l4.o,l5.o⟩,⟨a6.o,b5.o⟩,p8.o,p9.o,d8.o,.inl ⟨C1.o,rfl⟩⟩⟩
      .have G0:b4%M<M:=Nat.mod_lt _ h0M
       have G7:(b4:Int)%(M:Int)=((b4%M:Nat):Int):=by push_cast;rfl
       obtain⟨k1,m8⟩:∃ k1,b4%M=k1:=⟨_,rfl⟩
       rw[m8] at G0 G7
       obtain⟨j,c7⟩:∃ j,(BP k wds m (c.ln:Nat))[k1]?=some j:=⟨(BP k wds m (c.ln:Nat))[k1]'(by omega),by simp⟩
       obtain⟨P4,P2,rfl,R6,R7,D8⟩:=owns_num l9.o c6.symm c7
       have m9:(j:Int)<AZ k wds (c.ln:Nat):=by
        have P5:=refsUpto_mem (List.mem_of_getElem? c7)
        have P6:=(Bj c3.o).1
        omega
       obtain⟨A2,A3,N2⟩:=slot_in d6.o.cells a6.o b5.o d8.o m9
       have c5:Sl (2*c.g<2*c.g+1+j/\2*c.g+1+j<2*c.fin/\2*c.g+1+j<P.n):=⟨⟨A2,A3,N2⟩⟩
       have B5:=sE m9
       have Q0:((M:Int)==0)=false:=by simp;omega
       have Q3:=l5.o
       have l6:=d6.o.Ac q0.o
       have p6:=sE l6
       obtain⟨r0,b7⟩:=l6.at_
       have C4:=sE b7
       have B2:=sE (FR P W r0 b0 b7)
       have C6:=sE (STable_at P W r0 b0 b7)
       have C0:=sE (SOf_any (c.g:Nat) P.a P.q P.n P.t P.tq W P.ts b0 b7.fl b7.ar b7.tb)
       have B6:Sl ((BP k wds m (c.ln:Nat))[b4%(BP k wds m (c.ln:Nat)).length]?=some j):=⟨by rw[c6,m8];exact c7⟩
       clear c6 m8 c7 m9 A2 A3 l6 b7
       go_wp2_with fail
       refine B2.o.mono ?_
       rintro e p2 ⟨rfl,rfl⟩
       go_wp2_with fail
       refine C6.o.mono ?_
       rintro e p2 ⟨rfl,rfl⟩
       go_wp2_with fail
       refine C0.o.mono ?_
       intro e p2 b8
       unfold Db at b8
       rw[p6.o.cells.obj a6.o b5.o] at b8
       obtain⟨M6,H7,N1,m',R,rfl,v3,H4,o7⟩:=b8
       rw[d8.o] at R
       injection R with R
       injection R with R h1' h1''
       subst R h1' h1''
       have C7:=sE v3
       have p7:=sE (p6.o.Ac o7)
       have A7:=sE ((C4.o.Ac o7).ar)
       have C5:=sE (VStore_yes j Y M6 P.a P.q P.n W c k wds m p2 A7.o C7.o c3.o B5.o q5.o c5.o.2.2)
       clear v3 H4 o7
       go_wp2_with fail
       refine C5.o.mono ?_
       rintro e M8 ⟨rfl,o8,p4⟩
       have D1:=sE o8
       have B0:=sE p4
       have n2:∀ b,¬ P.own b->¬ (b=P.a\/b=P.q):=λ b p e=>p (by rcases e with e|e;exact .inl e;exact .inr (.inl e))
       have v1:¬ P.own I:=λ p=>d5.o.rbn (Sp.Cr p)
       have v0:¬ P.own q:=λ p=>d5.o.qn (Sp.Cr p)
       have g8:=p7.o.dc.keep o8 (n2 _ v1) (n2 _ v0)
       have l7:=sE g8
       obtain⟨cap,D9,i2⟩:=g8.head
       have T2:=g8.lt
       clear a4 o8 p4 g8 v1 v0 n2 D8
       go_wp2_with (at_builtin;go_loud (refine copy_words rfl (.tmp 127) rfl q P.n cap W rfl l7.o.row (by have:=c5.o.2.2;omega) ?_;intro c2 N i1 e5 H0 o9;have C2:=sE e5;have D2:=sE o9;have O6:=e5.at_ c5.o.2.2;have m1:=e5.free (2*c.g+1+j);have d4:=l7.o.Ac o9;obtain ⟨O9,O7,d9⟩:=d4.head;have D3:=d4.free 0;have T5:=d4.lt;have T6:=e5.lt;have G8:¬ N=I:=(by omega);have G9:¬ I=N:=(by omega);have B3:=sE d4;have H1:¬ q=N:=(by have:=l7.o.row.lt;omega);clear D9 i2 e5 o9 d4))
       try go_wp2
       have v9:Kp (λ k=>k=N) c2 (c2.setCell ⟨N,2*c.g+1+j,none⟩ (.int .u64 Y)):=(Kr (λ k=>k=N) c2).setCell (λ _=>rfl) _
       have A5:=B3.o.keep v9 G9 H1
       obtain⟨P0,H2⟩:=A5.hr
       have v8:Kp (λ k=>k=I) (c2.setCell ⟨N,2*c.g+1+j,none⟩ (.int .u64 Y)) ((c2.setCell ⟨N,2*c.g+1+j,none⟩ (.int .u64 Y)).setCell I (.slice (some ⟨N,0,none⟩) P.n i1)):=(Kr (λ k=>k=I) _).setCell (λ _=>rfl) _
       have A4:DocAt ((c2.setCell ⟨N,2*c.g+1+j,none⟩ (.int .u64 Y)).setCell I (.slice (some ⟨N,0,none⟩) P.n i1)) I N P.n (DN W (2*c.g+1+j) Y) c1:=
        ⟨⟨i1,by rw[bZ H2 _];rfl⟩,(C2.o.store c5.o.2.2 Y q5.o).keep v8 G8⟩
       have H8:Kp (λ k=>k=I) M8 ((c2.setCell ⟨N,2*c.g+1+j,none⟩ (.int .u64 Y)).setCell I (.slice (some ⟨N,0,none⟩) P.n i1)):=
        ((D2.o.Aw _).trans v9 (λ b a7 p=>by have B:b=N:=p;omega)).trans v8 (λ _ _ p=>p)
       exact bodyPost_ret (v:=.bool true) (by simp[results,results102,go_sem]) rfl ⟨_,cs,N,rfl,p7.o.lay D1.o B0.o a6.o c5.o.1 c5.o.2.1 H8 A4 (.inr H0),rfl,.inr ⟨b2,b3,b4,c,b6.g,k,wds,m,⟨l3.o,l4.o,l5.o⟩,⟨a6.o,b5.o⟩,p8.o,p9.o,d8.o,.inr ⟨j,Y,B6.o,D0.o,rfl⟩⟩⟩

theorem Does_joinR(w0 w:World)(P:Sp)(b q:Nat)(k:Value)(W:Nat->Nat)(cs:List Cel)(g i n y:Int)(u:Value)(A:Both w0 w P b q k W cs)(E:∃ a l c,u=.slice a l c):
  Calls prog 50 #[.pointer (some P.s),.pointer (some b),DK 5 g i n y u] w (EP w0 P b k (λ d f=>JoinStep P W cs g i n d f) w):=by
 obtain⟨m,r,p,rfl⟩:=E
 obtain⟨w1,j⟩:∃ w1,w1=w.alloc (.cells #[(5:Int),.int .i64 g,.int .i64 i,.int .i64 n,.int .u64 y,.slice m r p] 104):=⟨_,rfl⟩
 have B:Kp Aa w w1:=by rw[j];exact (Kr _ w).alloc _
 have t:=sE (joins_any w0 w1 P b q k W cs 5 g i n y (.slice m r p) (A.Ac B) ⟨m,r,p,rfl⟩)
 unfold DK at t ⊢
 clear A B
 go_enter func50,ntmps50
 go_wp2_with fail
 rw[<- j]
 clear j
 refine t.o.mono ?_
 rintro e w2 ⟨d,f,F,rfl,x,z⟩
 have D:=sE z
 clear z
 have C:=sE x
 clear x
 go_wp2
 exact bodyPost_ret (v:=.bool true) (by simp[results,results50,go_sem]) rfl ⟨d,f,F,rfl,C.o,D.o⟩

theorem Does_join(w0 w:World)(P:Sp)(b q:Nat)(d:Value)(W:Nat->Nat)(cs:List Cel)(g i n y:Int)(u:Value)(f:Both w0 w P b q d W cs)(j:∃ a l c,u=.slice a l c):
  Calls prog 50 #[.pointer (some P.s),.pointer (some b),DK 5 g i n y u] w (Eo w0 P b d w):=
 (Does_joinR w0 w P b q d W cs g i n y u f j).mono λ_ _ e=>e.weak

def Ea(n:Int)(xs:List TypR)(lv:Value)(w:World)(e:Ending)(w':World):Prop:=
 (e=.returned (.tuple #[.pointer none,.pointer none,.bool true])/\Kp Aa w w')\/
 (∃ P rb q W cs,e=.returned (.tuple #[.pointer (some P.s),.pointer (some ⟨rb,0,none⟩),.bool true])/\Both w w' P rb q lv W cs/\(P.n:Int)=n/\P.ts=xs/\16<=P.n)

theorem Made_no(n:Int)(a:Value)(xs:List TypR)(w:World)(d:A8 w a xs)(c:xs.length<=17592186044416)(b:¬ Ga 0 xs=0):
  Calls prog 49 #[.int .i64 n,a] w (Ea n xs a w):=by
 have g:=sE (TNew_any a xs w d c)
 have k:(Ga 0 xs !=0)=true:=by simpa using b
 have f:=sE b
 clear d c b
 go_enter func49,ntmps49
 go_wp2_with fail
 refine g.o.mono ?_
 rintro e w1 ⟨j,⟨i,-⟩|⟨-,rfl⟩⟩
 .exact absurd i f.o
 .go_wp2
  exact bodyPost_ret (v:=.tuple #[.pointer none,.pointer none,.bool true]) (by simp[results,results49,go_sem]) rfl (.inl ⟨rfl,j⟩)

theorem Made_words(n:Int)(f:Value)(xs:List TypR)(w:World)(m:A8 w f xs)(l:xs.length<=17592186044416)(k:Ga 0 xs=0)(d:Dn n=false):
  Calls prog 49 #[.int .i64 n,f] w (Ea n xs f w):=by
 have j:=sE (TNew_any f xs w m l)
 have g:=sE k
 have i:Sl (∀ t c,Calls prog 93 #[.int .i64 n,.pointer (some ⟨t,0,none⟩)] c λ e w'=>e=.returned (.tuple #[.pointer none,(2:Int)])/\w'=c):=⟨λ t c=>SNew_no n t c d⟩
 have u:n<16\/65536<n\/n%2≠0:=by
  unfold Dn at d
  have:=of_decide_eq_false d
  omega
 clear m l k d
 rcases Decidable.em (n<16) with h1|h1
 .go_enter func49,ntmps49
  go_wp2_with fail
  refine j.o.mono ?_
  rintro e w1 ⟨b,⟨-,t,p,rfl,-⟩|⟨a,-⟩⟩
  .go_wp2_with fail
   refine(i.o t w1).mono ?_
   rintro e w2 ⟨rfl,rfl⟩
   go_wp2
   exact bodyPost_ret (v:=.tuple #[.pointer none,.pointer none,.bool true]) (by simp[results,results49,go_sem]) rfl (.inl ⟨rfl,b⟩)
  .exact absurd g.o a
 .rcases Decidable.em (65536<n) with h2|h2
  .go_enter func49,ntmps49
   go_wp2_with fail
   refine j.o.mono ?_
   rintro e w1 ⟨b,⟨-,t,p,rfl,-⟩|⟨a,-⟩⟩
   .go_wp2_with fail
    refine(i.o t w1).mono ?_
    rintro e w2 ⟨rfl,rfl⟩
    go_wp2
    exact bodyPost_ret (v:=.tuple #[.pointer none,.pointer none,.bool true]) (by simp[results,results49,go_sem]) rfl (.inl ⟨rfl,b⟩)
   .exact absurd g.o a
  .have q:n%2≠0:=by omega
   have s:(n%2 !=0)=true:=by simpa using q
   have r:0<=n:=by omega
   go_enter func49,ntmps49
   go_wp2_with fail
   refine j.o.mono ?_
   rintro e w1 ⟨b,⟨-,t,p,rfl,-⟩|⟨a,-⟩⟩
   .go_wp2_with fail
    refine(i.o t w1).mono ?_
    rintro e w2 ⟨rfl,rfl⟩
    go_wp2
    exact bodyPost_ret (v:=.tuple #[.pointer none,.pointer none,.bool true]) (by simp[results,results49,go_sem]) rfl (.inl ⟨rfl,b⟩)
   .exact absurd g.o a

def NewPost(n:Nat)(xs:List TypR)(lv:Value)(w:World)(e:Ending)(w':World):Prop:=
 ∃ P rb q,e=.returned (.tuple #[.pointer (some P.s),.pointer (some ⟨rb,0,none⟩),.bool true])/\Both w w' P rb q lv (Bd (λ _=>0) 0 (n/2)) (gapL 0 (n/2))/\P.n=n/\P.ts=xs

theorem Made_new(n:Nat)(d:Value)(xs:List TypR)(w:World)(hF:Au w)(j:A8 w d xs)(L:xs.length<=17592186044416)(G:Cw xs)(K:Ga 0 xs=0)(r:Dn (n:Nat)=true):
  Calls prog 49 #[n,d] w (NewPost n xs d w):=by
 have a1:=sE (TNew_any d xs w j L)
 have a2:=sE j
 have X:=sE G
 have V:=sE hF
 have U:=sE K
 have M:∃ a l c,d=.slice a l c:=by obtain⟨a,c,b,-⟩:=j;exact ⟨_,_,_,b⟩
 have a9:16<=n/\n<=65536/\n%2=0:=by
  unfold Dn at r
  have:=of_decide_eq_true r
  omega
 obtain⟨a5,D,E⟩:=a9
 have W:=sE M
 have Q:=sE E
 have b4:((n:Int)%2 !=0)=false:=by simp;omega
 clear j L G K r hF M E
 go_enter func49,ntmps49
 go_wp2_with fail
 refine a1.o.mono ?_
 rintro e w1 ⟨u,⟨-,t,b2,rfl,i,b8,b9,b1⟩|⟨a4,-⟩⟩
 .have Z:=sE (SNew_yesW n t b2 xs w1 i (V.o.Ac u) i.lt_t b1 a5 D Q.o)
  have z:=sE u
  have a3:=i.few
  clear u i
  go_wp2_with fail
  refine Z.o.mono ?_
  rintro e w2 ⟨P,a8,a7,I,H,rfl,p,N,b7,b5,O⟩
  have a0:=sE p
  have A:=sE (z.o.then' O)
  have Y:Sl (∀ k,P.own k->w.heap.size<=k):=⟨λ k b=>Nat.le_trans z.o.size (N k b)⟩
  have g:=sE I
  have C:=sE H
  have T:=sE (DNew_at n d w2 W.o (by omega) D)
  have a6:∃ f,SpaceAt w2 P (Bd (λ _=>0) 0 (n/2)) f:=by obtain⟨f,b,_⟩:=p;exact ⟨f,b⟩
  obtain⟨f,F⟩:=a6
  have m:=sE F
  clear p O N I H a8 a7 F
  go_wp2_with fail
  refine T.o.mono ?_
  rintro e b3 ⟨y,q,rfl,b0,b6,J,x⟩
  have S:=sE J
  have B:=sE x
  have R:=sE (FR P _ f b3 (m.o.Ac x))
  clear J x
  go_wp2_with fail
  refine R.o.mono ?_
  rintro e c0 ⟨rfl,rfl⟩
  go_wp2
  refine bodyPost_ret (v:=.tuple #[.pointer (some P.s),.pointer (some y),.bool true]) (by simp[results,results49,go_sem]) rfl ⟨P,y,q,rfl,⟨a0.o.Ac B.o,?_,Y.o,?_,?_,?_,BX.gap _ _,?_,?_,?_,?_⟩,C.o,g.o⟩
  .rw [C.o];exact S.o
  .exact Nat.le_trans A.o.size b0
  .exact λ b=>by have:=m.o.lt y b;omega
  .exact λ b=>by have:=m.o.lt q b;omega
  .exact (A.o.then' B.o).Aw _
  .rw [g.o];exact a2.o
  .rw [g.o];exact a3
  .rw [g.o];exact X.o
 .exact absurd U.o a4

theorem Made_yes(n:Nat)(a:Value)(xs:List TypR)(w:World)(hF:Au w)(l:A8 w a xs)(k:xs.length<=17592186044416)(i:Cw xs)(j:Ga 0 xs=0)(b:Dn (n:Nat)=true):
  Calls prog 49 #[n,a] w (Ea (n:Nat) xs a w):=by
 refine(Made_new n a xs w hF l k i j b).mono ?_
 rintro e w' ⟨P,m,q,c,d,f,g⟩
 refine .inr ⟨P,m,q,_,_,c,d,by rw[f],g,?_⟩
 unfold Dn at b
 have:=of_decide_eq_true b
 omega

theorem Made_any(n:Int)(a:Value)(xs:List TypR)(w:World)(hF:Au w)(c:A8 w a xs)(b:xs.length<=17592186044416)(f:Cw xs):
  Calls prog 49 #[.int .i64 n,a] w (Ea n xs a w):=by
 by_cases he:Ga 0 xs=0
 .cases hn:Dn n with
  |false=>exact Made_words n a xs w c b he hn
  |true=>
   have d:=hn
   unfold Dn at d
   have:=of_decide_eq_true d
   obtain⟨e,rfl⟩:=Int.eq_ofNat_of_zero_le (show 0<=n by omega)
   exact Made_yes e a xs w hF c b f he hn
 .exact Made_no n a xs w c b he

theorem Does_any(w0 w:World)(P:Sp)(b q:Nat)(e:Value)(W:Nat->Nat)(cs:List Cel)(d g i n y:Int)(u:Value)(m:Nat)(f:Both w0 w P b q e W cs)(t:0<=y/\y<=18446744073709551615)(p:∃ x,Bw 1 w0 u m x)(r:m<=300):
  Calls prog 50 #[.pointer (some P.s),.pointer (some b),DK d g i n y u] w (Eo w0 P b e w):=by
 obtain⟨x,k⟩:=p
 have j:∃ a l c,u=.slice a l c:=by obtain⟨a,c,o,-⟩:=k;exact ⟨_,_,_,o⟩
 by_cases h0:d=0
 .subst h0;exact Does_put w0 w P b q e W cs g i n y u f j
 by_cases h1:d=1
 .subst h1;exact Does_drop w0 w P b q e W cs g i n y u f j
 by_cases h2:d=2
 .subst h2;exact Does_slot w0 w P b q e W cs g i n y u f j t
 by_cases h3:d=3
 .subst h3;exact Does_settle w0 w P b q e W cs g i n y u f j m x k r
 by_cases h5:d=5
 .subst h5;exact Does_join w0 w P b q e W cs g i n y u f j
 .exact Does_else w0 w P b q e W cs d g i n y u f h0 h1 h2 h3 h5 j

set_option maxRecDepth 20000 in
theorem Played_any(n:Int)(f M:Value)(xs:List TypR)(a:Nat)(t u K L m:Nat->Int)(r:Nat->Value)(mm:Nat->Nat)(w:World)(hF:Au w)(H:A8 w f xs)(E:xs.length<=17592186044416)(B:Cw xs)
  (a2:FT w M a t u K L m r mm) (b4:a<=60) (J:∀ j,j<a->0<=m j/\m j<=18446744073709551615) (x:AtsAt w a r mm) (F:∀ j,j<a->mm j<=300):
  Calls prog 10 #[.int .i64 n,f,M] w (Ea n xs f w):=by
 have S:=sE (Made_any n f xs w hF H E B)
 have Y:=sE J
 have O:=sE x
 have T:=sE F
 obtain⟨b7,b8,rfl,I⟩:=a2
 have X:=sE I
 clear hF H E B J x F I
 go_enter func10,ntmps10
 go_wp2_with fail
 refine S.o.mono ?_
 rintro e w1 (⟨rfl,a5⟩|⟨P,l,q,W,cs,rfl,y,C,D,a1⟩)
 .go_wp2
  exact bodyPost_ret (v:=.tuple #[.pointer none,.pointer none,.bool true]) (by simp[results,results10,go_sem]) rfl (.inl ⟨rfl,a5⟩)
 .have Q:=sE y
  have U:=sE C
  have V:=sE D
  clear y C D
  go_wp2_with fail
  go_loopw [12] (λ z wr=>∃ (j k:Nat) (g:Nat->Nat) (i:List Cel),j<=a/\z=.int .i64 (j:Nat)/\Sl (Both w wr P l k f g i)) (λ z _=>a-(intOf z).toNat)
  case atStart=>exact ⟨0,q,W,cs,Nat.zero_le _,rfl,Q⟩
  case round=>
   obtain⟨j,k,g,i,b3,rfl,c⟩:=hrel
   by_cases hjl:j<a
   .have a4:(j:Int)<(a:Int):=by omega
    obtain⟨b,o,rfl,a3,x0,x1,x2,x3,x4,x5,⟨b5,b6,G⟩,-⟩:=X.o j hjl
    have d:¬ w.heap.size<=b:=by omega
    have a7:=c.o.kb.cell x0 d
    have a8:=c.o.kb.cell x1 d
    have a9:=c.o.kb.cell x2 d
    have b0:=c.o.kb.cell x3 d
    have b1:=c.o.kb.cell x4 d
    have N:=c.o.kb.cell x5 d
    have b2:b<wr.heap.size:=Nat.lt_of_lt_of_le a3 c.o.size
    have p:=sE (Does_any w wr P l k f g i (t j) (u j) (K j) (L j) (m j) (r j) (mm j) c.o (Y.o j hjl) (O.o j hjl) (T.o j hjl))
    unfold DK at p
    rw[G] at N p
    clear x0 x1 x2 x3 x4 x5 d G
    go_wp2_with fail
    refine p.o.mono ?_
    rintro e b9 ⟨Z,a0,a6,rfl,A⟩
    have R:=sE A
    clear A a7 a8 a9 b0 b1 N
    go_wp2
    exact⟨⟨j+1,a6,Z,a0,by omega,by go_num,R⟩,by simp only[intOf];omega⟩
   .have a4:¬ (j:Int)<(a:Int):=by omega
    go_wp2
    exact bodyPost_ret (v:=.tuple #[.pointer (some P.s),.pointer (some l),.bool true]) (by simp[results,results10,go_sem]) rfl (.inr ⟨P,l,k,g,i,rfl,c.o,U.o,V.o,a1⟩)

def StepR(P:Sp)(W:Nat->Nat)(cs:List Cel)(d g i n:Int)(W':Nat->Nat)(cs':List Cel):Prop:=
 (d=0->PutStep P W cs g i n W' cs')/\(d=5->JoinStep P W cs g i n W' cs')

theorem Does_anyR(w0 w:World)(P:Sp)(k q:Nat)(r:Value)(W:Nat->Nat)(cs:List Cel)(d g i n y:Int)(u:Value)(m:Nat)(z:Both w0 w P k q r W cs)(D:0<=y/\y<=18446744073709551615)(A:∃ x,Bw 1 w0 u m x)(C:m<=300):
  Calls prog 50 #[.pointer (some P.s),.pointer (some k),DK d g i n y u] w (EP w0 P k r (λ f j=>StepR P W cs d g i n f j) w):=by
 have B:∃ a l c,u=.slice a l c:=by obtain⟨x,a,c,b,-⟩:=A;exact ⟨_,_,_,b⟩
 by_cases h0:d=0
 .subst h0
  refine(Does_putR w0 w P k q r W cs g i n y u z B).mono ?_
  rintro e w' ⟨f,j,t,o,p,v⟩
  exact⟨f,j,t,o,p,λ _=>v,λ b=>absurd b (by omega)⟩
 by_cases h5:d=5
 .subst h5
  refine(Does_joinR w0 w P k q r W cs g i n y u z B).mono ?_
  rintro e w' ⟨f,j,t,o,p,v⟩
  exact⟨f,j,t,o,p,λ b=>absurd b (by omega),λ _=>v⟩
 refine(Does_any w0 w P k q r W cs d g i n y u m z D A C).mono ?_
 rintro e w' ⟨f,j,t,o,p⟩
 exact⟨f,j,t,o,p,λ b=>absurd b h0,λ b=>absurd b h5⟩

inductive RunR (P:Sp) (dd gg ii nn:Nat->Int) (W0:Nat->Nat) (cs0:List Cel):Nat->(Nat->Nat)->List Cel->Prop
 |zero:RunR P dd gg ii nn W0 cs0 0 W0 cs0
 |succ {j:Nat} {W W':Nat->Nat} {cs cs':List Cel}:RunR P dd gg ii nn W0 cs0 j W cs->StepR P W cs (dd j) (gg j) (ii j) (nn j) W' cs'->RunR P dd gg ii nn W0 cs0 (j+1) W' cs'

def RunPost(n:Nat)(xs:List TypR)(len:Nat)(dd gg ii nn:Nat->Int)(lv:Value)(w:World)(e:Ending)(w':World):Prop:=
 ∃ P rb q W cs,e=.returned (.tuple #[.pointer (some P.s),.pointer (some ⟨rb,0,none⟩),.bool true])/\Both w w' P rb q lv W cs/\P.n=n/\P.ts=xs/\RunR P dd gg ii nn (Bd (λ _=>0) 0 (n/2)) (gapL 0 (n/2)) len W cs

set_option maxRecDepth 20000 in
theorem Played_run(n:Nat)(f R:Value)(xs:List TypR)(a:Nat)(k l m p u:Nat->Int)(y:Nat->Value)(mm:Nat->Nat)(w:World)(hF:Au w)(N:A8 w f xs)(J:xs.length<=17592186044416)(E:Cw xs)(I:Ga 0 xs=0)(L:Dn (n:Nat)=true)
  (a5:FT w R a k l m p u y mm) (b6:a<=60) (Q:∀ j,j<a->0<=u j/\u j<=18446744073709551615) (B:AtsAt w a y mm) (K:∀ j,j<a->mm j<=300):
  Calls prog 10 #[n,f,R] w (RunPost n xs a k l m p f w):=by
 have W:=sE (Made_new n f xs w hF N J E I L)
 have a2:=sE Q
 have T:=sE B
 have X:=sE K
 obtain⟨b9,c0,rfl,O⟩:=a5
 have a1:=sE O
 clear hF N J E Q B K O I L
 go_enter func10,ntmps10
 go_wp2_with fail
 refine W.o.mono ?_
 rintro e w1 ⟨P,t,q,rfl,C,F,G⟩
 .have U:=sE C
  have Y:=sE F
  have Z:=sE G
  clear C F G
  go_wp2_with fail
  go_loopw [12] (λ z wr=>∃ (j r:Nat) (g:Nat->Nat) (i:List Cel),j<=a/\z=.int .i64 (j:Nat)/\Sl (Both w wr P t r f g i)/\Sl (RunR P k l m p (Bd (λ _=>0) 0 (n/2)) (gapL 0 (n/2)) j g i)) (λ z _=>a-(intOf z).toNat)
  case atStart=>exact ⟨0,q,_,_,Nat.zero_le _,rfl,U,⟨RunR.zero⟩⟩
  case round=>
   obtain⟨j,r,g,i,b5,rfl,c,A⟩:=hrel
   by_cases hjl:j<a
   .have a7:(j:Int)<(a:Int):=by omega
    obtain⟨b,o,rfl,a6,x0,x1,x2,x3,x4,x5,⟨b7,b8,M⟩,-⟩:=a1.o j hjl
    have d:¬ w.heap.size<=b:=by omega
    have a9:=c.o.kb.cell x0 d
    have b0:=c.o.kb.cell x1 d
    have b1:=c.o.kb.cell x2 d
    have b2:=c.o.kb.cell x3 d
    have b3:=c.o.kb.cell x4 d
    have S:=c.o.kb.cell x5 d
    have b4:b<wr.heap.size:=Nat.lt_of_lt_of_le a6 c.o.size
    have x:=sE (Does_anyR w wr P t r f g i (k j) (l j) (m j) (p j) (u j) (y j) (mm j) c.o (a2.o j hjl) (T.o j hjl) (X.o j hjl))
    unfold DK at x
    rw[M] at S x
    clear x0 x1 x2 x3 x4 x5 d M
    go_wp2_with fail
    refine x.o.mono ?_
    rintro e c1 ⟨a3,a4,a8,rfl,D,H⟩
    have a0:=sE (A.o.succ H)
    clear H
    have V:=sE D
    clear D a9 b0 b1 b2 b3 S
    go_wp2
    exact⟨⟨j+1,a8,a3,a4,by omega,by go_num,V,a0⟩,by simp only[intOf];omega⟩
   .have a7:¬ (j:Int)<(a:Int):=by omega
    go_wp2
    exact bodyPost_ret (v:=.tuple #[.pointer (some P.s),.pointer (some t),.bool true]) (by simp[results,results10,go_sem]) rfl ⟨P,t,r,g,i,rfl,c.o,Y.o,Z.o,by
     obtain rfl:j=a:=by omega
     exact A.o⟩

end

end Go.Proofs.YtfkedlgpgmaemaaGreatDoor
