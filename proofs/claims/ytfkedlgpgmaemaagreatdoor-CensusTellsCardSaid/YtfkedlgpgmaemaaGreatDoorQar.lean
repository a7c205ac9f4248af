/-
  Lemmas for the laws, together: Play3.
-/
import Derived.Test.YtfkedlgpgmaemaaGreatDoorQak
import Derived.Test.YtfkedlgpgmaemaaGreatDoorQaq
import Derived.Test.YtfkedlgpgmaemaaGreatDoorQap
import Derived.Test.YtfkedlgpgmaemaaGreatDoorQam
import Derived.Deep.DeepCutAuto
import Derived.Deep.CutBlock
set_option linter.unusedVariables false
set_option maxHeartbeats 16000000
namespace Go.Proofs.YtfkedlgpgmaemaaGreatDoor
open Tryz
section
open Go.RowKit

theorem CellsAt.obj{P:Sp}{W:Nat->Nat}{cs:List Cel}(b:CellsAt P W cs){c:Cel}(d:c∈cs)(a:c.tag=1):Cj W P.n P.ts (c.g:Nat)=some c:=by
 have f:=b.ok c d
 have p:=b.tl.mem d
 obtain⟨i,j,k,l,m⟩:=dec_enc f.1
 have o:=b.hd c d
 have e:=fitsE_ok f
 unfold Cj
 rw[Int.toNat_natCast,o,i,j,k,l,m,a]
 rw[a] at e
 rw[if_pos ⟨by omega,by omega,rfl,rfl,e,by omega⟩]
 obtain⟨g,tag,ty,ln,sz⟩:=c
 simp only at a
 subst a
 rfl

def SlotsPost(P:Sp)(cs:List Cel)(g:Int)(w:World)(e:Ending)(w':World):Prop:=
 ∃ r:Int,e=.returned (.int .i64 r)/\Kp Aa w w'/\((∃ c k wds m,c∈cs/\c.tag=1/\(c.g:Int)=g/\typeOf P.ts (c.ty:Nat)=some ⟨k,wds,m⟩/\r=AZ k wds (c.ln:Nat))\/((∀ c∈cs,c.tag=1->¬ (c.g:Int)=g)/\r=0))

def SlotsCut(x:Cel)(k wds:Int)(m:Nat)(w:World)(a b e:Value)(wx:World):Prop:=
 ∃ b1 b2,a=.pointer (some ⟨b1,0,none⟩)/\b=.pointer (some ⟨b2,0,none⟩)/\e=.int .i64 0/\wx.heap[b1]?=some (.cells #[.int .u8 1,x.ty,x.ln,x.sz] 111 (0,0))/\
  wx.heap[b2]?=some (.cells #[.int .u8 k,.int .i64 wds,.int .u64 m] 106 (0,0))/\Kp Aa w wx

set_option maxRecDepth 20000 in
theorem DSl_any(P:Sp)(W:Nat->Nat)(cs:List Cel)(V q:Nat)(U:Value)(g:Int)(w:World)(T:DocAt w V q P.n W U)(R:CellsAt P W cs)(g6:A8 w U P.ts)(g2:P.ts.length<=17592186044416)(f6:Cw P.ts):
  Calls prog 99 #[.pointer (some V),.int .i64 g] w (SlotsPost P cs g w):=by
 have r6:cs.length<=32768:=by
  have:=BG R.tl
  have:=T.row.small
  omega
 have j4:=sE (DAll_at P W cs V q U w T R g6 g2 f6)
 have r7:=T.lt
 have A7:=T.row.small
 have j6:=sE T
 have j5:=sE R
 have p2:=sE g6
 have j9:=sE f6
 have o8:=sE g2
 clear T g6 f6 g2 R
 go_enter func99,ntmps99
 go_wp2_with fail
 refine j4.o.mono ?_
 rintro e wl ⟨v,rfl,l5,n3⟩
 have o7:=sE n3
 have f2:=sE (Du.Bc l5)
 obtain⟨w7,B8,g7,-⟩:=f2.o
 subst g7
 obtain⟨Q,g3⟩:∃ Q,cs.length=Q:=⟨_,rfl⟩
 rw[g3] at f2 r6 ⊢
 have j8:=sE g3
 clear l5 n3 j4 g3
 go_wp2_with fail
 go_loopw [6] (λ y wr=>∃ j:Nat,j<=Q/\y=.int .i64 j/\Kp Aa w wr/\Kp Aa wl wr/\Sl (∀ m x,m<j->cs[m]?=some x->¬ (x.tag=1/\(x.g:Int)=g))) (λ y _=>Q-(intOf y).toNat)
 case atStart=>exact ⟨0,Nat.zero_le _,rfl,o7.o,Kr _ _,⟨λ m x f=>by omega⟩⟩
 case round=>
  obtain⟨j,z5,rfl,g1,d9,l3⟩:=hrel
  have j7:=sE d9
  have N:=sE g1
  by_cases hjl:j<Q
  .have r5:(j:Int)<(Q:Int):=by omega
   obtain⟨x,e1⟩:∃ x,cs[j]?=some x:=⟨cs[j]'(by rw[j8.o];exact hjl),by simp⟩
   obtain⟨a',y3,k4,l6⟩:=f2.o.Ac d9
   obtain⟨b,k5,p9,u5,u6,u7,j3,v0⟩:=l6 j x e1
   have g7:w7=some ⟨b,0,none⟩:=by injection k4 with O;rw [O];exact k5
   subst g7
   have l7:x∈cs:=List.mem_of_getElem? e1
   have p3:=sE e1
   have f3:=sE l7
   clear e1 l7 l6 k4 k5 d9 g1
   by_cases M:(x.g:Int)=g/\x.tag=1
   .obtain ⟨M,b6⟩:=M
    have o6:((x.g:Int)==g)=true:=by simp[M]
    have u4:((x.tag:Int)==1)=true:=by simp[b6]
    have l4:=j5.o.ok x f3.o
    obtain⟨a2,p6⟩:=l4.2 b6
    obtain⟨k,wds,m,e0⟩:=Fs a2
    obtain⟨f5,c0,p⟩:=(j6.o.Ac N.o).head
    have k2:AU k wds m (x.ln:Nat)=0:=by unfold AV at a2;rw [e0] at a2;exact a2
    have k3:m<18446744073709551616:=j9.o _ (typeOf_mem e0)
    have k0:Sl (∀ L,Calls prog 155 #[.agg #[.int .u8 k,.int .i64 wds,.int .u64 (m:Nat)],x.ln] L (RK (.tuple #[.int .i64 (AZ k wds (x.ln:Nat)),(0:Int)]) L)):=⟨λ L=>by
     have g0:=DSlots_any k wds m (x.ln:Nat) L k3
     unfold DZ at g0
     rw[k2,if_pos rfl] at g0
     exact g0⟩
    obtain⟨S,f7⟩:∃ S,AZ k wds (x.ln:Nat)=S:=⟨_,rfl⟩
    have p1:=sE f7
    rw[f7] at k0
    have k1:=sE e0
    have a1:Sl (∀ L,Kp Aa wr L->Calls prog 154 #[.slice (some ⟨q,0,none⟩) P.n f5,U,.int .i64 g] L (RK (.tuple #[.agg #[.int .u8 1,x.ty,x.ln,x.sz],.agg #[.int .u8 k,.int .i64 wds,.int .u64 (m:Nat)],(0:Int)]) L)):=⟨λ L m6=>by
     refine(DOf_any g q P.n f5 W U P.ts L (j6.o.row.Ac (N.o.then' m6)) (p2.o.Ac (N.o.then' m6)) o8.o j9.o).mono λ e w' g5=>?_
     unfold El at g5
     rw[<- M,j5.o.obj f3.o b6] at g5
     obtain⟨B7,B9,m',O,p7,p8⟩:=g5
     rw[k1.o] at O
     injection O with O
     injection O with O h1' h1''
     subst O h1' h1''
     exact⟨p7,p8⟩⟩
    have o9:=sE M
    have p0:=sE b6
    have B0:V<wr.heap.size:=Nat.lt_of_lt_of_le r7 N.o.size
    have v1:=j3
    clear M b6 l4 a2 p6 e0 k2 k3 f7
    go_upto_region 6 with fail
    go_cut [7,8,9] from 36 to 49 (λ a b e x1=>SlotsCut x k wds m wr a b e x1)
    case first=>
     have e2:Kp Aa wr wr.drew:=(Kr _ _).drew
     refine wp_region_held_drew (S:=(λ w'=>w'.cell? V=some (.slice (some ⟨q,0,none⟩) P.n f5)/\w'.cell? ⟨V,1,none⟩=some U)) (by kernel_rfl) ?_ (λ r=>?_)
     .exact ⟨Kz c0,Kz p⟩
     refine Ap 0 ?_;refine Ap 1 ?_;refine Ap 2 ?_;refine Ap 3 ?_;refine Ap 4 ?_;refine Ap 5 ?_;refine Ap 6 ?_;refine Ap 7 ?_;refine Ap 8 ?_
     try simp only[AB]
     refine Bp [9,14,15] ?_
     refine Ai rfl (λ K hK=>?_) ?_
     .go_simp
      with_reducible refine(a1.o _ e2).mono ?_
      rintro e z ⟨rfl,s5⟩
      have e4:=e2.then' s5
      refine hK _ _ ?_ (λ r=>?_)
      .exact ⟨Kz c0,Kz p⟩
      clear hK K
      try simp only[AB]
      refine Ap 10 ?_;refine Ap 11 ?_;refine Ap 12 ?_;refine Ap 13 ?_
      try simp only[AB]
      refine Bp [14,15] ?_
      refine Ai rfl (λ K hK=>?_) ?_
      .go_simp
       obtain⟨C,b1⟩:∃ C,C=World.alloc z (.cells #[.int .u8 0,(0:Int),(0:Int),(0:Int)] 111):=⟨_,rfl⟩
       rw[<- b1]
       have s3:Kp Aa z C:=by rw[b1];exact ((Kr _ _).alloc _)
       have z3:wr.heap.size<=z.heap.size:=e4.size
       have f9:C.heap[z.heap.size]?=some (.cells #[.int .u8 0,(0:Int),(0:Int),(0:Int)] 111 (0,0)):=by rw[b1];exact wN _ _
       have A5:z.heap.size<C.heap.size:=lZ f9
       have m7:=e4.then' s3
       have x3:=sE b1
       clear b1
       refine hK _ _ ?_ (λ r=>?_)
       .exact ⟨Kz c0,Kz p⟩
       clear hK K
       try simp only[AB]
       refine Bp [15] ?_
       refine Ai rfl (λ K hK=>?_) ?_
       .go_simp
        obtain⟨X,a6⟩:∃ X,X=World.alloc C (.cells #[.int .u8 0,(0:Int),.int .u64 0] 106):=⟨_,rfl⟩
        rw[<- a6]
        have m0:Kp Aa C X:=by rw[a6];exact ((Kr _ _).alloc _)
        have y8:wr.heap.size<=C.heap.size:=m7.size
        have k8:X.heap[C.heap.size]?=some (.cells #[.int .u8 0,(0:Int),.int .u64 0] 106 (0,0)):=by rw[a6];exact wN _ _
        have A0:C.heap.size<X.heap.size:=lZ k8
        have B4:=lZ f9
        have d3:=m0.at_ f9 id
        have t5:=m7.then' m0
        have x7:=sE a6
        clear a6
        refine hK _ _ ?_ (λ r=>?_)
        .exact ⟨Kz c0,Kz p⟩
        clear hK K
        try simp only[AB]
        have I:=lZ d3
        obtain⟨s,t,u,F⟩:=Ay d3
        have d:=Ab d3;have f00:=d 0;have f01:=d 1;have f02:=d 2;have f03:=d 3
        refine Bp [16] ?_
        refine Ag rfl (λ K hK=>?_)
        clear d
        go_simp
        obtain⟨c3,i4⟩:∃ c3,c3=World.setCell (World.setCell (World.setCell (World.setCell (X) ⟨z.heap.size,0,none⟩ (.int .u8 1)) ⟨z.heap.size,1,none⟩ (.int .i64 x.ty)) ⟨z.heap.size,2,none⟩ (.int .i64 x.ln)) ⟨z.heap.size,3,none⟩ (.int .i64 x.sz):=⟨_,rfl⟩
        rw[<- i4]
        obtain⟨w1,o0⟩:=BC d3 _ _ _ _ c3 i4
        have d4:=o0.at_ k8 (λ f=>by have l:C.heap.size=z.heap.size:=f;omega)
        have t6:Kp Aa wr c3:=t5.trans o0 (λ i G f=>by have l:i=z.heap.size:=f;(try have H:=Nat.le_of_eq l);(first|omega|(simp only[World.size_drew] at *;omega)))
        clear i4 s f00 t f01 u f02 F f03
        refine hK _ _ ?_ (λ r=>?_)
        .exact ⟨Kz c0,Kz p⟩
        clear hK K
        try simp only[AB]
        have I:=lZ d4
        obtain⟨s,t,u⟩:=cells3 d4
        have d:=Ab d4;have f00:=d 0;have f01:=d 1;have f02:=d 2
        refine Bp [17] ?_
        refine Ag rfl (λ K hK=>?_)
        clear d
        go_simp
        obtain⟨e9,i5⟩:∃ e9,e9=World.setCell (World.setCell (World.setCell (c3) ⟨C.heap.size,0,none⟩ (.int .u8 k)) ⟨C.heap.size,1,none⟩ (.int .i64 wds)) ⟨C.heap.size,2,none⟩ (.int .u64 (m:Nat)):=⟨_,rfl⟩
        rw[<- i5]
        obtain⟨w2,o1⟩:=BL d4 _ _ _ e9 i5
        have r0:=o1.at_ w1 (λ f=>by have l:z.heap.size=C.heap.size:=f;omega)
        have t7:Kp Aa wr e9:=t6.trans o1 (λ i G f=>by have l:i=C.heap.size:=f;(try have H:=Nat.le_of_eq l);(first|omega|(simp only[World.size_drew] at *;omega)))
        clear i5 s f00 t f01 u f02
        refine hK _ _ ?_ (λ r=>?_)
        .exact ⟨Kz c0,Kz p⟩
        clear hK K
        try simp only[AB]
        refine Ap 18 ?_
        try simp only[AB]
        refine wpAnyH_done (by kernel_rfl) ?_ _
        go_wp2_with fail
        go_meet
        exact⟨_,_,rfl,rfl,rfl,r0,w2,t7⟩
       exact AllReadyH.nil
      refine Ai rfl (λ K hK=>?_) ?_
      .go_simp
       obtain⟨B,a9⟩:∃ B,B=World.alloc z (.cells #[.int .u8 0,(0:Int),.int .u64 0] 106):=⟨_,rfl⟩
       rw[<- a9]
       have s2:Kp Aa z B:=by rw[a9];exact ((Kr _ _).alloc _)
       have z0:wr.heap.size<=z.heap.size:=e4.size
       have f8:B.heap[z.heap.size]?=some (.cells #[.int .u8 0,(0:Int),.int .u64 0] 106 (0,0)):=by rw[a9];exact wN _ _
       have A1:z.heap.size<B.heap.size:=lZ f8
       have n1:=e4.then' s2
       have x8:=sE a9
       clear a9
       refine hK _ _ ?_ (λ r=>?_)
       .exact ⟨Kz c0,Kz p⟩
       clear hK K
       try simp only[AB]
       refine Bp [14] ?_
       refine Ai rfl (λ K hK=>?_) ?_
       .go_simp
        obtain⟨Z,b0⟩:∃ Z,Z=World.alloc B (.cells #[.int .u8 0,(0:Int),(0:Int),(0:Int)] 111):=⟨_,rfl⟩
        rw[<- b0]
        have m2:Kp Aa B Z:=by rw[b0];exact ((Kr _ _).alloc _)
        have z1:wr.heap.size<=B.heap.size:=n1.size
        have a4:Z.heap[B.heap.size]?=some (.cells #[.int .u8 0,(0:Int),(0:Int),(0:Int)] 111 (0,0)):=by rw[b0];exact wN _ _
        have A2:B.heap.size<Z.heap.size:=lZ a4
        have B5:=lZ f8
        have r1:=m2.at_ f8 id
        have t8:=n1.then' m2
        have x9:=sE b0
        clear b0
        refine hK _ _ ?_ (λ r=>?_)
        .exact ⟨Kz c0,Kz p⟩
        clear hK K
        try simp only[AB]
        have I:=lZ a4
        obtain⟨s,t,u,F⟩:=Ay a4
        have d:=Ab a4;have f00:=d 0;have f01:=d 1;have f02:=d 2;have f03:=d 3
        refine Bp [16] ?_
        refine Ag rfl (λ K hK=>?_)
        clear d
        go_simp
        obtain⟨c4,i6⟩:∃ c4,c4=World.setCell (World.setCell (World.setCell (World.setCell (Z) ⟨B.heap.size,0,none⟩ (.int .u8 1)) ⟨B.heap.size,1,none⟩ (.int .i64 x.ty)) ⟨B.heap.size,2,none⟩ (.int .i64 x.ln)) ⟨B.heap.size,3,none⟩ (.int .i64 x.sz):=⟨_,rfl⟩
        rw[<- i6]
        obtain⟨w3,o2⟩:=BC a4 _ _ _ _ c4 i6
        have d5:=o2.at_ r1 (λ f=>by have l:z.heap.size=B.heap.size:=f;omega)
        have t9:Kp Aa wr c4:=t8.trans o2 (λ i G f=>by have l:i=B.heap.size:=f;(try have H:=Nat.le_of_eq l);(first|omega|(simp only[World.size_drew] at *;omega)))
        clear i6 s f00 t f01 u f02 F f03
        refine hK _ _ ?_ (λ r=>?_)
        .exact ⟨Kz c0,Kz p⟩
        clear hK K
        try simp only[AB]
        have I:=lZ d5
        obtain⟨s,t,u⟩:=cells3 d5
        have d:=Ab d5;have f00:=d 0;have f01:=d 1;have f02:=d 2
        refine Bp [17] ?_
        refine Ag rfl (λ K hK=>?_)
        clear d
        go_simp
        obtain⟨f0,i7⟩:∃ f0,f0=World.setCell (World.setCell (World.setCell (c4) ⟨z.heap.size,0,none⟩ (.int .u8 k)) ⟨z.heap.size,1,none⟩ (.int .i64 wds)) ⟨z.heap.size,2,none⟩ (.int .u64 (m:Nat)):=⟨_,rfl⟩
        rw[<- i7]
        obtain⟨w4,o3⟩:=BL d5 _ _ _ f0 i7
        have r2:=o3.at_ w3 (λ f=>by have l:B.heap.size=z.heap.size:=f;omega)
        have u0:Kp Aa wr f0:=t9.trans o3 (λ i G f=>by have l:i=z.heap.size:=f;(try have H:=Nat.le_of_eq l);(first|omega|(simp only[World.size_drew] at *;omega)))
        clear i7 s f00 t f01 u f02
        refine hK _ _ ?_ (λ r=>?_)
        .exact ⟨Kz c0,Kz p⟩
        clear hK K
        try simp only[AB]
        refine Ap 18 ?_
        try simp only[AB]
        refine wpAnyH_done (by kernel_rfl) ?_ _
        go_wp2_with fail
        go_meet
        exact⟨_,_,rfl,rfl,rfl,r2,w4,u0⟩
       exact AllReadyH.nil
      exact AllReadyH.nil
     refine Ai rfl (λ K hK=>?_) ?_
     .go_simp
      obtain⟨D,b2⟩:∃ D,D=World.drew (World.alloc wr (.cells #[.int .u8 0,(0:Int),(0:Int),(0:Int)] 111)):=⟨_,rfl⟩
      rw[<- b2]
      have s4:Kp Aa wr D:=by rw[b2];exact ((Kr _ _).alloc _).drew
      have z2:wr.heap.size<=wr.heap.size:=e2.size
      have d6:D.heap[wr.heap.size]?=some (.cells #[.int .u8 0,(0:Int),(0:Int),(0:Int)] 111 (0,0)):=by rw[b2];exact wN _ _
      have A3:wr.heap.size<D.heap.size:=lZ d6
      have e5:=s4
      have y0:=sE b2
      clear b2
      refine hK _ _ ?_ (λ r=>?_)
      .exact ⟨Kz c0,Kz p⟩
      clear hK K
      try simp only[AB]
      refine Bp [9,15] ?_
      refine Ai rfl (λ K hK=>?_) ?_
      .go_simp
       with_reducible refine(a1.o _ e5).mono ?_
       rintro e J ⟨rfl,m5⟩
       have l1:=m5.at_ d6 id
       have n2:=e5.then' m5
       refine hK _ _ ?_ (λ r=>?_)
       .exact ⟨Kz c0,Kz p⟩
       clear hK K
       try simp only[AB]
       refine Ap 10 ?_;refine Ap 11 ?_;refine Ap 12 ?_;refine Ap 13 ?_
       try simp only[AB]
       refine Bp [15] ?_
       refine Ai rfl (λ K hK=>?_) ?_
       .go_simp
        obtain⟨a0,b3⟩:∃ a0,a0=World.alloc J (.cells #[.int .u8 0,(0:Int),.int .u64 0] 106):=⟨_,rfl⟩
        rw[<- b3]
        have m3:Kp Aa J a0:=by rw[b3];exact ((Kr _ _).alloc _)
        have z4:wr.heap.size<=J.heap.size:=n2.size
        have l2:a0.heap[J.heap.size]?=some (.cells #[.int .u8 0,(0:Int),.int .u64 0] 106 (0,0)):=by rw[b3];exact wN _ _
        have A4:J.heap.size<a0.heap.size:=lZ l2
        have B6:=lZ l1
        have d7:=m3.at_ l1 id
        have u1:=n2.then' m3
        have y1:=sE b3
        clear b3
        refine hK _ _ ?_ (λ r=>?_)
        .exact ⟨Kz c0,Kz p⟩
        clear hK K
        try simp only[AB]
        have I:=lZ d7
        obtain⟨s,t,u,F⟩:=Ay d7
        have d:=Ab d7;have f00:=d 0;have f01:=d 1;have f02:=d 2;have f03:=d 3
        refine Bp [16] ?_
        refine Ag rfl (λ K hK=>?_)
        clear d
        go_simp
        obtain⟨c5,i8⟩:∃ c5,c5=World.setCell (World.setCell (World.setCell (World.setCell (a0) ⟨wr.heap.size,0,none⟩ (.int .u8 1)) ⟨wr.heap.size,1,none⟩ (.int .i64 x.ty)) ⟨wr.heap.size,2,none⟩ (.int .i64 x.ln)) ⟨wr.heap.size,3,none⟩ (.int .i64 x.sz):=⟨_,rfl⟩
        rw[<- i8]
        obtain⟨w5,o4⟩:=BC d7 _ _ _ _ c5 i8
        have d8:=o4.at_ l2 (λ f=>by have l:J.heap.size=wr.heap.size:=f;omega)
        have u2:Kp Aa wr c5:=u1.trans o4 (λ i G f=>by have l:i=wr.heap.size:=f;(try have H:=Nat.le_of_eq l);(first|omega|(simp only[World.size_drew] at *;omega)))
        clear i8 s f00 t f01 u f02 F f03
        refine hK _ _ ?_ (λ r=>?_)
        .exact ⟨Kz c0,Kz p⟩
        clear hK K
        try simp only[AB]
        have I:=lZ d8
        obtain⟨s,t,u⟩:=cells3 d8
        have d:=Ab d8;have f00:=d 0;have f01:=d 1;have f02:=d 2
        refine Bp [17] ?_
        refine Ag rfl (λ K hK=>?_)
        clear d
        go_simp
        obtain⟨f1,i9⟩:∃ f1,f1=World.setCell (World.setCell (World.setCell (c5) ⟨J.heap.size,0,none⟩ (.int .u8 k)) ⟨J.heap.size,1,none⟩ (.int .i64 wds)) ⟨J.heap.size,2,none⟩ (.int .u64 (m:Nat)):=⟨_,rfl⟩
        rw[<- i9]
        obtain⟨w6,o5⟩:=BL d8 _ _ _ f1 i9
        have r3:=o5.at_ w5 (λ f=>by have l:wr.heap.size=J.heap.size:=f;omega)
        have u3:Kp Aa wr f1:=u2.trans o5 (λ i G f=>by have l:i=J.heap.size:=f;(try have H:=Nat.le_of_eq l);(first|omega|(simp only[World.size_drew] at *;omega)))
        clear i9 s f00 t f01 u f02
        refine hK _ _ ?_ (λ r=>?_)
        .exact ⟨Kz c0,Kz p⟩
        clear hK K
        try simp only[AB]
        refine Ap 18 ?_
        try simp only[AB]
        refine wpAnyH_done (by kernel_rfl) ?_ _
        go_wp2_with fail
        go_meet
        exact⟨_,_,rfl,rfl,rfl,r3,w6,u3⟩
       exact AllReadyH.nil
      refine Ai rfl (λ K hK=>?_) ?_
      .go_simp
       obtain⟨b8,b4⟩:∃ b8,b8=World.alloc D (.cells #[.int .u8 0,(0:Int),.int .u64 0] 106):=⟨_,rfl⟩
       rw[<- b4]
       have l8:Kp Aa D b8:=by rw[b4];exact ((Kr _ _).alloc _)
       have y5:wr.heap.size<=D.heap.size:=e5.size
       have k6:b8.heap[D.heap.size]?=some (.cells #[.int .u8 0,(0:Int),.int .u64 0] 106 (0,0)):=by rw[b4];exact wN _ _
       have z6:D.heap.size<b8.heap.size:=lZ k6
       have B1:=lZ d6
       have q1:=l8.at_ d6 id
       have m8:=e5.then' l8
       have x2:=sE b4
       clear b4
       refine hK _ _ ?_ (λ r=>?_)
       .exact ⟨Kz c0,Kz p⟩
       clear hK K
       try simp only[AB]
       refine Bp [9] ?_
       refine Ai rfl (λ K hK=>?_) ?_
       .go_simp
        with_reducible refine(a1.o _ m8).mono ?_
        rintro e w9 ⟨rfl,j0⟩
        have c7:=j0.at_ q1 id
        have q2:=j0.at_ k6 id
        have s6:=m8.then' j0
        refine hK _ _ ?_ (λ r=>?_)
        .exact ⟨Kz c0,Kz p⟩
        clear hK K
        try simp only[AB]
        refine Ap 10 ?_;refine Ap 11 ?_;refine Ap 12 ?_;refine Ap 13 ?_
        try simp only[AB]
        have I:=lZ c7
        obtain⟨s,t,u,F⟩:=Ay c7
        have d:=Ab c7;have f00:=d 0;have f01:=d 1;have f02:=d 2;have f03:=d 3
        refine Bp [16] ?_
        refine Ag rfl (λ K hK=>?_)
        clear d
        go_simp
        obtain⟨b9,g8⟩:∃ b9,b9=World.setCell (World.setCell (World.setCell (World.setCell (w9) ⟨wr.heap.size,0,none⟩ (.int .u8 1)) ⟨wr.heap.size,1,none⟩ (.int .i64 x.ty)) ⟨wr.heap.size,2,none⟩ (.int .i64 x.ln)) ⟨wr.heap.size,3,none⟩ (.int .i64 x.sz):=⟨_,rfl⟩
        rw[<- g8]
        obtain⟨v5,n4⟩:=BC c7 _ _ _ _ b9 g8
        have c8:=n4.at_ q2 (λ f=>by have l:D.heap.size=wr.heap.size:=f;omega)
        have s7:Kp Aa wr b9:=s6.trans n4 (λ i G f=>by have l:i=wr.heap.size:=f;(try have H:=Nat.le_of_eq l);(first|omega|(simp only[World.size_drew] at *;omega)))
        clear g8 s f00 t f01 u f02 F f03
        refine hK _ _ ?_ (λ r=>?_)
        .exact ⟨Kz c0,Kz p⟩
        clear hK K
        try simp only[AB]
        have I:=lZ c8
        obtain⟨s,t,u⟩:=cells3 c8
        have d:=Ab c8;have f00:=d 0;have f01:=d 1;have f02:=d 2
        refine Bp [17] ?_
        refine Ag rfl (λ K hK=>?_)
        clear d
        go_simp
        obtain⟨e6,g9⟩:∃ e6,e6=World.setCell (World.setCell (World.setCell (b9) ⟨D.heap.size,0,none⟩ (.int .u8 k)) ⟨D.heap.size,1,none⟩ (.int .i64 wds)) ⟨D.heap.size,2,none⟩ (.int .u64 (m:Nat)):=⟨_,rfl⟩
        rw[<- g9]
        obtain⟨v6,n5⟩:=BL c8 _ _ _ e6 g9
        have q4:=n5.at_ v5 (λ f=>by have l:wr.heap.size=D.heap.size:=f;omega)
        have s8:Kp Aa wr e6:=s7.trans n5 (λ i G f=>by have l:i=D.heap.size:=f;(try have H:=Nat.le_of_eq l);(first|omega|(simp only[World.size_drew] at *;omega)))
        clear g9 s f00 t f01 u f02
        refine hK _ _ ?_ (λ r=>?_)
        .exact ⟨Kz c0,Kz p⟩
        clear hK K
        try simp only[AB]
        refine Ap 18 ?_
        try simp only[AB]
        refine wpAnyH_done (by kernel_rfl) ?_ _
        go_wp2_with fail
        go_meet
        exact⟨_,_,rfl,rfl,rfl,q4,v6,s8⟩
       exact AllReadyH.nil
      exact AllReadyH.nil
     refine Ai rfl (λ K hK=>?_) ?_
     .go_simp
      obtain⟨A,a5⟩:∃ A,A=World.drew (World.alloc wr (.cells #[.int .u8 0,(0:Int),.int .u64 0] 106)):=⟨_,rfl⟩
      rw[<- a5]
      have s1:Kp Aa wr A:=by rw[a5];exact ((Kr _ _).alloc _).drew
      have y6:wr.heap.size<=wr.heap.size:=e2.size
      have c9:A.heap[wr.heap.size]?=some (.cells #[.int .u8 0,(0:Int),.int .u64 0] 106 (0,0)):=by rw[a5];exact wN _ _
      have z7:wr.heap.size<A.heap.size:=lZ c9
      have e3:=s1
      have x4:=sE a5
      clear a5
      refine hK _ _ ?_ (λ r=>?_)
      .exact ⟨Kz c0,Kz p⟩
      clear hK K
      try simp only[AB]
      refine Bp [9,14] ?_
      refine Ai rfl (λ K hK=>?_) ?_
      .go_simp
       with_reducible refine(a1.o _ e3).mono ?_
       rintro e E ⟨rfl,m4⟩
       have k7:=m4.at_ c9 id
       have m9:=e3.then' m4
       refine hK _ _ ?_ (λ r=>?_)
       .exact ⟨Kz c0,Kz p⟩
       clear hK K
       try simp only[AB]
       refine Ap 10 ?_;refine Ap 11 ?_;refine Ap 12 ?_;refine Ap 13 ?_
       try simp only[AB]
       refine Bp [14] ?_
       refine Ai rfl (λ K hK=>?_) ?_
       .go_simp
        obtain⟨Y,a7⟩:∃ Y,Y=World.alloc E (.cells #[.int .u8 0,(0:Int),(0:Int),(0:Int)] 111):=⟨_,rfl⟩
        rw[<- a7]
        have l9:Kp Aa E Y:=by rw[a7];exact ((Kr _ _).alloc _)
        have y7:wr.heap.size<=E.heap.size:=m9.size
        have a3:Y.heap[E.heap.size]?=some (.cells #[.int .u8 0,(0:Int),(0:Int),(0:Int)] 111 (0,0)):=by rw[a7];exact wN _ _
        have z8:E.heap.size<Y.heap.size:=lZ a3
        have B2:=lZ k7
        have q5:=l9.at_ k7 id
        have s9:=m9.then' l9
        have x5:=sE a7
        clear a7
        refine hK _ _ ?_ (λ r=>?_)
        .exact ⟨Kz c0,Kz p⟩
        clear hK K
        try simp only[AB]
        have I:=lZ a3
        obtain⟨s,t,u,F⟩:=Ay a3
        have d:=Ab a3;have f00:=d 0;have f01:=d 1;have f02:=d 2;have f03:=d 3
        refine Bp [16] ?_
        refine Ag rfl (λ K hK=>?_)
        clear d
        go_simp
        obtain⟨c1,i0⟩:∃ c1,c1=World.setCell (World.setCell (World.setCell (World.setCell (Y) ⟨E.heap.size,0,none⟩ (.int .u8 1)) ⟨E.heap.size,1,none⟩ (.int .i64 x.ty)) ⟨E.heap.size,2,none⟩ (.int .i64 x.ln)) ⟨E.heap.size,3,none⟩ (.int .i64 x.sz):=⟨_,rfl⟩
        rw[<- i0]
        obtain⟨v7,n6⟩:=BC a3 _ _ _ _ c1 i0
        have d0:=n6.at_ q5 (λ f=>by have l:wr.heap.size=E.heap.size:=f;omega)
        have t0:Kp Aa wr c1:=s9.trans n6 (λ i G f=>by have l:i=E.heap.size:=f;(try have H:=Nat.le_of_eq l);(first|omega|(simp only[World.size_drew] at *;omega)))
        clear i0 s f00 t f01 u f02 F f03
        refine hK _ _ ?_ (λ r=>?_)
        .exact ⟨Kz c0,Kz p⟩
        clear hK K
        try simp only[AB]
        have I:=lZ d0
        obtain⟨s,t,u⟩:=cells3 d0
        have d:=Ab d0;have f00:=d 0;have f01:=d 1;have f02:=d 2
        refine Bp [17] ?_
        refine Ag rfl (λ K hK=>?_)
        clear d
        go_simp
        obtain⟨e7,i1⟩:∃ e7,e7=World.setCell (World.setCell (World.setCell (c1) ⟨wr.heap.size,0,none⟩ (.int .u8 k)) ⟨wr.heap.size,1,none⟩ (.int .i64 wds)) ⟨wr.heap.size,2,none⟩ (.int .u64 (m:Nat)):=⟨_,rfl⟩
        rw[<- i1]
        obtain⟨v8,n7⟩:=BL d0 _ _ _ e7 i1
        have q6:=n7.at_ v7 (λ f=>by have l:E.heap.size=wr.heap.size:=f;omega)
        have t1:Kp Aa wr e7:=t0.trans n7 (λ i G f=>by have l:i=wr.heap.size:=f;(try have H:=Nat.le_of_eq l);(first|omega|(simp only[World.size_drew] at *;omega)))
        clear i1 s f00 t f01 u f02
        refine hK _ _ ?_ (λ r=>?_)
        .exact ⟨Kz c0,Kz p⟩
        clear hK K
        try simp only[AB]
        refine Ap 18 ?_
        try simp only[AB]
        refine wpAnyH_done (by kernel_rfl) ?_ _
        go_wp2_with fail
        go_meet
        exact⟨_,_,rfl,rfl,rfl,q6,v8,t1⟩
       exact AllReadyH.nil
      refine Ai rfl (λ K hK=>?_) ?_
      .go_simp
       obtain⟨b7,a8⟩:∃ b7,b7=World.alloc A (.cells #[.int .u8 0,(0:Int),(0:Int),(0:Int)] 111):=⟨_,rfl⟩
       rw[<- a8]
       have m1:Kp Aa A b7:=by rw[a8];exact ((Kr _ _).alloc _)
       have y9:wr.heap.size<=A.heap.size:=e3.size
       have k9:b7.heap[A.heap.size]?=some (.cells #[.int .u8 0,(0:Int),(0:Int),(0:Int)] 111 (0,0)):=by rw[a8];exact wN _ _
       have z9:A.heap.size<b7.heap.size:=lZ k9
       have B3:=lZ c9
       have q7:=m1.at_ c9 id
       have n0:=e3.then' m1
       have x6:=sE a8
       clear a8
       refine hK _ _ ?_ (λ r=>?_)
       .exact ⟨Kz c0,Kz p⟩
       clear hK K
       try simp only[AB]
       refine Bp [9] ?_
       refine Ai rfl (λ K hK=>?_) ?_
       .go_simp
        with_reducible refine(a1.o _ n0).mono ?_
        rintro e x0 ⟨rfl,j1⟩
        have q8:=j1.at_ q7 id
        have d1:=j1.at_ k9 id
        have t2:=n0.then' j1
        refine hK _ _ ?_ (λ r=>?_)
        .exact ⟨Kz c0,Kz p⟩
        clear hK K
        try simp only[AB]
        refine Ap 10 ?_;refine Ap 11 ?_;refine Ap 12 ?_;refine Ap 13 ?_
        try simp only[AB]
        have I:=lZ d1
        obtain⟨s,t,u,F⟩:=Ay d1
        have d:=Ab d1;have f00:=d 0;have f01:=d 1;have f02:=d 2;have f03:=d 3
        refine Bp [16] ?_
        refine Ag rfl (λ K hK=>?_)
        clear d
        go_simp
        obtain⟨c2,i2⟩:∃ c2,c2=World.setCell (World.setCell (World.setCell (World.setCell (x0) ⟨A.heap.size,0,none⟩ (.int .u8 1)) ⟨A.heap.size,1,none⟩ (.int .i64 x.ty)) ⟨A.heap.size,2,none⟩ (.int .i64 x.ln)) ⟨A.heap.size,3,none⟩ (.int .i64 x.sz):=⟨_,rfl⟩
        rw[<- i2]
        obtain⟨v9,n8⟩:=BC d1 _ _ _ _ c2 i2
        have d2:=n8.at_ q8 (λ f=>by have l:wr.heap.size=A.heap.size:=f;omega)
        have t3:Kp Aa wr c2:=t2.trans n8 (λ i G f=>by have l:i=A.heap.size:=f;(try have H:=Nat.le_of_eq l);(first|omega|(simp only[World.size_drew] at *;omega)))
        clear i2 s f00 t f01 u f02 F f03
        refine hK _ _ ?_ (λ r=>?_)
        .exact ⟨Kz c0,Kz p⟩
        clear hK K
        try simp only[AB]
        have I:=lZ d2
        obtain⟨s,t,u⟩:=cells3 d2
        have d:=Ab d2;have f00:=d 0;have f01:=d 1;have f02:=d 2
        refine Bp [17] ?_
        refine Ag rfl (λ K hK=>?_)
        clear d
        go_simp
        obtain⟨e8,i3⟩:∃ e8,e8=World.setCell (World.setCell (World.setCell (c2) ⟨wr.heap.size,0,none⟩ (.int .u8 k)) ⟨wr.heap.size,1,none⟩ (.int .i64 wds)) ⟨wr.heap.size,2,none⟩ (.int .u64 (m:Nat)):=⟨_,rfl⟩
        rw[<- i3]
        obtain⟨w0,n9⟩:=BL d2 _ _ _ e8 i3
        have q9:=n9.at_ v9 (λ f=>by have l:A.heap.size=wr.heap.size:=f;omega)
        have t4:Kp Aa wr e8:=t3.trans n9 (λ i G f=>by have l:i=wr.heap.size:=f;(try have H:=Nat.le_of_eq l);(first|omega|(simp only[World.size_drew] at *;omega)))
        clear i3 s f00 t f01 u f02
        refine hK _ _ ?_ (λ r=>?_)
        .exact ⟨Kz c0,Kz p⟩
        clear hK K
        try simp only[AB]
        refine Ap 18 ?_
        try simp only[AB]
        refine wpAnyH_done (by kernel_rfl) ?_ _
        go_wp2_with fail
        go_meet
        exact⟨_,_,rfl,rfl,rfl,q9,w0,t4⟩
       exact AllReadyH.nil
      exact AllReadyH.nil
     exact AllReadyH.nil
    case rest=>
     obtain⟨y2,f4,rfl,rfl,rfl,q0,l0,j2⟩:=hcut
     have p5:=cells3 l0
     obtain⟨v2,v3,v4⟩:=p5
     have A6:=lZ l0
     have y4:b<wc.heap.size:=Nat.lt_of_lt_of_le p9 j2.size
     have u9:=j2.cell j3 id
     clear u5 u6 u7 j3 v0 v1 q0 c0 p
     go_wp2_with fail
     go_region_held3 (λ w'=>w'.cell? ⟨b,j*5+3,none⟩=some (.int .i64 x.ln)/\w'.cell? f4=some (.int .u8 k)/\w'.cell? ⟨f4,1,none⟩=some (.int .i64 wds)/\w'.cell? ⟨f4,2,none⟩=some (.int .u64 (m:Nat)))
      (exact ⟨Ae KU u9,Ae KU v2,Ae KU v3,Ae KU v4⟩)
      (first|(go_at_call 155;with_reducible refine(k0.o _).mono ?_;rintro e w8 ⟨rfl,s0⟩;have p4:Kp Aa wc w8:=Kp.then' KU s0))
     go_wp2
     exact bodyPost_ret (v:=.int .i64 S) (by simp[results,results99,go_sem]) rfl ⟨S,rfl,(N.o.then' j2).then' p4,.inl ⟨x,k,wds,m,f3.o,p0.o,o9.o,k1.o,p1.o.symm⟩⟩
   .have c6:Sl (∀ m y,m<j+1->cs[m]?=some y->¬ (y.tag=1/\(y.g:Int)=g)):=⟨λ m y g4 b5=>by
     by_cases e:m=j
     .subst e;rw [p3.o] at b5;injection b5 with b5;subst b5;exact λ f=>M ⟨f.2,f.1⟩
     .exact l3.o m y (by omega) b5⟩
    by_cases q3:(x.g:Int)=g
    .have o6:((x.g:Int)==g)=true:=by simp[q3]
     have u4:((x.tag:Int)==1)=false:=by
      have:¬ x.tag=1:=λ f=>M ⟨q3,f⟩
      simp;omega
     clear M q3
     go_wp2
     exact⟨⟨j+1,by omega,by go_num,N.o,j7.o,c6⟩,by simp only[intOf];omega⟩
    .have o6:((x.g:Int)==g)=false:=by simp[q3]
     clear M
     go_wp2
     exact⟨⟨j+1,by omega,by go_num,N.o,j7.o,c6⟩,by simp only[intOf];omega⟩
  .have r5:¬ (j:Int)<(Q:Int):=by omega
   have c6:Sl (∀ c∈cs,c.tag=1->¬ (c.g:Int)=g):=⟨λ c R r9 r4=>by
    obtain⟨m,g4⟩:=List.getElem?_of_mem R
    have r8:=(gE.1 g4).1
    rw[j8.o] at r8
    exact l3.o m c (by omega) g4 ⟨r9,r4⟩⟩
   clear d9 g1
   go_wp2
   exact bodyPost_ret (v:=.int .i64 0) (by simp[results,results99,go_sem]) rfl ⟨0,rfl,N.o,.inr ⟨c6.o,rfl⟩⟩

end

end Go.Proofs.YtfkedlgpgmaemaaGreatDoor
