/-
  Lemmas for the laws, together: Play4.
-/
import Derived.Test.YtfkedlgpgmaemaaGreatDoorQaq
import Derived.Test.YtfkedlgpgmaemaaGreatDoorQar
import Derived.Test.YtfkedlgpgmaemaaGreatDoorQah
import Derived.Test.YtfkedlgpgmaemaaGreatDoorQai
set_option linter.unusedVariables false
set_option maxHeartbeats 16000000
namespace Go.Proofs.YtfkedlgpgmaemaaGreatDoor
open Tryz
section
open Go.RowKit

def DSettlePost(P:Sp)(W:Nat->Nat)(x:Nat->Int)(len rb q:Nat)(lv:Value)(w:World)(e:Ending)(w':World):Prop:=
 (Bu W P.n P.ts x 0 len 0=none/\e=.returned (.int .i64 2)/\DocAt w' rb q P.n W lv/\Kp Aa w w')\/
 (∃ os,Bu W P.n P.ts x 0 len 0=some os/\e=.returned (.int .i64 0)/\Kp (λ k=>k=rb) w w'/\∃ q',(q'=q\/w.heap.size<=q')/\DocAt w' rb q' P.n (BH W 0 os (P.n/2)) lv)

def SetCutY(c:Cel)(w:World)(a e:Value)(wx:World):Prop:=
 ∃ b1,a=.pointer (some ⟨b1,0,none⟩)/\e=.int .i64 0/\wx.heap[b1]?=some (.cells #[.int .u8 1,c.ty,c.ln,c.sz] 111 (0,0))/\w.heap.size<=b1/\Kp Aa w wx

def SetCutN(w:World)(e:Value)(wx:World):Prop:=∃ E:Int,¬ E=0/\e=.int .i64 E/\Kp Aa w wx

def SetI(P:Sp)(W:Nat->Nat)(x:Nat->Int)(len:Nat)(w:World)(v5 v6 v7:Value)(wr:World):Prop:=
 ∃ (j:Nat) (os:List Cel) (e:Nat),j<=len/\v6=.int .i64 e/\v7=.int .i64 j/\e<=32768/\Sl (Cb W P.n P.ts x len j os e)/\wr.ownsRow w.heap.size 3 1 v5 os.length (Az (os.map Cel.sz))/\Kp Aa w wr

set_option maxRecDepth 20000 in
theorem DSettle_any(P:Sp)(W:Nat->Nat)(T q:Nat)(a2 v:Value)(X:Nat)(x:Nat->Nat->Int)(w:World)(n4:DocAt w T q P.n W a2)(z5:A8 w a2 P.ts)(q1:P.ts.length<=17592186044416)(w7:Cw P.ts)
  (z7:Bw 1 w v X x) (L0:X<=1000) (z6:0<X->v.ownBlock≠some T):
  Calls prog 101 #[.pointer (some T),v] w (DSettlePost P W (λ i=>x i 0) X T q a2 w):=by
 have y8:=n4.lt
 have L1:=n4.row.small
 obtain⟨M2,M3,rfl,z9⟩:=ints_at z7
 have v9:=sE z9
 have a3:=sE n4
 have v8:=sE z5
 have v5:=sE w7
 have v4:=sE q1
 have C1:=sE z6
 clear n4 z5 w7 q1 z7 z9 z6
 go_enter func101,ntmps101
 go_wp2_with fail
 go_loopw [5,6,7] (λ I7 t4 I8 wr=>SetI P W (λ i=>x i 0) X w I7 t4 I8 wr) (λ _ _ y _=>X-(intOf y).toNat)
 case atStart=>exact ⟨0,[],0,Nat.zero_le _,rfl,rfl,Nat.zero_le _,⟨Cb.start _ _ _ _ _⟩,World.ownsRow_nil _ _ _ _,Kr _ _⟩
 case round=>
  obtain⟨j,os,e,K8,rfl,rfl,K3,j2,n6,f4⟩:=hrel
  have o6:=sE n6
  have a4:=sE f4
  by_cases hjl:j<X
  .have F7:(j:Int)<(X:Int):=by omega
   obtain⟨b,o,rfl,y5,i7,I9,J0⟩:=v9.o j hjl
   have s:=f4.cell i7 id
   obtain⟨f3,c0,r⟩:=(a3.o.Ac f4).head
   have L3:T<wr.heap.size:=Nat.lt_of_lt_of_le y8 f4.size
   have n3:b<wr.heap.size:=Nat.lt_of_lt_of_le y5 f4.size
   have g0:=a3.o.row.fits
   clear n6 f4 i7 g0
   cases hc:Cj W P.n P.ts (x j 0) with
   |none=>
    have o2:Sl (Bu W P.n P.ts (λ i=>x i 0) 0 X 0=none):=⟨j2.o.fails hjl (.inl hc)⟩
    have a5:Sl (∀ a6,Kp Aa wr a6->Calls prog 154 #[.slice (some ⟨q,0,none⟩) P.n f3,a2,.int .i64 (x j 0)] a6 λ e w'=>∃ U:Int,¬ U=0/\e=.returned (.tuple #[.agg #[.int .u8 0,(0:Int),(0:Int),(0:Int)],.agg #[.int .u8 0,(0:Int),.int .u64 0],.int .i64 U])/\Kp Aa a6 w'):=⟨λ a6 k9=>by
     refine(DOf_any (x j 0) q P.n f3 W a2 P.ts a6 (a3.o.row.Ac (a4.o.then' k9)) (v8.o.Ac (a4.o.then' k9)) v4.o v5.o).mono λ e w' g1=>?_
     unfold El at g1
     rw[hc] at g1
     exact g1⟩
    clear hc
    go_upto_region 6 with fail
    go_cut [8,9,10] from 18 to 34 (λ _ _ e t9=>SetCutN wr e t9)
    case first=>
     have e2:Kp Aa wr wr.drew:=(Kr _ _).drew
     refine wp_region_held_drew (S:=(λ w'=>w'.cell? T=some (.slice (some ⟨q,0,none⟩) P.n f3)/\w'.cell? ⟨T,1,none⟩=some a2/\w'.cell? ⟨b,o+j,none⟩=some (.int .i64 (x j 0)))) (by kernel_rfl) ?_ (λ t=>?_)
     .exact ⟨Kz c0,Kz r,Kz s⟩
     refine Ap 0 ?_;refine Ap 1 ?_;refine Ap 2 ?_;refine Ap 3 ?_;refine Ap 4 ?_;refine Ap 5 ?_;refine Ap 6 ?_;refine Ap 7 ?_;refine Ap 8 ?_;refine Ap 9 ?_;refine Ap 10 ?_;refine Ap 11 ?_
     try simp only[AB]
     refine Bp [12,17,18] ?_
     refine Ai rfl (λ K hK=>?_) ?_
     .go_simp
      with_reducible refine(a5.o _ e2).mono ?_
      rintro e C ⟨U,R,rfl,q7⟩
      have c8:=sE R
      clear R
      have e4:=e2.then' q7
      refine hK _ _ ?_ (λ t=>?_)
      .exact ⟨Kz c0,Kz r,Kz s⟩
      clear hK K
      try simp only[AB]
      refine Ap 13 ?_;refine Ap 14 ?_;refine Ap 15 ?_;refine Ap 16 ?_
      try simp only[AB]
      refine Bp [17,18] ?_
      refine Ai rfl (λ K hK=>?_) ?_
      .go_simp
       obtain⟨F,b5⟩:∃ F,F=World.alloc C (.cells #[.int .u8 0,(0:Int),(0:Int),(0:Int)] 111):=⟨_,rfl⟩
       rw[<- b5]
       have q5:Kp Aa C F:=by rw[b5];exact ((Kr _ _).alloc _)
       have F3:wr.heap.size<=C.heap.size:=e4.size
       have f9:F.heap[C.heap.size]?=some (.cells #[.int .u8 0,(0:Int),(0:Int),(0:Int)] 111 (0,0)):=by rw[b5];exact wN _ _
       have G8:C.heap.size<F.heap.size:=lZ f9
       have l0:=e4.then' q5
       have C3:=sE b5
       clear b5
       refine hK _ _ ?_ (λ t=>?_)
       .exact ⟨Kz c0,Kz r,Kz s⟩
       clear hK K
       try simp only[AB]
       refine Bp [18] ?_
       refine Ai rfl (λ K hK=>?_) ?_
       .go_simp
        obtain⟨Y,b0⟩:∃ Y,Y=World.alloc F (.cells #[.int .u8 0,(0:Int),.int .u64 0] 106):=⟨_,rfl⟩
        rw[<- b0]
        have k3:Kp Aa F Y:=by rw[b0];exact ((Kr _ _).alloc _)
        have E6:wr.heap.size<=F.heap.size:=l0.size
        have j5:Y.heap[F.heap.size]?=some (.cells #[.int .u8 0,(0:Int),.int .u64 0] 106 (0,0)):=by rw[b0];exact wN _ _
        have G3:F.heap.size<Y.heap.size:=lZ j5
        have H4:=lZ f9
        have d6:=k3.at_ f9 id
        have r7:=l0.then' k3
        have C7:=sE b0
        clear b0
        refine hK _ _ ?_ (λ t=>?_)
        .exact ⟨Kz c0,Kz r,Kz s⟩
        clear hK K
        try simp only[AB]
        have M:=lZ d6
        obtain⟨z,A,B,J⟩:=Ay d6
        have d:=Ab d6;have f00:=d 0;have f01:=d 1;have f02:=d 2;have f03:=d 3
        refine Bp [19] ?_
        refine Ag rfl (λ K hK=>?_)
        clear d
        go_simp
        obtain⟨c5,g8⟩:∃ c5,c5=World.setCell (World.setCell (World.setCell (World.setCell (Y) ⟨C.heap.size,0,none⟩ (.int .u8 0)) ⟨C.heap.size,1,none⟩ (.int .i64 0)) ⟨C.heap.size,2,none⟩ (.int .i64 0)) ⟨C.heap.size,3,none⟩ (.int .i64 0):=⟨_,rfl⟩
        rw[<- g8]
        obtain⟨t1,m2⟩:=BC d6 _ _ _ _ c5 g8
        have d7:=m2.at_ j5 (λ f=>by have p:F.heap.size=C.heap.size:=f;omega)
        have r8:Kp Aa wr c5:=r7.trans m2 (λ i I f=>by have p:i=C.heap.size:=f;(try have N:=Nat.le_of_eq p);(first|omega|(simp only[World.size_drew] at *;omega)))
        clear g8 z f00 A f01 B f02 J f03
        refine hK _ _ ?_ (λ t=>?_)
        .exact ⟨Kz c0,Kz r,Kz s⟩
        clear hK K
        try simp only[AB]
        have M:=lZ d7
        obtain⟨z,A,B⟩:=cells3 d7
        have d:=Ab d7;have f00:=d 0;have f01:=d 1;have f02:=d 2
        refine Bp [20] ?_
        refine Ag rfl (λ K hK=>?_)
        clear d
        go_simp
        obtain⟨e9,g9⟩:∃ e9,e9=World.setCell (World.setCell (World.setCell (c5) ⟨F.heap.size,0,none⟩ (.int .u8 0)) ⟨F.heap.size,1,none⟩ (.int .i64 0)) ⟨F.heap.size,2,none⟩ (.int .u64 0):=⟨_,rfl⟩
        rw[<- g9]
        obtain⟨I3,m3⟩:=BL d7 _ _ _ e9 g9
        have y2:=m3.at_ t1 (λ f=>by have p:C.heap.size=F.heap.size:=f;omega)
        have r9:Kp Aa wr e9:=r8.trans m3 (λ i I f=>by have p:i=F.heap.size:=f;(try have N:=Nat.le_of_eq p);(first|omega|(simp only[World.size_drew] at *;omega)))
        clear g9 z f00 A f01 B f02
        refine hK _ _ ?_ (λ t=>?_)
        .exact ⟨Kz c0,Kz r,Kz s⟩
        clear hK K
        try simp only[AB]
        refine Ap 21 ?_
        try simp only[AB]
        refine wpAnyH_done (by kernel_rfl) ?_ _
        go_wp2_with fail
        go_meet
        exact⟨U,c8.o,rfl,r9⟩
       exact AllReadyH.nil
      refine Ai rfl (λ K hK=>?_) ?_
      .go_simp
       obtain⟨E,b3⟩:∃ E,E=World.alloc C (.cells #[.int .u8 0,(0:Int),.int .u64 0] 106):=⟨_,rfl⟩
       rw[<- b3]
       have q4:Kp Aa C E:=by rw[b3];exact ((Kr _ _).alloc _)
       have F0:wr.heap.size<=C.heap.size:=e4.size
       have f8:E.heap[C.heap.size]?=some (.cells #[.int .u8 0,(0:Int),.int .u64 0] 106 (0,0)):=by rw[b3];exact wN _ _
       have G4:C.heap.size<E.heap.size:=lZ f8
       have l4:=e4.then' q4
       have D0:=sE b3
       clear b3
       refine hK _ _ ?_ (λ t=>?_)
       .exact ⟨Kz c0,Kz r,Kz s⟩
       clear hK K
       try simp only[AB]
       refine Bp [17] ?_
       refine Ai rfl (λ K hK=>?_) ?_
       .go_simp
        obtain⟨a0,b4⟩:∃ a0,a0=World.alloc E (.cells #[.int .u8 0,(0:Int),(0:Int),(0:Int)] 111):=⟨_,rfl⟩
        rw[<- b4]
        have k5:Kp Aa E a0:=by rw[b4];exact ((Kr _ _).alloc _)
        have F1:wr.heap.size<=E.heap.size:=l4.size
        have a8:a0.heap[E.heap.size]?=some (.cells #[.int .u8 0,(0:Int),(0:Int),(0:Int)] 111 (0,0)):=by rw[b4];exact wN _ _
        have G5:E.heap.size<a0.heap.size:=lZ a8
        have H5:=lZ f8
        have p7:=k5.at_ f8 id
        have s0:=l4.then' k5
        have D1:=sE b4
        clear b4
        refine hK _ _ ?_ (λ t=>?_)
        .exact ⟨Kz c0,Kz r,Kz s⟩
        clear hK K
        try simp only[AB]
        have M:=lZ a8
        obtain⟨z,A,B,J⟩:=Ay a8
        have d:=Ab a8;have f00:=d 0;have f01:=d 1;have f02:=d 2;have f03:=d 3
        refine Bp [19] ?_
        refine Ag rfl (λ K hK=>?_)
        clear d
        go_simp
        obtain⟨c6,i0⟩:∃ c6,c6=World.setCell (World.setCell (World.setCell (World.setCell (a0) ⟨E.heap.size,0,none⟩ (.int .u8 0)) ⟨E.heap.size,1,none⟩ (.int .i64 0)) ⟨E.heap.size,2,none⟩ (.int .i64 0)) ⟨E.heap.size,3,none⟩ (.int .i64 0):=⟨_,rfl⟩
        rw[<- i0]
        obtain⟨t2,m4⟩:=BC a8 _ _ _ _ c6 i0
        have d8:=m4.at_ p7 (λ f=>by have p:C.heap.size=E.heap.size:=f;omega)
        have s1:Kp Aa wr c6:=s0.trans m4 (λ i I f=>by have p:i=E.heap.size:=f;(try have N:=Nat.le_of_eq p);(first|omega|(simp only[World.size_drew] at *;omega)))
        clear i0 z f00 A f01 B f02 J f03
        refine hK _ _ ?_ (λ t=>?_)
        .exact ⟨Kz c0,Kz r,Kz s⟩
        clear hK K
        try simp only[AB]
        have M:=lZ d8
        obtain⟨z,A,B⟩:=cells3 d8
        have d:=Ab d8;have f00:=d 0;have f01:=d 1;have f02:=d 2
        refine Bp [20] ?_
        refine Ag rfl (λ K hK=>?_)
        clear d
        go_simp
        obtain⟨f0,i1⟩:∃ f0,f0=World.setCell (World.setCell (World.setCell (c6) ⟨C.heap.size,0,none⟩ (.int .u8 0)) ⟨C.heap.size,1,none⟩ (.int .i64 0)) ⟨C.heap.size,2,none⟩ (.int .u64 0):=⟨_,rfl⟩
        rw[<- i1]
        obtain⟨I4,m5⟩:=BL d8 _ _ _ f0 i1
        have y3:=m5.at_ t2 (λ f=>by have p:E.heap.size=C.heap.size:=f;omega)
        have s2:Kp Aa wr f0:=s1.trans m5 (λ i I f=>by have p:i=C.heap.size:=f;(try have N:=Nat.le_of_eq p);(first|omega|(simp only[World.size_drew] at *;omega)))
        clear i1 z f00 A f01 B f02
        refine hK _ _ ?_ (λ t=>?_)
        .exact ⟨Kz c0,Kz r,Kz s⟩
        clear hK K
        try simp only[AB]
        refine Ap 21 ?_
        try simp only[AB]
        refine wpAnyH_done (by kernel_rfl) ?_ _
        go_wp2_with fail
        go_meet
        exact⟨U,c8.o,rfl,s2⟩
       exact AllReadyH.nil
      exact AllReadyH.nil
     refine Ai rfl (λ K hK=>?_) ?_
     .go_simp
      obtain⟨G,b6⟩:∃ G,G=World.drew (World.alloc wr (.cells #[.int .u8 0,(0:Int),(0:Int),(0:Int)] 111)):=⟨_,rfl⟩
      rw[<- b6]
      have q6:Kp Aa wr G:=by rw[b6];exact ((Kr _ _).alloc _).drew
      have F2:wr.heap.size<=wr.heap.size:=e2.size
      have d9:G.heap[wr.heap.size]?=some (.cells #[.int .u8 0,(0:Int),(0:Int),(0:Int)] 111 (0,0)):=by rw[b6];exact wN _ _
      have G6:wr.heap.size<G.heap.size:=lZ d9
      have e5:=q6
      have D2:=sE b6
      clear b6
      refine hK _ _ ?_ (λ t=>?_)
      .exact ⟨Kz c0,Kz r,Kz s⟩
      clear hK K
      try simp only[AB]
      refine Bp [12,18] ?_
      refine Ai rfl (λ K hK=>?_) ?_
      .go_simp
       with_reducible refine(a5.o _ e5).mono ?_
       rintro e O ⟨U,R,rfl,k8⟩
       have c8:=sE R
       clear R
       have j7:=k8.at_ d9 id
       have l5:=e5.then' k8
       refine hK _ _ ?_ (λ t=>?_)
       .exact ⟨Kz c0,Kz r,Kz s⟩
       clear hK K
       try simp only[AB]
       refine Ap 13 ?_;refine Ap 14 ?_;refine Ap 15 ?_;refine Ap 16 ?_
       try simp only[AB]
       refine Bp [18] ?_
       refine Ai rfl (λ K hK=>?_) ?_
       .go_simp
        obtain⟨a1,b7⟩:∃ a1,a1=World.alloc O (.cells #[.int .u8 0,(0:Int),.int .u64 0] 106):=⟨_,rfl⟩
        rw[<- b7]
        have k6:Kp Aa O a1:=by rw[b7];exact ((Kr _ _).alloc _)
        have F4:wr.heap.size<=O.heap.size:=l5.size
        have j8:a1.heap[O.heap.size]?=some (.cells #[.int .u8 0,(0:Int),.int .u64 0] 106 (0,0)):=by rw[b7];exact wN _ _
        have G7:O.heap.size<a1.heap.size:=lZ j8
        have H6:=lZ j7
        have e0:=k6.at_ j7 id
        have s3:=l5.then' k6
        have D3:=sE b7
        clear b7
        refine hK _ _ ?_ (λ t=>?_)
        .exact ⟨Kz c0,Kz r,Kz s⟩
        clear hK K
        try simp only[AB]
        have M:=lZ e0
        obtain⟨z,A,B,J⟩:=Ay e0
        have d:=Ab e0;have f00:=d 0;have f01:=d 1;have f02:=d 2;have f03:=d 3
        refine Bp [19] ?_
        refine Ag rfl (λ K hK=>?_)
        clear d
        go_simp
        obtain⟨c7,i2⟩:∃ c7,c7=World.setCell (World.setCell (World.setCell (World.setCell (a1) ⟨wr.heap.size,0,none⟩ (.int .u8 0)) ⟨wr.heap.size,1,none⟩ (.int .i64 0)) ⟨wr.heap.size,2,none⟩ (.int .i64 0)) ⟨wr.heap.size,3,none⟩ (.int .i64 0):=⟨_,rfl⟩
        rw[<- i2]
        obtain⟨t3,m6⟩:=BC e0 _ _ _ _ c7 i2
        have e1:=m6.at_ j8 (λ f=>by have p:O.heap.size=wr.heap.size:=f;omega)
        have s4:Kp Aa wr c7:=s3.trans m6 (λ i I f=>by have p:i=wr.heap.size:=f;(try have N:=Nat.le_of_eq p);(first|omega|(simp only[World.size_drew] at *;omega)))
        clear i2 z f00 A f01 B f02 J f03
        refine hK _ _ ?_ (λ t=>?_)
        .exact ⟨Kz c0,Kz r,Kz s⟩
        clear hK K
        try simp only[AB]
        have M:=lZ e1
        obtain⟨z,A,B⟩:=cells3 e1
        have d:=Ab e1;have f00:=d 0;have f01:=d 1;have f02:=d 2
        refine Bp [20] ?_
        refine Ag rfl (λ K hK=>?_)
        clear d
        go_simp
        obtain⟨f1,i3⟩:∃ f1,f1=World.setCell (World.setCell (World.setCell (c7) ⟨O.heap.size,0,none⟩ (.int .u8 0)) ⟨O.heap.size,1,none⟩ (.int .i64 0)) ⟨O.heap.size,2,none⟩ (.int .u64 0):=⟨_,rfl⟩
        rw[<- i3]
        obtain⟨I5,m7⟩:=BL e1 _ _ _ f1 i3
        have y4:=m7.at_ t3 (λ f=>by have p:wr.heap.size=O.heap.size:=f;omega)
        have s5:Kp Aa wr f1:=s4.trans m7 (λ i I f=>by have p:i=O.heap.size:=f;(try have N:=Nat.le_of_eq p);(first|omega|(simp only[World.size_drew] at *;omega)))
        clear i3 z f00 A f01 B f02
        refine hK _ _ ?_ (λ t=>?_)
        .exact ⟨Kz c0,Kz r,Kz s⟩
        clear hK K
        try simp only[AB]
        refine Ap 21 ?_
        try simp only[AB]
        refine wpAnyH_done (by kernel_rfl) ?_ _
        go_wp2_with fail
        go_meet
        exact⟨U,c8.o,rfl,s5⟩
       exact AllReadyH.nil
      refine Ai rfl (λ K hK=>?_) ?_
      .go_simp
       obtain⟨c1,b8⟩:∃ c1,c1=World.alloc G (.cells #[.int .u8 0,(0:Int),.int .u64 0] 106):=⟨_,rfl⟩
       rw[<- b8]
       have k1:Kp Aa G c1:=by rw[b8];exact ((Kr _ _).alloc _)
       have E2:wr.heap.size<=G.heap.size:=e5.size
       have j3:c1.heap[G.heap.size]?=some (.cells #[.int .u8 0,(0:Int),.int .u64 0] 106 (0,0)):=by rw[b8];exact wN _ _
       have F8:G.heap.size<c1.heap.size:=lZ j3
       have H1:=lZ d9
       have p2:=k1.at_ d9 id
       have l1:=e5.then' k1
       have C2:=sE b8
       clear b8
       refine hK _ _ ?_ (λ t=>?_)
       .exact ⟨Kz c0,Kz r,Kz s⟩
       clear hK K
       try simp only[AB]
       refine Bp [12] ?_
       refine Ai rfl (λ K hK=>?_) ?_
       .go_simp
        with_reducible refine(a5.o _ l1).mono ?_
        rintro e t7 ⟨U,R,rfl,i4⟩
        have c8:=sE R
        clear R
        have d0:=i4.at_ p2 id
        have p3:=i4.at_ j3 id
        have q8:=l1.then' i4
        refine hK _ _ ?_ (λ t=>?_)
        .exact ⟨Kz c0,Kz r,Kz s⟩
        clear hK K
        try simp only[AB]
        refine Ap 13 ?_;refine Ap 14 ?_;refine Ap 15 ?_;refine Ap 16 ?_
        try simp only[AB]
        have M:=lZ d0
        obtain⟨z,A,B,J⟩:=Ay d0
        have d:=Ab d0;have f00:=d 0;have f01:=d 1;have f02:=d 2;have f03:=d 3
        refine Bp [19] ?_
        refine Ag rfl (λ K hK=>?_)
        clear d
        go_simp
        obtain⟨c2,g2⟩:∃ c2,c2=World.setCell (World.setCell (World.setCell (World.setCell (t7) ⟨wr.heap.size,0,none⟩ (.int .u8 0)) ⟨wr.heap.size,1,none⟩ (.int .i64 0)) ⟨wr.heap.size,2,none⟩ (.int .i64 0)) ⟨wr.heap.size,3,none⟩ (.int .i64 0):=⟨_,rfl⟩
        rw[<- g2]
        obtain⟨s8,l6⟩:=BC d0 _ _ _ _ c2 g2
        have d1:=l6.at_ p3 (λ f=>by have p:G.heap.size=wr.heap.size:=f;omega)
        have q9:Kp Aa wr c2:=q8.trans l6 (λ i I f=>by have p:i=wr.heap.size:=f;(try have N:=Nat.le_of_eq p);(first|omega|(simp only[World.size_drew] at *;omega)))
        clear g2 z f00 A f01 B f02 J f03
        refine hK _ _ ?_ (λ t=>?_)
        .exact ⟨Kz c0,Kz r,Kz s⟩
        clear hK K
        try simp only[AB]
        have M:=lZ d1
        obtain⟨z,A,B⟩:=cells3 d1
        have d:=Ab d1;have f00:=d 0;have f01:=d 1;have f02:=d 2
        refine Bp [20] ?_
        refine Ag rfl (λ K hK=>?_)
        clear d
        go_simp
        obtain⟨e6,g3⟩:∃ e6,e6=World.setCell (World.setCell (World.setCell (c2) ⟨G.heap.size,0,none⟩ (.int .u8 0)) ⟨G.heap.size,1,none⟩ (.int .i64 0)) ⟨G.heap.size,2,none⟩ (.int .u64 0):=⟨_,rfl⟩
        rw[<- g3]
        obtain⟨I0,l7⟩:=BL d1 _ _ _ e6 g3
        have w9:=l7.at_ s8 (λ f=>by have p:wr.heap.size=G.heap.size:=f;omega)
        have r0:Kp Aa wr e6:=q9.trans l7 (λ i I f=>by have p:i=G.heap.size:=f;(try have N:=Nat.le_of_eq p);(first|omega|(simp only[World.size_drew] at *;omega)))
        clear g3 z f00 A f01 B f02
        refine hK _ _ ?_ (λ t=>?_)
        .exact ⟨Kz c0,Kz r,Kz s⟩
        clear hK K
        try simp only[AB]
        refine Ap 21 ?_
        try simp only[AB]
        refine wpAnyH_done (by kernel_rfl) ?_ _
        go_wp2_with fail
        go_meet
        exact⟨U,c8.o,rfl,r0⟩
       exact AllReadyH.nil
      exact AllReadyH.nil
     refine Ai rfl (λ K hK=>?_) ?_
     .go_simp
      obtain⟨D,a9⟩:∃ D,D=World.drew (World.alloc wr (.cells #[.int .u8 0,(0:Int),.int .u64 0] 106)):=⟨_,rfl⟩
      rw[<- a9]
      have q3:Kp Aa wr D:=by rw[a9];exact ((Kr _ _).alloc _).drew
      have E3:wr.heap.size<=wr.heap.size:=e2.size
      have d2:D.heap[wr.heap.size]?=some (.cells #[.int .u8 0,(0:Int),.int .u64 0] 106 (0,0)):=by rw[a9];exact wN _ _
      have G0:wr.heap.size<D.heap.size:=lZ d2
      have e3:=q3
      have C4:=sE a9
      clear a9
      refine hK _ _ ?_ (λ t=>?_)
      .exact ⟨Kz c0,Kz r,Kz s⟩
      clear hK K
      try simp only[AB]
      refine Bp [12,17] ?_
      refine Ai rfl (λ K hK=>?_) ?_
      .go_simp
       with_reducible refine(a5.o _ e3).mono ?_
       rintro e L ⟨U,R,rfl,k7⟩
       have c8:=sE R
       clear R
       have j4:=k7.at_ d2 id
       have l2:=e3.then' k7
       refine hK _ _ ?_ (λ t=>?_)
       .exact ⟨Kz c0,Kz r,Kz s⟩
       clear hK K
       try simp only[AB]
       refine Ap 13 ?_;refine Ap 14 ?_;refine Ap 15 ?_;refine Ap 16 ?_
       try simp only[AB]
       refine Bp [17] ?_
       refine Ai rfl (λ K hK=>?_) ?_
       .go_simp
        obtain⟨Z,b1⟩:∃ Z,Z=World.alloc L (.cells #[.int .u8 0,(0:Int),(0:Int),(0:Int)] 111):=⟨_,rfl⟩
        rw[<- b1]
        have k2:Kp Aa L Z:=by rw[b1];exact ((Kr _ _).alloc _)
        have E4:wr.heap.size<=L.heap.size:=l2.size
        have a7:Z.heap[L.heap.size]?=some (.cells #[.int .u8 0,(0:Int),(0:Int),(0:Int)] 111 (0,0)):=by rw[b1];exact wN _ _
        have G1:L.heap.size<Z.heap.size:=lZ a7
        have H2:=lZ j4
        have p4:=k2.at_ j4 id
        have r1:=l2.then' k2
        have C5:=sE b1
        clear b1
        refine hK _ _ ?_ (λ t=>?_)
        .exact ⟨Kz c0,Kz r,Kz s⟩
        clear hK K
        try simp only[AB]
        have M:=lZ a7
        obtain⟨z,A,B,J⟩:=Ay a7
        have d:=Ab a7;have f00:=d 0;have f01:=d 1;have f02:=d 2;have f03:=d 3
        refine Bp [19] ?_
        refine Ag rfl (λ K hK=>?_)
        clear d
        go_simp
        obtain⟨c3,g4⟩:∃ c3,c3=World.setCell (World.setCell (World.setCell (World.setCell (Z) ⟨L.heap.size,0,none⟩ (.int .u8 0)) ⟨L.heap.size,1,none⟩ (.int .i64 0)) ⟨L.heap.size,2,none⟩ (.int .i64 0)) ⟨L.heap.size,3,none⟩ (.int .i64 0):=⟨_,rfl⟩
        rw[<- g4]
        obtain⟨s9,l8⟩:=BC a7 _ _ _ _ c3 g4
        have d3:=l8.at_ p4 (λ f=>by have p:wr.heap.size=L.heap.size:=f;omega)
        have r2:Kp Aa wr c3:=r1.trans l8 (λ i I f=>by have p:i=L.heap.size:=f;(try have N:=Nat.le_of_eq p);(first|omega|(simp only[World.size_drew] at *;omega)))
        clear g4 z f00 A f01 B f02 J f03
        refine hK _ _ ?_ (λ t=>?_)
        .exact ⟨Kz c0,Kz r,Kz s⟩
        clear hK K
        try simp only[AB]
        have M:=lZ d3
        obtain⟨z,A,B⟩:=cells3 d3
        have d:=Ab d3;have f00:=d 0;have f01:=d 1;have f02:=d 2
        refine Bp [20] ?_
        refine Ag rfl (λ K hK=>?_)
        clear d
        go_simp
        obtain⟨e7,g5⟩:∃ e7,e7=World.setCell (World.setCell (World.setCell (c3) ⟨wr.heap.size,0,none⟩ (.int .u8 0)) ⟨wr.heap.size,1,none⟩ (.int .i64 0)) ⟨wr.heap.size,2,none⟩ (.int .u64 0):=⟨_,rfl⟩
        rw[<- g5]
        obtain⟨I1,l9⟩:=BL d3 _ _ _ e7 g5
        have y0:=l9.at_ s9 (λ f=>by have p:L.heap.size=wr.heap.size:=f;omega)
        have r3:Kp Aa wr e7:=r2.trans l9 (λ i I f=>by have p:i=wr.heap.size:=f;(try have N:=Nat.le_of_eq p);(first|omega|(simp only[World.size_drew] at *;omega)))
        clear g5 z f00 A f01 B f02
        refine hK _ _ ?_ (λ t=>?_)
        .exact ⟨Kz c0,Kz r,Kz s⟩
        clear hK K
        try simp only[AB]
        refine Ap 21 ?_
        try simp only[AB]
        refine wpAnyH_done (by kernel_rfl) ?_ _
        go_wp2_with fail
        go_meet
        exact⟨U,c8.o,rfl,r3⟩
       exact AllReadyH.nil
      refine Ai rfl (λ K hK=>?_) ?_
      .go_simp
       obtain⟨b9,b2⟩:∃ b9,b9=World.alloc D (.cells #[.int .u8 0,(0:Int),(0:Int),(0:Int)] 111):=⟨_,rfl⟩
       rw[<- b2]
       have k4:Kp Aa D b9:=by rw[b2];exact ((Kr _ _).alloc _)
       have E7:wr.heap.size<=D.heap.size:=e3.size
       have j6:b9.heap[D.heap.size]?=some (.cells #[.int .u8 0,(0:Int),(0:Int),(0:Int)] 111 (0,0)):=by rw[b2];exact wN _ _
       have G2:D.heap.size<b9.heap.size:=lZ j6
       have H3:=lZ d2
       have p5:=k4.at_ d2 id
       have l3:=e3.then' k4
       have C6:=sE b2
       clear b2
       refine hK _ _ ?_ (λ t=>?_)
       .exact ⟨Kz c0,Kz r,Kz s⟩
       clear hK K
       try simp only[AB]
       refine Bp [12] ?_
       refine Ai rfl (λ K hK=>?_) ?_
       .go_simp
        with_reducible refine(a5.o _ l3).mono ?_
        rintro e t8 ⟨U,R,rfl,i5⟩
        have c8:=sE R
        clear R
        have p6:=i5.at_ p5 id
        have d4:=i5.at_ j6 id
        have r4:=l3.then' i5
        refine hK _ _ ?_ (λ t=>?_)
        .exact ⟨Kz c0,Kz r,Kz s⟩
        clear hK K
        try simp only[AB]
        refine Ap 13 ?_;refine Ap 14 ?_;refine Ap 15 ?_;refine Ap 16 ?_
        try simp only[AB]
        have M:=lZ d4
        obtain⟨z,A,B,J⟩:=Ay d4
        have d:=Ab d4;have f00:=d 0;have f01:=d 1;have f02:=d 2;have f03:=d 3
        refine Bp [19] ?_
        refine Ag rfl (λ K hK=>?_)
        clear d
        go_simp
        obtain⟨c4,g6⟩:∃ c4,c4=World.setCell (World.setCell (World.setCell (World.setCell (t8) ⟨D.heap.size,0,none⟩ (.int .u8 0)) ⟨D.heap.size,1,none⟩ (.int .i64 0)) ⟨D.heap.size,2,none⟩ (.int .i64 0)) ⟨D.heap.size,3,none⟩ (.int .i64 0):=⟨_,rfl⟩
        rw[<- g6]
        obtain⟨t0,m0⟩:=BC d4 _ _ _ _ c4 g6
        have d5:=m0.at_ p6 (λ f=>by have p:wr.heap.size=D.heap.size:=f;omega)
        have r5:Kp Aa wr c4:=r4.trans m0 (λ i I f=>by have p:i=D.heap.size:=f;(try have N:=Nat.le_of_eq p);(first|omega|(simp only[World.size_drew] at *;omega)))
        clear g6 z f00 A f01 B f02 J f03
        refine hK _ _ ?_ (λ t=>?_)
        .exact ⟨Kz c0,Kz r,Kz s⟩
        clear hK K
        try simp only[AB]
        have M:=lZ d5
        obtain⟨z,A,B⟩:=cells3 d5
        have d:=Ab d5;have f00:=d 0;have f01:=d 1;have f02:=d 2
        refine Bp [20] ?_
        refine Ag rfl (λ K hK=>?_)
        clear d
        go_simp
        obtain⟨e8,g7⟩:∃ e8,e8=World.setCell (World.setCell (World.setCell (c4) ⟨wr.heap.size,0,none⟩ (.int .u8 0)) ⟨wr.heap.size,1,none⟩ (.int .i64 0)) ⟨wr.heap.size,2,none⟩ (.int .u64 0):=⟨_,rfl⟩
        rw[<- g7]
        obtain⟨I2,m1⟩:=BL d5 _ _ _ e8 g7
        have y1:=m1.at_ t0 (λ f=>by have p:D.heap.size=wr.heap.size:=f;omega)
        have r6:Kp Aa wr e8:=r5.trans m1 (λ i I f=>by have p:i=wr.heap.size:=f;(try have N:=Nat.le_of_eq p);(first|omega|(simp only[World.size_drew] at *;omega)))
        clear g7 z f00 A f01 B f02
        refine hK _ _ ?_ (λ t=>?_)
        .exact ⟨Kz c0,Kz r,Kz s⟩
        clear hK K
        try simp only[AB]
        refine Ap 21 ?_
        try simp only[AB]
        refine wpAnyH_done (by kernel_rfl) ?_ _
        go_wp2_with fail
        go_meet
        exact⟨U,c8.o,rfl,r6⟩
       exact AllReadyH.nil
      exact AllReadyH.nil
     exact AllReadyH.nil
    case rest=>
     obtain⟨U,R,rfl,f7⟩:=hcut
     have w8:(U !=0)=true:=by simpa using R
     have v1:=a4.o.then' f7
     clear R c0 r s
     go_wp2
     exact bodyPost_ret (v:=.int .i64 2) (by simp[results,results101,go_sem]) rfl (.inl ⟨o2.o,rfl,a3.o.Ac v1,v1⟩)
   |some c=>
    have g0:=a3.o.row.fits
    obtain⟨n1,w4,J8,w5,D5,w6⟩:=Eg hc g0
    obtain⟨k,wds,m,z4⟩:=Fs (w6.2 w4).1
    have C0:=sE z4
    have a5:Sl (∀ a6,Kp Aa wr a6->Calls prog 154 #[.slice (some ⟨q,0,none⟩) P.n f3,a2,.int .i64 (x j 0)] a6 (RK (.tuple #[.agg #[.int .u8 1,c.ty,c.ln,c.sz],.agg #[.int .u8 k,.int .i64 wds,.int .u64 m],(0:Int)]) a6)):=⟨λ a6 k9=>by
     refine(DOf_any (x j 0) q P.n f3 W a2 P.ts a6 (a3.o.row.Ac (a4.o.then' k9)) (v8.o.Ac (a4.o.then' k9)) v4.o v5.o).mono λ e w' g1=>?_
     unfold El at g1
     rw[hc] at g1
     obtain⟨L9,M4,m',i8,D6,D7⟩:=g1
     rw[C0.o] at i8
     injection i8 with i8
     injection i8 with i8 h1' h1''
     subst i8 h1' h1''
     exact⟨D6,D7⟩⟩
    have D9:c.g+c.sz<=32768:=by unfold Cel.fin at w5;omega
    have B1:=sE hc
    have v0:=sE n1
    clear hc g0 w4 D5 w6 z4 w5
    go_upto_region 6 with fail
    go_cut [8,9,10] from 18 to 34 (λ a _ e t9=>SetCutY c wr a e t9)
    case first=>
     clear n1
     have e2:Kp Aa wr wr.drew:=(Kr _ _).drew
     refine wp_region_held_drew (S:=(λ w'=>w'.cell? T=some (.slice (some ⟨q,0,none⟩) P.n f3)/\w'.cell? ⟨T,1,none⟩=some a2/\w'.cell? ⟨b,o+j,none⟩=some (.int .i64 (x j 0)))) (by kernel_rfl) ?_ (λ t=>?_)
     .exact ⟨Kz c0,Kz r,Kz s⟩
     refine Ap 0 ?_;refine Ap 1 ?_;refine Ap 2 ?_;refine Ap 3 ?_;refine Ap 4 ?_;refine Ap 5 ?_;refine Ap 6 ?_;refine Ap 7 ?_;refine Ap 8 ?_;refine Ap 9 ?_;refine Ap 10 ?_;refine Ap 11 ?_
     try simp only[AB]
     refine Bp [12,17,18] ?_
     refine Ai rfl (λ K hK=>?_) ?_
     .go_simp
      with_reducible refine(a5.o _ e2).mono ?_
      rintro e C ⟨rfl,q7⟩
      have e4:=e2.then' q7
      refine hK _ _ ?_ (λ t=>?_)
      .exact ⟨Kz c0,Kz r,Kz s⟩
      clear hK K
      try simp only[AB]
      refine Ap 13 ?_;refine Ap 14 ?_;refine Ap 15 ?_;refine Ap 16 ?_
      try simp only[AB]
      refine Bp [17,18] ?_
      refine Ai rfl (λ K hK=>?_) ?_
      .go_simp
       obtain⟨F,b5⟩:∃ F,F=World.alloc C (.cells #[.int .u8 0,(0:Int),(0:Int),(0:Int)] 111):=⟨_,rfl⟩
       rw[<- b5]
       have q5:Kp Aa C F:=by rw[b5];exact ((Kr _ _).alloc _)
       have F3:wr.heap.size<=C.heap.size:=e4.size
       have f9:F.heap[C.heap.size]?=some (.cells #[.int .u8 0,(0:Int),(0:Int),(0:Int)] 111 (0,0)):=by rw[b5];exact wN _ _
       have G8:C.heap.size<F.heap.size:=lZ f9
       have l0:=e4.then' q5
       have C3:=sE b5
       clear b5
       refine hK _ _ ?_ (λ t=>?_)
       .exact ⟨Kz c0,Kz r,Kz s⟩
       clear hK K
       try simp only[AB]
       refine Bp [18] ?_
       refine Ai rfl (λ K hK=>?_) ?_
       .go_simp
        obtain⟨Y,b0⟩:∃ Y,Y=World.alloc F (.cells #[.int .u8 0,(0:Int),.int .u64 0] 106):=⟨_,rfl⟩
        rw[<- b0]
        have k3:Kp Aa F Y:=by rw[b0];exact ((Kr _ _).alloc _)
        have E6:wr.heap.size<=F.heap.size:=l0.size
        have j5:Y.heap[F.heap.size]?=some (.cells #[.int .u8 0,(0:Int),.int .u64 0] 106 (0,0)):=by rw[b0];exact wN _ _
        have G3:F.heap.size<Y.heap.size:=lZ j5
        have H4:=lZ f9
        have d6:=k3.at_ f9 id
        have r7:=l0.then' k3
        have C7:=sE b0
        clear b0
        refine hK _ _ ?_ (λ t=>?_)
        .exact ⟨Kz c0,Kz r,Kz s⟩
        clear hK K
        try simp only[AB]
        have M:=lZ d6
        obtain⟨z,A,B,J⟩:=Ay d6
        have d:=Ab d6;have f00:=d 0;have f01:=d 1;have f02:=d 2;have f03:=d 3
        refine Bp [19] ?_
        refine Ag rfl (λ K hK=>?_)
        clear d
        go_simp
        obtain⟨c5,g8⟩:∃ c5,c5=World.setCell (World.setCell (World.setCell (World.setCell (Y) ⟨C.heap.size,0,none⟩ (.int .u8 1)) ⟨C.heap.size,1,none⟩ (.int .i64 c.ty)) ⟨C.heap.size,2,none⟩ (.int .i64 c.ln)) ⟨C.heap.size,3,none⟩ (.int .i64 c.sz):=⟨_,rfl⟩
        rw[<- g8]
        obtain⟨t1,m2⟩:=BC d6 _ _ _ _ c5 g8
        have d7:=m2.at_ j5 (λ f=>by have p:F.heap.size=C.heap.size:=f;omega)
        have r8:Kp Aa wr c5:=r7.trans m2 (λ i I f=>by have p:i=C.heap.size:=f;(try have N:=Nat.le_of_eq p);(first|omega|(simp only[World.size_drew] at *;omega)))
        clear g8 z f00 A f01 B f02 J f03
        refine hK _ _ ?_ (λ t=>?_)
        .exact ⟨Kz c0,Kz r,Kz s⟩
        clear hK K
        try simp only[AB]
        have M:=lZ d7
        obtain⟨z,A,B⟩:=cells3 d7
        have d:=Ab d7;have f00:=d 0;have f01:=d 1;have f02:=d 2
        refine Bp [20] ?_
        refine Ag rfl (λ K hK=>?_)
        clear d
        go_simp
        obtain⟨e9,g9⟩:∃ e9,e9=World.setCell (World.setCell (World.setCell (c5) ⟨F.heap.size,0,none⟩ (.int .u8 k)) ⟨F.heap.size,1,none⟩ (.int .i64 wds)) ⟨F.heap.size,2,none⟩ (.int .u64 m):=⟨_,rfl⟩
        rw[<- g9]
        obtain⟨I3,m3⟩:=BL d7 _ _ _ e9 g9
        have y2:=m3.at_ t1 (λ f=>by have p:C.heap.size=F.heap.size:=f;omega)
        have r9:Kp Aa wr e9:=r8.trans m3 (λ i I f=>by have p:i=F.heap.size:=f;(try have N:=Nat.le_of_eq p);(first|omega|(simp only[World.size_drew] at *;omega)))
        clear g9 z f00 A f01 B f02
        refine hK _ _ ?_ (λ t=>?_)
        .exact ⟨Kz c0,Kz r,Kz s⟩
        clear hK K
        try simp only[AB]
        refine Ap 21 ?_
        try simp only[AB]
        refine wpAnyH_done (by kernel_rfl) ?_ _
        go_wp2_with fail
        go_meet
        exact⟨_,rfl,rfl,y2,by omega,r9⟩
       exact AllReadyH.nil
      refine Ai rfl (λ K hK=>?_) ?_
      .go_simp
       obtain⟨E,b3⟩:∃ E,E=World.alloc C (.cells #[.int .u8 0,(0:Int),.int .u64 0] 106):=⟨_,rfl⟩
       rw[<- b3]
       have q4:Kp Aa C E:=by rw[b3];exact ((Kr _ _).alloc _)
       have F0:wr.heap.size<=C.heap.size:=e4.size
       have f8:E.heap[C.heap.size]?=some (.cells #[.int .u8 0,(0:Int),.int .u64 0] 106 (0,0)):=by rw[b3];exact wN _ _
       have G4:C.heap.size<E.heap.size:=lZ f8
       have l4:=e4.then' q4
       have D0:=sE b3
       clear b3
       refine hK _ _ ?_ (λ t=>?_)
       .exact ⟨Kz c0,Kz r,Kz s⟩
       clear hK K
       try simp only[AB]
       refine Bp [17] ?_
       refine Ai rfl (λ K hK=>?_) ?_
       .go_simp
        obtain⟨a0,b4⟩:∃ a0,a0=World.alloc E (.cells #[.int .u8 0,(0:Int),(0:Int),(0:Int)] 111):=⟨_,rfl⟩
        rw[<- b4]
        have k5:Kp Aa E a0:=by rw[b4];exact ((Kr _ _).alloc _)
        have F1:wr.heap.size<=E.heap.size:=l4.size
        have a8:a0.heap[E.heap.size]?=some (.cells #[.int .u8 0,(0:Int),(0:Int),(0:Int)] 111 (0,0)):=by rw[b4];exact wN _ _
        have G5:E.heap.size<a0.heap.size:=lZ a8
        have H5:=lZ f8
        have p7:=k5.at_ f8 id
        have s0:=l4.then' k5
        have D1:=sE b4
        clear b4
        refine hK _ _ ?_ (λ t=>?_)
        .exact ⟨Kz c0,Kz r,Kz s⟩
        clear hK K
        try simp only[AB]
        have M:=lZ a8
        obtain⟨z,A,B,J⟩:=Ay a8
        have d:=Ab a8;have f00:=d 0;have f01:=d 1;have f02:=d 2;have f03:=d 3
        refine Bp [19] ?_
        refine Ag rfl (λ K hK=>?_)
        clear d
        go_simp
        obtain⟨c6,i0⟩:∃ c6,c6=World.setCell (World.setCell (World.setCell (World.setCell (a0) ⟨E.heap.size,0,none⟩ (.int .u8 1)) ⟨E.heap.size,1,none⟩ (.int .i64 c.ty)) ⟨E.heap.size,2,none⟩ (.int .i64 c.ln)) ⟨E.heap.size,3,none⟩ (.int .i64 c.sz):=⟨_,rfl⟩
        rw[<- i0]
        obtain⟨t2,m4⟩:=BC a8 _ _ _ _ c6 i0
        have d8:=m4.at_ p7 (λ f=>by have p:C.heap.size=E.heap.size:=f;omega)
        have s1:Kp Aa wr c6:=s0.trans m4 (λ i I f=>by have p:i=E.heap.size:=f;(try have N:=Nat.le_of_eq p);(first|omega|(simp only[World.size_drew] at *;omega)))
        clear i0 z f00 A f01 B f02 J f03
        refine hK _ _ ?_ (λ t=>?_)
        .exact ⟨Kz c0,Kz r,Kz s⟩
        clear hK K
        try simp only[AB]
        have M:=lZ d8
        obtain⟨z,A,B⟩:=cells3 d8
        have d:=Ab d8;have f00:=d 0;have f01:=d 1;have f02:=d 2
        refine Bp [20] ?_
        refine Ag rfl (λ K hK=>?_)
        clear d
        go_simp
        obtain⟨f0,i1⟩:∃ f0,f0=World.setCell (World.setCell (World.setCell (c6) ⟨C.heap.size,0,none⟩ (.int .u8 k)) ⟨C.heap.size,1,none⟩ (.int .i64 wds)) ⟨C.heap.size,2,none⟩ (.int .u64 m):=⟨_,rfl⟩
        rw[<- i1]
        obtain⟨I4,m5⟩:=BL d8 _ _ _ f0 i1
        have y3:=m5.at_ t2 (λ f=>by have p:E.heap.size=C.heap.size:=f;omega)
        have s2:Kp Aa wr f0:=s1.trans m5 (λ i I f=>by have p:i=C.heap.size:=f;(try have N:=Nat.le_of_eq p);(first|omega|(simp only[World.size_drew] at *;omega)))
        clear i1 z f00 A f01 B f02
        refine hK _ _ ?_ (λ t=>?_)
        .exact ⟨Kz c0,Kz r,Kz s⟩
        clear hK K
        try simp only[AB]
        refine Ap 21 ?_
        try simp only[AB]
        refine wpAnyH_done (by kernel_rfl) ?_ _
        go_wp2_with fail
        go_meet
        exact⟨_,rfl,rfl,y3,by omega,s2⟩
       exact AllReadyH.nil
      exact AllReadyH.nil
     refine Ai rfl (λ K hK=>?_) ?_
     .go_simp
      obtain⟨G,b6⟩:∃ G,G=World.drew (World.alloc wr (.cells #[.int .u8 0,(0:Int),(0:Int),(0:Int)] 111)):=⟨_,rfl⟩
      rw[<- b6]
      have q6:Kp Aa wr G:=by rw[b6];exact ((Kr _ _).alloc _).drew
      have F2:wr.heap.size<=wr.heap.size:=e2.size
      have d9:G.heap[wr.heap.size]?=some (.cells #[.int .u8 0,(0:Int),(0:Int),(0:Int)] 111 (0,0)):=by rw[b6];exact wN _ _
      have G6:wr.heap.size<G.heap.size:=lZ d9
      have e5:=q6
      have D2:=sE b6
      clear b6
      refine hK _ _ ?_ (λ t=>?_)
      .exact ⟨Kz c0,Kz r,Kz s⟩
      clear hK K
      try simp only[AB]
      refine Bp [12,18] ?_
      refine Ai rfl (λ K hK=>?_) ?_
      .go_simp
       with_reducible refine(a5.o _ e5).mono ?_
       rintro e O ⟨rfl,k8⟩
       have j7:=k8.at_ d9 id
       have l5:=e5.then' k8
       refine hK _ _ ?_ (λ t=>?_)
       .exact ⟨Kz c0,Kz r,Kz s⟩
       clear hK K
       try simp only[AB]
       refine Ap 13 ?_;refine Ap 14 ?_;refine Ap 15 ?_;refine Ap 16 ?_
       try simp only[AB]
       refine Bp [18] ?_
       refine Ai rfl (λ K hK=>?_) ?_
       .go_simp
        obtain⟨a1,b7⟩:∃ a1,a1=World.alloc O (.cells #[.int .u8 0,(0:Int),.int .u64 0] 106):=⟨_,rfl⟩
        rw[<- b7]
        have k6:Kp Aa O a1:=by rw[b7];exact ((Kr _ _).alloc _)
        have F4:wr.heap.size<=O.heap.size:=l5.size
        have j8:a1.heap[O.heap.size]?=some (.cells #[.int .u8 0,(0:Int),.int .u64 0] 106 (0,0)):=by rw[b7];exact wN _ _
        have G7:O.heap.size<a1.heap.size:=lZ j8
        have H6:=lZ j7
        have e0:=k6.at_ j7 id
        have s3:=l5.then' k6
        have D3:=sE b7
        clear b7
        refine hK _ _ ?_ (λ t=>?_)
        .exact ⟨Kz c0,Kz r,Kz s⟩
        clear hK K
        try simp only[AB]
        have M:=lZ e0
        obtain⟨z,A,B,J⟩:=Ay e0
        have d:=Ab e0;have f00:=d 0;have f01:=d 1;have f02:=d 2;have f03:=d 3
        refine Bp [19] ?_
        refine Ag rfl (λ K hK=>?_)
        clear d
        go_simp
        obtain⟨c7,i2⟩:∃ c7,c7=World.setCell (World.setCell (World.setCell (World.setCell (a1) ⟨wr.heap.size,0,none⟩ (.int .u8 1)) ⟨wr.heap.size,1,none⟩ (.int .i64 c.ty)) ⟨wr.heap.size,2,none⟩ (.int .i64 c.ln)) ⟨wr.heap.size,3,none⟩ (.int .i64 c.sz):=⟨_,rfl⟩
        rw[<- i2]
        obtain⟨t3,m6⟩:=BC e0 _ _ _ _ c7 i2
        have e1:=m6.at_ j8 (λ f=>by have p:O.heap.size=wr.heap.size:=f;omega)
        have s4:Kp Aa wr c7:=s3.trans m6 (λ i I f=>by have p:i=wr.heap.size:=f;(try have N:=Nat.le_of_eq p);(first|omega|(simp only[World.size_drew] at *;omega)))
        clear i2 z f00 A f01 B f02 J f03
        refine hK _ _ ?_ (λ t=>?_)
        .exact ⟨Kz c0,Kz r,Kz s⟩
        clear hK K
        try simp only[AB]
        have M:=lZ e1
        obtain⟨z,A,B⟩:=cells3 e1
        have d:=Ab e1;have f00:=d 0;have f01:=d 1;have f02:=d 2
        refine Bp [20] ?_
        refine Ag rfl (λ K hK=>?_)
        clear d
        go_simp
        obtain⟨f1,i3⟩:∃ f1,f1=World.setCell (World.setCell (World.setCell (c7) ⟨O.heap.size,0,none⟩ (.int .u8 k)) ⟨O.heap.size,1,none⟩ (.int .i64 wds)) ⟨O.heap.size,2,none⟩ (.int .u64 m):=⟨_,rfl⟩
        rw[<- i3]
        obtain⟨I5,m7⟩:=BL e1 _ _ _ f1 i3
        have y4:=m7.at_ t3 (λ f=>by have p:wr.heap.size=O.heap.size:=f;omega)
        have s5:Kp Aa wr f1:=s4.trans m7 (λ i I f=>by have p:i=O.heap.size:=f;(try have N:=Nat.le_of_eq p);(first|omega|(simp only[World.size_drew] at *;omega)))
        clear i3 z f00 A f01 B f02
        refine hK _ _ ?_ (λ t=>?_)
        .exact ⟨Kz c0,Kz r,Kz s⟩
        clear hK K
        try simp only[AB]
        refine Ap 21 ?_
        try simp only[AB]
        refine wpAnyH_done (by kernel_rfl) ?_ _
        go_wp2_with fail
        go_meet
        exact⟨_,rfl,rfl,y4,by omega,s5⟩
       exact AllReadyH.nil
      refine Ai rfl (λ K hK=>?_) ?_
      .go_simp
       obtain⟨c1,b8⟩:∃ c1,c1=World.alloc G (.cells #[.int .u8 0,(0:Int),.int .u64 0] 106):=⟨_,rfl⟩
       rw[<- b8]
       have k1:Kp Aa G c1:=by rw[b8];exact ((Kr _ _).alloc _)
       have E2:wr.heap.size<=G.heap.size:=e5.size
       have j3:c1.heap[G.heap.size]?=some (.cells #[.int .u8 0,(0:Int),.int .u64 0] 106 (0,0)):=by rw[b8];exact wN _ _
       have F8:G.heap.size<c1.heap.size:=lZ j3
       have H1:=lZ d9
       have p2:=k1.at_ d9 id
       have l1:=e5.then' k1
       have C2:=sE b8
       clear b8
       refine hK _ _ ?_ (λ t=>?_)
       .exact ⟨Kz c0,Kz r,Kz s⟩
       clear hK K
       try simp only[AB]
       refine Bp [12] ?_
       refine Ai rfl (λ K hK=>?_) ?_
       .go_simp
        with_reducible refine(a5.o _ l1).mono ?_
        rintro e t7 ⟨rfl,i4⟩
        have d0:=i4.at_ p2 id
        have p3:=i4.at_ j3 id
        have q8:=l1.then' i4
        refine hK _ _ ?_ (λ t=>?_)
        .exact ⟨Kz c0,Kz r,Kz s⟩
        clear hK K
        try simp only[AB]
        refine Ap 13 ?_;refine Ap 14 ?_;refine Ap 15 ?_;refine Ap 16 ?_
        try simp only[AB]
        have M:=lZ d0
        obtain⟨z,A,B,J⟩:=Ay d0
        have d:=Ab d0;have f00:=d 0;have f01:=d 1;have f02:=d 2;have f03:=d 3
        refine Bp [19] ?_
        refine Ag rfl (λ K hK=>?_)
        clear d
        go_simp
        obtain⟨c2,g2⟩:∃ c2,c2=World.setCell (World.setCell (World.setCell (World.setCell (t7) ⟨wr.heap.size,0,none⟩ (.int .u8 1)) ⟨wr.heap.size,1,none⟩ (.int .i64 c.ty)) ⟨wr.heap.size,2,none⟩ (.int .i64 c.ln)) ⟨wr.heap.size,3,none⟩ (.int .i64 c.sz):=⟨_,rfl⟩
        rw[<- g2]
        obtain⟨s8,l6⟩:=BC d0 _ _ _ _ c2 g2
        have d1:=l6.at_ p3 (λ f=>by have p:G.heap.size=wr.heap.size:=f;omega)
        have q9:Kp Aa wr c2:=q8.trans l6 (λ i I f=>by have p:i=wr.heap.size:=f;(try have N:=Nat.le_of_eq p);(first|omega|(simp only[World.size_drew] at *;omega)))
        clear g2 z f00 A f01 B f02 J f03
        refine hK _ _ ?_ (λ t=>?_)
        .exact ⟨Kz c0,Kz r,Kz s⟩
        clear hK K
        try simp only[AB]
        have M:=lZ d1
        obtain⟨z,A,B⟩:=cells3 d1
        have d:=Ab d1;have f00:=d 0;have f01:=d 1;have f02:=d 2
        refine Bp [20] ?_
        refine Ag rfl (λ K hK=>?_)
        clear d
        go_simp
        obtain⟨e6,g3⟩:∃ e6,e6=World.setCell (World.setCell (World.setCell (c2) ⟨G.heap.size,0,none⟩ (.int .u8 k)) ⟨G.heap.size,1,none⟩ (.int .i64 wds)) ⟨G.heap.size,2,none⟩ (.int .u64 m):=⟨_,rfl⟩
        rw[<- g3]
        obtain⟨I0,l7⟩:=BL d1 _ _ _ e6 g3
        have w9:=l7.at_ s8 (λ f=>by have p:wr.heap.size=G.heap.size:=f;omega)
        have r0:Kp Aa wr e6:=q9.trans l7 (λ i I f=>by have p:i=G.heap.size:=f;(try have N:=Nat.le_of_eq p);(first|omega|(simp only[World.size_drew] at *;omega)))
        clear g3 z f00 A f01 B f02
        refine hK _ _ ?_ (λ t=>?_)
        .exact ⟨Kz c0,Kz r,Kz s⟩
        clear hK K
        try simp only[AB]
        refine Ap 21 ?_
        try simp only[AB]
        refine wpAnyH_done (by kernel_rfl) ?_ _
        go_wp2_with fail
        go_meet
        exact⟨_,rfl,rfl,w9,by omega,r0⟩
       exact AllReadyH.nil
      exact AllReadyH.nil
     refine Ai rfl (λ K hK=>?_) ?_
     .go_simp
      obtain⟨D,a9⟩:∃ D,D=World.drew (World.alloc wr (.cells #[.int .u8 0,(0:Int),.int .u64 0] 106)):=⟨_,rfl⟩
      rw[<- a9]
      have q3:Kp Aa wr D:=by rw[a9];exact ((Kr _ _).alloc _).drew
      have E3:wr.heap.size<=wr.heap.size:=e2.size
      have d2:D.heap[wr.heap.size]?=some (.cells #[.int .u8 0,(0:Int),.int .u64 0] 106 (0,0)):=by rw[a9];exact wN _ _
      have G0:wr.heap.size<D.heap.size:=lZ d2
      have e3:=q3
      have C4:=sE a9
      clear a9
      refine hK _ _ ?_ (λ t=>?_)
      .exact ⟨Kz c0,Kz r,Kz s⟩
      clear hK K
      try simp only[AB]
      refine Bp [12,17] ?_
      refine Ai rfl (λ K hK=>?_) ?_
      .go_simp
       with_reducible refine(a5.o _ e3).mono ?_
       rintro e L ⟨rfl,k7⟩
       have j4:=k7.at_ d2 id
       have l2:=e3.then' k7
       refine hK _ _ ?_ (λ t=>?_)
       .exact ⟨Kz c0,Kz r,Kz s⟩
       clear hK K
       try simp only[AB]
       refine Ap 13 ?_;refine Ap 14 ?_;refine Ap 15 ?_;refine Ap 16 ?_
       try simp only[AB]
       refine Bp [17] ?_
       refine Ai rfl (λ K hK=>?_) ?_
       .go_simp
        obtain⟨Z,b1⟩:∃ Z,Z=World.alloc L (.cells #[.int .u8 0,(0:Int),(0:Int),(0:Int)] 111):=⟨_,rfl⟩
        rw[<- b1]
        have k2:Kp Aa L Z:=by rw[b1];exact ((Kr _ _).alloc _)
        have E4:wr.heap.size<=L.heap.size:=l2.size
        have a7:Z.heap[L.heap.size]?=some (.cells #[.int .u8 0,(0:Int),(0:Int),(0:Int)] 111 (0,0)):=by rw[b1];exact wN _ _
        have G1:L.heap.size<Z.heap.size:=lZ a7
        have H2:=lZ j4
        have p4:=k2.at_ j4 id
        have r1:=l2.then' k2
        have C5:=sE b1
        clear b1
        refine hK _ _ ?_ (λ t=>?_)
        .exact ⟨Kz c0,Kz r,Kz s⟩
        clear hK K
        try simp only[AB]
        have M:=lZ a7
        obtain⟨z,A,B,J⟩:=Ay a7
        have d:=Ab a7;have f00:=d 0;have f01:=d 1;have f02:=d 2;have f03:=d 3
        refine Bp [19] ?_
        refine Ag rfl (λ K hK=>?_)
        clear d
        go_simp
        obtain⟨c3,g4⟩:∃ c3,c3=World.setCell (World.setCell (World.setCell (World.setCell (Z) ⟨L.heap.size,0,none⟩ (.int .u8 1)) ⟨L.heap.size,1,none⟩ (.int .i64 c.ty)) ⟨L.heap.size,2,none⟩ (.int .i64 c.ln)) ⟨L.heap.size,3,none⟩ (.int .i64 c.sz):=⟨_,rfl⟩
        rw[<- g4]
        obtain⟨s9,l8⟩:=BC a7 _ _ _ _ c3 g4
        have d3:=l8.at_ p4 (λ f=>by have p:wr.heap.size=L.heap.size:=f;omega)
        have r2:Kp Aa wr c3:=r1.trans l8 (λ i I f=>by have p:i=L.heap.size:=f;(try have N:=Nat.le_of_eq p);(first|omega|(simp only[World.size_drew] at *;omega)))
        clear g4 z f00 A f01 B f02 J f03
        refine hK _ _ ?_ (λ t=>?_)
        .exact ⟨Kz c0,Kz r,Kz s⟩
        clear hK K
        try simp only[AB]
        have M:=lZ d3
        obtain⟨z,A,B⟩:=cells3 d3
        have d:=Ab d3;have f00:=d 0;have f01:=d 1;have f02:=d 2
        refine Bp [20] ?_
        refine Ag rfl (λ K hK=>?_)
        clear d
        go_simp
        obtain⟨e7,g5⟩:∃ e7,e7=World.setCell (World.setCell (World.setCell (c3) ⟨wr.heap.size,0,none⟩ (.int .u8 k)) ⟨wr.heap.size,1,none⟩ (.int .i64 wds)) ⟨wr.heap.size,2,none⟩ (.int .u64 m):=⟨_,rfl⟩
        rw[<- g5]
        obtain⟨I1,l9⟩:=BL d3 _ _ _ e7 g5
        have y0:=l9.at_ s9 (λ f=>by have p:L.heap.size=wr.heap.size:=f;omega)
        have r3:Kp Aa wr e7:=r2.trans l9 (λ i I f=>by have p:i=wr.heap.size:=f;(try have N:=Nat.le_of_eq p);(first|omega|(simp only[World.size_drew] at *;omega)))
        clear g5 z f00 A f01 B f02
        refine hK _ _ ?_ (λ t=>?_)
        .exact ⟨Kz c0,Kz r,Kz s⟩
        clear hK K
        try simp only[AB]
        refine Ap 21 ?_
        try simp only[AB]
        refine wpAnyH_done (by kernel_rfl) ?_ _
        go_wp2_with fail
        go_meet
        exact⟨_,rfl,rfl,y0,by omega,r3⟩
       exact AllReadyH.nil
      refine Ai rfl (λ K hK=>?_) ?_
      .go_simp
       obtain⟨b9,b2⟩:∃ b9,b9=World.alloc D (.cells #[.int .u8 0,(0:Int),(0:Int),(0:Int)] 111):=⟨_,rfl⟩
       rw[<- b2]
       have k4:Kp Aa D b9:=by rw[b2];exact ((Kr _ _).alloc _)
       have E7:wr.heap.size<=D.heap.size:=e3.size
       have j6:b9.heap[D.heap.size]?=some (.cells #[.int .u8 0,(0:Int),(0:Int),(0:Int)] 111 (0,0)):=by rw[b2];exact wN _ _
       have G2:D.heap.size<b9.heap.size:=lZ j6
       have H3:=lZ d2
       have p5:=k4.at_ d2 id
       have l3:=e3.then' k4
       have C6:=sE b2
       clear b2
       refine hK _ _ ?_ (λ t=>?_)
       .exact ⟨Kz c0,Kz r,Kz s⟩
       clear hK K
       try simp only[AB]
       refine Bp [12] ?_
       refine Ai rfl (λ K hK=>?_) ?_
       .go_simp
        with_reducible refine(a5.o _ l3).mono ?_
        rintro e t8 ⟨rfl,i5⟩
        have p6:=i5.at_ p5 id
        have d4:=i5.at_ j6 id
        have r4:=l3.then' i5
        refine hK _ _ ?_ (λ t=>?_)
        .exact ⟨Kz c0,Kz r,Kz s⟩
        clear hK K
        try simp only[AB]
        refine Ap 13 ?_;refine Ap 14 ?_;refine Ap 15 ?_;refine Ap 16 ?_
        try simp only[AB]
        have M:=lZ d4
        obtain⟨z,A,B,J⟩:=Ay d4
        have d:=Ab d4;have f00:=d 0;have f01:=d 1;have f02:=d 2;have f03:=d 3
        refine Bp [19] ?_
        refine Ag rfl (λ K hK=>?_)
        clear d
        go_simp
        obtain⟨c4,g6⟩:∃ c4,c4=World.setCell (World.setCell (World.setCell (World.setCell (t8) ⟨D.heap.size,0,none⟩ (.int .u8 1)) ⟨D.heap.size,1,none⟩ (.int .i64 c.ty)) ⟨D.heap.size,2,none⟩ (.int .i64 c.ln)) ⟨D.heap.size,3,none⟩ (.int .i64 c.sz):=⟨_,rfl⟩
        rw[<- g6]
        obtain⟨t0,m0⟩:=BC d4 _ _ _ _ c4 g6
        have d5:=m0.at_ p6 (λ f=>by have p:wr.heap.size=D.heap.size:=f;omega)
        have r5:Kp Aa wr c4:=r4.trans m0 (λ i I f=>by have p:i=D.heap.size:=f;(try have N:=Nat.le_of_eq p);(first|omega|(simp only[World.size_drew] at *;omega)))
        clear g6 z f00 A f01 B f02 J f03
        refine hK _ _ ?_ (λ t=>?_)
        .exact ⟨Kz c0,Kz r,Kz s⟩
        clear hK K
        try simp only[AB]
        have M:=lZ d5
        obtain⟨z,A,B⟩:=cells3 d5
        have d:=Ab d5;have f00:=d 0;have f01:=d 1;have f02:=d 2
        refine Bp [20] ?_
        refine Ag rfl (λ K hK=>?_)
        clear d
        go_simp
        obtain⟨e8,g7⟩:∃ e8,e8=World.setCell (World.setCell (World.setCell (c4) ⟨wr.heap.size,0,none⟩ (.int .u8 k)) ⟨wr.heap.size,1,none⟩ (.int .i64 wds)) ⟨wr.heap.size,2,none⟩ (.int .u64 m):=⟨_,rfl⟩
        rw[<- g7]
        obtain⟨I2,m1⟩:=BL d5 _ _ _ e8 g7
        have y1:=m1.at_ t0 (λ f=>by have p:D.heap.size=wr.heap.size:=f;omega)
        have r6:Kp Aa wr e8:=r5.trans m1 (λ i I f=>by have p:i=wr.heap.size:=f;(try have N:=Nat.le_of_eq p);(first|omega|(simp only[World.size_drew] at *;omega)))
        clear g7 z f00 A f01 B f02
        refine hK _ _ ?_ (λ t=>?_)
        .exact ⟨Kz c0,Kz r,Kz s⟩
        clear hK K
        try simp only[AB]
        refine Ap 21 ?_
        try simp only[AB]
        refine wpAnyH_done (by kernel_rfl) ?_ _
        go_wp2_with fail
        go_meet
        exact⟨_,rfl,rfl,y1,by omega,r6⟩
       exact AllReadyH.nil
      exact AllReadyH.nil
     exact AllReadyH.nil
    case rest=>
     obtain⟨w1,rfl,rfl,n2,K0,f7⟩:=hcut
     have L7:=f7.size
     have K2:b<wc.heap.size:=by omega
     have o9:=f7.cell s id
     rw[n1] at o9
     obtain⟨z,A,B,J⟩:=Ay n2
     have K9:=lZ n2
     have J2:=sE f7
     have w0:wc.ownsRow w.heap.size 3 1 u5 os.length (Az (os.map Cel.sz)):=f7.owns o6.o (λ _ _ f=>f)
     have v6:=sE w0
     have m9:Sl (Kp Aa w wc):=⟨a4.o.then' f7⟩
     have J1:=sE n2
     have y9:os.length=j:=j2.o.2.1
     have B4:=sE y9
     have L8:w.heap.size<=wc.heap.size:=m9.o.size
     clear c0 r s n2 w0 f7 n1 y9
     by_cases hlow:(c.g:Int)<(e:Int)
     .have o2:Sl (Bu W P.n P.ts (λ i=>x i 0) 0 X 0=none):=⟨j2.o.fails hjl (.inr (by show x j 0<_;rw [v0.o];exact hlow))⟩
      have H8:decide ((c.g:Int)<(e:Int))=true:=dT hlow
      go_wp2
      exact bodyPost_ret (v:=.int .i64 2) (by simp[results,results101,go_sem]) rfl (.inl ⟨o2.o,rfl,a3.o.Ac m9.o,m9.o⟩)
     .have B3:Sl (Cb W P.n P.ts (λ i=>x i 0) X (j+1) (os++[c]) c.fin):=⟨j2.o.next hjl a3.o.row.fits B1.o (by show ¬ x j 0<_;rw [v0.o];exact hlow)⟩
      have H8:decide ((c.g:Int)<(e:Int))=false:=dF hlow
      have L2:os.length<=1000:=by have:=B4.o;omega
      go_wp2_with (at_builtin;obtain ⟨H7,I,A0,A1,A2⟩:=info_parts Be;go_loud (refine wpList_append_lies _ rfl (.tmp 45) (.tmp 48) 24 rfl w.heap.size 3 H7 _ 1 8 Ar I A0 A1 A2 rfl (by omega) u5 os.length (Az (os.map Cel.sz)) rfl (v6.o.alloc _) ⟨wc.heap.size,0,none⟩ 1 1 [c.sz] rfl rfl (World.news_of_block (wN wc _)) (by intro u n9;simp at n9;subst n9;rfl) (by omega) (by unfold maxLen;omega) (by omega) (by simp;omega) (wc.heap.size+1) (by simp) ?_);intro g cap t5 z0 q0 D8 y8;clear I A0 A1 A2)
      have A5:Kp Aa w t5:=(m9.o.alloc _).grown q0 (λ k e q1=>absurd (v6.o.lt k e).1 (by omega))
      have o0:Kp (λ b=>u5.ownBlock=some b) wc t5:=(((Kr Aa wc).alloc _).Aw _).grown q0 (λ k e _=>e)
      have z3:IntKind.i64.wrap ((c.g:Int)+(c.sz:Int))=((c.fin:Nat):Int):=by rw[Cel.fin,IntKind.wrap_i64];omega
      have z2:t5.ownsRow w.heap.size 3 1 (.slice (some ⟨g,0,none⟩) (os.length+1) cap) (os++[c]).length (Az ((os++[c]).map Cel.sz)):=by
       rw[List.map_append,Az,List.map_append,List.length_append];exact z0
      have B7:=sE z2
      have B2:=sE A5
      have A3:¬ u5.ownBlock=some b:=λ e=>by have:=(o6.o.lt b e).1;omega
      have A4:¬ u5.ownBlock=some w1:=λ e=>by have:=(o6.o.lt w1 e).2;omega
      have J4:=o0.cell o9 A3
      have J7:=o0.cell J A4
      have L4:=o0.size
      have E0:c.fin<=32768:=by rw[Cel.fin];exact D9
      clear o9 z A B J z0 q0 D8 A5 o0 A3 A4 z2
      go_wp2_with fail
      go_quiet (fail)
      go_wp2
      exact⟨⟨j+1,os++[c],c.fin,by omega,rfl,by go_num,E0,B3,(Kp.Ah (S:=Aa) _).owns B7.o (λ _ _ f=>f),B2.o.drewN _⟩,by simp only[intOf];omega⟩
  .have F7:¬ (j:Int)<(X:Int):=by omega
   obtain rfl:j=X:=by omega
   have p1:=j2.o.done
   have g0:=a3.o.row.fits
   obtain⟨A6,s6,A7,H9⟩:=C8 g0 p1 (Nat.zero_le _)
   have B5:=sE p1
   have B8:=sE A6
   have D4:Sl (∀ i o,os[i]?=some o->x i 0=(o.g:Nat)):=⟨λ i o n5=>by have:=A7 i o n5;rwa [Nat.zero_add] at this⟩
   have v3:=sE s6
   obtain⟨f3,c0,r⟩:=(a3.o.Ac f4).head
   have B9:Sl (∀ i o,os[i]?=some o->∃ c9 n0,u5=.slice (some ⟨c9,0,none⟩) j n0/\w.heap.size<=c9/\c9<wr.heap.size/\wr.cell? ⟨c9,i,none⟩=some (.int .i64 o.sz)):=⟨λ i o n5=>by
    have F6:=(gE.1 n5).1
    obtain⟨_,f⟩:=n6
    rcases f with ⟨_,J9⟩|⟨c9,n0,J3,n9,w8,y6,_,_,M,G9⟩
    .omega
    .refine ⟨c9,n0,by rw[n9,s6],w8,lZ y6,?_⟩
     have p0:=congrArg (λ l=>l[i]?) G9
     simp only[List.getElem?_take,Nat.mul_one,Az,List.getElem?_map,n5,Option.map_some] at p0
     rw[if_pos F6,Array.getElem?_toList] at p0
     simp only[World.cell?,y6]
     exact p0⟩
   clear n6 f4 c0 r A6 s6 A7 H9 p1 g0
   obtain⟨m8,rfl⟩:∃ m8:World,m8=wr:=⟨_,rfl⟩
   go_wp2_with fail
   go_loopw [6,11] (λ t4 I6 w'=>∃ (i Q:Nat) (f2:Nat->Nat) (j0:Nat),i<=j/\t4=.int .i64 Q/\I6=.int .i64 (i:Nat)/\Sl (CX Q (os.drop i) (P.n/2))/\Sl (BH f2 Q (os.drop i) (P.n/2)=BH W 0 os (P.n/2))/\Sl (DocAt w' T j0 P.n f2 a2)/\(j0=q\/w.heap.size<=j0)/\Kp (λ k=>k=T) m8 w') (λ _ y _=>j-(intOf y).toNat)
   case atStart=>exact ⟨0,0,W,q,Nat.zero_le _,rfl,rfl,⟨B8.o⟩,⟨rfl⟩,⟨a3.o.Ac a4.o⟩,.inl rfl,Kr _ _⟩
   case round=>
    obtain⟨i,Q,f2,j0,I,rfl,rfl,n7,n8,p8,z1,f5⟩:=hrel
    have v7:=sE z1
    have v2:=sE f5
    clear z1
    by_cases hij:i<j
    .have F5:(i:Int)<(j:Int):=by omega
     obtain⟨V,j9⟩:∃ V,os[i]?=some V:=⟨os[i]'(by have:=v3.o;omega),by simp⟩
     obtain⟨b,o,rfl,y5,i7,I9,J0⟩:=v9.o i (by omega)
     have z8:=D4.o i V j9
     rw[z8] at i7
     obtain⟨c9,n0,rfl,K6,E1,w3⟩:=B9.o i V j9
     obtain⟨M0,M1,s7,B0⟩:=rising_step j9 n7.o
     have i9:=settle_step (W:=f2) (e:=Q) (H:=P.n/2) j9
     have o8:Sl (BH (Bd f2 Q (V.g-Q)) V.fin (os.drop (i+1)) (P.n/2)=BH W 0 os (P.n/2)):=⟨i9.symm.trans n8.o⟩
     have B6:=sE B0
     have K5:V.g+V.sz<=32768:=by unfold Cel.fin at s7;omega
     have o5:Sl ((V.g:Int)-(Q:Int)=((V.g-Q:Nat):Int)):=⟨by omega⟩
     have n3:¬ b=T:=λ f=>C1.o (by omega) (by rw[f];rfl)
     have p9:¬ c9=T:=by omega
     have s:=f5.cell (a4.o.cell i7 id) n3
     have w2:=f5.cell w3 p9
     have o4:=sE (DR T j0 P.n f2 a2 Q (V.g-Q) wr p8.o (by unfold Cel.fin at s7;omega))
     have H0:w.heap.size<=wr.heap.size:=Nat.le_trans a4.o.size f5.size
     have K1:b<wr.heap.size:=by omega
     have K7:c9<wr.heap.size:=Nat.lt_of_lt_of_le E1 f5.size
     have z3:Sl (IntKind.i64.wrap ((V.g:Int)+(V.sz:Int))=((V.fin:Nat):Int)):=⟨by rw[Cel.fin,IntKind.wrap_i64];omega⟩
     clear i9 z8 i7 w3 f5 n8 n7 s7 B0 j9
     go_wp2_with fail
     rw[o5.o]
     refine o4.o.mono ?_
     rintro e t6 ⟨rfl,i6,j1,k0,f6⟩
     have J5:=f6.cell s n3
     have J6:=f6.cell w2 p9
     have L5:=f6.size
     have o3:Sl (Kp (λ k=>k=T) m8 t6):=⟨v2.o.trans f6 (λ _ _ f=>f)⟩
     have o1:=sE j1
     have o7:Sl (i6=q\/w.heap.size<=i6):=⟨by rcases k0 with f|f;rw [f];exact v7.o;exact .inr (by omega)⟩
     have L6:=z3.o
     clear s w2 j1 k0 f6 p9 n3
     go_wp2_with fail
     go_quiet (fail)
     go_wp2
     exact⟨⟨i+1,V.fin,_,i6,by omega,rfl,by go_num,⟨B6.o⟩,⟨o8.o⟩,⟨o1.o.Ac (Kp.Ah _)⟩,o7.o,o3.o.drewN _⟩,by simp only[intOf];omega⟩
    .have F5:¬ (i:Int)<(j:Int):=by omega
     have y7:os.drop i=[]:=List.drop_eq_nil_of_le (by have:=v3.o;omega)
     have i9:=n8.o
     have q2:=n7.o
     rw[y7] at i9 q2
     have K4:Q<=P.n/2:=q2
     have o8:Sl (Bd f2 Q (P.n/2-Q)=BH W 0 os (P.n/2)):=⟨i9⟩
     have o5:Sl ((P.n:Int)/2-(Q:Int)=((P.n/2-Q:Nat):Int)):=⟨by omega⟩
     have o4:=sE (DR T j0 P.n f2 a2 Q (P.n/2-Q) wr p8.o (by omega))
     obtain⟨f3,c0,r⟩:=p8.o.head
     have H0:w.heap.size<=wr.heap.size:=Nat.le_trans a4.o.size f5.size
     clear i9 q2 y7 n8 n7 f5
     go_wp2_with fail
     rw[o5.o]
     refine o4.o.mono ?_
     rintro e t6 ⟨rfl,i6,j1,k0,f6⟩
     have o3:Sl (Kp (λ k=>k=T) m8 t6):=⟨v2.o.trans f6 (λ _ _ f=>f)⟩
     have o1:=sE j1
     have o7:Sl (i6=q\/w.heap.size<=i6):=⟨by rcases k0 with f|f;rw [f];exact v7.o;exact .inr (by omega)⟩
     clear j1 k0 f6 c0 r
     go_wp2
     exact bodyPost_ret (v:=.int .i64 0) (by simp[results,results101,go_sem]) rfl (.inr ⟨os,B5.o,rfl,(a4.o.Aw _).trans o3.o (λ _ _ f=>f),i6,o7.o,by rw[<- o8.o];exact o1.o⟩)

end

end Go.Proofs.YtfkedlgpgmaemaaGreatDoor
