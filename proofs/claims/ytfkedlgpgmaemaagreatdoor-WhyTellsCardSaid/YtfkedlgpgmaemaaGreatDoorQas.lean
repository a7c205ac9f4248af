/-
  Lemmas for the laws, together: Play4.
-/
import Derived.Test.YtfkedlgpgmaemaaGreatDoorQaq
import Derived.Test.YtfkedlgpgmaemaaGreatDoorQar
import Derived.Test.YtfkedlgpgmaemaaGreatDoorQah
import Derived.Test.YtfkedlgpgmaemaaGreatDoorQai
set_option linter.unusedVariables false
set_option maxHeartbeats 16000000
namespace Go.Proofs.YtfkedlgpgmaemaaGreatDoor
open Tryz
section
open Go.RowKit

def DSettlePost(P:Sp)(W:Nat->Nat)(x:Nat->Int)(len rb q:Nat)(lv:Value)(w:World)(e:Ending)(w':World):Prop:=
 (Bu W P.n P.ts x 0 len 0=none/\e=.returned (.int .i64 2)/\DocAt w' rb q P.n W lv/\Kp Aa w w')\/
 (∃ os,Bu W P.n P.ts x 0 len 0=some os/\e=.returned (.int .i64 0)/\Kp (λ k=>k=rb) w w'/\∃ q',(q'=q\/w.heap.size<=q')/\DocAt w' rb q' P.n (BH W 0 os (P.n/2)) lv)

def SetCutY(c:Cel)(w:World)(a e:Value)(wx:World):Prop:=
 ∃ b1,a=.pointer (some ⟨b1,0,none⟩)/\e=.int .i64 0/\wx.heap[b1]?=some (.cells #[.int .u8 1,c.ty,c.ln,c.sz] 111 (0,0))/\w.heap.size<=b1/\Kp Aa w wx

def SetCutN(w:World)(e:Value)(wx:World):Prop:=∃ E:Int,¬ E=0/\e=.int .i64 E/\Kp Aa w wx

def SetI(P:Sp)(W:Nat->Nat)(x:Nat->Int)(len:Nat)(w:World)(v5 v6 v7:Value)(wr:World):Prop:=
 ∃ (j:Nat) (os:List Cel) (e:Nat),j<=len/\v6=.int .i64 e/\v7=.int .i64 j/\e<=32768/\Sl (Cb W P.n P.ts x len j os e)/\wr.ownsRow w.heap.size 3 1 v5 os.length (Az (os.map Cel.sz))/\Kp Aa w wr

set_option maxRecDepth 20000 in
theorem DSettle_any(P:Sp)(W:Nat->Nat)(rb q:Nat)(lv v:Value)(len:Nat)(x:Nat->Nat->Int)(w:World)(hd:DocAt w rb q P.n W lv)(hv:A8 w lv P.ts)(hl:P.ts.length<=17592186044416)(hM:Cw P.ts)
  (hx:Bw 1 w v len x) (hlen:len<=1000) (hvb:0<len->v.ownBlock≠some rb):
  Calls prog 101 #[.pointer (some rb),v] w (DSettlePost P W (λ i=>x i 0) len rb q lv w):=by
 have hlt:=hd.lt
 have hn:=hd.row.small
 obtain⟨va,vc,rfl,hxs⟩:=ints_at hx
 have HX:=sE hxs
 have HD:=sE hd
 have HV:=sE hv
 have HMs:=sE hM
 have HLl:=sE hl
 have HVB:=sE hvb
 clear hd hv hM hl hx hxs hvb
 go_enter func101,ntmps101
 go_wp2_with fail
 go_loopw [5,6,7] (λ v5 v6 v7 wr=>SetI P W (λ i=>x i 0) len w v5 v6 v7 wr) (λ _ _ y _=>len-(intOf y).toNat)
 case atStart=>exact ⟨0,[],0,Nat.zero_le _,rfl,rfl,Nat.zero_le _,⟨Cb.start _ _ _ _ _⟩,World.ownsRow_nil _ _ _ _,Kr _ _⟩
 case round=>
  obtain⟨j,os,e,hj,rfl,rfl,he,HS,hown,hk⟩:=hrel
  have HO:=sE hown
  have HK:=sE hk
  by_cases hjl:j<len
  .have hjl':(j:Int)<(len:Int):=by omega
   obtain⟨b,o,rfl,hbl,cx0,xb1,xb2⟩:=HX.o j hjl
   have cx:=hk.cell cx0 id
   obtain⟨capr,c0,c1⟩:=(HD.o.Ac hk).head
   have hrb:rb<wr.heap.size:=Nat.lt_of_lt_of_le hlt hk.size
   have hbr:b<wr.heap.size:=Nat.lt_of_lt_of_le hbl hk.size
   have hf:=HD.o.row.fits
   clear hown hk cx0 hf
   cases hc:Cj W P.n P.ts (x j 0) with
   |none=>
    have HF:Sl (Bu W P.n P.ts (λ i=>x i 0) 0 len 0=none):=⟨HS.o.fails hjl (.inl hc)⟩
    have HOf:Sl (∀ W',Kp Aa wr W'->Calls prog 154 #[.slice (some ⟨q,0,none⟩) P.n capr,lv,.int .i64 (x j 0)] W' λ e w'=>∃ E:Int,¬ E=0/\e=.returned (.tuple #[.agg #[.int .u8 0,(0:Int),(0:Int),(0:Int)],.agg #[.int .u8 0,(0:Int),.int .u64 0],.int .i64 E])/\Kp Aa W' w'):=⟨λ W' kk=>by
     refine(DOf_any (x j 0) q P.n capr W lv P.ts W' (HD.o.row.Ac (HK.o.then' kk)) (HV.o.Ac (HK.o.then' kk)) HLl.o HMs.o).mono λ e w' hp=>?_
     unfold El at hp
     rw[hc] at hp
     exact hp⟩
    clear hc
    go_upto_region 6 with fail
    go_cut [8,9,10] from 18 to 34 (λ _ _ e wx=>SetCutN wr e wx)
    case first=>
     have kk0:Kp Aa wr wr.drew:=(Kr _ _).drew
     refine wp_region_held_drew (S:=(λ w'=>w'.cell? rb=some (.slice (some ⟨q,0,none⟩) P.n capr)/\w'.cell? ⟨rb,1,none⟩=some lv/\w'.cell? ⟨b,o+j,none⟩=some (.int .i64 (x j 0)))) (by kernel_rfl) ?_ (λ qZ=>?_)
     .exact ⟨Kz c0,Kz c1,Kz cx⟩
     refine Ap 0 ?_;refine Ap 1 ?_;refine Ap 2 ?_;refine Ap 3 ?_;refine Ap 4 ?_;refine Ap 5 ?_;refine Ap 6 ?_;refine Ap 7 ?_;refine Ap 8 ?_;refine Ap 9 ?_;refine Ap 10 ?_;refine Ap 11 ?_
     try simp only[AB]
     refine Bp [12,17,18] ?_
     refine Ai rfl (λ K hK=>?_) ?_
     .go_simp
      with_reducible refine(HOf.o _ kk0).mono ?_
      rintro e wc1 ⟨E,hE,rfl,kc2⟩
      have HE:=sE hE
      clear hE
      have kk3:=kk0.then' kc2
      refine hK _ _ ?_ (λ qZ=>?_)
      .exact ⟨Kz c0,Kz c1,Kz cx⟩
      clear hK K
      try simp only[AB]
      refine Ap 13 ?_;refine Ap 14 ?_;refine Ap 15 ?_;refine Ap 16 ?_
      try simp only[AB]
      refine Bp [17,18] ?_
      refine Ai rfl (λ K hK=>?_) ?_
      .go_simp
       obtain⟨wa4,hw5⟩:∃ wa4,wa4=World.alloc wc1 (.cells #[.int .u8 0,(0:Int),(0:Int),(0:Int)] 111):=⟨_,rfl⟩
       rw[<- hw5]
       have ka6:Kp Aa wc1 wa4:=by rw[hw5];exact ((Kr _ _).alloc _)
       have hge8:wr.heap.size<=wc1.heap.size:=kk3.size
       have hb7:wa4.heap[wc1.heap.size]?=some (.cells #[.int .u8 0,(0:Int),(0:Int),(0:Int)] 111 (0,0)):=by rw[hw5];exact wN _ _
       have hl9:wc1.heap.size<wa4.heap.size:=lZ hb7
       have kk10:=kk3.then' ka6
       have HW11:=sE hw5
       clear hw5
       refine hK _ _ ?_ (λ qZ=>?_)
       .exact ⟨Kz c0,Kz c1,Kz cx⟩
       clear hK K
       try simp only[AB]
       refine Bp [18] ?_
       refine Ai rfl (λ K hK=>?_) ?_
       .go_simp
        obtain⟨wa12,hw13⟩:∃ wa12,wa12=World.alloc wa4 (.cells #[.int .u8 0,(0:Int),.int .u64 0] 106):=⟨_,rfl⟩
        rw[<- hw13]
        have ka14:Kp Aa wa4 wa12:=by rw[hw13];exact ((Kr _ _).alloc _)
        have hge16:wr.heap.size<=wa4.heap.size:=kk10.size
        have hb15:wa12.heap[wa4.heap.size]?=some (.cells #[.int .u8 0,(0:Int),.int .u64 0] 106 (0,0)):=by rw[hw13];exact wN _ _
        have hl17:wa4.heap.size<wa12.heap.size:=lZ hb15
        have hx18:=lZ hb7
        have hb19:=ka14.at_ hb7 id
        have kk20:=kk10.then' ka14
        have HW21:=sE hw13
        clear hw13
        refine hK _ _ ?_ (λ qZ=>?_)
        .exact ⟨Kz c0,Kz c1,Kz cx⟩
        clear hK K
        try simp only[AB]
        have hsz:=lZ hb19
        obtain⟨d0,d1,d2,d3⟩:=Ay hb19
        have f0:=Ab hb19;have f00:=f0 0;have f01:=f0 1;have f02:=f0 2;have f03:=f0 3
        refine Bp [19] ?_
        refine Ag rfl (λ K hK=>?_)
        clear f0
        go_simp
        obtain⟨wz22,hz23⟩:∃ wz22,wz22=World.setCell (World.setCell (World.setCell (World.setCell (wa12) ⟨wc1.heap.size,0,none⟩ (.int .u8 0)) ⟨wc1.heap.size,1,none⟩ (.int .i64 0)) ⟨wc1.heap.size,2,none⟩ (.int .i64 0)) ⟨wc1.heap.size,3,none⟩ (.int .i64 0):=⟨_,rfl⟩
        rw[<- hz23]
        obtain⟨tz24,kz25⟩:=BC hb19 _ _ _ _ wz22 hz23
        have hb26:=kz25.at_ hb15 (λ h=>by have h':wa4.heap.size=wc1.heap.size:=h;omega)
        have kk27:Kp Aa wr wz22:=kk20.trans kz25 (λ i hi h=>by have h':i=wc1.heap.size:=h;(try have hq:=Nat.le_of_eq h');(first|omega|(simp only[World.size_drew] at *;omega)))
        clear hz23 d0 f00 d1 f01 d2 f02 d3 f03
        refine hK _ _ ?_ (λ qZ=>?_)
        .exact ⟨Kz c0,Kz c1,Kz cx⟩
        clear hK K
        try simp only[AB]
        have hsz:=lZ hb26
        obtain⟨d0,d1,d2⟩:=cells3 hb26
        have f0:=Ab hb26;have f00:=f0 0;have f01:=f0 1;have f02:=f0 2
        refine Bp [20] ?_
        refine Ag rfl (λ K hK=>?_)
        clear f0
        go_simp
        obtain⟨wz28,hz29⟩:∃ wz28,wz28=World.setCell (World.setCell (World.setCell (wz22) ⟨wa4.heap.size,0,none⟩ (.int .u8 0)) ⟨wa4.heap.size,1,none⟩ (.int .i64 0)) ⟨wa4.heap.size,2,none⟩ (.int .u64 0):=⟨_,rfl⟩
        rw[<- hz29]
        obtain⟨tz30,kz31⟩:=BL hb26 _ _ _ wz28 hz29
        have hb32:=kz31.at_ tz24 (λ h=>by have h':wc1.heap.size=wa4.heap.size:=h;omega)
        have kk33:Kp Aa wr wz28:=kk27.trans kz31 (λ i hi h=>by have h':i=wa4.heap.size:=h;(try have hq:=Nat.le_of_eq h');(first|omega|(simp only[World.size_drew] at *;omega)))
        clear hz29 d0 f00 d1 f01 d2 f02
        refine hK _ _ ?_ (λ qZ=>?_)
        .exact ⟨Kz c0,Kz c1,Kz cx⟩
        clear hK K
        try simp only[AB]
        refine Ap 21 ?_
        try simp only[AB]
        refine wpAnyH_done (by kernel_rfl) ?_ _
        go_wp2_with fail
        go_meet
        exact⟨E,HE.o,rfl,kk33⟩
       exact AllReadyH.nil
      refine Ai rfl (λ K hK=>?_) ?_
      .go_simp
       obtain⟨wa34,hw35⟩:∃ wa34,wa34=World.alloc wc1 (.cells #[.int .u8 0,(0:Int),.int .u64 0] 106):=⟨_,rfl⟩
       rw[<- hw35]
       have ka36:Kp Aa wc1 wa34:=by rw[hw35];exact ((Kr _ _).alloc _)
       have hge38:wr.heap.size<=wc1.heap.size:=kk3.size
       have hb37:wa34.heap[wc1.heap.size]?=some (.cells #[.int .u8 0,(0:Int),.int .u64 0] 106 (0,0)):=by rw[hw35];exact wN _ _
       have hl39:wc1.heap.size<wa34.heap.size:=lZ hb37
       have kk40:=kk3.then' ka36
       have HW41:=sE hw35
       clear hw35
       refine hK _ _ ?_ (λ qZ=>?_)
       .exact ⟨Kz c0,Kz c1,Kz cx⟩
       clear hK K
       try simp only[AB]
       refine Bp [17] ?_
       refine Ai rfl (λ K hK=>?_) ?_
       .go_simp
        obtain⟨wa42,hw43⟩:∃ wa42,wa42=World.alloc wa34 (.cells #[.int .u8 0,(0:Int),(0:Int),(0:Int)] 111):=⟨_,rfl⟩
        rw[<- hw43]
        have ka44:Kp Aa wa34 wa42:=by rw[hw43];exact ((Kr _ _).alloc _)
        have hge46:wr.heap.size<=wa34.heap.size:=kk40.size
        have hb45:wa42.heap[wa34.heap.size]?=some (.cells #[.int .u8 0,(0:Int),(0:Int),(0:Int)] 111 (0,0)):=by rw[hw43];exact wN _ _
        have hl47:wa34.heap.size<wa42.heap.size:=lZ hb45
        have hx48:=lZ hb37
        have hb49:=ka44.at_ hb37 id
        have kk50:=kk40.then' ka44
        have HW51:=sE hw43
        clear hw43
        refine hK _ _ ?_ (λ qZ=>?_)
        .exact ⟨Kz c0,Kz c1,Kz cx⟩
        clear hK K
        try simp only[AB]
        have hsz:=lZ hb45
        obtain⟨d0,d1,d2,d3⟩:=Ay hb45
        have f0:=Ab hb45;have f00:=f0 0;have f01:=f0 1;have f02:=f0 2;have f03:=f0 3
        refine Bp [19] ?_
        refine Ag rfl (λ K hK=>?_)
        clear f0
        go_simp
        obtain⟨wz52,hz53⟩:∃ wz52,wz52=World.setCell (World.setCell (World.setCell (World.setCell (wa42) ⟨wa34.heap.size,0,none⟩ (.int .u8 0)) ⟨wa34.heap.size,1,none⟩ (.int .i64 0)) ⟨wa34.heap.size,2,none⟩ (.int .i64 0)) ⟨wa34.heap.size,3,none⟩ (.int .i64 0):=⟨_,rfl⟩
        rw[<- hz53]
        obtain⟨tz54,kz55⟩:=BC hb45 _ _ _ _ wz52 hz53
        have hb56:=kz55.at_ hb49 (λ h=>by have h':wc1.heap.size=wa34.heap.size:=h;omega)
        have kk57:Kp Aa wr wz52:=kk50.trans kz55 (λ i hi h=>by have h':i=wa34.heap.size:=h;(try have hq:=Nat.le_of_eq h');(first|omega|(simp only[World.size_drew] at *;omega)))
        clear hz53 d0 f00 d1 f01 d2 f02 d3 f03
        refine hK _ _ ?_ (λ qZ=>?_)
        .exact ⟨Kz c0,Kz c1,Kz cx⟩
        clear hK K
        try simp only[AB]
        have hsz:=lZ hb56
        obtain⟨d0,d1,d2⟩:=cells3 hb56
        have f0:=Ab hb56;have f00:=f0 0;have f01:=f0 1;have f02:=f0 2
        refine Bp [20] ?_
        refine Ag rfl (λ K hK=>?_)
        clear f0
        go_simp
        obtain⟨wz58,hz59⟩:∃ wz58,wz58=World.setCell (World.setCell (World.setCell (wz52) ⟨wc1.heap.size,0,none⟩ (.int .u8 0)) ⟨wc1.heap.size,1,none⟩ (.int .i64 0)) ⟨wc1.heap.size,2,none⟩ (.int .u64 0):=⟨_,rfl⟩
        rw[<- hz59]
        obtain⟨tz60,kz61⟩:=BL hb56 _ _ _ wz58 hz59
        have hb62:=kz61.at_ tz54 (λ h=>by have h':wa34.heap.size=wc1.heap.size:=h;omega)
        have kk63:Kp Aa wr wz58:=kk57.trans kz61 (λ i hi h=>by have h':i=wc1.heap.size:=h;(try have hq:=Nat.le_of_eq h');(first|omega|(simp only[World.size_drew] at *;omega)))
        clear hz59 d0 f00 d1 f01 d2 f02
        refine hK _ _ ?_ (λ qZ=>?_)
        .exact ⟨Kz c0,Kz c1,Kz cx⟩
        clear hK K
        try simp only[AB]
        refine Ap 21 ?_
        try simp only[AB]
        refine wpAnyH_done (by kernel_rfl) ?_ _
        go_wp2_with fail
        go_meet
        exact⟨E,HE.o,rfl,kk63⟩
       exact AllReadyH.nil
      exact AllReadyH.nil
     refine Ai rfl (λ K hK=>?_) ?_
     .go_simp
      obtain⟨wa64,hw65⟩:∃ wa64,wa64=World.drew (World.alloc wr (.cells #[.int .u8 0,(0:Int),(0:Int),(0:Int)] 111)):=⟨_,rfl⟩
      rw[<- hw65]
      have ka66:Kp Aa wr wa64:=by rw[hw65];exact ((Kr _ _).alloc _).drew
      have hge68:wr.heap.size<=wr.heap.size:=kk0.size
      have hb67:wa64.heap[wr.heap.size]?=some (.cells #[.int .u8 0,(0:Int),(0:Int),(0:Int)] 111 (0,0)):=by rw[hw65];exact wN _ _
      have hl69:wr.heap.size<wa64.heap.size:=lZ hb67
      have kk70:=ka66
      have HW71:=sE hw65
      clear hw65
      refine hK _ _ ?_ (λ qZ=>?_)
      .exact ⟨Kz c0,Kz c1,Kz cx⟩
      clear hK K
      try simp only[AB]
      refine Bp [12,18] ?_
      refine Ai rfl (λ K hK=>?_) ?_
      .go_simp
       with_reducible refine(HOf.o _ kk70).mono ?_
       rintro e wc72 ⟨E,hE,rfl,kc73⟩
       have HE:=sE hE
       clear hE
       have hb74:=kc73.at_ hb67 id
       have kk75:=kk70.then' kc73
       refine hK _ _ ?_ (λ qZ=>?_)
       .exact ⟨Kz c0,Kz c1,Kz cx⟩
       clear hK K
       try simp only[AB]
       refine Ap 13 ?_;refine Ap 14 ?_;refine Ap 15 ?_;refine Ap 16 ?_
       try simp only[AB]
       refine Bp [18] ?_
       refine Ai rfl (λ K hK=>?_) ?_
       .go_simp
        obtain⟨wa76,hw77⟩:∃ wa76,wa76=World.alloc wc72 (.cells #[.int .u8 0,(0:Int),.int .u64 0] 106):=⟨_,rfl⟩
        rw[<- hw77]
        have ka78:Kp Aa wc72 wa76:=by rw[hw77];exact ((Kr _ _).alloc _)
        have hge80:wr.heap.size<=wc72.heap.size:=kk75.size
        have hb79:wa76.heap[wc72.heap.size]?=some (.cells #[.int .u8 0,(0:Int),.int .u64 0] 106 (0,0)):=by rw[hw77];exact wN _ _
        have hl81:wc72.heap.size<wa76.heap.size:=lZ hb79
        have hx82:=lZ hb74
        have hb83:=ka78.at_ hb74 id
        have kk84:=kk75.then' ka78
        have HW85:=sE hw77
        clear hw77
        refine hK _ _ ?_ (λ qZ=>?_)
        .exact ⟨Kz c0,Kz c1,Kz cx⟩
        clear hK K
        try simp only[AB]
        have hsz:=lZ hb83
        obtain⟨d0,d1,d2,d3⟩:=Ay hb83
        have f0:=Ab hb83;have f00:=f0 0;have f01:=f0 1;have f02:=f0 2;have f03:=f0 3
        refine Bp [19] ?_
        refine Ag rfl (λ K hK=>?_)
        clear f0
        go_simp
        obtain⟨wz86,hz87⟩:∃ wz86,wz86=World.setCell (World.setCell (World.setCell (World.setCell (wa76) ⟨wr.heap.size,0,none⟩ (.int .u8 0)) ⟨wr.heap.size,1,none⟩ (.int .i64 0)) ⟨wr.heap.size,2,none⟩ (.int .i64 0)) ⟨wr.heap.size,3,none⟩ (.int .i64 0):=⟨_,rfl⟩
        rw[<- hz87]
        obtain⟨tz88,kz89⟩:=BC hb83 _ _ _ _ wz86 hz87
        have hb90:=kz89.at_ hb79 (λ h=>by have h':wc72.heap.size=wr.heap.size:=h;omega)
        have kk91:Kp Aa wr wz86:=kk84.trans kz89 (λ i hi h=>by have h':i=wr.heap.size:=h;(try have hq:=Nat.le_of_eq h');(first|omega|(simp only[World.size_drew] at *;omega)))
        clear hz87 d0 f00 d1 f01 d2 f02 d3 f03
        refine hK _ _ ?_ (λ qZ=>?_)
        .exact ⟨Kz c0,Kz c1,Kz cx⟩
        clear hK K
        try simp only[AB]
        have hsz:=lZ hb90
        obtain⟨d0,d1,d2⟩:=cells3 hb90
        have f0:=Ab hb90;have f00:=f0 0;have f01:=f0 1;have f02:=f0 2
        refine Bp [20] ?_
        refine Ag rfl (λ K hK=>?_)
        clear f0
        go_simp
        obtain⟨wz92,hz93⟩:∃ wz92,wz92=World.setCell (World.setCell (World.setCell (wz86) ⟨wc72.heap.size,0,none⟩ (.int .u8 0)) ⟨wc72.heap.size,1,none⟩ (.int .i64 0)) ⟨wc72.heap.size,2,none⟩ (.int .u64 0):=⟨_,rfl⟩
        rw[<- hz93]
        obtain⟨tz94,kz95⟩:=BL hb90 _ _ _ wz92 hz93
        have hb96:=kz95.at_ tz88 (λ h=>by have h':wr.heap.size=wc72.heap.size:=h;omega)
        have kk97:Kp Aa wr wz92:=kk91.trans kz95 (λ i hi h=>by have h':i=wc72.heap.size:=h;(try have hq:=Nat.le_of_eq h');(first|omega|(simp only[World.size_drew] at *;omega)))
        clear hz93 d0 f00 d1 f01 d2 f02
        refine hK _ _ ?_ (λ qZ=>?_)
        .exact ⟨Kz c0,Kz c1,Kz cx⟩
        clear hK K
        try simp only[AB]
        refine Ap 21 ?_
        try simp only[AB]
        refine wpAnyH_done (by kernel_rfl) ?_ _
        go_wp2_with fail
        go_meet
        exact⟨E,HE.o,rfl,kk97⟩
       exact AllReadyH.nil
      refine Ai rfl (λ K hK=>?_) ?_
      .go_simp
       obtain⟨wa98,hw99⟩:∃ wa98,wa98=World.alloc wa64 (.cells #[.int .u8 0,(0:Int),.int .u64 0] 106):=⟨_,rfl⟩
       rw[<- hw99]
       have ka100:Kp Aa wa64 wa98:=by rw[hw99];exact ((Kr _ _).alloc _)
       have hge102:wr.heap.size<=wa64.heap.size:=kk70.size
       have hb101:wa98.heap[wa64.heap.size]?=some (.cells #[.int .u8 0,(0:Int),.int .u64 0] 106 (0,0)):=by rw[hw99];exact wN _ _
       have hl103:wa64.heap.size<wa98.heap.size:=lZ hb101
       have hx104:=lZ hb67
       have hb105:=ka100.at_ hb67 id
       have kk106:=kk70.then' ka100
       have HW107:=sE hw99
       clear hw99
       refine hK _ _ ?_ (λ qZ=>?_)
       .exact ⟨Kz c0,Kz c1,Kz cx⟩
       clear hK K
       try simp only[AB]
       refine Bp [12] ?_
       refine Ai rfl (λ K hK=>?_) ?_
       .go_simp
        with_reducible refine(HOf.o _ kk106).mono ?_
        rintro e wc108 ⟨E,hE,rfl,kc109⟩
        have HE:=sE hE
        clear hE
        have hb110:=kc109.at_ hb105 id
        have hb111:=kc109.at_ hb101 id
        have kk112:=kk106.then' kc109
        refine hK _ _ ?_ (λ qZ=>?_)
        .exact ⟨Kz c0,Kz c1,Kz cx⟩
        clear hK K
        try simp only[AB]
        refine Ap 13 ?_;refine Ap 14 ?_;refine Ap 15 ?_;refine Ap 16 ?_
        try simp only[AB]
        have hsz:=lZ hb110
        obtain⟨d0,d1,d2,d3⟩:=Ay hb110
        have f0:=Ab hb110;have f00:=f0 0;have f01:=f0 1;have f02:=f0 2;have f03:=f0 3
        refine Bp [19] ?_
        refine Ag rfl (λ K hK=>?_)
        clear f0
        go_simp
        obtain⟨wz113,hz114⟩:∃ wz113,wz113=World.setCell (World.setCell (World.setCell (World.setCell (wc108) ⟨wr.heap.size,0,none⟩ (.int .u8 0)) ⟨wr.heap.size,1,none⟩ (.int .i64 0)) ⟨wr.heap.size,2,none⟩ (.int .i64 0)) ⟨wr.heap.size,3,none⟩ (.int .i64 0):=⟨_,rfl⟩
        rw[<- hz114]
        obtain⟨tz115,kz116⟩:=BC hb110 _ _ _ _ wz113 hz114
        have hb117:=kz116.at_ hb111 (λ h=>by have h':wa64.heap.size=wr.heap.size:=h;omega)
        have kk118:Kp Aa wr wz113:=kk112.trans kz116 (λ i hi h=>by have h':i=wr.heap.size:=h;(try have hq:=Nat.le_of_eq h');(first|omega|(simp only[World.size_drew] at *;omega)))
        clear hz114 d0 f00 d1 f01 d2 f02 d3 f03
        refine hK _ _ ?_ (λ qZ=>?_)
        .exact ⟨Kz c0,Kz c1,Kz cx⟩
        clear hK K
        try simp only[AB]
        have hsz:=lZ hb117
        obtain⟨d0,d1,d2⟩:=cells3 hb117
        have f0:=Ab hb117;have f00:=f0 0;have f01:=f0 1;have f02:=f0 2
        refine Bp [20] ?_
        refine Ag rfl (λ K hK=>?_)
        clear f0
        go_simp
        obtain⟨wz119,hz120⟩:∃ wz119,wz119=World.setCell (World.setCell (World.setCell (wz113) ⟨wa64.heap.size,0,none⟩ (.int .u8 0)) ⟨wa64.heap.size,1,none⟩ (.int .i64 0)) ⟨wa64.heap.size,2,none⟩ (.int .u64 0):=⟨_,rfl⟩
        rw[<- hz120]
        obtain⟨tz121,kz122⟩:=BL hb117 _ _ _ wz119 hz120
        have hb123:=kz122.at_ tz115 (λ h=>by have h':wr.heap.size=wa64.heap.size:=h;omega)
        have kk124:Kp Aa wr wz119:=kk118.trans kz122 (λ i hi h=>by have h':i=wa64.heap.size:=h;(try have hq:=Nat.le_of_eq h');(first|omega|(simp only[World.size_drew] at *;omega)))
        clear hz120 d0 f00 d1 f01 d2 f02
        refine hK _ _ ?_ (λ qZ=>?_)
        .exact ⟨Kz c0,Kz c1,Kz cx⟩
        clear hK K
        try simp only[AB]
        refine Ap 21 ?_
        try simp only[AB]
        refine wpAnyH_done (by kernel_rfl) ?_ _
        go_wp2_with fail
        go_meet
        exact⟨E,HE.o,rfl,kk124⟩
       exact AllReadyH.nil
      exact AllReadyH.nil
     refine Ai rfl (λ K hK=>?_) ?_
     .go_simp
      obtain⟨wa125,hw126⟩:∃ wa125,wa125=World.drew (World.alloc wr (.cells #[.int .u8 0,(0:Int),.int .u64 0] 106)):=⟨_,rfl⟩
      rw[<- hw126]
      have ka127:Kp Aa wr wa125:=by rw[hw126];exact ((Kr _ _).alloc _).drew
      have hge129:wr.heap.size<=wr.heap.size:=kk0.size
      have hb128:wa125.heap[wr.heap.size]?=some (.cells #[.int .u8 0,(0:Int),.int .u64 0] 106 (0,0)):=by rw[hw126];exact wN _ _
      have hl130:wr.heap.size<wa125.heap.size:=lZ hb128
      have kk131:=ka127
      have HW132:=sE hw126
      clear hw126
      refine hK _ _ ?_ (λ qZ=>?_)
      .exact ⟨Kz c0,Kz c1,Kz cx⟩
      clear hK K
      try simp only[AB]
      refine Bp [12,17] ?_
      refine Ai rfl (λ K hK=>?_) ?_
      .go_simp
       with_reducible refine(HOf.o _ kk131).mono ?_
       rintro e wc133 ⟨E,hE,rfl,kc134⟩
       have HE:=sE hE
       clear hE
       have hb135:=kc134.at_ hb128 id
       have kk136:=kk131.then' kc134
       refine hK _ _ ?_ (λ qZ=>?_)
       .exact ⟨Kz c0,Kz c1,Kz cx⟩
       clear hK K
       try simp only[AB]
       refine Ap 13 ?_;refine Ap 14 ?_;refine Ap 15 ?_;refine Ap 16 ?_
       try simp only[AB]
       refine Bp [17] ?_
       refine Ai rfl (λ K hK=>?_) ?_
       .go_simp
        obtain⟨wa137,hw138⟩:∃ wa137,wa137=World.alloc wc133 (.cells #[.int .u8 0,(0:Int),(0:Int),(0:Int)] 111):=⟨_,rfl⟩
        rw[<- hw138]
        have ka139:Kp Aa wc133 wa137:=by rw[hw138];exact ((Kr _ _).alloc _)
        have hge141:wr.heap.size<=wc133.heap.size:=kk136.size
        have hb140:wa137.heap[wc133.heap.size]?=some (.cells #[.int .u8 0,(0:Int),(0:Int),(0:Int)] 111 (0,0)):=by rw[hw138];exact wN _ _
        have hl142:wc133.heap.size<wa137.heap.size:=lZ hb140
        have hx143:=lZ hb135
        have hb144:=ka139.at_ hb135 id
        have kk145:=kk136.then' ka139
        have HW146:=sE hw138
        clear hw138
        refine hK _ _ ?_ (λ qZ=>?_)
        .exact ⟨Kz c0,Kz c1,Kz cx⟩
        clear hK K
        try simp only[AB]
        have hsz:=lZ hb140
        obtain⟨d0,d1,d2,d3⟩:=Ay hb140
        have f0:=Ab hb140;have f00:=f0 0;have f01:=f0 1;have f02:=f0 2;have f03:=f0 3
        refine Bp [19] ?_
        refine Ag rfl (λ K hK=>?_)
        clear f0
        go_simp
        obtain⟨wz147,hz148⟩:∃ wz147,wz147=World.setCell (World.setCell (World.setCell (World.setCell (wa137) ⟨wc133.heap.size,0,none⟩ (.int .u8 0)) ⟨wc133.heap.size,1,none⟩ (.int .i64 0)) ⟨wc133.heap.size,2,none⟩ (.int .i64 0)) ⟨wc133.heap.size,3,none⟩ (.int .i64 0):=⟨_,rfl⟩
        rw[<- hz148]
        obtain⟨tz149,kz150⟩:=BC hb140 _ _ _ _ wz147 hz148
        have hb151:=kz150.at_ hb144 (λ h=>by have h':wr.heap.size=wc133.heap.size:=h;omega)
        have kk152:Kp Aa wr wz147:=kk145.trans kz150 (λ i hi h=>by have h':i=wc133.heap.size:=h;(try have hq:=Nat.le_of_eq h');(first|omega|(simp only[World.size_drew] at *;omega)))
        clear hz148 d0 f00 d1 f01 d2 f02 d3 f03
        refine hK _ _ ?_ (λ qZ=>?_)
        .exact ⟨Kz c0,Kz c1,Kz cx⟩
        clear hK K
        try simp only[AB]
        have hsz:=lZ hb151
        obtain⟨d0,d1,d2⟩:=cells3 hb151
        have f0:=Ab hb151;have f00:=f0 0;have f01:=f0 1;have f02:=f0 2
        refine Bp [20] ?_
        refine Ag rfl (λ K hK=>?_)
        clear f0
        go_simp
        obtain⟨wz153,hz154⟩:∃ wz153,wz153=World.setCell (World.setCell (World.setCell (wz147) ⟨wr.heap.size,0,none⟩ (.int .u8 0)) ⟨wr.heap.size,1,none⟩ (.int .i64 0)) ⟨wr.heap.size,2,none⟩ (.int .u64 0):=⟨_,rfl⟩
        rw[<- hz154]
        obtain⟨tz155,kz156⟩:=BL hb151 _ _ _ wz153 hz154
        have hb157:=kz156.at_ tz149 (λ h=>by have h':wc133.heap.size=wr.heap.size:=h;omega)
        have kk158:Kp Aa wr wz153:=kk152.trans kz156 (λ i hi h=>by have h':i=wr.heap.size:=h;(try have hq:=Nat.le_of_eq h');(first|omega|(simp only[World.size_drew] at *;omega)))
        clear hz154 d0 f00 d1 f01 d2 f02
        refine hK _ _ ?_ (λ qZ=>?_)
        .exact ⟨Kz c0,Kz c1,Kz cx⟩
        clear hK K
        try simp only[AB]
        refine Ap 21 ?_
        try simp only[AB]
        refine wpAnyH_done (by kernel_rfl) ?_ _
        go_wp2_with fail
        go_meet
        exact⟨E,HE.o,rfl,kk158⟩
       exact AllReadyH.nil
      refine Ai rfl (λ K hK=>?_) ?_
      .go_simp
       obtain⟨wa159,hw160⟩:∃ wa159,wa159=World.alloc wa125 (.cells #[.int .u8 0,(0:Int),(0:Int),(0:Int)] 111):=⟨_,rfl⟩
       rw[<- hw160]
       have ka161:Kp Aa wa125 wa159:=by rw[hw160];exact ((Kr _ _).alloc _)
       have hge163:wr.heap.size<=wa125.heap.size:=kk131.size
       have hb162:wa159.heap[wa125.heap.size]?=some (.cells #[.int .u8 0,(0:Int),(0:Int),(0:Int)] 111 (0,0)):=by rw[hw160];exact wN _ _
       have hl164:wa125.heap.size<wa159.heap.size:=lZ hb162
       have hx165:=lZ hb128
       have hb166:=ka161.at_ hb128 id
       have kk167:=kk131.then' ka161
       have HW168:=sE hw160
       clear hw160
       refine hK _ _ ?_ (λ qZ=>?_)
       .exact ⟨Kz c0,Kz c1,Kz cx⟩
       clear hK K
       try simp only[AB]
       refine Bp [12] ?_
       refine Ai rfl (λ K hK=>?_) ?_
       .go_simp
        with_reducible refine(HOf.o _ kk167).mono ?_
        rintro e wc169 ⟨E,hE,rfl,kc170⟩
        have HE:=sE hE
        clear hE
        have hb171:=kc170.at_ hb166 id
        have hb172:=kc170.at_ hb162 id
        have kk173:=kk167.then' kc170
        refine hK _ _ ?_ (λ qZ=>?_)
        .exact ⟨Kz c0,Kz c1,Kz cx⟩
        clear hK K
        try simp only[AB]
        refine Ap 13 ?_;refine Ap 14 ?_;refine Ap 15 ?_;refine Ap 16 ?_
        try simp only[AB]
        have hsz:=lZ hb172
        obtain⟨d0,d1,d2,d3⟩:=Ay hb172
        have f0:=Ab hb172;have f00:=f0 0;have f01:=f0 1;have f02:=f0 2;have f03:=f0 3
        refine Bp [19] ?_
        refine Ag rfl (λ K hK=>?_)
        clear f0
        go_simp
        obtain⟨wz174,hz175⟩:∃ wz174,wz174=World.setCell (World.setCell (World.setCell (World.setCell (wc169) ⟨wa125.heap.size,0,none⟩ (.int .u8 0)) ⟨wa125.heap.size,1,none⟩ (.int .i64 0)) ⟨wa125.heap.size,2,none⟩ (.int .i64 0)) ⟨wa125.heap.size,3,none⟩ (.int .i64 0):=⟨_,rfl⟩
        rw[<- hz175]
        obtain⟨tz176,kz177⟩:=BC hb172 _ _ _ _ wz174 hz175
        have hb178:=kz177.at_ hb171 (λ h=>by have h':wr.heap.size=wa125.heap.size:=h;omega)
        have kk179:Kp Aa wr wz174:=kk173.trans kz177 (λ i hi h=>by have h':i=wa125.heap.size:=h;(try have hq:=Nat.le_of_eq h');(first|omega|(simp only[World.size_drew] at *;omega)))
        clear hz175 d0 f00 d1 f01 d2 f02 d3 f03
        refine hK _ _ ?_ (λ qZ=>?_)
        .exact ⟨Kz c0,Kz c1,Kz cx⟩
        clear hK K
        try simp only[AB]
        have hsz:=lZ hb178
        obtain⟨d0,d1,d2⟩:=cells3 hb178
        have f0:=Ab hb178;have f00:=f0 0;have f01:=f0 1;have f02:=f0 2
        refine Bp [20] ?_
        refine Ag rfl (λ K hK=>?_)
        clear f0
        go_simp
        obtain⟨wz180,hz181⟩:∃ wz180,wz180=World.setCell (World.setCell (World.setCell (wz174) ⟨wr.heap.size,0,none⟩ (.int .u8 0)) ⟨wr.heap.size,1,none⟩ (.int .i64 0)) ⟨wr.heap.size,2,none⟩ (.int .u64 0):=⟨_,rfl⟩
        rw[<- hz181]
        obtain⟨tz182,kz183⟩:=BL hb178 _ _ _ wz180 hz181
        have hb184:=kz183.at_ tz176 (λ h=>by have h':wa125.heap.size=wr.heap.size:=h;omega)
        have kk185:Kp Aa wr wz180:=kk179.trans kz183 (λ i hi h=>by have h':i=wr.heap.size:=h;(try have hq:=Nat.le_of_eq h');(first|omega|(simp only[World.size_drew] at *;omega)))
        clear hz181 d0 f00 d1 f01 d2 f02
        refine hK _ _ ?_ (λ qZ=>?_)
        .exact ⟨Kz c0,Kz c1,Kz cx⟩
        clear hK K
        try simp only[AB]
        refine Ap 21 ?_
        try simp only[AB]
        refine wpAnyH_done (by kernel_rfl) ?_ _
        go_wp2_with fail
        go_meet
        exact⟨E,HE.o,rfl,kk185⟩
       exact AllReadyH.nil
      exact AllReadyH.nil
     exact AllReadyH.nil
    case rest=>
     obtain⟨E,hE,rfl,kx⟩:=hcut
     have hb:(E !=0)=true:=by simpa using hE
     have HKF:=HK.o.then' kx
     clear hE c0 c1 cx
     go_wp2
     exact bodyPost_ret (v:=.int .i64 2) (by simp[results,results101,go_sem]) rfl (.inl ⟨HF.o,rfl,HD.o.Ac HKF,HKF⟩)
   |some c=>
    have hf:=HD.o.row.fits
    obtain⟨g1,g2,g3,g4,g5,g6⟩:=Eg hc hf
    obtain⟨k,wds,m,hty⟩:=Fs (g6.2 g2).1
    have HT:=sE hty
    have HOf:Sl (∀ W',Kp Aa wr W'->Calls prog 154 #[.slice (some ⟨q,0,none⟩) P.n capr,lv,.int .i64 (x j 0)] W' (RK (.tuple #[.agg #[.int .u8 1,c.ty,c.ln,c.sz],.agg #[.int .u8 k,.int .i64 wds,.int .u64 m],(0:Int)]) W')):=⟨λ W' kk=>by
     refine(DOf_any (x j 0) q P.n capr W lv P.ts W' (HD.o.row.Ac (HK.o.then' kk)) (HV.o.Ac (HK.o.then' kk)) HLl.o HMs.o).mono λ e w' hp=>?_
     unfold El at hp
     rw[hc] at hp
     obtain⟨k',wds',m',h1,h2,h3⟩:=hp
     rw[HT.o] at h1
     injection h1 with h1
     injection h1 with h1 h1' h1''
     subst h1 h1' h1''
     exact⟨h2,h3⟩⟩
    have hcb:c.g+c.sz<=32768:=by unfold Cel.fin at g4;omega
    have HC:=sE hc
    have HG1:=sE g1
    clear hc hf g2 g5 g6 hty g4
    go_upto_region 6 with fail
    go_cut [8,9,10] from 18 to 34 (λ a _ e wx=>SetCutY c wr a e wx)
    case first=>
     clear g1
     have kk0:Kp Aa wr wr.drew:=(Kr _ _).drew
     refine wp_region_held_drew (S:=(λ w'=>w'.cell? rb=some (.slice (some ⟨q,0,none⟩) P.n capr)/\w'.cell? ⟨rb,1,none⟩=some lv/\w'.cell? ⟨b,o+j,none⟩=some (.int .i64 (x j 0)))) (by kernel_rfl) ?_ (λ qZ=>?_)
     .exact ⟨Kz c0,Kz c1,Kz cx⟩
     refine Ap 0 ?_;refine Ap 1 ?_;refine Ap 2 ?_;refine Ap 3 ?_;refine Ap 4 ?_;refine Ap 5 ?_;refine Ap 6 ?_;refine Ap 7 ?_;refine Ap 8 ?_;refine Ap 9 ?_;refine Ap 10 ?_;refine Ap 11 ?_
     try simp only[AB]
     refine Bp [12,17,18] ?_
     refine Ai rfl (λ K hK=>?_) ?_
     .go_simp
      with_reducible refine(HOf.o _ kk0).mono ?_
      rintro e wc1 ⟨rfl,kc2⟩
      have kk3:=kk0.then' kc2
      refine hK _ _ ?_ (λ qZ=>?_)
      .exact ⟨Kz c0,Kz c1,Kz cx⟩
      clear hK K
      try simp only[AB]
      refine Ap 13 ?_;refine Ap 14 ?_;refine Ap 15 ?_;refine Ap 16 ?_
      try simp only[AB]
      refine Bp [17,18] ?_
      refine Ai rfl (λ K hK=>?_) ?_
      .go_simp
       obtain⟨wa4,hw5⟩:∃ wa4,wa4=World.alloc wc1 (.cells #[.int .u8 0,(0:Int),(0:Int),(0:Int)] 111):=⟨_,rfl⟩
       rw[<- hw5]
       have ka6:Kp Aa wc1 wa4:=by rw[hw5];exact ((Kr _ _).alloc _)
       have hge8:wr.heap.size<=wc1.heap.size:=kk3.size
       have hb7:wa4.heap[wc1.heap.size]?=some (.cells #[.int .u8 0,(0:Int),(0:Int),(0:Int)] 111 (0,0)):=by rw[hw5];exact wN _ _
       have hl9:wc1.heap.size<wa4.heap.size:=lZ hb7
       have kk10:=kk3.then' ka6
       have HW11:=sE hw5
       clear hw5
       refine hK _ _ ?_ (λ qZ=>?_)
       .exact ⟨Kz c0,Kz c1,Kz cx⟩
       clear hK K
       try simp only[AB]
       refine Bp [18] ?_
       refine Ai rfl (λ K hK=>?_) ?_
       .go_simp
        obtain⟨wa12,hw13⟩:∃ wa12,wa12=World.alloc wa4 (.cells #[.int .u8 0,(0:Int),.int .u64 0] 106):=⟨_,rfl⟩
        rw[<- hw13]
        have ka14:Kp Aa wa4 wa12:=by rw[hw13];exact ((Kr _ _).alloc _)
        have hge16:wr.heap.size<=wa4.heap.size:=kk10.size
        have hb15:wa12.heap[wa4.heap.size]?=some (.cells #[.int .u8 0,(0:Int),.int .u64 0] 106 (0,0)):=by rw[hw13];exact wN _ _
        have hl17:wa4.heap.size<wa12.heap.size:=lZ hb15
        have hx18:=lZ hb7
        have hb19:=ka14.at_ hb7 id
        have kk20:=kk10.then' ka14
        have HW21:=sE hw13
        clear hw13
        refine hK _ _ ?_ (λ qZ=>?_)
        .exact ⟨Kz c0,Kz c1,Kz cx⟩
        clear hK K
        try simp only[AB]
        have hsz:=lZ hb19
        obtain⟨d0,d1,d2,d3⟩:=Ay hb19
        have f0:=Ab hb19;have f00:=f0 0;have f01:=f0 1;have f02:=f0 2;have f03:=f0 3
        refine Bp [19] ?_
        refine Ag rfl (λ K hK=>?_)
        clear f0
        go_simp
        obtain⟨wz22,hz23⟩:∃ wz22,wz22=World.setCell (World.setCell (World.setCell (World.setCell (wa12) ⟨wc1.heap.size,0,none⟩ (.int .u8 1)) ⟨wc1.heap.size,1,none⟩ (.int .i64 c.ty)) ⟨wc1.heap.size,2,none⟩ (.int .i64 c.ln)) ⟨wc1.heap.size,3,none⟩ (.int .i64 c.sz):=⟨_,rfl⟩
        rw[<- hz23]
        obtain⟨tz24,kz25⟩:=BC hb19 _ _ _ _ wz22 hz23
        have hb26:=kz25.at_ hb15 (λ h=>by have h':wa4.heap.size=wc1.heap.size:=h;omega)
        have kk27:Kp Aa wr wz22:=kk20.trans kz25 (λ i hi h=>by have h':i=wc1.heap.size:=h;(try have hq:=Nat.le_of_eq h');(first|omega|(simp only[World.size_drew] at *;omega)))
        clear hz23 d0 f00 d1 f01 d2 f02 d3 f03
        refine hK _ _ ?_ (λ qZ=>?_)
        .exact ⟨Kz c0,Kz c1,Kz cx⟩
        clear hK K
        try simp only[AB]
        have hsz:=lZ hb26
        obtain⟨d0,d1,d2⟩:=cells3 hb26
        have f0:=Ab hb26;have f00:=f0 0;have f01:=f0 1;have f02:=f0 2
        refine Bp [20] ?_
        refine Ag rfl (λ K hK=>?_)
        clear f0
        go_simp
        obtain⟨wz28,hz29⟩:∃ wz28,wz28=World.setCell (World.setCell (World.setCell (wz22) ⟨wa4.heap.size,0,none⟩ (.int .u8 k)) ⟨wa4.heap.size,1,none⟩ (.int .i64 wds)) ⟨wa4.heap.size,2,none⟩ (.int .u64 m):=⟨_,rfl⟩
        rw[<- hz29]
        obtain⟨tz30,kz31⟩:=BL hb26 _ _ _ wz28 hz29
        have hb32:=kz31.at_ tz24 (λ h=>by have h':wc1.heap.size=wa4.heap.size:=h;omega)
        have kk33:Kp Aa wr wz28:=kk27.trans kz31 (λ i hi h=>by have h':i=wa4.heap.size:=h;(try have hq:=Nat.le_of_eq h');(first|omega|(simp only[World.size_drew] at *;omega)))
        clear hz29 d0 f00 d1 f01 d2 f02
        refine hK _ _ ?_ (λ qZ=>?_)
        .exact ⟨Kz c0,Kz c1,Kz cx⟩
        clear hK K
        try simp only[AB]
        refine Ap 21 ?_
        try simp only[AB]
        refine wpAnyH_done (by kernel_rfl) ?_ _
        go_wp2_with fail
        go_meet
        exact⟨_,rfl,rfl,hb32,by omega,kk33⟩
       exact AllReadyH.nil
      refine Ai rfl (λ K hK=>?_) ?_
      .go_simp
       obtain⟨wa34,hw35⟩:∃ wa34,wa34=World.alloc wc1 (.cells #[.int .u8 0,(0:Int),.int .u64 0] 106):=⟨_,rfl⟩
       rw[<- hw35]
       have ka36:Kp Aa wc1 wa34:=by rw[hw35];exact ((Kr _ _).alloc _)
       have hge38:wr.heap.size<=wc1.heap.size:=kk3.size
       have hb37:wa34.heap[wc1.heap.size]?=some (.cells #[.int .u8 0,(0:Int),.int .u64 0] 106 (0,0)):=by rw[hw35];exact wN _ _
       have hl39:wc1.heap.size<wa34.heap.size:=lZ hb37
       have kk40:=kk3.then' ka36
       have HW41:=sE hw35
       clear hw35
       refine hK _ _ ?_ (λ qZ=>?_)
       .exact ⟨Kz c0,Kz c1,Kz cx⟩
       clear hK K
       try simp only[AB]
       refine Bp [17] ?_
       refine Ai rfl (λ K hK=>?_) ?_
       .go_simp
        obtain⟨wa42,hw43⟩:∃ wa42,wa42=World.alloc wa34 (.cells #[.int .u8 0,(0:Int),(0:Int),(0:Int)] 111):=⟨_,rfl⟩
        rw[<- hw43]
        have ka44:Kp Aa wa34 wa42:=by rw[hw43];exact ((Kr _ _).alloc _)
        have hge46:wr.heap.size<=wa34.heap.size:=kk40.size
        have hb45:wa42.heap[wa34.heap.size]?=some (.cells #[.int .u8 0,(0:Int),(0:Int),(0:Int)] 111 (0,0)):=by rw[hw43];exact wN _ _
        have hl47:wa34.heap.size<wa42.heap.size:=lZ hb45
        have hx48:=lZ hb37
        have hb49:=ka44.at_ hb37 id
        have kk50:=kk40.then' ka44
        have HW51:=sE hw43
        clear hw43
        refine hK _ _ ?_ (λ qZ=>?_)
        .exact ⟨Kz c0,Kz c1,Kz cx⟩
        clear hK K
        try simp only[AB]
        have hsz:=lZ hb45
        obtain⟨d0,d1,d2,d3⟩:=Ay hb45
        have f0:=Ab hb45;have f00:=f0 0;have f01:=f0 1;have f02:=f0 2;have f03:=f0 3
        refine Bp [19] ?_
        refine Ag rfl (λ K hK=>?_)
        clear f0
        go_simp
        obtain⟨wz52,hz53⟩:∃ wz52,wz52=World.setCell (World.setCell (World.setCell (World.setCell (wa42) ⟨wa34.heap.size,0,none⟩ (.int .u8 1)) ⟨wa34.heap.size,1,none⟩ (.int .i64 c.ty)) ⟨wa34.heap.size,2,none⟩ (.int .i64 c.ln)) ⟨wa34.heap.size,3,none⟩ (.int .i64 c.sz):=⟨_,rfl⟩
        rw[<- hz53]
        obtain⟨tz54,kz55⟩:=BC hb45 _ _ _ _ wz52 hz53
        have hb56:=kz55.at_ hb49 (λ h=>by have h':wc1.heap.size=wa34.heap.size:=h;omega)
        have kk57:Kp Aa wr wz52:=kk50.trans kz55 (λ i hi h=>by have h':i=wa34.heap.size:=h;(try have hq:=Nat.le_of_eq h');(first|omega|(simp only[World.size_drew] at *;omega)))
        clear hz53 d0 f00 d1 f01 d2 f02 d3 f03
        refine hK _ _ ?_ (λ qZ=>?_)
        .exact ⟨Kz c0,Kz c1,Kz cx⟩
        clear hK K
        try simp only[AB]
        have hsz:=lZ hb56
        obtain⟨d0,d1,d2⟩:=cells3 hb56
        have f0:=Ab hb56;have f00:=f0 0;have f01:=f0 1;have f02:=f0 2
        refine Bp [20] ?_
        refine Ag rfl (λ K hK=>?_)
        clear f0
        go_simp
        obtain⟨wz58,hz59⟩:∃ wz58,wz58=World.setCell (World.setCell (World.setCell (wz52) ⟨wc1.heap.size,0,none⟩ (.int .u8 k)) ⟨wc1.heap.size,1,none⟩ (.int .i64 wds)) ⟨wc1.heap.size,2,none⟩ (.int .u64 m):=⟨_,rfl⟩
        rw[<- hz59]
        obtain⟨tz60,kz61⟩:=BL hb56 _ _ _ wz58 hz59
        have hb62:=kz61.at_ tz54 (λ h=>by have h':wa34.heap.size=wc1.heap.size:=h;omega)
        have kk63:Kp Aa wr wz58:=kk57.trans kz61 (λ i hi h=>by have h':i=wc1.heap.size:=h;(try have hq:=Nat.le_of_eq h');(first|omega|(simp only[World.size_drew] at *;omega)))
        clear hz59 d0 f00 d1 f01 d2 f02
        refine hK _ _ ?_ (λ qZ=>?_)
        .exact ⟨Kz c0,Kz c1,Kz cx⟩
        clear hK K
        try simp only[AB]
        refine Ap 21 ?_
        try simp only[AB]
        refine wpAnyH_done (by kernel_rfl) ?_ _
        go_wp2_with fail
        go_meet
        exact⟨_,rfl,rfl,hb62,by omega,kk63⟩
       exact AllReadyH.nil
      exact AllReadyH.nil
     refine Ai rfl (λ K hK=>?_) ?_
     .go_simp
      obtain⟨wa64,hw65⟩:∃ wa64,wa64=World.drew (World.alloc wr (.cells #[.int .u8 0,(0:Int),(0:Int),(0:Int)] 111)):=⟨_,rfl⟩
      rw[<- hw65]
      have ka66:Kp Aa wr wa64:=by rw[hw65];exact ((Kr _ _).alloc _).drew
      have hge68:wr.heap.size<=wr.heap.size:=kk0.size
      have hb67:wa64.heap[wr.heap.size]?=some (.cells #[.int .u8 0,(0:Int),(0:Int),(0:Int)] 111 (0,0)):=by rw[hw65];exact wN _ _
      have hl69:wr.heap.size<wa64.heap.size:=lZ hb67
      have kk70:=ka66
      have HW71:=sE hw65
      clear hw65
      refine hK _ _ ?_ (λ qZ=>?_)
      .exact ⟨Kz c0,Kz c1,Kz cx⟩
      clear hK K
      try simp only[AB]
      refine Bp [12,18] ?_
      refine Ai rfl (λ K hK=>?_) ?_
      .go_simp
       with_reducible refine(HOf.o _ kk70).mono ?_
       rintro e wc72 ⟨rfl,kc73⟩
       have hb74:=kc73.at_ hb67 id
       have kk75:=kk70.then' kc73
       refine hK _ _ ?_ (λ qZ=>?_)
       .exact ⟨Kz c0,Kz c1,Kz cx⟩
       clear hK K
       try simp only[AB]
       refine Ap 13 ?_;refine Ap 14 ?_;refine Ap 15 ?_;refine Ap 16 ?_
       try simp only[AB]
       refine Bp [18] ?_
       refine Ai rfl (λ K hK=>?_) ?_
       .go_simp
        obtain⟨wa76,hw77⟩:∃ wa76,wa76=World.alloc wc72 (.cells #[.int .u8 0,(0:Int),.int .u64 0] 106):=⟨_,rfl⟩
        rw[<- hw77]
        have ka78:Kp Aa wc72 wa76:=by rw[hw77];exact ((Kr _ _).alloc _)
        have hge80:wr.heap.size<=wc72.heap.size:=kk75.size
        have hb79:wa76.heap[wc72.heap.size]?=some (.cells #[.int .u8 0,(0:Int),.int .u64 0] 106 (0,0)):=by rw[hw77];exact wN _ _
        have hl81:wc72.heap.size<wa76.heap.size:=lZ hb79
        have hx82:=lZ hb74
        have hb83:=ka78.at_ hb74 id
        have kk84:=kk75.then' ka78
        have HW85:=sE hw77
        clear hw77
        refine hK _ _ ?_ (λ qZ=>?_)
        .exact ⟨Kz c0,Kz c1,Kz cx⟩
        clear hK K
        try simp only[AB]
        have hsz:=lZ hb83
        obtain⟨d0,d1,d2,d3⟩:=Ay hb83
        have f0:=Ab hb83;have f00:=f0 0;have f01:=f0 1;have f02:=f0 2;have f03:=f0 3
        refine Bp [19] ?_
        refine Ag rfl (λ K hK=>?_)
        clear f0
        go_simp
        obtain⟨wz86,hz87⟩:∃ wz86,wz86=World.setCell (World.setCell (World.setCell (World.setCell (wa76) ⟨wr.heap.size,0,none⟩ (.int .u8 1)) ⟨wr.heap.size,1,none⟩ (.int .i64 c.ty)) ⟨wr.heap.size,2,none⟩ (.int .i64 c.ln)) ⟨wr.heap.size,3,none⟩ (.int .i64 c.sz):=⟨_,rfl⟩
        rw[<- hz87]
        obtain⟨tz88,kz89⟩:=BC hb83 _ _ _ _ wz86 hz87
        have hb90:=kz89.at_ hb79 (λ h=>by have h':wc72.heap.size=wr.heap.size:=h;omega)
        have kk91:Kp Aa wr wz86:=kk84.trans kz89 (λ i hi h=>by have h':i=wr.heap.size:=h;(try have hq:=Nat.le_of_eq h');(first|omega|(simp only[World.size_drew] at *;omega)))
        clear hz87 d0 f00 d1 f01 d2 f02 d3 f03
        refine hK _ _ ?_ (λ qZ=>?_)
        .exact ⟨Kz c0,Kz c1,Kz cx⟩
        clear hK K
        try simp only[AB]
        have hsz:=lZ hb90
        obtain⟨d0,d1,d2⟩:=cells3 hb90
        have f0:=Ab hb90;have f00:=f0 0;have f01:=f0 1;have f02:=f0 2
        refine Bp [20] ?_
        refine Ag rfl (λ K hK=>?_)
        clear f0
        go_simp
        obtain⟨wz92,hz93⟩:∃ wz92,wz92=World.setCell (World.setCell (World.setCell (wz86) ⟨wc72.heap.size,0,none⟩ (.int .u8 k)) ⟨wc72.heap.size,1,none⟩ (.int .i64 wds)) ⟨wc72.heap.size,2,none⟩ (.int .u64 m):=⟨_,rfl⟩
        rw[<- hz93]
        obtain⟨tz94,kz95⟩:=BL hb90 _ _ _ wz92 hz93
        have hb96:=kz95.at_ tz88 (λ h=>by have h':wr.heap.size=wc72.heap.size:=h;omega)
        have kk97:Kp Aa wr wz92:=kk91.trans kz95 (λ i hi h=>by have h':i=wc72.heap.size:=h;(try have hq:=Nat.le_of_eq h');(first|omega|(simp only[World.size_drew] at *;omega)))
        clear hz93 d0 f00 d1 f01 d2 f02
        refine hK _ _ ?_ (λ qZ=>?_)
        .exact ⟨Kz c0,Kz c1,Kz cx⟩
        clear hK K
        try simp only[AB]
        refine Ap 21 ?_
        try simp only[AB]
        refine wpAnyH_done (by kernel_rfl) ?_ _
        go_wp2_with fail
        go_meet
        exact⟨_,rfl,rfl,hb96,by omega,kk97⟩
       exact AllReadyH.nil
      refine Ai rfl (λ K hK=>?_) ?_
      .go_simp
       obtain⟨wa98,hw99⟩:∃ wa98,wa98=World.alloc wa64 (.cells #[.int .u8 0,(0:Int),.int .u64 0] 106):=⟨_,rfl⟩
       rw[<- hw99]
       have ka100:Kp Aa wa64 wa98:=by rw[hw99];exact ((Kr _ _).alloc _)
       have hge102:wr.heap.size<=wa64.heap.size:=kk70.size
       have hb101:wa98.heap[wa64.heap.size]?=some (.cells #[.int .u8 0,(0:Int),.int .u64 0] 106 (0,0)):=by rw[hw99];exact wN _ _
       have hl103:wa64.heap.size<wa98.heap.size:=lZ hb101
       have hx104:=lZ hb67
       have hb105:=ka100.at_ hb67 id
       have kk106:=kk70.then' ka100
       have HW107:=sE hw99
       clear hw99
       refine hK _ _ ?_ (λ qZ=>?_)
       .exact ⟨Kz c0,Kz c1,Kz cx⟩
       clear hK K
       try simp only[AB]
       refine Bp [12] ?_
       refine Ai rfl (λ K hK=>?_) ?_
       .go_simp
        with_reducible refine(HOf.o _ kk106).mono ?_
        rintro e wc108 ⟨rfl,kc109⟩
        have hb110:=kc109.at_ hb105 id
        have hb111:=kc109.at_ hb101 id
        have kk112:=kk106.then' kc109
        refine hK _ _ ?_ (λ qZ=>?_)
        .exact ⟨Kz c0,Kz c1,Kz cx⟩
        clear hK K
        try simp only[AB]
        refine Ap 13 ?_;refine Ap 14 ?_;refine Ap 15 ?_;refine Ap 16 ?_
        try simp only[AB]
        have hsz:=lZ hb110
        obtain⟨d0,d1,d2,d3⟩:=Ay hb110
        have f0:=Ab hb110;have f00:=f0 0;have f01:=f0 1;have f02:=f0 2;have f03:=f0 3
        refine Bp [19] ?_
        refine Ag rfl (λ K hK=>?_)
        clear f0
        go_simp
        obtain⟨wz113,hz114⟩:∃ wz113,wz113=World.setCell (World.setCell (World.setCell (World.setCell (wc108) ⟨wr.heap.size,0,none⟩ (.int .u8 1)) ⟨wr.heap.size,1,none⟩ (.int .i64 c.ty)) ⟨wr.heap.size,2,none⟩ (.int .i64 c.ln)) ⟨wr.heap.size,3,none⟩ (.int .i64 c.sz):=⟨_,rfl⟩
        rw[<- hz114]
        obtain⟨tz115,kz116⟩:=BC hb110 _ _ _ _ wz113 hz114
        have hb117:=kz116.at_ hb111 (λ h=>by have h':wa64.heap.size=wr.heap.size:=h;omega)
        have kk118:Kp Aa wr wz113:=kk112.trans kz116 (λ i hi h=>by have h':i=wr.heap.size:=h;(try have hq:=Nat.le_of_eq h');(first|omega|(simp only[World.size_drew] at *;omega)))
        clear hz114 d0 f00 d1 f01 d2 f02 d3 f03
        refine hK _ _ ?_ (λ qZ=>?_)
        .exact ⟨Kz c0,Kz c1,Kz cx⟩
        clear hK K
        try simp only[AB]
        have hsz:=lZ hb117
        obtain⟨d0,d1,d2⟩:=cells3 hb117
        have f0:=Ab hb117;have f00:=f0 0;have f01:=f0 1;have f02:=f0 2
        refine Bp [20] ?_
        refine Ag rfl (λ K hK=>?_)
        clear f0
        go_simp
        obtain⟨wz119,hz120⟩:∃ wz119,wz119=World.setCell (World.setCell (World.setCell (wz113) ⟨wa64.heap.size,0,none⟩ (.int .u8 k)) ⟨wa64.heap.size,1,none⟩ (.int .i64 wds)) ⟨wa64.heap.size,2,none⟩ (.int .u64 m):=⟨_,rfl⟩
        rw[<- hz120]
        obtain⟨tz121,kz122⟩:=BL hb117 _ _ _ wz119 hz120
        have hb123:=kz122.at_ tz115 (λ h=>by have h':wr.heap.size=wa64.heap.size:=h;omega)
        have kk124:Kp Aa wr wz119:=kk118.trans kz122 (λ i hi h=>by have h':i=wa64.heap.size:=h;(try have hq:=Nat.le_of_eq h');(first|omega|(simp only[World.size_drew] at *;omega)))
        clear hz120 d0 f00 d1 f01 d2 f02
        refine hK _ _ ?_ (λ qZ=>?_)
        .exact ⟨Kz c0,Kz c1,Kz cx⟩
        clear hK K
        try simp only[AB]
        refine Ap 21 ?_
        try simp only[AB]
        refine wpAnyH_done (by kernel_rfl) ?_ _
        go_wp2_with fail
        go_meet
        exact⟨_,rfl,rfl,hb123,by omega,kk124⟩
       exact AllReadyH.nil
      exact AllReadyH.nil
     refine Ai rfl (λ K hK=>?_) ?_
     .go_simp
      obtain⟨wa125,hw126⟩:∃ wa125,wa125=World.drew (World.alloc wr (.cells #[.int .u8 0,(0:Int),.int .u64 0] 106)):=⟨_,rfl⟩
      rw[<- hw126]
      have ka127:Kp Aa wr wa125:=by rw[hw126];exact ((Kr _ _).alloc _).drew
      have hge129:wr.heap.size<=wr.heap.size:=kk0.size
      have hb128:wa125.heap[wr.heap.size]?=some (.cells #[.int .u8 0,(0:Int),.int .u64 0] 106 (0,0)):=by rw[hw126];exact wN _ _
      have hl130:wr.heap.size<wa125.heap.size:=lZ hb128
      have kk131:=ka127
      have HW132:=sE hw126
      clear hw126
      refine hK _ _ ?_ (λ qZ=>?_)
      .exact ⟨Kz c0,Kz c1,Kz cx⟩
      clear hK K
      try simp only[AB]
      refine Bp [12,17] ?_
      refine Ai rfl (λ K hK=>?_) ?_
      .go_simp
       with_reducible refine(HOf.o _ kk131).mono ?_
       rintro e wc133 ⟨rfl,kc134⟩
       have hb135:=kc134.at_ hb128 id
       have kk136:=kk131.then' kc134
       refine hK _ _ ?_ (λ qZ=>?_)
       .exact ⟨Kz c0,Kz c1,Kz cx⟩
       clear hK K
       try simp only[AB]
       refine Ap 13 ?_;refine Ap 14 ?_;refine Ap 15 ?_;refine Ap 16 ?_
       try simp only[AB]
       refine Bp [17] ?_
       refine Ai rfl (λ K hK=>?_) ?_
       .go_simp
        obtain⟨wa137,hw138⟩:∃ wa137,wa137=World.alloc wc133 (.cells #[.int .u8 0,(0:Int),(0:Int),(0:Int)] 111):=⟨_,rfl⟩
        rw[<- hw138]
        have ka139:Kp Aa wc133 wa137:=by rw[hw138];exact ((Kr _ _).alloc _)
        have hge141:wr.heap.size<=wc133.heap.size:=kk136.size
        have hb140:wa137.heap[wc133.heap.size]?=some (.cells #[.int .u8 0,(0:Int),(0:Int),(0:Int)] 111 (0,0)):=by rw[hw138];exact wN _ _
        have hl142:wc133.heap.size<wa137.heap.size:=lZ hb140
        have hx143:=lZ hb135
        have hb144:=ka139.at_ hb135 id
        have kk145:=kk136.then' ka139
        have HW146:=sE hw138
        clear hw138
        refine hK _ _ ?_ (λ qZ=>?_)
        .exact ⟨Kz c0,Kz c1,Kz cx⟩
        clear hK K
        try simp only[AB]
        have hsz:=lZ hb140
        obtain⟨d0,d1,d2,d3⟩:=Ay hb140
        have f0:=Ab hb140;have f00:=f0 0;have f01:=f0 1;have f02:=f0 2;have f03:=f0 3
        refine Bp [19] ?_
        refine Ag rfl (λ K hK=>?_)
        clear f0
        go_simp
        obtain⟨wz147,hz148⟩:∃ wz147,wz147=World.setCell (World.setCell (World.setCell (World.setCell (wa137) ⟨wc133.heap.size,0,none⟩ (.int .u8 1)) ⟨wc133.heap.size,1,none⟩ (.int .i64 c.ty)) ⟨wc133.heap.size,2,none⟩ (.int .i64 c.ln)) ⟨wc133.heap.size,3,none⟩ (.int .i64 c.sz):=⟨_,rfl⟩
        rw[<- hz148]
        obtain⟨tz149,kz150⟩:=BC hb140 _ _ _ _ wz147 hz148
        have hb151:=kz150.at_ hb144 (λ h=>by have h':wr.heap.size=wc133.heap.size:=h;omega)
        have kk152:Kp Aa wr wz147:=kk145.trans kz150 (λ i hi h=>by have h':i=wc133.heap.size:=h;(try have hq:=Nat.le_of_eq h');(first|omega|(simp only[World.size_drew] at *;omega)))
        clear hz148 d0 f00 d1 f01 d2 f02 d3 f03
        refine hK _ _ ?_ (λ qZ=>?_)
        .exact ⟨Kz c0,Kz c1,Kz cx⟩
        clear hK K
        try simp only[AB]
        have hsz:=lZ hb151
        obtain⟨d0,d1,d2⟩:=cells3 hb151
        have f0:=Ab hb151;have f00:=f0 0;have f01:=f0 1;have f02:=f0 2
        refine Bp [20] ?_
        refine Ag rfl (λ K hK=>?_)
        clear f0
        go_simp
        obtain⟨wz153,hz154⟩:∃ wz153,wz153=World.setCell (World.setCell (World.setCell (wz147) ⟨wr.heap.size,0,none⟩ (.int .u8 k)) ⟨wr.heap.size,1,none⟩ (.int .i64 wds)) ⟨wr.heap.size,2,none⟩ (.int .u64 m):=⟨_,rfl⟩
        rw[<- hz154]
        obtain⟨tz155,kz156⟩:=BL hb151 _ _ _ wz153 hz154
        have hb157:=kz156.at_ tz149 (λ h=>by have h':wc133.heap.size=wr.heap.size:=h;omega)
        have kk158:Kp Aa wr wz153:=kk152.trans kz156 (λ i hi h=>by have h':i=wr.heap.size:=h;(try have hq:=Nat.le_of_eq h');(first|omega|(simp only[World.size_drew] at *;omega)))
        clear hz154 d0 f00 d1 f01 d2 f02
        refine hK _ _ ?_ (λ qZ=>?_)
        .exact ⟨Kz c0,Kz c1,Kz cx⟩
        clear hK K
        try simp only[AB]
        refine Ap 21 ?_
        try simp only[AB]
        refine wpAnyH_done (by kernel_rfl) ?_ _
        go_wp2_with fail
        go_meet
        exact⟨_,rfl,rfl,hb157,by omega,kk158⟩
       exact AllReadyH.nil
      refine Ai rfl (λ K hK=>?_) ?_
      .go_simp
       obtain⟨wa159,hw160⟩:∃ wa159,wa159=World.alloc wa125 (.cells #[.int .u8 0,(0:Int),(0:Int),(0:Int)] 111):=⟨_,rfl⟩
       rw[<- hw160]
       have ka161:Kp Aa wa125 wa159:=by rw[hw160];exact ((Kr _ _).alloc _)
       have hge163:wr.heap.size<=wa125.heap.size:=kk131.size
       have hb162:wa159.heap[wa125.heap.size]?=some (.cells #[.int .u8 0,(0:Int),(0:Int),(0:Int)] 111 (0,0)):=by rw[hw160];exact wN _ _
       have hl164:wa125.heap.size<wa159.heap.size:=lZ hb162
       have hx165:=lZ hb128
       have hb166:=ka161.at_ hb128 id
       have kk167:=kk131.then' ka161
       have HW168:=sE hw160
       clear hw160
       refine hK _ _ ?_ (λ qZ=>?_)
       .exact ⟨Kz c0,Kz c1,Kz cx⟩
       clear hK K
       try simp only[AB]
       refine Bp [12] ?_
       refine Ai rfl (λ K hK=>?_) ?_
       .go_simp
        with_reducible refine(HOf.o _ kk167).mono ?_
        rintro e wc169 ⟨rfl,kc170⟩
        have hb171:=kc170.at_ hb166 id
        have hb172:=kc170.at_ hb162 id
        have kk173:=kk167.then' kc170
        refine hK _ _ ?_ (λ qZ=>?_)
        .exact ⟨Kz c0,Kz c1,Kz cx⟩
        clear hK K
        try simp only[AB]
        refine Ap 13 ?_;refine Ap 14 ?_;refine Ap 15 ?_;refine Ap 16 ?_
        try simp only[AB]
        have hsz:=lZ hb172
        obtain⟨d0,d1,d2,d3⟩:=Ay hb172
        have f0:=Ab hb172;have f00:=f0 0;have f01:=f0 1;have f02:=f0 2;have f03:=f0 3
        refine Bp [19] ?_
        refine Ag rfl (λ K hK=>?_)
        clear f0
        go_simp
        obtain⟨wz174,hz175⟩:∃ wz174,wz174=World.setCell (World.setCell (World.setCell (World.setCell (wc169) ⟨wa125.heap.size,0,none⟩ (.int .u8 1)) ⟨wa125.heap.size,1,none⟩ (.int .i64 c.ty)) ⟨wa125.heap.size,2,none⟩ (.int .i64 c.ln)) ⟨wa125.heap.size,3,none⟩ (.int .i64 c.sz):=⟨_,rfl⟩
        rw[<- hz175]
        obtain⟨tz176,kz177⟩:=BC hb172 _ _ _ _ wz174 hz175
        have hb178:=kz177.at_ hb171 (λ h=>by have h':wr.heap.size=wa125.heap.size:=h;omega)
        have kk179:Kp Aa wr wz174:=kk173.trans kz177 (λ i hi h=>by have h':i=wa125.heap.size:=h;(try have hq:=Nat.le_of_eq h');(first|omega|(simp only[World.size_drew] at *;omega)))
        clear hz175 d0 f00 d1 f01 d2 f02 d3 f03
        refine hK _ _ ?_ (λ qZ=>?_)
        .exact ⟨Kz c0,Kz c1,Kz cx⟩
        clear hK K
        try simp only[AB]
        have hsz:=lZ hb178
        obtain⟨d0,d1,d2⟩:=cells3 hb178
        have f0:=Ab hb178;have f00:=f0 0;have f01:=f0 1;have f02:=f0 2
        refine Bp [20] ?_
        refine Ag rfl (λ K hK=>?_)
        clear f0
        go_simp
        obtain⟨wz180,hz181⟩:∃ wz180,wz180=World.setCell (World.setCell (World.setCell (wz174) ⟨wr.heap.size,0,none⟩ (.int .u8 k)) ⟨wr.heap.size,1,none⟩ (.int .i64 wds)) ⟨wr.heap.size,2,none⟩ (.int .u64 m):=⟨_,rfl⟩
        rw[<- hz181]
        obtain⟨tz182,kz183⟩:=BL hb178 _ _ _ wz180 hz181
        have hb184:=kz183.at_ tz176 (λ h=>by have h':wa125.heap.size=wr.heap.size:=h;omega)
        have kk185:Kp Aa wr wz180:=kk179.trans kz183 (λ i hi h=>by have h':i=wr.heap.size:=h;(try have hq:=Nat.le_of_eq h');(first|omega|(simp only[World.size_drew] at *;omega)))
        clear hz181 d0 f00 d1 f01 d2 f02
        refine hK _ _ ?_ (λ qZ=>?_)
        .exact ⟨Kz c0,Kz c1,Kz cx⟩
        clear hK K
        try simp only[AB]
        refine Ap 21 ?_
        try simp only[AB]
        refine wpAnyH_done (by kernel_rfl) ?_ _
        go_wp2_with fail
        go_meet
        exact⟨_,rfl,rfl,hb184,by omega,kk185⟩
       exact AllReadyH.nil
      exact AllReadyH.nil
     exact AllReadyH.nil
    case rest=>
     obtain⟨b1,rfl,rfl,hb1,hb1w,kx⟩:=hcut
     have hsx:=kx.size
     have hbx:b<wc.heap.size:=by omega
     have cxx:=kx.cell cx id
     rw[g1] at cxx
     obtain⟨d0,d1,d2,d3⟩:=Ay hb1
     have hlb:=lZ hb1
     have HKX:=sE kx
     have O1:wc.ownsRow w.heap.size 3 1 u5 os.length (Az (os.map Cel.sz)):=kx.owns HO.o (λ _ _ h=>h)
     have HO1:=sE O1
     have HKC:Sl (Kp Aa w wc):=⟨HK.o.then' kx⟩
     have HB1:=sE hb1
     have holen:os.length=j:=HS.o.2.1
     have HOL:=sE holen
     have hwsz:w.heap.size<=wc.heap.size:=HKC.o.size
     clear c0 c1 cx hb1 O1 kx g1 holen
     by_cases hlow:(c.g:Int)<(e:Int)
     .have HF:Sl (Bu W P.n P.ts (λ i=>x i 0) 0 len 0=none):=⟨HS.o.fails hjl (.inr (by show x j 0<_;rw [HG1.o];exact hlow))⟩
      have p1:decide ((c.g:Int)<(e:Int))=true:=dT hlow
      go_wp2
      exact bodyPost_ret (v:=.int .i64 2) (by simp[results,results101,go_sem]) rfl (.inl ⟨HF.o,rfl,HD.o.Ac HKC.o,HKC.o⟩)
     .have HN:Sl (Cb W P.n P.ts (λ i=>x i 0) len (j+1) (os++[c]) c.fin):=⟨HS.o.next hjl HD.o.row.fits HC.o (by show ¬ x j 0<_;rw [HG1.o];exact hlow)⟩
      have p1:decide ((c.g:Int)<(e:Int))=false:=dF hlow
      have hol:os.length<=1000:=by have:=HOL.o;omega
      go_wp2_with (at_builtin;obtain ⟨i0,hi,hz0,hz1,hz2⟩:=info_parts Be;go_loud (refine wpList_append_lies _ rfl (.tmp 45) (.tmp 48) 24 rfl w.heap.size 3 i0 _ 1 8 Ar hi hz0 hz1 hz2 rfl (by omega) u5 os.length (Az (os.map Cel.sz)) rfl (HO1.o.alloc _) ⟨wc.heap.size,0,none⟩ 1 1 [c.sz] rfl rfl (World.news_of_block (wN wc _)) (by intro u hu;simp at hu;subst hu;rfl) (by omega) (by unfold maxLen;omega) (by omega) (by simp;omega) (wc.heap.size+1) (by simp) ?_);intro g cap w5 hown5 hgrow hat hlt;clear hi hz0 hz1 hz2)
      have k5:Kp Aa w w5:=(HKC.o.alloc _).grown hgrow (λ k e hl=>absurd (HO1.o.lt k e).1 (by omega))
      have kU:Kp (λ b=>u5.ownBlock=some b) wc w5:=(((Kr Aa wc).alloc _).Aw _).grown hgrow (λ k e _=>e)
      have hsum:IntKind.i64.wrap ((c.g:Int)+(c.sz:Int))=((c.fin:Nat):Int):=by rw[Cel.fin,IntKind.wrap_i64];omega
      have hrow5:w5.ownsRow w.heap.size 3 1 (.slice (some ⟨g,0,none⟩) (os.length+1) cap) (os++[c]).length (Az ((os++[c]).map Cel.sz)):=by
       rw[List.map_append,Az,List.map_append,List.length_append];exact hown5
      have HR5:=sE hrow5
      have HK5:=sE k5
      have hz5:¬ u5.ownBlock=some b:=λ e=>by have:=(HO.o.lt b e).1;omega
      have hz6:¬ u5.ownBlock=some b1:=λ e=>by have:=(HO.o.lt b1 e).2;omega
      have cx5:=kU.cell cxx hz5
      have e3:=kU.cell d3 hz6
      have hs5:=kU.size
      have hfb:c.fin<=32768:=by rw[Cel.fin];exact hcb
      clear cxx d0 d1 d2 d3 hown5 hgrow hat k5 kU hz5 hz6 hrow5
      go_wp2_with fail
      go_quiet (fail)
      go_wp2
      exact⟨⟨j+1,os++[c],c.fin,by omega,rfl,by go_num,hfb,HN,(Kp.Ah (S:=Aa) _).owns HR5.o (λ _ _ h=>h),HK5.o.drewN _⟩,by simp only[intOf];omega⟩
  .have hjl':¬ (j:Int)<(len:Int):=by omega
   obtain rfl:j=len:=by omega
   have hR:=HS.o.done
   have hf:=HD.o.row.fits
   obtain⟨r1,r2,r3,r4⟩:=C8 hf hR (Nat.zero_le _)
   have HR:=sE hR
   have HRi:=sE r1
   have HXo:Sl (∀ i o,os[i]?=some o->x i 0=(o.g:Nat)):=⟨λ i o ho=>by have:=r3 i o ho;rwa [Nat.zero_add] at this⟩
   have HLen:=sE r2
   obtain⟨capr,c0,c1⟩:=(HD.o.Ac hk).head
   have HRow:Sl (∀ i o,os[i]?=some o->∃ gb cap5,u5=.slice (some ⟨gb,0,none⟩) j cap5/\w.heap.size<=gb/\gb<wr.heap.size/\wr.cell? ⟨gb,i,none⟩=some (.int .i64 o.sz)):=⟨λ i o ho=>by
    have hil:=(gE.1 ho).1
    obtain⟨_,h⟩:=hown
    rcases h with ⟨_,h0⟩|⟨gb,cap5,cur,hu,hb,hh,_,_,hsz,htk⟩
    .omega
    .refine ⟨gb,cap5,by rw[hu,r2],hb,lZ hh,?_⟩
     have h9:=congrArg (λ l=>l[i]?) htk
     simp only[List.getElem?_take,Nat.mul_one,Az,List.getElem?_map,ho,Option.map_some] at h9
     rw[if_pos hil,Array.getElem?_toList] at h9
     simp only[World.cell?,hh]
     exact h9⟩
   clear hown hk c0 c1 r1 r2 r3 r4 hR hf
   obtain⟨wo,rfl⟩:∃ wo:World,wo=wr:=⟨_,rfl⟩
   go_wp2_with fail
   go_loopw [6,11] (λ v6 v11 w'=>∃ (i e':Nat) (W1:Nat->Nat) (q':Nat),i<=j/\v6=.int .i64 e'/\v11=.int .i64 (i:Nat)/\Sl (CX e' (os.drop i) (P.n/2))/\Sl (BH W1 e' (os.drop i) (P.n/2)=BH W 0 os (P.n/2))/\Sl (DocAt w' rb q' P.n W1 lv)/\(q'=q\/w.heap.size<=q')/\Kp (λ k=>k=rb) wo w') (λ _ y _=>j-(intOf y).toNat)
   case atStart=>exact ⟨0,0,W,q,Nat.zero_le _,rfl,rfl,⟨HRi.o⟩,⟨rfl⟩,⟨HD.o.Ac HK.o⟩,.inl rfl,Kr _ _⟩
   case round=>
    obtain⟨i,e',W1,q',hi,rfl,rfl,hri,hst,hd',hq',hkr⟩:=hrel
    have HQ:=sE hq'
    have HKR:=sE hkr
    clear hq'
    by_cases hij:i<j
    .have hij':(i:Int)<(j:Int):=by omega
     obtain⟨ob,hob⟩:∃ ob,os[i]?=some ob:=⟨os[i]'(by have:=HLen.o;omega),by simp⟩
     obtain⟨b,o,rfl,hbl,cx0,xb1,xb2⟩:=HX.o i (by omega)
     have hx9:=HXo.o i ob hob
     rw[hx9] at cx0
     obtain⟨gb,cap5,rfl,hgb1,hgb2,cz0⟩:=HRow.o i ob hob
     obtain⟨s1,s2,s3,s4⟩:=rising_step hob hri.o
     have hst2:=settle_step (W:=W1) (e:=e') (H:=P.n/2) hob
     have HST:Sl (BH (Bd W1 e' (ob.g-e')) ob.fin (os.drop (i+1)) (P.n/2)=BH W 0 os (P.n/2)):=⟨hst2.symm.trans hst.o⟩
     have HR4:=sE s4
     have hfin:ob.g+ob.sz<=32768:=by unfold Cel.fin at s3;omega
     have HM:Sl ((ob.g:Int)-(e':Int)=((ob.g-e':Nat):Int)):=⟨by omega⟩
     have hbr:¬ b=rb:=λ h=>HVB.o (by omega) (by rw[h];rfl)
     have hgr:¬ gb=rb:=by omega
     have cx:=hkr.cell (HK.o.cell cx0 id) hbr
     have cz:=hkr.cell cz0 hgr
     have HL:=sE (DR rb q' P.n W1 lv e' (ob.g-e') wr hd'.o (by unfold Cel.fin at s3;omega))
     have hws:w.heap.size<=wr.heap.size:=Nat.le_trans HK.o.size hkr.size
     have hbw:b<wr.heap.size:=by omega
     have hgw:gb<wr.heap.size:=Nat.lt_of_lt_of_le hgb2 hkr.size
     have hsum:Sl (IntKind.i64.wrap ((ob.g:Int)+(ob.sz:Int))=((ob.fin:Nat):Int)):=⟨by rw[Cel.fin,IntKind.wrap_i64];omega⟩
     clear hst2 hx9 cx0 cz0 hkr hst hri s3 s4 hob
     go_wp2_with fail
     rw[HM.o]
     refine HL.o.mono ?_
     rintro e w6 ⟨rfl,q2,D2,hq2,k6⟩
     have cx6:=k6.cell cx hbr
     have cz6:=k6.cell cz hgr
     have hs6:=k6.size
     have HK6:Sl (Kp (λ k=>k=rb) wo w6):=⟨HKR.o.trans k6 (λ _ _ h=>h)⟩
     have HD2:=sE D2
     have HQ2:Sl (q2=q\/w.heap.size<=q2):=⟨by rcases hq2 with h|h;rw [h];exact HQ.o;exact .inr (by omega)⟩
     have hsm:=hsum.o
     clear cx cz D2 hq2 k6 hgr hbr
     go_wp2_with fail
     go_quiet (fail)
     go_wp2
     exact⟨⟨i+1,ob.fin,_,q2,by omega,rfl,by go_num,⟨HR4.o⟩,⟨HST.o⟩,⟨HD2.o.Ac (Kp.Ah _)⟩,HQ2.o,HK6.o.drewN _⟩,by simp only[intOf];omega⟩
    .have hij':¬ (i:Int)<(j:Int):=by omega
     have hi0:os.drop i=[]:=List.drop_eq_nil_of_le (by have:=HLen.o;omega)
     have hst2:=hst.o
     have hri2:=hri.o
     rw[hi0] at hst2 hri2
     have he2:e'<=P.n/2:=hri2
     have HST:Sl (Bd W1 e' (P.n/2-e')=BH W 0 os (P.n/2)):=⟨hst2⟩
     have HM:Sl ((P.n:Int)/2-(e':Int)=((P.n/2-e':Nat):Int)):=⟨by omega⟩
     have HL:=sE (DR rb q' P.n W1 lv e' (P.n/2-e') wr hd'.o (by omega))
     obtain⟨capr,c0,c1⟩:=hd'.o.head
     have hws:w.heap.size<=wr.heap.size:=Nat.le_trans HK.o.size hkr.size
     clear hst2 hri2 hi0 hst hri hkr
     go_wp2_with fail
     rw[HM.o]
     refine HL.o.mono ?_
     rintro e w6 ⟨rfl,q2,D2,hq2,k6⟩
     have HK6:Sl (Kp (λ k=>k=rb) wo w6):=⟨HKR.o.trans k6 (λ _ _ h=>h)⟩
     have HD2:=sE D2
     have HQ2:Sl (q2=q\/w.heap.size<=q2):=⟨by rcases hq2 with h|h;rw [h];exact HQ.o;exact .inr (by omega)⟩
     clear D2 hq2 k6 c0 c1
     go_wp2
     exact bodyPost_ret (v:=.int .i64 0) (by simp[results,results101,go_sem]) rfl (.inr ⟨os,HR.o,rfl,(HK.o.Aw _).trans HK6.o (λ _ _ h=>h),q2,HQ2.o,by rw[<- HST.o];exact HD2.o⟩)

end

end Go.Proofs.YtfkedlgpgmaemaaGreatDoor
