/-
  Lemmas for the laws, together: Play4, Play5.
-/
import Derived.Test.YtmfajopmppfldaaGreatDoorQf
import Derived.Test.YtmfajopmppfldaaGreatDoorQc
import Derived.Test.YtmfajopmppfldaaGreatDoorQe
set_option linter.unusedVariables false
set_option maxHeartbeats 16000000
namespace Go.Proofs.YtmfajopmppfldaaGreatDoor
open Go.Proofs.Tryz
section
open Go.RowKit

def DSettlePost(P:Sp)(W:Nat->Nat)(x:Nat->Int)(len rb q:Nat)(lv:Value)(w:World)(e:Ending)(w':World):Prop:=
 (Be W P.n P.ts x 0 len 0=none/\e=.returned (.int .i64 2)/\DocAt w' rb q P.n W lv/\Kp Ab w w')\/
 (∃ os,Be W P.n P.ts x 0 len 0=some os/\e=.returned (.int .i64 0)/\Kp (λ k=>k=rb) w w'/\∃ q',(q'=q\/w.heap.size<=q')/\DocAt w' rb q' P.n (AR W 0 os (P.n/2)) lv)

def SetCutY(c:Cel)(w:World)(a e:Value)(wx:World):Prop:=
 ∃ b1,a=.pointer (some ⟨b1,0,none⟩)/\e=.int .i64 0/\wx.heap[b1]?=some (.cells #[.int .u8 1,.int .i64 (c.ty:Nat),.int .i64 (c.ln:Nat),.int .i64 (c.sz:Nat)] 52 (0,0))/\w.heap.size<=b1/\Kp Ab w wx

def SetCutN(w:World)(e:Value)(wx:World):Prop:=∃ E:Int,¬ E=0/\e=.int .i64 E/\Kp Ab w wx

def SetI(P:Sp)(W:Nat->Nat)(x:Nat->Int)(len:Nat)(w:World)(v5 v6 v7:Value)(wr:World):Prop:=
 ∃ (j:Nat) (os:List Cel) (e:Nat),j<=len/\v6=.int .i64 (e:Nat)/\v7=.int .i64 (j:Nat)/\e<=32768/\Sl (BX W P.n P.ts x len j os e)/\wr.ownsRow w.heap.size 3 1 v5 os.length (AC (os.map Cel.sz))/\Kp Ab w wr

set_option maxRecDepth 20000 in
theorem DSettle_any(P:Sp)(W:Nat->Nat)(rb q:Nat)(lv v:Value)(len:Nat)(x:Nat->Nat->Int)(w:World)(hd:DocAt w rb q P.n W lv)(hv:A9 w lv P.ts)(hl:P.ts.length<=17592186044416)(hM:Dm P.ts)
  (hx:Bw 1 w v len x) (hlen:len<=1000) (hvb:0<len->v.ownBlock≠some rb):
  Calls prog 88 #[.pointer (some ⟨rb,0,none⟩),v] w (DSettlePost P W (λ i=>x i 0) len rb q lv w):=by
 have hlt:=hd.lt
 have hn:=hd.row.small
 obtain⟨va,vc,rfl,hxs⟩:=ints_at hx
 have HX:=sE hxs
 have HD:=sE hd
 have HV:=sE hv
 have HMs:=sE hM
 have HLl:=sE hl
 have HVB:=sE hvb
 clear hd hv hM hl hx hxs hvb
 go_enter func88,ntmps88
 go_wp2_with fail
 go_loopw [5,6,7] (λ v5 v6 v7 wr=>SetI P W (λ i=>x i 0) len w v5 v6 v7 wr) (λ _ _ y _=>len-(intOf y).toNat)
 case atStart=>exact ⟨0,[],0,Nat.zero_le _,rfl,rfl,Nat.zero_le _,⟨BX.start _ _ _ _ _⟩,World.ownsRow_nil _ _ _ _,Kr _ _⟩
 case round=>
  obtain⟨j,os,e,hj,rfl,rfl,he,HS,hown,hk⟩:=hrel
  have HO:=sE hown
  have HK:=sE hk
  by_cases hjl:j<len
  .have hjl':(j:Int)<(len:Int):=by omega
   obtain⟨b,o,rfl,hbl,cx0,xb1,xb2⟩:=HX.out j hjl
   have cx:=hk.cell cx0 (λ h=>h)
   obtain⟨capr,c0,c1⟩:=(HD.out.Ad hk).head
   have hrb:rb<wr.heap.size:=Nat.lt_of_lt_of_le hlt hk.size
   have hbr:b<wr.heap.size:=Nat.lt_of_lt_of_le hbl hk.size
   have hf:=HD.out.row.fits
   clear hown hk cx0 hf
   cases hc:BO W P.n P.ts (x j 0) with
   |none=>
    have HF:Sl (Be W P.n P.ts (λ i=>x i 0) 0 len 0=none):=⟨HS.out.fails hjl (.inl hc)⟩
    have HOf:Sl (∀ W',Kp Ab wr W'->Calls prog 132 #[.slice (some ⟨q,0,none⟩) P.n capr,lv,.int .i64 (x j 0)] W' λ e w'=>∃ E:Int,¬ E=0/\e=.returned (.tuple #[.agg #[.int .u8 0,.int .i64 0,.int .i64 0,.int .i64 0],.agg #[.int .u8 0,.int .i64 0,.int .u64 0],.int .i64 E])/\Kp Ab W' w'):=⟨λ W' kk=>by
     refine(DOf_any (x j 0) q P.n capr W lv P.ts W' (HD.out.row.Ad (HK.out.then' kk)) (HV.out.Ad (HK.out.then' kk)) HLl.out HMs.out).mono λ e w' hp=>?_
     unfold Ej at hp
     rw[hc] at hp
     exact hp⟩
    clear hc
    go_upto_region 6 with fail
    go_cut [8,9,10] from 18 to 34 (λ _ _ e wx=>SetCutN wr e wx)
    case first=>
     have kk0:Kp Ab wr wr.drew:=(Kr _ _).drew
     refine wp_region_held_drew (S:=(λ w'=>w'.cell? ⟨rb,0,none⟩=some (.slice (some ⟨q,0,none⟩) P.n capr)/\w'.cell? ⟨rb,1,none⟩=some lv/\w'.cell? ⟨b,o+j,none⟩=some (.int .i64 (x j 0)))) (by kernel_rfl) ?_ (λ qZ=>?_)
     .exact ⟨Kz c0,Kz c1,Kz cx⟩
     refine Ao 0 ?_;refine Ao 1 ?_;refine Ao 2 ?_;refine Ao 3 ?_;refine Ao 4 ?_;refine Ao 5 ?_;refine Ao 6 ?_;refine Ao 7 ?_;refine Ao 8 ?_;refine Ao 9 ?_;refine Ao 10 ?_;refine Ao 11 ?_
     try simp only[Aw]
     refine AV [12,17,18] ?_
     refine Ai rfl (λ K hK=>?_) ?_
     .go_simp
      with_reducible refine(HOf.out _ kk0).mono ?_
      rintro e wc1 ⟨E,hE,rfl,kc2⟩
      have HE:=sE hE
      clear hE
      have kk3:=kk0.then' kc2
      refine hK _ _ ?_ (λ qZ=>?_)
      .exact ⟨Kz c0,Kz c1,Kz cx⟩
      clear hK K
      try simp only[Aw]
      refine Ao 13 ?_;refine Ao 14 ?_;refine Ao 15 ?_;refine Ao 16 ?_
      try simp only[Aw]
      refine AV [17,18] ?_
      refine Ai rfl (λ K hK=>?_) ?_
      .go_simp
       obtain⟨wa4,hw5⟩:∃ wa4,wa4=World.alloc wc1 (.cells #[.int .u8 0,.int .i64 0,.int .i64 0,.int .i64 0] 52):=⟨_,rfl⟩
       rw[<- hw5]
       have ka6:Kp Ab wc1 wa4:=by rw[hw5];exact ((Kr _ _).alloc _)
       have hge8:wr.heap.size<=wc1.heap.size:=kk3.size
       have hb7:wa4.heap[wc1.heap.size]?=some (.cells #[.int .u8 0,.int .i64 0,.int .i64 0,.int .i64 0] 52 (0,0)):=by rw[hw5];exact wN _ _
       have hl9:wc1.heap.size<wa4.heap.size:=lZ hb7
       have kk10:=kk3.then' ka6
       have HW11:=sE hw5
       clear hw5
       refine hK _ _ ?_ (λ qZ=>?_)
       .exact ⟨Kz c0,Kz c1,Kz cx⟩
       clear hK K
       try simp only[Aw]
       refine AV [18] ?_
       refine Ai rfl (λ K hK=>?_) ?_
       .go_simp
        obtain⟨wa12,hw13⟩:∃ wa12,wa12=World.alloc wa4 (.cells #[.int .u8 0,.int .i64 0,.int .u64 0] 86):=⟨_,rfl⟩
        rw[<- hw13]
        have ka14:Kp Ab wa4 wa12:=by rw[hw13];exact ((Kr _ _).alloc _)
        have hge16:wr.heap.size<=wa4.heap.size:=kk10.size
        have hb15:wa12.heap[wa4.heap.size]?=some (.cells #[.int .u8 0,.int .i64 0,.int .u64 0] 86 (0,0)):=by rw[hw13];exact wN _ _
        have hl17:wa4.heap.size<wa12.heap.size:=lZ hb15
        have hx18:=lZ hb7
        have hb19:=ka14.at_ hb7 (λ h=>h)
        have kk20:=kk10.then' ka14
        have HW21:=sE hw13
        clear hw13
        refine hK _ _ ?_ (λ qZ=>?_)
        .exact ⟨Kz c0,Kz c1,Kz cx⟩
        clear hK K
        try simp only[Aw]
        have hsz:=lZ hb19
        obtain⟨d0,d1,d2,d3⟩:=Ay hb19
        have f0:=Ae hb19;have f00:=f0 0;have f01:=f0 1;have f02:=f0 2;have f03:=f0 3
        refine AV [19] ?_
        refine Ag rfl (λ K hK=>?_)
        clear f0
        go_simp
        obtain⟨wz22,hz23⟩:∃ wz22,wz22=World.setCell (World.setCell (World.setCell (World.setCell (wa12) ⟨wc1.heap.size,0,none⟩ (.int .u8 0)) ⟨wc1.heap.size,1,none⟩ (.int .i64 0)) ⟨wc1.heap.size,2,none⟩ (.int .i64 0)) ⟨wc1.heap.size,3,none⟩ (.int .i64 0):=⟨_,rfl⟩
        rw[<- hz23]
        obtain⟨tz24,kz25⟩:=Bn hb19 _ _ _ _ wz22 hz23
        have hb26:=kz25.at_ hb15 (λ h=>by have h':wa4.heap.size=wc1.heap.size:=h;omega)
        have kk27:Kp Ab wr wz22:=kk20.trans kz25 (λ i hi h=>by have h':i=wc1.heap.size:=h;(try have hq:=Nat.le_of_eq h');(first|omega|(simp only[World.size_drew] at *;omega)))
        clear hz23 d0 f00 d1 f01 d2 f02 d3 f03
        refine hK _ _ ?_ (λ qZ=>?_)
        .exact ⟨Kz c0,Kz c1,Kz cx⟩
        clear hK K
        try simp only[Aw]
        have hsz:=lZ hb26
        obtain⟨d0,d1,d2⟩:=cells3 hb26
        have f0:=Ae hb26;have f00:=f0 0;have f01:=f0 1;have f02:=f0 2
        refine AV [20] ?_
        refine Ag rfl (λ K hK=>?_)
        clear f0
        go_simp
        obtain⟨wz28,hz29⟩:∃ wz28,wz28=World.setCell (World.setCell (World.setCell (wz22) ⟨wa4.heap.size,0,none⟩ (.int .u8 0)) ⟨wa4.heap.size,1,none⟩ (.int .i64 0)) ⟨wa4.heap.size,2,none⟩ (.int .u64 0):=⟨_,rfl⟩
        rw[<- hz29]
        obtain⟨tz30,kz31⟩:=Bz hb26 _ _ _ wz28 hz29
        have hb32:=kz31.at_ tz24 (λ h=>by have h':wc1.heap.size=wa4.heap.size:=h;omega)
        have kk33:Kp Ab wr wz28:=kk27.trans kz31 (λ i hi h=>by have h':i=wa4.heap.size:=h;(try have hq:=Nat.le_of_eq h');(first|omega|(simp only[World.size_drew] at *;omega)))
        clear hz29 d0 f00 d1 f01 d2 f02
        refine hK _ _ ?_ (λ qZ=>?_)
        .exact ⟨Kz c0,Kz c1,Kz cx⟩
        clear hK K
        try simp only[Aw]
        refine Ao 21 ?_
        try simp only[Aw]
        refine wpAnyH_done (by kernel_rfl) ?_ _
        go_wp2_with fail
        go_meet
        exact⟨E,HE.out,rfl,kk33⟩
       exact AllReadyH.nil
      refine Ai rfl (λ K hK=>?_) ?_
      .go_simp
       obtain⟨wa34,hw35⟩:∃ wa34,wa34=World.alloc wc1 (.cells #[.int .u8 0,.int .i64 0,.int .u64 0] 86):=⟨_,rfl⟩
       rw[<- hw35]
       have ka36:Kp Ab wc1 wa34:=by rw[hw35];exact ((Kr _ _).alloc _)
       have hge38:wr.heap.size<=wc1.heap.size:=kk3.size
       have hb37:wa34.heap[wc1.heap.size]?=some (.cells #[.int .u8 0,.int .i64 0,.int .u64 0] 86 (0,0)):=by rw[hw35];exact wN _ _
       have hl39:wc1.heap.size<wa34.heap.size:=lZ hb37
       have kk40:=kk3.then' ka36
       have HW41:=sE hw35
       clear hw35
       refine hK _ _ ?_ (λ qZ=>?_)
       .exact ⟨Kz c0,Kz c1,Kz cx⟩
       clear hK K
       try simp only[Aw]
       refine AV [17] ?_
       refine Ai rfl (λ K hK=>?_) ?_
       .go_simp
        obtain⟨wa42,hw43⟩:∃ wa42,wa42=World.alloc wa34 (.cells #[.int .u8 0,.int .i64 0,.int .i64 0,.int .i64 0] 52):=⟨_,rfl⟩
        rw[<- hw43]
        have ka44:Kp Ab wa34 wa42:=by rw[hw43];exact ((Kr _ _).alloc _)
        have hge46:wr.heap.size<=wa34.heap.size:=kk40.size
        have hb45:wa42.heap[wa34.heap.size]?=some (.cells #[.int .u8 0,.int .i64 0,.int .i64 0,.int .i64 0] 52 (0,0)):=by rw[hw43];exact wN _ _
        have hl47:wa34.heap.size<wa42.heap.size:=lZ hb45
        have hx48:=lZ hb37
        have hb49:=ka44.at_ hb37 (λ h=>h)
        have kk50:=kk40.then' ka44
        have HW51:=sE hw43
        clear hw43
        refine hK _ _ ?_ (λ qZ=>?_)
        .exact ⟨Kz c0,Kz c1,Kz cx⟩
        clear hK K
        try simp only[Aw]
        have hsz:=lZ hb45
        obtain⟨d0,d1,d2,d3⟩:=Ay hb45
        have f0:=Ae hb45;have f00:=f0 0;have f01:=f0 1;have f02:=f0 2;have f03:=f0 3
        refine AV [19] ?_
        refine Ag rfl (λ K hK=>?_)
        clear f0
        go_simp
        obtain⟨wz52,hz53⟩:∃ wz52,wz52=World.setCell (World.setCell (World.setCell (World.setCell (wa42) ⟨wa34.heap.size,0,none⟩ (.int .u8 0)) ⟨wa34.heap.size,1,none⟩ (.int .i64 0)) ⟨wa34.heap.size,2,none⟩ (.int .i64 0)) ⟨wa34.heap.size,3,none⟩ (.int .i64 0):=⟨_,rfl⟩
        rw[<- hz53]
        obtain⟨tz54,kz55⟩:=Bn hb45 _ _ _ _ wz52 hz53
        have hb56:=kz55.at_ hb49 (λ h=>by have h':wc1.heap.size=wa34.heap.size:=h;omega)
        have kk57:Kp Ab wr wz52:=kk50.trans kz55 (λ i hi h=>by have h':i=wa34.heap.size:=h;(try have hq:=Nat.le_of_eq h');(first|omega|(simp only[World.size_drew] at *;omega)))
        clear hz53 d0 f00 d1 f01 d2 f02 d3 f03
        refine hK _ _ ?_ (λ qZ=>?_)
        .exact ⟨Kz c0,Kz c1,Kz cx⟩
        clear hK K
        try simp only[Aw]
        have hsz:=lZ hb56
        obtain⟨d0,d1,d2⟩:=cells3 hb56
        have f0:=Ae hb56;have f00:=f0 0;have f01:=f0 1;have f02:=f0 2
        refine AV [20] ?_
        refine Ag rfl (λ K hK=>?_)
        clear f0
        go_simp
        obtain⟨wz58,hz59⟩:∃ wz58,wz58=World.setCell (World.setCell (World.setCell (wz52) ⟨wc1.heap.size,0,none⟩ (.int .u8 0)) ⟨wc1.heap.size,1,none⟩ (.int .i64 0)) ⟨wc1.heap.size,2,none⟩ (.int .u64 0):=⟨_,rfl⟩
        rw[<- hz59]
        obtain⟨tz60,kz61⟩:=Bz hb56 _ _ _ wz58 hz59
        have hb62:=kz61.at_ tz54 (λ h=>by have h':wa34.heap.size=wc1.heap.size:=h;omega)
        have kk63:Kp Ab wr wz58:=kk57.trans kz61 (λ i hi h=>by have h':i=wc1.heap.size:=h;(try have hq:=Nat.le_of_eq h');(first|omega|(simp only[World.size_drew] at *;omega)))
        clear hz59 d0 f00 d1 f01 d2 f02
        refine hK _ _ ?_ (λ qZ=>?_)
        .exact ⟨Kz c0,Kz c1,Kz cx⟩
        clear hK K
        try simp only[Aw]
        refine Ao 21 ?_
        try simp only[Aw]
        refine wpAnyH_done (by kernel_rfl) ?_ _
        go_wp2_with fail
        go_meet
        exact⟨E,HE.out,rfl,kk63⟩
       exact AllReadyH.nil
      exact AllReadyH.nil
     refine Ai rfl (λ K hK=>?_) ?_
     .go_simp
      obtain⟨wa64,hw65⟩:∃ wa64,wa64=World.drew (World.alloc wr (.cells #[.int .u8 0,.int .i64 0,.int .i64 0,.int .i64 0] 52)):=⟨_,rfl⟩
      rw[<- hw65]
      have ka66:Kp Ab wr wa64:=by rw[hw65];exact ((Kr _ _).alloc _).drew
      have hge68:wr.heap.size<=wr.heap.size:=kk0.size
      have hb67:wa64.heap[wr.heap.size]?=some (.cells #[.int .u8 0,.int .i64 0,.int .i64 0,.int .i64 0] 52 (0,0)):=by rw[hw65];exact wN _ _
      have hl69:wr.heap.size<wa64.heap.size:=lZ hb67
      have kk70:=ka66
      have HW71:=sE hw65
      clear hw65
      refine hK _ _ ?_ (λ qZ=>?_)
      .exact ⟨Kz c0,Kz c1,Kz cx⟩
      clear hK K
      try simp only[Aw]
      refine AV [12,18] ?_
      refine Ai rfl (λ K hK=>?_) ?_
      .go_simp
       with_reducible refine(HOf.out _ kk70).mono ?_
       rintro e wc72 ⟨E,hE,rfl,kc73⟩
       have HE:=sE hE
       clear hE
       have hb74:=kc73.at_ hb67 (λ h=>h)
       have kk75:=kk70.then' kc73
       refine hK _ _ ?_ (λ qZ=>?_)
       .exact ⟨Kz c0,Kz c1,Kz cx⟩
       clear hK K
       try simp only[Aw]
       refine Ao 13 ?_;refine Ao 14 ?_;refine Ao 15 ?_;refine Ao 16 ?_
       try simp only[Aw]
       refine AV [18] ?_
       refine Ai rfl (λ K hK=>?_) ?_
       .go_simp
        obtain⟨wa76,hw77⟩:∃ wa76,wa76=World.alloc wc72 (.cells #[.int .u8 0,.int .i64 0,.int .u64 0] 86):=⟨_,rfl⟩
        rw[<- hw77]
        have ka78:Kp Ab wc72 wa76:=by rw[hw77];exact ((Kr _ _).alloc _)
        have hge80:wr.heap.size<=wc72.heap.size:=kk75.size
        have hb79:wa76.heap[wc72.heap.size]?=some (.cells #[.int .u8 0,.int .i64 0,.int .u64 0] 86 (0,0)):=by rw[hw77];exact wN _ _
        have hl81:wc72.heap.size<wa76.heap.size:=lZ hb79
        have hx82:=lZ hb74
        have hb83:=ka78.at_ hb74 (λ h=>h)
        have kk84:=kk75.then' ka78
        have HW85:=sE hw77
        clear hw77
        refine hK _ _ ?_ (λ qZ=>?_)
        .exact ⟨Kz c0,Kz c1,Kz cx⟩
        clear hK K
        try simp only[Aw]
        have hsz:=lZ hb83
        obtain⟨d0,d1,d2,d3⟩:=Ay hb83
        have f0:=Ae hb83;have f00:=f0 0;have f01:=f0 1;have f02:=f0 2;have f03:=f0 3
        refine AV [19] ?_
        refine Ag rfl (λ K hK=>?_)
        clear f0
        go_simp
        obtain⟨wz86,hz87⟩:∃ wz86,wz86=World.setCell (World.setCell (World.setCell (World.setCell (wa76) ⟨wr.heap.size,0,none⟩ (.int .u8 0)) ⟨wr.heap.size,1,none⟩ (.int .i64 0)) ⟨wr.heap.size,2,none⟩ (.int .i64 0)) ⟨wr.heap.size,3,none⟩ (.int .i64 0):=⟨_,rfl⟩
        rw[<- hz87]
        obtain⟨tz88,kz89⟩:=Bn hb83 _ _ _ _ wz86 hz87
        have hb90:=kz89.at_ hb79 (λ h=>by have h':wc72.heap.size=wr.heap.size:=h;omega)
        have kk91:Kp Ab wr wz86:=kk84.trans kz89 (λ i hi h=>by have h':i=wr.heap.size:=h;(try have hq:=Nat.le_of_eq h');(first|omega|(simp only[World.size_drew] at *;omega)))
        clear hz87 d0 f00 d1 f01 d2 f02 d3 f03
        refine hK _ _ ?_ (λ qZ=>?_)
        .exact ⟨Kz c0,Kz c1,Kz cx⟩
        clear hK K
        try simp only[Aw]
        have hsz:=lZ hb90
        obtain⟨d0,d1,d2⟩:=cells3 hb90
        have f0:=Ae hb90;have f00:=f0 0;have f01:=f0 1;have f02:=f0 2
        refine AV [20] ?_
        refine Ag rfl (λ K hK=>?_)
        clear f0
        go_simp
        obtain⟨wz92,hz93⟩:∃ wz92,wz92=World.setCell (World.setCell (World.setCell (wz86) ⟨wc72.heap.size,0,none⟩ (.int .u8 0)) ⟨wc72.heap.size,1,none⟩ (.int .i64 0)) ⟨wc72.heap.size,2,none⟩ (.int .u64 0):=⟨_,rfl⟩
        rw[<- hz93]
        obtain⟨tz94,kz95⟩:=Bz hb90 _ _ _ wz92 hz93
        have hb96:=kz95.at_ tz88 (λ h=>by have h':wr.heap.size=wc72.heap.size:=h;omega)
        have kk97:Kp Ab wr wz92:=kk91.trans kz95 (λ i hi h=>by have h':i=wc72.heap.size:=h;(try have hq:=Nat.le_of_eq h');(first|omega|(simp only[World.size_drew] at *;omega)))
        clear hz93 d0 f00 d1 f01 d2 f02
        refine hK _ _ ?_ (λ qZ=>?_)
        .exact ⟨Kz c0,Kz c1,Kz cx⟩
        clear hK K
        try simp only[Aw]
        refine Ao 21 ?_
        try simp only[Aw]
        refine wpAnyH_done (by kernel_rfl) ?_ _
        go_wp2_with fail
        go_meet
        exact⟨E,HE.out,rfl,kk97⟩
       exact AllReadyH.nil
      refine Ai rfl (λ K hK=>?_) ?_
      .go_simp
       obtain⟨wa98,hw99⟩:∃ wa98,wa98=World.alloc wa64 (.cells #[.int .u8 0,.int .i64 0,.int .u64 0] 86):=⟨_,rfl⟩
       rw[<- hw99]
       have ka100:Kp Ab wa64 wa98:=by rw[hw99];exact ((Kr _ _).alloc _)
       have hge102:wr.heap.size<=wa64.heap.size:=kk70.size
       have hb101:wa98.heap[wa64.heap.size]?=some (.cells #[.int .u8 0,.int .i64 0,.int .u64 0] 86 (0,0)):=by rw[hw99];exact wN _ _
       have hl103:wa64.heap.size<wa98.heap.size:=lZ hb101
       have hx104:=lZ hb67
       have hb105:=ka100.at_ hb67 (λ h=>h)
       have kk106:=kk70.then' ka100
       have HW107:=sE hw99
       clear hw99
       refine hK _ _ ?_ (λ qZ=>?_)
       .exact ⟨Kz c0,Kz c1,Kz cx⟩
       clear hK K
       try simp only[Aw]
       refine AV [12] ?_
       refine Ai rfl (λ K hK=>?_) ?_
       .go_simp
        with_reducible refine(HOf.out _ kk106).mono ?_
        rintro e wc108 ⟨E,hE,rfl,kc109⟩
        have HE:=sE hE
        clear hE
        have hb110:=kc109.at_ hb105 (λ h=>h)
        have hb111:=kc109.at_ hb101 (λ h=>h)
        have kk112:=kk106.then' kc109
        refine hK _ _ ?_ (λ qZ=>?_)
        .exact ⟨Kz c0,Kz c1,Kz cx⟩
        clear hK K
        try simp only[Aw]
        refine Ao 13 ?_;refine Ao 14 ?_;refine Ao 15 ?_;refine Ao 16 ?_
        try simp only[Aw]
        have hsz:=lZ hb110
        obtain⟨d0,d1,d2,d3⟩:=Ay hb110
        have f0:=Ae hb110;have f00:=f0 0;have f01:=f0 1;have f02:=f0 2;have f03:=f0 3
        refine AV [19] ?_
        refine Ag rfl (λ K hK=>?_)
        clear f0
        go_simp
        obtain⟨wz113,hz114⟩:∃ wz113,wz113=World.setCell (World.setCell (World.setCell (World.setCell (wc108) ⟨wr.heap.size,0,none⟩ (.int .u8 0)) ⟨wr.heap.size,1,none⟩ (.int .i64 0)) ⟨wr.heap.size,2,none⟩ (.int .i64 0)) ⟨wr.heap.size,3,none⟩ (.int .i64 0):=⟨_,rfl⟩
        rw[<- hz114]
        obtain⟨tz115,kz116⟩:=Bn hb110 _ _ _ _ wz113 hz114
        have hb117:=kz116.at_ hb111 (λ h=>by have h':wa64.heap.size=wr.heap.size:=h;omega)
        have kk118:Kp Ab wr wz113:=kk112.trans kz116 (λ i hi h=>by have h':i=wr.heap.size:=h;(try have hq:=Nat.le_of_eq h');(first|omega|(simp only[World.size_drew] at *;omega)))
        clear hz114 d0 f00 d1 f01 d2 f02 d3 f03
        refine hK _ _ ?_ (λ qZ=>?_)
        .exact ⟨Kz c0,Kz c1,Kz cx⟩
        clear hK K
        try simp only[Aw]
        have hsz:=lZ hb117
        obtain⟨d0,d1,d2⟩:=cells3 hb117
        have f0:=Ae hb117;have f00:=f0 0;have f01:=f0 1;have f02:=f0 2
        refine AV [20] ?_
        refine Ag rfl (λ K hK=>?_)
        clear f0
        go_simp
        obtain⟨wz119,hz120⟩:∃ wz119,wz119=World.setCell (World.setCell (World.setCell (wz113) ⟨wa64.heap.size,0,none⟩ (.int .u8 0)) ⟨wa64.heap.size,1,none⟩ (.int .i64 0)) ⟨wa64.heap.size,2,none⟩ (.int .u64 0):=⟨_,rfl⟩
        rw[<- hz120]
        obtain⟨tz121,kz122⟩:=Bz hb117 _ _ _ wz119 hz120
        have hb123:=kz122.at_ tz115 (λ h=>by have h':wr.heap.size=wa64.heap.size:=h;omega)
        have kk124:Kp Ab wr wz119:=kk118.trans kz122 (λ i hi h=>by have h':i=wa64.heap.size:=h;(try have hq:=Nat.le_of_eq h');(first|omega|(simp only[World.size_drew] at *;omega)))
        clear hz120 d0 f00 d1 f01 d2 f02
        refine hK _ _ ?_ (λ qZ=>?_)
        .exact ⟨Kz c0,Kz c1,Kz cx⟩
        clear hK K
        try simp only[Aw]
        refine Ao 21 ?_
        try simp only[Aw]
        refine wpAnyH_done (by kernel_rfl) ?_ _
        go_wp2_with fail
        go_meet
        exact⟨E,HE.out,rfl,kk124⟩
       exact AllReadyH.nil
      exact AllReadyH.nil
     refine Ai rfl (λ K hK=>?_) ?_
     .go_simp
      obtain⟨wa125,hw126⟩:∃ wa125,wa125=World.drew (World.alloc wr (.cells #[.int .u8 0,.int .i64 0,.int .u64 0] 86)):=⟨_,rfl⟩
      rw[<- hw126]
      have ka127:Kp Ab wr wa125:=by rw[hw126];exact ((Kr _ _).alloc _).drew
      have hge129:wr.heap.size<=wr.heap.size:=kk0.size
      have hb128:wa125.heap[wr.heap.size]?=some (.cells #[.int .u8 0,.int .i64 0,.int .u64 0] 86 (0,0)):=by rw[hw126];exact wN _ _
      have hl130:wr.heap.size<wa125.heap.size:=lZ hb128
      have kk131:=ka127
      have HW132:=sE hw126
      clear hw126
      refine hK _ _ ?_ (λ qZ=>?_)
      .exact ⟨Kz c0,Kz c1,Kz cx⟩
      clear hK K
      try simp only[Aw]
      refine AV [12,17] ?_
      refine Ai rfl (λ K hK=>?_) ?_
      .go_simp
       with_reducible refine(HOf.out _ kk131).mono ?_
       rintro e wc133 ⟨E,hE,rfl,kc134⟩
       have HE:=sE hE
       clear hE
       have hb135:=kc134.at_ hb128 (λ h=>h)
       have kk136:=kk131.then' kc134
       refine hK _ _ ?_ (λ qZ=>?_)
       .exact ⟨Kz c0,Kz c1,Kz cx⟩
       clear hK K
       try simp only[Aw]
       refine Ao 13 ?_;refine Ao 14 ?_;refine Ao 15 ?_;refine Ao 16 ?_
       try simp only[Aw]
       refine AV [17] ?_
       refine Ai rfl (λ K hK=>?_) ?_
       .go_simp
        obtain⟨wa137,hw138⟩:∃ wa137,wa137=World.alloc wc133 (.cells #[.int .u8 0,.int .i64 0,.int .i64 0,.int .i64 0] 52):=⟨_,rfl⟩
        rw[<- hw138]
        have ka139:Kp Ab wc133 wa137:=by rw[hw138];exact ((Kr _ _).alloc _)
        have hge141:wr.heap.size<=wc133.heap.size:=kk136.size
        have hb140:wa137.heap[wc133.heap.size]?=some (.cells #[.int .u8 0,.int .i64 0,.int .i64 0,.int .i64 0] 52 (0,0)):=by rw[hw138];exact wN _ _
        have hl142:wc133.heap.size<wa137.heap.size:=lZ hb140
        have hx143:=lZ hb135
        have hb144:=ka139.at_ hb135 (λ h=>h)
        have kk145:=kk136.then' ka139
        have HW146:=sE hw138
        clear hw138
        refine hK _ _ ?_ (λ qZ=>?_)
        .exact ⟨Kz c0,Kz c1,Kz cx⟩
        clear hK K
        try simp only[Aw]
        have hsz:=lZ hb140
        obtain⟨d0,d1,d2,d3⟩:=Ay hb140
        have f0:=Ae hb140;have f00:=f0 0;have f01:=f0 1;have f02:=f0 2;have f03:=f0 3
        refine AV [19] ?_
        refine Ag rfl (λ K hK=>?_)
        clear f0
        go_simp
        obtain⟨wz147,hz148⟩:∃ wz147,wz147=World.setCell (World.setCell (World.setCell (World.setCell (wa137) ⟨wc133.heap.size,0,none⟩ (.int .u8 0)) ⟨wc133.heap.size,1,none⟩ (.int .i64 0)) ⟨wc133.heap.size,2,none⟩ (.int .i64 0)) ⟨wc133.heap.size,3,none⟩ (.int .i64 0):=⟨_,rfl⟩
        rw[<- hz148]
        obtain⟨tz149,kz150⟩:=Bn hb140 _ _ _ _ wz147 hz148
        have hb151:=kz150.at_ hb144 (λ h=>by have h':wr.heap.size=wc133.heap.size:=h;omega)
        have kk152:Kp Ab wr wz147:=kk145.trans kz150 (λ i hi h=>by have h':i=wc133.heap.size:=h;(try have hq:=Nat.le_of_eq h');(first|omega|(simp only[World.size_drew] at *;omega)))
        clear hz148 d0 f00 d1 f01 d2 f02 d3 f03
        refine hK _ _ ?_ (λ qZ=>?_)
        .exact ⟨Kz c0,Kz c1,Kz cx⟩
        clear hK K
        try simp only[Aw]
        have hsz:=lZ hb151
        obtain⟨d0,d1,d2⟩:=cells3 hb151
        have f0:=Ae hb151;have f00:=f0 0;have f01:=f0 1;have f02:=f0 2
        refine AV [20] ?_
        refine Ag rfl (λ K hK=>?_)
        clear f0
        go_simp
        obtain⟨wz153,hz154⟩:∃ wz153,wz153=World.setCell (World.setCell (World.setCell (wz147) ⟨wr.heap.size,0,none⟩ (.int .u8 0)) ⟨wr.heap.size,1,none⟩ (.int .i64 0)) ⟨wr.heap.size,2,none⟩ (.int .u64 0):=⟨_,rfl⟩
        rw[<- hz154]
        obtain⟨tz155,kz156⟩:=Bz hb151 _ _ _ wz153 hz154
        have hb157:=kz156.at_ tz149 (λ h=>by have h':wc133.heap.size=wr.heap.size:=h;omega)
        have kk158:Kp Ab wr wz153:=kk152.trans kz156 (λ i hi h=>by have h':i=wr.heap.size:=h;(try have hq:=Nat.le_of_eq h');(first|omega|(simp only[World.size_drew] at *;omega)))
        clear hz154 d0 f00 d1 f01 d2 f02
        refine hK _ _ ?_ (λ qZ=>?_)
        .exact ⟨Kz c0,Kz c1,Kz cx⟩
        clear hK K
        try simp only[Aw]
        refine Ao 21 ?_
        try simp only[Aw]
        refine wpAnyH_done (by kernel_rfl) ?_ _
        go_wp2_with fail
        go_meet
        exact⟨E,HE.out,rfl,kk158⟩
       exact AllReadyH.nil
      refine Ai rfl (λ K hK=>?_) ?_
      .go_simp
       obtain⟨wa159,hw160⟩:∃ wa159,wa159=World.alloc wa125 (.cells #[.int .u8 0,.int .i64 0,.int .i64 0,.int .i64 0] 52):=⟨_,rfl⟩
       rw[<- hw160]
       have ka161:Kp Ab wa125 wa159:=by rw[hw160];exact ((Kr _ _).alloc _)
       have hge163:wr.heap.size<=wa125.heap.size:=kk131.size
       have hb162:wa159.heap[wa125.heap.size]?=some (.cells #[.int .u8 0,.int .i64 0,.int .i64 0,.int .i64 0] 52 (0,0)):=by rw[hw160];exact wN _ _
       have hl164:wa125.heap.size<wa159.heap.size:=lZ hb162
       have hx165:=lZ hb128
       have hb166:=ka161.at_ hb128 (λ h=>h)
       have kk167:=kk131.then' ka161
       have HW168:=sE hw160
       clear hw160
       refine hK _ _ ?_ (λ qZ=>?_)
       .exact ⟨Kz c0,Kz c1,Kz cx⟩
       clear hK K
       try simp only[Aw]
       refine AV [12] ?_
       refine Ai rfl (λ K hK=>?_) ?_
       .go_simp
        with_reducible refine(HOf.out _ kk167).mono ?_
        rintro e wc169 ⟨E,hE,rfl,kc170⟩
        have HE:=sE hE
        clear hE
        have hb171:=kc170.at_ hb166 (λ h=>h)
        have hb172:=kc170.at_ hb162 (λ h=>h)
        have kk173:=kk167.then' kc170
        refine hK _ _ ?_ (λ qZ=>?_)
        .exact ⟨Kz c0,Kz c1,Kz cx⟩
        clear hK K
        try simp only[Aw]
        refine Ao 13 ?_;refine Ao 14 ?_;refine Ao 15 ?_;refine Ao 16 ?_
        try simp only[Aw]
        have hsz:=lZ hb172
        obtain⟨d0,d1,d2,d3⟩:=Ay hb172
        have f0:=Ae hb172;have f00:=f0 0;have f01:=f0 1;have f02:=f0 2;have f03:=f0 3
        refine AV [19] ?_
        refine Ag rfl (λ K hK=>?_)
        clear f0
        go_simp
        obtain⟨wz174,hz175⟩:∃ wz174,wz174=World.setCell (World.setCell (World.setCell (World.setCell (wc169) ⟨wa125.heap.size,0,none⟩ (.int .u8 0)) ⟨wa125.heap.size,1,none⟩ (.int .i64 0)) ⟨wa125.heap.size,2,none⟩ (.int .i64 0)) ⟨wa125.heap.size,3,none⟩ (.int .i64 0):=⟨_,rfl⟩
        rw[<- hz175]
        obtain⟨tz176,kz177⟩:=Bn hb172 _ _ _ _ wz174 hz175
        have hb178:=kz177.at_ hb171 (λ h=>by have h':wr.heap.size=wa125.heap.size:=h;omega)
        have kk179:Kp Ab wr wz174:=kk173.trans kz177 (λ i hi h=>by have h':i=wa125.heap.size:=h;(try have hq:=Nat.le_of_eq h');(first|omega|(simp only[World.size_drew] at *;omega)))
        clear hz175 d0 f00 d1 f01 d2 f02 d3 f03
        refine hK _ _ ?_ (λ qZ=>?_)
        .exact ⟨Kz c0,Kz c1,Kz cx⟩
        clear hK K
        try simp only[Aw]
        have hsz:=lZ hb178
        obtain⟨d0,d1,d2⟩:=cells3 hb178
        have f0:=Ae hb178;have f00:=f0 0;have f01:=f0 1;have f02:=f0 2
        refine AV [20] ?_
        refine Ag rfl (λ K hK=>?_)
        clear f0
        go_simp
        obtain⟨wz180,hz181⟩:∃ wz180,wz180=World.setCell (World.setCell (World.setCell (wz174) ⟨wr.heap.size,0,none⟩ (.int .u8 0)) ⟨wr.heap.size,1,none⟩ (.int .i64 0)) ⟨wr.heap.size,2,none⟩ (.int .u64 0):=⟨_,rfl⟩
        rw[<- hz181]
        obtain⟨tz182,kz183⟩:=Bz hb178 _ _ _ wz180 hz181
        have hb184:=kz183.at_ tz176 (λ h=>by have h':wa125.heap.size=wr.heap.size:=h;omega)
        have kk185:Kp Ab wr wz180:=kk179.trans kz183 (λ i hi h=>by have h':i=wr.heap.size:=h;(try have hq:=Nat.le_of_eq h');(first|omega|(simp only[World.size_drew] at *;omega)))
        clear hz181 d0 f00 d1 f01 d2 f02
        refine hK _ _ ?_ (λ qZ=>?_)
        .exact ⟨Kz c0,Kz c1,Kz cx⟩
        clear hK K
        try simp only[Aw]
        refine Ao 21 ?_
        try simp only[Aw]
        refine wpAnyH_done (by kernel_rfl) ?_ _
        go_wp2_with fail
        go_meet
        exact⟨E,HE.out,rfl,kk185⟩
       exact AllReadyH.nil
      exact AllReadyH.nil
     exact AllReadyH.nil
    case rest=>
     obtain⟨E,hE,rfl,kx⟩:=hcut
     have hb:(E !=0)=true:=by simpa using hE
     have HKF:=HK.out.then' kx
     clear hE c0 c1 cx
     go_wp2
     exact bodyPost_ret (v:=.int .i64 2) (by simp[results,results88,go_sem]) rfl (.inl ⟨HF.out,rfl,HD.out.Ad HKF,HKF⟩)
   |some c=>
    have hf:=HD.out.row.fits
    obtain⟨g1,g2,g3,g4,g5,g6⟩:=Eg hc hf
    obtain⟨k,wds,m,hty⟩:=EZ (g6.2 g2).1
    have HT:=sE hty
    have HOf:Sl (∀ W',Kp Ab wr W'->Calls prog 132 #[.slice (some ⟨q,0,none⟩) P.n capr,lv,.int .i64 (x j 0)] W' λ e w'=>e=.returned (.tuple #[.agg #[.int .u8 1,.int .i64 (c.ty:Nat),.int .i64 (c.ln:Nat),.int .i64 (c.sz:Nat)],.agg #[.int .u8 k,.int .i64 wds,.int .u64 (m:Nat)],.int .i64 0])/\Kp Ab W' w'):=⟨λ W' kk=>by
     refine(DOf_any (x j 0) q P.n capr W lv P.ts W' (HD.out.row.Ad (HK.out.then' kk)) (HV.out.Ad (HK.out.then' kk)) HLl.out HMs.out).mono λ e w' hp=>?_
     unfold Ej at hp
     rw[hc] at hp
     obtain⟨k',wds',m',h1,h2,h3⟩:=hp
     rw[HT.out] at h1
     injection h1 with h1
     injection h1 with h1 h1' h1''
     subst h1 h1' h1''
     exact⟨h2,h3⟩⟩
    have hcb:c.g+c.sz<=32768:=by unfold Cel.fin at g4;omega
    have HC:=sE hc
    have HG1:=sE g1
    clear hc hf g2 g5 g6 hty g4
    go_upto_region 6 with fail
    go_cut [8,9,10] from 18 to 34 (λ a _ e wx=>SetCutY c wr a e wx)
    case first=>
     clear g1
     have kk0:Kp Ab wr wr.drew:=(Kr _ _).drew
     refine wp_region_held_drew (S:=(λ w'=>w'.cell? ⟨rb,0,none⟩=some (.slice (some ⟨q,0,none⟩) P.n capr)/\w'.cell? ⟨rb,1,none⟩=some lv/\w'.cell? ⟨b,o+j,none⟩=some (.int .i64 (x j 0)))) (by kernel_rfl) ?_ (λ qZ=>?_)
     .exact ⟨Kz c0,Kz c1,Kz cx⟩
     refine Ao 0 ?_;refine Ao 1 ?_;refine Ao 2 ?_;refine Ao 3 ?_;refine Ao 4 ?_;refine Ao 5 ?_;refine Ao 6 ?_;refine Ao 7 ?_;refine Ao 8 ?_;refine Ao 9 ?_;refine Ao 10 ?_;refine Ao 11 ?_
     try simp only[Aw]
     refine AV [12,17,18] ?_
     refine Ai rfl (λ K hK=>?_) ?_
     .go_simp
      with_reducible refine(HOf.out _ kk0).mono ?_
      rintro e wc1 ⟨rfl,kc2⟩
      have kk3:=kk0.then' kc2
      refine hK _ _ ?_ (λ qZ=>?_)
      .exact ⟨Kz c0,Kz c1,Kz cx⟩
      clear hK K
      try simp only[Aw]
      refine Ao 13 ?_;refine Ao 14 ?_;refine Ao 15 ?_;refine Ao 16 ?_
      try simp only[Aw]
      refine AV [17,18] ?_
      refine Ai rfl (λ K hK=>?_) ?_
      .go_simp
       obtain⟨wa4,hw5⟩:∃ wa4,wa4=World.alloc wc1 (.cells #[.int .u8 0,.int .i64 0,.int .i64 0,.int .i64 0] 52):=⟨_,rfl⟩
       rw[<- hw5]
       have ka6:Kp Ab wc1 wa4:=by rw[hw5];exact ((Kr _ _).alloc _)
       have hge8:wr.heap.size<=wc1.heap.size:=kk3.size
       have hb7:wa4.heap[wc1.heap.size]?=some (.cells #[.int .u8 0,.int .i64 0,.int .i64 0,.int .i64 0] 52 (0,0)):=by rw[hw5];exact wN _ _
       have hl9:wc1.heap.size<wa4.heap.size:=lZ hb7
       have kk10:=kk3.then' ka6
       have HW11:=sE hw5
       clear hw5
       refine hK _ _ ?_ (λ qZ=>?_)
       .exact ⟨Kz c0,Kz c1,Kz cx⟩
       clear hK K
       try simp only[Aw]
       refine AV [18] ?_
       refine Ai rfl (λ K hK=>?_) ?_
       .go_simp
        obtain⟨wa12,hw13⟩:∃ wa12,wa12=World.alloc wa4 (.cells #[.int .u8 0,.int .i64 0,.int .u64 0] 86):=⟨_,rfl⟩
        rw[<- hw13]
        have ka14:Kp Ab wa4 wa12:=by rw[hw13];exact ((Kr _ _).alloc _)
        have hge16:wr.heap.size<=wa4.heap.size:=kk10.size
        have hb15:wa12.heap[wa4.heap.size]?=some (.cells #[.int .u8 0,.int .i64 0,.int .u64 0] 86 (0,0)):=by rw[hw13];exact wN _ _
        have hl17:wa4.heap.size<wa12.heap.size:=lZ hb15
        have hx18:=lZ hb7
        have hb19:=ka14.at_ hb7 (λ h=>h)
        have kk20:=kk10.then' ka14
        have HW21:=sE hw13
        clear hw13
        refine hK _ _ ?_ (λ qZ=>?_)
        .exact ⟨Kz c0,Kz c1,Kz cx⟩
        clear hK K
        try simp only[Aw]
        have hsz:=lZ hb19
        obtain⟨d0,d1,d2,d3⟩:=Ay hb19
        have f0:=Ae hb19;have f00:=f0 0;have f01:=f0 1;have f02:=f0 2;have f03:=f0 3
        refine AV [19] ?_
        refine Ag rfl (λ K hK=>?_)
        clear f0
        go_simp
        obtain⟨wz22,hz23⟩:∃ wz22,wz22=World.setCell (World.setCell (World.setCell (World.setCell (wa12) ⟨wc1.heap.size,0,none⟩ (.int .u8 1)) ⟨wc1.heap.size,1,none⟩ (.int .i64 (c.ty:Nat))) ⟨wc1.heap.size,2,none⟩ (.int .i64 (c.ln:Nat))) ⟨wc1.heap.size,3,none⟩ (.int .i64 (c.sz:Nat)):=⟨_,rfl⟩
        rw[<- hz23]
        obtain⟨tz24,kz25⟩:=Bn hb19 _ _ _ _ wz22 hz23
        have hb26:=kz25.at_ hb15 (λ h=>by have h':wa4.heap.size=wc1.heap.size:=h;omega)
        have kk27:Kp Ab wr wz22:=kk20.trans kz25 (λ i hi h=>by have h':i=wc1.heap.size:=h;(try have hq:=Nat.le_of_eq h');(first|omega|(simp only[World.size_drew] at *;omega)))
        clear hz23 d0 f00 d1 f01 d2 f02 d3 f03
        refine hK _ _ ?_ (λ qZ=>?_)
        .exact ⟨Kz c0,Kz c1,Kz cx⟩
        clear hK K
        try simp only[Aw]
        have hsz:=lZ hb26
        obtain⟨d0,d1,d2⟩:=cells3 hb26
        have f0:=Ae hb26;have f00:=f0 0;have f01:=f0 1;have f02:=f0 2
        refine AV [20] ?_
        refine Ag rfl (λ K hK=>?_)
        clear f0
        go_simp
        obtain⟨wz28,hz29⟩:∃ wz28,wz28=World.setCell (World.setCell (World.setCell (wz22) ⟨wa4.heap.size,0,none⟩ (.int .u8 k)) ⟨wa4.heap.size,1,none⟩ (.int .i64 wds)) ⟨wa4.heap.size,2,none⟩ (.int .u64 (m:Nat)):=⟨_,rfl⟩
        rw[<- hz29]
        obtain⟨tz30,kz31⟩:=Bz hb26 _ _ _ wz28 hz29
        have hb32:=kz31.at_ tz24 (λ h=>by have h':wc1.heap.size=wa4.heap.size:=h;omega)
        have kk33:Kp Ab wr wz28:=kk27.trans kz31 (λ i hi h=>by have h':i=wa4.heap.size:=h;(try have hq:=Nat.le_of_eq h');(first|omega|(simp only[World.size_drew] at *;omega)))
        clear hz29 d0 f00 d1 f01 d2 f02
        refine hK _ _ ?_ (λ qZ=>?_)
        .exact ⟨Kz c0,Kz c1,Kz cx⟩
        clear hK K
        try simp only[Aw]
        refine Ao 21 ?_
        try simp only[Aw]
        refine wpAnyH_done (by kernel_rfl) ?_ _
        go_wp2_with fail
        go_meet
        exact⟨_,rfl,rfl,hb32,by omega,kk33⟩
       exact AllReadyH.nil
      refine Ai rfl (λ K hK=>?_) ?_
      .go_simp
       obtain⟨wa34,hw35⟩:∃ wa34,wa34=World.alloc wc1 (.cells #[.int .u8 0,.int .i64 0,.int .u64 0] 86):=⟨_,rfl⟩
       rw[<- hw35]
       have ka36:Kp Ab wc1 wa34:=by rw[hw35];exact ((Kr _ _).alloc _)
       have hge38:wr.heap.size<=wc1.heap.size:=kk3.size
       have hb37:wa34.heap[wc1.heap.size]?=some (.cells #[.int .u8 0,.int .i64 0,.int .u64 0] 86 (0,0)):=by rw[hw35];exact wN _ _
       have hl39:wc1.heap.size<wa34.heap.size:=lZ hb37
       have kk40:=kk3.then' ka36
       have HW41:=sE hw35
       clear hw35
       refine hK _ _ ?_ (λ qZ=>?_)
       .exact ⟨Kz c0,Kz c1,Kz cx⟩
       clear hK K
       try simp only[Aw]
       refine AV [17] ?_
       refine Ai rfl (λ K hK=>?_) ?_
       .go_simp
        obtain⟨wa42,hw43⟩:∃ wa42,wa42=World.alloc wa34 (.cells #[.int .u8 0,.int .i64 0,.int .i64 0,.int .i64 0] 52):=⟨_,rfl⟩
        rw[<- hw43]
        have ka44:Kp Ab wa34 wa42:=by rw[hw43];exact ((Kr _ _).alloc _)
        have hge46:wr.heap.size<=wa34.heap.size:=kk40.size
        have hb45:wa42.heap[wa34.heap.size]?=some (.cells #[.int .u8 0,.int .i64 0,.int .i64 0,.int .i64 0] 52 (0,0)):=by rw[hw43];exact wN _ _
        have hl47:wa34.heap.size<wa42.heap.size:=lZ hb45
        have hx48:=lZ hb37
        have hb49:=ka44.at_ hb37 (λ h=>h)
        have kk50:=kk40.then' ka44
        have HW51:=sE hw43
        clear hw43
        refine hK _ _ ?_ (λ qZ=>?_)
        .exact ⟨Kz c0,Kz c1,Kz cx⟩
        clear hK K
        try simp only[Aw]
        have hsz:=lZ hb45
        obtain⟨d0,d1,d2,d3⟩:=Ay hb45
        have f0:=Ae hb45;have f00:=f0 0;have f01:=f0 1;have f02:=f0 2;have f03:=f0 3
        refine AV [19] ?_
        refine Ag rfl (λ K hK=>?_)
        clear f0
        go_simp
        obtain⟨wz52,hz53⟩:∃ wz52,wz52=World.setCell (World.setCell (World.setCell (World.setCell (wa42) ⟨wa34.heap.size,0,none⟩ (.int .u8 1)) ⟨wa34.heap.size,1,none⟩ (.int .i64 (c.ty:Nat))) ⟨wa34.heap.size,2,none⟩ (.int .i64 (c.ln:Nat))) ⟨wa34.heap.size,3,none⟩ (.int .i64 (c.sz:Nat)):=⟨_,rfl⟩
        rw[<- hz53]
        obtain⟨tz54,kz55⟩:=Bn hb45 _ _ _ _ wz52 hz53
        have hb56:=kz55.at_ hb49 (λ h=>by have h':wc1.heap.size=wa34.heap.size:=h;omega)
        have kk57:Kp Ab wr wz52:=kk50.trans kz55 (λ i hi h=>by have h':i=wa34.heap.size:=h;(try have hq:=Nat.le_of_eq h');(first|omega|(simp only[World.size_drew] at *;omega)))
        clear hz53 d0 f00 d1 f01 d2 f02 d3 f03
        refine hK _ _ ?_ (λ qZ=>?_)
        .exact ⟨Kz c0,Kz c1,Kz cx⟩
        clear hK K
        try simp only[Aw]
        have hsz:=lZ hb56
        obtain⟨d0,d1,d2⟩:=cells3 hb56
        have f0:=Ae hb56;have f00:=f0 0;have f01:=f0 1;have f02:=f0 2
        refine AV [20] ?_
        refine Ag rfl (λ K hK=>?_)
        clear f0
        go_simp
        obtain⟨wz58,hz59⟩:∃ wz58,wz58=World.setCell (World.setCell (World.setCell (wz52) ⟨wc1.heap.size,0,none⟩ (.int .u8 k)) ⟨wc1.heap.size,1,none⟩ (.int .i64 wds)) ⟨wc1.heap.size,2,none⟩ (.int .u64 (m:Nat)):=⟨_,rfl⟩
        rw[<- hz59]
        obtain⟨tz60,kz61⟩:=Bz hb56 _ _ _ wz58 hz59
        have hb62:=kz61.at_ tz54 (λ h=>by have h':wa34.heap.size=wc1.heap.size:=h;omega)
        have kk63:Kp Ab wr wz58:=kk57.trans kz61 (λ i hi h=>by have h':i=wc1.heap.size:=h;(try have hq:=Nat.le_of_eq h');(first|omega|(simp only[World.size_drew] at *;omega)))
        clear hz59 d0 f00 d1 f01 d2 f02
        refine hK _ _ ?_ (λ qZ=>?_)
        .exact ⟨Kz c0,Kz c1,Kz cx⟩
        clear hK K
        try simp only[Aw]
        refine Ao 21 ?_
        try simp only[Aw]
        refine wpAnyH_done (by kernel_rfl) ?_ _
        go_wp2_with fail
        go_meet
        exact⟨_,rfl,rfl,hb62,by omega,kk63⟩
       exact AllReadyH.nil
      exact AllReadyH.nil
     refine Ai rfl (λ K hK=>?_) ?_
     .go_simp
      obtain⟨wa64,hw65⟩:∃ wa64,wa64=World.drew (World.alloc wr (.cells #[.int .u8 0,.int .i64 0,.int .i64 0,.int .i64 0] 52)):=⟨_,rfl⟩
      rw[<- hw65]
      have ka66:Kp Ab wr wa64:=by rw[hw65];exact ((Kr _ _).alloc _).drew
      have hge68:wr.heap.size<=wr.heap.size:=kk0.size
      have hb67:wa64.heap[wr.heap.size]?=some (.cells #[.int .u8 0,.int .i64 0,.int .i64 0,.int .i64 0] 52 (0,0)):=by rw[hw65];exact wN _ _
      have hl69:wr.heap.size<wa64.heap.size:=lZ hb67
      have kk70:=ka66
      have HW71:=sE hw65
      clear hw65
      refine hK _ _ ?_ (λ qZ=>?_)
      .exact ⟨Kz c0,Kz c1,Kz cx⟩
      clear hK K
      try simp only[Aw]
      refine AV [12,18] ?_
      refine Ai rfl (λ K hK=>?_) ?_
      .go_simp
       with_reducible refine(HOf.out _ kk70).mono ?_
       rintro e wc72 ⟨rfl,kc73⟩
       have hb74:=kc73.at_ hb67 (λ h=>h)
       have kk75:=kk70.then' kc73
       refine hK _ _ ?_ (λ qZ=>?_)
       .exact ⟨Kz c0,Kz c1,Kz cx⟩
       clear hK K
       try simp only[Aw]
       refine Ao 13 ?_;refine Ao 14 ?_;refine Ao 15 ?_;refine Ao 16 ?_
       try simp only[Aw]
       refine AV [18] ?_
       refine Ai rfl (λ K hK=>?_) ?_
       .go_simp
        obtain⟨wa76,hw77⟩:∃ wa76,wa76=World.alloc wc72 (.cells #[.int .u8 0,.int .i64 0,.int .u64 0] 86):=⟨_,rfl⟩
        rw[<- hw77]
        have ka78:Kp Ab wc72 wa76:=by rw[hw77];exact ((Kr _ _).alloc _)
        have hge80:wr.heap.size<=wc72.heap.size:=kk75.size
        have hb79:wa76.heap[wc72.heap.size]?=some (.cells #[.int .u8 0,.int .i64 0,.int .u64 0] 86 (0,0)):=by rw[hw77];exact wN _ _
        have hl81:wc72.heap.size<wa76.heap.size:=lZ hb79
        have hx82:=lZ hb74
        have hb83:=ka78.at_ hb74 (λ h=>h)
        have kk84:=kk75.then' ka78
        have HW85:=sE hw77
        clear hw77
        refine hK _ _ ?_ (λ qZ=>?_)
        .exact ⟨Kz c0,Kz c1,Kz cx⟩
        clear hK K
        try simp only[Aw]
        have hsz:=lZ hb83
        obtain⟨d0,d1,d2,d3⟩:=Ay hb83
        have f0:=Ae hb83;have f00:=f0 0;have f01:=f0 1;have f02:=f0 2;have f03:=f0 3
        refine AV [19] ?_
        refine Ag rfl (λ K hK=>?_)
        clear f0
        go_simp
        obtain⟨wz86,hz87⟩:∃ wz86,wz86=World.setCell (World.setCell (World.setCell (World.setCell (wa76) ⟨wr.heap.size,0,none⟩ (.int .u8 1)) ⟨wr.heap.size,1,none⟩ (.int .i64 (c.ty:Nat))) ⟨wr.heap.size,2,none⟩ (.int .i64 (c.ln:Nat))) ⟨wr.heap.size,3,none⟩ (.int .i64 (c.sz:Nat)):=⟨_,rfl⟩
        rw[<- hz87]
        obtain⟨tz88,kz89⟩:=Bn hb83 _ _ _ _ wz86 hz87
        have hb90:=kz89.at_ hb79 (λ h=>by have h':wc72.heap.size=wr.heap.size:=h;omega)
        have kk91:Kp Ab wr wz86:=kk84.trans kz89 (λ i hi h=>by have h':i=wr.heap.size:=h;(try have hq:=Nat.le_of_eq h');(first|omega|(simp only[World.size_drew] at *;omega)))
        clear hz87 d0 f00 d1 f01 d2 f02 d3 f03
        refine hK _ _ ?_ (λ qZ=>?_)
        .exact ⟨Kz c0,Kz c1,Kz cx⟩
        clear hK K
        try simp only[Aw]
        have hsz:=lZ hb90
        obtain⟨d0,d1,d2⟩:=cells3 hb90
        have f0:=Ae hb90;have f00:=f0 0;have f01:=f0 1;have f02:=f0 2
        refine AV [20] ?_
        refine Ag rfl (λ K hK=>?_)
        clear f0
        go_simp
        obtain⟨wz92,hz93⟩:∃ wz92,wz92=World.setCell (World.setCell (World.setCell (wz86) ⟨wc72.heap.size,0,none⟩ (.int .u8 k)) ⟨wc72.heap.size,1,none⟩ (.int .i64 wds)) ⟨wc72.heap.size,2,none⟩ (.int .u64 (m:Nat)):=⟨_,rfl⟩
        rw[<- hz93]
        obtain⟨tz94,kz95⟩:=Bz hb90 _ _ _ wz92 hz93
        have hb96:=kz95.at_ tz88 (λ h=>by have h':wr.heap.size=wc72.heap.size:=h;omega)
        have kk97:Kp Ab wr wz92:=kk91.trans kz95 (λ i hi h=>by have h':i=wc72.heap.size:=h;(try have hq:=Nat.le_of_eq h');(first|omega|(simp only[World.size_drew] at *;omega)))
        clear hz93 d0 f00 d1 f01 d2 f02
        refine hK _ _ ?_ (λ qZ=>?_)
        .exact ⟨Kz c0,Kz c1,Kz cx⟩
        clear hK K
        try simp only[Aw]
        refine Ao 21 ?_
        try simp only[Aw]
        refine wpAnyH_done (by kernel_rfl) ?_ _
        go_wp2_with fail
        go_meet
        exact⟨_,rfl,rfl,hb96,by omega,kk97⟩
       exact AllReadyH.nil
      refine Ai rfl (λ K hK=>?_) ?_
      .go_simp
       obtain⟨wa98,hw99⟩:∃ wa98,wa98=World.alloc wa64 (.cells #[.int .u8 0,.int .i64 0,.int .u64 0] 86):=⟨_,rfl⟩
       rw[<- hw99]
       have ka100:Kp Ab wa64 wa98:=by rw[hw99];exact ((Kr _ _).alloc _)
       have hge102:wr.heap.size<=wa64.heap.size:=kk70.size
       have hb101:wa98.heap[wa64.heap.size]?=some (.cells #[.int .u8 0,.int .i64 0,.int .u64 0] 86 (0,0)):=by rw[hw99];exact wN _ _
       have hl103:wa64.heap.size<wa98.heap.size:=lZ hb101
       have hx104:=lZ hb67
       have hb105:=ka100.at_ hb67 (λ h=>h)
       have kk106:=kk70.then' ka100
       have HW107:=sE hw99
       clear hw99
       refine hK _ _ ?_ (λ qZ=>?_)
       .exact ⟨Kz c0,Kz c1,Kz cx⟩
       clear hK K
       try simp only[Aw]
       refine AV [12] ?_
       refine Ai rfl (λ K hK=>?_) ?_
       .go_simp
        with_reducible refine(HOf.out _ kk106).mono ?_
        rintro e wc108 ⟨rfl,kc109⟩
        have hb110:=kc109.at_ hb105 (λ h=>h)
        have hb111:=kc109.at_ hb101 (λ h=>h)
        have kk112:=kk106.then' kc109
        refine hK _ _ ?_ (λ qZ=>?_)
        .exact ⟨Kz c0,Kz c1,Kz cx⟩
        clear hK K
        try simp only[Aw]
        refine Ao 13 ?_;refine Ao 14 ?_;refine Ao 15 ?_;refine Ao 16 ?_
        try simp only[Aw]
        have hsz:=lZ hb110
        obtain⟨d0,d1,d2,d3⟩:=Ay hb110
        have f0:=Ae hb110;have f00:=f0 0;have f01:=f0 1;have f02:=f0 2;have f03:=f0 3
        refine AV [19] ?_
        refine Ag rfl (λ K hK=>?_)
        clear f0
        go_simp
        obtain⟨wz113,hz114⟩:∃ wz113,wz113=World.setCell (World.setCell (World.setCell (World.setCell (wc108) ⟨wr.heap.size,0,none⟩ (.int .u8 1)) ⟨wr.heap.size,1,none⟩ (.int .i64 (c.ty:Nat))) ⟨wr.heap.size,2,none⟩ (.int .i64 (c.ln:Nat))) ⟨wr.heap.size,3,none⟩ (.int .i64 (c.sz:Nat)):=⟨_,rfl⟩
        rw[<- hz114]
        obtain⟨tz115,kz116⟩:=Bn hb110 _ _ _ _ wz113 hz114
        have hb117:=kz116.at_ hb111 (λ h=>by have h':wa64.heap.size=wr.heap.size:=h;omega)
        have kk118:Kp Ab wr wz113:=kk112.trans kz116 (λ i hi h=>by have h':i=wr.heap.size:=h;(try have hq:=Nat.le_of_eq h');(first|omega|(simp only[World.size_drew] at *;omega)))
        clear hz114 d0 f00 d1 f01 d2 f02 d3 f03
        refine hK _ _ ?_ (λ qZ=>?_)
        .exact ⟨Kz c0,Kz c1,Kz cx⟩
        clear hK K
        try simp only[Aw]
        have hsz:=lZ hb117
        obtain⟨d0,d1,d2⟩:=cells3 hb117
        have f0:=Ae hb117;have f00:=f0 0;have f01:=f0 1;have f02:=f0 2
        refine AV [20] ?_
        refine Ag rfl (λ K hK=>?_)
        clear f0
        go_simp
        obtain⟨wz119,hz120⟩:∃ wz119,wz119=World.setCell (World.setCell (World.setCell (wz113) ⟨wa64.heap.size,0,none⟩ (.int .u8 k)) ⟨wa64.heap.size,1,none⟩ (.int .i64 wds)) ⟨wa64.heap.size,2,none⟩ (.int .u64 (m:Nat)):=⟨_,rfl⟩
        rw[<- hz120]
        obtain⟨tz121,kz122⟩:=Bz hb117 _ _ _ wz119 hz120
        have hb123:=kz122.at_ tz115 (λ h=>by have h':wr.heap.size=wa64.heap.size:=h;omega)
        have kk124:Kp Ab wr wz119:=kk118.trans kz122 (λ i hi h=>by have h':i=wa64.heap.size:=h;(try have hq:=Nat.le_of_eq h');(first|omega|(simp only[World.size_drew] at *;omega)))
        clear hz120 d0 f00 d1 f01 d2 f02
        refine hK _ _ ?_ (λ qZ=>?_)
        .exact ⟨Kz c0,Kz c1,Kz cx⟩
        clear hK K
        try simp only[Aw]
        refine Ao 21 ?_
        try simp only[Aw]
        refine wpAnyH_done (by kernel_rfl) ?_ _
        go_wp2_with fail
        go_meet
        exact⟨_,rfl,rfl,hb123,by omega,kk124⟩
       exact AllReadyH.nil
      exact AllReadyH.nil
     refine Ai rfl (λ K hK=>?_) ?_
     .go_simp
      obtain⟨wa125,hw126⟩:∃ wa125,wa125=World.drew (World.alloc wr (.cells #[.int .u8 0,.int .i64 0,.int .u64 0] 86)):=⟨_,rfl⟩
      rw[<- hw126]
      have ka127:Kp Ab wr wa125:=by rw[hw126];exact ((Kr _ _).alloc _).drew
      have hge129:wr.heap.size<=wr.heap.size:=kk0.size
      have hb128:wa125.heap[wr.heap.size]?=some (.cells #[.int .u8 0,.int .i64 0,.int .u64 0] 86 (0,0)):=by rw[hw126];exact wN _ _
      have hl130:wr.heap.size<wa125.heap.size:=lZ hb128
      have kk131:=ka127
      have HW132:=sE hw126
      clear hw126
      refine hK _ _ ?_ (λ qZ=>?_)
      .exact ⟨Kz c0,Kz c1,Kz cx⟩
      clear hK K
      try simp only[Aw]
      refine AV [12,17] ?_
      refine Ai rfl (λ K hK=>?_) ?_
      .go_simp
       with_reducible refine(HOf.out _ kk131).mono ?_
       rintro e wc133 ⟨rfl,kc134⟩
       have hb135:=kc134.at_ hb128 (λ h=>h)
       have kk136:=kk131.then' kc134
       refine hK _ _ ?_ (λ qZ=>?_)
       .exact ⟨Kz c0,Kz c1,Kz cx⟩
       clear hK K
       try simp only[Aw]
       refine Ao 13 ?_;refine Ao 14 ?_;refine Ao 15 ?_;refine Ao 16 ?_
       try simp only[Aw]
       refine AV [17] ?_
       refine Ai rfl (λ K hK=>?_) ?_
       .go_simp
        obtain⟨wa137,hw138⟩:∃ wa137,wa137=World.alloc wc133 (.cells #[.int .u8 0,.int .i64 0,.int .i64 0,.int .i64 0] 52):=⟨_,rfl⟩
        rw[<- hw138]
        have ka139:Kp Ab wc133 wa137:=by rw[hw138];exact ((Kr _ _).alloc _)
        have hge141:wr.heap.size<=wc133.heap.size:=kk136.size
        have hb140:wa137.heap[wc133.heap.size]?=some (.cells #[.int .u8 0,.int .i64 0,.int .i64 0,.int .i64 0] 52 (0,0)):=by rw[hw138];exact wN _ _
        have hl142:wc133.heap.size<wa137.heap.size:=lZ hb140
        have hx143:=lZ hb135
        have hb144:=ka139.at_ hb135 (λ h=>h)
        have kk145:=kk136.then' ka139
        have HW146:=sE hw138
        clear hw138
        refine hK _ _ ?_ (λ qZ=>?_)
        .exact ⟨Kz c0,Kz c1,Kz cx⟩
        clear hK K
        try simp only[Aw]
        have hsz:=lZ hb140
        obtain⟨d0,d1,d2,d3⟩:=Ay hb140
        have f0:=Ae hb140;have f00:=f0 0;have f01:=f0 1;have f02:=f0 2;have f03:=f0 3
        refine AV [19] ?_
        refine Ag rfl (λ K hK=>?_)
        clear f0
        go_simp
        obtain⟨wz147,hz148⟩:∃ wz147,wz147=World.setCell (World.setCell (World.setCell (World.setCell (wa137) ⟨wc133.heap.size,0,none⟩ (.int .u8 1)) ⟨wc133.heap.size,1,none⟩ (.int .i64 (c.ty:Nat))) ⟨wc133.heap.size,2,none⟩ (.int .i64 (c.ln:Nat))) ⟨wc133.heap.size,3,none⟩ (.int .i64 (c.sz:Nat)):=⟨_,rfl⟩
        rw[<- hz148]
        obtain⟨tz149,kz150⟩:=Bn hb140 _ _ _ _ wz147 hz148
        have hb151:=kz150.at_ hb144 (λ h=>by have h':wr.heap.size=wc133.heap.size:=h;omega)
        have kk152:Kp Ab wr wz147:=kk145.trans kz150 (λ i hi h=>by have h':i=wc133.heap.size:=h;(try have hq:=Nat.le_of_eq h');(first|omega|(simp only[World.size_drew] at *;omega)))
        clear hz148 d0 f00 d1 f01 d2 f02 d3 f03
        refine hK _ _ ?_ (λ qZ=>?_)
        .exact ⟨Kz c0,Kz c1,Kz cx⟩
        clear hK K
        try simp only[Aw]
        have hsz:=lZ hb151
        obtain⟨d0,d1,d2⟩:=cells3 hb151
        have f0:=Ae hb151;have f00:=f0 0;have f01:=f0 1;have f02:=f0 2
        refine AV [20] ?_
        refine Ag rfl (λ K hK=>?_)
        clear f0
        go_simp
        obtain⟨wz153,hz154⟩:∃ wz153,wz153=World.setCell (World.setCell (World.setCell (wz147) ⟨wr.heap.size,0,none⟩ (.int .u8 k)) ⟨wr.heap.size,1,none⟩ (.int .i64 wds)) ⟨wr.heap.size,2,none⟩ (.int .u64 (m:Nat)):=⟨_,rfl⟩
        rw[<- hz154]
        obtain⟨tz155,kz156⟩:=Bz hb151 _ _ _ wz153 hz154
        have hb157:=kz156.at_ tz149 (λ h=>by have h':wc133.heap.size=wr.heap.size:=h;omega)
        have kk158:Kp Ab wr wz153:=kk152.trans kz156 (λ i hi h=>by have h':i=wr.heap.size:=h;(try have hq:=Nat.le_of_eq h');(first|omega|(simp only[World.size_drew] at *;omega)))
        clear hz154 d0 f00 d1 f01 d2 f02
        refine hK _ _ ?_ (λ qZ=>?_)
        .exact ⟨Kz c0,Kz c1,Kz cx⟩
        clear hK K
        try simp only[Aw]
        refine Ao 21 ?_
        try simp only[Aw]
        refine wpAnyH_done (by kernel_rfl) ?_ _
        go_wp2_with fail
        go_meet
        exact⟨_,rfl,rfl,hb157,by omega,kk158⟩
       exact AllReadyH.nil
      refine Ai rfl (λ K hK=>?_) ?_
      .go_simp
       obtain⟨wa159,hw160⟩:∃ wa159,wa159=World.alloc wa125 (.cells #[.int .u8 0,.int .i64 0,.int .i64 0,.int .i64 0] 52):=⟨_,rfl⟩
       rw[<- hw160]
       have ka161:Kp Ab wa125 wa159:=by rw[hw160];exact ((Kr _ _).alloc _)
       have hge163:wr.heap.size<=wa125.heap.size:=kk131.size
       have hb162:wa159.heap[wa125.heap.size]?=some (.cells #[.int .u8 0,.int .i64 0,.int .i64 0,.int .i64 0] 52 (0,0)):=by rw[hw160];exact wN _ _
       have hl164:wa125.heap.size<wa159.heap.size:=lZ hb162
       have hx165:=lZ hb128
       have hb166:=ka161.at_ hb128 (λ h=>h)
       have kk167:=kk131.then' ka161
       have HW168:=sE hw160
       clear hw160
       refine hK _ _ ?_ (λ qZ=>?_)
       .exact ⟨Kz c0,Kz c1,Kz cx⟩
       clear hK K
       try simp only[Aw]
       refine AV [12] ?_
       refine Ai rfl (λ K hK=>?_) ?_
       .go_simp
        with_reducible refine(HOf.out _ kk167).mono ?_
        rintro e wc169 ⟨rfl,kc170⟩
        have hb171:=kc170.at_ hb166 (λ h=>h)
        have hb172:=kc170.at_ hb162 (λ h=>h)
        have kk173:=kk167.then' kc170
        refine hK _ _ ?_ (λ qZ=>?_)
        .exact ⟨Kz c0,Kz c1,Kz cx⟩
        clear hK K
        try simp only[Aw]
        refine Ao 13 ?_;refine Ao 14 ?_;refine Ao 15 ?_;refine Ao 16 ?_
        try simp only[Aw]
        have hsz:=lZ hb172
        obtain⟨d0,d1,d2,d3⟩:=Ay hb172
        have f0:=Ae hb172;have f00:=f0 0;have f01:=f0 1;have f02:=f0 2;have f03:=f0 3
        refine AV [19] ?_
        refine Ag rfl (λ K hK=>?_)
        clear f0
        go_simp
        obtain⟨wz174,hz175⟩:∃ wz174,wz174=World.setCell (World.setCell (World.setCell (World.setCell (wc169) ⟨wa125.heap.size,0,none⟩ (.int .u8 1)) ⟨wa125.heap.size,1,none⟩ (.int .i64 (c.ty:Nat))) ⟨wa125.heap.size,2,none⟩ (.int .i64 (c.ln:Nat))) ⟨wa125.heap.size,3,none⟩ (.int .i64 (c.sz:Nat)):=⟨_,rfl⟩
        rw[<- hz175]
        obtain⟨tz176,kz177⟩:=Bn hb172 _ _ _ _ wz174 hz175
        have hb178:=kz177.at_ hb171 (λ h=>by have h':wr.heap.size=wa125.heap.size:=h;omega)
        have kk179:Kp Ab wr wz174:=kk173.trans kz177 (λ i hi h=>by have h':i=wa125.heap.size:=h;(try have hq:=Nat.le_of_eq h');(first|omega|(simp only[World.size_drew] at *;omega)))
        clear hz175 d0 f00 d1 f01 d2 f02 d3 f03
        refine hK _ _ ?_ (λ qZ=>?_)
        .exact ⟨Kz c0,Kz c1,Kz cx⟩
        clear hK K
        try simp only[Aw]
        have hsz:=lZ hb178
        obtain⟨d0,d1,d2⟩:=cells3 hb178
        have f0:=Ae hb178;have f00:=f0 0;have f01:=f0 1;have f02:=f0 2
        refine AV [20] ?_
        refine Ag rfl (λ K hK=>?_)
        clear f0
        go_simp
        obtain⟨wz180,hz181⟩:∃ wz180,wz180=World.setCell (World.setCell (World.setCell (wz174) ⟨wr.heap.size,0,none⟩ (.int .u8 k)) ⟨wr.heap.size,1,none⟩ (.int .i64 wds)) ⟨wr.heap.size,2,none⟩ (.int .u64 (m:Nat)):=⟨_,rfl⟩
        rw[<- hz181]
        obtain⟨tz182,kz183⟩:=Bz hb178 _ _ _ wz180 hz181
        have hb184:=kz183.at_ tz176 (λ h=>by have h':wa125.heap.size=wr.heap.size:=h;omega)
        have kk185:Kp Ab wr wz180:=kk179.trans kz183 (λ i hi h=>by have h':i=wr.heap.size:=h;(try have hq:=Nat.le_of_eq h');(first|omega|(simp only[World.size_drew] at *;omega)))
        clear hz181 d0 f00 d1 f01 d2 f02
        refine hK _ _ ?_ (λ qZ=>?_)
        .exact ⟨Kz c0,Kz c1,Kz cx⟩
        clear hK K
        try simp only[Aw]
        refine Ao 21 ?_
        try simp only[Aw]
        refine wpAnyH_done (by kernel_rfl) ?_ _
        go_wp2_with fail
        go_meet
        exact⟨_,rfl,rfl,hb184,by omega,kk185⟩
       exact AllReadyH.nil
      exact AllReadyH.nil
     exact AllReadyH.nil
    case rest=>
     obtain⟨b1,rfl,rfl,hb1,hb1w,kx⟩:=hcut
     have hsx:=kx.size
     have hbx:b<wc.heap.size:=by omega
     have cxx:=kx.cell cx (λ h=>h)
     rw[g1] at cxx
     obtain⟨d0,d1,d2,d3⟩:=Ay hb1
     have hlb:=lZ hb1
     have HKX:=sE kx
     have O1:wc.ownsRow w.heap.size 3 1 u5 os.length (AC (os.map Cel.sz)):=kx.owns HO.out (λ _ _ h=>h)
     have HO1:=sE O1
     have HKC:Sl (Kp Ab w wc):=⟨HK.out.then' kx⟩
     have HB1:=sE hb1
     have holen:os.length=j:=HS.out.2.1
     have HOL:=sE holen
     have hwsz:w.heap.size<=wc.heap.size:=HKC.out.size
     clear c0 c1 cx hb1 O1 kx g1 holen
     by_cases hlow:(c.g:Int)<(e:Int)
     .have HF:Sl (Be W P.n P.ts (λ i=>x i 0) 0 len 0=none):=⟨HS.out.fails hjl (.inr (by show x j 0<_;rw [HG1.out];exact hlow))⟩
      have p1:decide ((c.g:Int)<(e:Int))=true:=dT hlow
      go_wp2
      exact bodyPost_ret (v:=.int .i64 2) (by simp[results,results88,go_sem]) rfl (.inl ⟨HF.out,rfl,HD.out.Ad HKC.out,HKC.out⟩)
     .have HN:Sl (BX W P.n P.ts (λ i=>x i 0) len (j+1) (os++[c]) c.fin):=⟨HS.out.next hjl HD.out.row.fits HC.out (by show ¬ x j 0<_;rw [HG1.out];exact hlow)⟩
      have p1:decide ((c.g:Int)<(e:Int))=false:=dF hlow
      have hol:os.length<=1000:=by have:=HOL.out;omega
      go_wp2_with (at_builtin;obtain ⟨i0,hi,hz0,hz1,hz2⟩:=info_parts Dj;go_loud (refine wpList_append_lies _ rfl (.tmp 45) (.tmp 48) 82 rfl w.heap.size 3 i0 _ 1 8 A8 hi hz0 hz1 hz2 rfl (by omega) u5 os.length (AC (os.map Cel.sz)) rfl (HO1.out.alloc _) ⟨wc.heap.size,0,none⟩ 1 1 [.int .i64 (c.sz:Nat)] rfl rfl (World.news_of_block (wN wc _)) (by intro u hu;simp at hu;subst hu;rfl) (by omega) (by unfold maxLen;omega) (by omega) (by simp;omega) (wc.heap.size+1) (by simp) ?_);intro g cap w5 hown5 hgrow hat hlt;clear hi hz0 hz1 hz2)
      have k5:Kp Ab w w5:=(HKC.out.alloc _).grown hgrow (λ k e hl=>absurd (HO1.out.lt k e).1 (by omega))
      have kU:Kp (λ b=>u5.ownBlock=some b) wc w5:=(((Kr Ab wc).alloc _).Al _).grown hgrow (λ k e _=>e)
      have hsum:IntKind.i64.wrap ((c.g:Int)+(c.sz:Int))=((c.fin:Nat):Int):=by rw[Cel.fin,IntKind.wrap_i64];omega
      have hrow5:w5.ownsRow w.heap.size 3 1 (.slice (some ⟨g,0,none⟩) (os.length+1) cap) (os++[c]).length (AC ((os++[c]).map Cel.sz)):=by
       rw[List.map_append,AC,List.map_append,List.length_append];exact hown5
      have HR5:=sE hrow5
      have HK5:=sE k5
      have hz5:¬ u5.ownBlock=some b:=λ e=>by have:=(HO.out.lt b e).1;omega
      have hz6:¬ u5.ownBlock=some b1:=λ e=>by have:=(HO.out.lt b1 e).2;omega
      have cx5:=kU.cell cxx hz5
      have e3:=kU.cell d3 hz6
      have hs5:=kU.size
      have hfb:c.fin<=32768:=by rw[Cel.fin];exact hcb
      clear cxx d0 d1 d2 d3 hown5 hgrow hat k5 kU hz5 hz6 hrow5
      go_wp2_with fail
      go_quiet (fail)
      go_wp2
      exact⟨⟨j+1,os++[c],c.fin,by omega,rfl,by go_num,hfb,HN,(Kp.Aj (S:=Ab) _).owns HR5.out (λ _ _ h=>h),HK5.out.drewN _⟩,by simp only[intOf];omega⟩
  .have hjl':¬ (j:Int)<(len:Int):=by omega
   obtain rfl:j=len:=by omega
   have hR:=HS.out.done
   have hf:=HD.out.row.fits
   obtain⟨r1,r2,r3,r4⟩:=Dc hf hR (Nat.zero_le _)
   have HR:=sE hR
   have HRi:=sE r1
   have HXo:Sl (∀ i o,os[i]?=some o->x i 0=(o.g:Nat)):=⟨λ i o ho=>by have:=r3 i o ho;rwa [Nat.zero_add] at this⟩
   have HLen:=sE r2
   obtain⟨capr,c0,c1⟩:=(HD.out.Ad hk).head
   have HRow:Sl (∀ i o,os[i]?=some o->∃ gb cap5,u5=.slice (some ⟨gb,0,none⟩) j cap5/\w.heap.size<=gb/\gb<wr.heap.size/\wr.cell? ⟨gb,i,none⟩=some (.int .i64 (o.sz:Nat))):=⟨λ i o ho=>by
    have hil:=(gE.1 ho).1
    obtain⟨_,h⟩:=hown
    rcases h with ⟨_,h0⟩|⟨gb,cap5,cur,hu,hb,hh,_,_,hsz,htk⟩
    .omega
    .refine ⟨gb,cap5,by rw[hu,r2],hb,lZ hh,?_⟩
     have h9:=congrArg (λ l=>l[i]?) htk
     simp only[List.getElem?_take,Nat.mul_one,AC,List.getElem?_map,ho,Option.map_some] at h9
     rw[if_pos hil,Array.getElem?_toList] at h9
     simp only[World.cell?,hh]
     exact h9⟩
   clear hown hk c0 c1 r1 r2 r3 r4 hR hf
   obtain⟨wo,rfl⟩:∃ wo:World,wo=wr:=⟨_,rfl⟩
   go_wp2_with fail
   go_loopw [6,11] (λ v6 v11 w'=>∃ (i e':Nat) (W1:Nat->Nat) (q':Nat),i<=j/\v6=.int .i64 (e':Nat)/\v11=.int .i64 (i:Nat)/\Sl (BH e' (os.drop i) (P.n/2))/\Sl (AR W1 e' (os.drop i) (P.n/2)=AR W 0 os (P.n/2))/\Sl (DocAt w' rb q' P.n W1 lv)/\(q'=q\/w.heap.size<=q')/\Kp (λ k=>k=rb) wo w') (λ _ y _=>j-(intOf y).toNat)
   case atStart=>exact ⟨0,0,W,q,Nat.zero_le _,rfl,rfl,⟨HRi.out⟩,⟨rfl⟩,⟨HD.out.Ad HK.out⟩,.inl rfl,Kr _ _⟩
   case round=>
    obtain⟨i,e',W1,q',hi,rfl,rfl,hri,hst,hd',hq',hkr⟩:=hrel
    have HQ:=sE hq'
    have HKR:=sE hkr
    clear hq'
    by_cases hij:i<j
    .have hij':(i:Int)<(j:Int):=by omega
     obtain⟨ob,hob⟩:∃ ob,os[i]?=some ob:=⟨os[i]'(by have:=HLen.out;omega),by simp⟩
     obtain⟨b,o,rfl,hbl,cx0,xb1,xb2⟩:=HX.out i (by omega)
     have hx9:=HXo.out i ob hob
     rw[hx9] at cx0
     obtain⟨gb,cap5,rfl,hgb1,hgb2,cz0⟩:=HRow.out i ob hob
     obtain⟨s1,s2,s3,s4⟩:=rising_step hob hri.out
     have hst2:=settle_step (W:=W1) (e:=e') (H:=P.n/2) hob
     have HST:Sl (AR (AX W1 e' (ob.g-e')) ob.fin (os.drop (i+1)) (P.n/2)=AR W 0 os (P.n/2)):=⟨hst2.symm.trans hst.out⟩
     have HR4:=sE s4
     have hfin:ob.g+ob.sz<=32768:=by unfold Cel.fin at s3;omega
     have HM:Sl ((ob.g:Int)-(e':Int)=((ob.g-e':Nat):Int)):=⟨by omega⟩
     have hbr:¬ b=rb:=λ h=>HVB.out (by omega) (by rw[h];rfl)
     have hgr:¬ gb=rb:=by omega
     have cx:=hkr.cell (HK.out.cell cx0 (λ h=>h)) hbr
     have cz:=hkr.cell cz0 hgr
     have HL:=sE (DR rb q' P.n W1 lv e' (ob.g-e') wr hd'.out (by unfold Cel.fin at s3;omega))
     have hws:w.heap.size<=wr.heap.size:=Nat.le_trans HK.out.size hkr.size
     have hbw:b<wr.heap.size:=by omega
     have hgw:gb<wr.heap.size:=Nat.lt_of_lt_of_le hgb2 hkr.size
     have hsum:Sl (IntKind.i64.wrap ((ob.g:Int)+(ob.sz:Int))=((ob.fin:Nat):Int)):=⟨by rw[Cel.fin,IntKind.wrap_i64];omega⟩
     clear hst2 hx9 cx0 cz0 hkr hst hri s3 s4 hob
     go_wp2_with fail
     rw[HM.out]
     refine HL.out.mono ?_
     rintro e w6 ⟨rfl,q2,D2,hq2,k6⟩
     have cx6:=k6.cell cx hbr
     have cz6:=k6.cell cz hgr
     have hs6:=k6.size
     have HK6:Sl (Kp (λ k=>k=rb) wo w6):=⟨HKR.out.trans k6 (λ _ _ h=>h)⟩
     have HD2:=sE D2
     have HQ2:Sl (q2=q\/w.heap.size<=q2):=⟨by rcases hq2 with h|h;rw [h];exact HQ.out;exact .inr (by omega)⟩
     have hsm:=hsum.out
     clear cx cz D2 hq2 k6 hgr hbr
     go_wp2_with fail
     go_quiet (fail)
     go_wp2
     exact⟨⟨i+1,ob.fin,_,q2,by omega,rfl,by go_num,⟨HR4.out⟩,⟨HST.out⟩,⟨HD2.out.Ad (Kp.Aj _)⟩,HQ2.out,HK6.out.drewN _⟩,by simp only[intOf];omega⟩
    .have hij':¬ (i:Int)<(j:Int):=by omega
     have hi0:os.drop i=[]:=List.drop_eq_nil_of_le (by have:=HLen.out;omega)
     have hst2:=hst.out
     have hri2:=hri.out
     rw[hi0] at hst2 hri2
     have he2:e'<=P.n/2:=hri2
     have HST:Sl (AX W1 e' (P.n/2-e')=AR W 0 os (P.n/2)):=⟨hst2⟩
     have HM:Sl ((P.n:Int)/2-(e':Int)=((P.n/2-e':Nat):Int)):=⟨by omega⟩
     have HL:=sE (DR rb q' P.n W1 lv e' (P.n/2-e') wr hd'.out (by omega))
     obtain⟨capr,c0,c1⟩:=hd'.out.head
     have hws:w.heap.size<=wr.heap.size:=Nat.le_trans HK.out.size hkr.size
     clear hst2 hri2 hi0 hst hri hkr
     go_wp2_with fail
     rw[HM.out]
     refine HL.out.mono ?_
     rintro e w6 ⟨rfl,q2,D2,hq2,k6⟩
     have HK6:Sl (Kp (λ k=>k=rb) wo w6):=⟨HKR.out.trans k6 (λ _ _ h=>h)⟩
     have HD2:=sE D2
     have HQ2:Sl (q2=q\/w.heap.size<=q2):=⟨by rcases hq2 with h|h;rw [h];exact HQ.out;exact .inr (by omega)⟩
     clear D2 hq2 k6 c0 c1
     go_wp2
     exact bodyPost_ret (v:=.int .i64 0) (by simp[results,results88,go_sem]) rfl (.inr ⟨os,HR.out,rfl,(HK.out.Al _).trans HK6.out (λ _ _ h=>h),q2,HQ2.out,by rw[<- HST.out];exact HD2.out⟩)

end

section
open Go.RowKit

theorem VHead_at(b a:Nat)(c:Cel)(k wds:Int)(m:Nat)(w:World)(hV:Bt w b a c k wds m):
  Calls prog 16 #[.pointer (some ⟨b,0,none⟩)] w λ e w'=>e=.returned (.agg #[.int .u8 (c.tag:Nat),.int .i64 (c.ty:Nat),.int .i64 (c.ln:Nat),.int .i64 (c.sz:Nat)])/\Kp Ab w w':=by
 obtain⟨w1,hw1⟩:∃ w1,w1=w.alloc (.cells #[.int .u8 0,.int .i64 0,.int .i64 0,.int .i64 0] 52):=⟨_,rfl⟩
 have kA:Kp Ab w w1:=by rw[hw1];exact (Kr _ w).alloc _
 have b0:w1.heap[w.heap.size]?=some (.cells #[.int .u8 0,.int .i64 0,.int .i64 0,.int .i64 0] 52 (0,0)):=by rw[hw1];exact wN w _
 have hl:=lZ b0
 obtain⟨v0,v1,v2,v3,v4,v5,v6,v7,v8⟩:=(hV.Ad kA).cells
 have hlt:=lZ (hV.Ad kA)
 obtain⟨tg,htg⟩:∃ x,c.tag=x:=⟨_,rfl⟩
 obtain⟨ty,hty⟩:∃ x,c.ty=x:=⟨_,rfl⟩
 obtain⟨ln,hln⟩:∃ x,c.ln=x:=⟨_,rfl⟩
 obtain⟨sz,hsz⟩:∃ x,c.sz=x:=⟨_,rfl⟩
 rw[htg] at v2 ⊢
 rw[hty] at v3 ⊢
 rw[hln] at v4 ⊢
 rw[hsz] at v5 ⊢
 obtain⟨d0,d1,d2,d3⟩:=Ay b0
 have f0:=Ae b0
 have f00:=f0 0
 have f01:=f0 1
 have f02:=f0 2
 have f03:=f0 3
 have HB:=sE b0
 clear b0 f0 hV htg hty hln hsz v0 v1 v6 v7 v8
 subst hw1
 go_enter func16,ntmps16
 go_wp2
 obtain⟨e0,e1,e2,e3⟩:=Ay (wN w (.cells #[.int .u8 (tg:Nat),.int .i64 (ty:Nat),.int .i64 (ln:Nat),.int .i64 (sz:Nat)] 52))
 exact bodyPost_ret (v:=.agg #[.int .u8 (tg:Nat),.int .i64 (ty:Nat),.int .i64 (ln:Nat),.int .i64 (sz:Nat)]) (by simp[results,results16,go_sem,e0,e1,e2,e3]) rfl ⟨rfl,(Kr _ _).alloc _⟩

theorem run_field_size(a b c d:Int)(w:World):(Instr.field 52 (.agg #[.int .u8 a,.int .i64 b,.int .i64 c,.int .i64 d]) 3).run prog w=.ok (.int .i64 d) w:=by kernel_rfl

def EA(os:List Cel):List Nat:=0::os.map Cel.fin

theorem endsL_last(os:List Cel):(EA os)[os.length]?=some ((os.getLast?.map Cel.fin).getD 0):=by
 rcases List.eq_nil_or_concat os with h|⟨l,z,h⟩
 .subst h;rfl
 .rw [List.concat_eq_append] at h
  subst h
  simp[EA]

theorem endsL_snoc(os:List Cel)(c:Cel):EA (os++[c])=EA os++[c.fin]:=by simp[EA]

theorem endsL_succ{os:List Cel}{i:Nat}{o:Cel}(h:os[i]?=some o):(EA os)[i+1]?=some o.fin:=by simp[EA,h]

theorem endsL_len(os:List Cel):(EA os).length=os.length+1:=by simp[EA]

theorem owns_num{w:World}{base:Nat}{E:TypeId}{v:Value}{n:Nat}{l:List Nat}(h:w.ownsRow base E 1 v n (AC l))(hn:n=l.length){i z:Nat}(hi:l[i]?=some z):
  ∃ gb cap,v=.slice (some ⟨gb,0,none⟩) n cap/\base<=gb/\gb<w.heap.size/\w.cell? ⟨gb,i,none⟩=some (.int .i64 (z:Nat)):=by
 have hil:=(gE.1 hi).1
 obtain⟨_,h⟩:=h
 rcases h with ⟨_,h0⟩|⟨gb,cap5,cur,hu,hb,hh,_,_,hsz,htk⟩
 .omega
 .refine ⟨gb,cap5,hu,hb,lZ hh,?_⟩
  have h9:=congrArg (λ l=>l[i]?) htk
  simp only[List.getElem?_take,Nat.mul_one,AC,List.getElem?_map,hi,Option.map_some] at h9
  rw[if_pos (by omega),Array.getElem?_toList] at h9
  simp only[World.cell?,hh]
  exact h9

theorem owns_one(w:World)(E:TypeId)(z:Nat):(w.alloc (.cells #[.int .i64 (z:Nat)] E)).ownsRow w.heap.size E 1 (.slice (some ⟨w.heap.size,0,none⟩) 1 1) 1 (AC [z]):=
 ⟨rfl,.inr ⟨w.heap.size,1,#[.int .i64 (z:Nat)],rfl,Nat.le_refl _,wN w _,Nat.le_refl _,by decide,rfl,rfl⟩⟩

def SSettlePost(P:Sp)(W:Nat->Nat)(cs:List Cel)(x:Nat->Int)(len:Nat)(w:World)(e:Ending)(w':World):Prop:=
 (Be W P.n P.ts x 0 len 0=none/\e=.returned (.int .i64 2)/\Az w' P W cs/\Kp Ab w w')\/
 (∃ os,Be W P.n P.ts x 0 len 0=some os/\e=.returned (.int .i64 0)/\Kp P.own w w'/\Az w' P (AR W 0 os (P.n/2)) (Bd 0 os (P.n/2)))

def SetI2(P:Sp)(W:Nat->Nat)(x:Nat->Int)(len:Nat)(w:World)(v5 v18:Value)(wr:World):Prop:=
 ∃ (j:Nat) (os:List Cel) (e:Nat),j<=len/\v18=.int .i64 (j:Nat)/\e<=32768/\Sl (BX W P.n P.ts x len j os e)/\Sl (wr.ownsRow w.heap.size 3 1 v5 (os.length+1) (AC (EA os)))/\Kp Ab w wr

attribute [local go_sem] run_field_size

def SSettleTo(P:Sp)(W:Nat->Nat)(f:Nat->Bool)(x:Nat->Int)(len:Nat)(w:World)(e:Ending)(w':World):Prop:=
 (Be W P.n P.ts x 0 len 0=none/\e=.returned (.int .i64 2)/\SpaceAt w' P W f/\Kp Ab w w')\/
 (∃ os,Be W P.n P.ts x 0 len 0=some os/\e=.returned (.int .i64 0)/\Kp P.own w w'/\Az w' P (AR W 0 os (P.n/2)) (Bd 0 os (P.n/2)))

set_option maxRecDepth 20000 in
theorem SSettle_to(P:Sp)(W:Nat->Nat)(f:Nat->Bool)(v:Value)(len:Nat)(x:Nat->Nat->Int)(w:World)(hS:SpaceAt w P W f)
  (hx:Bw 1 w v len x) (hlen:len<=1000) (hvb:0<len->∀ b,v.ownBlock=some b->¬ P.own b):
  Calls prog 79 #[.pointer (some ⟨P.s,0,none⟩),v] w (SSettleTo P W f (λ i=>x i 0) len w):=by
 have HSp:=sE hS
 have hn:=hS.ar.small
 have hlt:∀ k,P.all k->k<w.heap.size:=hS.lt
 have hlts:=hlt P.s (.inr (.inl rfl))
 obtain⟨va,vc,rfl,hxs⟩:=ints_at hx
 have HX:=sE hxs
 have HS0:=sE hS
 have HVB:=sE hvb
 have HLT:=sE hlt
 clear hS hx hxs hvb hlt
 go_enter func79,ntmps79
 go_wp2_with fail
 go_loopw [5,18] (λ v5 v18 wr=>SetI2 P W (λ i=>x i 0) len w v5 v18 wr) (λ _ y _=>len-(intOf y).toNat)
 case atStart=>exact ⟨0,[],0,Nat.zero_le _,rfl,Nat.zero_le _,⟨BX.start _ _ _ _ _⟩,⟨owns_one w _ 0⟩,(Kr _ _).alloc _⟩
 case round=>
  obtain⟨j,os,e,hj,rfl,he,HS,HO,hk⟩:=hrel
  have HK:=sE hk
  by_cases hjl:j<len
  .have hjl':(j:Int)<(len:Int):=by omega
   obtain⟨b,o,rfl,hbl,cx0,xb1,xb2⟩:=HX.out j hjl
   have cx:=hk.cell cx0 (λ h=>h)
   obtain⟨s0,s1,s2⟩:=(HS0.out.Ad hk).head
   have hsw:P.s<wr.heap.size:=Nat.lt_of_lt_of_le hlts hk.size
   have hbr:b<wr.heap.size:=Nat.lt_of_lt_of_le hbl hk.size
   have holen:os.length=j:=HS.out.2.1
   have hlast:(EA os)[os.length]?=some e:=by rw[endsL_last,<- HS.out.2.2.2.2]
   obtain⟨gb,cap5,rfl,hg1,hg2,cz⟩:=owns_num HO.out (by rw[endsL_len]) hlast
   clear hk cx0
   have hgw:gb<wr.heap.size:=hg2
   go_wp2_with fail
   cases hc:BO W P.n P.ts (x j 0) with
   |none=>
    have HF:Sl (Be W P.n P.ts (λ i=>x i 0) 0 len 0=none):=⟨HS.out.fails hjl (.inl hc)⟩
    have HOf:Sl (∀ W',Kp Ab wr W'->Calls prog 13 #[.pointer (some ⟨P.a,0,none⟩),.pointer (some ⟨P.t,0,none⟩),.int .i64 (x j 0)] W' (SOfNo W')):=⟨λ W' kk=>by
     have kw:=HK.out.then' kk
     refine(SOf_any (x j 0) P.a P.q P.n P.t P.tq W P.ts W' (HS0.out.fl.Ad kw) (HS0.out.ar.Ad kw) (HS0.out.Ad kw).tb).mono λ e w' hp=>?_
     unfold Dh at hp
     rw[hc] at hp
     exact hp⟩
    clear hc
    go_region_held3 (λ w'=>w'.cell? ⟨P.s,0,none⟩=some (.pointer (some ⟨P.a,0,none⟩))/\w'.cell? ⟨P.s,1,none⟩=some (.pointer (some ⟨P.t,0,none⟩)))
     (exact ⟨Ac KU s0,Ac KU s1⟩)
     (first|(go_at_call 13;(with_reducible refine(HOf.out _ KU).mono ?_);rintro e w9 ⟨E,hE,rfl,k9⟩;have K9:Kp Ab wr w9:=Kp.then' KU k9))
    have hb:(E !=0)=true:=by simpa using hE
    have HKF:=HK.out.then' K9
    clear hE s0 s1 cx cz
    go_wp2
    exact bodyPost_ret (v:=.int .i64 2) (by simp[results,results79,go_sem]) rfl (.inl ⟨HF.out,rfl,HSp.out.Ad HKF,HKF⟩)
   |some c=>
    have hf:=HS0.out.ar.fits
    obtain⟨g1,g2,g3,g4,g5,g6⟩:=Eg hc hf
    have HOf:Sl (∀ W',Kp Ab wr W'->Calls prog 13 #[.pointer (some ⟨P.a,0,none⟩),.pointer (some ⟨P.t,0,none⟩),.int .i64 (x j 0)] W' (SOfYes P.a P.ts c W')):=⟨λ W' kk=>by
     have kw:=HK.out.then' kk
     refine(SOf_any (x j 0) P.a P.q P.n P.t P.tq W P.ts W' (HS0.out.fl.Ad kw) (HS0.out.ar.Ad kw) (HS0.out.Ad kw).tb).mono λ e w' hp=>?_
     unfold Dh at hp
     rw[hc] at hp
     exact hp⟩
    have hcb:c.g+c.sz<=32768:=by unfold Cel.fin at g4;omega
    have HC:=sE hc
    have HG1:=sE g1
    clear hc hf g2 g5 g6 g4 g1
    go_region_held3 (λ w'=>w'.cell? ⟨P.s,0,none⟩=some (.pointer (some ⟨P.a,0,none⟩))/\w'.cell? ⟨P.s,1,none⟩=some (.pointer (some ⟨P.t,0,none⟩)))
     (exact ⟨Ac KU s0,Ac KU s1⟩)
     (first|(go_at_call 13;(with_reducible refine(HOf.out _ KU).mono ?_);rintro e w9 ⟨vb,k,wds,m,hty,rfl,hvw,hvb,k9⟩;have K9:Kp Ab wr w9:=Kp.then' KU k9))
    have HKF:Sl (Kp Ab w w9):=⟨HK.out.then' K9⟩
    have cx9:=K9.cell cx (λ h=>h)
    rw[HG1.out] at cx9
    have cz9:=K9.cell cz (λ h=>h)
    have hs9:=K9.size
    have HVw:=sE hvw
    have HO9:Sl (w9.ownsRow w.heap.size 3 1 (.slice (some ⟨gb,0,none⟩) (os.length+1) cap5) (os.length+1) (AC (EA os))):=⟨K9.owns HO.out (λ _ _ h=>h)⟩
    have HOL:=sE holen
    rw[holen] at HO9 cz9
    have HVH:=sE (VHead_at vb P.a c k wds m w9 hvw)
    clear s0 s1 cx cz K9 hvw hty holen hlast k9
    by_cases hlow:(c.g:Int)<(e:Int)
    .have HF:Sl (Be W P.n P.ts (λ i=>x i 0) 0 len 0=none):=⟨HS.out.fails hjl (.inr (by show x j 0<_;rw [HG1.out];exact hlow))⟩
     have p1:decide ((c.g:Int)<(e:Int))=true:=dT hlow
     rw[HG1.out]
     go_wp2
     exact bodyPost_ret (v:=.int .i64 2) (by simp[results,results79,go_sem]) rfl (.inl ⟨HF.out,rfl,HSp.out.Ad HKF.out,HKF.out⟩)
    .have HN:Sl (BX W P.n P.ts (λ i=>x i 0) len (j+1) (os++[c]) c.fin):=⟨HS.out.next hjl HS0.out.ar.fits HC.out (by show ¬ x j 0<_;rw [HG1.out];exact hlow)⟩
     have p1:decide ((c.g:Int)<(e:Int))=false:=dF hlow
     have hsum:(c.g:Int)+(c.sz:Int)=((c.fin:Nat):Int):=by rw[Cel.fin];omega
     have HSum:=sE hsum
     have hfb:c.fin<=32768:=by rw[Cel.fin];exact hcb
     clear hsum
     rw[HG1.out]
     go_wp2_with fail
     refine HVH.out.mono ?_
     rintro e w10 ⟨rfl,k10⟩
     have HO10:=sE (k10.owns HO9.out (λ _ _ h=>h))
     have HK10:=sE (HKF.out.then' k10)
     have hs10:=k10.size
     have hws:w.heap.size<=w10.heap.size:=HK10.out.size
     clear cz9 cx9 k10
     go_wp2_with (at_builtin;obtain ⟨i0,hi,hz0,hz1,hz2⟩:=info_parts Dj;go_loud (refine wpList_append_lies _ rfl (.tmp 47) (.tmp 53) 82 rfl w.heap.size 3 i0 _ 1 8 A8 hi hz0 hz1 hz2 rfl (by omega) _ (j+1) (AC (EA os)) rfl (HO10.out.alloc _) ⟨w10.heap.size,0,none⟩ 1 1 [.int .i64 (c.fin:Nat)] rfl rfl (World.news_of_block (by rw[<- HSum.out];exact wN w10 _)) (by intro u hu;simp at hu;subst hu;rfl) (by omega) (by unfold maxLen;omega) (by omega) (by simp;omega) (w10.heap.size+1) (by simp) ?_);intro g cap w11 hown11 hgrow hat hlt;clear hi hz0 hz1 hz2)
     have k11:Kp Ab w w11:=(HK10.out.alloc _).grown hgrow (λ k e hl=>absurd (HO10.out.lt k e).1 (by omega))
     have h11:w11.ownsRow w.heap.size 3 1 (.slice (some ⟨g,0,none⟩) (j+1+1) cap) ((os++[c]).length+1) (AC (EA (os++[c]))):=by
      rw[endsL_snoc,AC,List.map_append,List.length_append,HOL.out];exact hown11
     have HO11:=sE h11
     have HK11:=sE k11
     clear hown11 hgrow hat k11 h11
     go_wp2
     exact⟨⟨j+1,os++[c],c.fin,by omega,by go_num,hfb,HN,HO11,HK11.out⟩,by simp only[intOf];omega⟩
  .have hjl':¬ (j:Int)<(len:Int):=by omega
   obtain rfl:j=len:=by omega
   have hR:=HS.out.done
   have hf:=HS0.out.ar.fits
   obtain⟨r1,r2,r3,r4⟩:=Dc hf hR (Nat.zero_le _)
   have HR:=sE hR
   have HRi:=sE r1
   have HXo:Sl (∀ i o,os[i]?=some o->x i 0=(o.g:Nat)):=⟨λ i o ho=>by have:=r3 i o ho;rwa [Nat.zero_add] at this⟩
   have HLen:=sE r2
   have HTag:Sl (∀ o∈os,o.tag=1):=⟨λ o ho=>(r1.mem ho).2.1⟩
   have S0:=HS0.out.Ad hk
   obtain⟨s0,s1,s2⟩:=S0.head
   have hsw:P.s<wr.heap.size:=Nat.lt_of_lt_of_le hlts hk.size
   have HSo:=sE S0
   have HGr:Sl (∀ W' (W1:Nat->Nat) f1,SpaceAt W' P W1 f1->Calls prog 42 #[.pointer (some ⟨P.s,0,none⟩)] W' λ e w'=>e=.returned (.int .i64 ((P.n/2:Nat):Int))/\w'=W'):=⟨λ W' W1 f1 h=>Fe P W1 f1 W' h⟩
   clear hk r1 r2 r3 r4 hR hf S0 s0 s1
   obtain⟨wo,rfl⟩:∃ wo:World,wo=wr:=⟨_,rfl⟩
   go_wp2_with fail
   refine Co 6 (by kernel_rfl) (by kernel_rfl) ?_
   simp only[List.take_succ_cons,List.take_zero,List.drop_succ_cons,List.drop_zero]
   repeat (go_big_quiet_step (((go_at_call 42;with_reducible refine Calls.quiet_of_same (HGr.out _ W f ?_);(first|exact HSo.out|exact HSo.out.Ad (Kr Ab _).drew|exact HSo.out.Ad (Kp.Aj _)|exact HSo.out.Ad ((Kp.Aj _).drewN _))))))
   refine wpQuiet_nil ?_
   intro _ hw'
   obtain⟨nq,hw''⟩:=hw'
   subst hw''
   go_wp2_with fail
   refine(ClearRun_int 0 ((P.n/2:Nat):Int) (P.n/2) P.b P.bq f _ (HSo.out.Ad (Kp.Aj _)).bt).mono ?_
   rintro e w3 ⟨rfl,k3,b3⟩
   have S3:=(HSo.out.Ad (Kp.Aj nq)).bits k3 b3
   have K3:Kp P.own wo w3:=((Kp.Aj (S:=P.own) nq)).trans k3 (λ b _ hb=>.inr (.inr hb))
   obtain⟨f3,hf3⟩:∃ f3,FQ f (P.n/2) 0 ((P.n/2:Nat):Int) false=f3:=⟨_,rfl⟩
   have HF3:Sl (∀ t,t<P.n/2->f3 t=Ar (os.take 0) t):=⟨λ t ht=>by
    rw[<- hf3,FQ,if_pos (by unfold Bq;rw [decide_eq_true_eq];omega),Ei]
    rw[if_pos (by omega)];rfl⟩
   rw[hf3] at S3
   have HS3:=sE S3
   have HK3:=sE K3
   clear k3 b3 S3 K3 hf3 s2
   go_wp2_with fail
   go_loopw [65] (λ v65 w'=>∃ (i e':Nat) (W1:Nat->Nat) (f1:Nat->Bool),i<=j/\v65=.int .i64 (i:Nat)/\Sl ((EA os)[i]?=some e')/\Sl (BH e' (os.drop i) (P.n/2))/\Sl (AR W1 e' (os.drop i) (P.n/2)=AR W 0 os (P.n/2))/\Sl (SpaceAt w' P W1 f1)/\Sl (∀ t,t<P.n/2->f1 t=Ar (os.take i) t)/\Kp P.own wo w') (λ y _=>j-(intOf y).toNat)
   case atStart=>exact ⟨0,0,W,f3,Nat.zero_le _,rfl,⟨rfl⟩,⟨HRi.out⟩,⟨rfl⟩,⟨HS3.out⟩,⟨HF3.out⟩,HK3.out⟩
   case round=>
    obtain⟨i,e',W1,f1,hi,rfl,hen,hri,hst,hs1,hf1,hkr⟩:=hrel
    have HKR:=sE hkr
    obtain⟨gb,cap5,hu5,hg1,hg2,cz0⟩:=owns_num HO.out (by rw[endsL_len]) hen.out
    subst hu5
    have hgo:¬ P.own gb:=λ h=>by
     have:=HLT.out gb (by unfold Sp.own at h;unfold Sp.all;omega)
     omega
    have cz:=hkr.cell cz0 hgo
    have hgw:gb<wr.heap.size:=Nat.lt_of_lt_of_le hg2 hkr.size
    have hws:w.heap.size<=wr.heap.size:=Nat.le_trans HK.out.size hkr.size
    obtain⟨s0,s1,s2⟩:=hs1.out.head
    have hsw1:P.s<wr.heap.size:=by omega
    have HOL:=sE HLen.out
    rw[HLen.out]
    by_cases hij:i<j
    .have hij':(i:Int)<(j:Int):=by omega
     obtain⟨ob,hob⟩:∃ ob,os[i]?=some ob:=⟨os[i]'(by have:=HLen.out;omega),by simp⟩
     obtain⟨b,o,rfl,hbl,cx0,xb1,xb2⟩:=HX.out i (by omega)
     have hx9:=HXo.out i ob hob
     rw[hx9] at cx0
     obtain⟨t1,t2,t3,t4⟩:=rising_step hob hri.out
     have hst2:=settle_step (W:=W1) (e:=e') (H:=P.n/2) hob
     have HST:Sl (AR (AX W1 e' (ob.g-e')) ob.fin (os.drop (i+1)) (P.n/2)=AR W 0 os (P.n/2)):=⟨hst2.symm.trans hst.out⟩
     have HR4:=sE t4
     have hfin:ob.g+ob.sz<=P.n/2:=t3
     have hwr:IntKind.i64.wrap ((ob.g:Int)-(e':Int))=((ob.g-e':Nat):Int):=by rw[IntKind.wrap_i64];omega
     have HWr:=sE hwr
     have HEn:Sl ((EA os)[i+1]?=some ob.fin):=⟨endsL_succ hob⟩
     have hbo:¬ P.own b:=HVB.out (by omega) b rfl
     have cx:=hkr.cell (HK.out.cell cx0 (λ h=>h)) hbo
     have hbw:b<wr.heap.size:=by omega
     have HTk:Sl (∀ t,Ar (os.take (i+1)) t=(Ar (os.take i) t||ob.g==t)):=⟨λ t=>by
      rw[List.take_add_one,hob,AZ]
      have h1:=HTag.out ob (List.mem_of_getElem? hob)
      have:Ar ([ob]) t=(ob.g==t):=by simp[Ar,h1]
      rw[<- this];rfl⟩
     have HSet:=sE (Set_int (ob.g:Nat) (P.n/2) P.b P.bq f1 wr hs1.out.bt)
     clear hst2 hx9 cx0 cz0 hkr hst hri t3 t4 hob s0 s1 hwr
     go_wp2_with fail
     refine HSet.out.mono ?_
     rintro e w4 ⟨rfl,k4,b4⟩
     have S4:=hs1.out.bits k4 b4
     obtain⟨f4,hf4⟩:∃ f4,FQ f1 (P.n/2) (ob.g:Nat) 1 true=f4:=⟨_,rfl⟩
     have HF4:Sl (∀ t,t<P.n/2->f4 t=Ar (os.take (i+1)) t):=⟨λ t ht=>by
      rw[<- hf4,FQ,if_pos (by unfold Bq;rw [decide_eq_true_eq];omega),Ei,HTk.out t,<- hf1.out t ht]
      by_cases q:ob.g=t
      .subst q;simp
      .have:¬ ((ob.g:Int).toNat<=t/\t<(ob.g:Int).toNat+(1:Int).toNat):=by simp;omega
       rw[if_neg this]
       simp[q]⟩
     rw[hf4] at S4
     have HS4:=sE S4
     have nbq:∀ b,¬ P.own b->¬ b=P.bq:=λ b h e=>h (.inr (.inr e))
     have cz4:=k4.cell cz (nbq gb hgo)
     have HK4:Sl (Kp P.own wo w4):=⟨HKR.out.trans k4 (λ b _ hb=>.inr (.inr hb))⟩
     have hs4:=k4.size
     have hgw4:gb<w4.heap.size:=by omega
     have HGap:Sl (∀ W',Kp Ab w4 W'->Calls prog 123 #[.pointer (some ⟨P.s,0,none⟩),.int .i64 (e':Nat),.int .i64 ((ob.g-e':Nat):Int)] W' (LaidGap P (AX W1 e' (ob.g-e')) f4 W')):=⟨λ W' kk=>gap_any e' (ob.g-e') P W1 f4 W' (S4.Ad kk) (by omega)⟩
     have hwr:=HWr.out
     clear cz cx k4 b4 S4 hf4 s2 nbq
     go_wp2_with fail
     refine Co 11 (by kernel_rfl) (by kernel_rfl) ?_
     simp only[List.take_succ_cons,List.take_zero,List.drop_succ_cons,List.drop_zero]
     repeat (go_big_quiet_step (fail))
     refine wpQuiet_nil ?_
     intro _ hw'
     obtain⟨nq,hw''⟩:=hw'
     subst hw''
     try rw[hwr]
     clear hwr
     go_wp2_with fail
     refine(HGap.out _ (Kp.Aj nq)).mono ?_
     rintro e w5 ⟨rfl,k5,S5⟩
     have HK5:Sl (Kp P.own wo w5):=⟨(HK4.out.drewN nq).trans k5 (λ b _ hb=>by rcases hb with h|h;exact .inl h;exact .inr (.inl h))⟩
     have HS5:=sE S5
     clear k5 S5 cz4
     go_wp2
     exact⟨⟨i+1,ob.fin,_,f4,by omega,by go_num,HEn,HR4,HST,HS5,HF4,HK5.out⟩,by simp only[intOf];omega⟩
    .have hij':¬ (i:Int)<(j:Int):=by omega
     obtain rfl:i=j:=by omega
     have hi0:os.drop i=[]:=List.drop_eq_nil_of_le (by have:=HLen.out;omega)
     have ht0:os.take i=os:=List.take_of_length_le (by have:=HLen.out;omega)
     have hst2:=hst.out
     have hri2:=hri.out
     rw[hi0] at hst2 hri2
     have he2:e'<=P.n/2:=hri2
     have HST:Sl (AX W1 e' (P.n/2-e')=AR W 0 os (P.n/2)):=⟨hst2⟩
     have HF1:Sl (∀ t,t<P.n/2->f1 t=Ar (Bd 0 os (P.n/2)) t):=⟨λ t ht=>by rw[Fz,hf1.out t ht,ht0]⟩
     have HGap:Sl (∀ W',Kp Ab wr W'->Calls prog 123 #[.pointer (some ⟨P.s,0,none⟩),.int .i64 (e':Nat),.int .i64 ((P.n/2-e':Nat):Int)] W' (LaidGap P (AX W1 e' (P.n/2-e')) f1 W')):=⟨λ W' kk=>gap_any e' (P.n/2-e') P W1 f1 W' (hs1.out.Ad kk) (by omega)⟩
     have HG1:=sE (HGr.out wr W1 f1 hs1.out)
     have HM:Sl ((P.n:Int)/2-(e':Int)=((P.n/2-e':Nat):Int)):=⟨by omega⟩
     clear hst2 hri2 hi0 hst hri hkr ht0 s0 s1 s2
     go_wp2_with fail
     refine HG1.out.mono ?_
     rintro e w4 ⟨rfl,rfl⟩
     go_wp2_with fail
     rw[HM.out]
     refine(HGap.out _ (Kr _ _)).mono ?_
     rintro e w5 ⟨rfl,k5,S5⟩
     have HK5:Sl (Kp P.own wo w5):=⟨HKR.out.trans k5 (λ b _ hb=>by rcases hb with h|h;exact .inl h;exact .inr (.inl h))⟩
     have HS5:=sE S5
     clear k5 S5 cz
     go_wp2
     exact bodyPost_ret (v:=.int .i64 0) (by simp[results,results79,go_sem]) rfl (.inr ⟨os,HR.out,rfl,(HK.out.Al _).trans HK5.out (λ _ _ h=>h),f1,by rw[<- HST.out];exact HS5.out,settleR_cells hn HS0.out.ar.fits HR.out,HF1.out⟩)

theorem SSettle_any(P:Sp)(W:Nat->Nat)(cs:List Cel)(v:Value)(len:Nat)(x:Nat->Nat->Int)(w:World)(hs:Az w P W cs)
  (hx:Bw 1 w v len x) (hlen:len<=1000) (hvb:0<len->∀ b,v.ownBlock=some b->¬ P.own b):
  Calls prog 79 #[.pointer (some ⟨P.s,0,none⟩),v] w (SSettlePost P W cs (λ i=>x i 0) len w):=by
 obtain⟨f,hS,hcs,hst⟩:=hs
 refine(SSettle_to P W f v len x w hS hx hlen hvb).mono λ e w' hp=>?_
 rcases hp with ⟨h1,h2,h3,h4⟩|hp
 .exact .inl ⟨h1,h2,⟨f,h3,hcs,hst⟩,h4⟩
 .exact .inr hp

end

end Go.Proofs.YtmfajopmppfldaaGreatDoor
