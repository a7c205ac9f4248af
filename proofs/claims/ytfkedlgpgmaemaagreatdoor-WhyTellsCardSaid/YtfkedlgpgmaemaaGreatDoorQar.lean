/-
  Lemmas for the laws, together: Play3.
-/
import Derived.Test.YtfkedlgpgmaemaaGreatDoorQak
import Derived.Test.YtfkedlgpgmaemaaGreatDoorQaq
import Derived.Test.YtfkedlgpgmaemaaGreatDoorQap
import Derived.Test.YtfkedlgpgmaemaaGreatDoorQam
import Derived.Deep.DeepCutAuto
import Derived.Deep.CutBlock
set_option linter.unusedVariables false
set_option maxHeartbeats 16000000
namespace Go.Proofs.YtfkedlgpgmaemaaGreatDoor
open Tryz
section
open Go.RowKit

theorem CellsAt.obj{P:Sp}{W:Nat->Nat}{cs:List Cel}(h:CellsAt P W cs){c:Cel}(hc:c∈cs)(ht:c.tag=1):Cj W P.n P.ts (c.g:Nat)=some c:=by
 have hok:=h.ok c hc
 have hm:=h.tl.mem hc
 obtain⟨d1,d2,d3,d4,d5⟩:=dec_enc hok.1
 have hW:=h.hd c hc
 have hf:=fitsE_ok hok
 unfold Cj
 rw[Int.toNat_natCast,hW,d1,d2,d3,d4,d5,ht]
 rw[ht] at hf
 rw[if_pos ⟨by omega,by omega,rfl,rfl,hf,by omega⟩]
 obtain⟨g,tag,ty,ln,sz⟩:=c
 simp only at ht
 subst ht
 rfl

def SlotsPost(P:Sp)(cs:List Cel)(g:Int)(w:World)(e:Ending)(w':World):Prop:=
 ∃ r:Int,e=.returned (.int .i64 r)/\Kp Aa w w'/\((∃ c k wds m,c∈cs/\c.tag=1/\(c.g:Int)=g/\typeOf P.ts (c.ty:Nat)=some ⟨k,wds,m⟩/\r=AZ k wds (c.ln:Nat))\/((∀ c∈cs,c.tag=1->¬ (c.g:Int)=g)/\r=0))

def SlotsCut(x:Cel)(k wds:Int)(m:Nat)(w:World)(a b e:Value)(wx:World):Prop:=
 ∃ b1 b2,a=.pointer (some ⟨b1,0,none⟩)/\b=.pointer (some ⟨b2,0,none⟩)/\e=.int .i64 0/\wx.heap[b1]?=some (.cells #[.int .u8 1,x.ty,x.ln,x.sz] 111 (0,0))/\
  wx.heap[b2]?=some (.cells #[.int .u8 k,.int .i64 wds,.int .u64 m] 106 (0,0))/\Kp Aa w wx

set_option maxRecDepth 20000 in
theorem DSl_any(P:Sp)(W:Nat->Nat)(cs:List Cel)(rb q:Nat)(lv:Value)(g:Int)(w:World)(hd:DocAt w rb q P.n W lv)(hc:CellsAt P W cs)(hv:A8 w lv P.ts)(hl:P.ts.length<=17592186044416)(hM:Cw P.ts):
  Calls prog 99 #[.pointer (some rb),.int .i64 g] w (SlotsPost P cs g w):=by
 have hlen:cs.length<=32768:=by
  have:=BG hc.tl
  have:=hd.row.small
  omega
 have HAll:=sE (DAll_at P W cs rb q lv w hd hc hv hl hM)
 have hlt:=hd.lt
 have hn:=hd.row.small
 have HD:=sE hd
 have HC:=sE hc
 have HV:=sE hv
 have HMs:=sE hM
 have HLl:=sE hl
 clear hd hv hM hl hc
 go_enter func99,ntmps99
 go_wp2_with fail
 refine HAll.o.mono ?_
 rintro e wl ⟨v,rfl,hown,kl⟩
 have HKL:=sE kl
 have HRow:=sE (Du.Bc hown)
 obtain⟨va,vc,hva,-⟩:=HRow.o
 subst hva
 obtain⟨len,hlen'⟩:∃ len,cs.length=len:=⟨_,rfl⟩
 rw[hlen'] at HRow hlen ⊢
 have HLen:=sE hlen'
 clear hown kl HAll hlen'
 go_wp2_with fail
 go_loopw [6] (λ y wr=>∃ j:Nat,j<=len/\y=.int .i64 j/\Kp Aa w wr/\Kp Aa wl wr/\Sl (∀ m x,m<j->cs[m]?=some x->¬ (x.tag=1/\(x.g:Int)=g))) (λ y _=>len-(intOf y).toNat)
 case atStart=>exact ⟨0,Nat.zero_le _,rfl,HKL.o,Kr _ _,⟨λ m x h=>by omega⟩⟩
 case round=>
  obtain⟨j,hj,rfl,hkw,hkk,hno⟩:=hrel
  have HKK:=sE hkk
  have HKW:=sE hkw
  by_cases hjl:j<len
  .have hjl':(j:Int)<(len:Int):=by omega
   obtain⟨x,hx⟩:∃ x,cs[j]?=some x:=⟨cs[j]'(by rw[HLen.o];exact hjl),by simp⟩
   obtain⟨a',cap',ha',hrow⟩:=HRow.o.Ac hkk
   obtain⟨b,hab,hb0,r0,r1,r2,r3,r4⟩:=hrow j x hx
   have hva:va=some ⟨b,0,none⟩:=by injection ha' with h1;rw [h1];exact hab
   subst hva
   have hxm:x∈cs:=List.mem_of_getElem? hx
   have HX:=sE hx
   have HXm:=sE hxm
   clear hx hxm hrow ha' hab hkk hkw
   by_cases q1:(x.g:Int)=g/\x.tag=1
   .obtain ⟨q1,q2⟩:=q1
    have p1:((x.g:Int)==g)=true:=by simp[q1]
    have p2:((x.tag:Int)==1)=true:=by simp[q2]
    have hok:=HC.o.ok x HXm.o
    obtain⟨e1,e2⟩:=hok.2 q2
    obtain⟨k,wds,m,hty⟩:=Fs e1
    obtain⟨capr,c0,c1⟩:=(HD.o.Ac HKW.o).head
    have hE:AU k wds m (x.ln:Nat)=0:=by unfold AV at e1;rw [hty] at e1;exact e1
    have hMm:m<18446744073709551616:=HMs.o _ (typeOf_mem hty)
    have HSlot:Sl (∀ W',Calls prog 155 #[.agg #[.int .u8 k,.int .i64 wds,.int .u64 (m:Nat)],x.ln] W' (RK (.tuple #[.int .i64 (AZ k wds (x.ln:Nat)),(0:Int)]) W')):=⟨λ W'=>by
     have hh:=DSlots_any k wds m (x.ln:Nat) W' hMm
     unfold DZ at hh
     rw[hE,if_pos rfl] at hh
     exact hh⟩
    obtain⟨S,hS⟩:∃ S,AZ k wds (x.ln:Nat)=S:=⟨_,rfl⟩
    have HS:=sE hS
    rw[hS] at HSlot
    have HT:=sE hty
    have HOf:Sl (∀ W',Kp Aa wr W'->Calls prog 154 #[.slice (some ⟨q,0,none⟩) P.n capr,lv,.int .i64 g] W' (RK (.tuple #[.agg #[.int .u8 1,x.ty,x.ln,x.sz],.agg #[.int .u8 k,.int .i64 wds,.int .u64 (m:Nat)],(0:Int)]) W')):=⟨λ W' kk=>by
     refine(DOf_any g q P.n capr W lv P.ts W' (HD.o.row.Ac (HKW.o.then' kk)) (HV.o.Ac (HKW.o.then' kk)) HLl.o HMs.o).mono λ e w' hp=>?_
     unfold El at hp
     rw[<- q1,HC.o.obj HXm.o q2] at hp
     obtain⟨k',wds',m',h1,h2,h3⟩:=hp
     rw[HT.o] at h1
     injection h1 with h1
     injection h1 with h1 h1' h1''
     subst h1 h1' h1''
     exact⟨h2,h3⟩⟩
    have HQ1:=sE q1
    have HQ2:=sE q2
    have hrb:rb<wr.heap.size:=Nat.lt_of_lt_of_le hlt HKW.o.size
    have r4':=r3
    clear q1 q2 hok e1 e2 hty hE hMm hS
    go_upto_region 6 with fail
    go_cut [7,8,9] from 36 to 49 (λ a b e wx=>SlotsCut x k wds m wr a b e wx)
    case first=>
     have kk0:Kp Aa wr wr.drew:=(Kr _ _).drew
     refine wp_region_held_drew (S:=(λ w'=>w'.cell? rb=some (.slice (some ⟨q,0,none⟩) P.n capr)/\w'.cell? ⟨rb,1,none⟩=some lv)) (by kernel_rfl) ?_ (λ qZ=>?_)
     .exact ⟨Kz c0,Kz c1⟩
     refine Ap 0 ?_;refine Ap 1 ?_;refine Ap 2 ?_;refine Ap 3 ?_;refine Ap 4 ?_;refine Ap 5 ?_;refine Ap 6 ?_;refine Ap 7 ?_;refine Ap 8 ?_
     try simp only[AB]
     refine Bp [9,14,15] ?_
     refine Ai rfl (λ K hK=>?_) ?_
     .go_simp
      with_reducible refine(HOf.o _ kk0).mono ?_
      rintro e wc1 ⟨rfl,kc2⟩
      have kk3:=kk0.then' kc2
      refine hK _ _ ?_ (λ qZ=>?_)
      .exact ⟨Kz c0,Kz c1⟩
      clear hK K
      try simp only[AB]
      refine Ap 10 ?_;refine Ap 11 ?_;refine Ap 12 ?_;refine Ap 13 ?_
      try simp only[AB]
      refine Bp [14,15] ?_
      refine Ai rfl (λ K hK=>?_) ?_
      .go_simp
       obtain⟨wa4,hw5⟩:∃ wa4,wa4=World.alloc wc1 (.cells #[.int .u8 0,(0:Int),(0:Int),(0:Int)] 111):=⟨_,rfl⟩
       rw[<- hw5]
       have ka6:Kp Aa wc1 wa4:=by rw[hw5];exact ((Kr _ _).alloc _)
       have hge8:wr.heap.size<=wc1.heap.size:=kk3.size
       have hb7:wa4.heap[wc1.heap.size]?=some (.cells #[.int .u8 0,(0:Int),(0:Int),(0:Int)] 111 (0,0)):=by rw[hw5];exact wN _ _
       have hl9:wc1.heap.size<wa4.heap.size:=lZ hb7
       have kk10:=kk3.then' ka6
       have HW11:=sE hw5
       clear hw5
       refine hK _ _ ?_ (λ qZ=>?_)
       .exact ⟨Kz c0,Kz c1⟩
       clear hK K
       try simp only[AB]
       refine Bp [15] ?_
       refine Ai rfl (λ K hK=>?_) ?_
       .go_simp
        obtain⟨wa12,hw13⟩:∃ wa12,wa12=World.alloc wa4 (.cells #[.int .u8 0,(0:Int),.int .u64 0] 106):=⟨_,rfl⟩
        rw[<- hw13]
        have ka14:Kp Aa wa4 wa12:=by rw[hw13];exact ((Kr _ _).alloc _)
        have hge16:wr.heap.size<=wa4.heap.size:=kk10.size
        have hb15:wa12.heap[wa4.heap.size]?=some (.cells #[.int .u8 0,(0:Int),.int .u64 0] 106 (0,0)):=by rw[hw13];exact wN _ _
        have hl17:wa4.heap.size<wa12.heap.size:=lZ hb15
        have hx18:=lZ hb7
        have hb19:=ka14.at_ hb7 id
        have kk20:=kk10.then' ka14
        have HW21:=sE hw13
        clear hw13
        refine hK _ _ ?_ (λ qZ=>?_)
        .exact ⟨Kz c0,Kz c1⟩
        clear hK K
        try simp only[AB]
        have hsz:=lZ hb19
        obtain⟨d0,d1,d2,d3⟩:=Ay hb19
        have f0:=Ab hb19;have f00:=f0 0;have f01:=f0 1;have f02:=f0 2;have f03:=f0 3
        refine Bp [16] ?_
        refine Ag rfl (λ K hK=>?_)
        clear f0
        go_simp
        obtain⟨wz22,hz23⟩:∃ wz22,wz22=World.setCell (World.setCell (World.setCell (World.setCell (wa12) ⟨wc1.heap.size,0,none⟩ (.int .u8 1)) ⟨wc1.heap.size,1,none⟩ (.int .i64 x.ty)) ⟨wc1.heap.size,2,none⟩ (.int .i64 x.ln)) ⟨wc1.heap.size,3,none⟩ (.int .i64 x.sz):=⟨_,rfl⟩
        rw[<- hz23]
        obtain⟨tz24,kz25⟩:=BC hb19 _ _ _ _ wz22 hz23
        have hb26:=kz25.at_ hb15 (λ h=>by have h':wa4.heap.size=wc1.heap.size:=h;omega)
        have kk27:Kp Aa wr wz22:=kk20.trans kz25 (λ i hi h=>by have h':i=wc1.heap.size:=h;(try have hq:=Nat.le_of_eq h');(first|omega|(simp only[World.size_drew] at *;omega)))
        clear hz23 d0 f00 d1 f01 d2 f02 d3 f03
        refine hK _ _ ?_ (λ qZ=>?_)
        .exact ⟨Kz c0,Kz c1⟩
        clear hK K
        try simp only[AB]
        have hsz:=lZ hb26
        obtain⟨d0,d1,d2⟩:=cells3 hb26
        have f0:=Ab hb26;have f00:=f0 0;have f01:=f0 1;have f02:=f0 2
        refine Bp [17] ?_
        refine Ag rfl (λ K hK=>?_)
        clear f0
        go_simp
        obtain⟨wz28,hz29⟩:∃ wz28,wz28=World.setCell (World.setCell (World.setCell (wz22) ⟨wa4.heap.size,0,none⟩ (.int .u8 k)) ⟨wa4.heap.size,1,none⟩ (.int .i64 wds)) ⟨wa4.heap.size,2,none⟩ (.int .u64 (m:Nat)):=⟨_,rfl⟩
        rw[<- hz29]
        obtain⟨tz30,kz31⟩:=BL hb26 _ _ _ wz28 hz29
        have hb32:=kz31.at_ tz24 (λ h=>by have h':wc1.heap.size=wa4.heap.size:=h;omega)
        have kk33:Kp Aa wr wz28:=kk27.trans kz31 (λ i hi h=>by have h':i=wa4.heap.size:=h;(try have hq:=Nat.le_of_eq h');(first|omega|(simp only[World.size_drew] at *;omega)))
        clear hz29 d0 f00 d1 f01 d2 f02
        refine hK _ _ ?_ (λ qZ=>?_)
        .exact ⟨Kz c0,Kz c1⟩
        clear hK K
        try simp only[AB]
        refine Ap 18 ?_
        try simp only[AB]
        refine wpAnyH_done (by kernel_rfl) ?_ _
        go_wp2_with fail
        go_meet
        exact⟨_,_,rfl,rfl,rfl,hb32,tz30,kk33⟩
       exact AllReadyH.nil
      refine Ai rfl (λ K hK=>?_) ?_
      .go_simp
       obtain⟨wa34,hw35⟩:∃ wa34,wa34=World.alloc wc1 (.cells #[.int .u8 0,(0:Int),.int .u64 0] 106):=⟨_,rfl⟩
       rw[<- hw35]
       have ka36:Kp Aa wc1 wa34:=by rw[hw35];exact ((Kr _ _).alloc _)
       have hge38:wr.heap.size<=wc1.heap.size:=kk3.size
       have hb37:wa34.heap[wc1.heap.size]?=some (.cells #[.int .u8 0,(0:Int),.int .u64 0] 106 (0,0)):=by rw[hw35];exact wN _ _
       have hl39:wc1.heap.size<wa34.heap.size:=lZ hb37
       have kk40:=kk3.then' ka36
       have HW41:=sE hw35
       clear hw35
       refine hK _ _ ?_ (λ qZ=>?_)
       .exact ⟨Kz c0,Kz c1⟩
       clear hK K
       try simp only[AB]
       refine Bp [14] ?_
       refine Ai rfl (λ K hK=>?_) ?_
       .go_simp
        obtain⟨wa42,hw43⟩:∃ wa42,wa42=World.alloc wa34 (.cells #[.int .u8 0,(0:Int),(0:Int),(0:Int)] 111):=⟨_,rfl⟩
        rw[<- hw43]
        have ka44:Kp Aa wa34 wa42:=by rw[hw43];exact ((Kr _ _).alloc _)
        have hge46:wr.heap.size<=wa34.heap.size:=kk40.size
        have hb45:wa42.heap[wa34.heap.size]?=some (.cells #[.int .u8 0,(0:Int),(0:Int),(0:Int)] 111 (0,0)):=by rw[hw43];exact wN _ _
        have hl47:wa34.heap.size<wa42.heap.size:=lZ hb45
        have hx48:=lZ hb37
        have hb49:=ka44.at_ hb37 id
        have kk50:=kk40.then' ka44
        have HW51:=sE hw43
        clear hw43
        refine hK _ _ ?_ (λ qZ=>?_)
        .exact ⟨Kz c0,Kz c1⟩
        clear hK K
        try simp only[AB]
        have hsz:=lZ hb45
        obtain⟨d0,d1,d2,d3⟩:=Ay hb45
        have f0:=Ab hb45;have f00:=f0 0;have f01:=f0 1;have f02:=f0 2;have f03:=f0 3
        refine Bp [16] ?_
        refine Ag rfl (λ K hK=>?_)
        clear f0
        go_simp
        obtain⟨wz52,hz53⟩:∃ wz52,wz52=World.setCell (World.setCell (World.setCell (World.setCell (wa42) ⟨wa34.heap.size,0,none⟩ (.int .u8 1)) ⟨wa34.heap.size,1,none⟩ (.int .i64 x.ty)) ⟨wa34.heap.size,2,none⟩ (.int .i64 x.ln)) ⟨wa34.heap.size,3,none⟩ (.int .i64 x.sz):=⟨_,rfl⟩
        rw[<- hz53]
        obtain⟨tz54,kz55⟩:=BC hb45 _ _ _ _ wz52 hz53
        have hb56:=kz55.at_ hb49 (λ h=>by have h':wc1.heap.size=wa34.heap.size:=h;omega)
        have kk57:Kp Aa wr wz52:=kk50.trans kz55 (λ i hi h=>by have h':i=wa34.heap.size:=h;(try have hq:=Nat.le_of_eq h');(first|omega|(simp only[World.size_drew] at *;omega)))
        clear hz53 d0 f00 d1 f01 d2 f02 d3 f03
        refine hK _ _ ?_ (λ qZ=>?_)
        .exact ⟨Kz c0,Kz c1⟩
        clear hK K
        try simp only[AB]
        have hsz:=lZ hb56
        obtain⟨d0,d1,d2⟩:=cells3 hb56
        have f0:=Ab hb56;have f00:=f0 0;have f01:=f0 1;have f02:=f0 2
        refine Bp [17] ?_
        refine Ag rfl (λ K hK=>?_)
        clear f0
        go_simp
        obtain⟨wz58,hz59⟩:∃ wz58,wz58=World.setCell (World.setCell (World.setCell (wz52) ⟨wc1.heap.size,0,none⟩ (.int .u8 k)) ⟨wc1.heap.size,1,none⟩ (.int .i64 wds)) ⟨wc1.heap.size,2,none⟩ (.int .u64 (m:Nat)):=⟨_,rfl⟩
        rw[<- hz59]
        obtain⟨tz60,kz61⟩:=BL hb56 _ _ _ wz58 hz59
        have hb62:=kz61.at_ tz54 (λ h=>by have h':wa34.heap.size=wc1.heap.size:=h;omega)
        have kk63:Kp Aa wr wz58:=kk57.trans kz61 (λ i hi h=>by have h':i=wc1.heap.size:=h;(try have hq:=Nat.le_of_eq h');(first|omega|(simp only[World.size_drew] at *;omega)))
        clear hz59 d0 f00 d1 f01 d2 f02
        refine hK _ _ ?_ (λ qZ=>?_)
        .exact ⟨Kz c0,Kz c1⟩
        clear hK K
        try simp only[AB]
        refine Ap 18 ?_
        try simp only[AB]
        refine wpAnyH_done (by kernel_rfl) ?_ _
        go_wp2_with fail
        go_meet
        exact⟨_,_,rfl,rfl,rfl,hb62,tz60,kk63⟩
       exact AllReadyH.nil
      exact AllReadyH.nil
     refine Ai rfl (λ K hK=>?_) ?_
     .go_simp
      obtain⟨wa64,hw65⟩:∃ wa64,wa64=World.drew (World.alloc wr (.cells #[.int .u8 0,(0:Int),(0:Int),(0:Int)] 111)):=⟨_,rfl⟩
      rw[<- hw65]
      have ka66:Kp Aa wr wa64:=by rw[hw65];exact ((Kr _ _).alloc _).drew
      have hge68:wr.heap.size<=wr.heap.size:=kk0.size
      have hb67:wa64.heap[wr.heap.size]?=some (.cells #[.int .u8 0,(0:Int),(0:Int),(0:Int)] 111 (0,0)):=by rw[hw65];exact wN _ _
      have hl69:wr.heap.size<wa64.heap.size:=lZ hb67
      have kk70:=ka66
      have HW71:=sE hw65
      clear hw65
      refine hK _ _ ?_ (λ qZ=>?_)
      .exact ⟨Kz c0,Kz c1⟩
      clear hK K
      try simp only[AB]
      refine Bp [9,15] ?_
      refine Ai rfl (λ K hK=>?_) ?_
      .go_simp
       with_reducible refine(HOf.o _ kk70).mono ?_
       rintro e wc72 ⟨rfl,kc73⟩
       have hb74:=kc73.at_ hb67 id
       have kk75:=kk70.then' kc73
       refine hK _ _ ?_ (λ qZ=>?_)
       .exact ⟨Kz c0,Kz c1⟩
       clear hK K
       try simp only[AB]
       refine Ap 10 ?_;refine Ap 11 ?_;refine Ap 12 ?_;refine Ap 13 ?_
       try simp only[AB]
       refine Bp [15] ?_
       refine Ai rfl (λ K hK=>?_) ?_
       .go_simp
        obtain⟨wa76,hw77⟩:∃ wa76,wa76=World.alloc wc72 (.cells #[.int .u8 0,(0:Int),.int .u64 0] 106):=⟨_,rfl⟩
        rw[<- hw77]
        have ka78:Kp Aa wc72 wa76:=by rw[hw77];exact ((Kr _ _).alloc _)
        have hge80:wr.heap.size<=wc72.heap.size:=kk75.size
        have hb79:wa76.heap[wc72.heap.size]?=some (.cells #[.int .u8 0,(0:Int),.int .u64 0] 106 (0,0)):=by rw[hw77];exact wN _ _
        have hl81:wc72.heap.size<wa76.heap.size:=lZ hb79
        have hx82:=lZ hb74
        have hb83:=ka78.at_ hb74 id
        have kk84:=kk75.then' ka78
        have HW85:=sE hw77
        clear hw77
        refine hK _ _ ?_ (λ qZ=>?_)
        .exact ⟨Kz c0,Kz c1⟩
        clear hK K
        try simp only[AB]
        have hsz:=lZ hb83
        obtain⟨d0,d1,d2,d3⟩:=Ay hb83
        have f0:=Ab hb83;have f00:=f0 0;have f01:=f0 1;have f02:=f0 2;have f03:=f0 3
        refine Bp [16] ?_
        refine Ag rfl (λ K hK=>?_)
        clear f0
        go_simp
        obtain⟨wz86,hz87⟩:∃ wz86,wz86=World.setCell (World.setCell (World.setCell (World.setCell (wa76) ⟨wr.heap.size,0,none⟩ (.int .u8 1)) ⟨wr.heap.size,1,none⟩ (.int .i64 x.ty)) ⟨wr.heap.size,2,none⟩ (.int .i64 x.ln)) ⟨wr.heap.size,3,none⟩ (.int .i64 x.sz):=⟨_,rfl⟩
        rw[<- hz87]
        obtain⟨tz88,kz89⟩:=BC hb83 _ _ _ _ wz86 hz87
        have hb90:=kz89.at_ hb79 (λ h=>by have h':wc72.heap.size=wr.heap.size:=h;omega)
        have kk91:Kp Aa wr wz86:=kk84.trans kz89 (λ i hi h=>by have h':i=wr.heap.size:=h;(try have hq:=Nat.le_of_eq h');(first|omega|(simp only[World.size_drew] at *;omega)))
        clear hz87 d0 f00 d1 f01 d2 f02 d3 f03
        refine hK _ _ ?_ (λ qZ=>?_)
        .exact ⟨Kz c0,Kz c1⟩
        clear hK K
        try simp only[AB]
        have hsz:=lZ hb90
        obtain⟨d0,d1,d2⟩:=cells3 hb90
        have f0:=Ab hb90;have f00:=f0 0;have f01:=f0 1;have f02:=f0 2
        refine Bp [17] ?_
        refine Ag rfl (λ K hK=>?_)
        clear f0
        go_simp
        obtain⟨wz92,hz93⟩:∃ wz92,wz92=World.setCell (World.setCell (World.setCell (wz86) ⟨wc72.heap.size,0,none⟩ (.int .u8 k)) ⟨wc72.heap.size,1,none⟩ (.int .i64 wds)) ⟨wc72.heap.size,2,none⟩ (.int .u64 (m:Nat)):=⟨_,rfl⟩
        rw[<- hz93]
        obtain⟨tz94,kz95⟩:=BL hb90 _ _ _ wz92 hz93
        have hb96:=kz95.at_ tz88 (λ h=>by have h':wr.heap.size=wc72.heap.size:=h;omega)
        have kk97:Kp Aa wr wz92:=kk91.trans kz95 (λ i hi h=>by have h':i=wc72.heap.size:=h;(try have hq:=Nat.le_of_eq h');(first|omega|(simp only[World.size_drew] at *;omega)))
        clear hz93 d0 f00 d1 f01 d2 f02
        refine hK _ _ ?_ (λ qZ=>?_)
        .exact ⟨Kz c0,Kz c1⟩
        clear hK K
        try simp only[AB]
        refine Ap 18 ?_
        try simp only[AB]
        refine wpAnyH_done (by kernel_rfl) ?_ _
        go_wp2_with fail
        go_meet
        exact⟨_,_,rfl,rfl,rfl,hb96,tz94,kk97⟩
       exact AllReadyH.nil
      refine Ai rfl (λ K hK=>?_) ?_
      .go_simp
       obtain⟨wa98,hw99⟩:∃ wa98,wa98=World.alloc wa64 (.cells #[.int .u8 0,(0:Int),.int .u64 0] 106):=⟨_,rfl⟩
       rw[<- hw99]
       have ka100:Kp Aa wa64 wa98:=by rw[hw99];exact ((Kr _ _).alloc _)
       have hge102:wr.heap.size<=wa64.heap.size:=kk70.size
       have hb101:wa98.heap[wa64.heap.size]?=some (.cells #[.int .u8 0,(0:Int),.int .u64 0] 106 (0,0)):=by rw[hw99];exact wN _ _
       have hl103:wa64.heap.size<wa98.heap.size:=lZ hb101
       have hx104:=lZ hb67
       have hb105:=ka100.at_ hb67 id
       have kk106:=kk70.then' ka100
       have HW107:=sE hw99
       clear hw99
       refine hK _ _ ?_ (λ qZ=>?_)
       .exact ⟨Kz c0,Kz c1⟩
       clear hK K
       try simp only[AB]
       refine Bp [9] ?_
       refine Ai rfl (λ K hK=>?_) ?_
       .go_simp
        with_reducible refine(HOf.o _ kk106).mono ?_
        rintro e wc108 ⟨rfl,kc109⟩
        have hb110:=kc109.at_ hb105 id
        have hb111:=kc109.at_ hb101 id
        have kk112:=kk106.then' kc109
        refine hK _ _ ?_ (λ qZ=>?_)
        .exact ⟨Kz c0,Kz c1⟩
        clear hK K
        try simp only[AB]
        refine Ap 10 ?_;refine Ap 11 ?_;refine Ap 12 ?_;refine Ap 13 ?_
        try simp only[AB]
        have hsz:=lZ hb110
        obtain⟨d0,d1,d2,d3⟩:=Ay hb110
        have f0:=Ab hb110;have f00:=f0 0;have f01:=f0 1;have f02:=f0 2;have f03:=f0 3
        refine Bp [16] ?_
        refine Ag rfl (λ K hK=>?_)
        clear f0
        go_simp
        obtain⟨wz113,hz114⟩:∃ wz113,wz113=World.setCell (World.setCell (World.setCell (World.setCell (wc108) ⟨wr.heap.size,0,none⟩ (.int .u8 1)) ⟨wr.heap.size,1,none⟩ (.int .i64 x.ty)) ⟨wr.heap.size,2,none⟩ (.int .i64 x.ln)) ⟨wr.heap.size,3,none⟩ (.int .i64 x.sz):=⟨_,rfl⟩
        rw[<- hz114]
        obtain⟨tz115,kz116⟩:=BC hb110 _ _ _ _ wz113 hz114
        have hb117:=kz116.at_ hb111 (λ h=>by have h':wa64.heap.size=wr.heap.size:=h;omega)
        have kk118:Kp Aa wr wz113:=kk112.trans kz116 (λ i hi h=>by have h':i=wr.heap.size:=h;(try have hq:=Nat.le_of_eq h');(first|omega|(simp only[World.size_drew] at *;omega)))
        clear hz114 d0 f00 d1 f01 d2 f02 d3 f03
        refine hK _ _ ?_ (λ qZ=>?_)
        .exact ⟨Kz c0,Kz c1⟩
        clear hK K
        try simp only[AB]
        have hsz:=lZ hb117
        obtain⟨d0,d1,d2⟩:=cells3 hb117
        have f0:=Ab hb117;have f00:=f0 0;have f01:=f0 1;have f02:=f0 2
        refine Bp [17] ?_
        refine Ag rfl (λ K hK=>?_)
        clear f0
        go_simp
        obtain⟨wz119,hz120⟩:∃ wz119,wz119=World.setCell (World.setCell (World.setCell (wz113) ⟨wa64.heap.size,0,none⟩ (.int .u8 k)) ⟨wa64.heap.size,1,none⟩ (.int .i64 wds)) ⟨wa64.heap.size,2,none⟩ (.int .u64 (m:Nat)):=⟨_,rfl⟩
        rw[<- hz120]
        obtain⟨tz121,kz122⟩:=BL hb117 _ _ _ wz119 hz120
        have hb123:=kz122.at_ tz115 (λ h=>by have h':wr.heap.size=wa64.heap.size:=h;omega)
        have kk124:Kp Aa wr wz119:=kk118.trans kz122 (λ i hi h=>by have h':i=wa64.heap.size:=h;(try have hq:=Nat.le_of_eq h');(first|omega|(simp only[World.size_drew] at *;omega)))
        clear hz120 d0 f00 d1 f01 d2 f02
        refine hK _ _ ?_ (λ qZ=>?_)
        .exact ⟨Kz c0,Kz c1⟩
        clear hK K
        try simp only[AB]
        refine Ap 18 ?_
        try simp only[AB]
        refine wpAnyH_done (by kernel_rfl) ?_ _
        go_wp2_with fail
        go_meet
        exact⟨_,_,rfl,rfl,rfl,hb123,tz121,kk124⟩
       exact AllReadyH.nil
      exact AllReadyH.nil
     refine Ai rfl (λ K hK=>?_) ?_
     .go_simp
      obtain⟨wa125,hw126⟩:∃ wa125,wa125=World.drew (World.alloc wr (.cells #[.int .u8 0,(0:Int),.int .u64 0] 106)):=⟨_,rfl⟩
      rw[<- hw126]
      have ka127:Kp Aa wr wa125:=by rw[hw126];exact ((Kr _ _).alloc _).drew
      have hge129:wr.heap.size<=wr.heap.size:=kk0.size
      have hb128:wa125.heap[wr.heap.size]?=some (.cells #[.int .u8 0,(0:Int),.int .u64 0] 106 (0,0)):=by rw[hw126];exact wN _ _
      have hl130:wr.heap.size<wa125.heap.size:=lZ hb128
      have kk131:=ka127
      have HW132:=sE hw126
      clear hw126
      refine hK _ _ ?_ (λ qZ=>?_)
      .exact ⟨Kz c0,Kz c1⟩
      clear hK K
      try simp only[AB]
      refine Bp [9,14] ?_
      refine Ai rfl (λ K hK=>?_) ?_
      .go_simp
       with_reducible refine(HOf.o _ kk131).mono ?_
       rintro e wc133 ⟨rfl,kc134⟩
       have hb135:=kc134.at_ hb128 id
       have kk136:=kk131.then' kc134
       refine hK _ _ ?_ (λ qZ=>?_)
       .exact ⟨Kz c0,Kz c1⟩
       clear hK K
       try simp only[AB]
       refine Ap 10 ?_;refine Ap 11 ?_;refine Ap 12 ?_;refine Ap 13 ?_
       try simp only[AB]
       refine Bp [14] ?_
       refine Ai rfl (λ K hK=>?_) ?_
       .go_simp
        obtain⟨wa137,hw138⟩:∃ wa137,wa137=World.alloc wc133 (.cells #[.int .u8 0,(0:Int),(0:Int),(0:Int)] 111):=⟨_,rfl⟩
        rw[<- hw138]
        have ka139:Kp Aa wc133 wa137:=by rw[hw138];exact ((Kr _ _).alloc _)
        have hge141:wr.heap.size<=wc133.heap.size:=kk136.size
        have hb140:wa137.heap[wc133.heap.size]?=some (.cells #[.int .u8 0,(0:Int),(0:Int),(0:Int)] 111 (0,0)):=by rw[hw138];exact wN _ _
        have hl142:wc133.heap.size<wa137.heap.size:=lZ hb140
        have hx143:=lZ hb135
        have hb144:=ka139.at_ hb135 id
        have kk145:=kk136.then' ka139
        have HW146:=sE hw138
        clear hw138
        refine hK _ _ ?_ (λ qZ=>?_)
        .exact ⟨Kz c0,Kz c1⟩
        clear hK K
        try simp only[AB]
        have hsz:=lZ hb140
        obtain⟨d0,d1,d2,d3⟩:=Ay hb140
        have f0:=Ab hb140;have f00:=f0 0;have f01:=f0 1;have f02:=f0 2;have f03:=f0 3
        refine Bp [16] ?_
        refine Ag rfl (λ K hK=>?_)
        clear f0
        go_simp
        obtain⟨wz147,hz148⟩:∃ wz147,wz147=World.setCell (World.setCell (World.setCell (World.setCell (wa137) ⟨wc133.heap.size,0,none⟩ (.int .u8 1)) ⟨wc133.heap.size,1,none⟩ (.int .i64 x.ty)) ⟨wc133.heap.size,2,none⟩ (.int .i64 x.ln)) ⟨wc133.heap.size,3,none⟩ (.int .i64 x.sz):=⟨_,rfl⟩
        rw[<- hz148]
        obtain⟨tz149,kz150⟩:=BC hb140 _ _ _ _ wz147 hz148
        have hb151:=kz150.at_ hb144 (λ h=>by have h':wr.heap.size=wc133.heap.size:=h;omega)
        have kk152:Kp Aa wr wz147:=kk145.trans kz150 (λ i hi h=>by have h':i=wc133.heap.size:=h;(try have hq:=Nat.le_of_eq h');(first|omega|(simp only[World.size_drew] at *;omega)))
        clear hz148 d0 f00 d1 f01 d2 f02 d3 f03
        refine hK _ _ ?_ (λ qZ=>?_)
        .exact ⟨Kz c0,Kz c1⟩
        clear hK K
        try simp only[AB]
        have hsz:=lZ hb151
        obtain⟨d0,d1,d2⟩:=cells3 hb151
        have f0:=Ab hb151;have f00:=f0 0;have f01:=f0 1;have f02:=f0 2
        refine Bp [17] ?_
        refine Ag rfl (λ K hK=>?_)
        clear f0
        go_simp
        obtain⟨wz153,hz154⟩:∃ wz153,wz153=World.setCell (World.setCell (World.setCell (wz147) ⟨wr.heap.size,0,none⟩ (.int .u8 k)) ⟨wr.heap.size,1,none⟩ (.int .i64 wds)) ⟨wr.heap.size,2,none⟩ (.int .u64 (m:Nat)):=⟨_,rfl⟩
        rw[<- hz154]
        obtain⟨tz155,kz156⟩:=BL hb151 _ _ _ wz153 hz154
        have hb157:=kz156.at_ tz149 (λ h=>by have h':wc133.heap.size=wr.heap.size:=h;omega)
        have kk158:Kp Aa wr wz153:=kk152.trans kz156 (λ i hi h=>by have h':i=wr.heap.size:=h;(try have hq:=Nat.le_of_eq h');(first|omega|(simp only[World.size_drew] at *;omega)))
        clear hz154 d0 f00 d1 f01 d2 f02
        refine hK _ _ ?_ (λ qZ=>?_)
        .exact ⟨Kz c0,Kz c1⟩
        clear hK K
        try simp only[AB]
        refine Ap 18 ?_
        try simp only[AB]
        refine wpAnyH_done (by kernel_rfl) ?_ _
        go_wp2_with fail
        go_meet
        exact⟨_,_,rfl,rfl,rfl,hb157,tz155,kk158⟩
       exact AllReadyH.nil
      refine Ai rfl (λ K hK=>?_) ?_
      .go_simp
       obtain⟨wa159,hw160⟩:∃ wa159,wa159=World.alloc wa125 (.cells #[.int .u8 0,(0:Int),(0:Int),(0:Int)] 111):=⟨_,rfl⟩
       rw[<- hw160]
       have ka161:Kp Aa wa125 wa159:=by rw[hw160];exact ((Kr _ _).alloc _)
       have hge163:wr.heap.size<=wa125.heap.size:=kk131.size
       have hb162:wa159.heap[wa125.heap.size]?=some (.cells #[.int .u8 0,(0:Int),(0:Int),(0:Int)] 111 (0,0)):=by rw[hw160];exact wN _ _
       have hl164:wa125.heap.size<wa159.heap.size:=lZ hb162
       have hx165:=lZ hb128
       have hb166:=ka161.at_ hb128 id
       have kk167:=kk131.then' ka161
       have HW168:=sE hw160
       clear hw160
       refine hK _ _ ?_ (λ qZ=>?_)
       .exact ⟨Kz c0,Kz c1⟩
       clear hK K
       try simp only[AB]
       refine Bp [9] ?_
       refine Ai rfl (λ K hK=>?_) ?_
       .go_simp
        with_reducible refine(HOf.o _ kk167).mono ?_
        rintro e wc169 ⟨rfl,kc170⟩
        have hb171:=kc170.at_ hb166 id
        have hb172:=kc170.at_ hb162 id
        have kk173:=kk167.then' kc170
        refine hK _ _ ?_ (λ qZ=>?_)
        .exact ⟨Kz c0,Kz c1⟩
        clear hK K
        try simp only[AB]
        refine Ap 10 ?_;refine Ap 11 ?_;refine Ap 12 ?_;refine Ap 13 ?_
        try simp only[AB]
        have hsz:=lZ hb172
        obtain⟨d0,d1,d2,d3⟩:=Ay hb172
        have f0:=Ab hb172;have f00:=f0 0;have f01:=f0 1;have f02:=f0 2;have f03:=f0 3
        refine Bp [16] ?_
        refine Ag rfl (λ K hK=>?_)
        clear f0
        go_simp
        obtain⟨wz174,hz175⟩:∃ wz174,wz174=World.setCell (World.setCell (World.setCell (World.setCell (wc169) ⟨wa125.heap.size,0,none⟩ (.int .u8 1)) ⟨wa125.heap.size,1,none⟩ (.int .i64 x.ty)) ⟨wa125.heap.size,2,none⟩ (.int .i64 x.ln)) ⟨wa125.heap.size,3,none⟩ (.int .i64 x.sz):=⟨_,rfl⟩
        rw[<- hz175]
        obtain⟨tz176,kz177⟩:=BC hb172 _ _ _ _ wz174 hz175
        have hb178:=kz177.at_ hb171 (λ h=>by have h':wr.heap.size=wa125.heap.size:=h;omega)
        have kk179:Kp Aa wr wz174:=kk173.trans kz177 (λ i hi h=>by have h':i=wa125.heap.size:=h;(try have hq:=Nat.le_of_eq h');(first|omega|(simp only[World.size_drew] at *;omega)))
        clear hz175 d0 f00 d1 f01 d2 f02 d3 f03
        refine hK _ _ ?_ (λ qZ=>?_)
        .exact ⟨Kz c0,Kz c1⟩
        clear hK K
        try simp only[AB]
        have hsz:=lZ hb178
        obtain⟨d0,d1,d2⟩:=cells3 hb178
        have f0:=Ab hb178;have f00:=f0 0;have f01:=f0 1;have f02:=f0 2
        refine Bp [17] ?_
        refine Ag rfl (λ K hK=>?_)
        clear f0
        go_simp
        obtain⟨wz180,hz181⟩:∃ wz180,wz180=World.setCell (World.setCell (World.setCell (wz174) ⟨wr.heap.size,0,none⟩ (.int .u8 k)) ⟨wr.heap.size,1,none⟩ (.int .i64 wds)) ⟨wr.heap.size,2,none⟩ (.int .u64 (m:Nat)):=⟨_,rfl⟩
        rw[<- hz181]
        obtain⟨tz182,kz183⟩:=BL hb178 _ _ _ wz180 hz181
        have hb184:=kz183.at_ tz176 (λ h=>by have h':wa125.heap.size=wr.heap.size:=h;omega)
        have kk185:Kp Aa wr wz180:=kk179.trans kz183 (λ i hi h=>by have h':i=wr.heap.size:=h;(try have hq:=Nat.le_of_eq h');(first|omega|(simp only[World.size_drew] at *;omega)))
        clear hz181 d0 f00 d1 f01 d2 f02
        refine hK _ _ ?_ (λ qZ=>?_)
        .exact ⟨Kz c0,Kz c1⟩
        clear hK K
        try simp only[AB]
        refine Ap 18 ?_
        try simp only[AB]
        refine wpAnyH_done (by kernel_rfl) ?_ _
        go_wp2_with fail
        go_meet
        exact⟨_,_,rfl,rfl,rfl,hb184,tz182,kk185⟩
       exact AllReadyH.nil
      exact AllReadyH.nil
     exact AllReadyH.nil
    case rest=>
     obtain⟨b1,b2,rfl,rfl,rfl,hb1,hb2,kx⟩:=hcut
     have b1x:=cells3 hb2
     obtain⟨t0,t1,t2⟩:=b1x
     have hlx:=lZ hb2
     have hbx:b<wc.heap.size:=Nat.lt_of_lt_of_le hb0 kx.size
     have r3x:=kx.cell r3 id
     clear r0 r1 r2 r3 r4 r4' hb1 c0 c1
     go_wp2_with fail
     go_region_held3 (λ w'=>w'.cell? ⟨b,j*5+3,none⟩=some (.int .i64 x.ln)/\w'.cell? b2=some (.int .u8 k)/\w'.cell? ⟨b2,1,none⟩=some (.int .i64 wds)/\w'.cell? ⟨b2,2,none⟩=some (.int .u64 (m:Nat)))
      (exact ⟨Ae KU r3x,Ae KU t0,Ae KU t1,Ae KU t2⟩)
      (first|(go_at_call 155;with_reducible refine(HSlot.o _).mono ?_;rintro e w9 ⟨rfl,k9⟩;have K9:Kp Aa wc w9:=Kp.then' KU k9))
     go_wp2
     exact bodyPost_ret (v:=.int .i64 S) (by simp[results,results99,go_sem]) rfl ⟨S,rfl,(HKW.o.then' kx).then' K9,.inl ⟨x,k,wds,m,HXm.o,HQ2.o,HQ1.o,HT.o,HS.o.symm⟩⟩
   .have HNN:Sl (∀ m y,m<j+1->cs[m]?=some y->¬ (y.tag=1/\(y.g:Int)=g)):=⟨λ m y hm hy=>by
     by_cases e:m=j
     .subst e;rw [HX.o] at hy;injection hy with hy;subst hy;exact λ h=>q1 ⟨h.2,h.1⟩
     .exact hno.o m y (by omega) hy⟩
    by_cases q3:(x.g:Int)=g
    .have p1:((x.g:Int)==g)=true:=by simp[q3]
     have p2:((x.tag:Int)==1)=false:=by
      have:¬ x.tag=1:=λ h=>q1 ⟨q3,h⟩
      simp;omega
     clear q1 q3
     go_wp2
     exact⟨⟨j+1,by omega,by go_num,HKW.o,HKK.o,HNN⟩,by simp only[intOf];omega⟩
    .have p1:((x.g:Int)==g)=false:=by simp[q3]
     clear q1
     go_wp2
     exact⟨⟨j+1,by omega,by go_num,HKW.o,HKK.o,HNN⟩,by simp only[intOf];omega⟩
  .have hjl':¬ (j:Int)<(len:Int):=by omega
   have HNN:Sl (∀ c∈cs,c.tag=1->¬ (c.g:Int)=g):=⟨λ c hc ht hg=>by
    obtain⟨m,hm⟩:=List.getElem?_of_mem hc
    have hml:=(gE.1 hm).1
    rw[HLen.o] at hml
    exact hno.o m c (by omega) hm ⟨ht,hg⟩⟩
   clear hkk hkw
   go_wp2
   exact bodyPost_ret (v:=.int .i64 0) (by simp[results,results99,go_sem]) rfl ⟨0,rfl,HKW.o,.inr ⟨HNN.o,rfl⟩⟩

end

end Go.Proofs.YtfkedlgpgmaemaaGreatDoor
