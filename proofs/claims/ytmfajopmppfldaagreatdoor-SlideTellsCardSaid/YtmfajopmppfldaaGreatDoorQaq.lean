/-
  Lemmas for the laws, together: Play4.
-/
import Derived.Test.YtmfajopmppfldaaGreatDoorQap
import Derived.Test.YtmfajopmppfldaaGreatDoorQah
import Derived.Test.YtmfajopmppfldaaGreatDoorQai
set_option linter.unusedVariables false
set_option maxHeartbeats 16000000
namespace Go.Proofs.YtmfajopmppfldaaGreatDoor
open Tryz
section
open Go.RowKit

def DSettlePost(P:Sp)(W:Nat->Nat)(x:Nat->Int)(len rb q:Nat)(lv:Value)(w:World)(e:Ending)(w':World):Prop:=
 (Bd W P.n P.ts x 0 len 0=none/\e=.returned (.int .i64 2)/\DocAt w' rb q P.n W lv/\Kp Ab w w')\/
 (∃ os,Bd W P.n P.ts x 0 len 0=some os/\e=.returned (.int .i64 0)/\Kp (λ k=>k=rb) w w'/\∃ q',(q'=q\/w.heap.size<=q')/\DocAt w' rb q' P.n (AU W 0 os (P.n/2)) lv)

def SetCutY(c:Cel)(w:World)(a e:Value)(wx:World):Prop:=
 ∃ b1,a=.pointer (some ⟨b1,0,none⟩)/\e=.int .i64 0/\wx.heap[b1]?=some (.cells #[.int .u8 1,.int .i64 (c.ty:Nat),.int .i64 (c.ln:Nat),.int .i64 (c.sz:Nat)] 52 (0,0))/\w.heap.size<=b1/\Kp Ab w wx

def SetCutN(w:World)(e:Value)(wx:World):Prop:=∃ E:Int,¬ E=0/\e=.int .i64 E/\Kp Ab w wx

def SetI(P:Sp)(W:Nat->Nat)(x:Nat->Int)(len:Nat)(w:World)(v5 v6 v7:Value)(wr:World):Prop:=
 ∃ (j:Nat) (os:List Cel) (e:Nat),j<=len/\v6=.int .i64 (e:Nat)/\v7=.int .i64 (j:Nat)/\e<=32768/\Sl (Cc W P.n P.ts x len j os e)/\wr.ownsRow w.heap.size 3 1 v5 os.length (AB (os.map Cel.sz))/\Kp Ab w wr

set_option maxRecDepth 20000 in
theorem DSettle_any(P:Sp)(W:Nat->Nat)(rb q:Nat)(lv v:Value)(len:Nat)(x:Nat->Nat->Int)(w:World)(hd:DocAt w rb q P.n W lv)(hv:AO w lv P.ts)(hl:P.ts.length<=17592186044416)(hM:Cg P.ts)
  (hx:BA 1 w v len x) (hlen:len<=1000) (hvb:0<len->v.ownBlock≠some rb):
  Calls prog 88 #[.pointer (some ⟨rb,0,none⟩),v] w (DSettlePost P W (λ i=>x i 0) len rb q lv w):=by
 have hlt:=hd.lt
 have hn:=hd.row.small
 obtain⟨va,vc,rfl,hxs⟩:=ints_at hx
 have HX:=sE hxs
 have HD:=sE hd
 have HV:=sE hv
 have HMs:=sE hM
 have HLl:=sE hl
 have HVB:=sE hvb
 clear hd hv hM hl hx hxs hvb
 go_enter func88,ntmps88
 go_wp2_with fail
 go_loopw [5,6,7] (λ v5 v6 v7 wr=>SetI P W (λ i=>x i 0) len w v5 v6 v7 wr) (λ _ _ y _=>len-(intOf y).toNat)
 case atStart=>exact ⟨0,[],0,Nat.zero_le _,rfl,rfl,Nat.zero_le _,⟨Cc.start _ _ _ _ _⟩,World.ownsRow_nil _ _ _ _,Kr _ _⟩
 case round=>
  obtain⟨j,os,e,hj,rfl,rfl,he,HS,hown,hk⟩:=hrel
  have HO:=sE hown
  have HK:=sE hk
  by_cases hjl:j<len
  .have hjl':(j:Int)<(len:Int):=by omega
   obtain⟨b,o,rfl,hbl,cx0,xb1,xb2⟩:=HX.out j hjl
   have cx:=hk.cell cx0 (λ h=>h)
   obtain⟨capr,c0,c1⟩:=(HD.out.Ad hk).head
   have hrb:rb<wr.heap.size:=Nat.lt_of_lt_of_le hlt hk.size
   have hbr:b<wr.heap.size:=Nat.lt_of_lt_of_le hbl hk.size
   have hf:=HD.out.row.fits
   clear hown hk cx0 hf
   cases hc:Cb W P.n P.ts (x j 0) with
   |none=>
    have HF:Sl (Bd W P.n P.ts (λ i=>x i 0) 0 len 0=none):=⟨HS.out.fails hjl (.inl hc)⟩
    have HOf:Sl (∀ W',Kp Ab wr W'->Calls prog 132 #[.slice (some ⟨q,0,none⟩) P.n capr,lv,.int .i64 (x j 0)] W' λ e w'=>∃ E:Int,¬ E=0/\e=.returned (.tuple #[.agg #[.int .u8 0,.int .i64 0,.int .i64 0,.int .i64 0],.agg #[.int .u8 0,.int .i64 0,.int .u64 0],.int .i64 E])/\Kp Ab W' w'):=⟨λ W' kk=>by
     refine(DOf_any (x j 0) q P.n capr W lv P.ts W' (HD.out.row.Ad (HK.out.then' kk)) (HV.out.Ad (HK.out.then' kk)) HLl.out HMs.out).mono λ e w' hp=>?_
     unfold DN at hp
     rw[hc] at hp
     exact hp⟩
    clear hc
    go_upto_region 6 with fail
    go_cut [8,9,10] from 18 to 34 (λ _ _ e wx=>SetCutN wr e wx)
    case first=>
     obtain⟨W0,hW0⟩:∃ W0,wr.drew=W0:=⟨_,rfl⟩
     have kk:Kp Ab wr wr.drew:=(Kr _ _).drew
     refine wp_region_held_drew (S:=(λ w'=>w'.cell? ⟨rb,0,none⟩=some (.slice (some ⟨q,0,none⟩) P.n capr)/\w'.cell? ⟨rb,1,none⟩=some lv/\w'.cell? ⟨b,o+j,none⟩=some (.int .i64 (x j 0)))) (by kernel_rfl) ?_ (λ qZ=>?_)
     .exact ⟨Kz c0,Kz c1,Kz cx⟩
     rw[hW0] at kk qZ ⊢
     refine Ao 0 ?_;refine Ao 1 ?_;refine Ao 2 ?_;refine Ao 3 ?_;refine Ao 4 ?_;refine Ao 5 ?_;refine Ao 6 ?_;refine Ao 7 ?_;refine Ao 8 ?_;refine Ao 9 ?_;refine Ao 10 ?_;refine Ao 11 ?_
     try simp only[Ar]
     iterate 3
      all_goals
       first|(have g:=pA;clear g;have g:=pB;clear g;refine AQ [12] ?_)|(have g:=pA;clear g;have g:=mC;clear g;refine AQ [18] ?_)|(have g:=pB;clear g;have g:=mC;clear g;refine AQ [17] ?_)|(have g:=pA;clear g;refine AQ [12,18] ?_)|(have g:=pB;clear g;refine AQ [12,17] ?_)|(have g:=mC;clear g;refine AQ [17,18] ?_)|(refine AQ [12,17,18] ?_)
       repeat' (first|exact AllReadyH.nil|refine Ah rfl (λ K hK=>?_) ?_)
       all_goals go_simp
       all_goals first
        |with_reducible refine(HOf.out _ kk).mono ?_
         rintro e W0 ⟨E,hE,rfl,ka⟩
         have HE:=sE hE
         clear hE
         try replace pA:=ka.at_ pA (λ h=>h)
         try replace pB:=ka.at_ pB (λ h=>h)
         replace kk:=kk.then' ka
         have mC:True:=trivial
         refine hK _ _ ?_ (λ qZ=>?_)
         .exact ⟨Kz c0,Kz c1,Kz cx⟩
         clear hK K ka
         try simp only[Ar]
         refine Ao 13 ?_;refine Ao 14 ?_;refine Ao 15 ?_;refine Ao 16 ?_
         try simp only[Ar]
        |obtain ⟨a,ha⟩:∃ a,W0.heap.size=a:=⟨_,rfl⟩
         obtain⟨V,hV⟩:∃ V,V=World.alloc W0 (.cells #[.int .u8 0,.int .i64 0,.int .i64 0,.int .i64 0] 52):=⟨_,rfl⟩
         rw[<- hV]
         have ka:Kp Ab W0 V:=by rw[hV];exact (Kr _ _).alloc _
         have pA:V.heap[a]?=some (.cells #[.int .u8 0,.int .i64 0,.int .i64 0,.int .i64 0] 52 (0,0)):=by rw[hV,<- ha];exact wN _ _
         have lA:wr.heap.size<=a:=by rw[<- ha];exact kk.size
         try have hab:¬ b=a:=by have:=lZ pB;omega
         try replace pB:=ka.at_ pB (λ h=>h)
         replace kk:=kk.then' ka
         rw[ha]
         refine hK _ _ ?_ (λ qZ=>?_)
         .exact ⟨Kz c0,Kz c1,Kz cx⟩
         clear hK K ka hV ha
         try simp only[Ar]
         obtain⟨W0,rfl⟩:∃ W0,W0=V:=⟨_,rfl⟩
        |obtain ⟨b,hb⟩:∃ b,W0.heap.size=b:=⟨_,rfl⟩
         obtain⟨V,hV⟩:∃ V,V=World.alloc W0 (.cells #[.int .u8 0,.int .i64 0,.int .u64 0] 86):=⟨_,rfl⟩
         rw[<- hV]
         have ka:Kp Ab W0 V:=by rw[hV];exact (Kr _ _).alloc _
         have pB:V.heap[b]?=some (.cells #[.int .u8 0,.int .i64 0,.int .u64 0] 86 (0,0)):=by rw[hV,<- hb];exact wN _ _
         have lB:wr.heap.size<=b:=by rw[<- hb];exact kk.size
         try have hab:¬ b=a:=by have:=lZ pA;omega
         try replace pA:=ka.at_ pA (λ h=>h)
         replace kk:=kk.then' ka
         rw[hb]
         refine hK _ _ ?_ (λ qZ=>?_)
         .exact ⟨Kz c0,Kz c1,Kz cx⟩
         clear hK K ka hV hb
         try simp only[Ar]
         obtain⟨W0,rfl⟩:∃ W0,W0=V:=⟨_,rfl⟩
     all_goals
      have hsz:=lZ pA
      obtain⟨d0,d1,d2,d3⟩:=Ay pA
      have f0:=Ae pA;have f00:=f0 0;have f01:=f0 1;have f02:=f0 2;have f03:=f0 3
      refine AQ [19] ?_
      refine Ag rfl (λ K hK=>?_)
      clear f0
      go_simp
      obtain⟨V,hV⟩:∃ V,V=World.setCell (World.setCell (World.setCell (World.setCell W0 ⟨a,0,none⟩ (.int .u8 0)) ⟨a,1,none⟩ (.int .i64 0)) ⟨a,2,none⟩ (.int .i64 0)) ⟨a,3,none⟩ (.int .i64 0):=⟨_,rfl⟩
      rw[<- hV]
      obtain⟨qA,ka⟩:=Bb pA _ _ _ _ V hV
      replace pB:=ka.at_ pB hab
      replace kk:Kp Ab wr V:=kk.trans ka (λ i hi h=>by have h':i=a:=h;omega)
      clear hV d0 f00 d1 f01 d2 f02 d3 f03 pA ka hsz
      refine hK _ _ ?_ (λ qZ=>?_)
      .exact ⟨Kz c0,Kz c1,Kz cx⟩
      clear hK K
      try simp only[Ar]
      have hsz:=lZ pB
      obtain⟨d0,d1,d2⟩:=cells3 pB
      have f0:=Ae pB;have f00:=f0 0;have f01:=f0 1;have f02:=f0 2
      refine AQ [20] ?_
      refine Ag rfl (λ K hK=>?_)
      clear f0
      go_simp
      obtain⟨W0,hV⟩:∃ W,W=World.setCell (World.setCell (World.setCell V ⟨b,0,none⟩ (.int .u8 0)) ⟨b,1,none⟩ (.int .i64 0)) ⟨b,2,none⟩ (.int .u64 0):=⟨_,rfl⟩
      rw[<- hV]
      obtain⟨qB,ka⟩:=Bh pB _ _ _ W0 hV
      replace qA:=ka.at_ qA (λ h=>hab (show a=b from h).symm)
      replace kk:Kp Ab wr W0:=kk.trans ka (λ i hi h=>by have h':i=b:=h;omega)
      clear hV d0 f00 d1 f01 d2 f02 pB ka hsz
      refine hK _ _ ?_ (λ qZ=>?_)
      .exact ⟨Kz c0,Kz c1,Kz cx⟩
      clear hK K
      try simp only[Ar]
      refine Ao 21 ?_
      try simp only[Ar]
      refine wpAnyH_done (by kernel_rfl) ?_ _
      go_wp2_with fail
      go_meet
      exact⟨E,HE.out,rfl,kk⟩
    case rest=>
     obtain⟨E,hE,rfl,kx⟩:=hcut
     have hb:(E !=0)=true:=by simpa using hE
     have HKF:=HK.out.then' kx
     clear hE c0 c1 cx
     go_wp2
     exact bodyPost_ret (v:=.int .i64 2) (by simp[results,results88,go_sem]) rfl (.inl ⟨HF.out,rfl,HD.out.Ad HKF,HKF⟩)
   |some c=>
    have hf:=HD.out.row.fits
    obtain⟨g1,g2,g3,g4,g5,g6⟩:=Ej hc hf
    obtain⟨k,wds,m,hty⟩:=En (g6.2 g2).1
    have HT:=sE hty
    have HOf:Sl (∀ W',Kp Ab wr W'->Calls prog 132 #[.slice (some ⟨q,0,none⟩) P.n capr,lv,.int .i64 (x j 0)] W' λ e w'=>e=.returned (.tuple #[.agg #[.int .u8 1,.int .i64 (c.ty:Nat),.int .i64 (c.ln:Nat),.int .i64 (c.sz:Nat)],.agg #[.int .u8 k,.int .i64 wds,.int .u64 (m:Nat)],.int .i64 0])/\Kp Ab W' w'):=⟨λ W' kk=>by
     refine(DOf_any (x j 0) q P.n capr W lv P.ts W' (HD.out.row.Ad (HK.out.then' kk)) (HV.out.Ad (HK.out.then' kk)) HLl.out HMs.out).mono λ e w' hp=>?_
     unfold DN at hp
     rw[hc] at hp
     obtain⟨k',wds',m',h1,h2,h3⟩:=hp
     rw[HT.out] at h1
     injection h1 with h1
     injection h1 with h1 h1' h1''
     subst h1 h1' h1''
     exact⟨h2,h3⟩⟩
    have hcb:c.g+c.sz<=32768:=by unfold Cel.fin at g4;omega
    have HC:=sE hc
    have HG1:=sE g1
    clear hc hf g2 g5 g6 hty g4
    go_upto_region 6 with fail
    go_cut [8,9,10] from 18 to 34 (λ a _ e wx=>SetCutY c wr a e wx)
    case first=>
     clear g1
     obtain⟨W0,hW0⟩:∃ W0,wr.drew=W0:=⟨_,rfl⟩
     have kk:Kp Ab wr wr.drew:=(Kr _ _).drew
     refine wp_region_held_drew (S:=(λ w'=>w'.cell? ⟨rb,0,none⟩=some (.slice (some ⟨q,0,none⟩) P.n capr)/\w'.cell? ⟨rb,1,none⟩=some lv/\w'.cell? ⟨b,o+j,none⟩=some (.int .i64 (x j 0)))) (by kernel_rfl) ?_ (λ qZ=>?_)
     .exact ⟨Kz c0,Kz c1,Kz cx⟩
     rw[hW0] at kk qZ ⊢
     refine Ao 0 ?_;refine Ao 1 ?_;refine Ao 2 ?_;refine Ao 3 ?_;refine Ao 4 ?_;refine Ao 5 ?_;refine Ao 6 ?_;refine Ao 7 ?_;refine Ao 8 ?_;refine Ao 9 ?_;refine Ao 10 ?_;refine Ao 11 ?_
     try simp only[Ar]
     iterate 3
      all_goals
       first|(have g:=pA;clear g;have g:=pB;clear g;refine AQ [12] ?_)|(have g:=pA;clear g;have g:=mC;clear g;refine AQ [18] ?_)|(have g:=pB;clear g;have g:=mC;clear g;refine AQ [17] ?_)|(have g:=pA;clear g;refine AQ [12,18] ?_)|(have g:=pB;clear g;refine AQ [12,17] ?_)|(have g:=mC;clear g;refine AQ [17,18] ?_)|(refine AQ [12,17,18] ?_)
       repeat' (first|exact AllReadyH.nil|refine Ah rfl (λ K hK=>?_) ?_)
       all_goals go_simp
       all_goals first
        |with_reducible refine(HOf.out _ kk).mono ?_
         rintro e W0 ⟨rfl,ka⟩
         try replace pA:=ka.at_ pA (λ h=>h)
         try replace pB:=ka.at_ pB (λ h=>h)
         replace kk:=kk.then' ka
         have mC:True:=trivial
         refine hK _ _ ?_ (λ qZ=>?_)
         .exact ⟨Kz c0,Kz c1,Kz cx⟩
         clear hK K ka
         try simp only[Ar]
         refine Ao 13 ?_;refine Ao 14 ?_;refine Ao 15 ?_;refine Ao 16 ?_
         try simp only[Ar]
        |obtain ⟨a,ha⟩:∃ a,W0.heap.size=a:=⟨_,rfl⟩
         obtain⟨V,hV⟩:∃ V,V=World.alloc W0 (.cells #[.int .u8 0,.int .i64 0,.int .i64 0,.int .i64 0] 52):=⟨_,rfl⟩
         rw[<- hV]
         have ka:Kp Ab W0 V:=by rw[hV];exact (Kr _ _).alloc _
         have pA:V.heap[a]?=some (.cells #[.int .u8 0,.int .i64 0,.int .i64 0,.int .i64 0] 52 (0,0)):=by rw[hV,<- ha];exact wN _ _
         have lA:wr.heap.size<=a:=by rw[<- ha];exact kk.size
         try have hab:¬ b=a:=by have:=lZ pB;omega
         try replace pB:=ka.at_ pB (λ h=>h)
         replace kk:=kk.then' ka
         rw[ha]
         refine hK _ _ ?_ (λ qZ=>?_)
         .exact ⟨Kz c0,Kz c1,Kz cx⟩
         clear hK K ka hV ha
         try simp only[Ar]
         obtain⟨W0,rfl⟩:∃ W0,W0=V:=⟨_,rfl⟩
        |obtain ⟨b,hb⟩:∃ b,W0.heap.size=b:=⟨_,rfl⟩
         obtain⟨V,hV⟩:∃ V,V=World.alloc W0 (.cells #[.int .u8 0,.int .i64 0,.int .u64 0] 86):=⟨_,rfl⟩
         rw[<- hV]
         have ka:Kp Ab W0 V:=by rw[hV];exact (Kr _ _).alloc _
         have pB:V.heap[b]?=some (.cells #[.int .u8 0,.int .i64 0,.int .u64 0] 86 (0,0)):=by rw[hV,<- hb];exact wN _ _
         have lB:wr.heap.size<=b:=by rw[<- hb];exact kk.size
         try have hab:¬ b=a:=by have:=lZ pA;omega
         try replace pA:=ka.at_ pA (λ h=>h)
         replace kk:=kk.then' ka
         rw[hb]
         refine hK _ _ ?_ (λ qZ=>?_)
         .exact ⟨Kz c0,Kz c1,Kz cx⟩
         clear hK K ka hV hb
         try simp only[Ar]
         obtain⟨W0,rfl⟩:∃ W0,W0=V:=⟨_,rfl⟩
     all_goals
      have hsz:=lZ pA
      obtain⟨d0,d1,d2,d3⟩:=Ay pA
      have f0:=Ae pA;have f00:=f0 0;have f01:=f0 1;have f02:=f0 2;have f03:=f0 3
      refine AQ [19] ?_
      refine Ag rfl (λ K hK=>?_)
      clear f0
      go_simp
      obtain⟨V,hV⟩:∃ V,V=World.setCell (World.setCell (World.setCell (World.setCell W0 ⟨a,0,none⟩ (.int .u8 1)) ⟨a,1,none⟩ (.int .i64 (c.ty:Nat))) ⟨a,2,none⟩ (.int .i64 (c.ln:Nat))) ⟨a,3,none⟩ (.int .i64 (c.sz:Nat)):=⟨_,rfl⟩
      rw[<- hV]
      obtain⟨qA,ka⟩:=Bb pA _ _ _ _ V hV
      replace pB:=ka.at_ pB hab
      replace kk:Kp Ab wr V:=kk.trans ka (λ i hi h=>by have h':i=a:=h;omega)
      clear hV d0 f00 d1 f01 d2 f02 d3 f03 pA ka hsz
      refine hK _ _ ?_ (λ qZ=>?_)
      .exact ⟨Kz c0,Kz c1,Kz cx⟩
      clear hK K
      try simp only[Ar]
      have hsz:=lZ pB
      obtain⟨d0,d1,d2⟩:=cells3 pB
      have f0:=Ae pB;have f00:=f0 0;have f01:=f0 1;have f02:=f0 2
      refine AQ [20] ?_
      refine Ag rfl (λ K hK=>?_)
      clear f0
      go_simp
      obtain⟨W0,hV⟩:∃ W,W=World.setCell (World.setCell (World.setCell V ⟨b,0,none⟩ (.int .u8 k)) ⟨b,1,none⟩ (.int .i64 wds)) ⟨b,2,none⟩ (.int .u64 (m:Nat)):=⟨_,rfl⟩
      rw[<- hV]
      obtain⟨qB,ka⟩:=Bh pB _ _ _ W0 hV
      replace qA:=ka.at_ qA (λ h=>hab (show a=b from h).symm)
      replace kk:Kp Ab wr W0:=kk.trans ka (λ i hi h=>by have h':i=b:=h;omega)
      clear hV d0 f00 d1 f01 d2 f02 pB ka hsz
      refine hK _ _ ?_ (λ qZ=>?_)
      .exact ⟨Kz c0,Kz c1,Kz cx⟩
      clear hK K
      try simp only[Ar]
      refine Ao 21 ?_
      try simp only[Ar]
      refine wpAnyH_done (by kernel_rfl) ?_ _
      go_wp2_with fail
      go_meet
      exact⟨_,rfl,rfl,qA,lA,kk⟩
    case rest=>
     obtain⟨b1,rfl,rfl,hb1,hb1w,kx⟩:=hcut
     have hsx:=kx.size
     have hbx:b<wc.heap.size:=by omega
     have cxx:=kx.cell cx (λ h=>h)
     rw[g1] at cxx
     obtain⟨d0,d1,d2,d3⟩:=Ay hb1
     have hlb:=lZ hb1
     have HKX:=sE kx
     have O1:wc.ownsRow w.heap.size 3 1 u5 os.length (AB (os.map Cel.sz)):=kx.owns HO.out (λ _ _ h=>h)
     have HO1:=sE O1
     have HKC:Sl (Kp Ab w wc):=⟨HK.out.then' kx⟩
     have HB1:=sE hb1
     have holen:os.length=j:=HS.out.2.1
     have HOL:=sE holen
     have hwsz:w.heap.size<=wc.heap.size:=HKC.out.size
     clear c0 c1 cx hb1 O1 kx g1 holen
     by_cases hlow:(c.g:Int)<(e:Int)
     .have HF:Sl (Bd W P.n P.ts (λ i=>x i 0) 0 len 0=none):=⟨HS.out.fails hjl (.inr (by show x j 0<_;rw [HG1.out];exact hlow))⟩
      have p1:decide ((c.g:Int)<(e:Int))=true:=dT hlow
      go_wp2
      exact bodyPost_ret (v:=.int .i64 2) (by simp[results,results88,go_sem]) rfl (.inl ⟨HF.out,rfl,HD.out.Ad HKC.out,HKC.out⟩)
     .have HN:Sl (Cc W P.n P.ts (λ i=>x i 0) len (j+1) (os++[c]) c.fin):=⟨HS.out.next hjl HD.out.row.fits HC.out (by show ¬ x j 0<_;rw [HG1.out];exact hlow)⟩
      have p1:decide ((c.g:Int)<(e:Int))=false:=dF hlow
      have hol:os.length<=1000:=by have:=HOL.out;omega
      go_wp2_with (at_builtin;obtain ⟨i0,hi,hz0,hz1,hz2⟩:=info_parts Cv;go_loud (refine wpList_append_lies _ rfl (.tmp 45) (.tmp 48) 82 rfl w.heap.size 3 i0 _ 1 8 AP hi hz0 hz1 hz2 rfl (by omega) u5 os.length (AB (os.map Cel.sz)) rfl (HO1.out.alloc _) ⟨wc.heap.size,0,none⟩ 1 1 [.int .i64 (c.sz:Nat)] rfl rfl (World.news_of_block (wN wc _)) (by intro u hu;simp at hu;subst hu;rfl) (by omega) (by unfold maxLen;omega) (by omega) (by simp;omega) (wc.heap.size+1) (by simp) ?_);intro g cap w5 hown5 hgrow hat hlt;clear hi hz0 hz1 hz2)
      have k5:Kp Ab w w5:=(HKC.out.alloc _).grown hgrow (λ k e hl=>absurd (HO1.out.lt k e).1 (by omega))
      have kU:Kp (λ b=>u5.ownBlock=some b) wc w5:=(((Kr Ab wc).alloc _).Ak _).grown hgrow (λ k e _=>e)
      have hsum:IntKind.i64.wrap ((c.g:Int)+(c.sz:Int))=((c.fin:Nat):Int):=by rw[Cel.fin,IntKind.wrap_i64];omega
      have hrow5:w5.ownsRow w.heap.size 3 1 (.slice (some ⟨g,0,none⟩) (os.length+1) cap) (os++[c]).length (AB ((os++[c]).map Cel.sz)):=by
       rw[List.map_append,AB,List.map_append,List.length_append];exact hown5
      have HR5:=sE hrow5
      have HK5:=sE k5
      have hz5:¬ u5.ownBlock=some b:=λ e=>by have:=(HO.out.lt b e).1;omega
      have hz6:¬ u5.ownBlock=some b1:=λ e=>by have:=(HO.out.lt b1 e).2;omega
      have cx5:=kU.cell cxx hz5
      have e3:=kU.cell d3 hz6
      have hs5:=kU.size
      have hfb:c.fin<=32768:=by rw[Cel.fin];exact hcb
      clear cxx d0 d1 d2 d3 hown5 hgrow hat k5 kU hz5 hz6 hrow5
      go_wp2_with fail
      go_quiet (fail)
      go_wp2
      exact⟨⟨j+1,os++[c],c.fin,by omega,rfl,by go_num,hfb,HN,(Kp.Aj (S:=Ab) _).owns HR5.out (λ _ _ h=>h),HK5.out.drewN _⟩,by simp only[intOf];omega⟩
  .have hjl':¬ (j:Int)<(len:Int):=by omega
   obtain rfl:j=len:=by omega
   have hR:=HS.out.done
   have hf:=HD.out.row.fits
   obtain⟨r1,r2,r3,r4⟩:=Da hf hR (Nat.zero_le _)
   have HR:=sE hR
   have HRi:=sE r1
   have HXo:Sl (∀ i o,os[i]?=some o->x i 0=(o.g:Nat)):=⟨λ i o ho=>by have:=r3 i o ho;rwa [Nat.zero_add] at this⟩
   have HLen:=sE r2
   obtain⟨capr,c0,c1⟩:=(HD.out.Ad hk).head
   have HRow:Sl (∀ i o,os[i]?=some o->∃ gb cap5,u5=.slice (some ⟨gb,0,none⟩) j cap5/\w.heap.size<=gb/\gb<wr.heap.size/\wr.cell? ⟨gb,i,none⟩=some (.int .i64 (o.sz:Nat))):=⟨λ i o ho=>by
    have hil:=(gE.1 ho).1
    obtain⟨_,h⟩:=hown
    rcases h with ⟨_,h0⟩|⟨gb,cap5,cur,hu,hb,hh,_,_,hsz,htk⟩
    .omega
    .refine ⟨gb,cap5,by rw[hu,r2],hb,lZ hh,?_⟩
     have h9:=congrArg (λ l=>l[i]?) htk
     simp only[List.getElem?_take,Nat.mul_one,AB,List.getElem?_map,ho,Option.map_some] at h9
     rw[if_pos hil,Array.getElem?_toList] at h9
     simp only[World.cell?,hh]
     exact h9⟩
   clear hown hk c0 c1 r1 r2 r3 r4 hR hf
   obtain⟨wo,rfl⟩:∃ wo:World,wo=wr:=⟨_,rfl⟩
   go_wp2_with fail
   go_loopw [6,11] (λ v6 v11 w'=>∃ (i e':Nat) (W1:Nat->Nat) (q':Nat),i<=j/\v6=.int .i64 (e':Nat)/\v11=.int .i64 (i:Nat)/\Sl (BI e' (os.drop i) (P.n/2))/\Sl (AU W1 e' (os.drop i) (P.n/2)=AU W 0 os (P.n/2))/\Sl (DocAt w' rb q' P.n W1 lv)/\(q'=q\/w.heap.size<=q')/\Kp (λ k=>k=rb) wo w') (λ _ y _=>j-(intOf y).toNat)
   case atStart=>exact ⟨0,0,W,q,Nat.zero_le _,rfl,rfl,⟨HRi.out⟩,⟨rfl⟩,⟨HD.out.Ad HK.out⟩,.inl rfl,Kr _ _⟩
   case round=>
    obtain⟨i,e',W1,q',hi,rfl,rfl,hri,hst,hd',hq',hkr⟩:=hrel
    have HQ:=sE hq'
    have HKR:=sE hkr
    clear hq'
    by_cases hij:i<j
    .have hij':(i:Int)<(j:Int):=by omega
     obtain⟨ob,hob⟩:∃ ob,os[i]?=some ob:=⟨os[i]'(by have:=HLen.out;omega),by simp⟩
     obtain⟨b,o,rfl,hbl,cx0,xb1,xb2⟩:=HX.out i (by omega)
     have hx9:=HXo.out i ob hob
     rw[hx9] at cx0
     obtain⟨gb,cap5,rfl,hgb1,hgb2,cz0⟩:=HRow.out i ob hob
     obtain⟨s1,s2,s3,s4⟩:=rising_step hob hri.out
     have hst2:=settle_step (W:=W1) (e:=e') (H:=P.n/2) hob
     have HST:Sl (AU (AZ W1 e' (ob.g-e')) ob.fin (os.drop (i+1)) (P.n/2)=AU W 0 os (P.n/2)):=⟨hst2.symm.trans hst.out⟩
     have HR4:=sE s4
     have hfin:ob.g+ob.sz<=32768:=by unfold Cel.fin at s3;omega
     have HM:Sl ((ob.g:Int)-(e':Int)=((ob.g-e':Nat):Int)):=⟨by omega⟩
     have hbr:¬ b=rb:=λ h=>HVB.out (by omega) (by rw[h];rfl)
     have hgr:¬ gb=rb:=by omega
     have cx:=hkr.cell (HK.out.cell cx0 (λ h=>h)) hbr
     have cz:=hkr.cell cz0 hgr
     have HL:=sE (DL rb q' P.n W1 lv e' (ob.g-e') wr hd'.out (by unfold Cel.fin at s3;omega))
     have hws:w.heap.size<=wr.heap.size:=Nat.le_trans HK.out.size hkr.size
     have hbw:b<wr.heap.size:=by omega
     have hgw:gb<wr.heap.size:=Nat.lt_of_lt_of_le hgb2 hkr.size
     have hsum:Sl (IntKind.i64.wrap ((ob.g:Int)+(ob.sz:Int))=((ob.fin:Nat):Int)):=⟨by rw[Cel.fin,IntKind.wrap_i64];omega⟩
     clear hst2 hx9 cx0 cz0 hkr hst hri s3 s4 hob
     go_wp2_with fail
     rw[HM.out]
     refine HL.out.mono ?_
     rintro e w6 ⟨rfl,q2,D2,hq2,k6⟩
     have cx6:=k6.cell cx hbr
     have cz6:=k6.cell cz hgr
     have hs6:=k6.size
     have HK6:Sl (Kp (λ k=>k=rb) wo w6):=⟨HKR.out.trans k6 (λ _ _ h=>h)⟩
     have HD2:=sE D2
     have HQ2:Sl (q2=q\/w.heap.size<=q2):=⟨by rcases hq2 with h|h;rw [h];exact HQ.out;exact .inr (by omega)⟩
     have hsm:=hsum.out
     clear cx cz D2 hq2 k6 hgr hbr
     go_wp2_with fail
     go_quiet (fail)
     go_wp2
     exact⟨⟨i+1,ob.fin,_,q2,by omega,rfl,by go_num,⟨HR4.out⟩,⟨HST.out⟩,⟨HD2.out.Ad (Kp.Aj _)⟩,HQ2.out,HK6.out.drewN _⟩,by simp only[intOf];omega⟩
    .have hij':¬ (i:Int)<(j:Int):=by omega
     have hi0:os.drop i=[]:=List.drop_eq_nil_of_le (by have:=HLen.out;omega)
     have hst2:=hst.out
     have hri2:=hri.out
     rw[hi0] at hst2 hri2
     have he2:e'<=P.n/2:=hri2
     have HST:Sl (AZ W1 e' (P.n/2-e')=AU W 0 os (P.n/2)):=⟨hst2⟩
     have HM:Sl ((P.n:Int)/2-(e':Int)=((P.n/2-e':Nat):Int)):=⟨by omega⟩
     have HL:=sE (DL rb q' P.n W1 lv e' (P.n/2-e') wr hd'.out (by omega))
     obtain⟨capr,c0,c1⟩:=hd'.out.head
     have hws:w.heap.size<=wr.heap.size:=Nat.le_trans HK.out.size hkr.size
     clear hst2 hri2 hi0 hst hri hkr
     go_wp2_with fail
     rw[HM.out]
     refine HL.out.mono ?_
     rintro e w6 ⟨rfl,q2,D2,hq2,k6⟩
     have HK6:Sl (Kp (λ k=>k=rb) wo w6):=⟨HKR.out.trans k6 (λ _ _ h=>h)⟩
     have HD2:=sE D2
     have HQ2:Sl (q2=q\/w.heap.size<=q2):=⟨by rcases hq2 with h|h;rw [h];exact HQ.out;exact .inr (by omega)⟩
     clear D2 hq2 k6 c0 c1
     go_wp2
     exact bodyPost_ret (v:=.int .i64 0) (by simp[results,results88,go_sem]) rfl (.inr ⟨os,HR.out,rfl,(HK.out.Ak _).trans HK6.out (λ _ _ h=>h),q2,HQ2.out,by rw[<- HST.out];exact HD2.out⟩)

end

end Go.Proofs.YtmfajopmppfldaaGreatDoor
