/-
  Lemmas for the laws, together: SsK, SsF.
-/
import Derived.Test.YtfkedlgpgmaemaaGreatDoorProg
import Derived.Test.YtfkedlgpgmaemaaGreatDoorQbm
import Derived.Test.YtfkedlgpgmaemaaGreatDoorQak
import Derived.BigGuard
import Derived.BigCall
import Derived.CellFam
import Derived.Deep.Draws
import Derived.Test.YtfkedlgpgmaemaaGreatDoorQaz
set_option linter.unusedVariables false
set_option maxHeartbeats 16000000
namespace Go.Proofs.YtfkedlgpgmaemaaGreatDoor
open Tryz
section
open Go.RowKit

section

variable {C:T3->T3->Int} {s b T n cap:Nat} {F:Nat->T3} {w:World}

theorem InsS_at(hC:OrdC C)(hcmp:∀ x y W',Calls prog 56 #[Dr x,Dr y] W' λ e w'=>e=.returned (.int .i64 (C x y))/\Kp Aa W' w'){a z:Nat}(h:AV s b T n F w)(haz:a<=z)(hz:z<=n)(hn:n<1152921504606846976):
  Calls prog 202 #[.slice (some ⟨b,0,none⟩) n cap,.int .i64 (a:Nat),.int .i64 (z:Nat),.func (.func 56) #[] #[]] w λ e w'=>(∃ u,e=.returned u)/\BB s b T n (λ G=>Stab C a z F G/\Ai C a z G) w w':=by
 have H0:=sE h
 have HC:=sE hC
 have HCmp:=sE hcmp
 clear h hC hcmp
 unfold Dr at HCmp
 go_enter func202,ntmps202
 go_wp2_with fail
 go_loopw [8] (λ vi wr=>∃ (i:Nat),vi=.int .i64 (i:Nat)/\a<i/\i<=z+1/\Sl (BB s b T n (λ G=>Stab C a z F G/\Ai C a (min i z) G) w wr)) (λ vi _=>z+1-(intOf vi).toNat)
 case atStart=>exact ⟨a+1,by go_num,by omega,by omega,⟨F,H0.out,⟨.refl,λ i j h1 h2 h3=>by rw[show i=j by omega];exact HC.out.refl _⟩,Kr _ _⟩⟩
 case round=>
  obtain⟨i,rfl,hai,hib,HS⟩:=hrel
  obtain⟨dk,hR,⟨hSw,hso⟩,hK⟩:=HS.out
  have HR:=sE hR
  have HSw:=sE hSw
  have HSo:=sE hso
  have HK:=sE hK
  clear hR hSw hso hK HS
  by_cases hlt:i<z
  .have hlt':(i:Int)<(z:Int):=by omega
   go_wp2_with fail
   go_loopw [9] (λ vj wr2=>∃ (j:Nat),vj=.int .i64 (j:Nat)/\a<=j/\j<=i/\Sl (BB s b T n (λ G=>Stab C a z F G/\DownC C a i j G) w wr2)) (λ vj _=>(intOf vj).toNat)
   case atStart=>exact ⟨i,rfl,by omega,Nat.le_refl _,⟨dk,HR.out,⟨HSw.out,DownC.start (by have:=HSo.out;rwa [Nat.min_eq_left (by omega)] at this)⟩,HK.out⟩⟩
   case round=>
    obtain⟨j,rfl,haj,hji,HT⟩:=hrel
    obtain⟨dj,hR,⟨hSw,hso⟩,hK⟩:=HT.out
    have HR:=sE hR
    have HSw:=sE hSw
    have HSo:=sE hso
    have HK:=sE hK
    clear hR hSw hso hK HT
    by_cases hja:a<j
    .obtain ⟨j,rfl⟩:∃ k,j=k+1:=⟨j-1,by omega⟩
     obtain⟨y0,y1,y2⟩:=HR.out.cells (i:=j+1) (by omega)
     obtain⟨x0,x1,x2⟩:=HR.out.cells (i:=j) (by omega)
     obtain⟨y,hy⟩:∃ y,dj (j+1)=y:=⟨_,rfl⟩
     obtain⟨x,hx⟩:∃ x,dj j=x:=⟨_,rfl⟩
     rw[hy] at y0 y1 y2
     rw[hx] at x0 x1 x2
     have HXY:=sE (And.intro hy hx)
     clear hy hx
     have hw1:IntKind.i64.wrap ((j:Int)+1-1)=(j:Int):=by rw[IntKind.wrap_i64];omega
     have hw2:IntKind.i64.wrap (j:Int)=(j:Int):=by rw[IntKind.wrap_i64];omega
     have p0:(0:Int)<=(j:Int)+1:=by omega
     have p1:(j:Int)+1<(n:Int):=by omega
     have p2:(0:Int)<=(j:Int):=by omega
     have p3:(j:Int)<(n:Int):=by omega
     have p4:(a:Int)<(j:Int)+1:=by omega
     go_wp2_with fail
     refine wp_region_held_drew (S:=λ w'=>w'.cell? ⟨b,(j+1)*3,none⟩=some (.int .i64 y.1)/\w'.cell? ⟨b,(j+1)*3+1,none⟩=some (.int .i64 y.2.1)/\w'.cell? ⟨b,(j+1)*3+2,none⟩=some (.int .i64 y.2.2)/\w'.cell? ⟨b,j*3,none⟩=some (.int .i64 x.1)/\w'.cell? ⟨b,j*3+1,none⟩=some (.int .i64 x.2.1)/\w'.cell? ⟨b,j*3+2,none⟩=some (.int .i64 x.2.2)) (by kernel_rfl) ?_ (λ qZ=>?_)
     .exact ⟨y0,y1,y2,x0,x1,x2⟩
     refine Ao 0 ?_;refine Ao 1 ?_;refine Ao 2 ?_;refine Ao 3 ?_
     try simp only[Ay]
     refine Ao 4 ?_;refine Ao 5 ?_;refine Ao 6 ?_;refine Ao 7 ?_;refine Ao 8 ?_
     try simp only[Ay]
     refine Ao 9 ?_;refine Ao 10 ?_;refine Ao 11 ?_;refine Ao 12 ?_;refine Ao 13 ?_
     try simp only[Ay]
     refine Bl [14] ?_
     refine Af rfl (λ K hK=>?_)
     go_simp
     refine(HCmp.out y x _).mono ?_
     rintro e w3 ⟨rfl,k3⟩
     have kd:Kp Aa wr wr.drew:=(Kr _ _).drew
     have k13:Kp Aa wr w3:=kd.then' k3
     obtain⟨c,hc⟩:∃ c,C y x=c:=⟨_,rfl⟩
     rw[hc]
     have HCc:=sE hc
     clear hc
     refine hK _ _ ?_ (λ qZ=>?_)
     .exact ⟨Ac k13 y0,Ac k13 y1,Ac k13 y2,Ac k13 x0,Ac k13 x1,Ac k13 x2⟩
     clear hK K
     try simp only[Ay]
     refine Ao 15 ?_;refine Ao 16 ?_
     try simp only[Ay]
     refine wpAnyH_done (by kernel_rfl) ?_ _
     have HK3:Sl (Kp Aa wr w3):=⟨k13⟩
     have HK03:Sl (Kp (λ k=>k=b) w w3):=⟨HK.out.trans k13 (λ _ _ h=>h.elim)⟩
     replace y0:=Ac k13 y0
     replace y1:=Ac k13 y1
     replace y2:=Ac k13 y2
     replace x0:=Ac k13 x0
     replace x1:=Ac k13 x1
     replace x2:=Ac k13 x2
     have hfz:=(HR.out.keep k13 (λ h=>h)).warm
     clear k13 k3 kd qZ
     by_cases hcn:c<0
     .have hcd:decide (c<0)=true:=dT hcn
      rw[hcd]
      go_wp2_with fail
      go_region
      all_goals go_wp2
      go_roundw
      case rel=>exact ⟨j,by first|rfl|(congr 1;omega),by omega,by omega,⟨_,(HR.out.keep HK3.out (λ h=>h)).swapE (i:=j+1) (j:=j) (by omega) (by omega) HXY.out.1 HXY.out.2,⟨by rw[swp3_comm];exact HSw.out.step (by omega) (by omega) (by rw[HXY.out.1,HXY.out.2,HCc.out];exact hcn),by rw[swp3_comm];exact HSo.out.step HC.out (by omega) hji (by rw[HXY.out.1,HXY.out.2,HCc.out];exact hcn)⟩,(AV.kswap HK03.out ..).drew⟩⟩
      case measure=>simp [intOf]
     .have hcd:decide (c<0)=false:=dF hcn
      rw[hcd]
      go_wp2
      refine⟨⟨i+1,by go_num,by omega,by omega,⟨dj,HR.out.keep HK3.out (λ h=>h),⟨HSw.out,?_⟩,HK03.out⟩⟩,by simp only[intOf];omega⟩
      rw[Nat.min_eq_left (by omega)]
      exact HSo.out.stop HC.out haj hji (.inr (by rw[Nat.add_sub_cancel,HXY.out.1,HXY.out.2,HCc.out];exact hcn))
    .obtain rfl:a=j:=by omega
     have p4:¬ (a:Int)<(a:Int):=by omega
     go_wp2_with fail
     go_quiet (fail)
     go_wp2
     refine⟨⟨i+1,by go_num,by omega,by omega,⟨dj,HR.out.keep (S:=Aa) (Kp.Ah _) (λ h=>h),⟨HSw.out,?_⟩,HK.out.drewN _⟩⟩,by simp only[intOf];omega⟩
     rw[Nat.min_eq_left (by omega)]
     exact HSo.out.stop HC.out haj hji (.inl rfl)
  .have hlt':¬ (i:Int)<(z:Int):=by omega
   go_wp2
   refine bodyPost_end (results_none rfl _ _ _) rfl ?_
   exact⟨⟨_,rfl⟩,dk,HR.out,⟨HSw.out,by have:=HSo.out;rwa [Nat.min_eq_right (by omega)] at this⟩,HK.out⟩

end

end

section
open Go.RowKit

section

variable {C:T3->T3->Int} {s b T n cap:Nat}

theorem InsS_nil(fn:Value)(w:World):
  Calls prog 202 #[.slice none 0 0,.int .i64 0,.int .i64 0,fn] w λ e w'=>(∃ u,e=.returned u)/\Kp Aa w w':=by
 go_enter func202,ntmps202
 go_wp2_with fail
 go_loopw [8] (λ x wr=>x=.int .i64 1/\Kp Aa w wr) (λ _ _=>0)
 case atStart=>exact ⟨rfl,Kr _ _⟩
 case round=>
  obtain⟨rfl,hk⟩:=hrel
  go_wp2
  refine bodyPost_end (results_none rfl _ _ _) rfl ?_
  exact⟨⟨_,rfl⟩,hk⟩

theorem StableS_nil(fn:Value)(w:World):
  Calls prog 163 #[.slice none 0 0,.int .i64 0,fn] w λ e w'=>(∃ u,e=.returned u)/\Kp Aa w w':=by
 go_enter func163,ntmps163
 go_wp2_with fail
 go_loopw [7,8] (λ x7 x8 wr=>x7=.int .i64 0/\x8=.int .i64 20/\Kp Aa w wr) (λ _ _ _=>0)
 case atStart=>exact ⟨rfl,rfl,Kr _ _⟩
 case round=>
  obtain⟨rfl,rfl,hk⟩:=hrel
  have HK:=sE hk
  clear hk
  go_wp2_with fail
  refine(InsS_nil fn _).mono ?_
  rintro e w2 ⟨⟨u,rfl⟩,k2⟩
  have HK2:=sE (HK.out.then' k2)
  clear k2
  go_wp2_with fail
  go_loopw [6,7,8,9] (λ x6 _ _ _ wr=>x6=.int .i64 20/\Kp Aa w wr) (λ _ _ _ _ _=>0)
  case atStart=>exact ⟨rfl,HK2.out⟩
  case round=>
   obtain⟨rfl,hk⟩:=hrel
   go_wp2
   refine bodyPost_end (results_none rfl _ _ _) rfl ?_
   exact⟨⟨_,rfl⟩,hk⟩

theorem StableS_few{F:Nat->T3}{w:World}(hC:OrdC C)(hcmp:∀ x y W',Calls prog 56 #[Dr x,Dr y] W' λ e w'=>e=.returned (.int .i64 (C x y))/\Kp Aa W' w')(hn:n<=19)(h:AV s b T n F w):
  Calls prog 163 #[.slice (some ⟨b,0,none⟩) n cap,.int .i64 (n:Nat),.func (.func 56) #[] #[]] w λ e w'=>(∃ u,e=.returned u)/\BB s b T n (λ G=>Stab C 0 n F G/\Ai C 0 n G) w w':=by
 have HI:Sl (∀ W',Kp Aa w W'->_):=⟨λ W' kk=>InsS_at (cap:=cap) hC hcmp (F:=F) (w:=W') (a:=0) (z:=n) (h.keep kk (λ h=>h)) (Nat.zero_le _) (Nat.le_refl _) (by omega)⟩
 clear h hcmp hC
 have hlt:¬ (20:Int)<=(n:Int):=by omega
 have hlt2:¬ (20:Int)<(n:Int):=by omega
 go_enter func163,ntmps163
 go_wp2_with fail
 go_loopw [7,8] (λ x7 x8 wr=>x7=.int .i64 0/\x8=.int .i64 20/\Kp Aa w wr) (λ _ _ _=>0)
 case atStart=>exact ⟨rfl,rfl,Kr _ _⟩
 case round=>
  obtain⟨rfl,rfl,hk⟩:=hrel
  have HK:=sE hk
  clear hk
  go_wp2_with fail
  refine(HI.out _ HK.out).mono ?_
  rintro e w2 ⟨⟨u,rfl⟩,G,r2,h2,k2⟩
  have HT:Sl (BB s b T n (λ G=>Stab C 0 n F G/\Ai C 0 n G) w w2):=⟨G,r2,h2,(HK.out.Ar _).trans k2 (λ _ _ h=>h)⟩
  clear r2 h2 k2
  go_wp2_with fail
  go_loopw [6,7,8,9] (λ x6 _ _ _ wr=>x6=.int .i64 20/\wr=w2) (λ _ _ _ _ _=>0)
  case atStart=>exact ⟨rfl,rfl⟩
  case round=>
   obtain⟨rfl,rfl⟩:=hrel
   go_wp2
   refine bodyPost_end (results_none rfl _ _ _) rfl ?_
   exact⟨⟨_,rfl⟩,HT.out⟩

theorem SortS_of{base:Nat}{v:Value}{L:List T3}{w:World}(hC:OrdC C)(hst:∀ {g cap:Nat},AV (cap*3) g T L.length (atL L) w->Calls prog 163 #[.slice (some ⟨g,0,none⟩) L.length cap,.int .i64 (L.length:Nat),.func (.func 56) #[] #[]] w λ e w'=>(∃ u,e=.returned u)/\BB (cap*3) g T L.length (λ G=>Stab C 0 L.length (atL L) G/\Ai C 0 L.length G) w w')(h:w.ownsRow base T 3 v L.length (Br L)):
  Calls prog 109 #[v,.func (.func 56) #[] #[]] w λ e w'=>(∃ u,e=.returned u)/\w'.ownsRow base T 3 v L.length (Br (Cb C L))/\Kp (λ k=>v.ownBlock=some k) w w':=by
 rcases h.2 with ⟨rfl,h0⟩|⟨g,cap,cur,rfl,-⟩
 .have hL:L=[]:=List.length_eq_zero_iff.1 h0
  subst hL
  have HI:=sE (StableS_nil (.func (.func 56) #[] #[]) w)
  clear h h0 hst hC
  go_enter func109,ntmps109
  go_wp2_with fail
  refine HI.out.mono ?_
  rintro e w2 ⟨⟨u,rfl⟩,k2⟩
  go_wp2
  refine bodyPost_end (results_none rfl _ _ _) rfl ?_
  exact⟨⟨_,rfl⟩,World.ownsRow_nil _ _ _ _,k2.Ar _⟩
 .obtain ⟨hn,h1,h2,h3,hr⟩:=AV.Be h
  have HI:=sE (hst hr)
  have HB:=sE (And.intro h1 (And.intro h2 h3))
  have HC:=sE hC
  obtain⟨n,hnn⟩:∃ n,L.length=n:=⟨_,rfl⟩
  have HN:=sE hnn
  rw[hnn] at HI HB ⊢
  clear h h1 h2 h3 hr hst hC hn hnn
  go_enter func109,ntmps109
  go_wp2_with fail
  refine HI.out.mono ?_
  rintro e w2 ⟨⟨u,rfl⟩,G,r2,⟨s2,o2⟩,k2⟩
  have HW:Sl (w2.ownsRow base T 3 (.slice (some ⟨g,0,none⟩) n cap) n (Br (Cb C L))):=⟨by
   have e1:=s2.answer HC.out o2
   rw[<- HN.out,map_atL] at e1
   rw[<- e1,HN.out]
   exact r2.owns HB.out.1 HB.out.2.1 HB.out.2.2⟩
  have HK:Sl (Kp (λ k=>(Value.slice (some ⟨g,0,none⟩) n cap).ownBlock=some k) w w2):=⟨k2.mono λ i _ h=>by have h':i=g:=h;subst h';rfl⟩
  clear r2 s2 o2 k2
  go_wp2
  refine bodyPost_end (results_none rfl _ _ _) rfl ?_
  exact⟨⟨_,rfl⟩,HW.out,HK.out⟩

theorem ByS_of{base:Nat}{v:Value}{L:List T3}{w:World}(hC:OrdC C)(hst:∀ {g cap:Nat},AV (cap*3) g T L.length (atL L) w->Calls prog 163 #[.slice (some ⟨g,0,none⟩) L.length cap,.int .i64 (L.length:Nat),.func (.func 56) #[] #[]] w λ e w'=>(∃ u,e=.returned u)/\BB (cap*3) g T L.length (λ G=>Stab C 0 L.length (atL L) G/\Ai C 0 L.length G) w w')(h:w.ownsRow base T 3 v L.length (Br L)):
  Calls prog 55 #[v,.func (.func 56) #[] #[]] w λ e w'=>e=.returned v/\w'.ownsRow base T 3 v L.length (Br (Cb C L))/\Kp (λ k=>v.ownBlock=some k) w w':=by
 have HI:=sE (SortS_of hC hst h)
 obtain⟨a,c,rfl⟩:=AJ h
 obtain⟨n,hnn⟩:∃ n,L.length=n:=⟨_,rfl⟩
 rw[hnn] at HI ⊢
 clear h hst hC hnn
 go_enter func55,ntmps55
 go_wp2_with fail
 refine HI.out.mono ?_
 rintro e w2 ⟨⟨u,rfl⟩,h2,k2⟩
 have HW:=sE (And.intro h2 k2)
 clear h2 k2
 go_wp2
 go_ret
 exact⟨rfl,HW.out⟩

theorem ByS_few{base:Nat}{v:Value}{L:List T3}{w:World}(hC:OrdC C)(hcmp:∀ x y W',Calls prog 56 #[Dr x,Dr y] W' λ e w'=>e=.returned (.int .i64 (C x y))/\Kp Aa W' w')(hl:L.length<=19)(h:w.ownsRow base T 3 v L.length (Br L)):
  Calls prog 55 #[v,.func (.func 56) #[] #[]] w λ e w'=>e=.returned v/\w'.ownsRow base T 3 v L.length (Br (Cb C L))/\Kp (λ k=>v.ownBlock=some k) w w':=
 ByS_of hC (λ hr=>StableS_few hC hcmp hl hr) h

end

end

end Go.Proofs.YtfkedlgpgmaemaaGreatDoor
