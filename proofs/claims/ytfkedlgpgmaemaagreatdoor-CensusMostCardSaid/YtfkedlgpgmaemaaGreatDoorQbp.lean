/-
  Lemmas for the laws, together: StM.
-/
import Derived.Test.YtfkedlgpgmaemaaGreatDoorQbm
import Derived.Test.YtfkedlgpgmaemaaGreatDoorQbo
import Derived.Deep.DeepCutAuto
set_option linter.unusedVariables false
set_option maxHeartbeats 16000000
namespace Go.Proofs.YtfkedlgpgmaemaaGreatDoor
open Tryz
section
open Go.RowKit

section

variable {C:T3->T3->Int} {s b T n cap:Nat}

set_option maxRecDepth 20000 in
theorem SymK_at(hC:OrdC C)(hcmp:∀ x y W',Calls prog 71 #[Dr x,Dr y] W' λ e w'=>e=.returned (.int .i64 (C x y))/\Kp Aa W' w')(hn:n<1152921504606846976):∀ (d:Nat) {a m z:Nat} {F:Nat->T3} {w:World},z-a<=d->AV s b T n F w->a<m->m<z->z<=n->Ai C a m F->Ai C m z F->
  Calls prog 205 #[.slice (some ⟨b,0,none⟩) n cap,.int .i64 (a:Nat),.int .i64 (m:Nat),.int .i64 (z:Nat),.func (.func 71) #[] #[]] w λ e w'=>(∃ u,e=.returned u)/\BB s b T n (λ G=>Stab C a z F G/\Ai C a z G) w w':=by
 intro d
 induction d using Nat.strongRecOn with
 |_ d ih=>
 intro a m z F w hd h ham hmz hzn hs1 hs2
 have H0:=sE h
 have HC:=sE hC
 have HCmp:=sE hcmp
 have HSym:Sl (∀ {a' m' z':Nat} {F:Nat->T3} {w:World},z'-a'<z-a->AV s b T n F w->a'<m'->m'<z'->z'<=n->Ai C a' m' F->Ai C m' z' F->
  Calls prog 205 #[.slice (some ⟨b,0,none⟩) n cap,.int .i64 (a':Nat),.int .i64 (m':Nat),.int .i64 (z':Nat),.func (.func 71) #[] #[]] w λ e w'=>(∃ u,e=.returned u)/\BB s b T n (λ G=>Stab C a' z' F G/\Ai C a' z' G) w w'):=⟨λ {a' m' z' F w} q=>ih (z'-a') (by omega) (Nat.le_refl _)⟩
 have HS1:=sE hs1
 have HS2:=sE hs2
 clear h hC hcmp ih hs1 hs2 hd
 unfold Dr at HCmp
 have v1:IntKind.i64.wrap ((m:Int)-(a:Int))=(m:Int)-(a:Int):=by rw[IntKind.wrap_i64];omega
 have v2:IntKind.i64.wrap ((z:Int)-(m:Int))=(z:Int)-(m:Int):=by rw[IntKind.wrap_i64];omega
 go_enter func205,ntmps205
 by_cases hA:(m:Int)-(a:Int)=1
 .have e1:((m:Int)-(a:Int)==1)=true:=by rw[beq_iff_eq];exact hA
  have HA:Sl (m=a+1):=⟨by omega⟩
  clear hA
  go_wp2_with fail
  go_loopw [10,11,12] (λ x10 x11 _ wr=>∃ i j:Nat,x10=.int .i64 (i:Nat)/\x11=.int .i64 (j:Nat)/\a+1<=i/\i<=j/\j<=z/\Sl (OneS C F a z i j)/\Kp Aa w wr) (λ x10 x11 _ _=>(intOf x11).toNat-(intOf x10).toNat)
  case atStart=>exact ⟨m,z,rfl,rfl,by omega,by omega,by omega,⟨λ t h1 h2=>by have:=HA.out;omega,λ t h1 h2=>by omega⟩,Kr _ _⟩
  case round=>
   obtain⟨i,j,rfl,rfl,hi1,hij,hjz,HB,hk⟩:=hrel
   have HK:=sE hk
   clear hk v1 v2 e1
   by_cases hlt:i<j
   .have hlt':(i:Int)<(j:Int):=by omega
    have u1:IntKind.i64.wrap ((i:Int)+(j:Int))=(i:Int)+(j:Int):=by rw[IntKind.wrap_i64];omega
    have u2:IntKind.u64.wrap ((i:Int)+(j:Int))=(i:Int)+(j:Int):=by rw[IntKind.wrap_u64];omega
    obtain⟨h,hh,hi,hj⟩:∃ h:Nat,((i:Int)+(j:Int))/2=(h:Int)/\i<=h/\h<j:=⟨(i+j)/2,by omega,by omega,by omega⟩
    have p0:(h:Int)<(n:Int):=by omega
    have p1:(a:Int)<(n:Int):=by omega
    obtain⟨y0,y1,y2⟩:=(H0.out.keep HK.out (λ h=>h)).cells (i:=h) (by omega)
    obtain⟨x0,x1,x2⟩:=(H0.out.keep HK.out (λ h=>h)).cells (i:=a) (by omega)
    obtain⟨y,hy⟩:∃ y,F (h)=y:=⟨_,rfl⟩
    obtain⟨x,hx⟩:∃ x,F (a)=x:=⟨_,rfl⟩
    rw[hy] at y0 y1 y2
    rw[hx] at x0 x1 x2
    have HXY:=sE (And.intro hy hx)
    clear hy hx
    go_wp2_with fail
    refine wp_region_held_drew (S:=λ w'=>w'.cell? ⟨b,(h)*3,none⟩=some (.int .i64 y.1)/\w'.cell? ⟨b,(h)*3+1,none⟩=some (.int .i64 y.2.1)/\w'.cell? ⟨b,(h)*3+2,none⟩=some (.int .i64 y.2.2)/\w'.cell? ⟨b,(a)*3,none⟩=some (.int .i64 x.1)/\w'.cell? ⟨b,(a)*3+1,none⟩=some (.int .i64 x.2.1)/\w'.cell? ⟨b,(a)*3+2,none⟩=some (.int .i64 x.2.2)) (by kernel_rfl) ?_ (λ qZ=>?_)
    .exact ⟨y0,y1,y2,x0,x1,x2⟩
    refine Ao 0 ?_;refine Ao 1 ?_;refine Ao 2 ?_;refine Ao 3 ?_;refine Ao 4 ?_
    try simp only[Ay]
    refine Ao 5 ?_;refine Ao 6 ?_;refine Ao 7 ?_;refine Ao 8 ?_
    try simp only[Ay]
    refine Bl [9] ?_
    refine Af rfl (λ K hK=>?_)
    go_simp
    refine(HCmp.out y x _).mono ?_
    rintro e w3 ⟨rfl,k3⟩
    have k13:Kp Aa wr w3:=((Kr Aa wr).drew).then' k3
    obtain⟨c,hc⟩:∃ c,C y x=c:=⟨_,rfl⟩
    rw[hc]
    have HCc:Sl (C (F (h)) (F (a))=c):=⟨by rw[HXY.out.1,HXY.out.2];exact hc⟩
    clear hc HXY
    refine hK _ _ ?_ (λ qZ=>?_)
    .exact ⟨Ac k13 y0,Ac k13 y1,Ac k13 y2,Ac k13 x0,Ac k13 x1,Ac k13 x2⟩
    clear hK K
    try simp only[Ay]
    refine Ao 10 ?_
    try simp only[Ay]
    refine wpAnyH_done (by kernel_rfl) ?_ _
    have HK3:Sl (Kp Aa w w3):=⟨HK.out.then' k13⟩
    clear k13 k3 qZ y0 y1 y2 x0 x1 x2
    clear u1 u2 hh p0 p1
    by_cases hcn:c<0
    .have hcd:decide (c<0)=true:=dT hcn
     rw[hcd]
     go_wp2
     refine⟨⟨h+1,j,by go_num,rfl,by omega,by omega,by omega,⟨λ t h1 h2=>?_,HB.out.2⟩,HK3.out⟩,by simp only[intOf];omega⟩
     exact HC.out.le_lt (HS2.out t h (by have:=HA.out;omega) (by omega) (by omega)) (by rw[HCc.out];exact hcn)
    .have hcd:decide (c<0)=false:=dF hcn
     rw[hcd]
     go_wp2
     refine⟨⟨i,h,rfl,rfl,by omega,by omega,by omega,⟨HB.out.1,λ t h1 h2=>?_⟩,HK3.out⟩,by simp only[intOf];omega⟩
     exact HC.out.trans (by rw[HCc.out];exact hcn) (HS2.out h t (by have:=HA.out;omega) h1 h2)
   .have hlt':¬ (i:Int)<(j:Int):=by omega
    obtain rfl:i=j:=by omega
    have u1:IntKind.i64.wrap ((i:Int)-1)=(i:Int)-1:=by rw[IntKind.wrap_i64];omega
    go_wp2_with fail
    go_loopw [13] (λ x13 w5=>∃ k:Nat,x13=.int .i64 (k:Nat)/\a<=k/\k+1<=i/\Sl (BB s b T n (λ G=>G=A9 F a (a+1) (k+1)) w w5)) (λ x13 _=>i-(intOf x13).toNat)
    case atStart=>exact ⟨a,rfl,by omega,by omega,⟨F,H0.out.keep HK.out (λ h=>h),(rotF_r rfl (by omega)).symm,HK.out.Ar _⟩⟩
    case round=>
     obtain⟨k,rfl,hak,hki,HS⟩:=hrel
     obtain⟨G,hR,hG,hK⟩:=HS.out
     have HR:=sE hR
     have HG:=sE hG
     have HK5:=sE hK
     clear hR hG hK HS HK
     obtain⟨w5,rfl⟩:∃ w5,w5=wr:=⟨_,rfl⟩
     by_cases hlt2:k+1<i
     .have hlt2':(k:Int)<(i:Int)-1:=by omega
      obtain⟨y0,y1,y2⟩:=HR.out.cells (i:=k) (by omega)
      obtain⟨x0,x1,x2⟩:=HR.out.cells (i:=k+1) (by omega)
      have hfz:=HR.out.warm
      have u2:IntKind.i64.wrap ((k:Int)+1)=(k:Int)+1:=by rw[IntKind.wrap_i64];omega
      have p0:(k:Int)<(n:Int):=by omega
      have p1:(k:Int)+1<(n:Int):=by omega
      have p2:(0:Int)<=(k:Int)+1:=by omega
      go_wp2_with fail
      go_region
      all_goals go_wp2
      go_roundw
      case rel=>exact ⟨k+1,by go_num,by omega,by omega,⟨_,HR.out.swapE (i:=k) (j:=k+1) (by omega) (by omega) rfl rfl,by rw[HG.out];exact (rot_hop' hak).symm,(AV.kswap HK5.out ..).drew⟩⟩
      case measure=>simp [intOf];omega
     .have hlt2':¬ (k:Int)<(i:Int)-1:=by omega
      obtain rfl:i=k+1:=by omega
      go_wp2
      refine bodyPost_ret (results_none rfl _ _ _) rfl ?_
      refine⟨⟨_,rfl⟩,G,HR.out,⟨?_,?_⟩,HK5.out⟩
      .rw [HG.out]
       have:=Stab.hop (C:=C) (F:=F) (a:=a) (b:=z) (p:=a) (Nat.le_refl _) (k+1-(a+1)) (by omega) (λ q q1 q2=>HB.out.1 q q1 (by omega))
       rwa [show a+1+(k+1-(a+1))=k+1 by omega] at this
      .rw [HG.out]
       exact merge_one (m:=m) HC.out (by have:=HS2.out;rwa [HA.out] at this) (by omega) (by omega) HB.out.1 HB.out.2
 .have e1:((m:Int)-(a:Int)==1)=false:=by rw[beq_eq_false_iff_ne];exact hA
  clear hA
  by_cases hB:(z:Int)-(m:Int)=1
  .have e2:((z:Int)-(m:Int)==1)=true:=by rw[beq_iff_eq];exact hB
   have HB1:Sl (z=m+1):=⟨by omega⟩
   clear hB
   go_wp2_with fail
   go_loopw [14,15,16] (λ x14 x15 _ wr=>∃ i j:Nat,x14=.int .i64 (i:Nat)/\x15=.int .i64 (j:Nat)/\a<=i/\i<=j/\j<=m/\Sl (LastS C F a m i j)/\Kp Aa w wr) (λ x14 x15 _ _=>(intOf x15).toNat-(intOf x14).toNat)
   case atStart=>exact ⟨a,m,rfl,rfl,by omega,by omega,by omega,⟨λ t h1 h2=>by omega,λ t h1 h2=>by omega⟩,Kr _ _⟩
   case round=>
    obtain⟨i,j,rfl,rfl,hi1,hij,hjz,HB,hk⟩:=hrel
    have HK:=sE hk
    clear hk v1 v2 e1 e2
    by_cases hlt:i<j
    .have hlt':(i:Int)<(j:Int):=by omega
     have u1:IntKind.i64.wrap ((i:Int)+(j:Int))=(i:Int)+(j:Int):=by rw[IntKind.wrap_i64];omega
     have u2:IntKind.u64.wrap ((i:Int)+(j:Int))=(i:Int)+(j:Int):=by rw[IntKind.wrap_u64];omega
     obtain⟨h,hh,hi,hj⟩:∃ h:Nat,((i:Int)+(j:Int))/2=(h:Int)/\i<=h/\h<j:=⟨(i+j)/2,by omega,by omega,by omega⟩
     have p0:(h:Int)<(n:Int):=by omega
     have p1:(m:Int)<(n:Int):=by omega
     obtain⟨y0,y1,y2⟩:=(H0.out.keep HK.out (λ h=>h)).cells (i:=m) (by omega)
     obtain⟨x0,x1,x2⟩:=(H0.out.keep HK.out (λ h=>h)).cells (i:=h) (by omega)
     obtain⟨y,hy⟩:∃ y,F (m)=y:=⟨_,rfl⟩
     obtain⟨x,hx⟩:∃ x,F (h)=x:=⟨_,rfl⟩
     rw[hy] at y0 y1 y2
     rw[hx] at x0 x1 x2
     have HXY:=sE (And.intro hy hx)
     clear hy hx
     go_wp2_with fail
     refine wp_region_held_drew (S:=λ w'=>w'.cell? ⟨b,(m)*3,none⟩=some (.int .i64 y.1)/\w'.cell? ⟨b,(m)*3+1,none⟩=some (.int .i64 y.2.1)/\w'.cell? ⟨b,(m)*3+2,none⟩=some (.int .i64 y.2.2)/\w'.cell? ⟨b,(h)*3,none⟩=some (.int .i64 x.1)/\w'.cell? ⟨b,(h)*3+1,none⟩=some (.int .i64 x.2.1)/\w'.cell? ⟨b,(h)*3+2,none⟩=some (.int .i64 x.2.2)) (by kernel_rfl) ?_ (λ qZ=>?_)
     .exact ⟨y0,y1,y2,x0,x1,x2⟩
     refine Ao 0 ?_;refine Ao 1 ?_;refine Ao 2 ?_;refine Ao 3 ?_;refine Ao 4 ?_
     try simp only[Ay]
     refine Ao 5 ?_;refine Ao 6 ?_;refine Ao 7 ?_;refine Ao 8 ?_
     try simp only[Ay]
     refine Bl [9] ?_
     refine Af rfl (λ K hK=>?_)
     go_simp
     refine(HCmp.out y x _).mono ?_
     rintro e w3 ⟨rfl,k3⟩
     have k13:Kp Aa wr w3:=((Kr Aa wr).drew).then' k3
     obtain⟨c,hc⟩:∃ c,C y x=c:=⟨_,rfl⟩
     rw[hc]
     have HCc:Sl (C (F (m)) (F (h))=c):=⟨by rw[HXY.out.1,HXY.out.2];exact hc⟩
     clear hc HXY
     refine hK _ _ ?_ (λ qZ=>?_)
     .exact ⟨Ac k13 y0,Ac k13 y1,Ac k13 y2,Ac k13 x0,Ac k13 x1,Ac k13 x2⟩
     clear hK K
     try simp only[Ay]
     refine Ao 10 ?_;refine Ao 11 ?_
     try simp only[Ay]
     refine wpAnyH_done (by kernel_rfl) ?_ _
     have HK3:Sl (Kp Aa w w3):=⟨HK.out.then' k13⟩
     clear k13 k3 qZ y0 y1 y2 x0 x1 x2
     clear u1 u2 hh p0 p1
     by_cases hcn:c<0
     .have hcd:decide (c<0)=true:=dT hcn
      rw[hcd]
      go_wp2
      refine⟨⟨i,h,rfl,rfl,by omega,by omega,by omega,⟨HB.out.1,λ t h1 h2=>?_⟩,HK3.out⟩,by simp only[intOf];omega⟩
      exact HC.out.lt_le (by rw[HCc.out];exact hcn) (HS1.out h t (by omega) h1 h2)
     .have hcd:decide (c<0)=false:=dF hcn
      rw[hcd]
      go_wp2
      refine⟨⟨h+1,j,by go_num,rfl,by omega,by omega,by omega,⟨λ t h1 h2=>?_,HB.out.2⟩,HK3.out⟩,by simp only[intOf];omega⟩
      exact HC.out.trans (HS1.out t h h1 (by omega) (by omega)) (by rw[HCc.out];exact hcn)
    .have hlt':¬ (i:Int)<(j:Int):=by omega
     obtain rfl:i=j:=by omega
     go_wp2_with fail
     go_loopw [17] (λ x17 w5=>∃ k:Nat,x17=.int .i64 (k:Nat)/\i<=k/\k<=m/\Sl (BB s b T n (λ G=>G=A9 F k m (m+1)) w w5)) (λ x17 _=>(intOf x17).toNat)
     case atStart=>exact ⟨m,rfl,by omega,by omega,⟨F,H0.out.keep HK.out (λ h=>h),(rotF_l rfl (by omega)).symm,HK.out.Ar _⟩⟩
     case round=>
      obtain⟨k,rfl,hak,hki,HS⟩:=hrel
      obtain⟨G,hR,hG,hK⟩:=HS.out
      have HR:=sE hR
      have HG:=sE hG
      have HK5:=sE hK
      clear hR hG hK HS HK
      obtain⟨w5,rfl⟩:∃ w5,w5=wr:=⟨_,rfl⟩
      by_cases hlt2:i<k
      .obtain ⟨k,rfl⟩:∃ k',k=k'+1:=⟨k-1,by omega⟩
       have hlt2':(i:Int)<(k:Int)+1:=by omega
       obtain⟨y0,y1,y2⟩:=HR.out.cells (i:=k+1) (by omega)
       obtain⟨x0,x1,x2⟩:=HR.out.cells (i:=k) (by omega)
       have hfz:=HR.out.warm
       have u2:IntKind.i64.wrap ((k:Int)+1-1)=(k:Int):=by rw[IntKind.wrap_i64];omega
       have u3:IntKind.i64.wrap (k:Int)=(k:Int):=by rw[IntKind.wrap_i64];omega
       have p0:(k:Int)<(n:Int):=by omega
       have p1:(k:Int)+1<(n:Int):=by omega
       have p2:(0:Int)<=(k:Int)+1:=by omega
       have p3:(0:Int)<=(k:Int):=by omega
       go_wp2_with fail
       go_region
       all_goals go_wp2
       go_roundw
       case rel=>exact ⟨k,by first|rfl|(congr 1;omega),by omega,by omega,⟨_,HR.out.swapE (i:=k+1) (j:=k) (by omega) (by omega) rfl rfl,by rw[HG.out];exact rot_down hki,(AV.kswap HK5.out ..).drew⟩⟩
       case measure=>simp [intOf]
      .have hlt2':¬ (i:Int)<(k:Int):=by omega
       obtain rfl:i=k:=by omega
       go_wp2
       refine bodyPost_ret (results_none rfl _ _ _) rfl ?_
       refine⟨⟨_,rfl⟩,G,HR.out,⟨?_,?_⟩,HK5.out⟩
       .rw [HG.out]
        have:=Stab.rot (C:=C) (x:=a) (y:=z) (a:=i) hi1 (m-i) (m+1) F (by omega) (by have:=HB1.out;omega) (λ p q p1 p2 q1 q2=>by rw[show q=m by omega];exact HB.out.2 p p1 (by omega))
        rwa [show i+(m-i)=m by omega] at this
       .rw [HG.out,HB1.out]
        exact merge_last HC.out HS1.out hi1 (by omega) HB.out.1 HB.out.2
  .have e2:((z:Int)-(m:Int)==1)=false:=by rw[beq_eq_false_iff_ne];exact hB
   clear hB
   have w1:IntKind.i64.wrap ((a:Int)+(z:Int))=(a:Int)+(z:Int):=by rw[IntKind.wrap_i64];omega
   have w2:IntKind.u64.wrap ((a:Int)+(z:Int))=(a:Int)+(z:Int):=by rw[IntKind.wrap_u64];omega
   obtain⟨mid,hmd,hm2⟩:∃ mid:Nat,((a:Int)+(z:Int))/2=(mid:Int)/\mid=(a+z)/2:=⟨(a+z)/2,by omega,rfl⟩
   obtain⟨N,hN,hN2⟩:∃ N:Nat,(mid:Int)+(m:Int)=(N:Int)/\mid+m=N:=⟨mid+m,by omega,rfl⟩
   obtain⟨s0,hs0⟩:∃ s0,s0=if mid<m then mid+m-z else a:=⟨_,rfl⟩
   obtain⟨r0,hr0⟩:∃ r0,r0=if mid<m then mid else m:=⟨_,rfl⟩
   have HM2:Sl (mid=(a+z)/2):=⟨hm2⟩
   have HSR:=sE (And.intro hs0 hr0)
   have hb:a<mid/\mid<z/\a<=s0/\s0<=r0/\r0<=m/\r0<=mid/\N<=z+s0:=by
    rw[hs0,hr0]
    split <;> omega
   obtain⟨b1,b2,b3,b4,b5,b6,b7⟩:=hb
   have w3:IntKind.i64.wrap (mid:Int)=(mid:Int):=by rw[IntKind.wrap_i64];omega
   have w4:IntKind.i64.wrap (N:Int)=(N:Int):=by rw[IntKind.wrap_i64];omega
   have w5:IntKind.i64.wrap ((N:Int)-(z:Int))=(N:Int)-(z:Int):=by rw[IntKind.wrap_i64];omega
   have w6:IntKind.i64.wrap ((N:Int)-1)=(N:Int)-1:=by rw[IntKind.wrap_i64];omega
   have HN2:=sE hN2
   clear hm2 hs0 hr0 hN2
   go_upto_if 140 with fail
   go_cut [20,21] (λ x20 x21 wx=>x20=.int .i64 (s0:Nat)/\x21=.int .i64 (r0:Nat)/\w=wx)
   case first=>
    obtain⟨hs0,hr0⟩:=HSR.out
    by_cases hc:mid<m
    .have hc':(mid:Int)<(m:Int):=by omega
     rw[if_pos hc] at hs0 hr0
     subst hr0
     go_wp2_with fail
     go_meet
     exact⟨by congr 1;omega,rfl,rfl⟩
    .have hc':¬ (mid:Int)<(m:Int):=by omega
     rw[if_neg hc] at hs0 hr0
     subst hs0 hr0
     go_wp2_with fail
     go_meet
     exact⟨rfl,rfl,rfl⟩
   case rest=>
    obtain⟨rfl,rfl,rfl⟩:=hcut
    obtain⟨p,hp,hp2⟩:∃ p:Nat,(N:Int)-1=(p:Int)/\p+1=N:=⟨N-1,by have:=HN2.out;omega,by have:=HN2.out;omega⟩
    have HP2:=sE hp2
    clear hp2 w1 w2 w3 w4 w5 v1 v2 e1 e2
    go_wp2_with fail
    clear w6
    go_loopw [20,21,23] (λ x20 x21 _ wr=>∃ i j:Nat,x20=.int .i64 (i:Nat)/\x21=.int .i64 (j:Nat)/\s0<=i/\i<=j/\j<=r0/\Sl (MidS C F (mid+m-1) s0 r0 i j)/\Kp Aa w wr) (λ x20 x21 _ _=>(intOf x21).toNat-(intOf x20).toNat)
    case atStart=>exact ⟨s0,r0,rfl,rfl,by omega,by omega,by omega,⟨λ t h1 h2=>by omega,λ t h1 h2=>by omega⟩,Kr _ _⟩
    case round=>
     obtain⟨i,j,rfl,rfl,hi1,hij,hjz,HB,hk⟩:=hrel
     have HK:=sE hk
     clear hk
     by_cases hlt:i<j
     .have hlt':(i:Int)<(j:Int):=by omega
      have u1:IntKind.i64.wrap ((i:Int)+(j:Int))=(i:Int)+(j:Int):=by rw[IntKind.wrap_i64];omega
      have u2:IntKind.u64.wrap ((i:Int)+(j:Int))=(i:Int)+(j:Int):=by rw[IntKind.wrap_u64];omega
      obtain⟨h,hh,hi,hj⟩:∃ h:Nat,((i:Int)+(j:Int))/2=(h:Int)/\i<=h/\h<j:=⟨(i+j)/2,by omega,by omega,by omega⟩
      have hN2:=HN2.out
      have hp2:=HP2.out
      obtain⟨q,hq,hq2⟩:∃ q:Nat,(p:Int)-(h:Int)=(q:Int)/\q=mid+m-1-h:=⟨p-h,by omega,by omega⟩
      have u3:IntKind.i64.wrap (q:Int)=(q:Int):=by rw[IntKind.wrap_i64];omega
      have p0:(h:Int)<(n:Int):=by omega
      have p1:(q:Int)<(n:Int):=by omega
      have HQ:=sE hq2
      have hqn:q<n:=by omega
      have hhn:h<n:=by omega
      clear hq2 hN2 hp2
      obtain⟨y0,y1,y2⟩:=(H0.out.keep HK.out (λ h=>h)).cells (i:=q) (by omega)
      obtain⟨x0,x1,x2⟩:=(H0.out.keep HK.out (λ h=>h)).cells (i:=h) (by omega)
      obtain⟨y,hy⟩:∃ y,F (q)=y:=⟨_,rfl⟩
      obtain⟨x,hx⟩:∃ x,F (h)=x:=⟨_,rfl⟩
      rw[hy] at y0 y1 y2
      rw[hx] at x0 x1 x2
      have HXY:=sE (And.intro hy hx)
      clear hy hx
      go_wp2_with fail
      refine wp_region_held_drew (S:=λ w'=>w'.cell? ⟨b,(q)*3,none⟩=some (.int .i64 y.1)/\w'.cell? ⟨b,(q)*3+1,none⟩=some (.int .i64 y.2.1)/\w'.cell? ⟨b,(q)*3+2,none⟩=some (.int .i64 y.2.2)/\w'.cell? ⟨b,(h)*3,none⟩=some (.int .i64 x.1)/\w'.cell? ⟨b,(h)*3+1,none⟩=some (.int .i64 x.2.1)/\w'.cell? ⟨b,(h)*3+2,none⟩=some (.int .i64 x.2.2)) (by kernel_rfl) ?_ (λ qZ=>?_)
      .exact ⟨y0,y1,y2,x0,x1,x2⟩
      refine Ao 0 ?_;refine Ao 1 ?_;refine Ao 2 ?_;refine Ao 3 ?_;refine Ao 4 ?_
      try simp only[Ay]
      refine Ao 5 ?_;refine Ao 6 ?_;refine Ao 7 ?_;refine Ao 8 ?_;refine Ao 9 ?_
      try simp only[Ay]
      refine Ao 10 ?_
      try simp only[Ay]
      refine Bl [11] ?_
      refine Af rfl (λ K hK=>?_)
      go_simp
      refine(HCmp.out y x _).mono ?_
      rintro e w3 ⟨rfl,k3⟩
      have k13:Kp Aa wr w3:=((Kr Aa wr).drew).then' k3
      obtain⟨c,hc⟩:∃ c,C y x=c:=⟨_,rfl⟩
      rw[hc]
      have HCc:Sl (C (F (q)) (F (h))=c):=⟨by rw[HXY.out.1,HXY.out.2];exact hc⟩
      clear hc HXY
      refine hK _ _ ?_ (λ qZ=>?_)
      .exact ⟨Ac k13 y0,Ac k13 y1,Ac k13 y2,Ac k13 x0,Ac k13 x1,Ac k13 x2⟩
      clear hK K
      try simp only[Ay]
      refine Ao 12 ?_;refine Ao 13 ?_
      try simp only[Ay]
      refine wpAnyH_done (by kernel_rfl) ?_ _
      have HK3:Sl (Kp Aa w w3):=⟨HK.out.then' k13⟩
      clear k13 k3 qZ y0 y1 y2 x0 x1 x2
      have hq2:=HQ.out
      clear u1 u2 u3 hh hq p0 p1
      by_cases hcn:c<0
      .have hcd:decide (c<0)=true:=dT hcn
       rw[hcd]
       go_wp2
       refine⟨⟨i,h,rfl,rfl,by omega,by omega,by omega,⟨HB.out.1,λ t h1 h2=>?_⟩,HK3.out⟩,by simp only[intOf];omega⟩
       exact HC.out.lt_le (HC.out.le_lt (HS2.out (mid+m-1-t) q (by omega) (by omega) (by omega)) (by rw[HCc.out];exact hcn)) (HS1.out h t (by omega) h1 (by omega))
      .have hcd:decide (c<0)=false:=dF hcn
       rw[hcd]
       go_wp2
       refine⟨⟨h+1,j,by go_num,rfl,by omega,by omega,by omega,⟨λ t h1 h2=>?_,HB.out.2⟩,HK3.out⟩,by simp only[intOf];omega⟩
       exact HC.out.trans (HS1.out t h (by omega) (by omega) (by omega)) (HC.out.trans (by rw[HCc.out];exact hcn) (HS2.out q (mid+m-1-t) (by omega) (by omega) (by omega)))
     .have hlt':¬ (i:Int)<(j:Int):=by omega
      obtain rfl:i=j:=by omega
      have hcut:Cut C a m z mid i F:=Cut.mk' HC.out HS1.out HS2.out ham hmz HM2.out HSR.out.1 HSR.out.2 hi1 (by omega) HB.out.1 HB.out.2
      have HCut:=sE hcut
      have hN2:=HN2.out
      obtain⟨l1,l2,l3,l4⟩:a<=i/\i<=m/\i<=mid/\mid+m<=z+i:=⟨hcut.le1,hcut.le2,hcut.le3,hcut.le4⟩
      obtain⟨g1,g2,g3,g4,g5,g6⟩:=hcut.turn HC.out HS1.out HS2.out
      obtain⟨en,hen,hen2⟩:∃ en:Nat,(N:Int)-(i:Int)=(en:Int)/\mid+m-i=en:=⟨N-i,by omega,by omega⟩
      have u1:IntKind.i64.wrap (en:Int)=(en:Int):=by rw[IntKind.wrap_i64];omega
      rw[hen2] at g1 g2 g3 g4 g5 g6
      have HStay:Sl (i=m\/i=mid->A9 F i m en=F):=⟨λ q=>by rw[<- hen2];exact cut_stay hcut q⟩
      have HEn:=sE hen2
      obtain⟨G1,hG1⟩:∃ G1,A9 F i m en=G1:=⟨_,rfl⟩
      rw[hG1] at g1 g2 g3 g4 g5 g6 HStay
      have HG1:=sE hG1
      have HG:=sE (And.intro g1 (And.intro g2 (And.intro g3 (And.intro g4 (And.intro g5 g6)))))
      have HR0:Sl (AV s b T n F wr):=⟨H0.out.keep HK.out (λ h=>h)⟩
      clear g1 g2 g3 g4 g5 g6 hG1 hcut hlt hlt' hij HB hp hN2 HCmp
      have e0:a<i\/a=i:=by omega
      have e3:en<z\/en=z:=by omega
      by_cases q1:i=m
      .by_cases q2:i=mid
       .have t1:¬ ((i:Int)<(m:Int)):=by omega
        have t2:((a:Int)<(i:Int)):=by omega
        have t3:¬ ((i:Int)<(mid:Int)):=by omega
        have t4:¬ ((mid:Int)<(en:Int)):=by omega
        have E1:Sl (i=m\/i=mid):=⟨by omega⟩
        have J1:Sl (a=i\/i=mid):=⟨by omega⟩
        have J2:Sl (mid=en\/en=z):=⟨by omega⟩
        have hem:mid<=en/\i<=mid/\en<=z/\i<=m/\a<=i/\mid-a<z-a/\z-mid<z-a/\a<=mid/\mid<=z:=by omega
        have HEm:=sE hem
        clear hem q1 q2 e0 e3
        clear hen2 l1 l2 l3 l4 b1 b2 b3 b4 b5 b6 b7 hi1 hjz
        go_wp2_with fail
        have RA:Sl (AV s b T n G1 wr):=⟨by rw[HStay.out E1.out];exact HR0.out⟩
        have KA:Sl (Kp (λ k=>k=b) w wr):=⟨HK.out.Ar _⟩
        have RB:Sl (AV s b T n G1 wr/\Stab C a mid G1 G1/\Ai C a mid G1):=⟨⟨RA.out,.refl,HG.out.2.1.join HG.out.2.2.1 J1.out⟩⟩
        have KB:=KA
        have hem:=HEm.out
        have hB:Ai C mid en G1/\Ai C en z G1:=⟨HG.out.2.2.2.1.congr λ k k1 k2=>RB.out.2.1.out (.inr k1),HG.out.2.2.2.2.1.congr λ k k1 k2=>RB.out.2.1.out (.inr (by omega))⟩
        have RC:Sl (AV s b T n G1 wr/\Stab C mid z G1 G1/\Ai C mid z G1):=⟨⟨RB.out.1,.refl,hB.1.join hB.2 J2.out⟩⟩
        have KC:=KB
        clear hB
        try clear hem
        go_wp2
        refine bodyPost_end (results_none rfl _ _ _) rfl ?_
        have hem:=HEm.out
        exact⟨⟨_,rfl⟩,_,RC.out.1,⟨HG.out.1.trans ((RB.out.2.1.mono (Nat.le_refl _) (by omega)).trans (RC.out.2.1.mono (by omega) (Nat.le_refl _))),BC HG.out.2.2.2.2.2 RB.out.2.1 RC.out.2.1 RB.out.2.2 RC.out.2.2⟩,KC.out⟩
       .have t1:¬ ((i:Int)<(m:Int)):=by omega
        have t2:((a:Int)<(i:Int)):=by omega
        have t3:((i:Int)<(mid:Int)):=by omega
        have t4:¬ ((mid:Int)<(en:Int)):=by omega
        have E1:Sl (i=m\/i=mid):=⟨by omega⟩
        have J2:Sl (mid=en\/en=z):=⟨by omega⟩
        have hem:mid<=en/\i<=mid/\en<=z/\i<=m/\a<=i/\mid-a<z-a/\z-mid<z-a/\a<=mid/\mid<=z:=by omega
        have HEm:=sE hem
        clear hem q1 q2 e0 e3
        clear hen2 l1 l2 l3 l4 b1 b2 b3 b4 b5 b6 b7 hi1 hjz
        go_wp2_with fail
        have RA:Sl (AV s b T n G1 wr):=⟨by rw[HStay.out E1.out];exact HR0.out⟩
        have KA:Sl (Kp (λ k=>k=b) w wr):=⟨HK.out.Ar _⟩
        have hem:=HEm.out
        refine(HSym.out (a':=a) (m':=i) (z':=mid) (by omega) RA.out (by omega) (by omega) (by omega) HG.out.2.1 HG.out.2.2.1).mono ?_
        clear hem
        rintro e wB ⟨⟨u,rfl⟩,GB,rB,⟨sB,oB⟩,kB⟩
        have RB:Sl (AV s b T n GB wB/\Stab C a mid G1 GB/\Ai C a mid GB):=⟨⟨rB,sB,oB⟩⟩
        have KB:Sl (Kp (λ k=>k=b) w wB):=⟨KA.out.trans kB (λ _ _ h=>h)⟩
        clear rB sB oB kB
        go_wp2_with fail
        have hem:=HEm.out
        have hB:Ai C mid en GB/\Ai C en z GB:=⟨HG.out.2.2.2.1.congr λ k k1 k2=>RB.out.2.1.out (.inr k1),HG.out.2.2.2.2.1.congr λ k k1 k2=>RB.out.2.1.out (.inr (by omega))⟩
        have RC:Sl (AV s b T n GB wB/\Stab C mid z GB GB/\Ai C mid z GB):=⟨⟨RB.out.1,.refl,hB.1.join hB.2 J2.out⟩⟩
        have KC:=KB
        clear hB
        try clear hem
        go_wp2
        refine bodyPost_end (results_none rfl _ _ _) rfl ?_
        have hem:=HEm.out
        exact⟨⟨_,rfl⟩,_,RC.out.1,⟨HG.out.1.trans ((RB.out.2.1.mono (Nat.le_refl _) (by omega)).trans (RC.out.2.1.mono (by omega) (Nat.le_refl _))),BC HG.out.2.2.2.2.2 RB.out.2.1 RC.out.2.1 RB.out.2.2 RC.out.2.2⟩,KC.out⟩
      .by_cases q2:i=mid
       .have t1:((i:Int)<(m:Int)):=by omega
        have t5:¬ ((m:Int)<(en:Int)):=by omega
        have t2:((a:Int)<(i:Int)):=by omega
        have t3:¬ ((i:Int)<(mid:Int)):=by omega
        have t4:((mid:Int)<(en:Int)):=by omega
        have t6:((en:Int)<(z:Int)):=by omega
        have E1:Sl (i=m\/i=mid):=⟨by omega⟩
        have J1:Sl (a=i\/i=mid):=⟨by omega⟩
        have hem:mid<=en/\i<=mid/\en<=z/\i<=m/\a<=i/\mid-a<z-a/\z-mid<z-a/\a<=mid/\mid<=z:=by omega
        have HEm:=sE hem
        clear hem q1 q2 e0 e3
        clear hen2 l1 l2 l3 l4 b1 b2 b3 b4 b5 b6 b7 hi1 hjz
        go_wp2_with fail
        have RA:Sl (AV s b T n G1 wr):=⟨by rw[HStay.out E1.out];exact HR0.out⟩
        have KA:Sl (Kp (λ k=>k=b) w wr):=⟨HK.out.Ar _⟩
        have RB:Sl (AV s b T n G1 wr/\Stab C a mid G1 G1/\Ai C a mid G1):=⟨⟨RA.out,.refl,HG.out.2.1.join HG.out.2.2.1 J1.out⟩⟩
        have KB:=KA
        have hem:=HEm.out
        have hB:Ai C mid en G1/\Ai C en z G1:=⟨HG.out.2.2.2.1.congr λ k k1 k2=>RB.out.2.1.out (.inr k1),HG.out.2.2.2.2.1.congr λ k k1 k2=>RB.out.2.1.out (.inr (by omega))⟩
        refine(HSym.out (a':=mid) (m':=en) (z':=z) (by omega) RB.out.1 (by omega) (by omega) (by omega) hB.1 hB.2).mono ?_
        clear hem
        rintro e wC ⟨⟨u,rfl⟩,GC,rC,⟨sC,oC⟩,kC⟩
        have RC:Sl (AV s b T n GC wC/\Stab C mid z G1 GC/\Ai C mid z GC):=⟨⟨rC,sC,oC⟩⟩
        have KC:Sl (Kp (λ k=>k=b) w wC):=⟨KB.out.trans kC (λ _ _ h=>h)⟩
        clear rC sC oC kC
        clear hB
        try clear hem
        go_wp2
        refine bodyPost_end (results_none rfl _ _ _) rfl ?_
        have hem:=HEm.out
        exact⟨⟨_,rfl⟩,_,RC.out.1,⟨HG.out.1.trans ((RB.out.2.1.mono (Nat.le_refl _) (by omega)).trans (RC.out.2.1.mono (by omega) (Nat.le_refl _))),BC HG.out.2.2.2.2.2 RB.out.2.1 RC.out.2.1 RB.out.2.2 RC.out.2.2⟩,KC.out⟩
       .rcases e0 with e0|e0 <;> rcases e3 with e3|e3
        .have t1:((i:Int)<(m:Int)):=by omega
         have t5:((m:Int)<(en:Int)):=by omega
         have t2:((a:Int)<(i:Int)):=by omega
         have t3:((i:Int)<(mid:Int)):=by omega
         have t4:((mid:Int)<(en:Int)):=by omega
         have t6:((en:Int)<(z:Int)):=by omega
         have hem:mid<=en/\i<=mid/\en<=z/\i<=m/\a<=i/\mid-a<z-a/\z-mid<z-a/\a<=mid/\mid<=z:=by omega
         have HEm:=sE hem
         clear hem q1 q2 e0 e3
         clear hen2 l1 l2 l3 l4 b1 b2 b3 b4 b5 b6 b7 hi1 hjz
         go_wp2_with fail
         have hem:=HEm.out
         refine(RotK_at _ (a:=i) (m:=m) (z:=en) HR0.out (by omega) (by omega) (by omega) hn).mono ?_
         clear hem
         rintro e wA ⟨⟨u,rfl⟩,GA,rA,eA,kA⟩
         have RA:Sl (AV s b T n G1 wA):=⟨by rw[<- HG1.out,<- eA];exact rA⟩
         have KA:Sl (Kp (λ k=>k=b) w wA):=⟨(HK.out.Ar _).trans kA (λ _ _ h=>h)⟩
         clear rA eA kA
         go_wp2_with fail
         have hem:=HEm.out
         refine(HSym.out (a':=a) (m':=i) (z':=mid) (by omega) RA.out (by omega) (by omega) (by omega) HG.out.2.1 HG.out.2.2.1).mono ?_
         clear hem
         rintro e wB ⟨⟨u,rfl⟩,GB,rB,⟨sB,oB⟩,kB⟩
         have RB:Sl (AV s b T n GB wB/\Stab C a mid G1 GB/\Ai C a mid GB):=⟨⟨rB,sB,oB⟩⟩
         have KB:Sl (Kp (λ k=>k=b) w wB):=⟨KA.out.trans kB (λ _ _ h=>h)⟩
         clear rB sB oB kB
         go_wp2_with fail
         have hem:=HEm.out
         have hB:Ai C mid en GB/\Ai C en z GB:=⟨HG.out.2.2.2.1.congr λ k k1 k2=>RB.out.2.1.out (.inr k1),HG.out.2.2.2.2.1.congr λ k k1 k2=>RB.out.2.1.out (.inr (by omega))⟩
         refine(HSym.out (a':=mid) (m':=en) (z':=z) (by omega) RB.out.1 (by omega) (by omega) (by omega) hB.1 hB.2).mono ?_
         clear hem
         rintro e wC ⟨⟨u,rfl⟩,GC,rC,⟨sC,oC⟩,kC⟩
         have RC:Sl (AV s b T n GC wC/\Stab C mid z GB GC/\Ai C mid z GC):=⟨⟨rC,sC,oC⟩⟩
         have KC:Sl (Kp (λ k=>k=b) w wC):=⟨KB.out.trans kC (λ _ _ h=>h)⟩
         clear rC sC oC kC
         clear hB
         try clear hem
         go_wp2
         refine bodyPost_end (results_none rfl _ _ _) rfl ?_
         have hem:=HEm.out
         exact⟨⟨_,rfl⟩,_,RC.out.1,⟨HG.out.1.trans ((RB.out.2.1.mono (Nat.le_refl _) (by omega)).trans (RC.out.2.1.mono (by omega) (Nat.le_refl _))),BC HG.out.2.2.2.2.2 RB.out.2.1 RC.out.2.1 RB.out.2.2 RC.out.2.2⟩,KC.out⟩
        .have t1:((i:Int)<(m:Int)):=by omega
         have t5:((m:Int)<(en:Int)):=by omega
         have t2:((a:Int)<(i:Int)):=by omega
         have t3:((i:Int)<(mid:Int)):=by omega
         have t4:((mid:Int)<(en:Int)):=by omega
         have t6:¬ ((en:Int)<(z:Int)):=by omega
         have J2:Sl (mid=en\/en=z):=⟨by omega⟩
         have hem:mid<=en/\i<=mid/\en<=z/\i<=m/\a<=i/\mid-a<z-a/\z-mid<z-a/\a<=mid/\mid<=z:=by omega
         have HEm:=sE hem
         clear hem q1 q2 e0 e3
         clear hen2 l1 l2 l3 l4 b1 b2 b3 b4 b5 b6 b7 hi1 hjz
         go_wp2_with fail
         have hem:=HEm.out
         refine(RotK_at _ (a:=i) (m:=m) (z:=en) HR0.out (by omega) (by omega) (by omega) hn).mono ?_
         clear hem
         rintro e wA ⟨⟨u,rfl⟩,GA,rA,eA,kA⟩
         have RA:Sl (AV s b T n G1 wA):=⟨by rw[<- HG1.out,<- eA];exact rA⟩
         have KA:Sl (Kp (λ k=>k=b) w wA):=⟨(HK.out.Ar _).trans kA (λ _ _ h=>h)⟩
         clear rA eA kA
         go_wp2_with fail
         have hem:=HEm.out
         refine(HSym.out (a':=a) (m':=i) (z':=mid) (by omega) RA.out (by omega) (by omega) (by omega) HG.out.2.1 HG.out.2.2.1).mono ?_
         clear hem
         rintro e wB ⟨⟨u,rfl⟩,GB,rB,⟨sB,oB⟩,kB⟩
         have RB:Sl (AV s b T n GB wB/\Stab C a mid G1 GB/\Ai C a mid GB):=⟨⟨rB,sB,oB⟩⟩
         have KB:Sl (Kp (λ k=>k=b) w wB):=⟨KA.out.trans kB (λ _ _ h=>h)⟩
         clear rB sB oB kB
         go_wp2_with fail
         have hem:=HEm.out
         have hB:Ai C mid en GB/\Ai C en z GB:=⟨HG.out.2.2.2.1.congr λ k k1 k2=>RB.out.2.1.out (.inr k1),HG.out.2.2.2.2.1.congr λ k k1 k2=>RB.out.2.1.out (.inr (by omega))⟩
         have RC:Sl (AV s b T n GB wB/\Stab C mid z GB GB/\Ai C mid z GB):=⟨⟨RB.out.1,.refl,hB.1.join hB.2 J2.out⟩⟩
         have KC:=KB
         clear hB
         try clear hem
         go_wp2
         refine bodyPost_end (results_none rfl _ _ _) rfl ?_
         have hem:=HEm.out
         exact⟨⟨_,rfl⟩,_,RC.out.1,⟨HG.out.1.trans ((RB.out.2.1.mono (Nat.le_refl _) (by omega)).trans (RC.out.2.1.mono (by omega) (Nat.le_refl _))),BC HG.out.2.2.2.2.2 RB.out.2.1 RC.out.2.1 RB.out.2.2 RC.out.2.2⟩,KC.out⟩
        .have t1:((i:Int)<(m:Int)):=by omega
         have t5:((m:Int)<(en:Int)):=by omega
         have t2:¬ ((a:Int)<(i:Int)):=by omega
         have t4:((mid:Int)<(en:Int)):=by omega
         have t6:((en:Int)<(z:Int)):=by omega
         have J1:Sl (a=i\/i=mid):=⟨by omega⟩
         have hem:mid<=en/\i<=mid/\en<=z/\i<=m/\a<=i/\mid-a<z-a/\z-mid<z-a/\a<=mid/\mid<=z:=by omega
         have HEm:=sE hem
         clear hem q1 q2 e0 e3
         clear hen2 l1 l2 l3 l4 b1 b2 b3 b4 b5 b6 b7 hi1 hjz
         go_wp2_with fail
         have hem:=HEm.out
         refine(RotK_at _ (a:=i) (m:=m) (z:=en) HR0.out (by omega) (by omega) (by omega) hn).mono ?_
         clear hem
         rintro e wA ⟨⟨u,rfl⟩,GA,rA,eA,kA⟩
         have RA:Sl (AV s b T n G1 wA):=⟨by rw[<- HG1.out,<- eA];exact rA⟩
         have KA:Sl (Kp (λ k=>k=b) w wA):=⟨(HK.out.Ar _).trans kA (λ _ _ h=>h)⟩
         clear rA eA kA
         go_wp2_with fail
         have RB:Sl (AV s b T n G1 wA/\Stab C a mid G1 G1/\Ai C a mid G1):=⟨⟨RA.out,.refl,HG.out.2.1.join HG.out.2.2.1 J1.out⟩⟩
         have KB:=KA
         have hem:=HEm.out
         have hB:Ai C mid en G1/\Ai C en z G1:=⟨HG.out.2.2.2.1.congr λ k k1 k2=>RB.out.2.1.out (.inr k1),HG.out.2.2.2.2.1.congr λ k k1 k2=>RB.out.2.1.out (.inr (by omega))⟩
         refine(HSym.out (a':=mid) (m':=en) (z':=z) (by omega) RB.out.1 (by omega) (by omega) (by omega) hB.1 hB.2).mono ?_
         clear hem
         rintro e wC ⟨⟨u,rfl⟩,GC,rC,⟨sC,oC⟩,kC⟩
         have RC:Sl (AV s b T n GC wC/\Stab C mid z G1 GC/\Ai C mid z GC):=⟨⟨rC,sC,oC⟩⟩
         have KC:Sl (Kp (λ k=>k=b) w wC):=⟨KB.out.trans kC (λ _ _ h=>h)⟩
         clear rC sC oC kC
         clear hB
         try clear hem
         go_wp2
         refine bodyPost_end (results_none rfl _ _ _) rfl ?_
         have hem:=HEm.out
         exact⟨⟨_,rfl⟩,_,RC.out.1,⟨HG.out.1.trans ((RB.out.2.1.mono (Nat.le_refl _) (by omega)).trans (RC.out.2.1.mono (by omega) (Nat.le_refl _))),BC HG.out.2.2.2.2.2 RB.out.2.1 RC.out.2.1 RB.out.2.2 RC.out.2.2⟩,KC.out⟩
        .have t1:((i:Int)<(m:Int)):=by omega
         have t5:((m:Int)<(en:Int)):=by omega
         have t2:¬ ((a:Int)<(i:Int)):=by omega
         have t4:((mid:Int)<(en:Int)):=by omega
         have t6:¬ ((en:Int)<(z:Int)):=by omega
         have J1:Sl (a=i\/i=mid):=⟨by omega⟩
         have J2:Sl (mid=en\/en=z):=⟨by omega⟩
         have hem:mid<=en/\i<=mid/\en<=z/\i<=m/\a<=i/\mid-a<z-a/\z-mid<z-a/\a<=mid/\mid<=z:=by omega
         have HEm:=sE hem
         clear hem q1 q2 e0 e3
         clear hen2 l1 l2 l3 l4 b1 b2 b3 b4 b5 b6 b7 hi1 hjz
         go_wp2_with fail
         have hem:=HEm.out
         refine(RotK_at _ (a:=i) (m:=m) (z:=en) HR0.out (by omega) (by omega) (by omega) hn).mono ?_
         clear hem
         rintro e wA ⟨⟨u,rfl⟩,GA,rA,eA,kA⟩
         have RA:Sl (AV s b T n G1 wA):=⟨by rw[<- HG1.out,<- eA];exact rA⟩
         have KA:Sl (Kp (λ k=>k=b) w wA):=⟨(HK.out.Ar _).trans kA (λ _ _ h=>h)⟩
         clear rA eA kA
         go_wp2_with fail
         have RB:Sl (AV s b T n G1 wA/\Stab C a mid G1 G1/\Ai C a mid G1):=⟨⟨RA.out,.refl,HG.out.2.1.join HG.out.2.2.1 J1.out⟩⟩
         have KB:=KA
         have hem:=HEm.out
         have hB:Ai C mid en G1/\Ai C en z G1:=⟨HG.out.2.2.2.1.congr λ k k1 k2=>RB.out.2.1.out (.inr k1),HG.out.2.2.2.2.1.congr λ k k1 k2=>RB.out.2.1.out (.inr (by omega))⟩
         have RC:Sl (AV s b T n G1 wA/\Stab C mid z G1 G1/\Ai C mid z G1):=⟨⟨RB.out.1,.refl,hB.1.join hB.2 J2.out⟩⟩
         have KC:=KB
         clear hB
         try clear hem
         go_wp2
         refine bodyPost_end (results_none rfl _ _ _) rfl ?_
         have hem:=HEm.out
         exact⟨⟨_,rfl⟩,_,RC.out.1,⟨HG.out.1.trans ((RB.out.2.1.mono (Nat.le_refl _) (by omega)).trans (RC.out.2.1.mono (by omega) (Nat.le_refl _))),BC HG.out.2.2.2.2.2 RB.out.2.1 RC.out.2.1 RB.out.2.2 RC.out.2.2⟩,KC.out⟩

end

end

end Go.Proofs.YtfkedlgpgmaemaaGreatDoor
