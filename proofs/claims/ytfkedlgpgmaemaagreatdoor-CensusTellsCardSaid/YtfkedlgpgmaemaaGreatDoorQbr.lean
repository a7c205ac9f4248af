/-
  Lemmas for the laws, together: SsM.
-/
import Derived.Test.YtfkedlgpgmaemaaGreatDoorQbm
import Derived.Test.YtfkedlgpgmaemaaGreatDoorQbq
import Derived.Deep.DeepCutAuto
set_option linter.unusedVariables false
set_option maxHeartbeats 16000000
namespace Go.Proofs.YtfkedlgpgmaemaaGreatDoor
open Tryz
section
open Go.RowKit

section

variable {C:T3->T3->Int} {s b T n cap:Nat}

set_option maxRecDepth 20000 in
theorem SymS_at(k9:OrdC C)(l1:∀ x y k8,Calls prog 56 #[Ej x,Ej y] k8 (RK (.int .i64 (C x y)) k8))(j3:n<1152921504606846976):∀ (d:Nat) {a m z:Nat} {F:Nat->T3} {w:World},z-a<=d->Bn s b T n F w->a<m->m<z->z<=n->Al C a m F->Al C m z F->
  Calls prog 203 #[.slice (some ⟨b,0,none⟩) n cap,a,m,z,.func (.func 56) #[] #[]] w λ e w'=>(∃ u,e=.returned u)/\Cc s b T n (λ G=>Stab C a z F G/\Al C a z G) w w':=by
 intro d
 induction d using Nat.strongRecOn with
 |_ d ih=>
 intro a m z F w m5 f m2 m7 o1 l6 l7
 have c1:=sE f
 have a2:=sE k9
 have g6:=sE l1
 have f9:Sl (∀ {a' m' z':Nat} {F:Nat->T3} {w:World},z'-a'<z-a->Bn s b T n F w->a'<m'->m'<z'->z'<=n->Al C a' m' F->Al C m' z' F->
  Calls prog 203 #[.slice (some ⟨b,0,none⟩) n cap,a',m',z',.func (.func 56) #[] #[]] w λ e w'=>(∃ u,e=.returned u)/\Cc s b T n (λ G=>Stab C a' z' F G/\Al C a' z' G) w w'):=⟨λ {a' m' z' F w} q=>ih (z'-a') (by omega) (Nat.le_refl _)⟩
 have e2:=sE l6
 have e3:=sE l7
 clear f k9 l1 ih l6 l7 m5
 unfold Ej at g6
 have k5:IntKind.i64.wrap ((m:Int)-(a:Int))=(m:Int)-(a:Int):=by rw[IntKind.wrap_i64];omega
 have k6:IntKind.i64.wrap ((z:Int)-(m:Int))=(z:Int)-(m:Int):=by rw[IntKind.wrap_i64];omega
 go_enter func203,ntmps203
 by_cases hA:(m:Int)-(a:Int)=1
 .have i6:((m:Int)-(a:Int)==1)=true:=by rw[beq_iff_eq];exact hA
  have i2:Sl (m=a+1):=⟨by omega⟩
  clear hA
  go_wp2_with fail
  go_loopw [10,11,12] (λ x10 x11 _ wr=>∃ i j:Nat,x10=.int .i64 i/\x11=.int .i64 j/\a+1<=i/\i<=j/\j<=z/\Sl (OneS C F a z i j)/\Kp Aa w wr) (λ x10 x11 _ _=>(intOf x11).toNat-(intOf x10).toNat)
  case atStart=>exact ⟨m,z,rfl,rfl,by omega,by omega,by omega,⟨λ t R a0=>by have:=i2.o;omega,λ t R a0=>by omega⟩,Kr _ _⟩
  case round=>
   obtain⟨i,j,rfl,rfl,a3,k2,c2,M,c8⟩:=hrel
   have J:=sE c8
   clear c8 k5 k6 i6
   by_cases hlt:i<j
   .have g1:(i:Int)<(j:Int):=by omega
    have u1:IntKind.i64.wrap ((i:Int)+(j:Int))=(i:Int)+(j:Int):=by rw[IntKind.wrap_i64];omega
    have u2:IntKind.u64.wrap ((i:Int)+(j:Int))=(i:Int)+(j:Int):=by rw[IntKind.wrap_u64];omega
    obtain⟨f,i1,l2,l3⟩:∃ f:Nat,((i:Int)+(j:Int))/2=(f:Int)/\i<=f/\f<j:=⟨(i+j)/2,by omega,by omega,by omega⟩
    have f8:(f:Int)<(n:Int):=by omega
    have c3:(a:Int)<(n:Int):=by omega
    obtain⟨N,O,P⟩:=(c1.o.keep J.o id).cells (i:=f) (by omega)
    obtain⟨x0,x1,x2⟩:=(c1.o.keep J.o id).cells (i:=a) (by omega)
    obtain⟨y,b0⟩:∃ y,F (f)=y:=⟨_,rfl⟩
    obtain⟨x,a9⟩:∃ x,F (a)=x:=⟨_,rfl⟩
    rw[b0] at N O P
    rw[a9] at x0 x1 x2
    have a6:=sE (And.intro b0 a9)
    clear b0 a9
    go_wp2_with fail
    refine wp_region_held_drew (S:=λ w'=>w'.cell? ⟨b,(f)*3,none⟩=some (.int .i64 y.1)/\w'.cell? ⟨b,(f)*3+1,none⟩=some (.int .i64 y.2.1)/\w'.cell? ⟨b,(f)*3+2,none⟩=some (.int .i64 y.2.2)/\w'.cell? ⟨b,(a)*3,none⟩=some (.int .i64 x.1)/\w'.cell? ⟨b,(a)*3+1,none⟩=some (.int .i64 x.2.1)/\w'.cell? ⟨b,(a)*3+2,none⟩=some (.int .i64 x.2.2)) (by kernel_rfl) ?_ (λ d5=>?_)
    .exact ⟨N,O,P,x0,x1,x2⟩
    refine Ap 0 ?_;refine Ap 1 ?_;refine Ap 2 ?_;refine Ap 3 ?_;refine Ap 4 ?_
    try simp only[AB]
    refine Ap 5 ?_;refine Ap 6 ?_;refine Ap 7 ?_;refine Ap 8 ?_
    try simp only[AB]
    refine Bp [9] ?_
    refine Ag rfl (λ K hK=>?_)
    go_simp
    refine(g6.o y x _).mono ?_
    rintro e b9 ⟨rfl,d0⟩
    have I:Kp Aa wr b9:=((Kr Aa wr).drew).then' d0
    obtain⟨c,U⟩:∃ c,C y x=c:=⟨_,rfl⟩
    rw[U]
    have c6:Sl (C (F (f)) (F (a))=c):=⟨by rw[a6.o.1,a6.o.2];exact U⟩
    clear U a6
    refine hK _ _ ?_ (λ d5=>?_)
    .exact ⟨Ae I N,Ae I O,Ae I P,Ae I x0,Ae I x1,Ae I x2⟩
    clear hK K
    try simp only[AB]
    refine Ap 10 ?_
    try simp only[AB]
    refine wpAnyH_done (by kernel_rfl) ?_ _
    have c7:Sl (Kp Aa w b9):=⟨J.o.then' I⟩
    clear I d0 d5 N O P x0 x1 x2
    clear u1 u2 i1 f8 c3
    by_cases hcn:c<0
    .have a8:decide (c<0)=true:=dT hcn
     rw[a8]
     go_wp2
     refine⟨⟨f+1,j,by go_num,rfl,by omega,by omega,by omega,⟨λ t R a0=>?_,M.o.2⟩,c7.o⟩,by simp only[intOf];omega⟩
     exact a2.o.le_lt (e3.o t f (by have:=i2.o;omega) (by omega) (by omega)) (by rw[c6.o];exact hcn)
    .have a8:decide (c<0)=false:=dF hcn
     rw[a8]
     go_wp2
     refine⟨⟨i,f,rfl,rfl,by omega,by omega,by omega,⟨M.o.1,λ t R a0=>?_⟩,c7.o⟩,by simp only[intOf];omega⟩
     exact a2.o.trans (by rw[c6.o];exact hcn) (e3.o f t (by have:=i2.o;omega) R a0)
   .have g1:¬ (i:Int)<(j:Int):=by omega
    obtain rfl:i=j:=by omega
    have u1:IntKind.i64.wrap ((i:Int)-1)=(i:Int)-1:=by rw[IntKind.wrap_i64];omega
    go_wp2_with fail
    go_loopw [13] (λ x13 b3=>∃ k:Nat,x13=.int .i64 (k:Nat)/\a<=k/\k+1<=i/\Sl (Cc s b T n (λ G=>G=Bh F a (a+1) (k+1)) w b3)) (λ x13 _=>i-(intOf x13).toNat)
    case atStart=>exact ⟨a,rfl,by omega,by omega,⟨F,c1.o.keep J.o id,(rotF_r rfl (by omega)).symm,J.o.Aw _⟩⟩
    case round=>
     obtain⟨k,rfl,l0,l4,g8⟩:=hrel
     obtain⟨G,i0,g9,hK⟩:=g8.o
     have a5:=sE i0
     have r:=sE g9
     have g7:=sE hK
     clear i0 g9 hK g8 J
     obtain⟨b3,rfl⟩:∃ b3,b3=wr:=⟨_,rfl⟩
     by_cases hlt2:k+1<i
     .have k3:(k:Int)<(i:Int)-1:=by omega
      obtain⟨N,O,P⟩:=a5.o.cells (i:=k) (by omega)
      obtain⟨x0,x1,x2⟩:=a5.o.cells (i:=k+1) (by omega)
      have m6:=a5.o.warm
      have u2:IntKind.i64.wrap ((k:Int)+1)=(k:Int)+1:=by rw[IntKind.wrap_i64];omega
      have f8:(k:Int)<(n:Int):=by omega
      have c3:(k:Int)+1<(n:Int):=by omega
      have l8:(0:Int)<=(k:Int)+1:=by omega
      go_wp2_with fail
      go_region
      all_goals go_wp2
      go_roundw
      case rel=>exact ⟨k+1,by go_num,by omega,by omega,⟨_,a5.o.swapE (i:=k) (j:=k+1) (by omega) (by omega) rfl rfl,by rw[r.o];exact (rot_hop' l0).symm,(Bn.kswap g7.o ..).drew⟩⟩
      case measure=>simp [intOf];omega
     .have k3:¬ (k:Int)<(i:Int)-1:=by omega
      obtain rfl:i=k+1:=by omega
      go_wp2
      refine bodyPost_ret (results_none rfl _ _ _) rfl ?_
      refine⟨⟨_,rfl⟩,G,a5.o,⟨?_,?_⟩,g7.o⟩
      .rw [r.o]
       have:=Stab.hop (C:=C) (F:=F) (a:=a) (b:=z) (p:=a) (Nat.le_refl _) (k+1-(a+1)) (by omega) (λ q b7 b8=>M.o.1 q b7 (by omega))
       rwa [show a+1+(k+1-(a+1))=k+1 by omega] at this
      .rw [r.o]
       exact merge_one (m:=m) a2.o (by have:=e3.o;rwa [i2.o] at this) (by omega) (by omega) M.o.1 M.o.2
 .have i6:((m:Int)-(a:Int)==1)=false:=by rw[beq_eq_false_iff_ne];exact hA
  clear hA
  by_cases D:(z:Int)-(m:Int)=1
  .have k0:((z:Int)-(m:Int)==1)=true:=by rw[beq_iff_eq];exact D
   have k7:Sl (z=m+1):=⟨by omega⟩
   clear D
   go_wp2_with fail
   go_loopw [14,15,16] (λ x14 x15 _ wr=>∃ i j:Nat,x14=.int .i64 i/\x15=.int .i64 j/\a<=i/\i<=j/\j<=m/\Sl (LastS C F a m i j)/\Kp Aa w wr) (λ x14 x15 _ _=>(intOf x15).toNat-(intOf x14).toNat)
   case atStart=>exact ⟨a,m,rfl,rfl,by omega,by omega,by omega,⟨λ t R a0=>by omega,λ t R a0=>by omega⟩,Kr _ _⟩
   case round=>
    obtain⟨i,j,rfl,rfl,a3,k2,c2,M,c8⟩:=hrel
    have J:=sE c8
    clear c8 k5 k6 i6 k0
    by_cases hlt:i<j
    .have g1:(i:Int)<(j:Int):=by omega
     have u1:IntKind.i64.wrap ((i:Int)+(j:Int))=(i:Int)+(j:Int):=by rw[IntKind.wrap_i64];omega
     have u2:IntKind.u64.wrap ((i:Int)+(j:Int))=(i:Int)+(j:Int):=by rw[IntKind.wrap_u64];omega
     obtain⟨f,i1,l2,l3⟩:∃ f:Nat,((i:Int)+(j:Int))/2=(f:Int)/\i<=f/\f<j:=⟨(i+j)/2,by omega,by omega,by omega⟩
     have f8:(f:Int)<(n:Int):=by omega
     have c3:(m:Int)<(n:Int):=by omega
     obtain⟨N,O,P⟩:=(c1.o.keep J.o id).cells (i:=m) (by omega)
     obtain⟨x0,x1,x2⟩:=(c1.o.keep J.o id).cells (i:=f) (by omega)
     obtain⟨y,b0⟩:∃ y,F (m)=y:=⟨_,rfl⟩
     obtain⟨x,a9⟩:∃ x,F (f)=x:=⟨_,rfl⟩
     rw[b0] at N O P
     rw[a9] at x0 x1 x2
     have a6:=sE (And.intro b0 a9)
     clear b0 a9
     go_wp2_with fail
     refine wp_region_held_drew (S:=λ w'=>w'.cell? ⟨b,(m)*3,none⟩=some (.int .i64 y.1)/\w'.cell? ⟨b,(m)*3+1,none⟩=some (.int .i64 y.2.1)/\w'.cell? ⟨b,(m)*3+2,none⟩=some (.int .i64 y.2.2)/\w'.cell? ⟨b,(f)*3,none⟩=some (.int .i64 x.1)/\w'.cell? ⟨b,(f)*3+1,none⟩=some (.int .i64 x.2.1)/\w'.cell? ⟨b,(f)*3+2,none⟩=some (.int .i64 x.2.2)) (by kernel_rfl) ?_ (λ d5=>?_)
     .exact ⟨N,O,P,x0,x1,x2⟩
     refine Ap 0 ?_;refine Ap 1 ?_;refine Ap 2 ?_;refine Ap 3 ?_;refine Ap 4 ?_
     try simp only[AB]
     refine Ap 5 ?_;refine Ap 6 ?_;refine Ap 7 ?_;refine Ap 8 ?_
     try simp only[AB]
     refine Bp [9] ?_
     refine Ag rfl (λ K hK=>?_)
     go_simp
     refine(g6.o y x _).mono ?_
     rintro e b9 ⟨rfl,d0⟩
     have I:Kp Aa wr b9:=((Kr Aa wr).drew).then' d0
     obtain⟨c,U⟩:∃ c,C y x=c:=⟨_,rfl⟩
     rw[U]
     have c6:Sl (C (F (m)) (F (f))=c):=⟨by rw[a6.o.1,a6.o.2];exact U⟩
     clear U a6
     refine hK _ _ ?_ (λ d5=>?_)
     .exact ⟨Ae I N,Ae I O,Ae I P,Ae I x0,Ae I x1,Ae I x2⟩
     clear hK K
     try simp only[AB]
     refine Ap 10 ?_;refine Ap 11 ?_
     try simp only[AB]
     refine wpAnyH_done (by kernel_rfl) ?_ _
     have c7:Sl (Kp Aa w b9):=⟨J.o.then' I⟩
     clear I d0 d5 N O P x0 x1 x2
     clear u1 u2 i1 f8 c3
     by_cases hcn:c<0
     .have a8:decide (c<0)=true:=dT hcn
      rw[a8]
      go_wp2
      refine⟨⟨i,f,rfl,rfl,by omega,by omega,by omega,⟨M.o.1,λ t R a0=>?_⟩,c7.o⟩,by simp only[intOf];omega⟩
      exact a2.o.lt_le (by rw[c6.o];exact hcn) (e2.o f t (by omega) R a0)
     .have a8:decide (c<0)=false:=dF hcn
      rw[a8]
      go_wp2
      refine⟨⟨f+1,j,by go_num,rfl,by omega,by omega,by omega,⟨λ t R a0=>?_,M.o.2⟩,c7.o⟩,by simp only[intOf];omega⟩
      exact a2.o.trans (e2.o t f R (by omega) (by omega)) (by rw[c6.o];exact hcn)
    .have g1:¬ (i:Int)<(j:Int):=by omega
     obtain rfl:i=j:=by omega
     go_wp2_with fail
     go_loopw [17] (λ x17 b3=>∃ k:Nat,x17=.int .i64 (k:Nat)/\i<=k/\k<=m/\Sl (Cc s b T n (λ G=>G=Bh F k m (m+1)) w b3)) (λ x17 _=>(intOf x17).toNat)
     case atStart=>exact ⟨m,rfl,by omega,by omega,⟨F,c1.o.keep J.o id,(rotF_l rfl (by omega)).symm,J.o.Aw _⟩⟩
     case round=>
      obtain⟨k,rfl,l0,l4,g8⟩:=hrel
      obtain⟨G,i0,g9,hK⟩:=g8.o
      have a5:=sE i0
      have r:=sE g9
      have g7:=sE hK
      clear i0 g9 hK g8 J
      obtain⟨b3,rfl⟩:∃ b3,b3=wr:=⟨_,rfl⟩
      by_cases hlt2:i<k
      .obtain ⟨k,rfl⟩:∃ n0,k=n0+1:=⟨k-1,by omega⟩
       have k3:(i:Int)<(k:Int)+1:=by omega
       obtain⟨N,O,P⟩:=a5.o.cells (i:=k+1) (by omega)
       obtain⟨x0,x1,x2⟩:=a5.o.cells (i:=k) (by omega)
       have m6:=a5.o.warm
       have u2:IntKind.i64.wrap ((k:Int)+1-1)=(k:Int):=by rw[IntKind.wrap_i64];omega
       have u3:IntKind.i64.wrap (k:Int)=(k:Int):=by rw[IntKind.wrap_i64];omega
       have f8:(k:Int)<(n:Int):=by omega
       have c3:(k:Int)+1<(n:Int):=by omega
       have l8:(0:Int)<=(k:Int)+1:=by omega
       have o2:(0:Int)<=(k:Int):=by omega
       go_wp2_with fail
       go_region
       all_goals go_wp2
       go_roundw
       case rel=>exact ⟨k,by first|rfl|(congr 1;omega),by omega,by omega,⟨_,a5.o.swapE (i:=k+1) (j:=k) (by omega) (by omega) rfl rfl,by rw[r.o];exact rot_down l4,(Bn.kswap g7.o ..).drew⟩⟩
       case measure=>simp [intOf]
      .have k3:¬ (i:Int)<(k:Int):=by omega
       obtain rfl:i=k:=by omega
       go_wp2
       refine bodyPost_ret (results_none rfl _ _ _) rfl ?_
       refine⟨⟨_,rfl⟩,G,a5.o,⟨?_,?_⟩,g7.o⟩
       .rw [r.o]
        have:=Stab.rot (C:=C) (x:=a) (y:=z) (a:=i) a3 (m-i) (m+1) F (by omega) (by have:=k7.o;omega) (λ p q c3 l8 b7 b8=>by rw[show q=m by omega];exact M.o.2 p c3 (by omega))
        rwa [show i+(m-i)=m by omega] at this
       .rw [r.o,k7.o]
        exact merge_last a2.o e2.o a3 (by omega) M.o.1 M.o.2
  .have k0:((z:Int)-(m:Int)==1)=false:=by rw[beq_eq_false_iff_ne];exact D
   clear D
   have w1:IntKind.i64.wrap ((a:Int)+(z:Int))=(a:Int)+(z:Int):=by rw[IntKind.wrap_i64];omega
   have w2:IntKind.u64.wrap ((a:Int)+(z:Int))=(a:Int)+(z:Int):=by rw[IntKind.wrap_u64];omega
   obtain⟨mid,n9,l5⟩:∃ mid:Nat,((a:Int)+(z:Int))/2=(mid:Int)/\mid=(a+z)/2:=⟨(a+z)/2,by omega,rfl⟩
   obtain⟨Q,n6,g0⟩:∃ Q:Nat,(mid:Int)+(m:Int)=(Q:Int)/\mid+m=Q:=⟨mid+m,by omega,rfl⟩
   obtain⟨c5,f3⟩:∃ c5,c5=if mid<m then mid+m-z else a:=⟨_,rfl⟩
   obtain⟨c4,c9⟩:∃ c4,c4=if mid<m then mid else m:=⟨_,rfl⟩
   have l9:Sl (mid=(a+z)/2):=⟨l5⟩
   have j9:=sE (And.intro f3 c9)
   have m3:a<mid/\mid<z/\a<=c5/\c5<=c4/\c4<=m/\c4<=mid/\Q<=z+c5:=by
    rw[f3,c9]
    split <;> omega
   obtain⟨e6,e7,e8,e9,f0,f1,f2⟩:=m3
   have b9:IntKind.i64.wrap (mid:Int)=(mid:Int):=by rw[IntKind.wrap_i64];omega
   have n1:IntKind.i64.wrap (Q:Int)=(Q:Int):=by rw[IntKind.wrap_i64];omega
   have b3:IntKind.i64.wrap ((Q:Int)-(z:Int))=(Q:Int)-(z:Int):=by rw[IntKind.wrap_i64];omega
   have n2:IntKind.i64.wrap ((Q:Int)-1)=(Q:Int)-1:=by rw[IntKind.wrap_i64];omega
   have i4:=sE g0
   clear l5 f3 c9 g0
   go_upto_if 140 with fail
   go_cut [20,21] (λ x20 x21 n3=>x20=.int .i64 (c5:Nat)/\x21=.int .i64 (c4:Nat)/\w=n3)
   case first=>
    obtain⟨f3,c9⟩:=j9.o
    by_cases U:mid<m
    .have m4:(mid:Int)<(m:Int):=by omega
     rw[if_pos U] at f3 c9
     subst c9
     go_wp2_with fail
     go_meet
     exact⟨by congr 1;omega,rfl,rfl⟩
    .have m4:¬ (mid:Int)<(m:Int):=by omega
     rw[if_neg U] at f3 c9
     subst f3 c9
     go_wp2_with fail
     go_meet
     exact⟨rfl,rfl,rfl⟩
   case rest=>
    obtain⟨rfl,rfl,rfl⟩:=hcut
    obtain⟨p,m8,j4⟩:∃ p:Nat,(Q:Int)-1=(p:Int)/\p+1=Q:=⟨Q-1,by have:=i4.o;omega,by have:=i4.o;omega⟩
    have m0:=sE j4
    clear j4 w1 w2 b9 n1 b3 k5 k6 i6 k0
    go_wp2_with fail
    clear n2
    go_loopw [20,21,23] (λ x20 x21 _ wr=>∃ i j:Nat,x20=.int .i64 i/\x21=.int .i64 j/\c5<=i/\i<=j/\j<=c4/\Sl (MidS C F (mid+m-1) c5 c4 i j)/\Kp Aa w wr) (λ x20 x21 _ _=>(intOf x21).toNat-(intOf x20).toNat)
    case atStart=>exact ⟨c5,c4,rfl,rfl,by omega,by omega,by omega,⟨λ t R a0=>by omega,λ t R a0=>by omega⟩,Kr _ _⟩
    case round=>
     obtain⟨i,j,rfl,rfl,a3,k2,c2,M,c8⟩:=hrel
     have J:=sE c8
     clear c8
     by_cases hlt:i<j
     .have g1:(i:Int)<(j:Int):=by omega
      have u1:IntKind.i64.wrap ((i:Int)+(j:Int))=(i:Int)+(j:Int):=by rw[IntKind.wrap_i64];omega
      have u2:IntKind.u64.wrap ((i:Int)+(j:Int))=(i:Int)+(j:Int):=by rw[IntKind.wrap_u64];omega
      obtain⟨f,i1,l2,l3⟩:∃ f:Nat,((i:Int)+(j:Int))/2=(f:Int)/\i<=f/\f<j:=⟨(i+j)/2,by omega,by omega,by omega⟩
      have g0:=i4.o
      have j4:=m0.o
      obtain⟨q,m9,k4⟩:∃ q:Nat,(p:Int)-(f:Int)=(q:Int)/\q=mid+m-1-f:=⟨p-f,by omega,by omega⟩
      have u3:IntKind.i64.wrap (q:Int)=(q:Int):=by rw[IntKind.wrap_i64];omega
      have f8:(f:Int)<(n:Int):=by omega
      have c3:(q:Int)<(n:Int):=by omega
      have m1:=sE k4
      have o0:q<n:=by omega
      have n8:f<n:=by omega
      clear k4 g0 j4
      obtain⟨N,O,P⟩:=(c1.o.keep J.o id).cells (i:=q) (by omega)
      obtain⟨x0,x1,x2⟩:=(c1.o.keep J.o id).cells (i:=f) (by omega)
      obtain⟨y,b0⟩:∃ y,F (q)=y:=⟨_,rfl⟩
      obtain⟨x,a9⟩:∃ x,F (f)=x:=⟨_,rfl⟩
      rw[b0] at N O P
      rw[a9] at x0 x1 x2
      have a6:=sE (And.intro b0 a9)
      clear b0 a9
      go_wp2_with fail
      refine wp_region_held_drew (S:=λ w'=>w'.cell? ⟨b,(q)*3,none⟩=some (.int .i64 y.1)/\w'.cell? ⟨b,(q)*3+1,none⟩=some (.int .i64 y.2.1)/\w'.cell? ⟨b,(q)*3+2,none⟩=some (.int .i64 y.2.2)/\w'.cell? ⟨b,(f)*3,none⟩=some (.int .i64 x.1)/\w'.cell? ⟨b,(f)*3+1,none⟩=some (.int .i64 x.2.1)/\w'.cell? ⟨b,(f)*3+2,none⟩=some (.int .i64 x.2.2)) (by kernel_rfl) ?_ (λ d5=>?_)
      .exact ⟨N,O,P,x0,x1,x2⟩
      refine Ap 0 ?_;refine Ap 1 ?_;refine Ap 2 ?_;refine Ap 3 ?_;refine Ap 4 ?_
      try simp only[AB]
      refine Ap 5 ?_;refine Ap 6 ?_;refine Ap 7 ?_;refine Ap 8 ?_;refine Ap 9 ?_
      try simp only[AB]
      refine Ap 10 ?_
      try simp only[AB]
      refine Bp [11] ?_
      refine Ag rfl (λ K hK=>?_)
      go_simp
      refine(g6.o y x _).mono ?_
      rintro e b9 ⟨rfl,d0⟩
      have I:Kp Aa wr b9:=((Kr Aa wr).drew).then' d0
      obtain⟨c,U⟩:∃ c,C y x=c:=⟨_,rfl⟩
      rw[U]
      have c6:Sl (C (F (q)) (F (f))=c):=⟨by rw[a6.o.1,a6.o.2];exact U⟩
      clear U a6
      refine hK _ _ ?_ (λ d5=>?_)
      .exact ⟨Ae I N,Ae I O,Ae I P,Ae I x0,Ae I x1,Ae I x2⟩
      clear hK K
      try simp only[AB]
      refine Ap 12 ?_;refine Ap 13 ?_
      try simp only[AB]
      refine wpAnyH_done (by kernel_rfl) ?_ _
      have c7:Sl (Kp Aa w b9):=⟨J.o.then' I⟩
      clear I d0 d5 N O P x0 x1 x2
      have k4:=m1.o
      clear u1 u2 u3 i1 m9 f8 c3
      by_cases hcn:c<0
      .have a8:decide (c<0)=true:=dT hcn
       rw[a8]
       go_wp2
       refine⟨⟨i,f,rfl,rfl,by omega,by omega,by omega,⟨M.o.1,λ t R a0=>?_⟩,c7.o⟩,by simp only[intOf];omega⟩
       exact a2.o.lt_le (a2.o.le_lt (e3.o (mid+m-1-t) q (by omega) (by omega) (by omega)) (by rw[c6.o];exact hcn)) (e2.o f t (by omega) R (by omega))
      .have a8:decide (c<0)=false:=dF hcn
       rw[a8]
       go_wp2
       refine⟨⟨f+1,j,by go_num,rfl,by omega,by omega,by omega,⟨λ t R a0=>?_,M.o.2⟩,c7.o⟩,by simp only[intOf];omega⟩
       exact a2.o.trans (e2.o t f (by omega) (by omega) (by omega)) (a2.o.trans (by rw[c6.o];exact hcn) (e3.o q (mid+m-1-t) (by omega) (by omega) (by omega)))
     .have g1:¬ (i:Int)<(j:Int):=by omega
      obtain rfl:i=j:=by omega
      have hcut:Cut C a m z mid i F:=Cut.mk' a2.o e2.o e3.o m2 m7 l9.o j9.o.1 j9.o.2 a3 (by omega) M.o.1 M.o.2
      have n4:=sE hcut
      have g0:=i4.o
      obtain⟨f4,f5,f6,f7⟩:a<=i/\i<=m/\i<=mid/\mid+m<=z+i:=⟨hcut.le1,hcut.le2,hcut.le3,hcut.le4⟩
      obtain⟨i7,i8,i9,j0,j1,j2⟩:=hcut.turn a2.o e2.o e3.o
      obtain⟨g,n7,b6⟩:∃ g:Nat,(Q:Int)-(i:Int)=(g:Int)/\mid+m-i=g:=⟨Q-i,by omega,by omega⟩
      have u1:IntKind.i64.wrap (g:Int)=(g:Int):=by rw[IntKind.wrap_i64];omega
      rw[b6] at i7 i8 i9 j0 j1 j2
      have i5:Sl (i=m\/i=mid->Bh F i m g=F):=⟨λ q=>by rw[<- b6];exact cut_stay hcut q⟩
      have n5:=sE b6
      obtain⟨A,k1⟩:∃ A,Bh F i m g=A:=⟨_,rfl⟩
      rw[k1] at i7 i8 i9 j0 j1 j2 i5
      have i3:=sE k1
      have r:=sE (And.intro i7 (And.intro i8 (And.intro i9 (And.intro j0 (And.intro j1 j2)))))
      have e1:Sl (Bn s b T n F wr):=⟨c1.o.keep J.o id⟩
      clear i7 i8 i9 j0 j1 j2 k1 hcut hlt g1 k2 M m8 g0 g6
      have b4:a<i\/a=i:=by omega
      have b5:g<z\/g=z:=by omega
      by_cases b7:i=m
      .by_cases b8:i=mid
       .have g2:¬ ((i:Int)<(m:Int)):=by omega
        have g3:((a:Int)<(i:Int)):=by omega
        have j5:¬ ((i:Int)<(mid:Int)):=by omega
        have g4:¬ ((mid:Int)<(g:Int)):=by omega
        have g5:Sl (i=m\/i=mid):=⟨by omega⟩
        have e4:Sl (a=i\/i=mid):=⟨by omega⟩
        have e5:Sl (mid=g\/g=z):=⟨by omega⟩
        have l:mid<=g/\i<=mid/\g<=z/\i<=m/\a<=i/\mid-a<z-a/\z-mid<z-a/\a<=mid/\mid<=z:=by omega
        have E:=sE l
        clear l b7 b8 b4 b5
        clear b6 f4 f5 f6 f7 e6 e7 e8 e9 f0 f1 f2 a3 c2
        go_wp2_with fail
        have Z:Sl (Bn s b T n A wr):=⟨by rw[i5.o g5.o];exact e1.o⟩
        have W:Sl (Kp (λ k=>k=b) w wr):=⟨J.o.Aw _⟩
        have v:Sl (Bn s b T n A wr/\Stab C a mid A A/\Al C a mid A):=⟨⟨Z.o,.refl,r.o.2.1.join r.o.2.2.1 e4.o⟩⟩
        have X:=W
        have l:=E.o
        have D:Al C mid g A/\Al C g z A:=⟨r.o.2.2.2.1.congr λ k L a1=>v.o.2.1.o (.inr L),r.o.2.2.2.2.1.congr λ k L a1=>v.o.2.1.o (.inr (by omega))⟩
        have B:Sl (Bn s b T n A wr/\Stab C mid z A A/\Al C mid z A):=⟨⟨v.o.1,.refl,D.1.join D.2 e5.o⟩⟩
        have Y:=X
        clear D
        try clear l
        go_wp2
        refine bodyPost_end (results_none rfl _ _ _) rfl ?_
        have l:=E.o
        exact⟨⟨_,rfl⟩,_,B.o.1,⟨r.o.1.trans ((v.o.2.1.mono (Nat.le_refl _) (by omega)).trans (B.o.2.1.mono (by omega) (Nat.le_refl _))),Dy r.o.2.2.2.2.2 v.o.2.1 B.o.2.1 v.o.2.2 B.o.2.2⟩,Y.o⟩
       .have g2:¬ ((i:Int)<(m:Int)):=by omega
        have g3:((a:Int)<(i:Int)):=by omega
        have j5:((i:Int)<(mid:Int)):=by omega
        have g4:¬ ((mid:Int)<(g:Int)):=by omega
        have g5:Sl (i=m\/i=mid):=⟨by omega⟩
        have e5:Sl (mid=g\/g=z):=⟨by omega⟩
        have l:mid<=g/\i<=mid/\g<=z/\i<=m/\a<=i/\mid-a<z-a/\z-mid<z-a/\a<=mid/\mid<=z:=by omega
        have E:=sE l
        clear l b7 b8 b4 b5
        clear b6 f4 f5 f6 f7 e6 e7 e8 e9 f0 f1 f2 a3 c2
        go_wp2_with fail
        have Z:Sl (Bn s b T n A wr):=⟨by rw[i5.o g5.o];exact e1.o⟩
        have W:Sl (Kp (λ k=>k=b) w wr):=⟨J.o.Aw _⟩
        have l:=E.o
        refine(f9.o (a':=a) (m':=i) (z':=mid) (by omega) Z.o (by omega) (by omega) (by omega) r.o.2.1 r.o.2.2.1).mono ?_
        clear l
        rintro e c0 ⟨⟨u,rfl⟩,H,d6,⟨d8,d3⟩,d1⟩
        have v:Sl (Bn s b T n H c0/\Stab C a mid A H/\Al C a mid H):=⟨⟨d6,d8,d3⟩⟩
        have X:Sl (Kp (λ k=>k=b) w c0):=⟨W.o.trans d1 (λ _ _ f=>f)⟩
        clear d6 d8 d3 d1
        go_wp2_with fail
        have l:=E.o
        have D:Al C mid g H/\Al C g z H:=⟨r.o.2.2.2.1.congr λ k L a1=>v.o.2.1.o (.inr L),r.o.2.2.2.2.1.congr λ k L a1=>v.o.2.1.o (.inr (by omega))⟩
        have B:Sl (Bn s b T n H c0/\Stab C mid z H H/\Al C mid z H):=⟨⟨v.o.1,.refl,D.1.join D.2 e5.o⟩⟩
        have Y:=X
        clear D
        try clear l
        go_wp2
        refine bodyPost_end (results_none rfl _ _ _) rfl ?_
        have l:=E.o
        exact⟨⟨_,rfl⟩,_,B.o.1,⟨r.o.1.trans ((v.o.2.1.mono (Nat.le_refl _) (by omega)).trans (B.o.2.1.mono (by omega) (Nat.le_refl _))),Dy r.o.2.2.2.2.2 v.o.2.1 B.o.2.1 v.o.2.2 B.o.2.2⟩,Y.o⟩
      .by_cases b8:i=mid
       .have g2:((i:Int)<(m:Int)):=by omega
        have j6:¬ ((m:Int)<(g:Int)):=by omega
        have g3:((a:Int)<(i:Int)):=by omega
        have j5:¬ ((i:Int)<(mid:Int)):=by omega
        have g4:((mid:Int)<(g:Int)):=by omega
        have j7:((g:Int)<(z:Int)):=by omega
        have g5:Sl (i=m\/i=mid):=⟨by omega⟩
        have e4:Sl (a=i\/i=mid):=⟨by omega⟩
        have l:mid<=g/\i<=mid/\g<=z/\i<=m/\a<=i/\mid-a<z-a/\z-mid<z-a/\a<=mid/\mid<=z:=by omega
        have E:=sE l
        clear l b7 b8 b4 b5
        clear b6 f4 f5 f6 f7 e6 e7 e8 e9 f0 f1 f2 a3 c2
        go_wp2_with fail
        have Z:Sl (Bn s b T n A wr):=⟨by rw[i5.o g5.o];exact e1.o⟩
        have W:Sl (Kp (λ k=>k=b) w wr):=⟨J.o.Aw _⟩
        have v:Sl (Bn s b T n A wr/\Stab C a mid A A/\Al C a mid A):=⟨⟨Z.o,.refl,r.o.2.1.join r.o.2.2.1 e4.o⟩⟩
        have X:=W
        have l:=E.o
        have D:Al C mid g A/\Al C g z A:=⟨r.o.2.2.2.1.congr λ k L a1=>v.o.2.1.o (.inr L),r.o.2.2.2.2.1.congr λ k L a1=>v.o.2.1.o (.inr (by omega))⟩
        refine(f9.o (a':=mid) (m':=g) (z':=z) (by omega) v.o.1 (by omega) (by omega) (by omega) D.1 D.2).mono ?_
        clear l
        rintro e e0 ⟨⟨u,rfl⟩,a4,d7,⟨d9,d4⟩,d2⟩
        have B:Sl (Bn s b T n a4 e0/\Stab C mid z A a4/\Al C mid z a4):=⟨⟨d7,d9,d4⟩⟩
        have Y:Sl (Kp (λ k=>k=b) w e0):=⟨X.o.trans d2 (λ _ _ f=>f)⟩
        clear d7 d9 d4 d2
        clear D
        try clear l
        go_wp2
        refine bodyPost_end (results_none rfl _ _ _) rfl ?_
        have l:=E.o
        exact⟨⟨_,rfl⟩,_,B.o.1,⟨r.o.1.trans ((v.o.2.1.mono (Nat.le_refl _) (by omega)).trans (B.o.2.1.mono (by omega) (Nat.le_refl _))),Dy r.o.2.2.2.2.2 v.o.2.1 B.o.2.1 v.o.2.2 B.o.2.2⟩,Y.o⟩
       .rcases b4 with b4|b4 <;> rcases b5 with b5|b5
        .have g2:((i:Int)<(m:Int)):=by omega
         have j6:((m:Int)<(g:Int)):=by omega
         have g3:((a:Int)<(i:Int)):=by omega
         have j5:((i:Int)<(mid:Int)):=by omega
         have g4:((mid:Int)<(g:Int)):=by omega
         have j7:((g:Int)<(z:Int)):=by omega
         have l:mid<=g/\i<=mid/\g<=z/\i<=m/\a<=i/\mid-a<z-a/\z-mid<z-a/\a<=mid/\mid<=z:=by omega
         have E:=sE l
         clear l b7 b8 b4 b5
         clear b6 f4 f5 f6 f7 e6 e7 e8 e9 f0 f1 f2 a3 c2
         go_wp2_with fail
         have l:=E.o
         refine(RotS_at _ (a:=i) (m:=m) (z:=g) e1.o (by omega) (by omega) (by omega) j3).mono ?_
         clear l
         rintro e V ⟨⟨u,rfl⟩,j8,b2,a7,b1⟩
         have Z:Sl (Bn s b T n A V):=⟨by rw[<- i3.o,<- a7];exact b2⟩
         have W:Sl (Kp (λ k=>k=b) w V):=⟨(J.o.Aw _).trans b1 (λ _ _ f=>f)⟩
         clear b2 a7 b1
         go_wp2_with fail
         have l:=E.o
         refine(f9.o (a':=a) (m':=i) (z':=mid) (by omega) Z.o (by omega) (by omega) (by omega) r.o.2.1 r.o.2.2.1).mono ?_
         clear l
         rintro e c0 ⟨⟨u,rfl⟩,H,d6,⟨d8,d3⟩,d1⟩
         have v:Sl (Bn s b T n H c0/\Stab C a mid A H/\Al C a mid H):=⟨⟨d6,d8,d3⟩⟩
         have X:Sl (Kp (λ k=>k=b) w c0):=⟨W.o.trans d1 (λ _ _ f=>f)⟩
         clear d6 d8 d3 d1
         go_wp2_with fail
         have l:=E.o
         have D:Al C mid g H/\Al C g z H:=⟨r.o.2.2.2.1.congr λ k L a1=>v.o.2.1.o (.inr L),r.o.2.2.2.2.1.congr λ k L a1=>v.o.2.1.o (.inr (by omega))⟩
         refine(f9.o (a':=mid) (m':=g) (z':=z) (by omega) v.o.1 (by omega) (by omega) (by omega) D.1 D.2).mono ?_
         clear l
         rintro e e0 ⟨⟨u,rfl⟩,a4,d7,⟨d9,d4⟩,d2⟩
         have B:Sl (Bn s b T n a4 e0/\Stab C mid z H a4/\Al C mid z a4):=⟨⟨d7,d9,d4⟩⟩
         have Y:Sl (Kp (λ k=>k=b) w e0):=⟨X.o.trans d2 (λ _ _ f=>f)⟩
         clear d7 d9 d4 d2
         clear D
         try clear l
         go_wp2
         refine bodyPost_end (results_none rfl _ _ _) rfl ?_
         have l:=E.o
         exact⟨⟨_,rfl⟩,_,B.o.1,⟨r.o.1.trans ((v.o.2.1.mono (Nat.le_refl _) (by omega)).trans (B.o.2.1.mono (by omega) (Nat.le_refl _))),Dy r.o.2.2.2.2.2 v.o.2.1 B.o.2.1 v.o.2.2 B.o.2.2⟩,Y.o⟩
        .have g2:((i:Int)<(m:Int)):=by omega
         have j6:((m:Int)<(g:Int)):=by omega
         have g3:((a:Int)<(i:Int)):=by omega
         have j5:((i:Int)<(mid:Int)):=by omega
         have g4:((mid:Int)<(g:Int)):=by omega
         have j7:¬ ((g:Int)<(z:Int)):=by omega
         have e5:Sl (mid=g\/g=z):=⟨by omega⟩
         have l:mid<=g/\i<=mid/\g<=z/\i<=m/\a<=i/\mid-a<z-a/\z-mid<z-a/\a<=mid/\mid<=z:=by omega
         have E:=sE l
         clear l b7 b8 b4 b5
         clear b6 f4 f5 f6 f7 e6 e7 e8 e9 f0 f1 f2 a3 c2
         go_wp2_with fail
         have l:=E.o
         refine(RotS_at _ (a:=i) (m:=m) (z:=g) e1.o (by omega) (by omega) (by omega) j3).mono ?_
         clear l
         rintro e V ⟨⟨u,rfl⟩,j8,b2,a7,b1⟩
         have Z:Sl (Bn s b T n A V):=⟨by rw[<- i3.o,<- a7];exact b2⟩
         have W:Sl (Kp (λ k=>k=b) w V):=⟨(J.o.Aw _).trans b1 (λ _ _ f=>f)⟩
         clear b2 a7 b1
         go_wp2_with fail
         have l:=E.o
         refine(f9.o (a':=a) (m':=i) (z':=mid) (by omega) Z.o (by omega) (by omega) (by omega) r.o.2.1 r.o.2.2.1).mono ?_
         clear l
         rintro e c0 ⟨⟨u,rfl⟩,H,d6,⟨d8,d3⟩,d1⟩
         have v:Sl (Bn s b T n H c0/\Stab C a mid A H/\Al C a mid H):=⟨⟨d6,d8,d3⟩⟩
         have X:Sl (Kp (λ k=>k=b) w c0):=⟨W.o.trans d1 (λ _ _ f=>f)⟩
         clear d6 d8 d3 d1
         go_wp2_with fail
         have l:=E.o
         have D:Al C mid g H/\Al C g z H:=⟨r.o.2.2.2.1.congr λ k L a1=>v.o.2.1.o (.inr L),r.o.2.2.2.2.1.congr λ k L a1=>v.o.2.1.o (.inr (by omega))⟩
         have B:Sl (Bn s b T n H c0/\Stab C mid z H H/\Al C mid z H):=⟨⟨v.o.1,.refl,D.1.join D.2 e5.o⟩⟩
         have Y:=X
         clear D
         try clear l
         go_wp2
         refine bodyPost_end (results_none rfl _ _ _) rfl ?_
         have l:=E.o
         exact⟨⟨_,rfl⟩,_,B.o.1,⟨r.o.1.trans ((v.o.2.1.mono (Nat.le_refl _) (by omega)).trans (B.o.2.1.mono (by omega) (Nat.le_refl _))),Dy r.o.2.2.2.2.2 v.o.2.1 B.o.2.1 v.o.2.2 B.o.2.2⟩,Y.o⟩
        .have g2:((i:Int)<(m:Int)):=by omega
         have j6:((m:Int)<(g:Int)):=by omega
         have g3:¬ ((a:Int)<(i:Int)):=by omega
         have g4:((mid:Int)<(g:Int)):=by omega
         have j7:((g:Int)<(z:Int)):=by omega
         have e4:Sl (a=i\/i=mid):=⟨by omega⟩
         have l:mid<=g/\i<=mid/\g<=z/\i<=m/\a<=i/\mid-a<z-a/\z-mid<z-a/\a<=mid/\mid<=z:=by omega
         have E:=sE l
         clear l b7 b8 b4 b5
         clear b6 f4 f5 f6 f7 e6 e7 e8 e9 f0 f1 f2 a3 c2
         go_wp2_with fail
         have l:=E.o
         refine(RotS_at _ (a:=i) (m:=m) (z:=g) e1.o (by omega) (by omega) (by omega) j3).mono ?_
         clear l
         rintro e V ⟨⟨u,rfl⟩,j8,b2,a7,b1⟩
         have Z:Sl (Bn s b T n A V):=⟨by rw[<- i3.o,<- a7];exact b2⟩
         have W:Sl (Kp (λ k=>k=b) w V):=⟨(J.o.Aw _).trans b1 (λ _ _ f=>f)⟩
         clear b2 a7 b1
         go_wp2_with fail
         have v:Sl (Bn s b T n A V/\Stab C a mid A A/\Al C a mid A):=⟨⟨Z.o,.refl,r.o.2.1.join r.o.2.2.1 e4.o⟩⟩
         have X:=W
         have l:=E.o
         have D:Al C mid g A/\Al C g z A:=⟨r.o.2.2.2.1.congr λ k L a1=>v.o.2.1.o (.inr L),r.o.2.2.2.2.1.congr λ k L a1=>v.o.2.1.o (.inr (by omega))⟩
         refine(f9.o (a':=mid) (m':=g) (z':=z) (by omega) v.o.1 (by omega) (by omega) (by omega) D.1 D.2).mono ?_
         clear l
         rintro e e0 ⟨⟨u,rfl⟩,a4,d7,⟨d9,d4⟩,d2⟩
         have B:Sl (Bn s b T n a4 e0/\Stab C mid z A a4/\Al C mid z a4):=⟨⟨d7,d9,d4⟩⟩
         have Y:Sl (Kp (λ k=>k=b) w e0):=⟨X.o.trans d2 (λ _ _ f=>f)⟩
         clear d7 d9 d4 d2
         clear D
         try clear l
         go_wp2
         refine bodyPost_end (results_none rfl _ _ _) rfl ?_
         have l:=E.o
         exact⟨⟨_,rfl⟩,_,B.o.1,⟨r.o.1.trans ((v.o.2.1.mono (Nat.le_refl _) (by omega)).trans (B.o.2.1.mono (by omega) (Nat.le_refl _))),Dy r.o.2.2.2.2.2 v.o.2.1 B.o.2.1 v.o.2.2 B.o.2.2⟩,Y.o⟩
        .have g2:((i:Int)<(m:Int)):=by omega
         have j6:((m:Int)<(g:Int)):=by omega
         have g3:¬ ((a:Int)<(i:Int)):=by omega
         have g4:((mid:Int)<(g:Int)):=by omega
         have j7:¬ ((g:Int)<(z:Int)):=by omega
         have e4:Sl (a=i\/i=mid):=⟨by omega⟩
         have e5:Sl (mid=g\/g=z):=⟨by omega⟩
         have l:mid<=g/\i<=mid/\g<=z/\i<=m/\a<=i/\mid-a<z-a/\z-mid<z-a/\a<=mid/\mid<=z:=by omega
         have E:=sE l
         clear l b7 b8 b4 b5
         clear b6 f4 f5 f6 f7 e6 e7 e8 e9 f0 f1 f2 a3 c2
         go_wp2_with fail
         have l:=E.o
         refine(RotS_at _ (a:=i) (m:=m) (z:=g) e1.o (by omega) (by omega) (by omega) j3).mono ?_
         clear l
         rintro e V ⟨⟨u,rfl⟩,j8,b2,a7,b1⟩
         have Z:Sl (Bn s b T n A V):=⟨by rw[<- i3.o,<- a7];exact b2⟩
         have W:Sl (Kp (λ k=>k=b) w V):=⟨(J.o.Aw _).trans b1 (λ _ _ f=>f)⟩
         clear b2 a7 b1
         go_wp2_with fail
         have v:Sl (Bn s b T n A V/\Stab C a mid A A/\Al C a mid A):=⟨⟨Z.o,.refl,r.o.2.1.join r.o.2.2.1 e4.o⟩⟩
         have X:=W
         have l:=E.o
         have D:Al C mid g A/\Al C g z A:=⟨r.o.2.2.2.1.congr λ k L a1=>v.o.2.1.o (.inr L),r.o.2.2.2.2.1.congr λ k L a1=>v.o.2.1.o (.inr (by omega))⟩
         have B:Sl (Bn s b T n A V/\Stab C mid z A A/\Al C mid z A):=⟨⟨v.o.1,.refl,D.1.join D.2 e5.o⟩⟩
         have Y:=X
         clear D
         try clear l
         go_wp2
         refine bodyPost_end (results_none rfl _ _ _) rfl ?_
         have l:=E.o
         exact⟨⟨_,rfl⟩,_,B.o.1,⟨r.o.1.trans ((v.o.2.1.mono (Nat.le_refl _) (by omega)).trans (B.o.2.1.mono (by omega) (Nat.le_refl _))),Dy r.o.2.2.2.2.2 v.o.2.1 B.o.2.1 v.o.2.2 B.o.2.2⟩,Y.o⟩

end

end

end Go.Proofs.YtfkedlgpgmaemaaGreatDoor
