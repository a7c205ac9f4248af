/-
  Lemmas for the laws, together: SsK, SsF.
-/
import Derived.Test.YtfkedlgpgmaemaaGreatDoorProg
import Derived.Test.YtfkedlgpgmaemaaGreatDoorQbl
import Derived.Test.YtfkedlgpgmaemaaGreatDoorQak
import Derived.BigGuard
import Derived.BigCall
import Derived.CellFam
import Derived.Deep.Draws
import Derived.Test.YtfkedlgpgmaemaaGreatDoorQaz
set_option linter.unusedVariables false
set_option maxHeartbeats 16000000
namespace Go.Proofs.YtfkedlgpgmaemaaGreatDoor
open Tryz
section
open Go.RowKit

section

variable {C:T3->T3->Int} {s b T n cap:Nat} {F:Nat->T3} {w:World}

theorem InsS_at(a1:OrdC C)(a3:∀ x y Z,Calls prog 56 #[Ej x,Ej y] Z (RK (.int .i64 (C x y)) Z)){a z:Nat}(H:Bn s b T n F w)(b5:a<=z)(c1:z<=n)(b8:n<1152921504606846976):
  Calls prog 202 #[.slice (some ⟨b,0,none⟩) n cap,a,z,.func (.func 56) #[] #[]] w λ e w'=>(∃ u,e=.returned u)/\Cc s b T n (λ G=>Stab C a z F G/\Al C a z G) w w':=by
 have a7:=sE H
 have D:=sE a1
 have U:=sE a3
 clear H a1 a3
 unfold Ej at U
 go_enter func202,ntmps202
 go_wp2_with fail
 go_loopw [8] (λ P wr=>∃ (i:Nat),P=.int .i64 (i:Nat)/\a<i/\i<=z+1/\Sl (Cc s b T n (λ G=>Stab C a z F G/\Al C a (min i z) G) w wr)) (λ P _=>z+1-(intOf P).toNat)
 case atStart=>exact ⟨a+1,by go_num,by omega,by omega,⟨F,a7.o,⟨.refl,λ i j b1 b2 b3=>by rw[show i=j by omega];exact D.o.refl _⟩,Kr _ _⟩⟩
 case round=>
  obtain⟨i,rfl,b4,b7,X⟩:=hrel
  obtain⟨a0,q,⟨r,t⟩,hK⟩:=X.o
  have f:=sE q
  have m:=sE r
  have l:=sE t
  have p:=sE hK
  clear q r t hK X
  by_cases hlt:i<z
  .have a8:(i:Int)<(z:Int):=by omega
   go_wp2_with fail
   go_loopw [9] (λ Q b0=>∃ (j:Nat),Q=.int .i64 (j:Nat)/\a<=j/\j<=i/\Sl (Cc s b T n (λ G=>Stab C a z F G/\DownC C a i j G) w b0)) (λ Q _=>(intOf Q).toNat)
   case atStart=>exact ⟨i,rfl,by omega,Nat.le_refl _,⟨a0,f.o,⟨m.o,DownC.start (by have:=l.o;rwa [Nat.min_eq_left (by omega)] at this)⟩,p.o⟩⟩
   case round=>
    obtain⟨j,rfl,a2,M,Y⟩:=hrel
    obtain⟨E,q,⟨r,t⟩,hK⟩:=Y.o
    have f:=sE q
    have m:=sE r
    have l:=sE t
    have p:=sE hK
    clear q r t hK Y
    by_cases hja:a<j
    .obtain ⟨j,rfl⟩:∃ k,j=k+1:=⟨j-1,by omega⟩
     obtain⟨v,A,B⟩:=f.o.cells (i:=j+1) (by omega)
     obtain⟨x0,x1,x2⟩:=f.o.cells (i:=j) (by omega)
     obtain⟨y,O⟩:∃ y,E (j+1)=y:=⟨_,rfl⟩
     obtain⟨x,N⟩:∃ x,E j=x:=⟨_,rfl⟩
     rw[O] at v A B
     rw[N] at x0 x1 x2
     have g:=sE (And.intro O N)
     clear O N
     have b9:IntKind.i64.wrap ((j:Int)+1-1)=(j:Int):=by rw[IntKind.wrap_i64];omega
     have c0:IntKind.i64.wrap (j:Int)=(j:Int):=by rw[IntKind.wrap_i64];omega
     have c2:(0:Int)<=(j:Int)+1:=by omega
     have c3:(j:Int)+1<(n:Int):=by omega
     have c4:(0:Int)<=(j:Int):=by omega
     have c5:(j:Int)<(n:Int):=by omega
     have a9:(a:Int)<(j:Int)+1:=by omega
     go_wp2_with fail
     refine wp_region_held_drew (S:=λ w'=>w'.cell? ⟨b,(j+1)*3,none⟩=some (.int .i64 y.1)/\w'.cell? ⟨b,(j+1)*3+1,none⟩=some (.int .i64 y.2.1)/\w'.cell? ⟨b,(j+1)*3+2,none⟩=some (.int .i64 y.2.2)/\w'.cell? ⟨b,j*3,none⟩=some (.int .i64 x.1)/\w'.cell? ⟨b,j*3+1,none⟩=some (.int .i64 x.2.1)/\w'.cell? ⟨b,j*3+2,none⟩=some (.int .i64 x.2.2)) (by kernel_rfl) ?_ (λ a6=>?_)
     .exact ⟨v,A,B,x0,x1,x2⟩
     refine Ap 0 ?_;refine Ap 1 ?_;refine Ap 2 ?_;refine Ap 3 ?_
     try simp only[AB]
     refine Ap 4 ?_;refine Ap 5 ?_;refine Ap 6 ?_;refine Ap 7 ?_;refine Ap 8 ?_
     try simp only[AB]
     refine Ap 9 ?_;refine Ap 10 ?_;refine Ap 11 ?_;refine Ap 12 ?_;refine Ap 13 ?_
     try simp only[AB]
     refine Bp [14] ?_
     refine Ag rfl (λ K hK=>?_)
     go_simp
     refine(U.o y x _).mono ?_
     rintro e R ⟨rfl,a4⟩
     have a5:Kp Aa wr wr.drew:=(Kr _ _).drew
     have d:Kp Aa wr R:=a5.then' a4
     obtain⟨c,J⟩:∃ c,C y x=c:=⟨_,rfl⟩
     rw[J]
     have I:=sE J
     clear J
     refine hK _ _ ?_ (λ a6=>?_)
     .exact ⟨Ae d v,Ae d A,Ae d B,Ae d x0,Ae d x1,Ae d x2⟩
     clear hK K
     try simp only[AB]
     refine Ap 15 ?_;refine Ap 16 ?_
     try simp only[AB]
     refine wpAnyH_done (by kernel_rfl) ?_ _
     have W:Sl (Kp Aa wr R):=⟨d⟩
     have V:Sl (Kp (λ k=>k=b) w R):=⟨p.o.trans d (λ _ _ H=>H.elim)⟩
     replace v:=Ae d v
     replace A:=Ae d A
     replace B:=Ae d B
     replace x0:=Ae d x0
     replace x1:=Ae d x1
     replace x2:=Ae d x2
     have b6:=(f.o.keep d id).warm
     clear d a4 a5 a6
     by_cases hcn:c<0
     .have L:decide (c<0)=true:=dT hcn
      rw[L]
      go_wp2_with fail
      go_region
      all_goals go_wp2
      go_roundw
      case rel=>exact ⟨j,by first|rfl|(congr 1;omega),by omega,by omega,⟨_,(f.o.keep W.o id).swapE (i:=j+1) (j:=j) (by omega) (by omega) g.o.1 g.o.2,⟨by rw[swp3_comm];exact m.o.step (by omega) (by omega) (by rw[g.o.1,g.o.2,I.o];exact hcn),by rw[swp3_comm];exact l.o.step D.o (by omega) M (by rw[g.o.1,g.o.2,I.o];exact hcn)⟩,(Bn.kswap V.o ..).drew⟩⟩
      case measure=>simp [intOf]
     .have L:decide (c<0)=false:=dF hcn
      rw[L]
      go_wp2
      refine⟨⟨i+1,by go_num,by omega,by omega,⟨E,f.o.keep W.o id,⟨m.o,?_⟩,V.o⟩⟩,by simp only[intOf];omega⟩
      rw[Nat.min_eq_left (by omega)]
      exact l.o.stop D.o a2 M (.inr (by rw[Nat.add_sub_cancel,g.o.1,g.o.2,I.o];exact hcn))
    .obtain rfl:a=j:=by omega
     have a9:¬ (a:Int)<(a:Int):=by omega
     go_wp2_with fail
     go_quiet (fail)
     go_wp2
     refine⟨⟨i+1,by go_num,by omega,by omega,⟨E,f.o.keep (S:=Aa) (Kp.Ah _) id,⟨m.o,?_⟩,p.o.drewN _⟩⟩,by simp only[intOf];omega⟩
     rw[Nat.min_eq_left (by omega)]
     exact l.o.stop D.o a2 M (.inl rfl)
  .have a8:¬ (i:Int)<(z:Int):=by omega
   go_wp2
   refine bodyPost_end (results_none rfl _ _ _) rfl ?_
   exact⟨⟨_,rfl⟩,a0,f.o,⟨m.o,by have:=l.o;rwa [Nat.min_eq_right (by omega)] at this⟩,p.o⟩

end

end

section
open Go.RowKit

section

variable {C:T3->T3->Int} {s b T n cap:Nat}

theorem InsS_nil(fn:Value)(w:World):
  Calls prog 202 #[.slice none 0 0,(0:Int),(0:Int),fn] w λ e w'=>(∃ u,e=.returned u)/\Kp Aa w w':=by
 go_enter func202,ntmps202
 go_wp2_with fail
 go_loopw [8] (λ x wr=>x=.int .i64 1/\Kp Aa w wr) (λ _ _=>0)
 case atStart=>exact ⟨rfl,Kr _ _⟩
 case round=>
  obtain⟨rfl,a⟩:=hrel
  go_wp2
  refine bodyPost_end (results_none rfl _ _ _) rfl ?_
  exact⟨⟨_,rfl⟩,a⟩

theorem StableS_nil(fn:Value)(w:World):
  Calls prog 163 #[.slice none 0 0,(0:Int),fn] w λ e w'=>(∃ u,e=.returned u)/\Kp Aa w w':=by
 go_enter func163,ntmps163
 go_wp2_with fail
 go_loopw [7,8] (λ x7 x8 wr=>x7=.int .i64 0/\x8=.int .i64 20/\Kp Aa w wr) (λ _ _ _=>0)
 case atStart=>exact ⟨rfl,rfl,Kr _ _⟩
 case round=>
  obtain⟨rfl,rfl,a⟩:=hrel
  have c:=sE a
  clear a
  go_wp2_with fail
  refine(InsS_nil fn _).mono ?_
  rintro e w2 ⟨⟨u,rfl⟩,b⟩
  have d:=sE (c.o.then' b)
  clear b
  go_wp2_with fail
  go_loopw [6,7,8,9] (λ x6 _ _ _ wr=>x6=.int .i64 20/\Kp Aa w wr) (λ _ _ _ _ _=>0)
  case atStart=>exact ⟨rfl,d.o⟩
  case round=>
   obtain⟨rfl,a⟩:=hrel
   go_wp2
   refine bodyPost_end (results_none rfl _ _ _) rfl ?_
   exact⟨⟨_,rfl⟩,a⟩

theorem StableS_few{F:Nat->T3}{w:World}(i:OrdC C)(j:∀ x y c,Calls prog 56 #[Ej x,Ej y] c (RK (.int .i64 (C x y)) c))(A:n<=19)(d:Bn s b T n F w):
  Calls prog 163 #[.slice (some ⟨b,0,none⟩) n cap,n,.func (.func 56) #[] #[]] w λ e w'=>(∃ u,e=.returned u)/\Cc s b T n (λ G=>Stab C 0 n F G/\Al C 0 n G) w w':=by
 have p:Sl (∀ c,Kp Aa w c->_):=⟨λ c r=>InsS_at (cap:=cap) i j (F:=F) (w:=c) (a:=0) (z:=n) (d.keep r id) (Nat.zero_le _) (Nat.le_refl _) (by omega)⟩
 clear d j i
 have t:¬ (20:Int)<=(n:Int):=by omega
 have v:¬ (20:Int)<(n:Int):=by omega
 go_enter func163,ntmps163
 go_wp2_with fail
 go_loopw [7,8] (λ x7 x8 wr=>x7=.int .i64 0/\x8=.int .i64 20/\Kp Aa w wr) (λ _ _ _=>0)
 case atStart=>exact ⟨rfl,rfl,Kr _ _⟩
 case round=>
  obtain⟨rfl,rfl,k⟩:=hrel
  have f:=sE k
  clear k
  go_wp2_with fail
  refine(p.o _ f.o).mono ?_
  rintro e w2 ⟨⟨u,rfl⟩,G,m,g,l⟩
  have q:Sl (Cc s b T n (λ G=>Stab C 0 n F G/\Al C 0 n G) w w2):=⟨G,m,g,(f.o.Aw _).trans l (λ _ _ d=>d)⟩
  clear m g l
  go_wp2_with fail
  go_loopw [6,7,8,9] (λ x6 _ _ _ wr=>x6=.int .i64 20/\wr=w2) (λ _ _ _ _ _=>0)
  case atStart=>exact ⟨rfl,rfl⟩
  case round=>
   obtain⟨rfl,rfl⟩:=hrel
   go_wp2
   refine bodyPost_end (results_none rfl _ _ _) rfl ?_
   exact⟨⟨_,rfl⟩,q.o⟩

theorem SortS_of{base:Nat}{v:Value}{L:List T3}{w:World}(f:OrdC C)(l:∀ {g cap:Nat},Bn (cap*3) g T L.length (atL L) w->Calls prog 163 #[.slice (some ⟨g,0,none⟩) L.length cap,L.length,.func (.func 56) #[] #[]] w λ e w'=>(∃ u,e=.returned u)/\Cc (cap*3) g T L.length (λ G=>Stab C 0 L.length (atL L) G/\Al C 0 L.length G) w w')(a:w.ownsRow base T 3 v L.length (Bi L)):
  Calls prog 109 #[v,.func (.func 56) #[] #[]] w λ e w'=>(∃ u,e=.returned u)/\w'.ownsRow base T 3 v L.length (Bi (BN C L))/\Kp (λ k=>v.ownBlock=some k) w w':=by
 rcases a.2 with ⟨rfl,q⟩|⟨g,cap,J,rfl,-⟩
 .have H:L=[]:=List.length_eq_zero_iff.1 q
  subst H
  have c:=sE (StableS_nil (.func (.func 56) #[] #[]) w)
  clear a q l f
  go_enter func109,ntmps109
  go_wp2_with fail
  refine c.o.mono ?_
  rintro e w2 ⟨⟨u,rfl⟩,d⟩
  go_wp2
  refine bodyPost_end (results_none rfl _ _ _) rfl ?_
  exact⟨⟨_,rfl⟩,World.ownsRow_nil _ _ _ _,d.Aw _⟩
 .obtain ⟨I,r,s,t,x⟩:=Bn.Bc a
  have c:=sE (l x)
  have b:=sE (And.intro r (And.intro s t))
  have B:=sE f
  obtain⟨n,j⟩:∃ n,L.length=n:=⟨_,rfl⟩
  have m:=sE j
  rw[j] at c b ⊢
  clear a r s t x l f I j
  go_enter func109,ntmps109
  go_wp2_with fail
  refine c.o.mono ?_
  rintro e w2 ⟨⟨u,rfl⟩,G,z,⟨A,y⟩,d⟩
  have E:Sl (w2.ownsRow base T 3 (.slice (some ⟨g,0,none⟩) n cap) n (Bi (BN C L))):=⟨by
   have p:=A.answer B.o y
   rw[<- m.o,map_atL] at p
   rw[<- p,m.o]
   exact z.owns b.o.1 b.o.2.1 b.o.2.2⟩
  have D:Sl (Kp (λ k=>(Value.slice (some ⟨g,0,none⟩) n cap).ownBlock=some k) w w2):=⟨d.mono λ i _ a=>by have F:i=g:=a;subst F;rfl⟩
  clear z A y d
  go_wp2
  refine bodyPost_end (results_none rfl _ _ _) rfl ?_
  exact⟨⟨_,rfl⟩,E.o,D.o⟩

theorem ByS_of{base:Nat}{v:Value}{L:List T3}{w:World}(i:OrdC C)(l:∀ {g cap:Nat},Bn (cap*3) g T L.length (atL L) w->Calls prog 163 #[.slice (some ⟨g,0,none⟩) L.length cap,L.length,.func (.func 56) #[] #[]] w λ e w'=>(∃ u,e=.returned u)/\Cc (cap*3) g T L.length (λ G=>Stab C 0 L.length (atL L) G/\Al C 0 L.length G) w w')(b:w.ownsRow base T 3 v L.length (Bi L)):
  Calls prog 55 #[v,.func (.func 56) #[] #[]] w λ e w'=>e=.returned v/\w'.ownsRow base T 3 v L.length (Bi (BN C L))/\Kp (λ k=>v.ownBlock=some k) w w':=by
 have d:=sE (SortS_of i l b)
 obtain⟨a,c,rfl⟩:=Aq b
 obtain⟨n,j⟩:∃ n,L.length=n:=⟨_,rfl⟩
 rw[j] at d ⊢
 clear b l i j
 go_enter func55,ntmps55
 go_wp2_with fail
 refine d.o.mono ?_
 rintro e w2 ⟨⟨u,rfl⟩,f,m⟩
 have p:=sE (And.intro f m)
 clear f m
 go_wp2
 go_ret
 exact⟨rfl,p.o⟩

theorem ByS_few{base:Nat}{v:Value}{L:List T3}{w:World}(b:OrdC C)(d:∀ x y a,Calls prog 56 #[Ej x,Ej y] a (RK (.int .i64 (C x y)) a))(f:L.length<=19)(c:w.ownsRow base T 3 v L.length (Bi L)):
  Calls prog 55 #[v,.func (.func 56) #[] #[]] w λ e w'=>e=.returned v/\w'.ownsRow base T 3 v L.length (Bi (BN C L))/\Kp (λ k=>v.ownBlock=some k) w w':=
 ByS_of b (λ g=>StableS_few b d f g) c

end

end

end Go.Proofs.YtfkedlgpgmaemaaGreatDoor
