/-
  Lemmas for the laws, together: SsN.
-/
import Derived.Test.YtfkedlgpgmaemaaGreatDoorQbr
import Derived.Test.YtfkedlgpgmaemaaGreatDoorQbm
set_option linter.unusedVariables false
set_option maxHeartbeats 16000000
namespace Go.Proofs.YtfkedlgpgmaemaaGreatDoor
open Tryz
section
open Go.RowKit

section

variable {C:T3->T3->Int} {s b T n cap:Nat}

theorem StableS_at{F:Nat->T3}{w:World}(O:OrdC C)(R:∀ x y Y,Calls prog 56 #[Ej x,Ej y] Y (RK (.int .i64 (C x y)) Y))(a3:n<1152921504606846976)(q:Bn s b T n F w):
  Calls prog 163 #[.slice (some ⟨b,0,none⟩) n cap,n,.func (.func 56) #[] #[]] w λ e w'=>(∃ u,e=.returned u)/\Cc s b T n (λ G=>Stab C 0 n F G/\Al C 0 n G) w w':=by
 have a4:=sE q
 have U:Sl (∀ {F:Nat->T3} {w:World} {a z:Nat},Bn s b T n F w->a<=z->z<=n->_):=⟨λ {F w a z} r a5 a6=>InsS_at (cap:=cap) O R (F:=F) (w:=w) (a:=a) (z:=z) r a5 a6 a3⟩
 have X:Sl (∀ {a m z:Nat} {F:Nat->T3} {w:World},Bn s b T n F w->a<m->m<z->z<=n->Al C a m F->Al C m z F->_):=⟨λ {a m z F w}=>SymS_at (cap:=cap) O R a3 (z-a) (a:=a) (m:=m) (z:=z) (F:=F) (w:=w) (Nat.le_refl _)⟩
 clear q R
 have a9:=sE O
 clear O
 go_enter func163,ntmps163
 go_wp2_with fail
 go_loopw [7,8] (λ x7 x8 wr=>∃ c:Nat,x7=.int .i64 c/\x8=.int .i64 ((c+20:Nat):Int)/\c<=n/\Sl (∃ k,c=k*20)/\Sl (Cc s b T n (λ G=>Stab C 0 n F G/\DL C 20 0 c G) w wr)) (λ x7 _ _=>n+1-(intOf x7).toNat)
 case atStart=>exact ⟨0,rfl,rfl,Nat.zero_le _,⟨0,rfl⟩,⟨F,a4.o,⟨.refl,DL.none C 20 F⟩,Kr _ _⟩⟩
 case round=>
  obtain⟨c,rfl,rfl,Z,l,J⟩:=hrel
  obtain⟨G,v,⟨A,t⟩,hK⟩:=J.o
  have H:=sE v
  have I:=sE A
  have D:=sE t
  have E:=sE hK
  clear v A t hK J
  by_cases hle:c+20<=n
  .have P:(c:Int)+20<=(n:Int):=by omega
   have u1:IntKind.i64.wrap ((c:Int)+20+20)=(c:Int)+20+20:=by rw[IntKind.wrap_i64];omega
   go_wp2_with fail
   refine(U.o (a:=c) (z:=c+20) H.o (by omega) hle).mono ?_
   rintro e w2 ⟨⟨u,rfl⟩,B,j,⟨f,i⟩,g⟩
   have Q:Sl (∃ k,c+20=k*20):=⟨by obtain⟨k,K⟩:=l.o;exact ⟨k+1,by omega⟩⟩
   have p:Sl (Cc s b T n (λ G=>Stab C 0 n F G/\DL C 20 0 (c+20) G) w w2):=⟨B,j,⟨I.o.trans (f.mono (Nat.zero_le _) hle),by
    obtain⟨k,rfl⟩:=l.o
    exact D.o.ins f i⟩,E.o.trans g (λ _ _ q=>q)⟩
   clear j f i g
   go_wp2
   exact⟨⟨c+20,by go_num,by go_num,hle,Q,p⟩,by simp only[intOf];omega⟩
  .have P:¬ (c:Int)+20<=(n:Int):=by omega
   go_wp2_with fail
   refine(U.o (a:=c) (z:=n) H.o Z (Nat.le_refl _)).mono ?_
   rintro e w2 ⟨⟨u,rfl⟩,B,j,⟨f,i⟩,g⟩
   have p:Sl (Cc s b T n (λ G=>Stab C 0 n F G/\DL C 20 0 n G) w w2):=⟨B,j,⟨I.o.trans (f.mono (Nat.zero_le _) (Nat.le_refl _)),by
    obtain⟨k,rfl⟩:=l.o
    exact D.o.ins f i⟩,E.o.trans g (λ _ _ q=>q)⟩
   clear j f i g H I D E hle P
   go_wp2_with fail
   go_loopw [6,7,8,9] (λ x6 _ _ _ wr=>∃ S:Nat,x6=.int .i64 S/\20<=S/\S<=2*n+20/\Sl (Cc s b T n (λ G=>Stab C 0 n F G/\DL C S 0 n G) w wr)) (λ x6 _ _ _ _=>2*n+41-(intOf x6).toNat)
   case atStart=>exact ⟨20,rfl,Nat.le_refl _,by omega,p⟩
   case round=>
    obtain⟨S,rfl,b2,b3,J⟩:=hrel
    clear p
    by_cases hlt:S<n
    .have a7:(S:Int)<(n:Int):=by omega
     obtain⟨d,b0,a1⟩:∃ d:Nat,(2:Int)*(S:Int)=(d:Int)/\d=2*S:=⟨2*S,by omega,rfl⟩
     have u1:IntKind.i64.wrap (d:Int)=(d:Int):=by rw[IntKind.wrap_i64];omega
     have L:=sE a1
     have b1:d<=2*n:=by omega
     have a2:S+S=d:=by omega
     have W:=sE a2
     clear a1 a2
     go_wp2_with fail
     go_loopw [7,8] (λ x7 x8 wr=>∃ c:Nat,x7=.int .i64 c/\x8=.int .i64 ((c+d:Nat):Int)/\c<=n/\Sl (∃ k,c=k*(2*S))/\Sl (Cc s b T n (λ G=>Stab C 0 n F G/\DL C (2*S) 0 c G/\DL C S c n G) w wr)) (λ x7 _ _=>n+1-(intOf x7).toNat)
     case atStart=>
      obtain⟨G,v,⟨A,t⟩,hK⟩:=J.o
      exact⟨0,rfl,by go_num,Nat.zero_le _,⟨0,by omega⟩,⟨G,v,⟨A,DL.none C (2*S) G,t⟩,hK⟩⟩
     case round=>
      obtain⟨c,rfl,rfl,Z,l,V⟩:=hrel
      clear J
      obtain⟨G,v,⟨A,t,a0⟩,hK⟩:=V.o
      have H:=sE v
      have I:=sE A
      have D:=sE t
      have N:=sE a0
      have E:=sE hK
      clear v A t a0 hK V
      have u2:IntKind.i64.wrap ((c:Int)+(S:Int))=((c+S:Nat):Int):=by rw[IntKind.wrap_i64];omega
      by_cases hle:c+d<=n
      .have P:(c:Int)+(d:Int)<=(n:Int):=by omega
       have u3:IntKind.i64.wrap ((c:Int)+(d:Int)+(d:Int))=(c:Int)+(d:Int)+(d:Int):=by rw[IntKind.wrap_i64];omega
       have M:Sl (Al C c (c+S) G/\Al C (c+S) (c+d) G):=⟨by
        obtain⟨k,K⟩:=l.o
        exact N.o.two K (by have:=W.o;omega) (by have:=L.o;omega) hle⟩
       go_wp2_with fail
       refine(X.o (a:=c) (m:=c+S) (z:=c+d) H.o (by omega) (by have:=W.o;omega) hle M.o.1 M.o.2).mono ?_
       rintro e w2 ⟨⟨u,rfl⟩,B,j,⟨f,i⟩,g⟩
       have Q:Sl (∃ k,c+d=k*(2*S)):=⟨by
        obtain⟨k,K⟩:=l.o
        exact⟨k+1,by rw[Nat.succ_mul,K,L.o]⟩⟩
       have p:Sl (Cc s b T n (λ G=>Stab C 0 n F G/\DL C (2*S) 0 (c+d) G/\DL C S (c+d) n G) w w2):=⟨B,j,⟨I.o.trans (f.mono (Nat.zero_le _) hle),by
        obtain⟨k,rfl⟩:=l.o
        exact D.o.ins f i,N.o.rest f (by omega)⟩,E.o.trans g (λ _ _ q=>q)⟩
       clear j f i g
       go_wp2
       exact⟨⟨c+d,by go_num,by go_num,hle,Q,p⟩,by simp only[intOf];omega⟩
      .have P:¬ (c:Int)+(d:Int)<=(n:Int):=by omega
       by_cases hm:c+S<n
       .have a8:(c:Int)+(S:Int)<(n:Int):=by omega
        have M:Sl (Al C c (c+S) G/\Al C (c+S) n G):=⟨by
         obtain⟨k,K⟩:=l.o
         exact N.o.two K (by omega) (by have:=L.o;omega) (Nat.le_refl _)⟩
        go_wp2_with fail
        refine(X.o (a:=c) (m:=c+S) (z:=n) H.o (by omega) hm (Nat.le_refl _) M.o.1 M.o.2).mono ?_
        rintro e w2 ⟨⟨u,rfl⟩,B,j,⟨f,i⟩,g⟩
        have p:Sl (Cc s b T n (λ G=>Stab C 0 n F G/\DL C d 0 n G) w w2):=⟨B,j,⟨I.o.trans (f.mono (Nat.zero_le _) (Nat.le_refl _)),by
         obtain⟨k,rfl⟩:=l.o
         rw[L.o]
         exact D.o.ins f i⟩,E.o.trans g (λ _ _ q=>q)⟩
        clear j f i g
        go_wp2
        exact⟨⟨d,by first|rfl|(congr 1;omega),by omega,by omega,p⟩,by simp only[intOf];omega⟩
       .have a8:¬ (c:Int)+(S:Int)<(n:Int):=by omega
        have p:Sl (Cc s b T n (λ G=>Stab C 0 n F G/\DL C d 0 n G) w wr):=⟨G,H.o,⟨I.o,by
         obtain⟨k,rfl⟩:=l.o
         rw[L.o]
         exact D.o.tail N.o (by omega)⟩,E.o⟩
        go_wp2
        exact⟨⟨d,by first|rfl|(congr 1;omega),by omega,by omega,p⟩,by simp only[intOf];omega⟩
    .have a7:¬ (S:Int)<(n:Int):=by omega
     go_wp2
     refine bodyPost_end (results_none rfl _ _ _) rfl ?_
     obtain⟨G,v,⟨A,t⟩,hK⟩:=J.o
     exact⟨⟨_,rfl⟩,G,v,⟨A,t.all (by omega)⟩,hK⟩

theorem ByS_at{base:Nat}{v:Value}{L:List T3}{w:World}(b:OrdC C)(d:∀ x y a,Calls prog 56 #[Ej x,Ej y] a (RK (.int .i64 (C x y)) a))(f:L.length<1152921504606846976)(c:w.ownsRow base T 3 v L.length (Bi L)):
  Calls prog 55 #[v,.func (.func 56) #[] #[]] w λ e w'=>e=.returned v/\w'.ownsRow base T 3 v L.length (Bi (BN C L))/\Kp (λ k=>v.ownBlock=some k) w w':=
 ByS_of b (λ g=>StableS_at b d f g) c

end

end

end Go.Proofs.YtfkedlgpgmaemaaGreatDoor
