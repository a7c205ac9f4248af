/-
  Lemmas for the laws, together: SsJ.
-/
import Derived.Test.YtfkedlgpgmaemaaGreatDoorProg
import Derived.Test.YtfkedlgpgmaemaaGreatDoorQbl
import Derived.BigGuard
import Derived.BigCall
import Derived.CellFam
import Derived.Deep.Draws
set_option linter.unusedVariables false
set_option maxHeartbeats 16000000
namespace Go.Proofs.YtfkedlgpgmaemaaGreatDoor
open Tryz
section
open Go.RowKit

section

variable {s b T n cap:Nat} {F:Nat->T3} {w:World}

theorem SwrS_at(fn:Value){p q k:Nat}(l:Bn s b T n F w)(B:p+k<=q)(C:q+k<=n)(A:n<1152921504606846976):
  Calls prog 226 #[.slice (some ⟨b,0,none⟩) n cap,p,q,k,fn] w λ e w'=>(∃ u,e=.returned u)/\Cc s b T n (λ G=>G=swrF F p q k) w w':=by
 have t:=sE l
 clear l
 go_enter func226,ntmps226
 go_wp2_with fail
 go_loopw [10] (λ c wr=>∃ (i:Nat),c=.int .i64 i/\i<=k/\Sl (Cc s b T n (λ G=>G=swrF F p q i) w wr)) (λ c _=>k-(intOf c).toNat)
 case atStart=>exact ⟨0,rfl,by omega,⟨F,t.o,swr_zero.symm,Kr _ _⟩⟩
 case round=>
  obtain⟨i,rfl,z,g⟩:=hrel
  obtain⟨v,r,m,hK⟩:=g.o
  have a:=sE r
  have d:=sE m
  have f:=sE hK
  clear r m hK g
  by_cases hlt:i<k
  .have x:(i:Int)<(k:Int):=by omega
   obtain⟨H,I,J⟩:=a.o.cells (i:=p+i) (by omega)
   obtain⟨x0,x1,x2⟩:=a.o.cells (i:=q+i) (by omega)
   have y:=a.o.warm
   have u1:IntKind.i64.wrap ((p:Int)+(i:Int))=((p+i:Nat):Int):=by rw[IntKind.wrap_i64];omega
   have u2:IntKind.i64.wrap ((q:Int)+(i:Int))=((q+i:Nat):Int):=by rw[IntKind.wrap_i64];omega
   have D:((p+i:Nat):Int)<(n:Int):=by omega
   have E:((q+i:Nat):Int)<(n:Int):=by omega
   go_wp2_with fail
   go_region
   all_goals go_wp2
   go_roundw
   case rel=>exact ⟨i+1,by go_num,by omega,⟨_,(a.o.swap (i:=p+i) (j:=q+i) (by omega) (by omega) (Kr Aa _)).drew,by rw[d.o];exact swr_step (by omega),(Bn.kswap f.o ..).drew⟩⟩
   case measure=>simp [intOf];omega
  .have x:¬ (i:Int)<(k:Int):=by omega
   obtain rfl:i=k:=by omega
   go_wp2
   refine bodyPost_end (results_none rfl _ _ _) rfl ?_
   exact⟨⟨_,rfl⟩,v,a.o,d.o,f.o⟩

theorem RotS_at(fn:Value){a m z:Nat}(c:Bn s b T n F w)(N:a<m)(S:m<z)(U:z<=n)(x:n<1152921504606846976):
  Calls prog 221 #[.slice (some ⟨b,0,none⟩) n cap,a,m,z,fn] w λ e w'=>(∃ u,e=.returned u)/\Cc s b T n (λ G=>G=Bh F a m z) w w':=by
 have H:=sE c
 clear c
 have L:IntKind.i64.wrap ((m:Int)-(a:Int))=((m-a:Nat):Int):=by rw[IntKind.wrap_i64];omega
 have M:IntKind.i64.wrap ((z:Int)-(m:Int))=((z-m:Nat):Int):=by rw[IntKind.wrap_i64];omega
 go_enter func221,ntmps221
 go_wp2_with fail
 go_loopw [10,11] (λ y A wr=>∃ (i j:Nat),y=.int .i64 i/\A=.int .i64 j/\0<i/\0<j/\i<=m/\m+j<=n/\Sl (Cc s b T n (λ G=>Bh G (m-i) m (m+j)=Bh F a m z) w wr)) (λ y A _=>(intOf y).toNat+(intOf A).toNat)
 case atStart=>exact ⟨m-a,z-m,rfl,rfl,by omega,by omega,by omega,by omega,⟨F,H.o,by rw[show m-(m-a)=a by omega,show m+(z-m)=z by omega],Kr _ _⟩⟩
 case round=>
  obtain⟨i,j,rfl,rfl,O,Q,P,R,C⟩:=hrel
  obtain⟨I,E,D,hK⟩:=C.o
  have t:=sE E
  have g:=sE D
  have l:=sE hK
  clear E D hK C L M
  have u1:IntKind.i64.wrap ((m:Int)-(i:Int))=((m-i:Nat):Int):=by rw[IntKind.wrap_i64];omega
  by_cases hne:i=j
  .subst hne
   have J:((i:Int) !=(i:Int))=false:=by simp
   go_wp2_with fail
   refine(SwrS_at fn (p:=m-i) (q:=m) (k:=i) t.o (by omega) (by omega) x).mono ?_
   rintro e w2 ⟨⟨u,rfl⟩,B,f,rfl,d⟩
   go_wp2
   refine bodyPost_end (results_none rfl _ _ _) rfl ?_
   exact⟨⟨_,rfl⟩,_,f,by rw[rot_eq (by omega)];exact g.o,l.o.trans d (λ _ _ c=>c)⟩
  .have J:((i:Int) !=(j:Int))=true:=by simp;omega
   by_cases hgt:j<i
   .have K:(j:Int)<(i:Int):=by omega
    have u2:IntKind.i64.wrap ((i:Int)-(j:Int))=((i-j:Nat):Int):=by rw[IntKind.wrap_i64];omega
    go_wp2_with fail
    refine(SwrS_at fn (p:=m-i) (q:=m) (k:=j) t.o (by omega) (by omega) x).mono ?_
    rintro e w2 ⟨⟨u,rfl⟩,B,f,rfl,d⟩
    have v:=sE f
    have r:Sl (Kp (λ k=>k=b) w w2):=⟨l.o.trans d (λ _ _ c=>c)⟩
    clear f d
    go_wp2
    refine⟨⟨i-j,j,rfl,rfl,by omega,by omega,by omega,by omega,⟨_,v.o,?_,r.o⟩⟩,by simp only[intOf];omega⟩
    rw[<- g.o,show m-(i-j)=m-i+j by omega]
    exact rot_gt (by omega)
   .have K:¬ (j:Int)<(i:Int):=by omega
    have u2:IntKind.i64.wrap ((j:Int)-(i:Int))=((j-i:Nat):Int):=by rw[IntKind.wrap_i64];omega
    have u3:IntKind.i64.wrap ((m:Int)+(j:Int))=(m:Int)+(j:Int):=by rw[IntKind.wrap_i64];omega
    have u4:IntKind.i64.wrap ((m:Int)+(j:Int)-(i:Int))=((m+j-i:Nat):Int):=by rw[IntKind.wrap_i64];omega
    go_wp2_with fail
    refine(SwrS_at fn (p:=m-i) (q:=m+j-i) (k:=i) t.o (by omega) (by omega) x).mono ?_
    rintro e w2 ⟨⟨u,rfl⟩,B,f,rfl,d⟩
    have v:=sE f
    have r:Sl (Kp (λ k=>k=b) w w2):=⟨l.o.trans d (λ _ _ c=>c)⟩
    clear f d
    go_wp2
    refine⟨⟨i,j-i,rfl,rfl,by omega,by omega,by omega,by omega,⟨_,v.o,?_,r.o⟩⟩,by simp only[intOf];omega⟩
    have:=rot_lt (F:=I) (p:=m-i) (m:=m) (j:=j) (by omega) (by omega)
    rw[show m-(m-i)=i by omega,show m+j-i=m+(j-i) by omega] at this
    rw[<- g.o,show m+j-i=m+(j-i) by omega]
    exact this

end

end

end Go.Proofs.YtfkedlgpgmaemaaGreatDoor
