/-
  Lemmas for the laws, together: StJ.
-/
import Derived.Test.YtfkedlgpgmaemaaGreatDoorProg
import Derived.Test.YtfkedlgpgmaemaaGreatDoorQbm
import Derived.BigGuard
import Derived.BigCall
import Derived.CellFam
import Derived.Deep.Draws
set_option linter.unusedVariables false
set_option maxHeartbeats 16000000
namespace Go.Proofs.YtfkedlgpgmaemaaGreatDoor
open Tryz
section
open Go.RowKit

section

variable {s b T n cap:Nat} {F:Nat->T3} {w:World}

theorem SwrK_at(fn:Value){p q k:Nat}(h:AV s b T n F w)(hpq:p+k<=q)(hq:q+k<=n)(hn:n<1152921504606846976):
  Calls prog 227 #[.slice (some ⟨b,0,none⟩) n cap,.int .i64 (p:Nat),.int .i64 (q:Nat),.int .i64 (k:Nat),fn] w λ e w'=>(∃ u,e=.returned u)/\BB s b T n (λ G=>G=swrF F p q k) w w':=by
 have H0:=sE h
 clear h
 go_enter func227,ntmps227
 go_wp2_with fail
 go_loopw [10] (λ vi wr=>∃ (i:Nat),vi=.int .i64 (i:Nat)/\i<=k/\Sl (BB s b T n (λ G=>G=swrF F p q i) w wr)) (λ vi _=>k-(intOf vi).toNat)
 case atStart=>exact ⟨0,rfl,by omega,⟨F,H0.out,swr_zero.symm,Kr _ _⟩⟩
 case round=>
  obtain⟨i,rfl,hik,HS⟩:=hrel
  obtain⟨dk,hR,hG,hK⟩:=HS.out
  have HR:=sE hR
  have HG:=sE hG
  have HK:=sE hK
  clear hR hG hK HS
  by_cases hlt:i<k
  .have hlt':(i:Int)<(k:Int):=by omega
   obtain⟨y0,y1,y2⟩:=HR.out.cells (i:=p+i) (by omega)
   obtain⟨x0,x1,x2⟩:=HR.out.cells (i:=q+i) (by omega)
   have hfz:=HR.out.warm
   have u1:IntKind.i64.wrap ((p:Int)+(i:Int))=((p+i:Nat):Int):=by rw[IntKind.wrap_i64];omega
   have u2:IntKind.i64.wrap ((q:Int)+(i:Int))=((q+i:Nat):Int):=by rw[IntKind.wrap_i64];omega
   have p0:((p+i:Nat):Int)<(n:Int):=by omega
   have p1:((q+i:Nat):Int)<(n:Int):=by omega
   go_wp2_with fail
   go_region
   all_goals go_wp2
   go_roundw
   case rel=>exact ⟨i+1,by go_num,by omega,⟨_,(HR.out.swap (i:=p+i) (j:=q+i) (by omega) (by omega) (Kr Aa _)).drew,by rw[HG.out];exact swr_step (by omega),(AV.kswap HK.out ..).drew⟩⟩
   case measure=>simp [intOf];omega
  .have hlt':¬ (i:Int)<(k:Int):=by omega
   obtain rfl:i=k:=by omega
   go_wp2
   refine bodyPost_end (results_none rfl _ _ _) rfl ?_
   exact⟨⟨_,rfl⟩,dk,HR.out,HG.out,HK.out⟩

theorem RotK_at(fn:Value){a m z:Nat}(h:AV s b T n F w)(ha:a<m)(hm:m<z)(hz:z<=n)(hn:n<1152921504606846976):
  Calls prog 222 #[.slice (some ⟨b,0,none⟩) n cap,.int .i64 (a:Nat),.int .i64 (m:Nat),.int .i64 (z:Nat),fn] w λ e w'=>(∃ u,e=.returned u)/\BB s b T n (λ G=>G=A9 F a m z) w w':=by
 have H0:=sE h
 clear h
 have v1:IntKind.i64.wrap ((m:Int)-(a:Int))=((m-a:Nat):Int):=by rw[IntKind.wrap_i64];omega
 have v2:IntKind.i64.wrap ((z:Int)-(m:Int))=((z-m:Nat):Int):=by rw[IntKind.wrap_i64];omega
 go_enter func222,ntmps222
 go_wp2_with fail
 go_loopw [10,11] (λ vi vj wr=>∃ (i j:Nat),vi=.int .i64 (i:Nat)/\vj=.int .i64 (j:Nat)/\0<i/\0<j/\i<=m/\m+j<=n/\Sl (BB s b T n (λ G=>A9 G (m-i) m (m+j)=A9 F a m z) w wr)) (λ vi vj _=>(intOf vi).toNat+(intOf vj).toNat)
 case atStart=>exact ⟨m-a,z-m,rfl,rfl,by omega,by omega,by omega,by omega,⟨F,H0.out,by rw[show m-(m-a)=a by omega,show m+(z-m)=z by omega],Kr _ _⟩⟩
 case round=>
  obtain⟨i,j,rfl,rfl,hi,hj,him,hjn,HS⟩:=hrel
  obtain⟨dk,hR,hG,hK⟩:=HS.out
  have HR:=sE hR
  have HG:=sE hG
  have HK:=sE hK
  clear hR hG hK HS v1 v2
  have u1:IntKind.i64.wrap ((m:Int)-(i:Int))=((m-i:Nat):Int):=by rw[IntKind.wrap_i64];omega
  by_cases hne:i=j
  .subst hne
   have e1:((i:Int) !=(i:Int))=false:=by simp
   go_wp2_with fail
   refine(SwrK_at fn (p:=m-i) (q:=m) (k:=i) HR.out (by omega) (by omega) hn).mono ?_
   rintro e w2 ⟨⟨u,rfl⟩,G2,r2,rfl,k2⟩
   go_wp2
   refine bodyPost_end (results_none rfl _ _ _) rfl ?_
   exact⟨⟨_,rfl⟩,_,r2,by rw[rot_eq (by omega)];exact HG.out,HK.out.trans k2 (λ _ _ h=>h)⟩
  .have e1:((i:Int) !=(j:Int))=true:=by simp;omega
   by_cases hgt:j<i
   .have hgt':(j:Int)<(i:Int):=by omega
    have u2:IntKind.i64.wrap ((i:Int)-(j:Int))=((i-j:Nat):Int):=by rw[IntKind.wrap_i64];omega
    go_wp2_with fail
    refine(SwrK_at fn (p:=m-i) (q:=m) (k:=j) HR.out (by omega) (by omega) hn).mono ?_
    rintro e w2 ⟨⟨u,rfl⟩,G2,r2,rfl,k2⟩
    have HR2:=sE r2
    have HK2:Sl (Kp (λ k=>k=b) w w2):=⟨HK.out.trans k2 (λ _ _ h=>h)⟩
    clear r2 k2
    go_wp2
    refine⟨⟨i-j,j,rfl,rfl,by omega,by omega,by omega,by omega,⟨_,HR2.out,?_,HK2.out⟩⟩,by simp only[intOf];omega⟩
    rw[<- HG.out,show m-(i-j)=m-i+j by omega]
    exact rot_gt (by omega)
   .have hgt':¬ (j:Int)<(i:Int):=by omega
    have u2:IntKind.i64.wrap ((j:Int)-(i:Int))=((j-i:Nat):Int):=by rw[IntKind.wrap_i64];omega
    have u3:IntKind.i64.wrap ((m:Int)+(j:Int))=(m:Int)+(j:Int):=by rw[IntKind.wrap_i64];omega
    have u4:IntKind.i64.wrap ((m:Int)+(j:Int)-(i:Int))=((m+j-i:Nat):Int):=by rw[IntKind.wrap_i64];omega
    go_wp2_with fail
    refine(SwrK_at fn (p:=m-i) (q:=m+j-i) (k:=i) HR.out (by omega) (by omega) hn).mono ?_
    rintro e w2 ⟨⟨u,rfl⟩,G2,r2,rfl,k2⟩
    have HR2:=sE r2
    have HK2:Sl (Kp (λ k=>k=b) w w2):=⟨HK.out.trans k2 (λ _ _ h=>h)⟩
    clear r2 k2
    go_wp2
    refine⟨⟨i,j-i,rfl,rfl,by omega,by omega,by omega,by omega,⟨_,HR2.out,?_,HK2.out⟩⟩,by simp only[intOf];omega⟩
    have:=rot_lt (F:=dk) (p:=m-i) (m:=m) (j:=j) (by omega) (by omega)
    rw[show m-(m-i)=i by omega,show m+j-i=m+(j-i) by omega] at this
    rw[<- HG.out,show m+j-i=m+(j-i) by omega]
    exact this

end

end

end Go.Proofs.YtfkedlgpgmaemaaGreatDoor
