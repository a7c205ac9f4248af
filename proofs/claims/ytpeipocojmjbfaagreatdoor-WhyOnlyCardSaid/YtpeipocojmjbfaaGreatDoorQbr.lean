/-
  Lemmas for the laws, together: WhyE.
-/
import Derived.Test.YtpeipocojmjbfaaGreatDoorQbi
import Derived.Test.YtpeipocojmjbfaaGreatDoorQay
set_option linter.unusedVariables false
set_option maxHeartbeats 16000000
namespace Go.Proofs.YtpeipocojmjbfaaGreatDoor
open Tryz
section
open Go.RowKit

theorem mem_edges{ts:List TypR}{W:Nat->Nat}{cs:List Cel}{e:Nat×Nat×Nat}:e∈AX ts W cs ↔ ∃ c∈cs,c.tag=1/\∃ s∈Ci ts c,e.1=c.g/\e.2.1=s/\tgt cs (W (2*c.g+1+s))=(e.2.2:Int):=by
 unfold AX BK
 rw[List.mem_flatMap]
 constructor
 .rintro ⟨x,hx,hy⟩
  obtain⟨c,hm,s,hs,rfl⟩:=mem_refsW.1 hx
  obtain⟨h0,rfl⟩:=mem_edgeOf.1 hy
  obtain⟨h1,h2⟩:=Cg.1 hm
  exact⟨c,h1,h2,s,hs,rfl,rfl,by dsimp only;rw [Int.toNat_of_nonneg h0]⟩
 .rintro ⟨c,h1,h2,s,hs,e1,e2,ht⟩
  refine⟨(c.g,s,W (2*c.g+1+s)),mem_refsW.2 ⟨c,Cg.2 ⟨h1,h2⟩,s,hs,rfl⟩,mem_edgeOf.2 ⟨by dsimp only;rw [ht];omega,?_⟩⟩
  obtain⟨a,b,d⟩:=e
  dsimp only at e1 e2 ht ⊢
  rw[ht,Int.toNat_natCast,e1,e2]

theorem refsC_in{P:Sp}{W:Nat->Nat}{cs:List Cel}{c:Cel}{s:Nat}(h:CellsAt P W cs)(hc:c∈cs)(h1:c.tag=1)(hs:s∈Ci P.ts c):2*c.g<2*c.g+1+s/\2*c.g+1+s<2*c.fin/\2*c.g+1+s<P.n:=by
 unfold Ci at hs
 cases ht:typeOf P.ts (c.ty:Nat) with
 |none=>rw [ht] at hs;cases hs
 |some x=>
  rw[ht] at hs
  obtain⟨k,wds,m⟩:=x
  exact slot_in h hc h1 ht (EW (kind_of h hc h1 ht) hs)

theorem cell_apart{P:Sp}{W:Nat->Nat}{cs:List Cel}(h:CellsAt P W cs){c d:Cel}(hc:c∈cs)(hd:d∈cs){k:Nat}(h1:2*c.g<k)(h2:k<2*c.fin)(h3:2*d.g<k)(h4:k<2*d.fin):c=d:=cell_only (j:=k/2) h.tl hc hd (by omega) (by omega) (by omega) (by omega)

theorem tgt_small{cs:List Cel}{y k:Nat}(hy:y<1048576):¬ tgt cs y=(k:Int):=λ h=>by
 obtain⟨z,hz⟩:∃ z,y-1048576=z:=⟨_,rfl⟩
 have:=((tgt_yes' hz).1 h).1
 omega

theorem tgt_zero(cs:List Cel)(k:Nat):¬ tgt cs 0=(k:Int):=tgt_small (by omega)

theorem edges_less{P:Sp}{W:Nat->Nat}{cs:List Cel}(h:CellsAt P W cs){x:Nat×Nat×Nat}(hx:x∈AX P.ts W cs)(e:Nat×Nat×Nat):e∈AX P.ts (CE W (2*x.1+1+x.2.1) 0) cs ↔ e∈AX P.ts W cs/\¬ e=x:=by
 obtain⟨c,hc,ht,s,hs,x1,x2,xt⟩:=mem_edges.1 hx
 have hsl:=refsC_in h hc ht hs
 rw[mem_edges,mem_edges,x1,x2]
 constructor
 .rintro ⟨d,hd,dt,r,hr,e1,e2,et⟩
  by_cases ha:2*d.g+1+r=2*c.g+1+s
  .rw [ha] at et
   unfold CE at et
   rw[if_pos rfl] at et
   exact absurd et (tgt_zero _ _)
  .unfold CE at et
   rw[if_neg ha] at et
   refine⟨⟨d,hd,dt,r,hr,e1,e2,et⟩,λ q=>ha ?_⟩
   rw[q] at e1 e2
   rw[x1] at e1
   rw[x2] at e2
   omega
 .rintro ⟨⟨d,hd,dt,r,hr,e1,e2,et⟩,hne⟩
  refine⟨d,hd,dt,r,hr,e1,e2,?_⟩
  have ha:¬ 2*d.g+1+r=2*c.g+1+s:=λ ha=>by
   have hdl:=refsC_in h hd dt hr
   obtain rfl:c=d:=cell_apart h hc hd hsl.1 hsl.2.1 (by omega) (by omega)
   have:r=s:=by omega
   subst this
   rw[xt] at et
   apply hne
   obtain⟨a,b,z⟩:=e
   obtain⟨a',b',z'⟩:=x
   dsimp only at e1 e2 et x1 x2
   rw[e1,e2,x1,x2,show z=z' by omega]
  unfold CE
  rw[if_neg ha]
  exact et

theorem reach_congr{es es':List (Nat×Nat×Nat)}(h:∀ e,e∈es ↔ e∈es')(rs:List Nat)(g:Nat):Bz es rs g ↔ Bz es' rs g:=
 ⟨λ ⟨n,hn⟩=>⟨n,hn.mono λ e he=>(h e).1 he⟩,λ ⟨n,hn⟩=>⟨n,hn.mono λ e he=>(h e).2 he⟩⟩

end

end Go.Proofs.YtpeipocojmjbfaaGreatDoor
