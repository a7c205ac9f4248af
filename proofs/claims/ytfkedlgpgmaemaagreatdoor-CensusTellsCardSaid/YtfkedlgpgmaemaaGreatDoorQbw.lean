/-
  Lemmas for the laws, together: CenTy.
-/
import Derived.Test.YtfkedlgpgmaemaaGreatDoorQbt
import Derived.Test.YtfkedlgpgmaemaaGreatDoorQbs
set_option linter.unusedVariables false
set_option maxHeartbeats 16000000
namespace Go.Proofs.YtfkedlgpgmaemaaGreatDoor
open Tryz
section
open Go.RowKit

theorem sortsS_all:SortsS 65536:=λ w base v L j s=>by
 have c:=sortC_perm typeC (L.map toI)
 have p:=Fu typeC_ord (L.map toI)
 have k:((BN typeC (L.map toI)).map frI).map toI=BN typeC (L.map toI):=by
  rw[List.map_map]
  refine(List.map_congr_left (g:=id) λ x q=>?_).trans (List.map_id _)
  obtain⟨y,-,rfl⟩:=List.mem_map.1 (c.mem_iff.1 q)
  rfl
 have d:(L.map toI).length=L.length:=List.length_map _
 refine(ByS_at (base:=base) (v:=v) (L:=L.map toI) (w:=w) typeC_ord TypeCmp_at (by rw[d];omega) (by rw[d,<- ES];exact j)).mono ?_
 rintro e w' ⟨n,i,o⟩
 rw[d] at i
 refine⟨n,(BN typeC (L.map toI)).map frI,?_,?_,?_,o⟩
 .have:=c.map frI
  rwa [frI_toI] at this
 .rw [List.pairwise_map]
  refine p.imp_of_mem λ {a b} l m f=>?_
  obtain⟨x,-,rfl⟩:=List.mem_map.1 (c.mem_iff.1 l)
  obtain⟨y,-,rfl⟩:=List.mem_map.1 (c.mem_iff.1 m)
  rw[typeC_lt] at f
  show(x.1:Int).toNat<=(y.1:Int).toNat
  have r:¬ (y.1:Int)<(x.1:Int):=f
  omega
 .rw [ES,k]
  exact i

theorem CTypes_all(P:Sp)(W:Nat->Nat)(f:Nat->Bool)(w:World)(cs:List Cel)(o:SpaceAt w P W f)(d:CellsAt P W cs)(k:cs≠[])(p:∀ i,i<P.n/2->f i=Ak cs i)(e:∀ x∈P.ts,x.m<18446744073709551616)(v:Value)(xs:List Nat)(r:AO w v xs)(y:∀ g∈xs,CL cs g)(u:xs.length<=65536)
  (b:∀ c∈Aj cs,c.ty<65536):
  Calls prog 14 #[.pointer (some P.s),v] w (TypesPost (Aj cs) (AP P.ts W cs) (P.n/2) xs w):=
 CTypes_at P W f w cs o d k p e v xs r y u b 65536 sortsS_all λ z j l=>FX 65536 z j λ t q=>by
  obtain⟨x,-,rfl⟩:=l t q
  rcases FU (os:=Aj cs) (x:=x) with ⟨a,-⟩|⟨a,-⟩
  .exact b _ a
  .rw [a];decide

end

end Go.Proofs.YtfkedlgpgmaemaaGreatDoor
