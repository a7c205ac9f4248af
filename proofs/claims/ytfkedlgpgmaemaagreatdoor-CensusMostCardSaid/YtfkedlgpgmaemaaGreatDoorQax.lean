/-
  Lemmas for the laws, together: FindB, Ints.
-/
import Derived.Test.YtfkedlgpgmaemaaGreatDoorQan
import Derived.Test.YtfkedlgpgmaemaaGreatDoorQaw
set_option linter.unusedVariables false
set_option maxHeartbeats 16000000
namespace Go.Proofs.YtfkedlgpgmaemaaGreatDoor
open Tryz
section
open Go.RowKit

theorem Kp.new'{w w':World}(h:Kp (λ k=>w.heap.size<=k) w w'):Kp Aa w w':=h.mono (λ i hi hp=>by omega)

end

section
open Go.RowKit

def SameB(la lb:Nat)(x y:Nat->Nat->Int):Bool:=decide (la=lb/\∀ i,i<la->x i 0=y i 0)

theorem SameInts_at(la lb:Nat)(x y:Nat->Nat->Int)(v u:Value)(w:World)(hv:Bw 1 w v la x)(hu:Bw 1 w u lb y)(hl:la<=9223372036854775806):
  Calls prog 24 #[v,u] w λ e w'=>e=.returned (.bool (SameB la lb x y))/\Kp Aa w w':=by
 obtain⟨va,vc,rfl,hx⟩:=ints_at hv
 obtain⟨ua,uc,rfl,hy⟩:=ints_at hu
 have HX:=sE hx
 have HY:=sE hy
 clear hv hu hx hy
 by_cases hle:la=lb
 .subst hle
  have hl1:((la:Int) !=(la:Int))=false:=by simp
  obtain⟨r,hr⟩:∃ r,SameB la la x y=r:=⟨_,rfl⟩
  rw[hr]
  have HR:=sE hr
  clear hr
  go_enter func24,ntmps24
  go_wp2_with fail
  go_loopw [5] (λ z wr=>∃ j:Nat,j<=la/\z=.int .i64 (j:Nat)/\Sl (∀ i,i<j->x i 0=y i 0)/\Kp Aa w wr) (λ z _=>la-(intOf z).toNat)
  case atStart=>exact ⟨0,Nat.zero_le _,rfl,⟨λ i hi=>by omega⟩,Kr _ _⟩
  case round=>
   obtain⟨j,hj,rfl,HE,hk⟩:=hrel
   have HK:=sE hk
   by_cases hjl:j<la
   .have hjl':(j:Int)<la:=by omega
    obtain⟨b,o,rfl,hb,r0,-⟩:=HX.out j hjl
    obtain⟨b',o',rfl,hb',r1,-⟩:=HY.out j hjl
    replace r0:=hk.cell r0 (λ h=>h)
    replace r1:=hk.cell r1 (λ h=>h)
    clear hk
    obtain⟨X,hX⟩:∃ X,x j 0=X:=⟨_,rfl⟩
    obtain⟨Y,hY⟩:∃ Y,y j 0=Y:=⟨_,rfl⟩
    rw[hX] at r0
    rw[hY] at r1
    have HXY:=sE (And.intro hX hY)
    clear hX hY
    by_cases q:X=Y
    .have q1:(X !=Y)=false:=by simp[q]
     have HE2:Sl (∀ i,i<j+1->x i 0=y i 0):=⟨λ i hi=>by
      by_cases e:i=j
      .rw [e,HXY.out.1,HXY.out.2,q]
      .exact HE.out i (by omega)⟩
     clear q
     go_wp2_with fail
     go_quiet (fail)
     go_wp2
     exact⟨⟨j+1,by omega,by go_num,HE2,HK.out.then' (Kp.Ah _)⟩,by simp only[intOf];omega⟩
    .have q1:(X !=Y)=true:=by simp[q]
     have HF:Sl (r=false):=⟨by
      rw[<- HR.out,SameB,dF]
      rintro ⟨-,h⟩
      have:=h j hjl
      rw[HXY.out.1,HXY.out.2] at this
      exact q this⟩
     clear q
     go_wp2_with fail
     go_quiet (fail)
     go_wp2
     go_ret
     exact⟨by rw[HF.out];rfl,HK.out.then' (Kp.Ah _)⟩
   .have hjl':¬ (j:Int)<la:=by omega
    have HF:Sl (r=true):=⟨by
     rw[<- HR.out,SameB,dT]
     exact⟨rfl,λ i hi=>HE.out i (by omega)⟩⟩
    clear hk
    go_wp2
    go_ret
    exact⟨by rw[HF.out];rfl,HK.out⟩
 .have hl1:((la:Int) !=(lb:Int))=true:=by simp;omega
  rw[show SameB la lb x y=false by rw[SameB,dF];exact λ h=>hle h.1]
  clear hle
  go_enter func24,ntmps24
  go_wp2
  go_ret
  exact⟨rfl,Kr _ _⟩

def intVs(xs:List Int):List Value:=xs.map (Value.int .i64)

def IntsIn(w:World)(v:Value)(xs:List Int):Prop:=Bw 1 w v xs.length (λ i _=>xs.getD i 0)

theorem IntsIn.Ad{w w':World}{v:Value}{xs:List Int}(h:IntsIn w v xs)(k:Kp Aa w w'):IntsIn w' v xs:=Bw.keep h k (λ _ _ h=>h)

theorem ints_of_owns{w:World}{base:Nat}{v:Value}{xs:List Int}(h:w.ownsRow base 3 1 v xs.length (intVs xs))(hr:∀ x∈xs,-9223372036854775808<=x/\x<=9223372036854775807):IntsIn w v xs:=by
 rcases h.2 with ⟨rfl,h0⟩|⟨g,cap,cur,rfl,g2,g3,g4,g5,g6,g7⟩
 .exact ⟨none,0,by rw[h0],λ i hi=>by omega⟩
 .refine ⟨some ⟨g,0,none⟩,cap,rfl,λ i hi=>⟨g,0,rfl,lZ g3,λ j hj=>?_⟩⟩
  obtain rfl:j=0:=by omega
  have hx:xs[i]?=some xs[i]:=List.getElem?_eq_getElem hi
  refine⟨?_,?_⟩
  .have:cur.toList[i]?=some (.int .i64 xs[i]):=by
    rw[<- List.getElem?_take_of_lt (j:=xs.length*1) (by omega),g7,intVs,List.getElem?_map,hx]
    rfl
   rw[show 0+(i*1+0)=i by omega]
   simp only[World.cell?,g3]
   rw[show xs.getD i 0=xs[i] by simp[List.getD,hx],<- this]
   simp
  .dsimp only
   rw[show xs.getD i 0=xs[i] by simp[List.getD,hx]]
   exact hr _ (List.getElem_mem hi)

theorem sameB_iff(xs ys:List Int):SameB xs.length ys.length (λ i _=>xs.getD i 0) (λ i _=>ys.getD i 0)=decide (xs=ys):=by
 unfold SameB
 by_cases h:xs=ys
 .subst h
  simp
 .rw [dF h,dF]
  rintro ⟨h1,h2⟩
  refine h (List.ext_getElem h1 λ i a b=>?_)
  have:=h2 i a
  simpa [List.getD,List.getElem?_eq_getElem a,List.getElem?_eq_getElem b] using this

theorem SameInts_any{xs ys:List Int}{v u:Value}{w:World}(hv:IntsIn w v xs)(hu:IntsIn w u ys)(hl:xs.length<=9223372036854775806):
  Calls prog 24 #[v,u] w λ e w'=>e=.returned (.bool (decide (xs=ys)))/\Kp Aa w w':=by
 have:=SameInts_at _ _ _ _ v u w hv hu hl
 rwa [sameB_iff] at this

theorem SameInts_yes{xs:List Int}{v u:Value}{w:World}(hv:IntsIn w v xs)(hu:IntsIn w u xs)(hl:xs.length<=9223372036854775806):
  Calls prog 24 #[v,u] w λ e w'=>e=.returned (.bool true)/\Kp Aa w w':=by
 have:=SameInts_any hv hu hl
 rwa [dT rfl] at this

end

end Go.Proofs.YtfkedlgpgmaemaaGreatDoor
