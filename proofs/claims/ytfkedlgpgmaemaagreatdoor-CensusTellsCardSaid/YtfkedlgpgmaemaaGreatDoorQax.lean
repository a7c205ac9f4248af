/-
  Lemmas for the laws, together: FindB, Ints.
-/
import Derived.Test.YtfkedlgpgmaemaaGreatDoorQan
import Derived.Test.YtfkedlgpgmaemaaGreatDoorQaw
set_option linter.unusedVariables false
set_option maxHeartbeats 16000000
namespace Go.Proofs.YtfkedlgpgmaemaaGreatDoor
open Tryz
section
open Go.RowKit

theorem Kp.new'{w w':World}(a:Kp (λ k=>w.heap.size<=k) w w'):Kp Aa w w':=a.mono (λ i b c=>by omega)

end

section
open Go.RowKit

def SameB(la lb:Nat)(x y:Nat->Nat->Int):Bool:=decide (la=lb/\∀ i,i<la->x i 0=y i 0)

theorem SameInts_at(la lb:Nat)(x y:Nat->Nat->Int)(v u:Value)(w:World)(C:Bw 1 w v la x)(B:Bw 1 w u lb y)(P:la<=9223372036854775806):
  Calls prog 24 #[v,u] w (RK (.bool (SameB la lb x y)) w):=by
 obtain⟨T,U,rfl,D⟩:=ints_at C
 obtain⟨R,S,rfl,E⟩:=ints_at B
 have G:=sE D
 have H:=sE E
 clear C B D E
 by_cases hle:la=lb
 .subst hle
  have J:((la:Int) !=(la:Int))=false:=by simp
  obtain⟨r,m⟩:∃ r,SameB la la x y=r:=⟨_,rfl⟩
  rw[m]
  have t:=sE m
  clear m
  go_enter func24,ntmps24
  go_wp2_with fail
  go_loopw [5] (λ z wr=>∃ j:Nat,j<=la/\z=.int .i64 j/\Sl (∀ i,i<j->x i 0=y i 0)/\Kp Aa w wr) (λ z _=>la-(intOf z).toNat)
  case atStart=>exact ⟨0,Nat.zero_le _,rfl,⟨λ i A=>by omega⟩,Kr _ _⟩
  case round=>
   obtain⟨j,O,rfl,s,a⟩:=hrel
   have f:=sE a
   by_cases hjl:j<la
   .have I:(j:Int)<la:=by omega
    obtain⟨b,o,rfl,M,n,-⟩:=G.o j hjl
    obtain⟨L,Q,rfl,N,p,-⟩:=H.o j hjl
    replace n:=a.cell n id
    replace p:=a.cell p id
    clear a
    obtain⟨X,k⟩:∃ X,x j 0=X:=⟨_,rfl⟩
    obtain⟨Y,l⟩:∃ Y,y j 0=Y:=⟨_,rfl⟩
    rw[k] at n
    rw[l] at p
    have c:=sE (And.intro k l)
    clear k l
    by_cases q:X=Y
    .have K:(X !=Y)=false:=by simp[q]
     have F:Sl (∀ i,i<j+1->x i 0=y i 0):=⟨λ i A=>by
      by_cases e:i=j
      .rw [e,c.o.1,c.o.2,q]
      .exact s.o i (by omega)⟩
     clear q
     go_wp2_with fail
     go_quiet (fail)
     go_wp2
     exact⟨⟨j+1,by omega,by go_num,F,f.o.then' (Kp.Ah _)⟩,by simp only[intOf];omega⟩
    .have K:(X !=Y)=true:=by simp[q]
     have d:Sl (r=false):=⟨by
      rw[<- t.o,SameB,dF]
      rintro ⟨-,g⟩
      have:=g j hjl
      rw[c.o.1,c.o.2] at this
      exact q this⟩
     clear q
     go_wp2_with fail
     go_quiet (fail)
     go_wp2
     go_ret
     exact⟨by rw[d.o];rfl,f.o.then' (Kp.Ah _)⟩
   .have I:¬ (j:Int)<la:=by omega
    have d:Sl (r=true):=⟨by
     rw[<- t.o,SameB,dT]
     exact⟨rfl,λ i A=>s.o i (by omega)⟩⟩
    clear a
    go_wp2
    go_ret
    exact⟨by rw[d.o];rfl,f.o⟩
 .have J:((la:Int) !=(lb:Int))=true:=by simp;omega
  rw[show SameB la lb x y=false by rw[SameB,dF];exact λ g=>hle g.1]
  clear hle
  go_enter func24,ntmps24
  go_wp2
  go_ret
  exact⟨rfl,Kr _ _⟩

def Fb(xs:List Int):List Value:=xs.map (Value.int .i64)

def IntsIn(w:World)(v:Value)(xs:List Int):Prop:=Bw 1 w v xs.length (λ i _=>xs.getD i 0)

theorem IntsIn.Ac{w w':World}{v:Value}{xs:List Int}(h:IntsIn w v xs)(k:Kp Aa w w'):IntsIn w' v xs:=Bw.keep h k (λ _ _ h=>h)

theorem Cz{w:World}{base:Nat}{v:Value}{xs:List Int}(f:w.ownsRow base 3 1 v xs.length (Fb xs))(l:∀ x∈xs,-9223372036854775808<=x/\x<=9223372036854775807):IntsIn w v xs:=by
 rcases f.2 with ⟨rfl,k⟩|⟨g,cap,d,rfl,m,c,n,o,p,e⟩
 .exact ⟨none,0,by rw[k],λ i a=>by omega⟩
 .refine ⟨some ⟨g,0,none⟩,cap,rfl,λ i a=>⟨g,0,rfl,lZ c,λ j q=>?_⟩⟩
  obtain rfl:j=0:=by omega
  have b:xs[i]?=some xs[i]:=List.getElem?_eq_getElem a
  refine⟨?_,?_⟩
  .have:d.toList[i]?=some (.int .i64 xs[i]):=by
    rw[<- List.getElem?_take_of_lt (j:=xs.length*1) (by omega),e,Fb,List.getElem?_map,b]
    rfl
   rw[show 0+(i*1+0)=i by omega]
   simp only[World.cell?,c]
   rw[show xs.getD i 0=xs[i] by simp[List.getD,b],<- this]
   simp
  .dsimp only
   rw[show xs.getD i 0=xs[i] by simp[List.getD,b]]
   exact l _ (List.getElem_mem a)

theorem sameB_iff(xs c:List Int):SameB xs.length c.length (λ i _=>xs.getD i 0) (λ i _=>c.getD i 0)=decide (xs=c):=by
 unfold SameB
 by_cases h:xs=c
 .subst h
  simp
 .rw [dF h,dF]
  rintro ⟨d,e⟩
  refine h (List.ext_getElem d λ i a b=>?_)
  have:=e i a
  simpa [List.getD,List.getElem?_eq_getElem a,List.getElem?_eq_getElem b] using this

theorem SameInts_any{xs a:List Int}{v u:Value}{w:World}(d:IntsIn w v xs)(c:IntsIn w u a)(b:xs.length<=9223372036854775806):
  Calls prog 24 #[v,u] w (RK (.bool (decide (xs=a))) w):=by
 have:=SameInts_at _ _ _ _ v u w d c b
 rwa [sameB_iff] at this

theorem SameInts_yes{xs:List Int}{v u:Value}{w:World}(c:IntsIn w v xs)(b:IntsIn w u xs)(a:xs.length<=9223372036854775806):
  Calls prog 24 #[v,u] w (RK (.bool true) w):=by
 have:=SameInts_any c b a
 rwa [dT rfl] at this

theorem Ff{w:World}{v:Value}{xs:List Int}(h:IntsIn w v xs):∃ a c,v=.slice a xs.length c:=by
 obtain⟨a,c,h,-⟩:=h
 exact⟨a,c,h⟩

end

end Go.Proofs.YtfkedlgpgmaemaaGreatDoor
