/-
  Lemmas for the laws, together: CenU, CenJ.
-/
import Derived.Test.YtfkedlgpgmaemaaGreatDoorQbj
import Derived.Test.YtfkedlgpgmaemaaGreatDoorQbk
import Derived.Test.YtfkedlgpgmaemaaGreatDoorQbw
import Derived.Test.YtfkedlgpgmaemaaGreatDoorQcm
set_option linter.unusedVariables false
set_option maxHeartbeats 16000000
namespace Go.Proofs.YtfkedlgpgmaemaaGreatDoor
open Tryz
section
open Go.RowKit Go.Maps

def RootNo(cs:List Cel)(zs:List Int):Prop:=∃ z∈zs,∀ g:Nat,z=(g:Int)->¬ CL cs g

section

variable {P:Program} {ki:TypeId}

theorem Ca.lookNo(d:P.underlying ki=some (.int .i64)){w:World}{b n:Nat}{c:Nat->Option Value}(f:Ca P ki w b n c){g:Int}(A:-9223372036854775808<=g)(B:g<9223372036854775808)(r:∀ k:Nat,g=(k:Int)->c k=none){t e:TypeId}(i:P.underlying t=some (.map ki e)){z:Value}(l:(zeroValue e).run P w=.ok z w):
  (Instr.lookup t (.map (some b)) (.int .i64 g) true).run P w=.ok (.tuple #[z,.bool false]) w:=by
 by_cases h0:0<=g
 .obtain ⟨k,rfl⟩:∃ k:Nat,g=(k:Int):=⟨g.toNat,by omega⟩
  have:=f.lookOk d (g:=k) (by omega) i l
  rwa [r k rfl] at this
 .obtain ⟨o,y,C,m⟩:=f
  have x:(Lit.int .i64 g).wf=true:=by
   have p:IntKind.i64.min=-9223372036854775808:=by decide
   have q:IntKind.i64.max=9223372036854775807:=by decide
   simp only[Lit.wf,p,q,Bool.and_eq_true,decide_eq_true_eq]
   omega
  obtain⟨v,ps,u,j⟩:=y.look_ok (int_keyed d) i l (zd:=.held z) (zp:=[]) rfl (keyOf_int_mk d x)
  have s:has o (.int .i64 g)=false:=has_false_of_atKey (m g (by omega))
  rw[m g (by omega)] at j
  rw[u,s]
  have a:some (DataW.held v,([]:List MemPlace))=some (DataW.held z,ps):=j
  injection a with a
  injection a with a _
  injection a with a
  rw[a]

end

theorem COf_no(P:Sp)(W:Nat->Nat)(f:Nat->Bool)(w:World)(cs:List Cel)(j:SpaceAt w P W f)(d:CellsAt P W cs)(k:∀ i,i<P.n/2->f i=Ak cs i)(g:∀ x∈P.ts,x.m<18446744073709551616)(v:Value)(zs:List Int)(a:IntsIn w v zs)(p:RootNo cs zs)(l:zs.length<=65536):
  Calls prog 52 #[.pointer (some P.s),v] w (RK (.tuple #[.pointer none,(2:Int)]) w):=by
 obtain⟨t,u,rfl⟩:=Ff a
 have b:=sE (MarkOf_no P W f 4096 w cs j d k g (by omega) (by omega) _ zs a p l)
 obtain⟨L,c⟩:∃ L,zs.length=L:=⟨_,rfl⟩
 rw[c] at b ⊢
 clear j d k g a p l c
 go_enter func52,ntmps52
 go_wp2_with fail
 refine b.o.mono ?_
 rintro e w1 ⟨rfl,q⟩
 have r:=sE q
 clear q
 go_wp2
 go_ret2
 exact⟨rfl,r.o.alloc _⟩

theorem CKeeps_no(P:Sp)(W:Nat->Nat)(f:Nat->Bool)(w:World)(cs:List Cel)(j:SpaceAt w P W f)(d:CellsAt P W cs)(k:∀ i,i<P.n/2->f i=Ak cs i)(g:∀ x∈P.ts,x.m<18446744073709551616)(v:Value)(zs:List Int)(a:IntsIn w v zs)(p:RootNo cs zs)(l:zs.length<=65536):
  Calls prog 13 #[.pointer (some P.s),v] w (RK (.tuple #[.slice none 0 0,(2:Int)]) w):=by
 obtain⟨r,t,rfl⟩:=Ff a
 have b:=sE (COf_no P W f w cs j d k g _ zs a p l)
 obtain⟨L,c⟩:∃ L,zs.length=L:=⟨_,rfl⟩
 rw[c] at b ⊢
 clear j d k g a p l c
 go_enter func13,ntmps13
 go_wp2_with fail
 refine b.o.mono ?_
 rintro e w1 ⟨rfl,q⟩
 go_wp2
 go_ret2
 exact⟨rfl,q⟩

theorem CTypes_no(P:Sp)(W:Nat->Nat)(f:Nat->Bool)(w:World)(cs:List Cel)(j:SpaceAt w P W f)(d:CellsAt P W cs)(k:∀ i,i<P.n/2->f i=Ak cs i)(g:∀ x∈P.ts,x.m<18446744073709551616)(v:Value)(zs:List Int)(a:IntsIn w v zs)(p:RootNo cs zs)(l:zs.length<=65536):
  Calls prog 14 #[.pointer (some P.s),v] w (RK (.tuple #[.slice none 0 0,(2:Int)]) w):=by
 obtain⟨r,t,rfl⟩:=Ff a
 have b:=sE (COf_no P W f w cs j d k g _ zs a p l)
 obtain⟨L,c⟩:∃ L,zs.length=L:=⟨_,rfl⟩
 rw[c] at b ⊢
 clear j d k g a p l c
 go_enter func14,ntmps14
 go_wp2_with fail
 refine b.o.mono ?_
 rintro e w1 ⟨rfl,q⟩
 go_wp2
 go_ret2
 exact⟨rfl,q⟩

theorem CLost_no(P:Sp)(W:Nat->Nat)(f:Nat->Bool)(w:World)(cs:List Cel)(j:SpaceAt w P W f)(d:CellsAt P W cs)(k:∀ i,i<P.n/2->f i=Ak cs i)(g:∀ x∈P.ts,x.m<18446744073709551616)(v:Value)(zs:List Int)(a:IntsIn w v zs)(p:RootNo cs zs)(l:zs.length<=65536):
  Calls prog 15 #[.pointer (some P.s),v] w (RK (.tuple #[(0:Int),(0:Int),(2:Int)]) w):=by
 obtain⟨r,t,rfl⟩:=Ff a
 have b:=sE (COf_no P W f w cs j d k g _ zs a p l)
 obtain⟨L,c⟩:∃ L,zs.length=L:=⟨_,rfl⟩
 rw[c] at b ⊢
 clear j d k g a p l c
 go_enter func15,ntmps15
 go_wp2_with fail
 refine b.o.mono ?_
 rintro e w1 ⟨rfl,q⟩
 go_wp2
 go_ret3
 exact⟨rfl,q⟩

theorem COver_no(P:Sp)(W:Nat->Nat)(f:Nat->Bool)(w:World)(cs:List Cel)(k:SpaceAt w P W f)(d:CellsAt P W cs)(l:∀ i,i<P.n/2->f i=Ak cs i)(j:∀ x∈P.ts,x.m<18446744073709551616)(g:Int)(v:Value)(zs:List Int)(a:IntsIn w v zs)(q:RootNo cs zs)(p:zs.length<=65536):
  Calls prog 16 #[.pointer (some P.s),.int .i64 g,v] w (RK (.tuple #[.slice none 0 0,(2:Int)]) w):=by
 obtain⟨t,u,rfl⟩:=Ff a
 have b:=sE (COf_no P W f w cs k d l j _ zs a q p)
 obtain⟨L,c⟩:∃ L,zs.length=L:=⟨_,rfl⟩
 rw[c] at b ⊢
 clear k d l j a q p c
 go_enter func16,ntmps16
 go_wp2_with fail
 refine b.o.mono ?_
 rintro e w1 ⟨rfl,r⟩
 go_wp2
 go_ret2
 exact⟨rfl,r⟩

set_option maxRecDepth 20000 in
theorem COver_none(P:Sp)(W:Nat->Nat)(f:Nat->Bool)(w:World)(cs:List Cel)(E:SpaceAt w P W f)(t:CellsAt P W cs)(D:cs≠[])(G:∀ i,i<P.n/2->f i=Ak cs i)(C:∀ x∈P.ts,x.m<18446744073709551616)(g:Int)(N:-9223372036854775808<=g)(O:g<9223372036854775808)(z:∀ k:Nat,g=(k:Int)->¬ CL cs k)(v:Value)(xs:List Nat)(l:AO w v xs)(J:∀ g∈xs,CL cs g)(I:xs.length<=65536):
  Calls prog 16 #[.pointer (some P.s),.int .i64 g,v] w (RK (.tuple #[.slice none 0 0,(2:Int)]) w):=by
 obtain⟨Y,Z,rfl,-⟩:=id l
 have a:=sE (COf_at P W f w cs E t D G C _ xs l J I)
 have p:Sl (∀ k:Nat,g=(k:Int)->∀ c∈Aj cs,¬ c.g=k):=⟨λ k d c u e=>z k d ⟨c,(AX.1 u).1,(AX.1 u).2,e⟩⟩
 obtain⟨H,q⟩:∃ H,P.n/2=H:=⟨_,rfl⟩
 obtain⟨es,y⟩:∃ es,AP P.ts W cs=es:=⟨_,rfl⟩
 obtain⟨os,j⟩:∃ os,Aj cs=os:=⟨_,rfl⟩
 obtain⟨L,r⟩:∃ L,xs.length=L:=⟨_,rfl⟩
 rw[y,j,q] at a
 rw[j] at p
 rw[r] at a ⊢
 clear E t G C l J I D q y j r z
 go_enter func16,ntmps16
 go_wp2_with fail
 refine a.o.mono ?_
 rintro e w1 ⟨b,mp,mq,fm,rfl,R,Q,K⟩
 have M:=sE K
 clear K Q
 obtain⟨V,X,n,S,F,A,B,hF,-,-⟩:=R
 obtain⟨-,-,T,-,-⟩:=Dk A
 have U:=Ca.lookNo underlying3 B N O (λ k d=>hF.2 k (p.o k d)) BV (zeroCell _)
 clear hF B A
 go_wp2
 go_ret2
 exact⟨rfl,M.o.alloc _⟩

end

section
open Go.RowKit

def Cy(cs:List Cel)(zs:List Int):Bool:=zs.all (Er cs)

def natL(zs:List Int):List Nat:=zs.map Int.toNat

theorem EU{cs:List Cel}{g:Int}:Er cs g=true ↔ ∃ k:Nat,g=(k:Int)/\CL cs k:=by
 rw[isObj_yes]
 constructor
 .rintro ⟨c,a,rfl,b⟩
  exact⟨c.g,rfl,c,a,b,rfl⟩
 .rintro ⟨k,rfl,c,a,b,rfl⟩
  exact⟨c,a,rfl,b⟩

theorem E8{cs:List Cel}{zs:List Int}(a:Cy cs zs=true):zs=(natL zs).map (λ g:Nat=>(g:Int))/\∀ g∈natL zs,CL cs g:=by
 unfold Cy at a
 rw[List.all_eq_true] at a
 constructor
 .unfold natL
  rw[List.map_map]
  refine(List.map_id zs).symm.trans (List.map_congr_left λ z b=>?_)
  obtain⟨k,rfl,-⟩:=EU.1 (a z b)
  rfl
 .intro g c
  obtain⟨z,b,rfl⟩:=List.mem_map.1 c
  obtain⟨k,rfl,d⟩:=EU.1 (a z b)
  exact d

theorem allObj_no{cs:List Cel}{zs:List Int}(a:Cy cs zs=false):RootNo cs zs:=by
 unfold Cy at a
 rw[List.all_eq_false] at a
 obtain⟨z,c,a⟩:=a
 exact⟨z,c,λ g e b=>a (EU.2 ⟨g,e,b⟩)⟩

def AnyPost(B:Bool)(R:World->Value->Prop)(w:World)(e:Ending)(w':World):Prop:=
 ∃ (a:Option Addr) (n c:Nat) (cd:Int),e=.returned (.tuple #[.slice a n c,.int .i64 cd])/\Sl (B=false->n=0/\cd=2)/\Sl (B=true->cd=0/\R w' (.slice a n c))/\Kp Aa w w'

theorem AnyPost.no{R:World->Value->Prop}{w w':World}(k:Kp Aa w w'):AnyPost false R w (.returned (.tuple #[.slice none 0 0,(2:Int)])) w':=
 ⟨none,0,0,2,rfl,⟨λ _=>⟨rfl,rfl⟩⟩,⟨λ h=>by cases h⟩,k⟩

theorem AnyPost.yes{R:World->Value->Prop}{w w':World}{a:Option Addr}{n c:Nat}(h:R w' (.slice a n c))(k:Kp Aa w w'):AnyPost true R w (.returned (.tuple #[.slice a n c,(0:Int)])) w':=
 ⟨a,n,c,0,rfl,⟨λ h=>by cases h⟩,⟨λ _=>⟨rfl,h⟩⟩,k⟩

section

variable {P:Sp} {W:Nat->Nat} {f:Nat->Bool} {w:World} {cs:List Cel}

theorem cel_reach(a:CellsAt P W cs)(j:∀ i,i<P.n/2->f i=Ak cs i){rs:List Nat}(e:∀ g∈rs,CL cs g){H:Nat}:∀ z∈reachL (AP P.ts W cs) rs H,Bf (Aj cs) z=Bf cs z:=λ z k=>by
 obtain⟨c,-,-,-,-,b,d⟩:=cel_doc a (FZ a j e (Ed.1 k).2)
 rw[b,d]

theorem CKeeps_any(o:SpaceAt w P W f)(b:CellsAt P W cs)(y:cs≠[])(g:∀ i,i<P.n/2->f i=Ak cs i)(j:∀ x∈P.ts,x.m<18446744073709551616){v:Value}{zs:List Int}(p:IntsIn w v zs)(q:zs.length<=65536):
  Calls prog 13 #[.pointer (some P.s),v] w (AnyPost (Cy cs zs) (λ w' u=>CY w' u ((keepsL cs (AP P.ts W cs) (natL zs) (reachL (AP P.ts W cs) (natL zs) (P.n/2)) (reachL (AP P.ts W cs) (natL zs) (P.n/2))).map toI)) w):=by
 cases hB:Cy cs zs with
 |false=>
  refine(CKeeps_no P W f w cs o b g j v zs p (allObj_no hB) q).mono ?_
  rintro e w' ⟨rfl,k⟩
  exact .no k
 |true=>
  obtain⟨r,l⟩:=E8 hB
  refine(CKeeps_at P W f w cs o b y g j v _ (CB p r) l (by unfold natL;rw [List.length_map];exact q)).mono ?_
  rintro e w' ⟨fm,u,t,rfl,d,k⟩
  rw[setL_reach t,keepsL_congr (cel_reach b g l)] at d
  obtain⟨a,c,rfl⟩:=Aq d
  exact .yes (Dl.of_owns3 d).toT k

theorem CTypes_any(t:SpaceAt w P W f)(b:CellsAt P W cs)(G:cs≠[])(d:∀ i,i<P.n/2->f i=Ak cs i)(r:∀ x∈P.ts,x.m<18446744073709551616)(q:P.ts.length<=64){v:Value}{zs:List Int}(y:IntsIn w v zs)(A:zs.length<=65536):
  Calls prog 14 #[.pointer (some P.s),v] w (AnyPost (Cy cs zs) (λ w' u=>CY w' u ((CJ cs (reachL (AP P.ts W cs) (natL zs) (P.n/2)) 64).map toI)) w):=by
 cases hB:Cy cs zs with
 |false=>
  refine(CTypes_no P W f w cs t b d r v zs y (allObj_no hB) A).mono ?_
  rintro e w' ⟨rfl,k⟩
  exact .no k
 |true=>
  obtain⟨B,g⟩:=E8 hB
  refine(CTypes_all P W f w cs t b G d r v _ (CB y B) g (by unfold natL;rw [List.length_map];exact A) (λ c l=>by have:=ty_few b q (AX.1 l).1 (AX.1 l).2;omega)).mono ?_
  rintro e w' ⟨fm,u,L,M,F,rfl,C,o,p,D,j,k⟩
  rw[setL_reach F] at o p
  have E:=types_prog C o p D (cel_reach b d g) (λ z H=>by
   obtain⟨c,I,J,-,-,K,-⟩:=cel_doc b (FZ b d g (Ed.1 H).2)
   rw[K]
   exact ty_few b q I J)
  rw[E] at j
  obtain⟨a,c,rfl⟩:=Aq j
  exact .yes (Dl.of_owns3 j).toT k

theorem CLost_any(o:SpaceAt w P W f)(b:CellsAt P W cs)(z:cs≠[])(d:∀ i,i<P.n/2->f i=Ak cs i)(j:∀ x∈P.ts,x.m<18446744073709551616){v:Value}{zs:List Int}(p:IntsIn w v zs)(q:zs.length<=65536):
  Calls prog 15 #[.pointer (some P.s),v] w λ e w'=>∃ n m c:Int,e=.returned (.tuple #[.int .i64 n,.int .i64 m,.int .i64 c])/\Sl (Cy cs zs=false->n=0/\m=0/\c=2)/\
   Sl (Cy cs zs=true->n=((Cx cs (reachL (AP P.ts W cs) (natL zs) (P.n/2))).length:Nat)/\m=(szC (Cx cs (reachL (AP P.ts W cs) (natL zs) (P.n/2))):Nat)/\c=0)/\Kp Aa w w':=by
 cases hB:Cy cs zs with
 |false=>
  refine(CLost_no P W f w cs o b d j v zs p (allObj_no hB) q).mono ?_
  rintro e w' ⟨rfl,k⟩
  exact⟨0,0,2,rfl,⟨λ _=>⟨rfl,rfl,rfl⟩⟩,⟨λ a=>by cases a⟩,k⟩
 |true=>
  obtain⟨r,l⟩:=E8 hB
  refine(CLost_at P W f w cs o b z d j v _ (CB p r) l (by unfold natL;rw [List.length_map];exact q)).mono ?_
  rintro e w' ⟨fm,y,rfl,k⟩
  obtain⟨t,u⟩:=lost_doc b (m:=reachL (AP P.ts W cs) (natL zs) (P.n/2)) (fm:=fm) λ g=>(y g).trans ⟨λ a=>Ed.2 ⟨CV b (FZ b d l a),a⟩,λ a=>(Ed.1 a).2⟩
  exact⟨_,_,0,rfl,⟨λ a=>by cases a⟩,⟨λ _=>⟨by rw[t],by rw[u],rfl⟩⟩,k⟩

theorem COver_any(d:SpaceAt w P W f)(b:CellsAt P W cs)(y:cs≠[])(l:∀ i,i<P.n/2->f i=Ak cs i)(j:∀ x∈P.ts,x.m<18446744073709551616){g:Int}(C:-9223372036854775808<=g)(D:g<9223372036854775808){v:Value}{zs:List Int}(o:IntsIn w v zs)(B:zs.length<=65536):
  Calls prog 16 #[.pointer (some P.s),.int .i64 g,v] w (AnyPost (Cy cs zs&&Er cs g) (λ w' u=>AO w' u (overL (AP P.ts W cs) (natL zs) (reachL (AP P.ts W cs) (natL zs) (P.n/2)) g.toNat (reachL (AP P.ts W cs) (natL zs) (P.n/2)))) w):=by
 cases hB:Cy cs zs with
 |false=>
  refine(COver_no P W f w cs d b l j g v zs o (allObj_no hB) B).mono ?_
  rintro e w' ⟨rfl,k⟩
  exact .no k
 |true=>
  obtain⟨p,z⟩:=E8 hB
  have t:(natL zs).length<=65536:=by unfold natL;rw [List.length_map];exact B
  cases hG:Er cs g with
  |false=>
   refine(COver_none P W f w cs d b y l j g C D (λ k e q=>by rw[EU.2 ⟨k,e,q⟩] at hG;cases hG) v _ (CB o p) z t).mono ?_
   rintro e w' ⟨rfl,k⟩
   exact .no k
  |true=>
   obtain⟨k,rfl,r⟩:=EU.1 hG
   refine(COver_at P W f w cs d b y l j k (by have:=CV b r;have:=d.bt.FQ;omega) v _ (CB o p) z t).mono ?_
   rintro e w' ⟨⟨F,-⟩|⟨-,fm,a,c,E,rfl,A⟩,G⟩
   .obtain ⟨c,H,I,J⟩:=r
    exact absurd ⟨c,AX.2 ⟨H,I⟩,J⟩ F
   .rw [setL_reach E] at A ⊢
    exact .yes (AO.Bc A) G

end

end

end Go.Proofs.YtfkedlgpgmaemaaGreatDoor
