/-
  Lemmas for the laws, together: HeadLaid.
-/
import Derived.Test.YtfkedlgpgmaemaaGreatDoorRows
import Derived.Test.YtfkedlgpgmaemaaGreatDoorQad
import Derived.ProofKit
import Derived.LaidMore
import Derived.OpenShut
import Derived.Stop.Joined
set_option linter.unusedVariables false
set_option maxHeartbeats 16000000
namespace Go.Proofs.YtfkedlgpgmaemaaGreatDoor
open Go.Proofs.Tryz
section
open Go.ChangeShapes Go.WideShapes Go.ChangeAt Go.WideMaps Go.WideElems Go.RowKit

def laidL:List (String×DataW Unit):=[("skerry/head.fields",Rows.laid_skerry_head_fields)]

theorem gFields:prog.globalNamed "skerry/head.fields" =some 0:=by kernel_rfl

theorem tFields:(prog.globals[0]?).map (·.type)=some 267:=by kernel_rfl

section
variable {H:Type} {enc:TypeId×Value->H} {P:Program}

theorem pair_of_trod{w:World}{base:Nat}{sp:Nat->Bool}{l:Bool}{s:Nat}{e:TypeId}{d f:Field}{cs:List Value}{a b:Int}{x:DataW H×List MemPlace}(A:P.underlying e=some (.struct #[d,f]))(q:P.cellsOf e=2)(E:d.offset=0)(F:f.offset=1)(c0:P.cellsOf d.type=1)(p:P.cellsOf f.type=1)
  (y:P.underlying d.type=some (.int .i64)) (z:P.underlying f.type=some (.int .i64)) (t:DataW.trod enc P w base sp l s e cs=some x) (c:x.1=.agg [.lit (.int .i64 a),.lit (.int .i64 b)]):cs=[.int .i64 a,.int .i64 b]:=by
 obtain⟨G,o,_,r,n,B,m⟩:=DataW.trod_struct A t
 have g:=m 0 d rfl
 have i:=m 1 f rfl
 rw[E,c0] at g
 rw[F,p] at i
 rw[r] at c
 rw[q] at n
 match cs,n,G,B,g,i,c with
 |[u,v],_,[y0,y1],_,g,i,c=>
  simp only[List.map_cons,List.map_nil,DataW.agg.injEq,List.cons.injEq] at c
  obtain⟨I,j,C,_⟩:=DataW.trod_int y (show DataW.trod enc P w base sp l o d.type [u]=some y0 from g)
  obtain⟨J,k,D,_⟩:=DataW.trod_int z (show DataW.trod enc P w base sp l o f.type [v]=some y1 from i)
  rw[C,D] at c
  simp only[DataW.lit.injEq,Lit.int.injEq,true_and,and_true] at c
  obtain⟨rfl,rfl⟩:=c
  injection j with j
  injection k with k
  rw[j,k]

end

set_option maxRecDepth 100000 in
theorem fields_of_laid{W:World}(q:laidMetH prog laidL W):Au W:=by
 rw[MakeChecks.laidMetH_plain _ _ _ (by kernel_rfl)] at q
 obtain⟨ps,⟨O,T,A,N,R,S,r,E,F,C,_,_⟩,_,_⟩:=q
 obtain rfl:=Option.some.inj (gFields.symm.trans r)
 obtain rfl:=Option.some.inj (tFields.symm.trans E)
 obtain⟨xs,M,_,d,s,D,c⟩:=DataW.trod_array underlying267 C
 have g:prog.cellsOf 266=2:=by kernel_rfl
 have z:prog.cellsOf 267=10:=by kernel_rfl
 have f:prog.cellsOf 3=1:=by kernel_rfl
 rw[z] at s
 simp only[Prod.mk.injEq,Rows.laid_skerry_head_fields,DataW.agg.injEq] at d
 obtain⟨L⟩:=A
 match L,s,xs,D,d,c with
 |[u0,u1,u2,u3,u4,u5,u6,u7,u8,u9],_,[y0,y1,y2,y3,y4],_,d,c=>
  simp only[List.map_cons,List.map_nil,List.cons.injEq] at d
  have P:∀ (i:Nat) (y) (a b:Int) (cs:List Value),DataW.trod (λ _=>()) prog W 0 (λ _=>true) false M 266 cs=some y->y.1=.agg [.lit (.int .i64 a),.lit (.int .i64 b)]->cs=[.int .i64 a,.int .i64 b]:=
   λ i y a b cs B e=>pair_of_trod underlying266 g rfl rfl f f underlying3 underlying3 B e
  have k:=c 0 (by decide)
  have l:=c 1 (by decide)
  have m:=c 2 (by decide)
  have n:=c 3 (by decide)
  have p:=c 4 (by decide)
  rw[g] at k l m n p
  obtain⟨⟨G,H,I,J,K,-⟩,-⟩:=d
  have t:=P 0 y0 _ _ [u0,u1] k G.symm
  have u:=P 1 y1 _ _ [u2,u3] l H.symm
  have v:=P 2 y2 _ _ [u4,u5] m I.symm
  have w:=P 3 y3 _ _ [u6,u7] n J.symm
  have x:=P 4 y4 _ _ [u8,u9] p K.symm
  simp only[List.cons.injEq,and_true] at t u v w x
  obtain⟨rfl,rfl⟩:=t
  obtain⟨rfl,rfl⟩:=u
  obtain⟨rfl,rfl⟩:=v
  obtain⟨rfl,rfl⟩:=w
  obtain⟨rfl,rfl⟩:=x
  have cell:=World.var?_cell r F
  refine⟨?_,λ j Q=>?_⟩
  .have:=cell 0
   simp only[List.getElem?_toArray] at this
   have e:W.cell? ⟨0,0,none⟩=some (.int .i64 0):=by simpa using this
   unfold World.cell? at e
   cases hh:W.heap[0]? with
   |none=>simp [hh] at e
   |some o=>exact (Array.getElem?_eq_some_iff.1 hh).1
  .have:=cell j
   rcases j with _|_|_|_|_|_|_|_|_|_|j <;> first|omega|simpa [fieldsL] using this

end

end Go.Proofs.YtfkedlgpgmaemaaGreatDoor
