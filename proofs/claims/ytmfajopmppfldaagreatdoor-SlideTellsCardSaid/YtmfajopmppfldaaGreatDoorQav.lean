/-
  Lemmas for the laws, together: FindB, Ints, HeadLaid.
-/
import Derived.Test.YtmfajopmppfldaaGreatDoorQam
import Derived.Test.YtmfajopmppfldaaGreatDoorQau
import Derived.Test.YtmfajopmppfldaaGreatDoorRows
import Derived.Test.YtmfajopmppfldaaGreatDoorQad
import Derived.ProofKit
import Derived.LaidMore
import Derived.OpenShut
import Derived.Stop.Joined
set_option linter.unusedVariables false
set_option maxHeartbeats 16000000
namespace Go.Proofs.YtmfajopmppfldaaGreatDoor
open Go.Proofs.Tryz
section
open Go.RowKit

theorem Kp.new'{w w':World}(h:Kp (λ k=>w.heap.size<=k) w w'):Kp Ab w w':=h.mono (λ i hi hp=>by omega)

end

section
open Go.RowKit

def intVs(xs:List Int):List Value:=xs.map (Value.int .i64)

end

section
open Go.ChangeShapes Go.WideShapes Go.ChangeAt Go.WideMaps Go.WideElems Go.RowKit

def laidL:List (String×DataW Unit):=[("skerry/head.fields",Rows.laid_skerry_head_fields)]

theorem gFields:prog.globalNamed "skerry/head.fields" =some 0:=by kernel_rfl

theorem tFields:(prog.globals[0]?).map (·.type)=some 230:=by kernel_rfl

section
variable {H:Type} {enc:TypeId×Value->H} {P:Program}

theorem pair_of_trod{w:World}{base:Nat}{sp:Nat->Bool}{held:Bool}{fuel:Nat}{e:TypeId}{f0 f1:Field}{cs:List Value}{a b:Int}{x:DataW H×List MemPlace}(he:P.underlying e=some (.struct #[f0,f1]))(ce:P.cellsOf e=2)(o0:f0.offset=0)(o1:f1.offset=1)(c0:P.cellsOf f0.type=1)(c1:P.cellsOf f1.type=1)
  (h0:P.underlying f0.type=some (.int .i64)) (h1:P.underlying f1.type=some (.int .i64)) (h:DataW.trod enc P w base sp held fuel e cs=some x) (hx:x.1=.agg [.lit (.int .i64 a),.lit (.int .i64 b)]):cs=[.int .i64 a,.int .i64 b]:=by
 obtain⟨ys,n',_,e1,hl,hyl,hf⟩:=DataW.trod_struct he h
 have g0:=hf 0 f0 rfl
 have g1:=hf 1 f1 rfl
 rw[o0,c0] at g0
 rw[o1,c1] at g1
 rw[e1] at hx
 rw[ce] at hl
 match cs,hl,ys,hyl,g0,g1,hx with
 |[u,v],_,[y0,y1],_,g0,g1,hx=>
  simp only[List.map_cons,List.map_nil,DataW.agg.injEq,List.cons.injEq] at hx
  obtain⟨z0,d0,k0,_⟩:=DataW.trod_int h0 (show DataW.trod enc P w base sp held n' f0.type [u]=some y0 from g0)
  obtain⟨z1,d1,k1,_⟩:=DataW.trod_int h1 (show DataW.trod enc P w base sp held n' f1.type [v]=some y1 from g1)
  rw[k0,k1] at hx
  simp only[DataW.lit.injEq,Lit.int.injEq,true_and,and_true] at hx
  obtain⟨rfl,rfl⟩:=hx
  injection d0 with d0
  injection d1 with d1
  rw[d0,d1]

end

set_option maxRecDepth 100000 in
theorem fields_of_laid{W:World}(h:laidMetH prog laidL W):Av W:=by
 rw[MakeChecks.laidMetH_plain _ _ _ (by kernel_rfl)] at h
 obtain⟨ps,⟨g0,t0,cs0,f0,p0,q0,hg0,ht0,hv0,hd0,_,_⟩,_,_⟩:=h
 obtain rfl:=Option.some.inj (gFields.symm.trans hg0)
 obtain rfl:=Option.some.inj (tFields.symm.trans ht0)
 obtain⟨xs,m1,_,hx1,hlen,hn,hel⟩:=DataW.trod_array underlying230 hd0
 have ce:prog.cellsOf 229=2:=by kernel_rfl
 have ca:prog.cellsOf 230=10:=by kernel_rfl
 have c3:prog.cellsOf 3=1:=by kernel_rfl
 rw[ca] at hlen
 simp only[Prod.mk.injEq,Rows.laid_skerry_head_fields,DataW.agg.injEq] at hx1
 obtain⟨l0⟩:=cs0
 match l0,hlen,xs,hn,hx1,hel with
 |[u0,u1,u2,u3,u4,u5,u6,u7,u8,u9],_,[y0,y1,y2,y3,y4],_,hx1,hel=>
  simp only[List.map_cons,List.map_nil,List.cons.injEq] at hx1
  have P:∀ (i:Nat) (y) (a b:Int) (cs:List Value),DataW.trod (λ _=>()) prog W 0 (λ _=>true) false m1 229 cs=some y->y.1=.agg [.lit (.int .i64 a),.lit (.int .i64 b)]->cs=[.int .i64 a,.int .i64 b]:=
   λ i y a b cs h1 h2=>pair_of_trod underlying229 ce rfl rfl c3 c3 underlying3 underlying3 h1 h2
  have e0:=hel 0 (by decide)
  have e1:=hel 1 (by decide)
  have e2:=hel 2 (by decide)
  have e3:=hel 3 (by decide)
  have e4:=hel 4 (by decide)
  rw[ce] at e0 e1 e2 e3 e4
  obtain⟨⟨k0,k1,k2,k3,k4,-⟩,-⟩:=hx1
  have r0:=P 0 y0 _ _ [u0,u1] e0 k0.symm
  have r1:=P 1 y1 _ _ [u2,u3] e1 k1.symm
  have r2:=P 2 y2 _ _ [u4,u5] e2 k2.symm
  have r3:=P 3 y3 _ _ [u6,u7] e3 k3.symm
  have r4:=P 4 y4 _ _ [u8,u9] e4 k4.symm
  simp only[List.cons.injEq,and_true] at r0 r1 r2 r3 r4
  obtain⟨rfl,rfl⟩:=r0
  obtain⟨rfl,rfl⟩:=r1
  obtain⟨rfl,rfl⟩:=r2
  obtain⟨rfl,rfl⟩:=r3
  obtain⟨rfl,rfl⟩:=r4
  have cell:=World.var?_cell hg0 hv0
  refine⟨?_,λ j hj=>?_⟩
  .have:=cell 0
   simp only[List.getElem?_toArray] at this
   have h2:W.cell? ⟨0,0,none⟩=some (.int .i64 0):=by simpa using this
   unfold World.cell? at h2
   cases hh:W.heap[0]? with
   |none=>simp [hh] at h2
   |some o=>exact (Array.getElem?_eq_some_iff.1 hh).1
  .have:=cell j
   rcases j with _|_|_|_|_|_|_|_|_|_|j <;> first|omega|simpa [fieldsL] using this

end

end Go.Proofs.YtmfajopmppfldaaGreatDoor
