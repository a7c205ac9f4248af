/-
  Lemmas for the laws, together: CenAp, Args9.
-/
import Derived.Test.YtfkedlgpgmaemaaGreatDoorQbc
import Derived.Test.YtfkedlgpgmaemaaGreatDoorQau
set_option linter.unusedVariables false
set_option maxHeartbeats 16000000
namespace Go.Proofs.YtfkedlgpgmaemaaGreatDoor
open Tryz
section
open Go.RowKit

section
variable {P:Program}

theorem run_append_iv(w:World)(t ty e:TypeId)(i:TypeInfo)(m:P.underlying t=some (.slice e))(l:P.info? e=some i)(E:i.zero=some (.int .i64 0))(D:i.size=1)(A:i.bytes=8)
  (base:Nat) (v:Value) (n:Nat) (xs:List Int) (g:w.ownsRow base e 1 v n (Fb xs)) (u:Value) (c:List Int) (k:IntsIn w u c) (G:n+c.length<=1000000) (z:base<=w.heap.size):
  ∃ d w',(Builtin.append_ #[t,t] ty #[v,u]).run P w=.ok d w'/\w'.ownsRow base e 1 d (n+c.length) (Fb (xs++c))/\w.grownBy w' v.ownBlock:=by
 obtain⟨a,cap,rfl,p⟩:=k
 cases a with
 |none=>
  have r:c=[]:=by
   cases c with
   |nil=>rfl
   |cons y c=>
    obtain⟨b,o,e,-⟩:=p 0 (by simp)
    cases e
  subst r
  refine⟨v,w,Ew w t ty e i m l base 1 v n _ g cap,?_,⟨rfl,rfl,rfl,Nat.le_refl _,λ _ _ _=>rfl⟩⟩
  rw[List.append_nil]
  exact g
 |some ad=>
  obtain⟨d,w',C,s,x,_,F⟩:=run_append_own_at (P:=P) w base t ty e i (.int .i64 0) 1 8 m l E D A rfl (by omega) v n (Fb xs) g ad c.length cap (Fb c) (by simp[Fb])
   (by
    intro j u f
    unfold Fb at f
    rw[List.getElem?_map] at f
    obtain⟨y,q,rfl⟩:=Option.map_eq_some_iff.1 f
    obtain⟨b,o,ea,-,B⟩:=p j (gE.1 q).1
    injection ea with ea
    subst ea
    rw[Addr.add_lit]
    have:=(B 0 (by omega)).1
    dsimp only at this
    rwa [List.getD_eq_getElem?_getD,q,show o+(j*1+0)=o+j by omega] at this)
   (by
    intro u k
    obtain⟨_,_,rfl⟩:=List.mem_map.1 k
    rfl) (by unfold maxLen;omega) (by omega) z
  refine⟨d,w',C,?_,x⟩
  rw[Fb,List.map_append]
  exact s

theorem Cv(w:World){ops:Array Oper}{rest:List Oper}{o:Oper}{a:Act}{Q:Exit->Act->World->Prop}(l:o.guard=none)(s x:Operand)(t:TypeId)
  (q:o.op=.call {callee:=.builtin .append,args:=#[s,x],argTypes:=#[t,t]}) (e:TypeId) (i:TypeInfo) (B:P.underlying t=some (.slice e)) (m:P.info? e=some i) (E:i.zero=some (.int .i64 0)) (A:i.size=1) (k:i.bytes=8)
  (base:Nat) (v:Value) (n:Nat) (xs:List Int) (z:a.eval s=v) (r:w.ownsRow base e 1 v n (Fb xs)) (u:Value) (b:List Int) (D:a.eval x=u) (C:IntsIn w u b) (p:n+b.length<=1000000) (j:base<=w.heap.size)
  (d:∀ c w',w'.ownsRow base e 1 c (n+b.length) (Fb (xs++b))->w.grownBy w' v.ownBlock->wpList P ops Q rest (a.put o.dst c) w'):wpList P ops Q (o::rest) a w:=by
 refine wpList_plain l λ K hK=>?_
 obtain⟨c,w',y,f,g⟩:=run_append_iv (P:=P) w t o.type e i B m E A k base v n xs r u b C p j
 unfold Oper.wp execOp
 simp only[q,resolve,invoke,builtin,Sem.run_bind,Sem.run_pure,Result.andThen_ok,List.map_toArray,List.map_cons,List.map_nil,z,D,y]
 exact hK _ _ (d c w' f g)

end

end

section
open Go.RowKit Go.WideShapes Go.ChangeShapes Go.Deep

section

variable {H:Type} {enc:TypeId×Value->H} {P:Program}

theorem slice_len{w:World}{base:Nat}{sp:Nat->Bool}{s:Bool}{t e:TypeId}{v:Value}{d:DataW H}{ps:List MemPlace}(k:P.underlying t=some (.slice e))(q:1<=P.bytesOf e)(u:∃ a b cap,v=.slice a b cap)(g:DataW.Trod enc P w base sp s t v d ps)(l:∀ n∈d.weights P t,n<=reachBytes):
  ∃ a b cap,v=.slice a b cap/\b<=140737488355328:=by
 obtain⟨a,b,cap,rfl⟩:=u
 obtain⟨A,g⟩:=g
 have r:(Value.slice a b cap).cells.toList=[.slice a b cap]:=rfl
 rw[r] at g
 rcases open_slice k g with ⟨c,-⟩|⟨a',G,z,m,n,x,y,f,i,B,C,o,p,D⟩
 .injection c with c
  injection c with c f i
  subst c f i
  exact⟨_,_,_,rfl,by omega⟩
 .injection f with f
  injection f with e1 e2 e3
  subst e1 e2 e3
  have j:=congrArg Prod.fst p
  dsimp only at j
  have F:b<=m:=by rw[o];split <;> omega
  refine⟨_,_,_,rfl,?_⟩
  rw[j] at l
  have:=l _ (by simp only[DataW.weights,k];exact List.mem_cons_self)
  unfold reachBytes at this
  simp only[List.length_map,List.length_range] at this
  have E:(b+(m-b))*1<=(b+(m-b))*P.bytesOf e:=Nat.mul_le_mul_left _ q
  omega

theorem open_bytes9{w:World}{base:Nat}{s:Bool}{t e:TypeId}{v:Value}{d:DataW H}{ps:List MemPlace}(k:P.underlying t=some (.slice e))(r:P.underlying e=some (.int .u8))(q:P.cellsOf e=1)(p:1<=P.bytesOf e)(m:∃ a b cap,v=.slice a b cap)
  (i:DataW.Trod enc P w base (λ _=>true) s t v d ps) (u:∀ n∈d.weights P t,n<=reachBytes):∃ (b:Nat) (f:Nat->Nat),BytesIn w v b f/\b<=140737488355328:=by
 obtain⟨b,f,j⟩:=open_bytes8 k r q m i
 obtain⟨a,l,c,o,y⟩:=slice_len k p m i u
 refine⟨b,f,j,?_⟩
 obtain⟨a',x,g,-⟩:=j
 rw[o] at g
 injection g with _ e4
 omega

theorem open_ints9{w:World}{base:Nat}{sp:Nat->Bool}{j:Bool}{t e:TypeId}{v:Value}{d:DataW H}{ps:List MemPlace}(k:P.underlying t=some (.slice e))(i:P.underlying e=some (.int .i64))(g:P.cellsOf e=1)(f:P.bytesOf e=8)(l:∃ a b cap,v=.slice a b cap)(c:DataW.Trod enc P w base sp j t v d ps)(m:∀ n∈d.weights P t,n<=reachBytes):∃ b y,Bw 1 w v b y/\b<=17592186044416:=by
 obtain⟨a,b,cap,rfl⟩:=l
 obtain⟨o,c⟩:=c
 exact open_ints k i g f c m

end

theorem i64_wf{n:Int}(a:(Lit.int .i64 n).wf=true):-9223372036854775808<=n/\n<9223372036854775808:=by
 have b:IntKind.i64.min=-9223372036854775808:=by decide
 have c:IntKind.i64.max=9223372036854775807:=by decide
 simp only[Lit.wf,b,c,Bool.and_eq_true,decide_eq_true_eq] at a
 omega

end

end Go.Proofs.YtfkedlgpgmaemaaGreatDoor
