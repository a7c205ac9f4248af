/-
  Lemmas for the laws, together: LibA, WordMath.
-/
import Derived.RangeFuncNested
import Derived.RangeFuncBound
import Derived.RangeFuncCalls
import Derived.RangeFuncLeaves
import Derived.WalkKit
import Derived.WalkLawsBesides
import Derived.Deep.QuietTactic
import Derived.BigQuiet
import Derived.OwnWalkIn
import Derived.TacticsInMore
import Derived.LoopNIn
import Derived.LoopIn
import Derived.StillTailTactics
import Derived.Lib.Hide
import Derived.Shelf.Abstract
import Derived.ChangeSame
import Derived.Deep.Slices
import Derived.Deep.Fields
import Derived.Carry
import Derived.OpenShut
import Derived.Test.YtfkedlgpgmaemaaGreatDoorProg
set_option linter.unusedVariables false
set_option maxHeartbeats 16000000
namespace Go.Proofs.YtfkedlgpgmaemaaGreatDoor
open Tryz

instance cN:Coe Nat Value:=⟨λ n=>.int .i64 n⟩

instance cI:Coe Int Value:=⟨.int .i64⟩

instance cA:Coe Nat Addr:=⟨λ b=>⟨b,0,none⟩⟩
section
open Go.RowKit

structure Sl(p:Prop):Prop where
 o:p

theorem sE{p:Prop}(h:p):Sl p:=⟨h⟩

theorem wN(w:World)(o:Obj):(w.alloc o).heap[w.heap.size]?=some o:=World.alloc_heap_new w o

theorem dF{p:Prop}[Decidable p](h:¬ p):decide p=false:=decide_eq_false h

theorem dT{p:Prop}[Decidable p](h:p):decide p=true:=decide_eq_true h

theorem gE{α:Type}{xs:List α}{i:Nat}{a:α}:xs[i]?=some a ↔ ∃ h:i<xs.length,xs[i]=a:=List.getElem?_eq_some_iff

structure Kp(S:Nat->Prop)(w w':World):Prop where
  os:w'.os=w.os
  tape:w'.tape=w.tape
  output:w'.output=w.output
  size:w.heap.size<=w'.heap.size
  block:∀ k,k<w.heap.size->¬ S k->w'.heap[k]?=w.heap[k]?

def Aa:Nat->Prop:=λ _=>False

abbrev RK(v:Value)(w:World)(e:Ending)(w':World):Prop:=e=.returned v/\Kp Aa w w'

namespace Kp
variable {S S':Nat->Prop} {w w' a b c:World}

theorem refl(S:Nat->Prop)(w:World):Kp S w w:=⟨rfl,rfl,rfl,Nat.le_refl _,λ _ _ _=>rfl⟩

theorem trans(d:Kp S a b)(k:Kp S' b c)(g:∀ i,i<a.heap.size->S' i->S i):Kp S a c:=
  ⟨k.os.trans d.os,k.tape.trans d.tape,k.output.trans d.output,Nat.le_trans d.size k.size,
   λ i e f=>(k.block i (Nat.lt_of_lt_of_le e d.size) (λ j=>f (g i e j))).trans (d.block i e f)⟩

theorem mono(c:Kp S a b)(f:∀ i,i<a.heap.size->S i->S' i):Kp S' a b:=
  ⟨c.os,c.tape,c.output,c.size,λ i d e=>c.block i d (λ g=>e (f i d g))⟩

theorem Aw(c:Kp Aa a b)(S:Nat->Prop):Kp S a b:=c.mono λ_ _ d=>d.elim

theorem alloc(b:Kp S a w)(o:Obj):Kp S a (w.alloc o):=
  b.trans (S':=Aa) ⟨rfl,rfl,rfl,by simp,λ k d _=>Below.heap_alloc _ _ _ d⟩ (λ _ _ c=>c.elim)

theorem setCell(b:Kp S a w){p:Addr}(f:p.block<a.heap.size->S p.block)(v:Value):Kp S a (w.setCell p v):=
  b.trans (S':=λ k=>k=p.block) ⟨rfl,rfl,rfl,by simp[World.setCell],λ k _ d=>Below.heap_setCell _ _ _ _ d⟩ (λ i c e=>by subst e;exact f c)

theorem putObj(b:Kp S a w){r:Nat}(f:r<a.heap.size->S r)(o:Obj):Kp S a (w.putObj r o):=
  b.trans (S':=λ k=>k=r) ⟨rfl,rfl,rfl,by simp,λ k _ d=>World.putObj_heap_other d⟩ (λ i c e=>by subst e;exact f c)

theorem drewN(h:Kp S a w)(n:Nat):Kp S a (w.drewN n):=⟨h.os,h.tape,h.output,h.size,h.block⟩
theorem drew(h:Kp S a w):Kp S a w.drew:=⟨h.os,h.tape,h.output,h.size,h.block⟩
theorem Ah(n:Nat):Kp S w (w.drewN n):=(refl S w).drewN n

theorem grown(d:Kp S a w){c:Option Nat}(b:w.grownBy w' c)(l:∀ k,c=some k->k<a.heap.size->S k):Kp S a w':=
  d.trans (S':=λ k=>some k=c) ⟨b.os,b.tape,b.output,b.size,λ k g j=>b.block k g j⟩ (λ i f e=>l i e.symm f)

theorem below(c:Kp S a b){d:Nat}(g:d<=a.heap.size)(f:∀ k,k<d->¬ S k):Below d a b:=
  ⟨c.os,c.tape,c.output,c.size,λ k e=>c.block k (by omega) (f k e)⟩

theorem below_not(c:Kp Aa a b):Below a.heap.size a b:=c.below (Nat.le_refl _) (λ _ _ d=>d)

theorem grownBy(c:Kp S a b){q:Nat}(f:∀ k,k<a.heap.size->S k->k=q):a.grownBy b (some q):=
  ⟨c.os,c.tape,c.output,c.size,λ k d e=>c.block k d (λ g=>e (by rw[f k d g]))⟩

theorem at_(d:Kp S a b){k:Nat}{o:Obj}(c:a.heap[k]?=some o)(e:¬ S k):b.heap[k]?=some o:=
  (d.block k (Array.getElem?_eq_some_iff.1 c).1 e).trans c

theorem cell(d:Kp S a b){p:Addr}{v:Value}(c:a.cell? p=some v)(e:¬ S p.block):b.cell? p=some v:=
  (World.cell?_of_block (w:=a) (d.block p.block (World.block_lt_of_cell? a p c) e)).trans c

end Kp

theorem Kr(S:Nat->Prop)(w:World):Kp S w w:=Kp.refl S w

/-! ### Regions whose order is open,within a round -/
section
variable {P:Program} {ops:Array Oper} {Q:Exit->Act->World->Prop}

def DV(ops:Array Oper):Bool:=ops.all λ o=>match o.op with|.defer _=>false|_=>true

theorem noDefers_spec(a:DV ops=true){i:Nat}{o:Oper}(b:ops[i]?=some o):∀ c,o.op≠.defer c:=by
  intro c e
  unfold DV at a
  rw[Array.all_eq_true'] at a
  have:=a o (Array.mem_of_getElem? b)
  rw[e] at this
  cases this

theorem Oper.wpIn_of_wp{o:Oper}{a:Act}{w:World}{K:Act->World->Prop}{n l:Nat}(e:∀ c,o.op≠.defer c)(b:o.wp P a w K Q):o.wpIn (Fence.wide.inRound l) n P a w K Q:=by
  refine⟨λ _ _=>trivial,?_⟩
  unfold Oper.wp at b
  rw[Fence.inRound_round,Oper.semAt_some l a.eval o e]
  generalize (execOp a.eval o).run P w=r at*
  cases r with
  |ok x w'=>
    cases x <;> simp only[Oper.upon] at b <;> simp only[Oper.uponIn] <;> try exact b
    . exact⟨λ d=>(by simp[Fence.wide] at d),callsIn_wide.2 b⟩
    . refine⟨λ d=>(by simp[Fence.wide] at d),λ c cs _=>?_⟩
      obtain⟨v,f,r,s⟩:=b c cs
      exact⟨v,f,r,stepsIn_wide.2 s⟩
  |halt x w'=>cases x <;> simp only[Oper.upon] at b <;> simp only[Oper.uponIn] <;> exact b

theorem Dh{n l:Nat}(d:DV ops=true)(e:∀ a w,¬ Q .outgrown a w):∀ (c:List Nat) (a:Act) (w:World),wpOps P ops Q c a w->wpOpsIn (Fence.wide.inRound l) n P ops Q c a w
  |[],_,_,b=>b
  |i::c,a,w,b=>by
    simp only[wpOps] at b
    simp only[wpOpsIn]
    cases ho:ops[i]? with
    |none=>simp only[ho] at b ⊢;exact Dh d e c a w b
    |some o=>
      simp only[ho] at b ⊢
      split
      . rename_i f
        simp only[f,if_true] at b
        rcases b with b|⟨_,a',w',b⟩
        . exact Oper.wpIn_of_wp (noDefers_spec d ho) (Oper.wp_mono (λ a' w'=>Dh d e c a' w') b)
        . exact(e _ _ b).elim
      . rename_i f
        simp only[f] at b
        exact⟨λ _ _=>trivial,Dh d e c _ w b⟩

theorem wpIn_region_any{f n l:Nat}{a:Act}{w:World}(d:P.follows .mixedOrders=true)(c:DV ops=true)(e:∀ a w,¬ Q .outgrown a w)
    (b:wpAny P .any ops Q ops.size (Array.replicate ops.size false) a {w with drawn:=w.drawn+1}):(Code.region f ops true).wpIn (Fence.wide.inRound l) n P Q a w:=
  wpIn_region_draw λ t=>by
    simp only[Region.schedule,d,Bool.true_or,if_true]
    exact Dh c e _ _ _ (wpAny_sound ops.size t _ a _ b)

/-! Reads and quiet calls first,in whatever order;then a tail in one order: a store,an append. -/

def wpAnyLQ(P:Program)(md:Region.Mode)(ops:Array Oper)(C:World->Prop)(n:Nat)(L:Array Bool->Act->Prop):Nat->Array Bool->Act->Prop
  |0,listed,a=>L listed a
  |f+1,listed,a=>
    Region.ready md ops listed≠[]/\∀ i∈Region.ready md ops listed,i<n/\qOp P ops C i (wpAnyLQ P md ops C n L f (listed.setIfInBounds i true)) a

theorem wpAny_of_headQ{md:Region.Mode}{C:World->Prop}{n g:Nat}{L:Array Bool->Act->Prop}{Q':Exit->Act->World->Prop}(c:∀ b a w,C w->L b a->wpAny P md ops Q' g b a w):
    ∀ (f:Nat) (b:Array Bool) (a:Act) (w:World),C w->wpAnyLQ P md ops C n L f b a->wpAny P md ops Q' (f+g) b a w
  |0,b,a,w,hw,h=>by rw[Nat.zero_add];exact c _ _ _ hw h
  |f+1,b,a,w,hw,h=>by
    rw[show f+1+g=(f+g)+1 by omega]
    exact⟨λ e=>absurd e h.1,λ i j=>wpOp_of_qOp hw (λ a' w' k d=>wpAny_of_headQ c f _ a' w' k d) (h.2 i j).2⟩

theorem wpAnyLQ_first{md:Region.Mode}{C:World->Prop}{n i:Nat}{q:Oper}{v:Value}{L:Array Bool->Act->Prop}(x:ops[i]?=some q)(I:∀ (j:Nat) (o:Oper) cs b,ops[j]?=some o->o.op≠.select cs b)
    (G:Region.sinkB md ops n=true) (A:Region.chainB md ops n=true) (F:n<ops.size) (D:i<n)
    (N:∀ c a,L c a->∀ j∈Region.ready md ops c,n<=j):
    ∀ (f:Nat) (c:Array Bool) (a:Act),HeadInv md ops n c->
      (∀ j p,ops[j]?=some p->j≠i->c.getD j true=false->(∀ e∈p.after,Region.binds md e=true->e.on≠i)->q.apart ops p=true)->
      i∈Region.ready md ops c->Go.YieldsIn P ops C q v a->
      wpAnyLQ P md ops C n L f (c.setIfInBounds i true) (a.put q.dst v)->wpAnyLQ P md ops C n L (f+1) c a:=by
  intro f
  induction f with
  |zero=>
    intro c a w _ g u H
    have m:=(mem_ready.1 g).1
    refine⟨λ d=>(by rw[d] at g;cases g),λ j l=>?_⟩
    have t:j<n:=by
      rcases Nat.lt_or_ge j n with d|d
      . exact d
      . exact absurd l (tail_waits G A F w _ i rfl D m j d)
    refine⟨t,?_⟩
    by_cases hji:j=i
    . subst hji;exact u.qOp x H
    . have:=N _ _ H j (ready_mono l hji)
      omega
  |succ f ih=>
    intro c a w B g u H
    have m:=(mem_ready.1 g).1
    refine⟨λ d=>(by rw[d] at g;cases g),λ j l=>?_⟩
    have t:j<n:=by
      rcases Nat.lt_or_ge j n with d|d
      . exact d
      . exact absurd l (tail_waits G A F w _ i rfl D m j d)
    refine⟨t,?_⟩
    by_cases hji:j=i
    . subst hji;exact u.qOp x H
    . have s:=(H.2 j (ready_mono l hji)).2
      obtain⟨E,p,y,K⟩:=mem_ready.1 l
      have V:∀ e∈p.after,Region.binds md e=true->e.on≠i:=λ e O M Q=>by
        have s:=K e O M
        rw[Q,getD_both m] at s
        cases s
      have J:=qOp_put y (B j p y hji E V) (λ cs b=>I i q cs b x) (λ cs b=>I j p cs b y) u s
      have R:∀ k r,ops[k]?=some r->k≠i->(c.setIfInBounds j true).getD k true=false->
          (∀ e∈r.after,Region.binds md e=true->e.on≠i)->q.apart ops r=true:=λ k r S T m U=>by
        refine B k r S T ?_ U
        by_cases hjk:j=k
        . subst hjk;exact E
        . rw[getD_set_ne true hjk] at m;exact m
      refine qOp_mono (λ a' z=>ih (c.setIfInBounds j true) a' (w.set l t) R (ready_mono g (Ne.symm hji)) z.1 ?_) J
      rw[Array.setIfInBounds_comm _ _ hji]
      exact z.2

theorem wpAnyLQ_lex{md:Region.Mode}{C:World->Prop}{n g:Nat}{d:Act->Prop}(q:Region.noSelect ops=true)(p:Region.sinkB md ops n=true)(e:Region.chainB md ops n=true)(i:n<ops.size):
    ∀ (l:List Oper) (k:Nat) (b:Array Bool) (a:Act),(∀ j,j<l.length->l[j]?=ops[k+j]?)->k+l.length=n->HeadInv md ops n b->
    Region.lexHead md ops g l.length k b=true->wpQuiet P ops C d l a->
    wpAnyLQ P md ops C n (λ r a'=>Region.seqB md ops g n r=true/\d a') l.length b a
  |[],k,b,a,_,hk,_,hB,h=>by
    have:k=n:=by simpa using hk
    subst this
    exact⟨by simpa [Region.lexHead] using hB,h⟩
  |o::l,k,b,a,hl,hk,inv,hB,h=>by
    have c:ops[k]?=some o:=by simpa using (hl 0 (by simp)).symm
    simp only[List.length_cons,Region.lexHead,Bool.and_eq_true] at hB
    obtain⟨⟨w,u⟩,s⟩:=hB
    have f:k<n:=by simp only[List.length_cons] at hk;omega
    have m:k∈Region.ready md ops b:=by simpa using w
    have x:qOp P ops C k (wpQuiet P ops C d l) a:=by unfold qOp;simp only[c];exact h
    obtain⟨v,y,hK⟩:=yieldsIn_of_qOp c x
    exact wpAnyLQ_first c (Region.noSelect_spec q) p e i f (λ r a' t=>seqB_ready t.1) l.length b a inv (Region.free_spec c u) m y
      (wpAnyLQ_lex q p e i l (k+1) _ _ (λ j z=>by have:=hl (j+1) (by simp;omega);simpa [Nat.add_assoc,Nat.add_comm 1 j] using this) (by simp only[List.length_cons] at hk;omega) (inv.set m f) s hK)

theorem Gc{a:Act}{w:World}{l:List Oper}(n:Nat)(c:Region.lexTailB .any l.toArray n=true)
    (m:wpQuiet P l.toArray (λ w'=>∃ n,w'=w.drewN n) (λ a'=>∀ w',(∃ n,w'=w.drewN n)->wpList P l.toArray Q (l.drop n) a' w') (l.take n) a):
    wpAny P .any l.toArray Q l.toArray.size (Array.replicate l.toArray.size false) a {w with drawn:=w.drawn+1}:=by
  simp only[Region.lexTailB,Bool.and_eq_true,decide_eq_true_eq] at c
  obtain⟨⟨⟨⟨s,k⟩,r⟩,o⟩,q⟩:=c
  have z:n<l.length:=by simpa using k
  have b:(l.take n).length=n:=by simp;omega
  have e:(l.drop n).length=l.toArray.size-n:=by simp
  have x:HeadInv .any l.toArray n (Array.replicate l.toArray.size false):=
    ⟨by simp,λ j A _ i=>(by rw[getD_replicate_false] at i;cases i),λ t _ u=>getD_in (by simpa using u) (getD_replicate_false _ _)⟩
  have H:=wpAnyLQ_lex (md:=.any) (g:=l.toArray.size-n) s r o k (l.take n) 0 _ a (λ j f=>by
    have p:j<n:=by rw[b] at f;exact f
    simp[p]) (by simpa using b) x (by rw[b];exact q) m
  have:=wpAny_of_headQ (Q':=Q) (g:=l.toArray.size-n) (λ y a' w' v d=>by
    have:=wpAny_of_seq (md:=.any) (Q':=Q) (l.drop n) n y a' w' (λ j=>by simp[List.getElem?_drop]) (by rw[e];exact d.1) (d.2 w' v)
    rwa [e] at this) _ _ _ {w with drawn:=w.drawn+1} ⟨1,rfl⟩ H
  rw[b,show n+(l.toArray.size-n)=l.toArray.size by omega] at this
  exact this

theorem Br{e:Nat}{a:Act}{w:World}{l:List Oper}(n:Nat)(d:P.follows .mixedOrders=true)(c:Region.lexTailB .any l.toArray n=true)
    (b:wpQuiet P l.toArray (λ w'=>∃ n,w'=w.drewN n) (λ a'=>∀ w',(∃ n,w'=w.drewN n)->wpList P l.toArray Q (l.drop n) a' w') (l.take n) a):(Code.region e l.toArray true).wp P Q a w:=
  wp_region_any d (Gc n c b)

theorem BM{g m i:Nat}{a:Act}{w:World}{l:List Oper}(n:Nat)(e:P.follows .mixedOrders=true)(c:Region.lexTailB .any l.toArray n=true)(d:DV l.toArray=true)(f:∀ a w,¬ Q .outgrown a w)
    (b:wpQuiet P l.toArray (λ w'=>∃ n,w'=w.drewN n) (λ a'=>∀ w',(∃ n,w'=w.drewN n)->wpList P l.toArray Q (l.drop n) a' w') (l.take n) a):(Code.region g l.toArray true).wpIn (Fence.wide.inRound i) m P Q a w:=
  wpIn_region_any e d f (Gc n c b)
end

variable {P:Program} {n:Nat}

theorem cell_putObj{W:World}{l:Nat}{o b:Obj}(c:W.heap[l]?=some o)(d:o.isCells=false)(f:b.isCells=false)(a:Addr):(W.putObj l b).cell? a=W.cell? a:=by
  unfold World.cell?
  by_cases e:a.block=l
  . rw[e,World.putObj_heap_same (Array.getElem?_eq_some_iff.1 c).1,c]
    cases o <;> cases b <;> simp_all [Obj.isCells]
  . rw[World.putObj_heap_other e]

theorem frozen_putObj{W:World}{l:Nat}{o b:Obj}(c:W.heap[l]?=some o)(d:o.isCells=false)(f:b.isCells=false)(a:Addr):(W.putObj l b).frozen? a=W.frozen? a:=by
  unfold World.frozen?
  by_cases e:a.block=l
  . rw[e,World.putObj_heap_same (Array.getElem?_eq_some_iff.1 c).1,c]
    cases o <;> cases b <;> simp_all [Obj.isCells]
  . rw[World.putObj_heap_other e]

def newIn(S S':Nat->Prop)(A:World):Bool->Prop
  |true=>∀ k,S' k->S k\/A.heap.size<=k
  |false=>True

theorem newIn_le{S S':Nat->Prop}{a b:World}{t:Bool}(c:a.heap.size<=b.heap.size)(f:newIn S S' b t):newIn S S' a t:=by
  cases t with
  |false=>trivial
  |true=>exact λ k e=>(f k e).imp id λ d=>Nat.le_trans c d

def IterG(P:Program){α:Type}(g:Nat)(lb:Array Value)(encs:α->Array Value)(xs:List α)(O R X:Nat->Prop)(t:Bool)(Rd:List α->(Nat->Prop)->World->Prop)(w:World):Prop:=
  ∀ (l:Nat) (J:List α->(Nat->Prop)->World->Prop) (Jx:List α->World->Prop) (S0:Nat->Prop) (W:World),Kp Aa w W->w.heap.size<=l->l<W.heap.size->
    (∀ pre S A,J pre S A->Rd pre S A/\∀ k,S k->(R k\/W.heap.size<=k)/\k<A.heap.size)->
    (∀ pre S A B,J pre S A->Kp O A B->J pre S B)->(∀ pre A B,Jx pre A->Kp O A B->Jx pre B)->
    (∀ pre S x rest A,xs=pre++x::rest->J pre S A->YieldAt Fence.wide 0 P l (encs x) A λ e B=>
      (e=.returned (.bool true)/\Kp (λ k=>S k\/k=l) A B/\∃ S',J (pre++[x]) S' B/\newIn S S' A t)\/(e=.returned (.bool false)/\Kp (λ k=>(X k\/S k)\/k=l) A B/\Jx (pre++[x]) B))->
    J [] S0 W->
    Calls P g (#[.func (.yield l) #[] #[]]++lb) W λ e B=>(∃ v,e=.returned v)/\((∃ S,J xs S B)\/∃ pre,pre <+: xs/\Jx pre B)

theorem yield_weak{F:Fence}{m:Nat}{l:Nat}{args:Array Value}{W:World}{Q Q':Ending->World->Prop}(b:YieldAt F m P l args W Q)(c:∀ e a,Q e a->Q' e a):YieldAt F m P l args W Q':=by
  obtain⟨fn,tmps,assign,body,f,d⟩:=b
  exact⟨fn,tmps,assign,body,f,d.mono c⟩

def EY{α:Type}(t:Bool)(S X:Nat->Prop)(I:List α->(Nat->Prop)->World->Prop)(Ix:Code->List α->World->Prop)(xs:List α)(W:World):Exit->Act->World->Prop
  |.normal,_,W'=>Kp S W W'/\∃ S',I xs S' W'/\newIn S S' W t
  |.ret,_,W'=>Kp (λ k=>X k\/S k) W W'/\Ix .ret xs W'
  |.exit id,_,W'=>Kp (λ k=>X k\/S k) W W'/\Ix (.exit id) xs W'
  |.goto t,_,W'=>Kp (λ k=>X k\/S k) W W'/\Ix (.goto t) xs W'
  |.panic _,_,_=>False
  |.outgrown,_,_=>False

theorem wpIn_rangeG{α:Type}{g:Operand}{ps:Array Tmp}{assign body:Code}{Q:Exit->Act->World->Prop}{a:Act}{w:World}
    {gf:Nat} {lb:Array Value} (d7:a.eval g=.func (.func gf) #[] lb) (c3:∀ args w,(callFunc gf args).run P w=.ok (.enter gf args) w)
    {a4:α->Array Value} {xs:List α} {Z R X:Nat->Prop} {t:Bool} {Rd:List α->(Nat->Prop)->World->Prop} (d9:IterG P gf lb a4 xs Z R X t Rd w) (a8:∀ k,Z k->k<w.heap.size) (c9:∀ k,R k->k<w.heap.size) (b2:∀ k,X k->k<w.heap.size) (e3:∀ x,(a4 x).size=ps.size)
    (I:List α->(Nat->Prop)->World->Prop) (J:Code->List α->World->Prop) (S0:Nat->Prop)
    (b0:∀ f S s,I f S s->Rd f S s/\∀ k,S k->(R k\/w.heap.size+2<=k)/\k<s.heap.size)
    (a6:∀ f S s H,I f S s->Kp (λ k=>Z k\/k=w.heap.size\/k=w.heap.size+1) s H->I f S H)
    (a2:∀ c f s H,J c f s->Kp (λ k=>Z k\/k=w.heap.size\/k=w.heap.size+1) s H->J c f H)
    (c4:I [] S0 w)
    (e4:∀ (f:List α) (S:Nat->Prop) (x:α) (rest:List α) (W:World),xs=f++x::rest->I f S W->w.heap.size+2<=W.heap.size->
      assign.wpIn (Fence.wide.inRound (w.heap.size+1)) n P (Exit.then (λ a1 B=>Kp S W B/\
          ∀ m,(∀ p,m.cell? p=B.cell? p)->(∀ p,m.frozen? p=B.frozen? p)->Kp (λ k=>k=w.heap.size+1) B m->m.heap.size=B.heap.size->(∃ r,m.heap[w.heap.size+1]?=some (.loop r))->
            body.wpIn (Fence.wide.inRound (w.heap.size+1)) n P (EY t S X I J (f++[x]) m) a1 m) (λ _ _ _=>False))
        {tmps:=(ps.zip (a4 x)).foldl (λ t (p,v)=>t.setIfInBounds p v) a.tmps,defers:=[]} W)
    (d4:∀ (S:Nat->Prop) (W:World),I xs S W->w.heap.size+2<=W.heap.size->W.heap[w.heap.size]?=some (.deferred (some []))->Q .normal {a with defers:={target:=.collected w.heap.size,args:=#[]}::a.defers} W)
    (e7:∀ (c:Code) (f:List α) (W:World),f <+: xs->J c f W->w.heap.size+2<=W.heap.size->W.heap[w.heap.size]?=some (.deferred (some []))->
      c.wpIn Fence.wide n P Q {a with defers:={target:=.collected w.heap.size,args:=#[]}::a.defers} W):
    (Code.rangeFunc g ps assign body).wpIn Fence.wide n P Q a w:=by
  refine wpIn_rangeFunc ?_
  intro fn d6
  rw[show Fence.wide.round=none from rfl]
  obtain⟨q,G⟩:∃ q:LoopState->Option Code->Loop,q=λ f0 e9=>{state:=f0,pending:=e9,fn,tmps:=a.tmps,params:=ps,assign,body,defers:=w.heap.size}:=⟨_,rfl⟩
  obtain⟨A,a3⟩:∃ A,(w.alloc (.deferred (some []))).alloc (.loop (q .ready none))=A:=⟨_,rfl⟩
  have c8:A.heap[w.heap.size+1]?=some (.loop (q .ready none)):=by
    rw[<- a3];have:=wN (w.alloc (.deferred (some []))) (.loop (q .ready none));rwa [World.size_alloc] at this
  have c7:A.heap[w.heap.size]?=some (.deferred (some [])):=by
    rw[<- a3];exact (Below.heap_alloc _ _ _ (by simp)).trans (wN w _)
  have b7:Kp Aa w A:=by rw[<- a3];exact ((Kr _ w).alloc _).alloc _
  have f4:A.heap.size=w.heap.size+2:=by rw[<- a3];simp
  have c6:I [] S0 A:=a6 _ _ _ _ c4 (b7.mono λ_ _ d5=>d5.elim)
  refine⟨w.heap.size+1,[{target:=.collected w.heap.size,args:=#[]}],A,{target:=.fn (.func gf) lb,args:=#[.func (.yield (w.heap.size+1)) #[] #[]]},A,gf,
    #[.func (.yield (w.heap.size+1)) #[] #[]]++lb,A,?_,?_,?_,?_,λ d8=>(by simp[Fence.wide] at d8),?_⟩
  . rw[<- a3,G];exact run_enterLoop_outer _ _ _ _ _
  . simp only[resolve,d7]
    simp[go_sem]
  . intro f2 _;trivial
  . simp[invoke,go_sem,c3]
  . refine callsIn_wide.2 ((d9 (w.heap.size+1)
      (λ f S W=>I f S W/\W.heap[w.heap.size+1]?=some (.loop (q .ready none))/\W.heap[w.heap.size]?=some (.deferred (some [])))
      (λ f W=>∃ c,J c f W/\W.heap[w.heap.size+1]?=some (.loop (q .done (some c)))/\W.heap[w.heap.size]?=some (.deferred (some [])))
      S0 A b7 (by omega) (by omega) ?_ ?_ ?_ ?_ ⟨c6,c8,c7⟩).mono ?_)
    . rintro f S s ⟨z,u,D⟩
      refine⟨(b0 f S s z).1,λ k b5=>?_⟩
      obtain⟨E,b6⟩:=(b0 f S s z).2 k b5
      exact⟨by rcases E with E|E;exact .inl E;exact .inr (by omega),b6⟩
    . rintro f S s H ⟨z,u,D⟩ L
      exact⟨a6 _ _ _ _ z (L.mono λ_ _ d=>.inl d),L.at_ u (λ d=>by have:=a8 _ d;omega),L.at_ D (λ d=>by have:=a8 _ d;omega)⟩
    . rintro f s H ⟨c,z,u,D⟩ L
      exact⟨c,a2 _ _ _ _ z (L.mono λ_ _ d=>.inl d),L.at_ u (λ d=>by have:=a8 _ d;omega),L.at_ D (λ d=>by have:=a8 _ d;omega)⟩
    . rintro f S x rest W e8 ⟨z,u,D⟩
      have Y:∀ k,S k->¬ k=w.heap.size/\¬ k=w.heap.size+1:=λ k b5=>by
        obtain⟨E,b6⟩:=(b0 f S W z).2 k b5
        rcases E with E|E
        . have:=c9 k E;omega
        . omega
      have f3:w.heap.size+1<W.heap.size:=(Array.getElem?_eq_some_iff.1 u).1
      have c2:=run_yield (P:=P) (args:=a4 x) u (by rw[G];exact e3 x)
      rw[G] at c2
      refine⟨fn,_,assign,body,c2,roundIn_of_wpIn d6 ((λ (d:assign.wpIn (Fence.wide.inRound (w.heap.size+1)) 0 P _ _ W)=>d) ?_)⟩
      have c5:=e4 f S x rest W e8 z (by omega)
      have f5:∀ k,Fence.wide.room k:=room_wide
      refine wpIn_mono (Q:=Exit.then (λ a1 B=>Kp S W B/\∀ m,(∀ p,m.cell? p=B.cell? p)->(∀ p,m.frozen? p=B.frozen? p)->Kp (λ k=>k=w.heap.size+1) B m->m.heap.size=B.heap.size->(∃ r,m.heap[w.heap.size+1]?=some (.loop r))->
            body.wpIn (Fence.wide.inRound (w.heap.size+1)) n P (EY t S X I J (f++[x]) m) a1 m) (λ _ _ _=>False)) (λ b k cs b4 b3 F=>c5 b k cs b4 b3 (room_wide _)) ?_
      rintro e a1 a0 o
      cases e with
      |normal=>
        obtain⟨a7,d2⟩:=o
        have a9:=a7.at_ u (λ d=>by have:=Y _ d;omega)
        have e1:=a7.at_ D (λ d=>by have:=Y _ d;omega)
        refine⟨_,run_beginRound a9 (by rw[G]),?_⟩
        obtain⟨y,K⟩:∃ y,a0.putObj (w.heap.size+1) (.loop {q .ready none with state:=.busy})=y:=⟨_,rfl⟩
        rw[K]
        have e2:w.heap.size+1<a0.heap.size:=(Array.getElem?_eq_some_iff.1 a9).1
        have c0:y.heap[w.heap.size+1]?=some (.loop {q .ready none with state:=.busy}):=by rw[<- K];exact World.putObj_heap_same e2
        have e0:y.heap[w.heap.size]?=some (.deferred (some [])):=by rw[<- K];exact (World.putObj_heap_other (by omega)).trans e1
        have b8:Kp (λ k=>k=w.heap.size+1) a0 y:=by rw[<- K];exact (Kr (λ k=>k=w.heap.size+1) a0).putObj (λ _=>rfl) _
        have e5:y.heap.size=a0.heap.size:=by rw[<- K];simp
        have d0:=d2 y (λ p=>by rw[<- K];exact cell_putObj a9 rfl rfl p) (λ p=>by rw[<- K];exact frozen_putObj a9 rfl rfl p) b8 e5 ⟨_,c0⟩
        have d1:body.wpIn (Fence.wide.inRound (w.heap.size+1)) 0 P (EY t S X I J (f++[x]) y) a1 y:=λ b k cs b4 b3 F=>d0 b k cs b4 b3 (room_wide _)
        refine wpIn_mono d1 ?_
        have a5:∀ (T:Nat->Prop) (b1:∀ k,T k->¬ k=w.heap.size/\¬ k=w.heap.size+1) (b9:∀ k,S k->T k) (j:Option Code) (l:World),Kp T y l->
            (Instr.endRound (w.heap.size+1) j).run P l=.ok (.bool j.isNone) (l.putObj (w.heap.size+1) (.loop (q (if j.isNone then .ready else .done) j)))/\
            (l.putObj (w.heap.size+1) (.loop (q (if j.isNone then .ready else .done) j))).heap[w.heap.size+1]?=some (.loop (q (if j.isNone then .ready else .done) j))/\
            (l.putObj (w.heap.size+1) (.loop (q (if j.isNone then .ready else .done) j))).heap[w.heap.size]?=some (.deferred (some []))/\
            Kp (λ k=>Z k\/k=w.heap.size\/k=w.heap.size+1) l (l.putObj (w.heap.size+1) (.loop (q (if j.isNone then .ready else .done) j)))/\
            Kp (λ k=>T k\/k=w.heap.size+1) W (l.putObj (w.heap.size+1) (.loop (q (if j.isNone then .ready else .done) j))):=λ T b1 b9 j l C=>by
          have c1:=C.at_ c0 (λ d=>by have:=b1 _ d;omega)
          have d3:=C.at_ e0 (λ d=>by have:=b1 _ d;omega)
          have:=run_endRound (P:=P) j c1
          rw[G] at this ⊢
          refine⟨this,World.putObj_heap_same (Array.getElem?_eq_some_iff.1 c1).1,(World.putObj_heap_other (by omega)).trans d3,(Kr _ l).putObj (λ _=>.inr (.inr rfl)) _,?_⟩
          refine Kp.putObj ?_ (λ _=>.inr rfl) _
          exact((a7.mono λ_ _ d=>.inl (b9 _ d)).trans b8 (λ i _ d=>.inr d)).trans C (λ i _ d=>.inl d)
        rintro e f1 l o
        cases e with
        |normal=>
          obtain⟨C,S',M,e6⟩:=o
          obtain⟨F,V,N,O,U⟩:=a5 S Y (λ _ d=>d) none l C
          exact⟨_,_,F,.inl ⟨rfl,U,S',⟨a6 _ _ _ _ M O,V,N⟩,newIn_le (by have:=a7.size;omega) e6⟩⟩
        |ret=>
          obtain⟨C,M⟩:=o
          obtain⟨F,V,N,O,U⟩:=a5 (λ k=>X k\/S k) (λ k d=>by rcases d with d|d;have:=b2 k d;omega;exact Y k d) (λ _ d=>.inr d) (some .ret) l C
          exact⟨_,_,F,.inr ⟨rfl,U,.ret,a2 _ _ _ _ M O,V,N⟩⟩
        |exit id=>
          obtain⟨C,M⟩:=o
          obtain⟨F,V,N,O,U⟩:=a5 (λ k=>X k\/S k) (λ k d=>by rcases d with d|d;have:=b2 k d;omega;exact Y k d) (λ _ d=>.inr d) (some (.exit id)) l C
          exact⟨_,_,F,.inr ⟨rfl,U,.exit id,a2 _ _ _ _ M O,V,N⟩⟩
        |goto t=>
          obtain⟨C,M⟩:=o
          obtain⟨F,V,N,O,U⟩:=a5 (λ k=>X k\/S k) (λ k d=>by rcases d with d|d;have:=b2 k d;omega;exact Y k d) (λ _ d=>.inr d) (some (.goto t)) l C
          exact⟨_,_,F,.inr ⟨rfl,U,.goto t,a2 _ _ _ _ M O,V,N⟩⟩
        |panic ch=>exact o.elim
        |outgrown=>exact o.elim
      |exit id=>exact o.elim
      |goto t=>exact o.elim
      |ret=>exact o.elim
      |panic ch=>exact o.elim
      |outgrown=>exact o.elim
    . rintro e y ⟨⟨v,rfl⟩,(⟨S,z,u,D⟩|⟨f,o,c,z,u,D⟩)⟩
      . refine⟨none,_,by have:=run_endLoop (P:=P) u (by rw[G];simp);rw [G] at this;exact this,d4 S _ (a6 _ _ _ _ z ((Kr _ y).putObj (λ _=>.inr (.inr rfl)) _)) ?_ ((World.putObj_heap_other (by omega)).trans D)⟩
        have:=(Array.getElem?_eq_some_iff.1 u).1;simp;omega
      . refine⟨some c,_,by have:=run_endLoop (P:=P) u (by rw[G];simp);rw [G] at this;exact this,e7 c f _ o (a2 _ _ _ _ z ((Kr _ y).putObj (λ _=>.inr (.inr rfl)) _)) ?_ ((World.putObj_heap_other (by omega)).trans D)⟩
        have:=(Array.getElem?_eq_some_iff.1 u).1;simp;omega

def IterAt4(P:Program){α:Type}(g:Nat)(lb:Array Value)(encs:α->Array Value)(xs:List α)(O R:Nat->Prop)(w:World):Prop:=
  ∀ (l:Nat) (J:List α->(Nat->Prop)->World->Prop) (Jx:List α->World->Prop) (S0:Nat->Prop) (W:World),Kp Aa w W->w.heap.size<=l->l<W.heap.size->
    (∀ pre S A,J pre S A->∀ k,S k->(R k\/W.heap.size<=k)/\k<A.heap.size)->
    (∀ pre S A B,J pre S A->Kp O A B->J pre S B)->(∀ pre A B,Jx pre A->Kp O A B->Jx pre B)->
    (∀ pre S x rest A,xs=pre++x::rest->J pre S A->YieldAt Fence.wide 0 P l (encs x) A λ e B=>
      (e=.returned (.bool true)/\Kp (λ k=>S k\/k=l) A B/\∃ S',J (pre++[x]) S' B/\∀ k,S' k->S k\/A.heap.size<=k)\/(e=.returned (.bool false)/\Jx (pre++[x]) B))->
    J [] S0 W->
    Calls P g (#[.func (.yield l) #[] #[]]++lb) W λ e B=>(∃ v,e=.returned v)/\((∃ S,J xs S B)\/∃ pre,pre <+: xs/\Jx pre B)

theorem IterAt4.g{α:Type}{g:Nat}{lb:Array Value}{f:α->Array Value}{xs:List α}{d R X:Nat->Prop}{w:World}(m:IterAt4 P g lb f xs d R w):IterG P g lb f xs d R X true (λ _ _ _=>True) w:=
  λ l i j S0 W o p q t r s u n=>m l i j S0 W o p q (λ c S a b=>(t c S a b).2) r s (λ c S x rest a v b=>yield_weak (u c S x rest a v b) λ e y=>Or.imp id λ k=>⟨k.1,k.2.2⟩) n

abbrev roundEnd4{α:Type}(S X:Nat->Prop)(I:List α->(Nat->Prop)->World->Prop)(Ix:Code->List α->World->Prop)(xs:List α)(W:World):Exit->Act->World->Prop:=EY true S X I Ix xs W

theorem wpIn_range4{α:Type}{g:Operand}{ps:Array Tmp}{assign body:Code}{Q:Exit->Act->World->Prop}{a:Act}{w:World}
    {gf:Nat} {lb:Array Value} (F:a.eval g=.func (.func gf) #[] lb) (q:∀ args w,(callFunc gf args).run P w=.ok (.enter gf args) w)
    {m:α->Array Value} {xs:List α} {l R X:Nat->Prop} (G:IterAt4 P gf lb m xs l R w) (A:∀ k,l k->k<w.heap.size) (B:∀ k,R k->k<w.heap.size) (D:∀ k,X k->k<w.heap.size) (H:∀ x,(m x).size=ps.size)
    (I:List α->(Nat->Prop)->World->Prop) (i:Code->List α->World->Prop) (S0:Nat->Prop)
    (C:∀ b S d,I b S d->∀ k,S k->(R k\/w.heap.size+2<=k)/\k<d.heap.size)
    (y:∀ b S d f,I b S d->Kp (λ k=>l k\/k=w.heap.size\/k=w.heap.size+1) d f->I b S f)
    (z:∀ c b d f,i c b d->Kp (λ k=>l k\/k=w.heap.size\/k=w.heap.size+1) d f->i c b f)
    (u:I [] S0 w)
    (J:∀ (b:List α) (S:Nat->Prop) (x:α) (rest:List α) (W:World),xs=b++x::rest->I b S W->w.heap.size+2<=W.heap.size->
      assign.wpIn (Fence.wide.inRound (w.heap.size+1)) n P (Exit.then (λ o j=>Kp S W j/\
          ∀ e,(∀ p,e.cell? p=j.cell? p)->(∀ p,e.frozen? p=j.frozen? p)->Kp (λ k=>k=w.heap.size+1) j e->e.heap.size=j.heap.size->(∃ r,e.heap[w.heap.size+1]?=some (.loop r))->
            body.wpIn (Fence.wide.inRound (w.heap.size+1)) n P (roundEnd4 S X I i (b++[x]) e) o e) (λ _ _ _=>False))
        {tmps:=(ps.zip (m x)).foldl (λ t (p,v)=>t.setIfInBounds p v) a.tmps,defers:=[]} W)
    (E:∀ (S:Nat->Prop) (W:World),I xs S W->w.heap.size+2<=W.heap.size->W.heap[w.heap.size]?=some (.deferred (some []))->Q .normal {a with defers:={target:=.collected w.heap.size,args:=#[]}::a.defers} W)
    (K:∀ (c:Code) (b:List α) (W:World),b <+: xs->i c b W->w.heap.size+2<=W.heap.size->W.heap[w.heap.size]?=some (.deferred (some []))->
      c.wpIn Fence.wide n P Q {a with defers:={target:=.collected w.heap.size,args:=#[]}::a.defers} W):
    (Code.rangeFunc g ps assign body).wpIn Fence.wide n P Q a w:=
  wpIn_rangeG F q (t:=true) (Rd:=λ _ _ _=>True) G.g A B D H I i S0 (λ b S d s=>⟨trivial,C b S d s⟩) y z u J E K

def IterAt2(P:Program){α:Type}(g:Nat)(lb:Array Value)(encs:α->Array Value)(xs:List α)(O R X:Nat->Prop)(w:World):Prop:=
  ∀ (l:Nat) (J Jx:List α->World->Prop) (W:World),Kp Aa w W->w.heap.size<=l->l<W.heap.size->
    (∀ pre A B,J pre A->Kp O A B->J pre B)->(∀ pre A B,Jx pre A->Kp O A B->Jx pre B)->
    (∀ pre x rest A,xs=pre++x::rest->J pre A->YieldAt Fence.wide 0 P l (encs x) A λ e B=>
      (e=.returned (.bool true)/\Kp (λ k=>R k\/k=l) A B/\J (pre++[x]) B)\/(e=.returned (.bool false)/\Kp (λ k=>X k\/k=l) A B/\Jx (pre++[x]) B))->
    J [] W->
    Calls P g (#[.func (.yield l) #[] #[]]++lb) W λ e B=>(∃ v,e=.returned v)/\(J xs B\/∃ pre,pre <+: xs/\Jx pre B)

theorem IterAt2.g{α:Type}{g:Nat}{lb:Array Value}{n:α->Array Value}{xs:List α}{m R X:Nat->Prop}{w:World}(u:IterAt2 P g lb n xs m R X w)(C:∀ k,R k->X k):IterG P g lb n xs m R X false (λ _ S _=>S=R) w:=
  λ l r s S0 W v y z p A B D o=>by
    have t:=(p _ _ _ o).1
    subst t
    refine(u l (λ b a=>r b S0 a) s W v y z (λ b a d=>A b S0 a d) B (λ b x rest a G F=>yield_weak (D b S0 x rest a G F) ?_) o).mono λ e d k=>⟨k.1,k.2.imp (λ q=>⟨_,q⟩) id⟩
    rintro e d (⟨f,j,S',c,_⟩|⟨f,j,c⟩)
    . have:=(p _ _ _ c).1
      subst this
      exact .inl ⟨f,j,c⟩
    . exact .inr ⟨f,j.mono λ i _ E=>E.imp (λ q=>q.elim (λ q=>q) (C i)) id,c⟩

def roundEnd2{α:Type}(R X:Nat->Prop)(I:List α->World->Prop)(Ix:Code->List α->World->Prop)(xs:List α)(W:World):Exit->Act->World->Prop
  |.normal,_,W'=>Kp R W W'/\I xs W'
  |.ret,_,W'=>Kp X W W'/\Ix .ret xs W'
  |.exit id,_,W'=>Kp X W W'/\Ix (.exit id) xs W'
  |.goto t,_,W'=>Kp X W W'/\Ix (.goto t) xs W'
  |.panic _,_,_=>False
  |.outgrown,_,_=>False

theorem roundEnd2.g{α:Type}{R X:Nat->Prop}{I:List α->World->Prop}{c:Code->List α->World->Prop}{xs:List α}{W:World}(n:Nat)(f:n<=W.heap.size):∀ e a d,roundEnd2 R X I c xs W e a d->EY false R X (λ i S b=>S=R/\n<=b.heap.size/\I i b) c xs W e a d
  |.normal,_,_,h=>⟨h.1,R,⟨rfl,Nat.le_trans f h.1.size,h.2⟩,trivial⟩
  |.ret,_,_,h=>⟨h.1.mono λ_ _=>.inl,h.2⟩
  |.exit _,_,_,h=>⟨h.1.mono λ_ _=>.inl,h.2⟩
  |.goto _,_,_,h=>⟨h.1.mono λ_ _=>.inl,h.2⟩
  |.panic _,_,_,h=>h
  |.outgrown,_,_,h=>h

theorem wpIn_range2{α:Type}{g:Operand}{ps:Array Tmp}{assign body:Code}{Q:Exit->Act->World->Prop}{a:Act}{w:World}
    {gf:Nat} {lb:Array Value} (N:a.eval g=.func (.func gf) #[] lb) (E:∀ args w,(callFunc gf args).run P w=.ok (.enter gf args) w)
    {q:α->Array Value} {xs:List α} {o R X:Nat->Prop} (O:IterAt2 P gf lb q xs o R X w) (J:∀ k,o k->k<w.heap.size) (y:∀ k,R k->k<w.heap.size) (L:∀ k,X k->k<w.heap.size) (K:∀ k,R k->X k) (T:∀ x,(q x).size=ps.size)
    (I:List α->World->Prop) (l:Code->List α->World->Prop)
    (G:∀ b e i,I b e->Kp (λ k=>o k\/k=w.heap.size\/k=w.heap.size+1) e i->I b i)
    (H:∀ c b e i,l c b e->Kp (λ k=>o k\/k=w.heap.size\/k=w.heap.size+1) e i->l c b i)
    (F:I [] w)
    (U:∀ (b:List α) (x:α) (rest:List α) (W:World),xs=b++x::rest->I b W->w.heap.size+2<=W.heap.size->
      assign.wpIn (Fence.wide.inRound (w.heap.size+1)) n P (Exit.then (λ u j=>Kp R W j/\
          ∀ f,(∀ p,f.cell? p=j.cell? p)->(∀ p,f.frozen? p=j.frozen? p)->Kp (λ k=>k=w.heap.size+1) j f->f.heap.size=j.heap.size->(∃ r,f.heap[w.heap.size+1]?=some (.loop r))->
            body.wpIn (Fence.wide.inRound (w.heap.size+1)) n P (roundEnd2 R X I l (b++[x]) f) u f) (λ _ _ _=>False))
        {tmps:=(ps.zip (q x)).foldl (λ t (p,v)=>t.setIfInBounds p v) a.tmps,defers:=[]} W)
    (M:∀ (W:World),I xs W->w.heap.size+2<=W.heap.size->W.heap[w.heap.size]?=some (.deferred (some []))->Q .normal {a with defers:={target:=.collected w.heap.size,args:=#[]}::a.defers} W)
    (Y:∀ (c:Code) (b:List α) (W:World),b <+: xs->l c b W->w.heap.size+2<=W.heap.size->W.heap[w.heap.size]?=some (.deferred (some []))->
      c.wpIn Fence.wide n P Q {a with defers:={target:=.collected w.heap.size,args:=#[]}::a.defers} W):
    (Code.rangeFunc g ps assign body).wpIn Fence.wide n P Q a w:=
  wpIn_rangeG N E (t:=false) (Rd:=λ _ S _=>S=R) (O.g K) J y L T (λ b S e=>S=R/\w.heap.size<=e.heap.size/\I b e) l R
    (λ b S e d=>⟨d.1,λ k m=>by have:=y k (d.1▸m);have:=d.2.1;exact ⟨.inl (d.1▸m),by omega⟩⟩)
    (λ b S e i d m=>⟨d.1,Nat.le_trans d.2.1 m.size,G _ _ _ d.2.2 m⟩) H ⟨rfl,Nat.le_refl _,F⟩
    (λ b S x rest W Z s V=>by
      obtain⟨rfl,a0,s⟩:=s
      exact wpIn_mono (U b x rest W Z s V) (by
        rintro (_|_|_|_|_|_) u j d <;> first
          |exact d
          |exact ⟨d.1,λ f z A B C D=>wpIn_mono (d.2 f z A B C D) (roundEnd2.g _ (by have:=d.1.size;omega))⟩))
    (λ S W d=>M W d.2.2) Y

def IterAt(P:Program){α:Type}(g:Nat)(lb:Array Value)(encs:α->Array Value)(xs:List α)(O R:Nat->Prop)(w:World):Prop:=
  ∀ (l:Nat) (J Jx:List α->World->Prop) (W:World),Kp Aa w W->w.heap.size<=l->l<W.heap.size->
    (∀ pre A B,J pre A->Kp O A B->J pre B)->(∀ pre A B,Jx pre A->Kp O A B->Jx pre B)->
    (∀ pre x rest A,xs=pre++x::rest->J pre A->YieldAt Fence.wide 0 P l (encs x) A λ e B=>
      Kp (λ k=>R k\/k=l) A B/\((e=.returned (.bool true)/\J (pre++[x]) B)\/(e=.returned (.bool false)/\Jx (pre++[x]) B)))->
    J [] W->
    Calls P g (#[.func (.yield l) #[] #[]]++lb) W λ e B=>(∃ v,e=.returned v)/\(J xs B\/∃ pre,pre <+: xs/\Jx pre B)

theorem IterAt.two{α:Type}{g:Nat}{lb:Array Value}{b:α->Array Value}{xs:List α}{a R:Nat->Prop}{w:World}(i:IterAt P g lb b xs a R w):IterAt2 P g lb b xs a R R w:=
  λ l d f W m n o p r s j=>i l d f W m n o p r (λ v x rest c u t=>yield_weak (s v x rest c u t) λ e y k=>k.elim (λ q=>⟨q.2.1,.inl ⟨q.1,q.2.2⟩⟩) λ q=>⟨q.2.1,.inr ⟨q.1,q.2.2⟩⟩) j

def roundEnd{α:Type}(R:Nat->Prop)(I:List α->World->Prop)(Ix:Code->List α->World->Prop)(xs:List α)(W:World):Exit->Act->World->Prop
  |.normal,_,W'=>Kp R W W'/\I xs W'
  |.ret,_,W'=>Kp R W W'/\Ix .ret xs W'
  |.exit id,_,W'=>Kp R W W'/\Ix (.exit id) xs W'
  |.goto t,_,W'=>Kp R W W'/\Ix (.goto t) xs W'
  |.panic _,_,_=>False
  |.outgrown,_,_=>False

theorem wpIn_range{α:Type}{g:Operand}{ps:Array Tmp}{assign body:Code}{Q:Exit->Act->World->Prop}{a:Act}{w:World}
    {gf:Nat} {lb:Array Value} (J:a.eval g=.func (.func gf) #[] lb) (C:∀ args w,(callFunc gf args).run P w=.ok (.enter gf args) w)
    {o:α->Array Value} {xs:List α} {m R:Nat->Prop} (L:IterAt P gf lb o xs m R w) (G:∀ k,m k->k<w.heap.size) (s:∀ k,R k->k<w.heap.size) (M:∀ x,(o x).size=ps.size)
    (I:List α->World->Prop) (l:Code->List α->World->Prop)
    (E:∀ b i j,I b i->Kp (λ k=>m k\/k=w.heap.size\/k=w.heap.size+1) i j->I b j)
    (F:∀ c b i j,l c b i->Kp (λ k=>m k\/k=w.heap.size\/k=w.heap.size+1) i j->l c b j)
    (D:I [] w)
    (N:∀ (b:List α) (x:α) (rest:List α) (W:World),xs=b++x::rest->I b W->w.heap.size+2<=W.heap.size->
      assign.wpIn (Fence.wide.inRound (w.heap.size+1)) n P (Exit.then (λ q f=>Kp R W f/\
          ∀ d,(∀ p,d.cell? p=f.cell? p)->(∀ p,d.frozen? p=f.frozen? p)->Kp (λ k=>k=w.heap.size+1) f d->d.heap.size=f.heap.size->(∃ r,d.heap[w.heap.size+1]?=some (.loop r))->
            body.wpIn (Fence.wide.inRound (w.heap.size+1)) n P (roundEnd R I l (b++[x]) d) q d) (λ _ _ _=>False))
        {tmps:=(ps.zip (o x)).foldl (λ t (p,v)=>t.setIfInBounds p v) a.tmps,defers:=[]} W)
    (H:∀ (W:World),I xs W->w.heap.size+2<=W.heap.size->W.heap[w.heap.size]?=some (.deferred (some []))->Q .normal {a with defers:={target:=.collected w.heap.size,args:=#[]}::a.defers} W)
    (S:∀ (c:Code) (b:List α) (W:World),b <+: xs->l c b W->w.heap.size+2<=W.heap.size->W.heap[w.heap.size]?=some (.deferred (some []))->
      c.wpIn Fence.wide n P Q {a with defers:={target:=.collected w.heap.size,args:=#[]}::a.defers} W):
    (Code.rangeFunc g ps assign body).wpIn Fence.wide n P Q a w:=
  wpIn_range2 (X:=R) J C L.two G s s (λ _ e=>e) M I l E F D
    (λ b x rest W T K O=>wpIn_mono (N b x rest W T K O) (by
      rintro (_|_|_|_|_|_) q f e <;> first
        |exact e
        |exact ⟨e.1,λ d u y z A B=>wpIn_mono (e.2 d u y z A B) (by rintro (_|_|_|_|_|_) _ _ e <;> exact e)⟩)) H S

def IterAt3(P:Program){α:Type}(g:Nat)(lb:Array Value)(encs:α->Array Value)(xs:List α)(O R:Nat->Prop)(w:World):Prop:=
  ∀ (l:Nat) (J:List α->(Nat->Prop)->World->Prop) (Jx:List α->World->Prop) (S0:Nat->Prop) (W:World),Kp Aa w W->w.heap.size<=l->l<W.heap.size->
    (∀ pre S A,J pre S A->∀ k,S k->(R k\/W.heap.size<=k)/\k<A.heap.size)->
    (∀ pre S A B,J pre S A->Kp O A B->J pre S B)->(∀ pre A B,Jx pre A->Kp O A B->Jx pre B)->
    (∀ pre S x rest A,xs=pre++x::rest->J pre S A->YieldAt Fence.wide 0 P l (encs x) A λ e B=>
      (e=.returned (.bool true)/\Kp (λ k=>S k\/k=l) A B/\∃ S',J (pre++[x]) S' B)\/(e=.returned (.bool false)/\Jx (pre++[x]) B))->
    J [] S0 W->
    Calls P g (#[.func (.yield l) #[] #[]]++lb) W λ e B=>(∃ v,e=.returned v)/\((∃ S,J xs S B)\/∃ pre,pre <+: xs/\Jx pre B)

theorem IterAt3.two{α:Type}{g:Nat}{lb:Array Value}{o:α->Array Value}{xs:List α}{n R X:Nat->Prop}{w:World}(t:IterAt3 P g lb o xs n R w)(z:∀ k,R k->k<w.heap.size):IterAt2 P g lb o xs n R X w:=by
  intro l r s W p C D v y B u
  have G:=p.size
  refine(t l (λ c S a=>S=R/\w.heap.size<=a.heap.size/\r c a) s R W p C D ?_ ?_ y ?_ ⟨rfl,G,u⟩).mono ?_
  . rintro c S a ⟨rfl,d,f⟩ k b
    have:=z k b
    exact⟨.inl b,by omega⟩
  . rintro c S a m ⟨rfl,d,f⟩ b
    exact⟨rfl,Nat.le_trans d b.size,v _ _ _ f b⟩
  . rintro c S x rest a H ⟨rfl,d,f⟩
    obtain⟨fn,tmps,assign,body,I,F⟩:=B c x rest a H f
    refine⟨fn,tmps,assign,body,I,F.mono ?_⟩
    rintro e m (⟨rfl,i,j⟩|⟨rfl,i,j⟩)
    . exact .inl ⟨rfl,i,_,rfl,Nat.le_trans d i.size,j⟩
    . exact .inr ⟨rfl,j⟩
  . rintro e m ⟨q,⟨S,A⟩|E⟩
    . exact⟨q,.inl A.2.2⟩
    . exact⟨q,.inr E⟩

theorem IterAt3.g{α:Type}{g:Nat}{lb:Array Value}{f:α->Array Value}{xs:List α}{d R X:Nat->Prop}{w:World}(m:IterAt3 P g lb f xs d R w):IterG P g lb f xs d R X false (λ _ _ _=>True) w:=
  λ l i j S0 W o p r u s t v n=>m l i j S0 W o p r (λ c S a b=>(u c S a b).2) s t (λ c S x rest a y b=>yield_weak (v c S x rest a y b) λ e z=>Or.imp (λ k=>⟨k.1,k.2.1,k.2.2.imp λ_ q=>q.1⟩) λ k=>⟨k.1,k.2.2⟩) n

def roundEnd3{α:Type}(S X:Nat->Prop)(I:List α->(Nat->Prop)->World->Prop)(Ix:Code->List α->World->Prop)(xs:List α)(W:World):Exit->Act->World->Prop
  |.normal,_,W'=>Kp S W W'/\∃ S',I xs S' W'
  |.ret,_,W'=>Kp (λ k=>X k\/S k) W W'/\Ix .ret xs W'
  |.exit id,_,W'=>Kp (λ k=>X k\/S k) W W'/\Ix (.exit id) xs W'
  |.goto t,_,W'=>Kp (λ k=>X k\/S k) W W'/\Ix (.goto t) xs W'
  |.panic _,_,_=>False
  |.outgrown,_,_=>False

theorem roundEnd3.g{α:Type}{S X:Nat->Prop}{I:List α->(Nat->Prop)->World->Prop}{b:Code->List α->World->Prop}{xs:List α}{W:World}:∀ e a c,roundEnd3 S X I b xs W e a c->EY false S X I b xs W e a c
  |.normal,_,_,h=>⟨h.1,h.2.imp λ_ q=>⟨q,trivial⟩⟩
  |.ret,_,_,h=>h
  |.exit _,_,_,h=>h
  |.goto _,_,_,h=>h
  |.panic _,_,_,h=>h
  |.outgrown,_,_,h=>h

theorem wpIn_range3{α:Type}{g:Operand}{ps:Array Tmp}{assign body:Code}{Q:Exit->Act->World->Prop}{a:Act}{w:World}
    {gf:Nat} {lb:Array Value} (L:a.eval g=.func (.func gf) #[] lb) (B:∀ args w,(callFunc gf args).run P w=.ok (.enter gf args) w)
    {o:α->Array Value} {xs:List α} {m R X:Nat->Prop} (N:IterAt3 P gf lb o xs m R w) (F:∀ k,m k->k<w.heap.size) (G:∀ k,R k->k<w.heap.size) (J:∀ k,X k->k<w.heap.size) (O:∀ x,(o x).size=ps.size)
    (I:List α->(Nat->Prop)->World->Prop) (j:Code->List α->World->Prop) (S0:Nat->Prop)
    (H:∀ b S d,I b S d->∀ k,S k->(R k\/w.heap.size+2<=k)/\k<d.heap.size)
    (D:∀ b S d i,I b S d->Kp (λ k=>m k\/k=w.heap.size\/k=w.heap.size+1) d i->I b S i)
    (E:∀ c b d i,j c b d->Kp (λ k=>m k\/k=w.heap.size\/k=w.heap.size+1) d i->j c b i)
    (C:I [] S0 w)
    (T:∀ (b:List α) (S:Nat->Prop) (x:α) (rest:List α) (W:World),xs=b++x::rest->I b S W->w.heap.size+2<=W.heap.size->
      assign.wpIn (Fence.wide.inRound (w.heap.size+1)) n P (Exit.then (λ q f=>Kp S W f/\
          ∀ e,(∀ p,e.cell? p=f.cell? p)->(∀ p,e.frozen? p=f.frozen? p)->Kp (λ k=>k=w.heap.size+1) f e->e.heap.size=f.heap.size->(∃ r,e.heap[w.heap.size+1]?=some (.loop r))->
            body.wpIn (Fence.wide.inRound (w.heap.size+1)) n P (roundEnd3 S X I j (b++[x]) e) q e) (λ _ _ _=>False))
        {tmps:=(ps.zip (o x)).foldl (λ t (p,v)=>t.setIfInBounds p v) a.tmps,defers:=[]} W)
    (K:∀ (S:Nat->Prop) (W:World),I xs S W->w.heap.size+2<=W.heap.size->W.heap[w.heap.size]?=some (.deferred (some []))->Q .normal {a with defers:={target:=.collected w.heap.size,args:=#[]}::a.defers} W)
    (V:∀ (c:Code) (b:List α) (W:World),b <+: xs->j c b W->w.heap.size+2<=W.heap.size->W.heap[w.heap.size]?=some (.deferred (some []))->
      c.wpIn Fence.wide n P Q {a with defers:={target:=.collected w.heap.size,args:=#[]}::a.defers} W):
    (Code.rangeFunc g ps assign body).wpIn Fence.wide n P Q a w:=
  wpIn_rangeG L B (t:=false) (Rd:=λ _ _ _=>True) N.g F G J O I j S0 (λ b S d l=>⟨trivial,H b S d l⟩) D E C
    (λ b S x rest W Y M U=>wpIn_mono (T b S x rest W Y M U) (by
      rintro (_|_|_|_|_|_) q f l <;> first
        |exact l
        |exact ⟨l.1,λ e s u y z A=>wpIn_mono (l.2 e s u y z A) roundEnd3.g⟩)) K V

theorem EK{o:Oper}{a:Act}{K:Act->World->Prop}{Q:Exit->Act->World->Prop}{l:Nat}{args f:Array Value}{W:World}{C T d:World->Prop}
    (j:YieldAt Fence.wide 0 P l args W λ e b=>C b/\((e=.returned (.bool true)/\T b)\/(e=.returned (.bool false)/\d b))) (e:f=args)
    (t:∀ b,C b->T b->K (a.put o.dst (.bool true)) b) (p:∀ b,C b->d b->K (a.put o.dst (.bool false)) b):o.uponIn Fence.wide n P a K Q ((Instr.yield l f).run P W):=by
  obtain⟨fn,tmps,assign,body,u,i⟩:=j
  rw[e,u,Oper.uponIn_round]
  refine⟨λ q=>(by simp[Fence.wide] at q),i.1,λ c cs _=>?_⟩
  obtain⟨e,w',⟨g,r⟩,s⟩:=i.2 c cs (room_wide _)
  refine⟨e,w',?_,s⟩
  rcases r with ⟨rfl,m⟩|⟨rfl,k⟩
  . exact t _ g m
  . exact p _ g k

variable {P:Program} {n:Nat}

theorem uponIn_yield2{o:Oper}{a:Act}{K:Act->World->Prop}{Q:Exit->Act->World->Prop}{l:Nat}{args f:Array Value}{W:World}{T d:World->Prop}
    (i:YieldAt Fence.wide 0 P l args W λ e b=>(e=.returned (.bool true)/\T b)\/(e=.returned (.bool false)/\d b)) (e:f=args)
    (s:∀ b,T b->K (a.put o.dst (.bool true)) b) (m:∀ b,d b->K (a.put o.dst (.bool false)) b):o.uponIn Fence.wide n P a K Q ((Instr.yield l f).run P W):=by
  obtain⟨fn,tmps,assign,body,t,g⟩:=i
  rw[e,t,Oper.uponIn_round]
  refine⟨λ p=>(by simp[Fence.wide] at p),g.1,λ c cs _=>?_⟩
  obtain⟨e,w',q,r⟩:=g.2 c cs (room_wide _)
  refine⟨e,w',?_,r⟩
  rcases q with ⟨rfl,k⟩|⟨rfl,j⟩
  . exact s _ k
  . exact m _ j

variable {P:Program} {n:Nat}

open Go.RowKit Go.WideShapes Go.ChangeShapes

theorem Kp.post{H:Type}{enc:TypeId×Value->H}{P:Program}{f:Func}{s:ChangeSpec}{o y z x:Bool}{W l:World}{args:Array Value}{v:Value}{g i:List (DataW H)}{c d:List MemPlace}
    (k:Kp Aa W l) (m:DataW.Whole enc P f.params.toList s.vars o W args.toList g i (c++d))
    (u:∀ (b:Nat) (sp:Nat->Bool) (A:Bool),DataW.TrodAll enc P l b sp A f.resultTypes.toList (v.resultList f.resultTypes.size) (s.fn H (g++i)).results [])
    (q:∀ sp:Nat->Bool,(∀ p∈c++d,sp p.block=true)->DataW.TrodAll enc P l 0 sp true f.params.toList args.toList (s.fn H (g++i)).args c)
    (w:∀ sp:Nat->Bool,(∀ p∈c++d,sp p.block=true)->DataW.TrodVars enc P l sp s.vars (s.fn H (g++i)).vars d)
    (C:∀ (j:Nat) (t:TypeId) (r:Value),f.resultTypes[j]?=some t->(v.resultList f.resultTypes.size)[j]?=some r->Value.okWide P l .any 0 t r):
    s.post enc P f o y z x W args v l:=by
  have n:∀ p∈c++d,p.block<W.heap.size:=λ p a=>m.lt p a
  have below:=k.below_not
  have F:=trodAll_append (q (λ _=>true) (λ _ _=>rfl)) (u 0 (λ _=>true) true)
  refine⟨g,i,c++d,[],c,d,m,u _ _ _,q _ (λ p a=>dT (n p a)),w _ (λ p a=>dT (n p a)),
    World.keptBut_mono (λ p a=>⟨a,.inr (List.mem_append.1 a)⟩) (below.frame (· ∈c++d)),λ _=>⟨C,(s.fn H (g++i)).results++(s.fn H (g++i)).args,(s.fn H (g++i)).vars,c++d,?_,λ p a _=>a⟩⟩
  obtain⟨_,_,_,_,_,D,B⟩:=m
  exact⟨c,d,F,w _ (λ _ _=>rfl),rfl,λ b E a=>(below.frozen (n _ a)).trans (D b E a),λ e=>B e⟩

open Go.RowKit Go.WideShapes Go.ChangeShapes Go.Deep

def Bw(k:Nat)(w:World)(v:Value)(len:Nat)(x:Nat->Nat->Int):Prop:=
  ∃ a cap,v=.slice a len cap/\∀ i,i<len->∃ b o,a=some ⟨b,o,none⟩/\b<w.heap.size/\
    ∀ j,j<k->w.cell? ⟨b,o+(i*k+j),none⟩=some (.int .i64 (x i j))/\-9223372036854775808<=x i j/\x i j<=9223372036854775807

theorem Bw.keep{k:Nat}{w w':World}{v:Value}{l:Nat}{x:Nat->Nat->Int}(c:Bw k w v l x){S:Nat->Prop}(g:Kp S w w')(n:∀ b,b<w.heap.size->¬ S b):Bw k w' v l x:=by
  obtain⟨a,cap,rfl,c⟩:=c
  refine⟨a,cap,rfl,λ i m=>?_⟩
  obtain⟨b,o,rfl,d,e⟩:=c i m
  exact⟨b,o,rfl,Nat.lt_of_lt_of_le d g.size,λ j f=>⟨g.cell (e j f).1 (n b d),(e j f).2⟩⟩

theorem E9{w:World}{a:Addr}{v:Value}(d:w.cell? a=some v):a=⟨a.block,a.off,none⟩/\a.block<w.heap.size:=by
  unfold World.cell? at d
  cases hh:w.heap[a.block]? with
  |none=>rw [hh] at d;cases d
  |some o=>
    have g:a.block<w.heap.size:=(Array.getElem?_eq_some_iff.1 hh).1
    rw[hh] at d
    cases o with
    |cells c e f=>
      by_cases hs:a.spot.isSome
      . simp[hs] at d
      . refine⟨?_,g⟩
        cases a with
        |mk b o s=>cases s with
          |none=>rfl
          |some _=>simp at hs
    |_=>cases d

section
variable {H:Type} {enc:TypeId×Value->H} {P:Program}

theorem Kp.trodAll{W c:World}(k:Kp Aa W c)(f:laidOutB P=true){sp:Nat->Bool}:∀ {ts:List TypeId} {vs:List Value} {b:List (DataW H)} {ps:List MemPlace},(∀ t∈ts,P.readableRec t=true/\t<P.types.size)->
    DataW.TrodAll enc P W 0 (λ _=>true) true ts vs b ps->(∀ x∈ps,x.block<W.heap.size)->(∀ x∈ps,sp x.block=true)->DataW.TrodAll enc P c 0 sp true ts vs b ps
  |[],[],[],_,_,h,_,_=>h
  |t::ts,v::vs,d::b,ps,ht,h,hb,hs=>by
    obtain⟨p,q,i,j,e⟩:=h
    subst e
    have g:=ht t (by simp)
    exact⟨p,q,WideElems.Trod_stays f g.1 g.2 i (λ x a=>k.below_not.same (hb x (by simp[a]))) (λ x a=>hs x (by simp[a])),
      Kp.trodAll k f (λ u l=>ht u (by simp[l])) j (λ x a=>hb x (by simp[a])) (λ x a=>hs x (by simp[a])),rfl⟩

def typesB(P:Program)(ts:List TypeId):Bool:=ts.all λ t=>P.readableRec t&&decide (t<P.types.size)

theorem Kp.trodArgs{W a:World}(k:Kp Aa W a)(e:laidOutB P=true){sp:Nat->Bool}{ts:List TypeId}{vs:List Value}{b:List (DataW H)}{ps:List MemPlace}(i:typesB P ts=true)
    (c:DataW.TrodAll enc P W 0 (λ _=>true) true ts vs b ps) (d:∀ x∈ps,x.block<W.heap.size) (g:∀ x∈ps,sp x.block=true):DataW.TrodAll enc P a 0 sp true ts vs b ps:=
  k.trodAll e (λ t f=>by have:=List.all_eq_true.1 i t f;simpa using this) c d g

end

variable {P:Program} {n:Nat}

end

namespace Wd

theorem FN:(2:Nat) ^ 64=18446744073709551616:=by decide

def FY:Nat->Nat->Nat
 |0,_=>0
 |k+1,v=>v%2+FY k (v/2)

theorem onesF_zero(k:Nat):FY k 0=0:=by
 induction k with
 |zero=>rfl
 |succ k ih=>simp [FY,ih]

theorem onesF_le(k v:Nat):FY k v<=k:=by
 induction k generalizing v with
 |zero=>simp [FY]
 |succ k ih=>have:=ih (v/2);simp only[FY];omega

theorem and_pred_even(m:Nat)(d:0<m):(2*m) &&& (2*m-1)=2*(m &&& (m-1)):=by
 apply Nat.eq_of_testBit_eq
 intro i
 cases i with
 |zero=>simp
 |succ i=>
  have a:(2*m)/2=m:=by omega
  have b:(2*m-1)/2=m-1:=by omega
  have c:(2*(m &&& (m-1)))/2=m &&& (m-1):=by omega
  rw[Nat.testBit_and,Nat.testBit_succ,Nat.testBit_succ,Nat.testBit_succ,a,b,c,Nat.testBit_and]

theorem and_pred_odd(m:Nat):(2*m+1) &&& (2*m)=2*m:=by
 apply Nat.eq_of_testBit_eq
 intro i
 cases i with
 |zero=>simp
 |succ i=>
  have a:(2*m+1)/2=m:=by omega
  have b:(2*m)/2=m:=by omega
  rw[Nat.testBit_and,Nat.testBit_succ,Nat.testBit_succ,a,b,Bool.and_self]

theorem onesF_and_pred{k v:Nat}(c:v<2 ^ k)(f:v≠0):FY k (v &&& (v-1))+1=FY k v:=by
 induction k generalizing v with
 |zero=>simp at c;omega
 |succ k ih=>
  rw[Nat.pow_succ] at c
  rcases Nat.mod_two_eq_zero_or_one v with h1|h1
  .obtain ⟨m,rfl⟩:∃ m,v=2*m:=⟨v/2,by omega⟩
   have e:0<m:=by omega
   rw[and_pred_even m e,FY,FY]
   have a:(2*(m &&& (m-1)))/2=m &&& (m-1):=by omega
   have b:(2*m)/2=m:=by omega
   have:=ih (v:=m) (by omega) (by omega)
   rw[a,b];omega
  .obtain ⟨m,rfl⟩:∃ m,v=2*m+1:=⟨v/2,by omega⟩
   have d:2*m+1-1=2*m:=by omega
   rw[d,and_pred_odd,FY,FY]
   have a:(2*m)/2=m:=by omega
   have b:(2*m+1)/2=m:=by omega
   rw[a,b];omega

@[irreducible] def ones (v:Nat):Nat:=FY 64 v
theorem ones_zero:ones 0=0:=by unfold ones;exact onesF_zero 64
theorem ones_le(v:Nat):ones v<=64:=by unfold ones;exact onesF_le 64 v
theorem ones_and_pred{v:Nat}(a:v<18446744073709551616)(b:v≠0):ones (v &&& (v-1))+1=ones v:=by
 unfold ones;exact onesF_and_pred (by rw[FN];exact a) b

def lowF(v:Nat):Nat->Nat->Nat
 |0,i=>i
 |f+1,i=>if v/2 ^ i%2=1 then i else lowF v f (i+1)

def low(v:Nat):Nat:=lowF v 64 0

theorem lowF_go{v:Nat}:∀ (f i j:Nat),i<=j->j<=i+f->(∀ k,i<=k->k<j->v/2 ^ k%2≠1)->(j<i+f->v/2 ^ j%2=1)->lowF v f i=j
 |0,i,j,h1,h2,_,_=>by simp only[lowF];omega
 |f+1,i,j,h1,h2,h3,h4=>by
  simp only[lowF]
  by_cases e:i=j
  .subst e;rw [if_pos (h4 (by omega))]
  .rw [if_neg (h3 i (Nat.le_refl _) (by omega))]
   exact lowF_go f (i+1) j (by omega) (by omega) (λ k b=>h3 k (by omega)) (λ a=>h4 (by omega))

theorem low_eq{v j:Nat}(d:j<=64)(a:∀ k,k<j->v/2 ^ k%2≠1)(b:j<64->v/2 ^ j%2=1):low v=j:=
 lowF_go 64 0 j (Nat.zero_le _) (by omega) (λ k _=>a k) (λ c=>b (by omega))

theorem lowF_spec{v:Nat}:∀ (f i:Nat),i<=lowF v f i/\lowF v f i<=i+f/\(∀ k,i<=k->k<lowF v f i->v/2 ^ k%2≠1)/\(lowF v f i<i+f->v/2 ^ lowF v f i%2=1)
 |0,i=>⟨by simp[lowF],by simp[lowF],λ k l g=>by simp only[lowF] at g;omega,λ j=>by simp only[lowF] at j;omega⟩
 |f+1,i=>by
  simp only[lowF]
  by_cases e:v/2 ^ i%2=1
  .rw [if_pos e];exact ⟨Nat.le_refl _,by omega,λ k l g=>by omega,λ _=>e⟩
  .rw [if_neg e]
   obtain⟨a,b,c,d⟩:=lowF_spec f (i+1) (v:=v)
   refine⟨by omega,by omega,λ k l g=>?_,λ j=>d (by omega)⟩
   by_cases ek:k=i
   .subst ek;exact e
   .exact c k (by omega) g

theorem low_le(v:Nat):low v<=64:=by have:=(lowF_spec (v:=v) 64 0).2.1;simpa [low] using this
theorem low_below{v k:Nat}(h:k<low v):v/2 ^ k%2≠1:=(lowF_spec (v:=v) 64 0).2.2.1 k (Nat.zero_le _) h
theorem low_is{v:Nat}(h:low v<64):v/2 ^ low v%2=1:=(lowF_spec (v:=v) 64 0).2.2.2 (by simpa [low] using h)

theorem mask_lt{at_ n:Nat}(c:at_+n<=64):(2 ^ n-1)*2 ^ at_<2 ^ 64:=by
 have a:(2 ^ n-1)*2 ^ at_<2 ^ n*2 ^ at_:=Nat.mul_lt_mul_of_pos_right (by have:=Nat.two_pow_pos n;omega) (Nat.two_pow_pos _)
 have b:2 ^ n*2 ^ at_<=2 ^ 64:=by rw[<- Nat.pow_add];exact Nat.pow_le_pow_right (by decide) (by omega)
 exact Nat.lt_of_lt_of_le a b

theorem tb_not{m:Nat}(a:m<2 ^ 64)(i:Nat):(18446744073709551615-m).testBit i=(decide (i<64)&& !m.testBit i):=by
 have e:18446744073709551615-m=2 ^ 64-(m+1):=by rw[FN,Nat.add_comm,Nat.sub_add_eq]
 rw[e];exact Nat.testBit_two_pow_sub_succ a i

theorem FM(v i:Nat):v.testBit i=decide (v/2 ^ i%2=1):=by
 rw[Nat.testBit_eq_decide_div_mod_eq]

theorem and_one(v:Nat):v &&& 1=v%2:=Nat.and_one_is_mod v

end Wd

section
open Go.RowKit

theorem ret2{k j:IntKind}{a b c d:Int}(e:a=b)(f:c=d):Ending.returned (.tuple #[.int k a,.int j c])=.returned (.tuple #[.int k b,.int j d]):=by rw[e,f]
theorem ret1{k:IntKind}{a b:Int}(e:a=b):Ending.returned (.int k a)=.returned (.int k b):=by rw[e]

namespace Wd
def addS(a b:Int):Int:=if a+b<18446744073709551616 then a+b else 0
def addE(a b:Int):Int:=if a+b<18446744073709551616 then 0 else 10
def subS(a b:Int):Int:=if a<b then 0 else a-b
def subE(a b:Int):Int:=if a<b then 10 else 0
def mulS(a b:Int):Int:=if a*b<18446744073709551616 then a*b else 0
def mulE(a b:Int):Int:=if a*b<18446744073709551616 then 0 else 10
def upS(n:Int):Int:=if n<1 then 0 else (n-1)/2+1
def downS(n:Int):Int:=if n<1 then 0 else n/2
end Wd

section
variable (w:World)

theorem wrap_mod(n:Int):IntKind.u64.wrap n=n%18446744073709551616:=IntKind.wrap_u64 n

theorem wrap_of{n:Int}(a:0<=n)(b:n<18446744073709551616):IntKind.u64.wrap n=n:=by rw[wrap_mod];omega

theorem Wd.and_one'{v:Int}(k:Nat)(b:0<=v)(d:v<18446744073709551616):bits BinOp.and IntKind.u64 (v/2 ^ k) 1=((v.toNat/2 ^ k%2:Nat):Int):=by
 obtain⟨a,rfl⟩:=Int.eq_ofNat_of_zero_le b
 have e:((a:Int)/2 ^ k)=((a/2 ^ k:Nat):Int):=by simp
 have c:a/2 ^ k<18446744073709551616:=Nat.lt_of_le_of_lt (Nat.div_le_self _ _) (by omega)
 rw[e]
 have:=u64_and_nat (a/2 ^ k) 1 c (by decide)
 rw[show ((1:Nat):Int)=1 from rfl] at this
 rw[this,Wd.and_one,Int.toNat_natCast]

theorem Low_any(v:Int)(g:0<=v)(l:v<18446744073709551616):
  Calls prog 201 #[.int .u64 v] w λ e w'=>w=w'/\e=.returned (.int .i64 (Wd.low v.toNat)):=by
 have d:=Lib.hid (λ k=>Wd.and_one' (v:=v) k g l)
 go_enter func201,ntmps201
 go_wp2
 go_loop [4] (λ i=>∃ k:Nat,k<=64/\i=.int .i64 k/\∀ j,j<k->v.toNat/2 ^ j%2≠1) (λ i=>64-(intOf i).toNat)
 case atStart=>exact ⟨0,by omega,rfl,λ _ f=>by omega⟩
 case round=>
  obtain⟨k,n,rfl,b⟩:=hrel
  have b:=Lib.hid b
  by_cases hlt:k<64
  .have c:=Lib.hid (d.out k)
   by_cases a:v.toNat/2 ^ k%2=1
   .have t:(bits BinOp.and IntKind.u64 (v/2 ^ k) 1==1)=true:=by rw[c.out,a];rfl
    have a:=Lib.hid a
    go_wp2
    go_ret
    exact⟨rfl,ret1 (by rw[Wd.low_eq n b.out (λ _=>a.out)])⟩
   .have t:(bits BinOp.and IntKind.u64 (v/2 ^ k) 1==1)=false:=by rw[c.out,beq_eq_false_iff_ne];omega
    have a:=Lib.hid a
    go_wp2
    go_round
    case rel=>
     refine⟨k+1,by omega,by go_num,λ j m=>?_⟩
     by_cases e:j=k
     .subst e;exact a.out
     .exact b.out j (by omega)
    case measure=>simp [intOf];omega
  .go_wp2
   go_ret
   exact⟨rfl,ret1 (by rw[Wd.low_eq (Nat.le_refl 64) (λ j m=>b.out j (by omega)) (λ f=>by omega)];rfl)⟩

end
end

end Go.Proofs.YtfkedlgpgmaemaaGreatDoor
