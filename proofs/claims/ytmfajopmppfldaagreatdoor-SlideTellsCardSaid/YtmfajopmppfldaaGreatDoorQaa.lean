/-
  Lemmas for the laws, together: LibA, WordMath.
-/
import Derived.RangeFuncNested
import Derived.RangeFuncBound
import Derived.RangeFuncCalls
import Derived.RangeFuncLeaves
import Derived.WalkKit
import Derived.WalkLawsBesides
import Derived.Deep.QuietTactic
import Derived.BigQuiet
import Derived.OwnWalkIn
import Derived.TacticsInMore
import Derived.LoopNIn
import Derived.LoopIn
import Derived.StillTailTactics
import Derived.Lib.Hide
import Derived.Shelf.Abstract
import Derived.ChangeSame
import Derived.Deep.Slices
import Derived.Deep.Fields
import Derived.Carry
import Derived.OpenShut
import Derived.Test.YtmfajopmppfldaaGreatDoorProg
set_option linter.unusedVariables false
set_option maxHeartbeats 16000000
namespace Go.Proofs.YtmfajopmppfldaaGreatDoor
open Tryz
section
open Go.RowKit

structure Sl(p:Prop):Prop where
  out:p

theorem sE{p:Prop}(h:p):Sl p:=⟨h⟩

theorem wN(w:World)(o:Obj):(w.alloc o).heap[w.heap.size]?=some o:=World.alloc_heap_new w o

theorem dF{p:Prop}[Decidable p](h:¬ p):decide p=false:=decide_eq_false h

theorem dT{p:Prop}[Decidable p](h:p):decide p=true:=decide_eq_true h

theorem gE{α:Type}{xs:List α}{i:Nat}{a:α}:xs[i]?=some a ↔ ∃ h:i<xs.length,xs[i]=a:=List.getElem?_eq_some_iff

structure Kp(S:Nat->Prop)(w w':World):Prop where
  os:w'.os=w.os
  tape:w'.tape=w.tape
  output:w'.output=w.output
  size:w.heap.size<=w'.heap.size
  block:∀ k,k<w.heap.size->¬ S k->w'.heap[k]?=w.heap[k]?

def Ab:Nat->Prop:=λ _=>False

namespace Kp
variable {S S':Nat->Prop} {w w' a b c:World}

theorem refl(S:Nat->Prop)(w:World):Kp S w w:=⟨rfl,rfl,rfl,Nat.le_refl _,λ _ _ _=>rfl⟩

theorem trans(h:Kp S a b)(k:Kp S' b c)(hs:∀ i,i<a.heap.size->S' i->S i):Kp S a c:=
  ⟨k.os.trans h.os,k.tape.trans h.tape,k.output.trans h.output,Nat.le_trans h.size k.size,
   λ i hi hn=>(k.block i (Nat.lt_of_lt_of_le hi h.size) (λ hs'=>hn (hs i hi hs'))).trans (h.block i hi hn)⟩

theorem mono(h:Kp S a b)(hs:∀ i,i<a.heap.size->S i->S' i):Kp S' a b:=
  ⟨h.os,h.tape,h.output,h.size,λ i hi hn=>h.block i hi (λ hx=>hn (hs i hi hx))⟩

theorem Ak(h:Kp Ab a b)(S:Nat->Prop):Kp S a b:=h.mono λ_ _ hf=>hf.elim

theorem alloc(h:Kp S a w)(o:Obj):Kp S a (w.alloc o):=
  h.trans (S':=Ab) ⟨rfl,rfl,rfl,by simp,λ k hk _=>Below.heap_alloc _ _ _ hk⟩ (λ _ _ hf=>hf.elim)

theorem setCell(h:Kp S a w){p:Addr}(hp:p.block<a.heap.size->S p.block)(v:Value):Kp S a (w.setCell p v):=
  h.trans (S':=λ k=>k=p.block) ⟨rfl,rfl,rfl,by simp[World.setCell],λ k _ hn=>Below.heap_setCell _ _ _ _ hn⟩ (λ i hi e=>by subst e;exact hp hi)

theorem putObj(h:Kp S a w){r:Nat}(hr:r<a.heap.size->S r)(o:Obj):Kp S a (w.putObj r o):=
  h.trans (S':=λ k=>k=r) ⟨rfl,rfl,rfl,by simp,λ k _ hn=>World.putObj_heap_other hn⟩ (λ i hi e=>by subst e;exact hr hi)

theorem drewN(h:Kp S a w)(n:Nat):Kp S a (w.drewN n):=⟨h.os,h.tape,h.output,h.size,h.block⟩
theorem drew(h:Kp S a w):Kp S a w.drew:=⟨h.os,h.tape,h.output,h.size,h.block⟩
theorem Aj(n:Nat):Kp S w (w.drewN n):=(refl S w).drewN n

theorem grown(h:Kp S a w){row:Option Nat}(hg:w.grownBy w' row)(hr:∀ k,row=some k->k<a.heap.size->S k):Kp S a w':=
  h.trans (S':=λ k=>some k=row) ⟨hg.os,hg.tape,hg.output,hg.size,λ k hk hn=>hg.block k hk hn⟩ (λ i hi e=>hr i e.symm hi)

theorem below(h:Kp S a b){B:Nat}(hB:B<=a.heap.size)(hs:∀ k,k<B->¬ S k):Below B a b:=
  ⟨h.os,h.tape,h.output,h.size,λ k hk=>h.block k (by omega) (hs k hk)⟩

theorem below_not(h:Kp Ab a b):Below a.heap.size a b:=h.below (Nat.le_refl _) (λ _ _ hf=>hf)

theorem grownBy(h:Kp S a b){q:Nat}(hs:∀ k,k<a.heap.size->S k->k=q):a.grownBy b (some q):=
  ⟨h.os,h.tape,h.output,h.size,λ k hk hn=>h.block k hk (λ hx=>hn (by rw[hs k hk hx]))⟩

theorem at_(h:Kp S a b){k:Nat}{o:Obj}(hk:a.heap[k]?=some o)(hn:¬ S k):b.heap[k]?=some o:=
  (h.block k (Array.getElem?_eq_some_iff.1 hk).1 hn).trans hk

theorem cell(h:Kp S a b){p:Addr}{v:Value}(hc:a.cell? p=some v)(hn:¬ S p.block):b.cell? p=some v:=
  (World.cell?_of_block (w:=a) (h.block p.block (World.block_lt_of_cell? a p hc) hn)).trans hc

end Kp

theorem Kr(S:Nat->Prop)(w:World):Kp S w w:=Kp.refl S w

/-! ### Regions whose order is open,within a round -/
section
variable {P:Program} {ops:Array Oper} {Q:Exit->Act->World->Prop}

def DV(ops:Array Oper):Bool:=ops.all λ o=>match o.op with|.defer _=>false|_=>true

theorem noDefers_spec(h:DV ops=true){i:Nat}{o:Oper}(ho:ops[i]?=some o):∀ c,o.op≠.defer c:=by
  intro c e
  unfold DV at h
  rw[Array.all_eq_true'] at h
  have:=h o (Array.mem_of_getElem? ho)
  rw[e] at this
  cases this

theorem Oper.wpIn_of_wp{o:Oper}{a:Act}{w:World}{K:Act->World->Prop}{n l:Nat}(hd:∀ c,o.op≠.defer c)(h:o.wp P a w K Q):o.wpIn (Fence.wide.inRound l) n P a w K Q:=by
  refine⟨λ _ _=>trivial,?_⟩
  unfold Oper.wp at h
  rw[Fence.inRound_round,Oper.semAt_some l a.eval o hd]
  generalize (execOp a.eval o).run P w=r at*
  cases r with
  |ok x w'=>
    cases x <;> simp only[Oper.upon] at h <;> simp only[Oper.uponIn] <;> try exact h
    . exact⟨λ hh=>(by simp[Fence.wide] at hh),callsIn_wide.2 h⟩
    . refine⟨λ hh=>(by simp[Fence.wide] at hh),λ c cs _=>?_⟩
      obtain⟨v,w'',r,s⟩:=h c cs
      exact⟨v,w'',r,stepsIn_wide.2 s⟩
  |halt x w'=>cases x <;> simp only[Oper.upon] at h <;> simp only[Oper.uponIn] <;> exact h

theorem Df{n l:Nat}(hd:DV ops=true)(hq:∀ a w,¬ Q .outgrown a w):∀ (is:List Nat) (a:Act) (w:World),wpOps P ops Q is a w->wpOpsIn (Fence.wide.inRound l) n P ops Q is a w
  |[],_,_,h=>h
  |i::is,a,w,h=>by
    simp only[wpOps] at h
    simp only[wpOpsIn]
    cases ho:ops[i]? with
    |none=>simp only[ho] at h ⊢;exact Df hd hq is a w h
    |some o=>
      simp only[ho] at h ⊢
      split
      . rename_i hw
        simp only[hw,if_true] at h
        rcases h with h|⟨_,a',w',h⟩
        . exact Oper.wpIn_of_wp (noDefers_spec hd ho) (Oper.wp_mono (λ a' w'=>Df hd hq is a' w') h)
        . exact(hq _ _ h).elim
      . rename_i hw
        simp only[hw] at h
        exact⟨λ _ _=>trivial,Df hd hq is _ w h⟩

theorem wpIn_region_any{id n l:Nat}{a:Act}{w:World}(hm:P.follows .mixedOrders=true)(hd:DV ops=true)(hq:∀ a w,¬ Q .outgrown a w)
    (h:wpAny P .any ops Q ops.size (Array.replicate ops.size false) a {w with drawn:=w.drawn+1}):(Code.region id ops true).wpIn (Fence.wide.inRound l) n P Q a w:=
  wpIn_region_draw λ t=>by
    simp only[Region.schedule,hm,Bool.true_or,if_true]
    exact Df hd hq _ _ _ (wpAny_sound ops.size t _ a _ h)

/-! Reads and quiet calls first,in whatever order;then a tail in one order: a store,an append. -/

def wpAnyLQ(P:Program)(md:Region.Mode)(ops:Array Oper)(C:World->Prop)(n:Nat)(L:Array Bool->Act->Prop):Nat->Array Bool->Act->Prop
  |0,listed,a=>L listed a
  |f+1,listed,a=>
    Region.ready md ops listed≠[]/\∀ i∈Region.ready md ops listed,i<n/\qOp P ops C i (wpAnyLQ P md ops C n L f (listed.setIfInBounds i true)) a

theorem wpAny_of_headQ{md:Region.Mode}{C:World->Prop}{n g:Nat}{L:Array Bool->Act->Prop}{Q':Exit->Act->World->Prop}(hL:∀ listed a w,C w->L listed a->wpAny P md ops Q' g listed a w):
    ∀ (f:Nat) (listed:Array Bool) (a:Act) (w:World),C w->wpAnyLQ P md ops C n L f listed a->wpAny P md ops Q' (f+g) listed a w
  |0,listed,a,w,hw,h=>by rw[Nat.zero_add];exact hL _ _ _ hw h
  |f+1,listed,a,w,hw,h=>by
    rw[show f+1+g=(f+g)+1 by omega]
    exact⟨λ h0=>absurd h0 h.1,λ i hi=>wpOp_of_qOp hw (λ a' w' hw' h'=>wpAny_of_headQ hL f _ a' w' hw' h') (h.2 i hi).2⟩

theorem wpAnyLQ_first{md:Region.Mode}{C:World->Prop}{n i:Nat}{oi:Oper}{v:Value}{L:Array Bool->Act->Prop}(hi:ops[i]?=some oi)(hsel:∀ (j:Nat) (o:Oper) cs b,ops[j]?=some o->o.op≠.select cs b)
    (hs:Region.sinkB md ops n=true) (hc:Region.chainB md ops n=true) (hn:n<ops.size) (hin:i<n)
    (hdone:∀ listed a,L listed a->∀ j∈Region.ready md ops listed,n<=j):
    ∀ (f:Nat) (listed:Array Bool) (a:Act),HeadInv md ops n listed->
      (∀ j oj,ops[j]?=some oj->j≠i->listed.getD j true=false->(∀ e∈oj.after,Region.binds md e=true->e.on≠i)->oi.apart ops oj=true)->
      i∈Region.ready md ops listed->Go.YieldsIn P ops C oi v a->
      wpAnyLQ P md ops C n L f (listed.setIfInBounds i true) (a.put oi.dst v)->wpAnyLQ P md ops C n L (f+1) listed a:=by
  intro f
  induction f with
  |zero=>
    intro listed a inv _ hr hy H
    have hun:=(mem_ready.1 hr).1
    refine⟨λ h=>(by rw[h] at hr;cases hr),λ j hj=>?_⟩
    have hjn:j<n:=by
      rcases Nat.lt_or_ge j n with h|h
      . exact h
      . exact absurd hj (tail_waits hs hc hn inv _ i rfl hin hun j h)
    refine⟨hjn,?_⟩
    by_cases hji:j=i
    . subst hji;exact hy.qOp hi H
    . have:=hdone _ _ H j (ready_mono hj hji)
      omega
  |succ f ih=>
    intro listed a inv hfree hr hy H
    have hun:=(mem_ready.1 hr).1
    refine⟨λ h=>(by rw[h] at hr;cases hr),λ j hj=>?_⟩
    have hjn:j<n:=by
      rcases Nat.lt_or_ge j n with h|h
      . exact h
      . exact absurd hj (tail_waits hs hc hn inv _ i rfl hin hun j h)
    refine⟨hjn,?_⟩
    by_cases hji:j=i
    . subst hji;exact hy.qOp hi H
    . have h1:=(H.2 j (ready_mono hj hji)).2
      obtain⟨hjun,oj,hoj,hall⟩:=mem_ready.1 hj
      have hnot:∀ e∈oj.after,Region.binds md e=true->e.on≠i:=λ e he hb heq=>by
        have h1:=hall e he hb
        rw[heq,getD_both hun] at h1
        cases h1
      have h2:=qOp_put hoj (hfree j oj hoj hji hjun hnot) (λ cs b=>hsel i oi cs b hi) (λ cs b=>hsel j oj cs b hoj) hy h1
      have hfree':∀ k ok,ops[k]?=some ok->k≠i->(listed.setIfInBounds j true).getD k true=false->
          (∀ e∈ok.after,Region.binds md e=true->e.on≠i)->oi.apart ops ok=true:=λ k ok hk hki hun hno=>by
        refine hfree k ok hk hki ?_ hno
        by_cases hjk:j=k
        . subst hjk;exact hjun
        . rw[getD_set_ne true hjk] at hun;exact hun
      refine qOp_mono (λ a' h3=>ih (listed.setIfInBounds j true) a' (inv.set hj hjn) hfree' (ready_mono hr (Ne.symm hji)) h3.1 ?_) h2
      rw[Array.setIfInBounds_comm _ _ hji]
      exact h3.2

theorem wpAnyLQ_lex{md:Region.Mode}{C:World->Prop}{n g:Nat}{Lq:Act->Prop}(hsel:Region.noSelect ops=true)(hs:Region.sinkB md ops n=true)(hc:Region.chainB md ops n=true)(hn:n<ops.size):
    ∀ (l:List Oper) (k:Nat) (listed:Array Bool) (a:Act),(∀ j,j<l.length->l[j]?=ops[k+j]?)->k+l.length=n->HeadInv md ops n listed->
    Region.lexHead md ops g l.length k listed=true->wpQuiet P ops C Lq l a->
    wpAnyLQ P md ops C n (λ listed' a'=>Region.seqB md ops g n listed'=true/\Lq a') l.length listed a
  |[],k,listed,a,_,hk,_,hB,h=>by
    have:k=n:=by simpa using hk
    subst this
    exact⟨by simpa [Region.lexHead] using hB,h⟩
  |o::l,k,listed,a,hl,hk,inv,hB,h=>by
    have h0:ops[k]?=some o:=by simpa using (hl 0 (by simp)).symm
    simp only[List.length_cons,Region.lexHead,Bool.and_eq_true] at hB
    obtain⟨⟨hr,hf⟩,hB'⟩:=hB
    have hkn:k<n:=by simp only[List.length_cons] at hk;omega
    have hr':k∈Region.ready md ops listed:=by simpa using hr
    have hst:qOp P ops C k (wpQuiet P ops C Lq l) a:=by unfold qOp;simp only[h0];exact h
    obtain⟨v,hy,hK⟩:=yieldsIn_of_qOp h0 hst
    exact wpAnyLQ_first h0 (Region.noSelect_spec hsel) hs hc hn hkn (λ listed' a' hL=>seqB_ready hL.1) l.length listed a inv (Region.free_spec h0 hf) hr' hy
      (wpAnyLQ_lex hsel hs hc hn l (k+1) _ _ (λ j hj=>by have:=hl (j+1) (by simp;omega);simpa [Nat.add_assoc,Nat.add_comm 1 j] using this) (by simp only[List.length_cons] at hk;omega) (inv.set hr' hkn) hB' hK)

theorem FO{a:Act}{w:World}{l:List Oper}(n:Nat)(hB:Region.lexTailB .any l.toArray n=true)
    (h:wpQuiet P l.toArray (λ w'=>∃ n,w'=w.drewN n) (λ a'=>∀ w',(∃ n,w'=w.drewN n)->wpList P l.toArray Q (l.drop n) a' w') (l.take n) a):
    wpAny P .any l.toArray Q l.toArray.size (Array.replicate l.toArray.size false) a {w with drawn:=w.drawn+1}:=by
  simp only[Region.lexTailB,Bool.and_eq_true,decide_eq_true_eq] at hB
  obtain⟨⟨⟨⟨hsel,hn⟩,hs⟩,hc⟩,hlex⟩:=hB
  have hn':n<l.length:=by simpa using hn
  have htl:(l.take n).length=n:=by simp;omega
  have hdl:(l.drop n).length=l.toArray.size-n:=by simp
  have inv0:HeadInv .any l.toArray n (Array.replicate l.toArray.size false):=
    ⟨by simp,λ j oj _ hl=>(by rw[getD_replicate_false] at hl;cases hl),λ t _ ht=>getD_in (by simpa using ht) (getD_replicate_false _ _)⟩
  have H:=wpAnyLQ_lex (md:=.any) (g:=l.toArray.size-n) hsel hs hc hn (l.take n) 0 _ a (λ j hj=>by
    have hj':j<n:=by rw[htl] at hj;exact hj
    simp[hj']) (by simpa using htl) inv0 (by rw[htl];exact hlex) h
  have:=wpAny_of_headQ (Q':=Q) (g:=l.toArray.size-n) (λ listed a' w' hw' hL=>by
    have:=wpAny_of_seq (md:=.any) (Q':=Q) (l.drop n) n listed a' w' (λ j=>by simp[List.getElem?_drop]) (by rw[hdl];exact hL.1) (hL.2 w' hw')
    rwa [hdl] at this) _ _ _ {w with drawn:=w.drawn+1} ⟨1,rfl⟩ H
  rw[htl,show n+(l.toArray.size-n)=l.toArray.size by omega] at this
  exact this

theorem Co{id:Nat}{a:Act}{w:World}{l:List Oper}(n:Nat)(hm:P.follows .mixedOrders=true)(hB:Region.lexTailB .any l.toArray n=true)
    (h:wpQuiet P l.toArray (λ w'=>∃ n,w'=w.drewN n) (λ a'=>∀ w',(∃ n,w'=w.drewN n)->wpList P l.toArray Q (l.drop n) a' w') (l.take n) a):(Code.region id l.toArray true).wp P Q a w:=
  wp_region_any hm (FO n hB h)

theorem Bj{id m lo:Nat}{a:Act}{w:World}{l:List Oper}(n:Nat)(hm:P.follows .mixedOrders=true)(hB:Region.lexTailB .any l.toArray n=true)(hd:DV l.toArray=true)(hq:∀ a w,¬ Q .outgrown a w)
    (h:wpQuiet P l.toArray (λ w'=>∃ n,w'=w.drewN n) (λ a'=>∀ w',(∃ n,w'=w.drewN n)->wpList P l.toArray Q (l.drop n) a' w') (l.take n) a):(Code.region id l.toArray true).wpIn (Fence.wide.inRound lo) m P Q a w:=
  wpIn_region_any hm hd hq (FO n hB h)
end

variable {P:Program} {n:Nat}

theorem cell_putObj{W:World}{l:Nat}{o o':Obj}(h:W.heap[l]?=some o)(hc:o.isCells=false)(hc':o'.isCells=false)(a:Addr):(W.putObj l o').cell? a=W.cell? a:=by
  unfold World.cell?
  by_cases e:a.block=l
  . rw[e,World.putObj_heap_same (Array.getElem?_eq_some_iff.1 h).1,h]
    cases o <;> cases o' <;> simp_all [Obj.isCells]
  . rw[World.putObj_heap_other e]

theorem frozen_putObj{W:World}{l:Nat}{o o':Obj}(h:W.heap[l]?=some o)(hc:o.isCells=false)(hc':o'.isCells=false)(a:Addr):(W.putObj l o').frozen? a=W.frozen? a:=by
  unfold World.frozen?
  by_cases e:a.block=l
  . rw[e,World.putObj_heap_same (Array.getElem?_eq_some_iff.1 h).1,h]
    cases o <;> cases o' <;> simp_all [Obj.isCells]
  . rw[World.putObj_heap_other e]

def newIn(S S':Nat->Prop)(A:World):Bool->Prop
  |true=>∀ k,S' k->S k\/A.heap.size<=k
  |false=>True

theorem newIn_le{S S':Nat->Prop}{A B:World}{t:Bool}(h:A.heap.size<=B.heap.size)(hn:newIn S S' B t):newIn S S' A t:=by
  cases t with
  |false=>trivial
  |true=>exact λ k hk=>(hn k hk).imp id λ h'=>Nat.le_trans h h'

def IterG(P:Program){α:Type}(g:Nat)(lb:Array Value)(encs:α->Array Value)(xs:List α)(O R X:Nat->Prop)(t:Bool)(Rd:List α->(Nat->Prop)->World->Prop)(w:World):Prop:=
  ∀ (l:Nat) (J:List α->(Nat->Prop)->World->Prop) (Jx:List α->World->Prop) (S0:Nat->Prop) (W:World),Kp Ab w W->w.heap.size<=l->l<W.heap.size->
    (∀ pre S A,J pre S A->Rd pre S A/\∀ k,S k->(R k\/W.heap.size<=k)/\k<A.heap.size)->
    (∀ pre S A B,J pre S A->Kp O A B->J pre S B)->(∀ pre A B,Jx pre A->Kp O A B->Jx pre B)->
    (∀ pre S x rest A,xs=pre++x::rest->J pre S A->YieldAt Fence.wide 0 P l (encs x) A λ e B=>
      (e=.returned (.bool true)/\Kp (λ k=>S k\/k=l) A B/\∃ S',J (pre++[x]) S' B/\newIn S S' A t)\/(e=.returned (.bool false)/\Kp (λ k=>(X k\/S k)\/k=l) A B/\Jx (pre++[x]) B))->
    J [] S0 W->
    Calls P g (#[.func (.yield l) #[] #[]]++lb) W λ e B=>(∃ v,e=.returned v)/\((∃ S,J xs S B)\/∃ pre,pre <+: xs/\Jx pre B)

theorem yield_weak{F:Fence}{m:Nat}{l:Nat}{args:Array Value}{W:World}{Q Q':Ending->World->Prop}(h:YieldAt F m P l args W Q)(hq:∀ e B,Q e B->Q' e B):YieldAt F m P l args W Q':=by
  obtain⟨fn,tmps,assign,body,hy,hr⟩:=h
  exact⟨fn,tmps,assign,body,hy,hr.mono hq⟩

def EQ{α:Type}(t:Bool)(S X:Nat->Prop)(I:List α->(Nat->Prop)->World->Prop)(Ix:Code->List α->World->Prop)(xs:List α)(W:World):Exit->Act->World->Prop
  |.normal,_,W'=>Kp S W W'/\∃ S',I xs S' W'/\newIn S S' W t
  |.ret,_,W'=>Kp (λ k=>X k\/S k) W W'/\Ix .ret xs W'
  |.exit id,_,W'=>Kp (λ k=>X k\/S k) W W'/\Ix (.exit id) xs W'
  |.goto t,_,W'=>Kp (λ k=>X k\/S k) W W'/\Ix (.goto t) xs W'
  |.panic _,_,_=>False
  |.outgrown,_,_=>False

theorem Fv{α:Type}{g:Operand}{ps:Array Tmp}{assign body:Code}{Q:Exit->Act->World->Prop}{a:Act}{w:World}
    {gf:Nat} {lb:Array Value} (hg:a.eval g=.func (.func gf) #[] lb) (eg:∀ args w,(callFunc gf args).run P w=.ok (.enter gf args) w)
    {encs:α->Array Value} {xs:List α} {O R X:Nat->Prop} {t:Bool} {Rd:List α->(Nat->Prop)->World->Prop} (hit:IterG P gf lb encs xs O R X t Rd w) (hO:∀ k,O k->k<w.heap.size) (hR:∀ k,R k->k<w.heap.size) (hX:∀ k,X k->k<w.heap.size) (hps:∀ x,(encs x).size=ps.size)
    (I:List α->(Nat->Prop)->World->Prop) (Ix:Code->List α->World->Prop) (S0:Nat->Prop)
    (hS:∀ pre S A,I pre S A->Rd pre S A/\∀ k,S k->(R k\/w.heap.size+2<=k)/\k<A.heap.size)
    (hI:∀ pre S A B,I pre S A->Kp (λ k=>O k\/k=w.heap.size\/k=w.heap.size+1) A B->I pre S B)
    (hIx:∀ c pre A B,Ix c pre A->Kp (λ k=>O k\/k=w.heap.size\/k=w.heap.size+1) A B->Ix c pre B)
    (h0:I [] S0 w)
    (hround:∀ (pre:List α) (S:Nat->Prop) (x:α) (rest:List α) (W:World),xs=pre++x::rest->I pre S W->w.heap.size+2<=W.heap.size->
      assign.wpIn (Fence.wide.inRound (w.heap.size+1)) n P (Exit.then (λ a₁ W₁=>Kp S W W₁/\
          ∀ W₂,(∀ p,W₂.cell? p=W₁.cell? p)->(∀ p,W₂.frozen? p=W₁.frozen? p)->Kp (λ k=>k=w.heap.size+1) W₁ W₂->W₂.heap.size=W₁.heap.size->(∃ r,W₂.heap[w.heap.size+1]?=some (.loop r))->
            body.wpIn (Fence.wide.inRound (w.heap.size+1)) n P (EQ t S X I Ix (pre++[x]) W₂) a₁ W₂) (λ _ _ _=>False))
        {tmps:=(ps.zip (encs x)).foldl (λ t (p,v)=>t.setIfInBounds p v) a.tmps,defers:=[]} W)
    (hdone:∀ (S:Nat->Prop) (W:World),I xs S W->w.heap.size+2<=W.heap.size->W.heap[w.heap.size]?=some (.deferred (some []))->Q .normal {a with defers:={target:=.collected w.heap.size,args:=#[]}::a.defers} W)
    (hstop:∀ (c:Code) (pre:List α) (W:World),pre <+: xs->Ix c pre W->w.heap.size+2<=W.heap.size->W.heap[w.heap.size]?=some (.deferred (some []))->
      c.wpIn Fence.wide n P Q {a with defers:={target:=.collected w.heap.size,args:=#[]}::a.defers} W):
    (Code.rangeFunc g ps assign body).wpIn Fence.wide n P Q a w:=by
  refine wpIn_rangeFunc ?_
  intro fn hfn
  rw[show Fence.wide.round=none from rfl]
  obtain⟨rec,hrec⟩:∃ rec:LoopState->Option Code->Loop,rec=λ st pe=>{state:=st,pending:=pe,fn,tmps:=a.tmps,params:=ps,assign,body,defers:=w.heap.size}:=⟨_,rfl⟩
  obtain⟨W1,hW1⟩:∃ W1,(w.alloc (.deferred (some []))).alloc (.loop (rec .ready none))=W1:=⟨_,rfl⟩
  have hL1:W1.heap[w.heap.size+1]?=some (.loop (rec .ready none)):=by
    rw[<- hW1];have:=wN (w.alloc (.deferred (some []))) (.loop (rec .ready none));rwa [World.size_alloc] at this
  have hK1:W1.heap[w.heap.size]?=some (.deferred (some [])):=by
    rw[<- hW1];exact (Below.heap_alloc _ _ _ (by simp)).trans (wN w _)
  have hKe:Kp Ab w W1:=by rw[<- hW1];exact ((Kr _ w).alloc _).alloc _
  have hs1:W1.heap.size=w.heap.size+2:=by rw[<- hW1];simp
  have hI1:I [] S0 W1:=hI _ _ _ _ h0 (hKe.mono λ_ _ hf=>hf.elim)
  refine⟨w.heap.size+1,[{target:=.collected w.heap.size,args:=#[]}],W1,{target:=.fn (.func gf) lb,args:=#[.func (.yield (w.heap.size+1)) #[] #[]]},W1,gf,
    #[.func (.yield (w.heap.size+1)) #[] #[]]++lb,W1,?_,?_,?_,?_,λ hh=>(by simp[Fence.wide] at hh),?_⟩
  . rw[<- hW1,hrec];exact run_enterLoop_outer _ _ _ _ _
  . simp only[resolve,hg]
    simp[go_sem]
  . intro f' _;trivial
  . simp[invoke,go_sem,eg]
  . refine callsIn_wide.2 ((hit (w.heap.size+1)
      (λ pre S W=>I pre S W/\W.heap[w.heap.size+1]?=some (.loop (rec .ready none))/\W.heap[w.heap.size]?=some (.deferred (some [])))
      (λ pre W=>∃ c,Ix c pre W/\W.heap[w.heap.size+1]?=some (.loop (rec .done (some c)))/\W.heap[w.heap.size]?=some (.deferred (some [])))
      S0 W1 hKe (by omega) (by omega) ?_ ?_ ?_ ?_ ⟨hI1,hL1,hK1⟩).mono ?_)
    . rintro pre S A ⟨hi,hl,hk⟩
      refine⟨(hS pre S A hi).1,λ k hs=>?_⟩
      obtain⟨a1,a2⟩:=(hS pre S A hi).2 k hs
      exact⟨by rcases a1 with a1|a1;exact .inl a1;exact .inr (by omega),a2⟩
    . rintro pre S A B ⟨hi,hl,hk⟩ hg'
      exact⟨hI _ _ _ _ hi (hg'.mono λ_ _ h=>.inl h),hg'.at_ hl (λ h=>by have:=hO _ h;omega),hg'.at_ hk (λ h=>by have:=hO _ h;omega)⟩
    . rintro pre A B ⟨c,hi,hl,hk⟩ hg'
      exact⟨c,hIx _ _ _ _ hi (hg'.mono λ_ _ h=>.inl h),hg'.at_ hl (λ h=>by have:=hO _ h;omega),hg'.at_ hk (λ h=>by have:=hO _ h;omega)⟩
    . rintro pre S x rest W hx ⟨hi,hl,hk⟩
      have hSn:∀ k,S k->¬ k=w.heap.size/\¬ k=w.heap.size+1:=λ k hs=>by
        obtain⟨a1,a2⟩:=(hS pre S W hi).2 k hs
        rcases a1 with a1|a1
        . have:=hR k a1;omega
        . omega
      have hlt:w.heap.size+1<W.heap.size:=(Array.getElem?_eq_some_iff.1 hl).1
      have hy:=run_yield (P:=P) (args:=encs x) hl (by rw[hrec];exact hps x)
      rw[hrec] at hy
      refine⟨fn,_,assign,body,hy,roundIn_of_wpIn hfn ((λ (h:assign.wpIn (Fence.wide.inRound (w.heap.size+1)) 0 P _ _ W)=>h) ?_)⟩
      have hA:=hround pre S x rest W hx hi (by omega)
      have room:∀ k,Fence.wide.room k:=room_wide
      refine wpIn_mono (Q:=Exit.then (λ a₁ W₁=>Kp S W W₁/\∀ W₂,(∀ p,W₂.cell? p=W₁.cell? p)->(∀ p,W₂.frozen? p=W₁.frozen? p)->Kp (λ k=>k=w.heap.size+1) W₁ W₂->W₂.heap.size=W₁.heap.size->(∃ r,W₂.heap[w.heap.size+1]?=some (.loop r))->
            body.wpIn (Fence.wide.inRound (w.heap.size+1)) n P (EQ t S X I Ix (pre++[x]) W₂) a₁ W₂) (λ _ _ _=>False)) (λ b k cs hro hb hr=>hA b k cs hro hb (room_wide _)) ?_
      rintro e a₁ Wa hp
      cases e with
      |normal=>
        obtain⟨hKa,hbody⟩:=hp
        have hla:=hKa.at_ hl (λ h=>by have:=hSn _ h;omega)
        have hka:=hKa.at_ hk (λ h=>by have:=hSn _ h;omega)
        refine⟨_,run_beginRound hla (by rw[hrec]),?_⟩
        obtain⟨W2,hW2⟩:∃ W2,Wa.putObj (w.heap.size+1) (.loop {rec .ready none with state:=.busy})=W2:=⟨_,rfl⟩
        rw[hW2]
        have hlta:w.heap.size+1<Wa.heap.size:=(Array.getElem?_eq_some_iff.1 hla).1
        have hl2:W2.heap[w.heap.size+1]?=some (.loop {rec .ready none with state:=.busy}):=by rw[<- hW2];exact World.putObj_heap_same hlta
        have hk2:W2.heap[w.heap.size]?=some (.deferred (some [])):=by rw[<- hW2];exact (World.putObj_heap_other (by omega)).trans hka
        have hKp:Kp (λ k=>k=w.heap.size+1) Wa W2:=by rw[<- hW2];exact (Kr (λ k=>k=w.heap.size+1) Wa).putObj (λ _=>rfl) _
        have hs2:W2.heap.size=Wa.heap.size:=by rw[<- hW2];simp
        have hb2:=hbody W2 (λ p=>by rw[<- hW2];exact cell_putObj hla rfl rfl p) (λ p=>by rw[<- hW2];exact frozen_putObj hla rfl rfl p) hKp hs2 ⟨_,hl2⟩
        have hb3:body.wpIn (Fence.wide.inRound (w.heap.size+1)) 0 P (EQ t S X I Ix (pre++[x]) W2) a₁ W2:=λ b k cs hro hb hr=>hb2 b k cs hro hb (room_wide _)
        refine wpIn_mono hb3 ?_
        have fin:∀ (T:Nat->Prop) (hT:∀ k,T k->¬ k=w.heap.size/\¬ k=w.heap.size+1) (hRS:∀ k,S k->T k) (jump:Option Code) (W3:World),Kp T W2 W3->
            (Instr.endRound (w.heap.size+1) jump).run P W3=.ok (.bool jump.isNone) (W3.putObj (w.heap.size+1) (.loop (rec (if jump.isNone then .ready else .done) jump)))/\
            (W3.putObj (w.heap.size+1) (.loop (rec (if jump.isNone then .ready else .done) jump))).heap[w.heap.size+1]?=some (.loop (rec (if jump.isNone then .ready else .done) jump))/\
            (W3.putObj (w.heap.size+1) (.loop (rec (if jump.isNone then .ready else .done) jump))).heap[w.heap.size]?=some (.deferred (some []))/\
            Kp (λ k=>O k\/k=w.heap.size\/k=w.heap.size+1) W3 (W3.putObj (w.heap.size+1) (.loop (rec (if jump.isNone then .ready else .done) jump)))/\
            Kp (λ k=>T k\/k=w.heap.size+1) W (W3.putObj (w.heap.size+1) (.loop (rec (if jump.isNone then .ready else .done) jump))):=λ T hT hRS jump W3 hk3=>by
          have hl3:=hk3.at_ hl2 (λ h=>by have:=hT _ h;omega)
          have hd3:=hk3.at_ hk2 (λ h=>by have:=hT _ h;omega)
          have:=run_endRound (P:=P) jump hl3
          rw[hrec] at this ⊢
          refine⟨this,World.putObj_heap_same (Array.getElem?_eq_some_iff.1 hl3).1,(World.putObj_heap_other (by omega)).trans hd3,(Kr _ W3).putObj (λ _=>.inr (.inr rfl)) _,?_⟩
          refine Kp.putObj ?_ (λ _=>.inr rfl) _
          exact((hKa.mono λ_ _ h=>.inl (hRS _ h)).trans hKp (λ i _ h=>.inr h)).trans hk3 (λ i _ h=>.inl h)
        rintro e a3 W3 hp
        cases e with
        |normal=>
          obtain⟨hk3,S',hi3,hss⟩:=hp
          obtain⟨hr,hl4,hk4,hkO,hkR⟩:=fin S hSn (λ _ h=>h) none W3 hk3
          exact⟨_,_,hr,.inl ⟨rfl,hkR,S',⟨hI _ _ _ _ hi3 hkO,hl4,hk4⟩,newIn_le (by have:=hKa.size;omega) hss⟩⟩
        |ret=>
          obtain⟨hk3,hi3⟩:=hp
          obtain⟨hr,hl4,hk4,hkO,hkR⟩:=fin (λ k=>X k\/S k) (λ k h=>by rcases h with h|h;have:=hX k h;omega;exact hSn k h) (λ _ h=>.inr h) (some .ret) W3 hk3
          exact⟨_,_,hr,.inr ⟨rfl,hkR,.ret,hIx _ _ _ _ hi3 hkO,hl4,hk4⟩⟩
        |exit id=>
          obtain⟨hk3,hi3⟩:=hp
          obtain⟨hr,hl4,hk4,hkO,hkR⟩:=fin (λ k=>X k\/S k) (λ k h=>by rcases h with h|h;have:=hX k h;omega;exact hSn k h) (λ _ h=>.inr h) (some (.exit id)) W3 hk3
          exact⟨_,_,hr,.inr ⟨rfl,hkR,.exit id,hIx _ _ _ _ hi3 hkO,hl4,hk4⟩⟩
        |goto t=>
          obtain⟨hk3,hi3⟩:=hp
          obtain⟨hr,hl4,hk4,hkO,hkR⟩:=fin (λ k=>X k\/S k) (λ k h=>by rcases h with h|h;have:=hX k h;omega;exact hSn k h) (λ _ h=>.inr h) (some (.goto t)) W3 hk3
          exact⟨_,_,hr,.inr ⟨rfl,hkR,.goto t,hIx _ _ _ _ hi3 hkO,hl4,hk4⟩⟩
        |panic ch=>exact hp.elim
        |outgrown=>exact hp.elim
      |exit id=>exact hp.elim
      |goto t=>exact hp.elim
      |ret=>exact hp.elim
      |panic ch=>exact hp.elim
      |outgrown=>exact hp.elim
    . rintro e W2 ⟨⟨v,rfl⟩,(⟨S,hi,hl,hk⟩|⟨pre,hp,c,hi,hl,hk⟩)⟩
      . refine⟨none,_,by have:=run_endLoop (P:=P) hl (by rw[hrec];simp);rw [hrec] at this;exact this,hdone S _ (hI _ _ _ _ hi ((Kr _ W2).putObj (λ _=>.inr (.inr rfl)) _)) ?_ ((World.putObj_heap_other (by omega)).trans hk)⟩
        have:=(Array.getElem?_eq_some_iff.1 hl).1;simp;omega
      . refine⟨some c,_,by have:=run_endLoop (P:=P) hl (by rw[hrec];simp);rw [hrec] at this;exact this,hstop c pre _ hp (hIx _ _ _ _ hi ((Kr _ W2).putObj (λ _=>.inr (.inr rfl)) _)) ?_ ((World.putObj_heap_other (by omega)).trans hk)⟩
        have:=(Array.getElem?_eq_some_iff.1 hl).1;simp;omega

def IterAt4(P:Program){α:Type}(g:Nat)(lb:Array Value)(encs:α->Array Value)(xs:List α)(O R:Nat->Prop)(w:World):Prop:=
  ∀ (l:Nat) (J:List α->(Nat->Prop)->World->Prop) (Jx:List α->World->Prop) (S0:Nat->Prop) (W:World),Kp Ab w W->w.heap.size<=l->l<W.heap.size->
    (∀ pre S A,J pre S A->∀ k,S k->(R k\/W.heap.size<=k)/\k<A.heap.size)->
    (∀ pre S A B,J pre S A->Kp O A B->J pre S B)->(∀ pre A B,Jx pre A->Kp O A B->Jx pre B)->
    (∀ pre S x rest A,xs=pre++x::rest->J pre S A->YieldAt Fence.wide 0 P l (encs x) A λ e B=>
      (e=.returned (.bool true)/\Kp (λ k=>S k\/k=l) A B/\∃ S',J (pre++[x]) S' B/\∀ k,S' k->S k\/A.heap.size<=k)\/(e=.returned (.bool false)/\Jx (pre++[x]) B))->
    J [] S0 W->
    Calls P g (#[.func (.yield l) #[] #[]]++lb) W λ e B=>(∃ v,e=.returned v)/\((∃ S,J xs S B)\/∃ pre,pre <+: xs/\Jx pre B)

theorem IterAt4.g{α:Type}{g:Nat}{lb:Array Value}{encs:α->Array Value}{xs:List α}{O R X:Nat->Prop}{w:World}(h:IterAt4 P g lb encs xs O R w):IterG P g lb encs xs O R X true (λ _ _ _=>True) w:=
  λ l J Jx S0 W h1 h2 h3 hS hJ hJx hY h0=>h l J Jx S0 W h1 h2 h3 (λ pre S A hj=>(hS pre S A hj).2) hJ hJx (λ pre S x rest A hx hj=>yield_weak (hY pre S x rest A hx hj) λ e B=>Or.imp id λ k=>⟨k.1,k.2.2⟩) h0

abbrev roundEnd4{α:Type}(S X:Nat->Prop)(I:List α->(Nat->Prop)->World->Prop)(Ix:Code->List α->World->Prop)(xs:List α)(W:World):Exit->Act->World->Prop:=EQ true S X I Ix xs W

theorem wpIn_range4{α:Type}{g:Operand}{ps:Array Tmp}{assign body:Code}{Q:Exit->Act->World->Prop}{a:Act}{w:World}
    {gf:Nat} {lb:Array Value} (hg:a.eval g=.func (.func gf) #[] lb) (eg:∀ args w,(callFunc gf args).run P w=.ok (.enter gf args) w)
    {encs:α->Array Value} {xs:List α} {O R X:Nat->Prop} (hit:IterAt4 P gf lb encs xs O R w) (hO:∀ k,O k->k<w.heap.size) (hR:∀ k,R k->k<w.heap.size) (hX:∀ k,X k->k<w.heap.size) (hps:∀ x,(encs x).size=ps.size)
    (I:List α->(Nat->Prop)->World->Prop) (Ix:Code->List α->World->Prop) (S0:Nat->Prop)
    (hS:∀ pre S A,I pre S A->∀ k,S k->(R k\/w.heap.size+2<=k)/\k<A.heap.size)
    (hI:∀ pre S A B,I pre S A->Kp (λ k=>O k\/k=w.heap.size\/k=w.heap.size+1) A B->I pre S B)
    (hIx:∀ c pre A B,Ix c pre A->Kp (λ k=>O k\/k=w.heap.size\/k=w.heap.size+1) A B->Ix c pre B)
    (h0:I [] S0 w)
    (hround:∀ (pre:List α) (S:Nat->Prop) (x:α) (rest:List α) (W:World),xs=pre++x::rest->I pre S W->w.heap.size+2<=W.heap.size->
      assign.wpIn (Fence.wide.inRound (w.heap.size+1)) n P (Exit.then (λ a₁ W₁=>Kp S W W₁/\
          ∀ W₂,(∀ p,W₂.cell? p=W₁.cell? p)->(∀ p,W₂.frozen? p=W₁.frozen? p)->Kp (λ k=>k=w.heap.size+1) W₁ W₂->W₂.heap.size=W₁.heap.size->(∃ r,W₂.heap[w.heap.size+1]?=some (.loop r))->
            body.wpIn (Fence.wide.inRound (w.heap.size+1)) n P (roundEnd4 S X I Ix (pre++[x]) W₂) a₁ W₂) (λ _ _ _=>False))
        {tmps:=(ps.zip (encs x)).foldl (λ t (p,v)=>t.setIfInBounds p v) a.tmps,defers:=[]} W)
    (hdone:∀ (S:Nat->Prop) (W:World),I xs S W->w.heap.size+2<=W.heap.size->W.heap[w.heap.size]?=some (.deferred (some []))->Q .normal {a with defers:={target:=.collected w.heap.size,args:=#[]}::a.defers} W)
    (hstop:∀ (c:Code) (pre:List α) (W:World),pre <+: xs->Ix c pre W->w.heap.size+2<=W.heap.size->W.heap[w.heap.size]?=some (.deferred (some []))->
      c.wpIn Fence.wide n P Q {a with defers:={target:=.collected w.heap.size,args:=#[]}::a.defers} W):
    (Code.rangeFunc g ps assign body).wpIn Fence.wide n P Q a w:=
  Fv hg eg (t:=true) (Rd:=λ _ _ _=>True) hit.g hO hR hX hps I Ix S0 (λ pre S A h=>⟨trivial,hS pre S A h⟩) hI hIx h0 hround hdone hstop

def IterAt2(P:Program){α:Type}(g:Nat)(lb:Array Value)(encs:α->Array Value)(xs:List α)(O R X:Nat->Prop)(w:World):Prop:=
  ∀ (l:Nat) (J Jx:List α->World->Prop) (W:World),Kp Ab w W->w.heap.size<=l->l<W.heap.size->
    (∀ pre A B,J pre A->Kp O A B->J pre B)->(∀ pre A B,Jx pre A->Kp O A B->Jx pre B)->
    (∀ pre x rest A,xs=pre++x::rest->J pre A->YieldAt Fence.wide 0 P l (encs x) A λ e B=>
      (e=.returned (.bool true)/\Kp (λ k=>R k\/k=l) A B/\J (pre++[x]) B)\/(e=.returned (.bool false)/\Kp (λ k=>X k\/k=l) A B/\Jx (pre++[x]) B))->
    J [] W->
    Calls P g (#[.func (.yield l) #[] #[]]++lb) W λ e B=>(∃ v,e=.returned v)/\(J xs B\/∃ pre,pre <+: xs/\Jx pre B)

theorem IterAt2.g{α:Type}{g:Nat}{lb:Array Value}{encs:α->Array Value}{xs:List α}{O R X:Nat->Prop}{w:World}(h:IterAt2 P g lb encs xs O R X w)(hRX:∀ k,R k->X k):IterG P g lb encs xs O R X false (λ _ S _=>S=R) w:=
  λ l J Jx S0 W h1 h2 h3 hS hJ hJx hY h0=>by
    have e0:=(hS _ _ _ h0).1
    subst e0
    refine(h l (λ pre A=>J pre S0 A) Jx W h1 h2 h3 (λ pre A B=>hJ pre S0 A B) hJx (λ pre x rest A hx hj=>yield_weak (hY pre S0 x rest A hx hj) ?_) h0).mono λ e B k=>⟨k.1,k.2.imp (λ q=>⟨_,q⟩) id⟩
    rintro e B (⟨k1,k2,S',k3,_⟩|⟨k1,k2,k3⟩)
    . have:=(hS _ _ _ k3).1
      subst this
      exact .inl ⟨k1,k2,k3⟩
    . exact .inr ⟨k1,k2.mono λ i _ hi=>hi.imp (λ q=>q.elim (λ q=>q) (hRX i)) id,k3⟩

def roundEnd2{α:Type}(R X:Nat->Prop)(I:List α->World->Prop)(Ix:Code->List α->World->Prop)(xs:List α)(W:World):Exit->Act->World->Prop
  |.normal,_,W'=>Kp R W W'/\I xs W'
  |.ret,_,W'=>Kp X W W'/\Ix .ret xs W'
  |.exit id,_,W'=>Kp X W W'/\Ix (.exit id) xs W'
  |.goto t,_,W'=>Kp X W W'/\Ix (.goto t) xs W'
  |.panic _,_,_=>False
  |.outgrown,_,_=>False

theorem roundEnd2.g{α:Type}{R X:Nat->Prop}{I:List α->World->Prop}{Ix:Code->List α->World->Prop}{xs:List α}{W:World}(n:Nat)(hn:n<=W.heap.size):∀ e a W',roundEnd2 R X I Ix xs W e a W'->EQ false R X (λ pre S A=>S=R/\n<=A.heap.size/\I pre A) Ix xs W e a W'
  |.normal,_,_,h=>⟨h.1,R,⟨rfl,Nat.le_trans hn h.1.size,h.2⟩,trivial⟩
  |.ret,_,_,h=>⟨h.1.mono λ_ _=>.inl,h.2⟩
  |.exit _,_,_,h=>⟨h.1.mono λ_ _=>.inl,h.2⟩
  |.goto _,_,_,h=>⟨h.1.mono λ_ _=>.inl,h.2⟩
  |.panic _,_,_,h=>h
  |.outgrown,_,_,h=>h

theorem wpIn_range2{α:Type}{g:Operand}{ps:Array Tmp}{assign body:Code}{Q:Exit->Act->World->Prop}{a:Act}{w:World}
    {gf:Nat} {lb:Array Value} (hg:a.eval g=.func (.func gf) #[] lb) (eg:∀ args w,(callFunc gf args).run P w=.ok (.enter gf args) w)
    {encs:α->Array Value} {xs:List α} {O R X:Nat->Prop} (hit:IterAt2 P gf lb encs xs O R X w) (hO:∀ k,O k->k<w.heap.size) (hR:∀ k,R k->k<w.heap.size) (hX:∀ k,X k->k<w.heap.size) (hRX:∀ k,R k->X k) (hps:∀ x,(encs x).size=ps.size)
    (I:List α->World->Prop) (Ix:Code->List α->World->Prop)
    (hI:∀ pre A B,I pre A->Kp (λ k=>O k\/k=w.heap.size\/k=w.heap.size+1) A B->I pre B)
    (hIx:∀ c pre A B,Ix c pre A->Kp (λ k=>O k\/k=w.heap.size\/k=w.heap.size+1) A B->Ix c pre B)
    (h0:I [] w)
    (hround:∀ (pre:List α) (x:α) (rest:List α) (W:World),xs=pre++x::rest->I pre W->w.heap.size+2<=W.heap.size->
      assign.wpIn (Fence.wide.inRound (w.heap.size+1)) n P (Exit.then (λ a₁ W₁=>Kp R W W₁/\
          ∀ W₂,(∀ p,W₂.cell? p=W₁.cell? p)->(∀ p,W₂.frozen? p=W₁.frozen? p)->Kp (λ k=>k=w.heap.size+1) W₁ W₂->W₂.heap.size=W₁.heap.size->(∃ r,W₂.heap[w.heap.size+1]?=some (.loop r))->
            body.wpIn (Fence.wide.inRound (w.heap.size+1)) n P (roundEnd2 R X I Ix (pre++[x]) W₂) a₁ W₂) (λ _ _ _=>False))
        {tmps:=(ps.zip (encs x)).foldl (λ t (p,v)=>t.setIfInBounds p v) a.tmps,defers:=[]} W)
    (hdone:∀ (W:World),I xs W->w.heap.size+2<=W.heap.size->W.heap[w.heap.size]?=some (.deferred (some []))->Q .normal {a with defers:={target:=.collected w.heap.size,args:=#[]}::a.defers} W)
    (hstop:∀ (c:Code) (pre:List α) (W:World),pre <+: xs->Ix c pre W->w.heap.size+2<=W.heap.size->W.heap[w.heap.size]?=some (.deferred (some []))->
      c.wpIn Fence.wide n P Q {a with defers:={target:=.collected w.heap.size,args:=#[]}::a.defers} W):
    (Code.rangeFunc g ps assign body).wpIn Fence.wide n P Q a w:=
  Fv hg eg (t:=false) (Rd:=λ _ S _=>S=R) (hit.g hRX) hO hR hX hps (λ pre S A=>S=R/\w.heap.size<=A.heap.size/\I pre A) Ix R
    (λ pre S A h=>⟨h.1,λ k hk=>by have:=hR k (h.1▸hk);have:=h.2.1;exact ⟨.inl (h.1▸hk),by omega⟩⟩)
    (λ pre S A B h hk=>⟨h.1,Nat.le_trans h.2.1 hk.size,hI _ _ _ h.2.2 hk⟩) hIx ⟨rfl,Nat.le_refl _,h0⟩
    (λ pre S x rest W hx hi hs=>by
      obtain⟨rfl,hw,hi⟩:=hi
      exact wpIn_mono (hround pre x rest W hx hi hs) (by
        rintro (_|_|_|_|_|_) a₁ W₁ h <;> first
          |exact h
          |exact ⟨h.1,λ W₂ c1 c2 c3 c4 c5=>wpIn_mono (h.2 W₂ c1 c2 c3 c4 c5) (roundEnd2.g _ (by have:=h.1.size;omega))⟩))
    (λ S W h=>hdone W h.2.2) hstop

def IterAt(P:Program){α:Type}(g:Nat)(lb:Array Value)(encs:α->Array Value)(xs:List α)(O R:Nat->Prop)(w:World):Prop:=
  ∀ (l:Nat) (J Jx:List α->World->Prop) (W:World),Kp Ab w W->w.heap.size<=l->l<W.heap.size->
    (∀ pre A B,J pre A->Kp O A B->J pre B)->(∀ pre A B,Jx pre A->Kp O A B->Jx pre B)->
    (∀ pre x rest A,xs=pre++x::rest->J pre A->YieldAt Fence.wide 0 P l (encs x) A λ e B=>
      Kp (λ k=>R k\/k=l) A B/\((e=.returned (.bool true)/\J (pre++[x]) B)\/(e=.returned (.bool false)/\Jx (pre++[x]) B)))->
    J [] W->
    Calls P g (#[.func (.yield l) #[] #[]]++lb) W λ e B=>(∃ v,e=.returned v)/\(J xs B\/∃ pre,pre <+: xs/\Jx pre B)

theorem IterAt.two{α:Type}{g:Nat}{lb:Array Value}{encs:α->Array Value}{xs:List α}{O R:Nat->Prop}{w:World}(h:IterAt P g lb encs xs O R w):IterAt2 P g lb encs xs O R R w:=
  λ l J Jx W h1 h2 h3 hJ hJx hY h0=>h l J Jx W h1 h2 h3 hJ hJx (λ pre x rest A hx hj=>yield_weak (hY pre x rest A hx hj) λ e B k=>k.elim (λ q=>⟨q.2.1,.inl ⟨q.1,q.2.2⟩⟩) λ q=>⟨q.2.1,.inr ⟨q.1,q.2.2⟩⟩) h0

def roundEnd{α:Type}(R:Nat->Prop)(I:List α->World->Prop)(Ix:Code->List α->World->Prop)(xs:List α)(W:World):Exit->Act->World->Prop
  |.normal,_,W'=>Kp R W W'/\I xs W'
  |.ret,_,W'=>Kp R W W'/\Ix .ret xs W'
  |.exit id,_,W'=>Kp R W W'/\Ix (.exit id) xs W'
  |.goto t,_,W'=>Kp R W W'/\Ix (.goto t) xs W'
  |.panic _,_,_=>False
  |.outgrown,_,_=>False

theorem wpIn_range{α:Type}{g:Operand}{ps:Array Tmp}{assign body:Code}{Q:Exit->Act->World->Prop}{a:Act}{w:World}
    {gf:Nat} {lb:Array Value} (hg:a.eval g=.func (.func gf) #[] lb) (eg:∀ args w,(callFunc gf args).run P w=.ok (.enter gf args) w)
    {encs:α->Array Value} {xs:List α} {O R:Nat->Prop} (hit:IterAt P gf lb encs xs O R w) (hO:∀ k,O k->k<w.heap.size) (hR:∀ k,R k->k<w.heap.size) (hps:∀ x,(encs x).size=ps.size)
    (I:List α->World->Prop) (Ix:Code->List α->World->Prop)
    (hI:∀ pre A B,I pre A->Kp (λ k=>O k\/k=w.heap.size\/k=w.heap.size+1) A B->I pre B)
    (hIx:∀ c pre A B,Ix c pre A->Kp (λ k=>O k\/k=w.heap.size\/k=w.heap.size+1) A B->Ix c pre B)
    (h0:I [] w)
    (hround:∀ (pre:List α) (x:α) (rest:List α) (W:World),xs=pre++x::rest->I pre W->w.heap.size+2<=W.heap.size->
      assign.wpIn (Fence.wide.inRound (w.heap.size+1)) n P (Exit.then (λ a₁ W₁=>Kp R W W₁/\
          ∀ W₂,(∀ p,W₂.cell? p=W₁.cell? p)->(∀ p,W₂.frozen? p=W₁.frozen? p)->Kp (λ k=>k=w.heap.size+1) W₁ W₂->W₂.heap.size=W₁.heap.size->(∃ r,W₂.heap[w.heap.size+1]?=some (.loop r))->
            body.wpIn (Fence.wide.inRound (w.heap.size+1)) n P (roundEnd R I Ix (pre++[x]) W₂) a₁ W₂) (λ _ _ _=>False))
        {tmps:=(ps.zip (encs x)).foldl (λ t (p,v)=>t.setIfInBounds p v) a.tmps,defers:=[]} W)
    (hdone:∀ (W:World),I xs W->w.heap.size+2<=W.heap.size->W.heap[w.heap.size]?=some (.deferred (some []))->Q .normal {a with defers:={target:=.collected w.heap.size,args:=#[]}::a.defers} W)
    (hstop:∀ (c:Code) (pre:List α) (W:World),pre <+: xs->Ix c pre W->w.heap.size+2<=W.heap.size->W.heap[w.heap.size]?=some (.deferred (some []))->
      c.wpIn Fence.wide n P Q {a with defers:={target:=.collected w.heap.size,args:=#[]}::a.defers} W):
    (Code.rangeFunc g ps assign body).wpIn Fence.wide n P Q a w:=
  wpIn_range2 (X:=R) hg eg hit.two hO hR hR (λ _ h=>h) hps I Ix hI hIx h0
    (λ pre x rest W hx hi hs=>wpIn_mono (hround pre x rest W hx hi hs) (by
      rintro (_|_|_|_|_|_) a₁ W₁ h <;> first
        |exact h
        |exact ⟨h.1,λ W₂ c1 c2 c3 c4 c5=>wpIn_mono (h.2 W₂ c1 c2 c3 c4 c5) (by rintro (_|_|_|_|_|_) _ _ h <;> exact h)⟩)) hdone hstop

def IterAt3(P:Program){α:Type}(g:Nat)(lb:Array Value)(encs:α->Array Value)(xs:List α)(O R:Nat->Prop)(w:World):Prop:=
  ∀ (l:Nat) (J:List α->(Nat->Prop)->World->Prop) (Jx:List α->World->Prop) (S0:Nat->Prop) (W:World),Kp Ab w W->w.heap.size<=l->l<W.heap.size->
    (∀ pre S A,J pre S A->∀ k,S k->(R k\/W.heap.size<=k)/\k<A.heap.size)->
    (∀ pre S A B,J pre S A->Kp O A B->J pre S B)->(∀ pre A B,Jx pre A->Kp O A B->Jx pre B)->
    (∀ pre S x rest A,xs=pre++x::rest->J pre S A->YieldAt Fence.wide 0 P l (encs x) A λ e B=>
      (e=.returned (.bool true)/\Kp (λ k=>S k\/k=l) A B/\∃ S',J (pre++[x]) S' B)\/(e=.returned (.bool false)/\Jx (pre++[x]) B))->
    J [] S0 W->
    Calls P g (#[.func (.yield l) #[] #[]]++lb) W λ e B=>(∃ v,e=.returned v)/\((∃ S,J xs S B)\/∃ pre,pre <+: xs/\Jx pre B)

theorem IterAt3.two{α:Type}{g:Nat}{lb:Array Value}{encs:α->Array Value}{xs:List α}{O R X:Nat->Prop}{w:World}(h:IterAt3 P g lb encs xs O R w)(hR:∀ k,R k->k<w.heap.size):IterAt2 P g lb encs xs O R X w:=by
  intro l J Jx W hW hl1 hl2 hJ hJx hY h0
  have hsz:=hW.size
  refine(h l (λ pre S A=>S=R/\w.heap.size<=A.heap.size/\J pre A) Jx R W hW hl1 hl2 ?_ ?_ hJx ?_ ⟨rfl,hsz,h0⟩).mono ?_
  . rintro pre S A ⟨rfl,h1,h2⟩ k hk
    have:=hR k hk
    exact⟨.inl hk,by omega⟩
  . rintro pre S A B ⟨rfl,h1,h2⟩ hk
    exact⟨rfl,Nat.le_trans h1 hk.size,hJ _ _ _ h2 hk⟩
  . rintro pre S x rest A hx ⟨rfl,h1,h2⟩
    obtain⟨fn,tmps,assign,body,hy,hr⟩:=hY pre x rest A hx h2
    refine⟨fn,tmps,assign,body,hy,hr.mono ?_⟩
    rintro e B (⟨rfl,k1,k2⟩|⟨rfl,k1,k2⟩)
    . exact .inl ⟨rfl,k1,_,rfl,Nat.le_trans h1 k1.size,k2⟩
    . exact .inr ⟨rfl,k2⟩
  . rintro e B ⟨hv,⟨S,hS⟩|hp⟩
    . exact⟨hv,.inl hS.2.2⟩
    . exact⟨hv,.inr hp⟩

theorem IterAt3.g{α:Type}{g:Nat}{lb:Array Value}{encs:α->Array Value}{xs:List α}{O R X:Nat->Prop}{w:World}(h:IterAt3 P g lb encs xs O R w):IterG P g lb encs xs O R X false (λ _ _ _=>True) w:=
  λ l J Jx S0 W h1 h2 h3 hS hJ hJx hY h0=>h l J Jx S0 W h1 h2 h3 (λ pre S A hj=>(hS pre S A hj).2) hJ hJx (λ pre S x rest A hx hj=>yield_weak (hY pre S x rest A hx hj) λ e B=>Or.imp (λ k=>⟨k.1,k.2.1,k.2.2.imp λ_ q=>q.1⟩) λ k=>⟨k.1,k.2.2⟩) h0

def roundEnd3{α:Type}(S X:Nat->Prop)(I:List α->(Nat->Prop)->World->Prop)(Ix:Code->List α->World->Prop)(xs:List α)(W:World):Exit->Act->World->Prop
  |.normal,_,W'=>Kp S W W'/\∃ S',I xs S' W'
  |.ret,_,W'=>Kp (λ k=>X k\/S k) W W'/\Ix .ret xs W'
  |.exit id,_,W'=>Kp (λ k=>X k\/S k) W W'/\Ix (.exit id) xs W'
  |.goto t,_,W'=>Kp (λ k=>X k\/S k) W W'/\Ix (.goto t) xs W'
  |.panic _,_,_=>False
  |.outgrown,_,_=>False

theorem roundEnd3.g{α:Type}{S X:Nat->Prop}{I:List α->(Nat->Prop)->World->Prop}{Ix:Code->List α->World->Prop}{xs:List α}{W:World}:∀ e a W',roundEnd3 S X I Ix xs W e a W'->EQ false S X I Ix xs W e a W'
  |.normal,_,_,h=>⟨h.1,h.2.imp λ_ q=>⟨q,trivial⟩⟩
  |.ret,_,_,h=>h
  |.exit _,_,_,h=>h
  |.goto _,_,_,h=>h
  |.panic _,_,_,h=>h
  |.outgrown,_,_,h=>h

theorem wpIn_range3{α:Type}{g:Operand}{ps:Array Tmp}{assign body:Code}{Q:Exit->Act->World->Prop}{a:Act}{w:World}
    {gf:Nat} {lb:Array Value} (hg:a.eval g=.func (.func gf) #[] lb) (eg:∀ args w,(callFunc gf args).run P w=.ok (.enter gf args) w)
    {encs:α->Array Value} {xs:List α} {O R X:Nat->Prop} (hit:IterAt3 P gf lb encs xs O R w) (hO:∀ k,O k->k<w.heap.size) (hR:∀ k,R k->k<w.heap.size) (hX:∀ k,X k->k<w.heap.size) (hps:∀ x,(encs x).size=ps.size)
    (I:List α->(Nat->Prop)->World->Prop) (Ix:Code->List α->World->Prop) (S0:Nat->Prop)
    (hS:∀ pre S A,I pre S A->∀ k,S k->(R k\/w.heap.size+2<=k)/\k<A.heap.size)
    (hI:∀ pre S A B,I pre S A->Kp (λ k=>O k\/k=w.heap.size\/k=w.heap.size+1) A B->I pre S B)
    (hIx:∀ c pre A B,Ix c pre A->Kp (λ k=>O k\/k=w.heap.size\/k=w.heap.size+1) A B->Ix c pre B)
    (h0:I [] S0 w)
    (hround:∀ (pre:List α) (S:Nat->Prop) (x:α) (rest:List α) (W:World),xs=pre++x::rest->I pre S W->w.heap.size+2<=W.heap.size->
      assign.wpIn (Fence.wide.inRound (w.heap.size+1)) n P (Exit.then (λ a₁ W₁=>Kp S W W₁/\
          ∀ W₂,(∀ p,W₂.cell? p=W₁.cell? p)->(∀ p,W₂.frozen? p=W₁.frozen? p)->Kp (λ k=>k=w.heap.size+1) W₁ W₂->W₂.heap.size=W₁.heap.size->(∃ r,W₂.heap[w.heap.size+1]?=some (.loop r))->
            body.wpIn (Fence.wide.inRound (w.heap.size+1)) n P (roundEnd3 S X I Ix (pre++[x]) W₂) a₁ W₂) (λ _ _ _=>False))
        {tmps:=(ps.zip (encs x)).foldl (λ t (p,v)=>t.setIfInBounds p v) a.tmps,defers:=[]} W)
    (hdone:∀ (S:Nat->Prop) (W:World),I xs S W->w.heap.size+2<=W.heap.size->W.heap[w.heap.size]?=some (.deferred (some []))->Q .normal {a with defers:={target:=.collected w.heap.size,args:=#[]}::a.defers} W)
    (hstop:∀ (c:Code) (pre:List α) (W:World),pre <+: xs->Ix c pre W->w.heap.size+2<=W.heap.size->W.heap[w.heap.size]?=some (.deferred (some []))->
      c.wpIn Fence.wide n P Q {a with defers:={target:=.collected w.heap.size,args:=#[]}::a.defers} W):
    (Code.rangeFunc g ps assign body).wpIn Fence.wide n P Q a w:=
  Fv hg eg (t:=false) (Rd:=λ _ _ _=>True) hit.g hO hR hX hps I Ix S0 (λ pre S A h=>⟨trivial,hS pre S A h⟩) hI hIx h0
    (λ pre S x rest W hx hi hs=>wpIn_mono (hround pre S x rest W hx hi hs) (by
      rintro (_|_|_|_|_|_) a₁ W₁ h <;> first
        |exact h
        |exact ⟨h.1,λ W₂ c1 c2 c3 c4 c5=>wpIn_mono (h.2 W₂ c1 c2 c3 c4 c5) roundEnd3.g⟩)) hdone hstop

theorem EI{o:Oper}{a:Act}{K:Act->World->Prop}{Q:Exit->Act->World->Prop}{l:Nat}{args args':Array Value}{W:World}{C T E:World->Prop}
    (h:YieldAt Fence.wide 0 P l args W λ e B=>C B/\((e=.returned (.bool true)/\T B)\/(e=.returned (.bool false)/\E B))) (e:args'=args)
    (ht:∀ B,C B->T B->K (a.put o.dst (.bool true)) B) (hf:∀ B,C B->E B->K (a.put o.dst (.bool false)) B):o.uponIn Fence.wide n P a K Q ((Instr.yield l args').run P W):=by
  obtain⟨fn,tmps,assign,body,hy,hR⟩:=h
  rw[e,hy,Oper.uponIn_round]
  refine⟨λ hh=>(by simp[Fence.wide] at hh),hR.1,λ c cs _=>?_⟩
  obtain⟨e,w',⟨hC,hr⟩,hs⟩:=hR.2 c cs (room_wide _)
  refine⟨e,w',?_,hs⟩
  rcases hr with ⟨rfl,hT⟩|⟨rfl,hE⟩
  . exact ht _ hC hT
  . exact hf _ hC hE

variable {P:Program} {n:Nat}

theorem uponIn_yield2{o:Oper}{a:Act}{K:Act->World->Prop}{Q:Exit->Act->World->Prop}{l:Nat}{args args':Array Value}{W:World}{T E:World->Prop}
    (h:YieldAt Fence.wide 0 P l args W λ e B=>(e=.returned (.bool true)/\T B)\/(e=.returned (.bool false)/\E B)) (e:args'=args)
    (ht:∀ B,T B->K (a.put o.dst (.bool true)) B) (hf:∀ B,E B->K (a.put o.dst (.bool false)) B):o.uponIn Fence.wide n P a K Q ((Instr.yield l args').run P W):=by
  obtain⟨fn,tmps,assign,body,hy,hR⟩:=h
  rw[e,hy,Oper.uponIn_round]
  refine⟨λ hh=>(by simp[Fence.wide] at hh),hR.1,λ c cs _=>?_⟩
  obtain⟨e,w',hr,hs⟩:=hR.2 c cs (room_wide _)
  refine⟨e,w',?_,hs⟩
  rcases hr with ⟨rfl,hT⟩|⟨rfl,hE⟩
  . exact ht _ hT
  . exact hf _ hE

variable {P:Program} {n:Nat}

open Go.RowKit Go.WideShapes Go.ChangeShapes

theorem Kp.post{H:Type}{enc:TypeId×Value->H}{P:Program}{f:Func}{s:ChangeSpec}{apart fresh handsOn again:Bool}{W W':World}{args:Array Value}{v:Value}{ds gs:List (DataW H)}{pa pv:List MemPlace}
    (k:Kp Ab W W') (hW:DataW.Whole enc P f.params.toList s.vars apart W args.toList ds gs (pa++pv))
    (hr:∀ (b:Nat) (sp:Nat->Bool) (hd:Bool),DataW.TrodAll enc P W' b sp hd f.resultTypes.toList (v.resultList f.resultTypes.size) (s.fn H (ds++gs)).results [])
    (ha:∀ sp:Nat->Bool,(∀ p∈pa++pv,sp p.block=true)->DataW.TrodAll enc P W' 0 sp true f.params.toList args.toList (s.fn H (ds++gs)).args pa)
    (hv:∀ sp:Nat->Bool,(∀ p∈pa++pv,sp p.block=true)->DataW.TrodVars enc P W' sp s.vars (s.fn H (ds++gs)).vars pv)
    (ho:∀ (j:Nat) (t:TypeId) (r:Value),f.resultTypes[j]?=some t->(v.resultList f.resultTypes.size)[j]?=some r->Value.okWide P W' .any 0 t r):
    s.post enc P f apart fresh handsOn again W args v W':=by
  have old:∀ p∈pa++pv,p.block<W.heap.size:=λ p hp=>hW.lt p hp
  have below:=k.below_not
  have whole:=trodAll_append (ha (λ _=>true) (λ _ _=>rfl)) (hr 0 (λ _=>true) true)
  refine⟨ds,gs,pa++pv,[],pa,pv,hW,hr _ _ _,ha _ (λ p hp=>dT (old p hp)),hv _ (λ p hp=>dT (old p hp)),
    World.keptBut_mono (λ p hp=>⟨hp,.inr (List.mem_append.1 hp)⟩) (below.frame (· ∈pa++pv)),λ _=>⟨ho,(s.fn H (ds++gs)).results++(s.fn H (ds++gs)).args,(s.fn H (ds++gs)).vars,pa++pv,?_,λ p hp _=>hp⟩⟩
  obtain⟨_,_,_,_,_,hz,hn⟩:=hW
  exact⟨pa,pv,whole,hv _ (λ _ _=>rfl),rfl,λ b off hp=>(below.frozen (old _ hp)).trans (hz b off hp),λ e=>hn e⟩

open Go.RowKit Go.WideShapes Go.ChangeShapes Go.Deep

def BA(k:Nat)(w:World)(v:Value)(len:Nat)(x:Nat->Nat->Int):Prop:=
  ∃ a cap,v=.slice a len cap/\∀ i,i<len->∃ b o,a=some ⟨b,o,none⟩/\b<w.heap.size/\
    ∀ j,j<k->w.cell? ⟨b,o+(i*k+j),none⟩=some (.int .i64 (x i j))/\-9223372036854775808<=x i j/\x i j<=9223372036854775807

theorem BA.keep{k:Nat}{w w':World}{v:Value}{len:Nat}{x:Nat->Nat->Int}(h:BA k w v len x){S:Nat->Prop}(kp:Kp S w w')(hs:∀ b,b<w.heap.size->¬ S b):BA k w' v len x:=by
  obtain⟨a,cap,rfl,h⟩:=h
  refine⟨a,cap,rfl,λ i hi=>?_⟩
  obtain⟨b,o,rfl,h1,h2⟩:=h i hi
  exact⟨b,o,rfl,Nat.lt_of_lt_of_le h1 kp.size,λ j hj=>⟨kp.cell (h2 j hj).1 (hs b h1),(h2 j hj).2⟩⟩

theorem EW{w:World}{a:Addr}{v:Value}(h:w.cell? a=some v):a=⟨a.block,a.off,none⟩/\a.block<w.heap.size:=by
  unfold World.cell? at h
  cases hh:w.heap[a.block]? with
  |none=>rw [hh] at h;cases h
  |some o=>
    have hb:a.block<w.heap.size:=(Array.getElem?_eq_some_iff.1 hh).1
    rw[hh] at h
    cases o with
    |cells c e f=>
      by_cases hs:a.spot.isSome
      . simp[hs] at h
      . refine⟨?_,hb⟩
        cases a with
        |mk b o s=>cases s with
          |none=>rfl
          |some _=>simp at hs
    |_=>cases h

section
variable {H:Type} {enc:TypeId×Value->H} {P:Program}

theorem Kp.trodAll{W W':World}(k:Kp Ab W W')(hl:laidOutB P=true){sp:Nat->Bool}:∀ {ts:List TypeId} {vs:List Value} {ds:List (DataW H)} {ps:List MemPlace},(∀ t∈ts,P.readableRec t=true/\t<P.types.size)->
    DataW.TrodAll enc P W 0 (λ _=>true) true ts vs ds ps->(∀ x∈ps,x.block<W.heap.size)->(∀ x∈ps,sp x.block=true)->DataW.TrodAll enc P W' 0 sp true ts vs ds ps
  |[],[],[],_,_,h,_,_=>h
  |t::ts,v::vs,d::ds,ps,ht,h,hb,hs=>by
    obtain⟨p,q,h1,h2,e⟩:=h
    subst e
    have ht0:=ht t (by simp)
    exact⟨p,q,WideElems.Trod_stays hl ht0.1 ht0.2 h1 (λ x hx=>k.below_not.same (hb x (by simp[hx]))) (λ x hx=>hs x (by simp[hx])),
      Kp.trodAll k hl (λ u hu=>ht u (by simp[hu])) h2 (λ x hx=>hb x (by simp[hx])) (λ x hx=>hs x (by simp[hx])),rfl⟩

def typesB(P:Program)(ts:List TypeId):Bool:=ts.all λ t=>P.readableRec t&&decide (t<P.types.size)

theorem Kp.trodArgs{W W':World}(k:Kp Ab W W')(hl:laidOutB P=true){sp:Nat->Bool}{ts:List TypeId}{vs:List Value}{ds:List (DataW H)}{ps:List MemPlace}(ht:typesB P ts=true)
    (h:DataW.TrodAll enc P W 0 (λ _=>true) true ts vs ds ps) (hb:∀ x∈ps,x.block<W.heap.size) (hs:∀ x∈ps,sp x.block=true):DataW.TrodAll enc P W' 0 sp true ts vs ds ps:=
  k.trodAll hl (λ t hm=>by have:=List.all_eq_true.1 ht t hm;simpa using this) h hb hs

end

variable {P:Program} {n:Nat}

end

namespace Wd

theorem Fu:(2:Nat) ^ 64=18446744073709551616:=by decide

def DW:Nat->Nat->Nat
 |0,_=>0
 |k+1,v=>v%2+DW k (v/2)

theorem onesF_zero(k:Nat):DW k 0=0:=by
 induction k with
 |zero=>rfl
 |succ k ih=>simp [DW,ih]

theorem onesF_le(k v:Nat):DW k v<=k:=by
 induction k generalizing v with
 |zero=>simp [DW]
 |succ k ih=>have:=ih (v/2);simp only[DW];omega

theorem onesF_last(k v:Nat):DW (k+1) v=DW k v+v/2 ^ k%2:=by
 induction k generalizing v with
 |zero=>simp [DW]
 |succ k ih=>
  rw[DW,ih (v/2)]
  simp only[DW,Nat.pow_succ,Nat.div_div_eq_div_mul,Nat.mul_comm 2]
  omega

theorem and_pred_even(m:Nat)(h:0<m):(2*m) &&& (2*m-1)=2*(m &&& (m-1)):=by
 apply Nat.eq_of_testBit_eq
 intro i
 cases i with
 |zero=>simp
 |succ i=>
  have e1:(2*m)/2=m:=by omega
  have e2:(2*m-1)/2=m-1:=by omega
  have e3:(2*(m &&& (m-1)))/2=m &&& (m-1):=by omega
  rw[Nat.testBit_and,Nat.testBit_succ,Nat.testBit_succ,Nat.testBit_succ,e1,e2,e3,Nat.testBit_and]

theorem and_pred_odd(m:Nat):(2*m+1) &&& (2*m)=2*m:=by
 apply Nat.eq_of_testBit_eq
 intro i
 cases i with
 |zero=>simp
 |succ i=>
  have e1:(2*m+1)/2=m:=by omega
  have e2:(2*m)/2=m:=by omega
  rw[Nat.testBit_and,Nat.testBit_succ,Nat.testBit_succ,e1,e2,Bool.and_self]

theorem onesF_and_pred{k v:Nat}(h:v<2 ^ k)(h0:v≠0):DW k (v &&& (v-1))+1=DW k v:=by
 induction k generalizing v with
 |zero=>simp at h;omega
 |succ k ih=>
  rw[Nat.pow_succ] at h
  rcases Nat.mod_two_eq_zero_or_one v with h1|h1
  .obtain ⟨m,rfl⟩:∃ m,v=2*m:=⟨v/2,by omega⟩
   have hm:0<m:=by omega
   rw[and_pred_even m hm,DW,DW]
   have e1:(2*(m &&& (m-1)))/2=m &&& (m-1):=by omega
   have e2:(2*m)/2=m:=by omega
   have:=ih (v:=m) (by omega) (by omega)
   rw[e1,e2];omega
  .obtain ⟨m,rfl⟩:∃ m,v=2*m+1:=⟨v/2,by omega⟩
   have e0:2*m+1-1=2*m:=by omega
   rw[e0,and_pred_odd,DW,DW]
   have e1:(2*m)/2=m:=by omega
   have e2:(2*m+1)/2=m:=by omega
   rw[e1,e2];omega

@[irreducible] def ones (v:Nat):Nat:=DW 64 v
theorem ones_zero:ones 0=0:=by unfold ones;exact onesF_zero 64
theorem ones_le(v:Nat):ones v<=64:=by unfold ones;exact onesF_le 64 v
theorem ones_and_pred{v:Nat}(h:v<18446744073709551616)(h0:v≠0):ones (v &&& (v-1))+1=ones v:=by
 unfold ones;exact onesF_and_pred (by rw[Fu];exact h) h0

theorem and_le_pred(v:Nat):v &&& (v-1)<=v:=Nat.and_le_left

def lowF(v:Nat):Nat->Nat->Nat
 |0,i=>i
 |f+1,i=>if v/2 ^ i%2=1 then i else lowF v f (i+1)

def low(v:Nat):Nat:=lowF v 64 0

theorem lowF_go{v:Nat}:∀ (f i j:Nat),i<=j->j<=i+f->(∀ k,i<=k->k<j->v/2 ^ k%2≠1)->(j<i+f->v/2 ^ j%2=1)->lowF v f i=j
 |0,i,j,h1,h2,_,_=>by simp only[lowF];omega
 |f+1,i,j,h1,h2,h3,h4=>by
  simp only[lowF]
  by_cases e:i=j
  .subst e;rw [if_pos (h4 (by omega))]
  .rw [if_neg (h3 i (Nat.le_refl _) (by omega))]
   exact lowF_go f (i+1) j (by omega) (by omega) (λ k hk=>h3 k (by omega)) (λ h=>h4 (by omega))

theorem low_eq{v j:Nat}(h2:j<=64)(h3:∀ k,k<j->v/2 ^ k%2≠1)(h4:j<64->v/2 ^ j%2=1):low v=j:=
 lowF_go 64 0 j (Nat.zero_le _) (by omega) (λ k _=>h3 k) (λ h=>h4 (by omega))

theorem lowF_spec{v:Nat}:∀ (f i:Nat),i<=lowF v f i/\lowF v f i<=i+f/\(∀ k,i<=k->k<lowF v f i->v/2 ^ k%2≠1)/\(lowF v f i<i+f->v/2 ^ lowF v f i%2=1)
 |0,i=>⟨by simp[lowF],by simp[lowF],λ k h1 h2=>by simp only[lowF] at h2;omega,λ h=>by simp only[lowF] at h;omega⟩
 |f+1,i=>by
  simp only[lowF]
  by_cases e:v/2 ^ i%2=1
  .rw [if_pos e];exact ⟨Nat.le_refl _,by omega,λ k h1 h2=>by omega,λ _=>e⟩
  .rw [if_neg e]
   obtain⟨a,b,c,d⟩:=lowF_spec f (i+1) (v:=v)
   refine⟨by omega,by omega,λ k h1 h2=>?_,λ h=>d (by omega)⟩
   by_cases ek:k=i
   .subst ek;exact e
   .exact c k (by omega) h2

theorem low_le(v:Nat):low v<=64:=by have:=(lowF_spec (v:=v) 64 0).2.1;simpa [low] using this
theorem low_below{v k:Nat}(h:k<low v):v/2 ^ k%2≠1:=(lowF_spec (v:=v) 64 0).2.2.1 k (Nat.zero_le _) h
theorem low_is{v:Nat}(h:low v<64):v/2 ^ low v%2=1:=(lowF_spec (v:=v) 64 0).2.2.2 (by simpa [low] using h)

theorem mask_lt{at_ n:Nat}(hn:at_+n<=64):(2 ^ n-1)*2 ^ at_<2 ^ 64:=by
 have h1:(2 ^ n-1)*2 ^ at_<2 ^ n*2 ^ at_:=Nat.mul_lt_mul_of_pos_right (by have:=Nat.two_pow_pos n;omega) (Nat.two_pow_pos _)
 have h2:2 ^ n*2 ^ at_<=2 ^ 64:=by rw[<- Nat.pow_add];exact Nat.pow_le_pow_right (by decide) (by omega)
 exact Nat.lt_of_lt_of_le h1 h2

theorem tb_not{m:Nat}(hm:m<2 ^ 64)(i:Nat):(18446744073709551615-m).testBit i=(decide (i<64)&& !m.testBit i):=by
 have e:18446744073709551615-m=2 ^ 64-(m+1):=by rw[Fu,Nat.add_comm,Nat.sub_add_eq]
 rw[e];exact Nat.testBit_two_pow_sub_succ hm i

theorem Es(v i:Nat):v.testBit i=decide (v/2 ^ i%2=1):=by
 rw[Nat.testBit_eq_decide_div_mod_eq]

theorem and_one(v:Nat):v &&& 1=v%2:=Nat.and_one_is_mod v

end Wd

section
open Go.RowKit

theorem ret2{k j:IntKind}{a b c d:Int}(h:a=b)(h':c=d):Ending.returned (.tuple #[.int k a,.int j c])=.returned (.tuple #[.int k b,.int j d]):=by rw[h,h']
theorem ret1{k:IntKind}{a b:Int}(h:a=b):Ending.returned (.int k a)=.returned (.int k b):=by rw[h]

namespace Wd
def addS(a b:Int):Int:=if a+b<18446744073709551616 then a+b else 0
def addE(a b:Int):Int:=if a+b<18446744073709551616 then 0 else 10
def subS(a b:Int):Int:=if a<b then 0 else a-b
def subE(a b:Int):Int:=if a<b then 10 else 0
def mulS(a b:Int):Int:=if a*b<18446744073709551616 then a*b else 0
def mulE(a b:Int):Int:=if a*b<18446744073709551616 then 0 else 10
def upS(n:Int):Int:=if n<1 then 0 else (n-1)/2+1
def downS(n:Int):Int:=if n<1 then 0 else n/2
end Wd

section
variable (w:World)

theorem wrap_mod(n:Int):IntKind.u64.wrap n=n%18446744073709551616:=IntKind.wrap_u64 n

theorem wrap_of{n:Int}(h0:0<=n)(h1:n<18446744073709551616):IntKind.u64.wrap n=n:=by rw[wrap_mod];omega

theorem Wd.and_one'{v:Int}(k:Nat)(h0:0<=v)(h1:v<18446744073709551616):bits BinOp.and IntKind.u64 (v/2 ^ k) 1=((v.toNat/2 ^ k%2:Nat):Int):=by
 obtain⟨V,rfl⟩:=Int.eq_ofNat_of_zero_le h0
 have e:((V:Int)/2 ^ k)=((V/2 ^ k:Nat):Int):=by simp
 have hl:V/2 ^ k<18446744073709551616:=Nat.lt_of_le_of_lt (Nat.div_le_self _ _) (by omega)
 rw[e]
 have:=u64_and_nat (V/2 ^ k) 1 hl (by decide)
 rw[show ((1:Nat):Int)=1 from rfl] at this
 rw[this,Wd.and_one,Int.toNat_natCast]

theorem Low_any(v:Int)(h0:0<=v)(h1:v<18446744073709551616):
  Calls prog 199 #[.int .u64 v] w λ e w'=>w=w'/\e=.returned (.int .i64 (Wd.low v.toNat)):=by
 have A1:=Lib.hid (λ k=>Wd.and_one' (v:=v) k h0 h1)
 go_enter func199,ntmps199
 go_wp2
 go_loop [4] (λ i=>∃ k:Nat,k<=64/\i=.int .i64 k/\∀ j,j<k->v.toNat/2 ^ j%2≠1) (λ i=>64-(intOf i).toNat)
 case atStart=>exact ⟨0,by omega,rfl,λ _ h=>by omega⟩
 case round=>
  obtain⟨k,hk,rfl,hb⟩:=hrel
  have hb:=Lib.hid hb
  by_cases hlt:k<64
  .have A2:=Lib.hid (A1.out k)
   by_cases ht:v.toNat/2 ^ k%2=1
   .have t:(bits BinOp.and IntKind.u64 (v/2 ^ k) 1==1)=true:=by rw[A2.out,ht];rfl
    have ht:=Lib.hid ht
    go_wp2
    go_ret
    exact⟨rfl,ret1 (by rw[Wd.low_eq hk hb.out (λ _=>ht.out)])⟩
   .have t:(bits BinOp.and IntKind.u64 (v/2 ^ k) 1==1)=false:=by rw[A2.out,beq_eq_false_iff_ne];omega
    have ht:=Lib.hid ht
    go_wp2
    go_round
    case rel=>
     refine⟨k+1,by omega,by go_num,λ j hj=>?_⟩
     by_cases e:j=k
     .subst e;exact ht.out
     .exact hb.out j (by omega)
    case measure=>simp [intOf];omega
  .go_wp2
   go_ret
   exact⟨rfl,ret1 (by rw[Wd.low_eq (Nat.le_refl 64) (λ j hj=>hb.out j (by omega)) (λ h=>by omega)];rfl)⟩

theorem Wd.and_pred'{v:Int}(h0:0<v)(h1:v<18446744073709551616):bits BinOp.and IntKind.u64 v (v-1)=((v.toNat &&& (v.toNat-1):Nat):Int):=by
 have:=u64_and v (v-1) (by omega) h1 (by omega) (by omega)
 rw[this,show (v-1).toNat=v.toNat-1 by omega]

theorem Ones_any(v:Int)(h0:0<=v)(h1:v<18446744073709551616):
  Calls prog 117 #[.int .u64 v] w λ e w'=>w=w'/\e=.returned (.int .i64 (Wd.ones v.toNat)):=by
 go_enter func117,ntmps117
 go_wp2
 go_loop [0,2] (λ x n=>∃ (y:Nat) (k:Nat),y<18446744073709551616/\k<=64/\x=.int .u64 y/\n=.int .i64 k/\Wd.ones y+k=Wd.ones v.toNat) (λ x _=>Wd.ones (intOf x).toNat)
 case atStart=>exact ⟨v.toNat,0,by omega,by omega,by rw[Int.toNat_of_nonneg h0],rfl,rfl⟩
 case round=>
  obtain⟨y,k,hy,hk,rfl,rfl,hs⟩:=hrel
  have hs:=Lib.hid hs
  by_cases hz:y=0
  .subst hz
   go_wp2
   go_ret
   exact⟨rfl,ret1 (by have:=hs.out;rw [Wd.ones_zero] at this;omega)⟩
  .have t:((y:Int) !=0)=true:=by rw[bne_iff_ne];omega
   have hp:=Lib.hid (Wd.ones_and_pred hy hz)
   have hl:=Lib.hid (Wd.ones_le v.toNat)
   have ha:=Lib.hid (Wd.and_pred' (v:=y) (by omega) (by omega))
   have hle:=Wd.and_le_pred y
   go_wp2
   go_round
   case rel=>
    refine⟨y &&& (y-1),k+1,by omega,?_,?_,by go_num,?_⟩
    .have:=hs.out;have:=hp.out;have:=hl.out;omega
    .rw [ha.out,Int.toNat_natCast]
    .have:=hs.out;have:=hp.out;omega
   case measure=>
    rw[ha.out];simp only[intOf,Int.toNat_natCast]
    have:=hp.out;omega

end
end

end Go.Proofs.YtmfajopmppfldaaGreatDoor
