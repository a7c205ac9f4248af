/-
  Lemmas for the laws, together: LibA, WordMath, Bits1, Bits2.
-/
import Derived.RangeFuncNested
import Derived.RangeFuncBound
import Derived.RangeFuncCalls
import Derived.RangeFuncLeaves
import Derived.WalkKit
import Derived.WalkLawsBesides
import Derived.Deep.QuietTactic
import Derived.BigQuiet
import Derived.OwnWalkIn
import Derived.TacticsInMore
import Derived.LoopNIn
import Derived.LoopIn
import Derived.StillTailTactics
import Derived.Lib.Hide
import Derived.Shelf.Abstract
import Derived.ChangeSame
import Derived.Deep.Slices
import Derived.Deep.Fields
import Derived.Carry
import Derived.OpenShut
import Derived.Test.YtmfajopmppfldaaGreatDoorProg
import Derived.OwnWalk
import Derived.Maps.AppendAt
import Derived.Deep.AppendLies
import Derived.Laws.Cover3
import Derived.Deep.RegionHeld3
import Derived.Laws.StructEq
set_option linter.unusedVariables false
set_option maxHeartbeats 16000000
namespace Go.Proofs.YtmfajopmppfldaaGreatDoor
open Tryz
section
open Go.RowKit

structure Sl(p:Prop):Prop where
  out:p

theorem sE{p:Prop}(h:p):Sl p:=⟨h⟩

theorem wN(w:World)(o:Obj):(w.alloc o).heap[w.heap.size]?=some o:=World.alloc_heap_new w o

theorem dF{p:Prop}[Decidable p](h:¬ p):decide p=false:=decide_eq_false h

theorem dT{p:Prop}[Decidable p](h:p):decide p=true:=decide_eq_true h

theorem gE{α:Type}{xs:List α}{i:Nat}{a:α}:xs[i]?=some a ↔ ∃ h:i<xs.length,xs[i]=a:=List.getElem?_eq_some_iff

structure Kp(S:Nat->Prop)(w w':World):Prop where
  os:w'.os=w.os
  tape:w'.tape=w.tape
  output:w'.output=w.output
  size:w.heap.size<=w'.heap.size
  block:∀ k,k<w.heap.size->¬ S k->w'.heap[k]?=w.heap[k]?

def Ab:Nat->Prop:=λ _=>False

namespace Kp
variable {S S':Nat->Prop} {w w' a b c:World}

theorem refl(S:Nat->Prop)(w:World):Kp S w w:=⟨rfl,rfl,rfl,Nat.le_refl _,λ _ _ _=>rfl⟩

theorem trans(h:Kp S a b)(k:Kp S' b c)(hs:∀ i,i<a.heap.size->S' i->S i):Kp S a c:=
  ⟨k.os.trans h.os,k.tape.trans h.tape,k.output.trans h.output,Nat.le_trans h.size k.size,
   λ i hi hn=>(k.block i (Nat.lt_of_lt_of_le hi h.size) (λ hs'=>hn (hs i hi hs'))).trans (h.block i hi hn)⟩

theorem mono(h:Kp S a b)(hs:∀ i,i<a.heap.size->S i->S' i):Kp S' a b:=
  ⟨h.os,h.tape,h.output,h.size,λ i hi hn=>h.block i hi (λ hx=>hn (hs i hi hx))⟩

theorem Al(h:Kp Ab a b)(S:Nat->Prop):Kp S a b:=h.mono λ_ _ hf=>hf.elim

theorem alloc(h:Kp S a w)(o:Obj):Kp S a (w.alloc o):=
  h.trans (S':=Ab) ⟨rfl,rfl,rfl,by simp,λ k hk _=>Below.heap_alloc _ _ _ hk⟩ (λ _ _ hf=>hf.elim)

theorem setCell(h:Kp S a w){p:Addr}(hp:p.block<a.heap.size->S p.block)(v:Value):Kp S a (w.setCell p v):=
  h.trans (S':=λ k=>k=p.block) ⟨rfl,rfl,rfl,by simp[World.setCell],λ k _ hn=>Below.heap_setCell _ _ _ _ hn⟩ (λ i hi e=>by subst e;exact hp hi)

theorem putObj(h:Kp S a w){r:Nat}(hr:r<a.heap.size->S r)(o:Obj):Kp S a (w.putObj r o):=
  h.trans (S':=λ k=>k=r) ⟨rfl,rfl,rfl,by simp,λ k _ hn=>World.putObj_heap_other hn⟩ (λ i hi e=>by subst e;exact hr hi)

theorem drewN(h:Kp S a w)(n:Nat):Kp S a (w.drewN n):=⟨h.os,h.tape,h.output,h.size,h.block⟩
theorem drew(h:Kp S a w):Kp S a w.drew:=⟨h.os,h.tape,h.output,h.size,h.block⟩
theorem Aj(n:Nat):Kp S w (w.drewN n):=(refl S w).drewN n

theorem grown(h:Kp S a w){row:Option Nat}(hg:w.grownBy w' row)(hr:∀ k,row=some k->k<a.heap.size->S k):Kp S a w':=
  h.trans (S':=λ k=>some k=row) ⟨hg.os,hg.tape,hg.output,hg.size,λ k hk hn=>hg.block k hk hn⟩ (λ i hi e=>hr i e.symm hi)

theorem below(h:Kp S a b){B:Nat}(hB:B<=a.heap.size)(hs:∀ k,k<B->¬ S k):Below B a b:=
  ⟨h.os,h.tape,h.output,h.size,λ k hk=>h.block k (by omega) (hs k hk)⟩

theorem below_not(h:Kp Ab a b):Below a.heap.size a b:=h.below (Nat.le_refl _) (λ _ _ hf=>hf)

theorem grownBy(h:Kp S a b){q:Nat}(hs:∀ k,k<a.heap.size->S k->k=q):a.grownBy b (some q):=
  ⟨h.os,h.tape,h.output,h.size,λ k hk hn=>h.block k hk (λ hx=>hn (by rw[hs k hk hx]))⟩

theorem at_(h:Kp S a b){k:Nat}{o:Obj}(hk:a.heap[k]?=some o)(hn:¬ S k):b.heap[k]?=some o:=
  (h.block k (Array.getElem?_eq_some_iff.1 hk).1 hn).trans hk

theorem cell(h:Kp S a b){p:Addr}{v:Value}(hc:a.cell? p=some v)(hn:¬ S p.block):b.cell? p=some v:=
  (World.cell?_of_block (w:=a) (h.block p.block (World.block_lt_of_cell? a p hc) hn)).trans hc

end Kp

theorem Kr(S:Nat->Prop)(w:World):Kp S w w:=Kp.refl S w

/-! ### Regions whose order is open,within a round -/
section
variable {P:Program} {ops:Array Oper} {Q:Exit->Act->World->Prop}

def DV(ops:Array Oper):Bool:=ops.all λ o=>match o.op with|.defer _=>false|_=>true

theorem noDefers_spec(h:DV ops=true){i:Nat}{o:Oper}(ho:ops[i]?=some o):∀ c,o.op≠.defer c:=by
  intro c e
  unfold DV at h
  rw[Array.all_eq_true'] at h
  have:=h o (Array.mem_of_getElem? ho)
  rw[e] at this
  cases this

theorem Oper.wpIn_of_wp{o:Oper}{a:Act}{w:World}{K:Act->World->Prop}{n l:Nat}(hd:∀ c,o.op≠.defer c)(h:o.wp P a w K Q):o.wpIn (Fence.wide.inRound l) n P a w K Q:=by
  refine⟨λ _ _=>trivial,?_⟩
  unfold Oper.wp at h
  rw[Fence.inRound_round,Oper.semAt_some l a.eval o hd]
  generalize (execOp a.eval o).run P w=r at*
  cases r with
  |ok x w'=>
    cases x <;> simp only[Oper.upon] at h <;> simp only[Oper.uponIn] <;> try exact h
    . exact⟨λ hh=>(by simp[Fence.wide] at hh),callsIn_wide.2 h⟩
    . refine⟨λ hh=>(by simp[Fence.wide] at hh),λ c cs _=>?_⟩
      obtain⟨v,w'',r,s⟩:=h c cs
      exact⟨v,w'',r,stepsIn_wide.2 s⟩
  |halt x w'=>cases x <;> simp only[Oper.upon] at h <;> simp only[Oper.uponIn] <;> exact h

theorem Dl{n l:Nat}(hd:DV ops=true)(hq:∀ a w,¬ Q .outgrown a w):∀ (is:List Nat) (a:Act) (w:World),wpOps P ops Q is a w->wpOpsIn (Fence.wide.inRound l) n P ops Q is a w
  |[],_,_,h=>h
  |i::is,a,w,h=>by
    simp only[wpOps] at h
    simp only[wpOpsIn]
    cases ho:ops[i]? with
    |none=>simp only[ho] at h ⊢;exact Dl hd hq is a w h
    |some o=>
      simp only[ho] at h ⊢
      split
      . rename_i hw
        simp only[hw,if_true] at h
        rcases h with h|⟨_,a',w',h⟩
        . exact Oper.wpIn_of_wp (noDefers_spec hd ho) (Oper.wp_mono (λ a' w'=>Dl hd hq is a' w') h)
        . exact(hq _ _ h).elim
      . rename_i hw
        simp only[hw] at h
        exact⟨λ _ _=>trivial,Dl hd hq is _ w h⟩

theorem wpIn_region_any{id n l:Nat}{a:Act}{w:World}(hm:P.follows .mixedOrders=true)(hd:DV ops=true)(hq:∀ a w,¬ Q .outgrown a w)
    (h:wpAny P .any ops Q ops.size (Array.replicate ops.size false) a {w with drawn:=w.drawn+1}):(Code.region id ops true).wpIn (Fence.wide.inRound l) n P Q a w:=
  wpIn_region_draw λ t=>by
    simp only[Region.schedule,hm,Bool.true_or,if_true]
    exact Dl hd hq _ _ _ (wpAny_sound ops.size t _ a _ h)

/-! Reads and quiet calls first,in whatever order;then a tail in one order: a store,an append. -/

def wpAnyLQ(P:Program)(md:Region.Mode)(ops:Array Oper)(C:World->Prop)(n:Nat)(L:Array Bool->Act->Prop):Nat->Array Bool->Act->Prop
  |0,listed,a=>L listed a
  |f+1,listed,a=>
    Region.ready md ops listed≠[]/\∀ i∈Region.ready md ops listed,i<n/\qOp P ops C i (wpAnyLQ P md ops C n L f (listed.setIfInBounds i true)) a

theorem wpAny_of_headQ{md:Region.Mode}{C:World->Prop}{n g:Nat}{L:Array Bool->Act->Prop}{Q':Exit->Act->World->Prop}(hL:∀ listed a w,C w->L listed a->wpAny P md ops Q' g listed a w):
    ∀ (f:Nat) (listed:Array Bool) (a:Act) (w:World),C w->wpAnyLQ P md ops C n L f listed a->wpAny P md ops Q' (f+g) listed a w
  |0,listed,a,w,hw,h=>by rw[Nat.zero_add];exact hL _ _ _ hw h
  |f+1,listed,a,w,hw,h=>by
    rw[show f+1+g=(f+g)+1 by omega]
    exact⟨λ h0=>absurd h0 h.1,λ i hi=>wpOp_of_qOp hw (λ a' w' hw' h'=>wpAny_of_headQ hL f _ a' w' hw' h') (h.2 i hi).2⟩

theorem wpAnyLQ_first{md:Region.Mode}{C:World->Prop}{n i:Nat}{oi:Oper}{v:Value}{L:Array Bool->Act->Prop}(hi:ops[i]?=some oi)(hsel:∀ (j:Nat) (o:Oper) cs b,ops[j]?=some o->o.op≠.select cs b)
    (hs:Region.sinkB md ops n=true) (hc:Region.chainB md ops n=true) (hn:n<ops.size) (hin:i<n)
    (hdone:∀ listed a,L listed a->∀ j∈Region.ready md ops listed,n<=j):
    ∀ (f:Nat) (listed:Array Bool) (a:Act),HeadInv md ops n listed->
      (∀ j oj,ops[j]?=some oj->j≠i->listed.getD j true=false->(∀ e∈oj.after,Region.binds md e=true->e.on≠i)->oi.apart ops oj=true)->
      i∈Region.ready md ops listed->Go.YieldsIn P ops C oi v a->
      wpAnyLQ P md ops C n L f (listed.setIfInBounds i true) (a.put oi.dst v)->wpAnyLQ P md ops C n L (f+1) listed a:=by
  intro f
  induction f with
  |zero=>
    intro listed a inv _ hr hy H
    have hun:=(mem_ready.1 hr).1
    refine⟨λ h=>(by rw[h] at hr;cases hr),λ j hj=>?_⟩
    have hjn:j<n:=by
      rcases Nat.lt_or_ge j n with h|h
      . exact h
      . exact absurd hj (tail_waits hs hc hn inv _ i rfl hin hun j h)
    refine⟨hjn,?_⟩
    by_cases hji:j=i
    . subst hji;exact hy.qOp hi H
    . have:=hdone _ _ H j (ready_mono hj hji)
      omega
  |succ f ih=>
    intro listed a inv hfree hr hy H
    have hun:=(mem_ready.1 hr).1
    refine⟨λ h=>(by rw[h] at hr;cases hr),λ j hj=>?_⟩
    have hjn:j<n:=by
      rcases Nat.lt_or_ge j n with h|h
      . exact h
      . exact absurd hj (tail_waits hs hc hn inv _ i rfl hin hun j h)
    refine⟨hjn,?_⟩
    by_cases hji:j=i
    . subst hji;exact hy.qOp hi H
    . have h1:=(H.2 j (ready_mono hj hji)).2
      obtain⟨hjun,oj,hoj,hall⟩:=mem_ready.1 hj
      have hnot:∀ e∈oj.after,Region.binds md e=true->e.on≠i:=λ e he hb heq=>by
        have h1:=hall e he hb
        rw[heq,getD_both hun] at h1
        cases h1
      have h2:=qOp_put hoj (hfree j oj hoj hji hjun hnot) (λ cs b=>hsel i oi cs b hi) (λ cs b=>hsel j oj cs b hoj) hy h1
      have hfree':∀ k ok,ops[k]?=some ok->k≠i->(listed.setIfInBounds j true).getD k true=false->
          (∀ e∈ok.after,Region.binds md e=true->e.on≠i)->oi.apart ops ok=true:=λ k ok hk hki hun hno=>by
        refine hfree k ok hk hki ?_ hno
        by_cases hjk:j=k
        . subst hjk;exact hjun
        . rw[getD_set_ne true hjk] at hun;exact hun
      refine qOp_mono (λ a' h3=>ih (listed.setIfInBounds j true) a' (inv.set hj hjn) hfree' (ready_mono hr (Ne.symm hji)) h3.1 ?_) h2
      rw[Array.setIfInBounds_comm _ _ hji]
      exact h3.2

theorem wpAnyLQ_lex{md:Region.Mode}{C:World->Prop}{n g:Nat}{Lq:Act->Prop}(hsel:Region.noSelect ops=true)(hs:Region.sinkB md ops n=true)(hc:Region.chainB md ops n=true)(hn:n<ops.size):
    ∀ (l:List Oper) (k:Nat) (listed:Array Bool) (a:Act),(∀ j,j<l.length->l[j]?=ops[k+j]?)->k+l.length=n->HeadInv md ops n listed->
    Region.lexHead md ops g l.length k listed=true->wpQuiet P ops C Lq l a->
    wpAnyLQ P md ops C n (λ listed' a'=>Region.seqB md ops g n listed'=true/\Lq a') l.length listed a
  |[],k,listed,a,_,hk,_,hB,h=>by
    have:k=n:=by simpa using hk
    subst this
    exact⟨by simpa [Region.lexHead] using hB,h⟩
  |o::l,k,listed,a,hl,hk,inv,hB,h=>by
    have h0:ops[k]?=some o:=by simpa using (hl 0 (by simp)).symm
    simp only[List.length_cons,Region.lexHead,Bool.and_eq_true] at hB
    obtain⟨⟨hr,hf⟩,hB'⟩:=hB
    have hkn:k<n:=by simp only[List.length_cons] at hk;omega
    have hr':k∈Region.ready md ops listed:=by simpa using hr
    have hst:qOp P ops C k (wpQuiet P ops C Lq l) a:=by unfold qOp;simp only[h0];exact h
    obtain⟨v,hy,hK⟩:=yieldsIn_of_qOp h0 hst
    exact wpAnyLQ_first h0 (Region.noSelect_spec hsel) hs hc hn hkn (λ listed' a' hL=>seqB_ready hL.1) l.length listed a inv (Region.free_spec h0 hf) hr' hy
      (wpAnyLQ_lex hsel hs hc hn l (k+1) _ _ (λ j hj=>by have:=hl (j+1) (by simp;omega);simpa [Nat.add_assoc,Nat.add_comm 1 j] using this) (by simp only[List.length_cons] at hk;omega) (inv.set hr' hkn) hB' hK)

theorem FU{a:Act}{w:World}{l:List Oper}(n:Nat)(hB:Region.lexTailB .any l.toArray n=true)
    (h:wpQuiet P l.toArray (λ w'=>∃ n,w'=w.drewN n) (λ a'=>∀ w',(∃ n,w'=w.drewN n)->wpList P l.toArray Q (l.drop n) a' w') (l.take n) a):
    wpAny P .any l.toArray Q l.toArray.size (Array.replicate l.toArray.size false) a {w with drawn:=w.drawn+1}:=by
  simp only[Region.lexTailB,Bool.and_eq_true,decide_eq_true_eq] at hB
  obtain⟨⟨⟨⟨hsel,hn⟩,hs⟩,hc⟩,hlex⟩:=hB
  have hn':n<l.length:=by simpa using hn
  have htl:(l.take n).length=n:=by simp;omega
  have hdl:(l.drop n).length=l.toArray.size-n:=by simp
  have inv0:HeadInv .any l.toArray n (Array.replicate l.toArray.size false):=
    ⟨by simp,λ j oj _ hl=>(by rw[getD_replicate_false] at hl;cases hl),λ t _ ht=>getD_in (by simpa using ht) (getD_replicate_false _ _)⟩
  have H:=wpAnyLQ_lex (md:=.any) (g:=l.toArray.size-n) hsel hs hc hn (l.take n) 0 _ a (λ j hj=>by
    have hj':j<n:=by rw[htl] at hj;exact hj
    simp[hj']) (by simpa using htl) inv0 (by rw[htl];exact hlex) h
  have:=wpAny_of_headQ (Q':=Q) (g:=l.toArray.size-n) (λ listed a' w' hw' hL=>by
    have:=wpAny_of_seq (md:=.any) (Q':=Q) (l.drop n) n listed a' w' (λ j=>by simp[List.getElem?_drop]) (by rw[hdl];exact hL.1) (hL.2 w' hw')
    rwa [hdl] at this) _ _ _ {w with drawn:=w.drawn+1} ⟨1,rfl⟩ H
  rw[htl,show n+(l.toArray.size-n)=l.toArray.size by omega] at this
  exact this

theorem Co{id:Nat}{a:Act}{w:World}{l:List Oper}(n:Nat)(hm:P.follows .mixedOrders=true)(hB:Region.lexTailB .any l.toArray n=true)
    (h:wpQuiet P l.toArray (λ w'=>∃ n,w'=w.drewN n) (λ a'=>∀ w',(∃ n,w'=w.drewN n)->wpList P l.toArray Q (l.drop n) a' w') (l.take n) a):(Code.region id l.toArray true).wp P Q a w:=
  wp_region_any hm (FU n hB h)

theorem BA{id m lo:Nat}{a:Act}{w:World}{l:List Oper}(n:Nat)(hm:P.follows .mixedOrders=true)(hB:Region.lexTailB .any l.toArray n=true)(hd:DV l.toArray=true)(hq:∀ a w,¬ Q .outgrown a w)
    (h:wpQuiet P l.toArray (λ w'=>∃ n,w'=w.drewN n) (λ a'=>∀ w',(∃ n,w'=w.drewN n)->wpList P l.toArray Q (l.drop n) a' w') (l.take n) a):(Code.region id l.toArray true).wpIn (Fence.wide.inRound lo) m P Q a w:=
  wpIn_region_any hm hd hq (FU n hB h)
end

variable {P:Program} {n:Nat}

theorem cell_putObj{W:World}{l:Nat}{o o':Obj}(h:W.heap[l]?=some o)(hc:o.isCells=false)(hc':o'.isCells=false)(a:Addr):(W.putObj l o').cell? a=W.cell? a:=by
  unfold World.cell?
  by_cases e:a.block=l
  . rw[e,World.putObj_heap_same (Array.getElem?_eq_some_iff.1 h).1,h]
    cases o <;> cases o' <;> simp_all [Obj.isCells]
  . rw[World.putObj_heap_other e]

theorem frozen_putObj{W:World}{l:Nat}{o o':Obj}(h:W.heap[l]?=some o)(hc:o.isCells=false)(hc':o'.isCells=false)(a:Addr):(W.putObj l o').frozen? a=W.frozen? a:=by
  unfold World.frozen?
  by_cases e:a.block=l
  . rw[e,World.putObj_heap_same (Array.getElem?_eq_some_iff.1 h).1,h]
    cases o <;> cases o' <;> simp_all [Obj.isCells]
  . rw[World.putObj_heap_other e]

def newIn(S S':Nat->Prop)(A:World):Bool->Prop
  |true=>∀ k,S' k->S k\/A.heap.size<=k
  |false=>True

theorem newIn_le{S S':Nat->Prop}{A B:World}{t:Bool}(h:A.heap.size<=B.heap.size)(hn:newIn S S' B t):newIn S S' A t:=by
  cases t with
  |false=>trivial
  |true=>exact λ k hk=>(hn k hk).imp id λ h'=>Nat.le_trans h h'

def IterG(P:Program){α:Type}(g:Nat)(lb:Array Value)(encs:α->Array Value)(xs:List α)(O R X:Nat->Prop)(t:Bool)(Rd:List α->(Nat->Prop)->World->Prop)(w:World):Prop:=
  ∀ (l:Nat) (J:List α->(Nat->Prop)->World->Prop) (Jx:List α->World->Prop) (S0:Nat->Prop) (W:World),Kp Ab w W->w.heap.size<=l->l<W.heap.size->
    (∀ pre S A,J pre S A->Rd pre S A/\∀ k,S k->(R k\/W.heap.size<=k)/\k<A.heap.size)->
    (∀ pre S A B,J pre S A->Kp O A B->J pre S B)->(∀ pre A B,Jx pre A->Kp O A B->Jx pre B)->
    (∀ pre S x rest A,xs=pre++x::rest->J pre S A->YieldAt Fence.wide 0 P l (encs x) A λ e B=>
      (e=.returned (.bool true)/\Kp (λ k=>S k\/k=l) A B/\∃ S',J (pre++[x]) S' B/\newIn S S' A t)\/(e=.returned (.bool false)/\Kp (λ k=>(X k\/S k)\/k=l) A B/\Jx (pre++[x]) B))->
    J [] S0 W->
    Calls P g (#[.func (.yield l) #[] #[]]++lb) W λ e B=>(∃ v,e=.returned v)/\((∃ S,J xs S B)\/∃ pre,pre <+: xs/\Jx pre B)

theorem yield_weak{F:Fence}{m:Nat}{l:Nat}{args:Array Value}{W:World}{Q Q':Ending->World->Prop}(h:YieldAt F m P l args W Q)(hq:∀ e B,Q e B->Q' e B):YieldAt F m P l args W Q':=by
  obtain⟨fn,tmps,assign,body,hy,hr⟩:=h
  exact⟨fn,tmps,assign,body,hy,hr.mono hq⟩

def EO{α:Type}(t:Bool)(S X:Nat->Prop)(I:List α->(Nat->Prop)->World->Prop)(Ix:Code->List α->World->Prop)(xs:List α)(W:World):Exit->Act->World->Prop
  |.normal,_,W'=>Kp S W W'/\∃ S',I xs S' W'/\newIn S S' W t
  |.ret,_,W'=>Kp (λ k=>X k\/S k) W W'/\Ix .ret xs W'
  |.exit id,_,W'=>Kp (λ k=>X k\/S k) W W'/\Ix (.exit id) xs W'
  |.goto t,_,W'=>Kp (λ k=>X k\/S k) W W'/\Ix (.goto t) xs W'
  |.panic _,_,_=>False
  |.outgrown,_,_=>False

theorem Fv{α:Type}{g:Operand}{ps:Array Tmp}{assign body:Code}{Q:Exit->Act->World->Prop}{a:Act}{w:World}
    {gf:Nat} {lb:Array Value} (hg:a.eval g=.func (.func gf) #[] lb) (eg:∀ args w,(callFunc gf args).run P w=.ok (.enter gf args) w)
    {encs:α->Array Value} {xs:List α} {O R X:Nat->Prop} {t:Bool} {Rd:List α->(Nat->Prop)->World->Prop} (hit:IterG P gf lb encs xs O R X t Rd w) (hO:∀ k,O k->k<w.heap.size) (hR:∀ k,R k->k<w.heap.size) (hX:∀ k,X k->k<w.heap.size) (hps:∀ x,(encs x).size=ps.size)
    (I:List α->(Nat->Prop)->World->Prop) (Ix:Code->List α->World->Prop) (S0:Nat->Prop)
    (hS:∀ pre S A,I pre S A->Rd pre S A/\∀ k,S k->(R k\/w.heap.size+2<=k)/\k<A.heap.size)
    (hI:∀ pre S A B,I pre S A->Kp (λ k=>O k\/k=w.heap.size\/k=w.heap.size+1) A B->I pre S B)
    (hIx:∀ c pre A B,Ix c pre A->Kp (λ k=>O k\/k=w.heap.size\/k=w.heap.size+1) A B->Ix c pre B)
    (h0:I [] S0 w)
    (hround:∀ (pre:List α) (S:Nat->Prop) (x:α) (rest:List α) (W:World),xs=pre++x::rest->I pre S W->w.heap.size+2<=W.heap.size->
      assign.wpIn (Fence.wide.inRound (w.heap.size+1)) n P (Exit.then (λ a₁ W₁=>Kp S W W₁/\
          ∀ W₂,(∀ p,W₂.cell? p=W₁.cell? p)->(∀ p,W₂.frozen? p=W₁.frozen? p)->Kp (λ k=>k=w.heap.size+1) W₁ W₂->W₂.heap.size=W₁.heap.size->(∃ r,W₂.heap[w.heap.size+1]?=some (.loop r))->
            body.wpIn (Fence.wide.inRound (w.heap.size+1)) n P (EO t S X I Ix (pre++[x]) W₂) a₁ W₂) (λ _ _ _=>False))
        {tmps:=(ps.zip (encs x)).foldl (λ t (p,v)=>t.setIfInBounds p v) a.tmps,defers:=[]} W)
    (hdone:∀ (S:Nat->Prop) (W:World),I xs S W->w.heap.size+2<=W.heap.size->W.heap[w.heap.size]?=some (.deferred (some []))->Q .normal {a with defers:={target:=.collected w.heap.size,args:=#[]}::a.defers} W)
    (hstop:∀ (c:Code) (pre:List α) (W:World),pre <+: xs->Ix c pre W->w.heap.size+2<=W.heap.size->W.heap[w.heap.size]?=some (.deferred (some []))->
      c.wpIn Fence.wide n P Q {a with defers:={target:=.collected w.heap.size,args:=#[]}::a.defers} W):
    (Code.rangeFunc g ps assign body).wpIn Fence.wide n P Q a w:=by
  refine wpIn_rangeFunc ?_
  intro fn hfn
  rw[show Fence.wide.round=none from rfl]
  obtain⟨rec,hrec⟩:∃ rec:LoopState->Option Code->Loop,rec=λ st pe=>{state:=st,pending:=pe,fn,tmps:=a.tmps,params:=ps,assign,body,defers:=w.heap.size}:=⟨_,rfl⟩
  obtain⟨W1,hW1⟩:∃ W1,(w.alloc (.deferred (some []))).alloc (.loop (rec .ready none))=W1:=⟨_,rfl⟩
  have hL1:W1.heap[w.heap.size+1]?=some (.loop (rec .ready none)):=by
    rw[<- hW1];have:=wN (w.alloc (.deferred (some []))) (.loop (rec .ready none));rwa [World.size_alloc] at this
  have hK1:W1.heap[w.heap.size]?=some (.deferred (some [])):=by
    rw[<- hW1];exact (Below.heap_alloc _ _ _ (by simp)).trans (wN w _)
  have hKe:Kp Ab w W1:=by rw[<- hW1];exact ((Kr _ w).alloc _).alloc _
  have hs1:W1.heap.size=w.heap.size+2:=by rw[<- hW1];simp
  have hI1:I [] S0 W1:=hI _ _ _ _ h0 (hKe.mono λ_ _ hf=>hf.elim)
  refine⟨w.heap.size+1,[{target:=.collected w.heap.size,args:=#[]}],W1,{target:=.fn (.func gf) lb,args:=#[.func (.yield (w.heap.size+1)) #[] #[]]},W1,gf,
    #[.func (.yield (w.heap.size+1)) #[] #[]]++lb,W1,?_,?_,?_,?_,λ hh=>(by simp[Fence.wide] at hh),?_⟩
  . rw[<- hW1,hrec];exact run_enterLoop_outer _ _ _ _ _
  . simp only[resolve,hg]
    simp[go_sem]
  . intro f' _;trivial
  . simp[invoke,go_sem,eg]
  . refine callsIn_wide.2 ((hit (w.heap.size+1)
      (λ pre S W=>I pre S W/\W.heap[w.heap.size+1]?=some (.loop (rec .ready none))/\W.heap[w.heap.size]?=some (.deferred (some [])))
      (λ pre W=>∃ c,Ix c pre W/\W.heap[w.heap.size+1]?=some (.loop (rec .done (some c)))/\W.heap[w.heap.size]?=some (.deferred (some [])))
      S0 W1 hKe (by omega) (by omega) ?_ ?_ ?_ ?_ ⟨hI1,hL1,hK1⟩).mono ?_)
    . rintro pre S A ⟨hi,hl,hk⟩
      refine⟨(hS pre S A hi).1,λ k hs=>?_⟩
      obtain⟨a1,a2⟩:=(hS pre S A hi).2 k hs
      exact⟨by rcases a1 with a1|a1;exact .inl a1;exact .inr (by omega),a2⟩
    . rintro pre S A B ⟨hi,hl,hk⟩ hg'
      exact⟨hI _ _ _ _ hi (hg'.mono λ_ _ h=>.inl h),hg'.at_ hl (λ h=>by have:=hO _ h;omega),hg'.at_ hk (λ h=>by have:=hO _ h;omega)⟩
    . rintro pre A B ⟨c,hi,hl,hk⟩ hg'
      exact⟨c,hIx _ _ _ _ hi (hg'.mono λ_ _ h=>.inl h),hg'.at_ hl (λ h=>by have:=hO _ h;omega),hg'.at_ hk (λ h=>by have:=hO _ h;omega)⟩
    . rintro pre S x rest W hx ⟨hi,hl,hk⟩
      have hSn:∀ k,S k->¬ k=w.heap.size/\¬ k=w.heap.size+1:=λ k hs=>by
        obtain⟨a1,a2⟩:=(hS pre S W hi).2 k hs
        rcases a1 with a1|a1
        . have:=hR k a1;omega
        . omega
      have hlt:w.heap.size+1<W.heap.size:=(Array.getElem?_eq_some_iff.1 hl).1
      have hy:=run_yield (P:=P) (args:=encs x) hl (by rw[hrec];exact hps x)
      rw[hrec] at hy
      refine⟨fn,_,assign,body,hy,roundIn_of_wpIn hfn ((λ (h:assign.wpIn (Fence.wide.inRound (w.heap.size+1)) 0 P _ _ W)=>h) ?_)⟩
      have hA:=hround pre S x rest W hx hi (by omega)
      have room:∀ k,Fence.wide.room k:=room_wide
      refine wpIn_mono (Q:=Exit.then (λ a₁ W₁=>Kp S W W₁/\∀ W₂,(∀ p,W₂.cell? p=W₁.cell? p)->(∀ p,W₂.frozen? p=W₁.frozen? p)->Kp (λ k=>k=w.heap.size+1) W₁ W₂->W₂.heap.size=W₁.heap.size->(∃ r,W₂.heap[w.heap.size+1]?=some (.loop r))->
            body.wpIn (Fence.wide.inRound (w.heap.size+1)) n P (EO t S X I Ix (pre++[x]) W₂) a₁ W₂) (λ _ _ _=>False)) (λ b k cs hro hb hr=>hA b k cs hro hb (room_wide _)) ?_
      rintro e a₁ Wa hp
      cases e with
      |normal=>
        obtain⟨hKa,hbody⟩:=hp
        have hla:=hKa.at_ hl (λ h=>by have:=hSn _ h;omega)
        have hka:=hKa.at_ hk (λ h=>by have:=hSn _ h;omega)
        refine⟨_,run_beginRound hla (by rw[hrec]),?_⟩
        obtain⟨W2,hW2⟩:∃ W2,Wa.putObj (w.heap.size+1) (.loop {rec .ready none with state:=.busy})=W2:=⟨_,rfl⟩
        rw[hW2]
        have hlta:w.heap.size+1<Wa.heap.size:=(Array.getElem?_eq_some_iff.1 hla).1
        have hl2:W2.heap[w.heap.size+1]?=some (.loop {rec .ready none with state:=.busy}):=by rw[<- hW2];exact World.putObj_heap_same hlta
        have hk2:W2.heap[w.heap.size]?=some (.deferred (some [])):=by rw[<- hW2];exact (World.putObj_heap_other (by omega)).trans hka
        have hKp:Kp (λ k=>k=w.heap.size+1) Wa W2:=by rw[<- hW2];exact (Kr (λ k=>k=w.heap.size+1) Wa).putObj (λ _=>rfl) _
        have hs2:W2.heap.size=Wa.heap.size:=by rw[<- hW2];simp
        have hb2:=hbody W2 (λ p=>by rw[<- hW2];exact cell_putObj hla rfl rfl p) (λ p=>by rw[<- hW2];exact frozen_putObj hla rfl rfl p) hKp hs2 ⟨_,hl2⟩
        have hb3:body.wpIn (Fence.wide.inRound (w.heap.size+1)) 0 P (EO t S X I Ix (pre++[x]) W2) a₁ W2:=λ b k cs hro hb hr=>hb2 b k cs hro hb (room_wide _)
        refine wpIn_mono hb3 ?_
        have fin:∀ (T:Nat->Prop) (hT:∀ k,T k->¬ k=w.heap.size/\¬ k=w.heap.size+1) (hRS:∀ k,S k->T k) (jump:Option Code) (W3:World),Kp T W2 W3->
            (Instr.endRound (w.heap.size+1) jump).run P W3=.ok (.bool jump.isNone) (W3.putObj (w.heap.size+1) (.loop (rec (if jump.isNone then .ready else .done) jump)))/\
            (W3.putObj (w.heap.size+1) (.loop (rec (if jump.isNone then .ready else .done) jump))).heap[w.heap.size+1]?=some (.loop (rec (if jump.isNone then .ready else .done) jump))/\
            (W3.putObj (w.heap.size+1) (.loop (rec (if jump.isNone then .ready else .done) jump))).heap[w.heap.size]?=some (.deferred (some []))/\
            Kp (λ k=>O k\/k=w.heap.size\/k=w.heap.size+1) W3 (W3.putObj (w.heap.size+1) (.loop (rec (if jump.isNone then .ready else .done) jump)))/\
            Kp (λ k=>T k\/k=w.heap.size+1) W (W3.putObj (w.heap.size+1) (.loop (rec (if jump.isNone then .ready else .done) jump))):=λ T hT hRS jump W3 hk3=>by
          have hl3:=hk3.at_ hl2 (λ h=>by have:=hT _ h;omega)
          have hd3:=hk3.at_ hk2 (λ h=>by have:=hT _ h;omega)
          have:=run_endRound (P:=P) jump hl3
          rw[hrec] at this ⊢
          refine⟨this,World.putObj_heap_same (Array.getElem?_eq_some_iff.1 hl3).1,(World.putObj_heap_other (by omega)).trans hd3,(Kr _ W3).putObj (λ _=>.inr (.inr rfl)) _,?_⟩
          refine Kp.putObj ?_ (λ _=>.inr rfl) _
          exact((hKa.mono λ_ _ h=>.inl (hRS _ h)).trans hKp (λ i _ h=>.inr h)).trans hk3 (λ i _ h=>.inl h)
        rintro e a3 W3 hp
        cases e with
        |normal=>
          obtain⟨hk3,S',hi3,hss⟩:=hp
          obtain⟨hr,hl4,hk4,hkO,hkR⟩:=fin S hSn (λ _ h=>h) none W3 hk3
          exact⟨_,_,hr,.inl ⟨rfl,hkR,S',⟨hI _ _ _ _ hi3 hkO,hl4,hk4⟩,newIn_le (by have:=hKa.size;omega) hss⟩⟩
        |ret=>
          obtain⟨hk3,hi3⟩:=hp
          obtain⟨hr,hl4,hk4,hkO,hkR⟩:=fin (λ k=>X k\/S k) (λ k h=>by rcases h with h|h;have:=hX k h;omega;exact hSn k h) (λ _ h=>.inr h) (some .ret) W3 hk3
          exact⟨_,_,hr,.inr ⟨rfl,hkR,.ret,hIx _ _ _ _ hi3 hkO,hl4,hk4⟩⟩
        |exit id=>
          obtain⟨hk3,hi3⟩:=hp
          obtain⟨hr,hl4,hk4,hkO,hkR⟩:=fin (λ k=>X k\/S k) (λ k h=>by rcases h with h|h;have:=hX k h;omega;exact hSn k h) (λ _ h=>.inr h) (some (.exit id)) W3 hk3
          exact⟨_,_,hr,.inr ⟨rfl,hkR,.exit id,hIx _ _ _ _ hi3 hkO,hl4,hk4⟩⟩
        |goto t=>
          obtain⟨hk3,hi3⟩:=hp
          obtain⟨hr,hl4,hk4,hkO,hkR⟩:=fin (λ k=>X k\/S k) (λ k h=>by rcases h with h|h;have:=hX k h;omega;exact hSn k h) (λ _ h=>.inr h) (some (.goto t)) W3 hk3
          exact⟨_,_,hr,.inr ⟨rfl,hkR,.goto t,hIx _ _ _ _ hi3 hkO,hl4,hk4⟩⟩
        |panic ch=>exact hp.elim
        |outgrown=>exact hp.elim
      |exit id=>exact hp.elim
      |goto t=>exact hp.elim
      |ret=>exact hp.elim
      |panic ch=>exact hp.elim
      |outgrown=>exact hp.elim
    . rintro e W2 ⟨⟨v,rfl⟩,(⟨S,hi,hl,hk⟩|⟨pre,hp,c,hi,hl,hk⟩)⟩
      . refine⟨none,_,by have:=run_endLoop (P:=P) hl (by rw[hrec];simp);rw [hrec] at this;exact this,hdone S _ (hI _ _ _ _ hi ((Kr _ W2).putObj (λ _=>.inr (.inr rfl)) _)) ?_ ((World.putObj_heap_other (by omega)).trans hk)⟩
        have:=(Array.getElem?_eq_some_iff.1 hl).1;simp;omega
      . refine⟨some c,_,by have:=run_endLoop (P:=P) hl (by rw[hrec];simp);rw [hrec] at this;exact this,hstop c pre _ hp (hIx _ _ _ _ hi ((Kr _ W2).putObj (λ _=>.inr (.inr rfl)) _)) ?_ ((World.putObj_heap_other (by omega)).trans hk)⟩
        have:=(Array.getElem?_eq_some_iff.1 hl).1;simp;omega

def IterAt4(P:Program){α:Type}(g:Nat)(lb:Array Value)(encs:α->Array Value)(xs:List α)(O R:Nat->Prop)(w:World):Prop:=
  ∀ (l:Nat) (J:List α->(Nat->Prop)->World->Prop) (Jx:List α->World->Prop) (S0:Nat->Prop) (W:World),Kp Ab w W->w.heap.size<=l->l<W.heap.size->
    (∀ pre S A,J pre S A->∀ k,S k->(R k\/W.heap.size<=k)/\k<A.heap.size)->
    (∀ pre S A B,J pre S A->Kp O A B->J pre S B)->(∀ pre A B,Jx pre A->Kp O A B->Jx pre B)->
    (∀ pre S x rest A,xs=pre++x::rest->J pre S A->YieldAt Fence.wide 0 P l (encs x) A λ e B=>
      (e=.returned (.bool true)/\Kp (λ k=>S k\/k=l) A B/\∃ S',J (pre++[x]) S' B/\∀ k,S' k->S k\/A.heap.size<=k)\/(e=.returned (.bool false)/\Jx (pre++[x]) B))->
    J [] S0 W->
    Calls P g (#[.func (.yield l) #[] #[]]++lb) W λ e B=>(∃ v,e=.returned v)/\((∃ S,J xs S B)\/∃ pre,pre <+: xs/\Jx pre B)

theorem IterAt4.g{α:Type}{g:Nat}{lb:Array Value}{encs:α->Array Value}{xs:List α}{O R X:Nat->Prop}{w:World}(h:IterAt4 P g lb encs xs O R w):IterG P g lb encs xs O R X true (λ _ _ _=>True) w:=
  λ l J Jx S0 W h1 h2 h3 hS hJ hJx hY h0=>h l J Jx S0 W h1 h2 h3 (λ pre S A hj=>(hS pre S A hj).2) hJ hJx (λ pre S x rest A hx hj=>yield_weak (hY pre S x rest A hx hj) λ e B=>Or.imp id λ k=>⟨k.1,k.2.2⟩) h0

abbrev roundEnd4{α:Type}(S X:Nat->Prop)(I:List α->(Nat->Prop)->World->Prop)(Ix:Code->List α->World->Prop)(xs:List α)(W:World):Exit->Act->World->Prop:=EO true S X I Ix xs W

theorem Fu{α:Type}{g:Operand}{ps:Array Tmp}{assign body:Code}{Q:Exit->Act->World->Prop}{a:Act}{w:World}
    {gf:Nat} {lb:Array Value} (hg:a.eval g=.func (.func gf) #[] lb) (eg:∀ args w,(callFunc gf args).run P w=.ok (.enter gf args) w)
    {encs:α->Array Value} {xs:List α} {O R X:Nat->Prop} (hit:IterAt4 P gf lb encs xs O R w) (hO:∀ k,O k->k<w.heap.size) (hR:∀ k,R k->k<w.heap.size) (hX:∀ k,X k->k<w.heap.size) (hps:∀ x,(encs x).size=ps.size)
    (I:List α->(Nat->Prop)->World->Prop) (Ix:Code->List α->World->Prop) (S0:Nat->Prop)
    (hS:∀ pre S A,I pre S A->∀ k,S k->(R k\/w.heap.size+2<=k)/\k<A.heap.size)
    (hI:∀ pre S A B,I pre S A->Kp (λ k=>O k\/k=w.heap.size\/k=w.heap.size+1) A B->I pre S B)
    (hIx:∀ c pre A B,Ix c pre A->Kp (λ k=>O k\/k=w.heap.size\/k=w.heap.size+1) A B->Ix c pre B)
    (h0:I [] S0 w)
    (hround:∀ (pre:List α) (S:Nat->Prop) (x:α) (rest:List α) (W:World),xs=pre++x::rest->I pre S W->w.heap.size+2<=W.heap.size->
      assign.wpIn (Fence.wide.inRound (w.heap.size+1)) n P (Exit.then (λ a₁ W₁=>Kp S W W₁/\
          ∀ W₂,(∀ p,W₂.cell? p=W₁.cell? p)->(∀ p,W₂.frozen? p=W₁.frozen? p)->Kp (λ k=>k=w.heap.size+1) W₁ W₂->W₂.heap.size=W₁.heap.size->(∃ r,W₂.heap[w.heap.size+1]?=some (.loop r))->
            body.wpIn (Fence.wide.inRound (w.heap.size+1)) n P (roundEnd4 S X I Ix (pre++[x]) W₂) a₁ W₂) (λ _ _ _=>False))
        {tmps:=(ps.zip (encs x)).foldl (λ t (p,v)=>t.setIfInBounds p v) a.tmps,defers:=[]} W)
    (hdone:∀ (S:Nat->Prop) (W:World),I xs S W->w.heap.size+2<=W.heap.size->W.heap[w.heap.size]?=some (.deferred (some []))->Q .normal {a with defers:={target:=.collected w.heap.size,args:=#[]}::a.defers} W)
    (hstop:∀ (c:Code) (pre:List α) (W:World),pre <+: xs->Ix c pre W->w.heap.size+2<=W.heap.size->W.heap[w.heap.size]?=some (.deferred (some []))->
      c.wpIn Fence.wide n P Q {a with defers:={target:=.collected w.heap.size,args:=#[]}::a.defers} W):
    (Code.rangeFunc g ps assign body).wpIn Fence.wide n P Q a w:=
  Fv hg eg (t:=true) (Rd:=λ _ _ _=>True) hit.g hO hR hX hps I Ix S0 (λ pre S A h=>⟨trivial,hS pre S A h⟩) hI hIx h0 hround hdone hstop

def IterAt2(P:Program){α:Type}(g:Nat)(lb:Array Value)(encs:α->Array Value)(xs:List α)(O R X:Nat->Prop)(w:World):Prop:=
  ∀ (l:Nat) (J Jx:List α->World->Prop) (W:World),Kp Ab w W->w.heap.size<=l->l<W.heap.size->
    (∀ pre A B,J pre A->Kp O A B->J pre B)->(∀ pre A B,Jx pre A->Kp O A B->Jx pre B)->
    (∀ pre x rest A,xs=pre++x::rest->J pre A->YieldAt Fence.wide 0 P l (encs x) A λ e B=>
      (e=.returned (.bool true)/\Kp (λ k=>R k\/k=l) A B/\J (pre++[x]) B)\/(e=.returned (.bool false)/\Kp (λ k=>X k\/k=l) A B/\Jx (pre++[x]) B))->
    J [] W->
    Calls P g (#[.func (.yield l) #[] #[]]++lb) W λ e B=>(∃ v,e=.returned v)/\(J xs B\/∃ pre,pre <+: xs/\Jx pre B)

theorem IterAt2.g{α:Type}{g:Nat}{lb:Array Value}{encs:α->Array Value}{xs:List α}{O R X:Nat->Prop}{w:World}(h:IterAt2 P g lb encs xs O R X w)(hRX:∀ k,R k->X k):IterG P g lb encs xs O R X false (λ _ S _=>S=R) w:=
  λ l J Jx S0 W h1 h2 h3 hS hJ hJx hY h0=>by
    have e0:=(hS _ _ _ h0).1
    subst e0
    refine(h l (λ pre A=>J pre S0 A) Jx W h1 h2 h3 (λ pre A B=>hJ pre S0 A B) hJx (λ pre x rest A hx hj=>yield_weak (hY pre S0 x rest A hx hj) ?_) h0).mono λ e B k=>⟨k.1,k.2.imp (λ q=>⟨_,q⟩) id⟩
    rintro e B (⟨k1,k2,S',k3,_⟩|⟨k1,k2,k3⟩)
    . have:=(hS _ _ _ k3).1
      subst this
      exact .inl ⟨k1,k2,k3⟩
    . exact .inr ⟨k1,k2.mono λ i _ hi=>hi.imp (λ q=>q.elim (λ q=>q) (hRX i)) id,k3⟩

def roundEnd2{α:Type}(R X:Nat->Prop)(I:List α->World->Prop)(Ix:Code->List α->World->Prop)(xs:List α)(W:World):Exit->Act->World->Prop
  |.normal,_,W'=>Kp R W W'/\I xs W'
  |.ret,_,W'=>Kp X W W'/\Ix .ret xs W'
  |.exit id,_,W'=>Kp X W W'/\Ix (.exit id) xs W'
  |.goto t,_,W'=>Kp X W W'/\Ix (.goto t) xs W'
  |.panic _,_,_=>False
  |.outgrown,_,_=>False

theorem roundEnd2.g{α:Type}{R X:Nat->Prop}{I:List α->World->Prop}{Ix:Code->List α->World->Prop}{xs:List α}{W:World}(n:Nat)(hn:n<=W.heap.size):∀ e a W',roundEnd2 R X I Ix xs W e a W'->EO false R X (λ pre S A=>S=R/\n<=A.heap.size/\I pre A) Ix xs W e a W'
  |.normal,_,_,h=>⟨h.1,R,⟨rfl,Nat.le_trans hn h.1.size,h.2⟩,trivial⟩
  |.ret,_,_,h=>⟨h.1.mono λ_ _=>.inl,h.2⟩
  |.exit _,_,_,h=>⟨h.1.mono λ_ _=>.inl,h.2⟩
  |.goto _,_,_,h=>⟨h.1.mono λ_ _=>.inl,h.2⟩
  |.panic _,_,_,h=>h
  |.outgrown,_,_,h=>h

theorem wpIn_range2{α:Type}{g:Operand}{ps:Array Tmp}{assign body:Code}{Q:Exit->Act->World->Prop}{a:Act}{w:World}
    {gf:Nat} {lb:Array Value} (hg:a.eval g=.func (.func gf) #[] lb) (eg:∀ args w,(callFunc gf args).run P w=.ok (.enter gf args) w)
    {encs:α->Array Value} {xs:List α} {O R X:Nat->Prop} (hit:IterAt2 P gf lb encs xs O R X w) (hO:∀ k,O k->k<w.heap.size) (hR:∀ k,R k->k<w.heap.size) (hX:∀ k,X k->k<w.heap.size) (hRX:∀ k,R k->X k) (hps:∀ x,(encs x).size=ps.size)
    (I:List α->World->Prop) (Ix:Code->List α->World->Prop)
    (hI:∀ pre A B,I pre A->Kp (λ k=>O k\/k=w.heap.size\/k=w.heap.size+1) A B->I pre B)
    (hIx:∀ c pre A B,Ix c pre A->Kp (λ k=>O k\/k=w.heap.size\/k=w.heap.size+1) A B->Ix c pre B)
    (h0:I [] w)
    (hround:∀ (pre:List α) (x:α) (rest:List α) (W:World),xs=pre++x::rest->I pre W->w.heap.size+2<=W.heap.size->
      assign.wpIn (Fence.wide.inRound (w.heap.size+1)) n P (Exit.then (λ a₁ W₁=>Kp R W W₁/\
          ∀ W₂,(∀ p,W₂.cell? p=W₁.cell? p)->(∀ p,W₂.frozen? p=W₁.frozen? p)->Kp (λ k=>k=w.heap.size+1) W₁ W₂->W₂.heap.size=W₁.heap.size->(∃ r,W₂.heap[w.heap.size+1]?=some (.loop r))->
            body.wpIn (Fence.wide.inRound (w.heap.size+1)) n P (roundEnd2 R X I Ix (pre++[x]) W₂) a₁ W₂) (λ _ _ _=>False))
        {tmps:=(ps.zip (encs x)).foldl (λ t (p,v)=>t.setIfInBounds p v) a.tmps,defers:=[]} W)
    (hdone:∀ (W:World),I xs W->w.heap.size+2<=W.heap.size->W.heap[w.heap.size]?=some (.deferred (some []))->Q .normal {a with defers:={target:=.collected w.heap.size,args:=#[]}::a.defers} W)
    (hstop:∀ (c:Code) (pre:List α) (W:World),pre <+: xs->Ix c pre W->w.heap.size+2<=W.heap.size->W.heap[w.heap.size]?=some (.deferred (some []))->
      c.wpIn Fence.wide n P Q {a with defers:={target:=.collected w.heap.size,args:=#[]}::a.defers} W):
    (Code.rangeFunc g ps assign body).wpIn Fence.wide n P Q a w:=
  Fv hg eg (t:=false) (Rd:=λ _ S _=>S=R) (hit.g hRX) hO hR hX hps (λ pre S A=>S=R/\w.heap.size<=A.heap.size/\I pre A) Ix R
    (λ pre S A h=>⟨h.1,λ k hk=>by have:=hR k (h.1▸hk);have:=h.2.1;exact ⟨.inl (h.1▸hk),by omega⟩⟩)
    (λ pre S A B h hk=>⟨h.1,Nat.le_trans h.2.1 hk.size,hI _ _ _ h.2.2 hk⟩) hIx ⟨rfl,Nat.le_refl _,h0⟩
    (λ pre S x rest W hx hi hs=>by
      obtain⟨rfl,hw,hi⟩:=hi
      exact wpIn_mono (hround pre x rest W hx hi hs) (by
        rintro (_|_|_|_|_|_) a₁ W₁ h <;> first
          |exact h
          |exact ⟨h.1,λ W₂ c1 c2 c3 c4 c5=>wpIn_mono (h.2 W₂ c1 c2 c3 c4 c5) (roundEnd2.g _ (by have:=h.1.size;omega))⟩))
    (λ S W h=>hdone W h.2.2) hstop

def IterAt(P:Program){α:Type}(g:Nat)(lb:Array Value)(encs:α->Array Value)(xs:List α)(O R:Nat->Prop)(w:World):Prop:=
  ∀ (l:Nat) (J Jx:List α->World->Prop) (W:World),Kp Ab w W->w.heap.size<=l->l<W.heap.size->
    (∀ pre A B,J pre A->Kp O A B->J pre B)->(∀ pre A B,Jx pre A->Kp O A B->Jx pre B)->
    (∀ pre x rest A,xs=pre++x::rest->J pre A->YieldAt Fence.wide 0 P l (encs x) A λ e B=>
      Kp (λ k=>R k\/k=l) A B/\((e=.returned (.bool true)/\J (pre++[x]) B)\/(e=.returned (.bool false)/\Jx (pre++[x]) B)))->
    J [] W->
    Calls P g (#[.func (.yield l) #[] #[]]++lb) W λ e B=>(∃ v,e=.returned v)/\(J xs B\/∃ pre,pre <+: xs/\Jx pre B)

theorem IterAt.two{α:Type}{g:Nat}{lb:Array Value}{encs:α->Array Value}{xs:List α}{O R:Nat->Prop}{w:World}(h:IterAt P g lb encs xs O R w):IterAt2 P g lb encs xs O R R w:=
  λ l J Jx W h1 h2 h3 hJ hJx hY h0=>h l J Jx W h1 h2 h3 hJ hJx (λ pre x rest A hx hj=>yield_weak (hY pre x rest A hx hj) λ e B k=>k.elim (λ q=>⟨q.2.1,.inl ⟨q.1,q.2.2⟩⟩) λ q=>⟨q.2.1,.inr ⟨q.1,q.2.2⟩⟩) h0

def roundEnd{α:Type}(R:Nat->Prop)(I:List α->World->Prop)(Ix:Code->List α->World->Prop)(xs:List α)(W:World):Exit->Act->World->Prop
  |.normal,_,W'=>Kp R W W'/\I xs W'
  |.ret,_,W'=>Kp R W W'/\Ix .ret xs W'
  |.exit id,_,W'=>Kp R W W'/\Ix (.exit id) xs W'
  |.goto t,_,W'=>Kp R W W'/\Ix (.goto t) xs W'
  |.panic _,_,_=>False
  |.outgrown,_,_=>False

theorem wpIn_range{α:Type}{g:Operand}{ps:Array Tmp}{assign body:Code}{Q:Exit->Act->World->Prop}{a:Act}{w:World}
    {gf:Nat} {lb:Array Value} (hg:a.eval g=.func (.func gf) #[] lb) (eg:∀ args w,(callFunc gf args).run P w=.ok (.enter gf args) w)
    {encs:α->Array Value} {xs:List α} {O R:Nat->Prop} (hit:IterAt P gf lb encs xs O R w) (hO:∀ k,O k->k<w.heap.size) (hR:∀ k,R k->k<w.heap.size) (hps:∀ x,(encs x).size=ps.size)
    (I:List α->World->Prop) (Ix:Code->List α->World->Prop)
    (hI:∀ pre A B,I pre A->Kp (λ k=>O k\/k=w.heap.size\/k=w.heap.size+1) A B->I pre B)
    (hIx:∀ c pre A B,Ix c pre A->Kp (λ k=>O k\/k=w.heap.size\/k=w.heap.size+1) A B->Ix c pre B)
    (h0:I [] w)
    (hround:∀ (pre:List α) (x:α) (rest:List α) (W:World),xs=pre++x::rest->I pre W->w.heap.size+2<=W.heap.size->
      assign.wpIn (Fence.wide.inRound (w.heap.size+1)) n P (Exit.then (λ a₁ W₁=>Kp R W W₁/\
          ∀ W₂,(∀ p,W₂.cell? p=W₁.cell? p)->(∀ p,W₂.frozen? p=W₁.frozen? p)->Kp (λ k=>k=w.heap.size+1) W₁ W₂->W₂.heap.size=W₁.heap.size->(∃ r,W₂.heap[w.heap.size+1]?=some (.loop r))->
            body.wpIn (Fence.wide.inRound (w.heap.size+1)) n P (roundEnd R I Ix (pre++[x]) W₂) a₁ W₂) (λ _ _ _=>False))
        {tmps:=(ps.zip (encs x)).foldl (λ t (p,v)=>t.setIfInBounds p v) a.tmps,defers:=[]} W)
    (hdone:∀ (W:World),I xs W->w.heap.size+2<=W.heap.size->W.heap[w.heap.size]?=some (.deferred (some []))->Q .normal {a with defers:={target:=.collected w.heap.size,args:=#[]}::a.defers} W)
    (hstop:∀ (c:Code) (pre:List α) (W:World),pre <+: xs->Ix c pre W->w.heap.size+2<=W.heap.size->W.heap[w.heap.size]?=some (.deferred (some []))->
      c.wpIn Fence.wide n P Q {a with defers:={target:=.collected w.heap.size,args:=#[]}::a.defers} W):
    (Code.rangeFunc g ps assign body).wpIn Fence.wide n P Q a w:=
  wpIn_range2 (X:=R) hg eg hit.two hO hR hR (λ _ h=>h) hps I Ix hI hIx h0
    (λ pre x rest W hx hi hs=>wpIn_mono (hround pre x rest W hx hi hs) (by
      rintro (_|_|_|_|_|_) a₁ W₁ h <;> first
        |exact h
        |exact ⟨h.1,λ W₂ c1 c2 c3 c4 c5=>wpIn_mono (h.2 W₂ c1 c2 c3 c4 c5) (by rintro (_|_|_|_|_|_) _ _ h <;> exact h)⟩)) hdone hstop

def IterAt3(P:Program){α:Type}(g:Nat)(lb:Array Value)(encs:α->Array Value)(xs:List α)(O R:Nat->Prop)(w:World):Prop:=
  ∀ (l:Nat) (J:List α->(Nat->Prop)->World->Prop) (Jx:List α->World->Prop) (S0:Nat->Prop) (W:World),Kp Ab w W->w.heap.size<=l->l<W.heap.size->
    (∀ pre S A,J pre S A->∀ k,S k->(R k\/W.heap.size<=k)/\k<A.heap.size)->
    (∀ pre S A B,J pre S A->Kp O A B->J pre S B)->(∀ pre A B,Jx pre A->Kp O A B->Jx pre B)->
    (∀ pre S x rest A,xs=pre++x::rest->J pre S A->YieldAt Fence.wide 0 P l (encs x) A λ e B=>
      (e=.returned (.bool true)/\Kp (λ k=>S k\/k=l) A B/\∃ S',J (pre++[x]) S' B)\/(e=.returned (.bool false)/\Jx (pre++[x]) B))->
    J [] S0 W->
    Calls P g (#[.func (.yield l) #[] #[]]++lb) W λ e B=>(∃ v,e=.returned v)/\((∃ S,J xs S B)\/∃ pre,pre <+: xs/\Jx pre B)

theorem IterAt3.two{α:Type}{g:Nat}{lb:Array Value}{encs:α->Array Value}{xs:List α}{O R X:Nat->Prop}{w:World}(h:IterAt3 P g lb encs xs O R w)(hR:∀ k,R k->k<w.heap.size):IterAt2 P g lb encs xs O R X w:=by
  intro l J Jx W hW hl1 hl2 hJ hJx hY h0
  have hsz:=hW.size
  refine(h l (λ pre S A=>S=R/\w.heap.size<=A.heap.size/\J pre A) Jx R W hW hl1 hl2 ?_ ?_ hJx ?_ ⟨rfl,hsz,h0⟩).mono ?_
  . rintro pre S A ⟨rfl,h1,h2⟩ k hk
    have:=hR k hk
    exact⟨.inl hk,by omega⟩
  . rintro pre S A B ⟨rfl,h1,h2⟩ hk
    exact⟨rfl,Nat.le_trans h1 hk.size,hJ _ _ _ h2 hk⟩
  . rintro pre S x rest A hx ⟨rfl,h1,h2⟩
    obtain⟨fn,tmps,assign,body,hy,hr⟩:=hY pre x rest A hx h2
    refine⟨fn,tmps,assign,body,hy,hr.mono ?_⟩
    rintro e B (⟨rfl,k1,k2⟩|⟨rfl,k1,k2⟩)
    . exact .inl ⟨rfl,k1,_,rfl,Nat.le_trans h1 k1.size,k2⟩
    . exact .inr ⟨rfl,k2⟩
  . rintro e B ⟨hv,⟨S,hS⟩|hp⟩
    . exact⟨hv,.inl hS.2.2⟩
    . exact⟨hv,.inr hp⟩

theorem IterAt3.g{α:Type}{g:Nat}{lb:Array Value}{encs:α->Array Value}{xs:List α}{O R X:Nat->Prop}{w:World}(h:IterAt3 P g lb encs xs O R w):IterG P g lb encs xs O R X false (λ _ _ _=>True) w:=
  λ l J Jx S0 W h1 h2 h3 hS hJ hJx hY h0=>h l J Jx S0 W h1 h2 h3 (λ pre S A hj=>(hS pre S A hj).2) hJ hJx (λ pre S x rest A hx hj=>yield_weak (hY pre S x rest A hx hj) λ e B=>Or.imp (λ k=>⟨k.1,k.2.1,k.2.2.imp λ_ q=>q.1⟩) λ k=>⟨k.1,k.2.2⟩) h0

def roundEnd3{α:Type}(S X:Nat->Prop)(I:List α->(Nat->Prop)->World->Prop)(Ix:Code->List α->World->Prop)(xs:List α)(W:World):Exit->Act->World->Prop
  |.normal,_,W'=>Kp S W W'/\∃ S',I xs S' W'
  |.ret,_,W'=>Kp (λ k=>X k\/S k) W W'/\Ix .ret xs W'
  |.exit id,_,W'=>Kp (λ k=>X k\/S k) W W'/\Ix (.exit id) xs W'
  |.goto t,_,W'=>Kp (λ k=>X k\/S k) W W'/\Ix (.goto t) xs W'
  |.panic _,_,_=>False
  |.outgrown,_,_=>False

theorem roundEnd3.g{α:Type}{S X:Nat->Prop}{I:List α->(Nat->Prop)->World->Prop}{Ix:Code->List α->World->Prop}{xs:List α}{W:World}:∀ e a W',roundEnd3 S X I Ix xs W e a W'->EO false S X I Ix xs W e a W'
  |.normal,_,_,h=>⟨h.1,h.2.imp λ_ q=>⟨q,trivial⟩⟩
  |.ret,_,_,h=>h
  |.exit _,_,_,h=>h
  |.goto _,_,_,h=>h
  |.panic _,_,_,h=>h
  |.outgrown,_,_,h=>h

theorem wpIn_range3{α:Type}{g:Operand}{ps:Array Tmp}{assign body:Code}{Q:Exit->Act->World->Prop}{a:Act}{w:World}
    {gf:Nat} {lb:Array Value} (hg:a.eval g=.func (.func gf) #[] lb) (eg:∀ args w,(callFunc gf args).run P w=.ok (.enter gf args) w)
    {encs:α->Array Value} {xs:List α} {O R X:Nat->Prop} (hit:IterAt3 P gf lb encs xs O R w) (hO:∀ k,O k->k<w.heap.size) (hR:∀ k,R k->k<w.heap.size) (hX:∀ k,X k->k<w.heap.size) (hps:∀ x,(encs x).size=ps.size)
    (I:List α->(Nat->Prop)->World->Prop) (Ix:Code->List α->World->Prop) (S0:Nat->Prop)
    (hS:∀ pre S A,I pre S A->∀ k,S k->(R k\/w.heap.size+2<=k)/\k<A.heap.size)
    (hI:∀ pre S A B,I pre S A->Kp (λ k=>O k\/k=w.heap.size\/k=w.heap.size+1) A B->I pre S B)
    (hIx:∀ c pre A B,Ix c pre A->Kp (λ k=>O k\/k=w.heap.size\/k=w.heap.size+1) A B->Ix c pre B)
    (h0:I [] S0 w)
    (hround:∀ (pre:List α) (S:Nat->Prop) (x:α) (rest:List α) (W:World),xs=pre++x::rest->I pre S W->w.heap.size+2<=W.heap.size->
      assign.wpIn (Fence.wide.inRound (w.heap.size+1)) n P (Exit.then (λ a₁ W₁=>Kp S W W₁/\
          ∀ W₂,(∀ p,W₂.cell? p=W₁.cell? p)->(∀ p,W₂.frozen? p=W₁.frozen? p)->Kp (λ k=>k=w.heap.size+1) W₁ W₂->W₂.heap.size=W₁.heap.size->(∃ r,W₂.heap[w.heap.size+1]?=some (.loop r))->
            body.wpIn (Fence.wide.inRound (w.heap.size+1)) n P (roundEnd3 S X I Ix (pre++[x]) W₂) a₁ W₂) (λ _ _ _=>False))
        {tmps:=(ps.zip (encs x)).foldl (λ t (p,v)=>t.setIfInBounds p v) a.tmps,defers:=[]} W)
    (hdone:∀ (S:Nat->Prop) (W:World),I xs S W->w.heap.size+2<=W.heap.size->W.heap[w.heap.size]?=some (.deferred (some []))->Q .normal {a with defers:={target:=.collected w.heap.size,args:=#[]}::a.defers} W)
    (hstop:∀ (c:Code) (pre:List α) (W:World),pre <+: xs->Ix c pre W->w.heap.size+2<=W.heap.size->W.heap[w.heap.size]?=some (.deferred (some []))->
      c.wpIn Fence.wide n P Q {a with defers:={target:=.collected w.heap.size,args:=#[]}::a.defers} W):
    (Code.rangeFunc g ps assign body).wpIn Fence.wide n P Q a w:=
  Fv hg eg (t:=false) (Rd:=λ _ _ _=>True) hit.g hO hR hX hps I Ix S0 (λ pre S A h=>⟨trivial,hS pre S A h⟩) hI hIx h0
    (λ pre S x rest W hx hi hs=>wpIn_mono (hround pre S x rest W hx hi hs) (by
      rintro (_|_|_|_|_|_) a₁ W₁ h <;> first
        |exact h
        |exact ⟨h.1,λ W₂ c1 c2 c3 c4 c5=>wpIn_mono (h.2 W₂ c1 c2 c3 c4 c5) roundEnd3.g⟩)) hdone hstop

theorem EG{o:Oper}{a:Act}{K:Act->World->Prop}{Q:Exit->Act->World->Prop}{l:Nat}{args args':Array Value}{W:World}{C T E:World->Prop}
    (h:YieldAt Fence.wide 0 P l args W λ e B=>C B/\((e=.returned (.bool true)/\T B)\/(e=.returned (.bool false)/\E B))) (e:args'=args)
    (ht:∀ B,C B->T B->K (a.put o.dst (.bool true)) B) (hf:∀ B,C B->E B->K (a.put o.dst (.bool false)) B):o.uponIn Fence.wide n P a K Q ((Instr.yield l args').run P W):=by
  obtain⟨fn,tmps,assign,body,hy,hR⟩:=h
  rw[e,hy,Oper.uponIn_round]
  refine⟨λ hh=>(by simp[Fence.wide] at hh),hR.1,λ c cs _=>?_⟩
  obtain⟨e,w',⟨hC,hr⟩,hs⟩:=hR.2 c cs (room_wide _)
  refine⟨e,w',?_,hs⟩
  rcases hr with ⟨rfl,hT⟩|⟨rfl,hE⟩
  . exact ht _ hC hT
  . exact hf _ hC hE

variable {P:Program} {n:Nat}

theorem uponIn_yield2{o:Oper}{a:Act}{K:Act->World->Prop}{Q:Exit->Act->World->Prop}{l:Nat}{args args':Array Value}{W:World}{T E:World->Prop}
    (h:YieldAt Fence.wide 0 P l args W λ e B=>(e=.returned (.bool true)/\T B)\/(e=.returned (.bool false)/\E B)) (e:args'=args)
    (ht:∀ B,T B->K (a.put o.dst (.bool true)) B) (hf:∀ B,E B->K (a.put o.dst (.bool false)) B):o.uponIn Fence.wide n P a K Q ((Instr.yield l args').run P W):=by
  obtain⟨fn,tmps,assign,body,hy,hR⟩:=h
  rw[e,hy,Oper.uponIn_round]
  refine⟨λ hh=>(by simp[Fence.wide] at hh),hR.1,λ c cs _=>?_⟩
  obtain⟨e,w',hr,hs⟩:=hR.2 c cs (room_wide _)
  refine⟨e,w',?_,hs⟩
  rcases hr with ⟨rfl,hT⟩|⟨rfl,hE⟩
  . exact ht _ hT
  . exact hf _ hE

variable {P:Program} {n:Nat}

open Go.RowKit Go.WideShapes Go.ChangeShapes

theorem Kp.post{H:Type}{enc:TypeId×Value->H}{P:Program}{f:Func}{s:ChangeSpec}{apart fresh handsOn again:Bool}{W W':World}{args:Array Value}{v:Value}{ds gs:List (DataW H)}{pa pv:List MemPlace}
    (k:Kp Ab W W') (hW:DataW.Whole enc P f.params.toList s.vars apart W args.toList ds gs (pa++pv))
    (hr:∀ (b:Nat) (sp:Nat->Bool) (hd:Bool),DataW.TrodAll enc P W' b sp hd f.resultTypes.toList (v.resultList f.resultTypes.size) (s.fn H (ds++gs)).results [])
    (ha:∀ sp:Nat->Bool,(∀ p∈pa++pv,sp p.block=true)->DataW.TrodAll enc P W' 0 sp true f.params.toList args.toList (s.fn H (ds++gs)).args pa)
    (hv:∀ sp:Nat->Bool,(∀ p∈pa++pv,sp p.block=true)->DataW.TrodVars enc P W' sp s.vars (s.fn H (ds++gs)).vars pv)
    (ho:∀ (j:Nat) (t:TypeId) (r:Value),f.resultTypes[j]?=some t->(v.resultList f.resultTypes.size)[j]?=some r->Value.okWide P W' .any 0 t r):
    s.post enc P f apart fresh handsOn again W args v W':=by
  have old:∀ p∈pa++pv,p.block<W.heap.size:=λ p hp=>hW.lt p hp
  have below:=k.below_not
  have whole:=trodAll_append (ha (λ _=>true) (λ _ _=>rfl)) (hr 0 (λ _=>true) true)
  refine⟨ds,gs,pa++pv,[],pa,pv,hW,hr _ _ _,ha _ (λ p hp=>dT (old p hp)),hv _ (λ p hp=>dT (old p hp)),
    World.keptBut_mono (λ p hp=>⟨hp,.inr (List.mem_append.1 hp)⟩) (below.frame (· ∈pa++pv)),λ _=>⟨ho,(s.fn H (ds++gs)).results++(s.fn H (ds++gs)).args,(s.fn H (ds++gs)).vars,pa++pv,?_,λ p hp _=>hp⟩⟩
  obtain⟨_,_,_,_,_,hz,hn⟩:=hW
  exact⟨pa,pv,whole,hv _ (λ _ _=>rfl),rfl,λ b off hp=>(below.frozen (old _ hp)).trans (hz b off hp),λ e=>hn e⟩

open Go.RowKit Go.WideShapes Go.ChangeShapes Go.Deep

def Bw(k:Nat)(w:World)(v:Value)(len:Nat)(x:Nat->Nat->Int):Prop:=
  ∃ a cap,v=.slice a len cap/\∀ i,i<len->∃ b o,a=some ⟨b,o,none⟩/\b<w.heap.size/\
    ∀ j,j<k->w.cell? ⟨b,o+(i*k+j),none⟩=some (.int .i64 (x i j))/\-9223372036854775808<=x i j/\x i j<=9223372036854775807

theorem Bw.keep{k:Nat}{w w':World}{v:Value}{len:Nat}{x:Nat->Nat->Int}(h:Bw k w v len x){S:Nat->Prop}(kp:Kp S w w')(hs:∀ b,b<w.heap.size->¬ S b):Bw k w' v len x:=by
  obtain⟨a,cap,rfl,h⟩:=h
  refine⟨a,cap,rfl,λ i hi=>?_⟩
  obtain⟨b,o,rfl,h1,h2⟩:=h i hi
  exact⟨b,o,rfl,Nat.lt_of_lt_of_le h1 kp.size,λ j hj=>⟨kp.cell (h2 j hj).1 (hs b h1),(h2 j hj).2⟩⟩

theorem ET{w:World}{a:Addr}{v:Value}(h:w.cell? a=some v):a=⟨a.block,a.off,none⟩/\a.block<w.heap.size:=by
  unfold World.cell? at h
  cases hh:w.heap[a.block]? with
  |none=>rw [hh] at h;cases h
  |some o=>
    have hb:a.block<w.heap.size:=(Array.getElem?_eq_some_iff.1 hh).1
    rw[hh] at h
    cases o with
    |cells c e f=>
      by_cases hs:a.spot.isSome
      . simp[hs] at h
      . refine⟨?_,hb⟩
        cases a with
        |mk b o s=>cases s with
          |none=>rfl
          |some _=>simp at hs
    |_=>cases h

section
variable {H:Type} {enc:TypeId×Value->H} {P:Program}

theorem Kp.trodAll{W W':World}(k:Kp Ab W W')(hl:laidOutB P=true){sp:Nat->Bool}:∀ {ts:List TypeId} {vs:List Value} {ds:List (DataW H)} {ps:List MemPlace},(∀ t∈ts,P.readableRec t=true/\t<P.types.size)->
    DataW.TrodAll enc P W 0 (λ _=>true) true ts vs ds ps->(∀ x∈ps,x.block<W.heap.size)->(∀ x∈ps,sp x.block=true)->DataW.TrodAll enc P W' 0 sp true ts vs ds ps
  |[],[],[],_,_,h,_,_=>h
  |t::ts,v::vs,d::ds,ps,ht,h,hb,hs=>by
    obtain⟨p,q,h1,h2,e⟩:=h
    subst e
    have ht0:=ht t (by simp)
    exact⟨p,q,WideElems.Trod_stays hl ht0.1 ht0.2 h1 (λ x hx=>k.below_not.same (hb x (by simp[hx]))) (λ x hx=>hs x (by simp[hx])),
      Kp.trodAll k hl (λ u hu=>ht u (by simp[hu])) h2 (λ x hx=>hb x (by simp[hx])) (λ x hx=>hs x (by simp[hx])),rfl⟩

def typesB(P:Program)(ts:List TypeId):Bool:=ts.all λ t=>P.readableRec t&&decide (t<P.types.size)

theorem Kp.trodArgs{W W':World}(k:Kp Ab W W')(hl:laidOutB P=true){sp:Nat->Bool}{ts:List TypeId}{vs:List Value}{ds:List (DataW H)}{ps:List MemPlace}(ht:typesB P ts=true)
    (h:DataW.TrodAll enc P W 0 (λ _=>true) true ts vs ds ps) (hb:∀ x∈ps,x.block<W.heap.size) (hs:∀ x∈ps,sp x.block=true):DataW.TrodAll enc P W' 0 sp true ts vs ds ps:=
  k.trodAll hl (λ t hm=>by have:=List.all_eq_true.1 ht t hm;simpa using this) h hb hs

end

variable {P:Program} {n:Nat}

end

namespace Wd

theorem Fs:(2:Nat) ^ 64=18446744073709551616:=by decide

def FL:Nat->Nat->Nat
 |0,_=>0
 |k+1,v=>v%2+FL k (v/2)

theorem onesF_zero(k:Nat):FL k 0=0:=by
 induction k with
 |zero=>rfl
 |succ k ih=>simp [FL,ih]

theorem onesF_le(k v:Nat):FL k v<=k:=by
 induction k generalizing v with
 |zero=>simp [FL]
 |succ k ih=>have:=ih (v/2);simp only[FL];omega

theorem and_pred_even(m:Nat)(h:0<m):(2*m) &&& (2*m-1)=2*(m &&& (m-1)):=by
 apply Nat.eq_of_testBit_eq
 intro i
 cases i with
 |zero=>simp
 |succ i=>
  have e1:(2*m)/2=m:=by omega
  have e2:(2*m-1)/2=m-1:=by omega
  have e3:(2*(m &&& (m-1)))/2=m &&& (m-1):=by omega
  rw[Nat.testBit_and,Nat.testBit_succ,Nat.testBit_succ,Nat.testBit_succ,e1,e2,e3,Nat.testBit_and]

theorem and_pred_odd(m:Nat):(2*m+1) &&& (2*m)=2*m:=by
 apply Nat.eq_of_testBit_eq
 intro i
 cases i with
 |zero=>simp
 |succ i=>
  have e1:(2*m+1)/2=m:=by omega
  have e2:(2*m)/2=m:=by omega
  rw[Nat.testBit_and,Nat.testBit_succ,Nat.testBit_succ,e1,e2,Bool.and_self]

theorem onesF_and_pred{k v:Nat}(h:v<2 ^ k)(h0:v≠0):FL k (v &&& (v-1))+1=FL k v:=by
 induction k generalizing v with
 |zero=>simp at h;omega
 |succ k ih=>
  rw[Nat.pow_succ] at h
  rcases Nat.mod_two_eq_zero_or_one v with h1|h1
  .obtain ⟨m,rfl⟩:∃ m,v=2*m:=⟨v/2,by omega⟩
   have hm:0<m:=by omega
   rw[and_pred_even m hm,FL,FL]
   have e1:(2*(m &&& (m-1)))/2=m &&& (m-1):=by omega
   have e2:(2*m)/2=m:=by omega
   have:=ih (v:=m) (by omega) (by omega)
   rw[e1,e2];omega
  .obtain ⟨m,rfl⟩:∃ m,v=2*m+1:=⟨v/2,by omega⟩
   have e0:2*m+1-1=2*m:=by omega
   rw[e0,and_pred_odd,FL,FL]
   have e1:(2*m)/2=m:=by omega
   have e2:(2*m+1)/2=m:=by omega
   rw[e1,e2];omega

@[irreducible] def ones (v:Nat):Nat:=FL 64 v
theorem ones_zero:ones 0=0:=by unfold ones;exact onesF_zero 64
theorem ones_le(v:Nat):ones v<=64:=by unfold ones;exact onesF_le 64 v
theorem ones_and_pred{v:Nat}(h:v<18446744073709551616)(h0:v≠0):ones (v &&& (v-1))+1=ones v:=by
 unfold ones;exact onesF_and_pred (by rw[Fs];exact h) h0

def lowF(v:Nat):Nat->Nat->Nat
 |0,i=>i
 |f+1,i=>if v/2 ^ i%2=1 then i else lowF v f (i+1)

def low(v:Nat):Nat:=lowF v 64 0

theorem lowF_go{v:Nat}:∀ (f i j:Nat),i<=j->j<=i+f->(∀ k,i<=k->k<j->v/2 ^ k%2≠1)->(j<i+f->v/2 ^ j%2=1)->lowF v f i=j
 |0,i,j,h1,h2,_,_=>by simp only[lowF];omega
 |f+1,i,j,h1,h2,h3,h4=>by
  simp only[lowF]
  by_cases e:i=j
  .subst e;rw [if_pos (h4 (by omega))]
  .rw [if_neg (h3 i (Nat.le_refl _) (by omega))]
   exact lowF_go f (i+1) j (by omega) (by omega) (λ k hk=>h3 k (by omega)) (λ h=>h4 (by omega))

theorem low_eq{v j:Nat}(h2:j<=64)(h3:∀ k,k<j->v/2 ^ k%2≠1)(h4:j<64->v/2 ^ j%2=1):low v=j:=
 lowF_go 64 0 j (Nat.zero_le _) (by omega) (λ k _=>h3 k) (λ h=>h4 (by omega))

theorem lowF_spec{v:Nat}:∀ (f i:Nat),i<=lowF v f i/\lowF v f i<=i+f/\(∀ k,i<=k->k<lowF v f i->v/2 ^ k%2≠1)/\(lowF v f i<i+f->v/2 ^ lowF v f i%2=1)
 |0,i=>⟨by simp[lowF],by simp[lowF],λ k h1 h2=>by simp only[lowF] at h2;omega,λ h=>by simp only[lowF] at h;omega⟩
 |f+1,i=>by
  simp only[lowF]
  by_cases e:v/2 ^ i%2=1
  .rw [if_pos e];exact ⟨Nat.le_refl _,by omega,λ k h1 h2=>by omega,λ _=>e⟩
  .rw [if_neg e]
   obtain⟨a,b,c,d⟩:=lowF_spec f (i+1) (v:=v)
   refine⟨by omega,by omega,λ k h1 h2=>?_,λ h=>d (by omega)⟩
   by_cases ek:k=i
   .subst ek;exact e
   .exact c k (by omega) h2

theorem low_le(v:Nat):low v<=64:=by have:=(lowF_spec (v:=v) 64 0).2.1;simpa [low] using this
theorem low_below{v k:Nat}(h:k<low v):v/2 ^ k%2≠1:=(lowF_spec (v:=v) 64 0).2.2.1 k (Nat.zero_le _) h
theorem low_is{v:Nat}(h:low v<64):v/2 ^ low v%2=1:=(lowF_spec (v:=v) 64 0).2.2.2 (by simpa [low] using h)

theorem mask_lt{at_ n:Nat}(hn:at_+n<=64):(2 ^ n-1)*2 ^ at_<2 ^ 64:=by
 have h1:(2 ^ n-1)*2 ^ at_<2 ^ n*2 ^ at_:=Nat.mul_lt_mul_of_pos_right (by have:=Nat.two_pow_pos n;omega) (Nat.two_pow_pos _)
 have h2:2 ^ n*2 ^ at_<=2 ^ 64:=by rw[<- Nat.pow_add];exact Nat.pow_le_pow_right (by decide) (by omega)
 exact Nat.lt_of_lt_of_le h1 h2

theorem tb_not{m:Nat}(hm:m<2 ^ 64)(i:Nat):(18446744073709551615-m).testBit i=(decide (i<64)&& !m.testBit i):=by
 have e:18446744073709551615-m=2 ^ 64-(m+1):=by rw[Fs,Nat.add_comm,Nat.sub_add_eq]
 rw[e];exact Nat.testBit_two_pow_sub_succ hm i

theorem Fq(v i:Nat):v.testBit i=decide (v/2 ^ i%2=1):=by
 rw[Nat.testBit_eq_decide_div_mod_eq]

theorem and_one(v:Nat):v &&& 1=v%2:=Nat.and_one_is_mod v

end Wd

section
open Go.RowKit

theorem ret2{k j:IntKind}{a b c d:Int}(h:a=b)(h':c=d):Ending.returned (.tuple #[.int k a,.int j c])=.returned (.tuple #[.int k b,.int j d]):=by rw[h,h']
theorem ret1{k:IntKind}{a b:Int}(h:a=b):Ending.returned (.int k a)=.returned (.int k b):=by rw[h]

namespace Wd
def addS(a b:Int):Int:=if a+b<18446744073709551616 then a+b else 0
def addE(a b:Int):Int:=if a+b<18446744073709551616 then 0 else 10
def subS(a b:Int):Int:=if a<b then 0 else a-b
def subE(a b:Int):Int:=if a<b then 10 else 0
def mulS(a b:Int):Int:=if a*b<18446744073709551616 then a*b else 0
def mulE(a b:Int):Int:=if a*b<18446744073709551616 then 0 else 10
def upS(n:Int):Int:=if n<1 then 0 else (n-1)/2+1
def downS(n:Int):Int:=if n<1 then 0 else n/2
end Wd

section
variable (w:World)

theorem wrap_mod(n:Int):IntKind.u64.wrap n=n%18446744073709551616:=IntKind.wrap_u64 n

theorem wrap_of{n:Int}(h0:0<=n)(h1:n<18446744073709551616):IntKind.u64.wrap n=n:=by rw[wrap_mod];omega

theorem Wd.and_one'{v:Int}(k:Nat)(h0:0<=v)(h1:v<18446744073709551616):bits BinOp.and IntKind.u64 (v/2 ^ k) 1=((v.toNat/2 ^ k%2:Nat):Int):=by
 obtain⟨V,rfl⟩:=Int.eq_ofNat_of_zero_le h0
 have e:((V:Int)/2 ^ k)=((V/2 ^ k:Nat):Int):=by simp
 have hl:V/2 ^ k<18446744073709551616:=Nat.lt_of_le_of_lt (Nat.div_le_self _ _) (by omega)
 rw[e]
 have:=u64_and_nat (V/2 ^ k) 1 hl (by decide)
 rw[show ((1:Nat):Int)=1 from rfl] at this
 rw[this,Wd.and_one,Int.toNat_natCast]

theorem Low_any(v:Int)(h0:0<=v)(h1:v<18446744073709551616):
  Calls prog 199 #[.int .u64 v] w λ e w'=>w=w'/\e=.returned (.int .i64 (Wd.low v.toNat)):=by
 have A1:=Lib.hid (λ k=>Wd.and_one' (v:=v) k h0 h1)
 go_enter func199,ntmps199
 go_wp2
 go_loop [4] (λ i=>∃ k:Nat,k<=64/\i=.int .i64 k/\∀ j,j<k->v.toNat/2 ^ j%2≠1) (λ i=>64-(intOf i).toNat)
 case atStart=>exact ⟨0,by omega,rfl,λ _ h=>by omega⟩
 case round=>
  obtain⟨k,hk,rfl,hb⟩:=hrel
  have hb:=Lib.hid hb
  by_cases hlt:k<64
  .have A2:=Lib.hid (A1.out k)
   by_cases ht:v.toNat/2 ^ k%2=1
   .have t:(bits BinOp.and IntKind.u64 (v/2 ^ k) 1==1)=true:=by rw[A2.out,ht];rfl
    have ht:=Lib.hid ht
    go_wp2
    go_ret
    exact⟨rfl,ret1 (by rw[Wd.low_eq hk hb.out (λ _=>ht.out)])⟩
   .have t:(bits BinOp.and IntKind.u64 (v/2 ^ k) 1==1)=false:=by rw[A2.out,beq_eq_false_iff_ne];omega
    have ht:=Lib.hid ht
    go_wp2
    go_round
    case rel=>
     refine⟨k+1,by omega,by go_num,λ j hj=>?_⟩
     by_cases e:j=k
     .subst e;exact ht.out
     .exact hb.out j (by omega)
    case measure=>simp [intOf];omega
  .go_wp2
   go_ret
   exact⟨rfl,ret1 (by rw[Wd.low_eq (Nat.le_refl 64) (λ j hj=>hb.out j (by omega)) (λ h=>by omega)];rfl)⟩

end
end

section
open Go.RowKit
attribute [local go_sem] Oper.semAt_some

def pcsF:Nat->Nat->Nat->List (Nat×Nat×Nat)
 |0,_,_=>[]
 |f+1,i,n=>if n=0 then [] else (i/64,i%64,min n (64-i%64))::pcsF f (i+min n (64-i%64)) (n-min n (64-i%64))
def pcs(i n:Nat):List (Nat×Nat×Nat):=pcsF n i n

theorem pcsF_more:∀ (f g i n:Nat),n<=f->n<=g->pcsF f i n=pcsF g i n
 |0,0,_,_,_,_=>rfl
 |0,g+1,i,n,h,_=>by simp only[pcsF];rw [if_pos (by omega)]
 |f+1,0,i,n,_,h=>by simp only[pcsF];rw [if_pos (by omega)]
 |f+1,g+1,i,n,h,k=>by
  simp only[pcsF]
  by_cases h0:n=0
  .rw [if_pos h0,if_pos h0]
  .rw [if_neg h0,if_neg h0,pcsF_more f g _ _ (by omega) (by omega)]

theorem pcs_nil(i:Nat):pcs i 0=[]:=rfl
theorem pcs_cons(i n:Nat)(h:0<n):pcs i n=(i/64,i%64,min n (64-i%64))::pcs (i+min n (64-i%64)) (n-min n (64-i%64)):=by
 obtain⟨f,rfl⟩:∃ f,n=f+1:=⟨n-1,by omega⟩
 unfold pcs
 rw[pcsF,if_neg (by omega),pcsF_more f _ _ _ (by omega) (Nat.le_refl _)]

def pmk(b k:Nat):Nat:=(2 ^ k-1)*2 ^ b

def pieceV(x:Nat×Nat×Nat):Array Value:=#[.agg #[.int .i64 (x.1:Nat),.int .i64 (x.2.1:Nat),.int .u64 (pmk x.2.1 x.2.2:Nat)]]

theorem mask_walk{k b:Nat}(hk:k<64)(hb:b+k<=64):IntKind.u64.wrap (IntKind.u64.wrap (IntKind.u64.wrap ((2:Int) ^ k)-1)*2 ^ b)=((pmk b k:Nat):Int):=by
 have h1:=Wd.mask_lt (at_:=b) (n:=k) hb
 rw[Wd.Fs] at h1
 have h2:(2:Nat) ^ k<18446744073709551616:=by
  have:=Nat.pow_lt_pow_right (a:=2) (by decide) hk
  rwa [Wd.Fs] at this
 have h3:=Nat.two_pow_pos k
 have e1:((2:Int) ^ k)=((2 ^ k:Nat):Int):=by simp
 rw[e1,wrap_of (n:=((2 ^ k:Nat):Int)) (by omega) (by omega),wrap_of (n:=((2 ^ k:Nat):Int)-1) (by omega) (by omega)]
 have e2:(((2 ^ k:Nat):Int)-1)*2 ^ b=(((2 ^ k-1)*2 ^ b:Nat):Int):=by
  rw[Int.natCast_mul,Int.natCast_sub h3];simp
 rw[e2,wrap_of (by omega) (by omega)];rfl

theorem full_int{j:Nat}(h:j%64=0):IntKind.u64.wrap ((18446744073709551615:Int)*2 ^ (j%64))=18446744073709551615:=by
 rw[h,Int.pow_zero,Int.mul_one,wrap_of (by omega) (by omega)]

theorem full_nat{j:Nat}(h:j%64=0):((pmk (j%64) 64:Nat):Int)=18446744073709551615:=by
 rw[h];decide +kernel

theorem at_any(i:Int)(w:World)(h0:0<=i)(h1:i<9223372036854775808):
  Calls prog 108 #[.int .i64 i] w λ e w'=>e=.returned (.agg #[.int .i64 (i/64),.int .i64 (i%64)])/\w.alloc (.cells #[.int .i64 (i/64),.int .i64 (i%64)] 193)=w':=by
 go_enter func108,ntmps108
 go_wp2
 exact bodyPost_ret (v:=.agg #[.int .i64 (i/64),.int .i64 (i%64)]) (by simp[results,results108,go_sem]) rfl ⟨rfl,rfl⟩

theorem pieces_any(i n:Int)(w:World):
  Calls prog 116 #[.int .i64 i,.int .i64 n] w λ e w'=>
   e=.returned (.func (.func 150) #[] #[.pointer (some ⟨w.heap.size+1,0,none⟩),.pointer (some ⟨w.heap.size,0,none⟩)])/\
   (w.alloc (.cells #[.int .i64 i] 3)).alloc (.cells #[.int .i64 n] 3)=w':=by
 have hmf:∀ (fn:Fn) (first cap:Array Value) (w:World),(Instr.makeFunc fn first cap).run prog w=.ok (.func fn first cap) w:=λ _ _ _ _=>rfl
 go_enter func116,ntmps116
 go_wp2
 go_ret
 exact⟨rfl,rfl⟩

theorem ED{i n j m K:Nat}{pre:List (Nat×Nat×Nat)}{J:List (Nat×Nat×Nat)->World->Prop}{W wr B:World}{bn bi:Nat}{x y:Int}
  (hx:pcs i n=pre++pcs j m) (hx':pcs j m=(j/64,j%64,K)::pcs (j+K) (m-K)) (hjm:j+m=i+n) (h1:0<K) (h2:K<=m) (hne:bn≠bi) (hs:W.heap.size<=wr.heap.size) (hsB:wr.heap.size+1+1<=B.heap.size)
  (hJ:∀ (pre:List (Nat×Nat×Nat)) (A B:World),J pre A->Kp (λ k=>k=bn\/k=bi) A B->J pre B) (hT:J (pre++[(j/64,j%64,K)]) B)
  (gnB:B.heap[bn]?=some (.cells #[.int .i64 (m:Nat)] 3 (0,0))) (giB:B.heap[bi]?=some (.cells #[.int .i64 (j:Nat)] 3 (0,0))) (cn:wr.cell? ⟨bn,0,none⟩=some (.int .i64 (m:Nat)))
  (ex:x=(j:Int)+K) (ey:y=(m:Int)-K):
  (∃ (pre:List (Nat×Nat×Nat)) (j m:Nat),pcs i n=pre++pcs j m/\j+m=i+n/\J pre (((B.setCell ⟨bi,0,none⟩ (.int .i64 x)).setCell ⟨bn,0,none⟩ (.int .i64 y)).drew)/\
   (((B.setCell ⟨bi,0,none⟩ (.int .i64 x)).setCell ⟨bn,0,none⟩ (.int .i64 y)).drew).heap[bn]?=some (.cells #[.int .i64 (m:Nat)] 3 (0,0))/\
   (((B.setCell ⟨bi,0,none⟩ (.int .i64 x)).setCell ⟨bn,0,none⟩ (.int .i64 y)).drew).heap[bi]?=some (.cells #[.int .i64 (j:Nat)] 3 (0,0))/\
   W.heap.size<=(((B.setCell ⟨bi,0,none⟩ (.int .i64 x)).setCell ⟨bn,0,none⟩ (.int .i64 y)).drew).heap.size)/\
  (intOf (((((B.setCell ⟨bi,0,none⟩ (.int .i64 x)).setCell ⟨bn,0,none⟩ (.int .i64 y)).drew).cell? ⟨bn,0,none⟩).getD undef)).toNat<(intOf ((wr.cell? ⟨bn,0,none⟩).getD undef)).toNat:=by
 have en:y=((m-K:Nat):Int):=by omega
 have ei:x=((j+K:Nat):Int):=by omega
 subst en ei
 have g1:=one_setCell (u:=.int .i64 ((j+K:Nat):Int)) giB
 have g2:(B.setCell ⟨bi,0,none⟩ (.int .i64 ((j+K:Nat):Int))).heap[bn]?=some (.cells #[.int .i64 (m:Nat)] 3 (0,0)):=(Below.heap_setCell _ _ _ _ hne).trans gnB
 have g3:=one_setCell (u:=.int .i64 ((m-K:Nat):Int)) g2
 have g4:((B.setCell ⟨bi,0,none⟩ (.int .i64 ((j+K:Nat):Int))).setCell ⟨bn,0,none⟩ (.int .i64 ((m-K:Nat):Int))).heap[bi]?=some (.cells #[.int .i64 ((j+K:Nat):Int)] 3 (0,0)):=(Below.heap_setCell _ _ _ _ (λ h=>hne h.symm)).trans g1
 refine⟨⟨pre++[(j/64,j%64,K)],j+K,m-K,by rw[hx,hx',List.append_assoc];rfl,by omega,?_,g3,g4,?_⟩,?_⟩
 .exact hJ _ _ _ hT ((((Kr _ B).setCell (λ _=>.inr rfl) _).setCell (λ _=>.inl rfl) _).drew)
 .show W.heap.size<=((B.setCell _ _).setCell _ _).heap.size
  simp only[World.setCell,Array.size_modify];omega
 .rw [show ((((B.setCell ⟨bi,0,none⟩ (.int .i64 ((j+K:Nat):Int))).setCell ⟨bn,0,none⟩ (.int .i64 ((m-K:Nat):Int))).drew).cell? ⟨bn,0,none⟩)=some (.int .i64 ((m-K:Nat):Int)) from cell_of_one g3,cn]
  simp only[Option.getD_some,intOf]
  omega

theorem pieces_iter{i n:Nat}{w:World}(hi:i+n<=65536)(bn bi:Nat)(hbn:w.heap[bn]?=some (.cells #[.int .i64 (n:Nat)] 3 (0,0)))(hbi:w.heap[bi]?=some (.cells #[.int .i64 (i:Nat)] 3 (0,0)))(hne:bn≠bi)
  {R:Nat->Prop} (hR:∀ k,R k->k<w.heap.size/\k≠bn/\k≠bi):
  IterAt prog 150 #[.pointer (some ⟨bn,0,none⟩),.pointer (some ⟨bi,0,none⟩)] pieceV (pcs i n) (λ k=>k=bn\/k=bi) R w:=by
 intro l J Jx W hW hl1 hl2 hJ hJx hY h0
 have lbn:=(Array.getElem?_eq_some_iff.1 hbn).1
 have lbi:=(Array.getElem?_eq_some_iff.1 hbi).1
 have gbn:=hW.at_ hbn (λ h=>h)
 have gbi:=hW.at_ hbi (λ h=>h)
 have hsz:=hW.size
 refine(callsIn_wide (n:=0)).1 ?_
 refine callsIn_of_wp func150 rfl trivial ?_
 simp only[ntmps150,List.size_toArray,List.length_cons,List.length_nil,Nat.reduceAdd,Nat.reduceSub,Array.replicate_succ,Array.replicate_zero,List.push_toArray,List.append_toArray,List.nil_append,List.cons_append]
 gi_wp2
 gi_loopw [4,5] (λ _ _ wr=>∃ (pre:List (Nat×Nat×Nat)) (j m:Nat),pcs i n=pre++pcs j m/\j+m=i+n/\J pre wr/\
   wr.heap[bn]?=some (.cells #[.int .i64 (m:Nat)] 3 (0,0))/\wr.heap[bi]?=some (.cells #[.int .i64 (j:Nat)] 3 (0,0))/\W.heap.size<=wr.heap.size)
  (λ _ _ wr=>(intOf ((wr.cell? ⟨bn,0,none⟩).getD undef)).toNat)
 case atStart=>exact ⟨[],i,n,rfl,rfl,h0,gbn,gbi,Nat.le_refl _⟩
 case round=>
  obtain⟨pre,j,m,hx,hjm,hj,gn,gi,hs⟩:=hrel
  have cn:=cell_of_one gn
  have ci:=cell_of_one gi
  by_cases hm:m=0
  .subst hm
   gi_wp2
   go_end0
   exact⟨⟨_,rfl⟩,.inl (by rw[hx,pcs_nil,List.append_nil];exact hj)⟩
  .have hm':(0:Int)<m:=by omega
   have hj1:(j:Int)+m<=65536:=by omega
   have a0:bn<wr.heap.size:=by omega
   have a1:bn<wr.heap.size+1:=by omega
   have c0:bi<wr.heap.size:=by omega
   have c1:bi<wr.heap.size+1:=by omega
   have fn:=free_of_one gn
   have fi:=free_of_one gi
   by_cases hk:(64:Int)-(j:Int)%64<m
   .by_cases hb:(j:Int)%64=0
    .have hk':¬ (64:Int)-(j:Int)%64<64:=by omega
     gi_wp2_with fail
     refine⟨trivial,rfl,?_⟩
     refine(callsIn_wide.2 (at_any _ _ (by omega) (by omega))).mono ?_
     rintro e w' ⟨rfl,rfl⟩
     gi_wp2_with fail
     have hx':=pcs_cons j m (by omega)
     have hK:min m (64-j%64)=64:=by omega
     rw[hK] at hx'
     refine EG (hY pre _ _ _ (by rw[hx,hx']) (hJ _ _ _ hj (((Kr _ wr).alloc _).alloc _))) ?_ ?_ ?_
     .unfold pieceV
      have hb':j%64=0:=by omega
      rw[full_nat hb',show ((j%64:Nat):Int)=0 by omega];simp
     .intro B hC hT
      have gnB:=hC.at_ ((((Kr Ab wr).alloc _).alloc _).at_ gn (λ h=>h)) (λ h=>by rcases h with h|h;have:=hR _ h;omega;omega)
      have giB:=hC.at_ ((((Kr Ab wr).alloc _).alloc _).at_ gi (λ h=>h)) (λ h=>by rcases h with h|h;have:=hR _ h;omega;omega)
      have hsB:=hC.size
      simp only[World.size_alloc] at hsB
      have cnB:=cell_of_one gnB
      have ciB:=cell_of_one giB
      have fnB:=free_of_one gnB
      have fiB:=free_of_one giB
      gi_wp2_with fail
      refine wpIn_wide.2 ?_
      go_region
      all_goals
       go_wp2
       exact ED hx hx' hjm (by omega) (by omega) hne hs hsB hJ hT gnB giB cn (by omega) (by omega)
     .intro B hC hE
      gi_wp2_with fail
      refine bodyPost_ret (results_none rfl _ _ _) rfl ?_
      exact⟨⟨_,rfl⟩,.inr ⟨_,⟨_,by rw[hx,hx',List.append_assoc];rfl⟩,hE⟩⟩
    .have hk':(64:Int)-(j:Int)%64<64:=by omega
     gi_wp2_with fail
     refine⟨trivial,rfl,?_⟩
     refine(callsIn_wide.2 (at_any _ _ (by omega) (by omega))).mono ?_
     rintro e w' ⟨rfl,rfl⟩
     gi_wp2_with fail
     have hx':=pcs_cons j m (by omega)
     have hK:min m (64-j%64)=64-j%64:=by omega
     rw[hK] at hx'
     refine EG (hY pre _ _ _ (by rw[hx,hx']) (hJ _ _ _ hj (((Kr _ wr).alloc _).alloc _))) ?_ ?_ ?_
     .unfold pieceV
      rw[mask_walk (k:=64-j%64) (b:=j%64) (by omega) (by omega)];simp
     .intro B hC hT
      have gnB:=hC.at_ ((((Kr Ab wr).alloc _).alloc _).at_ gn (λ h=>h)) (λ h=>by rcases h with h|h;have:=hR _ h;omega;omega)
      have giB:=hC.at_ ((((Kr Ab wr).alloc _).alloc _).at_ gi (λ h=>h)) (λ h=>by rcases h with h|h;have:=hR _ h;omega;omega)
      have hsB:=hC.size
      simp only[World.size_alloc] at hsB
      have cnB:=cell_of_one gnB
      have ciB:=cell_of_one giB
      have fnB:=free_of_one gnB
      have fiB:=free_of_one giB
      gi_wp2_with fail
      refine wpIn_wide.2 ?_
      go_region
      all_goals
       go_wp2
       exact ED hx hx' hjm (by omega) (by omega) hne hs hsB hJ hT gnB giB cn (by omega) (by omega)
     .intro B hC hE
      gi_wp2_with fail
      refine bodyPost_ret (results_none rfl _ _ _) rfl ?_
      exact⟨⟨_,rfl⟩,.inr ⟨_,⟨_,by rw[hx,hx',List.append_assoc];rfl⟩,hE⟩⟩
   .by_cases hb:m<64
    .have hk':(m:Int)<64:=by omega
     gi_wp2_with fail
     refine⟨trivial,rfl,?_⟩
     refine(callsIn_wide.2 (at_any _ _ (by omega) (by omega))).mono ?_
     rintro e w' ⟨rfl,rfl⟩
     gi_wp2_with fail
     have hx':=pcs_cons j m (by omega)
     have hK:min m (64-j%64)=m:=by omega
     rw[hK] at hx'
     refine EG (hY pre _ _ _ (by rw[hx,hx']) (hJ _ _ _ hj (((Kr _ wr).alloc _).alloc _))) ?_ ?_ ?_
     .unfold pieceV
      rw[mask_walk (k:=m) (b:=j%64) (by omega) (by omega)];simp
     .intro B hC hT
      have gnB:=hC.at_ ((((Kr Ab wr).alloc _).alloc _).at_ gn (λ h=>h)) (λ h=>by rcases h with h|h;have:=hR _ h;omega;omega)
      have giB:=hC.at_ ((((Kr Ab wr).alloc _).alloc _).at_ gi (λ h=>h)) (λ h=>by rcases h with h|h;have:=hR _ h;omega;omega)
      have hsB:=hC.size
      simp only[World.size_alloc] at hsB
      have cnB:=cell_of_one gnB
      have ciB:=cell_of_one giB
      have fnB:=free_of_one gnB
      have fiB:=free_of_one giB
      gi_wp2_with fail
      refine wpIn_wide.2 ?_
      go_region
      all_goals
       go_wp2
       exact ED hx hx' hjm (by omega) (by omega) hne hs hsB hJ hT gnB giB cn (by omega) (by omega)
     .intro B hC hE
      gi_wp2_with fail
      refine bodyPost_ret (results_none rfl _ _ _) rfl ?_
      exact⟨⟨_,rfl⟩,.inr ⟨_,⟨_,by rw[hx,hx',List.append_assoc];rfl⟩,hE⟩⟩
    .have hk':¬ (m:Int)<64:=by omega
     gi_wp2_with fail
     refine⟨trivial,rfl,?_⟩
     refine(callsIn_wide.2 (at_any _ _ (by omega) (by omega))).mono ?_
     rintro e w' ⟨rfl,rfl⟩
     gi_wp2_with fail
     have hx':=pcs_cons j m (by omega)
     have hK:min m (64-j%64)=64:=by omega
     rw[hK] at hx'
     refine EG (hY pre _ _ _ (by rw[hx,hx']) (hJ _ _ _ hj (((Kr _ wr).alloc _).alloc _))) ?_ ?_ ?_
     .unfold pieceV
      have hb':j%64=0:=by omega
      rw[full_nat hb',full_int hb'];simp
     .intro B hC hT
      have gnB:=hC.at_ ((((Kr Ab wr).alloc _).alloc _).at_ gn (λ h=>h)) (λ h=>by rcases h with h|h;have:=hR _ h;omega;omega)
      have giB:=hC.at_ ((((Kr Ab wr).alloc _).alloc _).at_ gi (λ h=>h)) (λ h=>by rcases h with h|h;have:=hR _ h;omega;omega)
      have hsB:=hC.size
      simp only[World.size_alloc] at hsB
      have cnB:=cell_of_one gnB
      have ciB:=cell_of_one giB
      have fnB:=free_of_one gnB
      have fiB:=free_of_one giB
      gi_wp2_with fail
      refine wpIn_wide.2 ?_
      go_region
      all_goals
       go_wp2
       exact ED hx hx' hjm (by omega) (by omega) hne hs hsB hJ hT gnB giB cn (by omega) (by omega)
     .intro B hC hE
      gi_wp2_with fail
      refine bodyPost_ret (results_none rfl _ _ _) rfl ?_
      exact⟨⟨_,rfl⟩,.inr ⟨_,⟨_,by rw[hx,hx',List.append_assoc];rfl⟩,hE⟩⟩

end

section
open Go.RowKit

def bitOf(ws:List Nat)(i:Nat):Bool:=(ws.getD (i/64) 0).testBit (i%64)

structure WordsAt(w:World)(p q:Nat)(ws:List Nat)(n:Nat):Prop where
 hp:∃ cap,w.heap[p]?=some (.cells #[.slice (some ⟨q,0,none⟩) ws.length cap,.int .i64 (n:Nat)] 175 (0,0))
 hq:∃ cs,w.heap[q]?=some (.cells cs 55 (0,0))/\∀ j,j<ws.length->cs[j]?=some (.int .u64 (ws.getD j 0:Nat))
 len:ws.length=(n+63)/64
 small:n<=65536
 fits:∀ j,ws.getD j 0<18446744073709551616

def AO(w:World)(p q:Nat)(f:Nat->Bool)(n:Nat):Prop:=∃ ws,WordsAt w p q ws n/\∀ i,i<n->bitOf ws i=f i

theorem WordsAt.keep{S:Nat->Prop}{w w':World}{p q n:Nat}{ws:List Nat}(h:WordsAt w p q ws n)(k:Kp S w w')(hp:¬ S p)(hq:¬ S q):WordsAt w' p q ws n:=by
 obtain⟨cap,h1⟩:=h.hp
 obtain⟨cs,h2,h3⟩:=h.hq
 exact⟨⟨cap,k.at_ h1 hp⟩,⟨cs,k.at_ h2 hq,h3⟩,h.len,h.small,h.fits⟩

theorem AO.keep{S:Nat->Prop}{w w':World}{p q n:Nat}{f:Nat->Bool}(h:AO w p q f n)(k:Kp S w w')(hp:¬ S p)(hq:¬ S q):AO w' p q f n:=
 let ⟨ws,a,b⟩:=h;⟨ws,a.keep k hp hq,b⟩

theorem cell_of_two{w:World}{b:Nat}{u v:Value}{t:TypeId}(h:w.heap[b]?=some (.cells #[u,v] t (0,0))):w.cell? ⟨b,0,none⟩=some u/\w.cell? ⟨b,1,none⟩=some v:=by
 simp[World.cell?,h]

theorem Ae{w:World}{b:Nat}{cs:Array Value}{t:TypeId}(h:w.heap[b]?=some (.cells cs t (0,0)))(j:Nat):w.frozen? ⟨b,j,none⟩=false:=by simp[World.frozen?,h]

theorem lZ{w:World}{b:Nat}{o:Obj}(h:w.heap[b]?=some o):b<w.heap.size:=(Array.getElem?_eq_some_iff.1 h).1

theorem Bp(w:World)(o:Obj){k:Nat}(h:k=w.heap.size):(w.alloc o).heap[k]?=some o:=by subst h;exact wN w o

theorem WordsAt.lt_p{w:World}{p q n:Nat}{ws:List Nat}(h:WordsAt w p q ws n):p<w.heap.size:=by obtain⟨_,h⟩:=h.hp;exact lZ h
theorem WordsAt.lt_q{w:World}{p q n:Nat}{ws:List Nat}(h:WordsAt w p q ws n):q<w.heap.size:=by obtain⟨_,h,_⟩:=h.hq;exact lZ h
theorem WordsAt.ne{w:World}{p q n:Nat}{ws:List Nat}(h:WordsAt w p q ws n):p≠q:=by
 obtain⟨_,h1⟩:=h.hp
 obtain⟨_,h2,_⟩:=h.hq
 intro e;subst e;rw [h1] at h2;injection h2 with h2;injection h2 with _ h2 _;revert h2;decide

theorem WordsAt.reads{w:World}{p q n:Nat}{ws:List Nat}(h:WordsAt w p q ws n):
  (∃ cap,w.cell? ⟨p,0,none⟩=some (.slice (some ⟨q,0,none⟩) ws.length cap))/\w.cell? ⟨p,1,none⟩=some (.int .i64 (n:Nat))/\
  (∀ j,j<ws.length->w.cell? ⟨q,j,none⟩=some (.int .u64 (ws.getD j 0:Nat)))/\(∀ j,w.frozen? ⟨q,j,none⟩=false):=by
 obtain⟨cap,h1⟩:=h.hp
 obtain⟨cs,h2,h3⟩:=h.hq
 refine⟨⟨cap,(cell_of_two h1).1⟩,(cell_of_two h1).2,λ j hj=>?_,Ae h2⟩
 have:=h3 j hj
 simp only[World.cell?,h2];simpa using this

theorem WordsAt.word{w:World}{p q n:Nat}{ws:List Nat}(h:WordsAt w p q ws n)(j:Nat)(hj:j<ws.length):
  ∃ v:Nat,v<18446744073709551616/\w.cell? ⟨q,j,none⟩=some (.int .u64 (v:Nat))/\w.frozen? ⟨q,j,none⟩=false/\Sl (ws.getD j 0=v):=
 ⟨_,h.fits j,h.reads.2.2.1 j hj,h.reads.2.2.2 j,⟨rfl⟩⟩

theorem bZ{w:World}{b j:Nat}{cs:Array Value}{t:TypeId}(h:w.heap[b]?=some (.cells cs t (0,0)))(v:Value):(w.setCell ⟨b,j,none⟩ v).heap[b]?=some (.cells (cs.setIfInBounds j v) t (0,0)):=by
 have hlt:=lZ h
 have h':w.heap[b]=.cells cs t (0,0):=by simpa [Array.getElem?_eq_getElem hlt] using h
 show(w.heap.modify b _)[b]?=_
 rw[Array.getElem?_eq_getElem (by simpa using hlt),Array.getElem_modify_self,h']
 rfl

theorem WordsAt.store{w:World}{p q n:Nat}{ws:List Nat}(h:WordsAt w p q ws n){j v:Nat}(hj:j<ws.length)(hv:v<18446744073709551616):
  WordsAt (w.setCell ⟨q,j,none⟩ (.int .u64 (v:Nat))) p q (ws.set j v) n:=by
 obtain⟨cap,h1⟩:=h.hp
 obtain⟨cs,h2,h3⟩:=h.hq
 refine⟨⟨cap,?_⟩,⟨_,bZ h2 _,λ i hi=>?_⟩,by simpa using h.len,h.small,λ i=>?_⟩
 .rw [List.length_set];exact (Below.heap_setCell _ _ _ _ h.ne).trans h1
 .simp only[List.length_set] at hi
  rw[Array.getElem?_setIfInBounds,List.getD_eq_getElem?_getD,List.getElem?_set]
  by_cases e:j=i
  .subst e
   have hc:=h3 j hj
   have:j<cs.size:=(Array.getElem?_eq_some_iff.1 hc).1
   simp[this,hj]
  .simp only[e,if_false];rw [h3 i hi,List.getD_eq_getElem?_getD]
 .rw [List.getD_eq_getElem?_getD,List.getElem?_set]
  by_cases e:j=i
  .subst e;simp [hj,hv]
  .simp only[e,if_false];rw [<- List.getD_eq_getElem?_getD];exact h.fits i

theorem bitOf_set{ws:List Nat}{j v i:Nat}(hj:j<ws.length):bitOf (ws.set j v) i=if i/64=j then v.testBit (i%64) else bitOf ws i:=by
 unfold bitOf
 rw[List.getD_eq_getElem?_getD,List.getElem?_set]
 by_cases e:j=i/64
 .rw [if_pos e,if_pos e.symm,if_pos (by omega)];rfl
 .rw [if_neg e,if_neg (λ h=>e h.symm),<- List.getD_eq_getElem?_getD]

def inPcs(l:List (Nat×Nat×Nat))(i:Nat):Bool:=l.any λ x=>decide (x.1=i/64/\x.2.1<=i%64/\i%64<x.2.1+x.2.2)

theorem inPcs_nil(i:Nat):inPcs [] i=false:=rfl
theorem inPcs_snoc(l:List (Nat×Nat×Nat))(x:Nat×Nat×Nat)(i:Nat):inPcs (l++[x]) i=(inPcs l i||decide (x.1=i/64/\x.2.1<=i%64/\i%64<x.2.1+x.2.2)):=by
 simp[inPcs]

theorem inPcsF:∀ (f i n k:Nat),n<=f->inPcs (pcsF f i n) k=decide (i<=k/\k<i+n)
 |0,i,n,k,h=>by simp[pcsF,inPcs];omega
 |f+1,i,n,k,h=>by
  simp only[pcsF]
  by_cases h0:n=0
  .rw [if_pos h0];simp [inPcs];omega
  .rw [if_neg h0]
   have ih:=inPcsF f (i+min n (64-i%64)) (n-min n (64-i%64)) k (by omega)
   unfold inPcs at ih ⊢
   rw[List.any_cons,ih,Bool.eq_iff_iff]
   simp only[Bool.or_eq_true,decide_eq_true_eq]
   have hm:min n (64-i%64)=n\/min n (64-i%64)=64-i%64:=by omega
   rcases hm with hm|hm <;> rw[hm] <;> omega

theorem inPcs_pcs(i n k:Nat):inPcs (pcs i n) k=decide (i<=k/\k<i+n):=inPcsF n i n k (Nat.le_refl _)

theorem pcsF_mem:∀ (f i n:Nat) (x:Nat×Nat×Nat),x∈pcsF f i n->0<x.2.2/\x.2.1+x.2.2<=64/\i<=x.1*64+x.2.1/\x.1*64+x.2.1+x.2.2<=i+n
 |0,_,_,_,h=>by simp[pcsF] at h
 |f+1,i,n,x,h=>by
  simp only[pcsF] at h
  by_cases h0:n=0
  .rw [if_pos h0] at h;simp at h
  .rw [if_neg h0] at h
   rcases List.mem_cons.1 h with rfl|h
   .dsimp only;omega
   .have:=pcsF_mem f _ _ x h
    omega

theorem pcs_mem{i n:Nat}{x:Nat×Nat×Nat}(h:x∈pcs i n):0<x.2.2/\x.2.1+x.2.2<=64/\i<=x.1*64+x.2.1/\x.1*64+x.2.1+x.2.2<=i+n:=pcsF_mem n i n x h

theorem testBit_pmask(b k i:Nat):(pmk b k).testBit i=decide (b<=i/\i<b+k):=by
 unfold pmk
 rw[Nat.mul_comm,Nat.testBit_two_pow_mul,Nat.testBit_two_pow_sub_one,Bool.eq_iff_iff]
 simp only[Bool.and_eq_true,decide_eq_true_eq];omega

theorem pmask_lt{b k:Nat}(h:b+k<=64):pmk b k<18446744073709551616:=by
 unfold pmk
 have:=Wd.mask_lt (at_:=b) (n:=k) h
 rwa [Wd.Fs] at this

def nextF(g:Nat->Bool):Nat->Nat->Option Nat
 |0,_=>none
 |f+1,i=>if g i then some i else nextF g f (i+1)
def Da(g:Nat->Bool)(n i:Nat):Option Nat:=nextF g (n-i) i

theorem nextF_some{g:Nat->Bool}:∀ (f i j:Nat),i<=j->j<i+f->g j=true->(∀ t,i<=t->t<j->g t=false)->nextF g f i=some j
 |0,i,j,h1,h2,_,_=>by omega
 |f+1,i,j,h1,h2,h3,h4=>by
  simp only[nextF]
  by_cases e:i=j
  .subst e;rw [if_pos h3]
  .rw [h4 i (Nat.le_refl _) (by omega)];simp only[Bool.false_eq_true,if_false]
   exact nextF_some f (i+1) j (by omega) (by omega) h3 (λ t ht=>h4 t (by omega))

theorem nextF_none{g:Nat->Bool}:∀ (f i:Nat),(∀ t,i<=t->t<i+f->g t=false)->nextF g f i=none
 |0,i,_=>rfl
 |f+1,i,h=>by
  simp only[nextF]
  rw[h i (Nat.le_refl _) (by omega)];simp only[Bool.false_eq_true,if_false]
  exact nextF_none f (i+1) (λ t h1 h2=>h t (by omega) (by omega))

theorem nextF_spec{g:Nat->Bool}:∀ (f i:Nat),(∃ j,nextF g f i=some j/\i<=j/\j<i+f/\g j=true/\∀ t,i<=t->t<j->g t=false)\/(nextF g f i=none/\∀ t,i<=t->t<i+f->g t=false)
 |0,i=>.inr ⟨rfl,λ t h1 h2=>by omega⟩
 |f+1,i=>by
  simp only[nextF]
  by_cases e:g i=true
  .rw [if_pos e];exact .inl ⟨i,rfl,Nat.le_refl _,by omega,e,λ t h1 h2=>by omega⟩
  .rw [if_neg e]
   have e':g i=false:=by simpa using e
   rcases nextF_spec f (i+1) (g:=g) with ⟨j,h1,h2,h3,h4,h5⟩|⟨h1,h2⟩
   .exact .inl ⟨j,h1,by omega,by omega,h4,λ t a b=>by by_cases k:t=i;subst k;exact e';exact h5 t (by omega) b⟩
   .exact .inr ⟨h1,λ t a b=>by by_cases k:t=i;subst k;exact e';exact h2 t (by omega) (by omega)⟩

theorem nextB_some{g:Nat->Bool}{n i j:Nat}(h1:i<=j)(h2:j<n)(h3:g j=true)(h4:∀ t,i<=t->t<j->g t=false):Da g n i=some j:=
 nextF_some (n-i) i j h1 (by omega) h3 h4

theorem nextB_none{g:Nat->Bool}{n i:Nat}(h:∀ t,i<=t->t<n->g t=false):Da g n i=none:=
 nextF_none (n-i) i (λ t h1 h2=>h t h1 (by omega))

theorem nextB_spec(g:Nat->Bool)(n i:Nat):(∃ j,Da g n i=some j/\i<=j/\j<n/\g j=true/\∀ t,i<=t->t<j->g t=false)\/(Da g n i=none/\∀ t,i<=t->t<n->g t=false):=by
 rcases nextF_spec (n-i) i (g:=g) with ⟨j,h1,h2,h3,h4,h5⟩|⟨h1,h2⟩
 .exact .inl ⟨j,h1,h2,by omega,h4,h5⟩
 .exact .inr ⟨h1,λ t a b=>h2 t a (by omega)⟩

end

section
open Go.RowKit
attribute [local go_sem] Oper.semAt_some

theorem in_yes(i n N:Int)(p:Nat)(w:World)(h:w.cell? ⟨p,1,none⟩=some (.int .i64 N))(h1:0<=i)(h2:0<=n)(h3:i<=N)(h4:n<=N-i)(h5:N<=65536):
  Calls prog 115 #[.pointer (some ⟨p,0,none⟩),.int .i64 i,.int .i64 n] w λ e w'=>e=.returned (.int .i64 0)/\w=w':=by
 go_enter func115,ntmps115
 go_wp2
 go_ret
 exact⟨rfl,rfl⟩

theorem in_no(i n N:Int)(p:Nat)(w:World)(h:w.cell? ⟨p,1,none⟩=some (.int .i64 N))(hn:¬ (0<=i/\0<=n/\i<=N/\n<=N-i))(h5:N<=65536)(h6:0<=N):
  Calls prog 115 #[.pointer (some ⟨p,0,none⟩),.int .i64 i,.int .i64 n] w λ e w'=>e=.returned (.int .i64 2)/\w=w':=by
 by_cases h1:0<=i
 .by_cases h2:0<=n
  .by_cases h3:i<=N
   .have h4:N-i<n:=by omega
    clear hn
    go_enter func115,ntmps115
    go_wp2
    go_ret
    exact⟨rfl,rfl⟩
   .clear hn
    go_enter func115,ntmps115
    go_wp2
    go_ret
    exact⟨rfl,rfl⟩
  .clear hn
   go_enter func115,ntmps115
   go_wp2
   go_ret
   exact⟨rfl,rfl⟩
 .clear hn
  go_enter func115,ntmps115
  go_wp2
  go_ret
  exact⟨rfl,rfl⟩

def Ei(f:Nat->Bool)(i n:Nat)(t:Bool):Nat->Bool:=λ k=>if i<=k/\k<i+n then t else f k

theorem SetRun_yes(i k n p q:Nat)(f:Nat->Bool)(w:World)(hb:AO w p q f n)(hi:i+k<=n):
  Calls prog 136 #[.pointer (some ⟨p,0,none⟩),.int .i64 (i:Nat),.int .i64 (k:Nat)] w λ e w'=>
   e=.returned (.int .i64 0)/\Kp (λ b=>b=q) w w'/\AO w' p q (Ei f i k true) n:=by
 obtain⟨ws,hw,hbits⟩:=hb
 obtain⟨⟨cap,r0⟩,r1,r2,r3⟩:=hw.reads
 have lp:=hw.lt_p
 have lq:=hw.lt_q
 have hn:=hw.small
 refine(callsIn_wide (n:=0)).1 ?_
 refine callsIn_of_wp_marks func136 rfl trivial ?_
 simp only[ntmps136,List.size_toArray,List.length_cons,List.length_nil,Nat.reduceAdd,Nat.reduceSub,Array.replicate_succ,Array.replicate_zero,List.push_toArray,List.append_toArray,List.nil_append,List.cons_append]
 gi_wp2_with fail
 refine⟨trivial,rfl,?_⟩
 refine(callsIn_wide.2 (in_yes _ _ n p _ (by rw[World.cell?_alloc_past _ _ _ lp];exact r1) (by omega) (by omega) (by omega) (by omega) (by omega))).mono ?_
 rintro e w' ⟨rfl,rfl⟩
 gi_wp2_with fail
 refine⟨trivial,rfl,?_⟩
 refine(callsIn_wide.2 (pieces_any _ _ _)).mono ?_
 rintro e w' ⟨rfl,rfl⟩
 gi_wp2_with fail
 obtain⟨wl,hwl⟩:∃ wl,wl=((w.alloc (.cells #[.pointer (some ⟨p,0,none⟩)] 64)).alloc (.cells #[.int .i64 (i:Nat)] 3)).alloc (.cells #[.int .i64 (k:Nat)] 3):=⟨_,rfl⟩
 rw[<- hwl]
 have hz:wl.heap.size=w.heap.size+3:=by rw[hwl];simp
 have kl:Kp Ab w wl:=by rw[hwl];exact (((Kr _ w).alloc _).alloc _).alloc _
 have gb:wl.heap[w.heap.size]?=some (.cells #[.pointer (some ⟨p,0,none⟩)] 64 (0,0)):=by
  rw[hwl];exact (((Kr Ab _).alloc _).alloc _).at_ (wN w _) (λ h=>h)
 have gi:wl.heap[w.heap.size+1]?=some (.cells #[.int .i64 (i:Nat)] 3 (0,0)):=by
  rw[hwl];refine ((Kr Ab _).alloc _).at_ ?_ (λ h=>h);have:=wN (w.alloc (.cells #[.pointer (some ⟨p,0,none⟩)] 64)) (.cells #[.int .i64 (i:Nat)] 3);rwa [World.size_alloc] at this
 have gk:wl.heap[w.heap.size+1+1]?=some (.cells #[.int .i64 (k:Nat)] 3 (0,0)):=by
  rw[hwl];have:=wN ((w.alloc (.cells #[.pointer (some ⟨p,0,none⟩)] 64)).alloc (.cells #[.int .i64 (i:Nat)] 3)) (.cells #[.int .i64 (k:Nat)] 3);rwa [World.size_alloc,World.size_alloc] at this
 clear hwl
 refine wpIn_range (n:=0) (gf:=150) (lb:=#[.pointer (some ⟨w.heap.size+1+1,0,none⟩),.pointer (some ⟨w.heap.size+1,0,none⟩)]) rfl (enters_of func150 (by kernel_rfl) rfl)
  (pieces_iter (w:=wl) (i:=i) (n:=k) (by omega) _ _ gk gi (by omega) (R:=λ b=>b=q) (λ b hb=>by omega)) (λ b hb=>by omega) (λ b hb=>by omega) (λ _=>rfl)
  (λ pre W=>Kp (λ b=>b=q) w W/\W.heap[w.heap.size]?=some (.cells #[.pointer (some ⟨p,0,none⟩)] 64 (0,0))/\∃ ws,WordsAt W p q ws n/\∀ j,j<n->bitOf ws j=(inPcs pre j||f j))
  (λ _ _ _=>False) ?hI ?hIx ?h0 ?hround ?hdone ?hstop
 case hI=>
  rintro pre A B ⟨hK,hx,ws,hW,hB⟩ hk
  exact⟨hK.trans hk (λ b hb h=>by omega),hk.at_ hx (by omega),ws,hW.keep hk (by omega) (by omega),hB⟩
 case hIx=>rintro c pre A B h _;exact h
 case h0=>exact ⟨kl.Al _,gb,ws,hw.keep kl (λ h=>h) (λ h=>h),λ j hj=>by rw[inPcs_nil,Bool.false_or];exact hbits j hj⟩
 case hround=>
  rintro pre x rest W hx ⟨hK,hbx,ws,hW,hB⟩ hs
  have hm:=pcs_mem (i:=i) (n:=k) (x:=x) (by rw[hx];simp)
  obtain⟨xw,xb,xk⟩:=x
  dsimp only[pieceV] at hm ⊢
  gi_wp2_with fail
  refine⟨(Kr _ W).alloc _,?_⟩
  intro W2 hc hf hk2 hs2 hr2
  have hl:=hW.len
  have hxl:xw<ws.length:=by rw[hl];omega
  have lW:=hW.lt_p
  have lW':=hW.lt_q
  obtain⟨⟨cap,r0⟩,r1,r2,r3⟩:=hW.reads
  have r2:=r2 xw hxl
  have r3:=r3 xw
  have cb:=cell_of_one hbx
  have lb:=lZ hbx
  gi_wp2_with fail
  refine BA 13 (by kernel_rfl) (by kernel_rfl) (by kernel_rfl) (λ _ _ h=>h) ?_
  simp only[List.take_succ_cons,List.take_zero,List.drop_succ_cons,List.drop_zero]
  repeat (go_big_quiet_step (fail))
  refine wpQuiet_nil ?_
  intro _ hw'
  obtain⟨nq,hw''⟩:=hw'
  subst hw''
  go_wp2
  have kW:Kp Ab W (W.alloc (.cells #[.int .i64 (xw:Nat),.int .i64 (xb:Nat),.int .u64 (pmk xb xk:Nat)] 206)):=(Kr _ W).alloc _
  have kW2:=(kW.Al (λ k=>k=wl.heap.size+1)).trans hk2 (λ _ _ h=>h)
  have hW2:=(hW.keep kW2 (by omega) (by omega)).keep (Kp.Aj (S:=Ab) nq) (λ h=>h) (λ h=>h)
  have ho:=u64_or_nat (ws.getD xw 0) (pmk xb xk) (hW.fits xw) (pmask_lt (by omega))
  rw[<- List.getD_eq_getElem?_getD,ho]
  have hfit:ws.getD xw 0 ||| pmk xb xk<18446744073709551616:=by
   have:=Nat.or_lt_two_pow (n:=64) (x:=ws.getD xw 0) (y:=pmk xb xk) (by rw[Wd.Fs];exact hW.fits xw) (by rw[Wd.Fs];exact pmask_lt (by omega))
   rwa [Wd.Fs] at this
  have kE:Kp (λ b=>b=q) W2 ((W2.drewN nq).setCell ⟨q,xw,none⟩ (.int .u64 (ws.getD xw 0 ||| pmk xb xk:Nat))):=((Kr (λ b=>b=q) W2).drewN nq).setCell (λ _=>rfl) _
  refine⟨kE,(hK.trans kW2 (λ b hb h=>by omega)).trans kE (λ _ _ h=>h),kE.at_ (kW2.at_ hbx (by omega)) (by omega),_,hW2.store hxl hfit,λ j hj=>?_⟩
  rw[bitOf_set hxl,inPcs_snoc,Nat.testBit_or,testBit_pmask]
  have hb:=hB j hj
  unfold bitOf at hb ⊢
  by_cases e:j/64=xw
  .subst e
   rw[if_pos rfl,hb]
   simp[Bool.or_comm,Bool.or_left_comm]
  .rw [if_neg e,hb]
   have:decide (xw=j/64/\xb<=j%64/\j%64<xb+xk)=false:=by simp;omega
   rw[this,Bool.or_false]
 case hdone=>
  rintro W ⟨hK,hbx,ws,hW,hB⟩ hs hD
  gi_wp2_with fail
  refine⟨by simp,.inl ⟨_,_,rfl,run_takeDeferred hD,?_⟩⟩
  have kE:Kp (λ b=>b=wl.heap.size) W (W.putObj wl.heap.size (.deferred none)):=(Kr (λ b=>b=wl.heap.size) W).putObj (λ _=>rfl) _
  refine⟨_,results_tmp rfl _ _ _,rfl,hK.trans kE (λ b hb h=>by omega),ws,hW.keep kE (by omega) (by omega),λ j hj=>?_⟩
  rw[hB j hj,inPcs_pcs,Ei]
  by_cases e:i<=j/\j<i+k
  .simp [e]
  .simp [e]
 case hstop=>
  intro c pre W _ h
  exact h.elim

theorem ClearRun_yes(i k n p q:Nat)(f:Nat->Bool)(w:World)(hb:AO w p q f n)(hi:i+k<=n):
  Calls prog 122 #[.pointer (some ⟨p,0,none⟩),.int .i64 (i:Nat),.int .i64 (k:Nat)] w λ e w'=>
   e=.returned (.int .i64 0)/\Kp (λ b=>b=q) w w'/\AO w' p q (Ei f i k false) n:=by
 obtain⟨ws,hw,hbits⟩:=hb
 obtain⟨⟨cap,r0⟩,r1,r2,r3⟩:=hw.reads
 have lp:=hw.lt_p
 have lq:=hw.lt_q
 have hn:=hw.small
 refine(callsIn_wide (n:=0)).1 ?_
 refine callsIn_of_wp_marks func122 rfl trivial ?_
 simp only[ntmps122,List.size_toArray,List.length_cons,List.length_nil,Nat.reduceAdd,Nat.reduceSub,Array.replicate_succ,Array.replicate_zero,List.push_toArray,List.append_toArray,List.nil_append,List.cons_append]
 gi_wp2_with fail
 refine⟨trivial,rfl,?_⟩
 refine(callsIn_wide.2 (in_yes _ _ n p _ (by rw[World.cell?_alloc_past _ _ _ lp];exact r1) (by omega) (by omega) (by omega) (by omega) (by omega))).mono ?_
 rintro e w' ⟨rfl,rfl⟩
 gi_wp2_with fail
 refine⟨trivial,rfl,?_⟩
 refine(callsIn_wide.2 (pieces_any _ _ _)).mono ?_
 rintro e w' ⟨rfl,rfl⟩
 gi_wp2_with fail
 obtain⟨wl,hwl⟩:∃ wl,wl=((w.alloc (.cells #[.pointer (some ⟨p,0,none⟩)] 64)).alloc (.cells #[.int .i64 (i:Nat)] 3)).alloc (.cells #[.int .i64 (k:Nat)] 3):=⟨_,rfl⟩
 rw[<- hwl]
 have hz:wl.heap.size=w.heap.size+3:=by rw[hwl];simp
 have kl:Kp Ab w wl:=by rw[hwl];exact (((Kr _ w).alloc _).alloc _).alloc _
 have gb:wl.heap[w.heap.size]?=some (.cells #[.pointer (some ⟨p,0,none⟩)] 64 (0,0)):=by
  rw[hwl];exact (((Kr Ab _).alloc _).alloc _).at_ (wN w _) (λ h=>h)
 have gi:wl.heap[w.heap.size+1]?=some (.cells #[.int .i64 (i:Nat)] 3 (0,0)):=by
  rw[hwl];refine ((Kr Ab _).alloc _).at_ ?_ (λ h=>h);have:=wN (w.alloc (.cells #[.pointer (some ⟨p,0,none⟩)] 64)) (.cells #[.int .i64 (i:Nat)] 3);rwa [World.size_alloc] at this
 have gk:wl.heap[w.heap.size+1+1]?=some (.cells #[.int .i64 (k:Nat)] 3 (0,0)):=by
  rw[hwl];have:=wN ((w.alloc (.cells #[.pointer (some ⟨p,0,none⟩)] 64)).alloc (.cells #[.int .i64 (i:Nat)] 3)) (.cells #[.int .i64 (k:Nat)] 3);rwa [World.size_alloc,World.size_alloc] at this
 clear hwl
 refine wpIn_range (n:=0) (gf:=150) (lb:=#[.pointer (some ⟨w.heap.size+1+1,0,none⟩),.pointer (some ⟨w.heap.size+1,0,none⟩)]) rfl (enters_of func150 (by kernel_rfl) rfl)
  (pieces_iter (w:=wl) (i:=i) (n:=k) (by omega) _ _ gk gi (by omega) (R:=λ b=>b=q) (λ b hb=>by omega)) (λ b hb=>by omega) (λ b hb=>by omega) (λ _=>rfl)
  (λ pre W=>Kp (λ b=>b=q) w W/\W.heap[w.heap.size]?=some (.cells #[.pointer (some ⟨p,0,none⟩)] 64 (0,0))/\∃ ws,WordsAt W p q ws n/\∀ j,j<n->bitOf ws j=(!inPcs pre j&&f j))
  (λ _ _ _=>False) ?hI ?hIx ?h0 ?hround ?hdone ?hstop
 case hI=>
  rintro pre A B ⟨hK,hx,ws,hW,hB⟩ hk
  exact⟨hK.trans hk (λ b hb h=>by omega),hk.at_ hx (by omega),ws,hW.keep hk (by omega) (by omega),hB⟩
 case hIx=>rintro c pre A B h _;exact h
 case h0=>exact ⟨kl.Al _,gb,ws,hw.keep kl (λ h=>h) (λ h=>h),λ j hj=>by rw[inPcs_nil,Bool.not_false,Bool.true_and];exact hbits j hj⟩
 case hround=>
  rintro pre x rest W hx ⟨hK,hbx,ws,hW,hB⟩ hs
  have hm:=pcs_mem (i:=i) (n:=k) (x:=x) (by rw[hx];simp)
  obtain⟨xw,xb,xk⟩:=x
  dsimp only[pieceV] at hm ⊢
  gi_wp2_with fail
  refine⟨(Kr _ W).alloc _,?_⟩
  intro W2 hc hf hk2 hs2 hr2
  have hl:=hW.len
  have hxl:xw<ws.length:=by rw[hl];omega
  have lW:=hW.lt_p
  have lW':=hW.lt_q
  obtain⟨⟨cap,r0⟩,r1,r2,r3⟩:=hW.reads
  have r2:=r2 xw hxl
  have r3:=r3 xw
  have cb:=cell_of_one hbx
  have lb:=lZ hbx
  gi_wp2_with fail
  refine BA 12 (by kernel_rfl) (by kernel_rfl) (by kernel_rfl) (λ _ _ h=>h) ?_
  simp only[List.take_succ_cons,List.take_zero,List.drop_succ_cons,List.drop_zero]
  repeat (go_big_quiet_step (fail))
  refine wpQuiet_nil ?_
  intro _ hw'
  obtain⟨nq,hw''⟩:=hw'
  subst hw''
  go_wp2
  have kW:Kp Ab W (W.alloc (.cells #[.int .i64 (xw:Nat),.int .i64 (xb:Nat),.int .u64 (pmk xb xk:Nat)] 206)):=(Kr _ W).alloc _
  have kW2:=(kW.Al (λ k=>k=wl.heap.size+1)).trans hk2 (λ _ _ h=>h)
  have hW2:=(hW.keep kW2 (by omega) (by omega)).keep (Kp.Aj (S:=Ab) nq) (λ h=>h) (λ h=>h)
  have ho:=u64_andNot_nat (ws.getD xw 0) (pmk xb xk) (hW.fits xw) (pmask_lt (by omega))
  rw[<- List.getD_eq_getElem?_getD,ho]
  have hfit:ws.getD xw 0 &&& (18446744073709551615-pmk xb xk)<18446744073709551616:=Nat.lt_of_le_of_lt Nat.and_le_left (hW.fits xw)
  have hpm:pmk xb xk<2 ^ 64:=by rw[Wd.Fs];exact pmask_lt (by omega)
  have kE:Kp (λ b=>b=q) W2 ((W2.drewN nq).setCell ⟨q,xw,none⟩ (.int .u64 (ws.getD xw 0 &&& (18446744073709551615-pmk xb xk):Nat))):=((Kr (λ b=>b=q) W2).drewN nq).setCell (λ _=>rfl) _
  refine⟨kE,(hK.trans kW2 (λ b hb h=>by omega)).trans kE (λ _ _ h=>h),kE.at_ (kW2.at_ hbx (by omega)) (by omega),_,hW2.store hxl hfit,λ j hj=>?_⟩
  rw[bitOf_set hxl,inPcs_snoc,Nat.testBit_and,Wd.tb_not hpm,testBit_pmask]
  have hb:=hB j hj
  unfold bitOf at hb ⊢
  have h64:decide (j%64<64)=true:=by simp;omega
  by_cases e:j/64=xw
  .subst e
   rw[if_pos rfl,hb,h64]
   cases inPcs pre j <;> cases f j <;> simp
  .rw [if_neg e,hb]
   have:decide (xw=j/64/\xb<=j%64/\j%64<xb+xk)=false:=by simp;omega
   rw[this,Bool.or_false]
 case hdone=>
  rintro W ⟨hK,hbx,ws,hW,hB⟩ hs hD
  gi_wp2_with fail
  refine⟨by simp,.inl ⟨_,_,rfl,run_takeDeferred hD,?_⟩⟩
  have kE:Kp (λ b=>b=wl.heap.size) W (W.putObj wl.heap.size (.deferred none)):=(Kr (λ b=>b=wl.heap.size) W).putObj (λ _=>rfl) _
  refine⟨_,results_tmp rfl _ _ _,rfl,hK.trans kE (λ b hb h=>by omega),ws,hW.keep kE (by omega) (by omega),λ j hj=>?_⟩
  rw[hB j hj,inPcs_pcs,Ei]
  by_cases e:i<=j/\j<i+k
  .simp [e]
  .simp [e]
 case hstop=>
  intro c pre W _ h
  exact h.elim

theorem SetRun_no(i k:Int)(n p q:Nat)(f:Nat->Bool)(w:World)(hb:AO w p q f n)(hn:¬ (0<=i/\0<=k/\i<=n/\k<=n-i)):
  Calls prog 136 #[.pointer (some ⟨p,0,none⟩),.int .i64 i,.int .i64 k] w λ e w'=>e=.returned (.int .i64 2)/\Kp Ab w w':=by
 obtain⟨ws,hw,hbits⟩:=hb
 obtain⟨⟨cap,r0⟩,r1,r2,r3⟩:=hw.reads
 have lp:=hw.lt_p
 have hs:=hw.small
 have HN:=sE hn
 clear hn
 refine(callsIn_wide (n:=0)).1 ?_
 refine callsIn_of_wp_marks func136 rfl trivial ?_
 simp only[ntmps136,List.size_toArray,List.length_cons,List.length_nil,Nat.reduceAdd,Nat.reduceSub,Array.replicate_succ,Array.replicate_zero,List.push_toArray,List.append_toArray,List.nil_append,List.cons_append]
 gi_wp2_with fail
 refine⟨trivial,rfl,?_⟩
 refine(callsIn_wide.2 (in_no _ _ n p _ (by rw[World.cell?_alloc_past _ _ _ lp];exact r1) HN.out (by omega) (by omega))).mono ?_
 rintro e w' ⟨rfl,rfl⟩
 gi_wp2_with fail
 exact⟨_,results_tmp rfl _ _ _,rfl,(Kr _ w).alloc _⟩

theorem ClearRun_no(i k:Int)(n p q:Nat)(f:Nat->Bool)(w:World)(hb:AO w p q f n)(hn:¬ (0<=i/\0<=k/\i<=n/\k<=n-i)):
  Calls prog 122 #[.pointer (some ⟨p,0,none⟩),.int .i64 i,.int .i64 k] w λ e w'=>e=.returned (.int .i64 2)/\Kp Ab w w':=by
 obtain⟨ws,hw,hbits⟩:=hb
 obtain⟨⟨cap,r0⟩,r1,r2,r3⟩:=hw.reads
 have lp:=hw.lt_p
 have hs:=hw.small
 have HN:=sE hn
 clear hn
 refine(callsIn_wide (n:=0)).1 ?_
 refine callsIn_of_wp_marks func122 rfl trivial ?_
 simp only[ntmps122,List.size_toArray,List.length_cons,List.length_nil,Nat.reduceAdd,Nat.reduceSub,Array.replicate_succ,Array.replicate_zero,List.push_toArray,List.append_toArray,List.nil_append,List.cons_append]
 gi_wp2_with fail
 refine⟨trivial,rfl,?_⟩
 refine(callsIn_wide.2 (in_no _ _ n p _ (by rw[World.cell?_alloc_past _ _ _ lp];exact r1) HN.out (by omega) (by omega))).mono ?_
 rintro e w' ⟨rfl,rfl⟩
 gi_wp2_with fail
 exact⟨_,results_tmp rfl _ _ _,rfl,(Kr _ w).alloc _⟩

theorem Set_no(i:Int)(n p q:Nat)(f:Nat->Bool)(w:World)(hb:AO w p q f n)(hn:¬ (0<=i/\i<n)):
  Calls prog 91 #[.pointer (some ⟨p,0,none⟩),.int .i64 i] w λ e w'=>e=.returned (.int .i64 2)/\Kp Ab w w':=by
 have HN:=sE hn
 clear hn
 go_enter func91,ntmps91
 go_wp2_with fail
 refine(SetRun_no _ _ n p q f _ hb (by have:=HN.out;omega)).mono ?_
 rintro e w' ⟨rfl,hk⟩
 go_wp2_with fail
 go_ret
 exact⟨rfl,hk⟩

theorem Set_yes(i n p q:Nat)(f:Nat->Bool)(w:World)(hb:AO w p q f n)(hi:i<n):
  Calls prog 91 #[.pointer (some ⟨p,0,none⟩),.int .i64 (i:Nat)] w λ e w'=>e=.returned (.int .i64 0)/\Kp (λ b=>b=q) w w'/\AO w' p q (Ei f i 1 true) n:=by
 go_enter func91,ntmps91
 go_wp2_with fail
 refine(SetRun_yes i 1 n p q f _ hb (by omega)).mono ?_
 rintro e w' ⟨rfl,hk,hb'⟩
 go_wp2_with fail
 go_ret
 exact⟨rfl,hk,hb'⟩

theorem Clear_no(i:Int)(n p q:Nat)(f:Nat->Bool)(w:World)(hb:AO w p q f n)(hn:¬ (0<=i/\i<n)):
  Calls prog 130 #[.pointer (some ⟨p,0,none⟩),.int .i64 i] w λ e w'=>e=.returned (.int .i64 2)/\Kp Ab w w':=by
 have HN:=sE hn
 clear hn
 go_enter func130,ntmps130
 go_wp2_with fail
 refine(ClearRun_no _ _ n p q f _ hb (by have:=HN.out;omega)).mono ?_
 rintro e w' ⟨rfl,hk⟩
 go_wp2_with fail
 go_ret
 exact⟨rfl,hk⟩

theorem Clear_yes(i n p q:Nat)(f:Nat->Bool)(w:World)(hb:AO w p q f n)(hi:i<n):
  Calls prog 130 #[.pointer (some ⟨p,0,none⟩),.int .i64 (i:Nat)] w λ e w'=>e=.returned (.int .i64 0)/\Kp (λ b=>b=q) w w'/\AO w' p q (Ei f i 1 false) n:=by
 go_enter func130,ntmps130
 go_wp2_with fail
 refine(ClearRun_yes i 1 n p q f _ hb (by omega)).mono ?_
 rintro e w' ⟨rfl,hk,hb'⟩
 go_wp2_with fail
 go_ret
 exact⟨rfl,hk,hb'⟩

end

section
open Go.RowKit
attribute [local go_sem] Oper.semAt_some

theorem Has_out(i:Int)(n p q:Nat)(f:Nat->Bool)(w:World)(hb:AO w p q f n)(hn:¬ (0<=i/\i<n)):
  Calls prog 58 #[.pointer (some ⟨p,0,none⟩),.int .i64 i] w λ e w'=>e=.returned (.bool false)/\w=w':=by
 obtain⟨ws,hw,hbits⟩:=hb
 obtain⟨⟨cap,r0⟩,r1,r2,r3⟩:=hw.reads
 by_cases h0:i<0
 .clear hn
  go_enter func58,ntmps58
  go_wp2
  go_ret
  exact⟨rfl,rfl⟩
 .have h1:(n:Int)<=i:=by omega
  clear hn
  go_enter func58,ntmps58
  go_wp2
  go_ret
  exact⟨rfl,rfl⟩

theorem bit_test(v k:Nat)(hv:v<18446744073709551616):(bits BinOp.and IntKind.u64 ((v:Int)/2 ^ k) 1==1)=v.testBit k:=by
 rw[Wd.and_one' k (by omega) (by omega),Int.toNat_natCast,Wd.Fq]
 rcases Nat.mod_two_eq_zero_or_one (v/2 ^ k) with e|e <;> rw[e] <;> rfl

theorem Has_in(i n p q:Nat)(f:Nat->Bool)(w:World)(hb:AO w p q f n)(hi:i<n):
  Calls prog 58 #[.pointer (some ⟨p,0,none⟩),.int .i64 (i:Nat)] w λ e w'=>e=.returned (.bool (f i))/\Kp Ab w w':=by
 obtain⟨ws,hw,hbits⟩:=hb
 obtain⟨⟨cap,r0⟩,r1,-,-⟩:=hw.reads
 have lp:=hw.lt_p
 have lq:=hw.lt_q
 have hl:=hw.len
 have hs:=hw.small
 have hx:i/64<ws.length:=by omega
 obtain⟨v,hv,r2,r3,hvs⟩:=hw.word (i/64) hx
 have T:Sl ((bits BinOp.and IntKind.u64 ((v:Int)/2 ^ (i%64)) 1==1)=f i):=⟨by rw[bit_test v _ hv,<- hbits i hi,bitOf,hvs.out]⟩
 clear hl hv
 go_enter func58,ntmps58
 go_wp2_with (go_at_call 108;refine (at_any _ _ (by omega) (by omega)).mono ?_;rintro e w' ⟨rfl,rfl⟩)
 go_quiet (fail)
 go_wp2
 go_ret
 exact⟨congrArg (λ b=>Ending.returned (.bool b)) T.out,(((Kr _ w).alloc _).alloc _).drewN _⟩

def optV(o:Option Nat):Value:=.tuple #[.int .i64 ((o.getD 0:Nat):Int),.bool o.isSome]

def turnW(t:Bool):Nat:=if t then 18446744073709551615 else 0

theorem turned_bit(v:Nat)(t:Bool)(k:Nat)(hk:k<64):(v ^^^ turnW t).testBit k=(v.testBit k ^^ t):=by
 rw[Nat.testBit_xor]
 congr 1
 cases t
 .simp [turnW]
 .have:=Wd.tb_not (m:=0) (by decide) k
  simp only[Nat.sub_zero] at this
  simp[turnW,this,hk]

theorem turned_lt{v:Nat}(t:Bool)(hv:v<18446744073709551616):v ^^^ turnW t<18446744073709551616:=by
 have:=Nat.xor_lt_two_pow (x:=v) (y:=turnW t) (n:=64) (by rw[Wd.Fs];exact hv) (by rw[Wd.Fs];cases t <;> decide)
 rwa [Wd.Fs] at this

theorem y_zero{x k:Nat}(h:x/2 ^ k=0)(t:Nat)(ht:k<=t):x.testBit t=false:=by
 have:=Nat.testBit_div_two_pow x (n:=k) (i:=t-k)
 rw[h,Nat.zero_testBit,show t-k+k=t by omega] at this
 exact this.symm

theorem y_low{x k:Nat}(hx:x<18446744073709551616)(h:x/2 ^ k≠0):Wd.low (x/2 ^ k)<64/\k+Wd.low (x/2 ^ k)<64/\x.testBit (k+Wd.low (x/2 ^ k))=true/\∀ t,k<=t->t<k+Wd.low (x/2 ^ k)->x.testBit t=false:=by
 have hb:∀ j,(x/2 ^ k).testBit j=x.testBit (k+j):=λ j=>by rw[Nat.testBit_div_two_pow,Nat.add_comm]
 have hlow:Wd.low (x/2 ^ k)<64:=by
  rcases Nat.lt_or_ge (Wd.low (x/2 ^ k)) 64 with h1|h1
  .exact h1
  .exfalso
   apply h
   apply Nat.eq_of_testBit_eq
   intro j
   rw[Nat.zero_testBit,Wd.Fq]
   by_cases hj:j<64
   .simpa using Wd.low_below (v:=x/2 ^ k) (k:=j) (by omega)
   .have h2:x/2 ^ k<2 ^ j:=Nat.lt_of_le_of_lt (Nat.div_le_self _ _) (Nat.lt_of_lt_of_le (by rw[<- Wd.Fs] at hx;exact hx) (Nat.pow_le_pow_right (by decide) (by omega)))
    rw[Nat.div_eq_of_lt h2];rfl
 have h1:x.testBit (k+Wd.low (x/2 ^ k))=true:=by
  rw[<- hb,Wd.Fq];simpa using Wd.low_is hlow
 refine⟨hlow,?_,h1,λ t h2 h3=>?_⟩
 .rcases Nat.lt_or_ge (k+Wd.low (x/2 ^ k)) 64 with h2|h2
  .exact h2
  .rw [Nat.testBit_lt_two_pow (Nat.lt_of_lt_of_le (by rw[<- Wd.Fs] at hx;exact hx) (Nat.pow_le_pow_right (by decide) h2))] at h1;cases h1
 .have:=Wd.low_below (v:=x/2 ^ k) (k:=t-k) (by omega)
  have e:=hb (t-k)
  rw[show k+(t-k)=t by omega] at e
  rw[<- e,Wd.Fq];simpa using this

theorem next_from(s:Nat)(i:Int)(hi0:(i<0/\s=0)\/(0<=i/\i=s))(t:Bool)(n p q:Nat)(f:Nat->Bool)(w:World)(hb:AO w p q f n)(hi:s<=131072):
  Calls prog 176 #[.pointer (some ⟨p,0,none⟩),.int .i64 i,.int .u64 (turnW t:Nat)] w λ e w'=>
   e=.returned (optV (Da (λ j=>f j ^^ t) n s))/\Kp Ab w w':=by
 obtain⟨ws,hw,hbits⟩:=hb
 have hs:=hw.small
 have HB:=sE hbits
 clear hbits
 have S0:Sl (i<0->s=0):=⟨by omega⟩
 rcases hi0 with ⟨h0,hs0⟩|⟨h0,rfl⟩
 all_goals
  have r1:=hw.reads.2.1
  try clear hs0
  go_enter func176,ntmps176
  go_wp2
  clear r1
  go_loopw [1,8,9] (λ x _ _ wr=>∃ j:Nat,s<=j/\j<=131072+64/\x=.int .i64 j/\Sl (∀ k,s<=k->k<j->k<n->(f k ^^ t)=false)/\Kp Ab w wr) (λ x _ _ _=>131072+64-(intOf x).toNat)
  case atStart=>first|exact ⟨0,by have:=S0.out h0;omega,by omega,rfl,⟨λ k a b=>by omega⟩,Kr _ _⟩|exact ⟨s,by omega,by omega,rfl,⟨λ k a b=>by omega⟩,Kr _ _⟩
  case round=>
   obtain⟨j,hj1,hj2,rfl,hall,hk⟩:=hrel
   have hW:=hw.keep hk (λ h=>h) (λ h=>h)
   obtain⟨⟨cap,r0⟩,r1,-,-⟩:=hW.reads
   have lp:=hW.lt_p
   have lq:=hW.lt_q
   by_cases hjn:j<n
   .have hl:=hW.len
    have hx:j/64<ws.length:=by omega
    obtain⟨v,hv,r2,r3,hvs⟩:=hW.word (j/64) hx
    obtain⟨x,hxd⟩:∃ x,x=v ^^^ turnW t:=⟨_,rfl⟩
    have hX:bits BinOp.xor IntKind.u64 (v:Int) (turnW t:Nat)=(x:Nat):=by rw[hxd];exact u64_xor_nat v (turnW t) hv (by cases t <;> decide)
    have hxl:Sl (x<18446744073709551616):=⟨by rw[hxd];exact turned_lt t hv⟩
    have hbit:Sl (∀ k,k<64->j/64*64+k<n->x.testBit k=(f (j/64*64+k) ^^ t)):=⟨λ k h1 h2=>by
     rw[hxd,turned_bit v t k h1,<- HB.out _ h2,bitOf,show (j/64*64+k)/64=j/64 by omega,show (j/64*64+k)%64=k by omega,hvs.out]⟩
    have hw0:(x:Int)/2 ^ (j%64)=((x/2 ^ (j%64):Nat):Int):=by simp
    clear hl hv hxd
    obtain⟨y,hy⟩:∃ y,x/2 ^ (j%64)=y:=⟨_,rfl⟩
    rw[hy] at hw0
    have hY:=sE hy
    clear hy
    by_cases hy0:y=0
    .have ht:((y:Int)==0)=true:=by rw[hy0];rfl
     have hY0:=sE hy0
     clear hy0
     go_wp2_with (go_at_call 108;refine (at_any _ _ (by omega) (by omega)).mono ?_;rintro e w' ⟨rfl,rfl⟩)
     go_quiet (fail)
     go_wp2
     refine⟨⟨j+(64-j%64),by omega,by omega,by go_num,⟨λ k a b c=>?_⟩,((hk.alloc _).alloc _).drewN _⟩,by simp only[intOf];omega⟩
     by_cases hkj:k<j
     .exact hall.out k a hkj c
     .have:=hbit.out (k%64) (by omega) (by omega)
      rw[show j/64*64+k%64=k by omega] at this
      rw[<- this]
      exact y_zero (by rw[hY.out,hY0.out]) _ (by omega)
    .have ht:((y:Int)==0)=false:=by rw[beq_eq_false_iff_ne];omega
     have hY0:=sE hy0
     clear hy0
     go_wp2_with (go_at_call 108;refine (at_any _ _ (by omega) (by omega)).mono ?_;rintro e w' ⟨rfl,rfl⟩)
     go_quiet (fail)
     have hyl:=y_low (x:=x) (k:=j%64) hxl.out (by rw[hY.out];exact hY0.out)
     rw[hY.out] at hyl
     obtain⟨l1,l2,l3,l4⟩:=hyl
     have L3:=sE l3
     have L4:=sE l4
     clear l3 l4
     have yl:Sl (y<18446744073709551616):=⟨by rw[<- hY.out];exact Nat.lt_of_le_of_lt (Nat.div_le_self _ _) hxl.out⟩
     have before:Sl (∀ k,s<=k->k<j+Wd.low y->k<n->(f k ^^ t)=false):=⟨λ k a b c=>by
      by_cases hkj:k<j
      .exact hall.out k a hkj c
      .have:=hbit.out (k%64) (by omega) (by omega)
       rw[show j/64*64+k%64=k by omega] at this
       rw[<- this]
       exact L4.out _ (by omega) (by omega)⟩
     have found:Sl (j+Wd.low y<n->(f (j+Wd.low y) ^^ t)=true):=⟨λ c=>by
      have:=hbit.out (j%64+Wd.low y) (by omega) (by omega)
      rw[show j/64*64+(j%64+Wd.low y)=j+Wd.low y by omega] at this
      rw[<- this]
      exact L3.out⟩
     go_wp2_with fail
     refine(Low_any _ _ (by omega) (by have:=yl.out;omega)).mono ?_
     rintro e w' ⟨rfl,rfl⟩
     by_cases hin:j+Wd.low y<n
     .have hin':¬ (n:Int)<=(j:Int)+(Wd.low y:Nat):=by omega
      go_wp2
      go_ret2
      refine⟨?_,((hk.alloc _).alloc _).drewN _⟩
      rw[nextB_some (by omega) hin (found.out hin) (λ k a b=>before.out k a b (by omega))]
      simp[optV]
     .have hin':(n:Int)<=(j:Int)+(Wd.low y:Nat):=by omega
      go_wp2
      go_ret2
      refine⟨?_,((hk.alloc _).alloc _).drewN _⟩
      rw[nextB_none (λ k a b=>before.out k a (by omega) b)]
      simp[optV]
   .go_wp2
    go_ret2
    refine⟨?_,hk⟩
    rw[nextB_none (λ k a b=>hall.out k a (by omega) b)]
    simp[optV]

end

section
open Go.RowKit
attribute [local go_sem] Oper.semAt_some

theorem next_big(i:Int)(u:Int)(n p q:Nat)(f g:Nat->Bool)(w:World)(hb:AO w p q f n)(hi:(n:Int)<=i):
  Calls prog 176 #[.pointer (some ⟨p,0,none⟩),.int .i64 i,.int .u64 u] w λ e w'=>
   e=.returned (optV (Da g n i.toNat))/\Kp Ab w w':=by
 obtain⟨ws,hw,hbits⟩:=hb
 have r1:=hw.reads.2.1
 have h0:¬ i<0:=by omega
 rw[nextB_none (g:=g) (n:=n) (i:=i.toNat) (λ t a b=>by omega)]
 go_enter func176,ntmps176
 go_wp2
 refine wp_loop_once ?_
 go_wp2
 go_ret2
 exact⟨by simp[optV],Kr _ _⟩

theorem next_all(i:Int)(t:Bool)(n p q:Nat)(f:Nat->Bool)(w:World)(hb:AO w p q f n):
  Calls prog 176 #[.pointer (some ⟨p,0,none⟩),.int .i64 i,.int .u64 (turnW t:Nat)] w λ e w'=>
   e=.returned (optV (Da (λ j=>f j ^^ t) n i.toNat))/\Kp Ab w w':=by
 have hs:n<=65536:=by obtain⟨ws,hw,_⟩:=hb;exact hw.small
 by_cases h:(n:Int)<=i
 .exact next_big i _ n p q f _ w hb h
 .exact next_from i.toNat i (by omega) t n p q f w hb (by omega)

theorem Next_at(i:Int)(n p q:Nat)(f:Nat->Bool)(w:World)(hb:AO w p q f n):
  Calls prog 138 #[.pointer (some ⟨p,0,none⟩),.int .i64 i] w λ e w'=>e=.returned (optV (Da f n i.toNat))/\Kp Ab w w':=by
 have h:=next_all i false n p q f
 rw[show (λ j=>f j ^^ false)=f from funext λ j=>Bool.xor_false _] at h
 go_enter func138,ntmps138
 go_wp2_with fail
 refine(h _ hb).mono ?_
 rintro e w' ⟨rfl,hk⟩
 unfold optV
 go_wp2_with fail
 go_ret2
 exact⟨rfl,hk⟩

end

section
open Go.RowKit
attribute [local go_sem] Oper.semAt_some

end

section
open Go.RowKit

theorem AO.lt_p'{w:World}{p q n:Nat}{f:Nat->Bool}(h:AO w p q f n):p<w.heap.size:=by
 obtain⟨ws,hw,_⟩:=h;exact hw.lt_p

theorem AO.lt_q'{w:World}{p q n:Nat}{f:Nat->Bool}(h:AO w p q f n):q<w.heap.size:=by
 obtain⟨ws,hw,_⟩:=h;exact hw.lt_q

def flat:List (Nat×Nat)->List Value
 |[]=>[]
 |(a,k)::l=>.int .i64 (a:Nat)::.int .i64 (k:Nat)::flat l

theorem flat_at(l:List (Nat×Nat)):∀ (i:Nat),i<l.length->(flat l)[i*2]?=some (.int .i64 ((l.getD i (0,0)).1:Nat))/\(flat l)[i*2+1]?=some (.int .i64 ((l.getD i (0,0)).2:Nat)):=by
 induction l with
 |nil=>intro i h;simp at h
 |cons x l ih=>
  intro i h
  rcases i with _|i
  .simp [flat]
  .have:=ih i (by simpa using h)
   rw[show (i+1)*2=i*2+1+1 by omega]
   simpa [flat] using this

theorem Kp.owns{S:Nat->Prop}{a b:World}(h:Kp S a b){base:Nat}{e:TypeId}{size:Nat}{v:Value}{n:Nat}{xs:List Value}(ho:a.ownsRow base e size v n xs)(hn:∀ k,v.ownBlock=some k->¬ S k):b.ownsRow base e size v n xs:=by
 refine⟨ho.1,?_⟩
 rcases ho.2 with h1|⟨g,cap,cur,rfl,h2,h3,h4⟩
 .exact .inl h1
 .exact .inr ⟨g,cap,cur,rfl,h2,h.at_ h3 (hn g rfl),h4⟩

theorem Cx:prog.underlying 163=some (.slice 225):=by kernel_rfl

theorem infoRun:(prog.info? 225).map (λ i=>(i.zero,i.size,i.bytes))=some (some (.agg #[.int .i64 0,.int .i64 0]),2,16):=by kernel_rfl

theorem CQ:prog.underlying 135=some (.slice 55):=by kernel_rfl

attribute [local go_sem] CQ

theorem run_eql_slice_nil{P:Program}{w:World}(t e:TypeId)(a:Option Addr)(l c:Nat)(h:P.underlying t=some (.slice e)):(binOp .eql t (.slice a l c) (.slice none 0 0)).run P w=.ok (.bool a.isNone) w:=by
 simp only[binOp]
 simp[run_equal_slice_nil w t e a l c h]

attribute [local go_sem] run_eql_slice_nil

theorem infoWord:(prog.info? 55).map (λ i=>(i.zero,i.size,i.bytes))=some (some (.int .u64 0),1,8):=by kernel_rfl

def Ez(ws:List Nat):List Value:=ws.map λ v=>.int .u64 (v:Nat)

theorem words_oneCell(ws:List Nat):∀ u∈Ez ws,u.oneCell'=true:=by
 intro u hu
 obtain⟨_,_,rfl⟩:=List.mem_map.1 hu
 rfl

theorem wordVs_at(ws:List Nat)(j:Nat)(hj:j<ws.length):(Ez ws)[j]?=some (.int .u64 (ws.getD j 0:Nat)):=by
 simp[Ez,List.getElem?_map,List.getD_eq_getElem?_getD,List.getElem?_eq_getElem hj]

theorem clone_cells{w:World}{b len:Nat}{ws:List Nat}(hc:∀ j,j<len->w.cell? ⟨b,j,none⟩=some (.int .u64 (ws.getD j 0:Nat)))(hl:ws.length=len){j:Nat}{u:Value}{o:Obj}
  (hu:(Ez ws)[j]?=some u):(w.alloc o).cell? ((⟨b,0,none⟩:Addr).add j)=some u:=by
 have hj:j<ws.length:=by
  have:=(gE.1 hu).1
  simpa [Ez] using this
 rw[wordVs_at ws j hj] at hu
 injection hu with hu
 subst hu
 rw[Addr.add_lit,Nat.zero_add]
 have:=hc j (by omega)
 have hb:b<w.heap.size:=by
  rcases Nat.lt_or_ge b w.heap.size with h|h
  .exact h
  .simp [World.cell?,Array.getElem?_eq_none h] at this
 rw[World.cell?_alloc_past _ _ _ hb]
 exact this

theorem Clone_words(b len cap:Nat)(ws:List Nat)(w:World)(hl:ws.length=len)(hc:∀ j,j<len->w.cell? ⟨b,j,none⟩=some (.int .u64 (ws.getD j 0:Nat)))(hle:len<=1024):
  Calls prog 97 #[.slice (some ⟨b,0,none⟩) len cap] w λ e w'=>
   ∃ g cap',e=.returned (.slice (some ⟨g,0,none⟩) len cap')/\w.heap.size<=g/\(∃ cs,w'.heap[g]?=some (.cells cs 55 (0,0))/\∀ j,j<len->cs[j]?=some (.int .u64 (ws.getD j 0:Nat)))/\Kp Ab w w':=by
 have HC:=sE hc
 have HL:=sE hl
 clear hc hl
 go_enter func97,ntmps97
 go_wp2_with (at_builtin;obtain ⟨i0,hi,hz0,hz1,hz2⟩:=info_parts infoWord;go_loud (refine wpList_append_own_at _ rfl (.tmp 5) (.tmp 6) 135 rfl w.heap.size 55 i0 _ 1 8 CQ hi hz0 hz1 hz2 rfl (by omega) (.slice (some ⟨w.heap.size,0,none⟩) 0 0) 0 [] rfl (World.ownsRow_lit w #[] 0 (Nat.le_refl _) (by unfold maxLen;omega) rfl) ⟨b,0,none⟩ len cap (Ez ws) rfl (by rw[Ez,List.length_map,HL.out];omega) (by intro j u hu;exact clone_cells HC.out HL.out hu) (by intro u hu;exact words_oneCell ws u hu) (by unfold maxLen;omega) (by omega) (by simp) ?_);intro v' w1 hown hgrow hnil hat;clear hi hz0 hz1 hz2)
 have hk:Kp Ab w w1:=((Kr Ab w).alloc _).grown hgrow (λ k e hl=>by simp[Value.ownBlock] at e;omega)
 obtain⟨-,h2⟩:=hown
 rcases h2 with ⟨h2,-⟩|⟨g,cap',cur,h2,h3,h4,h5,h6,h7,h8⟩
 .have:=hnil.1 h2
  simp at this
 .rw [Nat.zero_add,Nat.mul_one,List.nil_append] at h8
  refine bodyPost_ret (v:=v') (by simp[results,results97,go_sem]) rfl ⟨g,cap',by rw[h2,Nat.zero_add],h3,⟨cur,h4,λ j hj=>?_⟩,hk⟩
  have h9:(cur.toList.take len)[j]?=(Ez ws)[j]?:=by rw[h8]
  rw[List.getElem?_take_of_lt hj,wordVs_at ws j (by rw[HL.out];exact hj)] at h9
  simpa using h9

theorem WordsAt.make{w:World}{g cap n:Nat}{ws:List Nat}(hg:∃ cs,w.heap[g]?=some (.cells cs 55 (0,0))/\∀ j,j<ws.length->cs[j]?=some (.int .u64 (ws.getD j 0:Nat)))(hl:ws.length=(n+63)/64)(hn:n<=65536)(hf:∀ j,ws.getD j 0<18446744073709551616):
  WordsAt (w.alloc (.cells #[.slice (some ⟨g,0,none⟩) ws.length cap,.int .i64 (n:Nat)] 175)) w.heap.size g ws n:=by
 obtain⟨cs,h1,h2⟩:=hg
 exact⟨⟨cap,wN w _⟩,⟨cs,((Kr Ab w).alloc _).at_ h1 (λ h=>h),h2⟩,hl,hn,hf⟩

theorem Copy_at(n p q:Nat)(f:Nat->Bool)(w:World)(hb:AO w p q f n):
  Calls prog 46 #[.pointer (some ⟨p,0,none⟩)] w λ e w'=>
   ∃ p' q',e=.returned (.pointer (some ⟨p',0,none⟩))/\w.heap.size<=p'/\w.heap.size<=q'/\AO w' p' q' f n/\Kp Ab w w':=by
 obtain⟨ws,hw,hbits⟩:=hb
 have HB:=sE hbits
 clear hbits
 obtain⟨⟨cap,r0⟩,r1,r2,r3⟩:=hw.reads
 have R2:=sE r2
 have hn:=hw.small
 have HL:Sl (ws.length<=1024):=⟨by have:=hw.len;omega⟩
 clear r2 r3
 go_enter func46,ntmps46
 go_wp2_with fail
 go_region_held3 (λ w'=>w'.cell? ⟨p,0,none⟩=some (.slice (some ⟨q,0,none⟩) ws.length cap)/\w'.cell? ⟨p,1,none⟩=some (.int .i64 (n:Nat))) (first|go_keep|exact ⟨hk.cell (by assumption) (λ h=>h),hk.cell (by assumption) (λ h=>h)⟩)
  (first|(go_at_call 97;refine (Clone_words q ws.length cap ws _ rfl (λ j hj=>by exact R2.out j hj) HL.out).mono ?_;rintro e w' ⟨g,cap',rfl,hg,hgc,hk⟩))
 go_wp2
 go_ret
 have k1:Kp Ab w w':=((Kr Ab w).drew).trans hk (λ _ _ h=>h)
 exact⟨_,g,rfl,k1.size,hg,⟨ws,WordsAt.make hgc hw.len hw.small hw.fits,HB.out⟩,k1.alloc _⟩

theorem underlyingRow:prog.underlying 223=some (.array (prog.arrayLen 223) (prog.elem 223)):=by kernel_rfl

theorem lenRow:prog.arrayLen 223=1024:=by kernel_rfl

theorem elemRow:prog.elem 223=55:=by kernel_rfl

theorem run_sliceRow(b:Nat)(h:Int)(h0:0<=h)(h1:h<=1024)(w:World):(Instr.sliceAt 223 (.pointer (some ⟨b,0,none⟩)) none (some (.int .i64 h)) none).run prog w=.ok (.slice (some ⟨b,0,none⟩) h.toNat 1024) w:=by
 obtain⟨i0,hi,hz0,hz1,hz2⟩:=info_parts infoWord
 rw[run_sliceAt_array_h _ _ _ underlyingRow .i64 h h0 (by rw[lenRow];exact h1)]
 simp[lenRow,elemRow,sizeOf,typeInfo,hi,slicedAt,hz1]
 rfl

theorem zeroRow:zeroCells223=Array.replicate 1024 (.int .u64 0):=by kernel_rfl

theorem zeroRow_at(w:World)(j:Nat)(h:j<1024):(w.alloc (.cells zeroCells223 223)).cell? ⟨w.heap.size,j,none⟩=some (.int .u64 0):=by
 have h1:=wN w (.cells zeroCells223 223)
 unfold World.cell?
 rw[h1,zeroRow]
 show(Array.replicate 1024 _)[j]?=_
 rw[Array.getElem?_replicate,if_pos h]

attribute [local go_sem] run_sliceRow

theorem DW(k j:Nat):(List.replicate k (0:Nat)).getD j 0=0:=by
 rw[List.getD_eq_getElem?_getD,List.getElem?_replicate]
 split <;> rfl

theorem New_yes(n:Nat)(w:World)(h:n<=65536):Calls prog 90 #[.int .i64 (n:Nat)] w λ e w'=>
   ∃ p q,e=.returned (.tuple #[.pointer (some ⟨p,0,none⟩),.int .i64 0])/\w.heap.size<=p/\w.heap.size<=q/\AO w' p q (λ _=>false) n/\Kp Ab w w':=by
 have h0:¬ (n:Int)<0:=by omega
 have h1:¬ (65536:Int)<n:=by omega
 go_enter func90,ntmps90
 have h2:0<=((n:Int)+63)/64:=by omega
 have h3:((n:Int)+63)/64<=1024:=by omega
 have h4:(((n:Int)+63)/64).toNat=(n+63)/64:=by omega
 go_wp2_with (go_at_call 97;refine (Clone_words w.heap.size ((n+63)/64) 1024 (List.replicate ((n+63)/64) 0) _ (by simp) (λ j hj=>by rw[DW];exact zeroRow_at w j (by omega)) (by omega)).mono ?_;rintro e w' ⟨g,cap',rfl,hg,hgc,hk⟩)
 have k1:Kp Ab w w':=((Kr Ab w).alloc _).trans hk (λ _ _ h=>h)
 have hg':w.heap.size<=g:=by simp at hg;omega
 have hlen:(List.replicate ((n+63)/64) (0:Nat)).length=(n+63)/64:=by simp
 have hA:=WordsAt.make (w:=w') (g:=g) (cap:=cap') (n:=n) (ws:=List.replicate ((n+63)/64) 0) (by rw[hlen];exact hgc) hlen h (λ j=>by rw[DW];omega)
 rw[hlen] at hA
 go_ret2
 refine⟨_,g,rfl,k1.size,hg',⟨_,hA,λ i hi=>?_⟩,k1.alloc _⟩
 rw[bitOf,DW,Nat.zero_testBit]

end

section
open Go.RowKit

def RunsAt(w:World)(v:Value)(xs:List (Nat×Nat)):Prop:=
 ∃ a cap,v=.slice a xs.length cap/\∀ i,i<xs.length->∃ g,a=some ⟨g,0,none⟩/\g<w.heap.size/\
  w.cell? ⟨g,i*2,none⟩=some (.int .i64 ((xs.getD i (0,0)).1:Nat))/\w.cell? ⟨g,i*2+1,none⟩=some (.int .i64 ((xs.getD i (0,0)).2:Nat))

theorem RunsAt.keep{w w':World}{v:Value}{xs:List (Nat×Nat)}(h:RunsAt w v xs){S:Nat->Prop}(k:Kp S w w')(hs:∀ b,b<w.heap.size->v.ownBlock=some b->¬ S b):RunsAt w' v xs:=by
 obtain⟨a,cap,rfl,h⟩:=h
 refine⟨a,cap,rfl,λ i hi=>?_⟩
 obtain⟨g,rfl,h1,h2,h3⟩:=h i hi
 exact⟨g,rfl,Nat.lt_of_lt_of_le h1 k.size,k.cell h2 (hs g h1 rfl),k.cell h3 (hs g h1 rfl)⟩

theorem RunsAt.BK{w:World}{base:Nat}{e:TypeId}{v:Value}{xs:List (Nat×Nat)}(h:w.ownsRow base e 2 v xs.length (flat xs)):RunsAt w v xs:=by
 rcases h.2 with ⟨rfl,h0⟩|⟨g,cap,cur,rfl,h2,h3,h4,h5,h6,h7⟩
 .exact ⟨none,0,by rw[h0],λ i hi=>by omega⟩
 .refine ⟨_,cap,rfl,λ i hi=>⟨g,rfl,lZ h3,?_⟩⟩
  have key:∀ j,j<xs.length*2->w.cell? ⟨g,j,none⟩=(flat xs)[j]?:=λ j hj=>by
   rw[<- h7,List.getElem?_take_of_lt hj]
   simp[World.cell?,h3]
  have:=flat_at xs i hi
  rw[key _ (by omega),key _ (by omega)]
  exact this

theorem run_eq_run(a b c d:Int)(w:World):(Op.equalIn 10000 225 (.agg #[.int .i64 a,.int .i64 b]) (.agg #[.int .i64 c,.int .i64 d])).run prog w=.ok (a==c&&b==d) w:=by
 have u3:=underlying3
 have a3:=isAgg3
 have z3:=sizeOf3
 have hS:prog.underlying 225=some (.struct (prog.fieldsOf 225)):=by kernel_rfl
 rw[show (10000:Nat)=9999+1 from rfl,run_equalIn_agg w 9999 225 _ _ hS (by kernel_rfl)]
 simp only[Program.fieldsOf,underlying225]
 go_simp
 by_cases h1:a=c <;> by_cases h2:b=d <;> simp[h1,h2]

theorem run_neq_run(a b c d:Int)(w:World):(binOp .neq 225 (.agg #[.int .i64 a,.int .i64 b]) (.agg #[.int .i64 c,.int .i64 d])).run prog w=.ok (.bool (!(a==c&&b==d))) w:=by
 rw[run_neq_struct,run_eq_run];rfl

attribute [local go_sem ↓] run_neq_run -- 225

end

section
open Go.RowKit

def Bq(n:Nat)(i k:Int):Bool:=decide (0<=i/\0<=k/\i<=n/\k<=n-i)

def FQ(f:Nat->Bool)(n:Nat)(i k:Int)(t:Bool):Nat->Bool:=if Bq n i k then Ei f i.toNat k.toNat t else f

def errV(ok:Bool):Int:=if ok then 0 else 2

theorem ClearRun_int(i k:Int)(n p q:Nat)(f:Nat->Bool)(w:World)(hb:AO w p q f n):
  Calls prog 122 #[.pointer (some ⟨p,0,none⟩),.int .i64 i,.int .i64 k] w λ e w'=>
   e=.returned (.int .i64 (errV (Bq n i k)))/\Kp (λ b=>b=q) w w'/\AO w' p q (FQ f n i k false) n:=by
 by_cases h:0<=i/\0<=k/\i<=n/\k<=n-i
 .have ho:Bq n i k=true:=by simpa [Bq] using h
  obtain⟨a,rfl⟩:=Int.eq_ofNat_of_zero_le h.1
  obtain⟨b,rfl⟩:=Int.eq_ofNat_of_zero_le h.2.1
  refine(ClearRun_yes a b n p q f w hb (by omega)).mono ?_
  rintro e w' ⟨rfl,hk,hb'⟩
  rw[FQ,ho]
  exact⟨rfl,hk,hb'⟩
 .have ho:Bq n i k=false:=by simpa [Bq] using h
  refine(ClearRun_no i k n p q f w hb h).mono ?_
  rintro e w' ⟨rfl,hk⟩
  rw[FQ,ho]
  have hk':=hk.Al (λ b=>b=q)
  exact⟨rfl,hk',hb.keep hk (λ h=>h) (λ h=>h)⟩

theorem Set_int(i:Int)(n p q:Nat)(f:Nat->Bool)(w:World)(hb:AO w p q f n):
  Calls prog 91 #[.pointer (some ⟨p,0,none⟩),.int .i64 i] w λ e w'=>
   e=.returned (.int .i64 (errV (Bq n i 1)))/\Kp (λ b=>b=q) w w'/\AO w' p q (FQ f n i 1 true) n:=by
 by_cases h:0<=i/\i<n
 .have ho:Bq n i 1=true:=by simp[Bq];omega
  obtain⟨a,rfl⟩:=Int.eq_ofNat_of_zero_le h.1
  refine(Set_yes a n p q f w hb (by omega)).mono ?_
  rintro e w' ⟨rfl,hk,hb'⟩
  rw[FQ,ho]
  exact⟨rfl,hk,hb'⟩
 .have ho:Bq n i 1=false:=by simp[Bq];omega
  refine(Set_no i n p q f w hb h).mono ?_
  rintro e w' ⟨rfl,hk⟩
  rw[FQ,ho]
  have hk':=hk.Al (λ b=>b=q)
  exact⟨rfl,hk',hb.keep hk (λ h=>h) (λ h=>h)⟩

theorem Clear_int(i:Int)(n p q:Nat)(f:Nat->Bool)(w:World)(hb:AO w p q f n):
  Calls prog 130 #[.pointer (some ⟨p,0,none⟩),.int .i64 i] w λ e w'=>
   e=.returned (.int .i64 (errV (Bq n i 1)))/\Kp (λ b=>b=q) w w'/\AO w' p q (FQ f n i 1 false) n:=by
 by_cases h:0<=i/\i<n
 .have ho:Bq n i 1=true:=by simp[Bq];omega
  obtain⟨a,rfl⟩:=Int.eq_ofNat_of_zero_le h.1
  refine(Clear_yes a n p q f w hb (by omega)).mono ?_
  rintro e w' ⟨rfl,hk,hb'⟩
  rw[FQ,ho]
  exact⟨rfl,hk,hb'⟩
 .have ho:Bq n i 1=false:=by simp[Bq];omega
  refine(Clear_no i n p q f w hb h).mono ?_
  rintro e w' ⟨rfl,hk⟩
  rw[FQ,ho]
  have hk':=hk.Al (λ b=>b=q)
  exact⟨rfl,hk',hb.keep hk (λ h=>h) (λ h=>h)⟩

def hasI(f:Nat->Bool)(n:Nat)(i:Int):Bool:=decide (0<=i/\i<n)&&f i.toNat

theorem Has_int(i:Int)(n p q:Nat)(f:Nat->Bool)(w:World)(hb:AO w p q f n):
  Calls prog 58 #[.pointer (some ⟨p,0,none⟩),.int .i64 i] w λ e w'=>
   e=.returned (.bool (hasI f n i))/\Kp Ab w w':=by
 by_cases h:0<=i/\i<n
 .obtain ⟨a,rfl⟩:=Int.eq_ofNat_of_zero_le h.1
  refine(Has_in a n p q f w hb (by omega)).mono ?_
  rintro e w' ⟨rfl,hk⟩
  rw[hasI,dT h]
  exact⟨rfl,hk⟩
 .refine (Has_out i n p q f w hb h).mono ?_
  rintro e w' ⟨rfl,rfl⟩
  rw[hasI,dF h]
  exact⟨rfl,Kr _ _⟩

end

end Go.Proofs.YtmfajopmppfldaaGreatDoor
