/-
  Lemmas for the laws, together: WhyP, MapV, Grp, WhyQ, WhyG, WhyOf, WhyS, WhyFar, WhyWay, WhyH, WhyOnly, WhyOn.
-/
import Derived.Test.YtfkedlgpgmaemaaGreatDoorQbd
import Derived.Test.YtfkedlgpgmaemaaGreatDoorQaa
import Derived.Test.YtfkedlgpgmaemaaGreatDoorProg
import Derived.Maps.Own
import Derived.Maps.OwnSet
import Derived.Maps.RangeWalk
import Derived.Laws.AppendOwn
import Derived.Test.YtfkedlgpgmaemaaGreatDoorQai
import Derived.Test.YtfkedlgpgmaemaaGreatDoorQam
import Derived.Shelf.SlSortCmp.WholeK
import Derived.Sort.OwnSortedInts
import Derived.Shelf.SlSortCmp.NoneTotal
import Derived.Test.YtfkedlgpgmaemaaGreatDoorQbe
set_option linter.unusedVariables false
set_option maxHeartbeats 16000000
namespace Go.Proofs.YtfkedlgpgmaemaaGreatDoor
open Tryz
section
open Go.RowKit

noncomputable def least (p:Nat->Prop):Nat:=Classical.epsilon (λ k=>p k/\∀ j,p j->k<=j)

theorem least_ex{p:Nat->Prop}:∀ (n k:Nat),k<=n->p k->∃ k,p k/\∀ j,p j->k<=j
 |0,k,hk,h=>⟨k,h,λ j _=>by omega⟩
 |n+1,k,hk,h=>by
  by_cases hx:∃ j,j<k/\p j
  .obtain ⟨j,h1,h2⟩:=hx
   exact least_ex n j (by omega) h2
  .exact ⟨k,h,λ j hj=>Nat.le_of_not_lt λ hl=>hx ⟨j,hl,hj⟩⟩

theorem least_spec{p:Nat->Prop}(h:∃ k,p k):p (least p)/\∀ j,p j->least p<=j:=by
 obtain⟨k,hk⟩:=h
 exact Classical.epsilon_spec (least_ex k k (Nat.le_refl _) hk)

inductive StepsN (es:List (Nat×Nat×Nat)) (rs:List Nat):Nat->Nat->Prop
 |root {g:Nat}:g∈rs->StepsN es rs 0 g
 |step {n:Nat} {e:Nat×Nat×Nat}:StepsN es rs n e.1->e∈es->StepsN es rs (n+1) e.2.2

def AA(es:List (Nat×Nat×Nat))(rs:List Nat)(g:Nat):Prop:=∃ n,StepsN es rs n g

def EB(es:List (Nat×Nat×Nat))(rs:List Nat)(D:Nat->Option Nat):Prop:=∀ g n,D g=some n ↔ StepsN es rs n g/\∀ m,StepsN es rs m g->n<=m

theorem EB.uniq{es:List (Nat×Nat×Nat)}{rs:List Nat}{D D':Nat->Option Nat}(h:EB es rs D)(h':EB es rs D'):D=D':=by
 funext g
 cases e:D g with
 |some n=>exact ((h' g n).2 ((h g n).1 e)).symm
 |none=>
  cases e':D' g with
  |none=>rfl
  |some n=>
   have:=(h g n).2 ((h' g n).1 e')
   rw[e] at this
   cases this

theorem EB.reach{es:List (Nat×Nat×Nat)}{rs:List Nat}{D:Nat->Option Nat}(h:EB es rs D){g:Nat}:(D g).isSome=true ↔ AA es rs g:=by
 constructor
 .intro e
  obtain⟨n,hn⟩:=Option.isSome_iff_exists.1 e
  exact⟨n,((h g n).1 hn).1⟩
 .intro e
  obtain⟨h1,h2⟩:=least_spec e
  rw[(h g _).2 ⟨h1,h2⟩]
  rfl

structure RI(pre Q:List Nat)(D:Nat->Option Nat):Prop where
 all:∀ g n,D g=some n ↔ n=0/\g∈pre
 q:∀ g,g∈Q ↔ g∈pre

theorem RI.init:RI [] [] (λ _=>none):=⟨λ g n=>by simp,λ g=>by simp⟩

def updD(D:Nat->Option Nat)(g n:Nat):Nat->Option Nat:=λ x=>if x=g then some n else D x

theorem RI.old{pre Q:List Nat}{D:Nat->Option Nat}(h:RI pre Q D){r n:Nat}(hr:D r=some n):RI (pre++[r]) Q D:=by
 have hm:=((h.all r n).1 hr).2
 refine⟨λ g k=>?_,λ g=>?_⟩
 .rw [h.all,List.mem_append,List.mem_singleton]
  exact⟨λ e=>⟨e.1,.inl e.2⟩,λ e=>⟨e.1,e.2.elim id λ e=>e▸hm⟩⟩
 .rw [h.q,List.mem_append,List.mem_singleton]
  exact⟨.inl,λ e=>e.elim id λ e=>e▸hm⟩

theorem RI.new{pre Q:List Nat}{D:Nat->Option Nat}(h:RI pre Q D){r:Nat}(hr:D r=none):RI (pre++[r]) (Q++[r]) (updD D r 0):=by
 refine⟨λ g k=>?_,λ g=>?_⟩
 .unfold updD
  rw[List.mem_append,List.mem_singleton]
  by_cases e:g=r
  .subst e
   simp
   omega
  .simp [e,h.all]
 .rw [List.mem_append,List.mem_append,List.mem_singleton,h.q]

structure BI(es:List (Nat×Nat×Nat))(rs:List Nat)(l:List (Nat×Nat×Nat))(lo:Nat)(Q:List Nat)(D:Nat->Option Nat):Prop where
 snd:∀ g n,D g=some n->StepsN es rs n g
 rt:∀ g∈rs,D g=some 0
 fol:∀ e∈es,∀ m,D e.1=some m->e.1∈Q\/e∈l\/∃ k,D e.2.2=some k/\k<=m+1
 inq:∀ g∈Q,∃ m,D g=some m/\lo<=m
 hi:∀ g m,D g=some m->m<=lo+1
 srt:Q.Pairwise (λ a b=>∀ m k,D a=some m->D b=some k->m<=k)

theorem RI.bi{es:List (Nat×Nat×Nat)}{rs Q:List Nat}{D:Nat->Option Nat}(h:RI rs Q D):BI es rs [] 0 Q D:=by
 refine⟨λ g n e=>?_,λ g hg=>(h.all g 0).2 ⟨rfl,hg⟩,λ e _ m hm=>.inl ((h.q _).2 ((h.all _ _).1 hm).2),λ g hg=>⟨0,(h.all g 0).2 ⟨rfl,(h.q g).1 hg⟩,Nat.le_refl _⟩,λ g m hm=>by have:=((h.all g m).1 hm).1;omega,?_⟩
 .obtain ⟨rfl,hm⟩:=(h.all g n).1 e
  exact .root hm
 .refine List.pairwise_iff_forall_sublist.2 λ {a b} _ m k hm hk=>?_
  have:=((h.all a m).1 hm).1
  omega

def outE(es:List (Nat×Nat×Nat))(x:Nat):List (Nat×Nat×Nat):=es.filter λ e=>e.1==x

def inE(es:List (Nat×Nat×Nat))(x:Nat):List (Nat×Nat×Nat):=es.filter λ e=>e.2.2==x

theorem mem_outE{es:List (Nat×Nat×Nat)}{x:Nat}{e:Nat×Nat×Nat}:e∈outE es x ↔ e∈es/\e.1=x:=by
 unfold outE
 rw[List.mem_filter,beq_iff_eq]

theorem BI.pop{es:List (Nat×Nat×Nat)}{rs:List Nat}{lo x:Nat}{Q:List Nat}{D:Nat->Option Nat}(h:BI es rs [] lo (x::Q) D):∃ n,D x=some n/\BI es rs (outE es x) n Q D:=by
 obtain⟨n,hn,hl⟩:=h.inq x (by simp)
 have hs:=List.pairwise_cons.1 h.srt
 refine⟨n,hn,h.snd,h.rt,λ e he m hm=>?_,λ g hg=>?_,λ g m hm=>by have:=h.hi g m hm;omega,hs.2⟩
 .rcases h.fol e he m hm with k|k|k
  .rcases List.mem_cons.1 k with k|k
   .exact .inr (.inl (mem_outE.2 ⟨he,k⟩))
   .exact .inl k
  .cases k
  .exact .inr (.inr k)
 .obtain ⟨m,hm,_⟩:=h.inq g (by simp[hg])
  exact⟨m,hm,hs.1 g hg n m hn hm⟩

theorem BI.old{es:List (Nat×Nat×Nat)}{rs:List Nat}{e0:Nat×Nat×Nat}{l:List (Nat×Nat×Nat)}{n:Nat}{Q:List Nat}{D:Nat->Option Nat}(h:BI es rs (e0::l) n Q D)(hx:D e0.1=some n){k:Nat}(hy:D e0.2.2=some k):BI es rs l n Q D:=by
 refine⟨h.snd,h.rt,λ e he m hm=>?_,h.inq,h.hi,h.srt⟩
 rcases h.fol e he m hm with q|q|q
 .exact .inl q
 .rcases List.mem_cons.1 q with rfl|q
  .rw [hx] at hm
   injection hm with hm
   exact .inr (.inr ⟨k,hy,by have:=h.hi _ _ hy;omega⟩)
  .exact .inr (.inl q)
 .exact .inr (.inr q)

theorem BI.new{es:List (Nat×Nat×Nat)}{rs:List Nat}{e0:Nat×Nat×Nat}{l:List (Nat×Nat×Nat)}{n:Nat}{Q:List Nat}{D:Nat->Option Nat}(h:BI es rs (e0::l) n Q D)(he0:e0∈es)(hx:D e0.1=some n)(hy:D e0.2.2=none):BI es rs l n (Q++[e0.2.2]) (updD D e0.2.2 (n+1)):=by
 have hne:∀ g m,D g=some m->updD D e0.2.2 (n+1) g=some m:=λ g m hm=>by
  unfold updD
  rw[if_neg]
  .exact hm
  .rintro rfl
   rw[hy] at hm
   cases hm
 have hself:updD D e0.2.2 (n+1) e0.2.2=some (n+1):=if_pos rfl
 have hinv:∀ g m,updD D e0.2.2 (n+1) g=some m->(g=e0.2.2/\m=n+1)\/(¬ g=e0.2.2/\D g=some m):=λ g m hm=>by
  unfold updD at hm
  by_cases e:g=e0.2.2
  .rw [if_pos e] at hm
   injection hm with hm
   exact .inl ⟨e,hm.symm⟩
  .rw [if_neg e] at hm
   exact .inr ⟨e,hm⟩
 refine⟨λ g m hm=>?_,λ g hg=>hne g 0 (h.rt g hg),λ e he m hm=>?_,λ g hg=>?_,λ g m hm=>?_,?_⟩
 .rcases hinv g m hm with ⟨rfl,rfl⟩|⟨_,hm⟩
  .exact .step (h.snd _ _ hx) he0
  .exact h.snd g m hm
 .rcases hinv _ m hm with ⟨q,_⟩|⟨_,hm'⟩
  .exact .inl (by rw[q];simp)
  .rcases h.fol e he m hm' with q|q|⟨k,q,hk⟩
   .exact .inl (by simp[q])
   .rcases List.mem_cons.1 q with rfl|q
    .rw [hx] at hm'
     injection hm' with hm'
     exact .inr (.inr ⟨n+1,hself,by omega⟩)
    .exact .inr (.inl q)
   .exact .inr (.inr ⟨k,hne _ _ q,hk⟩)
 .rcases List.mem_append.1 hg with hg|hg
  .obtain ⟨m,hm,hl⟩:=h.inq g hg
   exact⟨m,hne g m hm,hl⟩
  .obtain rfl:=List.mem_singleton.1 hg
   exact⟨n+1,hself,by omega⟩
 .rcases hinv g m hm with ⟨_,rfl⟩|⟨_,hm⟩
  .omega
  .exact h.hi g m hm
 .refine List.pairwise_append.2 ⟨?_,by simp,?_⟩
  .refine h.srt.imp_of_mem λ {a b} ha hb hab m k hm hk=>?_
   obtain⟨m',hm',_⟩:=h.inq a ha
   obtain⟨k',hk',_⟩:=h.inq b hb
   have e1:=hne a m' hm'
   have e2:=hne b k' hk'
   rw[hm] at e1
   rw[hk] at e2
   injection e1 with e1
   injection e2 with e2
   rw[e1,e2]
   exact hab m' k' hm' hk'
  .intro a ha b hb m k hm hk
   obtain rfl:=List.mem_singleton.1 hb
   rw[hself] at hk
   injection hk with hk
   obtain⟨m',hm',_⟩:=h.inq a ha
   have e1:=hne a m' hm'
   rw[hm] at e1
   injection e1 with e1
   have:=h.hi a m' hm'
   omega

theorem BI.dist{es:List (Nat×Nat×Nat)}{rs:List Nat}{lo:Nat}{D:Nat->Option Nat}(h:BI es rs [] lo [] D):EB es rs D:=by
 have key:∀ n g,StepsN es rs n g->∃ k,D g=some k/\k<=n:=by
  intro n g hs
  induction hs with
  |root hg=>exact ⟨0,h.rt _ hg,Nat.le_refl _⟩
  |@step n e _ he ih=>
   obtain⟨k,hk,hl⟩:=ih
   rcases h.fol e he k hk with q|q|⟨j,q,hj⟩
   .cases q
   .cases q
   .exact ⟨j,q,by omega⟩
 intro g n
 constructor
 .intro e
  refine⟨h.snd g n e,λ m hm=>?_⟩
  obtain⟨k,hk,hl⟩:=key m g hm
  rw[e] at hk
  injection hk with hk
  omega
 .rintro ⟨h1,h2⟩
  obtain⟨k,hk,hl⟩:=key n g h1
  have:=h2 k (h.snd g k hk)
  rw[hk,show k=n by omega]

structure WI(es:List (Nat×Nat×Nat))(rs pre:List Nat)(l:List (Nat×Nat×Nat))(Q:List Nat)(f:Nat->Bool):Prop where
 snd:∀ g,f g=true->AA es rs g
 rt:∀ g∈pre,f g=true
 fol:∀ e∈es,f e.1=true->e.1∈Q\/e∈l\/f e.2.2=true
 inq:∀ g∈Q,f g=true

theorem WI.init(es:List (Nat×Nat×Nat))(rs:List Nat):WI es rs [] [] [] (λ _=>false):=
 ⟨λ g h=>(by cases h),λ g h=>(by simp at h),λ e _ h=>(by cases h),λ g h=>(by simp at h)⟩

def updB(f:Nat->Bool)(g:Nat):Nat->Bool:=λ x=>if x=g then true else f x

theorem Cs{f:Nat->Bool}{g x:Nat}:updB f g x=true ↔ x=g\/f x=true:=by
 unfold updB
 by_cases h:x=g <;> simp[h]

theorem WI.pop{es:List (Nat×Nat×Nat)}{rs pre:List Nat}{x:Nat}{Q:List Nat}{f:Nat->Bool}(h:WI es rs pre [] (x::Q) f):f x=true/\WI es rs pre (outE es x) Q f:=by
 refine⟨h.inq x (by simp),h.snd,h.rt,λ e he hf=>?_,λ g hg=>h.inq g (by simp[hg])⟩
 rcases h.fol e he hf with k|k|k
 .rcases List.mem_cons.1 k with k|k
  .exact .inr (.inl (mem_outE.2 ⟨he,k⟩))
  .exact .inl k
 .cases k
 .exact .inr (.inr k)

theorem WI.old{es:List (Nat×Nat×Nat)}{rs pre:List Nat}{e0:Nat×Nat×Nat}{l:List (Nat×Nat×Nat)}{Q:List Nat}{f:Nat->Bool}(h:WI es rs pre (e0::l) Q f)(hy:f e0.2.2=true):WI es rs pre l Q f:=by
 refine⟨h.snd,h.rt,λ e he hf=>?_,h.inq⟩
 rcases h.fol e he hf with q|q|q
 .exact .inl q
 .rcases List.mem_cons.1 q with rfl|q
  .exact .inr (.inr hy)
  .exact .inr (.inl q)
 .exact .inr (.inr q)

theorem WI.new{es:List (Nat×Nat×Nat)}{rs pre:List Nat}{e0:Nat×Nat×Nat}{l:List (Nat×Nat×Nat)}{Q:List Nat}{f:Nat->Bool}(h:WI es rs pre (e0::l) Q f)(he0:e0∈es)(hx:f e0.1=true):WI es rs pre l (Q++[e0.2.2]) (updB f e0.2.2):=by
 refine⟨λ g hg=>?_,λ g hg=>Cs.2 (.inr (h.rt g hg)),λ e he hf=>?_,λ g hg=>?_⟩
 .rcases Cs.1 hg with rfl|hg
  .obtain ⟨n,hn⟩:=h.snd _ hx
   exact⟨n+1,.step hn he0⟩
  .exact h.snd g hg
 .rcases Cs.1 hf with q|hf
  .exact .inl (by rw[q];simp)
  .rcases h.fol e he hf with q|q|q
   .exact .inl (by simp[q])
   .rcases List.mem_cons.1 q with rfl|q
    .exact .inr (.inr (Cs.2 (.inl rfl)))
    .exact .inr (.inl q)
   .exact .inr (.inr (Cs.2 (.inr q)))
 .rcases List.mem_append.1 hg with hg|hg
  .exact Cs.2 (.inr (h.inq g hg))
  .exact Cs.2 (.inl (List.mem_singleton.1 hg))

theorem WI.all{es:List (Nat×Nat×Nat)}{rs:List Nat}{f:Nat->Bool}(h:WI es rs rs [] [] f)(g:Nat):f g=true ↔ AA es rs g:=by
 refine⟨h.snd g,?_⟩
 rintro ⟨n,hs⟩
 induction hs with
 |root hg=>exact h.rt _ hg
 |@step n e _ he ih=>
  rcases h.fol e he ih with q|q|q
  .cases q
  .cases q
  .exact q

theorem reach_marks{P:Sp}{W:Nat->Nat}{f:Nat->Bool}{cs:List Cel}(hc:CellsAt P W cs)(hst:∀ i,i<P.n/2->f i=Ap cs i){rs:List Nat}(ho:∀ g∈rs,De cs g)(g:Nat):
  MReach (Du f (P.n/2) P.ts W cs) (λ g=>g∈rs) g ↔ AA (AP P.ts W cs) rs g:=by
 constructor
 .intro h
  have:De cs g/\AA (AP P.ts W cs) rs g:=by
   induction h with
   |root hg=>exact ⟨ho _ hg,0,.root hg⟩
   |@step x y _ hk ih=>
    obtain⟨ih1,n,hn⟩:=ih
    obtain⟨e,he,rfl,rfl⟩:=kid_edge hc hst ih1 hk
    exact⟨(EF hc hst he).2.1,n+1,.step hn he⟩
  exact this.2
 .rintro ⟨n,hs⟩
  induction hs with
  |root hg=>exact .root hg
  |@step n e _ he ih=>exact .step ih (EF hc hst he).2.2

theorem StepsN.mono{es es':List (Nat×Nat×Nat)}{rs:List Nat}(h:∀ e∈es,e∈es'){n g:Nat}(hs:StepsN es rs n g):StepsN es' rs n g:=by
 induction hs with
 |root hg=>exact .root hg
 |step _ he ih=>exact .step ih (h _ he)

def lessE(es:List (Nat×Nat×Nat))(x:Nat×Nat×Nat):List (Nat×Nat×Nat):=es.filter λ e=>e !=x

theorem mem_lessE{es:List (Nat×Nat×Nat)}{x e:Nat×Nat×Nat}:e∈lessE es x ↔ e∈es/\¬ e=x:=by
 unfold lessE
 rw[List.mem_filter,bne_iff_ne]

end

section
open Go.RowKit Go.Maps

theorem wfN{g:Nat}(h:g<9223372036854775808):(Lit.int .i64 (g:Int)).wf=true:=by
 have h1:IntKind.i64.min=-9223372036854775808:=by decide
 have h2:IntKind.i64.max=9223372036854775807:=by decide
 simp only[Lit.wf,h1,h2,Bool.and_eq_true,decide_eq_true_eq]
 omega

theorem wfN_inv{x:Int}(h:(Lit.int .i64 x).wf=true):x<9223372036854775808:=by
 have h1:IntKind.i64.min=-9223372036854775808:=by decide
 have h2:IntKind.i64.max=9223372036854775807:=by decide
 simp only[Lit.wf,h1,h2,Bool.and_eq_true,decide_eq_true_eq] at h
 omega

def heldE(v:Value):Option (DataW Value×List MemPlace):=some (.held v,[])

section
variable {P:Program} {ki:TypeId}

def Ck(P:Program)(ki:TypeId)(w:World)(b n:Nat)(c:Nat->Option Value):Prop:=
 ∃ D:DataW Value,w.ownsMap P ki heldE b n D/\(∀ g:Nat,g<9223372036854775808->∀ zd,D.atKey (.int .i64 (g:Nat)) zd=((c g).map DataW.held).getD zd)/\∀ x:Int,x<0->∀ zd,D.atKey (.int .i64 x) zd=zd

theorem Ck.made(w:World):Ck P ki (w.alloc (.map #[] 0)) w.heap.size 0 (λ _=>none):=
 ⟨.map [],World.ownsMap_made w _ _ _,λ g _ zd=>rfl,λ x _ zd=>rfl⟩

theorem Ck.lt{w:World}{b n:Nat}{c:Nat->Option Value}(h:Ck P ki w b n c):b<w.heap.size:=by
 obtain⟨D,h1,-⟩:=h
 exact h1.lt

theorem Ck.keep{S:Nat->Prop}{w w':World}{b n:Nat}{c:Nat->Option Value}(h:Ck P ki w b n c)(k:Kp S w w')(hb:¬ S b):Ck P ki w' b n c:=by
 obtain⟨D,⟨es,clock,h1,h2⟩,h3⟩:=h
 exact⟨D,⟨es,clock,k.at_ h1 hb,h2⟩,h3⟩

theorem Ck.look(hk:P.underlying ki=some (.int .i64)){w:World}{b n:Nat}{c:Nat->Option Value}(h:Ck P ki w b n c){g:Nat}(hg:g<9223372036854775808){t e:TypeId}(ht:P.underlying t=some (.map ki e)){z:Value}(hz:(zeroValue e).run P w=.ok z w):
  (Instr.lookup t (.map (some b)) (.int .i64 (g:Nat)) false).run P w=.ok ((c g).getD z) w:=by
 obtain⟨D,h1,h2,-⟩:=h
 obtain⟨v,ps,hrun,hv⟩:=h1.lookup (int_keyed hk) ht hz (zd:=.held z) (zp:=[]) rfl (keyOf_int_mk hk (wfN hg))
 rw[h2 g hg] at hv
 rw[hrun]
 have hv':some (DataW.held v,([]:List MemPlace))=some (((c g).map DataW.held).getD (.held z),ps):=hv
 injection hv' with hv'
 injection hv' with hv' _
 cases e:c g with
 |none=>rw [e] at hv';injection hv' with hv';rw [hv'];rfl
 |some u=>rw [e] at hv';injection hv' with hv';rw [hv'];rfl

theorem Ck.has_eq{D:DataW Value}{c:Nat->Option Value}(h:∀ g:Nat,g<9223372036854775808->∀ zd,D.atKey (.int .i64 (g:Nat)) zd=((c g).map DataW.held).getD zd){g:Nat}(hg:g<9223372036854775808):has D (.int .i64 (g:Nat))=(c g).isSome:=by
 have h2:=h g hg
 cases e:c g with
 |none=>
  rw[e] at h2
  exact has_false_of_atKey h2
 |some u=>
  rw[e] at h2
  exact has_true_of_atKey h2

theorem Ck.lookOk(hk:P.underlying ki=some (.int .i64)){w:World}{b n:Nat}{c:Nat->Option Value}(h:Ck P ki w b n c){g:Nat}(hg:g<9223372036854775808){t e:TypeId}(ht:P.underlying t=some (.map ki e)){z:Value}(hz:(zeroValue e).run P w=.ok z w):
  (Instr.lookup t (.map (some b)) (.int .i64 (g:Nat)) true).run P w=.ok (.tuple #[(c g).getD z,.bool (c g).isSome]) w:=by
 obtain⟨D,h1,h2,-⟩:=h
 obtain⟨v,ps,hrun,hv⟩:=h1.look_ok (int_keyed hk) ht hz (zd:=.held z) (zp:=[]) rfl (keyOf_int_mk hk (wfN hg))
 have hh:=Ck.has_eq h2 hg
 rw[h2 g hg] at hv
 rw[hrun,hh]
 have hv':some (DataW.held v,([]:List MemPlace))=some (((c g).map DataW.held).getD (.held z),ps):=hv
 injection hv' with hv'
 injection hv' with hv' _
 cases e:c g with
 |none=>rw [e] at hv';injection hv' with hv';rw [hv'];rfl
 |some u=>rw [e] at hv';injection hv' with hv';rw [hv'];rfl

theorem Ck.put(hk:P.underlying ki=some (.int .i64)){w:World}{b n:Nat}{c:Nat->Option Value}(h:Ck P ki w b n c)(hn:n<maxLen){g:Nat}(hg:g<9223372036854775808)(v:Value){t e:TypeId}(ht:P.underlying t=some (.map ki e)):
  ∃ w',(Instr.mapUpdate t (.map (some b)) (.int .i64 (g:Nat)) v).run P w=.ok () w'/\Ck P ki w' b (n+1) (λ x=>if x=g then some v else c x)/\Kp (λ k=>k=b) w w'/\w'.heap.size=w.heap.size:=by
 obtain⟨D,h1,h2,h3⟩:=h
 have K:=int_keyed hk
 have hkk:=keyOf_int_mk hk (wfN hg)
 obtain⟨w',hrun,ho,hgr⟩:=h1.store K ht hn hkk (d:=.held v) (ps:=[]) rfl
 have hsz:w'.heap.size=w.heap.size:=by
  obtain⟨es,clock,es',clock',hb,rfl⟩:=hgr
  simp[Go.ChangeMaps.setBlock]
 refine⟨w',hrun,⟨_,ho,λ x hx zd=>?_,λ x hx zd=>?_⟩,(Kr _ w).grown hgr.grown (λ k e _=>by injection e with e;exact e.symm),hsz⟩
 .by_cases ex:x=g
  .subst ex
   rw[Maps.atKey_put_same h1.isMap (K.key hkk)]
   simp
  .rw [Maps.atKey_put_other (λ e=>ex (by injection e with _ e;omega)),h2 x hx]
   simp[ex]
 .rw [Maps.atKey_put_other (λ e=>by injection e with _ e;omega),h3 x hx]

theorem Ck.mono{w:World}{b n m:Nat}{c:Nat->Option Value}(h:Ck P ki w b n c)(hm:n<=m):Ck P ki w b m c:=by
 obtain⟨D,h1,h2⟩:=h
 exact⟨D,h1.mono hm,h2⟩

end

def Bu(w:World)(b n:Nat)(c:Nat->Option Value):Prop:=Ck prog 3 w b n c

theorem Bu.made(w:World):Bu (w.alloc (.map #[] 0)) w.heap.size 0 (λ _=>none):=Ck.made w

theorem Bu.lt{w:World}{b n:Nat}{c:Nat->Option Value}(h:Bu w b n c):b<w.heap.size:=Ck.lt h

theorem Bu.keep{S:Nat->Prop}{w w':World}{b n:Nat}{c:Nat->Option Value}(h:Bu w b n c)(k:Kp S w w')(hb:¬ S b):Bu w' b n c:=Ck.keep h k hb

theorem Bu.look{w:World}{b n:Nat}{c:Nat->Option Value}(h:Bu w b n c){g:Nat}(hg:g<9223372036854775808){t e:TypeId}(ht:prog.underlying t=some (.map 3 e)){z:Value}(hz:(zeroValue e).run prog w=.ok z w):
  (Instr.lookup t (.map (some b)) (.int .i64 (g:Nat)) false).run prog w=.ok ((c g).getD z) w:=Ck.look underlying3 h hg ht hz

theorem Bu.lookOk{w:World}{b n:Nat}{c:Nat->Option Value}(h:Bu w b n c){g:Nat}(hg:g<9223372036854775808){t e:TypeId}(ht:prog.underlying t=some (.map 3 e)){z:Value}(hz:(zeroValue e).run prog w=.ok z w):
  (Instr.lookup t (.map (some b)) (.int .i64 (g:Nat)) true).run prog w=.ok (.tuple #[(c g).getD z,.bool (c g).isSome]) w:=Ck.lookOk underlying3 h hg ht hz

theorem Bu.put{w:World}{b n:Nat}{c:Nat->Option Value}(h:Bu w b n c)(hn:n<maxLen){g:Nat}(hg:g<9223372036854775808)(v:Value){t e:TypeId}(ht:prog.underlying t=some (.map 3 e)):
  ∃ w',(Instr.mapUpdate t (.map (some b)) (.int .i64 (g:Nat)) v).run prog w=.ok () w'/\Bu w' b (n+1) (λ x=>if x=g then some v else c x)/\Kp (λ k=>k=b) w w'/\w'.heap.size=w.heap.size:=Ck.put underlying3 h hn hg v ht

theorem Bu.mono{w:World}{b n m:Nat}{c:Nat->Option Value}(h:Bu w b n c)(hm:n<=m):Bu w b m c:=Ck.mono h hm

def CollI(D:DataW Value)(left:Lit->Bool)(ss:List Nat):Prop:=ss.Nodup/\∀ x:Nat,x∈ss ↔ x<9223372036854775808/\has D (.int .i64 (x:Nat))=true/\left (.int .i64 (x:Nat))=false

theorem CollI.start(D:DataW Value):CollI D (has D) []:=⟨List.nodup_nil,λ x=>by cases has D (.int .i64 (x:Nat)) <;> simp⟩

theorem CollI.step{D:DataW Value}{left:Lit->Bool}{ss:List Nat}(h:CollI D left ss){x:Nat}(hx:x<9223372036854775808){y:DataW Value}(hlk:left (.int .i64 (x:Nat))=true)(hat:∀ zd,D.atKey (.int .i64 (x:Nat)) zd=y):CollI D (λ z=>left z&& !z.sameKey (.int .i64 (x:Nat))) (ss++[x]):=by
 have hhas:has D (.int .i64 (x:Nat))=true:=has_true_of_atKey hat
 have hnew:x ∉ ss:=λ hm=>by have:=((h.2 x).1 hm).2.2;rw [hlk] at this;cases this
 refine⟨List.nodup_append.2 ⟨h.1,by simp,λ a ha b hb=>by simp at hb;subst hb;exact λ e=>hnew (e▸ha)⟩,λ y=>?_⟩
 by_cases hy:y=x
 .subst hy;simp [hhas,Lit.sameKey,hx]
 .have hy':¬ (y:Int)=(x:Int):=by omega
  simp[h.2 y,hy,hy',Lit.sameKey]

theorem ranges_keepI{P:Program}{k:TypeId}{R:Value->Option (DataW Value×List MemPlace)}{b r n:Nat}{D:DataW Value}{left:Lit->Bool}{cnt:Nat}{S:Nat->Prop}{w w':World}(h:w.ranges P k R b r n D left cnt)(hk:Kp S w w')(h1:¬ S b)(h2:¬ S r):w'.ranges P k R b r n D left cnt:=by
 obtain⟨es,clock,since,seen,c0,hb,F,hs,hD,hr,rest⟩:=h
 exact⟨es,clock,since,seen,c0,hk.at_ hb h1,F,hs,hD,hk.at_ hr h2,rest⟩

def QRow(T:TypeId)(w:World)(c0:Nat)(v:Value)(xs:List Nat):Prop:=
 (v=.slice none 0 0/\xs=[])\/
 ∃ g o cap cur,v=.slice (some ⟨g,o,none⟩) xs.length cap/\c0<=g/\w.heap[g]?=some (.cells cur T (0,0))/\xs.length<=cap/\cap<=maxLen/\o+cap<=cur.size/\∀ i x,xs[i]?=some x->cur[o+i]?=some (.int .i64 (x:Nat))

theorem QRow.keep{T:TypeId}{w w':World}{c0:Nat}{v:Value}{xs:List Nat}(h:QRow T w c0 v xs){S:Nat->Prop}(k:Kp S w w')(hs:∀ b,v.ownBlock=some b->¬ S b):QRow T w' c0 v xs:=by
 rcases h with h|⟨g,o,cap,cur,rfl,h1,h2,h3⟩
 .exact .inl h
 .exact .inr ⟨g,o,cap,cur,rfl,h1,k.at_ h2 (hs g rfl),h3⟩

theorem QRow.lt{T:TypeId}{w:World}{c0:Nat}{v:Value}{xs:List Nat}(h:QRow T w c0 v xs){b:Nat}(hb:v.ownBlock=some b):c0<=b/\b<w.heap.size:=by
 rcases h with ⟨rfl,-⟩|⟨g,o,cap,cur,rfl,h1,h2,h3⟩
 .cases hb
 .injection hb with hb
  subst hb
  exact⟨h1,(Array.getElem?_eq_some_iff.1 h2).1⟩

theorem QRow.shape{T:TypeId}{w:World}{c0:Nat}{v:Value}{xs:List Nat}(h:QRow T w c0 v xs):∃ a c,v=.slice a xs.length c:=by
 rcases h with ⟨rfl,rfl⟩|⟨g,o,cap,cur,rfl,-⟩
 .exact ⟨_,_,rfl⟩
 .exact ⟨_,_,rfl⟩

theorem QRow.pop{T:TypeId}{w:World}{c0 x:Nat}{v:Value}{xs:List Nat}(h:QRow T w c0 v (x::xs)):∃ g o cap,v=.slice (some ⟨g,o,none⟩) (xs.length+1) (cap+1)/\w.cell? ⟨g,o,none⟩=some (.int .i64 (x:Nat))/\xs.length<=cap/\cap<9223372036854775807/\
  (cap=0->QRow T w c0 (.slice (some ⟨g,o,none⟩) xs.length cap) xs)/\QRow T w c0 (.slice (some ⟨g,o+1,none⟩) xs.length cap) xs:=by
 rcases h with ⟨-,h⟩|⟨g,o,cap,cur,rfl,h1,h2,h3,h4,h5,h6⟩
 .cases h
 .simp only[List.length_cons] at h3
  obtain⟨c,rfl⟩:∃ c,cap=c+1:=⟨cap-1,by omega⟩
  have hm:maxLen=9223372036854775807:=rfl
  refine⟨g,o,c,rfl,?_,by omega,by omega,λ hc=>.inr ⟨g,o,c,cur,rfl,h1,h2,by omega,by omega,by omega,λ i y hy=>?_⟩,.inr ⟨g,o+1,c,cur,rfl,h1,h2,by omega,by omega,by omega,λ i y hy=>?_⟩⟩
  .have:=h6 0 x rfl
   simp only[World.cell?,h2]
   exact this
  .have:=(gE.1 hy).1
   omega
  .have:=h6 (i+1) y hy
   rw[show o+1+i=o+(i+1) by omega]
   exact this

end

section
open Go.RowKit

structure Grp{α:Type}(T:TypeId)(sz:Nat)(enc:α->List Value)(w:World)(c0:Nat)(mm:Bool->Nat)(vs:Bool->Nat->Value)(ls:Bool->Nat->List α)(n:Nat):Prop where
 mp:∀ s,∃ c,Bu w (mm s) n c/\∀ k,(c k).getD (.slice none 0 0)=vs s k
 row:∀ s k,w.ownsRow c0 T sz (vs s k) (ls s k).length ((ls s k).flatMap enc)
 ap:∀ s k s' k' b,(vs s k).ownBlock=some b->(vs s' k').ownBlock=some b->s=s'/\k=k'
 ne:¬ mm true=mm false
 lt:∀ s,mm s<c0

def updG{β:Type}(f:Bool->Nat->β)(s:Bool)(k:Nat)(x:β):Bool->Nat->β:=λ s' k'=>if s'=s/\k'=k then x else f s' k'

theorem updG_same{β:Type}(f:Bool->Nat->β)(s:Bool)(k:Nat)(x:β):updG f s k x s k=x:=if_pos ⟨rfl,rfl⟩

theorem EJ{β:Type}(f:Bool->Nat->β){s s':Bool}{k k':Nat}(x:β)(h:¬ (s'=s/\k'=k)):updG f s k x s' k'=f s' k':=if_neg h

section
variable {α:Type} {T:TypeId} {sz:Nat} {enc:α->List Value} {w:World} {c0 n:Nat} {mm:Bool->Nat} {vs:Bool->Nat->Value} {ls:Bool->Nat->List α}

theorem Grp.keep(h:Grp T sz enc w c0 mm vs ls n){S:Nat->Prop}{w':World}(k:Kp S w w')(h1:∀ s,¬ S (mm s))(h2:∀ b,c0<=b->b<w.heap.size->¬ S b):Grp T sz enc w' c0 mm vs ls n:=by
 refine⟨λ s=>?_,λ s j=>?_,h.ap,h.ne,h.lt⟩
 .obtain ⟨c,q1,q2⟩:=h.mp s
  exact⟨c,q1.keep k (h1 s),q2⟩
 .exact Ag (h.row s j) k (λ b hb hs=>by have:=Ae (h.row s j) hb;exact h2 b this.1 this.2 hs)

theorem Grp.look(h:Grp T sz enc w c0 mm vs ls n)(s:Bool){k:Nat}(hk:k<9223372036854775808){t e:TypeId}(ht:prog.underlying t=some (.map 3 e))(hz:(zeroValue e).run prog w=.ok (.slice none 0 0) w):
  (Instr.lookup t (.map (some (mm s))) (.int .i64 (k:Nat)) false).run prog w=.ok (vs s k) w:=by
 obtain⟨c,q1,q2⟩:=h.mp s
 rw[q1.look hk ht hz,q2]

theorem Grp.put(h:Grp T sz enc w c0 mm vs ls n)(hn:n<maxLen)(s:Bool){k:Nat}(hk:k<9223372036854775808){t e:TypeId}(ht:prog.underlying t=some (.map 3 e)){w0 w1:World}{v':Value}{x:α}
  (k0:Kp Aa w w0) (ho:w1.ownsRow c0 T sz v' ((ls s k).length+1) ((ls s k).flatMap enc++enc x)) (hg:w0.grownBy w1 (vs s k).ownBlock) (hl:v'.ownBlock=(vs s k).ownBlock\/v'.ownBlock=some w0.heap.size):
  ∃ w2,(Instr.mapUpdate t (.map (some (mm s))) (.int .i64 (k:Nat)) v').run prog w1=.ok () w2/\Grp T sz enc w2 c0 mm (updG vs s k v') (updG ls s k (ls s k++[x])) (n+1)/\Kp (λ b=>b=mm s) w1 w2/\Kp (λ b=>b=mm s\/(vs s k).ownBlock=some b) w w2:=by
 have hsz:=k0.size
 have KA:Kp (λ b=>(vs s k).ownBlock=some b) w w1:=(k0.Ar _).grown hg (λ b e _=>e)
 have hmm:∀ s',¬ (vs s k).ownBlock=some (mm s'):=λ s' e=>by
  have:=Ae (h.row s k) e
  have:=h.lt s'
  omega
 obtain⟨c,q1,q2⟩:=h.mp s
 obtain⟨w2,r1,r2,r3,r4⟩:=(q1.keep KA (hmm s)).put hn hk v' ht
 have hv1:=λ b (hb:v'.ownBlock=some b)=>Ae ho hb
 have hs:=h.lt s
 have K2:Kp (λ b=>b=mm s\/(vs s k).ownBlock=some b) w w2:=(KA.mono λ b _ e=>.inr e).trans r3 (λ b _ e=>.inl e)
 refine⟨w2,r1,⟨λ s'=>?_,λ s' k'=>?_,λ s1 k1 s2 k2 b e1 e2=>?_,h.ne,h.lt⟩,r3,K2⟩
 .by_cases e:s'=s
  .subst e
   refine⟨_,r2,λ k'=>?_⟩
   by_cases e2:k'=k
   .subst e2
    rw[updG_same]
    simp
   .rw [EJ _ _ (λ q=>e2 q.2),if_neg e2,q2]
  .obtain ⟨c',p1,p2⟩:=h.mp s'
   have hne:¬ mm s'=mm s:=λ q=>by
    have:=h.ne
    cases s <;> cases s' <;> first|exact e rfl|exact this q|exact this q.symm
   refine⟨c',(p1.keep K2 (λ q=>q.elim hne (hmm s'))).mono (by omega),λ k'=>?_⟩
   rw[EJ _ _ (λ q=>e q.1),p2]
 .by_cases e:s'=s/\k'=k
  .obtain ⟨rfl,rfl⟩:=e
   rw[updG_same,updG_same,List.length_append,List.flatMap_append]
   have:w1.ownsRow c0 T sz v' ((ls s' k').length+[x].length) ((ls s' k').flatMap enc++[x].flatMap enc):=by simpa using ho
   exact Ag this r3 (λ b hb e=>by have:=(hv1 b hb).1;omega)
  .rw [EJ _ _ e,EJ _ _ e]
   exact Ag (h.row s' k') K2 (λ b hb q=>by
    have:=Ae (h.row s' k') hb
    rcases q with q|q
    .omega
    .exact e (h.ap _ _ _ _ _ hb q))
 .have key:∀ s' k' b,(updG vs s k v' s' k').ownBlock=some b->(s'=s/\k'=k/\v'.ownBlock=some b)\/(¬ (s'=s/\k'=k)/\(vs s' k').ownBlock=some b):=λ s' k' b q=>by
   by_cases e:s'=s/\k'=k
   .obtain ⟨rfl,rfl⟩:=e
    rw[updG_same] at q
    exact .inl ⟨rfl,rfl,q⟩
   .rw [EJ _ _ e] at q
    exact .inr ⟨e,q⟩
  have clash:∀ s' k',¬ (s'=s/\k'=k)->(vs s' k').ownBlock=some b->v'.ownBlock=some b->False:=λ s' k' hne q1 q2=>by
   rcases hl with hl|hl
   .rw [hl] at q2
    exact hne (h.ap _ _ _ _ _ q1 q2)
   .rw [hl] at q2
    injection q2 with q2
    have:=Ae (h.row s' k') q1
    omega
  rcases key s1 k1 b e1 with ⟨rfl,rfl,p1⟩|⟨p0,p1⟩ <;> rcases key s2 k2 b e2 with ⟨rfl,rfl,p2⟩|⟨p3,p2⟩
  .exact ⟨rfl,rfl⟩
  .exact (clash _ _ p3 p2 p1).elim
  .exact (clash _ _ p0 p1 p2).elim
  .exact h.ap _ _ _ _ _ p1 p2
end

end

section
open Go.RowKit

def QAt(w:World)(b c0:Nat)(xs:List Nat):Prop:=b<c0/\∃ v,w.heap[b]?=some (.cells #[v] 237 (0,0))/\QRow 3 w c0 v xs

theorem QAt.keep{w w':World}{b c0:Nat}{xs:List Nat}(h:QAt w b c0 xs){S:Nat->Prop}(k:Kp S w w')(h1:¬ S b)(h2:∀ i,c0<=i->i<w.heap.size->¬ S i):QAt w' b c0 xs:=by
 obtain⟨h0,v,q1,q2⟩:=h
 exact⟨h0,v,k.at_ q1 h1,q2.keep k (λ i hi=>by have:=q2.lt hi;exact h2 i this.1 this.2)⟩

theorem QAt.Ad{w w':World}{b c0:Nat}{xs:List Nat}(h:QAt w b c0 xs)(k:Kp Aa w w'):QAt w' b c0 xs:=h.keep k (λ h=>h) (λ _ _ _ h=>h)

theorem QAt.new(w:World)(c0:Nat)(hc:w.heap.size<c0):QAt (w.alloc (.cells #[.slice none 0 0] 237)) w.heap.size c0 []:=⟨hc,_,wN w _,.inl ⟨rfl,rfl⟩⟩

end

section
open Go.RowKit

def farV(D:Nat->Option Nat):Nat->Option Value:=λ g=>(D g).map λ d=>.int .i64 (d:Nat)

def GraphAt(w:World)(b:Nat)(es:List (Nat×Nat×Nat))(D:Nat->Option Nat):Prop:=
 ∃ mo mi mf n co ci,w.heap[b]?=some (.cells #[.map (some mo),.map (some mi),.map (some mf)] 169 (0,0))/\
  (Bu w mo n co/\∀ k,RowE w ((co k).getD (.slice none 0 0)) (outE es k))/\(Bu w mi n ci/\∀ k,RowE w ((ci k).getD (.slice none 0 0)) (inE es k))/\Bu w mf n (farV D)

theorem GraphAt.Ad{w w':World}{b:Nat}{es:List (Nat×Nat×Nat)}{D:Nat->Option Nat}(h:GraphAt w b es D)(k:Kp Aa w w'):GraphAt w' b es D:=by
 obtain⟨mo,mi,mf,n,co,ci,h1,⟨h2,h3⟩,⟨h4,h5⟩,h6⟩:=h
 exact⟨mo,mi,mf,n,co,ci,k.at_ h1 (λ h=>h),⟨h2.keep k (λ h=>h),λ j=>(h3 j).Ad k⟩,⟨h4.keep k (λ h=>h),λ j=>(h5 j).Ad k⟩,h6.keep k (λ h=>h)⟩

def cntN(D:Nat->Option Nat)(H:Nat):Nat:=(List.range H).countP λ g=>(D g).isNone

theorem cntN_le(D:Nat->Option Nat)(H:Nat):cntN D H<=H:=by
 unfold cntN
 have:=List.countP_le_length (p:=λ g=>(D g).isNone) (l:=List.range H)
 rwa [List.length_range] at this

theorem cntN_upd{D:Nat->Option Nat}{g d:Nat}(hg:D g=none):∀ {H:Nat},g<H->cntN (updD D g d) H+1=cntN D H
 |0,h=>by omega
 |H+1,h=>by
  unfold cntN
  rw[List.range_succ,List.countP_append,List.countP_append]
  have hother:∀ H',H'<=g->(List.range H').countP (λ x=>(updD D g d x).isNone)=(List.range H').countP λ x=>(D x).isNone:=λ H' hH=>by
   refine List.countP_congr λ x hx=>?_
   have:=List.mem_range.1 hx
   unfold updD
   rw[if_neg (by omega)]
  by_cases e:g=H
  .subst e
   rw[hother g (Nat.le_refl _)]
   simp[updD,hg]
  .have ih:=cntN_upd (d:=d) hg (H:=H) (by omega)
   unfold cntN at ih
   have:updD D g d H=D H:=by unfold updD;rw [if_neg (by omega)]
   simp only[List.countP_singleton,this]
   omega

theorem farV_upd(D:Nat->Option Nat)(g d:Nat):farV (updD D g d)=λ x=>if x=g then some (.int .i64 (d:Nat)) else farV D x:=by
 funext x
 unfold farV updD
 by_cases e:x=g <;> simp[e]

end

section
open Go.RowKit

def encE(e:Nat×Nat×Nat):List Value:=[.int .i64 (e.1:Nat),.int .i64 (e.2.1:Nat),.int .i64 (e.2.2:Nat)]

def mmE(mo mi:Nat):Bool->Nat:=λ s=>if s=true then mo else mi

def lsE(es:List (Nat×Nat×Nat)):Bool->Nat->List (Nat×Nat×Nat):=λ s k=>if s=true then outE es k else inE es k

def EdAt(w:World)(mo mi c0:Nat)(es:List (Nat×Nat×Nat)):Prop:=∃ vs n,n<=2*es.length/\Grp 70 3 encE w c0 (mmE mo mi) vs (lsE es) n

theorem EdAt.keep{w w':World}{mo mi c0:Nat}{es:List (Nat×Nat×Nat)}(h:EdAt w mo mi c0 es){S:Nat->Prop}(k:Kp S w w')(h1:¬ S mo)(h2:¬ S mi)(h3:∀ b,c0<=b->b<w.heap.size->¬ S b):EdAt w' mo mi c0 es:=by
 obtain⟨vs,n,hn,hg⟩:=h
 exact⟨vs,n,hn,hg.keep k (λ s=>by cases s <;> assumption) h3⟩

theorem EdAt.out{w:World}{mo mi c0:Nat}{es:List (Nat×Nat×Nat)}(h:EdAt w mo mi c0 es)(s:Bool):∃ n c,n<=2*es.length/\Bu w (mmE mo mi s) n c/\∀ k,w.ownsRow c0 70 3 ((c k).getD (.slice none 0 0)) (lsE es s k).length (BZ (lsE es s k)):=by
 obtain⟨vs,n,hn,hg⟩:=h
 obtain⟨c,q1,q2⟩:=hg.mp s
 exact⟨n,c,hn,q1,λ k=>by rw[q2];exact hg.row s k⟩

theorem EdAt.nil{w:World}{mo mi c0:Nat}(h1:Bu w mo 0 (λ _=>none))(h2:Bu w mi 0 (λ _=>none))(hn:¬ mo=mi)(l1:mo<c0)(l2:mi<c0):EdAt w mo mi c0 []:=by
 refine⟨λ _ _=>.slice none 0 0,0,Nat.le_refl _,⟨λ s=>?_,λ s k=>?_,λ s k s' k' b h=>(by cases h),hn,λ s=>(by cases s <;> assumption)⟩⟩
 .cases s
  .exact ⟨_,h2,λ k=>rfl⟩
  .exact ⟨_,h1,λ k=>rfl⟩
 .cases s <;> exact World.ownsRow_nil _ _ _ _

structure FarI(w6:World)(mf qb H:Nat)(Q:List Nat)(D:Nat->Option Nat)(wr:World):Prop where
 mp:∃ n,n+cntN D H<=H/\Bu wr mf n (farV D)
 q:QAt wr qb (qb+1) Q
 le:Q.length+cntN D H<=H
 lt:∀ g d,D g=some d->g<H/\d+cntN D H<=H
 kp:Kp (λ b=>b=mf) w6 wr
 z:qb<wr.heap.size

theorem FarI.Ad{w6 wr w':World}{mf qb H:Nat}{Q:List Nat}{D:Nat->Option Nat}(h:FarI w6 mf qb H Q D wr)(k:Kp Aa wr w'):FarI w6 mf qb H Q D w':=by
 obtain⟨n,hn,hm⟩:=h.mp
 exact⟨⟨n,hn,hm.keep k (λ h=>h)⟩,h.q.Ad k,h.le,h.lt,h.kp.trans k (λ _ _ h=>h.elim),Nat.lt_of_lt_of_le h.z k.size⟩

theorem FarI.step{w6 wr w1 w2:World}{mf qb H g d n:Nat}{Q:List Nat}{D:Nat->Option Nat}(h:FarI w6 mf qb H Q D wr)(hg:D g=none)(hgH:g<H)(hd:d+cntN D H<=H+1)(h0:0<cntN D H->d+cntN D H<=H+1)(hn:n+cntN D H<=H)
  (m1:Bu w1 mf (n+1) (λ x=>if x=g then some (.int .i64 (d:Nat)) else farV D x)) (k1:Kp (λ k=>k=mf) wr w1) (q2:QAt w2 qb (qb+1) (Q++[g])) (k2:Kp (λ k=>k=qb\/qb+1<=k) w1 w2) (hq:mf<qb) (hw:w6.heap.size<=qb):FarI w6 mf qb H (Q++[g]) (updD D g d) w2:=by
 have hc:=cntN_upd (d:=d) hg hgH
 have hle:=h.le
 refine⟨⟨n+1,by omega,?_⟩,q2,by simp;omega,λ x y hx=>?_,(h.kp.trans k1 (λ _ _ h=>h)).trans k2 (λ i hi h=>by omega),?_⟩
 .rw [farV_upd]
  exact m1.keep k2 (λ h=>by omega)
 .unfold updD at hx
  by_cases e:x=g
  .rw [if_pos e] at hx
   injection hx with hx
   subst hx
   exact⟨by omega,by omega⟩
  .rw [if_neg e] at hx
   have:=h.lt x y hx
   exact⟨this.1,by omega⟩
 .exact Nat.lt_of_lt_of_le (Nat.lt_of_lt_of_le h.z k1.size) k2.size

theorem FarI.start{w6 wr:World}{mf qb H:Nat}(hm:Bu wr mf 0 (λ _=>none))(hq:QAt wr qb (qb+1) [])(k:Kp (λ b=>b=mf) w6 wr)(hz:qb<wr.heap.size):FarI w6 mf qb H [] (λ _=>none) wr:=
 ⟨⟨0,by have:=cntN_le (λ _=>none) H;omega,hm⟩,hq,by have:=cntN_le (λ _=>none) H;simpa using this,λ g d h=>(by cases h),k,hz⟩

theorem FarI.popped{w6 wr w':World}{mf qb H:Nat}{Q Q':List Nat}{D:Nat->Option Nat}(h:FarI w6 mf qb H Q D wr)(hq:QAt w' qb (qb+1) Q')(hl:Q'.length<=Q.length)(k:Kp (λ k=>k=qb) wr w')(hm:mf<qb)(hw:w6.heap.size<=qb):FarI w6 mf qb H Q' D w':=by
 obtain⟨n,hn,hm'⟩:=h.mp
 exact⟨⟨n,hn,hm'.keep k (λ h=>by omega)⟩,hq,by have:=h.le;omega,h.lt,h.kp.trans k (λ i hi h=>by omega),Nat.lt_of_lt_of_le h.z k.size⟩

def BfsAt(es:List (Nat×Nat×Nat))(ns:List Nat)(w6:World)(mf qb H:Nat)(x15 x16:Value)(wr:World)(k:Nat):Prop:=
 ∃ x b Q D,x15=.int .i64 ((x:Nat):Int)/\x16=.bool b/\FarI w6 mf qb H Q D wr/\(b=true->∃ m,D x=some m/\BI es ns (outE es x) m Q D)/\(b=false->EB es ns D)/\k=2*cntN D H+Q.length+(if b=true then 1 else 0)

theorem BfsAt.pop{es:List (Nat×Nat×Nat)}{ns:List Nat}{w6 wr w':World}{mf qb H x lo:Nat}{is:Bool}{Q Q':List Nat}{D:Nat->Option Nat}(h:FarI w6 mf qb H Q D wr)(hb:BI es ns [] lo Q D)(hq:QAt w' qb (qb+1) Q')(k:Kp (λ k=>k=qb) wr w')(hm:mf<qb)(hw:w6.heap.size<=qb)
  (hc:(is=false/\Q=[]/\Q'=[])\/(is=true/\Q=x::Q')):∃ j,j<=2*cntN D H+Q.length/\BfsAt es ns w6 mf qb H (.int .i64 ((x:Nat):Int)) (.bool is) w' j:=by
 rcases hc with ⟨rfl,rfl,rfl⟩|⟨rfl,rfl⟩
 .exact ⟨_,Nat.le_refl _,x,false,[],D,rfl,rfl,h.popped hq (Nat.le_refl _) k hm hw,λ e=>(by cases e),λ _=>hb.dist,by simp⟩
 .obtain ⟨m,h1,h2⟩:=hb.pop
  exact⟨_,Nat.le_refl _,x,true,Q',D,rfl,rfl,h.popped hq (by simp) k hm hw,λ _=>⟨m,h1,h2⟩,λ e=>(by cases e),by simp;omega⟩

end

section
open Go.RowKit Go.Sort Go.Shelf

abbrev DistE:=Fin 65536×Nat

def encD(x:DistE):List Value:=[.int .i64 (x.1.val:Nat),.int .i64 (x.2:Nat)]

def flatD(L:List DistE):List Value:=L.flatMap encD

theorem flatD_at:∀ (xs:List DistE) (i:Nat) (x:DistE),xs[i]?=some x->(flatD xs)[i*2]?=some (.int .i64 (x.1.val:Nat))/\(flatD xs)[i*2+1]?=some (.int .i64 (x.2:Nat))
 |[],i,x,h=>by simp at h
 |y::xs,0,x,h=>by
  simp at h
  subst h
  exact⟨rfl,rfl⟩
 |y::xs,i+1,x,h=>by
  have h2:xs[i]?=some x:=by simpa using h
  obtain⟨h3,h4⟩:=flatD_at xs i x h2
  rw[show (i+1)*2=(i*2+1+1) by omega]
  exact⟨h3,h4⟩

end

section
open Go.RowKit Go.Maps

theorem setL_mem{f:Nat->Bool}{H g:Nat}:g∈Bb f H ↔ g<H/\f g=true:=by
 unfold Bb
 rw[List.mem_filter,List.mem_range]

def RowD(w:World)(v:Value)(L:List DistE):Prop:=
 ∃ a cap,v=.slice a L.length cap/\∀ i x,L[i]?=some x->∃ b,a=some ⟨b,0,none⟩/\b<w.heap.size/\w.cell? ⟨b,i*2,none⟩=some (.int .i64 (x.1.val:Nat))/\w.cell? ⟨b,i*2+1,none⟩=some (.int .i64 (x.2:Nat))

theorem RowD.Be{w:World}{base:Nat}{v:Value}{L:List DistE}(h:w.ownsRow base 99 2 v L.length (flatD L)):RowD w v L:=by
 rcases h.2 with ⟨rfl,h0⟩|⟨g,cap,cur,rfl,g2,g3,g4,g5,g6,g7⟩
 .exact ⟨none,0,by rw[h0],λ i x hx=>by have:=(gE.1 hx).1;omega⟩
 .refine ⟨some ⟨g,0,none⟩,cap,rfl,λ i x hx=>?_⟩
  have hi:=(gE.1 hx).1
  obtain⟨x0,x1⟩:=flatD_at L i x hx
  have key:∀ j,j<L.length*2->w.cell? ⟨g,j,none⟩=(flatD L)[j]?:=λ j hj=>by
   rw[<- g7,List.getElem?_take_of_lt hj]
   simp[World.cell?,g3]
  exact⟨g,rfl,lZ g3,by rw[key _ (by omega)];exact x0,by rw[key _ (by omega)];exact x1⟩

theorem RowD.Ad{w w':World}{v:Value}{L:List DistE}(h:RowD w v L)(k:Kp Aa w w'):RowD w' v L:=by
 obtain⟨a,cap,rfl,h⟩:=h
 refine⟨a,cap,rfl,λ i x hi=>?_⟩
 obtain⟨b,rfl,h1,h2,h3⟩:=h i x hi
 exact⟨b,rfl,Nat.lt_of_lt_of_le h1 k.size,k.cell h2 (λ h=>h),k.cell h3 (λ h=>h)⟩

theorem nodup_lt:∀ (H:Nat) (ss:List Nat),ss.Nodup->(∀ g∈ss,g<H)->ss.length<=H
 |0,[],_,_=>Nat.le_refl _
 |0,a::ss,_,h=>absurd (h a (by simp)) (by omega)
 |H+1,ss,hn,h=>by
  by_cases hm:H∈ss
  .have h1:=nodup_lt H (ss.erase H) (hn.erase H) (λ g hg=>by
    obtain⟨q1,q2⟩:=hn.mem_erase_iff.1 hg
    have:=h g q2
    omega)
   rw[List.length_erase_of_mem hm] at h1
   omega
  .have h1:=nodup_lt H ss hn (λ g hg=>by
    have h2:=h g hg
    have:¬ g=H:=λ e=>hm (e▸hg)
    omega)
   omega

theorem EB.to{es:List (Nat×Nat×Nat)}{ns:List Nat}{D:Nat->Option Nat}(h:EB es ns D){T:Nat->Prop}(hn:∀ g∈ns,T g)(he:∀ x∈es,T x.2.2){g:Nat}(hg:(D g).isSome=true):T g:=by
 obtain⟨n,hs⟩:=h.reach.1 hg
 cases hs with
 |root h=>exact hn _ h
 |step _ h=>exact he _ h

theorem Bu.entry{c:Nat->Option Value}{Dm:DataW Value}(hD:∀ g:Nat,g<9223372036854775808->∀ zd,Dm.atKey (.int .i64 (g:Nat)) zd=((c g).map DataW.held).getD zd)(hneg:∀ x:Int,x<0->∀ zd,Dm.atKey (.int .i64 x) zd=zd){x:Int}{e:Value}{y:DataW Value×List MemPlace}(hwf:(Lit.int .i64 x).wf=true)(hv:heldE e=some y)(hat:∀ zd,Dm.atKey (.int .i64 x) zd=y.1):
  ∃ g:Nat,x=(g:Int)/\g<9223372036854775808/\c g=some e:=by
 have hx:=wfN_inv hwf
 have h0:0<=x:=by
  by_cases h:0<=x
  .exact h
  .have h1:=has_true_of_atKey hat
   have h2:=has_false_of_atKey (hneg x (by omega))
   rw[h1] at h2
   cases h2
 obtain⟨g,rfl⟩:=Int.eq_ofNat_of_zero_le h0
 refine⟨g,rfl,by omega,?_⟩
 have h1:=hat (.nil)
 have h2:=hD g (by omega) .nil
 rw[h1] at h2
 have h3:y.1=.held e:=by
  unfold heldE at hv
  injection hv with hv
  rw[<- hv]
 rw[h3] at h2
 cases hc:c g with
 |none=>rw [hc] at h2;cases h2
 |some u=>rw [hc] at h2;injection h2 with h2;rw [h2]

theorem Bu.has_eqP{D:DataW Value}{c:Nat->Option Value}(h:∀ g:Nat,g<9223372036854775808->∀ zd,D.atKey (.int .i64 (g:Nat)) zd=((c g).map DataW.held).getD zd){g:Nat}(hg:g<9223372036854775808):has D (.int .i64 (g:Nat))=(c g).isSome:=Ck.has_eq h hg

end

section
open Go.RowKit

theorem EB.chain{es:List (Nat×Nat×Nat)}{ns:List Nat}{D:Nat->Option Nat}(h:EB es ns D):∀ (n g:Nat),D g=some n->∀ k,k<=n->∃ x,D x=some k
 |0,g,hg,k,hk=>⟨g,by
  obtain rfl:k=0:=by omega
  exact hg⟩
 |n+1,g,hg,k,hk=>by
  by_cases e:k=n+1
  .exact ⟨g,by rw[hg,e]⟩
  .obtain ⟨h1,h2⟩:=(h g (n+1)).1 hg
   generalize h0:n+1=m at h1
   cases h1 with
   |root h=>omega
   |@step j x hs he=>
    obtain rfl:n=j:=by omega
    exact h.chain n x.1 ((h _ _).2 ⟨hs,λ m hm=>by have:=h2 (m+1) (.step hm he);omega⟩) k (by omega)

def WayEnv(w:World)(bg bw gb:Nat)(es:List (Nat×Nat×Nat))(D:Nat->Option Nat):Prop:=
 w.heap[bg]?=some (.cells #[.pointer (some ⟨gb,0,none⟩)] 163 (0,0))/\w.heap[bw]?=some (.cells #[.func (.func 87) #[] #[.pointer (some ⟨bg,0,none⟩),.pointer (some ⟨bw,0,none⟩)]] 173 (0,0))/\GraphAt w gb es D

theorem WayEnv.Ad{w w':World}{bg bw gb:Nat}{es:List (Nat×Nat×Nat)}{D:Nat->Option Nat}(h:WayEnv w bg bw gb es D)(k:Kp Aa w w'):WayEnv w' bg bw gb es D:=⟨k.at_ h.1 (λ h=>h),k.at_ h.2.1 (λ h=>h),h.2.2.Ad k⟩

end

section
open Go.RowKit

end

section
open Go.RowKit
attribute [local go_sem ↓] run_neq_edge

def cntF(f:Nat->Bool)(H:Nat):Nat:=(List.range H).countP λ g=> !f g

theorem cntF_upd{f:Nat->Bool}{g:Nat}(hg:f g=false):∀ {H:Nat},g<H->cntF (updB f g) H+1=cntF f H
 |0,h=>by omega
 |H+1,h=>by
  unfold cntF
  rw[List.range_succ,List.countP_append,List.countP_append]
  by_cases e:g=H
  .subst e
   have:(List.range g).countP (λ x=> !updB f g x)=(List.range g).countP λ x=> !f x:=by
    refine List.countP_congr λ x hx=>?_
    have:=List.mem_range.1 hx
    unfold updB
    rw[if_neg (by omega)]
   rw[this]
   simp[updB,hg]
  .have ih:=cntF_upd hg (H:=H) (by omega)
   unfold cntF at ih
   have:updB f g H=f H:=by unfold updB;rw [if_neg (by omega)]
   simp only[List.countP_singleton,this]
   omega

theorem setF_upd{f:Nat->Bool}{H g:Nat}(hg:g<H)(hH:H<=65536):EO f H (g:Int) 1 true=updB f g:=by
 funext x
 unfold EO updB
 rw[if_pos (by unfold BD;simp;omega)]
 unfold Cc
 by_cases e:x=g
 .subst e
  simp
 .rw [if_neg e]
  simp
  intro h1 h2
  omega

structure VisI(w:World)(xb bb p q qb H:Nat)(xe:Nat×Nat×Nat)(Q:List Nat)(f:Nat->Bool)(wr:World):Prop where
 xbox:wr.heap[xb]?=some (.cells #[.int .i64 (xe.1:Nat),.int .i64 (xe.2.1:Nat),.int .i64 (xe.2.2:Nat)] 70 (0,0))
 box:wr.heap[bb]?=some (.cells #[.pointer (some ⟨p,0,none⟩)] 120 (0,0))
 bt:AC wr p q f H
 qa:QAt wr qb (qb+1) Q
 le:Q.length+cntF f H<=H
 kn:Kp Aa w wr
 z:qb<wr.heap.size
 ne:xb<qb/\bb<qb/\p<qb/\q<qb/\¬ xb=q/\¬ bb=q/\w.heap.size<=q/\w.heap.size<=qb

theorem VisI.Ad{w wr w':World}{xb bb p q qb H:Nat}{xe:Nat×Nat×Nat}{Q:List Nat}{f:Nat->Bool}(h:VisI w xb bb p q qb H xe Q f wr)(k:Kp Aa wr w'):VisI w xb bb p q qb H xe Q f w':=
 ⟨k.at_ h.xbox (λ h=>h),k.at_ h.box (λ h=>h),h.bt.keep k (λ h=>h) (λ h=>h),h.qa.Ad k,h.le,h.kn.then' k,Nat.lt_of_lt_of_le h.z k.size,h.ne⟩

theorem WI.more{es l l':List (Nat×Nat×Nat)}{rs:List Nat}{pre:List Nat}{Q:List Nat}{f:Nat->Bool}(h:WI es rs pre l Q f)(hl:∀ e∈l,e∈l'):WI es rs pre l' Q f:=
 ⟨h.snd,h.rt,λ e he hf=>(h.fol e he hf).imp_right (λ q=>q.imp_left (hl e)),h.inq⟩

def WbAt(w:World)(xb bb p q qb H:Nat)(es:List (Nat×Nat×Nat))(ns:List Nat)(xe:Nat×Nat×Nat)(x15 x16:Value)(wr:World)(k:Nat):Prop:=
 ∃ x b Q f,x15=.int .i64 ((x:Nat):Int)/\x16=.bool b/\VisI w xb bb p q qb H xe Q f wr/\(b=true->f x=true/\WI (lessE es xe) ns ns (outE es x) Q f)/\(b=false->∀ g,f g=true ↔ AA (lessE es xe) ns g)/\k=2*cntF f H+Q.length+(if b=true then 1 else 0)

theorem WbAt.pop{w wr w':World}{xb bb p q qb H x:Nat}{es:List (Nat×Nat×Nat)}{ns:List Nat}{xe:Nat×Nat×Nat}{is:Bool}{Q Q':List Nat}{f:Nat->Bool}(h:VisI w xb bb p q qb H xe Q f wr)(hb:WI (lessE es xe) ns ns [] Q f)(hq:QAt w' qb (qb+1) Q')(k:Kp (λ k=>k=qb) wr w')
  (hc:(is=false/\Q=[]/\Q'=[])\/(is=true/\Q=x::Q')):∃ j,j<=2*cntF f H+Q.length/\WbAt w xb bb p q qb H es ns xe (.int .i64 ((x:Nat):Int)) (.bool is) w' j:=by
 have hne:=h.ne
 have hv:Q'.length<=Q.length->VisI w xb bb p q qb H xe Q' f w':=λ hl=>⟨k.at_ h.xbox (λ e=>by omega),k.at_ h.box (λ e=>by omega),h.bt.keep k (λ e=>by omega) (λ e=>by omega),hq,by have:=h.le;omega,h.kn.trans k (λ b hb e=>by omega),Nat.lt_of_lt_of_le h.z k.size,hne⟩
 rcases hc with ⟨rfl,rfl,rfl⟩|⟨rfl,rfl⟩
 .exact ⟨_,Nat.le_refl _,x,false,[],f,rfl,rfl,hv (Nat.le_refl _),λ e=>(by cases e),λ _=>hb.all,by simp⟩
 .obtain ⟨h1,h2⟩:=hb.pop
  exact⟨_,Nat.le_refl _,x,true,Q',f,rfl,rfl,hv (by simp),λ _=>⟨h1,h2.more (λ e he=>mem_outE.2 ⟨(mem_lessE.1 (mem_outE.1 he).1).1,(mem_outE.1 he).2⟩)⟩,λ e=>(by cases e),by simp;omega⟩

end

section
open Go.RowKit

end

end Go.Proofs.YtfkedlgpgmaemaaGreatDoor
