/-
  Lemmas for the laws, together: WhyP, MapV.
-/
import Derived.Test.YtfkedlgpgmaemaaGreatDoorQbd
import Derived.Test.YtfkedlgpgmaemaaGreatDoorQaa
import Derived.Test.YtfkedlgpgmaemaaGreatDoorProg
import Derived.Maps.Own
import Derived.Maps.OwnSet
import Derived.Maps.RangeWalk
import Derived.Laws.AppendOwn
set_option linter.unusedVariables false
set_option maxHeartbeats 16000000
namespace Go.Proofs.YtfkedlgpgmaemaaGreatDoor
open Tryz
section
open Go.RowKit

noncomputable def least (p:Nat->Prop):Nat:=Classical.epsilon (λ k=>p k/\∀ j,p j->k<=j)

theorem least_ex{p:Nat->Prop}:∀ (n k:Nat),k<=n->p k->∃ k,p k/\∀ j,p j->k<=j
 |0,k,hk,h=>⟨k,h,λ j _=>by omega⟩
 |n+1,k,hk,h=>by
  by_cases hx:∃ j,j<k/\p j
  .obtain ⟨j,h1,h2⟩:=hx
   exact least_ex n j (by omega) h2
  .exact ⟨k,h,λ j hj=>Nat.le_of_not_lt λ hl=>hx ⟨j,hl,hj⟩⟩

theorem Gv{p:Nat->Prop}(h:∃ k,p k):p (least p)/\∀ j,p j->least p<=j:=by
 obtain⟨k,hk⟩:=h
 exact Classical.epsilon_spec (least_ex k k (Nat.le_refl _) hk)

inductive StepsN (es:List (Nat×Nat×Nat)) (rs:List Nat):Nat->Nat->Prop
 |root {g:Nat}:g∈rs->StepsN es rs 0 g
 |step {n:Nat} {e:Nat×Nat×Nat}:StepsN es rs n e.1->e∈es->StepsN es rs (n+1) e.2.2

def AA(es:List (Nat×Nat×Nat))(rs:List Nat)(g:Nat):Prop:=∃ n,StepsN es rs n g

def Gg(es:List (Nat×Nat×Nat))(rs:List Nat)(D:Nat->Option Nat):Prop:=∀ g n,D g=some n ↔ StepsN es rs n g/\∀ m,StepsN es rs m g->n<=m

theorem Gg.uniq{es:List (Nat×Nat×Nat)}{rs:List Nat}{D D':Nat->Option Nat}(h:Gg es rs D)(h':Gg es rs D'):D=D':=by
 funext g
 cases e:D g with
 |some n=>exact ((h' g n).2 ((h g n).1 e)).symm
 |none=>
  cases e':D' g with
  |none=>rfl
  |some n=>
   have:=(h g n).2 ((h' g n).1 e')
   rw[e] at this
   cases this

theorem Gg.reach{es:List (Nat×Nat×Nat)}{rs:List Nat}{D:Nat->Option Nat}(h:Gg es rs D){g:Nat}:(D g).isSome=true ↔ AA es rs g:=by
 constructor
 .intro e
  obtain⟨n,hn⟩:=Option.isSome_iff_exists.1 e
  exact⟨n,((h g n).1 hn).1⟩
 .intro e
  obtain⟨h1,h2⟩:=Gv e
  rw[(h g _).2 ⟨h1,h2⟩]
  rfl

structure RI(pre Q:List Nat)(D:Nat->Option Nat):Prop where
 all:∀ g n,D g=some n ↔ n=0/\g∈pre
 q:∀ g,g∈Q ↔ g∈pre

theorem RI.init:RI [] [] (λ _=>none):=⟨λ g n=>by simp,λ g=>by simp⟩

def GG(D:Nat->Option Nat)(g n:Nat):Nat->Option Nat:=λ x=>if x=g then some n else D x

theorem RI.old{pre Q:List Nat}{D:Nat->Option Nat}(h:RI pre Q D){r n:Nat}(hr:D r=some n):RI (pre++[r]) Q D:=by
 have hm:=((h.all r n).1 hr).2
 refine⟨λ g k=>?_,λ g=>?_⟩
 .rw [h.all,List.mem_append,List.mem_singleton]
  exact⟨λ e=>⟨e.1,.inl e.2⟩,λ e=>⟨e.1,e.2.elim id λ e=>e▸hm⟩⟩
 .rw [h.q,List.mem_append,List.mem_singleton]
  exact⟨.inl,λ e=>e.elim id λ e=>e▸hm⟩

theorem RI.new{pre Q:List Nat}{D:Nat->Option Nat}(h:RI pre Q D){r:Nat}(hr:D r=none):RI (pre++[r]) (Q++[r]) (GG D r 0):=by
 refine⟨λ g k=>?_,λ g=>?_⟩
 .unfold GG
  rw[List.mem_append,List.mem_singleton]
  by_cases e:g=r
  .subst e
   simp
   omega
  .simp [e,h.all]
 .rw [List.mem_append,List.mem_append,List.mem_singleton,h.q]

structure BI(es:List (Nat×Nat×Nat))(rs:List Nat)(l:List (Nat×Nat×Nat))(lo:Nat)(Q:List Nat)(D:Nat->Option Nat):Prop where
 snd:∀ g n,D g=some n->StepsN es rs n g
 rt:∀ g∈rs,D g=some 0
 fol:∀ e∈es,∀ m,D e.1=some m->e.1∈Q\/e∈l\/∃ k,D e.2.2=some k/\k<=m+1
 inq:∀ g∈Q,∃ m,D g=some m/\lo<=m
 hi:∀ g m,D g=some m->m<=lo+1
 srt:Q.Pairwise (λ a b=>∀ m k,D a=some m->D b=some k->m<=k)

theorem RI.bi{es:List (Nat×Nat×Nat)}{rs Q:List Nat}{D:Nat->Option Nat}(h:RI rs Q D):BI es rs [] 0 Q D:=by
 refine⟨λ g n e=>?_,λ g hg=>(h.all g 0).2 ⟨rfl,hg⟩,λ e _ m hm=>.inl ((h.q _).2 ((h.all _ _).1 hm).2),λ g hg=>⟨0,(h.all g 0).2 ⟨rfl,(h.q g).1 hg⟩,Nat.le_refl _⟩,λ g m hm=>by have:=((h.all g m).1 hm).1;omega,?_⟩
 .obtain ⟨rfl,hm⟩:=(h.all g n).1 e
  exact .root hm
 .refine List.pairwise_iff_forall_sublist.2 λ {a b} _ m k hm hk=>?_
  have:=((h.all a m).1 hm).1
  omega

def Gw(es:List (Nat×Nat×Nat))(x:Nat):List (Nat×Nat×Nat):=es.filter λ e=>e.1==x

def GD(es:List (Nat×Nat×Nat))(x:Nat):List (Nat×Nat×Nat):=es.filter λ e=>e.2.2==x

theorem GM{es:List (Nat×Nat×Nat)}{x:Nat}{e:Nat×Nat×Nat}:e∈Gw es x ↔ e∈es/\e.1=x:=by
 unfold Gw
 rw[List.mem_filter,beq_iff_eq]

theorem mem_inE{es:List (Nat×Nat×Nat)}{x:Nat}{e:Nat×Nat×Nat}:e∈GD es x ↔ e∈es/\e.2.2=x:=by
 unfold GD
 rw[List.mem_filter,beq_iff_eq]

theorem BI.pop{es:List (Nat×Nat×Nat)}{rs:List Nat}{lo x:Nat}{Q:List Nat}{D:Nat->Option Nat}(h:BI es rs [] lo (x::Q) D):∃ n,D x=some n/\BI es rs (Gw es x) n Q D:=by
 obtain⟨n,hn,hl⟩:=h.inq x (by simp)
 have hs:=List.pairwise_cons.1 h.srt
 refine⟨n,hn,h.snd,h.rt,λ e he m hm=>?_,λ g hg=>?_,λ g m hm=>by have:=h.hi g m hm;omega,hs.2⟩
 .rcases h.fol e he m hm with k|k|k
  .rcases List.mem_cons.1 k with k|k
   .exact .inr (.inl (GM.2 ⟨he,k⟩))
   .exact .inl k
  .cases k
  .exact .inr (.inr k)
 .obtain ⟨m,hm,_⟩:=h.inq g (by simp[hg])
  exact⟨m,hm,hs.1 g hg n m hn hm⟩

theorem BI.old{es:List (Nat×Nat×Nat)}{rs:List Nat}{e0:Nat×Nat×Nat}{l:List (Nat×Nat×Nat)}{n:Nat}{Q:List Nat}{D:Nat->Option Nat}(h:BI es rs (e0::l) n Q D)(hx:D e0.1=some n){k:Nat}(hy:D e0.2.2=some k):BI es rs l n Q D:=by
 refine⟨h.snd,h.rt,λ e he m hm=>?_,h.inq,h.hi,h.srt⟩
 rcases h.fol e he m hm with q|q|q
 .exact .inl q
 .rcases List.mem_cons.1 q with rfl|q
  .rw [hx] at hm
   injection hm with hm
   exact .inr (.inr ⟨k,hy,by have:=h.hi _ _ hy;omega⟩)
  .exact .inr (.inl q)
 .exact .inr (.inr q)

theorem BI.new{es:List (Nat×Nat×Nat)}{rs:List Nat}{e0:Nat×Nat×Nat}{l:List (Nat×Nat×Nat)}{n:Nat}{Q:List Nat}{D:Nat->Option Nat}(h:BI es rs (e0::l) n Q D)(he0:e0∈es)(hx:D e0.1=some n)(hy:D e0.2.2=none):BI es rs l n (Q++[e0.2.2]) (GG D e0.2.2 (n+1)):=by
 have hne:∀ g m,D g=some m->GG D e0.2.2 (n+1) g=some m:=λ g m hm=>by
  unfold GG
  rw[if_neg]
  .exact hm
  .rintro rfl
   rw[hy] at hm
   cases hm
 have hself:GG D e0.2.2 (n+1) e0.2.2=some (n+1):=if_pos rfl
 have hinv:∀ g m,GG D e0.2.2 (n+1) g=some m->(g=e0.2.2/\m=n+1)\/(¬ g=e0.2.2/\D g=some m):=λ g m hm=>by
  unfold GG at hm
  by_cases e:g=e0.2.2
  .rw [if_pos e] at hm
   injection hm with hm
   exact .inl ⟨e,hm.symm⟩
  .rw [if_neg e] at hm
   exact .inr ⟨e,hm⟩
 refine⟨λ g m hm=>?_,λ g hg=>hne g 0 (h.rt g hg),λ e he m hm=>?_,λ g hg=>?_,λ g m hm=>?_,?_⟩
 .rcases hinv g m hm with ⟨rfl,rfl⟩|⟨_,hm⟩
  .exact .step (h.snd _ _ hx) he0
  .exact h.snd g m hm
 .rcases hinv _ m hm with ⟨q,_⟩|⟨_,hm'⟩
  .exact .inl (by rw[q];simp)
  .rcases h.fol e he m hm' with q|q|⟨k,q,hk⟩
   .exact .inl (by simp[q])
   .rcases List.mem_cons.1 q with rfl|q
    .rw [hx] at hm'
     injection hm' with hm'
     exact .inr (.inr ⟨n+1,hself,by omega⟩)
    .exact .inr (.inl q)
   .exact .inr (.inr ⟨k,hne _ _ q,hk⟩)
 .rcases List.mem_append.1 hg with hg|hg
  .obtain ⟨m,hm,hl⟩:=h.inq g hg
   exact⟨m,hne g m hm,hl⟩
  .obtain rfl:=List.mem_singleton.1 hg
   exact⟨n+1,hself,by omega⟩
 .rcases hinv g m hm with ⟨_,rfl⟩|⟨_,hm⟩
  .omega
  .exact h.hi g m hm
 .refine List.pairwise_append.2 ⟨?_,by simp,?_⟩
  .refine h.srt.imp_of_mem λ {a b} ha hb hab m k hm hk=>?_
   obtain⟨m',hm',_⟩:=h.inq a ha
   obtain⟨k',hk',_⟩:=h.inq b hb
   have e1:=hne a m' hm'
   have e2:=hne b k' hk'
   rw[hm] at e1
   rw[hk] at e2
   injection e1 with e1
   injection e2 with e2
   rw[e1,e2]
   exact hab m' k' hm' hk'
  .intro a ha b hb m k hm hk
   obtain rfl:=List.mem_singleton.1 hb
   rw[hself] at hk
   injection hk with hk
   obtain⟨m',hm',_⟩:=h.inq a ha
   have e1:=hne a m' hm'
   rw[hm] at e1
   injection e1 with e1
   have:=h.hi a m' hm'
   omega

theorem BI.dist{es:List (Nat×Nat×Nat)}{rs:List Nat}{lo:Nat}{D:Nat->Option Nat}(h:BI es rs [] lo [] D):Gg es rs D:=by
 have key:∀ n g,StepsN es rs n g->∃ k,D g=some k/\k<=n:=by
  intro n g hs
  induction hs with
  |root hg=>exact ⟨0,h.rt _ hg,Nat.le_refl _⟩
  |@step n e _ he ih=>
   obtain⟨k,hk,hl⟩:=ih
   rcases h.fol e he k hk with q|q|⟨j,q,hj⟩
   .cases q
   .cases q
   .exact ⟨j,q,by omega⟩
 intro g n
 constructor
 .intro e
  refine⟨h.snd g n e,λ m hm=>?_⟩
  obtain⟨k,hk,hl⟩:=key m g hm
  rw[e] at hk
  injection hk with hk
  omega
 .rintro ⟨h1,h2⟩
  obtain⟨k,hk,hl⟩:=key n g h1
  have:=h2 k (h.snd g k hk)
  rw[hk,show k=n by omega]

structure WI(es:List (Nat×Nat×Nat))(rs pre:List Nat)(l:List (Nat×Nat×Nat))(Q:List Nat)(f:Nat->Bool):Prop where
 snd:∀ g,f g=true->AA es rs g
 rt:∀ g∈pre,f g=true
 fol:∀ e∈es,f e.1=true->e.1∈Q\/e∈l\/f e.2.2=true
 inq:∀ g∈Q,f g=true

theorem WI.init(es:List (Nat×Nat×Nat))(rs:List Nat):WI es rs [] [] [] (λ _=>false):=
 ⟨λ g h=>(by cases h),λ g h=>(by simp at h),λ e _ h=>(by cases h),λ g h=>(by simp at h)⟩

def updB(f:Nat->Bool)(g:Nat):Nat->Bool:=λ x=>if x=g then true else f x

theorem Gh{f:Nat->Bool}{g x:Nat}:updB f g x=true ↔ x=g\/f x=true:=by
 unfold updB
 by_cases h:x=g <;> simp[h]

theorem WI.rootOld{es:List (Nat×Nat×Nat)}{rs pre:List Nat}{l:List (Nat×Nat×Nat)}{Q:List Nat}{f:Nat->Bool}(h:WI es rs pre l Q f){r:Nat}(hf:f r=true):WI es rs (pre++[r]) l Q f:=
 ⟨h.snd,λ g hg=>(List.mem_append.1 hg).elim (h.rt g) (λ hg=>by rw[List.mem_singleton.1 hg];exact hf),h.fol,h.inq⟩

theorem WI.rootNew{es:List (Nat×Nat×Nat)}{rs pre:List Nat}{l:List (Nat×Nat×Nat)}{Q:List Nat}{f:Nat->Bool}(h:WI es rs pre l Q f){r:Nat}(hr:r∈rs):WI es rs (pre++[r]) l (Q++[r]) (updB f r):=by
 refine⟨λ g hg=>?_,λ g hg=>?_,λ e he hf=>?_,λ g hg=>?_⟩
 .rcases Gh.1 hg with rfl|hg
  .exact ⟨0,.root hr⟩
  .exact h.snd g hg
 .rcases List.mem_append.1 hg with hg|hg
  .exact Gh.2 (.inr (h.rt g hg))
  .exact Gh.2 (.inl (List.mem_singleton.1 hg))
 .rcases Gh.1 hf with q|hf
  .exact .inl (by rw[q];simp)
  .rcases h.fol e he hf with q|q|q
   .exact .inl (by simp[q])
   .exact .inr (.inl q)
   .exact .inr (.inr (Gh.2 (.inr q)))
 .rcases List.mem_append.1 hg with hg|hg
  .exact Gh.2 (.inr (h.inq g hg))
  .exact Gh.2 (.inl (List.mem_singleton.1 hg))

theorem WI.pop{es:List (Nat×Nat×Nat)}{rs pre:List Nat}{x:Nat}{Q:List Nat}{f:Nat->Bool}(h:WI es rs pre [] (x::Q) f):f x=true/\WI es rs pre (Gw es x) Q f:=by
 refine⟨h.inq x (by simp),h.snd,h.rt,λ e he hf=>?_,λ g hg=>h.inq g (by simp[hg])⟩
 rcases h.fol e he hf with k|k|k
 .rcases List.mem_cons.1 k with k|k
  .exact .inr (.inl (GM.2 ⟨he,k⟩))
  .exact .inl k
 .cases k
 .exact .inr (.inr k)

theorem WI.old{es:List (Nat×Nat×Nat)}{rs pre:List Nat}{e0:Nat×Nat×Nat}{l:List (Nat×Nat×Nat)}{Q:List Nat}{f:Nat->Bool}(h:WI es rs pre (e0::l) Q f)(hy:f e0.2.2=true):WI es rs pre l Q f:=by
 refine⟨h.snd,h.rt,λ e he hf=>?_,h.inq⟩
 rcases h.fol e he hf with q|q|q
 .exact .inl q
 .rcases List.mem_cons.1 q with rfl|q
  .exact .inr (.inr hy)
  .exact .inr (.inl q)
 .exact .inr (.inr q)

theorem WI.not{es:List (Nat×Nat×Nat)}{rs pre:List Nat}{e0:Nat×Nat×Nat}{l:List (Nat×Nat×Nat)}{Q:List Nat}{f:Nat->Bool}(h:WI es rs pre (e0::l) Q f)(hn:e0 ∉ es):WI es rs pre l Q f:=by
 refine⟨h.snd,h.rt,λ e he hf=>?_,h.inq⟩
 rcases h.fol e he hf with q|q|q
 .exact .inl q
 .rcases List.mem_cons.1 q with rfl|q
  .exact absurd he hn
  .exact .inr (.inl q)
 .exact .inr (.inr q)

theorem WI.new{es:List (Nat×Nat×Nat)}{rs pre:List Nat}{e0:Nat×Nat×Nat}{l:List (Nat×Nat×Nat)}{Q:List Nat}{f:Nat->Bool}(h:WI es rs pre (e0::l) Q f)(he0:e0∈es)(hx:f e0.1=true):WI es rs pre l (Q++[e0.2.2]) (updB f e0.2.2):=by
 refine⟨λ g hg=>?_,λ g hg=>Gh.2 (.inr (h.rt g hg)),λ e he hf=>?_,λ g hg=>?_⟩
 .rcases Gh.1 hg with rfl|hg
  .obtain ⟨n,hn⟩:=h.snd _ hx
   exact⟨n+1,.step hn he0⟩
  .exact h.snd g hg
 .rcases Gh.1 hf with q|hf
  .exact .inl (by rw[q];simp)
  .rcases h.fol e he hf with q|q|q
   .exact .inl (by simp[q])
   .rcases List.mem_cons.1 q with rfl|q
    .exact .inr (.inr (Gh.2 (.inl rfl)))
    .exact .inr (.inl q)
   .exact .inr (.inr (Gh.2 (.inr q)))
 .rcases List.mem_append.1 hg with hg|hg
  .exact Gh.2 (.inr (h.inq g hg))
  .exact Gh.2 (.inl (List.mem_singleton.1 hg))

theorem WI.all{es:List (Nat×Nat×Nat)}{rs:List Nat}{f:Nat->Bool}(h:WI es rs rs [] [] f)(g:Nat):f g=true ↔ AA es rs g:=by
 refine⟨h.snd g,?_⟩
 rintro ⟨n,hs⟩
 induction hs with
 |root hg=>exact h.rt _ hg
 |@step n e _ he ih=>
  rcases h.fol e he ih with q|q|q
  .cases q
  .cases q
  .exact q

def Gz(es:List (Nat×Nat×Nat))(D:Nat->Option Nat):Nat->Nat->List (Nat×Nat×Nat)
 |0,_=>[]
 |n+1,g=>match (GD es g).find? (λ e=>D e.1==some n) with
  |some e=>Gz es D n e.1++[e]
  |none=>[]

theorem Gg.near{es:List (Nat×Nat×Nat)}{rs:List Nat}{D:Nat->Option Nat}(h:Gg es rs D){e:Nat×Nat×Nat}(he:e∈es){n:Nat}(hn:D e.1=some n):∃ m,D e.2.2=some m/\m<=n+1:=by
 have h1:=((h _ _).1 hn).1
 obtain⟨q1,q2⟩:=Gv (p:=λ m=>StepsN es rs m e.2.2) ⟨n+1,.step h1 he⟩
 exact⟨_,(h _ _).2 ⟨q1,q2⟩,q2 _ (.step h1 he)⟩

theorem reach_marks{P:Sp}{W:Nat->Nat}{f:Nat->Bool}{cs:List Cel}(hc:CellsAt P W cs)(hst:∀ i,i<P.n/2->f i=Ak cs i){rs:List Nat}(ho:∀ g∈rs,CL cs g)(g:Nat):
  MReach (DU f (P.n/2) P.ts W cs) (λ g=>g∈rs) g ↔ AA (AP P.ts W cs) rs g:=by
 constructor
 .intro h
  have:CL cs g/\AA (AP P.ts W cs) rs g:=by
   induction h with
   |root hg=>exact ⟨ho _ hg,0,.root hg⟩
   |@step x y _ hk ih=>
    obtain⟨ih1,n,hn⟩:=ih
    obtain⟨e,he,rfl,rfl⟩:=kid_edge hc hst ih1 hk
    exact⟨(Ep hc hst he).2.1,n+1,.step hn he⟩
  exact this.2
 .rintro ⟨n,hs⟩
  induction hs with
  |root hg=>exact .root hg
  |@step n e _ he ih=>exact .step ih (Ep hc hst he).2.2

theorem StepsN.mono{es es':List (Nat×Nat×Nat)}{rs:List Nat}(h:∀ e∈es,e∈es'){n g:Nat}(hs:StepsN es rs n g):StepsN es' rs n g:=by
 induction hs with
 |root hg=>exact .root hg
 |step _ he ih=>exact .step ih (h _ he)

def Gm(es:List (Nat×Nat×Nat))(x:Nat×Nat×Nat):List (Nat×Nat×Nat):=es.filter λ e=>e !=x

theorem GA{es:List (Nat×Nat×Nat)}{x e:Nat×Nat×Nat}:e∈Gm es x ↔ e∈es/\¬ e=x:=by
 unfold Gm
 rw[List.mem_filter,bne_iff_ne]

open Classical in
noncomputable def onlyL (es:List (Nat×Nat×Nat)) (rs:List Nat) (g:Nat):List (Nat×Nat×Nat):=(GD es g).filter λ x=> !decide (AA (Gm es x) rs g)

end

section
open Go.RowKit Go.Maps

theorem wfN{g:Nat}(h:g<9223372036854775808):(Lit.int .i64 (g:Int)).wf=true:=by
 have h1:IntKind.i64.min=-9223372036854775808:=by decide
 have h2:IntKind.i64.max=9223372036854775807:=by decide
 simp only[Lit.wf,h1,h2,Bool.and_eq_true,decide_eq_true_eq]
 omega

theorem wfN_inv{x:Int}(h:(Lit.int .i64 x).wf=true):x<9223372036854775808:=by
 have h1:IntKind.i64.min=-9223372036854775808:=by decide
 have h2:IntKind.i64.max=9223372036854775807:=by decide
 simp only[Lit.wf,h1,h2,Bool.and_eq_true,decide_eq_true_eq] at h
 omega

def heldE(v:Value):Option (DataW Value×List MemPlace):=some (.held v,[])

section
variable {P:Program} {ki:TypeId}

def Ca(P:Program)(ki:TypeId)(w:World)(b n:Nat)(c:Nat->Option Value):Prop:=
 ∃ D:DataW Value,w.ownsMap P ki heldE b n D/\(∀ g:Nat,g<9223372036854775808->∀ zd,D.atKey (.int .i64 g) zd=((c g).map DataW.held).getD zd)/\∀ x:Int,x<0->∀ zd,D.atKey (.int .i64 x) zd=zd

theorem Ca.made(w:World):Ca P ki (w.alloc (.map #[] 0)) w.heap.size 0 (λ _=>none):=
 ⟨.map [],World.ownsMap_made w _ _ _,λ g _ zd=>rfl,λ x _ zd=>rfl⟩

theorem Ca.lt{w:World}{b n:Nat}{c:Nat->Option Value}(h:Ca P ki w b n c):b<w.heap.size:=by
 obtain⟨D,h1,-⟩:=h
 exact h1.lt

theorem Ca.keep{S:Nat->Prop}{w w':World}{b n:Nat}{c:Nat->Option Value}(h:Ca P ki w b n c)(k:Kp S w w')(hb:¬ S b):Ca P ki w' b n c:=by
 obtain⟨D,⟨es,clock,h1,h2⟩,h3⟩:=h
 exact⟨D,⟨es,clock,k.at_ h1 hb,h2⟩,h3⟩

theorem Ca.look(hk:P.underlying ki=some (.int .i64)){w:World}{b n:Nat}{c:Nat->Option Value}(h:Ca P ki w b n c){g:Nat}(hg:g<9223372036854775808){t e:TypeId}(ht:P.underlying t=some (.map ki e)){z:Value}(hz:(zeroValue e).run P w=.ok z w):
  (Instr.lookup t (.map (some b)) (.int .i64 g) false).run P w=.ok ((c g).getD z) w:=by
 obtain⟨D,h1,h2,-⟩:=h
 obtain⟨v,ps,hrun,hv⟩:=h1.lookup (int_keyed hk) ht hz (zd:=.held z) (zp:=[]) rfl (keyOf_int_mk hk (wfN hg))
 rw[h2 g hg] at hv
 rw[hrun]
 have hv':some (DataW.held v,([]:List MemPlace))=some (((c g).map DataW.held).getD (.held z),ps):=hv
 injection hv' with hv'
 injection hv' with hv' _
 cases e:c g with
 |none=>rw [e] at hv';injection hv' with hv';rw [hv'];rfl
 |some u=>rw [e] at hv';injection hv' with hv';rw [hv'];rfl

theorem Ca.has_eq{D:DataW Value}{c:Nat->Option Value}(h:∀ g:Nat,g<9223372036854775808->∀ zd,D.atKey (.int .i64 g) zd=((c g).map DataW.held).getD zd){g:Nat}(hg:g<9223372036854775808):has D (.int .i64 g)=(c g).isSome:=by
 have h2:=h g hg
 cases e:c g with
 |none=>
  rw[e] at h2
  exact has_false_of_atKey h2
 |some u=>
  rw[e] at h2
  exact has_true_of_atKey h2

theorem Ca.lookOk(hk:P.underlying ki=some (.int .i64)){w:World}{b n:Nat}{c:Nat->Option Value}(h:Ca P ki w b n c){g:Nat}(hg:g<9223372036854775808){t e:TypeId}(ht:P.underlying t=some (.map ki e)){z:Value}(hz:(zeroValue e).run P w=.ok z w):
  (Instr.lookup t (.map (some b)) (.int .i64 g) true).run P w=.ok (.tuple #[(c g).getD z,.bool (c g).isSome]) w:=by
 obtain⟨D,h1,h2,-⟩:=h
 obtain⟨v,ps,hrun,hv⟩:=h1.look_ok (int_keyed hk) ht hz (zd:=.held z) (zp:=[]) rfl (keyOf_int_mk hk (wfN hg))
 have hh:=Ca.has_eq h2 hg
 rw[h2 g hg] at hv
 rw[hrun,hh]
 have hv':some (DataW.held v,([]:List MemPlace))=some (((c g).map DataW.held).getD (.held z),ps):=hv
 injection hv' with hv'
 injection hv' with hv' _
 cases e:c g with
 |none=>rw [e] at hv';injection hv' with hv';rw [hv'];rfl
 |some u=>rw [e] at hv';injection hv' with hv';rw [hv'];rfl

theorem Ca.put(hk:P.underlying ki=some (.int .i64)){w:World}{b n:Nat}{c:Nat->Option Value}(h:Ca P ki w b n c)(hn:n<maxLen){g:Nat}(hg:g<9223372036854775808)(v:Value){t e:TypeId}(ht:P.underlying t=some (.map ki e)):
  ∃ w',(Instr.mapUpdate t (.map (some b)) (.int .i64 g) v).run P w=.ok () w'/\Ca P ki w' b (n+1) (λ x=>if x=g then some v else c x)/\Kp (λ k=>k=b) w w'/\w'.heap.size=w.heap.size:=by
 obtain⟨D,h1,h2,h3⟩:=h
 have K:=int_keyed hk
 have hkk:=keyOf_int_mk hk (wfN hg)
 obtain⟨w',hrun,ho,hgr⟩:=h1.store K ht hn hkk (d:=.held v) (ps:=[]) rfl
 have hsz:w'.heap.size=w.heap.size:=by
  obtain⟨es,clock,es',clock',hb,rfl⟩:=hgr
  simp[Go.ChangeMaps.setBlock]
 refine⟨w',hrun,⟨_,ho,λ x hx zd=>?_,λ x hx zd=>?_⟩,(Kr _ w).grown hgr.grown (λ k e _=>by injection e with e;exact e.symm),hsz⟩
 .by_cases ex:x=g
  .subst ex
   rw[Maps.atKey_put_same h1.isMap (K.key hkk)]
   simp
  .rw [Maps.atKey_put_other (λ e=>ex (by injection e with _ e;omega)),h2 x hx]
   simp[ex]
 .rw [Maps.atKey_put_other (λ e=>by injection e with _ e;omega),h3 x hx]

theorem Ca.mono{w:World}{b n m:Nat}{c:Nat->Option Value}(h:Ca P ki w b n c)(hm:n<=m):Ca P ki w b m c:=by
 obtain⟨D,h1,h2⟩:=h
 exact⟨D,h1.mono hm,h2⟩

end

def BS(w:World)(b n:Nat)(c:Nat->Option Value):Prop:=Ca prog 3 w b n c

theorem BS.made(w:World):BS (w.alloc (.map #[] 0)) w.heap.size 0 (λ _=>none):=Ca.made w

theorem BS.lt{w:World}{b n:Nat}{c:Nat->Option Value}(h:BS w b n c):b<w.heap.size:=Ca.lt h

theorem BS.keep{S:Nat->Prop}{w w':World}{b n:Nat}{c:Nat->Option Value}(h:BS w b n c)(k:Kp S w w')(hb:¬ S b):BS w' b n c:=Ca.keep h k hb

theorem BS.look{w:World}{b n:Nat}{c:Nat->Option Value}(h:BS w b n c){g:Nat}(hg:g<9223372036854775808){t e:TypeId}(ht:prog.underlying t=some (.map 3 e)){z:Value}(hz:(zeroValue e).run prog w=.ok z w):
  (Instr.lookup t (.map (some b)) (.int .i64 g) false).run prog w=.ok ((c g).getD z) w:=Ca.look underlying3 h hg ht hz

theorem BS.lookOk{w:World}{b n:Nat}{c:Nat->Option Value}(h:BS w b n c){g:Nat}(hg:g<9223372036854775808){t e:TypeId}(ht:prog.underlying t=some (.map 3 e)){z:Value}(hz:(zeroValue e).run prog w=.ok z w):
  (Instr.lookup t (.map (some b)) (.int .i64 g) true).run prog w=.ok (.tuple #[(c g).getD z,.bool (c g).isSome]) w:=Ca.lookOk underlying3 h hg ht hz

theorem BS.put{w:World}{b n:Nat}{c:Nat->Option Value}(h:BS w b n c)(hn:n<maxLen){g:Nat}(hg:g<9223372036854775808)(v:Value){t e:TypeId}(ht:prog.underlying t=some (.map 3 e)):
  ∃ w',(Instr.mapUpdate t (.map (some b)) (.int .i64 g) v).run prog w=.ok () w'/\BS w' b (n+1) (λ x=>if x=g then some v else c x)/\Kp (λ k=>k=b) w w'/\w'.heap.size=w.heap.size:=Ca.put underlying3 h hn hg v ht

theorem BS.mono{w:World}{b n m:Nat}{c:Nat->Option Value}(h:BS w b n c)(hm:n<=m):BS w b m c:=Ca.mono h hm

def CollI(D:DataW Value)(left:Lit->Bool)(ss:List Nat):Prop:=ss.Nodup/\∀ x:Nat,x∈ss ↔ x<9223372036854775808/\has D (.int .i64 x)=true/\left (.int .i64 x)=false

theorem CollI.start(D:DataW Value):CollI D (has D) []:=⟨List.nodup_nil,λ x=>by cases has D (.int .i64 (x:Nat)) <;> simp⟩

theorem CollI.step{D:DataW Value}{left:Lit->Bool}{ss:List Nat}(h:CollI D left ss){x:Nat}(hx:x<9223372036854775808){y:DataW Value}(hlk:left (.int .i64 x)=true)(hat:∀ zd,D.atKey (.int .i64 x) zd=y):CollI D (λ z=>left z&& !z.sameKey (.int .i64 x)) (ss++[x]):=by
 have hhas:has D (.int .i64 x)=true:=has_true_of_atKey hat
 have hnew:x ∉ ss:=λ hm=>by have:=((h.2 x).1 hm).2.2;rw [hlk] at this;cases this
 refine⟨List.nodup_append.2 ⟨h.1,by simp,λ a ha b hb=>by simp at hb;subst hb;exact λ e=>hnew (e▸ha)⟩,λ y=>?_⟩
 by_cases hy:y=x
 .subst hy;simp [hhas,Lit.sameKey,hx]
 .have hy':¬ (y:Int)=(x:Int):=by omega
  simp[h.2 y,hy,hy',Lit.sameKey]

theorem ranges_keepI{P:Program}{k:TypeId}{R:Value->Option (DataW Value×List MemPlace)}{b r n:Nat}{D:DataW Value}{left:Lit->Bool}{cnt:Nat}{S:Nat->Prop}{w w':World}(h:w.ranges P k R b r n D left cnt)(hk:Kp S w w')(h1:¬ S b)(h2:¬ S r):w'.ranges P k R b r n D left cnt:=by
 obtain⟨es,clock,since,seen,c0,hb,F,hs,hD,hr,rest⟩:=h
 exact⟨es,clock,since,seen,c0,hk.at_ hb h1,F,hs,hD,hk.at_ hr h2,rest⟩

def QRow(T:TypeId)(w:World)(c0:Nat)(v:Value)(xs:List Nat):Prop:=
 (v=.slice none 0 0/\xs=[])\/
 ∃ g o cap cur,v=.slice (some ⟨g,o,none⟩) xs.length cap/\c0<=g/\w.heap[g]?=some (.cells cur T (0,0))/\xs.length<=cap/\cap<=maxLen/\o+cap<=cur.size/\∀ i x,xs[i]?=some x->cur[o+i]?=some (.int .i64 (x:Nat))

theorem run_append_q{P:Program}(w:World)(c0:Nat)(t ty e:TypeId)(i:TypeInfo)(ht:P.underlying t=some (.slice e))(hi:P.info? e=some i)(hz:i.zero=some (.int .i64 0))
  (hsize:i.size=1) (hby:i.bytes=8) (v:Value) (xs:List Nat) (hq:QRow e w c0 v xs) (a:Addr) (c x:Nat) (hx:w.cell? a=some (.int .i64 x)) (hl:xs.length<=1000000) (hc:c0<=w.heap.size):
  ∃ v' w',(Builtin.append_ #[t,t] ty #[v,.slice (some a) 1 c]).run P w=.ok v' w'/\QRow e w' c0 v' (xs++[x])/\w.grownBy w' v.ownBlock/\(∃ a' c',v'=.slice a' (xs.length+1) c')/\(v'.ownBlock=v.ownBlock\/v'.ownBlock=some w.heap.size):=by
 have hnews:∀ j u,[Value.int .i64 x][j]?=some u->w.cell? (a.add j)=some u:=by
  intro j u hj
  match j,hj with
  |0,hj=>
   simp at hj
   subst hj
   have:a.add 0=a:=by unfold Addr.add;cases a;split <;> simp_all
   rw[this]
   exact hx
 have hm:maxLen=9223372036854775807:=rfl
 rcases hq with ⟨rfl,rfl⟩|⟨g,o,cap,cur,rfl,h1,h2,h3,h4,h5,h6⟩
 .have hr:=run_append_nil (P:=P) w t ty e i (.int .i64 0) ht hi hz a 1 c [x] (by simp[hsize]) hnews (by omega) (by omega) (by rw[hby];simp)
  have hge:=grownCap_ge w 1 0 e
  have hcm:=grownCap_le_maxLen w 1 0 e (by omega)
  refine⟨_,_,hr,.inr ⟨w.heap.size,0,_,_,rfl,hc,heap_alloc_new w.drew _,hge,hcm,?_,λ j y hy=>?_⟩,⟨rfl,rfl,rfl,by simp,λ k hk _=>heap_alloc_old w.drew _ k hk⟩,⟨_,_,rfl⟩,.inr rfl⟩
  .simp [size_zeroCells,Value.cells]
   omega
  .cases j with
   |succ j=>simp at hy
   |zero=>
    simp at hy
    subst hy
    rw[Array.getElem?_append_left (by simp)]
    rfl
 .by_cases hroom:xs.length+1<=cap
  .have hst:=run_storeCells_at P g (o+xs.length) e [x] 0 cur w h2 (by simp;omega) (by simp[Value.oneCell'])
   simp only[Nat.add_zero] at hst
   have hf:=run_firstCells_some (P:=P) w 1 1 a 1 c [x] (by simp) hnews
   have hadd:(⟨g,o,none⟩:Addr).add xs.length=⟨g,o+xs.length,none⟩:=by unfold Addr.add;split <;> simp_all
   have hrun:(Builtin.append_ #[t,t] ty #[.slice (some ⟨g,o,none⟩) xs.length cap,.slice (some a) 1 c]).run P w=
    .ok (.slice (some ⟨g,o,none⟩) (xs.length+1) cap) (w.setRow g (cur.toList.take (o+xs.length)++[Value.int .i64 x]++cur.toList.drop (o+xs.length+1)).toArray):=by
    simp[Builtin.append_,run_underlying ht,sizeOf,typeInfo,hi,Builtin.lenOf,hroom,hf,hadd,hsize]
    simpa [Result.andThen] using congrArg (λ r=>r.andThen λ_ w'=>Result.ok (Value.slice (some {block:=g,off:=o}) (xs.length+1) cap) w') hst
   refine⟨_,_,hrun,.inr ⟨g,o,cap,_,by simp,h1,setRow_heap w g cur _ e _ h2,by simpa using hroom,h4,?_,λ j y hy=>?_⟩,⟨rfl,rfl,rfl,by simp,λ k _ hk=>setRow_other w g k _ (λ e=>hk (by simp[Value.ownBlock,e]))⟩,⟨_,_,rfl⟩,.inl rfl⟩
   .simp only[List.size_toArray,List.length_append,List.length_take,List.length_drop,Array.length_toList,List.length_singleton]
    have:cur.toList.length=cur.size:=Array.length_toList
    omega
   .have hsz:(cur.toList.take (o+xs.length)).length=o+xs.length:=by
     have:cur.toList.length=cur.size:=Array.length_toList
     rw[List.length_take]
     omega
    rw[List.getElem?_toArray]
    by_cases hj:j<xs.length
    .rw [List.getElem?_append_left hj] at hy
     rw[List.append_assoc,List.getElem?_append_left (by omega),List.getElem?_take_of_lt (by omega),Array.getElem?_toList]
     exact h6 j y hy
    .have hjl:=(gE.1 hy).1
     simp at hjl
     obtain rfl:j=xs.length:=by omega
     rw[List.getElem?_append_right (by omega)] at hy
     simp at hy
     subst hy
     rw[List.append_assoc,List.getElem?_append_right (by omega),hsz]
     simp
  .have holds:∀ j u,(xs.map λ x:Nat=>Value.int .i64 x)[j]?=some u->w.cell? ((⟨g,o,none⟩:Addr).add j)=some u:=by
    intro j u hu
    rw[List.getElem?_map] at hu
    cases e:xs[j]? with
    |none=>rw [e] at hu;cases hu
    |some y=>
     rw[e] at hu
     have hu':Value.int .i64 (y:Nat)=u:=by injection hu
     have:=h6 j y e
     have hadd:(⟨g,o,none⟩:Addr).add j=⟨g,o+j,none⟩:=by unfold Addr.add;split <;> simp_all
     rw[hadd,cell_of_row w g (o+j) cur _ (0,0) h2,this,hu']
   have hr:=run_append_grow (P:=P) w t ty e i (.int .i64 0) ht hi hz ⟨g,o,none⟩ xs.length cap (xs.map λ x:Nat=>Value.int .i64 x) (by simp[hsize]) holds a 1 c [x] (by simp[hsize]) hnews (by omega) (by omega) (growslice_fits (by omega) (by rw[hby];omega))
   have hge:=grownCap_ge w (xs.length+1) cap e
   have hcm:=grownCap_le_maxLen w (xs.length+1) cap e (by omega)
   refine⟨_,_,hr,.inr ⟨w.heap.size,0,_,_,by simp,hc,heap_alloc_new w.drew _,by simpa using hge,hcm,?_,λ j y hy=>?_⟩,⟨rfl,rfl,rfl,by simp,λ k hk _=>heap_alloc_old w.drew _ k hk⟩,⟨_,_,rfl⟩,.inr rfl⟩
   .simp [size_zeroCells,Value.cells]
    omega
   .have e1:(xs.map λ x:Nat=>Value.int .i64 x).toArray++[Value.int .i64 x].toArray=((xs++[x]).map λ x:Nat=>Value.int .i64 x).toArray:=by simp
    have hjl:=(gE.1 hy).1
    rw[e1,Nat.zero_add,Array.getElem?_append_left (by simpa using hjl),List.getElem?_toArray,List.getElem?_map,hy]
    rfl

theorem QRow.keep{T:TypeId}{w w':World}{c0:Nat}{v:Value}{xs:List Nat}(h:QRow T w c0 v xs){S:Nat->Prop}(k:Kp S w w')(hs:∀ b,v.ownBlock=some b->¬ S b):QRow T w' c0 v xs:=by
 rcases h with h|⟨g,o,cap,cur,rfl,h1,h2,h3⟩
 .exact .inl h
 .exact .inr ⟨g,o,cap,cur,rfl,h1,k.at_ h2 (hs g rfl),h3⟩

theorem QRow.lt{T:TypeId}{w:World}{c0:Nat}{v:Value}{xs:List Nat}(h:QRow T w c0 v xs){b:Nat}(hb:v.ownBlock=some b):c0<=b/\b<w.heap.size:=by
 rcases h with ⟨rfl,-⟩|⟨g,o,cap,cur,rfl,h1,h2,h3⟩
 .cases hb
 .injection hb with hb
  subst hb
  exact⟨h1,(Array.getElem?_eq_some_iff.1 h2).1⟩

theorem QRow.shape{T:TypeId}{w:World}{c0:Nat}{v:Value}{xs:List Nat}(h:QRow T w c0 v xs):∃ a c,v=.slice a xs.length c:=by
 rcases h with ⟨rfl,rfl⟩|⟨g,o,cap,cur,rfl,-⟩
 .exact ⟨_,_,rfl⟩
 .exact ⟨_,_,rfl⟩

theorem QRow.pop{T:TypeId}{w:World}{c0 x:Nat}{v:Value}{xs:List Nat}(h:QRow T w c0 v (x::xs)):∃ g o cap,v=.slice (some ⟨g,o,none⟩) (xs.length+1) (cap+1)/\w.cell? ⟨g,o,none⟩=some (.int .i64 x)/\xs.length<=cap/\cap<9223372036854775807/\
  (cap=0->QRow T w c0 (.slice (some ⟨g,o,none⟩) xs.length cap) xs)/\QRow T w c0 (.slice (some ⟨g,o+1,none⟩) xs.length cap) xs:=by
 rcases h with ⟨-,h⟩|⟨g,o,cap,cur,rfl,h1,h2,h3,h4,h5,h6⟩
 .cases h
 .simp only[List.length_cons] at h3
  obtain⟨c,rfl⟩:∃ c,cap=c+1:=⟨cap-1,by omega⟩
  have hm:maxLen=9223372036854775807:=rfl
  refine⟨g,o,c,rfl,?_,by omega,by omega,λ hc=>.inr ⟨g,o,c,cur,rfl,h1,h2,by omega,by omega,by omega,λ i y hy=>?_⟩,.inr ⟨g,o+1,c,cur,rfl,h1,h2,by omega,by omega,by omega,λ i y hy=>?_⟩⟩
  .have:=h6 0 x rfl
   simp only[World.cell?,h2]
   exact this
  .have:=(gE.1 hy).1
   omega
  .have:=h6 (i+1) y hy
   rw[show o+1+i=o+(i+1) by omega]
   exact this

section
variable {P:Program}
theorem wpList_append_q(w:World){ops:Array Oper}{rest:List Oper}{o:Oper}{a:Act}{Q:Exit->Act->World->Prop}(hgd:o.guard=none)(s x:Operand)(t:TypeId)
  (ho:o.op=.call {callee:=.builtin .append,args:=#[s,x],argTypes:=#[t,t]}) (c0:Nat) (e:TypeId) (i:TypeInfo) (ht:P.underlying t=some (.slice e)) (hi:P.info? e=some i) (hz:i.zero=some (.int .i64 0))
  (hsize:i.size=1) (hby:i.bytes=8) (v:Value) (xs:List Nat) (hs:a.eval s=v) (hq:QRow e w c0 v xs) (ad:Addr) (c y:Nat) (hx:a.eval x=.slice (some ad) 1 c) (hy:w.cell? ad=some (.int .i64 y)) (hl:xs.length<=1000000) (hc:c0<=w.heap.size)
  (h:∀ a' c' w',QRow e w' c0 (.slice a' (xs.length+1) c') (xs++[y])->w.grownBy w' v.ownBlock->((Value.slice a' (xs.length+1) c').ownBlock=v.ownBlock\/(Value.slice a' (xs.length+1) c').ownBlock=some w.heap.size)->wpList P ops Q rest (a.put o.dst (.slice a' (xs.length+1) c')) w'):
  wpList P ops Q (o::rest) a w:=by
 refine wpList_plain hgd λ K hK=>?_
 obtain⟨v',w',hr,h2,h3,⟨a',c',rfl⟩,h5⟩:=run_append_q (P:=P) w c0 t o.type e i ht hi hz hsize hby v xs hq ad c y hy hl hc
 unfold Oper.wp execOp
 simp only[ho,resolve,invoke,builtin,Sem.run_bind,Sem.run_pure,Result.andThen_ok,List.map_toArray,List.map_cons,List.map_nil,hs,hx,hr]
 exact hK _ _ (h a' c' w' h2 h3 h5)
end

end

end Go.Proofs.YtfkedlgpgmaemaaGreatDoor
