/-
  Lemmas for the laws, together: IsleD, IsleR.
-/
import Derived.Test.YtmfajopmppfldaaGreatDoorQaa
import Derived.Test.YtmfajopmppfldaaGreatDoorQaz
import Derived.Test.YtmfajopmppfldaaGreatDoorQap
import Derived.Test.YtmfajopmppfldaaGreatDoorQax
import Derived.Test.YtmfajopmppfldaaGreatDoorQak
import Derived.Sort.Grow
set_option linter.unusedVariables false
set_option maxHeartbeats 16000000
namespace Go.Proofs.YtmfajopmppfldaaGreatDoor
open Tryz
section

def cov(L:List (Nat×Nat))(g:Nat):Bool:=L.any λ r=>decide (r.1<=g/\g<r.1+r.2)

def BN:Nat->List (Nat×Nat)->Nat->Prop
 |e,[],H=>e<=H
 |e,r::L,H=>e<=r.1/\0<r.2/\BN (r.1+r.2) L H

def ApartR:Nat->List (Nat×Nat)->Nat->Prop
 |e,[],H=>e<=H
 |e,r::L,H=>e<r.1/\0<r.2/\ApartR (r.1+r.2) L H

def Apart0:List (Nat×Nat)->Nat->Prop
 |[],H=>True
 |r::L,H=>0<r.2/\ApartR (r.1+r.2) L H

theorem ApartR.rise:∀ {L:List (Nat×Nat)} {e H:Nat},ApartR e L H->BN e L H
 |[],e,H,h=>h
 |r::L,e,H,⟨h1,h2,h3⟩=>⟨Nat.le_of_lt h1,h2,h3.rise⟩

theorem Apart0.rise{L:List (Nat×Nat)}{H:Nat}(h:Apart0 L H):BN 0 L H:=by
 cases L with
 |nil=>exact Nat.zero_le _
 |cons r L=>exact ⟨Nat.zero_le _,h.1,h.2.rise⟩

theorem BN.le:∀ {L:List (Nat×Nat)} {e H:Nat},BN e L H->e<=H
 |[],e,H,h=>h
 |r::L,e,H,⟨h1,h2,h3⟩=>by have:=h3.le;omega

theorem BN.cov_lt:∀ {L:List (Nat×Nat)} {e H g:Nat},BN e L H->cov L g=true->e<=g/\g<H
 |[],e,H,g,h,hc=>by simp[cov] at hc
 |r::L,e,H,g,⟨h1,h2,h3⟩,hc=>by
  unfold cov at hc
  rw[List.any_cons,Bool.or_eq_true,decide_eq_true_eq] at hc
  have:=h3.le
  rcases hc with h|h
  .omega
  .have:=h3.cov_lt (g:=g) h
   omega

theorem Er(r:Nat×Nat)(L:List (Nat×Nat))(g:Nat):cov (r::L) g=(decide (r.1<=g/\g<r.1+r.2)||cov L g):=rfl

theorem cov_app(L M:List (Nat×Nat))(g:Nat):cov (L++M) g=(cov L g||cov M g):=by simp[cov]

def CQ:Nat×Nat->List (Nat×Nat)->List (Nat×Nat)
 |c,[]=>[c]
 |c,r::rs=>if c.1+c.2=r.1 then CQ (c.1,c.2+r.2) rs else c::CQ r rs

def Ew:List (Nat×Nat)->List (Nat×Nat)
 |[]=>[]
 |r::rs=>CQ r rs

def joinL(l:List (Nat×Nat))(r:Nat×Nat):List (Nat×Nat):=
 match l.getLast? with
 |some x=>if x.1+x.2=r.1 then l.dropLast++[(x.1,x.2+r.2)] else l++[r]
 |none=>[r]

theorem joinGo_ne:∀ (c:Nat×Nat) (rs:List (Nat×Nat)),CQ c rs≠[]
 |c,[]=>by simp[CQ]
 |c,r::rs=>by
  unfold CQ
  split
  .exact joinGo_ne _ _
  .simp

theorem joinL_cons{c:Nat×Nat}{M:List (Nat×Nat)}(h:M≠[])(r:Nat×Nat):joinL (c::M) r=c::joinL M r:=by
 cases M with
 |nil=>exact absurd rfl h
 |cons d M=>
  unfold joinL
  rw[List.getLast?_cons_cons]
  cases hh:(d::M).getLast? with
  |none=>simp at hh
  |some x=>
   dsimp only
   split
   .rw [List.dropLast_cons_of_ne_nil (by simp)]
    rfl
   .rfl

theorem joinGo_snoc:∀ (c:Nat×Nat) (rs:List (Nat×Nat)) (r:Nat×Nat),CQ c (rs++[r])=joinL (CQ c rs) r
 |c,[],r=>by
  simp only[List.nil_append,CQ,joinL,List.getLast?_singleton]
  split <;> rfl
 |c,x::rs,r=>by
  simp only[List.cons_append,CQ]
  split
  .exact joinGo_snoc _ rs r
  .rw [joinGo_snoc x rs r,joinL_cons (joinGo_ne _ _)]

theorem joinsR_snoc(rs:List (Nat×Nat))(r:Nat×Nat):Ew (rs++[r])=joinL (Ew rs) r:=by
 cases rs with
 |nil=>rfl
 |cons x rs=>exact joinGo_snoc x rs r

theorem joinGo_apart:∀ {rs:List (Nat×Nat)} {c:Nat×Nat} {H:Nat},0<c.2->BN (c.1+c.2) rs H->∃ n M,CQ c rs=(c.1,n)::M/\0<n/\ApartR (c.1+n) M H
 |[],c,H,h0,h=>⟨c.2,[],rfl,h0,h⟩
 |r::rs,c,H,h0,⟨h1,h2,h3⟩=>by
  unfold CQ
  split
  .rename_i e
   exact joinGo_apart (c:=(c.1,c.2+r.2)) (by simp only;omega) (by rw[show (c.1,c.2+r.2).1+(c.1,c.2+r.2).2=r.1+r.2 by simp only;omega];exact h3)
  .rename_i e
   obtain⟨n,M,e1,e2,e3⟩:=joinGo_apart (c:=r) h2 h3
   exact⟨c.2,CQ r rs,rfl,h0,by rw[e1];exact ⟨by simp only;omega,e2,e3⟩⟩

theorem joinsR_apart{rs:List (Nat×Nat)}{H:Nat}(h:BN 0 rs H):Apart0 (Ew rs) H:=by
 cases rs with
 |nil=>trivial
 |cons r rs=>
  obtain⟨h1,h2,h3⟩:=h
  obtain⟨n,M,e1,e2,e3⟩:=joinGo_apart h2 h3
  show Apart0 (CQ r rs) H
  rw[e1]
  exact⟨e2,e3⟩

theorem joinGo_cov:∀ {rs:List (Nat×Nat)} {c:Nat×Nat} {H:Nat},BN (c.1+c.2) rs H->∀ g,cov (CQ c rs) g=cov (c::rs) g
 |[],c,H,h,g=>rfl
 |r::rs,c,H,⟨h1,h2,h3⟩,g=>by
  unfold CQ
  split
  .rename_i e
   rw[joinGo_cov (c:=(c.1,c.2+r.2)) (H:=H) (by rw[show (c.1,c.2+r.2).1+(c.1,c.2+r.2).2=r.1+r.2 by simp only;omega];exact h3) g]
   rw[Er,Er,Er,<- Bool.or_assoc]
   congr 1
   rw[<- Bool.decide_or]
   refine decide_eq_decide.2 ?_
   simp only
   omega
  .rw [Er,joinGo_cov h3 g,Er c]

theorem joinsR_cov{rs:List (Nat×Nat)}{H:Nat}(h:BN 0 rs H)(g:Nat):cov (Ew rs) g=cov rs g:=by
 cases rs with
 |nil=>rfl
 |cons r rs=>exact joinGo_cov h.2.2 g

def BZ:Nat->List (Nat×Nat)->Nat->List (Nat×Nat)
 |e,[],H=>if e<H then [(e,H-e)] else []
 |e,r::L,H=>(if e<r.1 then [(e,r.1-e)] else [])++BZ (r.1+r.2) L H

theorem water_cov:∀ {L:List (Nat×Nat)} {e H:Nat},BN e L H->∀ g,cov (BZ e L H) g=(decide (e<=g/\g<H)&& !cov L g)
 |[],e,H,h,g=>by
  unfold BZ
  split
  .simp only[cov,List.any_cons,List.any_nil,Bool.or_false,Bool.not_false,Bool.and_true]
   refine decide_eq_decide.2 ?_
   omega
  .simp only[cov,List.any_nil,Bool.not_false,Bool.and_true]
   exact(dF (by omega)).symm
 |r::L,e,H,⟨h1,h2,h3⟩,g=>by
  have h4:=water_cov h3 g
  have h5:=h3.le
  unfold BZ
  rw[cov_app,h4,Er]
  have h6:cov L g=true->r.1+r.2<=g/\g<H:=λ hc=>h3.cov_lt hc
  by_cases hL:cov L g=true
  .have:=h6 hL
   rw[hL]
   simp only[Bool.not_true,Bool.and_false,Bool.or_true,Bool.or_false]
   split
   .simp only[cov,List.any_cons,List.any_nil,Bool.or_false]
    exact dF (by omega)
   .rfl
  .have hL':cov L g=false:=by simpa using hL
   rw[hL']
   simp only[Bool.not_false,Bool.and_true,Bool.or_false]
   split
   .simp only[cov,List.any_cons,List.any_nil,Bool.or_false]
    rw[<- Bool.decide_or]
    by_cases hg:e<=g/\g<H
    .by_cases hr:r.1<=g/\g<r.1+r.2
     .rw [dT hg,dT hr]
      exact dF (by omega)
     .rw [dT hg,dF hr]
      exact dT (by omega)
    .rw [dF hg]
     exact dF (by omega)
   .simp only[cov,List.any_nil,Bool.false_or]
    by_cases hg:e<=g/\g<H
    .by_cases hr:r.1<=g/\g<r.1+r.2
     .rw [dT hg,dT hr]
      exact dF (by omega)
     .rw [dT hg,dF hr]
      exact dT (by omega)
    .rw [dF hg]
     exact dF (by omega)

def pinL(cs:List Cel)(p:Nat->Bool):List (Nat×Nat):=((Ap cs).filter λ c=>p c.g).map λ c=>(c.g,c.sz)

theorem pinL_cons(c:Cel)(cs:List Cel)(p:Nat->Bool):pinL (c::cs) p=(if c.tag=1/\p c.g=true then [(c.g,c.sz)] else [])++pinL cs p:=by
 unfold pinL Ap
 by_cases ht:c.tag=1 <;> by_cases hp:p c.g=true <;> simp[ht,hp]

theorem BN.mono{L:List (Nat×Nat)}{e e' H:Nat}(h:BN e L H)(he:e'<=e):BN e' L H:=by
 cases L with
 |nil=>exact Nat.le_trans he h
 |cons r L=>exact ⟨Nat.le_trans he h.1,h.2⟩

theorem EP{p:Nat->Bool}:∀ {cs:List Cel} {a H:Nat},Au a cs H->BN a (pinL cs p) H
 |[],a,H,h=>Nat.le_of_eq h
 |c::cs,a,H,⟨h1,h2,h3⟩=>by
  have ih:=EP (p:=p) h3
  rw[pinL_cons]
  split
  .exact ⟨by simp only;omega,h2,by rw[show (c.g,c.sz).1+(c.g,c.sz).2=a+c.sz by simp only;omega];exact ih⟩
  .exact ih.mono (by omega)

theorem mem_pinL{cs:List Cel}{p:Nat->Bool}{r:Nat×Nat}:r∈pinL cs p ↔ ∃ c∈cs,c.tag=1/\p c.g=true/\r=(c.g,c.sz):=by
 unfold pinL
 rw[List.mem_map]
 constructor
 .rintro ⟨c,h,rfl⟩
  rw[List.mem_filter] at h
  obtain⟨h1,h2⟩:=h
  obtain⟨h3,h4⟩:=Dx.1 h1
  exact⟨c,h3,h4,h2,rfl⟩
 .rintro ⟨c,h1,h2,h3,rfl⟩
  exact⟨c,List.mem_filter.2 ⟨Dx.2 ⟨h1,h2⟩,h3⟩,rfl⟩

theorem cov_mem{L:List (Nat×Nat)}{g:Nat}:cov L g=true ↔ ∃ r∈L,r.1<=g/\g<r.1+r.2:=by
 unfold cov
 rw[List.any_eq_true]
 simp only[decide_eq_true_eq]

theorem cov_pinL{cs:List Cel}{p:Nat->Bool}{H g:Nat}{c:Cel}(ht:Au 0 cs H)(hc:c∈cs)(h1:c.g<=g)(h2:g<c.fin):cov (pinL cs p) g=(c.tag==1&&p c.g):=by
 rw[Bool.eq_iff_iff,cov_mem]
 constructor
 .rintro ⟨r,hr,a,b⟩
  obtain⟨d,hd,e1,e2,rfl⟩:=mem_pinL.1 hr
  have:d=c:=(cell_only ht hd hc (j:=g) a b h1 h2)
  subst this
  simp[e1,e2]
 .intro h
  rw[Bool.and_eq_true,beq_iff_eq] at h
  exact⟨(c.g,c.sz),mem_pinL.2 ⟨c,hc,h.1,h.2,rfl⟩,h1,h2⟩

def UpR(l:List (Nat×Nat)):Prop:=l.Pairwise λ a b=>a.1<b.1

theorem BN.up:∀ {L:List (Nat×Nat)} {e H:Nat},BN e L H->UpR L/\∀ r∈L,e<=r.1
 |[],e,H,h=>⟨List.Pairwise.nil,λ r h=>by cases h⟩
 |r::L,e,H,⟨h1,h2,h3⟩=>by
  obtain⟨h4,h5⟩:=h3.up
  refine⟨List.Pairwise.cons (λ x hx=>by have:=h5 x hx;omega) h4,λ x hx=>?_⟩
  rcases List.mem_cons.1 hx with rfl|hx
  .exact h1
  .have:=h5 x hx;omega

theorem UpR.uniq:∀ {xs ys:List (Nat×Nat)},UpR xs->UpR ys->(∀ r,r∈xs ↔ r∈ys)->xs=ys
 |[],[],_,_,_=>rfl
 |[],y::ys,_,_,h=>by have:=(h y).2 List.mem_cons_self;cases this
 |x::xs,[],_,_,h=>by have:=(h x).1 List.mem_cons_self;cases this
 |x::xs,y::ys,hx,hy,h=>by
  obtain⟨a1,a2⟩:=List.pairwise_cons.1 hx
  obtain⟨b1,b2⟩:=List.pairwise_cons.1 hy
  have e:x=y:=by
   have m1:=(h x).1 List.mem_cons_self
   have m2:=(h y).2 List.mem_cons_self
   rcases List.mem_cons.1 m1 with e|m1
   .exact e
   .rcases List.mem_cons.1 m2 with e|m2
    .exact e.symm
    .have:=a1 y m2
     have:=b1 x m1
     omega
  subst e
  rw[UpR.uniq a2 b2 λ r=>?_]
  constructor
  .intro hr
   rcases List.mem_cons.1 ((h r).1 (List.mem_cons_of_mem _ hr)) with rfl|m
   .have:=a1 r hr;omega
   .exact m
  .intro hr
   rcases List.mem_cons.1 ((h r).2 (List.mem_cons_of_mem _ hr)) with rfl|m
   .have:=b1 r hr;omega
   .exact m

def FE:Nat->List (Nat×Nat)->List (Nat×Nat)
 |c,[]=>[]
 |c,x::l=>if x.1=c then FE c l else x::FE x.1 l

def CE:List (Nat×Nat)->List (Nat×Nat)
 |[]=>[]
 |x::l=>x::FE x.1 l

theorem onceG_up:∀ {l:List (Nat×Nat)} {c:Nat},l.Pairwise (λ a b=>a.1<=b.1)->(∀ a∈l,c<=a.1)->(∀ a∈l,∀ b∈l,a.1=b.1->a=b)->UpR (FE c l)/\∀ r,r∈FE c l ↔ r∈l/\¬ r.1=c
 |[],c,_,_,_=>⟨List.Pairwise.nil,λ r=>by simp[FE]⟩
 |x::l,c,hp,hc,hu=>by
  obtain⟨p1,p2⟩:=List.pairwise_cons.1 hp
  have hu2:∀ a∈l,∀ b∈l,a.1=b.1->a=b:=λ a ha b hb=>hu a (List.mem_cons_of_mem _ ha) b (List.mem_cons_of_mem _ hb)
  unfold FE
  split
  .rename_i e
   obtain⟨h1,h2⟩:=onceG_up (c:=c) p2 (λ a ha=>hc a (List.mem_cons_of_mem _ ha)) hu2
   refine⟨h1,λ r=>?_⟩
   rw[h2,List.mem_cons]
   constructor
   .rintro ⟨a,b⟩;exact ⟨.inr a,b⟩
   .rintro ⟨rfl|a,b⟩
    .exact absurd e b
    .exact ⟨a,b⟩
  .rename_i e
   have hcx:=hc x List.mem_cons_self
   obtain⟨h1,h2⟩:=onceG_up (c:=x.1) p2 p1 hu2
   refine⟨List.Pairwise.cons (λ a ha=>?_) h1,λ r=>?_⟩
   .have h3:=(h2 a).1 ha
    have:=p1 a h3.1
    have:=h3.2
    omega
   .rw [List.mem_cons,h2,List.mem_cons]
    constructor
    .rintro (rfl|⟨a,b⟩)
     .exact ⟨.inl rfl,e⟩
     .have:=p1 r a
      exact⟨.inr a,by omega⟩
    .rintro ⟨rfl|a,b⟩
     .exact .inl rfl
     .by_cases h:r.1=x.1
      .exact .inl (hu r (List.mem_cons_of_mem _ a) x List.mem_cons_self h)
      .exact .inr ⟨a,h⟩

theorem onceR_up{l:List (Nat×Nat)}(hp:l.Pairwise (λ a b=>a.1<=b.1))(hu:∀ a∈l,∀ b∈l,a.1=b.1->a=b):UpR (CE l)/\∀ r,r∈CE l ↔ r∈l:=by
 cases l with
 |nil=>exact ⟨List.Pairwise.nil,λ r=>by simp[CE]⟩
 |cons x l=>
  obtain⟨p1,p2⟩:=List.pairwise_cons.1 hp
  obtain⟨h1,h2⟩:=onceG_up (c:=x.1) p2 p1 (λ a ha b hb=>hu a (List.mem_cons_of_mem _ ha) b (List.mem_cons_of_mem _ hb))
  refine⟨List.Pairwise.cons (λ a ha=>?_) h1,λ r=>?_⟩
  .have h3:=(h2 a).1 ha
   have:=p1 a h3.1
   have:=h3.2
   omega
  .show r∈x::FE x.1 l ↔ r∈x::l
   rw[List.mem_cons,h2,List.mem_cons]
   constructor
   .rintro (h|⟨a,-⟩)
    .exact .inl h
    .exact .inr a
   .rintro (h|a)
    .exact .inl h
    .by_cases h:r.1=x.1
     .exact .inl (hu r (List.mem_cons_of_mem _ a) x List.mem_cons_self h)
     .exact .inr ⟨a,h⟩

theorem onceG_snoc:∀ (xs:List (Nat×Nat)) (c:Nat) (z y:Nat×Nat),FE c (xs++[z,y])=FE c (xs++[z])++(if y.1=z.1 then [] else [y])
 |[],c,z,y=>by
  simp only[List.nil_append,FE]
  by_cases h1:z.1=c
  .rw [if_pos h1,if_pos h1,h1]
   split <;> rfl
  .rw [if_neg h1,if_neg h1]
   split <;> rfl
 |x::xs,c,z,y=>by
  simp only[List.cons_append,FE]
  split
  .exact onceG_snoc xs c z y
  .rw [onceG_snoc xs x.1 z y]
   rfl

theorem onceR_take{l:List (Nat×Nat)}{j:Nat}{z y:Nat×Nat}(hz:l[j]?=some z)(hy:l[j+1]?=some y):CE (l.take (j+1+1))=CE (l.take (j+1))++(if y.1=z.1 then [] else [y]):=by
 rw[List.take_add_one,hy,List.take_add_one,hz]
 obtain⟨p,hp⟩:∃ p,l.take j=p:=⟨_,rfl⟩
 rw[hp]
 cases p with
 |nil=>
  show CE [z,y]=CE [z]++_
  simp only[CE,FE]
  split <;> rfl
 |cons x p=>
  have:=onceG_snoc p x.1 z y
  simp only[Option.toList_some,List.cons_append,List.append_assoc,List.nil_append,CE]
  rw[this]

def BX(cs:List Cel)(p:Nat->Bool):List (Nat×Nat):=Ew (pinL cs p)

theorem EE{cs:List Cel}{p:Nat->Bool}{H:Nat}(h:Au 0 cs H):Apart0 (BX cs p) H:=joinsR_apart (EP h)

theorem islesL_cov{cs:List Cel}{p:Nat->Bool}{H g:Nat}{c:Cel}(h:Au 0 cs H)(hc:c∈cs)(h1:c.g<=g)(h2:g<c.fin):cov (BX cs p) g=(c.tag==1&&p c.g):=by
 unfold BX
 rw[joinsR_cov (EP h),cov_pinL h hc h1 h2]

def DT:Nat->List (Nat×Nat)->List (Nat×Nat)
 |e,[]=>[]
 |e,r::L=>(if e<r.1 then [(e,r.1-e)] else [])++DT (r.1+r.2) L

def endR:Nat->List (Nat×Nat)->Nat
 |e,[]=>e
 |e,r::L=>endR (r.1+r.2) L

theorem waterL_gaps:∀ (L:List (Nat×Nat)) (e H:Nat),BZ e L H=DT e (L++[(H,0)])
 |[],e,H=>by simp[BZ,DT]
 |r::L,e,H=>by simp only[BZ,List.cons_append,DT,waterL_gaps L]

theorem gapsR_snoc:∀ (L:List (Nat×Nat)) (e:Nat) (x:Nat×Nat),DT e (L++[x])=DT e L++(if endR e L<x.1 then [(endR e L,x.1-endR e L)] else [])
 |[],e,x=>by
  simp only[List.nil_append,DT,endR,List.append_nil]
  rfl
 |r::L,e,x=>by
  simp only[List.cons_append,DT,endR,gapsR_snoc L,List.append_assoc]
  rfl

theorem endR_snoc:∀ (L:List (Nat×Nat)) (e:Nat) (x:Nat×Nat),endR e (L++[x])=x.1+x.2
 |[],e,x=>rfl
 |r::L,e,x=>by simp only[List.cons_append,endR,endR_snoc L]

theorem gapsR_len:∀ (L:List (Nat×Nat)) (e:Nat),(DT e L).length<=L.length
 |[],e=>Nat.le_refl _
 |r::L,e=>by
  have:=gapsR_len L (r.1+r.2)
  simp only[DT,List.length_append,List.length_cons]
  split <;> simp only[List.length_cons,List.length_nil] <;> omega

theorem BR{α:Type}{L:List α}{j:Nat}{x:α}(h:L[j]?=some x):L.take (j+1)=L.take j++[x]:=by
 rw[List.take_add_one,h]
 rfl

theorem split_uniq:∀ {pre pre':List Cel} {post post':List Cel} {c c':Cel} {a b j:Nat},Au a (pre++c::post) b->pre++c::post=pre'++c'::post'->c.g<=j->j<c.fin->c'.g<=j->j<c'.fin->pre=pre'/\c=c'/\post=post'
 |[],[],post,post',c,c',a,b,j,ht,h,_,_,_,_=>by
  simp only[List.nil_append,List.cons.injEq] at h
  exact⟨rfl,h.1,h.2⟩
 |[],d::pre',post,post',c,c',a,b,j,ht,h,h1,h2,h3,h4=>by
  simp only[List.nil_append,List.cons_append,List.cons.injEq] at h
  obtain⟨t1,t2,t3⟩:=ht
  have hm:c'∈post:=by rw[h.2];simp
  have:=(t3.mem hm).1
  unfold Cel.fin at h2
  omega
 |d::pre,[],post,post',c,c',a,b,j,ht,h,h1,h2,h3,h4=>by
  simp only[List.nil_append,List.cons_append,List.cons.injEq] at h
  obtain⟨t1,t2,t3⟩:=ht
  have:=(t3.mem (show c∈pre++c::post by simp)).1
  rw[<- h.1] at h4
  unfold Cel.fin at h4
  omega
 |d::pre,d'::pre',post,post',c,c',a,b,j,ht,h,h1,h2,h3,h4=>by
  simp only[List.cons_append,List.cons.injEq] at h
  obtain⟨t1,t2,t3⟩:=ht
  obtain⟨e1,e2,e3⟩:=split_uniq t3 h.2 h1 h2 h3 h4
  exact⟨by rw[h.1,e1],e2,e3⟩

end

section
open Go.RowKit

def Bt(L:List (Nat×Nat)):List Value:=L.flatMap λ r=>[.int .i64 (r.1:Nat),.int .i64 (r.2:Nat)]

theorem EM(xs ys:List (Nat×Nat)):Bt (xs++ys)=Bt xs++Bt ys:=by simp[Bt]

theorem Cw:∀ (xs:List (Nat×Nat)),(Bt xs).length=xs.length*2
 |[]=>rfl
 |x::xs=>by
  have:=Cw xs
  unfold Bt at this ⊢
  rw[List.flatMap_cons,List.length_append,this]
  simp
  omega

theorem flatR_at:∀ (xs:List (Nat×Nat)) (i:Nat) (x:Nat×Nat),xs[i]?=some x->(Bt xs)[i*2]?=some (.int .i64 (x.1:Nat))/\(Bt xs)[i*2+1]?=some (.int .i64 (x.2:Nat))
 |[],i,x,h=>by simp at h
 |y::xs,0,x,h=>by
  simp at h
  subst h
  exact⟨rfl,rfl⟩
 |y::xs,i+1,x,h=>by
  have h2:xs[i]?=some x:=by simpa using h
  obtain⟨h3,h4⟩:=flatR_at xs i x h2
  have e:Bt (y::xs)=.int .i64 (y.1:Nat)::.int .i64 (y.2:Nat)::Bt xs:=rfl
  rw[e,show (i+1)*2=i*2+1+1 by omega,show i*2+1+1+1=i*2+1+1+1 from rfl]
  exact⟨by rw[List.getElem?_cons_succ,List.getElem?_cons_succ];exact h3,by rw[List.getElem?_cons_succ,List.getElem?_cons_succ];exact h4⟩

def RowR(w:World)(v:Value)(L:List (Nat×Nat)):Prop:=
 ∃ a cap,v=.slice a L.length cap/\∀ i x,L[i]?=some x->∃ b o,a=some ⟨b,o,none⟩/\b<w.heap.size/\
  w.cell? ⟨b,o+i*2,none⟩=some (.int .i64 (x.1:Nat))/\w.cell? ⟨b,o+i*2+1,none⟩=some (.int .i64 (x.2:Nat))

theorem RowR.Br{T:TypeId}{w:World}{base:Nat}{v:Value}{L:List (Nat×Nat)}(h:w.ownsRow base T 2 v L.length (Bt L)):RowR w v L:=by
 rcases h.2 with ⟨rfl,h0⟩|⟨g,cap,cur,rfl,g2,g3,g4,g5,g6,g7⟩
 .exact ⟨none,0,by rw[h0],λ i x hx=>by have:=(gE.1 hx).1;omega⟩
 .refine ⟨some ⟨g,0,none⟩,cap,rfl,λ i x hx=>?_⟩
  have hi:=(gE.1 hx).1
  obtain⟨x0,x1⟩:=flatR_at L i x hx
  have key:∀ j,j<L.length*2->w.cell? ⟨g,j,none⟩=(Bt L)[j]?:=λ j hj=>by
   rw[<- g7,List.getElem?_take_of_lt hj]
   simp[World.cell?,g3]
  exact⟨g,0,rfl,lZ g3,by rw[Nat.zero_add,key _ (by omega)];exact x0,by rw[Nat.zero_add,key _ (by omega)];exact x1⟩

structure RunF(w:World)(g cap n:Nat)(f:Nat->Nat×Nat):Prop where
 blk:∃ cur,w.heap[g]?=some (.cells cur 225 (0,0))/\cur.size=cap*2/\∀ p,p<n->cur[p*2]?=some (.int .i64 ((f p).1:Nat))/\cur[p*2+1]?=some (.int .i64 ((f p).2:Nat))
 le:n<=cap
 cap_le:cap<=maxLen

theorem RunF.keep{S:Nat->Prop}{w w':World}{g cap n:Nat}{f:Nat->Nat×Nat}(h:RunF w g cap n f)(k:Kp S w w')(hs:¬ S g):RunF w' g cap n f:=by
 obtain⟨cur,h1,h2⟩:=h.blk
 exact⟨⟨cur,k.at_ h1 hs,h2⟩,h.le,h.cap_le⟩

theorem RunF.cells{w:World}{g cap n p:Nat}{f:Nat->Nat×Nat}(h:RunF w g cap n f)(hp:p<n):w.cell? ⟨g,p*2,none⟩=some (.int .i64 ((f p).1:Nat))/\w.cell? ⟨g,p*2+1,none⟩=some (.int .i64 ((f p).2:Nat)):=by
 obtain⟨cur,h1,h2,h3⟩:=h.blk
 obtain⟨a0,a1⟩:=h3 p hp
 simp only[World.cell?,h1]
 exact⟨by simpa using a0,by simpa using a1⟩

theorem RunF.free{w:World}{g cap n:Nat}{f:Nat->Nat×Nat}(h:RunF w g cap n f)(j:Nat):w.frozen? ⟨g,j,none⟩=false:=by
 obtain⟨cur,h1,-⟩:=h.blk
 exact Ae h1 j

theorem RunF.lt{w:World}{g cap n:Nat}{f:Nat->Nat×Nat}(h:RunF w g cap n f):g<w.heap.size:=by
 obtain⟨cur,h1,-⟩:=h.blk
 exact lZ h1

theorem RunF.isCell{w:World}{g cap n q:Nat}{f:Nat->Nat×Nat}(h:RunF w g cap n f)(hq:q<cap*2):(w.cell? ⟨g,q,none⟩).isSome=true:=by
 obtain⟨cur,h1,h2,-⟩:=h.blk
 simp only[World.cell?,h1]
 rw[<- h2] at hq
 simp[hq]

def updR(f:Nat->Nat×Nat)(p:Nat)(x:Nat×Nat)(i:Nat):Nat×Nat:=if i=p then x else f i

theorem RunF.store{w:World}{g cap n p:Nat}{f:Nat->Nat×Nat}(h:RunF w g cap n f)(hp:p<n)(x:Nat×Nat):
  RunF ((w.setCell ⟨g,p*2,none⟩ (.int .i64 (x.1:Nat))).setCell ⟨g,p*2+1,none⟩ (.int .i64 (x.2:Nat))) g cap n (updR f p x):=by
 obtain⟨cur,h1,h2,h3⟩:=h.blk
 have hle:=h.le
 refine⟨⟨_,bZ (bZ h1 _) _,by simp[h2],λ i hi=>?_⟩,h.le,h.cap_le⟩
 have hsz:p*2+1<cur.size:=by omega
 obtain⟨a0,a1⟩:=h3 i hi
 by_cases e:i=p
 .subst e
  unfold updR
  rw[if_pos rfl]
  simp only[Array.getElem?_setIfInBounds]
  refine⟨?_,?_⟩ <;> (simp;omega)
 .unfold updR
  rw[if_neg e]
  simp only[Array.getElem?_setIfInBounds]
  refine⟨?_,?_⟩ <;> (rw [if_neg (by omega),if_neg (by omega)];assumption)

theorem RunF.Br{w:World}{base:Nat}{v:Value}{L:List (Nat×Nat)}(h:w.ownsRow base 225 2 v L.length (Bt L))(hne:L≠[]):∃ g cap,v=.slice (some ⟨g,0,none⟩) L.length cap/\base<=g/\RunF w g cap L.length (λ p=>(L[p]?).getD (0,0)):=by
 rcases h.2 with ⟨-,h0⟩|⟨g,cap,cur,hv,g2,g3,g4,g5,g6,g7⟩
 .exact absurd (List.length_eq_zero_iff.1 h0) hne
 .refine ⟨g,cap,hv,g2,⟨cur,g3,g6,λ p hp=>?_⟩,g4,g5⟩
  have hx:L[p]?=some L[p]:=List.getElem?_eq_getElem hp
  obtain⟨x0,x1⟩:=flatR_at L p _ hx
  have key:∀ j,j<L.length*2->cur[j]?=(Bt L)[j]?:=λ j hj=>by
   rw[<- g7,List.getElem?_take_of_lt hj]
   simp
  rw[hx]
  exact⟨by rw[key _ (by omega)];exact x0,by rw[key _ (by omega)];exact x1⟩

theorem RowR.of_runF{w:World}{g cap:Nat}{f:Nat->Nat×Nat}{L:List (Nat×Nat)}(h:RunF w g cap L.length f)(hf:∀ p x,L[p]?=some x->f p=x):RowR w (.slice (some ⟨g,0,none⟩) L.length cap) L:=by
 refine⟨_,_,rfl,λ i x hx=>?_⟩
 have hi:=(gE.1 hx).1
 obtain⟨c0,c1⟩:=h.cells hi
 rw[hf i x hx] at c0 c1
 exact⟨g,0,rfl,h.lt,by rw[Nat.zero_add];exact c0,by rw[Nat.zero_add];exact c1⟩

theorem First_at(x:Nat×Nat)(w:World):Calls prog 175 #[.agg #[.int .i64 (x.1:Nat),.int .i64 (x.2:Nat)]] w λ e w'=>e=.returned (.int .i64 (x.1:Nat))/\w.alloc (.cells #[.int .i64 (x.1:Nat),.int .i64 (x.2:Nat)] 225)=w':=by
 go_enter func175,ntmps175
 go_wp2
 go_ret
 exact⟨rfl,rfl⟩

def cmpN(a b:Nat):Int:=if a<b then -1 else if b<a then 1 else 0

theorem isNaN_at(a:Int)(w:World):Calls prog 190 #[.int .i64 a] w λ e w'=>e=.returned (.bool false)/\w'=w:=by
 have h:(a !=a)=false:=by simp
 go_enter func190,ntmps190
 go_wp2
 go_ret
 exact⟨rfl,rfl⟩

theorem Compare_at(a b:Nat)(w:World):Calls prog 195 #[.int .i64 (a:Nat),.int .i64 (b:Nat)] w λ e w'=>e=.returned (.int .i64 (cmpN a b))/\w'=w:=by
 have HN:=sE (λ (a:Int) (w:World)=>isNaN_at a w)
 by_cases h1:a<b
 .have p1:(a:Int)<(b:Int):=by omega
  have hv:cmpN a b=-1:=if_pos h1
  rw[hv]
  clear h1 hv
  go_enter func195,ntmps195
  go_wp2_with (go_at_call 190;refine (HN.out _ _).mono ?_;rintro e w ⟨rfl,rfl⟩)
  go_ret
  exact⟨rfl,rfl⟩
 .have p1:¬ (a:Int)<(b:Int):=by omega
  by_cases h2:b<a
  .have p2:(b:Int)<(a:Int):=by omega
   have hv:cmpN a b=1:=by unfold cmpN;rw [if_neg h1,if_pos h2]
   rw[hv]
   clear h1 h2 hv
   go_enter func195,ntmps195
   go_wp2_with (go_at_call 190;refine (HN.out _ _).mono ?_;rintro e w ⟨rfl,rfl⟩)
   go_ret
   exact⟨rfl,rfl⟩
  .have p2:¬ (b:Int)<(a:Int):=by omega
   have hv:cmpN a b=0:=by unfold cmpN;rw [if_neg h1,if_neg h2]
   rw[hv]
   clear h1 h2 hv
   go_enter func195,ntmps195
   go_wp2_with (go_at_call 190;refine (HN.out _ _).mono ?_;rintro e w ⟨rfl,rfl⟩)
   go_ret
   exact⟨rfl,rfl⟩

def ByAt(w:World)(b:Nat):Prop:=w.cell? ⟨b,0,none⟩=some (.func (.func 175) #[] #[])/\b<w.heap.size

theorem ByAt.Ad{w w':World}{b:Nat}(h:ByAt w b)(k:Kp Ab w w'):ByAt w' b:=⟨k.cell h.1 (λ h=>h),Nat.lt_of_lt_of_le h.2 k.size⟩

theorem By_at(x y:Nat×Nat)(b:Nat)(w:World)(hb:ByAt w b):
  Calls prog 194 #[.agg #[.int .i64 (x.1:Nat),.int .i64 (x.2:Nat)],.agg #[.int .i64 (y.1:Nat),.int .i64 (y.2:Nat)],.pointer (some ⟨b,0,none⟩)] w λ e w'=>e=.returned (.int .i64 (cmpN x.1 y.1))/\Kp Ab w w'/\∃ q os',w'=Go.Sort.grow (w.drewN q) os':=by
 have HX:=sE (λ (x:Nat×Nat) (w:World)=>First_at x w)
 have HC:=sE (λ (w:World)=>Compare_at x.1 y.1 w)
 obtain⟨hb1,hb2⟩:=hb
 obtain⟨w1,hw1⟩:∃ w1,w1=w.alloc (.cells #[.int .i64 (x.1:Nat),.int .i64 (x.2:Nat)] 225):=⟨_,rfl⟩
 obtain⟨w2,hw2⟩:∃ w2,w2=w1.alloc (.cells #[.int .i64 (y.1:Nat),.int .i64 (y.2:Nat)] 225):=⟨_,rfl⟩
 have k1:Kp Ab w w1:=by rw[hw1];exact (Kr _ w).alloc _
 have k2:Kp Ab w1 w2:=by rw[hw2];exact (Kr _ w1).alloc _
 have b1:w1.heap[w.heap.size]?=some (.cells #[.int .i64 (x.1:Nat),.int .i64 (x.2:Nat)] 225 (0,0)):=by rw[hw1];exact wN w _
 have b2:w2.heap[w1.heap.size]?=some (.cells #[.int .i64 (y.1:Nat),.int .i64 (y.2:Nat)] 225 (0,0)):=by rw[hw2];exact wN w1 _
 have z1:w1.heap.size=w.heap.size+1:=by rw[hw1];simp
 rw[z1] at b2
 have b1':=k2.at_ b1 (λ h=>h)
 have x0:w2.cell? ⟨w.heap.size,0,none⟩=some (.int .i64 (x.1:Nat)):=by simp[World.cell?,b1']
 have x1:w2.cell? ⟨w.heap.size,1,none⟩=some (.int .i64 (x.2:Nat)):=by simp[World.cell?,b1']
 have y0:w2.cell? ⟨w.heap.size+1,0,none⟩=some (.int .i64 (y.1:Nat)):=by simp[World.cell?,b2]
 have y1:w2.cell? ⟨w.heap.size+1,1,none⟩=some (.int .i64 (y.2:Nat)):=by simp[World.cell?,b2]
 have hb3:=(k1.then' k2).cell hb1 (λ h=>h)
 have K2:=k1.then' k2
 have HW:Sl (∃ os,w2=Go.Sort.grow w os):=⟨⟨#[.cells #[.int .i64 (x.1:Nat),.int .i64 (x.2:Nat)] 225,.cells #[.int .i64 (y.1:Nat),.int .i64 (y.2:Nat)] 225],by rw[hw2,hw1];rfl⟩⟩
 go_enter func194,ntmps194
 go_wp2_with fail
 rw[<- hw1,<- hw2]
 clear hw1 hw2 b1 b2 b1' hb1 k1 k2
 refine wp_region_held_drew (S:=λ w'=>w'.cell? ⟨b,0,none⟩=some (.func (.func 175) #[] #[])/\w'.cell? ⟨w.heap.size,0,none⟩=some (.int .i64 (x.1:Nat))/\w'.cell? ⟨w.heap.size,1,none⟩=some (.int .i64 (x.2:Nat))/\w'.cell? ⟨w.heap.size+1,0,none⟩=some (.int .i64 (y.1:Nat))/\w'.cell? ⟨w.heap.size+1,1,none⟩=some (.int .i64 (y.2:Nat))) (by kernel_rfl) ?_ (λ qZ=>?_)
 .exact ⟨hb3,x0,x1,y0,y1⟩
 refine Ao 0 ?_;refine Ao 1 ?_;refine Ao 3 ?_;refine Ao 4 ?_
 try simp only[Ar]
 refine AQ [2] ?_
 refine Ag rfl (λ K hK=>?_)
 go_simp
 go_at_call 175
 (with_reducible refine(HX.out _ _).mono ?_)
 rintro e w3 ⟨rfl,h3⟩
 have K3:Kp Ab w2 w3:=by rw[<- h3];exact ((Kr Ab w2).drew).alloc _
 have HG3:Sl (∃ os,w3=Go.Sort.grow w2.drew os):=⟨⟨_,h3.symm.trans (Go.Sort.alloc_eq_grow _ _)⟩⟩
 clear h3
 refine hK _ _ ?_ (λ qZ=>?_)
 .exact ⟨K3.cell hb3 (λ h=>h),K3.cell x0 (λ h=>h),K3.cell x1 (λ h=>h),K3.cell y0 (λ h=>h),K3.cell y1 (λ h=>h)⟩
 clear hK K
 try simp only[Ar]
 refine AQ [5] ?_
 refine Ag rfl (λ K hK=>?_)
 go_simp
 go_at_call 175
 (with_reducible refine(HX.out _ _).mono ?_)
 rintro e w4 ⟨rfl,h4⟩
 have K4:Kp Ab w2 w4:=by rw[<- h4];exact K3.alloc _
 have HG4:Sl (∃ os,w4=Go.Sort.grow w2.drew os):=⟨by
  obtain⟨os,h⟩:=HG3.out
  exact⟨os++_,by rw[<- h4,Go.Sort.alloc_eq_grow,h,Go.Sort.grow_grow]⟩⟩
 clear h4
 refine hK _ _ ?_ (λ qZ=>?_)
 .exact ⟨K4.cell hb3 (λ h=>h),K4.cell x0 (λ h=>h),K4.cell x1 (λ h=>h),K4.cell y0 (λ h=>h),K4.cell y1 (λ h=>h)⟩
 clear hK K
 try simp only[Ar]
 refine AQ [6] ?_
 refine Ag rfl (λ K hK=>?_)
 go_simp
 go_at_call 195
 (with_reducible refine(HC.out _).mono ?_)
 rintro e w4 ⟨rfl,rfl⟩
 refine hK _ _ ?_ (λ qZ=>?_)
 .exact qZ
 clear hK K
 try simp only[Ar]
 refine Ao 7 ?_
 try simp only[Ar]
 refine wpAnyH_done (by kernel_rfl) ?_ _
 go_wp2
 go_ret
 refine⟨rfl,K2.then' K4,?_⟩
 obtain⟨os,h⟩:=HG4.out
 obtain⟨os2,h2⟩:=HW.out
 exact⟨1,os2++os,by rw[h,h2,<- Go.Sort.grow_grow];rfl⟩

theorem owns_set{w:World}{base:Nat}{e:TypeId}{size g n cap j:Nat}{xs:List Value}{u:Value}(h:w.ownsRow base e size (.slice (some ⟨g,0,none⟩) n cap) n xs)(hj:j<n*size):
  (w.setCell ⟨g,j,none⟩ u).ownsRow base e size (.slice (some ⟨g,0,none⟩) n cap) n (xs.set j u):=by
 obtain⟨hl,h⟩:=h
 refine⟨by simpa using hl,?_⟩
 rcases h with ⟨h,-⟩|⟨g',cap',cur,hv,g2,g3,g4,g5,g6,g7⟩
 .simp at h
 .simp only[Value.slice.injEq,Option.some.injEq,Addr.mk.injEq] at hv
  obtain⟨⟨rfl,-,-⟩,-,rfl⟩:=hv
  refine .inr ⟨g,cap,_,rfl,g2,bZ g3 _,g4,g5,by simpa using g6,?_⟩
  rw[<- g7,<- List.take_set]
  simp

theorem flatR_last{l:List (Nat×Nat)}{x:Nat×Nat}(a:Nat)(h:l.getLast?=some x):Bt (l.dropLast++[(x.1,a)])=(Bt l).set ((l.length-1)*2+1) (.int .i64 (a:Nat)):=by
 obtain⟨m,rfl⟩:∃ m,l=m++[x]:=⟨l.dropLast,by
  have hne:l≠[]:=by intro e;rw [e] at h;simp at h
  rw[List.getLast?_eq_some_getLast hne] at h
  injection h with h
  rw[<- h]
  exact(List.dropLast_concat_getLast hne).symm⟩
 rw[List.dropLast_concat,EM,EM,List.length_append,List.length_singleton,Nat.add_sub_cancel,List.set_append_right _ _ (by rw[Cw];omega),Cw]
 rw[show m.length*2+1-m.length*2=1 by omega]
 rfl

theorem last_at{l:List (Nat×Nat)}{x:Nat×Nat}(h:l.getLast?=some x):l[l.length-1]?=some x:=by
 rw[<- h,List.getLast?_eq_getElem?]

def JoinPost(lb base:Nat)(v:Value)(l:List (Nat×Nat))(r:Nat×Nat)(w:World)(e:Ending)(w':World):Prop:=
 e=.returned (.tuple #[])/\∃ v',w'.heap[lb]?=some (.cells #[v'] 163 (0,0))/\w'.ownsRow base 225 2 v' (joinL l r).length (Bt (joinL l r))/\Kp (λ k=>k=lb\/v.ownBlock=some k) w w'

set_option maxRecDepth 20000 in
theorem Join_at(lb base:Nat)(v:Value)(l:List (Nat×Nat))(r:Nat×Nat)(w:World)(hbl:w.heap[lb]?=some (.cells #[v] 163 (0,0)))(ho:w.ownsRow base 225 2 v l.length (Bt l))(hb:lb<base)(hb2:base<=w.heap.size)(hl:l.length<=65536)(hs:∀ x∈l,x.1+x.2<=65536)(hr:r.1+r.2<=65536):
  Calls prog 173 #[.agg #[.int .i64 (r.1:Nat),.int .i64 (r.2:Nat)],.pointer (some ⟨lb,0,none⟩)] w (JoinPost lb base v l r w):=by
 obtain⟨w1,hw1⟩:∃ w1,w1=w.alloc (.cells #[.int .i64 (r.1:Nat),.int .i64 (r.2:Nat)] 225):=⟨_,rfl⟩
 have k1:Kp Ab w w1:=by rw[hw1];exact (Kr _ w).alloc _
 have b1:w1.heap[w.heap.size]?=some (.cells #[.int .i64 (r.1:Nat),.int .i64 (r.2:Nat)] 225 (0,0)):=by rw[hw1];exact wN w _
 have r0:w1.cell? ⟨w.heap.size,0,none⟩=some (.int .i64 (r.1:Nat)):=by simp[World.cell?,b1]
 have r1:w1.cell? ⟨w.heap.size,1,none⟩=some (.int .i64 (r.2:Nat)):=by simp[World.cell?,b1]
 have hbl1:=k1.at_ hbl (λ h=>h)
 have ho1:=Ai ho k1 (λ _ _ h=>h)
 have c0:=cell_of_one hbl1
 have f0:=Ae hbl1 0
 have z1:=k1.size
 have HK1:=sE k1
 have HBl:=sE hbl1
 have HRo:=sE ho1
 have HBw:=sE b1
 clear hbl ho k1 b1 hbl1
 cases hlast:l.getLast? with
 |none=>
  obtain rfl:l=[]:=by simpa using hlast
  have HJ:Sl (joinL [] r=[]++[r]):=⟨rfl⟩
  obtain⟨va,vc,rfl⟩:=AA ho1
  clear ho1 hlast
  have hw1':=hw1
  subst hw1
  go_enter func173,ntmps173
  go_wp2_with fail
  go_quiet (fail)
  obtain⟨w2,hw2⟩:∃ w2,w2=(w.alloc (.cells #[.int .i64 (r.1:Nat),.int .i64 (r.2:Nat)] 225)).drewN nq:=⟨_,rfl⟩
  have kd:Kp Ab (w.alloc (.cells #[.int .i64 (r.1:Nat),.int .i64 (r.2:Nat)] 225)) w2:=by rw[hw2];exact Kp.Aj _
  rw[<- hw2]
  clear hw2
  have HK2:Sl (Kp Ab w w2):=⟨HK1.out.then' kd⟩
  have HBr:=sE (kd.at_ HBl.out (λ h=>h))
  have HRr:=sE (Ai HRo.out kd (λ _ _ h=>h))
  have r0':=kd.cell r0 (λ h=>h)
  have r1':=kd.cell r1 (λ h=>h)
  have c0':=kd.cell c0 (λ h=>h)
  have zd:=HK2.out.size
  clear kd c0 r0 r1 f0
  go_wp2_with (at_builtin;obtain ⟨i0,hi,hz0,hz1,hz2⟩:=info_parts infoRun;go_loud (refine wpList_append_lies _ rfl (.tmp 37) (.tmp 39) 163 rfl base 225 i0 _ 2 16 Cz hi hz0 hz1 hz2 rfl (by omega) (.slice va 0 vc) 0 [] rfl (HRr.out.alloc _) ⟨w2.heap.size,0,none⟩ 1 1 [.int .i64 (r.1:Nat),.int .i64 (r.2:Nat)] rfl rfl (World.news_of_block (wN w2 _)) (by intro u hu;simp at hu;rcases hu with rfl|rfl <;> rfl) (by omega) (by unfold maxLen;omega) (by omega) (by first|(simp;done)|(simp;omega)) (w2.heap.size+1) (by simp) ?_);intro gn capn w3 hown3 hgrow hat hlt;clear hi hz0 hz1 hz2;have hnb:¬ ((.slice va 0 vc):Value).ownBlock=some lb:=λ h=>(by have:=Af HRr.out h;omega);have k3:Kp (λ k=>((.slice va 0 vc):Value).ownBlock=some k) w2 w3:=((Kr Ab w2).alloc _ |>.Ak _).grown hgrow (λ k e h=>by first|exact h|exact e);have b3:=k3.at_ HBr.out hnb;have f3:=Ae b3 0;have c3:=cell_of_one b3;have HR3:=sE hown3;have HB3:=sE b3;have HK3:=sE k3;clear hown3 hgrow hat b3 k3)
  go_end0
  have KS:Kp (λ k=>k=lb) w3 (w3.setCell ⟨lb,0,none⟩ (.slice (some ⟨gn,0,none⟩) 1 capn)):=(Kr (λ k=>k=lb) w3).setCell (λ _=>rfl) _
  refine⟨rfl,_,one_setCell HB3.out,?_,((HK2.out.Ak _).trans (HK3.out.mono λ i _ h=>.inr h) (λ _ _ h=>h)).trans KS (λ _ _ h=>.inl h)⟩
  rw[HJ.out]
  exact Ai HR3.out KS (λ b hb' e=>by have:=(Af HR3.out hb').1;omega)
 |some x=>
  have hne:l≠[]:=by intro e;rw [e] at hlast;simp at hlast
  rcases ho1.2 with ⟨-,h0⟩|⟨g,cap,cur,rfl,g2,g3,g4,g5,g6,g7⟩
  .exact absurd (List.length_eq_zero_iff.1 h0) hne
  obtain⟨k,hk⟩:∃ k,l.length=k+1:=⟨l.length-1,by have:=List.length_pos_iff.2 hne;omega⟩
  have hx:=last_at hlast
  obtain⟨a0,a1⟩:=flatR_at l _ x hx
  have key:∀ j,j<l.length*2->w1.cell? ⟨g,j,none⟩=(Bt l)[j]?:=λ j hj=>by
   rw[<- g7,List.getElem?_take_of_lt hj]
   simp[World.cell?,g3]
  have e0:w1.cell? ⟨g,k*2,none⟩=some (.int .i64 (x.1:Nat)):=by rw[key _ (by omega)];rw [hk] at a0;exact a0
  have e1:w1.cell? ⟨g,k*2+1,none⟩=some (.int .i64 (x.2:Nat)):=by rw[key _ (by omega)];rw [hk] at a1;exact a1
  have hxs:=hs x (List.mem_of_getElem? hx)
  rw[hk] at HRo c0 HBl hl ⊢
  have HLn:=sE hk
  have p0:(0:Int)<(k:Int)+1:=by omega
  have p1:(k:Int)<(k:Int)+1:=by omega
  have p2:(0:Int)<=(k:Int):=by omega
  have u1:IntKind.i64.wrap ((k:Int)+1-1)=(k:Int):=by rw[IntKind.wrap_i64];omega
  have u2:IntKind.i64.wrap (((k+1:Nat):Int)-1)=(k:Int):=by rw[IntKind.wrap_i64];omega
  have u3:IntKind.i64.wrap (k:Int)=(k:Int):=by rw[IntKind.wrap_i64];omega
  have u4:IntKind.i64.wrap ((x.1:Int)+(x.2:Int))=(x.1:Int)+(x.2:Int):=by rw[IntKind.wrap_i64];omega
  by_cases ht:x.1+x.2=r.1
  .have HJ:Sl (joinL l r=l.dropLast++[(x.1,x.2+r.2)]):=⟨by unfold joinL;rw [hlast];simp only;rw [if_pos ht]⟩
   have HJf:Sl (Bt (l.dropLast++[(x.1,x.2+r.2)])=(Bt l).set (k*2+1) (.int .i64 ((x.2+r.2:Nat):Int))):=⟨by rw[flatR_last _ hlast,hk];rfl⟩
   have HJl:Sl ((l.dropLast++[(x.1,x.2+r.2)]).length=k+1):=⟨by rw[List.length_append,List.length_dropLast,hk];simp⟩
   have q1:(((x.1:Int)+(x.2:Int))==(r.1:Int))=true:=by rw[beq_iff_eq];omega
   have u5:IntKind.i64.wrap ((x.2:Int)+(r.2:Int))=(x.2:Int)+(r.2:Int):=by rw[IntKind.wrap_i64];omega
   have gf:=Ae g3 (k*2+1)
   clear ho1 hlast hne g2 g3 g4 g5 g6 g7 hx a0 a1 key hk ht hs
   subst hw1
   go_enter func173,ntmps173
   go_wp2_with fail
   go_quiet (fail)
   go_wp2_with fail
   obtain⟨w2,hw2⟩:∃ w2,w2=(w.alloc (.cells #[.int .i64 (r.1:Nat),.int .i64 (r.2:Nat)] 225)).drewN nq:=⟨_,rfl⟩
   have kd:Kp Ab (w.alloc (.cells #[.int .i64 (r.1:Nat),.int .i64 (r.2:Nat)] 225)) w2:=by rw[hw2];exact Kp.Aj _
   rw[<- hw2]
   clear hw2
   have HK2:Sl (Kp Ab w w2.drew):=⟨(HK1.out.then' kd).drew⟩
   have HRr:=sE (Ai HRo.out kd.drew (λ _ _ h=>h))
   have HBr:=sE (kd.drew.at_ HBl.out (λ h=>h))
   have r1':w2.drew.cell? ⟨w.heap.size,1,none⟩=some (.int .i64 (r.2:Nat)):=kd.drew.cell r1 (λ h=>h)
   have c0':w2.drew.cell? ⟨lb,0,none⟩=some (.slice (some ⟨g,0,none⟩) (k+1) cap):=kd.drew.cell c0 (λ h=>h)
   have e1':w2.drew.cell? ⟨g,k*2+1,none⟩=some (.int .i64 (x.2:Nat)):=kd.drew.cell e1 (λ h=>h)
   have gf':w2.drew.frozen? ⟨g,k*2+1,none⟩=false:=by
    rcases HRr.out.2 with ⟨h,-⟩|⟨g',cap',cur',hv,h2,h3,-⟩
    .simp at h
    .simp only[Value.slice.injEq,Option.some.injEq,Addr.mk.injEq] at hv
     obtain⟨⟨rfl,-,-⟩,-,rfl⟩:=hv
     exact Ae h3 _
   clear kd c0 r0 r1 f0 e0 e1 gf
   go_region
   go_wp2
   refine bodyPost_ret (results_none rfl _ _ _) rfl ?_
   have hset:(w2.setCell ⟨g,k*2+1,none⟩ (.int .i64 ((x.2:Int)+(r.2:Int)))).drew=w2.drew.setCell ⟨g,k*2+1,none⟩ (.int .i64 ((x.2+r.2:Nat):Int)):=by rw[Int.natCast_add];rfl
   rw[hset]
   have KS:Kp (λ b=>b=g) w2.drew (w2.drew.setCell ⟨g,k*2+1,none⟩ (.int .i64 ((x.2+r.2:Nat):Int))):=(Kr (λ b=>b=g) w2.drew).setCell (λ _=>rfl) _
   have hgb:base<=g:=(Af HRr.out rfl).1
   refine⟨rfl,_,KS.at_ HBr.out (by omega),?_,(HK2.out.Ak _).trans KS (λ i _ h=>.inr (by rw[h];rfl))⟩
   rw[HJ.out,HJl.out,HJf.out]
   exact owns_set HRr.out (by omega)
  .have HJ:Sl (joinL l r=l++[r]):=⟨by unfold joinL;rw [hlast];simp only;rw [if_neg ht]⟩
   have q1:(((x.1:Int)+(x.2:Int))==(r.1:Int))=false:=by rw[beq_eq_false_iff_ne];omega
   clear ho1 hlast hne g2 g3 g4 g5 g6 g7 hx a0 a1 key hk ht hs
   subst hw1
   go_enter func173,ntmps173
   go_wp2_with fail
   go_quiet (fail)
   obtain⟨w2,hw2⟩:∃ w2,w2=(w.alloc (.cells #[.int .i64 (r.1:Nat),.int .i64 (r.2:Nat)] 225)).drewN nq:=⟨_,rfl⟩
   have kd:Kp Ab (w.alloc (.cells #[.int .i64 (r.1:Nat),.int .i64 (r.2:Nat)] 225)) w2:=by rw[hw2];exact Kp.Aj _
   rw[<- hw2]
   clear hw2
   have HK2:Sl (Kp Ab w w2):=⟨HK1.out.then' kd⟩
   have HBr:=sE (kd.at_ HBl.out (λ h=>h))
   have HRr:=sE (Ai HRo.out kd (λ _ _ h=>h))
   have r0':=kd.cell r0 (λ h=>h)
   have r1':=kd.cell r1 (λ h=>h)
   have c0':=kd.cell c0 (λ h=>h)
   have zd:=HK2.out.size
   clear kd c0 r0 r1 f0
   go_wp2_with (at_builtin;obtain ⟨i0,hi,hz0,hz1,hz2⟩:=info_parts infoRun;go_loud (refine wpList_append_lies _ rfl (.tmp 37) (.tmp 39) 163 rfl base 225 i0 _ 2 16 Cz hi hz0 hz1 hz2 rfl (by omega) (.slice (some ⟨g,0,none⟩) (k+1) cap) (k+1) (Bt l) rfl (HRr.out.alloc _) ⟨w2.heap.size,0,none⟩ 1 1 [.int .i64 (r.1:Nat),.int .i64 (r.2:Nat)] rfl rfl (World.news_of_block (wN w2 _)) (by intro u hu;simp at hu;rcases hu with rfl|rfl <;> rfl) (by omega) (by unfold maxLen;omega) (by omega) (by first|(simp;done)|(simp;omega)) (w2.heap.size+1) (by simp) ?_);intro gn capn w3 hown3 hgrow hat hlt;clear hi hz0 hz1 hz2;have hnb:¬ ((.slice (some ⟨g,0,none⟩) (k+1) cap):Value).ownBlock=some lb:=λ h=>(by have:=Af HRr.out h;omega);have k3:Kp (λ k=>((.slice (some ⟨g,0,none⟩) (k+1) cap):Value).ownBlock=some k) w2 w3:=((Kr Ab w2).alloc _ |>.Ak _).grown hgrow (λ k e h=>by first|exact h|exact e);have b3:=k3.at_ HBr.out hnb;have f3:=Ae b3 0;have c3:=cell_of_one b3;have HR3:=sE hown3;have HB3:=sE b3;have HK3:=sE k3;clear hown3 hgrow hat b3 k3)
   go_end0
   have KS:Kp (λ k=>k=lb) w3 (w3.setCell ⟨lb,0,none⟩ (.slice (some ⟨gn,0,none⟩) (k+1+1) capn)):=(Kr (λ k=>k=lb) w3).setCell (λ _=>rfl) _
   refine⟨rfl,_,one_setCell HB3.out,?_,((HK2.out.Ak _).trans (HK3.out.mono λ i _ h=>.inr h) (λ _ _ h=>h)).trans KS (λ _ _ h=>.inl h)⟩
   rw[HJ.out,EM,List.length_append,HLn.out]
   exact Ai HR3.out KS (λ b hb' e=>by have:=(Af HR3.out hb').1;omega)

def EqAt(w:World)(eb b:Nat):Prop:=w.cell? ⟨eb,0,none⟩=some (.func (.func 194) #[] #[.pointer (some ⟨b,0,none⟩)])/\eb<w.heap.size/\ByAt w b

theorem EqAt.keepG{w w':World}{eb b g:Nat}(h:EqAt w eb b)(k:Kp (λ k=>k=g) w w')(h1:¬ eb=g)(h2:¬ b=g):EqAt w' eb b:=⟨k.cell h.1 h1,Nat.lt_of_lt_of_le h.2.1 k.size,k.cell h.2.2.1 h2,Nat.lt_of_lt_of_le h.2.2.2 k.size⟩

theorem EqBy_at(x y:Nat×Nat)(eb b:Nat)(w:World)(h:EqAt w eb b):
  Calls prog 198 #[.agg #[.int .i64 (x.1:Nat),.int .i64 (x.2:Nat)],.agg #[.int .i64 (y.1:Nat),.int .i64 (y.2:Nat)],.pointer (some ⟨eb,0,none⟩)] w λ e w'=>e=.returned (.bool (decide (x.1=y.1)))/\Kp Ab w w':=by
 obtain⟨he,hel,hb⟩:=h
 obtain⟨w1,hw1⟩:∃ w1,w1=w.alloc (.cells #[.int .i64 (x.1:Nat),.int .i64 (x.2:Nat)] 225):=⟨_,rfl⟩
 obtain⟨w2,hw2⟩:∃ w2,w2=w1.alloc (.cells #[.int .i64 (y.1:Nat),.int .i64 (y.2:Nat)] 225):=⟨_,rfl⟩
 have k1:Kp Ab w w1:=by rw[hw1];exact (Kr _ w).alloc _
 have k2:Kp Ab w1 w2:=by rw[hw2];exact (Kr _ w1).alloc _
 have b1:w1.heap[w.heap.size]?=some (.cells #[.int .i64 (x.1:Nat),.int .i64 (x.2:Nat)] 225 (0,0)):=by rw[hw1];exact wN w _
 have b2:w2.heap[w1.heap.size]?=some (.cells #[.int .i64 (y.1:Nat),.int .i64 (y.2:Nat)] 225 (0,0)):=by rw[hw2];exact wN w1 _
 have z1:w1.heap.size=w.heap.size+1:=by rw[hw1];simp
 rw[z1] at b2
 have b1':=k2.at_ b1 (λ h=>h)
 have x0:w2.cell? ⟨w.heap.size,0,none⟩=some (.int .i64 (x.1:Nat)):=by simp[World.cell?,b1']
 have x1:w2.cell? ⟨w.heap.size,1,none⟩=some (.int .i64 (x.2:Nat)):=by simp[World.cell?,b1']
 have y0:w2.cell? ⟨w.heap.size+1,0,none⟩=some (.int .i64 (y.1:Nat)):=by simp[World.cell?,b2]
 have y1:w2.cell? ⟨w.heap.size+1,1,none⟩=some (.int .i64 (y.2:Nat)):=by simp[World.cell?,b2]
 have K2:=k1.then' k2
 have he2:=K2.cell he (λ h=>h)
 have HB:=sE (By_at x y b w2 (hb.Ad K2))
 have HV:Sl (((cmpN x.1 y.1)==0)=decide (x.1=y.1)):=⟨by
  unfold cmpN
  by_cases h1:x.1<y.1
  .rw [if_pos h1,dF (by omega)];rfl
  .by_cases h2:y.1<x.1
   .rw [if_neg h1,if_pos h2,dF (by omega)];rfl
   .rw [if_neg h1,if_neg h2,dT (by omega)];rfl⟩
 clear he hb b1 b2 b1' k1 k2 z1
 subst hw2 hw1
 go_enter func198,ntmps198
 go_wp2_with fail
 refine HB.out.mono ?_
 rintro e w3 ⟨rfl,k3,-⟩
 go_wp2
 go_ret
 exact⟨by rw[<- HV.out];rfl,K2.then' k3⟩

def CmpPost(L:List (Nat×Nat))(g cap:Nat)(w:World)(e:Ending)(w':World):Prop:=
 e=.returned (.slice (some ⟨g,0,none⟩) (CE L).length cap)/\Kp (λ k=>k=g) w w'/\∃ f,RunF w' g cap (CE L).length f/\∀ p x,(CE L)[p]?=some x->f p=x

theorem zeroRun21(w:World):(zeroValue 225).run prog w=.ok (.agg #[.int .i64 0,.int .i64 0]) w:=by kernel_rfl

theorem Fh{L:List (Nat×Nat)}:∀ {j:Nat},j<=L.length->(∀ p z y,p+1<j->L[p]?=some z->L[p+1]?=some y->¬ y.1=z.1)->CE (L.take j)=L.take j
 |0,_,_=>rfl
 |1,h,_=>by
  cases L with
  |nil=>rfl
  |cons x L=>rfl
 |j+2,h,hd=>by
  obtain⟨z,hz⟩:∃ z,L[j]?=some z:=⟨_,List.getElem?_eq_getElem (by omega)⟩
  obtain⟨y,hy⟩:∃ y,L[j+1]?=some y:=⟨_,List.getElem?_eq_getElem (by omega)⟩
  rw[onceR_take hz hy,if_neg (hd j z y (by omega) hz hy),Fh (by omega) (λ p a b hp=>hd p a b (by omega)),List.take_add_one (i:=j+1),hy]
  rfl

set_option maxRecDepth 20000 in
theorem Compact_at(L:List (Nat×Nat))(g cap n eb:Nat)(f0:Nat->Nat×Nat)(w:World)(h:RunF w g cap n f0)(hl:L.length=n)(hf:∀ p x,L[p]?=some x->f0 p=x)(hn:n<=65536)(hcap:cap<=9223372036854775807)(heg:¬ eb=g)
  (hE:∀ (x y:Nat×Nat) W',Kp (λ k=>k=g) w W'->Calls prog 198 #[.agg #[.int .i64 (x.1:Nat),.int .i64 (x.2:Nat)],.agg #[.int .i64 (y.1:Nat),.int .i64 (y.2:Nat)],.pointer (some ⟨eb,0,none⟩)] W' λ e w'=>e=.returned (.bool (decide (x.1=y.1)))/\Kp Ab W' w'):
  Calls prog 197 #[.slice (some ⟨g,0,none⟩) n cap,.func (.func 198) #[] #[.pointer (some ⟨eb,0,none⟩)]] w (CmpPost L g cap w):=by
 have HR:=sE h
 have HE:=sE hE
 have HF:Sl (∀ p,p<n->L[p]?=some (f0 p)):=⟨λ p hp=>by
  obtain⟨x,hx⟩:∃ x,L[p]?=some x:=⟨_,List.getElem?_eq_getElem (by omega)⟩
  rw[hx,hf p x hx]⟩
 have hnc:=h.le
 have HL:=sE hl
 clear h hf hl hE
 go_enter func197,ntmps197
 by_cases h2:n<2
 .have h2':(n:Int)<2:=by omega
  have HO:Sl (CE L=L):=⟨by
   have:=Fh (L:=L) (j:=n) (by rw[HL.out];exact Nat.le_refl _) (λ p z y hp=>by omega)
   rwa [List.take_of_length_le (by rw[HL.out];exact Nat.le_refl _)] at this⟩
  go_wp2
  go_ret
  refine⟨by rw[HO.out,HL.out];rfl,Kr _ _,f0,by rw[HO.out,HL.out];exact HR.out,λ p x hx=>?_⟩
  rw[HO.out] at hx
  have hp:=(gE.1 hx).1
  have:=HF.out p (by rw[<- HL.out];exact hp)
  rw[hx] at this
  injection this with this
  exact this.symm
 .have h2':¬ (n:Int)<2:=by omega
  go_wp2_with fail
  go_loopw [5] (λ y wr=>∃ i:Nat,i+1<=n/\y=.int .i64 ((i+1:Nat):Int)/\Sl (∀ p z y,p+1<i+1->L[p]?=some z->L[p+1]?=some y->¬ y.1=z.1)/\Kp Ab w wr) (λ y _=>n-(intOf y).toNat)
  case atStart=>exact ⟨0,by omega,rfl,⟨λ p z y hp=>by omega⟩,Kr _ _⟩
  case round=>
   obtain⟨i,hi,rfl,HD,hk⟩:=hrel
   have HK:=sE hk
   by_cases hjl:i+1<n
   .have hjl':(i:Int)+1<(n:Int):=by omega
    obtain⟨x,hx⟩:∃ x,f0 (i+1)=x:=⟨_,rfl⟩
    obtain⟨z,hz⟩:∃ z,f0 i=z:=⟨_,rfl⟩
    obtain⟨c0,c1⟩:=(HR.out.keep hk (λ h=>h)).cells hjl
    obtain⟨d0,d1⟩:=(HR.out.keep hk (λ h=>h)).cells (p:=i) (by omega)
    rw[hx] at c0 c1
    rw[hz] at d0 d1
    have HX:Sl (L[i+1]?=some x/\L[i]?=some z):=⟨by rw[HF.out (i+1) hjl,HF.out i (by omega),hx,hz];exact ⟨rfl,rfl⟩⟩
    have HEx:=sE (λ W' (kk:Kp Ab wr W')=>HE.out x z W' ((hk.then' kk).Ak _))
    clear hk hx hz
    go_wp2_with fail
    have hz0:(0:Int)<=(i:Int)+1:=by omega
    have hz1:(i:Int)<(n:Int):=by omega
    have hz2:(0:Int)<=(i:Int):=by omega
    have hwr3:IntKind.i64.wrap (i:Int)=(i:Int):=by rw[IntKind.wrap_i64];omega
    have hwr1:IntKind.i64.wrap ((i:Int)+1-1)=(i:Int):=by rw[IntKind.wrap_i64];omega
    have hwr2:IntKind.i64.wrap (((i+1:Nat):Int)-1)=(i:Int):=by rw[IntKind.wrap_i64];omega
    refine wp_region_held_drew (S:=λ w'=>w'.cell? ⟨g,(i+1)*2,none⟩=some (.int .i64 (x.1:Nat))/\w'.cell? ⟨g,(i+1)*2+1,none⟩=some (.int .i64 (x.2:Nat))/\w'.cell? ⟨g,i*2,none⟩=some (.int .i64 (z.1:Nat))/\w'.cell? ⟨g,i*2+1,none⟩=some (.int .i64 (z.2:Nat))) (by kernel_rfl) ?_ (λ qZ=>?_)
    .exact ⟨c0,c1,d0,d1⟩
    refine Ao 0 ?_;refine Ao 1 ?_;refine Ao 2 ?_;refine Ao 3 ?_;refine Ao 4 ?_;refine Ao 5 ?_;refine Ao 6 ?_;refine Ao 7 ?_;refine Ao 8 ?_;refine Ao 9 ?_
    try simp only[Ar]
    refine AQ [10] ?_
    refine Ag rfl (λ K hK=>?_)
    go_simp
    go_at_call 198
    (with_reducible refine(HEx.out _ (Kr _ _).drew).mono ?_)
    rintro e w9 ⟨rfl,k9⟩
    have K9:Kp Ab wr w9:=((Kr Ab wr).drew).then' k9
    refine hK _ _ ?_ (λ qZ=>?_)
    .exact ⟨Ac K9 c0,Ac K9 c1,Ac K9 d0,Ac K9 d1⟩
    clear hK K
    try simp only[Ar]
    refine wpAnyH_done (by kernel_rfl) ?_ _
    have HK9:=sE (HK.out.then' K9)
    clear k9 K9 c0 c1 d0 d1 qZ hwr1 hwr2
    by_cases hxz:x.1=z.1
    .have p1:decide (x.1=z.1)=true:=dT hxz
     rw[p1]
     have HT0:Sl (CE (L.take (i+1+1))=L.take (i+1)):=⟨by
      rw[onceR_take HX.out.2 HX.out.1,if_pos hxz,List.append_nil]
      exact Fh (by rw[HL.out];omega) HD.out⟩
     clear p1 hxz
     go_wp2_with fail
     have HR9:=sE (HR.out.keep HK9.out (λ h=>h))
     obtain⟨m,hm⟩:∃ m,n-(i+1)=m:=⟨_,rfl⟩
     obtain⟨cm,hcm⟩:∃ cm,cap-(i+1)=cm:=⟨_,rfl⟩
     rw[hm,hcm]
     obtain⟨o,ho⟩:∃ o,(i+1)*2=o:=⟨_,rfl⟩
     rw[ho]
     clear HEx
     go_loopw [5,7] (λ x5 x7 wr=>∃ (q c:Nat) (f:Nat->Nat×Nat),q+1<=m/\x7=.int .i64 ((q+1:Nat):Int)/\x5=.int .i64 (c:Nat)/\c<=i+1+q/\Sl (c=(CE (L.take (i+1+(q+1)))).length)/\RunF wr g cap n f/\Sl (∀ p,p<c->(CE (L.take (i+1+(q+1))))[p]?=some (f p))/\Sl (∀ p,i+1+q<=p->p<n->f p=f0 p)/\Kp (λ k=>k=g) w9 wr) (λ _ x7 _=>m-(intOf x7).toNat)
     case atStart=>
      refine⟨0,i+1,f0,by omega,rfl,by go_num,by omega,⟨?_⟩,HR9.out,⟨λ p hp=>?_⟩,⟨λ p _ _=>rfl⟩,Kr _ _⟩
      .rw [HT0.out,List.length_take,HL.out];omega
      .rw [HT0.out,List.getElem?_take_of_lt hp]
       exact HF.out p (by omega)
     case round=>
      obtain⟨q,c,f,hq,rfl,rfl,hcq,HC,hr,HA,HB,hk9⟩:=hrel
      have HKr:=sE hk9
      have HRr:=sE hr
      by_cases hql:q+1<m
      .have hql':(q:Int)+1<(m:Int):=by omega
       obtain⟨x',hx'⟩:∃ x',f0 (i+1+(q+1))=x':=⟨_,rfl⟩
       obtain⟨z',hz'⟩:∃ z',f0 (i+1+q)=z':=⟨_,rfl⟩
       have ha:i+1+(q+1)<n:=by omega
       obtain⟨c0,c1⟩:=hr.cells ha
       obtain⟨d0,d1⟩:=hr.cells (p:=i+1+q) (by omega)
       rw[HB.out _ (by omega) ha,hx'] at c0 c1
       rw[HB.out _ (by omega) (by omega),hz'] at d0 d1
       rw[show (i+1+(q+1))*2=o+(q+1)*2 by omega] at c0 c1
       rw[show (i+1+q)*2=o+q*2 by omega] at d0 d1
       have HXq:Sl (L[i+1+(q+1)]?=some x'/\L[i+1+q]?=some z'):=⟨by rw[HF.out _ ha,HF.out (i+1+q) (by omega),hx',hz'];exact ⟨rfl,rfl⟩⟩
       have HSu:Sl (CE (L.take (i+1+(q+1)+1))=CE (L.take (i+1+(q+1)))++(if x'.1=z'.1 then [] else [x'])):=⟨onceR_take (j:=i+1+q) HXq.out.2 HXq.out.1⟩
       have HEx:=sE (λ W' (kk:Kp Ab wr W')=>HE.out x' z' W' (((HK9.out.Ak (λ k=>k=g)).trans HKr.out (λ _ _ h=>h)).trans kk (λ _ _ h=>h.elim)))
       have hz0:(0:Int)<=(q:Int)+1:=by omega
       have hz1:(q:Int)<(m:Int):=by omega
       have hz2:(0:Int)<=(q:Int):=by omega
       have hwr3:IntKind.i64.wrap (q:Int)=(q:Int):=by rw[IntKind.wrap_i64];omega
       have hwr1:IntKind.i64.wrap ((q:Int)+1-1)=(q:Int):=by rw[IntKind.wrap_i64];omega
       have hwr2:IntKind.i64.wrap (((q+1:Nat):Int)-1)=(q:Int):=by rw[IntKind.wrap_i64];omega
       clear hk9 hr hx' hz'
       go_wp2_with fail
       refine wp_region_held_drew (S:=λ w'=>w'.cell? ⟨g,o+(q+1)*2,none⟩=some (.int .i64 (x'.1:Nat))/\w'.cell? ⟨g,o+(q+1)*2+1,none⟩=some (.int .i64 (x'.2:Nat))/\w'.cell? ⟨g,o+q*2,none⟩=some (.int .i64 (z'.1:Nat))/\w'.cell? ⟨g,o+q*2+1,none⟩=some (.int .i64 (z'.2:Nat))) (by kernel_rfl) ?_ (λ qZ=>?_)
       .exact ⟨c0,c1,d0,d1⟩
       refine Ao 0 ?_;refine Ao 1 ?_;refine Ao 2 ?_;refine Ao 3 ?_;refine Ao 4 ?_;refine Ao 5 ?_;refine Ao 6 ?_;refine Ao 7 ?_;refine Ao 8 ?_;refine Ao 9 ?_
       try simp only[Ar]
       refine AQ [10] ?_
       refine Ag rfl (λ K hK=>?_)
       go_simp
       go_at_call 198
       (with_reducible refine(HEx.out _ (Kr _ _).drew).mono ?_)
       rintro e w8 ⟨rfl,k8⟩
       have K8:Kp Ab wr w8:=((Kr Ab wr).drew).then' k8
       refine hK _ _ ?_ (λ qZ=>?_)
       .exact ⟨Ac K8 c0,Ac K8 c1,Ac K8 d0,Ac K8 d1⟩
       clear hK K
       try simp only[Ar]
       refine Ao 11 ?_
       try simp only[Ar]
       refine wpAnyH_done (by kernel_rfl) ?_ _
       have e0:=Ac K8 c0
       have e1:=Ac K8 c1
       have HK8:=sE K8
       have hr8:=HRr.out.keep K8 (λ h=>h)
       have hcn:c<n:=by omega
       have hcn':(c:Int)<(n:Int):=by omega
       obtain⟨y0,y1⟩:=hr8.cells hcn
       have hfz:=hr8.free
       have HR8:=sE hr8
       clear k8 K8 c0 c1 d0 d1 qZ hr8
       by_cases hxz:x'.1=z'.1
       .have p1:decide (x'.1=z'.1)=true:=dT hxz
        rw[if_pos hxz,List.append_nil] at HSu
        rw[p1]
        clear hxz p1
        go_wp2
        refine⟨⟨q+1,c,f,by omega,by go_num,rfl,by omega,⟨?_⟩,HR8.out,⟨λ p hp=>?_⟩,⟨λ p h1 h2=>HB.out p (by omega) h2⟩,HKr.out.trans HK8.out (λ _ _ h=>h.elim)⟩,by simp only[intOf];omega⟩
        .rw [show i+1+(q+1+1)=i+1+(q+1)+1 from rfl,HSu.out]
         exact HC.out
        .rw [show i+1+(q+1+1)=i+1+(q+1)+1 from rfl,HSu.out]
         exact HA.out p hp
       .have p1:decide (x'.1=z'.1)=false:=dF hxz
        rw[if_neg hxz] at HSu
        rw[p1]
        clear hxz p1
        go_wp2
        have hrs:=HR8.out.store hcn x'
        have ks:Kp (λ k=>k=g) w8 ((w8.setCell ⟨g,c*2,none⟩ (.int .i64 (x'.1:Nat))).setCell ⟨g,c*2+1,none⟩ (.int .i64 (x'.2:Nat))):=
         ((Kr (λ k=>k=g) w8).setCell (λ _=>rfl) _).setCell (λ _=>rfl) _
        refine⟨⟨q+1,c+1,updR f c x',by omega,by go_num,by go_num,by omega,⟨?_⟩,hrs,⟨λ p hp=>?_⟩,⟨λ p h1 h2=>?_⟩,(HKr.out.trans HK8.out (λ _ _ h=>h.elim)).trans ks (λ _ _ h=>h)⟩,by simp only[intOf];omega⟩
        .rw [show i+1+(q+1+1)=i+1+(q+1)+1 from rfl,HSu.out,List.length_append,<- HC.out]
         rfl
        .rw [show i+1+(q+1+1)=i+1+(q+1)+1 from rfl,HSu.out]
         by_cases e:p=c
         .subst e
          rw[List.getElem?_append_right (by rw[<- HC.out];exact Nat.le_refl _),<- HC.out,Nat.sub_self]
          simp[updR]
         .rw [List.getElem?_append_left (by rw[<- HC.out];omega),HA.out p (by omega)]
          simp[updR,e]
        .rw [<- HB.out p (by omega) h2]
         unfold updR
         rw[if_neg (by omega)]
      .have hql':¬ (q:Int)+1<(m:Int):=by omega
       obtain⟨vs,hvs⟩:∃ vs,(Builtin.zeroCells (Value.cells (.agg #[.int .i64 0,.int .i64 0])) (n-c)).toList=vs:=⟨_,rfl⟩
       have hcl:∀ ty,(Builtin.clear_ #[163] ty #[.slice (some ⟨g,c*2,none⟩) (n-c) (cap-c)]).run prog wr=.ok (.tuple #[]) (wr.setCells g (c*2) vs):=λ ty=>by
        rw[<- hvs]
        exact run_clear_cells wr _ 225 ty _ 2 Cz zeroRun21 rfl (by intro u hu;simp [Value.cells] at hu;rcases hu with rfl|rfl <;> rfl) (by omega) g (c*2) (n-c) _ (by omega)
         (λ p hp=>hr.isCell (by have:=hr.le;omega)) (λ p hp=>hr.free _)
       have hcn':(c:Int)<(n:Int):=by omega
       have hcc:c<=cap:=by omega
       have hcc':(c:Int)<=(cap:Int):=by omega
       have HVs:=sE hvs
       clear hk9 hr hvs
       go_wp2
       go_ret
       obtain⟨cur,e1,e2,e3⟩:=HRr.out.blk
       obtain⟨cur',d1,d2,d3,d4⟩:=E5 g 225 vs (c*2) wr cur e1
       have hall:L.take (i+1+(q+1))=L:=List.take_of_length_le (by rw[HL.out];omega)
       have hcL:c=(CE L).length:=by have:=HC.out;rwa [hall] at this
       refine⟨by rw[<- hcL];rfl,((HK9.out.Ak (λ k=>k=g)).trans HKr.out (λ _ _ h=>h)).trans d4 (λ _ _ h=>h),f,⟨⟨cur',d1,by rw[d2,e2],λ p hp=>?_⟩,by omega,HRr.out.cap_le⟩,λ p x hx=>?_⟩
       .rw [<- hcL] at hp
        rw[d3 _ (by omega),d3 _ (by omega)]
        exact e3 p (by omega)
       .have hp:=(gE.1 hx).1
        have:=HA.out p (by omega)
        rw[hall,hx] at this
        injection this with this
        exact this.symm
    .have p1:decide (x.1=z.1)=false:=dF hxz
     have HD2:Sl (∀ p z y,p+1<i+1+1->L[p]?=some z->L[p+1]?=some y->¬ y.1=z.1):=⟨λ p z' y' hp h1 h2=>by
      by_cases e:p=i
      .subst e
       rw[HX.out.2] at h1
       rw[HX.out.1] at h2
       injection h1 with h1
       injection h2 with h2
       rw[<- h1,<- h2]
       exact hxz
      .exact HD.out p z' y' (by omega) h1 h2⟩
     go_wp2
     exact⟨⟨i+1,by omega,by go_num,HD2,HK9.out⟩,by simp only[intOf];omega⟩
   .have hjl':¬ (i:Int)+1<(n:Int):=by omega
    have HO:Sl (CE L=L):=⟨by
     have:=Fh (L:=L) (j:=n) (by rw[HL.out];exact Nat.le_refl _) (λ p z y hp=>HD.out p z y (by omega))
     rwa [List.take_of_length_le (by rw[HL.out];exact Nat.le_refl _)] at this⟩
    clear hk
    go_wp2
    go_ret
    refine⟨by rw[HO.out,HL.out];rfl,HK.out.Ak _,f0,by rw[HO.out,HL.out];exact HR.out.keep HK.out (λ h=>h),λ p x hx=>?_⟩
    rw[HO.out] at hx
    have hp:=(gE.1 hx).1
    have:=HF.out p (by rw[<- HL.out];exact hp)
    rw[hx] at this
    injection this with this
    exact this.symm

end

end Go.Proofs.YtmfajopmppfldaaGreatDoor
