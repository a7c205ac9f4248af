/-
  Lemmas for the laws, together: IsleD, IsleR, MarkA, MarkC.
-/
import Derived.Test.YtmfajopmppfldaaGreatDoorQa
import Derived.Test.YtmfajopmppfldaaGreatDoorQi
import Derived.Test.YtmfajopmppfldaaGreatDoorQf
import Derived.Test.YtmfajopmppfldaaGreatDoorQe
import Derived.Test.YtmfajopmppfldaaGreatDoorQd
import Derived.Sort.Grow
import Derived.Conc.LoneSelect
import Derived.Test.YtmfajopmppfldaaGreatDoorQc
import Derived.Deep.RegionHeld3
import Derived.Deep.RegionHeldLaw
import Derived.Test.YtmfajopmppfldaaGreatDoorQh
import Derived.Conc.SmallLaws
set_option linter.unusedVariables false
set_option maxHeartbeats 16000000
namespace Go.Proofs.YtmfajopmppfldaaGreatDoor
open Go.Proofs.Tryz
section

def cov(L:List (Nat×Nat))(g:Nat):Bool:=L.any λ r=>decide (r.1<=g/\g<r.1+r.2)

def BI:Nat->List (Nat×Nat)->Nat->Prop
 |e,[],H=>e<=H
 |e,r::L,H=>e<=r.1/\0<r.2/\BI (r.1+r.2) L H

def ApartR:Nat->List (Nat×Nat)->Nat->Prop
 |e,[],H=>e<=H
 |e,r::L,H=>e<r.1/\0<r.2/\ApartR (r.1+r.2) L H

def Apart0:List (Nat×Nat)->Nat->Prop
 |[],H=>True
 |r::L,H=>0<r.2/\ApartR (r.1+r.2) L H

theorem ApartR.rise:∀ {L:List (Nat×Nat)} {e H:Nat},ApartR e L H->BI e L H
 |[],e,H,h=>h
 |r::L,e,H,⟨h1,h2,h3⟩=>⟨Nat.le_of_lt h1,h2,h3.rise⟩

theorem Apart0.rise{L:List (Nat×Nat)}{H:Nat}(h:Apart0 L H):BI 0 L H:=by
 cases L with
 |nil=>exact Nat.zero_le _
 |cons r L=>exact ⟨Nat.zero_le _,h.1,h.2.rise⟩

theorem BI.le:∀ {L:List (Nat×Nat)} {e H:Nat},BI e L H->e<=H
 |[],e,H,h=>h
 |r::L,e,H,⟨h1,h2,h3⟩=>by have:=h3.le;omega

theorem BI.cov_lt:∀ {L:List (Nat×Nat)} {e H g:Nat},BI e L H->cov L g=true->e<=g/\g<H
 |[],e,H,g,h,hc=>by simp[cov] at hc
 |r::L,e,H,g,⟨h1,h2,h3⟩,hc=>by
  unfold cov at hc
  rw[List.any_cons,Bool.or_eq_true,decide_eq_true_eq] at hc
  have:=h3.le
  rcases hc with h|h
  .omega
  .have:=h3.cov_lt (g:=g) h
   omega

theorem Ep(r:Nat×Nat)(L:List (Nat×Nat))(g:Nat):cov (r::L) g=(decide (r.1<=g/\g<r.1+r.2)||cov L g):=rfl

theorem cov_app(L M:List (Nat×Nat))(g:Nat):cov (L++M) g=(cov L g||cov M g):=by simp[cov]

def CJ:Nat×Nat->List (Nat×Nat)->List (Nat×Nat)
 |c,[]=>[c]
 |c,r::rs=>if c.1+c.2=r.1 then CJ (c.1,c.2+r.2) rs else c::CJ r rs

def Ev:List (Nat×Nat)->List (Nat×Nat)
 |[]=>[]
 |r::rs=>CJ r rs

def joinL(l:List (Nat×Nat))(r:Nat×Nat):List (Nat×Nat):=
 match l.getLast? with
 |some x=>if x.1+x.2=r.1 then l.dropLast++[(x.1,x.2+r.2)] else l++[r]
 |none=>[r]

theorem joinGo_ne:∀ (c:Nat×Nat) (rs:List (Nat×Nat)),CJ c rs≠[]
 |c,[]=>by simp[CJ]
 |c,r::rs=>by
  unfold CJ
  split
  .exact joinGo_ne _ _
  .simp

theorem joinL_cons{c:Nat×Nat}{M:List (Nat×Nat)}(h:M≠[])(r:Nat×Nat):joinL (c::M) r=c::joinL M r:=by
 cases M with
 |nil=>exact absurd rfl h
 |cons d M=>
  unfold joinL
  rw[List.getLast?_cons_cons]
  cases hh:(d::M).getLast? with
  |none=>simp at hh
  |some x=>
   dsimp only
   split
   .rw [List.dropLast_cons_of_ne_nil (by simp)]
    rfl
   .rfl

theorem joinGo_snoc:∀ (c:Nat×Nat) (rs:List (Nat×Nat)) (r:Nat×Nat),CJ c (rs++[r])=joinL (CJ c rs) r
 |c,[],r=>by
  simp only[List.nil_append,CJ,joinL,List.getLast?_singleton]
  split <;> rfl
 |c,x::rs,r=>by
  simp only[List.cons_append,CJ]
  split
  .exact joinGo_snoc _ rs r
  .rw [joinGo_snoc x rs r,joinL_cons (joinGo_ne _ _)]

theorem joinsR_snoc(rs:List (Nat×Nat))(r:Nat×Nat):Ev (rs++[r])=joinL (Ev rs) r:=by
 cases rs with
 |nil=>rfl
 |cons x rs=>exact joinGo_snoc x rs r

theorem joinGo_apart:∀ {rs:List (Nat×Nat)} {c:Nat×Nat} {H:Nat},0<c.2->BI (c.1+c.2) rs H->∃ n M,CJ c rs=(c.1,n)::M/\0<n/\ApartR (c.1+n) M H
 |[],c,H,h0,h=>⟨c.2,[],rfl,h0,h⟩
 |r::rs,c,H,h0,⟨h1,h2,h3⟩=>by
  unfold CJ
  split
  .rename_i e
   exact joinGo_apart (c:=(c.1,c.2+r.2)) (by simp only;omega) (by rw[show (c.1,c.2+r.2).1+(c.1,c.2+r.2).2=r.1+r.2 by simp only;omega];exact h3)
  .rename_i e
   obtain⟨n,M,e1,e2,e3⟩:=joinGo_apart (c:=r) h2 h3
   exact⟨c.2,CJ r rs,rfl,h0,by rw[e1];exact ⟨by simp only;omega,e2,e3⟩⟩

theorem joinsR_apart{rs:List (Nat×Nat)}{H:Nat}(h:BI 0 rs H):Apart0 (Ev rs) H:=by
 cases rs with
 |nil=>trivial
 |cons r rs=>
  obtain⟨h1,h2,h3⟩:=h
  obtain⟨n,M,e1,e2,e3⟩:=joinGo_apart h2 h3
  show Apart0 (CJ r rs) H
  rw[e1]
  exact⟨e2,e3⟩

theorem joinGo_cov:∀ {rs:List (Nat×Nat)} {c:Nat×Nat} {H:Nat},BI (c.1+c.2) rs H->∀ g,cov (CJ c rs) g=cov (c::rs) g
 |[],c,H,h,g=>rfl
 |r::rs,c,H,⟨h1,h2,h3⟩,g=>by
  unfold CJ
  split
  .rename_i e
   rw[joinGo_cov (c:=(c.1,c.2+r.2)) (H:=H) (by rw[show (c.1,c.2+r.2).1+(c.1,c.2+r.2).2=r.1+r.2 by simp only;omega];exact h3) g]
   rw[Ep,Ep,Ep,<- Bool.or_assoc]
   congr 1
   rw[<- Bool.decide_or]
   refine decide_eq_decide.2 ?_
   simp only
   omega
  .rw [Ep,joinGo_cov h3 g,Ep c]

theorem joinsR_cov{rs:List (Nat×Nat)}{H:Nat}(h:BI 0 rs H)(g:Nat):cov (Ev rs) g=cov rs g:=by
 cases rs with
 |nil=>rfl
 |cons r rs=>exact joinGo_cov h.2.2 g

def Bv:Nat->List (Nat×Nat)->Nat->List (Nat×Nat)
 |e,[],H=>if e<H then [(e,H-e)] else []
 |e,r::L,H=>(if e<r.1 then [(e,r.1-e)] else [])++Bv (r.1+r.2) L H

theorem water_cov:∀ {L:List (Nat×Nat)} {e H:Nat},BI e L H->∀ g,cov (Bv e L H) g=(decide (e<=g/\g<H)&& !cov L g)
 |[],e,H,h,g=>by
  unfold Bv
  split
  .simp only[cov,List.any_cons,List.any_nil,Bool.or_false,Bool.not_false,Bool.and_true]
   refine decide_eq_decide.2 ?_
   omega
  .simp only[cov,List.any_nil,Bool.not_false,Bool.and_true]
   exact(dF (by omega)).symm
 |r::L,e,H,⟨h1,h2,h3⟩,g=>by
  have h4:=water_cov h3 g
  have h5:=h3.le
  unfold Bv
  rw[cov_app,h4,Ep]
  have h6:cov L g=true->r.1+r.2<=g/\g<H:=λ hc=>h3.cov_lt hc
  by_cases hL:cov L g=true
  .have:=h6 hL
   rw[hL]
   simp only[Bool.not_true,Bool.and_false,Bool.or_true,Bool.or_false]
   split
   .simp only[cov,List.any_cons,List.any_nil,Bool.or_false]
    exact dF (by omega)
   .rfl
  .have hL':cov L g=false:=by simpa using hL
   rw[hL']
   simp only[Bool.not_false,Bool.and_true,Bool.or_false]
   split
   .simp only[cov,List.any_cons,List.any_nil,Bool.or_false]
    rw[<- Bool.decide_or]
    by_cases hg:e<=g/\g<H
    .by_cases hr:r.1<=g/\g<r.1+r.2
     .rw [dT hg,dT hr]
      exact dF (by omega)
     .rw [dT hg,dF hr]
      exact dT (by omega)
    .rw [dF hg]
     exact dF (by omega)
   .simp only[cov,List.any_nil,Bool.false_or]
    by_cases hg:e<=g/\g<H
    .by_cases hr:r.1<=g/\g<r.1+r.2
     .rw [dT hg,dT hr]
      exact dF (by omega)
     .rw [dT hg,dF hr]
      exact dT (by omega)
    .rw [dF hg]
     exact dF (by omega)

def AltR(L b:List (Nat×Nat))(H g i k:Nat)(land:Bool):Prop:=
 (land=true/\((g=H/\L.drop i=[]/\b.drop k=[])\/∃ r M,L.drop i=r::M/\r.1=g/\0<r.2/\ApartR (r.1+r.2) M H/\b.drop k=Bv (r.1+r.2) M H))\/
 (land=false/\ApartR g (L.drop i) H/\b.drop k=Bv g (L.drop i) H)

theorem drop_head{α:Type}{l M:List α}{i:Nat}{r:α}(h:l.drop i=r::M):l[i]?=some r/\l.drop (i+1)=M:=by
 refine⟨?_,?_⟩
 .have:=List.getElem?_drop (xs:=l) (i:=i) (j:=0)
  rw[h] at this
  simpa using this.symm
 .rw [<- List.tail_drop,h]
  rfl

theorem AltR.start{L:List (Nat×Nat)}{H:Nat}(h:Apart0 L H):AltR L (Bv 0 L H) H 0 0 0 (match L with|[]=>false|r::_=>decide (r.1=0)):=by
 cases L with
 |nil=>exact .inr ⟨rfl,Nat.zero_le _,rfl⟩
 |cons r M=>
  obtain⟨h1,h2⟩:=h
  by_cases e:r.1=0
  .refine .inl ⟨dT e,.inr ⟨r,M,rfl,e,h1,h2,?_⟩⟩
   have hw:Bv 0 (r::M) H=(if 0<r.1 then [(0,r.1-0)] else [])++Bv (r.1+r.2) M H:=rfl
   rw[hw,if_neg (by omega)]
   rfl
  .exact .inr ⟨dF e,⟨by omega,h1,h2⟩,rfl⟩

theorem AltR.le{L b:List (Nat×Nat)}{H g i k:Nat}{land:Bool}(h:AltR L b H g i k land):g<=H:=by
 rcases h with ⟨-,⟨h,-⟩|⟨r,M,-,h1,h2,h3,-⟩⟩|⟨-,h,-⟩
 .omega
 .have:=h3.rise.le;omega
 .exact h.rise.le

theorem AltR.land{L b:List (Nat×Nat)}{H g i k:Nat}(h:AltR L b H g i k true)(hg:g<H):∃ r,L[i]?=some r/\r.1=g/\0<r.2/\AltR L b H (g+r.2) (i+1) k false:=by
 rcases h with ⟨-,⟨h,-⟩|⟨r,M,h0,h1,h2,h3,h4⟩⟩|⟨h,-⟩
 .omega
 .obtain ⟨a,c⟩:=drop_head h0
  refine⟨r,a,h1,h2,.inr ⟨rfl,?_,?_⟩⟩
  .rw [c,<- h1];exact h3
  .rw [c,<- h1];exact h4
 .cases h

theorem AltR.fin{L b:List (Nat×Nat)}{H g i k:Nat}{land:Bool}(h:AltR L b H g i k land)(hg:¬ g<H):g=H/\L.drop i=[]/\b.drop k=[]:=by
 have hle:=h.le
 rcases h with ⟨-,h|⟨r,M,h0,h1,h2,h3,h4⟩⟩|⟨-,h1,h2⟩
 .exact h
 .have:=h3.rise.le;omega
 .refine ⟨by omega,?_⟩
  cases hL:L.drop i with
  |nil=>
   rw[hL] at h2
   unfold Bv at h2
   rw[if_neg hg] at h2
   exact⟨rfl,h2⟩
  |cons r M=>
   rw[hL] at h1
   obtain⟨e1,e2,e3⟩:=h1
   have:=e3.rise.le
   omega

def pinL(cs:List Cel)(p:Nat->Bool):List (Nat×Nat):=((Ap cs).filter λ c=>p c.g).map λ c=>(c.g,c.sz)

theorem pinL_cons(c:Cel)(cs:List Cel)(p:Nat->Bool):pinL (c::cs) p=(if c.tag=1/\p c.g=true then [(c.g,c.sz)] else [])++pinL cs p:=by
 unfold pinL Ap
 by_cases ht:c.tag=1 <;> by_cases hp:p c.g=true <;> simp[ht,hp]

theorem BI.mono{L:List (Nat×Nat)}{e e' H:Nat}(h:BI e L H)(he:e'<=e):BI e' L H:=by
 cases L with
 |nil=>exact Nat.le_trans he h
 |cons r L=>exact ⟨Nat.le_trans he h.1,h.2⟩

theorem EN{p:Nat->Bool}:∀ {cs:List Cel} {a H:Nat},Au a cs H->BI a (pinL cs p) H
 |[],a,H,h=>Nat.le_of_eq h
 |c::cs,a,H,⟨h1,h2,h3⟩=>by
  have ih:=EN (p:=p) h3
  rw[pinL_cons]
  split
  .exact ⟨by simp only;omega,h2,by rw[show (c.g,c.sz).1+(c.g,c.sz).2=a+c.sz by simp only;omega];exact ih⟩
  .exact ih.mono (by omega)

theorem mem_pinL{cs:List Cel}{p:Nat->Bool}{r:Nat×Nat}:r∈pinL cs p ↔ ∃ c∈cs,c.tag=1/\p c.g=true/\r=(c.g,c.sz):=by
 unfold pinL
 rw[List.mem_map]
 constructor
 .rintro ⟨c,h,rfl⟩
  rw[List.mem_filter] at h
  obtain⟨h1,h2⟩:=h
  obtain⟨h3,h4⟩:=Dy.1 h1
  exact⟨c,h3,h4,h2,rfl⟩
 .rintro ⟨c,h1,h2,h3,rfl⟩
  exact⟨c,List.mem_filter.2 ⟨Dy.2 ⟨h1,h2⟩,h3⟩,rfl⟩

theorem cov_mem{L:List (Nat×Nat)}{g:Nat}:cov L g=true ↔ ∃ r∈L,r.1<=g/\g<r.1+r.2:=by
 unfold cov
 rw[List.any_eq_true]
 simp only[decide_eq_true_eq]

theorem cov_pinL{cs:List Cel}{p:Nat->Bool}{H g:Nat}{c:Cel}(ht:Au 0 cs H)(hc:c∈cs)(h1:c.g<=g)(h2:g<c.fin):cov (pinL cs p) g=(c.tag==1&&p c.g):=by
 rw[Bool.eq_iff_iff,cov_mem]
 constructor
 .rintro ⟨r,hr,a,b⟩
  obtain⟨d,hd,e1,e2,rfl⟩:=mem_pinL.1 hr
  have:d=c:=(cell_only ht hd hc (j:=g) a b h1 h2)
  subst this
  simp[e1,e2]
 .intro h
  rw[Bool.and_eq_true,beq_iff_eq] at h
  exact⟨(c.g,c.sz),mem_pinL.2 ⟨c,hc,h.1,h.2,rfl⟩,h1,h2⟩

def UpR(l:List (Nat×Nat)):Prop:=l.Pairwise λ a b=>a.1<b.1

theorem BI.up:∀ {L:List (Nat×Nat)} {e H:Nat},BI e L H->UpR L/\∀ r∈L,e<=r.1
 |[],e,H,h=>⟨List.Pairwise.nil,λ r h=>by cases h⟩
 |r::L,e,H,⟨h1,h2,h3⟩=>by
  obtain⟨h4,h5⟩:=h3.up
  refine⟨List.Pairwise.cons (λ x hx=>by have:=h5 x hx;omega) h4,λ x hx=>?_⟩
  rcases List.mem_cons.1 hx with rfl|hx
  .exact h1
  .have:=h5 x hx;omega

theorem UpR.uniq:∀ {xs ys:List (Nat×Nat)},UpR xs->UpR ys->(∀ r,r∈xs ↔ r∈ys)->xs=ys
 |[],[],_,_,_=>rfl
 |[],y::ys,_,_,h=>by have:=(h y).2 List.mem_cons_self;cases this
 |x::xs,[],_,_,h=>by have:=(h x).1 List.mem_cons_self;cases this
 |x::xs,y::ys,hx,hy,h=>by
  obtain⟨a1,a2⟩:=List.pairwise_cons.1 hx
  obtain⟨b1,b2⟩:=List.pairwise_cons.1 hy
  have e:x=y:=by
   have m1:=(h x).1 List.mem_cons_self
   have m2:=(h y).2 List.mem_cons_self
   rcases List.mem_cons.1 m1 with e|m1
   .exact e
   .rcases List.mem_cons.1 m2 with e|m2
    .exact e.symm
    .have:=a1 y m2
     have:=b1 x m1
     omega
  subst e
  rw[UpR.uniq a2 b2 λ r=>?_]
  constructor
  .intro hr
   rcases List.mem_cons.1 ((h r).1 (List.mem_cons_of_mem _ hr)) with rfl|m
   .have:=a1 r hr;omega
   .exact m
  .intro hr
   rcases List.mem_cons.1 ((h r).2 (List.mem_cons_of_mem _ hr)) with rfl|m
   .have:=b1 r hr;omega
   .exact m

def FK:Nat->List (Nat×Nat)->List (Nat×Nat)
 |c,[]=>[]
 |c,x::l=>if x.1=c then FK c l else x::FK x.1 l

def Cy:List (Nat×Nat)->List (Nat×Nat)
 |[]=>[]
 |x::l=>x::FK x.1 l

theorem onceG_up:∀ {l:List (Nat×Nat)} {c:Nat},l.Pairwise (λ a b=>a.1<=b.1)->(∀ a∈l,c<=a.1)->(∀ a∈l,∀ b∈l,a.1=b.1->a=b)->UpR (FK c l)/\∀ r,r∈FK c l ↔ r∈l/\¬ r.1=c
 |[],c,_,_,_=>⟨List.Pairwise.nil,λ r=>by simp[FK]⟩
 |x::l,c,hp,hc,hu=>by
  obtain⟨p1,p2⟩:=List.pairwise_cons.1 hp
  have hu2:∀ a∈l,∀ b∈l,a.1=b.1->a=b:=λ a ha b hb=>hu a (List.mem_cons_of_mem _ ha) b (List.mem_cons_of_mem _ hb)
  unfold FK
  split
  .rename_i e
   obtain⟨h1,h2⟩:=onceG_up (c:=c) p2 (λ a ha=>hc a (List.mem_cons_of_mem _ ha)) hu2
   refine⟨h1,λ r=>?_⟩
   rw[h2,List.mem_cons]
   constructor
   .rintro ⟨a,b⟩;exact ⟨.inr a,b⟩
   .rintro ⟨rfl|a,b⟩
    .exact absurd e b
    .exact ⟨a,b⟩
  .rename_i e
   have hcx:=hc x List.mem_cons_self
   obtain⟨h1,h2⟩:=onceG_up (c:=x.1) p2 p1 hu2
   refine⟨List.Pairwise.cons (λ a ha=>?_) h1,λ r=>?_⟩
   .have h3:=(h2 a).1 ha
    have:=p1 a h3.1
    have:=h3.2
    omega
   .rw [List.mem_cons,h2,List.mem_cons]
    constructor
    .rintro (rfl|⟨a,b⟩)
     .exact ⟨.inl rfl,e⟩
     .have:=p1 r a
      exact⟨.inr a,by omega⟩
    .rintro ⟨rfl|a,b⟩
     .exact .inl rfl
     .by_cases h:r.1=x.1
      .exact .inl (hu r (List.mem_cons_of_mem _ a) x List.mem_cons_self h)
      .exact .inr ⟨a,h⟩

theorem onceR_up{l:List (Nat×Nat)}(hp:l.Pairwise (λ a b=>a.1<=b.1))(hu:∀ a∈l,∀ b∈l,a.1=b.1->a=b):UpR (Cy l)/\∀ r,r∈Cy l ↔ r∈l:=by
 cases l with
 |nil=>exact ⟨List.Pairwise.nil,λ r=>by simp[Cy]⟩
 |cons x l=>
  obtain⟨p1,p2⟩:=List.pairwise_cons.1 hp
  obtain⟨h1,h2⟩:=onceG_up (c:=x.1) p2 p1 (λ a ha b hb=>hu a (List.mem_cons_of_mem _ ha) b (List.mem_cons_of_mem _ hb))
  refine⟨List.Pairwise.cons (λ a ha=>?_) h1,λ r=>?_⟩
  .have h3:=(h2 a).1 ha
   have:=p1 a h3.1
   have:=h3.2
   omega
  .show r∈x::FK x.1 l ↔ r∈x::l
   rw[List.mem_cons,h2,List.mem_cons]
   constructor
   .rintro (h|⟨a,-⟩)
    .exact .inl h
    .exact .inr a
   .rintro (h|a)
    .exact .inl h
    .by_cases h:r.1=x.1
     .exact .inl (hu r (List.mem_cons_of_mem _ a) x List.mem_cons_self h)
     .exact .inr ⟨a,h⟩

theorem onceG_snoc:∀ (xs:List (Nat×Nat)) (c:Nat) (z y:Nat×Nat),FK c (xs++[z,y])=FK c (xs++[z])++(if y.1=z.1 then [] else [y])
 |[],c,z,y=>by
  simp only[List.nil_append,FK]
  by_cases h1:z.1=c
  .rw [if_pos h1,if_pos h1,h1]
   split <;> rfl
  .rw [if_neg h1,if_neg h1]
   split <;> rfl
 |x::xs,c,z,y=>by
  simp only[List.cons_append,FK]
  split
  .exact onceG_snoc xs c z y
  .rw [onceG_snoc xs x.1 z y]
   rfl

theorem onceR_take{l:List (Nat×Nat)}{j:Nat}{z y:Nat×Nat}(hz:l[j]?=some z)(hy:l[j+1]?=some y):Cy (l.take (j+1+1))=Cy (l.take (j+1))++(if y.1=z.1 then [] else [y]):=by
 rw[List.take_add_one,hy,List.take_add_one,hz]
 obtain⟨p,hp⟩:∃ p,l.take j=p:=⟨_,rfl⟩
 rw[hp]
 cases p with
 |nil=>
  show Cy [z,y]=Cy [z]++_
  simp only[Cy,FK]
  split <;> rfl
 |cons x p=>
  have:=onceG_snoc p x.1 z y
  simp only[Option.toList_some,List.cons_append,List.append_assoc,List.nil_append,Cy]
  rw[this]

def BQ(cs:List Cel)(p:Nat->Bool):List (Nat×Nat):=Ev (pinL cs p)

theorem EC{cs:List Cel}{p:Nat->Bool}{H:Nat}(h:Au 0 cs H):Apart0 (BQ cs p) H:=joinsR_apart (EN h)

theorem islesL_cov{cs:List Cel}{p:Nat->Bool}{H g:Nat}{c:Cel}(h:Au 0 cs H)(hc:c∈cs)(h1:c.g<=g)(h2:g<c.fin):cov (BQ cs p) g=(c.tag==1&&p c.g):=by
 unfold BQ
 rw[joinsR_cov (EN h),cov_pinL h hc h1 h2]

def DT:Nat->List (Nat×Nat)->List (Nat×Nat)
 |e,[]=>[]
 |e,r::L=>(if e<r.1 then [(e,r.1-e)] else [])++DT (r.1+r.2) L

def endR:Nat->List (Nat×Nat)->Nat
 |e,[]=>e
 |e,r::L=>endR (r.1+r.2) L

theorem waterL_gaps:∀ (L:List (Nat×Nat)) (e H:Nat),Bv e L H=DT e (L++[(H,0)])
 |[],e,H=>by simp[Bv,DT]
 |r::L,e,H=>by simp only[Bv,List.cons_append,DT,waterL_gaps L]

theorem gapsR_snoc:∀ (L:List (Nat×Nat)) (e:Nat) (x:Nat×Nat),DT e (L++[x])=DT e L++(if endR e L<x.1 then [(endR e L,x.1-endR e L)] else [])
 |[],e,x=>by
  simp only[List.nil_append,DT,endR,List.append_nil]
  rfl
 |r::L,e,x=>by
  simp only[List.cons_append,DT,endR,gapsR_snoc L,List.append_assoc]
  rfl

theorem endR_snoc:∀ (L:List (Nat×Nat)) (e:Nat) (x:Nat×Nat),endR e (L++[x])=x.1+x.2
 |[],e,x=>rfl
 |r::L,e,x=>by simp only[List.cons_append,endR,endR_snoc L]

theorem gapsR_len:∀ (L:List (Nat×Nat)) (e:Nat),(DT e L).length<=L.length
 |[],e=>Nat.le_refl _
 |r::L,e=>by
  have:=gapsR_len L (r.1+r.2)
  simp only[DT,List.length_append,List.length_cons]
  split <;> simp only[List.length_cons,List.length_nil] <;> omega

theorem Dk{α:Type}{L:List α}{j:Nat}{x:α}(h:L[j]?=some x):L.take (j+1)=L.take j++[x]:=by
 rw[List.take_add_one,h]
 rfl

theorem split_uniq:∀ {pre pre':List Cel} {post post':List Cel} {c c':Cel} {a b j:Nat},Au a (pre++c::post) b->pre++c::post=pre'++c'::post'->c.g<=j->j<c.fin->c'.g<=j->j<c'.fin->pre=pre'/\c=c'/\post=post'
 |[],[],post,post',c,c',a,b,j,ht,h,_,_,_,_=>by
  simp only[List.nil_append,List.cons.injEq] at h
  exact⟨rfl,h.1,h.2⟩
 |[],d::pre',post,post',c,c',a,b,j,ht,h,h1,h2,h3,h4=>by
  simp only[List.nil_append,List.cons_append,List.cons.injEq] at h
  obtain⟨t1,t2,t3⟩:=ht
  have hm:c'∈post:=by rw[h.2];simp
  have:=(t3.mem hm).1
  unfold Cel.fin at h2
  omega
 |d::pre,[],post,post',c,c',a,b,j,ht,h,h1,h2,h3,h4=>by
  simp only[List.nil_append,List.cons_append,List.cons.injEq] at h
  obtain⟨t1,t2,t3⟩:=ht
  have:=(t3.mem (show c∈pre++c::post by simp)).1
  rw[<- h.1] at h4
  unfold Cel.fin at h4
  omega
 |d::pre,d'::pre',post,post',c,c',a,b,j,ht,h,h1,h2,h3,h4=>by
  simp only[List.cons_append,List.cons.injEq] at h
  obtain⟨t1,t2,t3⟩:=ht
  obtain⟨e1,e2,e3⟩:=split_uniq t3 h.2 h1 h2 h3 h4
  exact⟨by rw[h.1,e1],e2,e3⟩

end

section
open Go.RowKit

def Bo(L:List (Nat×Nat)):List Value:=L.flatMap λ r=>[.int .i64 (r.1:Nat),.int .i64 (r.2:Nat)]

theorem EK(xs ys:List (Nat×Nat)):Bo (xs++ys)=Bo xs++Bo ys:=by simp[Bo]

theorem Ct:∀ (xs:List (Nat×Nat)),(Bo xs).length=xs.length*2
 |[]=>rfl
 |x::xs=>by
  have:=Ct xs
  unfold Bo at this ⊢
  rw[List.flatMap_cons,List.length_append,this]
  simp
  omega

theorem flatR_at:∀ (xs:List (Nat×Nat)) (i:Nat) (x:Nat×Nat),xs[i]?=some x->(Bo xs)[i*2]?=some (.int .i64 (x.1:Nat))/\(Bo xs)[i*2+1]?=some (.int .i64 (x.2:Nat))
 |[],i,x,h=>by simp at h
 |y::xs,0,x,h=>by
  simp at h
  subst h
  exact⟨rfl,rfl⟩
 |y::xs,i+1,x,h=>by
  have h2:xs[i]?=some x:=by simpa using h
  obtain⟨h3,h4⟩:=flatR_at xs i x h2
  have e:Bo (y::xs)=.int .i64 (y.1:Nat)::.int .i64 (y.2:Nat)::Bo xs:=rfl
  rw[e,show (i+1)*2=i*2+1+1 by omega,show i*2+1+1+1=i*2+1+1+1 from rfl]
  exact⟨by rw[List.getElem?_cons_succ,List.getElem?_cons_succ];exact h3,by rw[List.getElem?_cons_succ,List.getElem?_cons_succ];exact h4⟩

def RowR(w:World)(v:Value)(L:List (Nat×Nat)):Prop:=
 ∃ a cap,v=.slice a L.length cap/\∀ i x,L[i]?=some x->∃ b o,a=some ⟨b,o,none⟩/\b<w.heap.size/\
  w.cell? ⟨b,o+i*2,none⟩=some (.int .i64 (x.1:Nat))/\w.cell? ⟨b,o+i*2+1,none⟩=some (.int .i64 (x.2:Nat))

theorem RowR.BK{T:TypeId}{w:World}{base:Nat}{v:Value}{L:List (Nat×Nat)}(h:w.ownsRow base T 2 v L.length (Bo L)):RowR w v L:=by
 rcases h.2 with ⟨rfl,h0⟩|⟨g,cap,cur,rfl,g2,g3,g4,g5,g6,g7⟩
 .exact ⟨none,0,by rw[h0],λ i x hx=>by have:=(gE.1 hx).1;omega⟩
 .refine ⟨some ⟨g,0,none⟩,cap,rfl,λ i x hx=>?_⟩
  have hi:=(gE.1 hx).1
  obtain⟨x0,x1⟩:=flatR_at L i x hx
  have key:∀ j,j<L.length*2->w.cell? ⟨g,j,none⟩=(Bo L)[j]?:=λ j hj=>by
   rw[<- g7,List.getElem?_take_of_lt hj]
   simp[World.cell?,g3]
  exact⟨g,0,rfl,lZ g3,by rw[Nat.zero_add,key _ (by omega)];exact x0,by rw[Nat.zero_add,key _ (by omega)];exact x1⟩

theorem RowR.Ad{w w':World}{v:Value}{L:List (Nat×Nat)}(h:RowR w v L)(k:Kp Ab w w'):RowR w' v L:=by
 obtain⟨a,cap,rfl,h⟩:=h
 refine⟨a,cap,rfl,λ i x hi=>?_⟩
 obtain⟨b,o,rfl,h1,h2,h3⟩:=h i x hi
 exact⟨b,o,rfl,Nat.lt_of_lt_of_le h1 k.size,k.cell h2 (λ h=>h),k.cell h3 (λ h=>h)⟩

structure RunF(w:World)(g cap n:Nat)(f:Nat->Nat×Nat):Prop where
 blk:∃ cur,w.heap[g]?=some (.cells cur 225 (0,0))/\cur.size=cap*2/\∀ p,p<n->cur[p*2]?=some (.int .i64 ((f p).1:Nat))/\cur[p*2+1]?=some (.int .i64 ((f p).2:Nat))
 le:n<=cap
 cap_le:cap<=maxLen

theorem RunF.keep{S:Nat->Prop}{w w':World}{g cap n:Nat}{f:Nat->Nat×Nat}(h:RunF w g cap n f)(k:Kp S w w')(hs:¬ S g):RunF w' g cap n f:=by
 obtain⟨cur,h1,h2⟩:=h.blk
 exact⟨⟨cur,k.at_ h1 hs,h2⟩,h.le,h.cap_le⟩

theorem RunF.cells{w:World}{g cap n p:Nat}{f:Nat->Nat×Nat}(h:RunF w g cap n f)(hp:p<n):w.cell? ⟨g,p*2,none⟩=some (.int .i64 ((f p).1:Nat))/\w.cell? ⟨g,p*2+1,none⟩=some (.int .i64 ((f p).2:Nat)):=by
 obtain⟨cur,h1,h2,h3⟩:=h.blk
 obtain⟨a0,a1⟩:=h3 p hp
 simp only[World.cell?,h1]
 exact⟨by simpa using a0,by simpa using a1⟩

theorem RunF.free{w:World}{g cap n:Nat}{f:Nat->Nat×Nat}(h:RunF w g cap n f)(j:Nat):w.frozen? ⟨g,j,none⟩=false:=by
 obtain⟨cur,h1,-⟩:=h.blk
 exact Ae h1 j

theorem RunF.lt{w:World}{g cap n:Nat}{f:Nat->Nat×Nat}(h:RunF w g cap n f):g<w.heap.size:=by
 obtain⟨cur,h1,-⟩:=h.blk
 exact lZ h1

theorem RunF.isCell{w:World}{g cap n q:Nat}{f:Nat->Nat×Nat}(h:RunF w g cap n f)(hq:q<cap*2):(w.cell? ⟨g,q,none⟩).isSome=true:=by
 obtain⟨cur,h1,h2,-⟩:=h.blk
 simp only[World.cell?,h1]
 rw[<- h2] at hq
 simp[hq]

def updR(f:Nat->Nat×Nat)(p:Nat)(x:Nat×Nat)(i:Nat):Nat×Nat:=if i=p then x else f i

theorem RunF.store{w:World}{g cap n p:Nat}{f:Nat->Nat×Nat}(h:RunF w g cap n f)(hp:p<n)(x:Nat×Nat):
  RunF ((w.setCell ⟨g,p*2,none⟩ (.int .i64 (x.1:Nat))).setCell ⟨g,p*2+1,none⟩ (.int .i64 (x.2:Nat))) g cap n (updR f p x):=by
 obtain⟨cur,h1,h2,h3⟩:=h.blk
 have hle:=h.le
 refine⟨⟨_,bZ (bZ h1 _) _,by simp[h2],λ i hi=>?_⟩,h.le,h.cap_le⟩
 have hsz:p*2+1<cur.size:=by omega
 obtain⟨a0,a1⟩:=h3 i hi
 by_cases e:i=p
 .subst e
  unfold updR
  rw[if_pos rfl]
  simp only[Array.getElem?_setIfInBounds]
  refine⟨?_,?_⟩ <;> (simp;omega)
 .unfold updR
  rw[if_neg e]
  simp only[Array.getElem?_setIfInBounds]
  refine⟨?_,?_⟩ <;> (rw [if_neg (by omega),if_neg (by omega)];assumption)

theorem RunF.BK{w:World}{base:Nat}{v:Value}{L:List (Nat×Nat)}(h:w.ownsRow base 225 2 v L.length (Bo L))(hne:L≠[]):∃ g cap,v=.slice (some ⟨g,0,none⟩) L.length cap/\base<=g/\RunF w g cap L.length (λ p=>(L[p]?).getD (0,0)):=by
 rcases h.2 with ⟨-,h0⟩|⟨g,cap,cur,hv,g2,g3,g4,g5,g6,g7⟩
 .exact absurd (List.length_eq_zero_iff.1 h0) hne
 .refine ⟨g,cap,hv,g2,⟨cur,g3,g6,λ p hp=>?_⟩,g4,g5⟩
  have hx:L[p]?=some L[p]:=List.getElem?_eq_getElem hp
  obtain⟨x0,x1⟩:=flatR_at L p _ hx
  have key:∀ j,j<L.length*2->cur[j]?=(Bo L)[j]?:=λ j hj=>by
   rw[<- g7,List.getElem?_take_of_lt hj]
   simp
  rw[hx]
  exact⟨by rw[key _ (by omega)];exact x0,by rw[key _ (by omega)];exact x1⟩

theorem RowR.of_runF{w:World}{g cap:Nat}{f:Nat->Nat×Nat}{L:List (Nat×Nat)}(h:RunF w g cap L.length f)(hf:∀ p x,L[p]?=some x->f p=x):RowR w (.slice (some ⟨g,0,none⟩) L.length cap) L:=by
 refine⟨_,_,rfl,λ i x hx=>?_⟩
 have hi:=(gE.1 hx).1
 obtain⟨c0,c1⟩:=h.cells hi
 rw[hf i x hx] at c0 c1
 exact⟨g,0,rfl,h.lt,by rw[Nat.zero_add];exact c0,by rw[Nat.zero_add];exact c1⟩

theorem First_at(x:Nat×Nat)(w:World):Calls prog 175 #[.agg #[.int .i64 (x.1:Nat),.int .i64 (x.2:Nat)]] w λ e w'=>e=.returned (.int .i64 (x.1:Nat))/\w.alloc (.cells #[.int .i64 (x.1:Nat),.int .i64 (x.2:Nat)] 225)=w':=by
 go_enter func175,ntmps175
 go_wp2
 go_ret
 exact⟨rfl,rfl⟩

def cmpN(a b:Nat):Int:=if a<b then -1 else if b<a then 1 else 0

theorem isNaN_at(a:Int)(w:World):Calls prog 190 #[.int .i64 a] w λ e w'=>e=.returned (.bool false)/\w'=w:=by
 have h:(a !=a)=false:=by simp
 go_enter func190,ntmps190
 go_wp2
 go_ret
 exact⟨rfl,rfl⟩

theorem Compare_at(a b:Nat)(w:World):Calls prog 195 #[.int .i64 (a:Nat),.int .i64 (b:Nat)] w λ e w'=>e=.returned (.int .i64 (cmpN a b))/\w'=w:=by
 have HN:=sE (λ (a:Int) (w:World)=>isNaN_at a w)
 by_cases h1:a<b
 .have p1:(a:Int)<(b:Int):=by omega
  have hv:cmpN a b=-1:=if_pos h1
  rw[hv]
  clear h1 hv
  go_enter func195,ntmps195
  go_wp2_with (go_at_call 190;refine (HN.out _ _).mono ?_;rintro e w ⟨rfl,rfl⟩)
  go_ret
  exact⟨rfl,rfl⟩
 .have p1:¬ (a:Int)<(b:Int):=by omega
  by_cases h2:b<a
  .have p2:(b:Int)<(a:Int):=by omega
   have hv:cmpN a b=1:=by unfold cmpN;rw [if_neg h1,if_pos h2]
   rw[hv]
   clear h1 h2 hv
   go_enter func195,ntmps195
   go_wp2_with (go_at_call 190;refine (HN.out _ _).mono ?_;rintro e w ⟨rfl,rfl⟩)
   go_ret
   exact⟨rfl,rfl⟩
  .have p2:¬ (b:Int)<(a:Int):=by omega
   have hv:cmpN a b=0:=by unfold cmpN;rw [if_neg h1,if_neg h2]
   rw[hv]
   clear h1 h2 hv
   go_enter func195,ntmps195
   go_wp2_with (go_at_call 190;refine (HN.out _ _).mono ?_;rintro e w ⟨rfl,rfl⟩)
   go_ret
   exact⟨rfl,rfl⟩

def ByAt(w:World)(b:Nat):Prop:=w.cell? ⟨b,0,none⟩=some (.func (.func 175) #[] #[])/\b<w.heap.size

theorem ByAt.Ad{w w':World}{b:Nat}(h:ByAt w b)(k:Kp Ab w w'):ByAt w' b:=⟨k.cell h.1 (λ h=>h),Nat.lt_of_lt_of_le h.2 k.size⟩

theorem By_at(x y:Nat×Nat)(b:Nat)(w:World)(hb:ByAt w b):
  Calls prog 194 #[.agg #[.int .i64 (x.1:Nat),.int .i64 (x.2:Nat)],.agg #[.int .i64 (y.1:Nat),.int .i64 (y.2:Nat)],.pointer (some ⟨b,0,none⟩)] w λ e w'=>e=.returned (.int .i64 (cmpN x.1 y.1))/\Kp Ab w w'/\∃ q os',w'=Go.Sort.grow (w.drewN q) os':=by
 have HX:=sE (λ (x:Nat×Nat) (w:World)=>First_at x w)
 have HC:=sE (λ (w:World)=>Compare_at x.1 y.1 w)
 obtain⟨hb1,hb2⟩:=hb
 obtain⟨w1,hw1⟩:∃ w1,w1=w.alloc (.cells #[.int .i64 (x.1:Nat),.int .i64 (x.2:Nat)] 225):=⟨_,rfl⟩
 obtain⟨w2,hw2⟩:∃ w2,w2=w1.alloc (.cells #[.int .i64 (y.1:Nat),.int .i64 (y.2:Nat)] 225):=⟨_,rfl⟩
 have k1:Kp Ab w w1:=by rw[hw1];exact (Kr _ w).alloc _
 have k2:Kp Ab w1 w2:=by rw[hw2];exact (Kr _ w1).alloc _
 have b1:w1.heap[w.heap.size]?=some (.cells #[.int .i64 (x.1:Nat),.int .i64 (x.2:Nat)] 225 (0,0)):=by rw[hw1];exact wN w _
 have b2:w2.heap[w1.heap.size]?=some (.cells #[.int .i64 (y.1:Nat),.int .i64 (y.2:Nat)] 225 (0,0)):=by rw[hw2];exact wN w1 _
 have z1:w1.heap.size=w.heap.size+1:=by rw[hw1];simp
 rw[z1] at b2
 have b1':=k2.at_ b1 (λ h=>h)
 have x0:w2.cell? ⟨w.heap.size,0,none⟩=some (.int .i64 (x.1:Nat)):=by simp[World.cell?,b1']
 have x1:w2.cell? ⟨w.heap.size,1,none⟩=some (.int .i64 (x.2:Nat)):=by simp[World.cell?,b1']
 have y0:w2.cell? ⟨w.heap.size+1,0,none⟩=some (.int .i64 (y.1:Nat)):=by simp[World.cell?,b2]
 have y1:w2.cell? ⟨w.heap.size+1,1,none⟩=some (.int .i64 (y.2:Nat)):=by simp[World.cell?,b2]
 have hb3:=(k1.then' k2).cell hb1 (λ h=>h)
 have K2:=k1.then' k2
 have HW:Sl (∃ os,w2=Go.Sort.grow w os):=⟨⟨#[.cells #[.int .i64 (x.1:Nat),.int .i64 (x.2:Nat)] 225,.cells #[.int .i64 (y.1:Nat),.int .i64 (y.2:Nat)] 225],by rw[hw2,hw1];rfl⟩⟩
 go_enter func194,ntmps194
 go_wp2_with fail
 rw[<- hw1,<- hw2]
 clear hw1 hw2 b1 b2 b1' hb1 k1 k2
 refine wp_region_held_drew (S:=λ w'=>w'.cell? ⟨b,0,none⟩=some (.func (.func 175) #[] #[])/\w'.cell? ⟨w.heap.size,0,none⟩=some (.int .i64 (x.1:Nat))/\w'.cell? ⟨w.heap.size,1,none⟩=some (.int .i64 (x.2:Nat))/\w'.cell? ⟨w.heap.size+1,0,none⟩=some (.int .i64 (y.1:Nat))/\w'.cell? ⟨w.heap.size+1,1,none⟩=some (.int .i64 (y.2:Nat))) (by kernel_rfl) ?_ (λ qZ=>?_)
 .exact ⟨hb3,x0,x1,y0,y1⟩
 refine Ao 0 ?_;refine Ao 1 ?_;refine Ao 3 ?_;refine Ao 4 ?_
 try simp only[Aw]
 refine AV [2] ?_
 refine Ag rfl (λ K hK=>?_)
 go_simp
 go_at_call 175
 (with_reducible refine(HX.out _ _).mono ?_)
 rintro e w3 ⟨rfl,h3⟩
 have K3:Kp Ab w2 w3:=by rw[<- h3];exact ((Kr Ab w2).drew).alloc _
 have HG3:Sl (∃ os,w3=Go.Sort.grow w2.drew os):=⟨⟨_,h3.symm.trans (Go.Sort.alloc_eq_grow _ _)⟩⟩
 clear h3
 refine hK _ _ ?_ (λ qZ=>?_)
 .exact ⟨K3.cell hb3 (λ h=>h),K3.cell x0 (λ h=>h),K3.cell x1 (λ h=>h),K3.cell y0 (λ h=>h),K3.cell y1 (λ h=>h)⟩
 clear hK K
 try simp only[Aw]
 refine AV [5] ?_
 refine Ag rfl (λ K hK=>?_)
 go_simp
 go_at_call 175
 (with_reducible refine(HX.out _ _).mono ?_)
 rintro e w4 ⟨rfl,h4⟩
 have K4:Kp Ab w2 w4:=by rw[<- h4];exact K3.alloc _
 have HG4:Sl (∃ os,w4=Go.Sort.grow w2.drew os):=⟨by
  obtain⟨os,h⟩:=HG3.out
  exact⟨os++_,by rw[<- h4,Go.Sort.alloc_eq_grow,h,Go.Sort.grow_grow]⟩⟩
 clear h4
 refine hK _ _ ?_ (λ qZ=>?_)
 .exact ⟨K4.cell hb3 (λ h=>h),K4.cell x0 (λ h=>h),K4.cell x1 (λ h=>h),K4.cell y0 (λ h=>h),K4.cell y1 (λ h=>h)⟩
 clear hK K
 try simp only[Aw]
 refine AV [6] ?_
 refine Ag rfl (λ K hK=>?_)
 go_simp
 go_at_call 195
 (with_reducible refine(HC.out _).mono ?_)
 rintro e w4 ⟨rfl,rfl⟩
 refine hK _ _ ?_ (λ qZ=>?_)
 .exact qZ
 clear hK K
 try simp only[Aw]
 refine Ao 7 ?_
 try simp only[Aw]
 refine wpAnyH_done (by kernel_rfl) ?_ _
 go_wp2
 go_ret
 refine⟨rfl,K2.then' K4,?_⟩
 obtain⟨os,h⟩:=HG4.out
 obtain⟨os2,h2⟩:=HW.out
 exact⟨1,os2++os,by rw[h,h2,<- Go.Sort.grow_grow];rfl⟩

theorem owns_set{w:World}{base:Nat}{e:TypeId}{size g n cap j:Nat}{xs:List Value}{u:Value}(h:w.ownsRow base e size (.slice (some ⟨g,0,none⟩) n cap) n xs)(hj:j<n*size):
  (w.setCell ⟨g,j,none⟩ u).ownsRow base e size (.slice (some ⟨g,0,none⟩) n cap) n (xs.set j u):=by
 obtain⟨hl,h⟩:=h
 refine⟨by simpa using hl,?_⟩
 rcases h with ⟨h,-⟩|⟨g',cap',cur,hv,g2,g3,g4,g5,g6,g7⟩
 .simp at h
 .simp only[Value.slice.injEq,Option.some.injEq,Addr.mk.injEq] at hv
  obtain⟨⟨rfl,-,-⟩,-,rfl⟩:=hv
  refine .inr ⟨g,cap,_,rfl,g2,bZ g3 _,g4,g5,by simpa using g6,?_⟩
  rw[<- g7,<- List.take_set]
  simp

theorem flatR_last{l:List (Nat×Nat)}{x:Nat×Nat}(a:Nat)(h:l.getLast?=some x):Bo (l.dropLast++[(x.1,a)])=(Bo l).set ((l.length-1)*2+1) (.int .i64 (a:Nat)):=by
 obtain⟨m,rfl⟩:∃ m,l=m++[x]:=⟨l.dropLast,by
  have hne:l≠[]:=by intro e;rw [e] at h;simp at h
  rw[List.getLast?_eq_some_getLast hne] at h
  injection h with h
  rw[<- h]
  exact(List.dropLast_concat_getLast hne).symm⟩
 rw[List.dropLast_concat,EK,EK,List.length_append,List.length_singleton,Nat.add_sub_cancel,List.set_append_right _ _ (by rw[Ct];omega),Ct]
 rw[show m.length*2+1-m.length*2=1 by omega]
 rfl

theorem last_at{l:List (Nat×Nat)}{x:Nat×Nat}(h:l.getLast?=some x):l[l.length-1]?=some x:=by
 rw[<- h,List.getLast?_eq_getElem?]

def JoinPost(lb base:Nat)(v:Value)(l:List (Nat×Nat))(r:Nat×Nat)(w:World)(e:Ending)(w':World):Prop:=
 e=.returned (.tuple #[])/\∃ v',w'.heap[lb]?=some (.cells #[v'] 163 (0,0))/\w'.ownsRow base 225 2 v' (joinL l r).length (Bo (joinL l r))/\Kp (λ k=>k=lb\/v.ownBlock=some k) w w'

set_option maxRecDepth 20000 in
theorem Join_at(lb base:Nat)(v:Value)(l:List (Nat×Nat))(r:Nat×Nat)(w:World)(hbl:w.heap[lb]?=some (.cells #[v] 163 (0,0)))(ho:w.ownsRow base 225 2 v l.length (Bo l))(hb:lb<base)(hb2:base<=w.heap.size)(hl:l.length<=65536)(hs:∀ x∈l,x.1+x.2<=65536)(hr:r.1+r.2<=65536):
  Calls prog 173 #[.agg #[.int .i64 (r.1:Nat),.int .i64 (r.2:Nat)],.pointer (some ⟨lb,0,none⟩)] w (JoinPost lb base v l r w):=by
 obtain⟨w1,hw1⟩:∃ w1,w1=w.alloc (.cells #[.int .i64 (r.1:Nat),.int .i64 (r.2:Nat)] 225):=⟨_,rfl⟩
 have k1:Kp Ab w w1:=by rw[hw1];exact (Kr _ w).alloc _
 have b1:w1.heap[w.heap.size]?=some (.cells #[.int .i64 (r.1:Nat),.int .i64 (r.2:Nat)] 225 (0,0)):=by rw[hw1];exact wN w _
 have r0:w1.cell? ⟨w.heap.size,0,none⟩=some (.int .i64 (r.1:Nat)):=by simp[World.cell?,b1]
 have r1:w1.cell? ⟨w.heap.size,1,none⟩=some (.int .i64 (r.2:Nat)):=by simp[World.cell?,b1]
 have hbl1:=k1.at_ hbl (λ h=>h)
 have ho1:=Ah ho k1 (λ _ _ h=>h)
 have c0:=cell_of_one hbl1
 have f0:=Ae hbl1 0
 have z1:=k1.size
 have HK1:=sE k1
 have HBl:=sE hbl1
 have HRo:=sE ho1
 have HBw:=sE b1
 clear hbl ho k1 b1 hbl1
 cases hlast:l.getLast? with
 |none=>
  obtain rfl:l=[]:=by simpa using hlast
  have HJ:Sl (joinL [] r=[]++[r]):=⟨rfl⟩
  obtain⟨va,vc,rfl⟩:=AA ho1
  clear ho1 hlast
  have hw1':=hw1
  subst hw1
  go_enter func173,ntmps173
  go_wp2_with fail
  go_quiet (fail)
  obtain⟨w2,hw2⟩:∃ w2,w2=(w.alloc (.cells #[.int .i64 (r.1:Nat),.int .i64 (r.2:Nat)] 225)).drewN nq:=⟨_,rfl⟩
  have kd:Kp Ab (w.alloc (.cells #[.int .i64 (r.1:Nat),.int .i64 (r.2:Nat)] 225)) w2:=by rw[hw2];exact Kp.Aj _
  rw[<- hw2]
  clear hw2
  have HK2:Sl (Kp Ab w w2):=⟨HK1.out.then' kd⟩
  have HBr:=sE (kd.at_ HBl.out (λ h=>h))
  have HRr:=sE (Ah HRo.out kd (λ _ _ h=>h))
  have r0':=kd.cell r0 (λ h=>h)
  have r1':=kd.cell r1 (λ h=>h)
  have c0':=kd.cell c0 (λ h=>h)
  have zd:=HK2.out.size
  clear kd c0 r0 r1 f0
  go_wp2_with (at_builtin;obtain ⟨i0,hi,hz0,hz1,hz2⟩:=info_parts infoRun;go_loud (refine wpList_append_lies _ rfl (.tmp 37) (.tmp 39) 163 rfl base 225 i0 _ 2 16 Cx hi hz0 hz1 hz2 rfl (by omega) (.slice va 0 vc) 0 [] rfl (HRr.out.alloc _) ⟨w2.heap.size,0,none⟩ 1 1 [.int .i64 (r.1:Nat),.int .i64 (r.2:Nat)] rfl rfl (World.news_of_block (wN w2 _)) (by intro u hu;simp at hu;rcases hu with rfl|rfl <;> rfl) (by omega) (by unfold maxLen;omega) (by omega) (by first|(simp;done)|(simp;omega)) (w2.heap.size+1) (by simp) ?_);intro gn capn w3 hown3 hgrow hat hlt;clear hi hz0 hz1 hz2;have hnb:¬ ((.slice va 0 vc):Value).ownBlock=some lb:=λ h=>(by have:=Af HRr.out h;omega);have k3:Kp (λ k=>((.slice va 0 vc):Value).ownBlock=some k) w2 w3:=((Kr Ab w2).alloc _ |>.Al _).grown hgrow (λ k e h=>by first|exact h|exact e);have b3:=k3.at_ HBr.out hnb;have f3:=Ae b3 0;have c3:=cell_of_one b3;have HR3:=sE hown3;have HB3:=sE b3;have HK3:=sE k3;clear hown3 hgrow hat b3 k3)
  go_end0
  have KS:Kp (λ k=>k=lb) w3 (w3.setCell ⟨lb,0,none⟩ (.slice (some ⟨gn,0,none⟩) 1 capn)):=(Kr (λ k=>k=lb) w3).setCell (λ _=>rfl) _
  refine⟨rfl,_,one_setCell HB3.out,?_,((HK2.out.Al _).trans (HK3.out.mono λ i _ h=>.inr h) (λ _ _ h=>h)).trans KS (λ _ _ h=>.inl h)⟩
  rw[HJ.out]
  exact Ah HR3.out KS (λ b hb' e=>by have:=(Af HR3.out hb').1;omega)
 |some x=>
  have hne:l≠[]:=by intro e;rw [e] at hlast;simp at hlast
  rcases ho1.2 with ⟨-,h0⟩|⟨g,cap,cur,rfl,g2,g3,g4,g5,g6,g7⟩
  .exact absurd (List.length_eq_zero_iff.1 h0) hne
  obtain⟨k,hk⟩:∃ k,l.length=k+1:=⟨l.length-1,by have:=List.length_pos_iff.2 hne;omega⟩
  have hx:=last_at hlast
  obtain⟨a0,a1⟩:=flatR_at l _ x hx
  have key:∀ j,j<l.length*2->w1.cell? ⟨g,j,none⟩=(Bo l)[j]?:=λ j hj=>by
   rw[<- g7,List.getElem?_take_of_lt hj]
   simp[World.cell?,g3]
  have e0:w1.cell? ⟨g,k*2,none⟩=some (.int .i64 (x.1:Nat)):=by rw[key _ (by omega)];rw [hk] at a0;exact a0
  have e1:w1.cell? ⟨g,k*2+1,none⟩=some (.int .i64 (x.2:Nat)):=by rw[key _ (by omega)];rw [hk] at a1;exact a1
  have hxs:=hs x (List.mem_of_getElem? hx)
  rw[hk] at HRo c0 HBl hl ⊢
  have HLn:=sE hk
  have p0:(0:Int)<(k:Int)+1:=by omega
  have p1:(k:Int)<(k:Int)+1:=by omega
  have p2:(0:Int)<=(k:Int):=by omega
  have u1:IntKind.i64.wrap ((k:Int)+1-1)=(k:Int):=by rw[IntKind.wrap_i64];omega
  have u2:IntKind.i64.wrap (((k+1:Nat):Int)-1)=(k:Int):=by rw[IntKind.wrap_i64];omega
  have u3:IntKind.i64.wrap (k:Int)=(k:Int):=by rw[IntKind.wrap_i64];omega
  have u4:IntKind.i64.wrap ((x.1:Int)+(x.2:Int))=(x.1:Int)+(x.2:Int):=by rw[IntKind.wrap_i64];omega
  by_cases ht:x.1+x.2=r.1
  .have HJ:Sl (joinL l r=l.dropLast++[(x.1,x.2+r.2)]):=⟨by unfold joinL;rw [hlast];simp only;rw [if_pos ht]⟩
   have HJf:Sl (Bo (l.dropLast++[(x.1,x.2+r.2)])=(Bo l).set (k*2+1) (.int .i64 ((x.2+r.2:Nat):Int))):=⟨by rw[flatR_last _ hlast,hk];rfl⟩
   have HJl:Sl ((l.dropLast++[(x.1,x.2+r.2)]).length=k+1):=⟨by rw[List.length_append,List.length_dropLast,hk];simp⟩
   have q1:(((x.1:Int)+(x.2:Int))==(r.1:Int))=true:=by rw[beq_iff_eq];omega
   have u5:IntKind.i64.wrap ((x.2:Int)+(r.2:Int))=(x.2:Int)+(r.2:Int):=by rw[IntKind.wrap_i64];omega
   have gf:=Ae g3 (k*2+1)
   clear ho1 hlast hne g2 g3 g4 g5 g6 g7 hx a0 a1 key hk ht hs
   subst hw1
   go_enter func173,ntmps173
   go_wp2_with fail
   go_quiet (fail)
   go_wp2_with fail
   obtain⟨w2,hw2⟩:∃ w2,w2=(w.alloc (.cells #[.int .i64 (r.1:Nat),.int .i64 (r.2:Nat)] 225)).drewN nq:=⟨_,rfl⟩
   have kd:Kp Ab (w.alloc (.cells #[.int .i64 (r.1:Nat),.int .i64 (r.2:Nat)] 225)) w2:=by rw[hw2];exact Kp.Aj _
   rw[<- hw2]
   clear hw2
   have HK2:Sl (Kp Ab w w2.drew):=⟨(HK1.out.then' kd).drew⟩
   have HRr:=sE (Ah HRo.out kd.drew (λ _ _ h=>h))
   have HBr:=sE (kd.drew.at_ HBl.out (λ h=>h))
   have r1':w2.drew.cell? ⟨w.heap.size,1,none⟩=some (.int .i64 (r.2:Nat)):=kd.drew.cell r1 (λ h=>h)
   have c0':w2.drew.cell? ⟨lb,0,none⟩=some (.slice (some ⟨g,0,none⟩) (k+1) cap):=kd.drew.cell c0 (λ h=>h)
   have e1':w2.drew.cell? ⟨g,k*2+1,none⟩=some (.int .i64 (x.2:Nat)):=kd.drew.cell e1 (λ h=>h)
   have gf':w2.drew.frozen? ⟨g,k*2+1,none⟩=false:=by
    rcases HRr.out.2 with ⟨h,-⟩|⟨g',cap',cur',hv,h2,h3,-⟩
    .simp at h
    .simp only[Value.slice.injEq,Option.some.injEq,Addr.mk.injEq] at hv
     obtain⟨⟨rfl,-,-⟩,-,rfl⟩:=hv
     exact Ae h3 _
   clear kd c0 r0 r1 f0 e0 e1 gf
   go_region
   go_wp2
   refine bodyPost_ret (results_none rfl _ _ _) rfl ?_
   have hset:(w2.setCell ⟨g,k*2+1,none⟩ (.int .i64 ((x.2:Int)+(r.2:Int)))).drew=w2.drew.setCell ⟨g,k*2+1,none⟩ (.int .i64 ((x.2+r.2:Nat):Int)):=by rw[Int.natCast_add];rfl
   rw[hset]
   have KS:Kp (λ b=>b=g) w2.drew (w2.drew.setCell ⟨g,k*2+1,none⟩ (.int .i64 ((x.2+r.2:Nat):Int))):=(Kr (λ b=>b=g) w2.drew).setCell (λ _=>rfl) _
   have hgb:base<=g:=(Af HRr.out rfl).1
   refine⟨rfl,_,KS.at_ HBr.out (by omega),?_,(HK2.out.Al _).trans KS (λ i _ h=>.inr (by rw[h];rfl))⟩
   rw[HJ.out,HJl.out,HJf.out]
   exact owns_set HRr.out (by omega)
  .have HJ:Sl (joinL l r=l++[r]):=⟨by unfold joinL;rw [hlast];simp only;rw [if_neg ht]⟩
   have q1:(((x.1:Int)+(x.2:Int))==(r.1:Int))=false:=by rw[beq_eq_false_iff_ne];omega
   clear ho1 hlast hne g2 g3 g4 g5 g6 g7 hx a0 a1 key hk ht hs
   subst hw1
   go_enter func173,ntmps173
   go_wp2_with fail
   go_quiet (fail)
   obtain⟨w2,hw2⟩:∃ w2,w2=(w.alloc (.cells #[.int .i64 (r.1:Nat),.int .i64 (r.2:Nat)] 225)).drewN nq:=⟨_,rfl⟩
   have kd:Kp Ab (w.alloc (.cells #[.int .i64 (r.1:Nat),.int .i64 (r.2:Nat)] 225)) w2:=by rw[hw2];exact Kp.Aj _
   rw[<- hw2]
   clear hw2
   have HK2:Sl (Kp Ab w w2):=⟨HK1.out.then' kd⟩
   have HBr:=sE (kd.at_ HBl.out (λ h=>h))
   have HRr:=sE (Ah HRo.out kd (λ _ _ h=>h))
   have r0':=kd.cell r0 (λ h=>h)
   have r1':=kd.cell r1 (λ h=>h)
   have c0':=kd.cell c0 (λ h=>h)
   have zd:=HK2.out.size
   clear kd c0 r0 r1 f0
   go_wp2_with (at_builtin;obtain ⟨i0,hi,hz0,hz1,hz2⟩:=info_parts infoRun;go_loud (refine wpList_append_lies _ rfl (.tmp 37) (.tmp 39) 163 rfl base 225 i0 _ 2 16 Cx hi hz0 hz1 hz2 rfl (by omega) (.slice (some ⟨g,0,none⟩) (k+1) cap) (k+1) (Bo l) rfl (HRr.out.alloc _) ⟨w2.heap.size,0,none⟩ 1 1 [.int .i64 (r.1:Nat),.int .i64 (r.2:Nat)] rfl rfl (World.news_of_block (wN w2 _)) (by intro u hu;simp at hu;rcases hu with rfl|rfl <;> rfl) (by omega) (by unfold maxLen;omega) (by omega) (by first|(simp;done)|(simp;omega)) (w2.heap.size+1) (by simp) ?_);intro gn capn w3 hown3 hgrow hat hlt;clear hi hz0 hz1 hz2;have hnb:¬ ((.slice (some ⟨g,0,none⟩) (k+1) cap):Value).ownBlock=some lb:=λ h=>(by have:=Af HRr.out h;omega);have k3:Kp (λ k=>((.slice (some ⟨g,0,none⟩) (k+1) cap):Value).ownBlock=some k) w2 w3:=((Kr Ab w2).alloc _ |>.Al _).grown hgrow (λ k e h=>by first|exact h|exact e);have b3:=k3.at_ HBr.out hnb;have f3:=Ae b3 0;have c3:=cell_of_one b3;have HR3:=sE hown3;have HB3:=sE b3;have HK3:=sE k3;clear hown3 hgrow hat b3 k3)
   go_end0
   have KS:Kp (λ k=>k=lb) w3 (w3.setCell ⟨lb,0,none⟩ (.slice (some ⟨gn,0,none⟩) (k+1+1) capn)):=(Kr (λ k=>k=lb) w3).setCell (λ _=>rfl) _
   refine⟨rfl,_,one_setCell HB3.out,?_,((HK2.out.Al _).trans (HK3.out.mono λ i _ h=>.inr h) (λ _ _ h=>h)).trans KS (λ _ _ h=>.inl h)⟩
   rw[HJ.out,EK,List.length_append,HLn.out]
   exact Ah HR3.out KS (λ b hb' e=>by have:=(Af HR3.out hb').1;omega)

def EqAt(w:World)(eb b:Nat):Prop:=w.cell? ⟨eb,0,none⟩=some (.func (.func 194) #[] #[.pointer (some ⟨b,0,none⟩)])/\eb<w.heap.size/\ByAt w b

theorem EqAt.Ad{w w':World}{eb b:Nat}(h:EqAt w eb b)(k:Kp Ab w w'):EqAt w' eb b:=⟨k.cell h.1 (λ h=>h),Nat.lt_of_lt_of_le h.2.1 k.size,h.2.2.Ad k⟩

theorem EqAt.keepG{w w':World}{eb b g:Nat}(h:EqAt w eb b)(k:Kp (λ k=>k=g) w w')(h1:¬ eb=g)(h2:¬ b=g):EqAt w' eb b:=⟨k.cell h.1 h1,Nat.lt_of_lt_of_le h.2.1 k.size,k.cell h.2.2.1 h2,Nat.lt_of_lt_of_le h.2.2.2 k.size⟩

theorem EqBy_at(x y:Nat×Nat)(eb b:Nat)(w:World)(h:EqAt w eb b):
  Calls prog 198 #[.agg #[.int .i64 (x.1:Nat),.int .i64 (x.2:Nat)],.agg #[.int .i64 (y.1:Nat),.int .i64 (y.2:Nat)],.pointer (some ⟨eb,0,none⟩)] w λ e w'=>e=.returned (.bool (decide (x.1=y.1)))/\Kp Ab w w':=by
 obtain⟨he,hel,hb⟩:=h
 obtain⟨w1,hw1⟩:∃ w1,w1=w.alloc (.cells #[.int .i64 (x.1:Nat),.int .i64 (x.2:Nat)] 225):=⟨_,rfl⟩
 obtain⟨w2,hw2⟩:∃ w2,w2=w1.alloc (.cells #[.int .i64 (y.1:Nat),.int .i64 (y.2:Nat)] 225):=⟨_,rfl⟩
 have k1:Kp Ab w w1:=by rw[hw1];exact (Kr _ w).alloc _
 have k2:Kp Ab w1 w2:=by rw[hw2];exact (Kr _ w1).alloc _
 have b1:w1.heap[w.heap.size]?=some (.cells #[.int .i64 (x.1:Nat),.int .i64 (x.2:Nat)] 225 (0,0)):=by rw[hw1];exact wN w _
 have b2:w2.heap[w1.heap.size]?=some (.cells #[.int .i64 (y.1:Nat),.int .i64 (y.2:Nat)] 225 (0,0)):=by rw[hw2];exact wN w1 _
 have z1:w1.heap.size=w.heap.size+1:=by rw[hw1];simp
 rw[z1] at b2
 have b1':=k2.at_ b1 (λ h=>h)
 have x0:w2.cell? ⟨w.heap.size,0,none⟩=some (.int .i64 (x.1:Nat)):=by simp[World.cell?,b1']
 have x1:w2.cell? ⟨w.heap.size,1,none⟩=some (.int .i64 (x.2:Nat)):=by simp[World.cell?,b1']
 have y0:w2.cell? ⟨w.heap.size+1,0,none⟩=some (.int .i64 (y.1:Nat)):=by simp[World.cell?,b2]
 have y1:w2.cell? ⟨w.heap.size+1,1,none⟩=some (.int .i64 (y.2:Nat)):=by simp[World.cell?,b2]
 have K2:=k1.then' k2
 have he2:=K2.cell he (λ h=>h)
 have HB:=sE (By_at x y b w2 (hb.Ad K2))
 have HV:Sl (((cmpN x.1 y.1)==0)=decide (x.1=y.1)):=⟨by
  unfold cmpN
  by_cases h1:x.1<y.1
  .rw [if_pos h1,dF (by omega)];rfl
  .by_cases h2:y.1<x.1
   .rw [if_neg h1,if_pos h2,dF (by omega)];rfl
   .rw [if_neg h1,if_neg h2,dT (by omega)];rfl⟩
 clear he hb b1 b2 b1' k1 k2 z1
 subst hw2 hw1
 go_enter func198,ntmps198
 go_wp2_with fail
 refine HB.out.mono ?_
 rintro e w3 ⟨rfl,k3,-⟩
 go_wp2
 go_ret
 exact⟨by rw[<- HV.out];rfl,K2.then' k3⟩

def CmpPost(L:List (Nat×Nat))(g cap:Nat)(w:World)(e:Ending)(w':World):Prop:=
 e=.returned (.slice (some ⟨g,0,none⟩) (Cy L).length cap)/\Kp (λ k=>k=g) w w'/\∃ f,RunF w' g cap (Cy L).length f/\∀ p x,(Cy L)[p]?=some x->f p=x

theorem zeroRun21(w:World):(zeroValue 225).run prog w=.ok (.agg #[.int .i64 0,.int .i64 0]) w:=by kernel_rfl

theorem Fg{L:List (Nat×Nat)}:∀ {j:Nat},j<=L.length->(∀ p z y,p+1<j->L[p]?=some z->L[p+1]?=some y->¬ y.1=z.1)->Cy (L.take j)=L.take j
 |0,_,_=>rfl
 |1,h,_=>by
  cases L with
  |nil=>rfl
  |cons x L=>rfl
 |j+2,h,hd=>by
  obtain⟨z,hz⟩:∃ z,L[j]?=some z:=⟨_,List.getElem?_eq_getElem (by omega)⟩
  obtain⟨y,hy⟩:∃ y,L[j+1]?=some y:=⟨_,List.getElem?_eq_getElem (by omega)⟩
  rw[onceR_take hz hy,if_neg (hd j z y (by omega) hz hy),Fg (by omega) (λ p a b hp=>hd p a b (by omega)),List.take_add_one (i:=j+1),hy]
  rfl

set_option maxRecDepth 20000 in
theorem Compact_at(L:List (Nat×Nat))(g cap n eb:Nat)(f0:Nat->Nat×Nat)(w:World)(h:RunF w g cap n f0)(hl:L.length=n)(hf:∀ p x,L[p]?=some x->f0 p=x)(hn:n<=65536)(hcap:cap<=9223372036854775807)(heg:¬ eb=g)
  (hE:∀ (x y:Nat×Nat) W',Kp (λ k=>k=g) w W'->Calls prog 198 #[.agg #[.int .i64 (x.1:Nat),.int .i64 (x.2:Nat)],.agg #[.int .i64 (y.1:Nat),.int .i64 (y.2:Nat)],.pointer (some ⟨eb,0,none⟩)] W' λ e w'=>e=.returned (.bool (decide (x.1=y.1)))/\Kp Ab W' w'):
  Calls prog 197 #[.slice (some ⟨g,0,none⟩) n cap,.func (.func 198) #[] #[.pointer (some ⟨eb,0,none⟩)]] w (CmpPost L g cap w):=by
 have HR:=sE h
 have HE:=sE hE
 have HF:Sl (∀ p,p<n->L[p]?=some (f0 p)):=⟨λ p hp=>by
  obtain⟨x,hx⟩:∃ x,L[p]?=some x:=⟨_,List.getElem?_eq_getElem (by omega)⟩
  rw[hx,hf p x hx]⟩
 have hnc:=h.le
 have HL:=sE hl
 clear h hf hl hE
 go_enter func197,ntmps197
 by_cases h2:n<2
 .have h2':(n:Int)<2:=by omega
  have HO:Sl (Cy L=L):=⟨by
   have:=Fg (L:=L) (j:=n) (by rw[HL.out];exact Nat.le_refl _) (λ p z y hp=>by omega)
   rwa [List.take_of_length_le (by rw[HL.out];exact Nat.le_refl _)] at this⟩
  go_wp2
  go_ret
  refine⟨by rw[HO.out,HL.out];rfl,Kr _ _,f0,by rw[HO.out,HL.out];exact HR.out,λ p x hx=>?_⟩
  rw[HO.out] at hx
  have hp:=(gE.1 hx).1
  have:=HF.out p (by rw[<- HL.out];exact hp)
  rw[hx] at this
  injection this with this
  exact this.symm
 .have h2':¬ (n:Int)<2:=by omega
  go_wp2_with fail
  go_loopw [5] (λ y wr=>∃ i:Nat,i+1<=n/\y=.int .i64 ((i+1:Nat):Int)/\Sl (∀ p z y,p+1<i+1->L[p]?=some z->L[p+1]?=some y->¬ y.1=z.1)/\Kp Ab w wr) (λ y _=>n-(intOf y).toNat)
  case atStart=>exact ⟨0,by omega,rfl,⟨λ p z y hp=>by omega⟩,Kr _ _⟩
  case round=>
   obtain⟨i,hi,rfl,HD,hk⟩:=hrel
   have HK:=sE hk
   by_cases hjl:i+1<n
   .have hjl':(i:Int)+1<(n:Int):=by omega
    obtain⟨x,hx⟩:∃ x,f0 (i+1)=x:=⟨_,rfl⟩
    obtain⟨z,hz⟩:∃ z,f0 i=z:=⟨_,rfl⟩
    obtain⟨c0,c1⟩:=(HR.out.keep hk (λ h=>h)).cells hjl
    obtain⟨d0,d1⟩:=(HR.out.keep hk (λ h=>h)).cells (p:=i) (by omega)
    rw[hx] at c0 c1
    rw[hz] at d0 d1
    have HX:Sl (L[i+1]?=some x/\L[i]?=some z):=⟨by rw[HF.out (i+1) hjl,HF.out i (by omega),hx,hz];exact ⟨rfl,rfl⟩⟩
    have HEx:=sE (λ W' (kk:Kp Ab wr W')=>HE.out x z W' ((hk.then' kk).Al _))
    clear hk hx hz
    go_wp2_with fail
    have hz0:(0:Int)<=(i:Int)+1:=by omega
    have hz1:(i:Int)<(n:Int):=by omega
    have hz2:(0:Int)<=(i:Int):=by omega
    have hwr3:IntKind.i64.wrap (i:Int)=(i:Int):=by rw[IntKind.wrap_i64];omega
    have hwr1:IntKind.i64.wrap ((i:Int)+1-1)=(i:Int):=by rw[IntKind.wrap_i64];omega
    have hwr2:IntKind.i64.wrap (((i+1:Nat):Int)-1)=(i:Int):=by rw[IntKind.wrap_i64];omega
    refine wp_region_held_drew (S:=λ w'=>w'.cell? ⟨g,(i+1)*2,none⟩=some (.int .i64 (x.1:Nat))/\w'.cell? ⟨g,(i+1)*2+1,none⟩=some (.int .i64 (x.2:Nat))/\w'.cell? ⟨g,i*2,none⟩=some (.int .i64 (z.1:Nat))/\w'.cell? ⟨g,i*2+1,none⟩=some (.int .i64 (z.2:Nat))) (by kernel_rfl) ?_ (λ qZ=>?_)
    .exact ⟨c0,c1,d0,d1⟩
    refine Ao 0 ?_;refine Ao 1 ?_;refine Ao 2 ?_;refine Ao 3 ?_;refine Ao 4 ?_;refine Ao 5 ?_;refine Ao 6 ?_;refine Ao 7 ?_;refine Ao 8 ?_;refine Ao 9 ?_
    try simp only[Aw]
    refine AV [10] ?_
    refine Ag rfl (λ K hK=>?_)
    go_simp
    go_at_call 198
    (with_reducible refine(HEx.out _ (Kr _ _).drew).mono ?_)
    rintro e w9 ⟨rfl,k9⟩
    have K9:Kp Ab wr w9:=((Kr Ab wr).drew).then' k9
    refine hK _ _ ?_ (λ qZ=>?_)
    .exact ⟨Ac K9 c0,Ac K9 c1,Ac K9 d0,Ac K9 d1⟩
    clear hK K
    try simp only[Aw]
    refine wpAnyH_done (by kernel_rfl) ?_ _
    have HK9:=sE (HK.out.then' K9)
    clear k9 K9 c0 c1 d0 d1 qZ hwr1 hwr2
    by_cases hxz:x.1=z.1
    .have p1:decide (x.1=z.1)=true:=dT hxz
     rw[p1]
     have HT0:Sl (Cy (L.take (i+1+1))=L.take (i+1)):=⟨by
      rw[onceR_take HX.out.2 HX.out.1,if_pos hxz,List.append_nil]
      exact Fg (by rw[HL.out];omega) HD.out⟩
     clear p1 hxz
     go_wp2_with fail
     have HR9:=sE (HR.out.keep HK9.out (λ h=>h))
     obtain⟨m,hm⟩:∃ m,n-(i+1)=m:=⟨_,rfl⟩
     obtain⟨cm,hcm⟩:∃ cm,cap-(i+1)=cm:=⟨_,rfl⟩
     rw[hm,hcm]
     obtain⟨o,ho⟩:∃ o,(i+1)*2=o:=⟨_,rfl⟩
     rw[ho]
     clear HEx
     go_loopw [5,7] (λ x5 x7 wr=>∃ (q c:Nat) (f:Nat->Nat×Nat),q+1<=m/\x7=.int .i64 ((q+1:Nat):Int)/\x5=.int .i64 (c:Nat)/\c<=i+1+q/\Sl (c=(Cy (L.take (i+1+(q+1)))).length)/\RunF wr g cap n f/\Sl (∀ p,p<c->(Cy (L.take (i+1+(q+1))))[p]?=some (f p))/\Sl (∀ p,i+1+q<=p->p<n->f p=f0 p)/\Kp (λ k=>k=g) w9 wr) (λ _ x7 _=>m-(intOf x7).toNat)
     case atStart=>
      refine⟨0,i+1,f0,by omega,rfl,by go_num,by omega,⟨?_⟩,HR9.out,⟨λ p hp=>?_⟩,⟨λ p _ _=>rfl⟩,Kr _ _⟩
      .rw [HT0.out,List.length_take,HL.out];omega
      .rw [HT0.out,List.getElem?_take_of_lt hp]
       exact HF.out p (by omega)
     case round=>
      obtain⟨q,c,f,hq,rfl,rfl,hcq,HC,hr,HA,HB,hk9⟩:=hrel
      have HKr:=sE hk9
      have HRr:=sE hr
      by_cases hql:q+1<m
      .have hql':(q:Int)+1<(m:Int):=by omega
       obtain⟨x',hx'⟩:∃ x',f0 (i+1+(q+1))=x':=⟨_,rfl⟩
       obtain⟨z',hz'⟩:∃ z',f0 (i+1+q)=z':=⟨_,rfl⟩
       have ha:i+1+(q+1)<n:=by omega
       obtain⟨c0,c1⟩:=hr.cells ha
       obtain⟨d0,d1⟩:=hr.cells (p:=i+1+q) (by omega)
       rw[HB.out _ (by omega) ha,hx'] at c0 c1
       rw[HB.out _ (by omega) (by omega),hz'] at d0 d1
       rw[show (i+1+(q+1))*2=o+(q+1)*2 by omega] at c0 c1
       rw[show (i+1+q)*2=o+q*2 by omega] at d0 d1
       have HXq:Sl (L[i+1+(q+1)]?=some x'/\L[i+1+q]?=some z'):=⟨by rw[HF.out _ ha,HF.out (i+1+q) (by omega),hx',hz'];exact ⟨rfl,rfl⟩⟩
       have HSu:Sl (Cy (L.take (i+1+(q+1)+1))=Cy (L.take (i+1+(q+1)))++(if x'.1=z'.1 then [] else [x'])):=⟨onceR_take (j:=i+1+q) HXq.out.2 HXq.out.1⟩
       have HEx:=sE (λ W' (kk:Kp Ab wr W')=>HE.out x' z' W' (((HK9.out.Al (λ k=>k=g)).trans HKr.out (λ _ _ h=>h)).trans kk (λ _ _ h=>h.elim)))
       have hz0:(0:Int)<=(q:Int)+1:=by omega
       have hz1:(q:Int)<(m:Int):=by omega
       have hz2:(0:Int)<=(q:Int):=by omega
       have hwr3:IntKind.i64.wrap (q:Int)=(q:Int):=by rw[IntKind.wrap_i64];omega
       have hwr1:IntKind.i64.wrap ((q:Int)+1-1)=(q:Int):=by rw[IntKind.wrap_i64];omega
       have hwr2:IntKind.i64.wrap (((q+1:Nat):Int)-1)=(q:Int):=by rw[IntKind.wrap_i64];omega
       clear hk9 hr hx' hz'
       go_wp2_with fail
       refine wp_region_held_drew (S:=λ w'=>w'.cell? ⟨g,o+(q+1)*2,none⟩=some (.int .i64 (x'.1:Nat))/\w'.cell? ⟨g,o+(q+1)*2+1,none⟩=some (.int .i64 (x'.2:Nat))/\w'.cell? ⟨g,o+q*2,none⟩=some (.int .i64 (z'.1:Nat))/\w'.cell? ⟨g,o+q*2+1,none⟩=some (.int .i64 (z'.2:Nat))) (by kernel_rfl) ?_ (λ qZ=>?_)
       .exact ⟨c0,c1,d0,d1⟩
       refine Ao 0 ?_;refine Ao 1 ?_;refine Ao 2 ?_;refine Ao 3 ?_;refine Ao 4 ?_;refine Ao 5 ?_;refine Ao 6 ?_;refine Ao 7 ?_;refine Ao 8 ?_;refine Ao 9 ?_
       try simp only[Aw]
       refine AV [10] ?_
       refine Ag rfl (λ K hK=>?_)
       go_simp
       go_at_call 198
       (with_reducible refine(HEx.out _ (Kr _ _).drew).mono ?_)
       rintro e w8 ⟨rfl,k8⟩
       have K8:Kp Ab wr w8:=((Kr Ab wr).drew).then' k8
       refine hK _ _ ?_ (λ qZ=>?_)
       .exact ⟨Ac K8 c0,Ac K8 c1,Ac K8 d0,Ac K8 d1⟩
       clear hK K
       try simp only[Aw]
       refine Ao 11 ?_
       try simp only[Aw]
       refine wpAnyH_done (by kernel_rfl) ?_ _
       have e0:=Ac K8 c0
       have e1:=Ac K8 c1
       have HK8:=sE K8
       have hr8:=HRr.out.keep K8 (λ h=>h)
       have hcn:c<n:=by omega
       have hcn':(c:Int)<(n:Int):=by omega
       obtain⟨y0,y1⟩:=hr8.cells hcn
       have hfz:=hr8.free
       have HR8:=sE hr8
       clear k8 K8 c0 c1 d0 d1 qZ hr8
       by_cases hxz:x'.1=z'.1
       .have p1:decide (x'.1=z'.1)=true:=dT hxz
        rw[if_pos hxz,List.append_nil] at HSu
        rw[p1]
        clear hxz p1
        go_wp2
        refine⟨⟨q+1,c,f,by omega,by go_num,rfl,by omega,⟨?_⟩,HR8.out,⟨λ p hp=>?_⟩,⟨λ p h1 h2=>HB.out p (by omega) h2⟩,HKr.out.trans HK8.out (λ _ _ h=>h.elim)⟩,by simp only[intOf];omega⟩
        .rw [show i+1+(q+1+1)=i+1+(q+1)+1 from rfl,HSu.out]
         exact HC.out
        .rw [show i+1+(q+1+1)=i+1+(q+1)+1 from rfl,HSu.out]
         exact HA.out p hp
       .have p1:decide (x'.1=z'.1)=false:=dF hxz
        rw[if_neg hxz] at HSu
        rw[p1]
        clear hxz p1
        go_wp2
        have hrs:=HR8.out.store hcn x'
        have ks:Kp (λ k=>k=g) w8 ((w8.setCell ⟨g,c*2,none⟩ (.int .i64 (x'.1:Nat))).setCell ⟨g,c*2+1,none⟩ (.int .i64 (x'.2:Nat))):=
         ((Kr (λ k=>k=g) w8).setCell (λ _=>rfl) _).setCell (λ _=>rfl) _
        refine⟨⟨q+1,c+1,updR f c x',by omega,by go_num,by go_num,by omega,⟨?_⟩,hrs,⟨λ p hp=>?_⟩,⟨λ p h1 h2=>?_⟩,(HKr.out.trans HK8.out (λ _ _ h=>h.elim)).trans ks (λ _ _ h=>h)⟩,by simp only[intOf];omega⟩
        .rw [show i+1+(q+1+1)=i+1+(q+1)+1 from rfl,HSu.out,List.length_append,<- HC.out]
         rfl
        .rw [show i+1+(q+1+1)=i+1+(q+1)+1 from rfl,HSu.out]
         by_cases e:p=c
         .subst e
          rw[List.getElem?_append_right (by rw[<- HC.out];exact Nat.le_refl _),<- HC.out,Nat.sub_self]
          simp[updR]
         .rw [List.getElem?_append_left (by rw[<- HC.out];omega),HA.out p (by omega)]
          simp[updR,e]
        .rw [<- HB.out p (by omega) h2]
         unfold updR
         rw[if_neg (by omega)]
      .have hql':¬ (q:Int)+1<(m:Int):=by omega
       obtain⟨vs,hvs⟩:∃ vs,(Builtin.zeroCells (Value.cells (.agg #[.int .i64 0,.int .i64 0])) (n-c)).toList=vs:=⟨_,rfl⟩
       have hcl:∀ ty,(Builtin.clear_ #[163] ty #[.slice (some ⟨g,c*2,none⟩) (n-c) (cap-c)]).run prog wr=.ok (.tuple #[]) (wr.setCells g (c*2) vs):=λ ty=>by
        rw[<- hvs]
        exact run_clear_cells wr _ 225 ty _ 2 Cx zeroRun21 rfl (by intro u hu;simp [Value.cells] at hu;rcases hu with rfl|rfl <;> rfl) (by omega) g (c*2) (n-c) _ (by omega)
         (λ p hp=>hr.isCell (by have:=hr.le;omega)) (λ p hp=>hr.free _)
       have hcn':(c:Int)<(n:Int):=by omega
       have hcc:c<=cap:=by omega
       have hcc':(c:Int)<=(cap:Int):=by omega
       have HVs:=sE hvs
       clear hk9 hr hvs
       go_wp2
       go_ret
       obtain⟨cur,e1,e2,e3⟩:=HRr.out.blk
       obtain⟨cur',d1,d2,d3,d4⟩:=EY g 225 vs (c*2) wr cur e1
       have hall:L.take (i+1+(q+1))=L:=List.take_of_length_le (by rw[HL.out];omega)
       have hcL:c=(Cy L).length:=by have:=HC.out;rwa [hall] at this
       refine⟨by rw[<- hcL];rfl,((HK9.out.Al (λ k=>k=g)).trans HKr.out (λ _ _ h=>h)).trans d4 (λ _ _ h=>h),f,⟨⟨cur',d1,by rw[d2,e2],λ p hp=>?_⟩,by omega,HRr.out.cap_le⟩,λ p x hx=>?_⟩
       .rw [<- hcL] at hp
        rw[d3 _ (by omega),d3 _ (by omega)]
        exact e3 p (by omega)
       .have hp:=(gE.1 hx).1
        have:=HA.out p (by omega)
        rw[hall,hx] at this
        injection this with this
        exact this.symm
    .have p1:decide (x.1=z.1)=false:=dF hxz
     have HD2:Sl (∀ p z y,p+1<i+1+1->L[p]?=some z->L[p+1]?=some y->¬ y.1=z.1):=⟨λ p z' y' hp h1 h2=>by
      by_cases e:p=i
      .subst e
       rw[HX.out.2] at h1
       rw[HX.out.1] at h2
       injection h1 with h1
       injection h2 with h2
       rw[<- h1,<- h2]
       exact hxz
      .exact HD.out p z' y' (by omega) h1 h2⟩
     go_wp2
     exact⟨⟨i+1,by omega,by go_num,HD2,HK9.out⟩,by simp only[intOf];omega⟩
   .have hjl':¬ (i:Int)+1<(n:Int):=by omega
    have HO:Sl (Cy L=L):=⟨by
     have:=Fg (L:=L) (j:=n) (by rw[HL.out];exact Nat.le_refl _) (λ p z y hp=>HD.out p z y (by omega))
     rwa [List.take_of_length_le (by rw[HL.out];exact Nat.le_refl _)] at this⟩
    clear hk
    go_wp2
    go_ret
    refine⟨by rw[HO.out,HL.out];rfl,HK.out.Al _,f0,by rw[HO.out,HL.out];exact HR.out.keep HK.out (λ h=>h),λ p x hx=>?_⟩
    rw[HO.out] at hx
    have hp:=(gE.1 hx).1
    have:=HF.out p (by rw[<- HL.out];exact hp)
    rw[hx] at this
    injection this with this
    exact this.symm

end

section
open Go.RowKit Go.Conc

section
variable {P:Program} {Q:Exit->Act->World->Prop} {a:Act} {w:World}

end

structure MS where
 f:Nat->Bool
 full:Bool
 n:Nat
 stk:List Nat
 deep:Nat

open Go.RowKit

inductive MReach (KF:Nat->List Nat) (rs:Nat->Prop):Nat->Prop
 |root {g:Nat}:rs g->MReach KF rs g
 |step {g k:Nat}:MReach KF rs g->k∈KF g->MReach KF rs k

structure MInv(KF:Nat->List Nat)(T rs:Nat->Prop)(cap:Nat)(X:Nat->Prop)(S:MS):Prop where
 re:∀ g,S.f g=true->T g/\MReach KF rs g
 st:∀ g∈S.stk,S.f g=true
 ln:S.stk.length<=S.n
 fl:S.full=true->cap<S.n
 cl:S.full=false->∀ g,S.f g=true->g∈S.stk\/X g\/∀ k∈KF g,S.f k=true

structure MExt(S S':MS):Prop where
 f:∀ g,S.f g=true->S'.f g=true
 n:S.n<=S'.n
 up:S.full=true->S'.full=true
 dn:S'.full=true->S.full=true\/S.n<S'.n
 mu:S'.stk.length+2*S.n<=S.stk.length+2*S'.n

theorem MExt.refl(S:MS):MExt S S:=⟨λ _ h=>h,Nat.le_refl _,λ h=>h,λ h=>.inl h,Nat.le_refl _⟩

theorem MExt.trans{A B C:MS}(h:MExt A B)(k:MExt B C):MExt A C:=
 ⟨λ g e=>k.f g (h.f g e),Nat.le_trans h.n k.n,λ e=>k.up (h.up e),λ e=>by
  have h1:=h.n
  have h2:=k.n
  rcases k.dn e with e|e
  .rcases h.dn e with e|e
   .exact .inl e
   .exact .inr (by omega)
  .exact .inr (by omega),by have:=h.mu;have:=k.mu;omega⟩

theorem MInv.mono{KF:Nat->List Nat}{T rs:Nat->Prop}{cap:Nat}{X Y:Nat->Prop}{S:MS}(h:MInv KF T rs cap X S)(hxy:∀ g,X g->Y g):MInv KF T rs cap Y S:=
 ⟨h.re,h.st,h.ln,h.fl,λ hf x hx=>by
  rcases h.cl hf x hx with e|e|e
  .exact .inl e
  .exact .inr (.inl (hxy x e))
  .exact .inr (.inr e)⟩

attribute [local go_sem] Oper.semAt_some

end

section
open Go.RowKit Go.Conc

section
variable {KF:Nat->List Nat} {T rs:Nat->Prop} {mb c cap base:Nat} {v0:Value} {sp sq mp mq H:Nat} {fs:Nat->Bool} {I:World->Prop} {X Y:Nat->Prop} {w0 w1 w2:World} {lv0 lv1 lv2:Value} {S0 S1 S2:MS}

end

section
variable {KF:Nat->List Nat} {T rs:Nat->Prop} {mb c cap base:Nat} {v0:Value} {sp sq mp mq H:Nat} {fs:Nat->Bool} {I:World->Prop} {X Y:Nat->Prop} {w0 w1 w2:World} {lv0 lv1 lv2:Value} {S0 S1 S2:MS}

end

end

section
open Go.RowKit Go.Conc

def Dr(w:World)(v:Value)(xs:List Nat):Prop:=
 ∃ a cap,v=.slice a xs.length cap/\∀ i x,xs[i]?=some x->∃ b o,a=some ⟨b,o,none⟩/\w.cell? ⟨b,o+i,none⟩=some (.int .i64 (x:Nat))

theorem Dr.Ad{w w':World}{v:Value}{xs:List Nat}(h:Dr w v xs)(k:Kp Ab w w'):Dr w' v xs:=by
 obtain⟨a,cap,hv,h⟩:=h
 exact⟨a,cap,hv,λ i x hx=>by
  obtain⟨b,o,h1,h2⟩:=h i x hx
  exact⟨b,o,h1,k.cell h2 (λ h=>h)⟩⟩

def CV(cs:List Cel)(g:Nat):Prop:=∃ c∈cs,c.tag=1/\c.g=g

theorem objG_find{cs:List Cel}{g:Nat}(h:CV cs g):∃ c,cs.find? (λ c=>c.tag==1&&c.g==g)=some c/\c∈cs/\c.tag=1/\c.g=g:=by
 obtain⟨c,h1,h2,h3⟩:=h
 cases hf:cs.find? (λ c=>c.tag==1&&c.g==g) with
 |none=>
  have:=List.find?_eq_none.1 hf c h1
  simp[h2,h3] at this
 |some x=>
  have h4:=List.find?_some hf
  simp only[Bool.and_eq_true,beq_iff_eq] at h4
  exact⟨x,rfl,List.mem_of_find?_eq_some hf,h4.1,h4.2⟩

theorem objG_start{cs:List Cel}{g:Nat}:CV cs g ↔ Ar cs g=true:=by
 unfold CV Ar
 simp

theorem MInv.all{KF:Nat->List Nat}{T rs:Nat->Prop}{cap:Nat}{S:MS}(h:MInv KF T rs cap (λ _=>False) S)(h1:S.stk=[])(h2:S.full=false)(h3:∀ g,rs g->S.f g=true)(g:Nat):S.f g=true ↔ MReach KF rs g:=by
 refine⟨λ e=>(h.re g e).2,λ e=>?_⟩
 induction e with
 |root hg=>exact h3 _ hg
 |step _ hk ih=>
  rcases h.cl h2 _ ih with e|e|e
  .rw [h1] at e
   cases e
  .exact e.elim
  .exact e _ hk

open Go.RowKit

def DX(f:Nat->Bool)(j:Nat):List Nat:=(List.range j).filter f

theorem setL_succ(f:Nat->Bool)(j:Nat):DX f (j+1)=DX f j++(if f j=true then [j] else []):=by
 unfold DX
 rw[List.range_succ,List.filter_append]
 congr 1
 by_cases h:f j=true <;> simp[h]

theorem setL_len(f:Nat->Bool)(j:Nat):(DX f j).length<=j:=by
 unfold DX
 exact Nat.le_trans (List.length_filter_le _ _) (by simp)

def BytesIn(w:World)(v:Value)(n:Nat)(ys:Nat->Nat):Prop:=
 ∃ a cap,v=.slice a n cap/\∀ i,i<n->∃ b o,a=some ⟨b,o,none⟩/\w.cell? ⟨b,o+i,none⟩=some (.int .u8 (ys i:Nat))/\ys i<256

theorem BytesIn.Ad{w w':World}{v:Value}{n:Nat}{ys:Nat->Nat}(h:BytesIn w v n ys)(k:Kp Ab w w'):BytesIn w' v n ys:=by
 obtain⟨a,cap,hv,h⟩:=h
 exact⟨a,cap,hv,λ i hi=>by
  obtain⟨b,o,h1,h2,h3⟩:=h i hi
  exact⟨b,o,h1,k.cell h2 (λ h=>h),h3⟩⟩

def CW(os:List Cel)(ys:Nat->Nat)(j:Nat):List Nat:=(List.range j).map λ i=>(os[ys i%os.length]?.map Cel.g).getD 0

theorem rootsL_succ{os:List Cel}{ys:Nat->Nat}{j:Nat}{x:Cel}(h:os[ys j%os.length]?=some x):CW os ys (j+1)=CW os ys j++[x.g]:=by
 unfold CW
 rw[List.range_succ,List.map_append,List.map_singleton,h]
 rfl

theorem rootsL_len(os:List Cel)(ys:Nat->Nat)(j:Nat):(CW os ys j).length=j:=by simp[CW]

def AY(os:List Cel)(ys:Nat->Nat)(n:Nat):List Nat:=if os=[] then [] else CW os ys n

theorem Roots20_at(P:Sp)(cs:List Cel)(w:World)(h:Ck w P cs)(hne:cs≠[])(v:Value)(n:Nat)(ys:Nat->Nat)(hn:n<=65536)(hv:BytesIn w v n ys):
  Calls prog 43 #[.pointer (some ⟨P.s,0,none⟩),v] w λ e w'=>∃ a c,e=.returned (.slice a (AY (Ap cs) ys n).length c)/\w'.ownsRow w.heap.size 3 1 (.slice a (AY (Ap cs) ys n).length c) (AY (Ap cs) ys n).length (AC (AY (Ap cs) ys n))/\Kp Ab w w':=by
 have HOb:=sE (Objects_at P cs w h hne)
 have holen:(Ap cs).length<=65536:=by
  obtain⟨W,f,hs,hc,-⟩:=h
  have:=Ci hc.tl
  have:=hs.ar.small
  have:(Ap cs).length<=cs.length:=List.length_filter_le _ _
  omega
 obtain⟨va,vc,rfl,hb⟩:=hv
 have HB:=sE hb
 obtain⟨os,hos⟩:∃ os,Ap cs=os:=⟨_,rfl⟩
 rw[hos] at HOb holen ⊢
 clear h hne hb hos
 go_enter func43,ntmps43
 go_wp2_with fail
 refine HOb.out.mono ?_
 rintro e w1 ⟨oa,oc,rfl,hrow,k1⟩
 have HRow:=sE hrow
 have HK1:=sE k1
 have z1:=k1.size
 clear hrow k1 HOb
 obtain⟨B,hB⟩:∃ B,w1.heap.size=B:=⟨_,rfl⟩
 have HBw:=sE hB
 obtain⟨L,hL⟩:∃ L,os.length=L:=⟨_,rfl⟩
 have HL:=sE hL
 rw[hL] at HRow holen
 rw[hB] at z1
 simp only[hL]
 by_cases hos:os=[]
 .have hL0:L=0:=by rw[<- hL,hos];rfl
  subst hL0
  have HRo:Sl (AY os ys n=[]):=⟨by unfold AY;rw [if_pos hos]⟩
  clear hL hos hB
  go_wp2_with fail
  go_loopw [6,7] (λ x6 x7 wr=>x6=.slice none 0 0/\x7=.int .i64 0/\wr=w1) (λ _ _ _=>0)
  case atStart=>exact ⟨rfl,rfl,rfl⟩
  case round=>
   obtain⟨rfl,rfl,rfl⟩:=hrel
   have hend:∃ a c,(Value.slice none 0 0)=.slice a (AY os ys n).length c/\wr.ownsRow w.heap.size 3 1 (.slice a (AY os ys n).length c) (AY os ys n).length (AC (AY os ys n)):=by
    rw[HRo.out]
    exact⟨none,0,rfl,World.ownsRow_nil _ _ _ _⟩
   have HEnd:=sE hend
   clear hend
   clear HB
   go_wp2_with fail
   all_goals go_ret
   all_goals (obtain ⟨a,c,h1,h2⟩:=HEnd.out;exact ⟨a,c,congrArg Ending.returned h1,h2,HK1.out⟩)
 .have hL0:0<L:=by
   rw[<- hL]
   exact List.length_pos_iff.2 hos
  have d0:decide ((0:Int)<(L:Int))=true:=dT (by omega)
  have HRo:Sl (AY os ys n=CW os ys n):=⟨by unfold AY;rw [if_neg hos]⟩
  clear hL hos hB
  go_wp2_with fail
  go_loopw [6,7] (λ x6 x7 wr=>∃ j:Nat,j<=n/\x7=.int .i64 (j:Nat)/\(∃ a m c,x6=.slice a m c)/\wr.ownsRow B 3 1 x6 (CW os ys j).length (AC (CW os ys j))/\Kp Ab w1 wr/\B<=wr.heap.size) (λ _ x7 _=>n-(intOf x7).toNat)
  case atStart=>exact ⟨0,Nat.zero_le _,rfl,⟨_,_,_,rfl⟩,World.ownsRow_nil _ _ _ _,Kr _ _,by have:=HBw.out;omega⟩
  case round=>
   obtain⟨j,hj,rfl,⟨la,ln,lc,rfl⟩,ho,hk,hsz⟩:=hrel
   have HO:=sE ho
   have HK:=sE hk
   by_cases hjl:j<n
   .have hjl':(j:Int)<(n:Int):=by omega
    obtain⟨yb,yo,rfl,hyc,hy⟩:=HB.out j hjl
    have hmod:ys j%L<L:=Nat.mod_lt _ hL0
    have hox:os[ys j%L]?=some (os[ys j%L]'(by rw[HL.out];exact hmod)):=List.getElem?_eq_getElem _
    obtain⟨x,hx⟩:∃ x,os[ys j%L]'(by rw[HL.out];exact hmod)=x:=⟨_,rfl⟩
    rw[hx] at hox
    obtain⟨ra,rcap,hra,hrc⟩:=HRow.out
    injection hra with r1 r2 r3
    subst r1
    obtain⟨rb,rfl,hrl,hcg,-,-,-,-⟩:=hrc _ _ hox
    have HAd:Sl (CW os ys (j+1)=CW os ys j++[x.g]):=⟨rootsL_succ (by rw[HL.out];exact hox)⟩
    have HLn:Sl ((CW os ys j).length<=65536):=⟨by rw[rootsL_len];omega⟩
    replace hyc:=(HK1.out.then' hk).cell hyc (λ h=>h)
    replace hcg:=hk.cell hcg (λ h=>h)
    obtain⟨y,hyq⟩:∃ y,ys j=y:=⟨_,rfl⟩
    rw[hyq] at hyc hy hmod hcg
    have hrem:(y:Int)%(L:Int)=((y%L:Nat):Int):=by omega
    have hi1:((y%L:Nat):Int)<(L:Int):=by omega
    have hne0:¬ (L:Int)=0:=by omega
    obtain⟨t,ht⟩:∃ t,y%L=t:=⟨_,rfl⟩
    rw[ht] at hrem hi1 hcg hmod
    clear ho hk hox hx hyq ht hrc r2 r3 hrl
    go_wp2_with (at_builtin;obtain ⟨i0,hi,hz0,hz1,hz2⟩:=info_parts Dj;go_loud (refine wpList_append_lies _ rfl (.tmp 21) (.tmp 34) 82 rfl B 3 i0 _ 1 8 A8 hi hz0 hz1 hz2 rfl (by omega) (.slice la ln lc) (CW os ys j).length (AC (CW os ys j)) rfl (HO.out.alloc _) ⟨wr.heap.size,0,none⟩ 1 1 [.int .i64 (x.g:Nat)] rfl rfl (World.news_of_block (wN wr _)) (by intro u hu;simp at hu;subst hu;rfl) (by omega) (by have:=HLn.out;unfold maxLen;omega) (by have:=HLn.out;omega) (by simp;omega) (wr.heap.size+1) (by simp) ?_);intro gn capn w5 hown5 hgrow hat hlt;clear hi hz0 hz1 hz2;have HGr:=sE hgrow;have HR5:=sE hown5;clear hown5 hgrow hat)
    have k5:Kp (λ k=>B<=k) wr w5:=((Kr Ab wr).alloc (.cells #[.int .i64 (x.g:Nat)] 3) |>.Al _).grown HGr.out (λ k e _=>(Af HO.out e).1)
    have hR:w5.ownsRow B 3 1 (.slice (some ⟨gn,0,none⟩) ((CW os ys j).length+1) capn) (CW os ys (j+1)).length (AC (CW os ys (j+1))):=by
     have:=HR5.out
     rw[HAd.out,AC,List.map_append,List.length_append]
     exact this
    have hz5:=k5.size
    exact⟨⟨j+1,by omega,by go_num,⟨_,_,_,rfl⟩,hR,((HK.out.Al (λ k=>B<=k)).trans k5 (λ _ _ h=>h)).mono (λ i hi h=>by have:=HBw.out;omega),by omega⟩,by simp only[intOf];omega⟩
   .obtain rfl:j=n:=by omega
    go_wp2_with fail
    go_ret
    obtain⟨a',c',hv⟩:=AA HO.out
    injection hv with v1 v2 v3
    have:=Bi HO.out z1
    rw[HRo.out]
    rw[v2] at this ⊢
    exact⟨la,lc,rfl,this,HK1.out.then' HK.out⟩

theorem MReach.mono{KF:Nat->List Nat}{rs rt:Nat->Prop}(h:∀ g,rs g->rt g){g:Nat}(k:MReach KF rs g):MReach KF rt g:=by
 induction k with
 |root e=>exact .root (h _ e)
 |step _ e ih=>exact .step ih e

theorem Dr.BK{w:World}{base:Nat}{e:TypeId}{a:Option Addr}{n c:Nat}{xs:List Nat}(h:w.ownsRow base e 1 (.slice a n c) n (AC xs)):Dr w (.slice a n c) xs:=by
 have hn:xs.length=n:=by have:=h.1;simpa [AC] using this
 subst hn
 refine⟨a,c,rfl,λ i x hx=>?_⟩
 obtain⟨b,hb,hc⟩:=Db h hx
 exact⟨b,0,hb,by rw[Nat.zero_add];exact hc⟩

theorem roots_obj{cs:List Cel}{ys:Nat->Nat}{n:Nat}:∀ g∈AY (Ap cs) ys n,CV cs g:=by
 intro g hg
 unfold AY at hg
 by_cases h0:Ap cs=[]
 .rw [if_pos h0] at hg
  cases hg
 .rw [if_neg h0] at hg
  unfold CW at hg
  obtain⟨i,-,hi⟩:=List.mem_map.1 hg
  have hlt:ys i%(Ap cs).length<(Ap cs).length:=Nat.mod_lt _ (List.length_pos_iff.2 h0)
  rw[List.getElem?_eq_getElem hlt] at hi
  have hm:=Dy.1 (List.getElem_mem hlt)
  exact⟨_,hm.1,hm.2,hi⟩

theorem Fh(os:List Cel)(ys:Nat->Nat)(n:Nat):(AY os ys n).length<=n:=by
 unfold AY
 by_cases h:os=[]
 .rw [if_pos h]
  exact Nat.zero_le _
 .rw [if_neg h,rootsL_len]
  exact Nat.le_refl _

section
variable {P:Program}

theorem run_append_none(w:World)(t ty e:TypeId)(i:TypeInfo)(ht:P.underlying t=some (.slice e))(hi:P.info? e=some i)(base size:Nat)(v:Value)(n:Nat)(xs:List Value)(hown:w.ownsRow base e size v n xs)(c:Nat):
  (Builtin.append_ #[t,t] ty #[v,.slice none 0 c]).run P w=.ok v w:=by
 rcases hown.2 with ⟨rfl,rfl⟩|⟨g,cap,cur,rfl,hbg,hg,hnc,hcm,hcs,htake⟩
 .simp [Builtin.append_,run_underlying ht,sizeOf,typeInfo,hi,Builtin.lenOf,Builtin.firstCells]
 .simp [Builtin.append_,run_underlying ht,sizeOf,typeInfo,hi,Builtin.lenOf,Builtin.firstCells,hnc,storeCells]

theorem run_append_nats(w:World)(t ty e:TypeId)(i:TypeInfo)(ht:P.underlying t=some (.slice e))(hi:P.info? e=some i)(hz:i.zero=some (.int .i64 0))(hsize:i.size=1)(hby:i.bytes=8)
  (base:Nat) (v:Value) (n:Nat) (xs:List Nat) (hown:w.ownsRow base e 1 v n (AC xs)) (u:Value) (ys:List Nat) (hu:Dr w u ys) (hle:n+ys.length<=1000000) (hbase:base<=w.heap.size):
  ∃ v' w',(Builtin.append_ #[t,t] ty #[v,u]).run P w=.ok v' w'/\w'.ownsRow base e 1 v' (n+ys.length) (AC (xs++ys))/\w.grownBy w' v.ownBlock:=by
 obtain⟨a,cap,rfl,hy⟩:=hu
 cases a with
 |none=>
  have h0:ys=[]:=by
   cases ys with
   |nil=>rfl
   |cons y ys=>
    obtain⟨b,o,e,-⟩:=hy 0 y rfl
    cases e
  subst h0
  refine⟨v,w,run_append_none w t ty e i ht hi base 1 v n _ hown cap,?_,⟨rfl,rfl,rfl,Nat.le_refl _,λ _ _ _=>rfl⟩⟩
  rw[List.append_nil]
  exact hown
 |some ad=>
  obtain⟨v',w',hr,h2,h3,_,h5⟩:=run_append_own_at (P:=P) w base t ty e i (.int .i64 0) 1 8 ht hi hz hsize hby rfl (by omega) v n (AC xs) hown ad ys.length cap (AC ys) (by simp[AC])
   (by
    intro j u hj
    unfold AC at hj
    rw[List.getElem?_map] at hj
    obtain⟨y,hyj,rfl⟩:=Option.map_eq_some_iff.1 hj
    obtain⟨b,o,ea,hc⟩:=hy j y hyj
    injection ea with ea
    subst ea
    rw[Addr.add_lit]
    exact hc)
   (by
    intro u hu
    obtain⟨_,_,rfl⟩:=List.mem_map.1 hu
    rfl) (by unfold maxLen;omega) (by omega) hbase
  refine⟨v',w',hr,?_,h3⟩
  rw[AC,List.map_append]
  exact h2

theorem wpList_append_nats(w:World){ops:Array Oper}{rest:List Oper}{o:Oper}{a:Act}{Q:Exit->Act->World->Prop}(hgd:o.guard=none)(s x:Operand)(t:TypeId)
  (ho:o.op=.call {callee:=.builtin .append,args:=#[s,x],argTypes:=#[t,t]}) (e:TypeId) (i:TypeInfo) (ht:P.underlying t=some (.slice e)) (hi:P.info? e=some i) (hz:i.zero=some (.int .i64 0)) (hsize:i.size=1) (hby:i.bytes=8)
  (base:Nat) (v:Value) (n:Nat) (xs:List Nat) (hs:a.eval s=v) (hown:w.ownsRow base e 1 v n (AC xs)) (u:Value) (ys:List Nat) (hx:a.eval x=u) (hu:Dr w u ys) (hle:n+ys.length<=1000000) (hbase:base<=w.heap.size)
  (h:∀ v' w',w'.ownsRow base e 1 v' (n+ys.length) (AC (xs++ys))->w.grownBy w' v.ownBlock->wpList P ops Q rest (a.put o.dst v') w'):wpList P ops Q (o::rest) a w:=by
 refine wpList_plain hgd λ K hK=>?_
 obtain⟨v',w',hr,h2,h3⟩:=run_append_nats (P:=P) w t o.type e i ht hi hz hsize hby base v n xs hown u ys hu hle hbase
 unfold Oper.wp execOp
 simp only[ho,resolve,invoke,builtin,Sem.run_bind,Sem.run_pure,Result.andThen_ok,List.map_toArray,List.map_cons,List.map_nil,hs,hx,hr]
 exact hK _ _ (h v' w' h2 h3)

end

section
variable {H:Type} {enc:TypeId×Value->H} {P:Program}

theorem u8_wf{n:Int}(h:(Lit.int .u8 n).wf=true):0<=n/\n<256:=by
 have h1:IntKind.u8.min=0:=by decide
 have h2:IntKind.u8.max=255:=by decide
 simp only[Lit.wf,h1,h2,Bool.and_eq_true,decide_eq_true_eq] at h
 omega

theorem open_bytes8{w:World}{base:Nat}{held:Bool}{t e:TypeId}{v:Value}{d:DataW H}{ps:List MemPlace}(ht:P.underlying t=some (.slice e))(he:P.underlying e=some (.int .u8))(hc:P.cellsOf e=1)(hv:∃ a len cap,v=.slice a len cap)
  (h:DataW.Trod enc P w base (λ _=>true) held t v d ps):∃ (len:Nat) (f:Nat->Nat),BytesIn w v len f:=by
 obtain⟨fuel,hf⟩:=h
 obtain⟨a0,len0,cap0,rfl⟩:=hv
 rcases Go.ChangeShapes.open_ints ht he hc hf with ⟨hcs,-⟩|⟨a,len,cap,zs,hcs,-,hl,hm,hz,-,hcell,hwz⟩
 .simp only[Value.cells,List.cons.injEq,and_true] at hcs
  injection hcs with h1 h2 h3
  subst h1
  subst h2
  exact⟨0,λ _=>0,none,cap0,rfl,λ i hi=>by omega⟩
 .simp only[Value.cells,List.cons.injEq,and_true] at hcs
  injection hcs with h1 h2 h3
  subst h1
  subst h2
  rw[if_pos rfl] at hz
  refine⟨len0,λ i=>(zs.getD i 0).toNat,some a,cap0,rfl,λ i hi=>?_⟩
  have hi':i<zs.length:=by omega
  have hc:=hcell i hi'
  have hw:=u8_wf (hwz (zs.getD i 0) (by rw[List.getD_eq_getElem?_getD,List.getElem?_eq_getElem hi'];exact List.getElem_mem hi'))
  obtain⟨e1,-⟩:=ET (hcell 0 (by omega))
  have e2:a=⟨a.block,a.off,none⟩:=by
   obtain⟨b,o,p⟩:=a
   cases p with
   |none=>rfl
   |some q=>simp [Addr.add] at e1
  refine⟨a.block,a.off,by rw[<- e2],?_,by dsimp only;omega⟩
  rw[e2,Addr.add_lit] at hc
  rw[hc,Int.toNat_of_nonneg hw.1]

end

end

end Go.Proofs.YtmfajopmppfldaaGreatDoor
