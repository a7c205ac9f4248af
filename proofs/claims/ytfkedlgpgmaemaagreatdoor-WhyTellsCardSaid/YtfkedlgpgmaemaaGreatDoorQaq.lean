/-
  Lemmas for the laws, together: SettleA.
-/
import Derived.Test.YtfkedlgpgmaemaaGreatDoorQap
import Derived.Test.YtfkedlgpgmaemaaGreatDoorQao
import Derived.Test.YtfkedlgpgmaemaaGreatDoorQak
set_option linter.unusedVariables false
set_option maxHeartbeats 16000000
namespace Go.Proofs.YtfkedlgpgmaemaaGreatDoor
open Tryz
section
open Go.RowKit

theorem cell_only{cs:List Cel}{a H:Nat}(ht:AC a cs H){c d:Cel}(hc:c∈cs)(hd:d∈cs){j:Nat}(h1:c.g<=j)(h2:j<c.fin)(h3:d.g<=j)(h4:j<d.fin):c=d:=by
 obtain⟨pre,post,rfl⟩:=List.append_of_mem hc
 have t:=ht.fin_at
 rcases List.mem_append.1 hd with m|m
 .have:=t.2.2.mem m
  unfold Cel.fin at*
  omega
 .rcases List.mem_cons.1 m with m|m
  .exact m.symm
  .have:=t.2.1.mem m
   unfold Cel.fin at*
   omega

theorem cut_uniq:∀ {A A' B B':List Cel} {c c':Cel} {a H:Nat},AC a (A++c::B) H->A++c::B=A'++c'::B'->c.g=c'.g->A=A'/\c=c'/\B=B'
 |[],[],B,B',c,c',a,H,ht,he,hg=>by
  injection he with h1 h2
  exact⟨rfl,h1,h2⟩
 |[],d::A',B,B',c,c',a,H,ht,he,hg=>by
  injection he with h1 h2
  subst h1 h2
  have t1:c.g=a:=ht.1
  have t2:0<c.sz:=ht.2.1
  have:=AC.mem (c:=c') ht.2.2 (by simp)
  omega
 |d::A,[],B,B',c,c',a,H,ht,he,hg=>by
  injection he with h1 h2
  subst h1
  have t1:d.g=a:=ht.1
  have t2:0<d.sz:=ht.2.1
  have:=AC.mem (c:=c) ht.2.2 (by simp)
  omega
 |d::A,d'::A',B,B',c,c',a,H,ht,he,hg=>by
  injection he with h1 h2
  obtain⟨e1,e2,e3⟩:=cut_uniq (a:=a+d.sz) ht.2.2 h2 hg
  exact⟨by rw[h1,e1],e2,e3⟩

theorem ends_uniq{p p' g g':List Cel}(h:p++g=p'++g')(h1:EndsObj p)(h2:EndsObj p')(k1:∀ d∈g,¬ d.tag=1)(k2:∀ d∈g',¬ d.tag=1):p=p'/\g=g':=by
 have key:∀ {p p' g g' t:List Cel},p'=p++t->g=t++g'->EndsObj p'->(∀ d∈g,¬ d.tag=1)->t=[]:=by
  intro p p' g g' t e1 e2 h2 k1
  rcases List.eq_nil_or_concat t with ht|⟨t',z,ht⟩
  .exact ht
  .rw [List.concat_eq_append] at ht
   subst ht
   rcases h2 with h2|⟨q,d,h2,hd⟩
   .rw [h2] at e1
    have:=congrArg List.length e1
    simp at this
   .rw [h2,<- List.append_assoc] at e1
    have:=(List.append_inj' e1 rfl).2
    injection this with this
    subst this
    exact absurd hd (k1 d (by rw[e2];simp))
 rcases List.append_eq_append_iff.1 h with ⟨t,e1,e2⟩|⟨t,e1,e2⟩
 .have:=key e1 e2 h2 k1
  subst this
  exact⟨by simpa using e1.symm,by simpa using e2⟩
 .have:=key e1 e2 h1 k2
  subst this
  exact⟨by simpa using e1,by simpa using e2.symm⟩

theorem starts_uniq{p p' g g':List Cel}(h:g++p=g'++p')(h1:p=[]\/∃ d q,p=d::q/\d.tag=1)(h2:p'=[]\/∃ d q,p'=d::q/\d.tag=1)(k1:∀ d∈g,¬ d.tag=1)(k2:∀ d∈g',¬ d.tag=1):p=p'/\g=g':=by
 have key:∀ {p p' g g' t:List Cel},p=t++p'->g'=g++t->(p=[]\/∃ d q,p=d::q/\d.tag=1)->(∀ d∈g',¬ d.tag=1)->t=[]:=by
  intro p p' g g' t e1 e2 h1 k2
  rcases t with _|⟨z,t⟩
  .rfl
  .rcases h1 with h1|⟨d,q,h1,hd⟩
   .rw [h1] at e1
    simp at e1
   .rw [h1] at e1
    injection e1 with e1 _
    subst e1
    exact absurd hd (k2 d (by rw[e2];simp))
 rcases List.append_eq_append_iff.1 h with ⟨t,e1,e2⟩|⟨t,e1,e2⟩
 .have:=key e2 e1 h1 k2
  subst this
  exact⟨by simpa using e2,by simpa using e1.symm⟩
 .have:=key e2 e1 h2 k1
  subst this
  exact⟨by simpa using e2.symm,by simpa using e1⟩

theorem Dj.uniq{cs p1 g1 g2 p2 q1 h1 h2 q2:List Cel}{c d:Cel}{j x y x' y' H:Nat}(ht:AC 0 cs H)(a:Dj cs j p1 g1 c g2 p2 x y)(b:Dj cs j q1 h1 d h2 q2 x' y'):x=x'/\y=y'/\p1=q1/\p2=q2:=by
 obtain⟨a1,a2,a3,a4,a5,a6,a7,a8,a9,a10⟩:=a
 obtain⟨b1,b2,b3,b4,b5,b6,b7,b8,b9,b10⟩:=b
 have e:(p1++g1)++c::(g2++p2)=(q1++h1)++d::(h2++q2):=by
  have:p1++(g1++c::g2++p2)=q1++(h1++d::h2++q2):=a1.symm.trans b1
  simpa using this
 have t:AC 0 ((p1++g1)++c::(g2++p2)) H:=by
  have:=ht
  rw[a1] at this
  simpa using this
 obtain⟨e1,e2,e3⟩:=cut_uniq t e (a2.trans b2.symm)
 obtain⟨f1,f2⟩:=ends_uniq e1 a6 b6 a4 b4
 obtain⟨f3,f4⟩:=starts_uniq e3 a7 b7 a5 b5
 subst f1 f2 f3 f4 e2
 have:=a8.uniq b8
 subst this
 exact⟨rfl,a9.uniq b9,rfl,rfl⟩

theorem CellsAt.store{P:Sp}{W:Nat->Nat}{cs:List Cel}(h:CellsAt P W cs){c:Cel}(hc:c∈cs){k:Nat}(h1:2*c.g<k)(h2:k<2*c.fin)(z:Nat):CellsAt P (DN W k z) cs:=
 ⟨h.tl,λ d hd=>by
  have hm:=h.tl.mem hd
  rw[DN,if_neg]
  .exact h.hd d hd
  .intro e
   have:=cell_only h.tl hc hd (j:=d.g) (by omega) (by omega) (Nat.le_refl _) (by unfold Cel.fin;omega)
   subst this
   omega,h.ok⟩

def CX:Nat->List Cel->Nat->Prop
 |e,[],H=>e<=H
 |e,o::os,H=>e<=o.g/\o.tag=1/\0<o.sz/\CX o.fin os H

def BH(W:Nat->Nat):Nat->List Cel->Nat->(Nat->Nat)
 |e,[],H=>Bd W e (H-e)
 |e,o::os,H=>BH (Bd W e (o.g-e)) o.fin os H
def Df:Nat->List Cel->Nat->List Cel
 |e,[],H=>gapL e (H-e)
 |e,o::os,H=>gapL e (o.g-e)++o::Df o.fin os H

theorem CX.le:∀ {os:List Cel} {e H:Nat},CX e os H->e<=H
 |[],e,H,h=>h
 |o::os,e,H,⟨h1,h2,h3,h4⟩=>by have:=h4.le;unfold Cel.fin at this;omega

theorem CX.mem:∀ {os:List Cel} {e H:Nat} {o:Cel},CX e os H->o∈os->e<=o.g/\o.tag=1/\0<o.sz/\o.fin<=H
 |o::os,e,H,x,⟨h1,h2,h3,h4⟩,hx=>by
  rcases List.mem_cons.1 hx with r|r
  .subst r;exact ⟨h1,h2,h3,h4.le⟩
  .have:=CX.mem h4 r
   unfold Cel.fin at*
   exact⟨by omega,this.2.1,this.2.2.1,by omega⟩

theorem settleL_tiles:∀ {os:List Cel} {e H:Nat},CX e os H->AC e (Df e os H) H
 |[],e,H,h=>by
  have:=Eb e (H-e)
  rwa [show e+(H-e)=H by have:e<=H:=h;omega] at this
 |o::os,e,H,⟨h1,h2,h3,h4⟩=>by
  have t:=Eb e (o.g-e)
  rw[show e+(o.g-e)=o.g by omega] at t
  exact t.app ⟨rfl,h3,settleL_tiles h4⟩

theorem settleW_low:∀ {os:List Cel} {W:Nat->Nat} {e H k:Nat},CX e os H->k<e->BH W e os H (2*k)=W (2*k)
 |[],W,e,H,k,h,hk=>CQ (by intro;omega)
 |o::os,W,e,H,k,⟨h1,h2,h3,h4⟩,hk=>by
  unfold BH
  rw[settleW_low h4 (by unfold Cel.fin;omega)]
  exact CQ (by intro;omega)

theorem settleW_heads:∀ {os:List Cel} {W:Nat->Nat} {e H:Nat} {ts:List TypR},CX e os H->H<=65536->(∀ o∈os,W (2*o.g)=BA o.tag o.ty o.ln o.sz)->HeadsAt (BH W e os H) (Df e os H)
 |[],W,e,H,ts,h,hH,hw=>λ c hc=>by
  obtain⟨h0,rfl⟩:=Co hc
  unfold BH
  rw[EW h0]
 |o::os,W,e,H,ts,⟨h1,h2,h3,h4⟩,hH,hw=>λ c hc=>by
  have hlow:∀ k,k<o.fin->BH (Bd W e (o.g-e)) o.fin os H (2*k)=Bd W e (o.g-e) (2*k):=λ k hk=>settleW_low h4 hk
  unfold BH
  rcases List.mem_append.1 hc with m|m
  .obtain ⟨h0,rfl⟩:=Co m
   rw[hlow e (by unfold Cel.fin;omega),EW h0]
  .rcases List.mem_cons.1 m with m|m
   .subst m
    rw[hlow c.g (by unfold Cel.fin;omega),CQ (by intro;omega)]
    exact hw c (List.mem_cons_self ..)
   .refine settleW_heads (ts:=ts) h4 hH (λ x hx=>?_) c m
    have:=h4.mem hx
    rw[CQ (by unfold Cel.fin at *;intro;omega)]
    exact hw x (List.mem_cons_of_mem _ hx)

theorem settleL_mem:∀ {os:List Cel} {e H:Nat} {c:Cel},CX e os H->c∈Df e os H->c∈os\/∃ g m,0<m/\m<=H/\c=⟨g,Dx m,0,0,m⟩
 |[],e,H,c,hr,h=>by
  obtain⟨h0,rfl⟩:=Co h
  exact .inr ⟨e,H-e,h0,by omega,rfl⟩
 |o::os,e,H,c,⟨h1,h2,h3,h4⟩,h=>by
  have hl:=h4.le
  unfold Cel.fin at hl
  rcases List.mem_append.1 h with m|m
  .obtain ⟨h0,rfl⟩:=Co m
   exact .inr ⟨e,o.g-e,h0,by omega,rfl⟩
  .rcases List.mem_cons.1 m with m|m
   .exact .inl (by rw[m];exact List.mem_cons_self ..)
   .rcases settleL_mem h4 m with k|k
    .exact .inl (List.mem_cons_of_mem _ k)
    .exact .inr k

theorem settle_starts:∀ {os:List Cel} {e H:Nat} (i:Nat),Ak (Df e os H) i=Ak os i
 |[],e,H,i=>DJ e (H-e) i
 |o::os,e,H,i=>by
  unfold Df
  rw[Ba,DJ,Bool.false_or]
  show((o.tag==1&&o.g==i)||Ak (Df o.fin os H) i)=((o.tag==1&&o.g==i)||Ak os i)
  rw[settle_starts i]

theorem settle_cells{P:Sp}{W:Nat->Nat}{os:List Cel}(hn:P.n<=65536)(hr:CX 0 os (P.n/2))(hw:∀ o∈os,W (2*o.g)=BA o.tag o.ty o.ln o.sz)(hok:∀ o∈os,Di P.ts o):CellsAt P (BH W 0 os (P.n/2)) (Df 0 os (P.n/2)):=
 ⟨settleL_tiles hr,settleW_heads (ts:=P.ts) hr (by omega) hw,λ c hc=>by
  rcases settleL_mem hr hc with m|⟨g,m,h0,h1,rfl⟩
  .exact hok c m
  .exact gap_ok h0 (by omega)⟩

theorem Eg{W:Nat->Nat}{n:Nat}{ts:List TypR}{g:Int}{c:Cel}(h:Cj W n ts g=some c)(hf:∀ j,j<n->W j<18446744073709551616):
  g=(c.g:Nat)/\c.tag=1/\0<c.sz/\c.fin<=n/2/\W (2*c.g)=BA c.tag c.ty c.ln c.sz/\Di ts c:=by
 unfold Cj at h
 split at h
 .rename_i hh
  obtain⟨h0,h1,h2,h3,h4,h5⟩:=hh
  injection h with h
  subst h
  obtain⟨e1,e2,e3⟩:=fitsE_zero h4
  have hd:=h2
  unfold Ct at hd
  simp only[Bool.and_eq_true,decide_eq_true_eq] at hd
  have hk:=hd.1
  have hW:W (2*g.toNat)<18446744073709551616:=hf _ (by omega)
  have he:=(enc_back hW).2 hd.2
  rw[h3] at he
  have h1s:1<=DY (W (2*g.toNat)):=by
   unfold Am at hk
   have:=of_decide_eq_true hk
   omega
  refine⟨(Int.toNat_of_nonneg h0).symm,rfl,h1s,by unfold Cel.fin;simp only;omega,he.symm,?_⟩
  exact⟨e1,λ _=>⟨e2,e3⟩⟩
 .cases h

def Bu(W:Nat->Nat)(n:Nat)(ts:List TypR)(x:Nat->Int):Nat->Nat->Nat->Option (List Cel)
 |i,0,e=>some []
 |i,k+1,e=>match Cj W n ts (x i) with
  |none=>none
  |some c=>if x i<(e:Int) then none else match Bu W n ts x (i+1) k c.fin with
   |none=>none
   |some os=>some (c::os)

theorem settleR_none{W:Nat->Nat}{n:Nat}{ts:List TypR}{x:Nat->Int}{i k e:Nat}(h:Cj W n ts (x i)=none):Bu W n ts x i (k+1) e=none:=by
 rw[Bu,h]

theorem settleR_low{W:Nat->Nat}{n:Nat}{ts:List TypR}{x:Nat->Int}{i k e:Nat}{c:Cel}(h:Cj W n ts (x i)=some c)(hl:x i<(e:Int)):Bu W n ts x i (k+1) e=none:=by
 rw[Bu,h];simp only;rw [if_pos hl]

theorem settleR_some{W:Nat->Nat}{n:Nat}{ts:List TypR}{x:Nat->Int}{i k e:Nat}{c:Cel}(h:Cj W n ts (x i)=some c)(hl:¬ x i<(e:Int)):Bu W n ts x i (k+1) e=(Bu W n ts x (i+1) k c.fin).map (c::·):=by
 rw[Bu,h];simp only;rw [if_neg hl]
 cases Bu W n ts x (i+1) k c.fin <;> rfl

theorem C8{W:Nat->Nat}{n:Nat}{ts:List TypR}{x:Nat->Int}(hf:∀ j,j<n->W j<18446744073709551616):∀ {k i e:Nat} {os:List Cel},Bu W n ts x i k e=some os->e<=n/2->
  CX e os (n/2)/\os.length=k/\(∀ j o,os[j]?=some o->x (i+j)=(o.g:Nat))/\∀ o∈os,Cj W n ts (o.g:Nat)=some o
 |0,i,e,os,h,he=>by
  injection h with h
  subst h
  exact⟨he,rfl,λ j o h=>by simp at h,λ o h=>by cases h⟩
 |k+1,i,e,os,h,he=>by
  cases hc:Cj W n ts (x i) with
  |none=>rw [settleR_none hc] at h;cases h
  |some c=>
   by_cases hl:x i<(e:Int)
   .rw [settleR_low hc hl] at h;cases h
   .rw [settleR_some hc hl] at h
    cases hr:Bu W n ts x (i+1) k c.fin with
    |none=>rw [hr] at h;cases h
    |some os'=>
     rw[hr] at h
     injection h with h
     subst h
     obtain⟨h1,h2,h3,h4,h5,h6⟩:=Eg hc hf
     obtain⟨r1,r2,r3,r4⟩:=C8 hf hr h4
     refine⟨⟨by omega,h2,h3,r1⟩,by simp[r2],λ j o ho=>?_,λ o ho=>?_⟩
     .cases j with
      |zero=>simp at ho;subst ho;exact h1
      |succ j=>
       have:=r3 j o (by simpa using ho)
       rw[<- this];congr 1;omega
     .rcases List.mem_cons.1 ho with m|m
      .rw [m,<- h1];exact hc
      .exact r4 o m

theorem settleR_cells{P:Sp}{W:Nat->Nat}{x:Nat->Int}{len:Nat}{os:List Cel}(hn:P.n<=65536)(hf:∀ j,j<P.n->W j<18446744073709551616)(h:Bu W P.n P.ts x 0 len 0=some os):
  CellsAt P (BH W 0 os (P.n/2)) (Df 0 os (P.n/2)):=by
 obtain⟨r1,-,-,r4⟩:=C8 hf h (Nat.zero_le _)
 exact settle_cells hn r1 (λ o ho=>(Eg (r4 o ho) hf).2.2.2.2.1) (λ o ho=>(Eg (r4 o ho) hf).2.2.2.2.2)

def Cb(W:Nat->Nat)(n:Nat)(ts:List TypR)(x:Nat->Int)(len i:Nat)(os:List Cel)(e:Nat):Prop:=
 Bu W n ts x 0 len 0=(Bu W n ts x i (len-i) e).map (os++·)/\os.length=i/\e<=n/2/\(∀ j o,os[j]?=some o->x j=(o.g:Nat))/\e=(os.getLast?.map Cel.fin).getD 0

theorem Cb.start(W:Nat->Nat)(n:Nat)(ts:List TypR)(x:Nat->Int)(len:Nat):Cb W n ts x len 0 [] 0:=
 ⟨by simp,rfl,Nat.zero_le _,λ j o h=>by simp at h,rfl⟩

theorem Cb.fails{W:Nat->Nat}{n:Nat}{ts:List TypR}{x:Nat->Int}{len i e:Nat}{os:List Cel}(h:Cb W n ts x len i os e)(hi:i<len)(ho:Cj W n ts (x i)=none\/x i<(e:Int)):Bu W n ts x 0 len 0=none:=by
 rw[h.1,show len-i=(len-i-1)+1 by omega]
 rcases ho with ho|ho
 .rw [settleR_none ho];rfl
 .cases hc:Cj W n ts (x i) with
  |none=>rw [settleR_none hc];rfl
  |some c=>rw [settleR_low hc ho];rfl

theorem Cb.next{W:Nat->Nat}{n:Nat}{ts:List TypR}{x:Nat->Int}{len i e:Nat}{os:List Cel}{c:Cel}(h:Cb W n ts x len i os e)(hi:i<len)(hf:∀ j,j<n->W j<18446744073709551616)(hc:Cj W n ts (x i)=some c)(hl:¬ x i<(e:Int)):Cb W n ts x len (i+1) (os++[c]) c.fin:=by
 obtain⟨h1,h2,h3,h4,h5,h6⟩:=Eg hc hf
 refine⟨?_,by simp[h.2.1],h4,λ j o ho=>?_,by simp⟩
 .rw [h.1,show len-i=(len-(i+1))+1 by omega,settleR_some hc hl,Option.map_map]
  congr 1
  funext l
  simp
 .rcases Nat.lt_or_ge j os.length with hj|hj
  .exact h.2.2.2.1 j o (by rwa [List.getElem?_append_left hj] at ho)
  .rw [List.getElem?_append_right hj] at ho
   have hj2:j=os.length:=by
    rcases Nat.eq_or_lt_of_le hj with r|r
    .exact r.symm
    .have:j-os.length≠0:=by omega
     rw[List.getElem?_cons,if_neg this] at ho
     simp at ho
   subst hj2
   simp at ho
   subst ho
   rw[h.2.1];exact h1

theorem Cb.done{W:Nat->Nat}{n:Nat}{ts:List TypR}{x:Nat->Int}{len e:Nat}{os:List Cel}(h:Cb W n ts x len len os e):Bu W n ts x 0 len 0=some os:=by
 rw[h.1,Nat.sub_self];simp [Bu]

theorem settle_step{W:Nat->Nat}{e H j:Nat}{os:List Cel}{o:Cel}(h:os[j]?=some o):BH W e (os.drop j) H=BH (Bd W e (o.g-e)) o.fin (os.drop (j+1)) H:=by
 have hj:=(gE.1 h).1
 rw[List.drop_eq_getElem_cons hj,(gE.1 h).2]
 rfl

theorem rising_step{e H j:Nat}{os:List Cel}{o:Cel}(h:os[j]?=some o)(hr:CX e (os.drop j) H):e<=o.g/\0<o.sz/\o.fin<=H/\CX o.fin (os.drop (j+1)) H:=by
 have hj:=(gE.1 h).1
 rw[List.drop_eq_getElem_cons hj,(gE.1 h).2] at hr
 exact⟨hr.1,hr.2.2.1,hr.2.2.2.le,hr.2.2.2⟩

end

end Go.Proofs.YtfkedlgpgmaemaaGreatDoor
