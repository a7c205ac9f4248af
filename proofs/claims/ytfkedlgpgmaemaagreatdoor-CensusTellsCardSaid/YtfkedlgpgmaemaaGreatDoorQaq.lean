/-
  Lemmas for the laws, together: SettleA.
-/
import Derived.Test.YtfkedlgpgmaemaaGreatDoorQap
import Derived.Test.YtfkedlgpgmaemaaGreatDoorQao
import Derived.Test.YtfkedlgpgmaemaaGreatDoorQak
set_option linter.unusedVariables false
set_option maxHeartbeats 16000000
namespace Go.Proofs.YtfkedlgpgmaemaaGreatDoor
open Tryz
section
open Go.RowKit

theorem cell_only{cs:List Cel}{a H:Nat}(f:AC a cs H){c d:Cel}(b:c∈cs)(e:d∈cs){j:Nat}(i:c.g<=j)(k:j<c.fin)(l:d.g<=j)(n:j<d.fin):c=d:=by
 obtain⟨p,o,rfl⟩:=List.append_of_mem b
 have t:=f.fin_at
 rcases List.mem_append.1 e with m|m
 .have:=t.2.2.mem m
  unfold Cel.fin at*
  omega
 .rcases List.mem_cons.1 m with m|m
  .exact m.symm
  .have:=t.2.1.mem m
   unfold Cel.fin at*
   omega

theorem cut_uniq:∀ {i j e f:List Cel} {c b:Cel} {a H:Nat},AC a (i++c::e) H->i++c::e=j++b::f->c.g=b.g->i=j/\c=b/\e=f
 |[],[],e,f,c,b,a,H,ht,he,hg=>by
  injection he with h1 h2
  exact⟨rfl,h1,h2⟩
 |[],d::j,e,f,c,b,a,H,ht,he,hg=>by
  injection he with h1 h2
  subst h1 h2
  have n:c.g=a:=ht.1
  have o:0<c.sz:=ht.2.1
  have:=AC.mem (c:=b) ht.2.2 (by simp)
  omega
 |d::i,[],e,f,c,b,a,H,ht,he,hg=>by
  injection he with h1 h2
  subst h1
  have n:d.g=a:=ht.1
  have o:0<d.sz:=ht.2.1
  have:=AC.mem (c:=c) ht.2.2 (by simp)
  omega
 |d::i,d'::j,e,f,c,b,a,H,ht,he,hg=>by
  injection he with h1 h2
  obtain⟨k,l,m⟩:=cut_uniq (a:=a+d.sz) ht.2.2 h2 hg
  exact⟨by rw[h1,k],l,m⟩

theorem ends_uniq{p e g f:List Cel}(l:p++g=e++f)(m:EndsObj p)(c:EndsObj e)(j:∀ d∈g,¬ d.tag=1)(o:∀ d∈f,¬ d.tag=1):p=e/\g=f:=by
 have k:∀ {p e g f t:List Cel},e=p++t->g=t++f->EndsObj e->(∀ d∈g,¬ d.tag=1)->t=[]:=by
  intro p e g f t a b c j
  rcases List.eq_nil_or_concat t with i|⟨r,z,i⟩
  .exact i
  .rw [List.concat_eq_append] at i
   subst i
   rcases c with c|⟨q,d,c,n⟩
   .rw [c] at a
    have:=congrArg List.length a
    simp at this
   .rw [c,<- List.append_assoc] at a
    have:=(List.append_inj' a rfl).2
    injection this with this
    subst this
    exact absurd n (j d (by rw[b];simp))
 rcases List.append_eq_append_iff.1 l with ⟨t,a,b⟩|⟨t,a,b⟩
 .have:=k a b c j
  subst this
  exact⟨by simpa using a.symm,by simpa using b⟩
 .have:=k a b m o
  subst this
  exact⟨by simpa using a,by simpa using b.symm⟩

theorem starts_uniq{p f g c:List Cel}(k:g++p=c++f)(e:p=[]\/∃ d q,p=d::q/\d.tag=1)(l:f=[]\/∃ d q,f=d::q/\d.tag=1)(n:∀ d∈g,¬ d.tag=1)(i:∀ d∈c,¬ d.tag=1):p=f/\g=c:=by
 have j:∀ {p f g c t:List Cel},p=t++f->c=g++t->(p=[]\/∃ d q,p=d::q/\d.tag=1)->(∀ d∈c,¬ d.tag=1)->t=[]:=by
  intro p f g c t a b e i
  rcases t with _|⟨z,t⟩
  .rfl
  .rcases e with e|⟨d,q,e,m⟩
   .rw [e] at a
    simp at a
   .rw [e] at a
    injection a with a _
    subst a
    exact absurd m (i d (by rw[b];simp))
 rcases List.append_eq_append_iff.1 k with ⟨t,a,b⟩|⟨t,a,b⟩
 .have:=j b a e i
  subst this
  exact⟨by simpa using b,by simpa using a.symm⟩
 .have:=j b a l n
  subst this
  exact⟨by simpa using b.symm,by simpa using a⟩

theorem Dj.uniq{cs f i k g l n o m:List Cel}{c d:Cel}{j x y q r H:Nat}(S:AC 0 cs H)(a:Dj cs j f i c k g x y)(b:Dj cs j l n d o m q r):x=q/\y=r/\f=l/\g=m:=by
 obtain⟨p,s,U,u,v,w,z,A,B,T⟩:=a
 obtain⟨C,D,W,E,F,G,I,J,K,V⟩:=b
 have e:(f++i)++c::(k++g)=(l++n)++d::(o++m):=by
  have:f++(i++c::k++g)=l++(n++d::o++m):=p.symm.trans C
  simpa using this
 have t:AC 0 ((f++i)++c::(k++g)) H:=by
  have:=S
  rw[p] at this
  simpa using this
 obtain⟨L,M,N⟩:=cut_uniq t e (s.trans D.symm)
 obtain⟨O,P⟩:=ends_uniq L w G u E
 obtain⟨Q,R⟩:=starts_uniq N z I v F
 subst O P Q R M
 have:=A.uniq J
 subst this
 exact⟨rfl,B.uniq K,rfl,rfl⟩

theorem CellsAt.store{P:Sp}{W:Nat->Nat}{cs:List Cel}(a:CellsAt P W cs){c:Cel}(f:c∈cs){k:Nat}(i:2*c.g<k)(l:k<2*c.fin)(z:Nat):CellsAt P (DN W k z) cs:=
 ⟨a.tl,λ d b=>by
  have m:=a.tl.mem b
  rw[DN,if_neg]
  .exact a.hd d b
  .intro e
   have:=cell_only a.tl f b (j:=d.g) (by omega) (by omega) (Nat.le_refl _) (by unfold Cel.fin;omega)
   subst this
   omega,a.ok⟩

def CX:Nat->List Cel->Nat->Prop
 |e,[],H=>e<=H
 |e,o::os,H=>e<=o.g/\o.tag=1/\0<o.sz/\CX o.fin os H

def BH(W:Nat->Nat):Nat->List Cel->Nat->(Nat->Nat)
 |e,[],H=>Bd W e (H-e)
 |e,o::os,H=>BH (Bd W e (o.g-e)) o.fin os H
def Df:Nat->List Cel->Nat->List Cel
 |e,[],H=>gapL e (H-e)
 |e,o::os,H=>gapL e (o.g-e)++o::Df o.fin os H

theorem CX.le:∀ {os:List Cel} {e H:Nat},CX e os H->e<=H
 |[],e,H,h=>h
 |o::os,e,H,⟨h1,h2,h3,h4⟩=>by have:=h4.le;unfold Cel.fin at this;omega

theorem CX.mem:∀ {os:List Cel} {e H:Nat} {o:Cel},CX e os H->o∈os->e<=o.g/\o.tag=1/\0<o.sz/\o.fin<=H
 |o::os,e,H,x,⟨h1,h2,h3,h4⟩,hx=>by
  rcases List.mem_cons.1 hx with r|r
  .subst r;exact ⟨h1,h2,h3,h4.le⟩
  .have:=CX.mem h4 r
   unfold Cel.fin at*
   exact⟨by omega,this.2.1,this.2.2.1,by omega⟩

theorem settleL_tiles:∀ {os:List Cel} {e H:Nat},CX e os H->AC e (Df e os H) H
 |[],e,H,h=>by
  have:=Eb e (H-e)
  rwa [show e+(H-e)=H by have:e<=H:=h;omega] at this
 |o::os,e,H,⟨h1,h2,h3,h4⟩=>by
  have t:=Eb e (o.g-e)
  rw[show e+(o.g-e)=o.g by omega] at t
  exact t.app ⟨rfl,h3,settleL_tiles h4⟩

theorem settleW_low:∀ {os:List Cel} {W:Nat->Nat} {e H k:Nat},CX e os H->k<e->BH W e os H (2*k)=W (2*k)
 |[],W,e,H,k,h,hk=>CQ (by intro;omega)
 |o::os,W,e,H,k,⟨h1,h2,h3,h4⟩,hk=>by
  unfold BH
  rw[settleW_low h4 (by unfold Cel.fin;omega)]
  exact CQ (by intro;omega)

theorem settleW_heads:∀ {os:List Cel} {W:Nat->Nat} {e H:Nat} {ts:List TypR},CX e os H->H<=65536->(∀ o∈os,W (2*o.g)=BA o.tag o.ty o.ln o.sz)->HeadsAt (BH W e os H) (Df e os H)
 |[],W,e,H,ts,h,hH,hw=>λ c b=>by
  obtain⟨a,rfl⟩:=Co b
  unfold BH
  rw[EW a]
 |o::os,W,e,H,ts,⟨h1,h2,h3,h4⟩,hH,hw=>λ c b=>by
  have d:∀ k,k<o.fin->BH (Bd W e (o.g-e)) o.fin os H (2*k)=Bd W e (o.g-e) (2*k):=λ k i=>settleW_low h4 i
  unfold BH
  rcases List.mem_append.1 b with m|m
  .obtain ⟨a,rfl⟩:=Co m
   rw[d e (by unfold Cel.fin;omega),EW a]
  .rcases List.mem_cons.1 m with m|m
   .subst m
    rw[d c.g (by unfold Cel.fin;omega),CQ (by intro;omega)]
    exact hw c (List.mem_cons_self ..)
   .refine settleW_heads (ts:=ts) h4 hH (λ x f=>?_) c m
    have:=h4.mem f
    rw[CQ (by unfold Cel.fin at *;intro;omega)]
    exact hw x (List.mem_cons_of_mem _ f)

theorem settleL_mem:∀ {os:List Cel} {e H:Nat} {c:Cel},CX e os H->c∈Df e os H->c∈os\/∃ g m,0<m/\m<=H/\c=⟨g,Dx m,0,0,m⟩
 |[],e,H,c,hr,h=>by
  obtain⟨a,rfl⟩:=Co h
  exact .inr ⟨e,H-e,a,by omega,rfl⟩
 |o::os,e,H,c,⟨h1,h2,h3,h4⟩,h=>by
  have b:=h4.le
  unfold Cel.fin at b
  rcases List.mem_append.1 h with m|m
  .obtain ⟨a,rfl⟩:=Co m
   exact .inr ⟨e,o.g-e,a,by omega,rfl⟩
  .rcases List.mem_cons.1 m with m|m
   .exact .inl (by rw[m];exact List.mem_cons_self ..)
   .rcases settleL_mem h4 m with k|k
    .exact .inl (List.mem_cons_of_mem _ k)
    .exact .inr k

theorem settle_starts:∀ {os:List Cel} {e H:Nat} (i:Nat),Ak (Df e os H) i=Ak os i
 |[],e,H,i=>DJ e (H-e) i
 |o::os,e,H,i=>by
  unfold Df
  rw[Ba,DJ,Bool.false_or]
  show((o.tag==1&&o.g==i)||Ak (Df o.fin os H) i)=((o.tag==1&&o.g==i)||Ak os i)
  rw[settle_starts i]

theorem settle_cells{P:Sp}{W:Nat->Nat}{os:List Cel}(j:P.n<=65536)(a:CX 0 os (P.n/2))(f:∀ o∈os,W (2*o.g)=BA o.tag o.ty o.ln o.sz)(e:∀ o∈os,Di P.ts o):CellsAt P (BH W 0 os (P.n/2)) (Df 0 os (P.n/2)):=
 ⟨settleL_tiles a,settleW_heads (ts:=P.ts) a (by omega) f,λ c d=>by
  rcases settleL_mem a d with m|⟨g,m,b,i,rfl⟩
  .exact e c m
  .exact gap_ok b (by omega)⟩

theorem Eg{W:Nat->Nat}{n:Nat}{ts:List TypR}{g:Int}{c:Cel}(a:Cj W n ts g=some c)(s:∀ j,j<n->W j<18446744073709551616):
  g=(c.g:Nat)/\c.tag=1/\0<c.sz/\c.fin<=n/2/\W (2*c.g)=BA c.tag c.ty c.ln c.sz/\Di ts c:=by
 unfold Cj at a
 split at a
 .rename_i t
  obtain⟨l,u,o,p,q,v⟩:=t
  injection a with a
  subst a
  obtain⟨f,i,k⟩:=fitsE_zero q
  have b:=o
  unfold Ct at b
  simp only[Bool.and_eq_true,decide_eq_true_eq] at b
  have e:=b.1
  have r:W (2*g.toNat)<18446744073709551616:=s _ (by omega)
  have d:=(enc_back r).2 b.2
  rw[p] at d
  have m:1<=DY (W (2*g.toNat)):=by
   unfold Am at e
   have:=of_decide_eq_true e
   omega
  refine⟨(Int.toNat_of_nonneg l).symm,rfl,m,by unfold Cel.fin;simp only;omega,d.symm,?_⟩
  exact⟨f,λ _=>⟨i,k⟩⟩
 .cases a

def Bu(W:Nat->Nat)(n:Nat)(ts:List TypR)(x:Nat->Int):Nat->Nat->Nat->Option (List Cel)
 |i,0,e=>some []
 |i,k+1,e=>match Cj W n ts (x i) with
  |none=>none
  |some c=>if x i<(e:Int) then none else match Bu W n ts x (i+1) k c.fin with
   |none=>none
   |some os=>some (c::os)

theorem settleR_none{W:Nat->Nat}{n:Nat}{ts:List TypR}{x:Nat->Int}{i k e:Nat}(h:Cj W n ts (x i)=none):Bu W n ts x i (k+1) e=none:=by
 rw[Bu,h]

theorem settleR_low{W:Nat->Nat}{n:Nat}{ts:List TypR}{x:Nat->Int}{i k e:Nat}{c:Cel}(a:Cj W n ts (x i)=some c)(b:x i<(e:Int)):Bu W n ts x i (k+1) e=none:=by
 rw[Bu,a];simp only;rw [if_pos b]

theorem settleR_some{W:Nat->Nat}{n:Nat}{ts:List TypR}{x:Nat->Int}{i k e:Nat}{c:Cel}(a:Cj W n ts (x i)=some c)(b:¬ x i<(e:Int)):Bu W n ts x i (k+1) e=(Bu W n ts x (i+1) k c.fin).map (c::·):=by
 rw[Bu,a];simp only;rw [if_neg b]
 cases Bu W n ts x (i+1) k c.fin <;> rfl

theorem C8{W:Nat->Nat}{n:Nat}{ts:List TypR}{x:Nat->Int}(f:∀ j,j<n->W j<18446744073709551616):∀ {k i e:Nat} {os:List Cel},Bu W n ts x i k e=some os->e<=n/2->
  CX e os (n/2)/\os.length=k/\(∀ j o,os[j]?=some o->x (i+j)=(o.g:Nat))/\∀ o∈os,Cj W n ts (o.g:Nat)=some o
 |0,i,e,os,a,he=>by
  injection a with a
  subst a
  exact⟨he,rfl,λ j o a=>by simp at a,λ o a=>by cases a⟩
 |k+1,i,e,os,a,he=>by
  cases hc:Cj W n ts (x i) with
  |none=>rw [settleR_none hc] at a;cases a
  |some c=>
   by_cases hl:x i<(e:Int)
   .rw [settleR_low hc hl] at a;cases a
   .rw [settleR_some hc hl] at a
    cases hr:Bu W n ts x (i+1) k c.fin with
    |none=>rw [hr] at a;cases a
    |some os'=>
     rw[hr] at a
     injection a with a
     subst a
     obtain⟨d,l,p,q,v,w⟩:=Eg hc f
     obtain⟨r,s,t,u⟩:=C8 f hr q
     refine⟨⟨by omega,l,p,r⟩,by simp[s],λ j o b=>?_,λ o b=>?_⟩
     .cases j with
      |zero=>simp at b;subst b;exact d
      |succ j=>
       have:=t j o (by simpa using b)
       rw[<- this];congr 1;omega
     .rcases List.mem_cons.1 b with m|m
      .rw [m,<- d];exact hc
      .exact u o m

theorem settleR_cells{P:Sp}{W:Nat->Nat}{x:Nat->Int}{f:Nat}{os:List Cel}(e:P.n<=65536)(a:∀ j,j<P.n->W j<18446744073709551616)(d:Bu W P.n P.ts x 0 f 0=some os):
  CellsAt P (BH W 0 os (P.n/2)) (Df 0 os (P.n/2)):=by
 obtain⟨g,-,-,c⟩:=C8 a d (Nat.zero_le _)
 exact settle_cells e g (λ o b=>(Eg (c o b) a).2.2.2.2.1) (λ o b=>(Eg (c o b) a).2.2.2.2.2)

def Cb(W:Nat->Nat)(n:Nat)(ts:List TypR)(x:Nat->Int)(len i:Nat)(os:List Cel)(e:Nat):Prop:=
 Bu W n ts x 0 len 0=(Bu W n ts x i (len-i) e).map (os++·)/\os.length=i/\e<=n/2/\(∀ j o,os[j]?=some o->x j=(o.g:Nat))/\e=(os.getLast?.map Cel.fin).getD 0

theorem Cb.start(W:Nat->Nat)(n:Nat)(ts:List TypR)(x:Nat->Int)(b:Nat):Cb W n ts x b 0 [] 0:=
 ⟨by simp,rfl,Nat.zero_le _,λ j o a=>by simp at a,rfl⟩

theorem Cb.fails{W:Nat->Nat}{n:Nat}{ts:List TypR}{x:Nat->Int}{b i e:Nat}{os:List Cel}(d:Cb W n ts x b i os e)(f:i<b)(a:Cj W n ts (x i)=none\/x i<(e:Int)):Bu W n ts x 0 b 0=none:=by
 rw[d.1,show b-i=(b-i-1)+1 by omega]
 rcases a with a|a
 .rw [settleR_none a];rfl
 .cases hc:Cj W n ts (x i) with
  |none=>rw [settleR_none hc];rfl
  |some c=>rw [settleR_low hc a];rfl

theorem Cb.next{W:Nat->Nat}{n:Nat}{ts:List TypR}{x:Nat->Int}{b i e:Nat}{os:List Cel}{c:Cel}(d:Cb W n ts x b i os e)(w:i<b)(m:∀ j,j<n->W j<18446744073709551616)(f:Cj W n ts (x i)=some c)(q:¬ x i<(e:Int)):Cb W n ts x b (i+1) (os++[c]) c.fin:=by
 obtain⟨g,s,t,k,u,v⟩:=Eg f m
 refine⟨?_,by simp[d.2.1],k,λ j o a=>?_,by simp⟩
 .rw [d.1,show b-i=(b-(i+1))+1 by omega,settleR_some f q,Option.map_map]
  congr 1
  funext l
  simp
 .rcases Nat.lt_or_ge j os.length with hj|hj
  .exact d.2.2.2.1 j o (by rwa [List.getElem?_append_left hj] at a)
  .rw [List.getElem?_append_right hj] at a
   have p:j=os.length:=by
    rcases Nat.eq_or_lt_of_le hj with r|r
    .exact r.symm
    .have:j-os.length≠0:=by omega
     rw[List.getElem?_cons,if_neg this] at a
     simp at a
   subst p
   simp at a
   subst a
   rw[d.2.1];exact g

theorem Cb.done{W:Nat->Nat}{n:Nat}{ts:List TypR}{x:Nat->Int}{a e:Nat}{os:List Cel}(b:Cb W n ts x a a os e):Bu W n ts x 0 a 0=some os:=by
 rw[b.1,Nat.sub_self];simp [Bu]

theorem settle_step{W:Nat->Nat}{e H j:Nat}{os:List Cel}{o:Cel}(a:os[j]?=some o):BH W e (os.drop j) H=BH (Bd W e (o.g-e)) o.fin (os.drop (j+1)) H:=by
 have b:=(gE.1 a).1
 rw[List.drop_eq_getElem_cons b,(gE.1 a).2]
 rfl

theorem rising_step{e H j:Nat}{os:List Cel}{o:Cel}(b:os[j]?=some o)(a:CX e (os.drop j) H):e<=o.g/\0<o.sz/\o.fin<=H/\CX o.fin (os.drop (j+1)) H:=by
 have c:=(gE.1 b).1
 rw[List.drop_eq_getElem_cons c,(gE.1 b).2] at a
 exact⟨a.1,a.2.2.1,a.2.2.2.le,a.2.2.2⟩

end

end Go.Proofs.YtfkedlgpgmaemaaGreatDoor
