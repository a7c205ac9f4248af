/-
  Lemmas for the laws, together: SettleA, Play3.
-/
import Derived.Test.YtmfajopmppfldaaGreatDoorQao
import Derived.Test.YtmfajopmppfldaaGreatDoorQan
import Derived.Test.YtmfajopmppfldaaGreatDoorQak
import Derived.Test.YtmfajopmppfldaaGreatDoorQal
import Derived.Deep.DeepCutAuto
import Derived.Deep.CutBlock
set_option linter.unusedVariables false
set_option maxHeartbeats 16000000
namespace Go.Proofs.YtmfajopmppfldaaGreatDoor
open Tryz
section
open Go.RowKit

theorem cell_only{cs:List Cel}{a H:Nat}(ht:Au a cs H){c d:Cel}(hc:c∈cs)(hd:d∈cs){j:Nat}(h1:c.g<=j)(h2:j<c.fin)(h3:d.g<=j)(h4:j<d.fin):c=d:=by
 obtain⟨pre,post,rfl⟩:=List.append_of_mem hc
 have t:=ht.fin_at
 rcases List.mem_append.1 hd with m|m
 .have:=t.2.2.mem m
  unfold Cel.fin at*
  omega
 .rcases List.mem_cons.1 m with m|m
  .exact m.symm
  .have:=t.2.1.mem m
   unfold Cel.fin at*
   omega

theorem cut_uniq:∀ {A A' B B':List Cel} {c c':Cel} {a H:Nat},Au a (A++c::B) H->A++c::B=A'++c'::B'->c.g=c'.g->A=A'/\c=c'/\B=B'
 |[],[],B,B',c,c',a,H,ht,he,hg=>by
  injection he with h1 h2
  exact⟨rfl,h1,h2⟩
 |[],d::A',B,B',c,c',a,H,ht,he,hg=>by
  injection he with h1 h2
  subst h1 h2
  have t1:c.g=a:=ht.1
  have t2:0<c.sz:=ht.2.1
  have:=Au.mem (c:=c') ht.2.2 (by simp)
  omega
 |d::A,[],B,B',c,c',a,H,ht,he,hg=>by
  injection he with h1 h2
  subst h1
  have t1:d.g=a:=ht.1
  have t2:0<d.sz:=ht.2.1
  have:=Au.mem (c:=c) ht.2.2 (by simp)
  omega
 |d::A,d'::A',B,B',c,c',a,H,ht,he,hg=>by
  injection he with h1 h2
  obtain⟨e1,e2,e3⟩:=cut_uniq (a:=a+d.sz) ht.2.2 h2 hg
  exact⟨by rw[h1,e1],e2,e3⟩

theorem ends_uniq{p p' g g':List Cel}(h:p++g=p'++g')(h1:EndsObj p)(h2:EndsObj p')(k1:∀ d∈g,¬ d.tag=1)(k2:∀ d∈g',¬ d.tag=1):p=p'/\g=g':=by
 have key:∀ {p p' g g' t:List Cel},p'=p++t->g=t++g'->EndsObj p'->(∀ d∈g,¬ d.tag=1)->t=[]:=by
  intro p p' g g' t e1 e2 h2 k1
  rcases List.eq_nil_or_concat t with ht|⟨t',z,ht⟩
  .exact ht
  .rw [List.concat_eq_append] at ht
   subst ht
   rcases h2 with h2|⟨q,d,h2,hd⟩
   .rw [h2] at e1
    have:=congrArg List.length e1
    simp at this
   .rw [h2,<- List.append_assoc] at e1
    have:=(List.append_inj' e1 rfl).2
    injection this with this
    subst this
    exact absurd hd (k1 d (by rw[e2];simp))
 rcases List.append_eq_append_iff.1 h with ⟨t,e1,e2⟩|⟨t,e1,e2⟩
 .have:=key e1 e2 h2 k1
  subst this
  exact⟨by simpa using e1.symm,by simpa using e2⟩
 .have:=key e1 e2 h1 k2
  subst this
  exact⟨by simpa using e1,by simpa using e2.symm⟩

theorem starts_uniq{p p' g g':List Cel}(h:g++p=g'++p')(h1:p=[]\/∃ d q,p=d::q/\d.tag=1)(h2:p'=[]\/∃ d q,p'=d::q/\d.tag=1)(k1:∀ d∈g,¬ d.tag=1)(k2:∀ d∈g',¬ d.tag=1):p=p'/\g=g':=by
 have key:∀ {p p' g g' t:List Cel},p=t++p'->g'=g++t->(p=[]\/∃ d q,p=d::q/\d.tag=1)->(∀ d∈g',¬ d.tag=1)->t=[]:=by
  intro p p' g g' t e1 e2 h1 k2
  rcases t with _|⟨z,t⟩
  .rfl
  .rcases h1 with h1|⟨d,q,h1,hd⟩
   .rw [h1] at e1
    simp at e1
   .rw [h1] at e1
    injection e1 with e1 _
    subst e1
    exact absurd hd (k2 d (by rw[e2];simp))
 rcases List.append_eq_append_iff.1 h with ⟨t,e1,e2⟩|⟨t,e1,e2⟩
 .have:=key e2 e1 h1 k2
  subst this
  exact⟨by simpa using e2,by simpa using e1.symm⟩
 .have:=key e2 e1 h2 k1
  subst this
  exact⟨by simpa using e2.symm,by simpa using e1⟩

theorem Dj.uniq{cs p1 g1 g2 p2 q1 h1 h2 q2:List Cel}{c d:Cel}{j x y x' y' H:Nat}(ht:Au 0 cs H)(a:Dj cs j p1 g1 c g2 p2 x y)(b:Dj cs j q1 h1 d h2 q2 x' y'):x=x'/\y=y'/\p1=q1/\p2=q2:=by
 obtain⟨a1,a2,a3,a4,a5,a6,a7,a8,a9,a10⟩:=a
 obtain⟨b1,b2,b3,b4,b5,b6,b7,b8,b9,b10⟩:=b
 have e:(p1++g1)++c::(g2++p2)=(q1++h1)++d::(h2++q2):=by
  have:p1++(g1++c::g2++p2)=q1++(h1++d::h2++q2):=a1.symm.trans b1
  simpa using this
 have t:Au 0 ((p1++g1)++c::(g2++p2)) H:=by
  have:=ht
  rw[a1] at this
  simpa using this
 obtain⟨e1,e2,e3⟩:=cut_uniq t e (a2.trans b2.symm)
 obtain⟨f1,f2⟩:=ends_uniq e1 a6 b6 a4 b4
 obtain⟨f3,f4⟩:=starts_uniq e3 a7 b7 a5 b5
 subst f1 f2 f3 f4 e2
 have:=a8.uniq b8
 subst this
 exact⟨rfl,a9.uniq b9,rfl,rfl⟩

theorem CellsAt.store{P:Sp}{W:Nat->Nat}{cs:List Cel}(h:CellsAt P W cs){c:Cel}(hc:c∈cs){k:Nat}(h1:2*c.g<k)(h2:k<2*c.fin)(z:Nat):CellsAt P (BM W k z) cs:=
 ⟨h.tl,λ d hd=>by
  have hm:=h.tl.mem hd
  rw[BM,if_neg]
  .exact h.hd d hd
  .intro e
   have:=cell_only h.tl hc hd (j:=d.g) (by omega) (by omega) (Nat.le_refl _) (by unfold Cel.fin;omega)
   subst this
   omega,h.ok⟩

def BI:Nat->List Cel->Nat->Prop
 |e,[],H=>e<=H
 |e,o::os,H=>e<=o.g/\o.tag=1/\0<o.sz/\BI o.fin os H

def AU(W:Nat->Nat):Nat->List Cel->Nat->(Nat->Nat)
 |e,[],H=>AZ W e (H-e)
 |e,o::os,H=>AU (AZ W e (o.g-e)) o.fin os H
def Cn:Nat->List Cel->Nat->List Cel
 |e,[],H=>gapL e (H-e)
 |e,o::os,H=>gapL e (o.g-e)++o::Cn o.fin os H

theorem BI.le:∀ {os:List Cel} {e H:Nat},BI e os H->e<=H
 |[],e,H,h=>h
 |o::os,e,H,⟨h1,h2,h3,h4⟩=>by have:=h4.le;unfold Cel.fin at this;omega

theorem BI.mem:∀ {os:List Cel} {e H:Nat} {o:Cel},BI e os H->o∈os->e<=o.g/\o.tag=1/\0<o.sz/\o.fin<=H
 |o::os,e,H,x,⟨h1,h2,h3,h4⟩,hx=>by
  rcases List.mem_cons.1 hx with r|r
  .subst r;exact ⟨h1,h2,h3,h4.le⟩
  .have:=BI.mem h4 r
   unfold Cel.fin at*
   exact⟨by omega,this.2.1,this.2.2.1,by omega⟩

theorem settleL_tiles:∀ {os:List Cel} {e H:Nat},BI e os H->Au e (Cn e os H) H
 |[],e,H,h=>by
  have:=Ee e (H-e)
  rwa [show e+(H-e)=H by have:e<=H:=h;omega] at this
 |o::os,e,H,⟨h1,h2,h3,h4⟩=>by
  have t:=Ee e (o.g-e)
  rw[show e+(o.g-e)=o.g by omega] at t
  exact t.app ⟨rfl,h3,settleL_tiles h4⟩

theorem settleW_low:∀ {os:List Cel} {W:Nat->Nat} {e H k:Nat},BI e os H->k<e->AU W e os H (2*k)=W (2*k)
 |[],W,e,H,k,h,hk=>CV (by intro;omega)
 |o::os,W,e,H,k,⟨h1,h2,h3,h4⟩,hk=>by
  unfold AU
  rw[settleW_low h4 (by unfold Cel.fin;omega)]
  exact CV (by intro;omega)

theorem settleW_heads:∀ {os:List Cel} {W:Nat->Nat} {e H:Nat} {ts:List TypR},BI e os H->H<=65536->(∀ o∈os,W (2*o.g)=Bo o.tag o.ty o.ln o.sz)->HeadsAt (AU W e os H) (Cn e os H)
 |[],W,e,H,ts,h,hH,hw=>λ c hc=>by
  obtain⟨h0,rfl⟩:=Ck hc
  unfold AU
  rw[EN h0]
 |o::os,W,e,H,ts,⟨h1,h2,h3,h4⟩,hH,hw=>λ c hc=>by
  have hlow:∀ k,k<o.fin->AU (AZ W e (o.g-e)) o.fin os H (2*k)=AZ W e (o.g-e) (2*k):=λ k hk=>settleW_low h4 hk
  unfold AU
  rcases List.mem_append.1 hc with m|m
  .obtain ⟨h0,rfl⟩:=Ck m
   rw[hlow e (by unfold Cel.fin;omega),EN h0]
  .rcases List.mem_cons.1 m with m|m
   .subst m
    rw[hlow c.g (by unfold Cel.fin;omega),CV (by intro;omega)]
    exact hw c (List.mem_cons_self ..)
   .refine settleW_heads (ts:=ts) h4 hH (λ x hx=>?_) c m
    have:=h4.mem hx
    rw[CV (by unfold Cel.fin at *;intro;omega)]
    exact hw x (List.mem_cons_of_mem _ hx)

theorem settleL_mem:∀ {os:List Cel} {e H:Nat} {c:Cel},BI e os H->c∈Cn e os H->c∈os\/∃ g m,0<m/\m<=H/\c=⟨g,Dw m,0,0,m⟩
 |[],e,H,c,hr,h=>by
  obtain⟨h0,rfl⟩:=Ck h
  exact .inr ⟨e,H-e,h0,by omega,rfl⟩
 |o::os,e,H,c,⟨h1,h2,h3,h4⟩,h=>by
  have hl:=h4.le
  unfold Cel.fin at hl
  rcases List.mem_append.1 h with m|m
  .obtain ⟨h0,rfl⟩:=Ck m
   exact .inr ⟨e,o.g-e,h0,by omega,rfl⟩
  .rcases List.mem_cons.1 m with m|m
   .exact .inl (by rw[m];exact List.mem_cons_self ..)
   .rcases settleL_mem h4 m with k|k
    .exact .inl (List.mem_cons_of_mem _ k)
    .exact .inr k

theorem settle_starts:∀ {os:List Cel} {e H:Nat} (i:Nat),Aq (Cn e os H) i=Aq os i
 |[],e,H,i=>DF e (H-e) i
 |o::os,e,H,i=>by
  unfold Cn
  rw[A9,DF,Bool.false_or]
  show((o.tag==1&&o.g==i)||Aq (Cn o.fin os H) i)=((o.tag==1&&o.g==i)||Aq os i)
  rw[settle_starts i]

theorem settle_cells{P:Sp}{W:Nat->Nat}{os:List Cel}(hn:P.n<=65536)(hr:BI 0 os (P.n/2))(hw:∀ o∈os,W (2*o.g)=Bo o.tag o.ty o.ln o.sz)(hok:∀ o∈os,Dh P.ts o):CellsAt P (AU W 0 os (P.n/2)) (Cn 0 os (P.n/2)):=
 ⟨settleL_tiles hr,settleW_heads (ts:=P.ts) hr (by omega) hw,λ c hc=>by
  rcases settleL_mem hr hc with m|⟨g,m,h0,h1,rfl⟩
  .exact hok c m
  .exact gap_ok h0 (by omega)⟩

theorem Ej{W:Nat->Nat}{n:Nat}{ts:List TypR}{g:Int}{c:Cel}(h:Cb W n ts g=some c)(hf:∀ j,j<n->W j<18446744073709551616):
  g=(c.g:Nat)/\c.tag=1/\0<c.sz/\c.fin<=n/2/\W (2*c.g)=Bo c.tag c.ty c.ln c.sz/\Dh ts c:=by
 unfold Cb at h
 split at h
 .rename_i hh
  obtain⟨h0,h1,h2,h3,h4,h5⟩:=hh
  injection h with h
  subst h
  obtain⟨e1,e2,e3⟩:=fitsE_zero h4
  have hd:=h2
  unfold BO at hd
  simp only[Bool.and_eq_true,decide_eq_true_eq] at hd
  have hk:=hd.1
  have hW:W (2*g.toNat)<18446744073709551616:=hf _ (by omega)
  have he:=(enc_back hW).2 hd.2
  rw[h3] at he
  have h1s:1<=DJ (W (2*g.toNat)):=by
   unfold Am at hk
   have:=of_decide_eq_true hk
   omega
  refine⟨(Int.toNat_of_nonneg h0).symm,rfl,h1s,by unfold Cel.fin;simp only;omega,he.symm,?_⟩
  exact⟨e1,λ _=>⟨e2,e3⟩⟩
 .cases h

def Bd(W:Nat->Nat)(n:Nat)(ts:List TypR)(x:Nat->Int):Nat->Nat->Nat->Option (List Cel)
 |i,0,e=>some []
 |i,k+1,e=>match Cb W n ts (x i) with
  |none=>none
  |some c=>if x i<(e:Int) then none else match Bd W n ts x (i+1) k c.fin with
   |none=>none
   |some os=>some (c::os)

theorem settleR_none{W:Nat->Nat}{n:Nat}{ts:List TypR}{x:Nat->Int}{i k e:Nat}(h:Cb W n ts (x i)=none):Bd W n ts x i (k+1) e=none:=by
 rw[Bd,h]

theorem settleR_low{W:Nat->Nat}{n:Nat}{ts:List TypR}{x:Nat->Int}{i k e:Nat}{c:Cel}(h:Cb W n ts (x i)=some c)(hl:x i<(e:Int)):Bd W n ts x i (k+1) e=none:=by
 rw[Bd,h];simp only;rw [if_pos hl]

theorem settleR_some{W:Nat->Nat}{n:Nat}{ts:List TypR}{x:Nat->Int}{i k e:Nat}{c:Cel}(h:Cb W n ts (x i)=some c)(hl:¬ x i<(e:Int)):Bd W n ts x i (k+1) e=(Bd W n ts x (i+1) k c.fin).map (c::·):=by
 rw[Bd,h];simp only;rw [if_neg hl]
 cases Bd W n ts x (i+1) k c.fin <;> rfl

theorem Da{W:Nat->Nat}{n:Nat}{ts:List TypR}{x:Nat->Int}(hf:∀ j,j<n->W j<18446744073709551616):∀ {k i e:Nat} {os:List Cel},Bd W n ts x i k e=some os->e<=n/2->
  BI e os (n/2)/\os.length=k/\(∀ j o,os[j]?=some o->x (i+j)=(o.g:Nat))/\∀ o∈os,Cb W n ts (o.g:Nat)=some o
 |0,i,e,os,h,he=>by
  injection h with h
  subst h
  exact⟨he,rfl,λ j o h=>by simp at h,λ o h=>by cases h⟩
 |k+1,i,e,os,h,he=>by
  cases hc:Cb W n ts (x i) with
  |none=>rw [settleR_none hc] at h;cases h
  |some c=>
   by_cases hl:x i<(e:Int)
   .rw [settleR_low hc hl] at h;cases h
   .rw [settleR_some hc hl] at h
    cases hr:Bd W n ts x (i+1) k c.fin with
    |none=>rw [hr] at h;cases h
    |some os'=>
     rw[hr] at h
     injection h with h
     subst h
     obtain⟨h1,h2,h3,h4,h5,h6⟩:=Ej hc hf
     obtain⟨r1,r2,r3,r4⟩:=Da hf hr h4
     refine⟨⟨by omega,h2,h3,r1⟩,by simp[r2],λ j o ho=>?_,λ o ho=>?_⟩
     .cases j with
      |zero=>simp at ho;subst ho;exact h1
      |succ j=>
       have:=r3 j o (by simpa using ho)
       rw[<- this];congr 1;omega
     .rcases List.mem_cons.1 ho with m|m
      .rw [m,<- h1];exact hc
      .exact r4 o m

theorem settleR_cells{P:Sp}{W:Nat->Nat}{x:Nat->Int}{len:Nat}{os:List Cel}(hn:P.n<=65536)(hf:∀ j,j<P.n->W j<18446744073709551616)(h:Bd W P.n P.ts x 0 len 0=some os):
  CellsAt P (AU W 0 os (P.n/2)) (Cn 0 os (P.n/2)):=by
 obtain⟨r1,-,-,r4⟩:=Da hf h (Nat.zero_le _)
 exact settle_cells hn r1 (λ o ho=>(Ej (r4 o ho) hf).2.2.2.2.1) (λ o ho=>(Ej (r4 o ho) hf).2.2.2.2.2)

def Cc(W:Nat->Nat)(n:Nat)(ts:List TypR)(x:Nat->Int)(len i:Nat)(os:List Cel)(e:Nat):Prop:=
 Bd W n ts x 0 len 0=(Bd W n ts x i (len-i) e).map (os++·)/\os.length=i/\e<=n/2/\(∀ j o,os[j]?=some o->x j=(o.g:Nat))/\e=(os.getLast?.map Cel.fin).getD 0

theorem Cc.start(W:Nat->Nat)(n:Nat)(ts:List TypR)(x:Nat->Int)(len:Nat):Cc W n ts x len 0 [] 0:=
 ⟨by simp,rfl,Nat.zero_le _,λ j o h=>by simp at h,rfl⟩

theorem Cc.fails{W:Nat->Nat}{n:Nat}{ts:List TypR}{x:Nat->Int}{len i e:Nat}{os:List Cel}(h:Cc W n ts x len i os e)(hi:i<len)(ho:Cb W n ts (x i)=none\/x i<(e:Int)):Bd W n ts x 0 len 0=none:=by
 rw[h.1,show len-i=(len-i-1)+1 by omega]
 rcases ho with ho|ho
 .rw [settleR_none ho];rfl
 .cases hc:Cb W n ts (x i) with
  |none=>rw [settleR_none hc];rfl
  |some c=>rw [settleR_low hc ho];rfl

theorem Cc.next{W:Nat->Nat}{n:Nat}{ts:List TypR}{x:Nat->Int}{len i e:Nat}{os:List Cel}{c:Cel}(h:Cc W n ts x len i os e)(hi:i<len)(hf:∀ j,j<n->W j<18446744073709551616)(hc:Cb W n ts (x i)=some c)(hl:¬ x i<(e:Int)):Cc W n ts x len (i+1) (os++[c]) c.fin:=by
 obtain⟨h1,h2,h3,h4,h5,h6⟩:=Ej hc hf
 refine⟨?_,by simp[h.2.1],h4,λ j o ho=>?_,by simp⟩
 .rw [h.1,show len-i=(len-(i+1))+1 by omega,settleR_some hc hl,Option.map_map]
  congr 1
  funext l
  simp
 .rcases Nat.lt_or_ge j os.length with hj|hj
  .exact h.2.2.2.1 j o (by rwa [List.getElem?_append_left hj] at ho)
  .rw [List.getElem?_append_right hj] at ho
   have hj2:j=os.length:=by
    rcases Nat.eq_or_lt_of_le hj with r|r
    .exact r.symm
    .have:j-os.length≠0:=by omega
     rw[List.getElem?_cons,if_neg this] at ho
     simp at ho
   subst hj2
   simp at ho
   subst ho
   rw[h.2.1];exact h1

theorem Cc.done{W:Nat->Nat}{n:Nat}{ts:List TypR}{x:Nat->Int}{len e:Nat}{os:List Cel}(h:Cc W n ts x len len os e):Bd W n ts x 0 len 0=some os:=by
 rw[h.1,Nat.sub_self];simp [Bd]

theorem settle_step{W:Nat->Nat}{e H j:Nat}{os:List Cel}{o:Cel}(h:os[j]?=some o):AU W e (os.drop j) H=AU (AZ W e (o.g-e)) o.fin (os.drop (j+1)) H:=by
 have hj:=(gE.1 h).1
 rw[List.drop_eq_getElem_cons hj,(gE.1 h).2]
 rfl

theorem rising_step{e H j:Nat}{os:List Cel}{o:Cel}(h:os[j]?=some o)(hr:BI e (os.drop j) H):e<=o.g/\0<o.sz/\o.fin<=H/\BI o.fin (os.drop (j+1)) H:=by
 have hj:=(gE.1 h).1
 rw[List.drop_eq_getElem_cons hj,(gE.1 h).2] at hr
 exact⟨hr.1,hr.2.2.1,hr.2.2.2.le,hr.2.2.2⟩

end

section
open Go.RowKit

theorem CellsAt.obj{P:Sp}{W:Nat->Nat}{cs:List Cel}(h:CellsAt P W cs){c:Cel}(hc:c∈cs)(ht:c.tag=1):Cb W P.n P.ts (c.g:Nat)=some c:=by
 have hok:=h.ok c hc
 have hm:=h.tl.mem hc
 obtain⟨d1,d2,d3,d4,d5⟩:=dec_enc hok.1
 have hW:=h.hd c hc
 have hf:=fitsE_ok hok
 unfold Cb
 rw[Int.toNat_natCast,hW,d1,d2,d3,d4,d5,ht]
 rw[ht] at hf
 rw[if_pos ⟨by omega,by omega,rfl,rfl,hf,by omega⟩]
 obtain⟨g,tag,ty,ln,sz⟩:=c
 simp only at ht
 subst ht
 rfl

def SlotsPost(P:Sp)(cs:List Cel)(g:Int)(w:World)(e:Ending)(w':World):Prop:=
 ∃ r:Int,e=.returned (.int .i64 r)/\Kp Ab w w'/\((∃ c k wds m,c∈cs/\c.tag=1/\(c.g:Int)=g/\typeOf P.ts (c.ty:Nat)=some ⟨k,wds,m⟩/\r=AR k wds (c.ln:Nat))\/((∀ c∈cs,c.tag=1->¬ (c.g:Int)=g)/\r=0))

def SlotsCut(x:Cel)(k wds:Int)(m:Nat)(w:World)(a b e:Value)(wx:World):Prop:=
 ∃ b1 b2,a=.pointer (some ⟨b1,0,none⟩)/\b=.pointer (some ⟨b2,0,none⟩)/\e=.int .i64 0/\wx.heap[b1]?=some (.cells #[.int .u8 1,.int .i64 (x.ty:Nat),.int .i64 (x.ln:Nat),.int .i64 (x.sz:Nat)] 52 (0,0))/\
  wx.heap[b2]?=some (.cells #[.int .u8 k,.int .i64 wds,.int .u64 (m:Nat)] 86 (0,0))/\Kp Ab w wx

set_option maxRecDepth 20000 in
theorem DSl_any(P:Sp)(W:Nat->Nat)(cs:List Cel)(rb q:Nat)(lv:Value)(g:Int)(w:World)(hd:DocAt w rb q P.n W lv)(hc:CellsAt P W cs)(hv:AO w lv P.ts)(hl:P.ts.length<=17592186044416)(hM:Cg P.ts):
  Calls prog 87 #[.pointer (some ⟨rb,0,none⟩),.int .i64 g] w (SlotsPost P cs g w):=by
 have hlen:cs.length<=32768:=by
  have:=BD hc.tl
  have:=hd.row.small
  omega
 have HAll:=sE (DAll_at P W cs rb q lv w hd hc hv hl hM)
 have hlt:=hd.lt
 have hn:=hd.row.small
 have HD:=sE hd
 have HC:=sE hc
 have HV:=sE hv
 have HMs:=sE hM
 have HLl:=sE hl
 clear hd hv hM hl hc
 go_enter func87,ntmps87
 go_wp2_with fail
 refine HAll.out.mono ?_
 rintro e wl ⟨v,rfl,hown,kl⟩
 have HKL:=sE kl
 have HRow:=sE (E9.Br hown)
 obtain⟨va,vc,hva,-⟩:=HRow.out
 subst hva
 obtain⟨len,hlen'⟩:∃ len,cs.length=len:=⟨_,rfl⟩
 rw[hlen'] at HRow hlen ⊢
 have HLen:=sE hlen'
 clear hown kl HAll hlen'
 go_wp2_with fail
 go_loopw [6] (λ y wr=>∃ j:Nat,j<=len/\y=.int .i64 (j:Nat)/\Kp Ab w wr/\Kp Ab wl wr/\Sl (∀ m x,m<j->cs[m]?=some x->¬ (x.tag=1/\(x.g:Int)=g))) (λ y _=>len-(intOf y).toNat)
 case atStart=>exact ⟨0,Nat.zero_le _,rfl,HKL.out,Kr _ _,⟨λ m x h=>by omega⟩⟩
 case round=>
  obtain⟨j,hj,rfl,hkw,hkk,hno⟩:=hrel
  have HKK:=sE hkk
  have HKW:=sE hkw
  by_cases hjl:j<len
  .have hjl':(j:Int)<(len:Int):=by omega
   obtain⟨x,hx⟩:∃ x,cs[j]?=some x:=⟨cs[j]'(by rw[HLen.out];exact hjl),by simp⟩
   obtain⟨a',cap',ha',hrow⟩:=HRow.out.Ad hkk
   obtain⟨b,hab,hb0,r0,r1,r2,r3,r4⟩:=hrow j x hx
   have hva:va=some ⟨b,0,none⟩:=by injection ha' with h1;rw [h1];exact hab
   subst hva
   have hxm:x∈cs:=List.mem_of_getElem? hx
   have HX:=sE hx
   have HXm:=sE hxm
   clear hx hxm hrow ha' hab hkk hkw
   by_cases q1:(x.g:Int)=g/\x.tag=1
   .obtain ⟨q1,q2⟩:=q1
    have p1:((x.g:Int)==g)=true:=by simp[q1]
    have p2:((x.tag:Int)==1)=true:=by simp[q2]
    have hok:=HC.out.ok x HXm.out
    obtain⟨e1,e2⟩:=hok.2 q2
    obtain⟨k,wds,m,hty⟩:=En e1
    obtain⟨capr,c0,c1⟩:=(HD.out.Ad HKW.out).head
    have hE:AV k wds m (x.ln:Nat)=0:=by unfold AY at e1;rw [hty] at e1;exact e1
    have hMm:m<18446744073709551616:=HMs.out _ (typeOf_mem hty)
    have HSlot:Sl (∀ W',Calls prog 133 #[.agg #[.int .u8 k,.int .i64 wds,.int .u64 (m:Nat)],.int .i64 (x.ln:Nat)] W' λ e w'=>e=.returned (.tuple #[.int .i64 (AR k wds (x.ln:Nat)),.int .i64 0])/\Kp Ab W' w'):=⟨λ W'=>by
     have hh:=DSlots_any k wds m (x.ln:Nat) W' hMm
     unfold ES at hh
     rw[hE,if_pos rfl] at hh
     exact hh⟩
    obtain⟨S,hS⟩:∃ S,AR k wds (x.ln:Nat)=S:=⟨_,rfl⟩
    have HS:=sE hS
    rw[hS] at HSlot
    have HT:=sE hty
    have HOf:Sl (∀ W',Kp Ab wr W'->Calls prog 132 #[.slice (some ⟨q,0,none⟩) P.n capr,lv,.int .i64 g] W' λ e w'=>e=.returned (.tuple #[.agg #[.int .u8 1,.int .i64 (x.ty:Nat),.int .i64 (x.ln:Nat),.int .i64 (x.sz:Nat)],.agg #[.int .u8 k,.int .i64 wds,.int .u64 (m:Nat)],.int .i64 0])/\Kp Ab W' w'):=⟨λ W' kk=>by
     refine(DOf_any g q P.n capr W lv P.ts W' (HD.out.row.Ad (HKW.out.then' kk)) (HV.out.Ad (HKW.out.then' kk)) HLl.out HMs.out).mono λ e w' hp=>?_
     unfold DN at hp
     rw[<- q1,HC.out.obj HXm.out q2] at hp
     obtain⟨k',wds',m',h1,h2,h3⟩:=hp
     rw[HT.out] at h1
     injection h1 with h1
     injection h1 with h1 h1' h1''
     subst h1 h1' h1''
     exact⟨h2,h3⟩⟩
    have HQ1:=sE q1
    have HQ2:=sE q2
    have hrb:rb<wr.heap.size:=Nat.lt_of_lt_of_le hlt HKW.out.size
    have r4':=r3
    clear q1 q2 hok e1 e2 hty hE hMm hS
    go_upto_region 6 with fail
    go_cut [7,8,9] from 36 to 49 (λ a b e wx=>SlotsCut x k wds m wr a b e wx)
    case first=>
     obtain⟨W0,hW0⟩:∃ W0,wr.drew=W0:=⟨_,rfl⟩
     have kk:Kp Ab wr wr.drew:=(Kr _ _).drew
     refine wp_region_held_drew (S:=(λ w'=>w'.cell? ⟨rb,0,none⟩=some (.slice (some ⟨q,0,none⟩) P.n capr)/\w'.cell? ⟨rb,1,none⟩=some lv)) (by kernel_rfl) ?_ (λ qZ=>?_)
     .exact ⟨Kz c0,Kz c1⟩
     rw[hW0] at kk qZ ⊢
     refine Ao 0 ?_;refine Ao 1 ?_;refine Ao 2 ?_;refine Ao 3 ?_;refine Ao 4 ?_;refine Ao 5 ?_;refine Ao 6 ?_;refine Ao 7 ?_;refine Ao 8 ?_
     try simp only[Ar]
     iterate 3
      all_goals
       first|(have g:=pA;clear g;have g:=pB;clear g;refine AQ [9] ?_)|(have g:=pA;clear g;have g:=mC;clear g;refine AQ [15] ?_)|(have g:=pB;clear g;have g:=mC;clear g;refine AQ [14] ?_)|(have g:=pA;clear g;refine AQ [9,15] ?_)|(have g:=pB;clear g;refine AQ [9,14] ?_)|(have g:=mC;clear g;refine AQ [14,15] ?_)|(refine AQ [9,14,15] ?_)
       repeat' (first|exact AllReadyH.nil|refine Ah rfl (λ K hK=>?_) ?_)
       all_goals go_simp
       all_goals first
        |with_reducible refine(HOf.out _ kk).mono ?_
         rintro e W0 ⟨rfl,ka⟩
         try replace pA:=ka.at_ pA (λ h=>h)
         try replace pB:=ka.at_ pB (λ h=>h)
         replace kk:=kk.then' ka
         have mC:True:=trivial
         refine hK _ _ ?_ (λ qZ=>?_)
         .exact ⟨Kz c0,Kz c1⟩
         clear hK K ka
         try simp only[Ar]
         refine Ao 10 ?_;refine Ao 11 ?_;refine Ao 12 ?_;refine Ao 13 ?_
         try simp only[Ar]
        |obtain ⟨a,ha⟩:∃ a,W0.heap.size=a:=⟨_,rfl⟩
         obtain⟨V,hV⟩:∃ V,V=World.alloc W0 (.cells #[.int .u8 0,.int .i64 0,.int .i64 0,.int .i64 0] 52):=⟨_,rfl⟩
         rw[<- hV]
         have ka:Kp Ab W0 V:=by rw[hV];exact (Kr _ _).alloc _
         have pA:V.heap[a]?=some (.cells #[.int .u8 0,.int .i64 0,.int .i64 0,.int .i64 0] 52 (0,0)):=by rw[hV,<- ha];exact wN _ _
         have lA:wr.heap.size<=a:=by rw[<- ha];exact kk.size
         try have hab:¬ b=a:=by have:=lZ pB;omega
         try replace pB:=ka.at_ pB (λ h=>h)
         replace kk:=kk.then' ka
         rw[ha]
         refine hK _ _ ?_ (λ qZ=>?_)
         .exact ⟨Kz c0,Kz c1⟩
         clear hK K ka hV ha
         try simp only[Ar]
         obtain⟨W0,rfl⟩:∃ W0,W0=V:=⟨_,rfl⟩
        |obtain ⟨b,hb⟩:∃ b,W0.heap.size=b:=⟨_,rfl⟩
         obtain⟨V,hV⟩:∃ V,V=World.alloc W0 (.cells #[.int .u8 0,.int .i64 0,.int .u64 0] 86):=⟨_,rfl⟩
         rw[<- hV]
         have ka:Kp Ab W0 V:=by rw[hV];exact (Kr _ _).alloc _
         have pB:V.heap[b]?=some (.cells #[.int .u8 0,.int .i64 0,.int .u64 0] 86 (0,0)):=by rw[hV,<- hb];exact wN _ _
         have lB:wr.heap.size<=b:=by rw[<- hb];exact kk.size
         try have hab:¬ b=a:=by have:=lZ pA;omega
         try replace pA:=ka.at_ pA (λ h=>h)
         replace kk:=kk.then' ka
         rw[hb]
         refine hK _ _ ?_ (λ qZ=>?_)
         .exact ⟨Kz c0,Kz c1⟩
         clear hK K ka hV hb
         try simp only[Ar]
         obtain⟨W0,rfl⟩:∃ W0,W0=V:=⟨_,rfl⟩
     all_goals
      have hsz:=lZ pA
      obtain⟨d0,d1,d2,d3⟩:=Ay pA
      have f0:=Ae pA;have f00:=f0 0;have f01:=f0 1;have f02:=f0 2;have f03:=f0 3
      refine AQ [16] ?_
      refine Ag rfl (λ K hK=>?_)
      clear f0
      go_simp
      obtain⟨V,hV⟩:∃ V,V=World.setCell (World.setCell (World.setCell (World.setCell W0 ⟨a,0,none⟩ (.int .u8 1)) ⟨a,1,none⟩ (.int .i64 (x.ty:Nat))) ⟨a,2,none⟩ (.int .i64 (x.ln:Nat))) ⟨a,3,none⟩ (.int .i64 (x.sz:Nat)):=⟨_,rfl⟩
      rw[<- hV]
      obtain⟨qA,ka⟩:=Bb pA _ _ _ _ V hV
      replace pB:=ka.at_ pB hab
      replace kk:Kp Ab wr V:=kk.trans ka (λ i hi h=>by have h':i=a:=h;omega)
      clear hV d0 f00 d1 f01 d2 f02 d3 f03 pA ka hsz
      refine hK _ _ ?_ (λ qZ=>?_)
      .exact ⟨Kz c0,Kz c1⟩
      clear hK K
      try simp only[Ar]
      have hsz:=lZ pB
      obtain⟨d0,d1,d2⟩:=cells3 pB
      have f0:=Ae pB;have f00:=f0 0;have f01:=f0 1;have f02:=f0 2
      refine AQ [17] ?_
      refine Ag rfl (λ K hK=>?_)
      clear f0
      go_simp
      obtain⟨W0,hV⟩:∃ W,W=World.setCell (World.setCell (World.setCell V ⟨b,0,none⟩ (.int .u8 k)) ⟨b,1,none⟩ (.int .i64 wds)) ⟨b,2,none⟩ (.int .u64 (m:Nat)):=⟨_,rfl⟩
      rw[<- hV]
      obtain⟨qB,ka⟩:=Bh pB _ _ _ W0 hV
      replace qA:=ka.at_ qA (λ h=>hab (show a=b from h).symm)
      replace kk:Kp Ab wr W0:=kk.trans ka (λ i hi h=>by have h':i=b:=h;omega)
      clear hV d0 f00 d1 f01 d2 f02 pB ka hsz
      refine hK _ _ ?_ (λ qZ=>?_)
      .exact ⟨Kz c0,Kz c1⟩
      clear hK K
      try simp only[Ar]
      refine Ao 18 ?_
      try simp only[Ar]
      refine wpAnyH_done (by kernel_rfl) ?_ _
      go_wp2_with fail
      go_meet
      exact⟨_,_,rfl,rfl,rfl,qA,qB,kk⟩
    case rest=>
     obtain⟨b1,b2,rfl,rfl,rfl,hb1,hb2,kx⟩:=hcut
     have b1x:=cells3 hb2
     obtain⟨t0,t1,t2⟩:=b1x
     have hlx:=lZ hb2
     have hbx:b<wc.heap.size:=Nat.lt_of_lt_of_le hb0 kx.size
     have r3x:=kx.cell r3 (λ h=>h)
     clear r0 r1 r2 r3 r4 r4' hb1 c0 c1
     go_wp2_with fail
     go_region_held3 (λ w'=>w'.cell? ⟨b,j*5+3,none⟩=some (.int .i64 (x.ln:Nat))/\w'.cell? ⟨b2,0,none⟩=some (.int .u8 k)/\w'.cell? ⟨b2,1,none⟩=some (.int .i64 wds)/\w'.cell? ⟨b2,2,none⟩=some (.int .u64 (m:Nat)))
      (exact ⟨Ac KU r3x,Ac KU t0,Ac KU t1,Ac KU t2⟩)
      (first|(go_at_call 133;with_reducible refine(HSlot.out _).mono ?_;rintro e w9 ⟨rfl,k9⟩;have K9:Kp Ab wc w9:=Kp.then' KU k9))
     go_wp2
     exact bodyPost_ret (v:=.int .i64 S) (by simp[results,results87,go_sem]) rfl ⟨S,rfl,(HKW.out.then' kx).then' K9,.inl ⟨x,k,wds,m,HXm.out,HQ2.out,HQ1.out,HT.out,HS.out.symm⟩⟩
   .have HNN:Sl (∀ m y,m<j+1->cs[m]?=some y->¬ (y.tag=1/\(y.g:Int)=g)):=⟨λ m y hm hy=>by
     by_cases e:m=j
     .subst e;rw [HX.out] at hy;injection hy with hy;subst hy;exact λ h=>q1 ⟨h.2,h.1⟩
     .exact hno.out m y (by omega) hy⟩
    by_cases q3:(x.g:Int)=g
    .have p1:((x.g:Int)==g)=true:=by simp[q3]
     have p2:((x.tag:Int)==1)=false:=by
      have:¬ x.tag=1:=λ h=>q1 ⟨q3,h⟩
      simp;omega
     clear q1 q3
     go_wp2
     exact⟨⟨j+1,by omega,by go_num,HKW.out,HKK.out,HNN⟩,by simp only[intOf];omega⟩
    .have p1:((x.g:Int)==g)=false:=by simp[q3]
     clear q1
     go_wp2
     exact⟨⟨j+1,by omega,by go_num,HKW.out,HKK.out,HNN⟩,by simp only[intOf];omega⟩
  .have hjl':¬ (j:Int)<(len:Int):=by omega
   have HNN:Sl (∀ c∈cs,c.tag=1->¬ (c.g:Int)=g):=⟨λ c hc ht hg=>by
    obtain⟨m,hm⟩:=List.getElem?_of_mem hc
    have hml:=(gE.1 hm).1
    rw[HLen.out] at hml
    exact hno.out m c (by omega) hm ⟨ht,hg⟩⟩
   clear hkk hkw
   go_wp2
   exact bodyPost_ret (v:=.int .i64 0) (by simp[results,results87,go_sem]) rfl ⟨0,rfl,HKW.out,.inr ⟨HNN.out,rfl⟩⟩

end

end Go.Proofs.YtmfajopmppfldaaGreatDoor
