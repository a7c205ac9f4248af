/-
  Lemmas for the laws, together: StP, StR, StK, StF.
-/
import Derived.Test.YtfkedlgpgmaemaaGreatDoorQaa
import Derived.Test.YtfkedlgpgmaemaaGreatDoorProg
import Derived.Test.YtfkedlgpgmaemaaGreatDoorQak
import Derived.BigGuard
import Derived.BigCall
import Derived.CellFam
import Derived.Deep.Draws
import Derived.Test.YtfkedlgpgmaemaaGreatDoorQaz
set_option linter.unusedVariables false
set_option maxHeartbeats 16000000
namespace Go.Proofs.YtfkedlgpgmaemaaGreatDoor
open Tryz
section

abbrev T3:=Int×Int×Int

structure OrdC(C:T3->T3->Int):Prop where
 asym:∀ {x y},C x y<0->¬ C y x<0
 trans:∀ {x y z},¬ C y x<0->¬ C z y<0->¬ C z x<0

section

variable {C:T3->T3->Int}

theorem OrdC.refl(h:OrdC C)(x:T3):¬ C x x<0:=λ k=>h.asym k k

theorem OrdC.le_lt(h:OrdC C){x y z:T3}(h1:¬ C y x<0)(h2:C y z<0):C x z<0:=Classical.byContradiction λ k=>h.trans k h1 h2

theorem OrdC.lt_le(h:OrdC C){x y z:T3}(h1:C x y<0)(h2:¬ C z y<0):C x z<0:=Classical.byContradiction λ k=>h.trans h2 k h1

theorem OrdC.lt_trans(h:OrdC C){x y z:T3}(h1:C x y<0)(h2:C y z<0):C x z<0:=h.lt_le h1 (h.asym h2)

def FQ(C:T3->T3->Int)(x:T3):List T3->List T3
 |[]=>[x]
 |y::l=>if C y x<0 then y::FQ C x l else x::y::l

def Cb(C:T3->T3->Int):List T3->List T3
 |[]=>[]
 |x::l=>FQ C x (Cb C l)

theorem insC_comm(h:OrdC C){x y:T3}(hlt:C y x<0):∀ l,FQ C x (FQ C y l)=FQ C y (FQ C x l)
 |[]=>by simp[FQ,hlt,h.asym hlt]
 |z::l=>by
  have ha:=h.asym hlt
  by_cases hz:C z y<0
  .have hzx:C z x<0:=h.lt_trans hz hlt
   simp[FQ,hz,hzx,insC_comm h hlt l]
  .by_cases hzx:C z x<0
   .simp [FQ,hz,hzx,hlt]
   .simp [FQ,hz,hzx,hlt,ha]

theorem sortC_swap(h:OrdC C){x y:T3}(hlt:C y x<0)(m:List T3):∀ l,Cb C (l++x::y::m)=Cb C (l++y::x::m)
 |[]=>insC_comm h hlt _
 |z::l=>by
  show FQ C z (Cb C (l++x::y::m))=FQ C z (Cb C (l++y::x::m))
  rw[sortC_swap h hlt m l]

theorem insC_perm(C:T3->T3->Int)(x:T3):∀ l,(FQ C x l).Perm (x::l)
 |[]=>List.Perm.refl _
 |y::l=>by
  unfold FQ
  split
  .exact ((insC_perm C x l).cons y).trans (List.Perm.swap _ _ _)
  .exact List.Perm.refl _

theorem FN(C:T3->T3->Int):∀ l,(Cb C l).Perm l
 |[]=>List.Perm.refl _
 |x::l=>(insC_perm C x _).trans ((FN C l).cons x)

theorem sortC_sorted:∀ {l:List T3},l.Pairwise (λ x y=>¬ C y x<0)->Cb C l=l
 |[],_=>rfl
 |x::l,hp=>by
  have h1:∀ y∈l,¬ C y x<0:=λ y hy=>List.rel_of_pairwise_cons hp hy
  show FQ C x (Cb C l)=_
  rw[sortC_sorted (List.Pairwise.of_cons hp)]
  cases l with
  |nil=>rfl
  |cons y l=>unfold FQ;rw [if_neg (h1 y (List.mem_cons_self ..))]

theorem insC_pairwise(h:OrdC C)(x:T3):∀ {l:List T3},l.Pairwise (λ x y=>¬ C y x<0)->(FQ C x l).Pairwise (λ x y=>¬ C y x<0)
 |[],_=>List.pairwise_singleton _ _
 |y::l,hp=>by
  have h1:∀ z∈l,¬ C z y<0:=λ z hz=>List.rel_of_pairwise_cons hp hz
  unfold FQ
  split
  .rename_i hy
   refine List.Pairwise.cons (λ z hz=>?_) (insC_pairwise h x (List.Pairwise.of_cons hp))
   rcases List.mem_cons.1 ((insC_perm C x l).mem_iff.1 hz) with rfl|hz
   .exact h.asym hy
   .exact h1 z hz
  .rename_i hy
   refine List.Pairwise.cons (λ z hz=>?_) hp
   rcases List.mem_cons.1 hz with rfl|hz
   .exact hy
   .exact h.trans hy (h1 z hz)

theorem sortC_pairwise(h:OrdC C):∀ l:List T3,(Cb C l).Pairwise (λ x y=>¬ C y x<0)
 |[]=>List.Pairwise.nil
 |x::l=>insC_pairwise h x (sortC_pairwise h l)

theorem sortC_first(h:OrdC C){x:T3}(m:List T3):∀ (l:List T3),(∀ y∈l,C x y<0)->(∀ y∈m,¬ C y x<0)->Cb C (l++x::m)=x::Cb C (l++m)
 |[],_,hm=>by
  show FQ C x (Cb C m)=x::Cb C m
  cases e:Cb C m with
  |nil=>rfl
  |cons y k=>
   unfold FQ
   rw[if_neg (hm y ((FN C m).mem_iff.1 (by rw[e];exact List.mem_cons_self ..)))]
 |z::l,hl,hm=>by
  have hz:=hl z (List.mem_cons_self ..)
  show FQ C z (Cb C (l++x::m))=x::FQ C z (Cb C (l++m))
  rw[sortC_first h m l (λ y hy=>hl y (List.mem_cons_of_mem _ hy)) hm]
  rw[show FQ C z (x::Cb C (l++m))=x::FQ C z (Cb C (l++m)) by rw[show FQ C z (x::Cb C (l++m))=if C x z<0 then x::FQ C z (Cb C (l++m)) else z::x::Cb C (l++m) from rfl,if_pos hz]]

end

def EH(F:Nat->T3)(i j:Nat):Nat->T3:=λ k=>if k=i then F j else if k=j then F i else F k

theorem swp3_l(F:Nat->T3)(i j:Nat):EH F i j i=F j:=by unfold EH;rw [if_pos rfl]

theorem swp3_r(F:Nat->T3)(i j:Nat):EH F i j j=F i:=by
 unfold EH
 by_cases h:j=i
 .rw [if_pos h,h]
 .rw [if_neg h,if_pos rfl]

theorem swp3_o(F:Nat->T3){i j k:Nat}(h:k≠i)(h2:k≠j):EH F i j k=F k:=by unfold EH;rw [if_neg h,if_neg h2]

theorem swp3_comm(F:Nat->T3)(i j:Nat):EH F i j=EH F j i:=by
 funext k
 unfold EH
 by_cases h:k=i
 .by_cases h2:k=j
  .rw [if_pos h,if_pos h2,<- h,<- h2]
  .rw [if_pos h,if_neg h2,if_pos h]
 .by_cases h2:k=j
  .rw [if_neg h,if_pos h2,if_pos h2]
  .rw [if_neg h,if_neg h2,if_neg h2,if_neg h]

inductive Stab (C:T3->T3->Int) (a b:Nat) (F:Nat->T3):(Nat->T3)->Prop
 |refl:Stab C a b F F
 |step {G:Nat->T3} {i:Nat}:Stab C a b F G->a<=i->i+1<b->C (G (i+1)) (G i)<0->Stab C a b F (EH G i (i+1))

section

variable {C:T3->T3->Int} {a b:Nat} {F G H:Nat->T3}

theorem Stab.trans(h:Stab C a b F G)(h2:Stab C a b G H):Stab C a b F H:=by
 induction h2 with
 |refl=>exact h
 |step _ h1 h2 h3 ih=>exact ih.step h1 h2 h3

theorem Stab.mono{a' b':Nat}(h:Stab C a b F G)(h1:a'<=a)(h2:b<=b'):Stab C a' b' F G:=by
 induction h with
 |refl=>exact .refl
 |step _ p1 p2 p3 ih=>exact ih.step (by omega) (by omega) p3

theorem Stab.out{k:Nat}(h:Stab C a b F G)(hk:k<a\/b<=k):G k=F k:=by
 induction h with
 |refl=>rfl
 |step _ p1 p2 p3 ih=>rw [swp3_o _ (by omega) (by omega),ih]

theorem Stab.all{p:T3->Prop}(h:Stab C a b F G)(hp:∀ k,a<=k->k<b->p (F k)):∀ k,a<=k->k<b->p (G k):=by
 induction h with
 |refl=>exact hp
 |@step G i _ p1 p2 p3 ih=>
  intro k h1 h2
  unfold EH
  split
  .exact ih _ (by omega) p2
  .split
   .exact ih _ p1 (by omega)
   .exact ih _ h1 h2

theorem range_split(n i:Nat)(G:Nat->T3)(h:i+1<n):∃ l:List T3,∃ m:List T3,(List.range n).map G=l++G i::G (i+1)::m/\(List.range n).map (EH G i (i+1))=l++G (i+1)::G i::m:=by
 obtain⟨d,rfl⟩:∃ d,n=i+(d+2):=⟨n-i-2,by omega⟩
 have key:∀ F:Nat->T3,(List.range (i+(d+2))).map F=(List.range i).map F++F i::F (i+1)::(List.range d).map (λ k=>F (i+2+k)):=λ F=>by
  rw[List.range_add,List.map_append,List.map_map,List.range_succ_eq_map,List.range_succ_eq_map]
  congr 1
  simp only[List.map_cons,List.map_map,Function.comp_apply,Nat.add_zero]
  congr 2
  refine List.map_congr_left λ k _=>?_
  simp only[Function.comp_apply]
  congr 1
  omega
 refine⟨_,_,key G,?_⟩
 rw[key,swp3_l,swp3_r]
 congr 1
 .refine List.map_congr_left λ k hk=>?_
  have:=List.mem_range.1 hk
  exact swp3_o G (by omega) (by omega)
 .congr 2
  refine List.map_congr_left λ k hk=>?_
  exact swp3_o G (by omega) (by omega)

theorem Stab.Cb{n:Nat}(hC:OrdC C)(h:Stab C a b F G)(hb:b<=n):Cb C ((List.range n).map G)=Cb C ((List.range n).map F):=by
 induction h with
 |refl=>rfl
 |@step G i _ p1 p2 p3 ih=>
  obtain⟨l,m,e1,e2⟩:=range_split n i G (by omega)
  rw[e2,<- ih,e1]
  exact(sortC_swap hC p3 m l).symm

def Ai(C:T3->T3->Int)(a b:Nat)(F:Nat->T3):Prop:=∀ i j,a<=i->i<=j->j<b->¬ C (F j) (F i)<0

theorem Ai.of_next(hC:OrdC C)(h:∀ i,a<=i->i+1<b->¬ C (F (i+1)) (F i)<0):Ai C a b F:=by
 intro i j h1 h2 h3
 obtain⟨d,rfl⟩:∃ d,j=i+d:=⟨j-i,by omega⟩
 clear h2
 induction d with
 |zero=>exact hC.refl _
 |succ d ih=>exact hC.trans (ih (by omega)) (h (i+d) (by omega) h3)

theorem Ai.sub{a' b':Nat}(h:Ai C a b F)(h1:a<=a')(h2:b'<=b):Ai C a' b' F:=λ i j i1 i2 i3=>h i j (by omega) i2 (by omega)

theorem Ai.congr(h:Ai C a b F)(e:∀ k,a<=k->k<b->G k=F k):Ai C a b G:=λ i j h1 h2 h3=>by
 rw[e i h1 (by omega),e j (by omega) h3]
 exact h i j h1 h2 h3

theorem Stab.answer{n:Nat}(hC:OrdC C)(h:Stab C 0 n F G)(hs:Ai C 0 n G):(List.range n).map G=Go.Proofs.YtfkedlgpgmaemaaGreatDoor.Cb C ((List.range n).map F):=by
 rw[<- h.Cb hC (Nat.le_refl _)]
 refine(sortC_sorted ?_).symm
 rw[List.pairwise_map]
 refine List.Pairwise.imp_of_mem (λ {x y} hx hy (hxy:x<y)=>hs x y (Nat.zero_le _) (by omega) (List.mem_range.1 hy)) List.pairwise_lt_range

/-! insertion -/

def DownC(C:T3->T3->Int)(a i j:Nat)(H:Nat->T3):Prop:=(∀ p q,a<=p->p<=q->q<=i->p≠j->q≠j->¬ C (H q) (H p)<0)/\∀ q,j<q->q<=i->¬ C (H q) (H j)<0

theorem DownC.start{i:Nat}(h:Ai C a i G):DownC C a i i G:=⟨λ p q h1 h2 h3 h4 h5=>h p q h1 h2 (by omega),λ q h1 h2=>by omega⟩

theorem DownC.step{i j:Nat}(hC:OrdC C)(h:DownC C a i (j+1) H)(hj:a<=j)(hi:j+1<=i)(hl:C (H (j+1)) (H j)<0):DownC C a i j (EH H j (j+1)):=by
 have e1:=swp3_l H j (j+1)
 have e2:=swp3_r H j (j+1)
 refine⟨λ p q h1 h2 h3 h4 h5=>?_,λ q h1 h2=>?_⟩
 .by_cases hp:p=j+1
  .by_cases hq:q=j+1
   .rw [hp,hq];exact hC.refl _
   .rw [hp,e2,swp3_o H h5 hq]
    exact h.1 _ _ hj (by omega) h3 (by omega) hq
  .rw [swp3_o H h4 hp]
   by_cases hq:q=j+1
   .rw [hq,e2]
    exact h.1 _ _ h1 (by omega) (by omega) hp (by omega)
   .rw [swp3_o H h5 hq]
    exact h.1 _ _ h1 h2 h3 hp hq
 .rw [e1]
  by_cases hq:q=j+1
  .rw [hq,e2];exact hC.asym hl
  .rw [swp3_o H (by omega) hq]
   exact h.2 q (by omega) h2

theorem DownC.stop{i j:Nat}(hC:OrdC C)(h:DownC C a i j H)(hj:a<=j)(hi:j<=i)(hl:j=a\/¬ C (H j) (H (j-1))<0):Ai C a (i+1) H:=by
 refine Ai.of_next hC λ k h1 h2=>?_
 by_cases e1:k=j
 .subst e1
  exact h.2 _ (by omega) (by omega)
 .by_cases e2:k+1=j
  .subst e2
   rcases hl with hl|hl
   .omega
   .exact hl
  .exact h.1 _ _ h1 (by omega) (by omega) e1 e2

/-! rotations -/

def A9(F:Nat->T3)(a m b:Nat):Nat->T3:=λ k=>if a<=k/\k<a+(b-m) then F (k-a+m) else if a+(b-m)<=k/\k<b then F (k-(b-m)) else F k

def swrF(F:Nat->T3)(a b n:Nat):Nat->T3:=λ k=>if a<=k/\k<a+n then F (k-a+b) else if b<=k/\k<b+n then F (k-b+a) else F k

theorem rotF_l{m:Nat}(h:a=m)(hb:m<=b):A9 F a m b=F:=by
 subst h
 funext k
 unfold A9
 repeat' split
 all_goals first|rfl|(exfalso;omega)|(congr 1;omega)

theorem rotF_r{m:Nat}(h:m=b)(ha:a<=m):A9 F a m b=F:=by
 subst h
 funext k
 unfold A9
 repeat' split
 all_goals first|rfl|(exfalso;omega)|(congr 1;omega)

theorem rot_hop{p:Nat}(d:Nat):A9 F p (p+1) (p+1+(d+1))=EH (A9 F p (p+1) (p+1+d)) (p+d) (p+d+1):=by
 funext k
 unfold EH A9
 repeat' split
 all_goals first|rfl|(exfalso;omega)|(congr 1;omega)

theorem rot_hop'{p k:Nat}(h:p<=k):A9 F p (p+1) (k+1+1)=EH (A9 F p (p+1) (k+1)) k (k+1):=by
 have:=rot_hop (F:=F) (p:=p) (k-p)
 rwa [show p+1+(k-p+1)=k+1+1 by omega,show p+1+(k-p)=k+1 by omega,show p+(k-p)=k by omega] at this

theorem rot_down{k m:Nat}(h:k+1<=m):EH (A9 F (k+1) m (m+1)) (k+1) k=A9 F k m (m+1):=by
 funext t
 unfold EH A9
 repeat' split
 all_goals first|rfl|(exfalso;omega)|(congr 1;omega)

theorem Stab.hop{p:Nat}(ha:a<=p):∀ (d:Nat),p+1+d<=b->(∀ q,p<q->q<p+1+d->C (F q) (F p)<0)->Stab C a b F (A9 F p (p+1) (p+1+d))
 |0,_,_=>by rw[rotF_r rfl (by omega)];exact .refl
 |d+1,hb,h=>by
  rw[rot_hop]
  refine(Stab.hop ha d (by omega) (λ q h1 h2=>h q h1 (by omega))).step (by omega) (by omega) ?_
  have e1:A9 F p (p+1) (p+1+d) (p+d+1)=F (p+d+1):=by
   unfold A9
   repeat' split
   all_goals first|rfl|(exfalso;omega)
  have e2:A9 F p (p+1) (p+1+d) (p+d)=F p:=by
   unfold A9
   repeat' split
   all_goals first|(exfalso;omega)|(congr 1;omega)
  rw[e1,e2]
  exact h _ (by omega) (by omega)

theorem rot_more{m:Nat}(h1:a<=m)(h2:m+1<=b):A9 F a (m+1) b=A9 (A9 F m (m+1) b) a m (b-1):=by
 funext k
 unfold A9
 repeat' split
 all_goals first|rfl|(exfalso;omega)|(congr 1;omega)

theorem Stab.rot{x y:Nat}(hx:x<=a):∀ (d b:Nat) (F:Nat->T3),a+d<=b->b<=y->(∀ p q,a<=p->p<a+d->a+d<=q->q<b->C (F q) (F p)<0)->Stab C x y F (A9 F a (a+d) b)
 |0,b,F,h1,h2,h=>by rw[rotF_l (by omega) (by omega)];exact .refl
 |d+1,b,F,h1,h2,h=>by
  rw[show a+(d+1)=(a+d)+1 from rfl,rot_more (by omega) (by omega)]
  have s1:Stab C x y F (A9 F (a+d) (a+d+1) b):=by
   have:=Stab.hop (C:=C) (F:=F) (a:=x) (b:=y) (p:=a+d) (by omega) (b-(a+d+1)) (by omega) (λ q q1 q2=>h _ _ (by omega) (by omega) (by omega) (by omega))
   rwa [show a+d+1+(b-(a+d+1))=b by omega] at this
  refine s1.trans (Stab.rot hx d (b-1) _ (by omega) (by omega) λ p q p1 p2 q1 q2=>?_)
  have e1:A9 F (a+d) (a+d+1) b p=F p:=by
   unfold A9
   repeat' split
   all_goals first|rfl|(exfalso;omega)
  have e2:A9 F (a+d) (a+d+1) b q=F (q+1):=by
   unfold A9
   repeat' split
   all_goals first|(exfalso;omega)|(congr 1;omega)
  rw[e1,e2]
  exact h _ _ p1 (by omega) (by omega) (by omega)

theorem rot_gt{p m j:Nat}(h:p+j<m):A9 (swrF F p m j) (p+j) m (m+j)=A9 F p m (m+j):=by
 funext k
 unfold A9 swrF
 repeat' split
 all_goals first|rfl|(exfalso;omega)|(congr 1;omega)

theorem rot_lt{p m j:Nat}(h1:p<=m)(h:m<p+j):A9 (swrF F p (m+j-(m-p)) (m-p)) p m (m+j-(m-p))=A9 F p m (m+j):=by
 funext k
 unfold A9 swrF
 repeat' split
 all_goals first|rfl|(exfalso;omega)|(congr 1;omega)

theorem rot_eq{p m j:Nat}(h:p+j=m):swrF F p m j=A9 F p m (m+j):=by
 funext k
 unfold A9 swrF
 repeat' split
 all_goals first|rfl|(exfalso;omega)|(congr 1;omega)

theorem swr_step{a b i:Nat}(h:a+i<b):EH (swrF F a b i) (a+i) (b+i)=swrF F a b (i+1):=by
 funext k
 unfold EH swrF
 repeat' split
 all_goals first|rfl|(exfalso;omega)|(congr 1;omega)

theorem swr_zero:swrF F a b 0=F:=by
 funext k
 unfold swrF
 repeat' split
 all_goals first|rfl|(exfalso;omega)

/-! the merge of two parts -/

theorem merge_one{m i:Nat}(hC:OrdC C)(hs:Ai C (a+1) b F)(h1:a+1<=i)(h2:i<=b)(hl:∀ t,a<t->t<i->C (F t) (F a)<0)(hr:∀ t,i<=t->t<b->¬ C (F t) (F a)<0):Ai C a b (A9 F a (a+1) i):=by
 refine Ai.of_next hC λ k k1 k2=>?_
 by_cases e1:k+1<i-1
 .have q1:A9 F a (a+1) i k=F (k+1):=by
   unfold A9
   repeat' split
   all_goals first|(exfalso;omega)|(congr 1;omega)
  have q2:A9 F a (a+1) i (k+1)=F (k+2):=by
   unfold A9
   repeat' split
   all_goals first|(exfalso;omega)|(congr 1;omega)
  rw[q1,q2]
  exact hs _ _ (by omega) (by omega) (by omega)
 .by_cases e2:k+1=i-1
  .have q1:A9 F a (a+1) i k=F (k+1):=by
    unfold A9
    repeat' split
    all_goals first|(exfalso;omega)|(congr 1;omega)
   have q2:A9 F a (a+1) i (k+1)=F a:=by
    unfold A9
    repeat' split
    all_goals first|(exfalso;omega)|(congr 1;omega)
   rw[q1,q2]
   exact hC.asym (hl _ (by omega) (by omega))
  .by_cases e3:k=i-1
   .have q1:A9 F a (a+1) i k=F a:=by
     unfold A9
     repeat' split
     all_goals first|(exfalso;omega)|(congr 1;omega)
    have q2:A9 F a (a+1) i (k+1)=F (k+1):=by
     unfold A9
     repeat' split
     all_goals first|rfl|(exfalso;omega)|(congr 1;omega)
    rw[q1,q2]
    exact hr _ (by omega) (by omega)
   .have q1:A9 F a (a+1) i k=F k:=by
     unfold A9
     repeat' split
     all_goals first|rfl|(exfalso;omega)|(congr 1;omega)
    have q2:A9 F a (a+1) i (k+1)=F (k+1):=by
     unfold A9
     repeat' split
     all_goals first|rfl|(exfalso;omega)|(congr 1;omega)
    rw[q1,q2]
    exact hs _ _ (by omega) (by omega) (by omega)

theorem merge_last{m i:Nat}(hC:OrdC C)(hs:Ai C a m F)(h1:a<=i)(h2:i<=m)(hl:∀ t,a<=t->t<i->¬ C (F m) (F t)<0)(hr:∀ t,i<=t->t<m->C (F m) (F t)<0):Ai C a (m+1) (A9 F i m (m+1)):=by
 refine Ai.of_next hC λ k k1 k2=>?_
 have q0:∀ k,k<i->A9 F i m (m+1) k=F k:=λ k hk=>by
  unfold A9
  repeat' split
  all_goals first|rfl|(exfalso;omega)
 have q1:A9 F i m (m+1) i=F m:=by
  unfold A9
  repeat' split
  all_goals first|(exfalso;omega)|(congr 1;omega)
 have q2:∀ k,i<k->k<=m->A9 F i m (m+1) k=F (k-1):=λ k h1 h2=>by
  unfold A9
  repeat' split
  all_goals first|(exfalso;omega)|(congr 1;omega)
 by_cases e1:k+1<i
 .rw [q0 _ e1,q0 _ (by omega)]
  exact hs _ _ (by omega) (by omega) (by omega)
 .by_cases e2:k+1=i
  .rw [e2,q1,q0 _ (by omega)]
   exact hl _ (by omega) (by omega)
  .by_cases e3:k=i
   .rw [e3,q1,q2 _ (by omega) (by omega)]
    exact hC.asym (hr _ (by omega) (by omega))
   .rw [q2 _ (by omega) (by omega),q2 _ (by omega) (by omega)]
    exact hs _ _ (by omega) (by omega) (by omega)

structure Cut(C:T3->T3->Int)(a m b mid s:Nat)(F:Nat->T3):Prop where
 le1:a<=s
 le2:s<=m
 le3:s<=mid
 le4:mid+m<=b+s
 lo:∀ t q,a<=t->t<s->mid+m-s<=q->q<b->¬ C (F q) (F t)<0
 hi:∀ t q,s<=t->t<m->m<=q->q<mid+m-s->C (F q) (F t)<0

theorem Cut.mk'{m mid s s0 r0:Nat}(hC:OrdC C)(h1:Ai C a m F)(h2:Ai C m b F)(ha:a<m)(hb:m<b)(hm:mid=(a+b)/2)(hs:s0=if mid<m then mid+m-b else a)(hr:r0=if mid<m then mid else m)(l1:s0<=s)(l2:s<=r0)
  (lo:∀ t,s0<=t->t<s->¬ C (F (mid+m-1-t)) (F t)<0) (hi:∀ t,s<=t->t<r0->C (F (mid+m-1-t)) (F t)<0):Cut C a m b mid s F:=by
 by_cases hc:mid<m
 .rw [if_pos hc] at hs hr
  subst hs hr
  refine⟨by omega,by omega,l2,by omega,λ t q t1 t2 q1 q2=>?_,λ t q t1 t2 q1 q2=>?_⟩
  .have:=lo (s-1) (by omega) (by omega)
   rw[show r0+m-1-(s-1)=r0+m-s by omega] at this
   exact hC.trans (h1 t (s-1) t1 (by omega) (by omega)) (hC.trans this (h2 _ q (by omega) q1 q2))
  .have:=hi s (Nat.le_refl _) (by omega)
   exact hC.lt_le (hC.le_lt (h2 q (r0+m-1-s) q1 (by omega) (by omega)) this) (h1 s t (by omega) t1 t2)
 .rw [if_neg hc] at hs hr
  subst hs hr
  refine⟨l1,l2,by omega,by omega,λ t q t1 t2 q1 q2=>?_,λ t q t1 t2 q1 q2=>?_⟩
  .have:=lo (s-1) (by omega) (by omega)
   rw[show mid+r0-1-(s-1)=mid+r0-s by omega] at this
   exact hC.trans (h1 t (s-1) t1 (by omega) (by omega)) (hC.trans this (h2 _ q (by omega) q1 q2))
  .have:=hi s (Nat.le_refl _) (by omega)
   exact hC.lt_le (hC.le_lt (h2 q (mid+r0-1-s) q1 (by omega) (by omega)) this) (h1 s t (by omega) t1 t2)

section

variable {m mid s:Nat}

def NoX(C:T3->T3->Int)(a mid b:Nat)(G:Nat->T3):Prop:=∀ t q,a<=t->t<mid->mid<=q->q<b->¬ C (G q) (G t)<0

theorem Cut.turn(hC:OrdC C)(h1:Ai C a m F)(h2:Ai C m b F)(h:Cut C a m b mid s F):Stab C a b F (A9 F s m (mid+m-s))/\Ai C a s (A9 F s m (mid+m-s))/\Ai C s mid (A9 F s m (mid+m-s))/\Ai C mid (mid+m-s) (A9 F s m (mid+m-s))/\Ai C (mid+m-s) b (A9 F s m (mid+m-s))/\NoX C a mid b (A9 F s m (mid+m-s)):=by
 obtain⟨l1,l2,l3,l4,lo,hi⟩:=h
 have p0:∀ k,k<s->A9 F s m (mid+m-s) k=F k:=λ k hk=>by
  unfold A9
  repeat' split
  all_goals first|rfl|(exfalso;omega)
 have p1:∀ k,s<=k->k<mid->A9 F s m (mid+m-s) k=F (k-s+m):=λ k hk hk2=>by
  unfold A9
  repeat' split
  all_goals first|rfl|(exfalso;omega)
 have p2:∀ k,mid<=k->k<mid+m-s->A9 F s m (mid+m-s) k=F (k-(mid-s)):=λ k hk hk2=>by
  unfold A9
  repeat' split
  all_goals first|rfl|(exfalso;omega)|(congr 1;omega)
 have p3:∀ k,mid+m-s<=k->A9 F s m (mid+m-s) k=F k:=λ k hk=>by
  unfold A9
  repeat' split
  all_goals first|rfl|(exfalso;omega)
 refine⟨?_,(h1.sub (Nat.le_refl _) l2).congr λ k _ hk=>p0 k hk,λ i j i1 i2 i3=>?_,λ i j i1 i2 i3=>?_,λ i j i1 i2 i3=>?_,λ t q t1 t2 q1 q2=>?_⟩
 .have:=Stab.rot (C:=C) (x:=a) (y:=b) (a:=s) l1 (m-s) (mid+m-s) F (by omega) (by omega) (λ p q a1 a2 a3 a4=>hi p q a1 (by omega) (by omega) a4)
  rwa [show s+(m-s)=m by omega] at this
 .rw [p1 i i1 (by omega),p1 j (by omega) i3]
  exact h2 _ _ (by omega) (by omega) (by omega)
 .rw [p2 i i1 (by omega),p2 j (by omega) i3]
  exact h1 _ _ (by omega) (by omega) (by omega)
 .rw [p3 i i1,p3 j (by omega)]
  exact h2 _ _ (by omega) (by omega) (by omega)
 .by_cases ht:t<s
  .rw [p0 t ht]
   by_cases hq:q<mid+m-s
   .rw [p2 q q1 hq]
    exact h1 _ _ t1 (by omega) (by omega)
   .rw [p3 q (by omega)]
    exact lo t q t1 ht (by omega) q2
  .rw [p1 t (by omega) t2]
   by_cases hq:q<mid+m-s
   .rw [p2 q q1 hq]
    exact hC.asym (hi _ _ (by omega) (by omega) (by omega) (by omega))
   .rw [p3 q (by omega)]
    exact h2 _ _ (by omega) (by omega) q2

theorem Ai.join(h1:Ai C a s F)(h2:Ai C s b F)(h:a=s\/s=b):Ai C a b F:=by
 rcases h with rfl|rfl
 .exact h2
 .exact h1

theorem BC{G1 G2 G3:Nat->T3}(hx:NoX C a mid b G1)(s1:Stab C a mid G1 G2)(s2:Stab C mid b G2 G3)(h1:Ai C a mid G2)(h2:Ai C mid b G3):Ai C a b G3:=λ i j i1 i2 i3=>by
 by_cases hj:j<mid
 .rw [s2.out (.inl hj),s2.out (k:=i) (.inl (by omega))]
  exact h1 _ _ i1 i2 hj
 .by_cases hi:mid<=i
  .exact h2 _ _ hi i2 i3
  .have c2:∀ q,mid<=q->q<b->¬ C (G2 q) (G2 i)<0:=λ q q1 q2=>by
    rw[s1.out (k:=q) (.inr q1)]
    exact s1.all (p:=λ x=>¬ C (G1 q) x<0) (λ k k1 k2=>hx k q k1 k2 q1 q2) i i1 (by omega)
   rw[s2.out (k:=i) (.inl (by omega))]
   exact s2.all (p:=λ x=>¬ C x (G2 i)<0) (λ k k1 k2=>c2 k k1 k2) j (by omega) i3

end

/-! blocks -/

def Cm(C:T3->T3->Int)(s lo hi:Nat)(F:Nat->T3):Prop:=∀ i j,lo<=i->i<=j->j<hi->(∀ t,¬ (i<t*s/\t*s<=j))->¬ C (F j) (F i)<0

theorem no_bound{k t s i j:Nat}(h1:k*s<=i)(h2:i<t*s)(h3:t*s<=j)(h4:j<k*s+s):False:=by
 have h5:k*s<t*s:=by omega
 have h6:k<t:=Nat.lt_of_mul_lt_mul_right h5
 have h7:(k+1)*s<=t*s:=Nat.mul_le_mul_right s h6
 rw[Nat.succ_mul] at h7
 omega

theorem Cm.part{s lo hi k z:Nat}(h:Cm C s lo hi F)(h1:lo<=k*s)(h2:z<=k*s+s)(h3:z<=hi):Ai C (k*s) z F:=λ i j i1 i2 i3=>
 h i j (by omega) i2 (by omega) λ t ht=>no_bound i1 ht.1 ht.2 (by omega)

theorem Cm.none(C:T3->T3->Int)(s:Nat)(F:Nat->T3):Cm C s 0 0 F:=λ i j _ _ h=>by omega

theorem Cm.ins{s k z:Nat}(h:Cm C s 0 (k*s) F)(hs:Stab C (k*s) z F G)(ho:Ai C (k*s) z G):Cm C s 0 z G:=λ i j i1 i2 i3 hb=>by
 by_cases hj:j<k*s
 .rw [hs.out (.inl hj),hs.out (k:=i) (.inl (by omega))]
  exact h i j i1 i2 hj hb
 .by_cases hi:k*s<=i
  .exact ho i j hi i2 i3
  .exact absurd ⟨by omega,by omega⟩ (hb k)

theorem Cm.rest{s a z n:Nat}(h:Cm C s a n F)(hs:Stab C a z F G)(haz:a<=z):Cm C s z n G:=λ i j i1 i2 i3 hb=>by
 rw[hs.out (.inr i1),hs.out (k:=j) (.inr (by omega))]
 exact h i j (by omega) i2 i3 hb

theorem Cm.all{s n:Nat}(h:Cm C s 0 n F)(hn:n<=s):Ai C 0 n F:=λ i j i1 i2 i3=>h i j i1 i2 i3 λ t ht=>no_bound (k:=0) (s:=s) (by omega) ht.1 ht.2 (by omega)

theorem Cm.two{s k A z n:Nat}(h:Cm C s A n F)(hA:A=k*(2*s))(h1:A+s<=z)(h2:z<=A+2*s)(h3:z<=n):Ai C A (A+s) F/\Ai C (A+s) z F:=by
 have e:k*(2*s)=(k*2)*s:=by rw[Nat.mul_assoc]
 rw[e] at hA
 subst hA
 have e2:(k*2+1)*s=k*2*s+s:=Nat.succ_mul ..
 refine⟨h.part (k:=k*2) (Nat.le_refl _) (Nat.le_refl _) (by omega),?_⟩
 rw[<- e2]
 exact h.part (k:=k*2+1) (by omega) (by omega) h3

theorem Cm.tail{s k n:Nat}(h:Cm C (2*s) 0 (k*(2*s)) F)(h2:Cm C s (k*(2*s)) n F)(hn:n<=k*(2*s)+s):Cm C (2*s) 0 n F:=by
 have e:k*(2*s)=(k*2)*s:=by rw[Nat.mul_assoc]
 refine h.ins .refl ?_
 rw[e] at h2 hn ⊢
 exact h2.part (Nat.le_refl _) hn (Nat.le_refl _)

end

theorem cut_stay{C:T3->T3->Int}{a m z mid s:Nat}{F:Nat->T3}(h:Cut C a m z mid s F)(hs:s=m\/s=mid):A9 F s m (mid+m-s)=F:=by
 have h1:=h.le2
 have h2:=h.le3
 rcases hs with rfl|rfl
 .exact rotF_l rfl (by omega)
 .exact rotF_r (by omega) h1

def OneS(C:T3->T3->Int)(F:Nat->T3)(a z i j:Nat):Prop:=(∀ t,a<t->t<i->C (F t) (F a)<0)/\∀ t,j<=t->t<z->¬ C (F t) (F a)<0

def LastS(C:T3->T3->Int)(F:Nat->T3)(a m i j:Nat):Prop:=(∀ t,a<=t->t<i->¬ C (F m) (F t)<0)/\∀ t,j<=t->t<m->C (F m) (F t)<0

def MidS(C:T3->T3->Int)(F:Nat->T3)(M s0 r0 i j:Nat):Prop:=(∀ t,s0<=t->t<i->¬ C (F (M-t)) (F t)<0)/\∀ t,j<=t->t<r0->C (F (M-t)) (F t)<0

end

section
open Go.RowKit

def Dr(a:T3):Value:=.agg #[.int .i64 a.1,.int .i64 a.2.1,.int .i64 a.2.2]

theorem block3_set{w:World}{b j:Nat}{cs:Array Value}{t:TypeId}(h:w.heap[b]?=some (.cells cs t (0,0)))(v:Value):(w.setCell ⟨b,j,none⟩ v).heap[b]?=some (.cells (cs.setIfInBounds j v) t (0,0)):=by
 have hlt:=(Array.getElem?_eq_some_iff.1 h).1
 have h':w.heap[b]=.cells cs t (0,0):=by simpa [Array.getElem?_eq_getElem hlt] using h
 show(w.heap.modify b _)[b]?=_
 rw[Array.getElem?_eq_getElem (by simpa using hlt),Array.getElem_modify_self,h']
 rfl

def AV(s b T n:Nat)(F:Nat->T3)(w:World):Prop:=
 ∃ c:Array Value,w.heap[b]?=some (.cells c T (0,0))/\c.size=s/\∀ i,i<n->c[i*3]?=some (.int .i64 (F i).1)/\c[i*3+1]?=some (.int .i64 (F i).2.1)/\c[i*3+2]?=some (.int .i64 (F i).2.2)

theorem set3_at(c:Array Value)(p:Nat)(u v x:Value)(hp:p+2<c.size):(((c.setIfInBounds p u).setIfInBounds (p+1) v).setIfInBounds (p+2) x)[p]?=some u/\(((c.setIfInBounds p u).setIfInBounds (p+1) v).setIfInBounds (p+2) x)[p+1]?=some v/\(((c.setIfInBounds p u).setIfInBounds (p+1) v).setIfInBounds (p+2) x)[p+2]?=some x/\∀ j,(j<p\/p+2<j)->(((c.setIfInBounds p u).setIfInBounds (p+1) v).setIfInBounds (p+2) x)[j]?=c[j]?:=by
 have h0:p<c.size:=by omega
 have h1:p+1<c.size:=by omega
 refine⟨?_,?_,?_,λ j hj=>?_⟩
 .rw [Array.getElem?_setIfInBounds,if_neg (by omega),Array.getElem?_setIfInBounds,if_neg (by omega),Array.getElem?_setIfInBounds,if_pos rfl,if_pos h0]
 .rw [Array.getElem?_setIfInBounds,if_neg (by omega),Array.getElem?_setIfInBounds,if_pos rfl,if_pos (by simpa using h1)]
 .rw [Array.getElem?_setIfInBounds,if_pos rfl,if_pos (by simpa using hp)]
 .rw [Array.getElem?_setIfInBounds,if_neg (by omega),Array.getElem?_setIfInBounds,if_neg (by omega),Array.getElem?_setIfInBounds,if_neg (by omega)]

section

variable {s b T n:Nat} {F:Nat->T3} {w w':World}

theorem AV.cells(h:AV s b T n F w){i:Nat}(hi:i<n):w.cell? ⟨b,i*3,none⟩=some (.int .i64 (F i).1)/\w.cell? ⟨b,i*3+1,none⟩=some (.int .i64 (F i).2.1)/\w.cell? ⟨b,i*3+2,none⟩=some (.int .i64 (F i).2.2):=by
 obtain⟨c,h1,h2,h3⟩:=h
 simp only[World.cell?,h1]
 exact h3 i hi

theorem AV.warm(h:AV s b T n F w)(i:Nat):w.frozen? ⟨b,i,none⟩=false:=by
 obtain⟨c,h1,h2,h3⟩:=h
 simp only[World.frozen?,h1]
 simp

theorem AV.keep{S:Nat->Prop}(h:AV s b T n F w)(k:Kp S w w')(hb:¬ S b):AV s b T n F w':=by
 obtain⟨c,h1,h2⟩:=h
 exact⟨c,k.at_ h1 hb,h2⟩

theorem AV.drew(h:AV s b T n F w):AV s b T n F w.drew:=h.keep (S:=Aa) (Kr _ _).drew (λ x=>x)

theorem AV.set(h:AV s b T n F w){i:Nat}(hi:i<n)(x:T3):AV s b T n (λ k=>if k=i then x else F k) (((w.setCell ⟨b,i*3,none⟩ (.int .i64 x.1)).setCell ⟨b,i*3+1,none⟩ (.int .i64 x.2.1)).setCell ⟨b,i*3+2,none⟩ (.int .i64 x.2.2)):=by
 obtain⟨c,h1,h2,h3⟩:=h
 have hb:=(Array.getElem?_eq_some_iff.1 (h3 i hi).2.2).1
 obtain⟨s0,s1,s2,so⟩:=set3_at c (i*3) (.int .i64 x.1) (.int .i64 x.2.1) (.int .i64 x.2.2) hb
 refine⟨_,block3_set (block3_set (block3_set h1 _) _) _,by simpa using h2,λ k hk=>?_⟩
 dsimp only
 by_cases e:k=i
 .subst e
  rw[if_pos rfl]
  exact⟨s0,s1,s2⟩
 .rw [if_neg e,so _ (by omega),so _ (by omega),so _ (by omega)]
  exact h3 k hk

theorem AV.swap(h:AV s b T n F w){i j:Nat}(hi:i<n)(hj:j<n){w2:World}(k:Kp Aa w w2):AV s b T n (EH F i j) ((((((w2.setCell ⟨b,i*3,none⟩ (.int .i64 (F j).1)).setCell ⟨b,i*3+1,none⟩ (.int .i64 (F j).2.1)).setCell ⟨b,i*3+2,none⟩ (.int .i64 (F j).2.2)).setCell ⟨b,j*3,none⟩ (.int .i64 (F i).1)).setCell ⟨b,j*3+1,none⟩ (.int .i64 (F i).2.1)).setCell ⟨b,j*3+2,none⟩ (.int .i64 (F i).2.2)):=by
 have h1:AV s b T n F w2:=h.keep k (λ x=>x)
 have h2:=(h1.set hi (F j)).set hj (F i)
 refine Eq.mp (congrArg (λ f=>AV s b T n f _) (funext λ k=>?_)) h2
 unfold EH
 by_cases e:k=i
 .by_cases e2:k=j
  .subst e
   subst e2
   simp
  .rw [if_neg e2,if_pos e,if_pos e]
 .by_cases e2:k=j
  .rw [if_pos e2,if_neg e,if_pos e2]
  .rw [if_neg e2,if_neg e,if_neg e,if_neg e2]

theorem AV.swapE(h:AV s b T n F w){i j:Nat}(hi:i<n)(hj:j<n){y x:T3}(hy:F i=y)(hx:F j=x):AV s b T n (EH F i j) ((((((w.setCell ⟨b,i*3,none⟩ (.int .i64 x.1)).setCell ⟨b,i*3+1,none⟩ (.int .i64 x.2.1)).setCell ⟨b,i*3+2,none⟩ (.int .i64 x.2.2)).setCell ⟨b,j*3,none⟩ (.int .i64 y.1)).setCell ⟨b,j*3+1,none⟩ (.int .i64 y.2.1)).setCell ⟨b,j*3+2,none⟩ (.int .i64 y.2.2)).drew:=by
 subst hy hx
 exact(h.swap hi hj (Kr Aa _)).drew

theorem AV.kswap{i j:Nat}{w2:World}(k:Kp (λ x=>x=b) w w2)(u0 u1 u2 v0 v1 v2:Value):Kp (λ x=>x=b) w ((((((w2.setCell ⟨b,i*3,none⟩ u0).setCell ⟨b,i*3+1,none⟩ u1).setCell ⟨b,i*3+2,none⟩ u2).setCell ⟨b,j*3,none⟩ v0).setCell ⟨b,j*3+1,none⟩ v1).setCell ⟨b,j*3+2,none⟩ v2):=
 (((((k.setCell (λ _=>rfl) _).setCell (λ _=>rfl) _).setCell (λ _=>rfl) _).setCell (λ _=>rfl) _).setCell (λ _=>rfl) _).setCell (λ _=>rfl) _

end

def BB(s b T n:Nat)(R:(Nat->T3)->Prop)(w w':World):Prop:=
 ∃ G,AV s b T n G w'/\R G/\Kp (λ k=>k=b) w w'

/-! what a call owns -/

def Br(L:List T3):List Value:=L.flatMap λ e=>[.int .i64 e.1,.int .i64 e.2.1,.int .i64 e.2.2]

theorem Ew:∀ L:List T3,(Br L).length=L.length*3
 |[]=>rfl
 |x::L=>by
  show(Br L).length+1+1+1=(L.length+1)*3
  rw[Ew L]
  omega

theorem Fj:∀ (xs:List T3) (i:Nat) (x:T3),xs[i]?=some x->(Br xs)[i*3]?=some (.int .i64 x.1)/\(Br xs)[i*3+1]?=some (.int .i64 x.2.1)/\(Br xs)[i*3+2]?=some (.int .i64 x.2.2)
 |y::xs,0,x,h=>by
  simp at h
  subst h
  exact⟨rfl,rfl,rfl⟩
 |y::xs,i+1,x,h=>by
  have h2:xs[i]?=some x:=by simpa using h
  obtain⟨a,c,d⟩:=Fj xs i x h2
  have e:Br (y::xs)=.int .i64 y.1::.int .i64 y.2.1::.int .i64 y.2.2::Br xs:=rfl
  rw[e,show (i+1)*3=i*3+1+1+1 by omega]
  simp only[List.getElem?_cons_succ]
  exact⟨a,c,d⟩

def atL(L:List T3)(i:Nat):T3:=(L[i]?).getD (0,0,0)

theorem map_atL(L:List T3):(List.range L.length).map (atL L)=L:=by
 refine List.ext_getElem? λ i=>?_
 rw[List.getElem?_map]
 by_cases h:i<L.length
 .rw [List.getElem?_range h]
  show some (atL L i)=_
  unfold atL
  rw[List.getElem?_eq_getElem h]
  rfl
 .rw [List.getElem?_eq_none (by simp;omega),List.getElem?_eq_none (by omega)]
  rfl

theorem AV.Be{w:World}{base b T n c:Nat}{L:List T3}(h:w.ownsRow base T 3 (.slice (some ⟨b,0,none⟩) n c) n (Br L)):L.length=n/\base<=b/\n<=c/\c<=maxLen/\AV (c*3) b T n (atL L) w:=by
 have hl:=h.1
 rw[Ew] at hl
 have hl':L.length=n:=by omega
 rcases h.2 with ⟨e,h0⟩|⟨g,cap,cur,e,g2,g3,g4,g5,g6,g7⟩
 .injection e with e1
  cases e1
 .injection e with e1 e2 e3
  injection e1 with e1
  injection e1 with e1
  subst e1 e3
  refine⟨hl',g2,g4,g5,cur,g3,g6,λ i hi=>?_⟩
  obtain⟨x,hx⟩:∃ x,L[i]?=some x:=⟨_,List.getElem?_eq_getElem (by omega)⟩
  have ha:atL L i=x:=by unfold atL;rw [hx];rfl
  obtain⟨x0,x1,x2⟩:=Fj L i x hx
  have key:∀ j,j<n*3->cur[j]?=(Br L)[j]?:=λ j hj=>by
   rw[<- g7,List.getElem?_take_of_lt hj]
   simp
  rw[ha]
  exact⟨by rw[key _ (by omega)];exact x0,by rw[key _ (by omega)];exact x1,by rw[key _ (by omega)];exact x2⟩

theorem AV.owns{w:World}{base b T n c:Nat}{G:Nat->T3}(h:AV (c*3) b T n G w)(h1:base<=b)(h2:n<=c)(h3:c<=maxLen):w.ownsRow base T 3 (.slice (some ⟨b,0,none⟩) n c) n (Br ((List.range n).map G)):=by
 obtain⟨cur,g1,g2,g3⟩:=h
 refine⟨by rw[Ew];simp,.inr ⟨b,c,cur,rfl,h1,g1,h2,h3,g2,?_⟩⟩
 refine List.ext_getElem? λ j=>?_
 by_cases hj:j<n*3
 .rw [List.getElem?_take_of_lt hj]
  obtain⟨x0,x1,x2⟩:=Fj ((List.range n).map G) (j/3) (G (j/3)) (by rw[List.getElem?_map,List.getElem?_range (by omega)];rfl)
  obtain⟨c0,c1,c2⟩:=g3 (j/3) (by omega)
  have hr:j=j/3*3\/j=j/3*3+1\/j=j/3*3+2:=by omega
  rw[Array.getElem?_toList]
  rcases hr with e|e|e
  .rw [e,show j/3*3/3=j/3 by omega] at*
   rw[c0,x0]
  .rw [e,show (j/3*3+1)/3=j/3 by omega] at*
   rw[c1,x1]
  .rw [e,show (j/3*3+2)/3=j/3 by omega] at*
   rw[c2,x2]
 .rw [List.getElem?_eq_none (by rw[List.length_take];omega),List.getElem?_eq_none (by rw[Ew];simp;omega)]

end

section
open Go.RowKit

section

variable {C:T3->T3->Int} {s b T n cap:Nat} {F:Nat->T3} {w:World}

theorem InsK_at(hC:OrdC C)(hcmp:∀ x y W',Calls prog 71 #[Dr x,Dr y] W' λ e w'=>e=.returned (.int .i64 (C x y))/\Kp Aa W' w'){a z:Nat}(h:AV s b T n F w)(haz:a<=z)(hz:z<=n)(hn:n<1152921504606846976):
  Calls prog 204 #[.slice (some ⟨b,0,none⟩) n cap,.int .i64 (a:Nat),.int .i64 (z:Nat),.func (.func 71) #[] #[]] w λ e w'=>(∃ u,e=.returned u)/\BB s b T n (λ G=>Stab C a z F G/\Ai C a z G) w w':=by
 have H0:=sE h
 have HC:=sE hC
 have HCmp:=sE hcmp
 clear h hC hcmp
 unfold Dr at HCmp
 go_enter func204,ntmps204
 go_wp2_with fail
 go_loopw [8] (λ vi wr=>∃ (i:Nat),vi=.int .i64 (i:Nat)/\a<i/\i<=z+1/\Sl (BB s b T n (λ G=>Stab C a z F G/\Ai C a (min i z) G) w wr)) (λ vi _=>z+1-(intOf vi).toNat)
 case atStart=>exact ⟨a+1,by go_num,by omega,by omega,⟨F,H0.out,⟨.refl,λ i j h1 h2 h3=>by rw[show i=j by omega];exact HC.out.refl _⟩,Kr _ _⟩⟩
 case round=>
  obtain⟨i,rfl,hai,hib,HS⟩:=hrel
  obtain⟨dk,hR,⟨hSw,hso⟩,hK⟩:=HS.out
  have HR:=sE hR
  have HSw:=sE hSw
  have HSo:=sE hso
  have HK:=sE hK
  clear hR hSw hso hK HS
  by_cases hlt:i<z
  .have hlt':(i:Int)<(z:Int):=by omega
   go_wp2_with fail
   go_loopw [9] (λ vj wr2=>∃ (j:Nat),vj=.int .i64 (j:Nat)/\a<=j/\j<=i/\Sl (BB s b T n (λ G=>Stab C a z F G/\DownC C a i j G) w wr2)) (λ vj _=>(intOf vj).toNat)
   case atStart=>exact ⟨i,rfl,by omega,Nat.le_refl _,⟨dk,HR.out,⟨HSw.out,DownC.start (by have:=HSo.out;rwa [Nat.min_eq_left (by omega)] at this)⟩,HK.out⟩⟩
   case round=>
    obtain⟨j,rfl,haj,hji,HT⟩:=hrel
    obtain⟨dj,hR,⟨hSw,hso⟩,hK⟩:=HT.out
    have HR:=sE hR
    have HSw:=sE hSw
    have HSo:=sE hso
    have HK:=sE hK
    clear hR hSw hso hK HT
    by_cases hja:a<j
    .obtain ⟨j,rfl⟩:∃ k,j=k+1:=⟨j-1,by omega⟩
     obtain⟨y0,y1,y2⟩:=HR.out.cells (i:=j+1) (by omega)
     obtain⟨x0,x1,x2⟩:=HR.out.cells (i:=j) (by omega)
     obtain⟨y,hy⟩:∃ y,dj (j+1)=y:=⟨_,rfl⟩
     obtain⟨x,hx⟩:∃ x,dj j=x:=⟨_,rfl⟩
     rw[hy] at y0 y1 y2
     rw[hx] at x0 x1 x2
     have HXY:=sE (And.intro hy hx)
     clear hy hx
     have hw1:IntKind.i64.wrap ((j:Int)+1-1)=(j:Int):=by rw[IntKind.wrap_i64];omega
     have hw2:IntKind.i64.wrap (j:Int)=(j:Int):=by rw[IntKind.wrap_i64];omega
     have p0:(0:Int)<=(j:Int)+1:=by omega
     have p1:(j:Int)+1<(n:Int):=by omega
     have p2:(0:Int)<=(j:Int):=by omega
     have p3:(j:Int)<(n:Int):=by omega
     have p4:(a:Int)<(j:Int)+1:=by omega
     go_wp2_with fail
     refine wp_region_held_drew (S:=λ w'=>w'.cell? ⟨b,(j+1)*3,none⟩=some (.int .i64 y.1)/\w'.cell? ⟨b,(j+1)*3+1,none⟩=some (.int .i64 y.2.1)/\w'.cell? ⟨b,(j+1)*3+2,none⟩=some (.int .i64 y.2.2)/\w'.cell? ⟨b,j*3,none⟩=some (.int .i64 x.1)/\w'.cell? ⟨b,j*3+1,none⟩=some (.int .i64 x.2.1)/\w'.cell? ⟨b,j*3+2,none⟩=some (.int .i64 x.2.2)) (by kernel_rfl) ?_ (λ qZ=>?_)
     .exact ⟨y0,y1,y2,x0,x1,x2⟩
     refine Ao 0 ?_;refine Ao 1 ?_;refine Ao 2 ?_;refine Ao 3 ?_
     try simp only[Ay]
     refine Ao 4 ?_;refine Ao 5 ?_;refine Ao 6 ?_;refine Ao 7 ?_;refine Ao 8 ?_
     try simp only[Ay]
     refine Ao 9 ?_;refine Ao 10 ?_;refine Ao 11 ?_;refine Ao 12 ?_;refine Ao 13 ?_
     try simp only[Ay]
     refine Bl [14] ?_
     refine Af rfl (λ K hK=>?_)
     go_simp
     refine(HCmp.out y x _).mono ?_
     rintro e w3 ⟨rfl,k3⟩
     have kd:Kp Aa wr wr.drew:=(Kr _ _).drew
     have k13:Kp Aa wr w3:=kd.then' k3
     obtain⟨c,hc⟩:∃ c,C y x=c:=⟨_,rfl⟩
     rw[hc]
     have HCc:=sE hc
     clear hc
     refine hK _ _ ?_ (λ qZ=>?_)
     .exact ⟨Ac k13 y0,Ac k13 y1,Ac k13 y2,Ac k13 x0,Ac k13 x1,Ac k13 x2⟩
     clear hK K
     try simp only[Ay]
     refine Ao 15 ?_;refine Ao 16 ?_
     try simp only[Ay]
     refine wpAnyH_done (by kernel_rfl) ?_ _
     have HK3:Sl (Kp Aa wr w3):=⟨k13⟩
     have HK03:Sl (Kp (λ k=>k=b) w w3):=⟨HK.out.trans k13 (λ _ _ h=>h.elim)⟩
     replace y0:=Ac k13 y0
     replace y1:=Ac k13 y1
     replace y2:=Ac k13 y2
     replace x0:=Ac k13 x0
     replace x1:=Ac k13 x1
     replace x2:=Ac k13 x2
     have hfz:=(HR.out.keep k13 (λ h=>h)).warm
     clear k13 k3 kd qZ
     by_cases hcn:c<0
     .have hcd:decide (c<0)=true:=dT hcn
      rw[hcd]
      go_wp2_with fail
      go_region
      all_goals go_wp2
      go_roundw
      case rel=>exact ⟨j,by first|rfl|(congr 1;omega),by omega,by omega,⟨_,(HR.out.keep HK3.out (λ h=>h)).swapE (i:=j+1) (j:=j) (by omega) (by omega) HXY.out.1 HXY.out.2,⟨by rw[swp3_comm];exact HSw.out.step (by omega) (by omega) (by rw[HXY.out.1,HXY.out.2,HCc.out];exact hcn),by rw[swp3_comm];exact HSo.out.step HC.out (by omega) hji (by rw[HXY.out.1,HXY.out.2,HCc.out];exact hcn)⟩,(AV.kswap HK03.out ..).drew⟩⟩
      case measure=>simp [intOf]
     .have hcd:decide (c<0)=false:=dF hcn
      rw[hcd]
      go_wp2
      refine⟨⟨i+1,by go_num,by omega,by omega,⟨dj,HR.out.keep HK3.out (λ h=>h),⟨HSw.out,?_⟩,HK03.out⟩⟩,by simp only[intOf];omega⟩
      rw[Nat.min_eq_left (by omega)]
      exact HSo.out.stop HC.out haj hji (.inr (by rw[Nat.add_sub_cancel,HXY.out.1,HXY.out.2,HCc.out];exact hcn))
    .obtain rfl:a=j:=by omega
     have p4:¬ (a:Int)<(a:Int):=by omega
     go_wp2_with fail
     go_quiet (fail)
     go_wp2
     refine⟨⟨i+1,by go_num,by omega,by omega,⟨dj,HR.out.keep (S:=Aa) (Kp.Ah _) (λ h=>h),⟨HSw.out,?_⟩,HK.out.drewN _⟩⟩,by simp only[intOf];omega⟩
     rw[Nat.min_eq_left (by omega)]
     exact HSo.out.stop HC.out haj hji (.inl rfl)
  .have hlt':¬ (i:Int)<(z:Int):=by omega
   go_wp2
   refine bodyPost_end (results_none rfl _ _ _) rfl ?_
   exact⟨⟨_,rfl⟩,dk,HR.out,⟨HSw.out,by have:=HSo.out;rwa [Nat.min_eq_right (by omega)] at this⟩,HK.out⟩

end

end

section
open Go.RowKit

section

variable {C:T3->T3->Int} {s b T n cap:Nat}

theorem InsK_nil(fn:Value)(w:World):
  Calls prog 204 #[.slice none 0 0,.int .i64 0,.int .i64 0,fn] w λ e w'=>(∃ u,e=.returned u)/\Kp Aa w w':=by
 go_enter func204,ntmps204
 go_wp2_with fail
 go_loopw [8] (λ x wr=>x=.int .i64 1/\Kp Aa w wr) (λ _ _=>0)
 case atStart=>exact ⟨rfl,Kr _ _⟩
 case round=>
  obtain⟨rfl,hk⟩:=hrel
  go_wp2
  refine bodyPost_end (results_none rfl _ _ _) rfl ?_
  exact⟨⟨_,rfl⟩,hk⟩

theorem StableK_nil(fn:Value)(w:World):
  Calls prog 167 #[.slice none 0 0,.int .i64 0,fn] w λ e w'=>(∃ u,e=.returned u)/\Kp Aa w w':=by
 go_enter func167,ntmps167
 go_wp2_with fail
 go_loopw [7,8] (λ x7 x8 wr=>x7=.int .i64 0/\x8=.int .i64 20/\Kp Aa w wr) (λ _ _ _=>0)
 case atStart=>exact ⟨rfl,rfl,Kr _ _⟩
 case round=>
  obtain⟨rfl,rfl,hk⟩:=hrel
  have HK:=sE hk
  clear hk
  go_wp2_with fail
  refine(InsK_nil fn _).mono ?_
  rintro e w2 ⟨⟨u,rfl⟩,k2⟩
  have HK2:=sE (HK.out.then' k2)
  clear k2
  go_wp2_with fail
  go_loopw [6,7,8,9] (λ x6 _ _ _ wr=>x6=.int .i64 20/\Kp Aa w wr) (λ _ _ _ _ _=>0)
  case atStart=>exact ⟨rfl,HK2.out⟩
  case round=>
   obtain⟨rfl,hk⟩:=hrel
   go_wp2
   refine bodyPost_end (results_none rfl _ _ _) rfl ?_
   exact⟨⟨_,rfl⟩,hk⟩

theorem StableK_few{F:Nat->T3}{w:World}(hC:OrdC C)(hcmp:∀ x y W',Calls prog 71 #[Dr x,Dr y] W' λ e w'=>e=.returned (.int .i64 (C x y))/\Kp Aa W' w')(hn:n<=19)(h:AV s b T n F w):
  Calls prog 167 #[.slice (some ⟨b,0,none⟩) n cap,.int .i64 (n:Nat),.func (.func 71) #[] #[]] w λ e w'=>(∃ u,e=.returned u)/\BB s b T n (λ G=>Stab C 0 n F G/\Ai C 0 n G) w w':=by
 have HI:Sl (∀ W',Kp Aa w W'->_):=⟨λ W' kk=>InsK_at (cap:=cap) hC hcmp (F:=F) (w:=W') (a:=0) (z:=n) (h.keep kk (λ h=>h)) (Nat.zero_le _) (Nat.le_refl _) (by omega)⟩
 clear h hcmp hC
 have hlt:¬ (20:Int)<=(n:Int):=by omega
 have hlt2:¬ (20:Int)<(n:Int):=by omega
 go_enter func167,ntmps167
 go_wp2_with fail
 go_loopw [7,8] (λ x7 x8 wr=>x7=.int .i64 0/\x8=.int .i64 20/\Kp Aa w wr) (λ _ _ _=>0)
 case atStart=>exact ⟨rfl,rfl,Kr _ _⟩
 case round=>
  obtain⟨rfl,rfl,hk⟩:=hrel
  have HK:=sE hk
  clear hk
  go_wp2_with fail
  refine(HI.out _ HK.out).mono ?_
  rintro e w2 ⟨⟨u,rfl⟩,G,r2,h2,k2⟩
  have HT:Sl (BB s b T n (λ G=>Stab C 0 n F G/\Ai C 0 n G) w w2):=⟨G,r2,h2,(HK.out.Ar _).trans k2 (λ _ _ h=>h)⟩
  clear r2 h2 k2
  go_wp2_with fail
  go_loopw [6,7,8,9] (λ x6 _ _ _ wr=>x6=.int .i64 20/\wr=w2) (λ _ _ _ _ _=>0)
  case atStart=>exact ⟨rfl,rfl⟩
  case round=>
   obtain⟨rfl,rfl⟩:=hrel
   go_wp2
   refine bodyPost_end (results_none rfl _ _ _) rfl ?_
   exact⟨⟨_,rfl⟩,HT.out⟩

theorem SortK_of{base:Nat}{v:Value}{L:List T3}{w:World}(hC:OrdC C)(hst:∀ {g cap:Nat},AV (cap*3) g T L.length (atL L) w->Calls prog 167 #[.slice (some ⟨g,0,none⟩) L.length cap,.int .i64 (L.length:Nat),.func (.func 71) #[] #[]] w λ e w'=>(∃ u,e=.returned u)/\BB (cap*3) g T L.length (λ G=>Stab C 0 L.length (atL L) G/\Ai C 0 L.length G) w w')(h:w.ownsRow base T 3 v L.length (Br L)):
  Calls prog 121 #[v,.func (.func 71) #[] #[]] w λ e w'=>(∃ u,e=.returned u)/\w'.ownsRow base T 3 v L.length (Br (Cb C L))/\Kp (λ k=>v.ownBlock=some k) w w':=by
 rcases h.2 with ⟨rfl,h0⟩|⟨g,cap,cur,rfl,-⟩
 .have hL:L=[]:=List.length_eq_zero_iff.1 h0
  subst hL
  have HI:=sE (StableK_nil (.func (.func 71) #[] #[]) w)
  clear h h0 hst hC
  go_enter func121,ntmps121
  go_wp2_with fail
  refine HI.out.mono ?_
  rintro e w2 ⟨⟨u,rfl⟩,k2⟩
  go_wp2
  refine bodyPost_end (results_none rfl _ _ _) rfl ?_
  exact⟨⟨_,rfl⟩,World.ownsRow_nil _ _ _ _,k2.Ar _⟩
 .obtain ⟨hn,h1,h2,h3,hr⟩:=AV.Be h
  have HI:=sE (hst hr)
  have HB:=sE (And.intro h1 (And.intro h2 h3))
  have HC:=sE hC
  obtain⟨n,hnn⟩:∃ n,L.length=n:=⟨_,rfl⟩
  have HN:=sE hnn
  rw[hnn] at HI HB ⊢
  clear h h1 h2 h3 hr hst hC hn hnn
  go_enter func121,ntmps121
  go_wp2_with fail
  refine HI.out.mono ?_
  rintro e w2 ⟨⟨u,rfl⟩,G,r2,⟨s2,o2⟩,k2⟩
  have HW:Sl (w2.ownsRow base T 3 (.slice (some ⟨g,0,none⟩) n cap) n (Br (Cb C L))):=⟨by
   have e1:=s2.answer HC.out o2
   rw[<- HN.out,map_atL] at e1
   rw[<- e1,HN.out]
   exact r2.owns HB.out.1 HB.out.2.1 HB.out.2.2⟩
  have HK:Sl (Kp (λ k=>(Value.slice (some ⟨g,0,none⟩) n cap).ownBlock=some k) w w2):=⟨k2.mono λ i _ h=>by have h':i=g:=h;subst h';rfl⟩
  clear r2 s2 o2 k2
  go_wp2
  refine bodyPost_end (results_none rfl _ _ _) rfl ?_
  exact⟨⟨_,rfl⟩,HW.out,HK.out⟩

theorem ByK_of{base:Nat}{v:Value}{L:List T3}{w:World}(hC:OrdC C)(hst:∀ {g cap:Nat},AV (cap*3) g T L.length (atL L) w->Calls prog 167 #[.slice (some ⟨g,0,none⟩) L.length cap,.int .i64 (L.length:Nat),.func (.func 71) #[] #[]] w λ e w'=>(∃ u,e=.returned u)/\BB (cap*3) g T L.length (λ G=>Stab C 0 L.length (atL L) G/\Ai C 0 L.length G) w w')(h:w.ownsRow base T 3 v L.length (Br L)):
  Calls prog 69 #[v,.func (.func 71) #[] #[]] w λ e w'=>e=.returned v/\w'.ownsRow base T 3 v L.length (Br (Cb C L))/\Kp (λ k=>v.ownBlock=some k) w w':=by
 have HI:=sE (SortK_of hC hst h)
 obtain⟨a,c,rfl⟩:=AJ h
 obtain⟨n,hnn⟩:∃ n,L.length=n:=⟨_,rfl⟩
 rw[hnn] at HI ⊢
 clear h hst hC hnn
 go_enter func69,ntmps69
 go_wp2_with fail
 refine HI.out.mono ?_
 rintro e w2 ⟨⟨u,rfl⟩,h2,k2⟩
 have HW:=sE (And.intro h2 k2)
 clear h2 k2
 go_wp2
 go_ret
 exact⟨rfl,HW.out⟩

theorem ByK_few{base:Nat}{v:Value}{L:List T3}{w:World}(hC:OrdC C)(hcmp:∀ x y W',Calls prog 71 #[Dr x,Dr y] W' λ e w'=>e=.returned (.int .i64 (C x y))/\Kp Aa W' w')(hl:L.length<=19)(h:w.ownsRow base T 3 v L.length (Br L)):
  Calls prog 69 #[v,.func (.func 71) #[] #[]] w λ e w'=>e=.returned v/\w'.ownsRow base T 3 v L.length (Br (Cb C L))/\Kp (λ k=>v.ownBlock=some k) w w':=
 ByK_of hC (λ hr=>StableK_few hC hcmp hl hr) h

end

end

end Go.Proofs.YtfkedlgpgmaemaaGreatDoor
