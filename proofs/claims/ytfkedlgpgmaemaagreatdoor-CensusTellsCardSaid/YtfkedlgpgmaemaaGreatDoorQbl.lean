/-
  Lemmas for the laws, together: StP, StR, StK, StF.
-/
import Derived.Test.YtfkedlgpgmaemaaGreatDoorQaa
import Derived.Test.YtfkedlgpgmaemaaGreatDoorProg
import Derived.Test.YtfkedlgpgmaemaaGreatDoorQak
import Derived.BigGuard
import Derived.BigCall
import Derived.CellFam
import Derived.Deep.Draws
import Derived.Test.YtfkedlgpgmaemaaGreatDoorQaz
set_option linter.unusedVariables false
set_option maxHeartbeats 16000000
namespace Go.Proofs.YtfkedlgpgmaemaaGreatDoor
open Tryz
section

abbrev T3:=Int×Int×Int

structure OrdC(C:T3->T3->Int):Prop where
 asym:∀ {x y},C x y<0->¬ C y x<0
 trans:∀ {x y z},¬ C y x<0->¬ C z y<0->¬ C z x<0

section

variable {C:T3->T3->Int}

theorem OrdC.refl(h:OrdC C)(x:T3):¬ C x x<0:=λ k=>h.asym k k

theorem OrdC.le_lt(a:OrdC C){x y z:T3}(b:¬ C y x<0)(c:C y z<0):C x z<0:=Classical.byContradiction λ k=>a.trans k b c

theorem OrdC.lt_le(a:OrdC C){x y z:T3}(b:C x y<0)(c:¬ C z y<0):C x z<0:=Classical.byContradiction λ k=>a.trans c k b

theorem OrdC.lt_trans(a:OrdC C){x y z:T3}(b:C x y<0)(c:C y z<0):C x z<0:=a.lt_le b (a.asym c)

def insC(C:T3->T3->Int)(x:T3):List T3->List T3
 |[]=>[x]
 |y::l=>if C y x<0 then y::insC C x l else x::y::l

def BN(C:T3->T3->Int):List T3->List T3
 |[]=>[]
 |x::l=>insC C x (BN C l)

theorem insC_comm(b:OrdC C){x y:T3}(a:C y x<0):∀ l,insC C x (insC C y l)=insC C y (insC C x l)
 |[]=>by simp[insC,a,b.asym a]
 |z::l=>by
  have d:=b.asym a
  by_cases hz:C z y<0
  .have c:C z x<0:=b.lt_trans hz a
   simp[insC,hz,c,insC_comm b a l]
  .by_cases c:C z x<0
   .simp [insC,hz,c,a]
   .simp [insC,hz,c,a,d]

theorem sortC_swap(a:OrdC C){x y:T3}(b:C y x<0)(m:List T3):∀ l,BN C (l++x::y::m)=BN C (l++y::x::m)
 |[]=>insC_comm a b _
 |z::l=>by
  show insC C z (BN C (l++x::y::m))=insC C z (BN C (l++y::x::m))
  rw[sortC_swap a b m l]

theorem insC_perm(C:T3->T3->Int)(x:T3):∀ l,(insC C x l).Perm (x::l)
 |[]=>List.Perm.refl _
 |y::l=>by
  unfold insC
  split
  .exact ((insC_perm C x l).cons y).trans (List.Perm.swap _ _ _)
  .exact List.Perm.refl _

theorem sortC_perm(C:T3->T3->Int):∀ l,(BN C l).Perm l
 |[]=>List.Perm.refl _
 |x::l=>(insC_perm C x _).trans ((sortC_perm C l).cons x)

theorem sortC_sorted:∀ {l:List T3},l.Pairwise (λ x y=>¬ C y x<0)->BN C l=l
 |[],_=>rfl
 |x::l,hp=>by
  have a:∀ y∈l,¬ C y x<0:=λ y b=>List.rel_of_pairwise_cons hp b
  show insC C x (BN C l)=_
  rw[sortC_sorted (List.Pairwise.of_cons hp)]
  cases l with
  |nil=>rfl
  |cons y l=>unfold insC;rw [if_neg (a y (List.mem_cons_self ..))]

theorem insC_pairwise(c:OrdC C)(x:T3):∀ {l:List T3},l.Pairwise (λ x y=>¬ C y x<0)->(insC C x l).Pairwise (λ x y=>¬ C y x<0)
 |[],_=>List.pairwise_singleton _ _
 |y::l,hp=>by
  have d:∀ z∈l,¬ C z y<0:=λ z a=>List.rel_of_pairwise_cons hp a
  unfold insC
  split
  .rename_i b
   refine List.Pairwise.cons (λ z a=>?_) (insC_pairwise c x (List.Pairwise.of_cons hp))
   rcases List.mem_cons.1 ((insC_perm C x l).mem_iff.1 a) with rfl|a
   .exact c.asym b
   .exact d z a
  .rename_i b
   refine List.Pairwise.cons (λ z a=>?_) hp
   rcases List.mem_cons.1 a with rfl|a
   .exact b
   .exact c.trans b (d z a)

theorem Fu(h:OrdC C):∀ l:List T3,(BN C l).Pairwise (λ x y=>¬ C y x<0)
 |[]=>List.Pairwise.nil
 |x::l=>insC_pairwise h x (Fu h l)

end

def Fv(F:Nat->T3)(i j:Nat):Nat->T3:=λ k=>if k=i then F j else if k=j then F i else F k

theorem swp3_l(F:Nat->T3)(i j:Nat):Fv F i j i=F j:=by unfold Fv;rw [if_pos rfl]

theorem swp3_r(F:Nat->T3)(i j:Nat):Fv F i j j=F i:=by
 unfold Fv
 by_cases h:j=i
 .rw [if_pos h,h]
 .rw [if_neg h,if_pos rfl]

theorem swp3_o(F:Nat->T3){i j k:Nat}(a:k≠i)(b:k≠j):Fv F i j k=F k:=by unfold Fv;rw [if_neg a,if_neg b]

theorem swp3_comm(F:Nat->T3)(i j:Nat):Fv F i j=Fv F j i:=by
 funext k
 unfold Fv
 by_cases h:k=i
 .by_cases h2:k=j
  .rw [if_pos h,if_pos h2,<- h,<- h2]
  .rw [if_pos h,if_neg h2,if_pos h]
 .by_cases h2:k=j
  .rw [if_neg h,if_pos h2,if_pos h2]
  .rw [if_neg h,if_neg h2,if_neg h2,if_neg h]

inductive Stab (C:T3->T3->Int) (a b:Nat) (F:Nat->T3):(Nat->T3)->Prop
 |refl:Stab C a b F F
 |step {G:Nat->T3} {i:Nat}:Stab C a b F G->a<=i->i+1<b->C (G (i+1)) (G i)<0->Stab C a b F (Fv G i (i+1))

section

variable {C:T3->T3->Int} {a b:Nat} {F G H:Nat->T3}

theorem Stab.trans(d:Stab C a b F G)(c:Stab C a b G H):Stab C a b F H:=by
 induction c with
 |refl=>exact d
 |step _ h1 c h3 ih=>exact ih.step h1 c h3

theorem Stab.mono{a' c:Nat}(d:Stab C a b F G)(e:a'<=a)(f:b<=c):Stab C a' c F G:=by
 induction d with
 |refl=>exact .refl
 |step _ p1 p2 p3 ih=>exact ih.step (by omega) (by omega) p3

theorem Stab.o{k:Nat}(c:Stab C a b F G)(d:k<a\/b<=k):G k=F k:=by
 induction c with
 |refl=>rfl
 |step _ p1 p2 p3 ih=>rw [swp3_o _ (by omega) (by omega),ih]

theorem Stab.all{p:T3->Prop}(c:Stab C a b F G)(f:∀ k,a<=k->k<b->p (F k)):∀ k,a<=k->k<b->p (G k):=by
 induction c with
 |refl=>exact f
 |@step G i _ p1 p2 p3 ih=>
  intro k d e
  unfold Fv
  split
  .exact ih _ (by omega) p2
  .split
   .exact ih _ p1 (by omega)
   .exact ih _ d e

theorem range_split(n i:Nat)(G:Nat->T3)(c:i+1<n):∃ l:List T3,∃ m:List T3,(List.range n).map G=l++G i::G (i+1)::m/\(List.range n).map (Fv G i (i+1))=l++G (i+1)::G i::m:=by
 obtain⟨d,rfl⟩:∃ d,n=i+(d+2):=⟨n-i-2,by omega⟩
 have b:∀ F:Nat->T3,(List.range (i+(d+2))).map F=(List.range i).map F++F i::F (i+1)::(List.range d).map (λ k=>F (i+2+k)):=λ F=>by
  rw[List.range_add,List.map_append,List.map_map,List.range_succ_eq_map,List.range_succ_eq_map]
  congr 1
  simp only[List.map_cons,List.map_map,Function.comp_apply,Nat.add_zero]
  congr 2
  refine List.map_congr_left λ k _=>?_
  simp only[Function.comp_apply]
  congr 1
  omega
 refine⟨_,_,b G,?_⟩
 rw[b,swp3_l,swp3_r]
 congr 1
 .refine List.map_congr_left λ k a=>?_
  have:=List.mem_range.1 a
  exact swp3_o G (by omega) (by omega)
 .congr 2
  refine List.map_congr_left λ k a=>?_
  exact swp3_o G (by omega) (by omega)

theorem Stab.BN{n:Nat}(f:OrdC C)(e:Stab C a b F G)(g:b<=n):BN C ((List.range n).map G)=BN C ((List.range n).map F):=by
 induction e with
 |refl=>rfl
 |@step G i _ p1 p2 p3 ih=>
  obtain⟨l,m,c,d⟩:=range_split n i G (by omega)
  rw[d,<- ih,c]
  exact(sortC_swap f p3 m l).symm

def Al(C:T3->T3->Int)(a b:Nat)(F:Nat->T3):Prop:=∀ i j,a<=i->i<=j->j<b->¬ C (F j) (F i)<0

theorem Al.of_next(c:OrdC C)(e:∀ i,a<=i->i+1<b->¬ C (F (i+1)) (F i)<0):Al C a b F:=by
 intro i j k f g
 obtain⟨d,rfl⟩:∃ d,j=i+d:=⟨j-i,by omega⟩
 clear f
 induction d with
 |zero=>exact c.refl _
 |succ d ih=>exact c.trans (ih (by omega)) (e (i+d) (by omega) g)

theorem Al.sub{a' c:Nat}(d:Al C a b F)(f:a<=a')(g:c<=b):Al C a' c F:=λ i j k e l=>d i j (by omega) e (by omega)

theorem Al.congr(f:Al C a b F)(e:∀ k,a<=k->k<b->G k=F k):Al C a b G:=λ i j c g d=>by
 rw[e i c (by omega),e j (by omega) d]
 exact f i j c g d

theorem Stab.answer{n:Nat}(b:OrdC C)(a:Stab C 0 n F G)(c:Al C 0 n G):(List.range n).map G=Go.Proofs.YtfkedlgpgmaemaaGreatDoor.BN C ((List.range n).map F):=by
 rw[<- a.BN b (Nat.le_refl _)]
 refine(sortC_sorted ?_).symm
 rw[List.pairwise_map]
 refine List.Pairwise.imp_of_mem (λ {x y} hx hy (d:x<y)=>c x y (Nat.zero_le _) (by omega) (List.mem_range.1 hy)) List.pairwise_lt_range

/-! insertion -/

def DownC(C:T3->T3->Int)(a i j:Nat)(H:Nat->T3):Prop:=(∀ p q,a<=p->p<=q->q<=i->p≠j->q≠j->¬ C (H q) (H p)<0)/\∀ q,j<q->q<=i->¬ C (H q) (H j)<0

theorem DownC.start{i:Nat}(d:Al C a i G):DownC C a i i G:=⟨λ p q b c e f g=>d p q b c (by omega),λ q b c=>by omega⟩

theorem DownC.step{i j:Nat}(k:OrdC C)(b:DownC C a i (j+1) H)(n:a<=j)(r:j+1<=i)(o:C (H (j+1)) (H j)<0):DownC C a i j (Fv H j (j+1)):=by
 have l:=swp3_l H j (j+1)
 have c:=swp3_r H j (j+1)
 refine⟨λ p q d e f m g=>?_,λ q d e=>?_⟩
 .by_cases hp:p=j+1
  .by_cases hq:q=j+1
   .rw [hp,hq];exact k.refl _
   .rw [hp,c,swp3_o H g hq]
    exact b.1 _ _ n (by omega) f (by omega) hq
  .rw [swp3_o H m hp]
   by_cases hq:q=j+1
   .rw [hq,c]
    exact b.1 _ _ d (by omega) (by omega) hp (by omega)
   .rw [swp3_o H g hq]
    exact b.1 _ _ d e f hp hq
 .rw [l]
  by_cases hq:q=j+1
  .rw [hq,c];exact k.asym o
  .rw [swp3_o H (by omega) hq]
   exact b.2 q (by omega) e

theorem DownC.stop{i j:Nat}(e:OrdC C)(c:DownC C a i j H)(l:a<=j)(g:j<=i)(b:j=a\/¬ C (H j) (H (j-1))<0):Al C a (i+1) H:=by
 refine Al.of_next e λ k d f=>?_
 by_cases e1:k=j
 .subst e1
  exact c.2 _ (by omega) (by omega)
 .by_cases e2:k+1=j
  .subst e2
   rcases b with b|b
   .omega
   .exact b
  .exact c.1 _ _ d (by omega) (by omega) e1 e2

/-! rotations -/

def Bh(F:Nat->T3)(a m b:Nat):Nat->T3:=λ k=>if a<=k/\k<a+(b-m) then F (k-a+m) else if a+(b-m)<=k/\k<b then F (k-(b-m)) else F k

def swrF(F:Nat->T3)(a b n:Nat):Nat->T3:=λ k=>if a<=k/\k<a+n then F (k-a+b) else if b<=k/\k<b+n then F (k-b+a) else F k

theorem rotF_l{m:Nat}(c:a=m)(d:m<=b):Bh F a m b=F:=by
 subst c
 funext k
 unfold Bh
 repeat' split
 all_goals first|rfl|(exfalso;omega)|(congr 1;omega)

theorem rotF_r{m:Nat}(c:m=b)(d:a<=m):Bh F a m b=F:=by
 subst c
 funext k
 unfold Bh
 repeat' split
 all_goals first|rfl|(exfalso;omega)|(congr 1;omega)

theorem rot_hop{p:Nat}(d:Nat):Bh F p (p+1) (p+1+(d+1))=Fv (Bh F p (p+1) (p+1+d)) (p+d) (p+d+1):=by
 funext k
 unfold Fv Bh
 repeat' split
 all_goals first|rfl|(exfalso;omega)|(congr 1;omega)

theorem rot_hop'{p k:Nat}(h:p<=k):Bh F p (p+1) (k+1+1)=Fv (Bh F p (p+1) (k+1)) k (k+1):=by
 have:=rot_hop (F:=F) (p:=p) (k-p)
 rwa [show p+1+(k-p+1)=k+1+1 by omega,show p+1+(k-p)=k+1 by omega,show p+(k-p)=k by omega] at this

theorem rot_down{k m:Nat}(h:k+1<=m):Fv (Bh F (k+1) m (m+1)) (k+1) k=Bh F k m (m+1):=by
 funext t
 unfold Fv Bh
 repeat' split
 all_goals first|rfl|(exfalso;omega)|(congr 1;omega)

theorem Stab.hop{p:Nat}(g:a<=p):∀ (d:Nat),p+1+d<=b->(∀ q,p<q->q<p+1+d->C (F q) (F p)<0)->Stab C a b F (Bh F p (p+1) (p+1+d))
 |0,_,_=>by rw[rotF_r rfl (by omega)];exact .refl
 |d+1,hb,h=>by
  rw[rot_hop]
  refine(Stab.hop g d (by omega) (λ q f i=>h q f (by omega))).step (by omega) (by omega) ?_
  have c:Bh F p (p+1) (p+1+d) (p+d+1)=F (p+d+1):=by
   unfold Bh
   repeat' split
   all_goals first|rfl|(exfalso;omega)
  have e:Bh F p (p+1) (p+1+d) (p+d)=F p:=by
   unfold Bh
   repeat' split
   all_goals first|(exfalso;omega)|(congr 1;omega)
  rw[c,e]
  exact h _ (by omega) (by omega)

theorem rot_more{m:Nat}(c:a<=m)(d:m+1<=b):Bh F a (m+1) b=Bh (Bh F m (m+1) b) a m (b-1):=by
 funext k
 unfold Bh
 repeat' split
 all_goals first|rfl|(exfalso;omega)|(congr 1;omega)

theorem Stab.rot{x y:Nat}(f:x<=a):∀ (d b:Nat) (F:Nat->T3),a+d<=b->b<=y->(∀ p q,a<=p->p<a+d->a+d<=q->q<b->C (F q) (F p)<0)->Stab C x y F (Bh F a (a+d) b)
 |0,b,F,h1,h2,h=>by rw[rotF_l (by omega) (by omega)];exact .refl
 |d+1,b,F,h1,h2,h=>by
  rw[show a+(d+1)=(a+d)+1 from rfl,rot_more (by omega) (by omega)]
  have k:Stab C x y F (Bh F (a+d) (a+d+1) b):=by
   have:=Stab.hop (C:=C) (F:=F) (a:=x) (b:=y) (p:=a+d) (by omega) (b-(a+d+1)) (by omega) (λ q i j=>h _ _ (by omega) (by omega) (by omega) (by omega))
   rwa [show a+d+1+(b-(a+d+1))=b by omega] at this
  refine k.trans (Stab.rot f d (b-1) _ (by omega) (by omega) λ p q g l i j=>?_)
  have c:Bh F (a+d) (a+d+1) b p=F p:=by
   unfold Bh
   repeat' split
   all_goals first|rfl|(exfalso;omega)
  have e:Bh F (a+d) (a+d+1) b q=F (q+1):=by
   unfold Bh
   repeat' split
   all_goals first|(exfalso;omega)|(congr 1;omega)
  rw[c,e]
  exact h _ _ g (by omega) (by omega) (by omega)

theorem rot_gt{p m j:Nat}(h:p+j<m):Bh (swrF F p m j) (p+j) m (m+j)=Bh F p m (m+j):=by
 funext k
 unfold Bh swrF
 repeat' split
 all_goals first|rfl|(exfalso;omega)|(congr 1;omega)

theorem rot_lt{p m j:Nat}(b:p<=m)(a:m<p+j):Bh (swrF F p (m+j-(m-p)) (m-p)) p m (m+j-(m-p))=Bh F p m (m+j):=by
 funext k
 unfold Bh swrF
 repeat' split
 all_goals first|rfl|(exfalso;omega)|(congr 1;omega)

theorem rot_eq{p m j:Nat}(h:p+j=m):swrF F p m j=Bh F p m (m+j):=by
 funext k
 unfold Bh swrF
 repeat' split
 all_goals first|rfl|(exfalso;omega)|(congr 1;omega)

theorem swr_step{a b i:Nat}(h:a+i<b):Fv (swrF F a b i) (a+i) (b+i)=swrF F a b (i+1):=by
 funext k
 unfold Fv swrF
 repeat' split
 all_goals first|rfl|(exfalso;omega)|(congr 1;omega)

theorem swr_zero:swrF F a b 0=F:=by
 funext k
 unfold swrF
 repeat' split
 all_goals first|rfl|(exfalso;omega)

/-! the merge of two parts -/

theorem merge_one{m i:Nat}(e:OrdC C)(f:Al C (a+1) b F)(l:a+1<=i)(n:i<=b)(g:∀ t,a<t->t<i->C (F t) (F a)<0)(j:∀ t,i<=t->t<b->¬ C (F t) (F a)<0):Al C a b (Bh F a (a+1) i):=by
 refine Al.of_next e λ k o p=>?_
 by_cases e1:k+1<i-1
 .have c:Bh F a (a+1) i k=F (k+1):=by
   unfold Bh
   repeat' split
   all_goals first|(exfalso;omega)|(congr 1;omega)
  have d:Bh F a (a+1) i (k+1)=F (k+2):=by
   unfold Bh
   repeat' split
   all_goals first|(exfalso;omega)|(congr 1;omega)
  rw[c,d]
  exact f _ _ (by omega) (by omega) (by omega)
 .by_cases e2:k+1=i-1
  .have c:Bh F a (a+1) i k=F (k+1):=by
    unfold Bh
    repeat' split
    all_goals first|(exfalso;omega)|(congr 1;omega)
   have d:Bh F a (a+1) i (k+1)=F a:=by
    unfold Bh
    repeat' split
    all_goals first|(exfalso;omega)|(congr 1;omega)
   rw[c,d]
   exact e.asym (g _ (by omega) (by omega))
  .by_cases e3:k=i-1
   .have c:Bh F a (a+1) i k=F a:=by
     unfold Bh
     repeat' split
     all_goals first|(exfalso;omega)|(congr 1;omega)
    have d:Bh F a (a+1) i (k+1)=F (k+1):=by
     unfold Bh
     repeat' split
     all_goals first|rfl|(exfalso;omega)|(congr 1;omega)
    rw[c,d]
    exact j _ (by omega) (by omega)
   .have c:Bh F a (a+1) i k=F k:=by
     unfold Bh
     repeat' split
     all_goals first|rfl|(exfalso;omega)|(congr 1;omega)
    have d:Bh F a (a+1) i (k+1)=F (k+1):=by
     unfold Bh
     repeat' split
     all_goals first|rfl|(exfalso;omega)|(congr 1;omega)
    rw[c,d]
    exact f _ _ (by omega) (by omega) (by omega)

theorem merge_last{m i:Nat}(d:OrdC C)(e:Al C a m F)(g:a<=i)(j:i<=m)(l:∀ t,a<=t->t<i->¬ C (F m) (F t)<0)(n:∀ t,i<=t->t<m->C (F m) (F t)<0):Al C a (m+1) (Bh F i m (m+1)):=by
 refine Al.of_next d λ k p q=>?_
 have b:∀ k,k<i->Bh F i m (m+1) k=F k:=λ k o=>by
  unfold Bh
  repeat' split
  all_goals first|rfl|(exfalso;omega)
 have f:Bh F i m (m+1) i=F m:=by
  unfold Bh
  repeat' split
  all_goals first|(exfalso;omega)|(congr 1;omega)
 have c:∀ k,i<k->k<=m->Bh F i m (m+1) k=F (k-1):=λ k g j=>by
  unfold Bh
  repeat' split
  all_goals first|(exfalso;omega)|(congr 1;omega)
 by_cases e1:k+1<i
 .rw [b _ e1,b _ (by omega)]
  exact e _ _ (by omega) (by omega) (by omega)
 .by_cases e2:k+1=i
  .rw [e2,f,b _ (by omega)]
   exact l _ (by omega) (by omega)
  .by_cases e3:k=i
   .rw [e3,f,c _ (by omega) (by omega)]
    exact d.asym (n _ (by omega) (by omega))
   .rw [c _ (by omega) (by omega),c _ (by omega) (by omega)]
    exact e _ _ (by omega) (by omega) (by omega)

structure Cut(C:T3->T3->Int)(a m b mid s:Nat)(F:Nat->T3):Prop where
 le1:a<=s
 le2:s<=m
 le3:s<=mid
 le4:mid+m<=b+s
 lo:∀ t q,a<=t->t<s->mid+m-s<=q->q<b->¬ C (F q) (F t)<0
 hi:∀ t q,s<=t->t<m->m<=q->q<mid+m-s->C (F q) (F t)<0

theorem Cut.mk'{m mid s o c:Nat}(d:OrdC C)(j:Al C a m F)(k:Al C m b F)(w:a<m)(x:m<b)(y:mid=(a+b)/2)(n:o=if mid<m then mid+m-b else a)(l:c=if mid<m then mid else m)(v:o<=s)(r:s<=c)
  (u:∀ t,o<=t->t<s->¬ C (F (mid+m-1-t)) (F t)<0) (p:∀ t,s<=t->t<c->C (F (mid+m-1-t)) (F t)<0):Cut C a m b mid s F:=by
 by_cases hc:mid<m
 .rw [if_pos hc] at n l
  subst n l
  refine⟨by omega,by omega,r,by omega,λ t q f i e g=>?_,λ t q f i e g=>?_⟩
  .have:=u (s-1) (by omega) (by omega)
   rw[show c+m-1-(s-1)=c+m-s by omega] at this
   exact d.trans (j t (s-1) f (by omega) (by omega)) (d.trans this (k _ q (by omega) e g))
  .have:=p s (Nat.le_refl _) (by omega)
   exact d.lt_le (d.le_lt (k q (c+m-1-s) e (by omega) (by omega)) this) (j s t (by omega) f i)
 .rw [if_neg hc] at n l
  subst n l
  refine⟨v,r,by omega,by omega,λ t q f i e g=>?_,λ t q f i e g=>?_⟩
  .have:=u (s-1) (by omega) (by omega)
   rw[show mid+c-1-(s-1)=mid+c-s by omega] at this
   exact d.trans (j t (s-1) f (by omega) (by omega)) (d.trans this (k _ q (by omega) e g))
  .have:=p s (Nat.le_refl _) (by omega)
   exact d.lt_le (d.le_lt (k q (mid+c-1-s) e (by omega) (by omega)) this) (j s t (by omega) f i)

section

variable {m mid s:Nat}

def NoX(C:T3->T3->Int)(a mid b:Nat)(G:Nat->T3):Prop:=∀ t q,a<=t->t<mid->mid<=q->q<b->¬ C (G q) (G t)<0

theorem Cut.turn(G:OrdC C)(l:Al C a m F)(n:Al C m b F)(E:Cut C a m b mid s F):Stab C a b F (Bh F s m (mid+m-s))/\Al C a s (Bh F s m (mid+m-s))/\Al C s mid (Bh F s m (mid+m-s))/\Al C mid (mid+m-s) (Bh F s m (mid+m-s))/\Al C (mid+m-s) b (Bh F s m (mid+m-s))/\NoX C a mid b (Bh F s m (mid+m-s)):=by
 obtain⟨I,J,O,P,K,r⟩:=E
 have v:∀ k,k<s->Bh F s m (mid+m-s) k=F k:=λ k c=>by
  unfold Bh
  repeat' split
  all_goals first|rfl|(exfalso;omega)
 have o:∀ k,s<=k->k<mid->Bh F s m (mid+m-s) k=F (k-s+m):=λ k c H=>by
  unfold Bh
  repeat' split
  all_goals first|rfl|(exfalso;omega)
 have f:∀ k,mid<=k->k<mid+m-s->Bh F s m (mid+m-s) k=F (k-(mid-s)):=λ k c H=>by
  unfold Bh
  repeat' split
  all_goals first|rfl|(exfalso;omega)|(congr 1;omega)
 have g:∀ k,mid+m-s<=k->Bh F s m (mid+m-s) k=F k:=λ k c=>by
  unfold Bh
  repeat' split
  all_goals first|rfl|(exfalso;omega)
 refine⟨?_,(l.sub (Nat.le_refl _) J).congr λ k _ c=>v k c,λ i j d u e=>?_,λ i j d u e=>?_,λ i j d u e=>?_,λ t q A L w z=>?_⟩
 .have:=Stab.rot (C:=C) (x:=a) (y:=b) (a:=s) I (m-s) (mid+m-s) F (by omega) (by omega) (λ p q B M N D=>r p q B (by omega) (by omega) D)
  rwa [show s+(m-s)=m by omega] at this
 .rw [o i d (by omega),o j (by omega) e]
  exact n _ _ (by omega) (by omega) (by omega)
 .rw [f i d (by omega),f j (by omega) e]
  exact l _ _ (by omega) (by omega) (by omega)
 .rw [g i d,g j (by omega)]
  exact n _ _ (by omega) (by omega) (by omega)
 .by_cases ht:t<s
  .rw [v t ht]
   by_cases hq:q<mid+m-s
   .rw [f q w hq]
    exact l _ _ A (by omega) (by omega)
   .rw [g q (by omega)]
    exact K t q A ht (by omega) z
  .rw [o t (by omega) L]
   by_cases hq:q<mid+m-s
   .rw [f q w hq]
    exact G.asym (r _ _ (by omega) (by omega) (by omega) (by omega))
   .rw [g q (by omega)]
    exact n _ _ (by omega) (by omega) z

theorem Al.join(d:Al C a s F)(e:Al C s b F)(c:a=s\/s=b):Al C a b F:=by
 rcases c with rfl|rfl
 .exact e
 .exact d

theorem Dy{e c f:Nat->T3}(y:NoX C a mid b e)(t:Stab C a mid e c)(d:Stab C mid b c f)(v:Al C a mid c)(w:Al C mid b f):Al C a b f:=λ i j m n r=>by
 by_cases hj:j<mid
 .rw [d.o (.inl hj),d.o (k:=i) (.inl (by omega))]
  exact v _ _ m n hj
 .by_cases hi:mid<=i
  .exact w _ _ hi n r
  .have u:∀ q,mid<=q->q<b->¬ C (c q) (c i)<0:=λ q s z=>by
    rw[t.o (k:=q) (.inr s)]
    exact t.all (p:=λ x=>¬ C (e q) x<0) (λ k g l=>y k q g l s z) i m (by omega)
   rw[d.o (k:=i) (.inl (by omega))]
   exact d.all (p:=λ x=>¬ C x (c i)<0) (λ k g l=>u k g l) j (by omega) r

end

/-! blocks -/

def DL(C:T3->T3->Int)(s lo hi:Nat)(F:Nat->T3):Prop:=∀ i j,lo<=i->i<=j->j<hi->(∀ t,¬ (i<t*s/\t*s<=j))->¬ C (F j) (F i)<0

theorem no_bound{k t s i j:Nat}(d:k*s<=i)(e:i<t*s)(f:t*s<=j)(g:j<k*s+s):False:=by
 have a:k*s<t*s:=by omega
 have b:k<t:=Nat.lt_of_mul_lt_mul_right a
 have c:(k+1)*s<=t*s:=Nat.mul_le_mul_right s b
 rw[Nat.succ_mul] at c
 omega

theorem DL.part{s c a k z:Nat}(d:DL C s c a F)(g:c<=k*s)(l:z<=k*s+s)(m:z<=a):Al C (k*s) z F:=λ i j e f n=>
 d i j (by omega) f (by omega) λ t b=>no_bound e b.1 b.2 (by omega)

theorem DL.none(C:T3->T3->Int)(s:Nat)(F:Nat->T3):DL C s 0 0 F:=λ i j _ _ h=>by omega

theorem DL.ins{s k z:Nat}(d:DL C s 0 (k*s) F)(b:Stab C (k*s) z F G)(e:Al C (k*s) z G):DL C s 0 z G:=λ i j f c g a=>by
 by_cases hj:j<k*s
 .rw [b.o (.inl hj),b.o (k:=i) (.inl (by omega))]
  exact d i j f c hj a
 .by_cases hi:k*s<=i
  .exact e i j hi c g
  .exact absurd ⟨by omega,by omega⟩ (a k)

theorem DL.rest{s a z n:Nat}(c:DL C s a n F)(b:Stab C a z F G)(l:a<=z):DL C s z n G:=λ i j e f g d=>by
 rw[b.o (.inr e),b.o (k:=j) (.inr (by omega))]
 exact c i j (by omega) f g d

theorem DL.all{s n:Nat}(b:DL C s 0 n F)(f:n<=s):Al C 0 n F:=λ i j c d e=>b i j c d e λ t a=>no_bound (k:=0) (s:=s) (by omega) a.1 a.2 (by omega)

theorem DL.two{s k a z n:Nat}(b:DL C s a n F)(c:a=k*(2*s))(g:a+s<=z)(i:z<=a+2*s)(f:z<=n):Al C a (a+s) F/\Al C (a+s) z F:=by
 have e:k*(2*s)=(k*2)*s:=by rw[Nat.mul_assoc]
 rw[e] at c
 subst c
 have d:(k*2+1)*s=k*2*s+s:=Nat.succ_mul ..
 refine⟨b.part (k:=k*2) (Nat.le_refl _) (Nat.le_refl _) (by omega),?_⟩
 rw[<- d]
 exact b.part (k:=k*2+1) (by omega) (by omega) f

theorem DL.tail{s k n:Nat}(c:DL C (2*s) 0 (k*(2*s)) F)(a:DL C s (k*(2*s)) n F)(b:n<=k*(2*s)+s):DL C (2*s) 0 n F:=by
 have e:k*(2*s)=(k*2)*s:=by rw[Nat.mul_assoc]
 refine c.ins .refl ?_
 rw[e] at a b ⊢
 exact a.part (Nat.le_refl _) b (Nat.le_refl _)

end

theorem cut_stay{C:T3->T3->Int}{a m z mid s:Nat}{F:Nat->T3}(b:Cut C a m z mid s F)(d:s=m\/s=mid):Bh F s m (mid+m-s)=F:=by
 have c:=b.le2
 have e:=b.le3
 rcases d with rfl|rfl
 .exact rotF_l rfl (by omega)
 .exact rotF_r (by omega) c

def OneS(C:T3->T3->Int)(F:Nat->T3)(a z i j:Nat):Prop:=(∀ t,a<t->t<i->C (F t) (F a)<0)/\∀ t,j<=t->t<z->¬ C (F t) (F a)<0

def LastS(C:T3->T3->Int)(F:Nat->T3)(a m i j:Nat):Prop:=(∀ t,a<=t->t<i->¬ C (F m) (F t)<0)/\∀ t,j<=t->t<m->C (F m) (F t)<0

def MidS(C:T3->T3->Int)(F:Nat->T3)(M s0 r0 i j:Nat):Prop:=(∀ t,s0<=t->t<i->¬ C (F (M-t)) (F t)<0)/\∀ t,j<=t->t<r0->C (F (M-t)) (F t)<0

end

section
open Go.RowKit

def Ej(a:T3):Value:=.agg #[.int .i64 a.1,.int .i64 a.2.1,.int .i64 a.2.2]

theorem block3_set{w:World}{b j:Nat}{cs:Array Value}{t:TypeId}(a:w.heap[b]?=some (.cells cs t (0,0)))(v:Value):(w.setCell ⟨b,j,none⟩ v).heap[b]?=some (.cells (cs.setIfInBounds j v) t (0,0)):=by
 have c:=(Array.getElem?_eq_some_iff.1 a).1
 have d:w.heap[b]=.cells cs t (0,0):=by simpa [Array.getElem?_eq_getElem c] using a
 show(w.heap.modify b _)[b]?=_
 rw[Array.getElem?_eq_getElem (by simpa using c),Array.getElem_modify_self,d]
 rfl

def Bn(s b T n:Nat)(F:Nat->T3)(w:World):Prop:=
 ∃ c:Array Value,w.heap[b]?=some (.cells c T (0,0))/\c.size=s/\∀ i,i<n->c[i*3]?=some (.int .i64 (F i).1)/\c[i*3+1]?=some (.int .i64 (F i).2.1)/\c[i*3+2]?=some (.int .i64 (F i).2.2)

theorem set3_at(c:Array Value)(p:Nat)(u v x:Value)(d:p+2<c.size):(((c.setIfInBounds p u).setIfInBounds (p+1) v).setIfInBounds (p+2) x)[p]?=some u/\(((c.setIfInBounds p u).setIfInBounds (p+1) v).setIfInBounds (p+2) x)[p+1]?=some v/\(((c.setIfInBounds p u).setIfInBounds (p+1) v).setIfInBounds (p+2) x)[p+2]?=some x/\∀ j,(j<p\/p+2<j)->(((c.setIfInBounds p u).setIfInBounds (p+1) v).setIfInBounds (p+2) x)[j]?=c[j]?:=by
 have a:p<c.size:=by omega
 have b:p+1<c.size:=by omega
 refine⟨?_,?_,?_,λ j e=>?_⟩
 .rw [Array.getElem?_setIfInBounds,if_neg (by omega),Array.getElem?_setIfInBounds,if_neg (by omega),Array.getElem?_setIfInBounds,if_pos rfl,if_pos a]
 .rw [Array.getElem?_setIfInBounds,if_neg (by omega),Array.getElem?_setIfInBounds,if_pos rfl,if_pos (by simpa using b)]
 .rw [Array.getElem?_setIfInBounds,if_pos rfl,if_pos (by simpa using d)]
 .rw [Array.getElem?_setIfInBounds,if_neg (by omega),Array.getElem?_setIfInBounds,if_neg (by omega),Array.getElem?_setIfInBounds,if_neg (by omega)]

section

variable {s b T n:Nat} {F:Nat->T3} {w w':World}

theorem Bn.cells(a:Bn s b T n F w){i:Nat}(f:i<n):w.cell? ⟨b,i*3,none⟩=some (.int .i64 (F i).1)/\w.cell? ⟨b,i*3+1,none⟩=some (.int .i64 (F i).2.1)/\w.cell? ⟨b,i*3+2,none⟩=some (.int .i64 (F i).2.2):=by
 obtain⟨c,d,g,e⟩:=a
 simp only[World.cell?,d]
 exact e i f

theorem Bn.warm(a:Bn s b T n F w)(i:Nat):w.frozen? ⟨b,i,none⟩=false:=by
 obtain⟨c,d,e,f⟩:=a
 simp only[World.frozen?,d]
 simp

theorem Bn.keep{S:Nat->Prop}(a:Bn s b T n F w)(k:Kp S w w')(f:¬ S b):Bn s b T n F w':=by
 obtain⟨c,d,e⟩:=a
 exact⟨c,k.at_ d f,e⟩

theorem Bn.drew(h:Bn s b T n F w):Bn s b T n F w.drew:=h.keep (S:=Aa) (Kr _ _).drew id

theorem Bn.set(f:Bn s b T n F w){i:Nat}(m:i<n)(x:T3):Bn s b T n (λ k=>if k=i then x else F k) (((w.setCell ⟨b,i*3,none⟩ (.int .i64 x.1)).setCell ⟨b,i*3+1,none⟩ (.int .i64 x.2.1)).setCell ⟨b,i*3+2,none⟩ (.int .i64 x.2.2)):=by
 obtain⟨c,g,j,d⟩:=f
 have l:=(Array.getElem?_eq_some_iff.1 (d i m).2.2).1
 obtain⟨p,q,r,a⟩:=set3_at c (i*3) (.int .i64 x.1) (.int .i64 x.2.1) (.int .i64 x.2.2) l
 refine⟨_,block3_set (block3_set (block3_set g _) _) _,by simpa using j,λ k o=>?_⟩
 dsimp only
 by_cases e:k=i
 .subst e
  rw[if_pos rfl]
  exact⟨p,q,r⟩
 .rw [if_neg e,a _ (by omega),a _ (by omega),a _ (by omega)]
  exact d k o

theorem Bn.swap(a:Bn s b T n F w){i j:Nat}(g:i<n)(l:j<n){w2:World}(k:Kp Aa w w2):Bn s b T n (Fv F i j) ((((((w2.setCell ⟨b,i*3,none⟩ (.int .i64 (F j).1)).setCell ⟨b,i*3+1,none⟩ (.int .i64 (F j).2.1)).setCell ⟨b,i*3+2,none⟩ (.int .i64 (F j).2.2)).setCell ⟨b,j*3,none⟩ (.int .i64 (F i).1)).setCell ⟨b,j*3+1,none⟩ (.int .i64 (F i).2.1)).setCell ⟨b,j*3+2,none⟩ (.int .i64 (F i).2.2)):=by
 have c:Bn s b T n F w2:=a.keep k id
 have d:=(c.set g (F j)).set l (F i)
 refine Eq.mp (congrArg (λ f=>Bn s b T n f _) (funext λ k=>?_)) d
 unfold Fv
 by_cases e:k=i
 .by_cases e2:k=j
  .subst e
   subst e2
   simp
  .rw [if_neg e2,if_pos e,if_pos e]
 .by_cases e2:k=j
  .rw [if_pos e2,if_neg e,if_pos e2]
  .rw [if_neg e2,if_neg e,if_neg e,if_neg e2]

theorem Bn.swapE(a:Bn s b T n F w){i j:Nat}(c:i<n)(d:j<n){y x:T3}(f:F i=y)(e:F j=x):Bn s b T n (Fv F i j) ((((((w.setCell ⟨b,i*3,none⟩ (.int .i64 x.1)).setCell ⟨b,i*3+1,none⟩ (.int .i64 x.2.1)).setCell ⟨b,i*3+2,none⟩ (.int .i64 x.2.2)).setCell ⟨b,j*3,none⟩ (.int .i64 y.1)).setCell ⟨b,j*3+1,none⟩ (.int .i64 y.2.1)).setCell ⟨b,j*3+2,none⟩ (.int .i64 y.2.2)).drew:=by
 subst f e
 exact(a.swap c d (Kr Aa _)).drew

theorem Bn.kswap{i j:Nat}{w2:World}(k:Kp (λ x=>x=b) w w2)(u0 u1 u2 v0 a c:Value):Kp (λ x=>x=b) w ((((((w2.setCell ⟨b,i*3,none⟩ u0).setCell ⟨b,i*3+1,none⟩ u1).setCell ⟨b,i*3+2,none⟩ u2).setCell ⟨b,j*3,none⟩ v0).setCell ⟨b,j*3+1,none⟩ a).setCell ⟨b,j*3+2,none⟩ c):=
 (((((k.setCell (λ _=>rfl) _).setCell (λ _=>rfl) _).setCell (λ _=>rfl) _).setCell (λ _=>rfl) _).setCell (λ _=>rfl) _).setCell (λ _=>rfl) _

end

def Cc(s b T n:Nat)(R:(Nat->T3)->Prop)(w w':World):Prop:=
 ∃ G,Bn s b T n G w'/\R G/\Kp (λ k=>k=b) w w'

/-! what a call owns -/

def Bi(L:List T3):List Value:=L.flatMap λ e=>[.int .i64 e.1,.int .i64 e.2.1,.int .i64 e.2.2]

theorem ET:∀ L:List T3,(Bi L).length=L.length*3
 |[]=>rfl
 |x::L=>by
  show(Bi L).length+1+1+1=(L.length+1)*3
  rw[ET L]
  omega

theorem FV:∀ (xs:List T3) (i:Nat) (x:T3),xs[i]?=some x->(Bi xs)[i*3]?=some (.int .i64 x.1)/\(Bi xs)[i*3+1]?=some (.int .i64 x.2.1)/\(Bi xs)[i*3+2]?=some (.int .i64 x.2.2)
 |y::xs,0,x,h=>by
  simp at h
  subst h
  exact⟨rfl,rfl,rfl⟩
 |y::xs,i+1,x,h=>by
  have b:xs[i]?=some x:=by simpa using h
  obtain⟨a,c,d⟩:=FV xs i x b
  have e:Bi (y::xs)=.int .i64 y.1::.int .i64 y.2.1::.int .i64 y.2.2::Bi xs:=rfl
  rw[e,show (i+1)*3=i*3+1+1+1 by omega]
  simp only[List.getElem?_cons_succ]
  exact⟨a,c,d⟩

def atL(L:List T3)(i:Nat):T3:=(L[i]?).getD (0,0,0)

theorem map_atL(L:List T3):(List.range L.length).map (atL L)=L:=by
 refine List.ext_getElem? λ i=>?_
 rw[List.getElem?_map]
 by_cases h:i<L.length
 .rw [List.getElem?_range h]
  show some (atL L i)=_
  unfold atL
  rw[List.getElem?_eq_getElem h]
  rfl
 .rw [List.getElem?_eq_none (by simp;omega),List.getElem?_eq_none (by omega)]
  rfl

theorem Bn.Bc{w:World}{base b T n c:Nat}{L:List T3}(f:w.ownsRow base T 3 (.slice (some ⟨b,0,none⟩) n c) n (Bi L)):L.length=n/\base<=b/\n<=c/\c<=maxLen/\Bn (c*3) b T n (atL L) w:=by
 have u:=f.1
 rw[ET] at u
 have v:L.length=n:=by omega
 rcases f.2 with ⟨e,y⟩|⟨g,cap,d,e,l,m,o,p,q,r⟩
 .injection e with e1
  cases e1
 .injection e with e1 e2 e3
  injection e1 with e1
  injection e1 with e1
  subst e1 e3
  refine⟨v,l,o,p,d,m,q,λ i z=>?_⟩
  obtain⟨x,k⟩:∃ x,L[i]?=some x:=⟨_,List.getElem?_eq_getElem (by omega)⟩
  have s:atL L i=x:=by unfold atL;rw [k];rfl
  obtain⟨x0,x1,x2⟩:=FV L i x k
  have a:∀ j,j<n*3->d[j]?=(Bi L)[j]?:=λ j t=>by
   rw[<- r,List.getElem?_take_of_lt t]
   simp
  rw[s]
  exact⟨by rw[a _ (by omega)];exact x0,by rw[a _ (by omega)];exact x1,by rw[a _ (by omega)];exact x2⟩

theorem Bn.owns{w:World}{base b T n c:Nat}{G:Nat->T3}(l:Bn (c*3) b T n G w)(m:base<=b)(o:n<=c)(p:c<=maxLen):w.ownsRow base T 3 (.slice (some ⟨b,0,none⟩) n c) n (Bi ((List.range n).map G)):=by
 obtain⟨f,g,i,k⟩:=l
 refine⟨by rw[ET];simp,.inr ⟨b,c,f,rfl,m,g,o,p,i,?_⟩⟩
 refine List.ext_getElem? λ j=>?_
 by_cases hj:j<n*3
 .rw [List.getElem?_take_of_lt hj]
  obtain⟨x0,x1,x2⟩:=FV ((List.range n).map G) (j/3) (G (j/3)) (by rw[List.getElem?_map,List.getElem?_range (by omega)];rfl)
  obtain⟨c0,a,d⟩:=k (j/3) (by omega)
  have q:j=j/3*3\/j=j/3*3+1\/j=j/3*3+2:=by omega
  rw[Array.getElem?_toList]
  rcases q with e|e|e
  .rw [e,show j/3*3/3=j/3 by omega] at*
   rw[c0,x0]
  .rw [e,show (j/3*3+1)/3=j/3 by omega] at*
   rw[a,x1]
  .rw [e,show (j/3*3+2)/3=j/3 by omega] at*
   rw[d,x2]
 .rw [List.getElem?_eq_none (by rw[List.length_take];omega),List.getElem?_eq_none (by rw[ET];simp;omega)]

end

section
open Go.RowKit

section

variable {C:T3->T3->Int} {s b T n cap:Nat} {F:Nat->T3} {w:World}

theorem InsK_at(a1:OrdC C)(a3:∀ x y Z,Calls prog 71 #[Ej x,Ej y] Z (RK (.int .i64 (C x y)) Z)){a z:Nat}(H:Bn s b T n F w)(b5:a<=z)(c1:z<=n)(b8:n<1152921504606846976):
  Calls prog 204 #[.slice (some ⟨b,0,none⟩) n cap,a,z,.func (.func 71) #[] #[]] w λ e w'=>(∃ u,e=.returned u)/\Cc s b T n (λ G=>Stab C a z F G/\Al C a z G) w w':=by
 have a7:=sE H
 have D:=sE a1
 have U:=sE a3
 clear H a1 a3
 unfold Ej at U
 go_enter func204,ntmps204
 go_wp2_with fail
 go_loopw [8] (λ P wr=>∃ (i:Nat),P=.int .i64 (i:Nat)/\a<i/\i<=z+1/\Sl (Cc s b T n (λ G=>Stab C a z F G/\Al C a (min i z) G) w wr)) (λ P _=>z+1-(intOf P).toNat)
 case atStart=>exact ⟨a+1,by go_num,by omega,by omega,⟨F,a7.o,⟨.refl,λ i j b1 b2 b3=>by rw[show i=j by omega];exact D.o.refl _⟩,Kr _ _⟩⟩
 case round=>
  obtain⟨i,rfl,b4,b7,X⟩:=hrel
  obtain⟨a0,q,⟨r,t⟩,hK⟩:=X.o
  have f:=sE q
  have m:=sE r
  have l:=sE t
  have p:=sE hK
  clear q r t hK X
  by_cases hlt:i<z
  .have a8:(i:Int)<(z:Int):=by omega
   go_wp2_with fail
   go_loopw [9] (λ Q b0=>∃ (j:Nat),Q=.int .i64 (j:Nat)/\a<=j/\j<=i/\Sl (Cc s b T n (λ G=>Stab C a z F G/\DownC C a i j G) w b0)) (λ Q _=>(intOf Q).toNat)
   case atStart=>exact ⟨i,rfl,by omega,Nat.le_refl _,⟨a0,f.o,⟨m.o,DownC.start (by have:=l.o;rwa [Nat.min_eq_left (by omega)] at this)⟩,p.o⟩⟩
   case round=>
    obtain⟨j,rfl,a2,M,Y⟩:=hrel
    obtain⟨E,q,⟨r,t⟩,hK⟩:=Y.o
    have f:=sE q
    have m:=sE r
    have l:=sE t
    have p:=sE hK
    clear q r t hK Y
    by_cases hja:a<j
    .obtain ⟨j,rfl⟩:∃ k,j=k+1:=⟨j-1,by omega⟩
     obtain⟨v,A,B⟩:=f.o.cells (i:=j+1) (by omega)
     obtain⟨x0,x1,x2⟩:=f.o.cells (i:=j) (by omega)
     obtain⟨y,O⟩:∃ y,E (j+1)=y:=⟨_,rfl⟩
     obtain⟨x,N⟩:∃ x,E j=x:=⟨_,rfl⟩
     rw[O] at v A B
     rw[N] at x0 x1 x2
     have g:=sE (And.intro O N)
     clear O N
     have b9:IntKind.i64.wrap ((j:Int)+1-1)=(j:Int):=by rw[IntKind.wrap_i64];omega
     have c0:IntKind.i64.wrap (j:Int)=(j:Int):=by rw[IntKind.wrap_i64];omega
     have c2:(0:Int)<=(j:Int)+1:=by omega
     have c3:(j:Int)+1<(n:Int):=by omega
     have c4:(0:Int)<=(j:Int):=by omega
     have c5:(j:Int)<(n:Int):=by omega
     have a9:(a:Int)<(j:Int)+1:=by omega
     go_wp2_with fail
     refine wp_region_held_drew (S:=λ w'=>w'.cell? ⟨b,(j+1)*3,none⟩=some (.int .i64 y.1)/\w'.cell? ⟨b,(j+1)*3+1,none⟩=some (.int .i64 y.2.1)/\w'.cell? ⟨b,(j+1)*3+2,none⟩=some (.int .i64 y.2.2)/\w'.cell? ⟨b,j*3,none⟩=some (.int .i64 x.1)/\w'.cell? ⟨b,j*3+1,none⟩=some (.int .i64 x.2.1)/\w'.cell? ⟨b,j*3+2,none⟩=some (.int .i64 x.2.2)) (by kernel_rfl) ?_ (λ a6=>?_)
     .exact ⟨v,A,B,x0,x1,x2⟩
     refine Ap 0 ?_;refine Ap 1 ?_;refine Ap 2 ?_;refine Ap 3 ?_
     try simp only[AB]
     refine Ap 4 ?_;refine Ap 5 ?_;refine Ap 6 ?_;refine Ap 7 ?_;refine Ap 8 ?_
     try simp only[AB]
     refine Ap 9 ?_;refine Ap 10 ?_;refine Ap 11 ?_;refine Ap 12 ?_;refine Ap 13 ?_
     try simp only[AB]
     refine Bp [14] ?_
     refine Ag rfl (λ K hK=>?_)
     go_simp
     refine(U.o y x _).mono ?_
     rintro e R ⟨rfl,a4⟩
     have a5:Kp Aa wr wr.drew:=(Kr _ _).drew
     have d:Kp Aa wr R:=a5.then' a4
     obtain⟨c,J⟩:∃ c,C y x=c:=⟨_,rfl⟩
     rw[J]
     have I:=sE J
     clear J
     refine hK _ _ ?_ (λ a6=>?_)
     .exact ⟨Ae d v,Ae d A,Ae d B,Ae d x0,Ae d x1,Ae d x2⟩
     clear hK K
     try simp only[AB]
     refine Ap 15 ?_;refine Ap 16 ?_
     try simp only[AB]
     refine wpAnyH_done (by kernel_rfl) ?_ _
     have W:Sl (Kp Aa wr R):=⟨d⟩
     have V:Sl (Kp (λ k=>k=b) w R):=⟨p.o.trans d (λ _ _ H=>H.elim)⟩
     replace v:=Ae d v
     replace A:=Ae d A
     replace B:=Ae d B
     replace x0:=Ae d x0
     replace x1:=Ae d x1
     replace x2:=Ae d x2
     have b6:=(f.o.keep d id).warm
     clear d a4 a5 a6
     by_cases hcn:c<0
     .have L:decide (c<0)=true:=dT hcn
      rw[L]
      go_wp2_with fail
      go_region
      all_goals go_wp2
      go_roundw
      case rel=>exact ⟨j,by first|rfl|(congr 1;omega),by omega,by omega,⟨_,(f.o.keep W.o id).swapE (i:=j+1) (j:=j) (by omega) (by omega) g.o.1 g.o.2,⟨by rw[swp3_comm];exact m.o.step (by omega) (by omega) (by rw[g.o.1,g.o.2,I.o];exact hcn),by rw[swp3_comm];exact l.o.step D.o (by omega) M (by rw[g.o.1,g.o.2,I.o];exact hcn)⟩,(Bn.kswap V.o ..).drew⟩⟩
      case measure=>simp [intOf]
     .have L:decide (c<0)=false:=dF hcn
      rw[L]
      go_wp2
      refine⟨⟨i+1,by go_num,by omega,by omega,⟨E,f.o.keep W.o id,⟨m.o,?_⟩,V.o⟩⟩,by simp only[intOf];omega⟩
      rw[Nat.min_eq_left (by omega)]
      exact l.o.stop D.o a2 M (.inr (by rw[Nat.add_sub_cancel,g.o.1,g.o.2,I.o];exact hcn))
    .obtain rfl:a=j:=by omega
     have a9:¬ (a:Int)<(a:Int):=by omega
     go_wp2_with fail
     go_quiet (fail)
     go_wp2
     refine⟨⟨i+1,by go_num,by omega,by omega,⟨E,f.o.keep (S:=Aa) (Kp.Ah _) id,⟨m.o,?_⟩,p.o.drewN _⟩⟩,by simp only[intOf];omega⟩
     rw[Nat.min_eq_left (by omega)]
     exact l.o.stop D.o a2 M (.inl rfl)
  .have a8:¬ (i:Int)<(z:Int):=by omega
   go_wp2
   refine bodyPost_end (results_none rfl _ _ _) rfl ?_
   exact⟨⟨_,rfl⟩,a0,f.o,⟨m.o,by have:=l.o;rwa [Nat.min_eq_right (by omega)] at this⟩,p.o⟩

end

end

section
open Go.RowKit

section

variable {C:T3->T3->Int} {s b T n cap:Nat}

theorem InsK_nil(fn:Value)(w:World):
  Calls prog 204 #[.slice none 0 0,(0:Int),(0:Int),fn] w λ e w'=>(∃ u,e=.returned u)/\Kp Aa w w':=by
 go_enter func204,ntmps204
 go_wp2_with fail
 go_loopw [8] (λ x wr=>x=.int .i64 1/\Kp Aa w wr) (λ _ _=>0)
 case atStart=>exact ⟨rfl,Kr _ _⟩
 case round=>
  obtain⟨rfl,a⟩:=hrel
  go_wp2
  refine bodyPost_end (results_none rfl _ _ _) rfl ?_
  exact⟨⟨_,rfl⟩,a⟩

theorem StableK_nil(fn:Value)(w:World):
  Calls prog 167 #[.slice none 0 0,(0:Int),fn] w λ e w'=>(∃ u,e=.returned u)/\Kp Aa w w':=by
 go_enter func167,ntmps167
 go_wp2_with fail
 go_loopw [7,8] (λ x7 x8 wr=>x7=.int .i64 0/\x8=.int .i64 20/\Kp Aa w wr) (λ _ _ _=>0)
 case atStart=>exact ⟨rfl,rfl,Kr _ _⟩
 case round=>
  obtain⟨rfl,rfl,a⟩:=hrel
  have c:=sE a
  clear a
  go_wp2_with fail
  refine(InsK_nil fn _).mono ?_
  rintro e w2 ⟨⟨u,rfl⟩,b⟩
  have d:=sE (c.o.then' b)
  clear b
  go_wp2_with fail
  go_loopw [6,7,8,9] (λ x6 _ _ _ wr=>x6=.int .i64 20/\Kp Aa w wr) (λ _ _ _ _ _=>0)
  case atStart=>exact ⟨rfl,d.o⟩
  case round=>
   obtain⟨rfl,a⟩:=hrel
   go_wp2
   refine bodyPost_end (results_none rfl _ _ _) rfl ?_
   exact⟨⟨_,rfl⟩,a⟩

theorem StableK_few{F:Nat->T3}{w:World}(i:OrdC C)(j:∀ x y c,Calls prog 71 #[Ej x,Ej y] c (RK (.int .i64 (C x y)) c))(A:n<=19)(d:Bn s b T n F w):
  Calls prog 167 #[.slice (some ⟨b,0,none⟩) n cap,n,.func (.func 71) #[] #[]] w λ e w'=>(∃ u,e=.returned u)/\Cc s b T n (λ G=>Stab C 0 n F G/\Al C 0 n G) w w':=by
 have p:Sl (∀ c,Kp Aa w c->_):=⟨λ c r=>InsK_at (cap:=cap) i j (F:=F) (w:=c) (a:=0) (z:=n) (d.keep r id) (Nat.zero_le _) (Nat.le_refl _) (by omega)⟩
 clear d j i
 have t:¬ (20:Int)<=(n:Int):=by omega
 have v:¬ (20:Int)<(n:Int):=by omega
 go_enter func167,ntmps167
 go_wp2_with fail
 go_loopw [7,8] (λ x7 x8 wr=>x7=.int .i64 0/\x8=.int .i64 20/\Kp Aa w wr) (λ _ _ _=>0)
 case atStart=>exact ⟨rfl,rfl,Kr _ _⟩
 case round=>
  obtain⟨rfl,rfl,k⟩:=hrel
  have f:=sE k
  clear k
  go_wp2_with fail
  refine(p.o _ f.o).mono ?_
  rintro e w2 ⟨⟨u,rfl⟩,G,m,g,l⟩
  have q:Sl (Cc s b T n (λ G=>Stab C 0 n F G/\Al C 0 n G) w w2):=⟨G,m,g,(f.o.Aw _).trans l (λ _ _ d=>d)⟩
  clear m g l
  go_wp2_with fail
  go_loopw [6,7,8,9] (λ x6 _ _ _ wr=>x6=.int .i64 20/\wr=w2) (λ _ _ _ _ _=>0)
  case atStart=>exact ⟨rfl,rfl⟩
  case round=>
   obtain⟨rfl,rfl⟩:=hrel
   go_wp2
   refine bodyPost_end (results_none rfl _ _ _) rfl ?_
   exact⟨⟨_,rfl⟩,q.o⟩

theorem SortK_of{base:Nat}{v:Value}{L:List T3}{w:World}(f:OrdC C)(l:∀ {g cap:Nat},Bn (cap*3) g T L.length (atL L) w->Calls prog 167 #[.slice (some ⟨g,0,none⟩) L.length cap,L.length,.func (.func 71) #[] #[]] w λ e w'=>(∃ u,e=.returned u)/\Cc (cap*3) g T L.length (λ G=>Stab C 0 L.length (atL L) G/\Al C 0 L.length G) w w')(a:w.ownsRow base T 3 v L.length (Bi L)):
  Calls prog 121 #[v,.func (.func 71) #[] #[]] w λ e w'=>(∃ u,e=.returned u)/\w'.ownsRow base T 3 v L.length (Bi (BN C L))/\Kp (λ k=>v.ownBlock=some k) w w':=by
 rcases a.2 with ⟨rfl,q⟩|⟨g,cap,J,rfl,-⟩
 .have H:L=[]:=List.length_eq_zero_iff.1 q
  subst H
  have c:=sE (StableK_nil (.func (.func 71) #[] #[]) w)
  clear a q l f
  go_enter func121,ntmps121
  go_wp2_with fail
  refine c.o.mono ?_
  rintro e w2 ⟨⟨u,rfl⟩,d⟩
  go_wp2
  refine bodyPost_end (results_none rfl _ _ _) rfl ?_
  exact⟨⟨_,rfl⟩,World.ownsRow_nil _ _ _ _,d.Aw _⟩
 .obtain ⟨I,r,s,t,x⟩:=Bn.Bc a
  have c:=sE (l x)
  have b:=sE (And.intro r (And.intro s t))
  have B:=sE f
  obtain⟨n,j⟩:∃ n,L.length=n:=⟨_,rfl⟩
  have m:=sE j
  rw[j] at c b ⊢
  clear a r s t x l f I j
  go_enter func121,ntmps121
  go_wp2_with fail
  refine c.o.mono ?_
  rintro e w2 ⟨⟨u,rfl⟩,G,z,⟨A,y⟩,d⟩
  have E:Sl (w2.ownsRow base T 3 (.slice (some ⟨g,0,none⟩) n cap) n (Bi (BN C L))):=⟨by
   have p:=A.answer B.o y
   rw[<- m.o,map_atL] at p
   rw[<- p,m.o]
   exact z.owns b.o.1 b.o.2.1 b.o.2.2⟩
  have D:Sl (Kp (λ k=>(Value.slice (some ⟨g,0,none⟩) n cap).ownBlock=some k) w w2):=⟨d.mono λ i _ a=>by have F:i=g:=a;subst F;rfl⟩
  clear z A y d
  go_wp2
  refine bodyPost_end (results_none rfl _ _ _) rfl ?_
  exact⟨⟨_,rfl⟩,E.o,D.o⟩

theorem ByK_of{base:Nat}{v:Value}{L:List T3}{w:World}(i:OrdC C)(l:∀ {g cap:Nat},Bn (cap*3) g T L.length (atL L) w->Calls prog 167 #[.slice (some ⟨g,0,none⟩) L.length cap,L.length,.func (.func 71) #[] #[]] w λ e w'=>(∃ u,e=.returned u)/\Cc (cap*3) g T L.length (λ G=>Stab C 0 L.length (atL L) G/\Al C 0 L.length G) w w')(b:w.ownsRow base T 3 v L.length (Bi L)):
  Calls prog 69 #[v,.func (.func 71) #[] #[]] w λ e w'=>e=.returned v/\w'.ownsRow base T 3 v L.length (Bi (BN C L))/\Kp (λ k=>v.ownBlock=some k) w w':=by
 have d:=sE (SortK_of i l b)
 obtain⟨a,c,rfl⟩:=Aq b
 obtain⟨n,j⟩:∃ n,L.length=n:=⟨_,rfl⟩
 rw[j] at d ⊢
 clear b l i j
 go_enter func69,ntmps69
 go_wp2_with fail
 refine d.o.mono ?_
 rintro e w2 ⟨⟨u,rfl⟩,f,m⟩
 have p:=sE (And.intro f m)
 clear f m
 go_wp2
 go_ret
 exact⟨rfl,p.o⟩

theorem ByK_few{base:Nat}{v:Value}{L:List T3}{w:World}(b:OrdC C)(d:∀ x y a,Calls prog 71 #[Ej x,Ej y] a (RK (.int .i64 (C x y)) a))(f:L.length<=19)(c:w.ownsRow base T 3 v L.length (Bi L)):
  Calls prog 69 #[v,.func (.func 71) #[] #[]] w λ e w'=>e=.returned v/\w'.ownsRow base T 3 v L.length (Bi (BN C L))/\Kp (λ k=>v.ownBlock=some k) w w':=
 ByK_of b (λ g=>StableK_few b d f g) c

end

end

end Go.Proofs.YtfkedlgpgmaemaaGreatDoor
