/-
  Lemmas for the laws, together: CenA, CenK, CenL.
-/
import Derived.Test.YtfkedlgpgmaemaaGreatDoorQbh
import Derived.Test.YtfkedlgpgmaemaaGreatDoorQbf
set_option linter.unusedVariables false
set_option maxHeartbeats 16000000
namespace Go.Proofs.YtfkedlgpgmaemaaGreatDoor
open Tryz
section
open Go.RowKit

theorem setL_nextC{f:Nat->Bool}{j:Nat}:∀ {k:Nat},j<=k->(∀ t,j<=t->t<k->f t=false)->Bo f k=Bo f j
 |0,h,_=>by rw[Nat.le_zero.1 h]
 |k+1,h,hf=>by
  by_cases e:j=k+1
  .rw [e]
  .rw [setL_succ,hf k (by omega) (by omega),if_neg (by simp),List.append_nil]
   exact setL_nextC (by omega) λ t a b=>hf t a (by omega)

def leftC(n:Nat)(a b:Value):Nat:=
 match b with
 |.bool true=>n+1-(intOf a).toNat
 |_=>0

def NxtV(fm:Nat->Bool)(H j:Nat)(x y:Value):Prop:=(∃ k,FW fm H j=some k/\x=.int .i64 (k:Nat)/\y=.bool true)\/(FW fm H j=none/\x=.int .i64 0/\y=.bool false)

theorem NxtV.has(fm:Nat->Bool)(H j:Nat):∃ x y:Value,optV (FW fm H j)=.tuple #[x,y]/\NxtV fm H j x y:=by
 unfold NxtV
 cases FW fm H j with
 |none=>exact ⟨_,_,rfl,.inr ⟨rfl,rfl,rfl⟩⟩
 |some k=>exact ⟨_,_,rfl,.inl ⟨k,rfl,rfl,rfl⟩⟩

theorem NxtV.less{fm:Nat->Bool}{H k:Nat}{x y:Value}(c:NxtV fm H (k+1) x y)(f:k<H):leftC H x y<leftC H (.int .i64 k) (.bool true):=by
 rcases c with ⟨g,b,rfl,rfl⟩|⟨b,rfl,rfl⟩
 .rcases nextB_spec fm H (k+1) with ⟨i,a,d,e,-⟩|⟨a,-⟩
  .rw [b] at a
   injection a with a
   subst a
   simp only[leftC,intOf]
   omega
  .rw [b] at a
   cases a
 .simp only[leftC,intOf]
  omega

def AllPost(xs:List Nat)(w:World)(e:Ending)(w':World):Prop:=
 ∃ a c,e=.returned (.slice a xs.length c)/\w'.ownsRow w.heap.size 3 1 (.slice a xs.length c) xs.length (Az xs)/\Kp Aa w w'

set_option maxRecDepth 20000 in
theorem CAll_at(w:World)(b s:Nat)(v:Value)(os:List Cel)(es:List (Nat×Nat×Nat))(mp mq H:Nat)(fm:Nat->Bool)(C:FO w b s v os es mp mq H fm)(c5:H<=65536):
  Calls prog 53 #[.pointer (some b)] w (AllPost (Bo fm H) w):=by
 obtain⟨c7,c8,n,c3,F,D,-,-,-,P⟩:=C
 have A:Sl (∀ p (i:Nat),Kp Aa w p->Calls prog 105 #[.pointer (some mp),.int .i64 (i:Nat)] p (RK (optV (FW fm H i)) p)):=⟨λ p i c1=>by
  have:=Next_at (i:Int) H mp mq fm p (P.keep c1 id id)
  rw[Int.toNat_natCast] at this
  exact this⟩
 have a5:=sE D
 obtain⟨-,-,-,-,B⟩:=Dk D
 clear D P
 go_enter func53,ntmps53
 go_wp2_with fail
 refine(A.o w 0 (Kr _ _)).mono ?_
 rintro e x ⟨rfl,I⟩
 have z:=sE I
 have b8:=I.size
 obtain⟨d0,d2,t,Z⟩:=NxtV.has fm H 0
 rw[t]
 have O:=sE Z
 clear t Z I B
 go_wp2_with fail
 go_loopw [2,3,4] (λ x2 x3 x4 wr=>∃ j:Nat,j<=H/\NxtV fm H j x3 x4/\wr.ownsRow x.heap.size 3 1 x2 (Bo fm j).length (Az (Bo fm j))/\Kp Aa x wr) (λ _ x3 x4 _=>leftC H x3 x4)
 case atStart=>exact ⟨0,Nat.zero_le _,O.o,World.ownsRow_nil _ _ _ _,Kr _ _⟩
 case round=>
  obtain⟨j,b4,t,V,q⟩:=hrel
  have a:=sE V
  have y:=sE q
  have c6:=q.size
  have E:=Fq fm j
  clear V q
  rcases t with ⟨k,l,rfl,rfl⟩|⟨l,rfl,rfl⟩
  .rcases nextB_spec fm H j with ⟨c0,c,b5,b6,R,U⟩|⟨c,-⟩
   .rw [l] at c
    injection c with c
    subst c
    have m:Sl (Bo fm (k+1)=Bo fm j++[k]):=⟨by rw[setL_succ,if_pos R,setL_nextC b5 U]⟩
    obtain⟨Q,g⟩:∃ Q,Bo fm j=Q:=⟨_,rfl⟩
    obtain⟨f,d⟩:∃ f,Q.length=f:=⟨_,rfl⟩
    rw[g] at m a E
    rw[d] at a E
    have r:=sE d
    obtain⟨K,L,rfl⟩:=Aq a.o
    have u1:IntKind.i64.wrap ((k:Int)+1)=((k+1:Nat):Int):=by rw[IntKind.wrap_i64];omega
    clear l U R g d
    go_wp2_with (at_builtin;obtain ⟨b9,T,a0,a1,a2⟩:=info_parts Be;go_loud (refine wpList_append_lies _ rfl (.tmp 24) (.tmp 26) 24 rfl x.heap.size 3 b9 _ 1 8 Ar T a0 a1 a2 rfl (by omega) (.slice K f L) f (Az Q) rfl (a.o.alloc _) ⟨wr.heap.size,0,none⟩ 1 1 [.int .i64 (k:Nat)] rfl rfl (World.news_of_block (wN wr _)) (by intro u X;simp at X;subst X;rfl) (by omega) (by unfold maxLen;omega) (by omega) (by first|(simp;done)|(simp;omega)) (wr.heap.size+1) (by simp) ?_);intro c4 c2 a4 W S b3 b7;clear T a0 a1 a2;have M:=sE S;have a9:=sE W;clear W S b3 b7;obtain ⟨-,-,-,-,B⟩:=Dk ((z.o.then' ((y.o.alloc _).grown M.o (λ k e q=>by have:=(Ad a.o e).1;omega))).at_ a5.o id))
    have a3:Kp Aa x a4:=(y.o.alloc _).grown M.o (λ k e q=>by have:=(Ad a.o e).1;omega)
    have N:=sE a3
    clear a3 B
    refine(A.o a4 (k+1) (z.o.then' N.o)).mono ?_
    rintro e c9 ⟨rfl,J⟩
    have a6:=sE (N.o.then' J)
    have b0:=sE (Af a9.o J (λ _ _ C=>C))
    clear J
    obtain⟨d1,d3,Y,G⟩:=NxtV.has fm H (k+1)
    rw[Y]
    have b1:=sE G
    have a7:=sE (G.less b6)
    clear Y G
    go_wp2_with fail
    refine⟨⟨k+1,by omega,b1.o,?_,a6.o⟩,a7.o⟩
    rw[m.o,Az,List.map_append,List.length_append,r.o]
    exact b0.o
   .rw [l] at c
    cases c
  .have m:Sl (Bo fm H=Bo fm j):=⟨by
    rcases nextB_spec fm H j with ⟨c0,c,-⟩|⟨-,b2⟩
    .rw [l] at c
     cases c
    .exact setL_nextC b4 b2⟩
   rw[<- m.o] at a
   obtain⟨Q,g⟩:∃ Q,Bo fm H=Q:=⟨_,rfl⟩
   rw[g] at a
   have a8:=sE g
   obtain⟨f,d⟩:∃ f,Q.length=f:=⟨_,rfl⟩
   rw[d] at a
   have r:=sE d
   obtain⟨K,L,rfl⟩:=Aq a.o
   clear l m g d O A E
   go_wp2
   go_ret
   rw[a8.o]
   refine⟨K,L,by rw[r.o];rfl,?_,z.o.then' y.o⟩
   rw[r.o]
   exact BZ a.o b8

end

section
open Go.RowKit

def KBox(w:World)(bg bl bp bv g lp pb:Nat):Prop:=
 w.heap[bg]?=some (.cells #[g] 3 (0,0))/\w.heap[bl]?=some (.cells #[.pointer (some lp)] 120 (0,0))/\w.heap[bp]?=some (.cells #[.pointer (some pb)] 114 (0,0))/\
  w.heap[bv]?=some (.cells #[.func (.func 107) #[] #[.pointer (some bg),.pointer (some bl),.pointer (some bp),.pointer (some bv)]] 193 (0,0))

theorem KBox.keep{w w':World}{b c d e g f i:Nat}(a:KBox w b c d e g f i){S:Nat->Prop}(k:Kp S w w')(j:¬ S b)(l:¬ S c)(m:¬ S d)(n:¬ S e):KBox w' b c d e g f i:=
 ⟨k.at_ a.1 j,k.at_ a.2.1 l,k.at_ a.2.2.1 m,k.at_ a.2.2.2 n⟩

structure OutAt(wk:World)(pb mo:Nat)(co:Nat->Option Value)(es:List (Nat×Nat×Nat)):Prop where
 mp:∀ W' (k:Nat),Kp Aa wk W'->k<65536->(Instr.lookup 119 (.map (some mo)) (.int .i64 (k:Nat)) false).run prog W'=.ok ((co k).getD (.slice none 0 0)) W'
 row:∀ k,AO wk ((co k).getD (.slice none 0 0)) (Fy es k)
 cel:∀ W',Kp Aa wk W'->W'.cell? ⟨pb,3,none⟩=some (.map (some mo))

theorem FO.o{w:World}{b s:Nat}{v:Value}{os:List Cel}{es:List (Nat×Nat×Nat)}{mp mq H:Nat}{fm:Nat->Bool}(f:FO w b s v os es mp mq H fm):∃ d a,OutAt w b d a es:=by
 obtain⟨r,d,n,a,F,g,l,m,⟨i,j⟩,p⟩:=f
 exact⟨d,a,λ e k c q=>(i.keep c id).look (by omega) Ei (zeroInts _),j,λ e c=>(Dk (c.at_ g id)).2.2.2.1⟩

theorem cntF_mono{f a:Nat->Bool}(c:∀ x,f x=true->a x=true)(H:Nat):cntF a H<=cntF f H:=by
 unfold cntF
 refine List.countP_mono_left λ x _ b=>?_
 cases e:f x with
 |false=>rfl
 |true=>rw [c x e] at b;cases b

theorem mem_outN{es:List (Nat×Nat×Nat)}{x y:Nat}:y∈Fy es x ↔ ∃ e∈es,e.1=x/\e.2.2=y:=by
 unfold Fy outE
 simp only[List.mem_map,List.mem_filter]
 constructor
 .rintro ⟨e,⟨a,b⟩,c⟩
  exact⟨e,a,by simpa using b,c⟩
 .rintro ⟨e,a,b,c⟩
  exact⟨e,⟨a,by simpa using b⟩,c⟩

theorem visit_more{es:List (Nat×Nat×Nat)}{a:Nat->Prop}{g y:Nat}{f b c:Nat->Bool}(d:Visit es g a f b)(k:Visit es g (λ z=>z=y) b c)(e:a y):Visit es g a f c:=by
 have j:Visit es g a b c:=⟨k.up,λ z i=>(k.new z i).imp_right λ⟨r,hr,q⟩=>⟨y,e,by obtain rfl:=hr;exact q⟩,k.cl⟩
 exact d.trans j (λ _ d=>d)

def VisitPost(es:List (Nat×Nat×Nat))(g lp lq H x:Nat)(f:Nat->Bool)(w:World)(e:Ending)(w':World):Prop:=
 ∃ v f',e=.returned v/\AL w' lp lq f' H/\Visit es g (λ y=>y=x) f f'/\(x=g\/f' x=true)/\Kp (λ b=>b=lq) w w'

set_option maxRecDepth 20000 in
theorem Kept1_at(s:World)(c6 f4:Nat)(a4:Nat->Option Value)(es:List (Nat×Nat×Nat))(O:OutAt s c6 f4 a4 es)(g I J K L d a H:Nat)(e9:H<=65536)(e8:∀ e∈es,e.2.2<H)(f9:es.length<=2147483648)(g5:s.heap.size<=a)(c2:¬ I=a)(c3:¬ J=a)(c4:¬ K=a)(c5:¬ L=a):
  ∀ (n x:Nat) (f:Nat->Bool) (w:World),Kp Aa s w->KBox w I J K L g d c6->AL w d a f H->cntF f H<=n->x<H->
  Calls prog 107 #[x,.pointer (some I),.pointer (some J),.pointer (some K),.pointer (some L)] w (VisitPost es g d a H x f w):=by
 intro n
 induction n using Nat.strongRecOn with
 |ind n ih=>
 intro x f w b7 b2 b0 g2 T
 have d6:=sE ih
 have Y:=sE b7
 have V:=sE b2
 have A:=sE b0
 obtain⟨F,a8,e6,e7⟩:=b2
 have e3:=cell_of_one F
 have M:=cell_of_one a8
 clear ih b7 b0 F a8 e6 e7
 by_cases hxg:x=g
 .subst hxg
  have g4:((x:Int)==(x:Int))=true:=by simp
  go_enter func107,ntmps107
  go_wp2
  refine bodyPost_ret (results_none rfl _ _ _) rfl ?_
  exact⟨_,f,rfl,A.o,Visit.refl _ _ _ _,.inl rfl,Kr _ _⟩
 have g6:((x:Int)==(g:Int))=false:=by rw[beq_eq_false_iff_ne];omega
 have B:=sE (Has_in x H d a f w A.o T)
 cases hfx:f x with
 |true=>
  rw[hfx] at B
  go_enter func107,ntmps107
  go_wp2_with fail
  refine B.o.mono ?_
  rintro e w1 ⟨rfl,m⟩
  go_wp2
  refine bodyPost_ret (results_none rfl _ _ _) rfl ?_
  exact⟨_,f,rfl,A.o.keep m id id,Visit.refl _ _ _ _,.inr hfx,m.Aw _⟩
 |false=>
  rw[hfx] at B
  have g3:=cntF_upd hfx T
  have e1:Sl (∀ c,AL c d a f H->Calls prog 108 #[.pointer (some d),x] c λ e w'=>e=.returned (.int .i64 (errV (Bz H (x:Nat) 1)))/\Kp (λ b=>b=a) c w'/\AL w' d a (updB f x) H):=⟨λ c q=>by
   have:=Set_int (x:Nat) H d a f c q
   rwa [setF_upd T e9] at this⟩
  obtain⟨g9,R⟩:∃ v,(a4 x).getD (.slice none 0 0)=v:=⟨_,rfl⟩
  have a0:=O.row x
  rw[R] at a0
  obtain⟨ra,rc,G,b3⟩:=a0
  obtain⟨j,N⟩:∃ j,(Fy es x).length=j:=⟨_,rfl⟩
  have g0:j<=2147483648:=by
   have:(Fy es x).length<=es.length:=by
    unfold Fy outE
    rw[List.length_map]
    exact List.length_filter_le _ _
   omega
  rw[N] at G
  subst G
  have Z:=sE N
  have d3:=sE b3
  have e0:Sl (∀ c,Kp Aa s c->_):=⟨λ c f3=>by
   have:=O.mp c x f3 (by omega)
   rwa [R] at this⟩
  have f5:=sE hfx
  clear R N b3 hfx
  go_enter func107,ntmps107
  go_wp2_with fail
  refine B.o.mono ?_
  rintro e w1 ⟨rfl,m⟩
  have M:=Ae m M
  have c9:=sE (A.o.keep m id id)
  have d7:=sE m
  clear m e3
  go_wp2_with fail
  refine(e1.o w1 c9.o).mono ?_
  rintro e w2 ⟨rfl,c0,a2⟩
  have D:Kp (λ b=>b=a) w w2:=(d7.o.Aw _).trans c0 (λ _ _ k=>k)
  have E:Kp Aa s w2:=Y.o.trans D (λ i b6 k=>by have e5:i=a:=k;omega)
  have d2:=sE (V.o.keep D c2 c3 c4 c5)
  have a3:=cell_of_one d2.o.2.2.1
  have a5:=O.cel w2 E
  have b8:=e0.o w2 E
  have f6:=sE E
  have d8:=sE D
  have d0:=sE a2
  clear M c0 a2 D E
  go_wp2_with fail
  go_loopw [26] (λ x26 wr=>∃ (i:Nat) (p:Nat->Bool),x26=.int .i64 (i:Nat)/\i<=j/\AL wr d a p H/\Visit es g (λ y=>∃ e∈es,e.1=x/\e.2.2=y) (updB f x) p/\(∀ y∈(Fy es x).take i,y=g\/p y=true)/\Kp (λ b=>b=a) w wr) (λ x26 _=>j-(intOf x26).toNat)
  case atStart=>exact ⟨0,_,rfl,Nat.zero_le _,d0.o,Visit.refl _ _ _ _,λ y r=>by simp at r,d8.o⟩
  case round=>
   obtain⟨i,p,rfl,b6,q,S,P,u⟩:=hrel
   have c8:=sE q
   have C:=sE S
   have U:=sE P
   have X:=sE u
   have t:Kp Aa s wr:=Y.o.trans u (λ i b6 k=>by have e5:i=a:=k;omega)
   have f7:=sE t
   have W:=sE (V.o.keep u c2 c3 c4 c5)
   by_cases hil:i<j
   .have f1:(i:Int)<(j:Int):=by omega
    obtain⟨y,r⟩:∃ y,(Fy es x)[i]?=some y:=⟨(Fy es x)[i]'(by rw[Z.o];exact hil),by simp⟩
    obtain⟨g7,g8,G,a6⟩:=d3.o i y r
    subst G
    have a6:=Ae t a6
    have f8:=cell_of_one W.o.2.2.2
    obtain⟨a7,Q,b4,b5⟩:=mem_outN.1 (List.mem_of_getElem? r)
    have f2:y<H:=by have:=e8 a7 Q;omega
    have g1:=cntF_mono C.o.up H
    have d4:=sE (d6.o (n-1) (by omega) y p wr t W.o q (by omega) f2)
    have e2:=sE r
    have d5:Sl (∃ e∈es,e.1=x/\e.2.2=y):=⟨⟨a7,Q,b4,b5⟩⟩
    clear q S P u t r Q b4 b5 a5 a3 b8
    go_wp2_with fail
    refine d4.o.mono ?_
    rintro e i1 ⟨i0,e4,rfl,b1,b9,a9,c1⟩
    have d1:=sE b1
    have a1:=sE b9
    have c7:=sE a9
    have d9:=sE c1
    clear b1 b9 a9 c1
    go_wp2
    refine⟨⟨i+1,e4,by go_num,by omega,d1.o,visit_more C.o a1.o d5.o,λ z l=>?_,X.o.trans d9.o (λ _ _ k=>k)⟩,by simp only[intOf];omega⟩
    rw[List.take_add_one,e2.o,List.mem_append] at l
    rcases l with l|l
    .exact (U.o z l).imp_right (a1.o.up z)
    .simp at l
     subst l
     exact c7.o
   .obtain rfl:i=j:=by omega
    have f1:¬ (i:Int)<(i:Int):=by omega
    clear q S P u t a5 a3 b8
    go_wp2
    refine bodyPost_ret (results_none rfl _ _ _) rfl ?_
    refine⟨_,p,rfl,c8.o,Visit.node hxg C.o (λ e f0 F=>?_),.inr (C.o.up x (updB_true.2 (.inl rfl))),X.o⟩
    have:=U.o e.2.2 (by rw[List.take_of_length_le (by rw[Z.o];omega)];exact mem_outN.2 ⟨e,f0,F,rfl⟩)
    exact this

end

section
open Go.RowKit

noncomputable def keptL (es:List (Nat×Nat×Nat)) (xs l:List Nat) (g:Nat):List Nat:=l.filter λ x=>@decide (¬ BJ es xs g x) (Classical.propDecidable _)

theorem mem_keptL{es:List (Nat×Nat×Nat)}{xs l:List Nat}{g x:Nat}:x∈keptL es xs l g ↔ x∈l/\¬ BJ es xs g x:=by
 unfold keptL
 rw[List.mem_filter]
 constructor
 .rintro ⟨a,b⟩
  exact⟨a,@of_decide_eq_true _ (Classical.propDecidable _) b⟩
 .rintro ⟨a,b⟩
  exact⟨a,@dT _ (Classical.propDecidable _) b⟩

theorem keptL_eq{es:List (Nat×Nat×Nat)}{xs l:List Nat}{g:Nat}{f:Nat->Bool}(h:∀ x,f x=true ↔ BJ es xs g x):keptL es xs l g=l.filter λ x=> !f x:=by
 unfold keptL
 refine List.filter_congr λ x _=>?_
 cases e:f x with
 |true=>simpa using (h x).1 e
 |false=>
  have:¬ BJ es xs g x:=λ q=>by rw[(h x).2 q] at e;cases e
  simpa using this

theorem filter_step{l:List Nat}{p:Nat->Bool}{i y:Nat}(h:l[i]?=some y):(l.take (i+1)).filter p=(l.take i).filter p++if p y=true then [y] else []:=by
 rw[List.take_add_one,h,List.filter_append]
 congr 1
 cases e:p y <;> simp[e]

set_option maxRecDepth 20000 in
theorem CKept_at(w:World)(b s:Nat)(v:Value)(os:List Cel)(es:List (Nat×Nat×Nat))(mp mq H:Nat)(fm:Nat->Bool)(xs:List Nat)(a:FO w b s v os es mp mq H fm)(a4:H<=65536)(k7:∀ e∈es,e.2.2<H)(k8:es.length<=2147483648)(g8:AO w v xs)(m4:∀ x∈xs,x<H)(m3:xs.length<=65536)(g:Nat)(o4:g<65536)
  (f7:∀ C,Kp Aa w C->Calls prog 89 #[.pointer (some s)] C λ e n4=>e=.returned (.int .i64 (H:Nat))/\n4=C):
  Calls prog 54 #[.pointer (some ⟨b,0,none⟩),g] w (AllPost (keptL es xs (Bo fm H) g) w):=by
 obtain⟨q1,q2,rfl,g2⟩:=id g8
 obtain⟨m9,k5,f8⟩:=a.o
 have j9:=sE f8
 have d3:Sl (∀ C,Kp Aa w C->_):=⟨λ C m8=>CAll_at C b s _ os es mp mq H fm (a.Ac m8) a4⟩
 have k3:=sE g2
 have d9:Sl (∀ C,Kp Aa w C->_):=⟨f7⟩
 have e7:Sl (∀ C,_):=⟨λ C=>New_yes H C a4⟩
 have d7:Sl (∀ c W w1 w2,Kp Aa w w1->Kp Aa w1 w2->∀ t X q d,w1.heap.size<=d->¬ W=d->¬ t=d->¬ c=d->¬ X=d->∀ (x:Nat) (f:Nat->Bool),KBox w2 W t c X g q b->AL w2 q d f H->x<H->Calls prog 107 #[.int .i64 (x:Nat),.pointer (some ⟨W,0,none⟩),.pointer (some ⟨t,0,none⟩),.pointer (some ⟨c,0,none⟩),.pointer (some ⟨X,0,none⟩)] w2 (VisitPost es g q d H x f w2)):=⟨λ c W w1 w2 i1 Z t X q d l6 n0 n1 n2 n3 x f l1 l3 m2=>Kept1_at w b m9 k5 es j9.o g W t c X q d H a4 k7 k8 (Nat.le_trans i1.size l6) n0 n1 n2 n3 _ x f w2 (i1.then' Z) l1 l3 (Nat.le_refl _) m2⟩
 obtain⟨p4,p5,n,o1,F,g3,-⟩:=a
 have b4:=sE g3
 obtain⟨L,c2⟩:∃ L,xs.length=L:=⟨_,rfl⟩
 rw[c2] at b4 m3
 have e5:=sE c2
 clear f8 g2 f7 g3 c2 g8
 go_enter func54,ntmps54
 obtain⟨w2,K⟩:∃ w2,w2=(w.alloc (.cells #[.pointer (some ⟨b,0,none⟩)] 114)).alloc (.cells #[g] 3):=⟨_,rfl⟩
 have Z:Kp Aa w w2:=by rw[K];exact ((Kr _ w).alloc _).alloc _
 obtain⟨f3,-⟩:=Dk (Z.at_ b4.o (λ a=>a))
 rw[K] at f3
 go_wp2_with fail
 try rw[<- K]
 obtain⟨c,a7⟩:∃ m,w.heap.size=m:=⟨_,rfl⟩
 have d0:w2.heap.size=c+2:=by rw[K,<- a7];simp
 have f6:w2.heap[c]?=some (.cells #[.pointer (some ⟨b,0,none⟩)] 114 (0,0))/\w2.heap[c+1]?=some (.cells #[g] 3 (0,0)):=by
  rw[K,<- a7]
  exact⟨((Kr Aa (w.alloc (.cells #[.pointer (some ⟨b,0,none⟩)] 114))).alloc _).at_ (wN w _) (λ a=>a),by have:=wN (w.alloc (.cells #[.pointer (some ⟨b,0,none⟩)] 114)) (.cells #[g] 3);rwa [show (w.alloc (.cells #[.pointer (some ⟨b,0,none⟩)] 114)).heap.size=w.heap.size+1 by simp] at this⟩
 try rw[a7]
 have d5:=sE f6
 have S:=sE Z
 clear K f6 Z f3
 refine(d9.o w2 S.o).mono ?_
 rintro e b2 ⟨rfl,rfl⟩
 go_wp2_with fail
 refine(e7.o b2).mono ?_
 rintro e B ⟨q,d,rfl,o6,l7,a6,i3⟩
 have o7:=a6.lt_p'
 have o8:=a6.lt_q'
 have i7:=sE a6
 have j6:=sE i3
 clear a6 i3
 obtain⟨t,c6⟩:∃ m,B.heap.size=m:=⟨_,rfl⟩
 obtain⟨D,N⟩:∃ D,D=(B.alloc (.cells #[.pointer (some ⟨q,0,none⟩)] 120)).alloc (.cells #[.func (.func 107) #[] #[.pointer (some ⟨c+1,0,none⟩),.pointer (some B.heap.size),.pointer (some ⟨c,0,none⟩),.pointer (some ⟨B.heap.size+1,0,none⟩)]] 193):=⟨_,rfl⟩
 have d1:Kp Aa B D:=by rw[N];exact ((Kr _ B).alloc _).alloc _
 have c1:D.heap[t]?=some (.cells #[.pointer (some ⟨q,0,none⟩)] 120 (0,0))/\D.heap[t+1]?=some (.cells #[.func (.func 107) #[] #[.pointer (some ⟨c+1,0,none⟩),.pointer (some ⟨t,0,none⟩),.pointer (some ⟨c,0,none⟩),.pointer (some ⟨t+1,0,none⟩)]] 193 (0,0)):=by
  rw[N,<- c6]
  exact⟨((Kr Aa (B.alloc (.cells #[.pointer (some ⟨q,0,none⟩)] 120))).alloc _).at_ (wN B _) (λ a=>a),by have:=wN (B.alloc (.cells #[.pointer (some ⟨q,0,none⟩)] 120)) (.cells #[.func (.func 107) #[] #[.pointer (some ⟨c+1,0,none⟩),.pointer (some B.heap.size),.pointer (some ⟨c,0,none⟩),.pointer (some ⟨B.heap.size+1,0,none⟩)]] 193);rwa [show (B.alloc (.cells #[.pointer (some ⟨q,0,none⟩)] 120)).heap.size=B.heap.size+1 by simp] at this⟩
 have V:Kp Aa b2 D:=j6.o.then' d1
 have e1:Sl (KBox D (c+1) t c (t+1) g q b):=⟨⟨V.at_ d5.o.2 (λ a=>a),c1.1,V.at_ d5.o.1 (λ a=>a),c1.2⟩⟩
 have f1:=cell_of_one e1.o.2.2.1
 have c0:Kp Aa w D:=S.o.then' V
 obtain⟨-,f4,-⟩:=Dk (c0.at_ b4.o (λ a=>a))
 have i8:Sl (AL D q d (λ _=>false) H):=⟨i7.o.keep d1 (λ a=>a) (λ a=>a)⟩
 have n6:=sE c0
 have j5:=sE V
 clear c1 d1 c0 V
 rw[c6] at N
 rw[N] at f1 f4
 have p0:=S.o.size
 have o9:w.heap.size=c:=a7
 go_wp2_with fail
 try rw[<- N]
 try rw[c6]
 clear N f1 f4
 go_loopw [27] (λ x27 wr=>∃ (i:Nat) (l:Nat->Bool),x27=.int .i64 (i:Nat)/\i<=L/\AL wr q d l H/\Visit es g (λ y=>y∈xs) (λ _=>false) l/\(∀ y∈xs.take i,y=g\/l y=true)/\Kp (λ b=>b=d) D wr) (λ x27 _=>L-(intOf x27).toNat)
 case atStart=>exact ⟨0,_,rfl,Nat.zero_le _,i8.o,Visit.refl _ _ _ _,λ y A=>by simp at A,Kr _ _⟩
 case round=>
  obtain⟨i,l,rfl,a8,a5,c8,c5,Y⟩:=hrel
  have d4:=sE a5
  have b9:=sE c8
  have b3:=sE c5
  have e2:=sE Y
  have a2:Kp Aa b2 wr:=j5.o.trans Y (λ i a8 a=>by have a3:i=d:=a;omega)
  have T:=sE (S.o.then' a2)
  have P:=sE (e1.o.keep Y (λ a=>by have a3:c+1=d:=a;omega) (λ a=>by have a3:t=d:=a;omega) (λ a=>by have a3:c=d:=a;omega) (λ a=>by have a3:t+1=d:=a;omega))
  by_cases hil:i<L
  .have l4:(i:Int)<(L:Int):=by omega
   obtain⟨y,A⟩:∃ y,xs[i]?=some y:=⟨xs[i]'(by rw[e5.o];exact hil),by simp⟩
   obtain⟨p8,p9,m0,f2⟩:=k3.o i y A
   subst m0
   have f2:=Ae T.o f2
   have n8:=cell_of_one P.o.2.2.2
   have c9:=m4 y (List.mem_of_getElem? A)
   have j1:=sE (d7.o c (c+1) b2 wr S.o a2 t (t+1) q d l7 (by omega) (by omega) (by omega) (by omega) y l P.o a5 c9)
   have f0:=sE A
   clear a5 c8 c5 Y a2 A
   go_wp2_with fail
   refine j1.o.mono ?_
   rintro e q3 ⟨q0,k6,rfl,g1,g7,g0,i2⟩
   have i6:=sE g1
   have e9:=sE g7
   have i5:=sE g0
   have j4:=sE i2
   clear g1 g7 g0 i2
   go_wp2
   refine⟨⟨i+1,k6,by go_num,by omega,i6.o,visit_more b9.o e9.o (List.mem_of_getElem? f0.o),λ z G=>?_,e2.o.trans j4.o (λ _ _ a=>a)⟩,by simp only[intOf];omega⟩
   rw[List.take_add_one,f0.o,List.mem_append] at G
   rcases G with G|G
   .exact (b3.o z G).imp_right (e9.o.up z)
   .simp at G
    subst G
    exact i5.o
  .obtain rfl:i=L:=by omega
   have l4:¬ (i:Int)<(i:Int):=by omega
   have d8:Sl (∀ x,l x=true ↔ BJ es xs g x):=⟨b9.o.all (λ r l9=>b3.o r (by rw[List.take_of_length_le (by rw[e5.o];omega)];exact l9))⟩
   have k4:=cell_of_one P.o.2.2.1
   have p1:=T.o.size
   clear a5 c8 c5 Y a2
   go_wp2_with fail
   refine(d3.o wr T.o).mono ?_
   rintro e O ⟨p6,p7,rfl,a9,a0⟩
   have e3:Sl (keptL es xs (Bo fm H) g=(Bo fm H).filter λ x=> !l x):=⟨keptL_eq d8.o⟩
   have f9:(Bo fm H).length<=65536:=Nat.le_trans (Fq fm H) a4
   have b6:Sl (∀ y∈Bo fm H,y<H):=⟨λ y A=>setL_lt y A⟩
   obtain⟨Q,c4⟩:∃ Q,Bo fm H=Q:=⟨_,rfl⟩
   rw[c4] at a9 f9 b6 ⊢
   have j8:Sl (keptL es xs (Bo fm H) g=Q.filter λ x=> !l x):=⟨by rw[<- c4];exact e3.o⟩
   obtain⟨M,c3⟩:∃ M,Q.length=M:=⟨_,rfl⟩
   rw[c3] at a9 f9 ⊢
   have e6:=sE c3
   have k0:=sE a9
   have j7:Sl (Kp Aa w O):=⟨T.o.then' a0⟩
   have j0:=sE (P.o.keep a0 (λ a=>a) (λ a=>a) (λ a=>a) (λ a=>a))
   have i9:Sl (AL O q d l H):=⟨d4.o.keep a0 (λ a=>a) (λ a=>a)⟩
   have p2:=a0.size
   obtain⟨I,f5⟩:∃ I,O.heap.size=I:=⟨_,rfl⟩
   have d6:Sl (O.heap.size=I):=⟨f5⟩
   have m1:w.heap.size<=I:=by omega
   clear a9 a0 c3 c4 f5 k4 e3 d8 d3 d7 e7 d9 d4 b9 b3 e2 P T
   go_wp2_with fail
   go_loopw [4,38] (λ x4 x38 wr=>∃ (j:Nat),x38=.int .i64 j/\j<=M/\wr.ownsRow I 3 1 x4 ((Q.take j).filter λ x=> !l x).length (Az ((Q.take j).filter λ x=> !l x))/\Kp Aa O wr) (λ _ x38 _=>M-(intOf x38).toNat)
   case atStart=>exact ⟨0,rfl,Nat.zero_le _,World.ownsRow_nil _ _ _ _,Kr _ _⟩
   case round=>
    obtain⟨j,rfl,o5,c7,E⟩:=hrel
    have U:=sE c7
    have e4:=sE E
    have m5:=E.size
    rw[d6.o] at m5
    obtain⟨R,J⟩:∃ R,(Q.take j).filter (λ x=> !l x)=R:=⟨_,rfl⟩
    have k9:R.length<=M:=by
     rw[<- J]
     exact Nat.le_trans (List.length_filter_le _ _) (by rw[List.length_take];omega)
    have o3:∀ y∈R,y<H:=λ y A=>by
     rw[<- J] at A
     exact b6.o y (List.mem_of_mem_take (List.mem_filter.1 A).1)
    rw[J] at U
    obtain⟨i4,b0⟩:∃ n,R.length=n:=⟨_,rfl⟩
    rw[b0] at U k9
    have a1:=sE b0
    have b7:=sE J
    obtain⟨ra,rc,rfl⟩:=Aq U.o
    by_cases hjl:j<M
    .have l5:(j:Int)<(M:Int):=by omega
     obtain⟨y,A⟩:∃ y,Q[j]?=some y:=⟨_,List.getElem?_eq_getElem (by rw[e6.o];exact hjl)⟩
     obtain⟨n7,l2,x0⟩:=Cu (Af k0.o E (λ _ _ a=>a)) A
     subst l2
     have c9:=b6.o y (List.mem_of_getElem? A)
     have o0:=cell_of_one (E.at_ j0.o.2.1 (λ a=>a))
     have j3:=sE (Has_in y H q d l wr (i9.o.keep E (λ a=>a) (λ a=>a)) c9)
     have e8:=sE (filter_step (p:=λ x=> !l x) A)
     clear c7 E b0 J A
     go_wp2_with fail
     refine j3.o.mono ?_
     rintro e d2 ⟨rfl,b1⟩
     have e0:=sE (e4.o.then' b1)
     have b5:=sE (Af U.o b1 (λ _ _ a=>a))
     have p3:=b1.size
     clear b1
     cases hfy:l y with
     |true=>
      have b8:Sl ((Q.take (j+1)).filter (λ x=> !l x)=R):=⟨by rw[e8.o,hfy,b7.o];simp⟩
      clear hfy
      go_wp2
      refine⟨⟨j+1,by go_num,by omega,?_,e0.o⟩,by simp only[intOf];omega⟩
      rw[b8.o,a1.o]
      exact b5.o
     |false=>
      have b8:Sl ((Q.take (j+1)).filter (λ x=> !l x)=R++[y]):=⟨by rw[e8.o,hfy,b7.o];simp⟩
      clear hfy
      go_wp2_with (at_builtin;obtain ⟨m6,a8,g9,i0,d0⟩:=info_parts Be;go_loud (refine wpList_append_lies _ rfl (.tmp 46) (.tmp 48) 24 rfl I 3 m6 _ 1 8 Ar a8 g9 i0 d0 rfl (by omega) (.slice ra i4 rc) i4 (Az R) rfl (b5.o.alloc _) ⟨d2.heap.size,0,none⟩ 1 1 [.int .i64 (y:Nat)] rfl rfl (World.news_of_block (wN d2 _)) (by intro u g6;simp at g6;subst g6;rfl) (by omega) (by unfold maxLen;omega) (by omega) (by first|(simp;done)|(simp;omega)) (d2.heap.size+1) (by simp) ?_);intro o2 n9 n5 g5 g4 l0 l8;clear a8 g9 i0 d0;have j2:=sE g4;have k1:=sE g5;clear g5 g4 l0 l8)
      have m7:Kp Aa O n5:=(e0.o.alloc _).grown j2.o (λ k e E=>by have:=(Ad b5.o e).1;have:=d6.o;omega)
      refine⟨⟨j+1,by go_num,by omega,?_,m7⟩,by simp only[intOf];omega⟩
      rw[b8.o,Az,List.map_append,List.length_append,a1.o]
      exact k1.o
    .obtain rfl:j=M:=by omega
     have l5:¬ (j:Int)<(j:Int):=by omega
     have k2:Sl (Q.filter (λ x=> !l x)=R):=⟨by rw[<- b7.o,List.take_of_length_le (by rw[e6.o];omega)]⟩
     clear c7 E b0 J
     go_wp2
     go_ret
     rw[j8.o,k2.o]
     refine⟨ra,rc,by rw[a1.o];rfl,?_,j7.o.then' e4.o⟩
     rw[a1.o]
     exact BZ U.o m1

end

end Go.Proofs.YtfkedlgpgmaemaaGreatDoor
