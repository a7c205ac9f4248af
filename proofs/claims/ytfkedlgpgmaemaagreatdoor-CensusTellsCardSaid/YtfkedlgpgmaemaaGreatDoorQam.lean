/-
  Lemmas for the laws, together: RowsA.
-/
import Derived.Test.YtfkedlgpgmaemaaGreatDoorQal
import Derived.Deep.AppendLies
import Derived.BigQuiet
import Derived.Laws.StructEq
import Derived.Test.YtfkedlgpgmaemaaGreatDoorQag
set_option linter.unusedVariables false
set_option maxHeartbeats 16000000
namespace Go.Proofs.YtfkedlgpgmaemaaGreatDoor
open Tryz
section
open Go.RowKit
attribute [local go_sem] Oper.semAt_some

def Ci:List Cel->List Value
 |[]=>[]
 |c::cs=>.int .i64 c.g::.int .u8 c.tag::.int .i64 c.ty::.int .i64 c.ln::.int .i64 c.sz::Ci cs

theorem EG:∀ (xs a:List Cel),Ci (xs++a)=Ci xs++Ci a
 |[],a=>rfl
 |x::xs,a=>by simp[Ci,EG xs a]

theorem BG:∀ {xs:List Cel} {a b:Nat},AC a xs b->xs.length<=b-a
 |[],a,b,h=>Nat.zero_le _
 |c::xs,a,b,⟨h1,h2,h3⟩=>by
  have:=BG h3
  have:=h3.le
  simp only[List.length_cons]
  omega

theorem Dp:prog.underlying 45=some (.slice 113):=by kernel_rfl

theorem infoCell:(prog.info? 113).map (λ i=>(i.zero,i.size,i.bytes))=some (some (.agg #[(0:Int),.int .u8 0,(0:Int),(0:Int),(0:Int)]),5,40):=by kernel_rfl

variable {Pr:Program}

theorem Bq{ops:Array Oper}{Q:Exit->Act->World->Prop}{n r:Nat}(d:∀ a w,¬ Q .outgrown a w):∀ (l:List Oper) (a:Act) (w:World),DV l.toArray=true->wpList Pr ops Q l a w->wpListIn (Fence.wide.inRound r) n Pr ops Q l a w
 |[],_,_,_,b=>b
 |o::l,a,w,hd,b=>by
  have g:∀ c,o.op≠.defer c:=noDefers_spec (ops:=(o::l).toArray) hd (i:=0) (o:=o) (by simp)
  have f:DV l.toArray=true:=by
   simp only[DV,List.all_toArray,List.all_cons,Bool.and_eq_true] at hd ⊢
   exact hd.2
  simp only[wpList] at b
  simp only[wpListIn]
  split
  .rename_i e
   simp only[e,if_true] at b
   rcases b with b|⟨_,a',w',b⟩
   .exact Oper.wpIn_of_wp g (Oper.wp_mono (λ a' w'=>Bq d l a' w' f) b)
   .exact (d _ _ b).elim
  .rename_i e
   simp only[e] at b
   exact⟨λ _ _=>trivial,Bq d l _ w f b⟩

theorem Af{S:Nat->Prop}{w w':World}{base:Nat}{e:TypeId}{c:Nat}{v:Value}{n:Nat}{xs:List Value}(a:w.ownsRow base e c v n xs)(k:Kp S w w')(m:∀ b,v.ownBlock=some b->¬ S b):w'.ownsRow base e c v n xs:=by
 obtain⟨f,a⟩:=a
 refine⟨f,?_⟩
 rcases a with a|⟨g,cap,d,rfl,i,j,l⟩
 .exact .inl a
 .exact .inr ⟨g,cap,d,rfl,i,k.at_ j (m g rfl),l⟩

theorem Ad{w:World}{base:Nat}{e:TypeId}{i:Nat}{v:Value}{n:Nat}{xs:List Value}(a:w.ownsRow base e i v n xs){b:Nat}(c:v.ownBlock=some b):base<=b/\b<w.heap.size:=by
 obtain⟨k,a⟩:=a
 rcases a with ⟨rfl,_⟩|⟨g,cap,j,rfl,d,f,l⟩
 .cases c
 .obtain rfl:g=b:=by simpa [Value.ownBlock] using c
  exact⟨d,lZ f⟩

theorem BZ{w:World}{base b:Nat}{e:TypeId}{c:Nat}{v:Value}{n:Nat}{xs:List Value}(a:w.ownsRow base e c v n xs)(k:b<=base):w.ownsRow b e c v n xs:=by
 obtain⟨f,a⟩:=a
 refine⟨f,?_⟩
 rcases a with a|⟨g,cap,d,rfl,i,j⟩
 .exact .inl a
 .exact .inr ⟨g,cap,d,rfl,Nat.le_trans k i,j⟩

def CellsI(b:Nat)(wl:World)(pre:List Cel)(S:Nat->Prop)(W':World):Prop:=
 ∃ v,W'.heap[b]?=some (.cells #[v] 45 (0,0))/\W'.ownsRow (wl.heap.size+2) 113 5 v pre.length (Ci pre)/\S=(λ k=>k=b\/v.ownBlock=some k)/\Kp (λ k=>k=b) wl W'

set_option maxRecDepth 20000 in
theorem Cells_at(P:Sp)(cs:List Cel)(w:World)(d:SpaceHas w P cs):
  Calls prog 82 #[.pointer (some P.s)] w λ e w'=>∃ v,e=.returned v/\w'.ownsRow w.heap.size 113 5 v cs.length (Ci cs)/\Kp Aa w w':=by
 obtain⟨W,f,y,Q,c5⟩:=d
 have b2:=sE y
 have a8:=sE Q
 have f4:=y.lt P.s (by simp[Sp.all])
 have d4:=y.lt
 have e6:cs.length<=32768:=by
  have:=BG Q.tl
  have:=y.ar.small
  omega
 clear y Q c5
 refine(callsIn_wide (n:=0)).1 ?_
 refine callsIn_of_wp_marks func82 rfl trivial ?_
 simp only[ntmps82,List.size_toArray,List.length_cons,List.length_nil,Nat.reduceAdd,Nat.reduceSub,Array.replicate_succ,Array.replicate_zero,List.push_toArray,List.append_toArray,List.nil_append,List.cons_append]
 gi_wp2_with fail
 refine⟨trivial,rfl,?_⟩
 obtain⟨w1,C⟩:∃ w1,w1=w.alloc (.cells #[.slice none 0 0] 45):=⟨_,rfl⟩
 rw[<- C]
 have d3:Kp Aa w w1:=by rw[C];exact (Kr _ w).alloc _
 have d5:w1.heap.size=w.heap.size+1:=by rw[C];simp
 have b4:w1.heap[w.heap.size]?=some (.cells #[.slice none 0 0] 45 (0,0)):=by rw[C];exact wN w _
 clear C
 refine(callsIn_wide.2 (cells_fn P w1)).mono ?_
 rintro e wl ⟨rfl,J⟩
 have d1:wl.heap.size=w1.heap.size+1:=by rw[<- J];simp
 have a4:Kp Aa w1 wl:=by rw[<- J];exact (Kr _ w1).alloc _
 have a1:wl.heap[w1.heap.size]?=some (.cells #[.pointer (some P.s)] 28 (0,0)):=by rw[<- J];exact wN w1 _
 clear J
 have a0:Kp Aa w wl:=d3.then' a4
 have b3:=b2.o.Ac a0
 have b6:=a4.at_ b4 id
 rw[d5] at a1 d1
 gi_wp2_with fail
 refine wpIn_range3 (n:=0) (gf:=179) (lb:=#[.pointer (some ⟨w.heap.size+1,0,none⟩)]) rfl (enters_of func179 (by kernel_rfl) rfl)
  (cells_iter3 P W f cs wl (w.heap.size+1) b3 a8.o a1 (R:=λ k=>k=w.heap.size) (λ k l=>by subst l;exact ⟨by omega,by omega,λ d=>by have:=d4 _ d;omega⟩)) (λ k l=>l.elim) (λ k l=>by omega)
  (X:=λ _=>False) (λ k l=>l.elim) (λ _=>rfl)
  (λ p S j=>CellsI w.heap.size wl p S j) (λ c p j=>False) (λ k=>k=w.heap.size\/(Value.slice none 0 0).ownBlock=some k) ?hS ?hI ?hIx ?h0 ?hround ?hdone ?hstop
 case hS=>
  rintro p S Y ⟨v,r,q,rfl,t⟩ k l
  rcases l with l|l
  .exact ⟨.inl l,by have:=lZ r;omega⟩
  .have:=Ad q l
   exact⟨.inr this.1,this.2⟩
 case hI=>
  rintro p S Y a6 ⟨v,r,q,B,t⟩ l
  exact⟨v,l.at_ r (λ d=>by rcases d with d|d|d;exact d;omega;omega),Af q l (λ b i d=>by have:=Ad q i;rcases d with d|d|d;exact d;omega;omega),B,
   t.trans l (λ b i d=>by rcases d with d|d|d;exact d.elim;omega;omega)⟩
 case hIx=>exact λ c p Y a6 d l=>d
 case h0=>exact ⟨_,b6,World.ownsRow_nil wl _ _ _,rfl,Kr _ _⟩
 case hround=>
  rintro p S x rest j c7 ⟨v,r,q,B,t⟩ y
  have e9:p.length+1<=cs.length:=by rw[c7];simp
  unfold cellV
  gi_wp2_with fail
  refine⟨(Kr _ j).alloc _,?_⟩
  intro m c1 c2 H a3 f0
  have U:Kp Aa j (j.alloc (.cells #[x.g,.int .u8 x.tag,x.ty,x.ln,x.sz] 113)):=(Kr _ j).alloc _
  have A:=H.at_ (wN j (.cells #[x.g,.int .u8 x.tag,x.ty,x.ln,x.sz] 113)) (by omega)
  have f1:=lZ r
  have a5:m.heap.size=j.heap.size+1:=by rw[a3];simp
  have V:(m).ownsRow (wl.heap.size+2) 113 5 v p.length (Ci p):=Af (Af q U (λ b i d=>d)) H (λ b i d=>by have:=Ad q i;omega)
  have K:=H.at_ (U.at_ r id) (by omega)
  have c0:=cell_of_one K
  have b8:=free_of_one K
  have d9:m.cell? j.heap.size=some (.int .i64 x.g):=by simp[World.cell?,A]
  have e0:m.cell? ⟨j.heap.size,1,none⟩=some (.int .u8 x.tag):=by simp[World.cell?,A]
  have e1:m.cell? ⟨j.heap.size,2,none⟩=some (.int .i64 x.ty):=by simp[World.cell?,A]
  have e2:m.cell? ⟨j.heap.size,3,none⟩=some (.int .i64 x.ln):=by simp[World.cell?,A]
  have e3:m.cell? ⟨j.heap.size,4,none⟩=some (.int .i64 x.sz):=by simp[World.cell?,A]
  have b0:=sE K
  have Z:=sE V
  have G:=sE q
  have N:=sE t
  have d6:=sE a5
  have f2:j.heap.size<m.heap.size:=by omega
  have f3:w.heap.size<m.heap.size:=by omega
  obtain⟨d2,c4,c8,c9,d0⟩:=info_parts infoCell
  have a9:Sl (¬ v.ownBlock=some w.heap.size):=⟨λ e=>by have:=Ad V e;omega⟩
  clear K V q t a5 A a3 c1 c2 r
  refine wpIn_block ?_
  refine wpIn_region_lit ?_
  refine Bq (λ _ _ d=>d) _ _ _ (by kernel_rfl) ?_
  go_wp2_with (at_builtin;go_loud (refine wpList_append_lies _ rfl (.tmp 9) (.tmp 11) 45 rfl (wl.heap.size+2) 113 d2 (.agg #[(0:Int),.int .u8 0,(0:Int),(0:Int),(0:Int)]) 5 40 Dp c4 c8 c9 d0 rfl (by omega) v p.length (Ci p) rfl (Kp.owns (S:=Aa) (a:=m) KU Z.o (λ b i d=>d)) ⟨m.heap.size,0,none⟩ 1 1 [x.g,.int .u8 x.tag,x.ty,x.ln,x.sz] rfl rfl (World.news_of_block (wN m _)) (by simp[Value.oneCell']) (by omega) (by unfold maxLen;omega) (by omega) (by simp;omega) _ rfl ?_);intro g cap M a2 c3 e5 e7;have O:Kp (λ b=>v.ownBlock=some b) m M:=((by (repeat (first|assumption|exact Kr _ _|refine Kp.drew ?_|refine Kp.alloc ?_ _|refine Kp.Av ?_ (by omega) _)):Kp Aa m _).Aw (λ b=>v.ownBlock=some b)).grown c3 (λ k e _=>e);have L:=O.at_ b0.o a9.o;have d7:=cell_of_one L;have e4:=free_of_one L;have b1:=sE L;clear L)
  subst B
  have u:Kp (λ b=>b=w.heap.size) M (M.setCell w.heap.size (.slice (some ⟨g,0,none⟩) (p.length+1) cap)):=(Kr (λ b=>b=w.heap.size) M).setCell (λ _=>rfl) _
  refine⟨(O.mono λ b i d=>.inr d).trans u (λ b i d=>.inl d),_,.slice (some ⟨g,0,none⟩) (p.length+1) cap,one_setCell b1.o,?_,rfl,?_⟩
  .rw [EG,List.length_append]
   exact Af a2 u (λ b i d=>by have:=Ad a2 i;omega)
  .exact (((N.o.trans U (λ b i d=>d.elim)).trans H (λ b i d=>by omega)).trans O (λ b i d=>by have:=Ad Z.o d;omega)).trans u (λ b i d=>d)
 case hdone=>
  rintro S j ⟨v,r,q,B,t⟩ y b9
  obtain⟨D,F,E,c6⟩:∃ D F E,v=.slice D F E:=by
   rcases q.2 with ⟨d,_⟩|⟨g,cap,d8,d,_⟩
   .exact ⟨_,_,_,d⟩
   .exact ⟨_,_,_,d⟩
  subst c6
  have c0:=cell_of_one r
  have b8:=free_of_one r
  have a7:=sE r
  have G:=sE q
  have N:=sE t
  clear r q B t
  gi_wp2_with fail
  obtain⟨z,I⟩:∃ z,z=j.setCell w.heap.size (.slice D F E):=⟨_,rfl⟩
  rw[<- I]
  have u:Kp (λ b=>b=w.heap.size) j z:=by rw[I];exact (Kr (λ b=>b=w.heap.size) j).setCell (λ _=>rfl) _
  have b5:z.heap[w.heap.size]?=some (.cells #[.slice D F E] 45 (0,0)):=by rw[I];exact one_setCell a7.o
  clear I
  refine⟨by simp,.inl ⟨_,_,rfl,run_takeDeferred (u.at_ b9 (by omega)),?_⟩⟩
  have T:Kp (λ b=>b=wl.heap.size) z (z.putObj wl.heap.size (.deferred none)):=(Kr (λ b=>b=wl.heap.size) z).putObj (λ _=>rfl) _
  have b7:=cell_of_one (T.at_ b5 (by omega))
  refine⟨.slice D F E,by simp[results,results82,go_sem,b7],_,rfl,?_,?_⟩
  .refine BZ (Af (Af G.o u (λ b i d=>?_)) T (λ b i d=>?_)) (by omega)
   .have:=Ad G.o i;omega
   .have:=Ad G.o i;omega
  .exact (((a0.trans N.o (λ b i d=>by omega)).trans u (λ b i d=>by omega)).trans T (λ b i d=>by omega))
 case hstop=>exact λ c p j e8 d=>d.elim

end

section
open Go.RowKit

theorem Starts_at(P:Sp)(W:Nat->Nat)(f:Nat->Bool)(w:World)(a:SpaceAt w P W f):
  Calls prog 122 #[.pointer (some P.s)] w λ e w'=>
   ∃ p q,e=.returned (.pointer (some ⟨p,0,none⟩))/\w.heap.size<=p/\w.heap.size<=q/\AL w' p q f (P.n/2)/\Kp Aa w w':=by
 obtain⟨c0,k,l⟩:=a.head
 have c:=a.bt
 generalize P.n/2=H at c
 clear a
 go_enter func122,ntmps122
 go_wp2_with fail
 refine(Copy_at H P.b P.bq f w c).mono ?_
 rintro e w1 ⟨p,q,rfl,g,i,d,j⟩
 go_wp2
 go_ret
 exact⟨p,q,rfl,g,i,d,j⟩

theorem AL.ne'{w:World}{p q n:Nat}{f:Nat->Bool}(a:AL w p q f n):¬ p=q:=by
 obtain⟨ws,b,_⟩:=a;exact b.ne

def MadeSpaceW(w:World)(t tq n:Nat)(ts:List TypR)(e:Ending)(w':World):Prop:=
 ∃ P:Sp,P.t=t/\P.tq=tq/\P.ts=ts/\P.n=n/\e=.returned (.tuple #[.pointer (some P.s),(0:Int)])/\AQ w' P (Bd (λ _=>0) 0 (n/2)) (gapL 0 (n/2))/\(∀ k,P.own k->w.heap.size<=k)/\w.heap.size<=P.s/\w.heap.size<=P.b/\Kp Aa w w'

theorem ArenaAt.ne_'{w:World}{a q n:Nat}{W:Nat->Nat}(h:ArenaAt w a q W n):¬ a=q:=h.ne

theorem SNew_yesW(n t r:Nat)(ts:List TypR)(w:World)(L:TableAt w t r ts)(hF:Au w)(a9:t<w.heap.size)(b0:r<w.heap.size)(Z:16<=n)(a0:n<=65536)(K:n%2=0):
  Calls prog 93 #[n,.pointer (some t)] w (MadeSpaceW w t r n ts):=by
 have M:Sl (((n:Nat):Int)/2=((n/2:Nat):Int)):=⟨by omega⟩
 have N:Sl (((n:Nat):Int).tdiv 2=((n/2:Nat):Int)):=⟨by rw[Int.tdiv_eq_ediv_of_nonneg (by omega)];omega⟩
 have W:=sE L
 have S:=sE hF
 have a4:=hF.1
 clear L hF
 have G:=sE K
 clear K
 go_enter func93,ntmps93
 go_wp2_with fail
 refine(ANew_yes n w Z a0 G.o).mono ?_
 rintro e w1 ⟨a,q,rfl,a5,a8,j,O⟩
 go_wp2_with fail
 try rw[M.o]
 try rw[N.o]
 refine(New_yes (n/2) w1 (by omega)).mono ?_
 rintro e w2 ⟨b,Y,rfl,a6,a7,l,C⟩
 have Q:=sE j
 have R:=sE l
 have la:=j.lt_a
 have b2:=j.lt_q
 have b3:=j.ne_'
 have lb:=l.lt_p'
 have b1:=l.lt_q'
 have b4:=l.ne'
 have b7:=O.size
 have b8:=C.size
 clear j l M N
 go_wp2_with fail
 obtain⟨f,m⟩:∃ f,f=w2.alloc (.cells #[.pointer (some a),.pointer (some t),.pointer (some b)] 160):=⟨_,rfl⟩
 rw[<- m]
 have D:Kp Aa w2 f:=by rw[m];exact (Kr _ w2).alloc _
 have I:f.heap[w2.heap.size]?=some (.cells #[.pointer (some a),.pointer (some t),.pointer (some b)] 160 (0,0)):=by rw[m];exact wN w2 _
 have E:f.heap.size=w2.heap.size+1:=by rw[m];simp
 clear m
 have x:=(O.then' C).then' D
 obtain⟨P,d⟩:∃ P:Sp,P=⟨w2.heap.size,a,q,t,r,b,Y,n,ts⟩:=⟨_,rfl⟩
 have p:SpaceAt f P (λ _=>0) (λ _=>false):=by
  subst d
  refine⟨I,Q.o.Ac (C.then' D),W.o.Ac x,R.o.keep D id id,S.o.Ac x,⟨?_,?_,?_⟩,G.o,?_⟩
  .intro k g
   simp only[Sp.own] at g
   dsimp only
   omega
  .dsimp only;omega
  .dsimp only;omega
  .intro k g
   simp only[Sp.all] at g
   omega
 have A:P.s=w2.heap.size:=by rw[d]
 have z:P.n/2=n/2:=by rw[d]
 have a3:=sE p
 have u:=FE P _ _ f p
 have F:Sl (Calls prog 147 #[.pointer (some P.s),(0:Int),.int .i64 ((n/2:Nat):Int)] f (LaidGap P (Bd (λ _=>0) 0 (n/2)) (λ _=>false) f)):=⟨gap_any 0 (n/2) P _ _ f p (by rw[z];omega)⟩
 rw[z,A] at u
 rw[A] at F
 have T:=sE u
 have U:=sE d
 have X:=sE E
 clear p u d E A z I
 try go_wp2_with fail
 refine T.o.mono ?_
 rintro e b5 ⟨rfl,rfl⟩
 go_wp2_with fail
 refine F.o.mono ?_
 rintro e b6 ⟨rfl,a2,H⟩
 have V:=sE H
 clear H
 go_wp2
 have d:=U.o
 have E:=X.o
 refine bodyPost_ret (v:=.tuple #[.pointer (some w2.heap.size),(0:Int)]) (by simp[results,results93,go_sem]) rfl ⟨P,by rw[d],by rw[d],by rw[d],by rw[d],by rw[d],⟨_,V.o,⟨?_,?_,?_⟩,?_⟩,?_,by rw[d];dsimp only;omega,by rw[d];dsimp only;omega,?_⟩
 .have:=Eb 0 (n/2)
  rw[d]
  rwa [Nat.zero_add] at this
 .intro c B
  obtain⟨y,rfl⟩:=Co B
  exact EW y
 .intro c B
  obtain⟨y,rfl⟩:=Co B
  exact gap_ok y (by omega)
 .intro i a1
  exact(DJ 0 (n/2) i).symm
 .intro k g
  rw[d] at g
  simp only[Sp.own] at g
  omega
 .refine x.trans a2 (λ i a1 J=>?_)
  rw[d] at J
  dsimp only at J
  omega

theorem SNew_no(n:Int)(t:Nat)(w:World)(a:Dn n=false):Calls prog 93 #[.int .i64 n,.pointer (some t)] w λ e w'=>e=.returned (.tuple #[.pointer none,(2:Int)])/\w'=w:=by
 have b:=sE (ANew_no n w a)
 clear a
 go_enter func93,ntmps93
 go_wp2_with fail
 refine b.o.mono ?_
 rintro e w' ⟨rfl,rfl⟩
 go_wp2
 exact bodyPost_ret (v:=.tuple #[.pointer none,(2:Int)]) (by simp[results,results93,go_sem]) rfl ⟨rfl,rfl⟩

def Du(w:World)(v:Value)(cs:List Cel):Prop:=
 ∃ a cap,v=.slice a cs.length cap/\∀ i x,cs[i]?=some x->∃ b,a=some ⟨b,0,none⟩/\b<w.heap.size/\
  w.cell? ⟨b,i*5,none⟩=some (.int .i64 x.g)/\w.cell? ⟨b,i*5+1,none⟩=some (.int .u8 x.tag)/\w.cell? ⟨b,i*5+2,none⟩=some (.int .i64 x.ty)/\
  w.cell? ⟨b,i*5+3,none⟩=some (.int .i64 x.ln)/\w.cell? ⟨b,i*5+4,none⟩=some (.int .i64 x.sz)

theorem flatC_at:∀ (xs:List Cel) (i:Nat) (x:Cel),xs[i]?=some x->(Ci xs)[i*5]?=some (.int .i64 x.g)/\(Ci xs)[i*5+1]?=some (.int .u8 x.tag)/\(Ci xs)[i*5+2]?=some (.int .i64 x.ty)/\(Ci xs)[i*5+3]?=some (.int .i64 x.ln)/\(Ci xs)[i*5+4]?=some (.int .i64 x.sz)
 |y::xs,0,x,h=>by
  simp at h
  subst h
  exact⟨rfl,rfl,rfl,rfl,rfl⟩
 |y::xs,i+1,x,h=>by
  have j:xs[i]?=some x:=by simpa using h
  obtain⟨a,b,c,d,e⟩:=flatC_at xs i x j
  have f:(i+1)*5=i*5+5:=by omega
  rw[f]
  exact⟨a,b,c,d,e⟩

theorem Du.Bc{w:World}{base:Nat}{v:Value}{cs:List Cel}(e:w.ownsRow base 113 5 v cs.length (Ci cs)):Du w v cs:=by
 rcases e.2 with ⟨rfl,f⟩|⟨g,cap,l,rfl,m,c,n,o,p,d⟩
 .exact ⟨none,0,by rw[f],λ i x b=>by have:=(gE.1 b).1;omega⟩
 .refine ⟨some ⟨g,0,none⟩,cap,rfl,λ i x b=>?_⟩
  have q:=(gE.1 b).1
  obtain⟨x0,x1,x2,x3,x4⟩:=flatC_at cs i x b
  have a:∀ j,j<cs.length*5->w.cell? ⟨g,j,none⟩=(Ci cs)[j]?:=λ j k=>by
   rw[<- d,List.getElem?_take_of_lt k]
   simp[World.cell?,c]
  exact⟨g,rfl,lZ c,by rw[a _ (by omega)];exact x0,by rw[a _ (by omega)];exact x1,by rw[a _ (by omega)];exact x2,by rw[a _ (by omega)];exact x3,by rw[a _ (by omega)];exact x4⟩

theorem Du.Ac{w w':World}{v:Value}{cs:List Cel}(c:Du w v cs)(k:Kp Aa w w'):Du w' v cs:=by
 obtain⟨a,cap,rfl,c⟩:=c
 refine⟨a,cap,rfl,λ i x m=>?_⟩
 obtain⟨b,rfl,d,e,f,g,j,l⟩:=c i x m
 exact⟨b,rfl,Nat.lt_of_lt_of_le d k.size,k.cell e id,k.cell f id,k.cell g id,k.cell j id,k.cell l id⟩

theorem run_eq_head9(a b c d a' e f g:Int)(w:World):(Op.equalIn 9999 111 (.agg #[.int .u8 a,.int .i64 b,.int .i64 c,.int .i64 d]) (.agg #[.int .u8 a',.int .i64 e,.int .i64 f,.int .i64 g])).run prog w=.ok (a==a'&&(b==e&&(c==f&&d==g))) w:=by
 have u3:=underlying3
 have j:=isAgg3
 have l:=sizeOf3
 have u5:=underlying5
 have k:=isAgg5
 have m:=sizeOf5
 have i:prog.underlying 111=some (.struct (prog.fieldsOf 111)):=by kernel_rfl
 rw[show (9999:Nat)=9998+1 from rfl,run_equalIn_agg w 9998 111 _ _ i (by kernel_rfl)]
 simp only[Program.fieldsOf,underlying111]
 go_simp
 by_cases h1:a=a' <;> by_cases h2:b=e <;> by_cases h3:c=f <;> by_cases h4:d=g <;> simp[h1,h2,h3,h4]

theorem run_eq_cell(g a b c d j a' e f i:Int)(w:World):(Op.equalIn 10000 113 (.agg #[.int .i64 g,.int .u8 a,.int .i64 b,.int .i64 c,.int .i64 d]) (.agg #[.int .i64 j,.int .u8 a',.int .i64 e,.int .i64 f,.int .i64 i])).run prog w=.ok (g==j&&(a==a'&&(b==e&&(c==f&&d==i)))) w:=by
 have u3:=underlying3
 have l:=isAgg3
 have o:=sizeOf3
 have m:=isAgg111
 have p:=sizeOf111
 have k:prog.underlying 113=some (.struct (prog.fieldsOf 113)):=by kernel_rfl
 have n:=λ (w:World)=>run_eq_head9 a b c d a' e f i w
 rw[show (10000:Nat)=9999+1 from rfl,run_equalIn_agg w 9999 113 _ _ k (by kernel_rfl)]
 simp only[Program.fieldsOf,underlying113]
 go_simp
 by_cases h0:g=j <;> by_cases h1:a=a' <;> by_cases h2:b=e <;> by_cases h3:c=f <;> by_cases h4:d=i <;> simp[h0,h1,h2,h3,h4]

theorem run_neq_cell(g a b c d j a' e f i:Int)(w:World):(binOp .neq 113 (.agg #[.int .i64 g,.int .u8 a,.int .i64 b,.int .i64 c,.int .i64 d]) (.agg #[.int .i64 j,.int .u8 a',.int .i64 e,.int .i64 f,.int .i64 i])).run prog w=.ok (.bool (!(g==j&&(a==a'&&(b==e&&(c==f&&d==i)))))) w:=by
 rw[run_neq_struct,run_eq_cell];rfl

theorem run_eql_cell(g a b c d j a' e f i:Int)(w:World):(binOp .eql 113 (.agg #[.int .i64 g,.int .u8 a,.int .i64 b,.int .i64 c,.int .i64 d]) (.agg #[.int .i64 j,.int .u8 a',.int .i64 e,.int .i64 f,.int .i64 i])).run prog w=.ok (.bool (g==j&&(a==a'&&(b==e&&(c==f&&d==i))))) w:=by
 rw[run_eql_struct,run_eq_cell];rfl

attribute [local go_sem ↓] run_neq_cell

end

section
open Go.RowKit
attribute [local go_sem ↓] run_neq_cell

def Aj(cs:List Cel):List Cel:=cs.filter λ c=>c.tag==1

def BK(cs:List Cel):List Nat:=(Aj cs).map Cel.g

theorem obsG_len(cs:List Cel):(BK cs).length<=cs.length:=by
 unfold BK Aj
 rw[List.length_map]
 exact List.length_filter_le _ _

theorem objsOf_append(xs a:List Cel):Aj (xs++a)=Aj xs++Aj a:=List.filter_append ..

def BX(cs:List Cel):Prop:=∀ c∈cs,¬ c.tag=1->c.tag=Dx c.sz/\c.ty=0/\c.ln=0

end

section
open Go.RowKit

theorem AX{c:Cel}{xs:List Cel}:c∈Aj xs ↔ c∈xs/\c.tag=1:=by
 rw[Aj,List.mem_filter];simp

theorem BX.gap(g m:Nat):BX (gapL g m):=by
 intro c a _
 obtain⟨_,rfl⟩:=Co a
 exact⟨rfl,rfl,rfl⟩

theorem BX.append{xs b:List Cel}(d:BX xs)(k:BX b):BX (xs++b):=by
 intro c a
 rcases List.mem_append.1 a with a|a
 .exact d c a
 .exact k c a

theorem BX.left{xs d:List Cel}(a:BX (xs++d)):BX xs:=λ c b=>a c (List.mem_append_left _ b)

theorem BX.right{xs a:List Cel}(b:BX (xs++a)):BX a:=λ c d=>b c (List.mem_append_right _ d)

theorem put_gaps{g b:List Cel}{c:Cel}{j i l S:Nat}(e:BX (g++c::b)):BX (putL g c b j i l S):=by
 have k:BX b:=λ d a=>e d (List.mem_append_right _ (List.mem_cons_of_mem _ a))
 refine e.left.append (((BX.gap _ _).append ?_).append k)
 refine BX.append (xs:=[_]) (λ d a f=>?_) (BX.gap _ _)
 rw[List.mem_singleton.1 a] at f
 exact absurd rfl f

theorem drop_gaps{cs b f i d:List Cel}{c:Cel}{g x y:Nat}(a:BX cs)(j:Dj cs g b f c i d x y):BX (dropL b d x y):=by
 obtain⟨e,-⟩:=j
 subst e
 exact a.left.append ((BX.gap _ _).append a.right.right)

end

end Go.Proofs.YtfkedlgpgmaemaaGreatDoor
