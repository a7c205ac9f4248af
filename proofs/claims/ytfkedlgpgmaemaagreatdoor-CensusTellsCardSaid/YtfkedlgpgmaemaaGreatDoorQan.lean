/-
  Lemmas for the laws, together: WalkA, FindPA.
-/
import Derived.Test.YtfkedlgpgmaemaaGreatDoorQal
import Derived.Maps.Own
import Derived.Maps.OwnSet
import Derived.Test.YtfkedlgpgmaemaaGreatDoorQak
import Derived.Test.YtfkedlgpgmaemaaGreatDoorQam
import Derived.Test.YtfkedlgpgmaemaaGreatDoorQai
import Derived.Test.YtfkedlgpgmaemaaGreatDoorQah
set_option linter.unusedVariables false
set_option maxHeartbeats 16000000
namespace Go.Proofs.YtfkedlgpgmaemaaGreatDoor
open Tryz
section
open Go.RowKit

def StopW(ts:List TypR)(H:Nat)(W:Nat->Nat)(g:Nat):Prop:=
 Ct (W (2*g))=false\/(CE (W (2*g))=1/\¬ (AV ts (EA (W (2*g)):Nat) (EX (W (2*g)):Nat)=0/\BB ts (EA (W (2*g)):Nat) (EX (W (2*g)):Nat)=(DY (W (2*g)):Nat)))\/H-g<DY (W (2*g))

structure CellsTo(P:Sp)(W:Nat->Nat)(cs:List Cel)(e:Nat):Prop where
 tl:AC 0 cs e
 le:e<=P.n/2
 hd:HeadsAt W cs
 ok:∀ c∈cs,Di P.ts c
 stop:e=P.n/2\/StopW P.ts (P.n/2) W e

theorem CellsAt.to{P:Sp}{W:Nat->Nat}{cs:List Cel}(h:CellsAt P W cs):CellsTo P W cs (P.n/2):=⟨h.tl,Nat.le_refl _,h.hd,h.ok,.inl rfl⟩

theorem decOk_head{X:Nat}(h:Ct X=true):Am (CE X:Nat) (EA X:Nat) (EX X:Nat) (DY X:Nat)=true:=by
 unfold Ct at h
 rw[Bool.and_eq_true] at h
 exact h.1

theorem Fits_obj_no(ty ln sz:Int)(t q:Nat)(ts:List TypR)(w:World)(hF:Au w)(D:TableAt w t q ts)(x:Am 1 ty ln sz=true)(A:¬ (AV ts ty ln=0/\BB ts ty ln=sz)):
  Calls prog 78 #[.pointer (some t),Ao 1 ty ln sz] w (RK (.int .i64 8) w):=by
 have C:=(Kr Aa w).alloc (.cells #[.int .u8 1,.int .i64 ty,.int .i64 ln,.int .i64 sz] 111)
 have p:=wN w (.cells #[.int .u8 1,.int .i64 ty,.int .i64 ln,.int .i64 sz] 111)
 have b:=DC 1 ty ln sz _ (hF.Ac C)
 rw[x] at b
 by_cases he:AV ts ty ln=0
 .obtain ⟨S,z⟩:∃ S,BB ts ty ln=S:=⟨_,rfl⟩
  have B:(S==sz)=false:=by
   rw[beq_eq_false_iff_ne]
   exact λ q=>A ⟨he,z.trans q⟩
  have c:∀ W,Kp Aa w W->Calls prog 135 #[.pointer (some t),.int .i64 ty,.int .i64 ln] W (RK (.tuple #[Ao 1 ty ln S,(0:Int)]) W):=λ W k=>
   (EE ty ln t q ts W (D.Ac k)).mono λ e w' i=>by rw[BR,he,if_pos rfl,z] at i;exact i
  unfold Ao at b c ⊢
  have f:=sE b
  have r:=sE c
  have I:∀ w,(binOp .neq 111 (.agg #[.int .u8 1,.int .i64 ty,.int .i64 ln,.int .i64 S]) (.agg #[.int .u8 1,.int .i64 ty,.int .i64 ln,.int .i64 sz])).run prog w=.ok (.bool true) w:=λ w=>by
   rw[EJ,B]
   simp
  clear b c x he z A
  go_enter func78,ntmps78
  go_wp2_with fail
  refine f.o.mono ?_
  rintro e w2 ⟨rfl,j⟩
  have a:=j.at_ p id
  have s:w2.cell? w.heap.size=some (.int .u8 1):=by simp[World.cell?,a]
  have u:w2.cell? ⟨w.heap.size,1,none⟩=some (.int .i64 ty):=by simp[World.cell?,a]
  have v:w2.cell? ⟨w.heap.size,2,none⟩=some (.int .i64 ln):=by simp[World.cell?,a]
  have g:=C.then' j
  clear p f
  go_wp2_with fail
  refine(r.o _ g).mono ?_
  rintro e m ⟨rfl,l⟩
  have d:=l.at_ a id
  have E:=lZ d
  have c0:m.cell? w.heap.size=some (.int .u8 1):=by simp[World.cell?,d]
  have F:m.cell? ⟨w.heap.size,1,none⟩=some (.int .i64 ty):=by simp[World.cell?,d]
  have G:m.cell? ⟨w.heap.size,2,none⟩=some (.int .i64 ln):=by simp[World.cell?,d]
  have H:m.cell? ⟨w.heap.size,3,none⟩=some (.int .i64 sz):=by simp[World.cell?,d]
  clear s u v a d B
  go_wp2
  go_ret
  exact⟨rfl,(g.then' l).alloc _⟩
 .obtain ⟨n,y⟩:∃ n,AV ts ty ln=n:=⟨_,rfl⟩
  rw[y] at he
  have B:(n !=0)=true:=by simpa using he
  have c:∀ W,Kp Aa w W->Calls prog 135 #[.pointer (some t),.int .i64 ty,.int .i64 ln] W (RK (.tuple #[Ao 0 0 0 0,.int .i64 n]) W):=λ W k=>
   (EE ty ln t q ts W (D.Ac k)).mono λ e w' i=>by rw[BR,y,if_neg he] at i;exact i
  unfold Ao at b c ⊢
  have f:=sE b
  have r:=sE c
  clear b c x he y A
  go_enter func78,ntmps78
  go_wp2_with fail
  refine f.o.mono ?_
  rintro e w2 ⟨rfl,j⟩
  have a:=j.at_ p id
  have s:w2.cell? w.heap.size=some (.int .u8 1):=by simp[World.cell?,a]
  have u:w2.cell? ⟨w.heap.size,1,none⟩=some (.int .i64 ty):=by simp[World.cell?,a]
  have v:w2.cell? ⟨w.heap.size,2,none⟩=some (.int .i64 ln):=by simp[World.cell?,a]
  have g:=C.then' j
  clear p f
  go_wp2_with fail
  refine(r.o _ g).mono ?_
  rintro e m ⟨rfl,l⟩
  have E:=lZ (l.at_ a id)
  clear s u v a
  go_wp2
  go_ret
  exact⟨rfl,(g.then' l).alloc _⟩

theorem stop_at(P:Sp)(W:Nat->Nat)(f:Nat->Bool)(g:Nat)(w:World)(c:SpaceAt w P W f)(o:g<P.n/2)(b:StopW P.ts (P.n/2) W g):
  Calls prog 76 #[.pointer (some P.a),g] w (RK (.tuple #[Ao 0 0 0 0,(7:Int)]) w)\/
  ∃ tag ty ln sz:Nat,Calls prog 76 #[.pointer (some P.a),g] w (RK (.tuple #[Ao (tag:Nat) (ty:Nat) (ln:Nat) (sz:Nat),(0:Int)]) w)/\
   ((∀ w',Kp Aa w w'->Calls prog 78 #[.pointer (some P.t),Ao (tag:Nat) (ty:Nat) (ln:Nat) (sz:Nat)] w' λ e l=>e=.returned (.int .i64 8)/\Kp Aa w' l)\/
    ((∀ w',Kp Aa w w'->Calls prog 78 #[.pointer (some P.t),Ao (tag:Nat) (ty:Nat) (ln:Nat) (sz:Nat)] w' λ e l=>e=.returned (.int .i64 0)/\Kp Aa w' l)/\P.n/2-g<sz)):=by
 have i:=SHead_at g P.a P.q P.n W w c.fl c.ar o
 obtain⟨X,m⟩:∃ X,W (2*g)=X:=⟨_,rfl⟩
 unfold StopW at b
 rw[m] at b i
 cases hd:Ct X with
 |false=>
  rw[hd] at i
  exact .inl (i.mono λ_ _ k=>k)
 |true=>
  rw[hd] at i
  have j:=decOk_head hd
  refine .inr ⟨CE X,EA X,EX X,DY X,i.mono λ_ _ k=>k,?_⟩
  by_cases ht:CE X=1
  .rw [ht] at j ⊢
   by_cases hf:AV P.ts (EA X:Nat) (EX X:Nat)=0/\BB P.ts (EA X:Nat) (EX X:Nat)=(DY X:Nat)
   .refine .inr ⟨λ w' d=>Fits_obj _ _ _ P.t P.tq P.ts w' (c.Ac d).fl (c.Ac d).tb j hf.1 hf.2,?_⟩
    rcases b with b|b|b
    .rw [hd] at b
     cases b
    .exact absurd hf b.2
    .exact b
   .exact .inl λ w' d=>Fits_obj_no _ _ _ P.t P.tq P.ts w' (c.Ac d).fl (c.Ac d).tb j hf
  .refine .inr ⟨λ w' d=>Fits_gap _ _ _ _ _ w' (c.Ac d).fl j (by omega),?_⟩
   rcases b with b|b|b
   .rw [hd] at b
    cases b
   .exact absurd b.1 ht
   .exact b

attribute [local go_sem] Oper.semAt_some

theorem wcells_fn(P:Sp)(w:World):
  Calls prog 126 #[.pointer (some P.a),.pointer (some P.t)] w λ e w'=>
   e=.returned (.func (.func 172) #[] #[.pointer (some w.heap.size),.pointer (some ⟨w.heap.size+1,0,none⟩)])/\(w.alloc (.cells #[.pointer (some P.a)] 74)).alloc (.cells #[.pointer (some P.t)] 76)=w':=by
 have b:∀ (fn:Fn) (first cap:Array Value) (w:World),(Instr.makeFunc fn first cap).run prog w=.ok (.func fn first cap) w:=λ _ _ _ _=>rfl
 go_enter func126,ntmps126
 go_wp2
 go_ret
 exact⟨rfl,rfl⟩

set_option maxRecDepth 20000 in
theorem wcells_iter3(P:Sp)(v:Nat->Nat)(f:Nat->Bool)(cs:List Cel)(M:Nat)(w:World)(V C:Nat)(j:SpaceAt w P v f)(E:CellsTo P v cs M)(c2:w.heap[V]?=some (.cells #[.pointer (some P.a)] 74 (0,0)))(c3:w.heap[C]?=some (.cells #[.pointer (some P.t)] 76 (0,0)))
  {R:Nat->Prop} (a4:∀ k,R k->k<w.heap.size/\¬ k=V/\¬ k=C/\¬ P.all k):
  IterAt3 prog 172 #[.pointer (some V),.pointer (some C)] (λ c=>#[cellV c]) cs Aa R w:=by
 intro l b4 f9 S0 W D i0 i1 c1 c0 g7 e9 e0
 have SW:=j.Ac D
 have b7:=D.at_ c2 id
 have d6:=D.at_ c3 id
 have i3:=lZ c2
 have i4:=lZ c3
 have f5:=j.lt
 have f1:=j.ar.small
 obtain⟨H,e5⟩:∃ H,P.n/2=H:=⟨_,rfl⟩
 have f6:=E.tl
 have e4:=E.le
 have b2:Sl (∀ w',SpaceAt w' P v f->M<H->_):=⟨λ w' O a7=>stop_at P v f M w' O (by omega) (E.stop.resolve_left (by omega))⟩
 have c9:Sl (Calls prog 136 #[.pointer (some P.a)] W λ e T=>e=.returned (.int .i64 P.n)/\W=T):=⟨ALen_at P.a P.q P.n v W SW.ar⟩
 have d0:Sl (∀ w',SpaceAt w' P v f->∀ c∈cs,c.g<H->Calls prog 76 #[.pointer (some P.a),c.g] w' λ e T=>e=.returned (.tuple #[Ao (c.tag:Nat) (c.ty:Nat) (c.ln:Nat) (c.sz:Nat),(0:Int)])/\Kp Aa w' T):=
  ⟨λ w' O c Y g9=>SHead_cell c P v f w' O (by omega) (E.hd c Y) (E.ok c Y)⟩
 have c8:Sl (∀ w',SpaceAt w' P v f->∀ c∈cs,Calls prog 78 #[.pointer (some P.t),Ao (c.tag:Nat) (c.ty:Nat) (c.ln:Nat) (c.sz:Nat)] w' λ e T=>e=.returned (.int .i64 0)/\Kp Aa w' T):=
  ⟨λ w' O c Y=>Fits_cell c P v f w' O (E.ok c Y)⟩
 rw[e5] at e4 b2
 have g6:H<=32768:=by omega
 have e6:(P.n:Int)/2=(H:Int):=by omega
 have g1:=cell_of_one b7
 clear E f1
 refine(callsIn_wide (n:=0)).1 ?_
 refine callsIn_of_wp func172 rfl trivial ?_
 simp only[ntmps172,List.size_toArray,List.length_cons,List.length_nil,Nat.reduceAdd,Nat.reduceSub,Array.replicate_succ,Array.replicate_zero,List.push_toArray,List.append_toArray,List.nil_append,List.cons_append]
 gi_wp2_with fail
 refine⟨trivial,rfl,?_⟩
 refine(callsIn_wide.2 c9.o).mono ?_
 rintro e w' ⟨rfl,rfl⟩
 gi_wp2_with fail
 clear e6
 gi_loopw [5,6,7] (λ a8 f7 f8 wr=>∃ (I rest:List Cel) (g:Nat) (S:Nat->Prop),a8=.int .i64 g/\cs=I++rest/\AC g rest M/\b4 I S wr/\Kp (λ k=>R k\/k=l) W wr)
  (λ a8 f7 f8 wr=>H-(intOf a8).toNat)
 case atStart=>exact ⟨[],cs,0,S0,rfl,rfl,f6,e0,Kr _ _⟩
 case round=>
  obtain⟨I,rest,g,S,rfl,F,c5,J,z⟩:=hrel
  have U:SpaceAt wr P v f:=SW.keep z (λ i a6 m=>by
   have:=f5 i a6
   rcases m with m|m
   .exact (a4 i m).2.2.2 a6
   .omega)
  have d7:=z.at_ b7 (λ m=>by
   rcases m with m|m
   .exact (a4 V m).2.1 rfl
   .omega)
  have d8:=z.at_ d6 (λ m=>by
   rcases m with m|m
   .exact (a4 C m).2.2.1 rfl
   .omega)
  have g0:=cell_of_one d7
  have a0:=cell_of_one d8
  have b1:=sE U
  cases rest with
  |nil=>
   obtain rfl:g=M:=c5
   by_cases hgH:g=H
   .subst hgH
    gi_wp2_with fail
    go_end0
    exact⟨⟨_,rfl⟩,.inl ⟨S,by rw[F,List.append_nil];exact J⟩⟩
   .have f0:(g:Int)<(H:Int):=by omega
    have b0:=sE (And.intro J F)
    have Z:Sl (∀ K,Kp Aa wr K->∃ S,b4 cs S K):=⟨λ K f4=>⟨S,by rw[b0.o.2,List.append_nil];exact c0 _ _ _ _ b0.o.1 f4⟩⟩
    have a5:∀ sz:Nat,H-g<sz->decide ((H:Int)-(g:Int)<(sz:Int))=true:=λ sz j=>dT (by omega)
    have f3:IntKind.i64.wrap ((H:Int)-(g:Int))=(H:Int)-(g:Int):=by rw[IntKind.wrap_i64];omega
    have d1:=b2.o wr U (by omega)
    clear J F hgH b1
    rcases d1 with B|⟨tag,ty,ln,sz,B,N|⟨N,a7⟩⟩
    .have u:=sE B
     clear B
     gi_wp2_with fail
     refine⟨trivial,rfl,?_⟩
     refine(callsIn_wide.2 u.o).mono ?_
     rintro e w1 ⟨rfl,r⟩
     unfold Ao
     gi_wp2_with fail
     refine⟨?_,?_⟩
     .first|trivial|(intro _ _;trivial)
     gi_wp2_with fail
     refine⟨?_,?_⟩
     .first|trivial|(intro _ _;trivial)
     gi_wp2_with fail
     refine bodyPost_ret (results_none rfl _ _ _) rfl ?_
     exact⟨⟨_,rfl⟩,.inl (Z.o _ (r.alloc _))⟩
    .have u:=sE B
     have x:=sE N
     clear B N
     gi_wp2_with fail
     refine⟨trivial,rfl,?_⟩
     refine(callsIn_wide.2 u.o).mono ?_
     rintro e w1 ⟨rfl,r⟩
     unfold Ao
     obtain⟨w2,p⟩:∃ w2,w2=w1.alloc (.cells #[.int .u8 tag,ty,ln,.int .i64 (sz:Nat)] 111):=⟨_,rfl⟩
     have Q:Kp Aa w1 w2:=by rw[p];exact (Kr _ w1).alloc _
     have d:w2.heap[w1.heap.size]?=some (.cells #[.int .u8 tag,ty,ln,.int .i64 (sz:Nat)] 111 (0,0)):=by rw[p];exact wN w1 _
     have y:Kp Aa wr w2:=r.then' Q
     have b8:=r.cell a0 id
     have c7:C<w1.heap.size:=by have:=r.size;have:=z.size;have:=D.size;omega
     have a1:w2.cell? w1.heap.size=some (.int .u8 tag):=by simp[World.cell?,d]
     have a2:w2.cell? ⟨w1.heap.size,1,none⟩=some (.int .i64 ty):=by simp[World.cell?,d]
     have a3:w2.cell? ⟨w1.heap.size,2,none⟩=some (.int .i64 ln):=by simp[World.cell?,d]
     have X:w2.cell? ⟨w1.heap.size,3,none⟩=some (.int .i64 (sz:Nat)):=by simp[World.cell?,d]
     have A:=x.o w2 y
     unfold Ao at A
     have L:=sE A
     clear A d u x
     gi_wp2_with fail
     rw[<- p]
     clear p
     refine⟨trivial,rfl,?_⟩
     refine(callsIn_wide.2 L.o).mono ?_
     rintro e a9 ⟨rfl,s⟩
     gi_wp2_with fail
     refine⟨?_,?_⟩
     .first|trivial|(intro _ _;trivial)
     gi_wp2_with fail
     refine bodyPost_ret (results_none rfl _ _ _) rfl ?_
     exact⟨⟨_,rfl⟩,.inl (Z.o _ (y.then' s))⟩
    .have u:=sE B
     have x:=sE N
     replace a5:=a5 sz a7
     clear B N
     gi_wp2_with fail
     refine⟨trivial,rfl,?_⟩
     refine(callsIn_wide.2 u.o).mono ?_
     rintro e w1 ⟨rfl,r⟩
     unfold Ao
     obtain⟨w2,p⟩:∃ w2,w2=w1.alloc (.cells #[.int .u8 tag,ty,ln,.int .i64 (sz:Nat)] 111):=⟨_,rfl⟩
     have Q:Kp Aa w1 w2:=by rw[p];exact (Kr _ w1).alloc _
     have d:w2.heap[w1.heap.size]?=some (.cells #[.int .u8 tag,ty,ln,.int .i64 (sz:Nat)] 111 (0,0)):=by rw[p];exact wN w1 _
     have y:Kp Aa wr w2:=r.then' Q
     have b8:=r.cell a0 id
     have c7:C<w1.heap.size:=by have:=r.size;have:=z.size;have:=D.size;omega
     have a1:w2.cell? w1.heap.size=some (.int .u8 tag):=by simp[World.cell?,d]
     have a2:w2.cell? ⟨w1.heap.size,1,none⟩=some (.int .i64 ty):=by simp[World.cell?,d]
     have a3:w2.cell? ⟨w1.heap.size,2,none⟩=some (.int .i64 ln):=by simp[World.cell?,d]
     have X:w2.cell? ⟨w1.heap.size,3,none⟩=some (.int .i64 (sz:Nat)):=by simp[World.cell?,d]
     have A:=x.o w2 y
     unfold Ao at A
     have L:=sE A
     have b3:=sE d
     clear A d u x a7
     gi_wp2_with fail
     rw[<- p]
     clear p
     refine⟨trivial,rfl,?_⟩
     refine(callsIn_wide.2 L.o).mono ?_
     rintro e a9 ⟨rfl,s⟩
     have d9:=s.cell X id
     gi_wp2_with fail
     refine⟨?_,?_⟩
     .first|trivial|(intro _ _;trivial)
     gi_wp2_with fail
     refine bodyPost_ret (results_none rfl _ _ _) rfl ?_
     exact⟨⟨_,rfl⟩,.inl (Z.o _ (y.then' s))⟩
  |cons c rest=>
   obtain⟨rfl,g8,c6⟩:=c5
   have i2:=c6.le
   have c4:c∈cs:=by rw[F];simp
   have f0:(c.g:Int)<(H:Int):=by omega
   have u:=sE (d0.o wr U c c4 (by omega))
   gi_wp2_with fail
   refine⟨trivial,rfl,?_⟩
   refine(callsIn_wide.2 u.o).mono ?_
   rintro e w1 ⟨rfl,r⟩
   unfold Ao
   obtain⟨w2,p⟩:∃ w2,w2=w1.alloc (.cells #[.int .u8 c.tag,c.ty,c.ln,c.sz] 111):=⟨_,rfl⟩
   have Q:Kp Aa w1 w2:=by rw[p];exact (Kr _ w1).alloc _
   have d:w2.heap[w1.heap.size]?=some (.cells #[.int .u8 c.tag,c.ty,c.ln,c.sz] 111 (0,0)):=by rw[p];exact wN w1 _
   have y:Kp Aa wr w2:=r.then' Q
   have b6:=U.Ac y
   have b8:=r.cell a0 id
   have c7:C<w1.heap.size:=by have:=r.size;have:=z.size;have:=D.size;omega
   have a1:w2.cell? w1.heap.size=some (.int .u8 c.tag):=by simp[World.cell?,d]
   have a2:w2.cell? ⟨w1.heap.size,1,none⟩=some (.int .i64 c.ty):=by simp[World.cell?,d]
   have a3:w2.cell? ⟨w1.heap.size,2,none⟩=some (.int .i64 c.ln):=by simp[World.cell?,d]
   have X:w2.cell? ⟨w1.heap.size,3,none⟩=some (.int .i64 c.sz):=by simp[World.cell?,d]
   have x:=c8.o w2 b6 c c4
   unfold Ao at x
   have L:=sE x
   have b3:=sE d
   have a5:decide ((H:Int)-(c.g:Int)<(c.sz:Int))=false:=dF (by omega)
   have f3:IntKind.i64.wrap ((H:Int)-(c.g:Int))=(H:Int)-(c.g:Int):=by rw[IntKind.wrap_i64];omega
   have f2:∀ k,S k\/k=l->¬ k=w1.heap.size:=by
    intro k G
    have i5:=D.size
    have i6:=z.size
    have i7:=r.size
    rcases G with G|G
    .have:=(c1 I S _ J k G).2
     omega
    .omega
   have e7:∀ i,i<W.heap.size->(S i\/i=l)->(R i\/i=l):=by
    intro i a6 j
    rcases j with j|j
    .rcases (c1 I S _ J i j).1 with j|j
     .exact .inl j
     .omega
    .exact .inr j
   clear x b6 d u b1
   gi_wp2_with fail
   rw[<- p]
   clear p
   refine⟨trivial,rfl,?_⟩
   refine(callsIn_wide.2 L.o).mono ?_
   rintro e a9 ⟨rfl,s⟩
   have b9:=s.at_ b3.o id
   have g3:=s.cell a1 id
   have g4:=s.cell a2 id
   have g5:=s.cell a3 id
   have d9:=s.cell X id
   have b5:=c0 _ _ _ _ J (y.then' s)
   have d2:=sE (e9 I S c rest a9 F b5)
   have d3:=sE b9
   clear b9 b5
   gi_wp2_with fail
   refine En d2.o rfl ?_
   intro b K e1
   rcases e1 with ⟨rfl,G,S',e8⟩|⟨rfl,e3⟩
   .have e2:=G.at_ d3.o (λ m=>f2 _ m rfl)
    have g2:K.cell? ⟨w1.heap.size,3,none⟩=some (.int .i64 c.sz):=by simp[World.cell?,e2]
    have d4:=(z.trans y (λ _ _ j=>j.elim)).trans s (λ _ _ j=>j.elim)
    have d5:=d4.trans G e7
    gi_wp2_with fail
    exact⟨⟨I++[c],rest,c.g+c.sz,S',by simp,by rw[F,List.append_assoc];rfl,c6,e8,d5⟩,by simp only[intOf];omega⟩
   .gi_wp2_with fail
    refine bodyPost_ret (results_none rfl _ _ _) rfl ?_
    exact⟨⟨_,rfl⟩,.inr ⟨_,⟨_,by rw[F,List.append_assoc];rfl⟩,e3⟩⟩

end

section
open Go.RowKit Go.Maps

theorem zeroBool10(w:World):(zeroValue 4).run prog w=.ok (.bool false) w:=by kernel_rfl

section
variable {P:Program} {k e t:TypeId}

theorem plainElem_bool_inv(b:P.underlying e=some .bool){v:Value}{z:DataW Unit×List MemPlace}(a:plainElem P e v=some z):∃ x,v=.bool x/\z=(.lit (.bool x),[]):=by
 unfold plainElem at a
 rw[b] at a
 cases v <;> simp at a
 exact⟨_,rfl,a.symm⟩

def SetIn(P:Program)(k e:TypeId)(w:World)(b n:Nat)(f:Int->Bool):Prop:=
 ∃ D:DataW Unit,w.ownsMap P k (plainElem P e) b n D/\∀ g:Int,(Lit.int .i64 g).wf=true->D.atKey (.int .i64 g) (.lit (.bool false))=.lit (.bool (f g))

theorem SetIn.look{w:World}{b n:Nat}{f:Int->Bool}(l:SetIn P k e w b n f)(d:P.underlying k=some (.int .i64))(a:P.underlying e=some .bool)(q:P.underlying t=some (.map k e))(r:(zeroValue e).run P w=.ok (.bool false) w){g:Int}(c:(Lit.int .i64 g).wf=true):
  (Instr.lookup t (.map (some b)) (.int .i64 g) false).run P w=.ok (.bool (f g)) w:=by
 obtain⟨s,m,o⟩:=l
 obtain⟨v,ps,p,i⟩:=m.lookup (int_keyed d) q r (plainElem_bool a false) (keyOf_int_mk d c)
 rw[o g c] at i
 obtain⟨x,rfl,j⟩:=plainElem_bool_inv a i
 simp only[Prod.mk.injEq] at j
 have:f g=x:=by have:=j.1;injection this with this;injection this
 rw[p,this]

theorem SetIn.put{w:World}{b n:Nat}{f:Int->Bool}(a:SetIn P k e w b n f)(c:P.underlying k=some (.int .i64))(l:P.underlying e=some .bool)(s:P.underlying t=some (.map k e))(p:n<maxLen){g:Int}(m:(Lit.int .i64 g).wf=true):
  ∃ w',(Instr.mapUpdate t (.map (some b)) (.int .i64 g) (.bool true)).run P w=.ok () w'/\SetIn P k e w' b (n+1) (λ x=>f x||x==g)/\Kp (λ k=>k=b) w w':=by
 obtain⟨v,d,j⟩:=a
 have i:=keyOf_int_mk c m
 obtain⟨w',r,q,o⟩:=d.update (int_keyed c) s p i (plainElem_bool l true)
 refine⟨w',r,⟨_,q,λ x u=>?_⟩,(Kr _ w).grown o (λ k e _=>by injection e with e;exact e.symm)⟩
 by_cases ex:x=g
 .subst ex
  rw[Maps.atKey_put_same d.isMap ((int_keyed c).key i)]
  simp
 .rw [Maps.atKey_put_other (by intro a;injection a with _ a;exact ex a),j x u]
  simp[ex]

end

def E5(w:World)(b n:Nat)(f:Int->Bool):Prop:=SetIn prog 3 4 w b n f

theorem E5.made(w:World):E5 (w.alloc (.map #[] 0)) w.heap.size 0 (λ _=>false):=
 ⟨.map [],World.ownsMap_made w _ _ _,λ g _=>rfl⟩

theorem E5.lt{w:World}{b n:Nat}{f:Int->Bool}(a:E5 w b n f):b<w.heap.size:=by
 obtain⟨d,c,-⟩:=a
 exact c.lt

theorem E5.keep{S:Nat->Prop}{w w':World}{b n:Nat}{f:Int->Bool}(d:E5 w b n f)(k:Kp S w w')(j:¬ S b):E5 w' b n f:=by
 obtain⟨a,⟨es,c,e,g⟩,i⟩:=d
 exact⟨a,⟨es,c,k.at_ e j,g⟩,i⟩

theorem E5.look{w:World}{b n:Nat}{f:Int->Bool}(a:E5 w b n f){g:Int}(c:(Lit.int .i64 g).wf=true):
  (Instr.lookup 214 (.map (some b)) (.int .i64 g) false).run prog w=.ok (.bool (f g)) w:=
 SetIn.look a underlying3 underlying4 underlying214 (zeroBool10 w) c

theorem E5.put{w:World}{b n:Nat}{f:Int->Bool}(a:E5 w b n f)(d:n<maxLen){g:Int}(c:(Lit.int .i64 g).wf=true):
  ∃ w',(Instr.mapUpdate 214 (.map (some b)) (.int .i64 g) (.bool true)).run prog w=.ok () w'/\E5 w' b (n+1) (λ x=>f x||x==g)/\Kp (λ k=>k=b) w w':=
 SetIn.put a underlying3 underlying4 underlying214 d c

theorem wf_small{g:Nat}(c:g<=9223372036854775807):(Lit.int .i64 (g:Int)).wf=true:=by
 have a:IntKind.i64.min=-9223372036854775808:=by decide
 have b:IntKind.i64.max=9223372036854775807:=by decide
 simp only[Lit.wf,a,b,Bool.and_eq_true,decide_eq_true_eq]
 omega

open Go.RowKit
attribute [local go_sem] Oper.semAt_some

def Ez(cs:List Cel)(g:Int):Bool:=cs.any λ c=>c.tag==1&&(c.g:Int)==g

theorem startI_add(cs:List Cel)(x:Cel)(g:Int):Ez (cs++[x]) g=(Ez cs g||(x.tag==1&&(x.g:Int)==g)):=by simp[Ez]

theorem startI_nat(cs:List Cel)(g:Nat):Ez cs (g:Nat)=Ak cs g:=by
 have e:∀ c:Cel,(c.tag==1&&(c.g:Int)==(g:Nat))=(c.tag==1&&c.g==g):=λ c=>by
  have:((c.g:Int)==((g:Nat):Int))=(c.g==g):=by
   rw[Bool.eq_iff_iff,beq_iff_eq,beq_iff_eq]
   omega
  rw[this]
 simp only[Ez,Ak,e]

theorem obsG_add(cs:List Cel)(x:Cel):BK (cs++[x])=BK cs++(if x.tag=1 then [x.g] else []):=by
 unfold BK Aj
 rw[List.filter_append,List.map_append]
 congr 1
 by_cases h:x.tag=1 <;> simp[h]

theorem tiles_same:∀ {cs:List Cel} {a x y:Nat},AC a cs x->AC a cs y->x=y
 |[],a,x,y,h,k=>(show a=x from h).symm.trans k
 |c::cs,a,x,y,⟨_,_,h⟩,⟨_,_,k⟩=>tiles_same h k

theorem Cg{w:World}{b:Nat}{a c d e f:Value}{T:TypeId}(g:w.heap[b]?=some (.cells #[a,c,d,e,f] T (0,0))):
  w.cell? b=some a/\w.cell? ⟨b,1,none⟩=some c/\w.cell? ⟨b,2,none⟩=some d/\w.cell? ⟨b,3,none⟩=some e/\w.cell? ⟨b,4,none⟩=some f:=by
 refine⟨?_,?_,?_,?_,?_⟩ <;> simp only[World.cell?,g] <;> rfl

theorem set5_3{w:World}{b:Nat}{a c d f e:Value}{T:TypeId}(g:w.heap[b]?=some (.cells #[a,c,d,f,e] T (0,0)))(v:Value):(w.setCell ⟨b,3,none⟩ v).heap[b]?=some (.cells #[a,c,d,v,e] T (0,0)):=by
 rw[bZ g]
 rfl

theorem set5_4{w:World}{b:Nat}{a c d e f:Value}{T:TypeId}(g:w.heap[b]?=some (.cells #[a,c,d,e,f] T (0,0)))(v:Value):(w.setCell ⟨b,4,none⟩ v).heap[b]?=some (.cells #[a,c,d,e,v] T (0,0)):=by
 rw[bZ g]
 rfl

theorem wpIn_region_held_drew{P:Program}{Q:Exit->Act->World->Prop}{S:World->Prop}{l:List Oper}{g n i:Nat}{a:Act}{w:World}(e:P.follows .mixedOrders=true)(d:DV l.toArray=true)(f:∀ a w,¬ Q .outgrown a w)(c:S w.drew)
  (b:S w.drew->wpAnyH P .any l.toArray Q S l.toArray.size (Array.replicate l.toArray.size false) a w.drew):(Code.region g l.toArray true).wpIn (Fence.wide.inRound i) n P Q a w:=
 wpIn_region_any e d f (wpAny_of_held _ _ _ _ (b c))

def Da(w:World)(P:Sp)(gb m base:Nat)(cs:List Cel)(e:Nat)(ov:Value):Prop:=
 w.heap[gb]?=some (.cells #[.pointer (some P.a),.pointer (some P.t),.map (some m),ov,e] 216 (0,0))/\
  (∃ n,n<=cs.length/\E5 w m n (Ez cs))/\w.ownsRow base 3 1 ov (BK cs).length (Az (BK cs))/\AC 0 cs e

def ThruI(P:Sp)(gb m gv:Nat)(wl:World)(pre:List Cel)(S:Nat->Prop)(W':World):Prop:=
 ∃ ov e,Da W' P gb m (wl.heap.size+2) pre e ov/\W'.heap[gv]?=some (.cells #[.pointer (some gb)] 148 (0,0))/\(S=λ k=>k=m\/k=gb\/ov.ownBlock=some k)/\Kp (λ k=>k=m\/k=gb) wl W'

set_option maxRecDepth 20000 in
theorem through_to(P:Sp)(W:Nat->Nat)(f:Nat->Bool)(cs:List Cel)(e2:Nat)(w:World)(a8:SpaceAt w P W f)(e8:CellsTo P W cs e2):
  Calls prog 74 #[.pointer (some P.a),.pointer (some P.t)] w λ e w'=>e=.returned (.pointer (some ⟨w.heap.size+1,0,none⟩))/\(∃ l,Da w' P (w.heap.size+1) w.heap.size w.heap.size cs e2 l)/\Kp Aa w w':=by
 have n1:=sE a8
 have n0:=sE e8
 have l8:=a8.lt
 have p4:=a8.ar.small
 have i9:=e8.tl
 have o9:=e8.le
 have p3:cs.length<=32768:=by
  have:=BG i9
  omega
 clear a8 e8
 refine(callsIn_wide (n:=0)).1 ?_
 refine callsIn_of_wp_marks func74 rfl trivial ?_
 simp only[ntmps74,List.size_toArray,List.length_cons,List.length_nil,Nat.reduceAdd,Nat.reduceSub,Array.replicate_succ,Array.replicate_zero,List.push_toArray,List.append_toArray,List.nil_append,List.cons_append]
 have n9:=@run_makeMap prog
 gi_wp2_with fail
 refine⟨trivial,rfl,?_⟩
 obtain⟨s,a9⟩:∃ s,s=((w.alloc (.map #[] 0)).alloc (.cells #[.pointer (some P.a),.pointer (some P.t),.map (some w.heap.size),.slice none 0 0,(0:Int)] 216)).alloc (.cells #[.pointer (some ⟨w.heap.size+1,0,none⟩)] 148):=⟨_,rfl⟩
 rw[<- a9]
 have l5:Kp Aa w s:=by rw[a9];exact (((Kr _ w).alloc _).alloc _).alloc _
 have j7:s.heap.size=w.heap.size+3:=by rw[a9];simp
 have m0:E5 s w.heap.size 0 (λ _=>false):=by
  rw[a9]
  exact(E5.made w).keep (((Kr Aa _).alloc _).alloc _) id
 have l1:s.heap[w.heap.size+1]?=some (.cells #[.pointer (some P.a),.pointer (some P.t),.map (some w.heap.size),.slice none 0 0,(0:Int)] 216 (0,0)):=by
  rw[a9]
  have:=wN (w.alloc (.map #[] 0)) (.cells #[.pointer (some P.a),.pointer (some P.t),.map (some w.heap.size),.slice none 0 0,(0:Int)] 216)
  rw[show (w.alloc (.map #[] 0)).heap.size=w.heap.size+1 by simp] at this
  exact((Kr Aa _).alloc _).at_ this id
 have m5:s.heap[w.heap.size+1+1]?=some (.cells #[.pointer (some ⟨w.heap.size+1,0,none⟩)] 148 (0,0)):=by
  rw[a9]
  have:=wN ((w.alloc (.map #[] 0)).alloc (.cells #[.pointer (some P.a),.pointer (some P.t),.map (some w.heap.size),.slice none 0 0,(0:Int)] 216)) (.cells #[.pointer (some ⟨w.heap.size+1,0,none⟩)] 148)
  rw[show ((w.alloc (.map #[] 0)).alloc (.cells #[.pointer (some P.a),.pointer (some P.t),.map (some w.heap.size),.slice none 0 0,(0:Int)] 216)).heap.size=w.heap.size+1+1 by simp] at this
  exact this
 clear a9
 refine(callsIn_wide.2 (wcells_fn P s)).mono ?_
 rintro e wl ⟨rfl,d5⟩
 have m6:wl.heap.size=s.heap.size+2:=by rw[<- d5];simp
 have d9:Kp Aa s wl:=by rw[<- d5];exact ((Kr _ s).alloc _).alloc _
 have c7:wl.heap[s.heap.size]?=some (.cells #[.pointer (some P.a)] 74 (0,0)):=by rw[<- d5];exact ((Kr Aa _).alloc _).at_ (wN s _) id
 have c8:wl.heap[s.heap.size+1]?=some (.cells #[.pointer (some P.t)] 76 (0,0)):=by
  rw[<- d5]
  have:=wN (s.alloc (.cells #[.pointer (some P.a)] 74)) (.cells #[.pointer (some P.t)] 76)
  rwa [show (s.alloc (.cells #[.pointer (some P.a)] 74)).heap.size=s.heap.size+1 by simp] at this
 clear d5
 have g7:Kp Aa w wl:=l5.then' d9
 have l0:=n1.o.Ac g7
 have f0:=m0.keep d9 id
 have e7:=d9.at_ l1 id
 have f2:=d9.at_ m5 id
 rw[j7] at c7 c8 m6
 clear m0 l1 m5 l5 n9
 gi_wp2_with fail
 try rw[j7]
 clear d9 j7
 obtain⟨i,i4⟩:∃ i,w.heap.size=i:=⟨_,rfl⟩
 rw[i4] at m6 c7 c8 f0 e7 f2 l8 ⊢
 refine wpIn_range3 (n:=0) (gf:=172) (lb:=#[.pointer (some ⟨i+3,0,none⟩),.pointer (some ⟨i+3+1,0,none⟩)]) rfl (enters_of func172 (by kernel_rfl) rfl)
  (wcells_iter3 P W f cs e2 wl (i+3) (i+3+1) l0 n0.o c7 c8 (R:=λ k=>k=i\/k=i+1) (λ k p=>⟨by omega,by omega,by omega,λ d=>by have:=l8 _ d;omega⟩)) (λ k p=>p.elim) (λ k p=>by omega)
  (X:=λ _=>False) (λ k p=>p.elim) (λ _=>rfl)
  (λ m S q=>ThruI P (i+1) i (i+1+1) wl m S q) (λ c m q=>False) (λ k=>k=i\/k=i+1\/(Value.slice none 0 0).ownBlock=some k) ?hS ?hI ?hIx ?h0 ?hround ?hdone ?hstop
 case hS=>
  rintro m S j8 ⟨l,e,⟨G,⟨n,d3,L⟩,E,J⟩,a1,rfl,a2⟩ k p
  rcases p with p|p|p
  .exact ⟨.inl (.inl p),by have:=lZ G;omega⟩
  .exact ⟨.inl (.inr p),by have:=lZ G;omega⟩
  .have:=Ad E p
   exact⟨.inr this.1,this.2⟩
 case hI=>
  rintro m S j8 o6 ⟨l,e,⟨G,⟨n,d3,L⟩,E,J⟩,a1,a2,n3⟩ p
  exact⟨l,e,⟨p.at_ G (λ d=>by rcases d with d|d|d;exact d;omega;omega),⟨n,d3,L.keep p (λ d=>by rcases d with d|d|d;exact d;omega;omega)⟩,
   Af E p (λ b j d=>by have:=Ad E j;rcases d with d|d|d;exact d;omega;omega),J⟩,p.at_ a1 (λ d=>by rcases d with d|d|d;exact d;omega;omega),a2,
   n3.trans p (λ b j d=>by rcases d with d|d|d;exact d.elim;omega;omega)⟩
 case hIx=>exact λ c m j8 i d p=>d
 case h0=>exact ⟨_,0,⟨e7,⟨0,Nat.le_refl _,f0⟩,World.ownsRow_nil wl _ _ _,rfl⟩,f2,rfl,Kr _ _⟩
 case hround=>
  rintro m S x rest q l4 ⟨l,e,⟨G,⟨n,d3,L⟩,E,J⟩,a1,l2,a2⟩ a8
  have p7:m.length+1<=cs.length:=by rw[l4];simp
  have j0:=i9
  rw[l4] at j0
  obtain⟨D,f1,j4,o4,m4⟩:=j0.split
  obtain rfl:D=e:=tiles_same f1 J
  have g3:Sl (x.g=D):=⟨j4⟩
  have o3:=m4.le
  have p1:x.g<=32768:=by omega
  have p8:x.g+x.sz<=32768:=by omega
  have g1:Sl (AC 0 (m++[x]) (D+x.sz)):=⟨AC.append (a:=0) J ⟨j4,o4,rfl⟩⟩
  clear f1 j4 m4 j0 o3
  unfold cellV
  gi_wp2_with fail
  refine⟨(Kr _ q).alloc _,?_⟩
  intro C n7 n8 a7 l3 o0
  have b4:Kp Aa q (q.alloc (.cells #[x.g,.int .u8 x.tag,x.ty,x.ln,x.sz] 113)):=(Kr _ q).alloc _
  have g9:=a7.at_ (wN q (.cells #[x.g,.int .u8 x.tag,x.ty,x.ln,x.sz] 113)) (by omega)
  have q3:C.heap.size=q.heap.size+1:=by rw[l3];simp
  have p9:=lZ G
  have q1:=lZ a1
  have q0:=L.lt
  have k9:Sl (¬ l.ownBlock=some q.heap.size):=⟨λ d=>by have:=Ad E d;omega⟩
  have m2:(C).ownsRow (wl.heap.size+2) 3 1 l (BK m).length (Az (BK m)):=Af (Af E b4 (λ b j d=>d)) a7 (λ b j d=>by have:=Ad E j;omega)
  have b3:=a7.at_ (b4.at_ G id) (by omega)
  have j5:=a7.at_ (b4.at_ a1 id) (by omega)
  have l9:=(L.keep b4 id).keep a7 (by omega)
  have l7:Kp (λ k=>k=wl.heap.size+1) q C:=(b4.Aw _).trans a7 (λ b j d=>d)
  obtain⟨e3,b2,a3,a4,i0⟩:=Cg g9
  have c0:=cell_of_one j5
  have n2:=sE g9
  have k6:=sE j5
  have b1:=sE m2
  have k3:=sE l9
  have b5:=sE a2
  have f6:=sE l7
  have g0:=sE l2
  have k0:=sE b3
  have lc:q.heap.size<C.heap.size:=by omega
  have p2:wl.heap.size+2<=q.heap.size:=a8
  clear G L E J a1 a2 m2 l9 l7 b4 a7 n7 n8 o0 l3 e7 f2 f0 c7 c8 j5 g9 l2 g7 l0
  by_cases ht:x.tag=1
  .have f1:((x.tag:Int)==1)=true:=by simp[ht]
   have p5:(BK m).length<=32768:=by have:=obsG_len m;omega
   obtain⟨c4,c5,e4,e5,e6⟩:=Cg b3
   clear b3 c4 c5 e6 a3 a4
   gi_wp2_with fail
   refine BM 6 (by kernel_rfl) (by kernel_rfl) (by kernel_rfl) (λ _ _ d=>d) ?_
   simp only[List.take_succ_cons,List.take_zero,List.drop_succ_cons,List.drop_zero]
   repeat (go_big_quiet_step (fail))
   refine wpQuiet_nil ?_
   intro _ hw'
   obtain⟨nq,o2⟩:=hw'
   subst o2
   have j2:Kp Aa C (C.drewN nq):=Kp.Ah _
   obtain⟨z,o1,m1,l6⟩:=(k3.o.keep j2 id).put (by unfold maxLen;omega) (wf_small (g:=x.g) (by omega))
   go_wp2_with fail
   have a6:Kp (λ k=>k=i) C z:=(j2.Aw _).trans l6 (λ b j d=>d)
   clear o1 j2 l6
   have m3:=Af b1.o a6 (λ b j d=>by have:=Ad b1.o j;omega)
   have i3:=a6.at_ k0.o (by omega)
   have j6:=a6.at_ k6.o (by omega)
   have g8:=a6.at_ n2.o (by omega)
   have q2:=a6.size
   obtain⟨e3,b2,a3,a4,i0⟩:=Cg g8
   obtain⟨c4,c5,e4,e5,e6⟩:=Cg i3
   have c0:=cell_of_one j6
   have k5:=sE m3
   have k1:=sE i3
   have k7:=sE j6
   have k8:=sE g8
   have k4:=sE m1
   have k2:=sE a6
   clear m3 i3 j6 g8 m1 a6 b2 a3 a4 c4 c5 e4 e6
   refine wpIn_region_held_drew (S:=λ w'=>w'.cell? ⟨i+1+1,0,none⟩=some (.pointer (some ⟨i+1,0,none⟩))/\w'.cell? q.heap.size=some (.int .i64 x.g)) (by kernel_rfl) (by kernel_rfl) (λ _ _ d=>d) ⟨c0,e3⟩ (λ e0=>?_)
   refine Ap 0 ?_;refine Ap 1 ?_;refine Ap 2 ?_;refine Ap 3 ?_;refine Ap 5 ?_;refine Ap 6 ?_
   try simp only[AB]
   refine Bp [4,7] ?_
   refine Ai rfl (λ K hK=>?_) (Ag rfl (λ K hK=>?_))
   .go_simp
    refine hK _ _ ?_ (λ c9=>?_)
    .exact e0
    clear hK K
    try simp only[AB]
    refine Bp [7] ?_
    refine Ag rfl (λ K hK=>?_)
    go_simp
    refine hK _ _ ?_ (λ c9=>?_)
    .exact ⟨((Kr Aa _).alloc _).cell e0.1 id,((Kr Aa _).alloc _).cell e0.2 id⟩
    clear hK K
    try simp only[AB]
    obtain⟨A,Q⟩:∃ A,A=(z.alloc (.cells #[x.g] 3)).drew:=⟨_,rfl⟩
    have r:Kp Aa z A:=by rw[Q];exact ((Kr _ z).alloc _).drew
    have c3:A.heap[z.heap.size]?=some (.cells #[x.g] 3 (0,0)):=by rw[Q];exact wN z _
    rw[<- Q]
    clear Q c9
    have I:=Af k5.o r (λ b j d=>d)
    have c6:=r.at_ k1.o id
    have e1:=r.at_ k7.o id
    have c1:=r.at_ k8.o id
    have o5:=r.size
    have f8:=sE (k4.o.keep r id)
    have f7:Sl (Kp (λ k=>k=i) C A):=⟨k2.o.trans r (λ b j d=>d.elim)⟩
    have g4:¬ l.ownBlock=some (i+1):=λ d=>by have:=Ad I d;omega
    have g6:¬ l.ownBlock=some (i+1+1):=λ d=>by have:=Ad I d;omega
    have g5:Sl (¬ l.ownBlock=some i):=⟨λ d=>by have:=Ad I d;omega⟩
    obtain⟨j1,d2,d6,d7,d8⟩:=info_parts Be
    refine Bp [8] ?_
    refine Ag rfl (λ K hK=>?_)
    refine CP rfl rfl (.tmp 30) (.tmp 33) 24 rfl (wl.heap.size+2) 3 j1 (.int .i64 0) 1 8 Ar d2 d6 d7 d8 rfl (by omega) l (BK m).length (Az (BK m)) rfl I ⟨z.heap.size,0,none⟩ 1 _ [x.g] rfl rfl (World.news_of_block c3) (by intro u d4;simp at d4;subst d4;rfl) (by unfold maxLen;omega) (by omega) (by omega) ?_
    intro j3 B O d1 i7
    obtain⟨V,Z,Y,i8⟩:∃ a n c,j3=.slice a n c:=by
     rcases O.2 with ⟨d,_⟩|⟨g,cap,n4,d,_⟩
     .exact ⟨_,_,_,d⟩
     .exact ⟨_,_,_,d⟩
    subst i8
    clear d2 d6 d7 d8
    have F:Kp (λ b=>l.ownBlock=some b) A B:=(Kr _ A).grown d1 (λ k e _=>e)
    have N:=F.at_ c6 g4
    have a0:=F.at_ e1 g6
    have M:=F.at_ c1 k9.o
    have i2:=Ab N 3
    have i1:=(Cg N).2.2.2.1
    refine hK _ _ ?_ (λ i5=>?_)
    .exact ⟨cell_of_one a0,(Cg M).1⟩
    clear hK K
    try simp only[AB]
    refine Ap 9 ?_;refine Ap 10 ?_
    try simp only[AB]
    refine Bp [11] ?_
    refine Ag rfl (λ K hK=>?_)
    go_simp
    refine hK _ _ ?_ (λ i6=>?_)
    .exact ⟨cell_of_one (((Kr (λ k=>k=i+1) B).setCell (λ _=>rfl) _).at_ a0 (by omega)),(Cg (((Kr (λ k=>k=i+1) B).setCell (λ _=>rfl) _).at_ M (by omega))).1⟩
    clear hK K
    try simp only[AB]
    refine wpAnyH_done (by kernel_rfl) ?_ _
    have f3:=sE N
    have f9:=sE O
    have b7:=sE F
    have d0:∀ b,(Value.slice V Z Y).ownBlock=some b->wl.heap.size+2<=b:=λ b j=>(Ad O j).1
    have f5:=sE d0
    clear O d1 i7 i2 i1 i5 i6 I c6 e1 c1 c3 r d0
    obtain⟨v,T⟩:∃ v,v=B.setCell ⟨i+1,3,none⟩ (Value.slice V Z Y):=⟨_,rfl⟩
    rw[<- T]
    have U:Kp (λ k=>k=i+1) B v:=by rw[T];exact (Kr (λ k=>k=i+1) B).setCell (λ _=>rfl) _
    have H:=set5_3 f3.o (Value.slice V Z Y)
    rw[<- T] at H
    clear T
    have b0:=U.at_ a0 (by omega)
    have c2:=U.at_ M (by omega)
    obtain⟨e3,b2,a3,a4,i0⟩:=Cg c2
    have c0:=cell_of_one b0
    have n5:=(Cg H).2.2.2.2
    have f84:=Ab H 4
    have g2:=sE b0
    have f4:=sE H
    have b6:=sE U
    clear N a0 M b0 c2 H U F b2 a3 a4
    gi_wp2_with fail
    have y:Kp (λ k=>k=i+1) v (v.setCell ⟨i+1,4,none⟩ (.int .i64 ((x.g:Int)+(x.sz:Int)))):=(Kr (λ k=>k=i+1) v).setCell (λ _=>rfl) _
    have a5:=set5_4 f4.o (.int .i64 ((x.g:Int)+(x.sz:Int)))
    rw[show (x.g:Int)+(x.sz:Int)=((D+x.sz:Nat):Int) by have:=g3.o;omega] at a5 y ⊢
    have b9:Kp (λ k=>k=i\/k=i+1\/l.ownBlock=some k) C (v.setCell ⟨i+1,4,none⟩ (.int .i64 ((D+x.sz:Nat):Int))):=
     (((f7.o.mono λ b j d=>.inl d).trans b7.o (λ b j d=>.inr (.inr d))).trans b6.o (λ b j d=>.inr (.inl d))).trans y (λ b j d=>.inr (.inl d))
    have b8:Kp (λ k=>k=i+1) B (v.setCell ⟨i+1,4,none⟩ (.int .i64 ((D+x.sz:Nat):Int))):=b6.o.trans y (λ b j d=>d)
    refine⟨b9.mono λ b j d=>by rw[g0.o];exact d,_,(Value.slice V Z Y),D+x.sz,⟨a5,⟨n+1,by simp;omega,?_⟩,?_,g1.o⟩,y.at_ g2.o (by omega),rfl,?_⟩
    .rw [show Ez (m++[x])=(λ g=>Ez m g||g==(x.g:Int)) from funext λ g=>by
      rw[startI_add]
      have:((x.g:Int)==g)=(g==(x.g:Int)):=by rw[Bool.eq_iff_iff,beq_iff_eq,beq_iff_eq];exact eq_comm
      simp[ht,this]]
     exact(f8.o.keep b7.o g5.o).keep b8 (by omega)
    .rw [obsG_add,if_pos ht,Az,List.map_append,List.length_append]
     exact Af f9.o b8 (λ b j d=>by have:=f5.o b j;omega)
    .exact (b5.o.trans f6.o (λ b j d=>by omega)).trans b9 (λ b j d=>by
      rcases d with d|d|d
      .exact .inl d
      .exact .inr d
      .have:=Ad b1.o d;omega)
   .go_simp
    refine hK _ _ ?_ (λ c9=>?_)
    .exact ⟨((Kr Aa _).alloc _).cell e0.1 id,((Kr Aa _).alloc _).cell e0.2 id⟩
    clear hK K
    try simp only[AB]
    have o7:(z.alloc (.cells #[x.g] 3)).drew.cell? ⟨i+1,3,none⟩=some l:=(((Kr Aa z).alloc _).drew).cell e5 id
    refine Bp [4] ?_
    refine Ag rfl (λ K hK=>?_)
    go_simp
    refine hK _ _ ?_ (λ p0=>?_)
    .exact c9
    clear hK K
    try simp only[AB]
    obtain⟨A,Q⟩:∃ A,A=(z.alloc (.cells #[x.g] 3)).drew:=⟨_,rfl⟩
    have r:Kp Aa z A:=by rw[Q];exact ((Kr _ z).alloc _).drew
    have c3:A.heap[z.heap.size]?=some (.cells #[x.g] 3 (0,0)):=by rw[Q];exact wN z _
    rw[<- Q]
    clear Q c9
    have I:=Af k5.o r (λ b j d=>d)
    have c6:=r.at_ k1.o id
    have e1:=r.at_ k7.o id
    have c1:=r.at_ k8.o id
    have o5:=r.size
    have f8:=sE (k4.o.keep r id)
    have f7:Sl (Kp (λ k=>k=i) C A):=⟨k2.o.trans r (λ b j d=>d.elim)⟩
    have g4:¬ l.ownBlock=some (i+1):=λ d=>by have:=Ad I d;omega
    have g6:¬ l.ownBlock=some (i+1+1):=λ d=>by have:=Ad I d;omega
    have g5:Sl (¬ l.ownBlock=some i):=⟨λ d=>by have:=Ad I d;omega⟩
    obtain⟨j1,d2,d6,d7,d8⟩:=info_parts Be
    refine Bp [8] ?_
    refine Ag rfl (λ K hK=>?_)
    refine CP rfl rfl (.tmp 30) (.tmp 33) 24 rfl (wl.heap.size+2) 3 j1 (.int .i64 0) 1 8 Ar d2 d6 d7 d8 rfl (by omega) l (BK m).length (Az (BK m)) rfl I ⟨z.heap.size,0,none⟩ 1 _ [x.g] rfl rfl (World.news_of_block c3) (by intro u d4;simp at d4;subst d4;rfl) (by unfold maxLen;omega) (by omega) (by omega) ?_
    intro j3 B O d1 i7
    obtain⟨V,Z,Y,i8⟩:∃ a n c,j3=.slice a n c:=by
     rcases O.2 with ⟨d,_⟩|⟨g,cap,n4,d,_⟩
     .exact ⟨_,_,_,d⟩
     .exact ⟨_,_,_,d⟩
    subst i8
    clear d2 d6 d7 d8
    have F:Kp (λ b=>l.ownBlock=some b) A B:=(Kr _ A).grown d1 (λ k e _=>e)
    have N:=F.at_ c6 g4
    have a0:=F.at_ e1 g6
    have M:=F.at_ c1 k9.o
    have i2:=Ab N 3
    have i1:=(Cg N).2.2.2.1
    refine hK _ _ ?_ (λ i5=>?_)
    .exact ⟨cell_of_one a0,(Cg M).1⟩
    clear hK K
    try simp only[AB]
    refine Ap 9 ?_;refine Ap 10 ?_
    try simp only[AB]
    refine Bp [11] ?_
    refine Ag rfl (λ K hK=>?_)
    go_simp
    refine hK _ _ ?_ (λ i6=>?_)
    .exact ⟨cell_of_one (((Kr (λ k=>k=i+1) B).setCell (λ _=>rfl) _).at_ a0 (by omega)),(Cg (((Kr (λ k=>k=i+1) B).setCell (λ _=>rfl) _).at_ M (by omega))).1⟩
    clear hK K
    try simp only[AB]
    refine wpAnyH_done (by kernel_rfl) ?_ _
    have f3:=sE N
    have f9:=sE O
    have b7:=sE F
    have d0:∀ b,(Value.slice V Z Y).ownBlock=some b->wl.heap.size+2<=b:=λ b j=>(Ad O j).1
    have f5:=sE d0
    clear O d1 i7 i2 i1 i5 i6 I c6 e1 c1 c3 r d0
    obtain⟨v,T⟩:∃ v,v=B.setCell ⟨i+1,3,none⟩ (Value.slice V Z Y):=⟨_,rfl⟩
    rw[<- T]
    have U:Kp (λ k=>k=i+1) B v:=by rw[T];exact (Kr (λ k=>k=i+1) B).setCell (λ _=>rfl) _
    have H:=set5_3 f3.o (Value.slice V Z Y)
    rw[<- T] at H
    clear T
    have b0:=U.at_ a0 (by omega)
    have c2:=U.at_ M (by omega)
    obtain⟨e3,b2,a3,a4,i0⟩:=Cg c2
    have c0:=cell_of_one b0
    have n5:=(Cg H).2.2.2.2
    have f84:=Ab H 4
    have g2:=sE b0
    have f4:=sE H
    have b6:=sE U
    clear N a0 M b0 c2 H U F b2 a3 a4
    gi_wp2_with fail
    have y:Kp (λ k=>k=i+1) v (v.setCell ⟨i+1,4,none⟩ (.int .i64 ((x.g:Int)+(x.sz:Int)))):=(Kr (λ k=>k=i+1) v).setCell (λ _=>rfl) _
    have a5:=set5_4 f4.o (.int .i64 ((x.g:Int)+(x.sz:Int)))
    rw[show (x.g:Int)+(x.sz:Int)=((D+x.sz:Nat):Int) by have:=g3.o;omega] at a5 y ⊢
    have b9:Kp (λ k=>k=i\/k=i+1\/l.ownBlock=some k) C (v.setCell ⟨i+1,4,none⟩ (.int .i64 ((D+x.sz:Nat):Int))):=
     (((f7.o.mono λ b j d=>.inl d).trans b7.o (λ b j d=>.inr (.inr d))).trans b6.o (λ b j d=>.inr (.inl d))).trans y (λ b j d=>.inr (.inl d))
    have b8:Kp (λ k=>k=i+1) B (v.setCell ⟨i+1,4,none⟩ (.int .i64 ((D+x.sz:Nat):Int))):=b6.o.trans y (λ b j d=>d)
    refine⟨b9.mono λ b j d=>by rw[g0.o];exact d,_,(Value.slice V Z Y),D+x.sz,⟨a5,⟨n+1,by simp;omega,?_⟩,?_,g1.o⟩,y.at_ g2.o (by omega),rfl,?_⟩
    .rw [show Ez (m++[x])=(λ g=>Ez m g||g==(x.g:Int)) from funext λ g=>by
      rw[startI_add]
      have:((x.g:Int)==g)=(g==(x.g:Int)):=by rw[Bool.eq_iff_iff,beq_iff_eq,beq_iff_eq];exact eq_comm
      simp[ht,this]]
     exact(f8.o.keep b7.o g5.o).keep b8 (by omega)
    .rw [obsG_add,if_pos ht,Az,List.map_append,List.length_append]
     exact Af f9.o b8 (λ b j d=>by have:=f5.o b j;omega)
    .exact (b5.o.trans f6.o (λ b j d=>by omega)).trans b9 (λ b j d=>by
      rcases d with d|d|d
      .exact .inl d
      .exact .inr d
      .have:=Ad b1.o d;omega)
  .have f1:((x.tag:Int)==1)=false:=by simp;omega
   obtain⟨c4,c5,e4,e5,e6⟩:=Cg b3
   have o8:=Ab b3 4
   clear b3 c4 c5 e4 e5 a3 a4
   gi_wp2_with fail
   have y:Kp (λ k=>k=i+1) C (C.setCell ⟨i+1,4,none⟩ (.int .i64 ((x.g:Int)+(x.sz:Int)))):=(Kr (λ k=>k=i+1) C).setCell (λ _=>rfl) _
   have a5:=set5_4 k0.o (.int .i64 ((x.g:Int)+(x.sz:Int)))
   rw[show (x.g:Int)+(x.sz:Int)=((D+x.sz:Nat):Int) by have:=g3.o;omega] at a5 y ⊢
   refine⟨y.mono λ b j d=>by rw[g0.o];exact .inr (.inl d),_,l,D+x.sz,⟨a5,⟨n,by simp;omega,?_⟩,?_,g1.o⟩,y.at_ k6.o (by omega),rfl,?_⟩
   .rw [show Ez (m++[x])=Ez m from funext λ g=>by rw[startI_add];simp [ht]]
    exact k3.o.keep y (by omega)
   .rw [obsG_add,if_neg ht,List.append_nil]
    exact Af b1.o y (λ b j d=>by have:=Ad b1.o j;omega)
   .exact (b5.o.trans f6.o (λ b j d=>by omega)).trans y (λ b j d=>.inr d)
 case hdone=>
  rintro S q ⟨l,e,⟨G,⟨n,d3,L⟩,E,J⟩,a1,-,a2⟩ a8 n6
  obtain rfl:e=e2:=tiles_same J i9
  have c0:=cell_of_one a1
  have m7:=sE G
  have m8:=sE L
  have j9:=sE E
  have m9:=sE J
  have b5:=sE a2
  clear G L E J a2 e7 f2 f0 c7 c8
  gi_wp2_with fail
  refine⟨by simp,.inl ⟨_,_,rfl,run_takeDeferred n6,?_⟩⟩
  have e9:Kp (λ b=>b=wl.heap.size) q (q.putObj wl.heap.size (.deferred none)):=(Kr (λ b=>b=wl.heap.size) q).putObj (λ _=>rfl) _
  refine⟨.pointer (some ⟨i+1,0,none⟩),by simp[results,results74,go_sem],by rw[i4],⟨l,by rw[i4];exact ⟨e9.at_ m7.o (by omega),⟨n,d3,m8.o.keep e9 (by omega)⟩,BZ (Af j9.o e9 (λ b j d=>by have:=Ad j9.o j;omega)) (by omega),m9.o⟩⟩,?_⟩
  exact(g7.trans b5.o (λ b j d=>by omega)).trans e9 (λ b j d=>by omega)
 case hstop=>exact λ c m q p6 d=>d.elim

end

section
open Go.RowKit

theorem SWord_no(y:Nat)(w:World)(a:y<1048576\/1114112<=y)(f:y<18446744073709551616):Calls prog 174 #[.int .u64 y] w λ e w'=>e=.returned (.tuple #[(0:Int),.bool false])/\w'=w:=by
 by_cases h1:y<1048576
 .have b:decide ((y:Int)<1048576)=true:=dT (by omega)
  clear a
  go_enter func174,ntmps174
  go_wp2
  go_ret2
  exact⟨rfl,rfl⟩
 .have b:decide ((y:Int)<1048576)=false:=dF (by omega)
  have c:decide ((65536:Int)<=(y:Int)-1048576)=true:=dT (by omega)
  have d:IntKind.u64.wrap ((y:Int)-1048576)=(y:Int)-1048576:=by rw[IntKind.wrap_u64];omega
  clear a
  go_enter func174,ntmps174
  go_wp2
  go_ret2
  exact⟨rfl,rfl⟩

theorem SWord_yes(n:Nat)(w:World)(i:n<65536):Calls prog 174 #[.int .u64 ((1048576+n:Nat):Int)] w λ e w'=>e=.returned (.tuple #[n,.bool true])/\w'=w:=by
 obtain⟨y,a⟩:∃ y,y=1048576+n:=⟨_,rfl⟩
 rw[<- a]
 have b:Sl ((y:Int)-1048576=(n:Nat)):=⟨by omega⟩
 have c:decide ((y:Int)<1048576)=false:=dF (by omega)
 have d:decide ((65536:Int)<=(y:Int)-1048576)=false:=dF (by omega)
 have f:IntKind.u64.wrap ((y:Int)-1048576)=(y:Int)-1048576:=by rw[IntKind.wrap_u64];omega
 have g:IntKind.i64.wrap ((y:Int)-1048576)=(y:Int)-1048576:=by rw[IntKind.wrap_i64];omega
 clear a
 go_enter func174,ntmps174
 go_wp2
 go_ret2
 exact⟨by rw[b.o];rfl,rfl⟩

def tgt(cs:List Cel)(y:Nat):Int:=if 1048576<=y/\y<1114112/\(y-1048576)%2=0/\Ak cs ((y-1048576)/2)=true then (((y-1048576)/2:Nat):Int) else -1

theorem target_at(P:Sp)(l m base e:Nat)(cs:List Cel)(A:Value)(w:World)(v:Da w P l m base cs e A)(y:Nat)(f:y<18446744073709551616):
  Calls prog 130 #[.pointer (some l),.int .u64 y] w λ p w'=>p=.returned (.int .i64 (tgt cs y))/\w'=w:=by
 obtain⟨j,⟨n,D,z⟩,-,-⟩:=v
 obtain⟨r,s,C,t,u⟩:=Cg j
 clear r s t u j
 by_cases hb:1048576<=y/\y<1114112
 .obtain ⟨k,rfl⟩:∃ k,y=1048576+k:=⟨y-1048576,by omega⟩
  have x:k<65536:=by omega
  have b:=sE (SWord_yes k w x)
  have c:tgt cs (1048576+k)=if k%2=0/\Ak cs (k/2)=true then ((k/2:Nat):Int) else -1:=by
   unfold tgt
   rw[show 1048576+k-1048576=k by omega]
   by_cases q:k%2=0/\Ak cs (k/2)=true
   .rw [if_pos q,if_pos ⟨by omega,by omega,q.1,q.2⟩]
   .rw [if_neg q,if_neg (λ a=>q ⟨a.2.2.1,a.2.2.2⟩)]
  rw[c]
  have i:Sl ((k:Int)/2=((k/2:Nat):Int)):=⟨by omega⟩
  have d:=z.look (wf_small (g:=k/2) (by omega))
  rw[startI_nat,<- i.o] at d
  clear c hb f
  by_cases q1:k%2=0
  .have B:((k:Int)%2 !=0)=false:=by simp;omega
   cases q2:Ak cs (k/2) with
   |true=>
    rw[q2] at d
    rw[if_pos ⟨q1,rfl⟩,<- i.o]
    clear q1 q2
    go_enter func130,ntmps130
    go_wp2_with fail
    refine b.o.mono ?_
    rintro e w' ⟨rfl,rfl⟩
    go_wp2
    go_ret
    exact⟨rfl,rfl⟩
   |false=>
    rw[q2] at d
    rw[if_neg (by simp)]
    clear q1 q2
    go_enter func130,ntmps130
    go_wp2_with fail
    refine b.o.mono ?_
    rintro e w' ⟨rfl,rfl⟩
    go_wp2
    go_ret
    exact⟨rfl,rfl⟩
  .have B:((k:Int)%2 !=0)=true:=by simp;omega
   rw[if_neg (λ a=>q1 a.1)]
   clear q1 d
   go_enter func130,ntmps130
   go_wp2_with fail
   refine b.o.mono ?_
   rintro e w' ⟨rfl,rfl⟩
   go_wp2
   go_ret
   exact⟨rfl,rfl⟩
 .have b:=sE (SWord_no y w (by omega) f)
  have c:tgt cs y=-1:=by unfold tgt;rw [if_neg (λ a=>hb ⟨a.1,a.2.1⟩)]
  rw[c]
  clear c hb f
  go_enter func130,ntmps130
  go_wp2_with fail
  refine b.o.mono ?_
  rintro e w' ⟨rfl,rfl⟩
  go_wp2
  go_ret
  exact⟨rfl,rfl⟩

end

section
open Go.RowKit

def slotN(ts:List TypR)(c:Cel):Nat:=if c.tag=1 then (match typeOf ts (c.ty:Nat) with|some x=>(AZ x.k x.wds (c.ln:Nat)).toNat|none=>0) else 0

theorem slotN_room{ts:List TypR}{c:Cel}(b:Di ts c)(g:0<c.sz):slotN ts c+1<=2*c.sz:=by
 unfold slotN
 split
 .rename_i d
  obtain⟨f,a⟩:=b.2 d
  split
  .rename_i x e
   unfold BB at a
   rw[e] at a
   simp only[FK] at a
   omega
  .omega
 .omega

def cnt(p:Nat->Bool):Nat->Nat
 |0=>0
 |k+1=>cnt p k+(if p k then 1 else 0)

end

end Go.Proofs.YtfkedlgpgmaemaaGreatDoor
