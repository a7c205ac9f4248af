/-
  Lemmas for the laws, together: SpacePut.
-/
import Derived.Test.YtfkedlgpgmaemaaGreatDoorQag
import Derived.Test.YtfkedlgpgmaemaaGreatDoorQaa
import Derived.Stop.RegionWithIn
set_option linter.unusedVariables false
set_option maxHeartbeats 16000000
namespace Go.Proofs.YtfkedlgpgmaemaaGreatDoor
open Tryz
section
open Go.RowKit
attribute [local go_sem] Oper.semAt_some

def cellV(c:Cel):Value:=.agg #[c.g,.int .u8 c.tag,c.ty,c.ln,c.sz]

theorem dec_enc{tag ty ln sz:Nat}(a:Am tag ty ln sz=true):CE (BA tag ty ln sz)=tag/\EA (BA tag ty ln sz)=ty/\EX (BA tag ty ln sz)=ln/\DY (BA tag ty ln sz)=sz/\Ct (BA tag ty ln sz)=true:=by
  have b:CE (BA tag ty ln sz)=tag:=by rw[CE,Nat.div_one];exact encH_tag a
  have c:EA (BA tag ty ln sz)=ty:=encH_ty a
  have d:EX (BA tag ty ln sz)=ln:=encH_ln a
  have e:DY (BA tag ty ln sz)=sz:=encH_sz a
  have f:gapW (BA tag ty ln sz)=0:=encH_gap a
  refine⟨b,c,d,e,?_⟩
  rw[Ct,b,c,d,e,f,a];rfl

theorem SHead_cell(c:Cel)(P:Sp)(W:Nat->Nat)(f:Nat->Bool)(w:World)(b:SpaceAt w P W f)(o:c.g<P.n/2)(m:W (2*c.g)=BA c.tag c.ty c.ln c.sz)(p:Di P.ts c):
    Calls prog 76 #[.pointer (some P.a),c.g] w (RK (.tuple #[Ao (c.tag:Nat) (c.ty:Nat) (c.ln:Nat) (c.sz:Nat),(0:Int)]) w):=by
  have d:=SHead_at c.g P.a P.q P.n W w b.fl b.ar o
  obtain⟨e,i,j,k,l⟩:=dec_enc p.1
  rw[m,e,i,j,k,l] at d
  exact d.mono λ_ _ r=>r

theorem Fits_cell(c:Cel)(P:Sp)(W:Nat->Nat)(f:Nat->Bool)(w:World)(a:SpaceAt w P W f)(i:Di P.ts c):
    Calls prog 78 #[.pointer (some P.t),Ao (c.tag:Nat) (c.ty:Nat) (c.ln:Nat) (c.sz:Nat)] w (RK (.int .i64 0) w):=by
  obtain⟨b,d⟩:=i
  by_cases ht:c.tag=1
  . obtain⟨e,g⟩:=d ht
    rw[ht] at b ⊢
    exact Fits_obj c.ty c.ln c.sz P.t P.tq P.ts w a.fl a.tb b e g
  . exact Fits_gap c.tag c.ty c.ln c.sz _ w a.fl b (by omega)

theorem cells_fn(P:Sp)(w:World):
    Calls prog 139 #[.pointer (some P.s)] w λ e w'=>
      e=.returned (.func (.func 179) #[] #[.pointer (some w.heap.size)])/\w.alloc (.cells #[.pointer (some P.s)] 28)=w':=by
  have a:∀ (fn:Fn) (first cap:Array Value) (w:World),(Instr.makeFunc fn first cap).run prog w=.ok (.func fn first cap) w:=λ _ _ _ _=>rfl
  go_enter func139,ntmps139
  go_wp2
  go_ret
  exact⟨rfl,rfl⟩

variable {Pr:Program} {n:Nat}

theorem En{o:Oper}{a:Act}{K:Act->World->Prop}{Q:Exit->Act->World->Prop}{l:Nat}{args g:Array Value}{W:World}{T f:World->Prop}
    (j:YieldAt Fence.wide 0 Pr l args W λ e c=>(e=.returned (.bool true)/\T c)\/(e=.returned (.bool false)/\f c)) (e:g=args)
    (i:∀ (b:Bool) (c:World),(b=true/\T c)\/(b=false/\f c)->K (a.put o.dst (.bool b)) c):o.uponIn Fence.wide n Pr a K Q ((Instr.yield l g).run Pr W):=
  uponIn_yield2 j e (λ c d=>i true c (.inl ⟨rfl,d⟩)) (λ c d=>i false c (.inr ⟨rfl,d⟩))

set_option maxRecDepth 20000 in
theorem cells_iter3(P:Sp)(m:Nat->Nat)(f:Nat->Bool)(cs:List Cel)(w:World)(x:Nat)(d:SpaceAt w P m f)(z:CellsAt P m cs)(a2:w.heap[x]?=some (.cells #[.pointer (some P.s)] 28 (0,0)))
    {R:Nat->Prop} (a0:∀ k,R k->k<w.heap.size/\¬ k=x/\¬ P.all k):
    IterAt3 prog 179 #[.pointer (some x)] (λ c=>#[cellV c]) cs Aa R w:=by
  intro l b9 e6 S0 W N g0 g1 a1 d3 f5 d6 c9
  have SW:=d.Ac N
  have c3:=N.at_ a2 id
  have lb:=lZ a2
  have e0:=d.lt
  have d7:=d.ar.small
  obtain⟨H,M⟩:∃ H,P.n/2=H:=⟨_,rfl⟩
  have a7:=z.tl
  have U:Sl (∀ w',SpaceAt w' P m f->Calls prog 89 #[.pointer (some P.s)] w' λ e B=>e=.returned (.int .i64 (H:Nat))/\B=w'):=⟨λ w' y=>by rw[<- M];exact FE P m f w' y⟩
  have b3:Sl (∀ w',SpaceAt w' P m f->∀ c∈cs,c.g<H->Calls prog 76 #[.pointer (some P.a),c.g] w' λ e B=>e=.returned (.tuple #[Ao (c.tag:Nat) (c.ty:Nat) (c.ln:Nat) (c.sz:Nat),(0:Int)])/\Kp Aa w' B):=
    ⟨λ w' y c F f8=>SHead_cell c P m f w' y (by omega) (z.hd c F) (z.ok c F)⟩
  have b2:Sl (∀ w',SpaceAt w' P m f->∀ c∈cs,Calls prog 78 #[.pointer (some P.t),Ao (c.tag:Nat) (c.ty:Nat) (c.ln:Nat) (c.sz:Nat)] w' λ e B=>e=.returned (.int .i64 0)/\Kp Aa w' B):=
    ⟨λ w' y c F=>Fits_cell c P m f w' y (z.ok c F)⟩
  rw[M] at a7
  have f4:H<=32768:=by omega
  clear M z d7
  refine(callsIn_wide (n:=0)).1 ?_
  refine callsIn_of_wp func179 rfl trivial ?_
  simp only[ntmps179,List.size_toArray,List.length_cons,List.length_nil,Nat.reduceAdd,Nat.reduceSub,Array.replicate_succ,Array.replicate_zero,List.push_toArray,List.append_toArray,List.nil_append,List.cons_append]
  gi_wp2
  gi_loopw [3,4,5] (λ Q e4 e5 wr=>∃ (r rest:List Cel) (g:Nat) (S:Nat->Prop),Q=.int .i64 g/\cs=r++rest/\AC g rest H/\b9 r S wr/\Kp (λ k=>R k\/k=l) W wr)
    (λ Q e4 e5 wr=>H-(intOf Q).toNat)
  case atStart=>exact ⟨[],cs,0,S0,rfl,rfl,a7,c9,Kr _ _⟩
  case round=>
    obtain⟨r,rest,g,S,rfl,A,a4,E,I⟩:=hrel
    have v:SpaceAt wr P m f:=SW.keep I (λ i O j=>by
      have:=e0 i O
      rcases j with j|j
      . exact(a0 i j).2.2 O
      . omega)
    have Y:wr.heap[x]?=some (.cells #[.pointer (some P.s)] 28 (0,0)):=I.at_ c3 (λ j=>by
      rcases j with j|j
      . exact(a0 x j).2.1 rfl
      . omega)
    have e7:=cell_of_one Y
    have b4:=sE v
    have K:=sE (U.o wr v)
    cases rest with
    |nil=>
      obtain rfl:g=H:=a4
      gi_wp2_with fail
      refine⟨trivial,rfl,?_⟩
      refine(callsIn_wide.2 K.o).mono ?_
      rintro e w' ⟨rfl,rfl⟩
      gi_wp2_with fail
      go_end0
      exact⟨⟨_,rfl⟩,.inl ⟨S,by rw[A,List.append_nil];exact E⟩⟩
    |cons c rest=>
      obtain⟨rfl,f6,a5⟩:=a4
      have g2:=a5.le
      have a3:c∈cs:=by rw[A];simp
      have f9:(c.g:Int)<(H:Int):=by omega
      obtain⟨e1,e2,e3⟩:=v.head
      have T:=sE (b3.o wr v c a3 (by omega))
      gi_wp2_with fail
      refine⟨trivial,rfl,?_⟩
      refine(callsIn_wide.2 K.o).mono ?_
      rintro e w' ⟨rfl,rfl⟩
      gi_wp2_with fail
      refine⟨trivial,rfl,?_⟩
      refine(callsIn_wide.2 T.o).mono ?_
      rintro e w1 ⟨rfl,a6⟩
      unfold Ao
      obtain⟨w2,G⟩:∃ w2,w2=w1.alloc (.cells #[.int .u8 c.tag,c.ty,c.ln,c.sz] 111):=⟨_,rfl⟩
      have d9:Kp Aa w1 w2:=by rw[G];exact (Kr _ w1).alloc _
      have X:w2.heap[w1.heap.size]?=some (.cells #[.int .u8 c.tag,c.ty,c.ln,c.sz] 111 (0,0)):=by rw[G];exact wN w1 _
      gi_wp2_with fail
      rw[<- G]
      clear G
      have C:Kp Aa w' w2.drew:=(a6.then' d9).drew
      have D:=v.Ac C
      have c2:=C.at_ Y id
      have u:w2.drew.heap[w1.heap.size]?=some (.cells #[.int .u8 c.tag,c.ty,c.ln,c.sz] 111 (0,0)):=X
      obtain⟨e1,e2,e3⟩:=D.head
      have c4:=cell_of_one c2
      have c5:w2.drew.cell? w1.heap.size=some (.int .u8 c.tag):=by simp[World.cell?,u]
      have c6:w2.drew.cell? ⟨w1.heap.size,1,none⟩=some (.int .i64 c.ty):=by simp[World.cell?,u]
      have c7:w2.drew.cell? ⟨w1.heap.size,2,none⟩=some (.int .i64 c.ln):=by simp[World.cell?,u]
      have c8:w2.drew.cell? ⟨w1.heap.size,3,none⟩=some (.int .i64 c.sz):=by simp[World.cell?,u]
      have J:=b2.o w2.drew D c a3
      unfold Ao at J
      have b0:=sE J
      have b5:=sE D
      have b8:=sE u
      clear J D u X K T b4
      have f7:decide ((H:Int)-(c.g:Int)<(c.sz:Int))=false:=dF (by omega)
      have g3:IntKind.i64.wrap ((H:Int)-(c.g:Int))=(H:Int)-(c.g:Int):=by rw[IntKind.wrap_i64];omega
      have d8:∀ k,S k\/k=l->¬ k=w1.heap.size:=by
        intro k q
        have g7:=N.size
        have g8:=I.size
        have g9:=a6.size
        rcases q with q|q
        . have:=(a1 r S _ E k q).2
          omega
        . omega
      have d4:∀ i,i<W.heap.size->(S i\/i=l)->(R i\/i=l):=by
        intro i O d
        rcases d with d|d
        . rcases (a1 r S _ E i d).1 with d|d
          . exact .inl d
          . omega
        . exact .inr d
      gi_region_with (first
        |(refine ⟨trivial,rfl,?_⟩)
        | (gi_at_call 78;refine (callsIn_wide.2 b0.o).mono ?_;rintro e a8 ⟨rfl,p⟩
           have L:=b5.o.Ac p
           have Z:=p.at_ b8.o id
           obtain⟨g4,g5,g6⟩:=L.head
           have e8:=p.cell c4 id
           have f0:=p.cell c5 id
           have f1:=p.cell c6 id
           have f2:=p.cell c7 id
           have f3:=p.cell c8 id
           have b1:=sE (U.o a8 L)
           have V:=d3 _ _ _ _ E (C.then' p)
           have b6:=sE (d6 r S c rest a8 A V)
           have b7:=sE Z
           clear L Z V)
        |(gi_at_call 89;refine (callsIn_wide.2 b1.o).mono ?_;rintro e w' ⟨rfl,rfl⟩)
        |(refine En b6.o rfl ?_;intro b a9 d0))
      all_goals
        rcases d0 with ⟨rfl,q,S',d5⟩|⟨rfl,d2⟩
        . have d1:=q.at_ b7.o (λ j=>d8 _ j rfl)
          have e9:a9.cell? ⟨w1.heap.size,3,none⟩=some (.int .i64 c.sz):=by simp[World.cell?,d1]
          have c0:=(I.trans C (λ _ _ d=>d.elim)).trans p (λ _ _ d=>d.elim)
          have c1:=c0.trans q d4
          gi_wp2_with fail
          exact⟨⟨r++[c],rest,c.g+c.sz,S',by simp,by rw[A,List.append_assoc];rfl,a5,d5,c1⟩,by simp only[intOf];omega⟩
        . gi_wp2_with fail
          refine bodyPost_ret (results_none rfl _ _ _) rfl ?_
          exact⟨⟨_,rfl⟩,.inr ⟨_,⟨_,by rw[A,List.append_assoc];rfl⟩,d2⟩⟩

theorem cells_iter(P:Sp)(b:Nat->Nat)(f:Nat->Bool)(cs:List Cel)(w:World)(a:Nat)(e:SpaceAt w P b f)(i:CellsAt P b cs)(g:w.heap[a]?=some (.cells #[.pointer (some P.s)] 28 (0,0)))
    {R X:Nat->Prop} (d:∀ k,R k->k<w.heap.size/\¬ k=a/\¬ P.all k):
    IterAt2 prog 179 #[.pointer (some a)] (λ c=>#[cellV c]) cs Aa R X w:=
  (cells_iter3 P b f cs w a e i g d).two (λ k j=>(d k j).1)

end

section
open Go.RowKit
attribute [local go_sem] Oper.semAt_some

def AQ(w:World)(P:Sp)(W:Nat->Nat)(cs:List Cel):Prop:=∃ f,SpaceAt w P W f/\CellsAt P W cs/\∀ i,i<P.n/2->f i=Ak cs i

def SpaceHas(w:World)(P:Sp)(cs:List Cel):Prop:=∃ W,AQ w P W cs

theorem AQ.keep{S:Nat->Prop}{w w':World}{P:Sp}{W:Nat->Nat}{cs:List Cel}(d:AQ w P W cs)(k:Kp S w w')(e:∀ i,P.all i->¬ S i):AQ w' P W cs:=
  let ⟨f,a,b,c⟩:=d;⟨f,a.keep k e,b,c⟩

theorem AQ.Ac{w w':World}{P:Sp}{W:Nat->Nat}{cs:List Cel}(h:AQ w P W cs)(k:Kp Aa w w'):AQ w' P W cs:=h.keep k (λ _ _ h=>h)

theorem Bl{w w':World}{p:Addr}{v:Value}(h:Kp Aa w w')(c:w.cell? p=some v):w'.cell? p=some v:=h.cell c id

theorem Kp.Av{w w':World}(a:Kp Aa w w'){b j:Nat}(d:w.heap.size<=b)(v:Value):Kp Aa w (w'.setCell ⟨b,j,none⟩ v):=
  a.setCell (λ c=>by have:b<w.heap.size:=c;omega) v

theorem KU{w w':World}(h:Kp Aa w w':=by repeat (first|assumption|exact Kr _ _|refine Kp.drew ?_|refine Kp.alloc ?_ _|refine Kp.Av ?_ (by omega) _)):Kp Aa w w':=h

def PutPostW(P:Sp)(cs:List Cel)(W:Nat->Nat)(g id n:Int)(w:World)(e:Ending)(w':World):Prop:=
  e=.returned (.int .i64 (DW P.ts (P.n/2) cs g id n))/\Kp P.own w w'/\
    ((¬ DW P.ts (P.n/2) cs g id n=0/\AQ w' P W cs)\/
     (DW P.ts (P.n/2) cs g id n=0/\∃ (pre:List Cel) (c:Cel) (post:List Cel) (j i l S:Nat),cs=pre++c::post/\¬ c.tag=1/\g=(j:Nat)/\id=(i:Nat)/\n=(l:Nat)/\BB P.ts id n=(S:Nat)/\
        c.g<=j/\j+S<=c.fin/\0<S/\AQ w' P (putW W c j i l S) (putL pre c post j i l S)))

set_option maxRecDepth 20000 in
theorem Put_err(g c n:Int)(P:Sp)(cs:List Cel)(w:World)(W:Nat->Nat)(b:AQ w P W cs)(v:¬ AV P.ts c n=0):
    Calls prog 95 #[.pointer (some P.s),.int .i64 g,.int .i64 c,.int .i64 n] w (PutPostW P cs W g c n w):=by
  have H:Sl (DW P.ts (P.n/2) cs g c n=AV P.ts c n):=⟨by rw[DW,if_pos v]⟩
  have z:Sl (∀ m Z a3,SpaceAt m P Z a3->Calls prog 135 #[.pointer (some P.t),.int .i64 c,.int .i64 n] m (RK (.tuple #[.agg #[.int .u8 0,(0:Int),(0:Int),(0:Int)],.int .i64 (AV P.ts c n)]) m)):=
    ⟨λ m _ _ a5=>(EE c n P.t P.tq P.ts m a5.tb).mono λ e w' Q=>by rw[BR,if_neg v] at Q;exact Q⟩
  obtain⟨k,G⟩:∃ k,AV P.ts c n=k:=⟨_,rfl⟩
  rw[G] at z H
  have N:¬ k=0:=by rw[<- G];exact v
  have b7:(k !=0)=true:=by simpa using N
  clear v G
  obtain⟨f,x,M,R⟩:=b
  have K:=sE x
  have V:=sE M
  have X:=sE R
  obtain⟨a,j⟩:∃ a,a=((((w.alloc (.cells #[.pointer (some P.s)] 28)).alloc (.cells #[.int .i64 g] 3)).alloc (.cells #[.int .i64 c] 3)).alloc (.cells #[.int .i64 n] 3)).alloc (.cells #[(0:Int)] 35):=⟨_,rfl⟩
  have S:Kp Aa w a:=by rw[j];exact (((((Kr _ w).alloc _).alloc _).alloc _).alloc _).alloc _
  have c2:Sl (a.heap.size=w.heap.size+1+1+1+1+1):=⟨by rw[j];simp⟩
  have C:a.heap[w.heap.size]?=some (.cells #[.pointer (some P.s)] 28 (0,0)):=by
    rw[j];exact ((((Kr Aa _).alloc _).alloc _).alloc _ |>.alloc _).at_ (wN w _) (λ b=>b)
  have D:a.heap[w.heap.size+1]?=some (.cells #[.int .i64 g] 3 (0,0)):=by
    rw[j];exact (((Kr Aa _).alloc _).alloc _ |>.alloc _).at_ (BF _ _ (by simp)) (λ b=>b)
  have E:a.heap[w.heap.size+1+1]?=some (.cells #[.int .i64 c] 3 (0,0)):=by
    rw[j];exact ((Kr Aa _).alloc _ |>.alloc _).at_ (BF _ _ (by simp)) (λ b=>b)
  have F:a.heap[w.heap.size+1+1+1]?=some (.cells #[.int .i64 n] 3 (0,0)):=by
    rw[j];exact ((Kr Aa _).alloc _).at_ (BF _ _ (by simp)) (λ b=>b)
  have r:a.heap[w.heap.size+1+1+1+1]?=some (.cells #[(0:Int)] 35 (0,0)):=by
    rw[j];exact BF _ _ (by simp)
  have B:=x.Ac S
  have I:=sE (And.intro C (And.intro D (And.intro E (And.intro F r))))
  have c0:=cell_of_one C
  have a8:=cell_of_one D
  have a0:=cell_of_one E
  have a1:=cell_of_one F
  have L:=cell_of_one r
  have a4:=free_of_one r
  obtain⟨b9,a6,c1⟩:=B.head
  have J:=sE B
  have b8:=x.lt P.s (by simp[Sp.all])
  clear x M R B C D E F r
  refine(callsIn_wide (n:=0)).1 ?_
  refine callsIn_of_wp_marks func95 rfl trivial ?_
  simp only[ntmps95,List.size_toArray,List.length_cons,List.length_nil,Nat.reduceAdd,Nat.reduceSub,Array.replicate_succ,Array.replicate_zero,List.push_toArray,List.append_toArray,List.nil_append,List.cons_append]
  gi_wp2_with fail
  try rw[<- j]
  clear j
  gi_wp2_with fail
  refine wpIn_wide.2 ?_
  go_region_held3 (λ w'=>w'.cell? w.heap.size=some (.pointer (some P.s))/\w'.cell? ⟨w.heap.size+1+1,0,none⟩=some (.int .i64 c)/\w'.cell? ⟨w.heap.size+1+1+1,0,none⟩=some (.int .i64 n)/\w'.cell? ⟨P.s,1,none⟩=some (.pointer (some P.t)))
    (exact ⟨Bl KU c0,Bl KU a0,Bl KU a1,Bl KU a6⟩)
    (first
      | (go_at_call 135;with_reducible refine(z.o a.drew W f (J.o.Ac (Kr Aa _).drew)).mono ?_;rintro e l ⟨rfl,y⟩
         have A:Kp Aa a l:=(Kr Aa a).drew.then' y
         have Y:=A.size)
      | (go_at_call 135;with_reducible refine(z.o (a.alloc (.cells #[.int .u8 0,(0:Int),(0:Int),(0:Int)] 111)).drew W f (J.o.Ac ((Kr Aa _).alloc _).drew)).mono ?_;rintro e l ⟨rfl,y⟩
         have A:Kp Aa a l:=((Kr Aa a).alloc _).drew.then' y
         have Y:=A.size
         have d:=y.at_ (show (a.alloc (.cells #[.int .u8 0,(0:Int),(0:Int),(0:Int)] 111)).drew.heap[a.heap.size]?=_ from wN a _) (λ b=>b)
         have b3:=Ab d 0
         have b4:=Ab d 1
         have b5:=Ab d 2
         have b6:=Ab d 3
         have a9:l.cell? a.heap.size=some (.int .u8 0):=by simp[World.cell?,d]
         have b0:l.cell? ⟨a.heap.size,1,none⟩=some (.int .i64 0):=by simp[World.cell?,d]
         have b1:l.cell? ⟨a.heap.size,2,none⟩=some (.int .i64 0):=by simp[World.cell?,d]
         have b2:l.cell? ⟨a.heap.size,3,none⟩=some (.int .i64 0):=by simp[World.cell?,d]
         have a7:=sE d
         clear d))
  all_goals
    first
      | (generalize p:World.setCell _ _ _=wz
         have q:Kp Aa a wz:=by rw[<- p];(repeat (first|assumption|exact Kr _ _|refine Kp.drew ?_|refine Kp.alloc ?_ _|refine Kp.Av ?_ (by omega) _))
         clear p)
      | (generalize p:World.alloc _ _=wz
         have q:Kp Aa a wz:=by rw[<- p];(repeat (first|assumption|exact Kr _ _|refine Kp.drew ?_|refine Kp.alloc ?_ _|refine Kp.Av ?_ (by omega) _))
         clear p)
    replace L:=q.cell L (λ b=>b)
    have a4:=free_of_one (q.at_ I.o.2.2.2.2 (λ b=>b))
    gi_wp2_with fail
    have U:Kp (λ i=>i=w.heap.size+1+1+1+1) wz (wz.setCell ⟨w.heap.size+1+1+1+1,0,none⟩ (.int .i64 k)):=(Kr (λ i=>i=w.heap.size+1+1+1+1) wz).setCell (λ _=>rfl) _
    have a2:=cell_of_one (one_setCell (u:=.int .i64 k) (q.at_ I.o.2.2.2.2 (λ b=>b)))
    have T:Kp Aa w wz:=S.then' q
    refine⟨.int .i64 k,by simp[results,results95,go_sem,a2],by rw[H.o],(T.Aw P.own).trans U (λ i O b=>by omega),.inl ⟨by rw[H.o];exact N,?_⟩⟩
    refine AQ.keep ⟨f,K.o.Ac T,V.o,X.o⟩ U (λ i O b=>by have:=K.o.lt i O;omega)

end

end Go.Proofs.YtfkedlgpgmaemaaGreatDoor
