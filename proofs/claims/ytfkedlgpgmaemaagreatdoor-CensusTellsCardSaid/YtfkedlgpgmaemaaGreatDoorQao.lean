/-
  Lemmas for the laws, together: SpacePuts.
-/
import Derived.Test.YtfkedlgpgmaemaaGreatDoorQal
import Derived.Test.YtfkedlgpgmaemaaGreatDoorQad
import Derived.Test.YtfkedlgpgmaemaaGreatDoorQae
import Derived.Test.YtfkedlgpgmaemaaGreatDoorQag
import Derived.Laws.EntriesVeiled
set_option linter.unusedVariables false
set_option maxHeartbeats 16000000
namespace Go.Proofs.YtfkedlgpgmaemaaGreatDoor
open Tryz
section
open Go.RowKit
attribute [local go_sem] Oper.semAt_some

set_option maxRecDepth 20000 in
theorem Put_out(g:Int)(i l S:Nat)(P:Sp)(cs:List Cel)(w:World)(W:Nat->Nat)(z:AQ w P W cs)(Z:AV P.ts (i:Nat) (l:Nat)=0)(b0:BB P.ts (i:Nat) (l:Nat)=(S:Nat))(q:g<0\/((P.n/2:Nat):Int)<=g):
    Calls prog 95 #[.pointer (some P.s),.int .i64 g,.int .i64 (i:Nat),l] w (PutPostW P cs W g (i:Nat) (l:Nat) w):=by
  have F:Sl (DW P.ts (P.n/2) cs g (i:Nat) (l:Nat)=2):=⟨by rw[DW,if_neg (by simpa using Z),if_pos q]⟩
  have a4:Sl (∀ k v y,SpaceAt k P v y->Calls prog 135 #[.pointer (some P.t),.int .i64 (i:Nat),l] k (RK (.tuple #[.agg #[.int .u8 1,.int .i64 (i:Nat),l,S],(0:Int)]) k)):=
    ⟨λ k _ _ X=>(EE (i:Nat) (l:Nat) P.t P.tq P.ts k X.tb).mono λ e w' b2=>by rw[BR,Z,if_pos rfl,b0] at b2;exact b2⟩
  obtain⟨H,Y⟩:∃ H,P.n/2=H:=⟨_,rfl⟩
  have a3:Sl (∀ k v y,SpaceAt k P v y->Calls prog 89 #[.pointer (some P.s)] k λ e c2=>e=.returned (.int .i64 (H:Nat))/\c2=k):=⟨λ w' v y X=>by rw[<- Y];exact FE P v y w' X⟩
  rw[Y] at q
  clear Z b0 Y
  obtain⟨f,G,b1,b3⟩:=z
  have D:=sE G
  have a2:=sE b1
  have a5:=sE b3
  obtain⟨a,m⟩:∃ a,a=((((w.alloc (.cells #[.pointer (some P.s)] 28)).alloc (.cells #[.int .i64 g] 3)).alloc (.cells #[.int .i64 (i:Nat)] 3)).alloc (.cells #[l] 3)).alloc (.cells #[(0:Int)] 35):=⟨_,rfl⟩
  have a0:Kp Aa w a:=by rw[m];exact (((((Kr _ w).alloc _).alloc _).alloc _).alloc _).alloc _
  have d5:Sl (a.heap.size=w.heap.size+1+1+1+1+1):=⟨by rw[m];simp⟩
  have R:a.heap[w.heap.size]?=some (.cells #[.pointer (some P.s)] 28 (0,0)):=by
    rw[m];exact ((((Kr Aa _).alloc _).alloc _).alloc _ |>.alloc _).at_ (wN w _) id
  have T:a.heap[w.heap.size+1]?=some (.cells #[.int .i64 g] 3 (0,0)):=by
    rw[m];exact (((Kr Aa _).alloc _).alloc _ |>.alloc _).at_ (BF _ _ (by simp)) id
  have U:a.heap[w.heap.size+1+1]?=some (.cells #[.int .i64 (i:Nat)] 3 (0,0)):=by
    rw[m];exact ((Kr Aa _).alloc _ |>.alloc _).at_ (BF _ _ (by simp)) id
  have V:a.heap[w.heap.size+1+1+1]?=some (.cells #[l] 3 (0,0)):=by
    rw[m];exact ((Kr Aa _).alloc _).at_ (BF _ _ (by simp)) id
  have E:a.heap[w.heap.size+1+1+1+1]?=some (.cells #[(0:Int)] 35 (0,0)):=by
    rw[m];exact BF _ _ (by simp)
  have O:=G.Ac a0
  have L:=sE (And.intro R (And.intro T (And.intro U (And.intro V E))))
  have c0:=cell_of_one R
  have a8:=cell_of_one T
  have b5:=cell_of_one U
  have b6:=cell_of_one V
  have a9:=cell_of_one E
  have b7:=free_of_one E
  obtain⟨d3,c1,d4⟩:=O.head
  have M:=sE O
  have d2:=G.lt P.s (by simp[Sp.all])
  clear G b1 b3 O R T U V E
  refine(callsIn_wide (n:=0)).1 ?_
  refine callsIn_of_wp_marks func95 rfl trivial ?_
  simp only[ntmps95,List.size_toArray,List.length_cons,List.length_nil,Nat.reduceAdd,Nat.reduceSub,Array.replicate_succ,Array.replicate_zero,List.push_toArray,List.append_toArray,List.nil_append,List.cons_append]
  gi_wp2_with fail
  try rw[<- m]
  clear m
  gi_wp2_with fail
  refine wpIn_wide.2 ?_
  go_region_held3 (λ w'=>w'.cell? w.heap.size=some (.pointer (some P.s))/\w'.cell? ⟨w.heap.size+1+1,0,none⟩=some (.int .i64 (i:Nat))/\w'.cell? ⟨w.heap.size+1+1+1,0,none⟩=some (.int .i64 l)/\w'.cell? ⟨P.s,1,none⟩=some (.pointer (some P.t)))
    (exact ⟨Bl KU c0,Bl KU b5,Bl KU b6,Bl KU c1⟩)
    (first
      | (go_at_call 135;with_reducible refine(a4.o a.drew W f (M.o.Ac (Kr Aa _).drew)).mono ?_;rintro e b ⟨rfl,I⟩
         have N:Kp Aa a b:=(Kr Aa a).drew.then' I
         have a6:=N.size)
      | (go_at_call 135;with_reducible refine(a4.o (a.alloc (.cells #[.int .u8 0,(0:Int),(0:Int),(0:Int)] 111)).drew W f (M.o.Ac ((Kr Aa _).alloc _).drew)).mono ?_;rintro e b ⟨rfl,I⟩
         have N:Kp Aa a b:=((Kr Aa a).alloc _).drew.then' I
         have a6:=N.size
         have c:=I.at_ (show (a.alloc (.cells #[.int .u8 0,(0:Int),(0:Int),(0:Int)] 111)).drew.heap[a.heap.size]?=_ from wN a _) id
         have c7:=Ab c 0
         have c8:=Ab c 1
         have c9:=Ab c 2
         have d0:=Ab c 3
         have c3:b.cell? a.heap.size=some (.int .u8 0):=by simp[World.cell?,c]
         have c4:b.cell? ⟨a.heap.size,1,none⟩=some (.int .i64 0):=by simp[World.cell?,c]
         have c5:b.cell? ⟨a.heap.size,2,none⟩=some (.int .i64 0):=by simp[World.cell?,c]
         have c6:b.cell? ⟨a.heap.size,3,none⟩=some (.int .i64 0):=by simp[World.cell?,c]
         have b4:=sE c
         clear c))
  all_goals
    first
      | (generalize r:World.setCell _ _ _=wz
         have d:Kp Aa a wz:=by rw[<- r];(repeat (first|assumption|exact Kr _ _|refine Kp.drew ?_|refine Kp.alloc ?_ _|refine Kp.Av ?_ (by omega) _))
         have x:wz.heap[a.heap.size]?=some (.cells #[.int .u8 1,.int .i64 (i:Nat),l,S] 111 (0,0)):=by
           rw[<- r];exact bZ (bZ (bZ (bZ b4.o (j:=0) _) (j:=1) _) (j:=2) _) (j:=3) _
         have a1:a.heap.size<wz.heap.size:=lZ x
         have J:a.heap.size<=a.heap.size:=Nat.le_refl _
         generalize hb9:a.heap.size=b9 at x a1 J ⊢
         replace J:a.heap.size<=b9:=by omega
         clear r)
      | (generalize r:World.alloc _ _=wz
         have d:Kp Aa a wz:=by rw[<- r];(repeat (first|assumption|exact Kr _ _|refine Kp.drew ?_|refine Kp.alloc ?_ _|refine Kp.Av ?_ (by omega) _))
         have x:wz.heap[b.heap.size]?=some (.cells #[.int .u8 1,.int .i64 (i:Nat),l,S] 111 (0,0)):=by
           rw[<- r];exact wN b _
         have a1:b.heap.size<wz.heap.size:=lZ x
         have J:a.heap.size<=b.heap.size:=a6
         generalize hb9:b.heap.size=b9 at x a1 J ⊢
         clear r)
    clear hb9
    replace c0:=d.cell c0 id
    replace a8:=d.cell a8 id
    replace a9:=d.cell a9 id
    have b7:=free_of_one (d.at_ L.o.2.2.2.2 id)
    have a7:=M.o.Ac d
    have p:=sE a7
    clear a7
    gi_wp2_with fail
    rcases q with q|q
    . have b8:decide (g<0)=true:=dT q
      refine wpIn_wide.2 ?_
      go_quiet (first|(go_at_call 89;with_reducible refine Calls.quiet_of_same (a3.o _ W f ?_);(first|exact p.o|exact p.o.Ac (Kr Aa _).drew|exact p.o.Ac (Kp.Ah _)|exact p.o.Ac ((Kp.Ah _).drewN _))))
      gi_wp2_with fail
      have C:Kp Aa w (wz.drewN nq):=(a0.then' d).drewN nq
      have K:(wz.drewN nq).heap[w.heap.size+1+1+1+1]?=some (.cells #[(0:Int)] 35 (0,0)):=d.at_ L.o.2.2.2.2 id
      have B:Kp (λ i=>i=w.heap.size+1+1+1+1) (wz.drewN nq) ((wz.drewN nq).setCell ⟨w.heap.size+1+1+1+1,0,none⟩ (.int .i64 2)):=(Kr (λ i=>i=w.heap.size+1+1+1+1) (wz.drewN nq)).setCell (λ _=>rfl) _
      have Q:=cell_of_one (one_setCell (u:=.int .i64 2) K)
      refine⟨.int .i64 2,by simp[results,results95,go_sem,Q],by rw[F.o],(C.Aw P.own).trans B (λ i A z=>by omega),.inl ⟨by rw[F.o];omega,?_⟩⟩
      refine AQ.keep ⟨f,D.o.Ac C,a2.o,a5.o⟩ B (λ i A z=>by have:=D.o.lt i A;omega)
    . have b8:decide (g<0)=false:=dF (by omega)
      have d1:decide ((H:Int)<=g)=true:=dT q
      refine wpIn_wide.2 ?_
      go_quiet (first|(go_at_call 89;with_reducible refine Calls.quiet_of_same (a3.o _ W f ?_);(first|exact p.o|exact p.o.Ac (Kr Aa _).drew|exact p.o.Ac (Kp.Ah _)|exact p.o.Ac ((Kp.Ah _).drewN _))))
      gi_wp2_with fail
      have C:Kp Aa w (wz.drewN nq):=(a0.then' d).drewN nq
      have K:(wz.drewN nq).heap[w.heap.size+1+1+1+1]?=some (.cells #[(0:Int)] 35 (0,0)):=d.at_ L.o.2.2.2.2 id
      have B:Kp (λ i=>i=w.heap.size+1+1+1+1) (wz.drewN nq) ((wz.drewN nq).setCell ⟨w.heap.size+1+1+1+1,0,none⟩ (.int .i64 2)):=(Kr (λ i=>i=w.heap.size+1+1+1+1) (wz.drewN nq)).setCell (λ _=>rfl) _
      have Q:=cell_of_one (one_setCell (u:=.int .i64 2) K)
      refine⟨.int .i64 2,by simp[results,results95,go_sem,Q],by rw[F.o],(C.Aw P.own).trans B (λ i A z=>by omega),.inl ⟨by rw[F.o];omega,?_⟩⟩
      refine AQ.keep ⟨f,D.o.Ac C,a2.o,a5.o⟩ B (λ i A z=>by have:=D.o.lt i A;omega)

end

section
open Go.RowKit
attribute [local go_sem] Oper.semAt_some

theorem Em{Pr:Program}{l n:Nat}{f:FuncId}{args:Array Value}{w:World}{R:Ending->World->Prop}(h:Calls Pr f args w R):CallsIn (Fence.wide.inRound l) n Pr f args w R:=
  (callsIn_wide (n:=n)).2 h

structure PutHeld(P:Sp)(z j S b9 bc:Nat)(i l:Nat)(x:Cel)(A:World):Prop where
  h0:A.heap[z]?=some (.cells #[.pointer (some P.s)] 28 (0,0))
  h1:A.heap[z+1]?=some (.cells #[j] 3 (0,0))
  h4:A.heap[z+1+1+1+1]?=some (.cells #[(0:Int)] 35 (0,0))
  h9:A.heap[b9]?=some (.cells #[.int .u8 1,i,l,S] 111 (0,0))
  hc:A.heap[bc]?=some (.cells #[x.g,.int .u8 x.tag,x.ty,x.ln,x.sz] 113 (0,0))

theorem PutHeld.keep{P:Sp}{z j S d f i l:Nat}{x:Cel}{g m:World}{T:Nat->Prop}(a:PutHeld P z j S d f i l x g)(k:Kp T g m)(c:∀ b,T b->b<z)(n:z<=d)(o:z<=f):PutHeld P z j S d f i l x m:=
  ⟨k.at_ a.h0 (λ e=>by have:=c _ e;omega),k.at_ a.h1 (λ e=>by have:=c _ e;omega),k.at_ a.h4 (λ e=>by have:=c _ e;omega),k.at_ a.h9 (λ e=>by have:=c _ e;omega),k.at_ a.hc (λ e=>by have:=c _ e;omega)⟩

theorem PutHeld.cells{P:Sp}{z j S e f i l:Nat}{x:Cel}{c:World}(d:PutHeld P z j S e f i l x c):
    c.cell? z=some (.pointer (some P.s))/\c.cell? ⟨z+1,0,none⟩=some (.int .i64 j)/\c.cell? ⟨e,3,none⟩=some (.int .i64 S)/\c.cell? f=some (.int .i64 x.g)/\
      c.cell? ⟨z+1+1+1+1,0,none⟩=some (.int .i64 0)/\c.frozen? ⟨z+1+1+1+1,0,none⟩=false:=by
  have a:=d.h9
  have b:=d.hc
  exact⟨cell_of_one d.h0,cell_of_one d.h1,by simp[World.cell?,a],by simp[World.cell?,b],cell_of_one d.h4,free_of_one d.h4⟩

def PutIx(P:Sp)(cs:List Cel)(V:Nat->Nat)(g id n:Int)(wl:World)(res:Nat)(c:Code)(W:World):Prop:=
  c=.ret/\W.heap[res]?=some (.cells #[.int .i64 (DW P.ts (P.n/2) cs g id n)] 35 (0,0))/\Kp (λ k=>P.own k\/k=res) wl W/\
    ((¬ DW P.ts (P.n/2) cs g id n=0/\AQ W P V cs)\/
     (DW P.ts (P.n/2) cs g id n=0/\∃ (pre:List Cel) (c:Cel) (post:List Cel) (j i l S:Nat),cs=pre++c::post/\¬ c.tag=1/\g=(j:Nat)/\id=(i:Nat)/\n=(l:Nat)/\BB P.ts id n=(S:Nat)/\
        c.g<=j/\j+S<=c.fin/\0<S/\AQ W P (putW V c j i l S) (putL pre c post j i l S)))

set_option maxRecDepth 20000 in
theorem Put_in(j i l S:Nat)(P:Sp)(cs:List Cel)(w:World)(W:Nat->Nat)(m:AQ w P W cs)(d8:AV P.ts (i:Nat) (l:Nat)=0)(d7:BB P.ts (i:Nat) (l:Nat)=(S:Nat))(j2:0<S)(o2:Di P.ts ⟨0,1,i,l,S⟩)(o0:j<P.n/2):
    Calls prog 95 #[.pointer (some P.s),j,i,l] w (PutPostW P cs W (j:Nat) (i:Nat) (l:Nat) w):=by
  have s3:∃ k7 Z o8,cs=k7++Z::o8/\Z.g<=j/\j<Z.fin/\∀ d∈k7,d.fin<=Z.g:=by
    obtain⟨_,_,Q,_⟩:=m
    exact cell_split Q.tl (Nat.zero_le _) o0
  obtain⟨k7,Z,o8,n8,v4,n7,s2⟩:=s3
  have s9:Z∈cs:=by rw[n8];simp
  clear n8 s2
  have s1:Sl (∀ B c c4,cs=B++c::c4->(∀ d∈B,d.fin<=j)->j<c.fin->DW P.ts (P.n/2) cs (j:Nat) (i:Nat) (l:Nat)=if c.tag=1\/(c.fin:Int)-(j:Nat)<(S:Nat) then 3 else 0):=⟨by
    intro B c c4 c1 i6 u6
    rw[DW,if_neg (by simpa using d8),if_neg (by omega),c1,cellOf_at (g:=(j:Nat)) (λ d K=>by have:=i6 d K;omega) (by omega),d7]⟩
  have l7:Sl (∀ y b8 c2,SpaceAt y P b8 c2->Calls prog 135 #[.pointer (some P.t),i,l] y (RK (.tuple #[.agg #[.int .u8 1,i,l,S],(0:Int)]) y)):=
    ⟨λ y _ _ j1=>(EE (i:Nat) (l:Nat) P.t P.tq P.ts y j1.tb).mono λ e w' j4=>by rw[BR,d8,if_pos rfl,d7] at j4;exact j4⟩
  have t0:P.n<=65536:=by obtain⟨_,L,_⟩:=m;exact L.ar.small
  have p7:Sl (∀ W B c c4,CellsAt P W cs->cs=B++c::c4->(∀ d∈B,d.fin<=j)->c.g<=j/\c.g+c.sz<=P.n/2/\Di P.ts c):=⟨by
    intro W B c c4 Q c1 i6
    have s8:=Q.tl.mem (c:=c) (by rw[c1];simp)
    refine⟨?_,s8.2.1,Q.ok c (by rw[c1];simp)⟩
    have a4:=Q.tl
    rw[c1] at a4
    obtain⟨x,l0,t7⟩:=a4.split
    rw[t7.1]
    exact tiles_fin l0 i6 (Nat.zero_le _)⟩
  have f4:Sl (BB P.ts (i:Nat) (l:Nat)=(S:Nat)/\AV P.ts (i:Nat) (l:Nat)=0/\Di P.ts ⟨0,1,i,l,S⟩):=⟨⟨d7,d8,o2⟩⟩
  obtain⟨H,d6⟩:∃ H,P.n/2=H:=⟨_,rfl⟩
  have p8:Sl (∀ y b8 c2,SpaceAt y P b8 c2->Calls prog 89 #[.pointer (some P.s)] y λ e t8=>e=.returned (.int .i64 (H:Nat))/\t8=y):=⟨λ w' b8 c2 j1=>by rw[<- d6];exact FE P b8 c2 w' j1⟩
  have b5:Sl (P.n/2=H):=⟨d6⟩
  rw[d6] at o0
  have v3:H<=32768:=by omega
  clear d8 d7 d6 o2 t0
  obtain⟨f,L,Q,o3⟩:=m
  have f2:=sE L
  have b4:=sE Q
  have f3:=sE o3
  obtain⟨r,M⟩:∃ r,r=((((w.alloc (.cells #[.pointer (some P.s)] 28)).alloc (.cells #[j] 3)).alloc (.cells #[i] 3)).alloc (.cells #[l] 3)).alloc (.cells #[(0:Int)] 35):=⟨_,rfl⟩
  have o4:Kp Aa w r:=by rw[M];exact (((((Kr _ w).alloc _).alloc _).alloc _).alloc _).alloc _
  have u1:Sl (r.heap.size=w.heap.size+1+1+1+1+1):=⟨by rw[M];simp⟩
  have i7:r.heap[w.heap.size]?=some (.cells #[.pointer (some P.s)] 28 (0,0)):=by
    rw[M];exact ((((Kr Aa _).alloc _).alloc _).alloc _ |>.alloc _).at_ (wN w _) id
  have i8:r.heap[w.heap.size+1]?=some (.cells #[j] 3 (0,0)):=by
    rw[M];exact (((Kr Aa _).alloc _).alloc _ |>.alloc _).at_ (BF _ _ (by simp)) id
  have i9:r.heap[w.heap.size+1+1]?=some (.cells #[i] 3 (0,0)):=by
    rw[M];exact ((Kr Aa _).alloc _ |>.alloc _).at_ (BF _ _ (by simp)) id
  have j0:r.heap[w.heap.size+1+1+1]?=some (.cells #[l] 3 (0,0)):=by
    rw[M];exact ((Kr Aa _).alloc _).at_ (BF _ _ (by simp)) id
  have d5:r.heap[w.heap.size+1+1+1+1]?=some (.cells #[(0:Int)] 35 (0,0)):=by
    rw[M];exact BF _ _ (by simp)
  have g2:=L.Ac o4
  have a1:=sE (And.intro i7 (And.intro i8 (And.intro i9 (And.intro j0 d5))))
  have c0:=cell_of_one i7
  have i4:=cell_of_one i8
  have r3:=cell_of_one i9
  have r4:=cell_of_one j0
  have i5:=cell_of_one d5
  have d4:=free_of_one d5
  obtain⟨c6,a8,c7⟩:=g2.head
  have f1:=sE g2
  have w4:=L.lt P.s (by simp[Sp.all])
  clear L Q o3 g2 i7 i8 i9 j0 d5
  refine(callsIn_wide (n:=0)).1 ?_
  refine callsIn_of_wp_marks func95 rfl trivial ?_
  simp only[ntmps95,List.size_toArray,List.length_cons,List.length_nil,Nat.reduceAdd,Nat.reduceSub,Array.replicate_succ,Array.replicate_zero,List.push_toArray,List.append_toArray,List.nil_append,List.cons_append]
  gi_wp2_with fail
  try rw[<- M]
  clear M
  gi_wp2_with fail
  refine wpIn_wide.2 ?_
  go_region_held3 (λ w'=>w'.cell? w.heap.size=some (.pointer (some P.s))/\w'.cell? ⟨w.heap.size+1+1,0,none⟩=some (.int .i64 i)/\w'.cell? ⟨w.heap.size+1+1+1,0,none⟩=some (.int .i64 l)/\w'.cell? ⟨P.s,1,none⟩=some (.pointer (some P.t)))
    (exact ⟨Bl KU c0,Bl KU r3,Bl KU r4,Bl KU a8⟩)
    (first
      | (go_at_call 135;with_reducible refine(l7.o r.drew W f (f1.o.Ac (Kr Aa _).drew)).mono ?_;rintro e F ⟨rfl,e1⟩
         have f5:Kp Aa r F:=(Kr Aa r).drew.then' e1
         have m5:=f5.size)
      | (go_at_call 135;with_reducible refine(l7.o (r.alloc (.cells #[.int .u8 0,(0:Int),(0:Int),(0:Int)] 111)).drew W f (f1.o.Ac ((Kr Aa _).alloc _).drew)).mono ?_;rintro e F ⟨rfl,e1⟩
         have f5:Kp Aa r F:=((Kr Aa r).alloc _).drew.then' e1
         have m5:=f5.size
         have G:=e1.at_ (show (r.alloc (.cells #[.int .u8 0,(0:Int),(0:Int),(0:Int)] 111)).drew.heap[r.heap.size]?=_ from wN r _) id
         have u7:=Ab G 0
         have u9:=Ab G 1
         have v1:=Ab G 2
         have v2:=Ab G 3
         have u2:F.cell? r.heap.size=some (.int .u8 0):=by simp[World.cell?,G]
         have u3:F.cell? ⟨r.heap.size,1,none⟩=some (.int .i64 0):=by simp[World.cell?,G]
         have u4:F.cell? ⟨r.heap.size,2,none⟩=some (.int .i64 0):=by simp[World.cell?,G]
         have u5:F.cell? ⟨r.heap.size,3,none⟩=some (.int .i64 0):=by simp[World.cell?,G]
         have p4:=sE G
         clear G))
  all_goals
    first
      | (generalize a0:World.setCell _ _ _=wz
         have T:Kp Aa r wz:=by rw[<- a0];(repeat (first|assumption|exact Kr _ _|refine Kp.drew ?_|refine Kp.alloc ?_ _|refine Kp.Av ?_ (by omega) _))
         have a3:wz.heap[r.heap.size]?=some (.cells #[.int .u8 1,i,l,S] 111 (0,0)):=by
           rw[<- a0];exact bZ (bZ (bZ (bZ p4.o (j:=0) _) (j:=1) _) (j:=2) _) (j:=3) _
         have k6:r.heap.size<wz.heap.size:=lZ a3
         have e4:r.heap.size<=r.heap.size:=Nat.le_refl _
         generalize hb9:r.heap.size=I at a3 k6 e4 ⊢
         replace e4:r.heap.size<=I:=by omega
         clear a0)
      | (generalize a0:World.alloc _ _=wz
         have T:Kp Aa r wz:=by rw[<- a0];(repeat (first|assumption|exact Kr _ _|refine Kp.drew ?_|refine Kp.alloc ?_ _|refine Kp.Av ?_ (by omega) _))
         have a3:wz.heap[F.heap.size]?=some (.cells #[.int .u8 1,i,l,S] 111 (0,0)):=by
           rw[<- a0];exact wN F _
         have k6:F.heap.size<wz.heap.size:=lZ a3
         have e4:r.heap.size<=F.heap.size:=m5
         generalize hb9:F.heap.size=I at a3 k6 e4 ⊢
         clear a0)
    clear hb9
    replace c0:=T.cell c0 id
    replace i4:=T.cell i4 id
    replace i5:=T.cell i5 id
    have d4:=free_of_one (T.at_ a1.o.2.2.2.2 id)
    have n2:=f1.o.Ac T
    have b6:=sE n2
    clear n2
    gi_wp2_with fail
    have s5:decide ((j:Int)<0)=false:=dF (by omega)
    have s6:decide ((H:Int)<=(j:Int))=false:=dF (by omega)
    refine wpIn_wide.2 ?_
    go_quiet (first|(go_at_call 89;with_reducible refine Calls.quiet_of_same (p8.o _ W f ?_);(first|exact b6.o|exact b6.o.Ac (Kr Aa _).drew|exact b6.o.Ac (Kp.Ah _)|exact b6.o.Ac ((Kp.Ah _).drewN _))))
    obtain⟨E,j7⟩:∃ E,E=wz.drewN nq:=⟨_,rfl⟩
    rw[<- j7]
    have e3:Kp Aa wz E:=by rw[j7];exact Kp.Ah _
    clear j7 s5 s6
    have q6:Kp Aa w E:=(o4.then' T).then' e3
    have n3:=e3.at_ a3 id
    have t3:I<E.heap.size:=lZ n3
    replace c0:=e3.cell c0 id
    obtain⟨v9⟩:=u1
    gi_wp2_with fail
    refine⟨trivial,rfl,?_⟩
    refine(callsIn_wide.2 (cells_fn P E)).mono ?_
    rintro e wl ⟨rfl,d9⟩
    have w1:wl.heap.size=E.heap.size+1:=by rw[<- d9];simp
    have k3:Kp Aa E wl:=by rw[<- d9];exact (Kr _ E).alloc _
    have s0:wl.heap[E.heap.size]?=some (.cells #[.pointer (some P.s)] 28 (0,0)):=by rw[<- d9];exact wN E _
    clear d9
    have f6:Kp Aa w wl:=q6.then' k3
    have b7:Kp Aa r wl:=(T.then' e3).then' k3
    have g3:=f2.o.Ac f6
    have v7:=f6.size
    have r2:=k3.at_ n3 id
    have e5:=b7.at_ a1.o.1 id
    have e6:=b7.at_ a1.o.2.1 id
    have k8:=b7.at_ a1.o.2.2.1 id
    have k9:=b7.at_ a1.o.2.2.2.1 id
    have c5:=b7.at_ a1.o.2.2.2.2 id
    have w2:=lZ c5
    have N:=sE (And.intro e5 (And.intro e6 (And.intro k8 (And.intro k9 (And.intro c5 r2)))))
    have q5:=sE g3
    have k5:=g3.lt
    have a7:∀ k,P.all k->k<w.heap.size:=f2.o.lt
    have t4:∀ k,P.own k->P.all k:=λ k A=>by simp only[Sp.own] at A;simp only[Sp.all];omega
    clear e5 e6 k8 k9 c5 c0 i4 i5 d4 b6
    gi_wp2_with fail
    refine wpIn_range2 (n:=0) (gf:=179) (lb:=#[.pointer (some E.heap.size)]) rfl (enters_of func179 (by kernel_rfl) rfl)
      (cells_iter P W f cs wl E.heap.size g3 b4.o s0 (R:=Aa) (X:=λ k=>P.own k\/k=w.heap.size+1+1+1+1) (λ k A=>A.elim)) (λ k A=>A.elim) (λ k A=>A.elim)
      (λ k A=>by rcases A with A|A;exact k5 k (t4 k A);omega) (λ k A=>A.elim) (λ _=>rfl)
      (λ B y=>Kp Aa wl y/\∀ d∈B,d.fin<=j) (λ c B y=>PutIx P cs W (j:Nat) (i:Nat) (l:Nat) wl (w.heap.size+1+1+1+1) c y) ?hI ?hIx ?h0 ?hround ?hdone ?hstop
    case hI=>
      rintro B p2 p3 ⟨a2,U⟩ A
      exact⟨a2.trans A (λ b z m=>by rcases m with m|m|m;exact m;omega;omega),U⟩
    case hIx=>
      rintro c B p2 p3 ⟨a2,U,g4,g5⟩ A
      have c3:∀ b,P.all b->¬ ((Aa b)\/b=wl.heap.size\/b=wl.heap.size+1):=λ b z m=>by have:=k5 b z;rcases m with m|m|m;exact m;omega;omega
      refine⟨a2,A.at_ U (λ m=>by rcases m with m|m|m;exact m;omega;omega),g4.trans A (λ b z m=>by rcases m with m|m|m;exact m.elim;omega;omega),?_⟩
      rcases g5 with ⟨V,Y⟩|⟨V,p,d,q,k0,j9,k4,S',g6,g7,g8,g9,i0,i1,i2,i3,I,Y⟩
      . exact .inl ⟨V,Y.keep A c3⟩
      . exact .inr ⟨V,p,d,q,k0,j9,k4,S',g6,g7,g8,g9,i0,i1,i2,i3,I,Y.keep A c3⟩
    case h0=>exact ⟨Kr _ _,λ d K=>by cases K⟩
    case hround=>
      rintro B x rest y j8 ⟨hK,j3⟩ L
      obtain⟨x1,x2,x3⟩:=p7.o W B x rest b4.o j8 j3
      have v8:x.fin=x.g+x.sz:=rfl
      have d0:=sE j8
      clear j8
      rw[b5.o] at x2
      unfold cellV
      gi_wp2_with fail
      refine⟨(Kr _ y).alloc _,?_⟩
      intro C n7 s7 o1 v6 v5
      have t2:Kp Aa y (y.alloc (.cells #[x.g,.int .u8 x.tag,x.ty,x.ln,x.sz] 113)):=(Kr _ y).alloc _
      have b9:=o1.at_ (wN y (.cells #[x.g,.int .u8 x.tag,x.ty,x.ln,x.sz] 113)) (by omega)
      have w0:=hK.size
      have D:Kp Aa wl C:=((hK.then' t2).Aw (λ k=>k=wl.heap.size+1)).trans o1 (λ _ _ m=>m) |>.mono (λ b z m=>by omega)
      have e5:=cell_of_one (D.at_ N.o.1 id)
      have e6:=cell_of_one (D.at_ N.o.2.1 id)
      have k8:=cell_of_one (D.at_ N.o.2.2.1 id)
      have k9:=cell_of_one (D.at_ N.o.2.2.2.1 id)
      have c8:=D.at_ N.o.2.2.2.2.1 id
      have c5:=cell_of_one c8
      have d4:=free_of_one c8
      have f0:=sE c8
      have e9:=D.at_ N.o.2.2.2.2.2 id
      have r9:C.cell? ⟨I,3,none⟩=some (.int .i64 S):=by simp[World.cell?,e9]
      have r5:C.cell? y.heap.size=some (.int .i64 x.g):=by simp[World.cell?,b9]
      have r6:C.cell? ⟨y.heap.size,1,none⟩=some (.int .u8 x.tag):=by simp[World.cell?,b9]
      have r7:C.cell? ⟨y.heap.size,4,none⟩=some (.int .i64 x.sz):=by simp[World.cell?,b9]
      have S2:=q5.o.Ac D
      obtain⟨c6,a8,c7⟩:=S2.head
      have c9:=sE S2
      have p6:=sE b9
      have p5:=sE e9
      clear c8 e9 S2 b9 n7 s7
      by_cases hcase:x.fin<=j
      . have t5:(x.g:Int)+(x.sz:Int)<=(j:Int):=by omega
        gi_wp2_with fail
        exact⟨Kr _ _,D,λ d K=>by
          rcases List.mem_append.1 K with K|K
          . exact j3 d K
          . rw[List.mem_singleton.1 K];exact hcase⟩
      . have t5:¬ (x.g:Int)+(x.sz:Int)<=(j:Int):=by omega
        have J:=s1.o B x rest d0.o j3 (by omega)
        have d1:∀ v,Kp (λ k=>P.own k\/k=w.heap.size+1+1+1+1) C (C.setCell ⟨w.heap.size+1+1+1+1,0,none⟩ v):=λ v=>(Kr (λ k=>P.own k\/k=w.heap.size+1+1+1+1) C).setCell (λ _=>.inr rfl) v
        by_cases a4:x.tag=1
        . rw[if_pos (.inl a4)] at J
          have l0:((x.tag:Int)==1)=true:=by simp;omega
          have O:=sE J
          clear J
          gi_wp2_with fail
          refine⟨d1 _,rfl,?_,(D.Aw _).trans (d1 _) (λ _ _ m=>m),.inl ⟨by rw[O.o];omega,?_⟩⟩
          . rw[O.o];exact one_setCell (u:=.int .i64 3) f0.o
          . exact AQ.keep ⟨f,c9.o,b4.o,f3.o⟩ ((Kr (λ k=>k=w.heap.size+1+1+1+1) C).setCell (λ _=>rfl) _) (λ b z m=>by have:=a7 b z;omega)
        . have l0:((x.tag:Int)==1)=false:=by simp;omega
          by_cases hbig:(x.fin:Int)-(j:Nat)<(S:Nat)
          . rw[if_pos (.inr hbig)] at J
            have O:=sE J
            have t6:decide ((x.g:Int)+(x.sz:Int)-(j:Int)<(S:Int))=true:=dT (by omega)
            clear J
            gi_wp2_with fail
            refine⟨d1 _,rfl,?_,(D.Aw _).trans (d1 _) (λ _ _ m=>m),.inl ⟨by rw[O.o];omega,?_⟩⟩
            . rw[O.o];exact one_setCell (u:=.int .i64 3) f0.o
            . exact AQ.keep ⟨f,c9.o,b4.o,f3.o⟩ ((Kr (λ k=>k=w.heap.size+1+1+1+1) C).setCell (λ _=>rfl) _) (λ b z m=>by have:=a7 b z;omega)
          . rw[if_neg (by omega)] at J
            have O:=sE J
            have t6:decide ((x.g:Int)+(x.sz:Int)-(j:Int)<(S:Int))=false:=dF (by omega)
            clear J
            obtain⟨o9,p0,p1⟩:=f4.o
            have n9:j+S<=P.n/2:=by rw[b5.o];omega
            have l6:Sl (∀ k,Calls prog 149 #[.pointer (some P.a),.pointer (some P.t),j,i,l] (C.drewN k) (Stored (C.drewN k) P.a P.q P.n (makeW W j i l S))):=
              ⟨λ k=>by
                have A:=c9.o.Ac (Kp.Ah k)
                exact Make_yes j i l S P.a P.q P.n P.t P.tq W P.ts _ A.fl A.ar A.tb p0 o9 p1.1 n9 j2⟩
            have m7:PutHeld P w.heap.size j S I y.heap.size i l x C:=⟨D.at_ N.o.1 id,D.at_ N.o.2.1 id,f0.o,p5.o,p6.o⟩
            have q2:=sE m7
            have a5:w.heap.size<=I:=by omega
            have a6:w.heap.size<=y.heap.size:=by omega
            have la:=a7 P.a (by simp[Sp.all])
            have w3:=a7 P.q (by simp[Sp.all])
            have t3:=a7 P.bq (by simp[Sp.all])
            clear m7 o9 p0 p1 n9
            gi_wp2_with fail
            refine BM 11 (by kernel_rfl) (by kernel_rfl) (by kernel_rfl) (λ _ _ m=>m) ?_
            simp only[List.take_succ_cons,List.take_zero,List.drop_succ_cons,List.drop_zero]
            repeat (go_big_quiet_step (fail))
            refine wpQuiet_nil ?_
            intro _ hw'
            obtain⟨nq,j5⟩:=hw'
            subst j5
            go_wp2_with fail
            refine(l6.o nq).mono ?_
            rintro e l1 ⟨rfl,e0,l2⟩
            have d2:Kp Aa C (C.drewN nq):=Kp.Ah _
            have g1:=(c9.o.Ac d2).words e0 l2
            have f7:=(q2.o.keep d2 (λ b z=>z.elim) a5 a6).keep e0 (λ b z=>by omega) a5 a6
            have q7:Kp P.own C l1:=(d2.Aw P.own).trans e0 (λ b z m=>by rcases m with m|m;exact .inl m;exact .inr (.inl m))
            clear l2 d2 e0 e5 e6 c5 d4 r9 r5 r6 r7 c6 a8 c7
            obtain⟨v0,a9,b0,b1,b2,b3⟩:=f7.cells
            obtain⟨c6,a8,c7⟩:=g1.head
            have m2:=sE g1
            have l8:=sE f7
            clear g1 f7 l6
            go_wp2
            gi_wp2_with fail
            refine BM 5 (by kernel_rfl) (by kernel_rfl) (by kernel_rfl) (λ _ _ m=>m) ?_
            simp only[List.take_succ_cons,List.take_zero,List.drop_succ_cons,List.drop_zero]
            repeat (go_big_quiet_step (fail))
            refine wpQuiet_nil ?_
            intro _ hw'
            obtain⟨nq,j5⟩:=hw'
            subst j5
            obtain⟨e7,j6⟩:∃ e7,e7=l1.drewN nq:=⟨_,rfl⟩
            rw[<- j6]
            have k1:Kp Aa l1 e7:=by rw[j6];exact Kp.Ah _
            clear j6
            have d3:=m2.o.Ac k1
            have m8:=l8.o.keep k1 (λ b z=>z.elim) a5 a6
            have q8:=q7.trans k1 (λ b z m=>m.elim)
            obtain⟨c6,a8,c7⟩:=d3.head
            have m4:=sE (Set_int (j:Nat) (P.n/2) P.b P.bq f e7 d3.bt)
            have m3:=sE d3
            have l9:=sE m8
            clear d3 m8 m2 l8 v0 a9 b0 b1 b2 b3
            go_wp2_with fail
            refine m4.o.mono ?_
            rintro e t9 ⟨rfl,k2,l3⟩
            have m9:=m3.o.bits k2 l3
            have f8:=l9.o.keep k2 (λ b z=>by omega) a5 a6
            have q9:=q8.trans k2 (λ b z m=>.inr (.inr m))
            obtain⟨v0,a9,b0,b1,b2,b3⟩:=f8.cells
            have p9:Sl ((j:Int)-(x.g:Int)=((j-x.g:Nat):Int)):=⟨by omega⟩
            have q0:Sl ((j:Int)+(S:Int)=((j+S:Nat):Int)):=⟨by omega⟩
            have q1:Sl ((x.g:Int)+(x.sz:Int)-(j:Int)-(S:Int)=((x.fin-j-S:Nat):Int)):=⟨by omega⟩
            have l4:=sE (gap_any x.g (j-x.g) P _ _ t9 m9 (by rw[b5.o];omega))
            have m0:=sE f8
            clear m9 f8 m3 l9 m4 l3 c6 a8 c7
            go_wp2
            gi_wp2_with fail
            refine⟨trivial,rfl,?_⟩
            rw[p9.o]
            refine(Em l4.o).mono ?_
            rintro e u0 ⟨rfl,o5,n0⟩
            have f9:=m0.o.keep o5 (λ b z=>by omega) a5 a6
            have r0:=q9.trans o5 (λ b z m=>by rcases m with m|m;exact .inl m;exact .inr (.inl m))
            clear v0 a9 b0 b1 b2 b3
            obtain⟨v0,a9,b0,b1,b2,b3⟩:=f9.cells
            have l5:=sE (gap_any (j+S) (x.fin-j-S) P _ _ u0 n0 (by rw[b5.o];omega))
            have m1:=sE f9
            clear f9 m0 l4 n0
            gi_wp2_with fail
            refine⟨trivial,rfl,?_⟩
            rw[q0.o,q1.o]
            refine(Em l5.o).mono ?_
            rintro e e8 ⟨rfl,o6,n1⟩
            have g0:=m1.o.keep o6 (λ b z=>by omega) a5 a6
            have r1:=r0.trans o6 (λ b z m=>by rcases m with m|m;exact .inl m;exact .inr (.inl m))
            clear v0 a9 b0 b1 b2 b3
            obtain⟨v0,a9,b0,b1,b2,b3⟩:=g0.cells
            have q4:=sE n1
            have q3:=sE g0
            clear g0 m1 l5 n1
            gi_wp2_with fail
            have s4:CellsAt P (putW W x j i l S) (putL B x rest j i l S):=by
              have n4:=b4.o
              rw[d0.o] at n4
              exact put_cells f2.o.ar.small n4 x1 (by omega) j2 (f4.o.2.2.move j)
            have t1:∀ b,b<P.n/2->Ex f (P.n/2) (j:Nat) 1 true b=Ak (putL B x rest j i l S) b:=by
              have n5:=f3.o
              rw[d0.o] at n5
              exact put_starts (P:=P) (W:=W) n5 a4 (by rw[b5.o];omega)
            have o7:Kp (λ k=>k=w.heap.size+1+1+1+1) e8 (e8.setCell ⟨w.heap.size+1+1+1+1,0,none⟩ (.int .i64 0)):=(Kr (λ k=>k=w.heap.size+1+1+1+1) e8).setCell (λ _=>rfl) _
            have m6:Kp (λ k=>P.own k\/k=w.heap.size+1+1+1+1) C (e8.setCell ⟨w.heap.size+1+1+1+1,0,none⟩ (.int .i64 0)):=(r1.mono (λ _ _ m=>.inl m)).trans o7 (λ _ _ m=>.inr m)
            refine⟨m6,rfl,?_,(D.Aw _).trans m6 (λ _ _ m=>m),.inr ⟨O.o,B,x,rest,j,i,l,S,d0.o,a4,rfl,rfl,rfl,f4.o.1,x1,by omega,j2,?_⟩⟩
            . rw[O.o];exact one_setCell (u:=.int .i64 0) q3.o.h4
            . refine AQ.keep ⟨_,q4.o,s4,t1⟩ o7 (λ b z m=>by have:=a7 b z;omega)
    case hdone=>
      rintro y ⟨a2,U⟩ L n6
      exact absurd (U Z s9) (by omega)
    case hstop=>
      rintro c B y j4 ⟨a2,U,g4,g5⟩ L n6
      subst a2
      gi_wp2_with fail
      refine⟨by simp,.inl ⟨_,_,rfl,run_takeDeferred n6,?_⟩⟩
      have e2:Kp (λ b=>b=wl.heap.size) y (y.putObj wl.heap.size (.deferred none)):=(Kr (λ b=>b=wl.heap.size) y).putObj (λ _=>rfl) _
      have r8:=cell_of_one (e2.at_ U (by omega))
      have c3:∀ b,P.all b->¬ b=wl.heap.size:=λ b z m=>by have:=k5 b z;omega
      refine⟨.int .i64 (DW P.ts (P.n/2) cs (j:Nat) (i:Nat) (l:Nat)),by simp[results,results95,go_sem,r8],rfl,((f6.Aw P.own).trans g4 (λ b z m=>by rcases m with m|m;exact m;omega)).trans e2 (λ b z m=>by omega),?_⟩
      rcases g5 with ⟨V,Y⟩|⟨V,p,d,q,k0,j9,k4,S',g6,g7,g8,g9,i0,i1,i2,i3,I,Y⟩
      . exact .inl ⟨V,Y.keep e2 c3⟩
      . exact .inr ⟨V,p,d,q,k0,j9,k4,S',g6,g7,g8,g9,i0,i1,i2,i3,I,Y.keep e2 c3⟩

end

section
open Go.RowKit

theorem Put_anyW(g b n:Int)(P:Sp)(cs:List Cel)(w:World)(W:Nat->Nat)(a:AQ w P W cs):
    Calls prog 95 #[.pointer (some P.s),.int .i64 g,.int .i64 b,.int .i64 n] w (PutPostW P cs W g b n w):=by
  by_cases he:AV P.ts b n=0
  . have d:P.ts.length<=64:=by obtain⟨_,k,_⟩:=a;exact k.tb.few
    obtain⟨i,l,S,rfl,rfl,c,e,m,f⟩:=obj_ok d he
    by_cases ho:g<0\/((P.n/2:Nat):Int)<=g
    . exact Put_out g i l S P cs w W a he c ho
    . obtain⟨j,rfl⟩:=Int.eq_ofNat_of_zero_le (show 0<=g by omega)
      exact Put_in j i l S P cs w W a he c e f (by omega)
  . exact Put_err g b n P cs w W a he

def growX(c:Cel)(g x:Nat)(over:Bool):Nat:=if c.tag=1/\¬ c.g=g/\over=false then c.fin else x
def growY(c:Cel)(g y:Nat):Nat:=if c.tag=1/\¬ c.g=g then y else c.fin

def GrowPost(c:Cel)(fb tb g x y:Nat)(over:Bool)(w:World)(e:Ending)(w':World):Prop:=
  e=.returned (.tuple #[])/\Kp (λ b=>b=fb\/b=tb) w w'/\w'.heap[fb]?=some (.cells #[.int .i64 (growX c g x over:Nat)] 3 (0,0))/\w'.heap[tb]?=some (.cells #[.int .i64 (growY c g y:Nat)] 3 (0,0))

theorem Grow_at(c:Cel)(t z j k g x y:Nat)(n:Bool)(w:World)(J:c.g+c.sz<=65536)(u:¬ j=k)
    (p:w.heap[t]?=some (.cells #[g] 3 (0,0))) (q:w.heap[z]?=some (.cells #[.bool n] 4 (0,0)))
    (l:w.heap[j]?=some (.cells #[x] 3 (0,0))) (m:w.heap[k]?=some (.cells #[y] 3 (0,0))):
    Calls prog 153 #[.agg #[c.g,.int .u8 c.tag,c.ty,c.ln,c.sz],.pointer (some t),.pointer (some z),.pointer (some j),.pointer (some k)] w (GrowPost c j k g x y n w):=by
  have v:Kp Aa w (w.alloc (.cells #[c.g,.int .u8 c.tag,c.ty,c.ln,c.sz] 113)):=(Kr _ w).alloc _
  have F:=cell_of_one p
  have G:=cell_of_one q
  have H:=cell_of_one l
  have I:=cell_of_one m
  have D:=free_of_one l
  have E:=free_of_one m
  have K:=lZ p
  have L:=lZ q
  have M:=lZ l
  have N:=lZ m
  have r:c.fin=c.g+c.sz:=rfl
  have A:=sE (v.Aw (λ b=>b=j\/b=k))
  have i:=sE (And.intro l m)
  have s:Sl (¬ j=k):=⟨u⟩
  clear p q l m v u
  by_cases ht:c.tag=1
  . have B:((c.tag:Int)==1)=true:=by simp;omega
    by_cases hg:c.g=g
    . have C:((c.g:Int) !=(g:Int))=false:=by simp;omega
      have d:growX c g x n=x:=if_neg (λ f=>f.2.1 hg)
      have e:growY c g y=c.fin:=if_neg (λ f=>f.2 hg)
      have a:=sE (And.intro d e)
      clear d e hg ht
      go_enter func153,ntmps153
      go_wp2_with fail
      go_end0
      refine⟨rfl,((Kr _ w).setCell (λ _=>.inr rfl) _).alloc _,?_,?_⟩
      . rw[a.o.1];exact ((Kr Aa _).alloc _).at_ ((Below.heap_setCell _ _ _ _ (by have:=s.o;dsimp only;omega)).trans i.o.1) id
      . rw[a.o.2,r];exact ((Kr Aa _).alloc _).at_ (one_setCell i.o.2) id
    . have C:((c.g:Int) !=(g:Int))=true:=by simp;omega
      cases n with
      |true=>
        have d:growX c g x true=x:=if_neg (λ f=>by cases f.2.2)
        have e:growY c g y=y:=if_pos ⟨ht,hg⟩
        have a:=sE (And.intro d e)
        clear d e hg ht
        go_enter func153,ntmps153
        go_wp2_with fail
        go_end0
        refine⟨rfl,A.o,?_,?_⟩
        . rw[a.o.1];exact ((Kr Aa _).alloc _).at_ (i.o.1) id
        . rw[a.o.2];exact ((Kr Aa _).alloc _).at_ (i.o.2) id
      |false=>
        have d:growX c g x false=c.fin:=if_pos ⟨ht,hg,rfl⟩
        have e:growY c g y=y:=if_pos ⟨ht,hg⟩
        have a:=sE (And.intro d e)
        clear d e hg ht
        go_enter func153,ntmps153
        go_wp2_with fail
        go_end0
        refine⟨rfl,((Kr _ w).setCell (λ _=>.inl rfl) _).alloc _,?_,?_⟩
        . rw[a.o.1,r];exact ((Kr Aa _).alloc _).at_ (one_setCell i.o.1) id
        . rw[a.o.2];exact ((Kr Aa _).alloc _).at_ ((Below.heap_setCell _ _ _ _ (by have:=s.o;dsimp only;omega)).trans i.o.2) id
  . have B:((c.tag:Int)==1)=false:=by simp;omega
    have d:growX c g x n=x:=if_neg (λ f=>ht f.1)
    have e:growY c g y=c.fin:=if_neg (λ f=>ht f.1)
    have a:=sE (And.intro d e)
    clear d e ht
    go_enter func153,ntmps153
    go_wp2_with fail
    go_end0
    refine⟨rfl,((Kr _ w).setCell (λ _=>.inr rfl) _).alloc _,?_,?_⟩
    . rw[a.o.1];exact ((Kr Aa _).alloc _).at_ ((Below.heap_setCell _ _ _ _ (by have:=s.o;dsimp only;omega)).trans i.o.1) id
    . rw[a.o.2,r];exact ((Kr Aa _).alloc _).at_ (one_setCell i.o.2) id

attribute [local go_sem] Oper.semAt_some

def DropPostW(P:Sp)(cs:List Cel)(W:Nat->Nat)(g:Int)(w:World)(e:Ending)(w':World):Prop:=
  (e=.returned (.int .i64 3)/\(∀ j:Nat,g=(j:Nat)->Ak cs j=false)/\Kp Aa w w')\/
  (e=.returned (.int .i64 0)/\Kp P.own w w'/\∃ (j:Nat) (p1 g1:List Cel) (c:Cel) (g2 p2:List Cel) (x y:Nat),g=(j:Nat)/\Dj cs j p1 g1 c g2 p2 x y/\AQ w' P (Bd W x (y-x)) (dropL p1 p2 x y))

set_option maxRecDepth 20000 in
theorem Drop_no(g:Int)(P:Sp)(cs:List Cel)(w:World)(W:Nat->Nat)(z:AQ w P W cs)(k:∀ j:Nat,g=(j:Nat)->Ak cs j=false):
    Calls prog 97 #[.pointer (some P.s),.int .i64 g] w (DropPostW P cs W g w):=by
  obtain⟨f,l,B,r⟩:=z
  have q:EH f (P.n/2) g=false:=by
    simp only[EH]
    by_cases hb:0<=g/\g<(P.n/2:Nat)
    . obtain⟨j,rfl⟩:=Int.eq_ofNat_of_zero_le hb.1
      have A:=k j rfl
      have p:=r j (by omega)
      rw[A] at p
      simp[p]
    . rw[dF hb];rfl
  have x:=sE k
  clear k
  have c:Kp Aa w (w.alloc (.cells #[.int .i64 g] 3)):=(Kr _ w).alloc _
  have i:=wN w (.cells #[.int .i64 g] 3)
  obtain⟨a,m⟩:∃ a,a=w.alloc (.cells #[.int .i64 g] 3):=⟨_,rfl⟩
  rw[<- m] at c i
  have d:=l.Ac c
  have u:Sl (∀ w',Kp Aa a w'->Calls prog 58 #[.pointer (some P.b),.int .i64 g] w' λ e G=>e=.returned (.bool false)/\Kp Aa w' G):=
    ⟨λ w' C=>by have:=Has_int g (P.n/2) P.b P.bq f w' (d.Ac C).bt;rw [q] at this;exact this⟩
  have c0:=cell_of_one i
  obtain⟨I,J,F⟩:=d.head
  have H:=l.lt P.s (by simp[Sp.all])
  have v:=sE c
  clear l B r d q i c
  refine(callsIn_wide (n:=0)).1 ?_
  refine callsIn_of_wp_marks func97 rfl trivial ?_
  simp only[ntmps97,List.size_toArray,List.length_cons,List.length_nil,Nat.reduceAdd,Nat.reduceSub,Array.replicate_succ,Array.replicate_zero,List.push_toArray,List.append_toArray,List.nil_append,List.cons_append]
  gi_wp2_with fail
  try rw[<- m]
  clear m
  gi_wp2_with fail
  refine wpIn_wide.2 ?_
  go_region_held3 (λ w'=>w'.cell? w.heap.size=some (.int .i64 g)/\w'.cell? ⟨P.s,2,none⟩=some (.pointer (some P.b)))
    (exact ⟨Bl KU c0,Bl KU F⟩)
    (first | (go_at_call 58;with_reducible refine(u.o _ KU).mono ?_;rintro e t ⟨rfl,D⟩
              have y:Kp Aa a t:=(Kr Aa a).drew.then' D))
  have E:Kp Aa w t:=v.o.then' y
  gi_wp2_with fail
  refine⟨.int .i64 3,by simp[results,results97,go_sem],.inl ⟨rfl,x.o,E⟩⟩

structure DropHeld(m x y:Nat)(over:Bool)(wl W':World):Prop where
  h0:W'.heap[m]?=some (.cells #[x] 3 (0,0))
  h1:W'.heap[m+1]?=some (.cells #[y] 3 (0,0))
  h2:W'.heap[m+1+1]?=some (.cells #[.bool over] 4 (0,0))
  hk:Kp (λ k=>k=m\/k=m+1\/k=m+1+1) wl W'

def DropI(j m:Nat)(wl:World)(pre:List Cel)(W':World):Prop:=∃ x y over,DropHeld m x y over wl W'/\Et j pre x y over

def DropIx(j m:Nat)(wl:World)(c:Code)(pre:List Cel)(W':World):Prop:=c=.exit 0/\∃ p d x y,pre=p++[d]/\d.tag=1/\DropHeld m x y true wl W'/\Et j p x y true

theorem DropHeld.keep{S:Nat->Prop}{m x y:Nat}{f:Bool}{wl d e:World}(a:DropHeld m x y f wl d)(k:Kp S d e)(j:m+1+1<wl.heap.size)(c:∀ b,b<wl.heap.size->¬ S b):DropHeld m x y f wl e:=
  ⟨k.at_ a.h0 (c _ (by omega)),k.at_ a.h1 (c _ (by omega)),k.at_ a.h2 (c _ (by omega)),a.hk.trans k (λ b i g=>absurd g (c b i))⟩

set_option maxRecDepth 20000 in
theorem Drop_yes(j:Nat)(P:Sp)(cs:List Cel)(w:World)(W:Nat->Nat)(i:AQ w P W cs)(c9:Ak cs j=true):
    Calls prog 97 #[.pointer (some P.s),j] w (DropPostW P cs W (j:Nat) w):=by
  obtain⟨f,M,c7,f4⟩:=i
  have j2:=M.ar.small
  have m2:j<P.n/2:=by
    obtain⟨c,c5,e6,l8⟩:=FL c9
    have:=c7.tl.mem c5
    omega
  have c6:EH f (P.n/2) (j:Nat)=true:=by
    simp only[EH]
    rw[dT (show (0:Int)<=(j:Nat)/\((j:Nat):Int)<(P.n/2:Nat) by omega)]
    simp[f4 j m2,c9]
  have d0:Kp Aa w (w.alloc (.cells #[j] 3)):=(Kr _ w).alloc _
  have c3:=wN w (.cells #[j] 3)
  obtain⟨a0,f5⟩:∃ a0,a0=w.alloc (.cells #[j] 3):=⟨_,rfl⟩
  rw[<- f5] at d0 c3
  have b1:=M.Ac d0
  have g7:Sl (∀ w',Kp Aa a0 w'->Calls prog 58 #[.pointer (some P.b),j] w' λ e d3=>e=.returned (.bool true)/\Kp Aa w' d3):=
    ⟨λ w' t=>by have:=Has_int (j:Nat) (P.n/2) P.b P.bq f w' (b1.Ac t).bt;rw [c6] at this;exact this⟩
  have g4:Sl (∀ w',Kp Aa a0 w'->Calls prog 152 #[.pointer (some P.b),j] w' λ e d3=>e=.returned (.int .i64 0)/\Kp (λ b=>b=P.bq) w' d3/\AL d3 P.b P.bq (Ex f (P.n/2) (j:Nat) 1 false) (P.n/2)):=
    ⟨λ w' t=>by
      have:=Clear_int (j:Nat) (P.n/2) P.b P.bq f w' (b1.Ac t).bt
      rw[show Bz (P.n/2) (j:Nat) 1=true by simp[Bz];omega] at this
      exact this⟩
  have c0:=cell_of_one c3
  obtain⟨n3,n4,d2⟩:=b1.head
  have o6:=M.lt P.s (by simp[Sp.all])
  have k9:=sE d0
  have g3:=sE c3
  have i0:=sE M
  have l4:=sE b1
  have d4:=sE c7
  have i1:=sE f4
  have i3:=sE c9
  have V:=sE c7.tl
  clear M c7 f4 b1 c6 c3 d0 c9
  refine(callsIn_wide (n:=0)).1 ?_
  refine callsIn_of_wp_marks func97 rfl trivial ?_
  simp only[ntmps97,List.size_toArray,List.length_cons,List.length_nil,Nat.reduceAdd,Nat.reduceSub,Array.replicate_succ,Array.replicate_zero,List.push_toArray,List.append_toArray,List.nil_append,List.cons_append]
  gi_wp2_with fail
  try rw[<- f5]
  clear f5
  gi_wp2_with fail
  refine wpIn_wide.2 ?_
  go_region_held3 (λ w'=>w'.cell? w.heap.size=some (.int .i64 j)/\w'.cell? ⟨P.s,2,none⟩=some (.pointer (some P.b)))
    (exact ⟨Bl KU c0,Bl KU d2⟩)
    (first | (go_at_call 58;with_reducible refine(g7.o _ KU).mono ?_;rintro e k6 ⟨rfl,j4⟩
              have e0:Kp Aa a0 k6:=(Kr Aa a0).drew.then' j4))
  replace c0:=e0.cell c0 id
  replace d2:=e0.cell d2 id
  gi_wp2_with fail
  refine wpIn_wide.2 ?_
  refine Br 5 (by kernel_rfl) (by kernel_rfl) ?_
  simp only[List.take_succ_cons,List.take_zero,List.drop_succ_cons,List.drop_zero]
  repeat (go_big_quiet_step (fail))
  refine wpQuiet_nil ?_
  intro _ hw'
  obtain⟨nq,m5⟩:=hw'
  subst m5
  have b0:Kp Aa a0 (k6.drewN nq):=e0.then' (Kp.Ah _)
  go_wp2_with fail
  refine(g4.o _ b0).mono ?_
  rintro e O ⟨rfl,d1,g1⟩
  have i5:=(l4.o.Ac b0).bits d1 g1
  have i4:Kp P.own w O:=((k9.o.then' b0).Aw P.own).trans d1 (λ b l i=>.inr (.inr i))
  have n7:w.heap.size<O.heap.size:=by
    have c5:=lZ g3.o
    have e6:=b0.size
    have l8:=d1.size
    omega
  have l9:¬ w.heap.size=P.bq:=by have:=i0.o.lt P.bq (by simp[Sp.all]);omega
  have k4:=d1.at_ (b0.at_ g3.o id) l9
  have l5:=sE i5
  have l0:=sE i4
  have l2:=sE k4
  clear g1 i5 i4 c0 n3 n4 d2 g7 g4 j4 k4
  go_wp2
  gi_wp2_with fail
  obtain⟨m,L⟩:∃ m,O.heap.size=m:=⟨_,rfl⟩
  obtain⟨v,N⟩:∃ v,v=(((O.alloc (.cells #[(0:Int)] 3)).alloc (.cells #[(0:Int)] 3)).alloc (.cells #[.bool false] 4)).alloc (.cells #[.func (.func 153) #[] #[.pointer (some w.heap.size),.pointer (some ⟨m+1+1,0,none⟩),.pointer (some ⟨m,0,none⟩),.pointer (some ⟨m+1,0,none⟩)]] 250):=⟨_,rfl⟩
  rw[L,<- N]
  have j5:Kp Aa O v:=by rw[N];exact ((((Kr _ O).alloc _).alloc _).alloc _).alloc _
  have g0:v.heap.size=m+1+1+1+1:=by rw[N,<- L];simp
  have k0:v.heap[m]?=some (.cells #[(0:Int)] 3 (0,0)):=by
    rw[N,<- L];exact (((Kr Aa _).alloc _).alloc _ |>.alloc _).at_ (wN O _) id
  have k1:v.heap[m+1]?=some (.cells #[(0:Int)] 3 (0,0)):=by
    rw[N,<- L];exact ((Kr Aa _).alloc _ |>.alloc _).at_ (BF _ _ (by simp)) id
  have k2:v.heap[m+1+1]?=some (.cells #[.bool false] 4 (0,0)):=by
    rw[N,<- L];exact ((Kr Aa _).alloc _).at_ (BF _ _ (by simp)) id
  have k3:v.heap[m+1+1+1]?=some (.cells #[.func (.func 153) #[] #[.pointer (some w.heap.size),.pointer (some ⟨m+1+1,0,none⟩),.pointer (some ⟨m,0,none⟩),.pointer (some ⟨m+1,0,none⟩)]] 250 (0,0)):=by
    rw[N,<- L];exact BF _ _ (by simp)
  clear N
  refine⟨trivial,rfl,?_⟩
  refine(callsIn_wide.2 (cells_fn P v)).mono ?_
  rintro e wl ⟨rfl,c8⟩
  have f7:wl.heap.size=v.heap.size+1:=by rw[<- c8];simp
  have a4:Kp Aa v wl:=by rw[<- c8];exact (Kr _ v).alloc _
  have j0:wl.heap[v.heap.size]?=some (.cells #[.pointer (some P.s)] 28 (0,0)):=by rw[<- c8];exact wN v _
  clear c8
  rw[g0] at j0 f7
  rw[g0]
  clear g0
  rw[L] at n7
  have c2:Kp Aa O wl:=j5.then' a4
  have l6:=l5.o.Ac c2
  have k5:=c2.at_ l2.o id
  have rc:=a4.at_ k3 id
  have l1:=sE (DropHeld.mk (wl:=wl) (a4.at_ k0 id) (a4.at_ k1 id) (a4.at_ k2 id) (Kr _ wl))
  have J:∀ k,P.all k->k<w.heap.size:=i0.o.lt
  have g9:=sE (And.intro k5 rc)
  have d9:=sE l6
  have g8:=sE (l0.o.trans c2 (λ b l i=>i.elim))
  clear k0 k1 k2 k3 k5 rc c2 j5 a4 L
  gi_wp2_with fail
  refine wpIn_range2 (n:=0) (gf:=179) (lb:=#[.pointer (some ⟨m+1+1+1+1,0,none⟩)]) rfl (enters_of func179 (by kernel_rfl) rfl)
    (cells_iter P W _ cs wl (m+1+1+1+1) d9.o d4.o j0 (R:=λ k=>k=m\/k=m+1\/k=m+1+1) (X:=λ k=>k=m\/k=m+1\/k=m+1+1)
      (λ k t=>⟨by omega,by omega,λ i=>by have:=J k i;omega⟩)) (λ k t=>t.elim) (λ k t=>by omega)
    (λ k t=>by omega) (λ k t=>t) (λ _=>rfl)
    (λ D r=>DropI j m wl D r) (λ c D r=>DropIx j m wl c D r) ?c6 ?hIx ?h0 ?hround ?hdone ?hstop
  case c6=>
    rintro D k7 k8 ⟨x,y,o,e1,e2⟩ t
    exact⟨x,y,o,e1.keep t (by omega) (λ b l i=>by rcases i with i|i|i;exact i;omega;omega),e2⟩
  case hIx=>
    rintro c D k7 k8 ⟨l7,p,d,x,y,C,a3,e1,e2⟩ t
    exact⟨l7,p,d,x,y,C,a3,e1.keep t (by omega) (λ b l i=>by rcases i with i|i|i;exact i;omega;omega),e2⟩
  case h0=>exact ⟨0,0,false,l1.o,[],[],rfl,(λ d f1=>by cases f1),.inl rfl,rfl,(λ d f1=>by cases f1)⟩
  case hround=>
    rintro D x rest r f6 ⟨X,Y,o,u,z⟩ M
    have o2:x.fin=x.g+x.sz:=rfl
    have o3:=V.o.mem (c:=x) (by rw[f6];simp)
    unfold cellV
    gi_wp2_with fail
    refine⟨(Kr _ r).alloc _,?_⟩
    intro a2 m0 m1 j1 m4 o1
    have j6:Kp Aa r (r.alloc (.cells #[x.g,.int .u8 x.tag,x.ty,x.ln,x.sz] 113)):=(Kr _ r).alloc _
    have U:=j1.at_ (wN r (.cells #[x.g,.int .u8 x.tag,x.ty,x.ln,x.sz] 113)) (by omega)
    have B:=(u.keep j6 (by omega) (λ b l i=>i)).keep j1 (by omega) (λ b l i=>by omega)
    have c1:=B.hk.at_ g9.o.1 (by omega)
    have g2:=B.hk.at_ g9.o.2 (by omega)
    have a5:=cell_of_one B.h0
    have a6:=cell_of_one B.h1
    have j7:=cell_of_one B.h2
    have j9:=cell_of_one c1
    have j8:=cell_of_one g2
    have c4:a2.cell? r.heap.size=some (.int .i64 x.g):=by simp[World.cell?,U]
    have i6:a2.cell? ⟨r.heap.size,1,none⟩=some (.int .u8 x.tag):=by simp[World.cell?,U]
    have i7:a2.cell? ⟨r.heap.size,2,none⟩=some (.int .i64 x.ty):=by simp[World.cell?,U]
    have i8:a2.cell? ⟨r.heap.size,3,none⟩=some (.int .i64 x.ln):=by simp[World.cell?,U]
    have i9:a2.cell? ⟨r.heap.size,4,none⟩=some (.int .i64 x.sz):=by simp[World.cell?,U]
    have g6:=sE (Grow_at x w.heap.size (m+1+1) m (m+1) j X Y o a2 (by omega) (by omega) c1 B.h2 B.h0 B.h1)
    have a8:=sE B
    have g5:=sE c1
    have n8:=sE U
    have n9:m+1+1+1+1+1<r.heap.size:=by omega
    have i2:=sE f6
    clear m0 m1 m4 j6 B c1 g2 U u f6
    cases o with
    |false=>
      obtain⟨o4,C,a3,e3⟩:=drop_before V.o i2.o i3.o z
      have n5:decide ((j:Int)<(x.g:Int))=false:=dF (by omega)
      have m8:∃ b9 F G,Et j (D++[x]) F G b9/\growX x j X false=F/\growY x j Y=G/\(((x.g:Int)==(j:Int))=b9):=by
        by_cases ht:x.tag=1
        . by_cases hg:x.g=j
          . exact⟨true,X,x.fin,a3 ht hg,if_neg (λ i=>i.2.1 hg),if_neg (λ i=>i.2 hg),by simp;omega⟩
          . exact⟨false,x.fin,Y,C ht hg,if_pos ⟨ht,hg,rfl⟩,if_pos ⟨ht,hg⟩,by simp;omega⟩
        . exact⟨false,X,x.fin,(e3 ht).2,if_neg (λ i=>ht i.1),if_neg (λ i=>ht i.1),by simp;have:=(e3 ht).1;omega⟩
      obtain⟨b9,F,G,b5,b3,b4,o0⟩:=m8
      have a7:=sE b5
      clear z C a3 e3 b5
      gi_wp2_with fail
      refine⟨trivial,rfl,?_⟩
      refine(Em g6.o).mono ?_
      rintro e K ⟨rfl,A,S,T⟩
      rw[b3] at S
      rw[b4] at T
      have H:=A.at_ a8.o.h2 (by omega)
      have m9:=cell_of_one (A.at_ g5.o (by omega))
      have n0:K.cell? r.heap.size=some (.int .i64 x.g):=A.cell c4 (by dsimp only;omega)
      have n1:=cell_of_one H
      have n2:=free_of_one H
      have Q:=sE (And.intro S (And.intro T H))
      have a9:=sE A
      clear a5 a6 j7 j9 j8 c4 i6 i7 i8 i9 S T H b3 b4 A
      gi_wp2_with fail
      have E:Kp (λ b=>b=m+1+1) K (K.setCell ⟨m+1+1,0,none⟩ (.bool b9)):=(Kr (λ b=>b=m+1+1) K).setCell (λ _=>rfl) _
      refine⟨(a9.o.mono λ b l i=>by omega).trans E (λ b l i=>by omega),F,G,b9,⟨E.at_ Q.o.1 (by omega),E.at_ Q.o.2.1 (by omega),one_setCell Q.o.2.2,?_⟩,a7.o⟩
      exact(a8.o.hk.trans a9.o (λ b l i=>by omega)).trans E (λ b l i=>by omega)
    |true=>
      obtain⟨o5,C⟩:=drop_behind V.o i2.o z
      have n5:decide ((j:Int)<(x.g:Int))=true:=dT (by omega)
      by_cases ht:x.tag=1
      . have n6:((x.tag:Int)==1)=true:=by simp;omega
        have a7:=sE z
        clear z
        gi_wp2_with fail
        exact⟨Kr _ _,rfl,D,x,X,Y,rfl,ht,a8.o,a7.o⟩
      . have n6:((x.tag:Int)==1)=false:=by simp;omega
        obtain⟨F,G,b5,b3,b4⟩:∃ F G,Et j (D++[x]) F G true/\growX x j X true=F/\growY x j Y=G:=⟨X,x.fin,C ht,if_neg (λ i=>ht i.1),if_neg (λ i=>ht i.1)⟩
        have a7:=sE b5
        clear z C b5
        gi_wp2_with fail
        refine⟨trivial,rfl,?_⟩
        refine(Em g6.o).mono ?_
        rintro e K ⟨rfl,A,S,T⟩
        rw[b3] at S
        rw[b4] at T
        have H:=A.at_ a8.o.h2 (by omega)
        have m9:=cell_of_one (A.at_ g5.o (by omega))
        have n0:K.cell? r.heap.size=some (.int .i64 x.g):=A.cell c4 (by dsimp only;omega)
        have n1:=cell_of_one H
        have n2:=free_of_one H
        have Q:=sE (And.intro S (And.intro T H))
        have a9:=sE A
        clear a5 a6 j7 j9 j8 c4 i6 i7 i8 i9 S T H b3 b4 A
        gi_wp2_with fail
        have E:Kp (λ b=>b=m+1+1) K (K.setCell ⟨m+1+1,0,none⟩ (.bool true)):=(Kr (λ b=>b=m+1+1) K).setCell (λ _=>rfl) _
        refine⟨(a9.o.mono λ b l i=>by omega).trans E (λ b l i=>by omega),F,G,true,⟨E.at_ Q.o.1 (by omega),E.at_ Q.o.2.1 (by omega),one_setCell Q.o.2.2,?_⟩,a7.o⟩
        exact(a8.o.hk.trans a9.o (λ b l i=>by omega)).trans E (λ b l i=>by omega)
  case hdone=>
    rintro r ⟨X,Y,o,u,z⟩ M e7
    cases o with
    |false=>exact absurd z (drop_not i3.o)
    |true=>
      obtain⟨f8,e4,c,e5,f9,I⟩:=drop_end V.o (List.append_nil cs).symm z (.inl rfl)
      obtain⟨b7,m7⟩:=I.cells j2 d4.o
      have m6:X<=Y:=by obtain⟨-,-,-,-,-,-,-,-,-,i⟩:=I;omega
      have b6:=sE I
      have f0:=sE b7
      have SW:=d9.o.keep u.hk (λ k t i=>by have:=J k t;omega)
      have d7:Sl ((Y:Int)-(X:Int)=((Y-X:Nat):Int)):=⟨by omega⟩
      have d5:=sE (gap_any X (Y-X) P W _ r SW (by omega))
      have a5:=cell_of_one u.h0
      have a6:=cell_of_one u.h1
      have e9:=sE u
      clear I b7 SW u z
      gi_wp2_with fail
      rw[d7.o]
      refine⟨trivial,rfl,?_⟩
      refine(callsIn_wide.2 d5.o).mono ?_
      rintro e a1 ⟨rfl,Z,b2⟩
      have d8:=sE b2
      have d6:=sE Z
      have e8:=Z.at_ e7 (λ i=>by have c5:=J P.a (by simp[Sp.all]);have e6:=J P.q (by simp[Sp.all]);omega)
      clear b2 Z a5 a6
      gi_wp2_with fail
      refine⟨by simp,.inl ⟨_,_,rfl,run_takeDeferred (f7▸e8),?_⟩⟩
      have b8:Kp (λ b=>b=(m+1+1+1+1+1)) a1 (a1.putObj (m+1+1+1+1+1) (.deferred none)):=(Kr (λ b=>b=(m+1+1+1+1+1)) a1).putObj (λ _=>rfl) _
      have f2:∀ b,P.all b->¬ b=(m+1+1+1+1+1):=λ b l i=>by have:=J b l;omega
      refine⟨.int .i64 0,by simp[results,results97,go_sem],.inr ⟨rfl,?_,j,f8,e4,c,e5,f9,X,Y,rfl,b6.o,⟨_,d8.o.keep b8 f2,f0.o,b6.o.starts i1.o V.o⟩⟩⟩
      exact((g8.o.trans e9.o.hk (λ b l i=>by omega)).trans d6.o (λ b l i=>by rcases i with i|i;exact .inl i;exact .inr (.inl i))).trans b8 (λ b l i=>by omega)
  case hstop=>
    rintro c D r m3 ⟨rfl,p,d,X,Y,C,a3,u,z⟩ M e7
    obtain⟨rest,f3⟩:=m3
    rw[C] at f3
    have j3:cs=p++(d::rest):=by rw[<- f3];simp
    have l3:=sE j3
    clear f3 j3 C
    obtain⟨f8,e4,c,e5,f9,I⟩:=drop_end V.o l3.o z (.inr ⟨_,_,rfl,a3⟩)
    obtain⟨b7,m7⟩:=I.cells j2 d4.o
    have m6:X<=Y:=by obtain⟨-,-,-,-,-,-,-,-,-,i⟩:=I;omega
    have b6:=sE I
    have f0:=sE b7
    have SW:=d9.o.keep u.hk (λ k t i=>by have:=J k t;omega)
    have d7:Sl ((Y:Int)-(X:Int)=((Y-X:Nat):Int)):=⟨by omega⟩
    have d5:=sE (gap_any X (Y-X) P W _ r SW (by omega))
    have a5:=cell_of_one u.h0
    have a6:=cell_of_one u.h1
    have e9:=sE u
    clear I b7 SW u z
    gi_wp2_with fail
    rw[d7.o]
    refine⟨trivial,rfl,?_⟩
    refine(callsIn_wide.2 d5.o).mono ?_
    rintro e a1 ⟨rfl,Z,b2⟩
    have d8:=sE b2
    have d6:=sE Z
    have e8:=Z.at_ e7 (λ i=>by have c5:=J P.a (by simp[Sp.all]);have e6:=J P.q (by simp[Sp.all]);omega)
    clear b2 Z a5 a6
    gi_wp2_with fail
    refine⟨by simp,.inl ⟨_,_,rfl,run_takeDeferred (f7▸e8),?_⟩⟩
    have b8:Kp (λ b=>b=(m+1+1+1+1+1)) a1 (a1.putObj (m+1+1+1+1+1) (.deferred none)):=(Kr (λ b=>b=(m+1+1+1+1+1)) a1).putObj (λ _=>rfl) _
    have f2:∀ b,P.all b->¬ b=(m+1+1+1+1+1):=λ b l i=>by have:=J b l;omega
    refine⟨.int .i64 0,by simp[results,results97,go_sem],.inr ⟨rfl,?_,j,f8,e4,c,e5,f9,X,Y,rfl,b6.o,⟨_,d8.o.keep b8 f2,f0.o,b6.o.starts i1.o V.o⟩⟩⟩
    exact((g8.o.trans e9.o.hk (λ b l i=>by omega)).trans d6.o (λ b l i=>by rcases i with i|i;exact .inl i;exact .inr (.inl i))).trans b8 (λ b l i=>by omega)

theorem Drop_anyW(g:Int)(P:Sp)(cs:List Cel)(w:World)(W:Nat->Nat)(a:AQ w P W cs):
    Calls prog 97 #[.pointer (some P.s),.int .i64 g] w (DropPostW P cs W g w):=by
  by_cases hno:∀ j:Nat,g=(j:Nat)->Ak cs j=false
  . exact Drop_no g P cs w W a hno
  . simp only[Classical.not_forall] at hno
    obtain⟨j,rfl,b⟩:=hno
    exact Drop_yes j P cs w W a (by simpa using b)

end

end Go.Proofs.YtfkedlgpgmaemaaGreatDoor
