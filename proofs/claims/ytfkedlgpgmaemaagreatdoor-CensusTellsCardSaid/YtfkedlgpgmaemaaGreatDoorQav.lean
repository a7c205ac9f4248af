/-
  Lemmas for the laws, together: PlayA.
-/
import Derived.Test.YtfkedlgpgmaemaaGreatDoorQas
import Derived.Test.YtfkedlgpgmaemaaGreatDoorQat
import Derived.Test.YtfkedlgpgmaemaaGreatDoorQam
import Derived.Test.YtfkedlgpgmaemaaGreatDoorQap
import Derived.Test.YtfkedlgpgmaemaaGreatDoorQao
import Derived.Test.YtfkedlgpgmaemaaGreatDoorQau
set_option linter.unusedVariables false
set_option maxHeartbeats 16000000
namespace Go.Proofs.YtfkedlgpgmaemaaGreatDoor
open Tryz
section
open Go.RowKit

def DMadeNew(n:Nat)(lv:Value)(w:World)(e:Ending)(w':World):Prop:=
 ∃ rb q,e=.returned (.pointer (some ⟨rb,0,none⟩))/\w.heap.size<=rb/\w.heap.size<=q/\DocAt w' rb q n (Bd (λ _=>0) 0 (n/2)) lv/\Kp Aa w w'

theorem DNew_at(n:Nat)(m:Value)(w:World)(K:∃ a l c,m=.slice a l c)(S:1<=n)(H:n<=65536):Calls prog 94 #[n,m] w (DMadeNew n m w):=by
 have L:Sl (((n:Nat):Int)/2=((n/2:Nat):Int)):=⟨by omega⟩
 obtain⟨la,k,lc,rfl⟩:=K
 go_enter func94,ntmps94
 go_wp2_with (at_make;obtain ⟨Q,d,y,z,A⟩:=info_parts infoU64;go_loud (refine wpList_make_full _ rfl (.tmp 6) (.tmp 6) 49 rfl w.heap.size 79 Q (.int .u64 0) 1 Fw d y z .i64 .i64 n n n rfl rfl rfl rfl (by rw[A];omega) (by unfold maxLen;omega) (Nat.le_refl _) ?_);intro w1 x u;clear d y z A)
 have f:Kp Aa w w1:=(Kr Aa w).grown u (λ _ e=>by cases e)
 obtain⟨w2,b⟩:∃ w2,w2=w1.alloc (.cells #[.slice (some ⟨w.heap.size,0,none⟩) n n,.slice la k lc] 51):=⟨_,rfl⟩
 have v:Kp Aa w w2:=by rw[b];exact f.alloc _
 have t:DocAt w2 w1.heap.size w.heap.size n (λ _=>0) (.slice la k lc):=by
  rw[b]
  rcases x.2 with ⟨e,-⟩|⟨g,cap,r,e,-,I,T,-,U,P⟩
  .cases e
  .injection e with e1 _ e2
   injection e1 with e1
   injection e1 with e1 _
   subst e1 e2
   refine⟨⟨n,wN w1 _⟩,⟨r,((Kr Aa w1).alloc _).at_ I id,by omega,λ j J=>?_⟩,H,λ j J=>by omega⟩
   have s:(r.toList.take (n*1))[j]?=some (.int .u64 0):=by
    rw[P,show (Value.int .u64 0).cells=#[Value.int .u64 0] from rfl,toList_madeCells_one,List.getElem?_replicate,if_pos (by omega)]
   rw[List.getElem?_take_of_lt (by omega)] at s
   rwa [Array.getElem?_toList] at s
 have O:=f.size
 have F:=sE (DR w1.heap.size w.heap.size n (λ _=>0) (.slice la k lc) 0 (n/2) w2 t (by omega))
 have q:=sE v
 clear x u f v t
 go_wp2_with fail
 try rw[<- b]
 clear b
 try go_wp2_with fail
 try rw[L.o]
 refine F.o.mono ?_
 rintro e V ⟨rfl,C,p,M,B⟩
 have D:=sE p
 have E:=sE B
 have N:w.heap.size<=C:=by
  have:=q.o.size
  omega
 clear p M B
 go_wp2
 go_ret
 exact⟨_,C,rfl,O,N,D.o,q.o.trans E.o (λ i d G=>by have R:i=w1.heap.size:=G;omega)⟩

structure Both(w0 w:World)(P:Sp)(rb q:Nat)(lv:Value)(W:Nat->Nat)(cs:List Cel):Prop where
 sp:AQ w P W cs
 dc:DocAt w rb q P.n W lv
 own:∀ k,P.own k->w0.heap.size<=k
 rb0:w0.heap.size<=rb
 rbn:¬ P.all rb
 qn:¬ P.all q
 gap:BX cs
 kb:Kp (λ k=>w0.heap.size<=k) w0 w
 ty:A8 w0 lv P.ts
 few:P.ts.length<=64
 ms:Cw P.ts

theorem A8.keepBase{w0 w:World}{v:Value}{xs:List TypR}(c:A8 w0 v xs)(k:Kp (λ k=>w0.heap.size<=k) w0 w):A8 w v xs:=by
 obtain⟨a,cap,rfl,c⟩:=c
 refine⟨a,cap,rfl,λ i x l=>?_⟩
 obtain⟨b,o,g,j,c0,e,f⟩:=c i x l
 have d:¬ w0.heap.size<=b:=by omega
 exact⟨b,o,g,Nat.lt_of_lt_of_le j k.size,k.cell c0 d,k.cell e d,k.cell f d⟩

theorem Both.tyAt{w0 w:World}{P:Sp}{c q:Nat}{b:Value}{W:Nat->Nat}{cs:List Cel}(a:Both w0 w P c q b W cs):A8 w b P.ts:=a.ty.keepBase a.kb

theorem Both.few'{w0 w:World}{P:Sp}{c q:Nat}{b:Value}{W:Nat->Nat}{cs:List Cel}(a:Both w0 w P c q b W cs):P.ts.length<=17592186044416:=by have:=a.few;omega

theorem Both.cells{w0 w:World}{P:Sp}{d q:Nat}{c:Value}{W:Nat->Nat}{cs:List Cel}(a:Both w0 w P d q c W cs):CellsAt P W cs:=by
 obtain⟨f,_,b,_⟩:=a.sp
 exact b

theorem Both.at_{w0 w:World}{P:Sp}{d q:Nat}{c:Value}{W:Nat->Nat}{cs:List Cel}(a:Both w0 w P d q c W cs):∃ f,SpaceAt w P W f:=by
 obtain⟨f,b,_⟩:=a.sp
 exact⟨f,b⟩

theorem Both.lt{w0 w:World}{P:Sp}{d q:Nat}{c:Value}{W:Nat->Nat}{cs:List Cel}(a:Both w0 w P d q c W cs):∀ k,P.all k->k<w.heap.size:=by
 obtain⟨f,b⟩:=a.at_
 exact b.lt

theorem Both.small{w0 w:World}{P:Sp}{c q:Nat}{b:Value}{W:Nat->Nat}{cs:List Cel}(a:Both w0 w P c q b W cs):P.n<=65536:=a.dc.row.small

theorem Sp.Cr{P:Sp}{k:Nat}(h:P.own k):P.all k:=by
 rcases h with h|h|h <;> (unfold Sp.all;simp [h])

theorem Both.Ac{w0 w w':World}{P:Sp}{c q:Nat}{b:Value}{W:Nat->Nat}{cs:List Cel}(a:Both w0 w P c q b W cs)(k:Kp Aa w w'):Both w0 w' P c q b W cs:=
 ⟨a.sp.Ac k,a.dc.Ac k,a.own,a.rb0,a.rbn,a.qn,a.gap,a.kb.trans k (λ _ _ a=>a.elim),a.ty,a.few,a.ms⟩

theorem Both.size{w0 w:World}{P:Sp}{c q:Nat}{b:Value}{W:Nat->Nat}{cs:List Cel}(a:Both w0 w P c q b W cs):w0.heap.size<=w.heap.size:=a.kb.size

theorem Both.step{w0 w w1 w2:World}{P:Sp}{c q b:Nat}{g:Value}{W d:Nat->Nat}{cs f:List Cel}(a:Both w0 w P c q g W cs)(j:Kp P.own w w1)(x:AQ w1 P d f)(r:BX f)(l:Kp (λ k=>k=c) w1 w2)
  (p:DocAt w2 c b P.n d g) (v:b=q\/w1.heap.size<=b):Both w0 w2 P c b g d f:=
 ⟨x.keep l (λ i s e=>a.rbn (e▸s)),p,a.own,a.rb0,a.rbn,by
  rcases v with e|e
  .rw [e];exact a.qn
  .exact λ o=>by
    have:=a.lt b o
    have:=j.size
    omega,r,
  (a.kb.trans j (λ k t u=>a.own k u)).trans l (λ k t e=>by have m:k=c:=e;rw [m];exact a.rb0),a.ty,a.few,a.ms⟩

def Eo(w0:World)(P:Sp)(rb:Nat)(lv:Value)(w:World)(e:Ending)(w':World):Prop:=
 ∃ W' cs' q',e=.returned (.bool true)/\Both w0 w' P rb q' lv W' cs'

theorem cells6{w:World}{b:Nat}{a c d e f g:Value}{T:TypeId}(i:w.heap[b]?=some (.cells #[a,c,d,e,f,g] T (0,0))):
  w.cell? b=some a/\w.cell? ⟨b,1,none⟩=some c/\w.cell? ⟨b,2,none⟩=some d/\w.cell? ⟨b,3,none⟩=some e/\w.cell? ⟨b,4,none⟩=some f/\w.cell? ⟨b,5,none⟩=some g:=by
 refine⟨?_,?_,?_,?_,?_,?_⟩ <;> simp only[World.cell?,i] <;> rfl

theorem start_of_drop{cs i a b k:List Cel}{c:Cel}{j x y:Nat}(d:Dj cs j i a c b k x y):Ak cs j=true:=by
 obtain⟨e,f,g,-⟩:=d
 unfold Ak
 rw[List.any_eq_true]
 exact⟨c,by rw[e];simp,by simp[f,g]⟩

def DK(d g i n y:Int)(u:Value):Value:=.agg #[.int .i64 d,.int .i64 g,.int .i64 i,.int .i64 n,.int .u64 y,u]

def PutStep(P:Sp)(W:Nat->Nat)(cs:List Cel)(g i n:Int)(W':Nat->Nat)(cs':List Cel):Prop:=
 (¬ DW P.ts (P.n/2) cs g i n=0/\W'=W/\cs'=cs)\/
  (DW P.ts (P.n/2) cs g i n=0/\∃ (pre:List Cel) (c:Cel) (post:List Cel) (j a l S:Nat),cs=pre++c::post/\¬ c.tag=1/\g=(j:Nat)/\i=(a:Nat)/\n=(l:Nat)/\BB P.ts i n=(S:Nat)/\
   c.g<=j/\j+S<=c.fin/\0<S/\W'=putW W c j a l S/\cs'=putL pre c post j a l S)

def EP(w0:World)(P:Sp)(rb:Nat)(lv:Value)(R:(Nat->Nat)->List Cel->Prop)(w:World)(e:Ending)(w':World):Prop:=
 ∃ W' cs' q',e=.returned (.bool true)/\Both w0 w' P rb q' lv W' cs'/\R W' cs'

theorem EP.weak{w0:World}{P:Sp}{b:Nat}{a:Value}{R:(Nat->Nat)->List Cel->Prop}{w:World}{e:Ending}{w':World}(f:EP w0 P b a R w e w'):Eo w0 P b a w e w':=by
 obtain⟨c,d,j,g,i,-⟩:=f
 exact⟨c,d,j,g,i⟩

set_option maxRecDepth 20000 in
theorem Does_putR(w0 w:World)(P:Sp)(r q:Nat)(J:Value)(W:Nat->Nat)(cs:List Cel)(g i n y:Int)(u:Value)(A:Both w0 w P r q J W cs)(c6:∃ a l c,u=.slice a l c):
  Calls prog 50 #[.pointer (some P.s),.pointer (some r),DK 0 g i n y u] w (EP w0 P r J (λ b0 b1=>PutStep P W cs g i n b0 b1) w):=by
 obtain⟨a6,a8,a7,rfl⟩:=c6
 obtain⟨w1,C⟩:∃ w1,w1=w.alloc (.cells #[(0:Int),.int .i64 g,.int .i64 i,.int .i64 n,.int .u64 y,.slice a6 a8 a7] 104):=⟨_,rfl⟩
 have a3:Kp Aa w w1:=by rw[C];exact (Kr _ w).alloc _
 have F:w1.heap[w.heap.size]?=some (.cells #[(0:Int),.int .i64 g,.int .i64 i,.int .i64 n,.int .u64 y,.slice a6 a8 a7] 104 (0,0)):=by rw[C];exact wN w _
 have e2:=lZ F
 obtain⟨c0,O,Q,R,d6,d7⟩:=cells6 F
 have L:=A.Ac a3
 have d5:=sE A
 have b:=sE L
 have X:¬ P.own w.heap.size:=λ f=>by have:=A.lt _ (Sp.Cr f);omega
 have Y:¬ w.heap.size=r:=λ f=>by have:=A.dc.lt;omega
 have D:=sE X
 have E:=sE Y
 clear F a3 L A X Y
 unfold DK
 go_enter func50,ntmps50
 go_wp2_with fail
 rw[<- C]
 clear C
 try go_wp2_with fail
 refine wp_region_held_drew (S:=(λ w'=>w'.cell? ⟨w.heap.size,1,none⟩=some (.int .i64 g)/\w'.cell? ⟨w.heap.size,2,none⟩=some (.int .i64 i)/\w'.cell? ⟨w.heap.size,3,none⟩=some (.int .i64 n))) (by kernel_rfl) ?_ (λ a5=>?_)
 .exact ⟨Ae ((Kr _ _).drew) O,Ae ((Kr _ _).drew) Q,Ae ((Kr _ _).drew) R⟩
 refine Ap 0 ?_;refine Ap 1 ?_;refine Ap 2 ?_;refine Ap 3 ?_;refine Ap 4 ?_;refine Ap 5 ?_;refine Ap 6 ?_;refine Ap 8 ?_;refine Ap 9 ?_;refine Ap 10 ?_;refine Ap 11 ?_;refine Ap 12 ?_;refine Ap 13 ?_;refine Ap 14 ?_
 try simp only[AB]
 refine Bp [7] ?_
 refine Ag rfl (λ K hK=>?_)
 go_simp
 refine(Put_anyW g i n P cs _ W (b.o.sp.Ac ((Kr _ _).drew))).mono ?_
 rintro e w2 ⟨rfl,a4,p⟩
 have a9:=sE p
 have m:Sl (Kp P.own w1 w2):=⟨((Kr P.own w1).drew).trans a4 (λ _ _ f=>f)⟩
 have T:=m.o.cell O D.o
 have U:=m.o.cell Q D.o
 have V:=m.o.cell R D.o
 clear p a4
 refine hK _ _ ?_ (λ a5=>?_)
 .exact ⟨T,U,V⟩
 clear hK K
 try simp only[AB]
 refine Bp [15] ?_
 refine Ag rfl (λ K hK=>?_)
 go_simp
 have a2:¬ P.own r:=λ f=>b.o.rbn (Sp.Cr f)
 have a1:¬ P.own q:=λ f=>b.o.qn (Sp.Cr f)
 have a0:=b.o.kb.trans m.o (λ k e1 p=>b.o.own k p)
 refine(DPut_any P W cs r q J g i n _ (b.o.dc.keep m.o a2 a1) b.o.cells (b.o.ty.keepBase a0) b.o.few b.o.ms).mono ?_
 rintro e e4 ⟨rfl,B,p⟩
 have M:=sE p
 have N:=sE B
 have b2:=B.cell T E.o
 have b3:=B.cell U E.o
 have b4:=B.cell V E.o
 clear p B a0 a2 a1
 refine hK _ _ ?_ (λ a5=>?_)
 .exact ⟨b2,b3,b4⟩
 clear hK K
 try simp only[AB]
 refine Ap 16 ?_;refine Ap 17 ?_
 try simp only[AB]
 refine wpAnyH_done (by kernel_rfl) ?_ _
 go_wp2
 refine bodyPost_ret (v:=.bool true) (by simp[results,results50,go_sem]) rfl ?_
 rcases a9.o with ⟨t,I⟩|⟨t,d1,c,d0,j,a,l,S,G,c5,b9,c2,c3,b5,Z,b7,b6,I⟩
 .rcases M.o with ⟨z,H⟩|⟨z,-⟩
  .exact ⟨W,cs,q,rfl,b.o.step m.o I b.o.gap N.o H (.inl rfl),.inl ⟨t,rfl,rfl⟩⟩
  .exact absurd z t
 .rcases M.o with ⟨z,-⟩|⟨z,x,c8,a',c9,S',c7,d9,e0,e3,d8,c1,d2,c4,H⟩
  .exact absurd t z
  .obtain rfl:j=c8:=by omega
   obtain rfl:a=a':=by omega
   obtain rfl:l=c9:=by omega
   obtain rfl:S=S':=by omega
   obtain⟨e5,d3,d4,e6⟩:=c1
   have b8:c=x:=cell_only b.o.cells.tl (c:=c) (d:=x) (by rw[G];simp) c7 (j:=j) Z (by omega) d3 d4
   subst b8
   exact⟨_,_,d2,rfl,b.o.step m.o I (put_gaps (G▸b.o.gap)) N.o H (.inr c4),.inr ⟨t,d1,c,d0,j,a,l,S,G,c5,b9,c2,c3,b5,Z,b7,b6,rfl,rfl⟩⟩

theorem Does_put(w0 w:World)(P:Sp)(b q:Nat)(d:Value)(W:Nat->Nat)(cs:List Cel)(g i n y:Int)(u:Value)(f:Both w0 w P b q d W cs)(j:∃ a l c,u=.slice a l c):
  Calls prog 50 #[.pointer (some P.s),.pointer (some b),DK 0 g i n y u] w (Eo w0 P b d w):=
 (Does_putR w0 w P b q d W cs g i n y u f j).mono λ_ _ e=>e.weak

set_option maxRecDepth 20000 in
theorem Does_drop(w0 w:World)(P:Sp)(t q:Nat)(G:Value)(W:Nat->Nat)(cs:List Cel)(g i n y:Int)(u:Value)(C:Both w0 w P t q G W cs)(c3:∃ a l c,u=.slice a l c):
  Calls prog 50 #[.pointer (some P.s),.pointer (some t),DK 1 g i n y u] w (Eo w0 P t G w):=by
 obtain⟨a7,a9,a8,rfl⟩:=c3
 obtain⟨w1,F⟩:∃ w1,w1=w.alloc (.cells #[(1:Int),.int .i64 g,.int .i64 i,.int .i64 n,.int .u64 y,.slice a7 a9 a8] 104):=⟨_,rfl⟩
 have a4:Kp Aa w w1:=by rw[F];exact (Kr _ w).alloc _
 have I:w1.heap[w.heap.size]?=some (.cells #[(1:Int),.int .i64 g,.int .i64 i,.int .i64 n,.int .u64 y,.slice a7 a9 a8] 104 (0,0)):=by rw[F];exact wN w _
 have d8:=lZ I
 obtain⟨c0,T,d0,d1,d2,d3⟩:=cells6 I
 have O:=C.Ac a4
 have c8:=sE C
 have b:=sE O
 have V:¬ P.own w.heap.size:=λ f=>by have:=C.lt _ (Sp.Cr f);omega
 have X:¬ w.heap.size=t:=λ f=>by have:=C.dc.lt;omega
 have b2:=sE V
 have b3:=sE X
 clear I a4 O C V X
 unfold DK
 go_enter func50,ntmps50
 go_wp2_with fail
 rw[<- F]
 clear F
 try go_wp2_with fail
 refine wp_region_held_drew (S:=(λ w'=>w'.cell? ⟨w.heap.size,1,none⟩=some (.int .i64 g))) (by kernel_rfl) ?_ (λ a6=>?_)
 .exact Ae ((Kr _ _).drew) T
 refine Ap 0 ?_;refine Ap 1 ?_;refine Ap 2 ?_;refine Ap 4 ?_;refine Ap 5 ?_;refine Ap 6 ?_
 try simp only[AB]
 refine Bp [3] ?_
 refine Ag rfl (λ K hK=>?_)
 go_simp
 refine(Drop_anyW g P cs _ W (b.o.sp.Ac ((Kr _ _).drew))).mono ?_
 rintro e w2 p
 obtain⟨r,rfl,a5⟩:∃ r:Int,e=.returned (.int .i64 r)/\Kp P.own w1.drew w2:=by
  rcases p with ⟨rfl,_,k⟩|⟨rfl,k,_⟩
  .exact ⟨_,rfl,k.Aw _⟩
  .exact ⟨_,rfl,k⟩
 have b4:=sE p
 have B:Sl (Kp P.own w1 w2):=⟨((Kr P.own w1).drew).trans a5 (λ _ _ f=>f)⟩
 have U:=B.o.cell T b2.o
 clear p a5
 refine hK _ _ ?_ (λ a6=>?_)
 .exact U
 clear hK K
 try simp only[AB]
 refine Bp [7] ?_
 refine Ag rfl (λ K hK=>?_)
 go_simp
 have a2:¬ P.own t:=λ f=>b.o.rbn (Sp.Cr f)
 have a1:¬ P.own q:=λ f=>b.o.qn (Sp.Cr f)
 have Y:=b.o.kb.trans B.o (λ k d7 p=>b.o.own k p)
 refine(DDrop_any P W cs t q G g _ (b.o.dc.keep B.o a2 a1) b.o.cells (b.o.ty.keepBase Y) b.o.few' b.o.ms).mono ?_
 rintro e b0 p
 obtain⟨c7,rfl,M⟩:∃ r:Int,e=.returned (.int .i64 r)/\Kp (λ k=>k=t) w2 b0:=by
  rcases p with ⟨rfl,_,_,k⟩|⟨rfl,k,_⟩
  .exact ⟨_,rfl,k.Aw _⟩
  .exact ⟨_,rfl,k⟩
 have Q:=sE p
 have R:=sE M
 have b5:=M.cell U b3.o
 clear p M Y a2 a1
 refine hK _ _ ?_ (λ a6=>?_)
 .exact b5
 clear hK K
 try simp only[AB]
 obtain⟨c1,b1⟩:r=c7/\Sl (∃ H J A,Both w0 b0 P t A G H J):=by
  rcases b4.o with ⟨m,b9,a3⟩|⟨m,a3,j,c5,b6,c,b7,c6,x,z,L,E,c2⟩
  .rcases Q.o with ⟨d,Z,D,N⟩|⟨d,N,j,c5,b6,c,b7,c6,x,z,L,E,A,a0,D⟩
   .injection m with m;injection m with m;injection d with d;injection d with d
    exact⟨by omega,⟨W,cs,q,b.o.step B.o (b.o.sp.Ac ((Kr Aa w1).drew.then' a3)) b.o.gap R.o D (.inl rfl)⟩⟩
   .have:=start_of_drop E
    rw[b9 j L] at this
    cases this
  .rcases Q.o with ⟨d,Z,D,N⟩|⟨d,N,c4,d9,d4,c9,d5,e0,e1,z',d6,b8,A,a0,D⟩
   .have:=start_of_drop E
    rw[Z j L] at this
    cases this
   .injection m with m;injection m with m;injection d with d;injection d with d
    obtain rfl:j=c4:=by omega
    obtain⟨rfl,rfl,rfl,rfl⟩:=E.uniq b.o.cells.tl b8
    exact⟨by omega,⟨_,_,A,b.o.step B.o c2 (drop_gaps b.o.gap E) R.o D a0⟩⟩
 subst c1
 refine Ap 8 ?_;refine Ap 9 ?_
 try simp only[AB]
 refine wpAnyH_done (by kernel_rfl) ?_ _
 go_wp2
 refine bodyPost_ret (v:=.bool true) (by simp[results,results50,go_sem]) rfl ?_
 obtain⟨H,J,A,f⟩:=b1.o
 exact⟨H,J,A,rfl,f⟩

theorem Bw.keepN1{w w':World}{v:Value}{b:Nat}{x:Nat->Nat->Int}(a:Bw 1 w v b x)(k:Kp Aa w w'):Bw 1 w' v b x:=a.keep k (λ _ _ a=>a)

theorem ints_block{w:World}{v:Value}{c:Nat}{x:Nat->Nat->Int}(d:Bw 1 w v c x)(e:0<c){b:Nat}(f:v.ownBlock=some b):b<w.heap.size:=by
 obtain⟨a,cap,rfl,i⟩:=ints_at d
 obtain⟨g,o,rfl,j,-⟩:=i 0 e
 have:g=b:=by injection f
 omega

theorem settle_gaps{os:List Cel}{H:Nat}(a:CX 0 os H):BX (Df 0 os H):=λ c b d=>by
 rcases settleL_mem a b with m|⟨g,m,e,f,rfl⟩
 .exact absurd (a.mem m).2.1 d
 .exact ⟨rfl,rfl,rfl⟩

theorem slot_in{P:Sp}{W:Nat->Nat}{cs:List Cel}{c:Cel}{k wds:Int}{m j:Nat}(b:CellsAt P W cs)(d:c∈cs)(e:c.tag=1)(f:typeOf P.ts (c.ty:Nat)=some ⟨k,wds,m⟩)(l:(j:Int)<AZ k wds (c.ln:Nat)):
  2*c.g<2*c.g+1+j/\2*c.g+1+j<2*c.fin/\2*c.g+1+j<P.n:=by
 obtain⟨i,a⟩:=(b.ok c d).2 e
 have o:=b.tl.mem d
 unfold BB at a
 rw[f] at a
 simp only[FK] at a
 unfold Cel.fin
 omega

theorem kind_of{P:Sp}{W:Nat->Nat}{cs:List Cel}{c:Cel}{k wds:Int}{m:Nat}(b:CellsAt P W cs)(d:c∈cs)(e:c.tag=1)(f:typeOf P.ts (c.ty:Nat)=some ⟨k,wds,m⟩):AU k wds m (c.ln:Nat)=0:=by
 obtain⟨a,g⟩:=(b.ok c d).2 e
 unfold AV at a
 rw[f] at a
 exact a

theorem Both.lay{w0 w w1 w2:World}{P:Sp}{d q b z Y:Nat}{l:Value}{W:Nat->Nat}{cs:List Cel}{c:Cel}(j:Both w0 w P d q l W cs)(m:Kp (λ i=>i=P.a\/i=P.q) w w1)(o:ArenaAt w1 P.a P.q (DN W z Y) P.n)(s:c∈cs)(p:2*c.g<z)(r:z<2*c.fin)
  (B:Kp (λ k=>k=d) w1 w2) (u:DocAt w2 d b P.n (DN W z Y) l) (x:b=q\/w1.heap.size<=b):Both w0 w2 P d b l (DN W z Y) cs:=by
 obtain⟨f,y,t,A⟩:=j.sp
 exact j.step (m.mono (λ i _ v=>by rcases v with e|e;exact .inl e;exact .inr (.inl e))) ⟨f,y.words m o,t.store s p r Y,A⟩ j.gap B u x

set_option maxRecDepth 20000 in
theorem Does_settle(w0 w:World)(P:Sp)(A q:Nat)(I:Value)(W:Nat->Nat)(cs:List Cel)(g i n y:Int)(u:Value)(B:Both w0 w P A q I W cs)(e1:∃ a l c,u=.slice a l c)(m:Nat)(x:Nat->Nat->Int)(E:Bw 1 w0 u m x)(f4:m<=300):
  Calls prog 50 #[.pointer (some P.s),.pointer (some A),DK 3 g i n y u] w (Eo w0 P A I w):=by
 have a6:=sE E
 have c2:0<m->u.ownBlock≠some A:=λ d e=>by have:=ints_block E d e;have:=B.rb0;omega
 have b2:Bw 1 w u m x:=E.keepB B.kb (λ b d e=>by have:=ints_block E d e;omega)
 have O:=b2.keepN1 (w':=w.alloc (.cells #[(3:Int),.int .i64 g,.int .i64 i,.int .i64 n,.int .u64 y,u] 104)) ((Kr _ _).alloc _)
 obtain⟨Z,a1,a0,rfl⟩:=e1
 obtain⟨w1,G⟩:∃ w1,w1=w.alloc (.cells #[(3:Int),.int .i64 g,.int .i64 i,.int .i64 n,.int .u64 y,.slice Z a1 a0] 104):=⟨_,rfl⟩
 have c6:Kp Aa w w1:=by rw[G];exact (Kr _ w).alloc _
 have L:w1.heap[w.heap.size]?=some (.cells #[(3:Int),.int .i64 g,.int .i64 i,.int .i64 n,.int .u64 y,.slice Z a1 a0] 104 (0,0)):=by rw[G];exact wN w _
 have f3:=lZ L
 obtain⟨c0,e8,e9,f0,f1,M⟩:=cells6 L
 have a4:=B.Ac c6
 rw[<- G] at O
 have a5:=sE O
 have d5:=sE c2
 clear E b2 O c2
 have e7:=sE B
 have f:=sE a4
 have b4:¬ P.own w.heap.size:=λ d=>by have:=B.lt _ (Sp.Cr d);omega
 have b5:¬ w.heap.size=A:=λ d=>by have:=B.dc.lt;omega
 have d1:=sE b4
 have d2:=sE b5
 clear L c6 a4 B b4 b5
 unfold DK
 go_enter func50,ntmps50
 go_wp2_with fail
 rw[<- G]
 clear G
 try go_wp2_with fail
 refine wp_region_held_drew (S:=(λ w'=>w'.cell? ⟨w.heap.size,5,none⟩=some (.slice Z a1 a0))) (by kernel_rfl) ?_ (λ Y=>?_)
 .exact Ae ((Kr _ _).drew) M
 refine Ap 0 ?_;refine Ap 1 ?_;refine Ap 2 ?_;refine Ap 5 ?_;refine Ap 6 ?_;refine Ap 7 ?_
 try simp only[AB]
 refine Bp [3] ?_
 refine Ag rfl (λ K hK=>?_)
 obtain⟨e3,b7,c3,c4,c5⟩:=info_parts Be
 refine step_append_ints rfl _ _ 24 rfl 3 e3 Ar b7 c3 c4 c5 rfl _ m x rfl (a5.o.keepN1 ((Kr _ _).drew)) (by omega) ?_
 intro a2 w2 R b6
 clear b7 c3 c4 c5
 have X:Kp Aa w1 w2:=((Kr Aa w1).drew).grown b6 (λ k e _=>by cases e)
 have b3:∀ i,i<m->-9223372036854775808<=x i 0/\x i 0<=9223372036854775807:=λ i d9=>by
  obtain⟨a,cap,_,e2⟩:=ints_at a5.o
  obtain⟨_,_,_,_,_,j,d8⟩:=e2 i d9
  exact⟨j,d8⟩
 have d0:Sl (Bw 1 w2 a2 m x):=⟨Bw.Bc R b3⟩
 have d3:Sl (∀ b,a2.ownBlock=some b->w1.heap.size<=b):=⟨λ b e=>(Ad R e).1⟩
 have a9:=sE X
 have d6:=X.cell M id
 clear R b6 b3 X
 refine hK _ _ ?_ (λ Y=>?_)
 .exact d6
 clear hK K
 try simp only[AB]
 refine Bp [4] ?_
 refine Ag rfl (λ K hK=>?_)
 go_simp
 refine(SSettle_any P W cs a2 m x _ (f.o.sp.Ac a9.o) d0.o (by omega) (λ _ b e d=>by have:=d3.o b e;have:=f.o.lt b (Sp.Cr d);omega)).mono ?_
 rintro e a3 z
 obtain⟨r,rfl,c7⟩:∃ r:Int,e=.returned (.int .i64 r)/\Kp P.own w2 a3:=by
  rcases z with ⟨_,rfl,_,k⟩|⟨_,_,rfl,k,_⟩
  .exact ⟨_,rfl,k.Aw _⟩
  .exact ⟨_,rfl,k⟩
 have d4:=sE z
 have D:Sl (Kp P.own w1 a3):=⟨(a9.o.Aw _).trans c7 (λ _ _ d=>d)⟩
 have b0:=D.o.cell M d1.o
 clear z c7
 refine hK _ _ ?_ (λ Y=>?_)
 .exact b0
 clear hK K
 try simp only[AB]
 refine Bp [8] ?_
 refine Ag rfl (λ K hK=>?_)
 go_simp
 have c1:¬ P.own A:=λ d=>f.o.rbn (Sp.Cr d)
 have b9:¬ P.own q:=λ d=>f.o.qn (Sp.Cr d)
 have Q:=f.o.kb.trans D.o (λ k f2 z=>f.o.own k z)
 have b1:=a6.o.keepB Q (λ b d e=>by have:=ints_block a6.o d e;omega)
 refine(DSettle_any P W A q I _ m x _ (f.o.dc.keep D.o c1 b9) (f.o.ty.keepBase Q) f.o.few' f.o.ms b1 (by omega) d5.o).mono ?_
 rintro e c8 z
 obtain⟨e6,rfl,U⟩:∃ r:Int,e=.returned (.int .i64 r)/\Kp (λ k=>k=A) a3 c8:=by
  rcases z with ⟨_,rfl,_,k⟩|⟨_,_,rfl,k,_⟩
  .exact ⟨_,rfl,k.Aw _⟩
  .exact ⟨_,rfl,k⟩
 have a7:=sE z
 have a8:=sE U
 have d7:=U.cell b0 d2.o
 clear z U Q c1 b9 b1
 refine hK _ _ ?_ (λ Y=>?_)
 .exact d7
 clear hK K
 try simp only[AB]
 obtain⟨e0,c9⟩:r=e6/\Sl (∃ J N C,Both w0 c8 P A C I J N):=by
  rcases d4.o with ⟨H,t,T,e4⟩|⟨os,H,t,e4,T⟩
  .rcases a7.o with ⟨p,j,F,V⟩|⟨e5,p,j,V,C,b8,F⟩
   .injection t with t;injection t with t;injection j with j;injection j with j
    exact⟨by omega,⟨W,cs,q,f.o.step D.o T f.o.gap a8.o F (.inl rfl)⟩⟩
   .rw [H] at p;cases p
  .rcases a7.o with ⟨p,j,F,V⟩|⟨e5,p,j,V,C,b8,F⟩
   .rw [H] at p;cases p
   .rw [H] at p
    injection p with p
    subst p
    injection t with t;injection t with t;injection j with j;injection j with j
    exact⟨by omega,⟨_,_,C,f.o.step D.o T (settle_gaps (C8 f.o.dc.row.fits H (Nat.zero_le _)).1) a8.o F b8⟩⟩
 subst e0
 refine Ap 9 ?_;refine Ap 10 ?_
 try simp only[AB]
 refine wpAnyH_done (by kernel_rfl) ?_ _
 go_wp2
 refine bodyPost_ret (v:=.bool true) (by simp[results,results50,go_sem]) rfl ?_
 obtain⟨J,N,C,d⟩:=c9.o
 exact⟨J,N,C,rfl,d⟩

set_option maxRecDepth 20000 in
theorem Does_else(w0 w:World)(P:Sp)(b q:Nat)(r:Value)(W:Nat->Nat)(cs:List Cel)(d g i n y:Int)(u:Value)(p:Both w0 w P b q r W cs)(e:¬ d=0)(f:¬ d=1)(j:¬ d=2)(k:¬ d=3)(m:¬ d=5)(x:∃ a l c,u=.slice a l c):
  Calls prog 50 #[.pointer (some P.s),.pointer (some b),DK d g i n y u] w (Eo w0 P b r w):=by
 obtain⟨E,G,F,rfl⟩:=x
 have z:(d==0)=false:=by simpa using e
 have A:(d==1)=false:=by simpa using f
 have B:(d==2)=false:=by simpa using j
 have C:(d==3)=false:=by simpa using k
 have D:(d==5)=false:=by simpa using m
 have t:=sE p
 clear p e f j k m
 unfold DK
 go_enter func50,ntmps50
 go_wp2
 exact bodyPost_ret (v:=.bool true) (by simp[results,results50,go_sem]) rfl ⟨W,cs,q,rfl,t.o.Ac ((Kr _ _).alloc _)⟩

set_option maxRecDepth 20000 in
theorem Does_slot(w0 w:World)(P:Sp)(p q:Nat)(a0:Value)(W:Nat->Nat)(cs:List Cel)(g i n y:Int)(u:Value)(H:Both w0 w P p q a0 W cs)(i4:∃ a l c,u=.slice a l c)(d8:0<=y/\y<=18446744073709551615):
  Calls prog 50 #[.pointer (some P.s),.pointer (some p),DK 2 g i n y u] w (Eo w0 P p a0 w):=by
 obtain⟨e3,e5,e4,rfl⟩:=i4
 obtain⟨w1,Z⟩:∃ w1,w1=w.alloc (.cells #[(2:Int),.int .i64 g,.int .i64 i,.int .i64 n,.int .u64 y,.slice e3 e5 e4] 104):=⟨_,rfl⟩
 have d9:Kp Aa w w1:=by rw[Z];exact (Kr _ w).alloc _
 have R:w1.heap[w.heap.size]?=some (.cells #[(2:Int),.int .i64 g,.int .i64 i,.int .i64 n,.int .u64 y,.slice e3 e5 e4] 104 (0,0)):=by rw[Z];exact wN w _
 have g8:=lZ R
 obtain⟨c0,b8,g4,b9,c1,g5⟩:=cells6 R
 have b3:=H.Ac d9
 have i9:=sE H
 have x:=sE b3
 have d2:¬ P.own w.heap.size:=λ z=>by have:=H.lt _ (Sp.Cr z);omega
 have d3:¬ w.heap.size=p:=λ z=>by have:=H.dc.lt;omega
 have a3:=sE d2
 have j0:=sE d3
 clear R d9 b3 H d2 d3
 unfold DK
 obtain⟨Y,rfl⟩:=Int.eq_ofNat_of_zero_le d8.1
 have d1:Y<18446744073709551616:=by omega
 have b7:=sE d1
 clear d1 d8
 have f7:=sE (DSl_any P W cs p q a0 g w1 x.o.dc x.o.cells x.o.tyAt x.o.few' x.o.ms)
 go_enter func50,ntmps50
 go_wp2_with fail
 rw[<- Z]
 clear Z
 try go_wp2_with fail
 refine f7.o.mono ?_
 rintro e w2 ⟨r,rfl,J,a6⟩
 have a4:=sE J
 have M:=J.cell b8 id
 have c2:=J.cell b9 id
 have c3:=J.cell c1 id
 have k0:w.heap.size<w2.heap.size:=Nat.lt_of_lt_of_le g8 J.size
 clear c0 b8 g4 b9 c1 g5 J
 by_cases hn0:n<0
 .have i6:decide (n<0)=true:=dT hn0
  clear a6
  go_wp2
  exact bodyPost_ret (v:=.bool true) (by simp[results,results50,go_sem]) rfl ⟨W,cs,q,rfl,x.o.Ac a4.o⟩
 .have i6:decide (n<0)=false:=dF hn0
  by_cases hnr:r<=n
  .have i7:decide (r<=n)=true:=dT hnr
   clear a6
   go_wp2
   exact bodyPost_ret (v:=.bool true) (by simp[results,results50,go_sem]) rfl ⟨W,cs,q,rfl,x.o.Ac a4.o⟩
  .have i7:decide (r<=n)=false:=dF hnr
   rcases a6 with ⟨c,k,wds,m,U,V,d4,X,a9⟩|⟨-,a9⟩
   .obtain ⟨j,rfl⟩:=Int.eq_ofNat_of_zero_le (show 0<=n by omega)
    obtain rfl:g=(c.g:Nat):=d4.symm
    have a7:(j:Int)<AZ k wds (c.ln:Nat):=by rw[<- a9];omega
    obtain⟨e7,e8,b1⟩:=slot_in x.o.cells U V X a7
    have c9:=kind_of x.o.cells U V X
    have a1:=x.o.Ac a4.o
    obtain⟨f,d0⟩:=a1.at_
    have E:=sE d0
    have b4:=sE a1
    have b6:=sE U
    have f9:=sE V
    have g0:=sE X
    have f5:=sE a7
    have f4:=sE c9
    have F:Sl (2*c.g<2*c.g+1+j/\2*c.g+1+j<2*c.fin/\2*c.g+1+j<P.n):=⟨⟨e7,e8,b1⟩⟩
    have l2:=x.o.small
    have l4:2*c.g+1+j<P.n:=b1
    clear U V d4 X a9 a7 c9 d0 a1 e7 e8 b1 hn0 hnr
    go_wp2_with fail
    refine wp_region_held_drew (S:=(λ w'=>w'.cell? ⟨w.heap.size,1,none⟩=some (.int .i64 c.g))) (by kernel_rfl) ?_ (λ b0=>?_)
    .exact Ae ((Kr _ _).drew) M
    refine Ap 0 ?_;refine Ap 2 ?_;refine Ap 4 ?_;refine Ap 5 ?_
    try simp only[AB]
    refine Bp [1] ?_
    refine Ag rfl (λ K hK=>?_)
    go_simp
    refine(FR P W f _ (E.o.Ac ((Kr _ _).drew))).mono ?_
    rintro e O ⟨rfl,rfl⟩
    refine hK _ _ ?_ (λ b0=>?_)
    .exact Ae ((Kr _ _).drew) M
    clear hK K
    try simp only[AB]
    refine Bp [3] ?_
    refine Ag rfl (λ K hK=>?_)
    go_simp
    refine(STable_at P W f _ (E.o.Ac ((Kr _ _).drew))).mono ?_
    rintro e O ⟨rfl,rfl⟩
    refine hK _ _ ?_ (λ b0=>?_)
    .exact Ae ((Kr _ _).drew) M
    clear hK K
    try simp only[AB]
    refine Bp [6] ?_
    refine Ag rfl (λ K hK=>?_)
    go_simp
    refine(SOf_any (c.g:Nat) P.a P.q P.n P.t P.tq W P.ts _ (E.o.Ac ((Kr _ _).drew)).fl (E.o.Ac ((Kr _ _).drew)).ar (E.o.Ac ((Kr _ _).drew)).tb).mono ?_
    intro e O a8
    unfold Db at a8
    rw[b4.o.cells.obj b6.o f9.o] at a8
    obtain⟨i8,l5,l6,m',B,rfl,d7,l3,e0⟩:=a8
    rw[g0.o] at B
    injection B with B
    injection B with B h1' h1''
    subst B h1' h1''
    have G:Sl (Kp Aa w2 O):=⟨((Kr _ _).drew).then' e0⟩
    have g1:=sE d7
    have a5:=G.o.cell M id
    clear d7 e0
    refine hK _ _ ?_ (λ b0=>?_)
    .exact a5
    clear hK K
    try simp only[AB]
    refine Ap 7 ?_;refine Ap 8 ?_;refine Ap 9 ?_;refine Ap 10 ?_;refine Ap 11 ?_
    try simp only[AB]
    refine wpAnyH_done (by kernel_rfl) ?_ _
    have c4:=G.o.cell c2 id
    have c5:=G.o.cell c3 id
    have k9:=G.o.size
    have k1:w.heap.size<O.heap.size:=by omega
    have b5:=sE (b4.o.Ac G.o)
    have f1:=sE ((E.o.Ac G.o).ar)
    have f8:=sE (VStore_yes j Y i8 P.a P.q P.n W c k wds m O f1.o g1.o f4.o f5.o b7.o F.o.2.2)
    clear M c2 c3
    go_wp2_with fail
    refine f8.o.mono ?_
    rintro e e6 ⟨rfl,C,b2⟩
    have g2:=sE C
    have f2:=sE b2
    have I:∀ b,¬ P.own b->¬ (b=P.a\/b=P.q):=λ b z e=>z (by rcases e with e|e;exact .inl e;exact .inr (.inl e))
    have c6:=C.cell a5 (I _ a3.o)
    have c7:=C.cell c4 (I _ a3.o)
    have c8:=C.cell c5 (I _ a3.o)
    have d6:¬ P.own p:=λ z=>x.o.rbn (Sp.Cr z)
    have d5:¬ P.own q:=λ z=>x.o.qn (Sp.Cr z)
    have Q:=b5.o.dc.keep C (I _ d6) (I _ d5)
    have a2:=sE Q
    obtain⟨cap,g6,g7⟩:=Q.head
    have k4:=Q.lt
    have l0:=C.size
    have k2:w.heap.size<e6.heap.size:=by omega
    clear a5 c4 c5 C b2 Q d6 d5 I
    go_wp2_with (at_builtin;go_loud (refine copy_words rfl (.tmp 86) rfl q P.n cap W rfl a2.o.row (by have:=F.o.2.2;omega) ?_;intro A d T N i1 D;have f6:=sE N;have g3:=sE D;have B:=D.cell c6 id;have j8:=D.cell c7 id;have j9:=D.cell c8 id;have j1:=N.at_ F.o.2.2;have j2:=N.free (2*c.g+1+j);have L:=a2.o.Ac D;obtain ⟨j5,j3,R⟩:=L.head;have j4:=L.free 0;have l1:=D.size;have k3:w.heap.size<A.heap.size:=(by omega);have k5:=L.lt;have k8:=N.lt;have g9:¬ d=p:=(by omega);have i0:¬ p=d:=(by omega);have k6:¬ d=w.heap.size:=(by omega);have k7:¬ w.heap.size=d:=(by omega);have f3:=sE L;have i2:¬ q=d:=(by have:=a2.o.row.lt;omega);clear c6 c7 c8 g6 g7 N D L))
    try go_wp2
    have e1:Kp (λ k=>k=d) A (A.setCell ⟨d,2*c.g+1+j,none⟩ (.int .u64 Y)):=(Kr (λ k=>k=d) A).setCell (λ _=>rfl) _
    have e9:=f3.o.keep e1 i0 i2
    obtain⟨j6,i3⟩:=e9.hr
    have e2:Kp (λ k=>k=p) (A.setCell ⟨d,2*c.g+1+j,none⟩ (.int .u64 Y)) ((A.setCell ⟨d,2*c.g+1+j,none⟩ (.int .u64 Y)).setCell p (.slice (some ⟨d,0,none⟩) P.n T)):=(Kr (λ k=>k=p) _).setCell (λ _=>rfl) _
    have f0:DocAt ((A.setCell ⟨d,2*c.g+1+j,none⟩ (.int .u64 Y)).setCell p (.slice (some ⟨d,0,none⟩) P.n T)) p d P.n (DN W (2*c.g+1+j) Y) a0:=
     ⟨⟨T,by rw[bZ i3 _];rfl⟩,(f6.o.store F.o.2.2 Y b7.o).keep e2 g9⟩
    have i5:Kp (λ k=>k=p) e6 ((A.setCell ⟨d,2*c.g+1+j,none⟩ (.int .u64 Y)).setCell p (.slice (some ⟨d,0,none⟩) P.n T)):=
     ((g3.o.Aw _).trans e1 (λ b H z=>by have j7:b=d:=z;omega)).trans e2 (λ _ _ z=>z)
    exact bodyPost_ret (v:=.bool true) (by simp[results,results50,go_sem]) rfl ⟨_,cs,d,rfl,b5.o.lay g2.o f2.o b6.o F.o.1 F.o.2.1 i5 f0 (.inr i1)⟩
   .omega

end

end Go.Proofs.YtfkedlgpgmaemaaGreatDoor
