/-
  Lemmas for the laws, together: SpaceAl, FitA, ArgsA.
-/
import Derived.Test.YtfkedlgpgmaemaaGreatDoorQao
import Derived.Test.YtfkedlgpgmaemaaGreatDoorQam
import Derived.Test.YtfkedlgpgmaemaaGreatDoorQah
import Derived.Test.YtfkedlgpgmaemaaGreatDoorQai
import Derived.Test.YtfkedlgpgmaemaaGreatDoorQaa
import Derived.Deep.SlicePairs
import Derived.SizedLaws
set_option linter.unusedVariables false
set_option maxHeartbeats 16000000
namespace Go.Proofs.YtfkedlgpgmaemaaGreatDoor
open Tryz
section
open Go.RowKit

def alT:List TypR:=[⟨2,0,0⟩]
def alA:List Cel:=[⟨0,3,0,0,8⟩]
def alB:List Cel:=[⟨0,2,0,0,1⟩,⟨1,1,1,3,2⟩,⟨3,3,0,0,5⟩]

attribute [local go_sem ↓] run_eql_cell

end

section
open Go.RowKit
attribute [local go_sem] Oper.semAt_some

theorem STable_at(P:Sp)(W:Nat->Nat)(f:Nat->Bool)(w:World)(a:SpaceAt w P W f):
  Calls prog 32 #[.pointer (some P.s)] w λ e w'=>e=.returned (.pointer (some P.t))/\w'=w:=by
 obtain⟨c0,b,c⟩:=a.head
 clear a
 go_enter func32,ntmps32
 go_wp2
 go_ret
 exact⟨rfl,rfl⟩

end

section
open Go.RowKit
attribute [local go_sem] Oper.semAt_some

end

section
open Go.RowKit
attribute [local go_sem] Oper.semAt_some

end

section
open Go.RowKit
attribute [local go_sem] Oper.semAt_some

end

section
open Go.RowKit
attribute [local go_sem] Oper.semAt_some

end

section
open Go.RowKit

end

section
open Go.RowKit Go.WideShapes Go.ChangeShapes Go.Deep

section
variable {H:Type} {enc:TypeId×Value->H} {P:Program}

theorem spot_none{w:World}{a:Addr}{v:Value}(h:w.cell? (a.add 0)=some v):a.spot=none:=by
 have:=(E9 h).1
 simp[Addr.add] at this
 exact this▸rfl

theorem weightsAll_mem{e:TypeId}:∀ {l:List (DataW H)} {d:DataW H},d∈l->∀ n∈d.weights P e,n∈DataW.weightsAll P e l
 |d0::l,d,hd,n,hn=>by
  simp only[DataW.weightsAll,List.mem_append]
  rcases List.mem_cons.1 hd with rfl|h
  .exact .inl hn
  .exact .inr (weightsAll_mem h n hn)

theorem open_ints{w:World}{base:Nat}{sp:Nat->Bool}{F:Bool}{t e:TypeId}{v:Value}{n:Nat}{x:DataW H×List MemPlace}(o:P.underlying t=some (.slice e))(E:P.underlying e=some (.int .i64))(C:P.cellsOf e=1)(B:P.bytesOf e=8)
  (s:DataW.trod enc P w base sp F n t [v]=some x) (K:∀ n∈x.1.weights P t,n<=reachBytes):∃ p y,Bw 1 w v p y/\p<=17592186044416:=by
 rcases open_slice1 o C s with ⟨a,-⟩|⟨a',q,r,m,U,O,M,N,b,Q,R,S,u,A,g⟩
 .injection a with a
  subst a
  exact⟨0,λ _ _=>0,⟨none,0,rfl,λ i G=>by omega⟩,by omega⟩
 .injection b with b
  subst b
  have J:q<=17592186044416:=by
   subst A
   have:=K _ (by simp only[DataW.weights,o];exact List.mem_cons_self)
   rw[B] at this
   unfold reachBytes at this
   simp only[List.length_map,List.length_range] at this
   omega
  refine⟨q,λ i j=>match w.cell? (a'.add i) with|some (.int _ z)=>z|_=>0,⟨some a',r,rfl,λ i G=>?_⟩,J⟩
  have I:i<m:=by rw[u];split <;> omega
  obtain⟨c,D⟩:=g i I
  obtain⟨z,f,_,L⟩:=DataW.trod_int E D
  injection f with f
  rw[f] at c
  have l:a'.spot=none:=spot_none (g 0 (by omega)).1
  have k:a'=⟨a'.block,a'.off,none⟩:=by cases a';simp at l;simp [l]
  have d:=c
  rw[k,Addr.add_lit] at d
  refine⟨a'.block,a'.off,congrArg some k,(E9 d).2,λ j T=>?_⟩
  simp only[c]
  obtain rfl:j=0:=by omega
  rw[Nat.mul_one,Nat.add_zero]
  exact⟨d,bounds_i64 L⟩

end

def RowsAt(k:Nat)(w:World)(v:Value)(len:Nat)(V:Nat->Nat->Value):Prop:=
 ∃ a cap,v=.slice a len cap/\∀ i,i<len->∃ b o,a=some ⟨b,o,none⟩/\b<w.heap.size/\∀ j,j<k->w.cell? ⟨b,o+(i*k+j),none⟩=some (V i j)

section
variable {H:Type} {enc:TypeId×Value->H} {P:Program}

theorem open_rows{w:World}{base:Nat}{sp:Nat->Bool}{x:Bool}{t e:TypeId}{fs:Array Field}{v:Value}{d:DataW H}{ps:List MemPlace}(E:P.underlying t=some (.slice e))(M:P.underlying e=some (.struct fs))(a8:oneCellFields P fs=true)(Z:P.cellsOf e=fs.size)
  (b0:0<fs.size) (Y:8<=P.bytesOf e) (b2:∃ a b cap,v=.slice a b cap) (g:DataW.Trod enc P w base sp x t v d ps) (F:∀ n∈d.weights P t,n<=reachBytes):
  ∃ b G,RowsAt fs.size w v b G/\b<=17592186044416/\∀ i,i<b->∀ (j:Nat) (f:Field),fs[j]?=some f->∃ n y,DataW.trod enc P w base sp x n f.type [G i j]=some y/\∀ m∈y.1.weights P f.type,m<=reachBytes:=by
 obtain⟨a,b,cap,rfl⟩:=b2
 obtain⟨b9,g⟩:=g
 have a3:(Value.slice a b cap).cells.toList=[.slice a b cap]:=rfl
 rw[a3] at g
 rcases open_slice E g with ⟨p,-⟩|⟨a',c4,b8,m,n,b6,b7,r,s,c0,c1,V,W,X⟩
 .injection p with p
  injection p with p r s
  subst p r s
  exact⟨0,λ _ _=>.bool false,⟨none,0,rfl,λ i c=>by omega⟩,by omega,λ i c=>by omega⟩
 .injection r with r
  injection r with e1 e2 e3
  subst e1 e2 e3
  have B:=congrArg Prod.fst W
  dsimp only at B
  have O:b<=m:=by rw[V];split <;> omega
  have a6:b<=17592186044416:=by
   rw[B] at F
   have:=F _ (by simp only[DataW.weights,E];exact List.mem_cons_self)
   unfold reachBytes at this
   simp only[List.length_map,List.length_range] at this
   have z:(b+(m-b))*8<=(b+(m-b))*P.bytesOf e:=Nat.mul_le_mul_left _ Y
   omega
  have U:∀ i,i<b->∃ cs:List Value,cs.length=fs.size/\(∀ j,j<fs.size->w.cell? ((a'.add (i*fs.size)).add j)=cs[j]?)/\
    ∀ (j:Nat) (f:Field),fs[j]?=some f->∃ u n y,cs[j]?=some u/\DataW.trod enc P w base sp x n f.type [u]=some y/\∀ m∈y.1.weights P f.type,m<=reachBytes:=by
   intro i c
   obtain⟨cs,L,a4⟩:=X i (by omega)
   rw[Z] at L
   obtain⟨_,a2,a1⟩:=World.cells?_some L
   obtain⟨c5,b4,_,a0,_,c3,a5⟩:=DataW.trod_struct M a4
   refine⟨cs,a2,a1,λ j f l=>?_⟩
   have C:j<fs.size:=(Array.getElem?_eq_some_iff.1 l).1
   obtain⟨a7,D⟩:=hone_of a8 j _ l
   have z:=a5 j _ l
   rw[a7,D] at z
   have N:j<cs.length:=by omega
   have a9:(cs.drop j).take 1=[cs[j]]:=by rw[List.drop_eq_getElem_cons N];rfl
   rw[a9,List.getElem?_eq_getElem (by omega)] at z
   refine⟨cs[j],b4,_,List.getElem?_eq_getElem N,z,λ k D=>?_⟩
   refine F k ?_
   rw[B]
   simp only[DataW.weights,E]
   refine List.mem_cons_of_mem _ (List.mem_append_left _ (weightsAll_mem (List.mem_map.2 ⟨i,List.mem_range.2 c,rfl⟩) k ?_))
   have I:=congrArg Prod.fst a0
   dsimp only at I
   rw[I]
   simp only[DataW.weights,M]
   exact DataW.weights_mem_each (j:=j) (t:=f.type) (by simp[l]) (by rw[List.getElem?_map,List.getElem?_eq_getElem (by omega)];rfl) k D
  have b5:∃ q:Nat->List Value,∀ i,i<b->(q i).length=fs.size/\(∀ j,j<fs.size->w.cell? ((a'.add (i*fs.size)).add j)=(q i)[j]?)/\
    ∀ (j:Nat) (f:Field),fs[j]?=some f->∃ u n y,(q i)[j]?=some u/\DataW.trod enc P w base sp x n f.type [u]=some y/\∀ m∈y.1.weights P f.type,m<=reachBytes:=by
   have s:∀ i,∃ q:List Value,i<b->q.length=fs.size/\(∀ j,j<fs.size->w.cell? ((a'.add (i*fs.size)).add j)=q[j]?)/\
     ∀ (j:Nat) (f:Field),fs[j]?=some f->∃ u n y,q[j]?=some u/\DataW.trod enc P w base sp x n f.type [u]=some y/\∀ m∈y.1.weights P f.type,m<=reachBytes:=by
    intro i
    by_cases c:i<b
    .obtain ⟨q,o⟩:=U i c
     exact⟨q,λ _=>o⟩
    .exact ⟨[],λ g=>absurd g c⟩
   exact⟨λ i=>(s i).choose,λ i c=>(s i).choose_spec c⟩
  obtain⟨q,o⟩:=b5
  refine⟨b,λ i j=>(q i).getD j (.bool false),⟨some a',cap,rfl,λ i c=>?_⟩,a6,λ i c j f l=>?_⟩
  .obtain ⟨R,S,T⟩:=o i c
   have A:=(o 0 (by omega)).2.1 0 b0
   have c2:=(o 0 (by omega)).1
   rw[List.getElem?_eq_getElem (by omega)] at A
   have Q:a'.spot=none:=by
    have:=(E9 A).1
    simp[Addr.add] at this
    exact this▸rfl
   have J:a'=⟨a'.block,a'.off,none⟩:=by cases a';simp at Q;simp [Q]
   have K:∀ i j,(a'.add (i*fs.size)).add j=⟨a'.block,a'.off+(i*fs.size+j),none⟩:=by
    intro i j
    rw[J,Addr.add_lit,Addr.add_lit,Nat.add_assoc]
   refine⟨a'.block,a'.off,congrArg some J,?_,λ j C=>?_⟩
   .have:=(E9 A).2
    rw[K] at this
    exact this
   .have:=S j C
    rw[K,List.getElem?_eq_getElem (by omega)] at this
    rw[this]
    simp[R,C]
  .obtain ⟨R,S,T⟩:=o i c
   obtain⟨u,n,y,b1,b3,O⟩:=T j f l
   refine⟨n,y,?_,O⟩
   simpa [List.getD_eq_getElem?_getD,b1] using b3

end

def FT(w:World)(v:Value)(len:Nat)(d g i n y:Nat->Int)(u:Nat->Value)(m:Nat->Nat):Prop:=
 ∃ a cap,v=.slice a len cap/\∀ j,j<len->∃ b o,a=some ⟨b,o,none⟩/\b<w.heap.size/\
  w.cell? ⟨b,o+j*6,none⟩=some (.int .i64 (d j))/\w.cell? ⟨b,o+j*6+1,none⟩=some (.int .i64 (g j))/\w.cell? ⟨b,o+j*6+2,none⟩=some (.int .i64 (i j))/\w.cell? ⟨b,o+j*6+3,none⟩=some (.int .i64 (n j))/\
  w.cell? ⟨b,o+j*6+4,none⟩=some (.int .u64 (y j))/\w.cell? ⟨b,o+j*6+5,none⟩=some (u j)/\(∃ ua uc,u j=.slice ua (m j) uc)/\m j<=17592186044416/\
  (-9223372036854775808<=g j/\g j<=9223372036854775807)/\(-9223372036854775808<=i j/\i j<=9223372036854775807)/\(-9223372036854775808<=n j/\n j<=9223372036854775807)

def AtsAt(w:World)(len:Nat)(u:Nat->Value)(m:Nat->Nat):Prop:=∀ j,j<len->∃ x,Bw 1 w (u j) (m j) x

def intV:Value->Int
 |.int _ z=>z
 |_=>0

def lenV:Value->Nat
 |.slice _ n _=>n
 |_=>0

section
variable {H:Type} {enc:TypeId×Value->H} {P:Program}

theorem open_types7{w:World}{base:Nat}{sp:Nat->Bool}{Q:Bool}{t e:TypeId}{p q j:Field}{v:Value}{d:DataW H}{ps:List MemPlace}(U:P.underlying t=some (.slice e))(O:P.underlying e=some (.struct #[p,q,j]))(S:oneCellFields P #[p,q,j]=true)(M:P.cellsOf e=3)
  (L:8<=P.bytesOf e) (J:P.underlying p.type=some (.int .u8)) (K:P.underlying q.type=some (.int .i64)) (E:P.underlying j.type=some (.int .u64)) (V:∃ a l cap,v=.slice a l cap) (I:DataW.Trod enc P w base sp Q t v d ps) (W:∀ n∈d.weights P t,n<=reachBytes):
  ∃ xs:List TypR,A8 w v xs/\xs.length<=17592186044416/\∀ x∈xs,x.m<18446744073709551616:=by
 obtain⟨l,g,⟨a,cap,rfl,T⟩,R,r⟩:=open_rows U O S M (by simp) L V I W
 refine⟨(List.range l).map λ i=>⟨intV (g i 0),intV (g i 1),(intV (g i 2)).toNat⟩,⟨a,cap,by simp,λ i x k=>?_⟩,by simpa using R,λ x k=>?_⟩
 rotate_left
 .obtain ⟨i,c,rfl⟩:=List.mem_map.1 k
  have c:i<l:=by simpa using c
  obtain⟨Y,Z,z,-⟩:=r i c 2 j rfl
  obtain⟨s,f,-,w2⟩:=DataW.trod_int E z
  injection f with f
  dsimp only
  rw[f]
  have B:=bounds_u64 w2
  show s.toNat<18446744073709551616
  omega
 have c:i<l:=by have:=(gE.1 k).1;simpa using this
 have X:x=⟨intV (g i 0),intV (g i 1),(intV (g i 2)).toNat⟩:=by simp[c] at k;exact k.symm
 subst X
 obtain⟨b,o,rfl,N,A⟩:=T i c
 obtain⟨a0,a2,F,-⟩:=r i c 0 p rfl
 obtain⟨a1,a3,G,-⟩:=r i c 1 q rfl
 obtain⟨Y,Z,z,-⟩:=r i c 2 j rfl
 obtain⟨a4,u,-,w0⟩:=DataW.trod_int J F
 obtain⟨a5,y,-,w1⟩:=DataW.trod_int K G
 obtain⟨s,f,-,w2⟩:=DataW.trod_int E z
 injection u with u
 injection y with y
 injection f with f
 have c0:=A 0 (by simp)
 have C:=A 1 (by simp)
 have D:=A 2 (by simp)
 rw[u] at c0 ⊢
 rw[y] at C ⊢
 rw[f] at D ⊢
 have B:=bounds_u64 w2
 refine⟨b,o,rfl,N,c0,by rw[Nat.add_assoc];exact C,?_⟩
 rw[Nat.add_assoc]
 rw[show (((intV (.int .u64 s)).toNat:Nat):Int)=s from Int.toNat_of_nonneg B.1]
 exact D

theorem open_steps7{w:World}{base:Nat}{sp:Nat->Bool}{c1:Bool}{t e r:TypeId}{s u x y p q:Field}{v:Value}{d:DataW H}{ps:List MemPlace}(c5:P.underlying t=some (.slice e))(b9:P.underlying e=some (.struct #[s,u,x,y,p,q]))(c3:oneCellFields P #[s,u,x,y,p,q]=true)(b6:P.cellsOf e=6)
  (b5:8<=P.bytesOf e) (b1:P.underlying s.type=some (.int .i64)) (b2:P.underlying u.type=some (.int .i64)) (b3:P.underlying x.type=some (.int .i64)) (b4:P.underlying y.type=some (.int .i64)) (Q:P.underlying p.type=some (.int .u64)) (R:P.underlying q.type=some (.slice r)) (U:P.underlying r=some (.int .i64)) (O:P.cellsOf r=1) (S:P.bytesOf r=8)
  (c6:∃ a k cap,v=.slice a k cap) (b0:DataW.Trod enc P w base sp c1 t v d ps) (c7:∀ n∈d.weights P t,n<=reachBytes):
  ∃ k a4 a9 c8 d1 I Z mm,FT w v k a4 a9 c8 d1 I Z mm/\k<=17592186044416/\(∀ j,j<k->0<=I j/\I j<=18446744073709551615)/\AtsAt w k Z mm:=by
 obtain⟨k,f,⟨a,cap,rfl,c4⟩,c2,g⟩:=open_rows c5 b9 c3 b6 (by simp) b5 c6 b0 c7
 refine⟨k,λ i=>intV (f i 0),λ i=>intV (f i 1),λ i=>intV (f i 2),λ i=>intV (f i 3),λ i=>intV (f i 4),λ i=>f i 5,λ i=>lenV (f i 5),⟨a,cap,rfl,λ i c=>?_⟩,c2,λ i c=>?_,λ i c=>?_⟩
 rotate_left
 .obtain ⟨c9,d3,D,-⟩:=g i c 4 p rfl
  obtain⟨d5,l,-,a0⟩:=DataW.trod_int Q D
  injection l with l
  dsimp only
  rw[l]
  exact bounds_u64 a0
 .obtain ⟨d0,d4,E,G⟩:=g i c 5 q rfl
  obtain⟨W,x5,T,V⟩:=open_ints R U O S E G
  have b7:=T
  obtain⟨X,Y,F,-⟩:=b7
  refine⟨x5,?_⟩
  dsimp only
  rw[show lenV (f i 5)=W by rw[F];rfl]
  exact T
 obtain⟨b,o,rfl,b8,m⟩:=c4 i c
 obtain⟨d6,e0,a5,-⟩:=g i c 0 s rfl
 obtain⟨d7,e1,a6,-⟩:=g i c 1 u rfl
 obtain⟨d8,e2,a7,-⟩:=g i c 2 x rfl
 obtain⟨d9,e3,a8,-⟩:=g i c 3 y rfl
 obtain⟨c9,d3,D,-⟩:=g i c 4 p rfl
 obtain⟨d0,d4,E,G⟩:=g i c 5 q rfl
 obtain⟨e4,z,-,w0⟩:=DataW.trod_int b1 a5
 obtain⟨e5,A,-,w1⟩:=DataW.trod_int b2 a6
 obtain⟨e6,B,-,w2⟩:=DataW.trod_int b3 a7
 obtain⟨e7,C,-,d2⟩:=DataW.trod_int b4 a8
 obtain⟨d5,l,-,a0⟩:=DataW.trod_int Q D
 obtain⟨W,x5,⟨X,Y,F,-⟩,V⟩:=open_ints R U O S E G
 injection z with z
 injection A with A
 injection B with B
 injection C with C
 injection l with l
 have c0:=m 0 (by simp)
 have J:=m 1 (by simp)
 have K:=m 2 (by simp)
 have L:=m 3 (by simp)
 have M:=m 4 (by simp)
 have N:=m 5 (by simp)
 dsimp only
 rw[z] at c0 ⊢
 rw[A] at J ⊢
 rw[B] at K ⊢
 rw[C] at L ⊢
 rw[l] at M ⊢
 rw[F] at N ⊢
 have a1:=bounds_i64 w1
 have a2:=bounds_i64 w2
 have a3:=bounds_i64 d2
 exact⟨b,o,rfl,b8,c0,by rw[Nat.add_assoc];exact J,by rw[Nat.add_assoc];exact K,by rw[Nat.add_assoc];exact L,by rw[Nat.add_assoc];exact M,by rw[Nat.add_assoc];exact N,⟨X,Y,rfl⟩,V,a1,a2,a3⟩

end

open Go.RowKit

def Heavy9Post(n:Int)(lt len:Nat)(m:Nat->Nat)(w:World)(e:Ending)(w':World):Prop:=
 ∃ t:Bool,e=.returned (.bool t)/\w'=w/\(t=false->(n<=600\/65536<n)/\lt<=70/\len<=60/\∀ i,i<len->m i<=300)

def Heavy9I(len:Nat)(m:Nat->Nat)(w:World)(z y:Value)(wr:World):Prop:=
 ∃ j s:Nat,j<=len/\j<=100/\z=.int .i64 s/\y=.int .i64 j/\s<=j*17592186044416/\Sl (∀ i,i<j->m i<=s)/\wr=w

set_option maxRecDepth 20000 in
theorem Heavy9_any(n:Int)(D E:Value)(xs:List TypR)(c:Nat)(d g i K y:Nat->Int)(u:Nat->Value)(m:Nat->Nat)(w:World)(I:A8 w D xs)(x:FT w E c d g i K y u m)(J:xs.length<=17592186044416)(O:c<=17592186044416):
  Calls prog 8 #[.int .i64 n,D,E] w (Heavy9Post n xs.length c m w):=by
 have F:=sE x
 obtain⟨V,X,rfl,-⟩:=x
 obtain⟨R,S,rfl,-⟩:=I
 obtain⟨f,A⟩:∃ f,xs.length=f:=⟨_,rfl⟩
 rw[A] at J ⊢
 clear A
 go_enter func8,ntmps8
 go_wp2_with fail
 go_loopw [7,8] (λ z y wr=>Heavy9I c m w z y wr) (λ _ y _=>100-(intOf y).toNat)
 case atStart=>exact ⟨0,0,Nat.zero_le _,Nat.zero_le _,rfl,rfl,Nat.zero_le _,⟨λ i a=>by omega⟩,rfl⟩
 case round=>
  obtain⟨j,s,M,N,rfl,rfl,Q,t,rfl⟩:=hrel
  by_cases hjl:j<c
  .have G:decide ((j:Int)<(c:Int))=true:=dT (by omega)
   by_cases hj1:j<100
   .have H:decide ((j:Int)<100)=true:=dT (by omega)
    obtain⟨W,Y,e,C⟩:=F.o
    injection e with e1 e3 e2
    subst e1 e2
    obtain⟨b,o,rfl,L,x0,x1,x2,x3,x4,x5,⟨T,U,B⟩,P,-⟩:=C j hjl
    rw[B] at x5
    clear C x0 x1 x2 x3 x4 B
    go_wp2
    exact⟨⟨j+1,s+m j,by omega,by omega,by go_num,by go_num,by omega,⟨λ i v=>by
     rcases Nat.lt_or_ge i j with a|a
     .have:=t.o i a;omega
     .obtain rfl:i=j:=by omega
      omega⟩,rfl⟩,by simp only[intOf];omega⟩
   .have H:decide ((j:Int)<100)=false:=dF (by omega)
    by_cases hA:600<n
    .by_cases hB:n<=65536
     .have k:decide ((600:Int)<n)=true:=dT (by omega)
      have q:decide (n<=65536)=true:=dT (by omega)
      go_wp2
      go_ret
      exact⟨true,rfl,rfl,λ a=>by cases a⟩
     .by_cases hC:70<f
      .have k:decide ((600:Int)<n)=true:=dT (by omega)
       have q:decide (n<=65536)=false:=dF (by omega)
       have l:decide ((70:Int)<(f:Int))=true:=dT (by omega)
       go_wp2
       go_ret
       exact⟨true,rfl,rfl,λ a=>by cases a⟩
      .by_cases hD:60<c
       .have k:decide ((600:Int)<n)=true:=dT (by omega)
        have q:decide (n<=65536)=false:=dF (by omega)
        have l:decide ((70:Int)<(f:Int))=false:=dF (by omega)
        have p:decide ((60:Int)<(c:Int))=true:=dT (by omega)
        go_wp2
        go_ret
        exact⟨true,rfl,rfl,λ a=>by cases a⟩
       .by_cases hE:300<s
        .have k:decide ((600:Int)<n)=true:=dT (by omega)
         have q:decide (n<=65536)=false:=dF (by omega)
         have l:decide ((70:Int)<(f:Int))=false:=dF (by omega)
         have p:decide ((60:Int)<(c:Int))=false:=dF (by omega)
         have r:decide ((300:Int)<(s:Int))=true:=dT (by omega)
         go_wp2
         go_ret
         exact⟨true,rfl,rfl,λ a=>by cases a⟩
        .have k:decide ((600:Int)<n)=true:=dT (by omega)
         have q:decide (n<=65536)=false:=dF (by omega)
         have l:decide ((70:Int)<(f:Int))=false:=dF (by omega)
         have p:decide ((60:Int)<(c:Int))=false:=dF (by omega)
         have r:decide ((300:Int)<(s:Int))=false:=dF (by omega)
         go_wp2
         go_ret
         exact⟨false,rfl,rfl,λ _=>⟨by omega,by omega,by omega,λ i v=>by have:=t.o i (by omega);omega⟩⟩
    .by_cases hC:70<f
     .have k:decide ((600:Int)<n)=false:=dF (by omega)
      have l:decide ((70:Int)<(f:Int))=true:=dT (by omega)
      go_wp2
      go_ret
      exact⟨true,rfl,rfl,λ a=>by cases a⟩
     .by_cases hD:60<c
      .have k:decide ((600:Int)<n)=false:=dF (by omega)
       have l:decide ((70:Int)<(f:Int))=false:=dF (by omega)
       have p:decide ((60:Int)<(c:Int))=true:=dT (by omega)
       go_wp2
       go_ret
       exact⟨true,rfl,rfl,λ a=>by cases a⟩
      .by_cases hE:300<s
       .have k:decide ((600:Int)<n)=false:=dF (by omega)
        have l:decide ((70:Int)<(f:Int))=false:=dF (by omega)
        have p:decide ((60:Int)<(c:Int))=false:=dF (by omega)
        have r:decide ((300:Int)<(s:Int))=true:=dT (by omega)
        go_wp2
        go_ret
        exact⟨true,rfl,rfl,λ a=>by cases a⟩
       .have k:decide ((600:Int)<n)=false:=dF (by omega)
        have l:decide ((70:Int)<(f:Int))=false:=dF (by omega)
        have p:decide ((60:Int)<(c:Int))=false:=dF (by omega)
        have r:decide ((300:Int)<(s:Int))=false:=dF (by omega)
        go_wp2
        go_ret
        exact⟨false,rfl,rfl,λ _=>⟨by omega,by omega,by omega,λ i v=>by have:=t.o i (by omega);omega⟩⟩
  .have G:decide ((j:Int)<(c:Int))=false:=dF (by omega)
   by_cases hA:600<n
   .by_cases hB:n<=65536
    .have k:decide ((600:Int)<n)=true:=dT (by omega)
     have q:decide (n<=65536)=true:=dT (by omega)
     go_wp2
     go_ret
     exact⟨true,rfl,rfl,λ a=>by cases a⟩
    .by_cases hC:70<f
     .have k:decide ((600:Int)<n)=true:=dT (by omega)
      have q:decide (n<=65536)=false:=dF (by omega)
      have l:decide ((70:Int)<(f:Int))=true:=dT (by omega)
      go_wp2
      go_ret
      exact⟨true,rfl,rfl,λ a=>by cases a⟩
     .by_cases hD:60<c
      .have k:decide ((600:Int)<n)=true:=dT (by omega)
       have q:decide (n<=65536)=false:=dF (by omega)
       have l:decide ((70:Int)<(f:Int))=false:=dF (by omega)
       have p:decide ((60:Int)<(c:Int))=true:=dT (by omega)
       go_wp2
       go_ret
       exact⟨true,rfl,rfl,λ a=>by cases a⟩
      .by_cases hE:300<s
       .have k:decide ((600:Int)<n)=true:=dT (by omega)
        have q:decide (n<=65536)=false:=dF (by omega)
        have l:decide ((70:Int)<(f:Int))=false:=dF (by omega)
        have p:decide ((60:Int)<(c:Int))=false:=dF (by omega)
        have r:decide ((300:Int)<(s:Int))=true:=dT (by omega)
        go_wp2
        go_ret
        exact⟨true,rfl,rfl,λ a=>by cases a⟩
       .have k:decide ((600:Int)<n)=true:=dT (by omega)
        have q:decide (n<=65536)=false:=dF (by omega)
        have l:decide ((70:Int)<(f:Int))=false:=dF (by omega)
        have p:decide ((60:Int)<(c:Int))=false:=dF (by omega)
        have r:decide ((300:Int)<(s:Int))=false:=dF (by omega)
        go_wp2
        go_ret
        exact⟨false,rfl,rfl,λ _=>⟨by omega,by omega,by omega,λ i v=>by have:=t.o i (by omega);omega⟩⟩
   .by_cases hC:70<f
    .have k:decide ((600:Int)<n)=false:=dF (by omega)
     have l:decide ((70:Int)<(f:Int))=true:=dT (by omega)
     go_wp2
     go_ret
     exact⟨true,rfl,rfl,λ a=>by cases a⟩
    .by_cases hD:60<c
     .have k:decide ((600:Int)<n)=false:=dF (by omega)
      have l:decide ((70:Int)<(f:Int))=false:=dF (by omega)
      have p:decide ((60:Int)<(c:Int))=true:=dT (by omega)
      go_wp2
      go_ret
      exact⟨true,rfl,rfl,λ a=>by cases a⟩
     .by_cases hE:300<s
      .have k:decide ((600:Int)<n)=false:=dF (by omega)
       have l:decide ((70:Int)<(f:Int))=false:=dF (by omega)
       have p:decide ((60:Int)<(c:Int))=false:=dF (by omega)
       have r:decide ((300:Int)<(s:Int))=true:=dT (by omega)
       go_wp2
       go_ret
       exact⟨true,rfl,rfl,λ a=>by cases a⟩
      .have k:decide ((600:Int)<n)=false:=dF (by omega)
       have l:decide ((70:Int)<(f:Int))=false:=dF (by omega)
       have p:decide ((60:Int)<(c:Int))=false:=dF (by omega)
       have r:decide ((300:Int)<(s:Int))=false:=dF (by omega)
       go_wp2
       go_ret
       exact⟨false,rfl,rfl,λ _=>⟨by omega,by omega,by omega,λ i v=>by have:=t.o i (by omega);omega⟩⟩

end

end Go.Proofs.YtfkedlgpgmaemaaGreatDoor
