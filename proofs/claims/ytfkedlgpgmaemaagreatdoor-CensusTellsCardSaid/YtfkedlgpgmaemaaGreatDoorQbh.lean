/-
  Lemmas for the laws, together: CenP, CenM, CenO.
-/
import Derived.Test.YtfkedlgpgmaemaaGreatDoorQbf
set_option linter.unusedVariables false
set_option maxHeartbeats 16000000
namespace Go.Proofs.YtfkedlgpgmaemaaGreatDoor
open Tryz
section
open Go.RowKit

def woE(es:List (Nat×Nat×Nat))(g:Nat):List (Nat×Nat×Nat):=es.filter λ e=>e.1 !=g&&e.2.2 !=g

def woR(rs:List Nat)(g:Nat):List Nat:=rs.filter λ r=>r !=g

theorem FI{es:List (Nat×Nat×Nat)}{g:Nat}{e:Nat×Nat×Nat}:e∈woE es g ↔ e∈es/\¬ e.1=g/\¬ e.2.2=g:=by
 unfold woE
 rw[List.mem_filter,Bool.and_eq_true,bne_iff_ne,bne_iff_ne]

theorem FJ{rs:List Nat}{g r:Nat}:r∈woR rs g ↔ r∈rs/\¬ r=g:=by
 unfold woR
 rw[List.mem_filter,bne_iff_ne]

def BJ(es:List (Nat×Nat×Nat))(rs:List Nat)(g x:Nat):Prop:=AA (woE es g) (woR rs g) x

section

variable {es:List (Nat×Nat×Nat)} {rs:List Nat}

theorem AA.root'{x:Nat}(h:x∈rs):AA es rs x:=⟨0,.root h⟩

theorem AA.step'{e:Nat×Nat×Nat}(a:AA es rs e.1)(b:e∈es):AA es rs e.2.2:=by
 obtain⟨n,c⟩:=a
 exact⟨n+1,.step c b⟩

theorem AA.rec'{p:Nat->Prop}(b:∀ x∈rs,p x)(c:∀ e∈es,AA es rs e.1->p e.1->p e.2.2){x:Nat}(a:AA es rs x):p x:=by
 obtain⟨n,d⟩:=a
 induction d with
 |root a=>exact b _ a
 |@step n e hs he ih=>exact c e he ⟨n,hs⟩ ih

theorem BJ.root{g x:Nat}(a:x∈rs)(b:¬ x=g):BJ es rs g x:=AA.root' (FJ.2 ⟨a,b⟩)

theorem BJ.ne{g x:Nat}(a:BJ es rs g x):¬ x=g:=AA.rec' (p:=λ x=>¬ x=g) (λ x c=>(FJ.1 c).2) (λ e b _ _=>(FI.1 b).2.2) a

theorem BJ.step{g:Nat}{e:Nat×Nat×Nat}(a:BJ es rs g e.1)(b:e∈es)(c:¬ e.2.2=g):BJ es rs g e.2.2:=AA.step' a (FI.2 ⟨b,a.ne,c⟩)

end

structure Visit(es:List (Nat×Nat×Nat))(g:Nat)(at_:Nat->Prop)(f f':Nat->Bool):Prop where
 up:∀ x,f x=true->f' x=true
 new:∀ x,f' x=true->f x=true\/∃ r,at_ r/\BJ es [r] g x
 cl:∀ e∈es,f' e.1=true->f e.1=true\/e.2.2=g\/f' e.2.2=true

theorem Visit.refl(es:List (Nat×Nat×Nat))(g:Nat)(at_:Nat->Prop)(f:Nat->Bool):Visit es g at_ f f:=⟨λ x a=>a,λ x a=>.inl a,λ e b a=>.inl a⟩

theorem Visit.trans{es:List (Nat×Nat×Nat)}{g:Nat}{a b:Nat->Prop}{f i j:Nat->Bool}(d:Visit es g a f i)(k:Visit es g b i j)(m:∀ x,a x->b x):Visit es g b f j:=by
 refine⟨λ x c=>k.up x (d.up x c),λ x c=>?_,λ e l c=>?_⟩
 .rcases k.new x c with q|q
  .rcases d.new x q with q|⟨r,n,q⟩
   .exact .inl q
   .exact .inr ⟨r,m r n,q⟩
  .exact .inr q
 .rcases k.cl e l c with q|q|q
  .rcases d.cl e l q with q|q|q
   .exact .inl q
   .exact .inr (.inl q)
   .exact .inr (.inr (k.up _ q))
  .exact .inr (.inl q)
  .exact .inr (.inr q)

theorem BJ.mono{es:List (Nat×Nat×Nat)}{rs a:List Nat}{g x:Nat}(d:BJ es rs g x)(f:∀ r∈rs,¬ r=g->BJ es a g r):BJ es a g x:=
 AA.rec' (es:=woE es g) (rs:=woR rs g) (p:=λ x=>BJ es a g x) (λ x c=>f x (FJ.1 c).1 (FJ.1 c).2) (λ e b _ i=>i.step (FI.1 b).1 (FI.1 b).2.2) d

theorem Visit.node{es:List (Nat×Nat×Nat)}{g at_:Nat}{f c:Nat->Bool}(n:¬ at_=g)(k:Visit es g (λ y=>∃ e∈es,e.1=at_/\e.2.2=y) (updB f at_) c)(m:∀ e∈es,e.1=at_->e.2.2=g\/c e.2.2=true):Visit es g (λ y=>y=at_) f c:=by
 have d:BJ es [at_] g at_:=BJ.root (by simp) n
 refine⟨λ x a=>k.up x (updB_true.2 (.inr a)),λ x a=>?_,λ e b a=>?_⟩
 .rcases k.new x a with q|⟨r,⟨e,b,j,l⟩,q⟩
  .rcases updB_true.1 q with rfl|q
   .exact .inr ⟨x,rfl,d⟩
   .exact .inl q
  .refine .inr ⟨at_,rfl,q.mono λ p o i=>?_⟩
   obtain rfl:=List.mem_singleton.1 o
   rw[<- l] at i ⊢
   exact BJ.step (e:=e) (by rw[j];exact d) b i
 .rcases k.cl e b a with q|q|q
  .rcases updB_true.1 q with q|q
   .exact .inr (m e b q)
   .exact .inl q
  .exact .inr (.inl q)
  .exact .inr (.inr q)

theorem Visit.all{es:List (Nat×Nat×Nat)}{rs:List Nat}{g:Nat}{f:Nat->Bool}(c:Visit es g (λ y=>y∈rs) (λ _=>false) f)(a:∀ r∈rs,r=g\/f r=true)(x:Nat):f x=true ↔ BJ es rs g x:=by
 constructor
 .intro b
  rcases c.new x b with q|⟨r,a,q⟩
  .cases q
  .exact q.mono λ m j i=>by
    obtain rfl:=List.mem_singleton.1 j
    exact BJ.root a i
 .intro k
  exact AA.rec' (es:=woE es g) (rs:=woR rs g) (p:=λ x=>f x=true) (λ x b=>by
   have:=FJ.1 b
   exact(a x this.1).resolve_left this.2) (λ e d _ l=>by
   have:=FI.1 d
   rcases c.cl e this.1 l with q|q|q
   .cases q
   .exact absurd q this.2.2
   .exact q) k

end

section
open Go.RowKit

structure Grq(w:World)(c0:Nat)(mo:Nat)(vs:Nat->Value)(ls:Nat->List Nat)(n:Nat):Prop where
 mp:∃ c,BS w mo n c/\∀ k,(c k).getD (.slice none 0 0)=vs k
 row:∀ k,w.ownsRow c0 3 1 (vs k) (ls k).length (Az (ls k))
 ap:∀ k k' b,(vs k).ownBlock=some b->(vs k').ownBlock=some b->k=k'
 lt:mo<c0

def updN{β:Type}(f:Nat->β)(k:Nat)(x:β):Nat->β:=λ k'=>if k'=k then x else f k'

theorem Grq.keep{w w':World}{c0 n d:Nat}{vs:Nat->Value}{ls:Nat->List Nat}(a:Grq w c0 d vs ls n){S:Nat->Prop}(k:Kp S w w')(e:¬ S d)(f:∀ b,c0<=b->b<w.heap.size->¬ S b):Grq w' c0 d vs ls n:=by
 obtain⟨c,l,m⟩:=a.mp
 exact⟨⟨c,l.keep k e,m⟩,λ j=>Af (a.row j) k (λ b g i=>by have:=Ad (a.row j) g;exact f b this.1 this.2 i),a.ap,a.lt⟩

theorem Grq.look{w:World}{c0 n a:Nat}{vs:Nat->Value}{ls:Nat->List Nat}(b:Grq w c0 a vs ls n){k:Nat}(d:k<9223372036854775808){t e:TypeId}(f:prog.underlying t=some (.map 3 e))(g:(zeroValue e).run prog w=.ok (.slice none 0 0) w):
  (Instr.lookup t (.map (some a)) (.int .i64 k) false).run prog w=.ok (vs k) w:=by
 obtain⟨c,i,j⟩:=b.mp
 rw[i.look d f g,j]

theorem Grq.put{w:World}{c0 n g:Nat}{vs:Nat->Value}{ls:Nat->List Nat}(d:Grq w c0 g vs ls n)(F:n<maxLen){k:Nat}(D:k<9223372036854775808){t e:TypeId}(H:prog.underlying t=some (.map 3 e)){w0 w1:World}{f:Value}{x:Nat}
  (z:Kp Aa w w0) (y:w1.ownsRow c0 3 1 f ((ls k).length+1) (Az (ls k++[x]))) (C:w0.grownBy w1 (vs k).ownBlock) (m:f.ownBlock=(vs k).ownBlock\/f.ownBlock=some w0.heap.size):
  ∃ w2,(Instr.mapUpdate t (.map (some g)) (.int .i64 k) f).run prog w1=.ok () w2/\Grq w2 c0 g (updN vs k f) (updN ls k (ls k++[x])) (n+1)/\Kp (λ b=>b=g) w1 w2/\Kp (λ b=>b=g\/(vs k).ownBlock=some b) w w2:=by
 have Q:=z.size
 have v:Kp (λ b=>(vs k).ownBlock=some b) w w1:=(z.Aw _).grown C (λ b e _=>e)
 have E:¬ (vs k).ownBlock=some g:=λ e=>by
  have:=Ad (d.row k) e
  have:=d.lt
  omega
 obtain⟨c,r,i⟩:=d.mp
 obtain⟨w2,N,O,s,R⟩:=(r.keep v E).put F D f H
 have I:=λ b (j:f.ownBlock=some b)=>Ad y j
 have P:=d.lt
 have u:Kp (λ b=>b=g\/(vs k).ownBlock=some b) w w2:=(v.mono λ b _ e=>.inr e).trans s (λ b _ e=>.inl e)
 refine⟨w2,N,⟨⟨_,O,λ a=>?_⟩,λ a=>?_,λ J K b B l=>?_,d.lt⟩,s,u⟩
 .unfold updN
  by_cases l:a=k
  .simp [l]
  .rw [if_neg l,if_neg l,i]
 .unfold updN
  by_cases e:a=k
  .subst e
   rw[if_pos rfl,if_pos rfl,List.length_append]
   exact Af y s (λ b j e=>by have:=(I b j).1;omega)
  .rw [if_neg e,if_neg e]
   exact Af (d.row a) u (λ b j q=>by
    have:=Ad (d.row a) j
    rcases q with q|q
    .omega
    .exact e (d.ap _ _ _ j q))
 .have A:∀ a b,(updN vs k f a).ownBlock=some b->(a=k/\f.ownBlock=some b)\/(¬ a=k/\(vs a).ownBlock=some b):=λ a b q=>by
   unfold updN at q
   by_cases e:a=k
   .rw [if_pos e] at q
    exact .inl ⟨e,q⟩
   .rw [if_neg e] at q
    exact .inr ⟨e,q⟩
  have clash:∀ a,¬ a=k->(vs a).ownBlock=some b->f.ownBlock=some b->False:=λ a G r i=>by
   rcases m with m|m
   .rw [m] at i
    exact G (d.ap _ _ _ r i)
   .rw [m] at i
    injection i with i
    have:=Ad (d.row a) r
    omega
  rcases A J b B with ⟨rfl,o⟩|⟨L,o⟩ <;> rcases A K b l with ⟨q,p⟩|⟨M,p⟩
  .exact q.symm
  .exact (clash _ M p o).elim
  .subst q
   exact(clash _ L o p).elim
  .exact d.ap _ _ _ o p

def cellW(c:Cel):Value:=.agg #[c.g,.int .u8 c.tag,c.ty,c.ln,c.sz]

def CellF(L:List Cel)(F:Nat->Option Value):Prop:=(∀ c∈L,F c.g=some (cellW c))/\∀ g,(∀ c∈L,¬ c.g=g)->F g=none

theorem CellF.nil:CellF [] (λ _=>none):=⟨λ c h=>by simp at h,λ g _=>rfl⟩

theorem CellF.step{L:List Cel}{F:Nat->Option Value}(b:CellF L F){c:Cel}(i:∀ d∈L,d.g=c.g->d=c):CellF (L++[c]) (λ g=>if g=c.g then some (cellW c) else F g):=by
 refine⟨λ d a=>?_,λ g f=>?_⟩
 .dsimp only
  rcases List.mem_append.1 a with a|a
  .by_cases e:d.g=c.g
   .rw [if_pos e,i d a e]
   .rw [if_neg e]
    exact b.1 d a
  .rw [List.mem_singleton.1 a,if_pos rfl]
 .dsimp only
  rw[if_neg (λ e=>f c (by simp) e.symm)]
  exact b.2 g λ d a=>f d (by simp[a])

def Fy(es:List (Nat×Nat×Nat))(x:Nat):List Nat:=(outE es x).map λ e=>e.2.2

theorem outN_add(es:List (Nat×Nat×Nat))(x:Nat×Nat×Nat):updN (Fy es) x.1 (Fy es x.1++[x.2.2])=Fy (es++[x]):=by
 funext k
 unfold updN Fy outE
 by_cases e:k=x.1
 .subst e
  rw[if_pos rfl]
  simp
 .rw [if_neg e]
  have:¬ x.1=k:=λ h=>e h.symm
  simp[this]

def FO(w:World)(b s:Nat)(v:Value)(os:List Cel)(es:List (Nat×Nat×Nat))(mp mq H:Nat)(fm:Nat->Bool):Prop:=
 ∃ mc mo n co F,w.heap[b]?=some (.cells #[.pointer (some s),v,.map (some mc),.map (some mo),.pointer (some mp)] 122 (0,0))/\
  BS w mc n F/\CellF os F/\(BS w mo n co/\∀ k,AO w ((co k).getD (.slice none 0 0)) (Fy es k))/\AL w mp mq fm H

theorem FO.Ac{w w':World}{b s:Nat}{v:Value}{os:List Cel}{es:List (Nat×Nat×Nat)}{mp mq H:Nat}{fm:Nat->Bool}(c:FO w b s v os es mp mq H fm)(k:Kp Aa w w'):FO w' b s v os es mp mq H fm:=by
 obtain⟨m,o,n,a,F,d,e,f,⟨g,i⟩,l⟩:=c
 exact⟨m,o,n,a,F,k.at_ d id,e.keep k id,f,⟨g.keep k id,λ j=>(i j).Ac k⟩,l.keep k id id⟩

theorem BV:prog.underlying 118=some (.map 3 113):=by kernel_rfl

theorem Ei:prog.underlying 119=some (.map 3 24):=by kernel_rfl

theorem zeroInts(w:World):(zeroValue 24).run prog w=.ok (.slice none 0 0) w:=by kernel_rfl

theorem zeroCell(w:World):(zeroValue 113).run prog w=.ok (.agg #[(0:Int),.int .u8 0,(0:Int),(0:Int),(0:Int)]) w:=by kernel_rfl

end

section
open Go.RowKit

theorem BS.blk{w:World}{b n:Nat}{c:Nat->Option Value}(a:BS w b n c):∃ es k,w.heap[b]?=some (.map es k):=by
 obtain⟨e,⟨es,clock,d,-⟩,-⟩:=a
 exact⟨_,_,d⟩

theorem BS.noCell{w:World}{b n o:Nat}{c:Nat->Option Value}{v:Value}{a:Nat}(d:BS w b n c)(f:w.cell? ⟨a,o,none⟩=some v):¬ a=b:=by
 rintro rfl
 obtain⟨es,k,e⟩:=d.blk
 simp[World.cell?,e] at f

theorem Du.keepM{w w':World}{v:Value}{cs:List Cel}{b n:Nat}{c:Nat->Option Value}(e:Du w v cs)(d:BS w b n c)(k:Kp (λ i=>i=b) w w'):Du w' v cs:=by
 obtain⟨a,cap,rfl,e⟩:=e
 refine⟨a,cap,rfl,λ i x q=>?_⟩
 obtain⟨o,rfl,p,f,g,j,l,m⟩:=e i x q
 exact⟨o,rfl,Nat.lt_of_lt_of_le p k.size,k.cell f (d.noCell f),k.cell g (d.noCell g),k.cell j (d.noCell j),k.cell l (d.noCell l),k.cell m (d.noCell m)⟩

theorem Dk{w:World}{b a c s mp:Nat}{v:Value}(d:w.heap[b]?=some (.cells #[.pointer (some s),v,.map (some a),.map (some c),.pointer (some mp)] 122 (0,0))):
  w.cell? b=some (.pointer (some s))/\w.cell? ⟨b,1,none⟩=some v/\w.cell? ⟨b,2,none⟩=some (.map (some a))/\w.cell? ⟨b,3,none⟩=some (.map (some c))/\w.cell? ⟨b,4,none⟩=some (.pointer (some mp)):=by
 refine⟨?_,?_,?_,?_,?_⟩ <;> simp[World.cell?,d]

theorem poll_new(w1:World)(s mp:Nat)(v:Value):∃ a,a=(((w1.alloc (.map #[] 0)).alloc (.map #[] 0)).alloc (.cells #[.pointer (some s),v,.map (some w1.heap.size),.map (some (w1.heap.size+1)),.pointer (some mp)] 122))/\
  (BS a w1.heap.size 0 (λ _=>none)/\BS a (w1.heap.size+1) 0 (λ _=>none))/\
  a.heap[w1.heap.size+1+1]?=some (.cells #[.pointer (some s),v,.map (some w1.heap.size),.map (some (w1.heap.size+1)),.pointer (some mp)] 122 (0,0))/\a.heap.size=w1.heap.size+3/\Kp Aa w1 a:=by
 refine⟨_,rfl,⟨?_,?_⟩,?_,by simp,((Kr _ w1).alloc _).alloc _ |>.alloc _⟩
 .exact (BS.made w1).keep (S:=Aa) (((Kr _ _).alloc _).alloc _) id
 .have:=(BS.made (w1.alloc (.map #[] 0))).keep (S:=Aa) ((Kr _ _).alloc (.cells #[.pointer (some s),v,.map (some w1.heap.size),.map (some (w1.heap.size+1)),.pointer (some mp)] 122)) id
  rwa [show (w1.alloc (.map #[] 0)).heap.size=w1.heap.size+1 by simp] at this
 .have:=wN ((w1.alloc (.map #[] 0)).alloc (.map #[] 0)) (.cells #[.pointer (some s),v,.map (some w1.heap.size),.map (some (w1.heap.size+1)),.pointer (some mp)] 122)
  rwa [show ((w1.alloc (.map #[] 0)).alloc (.map #[] 0)).heap.size=w1.heap.size+1+1 by simp] at this

theorem Grq.nil{w:World}{c0 c:Nat}(a:BS w c 0 (λ _=>none))(d:c<c0):Grq w c0 c (λ _=>.slice none 0 0) (Fy []) 0:=
 ⟨⟨_,a,λ k=>rfl⟩,λ k=>World.ownsRow_nil _ _ _ _,λ k e b a=>(by cases a),d⟩

def ObLoop(w5:World)(mc:Nat)(os:List Cel)(x:Value)(j:Nat)(wr:World):Prop:=
 x=.int .i64 j/\j<=os.length/\(∃ F,BS wr mc j F/\CellF (os.take j) F)/\Kp (λ b=>b=mc) w5 wr

def OuLoop(w5:World)(mo c0:Nat)(es:List (Nat×Nat×Nat))(x:Value)(j:Nat)(wr:World):Prop:=
 x=.int .i64 j/\j<=es.length/\(∃ vs n,n<=j/\Grq wr c0 mo vs (Fy (es.take j)) n)/\Kp (λ b=>b=mo\/c0<=b) w5 wr

def COfPost(s:Nat)(os:List Cel)(es:List (Nat×Nat×Nat))(H:Nat)(v:Value)(xs:List Nat)(w:World)(e:Ending)(w':World):Prop:=
 ∃ b mp mq fm,e=.returned (.tuple #[.pointer (some ⟨b,0,none⟩),(0:Int)])/\FO w' b s v os es mp mq H fm/\(∀ g,fm g=true ↔ AA es xs g)/\Kp Aa w w'

set_option maxRecDepth 20000 in
theorem COf_at(P:Sp)(W:Nat->Nat)(f:Nat->Bool)(w:World)(cs:List Cel)(a8:SpaceAt w P W f)(y:CellsAt P W cs)(n0:cs≠[])(a9:∀ i,i<P.n/2->f i=Ak cs i)(g2:∀ x∈P.ts,x.m<18446744073709551616)(v:Value)(xs:List Nat)(D:AO w v xs)(i6:∀ g∈xs,CL cs g)(i5:xs.length<=65536):
  Calls prog 52 #[.pointer (some P.s),v] w (COfPost P.s (Aj cs) (AP P.ts W cs) (P.n/2) v xs w):=by
 obtain⟨o6,o7,rfl,-⟩:=id D
 obtain⟨H,l8⟩:∃ H,P.n/2=H:=⟨_,rfl⟩
 have v7:H<=65536:=by have:=a8.bt.FQ;omega
 have b3:=sE (MarkOf_at P W f 4096 w cs a8 y a9 g2 (by omega) (by omega) _ xs D i6 i5)
 have k0:Sl (∀ A,Kp Aa w A->_):=⟨λ A c8=>Edges_at P W f cs A (a8.Ac c8) y g2⟩
 have k9:Sl (∀ A,Kp Aa w A->_):=⟨λ A c8=>Objects_at P cs A ⟨W,f,a8.Ac c8,y,a9⟩ n0⟩
 have d4:Sl (∀ g,MReach (DU f (P.n/2) P.ts W cs) (λ g=>g∈xs) g ↔ AA (AP P.ts W cs) xs g):=⟨λ g=>reach_marks y a9 i6 g⟩
 have d1:Sl ((AP P.ts W cs).length<=2147483648/\∀ x∈AP P.ts W cs,x.1<P.n/2/\x.2.2<P.n/2):=⟨Nat.le_trans (Dv cs _) (y.to.F8 a8.ar.small),λ x D=>⟨CV y (Ep y a9 D).1,CV y (Ep y a9 D).2.1⟩⟩
 have b4:Sl ((Aj cs).length<=65536/\(∀ c∈Aj cs,c.g<P.n/2)/\∀ c∈Aj cs,∀ d∈Aj cs,d.g=c.g->d=c):=⟨by
  refine⟨?_,λ c d8=>CV y ⟨c,(AX.1 d8).1,(AX.1 d8).2,rfl⟩,λ c d8 d f9 e=>?_⟩
  .have c1:(Aj cs).length<=cs.length:=List.length_filter_le _ _
   have v5:=BG y.tl
   omega
  .exact y.tl.only (AX.1 f9).1 (AX.1 d8).1 e⟩
 obtain⟨KF,l9⟩:∃ KF,DU f (P.n/2) P.ts W cs=KF:=⟨_,rfl⟩
 obtain⟨es,m5⟩:∃ es,AP P.ts W cs=es:=⟨_,rfl⟩
 obtain⟨os,n3⟩:∃ os,Aj cs=os:=⟨_,rfl⟩
 rw[l9] at b3 d4
 rw[m5] at k0 d1 d4 ⊢
 rw[n3] at k9 b4 ⊢
 rw[l8] at b3 d1 b4 ⊢
 obtain⟨L,m0⟩:∃ L,xs.length=L:=⟨_,rfl⟩
 rw[m0] at b3 ⊢
 clear a8 y a9 g2 D i6 i5 n0 l8 l9 m5 n3 m0
 go_enter func52,ntmps52
 go_wp2_with fail
 refine b3.o.mono ?_
 rintro e w1 ⟨mp,mq,fm,t3,q8,q6,rfl,m1,-,-,-,n5,-,-,-,o1⟩
 have j5:=sE m1
 have k5:=sE o1
 have p5:Sl (∀ g,fm g=true ↔ AA es xs g):=⟨λ g=>(n5 g).trans (d4.o g)⟩
 clear m1 o1 n5 d4 b3
 obtain⟨w2,e2⟩:∃ w2,w2=w1.alloc (.cells #[t3,q8,q6] 144):=⟨_,rfl⟩
 have b0:w2.heap.size=w1.heap.size+1:=by rw[e2];simp
 have i9:Kp Aa w1 w2:=by rw[e2];exact (Kr _ w1).alloc _
 have c9:Sl (AL w2 mp mq fm H):=⟨j5.o.keep i9 (λ l=>l) (λ l=>l)⟩
 have e6:Sl (Kp Aa w w2):=⟨k5.o.then' i9⟩
 have s2:=@run_makeMap prog
 go_wp2_with fail
 try rw[<- e2]
 clear e2 i9 j5 k5
 obtain⟨j2,i2,⟨e0,c7⟩,a7,i8,j0⟩:=poll_new w2 P.s mp (.slice o6 L o7)
 rw[b0] at i2 e0 c7 a7 i8
 rw[<- i2]
 clear i2 s2
 obtain⟨p,m8⟩:∃ m,w1.heap.size+1=m:=⟨_,rfl⟩
 have i1:=e6.o.size
 have g4:=c9.o.lt_p'
 have g6:=c9.o.lt_q'
 rw[b0] at i1 g4 g6
 rw[m8] at e0 c7 a7 i8 g4 g6 i1 ⊢
 obtain⟨q,m9⟩:∃ m,p+1=m:=⟨_,rfl⟩
 rw[m9] at c7 a7 ⊢
 obtain⟨E,n4⟩:∃ m,q+1=m:=⟨_,rfl⟩
 rw[n4] at a7 ⊢
 have f1:Sl (Kp Aa w j2):=⟨e6.o.then' j0⟩
 have j6:Sl (AL j2 mp mq fm H):=⟨c9.o.keep j0 (λ l=>l) (λ l=>l)⟩
 refine(k9.o j2 f1.o).mono ?_
 rintro e U ⟨o5,t7,rfl,g7,a2⟩
 obtain⟨T,f6⟩:∃ n,os.length=n:=⟨_,rfl⟩
 rw[f6] at g7 ⊢
 have r7:T<=65536:=by have:=b4.o.1;omega
 have d3:Sl (os.length=T):=⟨f6⟩
 have s8:=a2.size
 have l0:Sl (Du U (.slice o5 T t7) os):=⟨g7⟩
 have k2:Sl (U.heap[E]?=some (.cells #[.pointer (some P.s),.slice o6 L o7,.map (some p),.map (some q),.pointer (some mp)] 122 (0,0))):=⟨a2.at_ a7 (λ l=>l)⟩
 have e8:Sl (BS U p 0 (λ _=>none)):=⟨e0.keep a2 (λ l=>l)⟩
 have k7:Sl (BS U q 0 (λ _=>none)):=⟨c7.keep a2 (λ l=>l)⟩
 have j7:Sl (AL U mp mq fm H):=⟨j6.o.keep a2 (λ l=>l) (λ l=>l)⟩
 have k6:Sl (Kp Aa w U):=⟨f1.o.then' a2⟩
 have f0:Sl (w.heap.size<=p/\mp<p/\mq<p/\q=p+1/\E=p+2/\p+3<=U.heap.size):=⟨by omega⟩
 clear b0 g7 f6 a7 e0 c7 a2 j0 s8 i8 g4 g6 i1 m8 m9 n4 j6 f1 c9 e6
 go_wp2_with fail
 go_loopw [34] (λ x34 wr=>∃ j,ObLoop U p os x34 j wr) (λ x34 wr=>T-(intOf x34).toNat)
 case atStart=>exact ⟨0,rfl,Nat.zero_le _,⟨_,e8.o,CellF.nil⟩,Kr _ _⟩
 case round=>
  obtain⟨j,rfl,m7,⟨F,d6,c2⟩,t⟩:=hrel
  rw[d3.o] at m7
  have d2:=sE t
  have i0:=l0.o.keepM e8.o t
  have C:=t.at_ k2.o (λ l=>by have:=f0.o;have Z:E=p:=l;omega)
  obtain⟨b5,b6,b7,b8,b9⟩:=Dk C
  by_cases hjl:j<T
  .have s1:(j:Int)<(T:Int):=by omega
   obtain⟨c,y⟩:∃ c,os[j]?=some c:=⟨os[j]'(by rw[d3.o];exact hjl),by simp⟩
   have f8:=List.mem_of_getElem? y
   have p1:Sl (c∈os):=⟨f8⟩
   have v9:=b4.o.2.1 c f8
   have e9:Sl (os.take (j+1)=os.take j++[c]):=⟨by rw[List.take_add_one,y];rfl⟩
   obtain⟨y1,y2,n1,c5⟩:=id i0
   obtain⟨t6,n2,w6,x0,x1,x2,x3,x4⟩:=c5 j c y
   have s3:o5=some ⟨t6,0,none⟩:=by injection n1 with c1;rw [c1];exact n2
   subst s3
   clear c5 n1 n2 t y f8
   go_wp2_with fail
   obtain⟨r,N⟩:∃ r,r=wr.alloc (.cells #[c.g,.int .u8 c.tag,c.ty,c.ln,c.sz] 113):=⟨_,rfl⟩
   have O:Kp Aa wr r:=by rw[N];exact (Kr _ wr).alloc _
   have Y:r.heap[wr.heap.size]?=some (.cells #[c.g,.int .u8 c.tag,c.ty,c.ln,c.sz] 113 (0,0)):=by rw[N];exact wN wr _
   rw[<- N]
   obtain⟨a5,i4⟩:∃ b,wr.heap.size=b:=⟨_,rfl⟩
   rw[i4] at Y ⊢
   have c6:=O.at_ C (λ l=>l)
   obtain⟨r3,r4,r5,J,r6⟩:=Dk c6
   obtain⟨G,q9,I,r0,r1⟩:=DT Y
   have p3:Sl (BS r p j F):=⟨d6.keep O (λ l=>l)⟩
   have q1:=sE O
   clear N Y x0 x1 x2 x3 x4 b5 b6 b7 b8 b9 C c6 i0 d6 O
   refine Br 7 (by kernel_rfl) (by kernel_rfl) ?_
   simp only[List.take_succ_cons,List.take_zero,List.drop_succ_cons,List.drop_zero]
   repeat (go_big_quiet_step (fail))
   refine wpQuiet_nil ?_
   intro _ hw'
   obtain⟨nq,s7⟩:=hw'
   subst s7
   have Q:Kp Aa r (r.drewN nq):=Kp.Ah nq
   obtain⟨v0,g5,l6,o3,zp⟩:=(p3.o.keep Q (λ l=>l)).put (by unfold maxLen;omega) (g:=c.g) (by omega) (.agg #[c.g,.int .u8 c.tag,c.ty,c.ln,c.sz]) BV
   have p6:=sE l6
   have q3:Sl (Kp (λ b=>b=p) wr v0):=⟨((q1.o.trans Q (λ _ _ l=>l)).Aw _).trans o3 (λ _ _ l=>l)⟩
   have e5:Sl (CellF (os.take (j+1)) _):=⟨by rw[e9.o];exact c2.step λ d f9 e=>b4.o.2.2 c p1.o d (List.mem_of_mem_take f9) e⟩
   clear l6 o3 zp Q c2 r3 r4 r5 J r6 G q9 I r0 r1
   go_wp2
   exact⟨⟨j+1,by go_num,by rw[d3.o];omega,⟨_,p6.o,e5.o⟩,d2.o.trans q3.o (λ b _ l=>l)⟩,by simp only[intOf];omega⟩
  .have s1:¬ (j:Int)<(T:Int):=by omega
   obtain rfl:j=T:=by omega
   have e5:Sl (CellF os F):=⟨by
    rw[List.take_of_length_le (by rw[d3.o];omega)] at c2
    exact c2⟩
   have i7:=f0.o
   have k1:Sl (BS wr p j F):=⟨d6⟩
   have k8:Sl (BS wr q 0 (λ _=>none)):=⟨k7.o.keep t (λ l=>by have Z:q=p:=l;omega)⟩
   have j8:Sl (AL wr mp mq fm H):=⟨j7.o.keep t (λ l=>by have Z:mp=p:=l;omega) (λ l=>by have Z:mq=p:=l;omega)⟩
   have k3:=sE C
   have e7:Sl (Kp Aa w wr):=⟨k6.o.trans t (λ b a0 l=>by have Z:b=p:=l;omega)⟩
   have l1:Sl (w.heap.size<=p/\mp<p/\mq<p/\q=p+1/\E=p+2/\p+3<=wr.heap.size):=⟨by have:=t.size;omega⟩
   obtain⟨R,rfl⟩:∃ R,R=wr:=⟨_,rfl⟩
   clear C b5 b6 b7 b8 b9 i0 t d6 c2 l0 k2 e8 k7 j7 k6 d2 f0 i7 m7 hjl
   go_wp2_with fail
   refine(k0.o R e7.o).mono ?_
   rintro e V ⟨v4,rfl,d9,a3⟩
   obtain⟨ea,ec,rfl⟩:=Aq d9
   obtain⟨B,f5⟩:∃ n,es.length=n:=⟨_,rfl⟩
   rw[f5] at d9 ⊢
   have v6:B<=2147483648:=by have:=d1.o.1;omega
   have t0:=a3.size
   obtain⟨c0,f7⟩:∃ c,V.heap.size=c:=⟨_,rfl⟩
   rw[f7] at t0
   have j9:Sl (V.ownsRow R.heap.size 70 3 (.slice ea B ec) B (Bt es)):=⟨d9⟩
   have a6:Sl (es.length=B):=⟨f5⟩
   have d0:Sl (V.heap.size=c0):=⟨f7⟩
   have p2:Sl (BS V p j F):=⟨k1.o.keep a3 (λ l=>l)⟩
   have q4:Sl (BS V q 0 (λ _=>none)):=⟨k8.o.keep a3 (λ l=>l)⟩
   have o9:Sl (AL V mp mq fm H):=⟨j8.o.keep a3 (λ l=>l) (λ l=>l)⟩
   have p7:=sE (a3.at_ k3.o (λ l=>l))
   have q0:Sl (Kp Aa w V):=⟨e7.o.then' a3⟩
   have X:Sl (w.heap.size<=p/\mp<p/\mq<p/\q=p+1/\E=p+2/\p+3<=R.heap.size/\R.heap.size<=c0):=⟨by have:=l1.o;omega⟩
   have w3:j<=65536:=r7
   clear d9 f5 a3 f7 k1 k8 j8 k3 e7 l1
   go_wp2_with fail
   go_loopw [49] (λ x49 wr=>∃ i,OuLoop V q c0 es x49 i wr) (λ x49 wr=>B-(intOf x49).toNat)
   case atStart=>exact ⟨0,rfl,Nat.zero_le _,⟨_,0,Nat.le_refl _,Grq.nil q4.o (by have:=X.o;omega)⟩,Kr _ _⟩
   case round=>
    obtain⟨i,rfl,r9,⟨vs,n,w5,c4⟩,t⟩:=hrel
    rw[a6.o] at r9
    have d2:=sE t
    have n9:=t.size
    rw[d0.o] at n9
    have g9:=Af j9.o t (λ b a0 l=>by have:=Ad j9.o a0;have:=X.o;have:=d0.o;omega)
    have C:=t.at_ p7.o (λ l=>by have:=X.o;omega)
    obtain⟨b5,b6,b7,b8,b9⟩:=Dk C
    by_cases hil:i<B
    .have s0:(i:Int)<(B:Int):=by omega
     obtain⟨x,D⟩:∃ x,es[i]?=some x:=⟨es[i]'(by rw[a6.o];exact hil),by simp⟩
     have s5:Dl wr (.slice ea B ec) es:=Dl.Bc (base:=R.heap.size) (by rw[a6.o];exact g9)
     obtain⟨v2,v3,m3,c5⟩:=s5
     obtain⟨r2,m4,w0,x0,x1,x2⟩:=c5 i x D
     have r8:ea=some ⟨r2,0,none⟩:=by injection m3 with c1;rw [c1];exact m4
     subst r8
     have i5:=d1.o.2 x (List.mem_of_getElem? D)
     have e9:Sl (es.take (i+1)=es.take i++[x]):=⟨by rw[List.take_add_one,D];rfl⟩
     have w9:(es.take i).length=i:=by rw[List.length_take,a6.o];omega
     clear c5 m3 m4 g9 t D
     go_wp2_with fail
     obtain⟨r,N⟩:∃ r,r=wr.alloc (.cells #[x.1,x.2.1,x.2.2] 70):=⟨_,rfl⟩
     have O:Kp Aa wr r:=by rw[N];exact (Kr _ wr).alloc _
     have Y:r.heap[wr.heap.size]?=some (.cells #[x.1,x.2.1,x.2.2] 70 (0,0)):=by rw[N];exact wN wr _
     have v1:=O.size
     rw[<- N]
     obtain⟨a5,i4⟩:∃ b,wr.heap.size=b:=⟨_,rfl⟩
     rw[i4] at Y v1 n9 ⊢
     have c6:=O.at_ C (λ l=>l)
     obtain⟨-,-,-,J,-⟩:=Dk c6
     obtain⟨G,-,I⟩:=cells3 Y
     have c3:=c4.keep O (λ l=>l) (λ _ _ _ l=>l)
     have w8:E<c0:=by have:=X.o;omega
     have w4:q<c0:=by have:=X.o;omega
     have w7:¬ E=q:=by have:=X.o;omega
     clear N Y x0 x1 x2 b5 b6 b7 b8 b9 C c6
     obtain⟨b1,b2,a1⟩:=Aq (c3.row x.1)
     have g1:∀ A,Kp Aa r A->(Instr.lookup 119 (.map (some q)) (.int .i64 x.1) false).run prog A=.ok (.slice b1 (Fy (es.take i) x.1).length b2) A:=λ A c8=>by
      rw[<- a1]
      exact(c3.keep c8 (λ l=>l) (λ _ _ _ l=>l)).look (by omega) Ei (zeroInts _)
     obtain⟨M,d7⟩:∃ M,(Fy (es.take i) x.1).length=M:=⟨_,rfl⟩
     have v8:M<=B:=by
      rw[<- d7]
      have c1:(Fy (es.take i) x.1).length<=(es.take i).length:=by
       unfold Fy outE
       rw[List.length_map]
       exact List.length_filter_le _ _
      omega
     rw[d7] at g1 a1
     refine wp_region_held_drew (S:=λ w'=>w'.cell? ⟨E,3,none⟩=some (.map (some q))/\w'.cell? a5=some (.int .i64 x.1)/\w'.cell? ⟨a5,2,none⟩=some (.int .i64 x.2.2)) (by kernel_rfl) ?_ (λ a4=>?_)
     .exact ⟨J,G,I⟩
     refine Ap 0 ?_;refine Ap 1 ?_;refine Ap 2 ?_;refine Ap 3 ?_;refine Ap 4 ?_;refine Ap 5 ?_;refine Ap 6 ?_;refine Ap 7 ?_;refine Ap 8 ?_
     try simp only[AB]
     refine Ap 9 ?_;refine Ap 10 ?_;refine Ap 11 ?_;refine Ap 13 ?_;refine Ap 14 ?_
     try simp only[AB]
     have Q:Kp Aa r r.drew:=(Kr _ _).drew
     have z:Kp Aa r (r.alloc (.cells #[x.2.2] 3)).drew:=((Kr _ _).alloc _).drew
     have t1:=g1 _ Q
     have t2:=g1 _ z
     refine Bp [12,15] ?_
     refine Ai rfl (λ K hK=>?_) (Ag rfl (λ K hK=>?_))
     go_simp
     refine hK _ _ ?_ (λ a4=>?_)
     .exact ⟨Ae Q J,Ae Q G,Ae Q I⟩
     clear hK K
     try simp only[AB]
     refine Bp [15] ?_
     refine Ag rfl (λ K hK=>?_)
     go_simp
     refine hK _ _ ?_ (λ a4=>?_)
     .exact ⟨Ae z J,Ae z G,Ae z I⟩
     clear hK K
     try simp only[AB]
     rotate_left
     go_simp
     refine hK _ _ ?_ (λ a4=>?_)
     .exact ⟨Ae z J,Ae z G,Ae z I⟩
     clear hK K
     try simp only[AB]
     refine Bp [12] ?_
     refine Ag rfl (λ K hK=>?_)
     go_simp
     refine hK _ _ ?_ (λ a4=>?_)
     .exact ⟨Ae z J,Ae z G,Ae z I⟩
     clear hK K
     try simp only[AB]
     all_goals
      clear t1 t2 Q
      obtain⟨j4,i3⟩:∃ R,R=(r.alloc (.cells #[x.2.2] 3)).drew:=⟨_,rfl⟩
      rw[<- i3] at z ⊢
      have l5:j4.heap[r.heap.size]?=some (.cells #[x.2.2] 3 (0,0)):=by rw[i3];exact wN r _
      clear i3
      have e4:=Af (c3.row x.1) z (λ _ _ l=>l)
      rw[a1,d7] at e4
      have s9:=z.size
      obtain⟨o0,m6,n7,n8,b0⟩:=info_parts Be
      refine Bp [16] ?_
      refine Ag rfl (λ K hK=>?_)
      refine CP rfl rfl (.tmp 65) (.tmp 68) 24 rfl c0 3 o0 (.int .i64 0) 1 8 Ar m6 n7 n8 b0 rfl (by omega) (.slice b1 M b2) M _ rfl e4 ⟨r.heap.size,0,none⟩ 1 _ [x.2.2] rfl rfl (World.news_of_block l5) (by intro u n6;simp at n6;subst n6;rfl) (by unfold maxLen;omega) (by omega) (by omega) ?_
      intro y0 o8 g3 g0 m2
      obtain⟨t4,t5,rfl⟩:=Aq g3
      clear m6 n7 n8 b0
      have e1:∀ b,(Value.slice b1 M b2).ownBlock=some b->c0<=b/\b<a5:=λ b a0=>⟨(Ad e4 a0).1,by have:=(Ad (c4.row x.1) (b:=b) (by rw[a1];exact a0)).2;omega⟩
      have d5:Kp (λ b=>(Value.slice b1 M b2).ownBlock=some b) j4 o8:=(Kr _ j4).grown g0 (λ k e _=>e)
      obtain⟨j3,g5,l7,e3,o2⟩:=c3.put (by unfold maxLen;omega) (k:=x.1) (by omega) Ei (x:=x.2.2) z (by rw[d7];simpa [Az] using g3) (by rw[a1];exact g0) (by rw[a1];exact m2)
      have o4:¬ (Value.slice b1 M b2).ownBlock=some E:=λ l=>by have:=e1 _ l;omega
      have j1:¬ (Value.slice b1 M b2).ownBlock=some a5:=λ l=>by have:=e1 _ l;omega
      have f4:=d5.cell (Ae z J) o4
      have f2:=d5.cell (Ae z G) j1
      have f3:=d5.cell (Ae z I) j1
      refine hK _ _ ?_ (λ a4=>?_)
      .exact ⟨f4,f2,f3⟩
      clear hK K
      try simp only[AB]
      have s4:(Instr.mapUpdate 119 (.map (some q)) (.int .i64 x.1) (.slice t4 (M+1) t5)).run prog o8=.ok () j3:=g5
      refine Bp [17] ?_
      refine Ag rfl (λ K hK=>?_)
      go_simp
      have l4:=e3.cell f4 (by intro l;have Z:E=q:=l;omega)
      have l2:=e3.cell f2 (by intro l;have Z:a5=q:=l;omega)
      have l3:=e3.cell f3 (by intro l;have Z:a5=q:=l;omega)
      refine hK _ _ ?_ (λ a4=>?_)
      .exact ⟨l4,l2,l3⟩
      clear hK K
      try simp only[AB]
      refine wpAnyH_done (by kernel_rfl) ?_ _
      have q5:Sl (Kp (λ b=>b=q\/c0<=b) wr j3):=⟨(O.Aw _).trans o2 (λ b a0 l=>by
       rcases l with l|l
       .exact .inl l
       .rw [a1] at l;exact .inr (e1 b l).1)⟩
      have p8:Sl (∃ vs n,n<=i+1/\Grq j3 c0 q vs (Fy (es.take (i+1))) n):=⟨⟨_,n+1,by omega,by rw[e9.o,<- outN_add];exact l7⟩⟩
      clear f4 f2 f3 l4 l2 l3 g5 s4 e3 o2 d5 o4 j1 e1 g3 g0 m2 l5 e4 z s9 a4 o0 J G I l7 c3 c4
      go_wp2
      exact⟨⟨i+1,by go_num,by rw[a6.o];omega,p8.o,d2.o.trans q5.o (λ b _ l=>l)⟩,by simp only[intOf];omega⟩
    .have s0:¬ (i:Int)<(B:Int):=by omega
     obtain rfl:i=B:=by omega
     have i7:=X.o
     have k4:Sl (Grq wr c0 q vs (Fy es) n):=⟨by
      have:=c4
      rwa [List.take_of_length_le (by rw[a6.o];omega)] at this⟩
     have p4:Sl (BS wr p j F):=⟨p2.o.keep t (λ l=>by have:=d0.o;omega)⟩
     have p0:Sl (AL wr mp mq fm H):=⟨o9.o.keep t (λ l=>by omega) (λ l=>by omega)⟩
     have q2:Sl (Kp Aa w wr):=⟨q0.o.trans t (λ b a0 l=>by have:=d0.o;omega)⟩
     have p9:=sE C
     clear i7 C b5 b6 b7 b8 b9 g9 t c4
     go_wp2
     go_ret2
     obtain⟨q7,t8,t9⟩:=k4.o.mp
     refine⟨E,mp,mq,fm,rfl,⟨p,q,max j n,q7,F,p9.o,p4.o.mono (Nat.le_max_left _ _),e5.o,⟨t8.mono (Nat.le_max_right _ _),λ k=>?_⟩,p0.o⟩,p5.o,q2.o⟩
     .rw [t9]
      have g8:=k4.o.row k
      obtain⟨a,c,s6⟩:=Aq g8
      rw[s6] at g8 ⊢
      exact AO.Bc g8

end

end Go.Proofs.YtfkedlgpgmaemaaGreatDoor
