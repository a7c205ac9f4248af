/-
  Lemmas for the laws, together: MarkE, MarkAl.
-/
import Derived.Test.YtfkedlgpgmaemaaGreatDoorQbc
import Derived.Test.YtfkedlgpgmaemaaGreatDoorQaz
import Derived.Test.YtfkedlgpgmaemaaGreatDoorQaw
import Derived.Test.YtfkedlgpgmaemaaGreatDoorQau
import Derived.Test.YtfkedlgpgmaemaaGreatDoorQax
set_option linter.unusedVariables false
set_option maxHeartbeats 16000000
namespace Go.Proofs.YtfkedlgpgmaemaaGreatDoor
open Tryz
section
open Go.RowKit

theorem mem_refsW{ts:List TypR}{W:Nat->Nat}{xs:List Cel}{x:Nat×Nat×Nat}:x∈Bv ts W xs ↔ ∃ c∈xs,∃ s∈BQ ts c,x=(c.g,s,W (2*c.g+1+s)):=by
 unfold Bv
 rw[List.mem_flatMap]
 constructor
 .rintro ⟨c,a,d⟩
  obtain⟨s,b,rfl⟩:=List.mem_map.1 d
  exact⟨c,a,s,b,rfl⟩
 .rintro ⟨c,a,s,b,rfl⟩
  exact⟨c,a,List.mem_map.2 ⟨s,b,rfl⟩⟩

theorem mem_edgeOf{cs:List Cel}{x e:Nat×Nat×Nat}:e∈Eu cs x ↔ 0<=tgt cs x.2.2/\e=(x.1,x.2.1,(tgt cs x.2.2).toNat):=by
 unfold Eu
 by_cases h:0<=tgt cs x.2.2
 .rw [if_pos h]
  simp[h]
 .rw [if_neg h]
  simp[h]

theorem tgt_yes'{cs:List Cel}{y z k:Nat}(a:y-1048576=z):tgt cs y=(k:Int) ↔ 1048576<=y/\y<1114112/\z%2=0/\Ak cs (z/2)=true/\k=z/2:=by
 unfold tgt
 rw[a]
 clear a
 by_cases h:1048576<=y/\y<1114112/\z%2=0/\Ak cs (z/2)=true
 .rw [if_pos h]
  constructor
  .intro e
   exact⟨h.1,h.2.1,h.2.2.1,h.2.2.2,by omega⟩
  .rintro ⟨-,-,-,-,e⟩
   omega
 .rw [if_neg h]
  constructor
  .intro e
   omega
  .rintro ⟨b,c,d,f,-⟩
   exact absurd ⟨b,c,d,f⟩ h

theorem kidOf_iff{f:Nat->Bool}{H y z k:Nat}(a:y-1048576=z):k∈kidOf f H y ↔ 1048576<=y/\y<1114112/\z%2=0/\EH f H ((z/2:Nat):Int)=true/\k=z/2:=by
 unfold kidOf
 rw[a]
 clear a
 by_cases h:1048576<=y/\y<1114112/\z%2=0/\EH f H ((z/2:Nat):Int)=true
 .rw [if_pos h,List.mem_singleton]
  exact⟨λ e=>⟨h.1,h.2.1,h.2.2.1,h.2.2.2,e⟩,λ e=>e.2.2.2.2⟩
 .rw [if_neg h]
  constructor
  .intro e
   cases e
  .rintro ⟨b,c,d,g,-⟩
   exact absurd ⟨b,c,d,g⟩ h

theorem kid_tgt{P:Sp}{W:Nat->Nat}{f:Nat->Bool}{cs:List Cel}(j:CellsAt P W cs)(d:∀ i,i<P.n/2->f i=Ak cs i){y k:Nat}:k∈kidOf f (P.n/2) y ↔ tgt cs y=(k:Int):=by
 obtain⟨z,e⟩:∃ z,y-1048576=z:=⟨_,rfl⟩
 rw[tgt_yes' e,kidOf_iff e]
 have m:∀ i,Ak cs i=true->i<P.n/2:=λ i a=>by
  obtain⟨c,b,-,o⟩:=Fj.2 a
  have:=j.tl.mem b
  omega
 have l:EH f (P.n/2) ((z/2:Nat):Int)=true ↔ Ak cs (z/2)=true:=by
  simp only[EH,Bool.and_eq_true,decide_eq_true_eq,Int.toNat_natCast]
  constructor
  .rintro ⟨b,g⟩
   rw[<- d _ (by omega)]
   exact g
  .intro a
   have:=m _ a
   exact⟨by omega,by rw[d _ this];exact a⟩
 rw[l]

theorem kidsOf_mem{P:Sp}{W:Nat->Nat}{f:Nat->Bool}{cs:List Cel}(b:CellsAt P W cs)(l:∀ i,i<P.n/2->f i=Ak cs i){c:Cel}(j:c∈cs)(r:c.tag=1){k:Nat}:
  k∈DU f (P.n/2) P.ts W cs c.g ↔ ∃ s∈BQ P.ts c,tgt cs (W (2*c.g+1+s))=(k:Int):=by
 obtain⟨e,o,p,t,q⟩:=objG_find ⟨c,j,r,rfl⟩
 obtain rfl:e=c:=b.tl.only p j q
 unfold DU
 rw[o]
 dsimp only
 unfold Fx
 rw[List.take_length,List.mem_flatMap]
 constructor
 .rintro ⟨y,m,a⟩
  unfold tgtsC Fz at m
  obtain⟨s,d,rfl⟩:=List.mem_map.1 (List.mem_filter.1 m).1
  exact⟨s,d,(kid_tgt b l).1 a⟩
 .rintro ⟨s,d,a⟩
  refine⟨W (2*e.g+1+s),?_,(kid_tgt b l).2 a⟩
  unfold tgtsC Fz
  refine List.mem_filter.2 ⟨List.mem_map.2 ⟨s,d,rfl⟩,?_⟩
  have:=((tgt_yes' rfl).1 a).1
  rw[bne_iff_ne]
  omega

theorem Ep{P:Sp}{W:Nat->Nat}{f:Nat->Bool}{cs:List Cel}(l:CellsAt P W cs)(p:∀ i,i<P.n/2->f i=Ak cs i){e:Nat×Nat×Nat}(d:e∈AP P.ts W cs):
  CL cs e.1/\CL cs e.2.2/\e.2.2∈DU f (P.n/2) P.ts W cs e.1:=by
 unfold AP A9 at d
 obtain⟨x,q,r⟩:=List.mem_flatMap.1 d
 obtain⟨c,m,s,o,rfl⟩:=mem_refsW.1 q
 obtain⟨k,rfl⟩:=mem_edgeOf.1 r
 obtain⟨a,b⟩:=AX.1 m
 have j:tgt cs (W (2*c.g+1+s))=((tgt cs (W (2*c.g+1+s))).toNat:Int):=by
  rw[Int.toNat_of_nonneg k]
 refine⟨⟨c,a,b,rfl⟩,Fj.2 ?_,(kidsOf_mem l p a b).2 ⟨s,o,j⟩⟩
 obtain⟨z,t⟩:∃ z,W (2*c.g+1+s)-1048576=z:=⟨_,rfl⟩
 have:=(tgt_yes' t).1 j
 dsimp only
 rw[this.2.2.2.2]
 exact this.2.2.2.1

theorem kid_edge{P:Sp}{W:Nat->Nat}{f:Nat->Bool}{cs:List Cel}(j:CellsAt P W cs)(p:∀ i,i<P.n/2->f i=Ak cs i){g k:Nat}(l:CL cs g)(m:k∈DU f (P.n/2) P.ts W cs g):
  ∃ e∈AP P.ts W cs,e.1=g/\e.2.2=k:=by
 obtain⟨c,a,b,rfl⟩:=l
 obtain⟨s,o,d⟩:=(kidsOf_mem j p a b).1 m
 refine⟨(c.g,s,k),?_,rfl,rfl⟩
 unfold AP A9
 refine List.mem_flatMap.2 ⟨(c.g,s,W (2*c.g+1+s)),mem_refsW.2 ⟨c,AX.2 ⟨a,b⟩,s,o,rfl⟩,mem_edgeOf.2 ⟨by dsimp only;rw [d];omega,?_⟩⟩
 dsimp only
 rw[d,Int.toNat_natCast]

def Dl(w:World)(v:Value)(es:List (Nat×Nat×Nat)):Prop:=
 ∃ a cap,v=.slice a es.length cap/\∀ i x,es[i]?=some x->∃ b,a=some ⟨b,0,none⟩/\b<w.heap.size/\
  w.cell? ⟨b,i*3,none⟩=some (.int .i64 x.1)/\w.cell? ⟨b,i*3+1,none⟩=some (.int .i64 x.2.1)/\w.cell? ⟨b,i*3+2,none⟩=some (.int .i64 x.2.2)

theorem Dl.Bc{w:World}{base:Nat}{v:Value}{es:List (Nat×Nat×Nat)}(e:w.ownsRow base 70 3 v es.length (Bt es)):Dl w v es:=by
 rcases e.2 with ⟨rfl,f⟩|⟨g,cap,l,rfl,m,c,n,o,p,d⟩
 .exact ⟨none,0,by rw[f],λ i x a=>by have:=(gE.1 a).1;omega⟩
 .refine ⟨some ⟨g,0,none⟩,cap,rfl,λ i x a=>?_⟩
  have q:=(gE.1 a).1
  obtain⟨x0,x1,x2⟩:=flatE_at es i x a
  have b:∀ j,j<es.length*3->w.cell? ⟨g,j,none⟩=(Bt es)[j]?:=λ j k=>by
   rw[<- d,List.getElem?_take_of_lt k]
   simp[World.cell?,c]
  exact⟨g,rfl,lZ c,by rw[b _ (by omega)];exact x0,by rw[b _ (by omega)];exact x1,by rw[b _ (by omega)];exact x2⟩

theorem Dl.Ac{w w':World}{v:Value}{es:List (Nat×Nat×Nat)}(c:Dl w v es)(k:Kp Aa w w'):Dl w' v es:=by
 obtain⟨a,cap,rfl,c⟩:=c
 refine⟨a,cap,rfl,λ i x j=>?_⟩
 obtain⟨b,rfl,d,e,f,g⟩:=c i x j
 exact⟨b,rfl,Nat.lt_of_lt_of_le d k.size,k.cell e id,k.cell f id,k.cell g id⟩

theorem any_take{α:Type}{p:α->Bool}{xs:List α}{j:Nat}{x:α}(h:xs[j]?=some x):(xs.take (j+1)).any p=((xs.take j).any p||p x):=by
 rw[List.take_add_one,h,List.any_append]
 simp

theorem CV{P:Sp}{W:Nat->Nat}{cs:List Cel}(d:CellsAt P W cs){g:Nat}(a:CL cs g):g<P.n/2:=by
 obtain⟨c,b,-,e⟩:=a
 have:=d.tl.mem b
 omega

end

section
open Go.RowKit

theorem put_last:∀ {base b a:List Cel} {c x:Cel},base++[x]=b++c::a->(∀ o∈base,o.tag=1)->¬ c.tag=1->b=base/\c=x/\a=[]
 |[],[],a,c,x,h,_,_=>by
  simp at h
  exact⟨rfl,h.1.symm,h.2⟩
 |[],d::b,a,c,x,h,_,_=>by simp at h
 |o::base,[],a,c,x,h,hb,hc=>by
  simp only[List.nil_append,List.cons_append,List.cons.injEq] at h
  exact absurd (h.1▸hb o (by simp)) hc
 |o::base,d::b,a,c,x,h,hb,hc=>by
  simp only[List.cons_append,List.cons.injEq] at h
  obtain⟨e,f,g⟩:=put_last h.2 (λ y i=>hb y (by simp[i])) hc
  exact⟨by rw[e,h.1],f,g⟩

theorem RunR.back{P:Sp}{a b c d:Nat->Int}{e:Nat->Nat}{g:List Cel}{j:Nat}{W:Nat->Nat}{cs:List Cel}(k:RunR P a b c d e g (j+1) W cs):∃ f i,RunR P a b c d e g j f i/\StepR P f i (a j) (b j) (c j) (d j) W cs:=by
 cases k with
 |succ h1 h2=>exact ⟨_,_,h1,h2⟩

theorem RunR.start{P:Sp}{c d f g:Nat->Int}{a:Nat->Nat}{b:List Cel}{W:Nat->Nat}{cs:List Cel}(e:RunR P c d f g a b 0 W cs):W=a/\cs=b:=by
 cases e with
 |zero=>exact ⟨rfl,rfl⟩

theorem put_at_end{P:Sp}{W d:Nat->Nat}{e base:List Cel}{x:Cel}{j a l S:Nat}(b:PutStep P W (base++[x]) (j:Nat) (a:Nat) (l:Nat) d e)(p:∀ o∈base,o.tag=1)(m:DW P.ts (P.n/2) (base++[x]) (j:Nat) (a:Nat) (l:Nat)=0)(w:BB P.ts (a:Nat) (l:Nat)=(S:Nat)):
  d=putW W x j a l S/\e=putL base x [] j a l S:=by
 rcases b with ⟨b,-⟩|⟨-,z,c,y,q,a',r,S',f,g,s,t,u,v,-,-,-,i,k⟩
 .exact absurd m b
 .obtain rfl:q=j:=by omega
  obtain rfl:a'=a:=by omega
  obtain rfl:r=l:=by omega
  obtain rfl:S'=S:=by omega
  obtain⟨rfl,rfl,rfl⟩:=put_last f p g
  exact⟨i,k⟩

def al20d(j:Nat):Int:=[0,0,0,5,5].getD j 0

def al20g(j:Nat):Int:=[0,1,2,0,1].getD j 0

def al20i(j:Nat):Int:=[1,1,1,1,2].getD j 0

def al20n(j:Nat):Int:=[1,1,1,0,0].getD j 0

def CZ:List Cel:=[⟨0,1,1,1,1⟩,⟨1,1,1,1,1⟩,⟨2,1,1,1,1⟩,⟨3,3,0,0,17⟩]

theorem puts20{P:Sp}(b:P.ts=alT)(c:P.n=40){W:Nat->Nat}{cs:List Cel}(g:RunR P al20d al20g al20i al20n (Bd (λ _=>0) 0 (40/2)) (gapL 0 (40/2)) 3 W cs):cs=CZ/\W 5=0:=by
 obtain⟨w,A,m,t⟩:=g.back
 obtain⟨v,z,k,s⟩:=m.back
 obtain⟨u,y,i,r⟩:=k.back
 obtain⟨rfl,rfl⟩:=i.start
 have o:=r.1 rfl
 have p:=s.1 rfl
 have q:=t.1 rfl
 obtain⟨d,rfl⟩:=put_at_end (base:=[]) (x:=⟨0,3,0,0,20⟩) (j:=0) (a:=1) (l:=1) (S:=1) o (by simp) (by rw[b,c];decide +kernel) (by rw[b];decide +kernel)
 obtain⟨e,rfl⟩:=put_at_end (base:=[⟨0,1,1,1,1⟩]) (x:=⟨1,3,0,0,19⟩) (j:=1) (a:=1) (l:=1) (S:=1) p (by simp) (by rw[b,c];decide +kernel) (by rw[b];decide +kernel)
 obtain⟨f,rfl⟩:=put_at_end (base:=[⟨0,1,1,1,1⟩,⟨1,1,1,1,1⟩]) (x:=⟨2,3,0,0,18⟩) (j:=2) (a:=1) (l:=1) (S:=1) q (by simp) (by rw[b,c];decide +kernel) (by rw[b];decide +kernel)
 refine⟨by decide +kernel,?_⟩
 rw[f,e,d]
 decide +kernel

theorem join20{P:Sp}(H:P.ts=alT){W j:Nat->Nat}{l:List Cel}{g i:Nat}(q:g<3)(r:i<3)(a:JoinStep P W CZ (g:Nat) (i:Nat) 0 j l):l=CZ/\j=DN W (2*g+1) (1048576+2*i):=by
 obtain⟨rfl,a⟩:=a
 refine⟨rfl,?_⟩
 have t:BK CZ=[0,1,2]:=by decide +kernel
 have K:bits .and .i64 0 65535=0:=by decide +kernel
 have n:∀ x:Nat,x<3->bits .and .i64 (x:Nat) 65535=(x:Int):=λ x J=>by
  have:x=0\/x=1\/x=2:=by omega
  rcases this with rfl|rfl|rfl <;> decide +kernel
 have o:∀ x:Nat,x<3->([0,1,2]:List Nat)[x%3]?=some x:=λ x J=>by
  have:x=0\/x=1\/x=2:=by omega
  rcases this with rfl|rfl|rfl <;> rfl
 rcases a with ⟨a,-⟩|⟨v,w,y,c,L,k,wds,m,⟨z,A,B⟩,⟨E,I⟩,x1,x2,u,b⟩
 .rw [t] at a
  cases a
 .rw [n g q] at z
  rw[n i r] at A
  rw[K] at B
  obtain rfl:v=g:=by omega
  obtain rfl:w=i:=by omega
  obtain rfl:y=0:=by omega
  rw[t] at x1 x2
  have d:=(o _ q).symm.trans x1
  have e:=(o _ r).symm.trans x2
  injection d with d
  injection e with e
  have p:c.ty=1/\c.ln=1:=by
   have:c=⟨0,1,1,1,1⟩\/c=⟨1,1,1,1,1⟩\/c=⟨2,1,1,1,1⟩\/c=⟨3,3,0,0,17⟩:=by simpa [CZ] using E
   rcases this with rfl|rfl|rfl|rfl
   .exact ⟨rfl,rfl⟩
   .exact ⟨rfl,rfl⟩
   .exact ⟨rfl,rfl⟩
   .exact absurd I (by decide)
  rw[H,p.1] at u
  have f:some (⟨2,0,0⟩:TypR)=some ⟨k,wds,m⟩:=(show typeOf alT ((1:Nat):Int)=some ⟨2,0,0⟩ from by rfl).symm.trans u
  injection f with f
  injection f with q1 q2 q3
  subst q1 q2 q3
  rw[p.2,show BP 2 0 0 ((1:Nat):Int)=[0] by decide +kernel] at b
  rcases b with ⟨b,-⟩|⟨s,Y,F,D,C⟩
  .cases b
  .have G:s=0:=by
    have:some (0:Nat)=some s:=F
    injection this with this
    exact this.symm
   rw[C,G,D (by omega),<- d,<- e]

theorem run20{P:Sp}(a:P.ts=alT)(j:P.n=40){W:Nat->Nat}{cs:List Cel}(d:RunR P al20d al20g al20i al20n (Bd (λ _=>0) 0 (40/2)) (gapL 0 (40/2)) 5 W cs):cs=CZ/\W 1=1048578/\W 3=1048580/\W 5=0:=by
 obtain⟨p,r,f,l⟩:=d.back
 obtain⟨o,q,e,k⟩:=f.back
 obtain⟨rfl,m⟩:=puts20 a j e
 obtain⟨rfl,b⟩:=join20 a (g:=0) (i:=1) (by omega) (by omega) (k.2 rfl)
 obtain⟨rfl,c⟩:=join20 a (g:=1) (i:=2) (by omega) (by omega) (l.2 rfl)
 refine⟨rfl,?_,?_,?_⟩ <;> rw[c,b] <;> simp[DN,m]

def steps20:Array Value:=#[(0:Int),(0:Int),(1:Int),(1:Int),.int .u64 0,.slice none 0 0,(0:Int),(1:Int),(1:Int),(1:Int),.int .u64 0,.slice none 0 0,(0:Int),(2:Int),(1:Int),(1:Int),.int .u64 0,.slice none 0 0,(5:Int),(0:Int),(1:Int),(0:Int),.int .u64 0,.slice none 0 0,(5:Int),(1:Int),(2:Int),(0:Int),.int .u64 0,.slice none 0 0]

def Played20(w:World)(e:Ending)(w':World):Prop:=
 ∃ (P:Sp) (rb:Nat) (W:Nat->Nat) (f:Nat->Bool),e=.returned (.tuple #[.pointer (some P.s),.pointer (some rb),.bool true])/\(P.ts=alT/\P.n=40)/\SpaceAt w' P W f/\CellsAt P W CZ/\(∀ i,i<P.n/2->f i=Ak CZ i)/\(W 1=1048578/\W 3=1048580/\W 5=0)/\Kp Aa w w'

theorem played20(w:World)(hF:Au w)(a b:Nat)(p r:TypeId)(k:w.heap[a]?=some (.cells steps20 p (0,0)))(l:w.heap[b]?=some (.cells #[.int .u8 2,(0:Int),.int .u64 0] r (0,0))):
  Calls prog 10 #[(40:Int),.slice (some ⟨b,0,none⟩) 1 1,.slice (some ⟨a,0,none⟩) 5 5] w (Played20 w):=by
 have v:A8 w (.slice (some ⟨b,0,none⟩) 1 1) alT:=⟨_,_,rfl,λ i x c=>by
  cases i with
  |succ i=>simp [alT] at c
  |zero=>
   have:x=⟨2,0,0⟩:=by simpa [alT] using c.symm
   subst this
   refine⟨b,0,rfl,lZ l,?_,?_,?_⟩ <;> simp only[World.cell?,l] <;> rfl⟩
 have g:FT w (.slice (some ⟨a,0,none⟩) 5 5) 5 al20d al20g al20i al20n (λ _=>0) (λ _=>.slice none 0 0) (λ _=>0):=⟨_,_,rfl,λ j d=>⟨a,0,rfl,lZ k,by
  have:j=0\/j=1\/j=2\/j=3\/j=4:=by omega
  rcases this with rfl|rfl|rfl|rfl|rfl <;> (simp only[World.cell?,k];refine ⟨rfl,rfl,rfl,rfl,rfl,rfl,⟨_,_,rfl⟩,by omega,?_,?_,?_⟩ <;> decide +kernel)⟩⟩
 refine(Played_run 40 _ _ alT 5 al20d al20g al20i al20n (λ _=>0) (λ _=>.slice none 0 0) (λ _=>0) w hF v (by decide) (λ x y=>by have:=List.mem_singleton.1 y;subst this;decide) (by decide +kernel) (by decide +kernel) g (by omega) (λ j d=>by decide) (λ j d=>⟨λ _ _=>0,⟨none,0,rfl,λ i c=>absurd (show i<0 from c) (by omega)⟩⟩) (λ j d=>by omega)).mono ?_
 rintro e w' ⟨P,C,q,W,cs,rfl,m,n,o,t⟩
 obtain⟨rfl,z,A,B⟩:=run20 o n t
 obtain⟨f,u,s,g⟩:=m.sp
 exact⟨P,C,W,f,rfl,⟨o,n⟩,u,s,g,⟨z,A,B⟩,m.kb.new'⟩

end

end Go.Proofs.YtfkedlgpgmaemaaGreatDoor
