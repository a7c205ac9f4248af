/-
  Lemmas for the laws, together: MarkE, MarkAl, CenAp, Args9.
-/
import Derived.Test.YtfkedlgpgmaemaaGreatDoorQbc
import Derived.Test.YtfkedlgpgmaemaaGreatDoorQaz
import Derived.Test.YtfkedlgpgmaemaaGreatDoorQaw
import Derived.Test.YtfkedlgpgmaemaaGreatDoorQau
import Derived.Test.YtfkedlgpgmaemaaGreatDoorQax
set_option linter.unusedVariables false
set_option maxHeartbeats 16000000
namespace Go.Proofs.YtfkedlgpgmaemaaGreatDoor
open Tryz
section
open Go.RowKit

theorem mem_refsW{ts:List TypR}{W:Nat->Nat}{xs:List Cel}{x:Nat×Nat×Nat}:x∈Bv ts W xs ↔ ∃ c∈xs,∃ s∈BQ ts c,x=(c.g,s,W (2*c.g+1+s)):=by
 unfold Bv
 rw[List.mem_flatMap]
 constructor
 .rintro ⟨c,hc,hx⟩
  obtain⟨s,hs,rfl⟩:=List.mem_map.1 hx
  exact⟨c,hc,s,hs,rfl⟩
 .rintro ⟨c,hc,s,hs,rfl⟩
  exact⟨c,hc,List.mem_map.2 ⟨s,hs,rfl⟩⟩

theorem mem_edgeOf{cs:List Cel}{x e:Nat×Nat×Nat}:e∈Eu cs x ↔ 0<=tgt cs x.2.2/\e=(x.1,x.2.1,(tgt cs x.2.2).toNat):=by
 unfold Eu
 by_cases h:0<=tgt cs x.2.2
 .rw [if_pos h]
  simp[h]
 .rw [if_neg h]
  simp[h]

theorem tgt_yes'{cs:List Cel}{y z k:Nat}(hz:y-1048576=z):tgt cs y=(k:Int) ↔ 1048576<=y/\y<1114112/\z%2=0/\Ak cs (z/2)=true/\k=z/2:=by
 unfold tgt
 rw[hz]
 clear hz
 by_cases h:1048576<=y/\y<1114112/\z%2=0/\Ak cs (z/2)=true
 .rw [if_pos h]
  constructor
  .intro e
   exact⟨h.1,h.2.1,h.2.2.1,h.2.2.2,by omega⟩
  .rintro ⟨-,-,-,-,e⟩
   omega
 .rw [if_neg h]
  constructor
  .intro e
   omega
  .rintro ⟨h1,h2,h3,h4,-⟩
   exact absurd ⟨h1,h2,h3,h4⟩ h

theorem kidOf_iff{f:Nat->Bool}{H y z k:Nat}(hz:y-1048576=z):k∈kidOf f H y ↔ 1048576<=y/\y<1114112/\z%2=0/\EH f H ((z/2:Nat):Int)=true/\k=z/2:=by
 unfold kidOf
 rw[hz]
 clear hz
 by_cases h:1048576<=y/\y<1114112/\z%2=0/\EH f H ((z/2:Nat):Int)=true
 .rw [if_pos h,List.mem_singleton]
  exact⟨λ e=>⟨h.1,h.2.1,h.2.2.1,h.2.2.2,e⟩,λ e=>e.2.2.2.2⟩
 .rw [if_neg h]
  constructor
  .intro e
   cases e
  .rintro ⟨h1,h2,h3,h4,-⟩
   exact absurd ⟨h1,h2,h3,h4⟩ h

theorem kid_tgt{P:Sp}{W:Nat->Nat}{f:Nat->Bool}{cs:List Cel}(hc:CellsAt P W cs)(hst:∀ i,i<P.n/2->f i=Ak cs i){y k:Nat}:k∈kidOf f (P.n/2) y ↔ tgt cs y=(k:Int):=by
 obtain⟨z,hz⟩:∃ z,y-1048576=z:=⟨_,rfl⟩
 rw[tgt_yes' hz,kidOf_iff hz]
 have hs:∀ i,Ak cs i=true->i<P.n/2:=λ i h=>by
  obtain⟨c,h1,-,h3⟩:=Fj.2 h
  have:=hc.tl.mem h1
  omega
 have hi:EH f (P.n/2) ((z/2:Nat):Int)=true ↔ Ak cs (z/2)=true:=by
  simp only[EH,Bool.and_eq_true,decide_eq_true_eq,Int.toNat_natCast]
  constructor
  .rintro ⟨h1,h2⟩
   rw[<- hst _ (by omega)]
   exact h2
  .intro h
   have:=hs _ h
   exact⟨by omega,by rw[hst _ this];exact h⟩
 rw[hi]

theorem kidsOf_mem{P:Sp}{W:Nat->Nat}{f:Nat->Bool}{cs:List Cel}(hc:CellsAt P W cs)(hst:∀ i,i<P.n/2->f i=Ak cs i){c:Cel}(hm:c∈cs)(ht:c.tag=1){k:Nat}:
  k∈DU f (P.n/2) P.ts W cs c.g ↔ ∃ s∈BQ P.ts c,tgt cs (W (2*c.g+1+s))=(k:Int):=by
 obtain⟨c',h1,h2,h3,h4⟩:=objG_find ⟨c,hm,ht,rfl⟩
 obtain rfl:c'=c:=hc.tl.only h2 hm h4
 unfold DU
 rw[h1]
 dsimp only
 unfold Fx
 rw[List.take_length,List.mem_flatMap]
 constructor
 .rintro ⟨y,hy,hk⟩
  unfold tgtsC Fz at hy
  obtain⟨s,hs,rfl⟩:=List.mem_map.1 (List.mem_filter.1 hy).1
  exact⟨s,hs,(kid_tgt hc hst).1 hk⟩
 .rintro ⟨s,hs,hk⟩
  refine⟨W (2*c'.g+1+s),?_,(kid_tgt hc hst).2 hk⟩
  unfold tgtsC Fz
  refine List.mem_filter.2 ⟨List.mem_map.2 ⟨s,hs,rfl⟩,?_⟩
  have:=((tgt_yes' rfl).1 hk).1
  rw[bne_iff_ne]
  omega

theorem Ep{P:Sp}{W:Nat->Nat}{f:Nat->Bool}{cs:List Cel}(hc:CellsAt P W cs)(hst:∀ i,i<P.n/2->f i=Ak cs i){e:Nat×Nat×Nat}(he:e∈AP P.ts W cs):
  CL cs e.1/\CL cs e.2.2/\e.2.2∈DU f (P.n/2) P.ts W cs e.1:=by
 unfold AP A9 at he
 obtain⟨x,hx,hy⟩:=List.mem_flatMap.1 he
 obtain⟨c,hm,s,hs,rfl⟩:=mem_refsW.1 hx
 obtain⟨h0,rfl⟩:=mem_edgeOf.1 hy
 obtain⟨h1,h2⟩:=AX.1 hm
 have ht:tgt cs (W (2*c.g+1+s))=((tgt cs (W (2*c.g+1+s))).toNat:Int):=by
  rw[Int.toNat_of_nonneg h0]
 refine⟨⟨c,h1,h2,rfl⟩,Fj.2 ?_,(kidsOf_mem hc hst h1 h2).2 ⟨s,hs,ht⟩⟩
 obtain⟨z,hz⟩:∃ z,W (2*c.g+1+s)-1048576=z:=⟨_,rfl⟩
 have:=(tgt_yes' hz).1 ht
 dsimp only
 rw[this.2.2.2.2]
 exact this.2.2.2.1

theorem kid_edge{P:Sp}{W:Nat->Nat}{f:Nat->Bool}{cs:List Cel}(hc:CellsAt P W cs)(hst:∀ i,i<P.n/2->f i=Ak cs i){g k:Nat}(hg:CL cs g)(hk:k∈DU f (P.n/2) P.ts W cs g):
  ∃ e∈AP P.ts W cs,e.1=g/\e.2.2=k:=by
 obtain⟨c,h1,h2,rfl⟩:=hg
 obtain⟨s,hs,ht⟩:=(kidsOf_mem hc hst h1 h2).1 hk
 refine⟨(c.g,s,k),?_,rfl,rfl⟩
 unfold AP A9
 refine List.mem_flatMap.2 ⟨(c.g,s,W (2*c.g+1+s)),mem_refsW.2 ⟨c,AX.2 ⟨h1,h2⟩,s,hs,rfl⟩,mem_edgeOf.2 ⟨by dsimp only;rw [ht];omega,?_⟩⟩
 dsimp only
 rw[ht,Int.toNat_natCast]

def Dl(w:World)(v:Value)(es:List (Nat×Nat×Nat)):Prop:=
 ∃ a cap,v=.slice a es.length cap/\∀ i x,es[i]?=some x->∃ b,a=some ⟨b,0,none⟩/\b<w.heap.size/\
  w.cell? ⟨b,i*3,none⟩=some (.int .i64 x.1)/\w.cell? ⟨b,i*3+1,none⟩=some (.int .i64 x.2.1)/\w.cell? ⟨b,i*3+2,none⟩=some (.int .i64 x.2.2)

theorem Dl.Bc{w:World}{base:Nat}{v:Value}{es:List (Nat×Nat×Nat)}(h:w.ownsRow base 70 3 v es.length (Bt es)):Dl w v es:=by
 rcases h.2 with ⟨rfl,h0⟩|⟨g,cap,cur,rfl,g2,g3,g4,g5,g6,g7⟩
 .exact ⟨none,0,by rw[h0],λ i x hx=>by have:=(gE.1 hx).1;omega⟩
 .refine ⟨some ⟨g,0,none⟩,cap,rfl,λ i x hx=>?_⟩
  have hi:=(gE.1 hx).1
  obtain⟨x0,x1,x2⟩:=flatE_at es i x hx
  have key:∀ j,j<es.length*3->w.cell? ⟨g,j,none⟩=(Bt es)[j]?:=λ j hj=>by
   rw[<- g7,List.getElem?_take_of_lt hj]
   simp[World.cell?,g3]
  exact⟨g,rfl,lZ g3,by rw[key _ (by omega)];exact x0,by rw[key _ (by omega)];exact x1,by rw[key _ (by omega)];exact x2⟩

theorem Dl.Ac{w w':World}{v:Value}{es:List (Nat×Nat×Nat)}(h:Dl w v es)(k:Kp Aa w w'):Dl w' v es:=by
 obtain⟨a,cap,rfl,h⟩:=h
 refine⟨a,cap,rfl,λ i x hi=>?_⟩
 obtain⟨b,rfl,h1,h2,h3,h4⟩:=h i x hi
 exact⟨b,rfl,Nat.lt_of_lt_of_le h1 k.size,k.cell h2 id,k.cell h3 id,k.cell h4 id⟩

theorem any_take{α:Type}{p:α->Bool}{xs:List α}{j:Nat}{x:α}(h:xs[j]?=some x):(xs.take (j+1)).any p=((xs.take j).any p||p x):=by
 rw[List.take_add_one,h,List.any_append]
 simp

theorem CV{P:Sp}{W:Nat->Nat}{cs:List Cel}(hc:CellsAt P W cs){g:Nat}(h:CL cs g):g<P.n/2:=by
 obtain⟨c,h1,-,h3⟩:=h
 have:=hc.tl.mem h1
 omega

end

section
open Go.RowKit

theorem put_last:∀ {base pre post:List Cel} {c x:Cel},base++[x]=pre++c::post->(∀ o∈base,o.tag=1)->¬ c.tag=1->pre=base/\c=x/\post=[]
 |[],[],post,c,x,h,_,_=>by
  simp at h
  exact⟨rfl,h.1.symm,h.2⟩
 |[],d::pre,post,c,x,h,_,_=>by simp at h
 |o::base,[],post,c,x,h,hb,hc=>by
  simp only[List.nil_append,List.cons_append,List.cons.injEq] at h
  exact absurd (h.1▸hb o (by simp)) hc
 |o::base,d::pre,post,c,x,h,hb,hc=>by
  simp only[List.cons_append,List.cons.injEq] at h
  obtain⟨h1,h2,h3⟩:=put_last h.2 (λ y hy=>hb y (by simp[hy])) hc
  exact⟨by rw[h1,h.1],h2,h3⟩

theorem RunR.back{P:Sp}{dd gg ii nn:Nat->Int}{W0:Nat->Nat}{cs0:List Cel}{j:Nat}{W:Nat->Nat}{cs:List Cel}(h:RunR P dd gg ii nn W0 cs0 (j+1) W cs):∃ W1 cs1,RunR P dd gg ii nn W0 cs0 j W1 cs1/\StepR P W1 cs1 (dd j) (gg j) (ii j) (nn j) W cs:=by
 cases h with
 |succ h1 h2=>exact ⟨_,_,h1,h2⟩

theorem RunR.start{P:Sp}{dd gg ii nn:Nat->Int}{W0:Nat->Nat}{cs0:List Cel}{W:Nat->Nat}{cs:List Cel}(h:RunR P dd gg ii nn W0 cs0 0 W cs):W=W0/\cs=cs0:=by
 cases h with
 |zero=>exact ⟨rfl,rfl⟩

theorem put_at_end{P:Sp}{W W':Nat->Nat}{cs' base:List Cel}{x:Cel}{j a l S:Nat}(h:PutStep P W (base++[x]) (j:Nat) (a:Nat) (l:Nat) W' cs')(hb:∀ o∈base,o.tag=1)(hR:DW P.ts (P.n/2) (base++[x]) (j:Nat) (a:Nat) (l:Nat)=0)(hS:BB P.ts (a:Nat) (l:Nat)=(S:Nat)):
  W'=putW W x j a l S/\cs'=putL base x [] j a l S:=by
 rcases h with ⟨h,-⟩|⟨-,pre,c,post,j',a',l',S',e1,e2,e3,e4,e5,e6,-,-,-,e7,e8⟩
 .exact absurd hR h
 .obtain rfl:j'=j:=by omega
  obtain rfl:a'=a:=by omega
  obtain rfl:l'=l:=by omega
  obtain rfl:S'=S:=by omega
  obtain⟨rfl,rfl,rfl⟩:=put_last e1 hb e2
  exact⟨e7,e8⟩

def al20d(j:Nat):Int:=[0,0,0,5,5].getD j 0

def al20g(j:Nat):Int:=[0,1,2,0,1].getD j 0

def al20i(j:Nat):Int:=[1,1,1,1,2].getD j 0

def al20n(j:Nat):Int:=[1,1,1,0,0].getD j 0

def CZ:List Cel:=[⟨0,1,1,1,1⟩,⟨1,1,1,1,1⟩,⟨2,1,1,1,1⟩,⟨3,3,0,0,17⟩]

theorem puts20{P:Sp}(ht:P.ts=alT)(hn:P.n=40){W:Nat->Nat}{cs:List Cel}(h:RunR P al20d al20g al20i al20n (Bd (λ _=>0) 0 (40/2)) (gapL 0 (40/2)) 3 W cs):cs=CZ/\W 5=0:=by
 obtain⟨W2,cs2,h2,s2⟩:=h.back
 obtain⟨W1,cs1,h1,s1⟩:=h2.back
 obtain⟨W0,cs0,h0,s0⟩:=h1.back
 obtain⟨rfl,rfl⟩:=h0.start
 have p0:=s0.1 rfl
 have p1:=s1.1 rfl
 have p2:=s2.1 rfl
 obtain⟨e0,rfl⟩:=put_at_end (base:=[]) (x:=⟨0,3,0,0,20⟩) (j:=0) (a:=1) (l:=1) (S:=1) p0 (by simp) (by rw[ht,hn];decide +kernel) (by rw[ht];decide +kernel)
 obtain⟨e1,rfl⟩:=put_at_end (base:=[⟨0,1,1,1,1⟩]) (x:=⟨1,3,0,0,19⟩) (j:=1) (a:=1) (l:=1) (S:=1) p1 (by simp) (by rw[ht,hn];decide +kernel) (by rw[ht];decide +kernel)
 obtain⟨e2,rfl⟩:=put_at_end (base:=[⟨0,1,1,1,1⟩,⟨1,1,1,1,1⟩]) (x:=⟨2,3,0,0,18⟩) (j:=2) (a:=1) (l:=1) (S:=1) p2 (by simp) (by rw[ht,hn];decide +kernel) (by rw[ht];decide +kernel)
 refine⟨by decide +kernel,?_⟩
 rw[e2,e1,e0]
 decide +kernel

theorem join20{P:Sp}(ht:P.ts=alT){W W':Nat->Nat}{cs':List Cel}{g i:Nat}(hg:g<3)(hi:i<3)(h:JoinStep P W CZ (g:Nat) (i:Nat) 0 W' cs'):cs'=CZ/\W'=DN W (2*g+1) (1048576+2*i):=by
 obtain⟨rfl,h⟩:=h
 refine⟨rfl,?_⟩
 have ho:BK CZ=[0,1,2]:=by decide +kernel
 have hz:bits .and .i64 0 65535=0:=by decide +kernel
 have hG:∀ x:Nat,x<3->bits .and .i64 (x:Nat) 65535=(x:Int):=λ x hx=>by
  have:x=0\/x=1\/x=2:=by omega
  rcases this with rfl|rfl|rfl <;> decide +kernel
 have hN:∀ x:Nat,x<3->([0,1,2]:List Nat)[x%3]?=some x:=λ x hx=>by
  have:x=0\/x=1\/x=2:=by omega
  rcases this with rfl|rfl|rfl <;> rfl
 rcases h with ⟨h,-⟩|⟨G1,G2,G3,c,g2,k,wds,m,⟨a1,a2,a3⟩,⟨hc,htg⟩,x1,x2,hty,hr⟩
 .rw [ho] at h
  cases h
 .rw [hG g hg] at a1
  rw[hG i hi] at a2
  rw[hz] at a3
  obtain rfl:G1=g:=by omega
  obtain rfl:G2=i:=by omega
  obtain rfl:G3=0:=by omega
  rw[ho] at x1 x2
  have e1:=(hN _ hg).symm.trans x1
  have e2:=(hN _ hi).symm.trans x2
  injection e1 with e1
  injection e2 with e2
  have hcc:c.ty=1/\c.ln=1:=by
   have:c=⟨0,1,1,1,1⟩\/c=⟨1,1,1,1,1⟩\/c=⟨2,1,1,1,1⟩\/c=⟨3,3,0,0,17⟩:=by simpa [CZ] using hc
   rcases this with rfl|rfl|rfl|rfl
   .exact ⟨rfl,rfl⟩
   .exact ⟨rfl,rfl⟩
   .exact ⟨rfl,rfl⟩
   .exact absurd htg (by decide)
  rw[ht,hcc.1] at hty
  have hty2:some (⟨2,0,0⟩:TypR)=some ⟨k,wds,m⟩:=(show typeOf alT ((1:Nat):Int)=some ⟨2,0,0⟩ from by rfl).symm.trans hty
  injection hty2 with hty2
  injection hty2 with q1 q2 q3
  subst q1 q2 q3
  rw[hcc.2,show BP 2 0 0 ((1:Nat):Int)=[0] by decide +kernel] at hr
  rcases hr with ⟨hr,-⟩|⟨s,Y,hs,hY,hW⟩
  .cases hr
  .have hs0:s=0:=by
    have:some (0:Nat)=some s:=hs
    injection this with this
    exact this.symm
   rw[hW,hs0,hY (by omega),<- e1,<- e2]

theorem run20{P:Sp}(ht:P.ts=alT)(hn:P.n=40){W:Nat->Nat}{cs:List Cel}(h:RunR P al20d al20g al20i al20n (Bd (λ _=>0) 0 (40/2)) (gapL 0 (40/2)) 5 W cs):cs=CZ/\W 1=1048578/\W 3=1048580/\W 5=0:=by
 obtain⟨W4,cs4,h4,s4⟩:=h.back
 obtain⟨W3,cs3,h3,s3⟩:=h4.back
 obtain⟨rfl,z5⟩:=puts20 ht hn h3
 obtain⟨rfl,e4⟩:=join20 ht (g:=0) (i:=1) (by omega) (by omega) (s3.2 rfl)
 obtain⟨rfl,e5⟩:=join20 ht (g:=1) (i:=2) (by omega) (by omega) (s4.2 rfl)
 refine⟨rfl,?_,?_,?_⟩ <;> rw[e5,e4] <;> simp[DN,z5]

def steps20:Array Value:=#[(0:Int),(0:Int),(1:Int),(1:Int),.int .u64 0,.slice none 0 0,(0:Int),(1:Int),(1:Int),(1:Int),.int .u64 0,.slice none 0 0,(0:Int),(2:Int),(1:Int),(1:Int),.int .u64 0,.slice none 0 0,(5:Int),(0:Int),(1:Int),(0:Int),.int .u64 0,.slice none 0 0,(5:Int),(1:Int),(2:Int),(0:Int),.int .u64 0,.slice none 0 0]

def Played20(w:World)(e:Ending)(w':World):Prop:=
 ∃ (P:Sp) (rb:Nat) (W:Nat->Nat) (f:Nat->Bool),e=.returned (.tuple #[.pointer (some P.s),.pointer (some rb),.bool true])/\(P.ts=alT/\P.n=40)/\SpaceAt w' P W f/\CellsAt P W CZ/\(∀ i,i<P.n/2->f i=Ak CZ i)/\(W 1=1048578/\W 3=1048580/\W 5=0)/\Kp Aa w w'

theorem played20(w:World)(hF:Au w)(bs bt:Nat)(T1 T2:TypeId)(h1:w.heap[bs]?=some (.cells steps20 T1 (0,0)))(h2:w.heap[bt]?=some (.cells #[.int .u8 2,(0:Int),.int .u64 0] T2 (0,0))):
  Calls prog 10 #[(40:Int),.slice (some ⟨bt,0,none⟩) 1 1,.slice (some ⟨bs,0,none⟩) 5 5] w (Played20 w):=by
 have hts:A8 w (.slice (some ⟨bt,0,none⟩) 1 1) alT:=⟨_,_,rfl,λ i x hi=>by
  cases i with
  |succ i=>simp [alT] at hi
  |zero=>
   have:x=⟨2,0,0⟩:=by simpa [alT] using hi.symm
   subst this
   refine⟨bt,0,rfl,lZ h2,?_,?_,?_⟩ <;> simp only[World.cell?,h2] <;> rfl⟩
 have hst:FT w (.slice (some ⟨bs,0,none⟩) 5 5) 5 al20d al20g al20i al20n (λ _=>0) (λ _=>.slice none 0 0) (λ _=>0):=⟨_,_,rfl,λ j hj=>⟨bs,0,rfl,lZ h1,by
  have:j=0\/j=1\/j=2\/j=3\/j=4:=by omega
  rcases this with rfl|rfl|rfl|rfl|rfl <;> (simp only[World.cell?,h1];refine ⟨rfl,rfl,rfl,rfl,rfl,rfl,⟨_,_,rfl⟩,by omega,?_,?_,?_⟩ <;> decide +kernel)⟩⟩
 refine(Played_run 40 _ _ alT 5 al20d al20g al20i al20n (λ _=>0) (λ _=>.slice none 0 0) (λ _=>0) w hF hts (by decide) (λ x hx=>by have:=List.mem_singleton.1 hx;subst this;decide) (by decide +kernel) (by decide +kernel) hst (by omega) (λ j hj=>by decide) (λ j hj=>⟨λ _ _=>0,⟨none,0,rfl,λ i hi=>absurd (show i<0 from hi) (by omega)⟩⟩) (λ j hj=>by omega)).mono ?_
 rintro e w' ⟨P,rb,q,W,cs,rfl,hB,hn,ht,hr⟩
 obtain⟨rfl,r1,r3,r5⟩:=run20 ht hn hr
 obtain⟨f,hs,hc,hst⟩:=hB.sp
 exact⟨P,rb,W,f,rfl,⟨ht,hn⟩,hs,hc,hst,⟨r1,r3,r5⟩,hB.kb.new'⟩

end

section
open Go.RowKit

section
variable {P:Program}

theorem run_append_iv(w:World)(t ty e:TypeId)(i:TypeInfo)(ht:P.underlying t=some (.slice e))(hi:P.info? e=some i)(hz:i.zero=some (.int .i64 0))(hsize:i.size=1)(hby:i.bytes=8)
  (base:Nat) (v:Value) (n:Nat) (xs:List Int) (hown:w.ownsRow base e 1 v n (Fb xs)) (u:Value) (ys:List Int) (hu:IntsIn w u ys) (hle:n+ys.length<=1000000) (hbase:base<=w.heap.size):
  ∃ v' w',(Builtin.append_ #[t,t] ty #[v,u]).run P w=.ok v' w'/\w'.ownsRow base e 1 v' (n+ys.length) (Fb (xs++ys))/\w.grownBy w' v.ownBlock:=by
 obtain⟨a,cap,rfl,hy⟩:=hu
 cases a with
 |none=>
  have h0:ys=[]:=by
   cases ys with
   |nil=>rfl
   |cons y ys=>
    obtain⟨b,o,e,-⟩:=hy 0 (by simp)
    cases e
  subst h0
  refine⟨v,w,Ew w t ty e i ht hi base 1 v n _ hown cap,?_,⟨rfl,rfl,rfl,Nat.le_refl _,λ _ _ _=>rfl⟩⟩
  rw[List.append_nil]
  exact hown
 |some ad=>
  obtain⟨v',w',hr,h2,h3,_,h5⟩:=run_append_own_at (P:=P) w base t ty e i (.int .i64 0) 1 8 ht hi hz hsize hby rfl (by omega) v n (Fb xs) hown ad ys.length cap (Fb ys) (by simp[Fb])
   (by
    intro j u hj
    unfold Fb at hj
    rw[List.getElem?_map] at hj
    obtain⟨y,hyj,rfl⟩:=Option.map_eq_some_iff.1 hj
    obtain⟨b,o,ea,-,hc⟩:=hy j (gE.1 hyj).1
    injection ea with ea
    subst ea
    rw[Addr.add_lit]
    have:=(hc 0 (by omega)).1
    dsimp only at this
    rwa [List.getD_eq_getElem?_getD,hyj,show o+(j*1+0)=o+j by omega] at this)
   (by
    intro u hu
    obtain⟨_,_,rfl⟩:=List.mem_map.1 hu
    rfl) (by unfold maxLen;omega) (by omega) hbase
  refine⟨v',w',hr,?_,h3⟩
  rw[Fb,List.map_append]
  exact h2

theorem Cv(w:World){ops:Array Oper}{rest:List Oper}{o:Oper}{a:Act}{Q:Exit->Act->World->Prop}(hgd:o.guard=none)(s x:Operand)(t:TypeId)
  (ho:o.op=.call {callee:=.builtin .append,args:=#[s,x],argTypes:=#[t,t]}) (e:TypeId) (i:TypeInfo) (ht:P.underlying t=some (.slice e)) (hi:P.info? e=some i) (hz:i.zero=some (.int .i64 0)) (hsize:i.size=1) (hby:i.bytes=8)
  (base:Nat) (v:Value) (n:Nat) (xs:List Int) (hs:a.eval s=v) (hown:w.ownsRow base e 1 v n (Fb xs)) (u:Value) (ys:List Int) (hx:a.eval x=u) (hu:IntsIn w u ys) (hle:n+ys.length<=1000000) (hbase:base<=w.heap.size)
  (h:∀ v' w',w'.ownsRow base e 1 v' (n+ys.length) (Fb (xs++ys))->w.grownBy w' v.ownBlock->wpList P ops Q rest (a.put o.dst v') w'):wpList P ops Q (o::rest) a w:=by
 refine wpList_plain hgd λ K hK=>?_
 obtain⟨v',w',hr,h2,h3⟩:=run_append_iv (P:=P) w t o.type e i ht hi hz hsize hby base v n xs hown u ys hu hle hbase
 unfold Oper.wp execOp
 simp only[ho,resolve,invoke,builtin,Sem.run_bind,Sem.run_pure,Result.andThen_ok,List.map_toArray,List.map_cons,List.map_nil,hs,hx,hr]
 exact hK _ _ (h v' w' h2 h3)

end

end

section
open Go.RowKit Go.WideShapes Go.ChangeShapes Go.Deep

section

variable {H:Type} {enc:TypeId×Value->H} {P:Program}

theorem slice_len{w:World}{base:Nat}{sp:Nat->Bool}{held:Bool}{t e:TypeId}{v:Value}{d:DataW H}{ps:List MemPlace}(ht:P.underlying t=some (.slice e))(hB:1<=P.bytesOf e)(hv:∃ a len cap,v=.slice a len cap)(h:DataW.Trod enc P w base sp held t v d ps)(hw:∀ n∈d.weights P t,n<=reachBytes):
  ∃ a len cap,v=.slice a len cap/\len<=140737488355328:=by
 obtain⟨a,len,cap,rfl⟩:=hv
 obtain⟨fuel,h⟩:=h
 have hcs:(Value.slice a len cap).cells.toList=[.slice a len cap]:=rfl
 rw[hcs] at h
 rcases open_slice ht h with ⟨h0,-⟩|⟨a',len',cap',m,n,D,Pl,h1,h2,h3,h4,h5,h6,h7⟩
 .injection h0 with h0
  injection h0 with h0 h1 h2
  subst h0 h1 h2
  exact⟨_,_,_,rfl,by omega⟩
 .injection h1 with h1
  injection h1 with e1 e2 e3
  subst e1 e2 e3
  have hd:=congrArg Prod.fst h6
  dsimp only at hd
  have hm:len<=m:=by rw[h5];split <;> omega
  refine⟨_,_,_,rfl,?_⟩
  rw[hd] at hw
  have:=hw _ (by simp only[DataW.weights,ht];exact List.mem_cons_self)
  unfold reachBytes at this
  simp only[List.length_map,List.length_range] at this
  have h8:(len+(m-len))*1<=(len+(m-len))*P.bytesOf e:=Nat.mul_le_mul_left _ hB
  omega

theorem open_bytes9{w:World}{base:Nat}{held:Bool}{t e:TypeId}{v:Value}{d:DataW H}{ps:List MemPlace}(ht:P.underlying t=some (.slice e))(he:P.underlying e=some (.int .u8))(hc:P.cellsOf e=1)(hB:1<=P.bytesOf e)(hv:∃ a len cap,v=.slice a len cap)
  (h:DataW.Trod enc P w base (λ _=>true) held t v d ps) (hw:∀ n∈d.weights P t,n<=reachBytes):∃ (len:Nat) (f:Nat->Nat),BytesIn w v len f/\len<=140737488355328:=by
 obtain⟨len,f,hb⟩:=open_bytes8 ht he hc hv h
 obtain⟨a,l,c,e1,e2⟩:=slice_len ht hB hv h hw
 refine⟨len,f,hb,?_⟩
 obtain⟨a',c',e3,-⟩:=hb
 rw[e1] at e3
 injection e3 with _ e4
 omega

theorem open_ints9{w:World}{base:Nat}{sp:Nat->Bool}{held:Bool}{t e:TypeId}{v:Value}{d:DataW H}{ps:List MemPlace}(ht:P.underlying t=some (.slice e))(he:P.underlying e=some (.int .i64))(hC:P.cellsOf e=1)(hB:P.bytesOf e=8)(hv:∃ a len cap,v=.slice a len cap)(h:DataW.Trod enc P w base sp held t v d ps)(hw:∀ n∈d.weights P t,n<=reachBytes):∃ len y,Bw 1 w v len y/\len<=17592186044416:=by
 obtain⟨a,len,cap,rfl⟩:=hv
 obtain⟨fuel,h⟩:=h
 exact open_ints ht he hC hB h hw

end

theorem i64_wf{n:Int}(h:(Lit.int .i64 n).wf=true):-9223372036854775808<=n/\n<9223372036854775808:=by
 have h1:IntKind.i64.min=-9223372036854775808:=by decide
 have h2:IntKind.i64.max=9223372036854775807:=by decide
 simp only[Lit.wf,h1,h2,Bool.and_eq_true,decide_eq_true_eq] at h
 omega

end

end Go.Proofs.YtfkedlgpgmaemaaGreatDoor
