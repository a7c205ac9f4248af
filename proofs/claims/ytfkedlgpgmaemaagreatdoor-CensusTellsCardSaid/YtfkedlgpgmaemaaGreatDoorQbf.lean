/-
  Lemmas for the laws, together: WhyP, MapV, Grp, WhyQ, WhyG, WhyOf, WhyS, WhyFar, WhyWay, WhyH, WhyOnly, WhyOn.
-/
import Derived.Test.YtfkedlgpgmaemaaGreatDoorQbd
import Derived.Test.YtfkedlgpgmaemaaGreatDoorQaa
import Derived.Test.YtfkedlgpgmaemaaGreatDoorProg
import Derived.Maps.Own
import Derived.Maps.OwnSet
import Derived.Maps.RangeWalk
import Derived.Laws.AppendOwn
import Derived.Test.YtfkedlgpgmaemaaGreatDoorQai
import Derived.Test.YtfkedlgpgmaemaaGreatDoorQam
import Derived.Shelf.SlSortCmp.WholeK
import Derived.Sort.OwnSortedInts
import Derived.Shelf.SlSortCmp.NoneTotal
import Derived.Test.YtfkedlgpgmaemaaGreatDoorQbe
set_option linter.unusedVariables false
set_option maxHeartbeats 16000000
namespace Go.Proofs.YtfkedlgpgmaemaaGreatDoor
open Tryz
section
open Go.RowKit

inductive StepsN (es:List (Nat×Nat×Nat)) (rs:List Nat):Nat->Nat->Prop
 |root {g:Nat}:g∈rs->StepsN es rs 0 g
 |step {n:Nat} {e:Nat×Nat×Nat}:StepsN es rs n e.1->e∈es->StepsN es rs (n+1) e.2.2

def AA(es:List (Nat×Nat×Nat))(rs:List Nat)(g:Nat):Prop:=∃ n,StepsN es rs n g

structure RI(pre Q:List Nat)(D:Nat->Option Nat):Prop where
 all:∀ g n,D g=some n ↔ n=0/\g∈pre
 q:∀ g,g∈Q ↔ g∈pre

structure BI(es:List (Nat×Nat×Nat))(rs:List Nat)(l:List (Nat×Nat×Nat))(lo:Nat)(Q:List Nat)(D:Nat->Option Nat):Prop where
 snd:∀ g n,D g=some n->StepsN es rs n g
 rt:∀ g∈rs,D g=some 0
 fol:∀ e∈es,∀ m,D e.1=some m->e.1∈Q\/e∈l\/∃ k,D e.2.2=some k/\k<=m+1
 inq:∀ g∈Q,∃ m,D g=some m/\lo<=m
 hi:∀ g m,D g=some m->m<=lo+1
 srt:Q.Pairwise (λ a b=>∀ m k,D a=some m->D b=some k->m<=k)

def outE(es:List (Nat×Nat×Nat))(x:Nat):List (Nat×Nat×Nat):=es.filter λ e=>e.1==x

structure WI(es:List (Nat×Nat×Nat))(rs pre:List Nat)(l:List (Nat×Nat×Nat))(Q:List Nat)(f:Nat->Bool):Prop where
 snd:∀ g,f g=true->AA es rs g
 rt:∀ g∈pre,f g=true
 fol:∀ e∈es,f e.1=true->e.1∈Q\/e∈l\/f e.2.2=true
 inq:∀ g∈Q,f g=true

def updB(f:Nat->Bool)(g:Nat):Nat->Bool:=λ x=>if x=g then true else f x

theorem updB_true{f:Nat->Bool}{g x:Nat}:updB f g x=true ↔ x=g\/f x=true:=by
 unfold updB
 by_cases h:x=g <;> simp[h]

theorem reach_marks{P:Sp}{W:Nat->Nat}{f:Nat->Bool}{cs:List Cel}(b:CellsAt P W cs)(c:∀ i,i<P.n/2->f i=Ak cs i){rs:List Nat}(k:∀ g∈rs,CL cs g)(g:Nat):
  MReach (DU f (P.n/2) P.ts W cs) (λ g=>g∈rs) g ↔ AA (AP P.ts W cs) rs g:=by
 constructor
 .intro d
  have:CL cs g/\AA (AP P.ts W cs) rs g:=by
   induction d with
   |root hg=>exact ⟨k _ hg,0,.root hg⟩
   |@step x y _ hk ih=>
    obtain⟨m,n,j⟩:=ih
    obtain⟨e,a,rfl,rfl⟩:=kid_edge b c m hk
    exact⟨(Ep b c a).2.1,n+1,.step j a⟩
  exact this.2
 .rintro ⟨n,l⟩
  induction l with
  |root hg=>exact .root hg
  |@step n e _ a ih=>exact .step ih (Ep b c a).2.2

end

section
open Go.RowKit Go.Maps

theorem wfN{g:Nat}(c:g<9223372036854775808):(Lit.int .i64 (g:Int)).wf=true:=by
 have a:IntKind.i64.min=-9223372036854775808:=by decide
 have b:IntKind.i64.max=9223372036854775807:=by decide
 simp only[Lit.wf,a,b,Bool.and_eq_true,decide_eq_true_eq]
 omega

theorem wfN_inv{x:Int}(a:(Lit.int .i64 x).wf=true):x<9223372036854775808:=by
 have b:IntKind.i64.min=-9223372036854775808:=by decide
 have c:IntKind.i64.max=9223372036854775807:=by decide
 simp only[Lit.wf,b,c,Bool.and_eq_true,decide_eq_true_eq] at a
 omega

def heldE(v:Value):Option (DataW Value×List MemPlace):=some (.held v,[])

section
variable {P:Program} {ki:TypeId}

def Ca(P:Program)(ki:TypeId)(w:World)(b n:Nat)(c:Nat->Option Value):Prop:=
 ∃ D:DataW Value,w.ownsMap P ki heldE b n D/\(∀ g:Nat,g<9223372036854775808->∀ zd,D.atKey (.int .i64 g) zd=((c g).map DataW.held).getD zd)/\∀ x:Int,x<0->∀ zd,D.atKey (.int .i64 x) zd=zd

theorem Ca.made(w:World):Ca P ki (w.alloc (.map #[] 0)) w.heap.size 0 (λ _=>none):=
 ⟨.map [],World.ownsMap_made w _ _ _,λ g _ zd=>rfl,λ x _ zd=>rfl⟩

theorem Ca.lt{w:World}{b n:Nat}{c:Nat->Option Value}(a:Ca P ki w b n c):b<w.heap.size:=by
 obtain⟨e,d,-⟩:=a
 exact d.lt

theorem Ca.keep{S:Nat->Prop}{w w':World}{b n:Nat}{c:Nat->Option Value}(d:Ca P ki w b n c)(k:Kp S w w')(i:¬ S b):Ca P ki w' b n c:=by
 obtain⟨a,⟨es,clock,e,f⟩,g⟩:=d
 exact⟨a,⟨es,clock,k.at_ e i,f⟩,g⟩

theorem Ca.look(f:P.underlying ki=some (.int .i64)){w:World}{b n:Nat}{c:Nat->Option Value}(j:Ca P ki w b n c){g:Nat}(d:g<9223372036854775808){t e:TypeId}(o:P.underlying t=some (.map ki e)){z:Value}(p:(zeroValue e).run P w=.ok z w):
  (Instr.lookup t (.map (some b)) (.int .i64 g) false).run P w=.ok ((c g).getD z) w:=by
 obtain⟨q,k,l,-⟩:=j
 obtain⟨v,ps,m,i⟩:=k.lookup (int_keyed f) o p (zd:=.held z) (zp:=[]) rfl (keyOf_int_mk f (wfN d))
 rw[l g d] at i
 rw[m]
 have a:some (DataW.held v,([]:List MemPlace))=some (((c g).map DataW.held).getD (.held z),ps):=i
 injection a with a
 injection a with a _
 cases e:c g with
 |none=>rw [e] at a;injection a with a;rw [a];rfl
 |some u=>rw [e] at a;injection a with a;rw [a];rfl

theorem Ca.has_eq{b:DataW Value}{c:Nat->Option Value}(d:∀ g:Nat,g<9223372036854775808->∀ zd,b.atKey (.int .i64 g) zd=((c g).map DataW.held).getD zd){g:Nat}(f:g<9223372036854775808):has b (.int .i64 g)=(c g).isSome:=by
 have a:=d g f
 cases e:c g with
 |none=>
  rw[e] at a
  exact has_false_of_atKey a
 |some u=>
  rw[e] at a
  exact has_true_of_atKey a

theorem Ca.lookOk(i:P.underlying ki=some (.int .i64)){w:World}{b n:Nat}{c:Nat->Option Value}(k:Ca P ki w b n c){g:Nat}(d:g<9223372036854775808){t e:TypeId}(p:P.underlying t=some (.map ki e)){z:Value}(q:(zeroValue e).run P w=.ok z w):
  (Instr.lookup t (.map (some b)) (.int .i64 g) true).run P w=.ok (.tuple #[(c g).getD z,.bool (c g).isSome]) w:=by
 obtain⟨r,l,f,-⟩:=k
 obtain⟨v,ps,o,j⟩:=l.look_ok (int_keyed i) p q (zd:=.held z) (zp:=[]) rfl (keyOf_int_mk i (wfN d))
 have m:=Ca.has_eq f d
 rw[f g d] at j
 rw[o,m]
 have a:some (DataW.held v,([]:List MemPlace))=some (((c g).map DataW.held).getD (.held z),ps):=j
 injection a with a
 injection a with a _
 cases e:c g with
 |none=>rw [e] at a;injection a with a;rw [a];rfl
 |some u=>rw [e] at a;injection a with a;rw [a];rfl

theorem Ca.put(j:P.underlying ki=some (.int .i64)){w:World}{b n:Nat}{c:Nat->Option Value}(m:Ca P ki w b n c)(r:n<maxLen){g:Nat}(q:g<9223372036854775808)(v:Value){t e:TypeId}(z:P.underlying t=some (.map ki e)):
  ∃ w',(Instr.mapUpdate t (.map (some b)) (.int .i64 g) v).run P w=.ok () w'/\Ca P ki w' b (n+1) (λ x=>if x=g then some v else c x)/\Kp (λ k=>k=b) w w'/\w'.heap.size=w.heap.size:=by
 obtain⟨A,f,o,p⟩:=m
 have K:=int_keyed j
 have l:=keyOf_int_mk j (wfN q)
 obtain⟨w',u,s,i⟩:=f.store K z r l (d:=.held v) (ps:=[]) rfl
 have y:w'.heap.size=w.heap.size:=by
  obtain⟨es,clock,C,B,D,rfl⟩:=i
  simp[Go.ChangeMaps.setBlock]
 refine⟨w',u,⟨_,s,λ x a zd=>?_,λ x a zd=>?_⟩,(Kr _ w).grown i.grown (λ k e _=>by injection e with e;exact e.symm),y⟩
 .by_cases ex:x=g
  .subst ex
   rw[Maps.atKey_put_same f.isMap (K.key l)]
   simp
  .rw [Maps.atKey_put_other (λ e=>ex (by injection e with _ e;omega)),o x a]
   simp[ex]
 .rw [Maps.atKey_put_other (λ e=>by injection e with _ e;omega),p x a]

theorem Ca.mono{w:World}{b n m:Nat}{c:Nat->Option Value}(d:Ca P ki w b n c)(g:n<=m):Ca P ki w b m c:=by
 obtain⟨a,e,f⟩:=d
 exact⟨a,e.mono g,f⟩

end

def BS(w:World)(b n:Nat)(c:Nat->Option Value):Prop:=Ca prog 3 w b n c

theorem BS.made(w:World):BS (w.alloc (.map #[] 0)) w.heap.size 0 (λ _=>none):=Ca.made w

theorem BS.lt{w:World}{b n:Nat}{c:Nat->Option Value}(h:BS w b n c):b<w.heap.size:=Ca.lt h

theorem BS.keep{S:Nat->Prop}{w w':World}{b n:Nat}{c:Nat->Option Value}(a:BS w b n c)(k:Kp S w w')(d:¬ S b):BS w' b n c:=Ca.keep a k d

theorem BS.look{w:World}{b n:Nat}{c:Nat->Option Value}(a:BS w b n c){g:Nat}(d:g<9223372036854775808){t e:TypeId}(f:prog.underlying t=some (.map 3 e)){z:Value}(i:(zeroValue e).run prog w=.ok z w):
  (Instr.lookup t (.map (some b)) (.int .i64 g) false).run prog w=.ok ((c g).getD z) w:=Ca.look underlying3 a d f i

theorem BS.lookOk{w:World}{b n:Nat}{c:Nat->Option Value}(a:BS w b n c){g:Nat}(d:g<9223372036854775808){t e:TypeId}(f:prog.underlying t=some (.map 3 e)){z:Value}(i:(zeroValue e).run prog w=.ok z w):
  (Instr.lookup t (.map (some b)) (.int .i64 g) true).run prog w=.ok (.tuple #[(c g).getD z,.bool (c g).isSome]) w:=Ca.lookOk underlying3 a d f i

theorem BS.put{w:World}{b n:Nat}{c:Nat->Option Value}(a:BS w b n c)(f:n<maxLen){g:Nat}(d:g<9223372036854775808)(v:Value){t e:TypeId}(i:prog.underlying t=some (.map 3 e)):
  ∃ w',(Instr.mapUpdate t (.map (some b)) (.int .i64 g) v).run prog w=.ok () w'/\BS w' b (n+1) (λ x=>if x=g then some v else c x)/\Kp (λ k=>k=b) w w'/\w'.heap.size=w.heap.size:=Ca.put underlying3 a f d v i

theorem BS.mono{w:World}{b n m:Nat}{c:Nat->Option Value}(a:BS w b n c)(d:n<=m):BS w b m c:=Ca.mono a d

def CollI(D:DataW Value)(left:Lit->Bool)(ss:List Nat):Prop:=ss.Nodup/\∀ x:Nat,x∈ss ↔ x<9223372036854775808/\has D (.int .i64 x)=true/\left (.int .i64 x)=false

theorem CollI.start(D:DataW Value):CollI D (has D) []:=⟨List.nodup_nil,λ x=>by cases has D (.int .i64 (x:Nat)) <;> simp⟩

theorem CollI.step{c:DataW Value}{left:Lit->Bool}{f:List Nat}(d:CollI c left f){x:Nat}(o:x<9223372036854775808){y:DataW Value}(l:left (.int .i64 x)=true)(j:∀ zd,c.atKey (.int .i64 x) zd=y):CollI c (λ z=>left z&& !z.sameKey (.int .i64 x)) (f++[x]):=by
 have k:has c (.int .i64 x)=true:=has_true_of_atKey j
 have n:x ∉ f:=λ m=>by have:=((d.2 x).1 m).2.2;rw [l] at this;cases this
 refine⟨List.nodup_append.2 ⟨d.1,by simp,λ a i b g=>by simp at g;subst g;exact λ e=>n (e▸i)⟩,λ y=>?_⟩
 by_cases hy:y=x
 .subst hy;simp [k,Lit.sameKey,o]
 .have p:¬ (y:Int)=(x:Int):=by omega
  simp[d.2 y,hy,p,Lit.sameKey]

theorem ranges_keepI{P:Program}{k:TypeId}{R:Value->Option (DataW Value×List MemPlace)}{b r n:Nat}{a:DataW Value}{left:Lit->Bool}{cnt:Nat}{S:Nat->Prop}{w w':World}(d:w.ranges P k R b r n a left cnt)(c:Kp S w w')(e:¬ S b)(f:¬ S r):w'.ranges P k R b r n a left cnt:=by
 obtain⟨es,clock,since,m,c0,i,F,l,g,j,rest⟩:=d
 exact⟨es,clock,since,m,c0,c.at_ i e,F,l,g,c.at_ j f,rest⟩

def QRow(T:TypeId)(w:World)(c0:Nat)(v:Value)(xs:List Nat):Prop:=
 (v=.slice none 0 0/\xs=[])\/
 ∃ g o cap cur,v=.slice (some ⟨g,o,none⟩) xs.length cap/\c0<=g/\w.heap[g]?=some (.cells cur T (0,0))/\xs.length<=cap/\cap<=maxLen/\o+cap<=cur.size/\∀ i x,xs[i]?=some x->cur[o+i]?=some (.int .i64 (x:Nat))

end

section
open Go.RowKit

structure Grp{α:Type}(T:TypeId)(sz:Nat)(enc:α->List Value)(w:World)(c0:Nat)(mm:Bool->Nat)(vs:Bool->Nat->Value)(ls:Bool->Nat->List α)(n:Nat):Prop where
 mp:∀ s,∃ c,BS w (mm s) n c/\∀ k,(c k).getD (.slice none 0 0)=vs s k
 row:∀ s k,w.ownsRow c0 T sz (vs s k) (ls s k).length ((ls s k).flatMap enc)
 ap:∀ s k s' k' b,(vs s k).ownBlock=some b->(vs s' k').ownBlock=some b->s=s'/\k=k'
 ne:¬ mm true=mm false
 lt:∀ s,mm s<c0

section

variable {α:Type} {T:TypeId} {sz:Nat} {enc:α->List Value} {w:World} {c0 n:Nat} {mm:Bool->Nat} {vs:Bool->Nat->Value} {ls:Bool->Nat->List α}

end

end

section
open Go.RowKit

def QAt(w:World)(b c0:Nat)(xs:List Nat):Prop:=b<c0/\∃ v,w.heap[b]?=some (.cells #[v] 237 (0,0))/\QRow 3 w c0 v xs

end

section
open Go.RowKit

def farV(D:Nat->Option Nat):Nat->Option Value:=λ g=>(D g).map λ d=>.int .i64 (d:Nat)

def cntN(D:Nat->Option Nat)(H:Nat):Nat:=(List.range H).countP λ g=>(D g).isNone

end

section
open Go.RowKit

structure FarI(w6:World)(mf qb H:Nat)(Q:List Nat)(D:Nat->Option Nat)(wr:World):Prop where
 mp:∃ n,n+cntN D H<=H/\BS wr mf n (farV D)
 q:QAt wr qb (qb+1) Q
 le:Q.length+cntN D H<=H
 lt:∀ g d,D g=some d->g<H/\d+cntN D H<=H
 kp:Kp (λ b=>b=mf) w6 wr
 z:qb<wr.heap.size

end

section
open Go.RowKit Go.Sort Go.Shelf

end

section
open Go.RowKit Go.Maps

theorem setL_mem{f:Nat->Bool}{H g:Nat}:g∈Bo f H ↔ g<H/\f g=true:=by
 unfold Bo
 rw[List.mem_filter,List.mem_range]

theorem setL_up(f:Nat->Bool)(H:Nat):(Bo f H).Pairwise (· <·):=by
 unfold Bo
 exact List.Pairwise.filter _ List.pairwise_lt_range

theorem FX:∀ (H:Nat) (b:List Nat),b.Nodup->(∀ g∈b,g<H)->b.length<=H
 |0,[],_,_=>Nat.le_refl _
 |0,a::b,_,h=>absurd (h a (by simp)) (by omega)
 |H+1,b,hn,h=>by
  by_cases hm:H∈b
  .have d:=FX H (b.erase H) (hn.erase H) (λ g c=>by
    obtain⟨j,f⟩:=hn.mem_erase_iff.1 c
    have:=h g f
    omega)
   rw[List.length_erase_of_mem hm] at d
   omega
  .have d:=FX H b hn (λ g c=>by
    have i:=h g c
    have:¬ g=H:=λ e=>hm (e▸c)
    omega)
   omega

theorem BS.entry{c:Nat->Option Value}{d:DataW Value}(l:∀ g:Nat,g<9223372036854775808->∀ zd,d.atKey (.int .i64 g) zd=((c g).map DataW.held).getD zd)(m:∀ x:Int,x<0->∀ zd,d.atKey (.int .i64 x) zd=zd){x:Int}{e:Value}{y:DataW Value×List MemPlace}(n:(Lit.int .i64 x).wf=true)(b:heldE e=some y)(i:∀ zd,d.atKey (.int .i64 x) zd=y.1):
  ∃ g:Nat,x=(g:Int)/\g<9223372036854775808/\c g=some e:=by
 have o:=wfN_inv n
 have j:0<=x:=by
  by_cases h:0<=x
  .exact h
  .have f:=has_true_of_atKey i
   have a:=has_false_of_atKey (m x (by omega))
   rw[f] at a
   cases a
 obtain⟨g,rfl⟩:=Int.eq_ofNat_of_zero_le j
 refine⟨g,rfl,by omega,?_⟩
 have f:=i (.nil)
 have a:=l g (by omega) .nil
 rw[f] at a
 have k:y.1=.held e:=by
  unfold heldE at b
  injection b with b
  rw[<- b]
 rw[k] at a
 cases hc:c g with
 |none=>rw [hc] at a;cases a
 |some u=>rw [hc] at a;injection a with a;rw [a]

theorem BS.has_eqP{a:DataW Value}{c:Nat->Option Value}(b:∀ g:Nat,g<9223372036854775808->∀ zd,a.atKey (.int .i64 g) zd=((c g).map DataW.held).getD zd){g:Nat}(d:g<9223372036854775808):has a (.int .i64 g)=(c g).isSome:=Ca.has_eq b d

end

section
open Go.RowKit

end

section
open Go.RowKit

end

section
open Go.RowKit
attribute [local go_sem ↓] run_neq_edge

def cntF(f:Nat->Bool)(H:Nat):Nat:=(List.range H).countP λ g=> !f g

theorem cntF_upd{f:Nat->Bool}{g:Nat}(a:f g=false):∀ {H:Nat},g<H->cntF (updB f g) H+1=cntF f H
 |0,h=>by omega
 |H+1,h=>by
  unfold cntF
  rw[List.range_succ,List.countP_append,List.countP_append]
  by_cases e:g=H
  .subst e
   have:(List.range g).countP (λ x=> !updB f g x)=(List.range g).countP λ x=> !f x:=by
    refine List.countP_congr λ x b=>?_
    have:=List.mem_range.1 b
    unfold updB
    rw[if_neg (by omega)]
   rw[this]
   simp[updB,a]
  .have c:=cntF_upd a (H:=H) (by omega)
   unfold cntF at c
   have:updB f g H=f H:=by unfold updB;rw [if_neg (by omega)]
   simp only[List.countP_singleton,this]
   omega

theorem setF_upd{f:Nat->Bool}{H g:Nat}(d:g<H)(c:H<=65536):Ex f H (g:Int) 1 true=updB f g:=by
 funext x
 unfold Ex updB
 rw[if_pos (by unfold Bz;simp;omega)]
 unfold Ck
 by_cases e:x=g
 .subst e
  simp
 .rw [if_neg e]
  simp
  intro a b
  omega

structure VisI(w:World)(xb bb p q qb H:Nat)(xe:Nat×Nat×Nat)(Q:List Nat)(f:Nat->Bool)(wr:World):Prop where
 xbox:wr.heap[xb]?=some (.cells #[xe.1,xe.2.1,xe.2.2] 70 (0,0))
 box:wr.heap[bb]?=some (.cells #[.pointer (some p)] 120 (0,0))
 bt:AL wr p q f H
 qa:QAt wr qb (qb+1) Q
 le:Q.length+cntF f H<=H
 kn:Kp Aa w wr
 z:qb<wr.heap.size
 ne:xb<qb/\bb<qb/\p<qb/\q<qb/\¬ xb=q/\¬ bb=q/\w.heap.size<=q/\w.heap.size<=qb

end

section
open Go.RowKit

end

end Go.Proofs.YtfkedlgpgmaemaaGreatDoor
