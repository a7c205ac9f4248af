/-
  Lemmas for the laws, together: WhyP, MapV, Grp, WhyQ, WhyG, WhyOf, WhyS, WhyFar, WhyWay, WhyH, WhyOnly, WhyOn.
-/
import Derived.Test.YtfkedlgpgmaemaaGreatDoorQbd
import Derived.Test.YtfkedlgpgmaemaaGreatDoorQaa
import Derived.Test.YtfkedlgpgmaemaaGreatDoorProg
import Derived.Maps.Own
import Derived.Maps.OwnSet
import Derived.Maps.RangeWalk
import Derived.Laws.AppendOwn
import Derived.Test.YtfkedlgpgmaemaaGreatDoorQai
import Derived.Test.YtfkedlgpgmaemaaGreatDoorQam
import Derived.Shelf.SlSortCmp.WholeK
import Derived.Sort.OwnSortedInts
import Derived.Shelf.SlSortCmp.NoneTotal
import Derived.Test.YtfkedlgpgmaemaaGreatDoorQbe
set_option linter.unusedVariables false
set_option maxHeartbeats 16000000
namespace Go.Proofs.YtfkedlgpgmaemaaGreatDoor
open Tryz
section
open Go.RowKit

inductive StepsN (es:List (Nat×Nat×Nat)) (rs:List Nat):Nat->Nat->Prop
 |root {g:Nat}:g∈rs->StepsN es rs 0 g
 |step {n:Nat} {e:Nat×Nat×Nat}:StepsN es rs n e.1->e∈es->StepsN es rs (n+1) e.2.2

def AA(es:List (Nat×Nat×Nat))(rs:List Nat)(g:Nat):Prop:=∃ n,StepsN es rs n g

structure RI(pre Q:List Nat)(D:Nat->Option Nat):Prop where
 all:∀ g n,D g=some n ↔ n=0/\g∈pre
 q:∀ g,g∈Q ↔ g∈pre

structure BI(es:List (Nat×Nat×Nat))(rs:List Nat)(l:List (Nat×Nat×Nat))(lo:Nat)(Q:List Nat)(D:Nat->Option Nat):Prop where
 snd:∀ g n,D g=some n->StepsN es rs n g
 rt:∀ g∈rs,D g=some 0
 fol:∀ e∈es,∀ m,D e.1=some m->e.1∈Q\/e∈l\/∃ k,D e.2.2=some k/\k<=m+1
 inq:∀ g∈Q,∃ m,D g=some m/\lo<=m
 hi:∀ g m,D g=some m->m<=lo+1
 srt:Q.Pairwise (λ a b=>∀ m k,D a=some m->D b=some k->m<=k)

def outE(es:List (Nat×Nat×Nat))(x:Nat):List (Nat×Nat×Nat):=es.filter λ e=>e.1==x

structure WI(es:List (Nat×Nat×Nat))(rs pre:List Nat)(l:List (Nat×Nat×Nat))(Q:List Nat)(f:Nat->Bool):Prop where
 snd:∀ g,f g=true->AA es rs g
 rt:∀ g∈pre,f g=true
 fol:∀ e∈es,f e.1=true->e.1∈Q\/e∈l\/f e.2.2=true
 inq:∀ g∈Q,f g=true

def updB(f:Nat->Bool)(g:Nat):Nat->Bool:=λ x=>if x=g then true else f x

theorem updB_true{f:Nat->Bool}{g x:Nat}:updB f g x=true ↔ x=g\/f x=true:=by
 unfold updB
 by_cases h:x=g <;> simp[h]

theorem reach_marks{P:Sp}{W:Nat->Nat}{f:Nat->Bool}{cs:List Cel}(hc:CellsAt P W cs)(hst:∀ i,i<P.n/2->f i=Ap cs i){rs:List Nat}(ho:∀ g∈rs,De cs g)(g:Nat):
  MReach (Du f (P.n/2) P.ts W cs) (λ g=>g∈rs) g ↔ AA (AP P.ts W cs) rs g:=by
 constructor
 .intro h
  have:De cs g/\AA (AP P.ts W cs) rs g:=by
   induction h with
   |root hg=>exact ⟨ho _ hg,0,.root hg⟩
   |@step x y _ hk ih=>
    obtain⟨ih1,n,hn⟩:=ih
    obtain⟨e,he,rfl,rfl⟩:=kid_edge hc hst ih1 hk
    exact⟨(EF hc hst he).2.1,n+1,.step hn he⟩
  exact this.2
 .rintro ⟨n,hs⟩
  induction hs with
  |root hg=>exact .root hg
  |@step n e _ he ih=>exact .step ih (EF hc hst he).2.2

end

section
open Go.RowKit Go.Maps

theorem wfN{g:Nat}(h:g<9223372036854775808):(Lit.int .i64 (g:Int)).wf=true:=by
 have h1:IntKind.i64.min=-9223372036854775808:=by decide
 have h2:IntKind.i64.max=9223372036854775807:=by decide
 simp only[Lit.wf,h1,h2,Bool.and_eq_true,decide_eq_true_eq]
 omega

theorem wfN_inv{x:Int}(h:(Lit.int .i64 x).wf=true):x<9223372036854775808:=by
 have h1:IntKind.i64.min=-9223372036854775808:=by decide
 have h2:IntKind.i64.max=9223372036854775807:=by decide
 simp only[Lit.wf,h1,h2,Bool.and_eq_true,decide_eq_true_eq] at h
 omega

def heldE(v:Value):Option (DataW Value×List MemPlace):=some (.held v,[])

section
variable {P:Program} {ki:TypeId}

def Ck(P:Program)(ki:TypeId)(w:World)(b n:Nat)(c:Nat->Option Value):Prop:=
 ∃ D:DataW Value,w.ownsMap P ki heldE b n D/\(∀ g:Nat,g<9223372036854775808->∀ zd,D.atKey (.int .i64 (g:Nat)) zd=((c g).map DataW.held).getD zd)/\∀ x:Int,x<0->∀ zd,D.atKey (.int .i64 x) zd=zd

theorem Ck.made(w:World):Ck P ki (w.alloc (.map #[] 0)) w.heap.size 0 (λ _=>none):=
 ⟨.map [],World.ownsMap_made w _ _ _,λ g _ zd=>rfl,λ x _ zd=>rfl⟩

theorem Ck.lt{w:World}{b n:Nat}{c:Nat->Option Value}(h:Ck P ki w b n c):b<w.heap.size:=by
 obtain⟨D,h1,-⟩:=h
 exact h1.lt

theorem Ck.keep{S:Nat->Prop}{w w':World}{b n:Nat}{c:Nat->Option Value}(h:Ck P ki w b n c)(k:Kp S w w')(hb:¬ S b):Ck P ki w' b n c:=by
 obtain⟨D,⟨es,clock,h1,h2⟩,h3⟩:=h
 exact⟨D,⟨es,clock,k.at_ h1 hb,h2⟩,h3⟩

theorem Ck.look(hk:P.underlying ki=some (.int .i64)){w:World}{b n:Nat}{c:Nat->Option Value}(h:Ck P ki w b n c){g:Nat}(hg:g<9223372036854775808){t e:TypeId}(ht:P.underlying t=some (.map ki e)){z:Value}(hz:(zeroValue e).run P w=.ok z w):
  (Instr.lookup t (.map (some b)) (.int .i64 (g:Nat)) false).run P w=.ok ((c g).getD z) w:=by
 obtain⟨D,h1,h2,-⟩:=h
 obtain⟨v,ps,hrun,hv⟩:=h1.lookup (int_keyed hk) ht hz (zd:=.held z) (zp:=[]) rfl (keyOf_int_mk hk (wfN hg))
 rw[h2 g hg] at hv
 rw[hrun]
 have hv':some (DataW.held v,([]:List MemPlace))=some (((c g).map DataW.held).getD (.held z),ps):=hv
 injection hv' with hv'
 injection hv' with hv' _
 cases e:c g with
 |none=>rw [e] at hv';injection hv' with hv';rw [hv'];rfl
 |some u=>rw [e] at hv';injection hv' with hv';rw [hv'];rfl

theorem Ck.has_eq{D:DataW Value}{c:Nat->Option Value}(h:∀ g:Nat,g<9223372036854775808->∀ zd,D.atKey (.int .i64 (g:Nat)) zd=((c g).map DataW.held).getD zd){g:Nat}(hg:g<9223372036854775808):has D (.int .i64 (g:Nat))=(c g).isSome:=by
 have h2:=h g hg
 cases e:c g with
 |none=>
  rw[e] at h2
  exact has_false_of_atKey h2
 |some u=>
  rw[e] at h2
  exact has_true_of_atKey h2

theorem Ck.lookOk(hk:P.underlying ki=some (.int .i64)){w:World}{b n:Nat}{c:Nat->Option Value}(h:Ck P ki w b n c){g:Nat}(hg:g<9223372036854775808){t e:TypeId}(ht:P.underlying t=some (.map ki e)){z:Value}(hz:(zeroValue e).run P w=.ok z w):
  (Instr.lookup t (.map (some b)) (.int .i64 (g:Nat)) true).run P w=.ok (.tuple #[(c g).getD z,.bool (c g).isSome]) w:=by
 obtain⟨D,h1,h2,-⟩:=h
 obtain⟨v,ps,hrun,hv⟩:=h1.look_ok (int_keyed hk) ht hz (zd:=.held z) (zp:=[]) rfl (keyOf_int_mk hk (wfN hg))
 have hh:=Ck.has_eq h2 hg
 rw[h2 g hg] at hv
 rw[hrun,hh]
 have hv':some (DataW.held v,([]:List MemPlace))=some (((c g).map DataW.held).getD (.held z),ps):=hv
 injection hv' with hv'
 injection hv' with hv' _
 cases e:c g with
 |none=>rw [e] at hv';injection hv' with hv';rw [hv'];rfl
 |some u=>rw [e] at hv';injection hv' with hv';rw [hv'];rfl

theorem Ck.put(hk:P.underlying ki=some (.int .i64)){w:World}{b n:Nat}{c:Nat->Option Value}(h:Ck P ki w b n c)(hn:n<maxLen){g:Nat}(hg:g<9223372036854775808)(v:Value){t e:TypeId}(ht:P.underlying t=some (.map ki e)):
  ∃ w',(Instr.mapUpdate t (.map (some b)) (.int .i64 (g:Nat)) v).run P w=.ok () w'/\Ck P ki w' b (n+1) (λ x=>if x=g then some v else c x)/\Kp (λ k=>k=b) w w'/\w'.heap.size=w.heap.size:=by
 obtain⟨D,h1,h2,h3⟩:=h
 have K:=int_keyed hk
 have hkk:=keyOf_int_mk hk (wfN hg)
 obtain⟨w',hrun,ho,hgr⟩:=h1.store K ht hn hkk (d:=.held v) (ps:=[]) rfl
 have hsz:w'.heap.size=w.heap.size:=by
  obtain⟨es,clock,es',clock',hb,rfl⟩:=hgr
  simp[Go.ChangeMaps.setBlock]
 refine⟨w',hrun,⟨_,ho,λ x hx zd=>?_,λ x hx zd=>?_⟩,(Kr _ w).grown hgr.grown (λ k e _=>by injection e with e;exact e.symm),hsz⟩
 .by_cases ex:x=g
  .subst ex
   rw[Maps.atKey_put_same h1.isMap (K.key hkk)]
   simp
  .rw [Maps.atKey_put_other (λ e=>ex (by injection e with _ e;omega)),h2 x hx]
   simp[ex]
 .rw [Maps.atKey_put_other (λ e=>by injection e with _ e;omega),h3 x hx]

theorem Ck.mono{w:World}{b n m:Nat}{c:Nat->Option Value}(h:Ck P ki w b n c)(hm:n<=m):Ck P ki w b m c:=by
 obtain⟨D,h1,h2⟩:=h
 exact⟨D,h1.mono hm,h2⟩

end

def Bu(w:World)(b n:Nat)(c:Nat->Option Value):Prop:=Ck prog 3 w b n c

theorem Bu.made(w:World):Bu (w.alloc (.map #[] 0)) w.heap.size 0 (λ _=>none):=Ck.made w

theorem Bu.lt{w:World}{b n:Nat}{c:Nat->Option Value}(h:Bu w b n c):b<w.heap.size:=Ck.lt h

theorem Bu.keep{S:Nat->Prop}{w w':World}{b n:Nat}{c:Nat->Option Value}(h:Bu w b n c)(k:Kp S w w')(hb:¬ S b):Bu w' b n c:=Ck.keep h k hb

theorem Bu.look{w:World}{b n:Nat}{c:Nat->Option Value}(h:Bu w b n c){g:Nat}(hg:g<9223372036854775808){t e:TypeId}(ht:prog.underlying t=some (.map 3 e)){z:Value}(hz:(zeroValue e).run prog w=.ok z w):
  (Instr.lookup t (.map (some b)) (.int .i64 (g:Nat)) false).run prog w=.ok ((c g).getD z) w:=Ck.look underlying3 h hg ht hz

theorem Bu.lookOk{w:World}{b n:Nat}{c:Nat->Option Value}(h:Bu w b n c){g:Nat}(hg:g<9223372036854775808){t e:TypeId}(ht:prog.underlying t=some (.map 3 e)){z:Value}(hz:(zeroValue e).run prog w=.ok z w):
  (Instr.lookup t (.map (some b)) (.int .i64 (g:Nat)) true).run prog w=.ok (.tuple #[(c g).getD z,.bool (c g).isSome]) w:=Ck.lookOk underlying3 h hg ht hz

theorem Bu.put{w:World}{b n:Nat}{c:Nat->Option Value}(h:Bu w b n c)(hn:n<maxLen){g:Nat}(hg:g<9223372036854775808)(v:Value){t e:TypeId}(ht:prog.underlying t=some (.map 3 e)):
  ∃ w',(Instr.mapUpdate t (.map (some b)) (.int .i64 (g:Nat)) v).run prog w=.ok () w'/\Bu w' b (n+1) (λ x=>if x=g then some v else c x)/\Kp (λ k=>k=b) w w'/\w'.heap.size=w.heap.size:=Ck.put underlying3 h hn hg v ht

theorem Bu.mono{w:World}{b n m:Nat}{c:Nat->Option Value}(h:Bu w b n c)(hm:n<=m):Bu w b m c:=Ck.mono h hm

def CollI(D:DataW Value)(left:Lit->Bool)(ss:List Nat):Prop:=ss.Nodup/\∀ x:Nat,x∈ss ↔ x<9223372036854775808/\has D (.int .i64 (x:Nat))=true/\left (.int .i64 (x:Nat))=false

theorem CollI.start(D:DataW Value):CollI D (has D) []:=⟨List.nodup_nil,λ x=>by cases has D (.int .i64 (x:Nat)) <;> simp⟩

theorem CollI.step{D:DataW Value}{left:Lit->Bool}{ss:List Nat}(h:CollI D left ss){x:Nat}(hx:x<9223372036854775808){y:DataW Value}(hlk:left (.int .i64 (x:Nat))=true)(hat:∀ zd,D.atKey (.int .i64 (x:Nat)) zd=y):CollI D (λ z=>left z&& !z.sameKey (.int .i64 (x:Nat))) (ss++[x]):=by
 have hhas:has D (.int .i64 (x:Nat))=true:=has_true_of_atKey hat
 have hnew:x ∉ ss:=λ hm=>by have:=((h.2 x).1 hm).2.2;rw [hlk] at this;cases this
 refine⟨List.nodup_append.2 ⟨h.1,by simp,λ a ha b hb=>by simp at hb;subst hb;exact λ e=>hnew (e▸ha)⟩,λ y=>?_⟩
 by_cases hy:y=x
 .subst hy;simp [hhas,Lit.sameKey,hx]
 .have hy':¬ (y:Int)=(x:Int):=by omega
  simp[h.2 y,hy,hy',Lit.sameKey]

theorem ranges_keepI{P:Program}{k:TypeId}{R:Value->Option (DataW Value×List MemPlace)}{b r n:Nat}{D:DataW Value}{left:Lit->Bool}{cnt:Nat}{S:Nat->Prop}{w w':World}(h:w.ranges P k R b r n D left cnt)(hk:Kp S w w')(h1:¬ S b)(h2:¬ S r):w'.ranges P k R b r n D left cnt:=by
 obtain⟨es,clock,since,seen,c0,hb,F,hs,hD,hr,rest⟩:=h
 exact⟨es,clock,since,seen,c0,hk.at_ hb h1,F,hs,hD,hk.at_ hr h2,rest⟩

def QRow(T:TypeId)(w:World)(c0:Nat)(v:Value)(xs:List Nat):Prop:=
 (v=.slice none 0 0/\xs=[])\/
 ∃ g o cap cur,v=.slice (some ⟨g,o,none⟩) xs.length cap/\c0<=g/\w.heap[g]?=some (.cells cur T (0,0))/\xs.length<=cap/\cap<=maxLen/\o+cap<=cur.size/\∀ i x,xs[i]?=some x->cur[o+i]?=some (.int .i64 (x:Nat))

end

section
open Go.RowKit

structure Grp{α:Type}(T:TypeId)(sz:Nat)(enc:α->List Value)(w:World)(c0:Nat)(mm:Bool->Nat)(vs:Bool->Nat->Value)(ls:Bool->Nat->List α)(n:Nat):Prop where
 mp:∀ s,∃ c,Bu w (mm s) n c/\∀ k,(c k).getD (.slice none 0 0)=vs s k
 row:∀ s k,w.ownsRow c0 T sz (vs s k) (ls s k).length ((ls s k).flatMap enc)
 ap:∀ s k s' k' b,(vs s k).ownBlock=some b->(vs s' k').ownBlock=some b->s=s'/\k=k'
 ne:¬ mm true=mm false
 lt:∀ s,mm s<c0

section

variable {α:Type} {T:TypeId} {sz:Nat} {enc:α->List Value} {w:World} {c0 n:Nat} {mm:Bool->Nat} {vs:Bool->Nat->Value} {ls:Bool->Nat->List α}

end

end

section
open Go.RowKit

def QAt(w:World)(b c0:Nat)(xs:List Nat):Prop:=b<c0/\∃ v,w.heap[b]?=some (.cells #[v] 237 (0,0))/\QRow 3 w c0 v xs

end

section
open Go.RowKit

def farV(D:Nat->Option Nat):Nat->Option Value:=λ g=>(D g).map λ d=>.int .i64 (d:Nat)

def cntN(D:Nat->Option Nat)(H:Nat):Nat:=(List.range H).countP λ g=>(D g).isNone

end

section
open Go.RowKit

structure FarI(w6:World)(mf qb H:Nat)(Q:List Nat)(D:Nat->Option Nat)(wr:World):Prop where
 mp:∃ n,n+cntN D H<=H/\Bu wr mf n (farV D)
 q:QAt wr qb (qb+1) Q
 le:Q.length+cntN D H<=H
 lt:∀ g d,D g=some d->g<H/\d+cntN D H<=H
 kp:Kp (λ b=>b=mf) w6 wr
 z:qb<wr.heap.size

end

section
open Go.RowKit Go.Sort Go.Shelf

end

section
open Go.RowKit Go.Maps

theorem setL_mem{f:Nat->Bool}{H g:Nat}:g∈Bb f H ↔ g<H/\f g=true:=by
 unfold Bb
 rw[List.mem_filter,List.mem_range]

theorem nodup_lt:∀ (H:Nat) (ss:List Nat),ss.Nodup->(∀ g∈ss,g<H)->ss.length<=H
 |0,[],_,_=>Nat.le_refl _
 |0,a::ss,_,h=>absurd (h a (by simp)) (by omega)
 |H+1,ss,hn,h=>by
  by_cases hm:H∈ss
  .have h1:=nodup_lt H (ss.erase H) (hn.erase H) (λ g hg=>by
    obtain⟨q1,q2⟩:=hn.mem_erase_iff.1 hg
    have:=h g q2
    omega)
   rw[List.length_erase_of_mem hm] at h1
   omega
  .have h1:=nodup_lt H ss hn (λ g hg=>by
    have h2:=h g hg
    have:¬ g=H:=λ e=>hm (e▸hg)
    omega)
   omega

theorem Bu.entry{c:Nat->Option Value}{Dm:DataW Value}(hD:∀ g:Nat,g<9223372036854775808->∀ zd,Dm.atKey (.int .i64 (g:Nat)) zd=((c g).map DataW.held).getD zd)(hneg:∀ x:Int,x<0->∀ zd,Dm.atKey (.int .i64 x) zd=zd){x:Int}{e:Value}{y:DataW Value×List MemPlace}(hwf:(Lit.int .i64 x).wf=true)(hv:heldE e=some y)(hat:∀ zd,Dm.atKey (.int .i64 x) zd=y.1):
  ∃ g:Nat,x=(g:Int)/\g<9223372036854775808/\c g=some e:=by
 have hx:=wfN_inv hwf
 have h0:0<=x:=by
  by_cases h:0<=x
  .exact h
  .have h1:=has_true_of_atKey hat
   have h2:=has_false_of_atKey (hneg x (by omega))
   rw[h1] at h2
   cases h2
 obtain⟨g,rfl⟩:=Int.eq_ofNat_of_zero_le h0
 refine⟨g,rfl,by omega,?_⟩
 have h1:=hat (.nil)
 have h2:=hD g (by omega) .nil
 rw[h1] at h2
 have h3:y.1=.held e:=by
  unfold heldE at hv
  injection hv with hv
  rw[<- hv]
 rw[h3] at h2
 cases hc:c g with
 |none=>rw [hc] at h2;cases h2
 |some u=>rw [hc] at h2;injection h2 with h2;rw [h2]

theorem Bu.has_eqP{D:DataW Value}{c:Nat->Option Value}(h:∀ g:Nat,g<9223372036854775808->∀ zd,D.atKey (.int .i64 (g:Nat)) zd=((c g).map DataW.held).getD zd){g:Nat}(hg:g<9223372036854775808):has D (.int .i64 (g:Nat))=(c g).isSome:=Ck.has_eq h hg

end

section
open Go.RowKit

end

section
open Go.RowKit

end

section
open Go.RowKit
attribute [local go_sem ↓] run_neq_edge

def cntF(f:Nat->Bool)(H:Nat):Nat:=(List.range H).countP λ g=> !f g

theorem cntF_upd{f:Nat->Bool}{g:Nat}(hg:f g=false):∀ {H:Nat},g<H->cntF (updB f g) H+1=cntF f H
 |0,h=>by omega
 |H+1,h=>by
  unfold cntF
  rw[List.range_succ,List.countP_append,List.countP_append]
  by_cases e:g=H
  .subst e
   have:(List.range g).countP (λ x=> !updB f g x)=(List.range g).countP λ x=> !f x:=by
    refine List.countP_congr λ x hx=>?_
    have:=List.mem_range.1 hx
    unfold updB
    rw[if_neg (by omega)]
   rw[this]
   simp[updB,hg]
  .have ih:=cntF_upd hg (H:=H) (by omega)
   unfold cntF at ih
   have:updB f g H=f H:=by unfold updB;rw [if_neg (by omega)]
   simp only[List.countP_singleton,this]
   omega

theorem setF_upd{f:Nat->Bool}{H g:Nat}(hg:g<H)(hH:H<=65536):EO f H (g:Int) 1 true=updB f g:=by
 funext x
 unfold EO updB
 rw[if_pos (by unfold BD;simp;omega)]
 unfold Cc
 by_cases e:x=g
 .subst e
  simp
 .rw [if_neg e]
  simp
  intro h1 h2
  omega

structure VisI(w:World)(xb bb p q qb H:Nat)(xe:Nat×Nat×Nat)(Q:List Nat)(f:Nat->Bool)(wr:World):Prop where
 xbox:wr.heap[xb]?=some (.cells #[.int .i64 (xe.1:Nat),.int .i64 (xe.2.1:Nat),.int .i64 (xe.2.2:Nat)] 70 (0,0))
 box:wr.heap[bb]?=some (.cells #[.pointer (some ⟨p,0,none⟩)] 120 (0,0))
 bt:AC wr p q f H
 qa:QAt wr qb (qb+1) Q
 le:Q.length+cntF f H<=H
 kn:Kp Aa w wr
 z:qb<wr.heap.size
 ne:xb<qb/\bb<qb/\p<qb/\q<qb/\¬ xb=q/\¬ bb=q/\w.heap.size<=q/\w.heap.size<=qb

end

section
open Go.RowKit

end

end Go.Proofs.YtfkedlgpgmaemaaGreatDoor
