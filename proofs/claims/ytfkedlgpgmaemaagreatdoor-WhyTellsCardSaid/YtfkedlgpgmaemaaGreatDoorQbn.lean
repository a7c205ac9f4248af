/-
  Lemmas for the laws, together: CenP, CenM, CenK, CenQ, StP, StR, CenE, CenF, WhyE.
-/
import Derived.Test.YtfkedlgpgmaemaaGreatDoorQbf
import Derived.Test.YtfkedlgpgmaemaaGreatDoorQbg
import Derived.Test.YtfkedlgpgmaemaaGreatDoorQbk
import Derived.Test.YtfkedlgpgmaemaaGreatDoorQaa
import Derived.Test.YtfkedlgpgmaemaaGreatDoorQbe
import Derived.Test.YtfkedlgpgmaemaaGreatDoorProg
import Derived.Test.YtfkedlgpgmaemaaGreatDoorQak
import Derived.BigGuard
import Derived.BigCall
import Derived.CellFam
import Derived.Deep.Draws
import Derived.Test.YtfkedlgpgmaemaaGreatDoorQaz
import Derived.Test.YtfkedlgpgmaemaaGreatDoorQac
import Derived.Test.YtfkedlgpgmaemaaGreatDoorQav
set_option linter.unusedVariables false
set_option maxHeartbeats 16000000
namespace Go.Proofs.YtfkedlgpgmaemaaGreatDoor
open Tryz
section
open Go.RowKit

def woE(es:List (Nat×Nat×Nat))(g:Nat):List (Nat×Nat×Nat):=es.filter λ e=>e.1 !=g&&e.2.2 !=g

def woR(rs:List Nat)(g:Nat):List Nat:=rs.filter λ r=>r !=g

def AReach(es:List (Nat×Nat×Nat))(rs:List Nat)(g x:Nat):Prop:=AA (woE es g) (woR rs g) x

section

variable {es:List (Nat×Nat×Nat)} {rs:List Nat}

theorem AA.root'{x:Nat}(h:x∈rs):AA es rs x:=⟨0,.root h⟩

theorem AA.step'{e:Nat×Nat×Nat}(h:AA es rs e.1)(he:e∈es):AA es rs e.2.2:=by
 obtain⟨n,hn⟩:=h
 exact⟨n+1,.step hn he⟩

theorem AA.rec'{p:Nat->Prop}(h0:∀ x∈rs,p x)(h1:∀ e∈es,AA es rs e.1->p e.1->p e.2.2){x:Nat}(h:AA es rs x):p x:=by
 obtain⟨n,hn⟩:=h
 induction hn with
 |root h=>exact h0 _ h
 |@step n e hs he ih=>exact h1 e he ⟨n,hs⟩ ih

end

structure Visit(es:List (Nat×Nat×Nat))(g:Nat)(at_:Nat->Prop)(f f':Nat->Bool):Prop where
 up:∀ x,f x=true->f' x=true
 new:∀ x,f' x=true->f x=true\/∃ r,at_ r/\AReach es [r] g x
 cl:∀ e∈es,f' e.1=true->f e.1=true\/e.2.2=g\/f' e.2.2=true

end

section
open Go.RowKit

structure Grq(w:World)(c0:Nat)(mo:Nat)(vs:Nat->Value)(ls:Nat->List Nat)(n:Nat):Prop where
 mp:∃ c,BS w mo n c/\∀ k,(c k).getD (.slice none 0 0)=vs k
 row:∀ k,w.ownsRow c0 3 1 (vs k) (ls k).length (Az (ls k))
 ap:∀ k k' b,(vs k).ownBlock=some b->(vs k').ownBlock=some b->k=k'
 lt:mo<c0

def outN(es:List (Nat×Nat×Nat))(x:Nat):List Nat:=(Gw es x).map λ e=>e.2.2

end

section
open Go.RowKit

structure OutAt(wk:World)(pb mo:Nat)(co:Nat->Option Value)(es:List (Nat×Nat×Nat)):Prop where
 mp:∀ W' (k:Nat),Kp Aa wk W'->k<65536->(Instr.lookup 119 (.map (some mo)) (.int .i64 (k:Nat)) false).run prog W'=.ok ((co k).getD (.slice none 0 0)) W'
 row:∀ k,AO wk ((co k).getD (.slice none 0 0)) (outN es k)
 cel:∀ W',Kp Aa wk W'->W'.cell? ⟨pb,3,none⟩=some (.map (some mo))

end

section
open Go.RowKit

def celN(os:List Cel)(x:Nat):Cel:=(os.find? λ c=>c.g==x).getD ⟨0,0,0,0,0⟩

end

section

abbrev T3:=Int×Int×Int

structure OrdC(C:T3->T3->Int):Prop where
 asym:∀ {x y},C x y<0->¬ C y x<0
 trans:∀ {x y z},¬ C y x<0->¬ C z y<0->¬ C z x<0

section

variable {C:T3->T3->Int}

end

def swp3(F:Nat->T3)(i j:Nat):Nat->T3:=λ k=>if k=i then F j else if k=j then F i else F k

inductive Stab (C:T3->T3->Int) (a b:Nat) (F:Nat->T3):(Nat->T3)->Prop
 |refl:Stab C a b F F
 |step {G:Nat->T3} {i:Nat}:Stab C a b F G->a<=i->i+1<b->C (G (i+1)) (G i)<0->Stab C a b F (swp3 G i (i+1))

section

variable {C:T3->T3->Int} {a b:Nat} {F G H:Nat->T3}

/-! insertion -/

/-! rotations -/

/-! the merge of two parts -/

structure Cut(C:T3->T3->Int)(a m b mid s:Nat)(F:Nat->T3):Prop where
 le1:a<=s
 le2:s<=m
 le3:s<=mid
 le4:mid+m<=b+s
 lo:∀ t q,a<=t->t<s->mid+m-s<=q->q<b->¬ C (F q) (F t)<0
 hi:∀ t q,s<=t->t<m->m<=q->q<mid+m-s->C (F q) (F t)<0

section

variable {m mid s:Nat}

end

/-! blocks -/

end

end

section
open Go.RowKit

section

variable {s b T n:Nat} {F:Nat->T3} {w w':World}

end

/-! what a call owns -/

def Bi(L:List T3):List Value:=L.flatMap λ e=>[.int .i64 e.1,.int .i64 e.2.1,.int .i64 e.2.2]

theorem flatI_len:∀ L:List T3,(Bi L).length=L.length*3
 |[]=>rfl
 |x::L=>by
  show(Bi L).length+1+1+1=(L.length+1)*3
  rw[flatI_len L]
  omega

theorem flatI_at:∀ (xs:List T3) (i:Nat) (x:T3),xs[i]?=some x->(Bi xs)[i*3]?=some (.int .i64 x.1)/\(Bi xs)[i*3+1]?=some (.int .i64 x.2.1)/\(Bi xs)[i*3+2]?=some (.int .i64 x.2.2)
 |y::xs,0,x,h=>by
  simp at h
  subst h
  exact⟨rfl,rfl,rfl⟩
 |y::xs,i+1,x,h=>by
  have h2:xs[i]?=some x:=by simpa using h
  obtain⟨a,c,d⟩:=flatI_at xs i x h2
  have e:Bi (y::xs)=.int .i64 y.1::.int .i64 y.2.1::.int .i64 y.2.2::Bi xs:=rfl
  rw[e,show (i+1)*3=i*3+1+1+1 by omega]
  simp only[List.getElem?_cons_succ]
  exact⟨a,c,d⟩

end

section
open Go.RowKit

def toI(x:Nat×Nat×Nat):T3:=((x.1:Int),(x.2.1:Int),(x.2.2:Int))

theorem flatE_toI(L:List (Nat×Nat×Nat)):Bt L=Bi (L.map toI):=by
 induction L with
 |nil=>rfl
 |cons x L ih=>
  show _::_::_::Bt L=_::_::_::Bi (L.map toI)
  rw[ih]
  rfl

def RowTo(w:World)(v:Value)(L:List T3):Prop:=
 ∃ a cap,v=.slice a L.length cap/\∀ i x,L[i]?=some x->∃ b o,a=some ⟨b,o,none⟩/\w.cell? ⟨b,o+i*3,none⟩=some (.int .i64 x.1)/\w.cell? ⟨b,o+i*3+1,none⟩=some (.int .i64 x.2.1)/\w.cell? ⟨b,o+i*3+2,none⟩=some (.int .i64 x.2.2)

theorem RowTo.Ac{w w':World}{v:Value}{L:List T3}(h:RowTo w v L)(k:Kp Aa w w'):RowTo w' v L:=by
 obtain⟨a,cap,rfl,h⟩:=h
 refine⟨a,cap,rfl,λ i x hi=>?_⟩
 obtain⟨b,o,rfl,h1,h2,h3⟩:=h i x hi
 exact⟨b,o,rfl,k.cell h1 id,k.cell h2 id,k.cell h3 id⟩

theorem run_eq_keep(a b c a' b' c':Int)(w:World):(Op.equalIn 10000 67 (.agg #[.int .i64 a,.int .i64 b,.int .i64 c]) (.agg #[.int .i64 a',.int .i64 b',.int .i64 c'])).run prog w=.ok (a==a'&&(b==b'&&c==c')) w:=by
 have u3:=underlying3
 have a3:=isAgg3
 have z3:=sizeOf3
 have hS:prog.underlying 67=some (.struct (prog.fieldsOf 67)):=by kernel_rfl
 rw[show (10000:Nat)=9999+1 from rfl,run_equalIn_agg w 9999 67 _ _ hS (by kernel_rfl)]
 simp only[Program.fieldsOf,underlying67]
 go_simp
 by_cases h0:a=a' <;> by_cases h1:b=b' <;> by_cases h2:c=c' <;> simp[h0,h1,h2]

theorem run_neq_keep(a b c a' b' c':Int)(w:World):(binOp .neq 67 (.agg #[.int .i64 a,.int .i64 b,.int .i64 c]) (.agg #[.int .i64 a',.int .i64 b',.int .i64 c'])).run prog w=.ok (.bool (!(a==a'&&(b==b'&&c==c')))) w:=by
 rw[run_neq_struct,run_eq_keep];rfl

section

attribute [local go_sem ↓] run_neq_keep

end

theorem run_eq_share(a b c a' b' c':Int)(w:World):(Op.equalIn 10000 82 (.agg #[.int .i64 a,.int .i64 b,.int .i64 c]) (.agg #[.int .i64 a',.int .i64 b',.int .i64 c'])).run prog w=.ok (a==a'&&(b==b'&&c==c')) w:=by
 have u3:=underlying3
 have a3:=isAgg3
 have z3:=sizeOf3
 have hS:prog.underlying 82=some (.struct (prog.fieldsOf 82)):=by kernel_rfl
 rw[show (10000:Nat)=9999+1 from rfl,run_equalIn_agg w 9999 82 _ _ hS (by kernel_rfl)]
 simp only[Program.fieldsOf,underlying82]
 go_simp
 by_cases h0:a=a' <;> by_cases h1:b=b' <;> by_cases h2:c=c' <;> simp[h0,h1,h2]

theorem run_neq_share(a b c a' b' c':Int)(w:World):(binOp .neq 82 (.agg #[.int .i64 a,.int .i64 b,.int .i64 c]) (.agg #[.int .i64 a',.int .i64 b',.int .i64 c'])).run prog w=.ok (.bool (!(a==a'&&(b==b'&&c==c')))) w:=by
 rw[run_neq_struct,run_eq_share];rfl

section

attribute [local go_sem ↓] run_neq_share

end

end

section
open Go.RowKit

section

variable {P:Program}

theorem run_append_t3(w:World)(t ty e:TypeId)(i:TypeInfo)(ht:P.underlying t=some (.slice e))(hi:P.info? e=some i)(hz:i.zero=some (.agg #[(0:Int),(0:Int),(0:Int)]))(hsize:i.size=3)(hby:i.bytes=24)
  (base:Nat) (v:Value) (n:Nat) (xs:List T3) (hown:w.ownsRow base e 3 v n (Bi xs)) (u:Value) (ys:List T3) (hu:RowTo w u ys) (hle:n+ys.length<=4294967296) (hbase:base<=w.heap.size):
  ∃ v' w',(Builtin.append_ #[t,t] ty #[v,u]).run P w=.ok v' w'/\w'.ownsRow base e 3 v' (n+ys.length) (Bi (xs++ys))/\w.grownBy w' v.ownBlock/\(v'.ownBlock=v.ownBlock\/v'.ownBlock=some w.heap.size):=by
 obtain⟨a,cap,rfl,hy⟩:=hu
 have happ:Bi (xs++ys)=Bi xs++Bi ys:=by simp[Bi]
 cases a with
 |none=>
  have h0:ys=[]:=by
   cases ys with
   |nil=>rfl
   |cons y ys=>
    obtain⟨b,o,e,-⟩:=hy 0 y rfl
    cases e
  subst h0
  refine⟨v,w,Ew w t ty e i ht hi base 3 v n _ hown cap,?_,⟨rfl,rfl,rfl,Nat.le_refl _,λ _ _ _=>rfl⟩,.inl rfl⟩
  rw[List.append_nil]
  exact hown
 |some ad=>
  obtain⟨v',w',hr,h2,h3,_,h5⟩:=run_append_own_at (P:=P) w base t ty e i (.agg #[(0:Int),(0:Int),(0:Int)]) 3 24 ht hi hz hsize hby rfl (by omega) v n (Bi xs) hown ad ys.length cap (Bi ys) (flatI_len ys)
   (by
    intro j u hj
    have hjl:=(gE.1 hj).1
    rw[flatI_len] at hjl
    obtain⟨y,hyj⟩:∃ y,ys[j/3]?=some y:=⟨_,List.getElem?_eq_getElem (by omega)⟩
    obtain⟨b,o,ea,c0,c1,c2⟩:=hy _ y hyj
    injection ea with ea
    subst ea
    obtain⟨f0,f1,f2⟩:=flatI_at ys _ y hyj
    rw[Addr.add_lit]
    have hr:j=j/3*3\/j=j/3*3+1\/j=j/3*3+2:=by omega
    rcases hr with e|e|e
    .rw [<- e] at c0 f0
     rw[c0,<- hj,f0]
    .rw [Nat.add_assoc,<- e] at c1
     rw[<- e] at f1
     rw[c1,<- hj,f1]
    .rw [Nat.add_assoc,<- e] at c2
     rw[<- e] at f2
     rw[c2,<- hj,f2])
   (by
    intro u hu
    unfold Bi at hu
    obtain⟨y,_,hy⟩:=List.mem_flatMap.1 hu
    simp only[List.mem_cons,List.not_mem_nil,or_false] at hy
    rcases hy with rfl|rfl|rfl <;> rfl) (by unfold maxLen;omega) (by omega) hbase
  exact⟨v',w',hr,by rw[happ];exact h2,h3,h5⟩

theorem step_append_t3{w:World}{ops:Array Oper}{o:Oper}{a:Act}{K:Act->World->Prop}{Q:Exit->Act->World->Prop}{E:Prop}(hgd:o.guard=none){d:Tmp}(hd:o.dst=some d)(s x:Operand)(t:TypeId)
  (ho:o.op=.call {callee:=.builtin .append,args:=#[s,x],argTypes:=#[t,t]}) (e:TypeId) (i:TypeInfo) (ht:P.underlying t=some (.slice e)) (hi:P.info? e=some i) (hz:i.zero=some (.agg #[(0:Int),(0:Int),(0:Int)])) (hsize:i.size=3) (hby:i.bytes=24)
  (base:Nat) (v:Value) (n:Nat) (xs:List T3) (hs:a.eval s=v) (hown:w.ownsRow base e 3 v n (Bi xs)) (u:Value) (ys:List T3) (hx:a.eval x=u) (hu:RowTo w u ys) (hle:n+ys.length<=4294967296) (hbase:base<=w.heap.size)
  (h:∀ v' w',w'.ownsRow base e 3 v' (n+ys.length) (Bi (xs++ys))->w.grownBy w' v.ownBlock->(v'.ownBlock=v.ownBlock\/v'.ownBlock=some w.heap.size)->K (a.put (some d) v') w'):
  if Region.wanted o (yielded ops a.tmps)=true then Oper.wp P o a w K Q else E:=by
 have hw:Region.wanted o (yielded ops a.tmps)=true:=by simp[Region.wanted,hgd]
 rw[if_pos hw]
 obtain⟨v',w',hr,h2,h3,h5⟩:=run_append_t3 (P:=P) w t o.type e i ht hi hz hsize hby base v n xs hown u ys hu hle hbase
 unfold Oper.wp execOp
 simp only[ho,resolve,invoke,builtin,Sem.run_bind,Sem.run_pure,Result.andThen_ok,List.map_toArray,List.map_cons,List.map_nil,hs,hx,hr]
 have:=h v' w' h2 h3 h5
 rw[<- hd] at this
 exact this

end

section

attribute [local go_sem] run_eql_slice_nil

end

end

section
open Go.RowKit

theorem refsC_in{P:Sp}{W:Nat->Nat}{cs:List Cel}{c:Cel}{s:Nat}(h:CellsAt P W cs)(hc:c∈cs)(h1:c.tag=1)(hs:s∈BQ P.ts c):2*c.g<2*c.g+1+s/\2*c.g+1+s<2*c.fin/\2*c.g+1+s<P.n:=by
 unfold BQ at hs
 cases ht:typeOf P.ts (c.ty:Nat) with
 |none=>rw [ht] at hs;cases hs
 |some x=>
  rw[ht] at hs
  obtain⟨k,wds,m⟩:=x
  exact slot_in h hc h1 ht (refsT_mem (kind_of h hc h1 ht) hs)

end

end Go.Proofs.YtfkedlgpgmaemaaGreatDoor
