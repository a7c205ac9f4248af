/-
  Lemmas for the laws, together: WalkCheck.
-/
import Derived.Test.YtfkedlgpgmaemaaGreatDoorQaz
import Derived.Maps.OwnIn
import Derived.Sort.CutIn
import Derived.Test.YtfkedlgpgmaemaaGreatDoorQba
set_option linter.unusedVariables false
set_option maxHeartbeats 16000000
namespace Go.Proofs.YtfkedlgpgmaemaaGreatDoor
open Tryz
section
open Go.RowKit
attribute [local go_sem] Oper.semAt_some

end

section
open Go.RowKit

theorem run_eq_edge(a b c a' b' c':Int)(w:World):(Op.equalIn 10000 70 (.agg #[.int .i64 a,.int .i64 b,.int .i64 c]) (.agg #[.int .i64 a',.int .i64 b',.int .i64 c'])).run prog w=.ok (a==a'&&(b==b'&&c==c')) w:=by
 have u3:=underlying3
 have a3:=isAgg3
 have z3:=sizeOf3
 have hS:prog.underlying 70=some (.struct (prog.fieldsOf 70)):=by kernel_rfl
 rw[show (10000:Nat)=9999+1 from rfl,run_equalIn_agg w 9999 70 _ _ hS (by kernel_rfl)]
 simp only[Program.fieldsOf,underlying70]
 go_simp
 by_cases h0:a=a' <;> by_cases h1:b=b' <;> by_cases h2:c=c' <;> simp[h0,h1,h2]

theorem run_neq_edge(a b c a' b' c':Int)(w:World):(binOp .neq 70 (.agg #[.int .i64 a,.int .i64 b,.int .i64 c]) (.agg #[.int .i64 a',.int .i64 b',.int .i64 c'])).run prog w=.ok (.bool (!(a==a'&&(b==b'&&c==c')))) w:=by
 rw[run_neq_struct,run_eq_edge];rfl

def RowO(w:World)(v:Value)(es:List (Nat×Nat×Nat)):Prop:=
 ∃ a cap,v=.slice a es.length cap/\∀ i x,es[i]?=some x->∃ b o,a=some ⟨b,o,none⟩/\b<w.heap.size/\
  w.cell? ⟨b,o+i*3,none⟩=some (.int .i64 x.1)/\w.cell? ⟨b,o+i*3+1,none⟩=some (.int .i64 x.2.1)/\w.cell? ⟨b,o+i*3+2,none⟩=some (.int .i64 x.2.2)

theorem RowO.Ac{w w':World}{v:Value}{es:List (Nat×Nat×Nat)}(h:RowO w v es)(k:Kp Aa w w'):RowO w' v es:=by
 obtain⟨a,cap,rfl,h⟩:=h
 refine⟨a,cap,rfl,λ i x hi=>?_⟩
 obtain⟨b,o,rfl,h1,h2,h3,h4⟩:=h i x hi
 exact⟨b,o,rfl,Nat.lt_of_lt_of_le h1 k.size,k.cell h2 id,k.cell h3 id,k.cell h4 id⟩

section

end

section

attribute [local go_sem ↓] run_neq_edge

theorem Gt(cs:List (Nat×Nat×Nat))(v u:Value)(w:World)(hv:RowO w v cs)(hu:RowO w u cs)(hlen:cs.length<=9223372036854775806):
  Calls prog 43 #[v,u] w (RK (.bool true) w):=by
 have HV:=sE hv
 have HU:=sE hu
 obtain⟨va,vc,rfl,-⟩:=hv
 obtain⟨ua,uc,rfl,-⟩:=hu
 obtain⟨len,hlen'⟩:∃ len,cs.length=len:=⟨_,rfl⟩
 rw[hlen'] at HV HU hlen ⊢
 have HL:=sE hlen'
 clear hlen'
 go_enter func43,ntmps43
 go_wp2_with fail
 go_loopw [5] (λ y wr=>∃ j:Nat,j<=len/\y=.int .i64 j/\Kp Aa w wr) (λ y _=>len-(intOf y).toNat)
 case atStart=>exact ⟨0,Nat.zero_le _,rfl,Kr _ _⟩
 case round=>
  obtain⟨j,hj,rfl,hk⟩:=hrel
  by_cases hjl:j<len
  .have hjl':(j:Int)<len:=by omega
   obtain⟨va',vc',e,hx⟩:=HV.o
   injection e with e1 e3 e2
   clear e3
   subst e1 e2
   obtain⟨ua',uc',e,hy⟩:=HU.o
   injection e with e1 e3 e2
   clear e3
   subst e1 e2
   obtain⟨x,hxj⟩:∃ x,cs[j]?=some x:=⟨cs[j]'(by rw[HL.o];omega),List.getElem?_eq_getElem (by rw[HL.o];omega)⟩
   obtain⟨b,o,rfl,hbl,x0,x1,x2⟩:=hx j x hxj
   obtain⟨b',o',rfl,hbl',y0,y1,y2⟩:=hy j x hxj
   clear hx hy hxj
   replace x0:=hk.cell x0 id
   replace x1:=hk.cell x1 id
   replace x2:=hk.cell x2 id
   replace y0:=hk.cell y0 id
   replace y1:=hk.cell y1 id
   replace y2:=hk.cell y2 id
   go_wp2_with fail
   go_quiet (fail)
   go_wp2
   refine⟨⟨j+1,by omega,by go_num,hk.then' (Kp.Ah _)⟩,by simp only[intOf];omega⟩
  .have hjl':¬ (j:Int)<len:=by omega
   go_wp2
   go_ret
   exact⟨rfl,hk⟩

end

end

section
open Go.RowKit

end

end Go.Proofs.YtfkedlgpgmaemaaGreatDoor
