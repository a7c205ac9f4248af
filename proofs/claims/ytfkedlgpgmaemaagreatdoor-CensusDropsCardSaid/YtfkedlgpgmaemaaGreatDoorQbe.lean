/-
  Lemmas for the laws, together: WalkCheck.
-/
import Derived.Test.YtfkedlgpgmaemaaGreatDoorQaz
import Derived.Maps.OwnIn
import Derived.Sort.CutIn
import Derived.Test.YtfkedlgpgmaemaaGreatDoorQba
set_option linter.unusedVariables false
set_option maxHeartbeats 16000000
namespace Go.Proofs.YtfkedlgpgmaemaaGreatDoor
open Tryz
section
open Go.RowKit
attribute [local go_sem] Oper.semAt_some

end

section
open Go.RowKit

theorem run_eq_edge(a b c a' b' c':Int)(w:World):(Op.equalIn 10000 70 (.agg #[.int .i64 a,.int .i64 b,.int .i64 c]) (.agg #[.int .i64 a',.int .i64 b',.int .i64 c'])).run prog w=.ok (a==a'&&(b==b'&&c==c')) w:=by
 have u3:=underlying3
 have a3:=isAgg3
 have z3:=sizeOf3
 have hS:prog.underlying 70=some (.struct (prog.fieldsOf 70)):=by kernel_rfl
 rw[show (10000:Nat)=9999+1 from rfl,run_equalIn_agg w 9999 70 _ _ hS (by kernel_rfl)]
 simp only[Program.fieldsOf,underlying70]
 go_simp
 by_cases h0:a=a' <;> by_cases h1:b=b' <;> by_cases h2:c=c' <;> simp[h0,h1,h2]

theorem run_neq_edge(a b c a' b' c':Int)(w:World):(binOp .neq 70 (.agg #[.int .i64 a,.int .i64 b,.int .i64 c]) (.agg #[.int .i64 a',.int .i64 b',.int .i64 c'])).run prog w=.ok (.bool (!(a==a'&&(b==b'&&c==c')))) w:=by
 rw[run_neq_struct,run_eq_edge];rfl

def RowO(w:World)(v:Value)(es:List (Nat×Nat×Nat)):Prop:=
 ∃ a cap,v=.slice a es.length cap/\∀ i x,es[i]?=some x->∃ b o,a=some ⟨b,o,none⟩/\b<w.heap.size/\
  w.cell? ⟨b,o+i*3,none⟩=some (.int .i64 (x.1:Nat))/\w.cell? ⟨b,o+i*3+1,none⟩=some (.int .i64 (x.2.1:Nat))/\w.cell? ⟨b,o+i*3+2,none⟩=some (.int .i64 (x.2.2:Nat))

theorem RowO.Be{T:TypeId}{w:World}{base:Nat}{v:Value}{es:List (Nat×Nat×Nat)}(h:w.ownsRow base T 3 v es.length (BZ es)):RowO w v es:=by
 rcases h.2 with ⟨rfl,h0⟩|⟨g,cap,cur,rfl,g2,g3,g4,g5,g6,g7⟩
 .exact ⟨none,0,by rw[h0],λ i x hx=>by have:=(gE.1 hx).1;omega⟩
 .refine ⟨some ⟨g,0,none⟩,cap,rfl,λ i x hx=>?_⟩
  have hi:=(gE.1 hx).1
  obtain⟨x0,x1,x2⟩:=flatE_at es i x hx
  have key:∀ j,j<es.length*3->w.cell? ⟨g,j,none⟩=(BZ es)[j]?:=λ j hj=>by
   rw[<- g7,List.getElem?_take_of_lt hj]
   simp[World.cell?,g3]
  exact⟨g,0,rfl,lZ g3,by rw[Nat.zero_add,key _ (by omega)];exact x0,by rw[Nat.zero_add,key _ (by omega)];exact x1,by rw[Nat.zero_add,key _ (by omega)];exact x2⟩

theorem RowO.Ad{w w':World}{v:Value}{es:List (Nat×Nat×Nat)}(h:RowO w v es)(k:Kp Aa w w'):RowO w' v es:=by
 obtain⟨a,cap,rfl,h⟩:=h
 refine⟨a,cap,rfl,λ i x hi=>?_⟩
 obtain⟨b,o,rfl,h1,h2,h3,h4⟩:=h i x hi
 exact⟨b,o,rfl,Nat.lt_of_lt_of_le h1 k.size,k.cell h2 (λ h=>h),k.cell h3 (λ h=>h),k.cell h4 (λ h=>h)⟩

section

end

section

attribute [local go_sem ↓] run_neq_edge

end

end

section
open Go.RowKit

end

end Go.Proofs.YtfkedlgpgmaemaaGreatDoor
