/-
  Lemmas for the laws, together: WalkCheck.
-/
import Derived.Test.YtmfajopmppfldaaGreatDoorQaw
import Derived.Maps.OwnIn
import Derived.Sort.CutIn
import Derived.Test.YtmfajopmppfldaaGreatDoorQax
set_option linter.unusedVariables false
set_option maxHeartbeats 16000000
namespace Go.Proofs.YtmfajopmppfldaaGreatDoor
open Tryz
section
open Go.RowKit
attribute [local go_sem] Oper.semAt_some

theorem wpIn_only{F:Fence}{n:Nat}{P:Program}{c:Code}{K:Act->World->Prop}{Q:Exit->Act->World->Prop}{a:Act}{w:World}(h:c.wpIn F n P (Exit.then K λ_ _ _=>False) a w):c.wpIn F n P (Exit.then K Q) a w:=by
 refine wpIn_mono h ?_
 intro e a' w' hq
 cases e with
 |normal=>exact hq
 |exit id=>exact hq.elim
 |goto l=>exact hq.elim
 |ret=>exact hq.elim
 |panic ch=>exact hq.elim
 |outgrown=>exact hq.elim

end

section
open Go.RowKit

theorem run_eq_fault(a b c a' b' c':Int)(w:World):(Op.equalIn 10000 120 (.agg #[.int .i64 a,.int .i64 b,.int .i64 c]) (.agg #[.int .i64 a',.int .i64 b',.int .i64 c'])).run prog w=.ok (a==a'&&(b==b'&&c==c')) w:=by
 have u3:=underlying3
 have a3:=isAgg3
 have z3:=sizeOf3
 have uE:=underlying37
 have aE:=isAgg37
 have zE:=sizeOf37
 have hS:prog.underlying 120=some (.struct (prog.fieldsOf 120)):=by kernel_rfl
 rw[show (10000:Nat)=9999+1 from rfl,run_equalIn_agg w 9999 120 _ _ hS (by kernel_rfl)]
 simp only[Program.fieldsOf,underlying120]
 go_simp
 by_cases h0:a=a' <;> by_cases h1:b=b' <;> by_cases h2:c=c' <;> simp[h0,h1,h2]

theorem run_neq_fault(a b c a' b' c':Int)(w:World):(binOp .neq 120 (.agg #[.int .i64 a,.int .i64 b,.int .i64 c]) (.agg #[.int .i64 a',.int .i64 b',.int .i64 c'])).run prog w=.ok (.bool (!(a==a'&&(b==b'&&c==c')))) w:=by
 rw[run_neq_struct,run_eq_fault];rfl

theorem run_eq_edge(a b c a' b' c':Int)(w:World):(Op.equalIn 10000 91 (.agg #[.int .i64 a,.int .i64 b,.int .i64 c]) (.agg #[.int .i64 a',.int .i64 b',.int .i64 c'])).run prog w=.ok (a==a'&&(b==b'&&c==c')) w:=by
 have u3:=underlying3
 have a3:=isAgg3
 have z3:=sizeOf3
 have hS:prog.underlying 91=some (.struct (prog.fieldsOf 91)):=by kernel_rfl
 rw[show (10000:Nat)=9999+1 from rfl,run_equalIn_agg w 9999 91 _ _ hS (by kernel_rfl)]
 simp only[Program.fieldsOf,underlying91]
 go_simp
 by_cases h0:a=a' <;> by_cases h1:b=b' <;> by_cases h2:c=c' <;> simp[h0,h1,h2]

theorem run_neq_edge(a b c a' b' c':Int)(w:World):(binOp .neq 91 (.agg #[.int .i64 a,.int .i64 b,.int .i64 c]) (.agg #[.int .i64 a',.int .i64 b',.int .i64 c'])).run prog w=.ok (.bool (!(a==a'&&(b==b'&&c==c')))) w:=by
 rw[run_neq_struct,run_eq_edge];rfl

def Du(w:World)(v:Value)(es:List (Nat×Nat×Nat)):Prop:=
 ∃ a cap,v=.slice a es.length cap/\∀ i x,es[i]?=some x->∃ b o,a=some ⟨b,o,none⟩/\b<w.heap.size/\
  w.cell? ⟨b,o+i*3,none⟩=some (.int .i64 (x.1:Nat))/\w.cell? ⟨b,o+i*3+1,none⟩=some (.int .i64 (x.2.1:Nat))/\w.cell? ⟨b,o+i*3+2,none⟩=some (.int .i64 (x.2.2:Nat))

theorem Du.Br{T:TypeId}{w:World}{base:Nat}{v:Value}{es:List (Nat×Nat×Nat)}(h:w.ownsRow base T 3 v es.length (CB es)):Du w v es:=by
 rcases h.2 with ⟨rfl,h0⟩|⟨g,cap,cur,rfl,g2,g3,g4,g5,g6,g7⟩
 .exact ⟨none,0,by rw[h0],λ i x hx=>by have:=(gE.1 hx).1;omega⟩
 .refine ⟨some ⟨g,0,none⟩,cap,rfl,λ i x hx=>?_⟩
  have hi:=(gE.1 hx).1
  obtain⟨x0,x1,x2⟩:=flatE_at es i x hx
  have key:∀ j,j<es.length*3->w.cell? ⟨g,j,none⟩=(CB es)[j]?:=λ j hj=>by
   rw[<- g7,List.getElem?_take_of_lt hj]
   simp[World.cell?,g3]
  exact⟨g,0,rfl,lZ g3,by rw[Nat.zero_add,key _ (by omega)];exact x0,by rw[Nat.zero_add,key _ (by omega)];exact x1,by rw[Nat.zero_add,key _ (by omega)];exact x2⟩

theorem Du.Ad{w w':World}{v:Value}{es:List (Nat×Nat×Nat)}(h:Du w v es)(k:Kp Ab w w'):Du w' v es:=by
 obtain⟨a,cap,rfl,h⟩:=h
 refine⟨a,cap,rfl,λ i x hi=>?_⟩
 obtain⟨b,o,rfl,h1,h2,h3,h4⟩:=h i x hi
 exact⟨b,o,rfl,Nat.lt_of_lt_of_le h1 k.size,k.cell h2 (λ h=>h),k.cell h3 (λ h=>h),k.cell h4 (λ h=>h)⟩

section

attribute [local go_sem ↓] run_neq_fault

end

section

attribute [local go_sem ↓] run_neq_edge

theorem SameEdges_yes(cs:List (Nat×Nat×Nat))(v u:Value)(w:World)(hv:Du w v cs)(hu:Du w u cs)(hlen:cs.length<=9223372036854775806):
  Calls prog 37 #[v,u] w λ e w'=>e=.returned (.bool true)/\Kp Ab w w':=by
 have HV:=sE hv
 have HU:=sE hu
 obtain⟨va,vc,rfl,-⟩:=hv
 obtain⟨ua,uc,rfl,-⟩:=hu
 obtain⟨len,hlen'⟩:∃ len,cs.length=len:=⟨_,rfl⟩
 rw[hlen'] at HV HU hlen ⊢
 have HL:=sE hlen'
 clear hlen'
 go_enter func37,ntmps37
 go_wp2_with fail
 go_loopw [5] (λ y wr=>∃ j:Nat,j<=len/\y=.int .i64 (j:Nat)/\Kp Ab w wr) (λ y _=>len-(intOf y).toNat)
 case atStart=>exact ⟨0,Nat.zero_le _,rfl,Kr _ _⟩
 case round=>
  obtain⟨j,hj,rfl,hk⟩:=hrel
  by_cases hjl:j<len
  .have hjl':(j:Int)<len:=by omega
   obtain⟨va',vc',e,hx⟩:=HV.out
   injection e with e1 e3 e2
   clear e3
   subst e1 e2
   obtain⟨ua',uc',e,hy⟩:=HU.out
   injection e with e1 e3 e2
   clear e3
   subst e1 e2
   obtain⟨x,hxj⟩:∃ x,cs[j]?=some x:=⟨cs[j]'(by rw[HL.out];omega),List.getElem?_eq_getElem (by rw[HL.out];omega)⟩
   obtain⟨b,o,rfl,hbl,x0,x1,x2⟩:=hx j x hxj
   obtain⟨b',o',rfl,hbl',y0,y1,y2⟩:=hy j x hxj
   clear hx hy hxj
   replace x0:=hk.cell x0 (λ h=>h)
   replace x1:=hk.cell x1 (λ h=>h)
   replace x2:=hk.cell x2 (λ h=>h)
   replace y0:=hk.cell y0 (λ h=>h)
   replace y1:=hk.cell y1 (λ h=>h)
   replace y2:=hk.cell y2 (λ h=>h)
   go_wp2_with fail
   go_quiet (fail)
   go_wp2
   refine⟨⟨j+1,by omega,by go_num,hk.then' (Kp.Aj _)⟩,by simp only[intOf];omega⟩
  .have hjl':¬ (j:Int)<len:=by omega
   go_wp2
   go_ret
   exact⟨rfl,hk⟩

end

end

section
open Go.RowKit

def cN(t:Nat):List Cel->Nat
 |[]=>0
 |c::cs=>(if c.tag=t then 1 else 0)+cN t cs

def cS(t:Nat):List Cel->Nat
 |[]=>0
 |c::cs=>(if c.tag=t then c.sz else 0)+cS t cs

theorem Kp.newW{w w':World}(h:Kp (λ k=>w.heap.size<=k) w w'):Kp Ab w w':=h.mono (λ i hi hp=>by omega)

end

end Go.Proofs.YtmfajopmppfldaaGreatDoor
