/-
  Lemmas for the laws, together: WhyAl, WhyAlive, WhyE.
-/
import Derived.Test.YtfkedlgpgmaemaaGreatDoorQbf
import Derived.Test.YtfkedlgpgmaemaaGreatDoorQbd
import Derived.Test.YtfkedlgpgmaemaaGreatDoorQav
set_option linter.unusedVariables false
set_option maxHeartbeats 16000000
namespace Go.Proofs.YtfkedlgpgmaemaaGreatDoor
open Tryz
section
open Go.RowKit

def Dw:List (Nat×Nat×Nat):=[(0,0,1),(1,0,2)]

theorem edges20{W:Nat->Nat}(a:W 1=1048578)(b:W 3=1048580)(c:W 5=0):AP alT W CZ=Dw:=by
 have d:Aj CZ=[⟨0,1,1,1,1⟩,⟨1,1,1,1,1⟩,⟨2,1,1,1,1⟩]:=by decide +kernel
 have r:∀ g,BQ alT ⟨g,1,1,1,1⟩=[0]:=λ g=>by
  show BP 2 0 0 ((1:Nat):Int)=[0]
  decide +kernel
 have e:Bv alT W (Aj CZ)=[(0,0,1048578),(1,0,1048580),(2,0,0)]:=by
  rw[d]
  unfold Bv
  simp[r,a,b,c]
 unfold AP
 rw[e]
 decide +kernel

theorem steps40{n g:Nat}:StepsN Dw [0] n g ↔ n=g/\g<3:=by
 constructor
 .intro a
  induction a with
  |root a=>
   have:=List.mem_singleton.1 a
   omega
  |@step n e _ he ih=>
   have:e=(0,0,1)\/e=(1,0,2):=by simpa [Dw] using he
   rcases this with rfl|rfl
   .have:n=0/\(0:Nat)<3:=ih
    exact⟨by rw[this.1],by decide⟩
   .have:n=1/\(1:Nat)<3:=ih
    exact⟨by rw[this.1],by decide⟩
 .rintro ⟨rfl,a⟩
  have b:StepsN Dw [0] 0 0:=.root (by simp)
  have c:StepsN Dw [0] 1 1:=.step (e:=(0,0,1)) b (by simp[Dw])
  have d:StepsN Dw [0] 2 2:=.step (e:=(1,0,2)) c (by simp[Dw])
  have:n=0\/n=1\/n=2:=by omega
  rcases this with rfl|rfl|rfl
  .exact b
  .exact c
  .exact d

theorem run_eq_dist(a b c d:Int)(w:World):(Op.equalIn 10000 99 (.agg #[.int .i64 a,.int .i64 b]) (.agg #[.int .i64 c,.int .i64 d])).run prog w=.ok (a==c&&b==d) w:=by
 have u3:=underlying3
 have f:=isAgg3
 have g:=sizeOf3
 have e:prog.underlying 99=some (.struct (prog.fieldsOf 99)):=by kernel_rfl
 rw[show (10000:Nat)=9999+1 from rfl,run_equalIn_agg w 9999 99 _ _ e (by kernel_rfl)]
 simp only[Program.fieldsOf,underlying99]
 go_simp
 by_cases h1:a=c <;> by_cases h2:b=d <;> simp[h1,h2]

theorem run_neq_dist(a b c d:Int)(w:World):(binOp .neq 99 (.agg #[.int .i64 a,.int .i64 b]) (.agg #[.int .i64 c,.int .i64 d])).run prog w=.ok (.bool (!(a==c&&b==d))) w:=by
 rw[run_neq_struct,run_eq_dist];rfl

section
attribute [local go_sem ↓] run_neq_dist

end

theorem ints_of_natrow{w:World}{base:Nat}{v:Value}{ns:List Nat}(a:w.ownsRow base 3 1 v ns.length (Az ns))(c:∀ g∈ns,g<65536):IntsIn w v (ns.map λ g:Nat=>(g:Int)):=by
 refine Cz (base:=base) ?_ (λ x d=>?_)
 .rw [List.length_map]
  have:Fb (ns.map λ g:Nat=>(g:Int))=Az ns:=by
   unfold Fb Az
   rw[List.map_map]
   rfl
  rw[this]
  exact a
 .obtain ⟨g,b,rfl⟩:=List.mem_map.1 d
  have:=c g b
  omega

end

section
open Go.RowKit

theorem objG40{g:Nat}(h:g<3):CL CZ g:=by
 have:g=0\/g=1\/g=2:=by omega
 rcases this with rfl|rfl|rfl
 .exact ⟨⟨0,1,1,1,1⟩,by simp[CZ],rfl,rfl⟩
 .exact ⟨⟨1,1,1,1,1⟩,by simp[CZ],rfl,rfl⟩
 .exact ⟨⟨2,1,1,1,1⟩,by simp[CZ],rfl,rfl⟩

def Ex40(w:World)(P:Sp)(W:Nat->Nat)(f:Nat->Bool):Prop:=SpaceAt w P W f/\CellsAt P W CZ/\(∀ i,i<P.n/2->f i=Ak CZ i)/\(∀ x∈P.ts,x.m<18446744073709551616)/\AP P.ts W CZ=Dw/\P.n=40

theorem Ex40.Ac{w w':World}{P:Sp}{W:Nat->Nat}{f:Nat->Bool}(h:Ex40 w P W f)(k:Kp Aa w w'):Ex40 w' P W f:=⟨h.1.Ac k,h.2⟩

end

section
open Go.RowKit

theorem refsC_in{P:Sp}{W:Nat->Nat}{cs:List Cel}{c:Cel}{s:Nat}(b:CellsAt P W cs)(e:c∈cs)(d:c.tag=1)(a:s∈BQ P.ts c):2*c.g<2*c.g+1+s/\2*c.g+1+s<2*c.fin/\2*c.g+1+s<P.n:=by
 unfold BQ at a
 cases ht:typeOf P.ts (c.ty:Nat) with
 |none=>rw [ht] at a;cases a
 |some x=>
  rw[ht] at a
  obtain⟨k,wds,m⟩:=x
  exact slot_in b e d ht (refsT_mem (kind_of b e d ht) a)

end

end Go.Proofs.YtfkedlgpgmaemaaGreatDoor
