/-
  Lemmas for the laws, together: WhyAl, WhyAlive.
-/
import Derived.Test.YtfkedlgpgmaemaaGreatDoorQbf
import Derived.Test.YtfkedlgpgmaemaaGreatDoorQbd
set_option linter.unusedVariables false
set_option maxHeartbeats 16000000
namespace Go.Proofs.YtfkedlgpgmaemaaGreatDoor
open Tryz
section
open Go.RowKit

def Dh:List (Nat×Nat×Nat):=[(0,0,1),(1,0,2)]

theorem edges20{W:Nat->Nat}(h1:W 1=1048578)(h3:W 3=1048580)(h5:W 5=0):AP alT W CP=Dh:=by
 have ho:Ak CP=[⟨0,1,1,1,1⟩,⟨1,1,1,1,1⟩,⟨2,1,1,1,1⟩]:=by decide +kernel
 have r:∀ g,Cr alT ⟨g,1,1,1,1⟩=[0]:=λ g=>by
  show BM 2 0 0 ((1:Nat):Int)=[0]
  decide +kernel
 have hr:BF alT W (Ak CP)=[(0,0,1048578),(1,0,1048580),(2,0,0)]:=by
  rw[ho]
  unfold BF
  simp[r,h1,h3,h5]
 unfold AP
 rw[hr]
 decide +kernel

theorem steps40{n g:Nat}:StepsN Dh [0] n g ↔ n=g/\g<3:=by
 constructor
 .intro h
  induction h with
  |root h=>
   have:=List.mem_singleton.1 h
   omega
  |@step n e _ he ih=>
   have:e=(0,0,1)\/e=(1,0,2):=by simpa [Dh] using he
   rcases this with rfl|rfl
   .have:n=0/\(0:Nat)<3:=ih
    exact⟨by rw[this.1],by decide⟩
   .have:n=1/\(1:Nat)<3:=ih
    exact⟨by rw[this.1],by decide⟩
 .rintro ⟨rfl,h⟩
  have s0:StepsN Dh [0] 0 0:=.root (by simp)
  have s1:StepsN Dh [0] 1 1:=.step (e:=(0,0,1)) s0 (by simp[Dh])
  have s2:StepsN Dh [0] 2 2:=.step (e:=(1,0,2)) s1 (by simp[Dh])
  have:n=0\/n=1\/n=2:=by omega
  rcases this with rfl|rfl|rfl
  .exact s0
  .exact s1
  .exact s2

theorem run_eq_dist(a b c d:Int)(w:World):(Op.equalIn 10000 99 (.agg #[.int .i64 a,.int .i64 b]) (.agg #[.int .i64 c,.int .i64 d])).run prog w=.ok (a==c&&b==d) w:=by
 have u3:=underlying3
 have a3:=isAgg3
 have z3:=sizeOf3
 have hS:prog.underlying 99=some (.struct (prog.fieldsOf 99)):=by kernel_rfl
 rw[show (10000:Nat)=9999+1 from rfl,run_equalIn_agg w 9999 99 _ _ hS (by kernel_rfl)]
 simp only[Program.fieldsOf,underlying99]
 go_simp
 by_cases h1:a=c <;> by_cases h2:b=d <;> simp[h1,h2]

theorem run_neq_dist(a b c d:Int)(w:World):(binOp .neq 99 (.agg #[.int .i64 a,.int .i64 b]) (.agg #[.int .i64 c,.int .i64 d])).run prog w=.ok (.bool (!(a==c&&b==d))) w:=by
 rw[run_neq_struct,run_eq_dist];rfl

section
attribute [local go_sem ↓] run_neq_dist

end

theorem ints_of_natrow{w:World}{base:Nat}{v:Value}{ns:List Nat}(h:w.ownsRow base 3 1 v ns.length (Az ns))(hr:∀ g∈ns,g<65536):IntsIn w v (ns.map λ g:Nat=>(g:Int)):=by
 refine ints_of_owns (base:=base) ?_ (λ x hx=>?_)
 .rw [List.length_map]
  have:intVs (ns.map λ g:Nat=>(g:Int))=Az ns:=by
   unfold intVs Az
   rw[List.map_map]
   rfl
  rw[this]
  exact h
 .obtain ⟨g,hg,rfl⟩:=List.mem_map.1 hx
  have:=hr g hg
  omega

end

section
open Go.RowKit

theorem objG40{g:Nat}(h:g<3):De CP g:=by
 have:g=0\/g=1\/g=2:=by omega
 rcases this with rfl|rfl|rfl
 .exact ⟨⟨0,1,1,1,1⟩,by simp[CP],rfl,rfl⟩
 .exact ⟨⟨1,1,1,1,1⟩,by simp[CP],rfl,rfl⟩
 .exact ⟨⟨2,1,1,1,1⟩,by simp[CP],rfl,rfl⟩

def Ex40(w:World)(P:Sp)(W:Nat->Nat)(f:Nat->Bool):Prop:=SpaceAt w P W f/\CellsAt P W CP/\(∀ i,i<P.n/2->f i=Ap CP i)/\(∀ x∈P.ts,x.m<18446744073709551616)/\AP P.ts W CP=Dh/\P.n=40

theorem Ex40.Ad{w w':World}{P:Sp}{W:Nat->Nat}{f:Nat->Bool}(h:Ex40 w P W f)(k:Kp Aa w w'):Ex40 w' P W f:=⟨h.1.Ad k,h.2⟩

end

end Go.Proofs.YtfkedlgpgmaemaaGreatDoor
