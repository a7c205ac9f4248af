/-
  Lemmas for the laws, together: WhyAl, WhyAlive, WhyE.
-/
import Derived.Test.YtfkedlgpgmaemaaGreatDoorQbf
import Derived.Test.YtfkedlgpgmaemaaGreatDoorQbd
import Derived.Test.YtfkedlgpgmaemaaGreatDoorQav
set_option linter.unusedVariables false
set_option maxHeartbeats 16000000
namespace Go.Proofs.YtfkedlgpgmaemaaGreatDoor
open Tryz
section
open Go.RowKit

def Dh:List (Nat×Nat×Nat):=[(0,0,1),(1,0,2)]

theorem edges20{W:Nat->Nat}(h1:W 1=1048578)(h3:W 3=1048580)(h5:W 5=0):AP alT W CP=Dh:=by
 have ho:Ak CP=[⟨0,1,1,1,1⟩,⟨1,1,1,1,1⟩,⟨2,1,1,1,1⟩]:=by decide +kernel
 have r:∀ g,Cr alT ⟨g,1,1,1,1⟩=[0]:=λ g=>by
  show BM 2 0 0 ((1:Nat):Int)=[0]
  decide +kernel
 have hr:BF alT W (Ak CP)=[(0,0,1048578),(1,0,1048580),(2,0,0)]:=by
  rw[ho]
  unfold BF
  simp[r,h1,h3,h5]
 unfold AP
 rw[hr]
 decide +kernel

theorem steps40{n g:Nat}:StepsN Dh [0] n g ↔ n=g/\g<3:=by
 constructor
 .intro h
  induction h with
  |root h=>
   have:=List.mem_singleton.1 h
   omega
  |@step n e _ he ih=>
   have:e=(0,0,1)\/e=(1,0,2):=by simpa [Dh] using he
   rcases this with rfl|rfl
   .have:n=0/\(0:Nat)<3:=ih
    exact⟨by rw[this.1],by decide⟩
   .have:n=1/\(1:Nat)<3:=ih
    exact⟨by rw[this.1],by decide⟩
 .rintro ⟨rfl,h⟩
  have s0:StepsN Dh [0] 0 0:=.root (by simp)
  have s1:StepsN Dh [0] 1 1:=.step (e:=(0,0,1)) s0 (by simp[Dh])
  have s2:StepsN Dh [0] 2 2:=.step (e:=(1,0,2)) s1 (by simp[Dh])
  have:n=0\/n=1\/n=2:=by omega
  rcases this with rfl|rfl|rfl
  .exact s0
  .exact s1
  .exact s2

def RowP(w:World)(v:Value)(L:List (Nat×Nat)):Prop:=
 ∃ a cap,v=.slice a L.length cap/\∀ i x,L[i]?=some x->∃ b,a=some ⟨b,0,none⟩/\w.cell? ⟨b,i*2,none⟩=some (.int .i64 (x.1:Nat))/\w.cell? ⟨b,i*2+1,none⟩=some (.int .i64 (x.2:Nat))

theorem RowP.Ad{w w':World}{v:Value}{L:List (Nat×Nat)}(h:RowP w v L)(k:Kp Aa w w'):RowP w' v L:=by
 obtain⟨a,cap,rfl,h⟩:=h
 refine⟨a,cap,rfl,λ i x hi=>?_⟩
 obtain⟨b,rfl,h1,h2⟩:=h i x hi
 exact⟨b,rfl,k.cell h1 (λ h=>h),k.cell h2 (λ h=>h)⟩

theorem run_eq_dist(a b c d:Int)(w:World):(Op.equalIn 10000 99 (.agg #[.int .i64 a,.int .i64 b]) (.agg #[.int .i64 c,.int .i64 d])).run prog w=.ok (a==c&&b==d) w:=by
 have u3:=underlying3
 have a3:=isAgg3
 have z3:=sizeOf3
 have hS:prog.underlying 99=some (.struct (prog.fieldsOf 99)):=by kernel_rfl
 rw[show (10000:Nat)=9999+1 from rfl,run_equalIn_agg w 9999 99 _ _ hS (by kernel_rfl)]
 simp only[Program.fieldsOf,underlying99]
 go_simp
 by_cases h1:a=c <;> by_cases h2:b=d <;> simp[h1,h2]

theorem run_neq_dist(a b c d:Int)(w:World):(binOp .neq 99 (.agg #[.int .i64 a,.int .i64 b]) (.agg #[.int .i64 c,.int .i64 d])).run prog w=.ok (.bool (!(a==c&&b==d))) w:=by
 rw[run_neq_struct,run_eq_dist];rfl

section
attribute [local go_sem ↓] run_neq_dist

end

theorem ints_of_natrow{w:World}{base:Nat}{v:Value}{ns:List Nat}(h:w.ownsRow base 3 1 v ns.length (Az ns))(hr:∀ g∈ns,g<65536):IntsIn w v (ns.map λ g:Nat=>(g:Int)):=by
 refine ints_of_owns (base:=base) ?_ (λ x hx=>?_)
 .rw [List.length_map]
  have:intVs (ns.map λ g:Nat=>(g:Int))=Az ns:=by
   unfold intVs Az
   rw[List.map_map]
   rfl
  rw[this]
  exact h
 .obtain ⟨g,hg,rfl⟩:=List.mem_map.1 hx
  have:=hr g hg
  omega

end

section
open Go.RowKit

theorem objG40{g:Nat}(h:g<3):De CP g:=by
 have:g=0\/g=1\/g=2:=by omega
 rcases this with rfl|rfl|rfl
 .exact ⟨⟨0,1,1,1,1⟩,by simp[CP],rfl,rfl⟩
 .exact ⟨⟨1,1,1,1,1⟩,by simp[CP],rfl,rfl⟩
 .exact ⟨⟨2,1,1,1,1⟩,by simp[CP],rfl,rfl⟩

def Ex40(w:World)(P:Sp)(W:Nat->Nat)(f:Nat->Bool):Prop:=SpaceAt w P W f/\CellsAt P W CP/\(∀ i,i<P.n/2->f i=Ap CP i)/\(∀ x∈P.ts,x.m<18446744073709551616)/\AP P.ts W CP=Dh/\P.n=40

theorem Ex40.Ad{w w':World}{P:Sp}{W:Nat->Nat}{f:Nat->Bool}(h:Ex40 w P W f)(k:Kp Aa w w'):Ex40 w' P W f:=⟨h.1.Ad k,h.2⟩

end

section
open Go.RowKit

theorem Fp{ts:List TypR}{W:Nat->Nat}{cs:List Cel}{e:Nat×Nat×Nat}:e∈AP ts W cs ↔ ∃ c∈cs,c.tag=1/\∃ s∈Cr ts c,e.1=c.g/\e.2.1=s/\tgt cs (W (2*c.g+1+s))=(e.2.2:Int):=by
 unfold AP BR
 rw[List.mem_flatMap]
 constructor
 .rintro ⟨x,hx,hy⟩
  obtain⟨c,hm,s,hs,rfl⟩:=mem_refsW.1 hx
  obtain⟨h0,rfl⟩:=mem_edgeOf.1 hy
  obtain⟨h1,h2⟩:=AR.1 hm
  exact⟨c,h1,h2,s,hs,rfl,rfl,by dsimp only;rw [Int.toNat_of_nonneg h0]⟩
 .rintro ⟨c,h1,h2,s,hs,e1,e2,ht⟩
  refine⟨(c.g,s,W (2*c.g+1+s)),mem_refsW.2 ⟨c,AR.2 ⟨h1,h2⟩,s,hs,rfl⟩,mem_edgeOf.2 ⟨by dsimp only;rw [ht];omega,?_⟩⟩
  obtain⟨a,b,d⟩:=e
  dsimp only at e1 e2 ht ⊢
  rw[ht,Int.toNat_natCast,e1,e2]

theorem refsC_in{P:Sp}{W:Nat->Nat}{cs:List Cel}{c:Cel}{s:Nat}(h:CellsAt P W cs)(hc:c∈cs)(h1:c.tag=1)(hs:s∈Cr P.ts c):2*c.g<2*c.g+1+s/\2*c.g+1+s<2*c.fin/\2*c.g+1+s<P.n:=by
 unfold Cr at hs
 cases ht:typeOf P.ts (c.ty:Nat) with
 |none=>rw [ht] at hs;cases hs
 |some x=>
  rw[ht] at hs
  obtain⟨k,wds,m⟩:=x
  exact slot_in h hc h1 ht (Fv (kind_of h hc h1 ht) hs)

theorem cell_apart{P:Sp}{W:Nat->Nat}{cs:List Cel}(h:CellsAt P W cs){c d:Cel}(hc:c∈cs)(hd:d∈cs){k:Nat}(h1:2*c.g<k)(h2:k<2*c.fin)(h3:2*d.g<k)(h4:k<2*d.fin):c=d:=cell_only (j:=k/2) h.tl hc hd (by omega) (by omega) (by omega) (by omega)

theorem tgt_small{cs:List Cel}{y k:Nat}(hy:y<1048576):¬ tgt cs y=(k:Int):=λ h=>by
 obtain⟨z,hz⟩:∃ z,y-1048576=z:=⟨_,rfl⟩
 have:=((tgt_yes' hz).1 h).1
 omega

theorem tgt_zero(cs:List Cel)(k:Nat):¬ tgt cs 0=(k:Int):=tgt_small (by omega)

end

end Go.Proofs.YtfkedlgpgmaemaaGreatDoor
