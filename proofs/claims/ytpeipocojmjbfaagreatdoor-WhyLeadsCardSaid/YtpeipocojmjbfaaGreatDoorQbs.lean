/-
  Lemmas for the laws, together: WhyOnlyWalk.
-/
import Derived.Test.YtpeipocojmjbfaaGreatDoorQbq
import Derived.Test.YtpeipocojmjbfaaGreatDoorQbr
import Derived.Test.YtpeipocojmjbfaaGreatDoorQax
set_option linter.unusedVariables false
set_option maxHeartbeats 16000000
namespace Go.Proofs.YtpeipocojmjbfaaGreatDoor
open Tryz
section
open Go.RowKit

theorem ints_of_natrow{w:World}{base:Nat}{v:Value}{ns:List Nat}(h:w.ownsRow base 3 1 v ns.length (AL ns))(hr:∀ g∈ns,g<65536):IntsIn w v (ns.map λ g:Nat=>(g:Int)):=by
 refine ints_of_owns (base:=base) ?_ (λ x hx=>?_)
 .rw [List.length_map]
  have:intVs (ns.map λ g:Nat=>(g:Int))=AL ns:=by
   unfold intVs AL
   rw[List.map_map]
   rfl
  rw[this]
  exact h
 .obtain ⟨g,hg,rfl⟩:=List.mem_map.1 hx
  have:=hr g hg
  omega

theorem map_cast_inj{ns ms:List Nat}(h:ns.map (λ g:Nat=>(g:Int))=ms.map (λ g:Nat=>(g:Int))):ms=ns:=by
 have h2:=congrArg (List.map Int.toNat) h
 simp only[List.map_map] at h2
 have e:(Int.toNat ∘ λ g:Nat=>(g:Int))=id:=by funext g;simp
 rw[e,List.map_id,List.map_id] at h2
 exact h2.symm

theorem run_eql_edge(a b c a' b' c':Int)(w:World):(binOp .eql 70 (.agg #[.int .i64 a,.int .i64 b,.int .i64 c]) (.agg #[.int .i64 a',.int .i64 b',.int .i64 c'])).run prog w=.ok (.bool (a==a'&&(b==b'&&c==c'))) w:=by
 rw[run_eql_struct,run_eq_edge];rfl

theorem eq_edge(x z:Nat×Nat×Nat):((z.1:Int)==(x.1:Int)&&((z.2.1:Int)==(x.2.1:Int)&&(z.2.2:Int)==(x.2.2:Int)))=(z==x):=by
 rw[Bool.eq_iff_iff]
 simp only[Bool.and_eq_true,beq_iff_eq]
 constructor
 .intro h
  exact Prod.ext (by omega) (Prod.ext (by omega) (by omega))
 .rintro rfl
  exact⟨rfl,rfl,rfl⟩

end

end Go.Proofs.YtpeipocojmjbfaaGreatDoor
