/-
  Lemmas for the laws, together: WalkCheck.
-/
import Derived.Test.YtfkedlgpgmaemaaGreatDoorQaz
import Derived.Maps.OwnIn
import Derived.Sort.CutIn
import Derived.Test.YtfkedlgpgmaemaaGreatDoorQba
set_option linter.unusedVariables false
set_option maxHeartbeats 16000000
namespace Go.Proofs.YtfkedlgpgmaemaaGreatDoor
open Tryz
section
open Go.RowKit
attribute [local go_sem] Oper.semAt_some

end

section
open Go.RowKit

theorem run_eq_edge(a b c a' d e:Int)(w:World):(Op.equalIn 10000 70 (.agg #[.int .i64 a,.int .i64 b,.int .i64 c]) (.agg #[.int .i64 a',.int .i64 d,.int .i64 e])).run prog w=.ok (a==a'&&(b==d&&c==e)) w:=by
 have u3:=underlying3
 have g:=isAgg3
 have i:=sizeOf3
 have f:prog.underlying 70=some (.struct (prog.fieldsOf 70)):=by kernel_rfl
 rw[show (10000:Nat)=9999+1 from rfl,run_equalIn_agg w 9999 70 _ _ f (by kernel_rfl)]
 simp only[Program.fieldsOf,underlying70]
 go_simp
 by_cases h0:a=a' <;> by_cases h1:b=d <;> by_cases h2:c=e <;> simp[h0,h1,h2]

theorem run_neq_edge(a b c a' d e:Int)(w:World):(binOp .neq 70 (.agg #[.int .i64 a,.int .i64 b,.int .i64 c]) (.agg #[.int .i64 a',.int .i64 d,.int .i64 e])).run prog w=.ok (.bool (!(a==a'&&(b==d&&c==e)))) w:=by
 rw[run_neq_struct,run_eq_edge];rfl

section

end

section

attribute [local go_sem ↓] run_neq_edge

end

end

section
open Go.RowKit

end

end Go.Proofs.YtfkedlgpgmaemaaGreatDoor
