/-
  Which functions of the program are tame, and that they are.
-/
import Derived.Test.YtifdhaiihlfomaaDoorConTopD
import Derived.Test.YtifdhaiihlfomaaDoorChecked
import Derived.KernelRfl
namespace Go.Proofs.YtifdhaiihlfomaaDoor
open Go Go.Conc
set_option linter.unusedVariables false

def tameL : List Nat := [6, 8, 10, 11, 12, 13, 14, 15, 16, 17, 18, 19, 21, 22, 23, 24, 25, 26, 27, 28, 29, 30, 31, 32, 33, 34, 37, 38, 39, 40, 43, 44, 45, 46, 47, 48, 49, 50, 51, 52, 53, 54]
def envD : Env where
  T f := tameL.contains f
  pins f j := (f == 31 && (j == 2 || j == 9)) || (f == 40 && (j == 2 || j == 26)) || (f == 47 && j == 29)
  h0 := 32
def tameOk (P : Program) (E : Env) (f : FuncId) : Bool :=
  match P.funcs[f]? with
  | some fn => match fn.body with
    | some c => codeOk P E f c
    | none => false
  | none => false

theorem tame_all : tameL.all (tameOk Tryd.prog envD) = true := by kernel_rfl

theorem envD_ok : EnvOk Tryd.prog envD where
  follows := by kernel_rfl
  body f hf := by
    have h1 := List.all_eq_true.1 tame_all f (by simpa [envD] using hf)
    unfold tameOk at h1
    cases e : Tryd.prog.funcs[f]? with
    | none => rw [e] at h1; cases h1
    | some fn =>
      rw [e] at h1
      dsimp only at h1
      cases e2 : fn.body with
      | none => rw [e2] at h1; cases h1
      | some c =>
        rw [e2] at h1
        exact ⟨fn, c, rfl, e2, h1⟩
  h0T := by rfl

theorem no_readies : (Tryd.prog.funcs.all fun f => (f.body.map readies).all (·.isEmpty)) = true := by kernel_rfl

theorem calmD (w : World) : Calm Tryd.prog w := fun g c e h => by
  unfold Program.stepOf
  rw [Array.findIdx?_eq_none_iff]
  intro f hf
  have := Array.all_eq_true'.1 no_readies f hf
  cases e2 : f.body with
  | none => rfl
  | some b =>
    rw [e2] at this
    have h0 : readies b = [] := by simpa using this
    simp [h0]

end Go.Proofs.YtifdhaiihlfomaaDoor
