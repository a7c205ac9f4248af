/-
  A receiver's walk: a loop that receives, value by value, till the channel is found closed. No program in sight.
-/
import Derived.Test.YtifdhaiihlfomaaDoorConSend
namespace Go.Proofs.YtifdhaiihlfomaaDoor
open Go Go.Conc
set_option linter.unusedVariables false

section
variable {P : Program} {ch Low : Nat} {own : Obj → Bool} {z : Value}

theorem recvsW_of {Fin : Goroutine → World → Prop} {vs : List Value} {g : Goroutine} {w : World} (n : Nat) (h : Goes P true (Oth ch Low own true) (DOwn ch Low own true) (StopAW P ch Low own z Fin vs) n g w) : RecvsW P ch Low own z Fin vs g w := (recvsW_iff P ch Low own z Fin vs g w).2 ⟨n, h⟩

/-- ████ THE LOOP. ████ Each round: the receive is its first operation; 'I L': what holds where it stands at the receive, L having been received. -/
theorem recv_loop {fn : FuncId} {b : Frame} {cs : List Frame} {k : List Item} {ops : Array Oper} {tl : List Nat} {o : Oper} {x : Operand} {d : Tmp} {ty : TypeId} {id : Nat} {rest : Code} {n₁ n₂ : Nat} {I : List Value → Act → World → Prop} {Gd : Value → Prop} {Lt : List Value}
    (hb : b.fn = fn) (hk : b.kind ≠ .early) (hr : List.range ops.size = 0 :: tl) (ho : ops[0]? = some o) (hop : o.op = .recv ty x true) (hdst : o.dst = some d) (hg : ∀ tm, Region.wanted o (yielded ops tm) = true)
    (hI : ∀ L a w w₁, I L a w → Oth ch Low own true w w₁ → I L a w₁) (hx : ∀ L a w, I L a w → a.eval x = .chan (some ch))
    (hrun : ∀ (a : Act) w, a.eval x = .chan (some ch) → (execOp a.eval o).run P w = .ok (.comm #[rcase ch z] true (.recv true)) w ∧ (execOp a.eval o).events P w #[] = #[])
    (round : ∀ L v us a w, L ++ v :: us = Lt → Gd v → I L a w → OpsC P true (Oth ch Low own true) (DOwn ch Low own true) fn ops tl n₁ (onN fun a' w' => rest.wpC P true (Oth ch Low own true) (DOwn ch Low own true) fn n₂ (onN (I (L ++ [v]))) a' w') (a.put (some d) (.tuple #[v, .bool true])) w) :
    ∀ vs L a w, (∀ v ∈ vs, Gd v) → L ++ vs = Lt → I L a w →
      StopAW P ch Low own z (fun g w => ∃ a, I Lt a w ∧ g = G (b.at (a.put (some d) (.tuple #[z, .bool false])) (.inRegion ops tl :: .code rest :: .inLoop (.seq (.region id ops false) rest) :: k)) cs) vs
        (G (b.at a (.inRegion ops (0 :: tl) :: .code rest :: .inLoop (.seq (.region id ops false) rest) :: k)) cs) w := by
  have serve : ∀ (a : Act) (v : Value), Conc.served (core (G (b.at a (.inRegion ops (0 :: tl) :: .code rest :: .inLoop (.seq (.region id ops false) rest) :: k)) cs)) v = G (b.at (a.put (some d) v) (.inRegion ops tl :: .code rest :: .inLoop (.seq (.region id ops false) rest) :: k)) cs := fun a v => by
    have e1 : core (G (b.at a (.inRegion ops (0 :: tl) :: .code rest :: .inLoop (.seq (.region id ops false) rest) :: k)) cs) = G (b.at a (.inRegion ops (0 :: tl) :: .code rest :: .inLoop (.seq (.region id ops false) rest) :: k)) cs := rfl
    rw [e1, served_G]
    simp [ho, hdst]
  have stp : ∀ L a w, I L a w → stepG P true (G (b.at a (.inRegion ops (0 :: tl) :: .code rest :: .inLoop (.seq (.region id ops false) rest) :: k)) cs) w = .comm (core (G (b.at a (.inRegion ops (0 :: tl) :: .code rest :: .inLoop (.seq (.region id ops false) rest) :: k)) cs)) #[rcase ch z] true (.recv true) w #[] := fun L a w h => by
    rw [stepG_comm (cases := #[rcase ch z]) (blocking := true) (shape := .recv true) (w' := w) ho (hg _) hk (hrun a w (hx L a w h)).1]
    unfold listed
    rw [(hrun a w (hx L a w h)).2]
    simp [seen, core, G]
  intro vs
  induction vs with
  | nil =>
    intro L a w _ hL h
    rw [List.append_nil] at hL
    subst hL
    refine ⟨rfl, #[], stp L a w h, by simp, fun w₂ h₂ => ⟨a, hI L a w w₂ h h₂, ?_⟩⟩
    rw [← serve a]
  | cons v vs ih =>
    intro L a w hG hL h
    refine ⟨rfl, #[], stp L a w h, by simp, fun w₂ h₂ => ?_⟩
    refine (recvsW_iff P ch Low own z _ vs _ _).2 ⟨(0 + 3) + n₂ + n₁, ?_⟩
    have e0 : Conc.served (core (G (b.at a (.inRegion ops (0 :: tl) :: .code rest :: .inLoop (.seq (.region id ops false) rest) :: k)) cs)) (.tuple #[v, .bool true]) = G (b.at (a.put (some d) (.tuple #[v, .bool true])) (.inRegion ops tl :: .code rest :: .inLoop (.seq (.region id ops false) rest) :: k)) cs := serve a _
    rw [e0]
    refine round L v vs a w₂ hL (hG v (List.mem_cons_self ..)) (hI L a w w₂ h h₂) b _ cs _ (0 + 3 + n₂) hb hk fun e a' w' q => ?_
    cases e with
    | normal =>
      refine q b (.inLoop (.seq (.region id ops false) rest) :: k) cs _ (0 + 3) hb hk fun e a'' w'' q' => ?_
      cases e with
      | normal =>
        refine Goes.step rfl fun w₃ h₃ => ?_
        rw [stepG_inLoop]
        refine ⟨dOwn_idle _, Goes.step rfl fun w₄ h₄ => ?_⟩
        rw [stepG_seq]
        refine ⟨dOwn_idle _, Goes.step rfl fun w₅ h₅ => ?_⟩
        rw [stepG_region, hr]
        refine ⟨dOwn_idle _, Goes.stop fun w₆ h₆ => ?_⟩
        exact ih (L ++ [v]) a'' w₆ (fun u hu => hG u (List.mem_cons_of_mem _ hu)) (by rw [List.append_assoc]; exact hL) (hI _ _ _ _ q' (((h₃.trans h₄).trans h₅).trans h₆))
      | _ => exact q'.elim
    | _ => exact q.elim
end
end Go.Proofs.YtifdhaiihlfomaaDoor
