/-
 The arguments of the laws about plans: bytes, with how many there may be; a plan.
-/
import Derived.Test.YtlmdkfbibpkjgaaGreatDoorArgsA
import Derived.Test.YtlmdkfbibpkjgaaGreatDoorMarkC
import Derived.Test.YtlmdkfbibpkjgaaGreatDoorPlanG
namespace Go.Proofs.YtlmdkfbibpkjgaaGreatDoor
open Go.RowKit Go.WideShapes Go.ChangeShapes Go.Deep
set_option linter.unusedVariables false

section
variable {H : Type} {enc : TypeId × Value -> H} {P : Program}

theorem slice_len {w : World} {base : Nat} {sp : Nat -> Bool} {held : Bool} {t e : TypeId} {v : Value} {d : DataW H} {ps : List MemPlace} (ht : P.underlying t = some (.slice e)) (hB : 1 <= P.bytesOf e) (hv : ∃ a len cap, v = .slice a len cap) (h : DataW.Trod enc P w base sp held t v d ps) (hw : ∀ n ∈ d.weights P t, n <= reachBytes) :
  ∃ a len cap, v = .slice a len cap /\ len <= 140737488355328 := by
 obtain ⟨a, len, cap, rfl⟩ := hv
 obtain ⟨fuel, h⟩ := h
 have hcs : (Value.slice a len cap).cells.toList = [.slice a len cap] := rfl
 rw [hcs] at h
 rcases open_slice ht h with ⟨h0, -⟩ | ⟨a', len', cap', m, n, D, Pl, h1, h2, h3, h4, h5, h6, h7⟩
 ·injection h0 with h0
  injection h0 with h0 h1 h2
  subst h0 h1 h2
  exact ⟨_, _, _, rfl, by omega⟩
 ·injection h1 with h1
  injection h1 with e1 e2 e3
  subst e1 e2 e3
  have hd := congrArg Prod.fst h6
  dsimp only at hd
  have hm : len <= m := by rw [h5]; split <;> omega
  refine ⟨_, _, _, rfl, ?_⟩
  rw [hd] at hw
  have := hw _ (by simp only [DataW.weights, ht]; exact List.mem_cons_self)
  unfold reachBytes at this
  simp only [List.length_map, List.length_range] at this
  have h8 : (len + (m - len)) * 1 <= (len + (m - len)) * P.bytesOf e := Nat.mul_le_mul_left _ hB
  omega

theorem open_bytes9 {w : World} {base : Nat} {held : Bool} {t e : TypeId} {v : Value} {d : DataW H} {ps : List MemPlace} (ht : P.underlying t = some (.slice e)) (he : P.underlying e = some (.int .u8)) (hc : P.cellsOf e = 1) (hB : 1 <= P.bytesOf e) (hv : ∃ a len cap, v = .slice a len cap)
  (h : DataW.Trod enc P w base (λ _ => true) held t v d ps) (hw : ∀ n ∈ d.weights P t, n <= reachBytes) : ∃ (len : Nat) (f : Nat -> Nat), BytesIn w v len f /\ len <= 140737488355328 := by
 obtain ⟨len, f, hb⟩ := open_bytes8 ht he hc hv h
 obtain ⟨a, l, c, e1, e2⟩ := slice_len ht hB hv h hw
 refine ⟨len, f, hb, ?_⟩
 obtain ⟨a', c', e3, -⟩ := hb
 rw [e1] at e3
 injection e3 with _ e4
 omega

end

end Go.Proofs.YtlmdkfbibpkjgaaGreatDoor
