/-
  diff.told, walked in company: it sends the places of a node, one by one.
-/
import Derived.Test.YtifdhaiihlfomaaDoorDiRows
import Derived.Test.YtifdhaiihlfomaaDoorConSendD
namespace Go.Proofs.YtifdhaiihlfomaaDoor
open Go Go.Conc Go.RowKit
set_option linter.unusedVariables false

/-- A difference as a value. -/
def dV (kd : Int) (n j : Nat) : Value := .agg #[.int .u8 kd, .int .i64 (n : Int), .int .i64 (j : Int)]

theorem HR.shape {c Low base : Nat} {B : Nat → Obj → Prop} {w₀ : World} {v : Value} {l : List Nat} {w : World} (h : HR c Low base B w₀ v l w) : ∃ a cp, v = .slice a l.length cp := by
  obtain ⟨_, h2 | ⟨g, cap, cur, hv, _⟩⟩ := h.row
  · exact ⟨none, 0, by rw [h2.1, h2.2]⟩
  · exact ⟨_, _, hv⟩
theorem HR.idx {c Low base : Nat} {B : Nat → Obj → Prop} {own : Obj → Bool} {w₀ : World} (hk : ∀ cs fz, own (.cells cs 3 fz) = false) (hb : Bks Low base own B) {v : Value} {l : List Nat} {w : World} (h : HR c Low base B w₀ v l w) {j : Nat} (hj : j < l.length) :
    ∃ ad : Addr, (∀ w, (Instr.indexAt 23 v (.int .i64 (j : Int))).run Tryd.prog w = .ok (.pointer (some ad)) w) ∧ (∀ w es, (Instr.indexAt 23 v (.int .i64 (j : Int))).events Tryd.prog w es = es) ∧
      (∀ w, HR c Low base B w₀ v l w → w.cell? ad = some (.int .i64 ((l.getD j 0 : Nat) : Int)) ∧ Low ≤ ad.block ∧ ∃ o, w.heap[ad.block]? = some o ∧ own o = false) := by
  obtain ⟨h1, h2 | ⟨g, cap, cur, rfl, hg, hh, ht⟩⟩ := h.row
  · omega
  have hjl : (j : Int) < ((l.length : Nat) : Int) := by omega
  refine ⟨⟨g, j, none⟩, fun w => by simp [go_sem, *], fun w es => by simp [go_sem, *], fun w' h' => ?_⟩
  have hc : w'.cell? ((⟨g, 0, none⟩ : Addr).add j) = some (natV (l.getD j 0)) := h'.row.cells (g := g) rfl j _ (by simp [List.getD_eq_getElem?_getD, hj])
  obtain ⟨_, h2 | ⟨g', cap', cur', hv, hg', hh', _⟩⟩ := h'.row
  · omega
  cases hv
  have e : (⟨g, 0, none⟩ : Addr).add j = ⟨g, j, none⟩ := by cases j <;> simp [Addr.add]
  rw [e] at hc
  exact ⟨hc, Nat.le_trans hb.low hg', _, hh', hk _ _⟩

theorem flat_one {α : Type} (l : List Nat) (f : Nat → α) : (List.range l.length).flatMap (fun j => [f (l.getD j 0)]) = l.map f := by
  have e : ∀ r : List Nat, r.flatMap (fun j => [f (l.getD j 0)]) = r.map fun j => f (l.getD j 0) := fun r => by
    induction r with
    | nil => rfl
    | cons x r ih => rw [List.flatMap_cons, ih]; rfl
  rw [e]
  refine List.ext_getElem (by simp) fun i h1 h2 => ?_
  have hi : i < l.length := by simpa using h2
  simp [hi]

set_option maxRecDepth 100000 in
set_option maxHeartbeats 4000000 in
theorem told_c {c Low : Nat} {own : Obj → Bool} {w₀ : World} (hcL : c < Low) (hk : ∀ cs fz, own (.cells cs 3 fz) = false) (kd : Int) (n : Nat) (l : List Nat) (hl : l.length ≤ 4000000000) :
    ∃ r, ∀ (base : Nat) (B : Nat → Obj → Prop) v w, Bks Low base own B → HR c Low base B w₀ v l w → CallsS Tryd.prog c Low own 41 #[.chan (some c), .int .u8 kd, .int .i64 (n : Int), v] r (l.map (dV kd n)) w fun _ w' => Kb c Low base B w₀ w' := by
  co_apply Exists.intro
  intro base B v w hb hF
  have hlen : ∀ ty w, (Builtin.len_ #[23] ty #[v]).run Tryd.prog w = .ok (.int .i64 ((l.length : Nat) : Int)) w := by
    obtain ⟨a, cp, rfl⟩ := hF.shape
    intro ty w
    simp [go_sem]
  have hlenE : ∀ ty w es, (Builtin.len_ #[23] ty #[v]).events Tryd.prog w es = es := by
    obtain ⟨a, cp, rfl⟩ := hF.shape
    intro ty w es
    simp [go_sem]
  co_apply callsS_of_wpS Tryd.func41 (by rfl) rfl
  simp only [Tryd.ntmps41, List.size_toArray, List.length_cons, List.length_nil, Nat.reduceAdd, Nat.reduceSub, Array.replicate_succ, Array.replicate_zero, List.push_toArray, List.append_toArray, List.nil_append, List.cons_append]
  co_apply wpS_stmt
  intro KK hKK
  simp only [List.size_toArray, List.length_cons, List.length_nil, Nat.reduceAdd, Nat.zero_add, List.range, List.range.loop]
  co_opw (HR.rely hk hb) hF (skip) (co_still (termsO c Low own false))
  co_opw (HR.rely hk hb) hF (skip) (co_still (termsO c Low own false))
  co_opw (HR.rely hk hb) hF (skip) (co_still (termsO c Low own false))
  co_apply opsC_nil (termsO c Low own false)
  refine hKK.out _ _ ?_
  clear hKK KK
  co_apply wpS_block
  rw [← flat_one l (dV kd n)]
  co_apply wpS_loop (fun j a w => ∃ u4 u5 u6 u7 u8 u9 u13 u14 u15 u16 u17 u18 u19 u20 u21 : Value, HR c Low base B w₀ v l w ∧ a = { tmps := #[.chan (some c), .int .u8 kd, .int .i64 (n : Int), v, u4, u5, u6, u7, u8, u9, v, .int .i64 ((l.length : Nat) : Int), .int .i64 (j : Int), u13, u14, u15, u16, u17, u18, u19, u20, u21], defers := [] }) _ _ l.length
  · exact ⟨_, _, _, _, _, _, _, _, _, _, _, _, _, _, _, hF, rfl⟩
  · clear hF
    rintro j a w' hj ⟨u4, u5, u6, u7, u8, u9, u13, u14, u15, u16, u17, u18, u19, u20, u21, hS, rfl⟩
    co_apply wpS_cases (p := j < l.length)
    · intro hlt
      rw [if_pos hlt]
      obtain ⟨ad, hx, hxe, hc⟩ := hS.idx hk hb hlt
      generalize l.getD j 0 = x at hc ⊢
      have hd : (j : Int) < ((l.length : Nat) : Int) := by omega
      co_apply wpS_stmt
      intro KK hKK
      simp only [List.size_toArray, List.length_cons, List.length_nil, Nat.zero_add, List.range, List.range.loop]
      co_opw (HR.rely hk hb) hS (skip) (co_still (termsO c Low own false))
      co_apply opsC_nil (termsO c Low own false)
      refine hKK.out _ _ ?_
      clear hKK KK
      co_apply wpS_seq0
      co_apply wpS_true (by rfl)
      co_apply wpS_skip
      dsimp only [thenS]
      co_apply wpS_seqL
      co_apply wpS_block
      co_apply wpS_stmt
      intro KK hKK
      simp only [List.size_toArray, List.length_cons, List.length_nil, Nat.reduceAdd, Nat.zero_add, List.range, List.range.loop]
      co_opw (HR.rely hk hb) hS (skip) (co_still (termsO c Low own false))
      co_opw (HR.rely hk hb) hS (have hcc := (hc _ hS).1) ((refine ⟨Oth.refl .., rfl, ?_⟩; co_evs (exact evO_read (.inr (hc _ hS).2))))
      co_opw (HR.rely hk hb) hS (skip) (co_still (termsO c Low own false))
      co_apply opsC_nil (termsO c Low own false)
      refine hKK.out _ _ ?_
      clear hKK KK
      co_apply wpS_sends
      intro KK hKK
      simp only [List.size_toArray, List.length_cons, List.length_nil, Nat.reduceAdd, Nat.zero_add, List.range, List.range.loop]
      co_apply opsS_cons_k rfl (by rfl)
      intro _ hR K hK
      replace hS := (HR.rely hk hb) hS hR
      clear hR
      skip
      go_simp
      try (unfold stored; go_simp)
      refine hK _ _ ⟨?_, ?_⟩
      · co_still (termsO c Low own false)
      clear hK K
      try walk_nrm
      co_apply opsS_cons_k rfl (by rfl)
      intro _ hR K hK
      replace hS := (HR.rely hk hb) hS hR
      clear hR
      skip
      go_simp
      try (unfold stored; go_simp)
      refine hK _ _ ⟨?_, ?_⟩
      · co_still (termsO c Low own false)
      clear hK K
      try walk_nrm
      co_apply opsS_cons_k rfl (by rfl)
      intro _ hR K hK
      replace hS := (HR.rely hk hb) hS hR
      clear hR
      skip
      go_simp
      try (unfold stored; go_simp)
      refine hK _ _ ⟨?_, ?_⟩
      · co_still (termsO c Low own false)
      clear hK K
      try walk_nrm
      co_apply opsS_cons_k rfl (by rfl)
      intro _ hR K hK
      replace hS := (HR.rely hk hb) hS hR
      clear hR
      skip
      go_simp
      try (unfold stored; go_simp)
      refine hK _ _ ⟨?_, ?_⟩
      · co_still (termsO c Low own false)
      clear hK K
      try walk_nrm
      co_apply opsS_cons_k rfl (by rfl)
      intro _ hR K hK
      replace hS := (HR.rely hk hb) hS hR
      clear hR
      skip
      go_simp
      try (unfold stored; go_simp)
      refine hK _ _ ⟨?_, ?_⟩
      · co_still (termsO c Low own false)
      clear hK K
      try walk_nrm
      co_apply opsS_send rfl (by rfl) rfl (by rfl) (by rfl)
      co_apply opsS_nil
      refine hKK.out _ _ ?_
      clear hKK KK
      dsimp only [thenS, Exit.inBlock]
      co_apply wpS_last
      intro KK hKK
      simp only [List.size_toArray, List.length_cons, List.length_nil, Nat.reduceAdd, Nat.zero_add, List.range, List.range.loop]
      co_opw (HR.rely hk hb) hS (skip) (co_still (termsO c Low own false))
      co_opw (HR.rely hk hb) hS (skip) (co_still (termsO c Low own false))
      co_apply opsC_nil (termsO c Low own false)
      refine hKK.out _ _ ?_
      clear hKK KK
      have e : IntKind.i64.wrap ((j : Int) + 1) = ((j + 1 : Nat) : Int) := by rw [IntKind.wrap_i64]; omega
      rw [e]
      exact ⟨hlt, _, _, _, _, _, _, _, _, _, _, _, _, _, _, _, hS, rfl⟩
    · intro hlt
      rw [if_neg hlt]
      have hd : ¬ (j : Int) < ((l.length : Nat) : Int) := by omega
      co_apply wpS_stmt
      intro KK hKK
      simp only [List.size_toArray, List.length_cons, List.length_nil, Nat.zero_add, List.range, List.range.loop]
      co_opw (HR.rely hk hb) hS (skip) (co_still (termsO c Low own false))
      co_apply opsC_nil (termsO c Low own false)
      refine hKK.out _ _ ?_
      clear hKK KK
      co_apply wpS_seq_out
      co_apply wpS_false (by rfl)
      co_apply wpS_exit
      exact ⟨by simp, by omega, rfl, _, resultsC_none (by rfl) _, hS.kn⟩

end Go.Proofs.YtifdhaiihlfomaaDoor
