/-
  The document's SameFaults, SameEdges, SameRuns, where two rows are the same.
-/
import Derived.Test.YtllpibknkajfnaaGreatDoorWalkCheck
import Derived.Test.YtllpibknkajfnaaGreatDoorWalkB
namespace Go.Proofs.YtllpibknkajfnaaGreatDoor
open Go.RowKit
set_option linter.unusedVariables false

theorem run_eq_fault (a b c a' b' c' : Int) (w : World) : (Op.equalIn 10000 47 (.agg #[.int .i64 a, .int .i64 b, .int .i64 c]) (.agg #[.int .i64 a', .int .i64 b', .int .i64 c'])).run Tryz.prog w = .ok (a == a' && (b == b' && c == c')) w := by
  have u3 := Tryz.underlying3
  have a3 := Tryz.isAgg3
  have z3 := Tryz.sizeOf3
  have uE := Tryz.underlying37
  have aE := Tryz.isAgg37
  have zE := Tryz.sizeOf37
  have hS : Tryz.prog.underlying 47 = some (.struct (Tryz.prog.fieldsOf 47)) := by kernel_rfl
  rw [show (10000 : Nat) = 9999 + 1 from rfl, run_equalIn_agg w 9999 47 _ _ hS (by kernel_rfl)]
  simp only [Program.fieldsOf, Tryz.underlying47]
  go_simp
  by_cases h0 : a = a' <;> by_cases h1 : b = b' <;> by_cases h2 : c = c' <;> simp [h0, h1, h2]

theorem run_neq_fault (a b c a' b' c' : Int) (w : World) : (binOp .neq 47 (.agg #[.int .i64 a, .int .i64 b, .int .i64 c]) (.agg #[.int .i64 a', .int .i64 b', .int .i64 c'])).run Tryz.prog w = .ok (.bool (!(a == a' && (b == b' && c == c')))) w := by
  rw [run_neq_struct, run_eq_fault]; rfl

theorem run_eq_edge (a b c a' b' c' : Int) (w : World) : (Op.equalIn 10000 81 (.agg #[.int .i64 a, .int .i64 b, .int .i64 c]) (.agg #[.int .i64 a', .int .i64 b', .int .i64 c'])).run Tryz.prog w = .ok (a == a' && (b == b' && c == c')) w := by
  have u3 := Tryz.underlying3
  have a3 := Tryz.isAgg3
  have z3 := Tryz.sizeOf3
  have hS : Tryz.prog.underlying 81 = some (.struct (Tryz.prog.fieldsOf 81)) := by kernel_rfl
  rw [show (10000 : Nat) = 9999 + 1 from rfl, run_equalIn_agg w 9999 81 _ _ hS (by kernel_rfl)]
  simp only [Program.fieldsOf, Tryz.underlying81]
  go_simp
  by_cases h0 : a = a' <;> by_cases h1 : b = b' <;> by_cases h2 : c = c' <;> simp [h0, h1, h2]

theorem run_neq_edge (a b c a' b' c' : Int) (w : World) : (binOp .neq 81 (.agg #[.int .i64 a, .int .i64 b, .int .i64 c]) (.agg #[.int .i64 a', .int .i64 b', .int .i64 c'])).run Tryz.prog w = .ok (.bool (!(a == a' && (b == b' && c == c')))) w := by
  rw [run_neq_struct, run_eq_edge]; rfl

theorem run_eq_tally (a b c d e f a' b' c' d' e' f' : Int) (w : World) : (Op.equalIn 10000 49 (.agg #[.int .i64 a, .int .i64 b, .int .i64 c, .int .i64 d, .int .i64 e, .int .i64 f]) (.agg #[.int .i64 a', .int .i64 b', .int .i64 c', .int .i64 d', .int .i64 e', .int .i64 f'])).run Tryz.prog w = .ok (a == a' && (b == b' && (c == c' && (d == d' && (e == e' && f == f'))))) w := by
  have u3 := Tryz.underlying3
  have a3 := Tryz.isAgg3
  have z3 := Tryz.sizeOf3
  have hS : Tryz.prog.underlying 49 = some (.struct (Tryz.prog.fieldsOf 49)) := by kernel_rfl
  rw [show (10000 : Nat) = 9999 + 1 from rfl, run_equalIn_agg w 9999 49 _ _ hS (by kernel_rfl)]
  simp only [Program.fieldsOf, Tryz.underlying49]
  go_simp
  by_cases h0 : a = a' <;> by_cases h1 : b = b' <;> by_cases h2 : c = c' <;> by_cases h3 : d = d' <;> by_cases h4 : e = e' <;> by_cases h5 : f = f' <;> simp [h0, h1, h2, h3, h4, h5]

theorem run_eql_tally (a b c d e f a' b' c' d' e' f' : Int) (w : World) : (binOp .eql 49 (.agg #[.int .i64 a, .int .i64 b, .int .i64 c, .int .i64 d, .int .i64 e, .int .i64 f]) (.agg #[.int .i64 a', .int .i64 b', .int .i64 c', .int .i64 d', .int .i64 e', .int .i64 f'])).run Tryz.prog w = .ok (.bool (a == a' && (b == b' && (c == c' && (d == d' && (e == e' && f == f')))))) w := by
  rw [run_eql_struct, run_eq_tally]; rfl

/-- The value v is a row of triples, wherever it begins. -/
def RowO (w : World) (v : Value) (es : List (Nat × Nat × Nat)) : Prop :=
  ∃ a cap, v = .slice a es.length cap ∧ ∀ i x, es[i]? = some x → ∃ b o, a = some ⟨b, o, none⟩ ∧ b < w.heap.size ∧
    w.cell? ⟨b, o + i * 3, none⟩ = some (.int .i64 (x.1 : Nat)) ∧ w.cell? ⟨b, o + i * 3 + 1, none⟩ = some (.int .i64 (x.2.1 : Nat)) ∧ w.cell? ⟨b, o + i * 3 + 2, none⟩ = some (.int .i64 (x.2.2 : Nat))

theorem RowO.of_owns {T : TypeId} {w : World} {base : Nat} {v : Value} {es : List (Nat × Nat × Nat)} (h : w.ownsRow base T 3 v es.length (flatE es)) : RowO w v es := by
  rcases h.2 with ⟨rfl, h0⟩ | ⟨g, cap, cur, rfl, g2, g3, g4, g5, g6, g7⟩
  · exact ⟨none, 0, by rw [h0], fun i x hx => by have := (List.getElem?_eq_some_iff.1 hx).1; omega⟩
  · refine ⟨some ⟨g, 0, none⟩, cap, rfl, fun i x hx => ?_⟩
    have hi := (List.getElem?_eq_some_iff.1 hx).1
    obtain ⟨x0, x1, x2⟩ := flatE_at es i x hx
    have key : ∀ j, j < es.length * 3 → w.cell? ⟨g, j, none⟩ = (flatE es)[j]? := fun j hj => by
      rw [← g7, List.getElem?_take_of_lt hj]
      simp [World.cell?, g3]
    exact ⟨g, 0, rfl, lt_of_heap g3, by rw [Nat.zero_add, key _ (by omega)]; exact x0, by rw [Nat.zero_add, key _ (by omega)]; exact x1, by rw [Nat.zero_add, key _ (by omega)]; exact x2⟩

theorem RowO.keepN {w w' : World} {v : Value} {es : List (Nat × Nat × Nat)} (h : RowO w v es) (k : Keep Nope w w') : RowO w' v es := by
  obtain ⟨a, cap, rfl, h⟩ := h
  refine ⟨a, cap, rfl, fun i x hi => ?_⟩
  obtain ⟨b, o, rfl, h1, h2, h3, h4⟩ := h i x hi
  exact ⟨b, o, rfl, Nat.lt_of_lt_of_le h1 k.size, k.cell h2 (fun h => h), k.cell h3 (fun h => h), k.cell h4 (fun h => h)⟩

section
attribute [local go_sem ↓] run_neq_fault

set_option maxHeartbeats 2000000 in
theorem SameFaults_yes (cs : List (Nat × Nat × Nat)) (v u : Value) (w : World) (hv : RowO w v cs) (hu : RowO w u cs) (hlen : cs.length ≤ 9223372036854775806) :
    Calls Tryz.prog 21 #[v, u] w fun e w' => e = .returned (.bool true) ∧ Keep Nope w w' := by
  have HV : Seal _ := ⟨hv⟩
  have HU : Seal _ := ⟨hu⟩
  obtain ⟨va, vc, rfl, -⟩ := hv
  obtain ⟨ua, uc, rfl, -⟩ := hu
  obtain ⟨len, hlen'⟩ : ∃ len, cs.length = len := ⟨_, rfl⟩
  rw [hlen'] at HV HU hlen ⊢
  have HL : Seal _ := ⟨hlen'⟩
  clear hlen'
  go_enter Tryz.func21, Tryz.ntmps21
  go_wp2_with fail
  go_loopw [5] (fun y wr => ∃ j : Nat, j ≤ len ∧ y = .int .i64 (j : Nat) ∧ Keep Nope w wr) (fun y _ => len - (intOf y).toNat)
  case atStart => exact ⟨0, Nat.zero_le _, rfl, Keep.refl _ _⟩
  case round =>
    obtain ⟨j, hj, rfl, hk⟩ := hrel
    by_cases hjl : j < len
    · have hjl' : (j : Int) < len := by omega
      obtain ⟨va', vc', e, hx⟩ := HV.out
      injection e with e1 e3 e2
      clear e3
      subst e1 e2
      obtain ⟨ua', uc', e, hy⟩ := HU.out
      injection e with e1 e3 e2
      clear e3
      subst e1 e2
      obtain ⟨x, hxj⟩ : ∃ x, cs[j]? = some x := ⟨cs[j]'(by rw [HL.out]; omega), List.getElem?_eq_getElem (by rw [HL.out]; omega)⟩
      obtain ⟨b, o, rfl, hbl, x0, x1, x2⟩ := hx j x hxj
      obtain ⟨b', o', rfl, hbl', y0, y1, y2⟩ := hy j x hxj
      clear hx hy hxj
      replace x0 := hk.cell x0 (fun h => h)
      replace x1 := hk.cell x1 (fun h => h)
      replace x2 := hk.cell x2 (fun h => h)
      replace y0 := hk.cell y0 (fun h => h)
      replace y1 := hk.cell y1 (fun h => h)
      replace y2 := hk.cell y2 (fun h => h)
      go_wp2_with fail
      go_quiet (fail)
      go_wp2
      refine ⟨⟨j + 1, by omega, by go_num, hk.then' (Keep.of_drewN _)⟩, by simp only [intOf]; omega⟩
    · have hjl' : ¬ (j : Int) < len := by omega
      go_wp2
      go_ret
      exact ⟨rfl, hk⟩
end

section
attribute [local go_sem ↓] run_neq_edge

set_option maxHeartbeats 2000000 in
theorem SameEdges_yes (cs : List (Nat × Nat × Nat)) (v u : Value) (w : World) (hv : RowO w v cs) (hu : RowO w u cs) (hlen : cs.length ≤ 9223372036854775806) :
    Calls Tryz.prog 36 #[v, u] w fun e w' => e = .returned (.bool true) ∧ Keep Nope w w' := by
  have HV : Seal _ := ⟨hv⟩
  have HU : Seal _ := ⟨hu⟩
  obtain ⟨va, vc, rfl, -⟩ := hv
  obtain ⟨ua, uc, rfl, -⟩ := hu
  obtain ⟨len, hlen'⟩ : ∃ len, cs.length = len := ⟨_, rfl⟩
  rw [hlen'] at HV HU hlen ⊢
  have HL : Seal _ := ⟨hlen'⟩
  clear hlen'
  go_enter Tryz.func36, Tryz.ntmps36
  go_wp2_with fail
  go_loopw [5] (fun y wr => ∃ j : Nat, j ≤ len ∧ y = .int .i64 (j : Nat) ∧ Keep Nope w wr) (fun y _ => len - (intOf y).toNat)
  case atStart => exact ⟨0, Nat.zero_le _, rfl, Keep.refl _ _⟩
  case round =>
    obtain ⟨j, hj, rfl, hk⟩ := hrel
    by_cases hjl : j < len
    · have hjl' : (j : Int) < len := by omega
      obtain ⟨va', vc', e, hx⟩ := HV.out
      injection e with e1 e3 e2
      clear e3
      subst e1 e2
      obtain ⟨ua', uc', e, hy⟩ := HU.out
      injection e with e1 e3 e2
      clear e3
      subst e1 e2
      obtain ⟨x, hxj⟩ : ∃ x, cs[j]? = some x := ⟨cs[j]'(by rw [HL.out]; omega), List.getElem?_eq_getElem (by rw [HL.out]; omega)⟩
      obtain ⟨b, o, rfl, hbl, x0, x1, x2⟩ := hx j x hxj
      obtain ⟨b', o', rfl, hbl', y0, y1, y2⟩ := hy j x hxj
      clear hx hy hxj
      replace x0 := hk.cell x0 (fun h => h)
      replace x1 := hk.cell x1 (fun h => h)
      replace x2 := hk.cell x2 (fun h => h)
      replace y0 := hk.cell y0 (fun h => h)
      replace y1 := hk.cell y1 (fun h => h)
      replace y2 := hk.cell y2 (fun h => h)
      go_wp2_with fail
      go_quiet (fail)
      go_wp2
      refine ⟨⟨j + 1, by omega, by go_num, hk.then' (Keep.of_drewN _)⟩, by simp only [intOf]; omega⟩
    · have hjl' : ¬ (j : Int) < len := by omega
      go_wp2
      go_ret
      exact ⟨rfl, hk⟩
end

/-- A row of one run. -/
theorem SameRuns_one (a b : Int) (g g' cap cap' : Nat) (w : World) (c0 : w.cell? ⟨g, 0, none⟩ = some (.int .i64 a)) (c1 : w.cell? ⟨g, 1, none⟩ = some (.int .i64 b)) (d0 : w.cell? ⟨g', 0, none⟩ = some (.int .i64 a)) (d1 : w.cell? ⟨g', 1, none⟩ = some (.int .i64 b)) :
    Calls Tryz.prog 37 #[.slice (some ⟨g, 0, none⟩) 1 cap, .slice (some ⟨g', 0, none⟩) 1 cap'] w fun e w' => e = .returned (.bool true) ∧ Keep Nope w w' := by
  have hn := run_neq_run a b a b
  go_enter Tryz.func37, Tryz.ntmps37
  go_wp2_with fail
  go_loopw [5] (fun y wr => ∃ j : Nat, j ≤ 1 ∧ y = .int .i64 (j : Nat) ∧ Keep Nope w wr) (fun y _ => 1 - (intOf y).toNat)
  case atStart => exact ⟨0, Nat.zero_le _, rfl, Keep.refl _ _⟩
  case round =>
    obtain ⟨j, hj, rfl, hk⟩ := hrel
    by_cases hjl : j < 1
    · obtain rfl : j = 0 := by omega
      replace c0 := hk.cell c0 (fun h => h)
      replace c1 := hk.cell c1 (fun h => h)
      replace d0 := hk.cell d0 (fun h => h)
      replace d1 := hk.cell d1 (fun h => h)
      go_wp2_with fail
      go_quiet (fail)
      go_wp2
      exact ⟨⟨1, by omega, by go_num, hk.then' (Keep.of_drewN _)⟩, by simp only [intOf]; omega⟩
    · obtain rfl : j = 1 := by omega
      go_wp2
      go_ret
      exact ⟨rfl, hk⟩

end Go.Proofs.YtllpibknkajfnaaGreatDoor
