/-
  skerryref38.Same at two rows that hold the same differences.
-/
import Derived.Test.YtifdhaiihlfomaaDoorDiNoneP
import Derived.Laws.StructEq
namespace Go.Proofs.YtifdhaiihlfomaaDoor
open Go Go.RowKit Go.Conc
set_option linter.unusedVariables false

/-- A row of differences. -/
def RowD (w : World) (v : Value) (L : List Value) : Prop :=
  ∃ a c, v = .slice a L.length c ∧ ∀ i x, L[i]? = some x → ∃ (b : Nat) (kd : Int) (n k : Nat), a = some ⟨b, 0, none⟩ ∧ x = dV kd n k ∧ b < w.heap.size ∧ w.cell? ⟨b, i * 3, none⟩ = some (.int .u8 kd) ∧ w.cell? ⟨b, i * 3 + 1, none⟩ = some (.int .i64 (n : Int)) ∧ w.cell? ⟨b, i * 3 + 2, none⟩ = some (.int .i64 (k : Int))
theorem RowD.kb {w w' : World} {v : Value} {L : List Value} (h : RowD w v L) (hk : Older w w') : RowD w' v L := by
  obtain ⟨a, c, rfl, h⟩ := h
  refine ⟨a, c, rfl, fun i x hx => ?_⟩
  obtain ⟨b, kd, n, k, h1, h2, h3, h4, h5, h6⟩ := h i x hx
  exact ⟨b, kd, n, k, h1, h2, Nat.lt_of_lt_of_le h3 hk.size, hk.cell h4, hk.cell h5, hk.cell h6⟩
theorem cellsOf_at : ∀ (L : List Value), (∀ v ∈ L, IsD v) → ∀ (i j : Nat) (x : Value), L[i]? = some x → j < 3 → (L.flatMap cellsOf)[i * 3 + j]? = (cellsOf x)[j]?
  | [], _, i, j, x, h, _ => by simp at h
  | y :: L, hL, i, j, x, h, hj => by
    obtain ⟨kd, n, k, hy⟩ := hL y (List.mem_cons_self ..)
    have h3 : (cellsOf y).length = 3 := by rw [hy]; rfl
    rw [List.flatMap_cons]
    match i, h with
    | 0, h =>
      obtain rfl : y = x := by simpa using h
      rw [Nat.zero_mul, Nat.zero_add, List.getElem?_append_left (by omega)]
    | i + 1, h =>
      rw [List.getElem?_append_right (by omega), h3, show (i + 1) * 3 + j - 3 = i * 3 + j by omega]
      exact cellsOf_at L (fun v hv => hL v (List.mem_cons_of_mem _ hv)) i j x (by simpa using h) hj
theorem rowD_of_own {w : World} {base : Nat} {v : Value} {L : List Value} (h : w.ownsRow base 27 3 v L.length (L.flatMap cellsOf)) (hL : ∀ v ∈ L, IsD v) : RowD w v L := by
  have h0 := h
  obtain ⟨hl, hcase⟩ := h
  rcases hcase with ⟨rfl, h2⟩ | ⟨g, cap, cur, rfl, hg, hh, hn, hcap, hsz, htake⟩
  · refine ⟨none, 0, by rw [h2], fun i x hx => ?_⟩
    have := (List.getElem?_eq_some_iff.1 hx).1
    omega
  · refine ⟨some ⟨g, 0, none⟩, cap, rfl, fun i x hx => ?_⟩
    have hi := (List.getElem?_eq_some_iff.1 hx).1
    obtain ⟨kd, n, k, rfl⟩ := hL x (List.mem_of_getElem? hx)
    have hc : ∀ j, j < 3 → w.cell? ⟨g, i * 3 + j, none⟩ = (cellsOf (dV kd n k))[j]? := fun j hj => by
      rw [h0.cellAt (i * 3 + j) (by omega), cellsOf_at L hL i j _ hx hj]
    exact ⟨g, kd, n, k, rfl, rfl, (Array.getElem?_eq_some_iff.1 hh).1, hc 0 (by omega), hc 1 (by omega), hc 2 (by omega)⟩

theorem run_eq_diff (a b c a' b' c' : Int) (w : World) : (Op.equalIn 10000 27 (.agg #[.int .u8 a, .int .i64 b, .int .i64 c]) (.agg #[.int .u8 a', .int .i64 b', .int .i64 c'])).run Tryd.prog w = .ok (a == a' && (b == b' && c == c')) w := by
  have u3 := Tryd.underlying3
  have a3 := Tryd.isAgg3
  have z3 := Tryd.sizeOf3
  have u5 := Tryd.underlying5
  have a5 := Tryd.isAgg5
  have z5 := Tryd.sizeOf5
  have hS : Tryd.prog.underlying 27 = some (.struct (Tryd.prog.fieldsOf 27)) := by kernel_rfl
  rw [show (10000 : Nat) = 9999 + 1 from rfl, run_equalIn_agg w 9999 27 _ _ hS (by kernel_rfl)]
  simp only [Program.fieldsOf, Tryd.underlying27]
  go_simp
  by_cases h0 : a = a' <;> by_cases h1 : b = b' <;> by_cases h2 : c = c' <;> simp [h0, h1, h2]
theorem run_neq_diff (a b c a' b' c' : Int) (w : World) : (binOp .neq 27 (.agg #[.int .u8 a, .int .i64 b, .int .i64 c]) (.agg #[.int .u8 a', .int .i64 b', .int .i64 c'])).run Tryd.prog w = .ok (.bool (!(a == a' && (b == b' && c == c')))) w := by
  rw [run_neq_struct, run_eq_diff]; rfl

section
-- The type's number here: 27.
attribute [local go_sem ↓] run_neq_diff

set_option maxHeartbeats 2000000 in
theorem SameD_R {L : List Value} {v u : Value} {w : World} (hv : RowD w v L) (hu : RowD w u L) (hlen : L.length ≤ 9223372036854775806) :
    Calls Tryd.prog 8 #[v, u] w fun e w' => e = .returned (.bool true) ∧ Keep Nope w w' := by
  have HV : Seal _ := ⟨hv⟩
  have HU : Seal _ := ⟨hu⟩
  obtain ⟨va, vc, rfl, -⟩ := hv
  obtain ⟨ua, uc, rfl, -⟩ := hu
  obtain ⟨len, hlen'⟩ : ∃ len, L.length = len := ⟨_, rfl⟩
  rw [hlen'] at HV HU hlen ⊢
  have HL : Seal _ := ⟨hlen'⟩
  clear hlen'
  go_enter Tryd.func8, Tryd.ntmps8
  go_wp2_with fail
  go_loopw [5] (fun y wr => ∃ j : Nat, j ≤ len ∧ y = .int .i64 (j : Nat) ∧ Keep Nope w wr) (fun y _ => len - (intOf y).toNat)
  case atStart => exact ⟨0, Nat.zero_le _, rfl, Keep.refl _ _⟩
  case round =>
    obtain ⟨j, hj, rfl, hk⟩ := hrel
    by_cases hjl : j < len
    · have hjl' : (j : Int) < len := by omega
      obtain ⟨va', vc', e, hx⟩ := HV.out
      injection e with e1 e3 e2
      clear e3
      subst e1 e2
      obtain ⟨ua', uc', e, hy⟩ := HU.out
      injection e with e1 e3 e2
      clear e3
      subst e1 e2
      obtain ⟨x, hxj⟩ : ∃ x, L[j]? = some x := ⟨L[j]'(by rw [HL.out]; omega), List.getElem?_eq_getElem (by rw [HL.out]; omega)⟩
      obtain ⟨b, kd, n, k, rfl, rfl, -, x0, x1, x2⟩ := hx j x hxj
      obtain ⟨b', kd', n', k', rfl, e9, -, y0, y1, y2⟩ := hy j _ hxj
      unfold dV at e9
      injection e9 with e9
      simp only [Array.mk.injEq, List.cons.injEq, Value.int.injEq, true_and, and_true] at e9
      obtain ⟨rfl, e10, e11⟩ := e9
      obtain rfl : n = n' := by omega
      obtain rfl : k = k' := by omega
      clear hx hy hxj e10 e11
      replace x0 := hk.cell x0 (fun h => h)
      replace x1 := hk.cell x1 (fun h => h)
      replace x2 := hk.cell x2 (fun h => h)
      replace y0 := hk.cell y0 (fun h => h)
      replace y1 := hk.cell y1 (fun h => h)
      replace y2 := hk.cell y2 (fun h => h)
      go_wp2_with fail
      go_quiet (fail)
      go_wp2
      refine ⟨⟨j + 1, by omega, by go_num, hk.then' (Keep.of_drewN _)⟩, by simp only [intOf]; omega⟩
    · have hjl' : ¬ (j : Int) < len := by omega
      go_wp2
      go_ret
      exact ⟨rfl, hk⟩

end
theorem SameD_D {L : List Value} {v u : Value} {w : World} (hv : RowD w v L) (hu : RowD w u L) (hlen : L.length ≤ 9223372036854775806) :
    CallsD Tryd.prog 8 #[v, u] w fun r w' => r = .bool true ∧ Older w w' :=
  callsD_of_calls envD_ok calmD rfl (fun i h => by cases h) (fun v w' τ d ⟨h1, h3⟩ => ⟨h1, h3.to _ _⟩)
    fun τ => (SameD_R (w := onT w τ 0) (hv.kb (Older.onT _ _ _)) (hu.kb (Older.onT _ _ _)) hlen).mono fun e w' ⟨he, h3⟩ => ⟨_, he, rfl, (Older.of_keep h3).from⟩
theorem SameG_D {a b : GraphV} {w : World} (ha : GraphR w a) (hb : GraphR w b) (hl : GraphL a) :
    CallsD Tryd.prog 19 #[a.val, b.val] w fun v w' => v = .bool (sameG a b) ∧ Older w w' :=
  callsD_of_calls envD_ok calmD rfl (fun i h => by cases h) (fun v w' τ d ⟨h1, h3⟩ => ⟨h1, h3.to _ _⟩)
    fun τ => (SameGraph_R (w := onT w τ 0) (ha.kb (Older.onT _ _ _)) (hb.kb (Older.onT _ _ _)) hl).mono fun e w' ⟨he, h3⟩ => ⟨_, he, rfl, (Older.of_keep h3).from⟩

end Go.Proofs.YtifdhaiihlfomaaDoor
