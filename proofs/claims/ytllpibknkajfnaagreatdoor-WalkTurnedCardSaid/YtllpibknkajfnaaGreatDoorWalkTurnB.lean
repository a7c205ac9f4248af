/-
  Rows of cells that differ (SameCells); faults are told below the last granule; a header's word turned.
-/
import Derived.Test.YtllpibknkajfnaaGreatDoorWalkTurnA
namespace Go.Proofs.YtllpibknkajfnaaGreatDoor
open Go.RowKit
set_option linter.unusedVariables false

theorem cel_ne {x y : Cel} (h : ¬ x = y) : (!((x.g : Int) == (y.g : Int) && ((x.tag : Int) == (y.tag : Int) && ((x.ty : Int) == (y.ty : Int) && ((x.ln : Int) == (y.ln : Int) && (x.sz : Int) == (y.sz : Int)))))) = true := by
  rw [Bool.not_eq_true', ← Bool.not_eq_true]
  intro e
  simp only [Bool.and_eq_true, beq_iff_eq] at e
  obtain ⟨e0, e1, e2, e3, e4⟩ := e
  apply h
  cases x
  cases y
  simp only at e0 e1 e2 e3 e4
  simp only [Cel.mk.injEq]
  omega

theorem cel_eq (x : Cel) : (!((x.g : Int) == (x.g : Int) && ((x.tag : Int) == (x.tag : Int) && ((x.ty : Int) == (x.ty : Int) && ((x.ln : Int) == (x.ln : Int) && (x.sz : Int) == (x.sz : Int)))))) = false := by simp

set_option maxHeartbeats 2000000 in
theorem SameC_no (xs ys : List Cel) (v u : Value) (w : World) (hv : RowC w v xs) (hu : RowC w u ys) (hlen : xs.length ≤ 9223372036854775806) (hlen2 : ys.length ≤ 9223372036854775806) (hne : ¬ xs = ys) :
    Calls Tryz.prog 25 #[v, u] w fun e w' => e = .returned (.bool false) ∧ Keep Nope w w' := by
  have HV : Seal _ := ⟨hv⟩
  have HU : Seal _ := ⟨hu⟩
  obtain ⟨va, vc, rfl, -⟩ := hv
  obtain ⟨ua, uc, rfl, -⟩ := hu
  obtain ⟨len, hl1⟩ : ∃ len, xs.length = len := ⟨_, rfl⟩
  obtain ⟨len2, hl2⟩ : ∃ len, ys.length = len := ⟨_, rfl⟩
  rw [hl1] at HV hlen ⊢
  rw [hl2] at HU hlen2 ⊢
  have HL : Seal _ := ⟨hl1⟩
  have HL2 : Seal _ := ⟨hl2⟩
  have HNe : Seal _ := ⟨hne⟩
  clear hl1 hl2 hne
  by_cases hll : len = len2
  · subst hll
    go_enter Tryz.func25, Tryz.ntmps25
    go_wp2_with fail
    go_loopw [5] (fun y wr => ∃ j : Nat, j ≤ len ∧ y = .int .i64 (j : Nat) ∧ Seal (xs.take j = ys.take j) ∧ Keep Nope w wr) (fun y _ => len - (intOf y).toNat)
    case atStart => exact ⟨0, Nat.zero_le _, rfl, ⟨rfl⟩, Keep.refl _ _⟩
    case round =>
      obtain ⟨j, hj, rfl, HP, hk⟩ := hrel
      by_cases hjl : j < len
      · have hjl' : (j : Int) < len := by omega
        obtain ⟨va', vc', e, hx⟩ := HV.out
        injection e with e1 e3 e2
        clear e3
        subst e1 e2
        obtain ⟨ua', uc', e, hy⟩ := HU.out
        injection e with e1 e3 e2
        clear e3
        subst e1 e2
        obtain ⟨x, hxj⟩ : ∃ x, xs[j]? = some x := ⟨xs[j]'(by rw [HL.out]; omega), List.getElem?_eq_getElem (by rw [HL.out]; omega)⟩
        obtain ⟨y, hyj⟩ : ∃ x, ys[j]? = some x := ⟨ys[j]'(by rw [HL2.out]; omega), List.getElem?_eq_getElem (by rw [HL2.out]; omega)⟩
        obtain ⟨b, rfl, hbl, x0, x1, x2, x3, x4⟩ := hx j x hxj
        obtain ⟨b', rfl, hbl', y0, y1, y2, y3, y4⟩ := hy j y hyj
        replace x0 := hk.cell x0 (fun h => h)
        replace x1 := hk.cell x1 (fun h => h)
        replace x2 := hk.cell x2 (fun h => h)
        replace x3 := hk.cell x3 (fun h => h)
        replace x4 := hk.cell x4 (fun h => h)
        replace y0 := hk.cell y0 (fun h => h)
        replace y1 := hk.cell y1 (fun h => h)
        replace y2 := hk.cell y2 (fun h => h)
        replace y3 := hk.cell y3 (fun h => h)
        replace y4 := hk.cell y4 (fun h => h)
        by_cases hxy : x = y
        · subst hxy
          have HP2 : Seal (xs.take (j + 1) = ys.take (j + 1)) := ⟨by rw [List.take_add_one, List.take_add_one, HP.out, hxj, hyj]⟩
          have hn : ∀ w, (binOp .neq 62 (.agg #[.int .i64 (x.g : Int), .int .u8 (x.tag : Int), .int .i64 (x.ty : Int), .int .i64 (x.ln : Int), .int .i64 (x.sz : Int)]) (.agg #[.int .i64 (x.g : Int), .int .u8 (x.tag : Int), .int .i64 (x.ty : Int), .int .i64 (x.ln : Int), .int .i64 (x.sz : Int)])).run Tryz.prog w = .ok (.bool false) w := fun w => by rw [run_neq_cell, cel_eq]
          clear hx hy hxj hyj
          go_wp2_with fail
          go_quiet (fail)
          go_wp2
          refine ⟨⟨j + 1, by omega, by go_num, HP2, hk.then' (Keep.of_drewN _)⟩, by simp only [intOf]; omega⟩
        · have hn : ∀ w, (binOp .neq 62 (.agg #[.int .i64 (x.g : Int), .int .u8 (x.tag : Int), .int .i64 (x.ty : Int), .int .i64 (x.ln : Int), .int .i64 (x.sz : Int)]) (.agg #[.int .i64 (y.g : Int), .int .u8 (y.tag : Int), .int .i64 (y.ty : Int), .int .i64 (y.ln : Int), .int .i64 (y.sz : Int)])).run Tryz.prog w = .ok (.bool true) w := fun w => by rw [run_neq_cell, cel_ne hxy]
          clear hx hy hxj hyj hxy
          go_wp2_with fail
          go_quiet (fail)
          go_wp2
          go_ret
          exact ⟨rfl, hk.then' (Keep.of_drewN _)⟩
      · exfalso
        have := HP.out
        rw [List.take_of_length_le (by rw [HL.out]; omega), List.take_of_length_le (by rw [HL2.out]; omega)] at this
        exact HNe.out this
  · have hd : ((len : Int) != (len2 : Int)) = true := by rw [bne_iff_ne]; omega
    go_enter Tryz.func25, Tryz.ntmps25
    go_wp2
    go_ret
    exact ⟨rfl, Keep.refl _ _⟩

/-- What is wrong lies below the last granule. -/
theorem faultsL_lt {P : Sp} {W : Nat → Nat} {st : Nat → Bool} {cs : List Cel} {E : Nat} (hc : CellsTo P W cs E) {x : Nat × Nat × Nat} (h : x ∈ faultsL P.ts (P.n / 2) W st cs E) : x.1 < P.n / 2 := by
  have hle := hc.le
  unfold faultsL at h
  rw [List.mem_append, List.mem_append] at h
  rcases h with (h | h) | h
  · unfold faultsS at h
    rw [List.mem_flatMap] at h
    obtain ⟨i, hi, hx⟩ := h
    rw [List.mem_range] at hi
    have : x.1 = i := by
      unfold faultS at hx
      split at hx <;> split at hx <;> simp at hx <;> rw [hx]
    omega
  · unfold faultsE at h
    split at h
    · simp at h
      rw [h]
      assumption
    · cases h
  · unfold faultsR at h
    rw [List.mem_flatMap] at h
    obtain ⟨y, hy, hx⟩ := h
    have e : x.1 = y.1 := by
      unfold faultR at hx
      split at hx
      · simp at hx
        rw [hx]
      · cases hx
    unfold refsW at hy
    rw [List.mem_flatMap] at hy
    obtain ⟨c, hcm, hy⟩ := hy
    rw [List.mem_map] at hy
    obtain ⟨s, -, rfl⟩ := hy
    have hm := hc.tl.mem (mem_objsOf.1 hcm).1
    simp only at e
    have : c.g < E := by
      have h2 := hm.2.1
      omega
    omega

/-- A header's word turned: no longer these cells. -/
theorem turned_ne {P : Sp} {W : Nat → Nat} {cs cs' : List Cel} {E z : Nat} {c : Cel} (hc : CellsAt P W cs) (hm : c ∈ cs) (hz : ¬ z = W (2 * c.g)) (hc' : CellsTo P (updW W (2 * c.g) z) cs' E) : ¬ cs' = cs := by
  intro e
  subst e
  have h1 := hc.hd c hm
  have h2 := hc'.hd c hm
  rw [updW, if_pos rfl] at h2
  exact hz (h2.trans h1.symm)

theorem xor_ne {a b : Nat} (hb : ¬ b = 0) : ¬ a ^^^ b = a := by
  intro e
  apply hb
  have h : a ^^^ (a ^^^ b) = a ^^^ a := by rw [e]
  rw [← Nat.xor_assoc, Nat.xor_self, Nat.zero_xor] at h
  exact h

end Go.Proofs.YtllpibknkajfnaaGreatDoor
