/-
  Rows of whole numbers and of words in memory; the program's and the library's comparisons, copies and searches of them.
-/
import Derived.Test.YtifdhaiihlfomaaDoorLibA
import Derived.Test.YtifdhaiihlfomaaDoorChecked
import Derived.OwnWalk
import Derived.Laws.Cover3
import Derived.Maps.AppendAt
import Derived.Deep.AppendLies
import Derived.Deep.RegionHeld3
namespace Go.Proofs.YtifdhaiihlfomaaDoor
open Go Go.RowKit
set_option linter.unusedVariables false

theorem run_eql_slice_nil {P : Program} {w : World} (t e : TypeId) (a : Option Addr) (l c : Nat) (h : P.underlying t = some (.slice e)) : (binOp .eql t (.slice a l c) (.slice none 0 0)).run P w = .ok (.bool a.isNone) w := by
  simp only [binOp]
  simp [run_equal_slice_nil w t e a l c h]
/-- The value is a row of these numbers. -/
def RowR (k : IntKind) (w : World) (v : Value) (xs : List Int) : Prop :=
  ∃ a c, v = .slice a xs.length c ∧ ∀ i x, xs[i]? = some x → ∃ b o, a = some ⟨b, o, none⟩ ∧ b < w.heap.size ∧ w.cell? ⟨b, o + i, none⟩ = some (.int k x)
theorem RowR.keep {k : IntKind} {w w' : World} {v : Value} {xs : List Int} (h : RowR k w v xs) (hk : Keep Nope w w') : RowR k w' v xs := by
  obtain ⟨a, c, rfl, h⟩ := h
  refine ⟨a, c, rfl, fun i x hx => ?_⟩
  obtain ⟨b, o, rfl, h1, h2⟩ := h i x hx
  exact ⟨b, o, rfl, Nat.lt_of_lt_of_le h1 hk.size, hk.cell h2 (fun h => h)⟩
theorem Keep.then' {a b c : World} (h : Keep Nope a b) (k : Keep Nope b c) : Keep Nope a c := h.trans k (fun _ _ h => h)
theorem keepc {w w' : World} {p : Addr} {v : Value} (h : Keep Nope w w') (c : w.cell? p = some v) : w'.cell? p = some v := h.cell c (fun h => h)
theorem row_same {xs ys : List Int} (h : xs.length = ys.length) (he : ∀ i, i < xs.length → xs[i]? = ys[i]?) : xs = ys := by
  refine List.ext_getElem? fun i => ?_
  rcases Nat.lt_or_ge i xs.length with hi | hi
  · exact he i hi
  · rw [List.getElem?_eq_none hi, List.getElem?_eq_none (by omega)]

set_option maxHeartbeats 1000000 in
theorem SameInts_R {xs ys : List Int} {v u : Value} {w : World} (hv : RowR .i64 w v xs) (hu : RowR .i64 w u ys) (hl : xs.length ≤ 9223372036854775806) :
    Calls Tryd.prog 26 #[v, u] w fun e w' => e = .returned (.bool (decide (xs = ys))) ∧ Keep Nope w w' := by
  obtain ⟨va, vc, rfl, hx⟩ := hv
  obtain ⟨ua, uc, rfl, hy⟩ := hu
  have HX : Seal _ := ⟨hx⟩
  have HY : Seal _ := ⟨hy⟩
  clear hx hy
  obtain ⟨N, hN⟩ : ∃ N, xs.length = N := ⟨_, rfl⟩
  obtain ⟨M, hM⟩ : ∃ M, ys.length = M := ⟨_, rfl⟩
  have HN : Seal _ := ⟨hN⟩
  have HM : Seal _ := ⟨hM⟩
  rw [hN, hM]
  rw [hN] at hl
  clear hN hM
  by_cases hle : N = M
  · subst hle
    have hl1 : ((N : Int) != (N : Int)) = false := by simp
    obtain ⟨r, hr⟩ : ∃ r, decide (xs = ys) = r := ⟨_, rfl⟩
    rw [hr]
    have HR : Seal _ := ⟨hr⟩
    clear hr
    go_enter Tryd.func26, Tryd.ntmps26
    go_wp2_with fail
    go_loopw [5] (fun z wr => ∃ j : Nat, j ≤ N ∧ z = .int .i64 (j : Nat) ∧ Seal (∀ i, i < j → xs[i]? = ys[i]?) ∧ Keep Nope w wr) (fun z _ => N - (intOf z).toNat)
    case atStart => exact ⟨0, Nat.zero_le _, rfl, ⟨fun i hi => by omega⟩, Keep.refl _ _⟩
    case round =>
      obtain ⟨j, hj, rfl, HE, hk⟩ := hrel
      have HK : Seal _ := ⟨hk⟩
      by_cases hjl : j < N
      · have hjl' : (j : Int) < N := by omega
        obtain ⟨X, hX⟩ : ∃ X, xs[j]? = some X := ⟨_, List.getElem?_eq_getElem (by rw [HN.out]; exact hjl)⟩
        obtain ⟨Y, hY⟩ : ∃ Y, ys[j]? = some Y := ⟨_, List.getElem?_eq_getElem (by rw [HM.out]; exact hjl)⟩
        obtain ⟨b, o, rfl, hb, r0⟩ := HX.out j X hX
        obtain ⟨b', o', rfl, hb', r1⟩ := HY.out j Y hY
        replace r0 := hk.cell r0 (fun h => h)
        replace r1 := hk.cell r1 (fun h => h)
        clear hk
        have HXY : Seal _ := ⟨And.intro hX hY⟩
        clear hX hY
        by_cases q : X = Y
        · have q1 : (X != Y) = false := by simp [q]
          have HE2 : Seal (∀ i, i < j + 1 → xs[i]? = ys[i]?) := ⟨fun i hi => by
            by_cases e : i = j
            · rw [e, HXY.out.1, HXY.out.2, q]
            · exact HE.out i (by omega)⟩
          clear q
          go_wp2_with fail
          go_quiet (fail)
          go_wp2
          exact ⟨⟨j + 1, by omega, by go_num, HE2, HK.out.then' (Keep.of_drewN _)⟩, by simp only [intOf]; omega⟩
        · have q1 : (X != Y) = true := by simp [q]
          have HF : Seal (r = false) := ⟨by
            rw [← HR.out, decide_eq_false]
            rintro rfl
            have := HXY.out.1.symm.trans HXY.out.2
            exact q (Option.some.inj this)⟩
          clear q
          go_wp2_with fail
          go_quiet (fail)
          go_wp2
          go_ret
          exact ⟨by rw [HF.out]; rfl, HK.out.then' (Keep.of_drewN _)⟩
      · have hjl' : ¬ (j : Int) < N := by omega
        have HF : Seal (r = true) := ⟨by
          rw [← HR.out, decide_eq_true]
          exact row_same (by rw [HN.out, HM.out]) fun i hi => HE.out i (by rw [HN.out] at hi; omega)⟩
        clear hk
        go_wp2
        go_ret
        exact ⟨by rw [HF.out]; rfl, HK.out⟩
  · have hl1 : ((N : Int) != (M : Int)) = true := by simp; omega
    rw [show decide (xs = ys) = false from decide_eq_false fun h => hle (by rw [← HN.out, ← HM.out, h])]
    clear hle
    go_enter Tryd.func26, Tryd.ntmps26
    go_wp2
    go_ret
    exact ⟨rfl, Keep.refl _ _⟩

set_option maxHeartbeats 1000000 in
theorem SameWords_R {xs ys : List Int} {v u : Value} {w : World} (hv : RowR .u64 w v xs) (hu : RowR .u64 w u ys) (hl : xs.length ≤ 9223372036854775806) :
    Calls Tryd.prog 27 #[v, u] w fun e w' => e = .returned (.bool (decide (xs = ys))) ∧ Keep Nope w w' := by
  obtain ⟨va, vc, rfl, hx⟩ := hv
  obtain ⟨ua, uc, rfl, hy⟩ := hu
  have HX : Seal _ := ⟨hx⟩
  have HY : Seal _ := ⟨hy⟩
  clear hx hy
  obtain ⟨N, hN⟩ : ∃ N, xs.length = N := ⟨_, rfl⟩
  obtain ⟨M, hM⟩ : ∃ M, ys.length = M := ⟨_, rfl⟩
  have HN : Seal _ := ⟨hN⟩
  have HM : Seal _ := ⟨hM⟩
  rw [hN, hM]
  rw [hN] at hl
  clear hN hM
  by_cases hle : N = M
  · subst hle
    have hl1 : ((N : Int) != (N : Int)) = false := by simp
    obtain ⟨r, hr⟩ : ∃ r, decide (xs = ys) = r := ⟨_, rfl⟩
    rw [hr]
    have HR : Seal _ := ⟨hr⟩
    clear hr
    go_enter Tryd.func27, Tryd.ntmps27
    go_wp2_with fail
    go_loopw [5] (fun z wr => ∃ j : Nat, j ≤ N ∧ z = .int .i64 (j : Nat) ∧ Seal (∀ i, i < j → xs[i]? = ys[i]?) ∧ Keep Nope w wr) (fun z _ => N - (intOf z).toNat)
    case atStart => exact ⟨0, Nat.zero_le _, rfl, ⟨fun i hi => by omega⟩, Keep.refl _ _⟩
    case round =>
      obtain ⟨j, hj, rfl, HE, hk⟩ := hrel
      have HK : Seal _ := ⟨hk⟩
      by_cases hjl : j < N
      · have hjl' : (j : Int) < N := by omega
        obtain ⟨X, hX⟩ : ∃ X, xs[j]? = some X := ⟨_, List.getElem?_eq_getElem (by rw [HN.out]; exact hjl)⟩
        obtain ⟨Y, hY⟩ : ∃ Y, ys[j]? = some Y := ⟨_, List.getElem?_eq_getElem (by rw [HM.out]; exact hjl)⟩
        obtain ⟨b, o, rfl, hb, r0⟩ := HX.out j X hX
        obtain ⟨b', o', rfl, hb', r1⟩ := HY.out j Y hY
        replace r0 := hk.cell r0 (fun h => h)
        replace r1 := hk.cell r1 (fun h => h)
        clear hk
        have HXY : Seal _ := ⟨And.intro hX hY⟩
        clear hX hY
        by_cases q : X = Y
        · have q1 : (X != Y) = false := by simp [q]
          have HE2 : Seal (∀ i, i < j + 1 → xs[i]? = ys[i]?) := ⟨fun i hi => by
            by_cases e : i = j
            · rw [e, HXY.out.1, HXY.out.2, q]
            · exact HE.out i (by omega)⟩
          clear q
          go_wp2_with fail
          go_quiet (fail)
          go_wp2
          exact ⟨⟨j + 1, by omega, by go_num, HE2, HK.out.then' (Keep.of_drewN _)⟩, by simp only [intOf]; omega⟩
        · have q1 : (X != Y) = true := by simp [q]
          have HF : Seal (r = false) := ⟨by
            rw [← HR.out, decide_eq_false]
            rintro rfl
            have := HXY.out.1.symm.trans HXY.out.2
            exact q (Option.some.inj this)⟩
          clear q
          go_wp2_with fail
          go_quiet (fail)
          go_wp2
          go_ret
          exact ⟨by rw [HF.out]; rfl, HK.out.then' (Keep.of_drewN _)⟩
      · have hjl' : ¬ (j : Int) < N := by omega
        have HF : Seal (r = true) := ⟨by
          rw [← HR.out, decide_eq_true]
          exact row_same (by rw [HN.out, HM.out]) fun i hi => HE.out i (by rw [HN.out] at hi; omega)⟩
        clear hk
        go_wp2
        go_ret
        exact ⟨by rw [HF.out]; rfl, HK.out⟩
  · have hl1 : ((N : Int) != (M : Int)) = true := by simp; omega
    rw [show decide (xs = ys) = false from decide_eq_false fun h => hle (by rw [← HN.out, ← HM.out, h])]
    clear hle
    go_enter Tryd.func27, Tryd.ntmps27
    go_wp2
    go_ret
    exact ⟨rfl, Keep.refl _ _⟩

set_option maxHeartbeats 1000000 in
theorem EqualInts_R {xs ys : List Int} {v u : Value} {w : World} (hv : RowR .i64 w v xs) (hu : RowR .i64 w u ys) (hl : xs.length ≤ 9223372036854775806) :
    Calls Tryd.prog 34 #[v, u] w fun e w' => e = .returned (.bool (decide (xs = ys))) ∧ Keep Nope w w' := by
  obtain ⟨va, vc, rfl, hx⟩ := hv
  obtain ⟨ua, uc, rfl, hy⟩ := hu
  have HX : Seal _ := ⟨hx⟩
  have HY : Seal _ := ⟨hy⟩
  clear hx hy
  obtain ⟨N, hN⟩ : ∃ N, xs.length = N := ⟨_, rfl⟩
  obtain ⟨M, hM⟩ : ∃ M, ys.length = M := ⟨_, rfl⟩
  have HN : Seal _ := ⟨hN⟩
  have HM : Seal _ := ⟨hM⟩
  rw [hN, hM]
  rw [hN] at hl
  clear hN hM
  by_cases hle : N = M
  · subst hle
    have hl1 : ((N : Int) != (N : Int)) = false := by simp
    obtain ⟨r, hr⟩ : ∃ r, decide (xs = ys) = r := ⟨_, rfl⟩
    rw [hr]
    have HR : Seal _ := ⟨hr⟩
    clear hr
    go_enter Tryd.func34, Tryd.ntmps34
    go_wp2_with fail
    go_loopw [13] (fun z wr => ∃ j : Nat, j ≤ N ∧ z = .int .i64 (j : Nat) ∧ Seal (∀ i, i < j → xs[i]? = ys[i]?) ∧ Keep Nope w wr) (fun z _ => N - (intOf z).toNat)
    case atStart => exact ⟨0, Nat.zero_le _, rfl, ⟨fun i hi => by omega⟩, Keep.refl _ _⟩
    case round =>
      obtain ⟨j, hj, rfl, HE, hk⟩ := hrel
      have HK : Seal _ := ⟨hk⟩
      by_cases hjl : j < N
      · have hjl' : (j : Int) < N := by omega
        obtain ⟨X, hX⟩ : ∃ X, xs[j]? = some X := ⟨_, List.getElem?_eq_getElem (by rw [HN.out]; exact hjl)⟩
        obtain ⟨Y, hY⟩ : ∃ Y, ys[j]? = some Y := ⟨_, List.getElem?_eq_getElem (by rw [HM.out]; exact hjl)⟩
        obtain ⟨b, o, rfl, hb, r0⟩ := HX.out j X hX
        obtain ⟨b', o', rfl, hb', r1⟩ := HY.out j Y hY
        replace r0 := hk.cell r0 (fun h => h)
        replace r1 := hk.cell r1 (fun h => h)
        clear hk
        have HXY : Seal _ := ⟨And.intro hX hY⟩
        clear hX hY
        by_cases q : X = Y
        · have q1 : (X != Y) = false := by simp [q]
          have HE2 : Seal (∀ i, i < j + 1 → xs[i]? = ys[i]?) := ⟨fun i hi => by
            by_cases e : i = j
            · rw [e, HXY.out.1, HXY.out.2, q]
            · exact HE.out i (by omega)⟩
          clear q
          go_wp2_with fail
          go_quiet (fail)
          go_wp2
          exact ⟨⟨j + 1, by omega, by go_num, HE2, HK.out.then' (Keep.of_drewN _)⟩, by simp only [intOf]; omega⟩
        · have q1 : (X != Y) = true := by simp [q]
          have HF : Seal (r = false) := ⟨by
            rw [← HR.out, decide_eq_false]
            rintro rfl
            have := HXY.out.1.symm.trans HXY.out.2
            exact q (Option.some.inj this)⟩
          clear q
          go_wp2_with fail
          go_quiet (fail)
          go_wp2
          go_ret
          exact ⟨by rw [HF.out]; rfl, HK.out.then' (Keep.of_drewN _)⟩
      · have hjl' : ¬ (j : Int) < N := by omega
        have HF : Seal (r = true) := ⟨by
          rw [← HR.out, decide_eq_true]
          exact row_same (by rw [HN.out, HM.out]) fun i hi => HE.out i (by rw [HN.out] at hi; omega)⟩
        clear hk
        go_wp2
        go_ret
        exact ⟨by rw [HF.out]; rfl, HK.out⟩
  · have hl1 : ((N : Int) != (M : Int)) = true := by simp; omega
    rw [show decide (xs = ys) = false from decide_eq_false fun h => hle (by rw [← HN.out, ← HM.out, h])]
    clear hle
    go_enter Tryd.func34, Tryd.ntmps34
    go_wp2
    go_ret
    exact ⟨rfl, Keep.refl _ _⟩

set_option maxHeartbeats 1000000 in
theorem EqualWords_R {xs ys : List Int} {v u : Value} {w : World} (hv : RowR .u64 w v xs) (hu : RowR .u64 w u ys) (hl : xs.length ≤ 9223372036854775806) :
    Calls Tryd.prog 33 #[v, u] w fun e w' => e = .returned (.bool (decide (xs = ys))) ∧ Keep Nope w w' := by
  obtain ⟨va, vc, rfl, hx⟩ := hv
  obtain ⟨ua, uc, rfl, hy⟩ := hu
  have HX : Seal _ := ⟨hx⟩
  have HY : Seal _ := ⟨hy⟩
  clear hx hy
  obtain ⟨N, hN⟩ : ∃ N, xs.length = N := ⟨_, rfl⟩
  obtain ⟨M, hM⟩ : ∃ M, ys.length = M := ⟨_, rfl⟩
  have HN : Seal _ := ⟨hN⟩
  have HM : Seal _ := ⟨hM⟩
  rw [hN, hM]
  rw [hN] at hl
  clear hN hM
  by_cases hle : N = M
  · subst hle
    have hl1 : ((N : Int) != (N : Int)) = false := by simp
    obtain ⟨r, hr⟩ : ∃ r, decide (xs = ys) = r := ⟨_, rfl⟩
    rw [hr]
    have HR : Seal _ := ⟨hr⟩
    clear hr
    go_enter Tryd.func33, Tryd.ntmps33
    go_wp2_with fail
    go_loopw [13] (fun z wr => ∃ j : Nat, j ≤ N ∧ z = .int .i64 (j : Nat) ∧ Seal (∀ i, i < j → xs[i]? = ys[i]?) ∧ Keep Nope w wr) (fun z _ => N - (intOf z).toNat)
    case atStart => exact ⟨0, Nat.zero_le _, rfl, ⟨fun i hi => by omega⟩, Keep.refl _ _⟩
    case round =>
      obtain ⟨j, hj, rfl, HE, hk⟩ := hrel
      have HK : Seal _ := ⟨hk⟩
      by_cases hjl : j < N
      · have hjl' : (j : Int) < N := by omega
        obtain ⟨X, hX⟩ : ∃ X, xs[j]? = some X := ⟨_, List.getElem?_eq_getElem (by rw [HN.out]; exact hjl)⟩
        obtain ⟨Y, hY⟩ : ∃ Y, ys[j]? = some Y := ⟨_, List.getElem?_eq_getElem (by rw [HM.out]; exact hjl)⟩
        obtain ⟨b, o, rfl, hb, r0⟩ := HX.out j X hX
        obtain ⟨b', o', rfl, hb', r1⟩ := HY.out j Y hY
        replace r0 := hk.cell r0 (fun h => h)
        replace r1 := hk.cell r1 (fun h => h)
        clear hk
        have HXY : Seal _ := ⟨And.intro hX hY⟩
        clear hX hY
        by_cases q : X = Y
        · have q1 : (X != Y) = false := by simp [q]
          have HE2 : Seal (∀ i, i < j + 1 → xs[i]? = ys[i]?) := ⟨fun i hi => by
            by_cases e : i = j
            · rw [e, HXY.out.1, HXY.out.2, q]
            · exact HE.out i (by omega)⟩
          clear q
          go_wp2_with fail
          go_quiet (fail)
          go_wp2
          exact ⟨⟨j + 1, by omega, by go_num, HE2, HK.out.then' (Keep.of_drewN _)⟩, by simp only [intOf]; omega⟩
        · have q1 : (X != Y) = true := by simp [q]
          have HF : Seal (r = false) := ⟨by
            rw [← HR.out, decide_eq_false]
            rintro rfl
            have := HXY.out.1.symm.trans HXY.out.2
            exact q (Option.some.inj this)⟩
          clear q
          go_wp2_with fail
          go_quiet (fail)
          go_wp2
          go_ret
          exact ⟨by rw [HF.out]; rfl, HK.out.then' (Keep.of_drewN _)⟩
      · have hjl' : ¬ (j : Int) < N := by omega
        have HF : Seal (r = true) := ⟨by
          rw [← HR.out, decide_eq_true]
          exact row_same (by rw [HN.out, HM.out]) fun i hi => HE.out i (by rw [HN.out] at hi; omega)⟩
        clear hk
        go_wp2
        go_ret
        exact ⟨by rw [HF.out]; rfl, HK.out⟩
  · have hl1 : ((N : Int) != (M : Int)) = true := by simp; omega
    rw [show decide (xs = ys) = false from decide_eq_false fun h => hle (by rw [← HN.out, ← HM.out, h])]
    clear hle
    go_enter Tryd.func33, Tryd.ntmps33
    go_wp2
    go_ret
    exact ⟨rfl, Keep.refl _ _⟩

section
attribute [local go_sem] run_eql_slice_nil
set_option maxHeartbeats 2000000 in
theorem CloneInts_R {xs : List Int} {v : Value} {w : World} (hv : RowR .i64 w v xs) (hl : xs.length ≤ 17592186044416) :
    Calls Tryd.prog 29 #[v] w fun e w' => ∃ v', e = .returned v' ∧ w'.ownsRow w.heap.size 3 1 v' xs.length (xs.map (.int .i64)) ∧ Keep Nope w w' := by
  have HV : Seal _ := ⟨hv⟩
  obtain ⟨a, c, rfl, hx⟩ := hv
  cases a with
  | none =>
    have h0 : xs = [] := by
      cases xs with
      | nil => rfl
      | cons y ys =>
        obtain ⟨b, e, h, -⟩ := hx 0 y rfl
        cases h
    subst h0
    go_enter Tryd.func29, Tryd.ntmps29
    go_wp2
    go_ret
    exact ⟨_, rfl, World.ownsRow_nil _ _ _ _, Keep.refl _ _⟩
  | some ad =>
    obtain ⟨len, hlen⟩ : ∃ len, xs.length = len := ⟨_, rfl⟩
    rw [hlen] at HV hl ⊢
    have HL : Seal _ := ⟨hlen⟩
    clear hx hlen
    go_enter Tryd.func29, Tryd.ntmps29
    have HVk : Seal (∀ T j u, (xs.map (Value.int .i64))[j]? = some u → (w.alloc (.cells #[] T)).cell? (ad.add j) = some u) := ⟨fun T j u hu => by
      obtain ⟨a', c', e, hx⟩ := HV.out
      injection e with e1 e2 e3
      rw [List.getElem?_map] at hu
      obtain ⟨x, hx1, rfl⟩ := Option.map_eq_some_iff.1 hu
      obtain ⟨b, o, h1, h2, h3⟩ := hx j x hx1
      rw [← e1] at h1
      injection h1 with h1
      subst h1
      rw [Addr.add_lit]
      exact (World.cell?_alloc_lt _ _ _ h2).trans h3⟩
    go_wp2_with (at_builtin; obtain ⟨i0, hi, hz0, hz1, hz2⟩ := info_parts (by kernel_rfl : (Tryd.prog.info? 3).map (fun i => (i.zero, i.size, i.bytes)) = some (some (.int .i64 0), 1, 8)); go_loud (refine wpList_append_own_at _ rfl (.tmp 5) (.tmp 6) 23 rfl w.heap.size 3 i0 _ 1 8 Tryd.underlying23 hi hz0 hz1 hz2 rfl (by omega) (.slice (some ⟨w.heap.size, 0, none⟩) 0 0) 0 [] rfl (World.ownsRow_lit w #[] 0 (Nat.le_refl _) (by unfold maxLen; omega) rfl) ad len c (xs.map (.int .i64)) rfl (by rw [List.length_map, HL.out, Nat.mul_one]) (by intro j u hu; exact HVk.out _ j u hu) (by intro u hu; obtain ⟨y, _, rfl⟩ := List.mem_map.1 hu; rfl) (by unfold maxLen; omega) (by omega) (by simp) ?_); intro v' w' hown hgrow hnil hat; clear hi hz0 hz1 hz2 hat hnil)
    have HW : Seal (w'.ownsRow w.heap.size 3 1 v' len (xs.map (.int .i64))) := ⟨by rwa [Nat.zero_add, List.nil_append] at hown⟩
    have HK : Seal (Keep Nope w w') := ⟨((Keep.refl Nope w).alloc _).grown hgrow (fun k e hk => by
      have e' : some w.heap.size = some k := e
      injection e' with e'
      omega)⟩
    clear hown hgrow
    go_ret
    exact ⟨_, rfl, HW.out, HK.out⟩
end

section
attribute [local go_sem] run_eql_slice_nil
set_option maxHeartbeats 2000000 in
theorem CloneWords_R {xs : List Int} {v : Value} {w : World} (hv : RowR .u64 w v xs) (hl : xs.length ≤ 17592186044416) :
    Calls Tryd.prog 28 #[v] w fun e w' => ∃ v', e = .returned v' ∧ w'.ownsRow w.heap.size 45 1 v' xs.length (xs.map (.int .u64)) ∧ Keep Nope w w' := by
  have HV : Seal _ := ⟨hv⟩
  obtain ⟨a, c, rfl, hx⟩ := hv
  cases a with
  | none =>
    have h0 : xs = [] := by
      cases xs with
      | nil => rfl
      | cons y ys =>
        obtain ⟨b, e, h, -⟩ := hx 0 y rfl
        cases h
    subst h0
    go_enter Tryd.func28, Tryd.ntmps28
    go_wp2
    go_ret
    exact ⟨_, rfl, World.ownsRow_nil _ _ _ _, Keep.refl _ _⟩
  | some ad =>
    obtain ⟨len, hlen⟩ : ∃ len, xs.length = len := ⟨_, rfl⟩
    rw [hlen] at HV hl ⊢
    have HL : Seal _ := ⟨hlen⟩
    clear hx hlen
    go_enter Tryd.func28, Tryd.ntmps28
    have HVk : Seal (∀ T j u, (xs.map (Value.int .u64))[j]? = some u → (w.alloc (.cells #[] T)).cell? (ad.add j) = some u) := ⟨fun T j u hu => by
      obtain ⟨a', c', e, hx⟩ := HV.out
      injection e with e1 e2 e3
      rw [List.getElem?_map] at hu
      obtain ⟨x, hx1, rfl⟩ := Option.map_eq_some_iff.1 hu
      obtain ⟨b, o, h1, h2, h3⟩ := hx j x hx1
      rw [← e1] at h1
      injection h1 with h1
      subst h1
      rw [Addr.add_lit]
      exact (World.cell?_alloc_lt _ _ _ h2).trans h3⟩
    go_wp2_with (at_builtin; obtain ⟨i0, hi, hz0, hz1, hz2⟩ := info_parts (by kernel_rfl : (Tryd.prog.info? 45).map (fun i => (i.zero, i.size, i.bytes)) = some (some (.int .u64 0), 1, 8)); go_loud (refine wpList_append_own_at _ rfl (.tmp 5) (.tmp 6) 39 rfl w.heap.size 45 i0 _ 1 8 Tryd.underlying39 hi hz0 hz1 hz2 rfl (by omega) (.slice (some ⟨w.heap.size, 0, none⟩) 0 0) 0 [] rfl (World.ownsRow_lit w #[] 0 (Nat.le_refl _) (by unfold maxLen; omega) rfl) ad len c (xs.map (.int .u64)) rfl (by rw [List.length_map, HL.out, Nat.mul_one]) (by intro j u hu; exact HVk.out _ j u hu) (by intro u hu; obtain ⟨y, _, rfl⟩ := List.mem_map.1 hu; rfl) (by unfold maxLen; omega) (by omega) (by simp) ?_); intro v' w' hown hgrow hnil hat; clear hi hz0 hz1 hz2 hat hnil)
    have HW : Seal (w'.ownsRow w.heap.size 45 1 v' len (xs.map (.int .u64))) := ⟨by rwa [Nat.zero_add, List.nil_append] at hown⟩
    have HK : Seal (Keep Nope w w') := ⟨((Keep.refl Nope w).alloc _).grown hgrow (fun k e hk => by
      have e' : some w.heap.size = some k := e
      injection e' with e'
      omega)⟩
    clear hown hgrow
    go_ret
    exact ⟨_, rfl, HW.out, HK.out⟩
end

/-- The first place of a number; -1: there is none. -/
def idxG (x : Int) : List Int → Nat → Int
  | [], _ => -1
  | y :: l, n => if y = x then (n : Int) else idxG x l (n + 1)
def idxF (xs : List Int) (x : Int) : Int := idxG x xs 0
theorem idxG_at {x : Int} : ∀ {l : List Int} {j n : Nat}, l[j]? = some x → (∀ i, i < j → l[i]? ≠ some x) → idxG x l n = ((n + j : Nat) : Int)
  | [], j, n, h, _ => by simp at h
  | y :: l, 0, n, h, _ => by
    simp only [List.getElem?_cons_zero, Option.some.injEq] at h
    rw [idxG, if_pos h, Nat.add_zero]
  | y :: l, j + 1, n, h, hn => by
    have h0 : y ≠ x := fun e => hn 0 (Nat.succ_pos _) (by rw [List.getElem?_cons_zero, e])
    rw [idxG, if_neg h0, idxG_at (j := j) (by simpa using h) fun i hi => by have := hn (i + 1) (by omega); simpa using this]
    congr 1
    omega
theorem idxG_no {x : Int} : ∀ {l : List Int} {n : Nat}, (∀ i, i < l.length → l[i]? ≠ some x) → idxG x l n = -1
  | [], _, _ => rfl
  | y :: l, n, hn => by
    have h0 : y ≠ x := fun e => hn 0 (by simp) (by rw [List.getElem?_cons_zero, e])
    rw [idxG, if_neg h0]
    exact idxG_no fun i hi => by have := hn (i + 1) (by simp; omega); simpa using this
theorem idxF_at {xs : List Int} {x : Int} {j : Nat} (h : xs[j]? = some x) (hn : ∀ i, i < j → xs[i]? ≠ some x) : idxF xs x = (j : Nat) := by
  rw [idxF, idxG_at h hn, Nat.zero_add]
theorem idxF_no {xs : List Int} {x : Int} (hn : ∀ i, i < xs.length → xs[i]? ≠ some x) : idxF xs x = -1 := idxG_no hn

set_option maxHeartbeats 2000000 in
theorem Index_R {xs : List Int} {v : Value} {w : World} (x : Int) (hv : RowR .i64 w v xs) (hl : xs.length ≤ 1000000) :
    Calls Tryd.prog 30 #[v, .int .i64 x] w fun e w' => e = .returned (.int .i64 (idxF xs x)) ∧ Keep Nope w w' := by
  obtain ⟨a, c, rfl, hcells⟩ := hv
  obtain ⟨N, hN⟩ : ∃ N, xs.length = N := ⟨_, rfl⟩
  have HN : Seal _ := ⟨hN⟩
  have HC : Seal _ := ⟨hcells⟩
  obtain ⟨r, hr⟩ : ∃ r, idxF xs x = r := ⟨_, rfl⟩
  have HR : Seal _ := ⟨hr⟩
  rw [hN] at hl ⊢
  rw [hr]
  clear hcells hN hr
  go_enter Tryd.func30, Tryd.ntmps30
  go_wp2_with fail
  go_loopw [8] (fun z wr => ∃ j : Nat, j ≤ N ∧ z = .int .i64 (j : Nat) ∧ Seal (∀ i, i < j → xs[i]? ≠ some x) ∧ Keep Nope w wr) (fun z _ => N - (intOf z).toNat)
  case atStart => exact ⟨0, Nat.zero_le _, rfl, ⟨fun i hi => by omega⟩, Keep.refl _ _⟩
  case round =>
    obtain ⟨j, hj, rfl, HNe, hk⟩ := hrel
    have HK : Seal _ := ⟨hk⟩
    by_cases hjl : j < N
    · have hjl' : (j : Int) < (N : Int) := by omega
      obtain ⟨y, hy⟩ : ∃ y, xs[j]? = some y := ⟨_, List.getElem?_eq_getElem (by rw [HN.out]; exact hjl)⟩
      obtain ⟨b, o, hbo, -, cy⟩ := HC.out j y hy
      subst hbo
      replace cy := keepc hk cy
      have HY : Seal _ := ⟨hy⟩
      by_cases e : x = y
      · have e1 : (x == y) = true := by simp [e]
        have HE : Seal (r = (j : Int)) := ⟨by rw [← HR.out]; exact idxF_at (by rw [HY.out, e]) HNe.out⟩
        clear hk hy e
        go_wp2
        go_ret
        exact ⟨by rw [HE.out]; rfl, HK.out⟩
      · have e1 : (x == y) = false := by simp [e]
        have HE : Seal (∀ i, i < j + 1 → xs[i]? ≠ some x) := ⟨fun i hi => by
          by_cases q : i = j
          · rw [q, HY.out]
            exact fun h => e (Option.some.inj h).symm
          · exact HNe.out i (by omega)⟩
        clear hk hy e
        go_wp2
        exact ⟨⟨j + 1, by omega, by go_num, HE, HK.out⟩, by simp only [intOf]; omega⟩
    · obtain rfl : j = N := by omega
      have hjl' : ¬ (j : Int) < (j : Int) := by omega
      have HE : Seal (r = -1) := ⟨by rw [← HR.out]; exact idxF_no fun i hi => HNe.out i (by rw [HN.out] at hi; exact hi)⟩
      clear hk
      go_wp2
      go_ret
      exact ⟨by rw [HE.out]; rfl, HK.out⟩

end Go.Proofs.YtifdhaiihlfomaaDoor
