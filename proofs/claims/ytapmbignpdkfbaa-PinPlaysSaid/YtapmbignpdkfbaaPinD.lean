/-
  The document's table of pins (skerryref17): a row in order.
-/
import Derived.Test.YtapmbignpdkfbaaPinT
import Derived.Maps.AppendAt
namespace Go.Proofs.Ytapmbignpdkfbaa
open Go.RowKit
set_option linter.unusedVariables false

/-- The document's table: the row L. -/
def DocP (w : World) (r : Nat) (L : List Nat) : Prop := ∃ v, w.heap[r]? = some (.cells #[v] 40 (0, 0)) ∧ w.ownsRow 0 27 1 v L.length (u64L L)

theorem DocP.keepN {w w' : World} {r : Nat} {L : List Nat} (h : DocP w r L) (k : Keep Nope w w') : DocP w' r L := by
  obtain ⟨v, h1, h2⟩ := h
  exact ⟨v, k.at_ h1 (fun h => h), rowU_keep h2 k (fun _ _ h => h)⟩

/-- A row of words, wherever it lies. -/
def RowW (w : World) (v : Value) (L : List Nat) : Prop := ∃ a c, v = .slice a L.length c ∧ ∀ i x, L[i]? = some x → ∃ g o, a = some ⟨g, o, none⟩ ∧ w.cell? ⟨g, o + i, none⟩ = some (.int .u64 (x : Nat))

theorem RowW.keepN {w w' : World} {v : Value} {L : List Nat} (h : RowW w v L) (k : Keep Nope w w') : RowW w' v L := by
  obtain ⟨a, c, e, h⟩ := h
  exact ⟨a, c, e, fun i x hx => by
    obtain ⟨g, o, e1, e2⟩ := h i x hx
    exact ⟨g, o, e1, k.cell e2 (fun h => h)⟩⟩

theorem RowW.of_owns {w : World} {base : Nat} {v : Value} {L : List Nat} (h : w.ownsRow base 27 1 v L.length (u64L L)) : RowW w v L := by
  obtain ⟨a, c, rfl⟩ := rowU_slice h
  refine ⟨a, c, rfl, fun i x hx => ?_⟩
  obtain ⟨g, cap, hv, h1, -⟩ := rowU_cell h hx
  injection hv with h2
  exact ⟨g, 0, h2, by rw [Nat.zero_add]; exact h1⟩

theorem RowW.fam {w : World} {v : Value} {L : List Nat} (h : RowW w v L) (h0 : 0 < L.length) : ∃ g o c, v = .slice (some ⟨g, o, none⟩) L.length c ∧ ∀ t, t < L.length → w.cell? ⟨g, o + t, none⟩ = some (.int .u64 (L.getD t 0 : Nat)) := by
  obtain ⟨a, c, rfl, h⟩ := h
  obtain ⟨g, o, rfl, -⟩ := h 0 _ (List.getElem?_eq_getElem h0)
  refine ⟨g, o, c, rfl, fun t ht => ?_⟩
  obtain ⟨g', o', e, h2⟩ := h t _ (List.getElem?_eq_getElem ht)
  injection e with e
  injection e with e1 e2
  subst e1
  subst e2
  rw [h2]
  simp [List.getD, List.getElem?_eq_getElem ht]

theorem once_snoc (xs : List Nat) (x : Nat) : ∀ p, onceL' p (xs ++ [x]) = onceL' p xs ++ (if (xs.getLast?.or p) = some x then [] else [x]) := by
  induction xs with
  | nil => intro p; simp only [List.nil_append, onceL', List.getLast?_nil, Option.none_or]; by_cases h : p = some x <;> simp [h]
  | cons y ys ih =>
    intro p
    have e : ((y :: ys).getLast?.or p) = ys.getLast?.or (some y) := by
      cases ys with
      | nil => simp
      | cons z zs => simp [List.getLast?_cons]
    rw [e, List.cons_append, onceL', onceL', ih (some y)]
    split <;> simp

theorem once_take {L : List Nat} {j x : Nat} (hx : L[j]? = some x) : onceU (L.take (j + 1)) = onceU (L.take j) ++ (if j = 0 ∨ L.getD (j - 1) 0 ≠ x then [x] else []) := by
  have hj := (List.getElem?_eq_some_iff.1 hx).1
  rw [List.take_add_one, hx]
  show onceU (L.take j ++ [x]) = _
  unfold onceU
  rw [once_snoc]
  congr 1
  by_cases h0 : j = 0
  · subst h0; simp
  · have : ((L.take j).getLast?.or none) = some (L.getD (j - 1) 0) := by
      rw [List.getLast?_eq_getElem?, List.length_take, Nat.min_eq_left (by omega), List.getElem?_take_of_lt (by omega), List.getElem?_eq_getElem (by omega)]
      simp [List.getD, List.getElem?_eq_getElem (show j - 1 < L.length by omega)]
    rw [this]
    by_cases e : L.getD (j - 1) 0 = x
    · rw [if_pos (by rw [e]), if_neg (fun h => h.elim h0 (fun h' => h' e))]
    · rw [if_neg (fun h => e (Option.some.inj h)), if_pos (Or.inr e)]

set_option maxHeartbeats 1000000 in
theorem DCount_at {w : World} {r : Nat} {L : List Nat} (h : DocP w r L) (hl : L.length ≤ 1099511627776) (hL : ∀ x ∈ L, x < 18446744073709551616) (g : Nat) (hg : g < 18446744073709551616) :
    Calls Try.prog 21 #[.pointer (some ⟨r, 0, none⟩), .int .u64 (g : Nat)] w fun e w' => e = .returned (.int .i64 (L.count g : Nat)) ∧ w' = w := by
  obtain ⟨v, h1, h2⟩ := h
  have HW : Seal _ := ⟨RowW.of_owns h2⟩
  obtain ⟨a, c, rfl⟩ := rowU_slice h2
  have cr := cell_of_one h1
  obtain ⟨N, hN⟩ : ∃ N, L.length = N := ⟨_, rfl⟩
  have HN : Seal _ := ⟨hN⟩
  obtain ⟨T, hT⟩ : ∃ T, L.count g = T := ⟨_, rfl⟩
  have HT : Seal _ := ⟨hT⟩
  rw [hN] at cr hl
  rw [hT]
  have HLt : Seal _ := ⟨hL⟩
  clear h1 h2 hN hT hL
  go_enter Try.func21, Try.ntmps21
  go_wp2_with fail
  go_loopw [5, 6] (fun v5 v6 wr => ∃ (j m : Nat), v5 = .int .i64 (m : Nat) ∧ v6 = .int .i64 (j : Nat) ∧ j ≤ N ∧ m ≤ j ∧ Seal (m = (L.take j).count g) ∧ w = wr) (fun _ v6 _ => N - (intOf v6).toNat)
  case atStart => exact ⟨0, 0, rfl, rfl, Nat.zero_le _, Nat.le_refl _, ⟨by simp⟩, rfl⟩
  case round =>
    obtain ⟨j, m, rfl, rfl, hj, hmj, hm, rfl⟩ := hrel
    by_cases hjN : j < N
    · have hjN' : (j : Int) < (N : Int) := by omega
      obtain ⟨x, hx⟩ : ∃ x, L[j]? = some x := ⟨_, List.getElem?_eq_getElem (by rw [HN.out]; exact hjN)⟩
      obtain ⟨a', c', hv, hc⟩ := HW.out
      injection hv with e1 e2 e3
      subst e1
      subst e3
      clear e2
      obtain ⟨gb, o, rfl, cx⟩ := hc j x hx
      have hst : Seal ((L.take (j + 1)).count g = (L.take j).count g + if x = g then 1 else 0) := ⟨by
        rw [List.take_add_one, hx]
        simp only [Option.toList_some, List.count_append, List.count_cons, List.count_nil, Nat.zero_add]
        by_cases e : x = g
        · simp [e]
        · simp [e]⟩
      clear hx hc
      by_cases e : x = g
      · have e1 : ((x : Int) == (g : Int)) = true := by simp; omega
        subst e
        go_wp2_with fail
        exact ⟨⟨j + 1, m + 1, by go_num, by go_num, by omega, by omega, ⟨by rw [hst.out, if_pos rfl, ← hm.out]⟩, trivial⟩, by simp only [intOf]; omega⟩
      · have e1 : ((x : Int) == (g : Int)) = false := by simp; omega
        have hm2 : Seal (m = (L.take (j + 1)).count g) := ⟨by rw [hst.out, if_neg e, ← hm.out]; rfl⟩
        clear e
        go_wp2_with fail
        exact ⟨⟨j + 1, m, rfl, by go_num, by omega, by omega, hm2, trivial⟩, by simp only [intOf]; omega⟩
    · have hjN' : ¬ (j : Int) < (N : Int) := by omega
      have hT : Seal (m = T) := ⟨by
        have := hm.out
        rw [show j = N by omega, ← HN.out, List.take_length, HT.out] at this
        exact this⟩
      go_wp2_with fail
      exact bodyPost_ret (v := .int .i64 (m : Nat)) (by simp [results, Try.results21, go_sem]) rfl ⟨by rw [hT.out], rfl⟩

set_option maxRecDepth 20000 in
set_option maxHeartbeats 2000000 in
theorem DList_at {w : World} {r : Nat} {L : List Nat} (h : DocP w r L) (hl : L.length ≤ 1099511627776) :
    Calls Try.prog 26 #[.pointer (some ⟨r, 0, none⟩)] w (RowKPost (onceU L) w) := by
  obtain ⟨v, h1, h2⟩ := h
  have HD : Seal _ := ⟨h1⟩
  have HW : Seal _ := ⟨RowW.of_owns h2⟩
  obtain ⟨a, c, rfl⟩ := rowU_slice h2
  obtain ⟨N, hN⟩ : ∃ N, L.length = N := ⟨_, rfl⟩
  have HN : Seal _ := ⟨hN⟩
  rw [hN] at HD HW hl
  clear h1 h2 hN
  go_enter Try.func26, Try.ntmps26
  go_wp2_with fail
  go_loopw [3, 4] (fun v3 v4 wr => ∃ (j : Nat) (qa : Option Addr) (qn qc : Nat), v4 = .int .i64 (j : Nat) ∧ v3 = .slice qa qn qc ∧ j ≤ N ∧ qn ≤ j ∧ Seal (wr.ownsRow w.heap.size 27 1 (.slice qa qn qc) qn (u64L (onceU (L.take j))) ∧ Keep Nope w wr)) (fun _ v4 _ => N - (intOf v4).toNat)
  case atStart => exact ⟨0, none, 0, 0, rfl, rfl, Nat.zero_le _, Nat.le_refl _, ⟨by simpa [onceU, onceL', u64L] using World.ownsRow_nil w w.heap.size 27 1, Keep.refl _ _⟩⟩
  case round =>
    obtain ⟨j, qa, qn, qc, rfl, rfl, hj, hqn, HS⟩ := hrel
    obtain ⟨hrow, hk⟩ := HS.out
    have HRow : Seal _ := ⟨hrow⟩
    have HK : Seal _ := ⟨hk⟩
    have cr := cell_of_one (hk.at_ HD.out (fun h => h))
    clear hrow hk HS
    by_cases hjN : j < N
    · have hjN' : (j : Int) < (N : Int) := by omega
      obtain ⟨x, hx⟩ : ∃ x, L[j]? = some x := ⟨_, List.getElem?_eq_getElem (by rw [HN.out]; exact hjN)⟩
      have HT : Seal _ := ⟨once_take hx⟩
      obtain ⟨g, o, c', hv, hf⟩ := (HW.out.keepN HK.out).fam (by rw [HN.out]; omega)
      injection hv with e1 e2 e3
      subst e1
      clear e2 e3
      rw [HN.out] at hf
      obtain ⟨F, hF⟩ : ∃ F : Nat → Nat, F = fun t => L.getD t 0 := ⟨_, rfl⟩
      have hcw : ∀ t, t < N → wr.cell? ⟨g, o + t, none⟩ = some (.int .u64 (F t : Nat)) := fun t ht => by rw [hF]; exact hf t ht
      have HFx : Seal (F j = x ∧ F (j - 1) = L.getD (j - 1) 0) := ⟨by rw [hF]; simp [List.getD, hx], by rw [hF]⟩
      clear hx hf hF
      by_cases h0 : j = 0
      · have h0' : ((j : Int) == 0) = true := by simp; omega
        have HC : Seal (j = 0 ∨ L.getD (j - 1) 0 ≠ F j) := ⟨Or.inl h0⟩
        clear h0
        go_wp2_with fail
        go_quiet (fail)
        obtain ⟨i0, hi, hz0, hz1, hz2⟩ := info_parts Try.infoU64S
        have HRq : Seal ((wr.drewN nq).ownsRow w.heap.size 27 1 (.slice qa qn qc) qn (u64L (onceU (L.take j)))) := ⟨rowU_keep HRow.out (Keep.of_drewN (S := Nope) nq) (fun _ _ h => h)⟩
        have HKq : Seal (Keep Nope w (wr.drewN nq)) := ⟨HK.out.drewN nq⟩
        have hzq := HKq.out.size
        have hzr := HK.out.size
        go_wp2_with (at_builtin; go_loud (refine wpList_append_lies _ rfl (.tmp 34) (.tmp 42) 34 rfl w.heap.size 27 i0 _ 1 8 Try.underlyingU64S hi hz0 hz1 hz2 rfl (by omega) (.slice qa qn qc) qn (u64L (onceU (L.take j))) rfl (HRq.out.alloc _) ⟨(wr.drewN nq).heap.size, 0, none⟩ 1 1 [.int .u64 (F j : Nat)] rfl rfl (World.news_of_block (World.alloc_heap_new (wr.drewN nq) _)) (by intro u hu; simp at hu; subst hu; rfl) (by omega) (by unfold maxLen; omega) (by omega) (by simp; omega) _ rfl ?_); intro ga gc w3 hown hgrow hat hlt; have KA : Keep (fun b => (Value.slice qa qn qc).ownBlock = some b) (wr.drewN nq) w3 := ((Keep.refl Nope _).alloc _ |>.of_not _).grown hgrow (fun k e _ => e))
        have KW : Keep Nope w w3 := HKq.out.trans KA (fun i hi e => by have := rowU_block HRq.out e; omega)
        refine ⟨⟨j + 1, _, _, _, by go_num, rfl, by omega, by omega, ⟨?_, KW⟩⟩, by simp only [intOf]; omega⟩
        rw [HT.out, HFx.out.1.symm, if_pos HC.out]
        simpa [u64L] using hown
      · have h0' : ((j : Int) == 0) = false := by simp; omega
        have u1 : IntKind.i64.wrap ((j : Int) - 1) = (j : Int) - 1 := by rw [IntKind.wrap_i64]; omega
        by_cases hne : F (j - 1) = F j
        · have hne' : ((F (j - 1) : Int) != (F j : Int)) = false := by simp; omega
          have HC : Seal (¬ (j = 0 ∨ L.getD (j - 1) 0 ≠ F j)) := ⟨fun h => h.elim h0 (fun h' => h' (by rw [← HFx.out.2, hne]))⟩
          clear hne
          go_wp2_with fail
          go_quiet (fail)
          go_wp2_with fail
          refine ⟨⟨j + 1, qa, qn, qc, by go_num, rfl, by omega, by omega, ⟨?_, HK.out.drewN nq⟩⟩, by simp only [intOf]; omega⟩
          rw [HT.out, HFx.out.1.symm, if_neg HC.out, List.append_nil]
          exact rowU_keep HRow.out (Keep.of_drewN (S := Nope) nq) (fun _ _ h => h)
        · have hne' : ((F (j - 1) : Int) != (F j : Int)) = true := by simp; omega
          have HC : Seal (j = 0 ∨ L.getD (j - 1) 0 ≠ F j) := ⟨Or.inr (by rw [← HFx.out.2]; exact hne)⟩
          clear hne
          go_wp2_with fail
          go_quiet (fail)
          obtain ⟨i0, hi, hz0, hz1, hz2⟩ := info_parts Try.infoU64S
          have HRq : Seal ((wr.drewN nq).ownsRow w.heap.size 27 1 (.slice qa qn qc) qn (u64L (onceU (L.take j)))) := ⟨rowU_keep HRow.out (Keep.of_drewN (S := Nope) nq) (fun _ _ h => h)⟩
          have HKq : Seal (Keep Nope w (wr.drewN nq)) := ⟨HK.out.drewN nq⟩
          have hzq := HKq.out.size
          have hzr := HK.out.size
          go_wp2_with (at_builtin; go_loud (refine wpList_append_lies _ rfl (.tmp 34) (.tmp 42) 34 rfl w.heap.size 27 i0 _ 1 8 Try.underlyingU64S hi hz0 hz1 hz2 rfl (by omega) (.slice qa qn qc) qn (u64L (onceU (L.take j))) rfl (HRq.out.alloc _) ⟨(wr.drewN nq).heap.size, 0, none⟩ 1 1 [.int .u64 (F j : Nat)] rfl rfl (World.news_of_block (World.alloc_heap_new (wr.drewN nq) _)) (by intro u hu; simp at hu; subst hu; rfl) (by omega) (by unfold maxLen; omega) (by omega) (by simp; omega) _ rfl ?_); intro ga gc w3 hown hgrow hat hlt; have KA : Keep (fun b => (Value.slice qa qn qc).ownBlock = some b) (wr.drewN nq) w3 := ((Keep.refl Nope _).alloc _ |>.of_not _).grown hgrow (fun k e _ => e))
          have KW : Keep Nope w w3 := HKq.out.trans KA (fun i hi e => by have := rowU_block HRq.out e; omega)
          refine ⟨⟨j + 1, _, _, _, by go_num, rfl, by omega, by omega, ⟨?_, KW⟩⟩, by simp only [intOf]; omega⟩
          rw [HT.out, HFx.out.1.symm, if_pos HC.out]
          simpa [u64L] using hown
    · have hjN' : ¬ (j : Int) < (N : Int) := by omega
      have hown := HRow.out
      have hj2 : L.take j = L := by rw [show j = N by omega, ← HN.out, List.take_length]
      rw [hj2] at hown
      have hlen : (onceU L).length = qn := by have := hown.1; simpa [u64L] using this
      have HF : Seal (wr.ownsRow w.heap.size 27 1 (.slice qa qn qc) (onceU L).length (u64L (onceU L))) := ⟨by rw [hlen]; exact hown⟩
      clear hown hj2 hlen
      go_wp2_with fail
      exact bodyPost_ret (v := .slice qa qn qc) (by simp [results, Try.results26, go_sem]) rfl ⟨_, rfl, HF.out, HK.out⟩

theorem RowW.take {w : World} {a : Option Addr} {n c : Nat} {L : List Nat} (h : RowW w (.slice a n c) L) {i : Nat} (hi : i ≤ n) : RowW w (.slice a i c) (L.take i) := by
  obtain ⟨a', c', e, h⟩ := h
  injection e with e1 e2 e3
  subst e1
  subst e3
  refine ⟨a, c, by rw [List.length_take, Nat.min_eq_left (by omega)], fun j x hx => ?_⟩
  have hj : j < i := by have := (List.getElem?_eq_some_iff.1 hx).1; rw [List.length_take] at this; omega
  rw [List.getElem?_take_of_lt hj] at hx
  exact h j x hx

theorem RowW.drop {w : World} {g o n c c' : Nat} {L : List Nat} (h : RowW w (.slice (some ⟨g, o, none⟩) n c) L) (i : Nat) (hi : i ≤ n) (b : Option Addr) (hb : i < n → b = some ⟨g, o + i, none⟩) : RowW w (.slice b (n - i) c') (L.drop i) := by
  obtain ⟨a', c2, e, h⟩ := h
  injection e with e1 e2 e3
  subst e1
  refine ⟨b, c', by rw [List.length_drop, ← e2], fun j x hx => ?_⟩
  rw [List.getElem?_drop] at hx
  have hj := (List.getElem?_eq_some_iff.1 hx).1
  obtain ⟨g', o', e4, h5⟩ := h (i + j) x hx
  injection e4 with e4
  injection e4 with e5 e6
  subst e5
  subst e6
  exact ⟨g, o + i, hb (by omega), by rw [Nat.add_assoc]; exact h5⟩

theorem rowU_cap {w : World} {base : Nat} {e : TypeId} {size n c : Nat} {a : Option Addr} {xs : List Value} (h : w.ownsRow base e size (.slice a n c) n xs) : n ≤ c ∧ (a = none ∧ c = 0 ∨ ∃ g o, a = some ⟨g, o, none⟩) := by
  rcases h.2 with ⟨h, h0⟩ | ⟨g, cap, cur, h, h2, h3, h4, h5, -⟩
  · injection h with e1 e2 e3
    exact ⟨by omega, Or.inl ⟨e1, e3⟩⟩
  · injection h with e1 e2 e3
    subst e3
    exact ⟨h4, Or.inr ⟨g, 0, e1⟩⟩

theorem u64L_app (xs ys : List Nat) : u64L (xs ++ ys) = u64L xs ++ u64L ys := List.map_append

theorem u64L_one (xs : List Nat) : ∀ u ∈ u64L xs, u.oneCell' = true := by
  intro u hu
  obtain ⟨_, _, rfl⟩ := List.mem_map.1 hu
  rfl

theorem run_append_none (w : World) (ty : TypeId) (base n : Nat) (v : Value) (xs : List Value) (hown : w.ownsRow base 27 1 v n xs) (c : Nat) : (Builtin.append_ #[34, 34] ty #[v, .slice none 0 c]).run Try.prog w = .ok v w := by
  obtain ⟨i0, hi, hz0, hz1, hz2⟩ := info_parts Try.infoU64S
  rcases hown.2 with ⟨rfl, -⟩ | ⟨g, cap, cur, rfl, -, -, hc, -⟩
  · simp [Builtin.append_, run_underlying Try.underlyingU64S, sizeOf, typeInfo, hi, Builtin.lenOf, Builtin.firstCells]
  · simp [Builtin.append_, run_underlying Try.underlyingU64S, sizeOf, typeInfo, hi, Builtin.lenOf, Builtin.firstCells, hc, storeCells]

theorem run_append_w (w : World) (ty : TypeId) (base n : Nat) (v : Value) (xs : List Nat) (hown : w.ownsRow base 27 1 v n (u64L xs)) (u : Value) (L2 : List Nat) (hu : RowW w u L2) (hle : n + L2.length ≤ 1099511627776) (hbase : base ≤ w.heap.size) :
    ∃ v' w', (Builtin.append_ #[34, 34] ty #[v, u]).run Try.prog w = .ok v' w' ∧ w'.ownsRow base 27 1 v' (n + L2.length) (u64L (xs ++ L2)) ∧ Keep (fun b => v.ownBlock = some b) w w' := by
  obtain ⟨a, c, rfl, h⟩ := hu
  cases a with
  | none =>
    have h0 : L2 = [] := by
      cases L2 with
      | nil => rfl
      | cons y ys =>
        obtain ⟨g, o, e, -⟩ := h 0 y rfl
        cases e
    subst h0
    exact ⟨v, w, run_append_none w ty base n v _ hown c, by simpa using hown, Keep.refl _ _⟩
  | some ad =>
    obtain ⟨i0, hi, hz0, hz1, hz2⟩ := info_parts Try.infoU64S
    obtain ⟨v', w', hr, h2, h3, -, -⟩ := run_append_own_at (P := Try.prog) w base 34 ty 27 i0 _ 1 8 Try.underlyingU64S hi hz0 hz1 hz2 rfl (by omega) v n (u64L xs) hown ad L2.length c (u64L L2) (by rw [u64L_len, Nat.mul_one])
      (fun j u hu => by
        rw [u64L, List.getElem?_map, Option.map_eq_some_iff] at hu
        obtain ⟨x, hx, rfl⟩ := hu
        obtain ⟨g, o, e, h2⟩ := h j x hx
        injection e with e
        subst e
        rw [Addr.add_lit]
        exact h2) (u64L_one _) (by unfold maxLen; omega) (by omega) hbase
    exact ⟨v', w', hr, by rw [u64L_app]; exact h2, (Keep.refl _ w).grown h3 (fun k e _ => e)⟩

theorem wpList_append_w {w : World} {ops : Array Oper} {rest : List Oper} {o : Oper} {a : Act} {Q : Exit → Act → World → Prop} (hgd : o.guard = none) (s x : Operand)
    (ho : o.op = .call { callee := .builtin .append, args := #[s, x], argTypes := #[34, 34] }) (base n : Nat) (v : Value) (xs : List Nat) (hs : a.eval s = v) (hown : w.ownsRow base 27 1 v n (u64L xs)) (u : Value) (L2 : List Nat) (hx : a.eval x = u) (hu : RowW w u L2)
    (hle : n + L2.length ≤ 1099511627776) (hbase : base ≤ w.heap.size)
    (h : ∀ v' w', w'.ownsRow base 27 1 v' (n + L2.length) (u64L (xs ++ L2)) → Keep (fun b => v.ownBlock = some b) w w' → wpList Try.prog ops Q rest (a.put o.dst v') w') :
    wpList Try.prog ops Q (o :: rest) a w := by
  refine wpList_plain hgd fun K hK => ?_
  obtain ⟨v', w', hr, h2, h3⟩ := run_append_w w o.type base n v xs hown u L2 hu hle hbase
  unfold Oper.wp execOp
  simp only [ho, resolve, invoke, builtin, Sem.run_bind, Sem.run_pure, Result.andThen_ok, List.map_toArray, List.map_cons, List.map_nil, hs, hx, hr]
  exact hK _ _ (h v' w' h2 h3)

theorem step_append_w {w : World} {ops : Array Oper} {o : Oper} {a : Act} {K : Act → World → Prop} {Q : Exit → Act → World → Prop} {E : Prop} (hgd : o.guard = none) {d : Tmp} (hd : o.dst = some d) (s x : Operand)
    (ho : o.op = .call { callee := .builtin .append, args := #[s, x], argTypes := #[34, 34] }) (base n : Nat) (v : Value) (xs : List Nat) (hs : a.eval s = v) (hown : w.ownsRow base 27 1 v n (u64L xs)) (u : Value) (L2 : List Nat) (hx : a.eval x = u) (hu : RowW w u L2)
    (hle : n + L2.length ≤ 1099511627776) (hbase : base ≤ w.heap.size)
    (h : ∀ v' w', w'.ownsRow base 27 1 v' (n + L2.length) (u64L (xs ++ L2)) → Keep (fun b => v.ownBlock = some b) w w' → K (a.put (some d) v') w') :
    if Region.wanted o (yielded ops a.tmps) = true then Oper.wp Try.prog o a w K Q else E := by
  have hw : Region.wanted o (yielded ops a.tmps) = true := by simp [Region.wanted, hgd]
  rw [if_pos hw]
  obtain ⟨v', w', hr, h2, h3⟩ := run_append_w w o.type base n v xs hown u L2 hu hle hbase
  unfold Oper.wp execOp
  simp only [ho, resolve, invoke, builtin, Sem.run_bind, Sem.run_pure, Result.andThen_ok, List.map_toArray, List.map_cons, List.map_nil, hs, hx, hr]
  have := h v' w' h2 h3
  rw [← hd] at this
  exact this

theorem own_len (a : Option Addr) (n n' c : Nat) : (Value.slice a n c).ownBlock = (Value.slice a n' c).ownBlock := by cases a <;> rfl

theorem pinE_full {c : Nat → Nat} {g : Nat} (h0 : g ≠ 0) (h : 256 ≤ c g) : pinE c g = 4 := by unfold pinE; rw [if_neg h0, if_pos h]

theorem pinE_ok {c : Nat → Nat} {g : Nat} (h0 : g ≠ 0) (h : ¬ 256 ≤ c g) : pinE c g = 0 := by unfold pinE; rw [if_neg h0, if_neg h]

set_option maxRecDepth 20000 in
set_option maxHeartbeats 2000000 in
theorem DPin_at {w : World} {r n : Nat} {L : List Nat} (h : DocP w r L) (hl : L.length ≤ 1000000) (hL : ∀ x ∈ L, x < 18446744073709551616) (hs : L.Pairwise (· ≤ ·)) (hn : (onceU L).length < 4096) {g : Nat} (hg : g < 18446744073709551616) :
    Calls Try.prog 18 #[.pointer (some ⟨r, 0, none⟩), .int .u64 (g : Nat)] w fun e w' => e = .returned (.int .i64 (pinE (fun x => L.count x) g : Nat)) ∧ DocP w' r (if pinE (fun x => L.count x) g = 0 then insL L g else L) ∧ Keep (fun k => k = r) w w' := by
  have HP : Seal _ := ⟨h⟩
  have HSo : Seal _ := ⟨hs⟩
  by_cases hg0 : g = 0
  · have HE : Seal (pinE (fun x => L.count x) g = 2) := ⟨by unfold pinE; rw [if_pos hg0]⟩
    subst hg0
    rw [HE.out, if_neg (by decide), show ((0 : Nat) : Int) = 0 from rfl]
    clear h
    go_enter Try.func18, Try.ntmps18
    go_wp2_with fail
    exact bodyPost_ret (v := .int .i64 2) (by simp [results, Try.results18, go_sem]) rfl ⟨rfl, HP.out, Keep.refl _ _⟩
  · have hg0' : ((g : Int) == 0) = false := by simp; omega
    have HC : Seal _ := ⟨DCount_at h (by omega) hL g hg⟩
    have HLi : Seal _ := ⟨DList_at h (by omega)⟩
    obtain ⟨m, hm⟩ : ∃ m, L.count g = m := ⟨_, rfl⟩
    rw [hm] at HC
    by_cases h256 : 256 ≤ m
    · have HE : Seal (pinE (fun x => L.count x) g = 4) := ⟨pinE_full hg0 (by show 256 ≤ L.count g; omega)⟩
      rw [HE.out, if_neg (by decide)]
      have d1 : decide ((256 : Int) ≤ (m : Int)) = true := decide_eq_true (by omega)
      have d2 : (256 : Int) ≤ (m : Int) := by omega
      clear h hm
      go_enter Try.func18, Try.ntmps18
      go_wp2_with fail
      refine HC.out.mono ?_
      rintro e w' ⟨rfl, rfl⟩
      go_wp2_with fail
      exact bodyPost_ret (v := .int .i64 4) (by simp [results, Try.results18, go_sem]) rfl ⟨rfl, HP.out, Keep.refl _ _⟩
    · have HE : Seal (pinE (fun x => L.count x) g = 0) := ⟨pinE_ok hg0 (by show ¬ 256 ≤ L.count g; omega)⟩
      rw [HE.out, if_pos rfl]
      have d1 : decide ((256 : Int) ≤ (m : Int)) = false := decide_eq_false (by omega)
      have d2 : ¬ (256 : Int) ≤ (m : Int) := by omega
      have HQ : Seal _ := ⟨hn⟩
      clear h hm hn
      go_enter Try.func18, Try.ntmps18
      go_wp2_with fail
      refine HC.out.mono ?_
      rintro e w' ⟨rfl, rfl⟩
      by_cases hm0 : m = 0
      case' pos =>
        have d5 : ((m : Int) == 0) = true := by simp; omega
        clear hm0
        go_wp2_with fail
        refine HLi.out.mono ?_
        rintro e w1 ⟨lv, rfl, hrow, k1⟩
        obtain ⟨la, lc, rfl⟩ := rowU_slice hrow
        obtain ⟨ln, hln⟩ : ∃ ln, (onceU L).length = ln := ⟨_, rfl⟩
        have hln2 : ln < 4096 := by have := HQ.out; omega
        have d6 : ¬ (4096 : Int) ≤ (ln : Int) := by omega
        have d7 : decide ((4096 : Int) ≤ (ln : Int)) = false := decide_eq_false d6
        rw [hln]
        have HP1 : Seal _ := ⟨HP.out.keepN k1⟩
        have HK1 : Seal _ := ⟨k1⟩
        clear hrow k1 hln hln2 HQ HLi HC
      case' neg =>
        have d5 : ((m : Int) == 0) = false := by simp; omega
        clear hm0
        obtain ⟨w1, rfl⟩ : ∃ w1, w1 = w' := ⟨_, rfl⟩
        have HP1 : Seal _ := ⟨HP.out⟩
        have HK1 : Seal (Keep Nope w1 w1) := ⟨Keep.refl _ _⟩
        clear HQ HLi HC
      all_goals
        obtain ⟨v, h1, h2⟩ := HP1.out
        have HW : Seal _ := ⟨RowW.of_owns h2⟩
        have HD1 : Seal _ := ⟨h1⟩
        obtain ⟨a, c, rfl⟩ := rowU_slice h2
        obtain ⟨N, hN⟩ : ∃ N, L.length = N := ⟨_, rfl⟩
        have HN : Seal _ := ⟨hN⟩
        rw [hN] at HD1 HW h1 hl
        have cr := cell_of_one h1
        have hcap : N ≤ c := by rw [← HN.out]; exact (rowU_cap h2).1
        have HCm : Seal _ := ⟨(rowU_cap h2).2⟩
        clear h1 h2 hN
        go_upto_block 0 with fail
        go_cut [6] from 25 to 45 (fun v6 wx => ∃ i : Nat, v6 = .int .i64 (i : Nat) ∧ i ≤ N ∧ Seal ((∀ k, k < i → L.getD k 0 < g) ∧ (i < N → ¬ L.getD i 0 < g)) ∧ w1 = wx)
        case first =>
          go_wp2_with fail
          go_loopw [6] (fun v6 wr => ∃ i : Nat, v6 = .int .i64 (i : Nat) ∧ i ≤ N ∧ Seal (∀ k, k < i → L.getD k 0 < g) ∧ w1 = wr) (fun v6 _ => N - (intOf v6).toNat)
          case atStart => exact ⟨0, rfl, Nat.zero_le _, ⟨fun k h => by omega⟩, rfl⟩
          case round =>
            obtain ⟨i, rfl, hi, HI, rfl⟩ := hrel
            by_cases hiN : i < N
            · have hiN' : (i : Int) < (N : Int) := by omega
              obtain ⟨gb, o, c', hv, hf⟩ := HW.out.fam (by rw [HN.out]; omega)
              injection hv with e1 e2 e3
              subst e1
              clear e2 e3
              rw [HN.out] at hf
              have ci := hf i hiN
              obtain ⟨x, hx⟩ : ∃ x, L.getD i 0 = x := ⟨_, rfl⟩
              rw [hx] at ci
              have HX : Seal _ := ⟨hx⟩
              clear hf hx
              by_cases hxg : x < g
              · have hxg' : (x : Int) < (g : Int) := by omega
                go_wp2_with fail
                exact ⟨⟨i + 1, by go_num, by omega, ⟨fun k hk => by
                  by_cases e : k = i
                  · rw [e, HX.out]; exact hxg
                  · exact HI.out k (by omega)⟩, trivial⟩, by simp only [intOf]; omega⟩
              · have hxg' : ¬ (x : Int) < (g : Int) := by omega
                go_wp2_with fail
                go_meet
                exact ⟨i, rfl, hi, ⟨HI.out, fun _ => by rw [HX.out]; exact hxg⟩, rfl⟩
            · have hiN' : ¬ (i : Int) < (N : Int) := by omega
              have hiN'' : decide ((i : Int) < (N : Int)) = false := decide_eq_false hiN'
              go_wp2_with fail
              go_meet
              exact ⟨i, rfl, hi, ⟨HI.out, fun h => absurd h hiN⟩, rfl⟩
        case rest =>
          obtain ⟨i, rfl, hi, HI, rfl⟩ := hcut
          have hi2 : (L.take i).length = i := by rw [List.length_take, HN.out]; omega
          have HI2 : Seal _ := ⟨hi2⟩
          clear hi2
          go_upto_region 10 with (at_builtin; go_loud (refine wpList_append_w rfl _ _ rfl w1.heap.size 0 (.slice none 0 0) [] rfl (World.ownsRow_nil _ _ _ _) (.slice a i c) (L.take i) rfl (HW.out.take hi) (by rw [HI2.out]; omega) (Nat.le_refl _) ?_); intro v2 w2 hrow2 k2; rw [Nat.zero_add, List.nil_append, HI2.out] at hrow2)
          obtain ⟨a2, c2, rfl⟩ := rowU_slice hrow2
          have HR2 : Seal _ := ⟨hrow2⟩
          have HK2 : Seal (Keep Nope w1 w2) := ⟨k2.mono (fun i hi h => by simp [Value.ownBlock] at h)⟩
          have hz2 := HK2.out.size
          have HG : Seal (RowW (w2.alloc (.cells #[.int .u64 (g : Nat)] 27)) (.slice (some ⟨w2.heap.size, 0, none⟩) 1 1) [g]) := ⟨⟨_, _, rfl, fun j x hx => by
            cases j with
            | zero =>
              injection hx with hx
              subst hx
              exact ⟨w2.heap.size, 0, rfl, cell_of_one (World.alloc_heap_new w2 _)⟩
            | succ j => cases hx⟩⟩
          clear hrow2 k2
          go_upto_region 11 with (at_builtin; go_loud (refine wpList_append_w rfl _ _ rfl w1.heap.size i (.slice a2 i c2) (L.take i) rfl (HR2.out.alloc _) (.slice (some ⟨w2.heap.size, 0, none⟩) 1 1) [g] rfl HG.out (by simp; omega) (by simp; omega) ?_); intro v3 w3 hrow3 k3)
          have HR3 : Seal (w3.ownsRow w1.heap.size 27 1 v3 (i + 1) (u64L (L.take i ++ [g]))) := ⟨hrow3⟩
          have HK3 : Seal (Keep Nope w1 w3) := ⟨(HK2.out.alloc _).trans k3 (fun q hq h => by have := rowU_block HR2.out h; omega)⟩
          obtain ⟨a3, c3, rfl⟩ := rowU_slice HR3.out
          have cr3 := HK3.out.cell cr (fun h => h)
          clear hrow3 k3 cr
          have hz3 := HK3.out.size
          have HDl : Seal ((L.drop i).length = N - i) := ⟨by rw [List.length_drop, HN.out]⟩
          rcases HCm.out with ⟨rfl, rfl⟩ | ⟨ab, ao, rfl⟩
          ·
            obtain rfl : N = 0 := by omega
            obtain rfl : i = 0 := by omega
            have HU : Seal (RowW w3 (.slice none 0 0) (L.drop 0)) := ⟨by rw [List.drop_zero]; exact HW.out.keepN HK3.out⟩
            go_wp2_with (at_builtin; go_loud (refine wpList_append_w rfl _ _ rfl w1.heap.size (0 + 1) (.slice a3 (0 + 1) c3) (L.take 0 ++ [g]) rfl HR3.out (.slice none 0 0) (L.drop 0) rfl HU.out (by rw [HDl.out]; omega) hz3 ?_); intro v4 w4 hrow4 k4; obtain ⟨a4, c4, rfl⟩ := rowU_slice hrow4; have HR4 : Seal _ := ⟨hrow4⟩; have HK4 : Seal (Keep Nope w1 w4) := ⟨HK3.out.trans k4 (fun q hq h => by have := rowU_block HR3.out h; omega)⟩; have br4 := HK4.out.at_ HD1.out (fun h => h); have cr4 := cell_of_one br4; have fr4 : w4.frozen? ⟨r, 0, none⟩ = false := frozen_one br4; have HB4 : Seal _ := ⟨br4⟩; clear hrow4 k4 br4)
            have HIn : Seal (L.take 0 ++ [g] ++ L.drop 0 = insL L g) := ⟨by
              rw [insL_at HSo.out g 0 (by rw [HN.out]; omega) HI.out.1 (by rw [HN.out]; exact HI.out.2)]
              simp⟩
            refine bodyPost_ret (v := .int .i64 0) (by simp [results, Try.results18, go_sem]) rfl ⟨rfl, ⟨_, one_setCell HB4.out, ?_⟩, ((HK1.out.thenU HK4.out).of_not (fun k => k = r)).setCell (fun _ => rfl) _⟩
            have hr : ∀ t, t = L.length + 1 → w4.ownsRow 0 27 1 (.slice a4 t c4) (L.length + 1) (u64L (insL L g)) := fun t ht => by
              subst ht
              have h := rowU_less HR4.out (Nat.zero_le _)
              rwa [show 0 + 1 + (L.drop 0).length = L.length + 1 by rw [List.length_drop]; have := HN.out; omega, HIn.out] at h
            rw [insL_len]
            refine rowU_keep (S := fun k => k = r) (hr _ (by have := HN.out; omega)) ((Keep.refl (fun k => k = r) w4).setCell (fun _ => rfl) _) (fun q hq e => ?_)
            subst e
            have := rowU_block HR4.out ((own_len a4 _ _ c4).trans hq)
            have := (Array.getElem?_eq_some_iff.1 HD1.out).1
            omega
          ·
            by_cases hic : i = c
            · obtain rfl : c = N := by omega
              obtain rfl : i = c := hic
              have HU : Seal (RowW w3 (.slice (some ⟨ab, ao, none⟩) 0 0) (L.drop i)) := ⟨by have := (HW.out.keepN HK3.out).drop (c' := 0) i hi (some ⟨ab, ao, none⟩) (fun h => by omega); rwa [Nat.sub_self] at this⟩
              go_wp2_with (at_builtin; go_loud (refine wpList_append_w rfl _ _ rfl w1.heap.size (i + 1) (.slice a3 (i + 1) c3) (L.take i ++ [g]) rfl HR3.out (.slice (some ⟨ab, ao, none⟩) 0 0) (L.drop i) rfl HU.out (by rw [HDl.out]; omega) hz3 ?_); intro v4 w4 hrow4 k4; obtain ⟨a4, c4, rfl⟩ := rowU_slice hrow4; have HR4 : Seal _ := ⟨hrow4⟩; have HK4 : Seal (Keep Nope w1 w4) := ⟨HK3.out.trans k4 (fun q hq h => by have := rowU_block HR3.out h; omega)⟩; have br4 := HK4.out.at_ HD1.out (fun h => h); have cr4 := cell_of_one br4; have fr4 : w4.frozen? ⟨r, 0, none⟩ = false := frozen_one br4; have HB4 : Seal _ := ⟨br4⟩; clear hrow4 k4 br4)
              have HIn : Seal (L.take i ++ [g] ++ L.drop i = insL L g) := ⟨by
                rw [insL_at HSo.out g i (by rw [HN.out]; omega) HI.out.1 (by rw [HN.out]; exact HI.out.2)]
                simp⟩
              refine bodyPost_ret (v := .int .i64 0) (by simp [results, Try.results18, go_sem]) rfl ⟨rfl, ⟨_, one_setCell HB4.out, ?_⟩, ((HK1.out.thenU HK4.out).of_not (fun k => k = r)).setCell (fun _ => rfl) _⟩
              have hr : ∀ t, t = L.length + 1 → w4.ownsRow 0 27 1 (.slice a4 t c4) (L.length + 1) (u64L (insL L g)) := fun t ht => by
                subst ht
                have h := rowU_less HR4.out (Nat.zero_le _)
                rwa [show i + 1 + (L.drop i).length = L.length + 1 by rw [List.length_drop]; have := HN.out; omega, HIn.out] at h
              rw [insL_len]
              refine rowU_keep (S := fun k => k = r) (hr _ (by have := HN.out; omega)) ((Keep.refl (fun k => k = r) w4).setCell (fun _ => rfl) _) (fun q hq e => ?_)
              subst e
              have := rowU_block HR4.out ((own_len a4 _ _ c4).trans hq)
              have := (Array.getElem?_eq_some_iff.1 HD1.out).1
              omega
            · have HU : Seal (RowW w3 (.slice (some ⟨ab, ao + i, none⟩) (N - i) (c - i)) (L.drop i)) := ⟨(HW.out.keepN HK3.out).drop i hi _ (fun h => rfl)⟩
              go_wp2_with (at_builtin; go_loud (refine wpList_append_w rfl _ _ rfl w1.heap.size (i + 1) (.slice a3 (i + 1) c3) (L.take i ++ [g]) rfl HR3.out (.slice (some ⟨ab, ao + i, none⟩) (N - i) (c - i)) (L.drop i) rfl HU.out (by rw [HDl.out]; omega) hz3 ?_); intro v4 w4 hrow4 k4; obtain ⟨a4, c4, rfl⟩ := rowU_slice hrow4; have HR4 : Seal _ := ⟨hrow4⟩; have HK4 : Seal (Keep Nope w1 w4) := ⟨HK3.out.trans k4 (fun q hq h => by have := rowU_block HR3.out h; omega)⟩; have br4 := HK4.out.at_ HD1.out (fun h => h); have cr4 := cell_of_one br4; have fr4 : w4.frozen? ⟨r, 0, none⟩ = false := frozen_one br4; have HB4 : Seal _ := ⟨br4⟩; clear hrow4 k4 br4)
              have HIn : Seal (L.take i ++ [g] ++ L.drop i = insL L g) := ⟨by
                rw [insL_at HSo.out g i (by rw [HN.out]; omega) HI.out.1 (by rw [HN.out]; exact HI.out.2)]
                simp⟩
              refine bodyPost_ret (v := .int .i64 0) (by simp [results, Try.results18, go_sem]) rfl ⟨rfl, ⟨_, one_setCell HB4.out, ?_⟩, ((HK1.out.thenU HK4.out).of_not (fun k => k = r)).setCell (fun _ => rfl) _⟩
              have hr : ∀ t, t = L.length + 1 → w4.ownsRow 0 27 1 (.slice a4 t c4) (L.length + 1) (u64L (insL L g)) := fun t ht => by
                subst ht
                have h := rowU_less HR4.out (Nat.zero_le _)
                rwa [show i + 1 + (L.drop i).length = L.length + 1 by rw [List.length_drop]; have := HN.out; omega, HIn.out] at h
              rw [insL_len]
              refine rowU_keep (S := fun k => k = r) (hr _ (by have := HN.out; omega)) ((Keep.refl (fun k => k = r) w4).setCell (fun _ => rfl) _) (fun q hq e => ?_)
              subst e
              have := rowU_block HR4.out ((own_len a4 _ _ c4).trans hq)
              have := (Array.getElem?_eq_some_iff.1 HD1.out).1
              omega

end Go.Proofs.Ytapmbignpdkfbaa
