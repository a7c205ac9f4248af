/-
  Rows of cells as values: find, SameCells, tiles.
  Two cells compared.
  Rows of cells: SameCells, tiles.
  Rows of cells: told.
  What was put, and not dropped: in numbers alone.
-/
import Derived.Test.YtafjebdjdmlahaaDoorSpaceCells
import Derived.BigQuiet
import Derived.Laws.StructEq
import Derived.Test.YtafjebdjdmlahaaDoorSpace1
namespace Go.Proofs.YtafjebdjdmlahaaDoor
open Go.RowKit
set_option linter.unusedVariables false

/-- The value v is a row of cells. -/
def RowC (w : World) (v : Value) (cs : List Cel) : Prop :=
  ∃ a cap, v = .slice a cs.length cap ∧ ∀ i x, cs[i]? = some x → ∃ b, a = some ⟨b, 0, none⟩ ∧ b < w.heap.size ∧
    w.cell? ⟨b, i * 5, none⟩ = some (.int .i64 (x.g : Nat)) ∧ w.cell? ⟨b, i * 5 + 1, none⟩ = some (.int .u8 (x.tag : Nat)) ∧ w.cell? ⟨b, i * 5 + 2, none⟩ = some (.int .i64 (x.ty : Nat)) ∧
    w.cell? ⟨b, i * 5 + 3, none⟩ = some (.int .i64 (x.ln : Nat)) ∧ w.cell? ⟨b, i * 5 + 4, none⟩ = some (.int .i64 (x.sz : Nat))

theorem flatC_at : ∀ (xs : List Cel) (i : Nat) (x : Cel), xs[i]? = some x → (flatC xs)[i * 5]? = some (.int .i64 (x.g : Nat)) ∧ (flatC xs)[i * 5 + 1]? = some (.int .u8 (x.tag : Nat)) ∧ (flatC xs)[i * 5 + 2]? = some (.int .i64 (x.ty : Nat)) ∧ (flatC xs)[i * 5 + 3]? = some (.int .i64 (x.ln : Nat)) ∧ (flatC xs)[i * 5 + 4]? = some (.int .i64 (x.sz : Nat))
  | y :: xs, 0, x, h => by
    simp at h
    subst h
    exact ⟨rfl, rfl, rfl, rfl, rfl⟩
  | y :: xs, i + 1, x, h => by
    have h2 : xs[i]? = some x := by simpa using h
    obtain ⟨a, b, c, d, e⟩ := flatC_at xs i x h2
    have e0 : (i + 1) * 5 = i * 5 + 5 := by omega
    rw [e0]
    exact ⟨a, b, c, d, e⟩

theorem RowC.of_owns {w : World} {base : Nat} {v : Value} {cs : List Cel} (h : w.ownsRow base 45 5 v cs.length (flatC cs)) : RowC w v cs := by
  rcases h.2 with ⟨rfl, h0⟩ | ⟨g, cap, cur, rfl, g2, g3, g4, g5, g6, g7⟩
  · exact ⟨none, 0, by rw [h0], fun i x hx => by have := (List.getElem?_eq_some_iff.1 hx).1; omega⟩
  · refine ⟨some ⟨g, 0, none⟩, cap, rfl, fun i x hx => ?_⟩
    have hi := (List.getElem?_eq_some_iff.1 hx).1
    obtain ⟨x0, x1, x2, x3, x4⟩ := flatC_at cs i x hx
    have key : ∀ j, j < cs.length * 5 → w.cell? ⟨g, j, none⟩ = (flatC cs)[j]? := fun j hj => by
      rw [← g7, List.getElem?_take_of_lt hj]
      simp [World.cell?, g3]
    exact ⟨g, rfl, lt_of_heap g3, by rw [key _ (by omega)]; exact x0, by rw [key _ (by omega)]; exact x1, by rw [key _ (by omega)]; exact x2, by rw [key _ (by omega)]; exact x3, by rw [key _ (by omega)]; exact x4⟩

theorem RowC.keepN {w w' : World} {v : Value} {cs : List Cel} (h : RowC w v cs) (k : Keep Nope w w') : RowC w' v cs := by
  obtain ⟨a, cap, rfl, h⟩ := h
  refine ⟨a, cap, rfl, fun i x hi => ?_⟩
  obtain ⟨b, rfl, h1, h2, h3, h4, h5, h6⟩ := h i x hi
  exact ⟨b, rfl, Nat.lt_of_lt_of_le h1 k.size, k.cell h2 (fun h => h), k.cell h3 (fun h => h), k.cell h4 (fun h => h), k.cell h5 (fun h => h), k.cell h6 (fun h => h)⟩

/-- What find answers. -/
def FindPost (cs : List Cel) (g : Int) (w : World) (e : Ending) (w' : World) : Prop :=
  w' = w ∧ ((∃ k c, cs[k]? = some c ∧ (c.g : Int) = g ∧ e = .returned (.int .i64 (k : Nat))) ∨ ((∀ c ∈ cs, ¬ (c.g : Int) = g) ∧ e = .returned (.int .i64 (-1))))

/-- Where find's loop stands. -/
def FindI (cs : List Cel) (g : Int) (w : World) (y : Value) (wr : World) : Prop := ∃ j, j ≤ cs.length ∧ y = .int .i64 (j : Nat) ∧ wr = w ∧ ∀ i c, i < j → cs[i]? = some c → ¬ (c.g : Int) = g

theorem find_at (cs : List Cel) (g : Int) (v : Value) (w : World) (hv : RowC w v cs) (hlen : cs.length ≤ 9223372036854775806) :
    Calls Tryd.prog 13 #[v, .int .i64 g] w (FindPost cs g w) := by
  have HV : Seal _ := ⟨hv⟩
  obtain ⟨va, vc, rfl, -⟩ := hv
  obtain ⟨len, hlen'⟩ : ∃ len, cs.length = len := ⟨_, rfl⟩
  rw [hlen'] at HV hlen ⊢
  have HL : Seal _ := ⟨hlen'⟩
  clear hlen'
  go_enter Tryd.func13, Tryd.ntmps13
  go_wp2_with fail
  go_loopw [5] (fun y wr => FindI cs g w y wr) (fun y _ => len - (intOf y).toNat)
  case atStart => exact ⟨0, Nat.zero_le _, rfl, rfl, fun i c hi => by omega⟩
  case round =>
    obtain ⟨j, hj, rfl, rfl, hn⟩ := hrel
    rw [HL.out] at hj
    have HN : Seal _ := ⟨hn⟩
    clear hn
    by_cases hjl : j < len
    · have hjl' : (j : Int) < len := by omega
      obtain ⟨va', vc', e, hx⟩ := HV.out
      injection e with e1 e3 e2
      clear e3
      subst e1 e2
      obtain ⟨x, hxj⟩ : ∃ x, cs[j]? = some x := ⟨cs[j]'(by rw [HL.out]; omega), List.getElem?_eq_getElem (by rw [HL.out]; omega)⟩
      obtain ⟨b, rfl, hbl, x0, -⟩ := hx j x hxj
      have HXJ : Seal _ := ⟨hxj⟩
      clear hx hxj
      by_cases hg : (x.g : Int) = g
      · have t1 : ((x.g : Int) == g) = true := by simpa using hg
        have HG : Seal _ := ⟨hg⟩
        clear hg
        go_wp2
        go_ret
        exact ⟨rfl, .inl ⟨j, x, HXJ.out, HG.out, rfl⟩⟩
      · have t1 : ((x.g : Int) == g) = false := by simpa using hg
        have HG : Seal _ := ⟨hg⟩
        clear hg
        go_wp2
        refine ⟨⟨j + 1, by rw [HL.out]; omega, by go_num, rfl, fun i c hi hc => ?_⟩, by simp only [intOf]; omega⟩
        by_cases e : i = j
        · subst e
          rw [HXJ.out] at hc
          injection hc with hc
          subst hc
          exact HG.out
        · exact HN.out i c (by omega) hc
    · have hjl' : ¬ (j : Int) < len := by omega
      go_wp2
      go_ret
      refine ⟨rfl, .inr ⟨fun c hc => ?_, rfl⟩⟩
      obtain ⟨i, hi, rfl⟩ := List.getElem_of_mem hc
      exact HN.out i _ (by rw [HL.out] at hi; omega) (List.getElem?_eq_getElem hi)

end Go.Proofs.YtafjebdjdmlahaaDoor

namespace Go.Proofs.YtafjebdjdmlahaaDoor
open Go.RowKit
set_option linter.unusedVariables false

def cellI (g a b c d : Int) : Value := .agg #[.int .i64 g, .int .u8 a, .int .i64 b, .int .i64 c, .int .i64 d]

theorem run_eq_head9 (a b c d a' b' c' d' : Int) (w : World) : (Op.equalIn 9999 43 (.agg #[.int .u8 a, .int .i64 b, .int .i64 c, .int .i64 d]) (.agg #[.int .u8 a', .int .i64 b', .int .i64 c', .int .i64 d'])).run Tryd.prog w = .ok (a == a' && (b == b' && (c == c' && d == d'))) w := by
  have u3 := Tryd.underlying3
  have a3 := Tryd.isAgg3
  have z3 := Tryd.sizeOf3
  have u5 := Tryd.underlying5
  have a5 := Tryd.isAgg5
  have z5 := Tryd.sizeOf5
  have hS : Tryd.prog.underlying 43 = some (.struct (Tryd.prog.fieldsOf 43)) := by kernel_rfl
  rw [show (9999 : Nat) = 9998 + 1 from rfl, run_equalIn_agg w 9998 43 _ _ hS (by kernel_rfl)]
  simp only [Program.fieldsOf, Tryd.underlying43]
  go_simp
  by_cases h1 : a = a' <;> by_cases h2 : b = b' <;> by_cases h3 : c = c' <;> by_cases h4 : d = d' <;> simp [h1, h2, h3, h4]

theorem run_eq_cell (g a b c d g' a' b' c' d' : Int) (w : World) : (Op.equalIn 10000 45 (.agg #[.int .i64 g, .int .u8 a, .int .i64 b, .int .i64 c, .int .i64 d]) (.agg #[.int .i64 g', .int .u8 a', .int .i64 b', .int .i64 c', .int .i64 d'])).run Tryd.prog w = .ok (g == g' && (a == a' && (b == b' && (c == c' && d == d')))) w := by
  have u3 := Tryd.underlying3
  have a3 := Tryd.isAgg3
  have z3 := Tryd.sizeOf3
  have aH := Tryd.isAgg43
  have zH := Tryd.sizeOf43
  have hS : Tryd.prog.underlying 45 = some (.struct (Tryd.prog.fieldsOf 45)) := by kernel_rfl
  have hE := fun (w : World) => run_eq_head9 a b c d a' b' c' d' w
  rw [show (10000 : Nat) = 9999 + 1 from rfl, run_equalIn_agg w 9999 45 _ _ hS (by kernel_rfl)]
  simp only [Program.fieldsOf, Tryd.underlying45]
  go_simp
  by_cases h0 : g = g' <;> by_cases h1 : a = a' <;> by_cases h2 : b = b' <;> by_cases h3 : c = c' <;> by_cases h4 : d = d' <;> simp [h0, h1, h2, h3, h4]

theorem run_neq_cell (g a b c d g' a' b' c' d' : Int) (w : World) : (binOp .neq 45 (.agg #[.int .i64 g, .int .u8 a, .int .i64 b, .int .i64 c, .int .i64 d]) (.agg #[.int .i64 g', .int .u8 a', .int .i64 b', .int .i64 c', .int .i64 d'])).run Tryd.prog w = .ok (.bool (!(g == g' && (a == a' && (b == b' && (c == c' && d == d')))))) w := by
  rw [run_neq_struct, run_eq_cell]; rfl

theorem run_eql_cell (g a b c d g' a' b' c' d' : Int) (w : World) : (binOp .eql 45 (.agg #[.int .i64 g, .int .u8 a, .int .i64 b, .int .i64 c, .int .i64 d]) (.agg #[.int .i64 g', .int .u8 a', .int .i64 b', .int .i64 c', .int .i64 d'])).run Tryd.prog w = .ok (.bool (g == g' && (a == a' && (b == b' && (c == c' && d == d'))))) w := by
  rw [run_eql_struct, run_eq_cell]; rfl

end Go.Proofs.YtafjebdjdmlahaaDoor

namespace Go.Proofs.YtafjebdjdmlahaaDoor
open Go.RowKit
set_option linter.unusedVariables false
attribute [local go_sem ↓] run_neq_cell

def SameI (cs : List Cel) (w : World) (y : Value) (wr : World) : Prop := ∃ j, j ≤ cs.length ∧ y = .int .i64 (j : Nat) ∧ Keep Nope w wr

set_option maxHeartbeats 2000000 in
theorem SameC_at (cs : List Cel) (v u : Value) (w : World) (hv : RowC w v cs) (hu : RowC w u cs) (hlen : cs.length ≤ 9223372036854775806) :
    Calls Tryd.prog 14 #[v, u] w fun e w' => e = .returned (.bool true) ∧ Keep Nope w w' := by
  have HV : Seal _ := ⟨hv⟩
  have HU : Seal _ := ⟨hu⟩
  obtain ⟨va, vc, rfl, -⟩ := hv
  obtain ⟨ua, uc, rfl, -⟩ := hu
  obtain ⟨len, hlen'⟩ : ∃ len, cs.length = len := ⟨_, rfl⟩
  rw [hlen'] at HV HU hlen ⊢
  have HL : Seal _ := ⟨hlen'⟩
  clear hlen'
  go_enter Tryd.func14, Tryd.ntmps14
  go_wp2_with fail
  go_loopw [5] (fun y wr => SameI cs w y wr) (fun y _ => len - (intOf y).toNat)
  case atStart => exact ⟨0, Nat.zero_le _, rfl, Keep.refl _ _⟩
  case round =>
    obtain ⟨j, hj, rfl, hk⟩ := hrel
    rw [HL.out] at hj
    by_cases hjl : j < len
    · have hjl' : (j : Int) < len := by omega
      obtain ⟨va', vc', e, hx⟩ := HV.out
      injection e with e1 e3 e2
      clear e3
      subst e1 e2
      obtain ⟨ua', uc', e, hy⟩ := HU.out
      injection e with e1 e3 e2
      clear e3
      subst e1 e2
      obtain ⟨x, hxj⟩ : ∃ x, cs[j]? = some x := ⟨cs[j]'(by rw [HL.out]; omega), List.getElem?_eq_getElem (by rw [HL.out]; omega)⟩
      obtain ⟨b, rfl, hbl, x0, x1, x2, x3, x4⟩ := hx j x hxj
      obtain ⟨b', rfl, hbl', y0, y1, y2, y3, y4⟩ := hy j x hxj
      clear hx hy hxj
      replace x0 := hk.cell x0 (fun h => h)
      replace x1 := hk.cell x1 (fun h => h)
      replace x2 := hk.cell x2 (fun h => h)
      replace x3 := hk.cell x3 (fun h => h)
      replace x4 := hk.cell x4 (fun h => h)
      replace y0 := hk.cell y0 (fun h => h)
      replace y1 := hk.cell y1 (fun h => h)
      replace y2 := hk.cell y2 (fun h => h)
      replace y3 := hk.cell y3 (fun h => h)
      replace y4 := hk.cell y4 (fun h => h)
      go_wp2_with fail
      go_quiet (fail)
      go_wp2
      refine ⟨⟨j + 1, by rw [HL.out]; omega, by go_num, hk.then' (Keep.of_drewN _)⟩, by simp only [intOf]; omega⟩
    · have hjl' : ¬ (j : Int) < len := by omega
      go_wp2
      go_ret
      exact ⟨rfl, hk⟩

def TilesI (cs : List Cel) (H : Nat) (w : World) (z y : Value) (wr : World) : Prop := ∃ j p : Nat, j ≤ cs.length ∧ z = .int .i64 (p : Nat) ∧ y = .int .i64 (j : Nat) ∧ Tiles p (cs.drop j) H ∧ wr = w

set_option maxHeartbeats 2000000 in
theorem tiles_at (cs : List Cel) (H : Nat) (v : Value) (w : World) (hv : RowC w v cs) (hlen : cs.length ≤ 9223372036854775806) (hH : H ≤ 65536) (ht : Tiles 0 cs H) :
    Calls Tryd.prog 15 #[v, .int .i64 (H : Nat)] w fun e w' => e = .returned (.bool true) ∧ w' = w := by
  have HV : Seal _ := ⟨hv⟩
  obtain ⟨va, vc, rfl, -⟩ := hv
  obtain ⟨len, hlen'⟩ : ∃ len, cs.length = len := ⟨_, rfl⟩
  rw [hlen'] at HV hlen ⊢
  have HL : Seal _ := ⟨hlen'⟩
  have HT : Seal _ := ⟨ht⟩
  clear hlen' ht
  go_enter Tryd.func15, Tryd.ntmps15
  go_wp2_with fail
  go_loopw [5, 6] (fun z y wr => TilesI cs H w z y wr) (fun _ y _ => len - (intOf y).toNat)
  case atStart => exact ⟨0, 0, Nat.zero_le _, rfl, rfl, HT.out, rfl⟩
  case round =>
    obtain ⟨j, p, hj, rfl, rfl, htl, rfl⟩ := hrel
    rw [HL.out] at hj
    by_cases hjl : j < len
    · have hjl' : (j : Int) < len := by omega
      obtain ⟨va', vc', e, hx⟩ := HV.out
      injection e with e1 e3 e2
      clear e3
      subst e1 e2
      obtain ⟨x, hxj⟩ : ∃ x, cs[j]? = some x := ⟨cs[j]'(by rw [HL.out]; omega), List.getElem?_eq_getElem (by rw [HL.out]; omega)⟩
      obtain ⟨b, rfl, hbl, x0, x1, x2, x3, x4⟩ := hx j x hxj
      have hd : cs.drop j = x :: cs.drop (j + 1) := by
        rw [List.drop_eq_getElem_cons (by rw [HL.out]; omega)]
        exact congrArg (· :: _) (List.getElem?_eq_some_iff.1 hxj).2
      rw [hd] at htl
      obtain ⟨h1, h2, h3⟩ := htl
      have h4 := h3.le
      have HT3 : Seal _ := ⟨h3⟩
      have t1 : ((x.g : Int) != (p : Int)) = false := by simp; omega
      have t2 : decide ((x.sz : Int) < 1) = false := decide_eq_false (by omega)
      clear hx hxj h1 h3 hd
      go_wp2
      refine ⟨⟨j + 1, p + x.sz, by rw [HL.out]; omega, by go_num, by go_num, HT3.out, rfl⟩, by simp only [intOf]; omega⟩
    · have hjl' : ¬ (j : Int) < len := by omega
      have hjj : j = cs.length := by rw [HL.out]; omega
      rw [hjj, List.drop_length] at htl
      have hp : p = H := htl
      subst hp
      clear htl hjj
      go_wp2
      go_ret
      exact ⟨by simp, rfl⟩

end Go.Proofs.YtafjebdjdmlahaaDoor

namespace Go.Proofs.YtafjebdjdmlahaaDoor
open Go.RowKit
set_option linter.unusedVariables false
attribute [local go_sem ↓] run_neq_cell

/-- The objects of a row. -/
def objsOf (cs : List Cel) : List Cel := cs.filter fun c => c.tag == 1

theorem objsOf_append (xs ys : List Cel) : objsOf (xs ++ ys) = objsOf xs ++ objsOf ys := List.filter_append ..

theorem objsOf_take {cs : List Cel} {j : Nat} {x : Cel} (h : cs[j]? = some x) : (objsOf (cs.take (j + 1))).length = (objsOf (cs.take j)).length + (if x.tag = 1 then 1 else 0) := by
  rw [List.take_add_one, h, objsOf_append, List.length_append]
  by_cases ht : x.tag = 1 <;> simp [objsOf, ht]

/-- What gaps must be. -/
def GapsOk (cs : List Cel) : Prop := ∀ c ∈ cs, ¬ c.tag = 1 → c.tag = gapTag c.sz ∧ c.ty = 0 ∧ c.ln = 0

def ToldI (cs : List Cel) (w : World) (z y : Value) (wr : World) : Prop := ∃ j, j ≤ cs.length ∧ z = .int .i64 ((objsOf (cs.take j)).length : Nat) ∧ y = .int .i64 (j : Nat) ∧ Keep Nope w wr

set_option maxRecDepth 20000 in
set_option maxHeartbeats 4000000 in
theorem told_at (cs th : List Cel) (v u : Value) (w : World) (hv : RowC w v cs) (hu : RowC w u th) (hlen : cs.length ≤ 4294967296) (hlen2 : th.length ≤ 4294967296) (hg : GapsOk cs)
    (ho : ∀ c ∈ cs, c.tag = 1 → c ∈ th) (h1 : ∀ c ∈ cs, c.tag = 1 → ∀ d ∈ th, d.g = c.g → d = c) (hn : (objsOf cs).length = th.length) :
    Calls Tryd.prog 16 #[v, u] w fun e w' => e = .returned (.bool true) ∧ Keep Nope w w' := by
  have HV : Seal _ := ⟨hv⟩
  have HU : Seal _ := ⟨hu⟩
  have HGa : Seal _ := ⟨hg⟩
  have HO : Seal _ := ⟨ho⟩
  have H1 : Seal _ := ⟨h1⟩
  obtain ⟨va, vc, rfl, -⟩ := hv
  obtain ⟨ua, uc, rfl, -⟩ := hu
  obtain ⟨len, hlen'⟩ : ∃ len, cs.length = len := ⟨_, rfl⟩
  obtain ⟨lem, hlem'⟩ : ∃ lem, th.length = lem := ⟨_, rfl⟩
  rw [hlem'] at hn hlen2 HU ⊢
  rw [hlen'] at HV hlen ⊢
  have HL : Seal _ := ⟨hlen'⟩
  have HL2 : Seal _ := ⟨hlem'⟩
  have HN : Seal _ := ⟨hn⟩
  clear hlen' hlem' hg ho h1 hn
  go_enter Tryd.func16, Tryd.ntmps16
  go_wp2_with fail
  go_loopw [5, 6] (fun z y wr => ToldI cs w z y wr) (fun _ y _ => len - (intOf y).toNat)
  case atStart => exact ⟨0, Nat.zero_le _, rfl, rfl, Keep.refl _ _⟩
  case round =>
    obtain ⟨j, hj, rfl, rfl, hk⟩ := hrel
    rw [HL.out] at hj
    have hcnt : (objsOf (cs.take j)).length ≤ j := by
      refine Nat.le_trans (List.length_filter_le _ _) ?_
      rw [List.length_take]; omega
    obtain ⟨n, hnn⟩ : ∃ n, (objsOf (cs.take j)).length = n := ⟨_, rfl⟩
    rw [hnn] at hcnt ⊢
    have HNN : Seal _ := ⟨hnn⟩
    clear hnn
    by_cases hjl : j < len
    · have hjl' : (j : Int) < len := by omega
      obtain ⟨va', vc', e, hx⟩ := HV.out
      injection e with e1 e3 e2
      clear e3
      subst e1 e2
      obtain ⟨x, hxj⟩ : ∃ x, cs[j]? = some x := ⟨cs[j]'(by rw [HL.out]; omega), List.getElem?_eq_getElem (by rw [HL.out]; omega)⟩
      have hxm : x ∈ cs := List.mem_of_getElem? hxj
      have HT := objsOf_take hxj
      obtain ⟨b, rfl, hbl, x0, x1, x2, x3, x4⟩ := hx j x hxj
      have HTk : Seal _ := ⟨HT⟩
      clear hx hxj HT
      have hz := hk.size
      have hbw : b < wr.heap.size := by omega
      replace x0 := hk.cell x0 (fun h => h)
      replace x1 := hk.cell x1 (fun h => h)
      replace x2 := hk.cell x2 (fun h => h)
      replace x3 := hk.cell x3 (fun h => h)
      replace x4 := hk.cell x4 (fun h => h)
      by_cases ht : x.tag = 1
      · have t1 : ((x.tag : Int) != 1) = false := by simp; omega
        have HM : Seal (x ∈ th ∧ ∀ d ∈ th, d.g = x.g → d = x) := ⟨HO.out x hxm ht, H1.out x hxm ht⟩
        have HTN : Seal ((objsOf (cs.take (j + 1))).length = n + 1) := ⟨by rw [HTk.out, HNN.out, if_pos ht]⟩
        clear hxm ht
        have kA : Keep Nope wr (wr.alloc (.cells #[.int .i64 (x.g : Nat), .int .u8 (x.tag : Nat), .int .i64 (x.ty : Nat), .int .i64 (x.ln : Nat), .int .i64 (x.sz : Nat)] 45)) := (Keep.refl _ wr).alloc _
        have bA := World.alloc_heap_new wr (.cells #[.int .i64 (x.g : Nat), .int .u8 (x.tag : Nat), .int .i64 (x.ty : Nat), .int .i64 (x.ln : Nat), .int .i64 (x.sz : Nat)] 45)
        have HF : Seal _ := ⟨find_at th (x.g : Nat) _ _ (HU.out.keepN (hk.then' kA)) (by rw [HL2.out]; omega)⟩
        have HKA : Seal _ := ⟨kA⟩
        have HBA : Seal _ := ⟨bA⟩
        clear kA bA
        go_wp2_with fail
        refine HF.out.mono ?_
        rintro e w2 ⟨rfl, hp⟩
        obtain ⟨m, hm1, hm2⟩ := List.getElem_of_mem HM.out.1
        obtain ⟨k, c', hc', hcg, rfl⟩ : ∃ k c', th[k]? = some c' ∧ (c'.g : Int) = (x.g : Nat) ∧ e = .returned (.int .i64 (k : Nat)) := by
          rcases hp with h | ⟨h, _⟩
          · exact h
          · exact absurd rfl (h x HM.out.1)
        have e1 := HM.out.2 c' (List.mem_of_getElem? hc') (by omega)
        subst e1
        clear hp hm1 hm2 hcg
        obtain ⟨ua', uc', e, hy⟩ := HU.out
        injection e with e1 e3 e2
        clear e3
        subst e1 e2
        have hkl : k < lem := by have := (List.getElem?_eq_some_iff.1 hc').1; rw [HL2.out] at this; exact this
        obtain ⟨b', rfl, hbl', y0, y1, y2, y3, y4⟩ := hy k c' hc'
        clear hy hc'
        have kW := hk.then' HKA.out
        replace y0 := kW.cell y0 (fun h => h)
        replace y1 := kW.cell y1 (fun h => h)
        replace y2 := kW.cell y2 (fun h => h)
        replace y3 := kW.cell y3 (fun h => h)
        replace y4 := kW.cell y4 (fun h => h)
        have bA := HBA.out
        have hkA := HKA.out
        clear x0 x1 x2 x3 x4
        generalize hwn : World.alloc wr _ = wn at y0 y1 y2 y3 y4 bA kW hkA ⊢
        have z0 : wn.cell? ⟨wr.heap.size, 0, none⟩ = some (.int .i64 (c'.g : Nat)) := by simp [World.cell?, bA]
        have z1 : wn.cell? ⟨wr.heap.size, 1, none⟩ = some (.int .u8 (c'.tag : Nat)) := by simp [World.cell?, bA]
        have z2 : wn.cell? ⟨wr.heap.size, 2, none⟩ = some (.int .i64 (c'.ty : Nat)) := by simp [World.cell?, bA]
        have z3 : wn.cell? ⟨wr.heap.size, 3, none⟩ = some (.int .i64 (c'.ln : Nat)) := by simp [World.cell?, bA]
        have z4 : wn.cell? ⟨wr.heap.size, 4, none⟩ = some (.int .i64 (c'.sz : Nat)) := by simp [World.cell?, bA]
        have HKW : Seal _ := ⟨kW⟩
        have d1 : decide ((k : Int) < 0) = false := decide_eq_false (by omega)
        clear bA hkA hwn kW
        go_wp2_with fail
        go_quiet (fail)
        go_wp2
        refine ⟨⟨j + 1, by rw [HL.out]; omega, by rw [HTN.out]; go_num, by go_num, HKW.out.then' (Keep.of_drewN _)⟩, by simp only [intOf]; omega⟩
      · have t1 : ((x.tag : Int) != 1) = true := by simp; omega
        obtain ⟨g1, g2, g3⟩ := HGa.out x hxm ht
        have HTN : Seal ((objsOf (cs.take (j + 1))).length = n) := ⟨by rw [HTk.out, HNN.out, if_neg ht, Nat.add_zero]⟩
        have t2 : ((x.ty : Int) != 0) = false := by simp; omega
        have t3 : ((x.ln : Int) != 0) = false := by simp; omega
        rcases gapTag_or x.sz with ⟨s1, s2⟩ | ⟨s1, s2⟩
        · have t4 : ((x.tag : Int) == 2) = true := by simp; omega
          have t5 : ((x.sz : Int) == 1) = true := by simp; omega
          clear g1 g2 g3 s1 s2 ht hxm
          go_wp2
          refine ⟨⟨j + 1, by rw [HL.out]; omega, by rw [HTN.out], by go_num, hk.alloc _⟩, by simp only [intOf]; omega⟩
        · have t4 : ((x.tag : Int) == 2) = false := by simp; omega
          have t5 : ((x.sz : Int) == 1) = false := by simp; omega
          clear g1 g2 g3 s1 s2 ht hxm
          go_wp2
          refine ⟨⟨j + 1, by rw [HL.out]; omega, by rw [HTN.out], by go_num, hk.alloc _⟩, by simp only [intOf]; omega⟩
    · have hjl' : ¬ (j : Int) < len := by omega
      have hnl : n = lem := by
        have h1 := HNN.out
        rw [show j = cs.length by rw [HL.out]; omega, List.take_length] at h1
        rw [← h1]; exact HN.out
      subst hnl
      go_wp2
      go_ret
      exact ⟨by simp, hk⟩

end Go.Proofs.YtafjebdjdmlahaaDoor

namespace Go.Proofs.YtafjebdjdmlahaaDoor
open Go.RowKit
set_option linter.unusedVariables false

theorem objsOf_gap (g m : Nat) : objsOf (gapL g m) = [] := by
  rw [objsOf, List.filter_eq_nil_iff]
  intro c hc
  obtain ⟨_, rfl⟩ := gapL_mem hc
  have hT := gapTag_or m
  simp
  omega

theorem objsOf_gaps {xs : List Cel} (h : ∀ d ∈ xs, ¬ d.tag = 1) : objsOf xs = [] := by
  rw [objsOf, List.filter_eq_nil_iff]
  intro c hc
  simpa using h c hc

theorem objsOf_obj {c : Cel} (h : c.tag = 1) (xs : List Cel) : objsOf (c :: xs) = c :: objsOf xs := by
  rw [objsOf, List.filter_cons, if_pos (by simpa using h)]; rfl

theorem mem_objsOf {c : Cel} {xs : List Cel} : c ∈ objsOf xs ↔ c ∈ xs ∧ c.tag = 1 := by
  rw [objsOf, List.mem_filter]; simp

theorem GapsOk.gap (g m : Nat) : GapsOk (gapL g m) := by
  intro c hc _
  obtain ⟨_, rfl⟩ := gapL_mem hc
  exact ⟨rfl, rfl, rfl⟩

theorem GapsOk.append {xs ys : List Cel} (h : GapsOk xs) (k : GapsOk ys) : GapsOk (xs ++ ys) := by
  intro c hc
  rcases List.mem_append.1 hc with hc | hc
  · exact h c hc
  · exact k c hc

theorem GapsOk.left {xs ys : List Cel} (h : GapsOk (xs ++ ys)) : GapsOk xs := fun c hc => h c (List.mem_append_left _ hc)

theorem GapsOk.right {xs ys : List Cel} (h : GapsOk (xs ++ ys)) : GapsOk ys := fun c hc => h c (List.mem_append_right _ hc)

theorem put_gaps {pre post : List Cel} {c : Cel} {j i l S : Nat} (h : GapsOk (pre ++ c :: post)) : GapsOk (putL pre c post j i l S) := by
  have h2 : GapsOk post := fun d hd => h d (List.mem_append_right _ (List.mem_cons_of_mem _ hd))
  refine h.left.append (((GapsOk.gap _ _).append ?_).append h2)
  refine GapsOk.append (xs := [_]) (fun d hd ht => ?_) (GapsOk.gap _ _)
  rw [List.mem_singleton.1 hd] at ht
  exact absurd rfl ht

theorem put_objs {pre post th : List Cel} {c : Cel} {j i l S : Nat} (h : (objsOf (pre ++ c :: post)).Perm th) (ht : ¬ c.tag = 1) : (objsOf (putL pre c post j i l S)).Perm (th ++ [⟨j, 1, i, l, S⟩]) := by
  rw [show pre ++ c :: post = pre ++ ([c] ++ post) from rfl, objsOf_append, objsOf_append, objsOf_gaps (xs := [c]) (by simpa using ht), List.nil_append] at h
  rw [putL, objsOf_append, objsOf_append, objsOf_append, objsOf_gap, List.nil_append, objsOf_obj rfl, objsOf_gap]
  refine List.Perm.trans ?_ (h.append_right _)
  rw [List.append_assoc]
  refine List.Perm.append_left _ ?_
  exact List.perm_append_comm

theorem drop_gaps {cs p1 g1 g2 p2 : List Cel} {c : Cel} {g x y : Nat} (h : GapsOk cs) (hd : DropOf cs g p1 g1 c g2 p2 x y) : GapsOk (dropL p1 p2 x y) := by
  obtain ⟨e, -⟩ := hd
  subst e
  exact h.left.append ((GapsOk.gap _ _).append h.right.right)

theorem drop_objs {cs p1 g1 g2 p2 t1 t2 : List Cel} {c c' : Cel} {g x y H : Nat} (hd : DropOf cs g p1 g1 c g2 p2 x y) (htl : Tiles 0 cs H) (h : (objsOf cs).Perm (t1 ++ c' :: t2)) (hc : c'.g = g) : (objsOf (dropL p1 p2 x y)).Perm (t1 ++ t2) := by
  have hm : c' ∈ objsOf cs := h.mem_iff.2 (by simp)
  have hm' := (mem_objsOf.1 hm).1
  obtain ⟨e, h1, h2, h3, h4, -⟩ := hd
  have hcm : c ∈ cs := by rw [e]; simp
  have ec : c' = c := htl.only hm' hcm (by omega)
  subst ec
  have e1 : objsOf cs = objsOf p1 ++ (c' :: objsOf p2) := by
    rw [e, objsOf_append, show g1 ++ c' :: g2 ++ p2 = g1 ++ (c' :: (g2 ++ p2)) by simp, objsOf_append, objsOf_gaps h3, List.nil_append, objsOf_obj h2, objsOf_append, objsOf_gaps h4, List.nil_append]
  rw [e1] at h
  rw [dropL, objsOf_append, objsOf_append, objsOf_gap, List.nil_append]
  have h5 : (c' :: (objsOf p1 ++ objsOf p2)).Perm (c' :: (t1 ++ t2)) := (List.perm_middle.symm.trans h).trans List.perm_middle
  exact h5.cons_inv

theorem take_drop_at {th : List Cel} {k : Nat} {c : Cel} (h : th[k]? = some c) : th = th.take k ++ c :: th.drop (k + 1) := by
  have hk := (List.getElem?_eq_some_iff.1 h).1
  have hc := (List.getElem?_eq_some_iff.1 h).2
  conv => lhs; rw [← List.take_append_drop k th, List.drop_eq_getElem_cons hk, hc]

theorem start_of_mem {cs th : List Cel} {c : Cel} (h : (objsOf cs).Perm th) (hc : c ∈ th) : startOf cs c.g = true := by
  obtain ⟨h1, h2⟩ := mem_objsOf.1 (h.mem_iff.2 hc)
  rw [startOf, List.any_eq_true]
  exact ⟨c, h1, by simp [h2]⟩

theorem flatC_take : ∀ (k : Nat) (xs : List Cel), flatC (xs.take k) = (flatC xs).take (k * 5)
  | 0, xs => by simp [flatC]
  | k + 1, [] => by simp [flatC]
  | k + 1, x :: xs => by
    rw [List.take_succ_cons, flatC, flatC, flatC_take k xs, show (k + 1) * 5 = k * 5 + 5 by omega]
    rfl

theorem flatC_drop : ∀ (k : Nat) (xs : List Cel), flatC (xs.drop k) = (flatC xs).drop (k * 5)
  | 0, xs => by simp
  | k + 1, [] => by simp [flatC]
  | k + 1, x :: xs => by
    rw [List.drop_succ_cons, flatC, flatC_drop k xs, show (k + 1) * 5 = k * 5 + 5 by omega]
    rfl

theorem flatC_one : ∀ (xs : List Cel), ∀ u ∈ flatC xs, u.oneCell' = true
  | [], u, h => by cases h
  | x :: xs, u, h => by
    simp only [flatC, List.mem_cons] at h
    rcases h with rfl | rfl | rfl | rfl | rfl | h
    · rfl
    · rfl
    · rfl
    · rfl
    · rfl
    · exact flatC_one xs u h

/-- The cells of a part of a row, out of its block. -/
theorem row_news {w : World} {gT : Nat} {curT : Array Value} {th : List Cel} (hb : w.heap[gT]? = some (.cells curT 45 (0, 0))) (ht : curT.toList.take (th.length * 5) = flatC th) (s : Nat) {ys : List Value} (hys : ∀ (j : Nat) u, ys[j]? = some u → (flatC th)[s + j]? = some u) :
    ∀ (j : Nat) u, ys[j]? = some u → w.cell? ((⟨gT, s, none⟩ : Addr).add j) = some u := by
  intro j u hu
  have h1 := hys j u hu
  rw [← ht] at h1
  have h2 : curT.toList[s + j]? = some u := by
    rw [List.getElem?_take] at h1
    split at h1
    · exact h1
    · cases h1
  have hadd : (⟨gT, s, none⟩ : Addr).add j = ⟨gT, s + j, none⟩ := by unfold Addr.add; split <;> simp_all
  rw [hadd]
  simpa [World.cell?, hb] using h2

theorem news_take {th : List Cel} {k : Nat} : ∀ (j : Nat) u, (flatC (th.take k))[j]? = some u → (flatC th)[0 + j]? = some u := by
  intro j u h
  rw [flatC_take, List.getElem?_take] at h
  rw [Nat.zero_add]
  split at h
  · exact h
  · cases h

theorem news_drop {th : List Cel} {k : Nat} : ∀ (j : Nat) u, (flatC (th.drop k))[j]? = some u → (flatC th)[k * 5 + j]? = some u := by
  intro j u h
  rwa [flatC_drop, List.getElem?_drop] at h

end Go.Proofs.YtafjebdjdmlahaaDoor
