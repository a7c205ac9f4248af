/-
  An argument that is a slice of structs of two fields: an int and a slice of ints.
  An argument that is a slice of structs whose fields have one cell each.
-/
import Derived.Test.YtpmiidpbngbclaaGreatDoorLib
import Derived.Deep.SlicePairs
import Derived.SizedLaws
namespace Go.Proofs.YtpmiidpbngbclaaGreatDoor
open Go.RowKit Go.WideShapes Go.ChangeShapes Go.Deep
set_option linter.unusedVariables false

/-- The value v is a slice of len steps: step i has the number d i and the slice u i, of ll i numbers lx i. -/
def StepsAt (w : World) (v : Value) (len : Nat) (d : Nat → Int) (u : Nat → Value) (ll : Nat → Nat) (lx : Nat → Nat → Nat → Int) : Prop :=
  ∃ a cap, v = .slice a len cap ∧ ∀ i, i < len → ∃ b o, a = some ⟨b, o, none⟩ ∧ b < w.heap.size ∧
    w.cell? ⟨b, o + i * 2, none⟩ = some (.int .i64 (d i)) ∧ w.cell? ⟨b, o + i * 2 + 1, none⟩ = some (u i) ∧ IntsAt 1 w (u i) (ll i) (lx i) ∧ ll i ≤ 17592186044416

section
variable {H : Type} {enc : TypeId × Value → H} {P : Program}

theorem spot_none {w : World} {a : Addr} {v : Value} (h : w.cell? (a.add 0) = some v) : a.spot = none := by
  have := (cell_plain h).1
  simp [Addr.add] at this
  exact this ▸ rfl

theorem weightsAll_mem {e : TypeId} : ∀ {l : List (DataW H)} {d : DataW H}, d ∈ l → ∀ n ∈ d.weights P e, n ∈ DataW.weightsAll P e l
  | d0 :: l, d, hd, n, hn => by
    simp only [DataW.weightsAll, List.mem_append]
    rcases List.mem_cons.1 hd with rfl | h
    · exact .inl hn
    · exact .inr (weightsAll_mem h n hn)

theorem open_ints {w : World} {base : Nat} {sp : Nat → Bool} {held : Bool} {t e : TypeId} {v : Value} {n : Nat} {x : DataW H × List MemPlace} (ht : P.underlying t = some (.slice e)) (he : P.underlying e = some (.int .i64)) (hC : P.cellsOf e = 1) (hB : P.bytesOf e = 8)
    (h : DataW.trod enc P w base sp held n t [v] = some x) (hw : ∀ n ∈ x.1.weights P t, n ≤ reachBytes) : ∃ len y, IntsAt 1 w v len y ∧ len ≤ 17592186044416 := by
  rcases open_slice1 ht hC h with ⟨h0, -⟩ | ⟨a', len', cap', m, n', V, D, Pl, h1, h2, h3, h4, h5, h6, h7⟩
  · injection h0 with h0
    subst h0
    exact ⟨0, fun _ _ => 0, ⟨none, 0, rfl, fun i hi => by omega⟩, by omega⟩
  · injection h1 with h1
    subst h1
    have hlen : len' ≤ 17592186044416 := by
      subst h6
      have := hw _ (by simp only [DataW.weights, ht]; exact List.mem_cons_self)
      rw [hB] at this
      unfold reachBytes at this
      simp only [List.length_map, List.length_range] at this
      omega
    refine ⟨len', fun i j => match w.cell? (a'.add i) with | some (.int _ z) => z | _ => 0, ⟨some a', cap', rfl, fun i hi => ?_⟩, hlen⟩
    have him : i < m := by rw [h5]; split <;> omega
    obtain ⟨hc, hd⟩ := h7 i him
    obtain ⟨z, hz, _, hwf⟩ := DataW.trod_int he hd
    injection hz with hz
    rw [hz] at hc
    have hspot : a'.spot = none := spot_none (h7 0 (by omega)).1
    have ha' : a' = ⟨a'.block, a'.off, none⟩ := by cases a'; simp at hspot; simp [hspot]
    have hc' := hc
    rw [ha', Addr.add_lit] at hc'
    refine ⟨a'.block, a'.off, congrArg some ha', (cell_plain hc').2, fun j hj => ?_⟩
    simp only [hc]
    obtain rfl : j = 0 := by omega
    rw [Nat.mul_one, Nat.add_zero]
    exact ⟨hc', bounds_i64 hwf⟩

theorem open_steps {w : World} {base : Nat} {sp : Nat → Bool} {held : Bool} {t e : TypeId} {f0 f1 : Field} {v : Value} {d : DataW H} {ps : List MemPlace} {ei : TypeId} (ht : P.underlying t = some (.slice e)) (he : P.underlying e = some (.struct #[f0, f1]))
    (ce : P.cellsOf e = 2) (hBe : 8 ≤ P.bytesOf e) (o0 : f0.offset = 0) (o1 : f1.offset = 1) (c0 : P.cellsOf f0.type = 1) (c1 : P.cellsOf f1.type = 1) (h0 : P.underlying f0.type = some (.int .i64)) (h1 : P.underlying f1.type = some (.slice ei)) (hei : P.underlying ei = some (.int .i64)) (ci : P.cellsOf ei = 1) (hB : P.bytesOf ei = 8)
    (hv : ∃ a len cap, v = .slice a len cap) (h : DataW.Trod enc P w base sp held t v d ps) (hw : ∀ n ∈ d.weights P t, n ≤ reachBytes) : ∃ len dd u ll lx, StepsAt w v len dd u ll lx ∧ len ≤ 17592186044416 := by
  obtain ⟨a, len, cap, rfl⟩ := hv
  obtain ⟨fuel, h⟩ := h
  have hcs : (Value.slice a len cap).cells.toList = [.slice a len cap] := rfl
  rw [hcs] at h
  rcases open_slice_pairs ht he ce o0 o1 c0 c1 h with ⟨h0', -⟩ | ⟨a', len', cap', m, n, V0, V1, D0, D1, P0, P1, g1, g2, g3, g4, g5, g6, g7⟩
  · injection h0' with h0'
    injection h0' with h0' h1' h2'
    subst h0' h1' h2'
    exact ⟨0, fun _ => 0, fun _ => .bool false, fun _ => 0, fun _ _ _ => 0, ⟨none, 0, rfl, fun i hi => by omega⟩, by omega⟩
  · injection g1 with g1
    injection g1 with e1 e2 e3
    subst e1 e2 e3
    have hd := congrArg Prod.fst g6
    dsimp only at hd
    have hm : len ≤ m := by rw [g5]; split <;> omega
    have hlen : len ≤ 17592186044416 := by
      rw [hd] at hw
      have := hw _ (by simp only [DataW.weights, ht]; exact List.mem_cons_self)
      unfold reachBytes at this
      simp only [List.length_map, List.length_range] at this
      have h8 : (len + (m - len)) * 8 ≤ (len + (m - len)) * P.bytesOf e := Nat.mul_le_mul_left _ hBe
      omega
    have each : ∀ i, i < len → ∃ q : Int × Nat × (Nat → Nat → Int), w.cell? (a'.add (i * 2)) = some (.int .i64 q.1) ∧ w.cell? (a'.add (i * 2 + 1)) = some (V1 i) ∧ IntsAt 1 w (V1 i) q.2.1 q.2.2 ∧ q.2.1 ≤ 17592186044416 := by
      intro i hi
      obtain ⟨x0, x1, x2, x3⟩ := g7 i (by omega)
      obtain ⟨z, hz, _, hwf⟩ := DataW.trod_int h0 x2
      injection hz with hz
      obtain ⟨len2, x, hx, hl⟩ := open_ints h1 hei ci hB x3 (by
        intro k hk
        refine hw k ?_
        rw [hd]
        simp only [DataW.weights, ht]
        refine List.mem_cons_of_mem _ (List.mem_append_left _ (weightsAll_mem (List.mem_map.2 ⟨i, List.mem_range.2 hi, rfl⟩) k ?_))
        simp only [DataW.weights, he]
        exact DataW.weights_mem_each (j := 1) (t := f1.type) (d := D1 i) rfl rfl k hk)
      exact ⟨⟨z, len2, x⟩, by rw [← hz]; exact x0, x1, hx, hl⟩
    have pick : ∃ q : Nat → Int × Nat × (Nat → Nat → Int), ∀ i, i < len → w.cell? (a'.add (i * 2)) = some (.int .i64 (q i).1) ∧ w.cell? (a'.add (i * 2 + 1)) = some (V1 i) ∧ IntsAt 1 w (V1 i) (q i).2.1 (q i).2.2 ∧ (q i).2.1 ≤ 17592186044416 := by
      have h2 : ∀ i, ∃ q : Int × Nat × (Nat → Nat → Int), i < len → w.cell? (a'.add (i * 2)) = some (.int .i64 q.1) ∧ w.cell? (a'.add (i * 2 + 1)) = some (V1 i) ∧ IntsAt 1 w (V1 i) q.2.1 q.2.2 ∧ q.2.1 ≤ 17592186044416 := by
        intro i
        by_cases hi : i < len
        · obtain ⟨q, hq⟩ := each i hi
          exact ⟨q, fun _ => hq⟩
        · exact ⟨⟨0, 0, fun _ _ => 0⟩, fun h => absurd h hi⟩
      exact ⟨fun i => (h2 i).choose, fun i hi => (h2 i).choose_spec hi⟩
    obtain ⟨q, hq⟩ := pick
    refine ⟨len, fun i => (q i).1, V1, fun i => (q i).2.1, fun i => (q i).2.2, ⟨some a', cap, rfl, fun i hi => ?_⟩, hlen⟩
    obtain ⟨y0, y1, y2, y3⟩ := hq i hi
    have hspot : a'.spot = none := spot_none (hq 0 (by omega)).1
    have ha' : a' = ⟨a'.block, a'.off, none⟩ := by cases a'; simp at hspot; simp [hspot]
    rw [ha', Addr.add_lit] at y0 y1
    exact ⟨a'.block, a'.off, congrArg some ha', (cell_plain y0).2, y0, by rw [← Nat.add_assoc] at y1; exact y1, y2, y3⟩

end

end Go.Proofs.YtpmiidpbngbclaaGreatDoor

namespace Go.Proofs.YtpmiidpbngbclaaGreatDoor
open Go.RowKit Go.WideShapes Go.ChangeShapes Go.Deep
set_option linter.unusedVariables false

/-- The value v is a slice of len rows of k cells each, V i j the j-th of row i. -/
def RowsAt (k : Nat) (w : World) (v : Value) (len : Nat) (V : Nat → Nat → Value) : Prop :=
  ∃ a cap, v = .slice a len cap ∧ ∀ i, i < len → ∃ b o, a = some ⟨b, o, none⟩ ∧ b < w.heap.size ∧ ∀ j, j < k → w.cell? ⟨b, o + (i * k + j), none⟩ = some (V i j)

section
variable {H : Type} {enc : TypeId × Value → H} {P : Program}

theorem open_rows {w : World} {base : Nat} {sp : Nat → Bool} {held : Bool} {t e : TypeId} {fs : Array Field} {v : Value} {d : DataW H} {ps : List MemPlace} (ht : P.underlying t = some (.slice e)) (he : P.underlying e = some (.struct fs)) (hone : oneCellFields P fs = true) (hC : P.cellsOf e = fs.size)
    (hpos : 0 < fs.size) (hB : 8 ≤ P.bytesOf e) (hv : ∃ a len cap, v = .slice a len cap) (h : DataW.Trod enc P w base sp held t v d ps) (hw : ∀ n ∈ d.weights P t, n ≤ reachBytes) :
    ∃ len V, RowsAt fs.size w v len V ∧ len ≤ 17592186044416 ∧ ∀ i, i < len → ∀ (j : Nat) (f : Field), fs[j]? = some f → ∃ n y, DataW.trod enc P w base sp held n f.type [V i j] = some y ∧ ∀ m ∈ y.1.weights P f.type, m ≤ reachBytes := by
  obtain ⟨a, len, cap, rfl⟩ := hv
  obtain ⟨fuel, h⟩ := h
  have hcs : (Value.slice a len cap).cells.toList = [.slice a len cap] := rfl
  rw [hcs] at h
  rcases open_slice ht h with ⟨h0, -⟩ | ⟨a', len', cap', m, n, D, Pl, h1, h2, h3, h4, h5, h6, h7⟩
  · injection h0 with h0
    injection h0 with h0 h1 h2
    subst h0 h1 h2
    exact ⟨0, fun _ _ => .bool false, ⟨none, 0, rfl, fun i hi => by omega⟩, by omega, fun i hi => by omega⟩
  · injection h1 with h1
    injection h1 with e1 e2 e3
    subst e1 e2 e3
    have hd := congrArg Prod.fst h6
    dsimp only at hd
    have hm : len ≤ m := by rw [h5]; split <;> omega
    have hlen : len ≤ 17592186044416 := by
      rw [hd] at hw
      have := hw _ (by simp only [DataW.weights, ht]; exact List.mem_cons_self)
      unfold reachBytes at this
      simp only [List.length_map, List.length_range] at this
      have h8 : (len + (m - len)) * 8 ≤ (len + (m - len)) * P.bytesOf e := Nat.mul_le_mul_left _ hB
      omega
    have each : ∀ i, i < len → ∃ cs : List Value, cs.length = fs.size ∧ (∀ j, j < fs.size → w.cell? ((a'.add (i * fs.size)).add j) = cs[j]?) ∧
        ∀ (j : Nat) (f : Field), fs[j]? = some f → ∃ u n y, cs[j]? = some u ∧ DataW.trod enc P w base sp held n f.type [u] = some y ∧ ∀ m ∈ y.1.weights P f.type, m ≤ reachBytes := by
      intro i hi
      obtain ⟨cs, hc, hdd⟩ := h7 i (by omega)
      rw [hC] at hc
      obtain ⟨_, hcl, hat⟩ := World.cells?_some hc
      obtain ⟨ys, n', _, hDi, _, hyl, hf⟩ := DataW.trod_struct he hdd
      refine ⟨cs, hcl, hat, fun j f hjf => ?_⟩
      have hj : j < fs.size := (Array.getElem?_eq_some_iff.1 hjf).1
      obtain ⟨ho, hk⟩ := hone_of hone j _ hjf
      have h8 := hf j _ hjf
      rw [ho, hk] at h8
      have hjl : j < cs.length := by omega
      have hone' : (cs.drop j).take 1 = [cs[j]] := by rw [List.drop_eq_getElem_cons hjl]; rfl
      rw [hone', List.getElem?_eq_getElem (by omega)] at h8
      refine ⟨cs[j], n', _, List.getElem?_eq_getElem hjl, h8, fun k hk => ?_⟩
      refine hw k ?_
      rw [hd]
      simp only [DataW.weights, ht]
      refine List.mem_cons_of_mem _ (List.mem_append_left _ (weightsAll_mem (List.mem_map.2 ⟨i, List.mem_range.2 hi, rfl⟩) k ?_))
      have hDi' := congrArg Prod.fst hDi
      dsimp only at hDi'
      rw [hDi']
      simp only [DataW.weights, he]
      exact DataW.weights_mem_each (j := j) (t := f.type) (by simp [hjf]) (by rw [List.getElem?_map, List.getElem?_eq_getElem (by omega)]; rfl) k hk
    have pick : ∃ q : Nat → List Value, ∀ i, i < len → (q i).length = fs.size ∧ (∀ j, j < fs.size → w.cell? ((a'.add (i * fs.size)).add j) = (q i)[j]?) ∧
        ∀ (j : Nat) (f : Field), fs[j]? = some f → ∃ u n y, (q i)[j]? = some u ∧ DataW.trod enc P w base sp held n f.type [u] = some y ∧ ∀ m ∈ y.1.weights P f.type, m ≤ reachBytes := by
      have h2 : ∀ i, ∃ q : List Value, i < len → q.length = fs.size ∧ (∀ j, j < fs.size → w.cell? ((a'.add (i * fs.size)).add j) = q[j]?) ∧
          ∀ (j : Nat) (f : Field), fs[j]? = some f → ∃ u n y, q[j]? = some u ∧ DataW.trod enc P w base sp held n f.type [u] = some y ∧ ∀ m ∈ y.1.weights P f.type, m ≤ reachBytes := by
        intro i
        by_cases hi : i < len
        · obtain ⟨q, hq⟩ := each i hi
          exact ⟨q, fun _ => hq⟩
        · exact ⟨[], fun h => absurd h hi⟩
      exact ⟨fun i => (h2 i).choose, fun i hi => (h2 i).choose_spec hi⟩
    obtain ⟨q, hq⟩ := pick
    refine ⟨len, fun i j => (q i).getD j (.bool false), ⟨some a', cap, rfl, fun i hi => ?_⟩, hlen, fun i hi j f hjf => ?_⟩
    · obtain ⟨y0, y1, y2⟩ := hq i hi
      have h00 := (hq 0 (by omega)).2.1 0 hpos
      have hl0 := (hq 0 (by omega)).1
      rw [List.getElem?_eq_getElem (by omega)] at h00
      have hspot : a'.spot = none := by
        have := (cell_plain h00).1
        simp [Addr.add] at this
        exact this ▸ rfl
      have ha' : a' = ⟨a'.block, a'.off, none⟩ := by cases a'; simp at hspot; simp [hspot]
      have hadd : ∀ i j, (a'.add (i * fs.size)).add j = ⟨a'.block, a'.off + (i * fs.size + j), none⟩ := by
        intro i j
        rw [ha', Addr.add_lit, Addr.add_lit, Nat.add_assoc]
      refine ⟨a'.block, a'.off, congrArg some ha', ?_, fun j hj => ?_⟩
      · have := (cell_plain h00).2
        rw [hadd] at this
        exact this
      · have := y1 j hj
        rw [hadd, List.getElem?_eq_getElem (by omega)] at this
        rw [this]
        simp [y0, hj]
    · obtain ⟨y0, y1, y2⟩ := hq i hi
      obtain ⟨u, n, y, hu, hy, hm⟩ := y2 j f hjf
      refine ⟨n, y, ?_, hm⟩
      simpa [List.getD_eq_getElem?_getD, hu] using hy

end

end Go.Proofs.YtpmiidpbngbclaaGreatDoor
