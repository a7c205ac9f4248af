/-
  The argument of the laws about graphs: a struct of four slices, one of them of nodes.
-/
import Derived.Test.YtifdhaiihlfomaaDoorDiEx
import Derived.Test.YtifdhaiihlfomaaDoorLibA
import Derived.Deep.SlicePairs
import Derived.SizedLaws
namespace Go.Proofs.YtifdhaiihlfomaaDoor
open Go.RowKit Go.WideShapes Go.ChangeShapes Go.Deep
set_option linter.unusedVariables false

section
variable {H : Type} {enc : TypeId × Value → H} {P : Program}

theorem spot_none {w : World} {a : Addr} {v : Value} (h : w.cell? (a.add 0) = some v) : a.spot = none := by
  have := (cell_plain h).1
  simp [Addr.add] at this
  exact this ▸ rfl
theorem weightsAll_mem {e : TypeId} : ∀ {l : List (DataW H)} {d : DataW H}, d ∈ l → ∀ n ∈ d.weights P e, n ∈ DataW.weightsAll P e l
  | d0 :: l, d, hd, n, hn => by
    simp only [DataW.weightsAll, List.mem_append]
    rcases List.mem_cons.1 hd with rfl | h
    · exact .inl hn
    · exact .inr (weightsAll_mem h n hn)
/-- A slice of numbers. -/
theorem open_nums {w : World} {base : Nat} {sp : Nat → Bool} {held : Bool} {t e : TypeId} {k : IntKind} {v : Value} {n : Nat} {x : DataW H × List MemPlace} (ht : P.underlying t = some (.slice e)) (he : P.underlying e = some (.int k)) (hC : P.cellsOf e = 1) (hB : P.bytesOf e = 8)
    (h : DataW.trod enc P w base sp held n t [v] = some x) (hw : ∀ n ∈ x.1.weights P t, n ≤ reachBytes) : ∃ xs : List Int, RowR k w v xs ∧ xs.length ≤ 17592186044416 := by
  rcases open_slice1 ht hC h with ⟨h0, -⟩ | ⟨a', len', cap', m, n', V, D, Pl, h1, h2, h3, h4, h5, h6, h7⟩
  · injection h0 with h0
    subst h0
    exact ⟨[], row_none _ _, by simp⟩
  · injection h1 with h1
    subst h1
    have hlen : len' ≤ 17592186044416 := by
      subst h6
      have := hw _ (by simp only [DataW.weights, ht]; exact List.mem_cons_self)
      rw [hB] at this
      unfold reachBytes at this
      simp only [List.length_map, List.length_range] at this
      omega
    refine ⟨(List.range len').map fun i => match w.cell? (a'.add i) with | some (.int _ z) => z | _ => 0, ⟨some a', cap', by simp, fun i y hy => ?_⟩, by simpa using hlen⟩
    have hi : i < len' := by have := (List.getElem?_eq_some_iff.1 hy).1; simpa using this
    have him : i < m := by rw [h5]; split <;> omega
    obtain ⟨hc, hd⟩ := h7 i him
    obtain ⟨z, hz, _, hwf⟩ := DataW.trod_int he hd
    injection hz with hz
    rw [hz] at hc
    have hspot : a'.spot = none := spot_none (h7 0 (by omega)).1
    have ha' : a' = ⟨a'.block, a'.off, none⟩ := by cases a'; simp at hspot; simp [hspot]
    have hc' := hc
    rw [ha', Addr.add_lit] at hc'
    refine ⟨a'.block, a'.off, congrArg some ha', (cell_plain hc').2, ?_⟩
    rw [List.getElem?_map, List.getElem?_range hi] at hy
    simp only [Option.map_some, Option.some.injEq, hc] at hy
    rw [← hy]
    exact hc'
/-- A struct by value: its parts, each read by its own type. -/
theorem open_parts {w : World} {base b0 : Nat} {r : Reach} {sp : Nat → Bool} {held : Bool} {t : TypeId} {fs : Array Field} {v : Value} {d : DataW H} {ps : List MemPlace} (hs : P.underlying t = some (.struct fs)) (hone : oneCellFields P fs = true) (hC : P.cellsOf t = fs.size)
    (hv : Value.okWide P w r b0 t v) (h : DataW.Trod enc P w base sp held t v d ps) (hw : ∀ n ∈ d.weights P t, n ≤ reachBytes) :
    ∃ cs : List Value, v = .agg cs.toArray ∧ cs.length = fs.size ∧ ∀ (j : Nat) (f : Field), fs[j]? = some f → ∃ u n y, cs[j]? = some u ∧ DataW.trod enc P w base sp held n f.type [u] = some y ∧ ∀ m ∈ y.1.weights P f.type, m ≤ reachBytes := by
  obtain ⟨cs, rfl, hsz⟩ := okWide_struct hs hv
  obtain ⟨l⟩ := cs
  obtain ⟨fuel, hf⟩ := h
  obtain ⟨ys, n', _, hx, _, hyl, hg⟩ := DataW.trod_struct hs hf
  have hl : l.length = fs.size := by rw [← hC]; exact hsz
  refine ⟨l, rfl, hl, fun j f hj => ?_⟩
  have hjl : j < fs.size := (Array.getElem?_eq_some_iff.1 hj).1
  obtain ⟨ho, hk⟩ := hone_of hone j _ hj
  have h8 := hg j _ hj
  rw [ho, hk] at h8
  have hcl : (Value.agg l.toArray).cells.toList = l := by simp [Value.cells]
  rw [hcl] at h8
  have hone' : (l.drop j).take 1 = [l[j]'(by omega)] := by rw [List.drop_eq_getElem_cons (by omega)]; rfl
  rw [hone', List.getElem?_eq_getElem (by omega)] at h8
  refine ⟨l[j]'(by omega), n', _, List.getElem?_eq_getElem (by omega), h8, fun k hk => hw k ?_⟩
  have hd := congrArg Prod.fst hx
  dsimp only at hd
  rw [hd]
  simp only [DataW.weights, hs]
  exact DataW.weights_mem_each (j := j) (t := f.type) (by simp [hj]) (by rw [List.getElem?_map, List.getElem?_eq_getElem (by omega)]; rfl) k hk
/-- A slice of structs: its rows, each part read by its own type. -/
theorem open_structs {w : World} {base : Nat} {sp : Nat → Bool} {held : Bool} {t e : TypeId} {fs : Array Field} {v : Value} {fuel : Nat} {x : DataW H × List MemPlace} (ht : P.underlying t = some (.slice e)) (he : P.underlying e = some (.struct fs)) (hone : oneCellFields P fs = true) (hC : P.cellsOf e = fs.size)
    (hpos : 0 < fs.size) (hB : 8 ≤ P.bytesOf e) (h : DataW.trod enc P w base sp held fuel t [v] = some x) (hw : ∀ n ∈ x.1.weights P t, n ≤ reachBytes) :
    ∃ a len cap, v = .slice a len cap ∧ len ≤ 17592186044416 ∧ ∀ i, i < len → ∃ b o, a = some ⟨b, o, none⟩ ∧ b < w.heap.size ∧ ∀ (j : Nat) (f : Field), fs[j]? = some f → ∃ u n y, w.cell? ⟨b, o + (i * fs.size + j), none⟩ = some u ∧ DataW.trod enc P w base sp held n f.type [u] = some y ∧ ∀ m ∈ y.1.weights P f.type, m ≤ reachBytes := by
  rcases open_slice ht h with ⟨h0, -⟩ | ⟨a', len', cap', m, n, D, Pl, h1, h2, h3, h4, h5, h6, h7⟩
  · injection h0 with h0
    subst h0
    exact ⟨none, 0, 0, rfl, by omega, fun i hi => by omega⟩
  · injection h1 with h1
    subst h1
    have hd := congrArg Prod.fst h6
    dsimp only at hd
    have hm : len' ≤ m := by rw [h5]; split <;> omega
    refine ⟨some a', len', cap', rfl, ?_, fun i hi => ?_⟩
    · rw [hd] at hw
      have := hw _ (by simp only [DataW.weights, ht]; exact List.mem_cons_self)
      unfold reachBytes at this
      simp only [List.length_map, List.length_range] at this
      have h8 : (len' + (m - len')) * 8 ≤ (len' + (m - len')) * P.bytesOf e := Nat.mul_le_mul_left _ hB
      omega
    · obtain ⟨cs0, hc0, hdd0⟩ := h7 0 (by omega)
      rw [hC] at hc0
      obtain ⟨_, hcl0, hat0⟩ := World.cells?_some hc0
      have h00 := hat0 0 hpos
      rw [List.getElem?_eq_getElem (by omega)] at h00
      have hspot : a'.spot = none := by
        have := (cell_plain h00).1
        simp [Addr.add] at this
        exact this ▸ rfl
      have ha' : a' = ⟨a'.block, a'.off, none⟩ := by cases a'; simp at hspot; simp [hspot]
      have hadd : ∀ i j, (a'.add (i * fs.size)).add j = ⟨a'.block, a'.off + (i * fs.size + j), none⟩ := by
        intro i j
        rw [ha', Addr.add_lit, Addr.add_lit, Nat.add_assoc]
      obtain ⟨cs, hc, hdd⟩ := h7 i (by omega)
      rw [hC] at hc
      obtain ⟨_, hcl, hat⟩ := World.cells?_some hc
      obtain ⟨ys, n', _, hDi, _, hyl, hf⟩ := DataW.trod_struct he hdd
      refine ⟨a'.block, a'.off, congrArg some ha', ?_, fun j f hjf => ?_⟩
      · have := (cell_plain h00).2
        rw [hadd] at this
        exact this
      · have hj : j < fs.size := (Array.getElem?_eq_some_iff.1 hjf).1
        obtain ⟨ho, hk⟩ := hone_of hone j _ hjf
        have h8 := hf j _ hjf
        rw [ho, hk] at h8
        have hjl : j < cs.length := by omega
        have hone' : (cs.drop j).take 1 = [cs[j]] := by rw [List.drop_eq_getElem_cons hjl]; rfl
        rw [hone', List.getElem?_eq_getElem (by omega)] at h8
        have hcell := hat j hj
        rw [hadd, List.getElem?_eq_getElem hjl] at hcell
        refine ⟨cs[j], n', _, hcell, h8, fun k hk => ?_⟩
        refine hw k ?_
        rw [hd]
        simp only [DataW.weights, ht]
        refine List.mem_cons_of_mem _ (List.mem_append_left _ (weightsAll_mem (List.mem_map.2 ⟨i, List.mem_range.2 hi, rfl⟩) k ?_))
        have hDi' := congrArg Prod.fst hDi
        dsimp only at hDi'
        rw [hDi']
        simp only [DataW.weights, he]
        exact DataW.weights_mem_each (j := j) (t := f.type) (by simp [hjf]) (by rw [List.getElem?_map, List.getElem?_eq_getElem (by omega)]; rfl) k hk
end

section
variable {H : Type} {enc : TypeId × Value → H}
theorem open_nodes {w : World} {base : Nat} {sp : Nat → Bool} {held : Bool} {v : Value} {fuel : Nat} {x : DataW H × List MemPlace} (h : DataW.trod enc Tryd.prog w base sp held fuel 22 [v] = some x) (hw : ∀ n ∈ x.1.weights Tryd.prog 22, n ≤ reachBytes) :
    ∃ ns : List NodeV, NodesR w v ns ∧ ns.length ≤ 17592186044416 ∧ ∀ y ∈ ns, y.ws.length ≤ 17592186044416 ∧ y.rs.length ≤ 17592186044416 := by
  obtain ⟨a, len, cap, rfl, hl, hr⟩ := open_structs Tryd.underlying22 Tryd.underlying41 (by kernel_rfl) (by kernel_rfl) (by simp) (of_decide_eq_true (by kernel_rfl)) h hw
  have each : ∀ i, ∃ y : NodeV, i < len → (∃ b o, a = some ⟨b, o, none⟩ ∧ b < w.heap.size ∧ w.cell? ⟨b, o + i * 4, none⟩ = some (.int .i64 y.ty) ∧ w.cell? ⟨b, o + i * 4 + 1, none⟩ = some (.int .i64 y.ln) ∧ w.cell? ⟨b, o + i * 4 + 2, none⟩ = some y.wv ∧ w.cell? ⟨b, o + i * 4 + 3, none⟩ = some y.rv ∧ NodeR w y) ∧ y.ws.length ≤ 17592186044416 ∧ y.rs.length ≤ 17592186044416 := by
    intro i
    by_cases hi : i < len
    · obtain ⟨b, o, ha, hb, hf⟩ := hr i hi
      obtain ⟨u0, n0, y0, c0, g0, k0⟩ := hf 0 _ rfl
      obtain ⟨u1, n1, y1, c1, g1, k1⟩ := hf 1 _ rfl
      obtain ⟨u2, n2, y2, c2, g2, k2⟩ := hf 2 _ rfl
      obtain ⟨u3, n3, y3, c3, g3, k3⟩ := hf 3 _ rfl
      obtain ⟨z0, e0, -, -⟩ := DataW.trod_int Tryd.underlying3 g0
      obtain ⟨z1, e1, -, -⟩ := DataW.trod_int Tryd.underlying3 g1
      obtain ⟨ws, hws, hwl⟩ := open_nums Tryd.underlying39 Tryd.underlying45 (by kernel_rfl) (by kernel_rfl) g2 k2
      obtain ⟨rs, hrs, hrl⟩ := open_nums Tryd.underlying23 Tryd.underlying3 (by kernel_rfl) (by kernel_rfl) g3 k3
      injection e0 with e0
      injection e1 with e1
      subst e0 e1
      exact ⟨⟨z0, z1, u2, u3, ws, rs⟩, fun _ => ⟨⟨b, o, ha, hb, c0, c1, c2, c3, hws, hrs⟩, hwl, hrl⟩⟩
    · exact ⟨nodeZ, fun h => absurd h hi⟩
  obtain ⟨q, hq⟩ := Classical.axiomOfChoice each
  refine ⟨(List.range len).map q, ⟨a, cap, by simp, fun i y hy => ?_⟩, by simpa using hl, fun y hy => ?_⟩
  · have hi : i < len := by have := (List.getElem?_eq_some_iff.1 hy).1; simpa using this
    rw [List.getElem?_map, List.getElem?_range hi] at hy
    simp only [Option.map_some, Option.some.injEq] at hy
    rw [← hy]
    exact (hq i hi).1
  · obtain ⟨i, hi, rfl⟩ := List.mem_map.1 hy
    exact (hq i (List.mem_range.1 hi)).2
/-- A graph, as an argument. -/
theorem open_graph {w : World} {base b0 : Nat} {r : Reach} {sp : Nat → Bool} {held : Bool} {v : Value} {d : DataW H} {ps : List MemPlace} (hv : Value.okWide Tryd.prog w r b0 25 v) (h : DataW.Trod enc Tryd.prog w base sp held 25 v d ps) (hw : ∀ n ∈ d.weights Tryd.prog 25, n ≤ reachBytes) :
    ∃ x : GraphV, v = x.val ∧ GraphR w x ∧ GraphL x := by
  obtain ⟨cs, rfl, hl, hf⟩ := open_parts Tryd.underlying25 (by kernel_rfl) (by kernel_rfl) hv h hw
  obtain ⟨u0, n0, y0, c0, g0, k0⟩ := hf 0 _ rfl
  obtain ⟨u1, n1, y1, c1, g1, k1⟩ := hf 1 _ rfl
  obtain ⟨u2, n2, y2, c2, g2, k2⟩ := hf 2 _ rfl
  obtain ⟨u3, n3, y3, c3, g3, k3⟩ := hf 3 _ rfl
  obtain ⟨ns, hns, hnl, hnw⟩ := open_nodes g0 k0
  obtain ⟨hs, hhs, hhl⟩ := open_nums Tryd.underlying23 Tryd.underlying3 (by kernel_rfl) (by kernel_rfl) g1 k1
  obtain ⟨pp, hpp, hpl⟩ := open_nums Tryd.underlying23 Tryd.underlying3 (by kernel_rfl) (by kernel_rfl) g2 k2
  obtain ⟨ss, hss, hsl⟩ := open_nums Tryd.underlying23 Tryd.underlying3 (by kernel_rfl) (by kernel_rfl) g3 k3
  refine ⟨⟨u0, u1, u2, u3, ns, hs, pp, ss⟩, ?_, ⟨hns, hhs, hpp, hss⟩, ⟨hnl, hhl, hpl, hsl, hnw⟩⟩
  match cs, hl, c0, c1, c2, c3 with
  | [w0, w1, w2, w3], _, c0, c1, c2, c3 =>
    simp only [List.getElem?_cons_zero, List.getElem?_cons_succ, Option.some.injEq] at c0 c1 c2 c3
    subst c0 c1 c2 c3
    rfl
end

end Go.Proofs.YtifdhaiihlfomaaDoor
