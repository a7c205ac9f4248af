/-
 The arguments of the laws about plans: bytes, with how many there may be; a plan.
-/
import Derived.Test.YtlmdkfbibpkjgaaGreatDoorArgsA
import Derived.Test.YtlmdkfbibpkjgaaGreatDoorMarkC
import Derived.Test.YtlmdkfbibpkjgaaGreatDoorPlanG
namespace Go.Proofs.YtlmdkfbibpkjgaaGreatDoor
open Go.RowKit Go.WideShapes Go.ChangeShapes Go.Deep
set_option linter.unusedVariables false

section
variable {H : Type} {enc : TypeId × Value -> H} {P : Program}

theorem slice_len {w : World} {base : Nat} {sp : Nat -> Bool} {held : Bool} {t e : TypeId} {v : Value} {d : DataW H} {ps : List MemPlace} (ht : P.underlying t = some (.slice e)) (hB : 1 <= P.bytesOf e) (hv : ∃ a len cap, v = .slice a len cap) (h : DataW.Trod enc P w base sp held t v d ps) (hw : ∀ n ∈ d.weights P t, n <= reachBytes) :
  ∃ a len cap, v = .slice a len cap /\ len <= 140737488355328 := by
 obtain ⟨a, len, cap, rfl⟩ := hv
 obtain ⟨fuel, h⟩ := h
 have hcs : (Value.slice a len cap).cells.toList = [.slice a len cap] := rfl
 rw [hcs] at h
 rcases open_slice ht h with ⟨h0, -⟩ | ⟨a', len', cap', m, n, D, Pl, h1, h2, h3, h4, h5, h6, h7⟩
 ·injection h0 with h0
  injection h0 with h0 h1 h2
  subst h0 h1 h2
  exact ⟨_, _, _, rfl, by omega⟩
 ·injection h1 with h1
  injection h1 with e1 e2 e3
  subst e1 e2 e3
  have hd := congrArg Prod.fst h6
  dsimp only at hd
  have hm : len <= m := by rw [h5]; split <;> omega
  refine ⟨_, _, _, rfl, ?_⟩
  rw [hd] at hw
  have := hw _ (by simp only [DataW.weights, ht]; exact List.mem_cons_self)
  unfold reachBytes at this
  simp only [List.length_map, List.length_range] at this
  have h8 : (len + (m - len)) * 1 <= (len + (m - len)) * P.bytesOf e := Nat.mul_le_mul_left _ hB
  omega

theorem open_struct9 {w : World} {base b0 : Nat} {r : Reach} {sp : Nat -> Bool} {held : Bool} {t : TypeId} {fs : Array Field} {v : Value} {d : DataW H} {ps : List MemPlace} (hs : P.underlying t = some (.struct fs)) (hone : oneCellFields P fs = true) (hC : P.cellsOf t = fs.size)
  (hv : Value.okWide P w r b0 t v) (h : DataW.Trod enc P w base sp held t v d ps) (hw : ∀ n ∈ d.weights P t, n <= reachBytes) :
  ∃ cs : List Value, v = .agg cs.toArray /\ cs.length = fs.size /\ ∀ (j : Nat) (f : Field), fs[j]? = some f -> ∃ u n y, cs[j]? = some u /\ DataW.trod enc P w base sp held n f.type [u] = some y /\ ∀ m ∈ y.1.weights P f.type, m <= reachBytes := by
 obtain ⟨cs, rfl, hsz⟩ := okWide_struct hs hv
 obtain ⟨l⟩ := cs
 obtain ⟨fuel, hf⟩ := h
 obtain ⟨ys, n', _, hx, _, hyl, hg⟩ := DataW.trod_struct hs hf
 have hl : l.length = fs.size := by rw [<- hC]; exact hsz
 refine ⟨l, rfl, hl, λ j f hj => ?_⟩
 have hjl : j < fs.size := (Array.getElem?_eq_some_iff.1 hj).1
 obtain ⟨ho, hk⟩ := hone_of hone j _ hj
 have h8 := hg j _ hj
 rw [ho, hk] at h8
 have hcl : (Value.agg l.toArray).cells.toList = l := by simp [Value.cells]
 rw [hcl] at h8
 have hone' : (l.drop j).take 1 = [l[j]'(by omega)] := by rw [List.drop_eq_getElem_cons (by omega)]; rfl
 rw [hone', List.getElem?_eq_getElem (by omega)] at h8
 refine ⟨l[j]'(by omega), n', _, List.getElem?_eq_getElem (by omega), h8, λ k hk => hw k ?_⟩
 have hd := congrArg Prod.fst hx
 dsimp only at hd
 rw [hd]
 simp only [DataW.weights, hs]
 exact DataW.weights_mem_each (j := j) (t := f.type) (by simp [hj]) (by rw [List.getElem?_map, List.getElem?_eq_getElem (by omega)]; rfl) k hk

theorem open_bytes9 {w : World} {base : Nat} {held : Bool} {t e : TypeId} {v : Value} {d : DataW H} {ps : List MemPlace} (ht : P.underlying t = some (.slice e)) (he : P.underlying e = some (.int .u8)) (hc : P.cellsOf e = 1) (hB : 1 <= P.bytesOf e) (hv : ∃ a len cap, v = .slice a len cap)
  (h : DataW.Trod enc P w base (λ _ => true) held t v d ps) (hw : ∀ n ∈ d.weights P t, n <= reachBytes) : ∃ (len : Nat) (f : Nat -> Nat), BytesIn w v len f /\ len <= 140737488355328 := by
 obtain ⟨len, f, hb⟩ := open_bytes8 ht he hc hv h
 obtain ⟨a, l, c, e1, e2⟩ := slice_len ht hB hv h hw
 refine ⟨len, f, hb, ?_⟩
 obtain ⟨a', c', e3, -⟩ := hb
 rw [e1] at e3
 injection e3 with _ e4
 omega

theorem trod_of_cell9 {w : World} {base : Nat} {sp : Nat -> Bool} {held : Bool} {t : TypeId} {a : Option Addr} {l c n : Nat} {y : DataW H × List MemPlace} (h : DataW.trod enc P w base sp held n t [.slice a l c] = some y) : DataW.Trod enc P w base sp held t (.slice a l c) y.1 y.2 := ⟨n, h⟩

theorem slice_of_trod9 {w : World} {base : Nat} {sp : Nat -> Bool} {held : Bool} {t e : TypeId} {u : Value} {n : Nat} {y : DataW H × List MemPlace} (ht : P.underlying t = some (.slice e)) (h : DataW.trod enc P w base sp held n t [u] = some y) : ∃ a l c, u = .slice a l c := by
 rcases open_slice ht h with ⟨h0, -⟩ | ⟨a', len', cap', m, n, D, Pl, h1, -⟩
 ·injection h0 with h0
  exact ⟨_, _, _, h0⟩
 ·injection h1 with h1
  exact ⟨_, _, _, h1⟩

theorem open_shifts {w : World} {base : Nat} {sp : Nat -> Bool} {held : Bool} {t e : TypeId} {f0 f1 f2 : Field} {v : Value} {d : DataW H} {ps : List MemPlace} (ht : P.underlying t = some (.slice e)) (he : P.underlying e = some (.struct #[f0, f1, f2])) (hone : oneCellFields P #[f0, f1, f2] = true) (hC : P.cellsOf e = 3)
  (hB : 8 <= P.bytesOf e) (h0 : P.underlying f0.type = some (.int .i64)) (h1 : P.underlying f1.type = some (.int .i64)) (h2 : P.underlying f2.type = some (.int .i64)) (hv : ∃ a len cap, v = .slice a len cap) (h : DataW.Trod enc P w base sp held t v d ps) (hw : ∀ n ∈ d.weights P t, n <= reachBytes) :
  ∃ es : List (Int × Int × Int), RowH w v es := by
 obtain ⟨len, V, ⟨a, cap, rfl, hr⟩, hl, hf⟩ := open_rows ht he hone hC (by simp) hB hv h hw
 refine ⟨(List.range len).map λ i => (intV (V i 0), intV (V i 1), intV (V i 2)), a, cap, by simp, λ i x hx => ?_⟩
 have hi : i < len := by have := (List.getElem?_eq_some_iff.1 hx).1; simpa using this
 have hx' : x = (intV (V i 0), intV (V i 1), intV (V i 2)) := by simp [hi] at hx; exact hx.symm
 subst hx'
 obtain ⟨b, o, rfl, hb, hc⟩ := hr i hi
 obtain ⟨n0, y0, g0, -⟩ := hf i hi 0 f0 rfl
 obtain ⟨n1, y1, g1, -⟩ := hf i hi 1 f1 rfl
 obtain ⟨n2, y2, g2, -⟩ := hf i hi 2 f2 rfl
 obtain ⟨z0, e0, -, w0⟩ := DataW.trod_int h0 g0
 obtain ⟨z1, e1, -, w1⟩ := DataW.trod_int h1 g1
 obtain ⟨z2, e2, -, w2⟩ := DataW.trod_int h2 g2
 injection e0 with e0
 injection e1 with e1
 injection e2 with e2
 have c0 := hc 0 (by simp)
 have c1 := hc 1 (by simp)
 have c2 := hc 2 (by simp)
 rw [e0] at c0 ⊢
 rw [e1] at c1 ⊢
 rw [e2] at c2 ⊢
 refine ⟨b, o, rfl, hb, c0, by rw [Nat.add_assoc]; exact c1, ?_⟩
 rw [Nat.add_assoc]
 exact c2

end

set_option maxRecDepth 20000 in
theorem open_plan {H : Type} {enc : TypeId × Value -> H} {w : World} {base b0 : Nat} {r : Reach} {sp : Nat -> Bool} {held : Bool} {v : Value} {d : DataW H} {ps : List MemPlace}
  (hv : Value.okWide Tryz.prog w r b0 24 v) (h : DataW.Trod enc Tryz.prog w base sp held 24 v d ps) (hw : ∀ n ∈ d.weights Tryz.prog 24, n <= reachBytes) :
  ∃ u es, v = .agg #[u] /\ RowH w u es := by
 obtain ⟨cs, rfl, hl, hf⟩ := open_struct9 Tryz.underlying24 (by kernel_rfl) (by kernel_rfl) hv h hw
 obtain ⟨u0, n0, y0, c0, t0, w0⟩ := hf 0 _ rfl
 obtain ⟨a1, l1, k1, rfl⟩ := slice_of_trod9 Tryz.underlying22 t0
 obtain ⟨es, hes⟩ := open_shifts Tryz.underlying22 Tryz.underlying27 (by kernel_rfl) (by kernel_rfl) (of_decide_eq_true (by kernel_rfl)) Tryz.underlying3 Tryz.underlying3 Tryz.underlying3 ⟨_, _, _, rfl⟩ (trod_of_cell9 t0) w0
 have hcs : cs = [.slice a1 l1 k1] := by
  have hl5 : cs.length = 1 := hl
  match cs, hl5, c0 with
  | [q0], _, c0 =>
   injection c0 with c0
   subst c0
   rfl
 subst hcs
 exact ⟨_, es, rfl, hes⟩

end Go.Proofs.YtlmdkfbibpkjgaaGreatDoor
