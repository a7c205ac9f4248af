/-
  The argument of the laws about fit: a struct of one-cell fields, by value; a case.
-/
import Derived.Test.YtfnmflgnbjjkkaaGreatDoorArgs
import Derived.Test.YtfnmflgnbjjkkaaGreatDoorSpaceArgs
import Derived.Test.YtfnmflgnbjjkkaaGreatDoorFitMostWalk
namespace Go.Proofs.YtfnmflgnbjjkkaaGreatDoor
open Go.RowKit Go.WideShapes Go.ChangeShapes Go.Deep
set_option linter.unusedVariables false

section
variable {H : Type} {enc : TypeId × Value → H} {P : Program}

/-- A struct by value: its parts, each read by its own type. -/
theorem open_struct {w : World} {base b0 : Nat} {r : Reach} {sp : Nat → Bool} {held : Bool} {t : TypeId} {fs : Array Field} {v : Value} {d : DataW H} {ps : List MemPlace} (hs : P.underlying t = some (.struct fs)) (hone : oneCellFields P fs = true) (hC : P.cellsOf t = fs.size)
    (hv : Value.okWide P w r b0 t v) (h : DataW.Trod enc P w base sp held t v d ps) (hw : ∀ n ∈ d.weights P t, n ≤ reachBytes) :
    ∃ cs : List Value, v = .agg cs.toArray ∧ cs.length = fs.size ∧ ∀ (j : Nat) (f : Field), fs[j]? = some f → ∃ u n y, cs[j]? = some u ∧ DataW.trod enc P w base sp held n f.type [u] = some y ∧ ∀ m ∈ y.1.weights P f.type, m ≤ reachBytes := by
  obtain ⟨cs, rfl, hsz⟩ := okWide_struct hs hv
  obtain ⟨l⟩ := cs
  obtain ⟨fuel, hf⟩ := h
  obtain ⟨ys, n', _, hx, _, hyl, hg⟩ := DataW.trod_struct hs hf
  have hl : l.length = fs.size := by rw [← hC]; exact hsz
  refine ⟨l, rfl, hl, fun j f hj => ?_⟩
  have hjl : j < fs.size := (Array.getElem?_eq_some_iff.1 hj).1
  obtain ⟨ho, hk⟩ := hone_of hone j _ hj
  have h8 := hg j _ hj
  rw [ho, hk] at h8
  have hcl : (Value.agg l.toArray).cells.toList = l := by simp [Value.cells]
  rw [hcl] at h8
  have hone' : (l.drop j).take 1 = [l[j]'(by omega)] := by rw [List.drop_eq_getElem_cons (by omega)]; rfl
  rw [hone', List.getElem?_eq_getElem (by omega)] at h8
  refine ⟨l[j]'(by omega), n', _, List.getElem?_eq_getElem (by omega), h8, fun k hk => hw k ?_⟩
  have hd := congrArg Prod.fst hx
  dsimp only at hd
  rw [hd]
  simp only [DataW.weights, hs]
  exact DataW.weights_mem_each (j := j) (t := f.type) (by simp [hj]) (by rw [List.getElem?_map, List.getElem?_eq_getElem (by omega)]; rfl) k hk

theorem trod_of_cell {w : World} {base : Nat} {sp : Nat → Bool} {held : Bool} {t : TypeId} {a : Option Addr} {l c n : Nat} {y : DataW H × List MemPlace} (h : DataW.trod enc P w base sp held n t [.slice a l c] = some y) : DataW.Trod enc P w base sp held t (.slice a l c) y.1 y.2 := ⟨n, h⟩

theorem slice_of_trod {w : World} {base : Nat} {sp : Nat → Bool} {held : Bool} {t e : TypeId} {u : Value} {n : Nat} {y : DataW H × List MemPlace} (ht : P.underlying t = some (.slice e)) (h : DataW.trod enc P w base sp held n t [u] = some y) : ∃ a l c, u = .slice a l c := by
  rcases open_slice ht h with ⟨h0, -⟩ | ⟨a', len', cap', m, n, D, Pl, h1, -⟩
  · injection h0 with h0
    exact ⟨_, _, _, h0⟩
  · injection h1 with h1
    exact ⟨_, _, _, h1⟩

end

/-- What a case is. -/
def CaseAt (w : World) (v : Value) (n : Int) (v1 v2 v3 : Value) (bare : Bool) (xs : List TypR) (len lb : Nat) (d g i nn y : Nat → Int) (u : Nat → Value) (m : Nat → Nat) (x3 : Nat → Nat → Int) : Prop :=
  v = .agg #[.int .i64 n, v1, v2, v3, .bool bare] ∧ TypsAt w v1 xs ∧ Steps6At w v2 len d g i nn y u m ∧ IntsAt 1 w v3 lb x3 ∧ xs.length ≤ 17592186044416 ∧ Masks xs ∧ len ≤ 17592186044416 ∧ (∀ j, j < len → 0 ≤ y j ∧ y j ≤ 18446744073709551615) ∧ AtsAt w len u m ∧ lb ≤ 17592186044416

set_option maxRecDepth 100000 in
theorem open_case {H : Type} {enc : TypeId × Value → H} {w : World} {base b0 : Nat} {r : Reach} {sp : Nat → Bool} {held : Bool} {v : Value} {d : DataW H} {ps : List MemPlace}
    (hv : Value.okWide Tryz.prog w r b0 26 v) (h : DataW.Trod enc Tryz.prog w base sp held 26 v d ps) (hw : ∀ n ∈ d.weights Tryz.prog 26, n ≤ reachBytes) :
    ∃ n v1 v2 v3 bare xs len lb dd gg ii nn yy uu mm x3, CaseAt w v n v1 v2 v3 bare xs len lb dd gg ii nn yy uu mm x3 := by
  obtain ⟨cs, rfl, hl, hf⟩ := open_struct Tryz.underlying26 (by kernel_rfl) (by kernel_rfl) hv h hw
  obtain ⟨u0, n0, y0, c0, t0, w0⟩ := hf 0 _ rfl
  obtain ⟨u1, n1, y1, c1, t1, w1⟩ := hf 1 _ rfl
  obtain ⟨u2, n2, y2, c2, t2, w2⟩ := hf 2 _ rfl
  obtain ⟨u3, n3, y3, c3, t3, w3⟩ := hf 3 _ rfl
  obtain ⟨u4, n4, y4, c4, t4, w4⟩ := hf 4 _ rfl
  obtain ⟨z0, e0, -, b0⟩ := DataW.trod_int Tryz.underlying3 t0
  injection e0 with e0
  obtain ⟨a1, l1, k1, rfl⟩ := slice_of_trod Tryz.underlying22 t1
  obtain ⟨a2, l2, k2, rfl⟩ := slice_of_trod Tryz.underlying23 t2
  obtain ⟨a3, l3, k3, rfl⟩ := slice_of_trod Tryz.underlying24 t3
  obtain ⟨bb, e4, -⟩ := DataW.trod_bool Tryz.underlying4 t4
  injection e4 with e4
  subst e0 e4
  obtain ⟨xs, hxs, hl1, hms⟩ := open_types7 Tryz.underlying22 Tryz.underlying100 (by kernel_rfl) (by kernel_rfl) (of_decide_eq_true (by kernel_rfl)) Tryz.underlying5 Tryz.underlying3 Tryz.underlying58 ⟨_, _, _, rfl⟩ (trod_of_cell t1) w1
  obtain ⟨len, dd, gg, ii, nn, yy, uu, mm, hst, hl2, hy, hat⟩ := open_steps7 Tryz.underlying23 Tryz.underlying60 (by kernel_rfl) (by kernel_rfl) (of_decide_eq_true (by kernel_rfl)) Tryz.underlying3 Tryz.underlying3 Tryz.underlying3 Tryz.underlying3 Tryz.underlying58 Tryz.underlying24 Tryz.underlying3 (by kernel_rfl) (by kernel_rfl) ⟨_, _, _, rfl⟩ (trod_of_cell t2) w2
  obtain ⟨lb, x3, hi3, hl3⟩ := open_ints Tryz.underlying24 Tryz.underlying3 (by kernel_rfl) (by kernel_rfl) t3 w3
  have hcs : cs = [.int .i64 z0, .slice a1 l1 k1, .slice a2 l2 k2, .slice a3 l3 k3, .bool bb] := by
    have hl5 : cs.length = 5 := hl
    match cs, hl5, c0, c1, c2, c3, c4 with
    | [q0, q1, q2, q3, q4], _, c0, c1, c2, c3, c4 =>
      injection c0 with c0
      injection c1 with c1
      injection c2 with c2
      injection c3 with c3
      injection c4 with c4
      subst c0 c1 c2 c3 c4
      rfl
  subst hcs
  exact ⟨z0, _, _, _, bb, xs, len, lb, dd, gg, ii, nn, yy, uu, mm, x3, rfl, hxs, hst, hi3, hl1, hms, hl2, hy, hat, hl3⟩

theorem fitmost_case {w : World} {v : Value} {n : Int} {v1 v2 v3 : Value} {bare : Bool} {xs : List TypR} {len lb : Nat} {d g i nn y : Nat → Int} {u : Nat → Value} {m : Nat → Nat} {x3 : Nat → Nat → Int} (hF : FieldsAt w) (h : CaseAt w v n v1 v2 v3 bare xs len lb d g i nn y u m x3) :
    Calls Tryz.prog 4 #[v] w fun e w' => e = .returned (.bool true) ∧ Keep Nope w w' := by
  obtain ⟨rfl, h1, h2, h3, hl, hM, hl2, hy, hA, hlb⟩ := h
  exact fitmost_walk n v1 v2 bare xs len lb d g i nn y u m v3 x3 w hF h1 h2 h3 hl hM hl2 hy hA hlb

end Go.Proofs.YtfnmflgnbjjkkaaGreatDoor
