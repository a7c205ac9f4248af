/-
  The arguments of the laws about spaces: types, steps.
-/
import Derived.Test.YtpmiidpbngbclaaGreatDoorArgs
import Derived.Test.YtpmiidpbngbclaaGreatDoorTables
namespace Go.Proofs.YtpmiidpbngbclaaGreatDoor
open Go.RowKit Go.WideShapes Go.ChangeShapes Go.Deep
set_option linter.unusedVariables false

/-- The value v is a slice of steps: four ints, a word, a slice of m i ints. -/
def Steps6At (w : World) (v : Value) (len : Nat) (d g i n y : Nat → Int) (u : Nat → Value) (m : Nat → Nat) : Prop :=
  ∃ a cap, v = .slice a len cap ∧ ∀ j, j < len → ∃ b o, a = some ⟨b, o, none⟩ ∧ b < w.heap.size ∧
    w.cell? ⟨b, o + j * 6, none⟩ = some (.int .i64 (d j)) ∧ w.cell? ⟨b, o + j * 6 + 1, none⟩ = some (.int .i64 (g j)) ∧ w.cell? ⟨b, o + j * 6 + 2, none⟩ = some (.int .i64 (i j)) ∧ w.cell? ⟨b, o + j * 6 + 3, none⟩ = some (.int .i64 (n j)) ∧
    w.cell? ⟨b, o + j * 6 + 4, none⟩ = some (.int .u64 (y j)) ∧ w.cell? ⟨b, o + j * 6 + 5, none⟩ = some (u j) ∧ (∃ ua uc, u j = .slice ua (m j) uc) ∧ m j ≤ 17592186044416 ∧
    (-9223372036854775808 ≤ g j ∧ g j ≤ 9223372036854775807) ∧ (-9223372036854775808 ≤ i j ∧ i j ≤ 9223372036854775807) ∧ (-9223372036854775808 ≤ n j ∧ n j ≤ 9223372036854775807)

/-- And the numbers that they name. -/
def AtsAt (w : World) (len : Nat) (u : Nat → Value) (m : Nat → Nat) : Prop := ∀ j, j < len → ∃ x, IntsAt 1 w (u j) (m j) x

def intV : Value → Int
  | .int _ z => z
  | _ => 0

def lenV : Value → Nat
  | .slice _ n _ => n
  | _ => 0

section
variable {H : Type} {enc : TypeId × Value → H} {P : Program}

theorem open_types7 {w : World} {base : Nat} {sp : Nat → Bool} {held : Bool} {t e : TypeId} {f0 f1 f2 : Field} {v : Value} {d : DataW H} {ps : List MemPlace} (ht : P.underlying t = some (.slice e)) (he : P.underlying e = some (.struct #[f0, f1, f2])) (hone : oneCellFields P #[f0, f1, f2] = true) (hC : P.cellsOf e = 3)
    (hB : 8 ≤ P.bytesOf e) (h0 : P.underlying f0.type = some (.int .u8)) (h1 : P.underlying f1.type = some (.int .i64)) (h2 : P.underlying f2.type = some (.int .u64)) (hv : ∃ a len cap, v = .slice a len cap) (h : DataW.Trod enc P w base sp held t v d ps) (hw : ∀ n ∈ d.weights P t, n ≤ reachBytes) :
    ∃ xs : List TypR, TypsAt w v xs ∧ xs.length ≤ 17592186044416 ∧ ∀ x ∈ xs, x.m < 18446744073709551616 := by
  obtain ⟨len, V, ⟨a, cap, rfl, hr⟩, hl, hf⟩ := open_rows ht he hone hC (by simp) hB hv h hw
  refine ⟨(List.range len).map fun i => ⟨intV (V i 0), intV (V i 1), (intV (V i 2)).toNat⟩, ⟨a, cap, by simp, fun i x hx => ?_⟩, by simpa using hl, fun x hx => ?_⟩
  rotate_left
  · obtain ⟨i, hi, rfl⟩ := List.mem_map.1 hx
    have hi : i < len := by simpa using hi
    obtain ⟨n2, y2, g2, -⟩ := hf i hi 2 f2 rfl
    obtain ⟨z2, e2, -, w2⟩ := DataW.trod_int h2 g2
    injection e2 with e2
    dsimp only
    rw [e2]
    have b2 := bounds_u64 w2
    show z2.toNat < 18446744073709551616
    omega
  have hi : i < len := by have := (List.getElem?_eq_some_iff.1 hx).1; simpa using this
  have hx' : x = ⟨intV (V i 0), intV (V i 1), (intV (V i 2)).toNat⟩ := by simp [hi] at hx; exact hx.symm
  subst hx'
  obtain ⟨b, o, rfl, hb, hc⟩ := hr i hi
  obtain ⟨n0, y0, g0, -⟩ := hf i hi 0 f0 rfl
  obtain ⟨n1, y1, g1, -⟩ := hf i hi 1 f1 rfl
  obtain ⟨n2, y2, g2, -⟩ := hf i hi 2 f2 rfl
  obtain ⟨z0, e0, -, w0⟩ := DataW.trod_int h0 g0
  obtain ⟨z1, e1, -, w1⟩ := DataW.trod_int h1 g1
  obtain ⟨z2, e2, -, w2⟩ := DataW.trod_int h2 g2
  injection e0 with e0
  injection e1 with e1
  injection e2 with e2
  have c0 := hc 0 (by simp)
  have c1 := hc 1 (by simp)
  have c2 := hc 2 (by simp)
  rw [e0] at c0 ⊢
  rw [e1] at c1 ⊢
  rw [e2] at c2 ⊢
  have b2 := bounds_u64 w2
  refine ⟨b, o, rfl, hb, c0, by rw [Nat.add_assoc]; exact c1, ?_⟩
  rw [Nat.add_assoc]
  rw [show (((intV (.int .u64 z2)).toNat : Nat) : Int) = z2 from Int.toNat_of_nonneg b2.1]
  exact c2

theorem open_types {w : World} {base : Nat} {sp : Nat → Bool} {held : Bool} {t e : TypeId} {f0 f1 f2 : Field} {v : Value} {d : DataW H} {ps : List MemPlace} (ht : P.underlying t = some (.slice e)) (he : P.underlying e = some (.struct #[f0, f1, f2])) (hone : oneCellFields P #[f0, f1, f2] = true) (hC : P.cellsOf e = 3)
    (hB : 8 ≤ P.bytesOf e) (h0 : P.underlying f0.type = some (.int .u8)) (h1 : P.underlying f1.type = some (.int .i64)) (h2 : P.underlying f2.type = some (.int .u64)) (hv : ∃ a len cap, v = .slice a len cap) (h : DataW.Trod enc P w base sp held t v d ps) (hw : ∀ n ∈ d.weights P t, n ≤ reachBytes) :
    ∃ xs : List TypR, TypsAt w v xs ∧ xs.length ≤ 17592186044416 := by
  obtain ⟨xs, a, b, -⟩ := open_types7 ht he hone hC hB h0 h1 h2 hv h hw
  exact ⟨xs, a, b⟩

theorem open_steps7 {w : World} {base : Nat} {sp : Nat → Bool} {held : Bool} {t e ei : TypeId} {f0 f1 f2 f3 f4 f5 : Field} {v : Value} {d : DataW H} {ps : List MemPlace} (ht : P.underlying t = some (.slice e)) (he : P.underlying e = some (.struct #[f0, f1, f2, f3, f4, f5])) (hone : oneCellFields P #[f0, f1, f2, f3, f4, f5] = true) (hC : P.cellsOf e = 6)
    (hB : 8 ≤ P.bytesOf e) (h0 : P.underlying f0.type = some (.int .i64)) (h1 : P.underlying f1.type = some (.int .i64)) (h2 : P.underlying f2.type = some (.int .i64)) (h3 : P.underlying f3.type = some (.int .i64)) (h4 : P.underlying f4.type = some (.int .u64)) (h5 : P.underlying f5.type = some (.slice ei)) (hei : P.underlying ei = some (.int .i64)) (ci : P.cellsOf ei = 1) (hBi : P.bytesOf ei = 8)
    (hv : ∃ a len cap, v = .slice a len cap) (h : DataW.Trod enc P w base sp held t v d ps) (hw : ∀ n ∈ d.weights P t, n ≤ reachBytes) :
    ∃ len dd gg ii nn yy uu mm, Steps6At w v len dd gg ii nn yy uu mm ∧ len ≤ 17592186044416 ∧ (∀ j, j < len → 0 ≤ yy j ∧ yy j ≤ 18446744073709551615) ∧ AtsAt w len uu mm := by
  obtain ⟨len, V, ⟨a, cap, rfl, hr⟩, hl, hf⟩ := open_rows ht he hone hC (by simp) hB hv h hw
  refine ⟨len, fun i => intV (V i 0), fun i => intV (V i 1), fun i => intV (V i 2), fun i => intV (V i 3), fun i => intV (V i 4), fun i => V i 5, fun i => lenV (V i 5), ⟨a, cap, rfl, fun i hi => ?_⟩, hl, fun i hi => ?_, fun i hi => ?_⟩
  rotate_left
  · obtain ⟨n4, y4, g4, -⟩ := hf i hi 4 f4 rfl
    obtain ⟨z4, e4, -, w4⟩ := DataW.trod_int h4 g4
    injection e4 with e4
    dsimp only
    rw [e4]
    exact bounds_u64 w4
  · obtain ⟨n5, y5, g5, k5⟩ := hf i hi 5 f5 rfl
    obtain ⟨l5, x5, hI, hl5⟩ := open_ints h5 hei ci hBi g5 k5
    have hI' := hI
    obtain ⟨ua, uc, hu, -⟩ := hI'
    refine ⟨x5, ?_⟩
    dsimp only
    rw [show lenV (V i 5) = l5 by rw [hu]; rfl]
    exact hI
  obtain ⟨b, o, rfl, hb, hc⟩ := hr i hi
  obtain ⟨n0, y0, g0, -⟩ := hf i hi 0 f0 rfl
  obtain ⟨n1, y1, g1, -⟩ := hf i hi 1 f1 rfl
  obtain ⟨n2, y2, g2, -⟩ := hf i hi 2 f2 rfl
  obtain ⟨n3, y3, g3, -⟩ := hf i hi 3 f3 rfl
  obtain ⟨n4, y4, g4, -⟩ := hf i hi 4 f4 rfl
  obtain ⟨n5, y5, g5, k5⟩ := hf i hi 5 f5 rfl
  obtain ⟨z0, e0, -, w0⟩ := DataW.trod_int h0 g0
  obtain ⟨z1, e1, -, w1⟩ := DataW.trod_int h1 g1
  obtain ⟨z2, e2, -, w2⟩ := DataW.trod_int h2 g2
  obtain ⟨z3, e3, -, w3⟩ := DataW.trod_int h3 g3
  obtain ⟨z4, e4, -, w4⟩ := DataW.trod_int h4 g4
  obtain ⟨l5, x5, ⟨ua, uc, hu, -⟩, hl5⟩ := open_ints h5 hei ci hBi g5 k5
  injection e0 with e0
  injection e1 with e1
  injection e2 with e2
  injection e3 with e3
  injection e4 with e4
  have c0 := hc 0 (by simp)
  have c1 := hc 1 (by simp)
  have c2 := hc 2 (by simp)
  have c3 := hc 3 (by simp)
  have c4 := hc 4 (by simp)
  have c5 := hc 5 (by simp)
  dsimp only
  rw [e0] at c0 ⊢
  rw [e1] at c1 ⊢
  rw [e2] at c2 ⊢
  rw [e3] at c3 ⊢
  rw [e4] at c4 ⊢
  rw [hu] at c5 ⊢
  have b1 := bounds_i64 w1
  have b2 := bounds_i64 w2
  have b3 := bounds_i64 w3
  exact ⟨b, o, rfl, hb, c0, by rw [Nat.add_assoc]; exact c1, by rw [Nat.add_assoc]; exact c2, by rw [Nat.add_assoc]; exact c3, by rw [Nat.add_assoc]; exact c4, by rw [Nat.add_assoc]; exact c5, ⟨ua, uc, rfl⟩, hl5, b1, b2, b3⟩

theorem open_steps6 {w : World} {base : Nat} {sp : Nat → Bool} {held : Bool} {t e ei : TypeId} {f0 f1 f2 f3 f4 f5 : Field} {v : Value} {d : DataW H} {ps : List MemPlace} (ht : P.underlying t = some (.slice e)) (he : P.underlying e = some (.struct #[f0, f1, f2, f3, f4, f5])) (hone : oneCellFields P #[f0, f1, f2, f3, f4, f5] = true) (hC : P.cellsOf e = 6)
    (hB : 8 ≤ P.bytesOf e) (h0 : P.underlying f0.type = some (.int .i64)) (h1 : P.underlying f1.type = some (.int .i64)) (h2 : P.underlying f2.type = some (.int .i64)) (h3 : P.underlying f3.type = some (.int .i64)) (h4 : P.underlying f4.type = some (.int .u64)) (h5 : P.underlying f5.type = some (.slice ei)) (hei : P.underlying ei = some (.int .i64)) (ci : P.cellsOf ei = 1) (hBi : P.bytesOf ei = 8)
    (hv : ∃ a len cap, v = .slice a len cap) (h : DataW.Trod enc P w base sp held t v d ps) (hw : ∀ n ∈ d.weights P t, n ≤ reachBytes) :
    ∃ len dd gg ii nn yy uu mm, Steps6At w v len dd gg ii nn yy uu mm ∧ len ≤ 17592186044416 := by
  obtain ⟨len, dd, gg, ii, nn, yy, uu, mm, a, b, -, -⟩ := open_steps7 ht he hone hC hB h0 h1 h2 h3 h4 h5 hei ci hBi hv h hw
  exact ⟨len, dd, gg, ii, nn, yy, uu, mm, a, b⟩

end

end Go.Proofs.YtpmiidpbngbclaaGreatDoor
