/-
  An argument that is a row of steps of the chapter; the law's bound.
-/
import Derived.Test.YtapmbignpdkfbaaPinL
namespace Go.Proofs.Ytapmbignpdkfbaa
open Go.RowKit Go.WideShapes Go.ChangeShapes Go.Deep
set_option linter.unusedVariables false

/-- The value v is a row of len steps: step i does d i, n i times, at g i. -/
def StepU (w : World) (v : Value) (len : Nat) (d n : Nat → Int) (g : Nat → Nat) : Prop :=
  ∃ a cap, v = .slice a len cap ∧ ∀ i, i < len → ∃ b o, a = some ⟨b, o, none⟩ ∧ b < w.heap.size ∧ w.cell? ⟨b, o + i * 3, none⟩ = some (.int .i64 (d i)) ∧ w.cell? ⟨b, o + i * 3 + 1, none⟩ = some (.int .i64 (n i)) ∧ w.cell? ⟨b, o + i * 3 + 2, none⟩ = some (.int .u64 (g i : Nat)) ∧ g i < 18446744073709551616

section
variable {H : Type} {enc : TypeId × Value → H} {P : Program}

theorem open_stepu {w : World} {base : Nat} {sp : Nat → Bool} {held : Bool} {t e : TypeId} {f0 f1 f2 : Field} {v : Value} {d : DataW H} {ps : List MemPlace} (ht : P.underlying t = some (.slice e)) (he : P.underlying e = some (.struct #[f0, f1, f2])) (hone : oneCellFields P #[f0, f1, f2] = true) (hC : P.cellsOf e = 3)
    (h0 : P.underlying f0.type = some (.int .i64)) (h1 : P.underlying f1.type = some (.int .i64)) (h2 : P.underlying f2.type = some (.int .u64)) (hv : ∃ a len cap, v = .slice a len cap) (h : DataW.Trod enc P w base sp held t v d ps) :
    ∃ len dd nn gg, StepU w v len dd nn gg := by
  obtain ⟨a, len, cap, rfl⟩ := hv
  obtain ⟨fuel, h⟩ := h
  have hcs : (Value.slice a len cap).cells.toList = [.slice a len cap] := rfl
  rw [hcs] at h
  rcases open_slice ht h with ⟨h0, -⟩ | ⟨a', len', cap', m, n, D, Pl, e1, e2, e3, e4, e5, -, h7⟩
  · injection h0 with h0
    injection h0 with h0 h1 h2
    subst h0 h1 h2
    exact ⟨0, fun _ => 0, fun _ => 0, fun _ => 0, none, 0, rfl, fun i hi => by omega⟩
  · injection e1 with e1
    injection e1 with i1 i2 i3
    subst i1 i2 i3
    have hm : len ≤ m := by rw [e5]; split <;> omega
    have each : ∀ i, i < len → ∃ x y : Int, ∃ z : Nat, z < 18446744073709551616 ∧ w.cell? ((a'.add (i * 3)).add 0) = some (.int .i64 x) ∧ w.cell? ((a'.add (i * 3)).add 1) = some (.int .i64 y) ∧ w.cell? ((a'.add (i * 3)).add 2) = some (.int .u64 (z : Nat)) := by
      intro i hi
      obtain ⟨cs, hc, hdd⟩ := h7 i (by omega)
      rw [hC] at hc
      obtain ⟨_, hcl, hat⟩ := World.cells?_some hc
      obtain ⟨ys, n', _, -, _, hyl, hf⟩ := DataW.trod_struct he hdd
      have fld : ∀ (j : Nat) (f : Field) (k : IntKind), #[f0, f1, f2][j]? = some f → P.underlying f.type = some (.int k) → ∃ z, cs[j]? = some (.int k z) ∧ (Lit.int k z).wf = true := by
        intro j f k hjf hk'
        have hj : j < 3 := (Array.getElem?_eq_some_iff.1 hjf).1
        obtain ⟨ho, hk⟩ := hone_of hone j _ hjf
        have h8 := hf j _ hjf
        rw [ho, hk] at h8
        have hjl : j < cs.length := by omega
        have hone' : (cs.drop j).take 1 = [cs[j]] := by rw [List.drop_eq_getElem_cons hjl]; rfl
        rw [hone', List.getElem?_eq_getElem (by simp at hyl; omega)] at h8
        obtain ⟨z, hz, _, hwf⟩ := DataW.trod_int hk' h8
        injection hz with hz
        exact ⟨z, by rw [List.getElem?_eq_getElem hjl, hz], hwf⟩
      obtain ⟨x, hx, -⟩ := fld 0 f0 .i64 rfl h0
      obtain ⟨y, hy, -⟩ := fld 1 f1 .i64 rfl h1
      obtain ⟨z, hz, wz⟩ := fld 2 f2 .u64 rfl h2
      obtain ⟨z', rfl, hz'⟩ := wfU_inv wz
      exact ⟨x, y, z', hz', by rw [hat 0 (by omega), hx], by rw [hat 1 (by omega), hy], by rw [hat 2 (by omega), hz]⟩
    have pick : ∃ q : Nat → Int × Int × Nat, ∀ i, i < len → (q i).2.2 < 18446744073709551616 ∧ w.cell? ((a'.add (i * 3)).add 0) = some (.int .i64 (q i).1) ∧ w.cell? ((a'.add (i * 3)).add 1) = some (.int .i64 (q i).2.1) ∧ w.cell? ((a'.add (i * 3)).add 2) = some (.int .u64 ((q i).2.2 : Nat)) := by
      have h2 : ∀ i, ∃ q : Int × Int × Nat, i < len → q.2.2 < 18446744073709551616 ∧ w.cell? ((a'.add (i * 3)).add 0) = some (.int .i64 q.1) ∧ w.cell? ((a'.add (i * 3)).add 1) = some (.int .i64 q.2.1) ∧ w.cell? ((a'.add (i * 3)).add 2) = some (.int .u64 (q.2.2 : Nat)) := by
        intro i
        by_cases hi : i < len
        · obtain ⟨x, y, z, hq⟩ := each i hi
          exact ⟨(x, y, z), fun _ => hq⟩
        · exact ⟨(0, 0, 0), fun h => absurd h hi⟩
      exact ⟨fun i => (h2 i).choose, fun i hi => (h2 i).choose_spec hi⟩
    obtain ⟨q, hq⟩ := pick
    refine ⟨len, fun i => (q i).1, fun i => (q i).2.1, fun i => (q i).2.2, some a', cap, rfl, fun i hi => ?_⟩
    obtain ⟨y0, y1, y2, y3⟩ := hq i hi
    have h00 := (hq 0 (by omega)).2.1
    have hspot : a'.spot = none := by
      have := (cell_plain h00).1
      simp [Addr.add] at this
      exact this ▸ rfl
    have ha' : a' = ⟨a'.block, a'.off, none⟩ := by cases a'; simp at hspot; simp [hspot]
    have hadd : ∀ i j, (a'.add (i * 3)).add j = ⟨a'.block, a'.off + i * 3 + j, none⟩ := by
      intro i j
      rw [ha', Addr.add_lit, Addr.add_lit]
    rw [hadd] at y1 y2 y3
    exact ⟨a'.block, a'.off, congrArg some ha', (cell_plain y1).2, y1, y2, y3, y0⟩

end

theorem StepU.keep {w w' : World} {v : Value} {len : Nat} {d n : Nat → Int} {g : Nat → Nat} (h : StepU w v len d n g) {S : Nat → Prop} (k : Keep S w w') (hs : ∀ b, b < w.heap.size → ¬ S b) : StepU w' v len d n g := by
  obtain ⟨a, c, rfl, h⟩ := h
  refine ⟨a, c, rfl, fun i hi => ?_⟩
  obtain ⟨b, o, rfl, h1, x0, x1, x2, x3⟩ := h i hi
  exact ⟨b, o, rfl, Nat.lt_of_lt_of_le h1 k.size, k.cell x0 (hs b h1), k.cell x1 (hs b h1), k.cell x2 (hs b h1), x3⟩

theorem StepU.slice {w : World} {v : Value} {len : Nat} {d n : Nat → Int} {g : Nat → Nat} (h : StepU w v len d n g) : ∃ a c, v = .slice a len c := by
  obtain ⟨a, c, rfl, -⟩ := h
  exact ⟨a, c, rfl⟩

theorem StepU.at {w : World} {a : Option Addr} {m c : Nat} {len : Nat} {d n : Nat → Int} {g : Nat → Nat} (h : StepU w (.slice a m c) len d n g) {i : Nat} (hi : i < len) : ∃ b o, a = some ⟨b, o, none⟩ ∧ b < w.heap.size ∧ w.cell? ⟨b, o + i * 3, none⟩ = some (.int .i64 (d i)) ∧ w.cell? ⟨b, o + i * 3 + 1, none⟩ = some (.int .i64 (n i)) ∧ w.cell? ⟨b, o + i * 3 + 2, none⟩ = some (.int .u64 (g i : Nat)) ∧ g i < 18446744073709551616 := by
  obtain ⟨a', c', e, h⟩ := h
  injection e with e1 e2 e3
  subst e1
  exact h i hi

/-- How many rounds the first k steps have together. -/
def sumN (n : Nat → Int) : Nat → Nat
  | 0 => 0
  | k + 1 => sumN n k + (n k).toNat

/-- Little enough is played. -/
def LightU (len : Nat) (n : Nat → Int) : Prop := len ≤ 80 ∧ (∀ i, i < len → n i ≤ 1000) ∧ sumN n len ≤ 1200

def HeavyUPost (len : Nat) (n : Nat → Int) (w : World) (e : Ending) (w' : World) : Prop := ∃ t : Bool, e = .returned (.bool t) ∧ w' = w ∧ (t = false → LightU len n)

set_option maxHeartbeats 2000000 in
theorem HeavyU_any (v : Value) (len : Nat) (d n : Nat → Int) (g : Nat → Nat) (w : World) (h : StepU w v len d n g) :
    Calls Try.prog 7 #[v] w (HeavyUPost len n w) := by
  have HV : Seal _ := ⟨h⟩
  obtain ⟨a, c, rfl⟩ := h.slice
  clear h
  go_enter Try.func7, Try.ntmps7
  go_wp2_with fail
  go_loopw [3, 4] (fun z y wr => ∃ j s : Nat, j ≤ len ∧ j ≤ 200 ∧ z = .int .i64 (s : Nat) ∧ y = .int .i64 (j : Nat) ∧ s ≤ j * 1000 ∧ Seal (s = sumN n j ∧ ∀ i, i < j → n i ≤ 1000) ∧ wr = w) (fun _ y _ => 200 - (intOf y).toNat)
  case atStart => exact ⟨0, 0, Nat.zero_le _, Nat.zero_le _, rfl, rfl, Nat.zero_le _, ⟨rfl, fun i h => by omega⟩, rfl⟩
  case round =>
    obtain ⟨j, s, hj, hj2, rfl, rfl, hs, HS, rfl⟩ := hrel
    by_cases hjl : j < len
    · have a1 : decide ((j : Int) < (len : Int)) = true := decide_eq_true (by omega)
      by_cases hj1 : j < 200
      · have a2 : decide ((j : Int) < 200) = true := decide_eq_true (by omega)
        obtain ⟨b, o, rfl, hbl, x0, x1, x2, x3⟩ := HV.out.at hjl
        obtain ⟨m, hm⟩ : ∃ m, n j = m := ⟨_, rfl⟩
        rw [hm] at x1
        clear x0 x2 x3
        by_cases hh : 1000 < m
        · have a3 : decide ((1000 : Int) < m) = true := decide_eq_true hh
          go_wp2
          go_ret
          exact ⟨true, rfl, rfl, fun h => by cases h⟩
        · have a3 : decide ((1000 : Int) < m) = false := decide_eq_false hh
          have HM : Seal (sumN n (j + 1) = s + m.toNat ∧ ∀ i, i < j + 1 → n i ≤ 1000) := ⟨by rw [sumN, hm, ← HS.out.1], fun i hi => by
            rcases Nat.lt_or_ge i j with h | h
            · exact HS.out.2 i h
            · obtain rfl : i = j := by omega
              omega⟩
          obtain ⟨q, hq⟩ : ∃ q, m.toNat = q := ⟨_, rfl⟩
          have hmx : max m 0 = (q : Nat) := by omega
          have hmx2 : (if m < 0 then 0 else m) = (q : Nat) := by split <;> omega
          have hq2 : q ≤ 1000 := by omega
          rw [hq] at HM
          clear hm hh
          go_wp2
          exact ⟨⟨j + 1, s + q, by omega, by omega, by go_num, by go_num, by omega, ⟨HM.out.1.symm, HM.out.2⟩, trivial⟩, by simp only [intOf]; omega⟩
      · have a2 : decide ((j : Int) < 200) = false := decide_eq_false (by omega)
        have a3 : decide ((80 : Int) < (len : Int)) = true := decide_eq_true (by omega)
        go_wp2
        go_ret
        exact ⟨true, rfl, rfl, fun h => by cases h⟩
    · have a1 : decide ((j : Int) < (len : Int)) = false := decide_eq_false (by omega)
      by_cases hD : 80 < len
      · have a3 : decide ((80 : Int) < (len : Int)) = true := decide_eq_true (by omega)
        go_wp2
        go_ret
        exact ⟨true, rfl, rfl, fun h => by cases h⟩
      · have a3 : decide ((80 : Int) < (len : Int)) = false := decide_eq_false (by omega)
        by_cases hE : 1200 < s
        · have a4 : decide ((1200 : Int) < (s : Int)) = true := decide_eq_true (by omega)
          go_wp2
          go_ret
          exact ⟨true, rfl, rfl, fun h => by cases h⟩
        · have a4 : decide ((1200 : Int) < (s : Int)) = false := decide_eq_false (by omega)
          have HL : Seal (LightU len n) := ⟨by
            obtain ⟨h1, h2⟩ := HS.out
            obtain rfl : j = len := by omega
            exact ⟨by omega, h2, by omega⟩⟩
          go_wp2
          go_ret
          exact ⟨false, rfl, rfl, fun _ => HL.out⟩

end Go.Proofs.Ytapmbignpdkfbaa
