/-
  An argument that is a slice of structs of k fields, each an int; and all arguments read behind a call that at most laid new blocks as they did.
-/
import Derived.Test.YtpjcgjbobljaeaaPost
import Derived.Deep.Slices
import Derived.Deep.Fields
import Derived.Carry
import Derived.OpenShut
namespace Go.Proofs.Ytpjcgjbobljaeaa
open Go.RowKit Go.WideShapes Go.ChangeShapes Go.Deep
set_option linter.unusedVariables false

/-- The value v is a slice of len rows of k ints each, x i j the j-th of row i. -/
def IntsAt (k : Nat) (w : World) (v : Value) (len : Nat) (x : Nat → Nat → Int) : Prop :=
  ∃ a cap, v = .slice a len cap ∧ ∀ i, i < len → ∃ b o, a = some ⟨b, o, none⟩ ∧ b < w.heap.size ∧
    ∀ j, j < k → w.cell? ⟨b, o + (i * k + j), none⟩ = some (.int .i64 (x i j)) ∧ -9223372036854775808 ≤ x i j ∧ x i j ≤ 9223372036854775807

theorem IntsAt.keep {k : Nat} {w w' : World} {v : Value} {len : Nat} {x : Nat → Nat → Int} (h : IntsAt k w v len x) {S : Nat → Prop} (kp : Keep S w w') (hs : ∀ b, b < w.heap.size → ¬ S b) : IntsAt k w' v len x := by
  obtain ⟨a, cap, rfl, h⟩ := h
  refine ⟨a, cap, rfl, fun i hi => ?_⟩
  obtain ⟨b, o, rfl, h1, h2⟩ := h i hi
  exact ⟨b, o, rfl, Nat.lt_of_lt_of_le h1 kp.size, fun j hj => ⟨kp.cell (h2 j hj).1 (hs b h1), (h2 j hj).2⟩⟩

theorem cell_plain {w : World} {a : Addr} {v : Value} (h : w.cell? a = some v) : a = ⟨a.block, a.off, none⟩ ∧ a.block < w.heap.size := by
  unfold World.cell? at h
  cases hh : w.heap[a.block]? with
  | none => rw [hh] at h; cases h
  | some o =>
    have hb : a.block < w.heap.size := (Array.getElem?_eq_some_iff.1 hh).1
    rw [hh] at h
    cases o with
    | cells c e f =>
      by_cases hs : a.spot.isSome
      · simp [hs] at h
      · refine ⟨?_, hb⟩
        cases a with
        | mk b o s => cases s with
          | none => rfl
          | some _ => simp at hs
    | _ => cases h

section
variable {H : Type} {enc : TypeId × Value → H} {P : Program}

theorem open_intstructs {w : World} {base : Nat} {sp : Nat → Bool} {held : Bool} {t e : TypeId} {fs : Array Field} {v : Value} {d : DataW H} {ps : List MemPlace} (ht : P.underlying t = some (.slice e)) (he : P.underlying e = some (.struct fs)) (hone : oneCellFields P fs = true) (hC : P.cellsOf e = fs.size)
    (hpos : 0 < fs.size) (hint : ∀ (j : Nat) (f : Field), fs[j]? = some f → P.underlying f.type = some (.int .i64)) (hv : ∃ a len cap, v = .slice a len cap) (h : DataW.Trod enc P w base sp held t v d ps) :
    ∃ len x, IntsAt fs.size w v len x := by
  obtain ⟨a, len, cap, rfl⟩ := hv
  obtain ⟨fuel, h⟩ := h
  have hcs : (Value.slice a len cap).cells.toList = [.slice a len cap] := rfl
  rw [hcs] at h
  rcases open_slice ht h with ⟨h0, -⟩ | ⟨a', len', cap', m, n, D, Pl, h1, h2, h3, h4, h5, -, h7⟩
  · injection h0 with h0
    injection h0 with h0 h1 h2
    subst h0 h1 h2
    exact ⟨0, fun _ _ => 0, none, 0, rfl, fun i hi => by omega⟩
  · injection h1 with h1
    injection h1 with e1 e2 e3
    subst e1 e2 e3
    refine ⟨len, fun i j => match w.cell? ((a'.add (i * fs.size)).add j) with | some (.int _ z) => z | _ => 0, some a', cap, rfl, fun i hi => ?_⟩
    have him : i < m := by rw [h5]; split <;> omega
    obtain ⟨cs, hc, hd⟩ := h7 i him
    rw [hC] at hc
    obtain ⟨_, hcl, hat⟩ := World.cells?_some hc
    obtain ⟨ys, n', _, _, _, hyl, hf⟩ := DataW.trod_struct he hd
    have field : ∀ j, j < fs.size → ∃ z, w.cell? ((a'.add (i * fs.size)).add j) = some (.int .i64 z) ∧ -9223372036854775808 ≤ z ∧ z ≤ 9223372036854775807 := by
      intro j hj
      have hjf : fs[j]? = some fs[j] := Array.getElem?_eq_getElem hj
      obtain ⟨ho, hk⟩ := hone_of hone j _ hjf
      have h8 := hf j _ hjf
      rw [ho, hk] at h8
      have hjl : j < cs.length := by omega
      have hone' : (cs.drop j).take 1 = [cs[j]] := by rw [List.drop_eq_getElem_cons hjl]; rfl
      rw [hone', List.getElem?_eq_getElem (by omega)] at h8
      obtain ⟨z, hz, _, hwf⟩ := DataW.trod_int (hint j _ hjf) h8
      injection hz with hz
      refine ⟨z, ?_, bounds_i64 hwf⟩
      rw [hat j hj, List.getElem?_eq_getElem hjl, hz]
    obtain ⟨z0, hz0, _⟩ := field 0 hpos
    have hspot : a'.spot = none := by
      rcases Nat.eq_zero_or_pos (i * fs.size) with e0 | e0
      · rw [e0] at hz0
        have := (cell_plain hz0).1
        simp [Addr.add] at this
        exact this ▸ rfl
      · have hi0 : 0 < len := by omega
        have h00 : 0 < m := by omega
        obtain ⟨cs0, hc0, -⟩ := h7 0 h00
        rw [hC] at hc0
        obtain ⟨_, hcl0, hat0⟩ := World.cells?_some hc0
        have h9 := hat0 0 hpos
        rw [List.getElem?_eq_getElem (by omega)] at h9
        have := (cell_plain h9).1
        simp [Addr.add] at this
        exact this ▸ rfl
    have ha' : a' = ⟨a'.block, a'.off, none⟩ := by cases a'; simp at hspot; simp [hspot]
    have hadd : ∀ j, (a'.add (i * fs.size)).add j = ⟨a'.block, a'.off + (i * fs.size + j), none⟩ := by
      intro j
      rw [ha', Addr.add_lit, Addr.add_lit, Nat.add_assoc]
    refine ⟨a'.block, a'.off, congrArg some ha', ?_, fun j hj => ?_⟩
    · have := (cell_plain hz0).2
      rw [hadd] at this
      exact this
    · obtain ⟨z, hz, hb⟩ := field j hj
      have hz' := hz
      rw [hadd] at hz'
      simp only [hz]
      exact ⟨hz', hb⟩

/-- All arguments read as they did, whatever their types. -/
theorem Keep.trodAll {W W' : World} (k : Keep Nope W W') (hl : laidOutB P = true) {sp : Nat → Bool} : ∀ {ts : List TypeId} {vs : List Value} {ds : List (DataW H)} {ps : List MemPlace}, (∀ t ∈ ts, P.readableRec t = true ∧ t < P.types.size) →
    DataW.TrodAll enc P W 0 (fun _ => true) true ts vs ds ps → (∀ x ∈ ps, x.block < W.heap.size) → (∀ x ∈ ps, sp x.block = true) → DataW.TrodAll enc P W' 0 sp true ts vs ds ps
  | [], [], [], _, _, h, _, _ => h
  | t :: ts, v :: vs, d :: ds, ps, ht, h, hb, hs => by
    obtain ⟨p, q, h1, h2, e⟩ := h
    subst e
    have ht0 := ht t (by simp)
    exact ⟨p, q, WideElems.Trod_stays hl ht0.1 ht0.2 h1 (fun x hx => k.below_not.same (hb x (by simp [hx]))) (fun x hx => hs x (by simp [hx])),
      Keep.trodAll k hl (fun u hu => ht u (by simp [hu])) h2 (fun x hx => hb x (by simp [hx])) (fun x hx => hs x (by simp [hx])), rfl⟩

/-- The types of the parameters can be read and are rows of the table: one closed fact. -/
def typesB (P : Program) (ts : List TypeId) : Bool := ts.all fun t => P.readableRec t && decide (t < P.types.size)

theorem Keep.trodArgs {W W' : World} (k : Keep Nope W W') (hl : laidOutB P = true) {sp : Nat → Bool} {ts : List TypeId} {vs : List Value} {ds : List (DataW H)} {ps : List MemPlace} (ht : typesB P ts = true)
    (h : DataW.TrodAll enc P W 0 (fun _ => true) true ts vs ds ps) (hb : ∀ x ∈ ps, x.block < W.heap.size) (hs : ∀ x ∈ ps, sp x.block = true) : DataW.TrodAll enc P W' 0 sp true ts vs ds ps :=
  k.trodAll hl (fun t hm => by have := List.all_eq_true.1 ht t hm; simpa using this) h hb hs

end

end Go.Proofs.Ytpjcgjbobljaeaa
