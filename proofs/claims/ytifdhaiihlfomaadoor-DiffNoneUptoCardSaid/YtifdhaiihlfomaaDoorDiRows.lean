/-
  diff.rows, at whole numbers and at words, walked in company: where two rows differ; it lays a row of its own meanwhile.
-/
import Derived.Test.YtifdhaiihlfomaaDoorConWalk
import Derived.Test.YtifdhaiihlfomaaDoorChecked
import Derived.RowKit
import Derived.WalkKit
namespace Go.Proofs.YtifdhaiihlfomaaDoor
open Go Go.Conc Go.RowKit
set_option linter.unusedVariables false

/-- A slice of a kind that came in: it lies below Low, and is read alone. -/
structure ArgOf (P : Program) (c Low : Nat) (w₀ : World) (sl : TypeId) (kind : IntKind) (va : Value) (n : Nat) (zs : List Int) : Prop where
  size : zs.length = n
  small : n ≤ 9223372036854775807
  len : ∀ (ty : TypeId) w, (Builtin.len_ #[sl] ty #[va]).run P w = .ok (.int .i64 (n : Int)) w
  lenE : ∀ (ty : TypeId) w es, (Builtin.len_ #[sl] ty #[va]).events P w es = es
  idx : ∀ i : Nat, i < n → ∃ ad : Addr, (∀ w, (Instr.indexAt sl va (.int .i64 (i : Int))).run P w = .ok (.pointer (some ad)) w) ∧ (∀ w es, (Instr.indexAt sl va (.int .i64 (i : Int))).events P w es = es) ∧
    ad.block < Low ∧ ad.block ≠ c ∧ w₀.cell? ad = some (.int kind (zs.getD i 0))

/-- Whether place j differs. -/
def pd (n m : Nat) (zs ys : List Int) (j : Nat) : Bool := decide (n ≤ j) || (decide (m ≤ j) || !(decide (zs.getD j 0 = ys.getD j 0)))
/-- The places that differ, up to place i. -/
def drow (n m : Nat) (zs ys : List Int) (i : Nat) : List Nat := (List.range i).filter (pd n m zs ys)
theorem drow_succ (n m : Nat) (zs ys : List Int) (i : Nat) : drow n m zs ys (i + 1) = drow n m zs ys i ++ (if pd n m zs ys i then [i] else []) := by
  unfold drow
  rw [List.range_succ, List.filter_append]
  congr 1
  cases h : pd n m zs ys i <;> simp [h]
theorem drow_le (n m : Nat) (zs ys : List Int) (i : Nat) : (drow n m zs ys i).length ≤ i := by
  unfold drow
  exact Nat.le_trans (List.length_filter_le _ _) (by simp)
def natV (i : Nat) : Value := .int .i64 (i : Int)

/-- Blocks of one's own, below base, that stand. -/
structure Bks (Low base : Nat) (own : Obj → Bool) (B : Nat → Obj → Prop) : Prop where
  low : Low ≤ base
  all : ∀ k o, B k o → Low ≤ k ∧ k < base ∧ own o = false
structure Kb (c Low base : Nat) (B : Nat → Obj → Prop) (w₀ w : World) : Prop where
  kn : Kn c Low w₀ w
  size : base ≤ w.heap.size
  mine : ∀ k o, B k o → w.heap[k]? = some o
theorem Kb.oth {c Low base : Nat} {own : Obj → Bool} {B : Nat → Obj → Prop} {w₀ w w₁ : World} (hb : Bks Low base own B) (h : Kb c Low base B w₀ w) (r : Oth c Low own false w w₁) : Kb c Low base B w₀ w₁ :=
  ⟨h.kn.oth r, Nat.le_trans h.size r.size, fun k o hk => r.mine k o (hb.all k o hk).1 (h.mine k o hk) (hb.all k o hk).2.2⟩
theorem Kb.push {c Low base : Nat} {B : Nat → Obj → Prop} {w₀ w : World} {own : Obj → Bool} (hb : Bks Low base own B) (h : Kb c Low base B w₀ w) (o : Obj) : Kb c Low base B w₀ (w.alloc o) := by
  have hold : ∀ k, k < w.heap.size → (w.alloc o).heap[k]? = w.heap[k]? := fun k hk => Below.heap_alloc _ _ _ hk
  refine ⟨⟨fun k h1 h2 => ?_, ?_⟩, ?_, fun k x hk => ?_⟩
  · rw [hold k (Nat.lt_of_lt_of_le h1 h.kn.size)]
    exact h.kn.low k h1 h2
  · have := h.kn.size
    simp
    omega
  · have := h.size
    simp
    omega
  · rw [hold k (Nat.lt_of_lt_of_le (hb.all k x hk).2.1 h.size)]
    exact h.mine k x hk
theorem row_othB {c Low base : Nat} {own : Obj → Bool} {w w₁ : World} {e size n : Nat} {v : Value} {xs : List Value} (hL : Low ≤ base) (hk : ∀ cs fz, own (.cells cs e fz) = false) (h : w.ownsRow base e size v n xs) (r : Oth c Low own false w w₁) : w₁.ownsRow base e size v n xs := by
  obtain ⟨h1, h2 | ⟨g, cap, cur, hv, hg, hh, ht⟩⟩ := h
  · exact ⟨h1, .inl h2⟩
  · exact ⟨h1, .inr ⟨g, cap, cur, hv, hg, r.mine g _ (Nat.le_trans hL hg) hh (hk _ _), ht⟩⟩

/-- What the walk holds of the world: the row so far. -/
structure HR (c Low base : Nat) (B : Nat → Obj → Prop) (w₀ : World) (v : Value) (l : List Nat) (w : World) : Prop where
  kn : Kb c Low base B w₀ w
  row : w.ownsRow base 3 1 v l.length (l.map natV)
theorem HR.rely {c Low base : Nat} {B : Nat → Obj → Prop} {own : Obj → Bool} {w₀ : World} {v : Value} {l : List Nat} (hk : ∀ cs fz, own (.cells cs 3 fz) = false) (hb : Bks Low base own B) {w w₁ : World} (h : HR c Low base B w₀ v l w) (r : Oth c Low own false w w₁) : HR c Low base B w₀ v l w₁ :=
  ⟨h.kn.oth hb r, row_othB hb.low hk h.row r⟩
/-- .. and the one place that is to come. -/
structure HB (c Low base : Nat) (B : Nat → Obj → Prop) (w₀ : World) (v : Value) (l : List Nat) (g i : Nat) (w : World) : Prop where
  hr : HR c Low base B w₀ v l w
  low : Low ≤ g
  blk : w.heap[g]? = some (.cells #[natV i] 3)
theorem HB.rely {c Low base : Nat} {B : Nat → Obj → Prop} {own : Obj → Bool} {w₀ : World} {v : Value} {l : List Nat} {g i : Nat} (hk : ∀ cs fz, own (.cells cs 3 fz) = false) (hb : Bks Low base own B) {w w₁ : World} (h : HB c Low base B w₀ v l g i w) (r : Oth c Low own false w w₁) : HB c Low base B w₀ v l g i w₁ :=
  ⟨h.hr.rely hk hb r, h.low, r.mine g _ h.low h.blk (hk _ _)⟩
theorem HR.push {c Low base : Nat} {B : Nat → Obj → Prop} {own : Obj → Bool} {w₀ : World} {v : Value} {l : List Nat} {w : World} (hb : Bks Low base own B) (h : HR c Low base B w₀ v l w) (i : Nat) : HB c Low base B w₀ v l w.heap.size i (w.alloc (.cells #[natV i] 3)) := by
  refine ⟨⟨h.kn.push hb _, h.row.1, ?_⟩, h.kn.kn.size, Array.getElem?_push_size⟩
  obtain ⟨_, h2 | ⟨g, cap, cur, hv, hg, hh, ht⟩⟩ := h.row
  · exact .inl h2
  · exact .inr ⟨g, cap, cur, hv, hg, by rw [Below.heap_alloc _ _ _ (Array.getElem?_eq_some_iff.1 hh).1]; exact hh, ht⟩

theorem one_cell {w : World} {g : Nat} {x : Value} {e : TypeId} (h : w.heap[g]? = some (.cells #[x] e)) : ∀ j u, [x][j]? = some u → w.cell? ((⟨g, 0, none⟩ : Addr).add j) = some u := by
  intro j u hj
  cases j with
  | zero =>
    simp only [List.getElem?_cons_zero, Option.some.injEq] at hj
    subst hj
    simp [World.cell?, Addr.add, h]
  | succ j => simp at hj
theorem events_max2 (P : Program) (w : World) (es : Array Event) (k : IntKind) (x y : Int) (ty : TypeId) (ts : Array TypeId) : (Builtin.max_ ts ty #[.int k x, .int k y]).events P w es = es := by
  simp [Builtin.max_, Builtin.max2]
theorem wpC_cases {P : Program} {main : Bool} {R : World → World → Prop} {D : World → World → Array Event → Prop} {fn : FuncId} {Q : Exit → Act → World → Prop} {a : Act} {w : World} {p : Prop} {x : Code} {n₁ n₂ : Nat} (h1 : p → x.wpC P main R D fn n₁ Q a w) (h2 : ¬ p → x.wpC P main R D fn n₂ Q a w) : x.wpC P main R D fn (max n₁ n₂) Q a w := by
  by_cases h : p
  · exact wpC_more (h1 h) (Nat.le_max_left _ _)
  · exact wpC_more (h2 h) (Nat.le_max_right _ _)
def InvI (c Low base : Nat) (B : Nat → Obj → Prop) (w₀ : World) (va vb : Value) (n m : Nat) (zs ys : List Int) (a : Act) (w : World) : Prop :=
  ∃ (i : Nat) (v : Value) (u2 u3 u5 u6 u7 u8 u9 u12 u13 u14 u15 u16 u17 u18 u19 u20 u21 u22 u23 u24 u25 u26 u27 u28 u29 u30 u31 u32 u33 u34 u35 u36 u37 u38 u39 u40 : Value), i ≤ max n m ∧ HR c Low base B w₀ v (drow n m zs ys i) w ∧
    a = { tmps := #[va, vb, u2, u3, v, u5, u6, u7, u8, u9, .int .i64 ((max n m : Nat) : Int), .int .i64 (i : Int), u12, u13, u14, u15, u16, u17, u18, u19, u20, u21, u22, u23, u24, u25, u26, u27, u28, u29, u30, u31, u32, u33, u34, u35, u36, u37, u38, u39, u40], defers := [] }
def MidI (c Low base : Nat) (B : Nat → Obj → Prop) (w₀ : World) (va vb : Value) (n m : Nat) (zs ys : List Int) (i : Nat) (v u2 u3 u6 u7 u8 u9 u35 u36 u37 u38 u39 u40 : Value) (a : Act) (w : World) : Prop :=
  ∃ (m12 m14 m15 m16 m17 m18 m19 m20 m21 m22 m23 m24 m25 m26 m27 m28 m29 m30 m31 m32 m33 : Value) (b : Bool), b = pd n m zs ys i ∧ HR c Low base B w₀ v (drow n m zs ys i) w ∧ a = { tmps := #[va, vb, u2, u3, v, .int .i64 (i : Int), u6, u7, u8, u9, .int .i64 ((max n m : Nat) : Int), .int .i64 (i : Int), m12, .int .i64 (i : Int), m14, m15, m16, m17, m18, m19, m20, m21, m22, m23, m24, m25, m26, m27, m28, m29, m30, m31, m32, m33, .bool b, u35, u36, u37, u38, u39, u40], defers := [] }
theorem MidI.rely {c Low base : Nat} {B : Nat → Obj → Prop} {own : Obj → Bool} {w₀ : World} {va vb : Value} {n m : Nat} {zs ys : List Int} {i : Nat} {v u2 u3 u6 u7 u8 u9 u35 u36 u37 u38 u39 u40 : Value} (hk : ∀ cs fz, own (.cells cs 3 fz) = false) (hb : Bks Low base own B) {a : Act} {w w₁ : World} (h : MidI c Low base B w₀ va vb n m zs ys i v u2 u3 u6 u7 u8 u9 u35 u36 u37 u38 u39 u40 a w) (r : Oth c Low own false w w₁) : MidI c Low base B w₀ va vb n m zs ys i v u2 u3 u6 u7 u8 u9 u35 u36 u37 u38 u39 u40 a w₁ := by
  obtain ⟨_, _, _, _, _, _, _, _, _, _, _, _, _, _, _, _, _, _, _, _, _, b, hbp, hS, rfl⟩ := h
  exact ⟨_, _, _, _, _, _, _, _, _, _, _, _, _, _, _, _, _, _, _, _, _, b, hbp, hS.rely hk hb r, rfl⟩
def MuI (n m : Nat) (a : Act) (_ : World) : Nat := match a.tmps.getD 11 undef with | .int _ j => max n m - j.toNat | _ => 0

set_option maxRecDepth 100000 in
set_option maxHeartbeats 4000000 in
theorem rowsI_c {c Low : Nat} {own : Obj → Bool} {w₀ : World} (hcL : c < Low) (hk : ∀ cs fz, own (.cells cs 3 fz) = false) {va vb : Value} {n m : Nat} {zs ys : List Int} (hn : n ≤ 4000000000) (hm : m ≤ 4000000000) (hA : ArgOf Tryd.prog c Low w₀ 23 .i64 va n zs) (hB : ArgOf Tryd.prog c Low w₀ 23 .i64 vb m ys) :
    ∃ k, ∀ (base : Nat) (B : Nat → Obj → Prop) (w : World), Bks Low base own B → Kb c Low base B w₀ w → CallsC Tryd.prog false (Oth c Low own false) (DOwn c Low own false) 36 #[va, vb] k w fun v w' => HR c Low base B w₀ v (drow n m zs ys (max n m)) w' := by
  have hla := hA.len
  have hlb := hB.len
  have hlae := hA.lenE
  have hlbe := hB.lenE
  have hmx := fun w es k (x y : Int) ty ts => events_max2 Tryd.prog w es k x y ty ts
  obtain ⟨i0, hi0, hz0, hz1, hz2⟩ := info_parts (by kernel_rfl : (Tryd.prog.info? 3).map (fun i => (i.zero, i.size, i.bytes)) = some (some (.int .i64 0), 1, 8))
  co_apply Exists.intro
  intro base B w hb hK
  co_apply callsC_of_wpC Tryd.func36 (by rfl) rfl
  simp only [Tryd.ntmps36, List.size_toArray, List.length_cons, List.length_nil, Nat.reduceAdd, Nat.reduceSub, Array.replicate_succ, Array.replicate_zero, List.push_toArray, List.append_toArray, List.nil_append, List.cons_append]
  have hF : HR c Low base B w₀ (.slice none 0 0) [] w := ⟨hK, World.ownsRow_nil w base 3 1⟩
  clear hK
  co_apply wpC_seq (termsO c Low own false)
  co_reg (termsO c Low own false)
  co_op (HR.rely hk hb) hF (co_still (termsO c Low own false))
  co_apply opsC_nil (termsO c Low own false)
  co_then
  co_apply wpC_seq (termsO c Low own false)
  co_apply wpC_seq (termsO c Low own false)
  co_reg (termsO c Low own false)
  co_op (HR.rely hk hb) hF (co_still (termsO c Low own false))
  co_op (HR.rely hk hb) hF (co_still (termsO c Low own false))
  co_op (HR.rely hk hb) hF (co_still (termsO c Low own false))
  co_op (HR.rely hk hb) hF (co_still (termsO c Low own false))
  co_op (HR.rely hk hb) hF (co_still (termsO c Low own false))
  co_op (HR.rely hk hb) hF (co_still (termsO c Low own false))
  co_apply opsC_nil (termsO c Low own false)
  co_then
  have hmax : (if n < m then (m : Int) else (n : Int)) = ((max n m : Nat) : Int) := by split <;> omega
  rw [hmax]
  clear hmax
  co_apply wpC_block (termsO c Low own false)
  co_apply wpC_loop (termsO c Low own false) (InvI c Low base B w₀ va vb n m zs ys) (MuI n m) _ (max n m)
  · exact ⟨0, _, _, _, _, _, _, _, _, _, _, _, _, _, _, _, _, _, _, _, _, _, _, _, _, _, _, _, _, _, _, _, _, _, _, _, _, _, by omega, hF, rfl⟩
  · simp [MuI]
  · clear hF
    rintro a w' ⟨i, v, u2, u3, u5, u6, u7, u8, u9, u12, u13, u14, u15, u16, u17, u18, u19, u20, u21, u22, u23, u24, u25, u26, u27, u28, u29, u30, u31, u32, u33, u34, u35, u36, u37, u38, u39, u40, hi, hS, rfl⟩
    co_apply wpC_seq (termsO c Low own false)
    co_reg (termsO c Low own false)
    co_op (HR.rely hk hb) hS (co_still (termsO c Low own false))
    co_apply opsC_nil (termsO c Low own false)
    co_then
    co_apply wpC_seq (termsO c Low own false)
    co_split (termsO c Low own false) (decide (i < max n m))
    · intro hlt
      replace hlt := of_decide_eq_true hlt
      co_apply wpC_skip (termsO c Low own false)
      co_then
      co_apply wpC_seq_mid (termsO c Low own false) (fun a' w' => ∃ (v : Value) (u2 u3 u5 u6 u7 u8 u9 u12 u13 u14 u15 u16 u17 u18 u19 u20 u21 u22 u23 u24 u25 u26 u27 u28 u29 u30 u31 u32 u33 u34 u35 u36 u37 u38 u39 u40 : Value), HR c Low base B w₀ v (drow n m zs ys (i + 1)) w' ∧ a' = { tmps := #[va, vb, u2, u3, v, u5, u6, u7, u8, u9, .int .i64 ((max n m : Nat) : Int), .int .i64 (i : Int), u12, u13, u14, u15, u16, u17, u18, u19, u20, u21, u22, u23, u24, u25, u26, u27, u28, u29, u30, u31, u32, u33, u34, u35, u36, u37, u38, u39, u40], defers := [] })
      · co_apply wpC_block (termsO c Low own false)
        co_apply wpC_seq (termsO c Low own false)
        co_reg (termsO c Low own false)
        co_op (HR.rely hk hb) hS (co_still (termsO c Low own false))
        co_op (HR.rely hk hb) hS (co_still (termsO c Low own false))
        co_apply opsC_nil (termsO c Low own false)
        co_then
        co_apply wpC_seq_mid (termsO c Low own false) (MidI c Low base B w₀ va vb n m zs ys i v u2 u3 u6 u7 u8 u9 u35 u36 u37 u38 u39 u40)
        · co_apply wpC_cases (p := n ≤ i)
          · intro h1
            have hp : pd n m zs ys i = true := by simp [pd, h1]
            have h1' : (n : Int) ≤ (i : Int) := by omega
            co_held (termsO c Low own false) (drawO c Low own false) (ownDrawO c Low own false) (HR c Low base B w₀ v (drow n m zs ys i)) (HR.rely hk hb) hS
            co_applyP anyCH_take (termsO c Low own false) (fun _ _ h r => (HR.rely hk hb) h r) (fun a x y h r => MidI.rely hk hb h r) (i := 0) rfl (by first | kernel_rfl | decide +kernel) (by first | kernel_rfl | decide +kernel) (by first | kernel_rfl | decide +kernel) (.inl ⟨by rfl, fun _ hw => ⟨run_eq_of ?run1, ?guar1⟩⟩) hS ?rest1
            case run1 =>
              intro K hK
              skip
              go_simp
              exact hK
            case guar1 =>
              skip
              co_still (termsO c Low own false)
            try walk_nrm
            co_applyP anyCH_take (termsO c Low own false) (fun _ _ h r => (HR.rely hk hb) h r) (fun a x y h r => MidI.rely hk hb h r) (i := 1) rfl (by first | kernel_rfl | decide +kernel) (by first | kernel_rfl | decide +kernel) (by first | kernel_rfl | decide +kernel) (.inl ⟨by rfl, fun _ hw => ⟨run_eq_of ?run2, ?guar2⟩⟩) hS ?rest2
            case run2 =>
              intro K hK
              skip
              go_simp
              exact hK
            case guar2 =>
              skip
              co_still (termsO c Low own false)
            try walk_nrm
            co_applyP anyCH_take (termsO c Low own false) (fun _ _ h r => (HR.rely hk hb) h r) (fun a x y h r => MidI.rely hk hb h r) (i := 2) rfl (by first | kernel_rfl | decide +kernel) (by first | kernel_rfl | decide +kernel) (by first | kernel_rfl | decide +kernel) (.inl ⟨by rfl, fun _ hw => ⟨run_eq_of ?run3, ?guar3⟩⟩) hS ?rest3
            case run3 =>
              intro K hK
              skip
              go_simp
              exact hK
            case guar3 =>
              skip
              co_still (termsO c Low own false)
            try walk_nrm
            co_applyP anyCH_take (termsO c Low own false) (fun _ _ h r => (HR.rely hk hb) h r) (fun a x y h r => MidI.rely hk hb h r) (i := 3) rfl (by first | kernel_rfl | decide +kernel) (by first | kernel_rfl | decide +kernel) (by first | kernel_rfl | decide +kernel) (.inl ⟨by rfl, fun _ hw => ⟨run_eq_of ?run4, ?guar4⟩⟩) hS ?rest4
            case run4 =>
              intro K hK
              skip
              go_simp
              exact hK
            case guar4 =>
              skip
              co_still (termsO c Low own false)
            try walk_nrm
            co_applyP anyCH_take (termsO c Low own false) (fun _ _ h r => (HR.rely hk hb) h r) (fun a x y h r => MidI.rely hk hb h r) (i := 4) rfl (by first | kernel_rfl | decide +kernel) (by first | kernel_rfl | decide +kernel) (by first | kernel_rfl | decide +kernel) (.inl ⟨by rfl, fun _ hw => ⟨run_eq_of ?run5, ?guar5⟩⟩) hS ?rest5
            case run5 =>
              intro K hK
              skip
              go_simp
              exact hK
            case guar5 =>
              skip
              co_still (termsO c Low own false)
            try walk_nrm
            co_applyP anyCH_take (termsO c Low own false) (fun _ _ h r => (HR.rely hk hb) h r) (fun a x y h r => MidI.rely hk hb h r) (i := 5) rfl (by first | kernel_rfl | decide +kernel) (by first | kernel_rfl | decide +kernel) (by first | kernel_rfl | decide +kernel) (.inr ⟨by rfl, rfl⟩) hS
            try walk_nrm
            co_applyP anyCH_take (termsO c Low own false) (fun _ _ h r => (HR.rely hk hb) h r) (fun a x y h r => MidI.rely hk hb h r) (i := 6) rfl (by first | kernel_rfl | decide +kernel) (by first | kernel_rfl | decide +kernel) (by first | kernel_rfl | decide +kernel) (.inr ⟨by rfl, rfl⟩) hS
            try walk_nrm
            co_applyP anyCH_take (termsO c Low own false) (fun _ _ h r => (HR.rely hk hb) h r) (fun a x y h r => MidI.rely hk hb h r) (i := 7) rfl (by first | kernel_rfl | decide +kernel) (by first | kernel_rfl | decide +kernel) (by first | kernel_rfl | decide +kernel) (.inr ⟨by rfl, rfl⟩) hS
            try walk_nrm
            co_applyP anyCH_take (termsO c Low own false) (fun _ _ h r => (HR.rely hk hb) h r) (fun a x y h r => MidI.rely hk hb h r) (i := 8) rfl (by first | kernel_rfl | decide +kernel) (by first | kernel_rfl | decide +kernel) (by first | kernel_rfl | decide +kernel) (.inr ⟨by rfl, rfl⟩) hS
            try walk_nrm
            co_applyP anyCH_take (termsO c Low own false) (fun _ _ h r => (HR.rely hk hb) h r) (fun a x y h r => MidI.rely hk hb h r) (i := 9) rfl (by first | kernel_rfl | decide +kernel) (by first | kernel_rfl | decide +kernel) (by first | kernel_rfl | decide +kernel) (.inl ⟨by rfl, fun _ hw => ⟨run_eq_of ?run6, ?guar6⟩⟩) hS ?rest6
            case run6 =>
              intro K hK
              skip
              go_simp
              exact hK
            case guar6 =>
              skip
              co_still (termsO c Low own false)
            try walk_nrm
            co_applyP anyCH_take (termsO c Low own false) (fun _ _ h r => (HR.rely hk hb) h r) (fun a x y h r => MidI.rely hk hb h r) (i := 10) rfl (by first | kernel_rfl | decide +kernel) (by first | kernel_rfl | decide +kernel) (by first | kernel_rfl | decide +kernel) (.inl ⟨by rfl, fun _ hw => ⟨run_eq_of ?run7, ?guar7⟩⟩) hS ?rest7
            case run7 =>
              intro K hK
              skip
              go_simp
              exact hK
            case guar7 =>
              skip
              co_still (termsO c Low own false)
            try walk_nrm
            co_applyP anyCH_take (termsO c Low own false) (fun _ _ h r => (HR.rely hk hb) h r) (fun a x y h r => MidI.rely hk hb h r) (i := 11) rfl (by first | kernel_rfl | decide +kernel) (by first | kernel_rfl | decide +kernel) (by first | kernel_rfl | decide +kernel) (.inr ⟨by rfl, rfl⟩) hS
            try walk_nrm
            co_applyP anyCH_take (termsO c Low own false) (fun _ _ h r => (HR.rely hk hb) h r) (fun a x y h r => MidI.rely hk hb h r) (i := 12) rfl (by first | kernel_rfl | decide +kernel) (by first | kernel_rfl | decide +kernel) (by first | kernel_rfl | decide +kernel) (.inr ⟨by rfl, rfl⟩) hS
            try walk_nrm
            co_applyP anyCH_take (termsO c Low own false) (fun _ _ h r => (HR.rely hk hb) h r) (fun a x y h r => MidI.rely hk hb h r) (i := 13) rfl (by first | kernel_rfl | decide +kernel) (by first | kernel_rfl | decide +kernel) (by first | kernel_rfl | decide +kernel) (.inr ⟨by rfl, rfl⟩) hS
            try walk_nrm
            co_applyP anyCH_take (termsO c Low own false) (fun _ _ h r => (HR.rely hk hb) h r) (fun a x y h r => MidI.rely hk hb h r) (i := 14) rfl (by first | kernel_rfl | decide +kernel) (by first | kernel_rfl | decide +kernel) (by first | kernel_rfl | decide +kernel) (.inr ⟨by rfl, rfl⟩) hS
            try walk_nrm
            co_applyP anyCH_take (termsO c Low own false) (fun _ _ h r => (HR.rely hk hb) h r) (fun a x y h r => MidI.rely hk hb h r) (i := 15) rfl (by first | kernel_rfl | decide +kernel) (by first | kernel_rfl | decide +kernel) (by first | kernel_rfl | decide +kernel) (.inr ⟨by rfl, rfl⟩) hS
            try walk_nrm
            co_applyP anyCH_take (termsO c Low own false) (fun _ _ h r => (HR.rely hk hb) h r) (fun a x y h r => MidI.rely hk hb h r) (i := 16) rfl (by first | kernel_rfl | decide +kernel) (by first | kernel_rfl | decide +kernel) (by first | kernel_rfl | decide +kernel) (.inr ⟨by rfl, rfl⟩) hS
            try walk_nrm
            co_applyP anyCH_take (termsO c Low own false) (fun _ _ h r => (HR.rely hk hb) h r) (fun a x y h r => MidI.rely hk hb h r) (i := 17) rfl (by first | kernel_rfl | decide +kernel) (by first | kernel_rfl | decide +kernel) (by first | kernel_rfl | decide +kernel) (.inr ⟨by rfl, rfl⟩) hS
            try walk_nrm
            co_applyP anyCH_take (termsO c Low own false) (fun _ _ h r => (HR.rely hk hb) h r) (fun a x y h r => MidI.rely hk hb h r) (i := 18) rfl (by first | kernel_rfl | decide +kernel) (by first | kernel_rfl | decide +kernel) (by first | kernel_rfl | decide +kernel) (.inr ⟨by rfl, rfl⟩) hS
            try walk_nrm
            co_applyP anyCH_take (termsO c Low own false) (fun _ _ h r => (HR.rely hk hb) h r) (fun a x y h r => MidI.rely hk hb h r) (i := 19) rfl (by first | kernel_rfl | decide +kernel) (by first | kernel_rfl | decide +kernel) (by first | kernel_rfl | decide +kernel) (.inr ⟨by rfl, rfl⟩) hS
            try walk_nrm
            co_applyP anyCH_take (termsO c Low own false) (fun _ _ h r => (HR.rely hk hb) h r) (fun a x y h r => MidI.rely hk hb h r) (i := 20) rfl (by first | kernel_rfl | decide +kernel) (by first | kernel_rfl | decide +kernel) (by first | kernel_rfl | decide +kernel) (.inl ⟨by rfl, fun _ hw => ⟨run_eq_of ?run8, ?guar8⟩⟩) hS ?rest8
            case run8 =>
              intro K hK
              skip
              go_simp
              exact hK
            case guar8 =>
              skip
              co_still (termsO c Low own false)
            try walk_nrm
            co_done
            exact ⟨_, _, _, _, _, _, _, _, _, _, _, _, _, _, _, _, _, _, _, _, _, _, hp.symm, hS, rfl⟩
          · intro h1
            have h1' : ¬ (n : Int) ≤ (i : Int) := by omega
            co_apply wpC_cases (p := m ≤ i)
            · intro h2
              have hp : pd n m zs ys i = true := by simp [pd, h2]
              have h2' : (m : Int) ≤ (i : Int) := by omega
              co_held (termsO c Low own false) (drawO c Low own false) (ownDrawO c Low own false) (HR c Low base B w₀ v (drow n m zs ys i)) (HR.rely hk hb) hS
              co_applyP anyCH_take (termsO c Low own false) (fun _ _ h r => (HR.rely hk hb) h r) (fun a x y h r => MidI.rely hk hb h r) (i := 0) rfl (by first | kernel_rfl | decide +kernel) (by first | kernel_rfl | decide +kernel) (by first | kernel_rfl | decide +kernel) (.inl ⟨by rfl, fun _ hw => ⟨run_eq_of ?run9, ?guar9⟩⟩) hS ?rest9
              case run9 =>
                intro K hK
                skip
                go_simp
                exact hK
              case guar9 =>
                skip
                co_still (termsO c Low own false)
              try walk_nrm
              co_applyP anyCH_take (termsO c Low own false) (fun _ _ h r => (HR.rely hk hb) h r) (fun a x y h r => MidI.rely hk hb h r) (i := 1) rfl (by first | kernel_rfl | decide +kernel) (by first | kernel_rfl | decide +kernel) (by first | kernel_rfl | decide +kernel) (.inl ⟨by rfl, fun _ hw => ⟨run_eq_of ?run10, ?guar10⟩⟩) hS ?rest10
              case run10 =>
                intro K hK
                skip
                go_simp
                exact hK
              case guar10 =>
                skip
                co_still (termsO c Low own false)
              try walk_nrm
              co_applyP anyCH_take (termsO c Low own false) (fun _ _ h r => (HR.rely hk hb) h r) (fun a x y h r => MidI.rely hk hb h r) (i := 2) rfl (by first | kernel_rfl | decide +kernel) (by first | kernel_rfl | decide +kernel) (by first | kernel_rfl | decide +kernel) (.inl ⟨by rfl, fun _ hw => ⟨run_eq_of ?run11, ?guar11⟩⟩) hS ?rest11
              case run11 =>
                intro K hK
                skip
                go_simp
                exact hK
              case guar11 =>
                skip
                co_still (termsO c Low own false)
              try walk_nrm
              co_applyP anyCH_take (termsO c Low own false) (fun _ _ h r => (HR.rely hk hb) h r) (fun a x y h r => MidI.rely hk hb h r) (i := 3) rfl (by first | kernel_rfl | decide +kernel) (by first | kernel_rfl | decide +kernel) (by first | kernel_rfl | decide +kernel) (.inl ⟨by rfl, fun _ hw => ⟨run_eq_of ?run12, ?guar12⟩⟩) hS ?rest12
              case run12 =>
                intro K hK
                skip
                go_simp
                exact hK
              case guar12 =>
                skip
                co_still (termsO c Low own false)
              try walk_nrm
              co_applyP anyCH_take (termsO c Low own false) (fun _ _ h r => (HR.rely hk hb) h r) (fun a x y h r => MidI.rely hk hb h r) (i := 4) rfl (by first | kernel_rfl | decide +kernel) (by first | kernel_rfl | decide +kernel) (by first | kernel_rfl | decide +kernel) (.inl ⟨by rfl, fun _ hw => ⟨run_eq_of ?run13, ?guar13⟩⟩) hS ?rest13
              case run13 =>
                intro K hK
                skip
                go_simp
                exact hK
              case guar13 =>
                skip
                co_still (termsO c Low own false)
              try walk_nrm
              co_applyP anyCH_take (termsO c Low own false) (fun _ _ h r => (HR.rely hk hb) h r) (fun a x y h r => MidI.rely hk hb h r) (i := 5) rfl (by first | kernel_rfl | decide +kernel) (by first | kernel_rfl | decide +kernel) (by first | kernel_rfl | decide +kernel) (.inl ⟨by rfl, fun _ hw => ⟨run_eq_of ?run14, ?guar14⟩⟩) hS ?rest14
              case run14 =>
                intro K hK
                skip
                go_simp
                exact hK
              case guar14 =>
                skip
                co_still (termsO c Low own false)
              try walk_nrm
              co_applyP anyCH_take (termsO c Low own false) (fun _ _ h r => (HR.rely hk hb) h r) (fun a x y h r => MidI.rely hk hb h r) (i := 6) rfl (by first | kernel_rfl | decide +kernel) (by first | kernel_rfl | decide +kernel) (by first | kernel_rfl | decide +kernel) (.inl ⟨by rfl, fun _ hw => ⟨run_eq_of ?run15, ?guar15⟩⟩) hS ?rest15
              case run15 =>
                intro K hK
                skip
                go_simp
                exact hK
              case guar15 =>
                skip
                co_still (termsO c Low own false)
              try walk_nrm
              co_applyP anyCH_take (termsO c Low own false) (fun _ _ h r => (HR.rely hk hb) h r) (fun a x y h r => MidI.rely hk hb h r) (i := 7) rfl (by first | kernel_rfl | decide +kernel) (by first | kernel_rfl | decide +kernel) (by first | kernel_rfl | decide +kernel) (.inl ⟨by rfl, fun _ hw => ⟨run_eq_of ?run16, ?guar16⟩⟩) hS ?rest16
              case run16 =>
                intro K hK
                skip
                go_simp
                exact hK
              case guar16 =>
                skip
                co_still (termsO c Low own false)
              try walk_nrm
              co_applyP anyCH_take (termsO c Low own false) (fun _ _ h r => (HR.rely hk hb) h r) (fun a x y h r => MidI.rely hk hb h r) (i := 8) rfl (by first | kernel_rfl | decide +kernel) (by first | kernel_rfl | decide +kernel) (by first | kernel_rfl | decide +kernel) (.inl ⟨by rfl, fun _ hw => ⟨run_eq_of ?run17, ?guar17⟩⟩) hS ?rest17
              case run17 =>
                intro K hK
                skip
                go_simp
                exact hK
              case guar17 =>
                skip
                co_still (termsO c Low own false)
              try walk_nrm
              co_applyP anyCH_take (termsO c Low own false) (fun _ _ h r => (HR.rely hk hb) h r) (fun a x y h r => MidI.rely hk hb h r) (i := 9) rfl (by first | kernel_rfl | decide +kernel) (by first | kernel_rfl | decide +kernel) (by first | kernel_rfl | decide +kernel) (.inl ⟨by rfl, fun _ hw => ⟨run_eq_of ?run18, ?guar18⟩⟩) hS ?rest18
              case run18 =>
                intro K hK
                skip
                go_simp
                exact hK
              case guar18 =>
                skip
                co_still (termsO c Low own false)
              try walk_nrm
              co_applyP anyCH_take (termsO c Low own false) (fun _ _ h r => (HR.rely hk hb) h r) (fun a x y h r => MidI.rely hk hb h r) (i := 10) rfl (by first | kernel_rfl | decide +kernel) (by first | kernel_rfl | decide +kernel) (by first | kernel_rfl | decide +kernel) (.inl ⟨by rfl, fun _ hw => ⟨run_eq_of ?run19, ?guar19⟩⟩) hS ?rest19
              case run19 =>
                intro K hK
                skip
                go_simp
                exact hK
              case guar19 =>
                skip
                co_still (termsO c Low own false)
              try walk_nrm
              co_applyP anyCH_take (termsO c Low own false) (fun _ _ h r => (HR.rely hk hb) h r) (fun a x y h r => MidI.rely hk hb h r) (i := 11) rfl (by first | kernel_rfl | decide +kernel) (by first | kernel_rfl | decide +kernel) (by first | kernel_rfl | decide +kernel) (.inr ⟨by rfl, rfl⟩) hS
              try walk_nrm
              co_applyP anyCH_take (termsO c Low own false) (fun _ _ h r => (HR.rely hk hb) h r) (fun a x y h r => MidI.rely hk hb h r) (i := 12) rfl (by first | kernel_rfl | decide +kernel) (by first | kernel_rfl | decide +kernel) (by first | kernel_rfl | decide +kernel) (.inr ⟨by rfl, rfl⟩) hS
              try walk_nrm
              co_applyP anyCH_take (termsO c Low own false) (fun _ _ h r => (HR.rely hk hb) h r) (fun a x y h r => MidI.rely hk hb h r) (i := 13) rfl (by first | kernel_rfl | decide +kernel) (by first | kernel_rfl | decide +kernel) (by first | kernel_rfl | decide +kernel) (.inr ⟨by rfl, rfl⟩) hS
              try walk_nrm
              co_applyP anyCH_take (termsO c Low own false) (fun _ _ h r => (HR.rely hk hb) h r) (fun a x y h r => MidI.rely hk hb h r) (i := 14) rfl (by first | kernel_rfl | decide +kernel) (by first | kernel_rfl | decide +kernel) (by first | kernel_rfl | decide +kernel) (.inr ⟨by rfl, rfl⟩) hS
              try walk_nrm
              co_applyP anyCH_take (termsO c Low own false) (fun _ _ h r => (HR.rely hk hb) h r) (fun a x y h r => MidI.rely hk hb h r) (i := 15) rfl (by first | kernel_rfl | decide +kernel) (by first | kernel_rfl | decide +kernel) (by first | kernel_rfl | decide +kernel) (.inr ⟨by rfl, rfl⟩) hS
              try walk_nrm
              co_applyP anyCH_take (termsO c Low own false) (fun _ _ h r => (HR.rely hk hb) h r) (fun a x y h r => MidI.rely hk hb h r) (i := 16) rfl (by first | kernel_rfl | decide +kernel) (by first | kernel_rfl | decide +kernel) (by first | kernel_rfl | decide +kernel) (.inr ⟨by rfl, rfl⟩) hS
              try walk_nrm
              co_applyP anyCH_take (termsO c Low own false) (fun _ _ h r => (HR.rely hk hb) h r) (fun a x y h r => MidI.rely hk hb h r) (i := 17) rfl (by first | kernel_rfl | decide +kernel) (by first | kernel_rfl | decide +kernel) (by first | kernel_rfl | decide +kernel) (.inr ⟨by rfl, rfl⟩) hS
              try walk_nrm
              co_applyP anyCH_take (termsO c Low own false) (fun _ _ h r => (HR.rely hk hb) h r) (fun a x y h r => MidI.rely hk hb h r) (i := 18) rfl (by first | kernel_rfl | decide +kernel) (by first | kernel_rfl | decide +kernel) (by first | kernel_rfl | decide +kernel) (.inr ⟨by rfl, rfl⟩) hS
              try walk_nrm
              co_applyP anyCH_take (termsO c Low own false) (fun _ _ h r => (HR.rely hk hb) h r) (fun a x y h r => MidI.rely hk hb h r) (i := 19) rfl (by first | kernel_rfl | decide +kernel) (by first | kernel_rfl | decide +kernel) (by first | kernel_rfl | decide +kernel) (.inr ⟨by rfl, rfl⟩) hS
              try walk_nrm
              co_applyP anyCH_take (termsO c Low own false) (fun _ _ h r => (HR.rely hk hb) h r) (fun a x y h r => MidI.rely hk hb h r) (i := 20) rfl (by first | kernel_rfl | decide +kernel) (by first | kernel_rfl | decide +kernel) (by first | kernel_rfl | decide +kernel) (.inl ⟨by rfl, fun _ hw => ⟨run_eq_of ?run20, ?guar20⟩⟩) hS ?rest20
              case run20 =>
                intro K hK
                skip
                go_simp
                exact hK
              case guar20 =>
                skip
                co_still (termsO c Low own false)
              try walk_nrm
              co_done
              exact ⟨_, _, _, _, _, _, _, _, _, _, _, _, _, _, _, _, _, _, _, _, _, _, hp.symm, hS, rfl⟩
            · intro h2
              have h2' : ¬ (m : Int) ≤ (i : Int) := by omega
              obtain ⟨pa, fa⟩ := hA.idx i (by omega)
              obtain ⟨pb, fb⟩ := hB.idx i (by omega)
              co_held (termsO c Low own false) (drawO c Low own false) (ownDrawO c Low own false) (HR c Low base B w₀ v (drow n m zs ys i)) (HR.rely hk hb) hS
              co_applyP anyCH_take (termsO c Low own false) (fun _ _ h r => (HR.rely hk hb) h r) (fun a x y h r => MidI.rely hk hb h r) (i := 0) rfl (by first | kernel_rfl | decide +kernel) (by first | kernel_rfl | decide +kernel) (by first | kernel_rfl | decide +kernel) (.inl ⟨by rfl, fun _ hw => ⟨run_eq_of ?run21, ?guar21⟩⟩) hS ?rest21
              case run21 =>
                intro K hK
                skip
                go_simp
                exact hK
              case guar21 =>
                skip
                co_still (termsO c Low own false)
              try walk_nrm
              co_applyP anyCH_take (termsO c Low own false) (fun _ _ h r => (HR.rely hk hb) h r) (fun a x y h r => MidI.rely hk hb h r) (i := 1) rfl (by first | kernel_rfl | decide +kernel) (by first | kernel_rfl | decide +kernel) (by first | kernel_rfl | decide +kernel) (.inl ⟨by rfl, fun _ hw => ⟨run_eq_of ?run22, ?guar22⟩⟩) hS ?rest22
              case run22 =>
                intro K hK
                skip
                go_simp
                exact hK
              case guar22 =>
                skip
                co_still (termsO c Low own false)
              try walk_nrm
              co_applyP anyCH_take (termsO c Low own false) (fun _ _ h r => (HR.rely hk hb) h r) (fun a x y h r => MidI.rely hk hb h r) (i := 2) rfl (by first | kernel_rfl | decide +kernel) (by first | kernel_rfl | decide +kernel) (by first | kernel_rfl | decide +kernel) (.inl ⟨by rfl, fun _ hw => ⟨run_eq_of ?run23, ?guar23⟩⟩) hS ?rest23
              case run23 =>
                intro K hK
                skip
                go_simp
                exact hK
              case guar23 =>
                skip
                co_still (termsO c Low own false)
              try walk_nrm
              co_applyP anyCH_take (termsO c Low own false) (fun _ _ h r => (HR.rely hk hb) h r) (fun a x y h r => MidI.rely hk hb h r) (i := 3) rfl (by first | kernel_rfl | decide +kernel) (by first | kernel_rfl | decide +kernel) (by first | kernel_rfl | decide +kernel) (.inl ⟨by rfl, fun _ hw => ⟨run_eq_of ?run24, ?guar24⟩⟩) hS ?rest24
              case run24 =>
                intro K hK
                skip
                go_simp
                exact hK
              case guar24 =>
                skip
                co_still (termsO c Low own false)
              try walk_nrm
              co_applyP anyCH_take (termsO c Low own false) (fun _ _ h r => (HR.rely hk hb) h r) (fun a x y h r => MidI.rely hk hb h r) (i := 4) rfl (by first | kernel_rfl | decide +kernel) (by first | kernel_rfl | decide +kernel) (by first | kernel_rfl | decide +kernel) (.inl ⟨by rfl, fun _ hw => ⟨run_eq_of ?run25, ?guar25⟩⟩) hS ?rest25
              case run25 =>
                intro K hK
                skip
                go_simp
                exact hK
              case guar25 =>
                skip
                co_still (termsO c Low own false)
              try walk_nrm
              co_applyP anyCH_take (termsO c Low own false) (fun _ _ h r => (HR.rely hk hb) h r) (fun a x y h r => MidI.rely hk hb h r) (i := 5) rfl (by first | kernel_rfl | decide +kernel) (by first | kernel_rfl | decide +kernel) (by first | kernel_rfl | decide +kernel) (.inl ⟨by rfl, fun _ hw => ⟨run_eq_of ?run26, ?guar26⟩⟩) hS ?rest26
              case run26 =>
                intro K hK
                skip
                go_simp
                exact hK
              case guar26 =>
                skip
                co_still (termsO c Low own false)
              try walk_nrm
              co_applyP anyCH_take (termsO c Low own false) (fun _ _ h r => (HR.rely hk hb) h r) (fun a x y h r => MidI.rely hk hb h r) (i := 6) rfl (by first | kernel_rfl | decide +kernel) (by first | kernel_rfl | decide +kernel) (by first | kernel_rfl | decide +kernel) (.inl ⟨by rfl, fun _ hw => ⟨run_eq_of ?run27, ?guar27⟩⟩) hS ?rest27
              case run27 =>
                intro K hK
                skip
                go_simp
                exact hK
              case guar27 =>
                skip
                co_still (termsO c Low own false)
              try walk_nrm
              co_applyP anyCH_take (termsO c Low own false) (fun _ _ h r => (HR.rely hk hb) h r) (fun a x y h r => MidI.rely hk hb h r) (i := 7) rfl (by first | kernel_rfl | decide +kernel) (by first | kernel_rfl | decide +kernel) (by first | kernel_rfl | decide +kernel) (.inl ⟨by rfl, fun _ hw => ⟨run_eq_of ?run28, ?guar28⟩⟩) hS ?rest28
              case run28 =>
                intro K hK
                skip
                go_simp
                exact hK
              case guar28 =>
                skip
                co_still (termsO c Low own false)
              try walk_nrm
              co_applyP anyCH_take (termsO c Low own false) (fun _ _ h r => (HR.rely hk hb) h r) (fun a x y h r => MidI.rely hk hb h r) (i := 8) rfl (by first | kernel_rfl | decide +kernel) (by first | kernel_rfl | decide +kernel) (by first | kernel_rfl | decide +kernel) (.inl ⟨by rfl, fun _ hw => ⟨run_eq_of ?run29, ?guar29⟩⟩) hS ?rest29
              case run29 =>
                intro K hK
                skip
                go_simp
                exact hK
              case guar29 =>
                skip
                co_still (termsO c Low own false)
              try walk_nrm
              co_applyP anyCH_take (termsO c Low own false) (fun _ _ h r => (HR.rely hk hb) h r) (fun a x y h r => MidI.rely hk hb h r) (i := 9) rfl (by first | kernel_rfl | decide +kernel) (by first | kernel_rfl | decide +kernel) (by first | kernel_rfl | decide +kernel) (.inl ⟨by rfl, fun _ hw => ⟨run_eq_of ?run30, ?guar30⟩⟩) hS ?rest30
              case run30 =>
                intro K hK
                skip
                go_simp
                exact hK
              case guar30 =>
                skip
                co_still (termsO c Low own false)
              try walk_nrm
              co_applyP anyCH_take (termsO c Low own false) (fun _ _ h r => (HR.rely hk hb) h r) (fun a x y h r => MidI.rely hk hb h r) (i := 10) rfl (by first | kernel_rfl | decide +kernel) (by first | kernel_rfl | decide +kernel) (by first | kernel_rfl | decide +kernel) (.inl ⟨by rfl, fun _ hw => ⟨run_eq_of ?run31, ?guar31⟩⟩) hS ?rest31
              case run31 =>
                intro K hK
                skip
                go_simp
                exact hK
              case guar31 =>
                skip
                co_still (termsO c Low own false)
              try walk_nrm
              co_applyP anyCH_take (termsO c Low own false) (fun _ _ h r => (HR.rely hk hb) h r) (fun a x y h r => MidI.rely hk hb h r) (i := 11) rfl (by first | kernel_rfl | decide +kernel) (by first | kernel_rfl | decide +kernel) (by first | kernel_rfl | decide +kernel) (.inl ⟨by rfl, fun _ hw => ⟨run_eq_of ?run32, ?guar32⟩⟩) hS ?rest32
              case run32 =>
                intro K hK
                skip
                go_simp
                exact hK
              case guar32 =>
                skip
                co_still (termsO c Low own false)
              try walk_nrm
              co_applyP anyCH_take (termsO c Low own false) (fun _ _ h r => (HR.rely hk hb) h r) (fun a x y h r => MidI.rely hk hb h r) (i := 12) rfl (by first | kernel_rfl | decide +kernel) (by first | kernel_rfl | decide +kernel) (by first | kernel_rfl | decide +kernel) (.inl ⟨by rfl, fun _ hw => ⟨run_eq_of ?run33, ?guar33⟩⟩) hS ?rest33
              case run33 =>
                intro K hK
                skip
                go_simp
                exact hK
              case guar33 =>
                skip
                co_still (termsO c Low own false)
              try walk_nrm
              co_applyP anyCH_take (termsO c Low own false) (fun _ _ h r => (HR.rely hk hb) h r) (fun a x y h r => MidI.rely hk hb h r) (i := 13) rfl (by first | kernel_rfl | decide +kernel) (by first | kernel_rfl | decide +kernel) (by first | kernel_rfl | decide +kernel) (.inl ⟨by rfl, fun _ hw => ⟨run_eq_of ?run34, ?guar34⟩⟩) hS ?rest34
              case run34 =>
                intro K hK
                (have hx := fa.1; have hxe := fa.2.1)
                go_simp
                exact hK
              case guar34 =>
                (have hx := fa.1; have hxe := fa.2.1)
                co_still (termsO c Low own false)
              try walk_nrm
              co_applyP anyCH_take (termsO c Low own false) (fun _ _ h r => (HR.rely hk hb) h r) (fun a x y h r => MidI.rely hk hb h r) (i := 14) rfl (by first | kernel_rfl | decide +kernel) (by first | kernel_rfl | decide +kernel) (by first | kernel_rfl | decide +kernel) (.inl ⟨by rfl, fun _ hw => ⟨run_eq_of ?run35, ?guar35⟩⟩) hS ?rest35
              case run35 =>
                intro K hK
                have hc := hw.kn.kn.cell fa.2.2.1 fa.2.2.2.1 fa.2.2.2.2
                go_simp
                exact hK
              case guar35 =>
                have hc := hw.kn.kn.cell fa.2.2.1 fa.2.2.2.1 fa.2.2.2.2
                (refine ⟨Oth.refl .., rfl, ?_⟩; co_evs (exact evO_read (.inl fa.2.2.1)))
              try walk_nrm
              co_applyP anyCH_take (termsO c Low own false) (fun _ _ h r => (HR.rely hk hb) h r) (fun a x y h r => MidI.rely hk hb h r) (i := 15) rfl (by first | kernel_rfl | decide +kernel) (by first | kernel_rfl | decide +kernel) (by first | kernel_rfl | decide +kernel) (.inl ⟨by rfl, fun _ hw => ⟨run_eq_of ?run36, ?guar36⟩⟩) hS ?rest36
              case run36 =>
                intro K hK
                skip
                go_simp
                exact hK
              case guar36 =>
                skip
                co_still (termsO c Low own false)
              try walk_nrm
              co_applyP anyCH_take (termsO c Low own false) (fun _ _ h r => (HR.rely hk hb) h r) (fun a x y h r => MidI.rely hk hb h r) (i := 16) rfl (by first | kernel_rfl | decide +kernel) (by first | kernel_rfl | decide +kernel) (by first | kernel_rfl | decide +kernel) (.inl ⟨by rfl, fun _ hw => ⟨run_eq_of ?run37, ?guar37⟩⟩) hS ?rest37
              case run37 =>
                intro K hK
                skip
                go_simp
                exact hK
              case guar37 =>
                skip
                co_still (termsO c Low own false)
              try walk_nrm
              co_applyP anyCH_take (termsO c Low own false) (fun _ _ h r => (HR.rely hk hb) h r) (fun a x y h r => MidI.rely hk hb h r) (i := 17) rfl (by first | kernel_rfl | decide +kernel) (by first | kernel_rfl | decide +kernel) (by first | kernel_rfl | decide +kernel) (.inl ⟨by rfl, fun _ hw => ⟨run_eq_of ?run38, ?guar38⟩⟩) hS ?rest38
              case run38 =>
                intro K hK
                (have hx := fb.1; have hxe := fb.2.1)
                go_simp
                exact hK
              case guar38 =>
                (have hx := fb.1; have hxe := fb.2.1)
                co_still (termsO c Low own false)
              try walk_nrm
              co_applyP anyCH_take (termsO c Low own false) (fun _ _ h r => (HR.rely hk hb) h r) (fun a x y h r => MidI.rely hk hb h r) (i := 18) rfl (by first | kernel_rfl | decide +kernel) (by first | kernel_rfl | decide +kernel) (by first | kernel_rfl | decide +kernel) (.inl ⟨by rfl, fun _ hw => ⟨run_eq_of ?run39, ?guar39⟩⟩) hS ?rest39
              case run39 =>
                intro K hK
                have hc := hw.kn.kn.cell fb.2.2.1 fb.2.2.2.1 fb.2.2.2.2
                go_simp
                exact hK
              case guar39 =>
                have hc := hw.kn.kn.cell fb.2.2.1 fb.2.2.2.1 fb.2.2.2.2
                (refine ⟨Oth.refl .., rfl, ?_⟩; co_evs (exact evO_read (.inl fb.2.2.1)))
              try walk_nrm
              co_applyP anyCH_take (termsO c Low own false) (fun _ _ h r => (HR.rely hk hb) h r) (fun a x y h r => MidI.rely hk hb h r) (i := 19) rfl (by first | kernel_rfl | decide +kernel) (by first | kernel_rfl | decide +kernel) (by first | kernel_rfl | decide +kernel) (.inl ⟨by rfl, fun _ hw => ⟨run_eq_of ?run40, ?guar40⟩⟩) hS ?rest40
              case run40 =>
                intro K hK
                skip
                go_simp
                exact hK
              case guar40 =>
                skip
                co_still (termsO c Low own false)
              try walk_nrm
              co_applyP anyCH_take (termsO c Low own false) (fun _ _ h r => (HR.rely hk hb) h r) (fun a x y h r => MidI.rely hk hb h r) (i := 20) rfl (by first | kernel_rfl | decide +kernel) (by first | kernel_rfl | decide +kernel) (by first | kernel_rfl | decide +kernel) (.inl ⟨by rfl, fun _ hw => ⟨run_eq_of ?run41, ?guar41⟩⟩) hS ?rest41
              case run41 =>
                intro K hK
                skip
                go_simp
                exact hK
              case guar41 =>
                skip
                co_still (termsO c Low own false)
              try walk_nrm
              co_done
              exact ⟨_, _, _, _, _, _, _, _, _, _, _, _, _, _, _, _, _, _, _, _, _, _, (by simp [pd, h1, h2]; rfl), hS, rfl⟩
        · rintro a' w'' ⟨m12, m14, m15, m16, m17, m18, m19, m20, m21, m22, m23, m24, m25, m26, m27, m28, m29, m30, m31, m32, m33, b, hbp, hS, rfl⟩
          co_split (termsO c Low own false) b
          · intro ht
            have hp : pd n m zs ys i = true := by rw [← hbp]; exact ht
            have hl := drow_le n m zs ys i
            co_reg (termsO c Low own false)
            co_op (HR.rely hk hb) hS (co_still (termsO c Low own false))
            co_op (HR.rely hk hb) hS (co_still (termsO c Low own false))
            co_opw (HR.rely hk hb) hS (skip) (refine ⟨oth_push hS.kn.kn.size (hk _ _), ?_, ?_⟩; exact Below.heap_alloc _ _ _ (Nat.lt_of_lt_of_le hcL hS.kn.kn.size); co_evs (skip))
            have hB := hS.push hb i
            clear hS
            co_apply opsC_cons rfl (by rfl)
            intro w₃ hR
            replace hB := hB.rely hk hb hR
            clear hR
            obtain ⟨v', w₄, hr, hrow, hoth, hch, hbel, hev⟩ := append_own (P := Tryd.prog) hcL base hb.low 23 23 3 i0 (.int .i64 0) 1 8 Tryd.underlying23 hi0 hz0 hz1 hz2 rfl (by omega) hk v _ _ hB.hr.row ⟨_, 0, none⟩ 1 1 [natV i] rfl (one_cell hB.blk) (by simp [natV, Value.oneCell']) (by omega) (by simp only [maxLen]; omega) (by omega) hB.hr.kn.size (.inr ⟨hB.low, _, hB.blk, hk _ _⟩)
            refine uponK_append (P := Tryd.prog) (.tmp 35) (.tmp 37) 23 rfl rfl rfl hr ⟨⟨hoth, hch, fun e he => hev e ?_⟩, ?_⟩
            · have := mem_listed he
              rw [events_append_op (P := Tryd.prog) (.tmp 35) (.tmp 37) 23 rfl rfl rfl] at this
              exact this
            have hS : HR c Low base B w₀ v' (drow n m zs ys (i + 1)) w₄ := ⟨⟨hB.hr.kn.kn.oth hoth, Nat.le_trans hB.hr.kn.size hoth.size, fun k o hk' => by rw [hbel k (hb.all k o hk').2.1]; exact hB.hr.kn.mine k o hk'⟩, by
              rw [drow_succ, hp]
              simpa using hrow⟩
            clear hB hr hrow hoth hch hbel hev
            try walk_nrm
            co_op (HR.rely hk hb) hS (co_still (termsO c Low own false))
            co_apply opsC_nil (termsO c Low own false)
            co_then
            exact ⟨v', _, _, _, _, _, _, _, _, _, _, _, _, _, _, _, _, _, _, _, _, _, _, _, _, _, _, _, _, _, _, _, _, _, _, _, _, hS, rfl⟩
          · intro ht
            have hp : pd n m zs ys i = false := by rw [← hbp]; exact ht
            co_apply wpC_skip (termsO c Low own false)
            co_then
            exact ⟨v, _, _, _, _, _, _, _, _, _, _, _, _, _, _, _, _, _, _, _, _, _, _, _, _, _, _, _, _, _, _, _, _, _, _, _, _, by rw [drow_succ, hp]; simpa using hS, rfl⟩
      · rintro a' w'' ⟨v, u2, u3, u5, u6, u7, u8, u9, u12, u13, u14, u15, u16, u17, u18, u19, u20, u21, u22, u23, u24, u25, u26, u27, u28, u29, u30, u31, u32, u33, u34, u35, u36, u37, u38, u39, u40, hS, rfl⟩
        co_reg (termsO c Low own false)
        co_op (HR.rely hk hb) hS (co_still (termsO c Low own false))
        co_op (HR.rely hk hb) hS (co_still (termsO c Low own false))
        co_apply opsC_nil (termsO c Low own false)
        co_then
        have e : IntKind.i64.wrap ((i : Int) + 1) = ((i + 1 : Nat) : Int) := by rw [IntKind.wrap_i64]; omega
        rw [e]
        refine ⟨⟨i + 1, v, _, _, _, _, _, _, _, _, _, _, _, _, _, _, _, _, _, _, _, _, _, _, _, _, _, _, _, _, _, _, _, _, _, _, _, _, by omega, hS, rfl⟩, ?_⟩
        simp [MuI]
        omega
    · intro hlt
      replace hlt := of_decide_eq_false hlt
      have hi' : i = max n m := by omega
      subst hi'
      co_apply wpC_exit (termsO c Low own false)
      co_then
      co_apply wpC_seq (termsO c Low own false)
      co_reg (termsO c Low own false)
      co_op (HR.rely hk hb) hS (co_still (termsO c Low own false))
      co_op (HR.rely hk hb) hS (co_still (termsO c Low own false))
      co_apply opsC_nil (termsO c Low own false)
      co_then
      co_apply wpC_ret (termsO c Low own false)
      refine ⟨rfl, _, resultsC_tmp (t := 4) (by rfl) _, ?_⟩
      exact hS

end Go.Proofs.YtifdhaiihlfomaaDoor
