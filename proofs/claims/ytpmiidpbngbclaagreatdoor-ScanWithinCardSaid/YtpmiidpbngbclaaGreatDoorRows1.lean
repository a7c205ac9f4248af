/-
  Rows of cells as values: find, SameCells, tiles.
  Two cells compared.
  Rows of cells: SameCells, tiles.
  Rows of cells: told.
  What was put, and not dropped: in numbers alone.
-/
import Derived.Test.YtpmiidpbngbclaaGreatDoorSpaceCells
import Derived.BigQuiet
import Derived.Laws.StructEq
import Derived.Test.YtpmiidpbngbclaaGreatDoorSpace1
namespace Go.Proofs.YtpmiidpbngbclaaGreatDoor
open Go.RowKit
set_option linter.unusedVariables false

/-- The value v is a row of cells. -/
def RowC (w : World) (v : Value) (cs : List Cel) : Prop :=
  ∃ a cap, v = .slice a cs.length cap ∧ ∀ i x, cs[i]? = some x → ∃ b, a = some ⟨b, 0, none⟩ ∧ b < w.heap.size ∧
    w.cell? ⟨b, i * 5, none⟩ = some (.int .i64 (x.g : Nat)) ∧ w.cell? ⟨b, i * 5 + 1, none⟩ = some (.int .u8 (x.tag : Nat)) ∧ w.cell? ⟨b, i * 5 + 2, none⟩ = some (.int .i64 (x.ty : Nat)) ∧
    w.cell? ⟨b, i * 5 + 3, none⟩ = some (.int .i64 (x.ln : Nat)) ∧ w.cell? ⟨b, i * 5 + 4, none⟩ = some (.int .i64 (x.sz : Nat))

theorem flatC_at : ∀ (xs : List Cel) (i : Nat) (x : Cel), xs[i]? = some x → (flatC xs)[i * 5]? = some (.int .i64 (x.g : Nat)) ∧ (flatC xs)[i * 5 + 1]? = some (.int .u8 (x.tag : Nat)) ∧ (flatC xs)[i * 5 + 2]? = some (.int .i64 (x.ty : Nat)) ∧ (flatC xs)[i * 5 + 3]? = some (.int .i64 (x.ln : Nat)) ∧ (flatC xs)[i * 5 + 4]? = some (.int .i64 (x.sz : Nat))
  | y :: xs, 0, x, h => by
    simp at h
    subst h
    exact ⟨rfl, rfl, rfl, rfl, rfl⟩
  | y :: xs, i + 1, x, h => by
    have h2 : xs[i]? = some x := by simpa using h
    obtain ⟨a, b, c, d, e⟩ := flatC_at xs i x h2
    have e0 : (i + 1) * 5 = i * 5 + 5 := by omega
    rw [e0]
    exact ⟨a, b, c, d, e⟩

theorem RowC.of_owns {w : World} {base : Nat} {v : Value} {cs : List Cel} (h : w.ownsRow base 62 5 v cs.length (flatC cs)) : RowC w v cs := by
  rcases h.2 with ⟨rfl, h0⟩ | ⟨g, cap, cur, rfl, g2, g3, g4, g5, g6, g7⟩
  · exact ⟨none, 0, by rw [h0], fun i x hx => by have := (List.getElem?_eq_some_iff.1 hx).1; omega⟩
  · refine ⟨some ⟨g, 0, none⟩, cap, rfl, fun i x hx => ?_⟩
    have hi := (List.getElem?_eq_some_iff.1 hx).1
    obtain ⟨x0, x1, x2, x3, x4⟩ := flatC_at cs i x hx
    have key : ∀ j, j < cs.length * 5 → w.cell? ⟨g, j, none⟩ = (flatC cs)[j]? := fun j hj => by
      rw [← g7, List.getElem?_take_of_lt hj]
      simp [World.cell?, g3]
    exact ⟨g, rfl, lt_of_heap g3, by rw [key _ (by omega)]; exact x0, by rw [key _ (by omega)]; exact x1, by rw [key _ (by omega)]; exact x2, by rw [key _ (by omega)]; exact x3, by rw [key _ (by omega)]; exact x4⟩

theorem RowC.keepN {w w' : World} {v : Value} {cs : List Cel} (h : RowC w v cs) (k : Keep Nope w w') : RowC w' v cs := by
  obtain ⟨a, cap, rfl, h⟩ := h
  refine ⟨a, cap, rfl, fun i x hi => ?_⟩
  obtain ⟨b, rfl, h1, h2, h3, h4, h5, h6⟩ := h i x hi
  exact ⟨b, rfl, Nat.lt_of_lt_of_le h1 k.size, k.cell h2 (fun h => h), k.cell h3 (fun h => h), k.cell h4 (fun h => h), k.cell h5 (fun h => h), k.cell h6 (fun h => h)⟩

/-- What find answers. -/
def FindPost (cs : List Cel) (g : Int) (w : World) (e : Ending) (w' : World) : Prop :=
  w' = w ∧ ((∃ k c, cs[k]? = some c ∧ (c.g : Int) = g ∧ e = .returned (.int .i64 (k : Nat))) ∨ ((∀ c ∈ cs, ¬ (c.g : Int) = g) ∧ e = .returned (.int .i64 (-1))))

/-- Where find's loop stands. -/
def FindI (cs : List Cel) (g : Int) (w : World) (y : Value) (wr : World) : Prop := ∃ j, j ≤ cs.length ∧ y = .int .i64 (j : Nat) ∧ wr = w ∧ ∀ i c, i < j → cs[i]? = some c → ¬ (c.g : Int) = g

end Go.Proofs.YtpmiidpbngbclaaGreatDoor

namespace Go.Proofs.YtpmiidpbngbclaaGreatDoor
open Go.RowKit
set_option linter.unusedVariables false

def cellI (g a b c d : Int) : Value := .agg #[.int .i64 g, .int .u8 a, .int .i64 b, .int .i64 c, .int .i64 d]

theorem run_eq_head9 (a b c d a' b' c' d' : Int) (w : World) : (Op.equalIn 9999 60 (.agg #[.int .u8 a, .int .i64 b, .int .i64 c, .int .i64 d]) (.agg #[.int .u8 a', .int .i64 b', .int .i64 c', .int .i64 d'])).run Tryz.prog w = .ok (a == a' && (b == b' && (c == c' && d == d'))) w := by
  have u3 := Tryz.underlying3
  have a3 := Tryz.isAgg3
  have z3 := Tryz.sizeOf3
  have u5 := Tryz.underlying5
  have a5 := Tryz.isAgg5
  have z5 := Tryz.sizeOf5
  have hS : Tryz.prog.underlying 60 = some (.struct (Tryz.prog.fieldsOf 60)) := by kernel_rfl
  rw [show (9999 : Nat) = 9998 + 1 from rfl, run_equalIn_agg w 9998 60 _ _ hS (by kernel_rfl)]
  simp only [Program.fieldsOf, Tryz.underlying60]
  go_simp
  by_cases h1 : a = a' <;> by_cases h2 : b = b' <;> by_cases h3 : c = c' <;> by_cases h4 : d = d' <;> simp [h1, h2, h3, h4]

theorem run_eq_cell (g a b c d g' a' b' c' d' : Int) (w : World) : (Op.equalIn 10000 62 (.agg #[.int .i64 g, .int .u8 a, .int .i64 b, .int .i64 c, .int .i64 d]) (.agg #[.int .i64 g', .int .u8 a', .int .i64 b', .int .i64 c', .int .i64 d'])).run Tryz.prog w = .ok (g == g' && (a == a' && (b == b' && (c == c' && d == d')))) w := by
  have u3 := Tryz.underlying3
  have a3 := Tryz.isAgg3
  have z3 := Tryz.sizeOf3
  have aH := Tryz.isAgg60
  have zH := Tryz.sizeOf60
  have hS : Tryz.prog.underlying 62 = some (.struct (Tryz.prog.fieldsOf 62)) := by kernel_rfl
  have hE := fun (w : World) => run_eq_head9 a b c d a' b' c' d' w
  rw [show (10000 : Nat) = 9999 + 1 from rfl, run_equalIn_agg w 9999 62 _ _ hS (by kernel_rfl)]
  simp only [Program.fieldsOf, Tryz.underlying62]
  go_simp
  by_cases h0 : g = g' <;> by_cases h1 : a = a' <;> by_cases h2 : b = b' <;> by_cases h3 : c = c' <;> by_cases h4 : d = d' <;> simp [h0, h1, h2, h3, h4]

theorem run_neq_cell (g a b c d g' a' b' c' d' : Int) (w : World) : (binOp .neq 62 (.agg #[.int .i64 g, .int .u8 a, .int .i64 b, .int .i64 c, .int .i64 d]) (.agg #[.int .i64 g', .int .u8 a', .int .i64 b', .int .i64 c', .int .i64 d'])).run Tryz.prog w = .ok (.bool (!(g == g' && (a == a' && (b == b' && (c == c' && d == d')))))) w := by
  rw [run_neq_struct, run_eq_cell]; rfl

theorem run_eql_cell (g a b c d g' a' b' c' d' : Int) (w : World) : (binOp .eql 62 (.agg #[.int .i64 g, .int .u8 a, .int .i64 b, .int .i64 c, .int .i64 d]) (.agg #[.int .i64 g', .int .u8 a', .int .i64 b', .int .i64 c', .int .i64 d'])).run Tryz.prog w = .ok (.bool (g == g' && (a == a' && (b == b' && (c == c' && d == d'))))) w := by
  rw [run_eql_struct, run_eq_cell]; rfl

end Go.Proofs.YtpmiidpbngbclaaGreatDoor

namespace Go.Proofs.YtpmiidpbngbclaaGreatDoor
open Go.RowKit
set_option linter.unusedVariables false
attribute [local go_sem ↓] run_neq_cell

def SameI (cs : List Cel) (w : World) (y : Value) (wr : World) : Prop := ∃ j, j ≤ cs.length ∧ y = .int .i64 (j : Nat) ∧ Keep Nope w wr

set_option maxHeartbeats 2000000 in
theorem SameC_at (cs : List Cel) (v u : Value) (w : World) (hv : RowC w v cs) (hu : RowC w u cs) (hlen : cs.length ≤ 9223372036854775806) :
    Calls Tryz.prog 28 #[v, u] w fun e w' => e = .returned (.bool true) ∧ Keep Nope w w' := by
  have HV : Seal _ := ⟨hv⟩
  have HU : Seal _ := ⟨hu⟩
  obtain ⟨va, vc, rfl, -⟩ := hv
  obtain ⟨ua, uc, rfl, -⟩ := hu
  obtain ⟨len, hlen'⟩ : ∃ len, cs.length = len := ⟨_, rfl⟩
  rw [hlen'] at HV HU hlen ⊢
  have HL : Seal _ := ⟨hlen'⟩
  clear hlen'
  go_enter Tryz.func28, Tryz.ntmps28
  go_wp2_with fail
  go_loopw [5] (fun y wr => SameI cs w y wr) (fun y _ => len - (intOf y).toNat)
  case atStart => exact ⟨0, Nat.zero_le _, rfl, Keep.refl _ _⟩
  case round =>
    obtain ⟨j, hj, rfl, hk⟩ := hrel
    rw [HL.out] at hj
    by_cases hjl : j < len
    · have hjl' : (j : Int) < len := by omega
      obtain ⟨va', vc', e, hx⟩ := HV.out
      injection e with e1 e3 e2
      clear e3
      subst e1 e2
      obtain ⟨ua', uc', e, hy⟩ := HU.out
      injection e with e1 e3 e2
      clear e3
      subst e1 e2
      obtain ⟨x, hxj⟩ : ∃ x, cs[j]? = some x := ⟨cs[j]'(by rw [HL.out]; omega), List.getElem?_eq_getElem (by rw [HL.out]; omega)⟩
      obtain ⟨b, rfl, hbl, x0, x1, x2, x3, x4⟩ := hx j x hxj
      obtain ⟨b', rfl, hbl', y0, y1, y2, y3, y4⟩ := hy j x hxj
      clear hx hy hxj
      replace x0 := hk.cell x0 (fun h => h)
      replace x1 := hk.cell x1 (fun h => h)
      replace x2 := hk.cell x2 (fun h => h)
      replace x3 := hk.cell x3 (fun h => h)
      replace x4 := hk.cell x4 (fun h => h)
      replace y0 := hk.cell y0 (fun h => h)
      replace y1 := hk.cell y1 (fun h => h)
      replace y2 := hk.cell y2 (fun h => h)
      replace y3 := hk.cell y3 (fun h => h)
      replace y4 := hk.cell y4 (fun h => h)
      go_wp2_with fail
      go_quiet (fail)
      go_wp2
      refine ⟨⟨j + 1, by rw [HL.out]; omega, by go_num, hk.then' (Keep.of_drewN _)⟩, by simp only [intOf]; omega⟩
    · have hjl' : ¬ (j : Int) < len := by omega
      go_wp2
      go_ret
      exact ⟨rfl, hk⟩

def TilesI (cs : List Cel) (H : Nat) (w : World) (z y : Value) (wr : World) : Prop := ∃ j p : Nat, j ≤ cs.length ∧ z = .int .i64 (p : Nat) ∧ y = .int .i64 (j : Nat) ∧ Tiles p (cs.drop j) H ∧ wr = w

end Go.Proofs.YtpmiidpbngbclaaGreatDoor

namespace Go.Proofs.YtpmiidpbngbclaaGreatDoor
open Go.RowKit
set_option linter.unusedVariables false
attribute [local go_sem ↓] run_neq_cell

/-- The objects of a row. -/
def objsOf (cs : List Cel) : List Cel := cs.filter fun c => c.tag == 1

theorem objsOf_append (xs ys : List Cel) : objsOf (xs ++ ys) = objsOf xs ++ objsOf ys := List.filter_append ..

theorem objsOf_take {cs : List Cel} {j : Nat} {x : Cel} (h : cs[j]? = some x) : (objsOf (cs.take (j + 1))).length = (objsOf (cs.take j)).length + (if x.tag = 1 then 1 else 0) := by
  rw [List.take_add_one, h, objsOf_append, List.length_append]
  by_cases ht : x.tag = 1 <;> simp [objsOf, ht]

/-- What gaps must be. -/
def GapsOk (cs : List Cel) : Prop := ∀ c ∈ cs, ¬ c.tag = 1 → c.tag = gapTag c.sz ∧ c.ty = 0 ∧ c.ln = 0

def ToldI (cs : List Cel) (w : World) (z y : Value) (wr : World) : Prop := ∃ j, j ≤ cs.length ∧ z = .int .i64 ((objsOf (cs.take j)).length : Nat) ∧ y = .int .i64 (j : Nat) ∧ Keep Nope w wr

end Go.Proofs.YtpmiidpbngbclaaGreatDoor

namespace Go.Proofs.YtpmiidpbngbclaaGreatDoor
open Go.RowKit
set_option linter.unusedVariables false

theorem objsOf_gap (g m : Nat) : objsOf (gapL g m) = [] := by
  rw [objsOf, List.filter_eq_nil_iff]
  intro c hc
  obtain ⟨_, rfl⟩ := gapL_mem hc
  have hT := gapTag_or m
  simp
  omega

theorem objsOf_gaps {xs : List Cel} (h : ∀ d ∈ xs, ¬ d.tag = 1) : objsOf xs = [] := by
  rw [objsOf, List.filter_eq_nil_iff]
  intro c hc
  simpa using h c hc

theorem objsOf_obj {c : Cel} (h : c.tag = 1) (xs : List Cel) : objsOf (c :: xs) = c :: objsOf xs := by
  rw [objsOf, List.filter_cons, if_pos (by simpa using h)]; rfl

theorem mem_objsOf {c : Cel} {xs : List Cel} : c ∈ objsOf xs ↔ c ∈ xs ∧ c.tag = 1 := by
  rw [objsOf, List.mem_filter]; simp

theorem GapsOk.gap (g m : Nat) : GapsOk (gapL g m) := by
  intro c hc _
  obtain ⟨_, rfl⟩ := gapL_mem hc
  exact ⟨rfl, rfl, rfl⟩

theorem GapsOk.append {xs ys : List Cel} (h : GapsOk xs) (k : GapsOk ys) : GapsOk (xs ++ ys) := by
  intro c hc
  rcases List.mem_append.1 hc with hc | hc
  · exact h c hc
  · exact k c hc

theorem GapsOk.left {xs ys : List Cel} (h : GapsOk (xs ++ ys)) : GapsOk xs := fun c hc => h c (List.mem_append_left _ hc)

theorem GapsOk.right {xs ys : List Cel} (h : GapsOk (xs ++ ys)) : GapsOk ys := fun c hc => h c (List.mem_append_right _ hc)

theorem put_gaps {pre post : List Cel} {c : Cel} {j i l S : Nat} (h : GapsOk (pre ++ c :: post)) : GapsOk (putL pre c post j i l S) := by
  have h2 : GapsOk post := fun d hd => h d (List.mem_append_right _ (List.mem_cons_of_mem _ hd))
  refine h.left.append (((GapsOk.gap _ _).append ?_).append h2)
  refine GapsOk.append (xs := [_]) (fun d hd ht => ?_) (GapsOk.gap _ _)
  rw [List.mem_singleton.1 hd] at ht
  exact absurd rfl ht

theorem put_objs {pre post th : List Cel} {c : Cel} {j i l S : Nat} (h : (objsOf (pre ++ c :: post)).Perm th) (ht : ¬ c.tag = 1) : (objsOf (putL pre c post j i l S)).Perm (th ++ [⟨j, 1, i, l, S⟩]) := by
  rw [show pre ++ c :: post = pre ++ ([c] ++ post) from rfl, objsOf_append, objsOf_append, objsOf_gaps (xs := [c]) (by simpa using ht), List.nil_append] at h
  rw [putL, objsOf_append, objsOf_append, objsOf_append, objsOf_gap, List.nil_append, objsOf_obj rfl, objsOf_gap]
  refine List.Perm.trans ?_ (h.append_right _)
  rw [List.append_assoc]
  refine List.Perm.append_left _ ?_
  exact List.perm_append_comm

theorem drop_gaps {cs p1 g1 g2 p2 : List Cel} {c : Cel} {g x y : Nat} (h : GapsOk cs) (hd : DropOf cs g p1 g1 c g2 p2 x y) : GapsOk (dropL p1 p2 x y) := by
  obtain ⟨e, -⟩ := hd
  subst e
  exact h.left.append ((GapsOk.gap _ _).append h.right.right)

theorem drop_objs {cs p1 g1 g2 p2 t1 t2 : List Cel} {c c' : Cel} {g x y H : Nat} (hd : DropOf cs g p1 g1 c g2 p2 x y) (htl : Tiles 0 cs H) (h : (objsOf cs).Perm (t1 ++ c' :: t2)) (hc : c'.g = g) : (objsOf (dropL p1 p2 x y)).Perm (t1 ++ t2) := by
  have hm : c' ∈ objsOf cs := h.mem_iff.2 (by simp)
  have hm' := (mem_objsOf.1 hm).1
  obtain ⟨e, h1, h2, h3, h4, -⟩ := hd
  have hcm : c ∈ cs := by rw [e]; simp
  have ec : c' = c := htl.only hm' hcm (by omega)
  subst ec
  have e1 : objsOf cs = objsOf p1 ++ (c' :: objsOf p2) := by
    rw [e, objsOf_append, show g1 ++ c' :: g2 ++ p2 = g1 ++ (c' :: (g2 ++ p2)) by simp, objsOf_append, objsOf_gaps h3, List.nil_append, objsOf_obj h2, objsOf_append, objsOf_gaps h4, List.nil_append]
  rw [e1] at h
  rw [dropL, objsOf_append, objsOf_append, objsOf_gap, List.nil_append]
  have h5 : (c' :: (objsOf p1 ++ objsOf p2)).Perm (c' :: (t1 ++ t2)) := (List.perm_middle.symm.trans h).trans List.perm_middle
  exact h5.cons_inv

theorem take_drop_at {th : List Cel} {k : Nat} {c : Cel} (h : th[k]? = some c) : th = th.take k ++ c :: th.drop (k + 1) := by
  have hk := (List.getElem?_eq_some_iff.1 h).1
  have hc := (List.getElem?_eq_some_iff.1 h).2
  conv => lhs; rw [← List.take_append_drop k th, List.drop_eq_getElem_cons hk, hc]

theorem start_of_mem {cs th : List Cel} {c : Cel} (h : (objsOf cs).Perm th) (hc : c ∈ th) : startOf cs c.g = true := by
  obtain ⟨h1, h2⟩ := mem_objsOf.1 (h.mem_iff.2 hc)
  rw [startOf, List.any_eq_true]
  exact ⟨c, h1, by simp [h2]⟩

theorem flatC_take : ∀ (k : Nat) (xs : List Cel), flatC (xs.take k) = (flatC xs).take (k * 5)
  | 0, xs => by simp [flatC]
  | k + 1, [] => by simp [flatC]
  | k + 1, x :: xs => by
    rw [List.take_succ_cons, flatC, flatC, flatC_take k xs, show (k + 1) * 5 = k * 5 + 5 by omega]
    rfl

theorem flatC_drop : ∀ (k : Nat) (xs : List Cel), flatC (xs.drop k) = (flatC xs).drop (k * 5)
  | 0, xs => by simp
  | k + 1, [] => by simp [flatC]
  | k + 1, x :: xs => by
    rw [List.drop_succ_cons, flatC, flatC_drop k xs, show (k + 1) * 5 = k * 5 + 5 by omega]
    rfl

theorem flatC_one : ∀ (xs : List Cel), ∀ u ∈ flatC xs, u.oneCell' = true
  | [], u, h => by cases h
  | x :: xs, u, h => by
    simp only [flatC, List.mem_cons] at h
    rcases h with rfl | rfl | rfl | rfl | rfl | h
    · rfl
    · rfl
    · rfl
    · rfl
    · rfl
    · exact flatC_one xs u h

/-- The cells of a part of a row, out of its block. -/
theorem row_news {w : World} {gT : Nat} {curT : Array Value} {th : List Cel} (hb : w.heap[gT]? = some (.cells curT 62 (0, 0))) (ht : curT.toList.take (th.length * 5) = flatC th) (s : Nat) {ys : List Value} (hys : ∀ (j : Nat) u, ys[j]? = some u → (flatC th)[s + j]? = some u) :
    ∀ (j : Nat) u, ys[j]? = some u → w.cell? ((⟨gT, s, none⟩ : Addr).add j) = some u := by
  intro j u hu
  have h1 := hys j u hu
  rw [← ht] at h1
  have h2 : curT.toList[s + j]? = some u := by
    rw [List.getElem?_take] at h1
    split at h1
    · exact h1
    · cases h1
  have hadd : (⟨gT, s, none⟩ : Addr).add j = ⟨gT, s + j, none⟩ := by unfold Addr.add; split <;> simp_all
  rw [hadd]
  simpa [World.cell?, hb] using h2

theorem news_take {th : List Cel} {k : Nat} : ∀ (j : Nat) u, (flatC (th.take k))[j]? = some u → (flatC th)[0 + j]? = some u := by
  intro j u h
  rw [flatC_take, List.getElem?_take] at h
  rw [Nat.zero_add]
  split at h
  · exact h
  · cases h

theorem news_drop {th : List Cel} {k : Nat} : ∀ (j : Nat) u, (flatC (th.drop k))[j]? = some u → (flatC th)[k * 5 + j]? = some u := by
  intro j u h
  rwa [flatC_drop, List.getElem?_drop] at h

end Go.Proofs.YtpmiidpbngbclaaGreatDoor
