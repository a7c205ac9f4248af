/-
  Rows of runs, side by side.
-/
import Derived.Test.YtpjcgjbobljaeaaBitsMake
import Derived.BigQuiet
import Derived.Laws.StructEq
namespace Go.Proofs.Ytpjcgjbobljaeaa
open Go.RowKit
set_option linter.unusedVariables false

/-- The value v reads as the runs xs. -/
def RunsAt (w : World) (v : Value) (xs : List (Nat × Nat)) : Prop :=
  ∃ a cap, v = .slice a xs.length cap ∧ ∀ i, i < xs.length → ∃ g, a = some ⟨g, 0, none⟩ ∧ g < w.heap.size ∧
    w.cell? ⟨g, i * 2, none⟩ = some (.int .i64 ((xs.getD i (0, 0)).1 : Nat)) ∧ w.cell? ⟨g, i * 2 + 1, none⟩ = some (.int .i64 ((xs.getD i (0, 0)).2 : Nat))

theorem RunsAt.keep {w w' : World} {v : Value} {xs : List (Nat × Nat)} (h : RunsAt w v xs) {S : Nat → Prop} (k : Keep S w w') (hs : ∀ b, b < w.heap.size → v.ownBlock = some b → ¬ S b) : RunsAt w' v xs := by
  obtain ⟨a, cap, rfl, h⟩ := h
  refine ⟨a, cap, rfl, fun i hi => ?_⟩
  obtain ⟨g, rfl, h1, h2, h3⟩ := h i hi
  exact ⟨g, rfl, Nat.lt_of_lt_of_le h1 k.size, k.cell h2 (hs g h1 rfl), k.cell h3 (hs g h1 rfl)⟩

theorem RunsAt.of_owns {w : World} {base : Nat} {e : TypeId} {v : Value} {xs : List (Nat × Nat)} (h : w.ownsRow base e 2 v xs.length (flat xs)) : RunsAt w v xs := by
  rcases h.2 with ⟨rfl, h0⟩ | ⟨g, cap, cur, rfl, h2, h3, h4, h5, h6, h7⟩
  · exact ⟨none, 0, by rw [h0], fun i hi => by omega⟩
  · refine ⟨_, cap, rfl, fun i hi => ⟨g, rfl, lt_of_heap h3, ?_⟩⟩
    have key : ∀ j, j < xs.length * 2 → w.cell? ⟨g, j, none⟩ = (flat xs)[j]? := fun j hj => by
      rw [← h7, List.getElem?_take_of_lt hj]
      simp [World.cell?, h3]
    have := flat_at xs i hi
    rw [key _ (by omega), key _ (by omega)]
    exact this

theorem RunsAt.of_block {w : World} {g : Nat} {cs : Array Value} {t : TypeId} {xs : List (Nat × Nat)} (h : w.heap[g]? = some (.cells cs t (0, 0))) (hc : cs.toList = flat xs) {cap : Nat} : RunsAt w (.slice (some ⟨g, 0, none⟩) xs.length cap) xs := by
  refine ⟨_, cap, rfl, fun i hi => ⟨g, rfl, lt_of_heap h, ?_⟩⟩
  have key : ∀ j, w.cell? ⟨g, j, none⟩ = (flat xs)[j]? := fun j => by
    rw [← hc]; simp [World.cell?, h]
  rw [key, key]
  exact flat_at xs i hi

theorem run_eq_run (a b c d : Int) (w : World) : (Op.equalIn 10000 40 (.agg #[.int .i64 a, .int .i64 b]) (.agg #[.int .i64 c, .int .i64 d])).run Try.prog w = .ok (a == c && b == d) w := by
  have u3 := Try.underlying3
  have a3 := Try.isAgg3
  have z3 := Try.sizeOf3
  have hS : Try.prog.underlying 40 = some (.struct (Try.prog.fieldsOf 40)) := by kernel_rfl
  rw [show (10000 : Nat) = 9999 + 1 from rfl, run_equalIn_agg w 9999 40 _ _ hS (by kernel_rfl)]
  simp only [Program.fieldsOf, Try.underlying40]
  go_simp
  by_cases h1 : a = c <;> by_cases h2 : b = d <;> simp [h1, h2]

theorem run_neq_run (a b c d : Int) (w : World) : (binOp .neq 40 (.agg #[.int .i64 a, .int .i64 b]) (.agg #[.int .i64 c, .int .i64 d])).run Try.prog w = .ok (.bool (!(a == c && b == d))) w := by
  rw [run_neq_struct, run_eq_run]; rfl

attribute [local go_sem ↓] run_neq_run

theorem drewN_two (w : World) (a b : Nat) : (w.drewN a).drewN b = w.drewN (a + b) := by
  simp [World.drewN, Nat.add_assoc]

/-- The rows agree at i. -/
def sameAt (xs ys : List (Nat × Nat)) (i : Nat) : Prop := xs.getD i (0, 0) = ys.getD i (0, 0)

theorem same_all {xs ys : List (Nat × Nat)} (hl : xs.length = ys.length) (h : ∀ i, i < xs.length → sameAt xs ys i) : xs = ys := by
  apply List.ext_getElem hl
  intro i h1 h2
  have := h i h1
  simpa [sameAt, List.getD_eq_getElem?_getD, List.getElem?_eq_getElem h1, List.getElem?_eq_getElem h2] using this

set_option maxHeartbeats 2000000 in
theorem SameRuns_any (u v : Value) (xs ys : List (Nat × Nat)) (w : World) (hx : RunsAt w u xs) (hy : RunsAt w v ys) (hl : xs.length ≤ 65536) :
    Calls Try.prog 46 #[u, v] w fun e w' => e = .returned (.bool (decide (xs = ys))) ∧ ∃ m, w' = w.drewN m := by
  obtain ⟨a, cap, rfl, hx⟩ := hx
  obtain ⟨b, cap', rfl, hy⟩ := hy
  by_cases hlen : xs.length = ys.length
  · obtain ⟨len, hle⟩ : ∃ len, len = xs.length := ⟨_, rfl⟩
    have HX : Seal _ := ⟨hx⟩
    have HY : Seal _ := ⟨hy⟩
    have HE : Seal _ := ⟨hle⟩
    have HL : Seal _ := ⟨hlen⟩
    rw [← hlen, ← hle]
    rw [← hle] at hl
    clear hx hy hle hlen
    go_enter Try.func46, Try.ntmps46
    go_wp2
    go_loopw [5] (fun x wr => ∃ j : Nat, j ≤ len ∧ x = .int .i64 j ∧ Seal (∀ i, i < j → sameAt xs ys i) ∧ ∃ m, wr = w.drewN m) (fun x _ => len - (intOf x).toNat)
    case atStart => exact ⟨0, by omega, rfl, ⟨fun i h => by omega⟩, 0, rfl⟩
    case round =>
      obtain ⟨j, hj, rfl, hall, m, rfl⟩ := hrel
      by_cases hjl : j < len
      · obtain ⟨g, ga, gl, gx, gy⟩ := HX.out j (by rw [← HE.out]; exact hjl)
        obtain ⟨g', gb, gl', gx', gy'⟩ := HY.out j (by rw [← HL.out, ← HE.out]; exact hjl)
        subst ga gb
        clear HX HY
        obtain ⟨x1, hx1⟩ : ∃ x1, x1 = (xs.getD j (0, 0)).1 := ⟨_, rfl⟩
        obtain ⟨x2, hx2⟩ : ∃ x2, x2 = (xs.getD j (0, 0)).2 := ⟨_, rfl⟩
        obtain ⟨y1, hy1⟩ : ∃ y1, y1 = (ys.getD j (0, 0)).1 := ⟨_, rfl⟩
        obtain ⟨y2, hy2⟩ : ∃ y2, y2 = (ys.getD j (0, 0)).2 := ⟨_, rfl⟩
        rw [← hx1] at gx
        rw [← hx2] at gy
        rw [← hy1] at gx'
        rw [← hy2] at gy'
        have hiff : Seal (sameAt xs ys j ↔ x1 = y1 ∧ x2 = y2) := ⟨by rw [sameAt, hx1, hx2, hy1, hy2, Prod.ext_iff]⟩
        clear hx1 hx2 hy1 hy2
        go_wp2_with fail
        go_quiet (fail)
        by_cases hs : x1 = y1 ∧ x2 = y2
        · have ht : (!(x1 : Int) == (y1 : Int) || !(x2 : Int) == (y2 : Int)) = false := by simp [hs.1, hs.2]
          have HS : Seal _ := ⟨hs⟩
          clear hs
          rw [ht]
          clear ht
          go_wp2
          refine ⟨⟨j + 1, by omega, rfl, ⟨fun i hi => ?_⟩, m + nq, rfl⟩, by simp only [intOf]; omega⟩
          by_cases hij : i < j
          · exact hall.out i hij
          · rw [show i = j by omega]; exact hiff.out.2 HS.out
        · have ht : (!(x1 : Int) == (y1 : Int) || !(x2 : Int) == (y2 : Int)) = true := by
            rw [Bool.or_eq_true]
            by_cases h : x1 = y1
            · exact .inr (by simp; omega)
            · exact .inl (by simp; omega)
          have hne : Seal (xs ≠ ys) := ⟨fun h => hs (hiff.out.1 (by rw [h]; rfl))⟩
          clear hs
          rw [ht]
          clear ht
          go_wp2
          go_ret
          exact ⟨by simp [hne.out], m + nq, drewN_two w m nq⟩
      · have hjn : ¬ (j : Int) < len := by omega
        go_wp2
        have : xs = ys := same_all HL.out (fun i hi => hall.out i (by rw [← HE.out] at hi; omega))
        go_ret
        exact ⟨by simp [this], m, rfl⟩
  · have hne : xs ≠ ys := fun h => hlen (by rw [h])
    go_enter Try.func46, Try.ntmps46
    go_wp2
    go_ret
    exact ⟨by simp [hne], 0, rfl⟩

end Go.Proofs.Ytpjcgjbobljaeaa
