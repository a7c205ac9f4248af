/-
  The document's row of bools, walked: New, in, Lay, May.
-/
import Derived.Test.YtpjcgjbobljaeaaBitsAlive
namespace Go.Proofs.Ytpjcgjbobljaeaa
open Go.RowKit
set_option linter.unusedVariables false

/-- A row of the document's: n bools f, its head at p, its cells at g. -/
structure RefAt (w : World) (p g : Nat) (f : Nat → Bool) (n : Nat) : Prop where
  hp : ∃ cap, w.heap[p]? = some (.cells #[.slice (some ⟨g, 0, none⟩) n cap] 79 (0, 0))
  hg : ∃ cs, w.heap[g]? = some (.cells cs 4 (0, 0)) ∧ n ≤ cs.size ∧ ∀ j, j < n → cs[j]? = some (.bool (f j))
  small : n ≤ 65536

theorem RefAt.keep {S : Nat → Prop} {w w' : World} {p g n : Nat} {f : Nat → Bool} (h : RefAt w p g f n) (k : Keep S w w') (hp : ¬ S p) (hg : ¬ S g) : RefAt w' p g f n := by
  obtain ⟨cap, h1⟩ := h.hp
  obtain ⟨cs, h2, h3, h4⟩ := h.hg
  exact ⟨⟨cap, k.at_ h1 hp⟩, ⟨cs, k.at_ h2 hg, h3, h4⟩, h.small⟩

theorem RefAt.lt_p {w : World} {p g n : Nat} {f : Nat → Bool} (h : RefAt w p g f n) : p < w.heap.size := by obtain ⟨_, h⟩ := h.hp; exact lt_of_heap h

theorem RefAt.lt_g {w : World} {p g n : Nat} {f : Nat → Bool} (h : RefAt w p g f n) : g < w.heap.size := by obtain ⟨_, h, _⟩ := h.hg; exact lt_of_heap h

theorem RefAt.head {w : World} {p g n : Nat} {f : Nat → Bool} (h : RefAt w p g f n) : ∃ cap, w.cell? ⟨p, 0, none⟩ = some (.slice (some ⟨g, 0, none⟩) n cap) := by
  obtain ⟨cap, h1⟩ := h.hp
  exact ⟨cap, cell_of_one h1⟩

theorem RefAt.ne {w : World} {p g n : Nat} {f : Nat → Bool} (h : RefAt w p g f n) : p ≠ g := by
  obtain ⟨_, h1⟩ := h.hp
  obtain ⟨_, h2, _⟩ := h.hg
  intro e
  subst e
  rw [h1] at h2
  injection h2 with h2
  injection h2 with _ h3
  exact absurd h3 (by decide)

theorem RefAt.bit {w : World} {p g n : Nat} {f : Nat → Bool} (h : RefAt w p g f n) {j : Nat} (hj : j < n) : w.cell? ⟨g, j, none⟩ = some (.bool (f j)) := by
  obtain ⟨cs, h2, h3, h4⟩ := h.hg
  simp only [World.cell?, h2]
  exact h4 j hj

theorem RefAt.free {w : World} {p g n : Nat} {f : Nat → Bool} (h : RefAt w p g f n) (j : Nat) : w.frozen? ⟨g, j, none⟩ = false := by
  obtain ⟨cs, h2, h3, h4⟩ := h.hg
  exact free_of_block h2 j

theorem RefAt.store {w : World} {p g n : Nat} {f : Nat → Bool} (h : RefAt w p g f n) {j : Nat} (hj : j < n) (t : Bool) : RefAt (w.setCell ⟨g, j, none⟩ (.bool t)) p g (runSet f j 1 t) n := by
  obtain ⟨cap, h1⟩ := h.hp
  obtain ⟨cs, h2, h3, h4⟩ := h.hg
  refine ⟨⟨cap, (Below.heap_setCell _ _ _ _ h.ne).trans h1⟩, ⟨_, block_setCell h2 _, by simpa using h3, fun i hi => ?_⟩, h.small⟩
  rw [Array.getElem?_setIfInBounds, runSet]
  by_cases e : j = i
  · subst e
    rw [if_pos rfl, if_pos (by omega), if_pos ⟨Nat.le_refl _, by omega⟩]
  · rw [if_neg e, if_neg (by omega)]
    exact h4 i hi

theorem rin_any (i k : Int) (n p g : Nat) (f : Nat → Bool) (w : World) (hb : RefAt w p g f n) :
    Calls Try.prog 64 #[.pointer (some ⟨p, 0, none⟩), .int .i64 i, .int .i64 k] w fun e w' => e = .returned (.bool (okRun n i k)) ∧ ∃ m, w' = w.drewN m := by
  obtain ⟨cap, hc⟩ := hb.head
  have hn := hb.small
  by_cases h1 : 0 ≤ i
  · by_cases h2 : 0 ≤ k
    · by_cases h3 : i ≤ n
      · have hok : Seal (okRun n i k = decide (k ≤ (n : Int) - i)) := ⟨by simp [okRun, h1, h2, h3]⟩
        by_cases h4 : k ≤ (n : Int) - i
        · go_enter Try.func64, Try.ntmps64
          go_wp2
          go_ret
          exact ⟨by rw [hok.out]; simp [h4], 0, rfl⟩
        · go_enter Try.func64, Try.ntmps64
          go_wp2
          go_ret
          exact ⟨by rw [hok.out]; simp [h4], 0, rfl⟩
      · have hok : Seal (okRun n i k = false) := ⟨by simp [okRun, h3]⟩
        go_enter Try.func64, Try.ntmps64
        go_wp2
        go_ret
        exact ⟨by rw [hok.out]; rfl, 0, rfl⟩
    · have hok : Seal (okRun n i k = false) := ⟨by simp [okRun, h2]⟩
      go_enter Try.func64, Try.ntmps64
      go_wp2
      go_ret
      exact ⟨by rw [hok.out]; rfl, 0, rfl⟩
  · have hok : Seal (okRun n i k = false) := ⟨by simp [okRun, h1]⟩
    go_enter Try.func64, Try.ntmps64
    go_wp2
    go_ret
    exact ⟨by rw [hok.out]; rfl, 0, rfl⟩

theorem Try.infoBool : (Try.prog.info? 4).map (fun i => (i.zero, i.size, i.bytes)) = some (some (.bool false), 1, 1) := by kernel_rfl

theorem Try.underlyingBools : Try.prog.underlying 77 = some (.slice 4) := by kernel_rfl

set_option maxHeartbeats 2000000 in
theorem RNew_at (n : Nat) (w : World) (h : n ≤ 65536) : Calls Try.prog 14 #[.int .i64 (n : Nat)] w fun e w' =>
      ∃ p g, e = .returned (.pointer (some ⟨p, 0, none⟩)) ∧ w.heap.size ≤ p ∧ w.heap.size ≤ g ∧ RefAt w' p g (fun _ => false) n ∧ Keep Nope w w' := by
  go_enter Try.func14, Try.ntmps14
  go_wp2_with (at_make; obtain ⟨i0, hi, hz0, hz1, hz2⟩ := info_parts Try.infoBool; go_loud (refine wpList_make_full _ rfl (.tmp 3) (.tmp 3) 77 rfl w.heap.size 4 i0 (.bool false) 1 Try.underlyingBools hi hz0 hz1 .i64 .i64 n n n rfl rfl rfl rfl (by rw [hz2]; omega) (by unfold maxLen; omega) (Nat.le_refl _) ?_); intro w1 hown hgrow; clear hi hz0 hz1 hz2)
  have hk : Keep Nope w w1 := (Keep.refl Nope w).grown hgrow (fun _ e => by cases e)
  have hr : RefAt (w1.alloc (.cells #[.slice (some ⟨w.heap.size, 0, none⟩) n n] 79)) w1.heap.size w.heap.size (fun _ => false) n := by
    rcases hown.2 with ⟨e, -⟩ | ⟨g, cap, cur, e, -, hheap, hnc, -, hsz, htake⟩
    · cases e
    · injection e with e1 _ e2
      injection e1 with e1
      injection e1 with e1 _
      subst e1 e2
      refine ⟨⟨n, World.alloc_heap_new w1 _⟩, ⟨cur, ((Keep.refl Nope w1).alloc _).at_ hheap (fun h => h), by omega, fun j hj => ?_⟩, h⟩
      have h9 : (cur.toList.take (n * 1))[j]? = some (.bool false) := by
        rw [htake, show (Value.bool false).cells = #[Value.bool false] from rfl, toList_madeCells_one, List.getElem?_replicate, if_pos (by omega)]
      rw [List.getElem?_take_of_lt (by omega)] at h9
      simpa using h9
  go_ret
  exact ⟨_, w.heap.size, rfl, hk.size, Nat.le_refl _, hr, hk.alloc _⟩

theorem runSet_zero (f : Nat → Bool) (a : Nat) (t : Bool) : runSet f a 0 t = f := by
  funext j
  rw [runSet, if_neg (by omega)]

theorem runSet_one (f : Nat → Bool) (a k : Nat) (t : Bool) : runSet (runSet f a k t) (a + k) 1 t = runSet f a (k + 1) t := by
  funext j
  simp only [runSet]
  by_cases h1 : a + k ≤ j ∧ j < a + k + 1
  · rw [if_pos h1, if_pos (by omega)]
  · rw [if_neg h1]
    by_cases h2 : a ≤ j ∧ j < a + k
    · rw [if_pos h2, if_pos (by omega)]
    · rw [if_neg h2, if_neg (by omega)]

set_option maxHeartbeats 2000000 in
theorem Lay_int (i k : Int) (t : Bool) (n p g : Nat) (f : Nat → Bool) (w : World) (hb : RefAt w p g f n) :
    Calls Try.prog 48 #[.pointer (some ⟨p, 0, none⟩), .int .i64 i, .int .i64 k, .bool t] w fun e w' =>
      e = .returned (.int .i64 (errV (okRun n i k))) ∧ Keep (fun b => b = g) w w' ∧ RefAt w' p g (setF f n i k t) n := by
  by_cases h : 0 ≤ i ∧ 0 ≤ k ∧ i ≤ n ∧ k ≤ n - i
  · have ho : okRun n i k = true := by simpa [okRun] using h
    obtain ⟨a, rfl⟩ := Int.eq_ofNat_of_zero_le h.1
    obtain ⟨b, rfl⟩ := Int.eq_ofNat_of_zero_le h.2.1
    have hab : a + b ≤ n := by omega
    have hs := hb.small
    rw [setF, ho, if_pos rfl, Int.toNat_natCast, Int.toNat_natCast]
    have HO : Seal _ := ⟨ho⟩
    clear h ho
    go_enter Try.func48, Try.ntmps48
    go_wp2_with fail
    refine (rin_any _ _ n p g f w hb).mono ?_
    rintro e w' ⟨rfl, m, rfl⟩
    rw [HO.out]
    go_wp2_with fail
    go_loopw [9] (fun x wr => ∃ j : Nat, j ≤ b ∧ x = .int .i64 ((a + j : Nat) : Int) ∧ RefAt wr p g (runSet f a j t) n ∧ Keep (fun b => b = g) w wr) (fun x _ => a + b - (intOf x).toNat)
    case atStart => exact ⟨0, by omega, rfl, by rw [runSet_zero]; exact hb.keep (Keep.of_drewN (S := Nope) m) (fun h => h) (fun h => h), Keep.of_drewN m⟩
    case round =>
      obtain ⟨j, hj, rfl, hr, hk⟩ := hrel
      obtain ⟨cap, hc⟩ := hr.head
      by_cases hjb : j < b
      · have hfr := hr.free (a + j)
        have hcell := hr.bit (show a + j < n by omega)
        have ht : ((a + j : Nat) : Int) < (a : Int) + (b : Int) := by omega
        go_wp2
        refine ⟨⟨j + 1, by omega, by go_num, ?_, ?_⟩, by simp only [intOf]; omega⟩
        · rw [← runSet_one]; exact hr.store (by omega) t
        · exact hk.setCell (fun _ => rfl) _
      · have ht : ¬ ((a + j : Nat) : Int) < (a : Int) + (b : Int) := by omega
        have hjb' : j = b := by omega
        subst hjb'
        go_wp2
        go_ret
        exact ⟨rfl, hk, hr⟩
  · have ho : okRun n i k = false := by simpa [okRun] using h
    rw [setF, ho]
    have HO : Seal _ := ⟨ho⟩
    clear h ho
    go_enter Try.func48, Try.ntmps48
    go_wp2_with fail
    refine (rin_any _ _ n p g f w hb).mono ?_
    rintro e w' ⟨rfl, m, rfl⟩
    rw [HO.out]
    go_wp2
    go_ret
    exact ⟨by rfl, Keep.of_drewN m, hb.keep (Keep.of_drewN (S := Nope) m) (fun h => h) (fun h => h)⟩

end Go.Proofs.Ytpjcgjbobljaeaa

