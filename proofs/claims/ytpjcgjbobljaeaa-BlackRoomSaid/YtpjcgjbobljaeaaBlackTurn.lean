/-
  Turn of package black.
-/
import Derived.Test.YtpjcgjbobljaeaaBlackMake
namespace Go.Proofs.Ytpjcgjbobljaeaa
open Go.RowKit
set_option linter.unusedVariables false

theorem BTurn_nil (w : World) : Calls Try.prog 35 #[.pointer none] w fun e w' => e = .returned (.int .i64 0) ∧ w = w' := by
  go_enter Try.func35, Try.ntmps35
  go_wp2
  go_ret
  exact ⟨rfl, rfl⟩

/-- What Turn leaves: the old row is the second one; the first one is new. -/
def TurnedBlack (w : World) (b p0 q0 q1 n : Nat) (f0 f1 : Nat → Bool) (e : Ending) (w' : World) : Prop :=
  ∃ p q, e = .returned (.int .i64 (((fromB (fun j => f0 j || f1 j) n 0).length : Int) - (fromB f0 n 0).length)) ∧ w.heap.size ≤ p ∧ w.heap.size ≤ q ∧ BlackAt w' b p q p0 q0 (fun _ => false) f0 n ∧ Keep (fun i => i = b) w w'

set_option maxHeartbeats 4000000 in
theorem BTurn_at (b p0 q0 p1 q1 n : Nat) (f0 f1 : Nat → Bool) (w : World) (h : BlackAt w b p0 q0 p1 q1 f0 f1 n) (hbq : b ≠ q0) (hbp : b ≠ p0) :
    Calls Try.prog 35 #[.pointer (some ⟨b, 0, none⟩)] w (TurnedBlack w b p0 q0 q1 n f0 f1) := by
  have hn := h.h0.small'
  have lq0 := h.h0.lt_q'
  have lb := lt_of_heap h.hb
  go_enter Try.func35, Try.ntmps35
  go_wp2_with fail
  refine (BCount_at b p0 q0 p1 q1 n f0 f1 w h).mono ?_
  rintro e w1 ⟨rfl, k1⟩
  have h1 := h.keepN k1
  obtain ⟨c0, c1, c2⟩ := cell_of_three h1.hb
  obtain ⟨l1, hl1⟩ : ∃ l, (fromB (fun j => f0 j || f1 j) n 0).length = l := ⟨_, rfl⟩
  have hl1n : l1 ≤ n := by rw [← hl1]; exact fromB_len _ _ _
  have HL1 : Seal _ := ⟨hl1⟩
  rw [hl1]
  clear hl1
  go_wp2_with fail
  refine (New_yes n w1 hn).mono ?_
  rintro e w2 ⟨p, q, rfl, hp, hq, b2, k2⟩
  have h2 := h1.keepN k2
  obtain ⟨d0, d1, d2⟩ := cell_of_three h2.hb
  have fr := free_of_block h2.hb
  have fr0 := fr 0
  have fr1 := fr 1
  clear c0 c1 c2 fr
  go_wp2_with fail
  go_region
  obtain ⟨W3, hW3⟩ : ∃ W3, W3 = ((w2.setCell ⟨b, 1, none⟩ (.pointer (some ⟨p0, 0, none⟩))).setCell ⟨b, 0, none⟩ (.pointer (some ⟨p, 0, none⟩))).drew := ⟨_, rfl⟩
  rw [← hW3]
  have kE : Keep (fun i => i = b) w2 W3 := by rw [hW3]; exact (((Keep.refl (fun i => i = b) w2).setCell (fun _ => rfl) _).setCell (fun _ => rfl) _).drew
  have t1 : W3.heap[b]? = some (.cells #[.pointer (some ⟨p, 0, none⟩), .pointer (some ⟨p0, 0, none⟩), .int .i64 (n : Nat)] 94 (0, 0)) := by
    rw [hW3]; exact block_setCell (block_setCell h2.hb (j := 1) (.pointer (some ⟨p0, 0, none⟩))) (j := 0) (.pointer (some ⟨p, 0, none⟩))
  have s1 := k1.size
  have s2 := k2.size
  have h3 : BlackAt W3 b p q p0 q0 (fun _ => false) f0 n := ⟨t1, b2.keep kE (by omega) (by omega), h2.h0.keep kE (fun e => hbp e.symm) (fun e => hbq e.symm), by omega⟩
  clear d0 d1 d2 fr0 fr1 hW3
  go_wp2_with fail
  refine (BCount_at b p q p0 q0 n (fun _ => false) f0 W3 h3).mono ?_
  rintro e w4 ⟨rfl, k4⟩
  rw [show (fun j => false || f0 j) = f0 from funext fun j => Bool.false_or _]
  obtain ⟨l2, hl2⟩ : ∃ l, (fromB f0 n 0).length = l := ⟨_, rfl⟩
  have hl2n : l2 ≤ n := by rw [← hl2]; exact fromB_len _ _ _
  have HL2 : Seal _ := ⟨hl2⟩
  rw [hl2]
  clear hl2
  go_wp2
  have K : Keep (fun i => i = b) w w4 := (((k1.of_not (fun i => i = b)).trans k2 (fun _ _ h => h.elim)).trans kE (fun _ _ h => h)).trans k4 (fun _ _ h => h.elim)
  refine bodyPost_ret (v := .int .i64 ((l1 : Int) - l2)) (by simp [results, Try.results35, go_sem]) rfl ⟨p, q, by rw [HL1.out, HL2.out], by omega, by omega, h3.keepN k4, K⟩

end Go.Proofs.Ytpjcgjbobljaeaa
