/-
  A step of a script, of a row and of the document's.
-/
import Derived.Test.YtpjcgjbobljaeaaBitsRef
import Derived.Deep.RegionHeld3
namespace Go.Proofs.Ytpjcgjbobljaeaa
open Go.RowKit
set_option linter.unusedVariables false

/-- The bits behind a step. -/
def doF (f : Nat → Bool) (n : Nat) (d a k : Int) : Nat → Bool :=
  if d = 0 then setF f n a 1 true else if d = 1 then setF f n a 1 false else if d = 2 then setF f n a k true else if d = 3 then setF f n a k false else f

theorem doF_0 (f : Nat → Bool) (n : Nat) (a k : Int) : doF f n 0 a k = setF f n a 1 true := rfl

theorem doF_1 (f : Nat → Bool) (n : Nat) (a k : Int) : doF f n 1 a k = setF f n a 1 false := rfl

theorem doF_2 (f : Nat → Bool) (n : Nat) (a k : Int) : doF f n 2 a k = setF f n a k true := rfl

theorem doF_3 (f : Nat → Bool) (n : Nat) (a k : Int) : doF f n 3 a k = setF f n a k false := rfl

theorem doF_ne {f : Nat → Bool} {n : Nat} {d a k : Int} (h0 : ¬ d = 0) (h1 : ¬ d = 1) (h2 : ¬ d = 2) (h3 : ¬ d = 3) : doF f n d a k = f := by
  rw [doF, if_neg h0, if_neg h1, if_neg h2, if_neg h3]

theorem RefAt.ne_bits {w : World} {p q rp g n m : Nat} {f h : Nat → Bool} (hb : BitsAt w p q f n) (hr : RefAt w rp g h m) : p ≠ g ∧ q ≠ g ∧ rp ≠ q ∧ p ≠ rp := by
  obtain ⟨ws, hw, -⟩ := hb
  obtain ⟨_, h1⟩ := hw.hp
  obtain ⟨_, h2, -⟩ := hw.hq
  obtain ⟨_, h3⟩ := hr.hp
  obtain ⟨_, h4, -⟩ := hr.hg
  refine ⟨fun e => ?_, fun e => ?_, fun e => ?_, fun e => ?_⟩
  · rw [e, h4] at h1; injection h1 with h1; injection h1 with _ h1; exact absurd h1 (by decide)
  · rw [e, h4] at h2; injection h2 with h2; injection h2 with _ h2; exact absurd h2 (by decide)
  · rw [e, h2] at h3; injection h3 with h3; injection h3 with _ h3; exact absurd h3 (by decide)
  · rw [e, h3] at h1; injection h1 with h1; injection h1 with _ h1; exact absurd h1 (by decide)

theorem errV_beq (b : Bool) : ((errV b : Int) == errV b) = true := by simp

set_option maxHeartbeats 4000000 in
theorem does_any (d a k : Int) (p q rp g n : Nat) (f h : Nat → Bool) (w : World) (hb : BitsAt w p q f n) (hr : RefAt w rp g h n) :
    Calls Try.prog 13 #[.pointer (some ⟨p, 0, none⟩), .pointer (some ⟨rp, 0, none⟩), .agg #[.int .i64 d, .int .i64 a, .int .i64 k]] w fun e w' =>
      e = .returned (.bool true) ∧ Keep (fun b => b = q ∨ b = g) w w' ∧ BitsAt w' p q (doF f n d a k) n ∧ RefAt w' rp g (doF h n d a k) n := by
  obtain ⟨n1, n2, n3, n4⟩ := RefAt.ne_bits hb hr
  have lp := hb.lt_p'
  have lq := hb.lt_q'
  have lr := hr.lt_p
  have lg := hr.lt_g
  obtain ⟨w0, hw0⟩ : ∃ w0, w0 = w.alloc (.cells #[.int .i64 d, .int .i64 a, .int .i64 k] 32) := ⟨_, rfl⟩
  have k0 : Keep Nope w w0 := by rw [hw0]; exact (Keep.refl _ w).alloc _
  have h0 : w0.heap[w.heap.size]? = some (.cells #[.int .i64 d, .int .i64 a, .int .i64 k] 32 (0, 0)) := by rw [hw0]; exact World.alloc_heap_new w _
  have c0 : w0.cell? ⟨w.heap.size, 0, none⟩ = some (.int .i64 d) := by simp [World.cell?, h0]
  have c1 : w0.cell? ⟨w.heap.size, 1, none⟩ = some (.int .i64 a) := by simp [World.cell?, h0]
  have c2 : w0.cell? ⟨w.heap.size, 2, none⟩ = some (.int .i64 k) := by simp [World.cell?, h0]
  have hb0 := hb.keep k0 (fun h => h) (fun h => h)
  have hr0 := hr.keep k0 (fun h => h) (fun h => h)
  have HW0 : Seal _ := ⟨hw0⟩
  have nq : ¬ w.heap.size = q := by omega
  have ng : ¬ w.heap.size = g := by omega
  by_cases d0 : d = 0
  · subst d0
    rw [doF_0, doF_0]
    go_enter Try.func13, Try.ntmps13
    go_wp2_with fail
    rw [← hw0]
    clear hw0 h0
    go_region_held3 (fun w' => w'.cell? ⟨w.heap.size, 1, none⟩ = some (.int .i64 a) ∧ w'.cell? ⟨w.heap.size, 2, none⟩ = some (.int .i64 k)) (first | go_keep | exact ⟨k1.cell c1 nq, k1.cell c2 nq⟩ | exact ⟨k2.cell (k1.cell c1 nq) ng, k2.cell (k1.cell c2 nq) ng⟩)
      (first
        | (go_at_call 28; refine (Set_int a n p q f _ (hb0.keep (S := Nope) (by first | exact Keep.refl Nope _ | exact (Keep.refl Nope _).drew | exact (Keep.refl Nope _).drew.drew) (fun h => h) (fun h => h))).mono ?_; rintro e w1 ⟨rfl, k1, b1⟩)
        | (go_at_call 48; refine (Lay_int a 1 true n rp g h _ (RefAt.keep (hr0.keep (S := fun b => b = q) (by first | exact k1 | exact (Keep.refl _ _).drew.trans k1 (fun _ _ h => h)) n3 n2.symm) (S := Nope) (by first | exact Keep.refl Nope _ | exact (Keep.refl Nope _).drew | exact (Keep.refl Nope _).drew.drew) (fun h => h) (fun h => h))).mono ?_; rintro e w2 ⟨rfl, k2, r2⟩))
    go_wp2
    go_ret
    refine ⟨rfl, ?_, b1.keep k2 n1 n2, r2⟩
    exact (((k0.drew.of_not (fun b => b = q ∨ b = g)).trans k1 (fun _ _ h => .inl h)).trans k2 (fun _ _ h => .inr h))
  · skip
    by_cases d1 : d = 1
    · subst d1
      rw [doF_1, doF_1]
      go_enter Try.func13, Try.ntmps13
      go_wp2_with fail
      rw [← hw0]
      clear hw0 h0
      go_region_held3 (fun w' => w'.cell? ⟨w.heap.size, 1, none⟩ = some (.int .i64 a) ∧ w'.cell? ⟨w.heap.size, 2, none⟩ = some (.int .i64 k)) (first | go_keep | exact ⟨k1.cell c1 nq, k1.cell c2 nq⟩ | exact ⟨k2.cell (k1.cell c1 nq) ng, k2.cell (k1.cell c2 nq) ng⟩)
        (first
          | (go_at_call 29; refine (Clear_int a n p q f _ (hb0.keep (S := Nope) (by first | exact Keep.refl Nope _ | exact (Keep.refl Nope _).drew | exact (Keep.refl Nope _).drew.drew) (fun h => h) (fun h => h))).mono ?_; rintro e w1 ⟨rfl, k1, b1⟩)
          | (go_at_call 48; refine (Lay_int a 1 false n rp g h _ (RefAt.keep (hr0.keep (S := fun b => b = q) (by first | exact k1 | exact (Keep.refl _ _).drew.trans k1 (fun _ _ h => h)) n3 n2.symm) (S := Nope) (by first | exact Keep.refl Nope _ | exact (Keep.refl Nope _).drew | exact (Keep.refl Nope _).drew.drew) (fun h => h) (fun h => h))).mono ?_; rintro e w2 ⟨rfl, k2, r2⟩))
      go_wp2
      go_ret
      refine ⟨rfl, ?_, b1.keep k2 n1 n2, r2⟩
      exact (((k0.drew.of_not (fun b => b = q ∨ b = g)).trans k1 (fun _ _ h => .inl h)).trans k2 (fun _ _ h => .inr h))
    · skip
      by_cases d2 : d = 2
      · subst d2
        rw [doF_2, doF_2]
        go_enter Try.func13, Try.ntmps13
        go_wp2_with fail
        rw [← hw0]
        clear hw0 h0
        go_region_held3 (fun w' => w'.cell? ⟨w.heap.size, 1, none⟩ = some (.int .i64 a) ∧ w'.cell? ⟨w.heap.size, 2, none⟩ = some (.int .i64 k)) (first | go_keep | exact ⟨k1.cell c1 nq, k1.cell c2 nq⟩ | exact ⟨k2.cell (k1.cell c1 nq) ng, k2.cell (k1.cell c2 nq) ng⟩)
          (first
            | (go_at_call 16; refine (SetRun_int a k n p q f _ (hb0.keep (S := Nope) (by first | exact Keep.refl Nope _ | exact (Keep.refl Nope _).drew | exact (Keep.refl Nope _).drew.drew) (fun h => h) (fun h => h))).mono ?_; rintro e w1 ⟨rfl, k1, b1⟩)
            | (go_at_call 48; refine (Lay_int a k true n rp g h _ (RefAt.keep (hr0.keep (S := fun b => b = q) (by first | exact k1 | exact (Keep.refl _ _).drew.trans k1 (fun _ _ h => h)) n3 n2.symm) (S := Nope) (by first | exact Keep.refl Nope _ | exact (Keep.refl Nope _).drew | exact (Keep.refl Nope _).drew.drew) (fun h => h) (fun h => h))).mono ?_; rintro e w2 ⟨rfl, k2, r2⟩))
        go_wp2
        go_ret
        refine ⟨rfl, ?_, b1.keep k2 n1 n2, r2⟩
        exact (((k0.drew.of_not (fun b => b = q ∨ b = g)).trans k1 (fun _ _ h => .inl h)).trans k2 (fun _ _ h => .inr h))
      · skip
        by_cases d3 : d = 3
        · subst d3
          rw [doF_3, doF_3]
          go_enter Try.func13, Try.ntmps13
          go_wp2_with fail
          rw [← hw0]
          clear hw0 h0
          go_region_held3 (fun w' => w'.cell? ⟨w.heap.size, 1, none⟩ = some (.int .i64 a) ∧ w'.cell? ⟨w.heap.size, 2, none⟩ = some (.int .i64 k)) (first | go_keep | exact ⟨k1.cell c1 nq, k1.cell c2 nq⟩ | exact ⟨k2.cell (k1.cell c1 nq) ng, k2.cell (k1.cell c2 nq) ng⟩)
            (first
              | (go_at_call 17; refine (ClearRun_int a k n p q f _ (hb0.keep (S := Nope) (by first | exact Keep.refl Nope _ | exact (Keep.refl Nope _).drew | exact (Keep.refl Nope _).drew.drew) (fun h => h) (fun h => h))).mono ?_; rintro e w1 ⟨rfl, k1, b1⟩)
              | (go_at_call 48; refine (Lay_int a k false n rp g h _ (RefAt.keep (hr0.keep (S := fun b => b = q) (by first | exact k1 | exact (Keep.refl _ _).drew.trans k1 (fun _ _ h => h)) n3 n2.symm) (S := Nope) (by first | exact Keep.refl Nope _ | exact (Keep.refl Nope _).drew | exact (Keep.refl Nope _).drew.drew) (fun h => h) (fun h => h))).mono ?_; rintro e w2 ⟨rfl, k2, r2⟩))
          go_wp2
          go_ret
          refine ⟨rfl, ?_, b1.keep k2 n1 n2, r2⟩
          exact (((k0.drew.of_not (fun b => b = q ∨ b = g)).trans k1 (fun _ _ h => .inl h)).trans k2 (fun _ _ h => .inr h))
        · rw [doF_ne d0 d1 d2 d3, doF_ne d0 d1 d2 d3]
          go_enter Try.func13, Try.ntmps13
          go_wp2
          go_ret
          exact ⟨rfl, by rw [← HW0.out]; exact k0.of_not _, by rw [← HW0.out]; exact hb0, by rw [← HW0.out]; exact hr0⟩

end Go.Proofs.Ytpjcgjbobljaeaa
