/-
  The chapter's example.
-/
import Derived.Test.YtpjcgjbobljaeaaBlackHit
import Derived.Test.YtpjcgjbobljaeaaBlackRef2
namespace Go.Proofs.Ytpjcgjbobljaeaa
open Go.RowKit
set_option linter.unusedVariables false

theorem ints_block {w : World} {g : Nat} {cs : Array Value} {t : TypeId} {xs : List Nat} (h : w.heap[g]? = some (.cells cs t (0, 0))) (hc : cs.toList = natVs xs) (hb : ∀ i, xs.getD i 0 ≤ 65536) {cap : Nat} :
    IntsAt 1 w (.slice (some ⟨g, 0, none⟩) xs.length cap) xs.length (fun i _ => (xs.getD i 0 : Nat)) := by
  refine ⟨_, cap, rfl, fun i hi => ⟨g, 0, rfl, lt_of_heap h, fun j hj => ?_⟩⟩
  have hb' := hb i
  refine ⟨?_, by show (-9223372036854775808 : Int) ≤ (xs.getD i 0 : Nat); omega, by show ((xs.getD i 0 : Nat) : Int) ≤ 9223372036854775807; omega⟩
  rw [Nat.zero_add, Nat.mul_one, show i + j = i by omega, ← natVs_at xs i hi, ← hc]
  simp [World.cell?, h]

def none12 : Nat → Bool := fun _ => false
def hit25 : Nat → Bool := fun j => none12 j || hitB (fun i => (([2, 5] : List Nat).getD i 0 : Nat)) 2 j
def hit5 : Nat → Bool := fun j => none12 j || hitB (fun i => (([5] : List Nat).getD i 0 : Nat)) 1 j

theorem al12a : firstI (fun j => hit25 j || none12 j) 8 0 8 2 = some 0 := by decide

theorem al12b : firstI (fun j => hit25 j || none12 j) 8 1 8 2 = some 3 := by decide

theorem al12c : firstI (fun j => hit25 j || none12 j) 8 0 8 3 = none := by decide

theorem al12d : (fromB (fun j => hit25 j || none12 j) 8 0).length = 2 := by decide

theorem al12e : (fromB hit25 8 0).length = 2 := by decide

theorem al12f : (fromB (fun j => hit5 j || hit25 j) 8 0).length = 2 := by decide

theorem al12g : fromB hit5 8 0 = [5] := by decide

theorem al12h : fromB (fun j => none12 j || hit5 j) 8 0 = [5] := by decide

theorem ok25 : okHit 8 (fun i => (([2, 5] : List Nat).getD i 0 : Nat)) 2 = true := by decide

theorem ok5 : okHit 8 (fun i => (([5] : List Nat).getD i 0 : Nat)) 1 = true := by decide

theorem no08 : okHit 8 (fun i => (([0, 8] : List Nat).getD i 0 : Nat)) 2 = false := by decide

set_option maxRecDepth 20000 in
set_option maxHeartbeats 8000000 in
theorem alive12 (w : World) : Calls Try.prog 31 #[] w fun e w' => e = .returned (.bool true) ∧ Keep Nope w w' := by
  go_enter Try.func31, Try.ntmps31
  go_wp2_with fail
  refine (BNew_yes 8 w (by omega)).mono ?_
  rintro e w1 ⟨b, p0, q0, p1, q1, rfl, hb, hq0, hq1, B1, k1⟩
  go_wp2_with fail
  have I1 := ints_block (cap := 2) (World.alloc_heap_new w1 (.cells #[.int .i64 2, .int .i64 5] 3)) (show _ = natVs [2, 5] from rfl) (by intro i; rcases i with _ | _ | i <;> simp)
  have A1 := (Keep.refl Nope w1).alloc (.cells #[.int .i64 2, .int .i64 5] 3)
  have q0l := B1.h0.lt_q'
  refine (Hit_at _ 2 _ b p0 q0 p1 q1 8 _ _ _ I1 (B1.keepN A1) (by intro _ e; have e := Option.some.inj e; dsimp only at e; omega) (by omega)).mono ?_
  rintro e w2 h2
  rw [HitPost, ok25, if_pos rfl] at h2
  obtain ⟨rfl, k2, B2⟩ := h2
  have HB2 : BlackAt w2 b p0 q0 p1 q1 hit25 none12 8 := B2
  clear B2 I1
  go_wp2_with fail
  refine (First_int 0 8 2 b p0 q0 p1 q1 8 _ _ _ HB2).mono ?_
  rintro e w3 ⟨rfl, k3⟩
  rw [al12a]
  have HB3 := HB2.keepN k3
  dsimp only [optV, Option.getD_some, Option.isSome_some]
  go_wp2_with fail
  refine (First_int 1 8 2 b p0 q0 p1 q1 8 _ _ _ HB3).mono ?_
  rintro e w4 ⟨rfl, k4⟩
  rw [al12b]
  have HB4 := HB3.keepN k4
  dsimp only [optV, Option.getD_some, Option.isSome_some]
  go_wp2_with fail
  refine (First_int 0 8 3 b p0 q0 p1 q1 8 _ _ _ HB4).mono ?_
  rintro e w5 ⟨rfl, k5⟩
  rw [al12c]
  have HB5 := HB4.keepN k5
  dsimp only [optV, Option.getD_none, Option.isSome_none]
  go_wp2_with fail
  obtain ⟨a1, a2, -, -, -, -⟩ := HB5.apart
  refine (BTurn_at b p0 q0 p1 q1 8 _ _ _ HB5 a1 a2).mono ?_
  rintro e w6 ⟨p6, q6, rfl, hp6, hq6, B6, k6⟩
  rw [al12d, al12e]
  have HB6 : BlackAt w6 b p6 q6 p0 q0 none12 hit25 8 := B6
  clear B6
  have ow : w.heap.size ≤ q6 := by have := k1.size; have := A1.size; have := k2.size; have := k3.size; have := k4.size; have := k5.size; omega
  go_wp2_with fail
  have I6 := ints_block (cap := 1) (World.alloc_heap_new w6 (.cells #[.int .i64 5] 3)) (show _ = natVs [5] from rfl) (by intro i; rcases i with _ | i <;> simp)
  have A6 := (Keep.refl Nope w6).alloc (.cells #[.int .i64 5] 3)
  have q6l := HB6.h0.lt_q'
  refine (Hit_at _ 1 _ b p6 q6 p0 q0 8 _ _ _ I6 (HB6.keepN A6) (by intro _ e; have e := Option.some.inj e; dsimp only at e; omega) (by omega)).mono ?_
  rintro e w7 h7
  rw [HitPost, ok5, if_pos rfl] at h7
  obtain ⟨rfl, k7, B7⟩ := h7
  have HB7 : BlackAt w7 b p6 q6 p0 q0 hit5 hit25 8 := B7
  clear B7 I6
  go_wp2_with fail
  obtain ⟨a3, a4, -, -, -, -⟩ := HB7.apart
  refine (BTurn_at b p6 q6 p0 q0 8 _ _ _ HB7 a3 a4).mono ?_
  rintro e w8 ⟨p8, q8, rfl, hp8, hq8, B8, k8⟩
  rw [al12f, al12g]
  have HB8 : BlackAt w8 b p8 q8 p6 q6 none12 hit5 8 := B8
  clear B8
  have ow8 : w.heap.size ≤ q8 := by have := k1.size; have := A1.size; have := k2.size; have := k3.size; have := k4.size; have := k5.size; have := k6.size; have := A6.size; have := k7.size; omega
  go_wp2_with fail
  refine (BNew_no (-1) w8 (by omega)).mono ?_
  rintro e w9 ⟨rfl, k9⟩
  have HB9 := HB8.keepN k9
  go_wp2_with fail
  refine (List_at b p8 q8 p6 q6 8 _ _ _ HB9).mono ?_
  rintro e w10 ⟨v10, rfl, o10, k10⟩
  rw [al12h] at o10
  have HB10 := HB9.keepN k10
  go_wp2_with fail
  have A10 := (Keep.refl Nope w10).alloc (.cells #[.int .i64 5] 3)
  refine (LSame_any v10 _ [5] [5] _ ((NatsAt.of_owns o10).keep A10 (fun _ _ _ h => h)) (NatsAt.of_block (World.alloc_heap_new w10 _) rfl) (by simp)).mono ?_
  rintro e w11 ⟨rfl, m11, rfl⟩
  obtain ⟨W11, hW11⟩ : ∃ W, W = (w10.alloc (.cells #[.int .i64 5] 3)).drewN m11 := ⟨_, rfl⟩
  have k11 : Keep Nope w10 W11 := by rw [hW11]; exact A10.drewN _
  rw [← hW11]
  clear hW11
  have HB11 := HB10.keepN k11
  go_wp2_with fail
  have I12 := ints_block (cap := 2) (World.alloc_heap_new W11 (.cells #[.int .i64 0, .int .i64 8] 3)) (show _ = natVs [0, 8] from rfl) (by intro i; rcases i with _ | _ | i <;> simp)
  have A12 := (Keep.refl Nope W11).alloc (.cells #[.int .i64 0, .int .i64 8] 3)
  have q11l := HB11.h0.lt_q'
  refine (Hit_at _ 2 _ b p8 q8 p6 q6 8 _ _ _ I12 (HB11.keepN A12) (by intro _ e; have e := Option.some.inj e; dsimp only at e; omega) (by omega)).mono ?_
  rintro e w12 h12
  rw [HitPost, no08] at h12
  obtain ⟨rfl, k12, B12⟩ := h12
  clear B12 I12
  go_wp2
  go_ret
  refine ⟨rfl, ?_⟩
  have K1 := (k1.trans A1 (fun _ _ h => h)).of_not (fun i => i = q0 ∨ i = q6 ∨ i = b ∨ i = q8)
  have c1 := ((((K1.trans k2 (fun _ _ h => .inl h)).trans k3 (fun _ _ h => h.elim)).trans k4 (fun _ _ h => h.elim)).trans k5 (fun _ _ h => h.elim)).trans k6 (fun _ _ h => .inr (.inr (.inl h)))
  have c2 := ((((c1.trans A6 (fun _ _ h => h.elim)).trans k7 (fun _ _ h => .inr (.inl h))).trans k8 (fun _ _ h => .inr (.inr (.inl h)))).trans k9 (fun _ _ h => h.elim)).trans k10 (fun _ _ h => h.elim)
  have c3 := ((c2.trans k11 (fun _ _ h => h.elim)).trans A12 (fun _ _ h => h.elim)).trans k12 (fun _ _ h => .inr (.inr (.inr h)))
  exact c3.mono (fun i hi h => by omega)

end Go.Proofs.Ytpjcgjbobljaeaa
