/-
  A list of black granules in memory; next, Has, Len of package black.
  List and Count of package black.
  New, Copy, Turn of package black.
  Turn of package black.
  First of package black: the least place with room.
  Hit of package black.
-/
import Derived.Test.YtfnmflgnbjjkkaaGreatDoorHead
import Derived.Deep.RegionHeld3
import Derived.Test.YtfnmflgnbjjkkaaGreatDoorLib
namespace Go.Proofs.YtfnmflgnbjjkkaaGreatDoor
open Go.RowKit
set_option linter.unusedVariables false

/-- A list lies at b: its two rows, f0 (hit behind the last Turn) and f1, of n bits. -/
structure BlackAt (w : World) (b p0 q0 p1 q1 : Nat) (f0 f1 : Nat → Bool) (n : Nat) : Prop where
  hb : w.heap[b]? = some (.cells #[.pointer (some ⟨p0, 0, none⟩), .pointer (some ⟨p1, 0, none⟩), .int .i64 (n : Nat)] 125 (0, 0))
  h0 : BitsAt w p0 q0 f0 n
  h1 : BitsAt w p1 q1 f1 n
  ne : q0 ≠ q1

theorem BlackAt.keep {S : Nat → Prop} {w w' : World} {b p0 q0 p1 q1 n : Nat} {f0 f1 : Nat → Bool} (h : BlackAt w b p0 q0 p1 q1 f0 f1 n) (k : Keep S w w') (hb : ¬ S b) (hp0 : ¬ S p0) (hq0 : ¬ S q0) (hp1 : ¬ S p1) (hq1 : ¬ S q1) : BlackAt w' b p0 q0 p1 q1 f0 f1 n :=
  ⟨k.at_ h.hb hb, h.h0.keep k hp0 hq0, h.h1.keep k hp1 hq1, h.ne⟩

theorem BlackAt.keepN {w w' : World} {b p0 q0 p1 q1 n : Nat} {f0 f1 : Nat → Bool} (h : BlackAt w b p0 q0 p1 q1 f0 f1 n) (k : Keep Nope w w') : BlackAt w' b p0 q0 p1 q1 f0 f1 n :=
  h.keep k (fun h => h) (fun h => h) (fun h => h) (fun h => h) (fun h => h)

theorem cell_of_three {w : World} {b : Nat} {u v x : Value} {t : TypeId} (h : w.heap[b]? = some (.cells #[u, v, x] t (0, 0))) : w.cell? ⟨b, 0, none⟩ = some u ∧ w.cell? ⟨b, 1, none⟩ = some v ∧ w.cell? ⟨b, 2, none⟩ = some x := by
  simp [World.cell?, h]

/-- The least one of two. -/
theorem nextB_or {f g : Nat → Bool} {n i : Nat} : nextB (fun j => f j || g j) n i = match nextB f n i, nextB g n i with
    | some a, some c => some (min a c)
    | some a, none => some a
    | none, o => o := by
  rcases nextB_spec f n i with ⟨a, ha, a1, a2, a3, a4⟩ | ⟨ha, a4⟩
  · rcases nextB_spec g n i with ⟨c, hc, c1, c2, c3, c4⟩ | ⟨hc, c4⟩
    · rw [ha, hc]
      refine nextB_some (by omega) (by omega) ?_ (fun t u v => by rw [a4 t u (by omega), c4 t u (by omega)]; rfl)
      rcases Nat.le_total a c with e | e
      · rw [Nat.min_eq_left e, a3]; rfl
      · rw [Nat.min_eq_right e, c3, Bool.or_true]
    · rw [ha, hc]
      exact nextB_some a1 a2 (by rw [a3]; rfl) (fun t u v => by rw [a4 t u v, c4 t u (by omega)]; rfl)
  · rcases nextB_spec g n i with ⟨c, hc, c1, c2, c3, c4⟩ | ⟨hc, c4⟩
    · rw [ha, hc]
      exact nextB_some c1 c2 (by rw [c3, Bool.or_true]) (fun t u v => by rw [a4 t u (by omega), c4 t u v]; rfl)
    · rw [ha, hc]
      exact nextB_none (fun t u v => by rw [a4 t u v, c4 t u v]; rfl)

theorem BLen_at (b p0 q0 p1 q1 n : Nat) (f0 f1 : Nat → Bool) (w : World) (h : BlackAt w b p0 q0 p1 q1 f0 f1 n) : Calls Tryz.prog 98 #[.pointer (some ⟨b, 0, none⟩)] w fun e w' => e = .returned (.int .i64 (n : Nat)) ∧ w = w' := by
  obtain ⟨c0, c1, c2⟩ := cell_of_three h.hb
  go_enter Tryz.func98, Tryz.ntmps98
  go_wp2
  go_ret
  exact ⟨rfl, rfl⟩

theorem BLen_nil (w : World) : Calls Tryz.prog 98 #[.pointer none] w fun e w' => e = .returned (.int .i64 0) ∧ w = w' := by
  go_enter Tryz.func98, Tryz.ntmps98
  go_wp2
  go_ret
  exact ⟨rfl, rfl⟩

theorem BHas_nil (i : Int) (w : World) : Calls Tryz.prog 20 #[.pointer none, .int .i64 i] w fun e w' => e = .returned (.bool false) ∧ w = w' := by
  go_enter Tryz.func20, Tryz.ntmps20
  go_wp2
  go_ret
  exact ⟨rfl, rfl⟩

theorem BHas_at (i : Int) (b p0 q0 p1 q1 n : Nat) (f0 f1 : Nat → Bool) (w : World) (h : BlackAt w b p0 q0 p1 q1 f0 f1 n) :
    Calls Tryz.prog 20 #[.pointer (some ⟨b, 0, none⟩), .int .i64 i] w fun e w' => e = .returned (.bool (hasI f0 n i || hasI f1 n i)) ∧ Keep Nope w w' := by
  obtain ⟨c0, c1, c2⟩ := cell_of_three h.hb
  obtain ⟨u, hu⟩ : ∃ u, hasI f0 n i = u := ⟨_, rfl⟩
  have HU : Seal _ := ⟨hu⟩
  rw [hu]
  clear hu
  go_enter Tryz.func20, Tryz.ntmps20
  go_wp2_with fail
  refine (Has_int i n p0 q0 f0 _ h.h0).mono ?_
  rintro e w1 ⟨rfl, k1⟩
  rw [HU.out]
  have d1 := k1.cell c1 (fun h => h)
  have h1 := h.h1.keep k1 (fun h => h) (fun h => h)
  cases u with
  | true =>
    go_wp2
    go_ret
    exact ⟨rfl, k1⟩
  | false =>
    go_wp2_with fail
    refine (Has_int i n p1 q1 f1 _ h1).mono ?_
    rintro e w2 ⟨rfl, k2⟩
    go_wp2
    go_ret
    exact ⟨by simp, k1.trans k2 (fun _ _ h => h)⟩

theorem bnext_at (i : Int) (b p0 q0 p1 q1 n : Nat) (f0 f1 : Nat → Bool) (w : World) (h : BlackAt w b p0 q0 p1 q1 f0 f1 n) :
    Calls Tryz.prog 100 #[.pointer (some ⟨b, 0, none⟩), .int .i64 i] w fun e w' => e = .returned (optV (nextB (fun j => f0 j || f1 j) n i.toNat)) ∧ Keep Nope w w' := by
  obtain ⟨c0, c1, c2⟩ := cell_of_three h.hb
  rw [nextB_or]
  obtain ⟨u, hu⟩ : ∃ u, nextB f0 n i.toNat = u := ⟨_, rfl⟩
  obtain ⟨v, hv⟩ : ∃ v, nextB f1 n i.toNat = v := ⟨_, rfl⟩
  have HU : Seal _ := ⟨hu⟩
  have HV : Seal _ := ⟨hv⟩
  rw [hu, hv]
  clear hu hv
  go_enter Tryz.func100, Tryz.ntmps100
  go_wp2_with fail
  refine (Next_at i n p0 q0 f0 _ h.h0).mono ?_
  rintro e w1 ⟨rfl, k1⟩
  rw [HU.out]
  have d1 := k1.cell c1 (fun h => h)
  have h1 := h.h1.keep k1 (fun h => h) (fun h => h)
  dsimp only [optV]
  go_wp2_with fail
  refine (Next_at i n p1 q1 f1 _ h1).mono ?_
  rintro e w2 ⟨rfl, k2⟩
  rw [HV.out]
  dsimp only [optV]
  have K := k1.trans k2 (fun _ _ h => h)
  clear d1 c0 c1 c2
  cases u with
  | none => cases v with
    | none =>
      dsimp only [Option.getD_none, Option.isSome_none]
      go_wp2
      go_ret2
      exact ⟨rfl, K⟩
    | some c =>
      dsimp only [Option.getD_none, Option.isSome_none, Option.getD_some, Option.isSome_some]
      go_wp2
      go_ret2
      exact ⟨rfl, K⟩
  | some a => cases v with
    | none =>
      dsimp only [Option.getD_none, Option.isSome_none, Option.getD_some, Option.isSome_some]
      go_wp2
      go_ret2
      exact ⟨rfl, K⟩
    | some c =>
      dsimp only [Option.getD_some, Option.isSome_some]
      by_cases hca : c < a
      · have hm : Seal (min a c = c) := ⟨by omega⟩
        have hca' : (c : Int) < a := by omega
        go_wp2
        go_ret2
        exact ⟨by rw [hm.out]; rfl, K⟩
      · have hm : Seal (min a c = a) := ⟨by omega⟩
        have hca' : ¬ (c : Int) < a := by omega
        go_wp2
        go_ret2
        exact ⟨by rw [hm.out]; rfl, K⟩

end Go.Proofs.YtfnmflgnbjjkkaaGreatDoor

namespace Go.Proofs.YtfnmflgnbjjkkaaGreatDoor
open Go.RowKit
set_option linter.unusedVariables false

/-- Those from c on, below n. -/
def fromB (f : Nat → Bool) (n c : Nat) : List Nat := (List.range' c (n - c)).filter f

theorem fromB_skip {f : Nat → Bool} {n : Nat} : ∀ (d c : Nat), c + d ≤ n → (∀ t, c ≤ t → t < c + d → f t = false) → fromB f n c = fromB f n (c + d)
  | 0, c, _, _ => rfl
  | d + 1, c, h, hf => by
    have h1 : fromB f n c = fromB f n (c + 1) := by
      rw [fromB, fromB, show n - c = (n - (c + 1)) + 1 by omega, List.range'_succ, List.filter_cons, hf c (Nat.le_refl _) (by omega)]
      rfl
    rw [h1, fromB_skip d (c + 1) (by omega) (fun t a b => hf t (by omega) (by omega))]
    congr 1; omega

theorem fromB_some {f : Nat → Bool} {n c a : Nat} (h : nextB f n c = some a) : fromB f n c = a :: fromB f n (a + 1) ∧ c ≤ a ∧ a < n := by
  rcases nextB_spec f n c with ⟨j, h1, h2, h3, h4, h5⟩ | ⟨h1, _⟩
  · rw [h1] at h
    obtain rfl : j = a := Option.some.inj h
    refine ⟨?_, h2, h3⟩
    obtain ⟨d, rfl⟩ : ∃ d, j = c + d := ⟨j - c, by omega⟩
    rw [fromB_skip d c (by omega) (fun t a b => h5 t a b)]
    rw [fromB, fromB, show n - (c + d) = (n - (c + d + 1)) + 1 by omega, List.range'_succ, List.filter_cons, h4]
    rfl
  · rw [h1] at h; cases h

theorem fromB_none {f : Nat → Bool} {n c : Nat} (h : nextB f n c = none) : fromB f n c = [] := by
  rcases nextB_spec f n c with ⟨j, h1, _⟩ | ⟨_, h2⟩
  · rw [h1] at h; cases h
  · rw [fromB, List.filter_eq_nil_iff]
    intro t ht
    rw [List.mem_range'_1] at ht
    rw [h2 t ht.1 (by omega)]; simp

theorem fromB_len (f : Nat → Bool) (n c : Nat) : (fromB f n c).length ≤ n - c := by
  have := List.length_filter_le f (List.range' c (n - c))
  rw [List.length_range'] at this
  exact this

/-- Numbers as values. -/
def natVs (l : List Nat) : List Value := l.map fun x => .int .i64 (x : Nat)

theorem Tryz.underlyingInts : Tryz.prog.underlying 24 = some (.slice 3) := by kernel_rfl

theorem Tryz.infoInt : (Tryz.prog.info? 3).map (fun i => (i.zero, i.size, i.bytes)) = some (some (.int .i64 0), 1, 8) := by kernel_rfl

theorem owns_len {w : World} {base : Nat} {e : TypeId} {size : Nat} {v : Value} {n : Nat} {xs : List Value} (h : w.ownsRow base e size v n xs) : ∃ a cap, v = .slice a n cap := by
  rcases h.2 with ⟨rfl, rfl⟩ | ⟨g, cap, cur, rfl, _⟩
  · exact ⟨none, 0, rfl⟩
  · exact ⟨_, cap, rfl⟩

end Go.Proofs.YtfnmflgnbjjkkaaGreatDoor

namespace Go.Proofs.YtfnmflgnbjjkkaaGreatDoor
open Go.RowKit
set_option linter.unusedVariables false

theorem BNew_no (n : Int) (w : World) (h : ¬ (0 ≤ n ∧ n ≤ 65536)) : Calls Tryz.prog 47 #[.int .i64 n] w fun e w' => e = .returned (.tuple #[.pointer none, .int .i64 2]) ∧ Keep Nope w w' := by
  have HN : Seal _ := ⟨h⟩
  clear h
  go_enter Tryz.func47, Tryz.ntmps47
  go_wp2_with fail
  go_loopw [11] (fun x wr => x = .int .i64 0 ∧ Keep Nope w wr) (fun _ _ => 0)
  case atStart => exact ⟨rfl, (Keep.refl _ w).alloc _⟩
  case round =>
    obtain ⟨rfl, hk⟩ := hrel
    go_wp2_with fail
    refine (New_no n _ HN.out).mono ?_
    rintro e w' ⟨rfl, rfl⟩
    go_wp2
    go_ret2
    exact ⟨rfl, hk⟩

/-- What New leaves, behind a plain name. -/
def MadeBlack (w : World) (n : Nat) (e : Ending) (w' : World) : Prop :=
  ∃ b p0 q0 p1 q1, e = .returned (.tuple #[.pointer (some ⟨b, 0, none⟩), .int .i64 0]) ∧ w.heap.size ≤ b ∧ w.heap.size ≤ q0 ∧ w.heap.size ≤ q1 ∧ BlackAt w' b p0 q0 p1 q1 (fun _ => false) (fun _ => false) n ∧ Keep Nope w w'

/-- What Copy leaves. -/
def CopiedBlack (w : World) (n : Nat) (f0 f1 : Nat → Bool) (e : Ending) (w' : World) : Prop :=
  ∃ b' p0' q0' p1' q1', e = .returned (.pointer (some ⟨b', 0, none⟩)) ∧ w.heap.size ≤ b' ∧ w.heap.size ≤ p0' ∧ w.heap.size ≤ q0' ∧ w.heap.size ≤ p1' ∧ w.heap.size ≤ q1' ∧ BlackAt w' b' p0' q0' p1' q1' f0 f1 n ∧ Keep Nope w w'

set_option maxHeartbeats 4000000 in
theorem BNew_yes (n : Nat) (w : World) (h : n ≤ 65536) : Calls Tryz.prog 47 #[.int .i64 (n : Nat)] w (MadeBlack w n) := by
  go_enter Tryz.func47, Tryz.ntmps47
  go_wp2_with fail
  go_loopw [11] (fun x wr => ∃ k : Nat, x = .int .i64 (k : Nat) ∧ k ≤ 2 ∧ Keep Nope w wr ∧
    Seal (∃ p0 q0 p1 q1, (k = 0 → wr.heap[w.heap.size]? = some (.cells #[.pointer none, .pointer none, .int .i64 (n : Nat)] 125 (0, 0))) ∧
      (k = 1 → wr.heap[w.heap.size]? = some (.cells #[.pointer (some ⟨p0, 0, none⟩), .pointer none, .int .i64 (n : Nat)] 125 (0, 0)) ∧ BitsAt wr p0 q0 (fun _ => false) n ∧ w.heap.size < p0 ∧ w.heap.size < q0) ∧
      (k = 2 → BlackAt wr w.heap.size p0 q0 p1 q1 (fun _ => false) (fun _ => false) n ∧ w.heap.size ≤ q0 ∧ w.heap.size ≤ q1)) ∧ w.heap.size < wr.heap.size ∧ (∀ j, wr.frozen? ⟨w.heap.size, j, none⟩ = false))
    (fun x _ => 2 - (intOf x).toNat)
  case atStart =>
    have z := World.alloc_heap_new w (.cells #[.pointer none, .pointer none, .int .i64 (n : Nat)] 125)
    exact ⟨0, rfl, by omega, (Keep.refl _ w).alloc _, ⟨0, 0, 0, 0, fun _ => z, fun h => by omega, fun h => by omega⟩, lt_of_heap z, free_of_block z⟩
  case round =>
    obtain ⟨k, rfl, hk2, hk, hs, hlt, hfr⟩ := hrel
    obtain ⟨p0, q0, p1, q1, s0, s1, s2⟩ := hs.out
    rcases (show k = 0 ∨ k = 1 ∨ k = 2 by omega) with rfl | rfl | rfl
    · have z0 := s0 rfl
      clear s0 s1 s2 hs hfr
      go_wp2_with fail
      refine (New_yes n _ h).mono ?_
      rintro e w1 ⟨p, q, rfl, hp, hq, b1, k1⟩
      have t0 := k1.at_ z0 (fun h => h)
      have tf := free_of_block t0 0
      have tc := (cell_of_three t0).1
      have hlt1 := Nat.lt_of_lt_of_le hlt k1.size
      go_wp2
      have t1 := block_setCell t0 (.pointer (some ⟨p, 0, none⟩)) (j := 0)
      have kE : Keep (fun i => i = w.heap.size) w1 (w1.setCell ⟨w.heap.size, 0, none⟩ (.pointer (some ⟨p, 0, none⟩))) := (Keep.refl (fun i => i = w.heap.size) w1).setCell (fun _ => rfl) _
      refine ⟨⟨1, rfl, by omega, (hk.trans k1 (fun _ _ h => h)).trans kE (fun i hi h => by omega), ⟨p, q, 0, 0, fun h => by omega, fun _ => ⟨t1, b1.keep kE (by omega) (by omega), by omega, by omega⟩, fun h => by omega⟩, Nat.lt_of_lt_of_le hlt1 kE.size, free_of_block t1⟩, by simp [intOf]⟩
    · obtain ⟨z0, zb, zp, zq⟩ := s1 rfl
      clear s0 s1 s2 hs hfr
      go_wp2_with fail
      refine (New_yes n _ h).mono ?_
      rintro e w1 ⟨p, q, rfl, hp, hq, b1, k1⟩
      have t0 := k1.at_ z0 (fun h => h)
      have tf := free_of_block t0 1
      have tc := (cell_of_three t0).2.1
      have hlt1 := Nat.lt_of_lt_of_le hlt k1.size
      have zb1 := zb.keep k1 (fun h => h) (fun h => h)
      have zql := zb.lt_q'
      go_wp2
      have t1 := block_setCell t0 (.pointer (some ⟨p, 0, none⟩)) (j := 1)
      have kE : Keep (fun i => i = w.heap.size) w1 (w1.setCell ⟨w.heap.size, 1, none⟩ (.pointer (some ⟨p, 0, none⟩))) := (Keep.refl (fun i => i = w.heap.size) w1).setCell (fun _ => rfl) _
      refine ⟨⟨2, rfl, by omega, (hk.trans k1 (fun _ _ h => h)).trans kE (fun i hi h => by omega), ⟨p0, q0, p, q, fun h => by omega, fun h => by omega, fun _ => ⟨⟨t1, zb1.keep kE (by omega) (by omega), b1.keep kE (by omega) (by omega), by omega⟩, by omega, by omega⟩⟩, Nat.lt_of_lt_of_le hlt1 kE.size, free_of_block t1⟩, by simp [intOf]⟩
    · obtain ⟨zb, zq0, zq1⟩ := s2 rfl
      clear s0 s1 s2 hs hfr
      go_wp2
      exact bodyPost_ret (v := .tuple #[.pointer (some ⟨w.heap.size, 0, none⟩), .int .i64 0]) (by simp [results, Tryz.results47, go_sem]) rfl ⟨w.heap.size, p0, q0, p1, q1, rfl, Nat.le_refl _, zq0, zq1, zb, hk⟩

end Go.Proofs.YtfnmflgnbjjkkaaGreatDoor

namespace Go.Proofs.YtfnmflgnbjjkkaaGreatDoor
open Go.RowKit
set_option linter.unusedVariables false

/-- What Turn leaves: the old row is the second one; the first one is new. -/
def TurnedBlack (w : World) (b p0 q0 q1 n : Nat) (f0 f1 : Nat → Bool) (e : Ending) (w' : World) : Prop :=
  ∃ p q, e = .returned (.int .i64 (((fromB (fun j => f0 j || f1 j) n 0).length : Int) - (fromB f0 n 0).length)) ∧ w.heap.size ≤ p ∧ w.heap.size ≤ q ∧ BlackAt w' b p q p0 q0 (fun _ => false) f0 n ∧ Keep (fun i => i = b) w w'

end Go.Proofs.YtfnmflgnbjjkkaaGreatDoor

namespace Go.Proofs.YtfnmflgnbjjkkaaGreatDoor
open Go.RowKit
set_option linter.unusedVariables false

/-- Is there room for k at g? -/
def roomB (f : Nat → Bool) (k g : Nat) : Bool := (List.range' g k).all fun t => !f t

theorem roomB_yes {f : Nat → Bool} {k g : Nat} (h : ∀ t, g ≤ t → t < g + k → f t = false) : roomB f k g = true := by
  rw [roomB, List.all_eq_true]
  intro t ht
  rw [List.mem_range'_1] at ht
  rw [h t ht.1 ht.2]; rfl

theorem roomB_no {f : Nat → Bool} {k g t : Nat} (h1 : g ≤ t) (h2 : t < g + k) (h3 : f t = true) : roomB f k g = false := by
  rw [roomB, List.all_eq_false]
  exact ⟨t, by rw [List.mem_range'_1]; exact ⟨h1, h2⟩, by rw [h3]; simp⟩

/-- What First answers. -/
def firstI (f : Nat → Bool) (n : Nat) (a z k : Int) : Option Nat :=
  if 1 ≤ k ∧ k ≤ n then nextB (roomB f k.toNat) ((max (min z n) 0).toNat + 1 - k.toNat) a.toNat else none

theorem First_nil (a z k : Int) (w : World) : Calls Tryz.prog 57 #[.pointer none, .int .i64 a, .int .i64 z, .int .i64 k] w fun e w' => e = .returned (optV none) ∧ w = w' := by
  go_enter Tryz.func57, Tryz.ntmps57
  go_wp2
  go_ret2
  exact ⟨rfl, rfl⟩

theorem First_no (a z k : Int) (b p0 q0 p1 q1 n : Nat) (f0 f1 : Nat → Bool) (w : World) (h : BlackAt w b p0 q0 p1 q1 f0 f1 n) (hk : ¬ (1 ≤ k ∧ k ≤ n)) :
    Calls Tryz.prog 57 #[.pointer (some ⟨b, 0, none⟩), .int .i64 a, .int .i64 z, .int .i64 k] w fun e w' => e = .returned (optV none) ∧ w = w' := by
  obtain ⟨c0, c1, c2⟩ := cell_of_three h.hb
  by_cases h1 : k < 1
  · go_enter Tryz.func57, Tryz.ntmps57
    go_wp2
    go_ret2
    exact ⟨rfl, rfl⟩
  · have h2 : (n : Int) < k := by omega
    clear hk
    go_enter Tryz.func57, Tryz.ntmps57
    go_wp2
    go_ret2
    exact ⟨rfl, rfl⟩

/-- The rounds of First, behind the limits: X is the upper limit as it stands in the frame. -/
theorem room_step {f : Nat → Bool} {n k T s κ : Nat} (hk : 0 < k) (hT : T ≤ n) (hall : ∀ g, s ≤ g → g < κ → roomB f k g = false) (hs : s ≤ κ) (hκ : κ + k ≤ T) :
    (∀ a, nextB f n κ = some a → κ + k ≤ a → nextB (roomB f k) (T + 1 - k) s = some κ) ∧ (nextB f n κ = none → nextB (roomB f k) (T + 1 - k) s = some κ) ∧
      (∀ a, nextB f n κ = some a → a < κ + k → κ ≤ a ∧ a < n ∧ ∀ g, s ≤ g → g < a + 1 → roomB f k g = false) := by
  refine ⟨fun a ha hak => ?_, fun ha => ?_, fun a ha hak => ?_⟩
  · rcases nextB_spec f n κ with ⟨j, h1, h2, h3, h4, h5⟩ | ⟨h1, _⟩
    · rw [h1] at ha
      obtain rfl : j = a := Option.some.inj ha
      exact nextB_some hs (by omega) (roomB_yes (fun t u v => h5 t u (by omega))) hall
    · rw [h1] at ha; cases ha
  · rcases nextB_spec f n κ with ⟨j, h1, _⟩ | ⟨_, h2⟩
    · rw [h1] at ha; cases ha
    · exact nextB_some hs (by omega) (roomB_yes (fun t u v => h2 t u (by omega))) hall
  · rcases nextB_spec f n κ with ⟨j, h1, h2, h3, h4, h5⟩ | ⟨h1, _⟩
    · rw [h1] at ha
      obtain rfl : j = a := Option.some.inj ha
      refine ⟨h2, h3, fun g u v => ?_⟩
      by_cases e : g < κ
      · exact hall g u e
      · exact roomB_no (t := j) (by omega) (by omega) h4
    · rw [h1] at ha; cases ha

set_option maxHeartbeats 4000000 in
theorem First_mid (a : Int) (T s k : Nat) (hsa : (a < 0 ∧ s = 0) ∨ (0 ≤ a ∧ a = s)) (b p0 q0 p1 q1 n : Nat) (f0 f1 f : Nat → Bool) (hf : (fun j => f0 j || f1 j) = f) (w : World) (h : BlackAt w b p0 q0 p1 q1 f0 f1 n) (hk0 : 0 < k) (hkn : k ≤ n) (hT : T ≤ n) :
    Calls Tryz.prog 57 #[.pointer (some ⟨b, 0, none⟩), .int .i64 a, .int .i64 (T : Nat), .int .i64 (k : Nat)] w fun e w' => e = .returned (optV (nextB (roomB f k) (T + 1 - k) s)) ∧ Keep Nope w w' := by
  obtain ⟨c0, c1, c2⟩ := cell_of_three h.hb
  have hn := h.h0.small'
  have next : ∀ (i : Int) (W : World), Keep Nope w W → Calls Tryz.prog 100 #[.pointer (some ⟨b, 0, none⟩), .int .i64 i] W fun e w' => e = .returned (optV (nextB f n i.toNat)) ∧ Keep Nope W w' := by
    intro i W k
    rw [← hf]
    exact bnext_at i b p0 q0 p1 q1 n f0 f1 W (h.keepN k)
  have NX : Seal _ := ⟨next⟩
  clear hf next
  have t1 : ¬ (k : Int) < 1 := by omega
  have t2 : ¬ (n : Int) < k := by omega
  have t3 : (T : Int) ≤ n := by omega
  rcases hsa with ⟨h0, hs⟩ | ⟨h0, hs⟩
  all_goals
    have HS : Seal _ := ⟨hs⟩
    clear hs
    go_enter Tryz.func57, Tryz.ntmps57
    go_wp2_with fail
    go_loopw [10] (fun y wr => ∃ κ : Nat, y = .int .i64 (κ : Nat) ∧ s ≤ κ ∧ Seal (∀ g, s ≤ g → g < κ → roomB f k g = false) ∧ Keep Nope w wr) (fun y _ => n + 1 - (intOf y).toNat)
    case atStart => exact ⟨s, by rw [HS.out]; first | done | rfl, by omega, ⟨fun g u v => by omega⟩, Keep.refl _ _⟩
    case round =>
      obtain ⟨κ, rfl, hsκ, hall, hkr⟩ := hrel
      by_cases hκ : κ + k ≤ T
      · have hκ' : (κ : Int) ≤ (T : Int) - k := by omega
        obtain ⟨st1, st2, st3⟩ := room_step (n := n) hk0 hT hall.out hsκ hκ
        have S1 : Seal _ := ⟨st1⟩
        have S2 : Seal _ := ⟨st2⟩
        have S3 : Seal _ := ⟨st3⟩
        clear st1 st2 st3
        go_wp2_with fail
        refine (NX.out _ _ hkr).mono ?_
        rintro e w1 ⟨rfl, k1⟩
        rw [Int.toNat_natCast]
        cases ha : nextB f n κ with
        | none =>
          have H1 : Seal _ := ⟨S2.out ha⟩
          clear ha
          dsimp only [optV, Option.getD_none, Option.isSome_none]
          go_wp2
          go_ret2
          exact ⟨by rw [H1.out]; rfl, hkr.trans k1 (fun _ _ h => h)⟩
        | some a =>
          dsimp only [optV, Option.getD_some, Option.isSome_some]
          by_cases hak : κ + k ≤ a
          · have H1 : Seal _ := ⟨S1.out a ha hak⟩
            have hak' : (k : Int) ≤ (a : Int) - κ := by omega
            have han : a ≤ 65536 := by
              rcases nextB_spec f n κ with ⟨j, h1, _, h3, _⟩ | ⟨h1, _⟩
              · rw [h1] at ha; have := Option.some.inj ha; omega
              · rw [h1] at ha; cases ha
            clear ha
            go_wp2
            go_ret2
            exact ⟨by rw [H1.out]; rfl, hkr.trans k1 (fun _ _ h => h)⟩
          · obtain ⟨q1', q2', q3'⟩ := S3.out a ha (by omega)
            have Q3 : Seal _ := ⟨q3'⟩
            have hak' : ¬ (k : Int) ≤ (a : Int) - κ := by omega
            clear ha q3'
            go_wp2
            exact ⟨⟨a + 1, by go_num, by omega, Q3, hkr.trans k1 (fun _ _ h => h)⟩, by simp only [intOf]; omega⟩
      · have hκ' : ¬ (κ : Int) ≤ (T : Int) - k := by omega
        have H1 : Seal (nextB (roomB f k) (T + 1 - k) s = none) := ⟨nextB_none (fun t u v => hall.out t u (by omega))⟩
        go_wp2
        go_ret2
        exact ⟨by rw [H1.out]; rfl, hkr⟩

set_option maxHeartbeats 4000000 in
theorem First_high (a z : Int) (s k : Nat) (hsa : (a < 0 ∧ s = 0) ∨ (0 ≤ a ∧ a = s)) (b p0 q0 p1 q1 n : Nat) (f0 f1 f : Nat → Bool) (hf : (fun j => f0 j || f1 j) = f) (w : World) (h : BlackAt w b p0 q0 p1 q1 f0 f1 n) (hk0 : 0 < k) (hkn : k ≤ n) (hz : (n : Int) < z) :
    Calls Tryz.prog 57 #[.pointer (some ⟨b, 0, none⟩), .int .i64 a, .int .i64 z, .int .i64 (k : Nat)] w fun e w' => e = .returned (optV (nextB (roomB f k) (n + 1 - k) s)) ∧ Keep Nope w w' := by
  obtain ⟨c0, c1, c2⟩ := cell_of_three h.hb
  have hn := h.h0.small'
  have next : ∀ (i : Int) (W : World), Keep Nope w W → Calls Tryz.prog 100 #[.pointer (some ⟨b, 0, none⟩), .int .i64 i] W fun e w' => e = .returned (optV (nextB f n i.toNat)) ∧ Keep Nope W w' := by
    intro i W k
    rw [← hf]
    exact bnext_at i b p0 q0 p1 q1 n f0 f1 W (h.keepN k)
  have NX : Seal _ := ⟨next⟩
  clear hf next
  have t1 : ¬ (k : Int) < 1 := by omega
  have t2 : ¬ (n : Int) < k := by omega
  have t3 : ¬ z ≤ (n : Int) := by omega
  rcases hsa with ⟨h0, hs⟩ | ⟨h0, hs⟩
  all_goals
    have HS : Seal _ := ⟨hs⟩
    clear hs
    go_enter Tryz.func57, Tryz.ntmps57
    go_wp2_with fail
    go_loopw [10] (fun y wr => ∃ κ : Nat, y = .int .i64 (κ : Nat) ∧ s ≤ κ ∧ Seal (∀ g, s ≤ g → g < κ → roomB f k g = false) ∧ Keep Nope w wr) (fun y _ => n + 1 - (intOf y).toNat)
    case atStart => exact ⟨s, by rw [HS.out]; first | done | rfl, by omega, ⟨fun g u v => by omega⟩, Keep.refl _ _⟩
    case round =>
      obtain ⟨κ, rfl, hsκ, hall, hkr⟩ := hrel
      by_cases hκ : κ + k ≤ n
      · have hκ' : (κ : Int) ≤ (n : Int) - k := by omega
        obtain ⟨st1, st2, st3⟩ := room_step (n := n) hk0 (Nat.le_refl n) hall.out hsκ hκ
        have S1 : Seal _ := ⟨st1⟩
        have S2 : Seal _ := ⟨st2⟩
        have S3 : Seal _ := ⟨st3⟩
        clear st1 st2 st3
        go_wp2_with fail
        refine (NX.out _ _ hkr).mono ?_
        rintro e w1 ⟨rfl, k1⟩
        rw [Int.toNat_natCast]
        cases ha : nextB f n κ with
        | none =>
          have H1 : Seal _ := ⟨S2.out ha⟩
          clear ha
          dsimp only [optV, Option.getD_none, Option.isSome_none]
          go_wp2
          go_ret2
          exact ⟨by rw [H1.out]; rfl, hkr.trans k1 (fun _ _ h => h)⟩
        | some a =>
          dsimp only [optV, Option.getD_some, Option.isSome_some]
          by_cases hak : κ + k ≤ a
          · have H1 : Seal _ := ⟨S1.out a ha hak⟩
            have hak' : (k : Int) ≤ (a : Int) - κ := by omega
            have han : a ≤ 65536 := by
              rcases nextB_spec f n κ with ⟨j, h1, _, h3, _⟩ | ⟨h1, _⟩
              · rw [h1] at ha; have := Option.some.inj ha; omega
              · rw [h1] at ha; cases ha
            clear ha
            go_wp2
            go_ret2
            exact ⟨by rw [H1.out]; rfl, hkr.trans k1 (fun _ _ h => h)⟩
          · obtain ⟨q1', q2', q3'⟩ := S3.out a ha (by omega)
            have Q3 : Seal _ := ⟨q3'⟩
            have hak' : ¬ (k : Int) ≤ (a : Int) - κ := by omega
            clear ha q3'
            go_wp2
            exact ⟨⟨a + 1, by go_num, by omega, Q3, hkr.trans k1 (fun _ _ h => h)⟩, by simp only [intOf]; omega⟩
      · have hκ' : ¬ (κ : Int) ≤ (n : Int) - k := by omega
        have H1 : Seal (nextB (roomB f k) (n + 1 - k) s = none) := ⟨nextB_none (fun t u v => hall.out t u (by omega))⟩
        go_wp2
        go_ret2
        exact ⟨by rw [H1.out]; rfl, hkr⟩

set_option maxHeartbeats 4000000 in
theorem First_low (a z : Int) (s k : Nat) (hsa : (a < 0 ∧ s = 0) ∨ (0 ≤ a ∧ a = s)) (b p0 q0 p1 q1 n : Nat) (f0 f1 f : Nat → Bool) (hf : (fun j => f0 j || f1 j) = f) (w : World) (h : BlackAt w b p0 q0 p1 q1 f0 f1 n) (hk0 : 0 < k) (hkn : k ≤ n) (hz : z < 0) :
    Calls Tryz.prog 57 #[.pointer (some ⟨b, 0, none⟩), .int .i64 a, .int .i64 z, .int .i64 (k : Nat)] w fun e w' => e = .returned (optV (nextB (roomB f k) (0 + 1 - k) s)) ∧ Keep Nope w w' := by
  obtain ⟨c0, c1, c2⟩ := cell_of_three h.hb
  have hn := h.h0.small'
  have next : ∀ (i : Int) (W : World), Keep Nope w W → Calls Tryz.prog 100 #[.pointer (some ⟨b, 0, none⟩), .int .i64 i] W fun e w' => e = .returned (optV (nextB f n i.toNat)) ∧ Keep Nope W w' := by
    intro i W k
    rw [← hf]
    exact bnext_at i b p0 q0 p1 q1 n f0 f1 W (h.keepN k)
  have NX : Seal _ := ⟨next⟩
  clear hf next
  have t1 : ¬ (k : Int) < 1 := by omega
  have t2 : ¬ (n : Int) < k := by omega
  have t3 : z ≤ (n : Int) := by omega
  have t4 : ¬ 0 ≤ z := by omega
  rcases hsa with ⟨h0, hs⟩ | ⟨h0, hs⟩
  all_goals
    have HS : Seal _ := ⟨hs⟩
    clear hs
    go_enter Tryz.func57, Tryz.ntmps57
    go_wp2_with fail
    go_loopw [10] (fun y wr => ∃ κ : Nat, y = .int .i64 (κ : Nat) ∧ s ≤ κ ∧ Seal (∀ g, s ≤ g → g < κ → roomB f k g = false) ∧ Keep Nope w wr) (fun y _ => n + 1 - (intOf y).toNat)
    case atStart => exact ⟨s, by rw [HS.out]; first | done | rfl, by omega, ⟨fun g u v => by omega⟩, Keep.refl _ _⟩
    case round =>
      obtain ⟨κ, rfl, hsκ, hall, hkr⟩ := hrel
      have hκ' : ¬ (κ : Int) ≤ -(k : Int) := by omega
      have hκ'' : ¬ (κ : Int) ≤ (0 : Int) - k := by omega
      have H1 : Seal (nextB (roomB f k) (0 + 1 - k) s = none) := ⟨nextB_none (fun t u v => by omega)⟩
      go_wp2
      go_ret2
      exact ⟨by rw [H1.out]; rfl, hkr⟩

theorem First_int (a z k : Int) (b p0 q0 p1 q1 n : Nat) (f0 f1 : Nat → Bool) (w : World) (h : BlackAt w b p0 q0 p1 q1 f0 f1 n) :
    Calls Tryz.prog 57 #[.pointer (some ⟨b, 0, none⟩), .int .i64 a, .int .i64 z, .int .i64 k] w fun e w' => e = .returned (optV (firstI (fun j => f0 j || f1 j) n a z k)) ∧ Keep Nope w w' := by
  by_cases hk : 1 ≤ k ∧ k ≤ n
  · obtain ⟨K, rfl⟩ := Int.eq_ofNat_of_zero_le (show 0 ≤ k by omega)
    rw [firstI, if_pos hk, Int.toNat_natCast]
    have hs : (a < 0 ∧ a.toNat = 0) ∨ (0 ≤ a ∧ a = a.toNat) := by omega
    by_cases h1 : z < 0
    · rw [show (max (min z (n : Int)) 0).toNat = 0 by omega]
      exact First_low a z a.toNat K hs b p0 q0 p1 q1 n f0 f1 _ rfl w h (by omega) (by omega) h1
    by_cases h2 : z ≤ n
    · obtain ⟨T, rfl⟩ := Int.eq_ofNat_of_zero_le (show 0 ≤ z by omega)
      rw [show (max (min (T : Int) (n : Int)) 0).toNat = T by omega]
      exact First_mid a T a.toNat K hs b p0 q0 p1 q1 n f0 f1 _ rfl w h (by omega) (by omega) (by omega)
    · rw [show (max (min z (n : Int)) 0).toNat = n by omega]
      exact First_high a z a.toNat K hs b p0 q0 p1 q1 n f0 f1 _ rfl w h (by omega) (by omega) (by omega)
  · rw [firstI, if_neg hk]
    exact (First_no a z k b p0 q0 p1 q1 n f0 f1 w h hk).mono fun _ _ ⟨e1, e2⟩ => ⟨e1, e2 ▸ Keep.refl _ _⟩

end Go.Proofs.YtfnmflgnbjjkkaaGreatDoor

namespace Go.Proofs.YtfnmflgnbjjkkaaGreatDoor
open Go.RowKit
set_option linter.unusedVariables false

theorem Hit_nil (v : Value) (w : World) : Calls Tryz.prog 48 #[.pointer none, v] w fun e w' => e = .returned (.int .i64 1) ∧ w = w' := by
  go_enter Tryz.func48, Tryz.ntmps48
  go_wp2
  go_ret
  exact ⟨rfl, rfl⟩

/-- Is x among the first len of g? -/
def hitB (x : Nat → Int) (len : Nat) (j : Nat) : Bool := (List.range len).any fun i => x i == (j : Int)

theorem hitB_succ (x : Nat → Int) (len j : Nat) : hitB x (len + 1) j = (hitB x len j || x len == (j : Int)) := by
  simp [hitB, List.range_succ]

/-- May all of them be hit? -/
def okHit (n : Nat) (x : Nat → Int) (len : Nat) : Bool := (List.range len).all fun i => decide (0 ≤ x i ∧ x i < n)

theorem okHit_at {n : Nat} {x : Nat → Int} {len i : Nat} (h : okHit n x len = true) (hi : i < len) : 0 ≤ x i ∧ x i < n := by
  rw [okHit, List.all_eq_true] at h
  simpa using h i (List.mem_range.2 hi)

theorem okHit_no {n : Nat} {x : Nat → Int} {len i : Nat} (hi : i < len) (h : ¬ (0 ≤ x i ∧ x i < n)) : okHit n x len = false := by
  rw [okHit, List.all_eq_false]
  exact ⟨i, List.mem_range.2 hi, by simpa using h⟩

theorem ints_at {w : World} {v : Value} {len : Nat} {x : Nat → Nat → Int} (hv : IntsAt 1 w v len x) : ∃ a cap, v = .slice a len cap ∧ ∀ i, i < len → ∃ g o, a = some ⟨g, o, none⟩ ∧ g < w.heap.size ∧ w.cell? ⟨g, o + i, none⟩ = some (.int .i64 (x i 0)) ∧ -9223372036854775808 ≤ x i 0 ∧ x i 0 ≤ 9223372036854775807 := by
  obtain ⟨a, cap, rfl, h⟩ := hv
  refine ⟨a, cap, rfl, fun i hi => ?_⟩
  obtain ⟨g, o, rfl, h1, h2⟩ := h i hi
  have h3 := h2 0 (by omega)
  rw [Nat.mul_one, Nat.add_zero] at h3
  exact ⟨g, o, rfl, h1, h3⟩

/-- A list's blocks are apart. -/
theorem BlackAt.apart {w : World} {b p0 q0 p1 q1 n : Nat} {f0 f1 : Nat → Bool} (h : BlackAt w b p0 q0 p1 q1 f0 f1 n) : b ≠ q0 ∧ b ≠ p0 ∧ b ≠ q1 ∧ b ≠ p1 ∧ p1 ≠ q0 ∧ p0 ≠ q1 := by
  have h0 := h.hb
  obtain ⟨ws, hw, -⟩ := h.h0
  obtain ⟨_, h1⟩ := hw.hp
  obtain ⟨_, h2, -⟩ := hw.hq
  obtain ⟨ws', hw', -⟩ := h.h1
  obtain ⟨_, h3⟩ := hw'.hp
  obtain ⟨_, h4, -⟩ := hw'.hq
  refine ⟨fun e => ?_, fun e => ?_, fun e => ?_, fun e => ?_, fun e => ?_, fun e => ?_⟩
  · rw [e, h2] at h0; injection h0 with h0; injection h0 with _ h0; exact absurd h0 (by decide)
  · rw [e, h1] at h0; injection h0 with h0; injection h0 with _ h0; exact absurd h0 (by decide)
  · rw [e, h4] at h0; injection h0 with h0; injection h0 with _ h0; exact absurd h0 (by decide)
  · rw [e, h3] at h0; injection h0 with h0; injection h0 with _ h0; exact absurd h0 (by decide)
  · rw [e, h2] at h3; injection h3 with h3; injection h3 with _ h3; exact absurd h3 (by decide)
  · rw [e, h4] at h1; injection h1 with h1; injection h1 with _ h1; exact absurd h1 (by decide)

/-- What Hit leaves, behind a plain name (the walk parts on an 'if' in a post). -/
def HitPost (w : World) (b p0 q0 p1 q1 n len : Nat) (x : Nat → Int) (f0 f1 : Nat → Bool) (e : Ending) (w' : World) : Prop :=
  e = .returned (.int .i64 (errV (okHit n x len))) ∧ Keep (fun i => i = q0) w w' ∧ BlackAt w' b p0 q0 p1 q1 (if okHit n x len then fun j => f0 j || hitB x len j else f0) f1 n

set_option maxHeartbeats 4000000 in
theorem Hit_at (v : Value) (len : Nat) (x : Nat → Nat → Int) (b p0 q0 p1 q1 n : Nat) (f0 f1 : Nat → Bool) (w : World) (hv : IntsAt 1 w v len x) (h : BlackAt w b p0 q0 p1 q1 f0 f1 n) (hvq : 0 < len → v.ownBlock ≠ some q0) (hlen : len ≤ 9223372036854775807) :
    Calls Tryz.prog 48 #[.pointer (some ⟨b, 0, none⟩), v] w (HitPost w b p0 q0 p1 q1 n len (fun i => x i 0) f0 f1) := by
  obtain ⟨hbq, -, -, -, hp1q, -⟩ := h.apart
  obtain ⟨c0, c1, c2⟩ := cell_of_three h.hb
  have lb := lt_of_heap h.hb
  have hn := h.h0.small'
  obtain ⟨a, cap, rfl, hx⟩ := ints_at hv
  have HX : Seal _ := ⟨hx⟩
  have HQ : Seal _ := ⟨hvq⟩
  clear hv hx hvq
  go_enter Tryz.func48, Tryz.ntmps48
  go_wp2_with fail
  go_loop [13] (fun y => ∃ j : Nat, y = .int .i64 (j : Nat) ∧ j ≤ len ∧ Seal (∀ i, i < j → 0 ≤ x i 0 ∧ x i 0 < n)) (fun y => len - (intOf y).toNat)
  case atStart => exact ⟨0, rfl, by omega, ⟨fun i hi => by omega⟩⟩
  case round =>
    obtain ⟨j, rfl, hj, hall⟩ := hrel
    by_cases hjl : j < len
    · have hjl' : (j : Int) < len := by omega
      obtain ⟨g, o, rfl, gl, gc, -, -⟩ := HX.out j hjl
      obtain ⟨y, hy⟩ : ∃ y, y = x j 0 := ⟨_, rfl⟩
      rw [← hy] at gc
      have HY : Seal _ := ⟨hy⟩
      clear hy
      by_cases hy0 : y < 0
      · have hno : Seal (okHit n (fun i => x i 0) len = false) := ⟨okHit_no hjl (by show ¬ (0 ≤ x j 0 ∧ x j 0 < n); rw [← HY.out]; omega)⟩
        go_wp2
        exact bodyPost_ret (v := .int .i64 2) (by simp [results, Tryz.results48, go_sem]) rfl ⟨by rw [hno.out]; rfl, Keep.refl _ _, by rw [hno.out]; exact h⟩
      obtain ⟨Y, rfl⟩ := Int.eq_ofNat_of_zero_le (show 0 ≤ y by omega)
      clear hy0
      have hy0 : ¬ (Y : Int) < 0 := by omega
      by_cases hyn : (n : Int) ≤ Y
      · have hno : Seal (okHit n (fun i => x i 0) len = false) := ⟨okHit_no hjl (by show ¬ (0 ≤ x j 0 ∧ x j 0 < n); rw [← HY.out]; omega)⟩
        go_wp2
        exact bodyPost_ret (v := .int .i64 2) (by simp [results, Tryz.results48, go_sem]) rfl ⟨by rw [hno.out]; rfl, Keep.refl _ _, by rw [hno.out]; exact h⟩
      have hyn' : (Y : Int) < n := by omega
      have hall' : Seal (∀ i, i < j + 1 → 0 ≤ x i 0 ∧ x i 0 < n) := ⟨fun i hi => by
        by_cases e : i = j
        · subst e; rw [← HY.out]; exact ⟨by omega, by omega⟩
        · exact hall.out i (by omega)⟩
      go_wp2
      exact ⟨⟨j + 1, by go_num, by omega, hall'⟩, by simp only [intOf]; omega⟩
    · have hjl' : ¬ (j : Int) < len := by omega
      have hok : Seal (okHit n (fun i => x i 0) len = true) := ⟨by
        rw [okHit, List.all_eq_true]
        intro i hi
        have := hall.out i (by have := List.mem_range.1 hi; omega)
        simpa using this⟩
      have hall' : Seal (∀ i, i < len → 0 ≤ x i 0 ∧ x i 0 < n) := ⟨fun i hi => hall.out i (by omega)⟩
      clear hall
      go_wp2_with fail
      go_loopw [30] (fun y wr => ∃ j : Nat, y = .int .i64 (j : Nat) ∧ j ≤ len ∧ Keep (fun i => i = q0) w wr ∧ BlackAt wr b p0 q0 p1 q1 (fun t => f0 t || hitB (fun i => x i 0) j t) f1 n) (fun y _ => len - (intOf y).toNat)
      case atStart => exact ⟨0, rfl, by omega, Keep.refl _ _, by rw [show (fun t => f0 t || hitB (fun i => x i 0) 0 t) = f0 from funext fun t => Bool.or_false _]; exact h⟩
      case round =>
        obtain ⟨i, rfl, hi, hk, hr⟩ := hrel
        obtain ⟨d0, d1, d2⟩ := cell_of_three hr.hb
        clear c0 c1 c2
        by_cases hil : i < len
        · have hil' : (i : Int) < len := by omega
          obtain ⟨g1, o, rfl, gl, gc, -, -⟩ := HX.out i hil
          have g1n : g1 ≠ q0 := fun e => HQ.out (by omega) (by rw [e]; rfl)
          have gc2 := hk.cell gc g1n
          obtain ⟨y0, yn⟩ := hall'.out i hil
          obtain ⟨Y, hY⟩ := Int.eq_ofNat_of_zero_le y0
          rw [hY] at gc2 yn
          have hYn : Y < n := by omega
          have HY : Seal _ := ⟨hY⟩
          clear y0 gc hY HX HQ
          go_wp2_with fail
          refine (Set_int (Y : Int) n p0 q0 _ wr hr.h0).mono ?_
          rintro e w2 ⟨rfl, k2, b2⟩
          go_wp2
          refine ⟨⟨i + 1, by go_num, by omega, hk.trans k2 (fun _ _ h => h), ⟨k2.at_ hr.hb hbq, ?_, hr.h1.keep k2 hp1q (fun e => hr.ne e.symm), hr.ne⟩⟩, by simp only [intOf]; omega⟩
          have e : setF (fun t => f0 t || hitB (fun i => x i 0) i t) n (Y : Int) 1 true = fun t => f0 t || hitB (fun i => x i 0) (i + 1) t := by
            have ho : okRun n (Y : Int) 1 = true := by simp [okRun]; omega
            rw [setF, ho, if_pos rfl]
            funext t
            rw [hitB_succ, HY.out, Int.toNat_natCast, runSet]
            by_cases e : t = Y
            · subst e
              rw [if_pos (by omega)]; simp
            · rw [if_neg (by omega), show ((Y : Int) == (t : Int)) = false by simp; omega, Bool.or_false]
          rw [← e]; exact b2
        · have hil' : ¬ (i : Int) < len := by omega
          have hie : i = len := by omega
          subst hie
          go_wp2
          exact bodyPost_ret (v := .int .i64 0) (by simp [results, Tryz.results48, go_sem]) rfl ⟨by rw [hok.out]; rfl, hk, by rw [hok.out]; exact hr⟩

end Go.Proofs.YtfnmflgnbjjkkaaGreatDoor
