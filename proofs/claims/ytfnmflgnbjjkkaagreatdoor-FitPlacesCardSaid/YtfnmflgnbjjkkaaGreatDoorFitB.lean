/-
  The chapter's example of fit: the steps, one by one.
  The chapter's example of fit.
  Where there is room, how much, and how much is free: in numbers alone.
-/
import Derived.Test.YtfnmflgnbjjkkaaGreatDoorFitA
namespace Go.Proofs.YtfnmflgnbjjkkaaGreatDoor
open Go.RowKit
set_option linter.unusedVariables false

def alK0 : Nat → Bool := fun j => (fun _ => false) j || hitB (fun _ => 2) 1 j
def alK : Nat → Bool := fun i => alK0 i || (fun _ => false) i
def alC : List Cel := [⟨0, 1, 1, 3, 2⟩, ⟨2, 3, 0, 0, 6⟩]

theorem al13_first {P : Sp} (hn : P.n = 16) {b p0 q0 p1 q1 : Nat} (k : Nat) (cs : List Cel) (g : Nat) (hg : firstFit alK k (gapsOf cs) = some g) (hk : 1 ≤ k) (hk2 : k ≤ 16) (w : World) (h : SpaceHas w P cs) (hb : BlackAt w b p0 q0 p1 q1 alK0 (fun _ => false) 8) :
    Calls Tryz.prog 18 #[.pointer (some ⟨P.s, 0, none⟩), .pointer (some ⟨b, 0, none⟩), .int .i64 (k : Nat)] w fun e w' => e = .returned (.tuple #[.int .i64 (g : Nat), .int .i64 0]) ∧ Keep Nope w w' := by
  refine (FFirst_black k P cs b p0 q0 p1 q1 alK0 (fun _ => false) w h (by rw [hn]; exact hb) hk (by omega)).mono ?_
  rintro e w' ⟨rfl, hk'⟩
  rw [show firstFit (fun i => alK0 i || (fun _ => false) i) k (gapsOf cs) = some g from hg]
  exact ⟨rfl, hk'⟩

theorem al13_blk {w : World} {b p0 q0 p1 q1 : Nat} {P : Sp} (hn : P.n = 16) (hb : BlackAt w b p0 q0 p1 q1 alK0 (fun _ => false) 8) : BlkAt w (.pointer (some ⟨b, 0, none⟩)) (P.n / 2) alK :=
  .inr ⟨b, p0, q0, p1, q1, alK0, _, rfl, by rw [hn]; exact hb, rfl⟩

theorem al13_most {P : Sp} (hn : P.n = 16) {b p0 q0 p1 q1 : Nat} (w : World) (h : SpaceHas w P alA) (hb : BlackAt w b p0 q0 p1 q1 alK0 (fun _ => false) 8) :
    Calls Tryz.prog 21 #[.pointer (some ⟨P.s, 0, none⟩), .pointer (some ⟨b, 0, none⟩)] w fun e w' => e = .returned (.tuple #[.int .i64 5, .int .i64 0]) ∧ Keep Nope w w' := by
  refine (FMost_at P alA _ alK w h (al13_blk hn hb)).mono ?_
  rintro e w' ⟨rfl, hk⟩
  rw [show mostOf alK (gapsOf alA) = 5 by decide +kernel]
  exact ⟨rfl, hk⟩

theorem al13_free {P : Sp} (hn : P.n = 16) {b p0 q0 p1 q1 : Nat} (w : World) (h : SpaceHas w P alA) (hb : BlackAt w b p0 q0 p1 q1 alK0 (fun _ => false) 8) :
    Calls Tryz.prog 17 #[.pointer (some ⟨P.s, 0, none⟩), .pointer (some ⟨b, 0, none⟩)] w fun e w' => e = .returned (.tuple #[.int .i64 7, .int .i64 0]) ∧ Keep Nope w w' := by
  refine (FFree_at P alA _ alK w h (al13_blk hn hb)).mono ?_
  rintro e w' ⟨rfl, hk⟩
  rw [show freeOf alK (gapsOf alA) = 7 by decide +kernel]
  exact ⟨rfl, hk⟩

theorem al13_place {P : Sp} (ht : P.ts = alT) (hn : P.n = 16) {b p0 q0 p1 q1 : Nat} (w : World) (h : SpaceHas w P alA) (hb : BlackAt w b p0 q0 p1 q1 alK0 (fun _ => false) 8) :
    Calls Tryz.prog 14 #[.pointer (some ⟨P.s, 0, none⟩), .pointer (some ⟨b, 0, none⟩), .int .i64 1, .int .i64 3] w fun e w' => e = .returned (.tuple #[.int .i64 0, .int .i64 0]) ∧ Keep P.own w w' ∧ SpaceHas w' P alC := by
  have h0 : sizeE P.ts 1 3 = 0 := by rw [ht]; decide +kernel
  have hS : sizeS P.ts 1 3 = 2 := by rw [ht]; decide +kernel
  have hR : putR P.ts (P.n / 2) alA 0 1 3 = 0 := by rw [ht, hn]; decide +kernel
  refine (FPlace_at P alA _ 1 3 0 w h h0 (fun w' hw' => ?_)).mono ?_
  · rw [hS]
    exact al13_first hn 2 alA 0 (by decide +kernel) (by omega) (by omega) w' (h.keepN hw') (hb.keepN hw')
  · rintro e w' ⟨rfl, -, k, hp⟩
    rw [hR] at hp ⊢
    refine ⟨rfl, k, ?_⟩
    rcases hp with ⟨h0, _⟩ | ⟨_, pre, c, post, j, i, l, S, e1, e2, e3, e4, e5, e6, e7, e8, e9, hp⟩
    · exact absurd rfl h0
    · obtain rfl : j = 0 := by omega
      obtain rfl : i = 1 := by omega
      obtain rfl : l = 3 := by omega
      obtain rfl : S = 2 := by omega
      cases pre with
      | nil =>
        simp only [alA, List.nil_append, List.cons.injEq] at e1
        obtain ⟨rfl, rfl⟩ := e1
        exact hp
      | cons d pre =>
        simp [alA] at e1

/-- Where check lets pass. -/
theorem passed {P : Sp} {cs : List Cel} {b p0 q0 p1 q1 : Nat} {f0 f1 : Nat → Bool} {w : World} (h : SpaceHas w P cs) (hb : BlackAt w b p0 q0 p1 q1 f0 f1 (P.n / 2)) : Refused (some ⟨P.s, 0, none⟩) (some ⟨b, 0, none⟩) 0 w := fun w' hw' => by
  obtain ⟨_, _, h1, _⟩ := h
  have := check_at P _ _ b p0 q0 p1 q1 _ f0 f1 w' (h1.keepN hw') (hb.keepN hw')
  rw [if_pos rfl] at this
  exact this

end Go.Proofs.YtfnmflgnbjjkkaaGreatDoor

namespace Go.Proofs.YtfnmflgnbjjkkaaGreatDoor
open Go.RowKit
set_option linter.unusedVariables false

theorem types_apart {w : World} {x : Nat} {c1 c2 : Array Value} {t1 t2 : TypeId} {f1 f2 : Nat × Nat} (h1 : w.heap[x]? = some (.cells c1 t1 f1)) (h2 : w.heap[x]? = some (.cells c2 t2 f2)) : t1 = t2 := by
  rw [h1] at h2
  injection h2 with h2
  injection h2

/-- A list lies beside a space's own blocks. -/
theorem black_beside {w : World} {P : Sp} {cs : List Cel} {b p0 q0 p1 q1 n : Nat} {f0 f1 : Nat → Bool} (h : SpaceHas w P cs) (hb : BlackAt w b p0 q0 p1 q1 f0 f1 n) (h0 : ¬ P.own q0) (h1 : ¬ P.own q1) :
    ¬ P.own b ∧ ¬ P.own p0 ∧ ¬ P.own q0 ∧ ¬ P.own p1 ∧ ¬ P.own q1 := by
  obtain ⟨W, f, hs, -⟩ := h
  obtain ⟨_, _, ta⟩ := hs.ar.ha
  obtain ⟨_, tq, -⟩ := hs.ar.hq
  obtain ⟨_, hw, -⟩ := hs.bt
  obtain ⟨_, tbq, -⟩ := hw.hq
  obtain ⟨_, w0, -⟩ := hb.h0
  obtain ⟨_, w1, -⟩ := hb.h1
  obtain ⟨_, t0⟩ := w0.hp
  obtain ⟨_, t1⟩ := w1.hp
  refine ⟨fun h => ?_, fun h => ?_, h0, fun h => ?_, h1⟩
  · rcases h with e | e | e <;> subst e
    · exact absurd (types_apart hb.hb ta) (by decide)
    · exact absurd (types_apart hb.hb tq) (by decide)
    · exact absurd (types_apart hb.hb tbq) (by decide)
  · rcases h with e | e | e <;> subst e
    · exact absurd (types_apart t0 ta) (by decide)
    · exact absurd (types_apart t0 tq) (by decide)
    · exact absurd (types_apart t0 tbq) (by decide)
  · rcases h with e | e | e <;> subst e
    · exact absurd (types_apart t1 ta) (by decide)
    · exact absurd (types_apart t1 tq) (by decide)
    · exact absurd (types_apart t1 tbq) (by decide)

set_option maxRecDepth 20000 in
set_option maxHeartbeats 8000000 in
theorem alive13 (w : World) (hF : FieldsAt w) : Calls Tryz.prog 10 #[] w fun e w' => e = .returned (.bool true) ∧ Keep Nope w w' := by
  have HF : Seal _ := ⟨hF⟩
  clear hF
  go_enter Tryz.func10, Tryz.ntmps10
  go_wp2_with fail
  obtain ⟨w1, hw1⟩ : ∃ w1, w1 = w.alloc (.cells #[.int .u8 2, .int .i64 0, .int .u64 0] 100) := ⟨_, rfl⟩
  rw [← hw1]
  have k1 : Keep Nope w w1 := by rw [hw1]; exact (Keep.refl _ w).alloc _
  have b1 : w1.heap[w.heap.size]? = some (.cells #[.int .u8 2, .int .i64 0, .int .u64 0] 100 (0, 0)) := by rw [hw1]; exact World.alloc_heap_new w _
  have T1 : TypsAt w1 (.slice (some ⟨w.heap.size, 0, none⟩) 1 1) alT := by
    refine ⟨_, _, rfl, fun i x hx => ?_⟩
    obtain rfl : i = 0 := by have := (List.getElem?_eq_some_iff.1 hx).1; simp [alT] at this; exact this
    simp [alT] at hx
    subst hx
    exact ⟨_, _, rfl, lt_of_heap b1, by simp [World.cell?, b1], by simp [World.cell?, b1], by simp [World.cell?, b1]⟩
  clear hw1 b1
  refine (TNew_any _ alT w1 T1 (by simp [alT])).mono ?_
  rintro e w2 ⟨k2, ⟨-, t, q, rfl, T2, ht, hq, hq2⟩ | ⟨h, -⟩⟩
  case inr => exact absurd al_tab h
  have K2 := k1.then' k2
  have HK2 : Seal _ := ⟨K2⟩
  have HT2 : Seal _ := ⟨T2⟩
  have z1 := k1.size
  have z2 := k2.size
  clear T1 T2 k1 k2
  go_wp2_with fail
  refine (SNew_yes 16 t q alT w2 HT2.out (HF.out.keepN HK2.out) HT2.out.lt_t hq2 (by omega) (by omega) (by omega)).mono ?_
  rintro e w3 ⟨P, hPt, hPq, hts, hn, rfl, H3, hown, hs, hb, k3⟩
  have H3' : SpaceHas w3 P alA := H3
  have HS3 : Seal _ := ⟨H3'⟩
  have HP : Seal _ := ⟨And.intro hts hn⟩
  have HK3 : Seal _ := ⟨K2.then' k3⟩
  have HOW : Seal (∀ k, P.own k → w.heap.size ≤ k) := ⟨fun k hk => by have := hown k hk; omega⟩
  have z3 := k3.size
  clear H3 H3' hPt hPq hts hn hown hs hb k3 K2 ht hq hq2
  go_wp2_with fail
  refine (BNew_yes 8 w3 (by omega)).mono ?_
  rintro e w4 ⟨b, p0, q0, p1, q1, rfl, lb, lq0, lq1, B4, k4⟩
  have HS4 : Seal _ := ⟨HS3.out.keepN k4⟩
  have HK4 : Seal _ := ⟨HK3.out.then' k4⟩
  have HB4 : Seal _ := ⟨B4⟩
  have lP : ∀ x, P.all x → x < w3.heap.size := HS3.out.lt
  have HQ0 : Seal (¬ P.own q0 ∧ ¬ P.own q1) := ⟨⟨fun h => by have := lP q0 (Sp.all_own h); omega, fun h => by have := lP q1 (Sp.all_own h); omega⟩⟩
  have z4 := k4.size
  have lqw := B4.h0.lt_q'
  clear B4 k4
  go_wp2_with fail
  obtain ⟨w5, hw5⟩ : ∃ w5, w5 = w4.alloc (.cells #[.int .i64 2] 3) := ⟨_, rfl⟩
  rw [← hw5]
  have k5 : Keep Nope w4 w5 := by rw [hw5]; exact (Keep.refl _ w4).alloc _
  have b5 : w5.heap[w4.heap.size]? = some (.cells #[.int .i64 2] 3 (0, 0)) := by rw [hw5]; exact World.alloc_heap_new w4 _
  have I5 : IntsAt 1 w5 (.slice (some ⟨w4.heap.size, 0, none⟩) 1 1) 1 (fun _ _ => 2) := ⟨_, _, rfl, fun i hi => ⟨_, _, rfl, lt_of_heap b5, fun j hj => by
    obtain rfl : i = 0 := by omega
    obtain rfl : j = 0 := by omega
    exact ⟨by simp [World.cell?, b5], by dsimp only; omega, by dsimp only; omega⟩⟩⟩
  clear hw5 b5
  refine (Hit_at _ 1 (fun _ _ => 2) b p0 q0 p1 q1 8 _ _ w5 I5 (HB4.out.keepN k5) (fun _ e => by injection e with e; dsimp only at e; omega) (by omega)).mono ?_
  rintro e w6 ⟨rfl, k6, B6⟩
  rw [show okHit 8 (fun i => (fun _ _ => (2 : Int)) i 0) 1 = true by decide] at B6 ⊢
  have B6' : BlackAt w6 b p0 q0 p1 q1 alK0 (fun _ => false) 8 := B6
  have HB6 : Seal _ := ⟨B6'⟩
  have HS6 : Seal _ := ⟨(HS4.out.keepN k5).keep k6 (fun x hx h => by have := lP x hx; omega)⟩
  have HK6 : Seal _ := ⟨(HK4.out.then' k5).trans k6 (fun x hx h => by omega)⟩
  rw [show errV true = 0 from rfl]
  clear B6 B6' k5 k6 I5
  go_wp2_with fail
  refine (al13_first HP.out.2 2 alA 0 (by decide +kernel) (by omega) (by omega) w6 HS6.out HB6.out).mono ?_
  rintro e w7 ⟨rfl, k7⟩
  go_wp2_with fail
  refine (al13_first HP.out.2 3 alA 3 (by decide +kernel) (by omega) (by omega) w7 (HS6.out.keepN k7) (HB6.out.keepN k7)).mono ?_
  rintro e w8 ⟨rfl, k8⟩
  have k68 := k7.then' k8
  go_wp2_with fail
  refine (al13_most HP.out.2 w8 (HS6.out.keepN k68) (HB6.out.keepN k68)).mono ?_
  rintro e w9 ⟨rfl, k9⟩
  have k69 := k68.then' k9
  go_wp2_with fail
  refine (al13_free HP.out.2 w9 (HS6.out.keepN k69) (HB6.out.keepN k69)).mono ?_
  rintro e wA ⟨rfl, kA⟩
  have k6A := k69.then' kA
  have HSA : Seal _ := ⟨HS6.out.keepN k6A⟩
  have HBA : Seal _ := ⟨HB6.out.keepN k6A⟩
  have HKA : Seal _ := ⟨HK6.out.then' k6A⟩
  clear k7 k8 k68 k9 k69 kA k6A
  go_wp2_with fail
  refine (al13_place HP.out.1 HP.out.2 wA HSA.out HBA.out).mono ?_
  rintro e wB ⟨rfl, kB, SB⟩
  have hbes := black_beside HSA.out HBA.out HQ0.out.1 HQ0.out.2
  have HSB : Seal _ := ⟨SB⟩
  have HBB : Seal _ := ⟨HBA.out.keep kB hbes.1 hbes.2.1 hbes.2.2.1 hbes.2.2.2.1 hbes.2.2.2.2⟩
  have HKB : Seal _ := ⟨HKA.out.trans kB (fun x hx h => by have := HOW.out x h; omega)⟩
  clear kB SB hbes
  go_wp2_with fail
  refine (al13_first HP.out.2 2 alC 3 (by decide +kernel) (by omega) (by omega) wB HSB.out HBB.out).mono ?_
  rintro e wC ⟨rfl, kC⟩
  go_wp2_with fail
  refine (FFirst_low _ _ 0 wC (passed (HSB.out.keepN kC) (by rw [HP.out.2]; exact HBB.out.keepN kC)) (by omega)).mono ?_
  rintro e wD ⟨rfl, kD⟩
  go_wp2_with fail
  refine (FFirst_err none _ 1 1 wD (refused_nil _ wD) (by omega)).mono ?_
  rintro e wE ⟨rfl, kE⟩
  have HKE : Seal _ := ⟨((HKB.out.then' kC).then' kD).then' kE⟩
  clear kC kD kE
  go_wp2
  go_ret
  exact ⟨rfl, HKE.out⟩

end Go.Proofs.YtfnmflgnbjjkkaaGreatDoor

namespace Go.Proofs.YtfnmflgnbjjkkaaGreatDoor
open Go.RowKit
set_option linter.unusedVariables false

/-- There is room for n granules at j. -/
def Room (blk : Nat → Bool) (gs : List Cel) (n j : Nat) : Prop := ∃ c ∈ gs, c.g ≤ j ∧ j + n ≤ c.fin ∧ ∀ t, j ≤ t → t < j + n → blk t = false

theorem Room.less {blk : Nat → Bool} {gs : List Cel} {n m j : Nat} (h : Room blk gs m j) (hn : n ≤ m) : Room blk gs n j := by
  obtain ⟨c, hc, h1, h2, h3⟩ := h
  exact ⟨c, hc, h1, by omega, fun t a b => h3 t a (by omega)⟩

theorem Room.bare {blk : Nat → Bool} {gs : List Cel} {n j : Nat} (h : Room blk gs n j) : Room (fun _ => false) gs n j := by
  obtain ⟨c, hc, h1, h2, h3⟩ := h
  exact ⟨c, hc, h1, h2, fun _ _ _ => rfl⟩

theorem roomB_spec {f : Nat → Bool} {k g : Nat} (h : roomB f k g = true) : ∀ t, g ≤ t → t < g + k → f t = false := fun t h1 h2 => by
  cases e : f t
  · rfl
  · rw [roomB_no h1 h2 e] at h; cases h

theorem askB_some {blk : Nat → Bool} {s T k j : Nat} (h : askB blk s T k = some j) : s ≤ j ∧ j + k ≤ T ∧ (∀ t, j ≤ t → t < j + k → blk t = false) ∧ ∀ i, s ≤ i → i < j → roomB blk k i = false := by
  rcases nextB_spec (roomB blk k) (T + 1 - k) s with ⟨i, e, h1, h2, h3, h4⟩ | ⟨e, -⟩
  · unfold askB at h
    rw [h] at e
    injection e with e
    subst e
    exact ⟨h1, by omega, roomB_spec h3, h4⟩
  · unfold askB at h
    rw [h] at e
    cases e

theorem askB_none {blk : Nat → Bool} {s T k : Nat} (h : askB blk s T k = none) : ∀ i, s ≤ i → i + k ≤ T → roomB blk k i = false := by
  rcases nextB_spec (roomB blk k) (T + 1 - k) s with ⟨i, e, h1, h2, h3, h4⟩ | ⟨-, h4⟩
  · unfold askB at h
    rw [h] at e
    cases e
  · exact fun i h1 h2 => h4 i h1 (by omega)

/-- Gaps one behind the other. -/
def Sep (gs : List Cel) : Prop := gs.Pairwise fun c d => c.fin ≤ d.g

theorem sep_tiles : ∀ {cs : List Cel} {a b : Nat}, Tiles a cs b → Sep cs
  | [], a, b, h => List.Pairwise.nil
  | c :: cs, a, b, ⟨h1, h2, h3⟩ => List.Pairwise.cons (fun d hd => by have := Tiles.mem h3 hd; unfold Cel.fin; omega) (sep_tiles h3)

theorem sep_gaps {cs : List Cel} {a b : Nat} (h : Tiles a cs b) : Sep (gapsOf cs) := List.Pairwise.filter _ (sep_tiles h)

theorem firstFit_cons (blk : Nat → Bool) (k : Nat) (c : Cel) (gs : List Cel) : firstFit blk k (c :: gs) = match askB blk c.g c.fin k with | some j => some j | none => firstFit blk k gs := by
  unfold firstFit
  rw [List.findSome?_cons]
  cases askB blk c.g c.fin k <;> rfl

theorem firstFit_yes : ∀ {gs : List Cel} {blk : Nat → Bool} {k j : Nat}, Sep gs → firstFit blk k gs = some j → Room blk gs k j ∧ ∀ i, Room blk gs k i → j ≤ i
  | [], blk, k, j, hs, h => by cases h
  | c :: gs, blk, k, j, hs, h => by
    rw [firstFit_cons] at h
    have hs' := List.pairwise_cons.1 hs
    cases e : askB blk c.g c.fin k with
    | some x =>
      rw [e] at h
      injection h with h
      subst h
      obtain ⟨h1, h2, h3, h4⟩ := askB_some e
      refine ⟨⟨c, List.mem_cons_self .., h1, h2, h3⟩, fun i ⟨d, hd, d1, d2, d3⟩ => ?_⟩
      rcases List.mem_cons.1 hd with m | m
      · subst m
        rcases Nat.lt_or_ge i x with hl | hl
        · have := h4 i d1 hl
          rw [roomB_yes d3] at this
          cases this
        · exact hl
      · have := hs'.1 d m
        omega
    | none =>
      rw [e] at h
      have hn := askB_none e
      obtain ⟨⟨d, hd, d1, d2, d3⟩, hmin⟩ := firstFit_yes hs'.2 h
      refine ⟨⟨d, List.mem_cons_of_mem _ hd, d1, d2, d3⟩, fun i ⟨x, hx, x1, x2, x3⟩ => ?_⟩
      rcases List.mem_cons.1 hx with m | m
      · subst m
        have := hn i x1 x2
        rw [roomB_yes x3] at this
        cases this
      · exact hmin i ⟨x, m, x1, x2, x3⟩

theorem firstFit_no : ∀ {gs : List Cel} {blk : Nat → Bool} {k : Nat}, firstFit blk k gs = none → ∀ i, ¬ Room blk gs k i
  | [], blk, k, h, i, ⟨c, hc, _⟩ => by cases hc
  | c :: gs, blk, k, h, i, ⟨d, hd, d1, d2, d3⟩ => by
    rw [firstFit_cons] at h
    cases e : askB blk c.g c.fin k with
    | some x => rw [e] at h; cases h
    | none =>
      rw [e] at h
      rcases List.mem_cons.1 hd with m | m
      · subst m
        have := askB_none e i d1 d2
        rw [roomB_yes d3] at this
        cases this
      · exact firstFit_no h i ⟨d, m, d1, d2, d3⟩

theorem firstFit_room {gs : List Cel} {blk : Nat → Bool} {k i : Nat} (hs : Sep gs) (h : Room blk gs k i) : ∃ j, firstFit blk k gs = some j ∧ j ≤ i := by
  cases e : firstFit blk k gs with
  | none => exact absurd h (firstFit_no e i)
  | some j => exact ⟨j, rfl, (firstFit_yes hs e).2 i h⟩

/-- Where the longest run stands, inside a gap. -/
theorem mostW_in (blk : Nat → Bool) (g sz best : Nat) : ∀ d, d ≤ sz → ∃ a t, mostW blk g (g + sz) best d = (a, t) ∧ g ≤ a ∧ a ≤ g + d ∧ (∀ x, a ≤ x → x < g + d → blk x = false) ∧ (a = g ∨ (g < a ∧ blk (a - 1) = true)) ∧ best ≤ t ∧
    (∀ j n, 1 ≤ n → g ≤ j → j + n ≤ g + d → (∀ x, j ≤ x → x < j + n → blk x = false) → n ≤ t ∨ a ≤ j) ∧ (t = best ∨ ∃ j, g ≤ j ∧ j + t ≤ g + d ∧ ∀ x, j ≤ x → x < j + t → blk x = false)
  | 0, _ => ⟨g, best, rfl, Nat.le_refl _, Nat.le_refl _, fun x h1 h2 => by omega, .inl rfl, Nat.le_refl _, fun j n h1 h2 h3 => by omega, .inl rfl⟩
  | d + 1, hd => by
    obtain ⟨a, t, e, h1, h2, h3, h4, h5, h6, h7⟩ := mostW_in blk g sz best d (by omega)
    rw [mostW, e]
    have hne : ¬ g + d = g + sz := by omega
    by_cases hb : blk (g + d) = true
    · rw [if_pos (.inr hb)]
      refine ⟨g + d + 1, max t (g + d - a), rfl, by omega, by omega, fun x x1 x2 => by omega, .inr ⟨by omega, hb⟩, by omega, fun j n n1 j1 j2 j3 => ?_, ?_⟩
      · rcases Nat.lt_or_ge (g + d) (j + n) with hl | hl
        · have := j3 (g + d) (by omega) hl
          rw [hb] at this
          cases this
        · rcases h6 j n n1 j1 hl j3 with r | r
          · exact .inl (by omega)
          · exact .inl (by omega)
      · rcases Nat.le_total (g + d - a) t with hm | hm
        · rw [Nat.max_eq_left hm]
          rcases h7 with h7 | ⟨j, j1, j2, j3⟩
          · exact .inl h7
          · exact .inr ⟨j, j1, by omega, j3⟩
        · rw [Nat.max_eq_right hm]
          exact .inr ⟨a, h1, by omega, fun x x1 x2 => h3 x x1 (by omega)⟩
    · have hb' : blk (g + d) = false := by simpa using hb
      rw [if_neg (by rintro (r | r); exact hne r; exact hb r)]
      refine ⟨a, t, rfl, h1, by omega, fun x x1 x2 => ?_, h4, h5, fun j n n1 j1 j2 j3 => ?_, ?_⟩
      · rcases Nat.lt_or_ge x (g + d) with hl | hl
        · exact h3 x x1 hl
        · rw [show x = g + d by omega]; exact hb'
      · rcases Nat.lt_or_ge (g + d) (j + n) with hl | hl
        · rcases Nat.lt_or_ge j a with ha | ha
          · rcases h4 with h4 | ⟨h4, h4'⟩
            · omega
            · have := j3 (a - 1) (by omega) (by omega)
              rw [h4'] at this
              cases this
          · exact .inr ha
        · exact h6 j n n1 j1 hl j3
      · rcases h7 with h7 | ⟨j, j1, j2, j3⟩
        · exact .inl h7
        · exact .inr ⟨j, j1, by omega, j3⟩

theorem mostW_spec (blk : Nat → Bool) (g sz best t : Nat) (ht : (mostW blk g (g + sz) best (sz + 1)).2 = t) : best ≤ t ∧
    (∀ j n, 1 ≤ n → g ≤ j → j + n ≤ g + sz → (∀ x, j ≤ x → x < j + n → blk x = false) → n ≤ t) ∧ (t = best ∨ ∃ j, g ≤ j ∧ j + t ≤ g + sz ∧ ∀ x, j ≤ x → x < j + t → blk x = false) := by
  obtain ⟨a, u, e, h1, h2, h3, h4, h5, h6, h7⟩ := mostW_in blk g sz best sz (Nat.le_refl _)
  rw [mostW, e, if_pos (.inl rfl)] at ht
  simp only at ht
  subst ht
  refine ⟨by omega, fun j n n1 j1 j2 j3 => ?_, ?_⟩
  · rcases h6 j n n1 j1 j2 j3 with r | r <;> omega
  · rcases Nat.le_total (g + sz - a) u with hm | hm
    · rw [Nat.max_eq_left hm]
      exact h7
    · rw [Nat.max_eq_right hm]
      exact .inr ⟨a, h1, by omega, fun x x1 x2 => h3 x x1 (by omega)⟩

theorem mostFold (blk : Nat → Bool) : ∀ (gs : List Cel) (best t : Nat), gs.foldl (fun b c => (mostW blk c.g (c.g + c.sz) b (c.sz + 1)).2) best = t → best ≤ t ∧ (∀ j n, 1 ≤ n → Room blk gs n j → n ≤ t) ∧ (t = best ∨ ∃ j, Room blk gs t j)
  | [], best, t, h => by
    have h : best = t := h
    subst h
    exact ⟨Nat.le_refl _, (fun j n n1 ⟨c, hc, _⟩ => (by cases hc)), .inl rfl⟩
  | c :: gs, best, t, h => by
    rw [List.foldl_cons] at h
    obtain ⟨u, hu⟩ : ∃ u, (mostW blk c.g (c.g + c.sz) best (c.sz + 1)).2 = u := ⟨_, rfl⟩
    rw [hu] at h
    obtain ⟨a1, a2, a3⟩ := mostW_spec blk c.g c.sz best u hu
    obtain ⟨b1, b2, b3⟩ := mostFold blk gs u t h
    refine ⟨by omega, fun j n n1 ⟨d, hd, d1, d2, d3⟩ => ?_, ?_⟩
    · rcases List.mem_cons.1 hd with m | m
      · subst m
        have := a2 j n n1 d1 d2 d3
        omega
      · exact b2 j n n1 ⟨d, m, d1, d2, d3⟩
    · rcases b3 with b3 | ⟨j, d, hd, d1, d2, d3⟩
      · subst b3
        rcases a3 with a3 | ⟨j, j1, j2, j3⟩
        · exact .inl a3
        · exact .inr ⟨j, c, List.mem_cons_self .., j1, j2, j3⟩
      · exact .inr ⟨j, d, List.mem_cons_of_mem _ hd, d1, d2, d3⟩

theorem most_room {blk : Nat → Bool} {gs : List Cel} {n : Nat} (h1 : 1 ≤ n) (h2 : n ≤ mostOf blk gs) : ∃ j, Room blk gs n j := by
  obtain ⟨-, -, r⟩ := mostFold blk gs 0 _ rfl
  rcases r with r | ⟨j, r⟩
  · unfold mostOf at h2
    omega
  · exact ⟨j, r.less h2⟩

theorem room_most {blk : Nat → Bool} {gs : List Cel} {n j : Nat} (h1 : 1 ≤ n) (h : Room blk gs n j) : n ≤ mostOf blk gs := (mostFold blk gs 0 _ rfl).2.1 j n h1 h

theorem cntW_run (blk : Nat → Bool) (s : Nat) : ∀ d j n, s ≤ j → j + n ≤ s + d → (∀ x, j ≤ x → x < j + n → blk x = false) → n ≤ cntW blk s d
  | 0, j, n, h1, h2, h3 => by omega
  | d + 1, j, n, h1, h2, h3 => by
    rw [cntW]
    rcases Nat.lt_or_ge (s + d) (j + n) with hl | hl
    · rcases n with _ | n
      · omega
      · have := cntW_run blk s d j n h1 (by omega) (fun x x1 x2 => h3 x x1 (by omega))
        rw [h3 (s + d) (by omega) (by omega)]
        simp
        omega
    · have := cntW_run blk s d j n h1 hl h3
      omega

theorem freeOf_mem (blk : Nat → Bool) : ∀ {gs : List Cel} {c : Cel}, c ∈ gs → cntW blk c.g c.sz ≤ freeOf blk gs
  | d :: gs, c, h => by
    rw [freeOf]
    rcases List.mem_cons.1 h with m | m
    · subst m; omega
    · have := freeOf_mem blk m; omega

theorem most_free (blk : Nat → Bool) (gs : List Cel) : mostOf blk gs ≤ freeOf blk gs := by
  obtain ⟨-, -, r⟩ := mostFold blk gs 0 _ rfl
  rcases r with r | ⟨j, c, hc, r1, r2, r3⟩
  · unfold mostOf
    omega
  · exact Nat.le_trans (cntW_run blk c.g c.sz j _ r1 r2 r3) (freeOf_mem blk hc)

theorem most_bare (blk : Nat → Bool) (gs : List Cel) : mostOf blk gs ≤ mostOf (fun _ => false) gs := by
  rcases Nat.eq_zero_or_pos (mostOf blk gs) with h | h
  · omega
  · obtain ⟨j, r⟩ := most_room h (Nat.le_refl _)
    exact room_most h r.bare

/-- How many granules of objects. -/
def objSum : List Cel → Nat
  | [] => 0
  | c :: cs => (if c.tag = 1 then c.sz else 0) + objSum cs

theorem objSum_append : ∀ (xs ys : List Cel), objSum (xs ++ ys) = objSum xs + objSum ys
  | [], ys => by simp [objSum]
  | x :: xs, ys => by rw [List.cons_append, objSum, objSum, objSum_append xs ys]; omega

theorem objSum_gap (g m : Nat) : objSum (gapL g m) = 0 := by
  unfold gapL
  split
  · rfl
  · simp only [objSum]
    rw [if_neg (by split <;> omega)]

theorem cntW_bare (s : Nat) : ∀ d, cntW (fun _ => false) s d = d
  | 0 => rfl
  | d + 1 => by rw [cntW, cntW_bare s d]; simp

theorem sum_all : ∀ {cs : List Cel} {a b : Nat}, Tiles a cs b → objSum cs + freeOf (fun _ => false) (gapsOf cs) + a = b
  | [], a, b, h => by have h : a = b := h; simp [objSum, gapsOf, freeOf, h]
  | c :: cs, a, b, ⟨h1, h2, h3⟩ => by
    have := sum_all h3
    by_cases ht : c.tag = 1
    · have e : gapsOf (c :: cs) = gapsOf cs := by simp [gapsOf, ht]
      rw [e, objSum, if_pos ht]
      omega
    · have e : gapsOf (c :: cs) = c :: gapsOf cs := by simp [gapsOf, ht]
      rw [e, objSum, if_neg ht, freeOf, cntW_bare]
      omega

theorem objSum_put {pre post : List Cel} {c : Cel} {g id ln S : Nat} (h : ¬ c.tag = 1) : objSum (putL pre c post g id ln S) = objSum (pre ++ c :: post) + S := by
  unfold putL
  simp only [objSum_append, objSum, objSum_gap, if_neg h, if_pos]
  omega

/-- A place that First tells may be put. -/
theorem room_put {ts : List TypR} {H j i l S : Nat} {cs : List Cel} (ht : Tiles 0 cs H) {blk : Nat → Bool} (h : Room blk (gapsOf cs) S j) (h0 : 0 < S) : ∃ x ∈ cs, ¬ x.tag = 1 ∧ x.g ≤ j ∧ j < x.fin ∧ j + S ≤ x.fin := by
  obtain ⟨c, hc, h1, h2, -⟩ := h
  have := List.mem_filter.1 hc
  exact ⟨c, this.1, by simpa using this.2, h1, by omega, h2⟩

end Go.Proofs.YtfnmflgnbjjkkaaGreatDoor
