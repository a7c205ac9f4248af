/-
  A step of a script, of a list and of the document's; Heavy; Same.
-/
import Derived.Test.YtpjcgjbobljaeaaBlackRef4
import Derived.Test.YtpjcgjbobljaeaaStepsL
import Derived.Test.YtpjcgjbobljaeaaAppendInts
import Derived.Deep.RegionHeldLaw
namespace Go.Proofs.Ytpjcgjbobljaeaa
open Go.RowKit
set_option linter.unusedVariables false

/-- Heavy answers, and only reads. -/
def HeavyPost (n : Int) (len : Nat) (ll : Nat → Nat) (w : World) (e : Ending) (w' : World) : Prop := ∃ t, e = .returned (.bool t) ∧ w = w' ∧ (t = false → (n ≤ 400 ∨ 65536 < n) ∧ len ≤ 100 ∧ ∀ i, i < len → ll i ≤ 403)

theorem heavy_cases (K : Nat) (n : Int) : (100 < (K : Int)) ∨ ((K : Int) ≤ 100 ∧ n ≤ 400) ∨ ((K : Int) ≤ 100 ∧ 400 < n ∧ n ≤ 65536) ∨ ((K : Int) ≤ 100 ∧ 65536 < n) := by omega

set_option maxHeartbeats 4000000 in
theorem Heavy_any (n : Int) (v : Value) (len : Nat) (d : Nat → Int) (u : Nat → Value) (ll : Nat → Nat) (lx : Nat → Nat → Nat → Int) (w : World) (hv : StepsAt w v len d u ll lx) (hlen : len ≤ 17592186044416) :
    Calls Try.prog 30 #[.int .i64 n, v] w (HeavyPost n len ll w) := by
  obtain ⟨a, cap, rfl, hx⟩ := hv
  have HX : Seal _ := ⟨hx⟩
  clear hx
  go_enter Try.func30, Try.ntmps30
  go_wp2_with fail
  go_loop [5, 6] (fun k y => ∃ (j K : Nat), y = .int .i64 (j : Nat) ∧ j ≤ len ∧ j ≤ 100 ∧ k = .int .i64 (K : Nat) ∧ len ≤ K ∧ Seal (K ≤ len + j * 4398046511104) ∧ Seal (∀ i, i < j → ll i / 4 ≤ K)) (fun _ y => len - (intOf y).toNat)
  case atStart => exact ⟨0, len, rfl, by omega, by omega, rfl, by omega, ⟨by omega⟩, ⟨fun i h => by omega⟩⟩
  case round =>
    obtain ⟨j, K, rfl, hj, hj2, rfl, hK, hKb, hall'⟩ := hrel
    by_cases hjl : j < len
    · have hjl' : (j : Int) < len := by omega
      by_cases hj100 : j < 100
      · have hj100' : (j : Int) < 100 := by omega
        obtain ⟨b, o, rfl, hb, hc0, hc1, hc2, hc3⟩ := HX.out j hjl
        obtain ⟨ua, uc, hu, -⟩ := hc2
        rw [hu] at hc1
        have hstep : Seal (∀ i, i < j + 1 → ll i / 4 ≤ K + ll j / 4) := ⟨fun i hi => by
          by_cases e : i = j
          · subst e; omega
          · have := hall'.out i (by omega); omega⟩
        clear HX hu hc0
        obtain ⟨m, hm⟩ : ∃ m, m = ll j := ⟨_, rfl⟩
        rw [← hm] at hc1 hc3 hstep
        have hq : (m : Int) / 4 = ((m / 4 : Nat) : Int) := by omega
        clear hm
        have hKm : Seal (K + m / 4 ≤ len + (j + 1) * 4398046511104) := ⟨by have := hKb.out; omega⟩
        obtain ⟨q, hqq⟩ : ∃ q, q = m / 4 := ⟨_, rfl⟩
        rw [← hqq] at hq hKm hstep
        have hKs : K + q ≤ 1000000000000000 := by have := hKm.out; omega
        clear hqq hc3
        go_wp2
        exact ⟨⟨j + 1, K + q, by go_num, by omega, by omega, by first | rfl | go_num, by omega, hKm, hstep⟩, by simp only [intOf]; omega⟩
      · have hj100' : ¬ (j : Int) < 100 := by omega
        clear HX
        have x1 : 100 < (K : Int) := by omega
        go_wp2
        exact bodyPost_ret (v := .bool true) (by simp [results, Try.results30, go_sem] <;> omega) rfl ⟨true, rfl, rfl, fun h => by cases h⟩
    · have hjl' : ¬ (j : Int) < len := by omega
      clear HX
      have hall : Seal (K ≤ 100 → len ≤ 100 ∧ ∀ i, i < len → ll i ≤ 403) := ⟨fun h => ⟨by omega, fun i hi => by have := hall'.out i (by omega); omega⟩⟩
      clear hall'
      rcases heavy_cases K n with ⟨x1⟩ | ⟨x1, x2⟩ | ⟨x1, x2, x3⟩ | ⟨x1, x2⟩
      · go_wp2
        exact bodyPost_ret (v := .bool true) (by simp [results, Try.results30, go_sem] <;> omega) rfl ⟨true, rfl, rfl, fun h => by cases h⟩
      · go_wp2
        exact bodyPost_ret (v := .bool false) (by simp [results, Try.results30, go_sem] <;> omega) rfl ⟨false, rfl, rfl, fun h => ⟨.inl x2, hall.out (by omega)⟩⟩
      · go_wp2
        exact bodyPost_ret (v := .bool true) (by simp [results, Try.results30, go_sem] <;> omega) rfl ⟨true, rfl, rfl, fun h => by cases h⟩
      · have x3 : 400 < n := by omega
        go_wp2
        exact bodyPost_ret (v := .bool false) (by simp [results, Try.results30, go_sem] <;> omega) rfl ⟨false, rfl, rfl, fun h => ⟨.inr x2, hall.out (by omega)⟩⟩
/-- The rows behind a step. -/
def doB0 (f0 : Nat → Bool) (n : Nat) (d : Int) (ll : Nat) (x : Nat → Int) : Nat → Bool := if d = 0 then (if okHit n x ll then fun j => f0 j || hitB x ll j else f0) else if d = 1 then fun _ => false else f0
def doB1 (f0 f1 : Nat → Bool) (d : Int) : Nat → Bool := if d = 1 then f0 else f1
/-- The ages behind a step. -/
def doL (L : Nat → Nat) (n : Nat) (d : Int) (ll : Nat) (x : Nat → Int) : Nat → Nat := if d = 0 then (if okHit n x ll then markL L x ll else L) else if d = 1 then turnN L else L

theorem turnN_left (f0 f1 : Nat → Bool) : turnN (leftN f0 f1) = leftN (fun _ => false) f0 := by
  funext j
  simp only [turnN, leftN]
  cases f0 j <;> cases f1 j <;> rfl

theorem doL_left (f0 f1 : Nat → Bool) (n : Nat) (d : Int) (ll : Nat) (x : Nat → Int) : doL (leftN f0 f1) n d ll x = leftN (doB0 f0 n d ll x) (doB1 f0 f1 d) := by
  rw [doL, doB0, doB1]
  by_cases h0 : d = 0
  · subst h0
    rw [if_pos rfl, if_pos rfl, if_neg (show ¬ (0 : Int) = 1 by decide)]
    by_cases h : okHit n x ll = true
    · rw [if_pos h, if_pos h, markL_left]
    · rw [if_neg h, if_neg h]
  · rw [if_neg h0, if_neg h0]
    by_cases h1 : d = 1
    · rw [if_pos h1, if_pos h1, if_pos h1, turnN_left]
    · rw [if_neg h1, if_neg h1, if_neg h1]

theorem ones_left (f0 f1 : Nat → Bool) : ∀ n, ((fromB (fun j => f0 j || f1 j) n 0).length : Int) - (fromB f0 n 0).length = (onesN (leftN f0 f1) n : Nat)
  | 0 => rfl
  | n + 1 => by
    have := ones_left f0 f1 n
    rw [fromB_snoc, fromB_snoc, onesN, List.length_append, List.length_append, leftN]
    cases f0 n <;> cases f1 n <;> simp <;> omega

/-- What Does leaves. -/
def DoesPost (w : World) (b q0 q1 rp g n : Nat) (p0 p1 : Nat) (f0 f1 : Nat → Bool) (L : Nat → Nat) (d : Int) (ll : Nat) (x : Nat → Int) (e : Ending) (w' : World) : Prop :=
  ∃ t p0' q0' p1' q1', e = .returned (.bool t) ∧ (L = leftN f0 f1 → t = true) ∧ BlackAt w' b p0' q0' p1' q1' (doB0 f0 n d ll x) (doB1 f0 f1 d) n ∧ LeftAt w' rp g (doL L n d ll x) n ∧
    (q0' = q0 ∨ w.heap.size ≤ q0') ∧ Keep (fun i => i = b ∨ i = q0 ∨ i = g) w w'

theorem BlackAt.ne_left {w : World} {b p0 q0 p1 q1 rp g n m : Nat} {f0 f1 : Nat → Bool} {L : Nat → Nat} (h : BlackAt w b p0 q0 p1 q1 f0 f1 n) (hr : LeftAt w rp g L m) : rp ≠ b ∧ rp ≠ q0 ∧ g ≠ b ∧ g ≠ p0 ∧ g ≠ q0 ∧ g ≠ p1 ∧ g ≠ q1 := by
  have h0 := h.hb
  obtain ⟨ws, hw, -⟩ := h.h0
  obtain ⟨_, h1⟩ := hw.hp
  obtain ⟨_, h2, -⟩ := hw.hq
  obtain ⟨ws', hw', -⟩ := h.h1
  obtain ⟨_, h3⟩ := hw'.hp
  obtain ⟨_, h4, -⟩ := hw'.hq
  obtain ⟨_, r1⟩ := hr.hp
  obtain ⟨_, r2, -⟩ := hr.hg
  refine ⟨fun e => ?_, fun e => ?_, fun e => ?_, fun e => ?_, fun e => ?_, fun e => ?_, fun e => ?_⟩
  · rw [e, h0] at r1; injection r1 with r1; injection r1 with _ r1; exact absurd r1 (by decide)
  · rw [e, h2] at r1; injection r1 with r1; injection r1 with _ r1; exact absurd r1 (by decide)
  · rw [e, h0] at r2; injection r2 with r2; injection r2 with _ r2; exact absurd r2 (by decide)
  · rw [e, h1] at r2; injection r2 with r2; injection r2 with _ r2; exact absurd r2 (by decide)
  · rw [e, h2] at r2; injection r2 with r2; injection r2 with _ r2; exact absurd r2 (by decide)
  · rw [e, h3] at r2; injection r2 with r2; injection r2 with _ r2; exact absurd r2 (by decide)
  · rw [e, h4] at r2; injection r2 with r2; injection r2 with _ r2; exact absurd r2 (by decide)

set_option maxHeartbeats 4000000 in
theorem Does_hit (u : Value) (ll : Nat) (x : Nat → Nat → Int) (b p0 q0 p1 q1 rp g n : Nat) (f0 f1 : Nat → Bool) (L : Nat → Nat) (w : World) (hb : BlackAt w b p0 q0 p1 q1 f0 f1 n) (hr : LeftAt w rp g L n) (hu : IntsAt 1 w u ll x) (hug : 0 < ll → u.ownBlock ≠ some g) (huq : 0 < ll → u.ownBlock ≠ some q0) (hll : ll ≤ 403) :
    Calls Try.prog 37 #[.pointer (some ⟨b, 0, none⟩), .pointer (some ⟨rp, 0, none⟩), .agg #[.int .i64 0, u]] w (DoesPost w b q0 q1 rp g n p0 p1 f0 f1 L 0 ll (fun i => x i 0)) := by
  have lb := lt_of_heap hb.hb
  have lq := hb.h0.lt_q'
  have lg := hr.lt_g
  obtain ⟨ua, uc, hua, hux⟩ := id hu
  subst hua
  have HUG : Seal _ := ⟨hug⟩
  have HUQ : Seal _ := ⟨huq⟩
  have HUX : Seal _ := ⟨hux⟩
  obtain ⟨m1, m2, m3, m4, m5, m6, m7⟩ := hb.ne_left hr
  clear hug huq hux
  have HB0 : Seal (doB0 f0 n 0 ll (fun i => x i 0) = if okHit n (fun i => x i 0) ll then fun j => f0 j || hitB (fun i => x i 0) ll j else f0) := ⟨rfl⟩
  have HL0 : Seal (doL L n 0 ll (fun i => x i 0) = if okHit n (fun i => x i 0) ll then markL L (fun i => x i 0) ll else L) := ⟨rfl⟩
  go_enter Try.func37, Try.ntmps37
  obtain ⟨w0, hw0⟩ : ∃ w0, w0 = w.alloc (.cells #[.int .i64 0, .slice ua ll uc] 58) := ⟨_, rfl⟩
  have k0 : Keep Nope w w0 := by rw [hw0]; exact (Keep.refl _ w).alloc _
  have h0 : w0.heap[w.heap.size]? = some (.cells #[.int .i64 0, .slice ua ll uc] 58 (0, 0)) := by rw [hw0]; exact World.alloc_heap_new w _
  have c0 : w0.cell? ⟨w.heap.size, 0, none⟩ = some (.int .i64 0) := by simp [World.cell?, h0]
  have c1 : w0.cell? ⟨w.heap.size, 1, none⟩ = some (.slice ua ll uc) := by simp [World.cell?, h0]
  have z0 := k0.size
  go_wp2_with fail
  rw [← hw0]
  clear hw0 h0
  go_wp2_with fail
  have nq : ¬ w.heap.size = q0 := by omega
  have ng : ¬ w.heap.size = g := by omega
  go_region_held_law (fun w' => w'.cell? ⟨w.heap.size, 1, none⟩ = some (.slice ua ll uc))
    (first | go_keep | exact kA.cell c1 (fun h => h) | exact k1.cell (kA.cell c1 (fun h => h)) nq | exact k2.cell (k1.cell (kA.cell c1 (fun h => h)) nq) ng)
    (first
      | (obtain ⟨i0, hi, hz0, hz1, hz2⟩ := info_parts Try.infoInt; refine step_append_ints rfl _ _ 56 rfl 3 i0 Try.underlyingInts hi hz0 hz1 hz2 rfl (.slice ua ll uc) ll x rfl (hu.keep (S := Nope) (by first | exact k0 | exact k0.drew | exact k0.drew.drew) (fun _ _ h => h)) (by omega) ?_; intro vA wA oA gA; clear hi hz0 hz1 hz2; have kA : Keep Nope w0 wA := (by first | exact Keep.grown0 (Keep.refl Nope w0) gA | exact Keep.grown0 (Keep.refl Nope w0).drew gA | exact Keep.grown0 (Keep.refl Nope w0).drew.drew gA); have iA := IntsAt.of_owns oA (fun i hi => by obtain ⟨b, o, -, -, h⟩ := HUX.out i hi; exact (h 0 (by omega)).2); have lA : ∀ b, vA.ownBlock = some b → w0.heap.size ≤ b := fun b hb => (oA.lt b hb).1; have KA : Keep Nope w wA := k0.trans kA (fun _ _ h => h))
      | (go_simp; go_at_call 34; refine (Hit_at vA ll x b p0 q0 p1 q1 n f0 f1 _ (iA.keep (S := Nope) (by first | exact Keep.refl Nope _ | exact (Keep.refl Nope _).drew | exact (Keep.refl Nope _).drew.drew) (fun _ _ h => h)) ((hb.keepN KA).keepN (by first | exact Keep.refl Nope _ | exact (Keep.refl Nope _).drew | exact (Keep.refl Nope _).drew.drew)) (fun _ e => by have := lA _ e; omega) (by omega)).mono ?_; rintro e w1 ⟨rfl, k1, b1⟩; dsimp only)
      | (go_simp; go_at_call 60; refine (LHit_at (.slice ua ll uc) ll x rp g n L _ (IntsAt.keep (S := Nope) (IntsAt.keepB (S := fun i => i = q0) (hu.keep KA (fun _ _ h => h)) (by first | exact k1 | exact (Keep.refl _ _).drew.trans k1 (fun _ _ h => h)) (fun b hl e c => HUQ.out hl (c ▸ e))) (by first | exact Keep.refl Nope _ | exact (Keep.refl Nope _).drew | exact (Keep.refl Nope _).drew.drew) (fun _ _ h => h)) (LeftAt.keep (S := Nope) (LeftAt.keep (S := fun i => i = q0) (hr.keep KA (fun h => h) (fun h => h)) (by first | exact k1 | exact (Keep.refl _ _).drew.trans k1 (fun _ _ h => h)) m2 m5) (by first | exact Keep.refl Nope _ | exact (Keep.refl Nope _).drew | exact (Keep.refl Nope _).drew.drew) (fun h => h) (fun h => h)) HUG.out (by omega)).mono ?_; rintro e w2 ⟨rfl, k2, r2⟩; dsimp only))
  go_wp2
  have KW : Keep (fun i => i = b ∨ i = q0 ∨ i = g) w w2 := ((KA.of_not (fun i => i = b ∨ i = q0 ∨ i = g)).trans k1 (fun _ _ h => .inr (.inl h))).trans k2 (fun _ _ h => .inr (.inr h))
  refine bodyPost_ret (v := .bool true) (by simp [results, Try.results37, go_sem]) rfl ⟨true, p0, q0, p1, q1, rfl, fun _ => rfl, ?_, by rw [HL0.out]; exact r2, .inl rfl, KW⟩
  rw [HB0.out, doB1, if_neg (show ¬ (0 : Int) = 1 by decide)]
  exact b1.keep k2 m3.symm m4.symm m5.symm m6.symm m7.symm

theorem doB0_turn (f0 : Nat → Bool) (n : Nat) (ll : Nat) (x : Nat → Int) : doB0 f0 n 1 ll x = fun _ => false := rfl

theorem doB1_turn (f0 f1 : Nat → Bool) : doB1 f0 f1 1 = f0 := rfl

theorem doL_turn (L : Nat → Nat) (n : Nat) (ll : Nat) (x : Nat → Int) : doL L n 1 ll x = turnN L := rfl

set_option maxHeartbeats 4000000 in
theorem Does_turn (u : Value) (ll : Nat) (x : Nat → Int) (b p0 q0 p1 q1 rp g n : Nat) (f0 f1 : Nat → Bool) (L : Nat → Nat) (w : World) (hb : BlackAt w b p0 q0 p1 q1 f0 f1 n) (hr : LeftAt w rp g L n) (hL : ∀ j, L j ≤ 2) :
    Calls Try.prog 37 #[.pointer (some ⟨b, 0, none⟩), .pointer (some ⟨rp, 0, none⟩), .agg #[.int .i64 1, u]] w (DoesPost w b q0 q1 rp g n p0 p1 f0 f1 L 1 ll x) := by
  have lb := lt_of_heap hb.hb
  have lq := hb.h0.lt_q'
  have lg := hr.lt_g
  have HLE : Seal _ := ⟨hL⟩
  obtain ⟨m1, m2, m3, m4, m5, m6, m7⟩ := hb.ne_left hr
  obtain ⟨a1, a2, -, -, -, -⟩ := hb.apart
  have hEq : Seal (L = leftN f0 f1 → ((fromB (fun j => f0 j || f1 j) n 0).length : Int) - (fromB f0 n 0).length = (onesN L n : Nat)) := ⟨fun e => by rw [e]; exact ones_left f0 f1 n⟩
  clear hL
  go_enter Try.func37, Try.ntmps37
  obtain ⟨w0, hw0⟩ : ∃ w0, w0 = w.alloc (.cells #[.int .i64 1, u] 58) := ⟨_, rfl⟩
  have k0 : Keep Nope w w0 := by rw [hw0]; exact (Keep.refl _ w).alloc _
  have h0 : w0.heap[w.heap.size]? = some (.cells #[.int .i64 1, u] 58 (0, 0)) := by rw [hw0]; exact World.alloc_heap_new w _
  have c0 : w0.cell? ⟨w.heap.size, 0, none⟩ = some (.int .i64 1) := by simp [World.cell?, h0]
  have z0 := k0.size
  go_wp2_with fail
  rw [← hw0]
  clear hw0 h0
  go_wp2_with fail
  refine (BTurn_at b p0 q0 p1 q1 n f0 f1 w0 (hb.keepN k0) a1 a2).mono ?_
  rintro e w1 ⟨p, q, rfl, hp, hq, b1, k1⟩
  obtain ⟨A, hA⟩ : ∃ A, ((fromB (fun j => f0 j || f1 j) n 0).length : Int) - (fromB f0 n 0).length = A := ⟨_, rfl⟩
  rw [hA] at hEq ⊢
  clear hA
  go_wp2_with fail
  refine (LTurn_at rp g n L w1 (LeftAt.keep (hr.keep k0 (fun h => h) (fun h => h)) k1 m1 m3) HLE.out).mono ?_
  rintro e w2 ⟨rfl, k2, r2⟩
  obtain ⟨O, hO⟩ : ∃ O, onesN L n = O := ⟨_, rfl⟩
  rw [hO] at hEq ⊢
  clear hO
  go_wp2
  have KW : Keep (fun i => i = b ∨ i = q0 ∨ i = g) w w2 := ((k0.of_not (fun i => i = b ∨ i = q0 ∨ i = g)).trans k1 (fun _ _ h => .inl h)).trans k2 (fun _ _ h => .inr (.inr h))
  refine bodyPost_ret (v := .bool (A == (O : Nat))) (by simp [results, Try.results37, go_sem]) rfl ⟨A == (O : Nat), p, q, p0, q0, rfl, fun e => by rw [hEq.out e]; simp, ?_, by rw [doL_turn]; exact r2, .inr (by omega), KW⟩
  rw [doB0_turn, doB1_turn]
  exact b1.keep k2 m3.symm (by omega) (by omega) m4.symm m5.symm

set_option maxHeartbeats 4000000 in
theorem Does_other (d : Int) (u : Value) (ll : Nat) (x : Nat → Int) (b p0 q0 p1 q1 rp g n : Nat) (f0 f1 : Nat → Bool) (L : Nat → Nat) (w : World) (hb : BlackAt w b p0 q0 p1 q1 f0 f1 n) (hr : LeftAt w rp g L n) (d0 : ¬ d = 0) (d1 : ¬ d = 1) :
    Calls Try.prog 37 #[.pointer (some ⟨b, 0, none⟩), .pointer (some ⟨rp, 0, none⟩), .agg #[.int .i64 d, u]] w (DoesPost w b q0 q1 rp g n p0 p1 f0 f1 L d ll x) := by
  have e0 : Seal (doB0 f0 n d ll x = f0) := ⟨by rw [doB0, if_neg d0, if_neg d1]⟩
  have e1 : Seal (doB1 f0 f1 d = f1) := ⟨by rw [doB1, if_neg d1]⟩
  have e2 : Seal (doL L n d ll x = L) := ⟨by rw [doL, if_neg d0, if_neg d1]⟩
  go_enter Try.func37, Try.ntmps37
  obtain ⟨w0, hw0⟩ : ∃ w0, w0 = w.alloc (.cells #[.int .i64 d, u] 58) := ⟨_, rfl⟩
  have k0 : Keep Nope w w0 := by rw [hw0]; exact (Keep.refl _ w).alloc _
  have h0 : w0.heap[w.heap.size]? = some (.cells #[.int .i64 d, u] 58 (0, 0)) := by rw [hw0]; exact World.alloc_heap_new w _
  have c0 : w0.cell? ⟨w.heap.size, 0, none⟩ = some (.int .i64 d) := by simp [World.cell?, h0]
  go_wp2_with fail
  rw [← hw0]
  clear hw0 h0
  go_wp2
  exact bodyPost_ret (v := .bool true) (by simp [results, Try.results37, go_sem]) rfl ⟨true, p0, q0, p1, q1, rfl, fun _ => rfl, by rw [e0.out, e1.out]; exact hb.keepN k0, by rw [e2.out]; exact hr.keep k0 (fun h => h) (fun h => h), .inl rfl, k0.of_not _⟩

theorem Does_any (d : Int) (u : Value) (ll : Nat) (x : Nat → Nat → Int) (b p0 q0 p1 q1 rp g n : Nat) (f0 f1 : Nat → Bool) (L : Nat → Nat) (w : World) (hb : BlackAt w b p0 q0 p1 q1 f0 f1 n) (hr : LeftAt w rp g L n) (hL : ∀ j, L j ≤ 2) (hu : IntsAt 1 w u ll x) (hug : 0 < ll → u.ownBlock ≠ some g) (huq : 0 < ll → u.ownBlock ≠ some q0) (hll : ll ≤ 403) :
    Calls Try.prog 37 #[.pointer (some ⟨b, 0, none⟩), .pointer (some ⟨rp, 0, none⟩), .agg #[.int .i64 d, u]] w (DoesPost w b q0 q1 rp g n p0 p1 f0 f1 L d ll (fun i => x i 0)) := by
  by_cases d0 : d = 0
  · subst d0; exact Does_hit u ll x b p0 q0 p1 q1 rp g n f0 f1 L w hb hr hu hug huq hll
  · by_cases d1 : d = 1
    · subst d1; exact Does_turn u ll _ b p0 q0 p1 q1 rp g n f0 f1 L w hb hr hL
    · exact Does_other d u ll _ b p0 q0 p1 q1 rp g n f0 f1 L w hb hr d0 d1

end Go.Proofs.Ytpjcgjbobljaeaa
