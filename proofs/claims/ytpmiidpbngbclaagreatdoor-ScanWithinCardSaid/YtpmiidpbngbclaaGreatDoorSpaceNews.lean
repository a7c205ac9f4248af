/-
  New and Starts of package space.
  New of package space, where there is none.
-/
import Derived.Test.YtpmiidpbngbclaaGreatDoorSpacePut
namespace Go.Proofs.YtpmiidpbngbclaaGreatDoor
open Go.RowKit
set_option linter.unusedVariables false

theorem Starts_at (P : Sp) (W : Nat → Nat) (f : Nat → Bool) (w : World) (h : SpaceAt w P W f) :
    Calls Tryz.prog 17 #[.pointer (some ⟨P.s, 0, none⟩)] w fun e w' =>
      ∃ p q, e = .returned (.pointer (some ⟨p, 0, none⟩)) ∧ w.heap.size ≤ p ∧ w.heap.size ≤ q ∧ BitsAt w' p q f (P.n / 2) ∧ Keep Nope w w' := by
  obtain ⟨c0, c1, c2⟩ := h.head
  have hb := h.bt
  generalize P.n / 2 = H at hb
  clear h
  go_enter Tryz.func17, Tryz.ntmps17
  go_wp2_with fail
  refine (Copy_at H P.b P.bq f w hb).mono ?_
  rintro e w1 ⟨p, q, rfl, hp, hq, b1, k1⟩
  go_wp2
  go_ret
  exact ⟨p, q, rfl, hp, hq, b1, k1⟩

theorem BitsAt.ne' {w : World} {p q n : Nat} {f : Nat → Bool} (h : BitsAt w p q f n) : ¬ p = q := by
  obtain ⟨ws, hw, _⟩ := h; exact hw.ne

/-- What New makes. -/
def MadeSpace (w : World) (t tq n : Nat) (ts : List TypR) (e : Ending) (w' : World) : Prop :=
  ∃ P : Sp, P.t = t ∧ P.tq = tq ∧ P.ts = ts ∧ P.n = n ∧ e = .returned (.tuple #[.pointer (some ⟨P.s, 0, none⟩), .int .i64 0]) ∧ SpaceHas w' P (gapL 0 (n / 2)) ∧ (∀ k, P.own k → w.heap.size ≤ k) ∧ w.heap.size ≤ P.s ∧ w.heap.size ≤ P.b ∧ Keep Nope w w'

/-- The words too. -/
def MadeSpaceW (w : World) (t tq n : Nat) (ts : List TypR) (e : Ending) (w' : World) : Prop :=
  ∃ P : Sp, P.t = t ∧ P.tq = tq ∧ P.ts = ts ∧ P.n = n ∧ e = .returned (.tuple #[.pointer (some ⟨P.s, 0, none⟩), .int .i64 0]) ∧ SpaceHasW w' P (layGap (fun _ => 0) 0 (n / 2)) (gapL 0 (n / 2)) ∧ (∀ k, P.own k → w.heap.size ≤ k) ∧ w.heap.size ≤ P.s ∧ w.heap.size ≤ P.b ∧ Keep Nope w w'

theorem ArenaAt.ne_' {w : World} {a q n : Nat} {W : Nat → Nat} (h : ArenaAt w a q W n) : ¬ a = q := h.ne

set_option maxHeartbeats 2000000 in
theorem SNew_yesW (n t tq : Nat) (ts : List TypR) (w : World) (hT : TableAt w t tq ts) (hF : FieldsAt w) (ht : t < w.heap.size) (htq : tq < w.heap.size) (h1 : 16 ≤ n) (h2 : n ≤ 65536) (h3 : n % 2 = 0) :
    Calls Tryz.prog 53 #[.int .i64 (n : Nat), .pointer (some ⟨t, 0, none⟩)] w (MadeSpaceW w t tq n ts) := by
  have hq : Seal (((n : Nat) : Int) / 2 = ((n / 2 : Nat) : Int)) := ⟨by omega⟩
  have hq' : Seal (((n : Nat) : Int).tdiv 2 = ((n / 2 : Nat) : Int)) := ⟨by rw [Int.tdiv_eq_ediv_of_nonneg (by omega)]; omega⟩
  have HTT : Seal _ := ⟨hT⟩
  have HFF : Seal _ := ⟨hF⟩
  have hF0 := hF.1
  clear hT hF
  have HN3 : Seal _ := ⟨h3⟩
  clear h3
  go_enter Tryz.func53, Tryz.ntmps53
  go_wp2_with fail
  refine (ANew_yes n w h1 h2 HN3.out).mono ?_
  rintro e w1 ⟨a, q, rfl, ha, hq1, ar1, k1⟩
  go_wp2_with fail
  try rw [hq.out]
  try rw [hq'.out]
  refine (New_yes (n / 2) w1 (by omega)).mono ?_
  rintro e w2 ⟨b, bq, rfl, hb, hbq, bt2, k2⟩
  have HAR : Seal _ := ⟨ar1⟩
  have HBT : Seal _ := ⟨bt2⟩
  have la := ar1.lt_a
  have lq := ar1.lt_q
  have naq := ar1.ne_'
  have lb := bt2.lt_p'
  have lbq := bt2.lt_q'
  have nbq := bt2.ne'
  have z1 := k1.size
  have z2 := k2.size
  clear ar1 bt2 hq hq'
  go_wp2_with fail
  obtain ⟨w3, hw3⟩ : ∃ w3, w3 = w2.alloc (.cells #[.pointer (some ⟨a, 0, none⟩), .pointer (some ⟨t, 0, none⟩), .pointer (some ⟨b, 0, none⟩)] 127) := ⟨_, rfl⟩
  rw [← hw3]
  have k3 : Keep Nope w2 w3 := by rw [hw3]; exact (Keep.refl _ w2).alloc _
  have b3 : w3.heap[w2.heap.size]? = some (.cells #[.pointer (some ⟨a, 0, none⟩), .pointer (some ⟨t, 0, none⟩), .pointer (some ⟨b, 0, none⟩)] 127 (0, 0)) := by rw [hw3]; exact World.alloc_heap_new w2 _
  have z3 : w3.heap.size = w2.heap.size + 1 := by rw [hw3]; simp
  clear hw3
  have K3 := (k1.then' k2).then' k3
  obtain ⟨P, hP⟩ : ∃ P : Sp, P = ⟨w2.heap.size, a, q, t, tq, b, bq, n, ts⟩ := ⟨_, rfl⟩
  have S3 : SpaceAt w3 P (fun _ => 0) (fun _ => false) := by
    subst hP
    refine ⟨b3, HAR.out.keepN (k2.then' k3), HTT.out.keepN K3, HBT.out.keep k3 (fun h => h) (fun h => h), HFF.out.keepN K3, ⟨?_, ?_, ?_⟩, HN3.out, ?_⟩
    · intro k hk
      simp only [Sp.own] at hk
      dsimp only
      omega
    · dsimp only; omega
    · dsimp only; omega
    · intro k hk
      simp only [Sp.all] at hk
      omega
  have hPs : P.s = w2.heap.size := by rw [hP]
  have hPn : P.n / 2 = n / 2 := by rw [hP]
  have HS3 : Seal _ := ⟨S3⟩
  have HG := Gran_at P _ _ w3 S3
  have HGp : Seal (Calls Tryz.prog 94 #[.pointer (some ⟨P.s, 0, none⟩), .int .i64 0, .int .i64 ((n / 2 : Nat) : Int)] w3 (LaidGap P (layGap (fun _ => 0) 0 (n / 2)) (fun _ => false) w3)) := ⟨gap_any 0 (n / 2) P _ _ w3 S3 (by rw [hPn]; omega)⟩
  rw [hPn, hPs] at HG
  rw [hPs] at HGp
  have HGr : Seal _ := ⟨HG⟩
  have HPP : Seal _ := ⟨hP⟩
  have HZZ : Seal _ := ⟨z3⟩
  clear S3 HG hP z3 hPs hPn b3
  try go_wp2_with fail
  refine HGr.out.mono ?_
  rintro e w4 ⟨rfl, rfl⟩
  go_wp2_with fail
  refine HGp.out.mono ?_
  rintro e w5 ⟨rfl, k5, S5⟩
  have HS5 : Seal _ := ⟨S5⟩
  clear S5
  go_wp2
  have hP := HPP.out
  have z3 := HZZ.out
  refine bodyPost_ret (v := .tuple #[.pointer (some ⟨w2.heap.size, 0, none⟩), .int .i64 0]) (by simp [results, Tryz.results53, go_sem]) rfl ⟨P, by rw [hP], by rw [hP], by rw [hP], by rw [hP], by rw [hP], ⟨_, HS5.out, ⟨?_, ?_, ?_⟩, ?_⟩, ?_, by rw [hP]; dsimp only; omega, by rw [hP]; dsimp only; omega, ?_⟩
  · have := gapL_tiles 0 (n / 2)
    rw [hP]
    rwa [Nat.zero_add] at this
  · intro c hc
    obtain ⟨h0, rfl⟩ := gapL_mem hc
    exact layGap_at h0
  · intro c hc
    obtain ⟨h0, rfl⟩ := gapL_mem hc
    exact gap_ok h0 (by omega)
  · intro i hi
    exact (startOf_gap 0 (n / 2) i).symm
  · intro k hk
    rw [hP] at hk
    simp only [Sp.own] at hk
    omega
  · refine K3.trans k5 (fun i hi h => ?_)
    rw [hP] at h
    dsimp only at h
    omega

theorem SNew_yes (n t tq : Nat) (ts : List TypR) (w : World) (hT : TableAt w t tq ts) (hF : FieldsAt w) (ht : t < w.heap.size) (htq : tq < w.heap.size) (h1 : 16 ≤ n) (h2 : n ≤ 65536) (h3 : n % 2 = 0) :
    Calls Tryz.prog 53 #[.int .i64 (n : Nat), .pointer (some ⟨t, 0, none⟩)] w (MadeSpace w t tq n ts) :=
  (SNew_yesW n t tq ts w hT hF ht htq h1 h2 h3).mono fun e w' ⟨P, a1, a2, a3, a4, a5, a6, a7⟩ => ⟨P, a1, a2, a3, a4, a5, ⟨_, a6⟩, a7⟩

end Go.Proofs.YtpmiidpbngbclaaGreatDoor

namespace Go.Proofs.YtpmiidpbngbclaaGreatDoor
open Go.RowKit
set_option linter.unusedVariables false

theorem SNew_nil (n : Int) (w : World) : Calls Tryz.prog 53 #[.int .i64 n, .pointer none] w fun e w' => e = .returned (.tuple #[.pointer none, .int .i64 1]) ∧ w' = w := by
  go_enter Tryz.func53, Tryz.ntmps53
  go_wp2
  exact bodyPost_ret (v := .tuple #[.pointer none, .int .i64 1]) (by simp [results, Tryz.results53, go_sem]) rfl ⟨rfl, rfl⟩

theorem SNew_no (n : Int) (t : Nat) (w : World) (h : okWords n = false) : Calls Tryz.prog 53 #[.int .i64 n, .pointer (some ⟨t, 0, none⟩)] w fun e w' => e = .returned (.tuple #[.pointer none, .int .i64 2]) ∧ w' = w := by
  have HA : Seal _ := ⟨ANew_no n w h⟩
  clear h
  go_enter Tryz.func53, Tryz.ntmps53
  go_wp2_with fail
  refine HA.out.mono ?_
  rintro e w' ⟨rfl, rfl⟩
  go_wp2
  exact bodyPost_ret (v := .tuple #[.pointer none, .int .i64 2]) (by simp [results, Tryz.results53, go_sem]) rfl ⟨rfl, rfl⟩

end Go.Proofs.YtpmiidpbngbclaaGreatDoor
