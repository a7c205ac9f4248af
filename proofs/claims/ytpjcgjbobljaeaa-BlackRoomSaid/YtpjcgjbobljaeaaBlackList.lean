/-
  List and Count of package black.
-/
import Derived.Test.YtpjcgjbobljaeaaBlackAt
namespace Go.Proofs.Ytpjcgjbobljaeaa
open Go.RowKit
set_option linter.unusedVariables false

/-- Those from c on, below n. -/
def fromB (f : Nat → Bool) (n c : Nat) : List Nat := (List.range' c (n - c)).filter f

theorem fromB_skip {f : Nat → Bool} {n : Nat} : ∀ (d c : Nat), c + d ≤ n → (∀ t, c ≤ t → t < c + d → f t = false) → fromB f n c = fromB f n (c + d)
  | 0, c, _, _ => rfl
  | d + 1, c, h, hf => by
    have h1 : fromB f n c = fromB f n (c + 1) := by
      rw [fromB, fromB, show n - c = (n - (c + 1)) + 1 by omega, List.range'_succ, List.filter_cons, hf c (Nat.le_refl _) (by omega)]
      rfl
    rw [h1, fromB_skip d (c + 1) (by omega) (fun t a b => hf t (by omega) (by omega))]
    congr 1; omega

theorem fromB_some {f : Nat → Bool} {n c a : Nat} (h : nextB f n c = some a) : fromB f n c = a :: fromB f n (a + 1) ∧ c ≤ a ∧ a < n := by
  rcases nextB_spec f n c with ⟨j, h1, h2, h3, h4, h5⟩ | ⟨h1, _⟩
  · rw [h1] at h
    obtain rfl : j = a := Option.some.inj h
    refine ⟨?_, h2, h3⟩
    obtain ⟨d, rfl⟩ : ∃ d, j = c + d := ⟨j - c, by omega⟩
    rw [fromB_skip d c (by omega) (fun t a b => h5 t a b)]
    rw [fromB, fromB, show n - (c + d) = (n - (c + d + 1)) + 1 by omega, List.range'_succ, List.filter_cons, h4]
    rfl
  · rw [h1] at h; cases h

theorem fromB_none {f : Nat → Bool} {n c : Nat} (h : nextB f n c = none) : fromB f n c = [] := by
  rcases nextB_spec f n c with ⟨j, h1, _⟩ | ⟨_, h2⟩
  · rw [h1] at h; cases h
  · rw [fromB, List.filter_eq_nil_iff]
    intro t ht
    rw [List.mem_range'_1] at ht
    rw [h2 t ht.1 (by omega)]; simp

theorem fromB_len (f : Nat → Bool) (n c : Nat) : (fromB f n c).length ≤ n - c := by
  have := List.length_filter_le f (List.range' c (n - c))
  rw [List.length_range'] at this
  exact this

/-- Numbers as values. -/
def natVs (l : List Nat) : List Value := l.map fun x => .int .i64 (x : Nat)

theorem Try.underlyingInts : Try.prog.underlying 56 = some (.slice 3) := by kernel_rfl

theorem Try.infoInt : (Try.prog.info? 3).map (fun i => (i.zero, i.size, i.bytes)) = some (some (.int .i64 0), 1, 8) := by kernel_rfl

theorem List_nil (w : World) : Calls Try.prog 45 #[.pointer none] w fun e w' => e = .returned (.slice none 0 0) ∧ w = w' := by
  go_enter Try.func45, Try.ntmps45
  go_wp2
  go_ret
  exact ⟨rfl, rfl⟩

set_option maxHeartbeats 2000000 in
theorem List_at (b p0 q0 p1 q1 n : Nat) (f0 f1 : Nat → Bool) (w : World) (h : BlackAt w b p0 q0 p1 q1 f0 f1 n) :
    Calls Try.prog 45 #[.pointer (some ⟨b, 0, none⟩)] w fun e w' =>
      ∃ v, e = .returned v ∧ w'.ownsRow w.heap.size 3 1 v (fromB (fun j => f0 j || f1 j) n 0).length (natVs (fromB (fun j => f0 j || f1 j) n 0)) ∧ Keep Nope w w' := by
  have hn := h.h0.small'
  obtain ⟨f, hf⟩ : ∃ f, f = fun j => f0 j || f1 j := ⟨_, rfl⟩
  have next : ∀ (i : Int) (W : World), Keep Nope w W → Calls Try.prog 62 #[.pointer (some ⟨b, 0, none⟩), .int .i64 i] W fun e w' => e = .returned (optV (nextB f n i.toNat)) ∧ Keep Nope W w' := by
    intro i W k
    rw [hf]
    exact bnext_at i b p0 q0 p1 q1 n f0 f1 W (h.keepN k)
  have NX : Seal _ := ⟨next⟩
  rw [← hf]
  clear hf next
  go_enter Try.func45, Try.ntmps45
  go_wp2_with fail
  refine (NX.out 0 _ (Keep.refl _ _)).mono ?_
  rintro e w1 ⟨rfl, k1⟩
  rw [Int.toNat_zero]
  dsimp only [optV]
  go_wp2_with fail
  go_loopw [2, 3, 4] (fun v x b wr => ∃ (c : Nat) (acc : List Nat), c ≤ n ∧ x = .int .i64 ((nextB f n c).getD 0 : Nat) ∧ b = .bool (nextB f n c).isSome ∧ Seal (fromB f n 0 = acc ++ fromB f n c) ∧ acc.length ≤ c ∧
    wr.ownsRow w.heap.size 3 1 v acc.length (natVs acc) ∧ Keep Nope w wr) (fun _ x b _ => runMeas n x b)
  case atStart => exact ⟨0, [], by omega, rfl, rfl, ⟨rfl⟩, by simp, World.ownsRow_nil _ _ _ _, k1⟩
  case round =>
    obtain ⟨c, acc, hc, rfl, rfl, hr, hal, hown, hk⟩ := hrel
    cases ha : nextB f n c with
    | some a =>
      obtain ⟨f1', f2', f3'⟩ := fromB_some ha
      have F1 : Seal _ := ⟨f1'⟩
      clear ha f1'
      dsimp only [Option.getD_some, Option.isSome_some]
      go_wp2_with (at_builtin; obtain ⟨i0, hi, hz0, hz1, hz2⟩ := info_parts Try.infoInt; go_loud (refine wpList_append_lies _ rfl (.tmp 20) (.tmp 22) 56 rfl w.heap.size 3 i0 _ 1 8 Try.underlyingInts hi hz0 hz1 hz2 rfl (by omega) u2 acc.length (natVs acc) rfl (hown.alloc _) ⟨wr.heap.size, 0, none⟩ 1 1 [.int .i64 (a : Nat)] rfl rfl (World.news_of_block (World.alloc_heap_new wr _)) (by intro u hu; simp at hu; subst hu; rfl) (by omega) (by unfold maxLen; omega) (by omega) (by simp; have := hk.size; omega) (wr.heap.size + 1) (by simp) ?_); intro g cap w3 hown3 hgrow hat hlt; clear hi hz0 hz1 hz2)
      have k3 : Keep Nope w w3 := (hk.alloc _).grown hgrow (fun k e hl => absurd (hown.lt k e).1 (by omega))
      refine (NX.out _ _ k3).mono ?_
      rintro e w4 ⟨rfl, k4⟩
      rw [show ((a : Int) + 1).toNat = a + 1 by omega]
      dsimp only [optV]
      go_wp2
      refine ⟨⟨a + 1, acc ++ [a], by omega, rfl, rfl, ⟨by rw [hr.out, F1.out]; simp⟩, by simp; omega, ?_, k3.trans k4 (fun _ _ h => h)⟩, ?_⟩
      · rw [natVs, List.map_append, List.length_append]; exact k4.owns hown3 (fun _ _ h => h)
      · exact runMeas_lt (by omega) (by omega)
    | none =>
      dsimp only [Option.getD_none, Option.isSome_none]
      go_wp2
      exact bodyPost_ret (v := u2) (by simp [results, Try.results45, go_sem]) rfl ⟨u2, rfl, by rw [hr.out, fromB_none ha, List.append_nil]; exact hown, hk⟩

theorem BCount_nil (w : World) : Calls Try.prog 33 #[.pointer none] w fun e w' => e = .returned (.int .i64 0) ∧ w = w' := by
  go_enter Try.func33, Try.ntmps33
  go_wp2_with (go_at_call 45; refine (List_nil _).mono ?_; rintro e w' ⟨rfl, rfl⟩)
  go_ret
  exact ⟨rfl, rfl⟩

theorem owns_len {w : World} {base : Nat} {e : TypeId} {size : Nat} {v : Value} {n : Nat} {xs : List Value} (h : w.ownsRow base e size v n xs) : ∃ a cap, v = .slice a n cap := by
  rcases h.2 with ⟨rfl, rfl⟩ | ⟨g, cap, cur, rfl, _⟩
  · exact ⟨none, 0, rfl⟩
  · exact ⟨_, cap, rfl⟩

theorem BCount_at (b p0 q0 p1 q1 n : Nat) (f0 f1 : Nat → Bool) (w : World) (h : BlackAt w b p0 q0 p1 q1 f0 f1 n) :
    Calls Try.prog 33 #[.pointer (some ⟨b, 0, none⟩)] w fun e w' => e = .returned (.int .i64 ((fromB (fun j => f0 j || f1 j) n 0).length : Nat)) ∧ Keep Nope w w' := by
  go_enter Try.func33, Try.ntmps33
  go_wp2_with fail
  refine (List_at b p0 q0 p1 q1 n f0 f1 w h).mono ?_
  rintro e w1 ⟨v, rfl, o1, k1⟩
  obtain ⟨a, cap, rfl⟩ := owns_len o1
  go_wp2
  go_ret
  exact ⟨rfl, k1⟩

end Go.Proofs.Ytpjcgjbobljaeaa
