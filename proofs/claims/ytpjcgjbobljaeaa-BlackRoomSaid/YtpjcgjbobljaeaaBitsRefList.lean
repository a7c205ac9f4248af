/-
  The document's Runs, walked.
-/
import Derived.Test.YtpjcgjbobljaeaaBitsRefRuns
namespace Go.Proofs.Ytpjcgjbobljaeaa
open Go.RowKit
set_option linter.unusedVariables false

theorem flat_bump (pre : List (Nat × Nat)) (a k : Nat) : ((flat (pre ++ [(a, k)])).set (pre.length * 2) (.int .i64 (a : Nat))).set (pre.length * 2 + 1) (.int .i64 ((k + 1 : Nat) : Int)) = flat (pre ++ [(a, k + 1)]) := by
  rw [flat_append, flat_append]
  have h := flat_length pre
  rw [List.set_append_right _ _ (by omega), h, Nat.sub_self]
  rw [List.set_append_right _ _ (by omega), h, Nat.add_sub_cancel_left]
  rfl

set_option maxRecDepth 20000 in
set_option maxHeartbeats 4000000 in
theorem RRuns_at (n p g : Nat) (f : Nat → Bool) (w : World) (hb : RefAt w p g f n) :
    Calls Try.prog 58 #[.pointer (some ⟨p, 0, none⟩)] w fun e w' =>
      ∃ v, e = .returned v ∧ w'.ownsRow w.heap.size 40 2 v (runsB f n).length (flat (runsB f n)) ∧ Keep Nope w w' := by
  have hn := hb.small
  have lp := hb.lt_p
  have lg := hb.lt_g
  go_enter Try.func58, Try.ntmps58
  go_wp2_with fail
  go_loopw [3, 4] (fun v x wr => ∃ (i : Nat) (acc : List (Nat × Nat)), i ≤ n ∧ x = .int .i64 (i : Nat) ∧ Seal (RunsOf f i 0 acc) ∧ acc.length ≤ i ∧
    wr.ownsRow w.heap.size 40 2 v acc.length (flat acc) ∧ Keep Nope w wr) (fun _ x _ => n - (intOf x).toNat)
  case atStart => exact ⟨0, [], by omega, rfl, ⟨.nil 0 (fun t a b => by omega)⟩, by simp, World.ownsRow_nil _ _ _ _, Keep.refl _ _⟩
  case round =>
    obtain ⟨i, acc, hi, rfl, hr, hal, hown, hk⟩ := hrel
    have hb2 := hb.keep hk (fun h => h) (fun h => h)
    obtain ⟨cap, hc⟩ := hb2.head
    by_cases hin : i < n
    · have hin' : (i : Int) < n := by omega
      have hbit := hb2.bit hin
      obtain ⟨v, hv⟩ : ∃ v, v = f i := ⟨_, rfl⟩
      rw [← hv] at hbit
      have HV : Seal _ := ⟨hv⟩
      clear hv
      cases v with
      | false =>
        have hr' : Seal (RunsOf f (i + 1) 0 acc) := ⟨hr.out.skip HV.out.symm⟩
        go_wp2
        exact ⟨⟨i + 1, acc, by omega, by go_num, hr', by omega, hown, hk⟩, by simp only [intOf]; omega⟩
      | true =>
        have append : ∀ (hp : i = 0 ∨ f (i - 1) = false), Seal (RunsOf f (i + 1) 0 (acc ++ [(i, 1)])) := fun hp => ⟨hr.out.push HV.out.symm (by omega) (hp.imp (fun e => e.symm) id)⟩
        have AP : Seal _ := ⟨append⟩
        clear append
        rcases Nat.eq_zero_or_pos i with h0 | h0
        · have hr' := AP.out (.inl h0)
          have h0' : ¬ (0 : Int) < i := by omega
          clear h0
          go_wp2_with (at_builtin; obtain ⟨i0, hi0, hz0, hz1, hz2⟩ := info_parts Try.infoRun; go_loud (refine wpList_append_lies _ rfl (.tmp 51) (.tmp 54) 37 rfl w.heap.size 40 i0 _ 2 16 Try.underlyingRuns hi0 hz0 hz1 hz2 rfl (by omega) u3 acc.length (flat acc) rfl (hown.alloc _) ⟨wr.heap.size, 0, none⟩ 1 1 [.int .i64 (i : Nat), .int .i64 1] rfl rfl (World.news_of_block (World.alloc_heap_new wr _)) (by intro u hu; simp at hu; rcases hu with rfl | rfl <;> rfl) (by omega) (by unfold maxLen; omega) (by omega) (by simp; have := hk.size; omega) (wr.heap.size + 1) (by simp) ?_); intro g2 cap2 w3 hown3 hgrow hat hlt; clear hi0 hz0 hz1 hz2)
          have k3 : Keep Nope w w3 := (hk.alloc _).grown hgrow (fun k e hl => absurd (hown.lt k e).1 (by omega))
          refine ⟨⟨i + 1, acc ++ [(i, 1)], by omega, by go_num, hr', by simp; omega, ?_, k3⟩, by simp only [intOf]; omega⟩
          rw [flat_append, List.length_append]; exact hown3
        · have h0' : (0 : Int) < i := by omega
          have hbit1 := hb2.bit (show i - 1 < n by omega)
          have hi1 : (i : Int) - 1 = ((i - 1 : Nat) : Int) := by omega
          obtain ⟨u, hu⟩ : ∃ u, u = f (i - 1) := ⟨_, rfl⟩
          rw [← hu] at hbit1
          have HU : Seal _ := ⟨hu⟩
          clear hu
          cases u with
          | false =>
            have hr' := AP.out (.inr HU.out.symm)
            go_wp2_with (at_builtin; obtain ⟨i0, hi0, hz0, hz1, hz2⟩ := info_parts Try.infoRun; go_loud (refine wpList_append_lies _ rfl (.tmp 51) (.tmp 54) 37 rfl w.heap.size 40 i0 _ 2 16 Try.underlyingRuns hi0 hz0 hz1 hz2 rfl (by omega) u3 acc.length (flat acc) rfl (hown.alloc _) ⟨wr.heap.size, 0, none⟩ 1 1 [.int .i64 (i : Nat), .int .i64 1] rfl rfl (World.news_of_block (World.alloc_heap_new wr _)) (by intro u hu; simp at hu; rcases hu with rfl | rfl <;> rfl) (by omega) (by unfold maxLen; omega) (by omega) (by simp; have := hk.size; omega) (wr.heap.size + 1) (by simp) ?_); intro g2 cap2 w3 hown3 hgrow hat hlt; clear hi0 hz0 hz1 hz2)
            have k3 : Keep Nope w w3 := (hk.alloc _).grown hgrow (fun k e hl => absurd (hown.lt k e).1 (by omega))
            refine ⟨⟨i + 1, acc ++ [(i, 1)], by omega, by go_num, hr', by simp; omega, ?_, k3⟩, by simp only [intOf]; omega⟩
            rw [flat_append, List.length_append]; exact hown3
          | true =>
            obtain ⟨pre, a, k, hacc, hak, hb3⟩ := hr.out.bump HV.out.symm HU.out.symm h0
            have HB : Seal _ := ⟨hb3⟩
            clear hb3
            subst hacc
            obtain ⟨m, hm⟩ : ∃ m, m = pre.length := ⟨_, rfl⟩
            rw [List.length_append, List.length_singleton, ← hm] at hal hown
            have HM : Seal _ := ⟨hm⟩
            rcases hown.2 with ⟨-, h5⟩ | ⟨g2, cap2, cur, rfl, h2, h3, h4, h5, h6, h7⟩
            · omega
            have gl2 := lt_of_heap h3
            have key : ∀ j, j < (m + 1) * 2 → wr.cell? ⟨g2, j, none⟩ = (flat (pre ++ [(a, k)]))[j]? := fun j hj => by
              rw [← h7, List.getElem?_take_of_lt hj]
              simp [World.cell?, h3]
            have hfl := flat_at (pre ++ [(a, k)]) m (by rw [List.length_append, ← hm]; simp)
            have gx := (key (m * 2) (by omega)).trans hfl.1
            have gy := (key (m * 2 + 1) (by omega)).trans hfl.2
            rw [show (pre ++ [(a, k)]).getD m (0, 0) = (a, k) by rw [hm]; simp [List.getD_eq_getElem?_getD]] at gx gy
            dsimp only at gx gy
            have gfx := free_of_block h3 (m * 2)
            have gfy := free_of_block h3 (m * 2 + 1)
            have hki : k + 1 ≤ 65537 := by omega
            have KEY : Seal _ := ⟨key⟩
            have H3 : Seal _ := ⟨h3⟩
            clear hm key hfl h3 h7 h6 h5 h4
            go_wp2
            have o3 := (((hown.stored (m * 2) (.int .i64 (a : Nat))).1.stored (m * 2 + 1) (.int .i64 ((k + 1 : Nat) : Int))).1.alloc (.cells #[.int .i64 (a : Nat), .int .i64 ((k + 1 : Nat) : Int)] 40))
            rw [HM.out, flat_bump, ← HM.out] at o3
            refine ⟨⟨i + 1, pre ++ [(a, k + 1)], by omega, by go_num, HB, by rw [List.length_append, ← HM.out]; simp; omega, ?_, ?_⟩, by simp only [intOf]; omega⟩
            · rw [List.length_append, List.length_singleton, ← HM.out]; exact o3
            · exact ((hk.setCell (fun h => by have h : g2 < w.heap.size := h; omega) _).setCell (fun h => by have h : g2 < w.heap.size := h; omega) _).alloc _
    · have hin' : ¬ (i : Int) < n := by omega
      have he : Seal (acc = runsB f n) := ⟨by
        have h1 := hr.out
        rw [show i = n by omega] at h1
        exact h1.unique (runsF_of (n + 1) 0 (by omega) (by omega))⟩
      go_wp2
      exact bodyPost_ret (v := u3) (by simp [results, Try.results58, go_sem]) rfl ⟨u3, rfl, by rw [← he.out]; exact hown, hk⟩

end Go.Proofs.Ytpjcgjbobljaeaa
