/-
  The runs of a row, by a walk of package bits.
-/
import Derived.Test.YtpjcgjbobljaeaaBitsCount
import Derived.OwnWalk
import Derived.Maps.AppendAt
import Derived.Deep.AppendLies
namespace Go.Proofs.Ytpjcgjbobljaeaa
open Go.RowKit
set_option linter.unusedVariables false

theorem BitsAt.small' {w : World} {p q n : Nat} {f : Nat → Bool} (h : BitsAt w p q f n) : n ≤ 65536 := by
  obtain ⟨ws, hw, _⟩ := h; exact hw.small

theorem BitsAt.lt_p' {w : World} {p q n : Nat} {f : Nat → Bool} (h : BitsAt w p q f n) : p < w.heap.size := by
  obtain ⟨ws, hw, _⟩ := h; exact hw.lt_p

theorem BitsAt.lt_q' {w : World} {p q n : Nat} {f : Nat → Bool} (h : BitsAt w p q f n) : q < w.heap.size := by
  obtain ⟨ws, hw, _⟩ := h; exact hw.lt_q

theorem BitsAt.cell_n {w : World} {p q n : Nat} {f : Nat → Bool} (h : BitsAt w p q f n) : w.cell? ⟨p, 1, none⟩ = some (.int .i64 (n : Nat)) := by
  obtain ⟨ws, hw, _⟩ := h; exact hw.reads.2.1

/-- Pairs laid flat. -/
def flat : List (Nat × Nat) → List Value
  | [] => []
  | (a, k) :: l => .int .i64 (a : Nat) :: .int .i64 (k : Nat) :: flat l

theorem flat_append (l m : List (Nat × Nat)) : flat (l ++ m) = flat l ++ flat m := by
  induction l with
  | nil => rfl
  | cons x l ih => simp [flat, ih]

theorem flat_length (l : List (Nat × Nat)) : (flat l).length = l.length * 2 := by
  induction l with
  | nil => rfl
  | cons x l ih => simp [flat, ih]; omega

theorem flat_at (l : List (Nat × Nat)) : ∀ (i : Nat), i < l.length → (flat l)[i * 2]? = some (.int .i64 ((l.getD i (0, 0)).1 : Nat)) ∧ (flat l)[i * 2 + 1]? = some (.int .i64 ((l.getD i (0, 0)).2 : Nat)) := by
  induction l with
  | nil => intro i h; simp at h
  | cons x l ih =>
    intro i h
    rcases i with _ | i
    · simp [flat]
    · have := ih i (by simpa using h)
      rw [show (i + 1) * 2 = i * 2 + 1 + 1 by omega]
      simpa [flat] using this

theorem runsF_none {g : Nat → Bool} {n c : Nat} (h : nextB g n c = none) (F : Nat) : runsF g n F c = [] := by
  cases F <;> simp [runsF, h]

theorem runsF_some {g : Nat → Bool} {n c a e F : Nat} (h : nextB g n c = some a) (he : (nextB (fun t => !g t) n a).getD n = e) : runsF g n (F + 1) c = (a, e - a) :: runsF g n F e := by
  simp [runsF, h, he]

def runMeas (n : Nat) (x b : Value) : Nat := match b with | .bool true => n + 1 - (intOf x).toNat | _ => 0

theorem runMeas_lt {f : Nat → Bool} {n c a : Nat} (hac : a < c) (hcn : c ≤ n) : runMeas n (.int .i64 ((nextB f n c).getD 0 : Nat)) (.bool (nextB f n c).isSome) < runMeas n (.int .i64 (a : Nat)) (.bool true) := by
  rcases nextB_spec f n c with ⟨j, h1, h2, h3, -, -⟩ | ⟨h1, -⟩
  · rw [h1]; simp [runMeas, intOf]; omega
  · rw [h1]; simp [runMeas, intOf]; omega

/-- Owned through a keep. -/
theorem Keep.owns {S : Nat → Prop} {a b : World} (h : Keep S a b) {base : Nat} {e : TypeId} {size : Nat} {v : Value} {n : Nat} {xs : List Value} (ho : a.ownsRow base e size v n xs) (hn : ∀ k, v.ownBlock = some k → ¬ S k) : b.ownsRow base e size v n xs := by
  refine ⟨ho.1, ?_⟩
  rcases ho.2 with h1 | ⟨g, cap, cur, rfl, h2, h3, h4⟩
  · exact .inl h1
  · exact .inr ⟨g, cap, cur, rfl, h2, h.at_ h3 (hn g rfl), h4⟩

theorem Try.underlyingRuns : Try.prog.underlying 37 = some (.slice 40) := by kernel_rfl

theorem Try.infoRun : (Try.prog.info? 40).map (fun i => (i.zero, i.size, i.bytes)) = some (some (.agg #[.int .i64 0, .int .i64 0]), 2, 16) := by kernel_rfl

set_option maxHeartbeats 2000000 in
theorem Runs_at (n p q : Nat) (f : Nat → Bool) (w : World) (hb : BitsAt w p q f n) :
    Calls Try.prog 18 #[.pointer (some ⟨p, 0, none⟩)] w fun e w' =>
      ∃ v, e = .returned v ∧ w'.ownsRow w.heap.size 40 2 v (runsB f n).length (flat (runsB f n)) ∧ Keep Nope w w' := by
  have hn := hb.small'
  have lp := hb.lt_p'
  go_enter Try.func18, Try.ntmps18
  go_wp2_with (go_at_call 20; refine (Next_at _ _ p q f _ hb).mono ?_; rintro e w1 ⟨rfl, k1⟩; rw [Int.toNat_zero]; dsimp only [optV])
  go_loopw [2, 3, 4] (fun v x b wr => ∃ c F acc, c ≤ n ∧ n + 1 ≤ F + c ∧ x = .int .i64 ((nextB f n c).getD 0 : Nat) ∧ b = .bool (nextB f n c).isSome ∧ Seal (runsB f n = acc ++ runsF f n F c) ∧ acc.length ≤ c ∧
    wr.ownsRow w.heap.size 40 2 v acc.length (flat acc) ∧ Keep Nope w wr) (fun _ x b _ => runMeas n x b)
  case atStart => exact ⟨0, n + 1, [], by omega, by omega, rfl, rfl, ⟨rfl⟩, by simp, World.ownsRow_nil _ _ _ _, k1⟩
  case round =>
    obtain ⟨c, F, acc, hc, hF, rfl, rfl, hr, hal, hown, hk⟩ := hrel
    rcases nextB_spec f n c with ⟨a, ha, a1, a2, a3, a4⟩ | ⟨ha, a1⟩
    · have HA : Seal _ := ⟨ha⟩
      have fa : Seal _ := ⟨a3⟩
      rw [ha]
      clear ha a4 a3
      dsimp only [Option.getD_some, Option.isSome_some]
      have hbr := hb.keep hk (fun h => h) (fun h => h)
      go_wp2_with fail
      refine (NextClear_at _ _ p q f _ hbr).mono ?_
      rintro e w2 ⟨rfl, k2⟩
      have hbr2 := hbr.keep k2 (fun h => h) (fun h => h)
      have lp2 := hbr2.lt_p'
      obtain ⟨o, ho⟩ : ∃ o, nextB (fun j => !f j) n a = o := ⟨_, rfl⟩
      rw [Int.toNat_natCast, ho]
      obtain ⟨e, he⟩ : ∃ e, o.getD n = e := ⟨_, rfl⟩
      have hae : a < e ∧ e ≤ n := by
        rw [← he, ← ho]
        rcases nextB_spec (fun j => !f j) n a with ⟨j, h1, h2, h3, h4, -⟩ | ⟨h1, -⟩
        · rw [h1]
          have : j ≠ a := fun e => by rw [e, fa.out] at h4; simp at h4
          simp; omega
        · rw [h1]; simp; omega
      have hown2 := k2.owns hown (fun _ _ h => h)
      have hk2 := hk.trans k2 (fun _ _ h => h)
      have HO : Seal (nextB f n c = some a → runsF f n F c = (a, e - a) :: runsF f n (F - 1) e) := ⟨fun h => by
        rw [show F = (F - 1) + 1 by omega, Nat.add_sub_cancel]; exact runsF_some h (by rw [ho, he])⟩
      have hsub : (e : Int) - (a : Int) = ((e - a : Nat) : Int) := by omega
      have cn := hbr2.cell_n
      clear ho
      obtain ⟨ha1, ha2⟩ := hae
      obtain ⟨i0, hi, hz0, hz1, hz2⟩ := info_parts Try.infoRun
      rcases o with _ | e'
      · dsimp only [optV, Option.getD_none, Option.isSome_none] at he ⊢
        subst he
        go_wp2_with (at_builtin; go_loud (refine wpList_append_lies _ rfl (.tmp 25) (.tmp 31) 37 rfl w.heap.size 40 i0 _ 2 16 Try.underlyingRuns hi hz0 hz1 hz2 rfl (by omega) u2 acc.length (flat acc) rfl (hown2.alloc _) ⟨w2.heap.size, 0, none⟩ 1 1 [.int .i64 (a : Nat), .int .i64 (n - a : Nat)] rfl rfl (World.news_of_block (World.alloc_heap_new w2 _)) (by intro u hu; simp at hu; rcases hu with rfl | rfl <;> rfl) (by omega) (by unfold maxLen; omega) (by omega) (by simp; have := hk2.size; omega) (w2.heap.size + 1) (by simp) ?_); intro g cap w3 hown3 hgrow hat hlt)
        have k3 : Keep Nope w w3 := (hk2.alloc _).grown hgrow (fun k e hl => absurd (hown2.lt k e).1 (by omega))
        have hbr3 := hb.keep k3 (fun h => h) (fun h => h)
        refine (Next_at _ _ p q f _ hbr3).mono ?_
        rintro e w4 ⟨rfl, k4⟩
        rw [Int.toNat_natCast]
        dsimp only [optV]
        clear hsub cn hi hz0 hz1 hz2
        go_wp2
        refine ⟨⟨n, F - 1, acc ++ [(a, n - a)], ha2, by omega, rfl, rfl, ⟨by rw [hr.out, HO.out HA.out]; simp⟩, by simp; omega, ?_, k3.trans k4 (fun _ _ h => h)⟩, ?_⟩
        · rw [flat_append, List.length_append]; exact k4.owns hown3 (fun _ _ h => h)
        · exact runMeas_lt ha1 ha2
      · dsimp only [optV, Option.getD_some, Option.isSome_some] at he ⊢
        subst he
        go_wp2_with (at_builtin; go_loud (refine wpList_append_lies _ rfl (.tmp 25) (.tmp 31) 37 rfl w.heap.size 40 i0 _ 2 16 Try.underlyingRuns hi hz0 hz1 hz2 rfl (by omega) u2 acc.length (flat acc) rfl (hown2.alloc _) ⟨w2.heap.size, 0, none⟩ 1 1 [.int .i64 (a : Nat), .int .i64 (e' - a : Nat)] rfl rfl (World.news_of_block (World.alloc_heap_new w2 _)) (by intro u hu; simp at hu; rcases hu with rfl | rfl <;> rfl) (by omega) (by unfold maxLen; omega) (by omega) (by simp; have := hk2.size; omega) (w2.heap.size + 1) (by simp) ?_); intro g cap w3 hown3 hgrow hat hlt)
        have k3 : Keep Nope w w3 := (hk2.alloc _).grown hgrow (fun k e hl => absurd (hown2.lt k e).1 (by omega))
        have hbr3 := hb.keep k3 (fun h => h) (fun h => h)
        refine (Next_at _ _ p q f _ hbr3).mono ?_
        rintro e w4 ⟨rfl, k4⟩
        rw [Int.toNat_natCast]
        dsimp only [optV]
        clear hsub cn hi hz0 hz1 hz2
        go_wp2
        refine ⟨⟨e', F - 1, acc ++ [(a, e' - a)], ha2, by omega, rfl, rfl, ⟨by rw [hr.out, HO.out HA.out]; simp⟩, by simp; omega, ?_, k3.trans k4 (fun _ _ h => h)⟩, ?_⟩
        · rw [flat_append, List.length_append]; exact k4.owns hown3 (fun _ _ h => h)
        · exact runMeas_lt ha1 ha2
    · rw [ha]
      dsimp only [Option.getD_none, Option.isSome_none]
      go_wp2
      exact bodyPost_ret (v := u2) (by simp [results, Try.results18, go_sem]) rfl ⟨u2, rfl, by rw [hr.out, runsF_none ha, List.append_nil]; exact hown, hk⟩

end Go.Proofs.Ytpjcgjbobljaeaa
