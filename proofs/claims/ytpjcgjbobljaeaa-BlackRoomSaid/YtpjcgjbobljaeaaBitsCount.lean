/-
  How many bits of a run are set, by a walk of package bits.
-/
import Derived.Test.YtpjcgjbobljaeaaBitsAsk2
namespace Go.Proofs.Ytpjcgjbobljaeaa
open Go.RowKit
set_option linter.unusedVariables false
attribute [local go_sem] Oper.semAt_some

set_option maxHeartbeats 2000000 in
theorem Count_yes (i k n p q : Nat) (f : Nat → Bool) (w : World) (hb : BitsAt w p q f n) (hi : i + k ≤ n) :
    Calls Try.prog 15 #[.pointer (some ⟨p, 0, none⟩), .int .i64 (i : Nat), .int .i64 (k : Nat)] w fun e w' =>
      e = .returned (.tuple #[.int .i64 (cntB f i k : Nat), .int .i64 0]) ∧ Keep Nope w w' := by
  obtain ⟨ws, hw, hbits⟩ := hb
  have HB : Seal _ := ⟨hbits⟩
  clear hbits
  have r1 := hw.reads.2.1
  have lp := hw.lt_p
  have lp' : p < w.heap.size + 1 := by omega
  have lq := hw.lt_q
  have hn := hw.small
  refine (callsIn_wide (n := 0)).1 ?_
  refine callsIn_of_wp_marks Try.func15 rfl trivial ?_
  simp only [Try.ntmps15, List.size_toArray, List.length_cons, List.length_nil, Nat.reduceAdd, Nat.reduceSub, Array.replicate_succ, Array.replicate_zero, List.push_toArray, List.append_toArray, List.nil_append, List.cons_append]
  gi_wp2_with fail
  refine ⟨trivial, rfl, ?_⟩
  refine (callsIn_wide.2 (in_yes _ _ n p _ (by rw [World.cell?_alloc_past _ _ _ (by simpa using lp'), World.cell?_alloc_past _ _ _ lp]; exact r1) (by omega) (by omega) (by omega) (by omega) (by omega))).mono ?_
  rintro e w' ⟨rfl, rfl⟩
  gi_wp2_with fail
  refine ⟨trivial, rfl, ?_⟩
  refine (callsIn_wide.2 (pieces_any _ _ _)).mono ?_
  rintro e w' ⟨rfl, rfl⟩
  gi_wp2_with fail
  obtain ⟨wl, hwl⟩ : ∃ wl, wl = (((w.alloc (.cells #[.pointer (some ⟨p, 0, none⟩)] 24)).alloc (.cells #[.int .i64 0] 3)).alloc (.cells #[.int .i64 (i : Nat)] 3)).alloc (.cells #[.int .i64 (k : Nat)] 3) := ⟨_, rfl⟩
  rw [← hwl]
  have hz : wl.heap.size = w.heap.size + 4 := by rw [hwl]; simp
  have kl : Keep Nope w wl := by rw [hwl]; exact ((((Keep.refl _ w).alloc _).alloc _).alloc _).alloc _
  have gb : wl.heap[w.heap.size]? = some (.cells #[.pointer (some ⟨p, 0, none⟩)] 24 (0, 0)) := by
    rw [hwl]; exact ((((Keep.refl Nope _).alloc _).alloc _).alloc _).at_ (World.alloc_heap_new w _) (fun h => h)
  have gc : wl.heap[w.heap.size + 1]? = some (.cells #[.int .i64 ((cntB f i 0 : Nat) : Int)] 3 (0, 0)) := by
    rw [hwl]; exact (((Keep.refl Nope _).alloc _).alloc _).at_ (alloc_new' _ _ (by simp)) (fun h => h)
  have gi : wl.heap[w.heap.size + 1 + 1]? = some (.cells #[.int .i64 (i : Nat)] 3 (0, 0)) := by
    rw [hwl]; exact ((Keep.refl Nope _).alloc _).at_ (alloc_new' _ _ (by simp)) (fun h => h)
  have gk : wl.heap[w.heap.size + 1 + 1 + 1]? = some (.cells #[.int .i64 (k : Nat)] 3 (0, 0)) := by
    rw [hwl]; exact alloc_new' _ _ (by simp)
  clear hwl
  refine wpIn_range (n := 0) (gf := 65) (lb := #[.pointer (some ⟨w.heap.size + 1 + 1 + 1, 0, none⟩), .pointer (some ⟨w.heap.size + 1 + 1, 0, none⟩)]) rfl (enters_of Try.func65 (by kernel_rfl) rfl)
    (pieces_iter (w := wl) (i := i) (n := k) (by omega) _ _ gk gi (by omega) (R := fun b => b = w.heap.size + 1) (fun b hb => by omega)) (fun b hb => by omega) (fun b hb => by omega) (fun _ => rfl)
    (fun pre W => Keep Nope w W ∧ W.heap[w.heap.size]? = some (.cells #[.pointer (some ⟨p, 0, none⟩)] 24 (0, 0)) ∧
      ∃ L, L ≤ k ∧ pcs i k = pre ++ pcs (i + L) (k - L) ∧ W.heap[w.heap.size + 1]? = some (.cells #[.int .i64 (cntB f i L : Nat)] 3 (0, 0)))
    (fun _ _ _ => False) ?hI ?hIx ?h0 ?hround ?hdone ?hstop
  case hI =>
    rintro pre A B ⟨hK, hx, L, h1, h2, hc⟩ hk
    exact ⟨hK.trans hk (fun b hb h => by omega), hk.at_ hx (by omega), L, h1, h2, hk.at_ hc (by omega)⟩
  case hIx => rintro c pre A B h _; exact h
  case h0 => exact ⟨kl, gb, 0, by omega, rfl, gc⟩
  case hround =>
    rintro pre ⟨xw, xb, K⟩ rest W hx ⟨hK, hbx, L, hL, hp, hc⟩ hs
    have hxr : (xw, xb, K) :: rest = pcs (i + L) (k - L) := List.append_cancel_left (hx.symm.trans hp)
    have hkL : 0 < k - L := by
      rcases Nat.eq_zero_or_pos (k - L) with h | h
      · rw [h, pcs_nil] at hxr; cases hxr
      · exact h
    rw [pcs_cons _ _ hkL] at hxr
    injection hxr with hx1 hx2
    injection hx1 with hx1 hx3
    injection hx3 with hx3 hx4
    have hK1 : xb + K ≤ 64 := by omega
    have hK2 : L + K ≤ k := by omega
    have hK3 : 0 < K := by omega
    have hxwn : xw < (n + 63) / 64 := by omega
    have hbits : ∀ t, t < K → (i + L + t) / 64 = xw ∧ (i + L + t) % 64 = xb + t := fun t ht => by omega
    have HX : Seal (rest = pcs (i + (L + K)) (k - (L + K))) := ⟨by rw [hx2, ← hx4, Nat.add_assoc, Nat.sub_sub]⟩
    have HT : Seal _ := ⟨hbits⟩
    have HP : Seal _ := ⟨hx⟩
    clear hx1 hx2 hx3 hx4 hbits hx hp hkL
    have hW := hw.keep hK (fun h => h) (fun h => h)
    have hl := hW.len
    have hxl : xw < ws.length := by omega
    obtain ⟨v, hv, r2, r3, hvs⟩ := hW.word xw hxl
    obtain ⟨⟨cap, r0⟩, -, -, -⟩ := hW.reads
    have cc := cell_of_one hc
    have fc := free_of_one hc
    have cb := cell_of_one hbx
    have lb := lt_of_heap hbx
    have lc := lt_of_heap hc
    have lpW := hW.lt_p
    have lqW := hW.lt_q
    have hcl := cntB_le f i L
    obtain ⟨c0, hc0⟩ : ∃ c0, c0 = cntB f i L := ⟨_, rfl⟩
    rw [← hc0] at cc hcl
    have HC : Seal _ := ⟨hc0⟩
    obtain ⟨o, ho⟩ : ∃ o, o = Wd.ones (v &&& pmk xb K) := ⟨_, rfl⟩
    have hol : o ≤ 64 := by rw [ho]; exact Wd.ones_le _
    have hoc : Seal (o = cntB f (i + L) K) := ⟨by
      rw [ho, ones_piece _ _ _ hK1]
      refine cntB_shift K (fun t ht => ?_)
      obtain ⟨h1, h2⟩ := HT.out t ht
      rw [← HB.out _ (by omega), bitOf, h1, h2, hvs.out]⟩
    have hand := u64_and_nat v (pmk xb K) hv (pmask_lt hK1)
    have hal : Seal (v &&& pmk xb K < 18446744073709551616) := ⟨Nat.lt_of_le_of_lt Nat.and_le_left hv⟩
    have HO : Seal (Wd.ones (v &&& pmk xb K) = o) := ⟨ho.symm⟩
    clear hl hv ho hc0
    dsimp only [pieceV]
    gi_wp2_with fail
    refine ⟨(Keep.refl _ W).alloc _, ?_⟩
    intro W2 hc2 hf2 hk2 hs2 hr2
    gi_wp2_with fail
    refine wpIn_region_quiet_tail 15 (by kernel_rfl) (by kernel_rfl) (by kernel_rfl) (fun _ _ h => h) ?_
    simp only [List.take_succ_cons, List.take_zero, List.drop_succ_cons, List.drop_zero]
    repeat (go_big_quiet_step (((go_at_call 51; exact Calls.quiet_of_same ((Ones_any _ _ (by omega) (by have := hal.out; omega)).mono fun _ _ ⟨a, b⟩ => ⟨b, a.symm⟩)))))
    refine wpQuiet_nil ?_
    intro _ hw'
    obtain ⟨nq, hw''⟩ := hw'
    subst hw''
    go_wp2
    have hsum : wrap64 ((c0 : Int) + (Wd.ones (v &&& pmk xb K) : Nat)) = ((c0 + o : Nat) : Int) := by
      rw [HO.out]; unfold wrap64; omega
    rw [hsum]
    have kW : Keep Nope W (W.alloc (.cells #[.int .i64 (xw : Nat), .int .i64 (xb : Nat), .int .u64 (pmk xb K : Nat)] 86)) := (Keep.refl _ W).alloc _
    have kW2 := (kW.of_not (fun k => k = wl.heap.size + 1)).trans hk2 (fun _ _ h => h)
    have kE : Keep (fun b => b = w.heap.size + 1) W2 ((W2.drewN nq).setCell ⟨w.heap.size + 1, 0, none⟩ (.int .i64 (c0 + o : Nat))) := ((Keep.refl (fun b => b = w.heap.size + 1) W2).drewN nq).setCell (fun _ => rfl) _
    refine ⟨kE, (hK.trans kW2 (fun b hb h => by omega)).trans kE (fun b hb h => by omega), kE.at_ (kW2.at_ hbx (by omega)) (by omega), L + K, hK2, by rw [HP.out, HX.out]; simp, ?_⟩
    rw [cntB_add, ← hoc.out, ← HC.out]
    have h := block_setCell (w := W2.drewN nq) (j := 0) (kW2.at_ hc (by omega)) (.int .i64 (c0 + o : Nat))
    simpa using h
  case hdone =>
    rintro W ⟨hK, hbx, L, hL, hp, hc⟩ hs hD
    have hLk : L = k := by
      have h : pcs (i + L) (k - L) = [] := List.append_cancel_left ((List.append_nil _).trans hp).symm
      rcases Nat.eq_zero_or_pos (k - L) with e | e
      · omega
      · rw [pcs_cons _ _ e] at h; cases h
    subst hLk
    clear hp
    have hcc := hc
    have cc := cell_of_one hc
    have fc := free_of_one hc
    have lc := lt_of_heap hc
    obtain ⟨c0, hc0⟩ : ∃ c0, c0 = cntB f i L := ⟨_, rfl⟩
    rw [← hc0] at cc hcc
    have HC : Seal _ := ⟨hc0⟩
    clear hc hc0 gc hL
    gi_wp2_with fail
    have hD' : (W.setCell ⟨w.heap.size + 1, 0, none⟩ (.int .i64 (c0 : Nat))).heap[wl.heap.size]? = some (.deferred (some [])) :=
      (Below.heap_setCell _ _ _ _ (by show wl.heap.size ≠ w.heap.size + 1; omega)).trans hD
    refine ⟨by simp, .inl ⟨_, _, rfl, run_takeDeferred hD', ?_⟩⟩
    have kE : Keep (fun b => b = w.heap.size + 1 ∨ b = wl.heap.size) W ((W.setCell ⟨w.heap.size + 1, 0, none⟩ (.int .i64 (c0 : Nat))).putObj wl.heap.size (.deferred none)) :=
      ((Keep.refl (fun b => b = w.heap.size + 1 ∨ b = wl.heap.size) W).setCell (fun _ => .inl rfl) _).putObj (fun _ => .inr rfl) _
    have hcE : ((W.setCell ⟨w.heap.size + 1, 0, none⟩ (.int .i64 (c0 : Nat))).putObj wl.heap.size (.deferred none)).heap[w.heap.size + 1]? = some (.cells #[.int .i64 (c0 : Nat)] 3 (0, 0)) :=
      ((Keep.refl (fun b => b = wl.heap.size) _).putObj (fun _ => rfl) _).at_ (block_setCell hcc _) (by omega)
    have ccE := cell_of_one hcE
    refine ⟨.tuple #[.int .i64 (c0 : Nat), .int .i64 0], by simp [results, Try.results15, go_sem, ccE], by rw [HC.out], hK.trans kE (fun b hb h => by omega)⟩
  case hstop =>
    intro c pre W _ h
    exact h.elim

theorem Count_no (i k : Int) (n p q : Nat) (f : Nat → Bool) (w : World) (hb : BitsAt w p q f n) (hn : ¬ (0 ≤ i ∧ 0 ≤ k ∧ i ≤ n ∧ k ≤ n - i)) :
    Calls Try.prog 15 #[.pointer (some ⟨p, 0, none⟩), .int .i64 i, .int .i64 k] w fun e w' => e = .returned (.tuple #[.int .i64 0, .int .i64 2]) ∧ Keep Nope w w' := by
  obtain ⟨ws, hw, hbits⟩ := hb
  obtain ⟨⟨cap, r0⟩, r1, r2, r3⟩ := hw.reads
  have lp := hw.lt_p
  have lp' : p < w.heap.size + 1 := by omega
  have hs := hw.small
  have HN : Seal _ := ⟨hn⟩
  clear hn
  refine (callsIn_wide (n := 0)).1 ?_
  refine callsIn_of_wp_marks Try.func15 rfl trivial ?_
  simp only [Try.ntmps15, List.size_toArray, List.length_cons, List.length_nil, Nat.reduceAdd, Nat.reduceSub, Array.replicate_succ, Array.replicate_zero, List.push_toArray, List.append_toArray, List.nil_append, List.cons_append]
  gi_wp2_with fail
  refine ⟨trivial, rfl, ?_⟩
  refine (callsIn_wide.2 (in_no _ _ n p _ (by rw [World.cell?_alloc_past _ _ _ (by simpa using lp'), World.cell?_alloc_past _ _ _ lp]; exact r1) HN.out (by omega) (by omega))).mono ?_
  rintro e w' ⟨rfl, rfl⟩
  gi_wp2_with fail
  have cc := cell_of_one (alloc_new' (w.alloc (.cells #[.pointer (some ⟨p, 0, none⟩)] 24)) (.cells #[.int .i64 0] 3) (k := w.heap.size + 1) (by simp))
  exact ⟨.tuple #[.int .i64 0, .int .i64 2], by simp [results, Try.results15, go_sem, cc], rfl, ((Keep.refl _ w).alloc _).alloc _⟩

theorem Count_nil (i k : Int) (w : World) : Calls Try.prog 15 #[.pointer none, .int .i64 i, .int .i64 k] w fun e w' => e = .returned (.tuple #[.int .i64 0, .int .i64 1]) ∧ Keep Nope w w' := by
  refine (callsIn_wide (n := 0)).1 ?_
  refine callsIn_of_wp_marks Try.func15 rfl trivial ?_
  simp only [Try.ntmps15, List.size_toArray, List.length_cons, List.length_nil, Nat.reduceAdd, Nat.reduceSub, Array.replicate_succ, Array.replicate_zero, List.push_toArray, List.append_toArray, List.nil_append, List.cons_append]
  gi_wp2_with fail
  refine ⟨trivial, rfl, ?_⟩
  refine (callsIn_wide.2 (in_nil _ _ _)).mono ?_
  rintro e w' ⟨rfl, rfl⟩
  gi_wp2_with fail
  have cc := cell_of_one (alloc_new' (w.alloc (.cells #[.pointer none] 24)) (.cells #[.int .i64 0] 3) (k := w.heap.size + 1) (by simp))
  exact ⟨.tuple #[.int .i64 0, .int .i64 1], by simp [results, Try.results15, go_sem, cc], rfl, ((Keep.refl _ w).alloc _).alloc _⟩

end Go.Proofs.Ytpjcgjbobljaeaa
