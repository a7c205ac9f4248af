/-
  Both tables of pins over one row; the document's comparing; the chapter's example.
-/
import Derived.Test.YtapmbignpdkfbaaPinU
import Derived.Deep.RegionHeldLaw
namespace Go.Proofs.Ytapmbignpdkfbaa
open Go.RowKit
set_option linter.unusedVariables false

def cL (L : List Nat) : Nat → Nat := fun x => L.count x

def pinL (L : List Nat) (g : Nat) : List Nat := if pinE (cL L) g = 0 then insL L g else L

/-- A row in order, of words. -/
def OkL (L : List Nat) : Prop := L.Pairwise (· ≤ ·) ∧ ∀ x ∈ L, x < 18446744073709551616

theorem OkL.nil : OkL [] := ⟨List.Pairwise.nil, fun x h => by cases h⟩

theorem OkL.pin {L : List Nat} (h : OkL L) {g : Nat} (hg : g < 18446744073709551616) : OkL (pinL L g) := by
  unfold pinL
  split
  · exact ⟨insL_sorted h.1 g, fun x hx => by
      rcases (insL_mem L g x).1 hx with rfl | hx
      · exact hg
      · exact h.2 x hx⟩
  · exact h

theorem OkL.erase {L : List Nat} (h : OkL L) (g : Nat) : OkL (L.erase g) := ⟨h.1.sublist List.erase_sublist, fun x hx => h.2 x (List.mem_of_mem_erase hx)⟩

theorem pinC_L (L : List Nat) (g : Nat) : pinC (cL L) g = cL (pinL L g) := by
  unfold pinC pinL
  split
  · funext x
    unfold cL
    rw [insL_count]
    split
    · rename_i h; rw [h]
    · rfl
  · rfl

theorem unC_L (L : List Nat) (g : Nat) : unC (cL L) g = cL (L.erase g) := by
  funext x
  unfold unC cL
  by_cases h : x = g
  · subst h
    rw [if_pos rfl, List.count_erase_self]
  · rw [if_neg h, List.count_erase_of_ne h]

theorem KeyF_L {L : List Nat} (h : OkL L) : KeyF (cL L) (onceU L) := ⟨(onceU_rise h.1).imp fun h => by omega, fun x => by
  rw [onceU_mem h.1]
  constructor
  · exact fun hx => ⟨h.2 x hx, List.count_pos_iff.2 hx⟩
  · exact fun hx => List.count_pos_iff.1 hx.2⟩

theorem pinL_len (L : List Nat) (g : Nat) : (pinL L g).length ≤ L.length + 1 := by
  unfold pinL
  split
  · rw [insL_len]; omega
  · omega

section

variable {w : World} {p b n : Nat} {L : List Nat}

theorem PinL_at (h : PinAt w p b n (cL L)) (hn : n < 4096) {g : Nat} (hg : g < 18446744073709551616) :
    Calls Try.prog 10 #[.pointer (some ⟨p, 0, none⟩), .int .u64 (g : Nat)] w fun e w' => e = .returned (.int .i64 (pinE (cL L) g : Nat)) ∧ PinAt w' p b (n + 1) (cL (pinL L g)) ∧ Keep (fun k => k = b) w w' := by
  rw [← pinC_L]
  exact Pin_at h hn hg

theorem UnpinL_at (h : PinAt w p b n (cL L)) (hn : n < 4096) {g : Nat} (hg : g < 18446744073709551616) (hl : L.length < 1000000) :
    Calls Try.prog 11 #[.pointer (some ⟨p, 0, none⟩), .int .u64 (g : Nat)] w fun e w' => e = .returned (.int .i64 (unE (cL L) g : Nat)) ∧ PinAt w' p b (n + 1) (cL (L.erase g)) ∧ Keep (fun k => k = b) w w' := by
  rw [← unC_L]
  exact Unpin_at h hn hg (by have := List.count_le_length (a := g) (l := L); show L.count g < _; omega)

theorem ListL_at (h : PinAt w p b n (cL L)) (ho : OkL L) (hl : L.length < 1000000) : Calls Try.prog 14 #[.pointer (some ⟨p, 0, none⟩)] w (RowKPost (onceU L) w) :=
  List_at h (KeyF_L ho) (onceU_rise ho.1) (by have := onceU_len L; omega)

theorem TimesL_at (h : PinAt w p b n (cL L)) (ho : OkL L) (hl : L.length < 1000000) : Calls Try.prog 15 #[.pointer (some ⟨p, 0, none⟩)] w fun e w' => e = .returned (.int .i64 (L.length : Nat)) ∧ Keep Nope w w' := by
  have hs : ((onceU L).map (cL L)).sum = L.length := sum_once ho.1
  have := Times_at h (KeyF_L ho) (onceU_rise ho.1) (by have := onceU_len L; omega) (by omega)
  rwa [hs] at this

end

set_option maxHeartbeats 1000000 in
theorem Same_yes (L : List Nat) (v u : Value) (w : World) (hv : RowW w v L) (hu : RowW w u L) (hl : L.length ≤ 1000000) :
    Calls Try.prog 13 #[v, u] w fun e w' => e = .returned (.bool true) ∧ Keep Nope w w' := by
  have HV : Seal _ := ⟨hv⟩
  have HU : Seal _ := ⟨hu⟩
  obtain ⟨va, vc, rfl, -⟩ := hv
  obtain ⟨ua, uc, rfl, -⟩ := hu
  obtain ⟨N, hN⟩ : ∃ N, L.length = N := ⟨_, rfl⟩
  have HN : Seal _ := ⟨hN⟩
  rw [hN] at HV HU hl ⊢
  clear hN
  have hne : ((N : Int) != (N : Int)) = false := by simp
  go_enter Try.func13, Try.ntmps13
  go_wp2_with fail
  go_loopw [5] (fun z wr => ∃ j : Nat, j ≤ N ∧ z = .int .i64 (j : Nat) ∧ Keep Nope w wr) (fun z _ => N - (intOf z).toNat)
  case atStart => exact ⟨0, Nat.zero_le _, rfl, Keep.refl _ _⟩
  case round =>
    obtain ⟨j, hj, rfl, hk⟩ := hrel
    have HK : Seal _ := ⟨hk⟩
    by_cases hjl : j < N
    · have hjl' : (j : Int) < (N : Int) := by omega
      obtain ⟨g1, o1, c1, e1, f1⟩ := (HV.out.keepN hk).fam (by rw [HN.out]; omega)
      obtain ⟨g2, o2, c2, e2, f2⟩ := (HU.out.keepN hk).fam (by rw [HN.out]; omega)
      injection e1 with a1 a2 a3
      injection e2 with b1 b2 b3
      subst a1
      subst b1
      clear a2 a3 b2 b3 hk
      have x1 := f1 j (by rw [HN.out]; exact hjl)
      have x2 := f2 j (by rw [HN.out]; exact hjl)
      obtain ⟨X, hX⟩ : ∃ X, L.getD j 0 = X := ⟨_, rfl⟩
      rw [hX] at x1 x2
      have hXX : ((X : Int) != (X : Int)) = false := by simp
      clear f1 f2 hX
      go_wp2_with fail
      go_quiet (fail)
      go_wp2_with fail
      exact ⟨⟨j + 1, by omega, by go_num, HK.out.drewN _⟩, by simp only [intOf]; omega⟩
    · have hjl' : ¬ (j : Int) < (N : Int) := by omega
      clear hk
      go_wp2_with fail
      exact bodyPost_ret (v := .bool true) (by simp [results, Try.results13, go_sem]) rfl ⟨rfl, HK.out⟩

theorem rowW_lit {w : World} {g cap : Nat} {T : TypeId} {xs : List Nat} {cs : Array Value} (h : w.heap[g]? = some (.cells cs T (0, 0))) (hc : cs.toList = u64L xs) : RowW w (.slice (some ⟨g, 0, none⟩) xs.length cap) xs :=
  ⟨_, _, rfl, fun i x hx => ⟨g, 0, rfl, by
    have : cs.toList[i]? = some (.int .u64 (x : Nat)) := by rw [hc, u64L, List.getElem?_map, hx]; rfl
    simp only [World.cell?, h, Nat.zero_add]
    simpa using this⟩⟩

set_option maxRecDepth 20000 in
set_option maxHeartbeats 4000000 in
theorem alive17 (w : World) : Calls Try.prog 8 #[] w fun e w' => e = .returned (.bool true) ∧ Keep Nope w w' := by
  go_enter Try.func8, Try.ntmps8
  go_wp2_with fail
  refine (PNew_at w).mono ?_
  rintro e w1 ⟨p, b, rfl, hP, hp, hb, k1⟩
  have HP : Seal (PinAt w1 p b 0 (cL [])) := ⟨hP⟩
  have HK : Seal (Keep Nope w w1) := ⟨k1⟩
  clear hP k1
  have e1 : pinE (cL []) 32 = 0 := by decide
  have e2 : pinE (cL [32]) 16 = 0 := by decide
  have e3 : pinE (cL [16, 32]) 32 = 0 := by decide
  have H1 : Seal (∀ W, PinAt W p b 0 (cL []) → Calls Try.prog 10 #[.pointer (some ⟨p, 0, none⟩), .int .u64 32] W fun e w' => e = .returned (.int .i64 0) ∧ PinAt w' p b 1 (cL [32]) ∧ Keep (fun k => k = b) W w') := ⟨fun W h => PinL_at (g := 32) h (by decide) (by decide)⟩
  have H2 : Seal (∀ W, PinAt W p b 1 (cL [32]) → Calls Try.prog 10 #[.pointer (some ⟨p, 0, none⟩), .int .u64 16] W fun e w' => e = .returned (.int .i64 0) ∧ PinAt w' p b 2 (cL [16, 32]) ∧ Keep (fun k => k = b) W w') := ⟨fun W h => PinL_at (g := 16) h (by decide) (by decide)⟩
  have H3 : Seal (∀ W, PinAt W p b 2 (cL [16, 32]) → Calls Try.prog 10 #[.pointer (some ⟨p, 0, none⟩), .int .u64 32] W fun e w' => e = .returned (.int .i64 0) ∧ PinAt w' p b 3 (cL [16, 32, 32]) ∧ Keep (fun k => k = b) W w') := ⟨fun W h => PinL_at (g := 32) h (by decide) (by decide)⟩
  have H4 : Seal (∀ W, PinAt W p b 3 (cL [16, 32, 32]) → Calls Try.prog 14 #[.pointer (some ⟨p, 0, none⟩)] W (RowKPost [16, 32] W)) := ⟨fun W h => ListL_at h ⟨by decide, by decide⟩ (by decide)⟩
  have H5 : Seal (∀ W, PinAt W p b 3 (cL [16, 32, 32]) → Calls Try.prog 12 #[.pointer (some ⟨p, 0, none⟩), .int .u64 32] W fun e w' => e = .returned (.int .i64 2) ∧ w' = W) := ⟨fun W h => Count_at (g := 32) h (by decide)⟩
  have H6 : Seal (∀ W, PinAt W p b 3 (cL [16, 32, 32]) → Calls Try.prog 15 #[.pointer (some ⟨p, 0, none⟩)] W fun e w' => e = .returned (.int .i64 3) ∧ Keep Nope W w') := ⟨fun W h => TimesL_at h ⟨by decide, by decide⟩ (by decide)⟩
  have H7 : Seal (∀ W, PinAt W p b 3 (cL [16, 32, 32]) → Calls Try.prog 11 #[.pointer (some ⟨p, 0, none⟩), .int .u64 32] W fun e w' => e = .returned (.int .i64 0) ∧ PinAt w' p b 4 (cL [16, 32]) ∧ Keep (fun k => k = b) W w') := ⟨fun W h => UnpinL_at (g := 32) h (by decide) (by decide) (by decide)⟩
  have H8 : Seal (∀ W, PinAt W p b 4 (cL [16, 32]) → Calls Try.prog 11 #[.pointer (some ⟨p, 0, none⟩), .int .u64 32] W fun e w' => e = .returned (.int .i64 0) ∧ PinAt w' p b 5 (cL [16]) ∧ Keep (fun k => k = b) W w') := ⟨fun W h => UnpinL_at (g := 32) h (by decide) (by decide) (by decide)⟩
  have H9 : Seal (∀ W, PinAt W p b 5 (cL [16]) → Calls Try.prog 14 #[.pointer (some ⟨p, 0, none⟩)] W (RowKPost [16] W)) := ⟨fun W h => ListL_at h ⟨by decide, by decide⟩ (by decide)⟩
  have H10 : Seal (∀ W, PinAt W p b 5 (cL [16]) → Calls Try.prog 11 #[.pointer (some ⟨p, 0, none⟩), .int .u64 32] W fun e w' => e = .returned (.int .i64 3) ∧ PinAt w' p b 6 (cL [16]) ∧ Keep (fun k => k = b) W w') := ⟨fun W h => UnpinL_at (g := 32) h (by decide) (by decide) (by decide)⟩
  have H11 : Seal (∀ W, PinAt W p b 6 (cL [16]) → Calls Try.prog 10 #[.pointer (some ⟨p, 0, none⟩), .int .u64 0] W fun e w' => e = .returned (.int .i64 2) ∧ PinAt w' p b 7 (cL [16]) ∧ Keep (fun k => k = b) W w') := ⟨fun W h => PinL_at (g := 0) h (by decide) (by decide)⟩
  clear e1 e2 e3
  have HT : Seal (∀ W W', Keep Nope w W → Keep (fun k => k = b) W W' → Keep Nope w W') := ⟨fun W W' h k => h.trans k (fun i hi e => by omega)⟩
  go_wp2_with fail
  refine (H1.out _ HP.out).mono ?_
  rintro e w2 ⟨rfl, hP2, k⟩
  have HP2 : Seal _ := ⟨hP2⟩
  have HK2 : Seal _ := ⟨HT.out _ _ HK.out k⟩
  clear hP2 k HP HK H1
  go_wp2_with fail
  refine (H2.out _ HP2.out).mono ?_
  rintro e w3 ⟨rfl, hP2, k⟩
  have HP3 : Seal _ := ⟨hP2⟩
  have HK3 : Seal _ := ⟨HT.out _ _ HK2.out k⟩
  clear hP2 k HP2 HK2 H2
  go_wp2_with fail
  refine (H3.out _ HP3.out).mono ?_
  rintro e w4 ⟨rfl, hP2, k⟩
  have HP4 : Seal _ := ⟨hP2⟩
  have HK4 : Seal _ := ⟨HT.out _ _ HK3.out k⟩
  clear hP2 k HP3 HK3 H3
  go_wp2_with fail
  refine (H4.out _ HP4.out).mono ?_
  rintro e w5 ⟨va, rfl, hR, k⟩
  have HP5 : Seal _ := ⟨HP4.out.keep k (fun h => h) (fun h => h)⟩
  have HK5 : Seal _ := ⟨HK4.out.trans k (fun _ _ h => h)⟩
  have hbs := HP4.out.lt.2
  have HR5 : Seal _ := ⟨hR⟩
  clear hR k HP4 HK4 H4
  go_wp2_with fail
  refine (H5.out _ HP5.out).mono ?_
  rintro e _ ⟨rfl, rfl⟩
  clear H5
  go_wp2_with fail
  refine (H6.out _ HP5.out).mono ?_
  rintro e w6 ⟨rfl, k⟩
  have HP6 : Seal _ := ⟨HP5.out.keep k (fun h => h) (fun h => h)⟩
  have HK6 : Seal _ := ⟨HK5.out.trans k (fun _ _ h => h)⟩
  have HR6 : Seal _ := ⟨rowU_keep HR5.out k (fun _ _ h => h)⟩
  clear k HP5 HK5 HR5 H6
  go_wp2_with fail
  refine (H7.out _ HP6.out).mono ?_
  rintro e w7 ⟨rfl, hP2, k⟩
  have HP7 : Seal _ := ⟨hP2⟩
  have HK7 : Seal _ := ⟨HT.out _ _ HK6.out k⟩
  have HR7 : Seal _ := ⟨rowU_keep HR6.out k (fun x ho h => by have := rowU_block HR6.out ho; omega)⟩
  clear hP2 k HP6 HK6 HR6 H7
  go_wp2_with fail
  refine (H8.out _ HP7.out).mono ?_
  rintro e w8 ⟨rfl, hP2, k⟩
  have HP8 : Seal _ := ⟨hP2⟩
  have HK8 : Seal _ := ⟨HT.out _ _ HK7.out k⟩
  have HR8 : Seal _ := ⟨rowU_keep HR7.out k (fun x ho h => by have := rowU_block HR7.out ho; omega)⟩
  clear hP2 k HP7 HK7 HR7 H8
  go_wp2_with fail
  refine (Same_yes [16, 32] _ _ _ ((RowW.of_owns HR8.out).keepN ((Keep.refl _ w8).alloc _)) (rowW_lit (World.alloc_heap_new w8 _) rfl) (by decide)).mono ?_
  rintro e w9 ⟨rfl, k⟩
  have k9 := ((Keep.refl Nope w8).alloc _).trans k (fun _ _ h => h)
  have HP9 : Seal _ := ⟨HP8.out.keep k9 (fun h => h) (fun h => h)⟩
  have HK9 : Seal _ := ⟨HK8.out.trans k9 (fun _ _ h => h)⟩
  clear k k9 HP8 HK8 HR8
  go_wp2_with fail
  refine (H9.out _ HP9.out).mono ?_
  rintro e w10 ⟨vb, rfl, hR, k⟩
  have HPa : Seal _ := ⟨HP9.out.keep k (fun h => h) (fun h => h)⟩
  have HKa : Seal _ := ⟨HK9.out.trans k (fun _ _ h => h)⟩
  have HRa : Seal _ := ⟨hR⟩
  clear hR k HP9 HK9 H9
  go_wp2_with fail
  refine (Same_yes [16] _ _ _ ((RowW.of_owns HRa.out).keepN ((Keep.refl _ w10).alloc _)) (rowW_lit (World.alloc_heap_new w10 _) rfl) (by decide)).mono ?_
  rintro e w11 ⟨rfl, k⟩
  have k9 := ((Keep.refl Nope w10).alloc _).trans k (fun _ _ h => h)
  have HPb : Seal _ := ⟨HPa.out.keep k9 (fun h => h) (fun h => h)⟩
  have HKb : Seal _ := ⟨HKa.out.trans k9 (fun _ _ h => h)⟩
  clear k k9 HPa HKa HRa
  go_wp2_with fail
  refine (H10.out _ HPb.out).mono ?_
  rintro e w12 ⟨rfl, hP2, k⟩
  have HPc : Seal _ := ⟨hP2⟩
  have HKc : Seal _ := ⟨HT.out _ _ HKb.out k⟩
  clear hP2 k HPb HKb H10
  go_wp2_with fail
  refine (H11.out _ HPc.out).mono ?_
  rintro e w13 ⟨rfl, hP2, k⟩
  have HKd : Seal _ := ⟨HT.out _ _ HKc.out k⟩
  clear hP2 k HPc HKc H11
  go_wp2_with fail
  exact bodyPost_ret (v := .bool true) (by simp [results, Try.results8, go_sem]) rfl ⟨rfl, HKd.out⟩

end Go.Proofs.Ytapmbignpdkfbaa
