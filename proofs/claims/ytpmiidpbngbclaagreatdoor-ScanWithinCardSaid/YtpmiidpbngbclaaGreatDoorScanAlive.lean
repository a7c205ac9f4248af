/-
  The chapter's example of scan.
-/
import Derived.Test.YtpmiidpbngbclaaGreatDoorScanH
import Derived.Test.YtpmiidpbngbclaaGreatDoorFindAlive
namespace Go.Proofs.YtpmiidpbngbclaaGreatDoor
open Go.RowKit
set_option linter.unusedVariables false

def al18Y (i : Nat) : Nat := [1048581, 1048582, 1048583, 0].getD i 0

def al18Z (i : Nat) : Nat := [1048578, 0].getD i 0

def al18U (i : Nat) : Nat := [1048579].getD i 0

theorem al18_pins : riseL (pinsL 16 al11B al18Y 4) = [1] := by
  rw [show pinsL 16 al11B al18Y 4 = [1] by decide +kernel, riseL_one]

theorem al18_hits : riseL (hitsL 16 al11B al18Y 4) = [3] := by
  rw [show hitsL 16 al11B al18Y 4 = [3, 3] by decide +kernel]
  exact riseL_of (by simp) (by simp)

theorem al18_pre : riseL (preLL 16 al11B al18Z 2) = [1] := by
  rw [show preLL 16 al11B al18Z 2 = [1] by decide +kernel, riseL_one]

theorem al18_ok (i : Nat) (h : i < 2) : preOk 16 al11B (al18Z i) := by
  have : i = 0 ∨ i = 1 := by omega
  rcases this with rfl | rfl
  · exact .inr ⟨1, by decide +kernel, by decide +kernel⟩
  · exact .inl (by decide +kernel)

theorem al18_no : ¬ preOk 16 al11B (al18U 0) := by
  rintro (h | ⟨g, h, h'⟩)
  · revert h; decide +kernel
  · rw [show ofW 16 al11B (al18U 0) = some 1 by decide +kernel] at h
    injection h with h
    subst h
    revert h'
    decide +kernel

theorem words_of {w : World} {b n cap : Nat} {cs : Array Value} {T : TypeId} {ys : Nat → Nat} (h : w.heap[b]? = some (.cells cs T (0, 0))) (hy : ∀ i, i < n → cs[i]? = some (.int .u64 (ys i : Nat)) ∧ ys i < 18446744073709551616) : WordArg w (.slice (some ⟨b, 0, none⟩) n cap) n ys :=
  ⟨_, _, rfl, fun i hi => ⟨b, 0, rfl, by simp only [World.cell?, h, Nat.zero_add]; simpa using (hy i hi).1, (hy i hi).2⟩⟩

/-- The three calls of the example. -/
theorem al18_of {P : Sp} (hn : P.n = 16) (v : Value) (w : World) (h : SpaceHas w P al11B) (hv : WordArg w v 4 al18Y) :
    Calls Tryz.prog 44 #[.pointer (some ⟨P.s, 0, none⟩), v] w fun e w' => ∃ a c a' c', e = .returned (.agg #[.slice a 1 c, .slice a' 1 c', .int .i64 1]) ∧ (IntsIn w' (.slice a 1 c) [1] ∧ IntsIn w' (.slice a' 1 c') [3]) ∧ Keep Nope w w' := by
  obtain ⟨W, f, hs, hc, hst⟩ := h
  refine (ScanOf_at P W f al11B v 4 al18Y w hs hc hst hv (by omega)).mono ?_
  rintro e w' ⟨pv, hv', rfl, o1, o2, k⟩
  rw [hn] at o1 o2 ⊢
  rw [al18_pins] at o1
  rw [al18_hits] at o2
  have i1 := ints_of_owns o1 (by simp)
  have i2 := ints_of_owns o2 (by simp)
  obtain ⟨a, c, rfl⟩ := ints_slice i1
  obtain ⟨a', c', rfl⟩ := ints_slice i2
  exact ⟨a, c, a', c', by rw [show looseL 16 al18Y 4 = 1 by decide +kernel]; rfl, ⟨i1, i2⟩, k⟩

theorem al18_yes {P : Sp} (hn : P.n = 16) (v : Value) (w : World) (h : SpaceHas w P al11B) (hv : WordArg w v 2 al18Z) :
    Calls Tryz.prog 42 #[.pointer (some ⟨P.s, 0, none⟩), v] w fun e w' => ∃ a c, e = .returned (.tuple #[.slice a 1 c, .int .i64 0]) ∧ IntsIn w' (.slice a 1 c) [1] ∧ Keep Nope w w' := by
  obtain ⟨W, f, hs, hc, hst⟩ := h
  refine (Precise_at P W f al11B v 2 al18Z w hs hc hst hv (by omega)).mono ?_
  rintro e w' ⟨k, ⟨-, v', rfl, o1⟩ | ⟨⟨i, hi, hno⟩, -⟩⟩
  · rw [hn, al18_pre] at o1
    have i1 := ints_of_owns o1 (by simp)
    obtain ⟨a, c, rfl⟩ := ints_slice i1
    exact ⟨a, c, rfl, i1, k⟩
  · rw [hn] at hno
    exact absurd (al18_ok i hi) hno

theorem al18_not {P : Sp} (hn : P.n = 16) (v : Value) (w : World) (h : SpaceHas w P al11B) (hv : WordArg w v 1 al18U) :
    Calls Tryz.prog 42 #[.pointer (some ⟨P.s, 0, none⟩), v] w fun e w' => e = .returned (.tuple #[.slice none 0 0, .int .i64 8]) ∧ Keep Nope w w' := by
  obtain ⟨W, f, hs, hc, hst⟩ := h
  refine (Precise_at P W f al11B v 1 al18U w hs hc hst hv (by omega)).mono ?_
  rintro e w' ⟨k, ⟨h, -⟩ | ⟨-, rfl⟩⟩
  · have := h 0 (by omega)
    rw [hn] at this
    exact absurd this al18_no
  · exact ⟨rfl, k⟩

set_option maxRecDepth 20000 in
set_option maxHeartbeats 8000000 in
theorem alive18 (w : World) (hF : FieldsAt w) : Calls Tryz.prog 41 #[] w fun e w' => e = .returned (.bool true) ∧ Keep Nope w w' := by
  have HF : Seal _ := ⟨hF⟩
  clear hF
  go_enter Tryz.func41, Tryz.ntmps41
  go_wp2_with fail
  obtain ⟨w1, hw1⟩ : ∃ w1, w1 = w.alloc (.cells #[.int .u8 2, .int .i64 0, .int .u64 0] 100) := ⟨_, rfl⟩
  rw [← hw1]
  have k1 : Keep Nope w w1 := by rw [hw1]; exact (Keep.refl _ w).alloc _
  have b1 : w1.heap[w.heap.size]? = some (.cells #[.int .u8 2, .int .i64 0, .int .u64 0] 100 (0, 0)) := by rw [hw1]; exact World.alloc_heap_new w _
  have T1 : TypsAt w1 (.slice (some ⟨w.heap.size, 0, none⟩) 1 1) alT := by
    refine ⟨_, _, rfl, fun i x hx => ?_⟩
    obtain rfl : i = 0 := by have := (List.getElem?_eq_some_iff.1 hx).1; simp [alT] at this; exact this
    simp [alT] at hx
    subst hx
    exact ⟨_, _, rfl, lt_of_heap b1, by simp [World.cell?, b1], by simp [World.cell?, b1], by simp [World.cell?, b1]⟩
  clear hw1 b1
  refine (Made_new 16 _ alT w1 (HF.out.keepN k1) T1 (by simp [alT]) (fun x hx => by simp [alT] at hx; subst hx; decide) al_tab (by decide)).mono ?_
  rintro e w2 ⟨P, rb, q, rfl, hB, hn, hts⟩
  have HS2 : Seal (SpaceHas w2 P alA) := ⟨⟨_, hB.sp⟩⟩
  have HP : Seal _ := ⟨And.intro hts hn⟩
  have HK2 : Seal (Keep Nope w w2) := ⟨k1.then' (hB.kb.mono fun i hi h => by omega)⟩
  have HOW : Seal (∀ k, P.own k → w.heap.size ≤ k) := ⟨fun k hk => by have := hB.own k hk; have := k1.size; omega⟩
  clear T1 k1 hB hn hts
  go_wp2_with fail
  refine (al11_put HP.out.1 HP.out.2 w2 HS2.out).mono ?_
  rintro e w3 ⟨rfl, k3, h3⟩
  have HS3 : Seal _ := ⟨h3⟩
  have HK3 : Seal (Keep Nope w w3) := ⟨HK2.out.trans k3 (fun i hi h => by have := HOW.out i h; omega)⟩
  clear k3 h3
  go_wp2_with fail
  obtain ⟨w4, hw4⟩ : ∃ w4, w4 = w3.alloc (.cells #[.int .u64 1048581, .int .u64 1048582, .int .u64 1048583, .int .u64 0] 32) := ⟨_, rfl⟩
  have k4 : Keep Nope w3 w4 := by rw [hw4]; exact (Keep.refl _ w3).alloc _
  have b4 : w4.heap[w3.heap.size]? = some (.cells #[.int .u64 1048581, .int .u64 1048582, .int .u64 1048583, .int .u64 0] 32 (0, 0)) := by rw [hw4]; exact World.alloc_heap_new w3 _
  have HO4 : Seal _ := ⟨al18_of HP.out.2 (.slice (some ⟨w3.heap.size, 0, none⟩) 4 4) w4 (HS3.out.keepN k4) (words_of b4 (fun i hi => by
    have : i = 0 ∨ i = 1 ∨ i = 2 ∨ i = 3 := by omega
    rcases this with rfl | rfl | rfl | rfl <;> exact ⟨rfl, by decide⟩))⟩
  have HS4 : Seal _ := ⟨HS3.out.keepN k4⟩
  have HK4 : Seal _ := ⟨HK3.out.then' k4⟩
  try rw [← hw4]
  clear hw4 k4 b4
  try go_wp2_with fail
  refine HO4.out.mono ?_
  rintro e w5 ⟨xa, xc, ya, yc, rfl, hI, k5⟩
  have HI : Seal _ := ⟨hI⟩
  have HS5 : Seal _ := ⟨HS4.out.keepN k5⟩
  have HK5 : Seal _ := ⟨HK4.out.then' k5⟩
  clear hI k5
  have hs5 : (w5.alloc (.cells #[.slice xa 1 xc, .slice ya 1 yc, .int .i64 1] 89)).heap.size = w5.heap.size + 1 := by simp
  obtain ⟨w6, hw6⟩ : ∃ w6, w6 = (w5.alloc (.cells #[.slice xa 1 xc, .slice ya 1 yc, .int .i64 1] 89)).alloc (.cells #[.int .u64 1048578, .int .u64 0] 32) := ⟨_, rfl⟩
  have k6 : Keep Nope w5 w6 := by rw [hw6]; exact ((Keep.refl _ w5).alloc _).alloc _
  have b6 : w6.heap[w5.heap.size]? = some (.cells #[.slice xa 1 xc, .slice ya 1 yc, .int .i64 1] 89 (0, 0)) := by rw [hw6]; exact ((Keep.refl Nope _).alloc _).at_ (World.alloc_heap_new w5 _) (fun h => h)
  have d6 : w6.heap[w5.heap.size + 1]? = some (.cells #[.int .u64 1048578, .int .u64 0] 32 (0, 0)) := by
    rw [hw6]
    have := World.alloc_heap_new (w5.alloc (.cells #[.slice xa 1 xc, .slice ya 1 yc, .int .i64 1] 89)) (.cells #[.int .u64 1048578, .int .u64 0] 32)
    rwa [hs5] at this
  have HY6 : Seal _ := ⟨al18_yes HP.out.2 (.slice (some ⟨w5.heap.size + 1, 0, none⟩) 2 2) w6 (HS5.out.keepN k6) (words_of d6 (fun i hi => by
    have : i = 0 ∨ i = 1 := by omega
    rcases this with rfl | rfl <;> exact ⟨rfl, by decide⟩))⟩
  have HS6 : Seal _ := ⟨HS5.out.keepN k6⟩
  have HK6 : Seal _ := ⟨HK5.out.then' k6⟩
  have HI6 : Seal _ := ⟨And.intro (HI.out.1.keepN k6) (HI.out.2.keepN k6)⟩
  have HB6 : Seal _ := ⟨b6⟩
  clear k6 b6 d6 hs5
  go_wp2_with fail
  rw [← hw6]
  clear hw6
  refine HY6.out.mono ?_
  rintro e w7 ⟨za, zc, rfl, hz, k7⟩
  have HZ7 : Seal _ := ⟨hz⟩
  have HS7 : Seal _ := ⟨HS6.out.keepN k7⟩
  have HK7 : Seal _ := ⟨HK6.out.then' k7⟩
  have HI7 : Seal _ := ⟨And.intro (HI6.out.1.keepN k7) (HI6.out.2.keepN k7)⟩
  have HB7 : Seal _ := ⟨k7.at_ HB6.out (fun h => h)⟩
  clear hz k7
  obtain ⟨w8, hw8⟩ : ∃ w8, w8 = w7.alloc (.cells #[.int .u64 1048579] 32) := ⟨_, rfl⟩
  have k8 : Keep Nope w7 w8 := by rw [hw8]; exact (Keep.refl _ w7).alloc _
  have d8 : w8.heap[w7.heap.size]? = some (.cells #[.int .u64 1048579] 32 (0, 0)) := by rw [hw8]; exact World.alloc_heap_new w7 _
  have HY8 : Seal _ := ⟨al18_not HP.out.2 (.slice (some ⟨w7.heap.size, 0, none⟩) 1 1) w8 (HS7.out.keepN k8) (words_of d8 (fun i hi => by
    obtain rfl : i = 0 := by omega
    exact ⟨rfl, by decide⟩))⟩
  have HK8 : Seal _ := ⟨HK7.out.then' k8⟩
  have HZ8 : Seal _ := ⟨HZ7.out.keepN k8⟩
  have HI8 : Seal _ := ⟨And.intro (HI7.out.1.keepN k8) (HI7.out.2.keepN k8)⟩
  have HB8 : Seal _ := ⟨k8.at_ HB7.out (fun h => h)⟩
  clear k8 d8
  go_wp2_with fail
  rw [← hw8]
  clear hw8
  refine HY8.out.mono ?_
  rintro e w9 ⟨rfl, k9⟩
  have HK9 : Seal _ := ⟨HK8.out.then' k9⟩
  have HZ9 : Seal _ := ⟨HZ8.out.keepN k9⟩
  have HI9 : Seal _ := ⟨And.intro (HI8.out.1.keepN k9) (HI8.out.2.keepN k9)⟩
  have HB9 : Seal _ := ⟨k9.at_ HB8.out (fun h => h)⟩
  clear k9
  go_wp2_with fail
  refine (Precise_nil w9 _).mono ?_
  rintro e wA ⟨rfl, kA⟩
  have HKA : Seal _ := ⟨HK9.out.then' kA⟩
  have HZA : Seal _ := ⟨HZ9.out.keepN kA⟩
  have HIA : Seal _ := ⟨And.intro (HI9.out.1.keepN kA) (HI9.out.2.keepN kA)⟩
  obtain ⟨c0, c1, c2⟩ := scan_cells (kA.at_ HB9.out (fun h => h))
  clear kA
  have hsA : (wA.alloc (.cells #[.int .i64 1] 3)).heap.size = wA.heap.size + 1 := by simp
  obtain ⟨wB, hwB⟩ : ∃ wB, wB = (wA.alloc (.cells #[.int .i64 1] 3)).alloc (.cells #[.int .i64 3] 3) := ⟨_, rfl⟩
  have kB : Keep Nope wA wB := by rw [hwB]; exact ((Keep.refl _ wA).alloc _).alloc _
  have bB : wB.heap[wA.heap.size]? = some (.cells #[.int .i64 1] 3 (0, 0)) := by rw [hwB]; exact ((Keep.refl Nope _).alloc _).at_ (World.alloc_heap_new wA _) (fun h => h)
  have dB : wB.heap[wA.heap.size + 1]? = some (.cells #[.int .i64 3] 3 (0, 0)) := by
    rw [hwB]
    have := World.alloc_heap_new (wA.alloc (.cells #[.int .i64 1] 3)) (.cells #[.int .i64 3] 3)
    rwa [hsA] at this
  have HSm : Seal _ := ⟨ScanSame_yes (l := 1) (HIA.out.1.keepN kB) (HIA.out.2.keepN kB) (ints_one (cap := 1) bB (by omega)) (ints_one (cap := 1) dB (by omega)) (by simp) (by simp)⟩
  have HKB : Seal _ := ⟨HKA.out.then' kB⟩
  have HZB : Seal _ := ⟨HZA.out.keepN kB⟩
  clear kB bB dB hsA
  go_wp2_with fail
  rw [← hwB]
  clear hwB
  refine HSm.out.mono ?_
  rintro e wC ⟨rfl, kC⟩
  have HKC : Seal _ := ⟨HKB.out.then' kC⟩
  have HZC : Seal _ := ⟨HZB.out.keepN kC⟩
  clear kC c0 c1 c2
  obtain ⟨wD, hwD⟩ : ∃ wD, wD = wC.alloc (.cells #[.int .i64 1] 3) := ⟨_, rfl⟩
  have kD : Keep Nope wC wD := by rw [hwD]; exact (Keep.refl _ wC).alloc _
  have bD : wD.heap[wC.heap.size]? = some (.cells #[.int .i64 1] 3 (0, 0)) := by rw [hwD]; exact World.alloc_heap_new wC _
  have HSI : Seal _ := ⟨SameInts_yes (HZC.out.keepN kD) (ints_one (cap := 1) bD (by omega)) (by simp)⟩
  have HKD : Seal _ := ⟨HKC.out.then' kD⟩
  clear kD bD
  go_wp2_with fail
  rw [← hwD]
  clear hwD
  refine HSI.out.mono ?_
  rintro e wE ⟨rfl, kE⟩
  go_wp2
  go_ret
  exact ⟨rfl, HKD.out.then' kE⟩

end Go.Proofs.YtpmiidpbngbclaaGreatDoor
