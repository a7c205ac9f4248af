/-
  The library's sort at uint64, walked: breaking patterns.
-/
import Derived.Test.YtapmbignpdkfbaaSortF
import Derived.Test.YtapmbignpdkfbaaShelf
import Derived.Laws.Bits64b
namespace Go.Proofs.Ytapmbignpdkfbaa
open Go.RowKit
set_option linter.unusedVariables false

/-- A block of one word. -/
def CellU (w : World) (q : Nat) : Prop := ∃ X : Nat, X < 18446744073709551616 ∧ w.heap[q]? = some (.cells #[.int .u64 (X : Nat)] 71 (0, 0))

/-- A word, and the block holds one. -/
def NextPost (q : Nat) (w : World) (e : Ending) (w' : World) : Prop :=
  ∃ X : Nat, X < 18446744073709551616 ∧ e = .returned (.int .u64 (X : Nat)) ∧ CellU w' q ∧ Keep (fun k => k = q) w w'

theorem bitLen_zero (f : Nat) : Lib.bitLenAux f 0 = 0 := by cases f <;> simp [Lib.bitLenAux]

theorem bitLen_two : ∀ (f x : Nat), x ≠ 0 → 2 ^ Lib.bitLenAux f x ≤ 2 * x
  | 0, x, h => by rw [Lib.bitLenAux]; omega
  | f + 1, x, h => by
    rw [Lib.bitLenAux, if_neg h, Nat.add_comm, Nat.pow_succ]
    by_cases h2 : x / 2 = 0
    · rw [h2, bitLen_zero]; omega
    · have := bitLen_two f (x / 2) h2
      omega

theorem bitLen_62 {L : Nat} (h0 : L ≠ 0) (h : L < 4611686018427387904) : Lib.bitLen L ≤ 62 := by
  have h1 := bitLen_two 64 L h0
  by_cases h2 : Lib.bitLen L ≤ 62
  · exact h2
  · have h3 : 2 ^ 63 ≤ 2 ^ Lib.bitLen L := Nat.pow_le_pow_right (by decide) (by omega)
    unfold Lib.bitLen at h3
    omega

set_option maxHeartbeats 1000000 in
theorem Next_at {q : Nat} {w : World} (hq : CellU w q) : Calls Try.prog 49 #[.pointer (some ⟨q, 0, none⟩)] w (NextPost q w) := by
  obtain ⟨X, hX, hb⟩ := hq
  have HB : Seal _ := ⟨hb⟩
  have c1 := cell_of_one hb
  have f1 : w.frozen? ⟨q, 0, none⟩ = false := frozen_one hb
  clear hb
  obtain ⟨A, hA⟩ : ∃ A : Nat, A = X ^^^ (X * 8192 % 18446744073709551616) := ⟨_, rfl⟩
  obtain ⟨B, hB⟩ : ∃ B : Nat, B = A ^^^ (A / 128) := ⟨_, rfl⟩
  obtain ⟨C, hC⟩ : ∃ C : Nat, C = B ^^^ (B * 131072 % 18446744073709551616) := ⟨_, rfl⟩
  have lA : A < 18446744073709551616 := by rw [hA]; exact Nat.xor_lt_two_pow (n := 64) (by omega) (by omega)
  have lB : B < 18446744073709551616 := by rw [hB]; exact Nat.xor_lt_two_pow (n := 64) (by omega) (by omega)
  have lC : C < 18446744073709551616 := by rw [hC]; exact Nat.xor_lt_two_pow (n := 64) (by omega) (by omega)
  have e1 : bits .xor .u64 (X : Int) (IntKind.u64.wrap ((X : Int) * 8192)) = (A : Int) := by
    rw [IntKind.wrap_u64, show ((X : Int) * 8192 % 18446744073709551616) = ((X * 8192 % 18446744073709551616 : Nat) : Int) by omega, bits_xor_u64_nat _ _ hX (by omega), hA]
  have e2 : bits .xor .u64 (A : Int) ((A : Int) / 128) = (B : Int) := by
    rw [show ((A : Int) / 128) = ((A / 128 : Nat) : Int) by omega, bits_xor_u64_nat _ _ lA (by omega), hB]
  have e3 : bits .xor .u64 (B : Int) (IntKind.u64.wrap ((B : Int) * 131072)) = (C : Int) := by
    rw [IntKind.wrap_u64, show ((B : Int) * 131072 % 18446744073709551616) = ((B * 131072 % 18446744073709551616 : Nat) : Int) by omega, bits_xor_u64_nat _ _ lB (by omega), hC]
  clear hA hB hC
  go_enter Try.func49, Try.ntmps49
  go_wp2_with fail
  go_region
  have b2 : ((w.setCell ⟨q, 0, none⟩ (.int .u64 (A : Nat))).drew).heap[q]? = some (.cells #[.int .u64 (A : Nat)] 71 (0, 0)) := one_setCell HB.out
  have HK1 : Seal (Keep (fun k => k = q) w ((w.setCell ⟨q, 0, none⟩ (.int .u64 (A : Nat))).drew)) := ⟨((Keep.refl (fun k => k = q) w).setCell (fun _ => rfl) _).drew⟩
  generalize ((w.setCell ⟨q, 0, none⟩ (.int .u64 (A : Nat))).drew) = w1 at b2 HK1 ⊢
  have HB2 : Seal _ := ⟨b2⟩
  have c2 := cell_of_one b2
  have f2 : w1.frozen? ⟨q, 0, none⟩ = false := frozen_one b2
  clear b2 c1 f1 HB e1
  go_wp2_with fail
  go_region
  have b3 : ((w1.setCell ⟨q, 0, none⟩ (.int .u64 (B : Nat))).drew).heap[q]? = some (.cells #[.int .u64 (B : Nat)] 71 (0, 0)) := one_setCell HB2.out
  have HK2 : Seal (Keep (fun k => k = q) w ((w1.setCell ⟨q, 0, none⟩ (.int .u64 (B : Nat))).drew)) := ⟨(HK1.out.setCell (fun _ => rfl) _).drew⟩
  generalize ((w1.setCell ⟨q, 0, none⟩ (.int .u64 (B : Nat))).drew) = w2 at b3 HK2 ⊢
  have HB3 : Seal _ := ⟨b3⟩
  have c3 := cell_of_one b3
  have f3 : w2.frozen? ⟨q, 0, none⟩ = false := frozen_one b3
  clear b3 c2 f2 HB2 e2
  go_wp2_with fail
  go_region
  have b4 : ((w2.setCell ⟨q, 0, none⟩ (.int .u64 (C : Nat))).drew).heap[q]? = some (.cells #[.int .u64 (C : Nat)] 71 (0, 0)) := one_setCell HB3.out
  have HK3 : Seal (Keep (fun k => k = q) w ((w2.setCell ⟨q, 0, none⟩ (.int .u64 (C : Nat))).drew)) := ⟨(HK2.out.setCell (fun _ => rfl) _).drew⟩
  generalize ((w2.setCell ⟨q, 0, none⟩ (.int .u64 (C : Nat))).drew) = w3 at b4 HK3 ⊢
  have HB4 : Seal _ := ⟨b4⟩
  have c4 := cell_of_one b4
  clear b4 c3 f3 HB3 e3
  go_wp2_with fail
  exact bodyPost_ret (v := .int .u64 (C : Nat)) (by simp [results, Try.results49, go_sem]) rfl ⟨C, lC, rfl, ⟨C, lC, HB4.out⟩, HK3.out⟩

set_option maxHeartbeats 1000000 in
theorem NPow_at {L M : Nat} {w : World} (h2 : L < 4611686018427387904) (hk : Lib.bitLen L ≤ 62) (hM : 2 ^ Lib.bitLen L = M) :
    Calls Try.prog 48 #[.int .i64 (L : Nat)] w fun e w' => e = .returned (.int .u64 (M : Nat)) ∧ w' = w := by
  have HL : Seal _ := ⟨Try.bits_Len (L : Nat) w (by omega) (by omega)⟩
  obtain ⟨k, hk2⟩ : ∃ k, Lib.bitLen L = k := ⟨_, rfl⟩
  rw [Int.toNat_natCast, hk2] at HL
  rw [hk2] at hk hM
  clear hk2
  have hp : IntKind.u64.wrap ((2 : Int) ^ k) = (M : Int) := by
    rw [← hM, IntKind.wrap_u64]
    have h3 : 2 ^ k ≤ 2 ^ 62 := Nat.pow_le_pow_right (by decide) hk
    have h4 : ((2 : Int) ^ k) = ((2 ^ k : Nat) : Int) := by simp
    rw [h4]
    omega
  have HP : Seal _ := ⟨hp⟩
  clear hM
  go_enter Try.func48, Try.ntmps48
  go_wp2_with fail
  refine HL.out.mono ?_
  rintro e w' ⟨rfl, rfl⟩
  go_wp2_with fail
  exact bodyPost_ret (v := .int .u64 (M : Nat)) (by simp [results, Try.results48, go_sem]) rfl ⟨rfl, rfl⟩

section

variable {c0 : Array Value} {b T o n cap : Nat} {F : Nat → Nat} {w : World}

set_option maxHeartbeats 2000000 in
theorem Break_at {a z : Nat} (h : RowU c0 b T o n F w) (haz : a + 12 < z) (hz : z ≤ n) (hn : n < 4611686018427387904) :
    Calls Try.prog 38 #[.slice (some ⟨b, o, none⟩) n cap, .int .i64 (a : Nat), .int .i64 (z : Nat)] w fun e w' => e = .returned (.tuple #[]) ∧ Sorts c0 b T o n a z F (fun _ => True) w w' := by
  obtain ⟨L, hL, HL⟩ : ∃ L : Nat, (z : Int) - (a : Int) = (L : Int) ∧ Seal (a + L = z) := ⟨z - a, by omega, ⟨by omega⟩⟩
  have hL12 : 12 < L := by omega
  have hLn : L < 4611686018427387904 := by omega
  have h8 : (8 : Int) ≤ (L : Int) := by omega
  obtain ⟨q, hq⟩ : ∃ q, w.heap.size = q := ⟨_, rfl⟩
  have hqb : q ≠ b := by have := h.lt; omega
  obtain ⟨M, hM⟩ : ∃ M, 2 ^ Lib.bitLen L = M := ⟨_, rfl⟩
  have hM1 : 1 ≤ M := by rw [← hM]; exact Nat.one_le_two_pow
  have hM2 : M ≤ 2 * L := by rw [← hM]; exact bitLen_two 64 L (by omega)
  have HN : Seal (∀ w, Calls Try.prog 48 #[.int .i64 (L : Nat)] w fun e w' => e = .returned (.int .u64 (M : Nat)) ∧ w' = w) := ⟨fun w => NPow_at hLn (bitLen_62 (by omega) hLn) hM⟩
  have HC : Seal (CellU (w.alloc (.cells #[.int .u64 (L : Nat)] 71)) q) := ⟨⟨L, by omega, by rw [← hq]; exact World.alloc_heap_new w _⟩⟩
  have HR : Seal (RowU c0 b T o n F (w.alloc (.cells #[.int .u64 (L : Nat)] 71))) := ⟨h.keep (S := Nope) ((Keep.refl _ w).alloc _) (fun x => x)⟩
  have HK : Seal (Keep (fun k => k = b) w (w.alloc (.cells #[.int .u64 (L : Nat)] 71))) := ⟨(Keep.refl _ w).alloc _⟩
  obtain ⟨J, eJ, HJ⟩ : ∃ I : Nat, (a : Int) + (L : Int) / 4 * 2 - 1 = (I : Int) ∧ Seal (a + L / 4 * 2 = I + 1) := ⟨a + L / 4 * 2 - 1, by omega, ⟨by omega⟩⟩
  have HE : Seal _ := ⟨eJ⟩
  have hJ1 : a + 5 ≤ J + 0 ∧ J + 5 < z := by have := HL.out; have := HJ.out; omega
  have eJ2 : (a : Int) + (L : Int) / 4 * 2 + 1 = (J : Int) + 2 := by omega
  have HE2 : Seal _ := ⟨eJ2⟩
  clear h hM eJ eJ2
  go_enter Try.func38, Try.ntmps38
  go_wp2_with fail
  try rw [hq]
  refine (HN.out _).mono ?_
  rintro e w' ⟨rfl, rfl⟩
  go_wp2_with fail
  go_loopw [9, 10] (fun v9 _ wr => ∃ j : Nat, v9 = .int .i64 (j : Nat) ∧ J ≤ j ∧ j ≤ J + 3 ∧ Seal (CellU wr q ∧ Sorts c0 b T o n a z F (fun _ => True) w wr)) (fun v9 _ _ => J + 3 - (intOf v9).toNat)
  case atStart => exact ⟨J, by rw [HE.out], Nat.le_refl _, by omega, ⟨HC.out, F, HR.out, .refl, trivial, HK.out⟩⟩
  case round =>
    obtain ⟨j, rfl, hj1, hj2, HS⟩ := hrel
    clear HC HR HK
    obtain ⟨hc, G, hR, hSw, -, hK⟩ := HS.out
    have HC : Seal _ := ⟨hc⟩
    have HR : Seal _ := ⟨hR⟩
    have HSw : Seal _ := ⟨hSw⟩
    have HK : Seal _ := ⟨hK⟩
    clear hc hR hSw hK HS
    by_cases hj : j ≤ J + 2
    · have hj' : (j : Int) ≤ (J : Int) + 2 := by omega
      have hj'' : (j : Int) ≤ (a : Int) + (L : Int) / 4 * 2 + 1 := by rw [HE2.out]; exact hj'
      go_wp2_with fail
      refine (Next_at HC.out).mono ?_
      rintro e w2 ⟨X, hX, rfl, hc2, k2⟩
      have HC2 : Seal _ := ⟨hc2⟩
      have HR2 : Seal (RowU c0 b T o n G w2) := ⟨HR.out.keep k2 (fun e => hqb e.symm)⟩
      have hwq : w.heap.size ≤ q := by omega
      have HK2 : Seal (Keep (fun k => k = b) w w2) := ⟨HK.out.trans k2 (fun i hi e => by omega)⟩
      clear hc2 k2 HC HR HK
      obtain ⟨O, hO⟩ : ∃ O : Nat, O = X &&& (M - 1) := ⟨_, rfl⟩
      have lO : O ≤ M - 1 := by rw [hO]; exact Nat.and_le_right
      have eAnd : bits .and .u64 (X : Int) ((M : Int) - 1) = (O : Int) := by
        rw [show ((M : Int) - 1) = ((M - 1 : Nat) : Int) by omega, bits_and_u64_nat _ _ hX (by omega), hO]
      clear hO
      have FIN : Seal (∀ O2, O2 < L → ∀ w3, RowU c0 b T o n (swpF G j (a + O2)) w3 → Keep (fun k => k = b) w2 w3 → ((∃ j' : Nat, Value.int .i64 ((j : Int) + 1) = .int .i64 (j' : Nat) ∧ J ≤ j' ∧ j' ≤ J + 3 ∧ Seal (CellU w3 q ∧ Sorts c0 b T o n a z F (fun _ => True) w w3)) ∧ J + 3 - (intOf (.int .i64 ((j : Int) + 1))).toNat < J + 3 - (intOf (.int .i64 (j : Nat))).toNat)) := ⟨fun O2 h1 w3 hr k => by
        refine ⟨⟨j + 1, by go_num, by omega, by omega, ⟨?_, _, hr, HSw.out.step (by omega) (by omega) (by omega) (by have := HL.out; omega), trivial, HK2.out.trans k (fun _ _ h => h)⟩⟩, by simp only [intOf]; omega⟩
        obtain ⟨Y, hY, hb⟩ := HC2.out
        exact ⟨Y, hY, k.at_ hb hqb⟩⟩
      have HR := HR2
      have hcw : ∀ t, t < n → w2.cell? ⟨b, o + t, none⟩ = some (.int .u64 (G t : Nat)) := fun t ht => HR.out.cell ht
      have hfw : ∀ t, t < n → w2.frozen? ⟨b, o + t, none⟩ = false := fun t ht => HR.out.warm t
      clear HE HE2
      by_cases hO : L ≤ O
      · have hO' : (L : Int) ≤ (O : Int) := by omega
        obtain ⟨P, hPe, HP⟩ : ∃ P : Nat, (O : Int) - (L : Int) = (P : Int) ∧ Seal (P < L) := ⟨O - L, by omega, ⟨by omega⟩⟩
        have u1 : IntKind.i64.wrap ((a : Int) + (P : Int)) = (a : Int) + (P : Int) := by rw [IntKind.wrap_i64]; have := HL.out; have := HP.out; omega
        have haP : a + P < n := by have := HL.out; have := HP.out; omega
        by_cases hjP : j = a + P
        · have HF : Seal _ := ⟨FIN.out P HP.out (((w2.setCell ⟨b, o + j, none⟩ (.int .u64 (G j : Nat))).setCell ⟨b, o + j, none⟩ (.int .u64 (G j : Nat))).drew) (by rw [← hjP]; exact HR.out.swap (i := j) (j := j) (by omega) (by omega) 1) ((((Keep.refl (fun k => k = b) w2).setCell (fun _ => rfl) _).setCell (fun _ => rfl) _).drew)⟩
          have hjP' : (a : Int) + (P : Int) = (j : Int) := by omega
          clear hjP FIN
          go_wp2_with fail
          try simp only [hPe, hjP']
          go_region
          go_wp2_with fail
          exact HF.out
        · have HF : Seal _ := ⟨FIN.out P HP.out (((w2.setCell ⟨b, o + j, none⟩ (.int .u64 (G (a + P) : Nat))).setCell ⟨b, o + (a + P), none⟩ (.int .u64 (G j : Nat))).drew) (HR.out.swap (i := j) (j := a + P) (by omega) (by omega) 1) ((((Keep.refl (fun k => k = b) w2).setCell (fun _ => rfl) _).setCell (fun _ => rfl) _).drew)⟩
          clear FIN
          go_wp2_with fail
          try simp only [hPe]
          go_region
          go_wp2_with fail
          exact HF.out
      · have hO' : ¬ (L : Int) ≤ (O : Int) := by omega
        obtain ⟨P, hPe, HP⟩ : ∃ P : Nat, (O : Int) = (P : Int) ∧ Seal (P < L) := ⟨O, rfl, ⟨by omega⟩⟩
        have u1 : IntKind.i64.wrap ((a : Int) + (P : Int)) = (a : Int) + (P : Int) := by rw [IntKind.wrap_i64]; have := HL.out; have := HP.out; omega
        have haP : a + P < n := by have := HL.out; have := HP.out; omega
        by_cases hjP : j = a + P
        · have HF : Seal _ := ⟨FIN.out P HP.out (((w2.setCell ⟨b, o + j, none⟩ (.int .u64 (G j : Nat))).setCell ⟨b, o + j, none⟩ (.int .u64 (G j : Nat))).drew) (by rw [← hjP]; exact HR.out.swap (i := j) (j := j) (by omega) (by omega) 1) ((((Keep.refl (fun k => k = b) w2).setCell (fun _ => rfl) _).setCell (fun _ => rfl) _).drew)⟩
          have hjP' : (a : Int) + (P : Int) = (j : Int) := by omega
          clear hjP FIN
          go_wp2_with fail
          try simp only [hPe, hjP']
          go_region
          go_wp2_with fail
          exact HF.out
        · have HF : Seal _ := ⟨FIN.out P HP.out (((w2.setCell ⟨b, o + j, none⟩ (.int .u64 (G (a + P) : Nat))).setCell ⟨b, o + (a + P), none⟩ (.int .u64 (G j : Nat))).drew) (HR.out.swap (i := j) (j := a + P) (by omega) (by omega) 1) ((((Keep.refl (fun k => k = b) w2).setCell (fun _ => rfl) _).setCell (fun _ => rfl) _).drew)⟩
          clear FIN
          go_wp2_with fail
          try simp only [hPe]
          go_region
          go_wp2_with fail
          exact HF.out
    · have hj' : ¬ (j : Int) ≤ (J : Int) + 2 := by omega
      have hj'' : ¬ (j : Int) ≤ (a : Int) + (L : Int) / 4 * 2 + 1 := by rw [HE2.out]; exact hj'
      go_wp2_with fail
      go_end0
      exact ⟨rfl, G, HR.out, HSw.out, trivial, HK.out⟩

end

end Go.Proofs.Ytapmbignpdkfbaa
