/-
  The library's sort at uint64, walked: the whole.
-/
import Derived.Test.YtapmbignpdkfbaaSortG
namespace Go.Proofs.Ytapmbignpdkfbaa
open Go.RowKit
set_option linter.unusedVariables false

def IsB (v : Value) : Prop := ∃ c : Bool, v = .bool c

def LimSt (v : Value) : Prop := ∃ l : Nat, v = .int .i64 (l : Nat) ∧ l < 9223372036854775808

def PivSt (a z : Nat) (v11 v12 : Value) : Prop := ∃ (p : Nat) (t : Int), v11 = .int .i64 (p : Nat) ∧ v12 = .int .i64 t ∧ a ≤ p ∧ p < z ∧ (t = 0 ∨ t = 1)

def EqSt (a p : Nat) (G : Nat → Nat) (v : Value) : Prop := ∃ c : Bool, v = .bool c ∧ (c = true → 0 < a ∧ G p ≤ G (a - 1))

/-- How the sort's loop stands: what is left is between a' and z'. -/
def PdqSt (c0 : Array Value) (b T o n a z : Nat) (F : Nat → Nat) (w : World) (v1 v2 v3 v8 v9 : Value) (wr : World) : Prop :=
  ∃ a' z' l : Nat, v1 = .int .i64 (a' : Nat) ∧ v2 = .int .i64 (z' : Nat) ∧ v3 = .int .i64 (l : Nat) ∧ IsB v8 ∧ IsB v9 ∧ a ≤ a' ∧ a' ≤ z' ∧ z' ≤ z ∧ l < 9223372036854775808 ∧
    ∃ G, RowU c0 b T o n G wr ∧ Swps a z F G ∧ Lower a' z' G ∧ RestR a z a' z' G ∧ Keep (fun k => k = b) w wr

section

variable {c0 : Array Value} {b T o n cap : Nat}

set_option maxRecDepth 20000 in
set_option maxHeartbeats 8000000 in
theorem Pdq_at (m : Nat) : ∀ (a z l : Nat) (F : Nat → Nat) (w : World), z - a < m → RowU c0 b T o n F w → a ≤ z → z ≤ n → n < 4611686018427387904 → l < 9223372036854775808 → Lower a z F →
    Calls Try.prog 34 #[.slice (some ⟨b, o, none⟩) n cap, .int .i64 (a : Nat), .int .i64 (z : Nat), .int .i64 (l : Nat)] w fun e w' => e = .returned (.tuple #[]) ∧ Sorts c0 b T o n a z F (SortedR a z) w w' := by
  induction m with
  | zero => intro a z l F w h; omega
  | succ m ih =>
    intro a z l F w hm h haz hz hn hl hlo
    have IH : Seal _ := ⟨ih⟩
    have HM : Seal _ := ⟨hm⟩
    have H0 : Seal _ := ⟨h⟩
    have HLo : Seal _ := ⟨hlo⟩
    clear ih hm h hlo
    go_enter Try.func34, Try.ntmps34
    go_wp2
    go_loopw [1, 2, 3, 8, 9, 10, 11, 12, 13, 14, 15, 16, 17, 18] (fun v1 v2 v3 v8 v9 _ _ _ _ _ _ _ _ _ wr => Seal (PdqSt c0 b T o n a z F w v1 v2 v3 v8 v9 wr)) (fun v1 v2 _ _ _ _ _ _ _ _ _ _ _ _ _ => (intOf v2).toNat - (intOf v1).toNat)
    case atStart => exact ⟨a, z, l, rfl, rfl, rfl, ⟨true, rfl⟩, ⟨true, rfl⟩, Nat.le_refl _, haz, Nat.le_refl _, hl, F, H0.out, .refl, HLo.out, RestR.start a z F, Keep.refl _ _⟩
    case round =>
      obtain ⟨a', z', l', rfl, rfl, rfl, ⟨wb, rfl⟩, ⟨wp, rfl⟩, haa, haz', hzz, hl', G, hR, hSw, hLo, hRe, hK⟩ := hrel.out
      clear hrel
      have HR : Seal _ := ⟨hR⟩
      have HSw : Seal _ := ⟨hSw⟩
      have HLw : Seal _ := ⟨hLo⟩
      have HRe : Seal _ := ⟨hRe⟩
      have HK : Seal _ := ⟨hK⟩
      clear hR hSw hLo hRe hK
      have DONE : Seal (∀ w2, Sorts c0 b T o n a' z' G (SortedR a' z') wr w2 → Sorts c0 b T o n a z F (SortedR a z) w w2) := ⟨fun w2 h => by
        obtain ⟨H, h1, h2, h3, h4⟩ := h
        exact ⟨H, h1, HSw.out.trans (h2.mono haa hzz), HRe.out H h2 h3, HK.out.trans h4 (fun _ _ h => h)⟩⟩
      by_cases h12 : z' - a' ≤ 12
      · have h12' : (z' : Int) - (a' : Int) ≤ 12 := by omega
        have HC : Seal _ := ⟨Ins_at (cap := cap) HR.out haz' (by omega) hn⟩
        go_wp2_with fail
        refine HC.out.mono ?_
        rintro e w2 ⟨rfl, hs⟩
        have HS := DONE.out w2 hs
        go_wp2_with fail
        exact bodyPost_ret (results_none rfl _ _ _) rfl ⟨rfl, HS⟩
      · have h12' : ¬ (z' : Int) - (a' : Int) ≤ 12 := by omega
        by_cases hl0 : l' = 0
        · subst hl0
          rw [show ((0 : Nat) : Int) = 0 from rfl]
          have HC : Seal _ := ⟨Heap_at (cap := cap) (a := a') (z := z') HR.out (by omega) (by omega) hn⟩
          go_wp2_with fail
          refine HC.out.mono ?_
          rintro e w2 ⟨rfl, hs⟩
          have HS := DONE.out w2 hs
          go_wp2_with fail
          exact bodyPost_ret (results_none rfl _ _ _) rfl ⟨rfl, HS⟩
        · have hl0' : ((l' : Int) == 0) = false := by simp; omega
          have hB : a' + 12 < z' := by omega
          go_upto_if 35 with fail
          go_cut [3, 35] from 36 to 41 (fun v3 _ wx => Seal (LimSt v3 ∧ Sorts c0 b T o n a' z' G (fun _ => True) wr wx))
          case first =>
            cases wb with
            | true =>
              go_wp2_with fail
              go_meet
              exact ⟨⟨l', rfl, hl'⟩, G, HR.out, .refl, trivial, Keep.refl _ _⟩
            | false =>
              have HC : Seal _ := ⟨Break_at (cap := cap) HR.out hB (by omega) hn⟩
              go_wp2_with fail
              refine HC.out.mono ?_
              rintro e w2 ⟨rfl, hs⟩
              have HS : Seal _ := ⟨hs⟩
              clear hs
              go_wp2_with fail
              go_meet
              exact ⟨⟨l' - 1, by congr 1; omega, by omega⟩, HS.out⟩
          case rest =>
            obtain ⟨⟨l2, rfl, hl2⟩, G1, hR, hSw1, -, hK1⟩ := hcut.out
            clear hcut HR
            have HR : Seal _ := ⟨hR⟩
            have HS1 : Seal (Swps a' z' G G1) := ⟨hSw1⟩
            have HK1 : Seal (Keep (fun k => k = b) wr wc) := ⟨hK1⟩
            have HLw1 : Seal _ := ⟨HLw.out.swps hSw1⟩
            clear hR hSw1 hK1 HLw hl0 hl0' hl'
            have HC : Seal _ := ⟨Piv_at (cap := cap) HR.out hB (by omega) hn⟩
            go_wp2_with fail
            refine HC.out.mono ?_
            rintro e w2 ⟨p, t, rfl, hp1, hp2, ht, k2⟩
            have HR2 : Seal _ := ⟨HR.out.keep k2 (fun x => x)⟩
            have HK2 : Seal _ := ⟨HK1.out.trans (k2.of_not (fun k => k = b)) (fun _ _ h => h)⟩
            have HT : Seal _ := ⟨ht⟩
            clear k2 HC HR HK1 ht
            go_upto_if 50 with fail
            go_cut [11, 12, 50] from 51 to 60 (fun v11 v12 _ wx => Seal (PivSt a' z' v11 v12 ∧ Sorts c0 b T o n a' z' G1 (fun _ => True) wr wx))
            case first =>
              by_cases ht2 : t = 2
              · subst ht2
                have HC : Seal _ := ⟨Rev_at (cap := cap) (a := a') (z := z') HR2.out (by omega) (by omega) hn⟩
                go_wp2_with fail
                refine HC.out.mono ?_
                rintro e w3 ⟨rfl, hs⟩
                obtain ⟨H, h1, h2, -, h4⟩ := hs
                have HS : Seal (Sorts c0 b T o n a' z' G1 (fun _ => True) wr w3) := ⟨H, h1, h2, trivial, HK2.out.trans h4 (fun _ _ h => h)⟩
                clear h1 h2 h4 HC
                go_wp2_with fail
                go_meet
                exact ⟨⟨z' - 1 - (p - a'), 1, by congr 1; omega, rfl, by omega, by omega, by decide⟩, HS.out⟩
              · have ht2' : (t == 2) = false := by simp [ht2]
                go_wp2_with fail
                go_meet
                exact ⟨⟨p, t, rfl, rfl, hp1, hp2, by have := HT.out; omega⟩, G1, HR2.out, .refl, trivial, HK2.out⟩
            case rest =>
              obtain ⟨⟨p2, t2, rfl, rfl, hq1, hq2, ht2⟩, G2, hR, hSw2, -, hK2⟩ := hcut.out
              clear hcut HR2 HK2 HT hp1 hp2
              have HR : Seal _ := ⟨hR⟩
              have HS2 : Seal (Swps a' z' G G2) := ⟨HS1.out.trans hSw2⟩
              have HK1 : Seal (Keep (fun k => k = b) wr wc) := ⟨hK2⟩
              have HLw2 : Seal _ := ⟨HLw1.out.swps hSw2⟩
              clear hR hSw2 hK2 HLw1 HS1
              go_upto_region 15 with fail
              go_cut [68] from 61 to 68 (fun v wx => IsB v ∧ wx = wc)
              case first =>
                have ht3 : t2 = 0 ∨ t2 = 1 := ht2
                rcases ht3 with rfl | rfl <;> cases wb <;> cases wp
                all_goals
                  go_wp2_with fail
                  go_meet
                  exact ⟨⟨_, rfl⟩, rfl⟩
              case rest =>
                obtain ⟨⟨c, rfl⟩, rfl⟩ := hcut
                go_upto_if 68 with fail
                go_cut [68] from 69 to 72 (fun _ wx => Seal (Sorts c0 b T o n a' z' G2 (fun _ => True) wr wx))
                case first =>
                  cases c with
                  | false =>
                    go_wp2_with fail
                    go_meet
                    exact ⟨G2, HR.out, .refl, trivial, HK1.out⟩
                  | true =>
                    have HC : Seal _ := ⟨PartI_at (cap := cap) (a := a') (z := z') HR.out (by omega) (by omega) hn HLw2.out⟩
                    go_wp2_with fail
                    refine HC.out.mono ?_
                    rintro e w3 ⟨r, rfl, hs⟩
                    obtain ⟨H, h1, h2, h3, h4⟩ := hs
                    have HSS : Seal (r = true → SortedR a' z' H) := ⟨h3⟩
                    have HS : Seal (Sorts c0 b T o n a' z' G2 (fun _ => True) wr w3) := ⟨H, h1, h2, trivial, HK1.out.trans h4 (fun _ _ h => h)⟩
                    have HS3 : Seal (r = true → Sorts c0 b T o n a' z' G (SortedR a' z') wr w3) := ⟨fun e => ⟨H, h1, HS2.out.trans h2, h3 e, HK1.out.trans h4 (fun _ _ h => h)⟩⟩
                    clear h1 h2 h3 h4 HC HSS
                    cases r with
                    | true =>
                      have HF : Seal _ := ⟨DONE.out w3 (HS3.out rfl)⟩
                      go_wp2_with fail
                      exact bodyPost_ret (results_none rfl _ _ _) rfl ⟨rfl, HF.out⟩
                    | false =>
                      clear HS3
                      go_wp2_with fail
                      go_meet
                      exact HS
                case rest =>
                  obtain ⟨G3, hR, hSw3, -, hK3⟩ := hcut.out
                  clear hcut HR HK1 DONE
                  have HR : Seal _ := ⟨hR⟩
                  have HS3 : Seal (Swps a' z' G G3) := ⟨HS2.out.trans hSw3⟩
                  have HK1 : Seal (Keep (fun k => k = b) wr wc) := ⟨hK3⟩
                  have HLw3 : Seal _ := ⟨HLw2.out.swps hSw3⟩
                  clear hR hSw3 hK3 HLw2 HS2
                  go_upto_region 17 with fail
                  go_cut [87] from 73 to 87 (fun v wx => Seal (EqSt a' p2 G3 v ∧ RowU c0 b T o n G3 wx ∧ Keep (fun k => k = b) wr wx))
                  case first =>
                    have hcw : ∀ t, t < n → wc.cell? ⟨b, o + t, none⟩ = some (.int .u64 (G3 t : Nat)) := fun t ht => HR.out.cell ht
                    have hfw : ∀ t, t < n → wc.frozen? ⟨b, o + t, none⟩ = false := fun t ht => HR.out.warm t
                    have u1 : IntKind.i64.wrap ((a' : Int) - 1) = (a' : Int) - 1 := by rw [IntKind.wrap_i64]; omega
                    by_cases ha0 : 0 < a'
                    · have ha0' : (0 : Int) < (a' : Int) := by omega
                      go_wp2_with fail
                      go_quiet (first | (go_at_call 42; refine Calls.quiet_of_same (Less_at _ _ _)))
                      go_wp2_with fail
                      go_meet
                      refine ⟨⟨_, rfl, fun h => ⟨ha0, ?_⟩⟩, HR.out.keep (S := Nope) (Keep.of_drewN nq) (fun x => x), HK1.out.drewN nq⟩
                      simpa using h
                    · have ha0' : decide ((0 : Int) < (a' : Int)) = false := decide_eq_false (by omega)
                      go_wp2_with fail
                      go_quiet (first | (go_at_call 42; refine Calls.quiet_of_same (Less_at _ _ _)))
                      go_wp2_with fail
                      go_meet
                      exact ⟨⟨false, rfl, fun h => Bool.noConfusion h⟩, HR.out.keep (S := Nope) (Keep.of_drewN nq) (fun x => x), HK1.out.drewN nq⟩
                  case rest =>
                    obtain ⟨⟨c2, rfl, hc2⟩, hR, hK⟩ := hcut.out
                    clear hcut HR HK1
                    have HR : Seal _ := ⟨hR⟩
                    have HK1 : Seal _ := ⟨hK⟩
                    have HC2 : Seal _ := ⟨hc2⟩
                    clear hR hK hc2
                    cases c2 with
                    | true =>
                      obtain ⟨hA, hX⟩ := HC2.out rfl
                      have HX : Seal (∀ k, a' ≤ k → k < z' → G3 p2 ≤ G3 k) := ⟨fun k h1 h2 => by
                        rcases HLw3.out with h | h
                        · omega
                        · exact Nat.le_trans hX (h k h1 h2)⟩
                      clear hX HC2
                      have HC : Seal _ := ⟨PartE_at (cap := cap) (a := a') (z := z') (p := p2) HR.out (by omega) (by omega) (by omega) hn⟩
                      go_wp2_with fail
                      refine HC.out.mono ?_
                      rintro e w4 ⟨mid, rfl, hm1, hm2, H, h1, h2, h3, h4⟩
                      have HS : Seal (Sorts c0 b T o n a z F (fun H => Lower mid z' H ∧ RestR a z mid z' H) w w4) := ⟨H, h1, (HSw.out.trans (HS3.out.mono haa hzz)).trans (h2.mono haa hzz), ⟨Lower.even hm1 h3, (HRe.out.swps HS3.out).even hm1 hm2 h2 h3 HX.out⟩, (HK.out.trans HK1.out (fun _ _ h => h)).trans h4 (fun _ _ h => h)⟩
                      clear h1 h2 h3 h4 HC
                      go_wp2_with fail
                      obtain ⟨H, h1, h2, h3, h4⟩ := HS.out
                      exact ⟨⟨mid, z', l2, rfl, rfl, rfl, ⟨_, rfl⟩, ⟨_, rfl⟩, by omega, hm2, hzz, hl2, H, h1, h2, h3.1, h3.2, h4⟩, by simp only [intOf]; omega⟩
                    | false =>
                      clear HC2
                      have HC : Seal _ := ⟨Part_at (cap := cap) (a := a') (z := z') (p := p2) HR.out (by omega) (by omega) (by omega) hn⟩
                      go_wp2_with fail
                      refine HC.out.mono ?_
                      rintro e w4 ⟨mid, al, rfl, hm1, hm2, H, h1, h2, h3, h4⟩
                      have HR4 : Seal _ := ⟨h1⟩
                      have HS4 : Seal (Swps a' z' G H) := ⟨HS3.out.trans h2⟩
                      have HP4 : Seal _ := ⟨h3⟩
                      have HK4 : Seal (Keep (fun k => k = b) w w4) := ⟨(HK.out.trans HK1.out (fun _ _ h => h)).trans h4 (fun _ _ h => h)⟩
                      have HL4 : Seal (Lower a' z' H) := ⟨HLw3.out.swps h2⟩
                      clear h1 h2 h3 h4 HC HLw3 HR HK1
                      by_cases hlr : mid - a' < z' - mid
                      · have hlr' : (mid : Int) - (a' : Int) < (z' : Int) - (mid : Int) := by omega
                        have HC : Seal _ := ⟨IH.out a' mid l2 H w4 (by have := HM.out; omega) HR4.out hm1 (by omega) hn hl2 (HL4.out.left (by omega))⟩
                        go_wp2_with fail
                        refine HC.out.mono ?_
                        rintro e w5 ⟨rfl, H5, h1, h2, h3, h4⟩
                        have HS : Seal (Sorts c0 b T o n a z F (fun H => Lower (mid + 1) z' H ∧ RestR a z (mid + 1) z' H) w w5) := ⟨H5, h1, (HSw.out.trans (HS4.out.mono haa hzz)).trans (h2.mono haa (by omega)), ⟨Or.inr fun k q1 q2 => by
                          rw [show mid + 1 - 1 = mid by omega, h2.out (k := mid) (by omega), h2.out (k := k) (by omega)]
                          exact HP4.out.2 k (by omega) q2, (HRe.out.swps HS4.out).right hm1 hm2 HP4.out h2 h3⟩, HK4.out.trans h4 (fun _ _ h => h)⟩
                        clear h1 h2 h3 h4 HC
                        go_wp2_with fail
                        obtain ⟨H, h1, h2, h3, h4⟩ := HS.out
                        exact ⟨⟨mid + 1, z', l2, by go_num, rfl, rfl, ⟨_, rfl⟩, ⟨_, rfl⟩, by omega, by omega, hzz, hl2, H, h1, h2, h3.1, h3.2, h4⟩, by simp only [intOf]; omega⟩
                      · have hlr' : ¬ (mid : Int) - (a' : Int) < (z' : Int) - (mid : Int) := by omega
                        have HC : Seal _ := ⟨IH.out (mid + 1) z' l2 H w4 (by have := HM.out; omega) HR4.out (by omega) (by omega) hn hl2 (Lower.right HP4.out)⟩
                        go_wp2_with fail
                        rw [show ((mid : Int) + 1) = ((mid + 1 : Nat) : Int) by omega]
                        refine HC.out.mono ?_
                        rintro e w5 ⟨rfl, H5, h1, h2, h3, h4⟩
                        have HS : Seal (Sorts c0 b T o n a z F (fun H => Lower a' mid H ∧ RestR a z a' mid H) w w5) := ⟨H5, h1, (HSw.out.trans (HS4.out.mono haa hzz)).trans (h2.mono (by omega) hzz), ⟨by
                          rcases HL4.out with h | h
                          · exact Or.inl h
                          · refine Or.inr fun k q1 q2 => ?_
                            rw [h2.out (k := a' - 1) (by omega), h2.out (k := k) (by omega)]
                            exact h k q1 (by omega), (HRe.out.swps HS4.out).left hm1 hm2 HP4.out h2 h3⟩, HK4.out.trans h4 (fun _ _ h => h)⟩
                        clear h1 h2 h3 h4 HC
                        go_wp2_with fail
                        obtain ⟨H, h1, h2, h3, h4⟩ := HS.out
                        exact ⟨⟨a', mid, l2, rfl, rfl, rfl, ⟨_, rfl⟩, ⟨_, rfl⟩, by omega, by omega, by omega, hl2, H, h1, h2, h3.1, h3.2, h4⟩, by simp only [intOf]; omega⟩

set_option maxHeartbeats 1000000 in
theorem Sort_at {F : Nat → Nat} {w : World} (h : RowU c0 b T o n F w) (hn : n < 4611686018427387904) :
    Calls Try.prog 32 #[.slice (some ⟨b, o, none⟩) n cap] w fun e w' => e = .returned (.tuple #[]) ∧ Sorts c0 b T o n 0 n F (SortedR 0 n) w w' := by
  have HL : Seal _ := ⟨Try.bits_Len (n : Nat) w (by omega) (by omega)⟩
  have hk : Lib.bitLen n ≤ 62 := by
    by_cases h0 : n = 0
    · rw [h0]; decide
    · exact bitLen_62 h0 hn
  obtain ⟨k, hk2⟩ : ∃ k, Lib.bitLen n = k := ⟨_, rfl⟩
  rw [Int.toNat_natCast, hk2] at HL
  rw [hk2] at hk
  clear hk2
  have HC : Seal (Calls Try.prog 34 #[.slice (some ⟨b, o, none⟩) n cap, .int .i64 0, .int .i64 (n : Nat), .int .i64 (k : Nat)] w fun e w' => e = .returned (.tuple #[]) ∧ Sorts c0 b T o n 0 n F (SortedR 0 n) w w') := ⟨Pdq_at (n + 1) 0 n k F w (by omega) h (by omega) (Nat.le_refl _) hn (by omega) (Or.inl rfl)⟩
  clear h
  go_enter Try.func32, Try.ntmps32
  go_wp2_with fail
  refine HL.out.mono ?_
  rintro e w' ⟨rfl, rfl⟩
  go_wp2_with fail
  refine HC.out.mono ?_
  rintro e w2 ⟨rfl, hs⟩
  have HS : Seal _ := ⟨hs⟩
  clear hs
  go_wp2_with fail
  go_end0
  exact ⟨rfl, HS.out⟩

end

end Go.Proofs.Ytapmbignpdkfbaa
