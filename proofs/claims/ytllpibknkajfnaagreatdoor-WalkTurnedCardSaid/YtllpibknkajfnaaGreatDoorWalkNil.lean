/-
  walk, at no space; Gaps of free cells; Check at no arena.
-/
import Derived.Test.YtllpibknkajfnaaGreatDoorWalkCount
import Derived.Test.YtllpibknkajfnaaGreatDoorSpaceAl
import Derived.Test.YtllpibknkajfnaaGreatDoorWalkCheck
namespace Go.Proofs.YtllpibknkajfnaaGreatDoor
open Go.RowKit
set_option linter.unusedVariables false

set_option maxHeartbeats 2000000 in
theorem Cells_nil (w : World) : Calls Tryz.prog 22 #[.pointer none] w fun e w' => e = .returned (.slice none 0 0) ∧ Keep Nope w w' := by
  refine (callsIn_wide (n := 0)).1 ?_
  refine callsIn_of_wp_marks Tryz.func22 rfl trivial ?_
  simp only [Tryz.ntmps22, List.size_toArray, List.length_cons, List.length_nil, Nat.reduceAdd, Nat.reduceSub, Array.replicate_succ, Array.replicate_zero, List.push_toArray, List.append_toArray, List.nil_append, List.cons_append]
  gi_wp2_with fail
  obtain ⟨w1, hw1⟩ : ∃ w1, w1 = w.alloc (.cells #[.slice none 0 0] 52) := ⟨_, rfl⟩
  have k1 : Keep Nope w w1 := by rw [hw1]; exact (Keep.refl _ w).alloc _
  have b1 : w1.heap[w.heap.size]? = some (.cells #[.slice none 0 0] 52 (0, 0)) := by rw [hw1]; exact World.alloc_heap_new w _
  have c1 := cell_of_one b1
  have f1 := free_of_block b1 0
  have l1 := lt_of_heap b1
  rw [← hw1]
  clear hw1
  gi_wp2_with fail
  exact ⟨.slice none 0 0, by simp [results, Tryz.results22, go_sem, c1], rfl, k1⟩

set_option maxHeartbeats 2000000 in
theorem IndexFunc_nil (w : World) : Calls Tryz.prog 92 #[.slice none 0 0, .func (.func 54) #[] #[]] w fun e w' => e = .returned (.int .i64 (-1)) ∧ Keep Nope w w' := by
  go_enter Tryz.func92, Tryz.ntmps92
  go_wp2_with fail
  go_loopw [8] (fun y wr => y = .int .i64 0 ∧ Keep Nope w wr) (fun y _ => 0)
  case atStart => exact ⟨rfl, Keep.refl _ _⟩
  case round =>
    obtain ⟨rfl, hk⟩ := hrel
    go_wp2
    go_ret
    exact ⟨rfl, hk⟩

set_option maxHeartbeats 2000000 in
theorem DeleteFunc_nil (w : World) : Calls Tryz.prog 53 #[.slice none 0 0, .func (.func 54) #[] #[]] w fun e w' => e = .returned (.slice none 0 0) ∧ Keep Nope w w' := by
  have HI : Seal _ := ⟨IndexFunc_nil w⟩
  go_enter Tryz.func53, Tryz.ntmps53
  go_wp2_with fail
  refine HI.out.mono ?_
  rintro e w1 ⟨rfl, k1⟩
  go_wp2
  go_ret
  exact ⟨rfl, k1⟩

set_option maxHeartbeats 2000000 in
theorem Objects_nil (w : World) : Calls Tryz.prog 17 #[.pointer none] w fun e w' => e = .returned (.slice none 0 0) ∧ Keep Nope w w' := by
  have HC : Seal _ := ⟨Cells_nil w⟩
  go_enter Tryz.func17, Tryz.ntmps17
  go_wp2_with fail
  refine HC.out.mono ?_
  rintro e w1 ⟨rfl, k1⟩
  have HD : Seal _ := ⟨DeleteFunc_nil w1⟩
  go_wp2_with fail
  refine HD.out.mono ?_
  rintro e w2 ⟨rfl, k2⟩
  go_wp2
  go_ret
  exact ⟨rfl, k1.then' k2⟩

/-- Is the one number of a row this one? -/
theorem Index_one (x y : Nat) (b cap : Nat) (w : World) (h : w.cell? ⟨b, 0, none⟩ = some (.int .u8 (x : Nat))) :
    Calls Tryz.prog 108 #[.slice (some ⟨b, 0, none⟩) 1 cap, .int .u8 (y : Nat)] w fun e w' => e = .returned (.int .i64 (if y = x then 0 else -1)) ∧ Keep Nope w w' := by
  go_enter Tryz.func108, Tryz.ntmps108
  go_wp2_with fail
  go_loopw [8] (fun z wr => ∃ j : Nat, j ≤ 1 ∧ z = .int .i64 (j : Nat) ∧ (j = 1 → ¬ y = x) ∧ Keep Nope w wr) (fun z _ => 1 - (intOf z).toNat)
  case atStart => exact ⟨0, Nat.zero_le _, rfl, by omega, Keep.refl _ _⟩
  case round =>
    obtain ⟨j, hj, rfl, hne, hk⟩ := hrel
    replace h := hk.cell h (fun h => h)
    by_cases hjl : j < 1
    · obtain rfl : j = 0 := by omega
      by_cases e : y = x
      · have e1 : ((y : Int) == (x : Int)) = true := by simp [e]
        go_wp2
        go_ret
        exact ⟨rfl, hk⟩
      · have e1 : ((y : Int) == (x : Int)) = false := by simp; omega
        go_wp2
        exact ⟨⟨1, by omega, by go_num, fun _ => e, hk⟩, by simp only [intOf]; omega⟩
    · obtain rfl : j = 1 := by omega
      have e := hne rfl
      go_wp2
      go_ret
      exact ⟨rfl, hk⟩

theorem Contains_one (x y : Nat) (b cap : Nat) (w : World) (h : w.cell? ⟨b, 0, none⟩ = some (.int .u8 (x : Nat))) :
    Calls Tryz.prog 73 #[.slice (some ⟨b, 0, none⟩) 1 cap, .int .u8 (y : Nat)] w fun e w' => e = .returned (.bool (decide (y = x))) ∧ Keep Nope w w' := by
  have HI : Seal _ := ⟨Index_one x y b cap w h⟩
  clear h
  go_enter Tryz.func73, Tryz.ntmps73
  go_wp2_with fail
  refine HI.out.mono ?_
  rintro e w1 ⟨rfl, k1⟩
  by_cases e : y = x
  · rw [if_pos e]
    go_wp2
    go_ret
    exact ⟨by simp [e], k1⟩
  · rw [if_neg e]
    go_wp2
    go_ret
    exact ⟨by simp [e], k1⟩

set_option maxHeartbeats 2000000 in
theorem Check_nil (a b : Value) (w : World) : Calls Tryz.prog 11 #[.pointer none, a, b] w fun e w' => e = .returned (.tuple #[.slice none 0 0, .int .i64 1]) ∧ Keep Nope w w' := by
  refine (callsIn_wide (n := 0)).1 ?_
  refine callsIn_of_wp_marks Tryz.func11 rfl trivial ?_
  simp only [Tryz.ntmps11, List.size_toArray, List.length_cons, List.length_nil, Nat.reduceAdd, Nat.reduceSub, Array.replicate_succ, Array.replicate_zero, List.push_toArray, List.append_toArray, List.nil_append, List.cons_append]
  gi_wp2_with fail
  exact ⟨.tuple #[.slice none 0 0, .int .i64 1], by simp [results, Tryz.results11, go_sem], rfl, Keep.refl _ _⟩

/-- What stands in the result ahead of round j. -/
def GapI (j : Nat) (y : Value) (w : World) : Prop :=
  (j ≤ 2 ∧ y = .slice none 0 0) ∨ (j = 3 ∧ ∃ b cap, y = .slice (some ⟨b, 0, none⟩) 1 cap ∧ w.cell? ⟨b, 0, none⟩ = some (.int .i64 3) ∧ w.cell? ⟨b, 1, none⟩ = some (.int .i64 5))

set_option maxRecDepth 20000 in
set_option maxHeartbeats 4000000 in
theorem Gaps_al (P : Sp) (tb tc : Nat) (w : World) (h : SpaceHas w P alB) (ht : w.cell? ⟨tb, 0, none⟩ = some (.int .u8 ((3 : Nat) : Int))) :
    Calls Tryz.prog 38 #[.pointer (some ⟨P.s, 0, none⟩), .slice (some ⟨tb, 0, none⟩) 1 tc] w fun e w' => (∃ b cap, e = .returned (.slice (some ⟨b, 0, none⟩) 1 cap) ∧ w'.cell? ⟨b, 0, none⟩ = some (.int .i64 3) ∧ w'.cell? ⟨b, 1, none⟩ = some (.int .i64 5)) ∧ Keep Nope w w' := by
  have HC : Seal _ := ⟨Cells_at P alB w h⟩
  have HT : Seal _ := ⟨ht⟩
  clear h ht
  go_enter Tryz.func38, Tryz.ntmps38
  go_wp2_with fail
  refine HC.out.mono ?_
  rintro e wl ⟨v, rfl, hown, kl⟩
  have HRow : Seal _ := ⟨RowC.of_owns hown⟩
  obtain ⟨va, vc, rfl, -⟩ := HRow.out
  have HKl : Seal _ := ⟨kl⟩
  have HLn : Seal (alB.length = 3) := ⟨rfl⟩
  have l3 : alB.length = 3 := rfl
  rw [l3] at HRow ⊢
  clear hown kl l3
  go_wp2_with fail
  go_loopw [4, 10] (fun y z wr => ∃ j : Nat, j ≤ 3 ∧ z = .int .i64 (j : Nat) ∧ GapI j y wr ∧ Keep Nope wl wr) (fun _ z _ => 3 - (intOf z).toNat)
  case atStart => exact ⟨0, Nat.zero_le _, rfl, .inl ⟨by omega, rfl⟩, Keep.refl _ _⟩
  case round =>
    obtain ⟨j, hj, rfl, hg, hk⟩ := hrel
    have HK : Seal _ := ⟨hk⟩
    by_cases hjl : j < 3
    · have hjl' : (j : Int) < 3 := by omega
      obtain ⟨x, hx⟩ : ∃ x, alB[j]? = some x := ⟨_, List.getElem?_eq_getElem (by rw [HLn.out]; exact hjl)⟩
      obtain ⟨va', vc', hva, hcells⟩ := HRow.out
      injection hva with e1 e2 e3
      subst e1
      obtain ⟨b, hab, hbl, x0, x1, x2, x3, x4⟩ := hcells j x hx
      subst hab
      obtain ⟨hj2, rfl⟩ := hg.resolve_right (fun h => by omega)
      replace x0 := hk.cell x0 (fun h => h)
      replace x1 := hk.cell x1 (fun h => h)
      replace x2 := hk.cell x2 (fun h => h)
      replace x3 := hk.cell x3 (fun h => h)
      replace x4 := hk.cell x4 (fun h => h)
      have hO : Keep Nope wr (wr.alloc (.cells #[.int .i64 (x.g : Nat), .int .u8 (x.tag : Nat), .int .i64 (x.ty : Nat), .int .i64 (x.ln : Nat), .int .i64 (x.sz : Nat)] 62)) := (Keep.refl _ wr).alloc _
      have bn := World.alloc_heap_new wr (.cells #[.int .i64 (x.g : Nat), .int .u8 (x.tag : Nat), .int .i64 (x.ty : Nat), .int .i64 (x.ln : Nat), .int .i64 (x.sz : Nat)] 62)
      obtain ⟨d0, d1, d2, d3, d4⟩ := cells5g bn
      have HBn : Seal _ := ⟨bn⟩
      have HKA : Seal _ := ⟨hO⟩
      have HX : Seal _ := ⟨hx⟩
      have tA := (HK.out.then' hO).cell (HKl.out.cell HT.out (fun h => h)) (fun h => h)
      have HCo : Seal _ := ⟨Contains_one 3 x.tag tb tc _ tA⟩
      clear hO bn hk hx hcells e2 e3 tA
      by_cases h0 : x.tag = 1
      · have p1 : ((x.tag : Int) != 1) = false := by simp [h0]
        have HJ : Seal (j + 1 ≤ 2) := ⟨by
          have := HX.out
          rcases j with - | - | - | j
          · omega
          · omega
          · simp [alB] at this; subst this; simp at h0
          · omega⟩
        clear h0 HCo
        go_wp2_with fail
        exact ⟨⟨j + 1, by omega, by go_num, .inl ⟨HJ.out, rfl⟩, (HK.out.then' HKA.out)⟩, by simp only [intOf]; omega⟩
      · have p1 : ((x.tag : Int) != 1) = true := by simp; omega
        by_cases h2 : x.tag = 3
        · have HJ : Seal (j = 2 ∧ x = ⟨3, 3, 0, 0, 5⟩) := ⟨by
            have := HX.out
            rcases j with - | - | - | j
            · simp [alB] at this; subst this; simp at h2
            · simp [alB] at this; subst this; simp at h2
            · simp [alB] at this; exact ⟨rfl, this.symm⟩
            · omega⟩
          rw [decide_eq_true h2] at HCo
          clear h0 h2
          go_wp2_with fail
          refine HCo.out.mono ?_
          rintro e w2 ⟨rfl, k2⟩
          replace d0 := k2.cell d0 (fun h => h)
          replace d1 := k2.cell d1 (fun h => h)
          replace d4 := k2.cell d4 (fun h => h)
          have HK2 : Seal _ := ⟨(HK.out.then' HKA.out).then' k2⟩
          clear k2 x0 x1 x2 x3 x4 HCo
          obtain ⟨i0, hi, hz0, hz1, hz2⟩ := info_parts Tryz.infoRun
          go_wp2_with (at_builtin; go_loud (refine wpList_append_lies _ rfl (.tmp 25) (.tmp 32) 91 rfl w2.heap.size 94 i0 _ 2 16 Tryz.underlyingRuns hi hz0 hz1 hz2 rfl (by omega) (.slice none 0 0) 0 [] rfl (World.ownsRow_nil _ _ _ _) ⟨w2.heap.size, 0, none⟩ 1 1 [.int .i64 (x.g : Nat), .int .i64 (x.sz : Nat)] rfl rfl (World.news_of_block (World.alloc_heap_new w2 _)) (by intro u hu; simp at hu; rcases hu with rfl | rfl <;> rfl) (by omega) (by unfold maxLen; omega) (by omega) (by simp) _ rfl ?_); intro g cap w3 hown hgrow hat hlt; have KA : Keep Nope w2 w3 := ((Keep.refl Nope w2).alloc _).grown hgrow (fun k e _ => by simp [Value.ownBlock] at e); have HOw : Seal _ := ⟨hown⟩; have HKA3 : Seal _ := ⟨KA⟩; clear KA hown hgrow hat hlt)
          have HO0 : w3.cell? ⟨g, 0, none⟩ = some (.int .i64 (x.g : Nat)) ∧ w3.cell? ⟨g, 1, none⟩ = some (.int .i64 (x.sz : Nat)) := by
            rcases HOw.out.2 with ⟨h, -⟩ | ⟨g', cap', cur, e1, g2, g3, g4, g5, g6, g7⟩
            · simp at h
            · simp only [Value.slice.injEq, Option.some.injEq, Addr.mk.injEq] at e1
              obtain ⟨⟨rfl, -, -⟩, -, rfl⟩ := e1
              have key : ∀ k, k < 2 → w3.cell? ⟨g, k, none⟩ = ([] ++ [Value.int .i64 (x.g : Nat), .int .i64 (x.sz : Nat)])[k]? := fun k hk => by
                rw [← g7, List.getElem?_take_of_lt (by omega)]
                simp [World.cell?, g3]
              exact ⟨by rw [key 0 (by omega)]; rfl, by rw [key 1 (by omega)]; rfl⟩
          have q1 : (x.g : Int) = 3 := by rw [HJ.out.2]; rfl
          have q2 : (x.sz : Int) = 5 := by rw [HJ.out.2]; rfl
          rw [q1, q2] at HO0
          exact ⟨⟨j + 1, by omega, by go_num, .inr ⟨by have := HJ.out.1; omega, g, cap, rfl, HO0.1, HO0.2⟩, HK2.out.then' HKA3.out⟩, by simp only [intOf]; omega⟩
        · rw [decide_eq_false h2] at HCo
          have HJ : Seal (j + 1 ≤ 2) := ⟨by
            have := HX.out
            rcases j with - | - | - | j
            · omega
            · omega
            · simp [alB] at this; subst this; simp at h2
            · omega⟩
          clear h0 h2
          go_wp2_with fail
          refine HCo.out.mono ?_
          rintro e w2 ⟨rfl, k2⟩
          have HK2 : Seal _ := ⟨(HK.out.then' HKA.out).then' k2⟩
          clear k2
          go_wp2_with fail
          exact ⟨⟨j + 1, by omega, by go_num, .inl ⟨HJ.out, rfl⟩, HK2.out⟩, by simp only [intOf]; omega⟩
    · have hjl' : ¬ (j : Int) < 3 := by omega
      obtain rfl : j = 3 := by omega
      rcases hg with ⟨hj2, -⟩ | ⟨-, b, cap, rfl, g0, g1⟩
      · omega
      clear hk
      go_wp2
      go_ret
      exact ⟨⟨b, ⟨cap, rfl⟩, g0, g1⟩, HKl.out.then' HK.out⟩

end Go.Proofs.YtllpibknkajfnaaGreatDoor
