/-
  The document's table of pins: Unpin.
-/
import Derived.Test.YtapmbignpdkfbaaPinD
import Derived.Deep.RegionLaw
namespace Go.Proofs.Ytapmbignpdkfbaa
open Go.RowKit
set_option linter.unusedVariables false

set_option maxRecDepth 20000 in
set_option maxHeartbeats 2000000 in
theorem DUnpin_at {w : World} {r : Nat} {L : List Nat} (h : DocP w r L) (hl : L.length ≤ 1000000) {g : Nat} (hg : g < 18446744073709551616) :
    Calls Try.prog 19 #[.pointer (some ⟨r, 0, none⟩), .int .u64 (g : Nat)] w fun e w' => e = .returned (.int .i64 (unE (fun x => L.count x) g : Nat)) ∧ DocP w' r (L.erase g) ∧ Keep (fun k => k = r) w w' := by
  have HP : Seal _ := ⟨h⟩
  obtain ⟨v, h1, h2⟩ := h
  have HW : Seal _ := ⟨RowW.of_owns h2⟩
  have HD1 : Seal _ := ⟨h1⟩
  obtain ⟨a, c, rfl⟩ := rowU_slice h2
  obtain ⟨N, hN⟩ : ∃ N, L.length = N := ⟨_, rfl⟩
  have HN : Seal _ := ⟨hN⟩
  rw [hN] at HD1 HW h1 hl
  have cr := cell_of_one h1
  have hcap : N ≤ c := by rw [← HN.out]; exact (rowU_cap h2).1
  clear h1 h2 hN
  go_enter Try.func19, Try.ntmps19
  go_wp2_with fail
  go_loopw [5] (fun v5 wr => ∃ i : Nat, v5 = .int .i64 (i : Nat) ∧ i ≤ N ∧ Seal (∀ k, k < i → L.getD k 0 ≠ g) ∧ w = wr) (fun v5 _ => N - (intOf v5).toNat)
  case atStart => exact ⟨0, rfl, Nat.zero_le _, ⟨fun k h => by omega⟩, rfl⟩
  case round =>
    obtain ⟨i, rfl, hi, HI, rfl⟩ := hrel
    by_cases hiN : i < N
    · have hiN' : (i : Int) < (N : Int) := by omega
      obtain ⟨ab, ao, c', hv, hf⟩ := HW.out.fam (by rw [HN.out]; omega)
      injection hv with e1 e2 e3
      subst e1
      clear e2 e3
      rw [HN.out] at hf
      have ci := hf i hiN
      obtain ⟨x, hx⟩ : ∃ x, L.getD i 0 = x := ⟨_, rfl⟩
      rw [hx] at ci
      have HX : Seal _ := ⟨hx⟩
      clear hf hx
      by_cases hxg : x = g
      · have hxg' : ((x : Int) == (g : Int)) = true := by simp; omega
        have HEr : Seal (L.erase g = L.take i ++ L.drop (i + 1)) := ⟨erase_at L g i (by rw [HN.out]; exact hiN) HI.out (by rw [HX.out, hxg])⟩
        have HE : Seal (unE (fun x => L.count x) g = 0) := ⟨by
          unfold unE
          rw [if_neg]
          show ¬ L.count g = 0
          have : g ∈ L := by
            rw [← hxg, ← HX.out]
            simp only [List.getD, List.getElem?_eq_getElem (show i < L.length by rw [HN.out]; exact hiN)]
            exact List.getElem_mem _
          have := List.count_pos_iff.2 this
          omega⟩
        have u1 : IntKind.i64.wrap ((i : Int) + 1) = (i : Int) + 1 := by rw [IntKind.wrap_i64]; omega
        have HTk : Seal ((L.take i).length = i) := ⟨by rw [List.length_take, HN.out]; omega⟩
        have HDl : Seal ((L.drop (i + 1)).length = N - (i + 1)) := ⟨by rw [List.length_drop, HN.out]⟩
        have HWt : Seal (∀ W', Keep Nope w W' → RowW W' (.slice (some ⟨ab, ao, none⟩) i c) (L.take i)) := ⟨fun W' k => (HW.out.keepN k).take hi⟩
        have p1 : i ≤ c := by omega
        have p2 : (0 : Int) ≤ (i : Int) + 1 := by omega
        have p3 : (i : Int) + 1 ≤ (N : Int) := by omega
        have p4 : ((i : Int) + 1).toNat = i + 1 := by omega
        clear hxg
        by_cases hic : i + 1 = c
        · obtain rfl : c = N := by omega
          have HU : Seal (∀ W', Keep Nope w W' → RowW W' (.slice (some ⟨ab, ao, none⟩) 0 0) (L.drop (i + 1))) := ⟨fun W' k => by have := (HW.out.keepN k).drop (c' := 0) (i + 1) (by omega) (some ⟨ab, ao, none⟩) (fun h => by omega); rwa [show c - (i + 1) = 0 by omega] at this⟩
          go_wp2_with fail
          go_region_law
            (first
              | (refine step_append_w rfl rfl (.const (.slice none 0 0)) _ rfl w.heap.size 0 (.slice none 0 0) [] rfl (World.ownsRow_nil _ _ _ _) (.slice (some ⟨ab, ao, none⟩) i c) (L.take i) rfl (HWt.out _ (by first | exact Keep.refl _ _ | exact (Keep.refl _ _).drew)) (by rw [HTk.out]; omega) (Nat.le_refl _) ?_; intro v1 w1 o1 q1; have k1 : Keep Nope w w1 := (by first | exact q1.mono (fun i hi h => by simp [Value.ownBlock] at h) | exact ((Keep.refl Nope w).drew).trans q1 (fun i hi h => by simp [Value.ownBlock] at h)); rw [Nat.zero_add, List.nil_append, HTk.out] at o1; obtain ⟨a1, c1, rfl⟩ := rowU_slice o1; have cr1 := k1.cell cr (fun h => h))
              | (refine step_append_w rfl rfl _ _ rfl w.heap.size i (.slice a1 i c1) (L.take i) rfl (by first | exact o1 | exact rowU_keep o1 (Keep.refl Nope _).drew (fun _ _ h => h)) (.slice (some ⟨ab, ao, none⟩) 0 0) (L.drop (i + 1)) rfl (HU.out _ (by first | exact k1 | exact k1.drew)) (by rw [HDl.out]; omega) (by first | exact k1.size | exact k1.drew.size) ?_; intro v2 w2 o2 q2; have k2 : Keep Nope w w2 := (by first | exact k1.trans q2 (fun i hi h => by have := rowU_block o1 h; omega) | exact k1.drew.trans q2 (fun i hi h => by have := rowU_block o1 h; omega)); obtain ⟨a2, c2, rfl⟩ := rowU_slice o2; have HO2 : Seal _ := ⟨o2⟩; have br2 := k2.at_ HD1.out (fun h => h); have fr2 : w2.frozen? ⟨r, 0, none⟩ = false := frozen_one br2; have HB2 : Seal _ := ⟨br2⟩; have cr2 := cell_of_one br2; clear br2))
          all_goals
            go_wp2_with fail
            refine bodyPost_ret (v := .int .i64 0) (by simp [results, Try.results19, go_sem]) rfl ⟨by rw [HE.out]; rfl, ⟨_, one_setCell HB2.out, ?_⟩, (k2.of_not (fun k => k = r)).setCell (fun _ => rfl) _⟩
            have hr : ∀ t, t = (L.erase g).length → w2.ownsRow 0 27 1 (.slice a2 t c2) (L.erase g).length (u64L (L.erase g)) := fun t ht => by
              subst ht
              have h := rowU_less HO2.out (Nat.zero_le _)
              rwa [← HEr.out, show i + (L.drop (i + 1)).length = (L.erase g).length by rw [HEr.out, List.length_append, HTk.out]] at h
            refine rowU_keep (S := fun k => k = r) (hr _ (by rw [HEr.out, List.length_append, HTk.out, List.length_drop] <;> (have := HN.out; omega))) ((Keep.refl (fun k => k = r) w2).setCell (fun _ => rfl) _) (fun q hq e => ?_)
            subst e
            have := rowU_block HO2.out ((own_len a2 _ _ c2).trans hq)
            have := (Array.getElem?_eq_some_iff.1 HD1.out).1
            omega
        · have HU : Seal (∀ W', Keep Nope w W' → RowW W' (.slice (some ⟨ab, ao + (i + 1), none⟩) (N - (i + 1)) (c - (i + 1))) (L.drop (i + 1))) := ⟨fun W' k => (HW.out.keepN k).drop (i + 1) (by omega) _ (fun h => rfl)⟩
          have hic2 : i + 1 < c := by omega
          have hic3 : ¬ c = i + 1 := by omega
          go_wp2_with fail
          go_region_law
            (first
              | (refine step_append_w rfl rfl (.const (.slice none 0 0)) _ rfl w.heap.size 0 (.slice none 0 0) [] rfl (World.ownsRow_nil _ _ _ _) (.slice (some ⟨ab, ao, none⟩) i c) (L.take i) rfl (HWt.out _ (by first | exact Keep.refl _ _ | exact (Keep.refl _ _).drew)) (by rw [HTk.out]; omega) (Nat.le_refl _) ?_; intro v1 w1 o1 q1; have k1 : Keep Nope w w1 := (by first | exact q1.mono (fun i hi h => by simp [Value.ownBlock] at h) | exact ((Keep.refl Nope w).drew).trans q1 (fun i hi h => by simp [Value.ownBlock] at h)); rw [Nat.zero_add, List.nil_append, HTk.out] at o1; obtain ⟨a1, c1, rfl⟩ := rowU_slice o1; have cr1 := k1.cell cr (fun h => h))
              | (refine step_append_w rfl rfl _ _ rfl w.heap.size i (.slice a1 i c1) (L.take i) rfl (by first | exact o1 | exact rowU_keep o1 (Keep.refl Nope _).drew (fun _ _ h => h)) (.slice (some ⟨ab, ao + (i + 1), none⟩) (N - (i + 1)) (c - (i + 1))) (L.drop (i + 1)) rfl (HU.out _ (by first | exact k1 | exact k1.drew)) (by rw [HDl.out]; omega) (by first | exact k1.size | exact k1.drew.size) ?_; intro v2 w2 o2 q2; have k2 : Keep Nope w w2 := (by first | exact k1.trans q2 (fun i hi h => by have := rowU_block o1 h; omega) | exact k1.drew.trans q2 (fun i hi h => by have := rowU_block o1 h; omega)); obtain ⟨a2, c2, rfl⟩ := rowU_slice o2; have HO2 : Seal _ := ⟨o2⟩; have br2 := k2.at_ HD1.out (fun h => h); have fr2 : w2.frozen? ⟨r, 0, none⟩ = false := frozen_one br2; have HB2 : Seal _ := ⟨br2⟩; have cr2 := cell_of_one br2; clear br2))
          all_goals
            go_wp2_with fail
            refine bodyPost_ret (v := .int .i64 0) (by simp [results, Try.results19, go_sem]) rfl ⟨by rw [HE.out]; rfl, ⟨_, one_setCell HB2.out, ?_⟩, (k2.of_not (fun k => k = r)).setCell (fun _ => rfl) _⟩
            have hr : ∀ t, t = (L.erase g).length → w2.ownsRow 0 27 1 (.slice a2 t c2) (L.erase g).length (u64L (L.erase g)) := fun t ht => by
              subst ht
              have h := rowU_less HO2.out (Nat.zero_le _)
              rwa [← HEr.out, show i + (L.drop (i + 1)).length = (L.erase g).length by rw [HEr.out, List.length_append, HTk.out]] at h
            refine rowU_keep (S := fun k => k = r) (hr _ (by rw [HEr.out, List.length_append, HTk.out, List.length_drop] <;> (have := HN.out; omega))) ((Keep.refl (fun k => k = r) w2).setCell (fun _ => rfl) _) (fun q hq e => ?_)
            subst e
            have := rowU_block HO2.out ((own_len a2 _ _ c2).trans hq)
            have := (Array.getElem?_eq_some_iff.1 HD1.out).1
            omega
      · have hxg' : ((x : Int) == (g : Int)) = false := by simp; omega
        have HI2 : Seal (∀ k, k < i + 1 → L.getD k 0 ≠ g) := ⟨fun k hk => by
          by_cases e : k = i
          · rw [e, HX.out]; exact hxg
          · exact HI.out k (by omega)⟩
        clear hxg
        go_wp2_with fail
        exact ⟨⟨i + 1, by go_num, by omega, HI2, trivial⟩, by simp only [intOf]; omega⟩
    · have hiN' : ¬ (i : Int) < (N : Int) := by omega
      have HNm : Seal (g ∉ L) := ⟨fun hm => by
        obtain ⟨k, hk, e⟩ := List.getElem_of_mem hm
        have := HI.out k (by have := HN.out; omega)
        exact this (by simp [List.getD, List.getElem?_eq_getElem hk, e])⟩
      have HE : Seal (unE (fun x => L.count x) g = 3) := ⟨by unfold unE; rw [if_pos]; exact List.count_eq_zero_of_not_mem HNm.out⟩
      go_wp2_with fail
      exact bodyPost_ret (v := .int .i64 3) (by simp [results, Try.results19, go_sem]) rfl ⟨by rw [HE.out]; rfl, by rw [List.erase_of_not_mem HNm.out]; exact HP.out, Keep.refl _ _⟩

end Go.Proofs.Ytapmbignpdkfbaa
