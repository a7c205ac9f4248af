/-
  The functions of package pin that go over a table: all, List, Times; Copy.
-/
import Derived.Test.YtapmbignpdkfbaaPinF
import Derived.Deep.AppendLies
namespace Go.Proofs.Ytapmbignpdkfbaa
open Go.RowKit Go.Maps
set_option linter.unusedVariables false
attribute [local go_sem] Oper.semAt_some

theorem rowU_cell {w : World} {base n : Nat} {e : TypeId} {v : Value} {xs : List Nat} (h : w.ownsRow base e 1 v n (u64L xs)) {i x : Nat} (hx : xs[i]? = some x) : ∃ g cap, v = .slice (some ⟨g, 0, none⟩) n cap ∧ w.cell? ⟨g, i, none⟩ = some (.int .u64 (x : Nat)) ∧ w.frozen? ⟨g, i, none⟩ = false := by
  have hi := (List.getElem?_eq_some_iff.1 hx).1
  have hn : xs.length = n := by have := h.1; simpa [u64L] using this
  rcases h.2 with ⟨-, h0⟩ | ⟨g, cap, cur, hv, g2, g3, g4, g5, g6, g7⟩
  · omega
  · refine ⟨g, cap, hv, ?_, frozen_one g3⟩
    have : cur.toList[i]? = some (.int .u64 (x : Nat)) := by
      rw [← List.getElem?_take_of_lt (j := n * 1) (by omega), g7, u64L, List.getElem?_map, hx]
      rfl
    simp only [World.cell?, g3]
    simpa using this

theorem rowU_slice {w : World} {base : Nat} {e : TypeId} {size : Nat} {v : Value} {n : Nat} {xs : List Value} (h : w.ownsRow base e size v n xs) : ∃ a c, v = .slice a n c := by
  rcases h.2 with ⟨h, h0⟩ | ⟨g, cap, cur, h, _⟩
  · exact ⟨_, _, by rw [h, h0]⟩
  · exact ⟨_, _, h⟩

set_option maxHeartbeats 1000000 in
theorem Keys_at (b : Nat) (w : World) : Calls Try.prog 30 #[.map (some b)] w fun e w' => e = .returned (.func (.func 33) #[] #[.pointer (some ⟨w.heap.size, 0, none⟩)]) ∧ w' = w.alloc (.cells #[.map (some b)] 44) := by
  go_enter Try.func30, Try.ntmps30
  go_wp2_with fail
  exact bodyPost_ret (v := .func (.func 33) #[] #[.pointer (some ⟨w.heap.size, 0, none⟩)]) (by simp [results, Try.results30, go_sem]) rfl ⟨rfl, rfl⟩

set_option maxHeartbeats 1000000 in
theorem All_fn (p : Option Addr) (w : World) : Calls Try.prog 24 #[.pointer p] w fun e w' => e = .returned (.func (.func 28) #[] #[.pointer (some ⟨w.heap.size, 0, none⟩)]) ∧ w' = w.alloc (.cells #[.pointer p] 25) := by
  go_enter Try.func24, Try.ntmps24
  go_wp2_with fail
  exact bodyPost_ret (v := .func (.func 28) #[] #[.pointer (some ⟨w.heap.size, 0, none⟩)]) (by simp [results, Try.results24, go_sem]) rfl ⟨rfl, rfl⟩

set_option maxRecDepth 20000 in
set_option maxHeartbeats 4000000 in
theorem all_iter (w : World) (Ap p b n : Nat) (c : Nat → Nat) (K0 : List Nat) (hA : w.heap[Ap]? = some (.cells #[.pointer (some ⟨p, 0, none⟩)] 25 (0, 0))) (hP : PinAt w p b n c) (hK : KeyF c K0) (hKr : K0.Pairwise (· < ·)) (hKl : K0.length ≤ 1099511627776)
    {R : Nat → Prop} (hR : ∀ i, R i → i < w.heap.size ∧ ¬ i = Ap ∧ ¬ i = p ∧ ¬ i = b) :
    IterN Try.prog 28 #[.pointer (some ⟨Ap, 0, none⟩)] (fun x : Nat => #[.int .u64 (x : Nat)]) (fun l => l <+: K0) (fun l => l = K0) Nope R w := by
  intro l J Jx S0 W hW hl1 hl2 hsz hS hJ hJx hY h0
  have HS : Seal _ := ⟨hS⟩
  have HJ : Seal _ := ⟨hJ⟩
  have HY : Seal _ := ⟨hY⟩
  have H0 : Seal _ := ⟨h0⟩
  have HKF : Seal _ := ⟨hK⟩
  have HKR : Seal _ := ⟨hKr⟩
  have hPW := hP.keep hW (fun h => h) (fun h => h)
  have HPW : Seal _ := ⟨hPW⟩
  have cA := cell_of_one (hW.at_ hA (fun h => h))
  have cp := cell_of_one hPW.1
  have hPl := hPW.lt
  have HZ : Seal _ := ⟨hsz⟩
  clear hS hJ hY h0 hK hKr hP hPW hA hsz
  refine (callsIn_wide (n := 0)).1 ?_
  refine callsIn_of_wp Try.func28 rfl trivial ?_
  simp only [Try.ntmps28, List.size_toArray, List.length_cons, List.length_nil, Nat.reduceAdd, Nat.reduceSub, Array.replicate_succ, Array.replicate_zero, List.push_toArray, List.append_toArray, List.nil_append, List.cons_append]
  gi_wp2_with fail
  refine ⟨trivial, rfl, ?_⟩
  refine (callsIn_wide.2 (Keys_at b W)).mono ?_
  rintro e w1 ⟨rfl, hw1⟩
  have k1 : Keep Nope W w1 := by rw [hw1]; exact (Keep.refl _ W).alloc _
  have b1 : w1.heap[W.heap.size]? = some (.cells #[.map (some b)] 44 (0, 0)) := by rw [hw1]; exact World.alloc_heap_new W _
  clear hw1
  have HSo : Seal _ := ⟨Sorted_at w1 W.heap.size b n c K0 b1 (HPW.out.2.keep k1 (fun h => h)) (fun x h hx => (HKF.out.2 x).2 ⟨h, hx⟩) hKl⟩
  have HK1 : Seal _ := ⟨k1⟩
  clear k1 b1
  gi_wp2_with fail
  refine ⟨trivial, rfl, ?_⟩
  refine (callsIn_wide.2 HSo.out).mono ?_
  rintro e w2 ⟨v, ss, hss, hsr, rfl, hrow, k2⟩
  obtain rfl : ss = K0 := riseU_uniq hsr HKR.out fun x => by rw [hss.2, HKF.out.2]
  obtain ⟨va, vc, rfl⟩ := rowU_slice hrow
  obtain ⟨L, hL⟩ : ∃ L, ss.length = L := ⟨_, rfl⟩
  have HLL : Seal _ := ⟨hL⟩
  have hz1 : W.heap.size ≤ w1.heap.size := HK1.out.size
  have HRow : Seal (w2.ownsRow W.heap.size 27 1 (.slice va L vc) L (u64L ss)) := ⟨by rw [← hL]; exact rowU_less hrow hz1⟩
  have HK2 : Seal (Keep Nope W w2) := ⟨HK1.out.thenU k2⟩
  rw [hL] at hKl ⊢
  clear hrow hL hss hsr k2 HSo
  gi_wp2_with fail
  gi_loopw [4, 14] (fun _ v14 wr => ∃ (j : Nat) (S : Nat → Prop), v14 = .int .i64 (j : Nat) ∧ j ≤ L ∧ J (ss.take j) S wr ∧ (∀ k, S k → ∀ g, (Value.slice va L vc).ownBlock = some g → k ≠ g) ∧ wr.ownsRow W.heap.size 27 1 (.slice va L vc) L (u64L ss)) (fun _ v14 _ => L - (intOf v14).toNat)
  case atStart => exact ⟨0, S0, rfl, Nat.zero_le _, HJ.out [] S0 W w2 H0.out (HK2.out.of_not _), fun k hk g hg => by
    have h1 := HS.out [] S0 W H0.out k hk
    have h2 := rowU_block HRow.out hg
    omega, HRow.out⟩
  case round =>
    obtain ⟨j, S, rfl, hj, hJs, hSg, hrow⟩ := hrel
    have HJs : Seal _ := ⟨hJs⟩
    have HSg : Seal _ := ⟨hSg⟩
    have HRw : Seal _ := ⟨hrow⟩
    clear hJs hSg hrow
    by_cases hjl : j < L
    · have hjl' : (j : Int) < (L : Int) := by omega
      obtain ⟨x, hx⟩ : ∃ x, ss[j]? = some x := ⟨_, List.getElem?_eq_getElem (by rw [HLL.out]; exact hjl)⟩
      obtain ⟨g, cap, hv, cg, fg⟩ := rowU_cell HRw.out hx
      injection hv with hva _ hvc
      subst hva
      subst hvc
      have hpre : ss.take j ++ [x] = ss.take (j + 1) := by rw [List.take_add_one, hx]; rfl
      have HPre : Seal _ := ⟨hpre⟩
      obtain ⟨fn, tmps, assign, body, hy, hRn⟩ := HY.out (ss.take j) S x wr (by rw [hpre]; exact List.take_prefix _ _) HJs.out (fun k hk => hk.elim)
      have hgl : g < wr.heap.size := (rowU_block HRw.out (b := g) rfl).2
      have hgW : W.heap.size ≤ g := (rowU_block HRw.out (b := g) rfl).1
      clear hx hpre
      gi_wp2_with fail
      refine ⟨rfl, hRn.mono ?_⟩
      rintro e W3 (⟨rfl, hk3, S', hJ3, hn3⟩ | ⟨rfl, hJ3⟩)
      · have HR3 : Seal _ := ⟨rowU_keep HRw.out hk3 (fun q hq h => by
          obtain rfl : g = q := by simpa [Value.ownBlock] using hq
          rcases h with h | h
          · exact HSg.out _ h g rfl rfl
          · omega)⟩
        have HJ3 : Seal (J (ss.take (j + 1)) S' W3) := ⟨by rw [← HPre.out]; exact hJ3⟩
        have HS3 : Seal (∀ k, S' k → ∀ q, (Value.slice (some ⟨g, 0, none⟩) L vc).ownBlock = some q → k ≠ q) := ⟨fun k hk q hq => by
          obtain rfl : g = q := by simpa [Value.ownBlock] using hq
          rcases hn3 k hk with h | h
          · exact HSg.out _ h g rfl
          · omega⟩
        clear hk3 hn3 hJ3 hy hRn
        gi_wp2_with fail
        exact ⟨⟨j + 1, S', by go_num, by omega, HJ3.out, HS3.out, HR3.out⟩, by simp only [intOf]; omega⟩
      · have HJ3 : Seal _ := ⟨hJ3⟩
        clear hJ3 hy hRn
        gi_wp2_with fail
        exact bodyPost_ret (results_none rfl _ _ _) rfl ⟨⟨_, rfl⟩, Or.inr ⟨_, by rw [HPre.out]; exact List.take_prefix _ _, HJ3.out⟩⟩
    · have hjl' : ¬ (j : Int) < (L : Int) := by omega
      gi_wp2_with fail
      go_end0
      have hJ := HJs.out
      rw [show j = L by omega, ← HLL.out, List.take_length] at hJ
      exact ⟨⟨_, rfl⟩, Or.inl ⟨S, hJ⟩⟩

/-- A row of a table's addresses, in order. -/
def RowKPost (K0 : List Nat) (w : World) (e : Ending) (w' : World) : Prop := ∃ v, e = .returned v ∧ w'.ownsRow w.heap.size 27 1 v K0.length (u64L K0) ∧ Keep Nope w w'

set_option maxHeartbeats 1000000 in
theorem List_at {w : World} {p b n : Nat} {c : Nat → Nat} {K0 : List Nat} (hP : PinAt w p b n c) (hK : KeyF c K0) (hKr : K0.Pairwise (· < ·)) (hKl : K0.length ≤ 1099511627776) :
    Calls Try.prog 14 #[.pointer (some ⟨p, 0, none⟩)] w (RowKPost K0 w) := by
  have hl := hP.lt
  obtain ⟨w1, hw1⟩ : ∃ w1, w1 = w.alloc (.cells #[.pointer (some ⟨p, 0, none⟩)] 25) := ⟨_, rfl⟩
  have k1 : Keep Nope w w1 := by rw [hw1]; exact (Keep.refl _ w).alloc _
  have z1 : w1.heap.size = w.heap.size + 1 := by rw [hw1]; simp
  have b1 : w1.heap[w.heap.size]? = some (.cells #[.pointer (some ⟨p, 0, none⟩)] 25 (0, 0)) := by rw [hw1]; exact World.alloc_heap_new w _
  have k2 : Keep Nope w1 (w1.alloc (.cells #[.slice none 0 0] 34)) := (Keep.refl _ w1).alloc _
  have HC : Seal _ := ⟨Collect_at (O := Nope) w1 (enters_of Try.func28 (by kernel_rfl) rfl)
    (all_iter (w1.alloc (.cells #[.slice none 0 0] 34)) w.heap.size p b n c K0 (k2.at_ b1 (fun h => h)) ((hP.keep k1 (fun h => h) (fun h => h)).keep k2 (fun h => h) (fun h => h)) hK hKr hKl (R := fun i => i = w1.heap.size) (fun i hi => by subst hi; simp; omega)) (fun k hk => hk.elim)
    (fun pre hp => Nat.le_trans hp.length_le hKl)⟩
  have HK1 : Seal _ := ⟨k1⟩
  have HW1 : Seal _ := ⟨hw1⟩
  have HZ1 : Seal _ := ⟨z1⟩
  clear hP hK hKr k1 hw1 b1 k2 z1
  go_enter Try.func14, Try.ntmps14
  go_wp2_with fail
  refine (All_fn _ _).mono ?_
  rintro e w' ⟨rfl, rfl⟩
  rw [← HW1.out]
  go_wp2_with fail
  refine HC.out.mono ?_
  rintro e w2 ⟨v, ss, rfl, rfl, hrow, k2⟩
  have HR : Seal _ := ⟨rowU_less hrow (base' := w.heap.size) (by have := HZ1.out; omega)⟩
  have HK2 : Seal _ := ⟨HK1.out.thenU k2⟩
  clear hrow k2
  go_wp2_with fail
  exact bodyPost_ret (v := v) (by simp [results, Try.results14, go_sem]) rfl ⟨v, rfl, HR.out, HK2.out⟩

/-- A copy of a table. -/
def CopyPost (n : Nat) (c : Nat → Nat) (w : World) (e : Ending) (w' : World) : Prop := ∃ p b, e = .returned (.pointer (some ⟨p, 0, none⟩)) ∧ PinAt w' p b n c ∧ w.heap.size ≤ p ∧ w.heap.size ≤ b ∧ Keep Nope w w'

set_option maxHeartbeats 1000000 in
theorem Copy_at {w : World} {p b n : Nat} {c : Nat → Nat} (hP : PinAt w p b n c) :
    Calls Try.prog 17 #[.pointer (some ⟨p, 0, none⟩)] w (CopyPost n c w) := by
  have cp := cell_of_one hP.1
  have HCl : Seal (Calls Try.prog 25 #[.map (some b)] w fun e w' => e = .returned (.map (some w.heap.size)) ∧ PinIn w' w.heap.size n c ∧ Keep Nope w w') := ⟨by
    obtain ⟨D, h1, h2⟩ := hP.2
    refine (AnyW.maps_Clone_owns Try.cloneMap _ _ b n D w h1).mono ?_
    rintro e w' ⟨h3, h4, h5, h6⟩
    exact ⟨h3, ⟨D, h4, h2⟩, (Keep.of_below h6).mono (fun i hi h => by omega)⟩⟩
  clear hP
  go_enter Try.func17, Try.ntmps17
  go_wp2_with fail
  refine HCl.out.mono ?_
  rintro e w1 ⟨rfl, h1, k1⟩
  have H1 : Seal _ := ⟨h1⟩
  have HK1 : Seal _ := ⟨k1⟩
  have hz := k1.size
  clear h1 k1
  go_wp2_with fail
  refine bodyPost_ret (v := .pointer (some ⟨w1.heap.size, 0, none⟩)) (by simp [results, Try.results17, go_sem]) rfl ⟨w1.heap.size, w.heap.size, rfl, ⟨World.alloc_heap_new w1 _, H1.out.keep (S := Nope) ((Keep.refl _ _).alloc _) (fun h => h)⟩, hz, Nat.le_refl _, HK1.out.alloc _⟩

end Go.Proofs.Ytapmbignpdkfbaa
