/-
  Package kind: which slots are references (ref, Refs).
  Package shape: the references of a view, handed over one behind the other (refs).
  Package shape: what an object refers to (Targets), which slots are references (Refs).
-/
import Derived.Test.YtllpibknkajfnaaGreatDoorView
import Derived.Test.YtllpibknkajfnaaGreatDoorDocB
import Derived.Test.YtllpibknkajfnaaGreatDoorLibA
import Derived.Test.YtllpibknkajfnaaGreatDoorSpaceIter
import Derived.Test.YtllpibknkajfnaaGreatDoorRowsA
import Derived.Laws.EntriesVeiled
namespace Go.Proofs.YtllpibknkajfnaaGreatDoor
open Go.RowKit
set_option linter.unusedVariables false

theorem bit_mod {v k : Nat} : v.testBit k = (v / 2 ^ k % 2 == 1) := by
  rw [Nat.testBit_eq_decide_div_mod_eq]
  rfl

theorem LRef_bit (k wds n : Int) (M s : Nat) (w : World) (hM : M < 18446744073709551616) (hs : s < 64) (h2 : ¬ k = 2) (h3 : ¬ k = 3) :
    Calls Tryz.prog 140 #[layV k wds (M : Nat) n, .int .i64 (s : Nat)] w fun e w' => e = .returned (.bool (M / 2 ^ s % 2 == 1)) ∧ Keep Nope w w' := by
  unfold layV
  have b2 : (k == 2) = false := by simpa using h2
  have b3 : (k == 3) = false := by simpa using h3
  have HT : Seal ((bits BinOp.and IntKind.u64 ((M : Int) / 2 ^ s) 1 == 1) = (M / 2 ^ s % 2 == 1)) := ⟨by rw [bit_test M s hM, bit_mod]⟩
  go_enter Tryz.func140, Tryz.ntmps140
  go_wp2
  go_ret
  exact ⟨by rw [← HT.out]; rfl, (Keep.refl Nope w).alloc _⟩

theorem LRef_raw (wds n : Int) (s : Nat) (w : World) (hs : s < 65536) :
    Calls Tryz.prog 140 #[layV 4 wds 0 n, .int .i64 (s : Nat)] w fun e w' => e = .returned (.bool false) ∧ Keep Nope w w' := by
  unfold layV
  have HT : bits BinOp.and IntKind.u64 0 1 = 0 := by decide +kernel
  by_cases h : s < 64
  · have HZ : (0 : Int) / 2 ^ s = 0 := Int.zero_ediv _
    go_enter Tryz.func140, Tryz.ntmps140
    go_wp2
    go_ret
    exact ⟨by first | rfl | simp [HT] | (rw [HT]; rfl), (Keep.refl Nope w).alloc _⟩
  · go_enter Tryz.func140, Tryz.ntmps140
    go_wp2
    go_ret
    exact ⟨by first | rfl | simp [HT] | (rw [HT]; rfl), (Keep.refl Nope w).alloc _⟩

theorem LRef_row (wds m n : Int) (s : Nat) (w : World) :
    Calls Tryz.prog 140 #[layV 2 wds m n, .int .i64 (s : Nat)] w fun e w' => e = .returned (.bool true) ∧ Keep Nope w w' := by
  unfold layV
  go_enter Tryz.func140, Tryz.ntmps140
  go_wp2
  go_ret
  exact ⟨rfl, (Keep.refl Nope w).alloc _⟩

theorem LRef_structs (V : Nat) (n : Int) (M s : Nat) (w : World) (hM : M < 18446744073709551616) (hV0 : 1 ≤ V) (hV : V ≤ 16) (hs : s < 65536) :
    Calls Tryz.prog 140 #[layV 3 (V : Nat) (M : Nat) n, .int .i64 (s : Nat)] w fun e w' => e = .returned (.bool (M / 2 ^ (s % V) % 2 == 1)) ∧ Keep Nope w w' := by
  unfold layV
  have hm : ((s : Nat) : Int).tmod ((V : Nat) : Int) = ((s % V : Nat) : Int) := by
    rw [Int.tmod_eq_emod_of_nonneg (by omega)]
    push_cast; rfl
  have hr16 : s % V < 16 := Nat.lt_of_lt_of_le (Nat.mod_lt _ (by omega)) (by omega)
  obtain ⟨r, hr⟩ : ∃ r, s % V = r := ⟨_, rfl⟩
  rw [hr] at hm hr16 ⊢
  have hv0 : ¬ ((V : Nat) : Int) = 0 := by omega
  have hv1 : (((V : Nat) : Int) == 0) = false := by simp; omega
  have HT : Seal ((bits BinOp.and IntKind.u64 ((M : Int) / 2 ^ r) 1 == 1) = (M / 2 ^ r % 2 == 1)) := ⟨by rw [bit_test M r hM, bit_mod]⟩
  clear hr
  go_enter Tryz.func140, Tryz.ntmps140
  go_wp2
  go_ret
  exact ⟨by rw [← HT.out]; rfl, (Keep.refl Nope w).alloc _⟩

theorem LRef_any (k wds n : Int) (M s : Nat) (w : World) (hM : M < 18446744073709551616) (hE : kindE k wds M n = 0) (hs : (s : Int) < slotsT k wds n) :
    Calls Tryz.prog 140 #[layV k wds (M : Nat) n, .int .i64 (s : Nat)] w fun e w' => e = .returned (.bool (isRefT k wds M s)) ∧ Keep Nope w w' := by
  have hs2 : s < 65536 := by have := (slotsT_range hE).2; omega
  obtain ⟨z1, z2, z3, z4, z5⟩ := kindE_zero hE
  rcases z5 with ⟨rfl, h1, h2⟩ | ⟨rfl, h1, h2⟩ | ⟨rfl | rfl, rfl⟩
  · rw [show isRefT 1 wds M s = (M / 2 ^ s % 2 == 1) by unfold isRefT; rw [if_pos rfl]]
    refine LRef_bit 1 wds n M s w hM ?_ (by omega) (by omega)
    rw [slotsT, if_pos rfl] at hs
    omega
  · obtain ⟨V, rfl⟩ := Int.eq_ofNat_of_zero_le (show 0 ≤ wds by omega)
    rw [show isRefT 3 (V : Nat) M s = (M / 2 ^ (s % V) % 2 == 1) by unfold isRefT; rw [if_neg (by omega), if_pos rfl, Int.toNat_natCast]]
    exact LRef_structs V n M s w hM (by omega) (by omega) hs2
  · rw [show isRefT 2 0 M s = true by unfold isRefT; rw [if_neg (by omega), if_neg (by omega)]; rfl]
    exact LRef_row 0 _ n s w
  · rw [show isRefT 4 0 M s = false by unfold isRefT; rw [if_neg (by omega), if_neg (by omega)]; rfl]
    have hM0 : M = 0 := by
      have := z1
      simp [okT] at this
      exact this
    subst hM0
    exact LRef_raw 0 n s w hs2

set_option maxHeartbeats 2000000 in
theorem KRefs_any (k wds : Int) (M : Nat) (n : Int) (w : World) (hM : M < 18446744073709551616) (hE : kindE k wds M n = 0) :
    Calls Tryz.prog 136 #[.agg #[.int .u8 k, .int .i64 wds, .int .u64 (M : Nat)], .int .i64 n] w (DRefsPost k wds M n w) := by
  obtain ⟨K, hK⟩ : ∃ K : Nat, slotsT k wds n = (K : Nat) := Int.eq_ofNat_of_zero_le (slotsT_range hE).1
  have hK2 : K ≤ 65536 := by have := (slotsT_range hE).2; omega
  have CO := fun w => Kof_any k wds M n w
  unfold typeV at CO
  have HO0 : Seal _ := ⟨CO⟩
  have HZ : Seal _ := ⟨hE⟩
  have CS := fun w => slots_any k wds M n w hE
  rw [hK] at CS
  unfold layV at CS
  have HC : Seal _ := ⟨CS⟩
  have HIs : Seal (∀ (s : Nat) W', s < K → Calls Tryz.prog 140 #[.agg #[.int .u8 k, .int .i64 wds, .int .u64 (M : Nat), .int .i64 n], .int .i64 (s : Nat)] W' fun e w' => e = .returned (.bool (isRefT k wds M s)) ∧ Keep Nope W' w') :=
    ⟨fun s W' hs => LRef_any k wds n M s W' hM hE (by rw [hK]; omega)⟩
  have HR : Seal (refsT k wds M n = refsUpto k wds M K) := ⟨by unfold refsT; rw [hK, Int.toNat_natCast]⟩
  have kA := (Keep.refl Nope w).alloc (.cells #[.int .u8 k, .int .i64 wds, .int .u64 (M : Nat)] 84)
  clear CO CS hK hE
  go_enter Tryz.func136, Tryz.ntmps136
  go_wp2_with fail
  obtain ⟨w1, hw1⟩ : ∃ w1, w1 = w.alloc (.cells #[.int .u8 k, .int .i64 wds, .int .u64 (M : Nat)] 84) := ⟨_, rfl⟩
  rw [← hw1] at kA ⊢
  clear hw1
  refine (HO0.out w1).mono ?_
  rintro e w2 ⟨v, rfl, hv, hv0, k2⟩
  have hv2 := hv0 HZ.out
  unfold layV at hv2
  subst hv2
  rw [HZ.out]
  clear hv hv0
  obtain ⟨w3, hw3⟩ : ∃ w3, w3 = w2.alloc (.cells #[.int .u8 k, .int .i64 wds, .int .u64 (M : Nat), .int .i64 n] 219) := ⟨_, rfl⟩
  have k3 : Keep Nope w2 w3 := by rw [hw3]; exact (Keep.refl _ w2).alloc _
  have b3 : w3.heap[w2.heap.size]? = some (.cells #[.int .u8 k, .int .i64 wds, .int .u64 (M : Nat), .int .i64 n] 219 (0, 0)) := by rw [hw3]; exact World.alloc_heap_new w2 _
  have HB3 : Seal _ := ⟨b3⟩
  have HK3 : Seal _ := ⟨(kA.then' k2).then' k3⟩
  clear kA k2 k3 b3
  go_wp2_with fail
  rw [← hw3]
  clear hw3
  refine (HC.out w3).mono ?_
  rintro e w4 ⟨rfl, k4⟩
  have HB4 : Seal _ := ⟨k4.at_ HB3.out (fun h => h)⟩
  have HK4 : Seal _ := ⟨HK3.out.then' k4⟩
  clear k4
  obtain ⟨L, hL⟩ : ∃ L, w2.heap.size = L := ⟨_, rfl⟩
  rw [hL] at HB4
  go_wp2_with fail
  go_loopw [4, 7, 19] (fun v _ y wr => ∃ j : Nat, j ≤ K ∧ y = .int .i64 (j : Nat) ∧ wr.ownsRow w4.heap.size 3 1 v (refsUpto k wds M j).length (natVs (refsUpto k wds M j)) ∧ Keep Nope w4 wr) (fun _ _ y _ => K - (intOf y).toNat)
  case atStart => exact ⟨0, Nat.zero_le _, rfl, World.ownsRow_nil _ _ _ _, Keep.refl _ _⟩
  case round =>
    obtain ⟨j, hj, rfl, hown, hk⟩ := hrel
    by_cases hjl : j < K
    · have hjl' : (j : Int) < (K : Int) := by omega
      obtain ⟨a0, a1, a2, a3⟩ := cells4 (hk.at_ HB4.out (fun h => h))
      have hlen := refsUpto_len k wds M j
      have hsz1 := hk.size
      have HK : Seal _ := ⟨hk⟩
      have HO : Seal _ := ⟨hown⟩
      have HSu : Seal _ := ⟨refsUpto_succ k wds M j⟩
      clear hk hown
      go_wp2_with fail
      refine (HIs.out j _ hjl).mono ?_
      rintro e w5 ⟨rfl, k5⟩
      have K5 := HK.out.then' k5
      have O5 : w5.ownsRow w4.heap.size 3 1 u4 (refsUpto k wds M j).length (natVs (refsUpto k wds M j)) := k5.owns HO.out (fun _ _ h => h)
      have hs5 := k5.size
      cases hb : isRefT k wds M j with
      | false =>
        have HE : Seal (refsUpto k wds M (j + 1) = refsUpto k wds M j) := ⟨by rw [HSu.out, hb]; simp⟩
        have HO5 : Seal _ := ⟨O5⟩
        have HK5 : Seal _ := ⟨K5⟩
        clear hb a0 a1 a2 a3 k5 O5 K5
        go_wp2
        exact ⟨⟨j + 1, by omega, by go_num, by rw [HE.out]; exact HO5.out, HK5.out⟩, by simp only [intOf]; omega⟩
      | true =>
        have HE : Seal (refsUpto k wds M (j + 1) = refsUpto k wds M j ++ [j]) := ⟨by rw [HSu.out, hb]; simp⟩
        have HO5 : Seal _ := ⟨O5⟩
        have HK5 : Seal _ := ⟨K5⟩
        clear hb a0 a1 a2 a3 k5 O5 K5
        go_wp2_with (at_builtin; obtain ⟨i0, hi, hz0, hz1, hz2⟩ := info_parts Tryz.infoInt; go_loud (refine wpList_append_lies _ rfl (.tmp 25) (.tmp 27) 33 rfl w4.heap.size 3 i0 _ 1 8 Tryz.underlyingInts hi hz0 hz1 hz2 rfl (by omega) u4 (refsUpto k wds M j).length (natVs (refsUpto k wds M j)) rfl (HO5.out.alloc _) ⟨w5.heap.size, 0, none⟩ 1 1 [.int .i64 (j : Nat)] rfl rfl (World.news_of_block (World.alloc_heap_new w5 _)) (by intro u hu; simp at hu; subst hu; rfl) (by omega) (by unfold maxLen; omega) (by omega) (by simp; omega) (w5.heap.size + 1) (by simp) ?_); intro g cap w6 hown6 hgrow hat hlt; clear hi hz0 hz1 hz2)
        have k6 : Keep Nope w4 w6 := (HK5.out.alloc _).grown hgrow (fun k e hl => absurd (HO5.out.lt k e).1 (by omega))
        have h6 : w6.ownsRow w4.heap.size 3 1 (.slice (some ⟨g, 0, none⟩) ((refsUpto k wds M j).length + 1) cap) (refsUpto k wds M (j + 1)).length (natVs (refsUpto k wds M (j + 1))) := by
          rw [HE.out, natVs, List.map_append, List.length_append]; exact hown6
        clear hown6 hgrow hat
        go_wp2
        exact ⟨⟨j + 1, by omega, by go_num, h6, k6⟩, by simp only [intOf]; omega⟩
    · have hjl' : ¬ (j : Int) < (K : Int) := by omega
      have HE : Seal (refsT k wds M n = refsUpto k wds M j) := ⟨by rw [HR.out, show j = K by omega]⟩
      have hz : w.heap.size ≤ w4.heap.size := HK4.out.size
      go_wp2
      exact bodyPost_ret (v := .tuple #[u4, .int .i64 0]) (by simp [results, Tryz.results136, go_sem]) rfl ⟨u4, rfl, by rw [HE.out]; exact ownsRow_less5 hown hz, HK4.out.then' hk⟩

end Go.Proofs.YtllpibknkajfnaaGreatDoor

namespace Go.Proofs.YtllpibknkajfnaaGreatDoor
open Go.RowKit
set_option linter.unusedVariables false
attribute [local go_sem] Oper.semAt_some

theorem vrefs_fn (b : Nat) (w : World) :
    Calls Tryz.prog 121 #[.pointer (some ⟨b, 0, none⟩)] w fun e w' =>
      e = .returned (.func (.func 135) #[] #[.pointer (some ⟨w.heap.size, 0, none⟩)]) ∧ w.alloc (.cells #[.pointer (some ⟨b, 0, none⟩)] 86) = w' := by
  have hmf : ∀ (fn : Fn) (first cap : Array Value) (w : World), (Instr.makeFunc fn first cap).run Tryz.prog w = .ok (.func fn first cap) w := fun _ _ _ _ => rfl
  go_enter Tryz.func121, Tryz.ntmps121
  go_wp2
  go_ret
  exact ⟨rfl, rfl⟩

theorem refsT_mem {k wds : Int} {M : Nat} {n : Int} {s : Nat} (hE : kindE k wds M n = 0) (h : s ∈ refsT k wds M n) : (s : Int) < slotsT k wds n := by
  have := refsUpto_mem h
  have := (slotsT_range hE).1
  omega

theorem refsT_len {k wds : Int} {M : Nat} {n : Int} (hE : kindE k wds M n = 0) : (refsT k wds M n).length ≤ 65536 := by
  have := refsUpto_len k wds M (slotsT k wds n).toNat
  have := (slotsT_range hE).2
  unfold refsT
  omega

theorem owns_slice {w : World} {base : Nat} {e : TypeId} {size : Nat} {v : Value} {n : Nat} {xs : List Value} (h : w.ownsRow base e size v n xs) : ∃ a c, v = .slice a n c := by
  rcases h.2 with ⟨h, h0⟩ | ⟨g, cap, cur, h, _⟩
  · exact ⟨_, _, by rw [h, h0]⟩
  · exact ⟨_, _, h⟩

theorem row_cell {w : World} {base : Nat} {e : TypeId} {a : Option Addr} {n c : Nat} {xs : List Nat} {i x : Nat} (h : w.ownsRow base e 1 (.slice a n c) n (natVs xs)) (hx : xs[i]? = some x) : ∃ b, a = some ⟨b, 0, none⟩ ∧ w.cell? ⟨b, i, none⟩ = some (.int .i64 (x : Nat)) := by
  have hi := (List.getElem?_eq_some_iff.1 hx).1
  have hn : xs.length = n := by have := h.1; simpa [natVs] using this
  rcases h.2 with ⟨-, h0⟩ | ⟨g, cap, cur, hv, g2, g3, g4, g5, g6, g7⟩
  · omega
  · injection hv with h1 h2 h3
    refine ⟨g, h1, ?_⟩
    have : cur.toList[i]? = some (.int .i64 (x : Nat)) := by
      rw [← List.getElem?_take_of_lt (j := n * 1) (by omega), g7, natVs, List.getElem?_map, hx]
      rfl
    simp only [World.cell?, g3]
    rw [← this]
    simp

set_option maxRecDepth 20000 in
set_option maxHeartbeats 4000000 in
theorem vrefs_iter4 (bx b a q n : Nat) (W0 : Nat → Nat) (c : Cel) (k wds : Int) (m : Nat) (w : World) (hA : ArenaAt w a q W0 n) (hV : ViewAt w b a c k wds m) (hE : kindE k wds m (c.ln : Nat) = 0) (hM : m < 18446744073709551616) (hfit : 2 * c.g + 1 + slotsT k wds (c.ln : Nat) ≤ (n : Nat))
    (hb : w.heap[bx]? = some (.cells #[.pointer (some ⟨b, 0, none⟩)] 86 (0, 0))) {R : Nat → Prop} (hR : ∀ i, R i → i < w.heap.size ∧ ¬ i = bx ∧ ¬ i = b ∧ ¬ i = a ∧ ¬ i = q) :
    IterAt4 Tryz.prog 135 #[.pointer (some ⟨bx, 0, none⟩)] (fun s => #[.int .i64 (s : Nat), .int .u64 (W0 (2 * c.g + 1 + s) : Nat)]) (refsT k wds m (c.ln : Nat)) Nope R w := by
  intro l J Jx S0 W hW hl1 hl2 hS hJ hJx hY h0
  have lbx := lt_of_heap hb
  have lbv := lt_of_heap hV
  have la := hA.lt_a
  have lq := hA.lt_q
  have bW := hW.at_ hb (fun h => h)
  have vW := hV.keepN hW
  have aW := hA.keepN hW
  have HVw : Seal _ := ⟨vW⟩
  have HAw : Seal _ := ⟨aW⟩
  have HBw : Seal _ := ⟨bW⟩
  have hlen := refsT_len (M := m) hE
  have HK : Seal (∀ W', Calls Tryz.prog 136 #[.agg #[.int .u8 k, .int .i64 wds, .int .u64 (m : Nat)], .int .i64 (c.ln : Nat)] W' (DRefsPost k wds m (c.ln : Nat) W')) := ⟨fun W' => KRefs_any k wds m (c.ln : Nat) W' hM hE⟩
  have HLd : Seal (∀ (s : Nat) W', s ∈ refsT k wds m (c.ln : Nat) → ArenaAt W' a q W0 n → ViewAt W' b a c k wds m → Calls Tryz.prog 89 #[.pointer (some ⟨b, 0, none⟩), .int .i64 (s : Nat)] W' fun e w' => e = .returned (.tuple #[.int .u64 (W0 (2 * c.g + 1 + s) : Nat), .int .i64 0]) ∧ Keep Nope W' w') := ⟨fun s W' hs hA' hV' => by
    have := refsT_mem hE hs
    exact VLoad_yes s b a q n W0 c k wds m W' hA' hV' hE this (by omega)⟩
  obtain ⟨xs, hxs⟩ : ∃ xs, refsT k wds m (c.ln : Nat) = xs := ⟨_, rfl⟩
  have HXS : Seal _ := ⟨hxs⟩
  have HY : Seal _ := ⟨hY⟩
  rw [hxs] at hlen HLd HY ⊢
  have cb := cell_of_one bW
  obtain ⟨v0, v1, v2, v3, v4, v5, v6, v7, v8⟩ := ViewAt.cells vW
  have z1 := hW.size
  have H0 : Seal _ := ⟨h0⟩
  clear hY hxs vW aW hA hV hfit hM hE bW h0 hb
  refine (callsIn_wide (n := 0)).1 ?_
  refine callsIn_of_wp Tryz.func135 rfl trivial ?_
  simp only [Tryz.ntmps135, List.size_toArray, List.length_cons, List.length_nil, Nat.reduceAdd, Nat.reduceSub, Array.replicate_succ, Array.replicate_zero, List.push_toArray, List.append_toArray, List.nil_append, List.cons_append]
  gi_wp2_with fail
  refine wpIn_wide.2 ?_
  refine wp_region_held_drew (S := fun w' => w'.cell? ⟨bx, 0, none⟩ = some (.pointer (some ⟨b, 0, none⟩)) ∧ w'.cell? ⟨b, 4, none⟩ = some (.int .i64 (c.ln : Nat)) ∧ w'.cell? ⟨b, 6, none⟩ = some (.int .u8 k) ∧ w'.cell? ⟨b, 7, none⟩ = some (.int .i64 wds) ∧ w'.cell? ⟨b, 8, none⟩ = some (.int .u64 (m : Nat))) (by kernel_rfl) ?_ (fun hHeld => ?_)
  · (try dsimp only); (exact ⟨cb, v4, v6, v7, v8⟩)
  refine tko 0 ?_; refine tko 1 ?_; refine tko 2 ?_; refine tko 3 ?_; refine tko 4 ?_; refine tko 5 ?_; refine tko 6 ?_; refine tko 7 ?_; refine tko 8 ?_
  try simp only [Act.put, List.setIfInBounds_toArray, List.set_cons_zero, List.set_cons_succ]
  refine wpAnyH_ready (rs := [9]) (by kernel_rfl) (by simp) ?_
  refine ready_held rfl (fun K hK => ?_)
  go_simp
  go_at_call 136
  (with_reducible refine (HK.out _).mono ?_)
  rintro e w5 ⟨v, rfl, hown, k5⟩
  have K5 : Keep Nope W w5 := ((Keep.refl Nope W).drew).then' k5
  refine hK _ _ ?_ (fun hHeld => ?_)
  · (try dsimp only); (exact ⟨keepc K5 cb, keepc K5 v4, keepc K5 v6, keepc K5 v7, keepc K5 v8⟩)
  clear hK K
  try simp only [Act.put, List.setIfInBounds_toArray, List.set_cons_zero, List.set_cons_succ]
  refine tko 10 ?_; refine tko 11 ?_; refine tko 12 ?_; refine tko 13 ?_; refine tko 14 ?_
  try simp only [Act.put, List.setIfInBounds_toArray, List.set_cons_zero, List.set_cons_succ]
  refine wpAnyH_done (by kernel_rfl) ?_ _
  rw [HXS.out] at hown
  obtain ⟨va, vc, hva⟩ := owns_slice hown
  subst hva
  obtain ⟨L, hL⟩ : ∃ L, xs.length = L := ⟨_, rfl⟩
  rw [hL] at hown hlen ⊢
  have HL : Seal _ := ⟨hL⟩
  have J5 := hJ _ _ _ _ H0.out K5
  have hown5 : w5.ownsRow W.heap.size 3 1 (.slice va L vc) L (natVs xs) := hown
  have hS5 : ∀ i, S0 i → ¬ (Value.slice va L vc).ownBlock = some i := fun i hi h => by
    have := (hS _ _ _ H0.out i hi).2
    have := (ownsRow_block hown5 h).1
    omega
  have HR5 : Seal (Keep (fun i => R i ∨ i = l) W w5) := ⟨K5.of_not _⟩
  have HJ5 : Seal _ := ⟨And.intro J5 (And.intro hown5 hS5)⟩
  clear hown hown5 hS5 J5 K5 k5 hL v0 v1 v2 v3 v4 v5 v6 v7 v8 cb hHeld
  gi_wp2_with fail
  gi_loopw [6, 7, 8, 26] (fun v6 v7 v8 v26 wr => ∃ (j : Nat) (S : Nat → Prop), j ≤ L ∧ v26 = .int .i64 (j : Nat) ∧ J (xs.take j) S wr ∧ Keep (fun i => R i ∨ i = l) W wr ∧ wr.ownsRow W.heap.size 3 1 (.slice va L vc) L (natVs xs) ∧ (∀ i, S i → ¬ (Value.slice va L vc).ownBlock = some i)) (fun v6 v7 v8 v26 wr => L - (intOf v26).toNat)
  case atStart => exact ⟨0, S0, Nat.zero_le _, rfl, HJ5.out.1, HR5.out, HJ5.out.2.1, HJ5.out.2.2⟩
  case round =>
    obtain ⟨j, S, hj, rfl, hjJ, kr, ho, hSn⟩ := hrel
    have HJ : Seal _ := ⟨hjJ⟩
    have HKr : Seal _ := ⟨kr⟩
    have HO : Seal _ := ⟨ho⟩
    have HSn : Seal _ := ⟨hSn⟩
    by_cases hjl : j < L
    · have hjl' : (j : Int) < (L : Int) := by omega
      obtain ⟨x, hx⟩ : ∃ x, xs[j]? = some x := ⟨xs[j]'(by rw [HL.out]; exact hjl), by simp⟩
      obtain ⟨rb, hrb, cx⟩ := row_cell ho hx
      subst hrb
      have hmem : x ∈ xs := List.mem_of_getElem? hx
      have hnot : ∀ i, i < w.heap.size → (i = bx ∨ i = b ∨ i = a ∨ i = q) → ¬ (R i ∨ i = l) := fun i hi h hr => by
        rcases hr with hr | hr
        · have := hR i hr; omega
        · omega
      have br := kr.at_ HBw.out (hnot bx lbx (.inl rfl))
      have cb := cell_of_one br
      have HLo : Seal _ := ⟨HLd.out x wr hmem (HAw.out.keep kr (hnot a la (.inr (.inr (.inl rfl)))) (hnot q lq (.inr (.inr (.inr rfl))))) (HVw.out.keep kr (hnot b lbv (.inr (.inl rfl))))⟩
      have hsp : xs = xs.take j ++ x :: xs.drop (j + 1) := by
        obtain ⟨h1, h2⟩ := List.getElem?_eq_some_iff.1 hx
        rw [← h2, List.getElem_cons_drop h1, List.take_append_drop]
      have hst : xs.take (j + 1) = xs.take j ++ [x] := by rw [List.take_add_one, hx]; rfl
      have HSp : Seal _ := ⟨And.intro hsp hst⟩
      clear kr ho hSn hjJ hmem hnot br hsp hst hx
      gi_wp2_with fail
      refine ⟨trivial, rfl, ?_⟩
      refine (callsIn_wide.2 HLo.out).mono ?_
      rintro e w6 ⟨rfl, k6⟩
      have J6 := hJ _ _ _ _ HJ.out k6
      have HY6 : Seal _ := ⟨HY.out _ S x _ w6 HSp.out.1 J6⟩
      have O6 := ownsRow_keep HO.out k6 (fun _ _ h => h)
      have HO6 : Seal _ := ⟨O6⟩
      have HK6 : Seal _ := ⟨HKr.out.trans k6 (fun _ _ h => h.elim)⟩
      have HS6 : Seal (∀ i, S i → (R i ∨ W.heap.size ≤ i)) := ⟨fun i hi => (hS _ _ _ J6 i hi).1⟩
      have hrow6 := ownsRow_block O6 (b := rb) rfl
      clear J6 O6 k6 cx cb
      gi_wp2_with fail
      refine uponIn_yield3 HY6.out rfl ?_
      intro b' B hB
      rcases hB with ⟨rfl, hk, S', hT, hS'⟩ | ⟨rfl, hE⟩
      · have hnr : ∀ i, (S i ∨ i = l) → ¬ (Value.slice (some ⟨rb, 0, none⟩) L vc).ownBlock = some i := fun i hi h => by
          rcases hi with hi | hi
          · exact HSn.out i hi h
          · have := (ownsRow_block HO6.out h).1; omega
        have OB := ownsRow_keep HO6.out hk (fun b' hb' hs => hnr b' hs hb')
        have KB := HK6.out.trans hk (fun i hi h => by
          rcases h with h | h
          · rcases HS6.out i h with h | h
            · exact .inl h
            · omega
          · exact .inr h)
        have HF : Seal _ := ⟨And.intro hT (And.intro KB (And.intro OB (fun i hi h => by
          rcases hS' i hi with h' | h'
          · exact HSn.out i h' h
          · have := (ownsRow_block HO6.out h).2; omega : ∀ i, S' i → ¬ (Value.slice (some ⟨rb, 0, none⟩) L vc).ownBlock = some i)))⟩
        clear hT KB OB hS' hk hnr
        gi_wp2_with fail
        exact ⟨⟨j + 1, S', by omega, by go_num, by rw [HSp.out.2]; exact HF.out.1, HF.out.2.1, HF.out.2.2.1, HF.out.2.2.2⟩, by simp only [intOf]; omega⟩
      · gi_wp2_with fail
        refine bodyPost_ret (results_none rfl _ _ _) rfl ?_
        exact ⟨⟨_, rfl⟩, .inr ⟨_, ⟨_, by rw [List.append_assoc]; exact HSp.out.1.symm⟩, hE⟩⟩
    · have hjl' : ¬ (j : Int) < (L : Int) := by omega
      gi_wp2_with fail
      go_end0
      exact ⟨⟨_, rfl⟩, .inl ⟨S, by have := HJ.out; rwa [List.take_of_length_le (by rw [HL.out]; omega)] at this⟩⟩

end Go.Proofs.YtllpibknkajfnaaGreatDoor

namespace Go.Proofs.YtllpibknkajfnaaGreatDoor
open Go.RowKit
set_option linter.unusedVariables false
attribute [local go_sem] Oper.semAt_some

/-- The slots of a cell that are references. -/
def refsC (ts : List TypR) (c : Cel) : List Nat := match typeOf ts (c.ty : Nat) with | some x => refsT x.k x.wds x.m (c.ln : Nat) | none => []

end Go.Proofs.YtllpibknkajfnaaGreatDoor
