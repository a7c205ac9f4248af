/-
  diff.Alike, walked. Printed by tools/alike.py.
-/
import Derived.Test.YtifdhaiihlfomaaDoorDiPartW
import Derived.Deep.DeepCutAuto
import Derived.Deep.CutBlock
namespace Go.Proofs.YtifdhaiihlfomaaDoor
open Go Go.RowKit
set_option linter.unusedVariables false

theorem sameN_p (x y : NodeV) : sameN x y = true ↔ x.p = y.p := by
  unfold sameN NodeV.p
  simp only [Bool.and_eq_true, decide_eq_true_eq, NodeP.mk.injEq]
theorem sameNs_p (us vs : List NodeV) : sameNs us vs = true ↔ us.map NodeV.p = vs.map NodeV.p := by
  unfold sameNs
  rw [decide_eq_true_eq]
  constructor
  · rintro ⟨h1, h2⟩
    refine List.ext_getElem (by simpa using h1) fun i hi hj => ?_
    rw [List.length_map] at hi hj
    have h := (sameN_p _ _).1 (h2 i hi)
    rw [List.getD_eq_getElem?_getD, List.getD_eq_getElem?_getD, List.getElem?_eq_getElem hi, List.getElem?_eq_getElem hj] at h
    simpa using h
  · intro h
    have hl : us.length = vs.length := by simpa using congrArg List.length h
    refine ⟨hl, fun i hi => (sameN_p _ _).2 ?_⟩
    have hj : i < vs.length := by omega
    rw [List.getD_eq_getElem?_getD, List.getD_eq_getElem?_getD, List.getElem?_eq_getElem hi, List.getElem?_eq_getElem hj]
    have := congrArg (fun l => l[i]?) h
    simpa [hi, hj] using this
theorem part_handsEq {us vs : List NodeV} (h : us.map NodeV.p = vs.map NodeV.p) : (if us = [] then ([] : List Int) else [0]) = (if vs = [] then [] else [0]) := by
  cases us <;> cases vs <;> simp_all
/-- Two parts are the same just if their nodes are. -/
theorem sameG_part {y z : GraphV} (h1 : y.hs = (if y.ns = [] then [] else [0])) (h2 : z.hs = (if z.ns = [] then [] else [0])) (h3 : y.ps = z.ps) (h4 : y.ss = z.ss) : sameG y z = true ↔ y.p = z.p := by
  unfold sameG
  rw [Bool.and_eq_true, Bool.and_eq_true, Bool.and_eq_true, decide_eq_true_eq, decide_eq_true_eq, decide_eq_true_eq, sameNs_p]
  refine ⟨fun h => h.1, fun h => ⟨h, ?_, h3, h4⟩⟩
  rw [h1, h2]
  exact part_handsEq h
theorem partP_small {B : Nat} {P : List NodeP} {n : Int} (hP : ∀ x ∈ P, x.ws.length ≤ B ∧ x.rs.length ≤ B) : ∀ x ∈ partP P n, x.ws.length ≤ B ∧ x.rs.length ≤ B := by
  have hg : ∀ i : Nat, (P.getD i nodePZ).ws.length ≤ B ∧ (P.getD i nodePZ).rs.length ≤ B := fun i => by
    rw [List.getD_eq_getElem?_getD]
    cases h : P[i]? with
    | none => exact ⟨Nat.zero_le _, Nat.zero_le _⟩
    | some x => exact hP x (List.mem_of_getElem? h)
  have hst : ∀ k, ∀ x ∈ (stP P n k).2, x.ws.length ≤ B ∧ x.rs.length ≤ B := by
    intro k
    induction k with
    | zero => intro x hx; simp [stP] at hx
    | succ k ih =>
      cases e : (stP P n k).1[k]? with
      | none => rw [stP_none e]; exact ih
      | some j =>
        rw [stP_some e rfl]
        intro x hx
        rcases List.mem_append.1 hx with hx | hx
        · exact ih x hx
        · rw [List.mem_singleton] at hx
          subst hx
          refine ⟨(hg _).1, ?_⟩
          rw [turnL_length]
          exact (hg _).2
  unfold partP
  split
  · intro x hx; simp at hx
  · exact hst _
theorem partP_le {P : List NodeP} {n : Int} : (partP P n).length ≤ P.length := by
  by_cases h : n < 0 ∨ (P.length : Int) ≤ n
  · rw [partP, if_pos h]; exact Nat.zero_le _
  · exact (partP_again (by omega) (by omega)).2.2
/-- What Part answers is small, too. -/
theorem part_small {x y : GraphV} {n : Int} {w : World} {base : Nat} (hl : GraphL x) (h6 : x.ns.length ≤ 600) (hp : y.p = partP x.p n) (hh : y.hs = (if y.ns = [] then [] else [0])) (ho : OwnG base w y) : GraphL y ∧ y.ns.length ≤ 600 := by
  have hlen : y.ns.length ≤ x.ns.length := by
    have := partP_le (P := x.p) (n := n)
    rw [← hp] at this
    simpa [GraphV.p] using this
  refine ⟨⟨by omega, ?_, by rw [ho.pins.2]; exact Nat.zero_le _, by rw [ho.stack.2]; exact Nat.zero_le _, fun v hv => ?_⟩, by omega⟩
  · rw [hh]
    split <;> simp
  · refine partP_small (n := n) (P := x.p) (B := 17592186044416) ?_ v.p (by rw [← hp]; exact List.mem_map_of_mem hv)
    intro u hu
    obtain ⟨t, ht, rfl⟩ := List.mem_map.1 hu
    exact hl.w t ht
theorem OwnG.forms {base : Nat} {w : World} {nv hv pv sv : Value} {ns : List NodeV} {hs ps ss : List Int} (h : OwnG base w ⟨nv, hv, pv, sv, ns, hs, ps, ss⟩) : (∃ a n c, nv = .slice a n c) ∧ (∃ a n c, hv = .slice a n c) ∧ pv = .slice none 0 0 ∧ sv = .slice none 0 0 := by
  obtain ⟨a, c, h1⟩ := own_form h.nodes
  obtain ⟨a2, c2, h2⟩ := own_form h.hands
  exact ⟨⟨a, _, c, h1⟩, ⟨a2, _, c2, h2⟩, h.pins.1, h.stack.1⟩
def GraphV.cells (y : GraphV) : Obj := .cells #[y.nv, y.hv, y.pv, y.sv] 25
/-- What a call of Alike answers. -/
def AlikePost (A : List NodeP) (n : Int) (B : List NodeP) (m : Int) (w : World) (e : Ending) (w' : World) : Prop := ∃ r : Bool, e = .returned (.bool r) ∧ (r = true ↔ (partP A n ≠ [] ∧ partP A n = partP B m)) ∧ Keep Nope w w'
/-- Both parts are laid. -/
def AlikeMid (w wb : World) (A : List NodeP) (n : Int) (B : List NodeP) (m : Int) (z9 z10 : Value) (wx : World) : Prop :=
  ∃ (y z : GraphV) (g9 g10 : Nat), z9 = .pointer (some ⟨g9, 0, none⟩) ∧ z10 = .pointer (some ⟨g10, 0, none⟩) ∧ y.p = partP A n ∧ z.p = partP B m ∧ y.hs = (if y.ns = [] then [] else [0]) ∧ z.hs = (if z.ns = [] then [] else [0]) ∧
    OwnG w.heap.size wx y ∧ OwnG w.heap.size wx z ∧ wx.heap[g9]? = some y.cells ∧ wx.heap[g10]? = some z.cells ∧ Keep Nope wb wx

set_option maxRecDepth 20000 in
set_option maxHeartbeats 16000000 in
theorem Alike_R {a b : GraphV} {w : World} (ha : GraphR w a) (hla : GraphL a) (hna : a.ns.length ≤ 600) (hb : GraphR w b) (hlb : GraphL b) (hnb : b.ns.length ≤ 600) (n m : Int) :
    Calls Tryd.prog 16 #[a.val, .int .i64 n, b.val, .int .i64 m] w (AlikePost a.p n b.p m w) := by
  have HLA : Seal _ := ⟨hla⟩
  have HLB : Seal _ := ⟨hlb⟩
  have HNA : Seal _ := ⟨hna⟩
  have HNB : Seal _ := ⟨hnb⟩
  have HPA : Seal _ := ⟨@part_small a⟩
  obtain ⟨A, hA⟩ : ∃ A, a.p = A := ⟨_, rfl⟩
  obtain ⟨B, hB⟩ : ∃ B, b.p = B := ⟨_, rfl⟩
  have HpA : Seal _ := ⟨hA⟩
  have HpB : Seal _ := ⟨hB⟩
  rw [hA, hB]
  clear hA hB hla hlb hna hnb HPA
  obtain ⟨anv, ahv, apv, asv, ans, ahs, aps, ass⟩ := a
  obtain ⟨bnv, bhv, bpv, bsv, bns, bhs, bps, bss⟩ := b
  have HA : Seal _ := ⟨ha⟩
  have HB : Seal _ := ⟨hb⟩
  obtain ⟨nfa, hfa, pfa, sfa⟩ := ha
  obtain ⟨nfb, hfb, pfb, sfb⟩ := hb
  obtain ⟨ana, ann, anc, rfl⟩ := nodes_form nfa
  obtain ⟨aha, ahn, ahc, rfl⟩ := row_form hfa
  obtain ⟨apa, apn, apc, rfl⟩ := row_form pfa
  obtain ⟨asa, asn, asc, rfl⟩ := row_form sfa
  obtain ⟨bna, bnn, bnc, rfl⟩ := nodes_form nfb
  obtain ⟨bha, bhn, bhc, rfl⟩ := row_form hfb
  obtain ⟨bpa, bpn, bpc, rfl⟩ := row_form pfb
  obtain ⟨bsa, bsn, bsc, rfl⟩ := row_form sfb
  clear nfa hfa pfa sfa nfb hfb pfb sfb
  unfold GraphV.val
  dsimp only
  have ka : Keep Nope w ((w.alloc (.cells #[.slice ana ann anc, .slice aha ahn ahc, .slice apa apn apc, .slice asa asn asc] 25)).alloc (.cells #[.slice bna bnn bnc, .slice bha bhn bhc, .slice bpa bpn bpc, .slice bsa bsn bsc] 25)) := ((Keep.refl _ _).alloc _).alloc _
  have x1 : ((w.alloc (.cells #[.slice ana ann anc, .slice aha ahn ahc, .slice apa apn apc, .slice asa asn asc] 25)).alloc (.cells #[.slice bna bnn bnc, .slice bha bhn bhc, .slice bpa bpn bpc, .slice bsa bsn bsc] 25)).heap[w.heap.size]? = some (.cells #[.slice ana ann anc, .slice aha ahn ahc, .slice apa apn apc, .slice asa asn asc] 25) := by
    rw [Below.heap_alloc _ _ _ (by simp)]
    exact World.alloc_heap_new w _
  have x2 : ((w.alloc (.cells #[.slice ana ann anc, .slice aha ahn ahc, .slice apa apn apc, .slice asa asn asc] 25)).alloc (.cells #[.slice bna bnn bnc, .slice bha bhn bhc, .slice bpa bpn bpc, .slice bsa bsn bsc] 25)).heap[w.heap.size + 1]? = some (.cells #[.slice bna bnn bnc, .slice bha bhn bhc, .slice bpa bpn bpc, .slice bsa bsn bsc] 25) := by
    have := World.alloc_heap_new (w.alloc (.cells #[.slice ana ann anc, .slice aha ahn ahc, .slice apa apn apc, .slice asa asn asc] 25)) (.cells #[.slice bna bnn bnc, .slice bha bhn bhc, .slice bpa bpn bpc, .slice bsa bsn bsc] 25)
    simpa using this
  go_enter Tryd.func16, Tryd.ntmps16
  go_upto_region 1 with fail
  obtain ⟨wb, hwb⟩ : ∃ wb, ((w.alloc (.cells #[.slice ana ann anc, .slice aha ahn ahc, .slice apa apn apc, .slice asa asn asc] 25)).alloc (.cells #[.slice bna bnn bnc, .slice bha bhn bhc, .slice bpa bpn bpc, .slice bsa bsn bsc] 25)) = wb := ⟨_, rfl⟩
  rw [hwb] at ka x1 x2 ⊢
  clear hwb
  have KA : Seal _ := ⟨ka⟩
  obtain ⟨a0, a1, a2, a3⟩ := cells4 x1
  obtain ⟨b0, b1, b2, b3⟩ := cells4 x2
  clear ka x1 x2
  go_cut [9, 10] from 11 to 16 (fun z9 z10 wx => AlikeMid w wb A n B m z9 z10 wx)
  case first =>
    have k0 : Keep Nope w wb.drew := KA.out.drew
    refine wp_region_held_drew (S := fun w' => w'.cell? ⟨w.heap.size, 0, none⟩ = some (.slice ana ann anc) ∧ w'.cell? ⟨w.heap.size, 1, none⟩ = some (.slice aha ahn ahc) ∧ w'.cell? ⟨w.heap.size, 2, none⟩ = some (.slice apa apn apc) ∧ w'.cell? ⟨w.heap.size, 3, none⟩ = some (.slice asa asn asc) ∧ w'.cell? ⟨w.heap.size + 1, 0, none⟩ = some (.slice bna bnn bnc) ∧ w'.cell? ⟨w.heap.size + 1, 1, none⟩ = some (.slice bha bhn bhc) ∧ w'.cell? ⟨w.heap.size + 1, 2, none⟩ = some (.slice bpa bpn bpc) ∧ w'.cell? ⟨w.heap.size + 1, 3, none⟩ = some (.slice bsa bsn bsc)) (by kernel_rfl) ?_ (fun hHeld => ?_)
    · (try dsimp only); exact ⟨keepc (Keep.refl _ _).drew a0, keepc (Keep.refl _ _).drew a1, keepc (Keep.refl _ _).drew a2, keepc (Keep.refl _ _).drew a3, keepc (Keep.refl _ _).drew b0, keepc (Keep.refl _ _).drew b1, keepc (Keep.refl _ _).drew b2, keepc (Keep.refl _ _).drew b3⟩
    have k0 : Keep Nope wb wb.drew := (Keep.refl _ _).drew
    obtain ⟨W0, hW0⟩ : ∃ W0, wb.drew = W0 := ⟨_, rfl⟩
    rw [hW0] at k0 hHeld ⊢
    clear hW0
    refine tko 0 ?_; refine tko 1 ?_; refine tko 3 ?_; refine tko 4 ?_
    try simp only [Act.put, List.setIfInBounds_toArray, List.set_cons_zero, List.set_cons_succ]
    refine wpAnyH_ready (rs := [2, 6, 7]) (by kernel_rfl) (by simp) ?_
    refine readyc_held rfl (fun K hK => ?_) (readyc_held rfl (fun K hK => ?_) (ready_held rfl (fun K hK => ?_)))
    · go_simp
      go_at_call 15
      refine (Part_R (HA.out.keep (KA.out.then' k0)) HLA.out HNA.out n).mono ?_
      rintro e W1 ⟨v, rfl, ⟨ynv, yhv, ypv, ysv, yns, yhs, yps, yss⟩, rfl, hp, hh, ho, kk⟩
      obtain ⟨⟨yna, ynn, ync, rfl⟩, ⟨yha, yhn, yhc, rfl⟩, rfl, rfl⟩ := ho.forms
      have PA : Seal _ := ⟨hp.trans (congrArg (fun q => partP q n) HpA.out)⟩
      have QA : Seal _ := ⟨hh⟩
      have k1 := k0.then' kk
      have OA_1 : Seal _ := ⟨ho.low (base' := w.heap.size) (KA.out.then' k0).size⟩
      clear hp hh ho kk
      dsimp only [GraphV.val]
      dsimp only at PA QA
      refine hK _ _ ?_ (fun hHeld => ?_)
      · (try dsimp only); exact ⟨keepc k1 a0, keepc k1 a1, keepc k1 a2, keepc k1 a3, keepc k1 b0, keepc k1 b1, keepc k1 b2, keepc k1 b3⟩
      clear hK K
      try simp only [Act.put, List.setIfInBounds_toArray, List.set_cons_zero, List.set_cons_succ]
      refine wpAnyH_ready (rs := [5, 6, 7]) (by kernel_rfl) (by simp) ?_
      refine readyc_held rfl (fun K hK => ?_) (readyc_held rfl (fun K hK => ?_) (ready_held rfl (fun K hK => ?_)))
      · go_simp
        go_at_call 15
        refine (Part_R (HB.out.keep (KA.out.then' k1)) HLB.out HNB.out m).mono ?_
        rintro e W2 ⟨v, rfl, ⟨znv, zhv, zpv, zsv, zns, zhs, zps, zss⟩, rfl, hp, hh, ho, kk⟩
        obtain ⟨⟨zna, znn, znc, rfl⟩, ⟨zha, zhn, zhc, rfl⟩, rfl, rfl⟩ := ho.forms
        have PB : Seal _ := ⟨hp.trans (congrArg (fun q => partP q m) HpB.out)⟩
        have QB : Seal _ := ⟨hh⟩
        have k2 := k1.then' kk
        have OA_2 : Seal _ := ⟨OA_1.out.keep kk⟩
        clear OA_1
        have OB_2 : Seal _ := ⟨ho.low (base' := w.heap.size) (KA.out.then' k1).size⟩
        clear hp hh ho kk
        dsimp only [GraphV.val]
        dsimp only at PB QB
        refine hK _ _ ?_ (fun hHeld => ?_)
        · (try dsimp only); exact ⟨keepc k2 a0, keepc k2 a1, keepc k2 a2, keepc k2 a3, keepc k2 b0, keepc k2 b1, keepc k2 b2, keepc k2 b3⟩
        clear hK K
        try simp only [Act.put, List.setIfInBounds_toArray, List.set_cons_zero, List.set_cons_succ]
        refine wpAnyH_ready (rs := [6, 7]) (by kernel_rfl) (by simp) ?_
        refine readyc_held rfl (fun K hK => ?_) (ready_held rfl (fun K hK => ?_))
        · go_simp
          obtain ⟨g9, hg9⟩ : ∃ g, W2.heap.size = g := ⟨_, rfl⟩
          have nn : (W2.alloc (.cells #[.slice none 0 0, .slice none 0 0, .slice none 0 0, .slice none 0 0] 25)).heap[g9]? = some (.cells #[.slice none 0 0, .slice none 0 0, .slice none 0 0, .slice none 0 0] 25) := by rw [← hg9]; exact World.alloc_heap_new _ _
          have kk : Keep Nope W2 (W2.alloc (.cells #[.slice none 0 0, .slice none 0 0, .slice none 0 0, .slice none 0 0] 25)) := (Keep.refl _ _).alloc _
          have G9 : Seal (wb.heap.size ≤ g9) := ⟨by rw [← hg9]; exact k2.size⟩
          rw [hg9]
          obtain ⟨W3, hW⟩ : ∃ X, W2.alloc (.cells #[.slice none 0 0, .slice none 0 0, .slice none 0 0, .slice none 0 0] 25) = X := ⟨_, rfl⟩
          rw [hW] at nn kk ⊢
          have k3 := k2.then' kk
          have OA_3 : Seal _ := ⟨OA_2.out.keep kk⟩
          have OB_3 : Seal _ := ⟨OB_2.out.keep kk⟩
          clear OA_2 OB_2
          have h9_3 : Seal _ := ⟨nn⟩
          clear nn kk hW hg9
          refine hK _ _ ?_ (fun hHeld => ?_)
          · (try dsimp only); exact ⟨keepc k3 a0, keepc k3 a1, keepc k3 a2, keepc k3 a3, keepc k3 b0, keepc k3 b1, keepc k3 b2, keepc k3 b3⟩
          clear hK K
          try simp only [Act.put, List.setIfInBounds_toArray, List.set_cons_zero, List.set_cons_succ]
          refine wpAnyH_ready (rs := [7]) (by kernel_rfl) (by simp) ?_
          refine ready_held rfl (fun K hK => ?_)
          · go_simp
            obtain ⟨g10, hg10⟩ : ∃ g, W3.heap.size = g := ⟨_, rfl⟩
            have nn : (W3.alloc (.cells #[.slice none 0 0, .slice none 0 0, .slice none 0 0, .slice none 0 0] 25)).heap[g10]? = some (.cells #[.slice none 0 0, .slice none 0 0, .slice none 0 0, .slice none 0 0] 25) := by rw [← hg10]; exact World.alloc_heap_new _ _
            have kk : Keep Nope W3 (W3.alloc (.cells #[.slice none 0 0, .slice none 0 0, .slice none 0 0, .slice none 0 0] 25)) := (Keep.refl _ _).alloc _
            have G10 : Seal (wb.heap.size ≤ g10) := ⟨by rw [← hg10]; exact k3.size⟩
            have GN : Seal (g9 ≠ g10) := ⟨by have := lt_of_heap h9_3.out; omega⟩
            rw [hg10]
            obtain ⟨W4, hW⟩ : ∃ X, W3.alloc (.cells #[.slice none 0 0, .slice none 0 0, .slice none 0 0, .slice none 0 0] 25) = X := ⟨_, rfl⟩
            rw [hW] at nn kk ⊢
            have k4 := k3.then' kk
            have OA_4 : Seal _ := ⟨OA_3.out.keep kk⟩
            have OB_4 : Seal _ := ⟨OB_3.out.keep kk⟩
            have h9_4 : Seal _ := ⟨kk.at_ h9_3.out (fun h => h)⟩
            clear OA_3 OB_3 h9_3
            have h10_4 : Seal _ := ⟨nn⟩
            clear nn kk hW hg10
            refine hK _ _ ?_ (fun hHeld => ?_)
            · (try dsimp only); exact ⟨keepc k4 a0, keepc k4 a1, keepc k4 a2, keepc k4 a3, keepc k4 b0, keepc k4 b1, keepc k4 b2, keepc k4 b3⟩
            clear hK K
            try simp only [Act.put, List.setIfInBounds_toArray, List.set_cons_zero, List.set_cons_succ]
            refine wpAnyH_ready (rs := [8]) (by kernel_rfl) (by simp) ?_
            refine ready_held rfl (fun K hK => ?_)
            have f0 := free_of_block h9_4.out 0; have f1 := free_of_block h9_4.out 1; have f2 := free_of_block h9_4.out 2; have f3 := free_of_block h9_4.out 3
            obtain ⟨e0, e1, e2, e3⟩ := cells4 h9_4.out
            go_simp
            obtain ⟨W5, hW⟩ : ∃ W, W = World.setCell (World.setCell (World.setCell (World.setCell (W4) ⟨g9, 0, none⟩ (.slice yna ynn ync)) ⟨g9, 1, none⟩ (.slice yha yhn yhc)) ⟨g9, 2, none⟩ (.slice none 0 0)) ⟨g9, 3, none⟩ (.slice none 0 0) := ⟨_, rfl⟩
            rw [← hW]
            obtain ⟨hy, ky⟩ := store4 h9_4.out _ _ _ _ W5 hW
            have k5 := k4.trans ky (fun i hi (e : i = g9) => by have := G9.out; omega)
            have OA_5 : Seal _ := ⟨OA_4.out.keepS ky (fun b (e : b = g9) => ⟨_, e ▸ h9_4.out⟩)⟩
            have OB_5 : Seal _ := ⟨OB_4.out.keepS ky (fun b (e : b = g9) => ⟨_, e ▸ h9_4.out⟩)⟩
            have h10_5 : Seal _ := ⟨ky.at_ h10_4.out (fun e => GN.out e.symm)⟩
            have h9_5 : Seal _ := ⟨hy⟩
            clear OA_4 OB_4 h9_4 h10_4 hy ky hW f0 f1 f2 f3 e0 e1 e2 e3
            refine hK _ _ ?_ (fun hHeld => ?_)
            · (try dsimp only); exact ⟨keepc k5 a0, keepc k5 a1, keepc k5 a2, keepc k5 a3, keepc k5 b0, keepc k5 b1, keepc k5 b2, keepc k5 b3⟩
            clear hK K
            try simp only [Act.put, List.setIfInBounds_toArray, List.set_cons_zero, List.set_cons_succ]
            refine wpAnyH_ready (rs := [9]) (by kernel_rfl) (by simp) ?_
            refine ready_held rfl (fun K hK => ?_)
            have f0 := free_of_block h10_5.out 0; have f1 := free_of_block h10_5.out 1; have f2 := free_of_block h10_5.out 2; have f3 := free_of_block h10_5.out 3
            obtain ⟨e0, e1, e2, e3⟩ := cells4 h10_5.out
            go_simp
            obtain ⟨W6, hW⟩ : ∃ W, W = World.setCell (World.setCell (World.setCell (World.setCell (W5) ⟨g10, 0, none⟩ (.slice zna znn znc)) ⟨g10, 1, none⟩ (.slice zha zhn zhc)) ⟨g10, 2, none⟩ (.slice none 0 0)) ⟨g10, 3, none⟩ (.slice none 0 0) := ⟨_, rfl⟩
            rw [← hW]
            obtain ⟨hy, ky⟩ := store4 h10_5.out _ _ _ _ W6 hW
            have k6 := k5.trans ky (fun i hi (e : i = g10) => by have := G10.out; omega)
            have OA_6 : Seal _ := ⟨OA_5.out.keepS ky (fun b (e : b = g10) => ⟨_, e ▸ h10_5.out⟩)⟩
            have OB_6 : Seal _ := ⟨OB_5.out.keepS ky (fun b (e : b = g10) => ⟨_, e ▸ h10_5.out⟩)⟩
            have h9_6 : Seal _ := ⟨ky.at_ h9_5.out (fun e => GN.out e)⟩
            have h10_6 : Seal _ := ⟨hy⟩
            clear OA_5 OB_5 h10_5 h9_5 hy ky hW f0 f1 f2 f3 e0 e1 e2 e3
            refine hK _ _ ?_ (fun hHeld => ?_)
            · (try dsimp only); exact ⟨keepc k6 a0, keepc k6 a1, keepc k6 a2, keepc k6 a3, keepc k6 b0, keepc k6 b1, keepc k6 b2, keepc k6 b3⟩
            clear hK K
            try simp only [Act.put, List.setIfInBounds_toArray, List.set_cons_zero, List.set_cons_succ]
            refine wpAnyH_done (by kernel_rfl) ?_ _
            go_wp2
            go_meet
            exact ⟨_, _, _, _, rfl, rfl, PA.out, PB.out, QA.out, QB.out, OA_6.out, OB_6.out, h9_6.out, h10_6.out, k6⟩
        · go_simp
          obtain ⟨g10, hg10⟩ : ∃ g, W2.heap.size = g := ⟨_, rfl⟩
          have nn : (W2.alloc (.cells #[.slice none 0 0, .slice none 0 0, .slice none 0 0, .slice none 0 0] 25)).heap[g10]? = some (.cells #[.slice none 0 0, .slice none 0 0, .slice none 0 0, .slice none 0 0] 25) := by rw [← hg10]; exact World.alloc_heap_new _ _
          have kk : Keep Nope W2 (W2.alloc (.cells #[.slice none 0 0, .slice none 0 0, .slice none 0 0, .slice none 0 0] 25)) := (Keep.refl _ _).alloc _
          have G10 : Seal (wb.heap.size ≤ g10) := ⟨by rw [← hg10]; exact k2.size⟩
          rw [hg10]
          obtain ⟨W3, hW⟩ : ∃ X, W2.alloc (.cells #[.slice none 0 0, .slice none 0 0, .slice none 0 0, .slice none 0 0] 25) = X := ⟨_, rfl⟩
          rw [hW] at nn kk ⊢
          have k3 := k2.then' kk
          have OA_3 : Seal _ := ⟨OA_2.out.keep kk⟩
          have OB_3 : Seal _ := ⟨OB_2.out.keep kk⟩
          clear OA_2 OB_2
          have h10_3 : Seal _ := ⟨nn⟩
          clear nn kk hW hg10
          refine hK _ _ ?_ (fun hHeld => ?_)
          · (try dsimp only); exact ⟨keepc k3 a0, keepc k3 a1, keepc k3 a2, keepc k3 a3, keepc k3 b0, keepc k3 b1, keepc k3 b2, keepc k3 b3⟩
          clear hK K
          try simp only [Act.put, List.setIfInBounds_toArray, List.set_cons_zero, List.set_cons_succ]
          refine wpAnyH_ready (rs := [6]) (by kernel_rfl) (by simp) ?_
          refine ready_held rfl (fun K hK => ?_)
          · go_simp
            obtain ⟨g9, hg9⟩ : ∃ g, W3.heap.size = g := ⟨_, rfl⟩
            have nn : (W3.alloc (.cells #[.slice none 0 0, .slice none 0 0, .slice none 0 0, .slice none 0 0] 25)).heap[g9]? = some (.cells #[.slice none 0 0, .slice none 0 0, .slice none 0 0, .slice none 0 0] 25) := by rw [← hg9]; exact World.alloc_heap_new _ _
            have kk : Keep Nope W3 (W3.alloc (.cells #[.slice none 0 0, .slice none 0 0, .slice none 0 0, .slice none 0 0] 25)) := (Keep.refl _ _).alloc _
            have G9 : Seal (wb.heap.size ≤ g9) := ⟨by rw [← hg9]; exact k3.size⟩
            have GN : Seal (g9 ≠ g10) := ⟨by have := lt_of_heap h10_3.out; omega⟩
            rw [hg9]
            obtain ⟨W4, hW⟩ : ∃ X, W3.alloc (.cells #[.slice none 0 0, .slice none 0 0, .slice none 0 0, .slice none 0 0] 25) = X := ⟨_, rfl⟩
            rw [hW] at nn kk ⊢
            have k4 := k3.then' kk
            have OA_4 : Seal _ := ⟨OA_3.out.keep kk⟩
            have OB_4 : Seal _ := ⟨OB_3.out.keep kk⟩
            have h10_4 : Seal _ := ⟨kk.at_ h10_3.out (fun h => h)⟩
            clear OA_3 OB_3 h10_3
            have h9_4 : Seal _ := ⟨nn⟩
            clear nn kk hW hg9
            refine hK _ _ ?_ (fun hHeld => ?_)
            · (try dsimp only); exact ⟨keepc k4 a0, keepc k4 a1, keepc k4 a2, keepc k4 a3, keepc k4 b0, keepc k4 b1, keepc k4 b2, keepc k4 b3⟩
            clear hK K
            try simp only [Act.put, List.setIfInBounds_toArray, List.set_cons_zero, List.set_cons_succ]
            refine wpAnyH_ready (rs := [8]) (by kernel_rfl) (by simp) ?_
            refine ready_held rfl (fun K hK => ?_)
            have f0 := free_of_block h9_4.out 0; have f1 := free_of_block h9_4.out 1; have f2 := free_of_block h9_4.out 2; have f3 := free_of_block h9_4.out 3
            obtain ⟨e0, e1, e2, e3⟩ := cells4 h9_4.out
            go_simp
            obtain ⟨W5, hW⟩ : ∃ W, W = World.setCell (World.setCell (World.setCell (World.setCell (W4) ⟨g9, 0, none⟩ (.slice yna ynn ync)) ⟨g9, 1, none⟩ (.slice yha yhn yhc)) ⟨g9, 2, none⟩ (.slice none 0 0)) ⟨g9, 3, none⟩ (.slice none 0 0) := ⟨_, rfl⟩
            rw [← hW]
            obtain ⟨hy, ky⟩ := store4 h9_4.out _ _ _ _ W5 hW
            have k5 := k4.trans ky (fun i hi (e : i = g9) => by have := G9.out; omega)
            have OA_5 : Seal _ := ⟨OA_4.out.keepS ky (fun b (e : b = g9) => ⟨_, e ▸ h9_4.out⟩)⟩
            have OB_5 : Seal _ := ⟨OB_4.out.keepS ky (fun b (e : b = g9) => ⟨_, e ▸ h9_4.out⟩)⟩
            have h10_5 : Seal _ := ⟨ky.at_ h10_4.out (fun e => GN.out e.symm)⟩
            have h9_5 : Seal _ := ⟨hy⟩
            clear OA_4 OB_4 h10_4 h9_4 hy ky hW f0 f1 f2 f3 e0 e1 e2 e3
            refine hK _ _ ?_ (fun hHeld => ?_)
            · (try dsimp only); exact ⟨keepc k5 a0, keepc k5 a1, keepc k5 a2, keepc k5 a3, keepc k5 b0, keepc k5 b1, keepc k5 b2, keepc k5 b3⟩
            clear hK K
            try simp only [Act.put, List.setIfInBounds_toArray, List.set_cons_zero, List.set_cons_succ]
            refine wpAnyH_ready (rs := [9]) (by kernel_rfl) (by simp) ?_
            refine ready_held rfl (fun K hK => ?_)
            have f0 := free_of_block h10_5.out 0; have f1 := free_of_block h10_5.out 1; have f2 := free_of_block h10_5.out 2; have f3 := free_of_block h10_5.out 3
            obtain ⟨e0, e1, e2, e3⟩ := cells4 h10_5.out
            go_simp
            obtain ⟨W6, hW⟩ : ∃ W, W = World.setCell (World.setCell (World.setCell (World.setCell (W5) ⟨g10, 0, none⟩ (.slice zna znn znc)) ⟨g10, 1, none⟩ (.slice zha zhn zhc)) ⟨g10, 2, none⟩ (.slice none 0 0)) ⟨g10, 3, none⟩ (.slice none 0 0) := ⟨_, rfl⟩
            rw [← hW]
            obtain ⟨hy, ky⟩ := store4 h10_5.out _ _ _ _ W6 hW
            have k6 := k5.trans ky (fun i hi (e : i = g10) => by have := G10.out; omega)
            have OA_6 : Seal _ := ⟨OA_5.out.keepS ky (fun b (e : b = g10) => ⟨_, e ▸ h10_5.out⟩)⟩
            have OB_6 : Seal _ := ⟨OB_5.out.keepS ky (fun b (e : b = g10) => ⟨_, e ▸ h10_5.out⟩)⟩
            have h9_6 : Seal _ := ⟨ky.at_ h9_5.out (fun e => GN.out e)⟩
            have h10_6 : Seal _ := ⟨hy⟩
            clear OA_5 OB_5 h10_5 h9_5 hy ky hW f0 f1 f2 f3 e0 e1 e2 e3
            refine hK _ _ ?_ (fun hHeld => ?_)
            · (try dsimp only); exact ⟨keepc k6 a0, keepc k6 a1, keepc k6 a2, keepc k6 a3, keepc k6 b0, keepc k6 b1, keepc k6 b2, keepc k6 b3⟩
            clear hK K
            try simp only [Act.put, List.setIfInBounds_toArray, List.set_cons_zero, List.set_cons_succ]
            refine wpAnyH_done (by kernel_rfl) ?_ _
            go_wp2
            go_meet
            exact ⟨_, _, _, _, rfl, rfl, PA.out, PB.out, QA.out, QB.out, OA_6.out, OB_6.out, h9_6.out, h10_6.out, k6⟩
      · go_simp
        obtain ⟨g9, hg9⟩ : ∃ g, W1.heap.size = g := ⟨_, rfl⟩
        have nn : (W1.alloc (.cells #[.slice none 0 0, .slice none 0 0, .slice none 0 0, .slice none 0 0] 25)).heap[g9]? = some (.cells #[.slice none 0 0, .slice none 0 0, .slice none 0 0, .slice none 0 0] 25) := by rw [← hg9]; exact World.alloc_heap_new _ _
        have kk : Keep Nope W1 (W1.alloc (.cells #[.slice none 0 0, .slice none 0 0, .slice none 0 0, .slice none 0 0] 25)) := (Keep.refl _ _).alloc _
        have G9 : Seal (wb.heap.size ≤ g9) := ⟨by rw [← hg9]; exact k1.size⟩
        rw [hg9]
        obtain ⟨W2, hW⟩ : ∃ X, W1.alloc (.cells #[.slice none 0 0, .slice none 0 0, .slice none 0 0, .slice none 0 0] 25) = X := ⟨_, rfl⟩
        rw [hW] at nn kk ⊢
        have k2 := k1.then' kk
        have OA_2 : Seal _ := ⟨OA_1.out.keep kk⟩
        clear OA_1
        have h9_2 : Seal _ := ⟨nn⟩
        clear nn kk hW hg9
        refine hK _ _ ?_ (fun hHeld => ?_)
        · (try dsimp only); exact ⟨keepc k2 a0, keepc k2 a1, keepc k2 a2, keepc k2 a3, keepc k2 b0, keepc k2 b1, keepc k2 b2, keepc k2 b3⟩
        clear hK K
        try simp only [Act.put, List.setIfInBounds_toArray, List.set_cons_zero, List.set_cons_succ]
        refine wpAnyH_ready (rs := [5, 7]) (by kernel_rfl) (by simp) ?_
        refine readyc_held rfl (fun K hK => ?_) (ready_held rfl (fun K hK => ?_))
        · go_simp
          go_at_call 15
          refine (Part_R (HB.out.keep (KA.out.then' k2)) HLB.out HNB.out m).mono ?_
          rintro e W3 ⟨v, rfl, ⟨znv, zhv, zpv, zsv, zns, zhs, zps, zss⟩, rfl, hp, hh, ho, kk⟩
          obtain ⟨⟨zna, znn, znc, rfl⟩, ⟨zha, zhn, zhc, rfl⟩, rfl, rfl⟩ := ho.forms
          have PB : Seal _ := ⟨hp.trans (congrArg (fun q => partP q m) HpB.out)⟩
          have QB : Seal _ := ⟨hh⟩
          have k3 := k2.then' kk
          have OA_3 : Seal _ := ⟨OA_2.out.keep kk⟩
          have h9_3 : Seal _ := ⟨kk.at_ h9_2.out (fun h => h)⟩
          clear OA_2 h9_2
          have OB_3 : Seal _ := ⟨ho.low (base' := w.heap.size) (KA.out.then' k2).size⟩
          clear hp hh ho kk
          dsimp only [GraphV.val]
          dsimp only at PB QB
          refine hK _ _ ?_ (fun hHeld => ?_)
          · (try dsimp only); exact ⟨keepc k3 a0, keepc k3 a1, keepc k3 a2, keepc k3 a3, keepc k3 b0, keepc k3 b1, keepc k3 b2, keepc k3 b3⟩
          clear hK K
          try simp only [Act.put, List.setIfInBounds_toArray, List.set_cons_zero, List.set_cons_succ]
          refine wpAnyH_ready (rs := [7]) (by kernel_rfl) (by simp) ?_
          refine ready_held rfl (fun K hK => ?_)
          · go_simp
            obtain ⟨g10, hg10⟩ : ∃ g, W3.heap.size = g := ⟨_, rfl⟩
            have nn : (W3.alloc (.cells #[.slice none 0 0, .slice none 0 0, .slice none 0 0, .slice none 0 0] 25)).heap[g10]? = some (.cells #[.slice none 0 0, .slice none 0 0, .slice none 0 0, .slice none 0 0] 25) := by rw [← hg10]; exact World.alloc_heap_new _ _
            have kk : Keep Nope W3 (W3.alloc (.cells #[.slice none 0 0, .slice none 0 0, .slice none 0 0, .slice none 0 0] 25)) := (Keep.refl _ _).alloc _
            have G10 : Seal (wb.heap.size ≤ g10) := ⟨by rw [← hg10]; exact k3.size⟩
            have GN : Seal (g9 ≠ g10) := ⟨by have := lt_of_heap h9_3.out; omega⟩
            rw [hg10]
            obtain ⟨W4, hW⟩ : ∃ X, W3.alloc (.cells #[.slice none 0 0, .slice none 0 0, .slice none 0 0, .slice none 0 0] 25) = X := ⟨_, rfl⟩
            rw [hW] at nn kk ⊢
            have k4 := k3.then' kk
            have OA_4 : Seal _ := ⟨OA_3.out.keep kk⟩
            have h9_4 : Seal _ := ⟨kk.at_ h9_3.out (fun h => h)⟩
            have OB_4 : Seal _ := ⟨OB_3.out.keep kk⟩
            clear OA_3 h9_3 OB_3
            have h10_4 : Seal _ := ⟨nn⟩
            clear nn kk hW hg10
            refine hK _ _ ?_ (fun hHeld => ?_)
            · (try dsimp only); exact ⟨keepc k4 a0, keepc k4 a1, keepc k4 a2, keepc k4 a3, keepc k4 b0, keepc k4 b1, keepc k4 b2, keepc k4 b3⟩
            clear hK K
            try simp only [Act.put, List.setIfInBounds_toArray, List.set_cons_zero, List.set_cons_succ]
            refine wpAnyH_ready (rs := [8]) (by kernel_rfl) (by simp) ?_
            refine ready_held rfl (fun K hK => ?_)
            have f0 := free_of_block h9_4.out 0; have f1 := free_of_block h9_4.out 1; have f2 := free_of_block h9_4.out 2; have f3 := free_of_block h9_4.out 3
            obtain ⟨e0, e1, e2, e3⟩ := cells4 h9_4.out
            go_simp
            obtain ⟨W5, hW⟩ : ∃ W, W = World.setCell (World.setCell (World.setCell (World.setCell (W4) ⟨g9, 0, none⟩ (.slice yna ynn ync)) ⟨g9, 1, none⟩ (.slice yha yhn yhc)) ⟨g9, 2, none⟩ (.slice none 0 0)) ⟨g9, 3, none⟩ (.slice none 0 0) := ⟨_, rfl⟩
            rw [← hW]
            obtain ⟨hy, ky⟩ := store4 h9_4.out _ _ _ _ W5 hW
            have k5 := k4.trans ky (fun i hi (e : i = g9) => by have := G9.out; omega)
            have OA_5 : Seal _ := ⟨OA_4.out.keepS ky (fun b (e : b = g9) => ⟨_, e ▸ h9_4.out⟩)⟩
            have OB_5 : Seal _ := ⟨OB_4.out.keepS ky (fun b (e : b = g9) => ⟨_, e ▸ h9_4.out⟩)⟩
            have h10_5 : Seal _ := ⟨ky.at_ h10_4.out (fun e => GN.out e.symm)⟩
            have h9_5 : Seal _ := ⟨hy⟩
            clear OA_4 h9_4 OB_4 h10_4 hy ky hW f0 f1 f2 f3 e0 e1 e2 e3
            refine hK _ _ ?_ (fun hHeld => ?_)
            · (try dsimp only); exact ⟨keepc k5 a0, keepc k5 a1, keepc k5 a2, keepc k5 a3, keepc k5 b0, keepc k5 b1, keepc k5 b2, keepc k5 b3⟩
            clear hK K
            try simp only [Act.put, List.setIfInBounds_toArray, List.set_cons_zero, List.set_cons_succ]
            refine wpAnyH_ready (rs := [9]) (by kernel_rfl) (by simp) ?_
            refine ready_held rfl (fun K hK => ?_)
            have f0 := free_of_block h10_5.out 0; have f1 := free_of_block h10_5.out 1; have f2 := free_of_block h10_5.out 2; have f3 := free_of_block h10_5.out 3
            obtain ⟨e0, e1, e2, e3⟩ := cells4 h10_5.out
            go_simp
            obtain ⟨W6, hW⟩ : ∃ W, W = World.setCell (World.setCell (World.setCell (World.setCell (W5) ⟨g10, 0, none⟩ (.slice zna znn znc)) ⟨g10, 1, none⟩ (.slice zha zhn zhc)) ⟨g10, 2, none⟩ (.slice none 0 0)) ⟨g10, 3, none⟩ (.slice none 0 0) := ⟨_, rfl⟩
            rw [← hW]
            obtain ⟨hy, ky⟩ := store4 h10_5.out _ _ _ _ W6 hW
            have k6 := k5.trans ky (fun i hi (e : i = g10) => by have := G10.out; omega)
            have OA_6 : Seal _ := ⟨OA_5.out.keepS ky (fun b (e : b = g10) => ⟨_, e ▸ h10_5.out⟩)⟩
            have OB_6 : Seal _ := ⟨OB_5.out.keepS ky (fun b (e : b = g10) => ⟨_, e ▸ h10_5.out⟩)⟩
            have h9_6 : Seal _ := ⟨ky.at_ h9_5.out (fun e => GN.out e)⟩
            have h10_6 : Seal _ := ⟨hy⟩
            clear OA_5 OB_5 h10_5 h9_5 hy ky hW f0 f1 f2 f3 e0 e1 e2 e3
            refine hK _ _ ?_ (fun hHeld => ?_)
            · (try dsimp only); exact ⟨keepc k6 a0, keepc k6 a1, keepc k6 a2, keepc k6 a3, keepc k6 b0, keepc k6 b1, keepc k6 b2, keepc k6 b3⟩
            clear hK K
            try simp only [Act.put, List.setIfInBounds_toArray, List.set_cons_zero, List.set_cons_succ]
            refine wpAnyH_done (by kernel_rfl) ?_ _
            go_wp2
            go_meet
            exact ⟨_, _, _, _, rfl, rfl, PA.out, PB.out, QA.out, QB.out, OA_6.out, OB_6.out, h9_6.out, h10_6.out, k6⟩
        · go_simp
          obtain ⟨g10, hg10⟩ : ∃ g, W2.heap.size = g := ⟨_, rfl⟩
          have nn : (W2.alloc (.cells #[.slice none 0 0, .slice none 0 0, .slice none 0 0, .slice none 0 0] 25)).heap[g10]? = some (.cells #[.slice none 0 0, .slice none 0 0, .slice none 0 0, .slice none 0 0] 25) := by rw [← hg10]; exact World.alloc_heap_new _ _
          have kk : Keep Nope W2 (W2.alloc (.cells #[.slice none 0 0, .slice none 0 0, .slice none 0 0, .slice none 0 0] 25)) := (Keep.refl _ _).alloc _
          have G10 : Seal (wb.heap.size ≤ g10) := ⟨by rw [← hg10]; exact k2.size⟩
          have GN : Seal (g9 ≠ g10) := ⟨by have := lt_of_heap h9_2.out; omega⟩
          rw [hg10]
          obtain ⟨W3, hW⟩ : ∃ X, W2.alloc (.cells #[.slice none 0 0, .slice none 0 0, .slice none 0 0, .slice none 0 0] 25) = X := ⟨_, rfl⟩
          rw [hW] at nn kk ⊢
          have k3 := k2.then' kk
          have OA_3 : Seal _ := ⟨OA_2.out.keep kk⟩
          have h9_3 : Seal _ := ⟨kk.at_ h9_2.out (fun h => h)⟩
          clear OA_2 h9_2
          have h10_3 : Seal _ := ⟨nn⟩
          clear nn kk hW hg10
          refine hK _ _ ?_ (fun hHeld => ?_)
          · (try dsimp only); exact ⟨keepc k3 a0, keepc k3 a1, keepc k3 a2, keepc k3 a3, keepc k3 b0, keepc k3 b1, keepc k3 b2, keepc k3 b3⟩
          clear hK K
          try simp only [Act.put, List.setIfInBounds_toArray, List.set_cons_zero, List.set_cons_succ]
          refine wpAnyH_ready (rs := [5]) (by kernel_rfl) (by simp) ?_
          refine ready_held rfl (fun K hK => ?_)
          · go_simp
            go_at_call 15
            refine (Part_R (HB.out.keep (KA.out.then' k3)) HLB.out HNB.out m).mono ?_
            rintro e W4 ⟨v, rfl, ⟨znv, zhv, zpv, zsv, zns, zhs, zps, zss⟩, rfl, hp, hh, ho, kk⟩
            obtain ⟨⟨zna, znn, znc, rfl⟩, ⟨zha, zhn, zhc, rfl⟩, rfl, rfl⟩ := ho.forms
            have PB : Seal _ := ⟨hp.trans (congrArg (fun q => partP q m) HpB.out)⟩
            have QB : Seal _ := ⟨hh⟩
            have k4 := k3.then' kk
            have OA_4 : Seal _ := ⟨OA_3.out.keep kk⟩
            have h9_4 : Seal _ := ⟨kk.at_ h9_3.out (fun h => h)⟩
            have h10_4 : Seal _ := ⟨kk.at_ h10_3.out (fun h => h)⟩
            clear OA_3 h9_3 h10_3
            have OB_4 : Seal _ := ⟨ho.low (base' := w.heap.size) (KA.out.then' k3).size⟩
            clear hp hh ho kk
            dsimp only [GraphV.val]
            dsimp only at PB QB
            refine hK _ _ ?_ (fun hHeld => ?_)
            · (try dsimp only); exact ⟨keepc k4 a0, keepc k4 a1, keepc k4 a2, keepc k4 a3, keepc k4 b0, keepc k4 b1, keepc k4 b2, keepc k4 b3⟩
            clear hK K
            try simp only [Act.put, List.setIfInBounds_toArray, List.set_cons_zero, List.set_cons_succ]
            refine wpAnyH_ready (rs := [8]) (by kernel_rfl) (by simp) ?_
            refine ready_held rfl (fun K hK => ?_)
            have f0 := free_of_block h9_4.out 0; have f1 := free_of_block h9_4.out 1; have f2 := free_of_block h9_4.out 2; have f3 := free_of_block h9_4.out 3
            obtain ⟨e0, e1, e2, e3⟩ := cells4 h9_4.out
            go_simp
            obtain ⟨W5, hW⟩ : ∃ W, W = World.setCell (World.setCell (World.setCell (World.setCell (W4) ⟨g9, 0, none⟩ (.slice yna ynn ync)) ⟨g9, 1, none⟩ (.slice yha yhn yhc)) ⟨g9, 2, none⟩ (.slice none 0 0)) ⟨g9, 3, none⟩ (.slice none 0 0) := ⟨_, rfl⟩
            rw [← hW]
            obtain ⟨hy, ky⟩ := store4 h9_4.out _ _ _ _ W5 hW
            have k5 := k4.trans ky (fun i hi (e : i = g9) => by have := G9.out; omega)
            have OA_5 : Seal _ := ⟨OA_4.out.keepS ky (fun b (e : b = g9) => ⟨_, e ▸ h9_4.out⟩)⟩
            have h10_5 : Seal _ := ⟨ky.at_ h10_4.out (fun e => GN.out e.symm)⟩
            have OB_5 : Seal _ := ⟨OB_4.out.keepS ky (fun b (e : b = g9) => ⟨_, e ▸ h9_4.out⟩)⟩
            have h9_5 : Seal _ := ⟨hy⟩
            clear OA_4 h9_4 h10_4 OB_4 hy ky hW f0 f1 f2 f3 e0 e1 e2 e3
            refine hK _ _ ?_ (fun hHeld => ?_)
            · (try dsimp only); exact ⟨keepc k5 a0, keepc k5 a1, keepc k5 a2, keepc k5 a3, keepc k5 b0, keepc k5 b1, keepc k5 b2, keepc k5 b3⟩
            clear hK K
            try simp only [Act.put, List.setIfInBounds_toArray, List.set_cons_zero, List.set_cons_succ]
            refine wpAnyH_ready (rs := [9]) (by kernel_rfl) (by simp) ?_
            refine ready_held rfl (fun K hK => ?_)
            have f0 := free_of_block h10_5.out 0; have f1 := free_of_block h10_5.out 1; have f2 := free_of_block h10_5.out 2; have f3 := free_of_block h10_5.out 3
            obtain ⟨e0, e1, e2, e3⟩ := cells4 h10_5.out
            go_simp
            obtain ⟨W6, hW⟩ : ∃ W, W = World.setCell (World.setCell (World.setCell (World.setCell (W5) ⟨g10, 0, none⟩ (.slice zna znn znc)) ⟨g10, 1, none⟩ (.slice zha zhn zhc)) ⟨g10, 2, none⟩ (.slice none 0 0)) ⟨g10, 3, none⟩ (.slice none 0 0) := ⟨_, rfl⟩
            rw [← hW]
            obtain ⟨hy, ky⟩ := store4 h10_5.out _ _ _ _ W6 hW
            have k6 := k5.trans ky (fun i hi (e : i = g10) => by have := G10.out; omega)
            have OA_6 : Seal _ := ⟨OA_5.out.keepS ky (fun b (e : b = g10) => ⟨_, e ▸ h10_5.out⟩)⟩
            have OB_6 : Seal _ := ⟨OB_5.out.keepS ky (fun b (e : b = g10) => ⟨_, e ▸ h10_5.out⟩)⟩
            have h9_6 : Seal _ := ⟨ky.at_ h9_5.out (fun e => GN.out e)⟩
            have h10_6 : Seal _ := ⟨hy⟩
            clear OA_5 h10_5 OB_5 h9_5 hy ky hW f0 f1 f2 f3 e0 e1 e2 e3
            refine hK _ _ ?_ (fun hHeld => ?_)
            · (try dsimp only); exact ⟨keepc k6 a0, keepc k6 a1, keepc k6 a2, keepc k6 a3, keepc k6 b0, keepc k6 b1, keepc k6 b2, keepc k6 b3⟩
            clear hK K
            try simp only [Act.put, List.setIfInBounds_toArray, List.set_cons_zero, List.set_cons_succ]
            refine wpAnyH_done (by kernel_rfl) ?_ _
            go_wp2
            go_meet
            exact ⟨_, _, _, _, rfl, rfl, PA.out, PB.out, QA.out, QB.out, OA_6.out, OB_6.out, h9_6.out, h10_6.out, k6⟩
      · go_simp
        obtain ⟨g10, hg10⟩ : ∃ g, W1.heap.size = g := ⟨_, rfl⟩
        have nn : (W1.alloc (.cells #[.slice none 0 0, .slice none 0 0, .slice none 0 0, .slice none 0 0] 25)).heap[g10]? = some (.cells #[.slice none 0 0, .slice none 0 0, .slice none 0 0, .slice none 0 0] 25) := by rw [← hg10]; exact World.alloc_heap_new _ _
        have kk : Keep Nope W1 (W1.alloc (.cells #[.slice none 0 0, .slice none 0 0, .slice none 0 0, .slice none 0 0] 25)) := (Keep.refl _ _).alloc _
        have G10 : Seal (wb.heap.size ≤ g10) := ⟨by rw [← hg10]; exact k1.size⟩
        rw [hg10]
        obtain ⟨W2, hW⟩ : ∃ X, W1.alloc (.cells #[.slice none 0 0, .slice none 0 0, .slice none 0 0, .slice none 0 0] 25) = X := ⟨_, rfl⟩
        rw [hW] at nn kk ⊢
        have k2 := k1.then' kk
        have OA_2 : Seal _ := ⟨OA_1.out.keep kk⟩
        clear OA_1
        have h10_2 : Seal _ := ⟨nn⟩
        clear nn kk hW hg10
        refine hK _ _ ?_ (fun hHeld => ?_)
        · (try dsimp only); exact ⟨keepc k2 a0, keepc k2 a1, keepc k2 a2, keepc k2 a3, keepc k2 b0, keepc k2 b1, keepc k2 b2, keepc k2 b3⟩
        clear hK K
        try simp only [Act.put, List.setIfInBounds_toArray, List.set_cons_zero, List.set_cons_succ]
        refine wpAnyH_ready (rs := [5, 6]) (by kernel_rfl) (by simp) ?_
        refine readyc_held rfl (fun K hK => ?_) (ready_held rfl (fun K hK => ?_))
        · go_simp
          go_at_call 15
          refine (Part_R (HB.out.keep (KA.out.then' k2)) HLB.out HNB.out m).mono ?_
          rintro e W3 ⟨v, rfl, ⟨znv, zhv, zpv, zsv, zns, zhs, zps, zss⟩, rfl, hp, hh, ho, kk⟩
          obtain ⟨⟨zna, znn, znc, rfl⟩, ⟨zha, zhn, zhc, rfl⟩, rfl, rfl⟩ := ho.forms
          have PB : Seal _ := ⟨hp.trans (congrArg (fun q => partP q m) HpB.out)⟩
          have QB : Seal _ := ⟨hh⟩
          have k3 := k2.then' kk
          have OA_3 : Seal _ := ⟨OA_2.out.keep kk⟩
          have h10_3 : Seal _ := ⟨kk.at_ h10_2.out (fun h => h)⟩
          clear OA_2 h10_2
          have OB_3 : Seal _ := ⟨ho.low (base' := w.heap.size) (KA.out.then' k2).size⟩
          clear hp hh ho kk
          dsimp only [GraphV.val]
          dsimp only at PB QB
          refine hK _ _ ?_ (fun hHeld => ?_)
          · (try dsimp only); exact ⟨keepc k3 a0, keepc k3 a1, keepc k3 a2, keepc k3 a3, keepc k3 b0, keepc k3 b1, keepc k3 b2, keepc k3 b3⟩
          clear hK K
          try simp only [Act.put, List.setIfInBounds_toArray, List.set_cons_zero, List.set_cons_succ]
          refine wpAnyH_ready (rs := [6]) (by kernel_rfl) (by simp) ?_
          refine ready_held rfl (fun K hK => ?_)
          · go_simp
            obtain ⟨g9, hg9⟩ : ∃ g, W3.heap.size = g := ⟨_, rfl⟩
            have nn : (W3.alloc (.cells #[.slice none 0 0, .slice none 0 0, .slice none 0 0, .slice none 0 0] 25)).heap[g9]? = some (.cells #[.slice none 0 0, .slice none 0 0, .slice none 0 0, .slice none 0 0] 25) := by rw [← hg9]; exact World.alloc_heap_new _ _
            have kk : Keep Nope W3 (W3.alloc (.cells #[.slice none 0 0, .slice none 0 0, .slice none 0 0, .slice none 0 0] 25)) := (Keep.refl _ _).alloc _
            have G9 : Seal (wb.heap.size ≤ g9) := ⟨by rw [← hg9]; exact k3.size⟩
            have GN : Seal (g9 ≠ g10) := ⟨by have := lt_of_heap h10_3.out; omega⟩
            rw [hg9]
            obtain ⟨W4, hW⟩ : ∃ X, W3.alloc (.cells #[.slice none 0 0, .slice none 0 0, .slice none 0 0, .slice none 0 0] 25) = X := ⟨_, rfl⟩
            rw [hW] at nn kk ⊢
            have k4 := k3.then' kk
            have OA_4 : Seal _ := ⟨OA_3.out.keep kk⟩
            have h10_4 : Seal _ := ⟨kk.at_ h10_3.out (fun h => h)⟩
            have OB_4 : Seal _ := ⟨OB_3.out.keep kk⟩
            clear OA_3 h10_3 OB_3
            have h9_4 : Seal _ := ⟨nn⟩
            clear nn kk hW hg9
            refine hK _ _ ?_ (fun hHeld => ?_)
            · (try dsimp only); exact ⟨keepc k4 a0, keepc k4 a1, keepc k4 a2, keepc k4 a3, keepc k4 b0, keepc k4 b1, keepc k4 b2, keepc k4 b3⟩
            clear hK K
            try simp only [Act.put, List.setIfInBounds_toArray, List.set_cons_zero, List.set_cons_succ]
            refine wpAnyH_ready (rs := [8]) (by kernel_rfl) (by simp) ?_
            refine ready_held rfl (fun K hK => ?_)
            have f0 := free_of_block h9_4.out 0; have f1 := free_of_block h9_4.out 1; have f2 := free_of_block h9_4.out 2; have f3 := free_of_block h9_4.out 3
            obtain ⟨e0, e1, e2, e3⟩ := cells4 h9_4.out
            go_simp
            obtain ⟨W5, hW⟩ : ∃ W, W = World.setCell (World.setCell (World.setCell (World.setCell (W4) ⟨g9, 0, none⟩ (.slice yna ynn ync)) ⟨g9, 1, none⟩ (.slice yha yhn yhc)) ⟨g9, 2, none⟩ (.slice none 0 0)) ⟨g9, 3, none⟩ (.slice none 0 0) := ⟨_, rfl⟩
            rw [← hW]
            obtain ⟨hy, ky⟩ := store4 h9_4.out _ _ _ _ W5 hW
            have k5 := k4.trans ky (fun i hi (e : i = g9) => by have := G9.out; omega)
            have OA_5 : Seal _ := ⟨OA_4.out.keepS ky (fun b (e : b = g9) => ⟨_, e ▸ h9_4.out⟩)⟩
            have h10_5 : Seal _ := ⟨ky.at_ h10_4.out (fun e => GN.out e.symm)⟩
            have OB_5 : Seal _ := ⟨OB_4.out.keepS ky (fun b (e : b = g9) => ⟨_, e ▸ h9_4.out⟩)⟩
            have h9_5 : Seal _ := ⟨hy⟩
            clear OA_4 h10_4 OB_4 h9_4 hy ky hW f0 f1 f2 f3 e0 e1 e2 e3
            refine hK _ _ ?_ (fun hHeld => ?_)
            · (try dsimp only); exact ⟨keepc k5 a0, keepc k5 a1, keepc k5 a2, keepc k5 a3, keepc k5 b0, keepc k5 b1, keepc k5 b2, keepc k5 b3⟩
            clear hK K
            try simp only [Act.put, List.setIfInBounds_toArray, List.set_cons_zero, List.set_cons_succ]
            refine wpAnyH_ready (rs := [9]) (by kernel_rfl) (by simp) ?_
            refine ready_held rfl (fun K hK => ?_)
            have f0 := free_of_block h10_5.out 0; have f1 := free_of_block h10_5.out 1; have f2 := free_of_block h10_5.out 2; have f3 := free_of_block h10_5.out 3
            obtain ⟨e0, e1, e2, e3⟩ := cells4 h10_5.out
            go_simp
            obtain ⟨W6, hW⟩ : ∃ W, W = World.setCell (World.setCell (World.setCell (World.setCell (W5) ⟨g10, 0, none⟩ (.slice zna znn znc)) ⟨g10, 1, none⟩ (.slice zha zhn zhc)) ⟨g10, 2, none⟩ (.slice none 0 0)) ⟨g10, 3, none⟩ (.slice none 0 0) := ⟨_, rfl⟩
            rw [← hW]
            obtain ⟨hy, ky⟩ := store4 h10_5.out _ _ _ _ W6 hW
            have k6 := k5.trans ky (fun i hi (e : i = g10) => by have := G10.out; omega)
            have OA_6 : Seal _ := ⟨OA_5.out.keepS ky (fun b (e : b = g10) => ⟨_, e ▸ h10_5.out⟩)⟩
            have OB_6 : Seal _ := ⟨OB_5.out.keepS ky (fun b (e : b = g10) => ⟨_, e ▸ h10_5.out⟩)⟩
            have h9_6 : Seal _ := ⟨ky.at_ h9_5.out (fun e => GN.out e)⟩
            have h10_6 : Seal _ := ⟨hy⟩
            clear OA_5 h10_5 OB_5 h9_5 hy ky hW f0 f1 f2 f3 e0 e1 e2 e3
            refine hK _ _ ?_ (fun hHeld => ?_)
            · (try dsimp only); exact ⟨keepc k6 a0, keepc k6 a1, keepc k6 a2, keepc k6 a3, keepc k6 b0, keepc k6 b1, keepc k6 b2, keepc k6 b3⟩
            clear hK K
            try simp only [Act.put, List.setIfInBounds_toArray, List.set_cons_zero, List.set_cons_succ]
            refine wpAnyH_done (by kernel_rfl) ?_ _
            go_wp2
            go_meet
            exact ⟨_, _, _, _, rfl, rfl, PA.out, PB.out, QA.out, QB.out, OA_6.out, OB_6.out, h9_6.out, h10_6.out, k6⟩
        · go_simp
          obtain ⟨g9, hg9⟩ : ∃ g, W2.heap.size = g := ⟨_, rfl⟩
          have nn : (W2.alloc (.cells #[.slice none 0 0, .slice none 0 0, .slice none 0 0, .slice none 0 0] 25)).heap[g9]? = some (.cells #[.slice none 0 0, .slice none 0 0, .slice none 0 0, .slice none 0 0] 25) := by rw [← hg9]; exact World.alloc_heap_new _ _
          have kk : Keep Nope W2 (W2.alloc (.cells #[.slice none 0 0, .slice none 0 0, .slice none 0 0, .slice none 0 0] 25)) := (Keep.refl _ _).alloc _
          have G9 : Seal (wb.heap.size ≤ g9) := ⟨by rw [← hg9]; exact k2.size⟩
          have GN : Seal (g9 ≠ g10) := ⟨by have := lt_of_heap h10_2.out; omega⟩
          rw [hg9]
          obtain ⟨W3, hW⟩ : ∃ X, W2.alloc (.cells #[.slice none 0 0, .slice none 0 0, .slice none 0 0, .slice none 0 0] 25) = X := ⟨_, rfl⟩
          rw [hW] at nn kk ⊢
          have k3 := k2.then' kk
          have OA_3 : Seal _ := ⟨OA_2.out.keep kk⟩
          have h10_3 : Seal _ := ⟨kk.at_ h10_2.out (fun h => h)⟩
          clear OA_2 h10_2
          have h9_3 : Seal _ := ⟨nn⟩
          clear nn kk hW hg9
          refine hK _ _ ?_ (fun hHeld => ?_)
          · (try dsimp only); exact ⟨keepc k3 a0, keepc k3 a1, keepc k3 a2, keepc k3 a3, keepc k3 b0, keepc k3 b1, keepc k3 b2, keepc k3 b3⟩
          clear hK K
          try simp only [Act.put, List.setIfInBounds_toArray, List.set_cons_zero, List.set_cons_succ]
          refine wpAnyH_ready (rs := [5]) (by kernel_rfl) (by simp) ?_
          refine ready_held rfl (fun K hK => ?_)
          · go_simp
            go_at_call 15
            refine (Part_R (HB.out.keep (KA.out.then' k3)) HLB.out HNB.out m).mono ?_
            rintro e W4 ⟨v, rfl, ⟨znv, zhv, zpv, zsv, zns, zhs, zps, zss⟩, rfl, hp, hh, ho, kk⟩
            obtain ⟨⟨zna, znn, znc, rfl⟩, ⟨zha, zhn, zhc, rfl⟩, rfl, rfl⟩ := ho.forms
            have PB : Seal _ := ⟨hp.trans (congrArg (fun q => partP q m) HpB.out)⟩
            have QB : Seal _ := ⟨hh⟩
            have k4 := k3.then' kk
            have OA_4 : Seal _ := ⟨OA_3.out.keep kk⟩
            have h10_4 : Seal _ := ⟨kk.at_ h10_3.out (fun h => h)⟩
            have h9_4 : Seal _ := ⟨kk.at_ h9_3.out (fun h => h)⟩
            clear OA_3 h10_3 h9_3
            have OB_4 : Seal _ := ⟨ho.low (base' := w.heap.size) (KA.out.then' k3).size⟩
            clear hp hh ho kk
            dsimp only [GraphV.val]
            dsimp only at PB QB
            refine hK _ _ ?_ (fun hHeld => ?_)
            · (try dsimp only); exact ⟨keepc k4 a0, keepc k4 a1, keepc k4 a2, keepc k4 a3, keepc k4 b0, keepc k4 b1, keepc k4 b2, keepc k4 b3⟩
            clear hK K
            try simp only [Act.put, List.setIfInBounds_toArray, List.set_cons_zero, List.set_cons_succ]
            refine wpAnyH_ready (rs := [8]) (by kernel_rfl) (by simp) ?_
            refine ready_held rfl (fun K hK => ?_)
            have f0 := free_of_block h9_4.out 0; have f1 := free_of_block h9_4.out 1; have f2 := free_of_block h9_4.out 2; have f3 := free_of_block h9_4.out 3
            obtain ⟨e0, e1, e2, e3⟩ := cells4 h9_4.out
            go_simp
            obtain ⟨W5, hW⟩ : ∃ W, W = World.setCell (World.setCell (World.setCell (World.setCell (W4) ⟨g9, 0, none⟩ (.slice yna ynn ync)) ⟨g9, 1, none⟩ (.slice yha yhn yhc)) ⟨g9, 2, none⟩ (.slice none 0 0)) ⟨g9, 3, none⟩ (.slice none 0 0) := ⟨_, rfl⟩
            rw [← hW]
            obtain ⟨hy, ky⟩ := store4 h9_4.out _ _ _ _ W5 hW
            have k5 := k4.trans ky (fun i hi (e : i = g9) => by have := G9.out; omega)
            have OA_5 : Seal _ := ⟨OA_4.out.keepS ky (fun b (e : b = g9) => ⟨_, e ▸ h9_4.out⟩)⟩
            have h10_5 : Seal _ := ⟨ky.at_ h10_4.out (fun e => GN.out e.symm)⟩
            have OB_5 : Seal _ := ⟨OB_4.out.keepS ky (fun b (e : b = g9) => ⟨_, e ▸ h9_4.out⟩)⟩
            have h9_5 : Seal _ := ⟨hy⟩
            clear OA_4 h10_4 h9_4 OB_4 hy ky hW f0 f1 f2 f3 e0 e1 e2 e3
            refine hK _ _ ?_ (fun hHeld => ?_)
            · (try dsimp only); exact ⟨keepc k5 a0, keepc k5 a1, keepc k5 a2, keepc k5 a3, keepc k5 b0, keepc k5 b1, keepc k5 b2, keepc k5 b3⟩
            clear hK K
            try simp only [Act.put, List.setIfInBounds_toArray, List.set_cons_zero, List.set_cons_succ]
            refine wpAnyH_ready (rs := [9]) (by kernel_rfl) (by simp) ?_
            refine ready_held rfl (fun K hK => ?_)
            have f0 := free_of_block h10_5.out 0; have f1 := free_of_block h10_5.out 1; have f2 := free_of_block h10_5.out 2; have f3 := free_of_block h10_5.out 3
            obtain ⟨e0, e1, e2, e3⟩ := cells4 h10_5.out
            go_simp
            obtain ⟨W6, hW⟩ : ∃ W, W = World.setCell (World.setCell (World.setCell (World.setCell (W5) ⟨g10, 0, none⟩ (.slice zna znn znc)) ⟨g10, 1, none⟩ (.slice zha zhn zhc)) ⟨g10, 2, none⟩ (.slice none 0 0)) ⟨g10, 3, none⟩ (.slice none 0 0) := ⟨_, rfl⟩
            rw [← hW]
            obtain ⟨hy, ky⟩ := store4 h10_5.out _ _ _ _ W6 hW
            have k6 := k5.trans ky (fun i hi (e : i = g10) => by have := G10.out; omega)
            have OA_6 : Seal _ := ⟨OA_5.out.keepS ky (fun b (e : b = g10) => ⟨_, e ▸ h10_5.out⟩)⟩
            have OB_6 : Seal _ := ⟨OB_5.out.keepS ky (fun b (e : b = g10) => ⟨_, e ▸ h10_5.out⟩)⟩
            have h9_6 : Seal _ := ⟨ky.at_ h9_5.out (fun e => GN.out e)⟩
            have h10_6 : Seal _ := ⟨hy⟩
            clear OA_5 h10_5 OB_5 h9_5 hy ky hW f0 f1 f2 f3 e0 e1 e2 e3
            refine hK _ _ ?_ (fun hHeld => ?_)
            · (try dsimp only); exact ⟨keepc k6 a0, keepc k6 a1, keepc k6 a2, keepc k6 a3, keepc k6 b0, keepc k6 b1, keepc k6 b2, keepc k6 b3⟩
            clear hK K
            try simp only [Act.put, List.setIfInBounds_toArray, List.set_cons_zero, List.set_cons_succ]
            refine wpAnyH_done (by kernel_rfl) ?_ _
            go_wp2
            go_meet
            exact ⟨_, _, _, _, rfl, rfl, PA.out, PB.out, QA.out, QB.out, OA_6.out, OB_6.out, h9_6.out, h10_6.out, k6⟩
    · go_simp
      obtain ⟨g9, hg9⟩ : ∃ g, W0.heap.size = g := ⟨_, rfl⟩
      have nn : (W0.alloc (.cells #[.slice none 0 0, .slice none 0 0, .slice none 0 0, .slice none 0 0] 25)).heap[g9]? = some (.cells #[.slice none 0 0, .slice none 0 0, .slice none 0 0, .slice none 0 0] 25) := by rw [← hg9]; exact World.alloc_heap_new _ _
      have kk : Keep Nope W0 (W0.alloc (.cells #[.slice none 0 0, .slice none 0 0, .slice none 0 0, .slice none 0 0] 25)) := (Keep.refl _ _).alloc _
      have G9 : Seal (wb.heap.size ≤ g9) := ⟨by rw [← hg9]; exact k0.size⟩
      rw [hg9]
      obtain ⟨W1, hW⟩ : ∃ X, W0.alloc (.cells #[.slice none 0 0, .slice none 0 0, .slice none 0 0, .slice none 0 0] 25) = X := ⟨_, rfl⟩
      rw [hW] at nn kk ⊢
      have k1 := k0.then' kk
      have h9_1 : Seal _ := ⟨nn⟩
      clear nn kk hW hg9
      refine hK _ _ ?_ (fun hHeld => ?_)
      · (try dsimp only); exact ⟨keepc k1 a0, keepc k1 a1, keepc k1 a2, keepc k1 a3, keepc k1 b0, keepc k1 b1, keepc k1 b2, keepc k1 b3⟩
      clear hK K
      try simp only [Act.put, List.setIfInBounds_toArray, List.set_cons_zero, List.set_cons_succ]
      refine wpAnyH_ready (rs := [2, 7]) (by kernel_rfl) (by simp) ?_
      refine readyc_held rfl (fun K hK => ?_) (ready_held rfl (fun K hK => ?_))
      · go_simp
        go_at_call 15
        refine (Part_R (HA.out.keep (KA.out.then' k1)) HLA.out HNA.out n).mono ?_
        rintro e W2 ⟨v, rfl, ⟨ynv, yhv, ypv, ysv, yns, yhs, yps, yss⟩, rfl, hp, hh, ho, kk⟩
        obtain ⟨⟨yna, ynn, ync, rfl⟩, ⟨yha, yhn, yhc, rfl⟩, rfl, rfl⟩ := ho.forms
        have PA : Seal _ := ⟨hp.trans (congrArg (fun q => partP q n) HpA.out)⟩
        have QA : Seal _ := ⟨hh⟩
        have k2 := k1.then' kk
        have h9_2 : Seal _ := ⟨kk.at_ h9_1.out (fun h => h)⟩
        clear h9_1
        have OA_2 : Seal _ := ⟨ho.low (base' := w.heap.size) (KA.out.then' k1).size⟩
        clear hp hh ho kk
        dsimp only [GraphV.val]
        dsimp only at PA QA
        refine hK _ _ ?_ (fun hHeld => ?_)
        · (try dsimp only); exact ⟨keepc k2 a0, keepc k2 a1, keepc k2 a2, keepc k2 a3, keepc k2 b0, keepc k2 b1, keepc k2 b2, keepc k2 b3⟩
        clear hK K
        try simp only [Act.put, List.setIfInBounds_toArray, List.set_cons_zero, List.set_cons_succ]
        refine wpAnyH_ready (rs := [5, 7]) (by kernel_rfl) (by simp) ?_
        refine readyc_held rfl (fun K hK => ?_) (ready_held rfl (fun K hK => ?_))
        · go_simp
          go_at_call 15
          refine (Part_R (HB.out.keep (KA.out.then' k2)) HLB.out HNB.out m).mono ?_
          rintro e W3 ⟨v, rfl, ⟨znv, zhv, zpv, zsv, zns, zhs, zps, zss⟩, rfl, hp, hh, ho, kk⟩
          obtain ⟨⟨zna, znn, znc, rfl⟩, ⟨zha, zhn, zhc, rfl⟩, rfl, rfl⟩ := ho.forms
          have PB : Seal _ := ⟨hp.trans (congrArg (fun q => partP q m) HpB.out)⟩
          have QB : Seal _ := ⟨hh⟩
          have k3 := k2.then' kk
          have h9_3 : Seal _ := ⟨kk.at_ h9_2.out (fun h => h)⟩
          have OA_3 : Seal _ := ⟨OA_2.out.keep kk⟩
          clear h9_2 OA_2
          have OB_3 : Seal _ := ⟨ho.low (base' := w.heap.size) (KA.out.then' k2).size⟩
          clear hp hh ho kk
          dsimp only [GraphV.val]
          dsimp only at PB QB
          refine hK _ _ ?_ (fun hHeld => ?_)
          · (try dsimp only); exact ⟨keepc k3 a0, keepc k3 a1, keepc k3 a2, keepc k3 a3, keepc k3 b0, keepc k3 b1, keepc k3 b2, keepc k3 b3⟩
          clear hK K
          try simp only [Act.put, List.setIfInBounds_toArray, List.set_cons_zero, List.set_cons_succ]
          refine wpAnyH_ready (rs := [7]) (by kernel_rfl) (by simp) ?_
          refine ready_held rfl (fun K hK => ?_)
          · go_simp
            obtain ⟨g10, hg10⟩ : ∃ g, W3.heap.size = g := ⟨_, rfl⟩
            have nn : (W3.alloc (.cells #[.slice none 0 0, .slice none 0 0, .slice none 0 0, .slice none 0 0] 25)).heap[g10]? = some (.cells #[.slice none 0 0, .slice none 0 0, .slice none 0 0, .slice none 0 0] 25) := by rw [← hg10]; exact World.alloc_heap_new _ _
            have kk : Keep Nope W3 (W3.alloc (.cells #[.slice none 0 0, .slice none 0 0, .slice none 0 0, .slice none 0 0] 25)) := (Keep.refl _ _).alloc _
            have G10 : Seal (wb.heap.size ≤ g10) := ⟨by rw [← hg10]; exact k3.size⟩
            have GN : Seal (g9 ≠ g10) := ⟨by have := lt_of_heap h9_3.out; omega⟩
            rw [hg10]
            obtain ⟨W4, hW⟩ : ∃ X, W3.alloc (.cells #[.slice none 0 0, .slice none 0 0, .slice none 0 0, .slice none 0 0] 25) = X := ⟨_, rfl⟩
            rw [hW] at nn kk ⊢
            have k4 := k3.then' kk
            have h9_4 : Seal _ := ⟨kk.at_ h9_3.out (fun h => h)⟩
            have OA_4 : Seal _ := ⟨OA_3.out.keep kk⟩
            have OB_4 : Seal _ := ⟨OB_3.out.keep kk⟩
            clear h9_3 OA_3 OB_3
            have h10_4 : Seal _ := ⟨nn⟩
            clear nn kk hW hg10
            refine hK _ _ ?_ (fun hHeld => ?_)
            · (try dsimp only); exact ⟨keepc k4 a0, keepc k4 a1, keepc k4 a2, keepc k4 a3, keepc k4 b0, keepc k4 b1, keepc k4 b2, keepc k4 b3⟩
            clear hK K
            try simp only [Act.put, List.setIfInBounds_toArray, List.set_cons_zero, List.set_cons_succ]
            refine wpAnyH_ready (rs := [8]) (by kernel_rfl) (by simp) ?_
            refine ready_held rfl (fun K hK => ?_)
            have f0 := free_of_block h9_4.out 0; have f1 := free_of_block h9_4.out 1; have f2 := free_of_block h9_4.out 2; have f3 := free_of_block h9_4.out 3
            obtain ⟨e0, e1, e2, e3⟩ := cells4 h9_4.out
            go_simp
            obtain ⟨W5, hW⟩ : ∃ W, W = World.setCell (World.setCell (World.setCell (World.setCell (W4) ⟨g9, 0, none⟩ (.slice yna ynn ync)) ⟨g9, 1, none⟩ (.slice yha yhn yhc)) ⟨g9, 2, none⟩ (.slice none 0 0)) ⟨g9, 3, none⟩ (.slice none 0 0) := ⟨_, rfl⟩
            rw [← hW]
            obtain ⟨hy, ky⟩ := store4 h9_4.out _ _ _ _ W5 hW
            have k5 := k4.trans ky (fun i hi (e : i = g9) => by have := G9.out; omega)
            have OA_5 : Seal _ := ⟨OA_4.out.keepS ky (fun b (e : b = g9) => ⟨_, e ▸ h9_4.out⟩)⟩
            have OB_5 : Seal _ := ⟨OB_4.out.keepS ky (fun b (e : b = g9) => ⟨_, e ▸ h9_4.out⟩)⟩
            have h10_5 : Seal _ := ⟨ky.at_ h10_4.out (fun e => GN.out e.symm)⟩
            have h9_5 : Seal _ := ⟨hy⟩
            clear h9_4 OA_4 OB_4 h10_4 hy ky hW f0 f1 f2 f3 e0 e1 e2 e3
            refine hK _ _ ?_ (fun hHeld => ?_)
            · (try dsimp only); exact ⟨keepc k5 a0, keepc k5 a1, keepc k5 a2, keepc k5 a3, keepc k5 b0, keepc k5 b1, keepc k5 b2, keepc k5 b3⟩
            clear hK K
            try simp only [Act.put, List.setIfInBounds_toArray, List.set_cons_zero, List.set_cons_succ]
            refine wpAnyH_ready (rs := [9]) (by kernel_rfl) (by simp) ?_
            refine ready_held rfl (fun K hK => ?_)
            have f0 := free_of_block h10_5.out 0; have f1 := free_of_block h10_5.out 1; have f2 := free_of_block h10_5.out 2; have f3 := free_of_block h10_5.out 3
            obtain ⟨e0, e1, e2, e3⟩ := cells4 h10_5.out
            go_simp
            obtain ⟨W6, hW⟩ : ∃ W, W = World.setCell (World.setCell (World.setCell (World.setCell (W5) ⟨g10, 0, none⟩ (.slice zna znn znc)) ⟨g10, 1, none⟩ (.slice zha zhn zhc)) ⟨g10, 2, none⟩ (.slice none 0 0)) ⟨g10, 3, none⟩ (.slice none 0 0) := ⟨_, rfl⟩
            rw [← hW]
            obtain ⟨hy, ky⟩ := store4 h10_5.out _ _ _ _ W6 hW
            have k6 := k5.trans ky (fun i hi (e : i = g10) => by have := G10.out; omega)
            have OA_6 : Seal _ := ⟨OA_5.out.keepS ky (fun b (e : b = g10) => ⟨_, e ▸ h10_5.out⟩)⟩
            have OB_6 : Seal _ := ⟨OB_5.out.keepS ky (fun b (e : b = g10) => ⟨_, e ▸ h10_5.out⟩)⟩
            have h9_6 : Seal _ := ⟨ky.at_ h9_5.out (fun e => GN.out e)⟩
            have h10_6 : Seal _ := ⟨hy⟩
            clear OA_5 OB_5 h10_5 h9_5 hy ky hW f0 f1 f2 f3 e0 e1 e2 e3
            refine hK _ _ ?_ (fun hHeld => ?_)
            · (try dsimp only); exact ⟨keepc k6 a0, keepc k6 a1, keepc k6 a2, keepc k6 a3, keepc k6 b0, keepc k6 b1, keepc k6 b2, keepc k6 b3⟩
            clear hK K
            try simp only [Act.put, List.setIfInBounds_toArray, List.set_cons_zero, List.set_cons_succ]
            refine wpAnyH_done (by kernel_rfl) ?_ _
            go_wp2
            go_meet
            exact ⟨_, _, _, _, rfl, rfl, PA.out, PB.out, QA.out, QB.out, OA_6.out, OB_6.out, h9_6.out, h10_6.out, k6⟩
        · go_simp
          obtain ⟨g10, hg10⟩ : ∃ g, W2.heap.size = g := ⟨_, rfl⟩
          have nn : (W2.alloc (.cells #[.slice none 0 0, .slice none 0 0, .slice none 0 0, .slice none 0 0] 25)).heap[g10]? = some (.cells #[.slice none 0 0, .slice none 0 0, .slice none 0 0, .slice none 0 0] 25) := by rw [← hg10]; exact World.alloc_heap_new _ _
          have kk : Keep Nope W2 (W2.alloc (.cells #[.slice none 0 0, .slice none 0 0, .slice none 0 0, .slice none 0 0] 25)) := (Keep.refl _ _).alloc _
          have G10 : Seal (wb.heap.size ≤ g10) := ⟨by rw [← hg10]; exact k2.size⟩
          have GN : Seal (g9 ≠ g10) := ⟨by have := lt_of_heap h9_2.out; omega⟩
          rw [hg10]
          obtain ⟨W3, hW⟩ : ∃ X, W2.alloc (.cells #[.slice none 0 0, .slice none 0 0, .slice none 0 0, .slice none 0 0] 25) = X := ⟨_, rfl⟩
          rw [hW] at nn kk ⊢
          have k3 := k2.then' kk
          have h9_3 : Seal _ := ⟨kk.at_ h9_2.out (fun h => h)⟩
          have OA_3 : Seal _ := ⟨OA_2.out.keep kk⟩
          clear h9_2 OA_2
          have h10_3 : Seal _ := ⟨nn⟩
          clear nn kk hW hg10
          refine hK _ _ ?_ (fun hHeld => ?_)
          · (try dsimp only); exact ⟨keepc k3 a0, keepc k3 a1, keepc k3 a2, keepc k3 a3, keepc k3 b0, keepc k3 b1, keepc k3 b2, keepc k3 b3⟩
          clear hK K
          try simp only [Act.put, List.setIfInBounds_toArray, List.set_cons_zero, List.set_cons_succ]
          refine wpAnyH_ready (rs := [5]) (by kernel_rfl) (by simp) ?_
          refine ready_held rfl (fun K hK => ?_)
          · go_simp
            go_at_call 15
            refine (Part_R (HB.out.keep (KA.out.then' k3)) HLB.out HNB.out m).mono ?_
            rintro e W4 ⟨v, rfl, ⟨znv, zhv, zpv, zsv, zns, zhs, zps, zss⟩, rfl, hp, hh, ho, kk⟩
            obtain ⟨⟨zna, znn, znc, rfl⟩, ⟨zha, zhn, zhc, rfl⟩, rfl, rfl⟩ := ho.forms
            have PB : Seal _ := ⟨hp.trans (congrArg (fun q => partP q m) HpB.out)⟩
            have QB : Seal _ := ⟨hh⟩
            have k4 := k3.then' kk
            have h9_4 : Seal _ := ⟨kk.at_ h9_3.out (fun h => h)⟩
            have OA_4 : Seal _ := ⟨OA_3.out.keep kk⟩
            have h10_4 : Seal _ := ⟨kk.at_ h10_3.out (fun h => h)⟩
            clear h9_3 OA_3 h10_3
            have OB_4 : Seal _ := ⟨ho.low (base' := w.heap.size) (KA.out.then' k3).size⟩
            clear hp hh ho kk
            dsimp only [GraphV.val]
            dsimp only at PB QB
            refine hK _ _ ?_ (fun hHeld => ?_)
            · (try dsimp only); exact ⟨keepc k4 a0, keepc k4 a1, keepc k4 a2, keepc k4 a3, keepc k4 b0, keepc k4 b1, keepc k4 b2, keepc k4 b3⟩
            clear hK K
            try simp only [Act.put, List.setIfInBounds_toArray, List.set_cons_zero, List.set_cons_succ]
            refine wpAnyH_ready (rs := [8]) (by kernel_rfl) (by simp) ?_
            refine ready_held rfl (fun K hK => ?_)
            have f0 := free_of_block h9_4.out 0; have f1 := free_of_block h9_4.out 1; have f2 := free_of_block h9_4.out 2; have f3 := free_of_block h9_4.out 3
            obtain ⟨e0, e1, e2, e3⟩ := cells4 h9_4.out
            go_simp
            obtain ⟨W5, hW⟩ : ∃ W, W = World.setCell (World.setCell (World.setCell (World.setCell (W4) ⟨g9, 0, none⟩ (.slice yna ynn ync)) ⟨g9, 1, none⟩ (.slice yha yhn yhc)) ⟨g9, 2, none⟩ (.slice none 0 0)) ⟨g9, 3, none⟩ (.slice none 0 0) := ⟨_, rfl⟩
            rw [← hW]
            obtain ⟨hy, ky⟩ := store4 h9_4.out _ _ _ _ W5 hW
            have k5 := k4.trans ky (fun i hi (e : i = g9) => by have := G9.out; omega)
            have OA_5 : Seal _ := ⟨OA_4.out.keepS ky (fun b (e : b = g9) => ⟨_, e ▸ h9_4.out⟩)⟩
            have h10_5 : Seal _ := ⟨ky.at_ h10_4.out (fun e => GN.out e.symm)⟩
            have OB_5 : Seal _ := ⟨OB_4.out.keepS ky (fun b (e : b = g9) => ⟨_, e ▸ h9_4.out⟩)⟩
            have h9_5 : Seal _ := ⟨hy⟩
            clear h9_4 OA_4 h10_4 OB_4 hy ky hW f0 f1 f2 f3 e0 e1 e2 e3
            refine hK _ _ ?_ (fun hHeld => ?_)
            · (try dsimp only); exact ⟨keepc k5 a0, keepc k5 a1, keepc k5 a2, keepc k5 a3, keepc k5 b0, keepc k5 b1, keepc k5 b2, keepc k5 b3⟩
            clear hK K
            try simp only [Act.put, List.setIfInBounds_toArray, List.set_cons_zero, List.set_cons_succ]
            refine wpAnyH_ready (rs := [9]) (by kernel_rfl) (by simp) ?_
            refine ready_held rfl (fun K hK => ?_)
            have f0 := free_of_block h10_5.out 0; have f1 := free_of_block h10_5.out 1; have f2 := free_of_block h10_5.out 2; have f3 := free_of_block h10_5.out 3
            obtain ⟨e0, e1, e2, e3⟩ := cells4 h10_5.out
            go_simp
            obtain ⟨W6, hW⟩ : ∃ W, W = World.setCell (World.setCell (World.setCell (World.setCell (W5) ⟨g10, 0, none⟩ (.slice zna znn znc)) ⟨g10, 1, none⟩ (.slice zha zhn zhc)) ⟨g10, 2, none⟩ (.slice none 0 0)) ⟨g10, 3, none⟩ (.slice none 0 0) := ⟨_, rfl⟩
            rw [← hW]
            obtain ⟨hy, ky⟩ := store4 h10_5.out _ _ _ _ W6 hW
            have k6 := k5.trans ky (fun i hi (e : i = g10) => by have := G10.out; omega)
            have OA_6 : Seal _ := ⟨OA_5.out.keepS ky (fun b (e : b = g10) => ⟨_, e ▸ h10_5.out⟩)⟩
            have OB_6 : Seal _ := ⟨OB_5.out.keepS ky (fun b (e : b = g10) => ⟨_, e ▸ h10_5.out⟩)⟩
            have h9_6 : Seal _ := ⟨ky.at_ h9_5.out (fun e => GN.out e)⟩
            have h10_6 : Seal _ := ⟨hy⟩
            clear OA_5 h10_5 OB_5 h9_5 hy ky hW f0 f1 f2 f3 e0 e1 e2 e3
            refine hK _ _ ?_ (fun hHeld => ?_)
            · (try dsimp only); exact ⟨keepc k6 a0, keepc k6 a1, keepc k6 a2, keepc k6 a3, keepc k6 b0, keepc k6 b1, keepc k6 b2, keepc k6 b3⟩
            clear hK K
            try simp only [Act.put, List.setIfInBounds_toArray, List.set_cons_zero, List.set_cons_succ]
            refine wpAnyH_done (by kernel_rfl) ?_ _
            go_wp2
            go_meet
            exact ⟨_, _, _, _, rfl, rfl, PA.out, PB.out, QA.out, QB.out, OA_6.out, OB_6.out, h9_6.out, h10_6.out, k6⟩
      · go_simp
        obtain ⟨g10, hg10⟩ : ∃ g, W1.heap.size = g := ⟨_, rfl⟩
        have nn : (W1.alloc (.cells #[.slice none 0 0, .slice none 0 0, .slice none 0 0, .slice none 0 0] 25)).heap[g10]? = some (.cells #[.slice none 0 0, .slice none 0 0, .slice none 0 0, .slice none 0 0] 25) := by rw [← hg10]; exact World.alloc_heap_new _ _
        have kk : Keep Nope W1 (W1.alloc (.cells #[.slice none 0 0, .slice none 0 0, .slice none 0 0, .slice none 0 0] 25)) := (Keep.refl _ _).alloc _
        have G10 : Seal (wb.heap.size ≤ g10) := ⟨by rw [← hg10]; exact k1.size⟩
        have GN : Seal (g9 ≠ g10) := ⟨by have := lt_of_heap h9_1.out; omega⟩
        rw [hg10]
        obtain ⟨W2, hW⟩ : ∃ X, W1.alloc (.cells #[.slice none 0 0, .slice none 0 0, .slice none 0 0, .slice none 0 0] 25) = X := ⟨_, rfl⟩
        rw [hW] at nn kk ⊢
        have k2 := k1.then' kk
        have h9_2 : Seal _ := ⟨kk.at_ h9_1.out (fun h => h)⟩
        clear h9_1
        have h10_2 : Seal _ := ⟨nn⟩
        clear nn kk hW hg10
        refine hK _ _ ?_ (fun hHeld => ?_)
        · (try dsimp only); exact ⟨keepc k2 a0, keepc k2 a1, keepc k2 a2, keepc k2 a3, keepc k2 b0, keepc k2 b1, keepc k2 b2, keepc k2 b3⟩
        clear hK K
        try simp only [Act.put, List.setIfInBounds_toArray, List.set_cons_zero, List.set_cons_succ]
        refine wpAnyH_ready (rs := [2]) (by kernel_rfl) (by simp) ?_
        refine ready_held rfl (fun K hK => ?_)
        · go_simp
          go_at_call 15
          refine (Part_R (HA.out.keep (KA.out.then' k2)) HLA.out HNA.out n).mono ?_
          rintro e W3 ⟨v, rfl, ⟨ynv, yhv, ypv, ysv, yns, yhs, yps, yss⟩, rfl, hp, hh, ho, kk⟩
          obtain ⟨⟨yna, ynn, ync, rfl⟩, ⟨yha, yhn, yhc, rfl⟩, rfl, rfl⟩ := ho.forms
          have PA : Seal _ := ⟨hp.trans (congrArg (fun q => partP q n) HpA.out)⟩
          have QA : Seal _ := ⟨hh⟩
          have k3 := k2.then' kk
          have h9_3 : Seal _ := ⟨kk.at_ h9_2.out (fun h => h)⟩
          have h10_3 : Seal _ := ⟨kk.at_ h10_2.out (fun h => h)⟩
          clear h9_2 h10_2
          have OA_3 : Seal _ := ⟨ho.low (base' := w.heap.size) (KA.out.then' k2).size⟩
          clear hp hh ho kk
          dsimp only [GraphV.val]
          dsimp only at PA QA
          refine hK _ _ ?_ (fun hHeld => ?_)
          · (try dsimp only); exact ⟨keepc k3 a0, keepc k3 a1, keepc k3 a2, keepc k3 a3, keepc k3 b0, keepc k3 b1, keepc k3 b2, keepc k3 b3⟩
          clear hK K
          try simp only [Act.put, List.setIfInBounds_toArray, List.set_cons_zero, List.set_cons_succ]
          refine wpAnyH_ready (rs := [5]) (by kernel_rfl) (by simp) ?_
          refine ready_held rfl (fun K hK => ?_)
          · go_simp
            go_at_call 15
            refine (Part_R (HB.out.keep (KA.out.then' k3)) HLB.out HNB.out m).mono ?_
            rintro e W4 ⟨v, rfl, ⟨znv, zhv, zpv, zsv, zns, zhs, zps, zss⟩, rfl, hp, hh, ho, kk⟩
            obtain ⟨⟨zna, znn, znc, rfl⟩, ⟨zha, zhn, zhc, rfl⟩, rfl, rfl⟩ := ho.forms
            have PB : Seal _ := ⟨hp.trans (congrArg (fun q => partP q m) HpB.out)⟩
            have QB : Seal _ := ⟨hh⟩
            have k4 := k3.then' kk
            have h9_4 : Seal _ := ⟨kk.at_ h9_3.out (fun h => h)⟩
            have h10_4 : Seal _ := ⟨kk.at_ h10_3.out (fun h => h)⟩
            have OA_4 : Seal _ := ⟨OA_3.out.keep kk⟩
            clear h9_3 h10_3 OA_3
            have OB_4 : Seal _ := ⟨ho.low (base' := w.heap.size) (KA.out.then' k3).size⟩
            clear hp hh ho kk
            dsimp only [GraphV.val]
            dsimp only at PB QB
            refine hK _ _ ?_ (fun hHeld => ?_)
            · (try dsimp only); exact ⟨keepc k4 a0, keepc k4 a1, keepc k4 a2, keepc k4 a3, keepc k4 b0, keepc k4 b1, keepc k4 b2, keepc k4 b3⟩
            clear hK K
            try simp only [Act.put, List.setIfInBounds_toArray, List.set_cons_zero, List.set_cons_succ]
            refine wpAnyH_ready (rs := [8]) (by kernel_rfl) (by simp) ?_
            refine ready_held rfl (fun K hK => ?_)
            have f0 := free_of_block h9_4.out 0; have f1 := free_of_block h9_4.out 1; have f2 := free_of_block h9_4.out 2; have f3 := free_of_block h9_4.out 3
            obtain ⟨e0, e1, e2, e3⟩ := cells4 h9_4.out
            go_simp
            obtain ⟨W5, hW⟩ : ∃ W, W = World.setCell (World.setCell (World.setCell (World.setCell (W4) ⟨g9, 0, none⟩ (.slice yna ynn ync)) ⟨g9, 1, none⟩ (.slice yha yhn yhc)) ⟨g9, 2, none⟩ (.slice none 0 0)) ⟨g9, 3, none⟩ (.slice none 0 0) := ⟨_, rfl⟩
            rw [← hW]
            obtain ⟨hy, ky⟩ := store4 h9_4.out _ _ _ _ W5 hW
            have k5 := k4.trans ky (fun i hi (e : i = g9) => by have := G9.out; omega)
            have h10_5 : Seal _ := ⟨ky.at_ h10_4.out (fun e => GN.out e.symm)⟩
            have OA_5 : Seal _ := ⟨OA_4.out.keepS ky (fun b (e : b = g9) => ⟨_, e ▸ h9_4.out⟩)⟩
            have OB_5 : Seal _ := ⟨OB_4.out.keepS ky (fun b (e : b = g9) => ⟨_, e ▸ h9_4.out⟩)⟩
            have h9_5 : Seal _ := ⟨hy⟩
            clear h9_4 h10_4 OA_4 OB_4 hy ky hW f0 f1 f2 f3 e0 e1 e2 e3
            refine hK _ _ ?_ (fun hHeld => ?_)
            · (try dsimp only); exact ⟨keepc k5 a0, keepc k5 a1, keepc k5 a2, keepc k5 a3, keepc k5 b0, keepc k5 b1, keepc k5 b2, keepc k5 b3⟩
            clear hK K
            try simp only [Act.put, List.setIfInBounds_toArray, List.set_cons_zero, List.set_cons_succ]
            refine wpAnyH_ready (rs := [9]) (by kernel_rfl) (by simp) ?_
            refine ready_held rfl (fun K hK => ?_)
            have f0 := free_of_block h10_5.out 0; have f1 := free_of_block h10_5.out 1; have f2 := free_of_block h10_5.out 2; have f3 := free_of_block h10_5.out 3
            obtain ⟨e0, e1, e2, e3⟩ := cells4 h10_5.out
            go_simp
            obtain ⟨W6, hW⟩ : ∃ W, W = World.setCell (World.setCell (World.setCell (World.setCell (W5) ⟨g10, 0, none⟩ (.slice zna znn znc)) ⟨g10, 1, none⟩ (.slice zha zhn zhc)) ⟨g10, 2, none⟩ (.slice none 0 0)) ⟨g10, 3, none⟩ (.slice none 0 0) := ⟨_, rfl⟩
            rw [← hW]
            obtain ⟨hy, ky⟩ := store4 h10_5.out _ _ _ _ W6 hW
            have k6 := k5.trans ky (fun i hi (e : i = g10) => by have := G10.out; omega)
            have OA_6 : Seal _ := ⟨OA_5.out.keepS ky (fun b (e : b = g10) => ⟨_, e ▸ h10_5.out⟩)⟩
            have OB_6 : Seal _ := ⟨OB_5.out.keepS ky (fun b (e : b = g10) => ⟨_, e ▸ h10_5.out⟩)⟩
            have h9_6 : Seal _ := ⟨ky.at_ h9_5.out (fun e => GN.out e)⟩
            have h10_6 : Seal _ := ⟨hy⟩
            clear h10_5 OA_5 OB_5 h9_5 hy ky hW f0 f1 f2 f3 e0 e1 e2 e3
            refine hK _ _ ?_ (fun hHeld => ?_)
            · (try dsimp only); exact ⟨keepc k6 a0, keepc k6 a1, keepc k6 a2, keepc k6 a3, keepc k6 b0, keepc k6 b1, keepc k6 b2, keepc k6 b3⟩
            clear hK K
            try simp only [Act.put, List.setIfInBounds_toArray, List.set_cons_zero, List.set_cons_succ]
            refine wpAnyH_done (by kernel_rfl) ?_ _
            go_wp2
            go_meet
            exact ⟨_, _, _, _, rfl, rfl, PA.out, PB.out, QA.out, QB.out, OA_6.out, OB_6.out, h9_6.out, h10_6.out, k6⟩
    · go_simp
      obtain ⟨g10, hg10⟩ : ∃ g, W0.heap.size = g := ⟨_, rfl⟩
      have nn : (W0.alloc (.cells #[.slice none 0 0, .slice none 0 0, .slice none 0 0, .slice none 0 0] 25)).heap[g10]? = some (.cells #[.slice none 0 0, .slice none 0 0, .slice none 0 0, .slice none 0 0] 25) := by rw [← hg10]; exact World.alloc_heap_new _ _
      have kk : Keep Nope W0 (W0.alloc (.cells #[.slice none 0 0, .slice none 0 0, .slice none 0 0, .slice none 0 0] 25)) := (Keep.refl _ _).alloc _
      have G10 : Seal (wb.heap.size ≤ g10) := ⟨by rw [← hg10]; exact k0.size⟩
      rw [hg10]
      obtain ⟨W1, hW⟩ : ∃ X, W0.alloc (.cells #[.slice none 0 0, .slice none 0 0, .slice none 0 0, .slice none 0 0] 25) = X := ⟨_, rfl⟩
      rw [hW] at nn kk ⊢
      have k1 := k0.then' kk
      have h10_1 : Seal _ := ⟨nn⟩
      clear nn kk hW hg10
      refine hK _ _ ?_ (fun hHeld => ?_)
      · (try dsimp only); exact ⟨keepc k1 a0, keepc k1 a1, keepc k1 a2, keepc k1 a3, keepc k1 b0, keepc k1 b1, keepc k1 b2, keepc k1 b3⟩
      clear hK K
      try simp only [Act.put, List.setIfInBounds_toArray, List.set_cons_zero, List.set_cons_succ]
      refine wpAnyH_ready (rs := [2, 6]) (by kernel_rfl) (by simp) ?_
      refine readyc_held rfl (fun K hK => ?_) (ready_held rfl (fun K hK => ?_))
      · go_simp
        go_at_call 15
        refine (Part_R (HA.out.keep (KA.out.then' k1)) HLA.out HNA.out n).mono ?_
        rintro e W2 ⟨v, rfl, ⟨ynv, yhv, ypv, ysv, yns, yhs, yps, yss⟩, rfl, hp, hh, ho, kk⟩
        obtain ⟨⟨yna, ynn, ync, rfl⟩, ⟨yha, yhn, yhc, rfl⟩, rfl, rfl⟩ := ho.forms
        have PA : Seal _ := ⟨hp.trans (congrArg (fun q => partP q n) HpA.out)⟩
        have QA : Seal _ := ⟨hh⟩
        have k2 := k1.then' kk
        have h10_2 : Seal _ := ⟨kk.at_ h10_1.out (fun h => h)⟩
        clear h10_1
        have OA_2 : Seal _ := ⟨ho.low (base' := w.heap.size) (KA.out.then' k1).size⟩
        clear hp hh ho kk
        dsimp only [GraphV.val]
        dsimp only at PA QA
        refine hK _ _ ?_ (fun hHeld => ?_)
        · (try dsimp only); exact ⟨keepc k2 a0, keepc k2 a1, keepc k2 a2, keepc k2 a3, keepc k2 b0, keepc k2 b1, keepc k2 b2, keepc k2 b3⟩
        clear hK K
        try simp only [Act.put, List.setIfInBounds_toArray, List.set_cons_zero, List.set_cons_succ]
        refine wpAnyH_ready (rs := [5, 6]) (by kernel_rfl) (by simp) ?_
        refine readyc_held rfl (fun K hK => ?_) (ready_held rfl (fun K hK => ?_))
        · go_simp
          go_at_call 15
          refine (Part_R (HB.out.keep (KA.out.then' k2)) HLB.out HNB.out m).mono ?_
          rintro e W3 ⟨v, rfl, ⟨znv, zhv, zpv, zsv, zns, zhs, zps, zss⟩, rfl, hp, hh, ho, kk⟩
          obtain ⟨⟨zna, znn, znc, rfl⟩, ⟨zha, zhn, zhc, rfl⟩, rfl, rfl⟩ := ho.forms
          have PB : Seal _ := ⟨hp.trans (congrArg (fun q => partP q m) HpB.out)⟩
          have QB : Seal _ := ⟨hh⟩
          have k3 := k2.then' kk
          have h10_3 : Seal _ := ⟨kk.at_ h10_2.out (fun h => h)⟩
          have OA_3 : Seal _ := ⟨OA_2.out.keep kk⟩
          clear h10_2 OA_2
          have OB_3 : Seal _ := ⟨ho.low (base' := w.heap.size) (KA.out.then' k2).size⟩
          clear hp hh ho kk
          dsimp only [GraphV.val]
          dsimp only at PB QB
          refine hK _ _ ?_ (fun hHeld => ?_)
          · (try dsimp only); exact ⟨keepc k3 a0, keepc k3 a1, keepc k3 a2, keepc k3 a3, keepc k3 b0, keepc k3 b1, keepc k3 b2, keepc k3 b3⟩
          clear hK K
          try simp only [Act.put, List.setIfInBounds_toArray, List.set_cons_zero, List.set_cons_succ]
          refine wpAnyH_ready (rs := [6]) (by kernel_rfl) (by simp) ?_
          refine ready_held rfl (fun K hK => ?_)
          · go_simp
            obtain ⟨g9, hg9⟩ : ∃ g, W3.heap.size = g := ⟨_, rfl⟩
            have nn : (W3.alloc (.cells #[.slice none 0 0, .slice none 0 0, .slice none 0 0, .slice none 0 0] 25)).heap[g9]? = some (.cells #[.slice none 0 0, .slice none 0 0, .slice none 0 0, .slice none 0 0] 25) := by rw [← hg9]; exact World.alloc_heap_new _ _
            have kk : Keep Nope W3 (W3.alloc (.cells #[.slice none 0 0, .slice none 0 0, .slice none 0 0, .slice none 0 0] 25)) := (Keep.refl _ _).alloc _
            have G9 : Seal (wb.heap.size ≤ g9) := ⟨by rw [← hg9]; exact k3.size⟩
            have GN : Seal (g9 ≠ g10) := ⟨by have := lt_of_heap h10_3.out; omega⟩
            rw [hg9]
            obtain ⟨W4, hW⟩ : ∃ X, W3.alloc (.cells #[.slice none 0 0, .slice none 0 0, .slice none 0 0, .slice none 0 0] 25) = X := ⟨_, rfl⟩
            rw [hW] at nn kk ⊢
            have k4 := k3.then' kk
            have h10_4 : Seal _ := ⟨kk.at_ h10_3.out (fun h => h)⟩
            have OA_4 : Seal _ := ⟨OA_3.out.keep kk⟩
            have OB_4 : Seal _ := ⟨OB_3.out.keep kk⟩
            clear h10_3 OA_3 OB_3
            have h9_4 : Seal _ := ⟨nn⟩
            clear nn kk hW hg9
            refine hK _ _ ?_ (fun hHeld => ?_)
            · (try dsimp only); exact ⟨keepc k4 a0, keepc k4 a1, keepc k4 a2, keepc k4 a3, keepc k4 b0, keepc k4 b1, keepc k4 b2, keepc k4 b3⟩
            clear hK K
            try simp only [Act.put, List.setIfInBounds_toArray, List.set_cons_zero, List.set_cons_succ]
            refine wpAnyH_ready (rs := [8]) (by kernel_rfl) (by simp) ?_
            refine ready_held rfl (fun K hK => ?_)
            have f0 := free_of_block h9_4.out 0; have f1 := free_of_block h9_4.out 1; have f2 := free_of_block h9_4.out 2; have f3 := free_of_block h9_4.out 3
            obtain ⟨e0, e1, e2, e3⟩ := cells4 h9_4.out
            go_simp
            obtain ⟨W5, hW⟩ : ∃ W, W = World.setCell (World.setCell (World.setCell (World.setCell (W4) ⟨g9, 0, none⟩ (.slice yna ynn ync)) ⟨g9, 1, none⟩ (.slice yha yhn yhc)) ⟨g9, 2, none⟩ (.slice none 0 0)) ⟨g9, 3, none⟩ (.slice none 0 0) := ⟨_, rfl⟩
            rw [← hW]
            obtain ⟨hy, ky⟩ := store4 h9_4.out _ _ _ _ W5 hW
            have k5 := k4.trans ky (fun i hi (e : i = g9) => by have := G9.out; omega)
            have h10_5 : Seal _ := ⟨ky.at_ h10_4.out (fun e => GN.out e.symm)⟩
            have OA_5 : Seal _ := ⟨OA_4.out.keepS ky (fun b (e : b = g9) => ⟨_, e ▸ h9_4.out⟩)⟩
            have OB_5 : Seal _ := ⟨OB_4.out.keepS ky (fun b (e : b = g9) => ⟨_, e ▸ h9_4.out⟩)⟩
            have h9_5 : Seal _ := ⟨hy⟩
            clear h10_4 OA_4 OB_4 h9_4 hy ky hW f0 f1 f2 f3 e0 e1 e2 e3
            refine hK _ _ ?_ (fun hHeld => ?_)
            · (try dsimp only); exact ⟨keepc k5 a0, keepc k5 a1, keepc k5 a2, keepc k5 a3, keepc k5 b0, keepc k5 b1, keepc k5 b2, keepc k5 b3⟩
            clear hK K
            try simp only [Act.put, List.setIfInBounds_toArray, List.set_cons_zero, List.set_cons_succ]
            refine wpAnyH_ready (rs := [9]) (by kernel_rfl) (by simp) ?_
            refine ready_held rfl (fun K hK => ?_)
            have f0 := free_of_block h10_5.out 0; have f1 := free_of_block h10_5.out 1; have f2 := free_of_block h10_5.out 2; have f3 := free_of_block h10_5.out 3
            obtain ⟨e0, e1, e2, e3⟩ := cells4 h10_5.out
            go_simp
            obtain ⟨W6, hW⟩ : ∃ W, W = World.setCell (World.setCell (World.setCell (World.setCell (W5) ⟨g10, 0, none⟩ (.slice zna znn znc)) ⟨g10, 1, none⟩ (.slice zha zhn zhc)) ⟨g10, 2, none⟩ (.slice none 0 0)) ⟨g10, 3, none⟩ (.slice none 0 0) := ⟨_, rfl⟩
            rw [← hW]
            obtain ⟨hy, ky⟩ := store4 h10_5.out _ _ _ _ W6 hW
            have k6 := k5.trans ky (fun i hi (e : i = g10) => by have := G10.out; omega)
            have OA_6 : Seal _ := ⟨OA_5.out.keepS ky (fun b (e : b = g10) => ⟨_, e ▸ h10_5.out⟩)⟩
            have OB_6 : Seal _ := ⟨OB_5.out.keepS ky (fun b (e : b = g10) => ⟨_, e ▸ h10_5.out⟩)⟩
            have h9_6 : Seal _ := ⟨ky.at_ h9_5.out (fun e => GN.out e)⟩
            have h10_6 : Seal _ := ⟨hy⟩
            clear h10_5 OA_5 OB_5 h9_5 hy ky hW f0 f1 f2 f3 e0 e1 e2 e3
            refine hK _ _ ?_ (fun hHeld => ?_)
            · (try dsimp only); exact ⟨keepc k6 a0, keepc k6 a1, keepc k6 a2, keepc k6 a3, keepc k6 b0, keepc k6 b1, keepc k6 b2, keepc k6 b3⟩
            clear hK K
            try simp only [Act.put, List.setIfInBounds_toArray, List.set_cons_zero, List.set_cons_succ]
            refine wpAnyH_done (by kernel_rfl) ?_ _
            go_wp2
            go_meet
            exact ⟨_, _, _, _, rfl, rfl, PA.out, PB.out, QA.out, QB.out, OA_6.out, OB_6.out, h9_6.out, h10_6.out, k6⟩
        · go_simp
          obtain ⟨g9, hg9⟩ : ∃ g, W2.heap.size = g := ⟨_, rfl⟩
          have nn : (W2.alloc (.cells #[.slice none 0 0, .slice none 0 0, .slice none 0 0, .slice none 0 0] 25)).heap[g9]? = some (.cells #[.slice none 0 0, .slice none 0 0, .slice none 0 0, .slice none 0 0] 25) := by rw [← hg9]; exact World.alloc_heap_new _ _
          have kk : Keep Nope W2 (W2.alloc (.cells #[.slice none 0 0, .slice none 0 0, .slice none 0 0, .slice none 0 0] 25)) := (Keep.refl _ _).alloc _
          have G9 : Seal (wb.heap.size ≤ g9) := ⟨by rw [← hg9]; exact k2.size⟩
          have GN : Seal (g9 ≠ g10) := ⟨by have := lt_of_heap h10_2.out; omega⟩
          rw [hg9]
          obtain ⟨W3, hW⟩ : ∃ X, W2.alloc (.cells #[.slice none 0 0, .slice none 0 0, .slice none 0 0, .slice none 0 0] 25) = X := ⟨_, rfl⟩
          rw [hW] at nn kk ⊢
          have k3 := k2.then' kk
          have h10_3 : Seal _ := ⟨kk.at_ h10_2.out (fun h => h)⟩
          have OA_3 : Seal _ := ⟨OA_2.out.keep kk⟩
          clear h10_2 OA_2
          have h9_3 : Seal _ := ⟨nn⟩
          clear nn kk hW hg9
          refine hK _ _ ?_ (fun hHeld => ?_)
          · (try dsimp only); exact ⟨keepc k3 a0, keepc k3 a1, keepc k3 a2, keepc k3 a3, keepc k3 b0, keepc k3 b1, keepc k3 b2, keepc k3 b3⟩
          clear hK K
          try simp only [Act.put, List.setIfInBounds_toArray, List.set_cons_zero, List.set_cons_succ]
          refine wpAnyH_ready (rs := [5]) (by kernel_rfl) (by simp) ?_
          refine ready_held rfl (fun K hK => ?_)
          · go_simp
            go_at_call 15
            refine (Part_R (HB.out.keep (KA.out.then' k3)) HLB.out HNB.out m).mono ?_
            rintro e W4 ⟨v, rfl, ⟨znv, zhv, zpv, zsv, zns, zhs, zps, zss⟩, rfl, hp, hh, ho, kk⟩
            obtain ⟨⟨zna, znn, znc, rfl⟩, ⟨zha, zhn, zhc, rfl⟩, rfl, rfl⟩ := ho.forms
            have PB : Seal _ := ⟨hp.trans (congrArg (fun q => partP q m) HpB.out)⟩
            have QB : Seal _ := ⟨hh⟩
            have k4 := k3.then' kk
            have h10_4 : Seal _ := ⟨kk.at_ h10_3.out (fun h => h)⟩
            have OA_4 : Seal _ := ⟨OA_3.out.keep kk⟩
            have h9_4 : Seal _ := ⟨kk.at_ h9_3.out (fun h => h)⟩
            clear h10_3 OA_3 h9_3
            have OB_4 : Seal _ := ⟨ho.low (base' := w.heap.size) (KA.out.then' k3).size⟩
            clear hp hh ho kk
            dsimp only [GraphV.val]
            dsimp only at PB QB
            refine hK _ _ ?_ (fun hHeld => ?_)
            · (try dsimp only); exact ⟨keepc k4 a0, keepc k4 a1, keepc k4 a2, keepc k4 a3, keepc k4 b0, keepc k4 b1, keepc k4 b2, keepc k4 b3⟩
            clear hK K
            try simp only [Act.put, List.setIfInBounds_toArray, List.set_cons_zero, List.set_cons_succ]
            refine wpAnyH_ready (rs := [8]) (by kernel_rfl) (by simp) ?_
            refine ready_held rfl (fun K hK => ?_)
            have f0 := free_of_block h9_4.out 0; have f1 := free_of_block h9_4.out 1; have f2 := free_of_block h9_4.out 2; have f3 := free_of_block h9_4.out 3
            obtain ⟨e0, e1, e2, e3⟩ := cells4 h9_4.out
            go_simp
            obtain ⟨W5, hW⟩ : ∃ W, W = World.setCell (World.setCell (World.setCell (World.setCell (W4) ⟨g9, 0, none⟩ (.slice yna ynn ync)) ⟨g9, 1, none⟩ (.slice yha yhn yhc)) ⟨g9, 2, none⟩ (.slice none 0 0)) ⟨g9, 3, none⟩ (.slice none 0 0) := ⟨_, rfl⟩
            rw [← hW]
            obtain ⟨hy, ky⟩ := store4 h9_4.out _ _ _ _ W5 hW
            have k5 := k4.trans ky (fun i hi (e : i = g9) => by have := G9.out; omega)
            have h10_5 : Seal _ := ⟨ky.at_ h10_4.out (fun e => GN.out e.symm)⟩
            have OA_5 : Seal _ := ⟨OA_4.out.keepS ky (fun b (e : b = g9) => ⟨_, e ▸ h9_4.out⟩)⟩
            have OB_5 : Seal _ := ⟨OB_4.out.keepS ky (fun b (e : b = g9) => ⟨_, e ▸ h9_4.out⟩)⟩
            have h9_5 : Seal _ := ⟨hy⟩
            clear h10_4 OA_4 h9_4 OB_4 hy ky hW f0 f1 f2 f3 e0 e1 e2 e3
            refine hK _ _ ?_ (fun hHeld => ?_)
            · (try dsimp only); exact ⟨keepc k5 a0, keepc k5 a1, keepc k5 a2, keepc k5 a3, keepc k5 b0, keepc k5 b1, keepc k5 b2, keepc k5 b3⟩
            clear hK K
            try simp only [Act.put, List.setIfInBounds_toArray, List.set_cons_zero, List.set_cons_succ]
            refine wpAnyH_ready (rs := [9]) (by kernel_rfl) (by simp) ?_
            refine ready_held rfl (fun K hK => ?_)
            have f0 := free_of_block h10_5.out 0; have f1 := free_of_block h10_5.out 1; have f2 := free_of_block h10_5.out 2; have f3 := free_of_block h10_5.out 3
            obtain ⟨e0, e1, e2, e3⟩ := cells4 h10_5.out
            go_simp
            obtain ⟨W6, hW⟩ : ∃ W, W = World.setCell (World.setCell (World.setCell (World.setCell (W5) ⟨g10, 0, none⟩ (.slice zna znn znc)) ⟨g10, 1, none⟩ (.slice zha zhn zhc)) ⟨g10, 2, none⟩ (.slice none 0 0)) ⟨g10, 3, none⟩ (.slice none 0 0) := ⟨_, rfl⟩
            rw [← hW]
            obtain ⟨hy, ky⟩ := store4 h10_5.out _ _ _ _ W6 hW
            have k6 := k5.trans ky (fun i hi (e : i = g10) => by have := G10.out; omega)
            have OA_6 : Seal _ := ⟨OA_5.out.keepS ky (fun b (e : b = g10) => ⟨_, e ▸ h10_5.out⟩)⟩
            have OB_6 : Seal _ := ⟨OB_5.out.keepS ky (fun b (e : b = g10) => ⟨_, e ▸ h10_5.out⟩)⟩
            have h9_6 : Seal _ := ⟨ky.at_ h9_5.out (fun e => GN.out e)⟩
            have h10_6 : Seal _ := ⟨hy⟩
            clear h10_5 OA_5 OB_5 h9_5 hy ky hW f0 f1 f2 f3 e0 e1 e2 e3
            refine hK _ _ ?_ (fun hHeld => ?_)
            · (try dsimp only); exact ⟨keepc k6 a0, keepc k6 a1, keepc k6 a2, keepc k6 a3, keepc k6 b0, keepc k6 b1, keepc k6 b2, keepc k6 b3⟩
            clear hK K
            try simp only [Act.put, List.setIfInBounds_toArray, List.set_cons_zero, List.set_cons_succ]
            refine wpAnyH_done (by kernel_rfl) ?_ _
            go_wp2
            go_meet
            exact ⟨_, _, _, _, rfl, rfl, PA.out, PB.out, QA.out, QB.out, OA_6.out, OB_6.out, h9_6.out, h10_6.out, k6⟩
      · go_simp
        obtain ⟨g9, hg9⟩ : ∃ g, W1.heap.size = g := ⟨_, rfl⟩
        have nn : (W1.alloc (.cells #[.slice none 0 0, .slice none 0 0, .slice none 0 0, .slice none 0 0] 25)).heap[g9]? = some (.cells #[.slice none 0 0, .slice none 0 0, .slice none 0 0, .slice none 0 0] 25) := by rw [← hg9]; exact World.alloc_heap_new _ _
        have kk : Keep Nope W1 (W1.alloc (.cells #[.slice none 0 0, .slice none 0 0, .slice none 0 0, .slice none 0 0] 25)) := (Keep.refl _ _).alloc _
        have G9 : Seal (wb.heap.size ≤ g9) := ⟨by rw [← hg9]; exact k1.size⟩
        have GN : Seal (g9 ≠ g10) := ⟨by have := lt_of_heap h10_1.out; omega⟩
        rw [hg9]
        obtain ⟨W2, hW⟩ : ∃ X, W1.alloc (.cells #[.slice none 0 0, .slice none 0 0, .slice none 0 0, .slice none 0 0] 25) = X := ⟨_, rfl⟩
        rw [hW] at nn kk ⊢
        have k2 := k1.then' kk
        have h10_2 : Seal _ := ⟨kk.at_ h10_1.out (fun h => h)⟩
        clear h10_1
        have h9_2 : Seal _ := ⟨nn⟩
        clear nn kk hW hg9
        refine hK _ _ ?_ (fun hHeld => ?_)
        · (try dsimp only); exact ⟨keepc k2 a0, keepc k2 a1, keepc k2 a2, keepc k2 a3, keepc k2 b0, keepc k2 b1, keepc k2 b2, keepc k2 b3⟩
        clear hK K
        try simp only [Act.put, List.setIfInBounds_toArray, List.set_cons_zero, List.set_cons_succ]
        refine wpAnyH_ready (rs := [2]) (by kernel_rfl) (by simp) ?_
        refine ready_held rfl (fun K hK => ?_)
        · go_simp
          go_at_call 15
          refine (Part_R (HA.out.keep (KA.out.then' k2)) HLA.out HNA.out n).mono ?_
          rintro e W3 ⟨v, rfl, ⟨ynv, yhv, ypv, ysv, yns, yhs, yps, yss⟩, rfl, hp, hh, ho, kk⟩
          obtain ⟨⟨yna, ynn, ync, rfl⟩, ⟨yha, yhn, yhc, rfl⟩, rfl, rfl⟩ := ho.forms
          have PA : Seal _ := ⟨hp.trans (congrArg (fun q => partP q n) HpA.out)⟩
          have QA : Seal _ := ⟨hh⟩
          have k3 := k2.then' kk
          have h10_3 : Seal _ := ⟨kk.at_ h10_2.out (fun h => h)⟩
          have h9_3 : Seal _ := ⟨kk.at_ h9_2.out (fun h => h)⟩
          clear h10_2 h9_2
          have OA_3 : Seal _ := ⟨ho.low (base' := w.heap.size) (KA.out.then' k2).size⟩
          clear hp hh ho kk
          dsimp only [GraphV.val]
          dsimp only at PA QA
          refine hK _ _ ?_ (fun hHeld => ?_)
          · (try dsimp only); exact ⟨keepc k3 a0, keepc k3 a1, keepc k3 a2, keepc k3 a3, keepc k3 b0, keepc k3 b1, keepc k3 b2, keepc k3 b3⟩
          clear hK K
          try simp only [Act.put, List.setIfInBounds_toArray, List.set_cons_zero, List.set_cons_succ]
          refine wpAnyH_ready (rs := [5]) (by kernel_rfl) (by simp) ?_
          refine ready_held rfl (fun K hK => ?_)
          · go_simp
            go_at_call 15
            refine (Part_R (HB.out.keep (KA.out.then' k3)) HLB.out HNB.out m).mono ?_
            rintro e W4 ⟨v, rfl, ⟨znv, zhv, zpv, zsv, zns, zhs, zps, zss⟩, rfl, hp, hh, ho, kk⟩
            obtain ⟨⟨zna, znn, znc, rfl⟩, ⟨zha, zhn, zhc, rfl⟩, rfl, rfl⟩ := ho.forms
            have PB : Seal _ := ⟨hp.trans (congrArg (fun q => partP q m) HpB.out)⟩
            have QB : Seal _ := ⟨hh⟩
            have k4 := k3.then' kk
            have h10_4 : Seal _ := ⟨kk.at_ h10_3.out (fun h => h)⟩
            have h9_4 : Seal _ := ⟨kk.at_ h9_3.out (fun h => h)⟩
            have OA_4 : Seal _ := ⟨OA_3.out.keep kk⟩
            clear h10_3 h9_3 OA_3
            have OB_4 : Seal _ := ⟨ho.low (base' := w.heap.size) (KA.out.then' k3).size⟩
            clear hp hh ho kk
            dsimp only [GraphV.val]
            dsimp only at PB QB
            refine hK _ _ ?_ (fun hHeld => ?_)
            · (try dsimp only); exact ⟨keepc k4 a0, keepc k4 a1, keepc k4 a2, keepc k4 a3, keepc k4 b0, keepc k4 b1, keepc k4 b2, keepc k4 b3⟩
            clear hK K
            try simp only [Act.put, List.setIfInBounds_toArray, List.set_cons_zero, List.set_cons_succ]
            refine wpAnyH_ready (rs := [8]) (by kernel_rfl) (by simp) ?_
            refine ready_held rfl (fun K hK => ?_)
            have f0 := free_of_block h9_4.out 0; have f1 := free_of_block h9_4.out 1; have f2 := free_of_block h9_4.out 2; have f3 := free_of_block h9_4.out 3
            obtain ⟨e0, e1, e2, e3⟩ := cells4 h9_4.out
            go_simp
            obtain ⟨W5, hW⟩ : ∃ W, W = World.setCell (World.setCell (World.setCell (World.setCell (W4) ⟨g9, 0, none⟩ (.slice yna ynn ync)) ⟨g9, 1, none⟩ (.slice yha yhn yhc)) ⟨g9, 2, none⟩ (.slice none 0 0)) ⟨g9, 3, none⟩ (.slice none 0 0) := ⟨_, rfl⟩
            rw [← hW]
            obtain ⟨hy, ky⟩ := store4 h9_4.out _ _ _ _ W5 hW
            have k5 := k4.trans ky (fun i hi (e : i = g9) => by have := G9.out; omega)
            have h10_5 : Seal _ := ⟨ky.at_ h10_4.out (fun e => GN.out e.symm)⟩
            have OA_5 : Seal _ := ⟨OA_4.out.keepS ky (fun b (e : b = g9) => ⟨_, e ▸ h9_4.out⟩)⟩
            have OB_5 : Seal _ := ⟨OB_4.out.keepS ky (fun b (e : b = g9) => ⟨_, e ▸ h9_4.out⟩)⟩
            have h9_5 : Seal _ := ⟨hy⟩
            clear h10_4 h9_4 OA_4 OB_4 hy ky hW f0 f1 f2 f3 e0 e1 e2 e3
            refine hK _ _ ?_ (fun hHeld => ?_)
            · (try dsimp only); exact ⟨keepc k5 a0, keepc k5 a1, keepc k5 a2, keepc k5 a3, keepc k5 b0, keepc k5 b1, keepc k5 b2, keepc k5 b3⟩
            clear hK K
            try simp only [Act.put, List.setIfInBounds_toArray, List.set_cons_zero, List.set_cons_succ]
            refine wpAnyH_ready (rs := [9]) (by kernel_rfl) (by simp) ?_
            refine ready_held rfl (fun K hK => ?_)
            have f0 := free_of_block h10_5.out 0; have f1 := free_of_block h10_5.out 1; have f2 := free_of_block h10_5.out 2; have f3 := free_of_block h10_5.out 3
            obtain ⟨e0, e1, e2, e3⟩ := cells4 h10_5.out
            go_simp
            obtain ⟨W6, hW⟩ : ∃ W, W = World.setCell (World.setCell (World.setCell (World.setCell (W5) ⟨g10, 0, none⟩ (.slice zna znn znc)) ⟨g10, 1, none⟩ (.slice zha zhn zhc)) ⟨g10, 2, none⟩ (.slice none 0 0)) ⟨g10, 3, none⟩ (.slice none 0 0) := ⟨_, rfl⟩
            rw [← hW]
            obtain ⟨hy, ky⟩ := store4 h10_5.out _ _ _ _ W6 hW
            have k6 := k5.trans ky (fun i hi (e : i = g10) => by have := G10.out; omega)
            have OA_6 : Seal _ := ⟨OA_5.out.keepS ky (fun b (e : b = g10) => ⟨_, e ▸ h10_5.out⟩)⟩
            have OB_6 : Seal _ := ⟨OB_5.out.keepS ky (fun b (e : b = g10) => ⟨_, e ▸ h10_5.out⟩)⟩
            have h9_6 : Seal _ := ⟨ky.at_ h9_5.out (fun e => GN.out e)⟩
            have h10_6 : Seal _ := ⟨hy⟩
            clear h10_5 OA_5 OB_5 h9_5 hy ky hW f0 f1 f2 f3 e0 e1 e2 e3
            refine hK _ _ ?_ (fun hHeld => ?_)
            · (try dsimp only); exact ⟨keepc k6 a0, keepc k6 a1, keepc k6 a2, keepc k6 a3, keepc k6 b0, keepc k6 b1, keepc k6 b2, keepc k6 b3⟩
            clear hK K
            try simp only [Act.put, List.setIfInBounds_toArray, List.set_cons_zero, List.set_cons_succ]
            refine wpAnyH_done (by kernel_rfl) ?_ _
            go_wp2
            go_meet
            exact ⟨_, _, _, _, rfl, rfl, PA.out, PB.out, QA.out, QB.out, OA_6.out, OB_6.out, h9_6.out, h10_6.out, k6⟩
  case rest =>
    obtain ⟨⟨ynv, yhv, ypv, ysv, yns, yhs, yps, yss⟩, ⟨znv, zhv, zpv, zsv, zns, zhs, zps, zss⟩, g9, g10, rfl, rfl, py, pz, hy, hz, oy, oz, b9, b10, kc⟩ := hcut
    have hsl := part_small (n := n) HLA.out HNA.out (by rw [HpA.out]; exact py) hy oy
    have hsame := sameG_part hy hz (oy.pins.2.trans oz.pins.2.symm) (oy.stack.2.trans oz.stack.2.symm)
    obtain ⟨yna, ync, e1⟩ := own_form oy.nodes
    dsimp only at e1
    subst e1
    obtain ⟨-, ⟨yha, yhn, yhc, rfl⟩, rfl, rfl⟩ := oy.forms
    obtain ⟨⟨zna, znn, znc, rfl⟩, ⟨zha, zhn, zhc, rfl⟩, rfl, rfl⟩ := oz.forms
    have HY : Seal _ := ⟨oy.graph⟩
    have HZ : Seal _ := ⟨oz.graph⟩
    have HSL : Seal _ := ⟨hsl⟩
    have HSA : Seal _ := ⟨hsame⟩
    have HPY : Seal _ := ⟨py⟩
    have HPZ : Seal _ := ⟨pz⟩
    have HKC : Seal (Keep Nope w wc) := ⟨KA.out.then' kc⟩
    obtain ⟨c0, c1, c2, c3⟩ := cells4 (show wc.heap[g9]? = some (.cells #[.slice yna yns.length ync, .slice yha yhn yhc, .slice none 0 0, .slice none 0 0] 25 (0, 0)) from b9)
    obtain ⟨d0, d1, d2, d3⟩ := cells4 (show wc.heap[g10]? = some (.cells #[.slice zna znn znc, .slice zha zhn zhc, .slice none 0 0, .slice none 0 0] 25 (0, 0)) from b10)
    clear oy oz b9 b10 kc hsl hsame hy hz py pz a0 a1 a2 a3 b0 b1 b2 b3
    unfold GraphV.val at *
    dsimp only at HY HZ HSL HSA HPY HPZ
    obtain ⟨N, hN⟩ : ∃ N, yns.length = N := ⟨_, rfl⟩
    have HN : Seal _ := ⟨hN⟩
    rw [hN] at c0 HY HSA HSL HPY
    obtain ⟨r, hr⟩ : ∃ r, sameG ⟨.slice yna N ync, .slice yha yhn yhc, .slice none 0 0, .slice none 0 0, yns, yhs, yps, yss⟩ ⟨.slice zna znn znc, .slice zha zhn zhc, .slice none 0 0, .slice none 0 0, zns, zhs, zps, zss⟩ = r := ⟨_, rfl⟩
    have HR : Seal _ := ⟨hr⟩
    clear hr hN
    have HLe : Seal (N ≤ 600) := ⟨HSL.out.2⟩
    have hLe := HLe.out
    by_cases h0 : 0 < N
    · have h0' : (0 : Int) < (N : Int) := by omega
      have HNE : Seal (partP A n ≠ []) := ⟨by
        rw [← HPY.out]
        intro e
        have h1 : (List.map NodeV.p yns).length = 0 := by rw [show List.map NodeV.p yns = [] from e]; rfl
        rw [List.length_map, HN.out] at h1
        omega⟩
      go_wp2_with (go_at_call 19; go_loud (refine (SameGraph_R (a := ⟨.slice yna N ync, .slice yha yhn yhc, .slice none 0 0, .slice none 0 0, yns, yhs, yps, yss⟩) (b := ⟨.slice zna znn znc, .slice zha zhn zhc, .slice none 0 0, .slice none 0 0, zns, zhs, zps, zss⟩) HY.out HZ.out HSL.out.1).mono ?_); go_loud (rintro e w3 ⟨rfl, hk⟩; rw [HR.out]; have HK3 : Seal _ := ⟨HKC.out.then' hk⟩; clear hk))
      go_ret
      exact ⟨r, rfl, by rw [← HPY.out, ← HPZ.out, ← HR.out]; exact HSA.out.trans ⟨fun h => ⟨by rw [HPY.out]; exact HNE.out, h⟩, fun h => h.2⟩, HK3.out⟩
    · have h0' : ¬ (0 : Int) < (N : Int) := by omega
      have HNE : Seal (partP A n = []) := ⟨by
        rw [← HPY.out]
        show List.map NodeV.p yns = []
        rw [List.map_eq_nil_iff, ← List.length_eq_zero_iff, HN.out]
        omega⟩
      go_wp2_with fail
      go_ret
      exact ⟨false, rfl, ⟨fun h => (by cases h), fun h => absurd HNE.out h.1⟩, HKC.out⟩

end Go.Proofs.YtifdhaiihlfomaaDoor
