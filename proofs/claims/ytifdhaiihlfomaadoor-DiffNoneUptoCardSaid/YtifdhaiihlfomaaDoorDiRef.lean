/-
  skerryref28.Same: the document's answer whether two graphs are the same.
-/
import Derived.Test.YtifdhaiihlfomaaDoorDiSame
import Derived.Test.YtifdhaiihlfomaaDoorDiView
namespace Go.Proofs.YtifdhaiihlfomaaDoor
open Go Go.RowKit
set_option linter.unusedVariables false

theorem wp_cut {P : Program} {c : Code} {K M : Act → World → Prop} {Q : Exit → Act → World → Prop} {a : Act} {w : World} (h1 : c.wp P (Exit.then M (fun _ _ _ => False)) a w) (h2 : ∀ a' w', M a' w' → K a' w') : c.wp P (Exit.then K Q) a w :=
  wp_mono h1 fun e a' w' q => by cases e <;> first | exact h2 _ _ q | exact q.elim

set_option maxRecDepth 20000 in
set_option maxHeartbeats 16000000 in
theorem SameRef_R {a b : GraphV} {w : World} (ha : GraphR w a) (hb : GraphR w b) (hl : GraphL a) :
    Calls Tryd.prog 14 #[a.val, b.val] w fun e w' => e = .returned (.bool (sameG a b)) ∧ Keep Nope w w' := by
  obtain ⟨anv, ahv, apv, asv, ans, ahs, aps, ass⟩ := a
  obtain ⟨bnv, bhv, bpv, bsv, bns, bhs, bps, bss⟩ := b
  obtain ⟨na, ha1, pa, sa⟩ := ha
  obtain ⟨nb, hb1, pb, sb⟩ := hb
  dsimp only at na ha1 pa sa nb hb1 pb sb
  obtain ⟨aha, ahn, ahc, rfl⟩ := row_form ha1
  obtain ⟨apa, apn, apc, rfl⟩ := row_form pa
  obtain ⟨asa, asn, asc, rfl⟩ := row_form sa
  obtain ⟨bha, bhn, bhc, rfl⟩ := row_form hb1
  obtain ⟨bpa, bpn, bpc, rfl⟩ := row_form pb
  obtain ⟨bsa, bsn, bsc, rfl⟩ := row_form sb
  obtain ⟨ana, anc, rfl, hx⟩ := na
  obtain ⟨bna, bnc, rfl, hy⟩ := nb
  obtain ⟨ann, hN⟩ : ∃ N, ans.length = N := ⟨_, rfl⟩
  obtain ⟨bnn, hM⟩ : ∃ M, bns.length = M := ⟨_, rfl⟩
  have HN : Seal _ := ⟨hN⟩
  have HM : Seal _ := ⟨hM⟩
  rw [hN] at hl
  rw [hM, hN]
  have HX : Seal _ := ⟨hx⟩
  have HY : Seal _ := ⟨hy⟩
  have HLa : Seal _ := ⟨hl⟩
  have hln : ann ≤ 17592186044416 := by have h0 := hl.n; dsimp only at h0; omega
  have HK : Seal (Keep Nope w ((w.alloc (.cells #[.slice ana ann anc, .slice aha ahn ahc, .slice apa apn apc, .slice asa asn asc] 25)).alloc (.cells #[.slice bna bnn bnc, .slice bha bhn bhc, .slice bpa bpn bpc, .slice bsa bsn bsc] 25))) := ⟨((Keep.refl _ _).alloc _).alloc _⟩
  have HHa : Seal _ := ⟨ha1.keep HK.out⟩
  have HHb : Seal _ := ⟨hb1.keep HK.out⟩
  have HPa : Seal _ := ⟨pa.keep HK.out⟩
  have HPb : Seal _ := ⟨pb.keep HK.out⟩
  have HSa : Seal _ := ⟨sa.keep HK.out⟩
  have HSb : Seal _ := ⟨sb.keep HK.out⟩
  clear hx hy hN hM hl ha1 hb1 pa pb sa sb
  have HA : Seal (((w.alloc (.cells #[.slice ana ann anc, .slice aha ahn ahc, .slice apa apn apc, .slice asa asn asc] 25)).alloc (.cells #[.slice bna bnn bnc, .slice bha bhn bhc, .slice bpa bpn bpc, .slice bsa bsn bsc] 25)).heap[w.heap.size]? = some (.cells #[.slice ana ann anc, .slice aha ahn ahc, .slice apa apn apc, .slice asa asn asc] 25)) := ⟨by
    rw [Below.heap_alloc _ _ _ (by simp)]
    exact World.alloc_heap_new w _⟩
  have HB : Seal (((w.alloc (.cells #[.slice ana ann anc, .slice aha ahn ahc, .slice apa apn apc, .slice asa asn asc] 25)).alloc (.cells #[.slice bna bnn bnc, .slice bha bhn bhc, .slice bpa bpn bpc, .slice bsa bsn bsc] 25)).heap[w.heap.size + 1]? = some (.cells #[.slice bna bnn bnc, .slice bha bhn bhc, .slice bpa bpn bpc, .slice bsa bsn bsc] 25)) := ⟨by
    have := World.alloc_heap_new (w.alloc (.cells #[.slice ana ann anc, .slice aha ahn ahc, .slice apa apn apc, .slice asa asn asc] 25)) (.cells #[.slice bna bnn bnc, .slice bha bhn bhc, .slice bpa bpn bpc, .slice bsa bsn bsc] 25)
    simpa using this⟩
  have HK2 : Seal (Keep Nope ((w.alloc (.cells #[.slice ana ann anc, .slice aha ahn ahc, .slice apa apn apc, .slice asa asn asc] 25)).alloc (.cells #[.slice bna bnn bnc, .slice bha bhn bhc, .slice bpa bpn bpc, .slice bsa bsn bsc] 25)) ((w.alloc (.cells #[.slice ana ann anc, .slice aha ahn ahc, .slice apa apn apc, .slice asa asn asc] 25)).alloc (.cells #[.slice bna bnn bnc, .slice bha bhn bhc, .slice bpa bpn bpc, .slice bsa bsn bsc] 25))) := ⟨Keep.refl _ _⟩
  have a0 := cell_at HA.out (i := 0) rfl
  have b0 := cell_at HB.out (i := 0) rfl
  have a1 := cell_at HA.out (i := 1) rfl
  have b1 := cell_at HB.out (i := 1) rfl
  have a2 := cell_at HA.out (i := 2) rfl
  have b2 := cell_at HB.out (i := 2) rfl
  have a3 := cell_at HA.out (i := 3) rfl
  have b3 := cell_at HB.out (i := 3) rfl
  unfold sameG GraphV.val
  dsimp only
  obtain ⟨r2, hr2⟩ : ∃ r, decide (ahs = bhs) = r := ⟨_, rfl⟩
  obtain ⟨r3, hr3⟩ : ∃ r, decide (aps = bps) = r := ⟨_, rfl⟩
  obtain ⟨r4, hr4⟩ : ∃ r, decide (ass = bss) = r := ⟨_, rfl⟩
  have HR2 : Seal _ := ⟨hr2⟩
  have HR3 : Seal _ := ⟨hr3⟩
  have HR4 : Seal _ := ⟨hr4⟩
  rw [hr2, hr3, hr4]
  clear hr2 hr3 hr4
  by_cases hle : ann = bnn
  · subst hle
    have hl1 : ((ann : Int) != (ann : Int)) = false := by simp
    cases r2 with
    | false =>
      rw [Bool.false_and, Bool.and_false]
      go_enter Tryd.func14, Tryd.ntmps14
      go_wp2_with (go_at_call 26; with_reducible refine (SameInts_R (v := .slice aha ahn ahc) (u := .slice bha bhn bhc) (HHa.out.keep HK2.out) (HHb.out.keep HK2.out) (by have h0 := HLa.out.h; dsimp only at h0; omega)).mono ?_; rintro e w3 ⟨rfl, hk⟩; rw [HR2.out]; replace a0 := keepc hk a0; replace b0 := keepc hk b0; replace a1 := keepc hk a1; replace b1 := keepc hk b1; replace a2 := keepc hk a2; replace b2 := keepc hk b2; replace a3 := keepc hk a3; replace b3 := keepc hk b3; have HK3 : Seal (Keep Nope _ w3) := ⟨HK2.out.then' hk⟩; clear hk)
      go_ret
      exact ⟨rfl, HK.out.then' HK3.out⟩
    | true =>
      rw [Bool.true_and]
      cases r3 with
      | false =>
        rw [Bool.false_and, Bool.and_false]
        go_enter Tryd.func14, Tryd.ntmps14
        go_wp2_with (first | (go_at_call 26; with_reducible refine (SameInts_R (v := .slice aha ahn ahc) (u := .slice bha bhn bhc) (HHa.out.keep HK2.out) (HHb.out.keep HK2.out) (by have h0 := HLa.out.h; dsimp only at h0; omega)).mono ?_; rintro e w3 ⟨rfl, hk⟩; rw [HR2.out]; replace a0 := keepc hk a0; replace b0 := keepc hk b0; replace a1 := keepc hk a1; replace b1 := keepc hk b1; replace a2 := keepc hk a2; replace b2 := keepc hk b2; replace a3 := keepc hk a3; replace b3 := keepc hk b3; have HK3 : Seal (Keep Nope _ w3) := ⟨HK2.out.then' hk⟩; clear hk) | (go_at_call 26; with_reducible refine (SameInts_R (v := .slice apa apn apc) (u := .slice bpa bpn bpc) (HPa.out.keep HK3.out) (HPb.out.keep HK3.out) (by have h0 := HLa.out.p; dsimp only at h0; omega)).mono ?_; rintro e w4 ⟨rfl, hk⟩; rw [HR3.out]; replace a0 := keepc hk a0; replace b0 := keepc hk b0; replace a1 := keepc hk a1; replace b1 := keepc hk b1; replace a2 := keepc hk a2; replace b2 := keepc hk b2; replace a3 := keepc hk a3; replace b3 := keepc hk b3; have HK4 : Seal (Keep Nope _ w4) := ⟨HK3.out.then' hk⟩; clear hk))
        go_ret
        exact ⟨rfl, HK.out.then' HK4.out⟩
      | true =>
        rw [Bool.true_and]
        cases r4 with
        | false =>
          rw [Bool.and_false]
          go_enter Tryd.func14, Tryd.ntmps14
          go_wp2_with (first | (go_at_call 26; with_reducible refine (SameInts_R (v := .slice aha ahn ahc) (u := .slice bha bhn bhc) (HHa.out.keep HK2.out) (HHb.out.keep HK2.out) (by have h0 := HLa.out.h; dsimp only at h0; omega)).mono ?_; rintro e w3 ⟨rfl, hk⟩; rw [HR2.out]; replace a0 := keepc hk a0; replace b0 := keepc hk b0; replace a1 := keepc hk a1; replace b1 := keepc hk b1; replace a2 := keepc hk a2; replace b2 := keepc hk b2; replace a3 := keepc hk a3; replace b3 := keepc hk b3; have HK3 : Seal (Keep Nope _ w3) := ⟨HK2.out.then' hk⟩; clear hk) | (go_at_call 26; with_reducible refine (SameInts_R (v := .slice apa apn apc) (u := .slice bpa bpn bpc) (HPa.out.keep HK3.out) (HPb.out.keep HK3.out) (by have h0 := HLa.out.p; dsimp only at h0; omega)).mono ?_; rintro e w4 ⟨rfl, hk⟩; rw [HR3.out]; replace a0 := keepc hk a0; replace b0 := keepc hk b0; replace a1 := keepc hk a1; replace b1 := keepc hk b1; replace a2 := keepc hk a2; replace b2 := keepc hk b2; replace a3 := keepc hk a3; replace b3 := keepc hk b3; have HK4 : Seal (Keep Nope _ w4) := ⟨HK3.out.then' hk⟩; clear hk) | (go_at_call 26; with_reducible refine (SameInts_R (v := .slice asa asn asc) (u := .slice bsa bsn bsc) (HSa.out.keep HK4.out) (HSb.out.keep HK4.out) (by have h0 := HLa.out.s; dsimp only at h0; omega)).mono ?_; rintro e w5 ⟨rfl, hk⟩; rw [HR4.out]; replace a0 := keepc hk a0; replace b0 := keepc hk b0; replace a1 := keepc hk a1; replace b1 := keepc hk b1; replace a2 := keepc hk a2; replace b2 := keepc hk b2; replace a3 := keepc hk a3; replace b3 := keepc hk b3; have HK5 : Seal (Keep Nope _ w5) := ⟨HK4.out.then' hk⟩; clear hk))
          go_ret
          exact ⟨rfl, HK.out.then' HK5.out⟩
        | true =>
          rw [Bool.and_true]
          obtain ⟨r, hr⟩ : ∃ r, sameNs ans bns = r := ⟨_, rfl⟩
          have HR : Seal _ := ⟨hr⟩
          rw [hr]
          clear hr
          go_enter Tryd.func14, Tryd.ntmps14
          go_wp2_with (first | (go_at_call 26; with_reducible refine (SameInts_R (v := .slice aha ahn ahc) (u := .slice bha bhn bhc) (HHa.out.keep HK2.out) (HHb.out.keep HK2.out) (by have h0 := HLa.out.h; dsimp only at h0; omega)).mono ?_; rintro e w3 ⟨rfl, hk⟩; rw [HR2.out]; replace a0 := keepc hk a0; replace b0 := keepc hk b0; replace a1 := keepc hk a1; replace b1 := keepc hk b1; replace a2 := keepc hk a2; replace b2 := keepc hk b2; replace a3 := keepc hk a3; replace b3 := keepc hk b3; have HK3 : Seal (Keep Nope _ w3) := ⟨HK2.out.then' hk⟩; clear hk) | (go_at_call 26; with_reducible refine (SameInts_R (v := .slice apa apn apc) (u := .slice bpa bpn bpc) (HPa.out.keep HK3.out) (HPb.out.keep HK3.out) (by have h0 := HLa.out.p; dsimp only at h0; omega)).mono ?_; rintro e w4 ⟨rfl, hk⟩; rw [HR3.out]; replace a0 := keepc hk a0; replace b0 := keepc hk b0; replace a1 := keepc hk a1; replace b1 := keepc hk b1; replace a2 := keepc hk a2; replace b2 := keepc hk b2; replace a3 := keepc hk a3; replace b3 := keepc hk b3; have HK4 : Seal (Keep Nope _ w4) := ⟨HK3.out.then' hk⟩; clear hk) | (go_at_call 26; with_reducible refine (SameInts_R (v := .slice asa asn asc) (u := .slice bsa bsn bsc) (HSa.out.keep HK4.out) (HSb.out.keep HK4.out) (by have h0 := HLa.out.s; dsimp only at h0; omega)).mono ?_; rintro e w5 ⟨rfl, hk⟩; rw [HR4.out]; replace a0 := keepc hk a0; replace b0 := keepc hk b0; replace a1 := keepc hk a1; replace b1 := keepc hk b1; replace a2 := keepc hk a2; replace b2 := keepc hk b2; replace a3 := keepc hk a3; replace b3 := keepc hk b3; have HK5 : Seal (Keep Nope _ w5) := ⟨HK4.out.then' hk⟩; clear hk))
          clear a1 a2 a3 b1 b2 b3
          go_loopw [5] (fun z wr => ∃ j : Nat, j ≤ ann ∧ z = .int .i64 (j : Nat) ∧ Seal (∀ i, i < j → sameN (ans.getD i nodeZ) (bns.getD i nodeZ) = true) ∧ Keep Nope w5 wr) (fun z _ => ann - (intOf z).toNat)
          case atStart => exact ⟨0, Nat.zero_le _, rfl, ⟨fun i hi => by omega⟩, Keep.refl _ _⟩
          case round =>
            obtain ⟨j, hj, rfl, HE, hk⟩ := hrel
            have c0 := keepc hk a0
            have d0 := keepc hk b0
            have HKr : Seal (Keep Nope w5 wr) := ⟨hk⟩
            by_cases hjl : j < ann
            · have hjl' : (j : Int) < ann := by omega
              obtain ⟨X, hX⟩ : ∃ X, ans[j]? = some X := ⟨_, List.getElem?_eq_getElem (by rw [HN.out]; exact hjl)⟩
              obtain ⟨Y, hY⟩ : ∃ Y, bns[j]? = some Y := ⟨_, List.getElem?_eq_getElem (by rw [HM.out]; exact hjl)⟩
              have HXg : Seal (ans.getD j nodeZ = X) := ⟨by rw [List.getD_eq_getElem?_getD, hX]; rfl⟩
              have HYg : Seal (bns.getD j nodeZ = Y) := ⟨by rw [List.getD_eq_getElem?_getD, hY]; rfl⟩
              have HLX : Seal _ := ⟨HLa.out.w X (List.mem_of_getElem? hX)⟩
              obtain ⟨b, o, rfl, hb, r0, r1, r2, r3, hn⟩ := HX.out j X hX
              obtain ⟨b', o', rfl, hb', t0, t1, t2, t3, hm⟩ := HY.out j Y hY
              have kA := HK.out.then' (HK5.out.then' hk)
              replace r0 := keepc kA r0
              replace r1 := keepc kA r1
              replace r2 := keepc kA r2
              replace r3 := keepc kA r3
              replace t0 := keepc kA t0
              replace t1 := keepc kA t1
              replace t2 := keepc kA t2
              replace t3 := keepc kA t3
              have HNX : Seal _ := ⟨hn.keep kA⟩
              have HNY : Seal _ := ⟨hm.keep kA⟩
              clear hk kA hX hY hn hm a0 b0
              obtain ⟨xt, xl, xw, xr, xws, xrs⟩ := X
              obtain ⟨yt, yl, yw, yr, yws, yrs⟩ := Y
              obtain ⟨xwa, xwn, xwc, rfl⟩ := row_form HNX.out.1
              obtain ⟨xra, xrn, xrc, rfl⟩ := row_form HNX.out.2
              obtain ⟨ywa, ywn, ywc, rfl⟩ := row_form HNY.out.1
              obtain ⟨yra, yrn, yrc, rfl⟩ := row_form HNY.out.2
              dsimp only at r0 r1 r2 r3 t0 t1 t2 t3
              have HXW : Seal (RowR .u64 wr (.slice xwa xwn xwc) xws) := ⟨HNX.out.1⟩
              have HXR : Seal (RowR .i64 wr (.slice xra xrn xrc) xrs) := ⟨HNX.out.2⟩
              have HYW : Seal (RowR .u64 wr (.slice ywa ywn ywc) yws) := ⟨HNY.out.1⟩
              have HYR : Seal (RowR .i64 wr (.slice yra yrn yrc) yrs) := ⟨HNY.out.2⟩
              have HLW : Seal (xws.length ≤ 9223372036854775806) := ⟨Nat.le_trans HLX.out.1 (by decide)⟩
              have HLR : Seal (xrs.length ≤ 9223372036854775806) := ⟨Nat.le_trans HLX.out.2 (by decide)⟩
              go_wp2_with fail
              refine wp_cut (M := (fun a' w' => ∃ (p q : Nat) (z4 z39 z40 z41 z42 z43 z44 z45 z46 z47 z48 z49 z50 z51 z52 z53 z54 z55 z56 z57 z58 z59 z60 z61 z62 z63 z64 z65 z66 z67 z68 z69 z70 z71 z72 z73 z74 z75 z76 z77 z78 z79 z80 z81 z82 z83 : Value), w'.heap[p]? = some (.cells #[.int .i64 xt, .int .i64 xl, .slice xwa xwn xwc, .slice xra xrn xrc] 41) ∧ w'.heap[q]? = some (.cells #[.int .i64 yt, .int .i64 yl, .slice ywa ywn ywc, .slice yra yrn yrc] 41) ∧ Keep Nope wr w' ∧ a' = { tmps := #[.agg #[.slice (some ⟨b, o, none⟩) ann anc, .slice aha ahn ahc, .slice apa apn apc, .slice asa asn asc], .agg #[.slice (some ⟨b', o', none⟩) ann bnc, .slice bha bhn bhc, .slice bpa bpn bpc, .slice bsa bsn bsc], .pointer (some ⟨w.heap.size, 0, none⟩), .pointer (some ⟨w.heap.size + 1, 0, none⟩), z4, .int .i64 (j : Nat), .pointer (some ⟨p, 0, none⟩), .pointer (some ⟨q, 0, none⟩), .pointer (some ⟨w.heap.size, 0, none⟩), .slice (some ⟨b, o, none⟩) ann anc, .int .i64 (ann : Nat), .pointer (some ⟨w.heap.size + 1, 0, none⟩), .slice (some ⟨b', o', none⟩) ann bnc, .int .i64 (ann : Nat), .bool false, .bool false, .pointer (some ⟨w.heap.size, 1, none⟩), .slice aha ahn ahc, .pointer (some ⟨w.heap.size + 1, 1, none⟩), .slice bha bhn bhc, .bool true, .bool false, .bool false, .bool false, .pointer (some ⟨w.heap.size, 2, none⟩), .slice apa apn apc, .pointer (some ⟨w.heap.size + 1, 2, none⟩), .slice bpa bpn bpc, .bool true, .bool false, .bool false, .bool false, .pointer (some ⟨w.heap.size, 3, none⟩), .slice asa asn asc, .pointer (some ⟨w.heap.size + 1, 3, none⟩), .slice bsa bsn bsc, .bool true, .bool false, .bool false, z39, z40, z41, z42, z43, z44, z45, z46, z47, z48, z49, z50, z51, z52, z53, z54, z55, z56, z57, z58, z59, z60, z61, z62, z63, z64, z65, z66, z67, z68, z69, z70, z71, z72, z73, z74, z75, z76, z77, z78, z79, z80, z81, z82, z83], defers := [] })) ?_ ?_
              · skip
                have k0 : Keep Nope wr wr.drew := (Keep.refl _ _).drew
                refine wp_region_held_drew (S := fun w' => w'.cell? ⟨w.heap.size, 0, none⟩ = some (.slice (some ⟨b, o, none⟩) ann anc) ∧ w'.cell? ⟨w.heap.size + 1, 0, none⟩ = some (.slice (some ⟨b', o', none⟩) ann bnc) ∧ w'.cell? ⟨b, o + j * 4, none⟩ = some (.int .i64 xt) ∧ w'.cell? ⟨b, o + j * 4 + 1, none⟩ = some (.int .i64 xl) ∧ w'.cell? ⟨b, o + j * 4 + 2, none⟩ = some (.slice xwa xwn xwc) ∧ w'.cell? ⟨b, o + j * 4 + 3, none⟩ = some (.slice xra xrn xrc) ∧ w'.cell? ⟨b', o' + j * 4, none⟩ = some (.int .i64 yt) ∧ w'.cell? ⟨b', o' + j * 4 + 1, none⟩ = some (.int .i64 yl) ∧ w'.cell? ⟨b', o' + j * 4 + 2, none⟩ = some (.slice ywa ywn ywc) ∧ w'.cell? ⟨b', o' + j * 4 + 3, none⟩ = some (.slice yra yrn yrc)) (by kernel_rfl) ?_ (fun hHeld => ?_)
                · (try dsimp only); exact ⟨c0, d0, r0, r1, r2, r3, t0, t1, t2, t3⟩
                obtain ⟨W0, hW0⟩ : ∃ W0, wr.drew = W0 := ⟨_, rfl⟩
                rw [hW0] at k0 hHeld ⊢
                clear hW0
                refine tko 0 ?_; refine tko 1 ?_; refine tko 2 ?_; refine tko 3 ?_; refine tko 4 ?_; refine tko 5 ?_; refine tko 6 ?_; refine tko 7 ?_; refine tko 8 ?_; refine tko 9 ?_
                try simp only [Act.put, List.setIfInBounds_toArray, List.set_cons_zero, List.set_cons_succ]
                refine wpAnyH_ready (rs := [10, 11]) (by kernel_rfl) (by simp) ?_
                refine readyc_held rfl (fun K hK => ?_) ?_
                · skip
                  go_simp
                  obtain ⟨g1, hg1⟩ : ∃ g, W0.heap.size = g := ⟨_, rfl⟩
                  have ka1 : Keep Nope W0 (W0.alloc (.cells #[.int .i64 0, .int .i64 0, .slice none 0 0, .slice none 0 0] 41)) := (Keep.refl _ _).alloc _
                  have p1 : (W0.alloc (.cells #[.int .i64 0, .int .i64 0, .slice none 0 0, .slice none 0 0] 41)).heap[g1]? = some (.cells #[.int .i64 0, .int .i64 0, .slice none 0 0, .slice none 0 0] 41) := by rw [← hg1]; exact World.alloc_heap_new _ _
                  have l1 : wr.heap.size ≤ g1 := by rw [← hg1]; exact k0.size
                  have k1 : Keep Nope wr _ := k0.then' ka1
                  rw [hg1]
                  obtain ⟨V1, hV1⟩ : ∃ V, W0.alloc (.cells #[.int .i64 0, .int .i64 0, .slice none 0 0, .slice none 0 0] 41) = V := ⟨_, rfl⟩
                  rw [hV1] at ka1 p1 k1 ⊢
                  refine hK _ _ ?_ (fun hHeld => ?_)
                  · (try dsimp only); exact ⟨keepc k1 c0, keepc k1 d0, keepc k1 r0, keepc k1 r1, keepc k1 r2, keepc k1 r3, keepc k1 t0, keepc k1 t1, keepc k1 t2, keepc k1 t3⟩
                  clear hK K ka1 hV1 hg1
                  try simp only [Act.put, List.setIfInBounds_toArray, List.set_cons_zero, List.set_cons_succ]
                  refine wpAnyH_ready (rs := [11]) (by kernel_rfl) (by simp) ?_
                  refine ready_held rfl (fun K hK => ?_)
                  go_simp
                  obtain ⟨g2, hg2⟩ : ∃ g, V1.heap.size = g := ⟨_, rfl⟩
                  have ka2 : Keep Nope V1 (V1.alloc (.cells #[.int .i64 0, .int .i64 0, .slice none 0 0, .slice none 0 0] 41)) := (Keep.refl _ _).alloc _
                  have p2 : (V1.alloc (.cells #[.int .i64 0, .int .i64 0, .slice none 0 0, .slice none 0 0] 41)).heap[g2]? = some (.cells #[.int .i64 0, .int .i64 0, .slice none 0 0, .slice none 0 0] 41) := by rw [← hg2]; exact World.alloc_heap_new _ _
                  have l2 : wr.heap.size ≤ g2 := by rw [← hg2]; exact k1.size
                  have n2 : ¬ g1 = g2 := by have := lt_of_heap p1; omega
                  have o2 := ka2.at_ p1 (fun h => h)
                  have k2 : Keep Nope wr _ := k1.then' ka2
                  rw [hg2]
                  obtain ⟨V2, hV2⟩ : ∃ V, V1.alloc (.cells #[.int .i64 0, .int .i64 0, .slice none 0 0, .slice none 0 0] 41) = V := ⟨_, rfl⟩
                  rw [hV2] at ka2 p2 k2 o2 ⊢
                  refine hK _ _ ?_ (fun hHeld => ?_)
                  · (try dsimp only); exact ⟨keepc k2 c0, keepc k2 d0, keepc k2 r0, keepc k2 r1, keepc k2 r2, keepc k2 r3, keepc k2 t0, keepc k2 t1, keepc k2 t2, keepc k2 t3⟩
                  clear hK K ka2 hV2 hg2
                  try simp only [Act.put, List.setIfInBounds_toArray, List.set_cons_zero, List.set_cons_succ]
                  refine wpAnyH_ready (rs := [12]) (by kernel_rfl) (by simp) ?_
                  refine ready_held rfl (fun K hK => ?_)
                  have f3 := free_of_block o2; have f30 := f3 0; have f31 := f3 1; have f32 := f3 2; have f33 := f3 3
                  obtain ⟨e30, e31, e32, e33⟩ := cells4 o2
                  clear f3
                  go_simp
                  obtain ⟨V3, hV3⟩ : ∃ V, V = World.setCell (World.setCell (World.setCell (World.setCell (V2) ⟨g1, 0, none⟩ (.int .i64 xt)) ⟨g1, 1, none⟩ (.int .i64 xl)) ⟨g1, 2, none⟩ (.slice xwa xwn xwc)) ⟨g1, 3, none⟩ (.slice xra xrn xrc) := ⟨_, rfl⟩
                  rw [← hV3]
                  obtain ⟨q3, ka3⟩ := store4 o2 _ _ _ _ V3 hV3
                  have o3 := ka3.at_ p2 (by first | exact n2 | exact fun h => n2 h.symm)
                  have hl3 : wr.heap.size ≤ g1 := l1
                  have k3 : Keep Nope wr V3 := k2.trans ka3 (fun i hi h => by have h' : i = g1 := h; omega)
                  clear hV3 f30 f31 f32 f33 e30 e31 e32 e33 ka3
                  refine hK _ _ ?_ (fun hHeld => ?_)
                  · (try dsimp only); exact ⟨keepc k3 c0, keepc k3 d0, keepc k3 r0, keepc k3 r1, keepc k3 r2, keepc k3 r3, keepc k3 t0, keepc k3 t1, keepc k3 t2, keepc k3 t3⟩
                  clear hK K
                  try simp only [Act.put, List.setIfInBounds_toArray, List.set_cons_zero, List.set_cons_succ]
                  refine wpAnyH_ready (rs := [13]) (by kernel_rfl) (by simp) ?_
                  refine ready_held rfl (fun K hK => ?_)
                  have f4 := free_of_block o3; have f40 := f4 0; have f41 := f4 1; have f42 := f4 2; have f43 := f4 3
                  obtain ⟨e40, e41, e42, e43⟩ := cells4 o3
                  clear f4
                  go_simp
                  obtain ⟨V4, hV4⟩ : ∃ V, V = World.setCell (World.setCell (World.setCell (World.setCell (V3) ⟨g2, 0, none⟩ (.int .i64 yt)) ⟨g2, 1, none⟩ (.int .i64 yl)) ⟨g2, 2, none⟩ (.slice ywa ywn ywc)) ⟨g2, 3, none⟩ (.slice yra yrn yrc) := ⟨_, rfl⟩
                  rw [← hV4]
                  obtain ⟨q4, ka4⟩ := store4 o3 _ _ _ _ V4 hV4
                  have o4 := ka4.at_ q3 (by first | exact n2 | exact fun h => n2 h.symm)
                  have hl4 : wr.heap.size ≤ g2 := l2
                  have k4 : Keep Nope wr V4 := k3.trans ka4 (fun i hi h => by have h' : i = g2 := h; omega)
                  clear hV4 f40 f41 f42 f43 e40 e41 e42 e43 ka4
                  refine hK _ _ ?_ (fun hHeld => ?_)
                  · (try dsimp only); exact ⟨keepc k4 c0, keepc k4 d0, keepc k4 r0, keepc k4 r1, keepc k4 r2, keepc k4 r3, keepc k4 t0, keepc k4 t1, keepc k4 t2, keepc k4 t3⟩
                  clear hK K
                  try simp only [Act.put, List.setIfInBounds_toArray, List.set_cons_zero, List.set_cons_succ]
                  refine wpAnyH_done (by kernel_rfl) ?_ _
                  exact ⟨_, _, _, _, _, _, _, _, _, _, _, _, _, _, _, _, _, _, _, _, _, _, _, _, _, _, _, _, _, _, _, _, _, _, _, _, _, _, _, _, _, _, _, _, _, _, _, _, o4, q4, k4, rfl⟩
                · refine readyc_held rfl (fun K hK => ?_) AllReadyH.nil
                  go_simp
                  obtain ⟨g5, hg5⟩ : ∃ g, W0.heap.size = g := ⟨_, rfl⟩
                  have ka5 : Keep Nope W0 (W0.alloc (.cells #[.int .i64 0, .int .i64 0, .slice none 0 0, .slice none 0 0] 41)) := (Keep.refl _ _).alloc _
                  have p5 : (W0.alloc (.cells #[.int .i64 0, .int .i64 0, .slice none 0 0, .slice none 0 0] 41)).heap[g5]? = some (.cells #[.int .i64 0, .int .i64 0, .slice none 0 0, .slice none 0 0] 41) := by rw [← hg5]; exact World.alloc_heap_new _ _
                  have l5 : wr.heap.size ≤ g5 := by rw [← hg5]; exact k0.size
                  have k5 : Keep Nope wr _ := k0.then' ka5
                  rw [hg5]
                  obtain ⟨V5, hV5⟩ : ∃ V, W0.alloc (.cells #[.int .i64 0, .int .i64 0, .slice none 0 0, .slice none 0 0] 41) = V := ⟨_, rfl⟩
                  rw [hV5] at ka5 p5 k5 ⊢
                  refine hK _ _ ?_ (fun hHeld => ?_)
                  · (try dsimp only); exact ⟨keepc k5 c0, keepc k5 d0, keepc k5 r0, keepc k5 r1, keepc k5 r2, keepc k5 r3, keepc k5 t0, keepc k5 t1, keepc k5 t2, keepc k5 t3⟩
                  clear hK K ka5 hV5 hg5
                  try simp only [Act.put, List.setIfInBounds_toArray, List.set_cons_zero, List.set_cons_succ]
                  refine wpAnyH_ready (rs := [10]) (by kernel_rfl) (by simp) ?_
                  refine ready_held rfl (fun K hK => ?_)
                  go_simp
                  obtain ⟨g6, hg6⟩ : ∃ g, V5.heap.size = g := ⟨_, rfl⟩
                  have ka6 : Keep Nope V5 (V5.alloc (.cells #[.int .i64 0, .int .i64 0, .slice none 0 0, .slice none 0 0] 41)) := (Keep.refl _ _).alloc _
                  have p6 : (V5.alloc (.cells #[.int .i64 0, .int .i64 0, .slice none 0 0, .slice none 0 0] 41)).heap[g6]? = some (.cells #[.int .i64 0, .int .i64 0, .slice none 0 0, .slice none 0 0] 41) := by rw [← hg6]; exact World.alloc_heap_new _ _
                  have l6 : wr.heap.size ≤ g6 := by rw [← hg6]; exact k5.size
                  have n6 : ¬ g5 = g6 := by have := lt_of_heap p5; omega
                  have o6 := ka6.at_ p5 (fun h => h)
                  have k6 : Keep Nope wr _ := k5.then' ka6
                  rw [hg6]
                  obtain ⟨V6, hV6⟩ : ∃ V, V5.alloc (.cells #[.int .i64 0, .int .i64 0, .slice none 0 0, .slice none 0 0] 41) = V := ⟨_, rfl⟩
                  rw [hV6] at ka6 p6 k6 o6 ⊢
                  refine hK _ _ ?_ (fun hHeld => ?_)
                  · (try dsimp only); exact ⟨keepc k6 c0, keepc k6 d0, keepc k6 r0, keepc k6 r1, keepc k6 r2, keepc k6 r3, keepc k6 t0, keepc k6 t1, keepc k6 t2, keepc k6 t3⟩
                  clear hK K ka6 hV6 hg6
                  try simp only [Act.put, List.setIfInBounds_toArray, List.set_cons_zero, List.set_cons_succ]
                  refine wpAnyH_ready (rs := [12]) (by kernel_rfl) (by simp) ?_
                  refine ready_held rfl (fun K hK => ?_)
                  have f7 := free_of_block p6; have f70 := f7 0; have f71 := f7 1; have f72 := f7 2; have f73 := f7 3
                  obtain ⟨e70, e71, e72, e73⟩ := cells4 p6
                  clear f7
                  go_simp
                  obtain ⟨V7, hV7⟩ : ∃ V, V = World.setCell (World.setCell (World.setCell (World.setCell (V6) ⟨g6, 0, none⟩ (.int .i64 xt)) ⟨g6, 1, none⟩ (.int .i64 xl)) ⟨g6, 2, none⟩ (.slice xwa xwn xwc)) ⟨g6, 3, none⟩ (.slice xra xrn xrc) := ⟨_, rfl⟩
                  rw [← hV7]
                  obtain ⟨q7, ka7⟩ := store4 p6 _ _ _ _ V7 hV7
                  have o7 := ka7.at_ o6 (by first | exact n6 | exact fun h => n6 h.symm)
                  have hl7 : wr.heap.size ≤ g6 := l6
                  have k7 : Keep Nope wr V7 := k6.trans ka7 (fun i hi h => by have h' : i = g6 := h; omega)
                  clear hV7 f70 f71 f72 f73 e70 e71 e72 e73 ka7
                  refine hK _ _ ?_ (fun hHeld => ?_)
                  · (try dsimp only); exact ⟨keepc k7 c0, keepc k7 d0, keepc k7 r0, keepc k7 r1, keepc k7 r2, keepc k7 r3, keepc k7 t0, keepc k7 t1, keepc k7 t2, keepc k7 t3⟩
                  clear hK K
                  try simp only [Act.put, List.setIfInBounds_toArray, List.set_cons_zero, List.set_cons_succ]
                  refine wpAnyH_ready (rs := [13]) (by kernel_rfl) (by simp) ?_
                  refine ready_held rfl (fun K hK => ?_)
                  have f8 := free_of_block o7; have f80 := f8 0; have f81 := f8 1; have f82 := f8 2; have f83 := f8 3
                  obtain ⟨e80, e81, e82, e83⟩ := cells4 o7
                  clear f8
                  go_simp
                  obtain ⟨V8, hV8⟩ : ∃ V, V = World.setCell (World.setCell (World.setCell (World.setCell (V7) ⟨g5, 0, none⟩ (.int .i64 yt)) ⟨g5, 1, none⟩ (.int .i64 yl)) ⟨g5, 2, none⟩ (.slice ywa ywn ywc)) ⟨g5, 3, none⟩ (.slice yra yrn yrc) := ⟨_, rfl⟩
                  rw [← hV8]
                  obtain ⟨q8, ka8⟩ := store4 o7 _ _ _ _ V8 hV8
                  have o8 := ka8.at_ q7 (by first | exact n6 | exact fun h => n6 h.symm)
                  have hl8 : wr.heap.size ≤ g5 := l5
                  have k8 : Keep Nope wr V8 := k7.trans ka8 (fun i hi h => by have h' : i = g5 := h; omega)
                  clear hV8 f80 f81 f82 f83 e80 e81 e82 e83 ka8
                  refine hK _ _ ?_ (fun hHeld => ?_)
                  · (try dsimp only); exact ⟨keepc k8 c0, keepc k8 d0, keepc k8 r0, keepc k8 r1, keepc k8 r2, keepc k8 r3, keepc k8 t0, keepc k8 t1, keepc k8 t2, keepc k8 t3⟩
                  clear hK K
                  try simp only [Act.put, List.setIfInBounds_toArray, List.set_cons_zero, List.set_cons_succ]
                  refine wpAnyH_done (by kernel_rfl) ?_ _
                  exact ⟨_, _, _, _, _, _, _, _, _, _, _, _, _, _, _, _, _, _, _, _, _, _, _, _, _, _, _, _, _, _, _, _, _, _, _, _, _, _, _, _, _, _, _, _, _, _, _, _, o8, q8, k8, rfl⟩
              · rintro a' w6 ⟨p, q', z4, z39, z40, z41, z42, z43, z44, z45, z46, z47, z48, z49, z50, z51, z52, z53, z54, z55, z56, z57, z58, z59, z60, z61, z62, z63, z64, z65, z66, z67, z68, z69, z70, z71, z72, z73, z74, z75, z76, z77, z78, z79, z80, z81, z82, z83, qA, qB, kq, rfl⟩
                have HKQ : Seal (Keep Nope wr w6) := ⟨kq⟩
                obtain ⟨x0, x1, x2, x3⟩ := cells4 qA
                obtain ⟨y0, y1, y2, y3⟩ := cells4 qB
                clear kq
                refine ‹∀ (a : Act) (w : World), Code.wp _ _ _ a w → _› _ _ ?_
                clear r0 r1 r2 r3 t0 t1 t2 t3 c0 d0 hb hb'
                obtain ⟨s3, hs3⟩ : ∃ s, decide (xws = yws) = s := ⟨_, rfl⟩
                obtain ⟨s4, hs4⟩ : ∃ s, decide (xrs = yrs) = s := ⟨_, rfl⟩
                have HS3 : Seal _ := ⟨hs3⟩
                have HS4 : Seal _ := ⟨hs4⟩
                clear hs3 hs4
                have HBAD : Seal (sameN ⟨xt, xl, .slice xwa xwn xwc, .slice xra xrn xrc, xws, xrs⟩ ⟨yt, yl, .slice ywa ywn ywc, .slice yra yrn yrc, yws, yrs⟩ = false → r = false) := ⟨fun hq => by
                  rw [← HR.out, sameNs, decide_eq_false]
                  intro h
                  have := h.2 j (by rw [HN.out]; exact hjl)
                  rw [HXg.out, HYg.out, hq] at this
                  cases this⟩
                by_cases e1 : xt = yt
                · have q1 : (xt != yt) = false := by simp [e1]
                  by_cases e2 : xl = yl
                  · have q2 : (xl != yl) = false := by simp [e2]
                    cases s3 with
                    | false =>
                      have HF : Seal (r = false) := ⟨HBAD.out (by simp only [sameN, HS3.out, Bool.false_and, Bool.and_false])⟩
                      clear e1 e2
                      go_wp2_with (go_at_call 27; with_reducible refine (SameWords_R (v := .slice xwa xwn xwc) (u := .slice ywa ywn ywc) (HXW.out.keep HKQ.out) (HYW.out.keep HKQ.out) HLW.out).mono ?_; rintro e w7 ⟨rfl, hk⟩; rw [HS3.out]; replace x3 := keepc hk x3; replace y3 := keepc hk y3; have HK7 : Seal (Keep Nope wr w7) := ⟨HKQ.out.then' hk⟩; clear hk)
                      go_ret
                      exact ⟨by rw [HF.out]; rfl, HK.out.then' (HK5.out.then' (HKr.out.then' HK7.out))⟩
                    | true =>
                      cases s4 with
                      | false =>
                        have HF : Seal (r = false) := ⟨HBAD.out (by simp only [sameN, HS4.out, Bool.and_false])⟩
                        clear e1 e2
                        go_wp2_with (first | (go_at_call 27; with_reducible refine (SameWords_R (v := .slice xwa xwn xwc) (u := .slice ywa ywn ywc) (HXW.out.keep HKQ.out) (HYW.out.keep HKQ.out) HLW.out).mono ?_; rintro e w7 ⟨rfl, hk⟩; rw [HS3.out]; replace x3 := keepc hk x3; replace y3 := keepc hk y3; have HK7 : Seal (Keep Nope wr w7) := ⟨HKQ.out.then' hk⟩; clear hk) | (go_at_call 26; with_reducible refine (SameInts_R (v := .slice xra xrn xrc) (u := .slice yra yrn yrc) (HXR.out.keep HK7.out) (HYR.out.keep HK7.out) HLR.out).mono ?_; rintro e w8 ⟨rfl, hk⟩; rw [HS4.out]; have HK8 : Seal (Keep Nope wr w8) := ⟨HK7.out.then' hk⟩; clear hk))
                        go_ret
                        exact ⟨by rw [HF.out]; rfl, HK.out.then' (HK5.out.then' (HKr.out.then' HK8.out))⟩
                      | true =>
                        have HE2 : Seal (∀ i, i < j + 1 → sameN (ans.getD i nodeZ) (bns.getD i nodeZ) = true) := ⟨fun i hi => by
                          by_cases e : i = j
                          · rw [e, HXg.out, HYg.out]
                            simp only [sameN, HS3.out, HS4.out, decide_eq_true e1, decide_eq_true e2, Bool.and_true]
                          · exact HE.out i (by omega)⟩
                        clear e1 e2
                        go_wp2_with (first | (go_at_call 27; with_reducible refine (SameWords_R (v := .slice xwa xwn xwc) (u := .slice ywa ywn ywc) (HXW.out.keep HKQ.out) (HYW.out.keep HKQ.out) HLW.out).mono ?_; rintro e w7 ⟨rfl, hk⟩; rw [HS3.out]; replace x3 := keepc hk x3; replace y3 := keepc hk y3; have HK7 : Seal (Keep Nope wr w7) := ⟨HKQ.out.then' hk⟩; clear hk) | (go_at_call 26; with_reducible refine (SameInts_R (v := .slice xra xrn xrc) (u := .slice yra yrn yrc) (HXR.out.keep HK7.out) (HYR.out.keep HK7.out) HLR.out).mono ?_; rintro e w8 ⟨rfl, hk⟩; rw [HS4.out]; have HK8 : Seal (Keep Nope wr w8) := ⟨HK7.out.then' hk⟩; clear hk))
                        exact ⟨⟨j + 1, by omega, by go_num, HE2, HKr.out.then' HK8.out⟩, by simp only [intOf]; omega⟩
                  · have q2 : (xl != yl) = true := by simp [e2]
                    have HF : Seal (r = false) := ⟨HBAD.out (by simp only [sameN, decide_eq_false e2, Bool.false_and, Bool.and_false])⟩
                    clear e1 e2
                    go_wp2
                    go_ret
                    exact ⟨by rw [HF.out]; rfl, HK.out.then' (HK5.out.then' (HKr.out.then' HKQ.out))⟩
                · have q1 : (xt != yt) = true := by simp [e1]
                  have HF : Seal (r = false) := ⟨HBAD.out (by simp only [sameN, decide_eq_false e1, Bool.false_and])⟩
                  clear e1
                  go_wp2
                  go_ret
                  exact ⟨by rw [HF.out]; rfl, HK.out.then' (HK5.out.then' (HKr.out.then' HKQ.out))⟩
            · have hjl' : ¬ (j : Int) < ann := by omega
              have HF : Seal (r = true) := ⟨by
                rw [← HR.out, sameNs, decide_eq_true]
                exact ⟨by rw [HN.out, HM.out], fun i hi => HE.out i (by rw [HN.out] at hi; omega)⟩⟩
              clear hk
              go_wp2
              go_ret
              exact ⟨by rw [HF.out]; rfl, HK.out.then' (HK5.out.then' HKr.out)⟩
  · have hl1 : ((ann : Int) != (bnn : Int)) = true := by simp; omega
    rw [show sameNs ans bns = false from decide_eq_false fun h => hle (by rw [← HN.out, ← HM.out, h.1]), Bool.false_and]
    clear hle
    go_enter Tryd.func14, Tryd.ntmps14
    go_wp2
    go_ret
    exact ⟨rfl, HK.out⟩

end Go.Proofs.YtifdhaiihlfomaaDoor
