/-
  DiffNone, beside leavers. Printed by tools/nonec.py.
-/
import Derived.Test.YtifdhaiihlfomaaDoorDiNoneL
import Derived.Test.YtifdhaiihlfomaaDoorDiArgB
namespace Go.Proofs.YtifdhaiihlfomaaDoor
open Go Go.RowKit Go.Conc
set_option linter.unusedVariables false
set_option linter.unusedSimpArgs false

/-- Where DiffNone's loop stands: what nobody reads is u. -/
def NoFr (x0 x1 p2 p3 lv mv : Value) (i : Nat) (u : Nat → Value) : Act := { tmps := #[x0, x1, p2, p3, .bool false, lv, mv, .int .i64 (i : Int), u 8, u 9, u 10, u 11, u 12, u 13, u 14, u 15, u 16, u 17, u 18, u 19, u 20, u 21, u 22, u 23, u 24, u 25, u 26, u 27, u 28, u 29, u 30, u 31, u 32, u 33, u 34, u 35, u 36, u 37, u 38, u 39, u 40, u 41, u 42, u 43, u 44, u 45, u 46, u 47, u 48, u 49, u 50, u 51, u 52, u 53, u 54, u 55, u 56, u 57, u 58, u 59, u 60, u 61, u 62, u 63, u 64, u 65, u 66, u 67, u 68, u 69, u 70, u 71, u 72, u 73, u 74, u 75, u 76, u 77, u 78, u 79, u 80, u 81, u 82, u 83, u 84, u 85, u 86, u 87, u 88, u 89, u 90, u 91, u 92, u 93, u 94, u 95, u 96, u 97, u 98, u 99, u 100, u 101, u 102, u 103, u 104, u 105, u 106, u 107, u 108, u 109, u 110, u 111, u 112, u 113, u 114, u 115, u 116, u 117, u 118, u 119, u 120], defers := [] }
def NoI (V : World) (x0 x1 p2 p3 lv mv : Value) (n : Nat) (a : Act) (w : World) : Prop := ∃ (i : Nat) (u : Nat → Value), i ≤ n ∧ Older V w ∧ a = NoFr x0 x1 p2 p3 lv mv i u
def idxOf (a : Act) : Nat := match a.tmps.getD 7 undef with | .int _ z => z.toNat | _ => 0
set_option maxRecDepth 100000 in
theorem NoI.mk {V : World} {x0 x1 p2 p3 lv mv : Value} {n i : Nat} {w : World} {y8 y9 y10 y11 y12 y13 y14 y15 y16 y17 y18 y19 y20 y21 y22 y23 y24 y25 y26 y27 y28 y29 y30 y31 y32 y33 y34 y35 y36 y37 y38 y39 y40 y41 y42 y43 y44 y45 y46 y47 y48 y49 y50 y51 y52 y53 y54 y55 y56 y57 y58 y59 y60 y61 y62 y63 y64 y65 y66 y67 y68 y69 y70 y71 y72 y73 y74 y75 y76 y77 y78 y79 y80 y81 y82 y83 y84 y85 y86 y87 y88 y89 y90 y91 y92 y93 y94 y95 y96 y97 y98 y99 y100 y101 y102 y103 y104 y105 y106 y107 y108 y109 y110 y111 y112 y113 y114 y115 y116 y117 y118 y119 y120 : Value} (hi : i ≤ n) (hO : Older V w) : NoI V x0 x1 p2 p3 lv mv n { tmps := #[x0, x1, p2, p3, .bool false, lv, mv, .int .i64 (i : Int), y8, y9, y10, y11, y12, y13, y14, y15, y16, y17, y18, y19, y20, y21, y22, y23, y24, y25, y26, y27, y28, y29, y30, y31, y32, y33, y34, y35, y36, y37, y38, y39, y40, y41, y42, y43, y44, y45, y46, y47, y48, y49, y50, y51, y52, y53, y54, y55, y56, y57, y58, y59, y60, y61, y62, y63, y64, y65, y66, y67, y68, y69, y70, y71, y72, y73, y74, y75, y76, y77, y78, y79, y80, y81, y82, y83, y84, y85, y86, y87, y88, y89, y90, y91, y92, y93, y94, y95, y96, y97, y98, y99, y100, y101, y102, y103, y104, y105, y106, y107, y108, y109, y110, y111, y112, y113, y114, y115, y116, y117, y118, y119, y120], defers := [] } w :=
  ⟨i, fun k => (#[undef, undef, undef, undef, undef, undef, undef, undef, y8, y9, y10, y11, y12, y13, y14, y15, y16, y17, y18, y19, y20, y21, y22, y23, y24, y25, y26, y27, y28, y29, y30, y31, y32, y33, y34, y35, y36, y37, y38, y39, y40, y41, y42, y43, y44, y45, y46, y47, y48, y49, y50, y51, y52, y53, y54, y55, y56, y57, y58, y59, y60, y61, y62, y63, y64, y65, y66, y67, y68, y69, y70, y71, y72, y73, y74, y75, y76, y77, y78, y79, y80, y81, y82, y83, y84, y85, y86, y87, y88, y89, y90, y91, y92, y93, y94, y95, y96, y97, y98, y99, y100, y101, y102, y103, y104, y105, y106, y107, y108, y109, y110, y111, y112, y113, y114, y115, y116, y117, y118, y119, y120] : Array Value).getD k undef, hi, hO, rfl⟩

set_option maxRecDepth 20000 in
set_option maxHeartbeats 16000000 in
theorem none_T {a b : GraphV} {w : World} (ha : GraphR w a) (hA : GraphL a) (hAb : GraphB a) (hb : GraphR w b) (hB : GraphL b) (hBb : GraphB b) :
    Drive Tryd.prog (fun a' w' => a'.status = .running ∧ ∃ v es, (∀ e ∈ es, quietE e) ∧ ∀ d, stepG Tryd.prog true a' (w'.at d) = .ended (.done v) (w'.at d) es ∧ (v = .bool true ∧ Older w (w'.at d))) (G (Frame.enter Tryd.prog 4 #[a.val, b.val] .normal) []) w := by
  obtain ⟨anv, ahv, apv, asv, ans, ahs, aps, ass⟩ := a
  obtain ⟨aha, ahn, ahc, rfl⟩ := row_form ha.hands
  obtain ⟨apa, apn, apc, rfl⟩ := row_form ha.pins
  obtain ⟨asa, asn, asc, rfl⟩ := row_form ha.stack
  obtain ⟨an, haN⟩ : ∃ N, ans.length = N := ⟨_, rfl⟩
  obtain ⟨ana, anc, e1, -⟩ := id ha.nodes
  dsimp only at e1
  subst e1
  rw [haN] at ha hA hAb ⊢
  obtain ⟨bnv, bhv, bpv, bsv, bns, bhs, bps, bss⟩ := b
  obtain ⟨bha, bhn, bhc, rfl⟩ := row_form hb.hands
  obtain ⟨bpa, bpn, bpc, rfl⟩ := row_form hb.pins
  obtain ⟨bsa, bsn, bsc, rfl⟩ := row_form hb.stack
  obtain ⟨bn, hbN⟩ : ∃ N, bns.length = N := ⟨_, rfl⟩
  obtain ⟨bna, bnc, e1, -⟩ := id hb.nodes
  dsimp only at e1
  subst e1
  rw [hbN] at hb hB hBb ⊢
  refine drive_top (R := fun v w' => v = .bool true ∧ Older w w') Tryd.func4 (by rfl) ?_ (fun v w' d h => ⟨h.1, h.2.trans (Older.rel ⟨d, rfl⟩)⟩) (by kernel_rfl)
  simp only [Tryd.ntmps4, GraphV.val, List.size_toArray, List.length_cons, List.length_nil, Nat.reduceAdd, Nat.reduceSub, Array.replicate_succ, Array.replicate_zero, List.push_toArray, List.append_toArray, List.nil_append, List.cons_append]
  refine wpD_step fun K hK => ?_
  simp only [List.size_toArray, List.length_cons, List.length_nil, Nat.reduceAdd, Nat.zero_add, List.range, List.range.loop]
  refine dop ?_
  walk_nrm
  refine dop ?_
  walk_nrm
  refine dop ?_
  walk_nrm
  obtain ⟨g, hg⟩ : ∃ g, w.heap.size = g := ⟨_, rfl⟩
  obtain ⟨p0, p1, -⟩ := heap2 (.cells #[.slice ana an anc, .slice aha ahn ahc, .slice apa apn apc, .slice asa asn asc] 25) (.cells #[.slice bna bn bnc, .slice bha bhn bhc, .slice bpa bpn bpc, .slice bsa bsn bsc] 25) hg
  have BO : Older w ((w.alloc (.cells #[.slice ana an anc, .slice aha ahn ahc, .slice apa apn apc, .slice asa asn asc] 25)).alloc (.cells #[.slice bna bn bnc, .slice bha bhn bhc, .slice bpa bpn bpc, .slice bsa bsn bsc] 25)) := (Older.alloc _ _).trans (Older.alloc _ _)
  rw [hg]
  obtain ⟨W, hW⟩ : ∃ W, (w.alloc (.cells #[.slice ana an anc, .slice aha ahn ahc, .slice apa apn apc, .slice asa asn asc] 25)).alloc (.cells #[.slice bna bn bnc, .slice bha bhn bhc, .slice bpa bpn bpc, .slice bsa bsn bsc] 25) = W := ⟨_, rfl⟩
  rw [hW] at p0 p1 BO ⊢
  clear hW hg
  have RA := ha.kb BO
  have RB := hb.kb BO
  obtain ⟨c0, c1, c2, c3⟩ := cells4 p0
  obtain ⟨d0, d1, d2, d3⟩ := cells4 p1
  clear p0 p1 ha hb
  refine opsD_nil ?_
  refine hK.out _ _ ?_
  clear hK K
  obtain ⟨la, hla⟩ : ∃ lb, longB ⟨.slice ana an anc, .slice aha ahn ahc, .slice apa apn apc, .slice asa asn asc, ans, ahs, aps, ass⟩ = lb := ⟨_, rfl⟩
  obtain ⟨lb, hlb⟩ : ∃ lb, longB ⟨.slice bna bn bnc, .slice bha bhn bhc, .slice bpa bpn bpc, .slice bsa bsn bsc, bns, bhs, bps, bss⟩ = lb := ⟨_, rfl⟩
  refine wpD_first fun KA hKA => ?_
  refine wpD_step fun K hK => ?_
  simp only [List.size_toArray, List.length_cons, List.length_nil, Nat.reduceAdd, Nat.zero_add, List.range, List.range.loop]
  refine dop ?_
  walk_nrm
  refine opsD_call rfl (by rfl) rfl (av := #[(⟨.slice ana an anc, .slice aha ahn ahc, .slice apa apn apc, .slice asa asn asc, ans, ahs, aps, ass⟩ : GraphV).val]) (by simp [go_sem, GraphV.val, mendG]) Tryd.func6 (by rfl) (by rfl) (Long_D RA hA) ?_
  rintro v w' ⟨rfl, ko⟩
  try walk_nrm
  rw [hla]
  replace c0 := ko.cell c0
  replace c1 := ko.cell c1
  replace c2 := ko.cell c2
  replace c3 := ko.cell c3
  replace d0 := ko.cell d0
  replace d1 := ko.cell d1
  replace d2 := ko.cell d2
  replace d3 := ko.cell d3
  replace RA := RA.kb ko
  replace RB := RB.kb ko
  replace BO := BO.trans ko
  clear ko
  cases la with
  | true =>
    refine dop ?_
    walk_nrm
    refine dun ?_
    walk_nrm
    refine dun ?_
    walk_nrm
    refine dop ?_
    walk_nrm
    refine opsD_nil ?_
    refine hK.out _ _ ?_
    clear hK K
    refine wpD_true rfl ?_
    refine wpD_step fun K hK => ?_
    simp only [List.size_toArray, List.length_cons, List.length_nil, Nat.reduceAdd, Nat.zero_add, List.range, List.range.loop]
    refine opsD_call rfl (by rfl) rfl (av := #[]) (by simp [go_sem, GraphV.val, mendG]) Tryd.func7 (by rfl) (by rfl) (alive_D _) ?_
    rintro v w' ⟨rfl, ka⟩
    try walk_nrm
    refine dop ?_
    walk_nrm
    refine opsD_nil ?_
    refine hK.out _ _ ?_
    clear hK K
    exact wpD_ret ⟨rfl, _, resultsC_tmp (t := 4) (by rfl) _, rfl, BO.trans ka⟩
  | false =>
    refine dop ?_
    walk_nrm
    refine dop ?_
    walk_nrm
    refine opsD_call rfl (by rfl) rfl (av := #[(⟨.slice bna bn bnc, .slice bha bhn bhc, .slice bpa bpn bpc, .slice bsa bsn bsc, bns, bhs, bps, bss⟩ : GraphV).val]) (by simp [go_sem, GraphV.val, mendG]) Tryd.func6 (by rfl) (by rfl) (Long_D RB hB) ?_
    rintro v w' ⟨rfl, ko⟩
    try walk_nrm
    rw [hlb]
    replace c0 := ko.cell c0
    replace c1 := ko.cell c1
    replace c2 := ko.cell c2
    replace c3 := ko.cell c3
    replace d0 := ko.cell d0
    replace d1 := ko.cell d1
    replace d2 := ko.cell d2
    replace d3 := ko.cell d3
    replace RA := RA.kb ko
    replace RB := RB.kb ko
    replace BO := BO.trans ko
    clear ko
    refine dop ?_
    walk_nrm
    refine opsD_nil ?_
    refine hK.out _ _ ?_
    clear hK K
    cases lb with
    | true =>
      refine wpD_true rfl ?_
      refine wpD_step fun K hK => ?_
      simp only [List.size_toArray, List.length_cons, List.length_nil, Nat.reduceAdd, Nat.zero_add, List.range, List.range.loop]
      refine opsD_call rfl (by rfl) rfl (av := #[]) (by simp [go_sem, GraphV.val, mendG]) Tryd.func7 (by rfl) (by rfl) (alive_D _) ?_
      rintro v w' ⟨rfl, ka⟩
      try walk_nrm
      refine dop ?_
      walk_nrm
      refine opsD_nil ?_
      refine hK.out _ _ ?_
      clear hK K
      exact wpD_ret ⟨rfl, _, resultsC_tmp (t := 4) (by rfl) _, rfl, BO.trans ka⟩
    | false =>
      refine wpD_false rfl (wpD_skip (hKA.out _ _ ?_))
      clear hKA KA
      have ha6 : an ≤ 600 := by
        have h := long_le hla
        dsimp only at h
        rwa [haN] at h
      have hb6 : bn ≤ 600 := by
        have h := long_le hlb
        dsimp only at h
        rwa [hbN] at h
      clear hla hlb
      obtain ⟨D, hD⟩ : ∃ D, allL ⟨.slice ana an anc, .slice aha ahn ahc, .slice apa apn apc, .slice asa asn asc, ans, ahs, aps, ass⟩ ⟨.slice bna bn bnc, .slice bha bhn bhc, .slice bpa bpn bpc, .slice bsa bsn bsc, bns, bhs, bps, bss⟩ = D := ⟨_, rfl⟩
      have hDs : allL ⟨.slice bna bn bnc, .slice bha bhn bhc, .slice bpa bpn bpc, .slice bsa bsn bsc, bns, bhs, bps, bss⟩ ⟨.slice ana an anc, .slice aha ahn ahc, .slice apa apn apc, .slice asa asn asc, ans, ahs, aps, ass⟩ = D := by rw [allL_sym]; exact hD
      have hDl : D.length ≤ 4000000000 := by rw [← hD]; exact Nat.le_trans (allL_len (B := 1048576) (by dsimp only; omega) (by dsimp only; omega) ⟨hAb.h, hAb.p, hAb.s⟩ ⟨hBb.h, hBb.p, hBb.s⟩ hAb.w hBb.w) (by decide)
      have hDi : ∀ v ∈ D, IsD v := by rw [← hD]; exact allL_isD _ _
      obtain ⟨W1, hW1⟩ : ∃ W1, w' = W1 := ⟨_, rfl⟩
      rw [hW1] at c0 c1 c2 c3 d0 d1 d2 d3 RA RB BO ⊢
      have hS0 : AgS W1 g (g + 1) (.slice ana an anc) (.slice aha ahn ahc) (.slice apa apn apc) (.slice asa asn asc) (.slice bna bn bnc) (.slice bha bhn bhc) (.slice bpa bpn bpc) (.slice bsa bsn bsc) W1 := ⟨c0, c1, c2, c3, d0, d1, d2, d3, ⟨Older.refl _⟩⟩
      clear hW1
      refine wpD_step_held (S := AgS W1 g (g + 1) (.slice ana an anc) (.slice aha ahn ahc) (.slice apa apn apc) (.slice asa asn asc) (.slice bna bn bnc) (.slice bha bhn bhc) (.slice bpa bpn bpc) (.slice bsa bsn bsc)) fun w₁ hw₁ K hKc hK => ?_
      have hS := hS0.next (Older.rel hw₁)
      replace hS := hS.next (w' := { w₁ with drawn := w₁.drawn + 1 }) ⟨Nat.le_refl _, fun _ _ => rfl, rfl, rfl⟩
      generalize ({ w₁ with drawn := w₁.drawn + 1 } : World) = Z at hS ⊢
      clear hw₁ hS0 w₁
      simp only [List.size_toArray, List.length_cons, List.length_nil, Nat.reduceAdd, Nat.zero_add]
      refine dany 0 ?_
      walk_nrm
      refine dany 1 ?_
      walk_nrm
      refine dany 3 ?_
      walk_nrm
      refine dany 4 ?_
      walk_nrm
      refine anyD_call (i := 2) (by kernel_rfl) rfl (by rfl) rfl (av := #[(⟨.slice ana an anc, .slice aha ahn ahc, .slice apa apn apc, .slice asa asn asc, ans, ahs, aps, ass⟩ : GraphV).val, (⟨.slice bna bn bnc, .slice bha bhn bhc, .slice bpa bpn bpc, .slice bsa bsn bsc, bns, bhs, bps, bss⟩ : GraphV).val]) (by simp [go_sem, GraphV.val, mendG]) Tryd.func9 (by rfl) (by rfl) (Of_D (graph_in (RA.kb hS.old) (by dsimp only; omega) (Nat.le_trans hAb.h (by decide)) (Nat.le_trans hAb.p (by decide)) (Nat.le_trans hAb.s (by decide)) (fun y hy => ⟨Nat.le_trans (hAb.w y hy).1 (by decide), Nat.le_trans (hAb.w y hy).2 (by decide)⟩)) (graph_in (RB.kb hS.old) (by dsimp only; omega) (Nat.le_trans hBb.h (by decide)) (Nat.le_trans hBb.p (by decide)) (Nat.le_trans hBb.s (by decide)) (fun y hy => ⟨Nat.le_trans (hBb.w y hy).1 (by decide), Nat.le_trans (hBb.w y hy).2 (by decide)⟩)) (by rw [hD]; exact hDl)) ?_
      rintro v w' ⟨ho, ko⟩
      rw [hD] at ho
      have RL := rowD_of_own ho hDi
      clear ho
      replace hS := hS.next ko
      refine ⟨hS, ?_⟩
      try walk_nrm
      refine anyD_call (i := 5) (by kernel_rfl) rfl (by rfl) rfl (av := #[(⟨.slice bna bn bnc, .slice bha bhn bhc, .slice bpa bpn bpc, .slice bsa bsn bsc, bns, bhs, bps, bss⟩ : GraphV).val, (⟨.slice ana an anc, .slice aha ahn ahc, .slice apa apn apc, .slice asa asn asc, ans, ahs, aps, ass⟩ : GraphV).val]) (by simp [go_sem, GraphV.val, mendG]) Tryd.func9 (by rfl) (by rfl) (Of_D (graph_in (RB.kb hS.old) (by dsimp only; omega) (Nat.le_trans hBb.h (by decide)) (Nat.le_trans hBb.p (by decide)) (Nat.le_trans hBb.s (by decide)) (fun y hy => ⟨Nat.le_trans (hBb.w y hy).1 (by decide), Nat.le_trans (hBb.w y hy).2 (by decide)⟩)) (graph_in (RA.kb hS.old) (by dsimp only; omega) (Nat.le_trans hAb.h (by decide)) (Nat.le_trans hAb.p (by decide)) (Nat.le_trans hAb.s (by decide)) (fun y hy => ⟨Nat.le_trans (hAb.w y hy).1 (by decide), Nat.le_trans (hAb.w y hy).2 (by decide)⟩)) (by rw [hDs]; exact hDl)) ?_
      rintro v w' ⟨ho, ko⟩
      rw [hDs] at ho
      have RM := rowD_of_own ho hDi
      replace RL := RL.kb ko
      clear ho
      replace hS := hS.next ko
      refine ⟨hS, ?_⟩
      try walk_nrm
      refine dany 6 ?_
      walk_nrm
      refine dany 7 ?_
      walk_nrm
      refine anyD_done (by kernel_rfl) ?_ _
      refine hK.out _ _ ?_
      clear hK hKc K
      have ko := hS.old
      replace c0 := ko.cell c0
      replace c1 := ko.cell c1
      replace c2 := ko.cell c2
      replace c3 := ko.cell c3
      replace d0 := ko.cell d0
      replace d1 := ko.cell d1
      replace d2 := ko.cell d2
      replace d3 := ko.cell d3
      replace RA := RA.kb ko
      replace RB := RB.kb ko
      replace BO := BO.trans ko
      clear hS ko
      obtain ⟨da, dc, rfl, hrl⟩ := id RL
      obtain ⟨ea, ec, rfl, -⟩ := id RM
      clear hrl
      obtain ⟨n, hn⟩ : ∃ n, D.length = n := ⟨_, rfl⟩
      rw [hn] at RL RM hDl ⊢
      obtain ⟨q, hq⟩ : ∃ q : Bool, sameG ⟨.slice ana an anc, .slice aha ahn ahc, .slice apa apn apc, .slice asa asn asc, ans, ahs, aps, ass⟩ ⟨.slice bna bn bnc, .slice bha bhn bhc, .slice bpa bpn bpc, .slice bsa bsn bsc, bns, bhs, bps, bss⟩ = q := ⟨_, rfl⟩
      have hq2 : ((n : Int) == 0) = q := by
        have h1 := allL_nil ⟨.slice ana an anc, .slice aha ahn ahc, .slice apa apn apc, .slice asa asn asc, ans, ahs, aps, ass⟩ ⟨.slice bna bn bnc, .slice bha bhn bhc, .slice bpa bpn bpc, .slice bsa bsn bsc, bns, bhs, bps, bss⟩
        rw [hD, hq] at h1
        have h2 : D = [] ↔ n = 0 := by rw [← hn]; exact List.length_eq_zero_iff.symm
        cases q <;> simp_all
      refine wpD_first fun KA hKA => ?_
      refine wpD_step fun K hK => ?_
      simp only [List.size_toArray, List.length_cons, List.length_nil, Nat.reduceAdd, Nat.zero_add, List.range, List.range.loop]
      refine dop ?_
      walk_nrm
      refine dop ?_
      walk_nrm
      refine opsD_call rfl (by rfl) rfl (av := #[.slice da n dc, .slice ea n ec]) (by simp [go_sem, GraphV.val, mendG]) Tryd.func8 (by rfl) (by rfl) (SameD_D RL RM (by omega)) ?_
      rintro v w' ⟨rfl, ko⟩
      try walk_nrm
      replace c0 := ko.cell c0
      replace c1 := ko.cell c1
      replace c2 := ko.cell c2
      replace c3 := ko.cell c3
      replace d0 := ko.cell d0
      replace d1 := ko.cell d1
      replace d2 := ko.cell d2
      replace d3 := ko.cell d3
      replace RA := RA.kb ko
      replace RB := RB.kb ko
      replace BO := BO.trans ko
      replace RL := RL.kb ko
      replace RM := RM.kb ko
      clear ko
      refine dop ?_
      walk_nrm
      refine dop ?_
      walk_nrm
      refine dop ?_
      walk_nrm
      refine dop ?_
      walk_nrm
      refine dop ?_
      walk_nrm
      refine dop ?_
      walk_nrm
      refine dop ?_
      walk_nrm
      refine opsD_call rfl (by rfl) rfl (av := #[(⟨.slice ana an anc, .slice aha ahn ahc, .slice apa apn apc, .slice asa asn asc, ans, ahs, aps, ass⟩ : GraphV).val, (⟨.slice bna bn bnc, .slice bha bhn bhc, .slice bpa bpn bpc, .slice bsa bsn bsc, bns, bhs, bps, bss⟩ : GraphV).val]) (by simp [go_sem, GraphV.val, mendG]) Tryd.func19 (by rfl) (by rfl) (SameG_D RA RB hA) ?_
      rintro v w' ⟨rfl, ko⟩
      try walk_nrm
      rw [hq]
      replace c0 := ko.cell c0
      replace c1 := ko.cell c1
      replace c2 := ko.cell c2
      replace c3 := ko.cell c3
      replace d0 := ko.cell d0
      replace d1 := ko.cell d1
      replace d2 := ko.cell d2
      replace d3 := ko.cell d3
      replace RA := RA.kb ko
      replace RB := RB.kb ko
      replace BO := BO.trans ko
      replace RL := RL.kb ko
      replace RM := RM.kb ko
      clear ko
      refine dop ?_
      walk_nrm
      refine dop ?_
      walk_nrm
      refine opsD_nil ?_
      refine hK.out _ _ ?_
      clear hK K
      clear hq hq2
      refine wpD_false rfl (wpD_skip (hKA.out _ _ ?_))
      clear hKA KA
      refine wpD_first fun KR hKR => ?_
      refine wpD_step fun K hK => ?_
      simp only [List.size_toArray, List.length_cons, List.length_nil, Nat.reduceAdd, Nat.zero_add, List.range, List.range.loop]
      refine dop ?_
      walk_nrm
      refine opsD_nil ?_
      refine hK.out _ _ ?_
      clear hK K
      refine wpD_block ?_
      obtain ⟨V, hV⟩ : ∃ V, w' = V := ⟨_, rfl⟩
      rw [hV] at c0 c1 c2 c3 d0 d1 d2 d3 RA RB BO RL ⊢
      clear hV RM
      refine wpD_loop (fun a w => NoI V (.agg #[.slice ana an anc, .slice aha ahn ahc, .slice apa apn apc, .slice asa asn asc]) (.agg #[.slice bna bn bnc, .slice bha bhn bhc, .slice bpa bpn bpc, .slice bsa bsn bsc]) (.pointer (some ⟨g, 0, none⟩)) (.pointer (some ⟨g + 1, 0, none⟩)) (.slice da n dc) (.slice ea n ec) n a w) (fun a _ => n - idxOf a) (NoI.mk (i := 0) (Nat.zero_le _) (Older.refl _)) ?_
      rintro a w2 ⟨i, u, hi, hO, rfl⟩
      dsimp only [NoFr]
      refine wpD_first fun KB hKB => ?_
      by_cases hin : i < n
      · skip
        have hin' : (i : Int) < (n : Int) := by omega
        obtain ⟨da', dc', e1, hx⟩ := id RL
        injection e1 with e1 e2 e3
        obtain ⟨x, hxi⟩ : ∃ x, D[i]? = some x := ⟨_, List.getElem?_eq_getElem (by omega)⟩
        obtain ⟨lg, kd, nj, kk, e4, hxe, -, l0, l1, -⟩ := hx i x hxi
        rw [e4] at e1
        subst e1
        clear hx e2 e3 e4
        have l0' := hO.cell l0; have l1' := hO.cell l1; have c0' := hO.cell c0; have d0' := hO.cell d0
        refine wpD_step fun K hK => ?_
        simp only [List.size_toArray, List.length_cons, List.length_nil, Nat.reduceAdd, Nat.zero_add, List.range, List.range.loop]
        refine dop ?_
        walk_nrm
        refine dop ?_
        walk_nrm
        refine dop ?_
        walk_nrm
        refine dop ?_
        walk_nrm
        refine opsD_nil ?_
        refine hK.out _ _ ?_
        clear hK K
        refine wpD_true rfl (wpD_skip (hKB.out _ _ ?_))
        clear hKB KB
        refine wpD_first fun KC hKC => ?_
        refine wpD_block ?_
        refine wpD_first fun KD hKD => ?_
        by_cases hk : kd = 1
        · subst hk
          obtain ⟨kd', n', k', e1, e2⟩ := allL_kind _ _ x (by rw [hD]; exact List.mem_of_getElem? hxi)
          rw [hxe] at e1
          unfold dV at e1
          injection e1 with e1
          simp only [Array.mk.injEq, List.cons.injEq, Value.int.injEq, true_and, and_true] at e1
          obtain ⟨e3, e4, -⟩ := e1
          obtain rfl : nj = n' := by omega
          obtain ⟨hja, hjb, hne⟩ := e2 e3.symm
          dsimp only at hja hjb hne
          rw [haN] at hja
          rw [hbN] at hjb
          clear e3 e4
          have n0 : ¬ (nj : Int) < 0 := by omega
          have na : ¬ (an : Int) ≤ (nj : Int) := by omega
          have nb : ¬ (bn : Int) ≤ (nj : Int) := by omega
          refine wpD_step_held (S := fun w' => w'.cell? ⟨lg, i * 3, none⟩ = some (.int .u8 1) ∧ w'.cell? ⟨lg, i * 3 + 1, none⟩ = some (.int .i64 (nj : Int)) ∧ w'.cell? ⟨g, 0, none⟩ = some (.slice ana an anc) ∧ w'.cell? ⟨g + 1, 0, none⟩ = some (.slice bna bn bnc)) fun w₁ hw₁ K hKc hK => ?_
          obtain ⟨Z, hZ⟩ : ∃ Z, ({ w₁ with drawn := w₁.drawn + 1 } : World) = Z := ⟨_, rfl⟩
          have kz : Older w2 Z := by rw [← hZ]; exact (Older.rel hw₁).trans ⟨Nat.le_refl _, fun _ _ => rfl, rfl, rfl⟩
          rw [hZ]
          clear hw₁ hZ w₁
          have hS : (fun w' => w'.cell? ⟨lg, i * 3, none⟩ = some (.int .u8 1) ∧ w'.cell? ⟨lg, i * 3 + 1, none⟩ = some (.int .i64 (nj : Int)) ∧ w'.cell? ⟨g, 0, none⟩ = some (.slice ana an anc) ∧ w'.cell? ⟨g + 1, 0, none⟩ = some (.slice bna bn bnc)) Z := ⟨kz.cell l0', kz.cell l1', kz.cell c0', kz.cell d0'⟩
          simp only [List.size_toArray, List.length_cons, List.length_nil, Nat.reduceAdd, Nat.zero_add]
          refine danyS 0 ?_
          walk_nrm
          refine danyS 1 ?_
          walk_nrm
          refine danyS 2 ?_
          walk_nrm
          refine danyS 3 ?_
          walk_nrm
          refine danyS 4 ?_
          walk_nrm
          refine danyS 5 ?_
          walk_nrm
          refine danyS 6 ?_
          walk_nrm
          refine danyS 7 ?_
          walk_nrm
          refine danyS 8 ?_
          walk_nrm
          refine danyS 9 ?_
          walk_nrm
          refine danyS 10 ?_
          walk_nrm
          refine danyS 11 ?_
          walk_nrm
          refine danyS 12 ?_
          walk_nrm
          refine danyS 13 ?_
          walk_nrm
          refine danyS 14 ?_
          walk_nrm
          refine danyS 15 ?_
          walk_nrm
          refine danyS 16 ?_
          walk_nrm
          refine danyS 17 ?_
          walk_nrm
          refine danyS 18 ?_
          walk_nrm
          refine danyS 19 ?_
          walk_nrm
          refine danyS 20 ?_
          walk_nrm
          refine danyS 21 ?_
          walk_nrm
          refine danyS 22 ?_
          walk_nrm
          refine danyS 23 ?_
          walk_nrm
          refine danyS 24 ?_
          walk_nrm
          refine danyS 25 ?_
          walk_nrm
          refine danyS 26 ?_
          walk_nrm
          refine danyS 27 ?_
          walk_nrm
          refine danyS 28 ?_
          walk_nrm
          refine danyS 29 ?_
          walk_nrm
          refine danyS 30 ?_
          walk_nrm
          refine danyS 31 ?_
          walk_nrm
          refine danyS 32 ?_
          walk_nrm
          refine danyS 33 ?_
          walk_nrm
          refine danyS 34 ?_
          walk_nrm
          refine danyS 35 ?_
          walk_nrm
          refine anyD_done (by kernel_rfl) ?_ _
          refine hK.out _ _ ?_
          replace hO := hO.trans kz
          clear hK hKc K hS kz l0' l1' c0' d0'
          refine wpD_false rfl (wpD_skip (hKD.out _ _ ?_))
          clear hKD KD
          have c0' := hO.cell c0
          have c1' := hO.cell c1
          have c2' := hO.cell c2
          have c3' := hO.cell c3
          refine wpD_step fun K hK => ?_
          simp only [List.size_toArray, List.length_cons, List.length_nil, Nat.reduceAdd, Nat.zero_add, List.range, List.range.loop]
          refine dop ?_
          walk_nrm
          obtain ⟨gc, hz⟩ : ∃ r, Z.heap.size = r := ⟨_, rfl⟩
          refine dop ?_
          walk_nrm
          have hh : (Z.alloc (.cells #[.slice none 0 0, .slice none 0 0, .slice none 0 0, .slice none 0 0] 25)).heap[gc]? = some (.cells #[.slice none 0 0, .slice none 0 0, .slice none 0 0, .slice none 0 0] 25) := by rw [← hz]; exact World.alloc_heap_new _ _
          have kk : Older Z (Z.alloc (.cells #[.slice none 0 0, .slice none 0 0, .slice none 0 0, .slice none 0 0] 25)) := Older.alloc _ _
          try rw [hz]
          obtain ⟨U, hU⟩ : ∃ U, Z.alloc (.cells #[.slice none 0 0, .slice none 0 0, .slice none 0 0, .slice none 0 0] 25) = U := ⟨_, rfl⟩
          rw [hU] at hh kk ⊢
          clear hU
          have f0 := free_of_block hh 0; have f1 := free_of_block hh 1; have f2 := free_of_block hh 2; have f3 := free_of_block hh 3
          obtain ⟨e0, e1, e2, e3⟩ := cells4 hh
          refine dops ?_
          walk_nrm
          obtain ⟨Y1, hY⟩ : ∃ V, V = World.setCell (World.setCell (World.setCell (World.setCell U ⟨gc, 0, none⟩ (.slice ana an anc)) ⟨gc, 1, none⟩ (.slice aha ahn ahc)) ⟨gc, 2, none⟩ (.slice apa apn apc)) ⟨gc, 3, none⟩ (.slice asa asn asc) := ⟨_, rfl⟩
          rw [← hY]
          obtain ⟨pg, ks⟩ := store4 hh _ _ _ _ Y1 hY
          have gcV : V.heap.size ≤ gc := by rw [← hz]; exact hO.size
          replace hO := (hO.trans kk).but ks gcV
          clear f0 f1 f2 f3 e0 e1 e2 e3 hY ks hh kk hz
          clear c0' c1' c2' c3'
          refine opsD_nil ?_
          refine hK.out _ _ ?_
          clear hK K
          have c0' := hO.cell c0
          refine wpD_step fun K hK => ?_
          simp only [List.size_toArray, List.length_cons, List.length_nil, Nat.reduceAdd, Nat.zero_add, List.range, List.range.loop]
          refine dop ?_
          walk_nrm
          refine dop ?_
          walk_nrm
          refine opsD_any (E := envD) calmD (fun _ => rfl) rfl (by rfl) (by kernel_rfl) fun w₁ hw₁ => ?_
          obtain ⟨nb, cap, Y2, hrun, own, k2⟩ := copy_run (ns := ans) (RA.kb (hO.trans (Older.rel hw₁))).nodes (by rw [haN]; omega) (by rw [haN]; omega) 22
          rw [haN] at hrun own
          refine ⟨_, Y2, hrun rfl rfl rfl rfl, ?_⟩
          walk_nrm
          replace k2 := (Older.rel hw₁).trans k2
          have gcl : gc < w₁.heap.size := Nat.lt_of_lt_of_le (lt_of_heap pg) (Older.rel hw₁).size
          have nbl := (own_block own nb rfl).1
          have gnb : nb ≠ gc := by omega
          have nbV : V.heap.size ≤ nb := Nat.le_trans (Nat.le_trans hO.size (Older.rel hw₁).size) nbl
          clear hrun hw₁ gcl
          clear c0'
          replace pg := k2.at_ pg
          replace hO := hO.trans k2
          clear k2
          refine dop ?_
          walk_nrm
          have f0 := free_of_block pg 0
          have e0 := cell_at pg (i := 0) rfl
          refine dops ?_
          walk_nrm
          obtain ⟨Y3, hY⟩ : ∃ Y, Y = Y2.setCell ⟨gc, 0, none⟩ (.slice (some ⟨nb, 0, none⟩) an cap) := ⟨_, rfl⟩
          rw [← hY]
          have ks : Keep (fun i => i = gc) Y2 Y3 := by rw [hY]; exact (Keep.refl (fun i => i = gc) Y2).setCell (fun _ => rfl) _
          replace pg : Y3.heap[gc]? = some (.cells #[.slice (some ⟨nb, 0, none⟩) an cap, .slice aha ahn ahc, .slice apa apn apc, .slice asa asn asc] 25) := by rw [hY]; exact block_setCell pg (j := 0) _
          replace hO := hO.but ks gcV
          replace own := own_keep own ks (fun b hb (e : b = gc) => gnb (by have := Option.some.inj (show some nb = some b from hb); omega))
          clear f0 e0 hY ks
          refine opsD_nil ?_
          refine hK.out _ _ ?_
          clear hK K
          obtain ⟨X, hX⟩ : ∃ X, ans[nj]? = some X := ⟨_, List.getElem?_eq_getElem (by omega)⟩
          obtain ⟨ua, uc, ue, hxx⟩ := id RA.nodes
          obtain ⟨_, _, _, _, _, _, _, _, hXr⟩ := hxx nj X hX
          obtain ⟨Y, hYb⟩ : ∃ X, bns[nj]? = some X := ⟨_, List.getElem?_eq_getElem (by omega)⟩
          obtain ⟨ba', bc', e1, hyy⟩ := id RB.nodes
          injection e1 with e1 e2 e3
          obtain ⟨bb, bo, e4, hbb, t0, -⟩ := hyy nj Y hYb
          rw [e4] at e1
          subst e1
          clear hxx hyy e2 e3 e4
          have hXg : ans.getD nj nodeZ = X := by rw [List.getD_eq_getElem?_getD, hX]; rfl
          have hYg : bns.getD nj nodeZ = Y := by rw [List.getD_eq_getElem?_getD, hYb]; rfl
          obtain ⟨xt, xl, xw, xr, xws, xrs⟩ := X
          obtain ⟨yt, yl, yw, yr, yws, yrs⟩ := Y
          obtain ⟨xwa, xwn, xwc, rfl⟩ := row_form hXr.1
          obtain ⟨xra, xrn, xrc, rfl⟩ := row_form hXr.2
          dsimp only at t0
          have q0 : Y3.cell? ⟨nb, nj * 4, none⟩ = some (.int .i64 xt) := by have := own.cellAt (nj * 4 + 0) (by omega); rw [cellsN_at ans nj 0 _ hX (by omega)] at this; exact this
          have q1 : Y3.cell? ⟨nb, nj * 4 + 1, none⟩ = some (.int .i64 xl) := by have := own.cellAt (nj * 4 + 1) (by omega); rw [cellsN_at ans nj 1 _ hX (by omega)] at this; exact this
          have q2 : Y3.cell? ⟨nb, nj * 4 + 2, none⟩ = some (.slice xwa xwn xwc) := by have := own.cellAt (nj * 4 + 2) (by omega); rw [cellsN_at ans nj 2 _ hX (by omega)] at this; exact this
          have q3 : Y3.cell? ⟨nb, nj * 4 + 3, none⟩ = some (.slice xra xrn xrc) := by have := own.cellAt (nj * 4 + 3) (by omega); rw [cellsN_at ans nj 3 _ hX (by omega)] at this; exact this
          have cg0 := cell_at pg (i := 0) rfl
          have l1' := hO.cell l1
          refine wpD_step_held (S := fun w' => w'.cell? ⟨gc, 0, none⟩ = some (.slice (some ⟨nb, 0, none⟩) an cap) ∧ w'.cell? ⟨lg, i * 3 + 1, none⟩ = some (.int .i64 (nj : Int)) ∧ w'.cell? ⟨nb, nj * 4, none⟩ = some (.int .i64 xt) ∧ w'.cell? ⟨nb, nj * 4 + 1, none⟩ = some (.int .i64 xl) ∧ w'.cell? ⟨nb, nj * 4 + 2, none⟩ = some (.slice xwa xwn xwc) ∧ w'.cell? ⟨nb, nj * 4 + 3, none⟩ = some (.slice xra xrn xrc)) fun w₁ hw₁ K hKc hK => ?_
          obtain ⟨Z, hZ⟩ : ∃ Z, ({ w₁ with drawn := w₁.drawn + 1 } : World) = Z := ⟨_, rfl⟩
          have kz : Older Y3 Z := by rw [← hZ]; exact (Older.rel hw₁).trans ⟨Nat.le_refl _, fun _ _ => rfl, rfl, rfl⟩
          rw [hZ]
          clear hw₁ hZ w₁
          have hS : (fun w' => w'.cell? ⟨gc, 0, none⟩ = some (.slice (some ⟨nb, 0, none⟩) an cap) ∧ w'.cell? ⟨lg, i * 3 + 1, none⟩ = some (.int .i64 (nj : Int)) ∧ w'.cell? ⟨nb, nj * 4, none⟩ = some (.int .i64 xt) ∧ w'.cell? ⟨nb, nj * 4 + 1, none⟩ = some (.int .i64 xl) ∧ w'.cell? ⟨nb, nj * 4 + 2, none⟩ = some (.slice xwa xwn xwc) ∧ w'.cell? ⟨nb, nj * 4 + 3, none⟩ = some (.slice xra xrn xrc)) Z := ⟨kz.cell cg0, kz.cell l1', kz.cell q0, kz.cell q1, kz.cell q2, kz.cell q3⟩
          simp only [List.size_toArray, List.length_cons, List.length_nil, Nat.reduceAdd, Nat.zero_add]
          refine danyS 0 ?_
          walk_nrm
          refine danyS 1 ?_
          walk_nrm
          refine danyS 2 ?_
          walk_nrm
          refine danyS 3 ?_
          walk_nrm
          refine danyS 4 ?_
          walk_nrm
          refine danyS 5 ?_
          walk_nrm
          refine danyS 6 ?_
          walk_nrm
          refine danyS 7 ?_
          walk_nrm
          refine danyS 8 ?_
          walk_nrm
          replace own := own_kb own kz
          replace pg := kz.at_ pg
          replace hO := hO.trans kz
          clear kz q0 q1 q2 q3 cg0
          clear l1'
          obtain ⟨gy, hz⟩ : ∃ r, Z.heap.size = r := ⟨_, rfl⟩
          refine dturn 9 ?_ ?_
          rotate_left
          · obtain ⟨s1, s2, s3, s4, s5, s6⟩ := hS
            have kk := Older.alloc Z (.cells #[.int .i64 0, .int .i64 0, .slice none 0 0, .slice none 0 0] 41)
            exact ⟨kk.cell s1, kk.cell s2, kk.cell s3, kk.cell s4, kk.cell s5, kk.cell s6⟩
          walk_nrm
          have hh : (Z.alloc (.cells #[.int .i64 0, .int .i64 0, .slice none 0 0, .slice none 0 0] 41)).heap[gy]? = some (.cells #[.int .i64 0, .int .i64 0, .slice none 0 0, .slice none 0 0] 41) := by rw [← hz]; exact World.alloc_heap_new _ _
          have kk : Older Z (Z.alloc (.cells #[.int .i64 0, .int .i64 0, .slice none 0 0, .slice none 0 0] 41)) := Older.alloc _ _
          try rw [hz]
          obtain ⟨U, hU⟩ : ∃ U, Z.alloc (.cells #[.int .i64 0, .int .i64 0, .slice none 0 0, .slice none 0 0] 41) = U := ⟨_, rfl⟩
          rw [hU] at hh kk ⊢
          have f0 := free_of_block hh 0; have f1 := free_of_block hh 1; have f2 := free_of_block hh 2; have f3 := free_of_block hh 3
          obtain ⟨e0, e1, e2, e3⟩ := cells4 hh
          have gyc : gc ≠ gy := by have := lt_of_heap pg; omega
          have gyn : nb ≠ gy := by have := (own_block own nb rfl).2.1; omega
          have gyV : V.heap.size ≤ gy := by rw [← hz]; exact hO.size
          have lgy : lg ≠ gy := by have : lg < V.heap.size := cell_lt l1; omega
          obtain ⟨Y4, hY⟩ : ∃ V, V = World.setCell (World.setCell (World.setCell (World.setCell U ⟨gy, 0, none⟩ (.int .i64 xt)) ⟨gy, 1, none⟩ (.int .i64 xl)) ⟨gy, 2, none⟩ (.slice xwa xwn xwc)) ⟨gy, 3, none⟩ (.slice xra xrn xrc) := ⟨_, rfl⟩
          obtain ⟨py, ks⟩ := store4 hh _ _ _ _ Y4 hY
          have hSn : (fun w' => w'.cell? ⟨gc, 0, none⟩ = some (.slice (some ⟨nb, 0, none⟩) an cap) ∧ w'.cell? ⟨lg, i * 3 + 1, none⟩ = some (.int .i64 (nj : Int)) ∧ w'.cell? ⟨nb, nj * 4, none⟩ = some (.int .i64 xt) ∧ w'.cell? ⟨nb, nj * 4 + 1, none⟩ = some (.int .i64 xl) ∧ w'.cell? ⟨nb, nj * 4 + 2, none⟩ = some (.slice xwa xwn xwc) ∧ w'.cell? ⟨nb, nj * 4 + 3, none⟩ = some (.slice xra xrn xrc)) Y4 := by
            obtain ⟨s1, s2, s3, s4, s5, s6⟩ := hS
            exact ⟨ks.cell (kk.cell s1) gyc, ks.cell (kk.cell s2) lgy, ks.cell (kk.cell s3) gyn, ks.cell (kk.cell s4) gyn, ks.cell (kk.cell s5) gyn, ks.cell (kk.cell s6) gyn⟩
          refine dturnS (w' := Y4) 10 ?_ hSn hKc rfl (by rw [hY]; go_simp) (by kernel_rfl) (by kernel_rfl) (by kernel_rfl) (by rw [hY]; rfl)
          walk_nrm
          refine anyD_done (by kernel_rfl) ?_ _
          refine hK.out _ _ ?_
          replace own := own_keep (own_kb own kk) ks (fun b hb (e : b = gy) => gyn (by have := Option.some.inj (show some nb = some b from hb); omega))
          replace pg := ks.at_ (kk.at_ pg) gyc
          replace hO := (hO.trans kk).but ks gyV
          clear f0 f1 f2 f3 e0 e1 e2 e3 hY ks hh kk hz hS hSn hU hK hKc K
          have d0' := hO.cell d0
          have l1' := hO.cell l1
          have t0' := hO.cell t0
          refine wpD_step_held (S := fun w' => w'.cell? ⟨g + 1, 0, none⟩ = some (.slice (some ⟨bb, bo, none⟩) bn bnc) ∧ w'.cell? ⟨lg, i * 3 + 1, none⟩ = some (.int .i64 (nj : Int)) ∧ w'.cell? ⟨bb, bo + nj * 4, none⟩ = some (.int .i64 yt)) fun w₁ hw₁ K hKc hK => ?_
          obtain ⟨Z, hZ⟩ : ∃ Z, ({ w₁ with drawn := w₁.drawn + 1 } : World) = Z := ⟨_, rfl⟩
          have kz : Older Y4 Z := by rw [← hZ]; exact (Older.rel hw₁).trans ⟨Nat.le_refl _, fun _ _ => rfl, rfl, rfl⟩
          rw [hZ]
          clear hw₁ hZ w₁
          have hS : (fun w' => w'.cell? ⟨g + 1, 0, none⟩ = some (.slice (some ⟨bb, bo, none⟩) bn bnc) ∧ w'.cell? ⟨lg, i * 3 + 1, none⟩ = some (.int .i64 (nj : Int)) ∧ w'.cell? ⟨bb, bo + nj * 4, none⟩ = some (.int .i64 yt)) Z := ⟨kz.cell d0', kz.cell l1', kz.cell t0'⟩
          simp only [List.size_toArray, List.length_cons, List.length_nil, Nat.reduceAdd, Nat.zero_add]
          refine danyS 0 ?_
          walk_nrm
          refine danyS 1 ?_
          walk_nrm
          refine danyS 2 ?_
          walk_nrm
          refine danyS 3 ?_
          walk_nrm
          refine danyS 4 ?_
          walk_nrm
          refine danyS 5 ?_
          walk_nrm
          refine danyS 6 ?_
          walk_nrm
          refine danyS 7 ?_
          walk_nrm
          refine danyS 8 ?_
          walk_nrm
          refine danyS 9 ?_
          walk_nrm
          refine danyS 10 ?_
          walk_nrm
          replace own := own_kb own kz; replace pg := kz.at_ pg; replace py := kz.at_ py; replace hO := hO.trans kz
          clear kz
          clear d0' l1' t0'
          have f0 := free_of_block py 0; have e0 := cell_at py (i := 0) rfl
          have bbg : bb ≠ gy := by omega
          have dgy : g + 1 ≠ gy := by have : g + 1 < V.heap.size := cell_lt d0; omega
          obtain ⟨Y5, hY⟩ : ∃ Y, Y = Z.setCell ⟨gy, 0, none⟩ (.int .i64 yt) := ⟨_, rfl⟩
          have ks : Keep (fun i => i = gy) Z Y5 := by rw [hY]; exact (Keep.refl (fun i => i = gy) Z).setCell (fun _ => rfl) _
          replace py : Y5.heap[gy]? = some (.cells #[.int .i64 yt, .int .i64 xl, .slice xwa xwn xwc, .slice xra xrn xrc] 41) := by rw [hY]; exact block_setCell py (j := 0) _
          have hSn : (fun w' => w'.cell? ⟨g + 1, 0, none⟩ = some (.slice (some ⟨bb, bo, none⟩) bn bnc) ∧ w'.cell? ⟨lg, i * 3 + 1, none⟩ = some (.int .i64 (nj : Int)) ∧ w'.cell? ⟨bb, bo + nj * 4, none⟩ = some (.int .i64 yt)) Y5 := ⟨ks.cell hS.1 dgy, ks.cell hS.2.1 lgy, ks.cell hS.2.2 bbg⟩
          refine dturnS (w' := Y5) 11 ?_ hSn hKc rfl (by rw [hY]; go_simp) (by kernel_rfl) (by kernel_rfl) (by kernel_rfl) (by rw [hY]; rfl)
          walk_nrm
          refine anyD_done (by kernel_rfl) ?_ _
          refine hK.out _ _ ?_
          replace own := own_keep own ks (fun b hb (e : b = gy) => gyn (by have := Option.some.inj (show some nb = some b from hb); omega))
          replace pg := ks.at_ pg gyc
          replace hO := hO.but ks gyV
          clear f0 e0 hY ks hS hSn hK hKc K
          have cg0 := cell_at pg (i := 0) rfl
          obtain ⟨y0, y1, y2, y3⟩ := cells4 py
          have l1' := hO.cell l1
          refine wpD_step_held (S := fun w' => w'.cell? ⟨gc, 0, none⟩ = some (.slice (some ⟨nb, 0, none⟩) an cap) ∧ w'.cell? ⟨lg, i * 3 + 1, none⟩ = some (.int .i64 (nj : Int)) ∧ w'.cell? ⟨gy, 0, none⟩ = some (.int .i64 yt) ∧ w'.cell? ⟨gy, 1, none⟩ = some (.int .i64 xl) ∧ w'.cell? ⟨gy, 2, none⟩ = some (.slice xwa xwn xwc) ∧ w'.cell? ⟨gy, 3, none⟩ = some (.slice xra xrn xrc)) fun w₁ hw₁ K hKc hK => ?_
          obtain ⟨Z, hZ⟩ : ∃ Z, ({ w₁ with drawn := w₁.drawn + 1 } : World) = Z := ⟨_, rfl⟩
          have kz : Older Y5 Z := by rw [← hZ]; exact (Older.rel hw₁).trans ⟨Nat.le_refl _, fun _ _ => rfl, rfl, rfl⟩
          rw [hZ]
          clear hw₁ hZ w₁
          have hS : (fun w' => w'.cell? ⟨gc, 0, none⟩ = some (.slice (some ⟨nb, 0, none⟩) an cap) ∧ w'.cell? ⟨lg, i * 3 + 1, none⟩ = some (.int .i64 (nj : Int)) ∧ w'.cell? ⟨gy, 0, none⟩ = some (.int .i64 yt) ∧ w'.cell? ⟨gy, 1, none⟩ = some (.int .i64 xl) ∧ w'.cell? ⟨gy, 2, none⟩ = some (.slice xwa xwn xwc) ∧ w'.cell? ⟨gy, 3, none⟩ = some (.slice xra xrn xrc)) Z := ⟨kz.cell cg0, kz.cell l1', kz.cell y0, kz.cell y1, kz.cell y2, kz.cell y3⟩
          simp only [List.size_toArray, List.length_cons, List.length_nil, Nat.reduceAdd, Nat.zero_add]
          refine danyS 0 ?_
          walk_nrm
          refine danyS 1 ?_
          walk_nrm
          refine danyS 2 ?_
          walk_nrm
          refine danyS 3 ?_
          walk_nrm
          refine danyS 4 ?_
          walk_nrm
          refine danyS 5 ?_
          walk_nrm
          refine danyS 6 ?_
          walk_nrm
          refine danyS 7 ?_
          walk_nrm
          refine danyS 8 ?_
          walk_nrm
          replace own := own_kb own kz; replace pg := kz.at_ pg; replace py := kz.at_ py; replace hO := hO.trans kz
          clear kz cg0 y0 y1 y2 y3
          clear l1'
          obtain ⟨-, -, ncs, hnc⟩ := own_block own nb rfl
          have q0 : Z.cell? ⟨nb, nj * 4, none⟩ = some (.int .i64 xt) := by have := own.cellAt (nj * 4 + 0) (by omega); rw [cellsN_at ans nj 0 _ hX (by omega)] at this; exact this
          have q1 : Z.cell? ⟨nb, nj * 4 + 1, none⟩ = some (.int .i64 xl) := by have := own.cellAt (nj * 4 + 1) (by omega); rw [cellsN_at ans nj 1 _ hX (by omega)] at this; exact this
          have q2 : Z.cell? ⟨nb, nj * 4 + 2, none⟩ = some (.slice xwa xwn xwc) := by have := own.cellAt (nj * 4 + 2) (by omega); rw [cellsN_at ans nj 2 _ hX (by omega)] at this; exact this
          have q3 : Z.cell? ⟨nb, nj * 4 + 3, none⟩ = some (.slice xra xrn xrc) := by have := own.cellAt (nj * 4 + 3) (by omega); rw [cellsN_at ans nj 3 _ hX (by omega)] at this; exact this
          have f0 := free_of_block hnc (nj * 4); have f1 := free_of_block hnc (nj * 4 + 1); have f2 := free_of_block hnc (nj * 4 + 2); have f3 := free_of_block hnc (nj * 4 + 3)
          obtain ⟨Y6, hY⟩ : ∃ V, V = World.setCell (World.setCell (World.setCell (World.setCell Z ⟨nb, nj * 4, none⟩ (.int .i64 yt)) ⟨nb, nj * 4 + 1, none⟩ (.int .i64 xl)) ⟨nb, nj * 4 + 2, none⟩ (.slice xwa xwn xwc)) ⟨nb, nj * 4 + 3, none⟩ (.slice xra xrn xrc) := ⟨_, rfl⟩
          obtain ⟨own6, ks⟩ := own_put (y := ⟨yt, xl, .slice xwa xwn xwc, .slice xra xrn xrc, xws, xrs⟩) own haN.symm hja hY
          have lgn : lg ≠ nb := by have : lg < V.heap.size := cell_lt l1; omega
          have hSn : (fun w' => w'.cell? ⟨gc, 0, none⟩ = some (.slice (some ⟨nb, 0, none⟩) an cap) ∧ w'.cell? ⟨lg, i * 3 + 1, none⟩ = some (.int .i64 (nj : Int)) ∧ w'.cell? ⟨gy, 0, none⟩ = some (.int .i64 yt) ∧ w'.cell? ⟨gy, 1, none⟩ = some (.int .i64 xl) ∧ w'.cell? ⟨gy, 2, none⟩ = some (.slice xwa xwn xwc) ∧ w'.cell? ⟨gy, 3, none⟩ = some (.slice xra xrn xrc)) Y6 := by
            obtain ⟨s1, s2, s3, s4, s5, s6⟩ := hS
            exact ⟨ks.cell s1 (Ne.symm gnb), ks.cell s2 lgn, ks.cell s3 (Ne.symm gyn), ks.cell s4 (Ne.symm gyn), ks.cell s5 (Ne.symm gyn), ks.cell s6 (Ne.symm gyn)⟩
          refine dturnS (w' := Y6) 9 ?_ hSn hKc rfl (by rw [hY]; go_simp) (by kernel_rfl) (by kernel_rfl) (by kernel_rfl) (by rw [hY]; rfl)
          walk_nrm
          refine anyD_done (by kernel_rfl) ?_ _
          refine hK.out _ _ ?_
          replace pg := ks.at_ pg (Ne.symm gnb)
          replace hO := hO.but ks nbV
          clear f0 f1 f2 f3 q0 q1 q2 q3 hY ks hS hSn hK hKc K own hnc py
          have hset : (mendG ⟨.slice ana an anc, .slice aha ahn ahc, .slice apa apn apc, .slice asa asn asc, ans, ahs, aps, ass⟩ ⟨.slice (some ⟨bb, bo, none⟩) bn bnc, .slice bha bhn bhc, .slice bpa bpn bpc, .slice bsa bsn bsc, bns, bhs, bps, bss⟩ nj (.slice (some ⟨nb, 0, none⟩) an cap)).ns = ans.set nj (⟨yt, xl, .slice xwa xwn xwc, .slice xra xrn xrc, xws, xrs⟩ : NodeV) := by
            show ans.set nj { ans.getD nj nodeZ with ty := (bns.getD nj nodeZ).ty } = _
            rw [hXg, hYg]
          have RC : GraphR Y6 (mendG ⟨.slice ana an anc, .slice aha ahn ahc, .slice apa apn apc, .slice asa asn asc, ans, ahs, aps, ass⟩ ⟨.slice (some ⟨bb, bo, none⟩) bn bnc, .slice bha bhn bhc, .slice bpa bpn bpc, .slice bsa bsn bsc, bns, bhs, bps, bss⟩ nj (.slice (some ⟨nb, 0, none⟩) an cap)) := by
            have h1 := RA.kb hO
            refine ⟨?_, h1.hands, h1.pins, h1.stack⟩
            rw [hset]
            refine nodes_of_own (by rw [List.length_set, haN]; exact own6) fun n hn => ?_
            rcases List.mem_or_eq_of_mem_set hn with h | rfl
            · exact nodes_each h1.nodes n h
            · exact ⟨hXr.1.kb hO, hXr.2.kb hO⟩
          have hlenm := mend_len ⟨.slice ana an anc, .slice aha ahn ahc, .slice apa apn apc, .slice asa asn asc, ans, ahs, aps, ass⟩ ⟨.slice (some ⟨bb, bo, none⟩) bn bnc, .slice bha bhn bhc, .slice bpa bpn bpc, .slice bsa bsn bsc, bns, bhs, bps, bss⟩ nj (.slice (some ⟨nb, 0, none⟩) an cap) (by dsimp only; omega) (by dsimp only; omega) hne
          rw [hD, hn] at hlenm
          have hrows : ∀ y ∈ (mendG ⟨.slice ana an anc, .slice aha ahn ahc, .slice apa apn apc, .slice asa asn asc, ans, ahs, aps, ass⟩ ⟨.slice (some ⟨bb, bo, none⟩) bn bnc, .slice bha bhn bhc, .slice bpa bpn bpc, .slice bsa bsn bsc, bns, bhs, bps, bss⟩ nj (.slice (some ⟨nb, 0, none⟩) an cap)).ns, y.ws.length ≤ 1048576 ∧ y.rs.length ≤ 1048576 := by
            rw [hset]
            intro y hy
            rcases List.mem_or_eq_of_mem_set hy with h | rfl
            · exact hAb.w y h
            · have h := hAb.w _ (List.mem_of_getElem? hX)
              exact h
          have hcn : (mendG ⟨.slice ana an anc, .slice aha ahn ahc, .slice apa apn apc, .slice asa asn asc, ans, ahs, aps, ass⟩ ⟨.slice (some ⟨bb, bo, none⟩) bn bnc, .slice bha bhn bhc, .slice bpa bpn bpc, .slice bsa bsn bsc, bns, bhs, bps, bss⟩ nj (.slice (some ⟨nb, 0, none⟩) an cap)).ns.length ≤ 600 := by rw [hset, List.length_set]; omega
          have RB6 := RB.kb hO
          obtain ⟨cg0, cg1, cg2, cg3⟩ := cells4 pg
          have d0' := hO.cell d0
          have d1' := hO.cell d1
          have d2' := hO.cell d2
          have d3' := hO.cell d3
          refine wpD_step fun K hK => ?_
          simp only [List.size_toArray, List.length_cons, List.length_nil, Nat.reduceAdd, Nat.zero_add, List.range, List.range.loop]
          refine dop ?_
          walk_nrm
          refine dop ?_
          walk_nrm
          refine opsD_call rfl (by rfl) rfl (av := #[(mendG ⟨.slice ana an anc, .slice aha ahn ahc, .slice apa apn apc, .slice asa asn asc, ans, ahs, aps, ass⟩ ⟨.slice (some ⟨bb, bo, none⟩) bn bnc, .slice bha bhn bhc, .slice bpa bpn bpc, .slice bsa bsn bsc, bns, bhs, bps, bss⟩ nj (.slice (some ⟨nb, 0, none⟩) an cap)).val, (⟨.slice (some ⟨bb, bo, none⟩) bn bnc, .slice bha bhn bhc, .slice bpa bpn bpc, .slice bsa bsn bsc, bns, bhs, bps, bss⟩ : GraphV).val]) (by simp [go_sem, GraphV.val, mendG]) Tryd.func9 (by rfl) (by rfl) (Of_D (graph_in RC (Nat.le_trans hcn (by decide)) (Nat.le_trans hAb.h (by decide)) (Nat.le_trans hAb.p (by decide)) (Nat.le_trans hAb.s (by decide)) (fun y hy => ⟨Nat.le_trans (hrows y hy).1 (by decide), Nat.le_trans (hrows y hy).2 (by decide)⟩)) (graph_in RB6 (by dsimp only; omega) (Nat.le_trans hBb.h (by decide)) (Nat.le_trans hBb.p (by decide)) (Nat.le_trans hBb.s (by decide)) (fun y hy => ⟨Nat.le_trans (hBb.w y hy).1 (by decide), Nat.le_trans (hBb.w y hy).2 (by decide)⟩)) (by omega)) ?_
          rintro v w' ⟨ho, ko⟩
          try walk_nrm
          obtain ⟨ma, mc, rfl⟩ := own_form ho
          obtain ⟨m, hm⟩ : ∃ m, (allL (mendG ⟨.slice ana an anc, .slice aha ahn ahc, .slice apa apn apc, .slice asa asn asc, ans, ahs, aps, ass⟩ ⟨.slice (some ⟨bb, bo, none⟩) bn bnc, .slice bha bhn bhc, .slice bpa bpn bpc, .slice bsa bsn bsc, bns, bhs, bps, bss⟩ nj (.slice (some ⟨nb, 0, none⟩) an cap)) ⟨.slice (some ⟨bb, bo, none⟩) bn bnc, .slice bha bhn bhc, .slice bpa bpn bpc, .slice bsa bsn bsc, bns, bhs, bps, bss⟩).length = m := ⟨_, rfl⟩
          rw [hm] at hlenm ⊢
          clear ho RC hset hrows hm hcn
          have e9 : IntKind.i64.wrap ((n : Int) - 1) = (m : Int) := by rw [IntKind.wrap_i64]; omega
          have e10 : ((m : Int) == (n : Int) - 1) = true := by rw [beq_iff_eq]; omega
          have e11 : ((m : Int) != (n : Int) - 1) = false := by rw [bne, e10]; rfl
          have HLM : Seal _ := ⟨hlenm⟩
          clear hlenm
          refine dop ?_
          walk_nrm
          refine dop ?_
          walk_nrm
          refine dop ?_
          walk_nrm
          refine dop ?_
          walk_nrm
          refine dop ?_
          walk_nrm
          refine opsD_nil ?_
          refine hK.out _ _ ?_
          clear hK K
          refine wpD_false rfl (wpD_skip ?_)
          show KC _ _
          refine hKC.out _ _ ?_
          have ew : IntKind.i64.wrap ((i : Int) + 1) = (i : Int) + 1 := by rw [IntKind.wrap_i64]; omega
          refine wpD_region ?_
          simp only [List.size_toArray, List.length_cons, List.length_nil, Nat.reduceAdd, Nat.zero_add, List.range, List.range.loop]
          refine dop ?_
          walk_nrm
          refine dop ?_
          walk_nrm
          refine dop ?_
          walk_nrm
          refine opsD_nil ?_
          have e8 : (i : Int) + 1 = ((i + 1 : Nat) : Int) := by omega
          rw [e8]
          refine ⟨NoI.mk (n := n) (i := i + 1) (by omega) (hO.trans ko), ?_⟩
          show n - (((i + 1 : Nat) : Int)).toNat < n - ((i : Int)).toNat
          omega
        · have hk' : (kd == 1) = false := by simpa using hk
          have hk2 : (kd != 1) = true := by rw [bne, hk']; rfl
          refine wpD_step_held (S := fun w' => w'.cell? ⟨lg, i * 3, none⟩ = some (.int .u8 kd) ∧ w'.cell? ⟨lg, i * 3 + 1, none⟩ = some (.int .i64 (nj : Int)) ∧ w'.cell? ⟨g, 0, none⟩ = some (.slice ana an anc) ∧ w'.cell? ⟨g + 1, 0, none⟩ = some (.slice bna bn bnc)) fun w₁ hw₁ K hKc hK => ?_
          obtain ⟨Z, hZ⟩ : ∃ Z, ({ w₁ with drawn := w₁.drawn + 1 } : World) = Z := ⟨_, rfl⟩
          have kz : Older w2 Z := by rw [← hZ]; exact (Older.rel hw₁).trans ⟨Nat.le_refl _, fun _ _ => rfl, rfl, rfl⟩
          rw [hZ]
          clear hw₁ hZ w₁
          have hS : (fun w' => w'.cell? ⟨lg, i * 3, none⟩ = some (.int .u8 kd) ∧ w'.cell? ⟨lg, i * 3 + 1, none⟩ = some (.int .i64 (nj : Int)) ∧ w'.cell? ⟨g, 0, none⟩ = some (.slice ana an anc) ∧ w'.cell? ⟨g + 1, 0, none⟩ = some (.slice bna bn bnc)) Z := ⟨kz.cell l0', kz.cell l1', kz.cell c0', kz.cell d0'⟩
          simp only [List.size_toArray, List.length_cons, List.length_nil, Nat.reduceAdd, Nat.zero_add]
          refine danyS 0 ?_
          walk_nrm
          refine danyS 1 ?_
          walk_nrm
          refine danyS 2 ?_
          walk_nrm
          refine danyS 3 ?_
          walk_nrm
          refine danyS 4 ?_
          walk_nrm
          refine danyS 5 ?_
          walk_nrm
          refine danyS 6 ?_
          walk_nrm
          refine dskS 7 ?_
          walk_nrm
          refine dskS 8 ?_
          walk_nrm
          refine dskS 9 ?_
          walk_nrm
          refine dskS 10 ?_
          walk_nrm
          refine dskS 11 ?_
          walk_nrm
          refine dskS 12 ?_
          walk_nrm
          refine danyS 13 ?_
          walk_nrm
          refine danyS 14 ?_
          walk_nrm
          refine dskS 15 ?_
          walk_nrm
          refine dskS 16 ?_
          walk_nrm
          refine dskS 17 ?_
          walk_nrm
          refine dskS 18 ?_
          walk_nrm
          refine dskS 19 ?_
          walk_nrm
          refine dskS 20 ?_
          walk_nrm
          refine dskS 21 ?_
          walk_nrm
          refine dskS 22 ?_
          walk_nrm
          refine dskS 23 ?_
          walk_nrm
          refine danyS 24 ?_
          walk_nrm
          refine danyS 25 ?_
          walk_nrm
          refine dskS 26 ?_
          walk_nrm
          refine dskS 27 ?_
          walk_nrm
          refine dskS 28 ?_
          walk_nrm
          refine dskS 29 ?_
          walk_nrm
          refine dskS 30 ?_
          walk_nrm
          refine dskS 31 ?_
          walk_nrm
          refine dskS 32 ?_
          walk_nrm
          refine dskS 33 ?_
          walk_nrm
          refine dskS 34 ?_
          walk_nrm
          refine danyS 35 ?_
          walk_nrm
          refine anyD_done (by kernel_rfl) ?_ _
          refine hK.out _ _ ?_
          replace hO := hO.trans kz
          clear hK hKc K hS kz
          refine wpD_true rfl (wpD_exit ?_)
          show KC _ _
          refine hKC.out _ _ ?_
          have ew : IntKind.i64.wrap ((i : Int) + 1) = (i : Int) + 1 := by rw [IntKind.wrap_i64]; omega
          refine wpD_region ?_
          simp only [List.size_toArray, List.length_cons, List.length_nil, Nat.reduceAdd, Nat.zero_add, List.range, List.range.loop]
          refine dop ?_
          walk_nrm
          refine dop ?_
          walk_nrm
          refine dop ?_
          walk_nrm
          refine opsD_nil ?_
          have e8 : (i : Int) + 1 = ((i + 1 : Nat) : Int) := by omega
          rw [e8]
          refine ⟨NoI.mk (n := n) (i := i + 1) (by omega) hO, ?_⟩
          show n - (((i + 1 : Nat) : Int)).toNat < n - ((i : Int)).toNat
          omega
      · obtain rfl : i = n := by omega
        have hin' : ¬ (i : Int) < (i : Int) := by omega
        refine wpD_step fun K hK => ?_
        simp only [List.size_toArray, List.length_cons, List.length_nil, Nat.reduceAdd, Nat.zero_add, List.range, List.range.loop]
        refine dop ?_
        walk_nrm
        refine dop ?_
        walk_nrm
        refine dop ?_
        walk_nrm
        refine dop ?_
        walk_nrm
        refine opsD_nil ?_
        refine hK.out _ _ ?_
        clear hK K
        refine wpD_false rfl (wpD_exit ?_)
        show KR _ _
        refine hKR.out _ _ ?_
        refine wpD_step fun K hK => ?_
        simp only [List.size_toArray, List.length_cons, List.length_nil, Nat.reduceAdd, Nat.zero_add, List.range, List.range.loop]
        refine opsD_call rfl (by rfl) rfl (av := #[]) (by simp [go_sem, GraphV.val, mendG]) Tryd.func7 (by rfl) (by rfl) (alive_D _) ?_
        rintro v w' ⟨rfl, ka⟩
        try walk_nrm
        refine dop ?_
        walk_nrm
        refine opsD_nil ?_
        refine hK.out _ _ ?_
        clear hK K
        exact wpD_ret ⟨rfl, _, resultsC_tmp (t := 4) (by rfl) _, rfl, (BO.trans hO).trans ka⟩

end Go.Proofs.YtifdhaiihlfomaaDoor
