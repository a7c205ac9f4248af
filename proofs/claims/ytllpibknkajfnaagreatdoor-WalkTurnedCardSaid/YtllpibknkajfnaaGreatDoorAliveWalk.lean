/-
  The chapter's example of walk.
-/
import Derived.Test.YtllpibknkajfnaaGreatDoorPlayJ
import Derived.Test.YtllpibknkajfnaaGreatDoorSpaceAl
import Derived.Test.YtllpibknkajfnaaGreatDoorWalkNil
namespace Go.Proofs.YtllpibknkajfnaaGreatDoor
open Go.RowKit
set_option linter.unusedVariables false

theorem u8_nat' {n : Int} (h : (Lit.int .u8 n).wf = true) : ∃ k : Nat, n = (k : Nat) ∧ k < 256 := by
  have h1 : IntKind.u8.min = 0 := by decide
  have h2 : IntKind.u8.max = 255 := by decide
  simp only [Lit.wf, h1, h2, Bool.and_eq_true, decide_eq_true_eq] at h
  exact ⟨n.toNat, by omega, by omega⟩

theorem u64_nat {n : Int} (h : (Lit.int .u64 n).wf = true) : ∃ k : Nat, n = (k : Nat) ∧ k < 18446744073709551616 := by
  have h1 : IntKind.u64.min = 0 := by decide
  have h2 : IntKind.u64.max = 18446744073709551615 := by decide
  simp only [Lit.wf, h1, h2, Bool.and_eq_true, decide_eq_true_eq] at h
  exact ⟨n.toNat, by omega, by omega⟩

/-- Of the object of the example, made of the words at hand. -/
theorem SOf_al {P : Sp} (ht : P.ts = alT) (W : Nat → Nat) (f : Nat → Bool) (w : World) (h : SpaceAt w P W f) (hW : W (2 * 1) = encH 1 1 3 2) (hfit : 1 + 2 ≤ P.n / 2) (hok : CelOk P.ts ⟨1, 1, 1, 3, 2⟩) :
    Calls Tryz.prog 34 #[.pointer (some ⟨P.a, 0, none⟩), .pointer (some ⟨P.t, 0, none⟩), .int .i64 1] w fun e w' =>
      ∃ b, e = .returned (.tuple #[.pointer (some ⟨b, 0, none⟩), .int .i64 0]) ∧ ViewAt w' b P.a ⟨1, 1, 1, 3, 2⟩ 2 0 0 ∧ w.heap.size ≤ b ∧ Keep Nope w w' := by
  refine (SOf_any ((1 : Nat) : Int) P.a P.q P.n P.t P.tq W P.ts w h.fl h.ar h.tb).mono ?_
  intro e w' hp
  unfold SOfPost at hp
  rw [obj_one (c := ⟨1, 1, 1, 3, 2⟩) hok hW hfit (by decide) rfl] at hp
  obtain ⟨b, k, wds, m, h1, h2, h3, h4, h5⟩ := hp
  rw [ht] at h1
  have h1' : some (⟨2, 0, 0⟩ : TypR) = some ⟨k, wds, m⟩ := (show typeOf alT ((1 : Nat) : Int) = some ⟨2, 0, 0⟩ from by rfl).symm.trans h1
  injection h1' with h1'
  injection h1' with q1 q2 q3
  subst q1 q2 q3
  exact ⟨b, h2, h3, h4, h5⟩

theorem al_putW {P : Sp} (ht : P.ts = alT) (hn : P.n = 16) (w : World) (h : SpaceHasW w P (layGap (fun _ => 0) 0 (16 / 2)) alA) :
    Calls Tryz.prog 33 #[.pointer (some ⟨P.s, 0, none⟩), .int .i64 1, .int .i64 1, .int .i64 3] w fun e w' => e = .returned (.int .i64 0) ∧ Keep P.own w w' ∧ ∃ W, SpaceHasW w' P W alB ∧ W 5 = 0 := by
  have hR : putR P.ts (P.n / 2) alA 1 1 3 = 0 := by rw [ht, hn]; decide +kernel
  have hS : sizeS P.ts 1 3 = 2 := by rw [ht]; decide +kernel
  refine (Put_anyW 1 1 3 P alA w _ h).mono ?_
  rintro e w' ⟨rfl, k, hp⟩
  rw [hR] at hp ⊢
  refine ⟨rfl, k, ?_⟩
  rcases hp with ⟨h0, _⟩ | ⟨_, pre, c, post, j, i, l, S, e1, e2, e3, e4, e5, e6, e7, e8, e9, hp⟩
  · exact absurd rfl h0
  · obtain rfl : j = 1 := by omega
    obtain rfl : i = 1 := by omega
    obtain rfl : l = 3 := by omega
    obtain rfl : S = 2 := by omega
    cases pre with
    | nil =>
      simp only [alA, List.nil_append, List.cons.injEq] at e1
      obtain ⟨rfl, rfl⟩ := e1
      exact ⟨_, hp, by decide +kernel⟩
    | cons d pre =>
      simp [alA] at e1

theorem faultsS_none {st : Nat → Bool} {cs : List Cel} : ∀ {j : Nat}, (∀ i, i < j → st i = startOf cs i) → faultsS st cs j = []
  | 0, _ => rfl
  | j + 1, h => by
    rw [faultsS_succ, faultsS_none (fun i hi => h i (by omega)), List.nil_append]
    unfold faultS
    rw [h j (by omega)]
    cases startOf cs j <;> rfl

theorem al_refs {W : Nat → Nat} (h3 : W 3 = 1048578) (h4 : W 4 = 1048580) (h5 : W 5 = 0) : refsW alT W (objsOf alB) = [(1, 0, 1048578), (1, 1, 1048580), (1, 2, 0)] := by
  have e1 : objsOf alB = [⟨1, 1, 1, 3, 2⟩] := by decide +kernel
  have e2 : refsC alT ⟨1, 1, 1, 3, 2⟩ = [0, 1, 2] := by decide +kernel
  rw [e1]
  unfold refsW
  simp only [List.flatMap_cons, List.flatMap_nil, List.append_nil, e2, List.map_cons, List.map_nil]
  rw [h3, h4, h5]

theorem al_faults {W : Nat → Nat} {f : Nat → Bool} (h3 : W 3 = 1048578) (h4 : W 4 = 1048580) (h5 : W 5 = 0) (hf : ∀ i, i < 8 → f i = startOf alB i) : faultsL alT 8 W f alB 8 = [(1, 1, 8)] := by
  unfold faultsL
  rw [faultsS_none hf, al_refs h3 h4 h5]
  decide +kernel

theorem al_edges {W : Nat → Nat} (h3 : W 3 = 1048578) (h4 : W 4 = 1048580) (h5 : W 5 = 0) : edgesL alT W alB = [(1, 0, 1)] := by
  unfold edgesL
  rw [al_refs h3 h4 h5]
  decide +kernel

theorem RowO.of_three {w : World} {b x y z : Nat} {T : TypeId} (h : w.heap[b]? = some (.cells #[.int .i64 (x : Nat), .int .i64 (y : Nat), .int .i64 (z : Nat)] T (0, 0))) : RowO w (.slice (some ⟨b, 0, none⟩) 1 1) [(x, y, z)] := by
  refine ⟨_, _, rfl, fun i e he => ?_⟩
  obtain rfl : i = 0 := by have := (List.getElem?_eq_some_iff.1 he).1; simp at this; exact this
  simp at he
  subst he
  exact ⟨b, 0, rfl, lt_of_heap h, by simp [World.cell?, h], by simp [World.cell?, h], by simp [World.cell?, h]⟩

section
attribute [local go_sem ↓] run_eql_tally

set_option maxRecDepth 20000 in
set_option maxHeartbeats 8000000 in
theorem alive10 (w : World) (hF : FieldsAt w) : Calls Tryz.prog 8 #[] w fun e w' => e = .returned (.bool true) ∧ Keep Nope w w' := by
  have HF : Seal _ := ⟨hF⟩
  clear hF
  go_enter Tryz.func8, Tryz.ntmps8
  go_wp2_with fail
  obtain ⟨w1, hw1⟩ : ∃ w1, w1 = w.alloc (.cells #[.int .u8 2, .int .i64 0, .int .u64 0] 84) := ⟨_, rfl⟩
  rw [← hw1]
  have k1 : Keep Nope w w1 := by rw [hw1]; exact (Keep.refl _ w).alloc _
  have b1 : w1.heap[w.heap.size]? = some (.cells #[.int .u8 2, .int .i64 0, .int .u64 0] 84 (0, 0)) := by rw [hw1]; exact World.alloc_heap_new w _
  have T1 : TypsAt w1 (.slice (some ⟨w.heap.size, 0, none⟩) 1 1) alT := by
    refine ⟨_, _, rfl, fun i x hx => ?_⟩
    obtain rfl : i = 0 := by have := (List.getElem?_eq_some_iff.1 hx).1; simp [alT] at this; exact this
    simp [alT] at hx
    subst hx
    exact ⟨_, _, rfl, lt_of_heap b1, by simp [World.cell?, b1], by simp [World.cell?, b1], by simp [World.cell?, b1]⟩
  clear hw1 b1
  refine (Made_new 16 _ alT w1 (HF.out.keepN k1) T1 (by simp [alT]) (fun x hx => by simp [alT] at hx; subst hx; decide) al_tab (by decide)).mono ?_
  rintro e w2 ⟨P, rb, q, rfl, hB, hn, hts⟩
  have HS2 : Seal (SpaceHasW w2 P (layGap (fun _ => 0) 0 (16 / 2)) alA) := ⟨hB.sp⟩
  have HP : Seal _ := ⟨And.intro hts hn⟩
  have HK2 : Seal (Keep Nope w w2) := ⟨k1.then' (hB.kb.mono fun i hi h => by omega)⟩
  have HOW : Seal (∀ k, P.own k → w.heap.size ≤ k) := ⟨fun k hk => by have := hB.own k hk; have := k1.size; omega⟩
  clear T1 k1 hB hn hts
  go_wp2_with fail
  refine (al_putW HP.out.1 HP.out.2 w2 HS2.out).mono ?_
  rintro e w3 ⟨rfl, k3, W3, ⟨f, hs3, hc3, hf3⟩, h35⟩
  have HS3 : Seal _ := ⟨hs3⟩
  have HC3 : Seal _ := ⟨hc3⟩
  have HF3 : Seal _ := ⟨hf3⟩
  have HW5 : Seal _ := ⟨h35⟩
  have HK3 : Seal (Keep Nope w w3) := ⟨HK2.out.trans k3 (fun i hi h => by have := HOW.out i h; omega)⟩
  have HAr3 : Seal _ := ⟨SArena_at P W3 f w3 hs3⟩
  have HTb3 : Seal _ := ⟨STable_at P W3 f w3 hs3⟩
  have hobj : (⟨1, 1, 1, 3, 2⟩ : Cel) ∈ alB := by simp [alB]
  have hh1 : P.n / 2 = 8 := by rw [HP.out.2]
  have HOf : Seal _ := ⟨SOf_al HP.out.1 W3 f w3 hs3 (hc3.hd _ hobj) (by omega) (hc3.ok _ hobj)⟩
  clear k3 hs3 hc3 hf3 h35 hobj hh1
  go_wp2_with fail
  refine HAr3.out.mono ?_
  rintro e w3 ⟨rfl, rfl⟩
  go_wp2_with fail
  refine HTb3.out.mono ?_
  rintro e w3 ⟨rfl, rfl⟩
  go_wp2_with fail
  refine HOf.out.mono ?_
  rintro e w4 ⟨b, rfl, hv, hb, k4⟩
  have HS4 : Seal _ := ⟨HS3.out.keepN k4⟩
  have HV4 : Seal _ := ⟨hv⟩
  have HBn : Seal (¬ b = P.a ∧ ¬ b = P.q) := ⟨by have h1 := HS3.out.lt P.a (by simp [Sp.all]); have h2 := HS3.out.lt P.q (by simp [Sp.all]); omega⟩
  have HK4 : Seal _ := ⟨HK3.out.then' k4⟩
  have HSt1 : Seal _ := ⟨VStore_yes 0 1048578 b P.a P.q P.n W3 ⟨1, 1, 1, 3, 2⟩ 2 0 0 w4 HS4.out.ar hv (by decide +kernel) (by decide +kernel) (by omega) (by rw [HP.out.2]; decide)⟩
  clear hv hb k4
  go_wp2_with fail
  refine HSt1.out.mono ?_
  rintro e w5 ⟨rfl, k5, a5⟩
  have HS5 : Seal _ := ⟨HS4.out.words k5 a5⟩
  have hv5 := HV4.out.keep k5 (by rintro (h | h); exact HBn.out.1 h; exact HBn.out.2 h)
  have HSt2 : Seal _ := ⟨VStore_yes 1 1048580 b P.a P.q P.n _ ⟨1, 1, 1, 3, 2⟩ 2 0 0 w5 a5 hv5 (by decide +kernel) (by decide +kernel) (by omega) (by rw [HP.out.2]; decide)⟩
  have HOa : Seal (w.heap.size ≤ P.a ∧ w.heap.size ≤ P.q) := ⟨HOW.out P.a (by simp [Sp.own]), HOW.out P.q (by simp [Sp.own])⟩
  have HK5 : Seal (Keep Nope w w5) := ⟨HK4.out.trans k5 (fun i hi h => by have := HOa.out; omega)⟩
  clear k5 a5 hv5 HSt1
  go_wp2_with fail
  refine HSt2.out.mono ?_
  rintro e w6 ⟨rfl, k6, a6⟩
  have HK6 : Seal (Keep Nope w w6) := ⟨HK5.out.trans k6 (fun i hi h => by have := HOa.out; omega)⟩
  have hs6 := HS5.out.words k6 a6
  have hobj : (⟨1, 1, 1, 3, 2⟩ : Cel) ∈ alB := by simp [alB]
  have hc6 := (HC3.out.store hobj (k := 3) (by decide) (by decide) 1048578).store hobj (k := 4) (by decide) (by decide) 1048580
  obtain ⟨W6, hW6⟩ : ∃ W6, updW (updW W3 3 1048578) 4 1048580 = W6 := ⟨_, rfl⟩
  have q3 : W6 3 = 1048578 := by rw [← hW6]; simp [updW]
  have q4 : W6 4 = 1048580 := by rw [← hW6]; simp [updW]
  have q5 : W6 5 = 0 := by rw [← hW6]; simp [updW, HW5.out]
  rw [show 2 * (1 : Nat) + 1 + 0 = 3 from rfl, show 2 * (1 : Nat) + 1 + 1 = 4 from rfl, hW6] at hs6
  rw [hW6] at hc6
  have HS6 : Seal _ := ⟨hs6⟩
  have HC6 : Seal _ := ⟨hc6⟩
  have HQ : Seal _ := ⟨And.intro q3 (And.intro q4 q5)⟩
  have HM : Seal (∀ x ∈ P.ts, x.m < 18446744073709551616) := ⟨fun x hx => by rw [HP.out.1] at hx; simp [alT] at hx; subst hx; decide⟩
  have HN8 : Seal (P.n / 2 = 8) := ⟨by rw [HP.out.2]⟩
  have HAr : Seal (∀ w', Keep Nope w6 w' → Calls Tryz.prog 12 #[.pointer (some ⟨P.s, 0, none⟩)] w' fun e w'' => e = .returned (.pointer (some ⟨P.a, 0, none⟩)) ∧ w'' = w') := ⟨fun w' kk => SArena_at P W6 f w' (HS6.out.keepN kk)⟩
  have HTb : Seal (∀ w', Keep Nope w6 w' → Calls Tryz.prog 13 #[.pointer (some ⟨P.s, 0, none⟩)] w' fun e w'' => e = .returned (.pointer (some ⟨P.t, 0, none⟩)) ∧ w'' = w') := ⟨fun w' kk => STable_at P W6 f w' (HS6.out.keepN kk)⟩
  have HSr : Seal _ := ⟨fun w' (kk : Keep Nope w6 w') => Starts_at P W6 f w' (HS6.out.keepN kk)⟩
  have HHas : Seal (SpaceHas w6 P alB) := ⟨⟨W6, f, HS6.out, HC6.out, HF3.out⟩⟩
  clear k6 a6 hs6 hc6 hobj hW6 q3 q4 q5 HSt2
  go_wp2_with fail
  refine (HAr.out w6 (Keep.refl _ _)).mono ?_
  rintro e w6 ⟨rfl, rfl⟩
  go_wp2_with fail
  refine (HTb.out _ (Keep.refl _ _)).mono ?_
  rintro e w6 ⟨rfl, rfl⟩
  go_wp2_with fail
  refine (HSr.out _ (Keep.refl _ _)).mono ?_
  rintro e w7 ⟨sp, sq, rfl, hp, hq, hbt, k7⟩
  have HCk : Seal (Calls Tryz.prog 11 #[.pointer (some ⟨P.a, 0, none⟩), .pointer (some ⟨P.t, 0, none⟩), .pointer (some ⟨sp, 0, none⟩)] w7 fun e w' => ∃ v, e = .returned (.tuple #[v, .int .i64 0]) ∧ w'.ownsRow w7.heap.size 47 3 v 1 (flatE [(1, 1, 8)]) ∧ Keep Nope w7 w') := ⟨by
    have := Check_to P W6 f alB (P.n / 2) sp sq f w7 (HS6.out.keepN k7) HC6.out.to HM.out hbt
    rw [HN8.out, HP.out.1, al_faults HQ.out.1 HQ.out.2.1 HQ.out.2.2 (fun i hi => HF3.out i (by rw [HN8.out]; exact hi))] at this
    exact this⟩
  have HK7 : Seal _ := ⟨k7⟩
  clear hbt k7 hp hq
  go_wp2_with fail
  refine HCk.out.mono ?_
  rintro e w8 ⟨v, rfl, hv, k8⟩
  have HRv : Seal _ := ⟨RowO.of_owns (es := [(1, 1, 8)]) hv⟩
  obtain ⟨va, vc, rfl, -⟩ := HRv.out
  have HK8 : Seal _ := ⟨HK7.out.then' k8⟩
  rw [show ([(1, 1, 8)] : List (Nat × Nat × Nat)).length = 1 from rfl] at HRv ⊢
  clear hv k8
  go_wp2_with fail
  refine (HTb.out _ HK8.out).mono ?_
  rintro e w8 ⟨rfl, rfl⟩
  go_wp2_with fail
  refine (HSr.out _ HK8.out).mono ?_
  rintro e w9 ⟨sp', sq', rfl, -, -, -, k9⟩
  go_wp2_with fail
  refine (Check_nil _ _ w9).mono ?_
  rintro e w10 ⟨rfl, k10⟩
  have HK10 : Seal (Keep Nope w8 w10) := ⟨k9.then' k10⟩
  have HKA : Seal (Keep Nope w6 w10) := ⟨HK8.out.then' HK10.out⟩
  clear k9 k10
  go_wp2_with fail
  obtain ⟨wA, hwA⟩ : ∃ wA, wA = w10.alloc (.cells #[.int .i64 1, .int .i64 1, .int .i64 8] 47) := ⟨_, rfl⟩
  rw [← hwA]
  have kA : Keep Nope w10 wA := by rw [hwA]; exact (Keep.refl _ w10).alloc _
  have bA : wA.heap[w10.heap.size]? = some (.cells #[.int .i64 1, .int .i64 1, .int .i64 8] 47 (0, 0)) := by rw [hwA]; exact World.alloc_heap_new w10 _
  have HSF : Seal _ := ⟨SameFaults_yes [(1, 1, 8)] _ _ wA (HRv.out.keepN (HK10.out.then' kA)) (RowO.of_three bA) (by decide)⟩
  have HKA2 : Seal _ := ⟨HKA.out.then' kA⟩
  clear hwA kA bA
  refine HSF.out.mono ?_
  rintro e wB ⟨rfl, kB⟩
  have HKB : Seal _ := ⟨HKA2.out.then' kB⟩
  have HE : Seal (Calls Tryz.prog 32 #[.pointer (some ⟨P.s, 0, none⟩)] wB fun e w' => ∃ v, e = .returned v ∧ w'.ownsRow wB.heap.size 81 3 v 1 (flatE [(1, 0, 1)]) ∧ Keep Nope wB w') := ⟨by
    have := Edges_at P W6 f alB wB (HS6.out.keepN HKB.out) HC6.out HM.out
    rw [HP.out.1, al_edges HQ.out.1 HQ.out.2.1 HQ.out.2.2] at this
    exact this⟩
  clear kB HSF
  go_wp2_with fail
  refine HE.out.mono ?_
  rintro e wC ⟨v, rfl, hv, kC⟩
  have HRw : Seal _ := ⟨RowO.of_owns (es := [(1, 0, 1)]) hv⟩
  have HKC : Seal _ := ⟨HKB.out.then' kC⟩
  clear hv kC
  go_wp2_with fail
  obtain ⟨wD, hwD⟩ : ∃ wD, wD = wC.alloc (.cells #[.int .i64 1, .int .i64 0, .int .i64 1] 81) := ⟨_, rfl⟩
  rw [← hwD]
  have kD : Keep Nope wC wD := by rw [hwD]; exact (Keep.refl _ wC).alloc _
  have bD : wD.heap[wC.heap.size]? = some (.cells #[.int .i64 1, .int .i64 0, .int .i64 1] 81 (0, 0)) := by rw [hwD]; exact World.alloc_heap_new wC _
  have HSE : Seal _ := ⟨SameEdges_yes [(1, 0, 1)] _ _ wD (HRw.out.keepN kD) (RowO.of_three bD) (by decide)⟩
  have HKD : Seal _ := ⟨HKC.out.then' kD⟩
  clear hwD kD bD
  refine HSE.out.mono ?_
  rintro e wE ⟨rfl, kE⟩
  have HKE : Seal _ := ⟨HKD.out.then' kE⟩
  have HC : Seal (Calls Tryz.prog 15 #[.pointer (some ⟨P.s, 0, none⟩)] wE fun e w' => e = .returned (.agg #[.int .i64 1, .int .i64 1, .int .i64 1, .int .i64 2, .int .i64 5, .int .i64 1]) ∧ Keep Nope wE w') := ⟨Count_at P alB wE (HHas.out.keepN HKE.out)⟩
  clear kE HSE
  go_wp2_with fail
  refine HC.out.mono ?_
  rintro e wF ⟨rfl, kF⟩
  have HKF : Seal _ := ⟨HKE.out.then' kF⟩
  clear kF
  go_wp2_with fail
  refine (Objects_nil wF).mono ?_
  rintro e wG ⟨rfl, kG⟩
  have HKG : Seal _ := ⟨HKF.out.then' kG⟩
  clear kG
  go_wp2_with fail
  obtain ⟨wH, hwH⟩ : ∃ wH, wH = wG.alloc (.cells #[.int .u8 3] 5) := ⟨_, rfl⟩
  rw [← hwH]
  have kH : Keep Nope wG wH := by rw [hwH]; exact (Keep.refl _ wG).alloc _
  have bH : wH.heap[wG.heap.size]? = some (.cells #[.int .u8 3] 5 (0, 0)) := by rw [hwH]; exact World.alloc_heap_new wG _
  have HGp : Seal _ := ⟨Gaps_al P wG.heap.size 1 wH (HHas.out.keepN (HKG.out.then' kH)) (by simp [World.cell?, bH])⟩
  have HKH : Seal _ := ⟨HKG.out.then' kH⟩
  clear hwH kH bH
  refine HGp.out.mono ?_
  rintro e wI ⟨⟨g, cap, rfl, c0, c1⟩, kI⟩
  go_wp2_with fail
  obtain ⟨wJ, hwJ⟩ : ∃ wJ, wJ = wI.alloc (.cells #[.int .i64 3, .int .i64 5] 94) := ⟨_, rfl⟩
  rw [← hwJ]
  have kJ : Keep Nope wI wJ := by rw [hwJ]; exact (Keep.refl _ wI).alloc _
  have bJ : wJ.heap[wI.heap.size]? = some (.cells #[.int .i64 3, .int .i64 5] 94 (0, 0)) := by rw [hwJ]; exact World.alloc_heap_new wI _
  have HSN : Seal _ := ⟨SameRuns_one 3 5 g wI.heap.size cap 1 wJ (kJ.cell c0 (fun h => h)) (kJ.cell c1 (fun h => h)) (by simp [World.cell?, bJ]) (by simp [World.cell?, bJ])⟩
  have HKJ : Seal _ := ⟨(HKH.out.then' kI).then' kJ⟩
  clear hwJ kJ bJ c0 c1 kI
  refine HSN.out.mono ?_
  rintro e wK ⟨rfl, kK⟩
  go_wp2
  go_ret
  exact ⟨rfl, (HK6.out.then' HKJ.out).then' kK⟩
end

end Go.Proofs.YtllpibknkajfnaaGreatDoor
