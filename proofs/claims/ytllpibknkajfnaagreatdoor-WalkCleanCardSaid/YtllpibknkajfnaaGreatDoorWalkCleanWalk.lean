/-
  The law WalkClean, walked.
-/
import Derived.Test.YtllpibknkajfnaaGreatDoorAliveWalk
import Derived.Test.YtllpibknkajfnaaGreatDoorArgsA
namespace Go.Proofs.YtllpibknkajfnaaGreatDoor
open Go.RowKit
set_option linter.unusedVariables false

theorem faultsS_turn {st : Nat → Bool} {cs : List Cel} {k : Nat} (hk : st k = !startOf cs k) : ∀ {j : Nat}, k < j → (∀ i, i < j → ¬ i = k → st i = startOf cs i) → faultsS st cs j = [(k, 0, if startOf cs k = true then 3 else 9)]
  | 0, h, _ => by omega
  | j + 1, h, hst => by
    rw [faultsS_succ]
    by_cases e : k = j
    · subst e
      rw [faultsS_none (fun i hi => hst i (by omega) (by omega)), List.nil_append]
      unfold faultS
      rw [hk]
      cases startOf cs k <;> rfl
    · rw [faultsS_turn hk (by omega) (fun i hi hne => hst i (by omega) hne)]
      unfold faultS
      rw [hst j (by omega) (by omega)]
      cases startOf cs j <;> rfl

theorem faultsR_why {cs : List Cel} {xs : List (Nat × Nat × Nat)} {x : Nat × Nat × Nat} (h : x ∈ faultsR cs xs) : x.2.2 = 8 := by
  unfold faultsR at h
  rw [List.mem_flatMap] at h
  obtain ⟨y, -, hy⟩ := h
  unfold faultR at hy
  split at hy
  · simp at hy
    rw [hy]
  · cases hy

/-- Of a space nothing is wrong but references. -/
theorem faults_clean {ts : List TypR} {H : Nat} {W : Nat → Nat} {st : Nat → Bool} {cs : List Cel} (h : ∀ i, i < H → st i = startOf cs i) : faultsL ts H W st cs H = faultsR cs (refsW ts W (objsOf cs)) := by
  unfold faultsL faultsE
  rw [faultsS_none h, if_neg (Nat.lt_irrefl H)]
  rfl

theorem faults_turn {ts : List TypR} {H k : Nat} {W : Nat → Nat} {st : Nat → Bool} {cs : List Cel} (hk : k < H) (hs : st k = !startOf cs k) (h : ∀ i, i < H → ¬ i = k → st i = startOf cs i) : faultsL ts H W st cs H = (k, 0, if startOf cs k = true then 3 else 9) :: faultsR cs (refsW ts W (objsOf cs)) := by
  unfold faultsL faultsE
  rw [faultsS_turn hs hk h, if_neg (Nat.lt_irrefl H)]
  rfl

theorem cells3g {w : World} {b : Nat} {a0 a1 a2 : Value} {T : TypeId} (hb : w.heap[b]? = some (.cells #[a0, a1, a2] T (0, 0))) :
    w.cell? ⟨b, 0, none⟩ = some a0 ∧ w.cell? ⟨b, 1, none⟩ = some a1 ∧ w.cell? ⟨b, 2, none⟩ = some a2 := by
  refine ⟨?_, ?_, ?_⟩ <;> simp only [World.cell?, hb] <;> rfl

theorem RowO.tail {w : World} {b o n cap : Nat} {x : Nat × Nat × Nat} {es : List (Nat × Nat × Nat)} (h : RowO w (.slice (some ⟨b, o, none⟩) n cap) (x :: es)) : ∀ c, RowO w (.slice (some ⟨b, o + 3, none⟩) es.length c) es := by
  intro c
  obtain ⟨a, cap', hv, h⟩ := h
  injection hv with e1 e2 e3
  refine ⟨_, _, rfl, fun i y hi => ?_⟩
  obtain ⟨b', o', e4, h1, h2, h3, h4⟩ := h (i + 1) y (by simpa using hi)
  rw [e4] at e1
  simp only [Option.some.injEq, Addr.mk.injEq] at e1
  obtain ⟨rfl, rfl, -⟩ := e1
  refine ⟨b, o + 3, rfl, h1, ?_, ?_, ?_⟩
  · rw [show o + 3 + i * 3 = o + (i + 1) * 3 by omega]; exact h2
  · rw [show o + 3 + i * 3 + 1 = o + (i + 1) * 3 + 1 by omega]; exact h3
  · rw [show o + 3 + i * 3 + 2 = o + (i + 1) * 3 + 2 by omega]; exact h4

section
attribute [local go_sem ↓] run_eql_fault

set_option maxRecDepth 20000 in
set_option maxHeartbeats 16000000 in
theorem walkclean_walk (n : Int) (v1 v2 : Value) (xs : List TypR) (len : Nat) (dd gg ii nn yy : Nat → Int) (uu : Nat → Value) (mm : Nat → Nat) (t : Nat) (w : World) (hF : FieldsAt w) (h1 : TypsAt w v1 xs) (h2 : Steps6At w v2 len dd gg ii nn yy uu mm)
    (hl : xs.length ≤ 17592186044416) (hM : Masks xs) (hl2 : len ≤ 17592186044416) (hy : ∀ j, j < len → 0 ≤ yy j ∧ yy j ≤ 18446744073709551615) (hA : AtsAt w len uu mm) (ht : t < 65536) :
    Calls Tryz.prog 3 #[.int .i64 n, v1, v2, .int .u16 (t : Nat)] w fun e w' => e = .returned (.bool true) ∧ Keep Nope w w' := by
  have HF : Seal _ := ⟨hF⟩
  have HH : Seal _ := ⟨Heavy9_any n v1 v2 xs len dd gg ii nn yy uu mm w h1 h2 hl hl2⟩
  have HMd : Seal _ := ⟨Made_any n v1 xs w hF h1 hl hM⟩
  have HY : Seal _ := ⟨hy⟩
  have HAt : Seal _ := ⟨hA⟩
  have hv1 : ∃ a l c, v1 = .slice a l c := by obtain ⟨a, c, h, -⟩ := h1; exact ⟨_, _, _, h⟩
  obtain ⟨a1, l1, c1, rfl⟩ := hv1
  obtain ⟨va, vc, rfl, hx⟩ := h2
  have HX : Seal _ := ⟨hx⟩
  clear hF h1 hM hy hA hl hl2 hx
  go_enter Tryz.func3, Tryz.ntmps3
  go_wp2_with fail
  refine HH.out.mono ?_
  rintro e w2 ⟨tt, rfl, rfl, htt⟩
  cases tt with
  | true =>
    clear htt
    go_wp2_with fail
    refine (alive10 _ HF.out).mono ?_
    rintro e w3 ⟨rfl, k3⟩
    go_wp2
    go_ret
    exact ⟨rfl, k3⟩
  | false =>
    obtain ⟨-, -, q1, q2⟩ := htt rfl
    have HMm : Seal _ := ⟨q2⟩
    clear q2 htt
    go_wp2_with fail
    refine HMd.out.mono ?_
    rintro e w3 (⟨rfl, k3⟩ | ⟨P, rb, q, W, cs, rfl, hBt, hPn, hPs, h16⟩)
    · have HK3 : Seal _ := ⟨k3⟩
      clear k3
      go_wp2_with fail
      refine (alive10 w3 (HF.out.keepN HK3.out)).mono ?_
      rintro e w4 ⟨rfl, k4⟩
      go_wp2
      go_ret
      exact ⟨rfl, HK3.out.then' k4⟩
    · have HB : Seal _ := ⟨hBt⟩
      clear hBt hPn hPs
      go_wp2_with fail
      go_loopw [12] (fun z wr => ∃ (j q' : Nat) (W' : Nat → Nat) (cs' : List Cel), j ≤ len ∧ z = .int .i64 (j : Nat) ∧ Seal (Both w2 wr P rb q' (.slice a1 l1 c1) W' cs')) (fun z _ => len - (intOf z).toNat)
      case atStart => exact ⟨0, q, W, cs, Nat.zero_le _, rfl, HB⟩
      case round =>
        obtain ⟨j, q', W', cs', hj, rfl, HBr⟩ := hrel
        by_cases hjl : j < len
        · have hjl' : (j : Int) < (len : Int) := by omega
          obtain ⟨b, o, rfl, hbl, x0, x1, x2, x3, x4, x5, ⟨ua, uc, hu⟩, -⟩ := HX.out j hjl
          have hnb : ¬ w2.heap.size ≤ b := by omega
          have y0 := HBr.out.kb.cell x0 hnb
          have y1 := HBr.out.kb.cell x1 hnb
          have y2 := HBr.out.kb.cell x2 hnb
          have y3 := HBr.out.kb.cell x3 hnb
          have y4 := HBr.out.kb.cell x4 hnb
          have y5 := HBr.out.kb.cell x5 hnb
          have hbw : b < wr.heap.size := Nat.lt_of_lt_of_le hbl HBr.out.size
          have HD : Seal _ := ⟨Does_any w2 wr P rb q' (.slice a1 l1 c1) W' cs' (dd j) (gg j) (ii j) (nn j) (yy j) (uu j) (mm j) HBr.out (HY.out j hjl) (HAt.out j hjl) (HMm.out j hjl)⟩
          unfold stepV at HD
          rw [hu] at y5 HD
          clear x0 x1 x2 x3 x4 x5 hnb hu
          go_wp2_with fail
          refine HD.out.mono ?_
          rintro e w4 ⟨W3, cs3, q3, rfl, hB3⟩
          have HB3 : Seal _ := ⟨hB3⟩
          clear hB3 y0 y1 y2 y3 y4 y5
          go_wp2
          exact ⟨⟨j + 1, q3, W3, cs3, by omega, by go_num, HB3⟩, by simp only [intOf]; omega⟩
        · have hjl' : ¬ (j : Int) < (len : Int) := by omega
          obtain ⟨wo, rfl⟩ : ∃ wo : World, wo = wr := ⟨_, rfl⟩
          obtain ⟨f, hsp, hcs, hst⟩ := HBr.out.sp
          have HK : Seal (Keep Nope w2 wo) := ⟨HBr.out.kb.newW⟩
          have HSp : Seal _ := ⟨hsp⟩
          have HCs : Seal _ := ⟨hcs⟩
          have HSt : Seal _ := ⟨hst⟩
          have HMs : Seal (∀ x ∈ P.ts, x.m < 18446744073709551616) := ⟨fun x hx => by have := HBr.out.ms x hx; omega⟩
          have hsm := hsp.ar.small
          obtain ⟨H, hH⟩ : ∃ H, P.n / 2 = H := ⟨_, rfl⟩
          have hH0 : 0 < H := by omega
          have hHm : H ≤ 32768 := by omega
          have HN : Seal _ := ⟨hH⟩
          have HAr : Seal (∀ W1, Keep Nope wo W1 → Calls Tryz.prog 12 #[.pointer (some ⟨P.s, 0, none⟩)] W1 fun e w'' => e = .returned (.pointer (some ⟨P.a, 0, none⟩)) ∧ w'' = W1) := ⟨fun W1 kk => SArena_at P W' f W1 (HSp.out.keepN kk)⟩
          have HTb : Seal (∀ W1, Keep Nope wo W1 → Calls Tryz.prog 13 #[.pointer (some ⟨P.s, 0, none⟩)] W1 fun e w'' => e = .returned (.pointer (some ⟨P.t, 0, none⟩)) ∧ w'' = W1) := ⟨fun W1 kk => STable_at P W' f W1 (HSp.out.keepN kk)⟩
          have HGr : Seal (∀ W1, Keep Nope wo W1 → Calls Tryz.prog 16 #[.pointer (some ⟨P.s, 0, none⟩)] W1 fun e w'' => e = .returned (.int .i64 (H : Nat)) ∧ w'' = W1) := ⟨fun W1 kk => by rw [← HN.out]; exact Gran_at P W' f W1 (HSp.out.keepN kk)⟩
          have HSr : Seal (∀ W1, Keep Nope wo W1 → Calls Tryz.prog 14 #[.pointer (some ⟨P.s, 0, none⟩)] W1 fun e w' => ∃ p q, e = .returned (.pointer (some ⟨p, 0, none⟩)) ∧ W1.heap.size ≤ p ∧ W1.heap.size ≤ q ∧ BitsAt w' p q f H ∧ Keep Nope W1 w') := ⟨fun W1 kk => by rw [← HN.out]; exact Starts_at P W' f W1 (HSp.out.keepN kk)⟩
          obtain ⟨R, hR⟩ : ∃ R, faultsR cs' (refsW P.ts W' (objsOf cs')) = R := ⟨_, rfl⟩
          have hRl : R.length ≤ 2147483648 := by
            rw [← hR]
            exact Nat.le_trans (faultsR_len _ _) (hcs.to.refs_len hsm)
          have HRw : Seal (∀ x ∈ R, x.2.2 = 8) := ⟨fun x hx => by rw [← hR] at hx; exact faultsR_why hx⟩
          have HC1 : Seal (∀ W1 p q, Keep Nope wo W1 → BitsAt W1 p q f H → Calls Tryz.prog 11 #[.pointer (some ⟨P.a, 0, none⟩), .pointer (some ⟨P.t, 0, none⟩), .pointer (some ⟨p, 0, none⟩)] W1 fun e w' => ∃ v, e = .returned (.tuple #[v, .int .i64 0]) ∧ w'.ownsRow W1.heap.size 47 3 v R.length (flatE R) ∧ Keep Nope W1 w') := ⟨fun W1 p q kk hb => by
            have := Check_to P W' f cs' (P.n / 2) p q f W1 (HSp.out.keepN kk) HCs.out.to HMs.out (by rw [HN.out]; exact hb)
            rw [faults_clean HSt.out, hR] at this
            exact this⟩
          have HC2 : Seal (∀ W1 p q st k, Keep Nope wo W1 → BitsAt W1 p q st H → k < H → st k = (!startOf cs' k) → (∀ i, i < H → ¬ i = k → st i = f i) → Calls Tryz.prog 11 #[.pointer (some ⟨P.a, 0, none⟩), .pointer (some ⟨P.t, 0, none⟩), .pointer (some ⟨p, 0, none⟩)] W1 fun e w' => ∃ v, e = .returned (.tuple #[v, .int .i64 0]) ∧ w'.ownsRow W1.heap.size 47 3 v ((k, 0, if startOf cs' k = true then 3 else 9) :: R).length (flatE ((k, 0, if startOf cs' k = true then 3 else 9) :: R)) ∧ Keep Nope W1 w') := ⟨fun W1 p q st k kk hb hk hs hne => by
            have := Check_to P W' f cs' (P.n / 2) p q st W1 (HSp.out.keepN kk) HCs.out.to HMs.out (by rw [HN.out]; exact hb)
            rw [faults_turn (by rw [HN.out]; exact hk) hs (fun i hi h => by rw [hne i (by rw [← HN.out]; exact hi) h]; exact HSt.out i hi), hR] at this
            exact this⟩
          have HCt : Seal (∀ W1, Keep Nope wo W1 → Calls Tryz.prog 15 #[.pointer (some ⟨P.s, 0, none⟩)] W1 fun e w' => e = .returned (.agg #[.int .i64 (cN 1 cs' : Nat), .int .i64 (cN 2 cs' : Nat), .int .i64 (cN 3 cs' : Nat), .int .i64 (cS 1 cs' : Nat), .int .i64 (cS 3 cs' : Nat), .int .i64 (cS 2 cs' : Nat)]) ∧ Keep Nope W1 w') := ⟨fun W1 kk => Count_at P cs' W1 ⟨W', f, HSp.out.keepN kk, HCs.out, HSt.out⟩⟩
          have HOb : Seal (∀ W1, Keep Nope wo W1 → Calls Tryz.prog 17 #[.pointer (some ⟨P.s, 0, none⟩)] W1 fun e w' => ∃ a cap, e = .returned (.slice a (cN 1 cs') cap) ∧ Keep Nope W1 w') := ⟨fun W1 kk => by
            refine (Objects_at P cs' W1 ⟨W', f, HSp.out.keepN kk, HCs.out, HSt.out⟩ (fun e => ?_)).mono ?_
            · have h := HCs.out.tl
              rw [e] at h
              have h' : 0 = P.n / 2 := h
              have := HN.out
              omega
            · rintro e w' ⟨a, cap, rfl, -, k⟩
              exact ⟨a, cap, by rw [cN_objs], k⟩⟩
          have HSum : Seal (cS 1 cs' + cS 3 cs' + cS 2 cs' = H) := ⟨by
            have := cS_all hcs.tl (fun c hc => tags_ok (hcs.ok c hc))
            rw [hH] at this
            omega⟩
          have HS0 : Seal (∀ i, i < H → f i = startOf cs' i) := ⟨fun i hi => HSt.out i (by rw [HN.out]; exact hi)⟩
          clear hsp hcs hst hsm hH hR h16
          go_wp2_with fail
          refine (HAr.out _ (Keep.refl _ _)).mono ?_
          rintro e wo ⟨rfl, rfl⟩
          go_wp2_with fail
          refine (HTb.out _ (Keep.refl _ _)).mono ?_
          rintro e wo ⟨rfl, rfl⟩
          go_wp2_with fail
          refine (HSr.out _ (Keep.refl _ _)).mono ?_
          rintro e w4 ⟨p1, r1, rfl, -, -, hb1, k4⟩
          have HC1' : Seal _ := ⟨HC1.out w4 p1 r1 k4 hb1⟩
          have HK4 : Seal _ := ⟨k4⟩
          clear hb1 k4
          go_wp2_with fail
          refine HC1'.out.mono ?_
          rintro e w5 ⟨v, rfl, hv, k5⟩
          have HRv : Seal _ := ⟨RowO.of_owns hv⟩
          obtain ⟨fa, fc, rfl, -⟩ := HRv.out
          have HK5 : Seal _ := ⟨HK4.out.then' k5⟩
          obtain ⟨L, hL⟩ : ∃ L, R.length = L := ⟨_, rfl⟩
          rw [hL] at HRv hRl ⊢
          have HL : Seal _ := ⟨hL⟩
          clear hv k5 HC1' hL
          go_wp2_with fail
          go_loopw [15] (fun z wr => ∃ j : Nat, j ≤ L ∧ z = .int .i64 (j : Nat) ∧ Keep Nope w5 wr) (fun z _ => L - (intOf z).toNat)
          case atStart => exact ⟨0, Nat.zero_le _, rfl, Keep.refl _ _⟩
          case round =>
            obtain ⟨i, hi, rfl, hk⟩ := hrel
            by_cases hil : i < L
            · have hil' : (i : Int) < (L : Int) := by omega
              obtain ⟨x, hx⟩ : ∃ x, R[i]? = some x := ⟨_, List.getElem?_eq_getElem (by rw [HL.out]; exact hil)⟩
              obtain ⟨fa', fc', hva, hcells⟩ := HRv.out
              injection hva with e1 e2 e3
              subst e1
              obtain ⟨b, o, hab, hbl, x0, x1, x2⟩ := hcells i x hx
              subst hab
              replace x2 := hk.cell x2 (fun h => h)
              rw [HRw.out x (List.mem_of_getElem? hx)] at x2
              clear hcells e2 e3 x0 x1 hx
              go_wp2
              exact ⟨⟨i + 1, by omega, by go_num, hk⟩, by simp only [intOf]; omega⟩
            · have hil' : ¬ (i : Int) < (L : Int) := by omega
              obtain ⟨wp, rfl⟩ : ∃ wp : World, wp = wr := ⟨_, rfl⟩
              have HK6 : Seal _ := ⟨HK5.out.then' hk⟩
              have HJ6 : Seal _ := ⟨hk⟩
              clear hk
              go_wp2_with fail
              refine (HCt.out _ HK6.out).mono ?_
              rintro e w6 ⟨rfl, k6⟩
              have HK7 : Seal _ := ⟨HK6.out.then' k6⟩
              have HJ7 : Seal _ := ⟨HJ6.out.then' k6⟩
              clear k6
              go_wp2_with fail
              obtain ⟨w7, hw7⟩ : ∃ w7, w7 = w6.alloc (.cells #[.int .i64 (cN 1 cs' : Nat), .int .i64 (cN 2 cs' : Nat), .int .i64 (cN 3 cs' : Nat), .int .i64 (cS 1 cs' : Nat), .int .i64 (cS 3 cs' : Nat), .int .i64 (cS 2 cs' : Nat)] 49) := ⟨_, rfl⟩
              rw [← hw7]
              have k7 : Keep Nope w6 w7 := by rw [hw7]; exact (Keep.refl _ w6).alloc _
              have b7 : w7.heap[w6.heap.size]? = some (.cells #[.int .i64 (cN 1 cs' : Nat), .int .i64 (cN 2 cs' : Nat), .int .i64 (cN 3 cs' : Nat), .int .i64 (cS 1 cs' : Nat), .int .i64 (cS 3 cs' : Nat), .int .i64 (cS 2 cs' : Nat)] 49 (0, 0)) := by rw [hw7]; exact World.alloc_heap_new w6 _
              clear hw7
              obtain ⟨c0, -, -, c3, c4, c5⟩ := cells6g b7
              obtain ⟨tb, htb⟩ : ∃ tb, w6.heap.size = tb := ⟨_, rfl⟩
              rw [htb] at c0 c3 c4 c5 ⊢
              have HK8 : Seal _ := ⟨HK7.out.then' k7⟩
              have HJ8 : Seal _ := ⟨HJ7.out.then' k7⟩
              obtain ⟨o1, ho1⟩ : ∃ o1, cN 1 cs' = o1 := ⟨_, rfl⟩
              obtain ⟨s1, hs1⟩ : ∃ s1, cS 1 cs' = s1 := ⟨_, rfl⟩
              obtain ⟨s2, hs2⟩ : ∃ s2, cS 2 cs' = s2 := ⟨_, rfl⟩
              obtain ⟨s3, hs3⟩ : ∃ s3, cS 3 cs' = s3 := ⟨_, rfl⟩
              rw [ho1] at c0 HOb
              rw [hs1] at c3 HSum
              rw [hs3] at c4 HSum
              rw [hs2] at c5 HSum
              have hsum := HSum.out
              have wr1 : IntKind.i64.wrap ((s1 : Int) + (s3 : Int)) = (s1 : Int) + (s3 : Int) := by rw [IntKind.wrap_i64]; omega
              have wr2 : IntKind.i64.wrap ((s1 : Int) + (s3 : Int) + (s2 : Int)) = (H : Int) := by rw [IntKind.wrap_i64]; omega
              have nb : ((H : Int) != (H : Int)) = false := by simp
              have nb2 : ((o1 : Int) != (o1 : Int)) = false := by simp
              clear b7 k7 htb ho1 hs1 hs2 hs3
              refine wp_region_held_drew (S := fun w' => w'.cell? ⟨tb, 0, none⟩ = some (.int .i64 (o1 : Nat)) ∧ w'.cell? ⟨tb, 3, none⟩ = some (.int .i64 (s1 : Nat)) ∧ w'.cell? ⟨tb, 4, none⟩ = some (.int .i64 (s3 : Nat)) ∧ w'.cell? ⟨tb, 5, none⟩ = some (.int .i64 (s2 : Nat))) (by kernel_rfl) ?_ (fun hHeld => ?_)
              · (try dsimp only); (exact ⟨c0, c3, c4, c5⟩)
              refine tko 0 ?_; refine tko 1 ?_; refine tko 2 ?_; refine tko 3 ?_; refine tko 4 ?_; refine tko 5 ?_; refine tko 6 ?_; refine tko 7 ?_; refine tko 8 ?_
              try simp only [Act.put, List.setIfInBounds_toArray, List.set_cons_zero, List.set_cons_succ]
              refine wpAnyH_ready (rs := [9]) (by kernel_rfl) (by simp) ?_
              refine ready_held rfl (fun K hK => ?_)
              go_simp
              go_at_call 16
              (with_reducible refine (HGr.out _ (HK8.out.then' (Keep.refl _ _).drew)).mono ?_)
              rintro e w9 ⟨rfl, rfl⟩
              have K9 : Keep Nope w7 w7.drew := (Keep.refl _ _).drew
              refine hK _ _ ?_ (fun hHeld => ?_)
              · (try dsimp only); (exact ⟨keepc K9 c0, keepc K9 c3, keepc K9 c4, keepc K9 c5⟩)
              clear hK K
              try simp only [Act.put, List.setIfInBounds_toArray, List.set_cons_zero, List.set_cons_succ]
              refine tko 10 ?_; refine tko 11 ?_; refine tko 12 ?_; refine tko 13 ?_; refine tko 14 ?_
              try simp only [Act.put, List.setIfInBounds_toArray, List.set_cons_zero, List.set_cons_succ]
              refine wpAnyH_ready (rs := [15]) (by kernel_rfl) (by simp) ?_
              refine ready_held rfl (fun K hK => ?_)
              go_simp
              go_at_call 17
              (with_reducible refine (HOb.out _ (HK8.out.then' K9)).mono ?_)
              rintro e w10 ⟨oa, oc, rfl, k10⟩
              have K10 : Keep Nope w7 w10 := K9.then' k10
              refine hK _ _ ?_ (fun hHeld => ?_)
              · (try dsimp only); (exact ⟨keepc K10 c0, keepc K10 c3, keepc K10 c4, keepc K10 c5⟩)
              clear hK K
              try simp only [Act.put, List.setIfInBounds_toArray, List.set_cons_zero, List.set_cons_succ]
              refine tko 16 ?_; refine tko 17 ?_; refine tko 18 ?_
              try simp only [Act.put, List.setIfInBounds_toArray, List.set_cons_zero, List.set_cons_succ]
              refine wpAnyH_done (by kernel_rfl) ?_ _
              have HKc : Seal _ := ⟨HK8.out.then' K10⟩
              have HJc : Seal _ := ⟨HJ8.out.then' K10⟩
              clear K9 K10 k10 c0 c3 c4 c5 hHeld wr1 wr2 nb nb2 hsum
              go_wp2_with fail
              refine (HSr.out _ HKc.out).mono ?_
              rintro e w11 ⟨p2, r2, rfl, hp2, hr2, hb2, k11⟩
              have HB2 : Seal _ := ⟨hb2⟩
              have HK11 : Seal _ := ⟨HKc.out.then' k11⟩
              have HJ11 : Seal _ := ⟨HJc.out.then' k11⟩
              have HNew : Seal (w5.heap.size ≤ r2) := ⟨Nat.le_trans HJc.out.size hr2⟩
              have hr2l := hb2.lt_q'
              have hp2l := hb2.lt_p'
              clear hb2 k11 hp2 hr2
              have hg1 : ¬ (H : Int) < 1 := by omega
              have hg0 : ¬ (H : Int) = 0 := by omega
              go_wp2_with fail
              refine (HGr.out _ HK11.out).mono ?_
              rintro e w11 ⟨rfl, rfl⟩
              go_wp2_with fail
              refine (HGr.out _ HK11.out).mono ?_
              rintro e w11 ⟨rfl, rfl⟩
              obtain ⟨k, hk⟩ : ∃ k, t % H = k := ⟨_, rfl⟩
              have hkH : k < H := by rw [← hk]; exact Nat.mod_lt _ hH0
              have HKt : Seal _ := ⟨hk⟩
              have hmod : Int.tmod (t : Int) (H : Int) = (k : Nat) := by rw [← hk]; rfl
              clear hk
              go_wp2_with fail
              obtain ⟨w12, hw12⟩ : ∃ w12, w12 = w11.alloc (.cells #[.int .i64 (k : Nat), .int .i64 0, .int .i64 9] 47) := ⟨_, rfl⟩
              rw [← hw12]
              have k12 : Keep Nope w11 w12 := by rw [hw12]; exact (Keep.refl _ w11).alloc _
              have b12 : w12.heap[w11.heap.size]? = some (.cells #[.int .i64 (k : Nat), .int .i64 0, .int .i64 9] 47 (0, 0)) := by rw [hw12]; exact World.alloc_heap_new w11 _
              clear hw12
              obtain ⟨fb, hfb⟩ : ∃ fb, w11.heap.size = fb := ⟨_, rfl⟩
              rw [hfb] at b12 hr2l hp2l ⊢
              have HHa : Seal _ := ⟨Has_in k H p2 r2 f w12 (HB2.out.keep k12 (fun h => h) (fun h => h)) hkH⟩
              have HFn : Seal (w5.heap.size ≤ fb) := ⟨by rw [← hfb]; exact HJ11.out.size⟩
              have HB12 : Seal _ := ⟨HB2.out.keep k12 (fun h => h) (fun h => h)⟩
              have HKd : Seal _ := ⟨HK11.out.then' k12⟩
              have HJd : Seal _ := ⟨HJ11.out.then' k12⟩
              have HF12 : Seal _ := ⟨b12⟩
              clear k12 b12 hfb
              refine HHa.out.mono ?_
              rintro e w13 ⟨rfl, k13⟩
              have HB13 : Seal _ := ⟨HB12.out.keep k13 (fun h => h) (fun h => h)⟩
              have HKe : Seal _ := ⟨HKd.out.then' k13⟩
              have HJe : Seal _ := ⟨HJd.out.then' k13⟩
              have b13 := k13.at_ HF12.out (fun h => h)
              have HF13 : Seal _ := ⟨b13⟩
              have f2 := free_of_block b13 2
              have c2 : w13.cell? ⟨fb, 2, none⟩ = some (.int .i64 9) := by simp [World.cell?, b13]
              have fl := lt_of_heap b13
              clear k13 b13 HHa HB12 HKd HJd
              by_cases hs : startOf cs' k = true
              · have hfk : f k = true := by rw [HS0.out k hkH]; exact hs
                rw [hfk]
                have hkk : runSet f k 1 false k = !startOf cs' k := by simp [runSet, hs]
                have HSc : Seal _ := ⟨Clear_yes k H p2 r2 f (w13.setCell ⟨fb, 2, none⟩ (.int .i64 3)) (HB13.out.keep ((Keep.refl (fun b => b = fb) w13).setCell (fun _ => rfl) _) (by omega) (by omega)) hkH⟩
                have KS : Keep (fun b => b = fb) w13 (w13.setCell ⟨fb, 2, none⟩ (.int .i64 3)) := (Keep.refl (fun b => b = fb) w13).setCell (fun _ => rfl) _
                have bS : (w13.setCell ⟨fb, 2, none⟩ (.int .i64 3)).heap[fb]? = some (.cells #[.int .i64 (k : Nat), .int .i64 0, .int .i64 3] 47 (0, 0)) := by rw [block_setCell HF13.out]; rfl
                go_wp2_with fail
                refine HSc.out.mono ?_
                rintro e wq ⟨rfl, kq, hb3⟩
                have HJf : Seal (Keep Nope w5 wq) := ⟨Keep.newW (((HJe.out.mono (fun _ _ h => h.elim)).trans KS (fun i _ h => by have := HFn.out; omega)).trans kq (fun i _ h => by have := HNew.out; omega))⟩
                have HKf : Seal (Keep Nope wo wq) := ⟨HK5.out.then' HJf.out⟩
                have HFq : Seal (wq.heap[fb]? = some (.cells #[.int .i64 (k : Nat), .int .i64 0, .int .i64 3] 47 (0, 0))) := ⟨kq.at_ bS (by omega)⟩
                have HRq : Seal (RowO wq (.slice fa L fc) R) := ⟨HRv.out.keepN HJf.out⟩
                have HCk : Seal _ := ⟨HC2.out wq p2 r2 _ k HKf.out hb3 hkH (by simp [runSet, hs]) (fun i _ h => by unfold runSet; rw [if_neg (by omega)])⟩
                rw [if_pos hs] at HCk
                clear KS bS kq hb3
                go_wp2_with fail
                refine (HAr.out _ HKf.out).mono ?_
                rintro e wq ⟨rfl, rfl⟩
                go_wp2_with fail
                refine (HTb.out _ HKf.out).mono ?_
                rintro e wq ⟨rfl, rfl⟩
                go_wp2_with fail
                refine HCk.out.mono ?_
                rintro e w15 ⟨v, rfl, hv, k15⟩
                have HRm : Seal _ := ⟨RowO.of_owns hv⟩
                obtain ⟨ga, gc, rfl, hgc⟩ := HRm.out
                rw [List.length_cons, HL.out] at HRm ⊢
                obtain ⟨gb, go, rfl, -, y0, y1, y2⟩ := hgc 0 _ rfl
                have hgcap : L + 1 ≤ gc := by
                  rw [List.length_cons, HL.out] at hv
                  rcases hv.2 with ⟨h, -⟩ | ⟨g, cap, cur, h, -, -, h4, -⟩
                  · simp at h
                  · injection h with e1 e2 e3
                    omega
                clear hgc hv
                have HRq15 : Seal _ := ⟨HRq.out.keepN k15⟩
                have HKg : Seal _ := ⟨HKf.out.then' k15⟩
                obtain ⟨X, hX⟩ : ∃ X, (if gc = 1 then some (⟨gb, go, none⟩ : Addr) else some ⟨gb, go + 3, none⟩) = X := ⟨_, rfl⟩
                have HSub : Seal (RowO w15 (.slice X L (gc - 1)) R) := ⟨by
                  by_cases e : gc = 1
                  · have hL0 : R.length = 0 := by rw [HL.out]; omega
                    have hR0 := List.length_eq_zero_iff.1 hL0
                    refine ⟨X, gc - 1, by rw [HL.out], fun i x hi => ?_⟩
                    rw [hR0] at hi
                    simp at hi
                  · rw [if_neg e] at hX
                    rw [← hX, ← HL.out]
                    exact HRm.out.tail (gc - 1)⟩
                have hle : (1 : Int) ≤ (L : Int) + 1 := by omega
                obtain ⟨z0, z1, z2⟩ := cells3g (k15.at_ HFq.out (fun h => h))
                rw [Nat.zero_mul, Nat.add_zero] at y0 y1 y2
                replace y1 : w15.cell? ⟨gb, go + 1, none⟩ = some (.int .i64 0) := y1
                replace y2 : w15.cell? ⟨gb, go + 2, none⟩ = some (.int .i64 3) := y2
                have wr1 : IntKind.i64.wrap ((L : Int) + 1) = (L : Int) + 1 := by rw [IntKind.wrap_i64]; omega
                have nb : (((L : Int) + 1) == ((L : Int) + 1)) = true := by simp
                have nb2 : ((k : Int) == (k : Int)) = true := by simp
                clear k15 HRm HRq
                go_wp2_with fail
                refine wp_region_held_drew (S := fun w' => w'.cell? ⟨gb, go, none⟩ = some (.int .i64 (k : Nat)) ∧ w'.cell? ⟨gb, go + 1, none⟩ = some (.int .i64 0) ∧ w'.cell? ⟨gb, go + 2, none⟩ = some (.int .i64 3) ∧ w'.cell? ⟨fb, 0, none⟩ = some (.int .i64 (k : Nat)) ∧ w'.cell? ⟨fb, 1, none⟩ = some (.int .i64 0) ∧ w'.cell? ⟨fb, 2, none⟩ = some (.int .i64 3)) (by kernel_rfl) ?_ (fun hHeld => ?_)
                · (try dsimp only); (exact ⟨y0, y1, y2, z0, z1, z2⟩)
                refine tko 0 ?_; refine tko 1 ?_; refine tko 2 ?_; refine tko 3 ?_; refine tko 4 ?_; refine tko 5 ?_; refine tko 6 ?_; refine tko 7 ?_; refine tko 8 ?_; refine tko 9 ?_; refine tko 10 ?_; refine tko 11 ?_; refine tko 12 ?_
                try simp only [Act.put, List.setIfInBounds_toArray, List.set_cons_zero, List.set_cons_succ]
                refine tko 13 ?_; refine tko 14 ?_; refine tko 15 ?_; refine tko 16 ?_; refine tko 17 ?_; refine tko 18 ?_; refine tko 19 ?_; refine tko 20 ?_
                try simp only [Act.put, List.setIfInBounds_toArray, List.set_cons_zero, List.set_cons_succ]
                refine wpAnyH_ready (rs := [21]) (by kernel_rfl) (by simp) ?_
                refine ready_held rfl (fun K hK => ?_)
                go_simp
                go_at_call 21
                (with_reducible refine (SameFaults_yes R _ _ _ (HSub.out.keepN (Keep.refl _ _).drew) (HRq15.out.keepN (Keep.refl _ _).drew) (by rw [HL.out]; omega)).mono ?_)
                rintro e w16 ⟨rfl, k16⟩
                have K16 : Keep Nope w15 w16 := ((Keep.refl Nope w15).drew).then' k16
                refine hK _ _ ?_ (fun hHeld => ?_)
                · (try dsimp only); (exact ⟨keepc K16 y0, keepc K16 y1, keepc K16 y2, keepc K16 z0, keepc K16 z1, keepc K16 z2⟩)
                clear hK K
                try simp only [Act.put, List.setIfInBounds_toArray, List.set_cons_zero, List.set_cons_succ]
                refine tko 22 ?_; refine tko 23 ?_
                try simp only [Act.put, List.setIfInBounds_toArray, List.set_cons_zero, List.set_cons_succ]
                refine wpAnyH_ready (rs := [24]) (by kernel_rfl) (by simp) ?_
                refine ready_held rfl (fun K hK => ?_)
                go_simp
                go_at_call 8
                (with_reducible refine (alive10 _ (HF.out.keepN (HK.out.then' (HKg.out.then' K16)))).mono ?_)
                rintro e w17 ⟨rfl, k17⟩
                have K17 : Keep Nope w15 w17 := K16.then' k17
                refine hK _ _ ?_ (fun hHeld => ?_)
                · (try dsimp only); (exact ⟨keepc K17 y0, keepc K17 y1, keepc K17 y2, keepc K17 z0, keepc K17 z1, keepc K17 z2⟩)
                clear hK K
                try simp only [Act.put, List.setIfInBounds_toArray, List.set_cons_zero, List.set_cons_succ]
                refine tko 25 ?_; refine tko 26 ?_
                try simp only [Act.put, List.setIfInBounds_toArray, List.set_cons_zero, List.set_cons_succ]
                refine wpAnyH_done (by kernel_rfl) ?_ _
                go_wp2
                go_ret
                exact ⟨rfl, HK.out.then' (HKg.out.then' K17)⟩
              · have hfk : f k = false := by rw [HS0.out k hkH]; simpa using hs
                rw [hfk]
                have HSc : Seal _ := ⟨Set_yes k H p2 r2 f w13 HB13.out hkH⟩
                have KS : Keep (fun b => b = fb) w13 w13 := Keep.refl _ w13
                have bS := HF13.out
                go_wp2_with fail
                refine HSc.out.mono ?_
                rintro e wq ⟨rfl, kq, hb3⟩
                have HJf : Seal (Keep Nope w5 wq) := ⟨Keep.newW (((HJe.out.mono (fun _ _ h => h.elim)).trans KS (fun i _ h => by have := HFn.out; omega)).trans kq (fun i _ h => by have := HNew.out; omega))⟩
                have HKf : Seal (Keep Nope wo wq) := ⟨HK5.out.then' HJf.out⟩
                have HFq : Seal (wq.heap[fb]? = some (.cells #[.int .i64 (k : Nat), .int .i64 0, .int .i64 9] 47 (0, 0))) := ⟨kq.at_ bS (by omega)⟩
                have HRq : Seal (RowO wq (.slice fa L fc) R) := ⟨HRv.out.keepN HJf.out⟩
                have HCk : Seal _ := ⟨HC2.out wq p2 r2 _ k HKf.out hb3 hkH (by simp [runSet, hs]) (fun i _ h => by unfold runSet; rw [if_neg (by omega)])⟩
                rw [if_neg hs] at HCk
                clear KS bS kq hb3
                go_wp2_with fail
                refine (HAr.out _ HKf.out).mono ?_
                rintro e wq ⟨rfl, rfl⟩
                go_wp2_with fail
                refine (HTb.out _ HKf.out).mono ?_
                rintro e wq ⟨rfl, rfl⟩
                go_wp2_with fail
                refine HCk.out.mono ?_
                rintro e w15 ⟨v, rfl, hv, k15⟩
                have HRm : Seal _ := ⟨RowO.of_owns hv⟩
                obtain ⟨ga, gc, rfl, hgc⟩ := HRm.out
                rw [List.length_cons, HL.out] at HRm ⊢
                obtain ⟨gb, go, rfl, -, y0, y1, y2⟩ := hgc 0 _ rfl
                have hgcap : L + 1 ≤ gc := by
                  rw [List.length_cons, HL.out] at hv
                  rcases hv.2 with ⟨h, -⟩ | ⟨g, cap, cur, h, -, -, h4, -⟩
                  · simp at h
                  · injection h with e1 e2 e3
                    omega
                clear hgc hv
                have HRq15 : Seal _ := ⟨HRq.out.keepN k15⟩
                have HKg : Seal _ := ⟨HKf.out.then' k15⟩
                obtain ⟨X, hX⟩ : ∃ X, (if gc = 1 then some (⟨gb, go, none⟩ : Addr) else some ⟨gb, go + 3, none⟩) = X := ⟨_, rfl⟩
                have HSub : Seal (RowO w15 (.slice X L (gc - 1)) R) := ⟨by
                  by_cases e : gc = 1
                  · have hL0 : R.length = 0 := by rw [HL.out]; omega
                    have hR0 := List.length_eq_zero_iff.1 hL0
                    refine ⟨X, gc - 1, by rw [HL.out], fun i x hi => ?_⟩
                    rw [hR0] at hi
                    simp at hi
                  · rw [if_neg e] at hX
                    rw [← hX, ← HL.out]
                    exact HRm.out.tail (gc - 1)⟩
                have hle : (1 : Int) ≤ (L : Int) + 1 := by omega
                obtain ⟨z0, z1, z2⟩ := cells3g (k15.at_ HFq.out (fun h => h))
                rw [Nat.zero_mul, Nat.add_zero] at y0 y1 y2
                replace y1 : w15.cell? ⟨gb, go + 1, none⟩ = some (.int .i64 0) := y1
                replace y2 : w15.cell? ⟨gb, go + 2, none⟩ = some (.int .i64 9) := y2
                have wr1 : IntKind.i64.wrap ((L : Int) + 1) = (L : Int) + 1 := by rw [IntKind.wrap_i64]; omega
                have nb : (((L : Int) + 1) == ((L : Int) + 1)) = true := by simp
                have nb2 : ((k : Int) == (k : Int)) = true := by simp
                clear k15 HRm HRq
                go_wp2_with fail
                refine wp_region_held_drew (S := fun w' => w'.cell? ⟨gb, go, none⟩ = some (.int .i64 (k : Nat)) ∧ w'.cell? ⟨gb, go + 1, none⟩ = some (.int .i64 0) ∧ w'.cell? ⟨gb, go + 2, none⟩ = some (.int .i64 9) ∧ w'.cell? ⟨fb, 0, none⟩ = some (.int .i64 (k : Nat)) ∧ w'.cell? ⟨fb, 1, none⟩ = some (.int .i64 0) ∧ w'.cell? ⟨fb, 2, none⟩ = some (.int .i64 9)) (by kernel_rfl) ?_ (fun hHeld => ?_)
                · (try dsimp only); (exact ⟨y0, y1, y2, z0, z1, z2⟩)
                refine tko 0 ?_; refine tko 1 ?_; refine tko 2 ?_; refine tko 3 ?_; refine tko 4 ?_; refine tko 5 ?_; refine tko 6 ?_; refine tko 7 ?_; refine tko 8 ?_; refine tko 9 ?_; refine tko 10 ?_; refine tko 11 ?_; refine tko 12 ?_
                try simp only [Act.put, List.setIfInBounds_toArray, List.set_cons_zero, List.set_cons_succ]
                refine tko 13 ?_; refine tko 14 ?_; refine tko 15 ?_; refine tko 16 ?_; refine tko 17 ?_; refine tko 18 ?_; refine tko 19 ?_; refine tko 20 ?_
                try simp only [Act.put, List.setIfInBounds_toArray, List.set_cons_zero, List.set_cons_succ]
                refine wpAnyH_ready (rs := [21]) (by kernel_rfl) (by simp) ?_
                refine ready_held rfl (fun K hK => ?_)
                go_simp
                go_at_call 21
                (with_reducible refine (SameFaults_yes R _ _ _ (HSub.out.keepN (Keep.refl _ _).drew) (HRq15.out.keepN (Keep.refl _ _).drew) (by rw [HL.out]; omega)).mono ?_)
                rintro e w16 ⟨rfl, k16⟩
                have K16 : Keep Nope w15 w16 := ((Keep.refl Nope w15).drew).then' k16
                refine hK _ _ ?_ (fun hHeld => ?_)
                · (try dsimp only); (exact ⟨keepc K16 y0, keepc K16 y1, keepc K16 y2, keepc K16 z0, keepc K16 z1, keepc K16 z2⟩)
                clear hK K
                try simp only [Act.put, List.setIfInBounds_toArray, List.set_cons_zero, List.set_cons_succ]
                refine tko 22 ?_; refine tko 23 ?_
                try simp only [Act.put, List.setIfInBounds_toArray, List.set_cons_zero, List.set_cons_succ]
                refine wpAnyH_ready (rs := [24]) (by kernel_rfl) (by simp) ?_
                refine ready_held rfl (fun K hK => ?_)
                go_simp
                go_at_call 8
                (with_reducible refine (alive10 _ (HF.out.keepN (HK.out.then' (HKg.out.then' K16)))).mono ?_)
                rintro e w17 ⟨rfl, k17⟩
                have K17 : Keep Nope w15 w17 := K16.then' k17
                refine hK _ _ ?_ (fun hHeld => ?_)
                · (try dsimp only); (exact ⟨keepc K17 y0, keepc K17 y1, keepc K17 y2, keepc K17 z0, keepc K17 z1, keepc K17 z2⟩)
                clear hK K
                try simp only [Act.put, List.setIfInBounds_toArray, List.set_cons_zero, List.set_cons_succ]
                refine tko 25 ?_; refine tko 26 ?_
                try simp only [Act.put, List.setIfInBounds_toArray, List.set_cons_zero, List.set_cons_succ]
                refine wpAnyH_done (by kernel_rfl) ?_ _
                go_wp2
                go_ret
                exact ⟨rfl, HK.out.then' (HKg.out.then' K17)⟩
end

end Go.Proofs.YtllpibknkajfnaaGreatDoor
