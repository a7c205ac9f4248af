/-
  PinPlays: the law's walk. Printed by tools/plays.py.
-/
import Derived.Test.YtapmbignpdkfbaaPinRisesWalk
import Derived.Deep.RegionHeld3
namespace Go.Proofs.Ytapmbignpdkfbaa
open Go.RowKit
set_option linter.unusedVariables false

section
variable {P : Program} {md : Region.Mode} {Q : Exit → Act → World → Prop} {S : World → Prop}

theorem take_held {l : List Oper} {i : Nat} {oi : Oper} {v : Value} {fuel : Nat} {listed : Array Bool} {a : Act} {w : World} (hi : l[i]? = some oi)
    (hs : Region.noSelect l.toArray = true) (hf : Region.free md l.toArray listed i = true) (hr : (Region.ready md l.toArray listed).contains i = true)
    (hQ : ∀ c a w, Q (.panic c) (a.put oi.dst v) w → Q (.panic c) a w) (hy : YieldsIf P l.toArray S oi v a) (hS : S w)
    (h : wpAnyH P md l.toArray Q S fuel (listed.setIfInBounds i true) (a.put oi.dst v) w) : wpAnyH P md l.toArray Q S (fuel + 1) listed a w :=
  wpAnyH_take (by simpa using hi) hs hf hr hQ hy hS h

theorem tk {l : List Oper} (i : Nat) {oi : Oper} {v : Value} {fuel : Nat} {listed : Array Bool} {a : Act} {w : World} (hi : l[i]? = some oi) (hy : ∀ w, S w → (execOp a.eval oi).run P w = .ok (.value v) w)
    (h : wpAnyH P md l.toArray Q S fuel (listed.setIfInBounds i true) (a.put oi.dst v) w) (hS : S w := by assumption) (hs : Region.noSelect l.toArray = true := by kernel_rfl) (hf : Region.free md l.toArray listed i = true := by kernel_rfl)
    (hr : (Region.ready md l.toArray listed).contains i = true := by kernel_rfl) (hQ : ∀ c a w, Q (.panic c) (a.put oi.dst v) w → Q (.panic c) a w := by exact fun _ _ _ h => h) (hw : Region.wanted oi (yielded l.toArray a.tmps) = true := by kernel_rfl) : wpAnyH P md l.toArray Q S (fuel + 1) listed a w :=
  take_held hi hs hf hr hQ (.inl ⟨hw, hy⟩) hS h

/-- The same; what it yields is walked by itself. -/
theorem tko {l : List Oper} (i : Nat) {oi : Oper} {v : Value} {fuel : Nat} {listed : Array Bool} {a : Act} {w : World} (h : wpAnyH P md l.toArray Q S fuel (listed.setIfInBounds i true) (a.put oi.dst v) w) (hi : l[i]? = some oi := by rfl)
    (hy : ∀ w, S w → (execOp a.eval oi).run P w = .ok (.value v) w := by ((intro w0 hSw); (try dsimp only at hSw); go_simp; (try with_reducible rfl))) (hS : S w := by assumption) (hs : Region.noSelect l.toArray = true := by kernel_rfl) (hf : Region.free md l.toArray listed i = true := by kernel_rfl)
    (hr : (Region.ready md l.toArray listed).contains i = true := by kernel_rfl) (hQ : ∀ c a w, Q (.panic c) (a.put oi.dst v) w → Q (.panic c) a w := by exact fun _ _ _ h => h) (hw : Region.wanted oi (yielded l.toArray a.tmps) = true := by kernel_rfl) : wpAnyH P md l.toArray Q S (fuel + 1) listed a w :=
  take_held hi hs hf hr hQ (.inl ⟨hw, hy⟩) hS h

/-- A frame in order. -/
theorem nrm : (∀ (a : Act) (d : Nat) (v : Value), a.put (some d) v = { a with tmps := a.tmps.setIfInBounds d v }) ∧ (∀ (a : Act) (v : Value), a.put none v = a) ∧ (∀ (l : List Value) (i : Nat) (x : Value), l.toArray.setIfInBounds i x = (l.set i x).toArray) ∧ (∀ (x y : Value) (l : List Value), (x :: l).set 0 y = y :: l) ∧ (∀ (x y : Value) (l : List Value) (i : Nat), (x :: l).set (i + 1) y = x :: l.set i y) :=
  ⟨fun _ _ _ => rfl, fun _ _ => rfl, fun _ _ _ => List.setIfInBounds_toArray .., fun _ _ _ => rfl, fun _ _ _ _ => rfl⟩

/-- The ways on, read off. -/
theorem war (rs : List Nat) {l : List Oper} {fuel : Nat} {listed : Array Bool} {a : Act} {w : World} (h : AllReadyH P md l.toArray Q S fuel listed a w rs) (hr : Region.ready md l.toArray listed = rs := by kernel_rfl) (hne : rs ≠ [] := by simp) : wpAnyH P md l.toArray Q S (fuel + 1) listed a w :=
  wpAnyH_ready hr hne h

theorem sk {l : List Oper} (i : Nat) {oi : Oper} {fuel : Nat} {listed : Array Bool} {a : Act} {w : World} (hi : l[i]? = some oi)
    (h : wpAnyH P md l.toArray Q S fuel (listed.setIfInBounds i true) (a.put oi.dst undef) w) (hS : S w := by assumption) (hs : Region.noSelect l.toArray = true := by kernel_rfl) (hf : Region.free md l.toArray listed i = true := by kernel_rfl)
    (hr : (Region.ready md l.toArray listed).contains i = true := by kernel_rfl) (hQ : ∀ c a w, Q (.panic c) (a.put oi.dst undef) w → Q (.panic c) a w := by exact fun _ _ _ h => h) (hw : Region.wanted oi (yielded l.toArray a.tmps) = false := by kernel_rfl) : wpAnyH P md l.toArray Q S (fuel + 1) listed a w :=
  take_held hi hs hf hr hQ (.inr ⟨hw, rfl⟩) hS h

theorem ready_held {l : List Oper} {fuel : Nat} {listed : Array Bool} {a : Act} {w : World} {i : Nat} {o : Oper} (ho : l[i]? = some o)
    (h : ∀ K' : Act → World → Prop, Shut (∀ a w, S w → (S w → wpAnyH P md l.toArray Q S fuel (listed.setIfInBounds i true) a w) → K' a w) → if Region.wanted o (yielded l.toArray a.tmps) = true then Oper.wp P o a w K' Q else K' (a.put o.dst undef) w) : AllReadyH P md l.toArray Q S fuel listed a w [i] :=
  AllReadyH.cons (by simpa using ho) h AllReadyH.nil

theorem readyc_held {l : List Oper} {fuel : Nat} {listed : Array Bool} {a : Act} {w : World} {i : Nat} {o : Oper} {rs : List Nat} (ho : l[i]? = some o)
    (h : ∀ K' : Act → World → Prop, Shut (∀ a w, S w → (S w → wpAnyH P md l.toArray Q S fuel (listed.setIfInBounds i true) a w) → K' a w) → if Region.wanted o (yielded l.toArray a.tmps) = true then Oper.wp P o a w K' Q else K' (a.put o.dst undef) w)
    (hs : AllReadyH P md l.toArray Q S fuel listed a w rs) : AllReadyH P md l.toArray Q S fuel listed a w (i :: rs) :=
  AllReadyH.cons (by simpa using ho) h hs
end

theorem DocP.keep {w w' : World} {p b n r : Nat} {c : Nat → Nat} {L : List Nat} (h : DocP w r L) (hP : PinAt w p b n c) (k : Keep (fun k => k = b) w w') : DocP w' r L := by
  obtain ⟨v, h1, h2⟩ := h
  obtain ⟨-, D, ⟨es, clock, hm, -⟩, -⟩ := hP
  refine ⟨v, k.at_ h1 (fun e => ?_), rowU_keep h2 k (fun x hx e => ?_)⟩
  · subst e
    rw [hm] at h1
    cases h1
  · subst e
    rcases h2.2 with ⟨e, -⟩ | ⟨g, cap, cur, e, -, h3, -⟩
    · rw [e] at hx; cases hx
    · rw [e] at hx
      injection hx with hx
      subst hx
      rw [hm] at h3
      cases h3

theorem PinAt.keepD {w w' : World} {p b n r : Nat} {c : Nat → Nat} {L : List Nat} (h : PinAt w p b n c) (hD : DocP w r L) (k : Keep (fun k => k = r) w w') : PinAt w' p b n c := by
  obtain ⟨v, h1, -⟩ := hD
  refine h.keep k (fun e => ?_) (fun e => ?_)
  · subst e
    obtain ⟨h2, -⟩ := h
    rw [h1] at h2
    injection h2 with h2
    injection h2 with h2 h3
    exact absurd h3 (by decide)
  · subst e
    obtain ⟨-, D, ⟨es, clock, hm, -⟩, -⟩ := h
    rw [hm] at h1
    cases h1

theorem DPinL_at {w : World} {r : Nat} {L : List Nat} (h : DocP w r L) (ho : OkL L) (hl : L.length < 4096) {g : Nat} (hg : g < 18446744073709551616) :
    Calls Try.prog 18 #[.pointer (some ⟨r, 0, none⟩), .int .u64 (g : Nat)] w fun e w' => e = .returned (.int .i64 (pinE (cL L) g : Nat)) ∧ DocP w' r (pinL L g) ∧ Keep (fun k => k = r) w w' :=
  DPin_at (n := 0) h (by omega) ho.2 ho.1 (by have := onceU_len L; omega) hg

theorem DUnpinL_at {w : World} {r : Nat} {L : List Nat} (h : DocP w r L) (hl : L.length < 4096) {g : Nat} (hg : g < 18446744073709551616) :
    Calls Try.prog 19 #[.pointer (some ⟨r, 0, none⟩), .int .u64 (g : Nat)] w fun e w' => e = .returned (.int .i64 (unE (cL L) g : Nat)) ∧ DocP w' r (L.erase g) ∧ Keep (fun k => k = r) w w' :=
  DUnpin_at h (by omega) hg

/-- A table and the document's have the row L, behind m acts, of A at most. -/
def TwoT (w : World) (p b r m : Nat) (L : List Nat) (A : Nat) : Prop := PinAt w p b m (cL L) ∧ DocP w r L ∧ OkL L ∧ L.length ≤ m ∧ m ≤ A

theorem TwoT.keepN {w w' : World} {p b r m A : Nat} {L : List Nat} (h : TwoT w p b r m L A) (k : Keep Nope w w') : TwoT w' p b r m L A := ⟨h.1.keep k (fun h => h) (fun h => h), h.2.1.keepN k, h.2.2⟩

theorem TwoT.more {w : World} {p b r m A B : Nat} {L : List Nat} (h : TwoT w p b r m L A) (hA : A ≤ B) : TwoT w p b r m L B := ⟨h.1, h.2.1, h.2.2.1, h.2.2.2.1, Nat.le_trans h.2.2.2.2 hA⟩

set_option maxRecDepth 20000 in
set_option maxHeartbeats 8000000 in
theorem plays_walk (v : Value) (len : Nat) (d n : Nat → Int) (g : Nat → Nat) (X : Nat) (hX : X < 18446744073709551616) (w : World) (hv : StepU w v len d n g) :
    Calls Try.prog 5 #[v, .int .u64 (X : Nat)] w fun e w' => e = .returned (.bool true) ∧ Keep Nope w w' := by
  have HV : Seal _ := ⟨hv⟩
  obtain ⟨a, c, rfl⟩ := hv.slice
  clear hv
  go_enter Try.func5, Try.ntmps5
  go_wp2_with fail
  refine (HeavyU_any _ len d n g w HV.out).mono ?_
  rintro e w' ⟨t, rfl, rfl, hlight⟩
  cases t with
  | true =>
    go_wp2_with fail
    refine (alive17 _).mono ?_
    rintro e w2 ⟨rfl, k⟩
    go_wp2_with fail
    exact bodyPost_ret (v := .bool true) (by simp [results, Try.results5, go_sem]) rfl ⟨rfl, k⟩
  | false =>
    have HL : Seal _ := ⟨hlight rfl⟩
    have hl80 := HL.out.1
    clear hlight
    go_wp2_with fail
    refine (PNew_at _).mono ?_
    rintro e w1 ⟨p0, b0, rfl, hP, hp, hb, k1⟩
    have HP : Seal (PinAt w1 p0 b0 0 (cL [])) := ⟨hP⟩
    have HK : Seal _ := ⟨k1⟩
    have hlt := hP.lt
    have hz1 := k1.size
    clear hP k1
    go_wp2_with fail
    obtain ⟨r, hr⟩ : ∃ r, w1.heap.size = r := ⟨_, rfl⟩
    obtain ⟨w2, hw2⟩ : ∃ w2, w1.alloc (.cells #[.slice none 0 0] 40) = w2 := ⟨_, rfl⟩
    have k2 : Keep Nope w1 w2 := by rw [← hw2]; exact (Keep.refl _ w1).alloc _
    have HT0 : Seal (TwoT w2 p0 b0 r 0 [] 0) := ⟨HP.out.keep k2 (fun h => h) (fun h => h), ⟨_, by rw [← hw2, ← hr]; exact World.alloc_heap_new w1 _, World.ownsRow_nil w2 0 27 1⟩, OkL.nil, Nat.le_refl _, Nat.le_refl _⟩
    have HK2 : Seal _ := ⟨HK.out.thenU k2⟩
    have hrw : w'.heap.size ≤ r := by omega
    have HN1 : Seal (∀ i, i ≤ len → sumN n i ≤ 1200) := ⟨fun i hi => Nat.le_trans (sumN_mono n hi) HL.out.2.2⟩
    rw [hr, hw2]
    clear hr hw2 k2 HK HP hlt hz1
    go_loopw [5, 7] (fun pv z W => ∃ (i p b m : Nat) (L : List Nat), i ≤ len ∧ pv = .pointer (some ⟨p, 0, none⟩) ∧ z = .int .i64 (i : Nat) ∧ w'.heap.size ≤ b ∧ Seal (TwoT W p b r m L (sumN n i) ∧ Keep Nope w' W)) (fun _ z _ => len - (intOf z).toNat)
    case atStart => exact ⟨0, p0, b0, 0, [], Nat.zero_le _, rfl, rfl, hb, ⟨HT0.out, HK2.out⟩⟩
    case round =>
      obtain ⟨i, p, b, m, L, hi, rfl, rfl, hbw, HI⟩ := hrel
      by_cases hil : i < len
      · have hil' : (i : Int) < (len : Int) := by omega
        obtain ⟨ab, o, rfl, hab, y0, y1, y2, hg⟩ := HV.out.at hil
        obtain ⟨q, hq⟩ : ∃ q, n i = q := ⟨_, rfl⟩
        obtain ⟨D, hD⟩ : ∃ D, d i = D := ⟨_, rfl⟩
        obtain ⟨G, hG⟩ : ∃ G, g i = G := ⟨_, rfl⟩
        rw [hD] at y0
        rw [hq] at y1
        rw [hG] at y2 hg
        have HQ : Seal (sumN n (i + 1) = sumN n i + q.toNat) := ⟨by rw [sumN, hq]⟩
        have hq12 : sumN n i + q.toNat ≤ 1200 := by rw [← HQ.out]; exact HN1.out _ (by omega)
        have HY : Seal (w'.cell? ⟨ab, o + i * 3, none⟩ = some (.int .i64 D) ∧ w'.cell? ⟨ab, o + i * 3 + 1, none⟩ = some (.int .i64 q) ∧ w'.cell? ⟨ab, o + i * 3 + 2, none⟩ = some (.int .u64 (G : Nat))) := ⟨y0, y1, y2⟩
        have har : ¬ ab = r := by omega
        clear hq hD hG y0 y1 y2
        by_cases hD2 : D = 2
        · subst hD2
          have y0 := HI.out.2.cell HY.out.1 (fun h => h)
          have y1 := HI.out.2.cell HY.out.2.1 (fun h => h)
          have y2 := HI.out.2.cell HY.out.2.2 (fun h => h)
          go_wp2_with fail
          refine (Copy_at HI.out.1.1).mono ?_
          rintro e w3 ⟨p3, b3, rfl, hP3, hp3, hb3, k3⟩
          have HP3 : Seal _ := ⟨hP3⟩
          have HO3 : Seal _ := ⟨HI.out.1.keepN k3⟩
          have HK3 : Seal _ := ⟨HI.out.2.thenU k3⟩
          have hlo := HI.out.1.1.lt
          have z0 := k3.cell y0 (fun h => h)
          have z1 := k3.cell y1 (fun h => h)
          have z2 := k3.cell y2 (fun h => h)
          have hzw := HI.out.2.size
          have HM : Seal (L.length ≤ m ∧ m ≤ sumN n i ∧ OkL L) := ⟨HI.out.1.2.2.2.1, HI.out.1.2.2.2.2, HI.out.1.2.2.1⟩
          have hab3 : ¬ ab = b := by omega
          clear hP3 k3 y0 y1 y2
          go_wp2_with fail
          refine (PinL_at (g := 77) HO3.out.1 (by have := HM.out.2.1; omega) (by decide)).mono ?_
          rintro e w4 ⟨rfl, hP4, k4⟩
          have HP4 : Seal _ := ⟨hP4⟩
          have HD4 : Seal _ := ⟨HO3.out.2.1.keep HO3.out.1 k4⟩
          have HC4 : Seal _ := ⟨HP3.out.keep k4 (by omega) (by omega)⟩
          have HK4 : Seal _ := ⟨HK3.out.trans k4 (fun x hx e => by omega)⟩
          have x0 := k4.cell z0 hab3
          have x1 := k4.cell z1 hab3
          have x2 := k4.cell z2 hab3
          clear hP4 k4 z0 z1 z2
          go_wp2_with fail
          refine (UnpinL_at (g := G) HP4.out (by have := HM.out.2.1; omega) hg (by have := HM.out.1; have := HM.out.2.1; have := pinL_len L 77; omega)).mono ?_
          rintro e w5 ⟨rfl, hP5, k5⟩
          have HT5 : Seal (TwoT w5 p3 b3 r m L (sumN n i)) := ⟨HC4.out.keep k5 (by omega) (by omega), HD4.out.keep HP4.out k5, HM.out.2.2, HM.out.1, HM.out.2.1⟩
          have HK5 : Seal _ := ⟨HK4.out.trans k5 (fun x hx e => by omega)⟩
          have hb5 : w'.heap.size ≤ b3 := by omega
          clear hP5 k5 x0 x1 x2 HO3 HP3 HC4 HD4 HP4 HK3 HK4 HI
          go_wp2_with fail
          go_loopw [9] (fun z W => ∃ (k m2 : Nat) (L2 : List Nat), k ≤ q.toNat ∧ z = .int .i64 (k : Nat) ∧ Seal (TwoT W p3 b3 r m2 L2 (sumN n i + k) ∧ Keep Nope w' W)) (fun z _ => q.toNat - (intOf z).toNat)
          case atStart => exact ⟨0, _, _, Nat.zero_le _, rfl, ⟨HT5.out, HK5.out⟩⟩
          case round =>
            obtain ⟨k, m2, L2, hk, rfl, HJ⟩ := hrel
            have hk12 : k ≤ 1200 := by omega
            have y0 := HJ.out.2.cell HY.out.1 (fun h => h)
            have y1 := HJ.out.2.cell HY.out.2.1 (fun h => h)
            have y2 := HJ.out.2.cell HY.out.2.2 (fun h => h)
            by_cases hkq : k < q.toNat
            · have hkq' : (k : Int) < q := by omega
              have HM : Seal (L2.length ≤ m2 ∧ m2 ≤ sumN n i + k ∧ OkL L2) := ⟨HJ.out.1.2.2.2.1, HJ.out.1.2.2.2.2, HJ.out.1.2.2.1⟩
              have hab4 : ¬ ab = b3 := by omega
              have HJ2 : Seal (TwoT wr p3 b3 r m2 L2 (sumN n i + (k + 1)) ∧ Keep Nope w' wr) := ⟨HJ.out.1.more (by omega), HJ.out.2⟩
              clear HJ
              go_wp2_with fail
              go_quiet (fail)
              go_wp2_with fail
              exact ⟨⟨k + 1, m2, L2, by omega, by go_num, ⟨HJ2.out.1.keepN (Keep.of_drewN _), HJ2.out.2.thenU (Keep.of_drewN _)⟩⟩, by simp only [intOf]; omega⟩
            · have hkq' : ¬ (k : Int) < q := by omega
              have HE : Seal (TwoT wr p3 b3 r m2 L2 (sumN n (i + 1)) ∧ Keep Nope w' wr) := ⟨HJ.out.1.more (by rw [HQ.out]; omega), HJ.out.2⟩
              have HL2 : Seal (L2.length < 1000000) := ⟨by have := HJ.out.1.2.2.2.1; have := HJ.out.1.2.2.2.2; omega⟩
              clear HJ
              go_wp2_with fail
              refine (Same17_at HE.out.1.1 HE.out.1.2.1 HE.out.1.2.2.1 HL2.out).mono ?_
              rintro e w6 ⟨rfl, k6⟩
              have HE2 : Seal _ := ⟨HE.out.1.keepN k6⟩
              have HKe : Seal _ := ⟨HE.out.2.thenU k6⟩
              clear k6 HE
              go_wp2_with fail
              exact ⟨⟨i + 1, p3, b3, m2, L2, by omega, rfl, by go_num, hb5, ⟨HE2.out, HKe.out⟩⟩, by simp only [intOf]; omega⟩
        · have c2 : (D == 2) = false := by simp; omega
          have y0 := HI.out.2.cell HY.out.1 (fun h => h)
          have HT5 : Seal (TwoT wr p b r m L (sumN n i)) := ⟨HI.out.1⟩
          have HK5 : Seal _ := ⟨HI.out.2⟩
          clear HI
          go_wp2_with fail
          go_loopw [9] (fun z W => ∃ (k m2 : Nat) (L2 : List Nat), k ≤ q.toNat ∧ z = .int .i64 (k : Nat) ∧ Seal (TwoT W p b r m2 L2 (sumN n i + k) ∧ Keep Nope w' W)) (fun z _ => q.toNat - (intOf z).toNat)
          case atStart => exact ⟨0, _, _, Nat.zero_le _, rfl, ⟨HT5.out, HK5.out⟩⟩
          case round =>
            obtain ⟨k, m2, L2, hk, rfl, HJ⟩ := hrel
            have hk12 : k ≤ 1200 := by omega
            have y0 := HJ.out.2.cell HY.out.1 (fun h => h)
            have y1 := HJ.out.2.cell HY.out.2.1 (fun h => h)
            have y2 := HJ.out.2.cell HY.out.2.2 (fun h => h)
            by_cases hkq : k < q.toNat
            · have hkq' : (k : Int) < q := by omega
              have HM : Seal (L2.length ≤ m2 ∧ m2 ≤ sumN n i + k ∧ OkL L2) := ⟨HJ.out.1.2.2.2.1, HJ.out.1.2.2.2.2, HJ.out.1.2.2.1⟩
              have hab4 : ¬ ab = b := by omega
              by_cases hD0 : D = 0
              · subst hD0
                obtain ⟨E, hE⟩ : ∃ E, pinE (cL L2) G = E := ⟨_, rfl⟩
                have HPin : Seal (∀ W, PinAt W p b m2 (cL L2) → Calls Try.prog 10 #[.pointer (some ⟨p, 0, none⟩), .int .u64 (G : Nat)] W fun e w' => e = .returned (.int .i64 (E : Nat)) ∧ PinAt w' p b (m2 + 1) (cL (pinL L2 G)) ∧ Keep (fun k => k = b) W w') := ⟨fun W h => hE ▸ PinL_at h (by have := HM.out.2.1; omega) hg⟩
                have HDPin : Seal (∀ W, DocP W r L2 → Calls Try.prog 18 #[.pointer (some ⟨r, 0, none⟩), .int .u64 (G : Nat)] W fun e w' => e = .returned (.int .i64 (E : Nat)) ∧ DocP w' r (pinL L2 G) ∧ Keep (fun k => k = r) W w') := ⟨fun W h => hE ▸ DPinL_at h HM.out.2.2 (by have := HM.out.1; have := HM.out.2.1; omega) hg⟩
                have hee : ((E : Int) != (E : Int)) = false := by simp
                have K0 : Keep Nope wr wr := Keep.refl _ _
                have HP0 : Seal _ := ⟨HJ.out.1.1⟩
                have HD0 : Seal _ := ⟨HJ.out.1.2.1⟩
                have HKj : Seal _ := ⟨HJ.out.2⟩
                have HO2 : Seal (OkL (pinL L2 G) ∧ (pinL L2 G).length ≤ m2 + 1) := ⟨HM.out.2.2.pin hg, by have := pinL_len L2 G; have := HM.out.1; omega⟩
                clear hE HJ
                go_wp2_with fail
                refine wp_region_held_drew (S := fun w' => w'.cell? ⟨ab, o + i * 3, none⟩ = some (.int .i64 0) ∧ w'.cell? ⟨ab, o + i * 3 + 2, none⟩ = some (.int .u64 (G : Nat))) (by kernel_rfl) ?_ (fun hHeld => ?_)
                · (try dsimp only); (first | exact ⟨y0, y2⟩ | exact ⟨K0.drew.cell y0 (fun h => h), K0.drew.cell y2 (fun h => h)⟩)
                refine tko 0 ?_; refine tko 1 ?_; refine tko 2 ?_; refine tko 3 ?_; refine tko 4 ?_; refine tko 5 ?_; refine tko 6 ?_; refine tko 7 ?_; refine tko 8 ?_; refine tko 9 ?_; refine tko 10 ?_; refine tko 11 ?_; refine tko 12 ?_; refine tko 13 ?_; refine tko 14 ?_; refine tko 15 ?_; refine tko 17 ?_; refine tko 18 ?_; refine tko 19 ?_; refine tko 20 ?_; refine tko 21 ?_; refine tko 22 ?_
                try simp only [Act.put, List.setIfInBounds_toArray, List.set_cons_zero, List.set_cons_succ]
                refine wpAnyH_ready (rs := [16]) (by kernel_rfl) (by simp) ?_
                refine ready_held rfl (fun K hK => ?_)
                go_simp
                go_at_call 10
                refine (HPin.out _ (HP0.out.keep (S := Nope) K0.drew (fun h => h) (fun h => h))).mono ?_
                rintro e w2 ⟨rfl, h2, k2⟩
                dsimp only
                have K2 : Keep (fun k => k = b) wr w2 := (K0.drew.of_not _).trans k2 (fun _ _ h => h)
                have HP2 : Seal _ := ⟨h2⟩
                have HD2 : Seal _ := ⟨HD0.out.keep HP0.out K2⟩
                clear h2 k2
                refine hK _ _ ?_ (fun hHeld => ?_)
                · (try dsimp only); (exact ⟨K2.cell y0 hab4, K2.cell y2 hab4⟩)
                clear hK K
                try simp only [Act.put, List.setIfInBounds_toArray, List.set_cons_zero, List.set_cons_succ]
                refine wpAnyH_ready (rs := [23]) (by kernel_rfl) (by simp) ?_
                refine ready_held rfl (fun K hK => ?_)
                go_simp
                go_at_call 18
                refine (HDPin.out _ HD2.out).mono ?_
                rintro e w3 ⟨rfl, h3, k3⟩
                dsimp only
                have HD3 : Seal _ := ⟨h3⟩
                have HP3 : Seal _ := ⟨PinAt.keepD HP2.out HD2.out k3⟩
                have HK3 : Seal (Keep Nope w' w3) := ⟨(HKj.out.trans K2 (fun x hx e => by omega)).trans k3 (fun x hx e => by omega)⟩
                clear h3
                refine hK _ _ ?_ (fun hHeld => ?_)
                · (try dsimp only); (exact ⟨k3.cell (K2.cell y0 hab4) har, k3.cell (K2.cell y2 hab4) har⟩)
                clear hK K
                try simp only [Act.put, List.setIfInBounds_toArray, List.set_cons_zero, List.set_cons_succ]
                refine tko 24 ?_; refine tko 25 ?_; refine tko 26 ?_; refine tko 27 ?_; refine tko 28 ?_; refine tko 29 ?_; refine tko 30 ?_; refine tko 31 ?_; refine tko 32 ?_; refine tko 33 ?_; refine tko 34 ?_
                try simp only [Act.put, List.setIfInBounds_toArray, List.set_cons_zero, List.set_cons_succ]
                refine sk 35 rfl ?_
                refine sk 36 rfl ?_
                refine sk 37 rfl ?_
                refine sk 38 rfl ?_
                refine sk 39 rfl ?_
                refine sk 40 rfl ?_
                refine sk 41 rfl ?_
                refine sk 42 rfl ?_
                refine sk 43 rfl ?_
                refine sk 44 rfl ?_
                refine sk 45 rfl ?_
                refine sk 46 rfl ?_
                refine sk 47 rfl ?_
                refine sk 48 rfl ?_
                refine sk 49 rfl ?_
                try simp only [Act.put, List.setIfInBounds_toArray, List.set_cons_zero, List.set_cons_succ]
                refine tko 50 ?_; refine tko 51 ?_
                try simp only [Act.put, List.setIfInBounds_toArray, List.set_cons_zero, List.set_cons_succ]
                refine wpAnyH_done (by kernel_rfl) ?_ _
                go_wp2_with fail
                exact ⟨⟨k + 1, m2 + 1, _, by omega, by go_num, ⟨⟨HP3.out, HD3.out, HO2.out.1, HO2.out.2, by have := HM.out.2.1; omega⟩, HK3.out⟩⟩, by simp only [intOf]; omega⟩
              · by_cases hD1 : D = 1
                · subst hD1
                  obtain ⟨E, hE⟩ : ∃ E, unE (cL L2) G = E := ⟨_, rfl⟩
                  have HPin : Seal (∀ W, PinAt W p b m2 (cL L2) → Calls Try.prog 11 #[.pointer (some ⟨p, 0, none⟩), .int .u64 (G : Nat)] W fun e w' => e = .returned (.int .i64 (E : Nat)) ∧ PinAt w' p b (m2 + 1) (cL (L2.erase G)) ∧ Keep (fun k => k = b) W w') := ⟨fun W h => hE ▸ UnpinL_at h (by have := HM.out.2.1; omega) hg (by have := HM.out.1; have := HM.out.2.1; omega)⟩
                  have HDPin : Seal (∀ W, DocP W r L2 → Calls Try.prog 19 #[.pointer (some ⟨r, 0, none⟩), .int .u64 (G : Nat)] W fun e w' => e = .returned (.int .i64 (E : Nat)) ∧ DocP w' r (L2.erase G) ∧ Keep (fun k => k = r) W w') := ⟨fun W h => hE ▸ DUnpinL_at h (by have := HM.out.1; have := HM.out.2.1; omega) hg⟩
                  have hee : ((E : Int) != (E : Int)) = false := by simp
                  have K0 : Keep Nope wr wr := Keep.refl _ _
                  have HP0 : Seal _ := ⟨HJ.out.1.1⟩
                  have HD0 : Seal _ := ⟨HJ.out.1.2.1⟩
                  have HKj : Seal _ := ⟨HJ.out.2⟩
                  have HO2 : Seal (OkL (L2.erase G) ∧ (L2.erase G).length ≤ m2 + 1) := ⟨HM.out.2.2.erase G, by have := erase_len L2 G; have := HM.out.1; omega⟩
                  clear hE HJ
                  go_wp2_with fail
                  refine wp_region_held_drew (S := fun w' => w'.cell? ⟨ab, o + i * 3, none⟩ = some (.int .i64 1) ∧ w'.cell? ⟨ab, o + i * 3 + 2, none⟩ = some (.int .u64 (G : Nat))) (by kernel_rfl) ?_ (fun hHeld => ?_)
                  · (try dsimp only); (first | exact ⟨y0, y2⟩ | exact ⟨K0.drew.cell y0 (fun h => h), K0.drew.cell y2 (fun h => h)⟩)
                  refine tko 0 ?_; refine tko 1 ?_; refine tko 2 ?_; refine tko 3 ?_; refine tko 4 ?_; refine tko 5 ?_; refine tko 6 ?_; refine tko 7 ?_; refine tko 8 ?_; refine tko 9 ?_
                  try simp only [Act.put, List.setIfInBounds_toArray, List.set_cons_zero, List.set_cons_succ]
                  refine sk 10 rfl ?_
                  refine sk 11 rfl ?_
                  refine sk 12 rfl ?_
                  refine sk 13 rfl ?_
                  refine sk 14 rfl ?_
                  refine sk 15 rfl ?_
                  refine sk 16 rfl ?_
                  refine sk 17 rfl ?_
                  refine sk 18 rfl ?_
                  refine sk 19 rfl ?_
                  refine sk 20 rfl ?_
                  refine sk 21 rfl ?_
                  refine sk 22 rfl ?_
                  refine sk 23 rfl ?_
                  refine sk 24 rfl ?_
                  try simp only [Act.put, List.setIfInBounds_toArray, List.set_cons_zero, List.set_cons_succ]
                  refine tko 25 ?_; refine tko 26 ?_; refine tko 27 ?_; refine tko 28 ?_; refine tko 29 ?_; refine tko 30 ?_; refine tko 31 ?_; refine tko 32 ?_; refine tko 33 ?_; refine tko 34 ?_; refine tko 35 ?_; refine tko 36 ?_; refine tko 37 ?_; refine tko 38 ?_; refine tko 39 ?_; refine tko 40 ?_; refine tko 42 ?_; refine tko 43 ?_; refine tko 44 ?_; refine tko 45 ?_; refine tko 46 ?_; refine tko 47 ?_
                  try simp only [Act.put, List.setIfInBounds_toArray, List.set_cons_zero, List.set_cons_succ]
                  refine wpAnyH_ready (rs := [41]) (by kernel_rfl) (by simp) ?_
                  refine ready_held rfl (fun K hK => ?_)
                  go_simp
                  go_at_call 11
                  refine (HPin.out _ (HP0.out.keep (S := Nope) K0.drew (fun h => h) (fun h => h))).mono ?_
                  rintro e w2 ⟨rfl, h2, k2⟩
                  dsimp only
                  have K2 : Keep (fun k => k = b) wr w2 := (K0.drew.of_not _).trans k2 (fun _ _ h => h)
                  have HP2 : Seal _ := ⟨h2⟩
                  have HD2 : Seal _ := ⟨HD0.out.keep HP0.out K2⟩
                  clear h2 k2
                  refine hK _ _ ?_ (fun hHeld => ?_)
                  · (try dsimp only); (exact ⟨K2.cell y0 hab4, K2.cell y2 hab4⟩)
                  clear hK K
                  try simp only [Act.put, List.setIfInBounds_toArray, List.set_cons_zero, List.set_cons_succ]
                  refine wpAnyH_ready (rs := [48]) (by kernel_rfl) (by simp) ?_
                  refine ready_held rfl (fun K hK => ?_)
                  go_simp
                  go_at_call 19
                  refine (HDPin.out _ HD2.out).mono ?_
                  rintro e w3 ⟨rfl, h3, k3⟩
                  dsimp only
                  have HD3 : Seal _ := ⟨h3⟩
                  have HP3 : Seal _ := ⟨PinAt.keepD HP2.out HD2.out k3⟩
                  have HK3 : Seal (Keep Nope w' w3) := ⟨(HKj.out.trans K2 (fun x hx e => by omega)).trans k3 (fun x hx e => by omega)⟩
                  clear h3
                  refine hK _ _ ?_ (fun hHeld => ?_)
                  · (try dsimp only); (exact ⟨k3.cell (K2.cell y0 hab4) har, k3.cell (K2.cell y2 hab4) har⟩)
                  clear hK K
                  try simp only [Act.put, List.setIfInBounds_toArray, List.set_cons_zero, List.set_cons_succ]
                  refine tko 49 ?_; refine tko 50 ?_; refine tko 51 ?_
                  try simp only [Act.put, List.setIfInBounds_toArray, List.set_cons_zero, List.set_cons_succ]
                  refine wpAnyH_done (by kernel_rfl) ?_ _
                  go_wp2_with fail
                  exact ⟨⟨k + 1, m2 + 1, _, by omega, by go_num, ⟨⟨HP3.out, HD3.out, HO2.out.1, HO2.out.2, by have := HM.out.2.1; omega⟩, HK3.out⟩⟩, by simp only [intOf]; omega⟩
                · have _ := 0
                  have d0 : (D == 0) = false := by simp; omega
                  have d1 : (D == 1) = false := by simp; omega
                  have HJ2 : Seal (TwoT wr p b r m2 L2 (sumN n i + (k + 1)) ∧ Keep Nope w' wr) := ⟨HJ.out.1.more (by omega), HJ.out.2⟩
                  clear HJ
                  go_wp2_with fail
                  go_quiet (fail)
                  go_wp2_with fail
                  exact ⟨⟨k + 1, m2, L2, by omega, by go_num, ⟨HJ2.out.1.keepN (Keep.of_drewN _), HJ2.out.2.thenU (Keep.of_drewN _)⟩⟩, by simp only [intOf]; omega⟩
            · have hkq' : ¬ (k : Int) < q := by omega
              have HE : Seal (TwoT wr p b r m2 L2 (sumN n (i + 1)) ∧ Keep Nope w' wr) := ⟨HJ.out.1.more (by rw [HQ.out]; omega), HJ.out.2⟩
              have HL2 : Seal (L2.length < 1000000) := ⟨by have := HJ.out.1.2.2.2.1; have := HJ.out.1.2.2.2.2; omega⟩
              clear HJ
              go_wp2_with fail
              refine (Same17_at HE.out.1.1 HE.out.1.2.1 HE.out.1.2.2.1 HL2.out).mono ?_
              rintro e w6 ⟨rfl, k6⟩
              have HE2 : Seal _ := ⟨HE.out.1.keepN k6⟩
              have HKe : Seal _ := ⟨HE.out.2.thenU k6⟩
              clear k6 HE
              go_wp2_with fail
              exact ⟨⟨i + 1, p, b, m2, L2, by omega, rfl, by go_num, hbw, ⟨HE2.out, HKe.out⟩⟩, by simp only [intOf]; omega⟩
      · have hil' : ¬ (i : Int) < (len : Int) := by omega
        obtain ⟨C, hC⟩ : ∃ C, cL L X = C := ⟨_, rfl⟩
        have HC1 : Seal _ := ⟨Count_at HI.out.1.1 hX⟩
        have HC2 : Seal _ := ⟨DCount_at HI.out.1.2.1 (by have := HI.out.1.2.2.2.1; have := HI.out.1.2.2.2.2; have := HN1.out i hi; omega) HI.out.1.2.2.1.2 X hX⟩
        rw [hC] at HC1
        rw [show L.count X = C from hC] at HC2
        have hcc : ((C : Int) == (C : Int)) = true := by simp
        have HK6 : Seal _ := ⟨HI.out.2⟩
        clear HI hC
        go_wp2_with fail
        refine HC1.out.mono ?_
        rintro e _ ⟨rfl, rfl⟩
        go_wp2_with fail
        refine HC2.out.mono ?_
        rintro e _ ⟨rfl, rfl⟩
        go_wp2_with fail
        refine (alive17 _).mono ?_
        rintro e w5 ⟨rfl, k5⟩
        have HK5 : Seal _ := ⟨HK6.out.thenU k5⟩
        clear k5
        go_wp2_with fail
        exact bodyPost_ret (v := .bool true) (by simp [results, Try.results5, go_sem]) rfl ⟨rfl, HK5.out⟩

end Go.Proofs.Ytapmbignpdkfbaa
