/-
  Free of package fit.
-/
import Derived.Test.YtafjebdjdmlahaaDoorFitFirst
namespace Go.Proofs.YtafjebdjdmlahaaDoor
open Go.RowKit
set_option linter.unusedVariables false
attribute [local go_sem] Oper.semAt_some

/-- How many of d granules from s on are not black. -/
def cntW (blk : Nat → Bool) (s : Nat) : Nat → Nat
  | 0 => 0
  | d + 1 => cntW blk s d + (if blk (s + d) then 0 else 1)

theorem cntW_le (blk : Nat → Bool) (s : Nat) : ∀ d, cntW blk s d ≤ d
  | 0 => Nat.le_refl _
  | d + 1 => by rw [cntW]; have := cntW_le blk s d; split <;> omega

/-- How many granules of gaps are not black. -/
def freeOf (blk : Nat → Bool) : List Cel → Nat
  | [] => 0
  | c :: cs => cntW blk c.g c.sz + freeOf blk cs

theorem freeOf_app (blk : Nat → Bool) : ∀ (xs : List Cel) (x : Cel), freeOf blk (xs ++ [x]) = freeOf blk xs + cntW blk x.g x.sz
  | [], x => by simp [freeOf]
  | y :: xs, x => by rw [List.cons_append, freeOf, freeOf, freeOf_app blk xs x]; omega

theorem freeOf_le (blk : Nat → Bool) : ∀ {xs cs : List Cel} {a b : Nat}, Tiles a cs b → xs <+: gapsOf cs → freeOf blk xs ≤ b - a
  | [], cs, a, b, h, hp => Nat.zero_le _
  | x :: xs, [], a, b, h, hp => by
    obtain ⟨t, ht⟩ := hp
    simp [gapsOf] at ht
  | x :: xs, c :: cs, a, b, ⟨h1, h2, h3⟩, hp => by
    have hle := h3.le
    by_cases ht : c.tag = 1
    · have e : gapsOf (c :: cs) = gapsOf cs := by simp [gapsOf, ht]
      rw [e] at hp
      have := freeOf_le blk h3 hp
      omega
    · have e : gapsOf (c :: cs) = c :: gapsOf cs := by simp [gapsOf, ht]
      rw [e] at hp
      obtain ⟨t, ht'⟩ := hp
      simp only [List.cons_append, List.cons.injEq] at ht'
      obtain ⟨rfl, ht'⟩ := ht'
      have := freeOf_le blk h3 ⟨t, ht'⟩
      have h5 := cntW_le blk x.g x.sz
      rw [freeOf]
      omega
termination_by xs cs => cs.length

/-- A list's or no list's Has. -/
def HasC (bv : Value) (blk : Nat → Bool) (n : Nat) (w' : World) : Prop :=
  ∀ i : Nat, i < n → Calls Tryd.prog 45 #[bv, .int .i64 (i : Nat)] w' fun e w'' => e = .returned (.bool (blk i)) ∧ Keep Nope w' w''

theorem has_blk {w : World} {bv : Value} {n : Nat} {blk : Nat → Bool} (h : BlkAt w bv n blk) : HasC bv blk n w := by
  intro i hi
  rcases h with ⟨rfl, rfl⟩ | ⟨b, p0, q0, p1, q1, f0, f1, rfl, hb, rfl⟩
  · exact (BHas_nil (i : Nat) w).mono fun e w' hp => ⟨hp.1, by rw [← hp.2]; exact Keep.refl _ _⟩
  · refine (BHas_at (i : Nat) b p0 q0 p1 q1 n f0 f1 w hb).mono fun e w' hp => ⟨?_, hp.2⟩
    rw [hp.1]
    have : ∀ f : Nat → Bool, hasI f n (i : Nat) = f i := fun f => by
      simp only [hasI]
      rw [decide_eq_true (show (0 : Int) ≤ (i : Nat) ∧ ((i : Nat) : Int) < (n : Nat) by omega)]
      simp
    rw [this, this]

/-- The blocks of a list lie below. -/
theorem BlkAt.keepB {w w' : World} {v : Value} {n z : Nat} {blk : Nat → Bool} {S : Nat → Prop} (h : BlkAt w v n blk) (k : Keep S w w') (hS : ∀ b, b < w.heap.size → ¬ S b) : BlkAt w' v n blk := by
  rcases h with h | ⟨b, p0, q0, p1, q1, f0, f1, h1, h2, h3⟩
  · exact .inl h
  · refine .inr ⟨b, p0, q0, p1, q1, f0, f1, h1, h2.keep k (hS _ (lt_of_heap h2.hb)) (hS _ h2.h0.lt_p') (hS _ h2.h0.lt_q') (hS _ h2.h1.lt_p') (hS _ h2.h1.lt_q'), h3⟩

theorem check_blk {w : World} {P : Sp} {cs : List Cel} {bv : Value} {blk : Nat → Bool} (h : SpaceHas w P cs) (hb : BlkAt w bv (P.n / 2) blk) :
    Calls Tryd.prog 40 #[.pointer (some ⟨P.s, 0, none⟩), bv] w fun e w'' => e = .returned (.int .i64 0) ∧ w'' = w := by
  obtain ⟨_, _, h1, _⟩ := h
  rcases hb with ⟨rfl, rfl⟩ | ⟨b, p0, q0, p1, q1, f0, f1, rfl, hb, rfl⟩
  · exact check_bare P.s w
  · have := check_at P _ _ b p0 q0 p1 q1 _ f0 f1 w h1 hb
    rw [if_pos rfl] at this
    exact this

def FreePost (n : Nat) (w : World) (e : Ending) (w' : World) : Prop :=
  e = .returned (.tuple #[.int .i64 (n : Nat), .int .i64 0]) ∧ Keep Nope w w'

/-- Behind some gaps. -/
def FreeI (blk : Nat → Bool) (m : Nat) (wl : World) (pre : List Cel) (W' : World) : Prop :=
  W'.heap[m + 1]? = some (.cells #[.int .i64 (freeOf blk pre : Nat)] 3 (0, 0)) ∧ Keep (fun b => b = m + 1) wl W'

/-- Inside a gap. -/
def FreeJ (blk : Nat → Bool) (m acc g sz : Nat) (w2 : World) (y : Value) (wr : World) : Prop :=
  ∃ q t, g ≤ q ∧ q ≤ g + sz ∧ y = .int .i64 (q : Nat) ∧ t = acc + cntW blk g (q - g) ∧ wr.heap[m + 1]? = some (.cells #[.int .i64 (t : Nat)] 3 (0, 0)) ∧ Keep (fun b => b = m + 1) w2 wr

set_option maxRecDepth 20000 in
set_option maxHeartbeats 8000000 in
theorem FFree_at (P : Sp) (cs : List Cel) (bv : Value) (blk : Nat → Bool) (w : World) (h : SpaceHas w P cs) (hb : BlkAt w bv (P.n / 2) blk) :
    Calls Tryd.prog 23 #[.pointer (some ⟨P.s, 0, none⟩), bv] w (FreePost (freeOf blk (gapsOf cs)) w) := by
  have hlen : cs.length ≤ 32768 := by
    obtain ⟨_, _, h1, h2, _⟩ := h
    have := tiles_len h2.tl
    have := h1.ar.small
    omega
  have hfin : ∀ c ∈ cs, c.g + c.sz ≤ P.n / 2 ∧ P.n / 2 ≤ 32768 := by
    intro c hc
    obtain ⟨_, _, h1, h2, _⟩ := h
    have := h2.tl.mem hc
    have := h1.ar.small
    exact ⟨by omega, by omega⟩
  have hfree : ∀ pre, pre <+: gapsOf cs → freeOf blk pre ≤ 32768 := by
    intro pre hp
    obtain ⟨_, _, h1, h2, _⟩ := h
    have := freeOf_le blk h2.tl hp
    have := h1.ar.small
    omega
  have HH : Seal _ := ⟨h⟩
  have HB0 : Seal _ := ⟨hb⟩
  have HFin : Seal _ := ⟨hfin⟩
  have HFr : Seal _ := ⟨hfree⟩
  have lts := h.lt P.s (by simp [Sp.all])
  clear hfin hfree
  obtain ⟨bn, hbn⟩ : ∃ bn, bv = .pointer bn := by
    rcases hb with ⟨h, _⟩ | ⟨b, _, _, _, _, _, _, h, _⟩
    · exact ⟨_, h⟩
    · exact ⟨_, h⟩
  subst hbn
  clear h hb
  obtain ⟨w5, hw5⟩ : ∃ w5, w5 = (w.alloc (.cells #[.pointer bn] 55)).alloc (.cells #[.int .i64 0] 3) := ⟨_, rfl⟩
  have k5 : Keep Nope w w5 := by rw [hw5]; exact ((Keep.refl _ w).alloc _).alloc _
  have g0 : w5.heap[w.heap.size]? = some (.cells #[.pointer bn] 55 (0, 0)) := by
    rw [hw5]; exact ((Keep.refl Nope _).alloc _).at_ (World.alloc_heap_new w _) (fun h => h)
  have g1 : w5.heap[w.heap.size + 1]? = some (.cells #[.int .i64 0] 3 (0, 0)) := by
    rw [hw5]; exact alloc_new' _ _ (by simp)
  have z5 : w5.heap.size = w.heap.size + 1 + 1 := by rw [hw5]; simp
  refine (callsIn_wide (n := 0)).1 ?_
  refine callsIn_of_wp_marks Tryd.func23 rfl trivial ?_
  simp only [Tryd.ntmps23, List.size_toArray, List.length_cons, List.length_nil, Nat.reduceAdd, Nat.reduceSub, Array.replicate_succ, Array.replicate_zero, List.push_toArray, List.append_toArray, List.nil_append, List.cons_append]
  have HCk : Seal _ := ⟨check_blk (HH.out.keepN k5) (HB0.out.keepN k5)⟩
  have HG : Seal _ := ⟨And.intro g0 g1⟩
  have c0 := cell_of_one g0
  have c1 := cell_of_one g1
  have HZ5 : Seal _ := ⟨z5⟩
  clear g0 g1 z5
  gi_wp2_with fail
  rw [← hw5]
  obtain ⟨m, hm⟩ : ∃ m, w.heap.size = m := ⟨_, rfl⟩
  rw [hm] at HG c0 c1 HZ5 ⊢
  have HM : Seal _ := ⟨hm⟩
  rw [hm] at lts
  clear hw5 hm
  refine ⟨trivial, rfl, ?_⟩
  refine (callsIn_wide.2 HCk.out).mono ?_
  rintro e w6 ⟨rfl, rfl⟩
  gi_wp2_with fail
  clear c0 c1
  refine ⟨trivial, rfl, ?_⟩
  refine (callsIn_wide.2 (free_fn P.s w6)).mono ?_
  rintro e wl ⟨rfl, hwl⟩
  have hzl : wl.heap.size = w6.heap.size + 1 := by rw [← hwl]; simp
  have kl : Keep Nope w6 wl := by rw [← hwl]; exact (Keep.refl _ w6).alloc _
  have gbx : wl.heap[w6.heap.size]? = some (.cells #[.pointer (some ⟨P.s, 0, none⟩)] 30 (0, 0)) := by rw [← hwl]; exact World.alloc_heap_new w6 _
  clear hwl
  rw [HZ5.out] at gbx hzl
  rw [HZ5.out]
  have KL : Keep Nope w wl := k5.then' kl
  have b0 := kl.at_ HG.out.1 (fun h => h)
  have b1 := kl.at_ HG.out.2 (fun h => h)
  have HB : Seal _ := ⟨And.intro b0 b1⟩
  have HKL : Seal _ := ⟨KL⟩
  have HSL : Seal _ := ⟨HH.out.keepN KL⟩
  have HBL : Seal (∀ w', Keep (fun b => b = m + 1) wl w' → HasC (.pointer bn) blk (P.n / 2) w') := ⟨fun w' hw' => has_blk (BlkAt.keepB (z := 0) HB0.out ((KL.of_not (fun b => b = m + 1)).trans hw' (fun b hb h => h)) (fun b hb h => by rw [HM.out] at hb; omega))⟩
  clear b0 b1 kl k5 KL HCk
  gi_wp2_with fail
  refine wpIn_range2 (n := 0) (gf := 67) (lb := #[.pointer (some ⟨m + 1 + 1, 0, none⟩)]) rfl (enters_of Tryd.func67 (by kernel_rfl) rfl)
    (free_iter P cs wl (m + 1 + 1) HSL.out gbx (R := fun k => k = m + 1) (X := fun k => k = m + 1) (fun k hk => by omega) hlen) (fun k hk => hk.elim) (fun k hk => by omega)
    (fun k hk => by omega) (fun k hk => hk) (fun _ => rfl)
    (fun pre W' => FreeI blk m wl pre W') (fun c pre W' => False) ?hI ?hIx ?h0 ?hround ?hdone ?hstop
  case hI =>
    rintro pre A B ⟨a1, a2⟩ hk
    exact ⟨hk.at_ a1 (fun h => by rcases h with h | h | h; exact h; omega; omega), a2.trans hk (fun b hb h => by rcases h with h | h | h; exact h.elim; omega; omega)⟩
  case hIx => exact fun c pre A B h hk => h
  case h0 => exact ⟨HB.out.2, Keep.refl _ _⟩
  case hround =>
    rintro pre x rest W' hx ⟨hA, hK⟩ hs
    have hxm : x ∈ cs := by
      have : x ∈ gapsOf cs := by rw [hx]; simp
      exact (List.mem_filter.1 this).1
    obtain ⟨f1, f2⟩ := HFin.out x hxm
    have hac := HFr.out pre ⟨_, hx.symm⟩
    obtain ⟨acc, hacc⟩ : ∃ acc, freeOf blk pre = acc := ⟨_, rfl⟩
    rw [hacc] at hA hac
    have HAcc : Seal _ := ⟨hacc⟩
    unfold cellV
    gi_wp2_with fail
    refine ⟨(Keep.refl _ W').alloc _, ?_⟩
    intro W2 hc2 hf2 hk2 hs2 hr2
    have kW : Keep Nope W' (W'.alloc (.cells #[.int .i64 (x.g : Nat), .int .u8 (x.tag : Nat), .int .i64 (x.ty : Nat), .int .i64 (x.ln : Nat), .int .i64 (x.sz : Nat)] 45)) := (Keep.refl _ W').alloc _
    have bc := hk2.at_ (World.alloc_heap_new W' (.cells #[.int .i64 (x.g : Nat), .int .u8 (x.tag : Nat), .int .i64 (x.ty : Nat), .int .i64 (x.ln : Nat), .int .i64 (x.sz : Nat)] 45)) (by omega)
    have hzW := hK.size
    have N2 : Keep (fun b => b = m + 1) wl W2 := ((hK.trans kW (fun b hb h => h.elim)).trans hk2 (fun b hb h => by omega))
    have hA2 := hk2.at_ (kW.at_ hA (fun h => h)) (by omega)
    have n0 := cell_of_one (N2.at_ HB.out.1 (by omega))
    have d0 : W2.cell? ⟨W'.heap.size, 0, none⟩ = some (.int .i64 (x.g : Nat)) := by simp [World.cell?, bc]
    have d4 : W2.cell? ⟨W'.heap.size, 4, none⟩ = some (.int .i64 (x.sz : Nat)) := by simp [World.cell?, bc]
    have HN2 : Seal _ := ⟨N2⟩
    have HA2 : Seal _ := ⟨hA2⟩
    have HBc : Seal _ := ⟨bc⟩
    have hzz : W'.heap.size < W2.heap.size := lt_of_heap bc
    have HX : Seal _ := ⟨hx⟩
    clear hc2 hf2 hs2 kW bc hx N2 hK hk2 hA hA2 hacc
    gi_wp2_with fail
    gi_loopw [8] (fun y wr => FreeJ blk m acc x.g x.sz W2 y wr) (fun y wr => x.g + x.sz - (intOf y).toNat)
    case atStart => exact ⟨x.g, acc, Nat.le_refl _, by omega, rfl, by rw [Nat.sub_self]; rfl, HA2.out, Keep.refl _ _⟩
    case round =>
      obtain ⟨q, t, hq1, hq2, rfl, hT, hA, hK⟩ := hrel
      have HT : Seal _ := ⟨hT⟩
      have ht2 : t ≤ 65536 := by have := cntW_le blk x.g (q - x.g); omega
      replace d0 := hK.cell d0 (by dsimp only; omega)
      replace d4 := hK.cell d4 (by dsimp only; omega)
      replace n0 := hK.cell n0 (by dsimp only; omega)
      have cA := cell_of_one hA
      have fA := free_of_one hA
      have HA : Seal _ := ⟨hA⟩
      clear hT hA
      by_cases hdl : q < x.g + x.sz
      · have t1 : decide ((q : Int) < (x.g : Int) + (x.sz : Int)) = true := decide_eq_true (by omega)
        have HC : Seal _ := ⟨HBL.out wr (HN2.out.trans hK (fun b hb h => h)) q (by omega)⟩
        have HS : Seal (cntW blk x.g (q + 1 - x.g) = cntW blk x.g (q - x.g) + (if blk q then 0 else 1)) := ⟨by
          rw [show q + 1 - x.g = (q - x.g) + 1 by omega, cntW, show x.g + (q - x.g) = q by omega]⟩
        gi_wp2_with fail
        refine ⟨trivial, rfl, ?_⟩
        refine (callsIn_round HC.out).mono ?_
        rintro e w3 ⟨rfl, k3⟩
        have hA3 := k3.at_ HA.out (fun h => h)
        have K3 : Keep (fun b => b = m + 1) W2 w3 := hK.trans k3 (fun b hb h => h.elim)
        replace cA := cell_of_one hA3
        replace fA := free_of_one hA3
        have HA3 : Seal _ := ⟨hA3⟩
        clear hA3 k3 d0 d4 n0
        cases hbk : blk q with
        | false =>
          have HS' : Seal (cntW blk x.g (q + 1 - x.g) = cntW blk x.g (q - x.g) + 1) := ⟨by rw [HS.out, hbk]; rfl⟩
          clear hbk
          gi_wp2_with fail
          refine ⟨⟨q + 1, t + 1, by omega, by omega, by go_num, by rw [HS'.out]; have := HT.out; omega, ?_, K3.setCell (fun _ => rfl) _⟩, by simp only [intOf]; omega⟩
          have := one_setCell (u := .int .i64 ((t : Int) + 1)) HA3.out
          rw [show (((t + 1 : Nat)) : Int) = (t : Int) + 1 by omega]
          exact this
        | true =>
          have HS' : Seal (cntW blk x.g (q + 1 - x.g) = cntW blk x.g (q - x.g)) := ⟨by rw [HS.out, hbk]; rfl⟩
          clear hbk
          gi_wp2_with fail
          exact ⟨⟨q + 1, t, by omega, by omega, by go_num, by rw [HS'.out]; have := HT.out; omega, HA3.out, K3⟩, by simp only [intOf]; omega⟩
      · have t1 : decide ((q : Int) < (x.g : Int) + (x.sz : Int)) = false := decide_eq_false (by omega)
        gi_wp2_with fail
        refine ⟨hK, ?_, HN2.out.trans hK (fun b hb h => h)⟩
        rw [freeOf_app, HAcc.out]
        have : t = acc + cntW blk x.g x.sz := by
          have h1 := HT.out
          rwa [show q - x.g = x.sz by omega] at h1
        rw [← this]
        exact HA.out
  case hdone =>
    rintro W' ⟨hA, hK⟩ hs hD
    have cA := cell_of_one hA
    have fA := free_of_one hA
    have HA : Seal _ := ⟨hA⟩
    obtain ⟨T, hT⟩ : ∃ T, freeOf blk (gapsOf cs) = T := ⟨_, rfl⟩
    rw [hT] at cA HA
    have HT : Seal _ := ⟨hT⟩
    clear hA hT
    gi_wp2_with fail
    obtain ⟨w9, hw9⟩ : ∃ w9, w9 = W'.setCell ⟨m + 1, 0, none⟩ (.int .i64 (T : Nat)) := ⟨_, rfl⟩
    rw [← hw9]
    have kB : Keep (fun b => b = m + 1) W' w9 := by rw [hw9]; exact (Keep.refl (fun b => b = m + 1) W').setCell (fun _ => rfl) _
    have s1 : w9.heap[m + 1]? = some (.cells #[.int .i64 (T : Nat)] 3 (0, 0)) := by rw [hw9]; exact one_setCell HA.out
    clear hw9
    refine ⟨by simp, .inl ⟨_, _, rfl, run_takeDeferred (kB.at_ hD (by omega)), ?_⟩⟩
    have kE : Keep (fun b => b = wl.heap.size) w9 (w9.putObj wl.heap.size (.deferred none)) := (Keep.refl (fun b => b = wl.heap.size) w9).putObj (fun _ => rfl) _
    have e1 := cell_of_one (kE.at_ s1 (by omega))
    refine ⟨.tuple #[.int .i64 (T : Nat), .int .i64 0], by simp [results, Tryd.results23, go_sem, e1], ?_, ?_⟩
    · rw [HT.out]
    · exact ((HKL.out.trans hK (fun b hb h => by rw [HM.out] at hb; omega)).trans kB (fun b hb h => by rw [HM.out] at hb; omega)).trans kE (fun b hb h => by rw [HM.out] at hb; omega)
  case hstop => exact fun c pre W' hp h => h.elim

end Go.Proofs.YtafjebdjdmlahaaDoor
