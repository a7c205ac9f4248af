/-
  First of package fit. Printed by tools/fitfirst.py.
-/
import Derived.Test.YtafjebdjdmlahaaDoorFitIter
import Derived.Test.YtafjebdjdmlahaaDoorSpaceDrop
namespace Go.Proofs.YtafjebdjdmlahaaDoor
open Go.RowKit
set_option linter.unusedVariables false
attribute [local go_sem] Oper.semAt_some

/-- The least place between two granules where k have room. -/
def askB (blk : Nat → Bool) (s T k : Nat) : Option Nat := nextB (roomB blk k) (T + 1 - k) s

/-- The least place in gaps. -/
def firstFit (blk : Nat → Bool) (k : Nat) (gs : List Cel) : Option Nat := gs.findSome? fun c => askB blk c.g c.fin k

theorem firstFit_none {blk : Nat → Bool} {k : Nat} {gs : List Cel} (h : ∀ c ∈ gs, askB blk c.g c.fin k = none) : firstFit blk k gs = none := by
  rw [firstFit, List.findSome?_eq_none_iff]; exact h

theorem firstFit_some {blk : Nat → Bool} {k g : Nat} {p rest : List Cel} {x : Cel} (h : ∀ c ∈ p, askB blk c.g c.fin k = none) (hx : askB blk x.g x.fin k = some g) : firstFit blk k (p ++ x :: rest) = some g := by
  rw [firstFit, List.findSome?_append, List.findSome?_eq_none_iff.2 h, Option.none_or, List.findSome?_cons, hx]

theorem nextB_zero (f : Nat → Bool) (i : Nat) : nextB f 0 i = none := by
  rcases nextB_spec f 0 i with ⟨j, h1, h2, h3, h4, h5⟩ | ⟨h1, _⟩
  · omega
  · exact h1

/-- Where nothing is black. -/
theorem askB_bare (s T k : Nat) (hk : 1 ≤ k) : askB (fun _ => false) s T k = if s + k ≤ T then some s else none := by
  have hr : ∀ g, roomB (fun _ => false) k g = true := fun g => roomB_yes (fun _ _ _ => rfl)
  rw [askB]
  rcases nextB_spec (roomB (fun _ => false) k) (T + 1 - k) s with ⟨j, h1, h2, h3, h4, h5⟩ | ⟨h1, h2⟩
  · rw [h1]
    have : j = s := by
      rcases Nat.lt_or_ge s j with h | h
      · have := h5 s (Nat.le_refl _) h
        rw [hr s] at this
        cases this
      · omega
    subst this
    rw [if_pos (by omega)]
  · rw [h1]
    by_cases h : s + k ≤ T
    · have := h2 s (Nat.le_refl _) (by omega)
      rw [hr s] at this
      cases this
    · rw [if_neg h]

theorem firstI_ask (f : Nat → Bool) (n s T k : Nat) (hk : 1 ≤ k) (hT : T ≤ n) : firstI f n (s : Nat) (T : Nat) (k : Nat) = askB f s T k := by
  rw [firstI, askB]
  by_cases h : k ≤ n
  · rw [if_pos (by omega), Int.toNat_natCast, Int.toNat_natCast]
    congr 1
    omega
  · rw [if_neg (by omega), show T + 1 - k = 0 by omega, nextB_zero]

/-- What asking answers. -/
def AskPost (o : Option Nat) (w : World) (e : Ending) (w' : World) : Prop :=
  Keep Nope w w' ∧ ∃ (g : Int) (b : Bool), e = .returned (.tuple #[.int .i64 g, .bool b]) ∧ ((b = true ∧ ∃ j : Nat, g = (j : Nat) ∧ o = some j) ∨ (b = false ∧ o = none))

theorem open_at (s T k : Nat) (w : World) (hk : 1 ≤ k) (hT : T ≤ 65536) (hs : s ≤ T) :
    Calls Tryd.prog 41 #[.agg #[], .int .i64 (s : Nat), .int .i64 (T : Nat), .int .i64 (k : Nat)] w (AskPost (askB (fun _ => false) s T k) w) := by
  rw [askB_bare s T k hk]
  have t1 : decide ((1 : Int) ≤ (k : Int)) = true := decide_eq_true (by omega)
  by_cases h : s + k ≤ T
  · have t2 : decide ((k : Int) ≤ (T : Int) - (s : Int)) = true := decide_eq_true (by omega)
    rw [if_pos h]
    clear h
    go_enter Tryd.func41, Tryd.ntmps41
    go_wp2
    go_ret2
    exact ⟨(Keep.refl _ w).alloc _, _, _, rfl, .inl ⟨rfl, s, rfl, rfl⟩⟩
  · have t2 : decide ((k : Int) ≤ (T : Int) - (s : Int)) = false := decide_eq_false (by omega)
    rw [if_neg h]
    clear h
    go_enter Tryd.func41, Tryd.ntmps41
    go_wp2
    go_ret2
    exact ⟨(Keep.refl _ w).alloc _, _, _, rfl, .inr ⟨rfl, rfl⟩⟩

theorem black_ask (s T k : Nat) (b p0 q0 p1 q1 n : Nat) (f0 f1 : Nat → Bool) (w : World) (hb : BlackAt w b p0 q0 p1 q1 f0 f1 n) (hk : 1 ≤ k) (hT : T ≤ n) :
    Calls Tryd.prog 42 #[.pointer (some ⟨b, 0, none⟩), .int .i64 (s : Nat), .int .i64 (T : Nat), .int .i64 (k : Nat)] w (AskPost (askB (fun i => f0 i || f1 i) s T k) w) := by
  refine (First_int (s : Nat) (T : Nat) (k : Nat) b p0 q0 p1 q1 n f0 f1 w hb).mono ?_
  rintro e w' ⟨rfl, hk'⟩
  rw [firstI_ask _ _ _ _ _ hk hT]
  refine ⟨hk', ?_⟩
  cases h : askB (fun i => f0 i || f1 i) s T k with
  | none => exact ⟨0, false, rfl, .inr ⟨rfl, rfl⟩⟩
  | some j => exact ⟨(j : Nat), true, rfl, .inl ⟨rfl, j, rfl, rfl⟩⟩

/-- What First answers, of at least one granule. -/
def FirstPost (o : Option Nat) (w : World) (e : Ending) (w' : World) : Prop :=
  e = .returned (.tuple #[.int .i64 ((o.getD 0 : Nat) : Int), .int .i64 (if o.isSome then 0 else 4)]) ∧ Keep Nope w w'

/-- How its last round ends. -/
def FirstIx (blk : Nat → Bool) (k m : Nat) (wl : World) (c : Code) (pre : List Cel) (W' : World) : Prop :=
  c = .ret ∧ ∃ (p : List Cel) (x : Cel) (g : Nat), pre = p ++ [x] ∧ (∀ d ∈ p, askB blk d.g d.fin k = none) ∧ askB blk x.g x.fin k = some g ∧
    W'.heap[m + 1]? = some (.cells #[.int .i64 (g : Nat)] 3 (0, 0)) ∧ W'.heap[m + 1 + 1]? = some (.cells #[.int .i64 0] 27 (0, 0)) ∧ Keep (fun b => b = m + 1 ∨ b = m + 1 + 1) wl W'

set_option maxRecDepth 20000 in
set_option maxHeartbeats 8000000 in
theorem FFirst_bare (k : Nat) (P : Sp) (cs : List Cel) (w : World) (h : SpaceHas w P cs) (hk : 1 ≤ k) (hk2 : k ≤ 9223372036854775807) :
    Calls Tryd.prog 20 #[.pointer (some ⟨P.s, 0, none⟩), .pointer none, .int .i64 (k : Nat)] w (FirstPost (firstFit (fun _ => false) k (gapsOf cs)) w) := by
  have hlen : cs.length ≤ 32768 := by
    obtain ⟨_, _, h1, h2, _⟩ := h
    have := tiles_len h2.tl
    have := h1.ar.small
    omega
  have hfin : ∀ c ∈ cs, c.fin ≤ P.n / 2 ∧ c.fin = c.g + c.sz ∧ P.n / 2 ≤ 32768 := by
    intro c hc
    obtain ⟨_, _, h1, h2, _⟩ := h
    have := h2.tl.mem hc
    have := h1.ar.small
    exact ⟨by rw [Cel.fin]; omega, rfl, by omega⟩
  have HH : Seal _ := ⟨h⟩
  have HFin : Seal _ := ⟨hfin⟩
  have lts := h.lt P.s (by simp [Sp.all])
  obtain ⟨blk, hblk⟩ : ∃ blk, (fun _ => false) = blk := ⟨_, rfl⟩
  have HAsk : Seal (∀ w', Keep Nope w w' → ∀ c ∈ cs, Calls Tryd.prog 41 #[.agg #[], .int .i64 (c.g : Nat), .int .i64 (c.fin : Nat), .int .i64 (k : Nat)] w' (AskPost (askB blk c.g c.fin k) w')) :=
    ⟨fun w' hw' c hc => by
      obtain ⟨a1, a2, a3⟩ := hfin c hc
      rw [← hblk]
      exact open_at c.g c.fin k w' hk (by omega) (by omega)⟩
  have HChk : Seal (∀ w', Keep Nope w w' → Calls Tryd.prog 40 #[.pointer (some ⟨P.s, 0, none⟩), .pointer none] w' fun e w'' => e = .returned (.int .i64 0) ∧ w'' = w') := ⟨fun w' _ => check_bare P.s w'⟩
  rw [hblk]
  clear hblk h hfin
  obtain ⟨w5, hw5⟩ : ∃ w5, w5 = ((w.alloc (.cells #[.int .i64 (k : Nat)] 3)).alloc (.cells #[.int .i64 0] 3)).alloc (.cells #[.int .i64 0] 27) := ⟨_, rfl⟩
  have k5 : Keep Nope w w5 := by rw [hw5]; exact (((Keep.refl _ w).alloc _).alloc _).alloc _
  have g0 : w5.heap[w.heap.size]? = some (.cells #[.int .i64 (k : Nat)] 3 (0, 0)) := by
    rw [hw5]; exact ((Keep.refl Nope _).alloc _ |>.alloc _).at_ (World.alloc_heap_new w _) (fun h => h)
  have g1 : w5.heap[w.heap.size + 1]? = some (.cells #[.int .i64 0] 3 (0, 0)) := by
    rw [hw5]; exact ((Keep.refl Nope _).alloc _).at_ (alloc_new' _ _ (by simp)) (fun h => h)
  have g2 : w5.heap[w.heap.size + 1 + 1]? = some (.cells #[.int .i64 0] 27 (0, 0)) := by
    rw [hw5]; exact alloc_new' _ _ (by simp)
  have z5 : w5.heap.size = w.heap.size + 1 + 1 + 1 := by rw [hw5]; simp
  refine (callsIn_wide (n := 0)).1 ?_
  refine callsIn_of_wp_marks Tryd.func20 rfl trivial ?_
  simp only [Tryd.ntmps20, List.size_toArray, List.length_cons, List.length_nil, Nat.reduceAdd, Nat.reduceSub, Array.replicate_succ, Array.replicate_zero, List.push_toArray, List.append_toArray, List.nil_append, List.cons_append]
  have HCk : Seal _ := ⟨HChk.out w5 k5⟩
  have HG : Seal _ := ⟨And.intro g0 (And.intro g1 g2)⟩
  have c0 := cell_of_one g0
  have c1 := cell_of_one g1
  have c2 := cell_of_one g2
  have HZ5 : Seal _ := ⟨z5⟩
  clear g0 g1 g2 z5
  gi_wp2_with fail
  rw [← hw5]
  obtain ⟨m, hm⟩ : ∃ m, w.heap.size = m := ⟨_, rfl⟩
  rw [hm] at HG c0 c1 c2 HZ5 ⊢
  have HM : Seal _ := ⟨hm⟩
  rw [hm] at lts
  clear hw5 hm
  refine ⟨trivial, rfl, ?_⟩
  refine (callsIn_wide.2 HCk.out).mono ?_
  rintro e w6 ⟨rfl, rfl⟩
  have hd1 : decide ((k : Int) < 1) = false := decide_eq_false (by omega)
  gi_wp2_with fail
  rw [HZ5.out]
  obtain ⟨w7, hw7⟩ : ∃ w7, w7 = w6.alloc (.cells #[.func (.func 41) #[.agg #[]] #[]] 95) := ⟨_, rfl⟩
  rw [← hw7]
  have k7 : Keep Nope w6 w7 := by rw [hw7]; exact (Keep.refl _ w6).alloc _
  have q0 : w7.heap[m + 1 + 1 + 1]? = some (.cells #[.func (.func 41) #[.agg #[]] #[]] 95 (0, 0)) := by rw [hw7, ← HZ5.out]; exact World.alloc_heap_new w6 _
  have z7 : w7.heap.size = m + 1 + 1 + 1 + 1 := by rw [hw7, World.size_alloc, HZ5.out]
  clear hw7 c0 c1 c2
  refine ⟨trivial, rfl, ?_⟩
  refine (callsIn_wide.2 (free_fn P.s w7)).mono ?_
  rintro e wl ⟨rfl, hwl⟩
  have hzl : wl.heap.size = w7.heap.size + 1 := by rw [← hwl]; simp
  have kl : Keep Nope w7 wl := by rw [← hwl]; exact (Keep.refl _ w7).alloc _
  have gbx : wl.heap[w7.heap.size]? = some (.cells #[.pointer (some ⟨P.s, 0, none⟩)] 30 (0, 0)) := by rw [← hwl]; exact World.alloc_heap_new w7 _
  clear hwl
  rw [z7] at gbx hzl
  rw [z7]
  clear z7
  have K6L : Keep Nope w6 wl := k7.then' kl
  have KL : Keep Nope w wl := k5.then' K6L
  have SL := HH.out.keepN KL
  have b0 := K6L.at_ HG.out.1 (fun h => h)
  have b1 := K6L.at_ HG.out.2.1 (fun h => h)
  have b2 := K6L.at_ HG.out.2.2 (fun h => h)
  have bq := kl.at_ q0 (fun h => h)
  have HB : Seal _ := ⟨And.intro b0 (And.intro b1 (And.intro b2 bq))⟩
  have HKL : Seal _ := ⟨KL⟩
  have HSL : Seal _ := ⟨SL⟩
  clear b0 b1 b2 bq q0 k7 kl K6L k5 KL SL HCk HChk
  gi_wp2_with fail
  refine wpIn_range2 (n := 0) (gf := 67) (lb := #[.pointer (some ⟨m + 1 + 1 + 1 + 1, 0, none⟩)]) rfl (enters_of Tryd.func67 (by kernel_rfl) rfl)
    (free_iter P cs wl (m + 1 + 1 + 1 + 1) HSL.out gbx (R := Nope) (X := fun k => k = m + 1 ∨ k = m + 1 + 1) (fun k hk => hk.elim) hlen) (fun k hk => hk.elim) (fun k hk => hk.elim)
    (fun k hk => by omega) (fun k hk => hk.elim) (fun _ => rfl)
    (fun pre W' => Keep Nope wl W' ∧ ∀ c ∈ pre, askB blk c.g c.fin k = none) (fun c pre W' => FirstIx blk k m wl c pre W') ?hI ?hIx ?h0 ?hround ?hdone ?hstop
  case hI =>
    rintro pre A B ⟨a1, a2⟩ hk
    exact ⟨a1.trans hk (fun b hb h => by rcases h with h | h | h; exact h; omega; omega), a2⟩
  case hIx =>
    rintro c pre A B ⟨a0, p, x, g, e1, e2, e3, a1, a2, a3⟩ hk
    exact ⟨a0, p, x, g, e1, e2, e3, hk.at_ a1 (fun h => by rcases h with h | h | h; exact h; omega; omega), hk.at_ a2 (fun h => by rcases h with h | h | h; exact h; omega; omega), a3.trans hk (fun b hb h => by rcases h with h | h | h; exact h.elim; omega; omega)⟩
  case h0 => exact ⟨Keep.refl _ _, fun c hc => by cases hc⟩
  case hround =>
    rintro pre x rest W' hx ⟨hK, hpre⟩ hs
    have hxm : x ∈ cs := by
      have : x ∈ gapsOf cs := by rw [hx]; simp
      exact (List.mem_filter.1 this).1
    have HPre : Seal _ := ⟨hpre⟩
    have hxf : x.fin = x.g + x.sz := rfl
    obtain ⟨f1, f2, f3⟩ := HFin.out x hxm
    unfold cellV
    gi_wp2_with fail
    refine ⟨(Keep.refl _ W').alloc _, ?_⟩
    intro W2 hc2 hf2 hk2 hs2 hr2
    have kW : Keep Nope W' (W'.alloc (.cells #[.int .i64 (x.g : Nat), .int .u8 (x.tag : Nat), .int .i64 (x.ty : Nat), .int .i64 (x.ln : Nat), .int .i64 (x.sz : Nat)] 45)) := (Keep.refl _ W').alloc _
    have bc := hk2.at_ (World.alloc_heap_new W' (.cells #[.int .i64 (x.g : Nat), .int .u8 (x.tag : Nat), .int .i64 (x.ty : Nat), .int .i64 (x.ln : Nat), .int .i64 (x.sz : Nat)] 45)) (by omega)
    have hzW := hK.size
    have N2 : Keep Nope wl W2 := ((hK.then' kW).of_not (fun k => k = wl.heap.size + 1)).trans hk2 (fun _ _ h => h) |>.mono (fun b hb h => by omega)
    have n0 := cell_of_one (N2.at_ HB.out.1 (fun h => h))
    have nq := cell_of_one (N2.at_ HB.out.2.2.2 (fun h => h))
    have d0 : W2.cell? ⟨W'.heap.size, 0, none⟩ = some (.int .i64 (x.g : Nat)) := by simp [World.cell?, bc]
    have d4 : W2.cell? ⟨W'.heap.size, 4, none⟩ = some (.int .i64 (x.sz : Nat)) := by simp [World.cell?, bc]
    have HAs : Seal (∀ q, _) := ⟨fun q => HAsk.out (W2.drewN q) ((HKL.out.then' N2).then' (Keep.of_drewN _)) x hxm⟩
    have HFn : Seal ((x.g : Int) + (x.sz : Int) = ((x.fin : Nat) : Int)) := ⟨by omega⟩
    have r1 := N2.at_ HB.out.2.1 (fun h => h)
    have r2 := N2.at_ HB.out.2.2.1 (fun h => h)
    have HR1 : Seal _ := ⟨And.intro r1 r2⟩
    clear r1 r2
    have HN2 : Seal _ := ⟨N2⟩
    clear hc2 hf2 hs2 kW bc hpre hx N2 hK hk2
    gi_wp2_with fail
    refine wpIn_region_quiet (by kernel_rfl) (by kernel_rfl) (by kernel_rfl) (fun _ _ h => h) ?_
    repeat (go_big_quiet_step (fail))
    refine wpQuiet_nil ?_
    intro _ hw'
    obtain ⟨nq, hw''⟩ := hw'
    subst hw''
    gi_wp2_with fail
    rw [HFn.out]
    refine ⟨trivial, rfl, ?_⟩
    refine (callsIn_round (HAs.out _)).mono ?_
    rintro e w3 ⟨k3, g, bb, rfl, hb⟩
    have K3 : Keep Nope W2 w3 := (Keep.of_drewN _).then' k3
    have r1 := K3.at_ HR1.out.1 (fun h => h)
    have r2 := K3.at_ HR1.out.2 (fun h => h)
    have c1 := cell_of_one r1
    have c2 := cell_of_one r2
    have f1' := free_of_one r1
    have f2' := free_of_one r2
    have HRR : Seal _ := ⟨And.intro r1 r2⟩
    clear k3 n0 nq d0 d4 r1 r2
    rcases hb with ⟨rfl, j, rfl, ho⟩ | ⟨rfl, ho⟩
    · have HO : Seal _ := ⟨ho⟩
      clear ho
      gi_wp2_with fail
      have kB : Keep (fun b => b = m + 1 ∨ b = m + 1 + 1) w3 ((w3.setCell ⟨m + 1, 0, none⟩ (.int .i64 (j : Nat))).setCell ⟨m + 1 + 1, 0, none⟩ (.int .i64 0)) := ((Keep.refl (fun b => b = m + 1 ∨ b = m + 1 + 1) w3).setCell (fun _ => .inl rfl) _).setCell (fun _ => .inr rfl) _
      refine ⟨(K3.of_not _).trans kB (fun b hb h => h), rfl, pre, x, j, rfl, HPre.out, HO.out, ?_, one_setCell ((Below.heap_setCell _ _ _ _ (by dsimp only; omega)).trans HRR.out.2), ((HN2.out.then' K3).of_not _).trans kB (fun b hb h => h)⟩
      exact (Below.heap_setCell _ _ _ _ (by dsimp only; omega)).trans (one_setCell HRR.out.1)
    · have HO : Seal _ := ⟨ho⟩
      clear ho
      gi_wp2_with fail
      exact ⟨K3, HN2.out.then' K3, fun d hd => by
        rcases List.mem_append.1 hd with hd | hd
        · exact HPre.out d hd
        · rw [List.mem_singleton.1 hd]; exact HO.out⟩
  case hdone =>
    rintro W' ⟨hK, hpre⟩ hs hD
    have HPre : Seal _ := ⟨hpre⟩
    have r1 := hK.at_ HB.out.2.1 (fun h => h)
    have r2 := hK.at_ HB.out.2.2.1 (fun h => h)
    have c1 := cell_of_one r1
    have c2 := cell_of_one r2
    have f1' := free_of_one r1
    have f2' := free_of_one r2
    have HRR : Seal _ := ⟨And.intro r1 r2⟩
    clear hpre r1 r2
    gi_wp2_with fail
    obtain ⟨w9, hw9⟩ : ∃ w9, w9 = (W'.setCell ⟨m + 1, 0, none⟩ (.int .i64 0)).setCell ⟨m + 1 + 1, 0, none⟩ (.int .i64 4) := ⟨_, rfl⟩
    rw [← hw9]
    have kB : Keep (fun b => b = m + 1 ∨ b = m + 1 + 1) W' w9 := by rw [hw9]; exact ((Keep.refl (fun b => b = m + 1 ∨ b = m + 1 + 1) W').setCell (fun _ => .inl rfl) _).setCell (fun _ => .inr rfl) _
    have s1 : w9.heap[m + 1]? = some (.cells #[.int .i64 0] 3 (0, 0)) := by rw [hw9]; exact (Below.heap_setCell _ _ _ _ (by dsimp only; omega)).trans (one_setCell HRR.out.1)
    have s2 : w9.heap[m + 1 + 1]? = some (.cells #[.int .i64 4] 27 (0, 0)) := by rw [hw9]; exact one_setCell ((Below.heap_setCell _ _ _ _ (by dsimp only; omega)).trans HRR.out.2)
    clear hw9
    refine ⟨by simp, .inl ⟨_, _, rfl, run_takeDeferred (kB.at_ hD (by omega)), ?_⟩⟩
    have kE : Keep (fun b => b = wl.heap.size) w9 (w9.putObj wl.heap.size (.deferred none)) := (Keep.refl (fun b => b = wl.heap.size) w9).putObj (fun _ => rfl) _
    have e1 := cell_of_one (kE.at_ s1 (by omega))
    have e2 := cell_of_one (kE.at_ s2 (by omega))
    refine ⟨.tuple #[.int .i64 0, .int .i64 4], by simp [results, Tryd.results20, go_sem, e1, e2], ?_, ?_⟩
    · rw [firstFit_none HPre.out]; rfl
    · exact ((HKL.out.then' hK).trans kB (fun b hb h => by rw [HM.out] at hb; omega)).trans kE (fun b hb h => by rw [HM.out] at hb; omega)
  case hstop =>
    rintro c pre W' hp ⟨rfl, p, x, g, e1, e2, e3, a1, a2, a3⟩ hs hD
    obtain ⟨rest, hrest⟩ := hp
    have HRest : Seal _ := ⟨hrest⟩
    have HE1 : Seal _ := ⟨e1⟩
    have HE : Seal _ := ⟨And.intro e2 e3⟩
    clear hrest e1 e2 e3
    gi_wp2_with fail
    refine ⟨by simp, .inl ⟨_, _, rfl, run_takeDeferred hD, ?_⟩⟩
    have kE : Keep (fun b => b = wl.heap.size) W' (W'.putObj wl.heap.size (.deferred none)) := (Keep.refl (fun b => b = wl.heap.size) W').putObj (fun _ => rfl) _
    have e1 := cell_of_one (kE.at_ a1 (by omega))
    have e2 := cell_of_one (kE.at_ a2 (by omega))
    refine ⟨.tuple #[.int .i64 (g : Nat), .int .i64 0], by simp [results, Tryd.results20, go_sem, e1, e2], ?_, ?_⟩
    · have : firstFit blk k (gapsOf cs) = some g := by
        rw [← HRest.out, HE1.out, List.append_assoc]
        exact firstFit_some HE.out.1 HE.out.2
      rw [this]; rfl
    · exact (HKL.out.trans a3 (fun b hb h => by rw [HM.out] at hb; omega)).trans kE (fun b hb h => by rw [HM.out] at hb; omega)

set_option maxRecDepth 20000 in
set_option maxHeartbeats 8000000 in
theorem FFirst_black (k : Nat) (P : Sp) (cs : List Cel) (b p0 q0 p1 q1 : Nat) (f0 f1 : Nat → Bool) (w : World) (h : SpaceHas w P cs) (hb : BlackAt w b p0 q0 p1 q1 f0 f1 (P.n / 2)) (hk : 1 ≤ k) (hk2 : k ≤ 9223372036854775807) :
    Calls Tryd.prog 20 #[.pointer (some ⟨P.s, 0, none⟩), .pointer (some ⟨b, 0, none⟩), .int .i64 (k : Nat)] w (FirstPost (firstFit (fun i => f0 i || f1 i) k (gapsOf cs)) w) := by
  have hlen : cs.length ≤ 32768 := by
    obtain ⟨_, _, h1, h2, _⟩ := h
    have := tiles_len h2.tl
    have := h1.ar.small
    omega
  have hfin : ∀ c ∈ cs, c.fin ≤ P.n / 2 ∧ c.fin = c.g + c.sz ∧ P.n / 2 ≤ 32768 := by
    intro c hc
    obtain ⟨_, _, h1, h2, _⟩ := h
    have := h2.tl.mem hc
    have := h1.ar.small
    exact ⟨by rw [Cel.fin]; omega, rfl, by omega⟩
  have HH : Seal _ := ⟨h⟩
  have HFin : Seal _ := ⟨hfin⟩
  have lts := h.lt P.s (by simp [Sp.all])
  obtain ⟨blk, hblk⟩ : ∃ blk, (fun i => f0 i || f1 i) = blk := ⟨_, rfl⟩
  have HAsk : Seal (∀ w', Keep Nope w w' → ∀ c ∈ cs, Calls Tryd.prog 42 #[.pointer (some ⟨b, 0, none⟩), .int .i64 (c.g : Nat), .int .i64 (c.fin : Nat), .int .i64 (k : Nat)] w' (AskPost (askB blk c.g c.fin k) w')) :=
    ⟨fun w' hw' c hc => by
      obtain ⟨a1, a2, a3⟩ := hfin c hc
      rw [← hblk]
      exact black_ask c.g c.fin k b p0 q0 p1 q1 _ f0 f1 w' (hb.keepN hw') hk a1⟩
  have HChk : Seal (∀ w', Keep Nope w w' → Calls Tryd.prog 40 #[.pointer (some ⟨P.s, 0, none⟩), .pointer (some ⟨b, 0, none⟩)] w' fun e w'' => e = .returned (.int .i64 0) ∧ w'' = w') := ⟨fun w' hw' => by obtain ⟨_, _, h1, _⟩ := h; have := check_at P _ _ b p0 q0 p1 q1 _ f0 f1 w' (h1.keepN hw') (hb.keepN hw'); rw [if_pos rfl] at this; exact this⟩
  rw [hblk]
  clear hblk h hb hfin
  obtain ⟨w5, hw5⟩ : ∃ w5, w5 = ((w.alloc (.cells #[.int .i64 (k : Nat)] 3)).alloc (.cells #[.int .i64 0] 3)).alloc (.cells #[.int .i64 0] 27) := ⟨_, rfl⟩
  have k5 : Keep Nope w w5 := by rw [hw5]; exact (((Keep.refl _ w).alloc _).alloc _).alloc _
  have g0 : w5.heap[w.heap.size]? = some (.cells #[.int .i64 (k : Nat)] 3 (0, 0)) := by
    rw [hw5]; exact ((Keep.refl Nope _).alloc _ |>.alloc _).at_ (World.alloc_heap_new w _) (fun h => h)
  have g1 : w5.heap[w.heap.size + 1]? = some (.cells #[.int .i64 0] 3 (0, 0)) := by
    rw [hw5]; exact ((Keep.refl Nope _).alloc _).at_ (alloc_new' _ _ (by simp)) (fun h => h)
  have g2 : w5.heap[w.heap.size + 1 + 1]? = some (.cells #[.int .i64 0] 27 (0, 0)) := by
    rw [hw5]; exact alloc_new' _ _ (by simp)
  have z5 : w5.heap.size = w.heap.size + 1 + 1 + 1 := by rw [hw5]; simp
  refine (callsIn_wide (n := 0)).1 ?_
  refine callsIn_of_wp_marks Tryd.func20 rfl trivial ?_
  simp only [Tryd.ntmps20, List.size_toArray, List.length_cons, List.length_nil, Nat.reduceAdd, Nat.reduceSub, Array.replicate_succ, Array.replicate_zero, List.push_toArray, List.append_toArray, List.nil_append, List.cons_append]
  have HCk : Seal _ := ⟨HChk.out w5 k5⟩
  have HG : Seal _ := ⟨And.intro g0 (And.intro g1 g2)⟩
  have c0 := cell_of_one g0
  have c1 := cell_of_one g1
  have c2 := cell_of_one g2
  have HZ5 : Seal _ := ⟨z5⟩
  clear g0 g1 g2 z5
  gi_wp2_with fail
  rw [← hw5]
  obtain ⟨m, hm⟩ : ∃ m, w.heap.size = m := ⟨_, rfl⟩
  rw [hm] at HG c0 c1 c2 HZ5 ⊢
  have HM : Seal _ := ⟨hm⟩
  rw [hm] at lts
  clear hw5 hm
  refine ⟨trivial, rfl, ?_⟩
  refine (callsIn_wide.2 HCk.out).mono ?_
  rintro e w6 ⟨rfl, rfl⟩
  have hd1 : decide ((k : Int) < 1) = false := decide_eq_false (by omega)
  gi_wp2_with fail
  rw [HZ5.out]
  obtain ⟨w7, hw7⟩ : ∃ w7, w7 = w6.alloc (.cells #[.func (.func 42) #[.pointer (some ⟨b, 0, none⟩)] #[]] 95) := ⟨_, rfl⟩
  rw [← hw7]
  have k7 : Keep Nope w6 w7 := by rw [hw7]; exact (Keep.refl _ w6).alloc _
  have q0 : w7.heap[m + 1 + 1 + 1]? = some (.cells #[.func (.func 42) #[.pointer (some ⟨b, 0, none⟩)] #[]] 95 (0, 0)) := by rw [hw7, ← HZ5.out]; exact World.alloc_heap_new w6 _
  have z7 : w7.heap.size = m + 1 + 1 + 1 + 1 := by rw [hw7, World.size_alloc, HZ5.out]
  clear hw7 c0 c1 c2
  refine ⟨trivial, rfl, ?_⟩
  refine (callsIn_wide.2 (free_fn P.s w7)).mono ?_
  rintro e wl ⟨rfl, hwl⟩
  have hzl : wl.heap.size = w7.heap.size + 1 := by rw [← hwl]; simp
  have kl : Keep Nope w7 wl := by rw [← hwl]; exact (Keep.refl _ w7).alloc _
  have gbx : wl.heap[w7.heap.size]? = some (.cells #[.pointer (some ⟨P.s, 0, none⟩)] 30 (0, 0)) := by rw [← hwl]; exact World.alloc_heap_new w7 _
  clear hwl
  rw [z7] at gbx hzl
  rw [z7]
  clear z7
  have K6L : Keep Nope w6 wl := k7.then' kl
  have KL : Keep Nope w wl := k5.then' K6L
  have SL := HH.out.keepN KL
  have b0 := K6L.at_ HG.out.1 (fun h => h)
  have b1 := K6L.at_ HG.out.2.1 (fun h => h)
  have b2 := K6L.at_ HG.out.2.2 (fun h => h)
  have bq := kl.at_ q0 (fun h => h)
  have HB : Seal _ := ⟨And.intro b0 (And.intro b1 (And.intro b2 bq))⟩
  have HKL : Seal _ := ⟨KL⟩
  have HSL : Seal _ := ⟨SL⟩
  clear b0 b1 b2 bq q0 k7 kl K6L k5 KL SL HCk HChk
  gi_wp2_with fail
  refine wpIn_range2 (n := 0) (gf := 67) (lb := #[.pointer (some ⟨m + 1 + 1 + 1 + 1, 0, none⟩)]) rfl (enters_of Tryd.func67 (by kernel_rfl) rfl)
    (free_iter P cs wl (m + 1 + 1 + 1 + 1) HSL.out gbx (R := Nope) (X := fun k => k = m + 1 ∨ k = m + 1 + 1) (fun k hk => hk.elim) hlen) (fun k hk => hk.elim) (fun k hk => hk.elim)
    (fun k hk => by omega) (fun k hk => hk.elim) (fun _ => rfl)
    (fun pre W' => Keep Nope wl W' ∧ ∀ c ∈ pre, askB blk c.g c.fin k = none) (fun c pre W' => FirstIx blk k m wl c pre W') ?hI ?hIx ?h0 ?hround ?hdone ?hstop
  case hI =>
    rintro pre A B ⟨a1, a2⟩ hk
    exact ⟨a1.trans hk (fun b hb h => by rcases h with h | h | h; exact h; omega; omega), a2⟩
  case hIx =>
    rintro c pre A B ⟨a0, p, x, g, e1, e2, e3, a1, a2, a3⟩ hk
    exact ⟨a0, p, x, g, e1, e2, e3, hk.at_ a1 (fun h => by rcases h with h | h | h; exact h; omega; omega), hk.at_ a2 (fun h => by rcases h with h | h | h; exact h; omega; omega), a3.trans hk (fun b hb h => by rcases h with h | h | h; exact h.elim; omega; omega)⟩
  case h0 => exact ⟨Keep.refl _ _, fun c hc => by cases hc⟩
  case hround =>
    rintro pre x rest W' hx ⟨hK, hpre⟩ hs
    have hxm : x ∈ cs := by
      have : x ∈ gapsOf cs := by rw [hx]; simp
      exact (List.mem_filter.1 this).1
    have HPre : Seal _ := ⟨hpre⟩
    have hxf : x.fin = x.g + x.sz := rfl
    obtain ⟨f1, f2, f3⟩ := HFin.out x hxm
    unfold cellV
    gi_wp2_with fail
    refine ⟨(Keep.refl _ W').alloc _, ?_⟩
    intro W2 hc2 hf2 hk2 hs2 hr2
    have kW : Keep Nope W' (W'.alloc (.cells #[.int .i64 (x.g : Nat), .int .u8 (x.tag : Nat), .int .i64 (x.ty : Nat), .int .i64 (x.ln : Nat), .int .i64 (x.sz : Nat)] 45)) := (Keep.refl _ W').alloc _
    have bc := hk2.at_ (World.alloc_heap_new W' (.cells #[.int .i64 (x.g : Nat), .int .u8 (x.tag : Nat), .int .i64 (x.ty : Nat), .int .i64 (x.ln : Nat), .int .i64 (x.sz : Nat)] 45)) (by omega)
    have hzW := hK.size
    have N2 : Keep Nope wl W2 := ((hK.then' kW).of_not (fun k => k = wl.heap.size + 1)).trans hk2 (fun _ _ h => h) |>.mono (fun b hb h => by omega)
    have n0 := cell_of_one (N2.at_ HB.out.1 (fun h => h))
    have nq := cell_of_one (N2.at_ HB.out.2.2.2 (fun h => h))
    have d0 : W2.cell? ⟨W'.heap.size, 0, none⟩ = some (.int .i64 (x.g : Nat)) := by simp [World.cell?, bc]
    have d4 : W2.cell? ⟨W'.heap.size, 4, none⟩ = some (.int .i64 (x.sz : Nat)) := by simp [World.cell?, bc]
    have HAs : Seal (∀ q, _) := ⟨fun q => HAsk.out (W2.drewN q) ((HKL.out.then' N2).then' (Keep.of_drewN _)) x hxm⟩
    have HFn : Seal ((x.g : Int) + (x.sz : Int) = ((x.fin : Nat) : Int)) := ⟨by omega⟩
    have r1 := N2.at_ HB.out.2.1 (fun h => h)
    have r2 := N2.at_ HB.out.2.2.1 (fun h => h)
    have HR1 : Seal _ := ⟨And.intro r1 r2⟩
    clear r1 r2
    have HN2 : Seal _ := ⟨N2⟩
    clear hc2 hf2 hs2 kW bc hpre hx N2 hK hk2
    gi_wp2_with fail
    refine wpIn_region_quiet (by kernel_rfl) (by kernel_rfl) (by kernel_rfl) (fun _ _ h => h) ?_
    repeat (go_big_quiet_step (fail))
    refine wpQuiet_nil ?_
    intro _ hw'
    obtain ⟨nq, hw''⟩ := hw'
    subst hw''
    gi_wp2_with fail
    rw [HFn.out]
    refine ⟨trivial, rfl, ?_⟩
    refine (callsIn_round (HAs.out _)).mono ?_
    rintro e w3 ⟨k3, g, bb, rfl, hb⟩
    have K3 : Keep Nope W2 w3 := (Keep.of_drewN _).then' k3
    have r1 := K3.at_ HR1.out.1 (fun h => h)
    have r2 := K3.at_ HR1.out.2 (fun h => h)
    have c1 := cell_of_one r1
    have c2 := cell_of_one r2
    have f1' := free_of_one r1
    have f2' := free_of_one r2
    have HRR : Seal _ := ⟨And.intro r1 r2⟩
    clear k3 n0 nq d0 d4 r1 r2
    rcases hb with ⟨rfl, j, rfl, ho⟩ | ⟨rfl, ho⟩
    · have HO : Seal _ := ⟨ho⟩
      clear ho
      gi_wp2_with fail
      have kB : Keep (fun b => b = m + 1 ∨ b = m + 1 + 1) w3 ((w3.setCell ⟨m + 1, 0, none⟩ (.int .i64 (j : Nat))).setCell ⟨m + 1 + 1, 0, none⟩ (.int .i64 0)) := ((Keep.refl (fun b => b = m + 1 ∨ b = m + 1 + 1) w3).setCell (fun _ => .inl rfl) _).setCell (fun _ => .inr rfl) _
      refine ⟨(K3.of_not _).trans kB (fun b hb h => h), rfl, pre, x, j, rfl, HPre.out, HO.out, ?_, one_setCell ((Below.heap_setCell _ _ _ _ (by dsimp only; omega)).trans HRR.out.2), ((HN2.out.then' K3).of_not _).trans kB (fun b hb h => h)⟩
      exact (Below.heap_setCell _ _ _ _ (by dsimp only; omega)).trans (one_setCell HRR.out.1)
    · have HO : Seal _ := ⟨ho⟩
      clear ho
      gi_wp2_with fail
      exact ⟨K3, HN2.out.then' K3, fun d hd => by
        rcases List.mem_append.1 hd with hd | hd
        · exact HPre.out d hd
        · rw [List.mem_singleton.1 hd]; exact HO.out⟩
  case hdone =>
    rintro W' ⟨hK, hpre⟩ hs hD
    have HPre : Seal _ := ⟨hpre⟩
    have r1 := hK.at_ HB.out.2.1 (fun h => h)
    have r2 := hK.at_ HB.out.2.2.1 (fun h => h)
    have c1 := cell_of_one r1
    have c2 := cell_of_one r2
    have f1' := free_of_one r1
    have f2' := free_of_one r2
    have HRR : Seal _ := ⟨And.intro r1 r2⟩
    clear hpre r1 r2
    gi_wp2_with fail
    obtain ⟨w9, hw9⟩ : ∃ w9, w9 = (W'.setCell ⟨m + 1, 0, none⟩ (.int .i64 0)).setCell ⟨m + 1 + 1, 0, none⟩ (.int .i64 4) := ⟨_, rfl⟩
    rw [← hw9]
    have kB : Keep (fun b => b = m + 1 ∨ b = m + 1 + 1) W' w9 := by rw [hw9]; exact ((Keep.refl (fun b => b = m + 1 ∨ b = m + 1 + 1) W').setCell (fun _ => .inl rfl) _).setCell (fun _ => .inr rfl) _
    have s1 : w9.heap[m + 1]? = some (.cells #[.int .i64 0] 3 (0, 0)) := by rw [hw9]; exact (Below.heap_setCell _ _ _ _ (by dsimp only; omega)).trans (one_setCell HRR.out.1)
    have s2 : w9.heap[m + 1 + 1]? = some (.cells #[.int .i64 4] 27 (0, 0)) := by rw [hw9]; exact one_setCell ((Below.heap_setCell _ _ _ _ (by dsimp only; omega)).trans HRR.out.2)
    clear hw9
    refine ⟨by simp, .inl ⟨_, _, rfl, run_takeDeferred (kB.at_ hD (by omega)), ?_⟩⟩
    have kE : Keep (fun b => b = wl.heap.size) w9 (w9.putObj wl.heap.size (.deferred none)) := (Keep.refl (fun b => b = wl.heap.size) w9).putObj (fun _ => rfl) _
    have e1 := cell_of_one (kE.at_ s1 (by omega))
    have e2 := cell_of_one (kE.at_ s2 (by omega))
    refine ⟨.tuple #[.int .i64 0, .int .i64 4], by simp [results, Tryd.results20, go_sem, e1, e2], ?_, ?_⟩
    · rw [firstFit_none HPre.out]; rfl
    · exact ((HKL.out.then' hK).trans kB (fun b hb h => by rw [HM.out] at hb; omega)).trans kE (fun b hb h => by rw [HM.out] at hb; omega)
  case hstop =>
    rintro c pre W' hp ⟨rfl, p, x, g, e1, e2, e3, a1, a2, a3⟩ hs hD
    obtain ⟨rest, hrest⟩ := hp
    have HRest : Seal _ := ⟨hrest⟩
    have HE1 : Seal _ := ⟨e1⟩
    have HE : Seal _ := ⟨And.intro e2 e3⟩
    clear hrest e1 e2 e3
    gi_wp2_with fail
    refine ⟨by simp, .inl ⟨_, _, rfl, run_takeDeferred hD, ?_⟩⟩
    have kE : Keep (fun b => b = wl.heap.size) W' (W'.putObj wl.heap.size (.deferred none)) := (Keep.refl (fun b => b = wl.heap.size) W').putObj (fun _ => rfl) _
    have e1 := cell_of_one (kE.at_ a1 (by omega))
    have e2 := cell_of_one (kE.at_ a2 (by omega))
    refine ⟨.tuple #[.int .i64 (g : Nat), .int .i64 0], by simp [results, Tryd.results20, go_sem, e1, e2], ?_, ?_⟩
    · have : firstFit blk k (gapsOf cs) = some g := by
        rw [← HRest.out, HE1.out, List.append_assoc]
        exact firstFit_some HE.out.1 HE.out.2
      rw [this]; rfl
    · exact (HKL.out.trans a3 (fun b hb h => by rw [HM.out] at hb; omega)).trans kE (fun b hb h => by rw [HM.out] at hb; omega)

end Go.Proofs.YtafjebdjdmlahaaDoor
