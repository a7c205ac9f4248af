/-
  Drop of package space.
-/
import Derived.Test.YtafjebdjdmlahaaDoorSpacePut3
import Derived.Test.YtafjebdjdmlahaaDoorSpaceGrow
import Derived.Test.YtafjebdjdmlahaaDoorSpace1
import Derived.Laws.EntriesVeiled
namespace Go.Proofs.YtafjebdjdmlahaaDoor
open Go.RowKit
set_option linter.unusedVariables false
attribute [local go_sem] Oper.semAt_some

def DropPost (P : Sp) (cs : List Cel) (g : Int) (w : World) (e : Ending) (w' : World) : Prop :=
  (e = .returned (.int .i64 3) ∧ (∀ j : Nat, g = (j : Nat) → startOf cs j = false) ∧ Keep Nope w w') ∨
  (e = .returned (.int .i64 0) ∧ Keep P.own w w' ∧ ∃ (j : Nat) (p1 g1 : List Cel) (c : Cel) (g2 p2 : List Cel) (x y : Nat), g = (j : Nat) ∧ DropOf cs j p1 g1 c g2 p2 x y ∧ SpaceHas w' P (dropL p1 p2 x y))

set_option maxRecDepth 20000 in
set_option maxHeartbeats 4000000 in
theorem Drop_no (g : Int) (P : Sp) (cs : List Cel) (w : World) (h : SpaceHas w P cs) (hno : ∀ j : Nat, g = (j : Nat) → startOf cs j = false) :
    Calls Tryd.prog 12 #[.pointer (some ⟨P.s, 0, none⟩), .int .i64 g] w (DropPost P cs g w) := by
  obtain ⟨W, f, hs, hc, hst⟩ := h
  have hI : hasI f (P.n / 2) g = false := by
    simp only [hasI]
    by_cases hb : 0 ≤ g ∧ g < (P.n / 2 : Nat)
    · obtain ⟨j, rfl⟩ := Int.eq_ofNat_of_zero_le hb.1
      have h1 := hno j rfl
      have h2 := hst j (by omega)
      rw [h1] at h2
      simp [h2]
    · rw [decide_eq_false hb]; rfl
  have HNO : Seal _ := ⟨hno⟩
  clear hno
  have k5 : Keep Nope w (w.alloc (.cells #[.int .i64 g] 3)) := (Keep.refl _ w).alloc _
  have b5 := World.alloc_heap_new w (.cells #[.int .i64 g] 3)
  obtain ⟨w5, hw5⟩ : ∃ w5, w5 = w.alloc (.cells #[.int .i64 g] 3) := ⟨_, rfl⟩
  rw [← hw5] at k5 b5
  have S5 := hs.keepN k5
  have HH : Seal (∀ w', Keep Nope w5 w' → Calls Tryd.prog 18 #[.pointer (some ⟨P.b, 0, none⟩), .int .i64 g] w' fun e w'' => e = .returned (.bool false) ∧ Keep Nope w' w'') :=
    ⟨fun w' hk => by have := Has_int g (P.n / 2) P.b P.bq f w' (S5.keepN hk).bt; rw [hI] at this; exact this⟩
  have c0 := cell_of_one b5
  obtain ⟨s0, s1, s2⟩ := S5.head
  have lts := hs.lt P.s (by simp [Sp.all])
  have HK5 : Seal _ := ⟨k5⟩
  clear hs hc hst S5 hI b5 k5
  refine (callsIn_wide (n := 0)).1 ?_
  refine callsIn_of_wp_marks Tryd.func12 rfl trivial ?_
  simp only [Tryd.ntmps12, List.size_toArray, List.length_cons, List.length_nil, Nat.reduceAdd, Nat.reduceSub, Array.replicate_succ, Array.replicate_zero, List.push_toArray, List.append_toArray, List.nil_append, List.cons_append]
  gi_wp2_with fail
  try rw [← hw5]
  clear hw5
  gi_wp2_with fail
  refine wpIn_wide.2 ?_
  go_region_held3 (fun w' => w'.cell? ⟨w.heap.size, 0, none⟩ = some (.int .i64 g) ∧ w'.cell? ⟨P.s, 2, none⟩ = some (.pointer (some ⟨P.b, 0, none⟩)))
    (exact ⟨keep_cell (by (repeat (first | assumption | exact Keep.refl _ _ | refine Keep.drew ?_ | refine Keep.alloc ?_ _ | refine Keep.setNew ?_ (by omega) _))) c0, keep_cell (by (repeat (first | assumption | exact Keep.refl _ _ | refine Keep.drew ?_ | refine Keep.alloc ?_ _ | refine Keep.setNew ?_ (by omega) _))) s2⟩)
    (first | (go_at_call 18; with_reducible refine (HH.out _ (by (repeat (first | assumption | exact Keep.refl _ _ | refine Keep.drew ?_ | refine Keep.alloc ?_ _ | refine Keep.setNew ?_ (by omega) _)))).mono ?_; rintro e w6 ⟨rfl, k6⟩
              have KK : Keep Nope w5 w6 := (Keep.refl Nope w5).drew.then' k6))
  have kw : Keep Nope w w6 := HK5.out.then' KK
  gi_wp2_with fail
  refine ⟨.int .i64 3, by simp [results, Tryd.results12, go_sem], .inl ⟨rfl, HNO.out, kw⟩⟩

/-- What Drop's rounds hold: the three cells that they turn. -/
structure DropHeld (m x y : Nat) (over : Bool) (wl W' : World) : Prop where
  h0 : W'.heap[m]? = some (.cells #[.int .i64 (x : Nat)] 3 (0, 0))
  h1 : W'.heap[m + 1]? = some (.cells #[.int .i64 (y : Nat)] 3 (0, 0))
  h2 : W'.heap[m + 1 + 1]? = some (.cells #[.bool over] 4 (0, 0))
  hk : Keep (fun k => k = m ∨ k = m + 1 ∨ k = m + 1 + 1) wl W'

/-- Behind the cells 'pre'. -/
def DropI (j m : Nat) (wl : World) (pre : List Cel) (W' : World) : Prop := ∃ x y over, DropHeld m x y over wl W' ∧ DropSt j pre x y over

/-- Where the next object stops them. -/
def DropIx (j m : Nat) (wl : World) (c : Code) (pre : List Cel) (W' : World) : Prop := c = .exit 0 ∧ ∃ p d x y, pre = p ++ [d] ∧ d.tag = 1 ∧ DropHeld m x y true wl W' ∧ DropSt j p x y true

theorem DropHeld.keep {S : Nat → Prop} {m x y : Nat} {over : Bool} {wl A B : World} (h : DropHeld m x y over wl A) (k : Keep S A B) (hm : m + 1 + 1 < wl.heap.size) (hs : ∀ b, b < wl.heap.size → ¬ S b) : DropHeld m x y over wl B :=
  ⟨k.at_ h.h0 (hs _ (by omega)), k.at_ h.h1 (hs _ (by omega)), k.at_ h.h2 (hs _ (by omega)), h.hk.trans k (fun b hb hS => absurd hS (hs b hb))⟩

set_option maxRecDepth 20000 in
set_option maxHeartbeats 8000000 in
theorem Drop_yes (j : Nat) (P : Sp) (cs : List Cel) (w : World) (h : SpaceHas w P cs) (hyes : startOf cs j = true) :
    Calls Tryd.prog 12 #[.pointer (some ⟨P.s, 0, none⟩), .int .i64 (j : Nat)] w (DropPost P cs (j : Nat) w) := by
  obtain ⟨W, f, hs, hc, hst⟩ := h
  have hn := hs.ar.small
  have hj : j < P.n / 2 := by
    obtain ⟨c, h1, h2, h3⟩ := startOf_mem hyes
    have := hc.tl.mem h1
    omega
  have hI : hasI f (P.n / 2) (j : Nat) = true := by
    simp only [hasI]
    rw [decide_eq_true (show (0 : Int) ≤ (j : Nat) ∧ ((j : Nat) : Int) < (P.n / 2 : Nat) by omega)]
    simp [hst j hj, hyes]
  have k5 : Keep Nope w (w.alloc (.cells #[.int .i64 (j : Nat)] 3)) := (Keep.refl _ w).alloc _
  have b5 := World.alloc_heap_new w (.cells #[.int .i64 (j : Nat)] 3)
  obtain ⟨w5, hw5⟩ : ∃ w5, w5 = w.alloc (.cells #[.int .i64 (j : Nat)] 3) := ⟨_, rfl⟩
  rw [← hw5] at k5 b5
  have S5 := hs.keepN k5
  have HH : Seal (∀ w', Keep Nope w5 w' → Calls Tryd.prog 18 #[.pointer (some ⟨P.b, 0, none⟩), .int .i64 (j : Nat)] w' fun e w'' => e = .returned (.bool true) ∧ Keep Nope w' w'') :=
    ⟨fun w' hk => by have := Has_int (j : Nat) (P.n / 2) P.b P.bq f w' (S5.keepN hk).bt; rw [hI] at this; exact this⟩
  have HCl : Seal (∀ w', Keep Nope w5 w' → Calls Tryd.prog 36 #[.pointer (some ⟨P.b, 0, none⟩), .int .i64 (j : Nat)] w' fun e w'' => e = .returned (.int .i64 0) ∧ Keep (fun b => b = P.bq) w' w'' ∧ BitsAt w'' P.b P.bq (setF f (P.n / 2) (j : Nat) 1 false) (P.n / 2)) :=
    ⟨fun w' hk => by
      have := Clear_int (j : Nat) (P.n / 2) P.b P.bq f w' (S5.keepN hk).bt
      rw [show okRun (P.n / 2) (j : Nat) 1 = true by simp [okRun]; omega] at this
      exact this⟩
  have c0 := cell_of_one b5
  obtain ⟨s0, s1, s2⟩ := S5.head
  have lts := hs.lt P.s (by simp [Sp.all])
  have HK5 : Seal _ := ⟨k5⟩
  have HB5 : Seal _ := ⟨b5⟩
  have HSs : Seal _ := ⟨hs⟩
  have HS5 : Seal _ := ⟨S5⟩
  have HCs : Seal _ := ⟨hc⟩
  have HSt : Seal _ := ⟨hst⟩
  have HYes : Seal _ := ⟨hyes⟩
  have hc0 : Seal _ := ⟨hc.tl⟩
  clear hs hc hst S5 hI b5 k5 hyes
  refine (callsIn_wide (n := 0)).1 ?_
  refine callsIn_of_wp_marks Tryd.func12 rfl trivial ?_
  simp only [Tryd.ntmps12, List.size_toArray, List.length_cons, List.length_nil, Nat.reduceAdd, Nat.reduceSub, Array.replicate_succ, Array.replicate_zero, List.push_toArray, List.append_toArray, List.nil_append, List.cons_append]
  gi_wp2_with fail
  try rw [← hw5]
  clear hw5
  gi_wp2_with fail
  refine wpIn_wide.2 ?_
  go_region_held3 (fun w' => w'.cell? ⟨w.heap.size, 0, none⟩ = some (.int .i64 (j : Nat)) ∧ w'.cell? ⟨P.s, 2, none⟩ = some (.pointer (some ⟨P.b, 0, none⟩)))
    (exact ⟨keep_cell (by (repeat (first | assumption | exact Keep.refl _ _ | refine Keep.drew ?_ | refine Keep.alloc ?_ _ | refine Keep.setNew ?_ (by omega) _))) c0, keep_cell (by (repeat (first | assumption | exact Keep.refl _ _ | refine Keep.drew ?_ | refine Keep.alloc ?_ _ | refine Keep.setNew ?_ (by omega) _))) s2⟩)
    (first | (go_at_call 18; with_reducible refine (HH.out _ (by (repeat (first | assumption | exact Keep.refl _ _ | refine Keep.drew ?_ | refine Keep.alloc ?_ _ | refine Keep.setNew ?_ (by omega) _)))).mono ?_; rintro e w6 ⟨rfl, k6⟩
              have KK : Keep Nope w5 w6 := (Keep.refl Nope w5).drew.then' k6))
  replace c0 := KK.cell c0 (fun h => h)
  replace s2 := KK.cell s2 (fun h => h)
  gi_wp2_with fail
  refine wpIn_wide.2 ?_
  refine wp_region_quiet_tail 5 (by kernel_rfl) (by kernel_rfl) ?_
  simp only [List.take_succ_cons, List.take_zero, List.drop_succ_cons, List.drop_zero]
  repeat (go_big_quiet_step (fail))
  refine wpQuiet_nil ?_
  intro _ hw'
  obtain ⟨nq, hw''⟩ := hw'
  subst hw''
  have K6 : Keep Nope w5 (w6.drewN nq) := KK.then' (Keep.of_drewN _)
  go_wp2_with fail
  refine (HCl.out _ K6).mono ?_
  rintro e w7 ⟨rfl, k7, B7⟩
  have S7 := (HS5.out.keepN K6).bits k7 B7
  have K7 : Keep P.own w w7 := ((HK5.out.then' K6).of_not P.own).trans k7 (fun b hb h => .inr (.inr h))
  have z7 : w.heap.size < w7.heap.size := by
    have h1 := lt_of_heap HB5.out
    have h2 := K6.size
    have h3 := k7.size
    omega
  have hbq : ¬ w.heap.size = P.bq := by have := HSs.out.lt P.bq (by simp [Sp.all]); omega
  have r7 := k7.at_ (K6.at_ HB5.out (fun h => h)) hbq
  have HS7 : Seal _ := ⟨S7⟩
  have HK7 : Seal _ := ⟨K7⟩
  have HR7 : Seal _ := ⟨r7⟩
  clear B7 S7 K7 c0 s0 s1 s2 HH HCl k6 r7
  go_wp2
  gi_wp2_with fail
  obtain ⟨m, hm⟩ : ∃ m, w7.heap.size = m := ⟨_, rfl⟩
  obtain ⟨w8, hw8⟩ : ∃ w8, w8 = (((w7.alloc (.cells #[.int .i64 0] 3)).alloc (.cells #[.int .i64 0] 3)).alloc (.cells #[.bool false] 4)).alloc (.cells #[.func (.func 37) #[] #[.pointer (some ⟨w.heap.size, 0, none⟩), .pointer (some ⟨m + 1 + 1, 0, none⟩), .pointer (some ⟨m, 0, none⟩), .pointer (some ⟨m + 1, 0, none⟩)]] 84) := ⟨_, rfl⟩
  rw [hm, ← hw8]
  have k8 : Keep Nope w7 w8 := by rw [hw8]; exact ((((Keep.refl _ w7).alloc _).alloc _).alloc _).alloc _
  have z8 : w8.heap.size = m + 1 + 1 + 1 + 1 := by rw [hw8, ← hm]; simp
  have q0 : w8.heap[m]? = some (.cells #[.int .i64 0] 3 (0, 0)) := by
    rw [hw8, ← hm]; exact (((Keep.refl Nope _).alloc _).alloc _ |>.alloc _).at_ (World.alloc_heap_new w7 _) (fun h => h)
  have q1 : w8.heap[m + 1]? = some (.cells #[.int .i64 0] 3 (0, 0)) := by
    rw [hw8, ← hm]; exact ((Keep.refl Nope _).alloc _ |>.alloc _).at_ (alloc_new' _ _ (by simp)) (fun h => h)
  have q2 : w8.heap[m + 1 + 1]? = some (.cells #[.bool false] 4 (0, 0)) := by
    rw [hw8, ← hm]; exact ((Keep.refl Nope _).alloc _).at_ (alloc_new' _ _ (by simp)) (fun h => h)
  have q3 : w8.heap[m + 1 + 1 + 1]? = some (.cells #[.func (.func 37) #[] #[.pointer (some ⟨w.heap.size, 0, none⟩), .pointer (some ⟨m + 1 + 1, 0, none⟩), .pointer (some ⟨m, 0, none⟩), .pointer (some ⟨m + 1, 0, none⟩)]] 84 (0, 0)) := by
    rw [hw8, ← hm]; exact alloc_new' _ _ (by simp)
  clear hw8
  refine ⟨trivial, rfl, ?_⟩
  refine (callsIn_wide.2 (cells_fn P w8)).mono ?_
  rintro e wl ⟨rfl, hwl⟩
  have hzl : wl.heap.size = w8.heap.size + 1 := by rw [← hwl]; simp
  have kl : Keep Nope w8 wl := by rw [← hwl]; exact (Keep.refl _ w8).alloc _
  have gbx : wl.heap[w8.heap.size]? = some (.cells #[.pointer (some ⟨P.s, 0, none⟩)] 30 (0, 0)) := by rw [← hwl]; exact World.alloc_heap_new w8 _
  clear hwl
  rw [z8] at gbx hzl
  rw [z8]
  clear z8
  rw [hm] at z7
  have K7L : Keep Nope w7 wl := k8.then' kl
  have SL := HS7.out.keepN K7L
  have rg := K7L.at_ HR7.out (fun h => h)
  have rc := kl.at_ q3 (fun h => h)
  have HL0 : Seal _ := ⟨DropHeld.mk (wl := wl) (kl.at_ q0 (fun h => h)) (kl.at_ q1 (fun h => h)) (kl.at_ q2 (fun h => h)) (Keep.refl _ wl)⟩
  have lw : ∀ k, P.all k → k < w.heap.size := HSs.out.lt
  have HRG : Seal _ := ⟨And.intro rg rc⟩
  have HSL : Seal _ := ⟨SL⟩
  have HKL : Seal _ := ⟨HK7.out.trans K7L (fun b hb h => h.elim)⟩
  clear q0 q1 q2 q3 rg rc K7L k8 kl hm
  gi_wp2_with fail
  refine wpIn_range2 (n := 0) (gf := 55) (lb := #[.pointer (some ⟨m + 1 + 1 + 1 + 1, 0, none⟩)]) rfl (enters_of Tryd.func55 (by kernel_rfl) rfl)
    (cells_iter P W _ cs wl (m + 1 + 1 + 1 + 1) HSL.out HCs.out gbx (R := fun k => k = m ∨ k = m + 1 ∨ k = m + 1 + 1) (X := fun k => k = m ∨ k = m + 1 ∨ k = m + 1 + 1)
      (fun k hk => ⟨by omega, by omega, fun h => by have := lw k h; omega⟩)) (fun k hk => hk.elim) (fun k hk => by omega)
    (fun k hk => by omega) (fun k hk => hk) (fun _ => rfl)
    (fun pre W' => DropI j m wl pre W') (fun c pre W' => DropIx j m wl c pre W') ?hI ?hIx ?h0 ?hround ?hdone ?hstop
  case hI =>
    rintro pre A B ⟨x, y, o, a1, a2⟩ hk
    exact ⟨x, y, o, a1.keep hk (by omega) (fun b hb h => by rcases h with h | h | h; exact h; omega; omega), a2⟩
  case hIx =>
    rintro c pre A B ⟨a0, p, d, x, y, e1, e2, a1, a2⟩ hk
    exact ⟨a0, p, d, x, y, e1, e2, a1.keep hk (by omega) (fun b hb h => by rcases h with h | h | h; exact h; omega; omega), a2⟩
  case h0 => exact ⟨0, 0, false, HL0.out, [], [], rfl, (fun d hd => by cases hd), .inl rfl, rfl, (fun d hd => by cases hd)⟩
  case hround =>
    rintro pre x rest W' hx ⟨X, Y, o, hH, hD⟩ hs
    have hxf : x.fin = x.g + x.sz := rfl
    have hxm := hc0.out.mem (c := x) (by rw [hx]; simp)
    unfold cellV
    gi_wp2_with fail
    refine ⟨(Keep.refl _ W').alloc _, ?_⟩
    intro W2 hc2 hf2 hk2 hs2 hr2
    have kW : Keep Nope W' (W'.alloc (.cells #[.int .i64 (x.g : Nat), .int .u8 (x.tag : Nat), .int .i64 (x.ty : Nat), .int .i64 (x.ln : Nat), .int .i64 (x.sz : Nat)] 45)) := (Keep.refl _ W').alloc _
    have bc := hk2.at_ (World.alloc_heap_new W' (.cells #[.int .i64 (x.g : Nat), .int .u8 (x.tag : Nat), .int .i64 (x.ty : Nat), .int .i64 (x.ln : Nat), .int .i64 (x.sz : Nat)] 45)) (by omega)
    have H2 := (hH.keep kW (by omega) (fun b hb h => h)).keep hk2 (by omega) (fun b hb h => by omega)
    have G2 := H2.hk.at_ HRG.out.1 (by omega)
    have C2 := H2.hk.at_ HRG.out.2 (by omega)
    have n0 := cell_of_one H2.h0
    have n1 := cell_of_one H2.h1
    have n2 := cell_of_one H2.h2
    have ng := cell_of_one G2
    have nc := cell_of_one C2
    have d0 : W2.cell? ⟨W'.heap.size, 0, none⟩ = some (.int .i64 (x.g : Nat)) := by simp [World.cell?, bc]
    have d1 : W2.cell? ⟨W'.heap.size, 1, none⟩ = some (.int .u8 (x.tag : Nat)) := by simp [World.cell?, bc]
    have d2 : W2.cell? ⟨W'.heap.size, 2, none⟩ = some (.int .i64 (x.ty : Nat)) := by simp [World.cell?, bc]
    have d3 : W2.cell? ⟨W'.heap.size, 3, none⟩ = some (.int .i64 (x.ln : Nat)) := by simp [World.cell?, bc]
    have d4 : W2.cell? ⟨W'.heap.size, 4, none⟩ = some (.int .i64 (x.sz : Nat)) := by simp [World.cell?, bc]
    have HGr : Seal _ := ⟨Grow_at x w.heap.size (m + 1 + 1) m (m + 1) j X Y o W2 (by omega) (by omega) G2 H2.h2 H2.h0 H2.h1⟩
    have HH2 : Seal _ := ⟨H2⟩
    have HG2 : Seal _ := ⟨G2⟩
    have HBC : Seal _ := ⟨bc⟩
    have hWz : m + 1 + 1 + 1 + 1 + 1 < W'.heap.size := by omega
    have HX : Seal _ := ⟨hx⟩
    clear hc2 hf2 hs2 kW H2 G2 C2 bc hH hx
    cases o with
    | false =>
      obtain ⟨le, e1, e2, e3⟩ := drop_before hc0.out HX.out HYes.out hD
      have t1 : decide ((j : Int) < (x.g : Int)) = false := decide_eq_false (by omega)
      have key : ∃ o' X' Y', DropSt j (pre ++ [x]) X' Y' o' ∧ growX x j X false = X' ∧ growY x j Y = Y' ∧ (((x.g : Int) == (j : Int)) = o') := by
        by_cases ht : x.tag = 1
        · by_cases hg : x.g = j
          · exact ⟨true, X, x.fin, e2 ht hg, if_neg (fun h => h.2.1 hg), if_neg (fun h => h.2 hg), by simp; omega⟩
          · exact ⟨false, x.fin, Y, e1 ht hg, if_pos ⟨ht, hg, rfl⟩, if_pos ⟨ht, hg⟩, by simp; omega⟩
        · exact ⟨false, X, x.fin, (e3 ht).2, if_neg (fun h => ht h.1), if_neg (fun h => ht h.1), by simp; have := (e3 ht).1; omega⟩
      obtain ⟨o', X', Y', hD', gx, gy, ho⟩ := key
      have HD' : Seal _ := ⟨hD'⟩
      clear hD e1 e2 e3 hD'
      gi_wp2_with fail
      refine ⟨trivial, rfl, ?_⟩
      refine (callsIn_round HGr.out).mono ?_
      rintro e w3 ⟨rfl, k3, b30, b31⟩
      rw [gx] at b30
      rw [gy] at b31
      have b32 := k3.at_ HH2.out.h2 (by omega)
      have l0 := cell_of_one (k3.at_ HG2.out (by omega))
      have l1 : w3.cell? ⟨W'.heap.size, 0, none⟩ = some (.int .i64 (x.g : Nat)) := k3.cell d0 (by dsimp only; omega)
      have l2 := cell_of_one b32
      have lf := free_of_one b32
      have HB : Seal _ := ⟨And.intro b30 (And.intro b31 b32)⟩
      have HK3 : Seal _ := ⟨k3⟩
      clear n0 n1 n2 ng nc d0 d1 d2 d3 d4 b30 b31 b32 gx gy k3
      gi_wp2_with fail
      have KB : Keep (fun b => b = m + 1 + 1) w3 (w3.setCell ⟨m + 1 + 1, 0, none⟩ (.bool o')) := (Keep.refl (fun b => b = m + 1 + 1) w3).setCell (fun _ => rfl) _
      refine ⟨(HK3.out.mono fun b hb h => by omega).trans KB (fun b hb h => by omega), X', Y', o', ⟨KB.at_ HB.out.1 (by omega), KB.at_ HB.out.2.1 (by omega), one_setCell HB.out.2.2, ?_⟩, HD'.out⟩
      exact (HH2.out.hk.trans HK3.out (fun b hb h => by omega)).trans KB (fun b hb h => by omega)
    | true =>
      obtain ⟨lt, e1⟩ := drop_behind hc0.out HX.out hD
      have t1 : decide ((j : Int) < (x.g : Int)) = true := decide_eq_true (by omega)
      by_cases ht : x.tag = 1
      · have t2 : ((x.tag : Int) == 1) = true := by simp; omega
        have HD' : Seal _ := ⟨hD⟩
        clear hD
        gi_wp2_with fail
        exact ⟨Keep.refl _ _, rfl, pre, x, X, Y, rfl, ht, HH2.out, HD'.out⟩
      · have t2 : ((x.tag : Int) == 1) = false := by simp; omega
        obtain ⟨X', Y', hD', gx, gy⟩ : ∃ X' Y', DropSt j (pre ++ [x]) X' Y' true ∧ growX x j X true = X' ∧ growY x j Y = Y' := ⟨X, x.fin, e1 ht, if_neg (fun h => ht h.1), if_neg (fun h => ht h.1)⟩
        have HD' : Seal _ := ⟨hD'⟩
        clear hD e1 hD'
        gi_wp2_with fail
        refine ⟨trivial, rfl, ?_⟩
        refine (callsIn_round HGr.out).mono ?_
        rintro e w3 ⟨rfl, k3, b30, b31⟩
        rw [gx] at b30
        rw [gy] at b31
        have b32 := k3.at_ HH2.out.h2 (by omega)
        have l0 := cell_of_one (k3.at_ HG2.out (by omega))
        have l1 : w3.cell? ⟨W'.heap.size, 0, none⟩ = some (.int .i64 (x.g : Nat)) := k3.cell d0 (by dsimp only; omega)
        have l2 := cell_of_one b32
        have lf := free_of_one b32
        have HB : Seal _ := ⟨And.intro b30 (And.intro b31 b32)⟩
        have HK3 : Seal _ := ⟨k3⟩
        clear n0 n1 n2 ng nc d0 d1 d2 d3 d4 b30 b31 b32 gx gy k3
        gi_wp2_with fail
        have KB : Keep (fun b => b = m + 1 + 1) w3 (w3.setCell ⟨m + 1 + 1, 0, none⟩ (.bool true)) := (Keep.refl (fun b => b = m + 1 + 1) w3).setCell (fun _ => rfl) _
        refine ⟨(HK3.out.mono fun b hb h => by omega).trans KB (fun b hb h => by omega), X', Y', true, ⟨KB.at_ HB.out.1 (by omega), KB.at_ HB.out.2.1 (by omega), one_setCell HB.out.2.2, ?_⟩, HD'.out⟩
        exact (HH2.out.hk.trans HK3.out (fun b hb h => by omega)).trans KB (fun b hb h => by omega)
  case hdone =>
    rintro W' ⟨X, Y, o, hH, hD⟩ hs hDf
    cases o with
    | false => exact absurd hD (drop_not HYes.out)
    | true =>
      obtain ⟨p1, g1, c, g2, p2, hDO⟩ := drop_end hc0.out (List.append_nil cs).symm hD (.inl rfl)
      obtain ⟨hcel, hyle⟩ := hDO.cells hn HCs.out
      have hxy : X ≤ Y := by obtain ⟨-, -, -, -, -, -, -, -, -, h⟩ := hDO; omega
      have hDO' : Seal _ := ⟨hDO⟩
      have hcel' : Seal _ := ⟨hcel⟩
      have SW := HSL.out.keep hH.hk (fun k hk h => by have := lw k hk; omega)
      have HM1 : Seal ((Y : Int) - (X : Int) = ((Y - X : Nat) : Int)) := ⟨by omega⟩
      have HG : Seal _ := ⟨gap_any X (Y - X) P W _ W' SW (by omega)⟩
      have n0 := cell_of_one hH.h0
      have n1 := cell_of_one hH.h1
      have hH' : Seal _ := ⟨hH⟩
      clear hDO hcel SW hH hD
      gi_wp2_with fail
      rw [HM1.out]
      refine ⟨trivial, rfl, ?_⟩
      refine (callsIn_wide.2 HG.out).mono ?_
      rintro e w9 ⟨rfl, k9, S9⟩
      have HS9 : Seal _ := ⟨S9⟩
      have HK9 : Seal _ := ⟨k9⟩
      have hDf9 := k9.at_ hDf (fun h => by have h1 := lw P.a (by simp [Sp.all]); have h2 := lw P.q (by simp [Sp.all]); omega)
      clear S9 k9 n0 n1
      gi_wp2_with fail
      refine ⟨by simp, .inl ⟨_, _, rfl, run_takeDeferred (hzl ▸ hDf9), ?_⟩⟩
      have kE : Keep (fun b => b = (m + 1 + 1 + 1 + 1 + 1)) w9 (w9.putObj (m + 1 + 1 + 1 + 1 + 1) (.deferred none)) := (Keep.refl (fun b => b = (m + 1 + 1 + 1 + 1 + 1)) w9).putObj (fun _ => rfl) _
      have hks : ∀ b, P.all b → ¬ b = (m + 1 + 1 + 1 + 1 + 1) := fun b hb h => by have := lw b hb; omega
      refine ⟨.int .i64 0, by simp [results, Tryd.results12, go_sem], .inr ⟨rfl, ?_, j, p1, g1, c, g2, p2, X, Y, rfl, hDO'.out, ⟨_, _, HS9.out.keep kE hks, hcel'.out, hDO'.out.starts HSt.out hc0.out⟩⟩⟩
      exact ((HKL.out.trans hH'.out.hk (fun b hb h => by omega)).trans HK9.out (fun b hb h => by rcases h with h | h; exact .inl h; exact .inr (.inl h))).trans kE (fun b hb h => by omega)
  case hstop =>
    rintro c pre W' hp ⟨rfl, p, d, X, Y, e1, e2, hH, hD⟩ hs hDf
    obtain ⟨rest, hrest⟩ := hp
    rw [e1] at hrest
    have hrest' : cs = p ++ (d :: rest) := by rw [← hrest]; simp
    have HRest : Seal _ := ⟨hrest'⟩
    clear hrest hrest' e1
    obtain ⟨p1, g1, c, g2, p2, hDO⟩ := drop_end hc0.out HRest.out hD (.inr ⟨_, _, rfl, e2⟩)
    obtain ⟨hcel, hyle⟩ := hDO.cells hn HCs.out
    have hxy : X ≤ Y := by obtain ⟨-, -, -, -, -, -, -, -, -, h⟩ := hDO; omega
    have hDO' : Seal _ := ⟨hDO⟩
    have hcel' : Seal _ := ⟨hcel⟩
    have SW := HSL.out.keep hH.hk (fun k hk h => by have := lw k hk; omega)
    have HM1 : Seal ((Y : Int) - (X : Int) = ((Y - X : Nat) : Int)) := ⟨by omega⟩
    have HG : Seal _ := ⟨gap_any X (Y - X) P W _ W' SW (by omega)⟩
    have n0 := cell_of_one hH.h0
    have n1 := cell_of_one hH.h1
    have hH' : Seal _ := ⟨hH⟩
    clear hDO hcel SW hH hD
    gi_wp2_with fail
    rw [HM1.out]
    refine ⟨trivial, rfl, ?_⟩
    refine (callsIn_wide.2 HG.out).mono ?_
    rintro e w9 ⟨rfl, k9, S9⟩
    have HS9 : Seal _ := ⟨S9⟩
    have HK9 : Seal _ := ⟨k9⟩
    have hDf9 := k9.at_ hDf (fun h => by have h1 := lw P.a (by simp [Sp.all]); have h2 := lw P.q (by simp [Sp.all]); omega)
    clear S9 k9 n0 n1
    gi_wp2_with fail
    refine ⟨by simp, .inl ⟨_, _, rfl, run_takeDeferred (hzl ▸ hDf9), ?_⟩⟩
    have kE : Keep (fun b => b = (m + 1 + 1 + 1 + 1 + 1)) w9 (w9.putObj (m + 1 + 1 + 1 + 1 + 1) (.deferred none)) := (Keep.refl (fun b => b = (m + 1 + 1 + 1 + 1 + 1)) w9).putObj (fun _ => rfl) _
    have hks : ∀ b, P.all b → ¬ b = (m + 1 + 1 + 1 + 1 + 1) := fun b hb h => by have := lw b hb; omega
    refine ⟨.int .i64 0, by simp [results, Tryd.results12, go_sem], .inr ⟨rfl, ?_, j, p1, g1, c, g2, p2, X, Y, rfl, hDO'.out, ⟨_, _, HS9.out.keep kE hks, hcel'.out, hDO'.out.starts HSt.out hc0.out⟩⟩⟩
    exact ((HKL.out.trans hH'.out.hk (fun b hb h => by omega)).trans HK9.out (fun b hb h => by rcases h with h | h; exact .inl h; exact .inr (.inl h))).trans kE (fun b hb h => by omega)

theorem Drop_any (g : Int) (P : Sp) (cs : List Cel) (w : World) (h : SpaceHas w P cs) :
    Calls Tryd.prog 12 #[.pointer (some ⟨P.s, 0, none⟩), .int .i64 g] w (DropPost P cs g w) := by
  by_cases hno : ∀ j : Nat, g = (j : Nat) → startOf cs j = false
  · exact Drop_no g P cs w h hno
  · simp only [Classical.not_forall] at hno
    obtain ⟨j, rfl, hj⟩ := hno
    exact Drop_yes j P cs w h (by simpa using hj)

end Go.Proofs.YtafjebdjdmlahaaDoor
