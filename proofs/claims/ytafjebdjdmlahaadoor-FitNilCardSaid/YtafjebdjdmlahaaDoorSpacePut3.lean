/-
  Put of package space, at a granule of the space.
-/
import Derived.Test.YtafjebdjdmlahaaDoorSpacePut2
namespace Go.Proofs.YtafjebdjdmlahaaDoor
open Go.RowKit
set_option linter.unusedVariables false
attribute [local go_sem] Oper.semAt_some

theorem callsIn_round {Pr : Program} {l n : Nat} {f : FuncId} {args : Array Value} {w : World} {R : Ending → World → Prop} (h : Calls Pr f args w R) : CallsIn (Fence.wide.inRound l) n Pr f args w R :=
  (callsIn_wide (n := n)).2 h

/-- What the last round reads: the parameters, the result, the header, the cell. -/
structure PutHeld (P : Sp) (z j S b9 bc : Nat) (i l : Nat) (x : Cel) (A : World) : Prop where
  h0 : A.heap[z]? = some (.cells #[.pointer (some ⟨P.s, 0, none⟩)] 30 (0, 0))
  h1 : A.heap[z + 1]? = some (.cells #[.int .i64 (j : Nat)] 3 (0, 0))
  h4 : A.heap[z + 1 + 1 + 1 + 1]? = some (.cells #[.int .i64 0] 27 (0, 0))
  h9 : A.heap[b9]? = some (.cells #[.int .u8 1, .int .i64 (i : Nat), .int .i64 (l : Nat), .int .i64 (S : Nat)] 43 (0, 0))
  hc : A.heap[bc]? = some (.cells #[.int .i64 (x.g : Nat), .int .u8 (x.tag : Nat), .int .i64 (x.ty : Nat), .int .i64 (x.ln : Nat), .int .i64 (x.sz : Nat)] 45 (0, 0))

theorem PutHeld.keep {P : Sp} {z j S b9 bc i l : Nat} {x : Cel} {A B : World} {T : Nat → Prop} (h : PutHeld P z j S b9 bc i l x A) (k : Keep T A B) (hT : ∀ b, T b → b < z) (h9 : z ≤ b9) (hc : z ≤ bc) : PutHeld P z j S b9 bc i l x B :=
  ⟨k.at_ h.h0 (fun e => by have := hT _ e; omega), k.at_ h.h1 (fun e => by have := hT _ e; omega), k.at_ h.h4 (fun e => by have := hT _ e; omega), k.at_ h.h9 (fun e => by have := hT _ e; omega), k.at_ h.hc (fun e => by have := hT _ e; omega)⟩

theorem PutHeld.cells {P : Sp} {z j S b9 bc i l : Nat} {x : Cel} {A : World} (h : PutHeld P z j S b9 bc i l x A) :
    A.cell? ⟨z, 0, none⟩ = some (.pointer (some ⟨P.s, 0, none⟩)) ∧ A.cell? ⟨z + 1, 0, none⟩ = some (.int .i64 (j : Nat)) ∧ A.cell? ⟨b9, 3, none⟩ = some (.int .i64 (S : Nat)) ∧ A.cell? ⟨bc, 0, none⟩ = some (.int .i64 (x.g : Nat)) ∧
      A.cell? ⟨z + 1 + 1 + 1 + 1, 0, none⟩ = some (.int .i64 0) ∧ A.frozen? ⟨z + 1 + 1 + 1 + 1, 0, none⟩ = false := by
  have a := h.h9
  have b := h.hc
  exact ⟨cell_of_one h.h0, cell_of_one h.h1, by simp [World.cell?, a], by simp [World.cell?, b], cell_of_one h.h4, free_of_one h.h4⟩

/-- What lies there behind the last round. -/
def PutIx (P : Sp) (cs : List Cel) (g id n : Int) (wl : World) (res : Nat) (c : Code) (W : World) : Prop :=
  c = .ret ∧ W.heap[res]? = some (.cells #[.int .i64 (putR P.ts (P.n / 2) cs g id n)] 27 (0, 0)) ∧ Keep (fun k => P.own k ∨ k = res) wl W ∧
    ((¬ putR P.ts (P.n / 2) cs g id n = 0 ∧ SpaceHas W P cs) ∨
     (putR P.ts (P.n / 2) cs g id n = 0 ∧ ∃ (pre : List Cel) (c : Cel) (post : List Cel) (j i l S : Nat), cs = pre ++ c :: post ∧ ¬ c.tag = 1 ∧ g = (j : Nat) ∧ id = (i : Nat) ∧ n = (l : Nat) ∧ sizeS P.ts id n = (S : Nat) ∧
        c.g ≤ j ∧ j + S ≤ c.fin ∧ 0 < S ∧ SpaceHas W P (putL pre c post j i l S)))

set_option maxRecDepth 20000 in
set_option maxHeartbeats 8000000 in
theorem Put_in (j i l S : Nat) (P : Sp) (cs : List Cel) (w : World) (h : SpaceHas w P cs) (he : sizeE P.ts (i : Nat) (l : Nat) = 0) (hS : sizeS P.ts (i : Nat) (l : Nat) = (S : Nat)) (hS0 : 0 < S) (hok : CelOk P.ts ⟨0, 1, i, l, S⟩) (hj : j < P.n / 2) :
    Calls Tryd.prog 10 #[.pointer (some ⟨P.s, 0, none⟩), .int .i64 (j : Nat), .int .i64 (i : Nat), .int .i64 (l : Nat)] w (PutPost P cs (j : Nat) (i : Nat) (l : Nat) w) := by
  have hcell : ∃ p0 c0' q0, cs = p0 ++ c0' :: q0 ∧ c0'.g ≤ j ∧ j < c0'.fin ∧ ∀ d ∈ p0, d.fin ≤ c0'.g := by
    obtain ⟨_, _, _, hc, _⟩ := h
    exact cell_split hc.tl (Nat.zero_le _) hj
  obtain ⟨p0, c0', q0, hcs, hc1, hc2, hc3⟩ := hcell
  have hm0 : c0' ∈ cs := by rw [hcs]; simp
  clear hcs hc3
  have hR : Seal (∀ pre c post, cs = pre ++ c :: post → (∀ d ∈ pre, d.fin ≤ j) → j < c.fin → putR P.ts (P.n / 2) cs (j : Nat) (i : Nat) (l : Nat) = if c.tag = 1 ∨ (c.fin : Int) - (j : Nat) < (S : Nat) then 3 else 0) := ⟨by
    intro pre c post e1 e2 e3
    rw [putR, if_neg (by simpa using he), if_neg (by omega), e1, cellOf_at (g := (j : Nat)) (fun d hd => by have := e2 d hd; omega) (by omega), hS]⟩
  have HO : Seal (∀ W' W0 f0, SpaceAt W' P W0 f0 → Calls Tryd.prog 31 #[.pointer (some ⟨P.t, 0, none⟩), .int .i64 (i : Nat), .int .i64 (l : Nat)] W' fun e w' => e = .returned (.tuple #[.agg #[.int .u8 1, .int .i64 (i : Nat), .int .i64 (l : Nat), .int .i64 (S : Nat)], .int .i64 0]) ∧ Keep Nope W' w') :=
    ⟨fun W' _ _ h' => (HOf_any (i : Nat) (l : Nat) P.t P.tq P.ts W' h'.tb).mono fun e w' hp => by rw [HOfPost, he, if_pos rfl, hS] at hp; exact hp⟩
  have hn : P.n ≤ 65536 := by obtain ⟨_, _, hs, _⟩ := h; exact hs.ar.small
  have HCell : Seal (∀ W pre c post, CellsAt P W cs → cs = pre ++ c :: post → (∀ d ∈ pre, d.fin ≤ j) → c.g ≤ j ∧ c.g + c.sz ≤ P.n / 2 ∧ CelOk P.ts c) := ⟨by
    intro W pre c post hc e1 e2
    have hm := hc.tl.mem (c := c) (by rw [e1]; simp)
    refine ⟨?_, hm.2.1, hc.ok c (by rw [e1]; simp)⟩
    have ht := hc.tl
    rw [e1] at ht
    obtain ⟨x, t1, t2⟩ := ht.split
    rw [t2.1]
    exact tiles_fin t1 e2 (Nat.zero_le _)⟩
  have HSz : Seal (sizeS P.ts (i : Nat) (l : Nat) = (S : Nat) ∧ sizeE P.ts (i : Nat) (l : Nat) = 0 ∧ CelOk P.ts ⟨0, 1, i, l, S⟩) := ⟨⟨hS, he, hok⟩⟩
  obtain ⟨H, hH⟩ : ∃ H, P.n / 2 = H := ⟨_, rfl⟩
  have HG : Seal (∀ W' W0 f0, SpaceAt W' P W0 f0 → Calls Tryd.prog 29 #[.pointer (some ⟨P.s, 0, none⟩)] W' fun e w'' => e = .returned (.int .i64 (H : Nat)) ∧ w'' = W') := ⟨fun w' W0 f0 h' => by rw [← hH]; exact Gran_at P W0 f0 w' h'⟩
  have HH : Seal (P.n / 2 = H) := ⟨hH⟩
  rw [hH] at hj
  have hH2 : H ≤ 32768 := by omega
  clear he hS hH hok hn
  obtain ⟨W, f, hs, hc, hst⟩ := h
  have HSs : Seal _ := ⟨hs⟩
  have HCs : Seal _ := ⟨hc⟩
  have HSt : Seal _ := ⟨hst⟩
  obtain ⟨w5, hw5⟩ : ∃ w5, w5 = ((((w.alloc (.cells #[.pointer (some ⟨P.s, 0, none⟩)] 30)).alloc (.cells #[.int .i64 (j : Nat)] 3)).alloc (.cells #[.int .i64 (i : Nat)] 3)).alloc (.cells #[.int .i64 (l : Nat)] 3)).alloc (.cells #[.int .i64 0] 27) := ⟨_, rfl⟩
  have k5 : Keep Nope w w5 := by rw [hw5]; exact (((((Keep.refl _ w).alloc _).alloc _).alloc _).alloc _).alloc _
  have z5 : Seal (w5.heap.size = w.heap.size + 1 + 1 + 1 + 1 + 1) := ⟨by rw [hw5]; simp⟩
  have g0 : w5.heap[w.heap.size]? = some (.cells #[.pointer (some ⟨P.s, 0, none⟩)] 30 (0, 0)) := by
    rw [hw5]; exact ((((Keep.refl Nope _).alloc _).alloc _).alloc _ |>.alloc _).at_ (World.alloc_heap_new w _) (fun h => h)
  have g1 : w5.heap[w.heap.size + 1]? = some (.cells #[.int .i64 (j : Nat)] 3 (0, 0)) := by
    rw [hw5]; exact (((Keep.refl Nope _).alloc _).alloc _ |>.alloc _).at_ (alloc_new' _ _ (by simp)) (fun h => h)
  have g2 : w5.heap[w.heap.size + 1 + 1]? = some (.cells #[.int .i64 (i : Nat)] 3 (0, 0)) := by
    rw [hw5]; exact ((Keep.refl Nope _).alloc _ |>.alloc _).at_ (alloc_new' _ _ (by simp)) (fun h => h)
  have g3 : w5.heap[w.heap.size + 1 + 1 + 1]? = some (.cells #[.int .i64 (l : Nat)] 3 (0, 0)) := by
    rw [hw5]; exact ((Keep.refl Nope _).alloc _).at_ (alloc_new' _ _ (by simp)) (fun h => h)
  have g4 : w5.heap[w.heap.size + 1 + 1 + 1 + 1]? = some (.cells #[.int .i64 0] 27 (0, 0)) := by
    rw [hw5]; exact alloc_new' _ _ (by simp)
  have S5 := hs.keepN k5
  have HB : Seal _ := ⟨And.intro g0 (And.intro g1 (And.intro g2 (And.intro g3 g4)))⟩
  have c0 := cell_of_one g0
  have c1 := cell_of_one g1
  have c2 := cell_of_one g2
  have c3 := cell_of_one g3
  have c4 := cell_of_one g4
  have f4 := free_of_one g4
  obtain ⟨s0, s1, s2⟩ := S5.head
  have HS5 : Seal _ := ⟨S5⟩
  have lts := hs.lt P.s (by simp [Sp.all])
  clear hs hc hst S5 g0 g1 g2 g3 g4
  refine (callsIn_wide (n := 0)).1 ?_
  refine callsIn_of_wp_marks Tryd.func10 rfl trivial ?_
  simp only [Tryd.ntmps10, List.size_toArray, List.length_cons, List.length_nil, Nat.reduceAdd, Nat.reduceSub, Array.replicate_succ, Array.replicate_zero, List.push_toArray, List.append_toArray, List.nil_append, List.cons_append]
  gi_wp2_with fail
  try rw [← hw5]
  clear hw5
  gi_wp2_with fail
  refine wpIn_wide.2 ?_
  go_region_held3 (fun w' => w'.cell? ⟨w.heap.size, 0, none⟩ = some (.pointer (some ⟨P.s, 0, none⟩)) ∧ w'.cell? ⟨w.heap.size + 1 + 1, 0, none⟩ = some (.int .i64 (i : Nat)) ∧ w'.cell? ⟨w.heap.size + 1 + 1 + 1, 0, none⟩ = some (.int .i64 (l : Nat)) ∧ w'.cell? ⟨P.s, 1, none⟩ = some (.pointer (some ⟨P.t, 0, none⟩)))
    (exact ⟨keep_cell (by (repeat (first | assumption | exact Keep.refl _ _ | refine Keep.drew ?_ | refine Keep.alloc ?_ _ | refine Keep.setNew ?_ (by omega) _))) c0, keep_cell (by (repeat (first | assumption | exact Keep.refl _ _ | refine Keep.drew ?_ | refine Keep.alloc ?_ _ | refine Keep.setNew ?_ (by omega) _))) c2, keep_cell (by (repeat (first | assumption | exact Keep.refl _ _ | refine Keep.drew ?_ | refine Keep.alloc ?_ _ | refine Keep.setNew ?_ (by omega) _))) c3, keep_cell (by (repeat (first | assumption | exact Keep.refl _ _ | refine Keep.drew ?_ | refine Keep.alloc ?_ _ | refine Keep.setNew ?_ (by omega) _))) s1⟩)
    (first
      | (go_at_call 31; with_reducible refine (HO.out w5.drew W f (HS5.out.keepN (Keep.refl Nope _).drew)).mono ?_; rintro e w6 ⟨rfl, k6⟩
         have KK : Keep Nope w5 w6 := (Keep.refl Nope w5).drew.then' k6
         have KS := KK.size)
      | (go_at_call 31; with_reducible refine (HO.out (w5.alloc (.cells #[.int .u8 0, .int .i64 0, .int .i64 0, .int .i64 0] 43)).drew W f (HS5.out.keepN ((Keep.refl Nope _).alloc _).drew)).mono ?_; rintro e w6 ⟨rfl, k6⟩
         have KK : Keep Nope w5 w6 := ((Keep.refl Nope w5).alloc _).drew.then' k6
         have KS := KK.size
         have B6 := k6.at_ (show (w5.alloc (.cells #[.int .u8 0, .int .i64 0, .int .i64 0, .int .i64 0] 43)).drew.heap[w5.heap.size]? = _ from World.alloc_heap_new w5 _) (fun h => h)
         have fb0 := free_of_block B6 0
         have fb1 := free_of_block B6 1
         have fb2 := free_of_block B6 2
         have fb3 := free_of_block B6 3
         have db0 : w6.cell? ⟨w5.heap.size, 0, none⟩ = some (.int .u8 0) := by simp [World.cell?, B6]
         have db1 : w6.cell? ⟨w5.heap.size, 1, none⟩ = some (.int .i64 0) := by simp [World.cell?, B6]
         have db2 : w6.cell? ⟨w5.heap.size, 2, none⟩ = some (.int .i64 0) := by simp [World.cell?, B6]
         have db3 : w6.cell? ⟨w5.heap.size, 3, none⟩ = some (.int .i64 0) := by simp [World.cell?, B6]
         have HB6 : Seal _ := ⟨B6⟩
         clear B6))
  all_goals
    first
      | (generalize hwz : World.setCell _ _ _ = wz
         have kz : Keep Nope w5 wz := by rw [← hwz]; (repeat (first | assumption | exact Keep.refl _ _ | refine Keep.drew ?_ | refine Keep.alloc ?_ _ | refine Keep.setNew ?_ (by omega) _))
         have bz : wz.heap[w5.heap.size]? = some (.cells #[.int .u8 1, .int .i64 (i : Nat), .int .i64 (l : Nat), .int .i64 (S : Nat)] 43 (0, 0)) := by
           rw [← hwz]; exact block_setCell (block_setCell (block_setCell (block_setCell HB6.out (j := 0) _) (j := 1) _) (j := 2) _) (j := 3) _
         have lb9 : w5.heap.size < wz.heap.size := lt_of_heap bz
         have lb9' : w5.heap.size ≤ w5.heap.size := Nat.le_refl _
         generalize hb9 : w5.heap.size = b9 at bz lb9 lb9' ⊢
         replace lb9' : w5.heap.size ≤ b9 := by omega
         clear hwz)
      | (generalize hwz : World.alloc _ _ = wz
         have kz : Keep Nope w5 wz := by rw [← hwz]; (repeat (first | assumption | exact Keep.refl _ _ | refine Keep.drew ?_ | refine Keep.alloc ?_ _ | refine Keep.setNew ?_ (by omega) _))
         have bz : wz.heap[w6.heap.size]? = some (.cells #[.int .u8 1, .int .i64 (i : Nat), .int .i64 (l : Nat), .int .i64 (S : Nat)] 43 (0, 0)) := by
           rw [← hwz]; exact World.alloc_heap_new w6 _
         have lb9 : w6.heap.size < wz.heap.size := lt_of_heap bz
         have lb9' : w5.heap.size ≤ w6.heap.size := KS
         generalize hb9 : w6.heap.size = b9 at bz lb9 lb9' ⊢
         clear hwz)
    clear hb9
    replace c0 := kz.cell c0 (fun h => h)
    replace c1 := kz.cell c1 (fun h => h)
    replace c4 := kz.cell c4 (fun h => h)
    have f4 := free_of_one (kz.at_ HB.out.2.2.2.2 (fun h => h))
    have SZ := HS5.out.keepN kz
    have HSZ : Seal _ := ⟨SZ⟩
    clear SZ
    gi_wp2_with fail
    have hd0 : decide ((j : Int) < 0) = false := decide_eq_false (by omega)
    have hd1 : decide ((H : Int) ≤ (j : Int)) = false := decide_eq_false (by omega)
    refine wpIn_wide.2 ?_
    go_quiet (first | (go_at_call 29; with_reducible refine Calls.quiet_of_same (HG.out _ W f ?_); (first | exact HSZ.out | exact HSZ.out.keepN (Keep.refl Nope _).drew | exact HSZ.out.keepN (Keep.of_drewN _) | exact HSZ.out.keepN ((Keep.of_drewN _).drewN _))))
    obtain ⟨wq, hwq⟩ : ∃ wq, wq = wz.drewN nq := ⟨_, rfl⟩
    rw [← hwq]
    have kq : Keep Nope wz wq := by rw [hwq]; exact Keep.of_drewN _
    clear hwq hd0 hd1
    have K0 : Keep Nope w wq := (k5.then' kz).then' kq
    have bq9 := kq.at_ bz (fun h => h)
    have lbq : b9 < wq.heap.size := lt_of_heap bq9
    replace c0 := kq.cell c0 (fun h => h)
    obtain ⟨hz5⟩ := z5
    gi_wp2_with fail
    refine ⟨trivial, rfl, ?_⟩
    refine (callsIn_wide.2 (cells_fn P wq)).mono ?_
    rintro e wl ⟨rfl, hwl⟩
    have hzl : wl.heap.size = wq.heap.size + 1 := by rw [← hwl]; simp
    have kl : Keep Nope wq wl := by rw [← hwl]; exact (Keep.refl _ wq).alloc _
    have gbx : wl.heap[wq.heap.size]? = some (.cells #[.pointer (some ⟨P.s, 0, none⟩)] 30 (0, 0)) := by rw [← hwl]; exact World.alloc_heap_new wq _
    clear hwl
    have KL : Keep Nope w wl := K0.then' kl
    have K5L : Keep Nope w5 wl := (kz.then' kq).then' kl
    have SL := HSs.out.keepN KL
    have hsz := KL.size
    have bl9 := kl.at_ bq9 (fun h => h)
    have r0 := K5L.at_ HB.out.1 (fun h => h)
    have r1 := K5L.at_ HB.out.2.1 (fun h => h)
    have r2 := K5L.at_ HB.out.2.2.1 (fun h => h)
    have r3 := K5L.at_ HB.out.2.2.2.1 (fun h => h)
    have r4 := K5L.at_ HB.out.2.2.2.2 (fun h => h)
    have l4 := lt_of_heap r4
    have HRL : Seal _ := ⟨And.intro r0 (And.intro r1 (And.intro r2 (And.intro r3 (And.intro r4 bl9))))⟩
    have HSL : Seal _ := ⟨SL⟩
    have lall := SL.lt
    have lw : ∀ k, P.all k → k < w.heap.size := HSs.out.lt
    have lown : ∀ k, P.own k → P.all k := fun k hk => by simp only [Sp.own] at hk; simp only [Sp.all]; omega
    clear r0 r1 r2 r3 r4 c0 c1 c4 f4 HSZ
    gi_wp2_with fail
    refine wpIn_range2 (n := 0) (gf := 55) (lb := #[.pointer (some ⟨wq.heap.size, 0, none⟩)]) rfl (enters_of Tryd.func55 (by kernel_rfl) rfl)
      (cells_iter P W f cs wl wq.heap.size SL HCs.out gbx (R := Nope) (X := fun k => P.own k ∨ k = w.heap.size + 1 + 1 + 1 + 1) (fun k hk => hk.elim)) (fun k hk => hk.elim) (fun k hk => hk.elim)
      (fun k hk => by rcases hk with hk | hk; exact lall k (lown k hk); omega) (fun k hk => hk.elim) (fun _ => rfl)
      (fun pre W' => Keep Nope wl W' ∧ ∀ d ∈ pre, d.fin ≤ j) (fun c pre W' => PutIx P cs (j : Nat) (i : Nat) (l : Nat) wl (w.heap.size + 1 + 1 + 1 + 1) c W') ?hI ?hIx ?h0 ?hround ?hdone ?hstop
    case hI =>
      rintro pre A B ⟨a1, a2⟩ hk
      exact ⟨a1.trans hk (fun b hb h => by rcases h with h | h | h; exact h; omega; omega), a2⟩
    case hIx =>
      rintro c pre A B ⟨a1, a2, a3, a4⟩ hk
      have hks : ∀ b, P.all b → ¬ ((Nope b) ∨ b = wl.heap.size ∨ b = wl.heap.size + 1) := fun b hb h => by have := lall b hb; rcases h with h | h | h; exact h; omega; omega
      refine ⟨a1, hk.at_ a2 (fun h => by rcases h with h | h | h; exact h; omega; omega), a3.trans hk (fun b hb h => by rcases h with h | h | h; exact h.elim; omega; omega), ?_⟩
      rcases a4 with ⟨a5, a6⟩ | ⟨a5, p, d, q, j', i', l', S', b1, b2, b3, b4, b5, b6, b7, b8, b9, a6⟩
      · exact .inl ⟨a5, a6.keep hk hks⟩
      · exact .inr ⟨a5, p, d, q, j', i', l', S', b1, b2, b3, b4, b5, b6, b7, b8, b9, a6.keep hk hks⟩
    case h0 => exact ⟨Keep.refl _ _, fun d hd => by cases hd⟩
    case hround =>
      rintro pre x rest W' hx ⟨hK, hfin⟩ hs
      obtain ⟨x1, x2, x3⟩ := HCell.out W pre x rest HCs.out hx hfin
      have hxf : x.fin = x.g + x.sz := rfl
      have HX : Seal _ := ⟨hx⟩
      clear hx
      rw [HH.out] at x2
      unfold cellV
      gi_wp2_with fail
      refine ⟨(Keep.refl _ W').alloc _, ?_⟩
      intro W2 hc2 hf2 hk2 hs2 hr2
      have kW : Keep Nope W' (W'.alloc (.cells #[.int .i64 (x.g : Nat), .int .u8 (x.tag : Nat), .int .i64 (x.ty : Nat), .int .i64 (x.ln : Nat), .int .i64 (x.sz : Nat)] 45)) := (Keep.refl _ W').alloc _
      have bc := hk2.at_ (World.alloc_heap_new W' (.cells #[.int .i64 (x.g : Nat), .int .u8 (x.tag : Nat), .int .i64 (x.ty : Nat), .int .i64 (x.ln : Nat), .int .i64 (x.sz : Nat)] 45)) (by omega)
      have hzW := hK.size
      have N2 : Keep Nope wl W2 := ((hK.then' kW).of_not (fun k => k = wl.heap.size + 1)).trans hk2 (fun _ _ h => h) |>.mono (fun b hb h => by omega)
      have r0 := cell_of_one (N2.at_ HRL.out.1 (fun h => h))
      have r1 := cell_of_one (N2.at_ HRL.out.2.1 (fun h => h))
      have r2 := cell_of_one (N2.at_ HRL.out.2.2.1 (fun h => h))
      have r3 := cell_of_one (N2.at_ HRL.out.2.2.2.1 (fun h => h))
      have B4 := N2.at_ HRL.out.2.2.2.2.1 (fun h => h)
      have r4 := cell_of_one B4
      have f4 := free_of_one B4
      have HB4 : Seal _ := ⟨B4⟩
      have B9 := N2.at_ HRL.out.2.2.2.2.2 (fun h => h)
      have e9 : W2.cell? ⟨b9, 3, none⟩ = some (.int .i64 (S : Nat)) := by simp [World.cell?, B9]
      have d0 : W2.cell? ⟨W'.heap.size, 0, none⟩ = some (.int .i64 (x.g : Nat)) := by simp [World.cell?, bc]
      have d1 : W2.cell? ⟨W'.heap.size, 1, none⟩ = some (.int .u8 (x.tag : Nat)) := by simp [World.cell?, bc]
      have d4 : W2.cell? ⟨W'.heap.size, 4, none⟩ = some (.int .i64 (x.sz : Nat)) := by simp [World.cell?, bc]
      have S2 := HSL.out.keepN N2
      obtain ⟨s0, s1, s2⟩ := S2.head
      have HS2 : Seal _ := ⟨S2⟩
      have HBc : Seal _ := ⟨bc⟩
      have HB9 : Seal _ := ⟨B9⟩
      clear B4 B9 S2 bc hc2 hf2
      by_cases hcase : x.fin ≤ j
      · have q1 : (x.g : Int) + (x.sz : Int) ≤ (j : Int) := by omega
        gi_wp2_with fail
        exact ⟨Keep.refl _ _, N2, fun d hd => by
          rcases List.mem_append.1 hd with hd | hd
          · exact hfin d hd
          · rw [List.mem_singleton.1 hd]; exact hcase⟩
      · have q1 : ¬ (x.g : Int) + (x.sz : Int) ≤ (j : Int) := by omega
        have hRv := hR.out pre x rest HX.out hfin (by omega)
        have K3 : ∀ v, Keep (fun k => P.own k ∨ k = w.heap.size + 1 + 1 + 1 + 1) W2 (W2.setCell ⟨w.heap.size + 1 + 1 + 1 + 1, 0, none⟩ v) := fun v => (Keep.refl (fun k => P.own k ∨ k = w.heap.size + 1 + 1 + 1 + 1) W2).setCell (fun _ => .inr rfl) v
        by_cases ht : x.tag = 1
        · rw [if_pos (.inl ht)] at hRv
          have t1 : ((x.tag : Int) == 1) = true := by simp; omega
          have HRv : Seal _ := ⟨hRv⟩
          clear hRv
          gi_wp2_with fail
          refine ⟨K3 _, rfl, ?_, (N2.of_not _).trans (K3 _) (fun _ _ h => h), .inl ⟨by rw [HRv.out]; omega, ?_⟩⟩
          · rw [HRv.out]; exact one_setCell (u := .int .i64 3) HB4.out
          · exact SpaceHas.keep ⟨W, f, HS2.out, HCs.out, HSt.out⟩ ((Keep.refl (fun k => k = w.heap.size + 1 + 1 + 1 + 1) W2).setCell (fun _ => rfl) _) (fun b hb h => by have := lw b hb; omega)
        · have t1 : ((x.tag : Int) == 1) = false := by simp; omega
          by_cases hbig : (x.fin : Int) - (j : Nat) < (S : Nat)
          · rw [if_pos (.inr hbig)] at hRv
            have HRv : Seal _ := ⟨hRv⟩
            have q2 : decide ((x.g : Int) + (x.sz : Int) - (j : Int) < (S : Int)) = true := decide_eq_true (by omega)
            clear hRv
            gi_wp2_with fail
            refine ⟨K3 _, rfl, ?_, (N2.of_not _).trans (K3 _) (fun _ _ h => h), .inl ⟨by rw [HRv.out]; omega, ?_⟩⟩
            · rw [HRv.out]; exact one_setCell (u := .int .i64 3) HB4.out
            · exact SpaceHas.keep ⟨W, f, HS2.out, HCs.out, HSt.out⟩ ((Keep.refl (fun k => k = w.heap.size + 1 + 1 + 1 + 1) W2).setCell (fun _ => rfl) _) (fun b hb h => by have := lw b hb; omega)
          · rw [if_neg (by omega)] at hRv
            have HRv : Seal _ := ⟨hRv⟩
            have q2 : decide ((x.g : Int) + (x.sz : Int) - (j : Int) < (S : Int)) = false := decide_eq_false (by omega)
            clear hRv
            obtain ⟨z1, z2, z3⟩ := HSz.out
            have hgs : j + S ≤ P.n / 2 := by rw [HH.out]; omega
            have HMk : Seal (∀ k, Calls Tryd.prog 32 #[.pointer (some ⟨P.a, 0, none⟩), .pointer (some ⟨P.t, 0, none⟩), .int .i64 (j : Nat), .int .i64 (i : Nat), .int .i64 (l : Nat)] (W2.drewN k) (Stored (W2.drewN k) P.a P.q P.n (makeW W j i l S))) :=
              ⟨fun k => by
                have hk := HS2.out.keepN (Keep.of_drewN k)
                exact Make_yes j i l S P.a P.q P.n P.t P.tq W P.ts _ hk.fl hk.ar hk.tb z2 z1 z3.1 hgs hS0⟩
            have PH2 : PutHeld P w.heap.size j S b9 W'.heap.size i l x W2 := ⟨N2.at_ HRL.out.1 (fun h => h), N2.at_ HRL.out.2.1 (fun h => h), HB4.out, HB9.out, HBc.out⟩
            have HPH : Seal _ := ⟨PH2⟩
            have lb9z : w.heap.size ≤ b9 := by omega
            have lbcz : w.heap.size ≤ W'.heap.size := by omega
            have la := lw P.a (by simp [Sp.all])
            have lq := lw P.q (by simp [Sp.all])
            have lbq := lw P.bq (by simp [Sp.all])
            clear PH2 z1 z2 z3 hgs
            gi_wp2_with fail
            refine wpIn_region_quiet_tail 11 (by kernel_rfl) (by kernel_rfl) (by kernel_rfl) (fun _ _ h => h) ?_
            simp only [List.take_succ_cons, List.take_zero, List.drop_succ_cons, List.drop_zero]
            repeat (go_big_quiet_step (fail))
            refine wpQuiet_nil ?_
            intro _ hw'
            obtain ⟨nq, hw''⟩ := hw'
            subst hw''
            go_wp2_with fail
            refine (HMk.out nq).mono ?_
            rintro e w3 ⟨rfl, k3, A3⟩
            have KD : Keep Nope W2 (W2.drewN nq) := Keep.of_drewN _
            have S3 := (HS2.out.keepN KD).words k3 A3
            have PH3 := (HPH.out.keep KD (fun b hb => hb.elim) lb9z lbcz).keep k3 (fun b hb => by omega) lb9z lbcz
            have KO3 : Keep P.own W2 w3 := (KD.of_not P.own).trans k3 (fun b hb h => by rcases h with h | h; exact .inl h; exact .inr (.inl h))
            clear A3 KD k3 r0 r1 r4 f4 e9 d0 d1 d4 s0 s1 s2
            obtain ⟨v0, v1, v2, v3, v4, v5⟩ := PH3.cells
            obtain ⟨s0, s1, s2⟩ := S3.head
            have HS3 : Seal _ := ⟨S3⟩
            have HPH3 : Seal _ := ⟨PH3⟩
            clear S3 PH3 HMk
            go_wp2
            gi_wp2_with fail
            refine wpIn_region_quiet_tail 5 (by kernel_rfl) (by kernel_rfl) (by kernel_rfl) (fun _ _ h => h) ?_
            simp only [List.take_succ_cons, List.take_zero, List.drop_succ_cons, List.drop_zero]
            repeat (go_big_quiet_step (fail))
            refine wpQuiet_nil ?_
            intro _ hw'
            obtain ⟨nq, hw''⟩ := hw'
            subst hw''
            obtain ⟨w4, hw4⟩ : ∃ w4, w4 = w3.drewN nq := ⟨_, rfl⟩
            rw [← hw4]
            have k4 : Keep Nope w3 w4 := by rw [hw4]; exact Keep.of_drewN _
            clear hw4
            have S4 := HS3.out.keepN k4
            have PH4 := HPH3.out.keep k4 (fun b hb => hb.elim) lb9z lbcz
            have KO4 := KO3.trans k4 (fun b hb h => h.elim)
            obtain ⟨s0, s1, s2⟩ := S4.head
            have HSet : Seal _ := ⟨Set_int (j : Nat) (P.n / 2) P.b P.bq f w4 S4.bt⟩
            have HS4 : Seal _ := ⟨S4⟩
            have HPH4 : Seal _ := ⟨PH4⟩
            clear S4 PH4 HS3 HPH3 v0 v1 v2 v3 v4 v5
            go_wp2_with fail
            refine HSet.out.mono ?_
            rintro e w5' ⟨rfl, k5', B5'⟩
            have S5' := HS4.out.bits k5' B5'
            have PH5 := HPH4.out.keep k5' (fun b hb => by omega) lb9z lbcz
            have KO5 := KO4.trans k5' (fun b hb h => .inr (.inr h))
            obtain ⟨v0, v1, v2, v3, v4, v5⟩ := PH5.cells
            have HM1 : Seal ((j : Int) - (x.g : Int) = ((j - x.g : Nat) : Int)) := ⟨by omega⟩
            have HM2 : Seal ((j : Int) + (S : Int) = ((j + S : Nat) : Int)) := ⟨by omega⟩
            have HM3 : Seal ((x.g : Int) + (x.sz : Int) - (j : Int) - (S : Int) = ((x.fin - j - S : Nat) : Int)) := ⟨by omega⟩
            have HG1 : Seal _ := ⟨gap_any x.g (j - x.g) P _ _ w5' S5' (by rw [HH.out]; omega)⟩
            have HPH5 : Seal _ := ⟨PH5⟩
            clear S5' PH5 HS4 HPH4 HSet B5' s0 s1 s2
            go_wp2
            gi_wp2_with fail
            refine ⟨trivial, rfl, ?_⟩
            rw [HM1.out]
            refine (callsIn_round HG1.out).mono ?_
            rintro e w6' ⟨rfl, k6', S6'⟩
            have PH6 := HPH5.out.keep k6' (fun b hb => by omega) lb9z lbcz
            have KO6 := KO5.trans k6' (fun b hb h => by rcases h with h | h; exact .inl h; exact .inr (.inl h))
            clear v0 v1 v2 v3 v4 v5
            obtain ⟨v0, v1, v2, v3, v4, v5⟩ := PH6.cells
            have HG2 : Seal _ := ⟨gap_any (j + S) (x.fin - j - S) P _ _ w6' S6' (by rw [HH.out]; omega)⟩
            have HPH6 : Seal _ := ⟨PH6⟩
            clear PH6 HPH5 HG1 S6'
            gi_wp2_with fail
            refine ⟨trivial, rfl, ?_⟩
            rw [HM2.out, HM3.out]
            refine (callsIn_round HG2.out).mono ?_
            rintro e w7 ⟨rfl, k7, S7⟩
            have PH7 := HPH6.out.keep k7 (fun b hb => by omega) lb9z lbcz
            have KO7 := KO6.trans k7 (fun b hb h => by rcases h with h | h; exact .inl h; exact .inr (.inl h))
            clear v0 v1 v2 v3 v4 v5
            obtain ⟨v0, v1, v2, v3, v4, v5⟩ := PH7.cells
            have HS7 : Seal _ := ⟨S7⟩
            have HPH7 : Seal _ := ⟨PH7⟩
            clear PH7 HPH6 HG2 S7
            gi_wp2_with fail
            have hcs7 : CellsAt P (putW W x j i l S) (putL pre x rest j i l S) := by
              have h7 := HCs.out
              rw [HX.out] at h7
              exact put_cells HSs.out.ar.small h7 x1 (by omega) hS0 (HSz.out.2.2.move j)
            have hst7 : ∀ b, b < P.n / 2 → setF f (P.n / 2) (j : Nat) 1 true b = startOf (putL pre x rest j i l S) b := by
              have h8 := HSt.out
              rw [HX.out] at h8
              exact put_starts (P := P) (W := W) h8 ht (by rw [HH.out]; omega)
            have kz7 : Keep (fun k => k = w.heap.size + 1 + 1 + 1 + 1) w7 (w7.setCell ⟨w.heap.size + 1 + 1 + 1 + 1, 0, none⟩ (.int .i64 0)) := (Keep.refl (fun k => k = w.heap.size + 1 + 1 + 1 + 1) w7).setCell (fun _ => rfl) _
            have KX : Keep (fun k => P.own k ∨ k = w.heap.size + 1 + 1 + 1 + 1) W2 (w7.setCell ⟨w.heap.size + 1 + 1 + 1 + 1, 0, none⟩ (.int .i64 0)) := (KO7.mono (fun _ _ h => .inl h)).trans kz7 (fun _ _ h => .inr h)
            refine ⟨KX, rfl, ?_, (N2.of_not _).trans KX (fun _ _ h => h), .inr ⟨HRv.out, pre, x, rest, j, i, l, S, HX.out, ht, rfl, rfl, rfl, HSz.out.1, x1, by omega, hS0, ?_⟩⟩
            · rw [HRv.out]; exact one_setCell (u := .int .i64 0) HPH7.out.h4
            · refine SpaceHas.keep ⟨_, _, HS7.out, hcs7, hst7⟩ kz7 (fun b hb h => by have := lw b hb; omega)
    case hdone =>
      rintro W' ⟨a1, a2⟩ hs hD
      exact absurd (a2 c0' hm0) (by omega)
    case hstop =>
      rintro c pre W' hp ⟨a1, a2, a3, a4⟩ hs hD
      subst a1
      gi_wp2_with fail
      refine ⟨by simp, .inl ⟨_, _, rfl, run_takeDeferred hD, ?_⟩⟩
      have kE : Keep (fun b => b = wl.heap.size) W' (W'.putObj wl.heap.size (.deferred none)) := (Keep.refl (fun b => b = wl.heap.size) W').putObj (fun _ => rfl) _
      have e4 := cell_of_one (kE.at_ a2 (by omega))
      have hks : ∀ b, P.all b → ¬ b = wl.heap.size := fun b hb h => by have := lall b hb; omega
      refine ⟨.int .i64 (putR P.ts (P.n / 2) cs (j : Nat) (i : Nat) (l : Nat)), by simp [results, Tryd.results10, go_sem, e4], rfl, ((KL.of_not P.own).trans a3 (fun b hb h => by rcases h with h | h; exact h; omega)).trans kE (fun b hb h => by omega), ?_⟩
      rcases a4 with ⟨a5, a6⟩ | ⟨a5, p, d, q, j', i', l', S', b1, b2, b3, b4, b5, b6, b7, b8, b9, a6⟩
      · exact .inl ⟨a5, a6.keep kE hks⟩
      · exact .inr ⟨a5, p, d, q, j', i', l', S', b1, b2, b3, b4, b5, b6, b7, b8, b9, a6.keep kE hks⟩

end Go.Proofs.YtafjebdjdmlahaaDoor
