/-
  Put of package space.
-/
import Derived.Test.YtgccjhnafhlndaaGreatDoorSpaceIter
import Derived.Test.YtgccjhnafhlndaaGreatDoorLibA
namespace Go.Proofs.YtgccjhnafhlndaaGreatDoor
open Go.RowKit
set_option linter.unusedVariables false
attribute [local go_sem] Oper.semAt_some

/-- A space has cells, and the starts that these tell. -/
def SpaceHasW (w : World) (P : Sp) (W : Nat → Nat) (cs : List Cel) : Prop := ∃ f, SpaceAt w P W f ∧ CellsAt P W cs ∧ ∀ i, i < P.n / 2 → f i = startOf cs i

/-- A space with the cells cs, whatever its words. -/
def SpaceHas (w : World) (P : Sp) (cs : List Cel) : Prop := ∃ W, SpaceHasW w P W cs

theorem SpaceHasW.keep {S : Nat → Prop} {w w' : World} {P : Sp} {W : Nat → Nat} {cs : List Cel} (h : SpaceHasW w P W cs) (k : Keep S w w') (hS : ∀ i, P.all i → ¬ S i) : SpaceHasW w' P W cs :=
  let ⟨f, a, b, c⟩ := h; ⟨f, a.keep k hS, b, c⟩

theorem SpaceHasW.keepN {w w' : World} {P : Sp} {W : Nat → Nat} {cs : List Cel} (h : SpaceHasW w P W cs) (k : Keep Nope w w') : SpaceHasW w' P W cs := h.keep k (fun _ _ h => h)

theorem SpaceHas.keep {S : Nat → Prop} {w w' : World} {P : Sp} {cs : List Cel} (h : SpaceHas w P cs) (k : Keep S w w') (hS : ∀ i, P.all i → ¬ S i) : SpaceHas w' P cs :=
  let ⟨W, a⟩ := h; ⟨W, a.keep k hS⟩

theorem SpaceHas.keepN {w w' : World} {P : Sp} {cs : List Cel} (h : SpaceHas w P cs) (k : Keep Nope w w') : SpaceHas w' P cs := h.keep k (fun _ _ h => h)

theorem keep_cell {w w' : World} {p : Addr} {v : Value} (h : Keep Nope w w') (c : w.cell? p = some v) : w'.cell? p = some v := h.cell c (fun h => h)

theorem Keep.setNew {w w' : World} (h : Keep Nope w w') {b j : Nat} (hb : w.heap.size ≤ b) (v : Value) : Keep Nope w (w'.setCell ⟨b, j, none⟩ v) :=
  h.setCell (fun hlt => by have : b < w.heap.size := hlt; omega) v

/-- What a Put leaves. -/
def PutPost (P : Sp) (cs : List Cel) (g id n : Int) (w : World) (e : Ending) (w' : World) : Prop :=
  e = .returned (.int .i64 (putR P.ts (P.n / 2) cs g id n)) ∧ Keep P.own w w' ∧
    ((¬ putR P.ts (P.n / 2) cs g id n = 0 ∧ SpaceHas w' P cs) ∨
     (putR P.ts (P.n / 2) cs g id n = 0 ∧ ∃ (pre : List Cel) (c : Cel) (post : List Cel) (j i l S : Nat), cs = pre ++ c :: post ∧ ¬ c.tag = 1 ∧ g = (j : Nat) ∧ id = (i : Nat) ∧ n = (l : Nat) ∧ sizeS P.ts id n = (S : Nat) ∧
        c.g ≤ j ∧ j + S ≤ c.fin ∧ 0 < S ∧ SpaceHas w' P (putL pre c post j i l S)))

/-- What a Put leaves, the words too. -/
def PutPostW (P : Sp) (cs : List Cel) (W : Nat → Nat) (g id n : Int) (w : World) (e : Ending) (w' : World) : Prop :=
  e = .returned (.int .i64 (putR P.ts (P.n / 2) cs g id n)) ∧ Keep P.own w w' ∧
    ((¬ putR P.ts (P.n / 2) cs g id n = 0 ∧ SpaceHasW w' P W cs) ∨
     (putR P.ts (P.n / 2) cs g id n = 0 ∧ ∃ (pre : List Cel) (c : Cel) (post : List Cel) (j i l S : Nat), cs = pre ++ c :: post ∧ ¬ c.tag = 1 ∧ g = (j : Nat) ∧ id = (i : Nat) ∧ n = (l : Nat) ∧ sizeS P.ts id n = (S : Nat) ∧
        c.g ≤ j ∧ j + S ≤ c.fin ∧ 0 < S ∧ SpaceHasW w' P (putW W c j i l S) (putL pre c post j i l S)))

theorem PutPostW.weak {P : Sp} {cs : List Cel} {W : Nat → Nat} {g id n : Int} {w w' : World} {e : Ending} (h : PutPostW P cs W g id n w e w') : PutPost P cs g id n w e w' := by
  obtain ⟨h1, h2, h3⟩ := h
  refine ⟨h1, h2, ?_⟩
  rcases h3 with ⟨a, b⟩ | ⟨a, pre, c, post, j, i, l, S, b1, b2, b3, b4, b5, b6, b7, b8, b9, b10⟩
  · exact .inl ⟨a, _, b⟩
  · exact .inr ⟨a, pre, c, post, j, i, l, S, b1, b2, b3, b4, b5, b6, b7, b8, b9, _, b10⟩

set_option maxRecDepth 20000 in
set_option maxHeartbeats 4000000 in
theorem Put_err (g id n : Int) (P : Sp) (cs : List Cel) (w : World) (W : Nat → Nat) (h : SpaceHasW w P W cs) (he : ¬ sizeE P.ts id n = 0) :
    Calls Tryz.prog 34 #[.pointer (some ⟨P.s, 0, none⟩), .int .i64 g, .int .i64 id, .int .i64 n] w (PutPostW P cs W g id n w) := by
  have hR : Seal (putR P.ts (P.n / 2) cs g id n = sizeE P.ts id n) := ⟨by rw [putR, if_pos he]⟩
  have HO : Seal (∀ W' W0 f0, SpaceAt W' P W0 f0 → Calls Tryz.prog 66 #[.pointer (some ⟨P.t, 0, none⟩), .int .i64 id, .int .i64 n] W' fun e w' => e = .returned (.tuple #[.agg #[.int .u8 0, .int .i64 0, .int .i64 0, .int .i64 0], .int .i64 (sizeE P.ts id n)]) ∧ Keep Nope W' w') :=
    ⟨fun W' _ _ h' => (HOf_any id n P.t P.tq P.ts W' h'.tb).mono fun e w' hp => by rw [HOfPost, if_neg he] at hp; exact hp⟩
  obtain ⟨E, hE⟩ : ∃ E, sizeE P.ts id n = E := ⟨_, rfl⟩
  rw [hE] at HO hR
  have he' : ¬ E = 0 := by rw [← hE]; exact he
  have hb : (E != 0) = true := by simpa using he'
  clear he hE
  obtain ⟨f, hs, hc, hst⟩ := h
  have HSs : Seal _ := ⟨hs⟩
  have HCs : Seal _ := ⟨hc⟩
  have HSt : Seal _ := ⟨hst⟩
  obtain ⟨w5, hw5⟩ : ∃ w5, w5 = ((((w.alloc (.cells #[.pointer (some ⟨P.s, 0, none⟩)] 27)).alloc (.cells #[.int .i64 g] 3)).alloc (.cells #[.int .i64 id] 3)).alloc (.cells #[.int .i64 n] 3)).alloc (.cells #[.int .i64 0] 34) := ⟨_, rfl⟩
  have k5 : Keep Nope w w5 := by rw [hw5]; exact (((((Keep.refl _ w).alloc _).alloc _).alloc _).alloc _).alloc _
  have z5 : Seal (w5.heap.size = w.heap.size + 1 + 1 + 1 + 1 + 1) := ⟨by rw [hw5]; simp⟩
  have g0 : w5.heap[w.heap.size]? = some (.cells #[.pointer (some ⟨P.s, 0, none⟩)] 27 (0, 0)) := by
    rw [hw5]; exact ((((Keep.refl Nope _).alloc _).alloc _).alloc _ |>.alloc _).at_ (World.alloc_heap_new w _) (fun h => h)
  have g1 : w5.heap[w.heap.size + 1]? = some (.cells #[.int .i64 g] 3 (0, 0)) := by
    rw [hw5]; exact (((Keep.refl Nope _).alloc _).alloc _ |>.alloc _).at_ (alloc_new' _ _ (by simp)) (fun h => h)
  have g2 : w5.heap[w.heap.size + 1 + 1]? = some (.cells #[.int .i64 id] 3 (0, 0)) := by
    rw [hw5]; exact ((Keep.refl Nope _).alloc _ |>.alloc _).at_ (alloc_new' _ _ (by simp)) (fun h => h)
  have g3 : w5.heap[w.heap.size + 1 + 1 + 1]? = some (.cells #[.int .i64 n] 3 (0, 0)) := by
    rw [hw5]; exact ((Keep.refl Nope _).alloc _).at_ (alloc_new' _ _ (by simp)) (fun h => h)
  have g4 : w5.heap[w.heap.size + 1 + 1 + 1 + 1]? = some (.cells #[.int .i64 0] 34 (0, 0)) := by
    rw [hw5]; exact alloc_new' _ _ (by simp)
  have S5 := hs.keepN k5
  have HB : Seal _ := ⟨And.intro g0 (And.intro g1 (And.intro g2 (And.intro g3 g4)))⟩
  have c0 := cell_of_one g0
  have c1 := cell_of_one g1
  have c2 := cell_of_one g2
  have c3 := cell_of_one g3
  have c4 := cell_of_one g4
  have f4 := free_of_one g4
  obtain ⟨s0, s1, s2⟩ := S5.head
  have HS5 : Seal _ := ⟨S5⟩
  have lts := hs.lt P.s (by simp [Sp.all])
  clear hs hc hst S5 g0 g1 g2 g3 g4
  refine (callsIn_wide (n := 0)).1 ?_
  refine callsIn_of_wp_marks Tryz.func34 rfl trivial ?_
  simp only [Tryz.ntmps34, List.size_toArray, List.length_cons, List.length_nil, Nat.reduceAdd, Nat.reduceSub, Array.replicate_succ, Array.replicate_zero, List.push_toArray, List.append_toArray, List.nil_append, List.cons_append]
  gi_wp2_with fail
  try rw [← hw5]
  clear hw5
  gi_wp2_with fail
  refine wpIn_wide.2 ?_
  go_region_held3 (fun w' => w'.cell? ⟨w.heap.size, 0, none⟩ = some (.pointer (some ⟨P.s, 0, none⟩)) ∧ w'.cell? ⟨w.heap.size + 1 + 1, 0, none⟩ = some (.int .i64 id) ∧ w'.cell? ⟨w.heap.size + 1 + 1 + 1, 0, none⟩ = some (.int .i64 n) ∧ w'.cell? ⟨P.s, 1, none⟩ = some (.pointer (some ⟨P.t, 0, none⟩)))
    (exact ⟨keep_cell (by (repeat (first | assumption | exact Keep.refl _ _ | refine Keep.drew ?_ | refine Keep.alloc ?_ _ | refine Keep.setNew ?_ (by omega) _))) c0, keep_cell (by (repeat (first | assumption | exact Keep.refl _ _ | refine Keep.drew ?_ | refine Keep.alloc ?_ _ | refine Keep.setNew ?_ (by omega) _))) c2, keep_cell (by (repeat (first | assumption | exact Keep.refl _ _ | refine Keep.drew ?_ | refine Keep.alloc ?_ _ | refine Keep.setNew ?_ (by omega) _))) c3, keep_cell (by (repeat (first | assumption | exact Keep.refl _ _ | refine Keep.drew ?_ | refine Keep.alloc ?_ _ | refine Keep.setNew ?_ (by omega) _))) s1⟩)
    (first
      | (go_at_call 66; with_reducible refine (HO.out w5.drew W f (HS5.out.keepN (Keep.refl Nope _).drew)).mono ?_; rintro e w6 ⟨rfl, k6⟩
         have KK : Keep Nope w5 w6 := (Keep.refl Nope w5).drew.then' k6
         have KS := KK.size)
      | (go_at_call 66; with_reducible refine (HO.out (w5.alloc (.cells #[.int .u8 0, .int .i64 0, .int .i64 0, .int .i64 0] 44)).drew W f (HS5.out.keepN ((Keep.refl Nope _).alloc _).drew)).mono ?_; rintro e w6 ⟨rfl, k6⟩
         have KK : Keep Nope w5 w6 := ((Keep.refl Nope w5).alloc _).drew.then' k6
         have KS := KK.size
         have B6 := k6.at_ (show (w5.alloc (.cells #[.int .u8 0, .int .i64 0, .int .i64 0, .int .i64 0] 44)).drew.heap[w5.heap.size]? = _ from World.alloc_heap_new w5 _) (fun h => h)
         have fb0 := free_of_block B6 0
         have fb1 := free_of_block B6 1
         have fb2 := free_of_block B6 2
         have fb3 := free_of_block B6 3
         have db0 : w6.cell? ⟨w5.heap.size, 0, none⟩ = some (.int .u8 0) := by simp [World.cell?, B6]
         have db1 : w6.cell? ⟨w5.heap.size, 1, none⟩ = some (.int .i64 0) := by simp [World.cell?, B6]
         have db2 : w6.cell? ⟨w5.heap.size, 2, none⟩ = some (.int .i64 0) := by simp [World.cell?, B6]
         have db3 : w6.cell? ⟨w5.heap.size, 3, none⟩ = some (.int .i64 0) := by simp [World.cell?, B6]
         have HB6 : Seal _ := ⟨B6⟩
         clear B6))
  all_goals
    first
      | (generalize hwz : World.setCell _ _ _ = wz
         have kz : Keep Nope w5 wz := by rw [← hwz]; (repeat (first | assumption | exact Keep.refl _ _ | refine Keep.drew ?_ | refine Keep.alloc ?_ _ | refine Keep.setNew ?_ (by omega) _))
         clear hwz)
      | (generalize hwz : World.alloc _ _ = wz
         have kz : Keep Nope w5 wz := by rw [← hwz]; (repeat (first | assumption | exact Keep.refl _ _ | refine Keep.drew ?_ | refine Keep.alloc ?_ _ | refine Keep.setNew ?_ (by omega) _))
         clear hwz)
    replace c4 := kz.cell c4 (fun h => h)
    have f4 := free_of_one (kz.at_ HB.out.2.2.2.2 (fun h => h))
    gi_wp2_with fail
    have kq : Keep (fun i => i = w.heap.size + 1 + 1 + 1 + 1) wz (wz.setCell ⟨w.heap.size + 1 + 1 + 1 + 1, 0, none⟩ (.int .i64 E)) := (Keep.refl (fun i => i = w.heap.size + 1 + 1 + 1 + 1) wz).setCell (fun _ => rfl) _
    have e4 := cell_of_one (one_setCell (u := .int .i64 E) (kz.at_ HB.out.2.2.2.2 (fun h => h)))
    have kk : Keep Nope w wz := k5.then' kz
    refine ⟨.int .i64 E, by simp [results, Tryz.results34, go_sem, e4], by rw [hR.out], (kk.of_not P.own).trans kq (fun i hi h => by omega), .inl ⟨by rw [hR.out]; exact he', ?_⟩⟩
    refine SpaceHasW.keep ⟨f, HSs.out.keepN kk, HCs.out, HSt.out⟩ kq (fun i hi h => by have := HSs.out.lt i hi; omega)

end Go.Proofs.YtgccjhnafhlndaaGreatDoor
