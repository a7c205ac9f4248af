/-
 Rows of runs as values; the document's SameRuns, where two rows are the same.
 isle.At: has a run of the row this granule?
 A row of runs that turns in its block (RunF); comparing by the first number; slices.CompactFunc at runs.
 Of's join: one run more, behind the others, or with the last one.
 slices.CompactFunc at runs: of a row in order each number once.
-/
import Derived.Test.YtgccjhnafhlndaaGreatDoorIsleD
import Derived.Test.YtgccjhnafhlndaaGreatDoorWalkCheck
import Derived.Test.YtgccjhnafhlndaaGreatDoorObjects
import Derived.Test.YtgccjhnafhlndaaGreatDoorView
import Derived.Sort.Grow
namespace Go.Proofs.YtgccjhnafhlndaaGreatDoor
open Go.RowKit
set_option linter.unusedVariables false

def Be (L : List (Nat × Nat)) : List Value := L.flatMap λ r => [.int .i64 (r.1 : Nat), .int .i64 (r.2 : Nat)]

theorem Du (xs ys : List (Nat × Nat)) : Be (xs ++ ys) = Be xs ++ Be ys := by simp [Be]

theorem BH : ∀ (xs : List (Nat × Nat)), (Be xs).length = xs.length * 2
 | [] => rfl
 | x :: xs => by
  have := BH xs
  unfold Be at this ⊢
  rw [List.flatMap_cons, List.length_append, this]
  simp
  omega

theorem flatR_at : ∀ (xs : List (Nat × Nat)) (i : Nat) (x : Nat × Nat), xs[i]? = some x -> (Be xs)[i * 2]? = some (.int .i64 (x.1 : Nat)) /\ (Be xs)[i * 2 + 1]? = some (.int .i64 (x.2 : Nat))
 | [], i, x, h => by simp at h
 | y :: xs, 0, x, h => by
  simp at h
  subst h
  exact ⟨rfl, rfl⟩
 | y :: xs, i + 1, x, h => by
  have h2 : xs[i]? = some x := by simpa using h
  obtain ⟨h3, h4⟩ := flatR_at xs i x h2
  have e : Be (y :: xs) = .int .i64 (y.1 : Nat) :: .int .i64 (y.2 : Nat) :: Be xs := rfl
  rw [e, show (i + 1) * 2 = i * 2 + 1 + 1 by omega, show i * 2 + 1 + 1 + 1 = i * 2 + 1 + 1 + 1 from rfl]
  exact ⟨by rw [List.getElem?_cons_succ, List.getElem?_cons_succ]; exact h3, by rw [List.getElem?_cons_succ, List.getElem?_cons_succ]; exact h4⟩

def BK (w : World) (v : Value) (L : List (Nat × Nat)) : Prop :=
 ∃ a cap, v = .slice a L.length cap /\ ∀ i x, L[i]? = some x -> ∃ b o, a = some ⟨b, o, none⟩ /\ b < w.heap.size /\
  w.cell? ⟨b, o + i * 2, none⟩ = some (.int .i64 (x.1 : Nat)) /\ w.cell? ⟨b, o + i * 2 + 1, none⟩ = some (.int .i64 (x.2 : Nat))

theorem BK.AO {T : TypeId} {w : World} {base : Nat} {v : Value} {L : List (Nat × Nat)} (h : w.ownsRow base T 2 v L.length (Be L)) : BK w v L := by
 rcases h.2 with ⟨rfl, h0⟩ | ⟨g, cap, cur, rfl, g2, g3, g4, g5, g6, g7⟩
 ·exact ⟨none, 0, by rw [h0], λ i x hx => by have := (List.getElem?_eq_some_iff.1 hx).1; omega⟩
 ·refine ⟨some ⟨g, 0, none⟩, cap, rfl, λ i x hx => ?_⟩
  have hi := (List.getElem?_eq_some_iff.1 hx).1
  obtain ⟨x0, x1⟩ := flatR_at L i x hx
  have key : ∀ j, j < L.length * 2 -> w.cell? ⟨g, j, none⟩ = (Be L)[j]? := λ j hj => by
   rw [<- g7, List.getElem?_take_of_lt hj]
   simp [World.cell?, g3]
  exact ⟨g, 0, rfl, lt_of_heap g3, by rw [Nat.zero_add, key _ (by omega)]; exact x0, by rw [Nat.zero_add, key _ (by omega)]; exact x1⟩

theorem BK.Ac {w w' : World} {v : Value} {L : List (Nat × Nat)} (h : BK w v L) (k : Keep Aa w w') : BK w' v L := by
 obtain ⟨a, cap, rfl, h⟩ := h
 refine ⟨a, cap, rfl, λ i x hi => ?_⟩
 obtain ⟨b, o, rfl, h1, h2, h3⟩ := h i x hi
 exact ⟨b, o, rfl, Nat.lt_of_lt_of_le h1 k.size, k.cell h2 (λ h => h), k.cell h3 (λ h => h)⟩

set_option maxHeartbeats 2000000 in
theorem Dl (L : List (Nat × Nat)) (v u : Value) (w : World) (hv : BK w v L) (hu : BK w u L) (hlen : L.length <= 9223372036854775806) :
  Calls Tryz.prog 11 #[v, u] w λ e w' => e = .returned (.bool true) /\ Keep Aa w w' := by
 have HV := sE hv
 have HU := sE hu
 obtain ⟨va, vc, rfl, -⟩ := hv
 obtain ⟨ua, uc, rfl, -⟩ := hu
 obtain ⟨len, hlen'⟩ : ∃ len, L.length = len := ⟨_, rfl⟩
 rw [hlen'] at HV HU hlen ⊢
 have HL := sE hlen'
 clear hlen'
 go_enter Tryz.func11, Tryz.ntmps11
 go_wp2_with fail
 go_loopw [5] (λ y wr => ∃ j : Nat, j <= len /\ y = .int .i64 (j : Nat) /\ Keep Aa w wr) (λ y _ => len - (intOf y).toNat)
 case atStart => exact ⟨0, Nat.zero_le _, rfl, Keep.refl _ _⟩
 case round =>
  obtain ⟨j, hj, rfl, hk⟩ := hrel
  by_cases hjl : j < len
  ·have hjl' : (j : Int) < len := by omega
   obtain ⟨va', vc', e, hx⟩ := HV.out
   injection e with e1 e3 e2
   clear e3
   subst e1 e2
   obtain ⟨ua', uc', e, hy⟩ := HU.out
   injection e with e1 e3 e2
   clear e3
   subst e1 e2
   obtain ⟨x, hxj⟩ : ∃ x, L[j]? = some x := ⟨L[j]'(by rw [HL.out]; omega), List.getElem?_eq_getElem (by rw [HL.out]; omega)⟩
   obtain ⟨b, o, rfl, hbl, x0, x1⟩ := hx j x hxj
   obtain ⟨b', o', rfl, hbl', y0, y1⟩ := hy j x hxj
   have hn := run_neq_run (x.1 : Nat) (x.2 : Nat) (x.1 : Nat) (x.2 : Nat)
   clear hx hy hxj
   replace x0 := hk.cell x0 (λ h => h)
   replace x1 := hk.cell x1 (λ h => h)
   replace y0 := hk.cell y0 (λ h => h)
   replace y1 := hk.cell y1 (λ h => h)
   go_wp2_with fail
   go_quiet (fail)
   go_wp2
   refine ⟨⟨j + 1, by omega, by go_num, hk.then' (Keep.Ae _)⟩, by simp only [intOf]; omega⟩
  ·have hjl' : ¬ (j : Int) < len := by omega
   go_wp2
   go_ret
   exact ⟨rfl, hk⟩

def inR (r : Nat × Nat) (g : Nat) : Bool := decide (r.1 <= g /\ g < r.1 + r.2)

set_option maxHeartbeats 1000000 in
theorem AtOne_at (r : Nat × Nat) (g b : Nat) (w : World) (hb : w.cell? ⟨b, 0, none⟩ = some (.int .i64 (g : Nat))) (hbl : b < w.heap.size) (h1 : r.1 + r.2 <= 65536) (h2 : g <= 65536) :
  Calls Tryz.prog 29 #[.agg #[.int .i64 (r.1 : Nat), .int .i64 (r.2 : Nat)], .pointer (some ⟨b, 0, none⟩)] w λ e w' => e = .returned (.bool (inR r g)) /\ Keep Aa w w' := by
 obtain ⟨a, n⟩ := r
 simp only at h1 ⊢
 obtain ⟨w1, hw1⟩ : ∃ w1, w1 = w.alloc (.cells #[.int .i64 (a : Nat), .int .i64 (n : Nat)] 39) := ⟨_, rfl⟩
 have k1 : Keep Aa w w1 := by rw [hw1]; exact (Keep.refl _ w).alloc _
 have b1 : w1.heap[w.heap.size]? = some (.cells #[.int .i64 (a : Nat), .int .i64 (n : Nat)] 39 (0, 0)) := by rw [hw1]; exact World.alloc_heap_new w _
 have c0 : w1.cell? ⟨w.heap.size, 0, none⟩ = some (.int .i64 (a : Nat)) := by simp [World.cell?, b1]
 have c1 : w1.cell? ⟨w.heap.size, 1, none⟩ = some (.int .i64 (n : Nat)) := by simp [World.cell?, b1]
 have cg := k1.cell hb (λ h => h)
 by_cases hle : a <= g
 ·have p1 : (a : Int) <= (g : Int) := by omega
  by_cases hlt : g < a + n
  ·have p2 : (g : Int) - (a : Int) < (n : Int) := by omega
   have hv : inR (a, n) g = true := decide_eq_true ⟨hle, hlt⟩
   rw [hv]
   clear hle hlt hv b1
   go_enter Tryz.func29, Tryz.ntmps29
   go_wp2_with fail
   rw [<- hw1]
   clear hw1
   go_wp2
   go_ret
   exact ⟨rfl, k1⟩
  ·have p2 : ¬ (g : Int) - (a : Int) < (n : Int) := by omega
   have hv : inR (a, n) g = false := decide_eq_false (λ h => hlt h.2)
   rw [hv]
   clear hle hlt hv b1
   go_enter Tryz.func29, Tryz.ntmps29
   go_wp2_with fail
   rw [<- hw1]
   clear hw1
   go_wp2
   go_ret
   exact ⟨rfl, k1⟩
 ·have p1 : ¬ (a : Int) <= (g : Int) := by omega
  have hv : inR (a, n) g = false := decide_eq_false (λ h => hle h.1)
  rw [hv]
  clear hle hv b1
  go_enter Tryz.func29, Tryz.ntmps29
  go_wp2_with fail
  rw [<- hw1]
  clear hw1
  go_wp2
  go_ret
  exact ⟨rfl, k1⟩

def IdxR (L : List (Nat × Nat)) (g : Nat) (w : World) (e : Ending) (w' : World) : Prop :=
 Keep Aa w w' /\ ((∃ i : Nat, i < L.length /\ Ch L g = true /\ e = .returned (.int .i64 (i : Nat))) \/ (Ch L g = false /\ e = .returned (.int .i64 (-1))))

theorem cov_take {L : List (Nat × Nat)} {j g : Nat} {x : Nat × Nat} (h : L[j]? = some x) : Ch (L.take (j + 1)) g = (Ch (L.take j) g || inR x g) := by
 rw [List.take_add_one, h, cov_app]
 simp [Ch, inR]

set_option maxHeartbeats 2000000 in
theorem IdxR_at (L : List (Nat × Nat)) (v : Value) (g b : Nat) (w : World) (h : BK w v L) (hb : w.cell? ⟨b, 0, none⟩ = some (.int .i64 (g : Nat))) (hbl : b < w.heap.size) (hl : L.length <= 65536) (h1 : ∀ r ∈ L, r.1 + r.2 <= 65536) (h2 : g <= 65536) :
  Calls Tryz.prog 28 #[v, .func (.func 29) #[] #[.pointer (some ⟨b, 0, none⟩)]] w (IdxR L g w) := by
 have HV := sE h
 obtain ⟨va, vc, rfl, -⟩ := h
 obtain ⟨len, hlen⟩ : ∃ len, L.length = len := ⟨_, rfl⟩
 rw [hlen] at HV hl ⊢
 have HL := sE hlen
 have HO : Seal (∀ x ∈ L, ∀ W', Keep Aa w W' -> Calls Tryz.prog 29 #[.agg #[.int .i64 (x.1 : Nat), .int .i64 (x.2 : Nat)], .pointer (some ⟨b, 0, none⟩)] W' λ e w' => e = .returned (.bool (inR x g)) /\ Keep Aa W' w') := ⟨λ x hx W' kk => AtOne_at x g b W' (kk.cell hb (λ h => h)) (Nat.lt_of_lt_of_le hbl kk.size) (h1 x hx) h2⟩
 clear hlen hb hbl h1 h2
 go_enter Tryz.func28, Tryz.ntmps28
 go_wp2_with fail
 go_loopw [5, 8] (λ _ y wr => ∃ j : Nat, j <= len /\ y = .int .i64 (j : Nat) /\ Seal (Ch (L.take j) g = false) /\ Keep Aa w wr) (λ _ y _ => len - (intOf y).toNat)
 case atStart => exact ⟨0, Nat.zero_le _, rfl, ⟨rfl⟩, Keep.refl _ _⟩
 case round =>
  obtain ⟨j, hj, rfl, HC, hk⟩ := hrel
  have HK := sE hk
  by_cases hjl : j < len
  ·have hjl' : (j : Int) < (len : Int) := by omega
   obtain ⟨va', vc', e, hx⟩ := HV.out
   injection e with e1 e3 e2
   clear e3
   subst e1 e2
   obtain ⟨x, hxj⟩ : ∃ x, L[j]? = some x := ⟨_, List.getElem?_eq_getElem (by rw [HL.out]; exact hjl)⟩
   obtain ⟨bb, o, rfl, hbb, x0, x1⟩ := hx j x hxj
   replace x0 := hk.cell x0 (λ h => h)
   replace x1 := hk.cell x1 (λ h => h)
   have HOx := sE (HO.out x (List.mem_of_getElem? hxj) wr hk)
   have HT := sE (cov_take (g := g) hxj)
   have HM : Seal (x ∈ L) := ⟨List.mem_of_getElem? hxj⟩
   clear hx hxj hk
   by_cases hin : inR x g = true
   ·rw [hin] at HOx
    have HIn := sE hin
    clear hin
    go_wp2_with fail
    refine HOx.out.mono ?_
    rintro e w1 ⟨rfl, k1⟩
    go_wp2
    go_ret
    refine ⟨HK.out.then' k1, .inl ⟨j, by rw [HL.out]; exact hjl, cov_mem.2 ⟨x, HM.out, ?_⟩, rfl⟩⟩
    have := HIn.out
    unfold inR at this
    exact of_decide_eq_true this
   ·have hin' : inR x g = false := by simpa using hin
    rw [hin'] at HOx
    have HC2 : Seal (Ch (L.take (j + 1)) g = false) := ⟨by rw [HT.out, HC.out, hin']; rfl⟩
    clear hin hin'
    go_wp2_with fail
    refine HOx.out.mono ?_
    rintro e w1 ⟨rfl, k1⟩
    have HK1 := sE (HK.out.then' k1)
    clear k1 x0 x1
    go_wp2
    exact ⟨⟨j + 1, by omega, by go_num, HC2, HK1.out⟩, by simp only [intOf]; omega⟩
  ·have hjl' : ¬ (j : Int) < (len : Int) := by omega
   clear hk
   go_wp2
   go_ret
   refine ⟨HK.out, .inr ⟨?_, rfl⟩⟩
   have := HC.out
   rwa [List.take_of_length_le (by rw [HL.out]; omega)] at this

set_option maxHeartbeats 1000000 in
theorem IsleAt_at (L : List (Nat × Nat)) (v : Value) (g : Nat) (w : World) (h : BK w v L) (hl : L.length <= 65536) (h1 : ∀ r ∈ L, r.1 + r.2 <= 65536) (h2 : g <= 65536) :
  Calls Tryz.prog 14 #[v, .int .i64 (g : Nat)] w λ e w' => (∃ i : Nat, e = .returned (.tuple #[.int .i64 (i : Nat), .bool (Ch L g)])) /\ Keep Aa w w' := by
 obtain ⟨w1, hw1⟩ : ∃ w1, w1 = w.alloc (.cells #[.int .i64 (g : Nat)] 3) := ⟨_, rfl⟩
 have k1 : Keep Aa w w1 := by rw [hw1]; exact (Keep.refl _ w).alloc _
 have b1 : w1.heap[w.heap.size]? = some (.cells #[.int .i64 (g : Nat)] 3 (0, 0)) := by rw [hw1]; exact World.alloc_heap_new w _
 have HI := sE (IdxR_at L v g w.heap.size w1 (h.Ac k1) (cell_of_one b1) (lt_of_heap b1) hl h1 h2)
 have HK1 := sE k1
 obtain ⟨va, vc, rfl, -⟩ := h
 obtain ⟨len, hlen⟩ : ∃ len, L.length = len := ⟨_, rfl⟩
 rw [hlen] at HI hl ⊢
 have HL := sE hlen
 clear h1 h2 k1 b1 hlen
 go_enter Tryz.func14, Tryz.ntmps14
 go_wp2_with fail
 rw [<- hw1]
 clear hw1
 refine HI.out.mono ?_
 rintro e w2 ⟨k2, ⟨i, hi, hc, rfl⟩ | ⟨hc, rfl⟩⟩
 ·have p0 : (0 : Int) <= (i : Int) := by omega
  have hm : max (i : Int) 0 = (i : Int) := by omega
  have HC := sE hc
  clear hc
  go_wp2
  exact bodyPost_ret (v := .tuple #[.int .i64 (i : Nat), .bool true]) (by simp [results, Tryz.results14, go_sem]) rfl ⟨⟨i, by rw [HC.out]⟩, HK1.out.then' k2⟩
 ·have HC := sE hc
  clear hc
  go_wp2
  exact bodyPost_ret (v := .tuple #[.int .i64 ((0 : Nat) : Int), .bool false]) (by simp [results, Tryz.results14, go_sem]) rfl ⟨⟨0, by rw [HC.out]⟩, HK1.out.then' k2⟩

structure RunF (w : World) (g cap n : Nat) (f : Nat -> Nat × Nat) : Prop where
 blk : ∃ cur, w.heap[g]? = some (.cells cur 39 (0, 0)) /\ cur.size = cap * 2 /\ ∀ p, p < n -> cur[p * 2]? = some (.int .i64 ((f p).1 : Nat)) /\ cur[p * 2 + 1]? = some (.int .i64 ((f p).2 : Nat))
 le : n <= cap
 cap_le : cap <= maxLen

theorem RunF.keep {S : Nat -> Prop} {w w' : World} {g cap n : Nat} {f : Nat -> Nat × Nat} (h : RunF w g cap n f) (k : Keep S w w') (hs : ¬ S g) : RunF w' g cap n f := by
 obtain ⟨cur, h1, h2⟩ := h.blk
 exact ⟨⟨cur, k.at_ h1 hs, h2⟩, h.le, h.cap_le⟩

theorem RunF.cells {w : World} {g cap n p : Nat} {f : Nat -> Nat × Nat} (h : RunF w g cap n f) (hp : p < n) : w.cell? ⟨g, p * 2, none⟩ = some (.int .i64 ((f p).1 : Nat)) /\ w.cell? ⟨g, p * 2 + 1, none⟩ = some (.int .i64 ((f p).2 : Nat)) := by
 obtain ⟨cur, h1, h2, h3⟩ := h.blk
 obtain ⟨a0, a1⟩ := h3 p hp
 simp only [World.cell?, h1]
 exact ⟨by simpa using a0, by simpa using a1⟩

theorem RunF.free {w : World} {g cap n : Nat} {f : Nat -> Nat × Nat} (h : RunF w g cap n f) (j : Nat) : w.frozen? ⟨g, j, none⟩ = false := by
 obtain ⟨cur, h1, -⟩ := h.blk
 exact Ab h1 j

theorem RunF.lt {w : World} {g cap n : Nat} {f : Nat -> Nat × Nat} (h : RunF w g cap n f) : g < w.heap.size := by
 obtain ⟨cur, h1, -⟩ := h.blk
 exact lt_of_heap h1

theorem RunF.isCell {w : World} {g cap n q : Nat} {f : Nat -> Nat × Nat} (h : RunF w g cap n f) (hq : q < cap * 2) : (w.cell? ⟨g, q, none⟩).isSome = true := by
 obtain ⟨cur, h1, h2, -⟩ := h.blk
 simp only [World.cell?, h1]
 rw [<- h2] at hq
 simp [hq]

def updR (f : Nat -> Nat × Nat) (p : Nat) (x : Nat × Nat) (i : Nat) : Nat × Nat := if i = p then x else f i

theorem RunF.store {w : World} {g cap n p : Nat} {f : Nat -> Nat × Nat} (h : RunF w g cap n f) (hp : p < n) (x : Nat × Nat) :
  RunF ((w.setCell ⟨g, p * 2, none⟩ (.int .i64 (x.1 : Nat))).setCell ⟨g, p * 2 + 1, none⟩ (.int .i64 (x.2 : Nat))) g cap n (updR f p x) := by
 obtain ⟨cur, h1, h2, h3⟩ := h.blk
 have hle := h.le
 refine ⟨⟨_, block_setCell (block_setCell h1 _) _, by simp [h2], λ i hi => ?_⟩, h.le, h.cap_le⟩
 have hsz : p * 2 + 1 < cur.size := by omega
 obtain ⟨a0, a1⟩ := h3 i hi
 by_cases e : i = p
 ·subst e
  unfold updR
  rw [if_pos rfl]
  simp only [Array.getElem?_setIfInBounds]
  refine ⟨?_, ?_⟩ <;> (simp; omega)
 ·unfold updR
  rw [if_neg e]
  simp only [Array.getElem?_setIfInBounds]
  refine ⟨?_, ?_⟩ <;> (rw [if_neg (by omega), if_neg (by omega)]; assumption)

theorem RunF.AO {w : World} {base : Nat} {v : Value} {L : List (Nat × Nat)} (h : w.ownsRow base 39 2 v L.length (Be L)) (hne : L ≠ []) : ∃ g cap, v = .slice (some ⟨g, 0, none⟩) L.length cap /\ base <= g /\ RunF w g cap L.length (λ p => (L[p]?).getD (0, 0)) := by
 rcases h.2 with ⟨-, h0⟩ | ⟨g, cap, cur, hv, g2, g3, g4, g5, g6, g7⟩
 ·exact absurd (List.length_eq_zero_iff.1 h0) hne
 ·refine ⟨g, cap, hv, g2, ⟨cur, g3, g6, λ p hp => ?_⟩, g4, g5⟩
  have hx : L[p]? = some L[p] := List.getElem?_eq_getElem hp
  obtain ⟨x0, x1⟩ := flatR_at L p _ hx
  have key : ∀ j, j < L.length * 2 -> cur[j]? = (Be L)[j]? := λ j hj => by
   rw [<- g7, List.getElem?_take_of_lt hj]
   simp
  rw [hx]
  exact ⟨by rw [key _ (by omega)]; exact x0, by rw [key _ (by omega)]; exact x1⟩

theorem BK.of_runF {w : World} {g cap : Nat} {f : Nat -> Nat × Nat} {L : List (Nat × Nat)} (h : RunF w g cap L.length f) (hf : ∀ p x, L[p]? = some x -> f p = x) : BK w (.slice (some ⟨g, 0, none⟩) L.length cap) L := by
 refine ⟨_, _, rfl, λ i x hx => ?_⟩
 have hi := (List.getElem?_eq_some_iff.1 hx).1
 obtain ⟨c0, c1⟩ := h.cells hi
 rw [hf i x hx] at c0 c1
 exact ⟨g, 0, rfl, h.lt, by rw [Nat.zero_add]; exact c0, by rw [Nat.zero_add]; exact c1⟩

theorem First_at (x : Nat × Nat) (w : World) : Calls Tryz.prog 25 #[.agg #[.int .i64 (x.1 : Nat), .int .i64 (x.2 : Nat)]] w λ e w' => e = .returned (.int .i64 (x.1 : Nat)) /\ w.alloc (.cells #[.int .i64 (x.1 : Nat), .int .i64 (x.2 : Nat)] 39) = w' := by
 go_enter Tryz.func25, Tryz.ntmps25
 go_wp2
 go_ret
 exact ⟨rfl, rfl⟩

def cmpN (a b : Nat) : Int := if a < b then -1 else if b < a then 1 else 0

theorem isNaN_at (a : Int) (w : World) : Calls Tryz.prog 87 #[.int .i64 a] w λ e w' => e = .returned (.bool false) /\ w' = w := by
 have h : (a != a) = false := by simp
 go_enter Tryz.func87, Tryz.ntmps87
 go_wp2
 go_ret
 exact ⟨rfl, rfl⟩

set_option maxHeartbeats 1000000 in
theorem Compare_at (a b : Nat) (w : World) : Calls Tryz.prog 53 #[.int .i64 (a : Nat), .int .i64 (b : Nat)] w λ e w' => e = .returned (.int .i64 (cmpN a b)) /\ w' = w := by
 have HN := sE (λ (a : Int) (w : World) => isNaN_at a w)
 by_cases h1 : a < b
 ·have p1 : (a : Int) < (b : Int) := by omega
  have hv : cmpN a b = -1 := if_pos h1
  rw [hv]
  clear h1 hv
  go_enter Tryz.func53, Tryz.ntmps53
  go_wp2_with (go_at_call 87; refine (HN.out _ _).mono ?_; rintro e w ⟨rfl, rfl⟩)
  go_ret
  exact ⟨rfl, rfl⟩
 ·have p1 : ¬ (a : Int) < (b : Int) := by omega
  by_cases h2 : b < a
  ·have p2 : (b : Int) < (a : Int) := by omega
   have hv : cmpN a b = 1 := by unfold cmpN; rw [if_neg h1, if_pos h2]
   rw [hv]
   clear h1 h2 hv
   go_enter Tryz.func53, Tryz.ntmps53
   go_wp2_with (go_at_call 87; refine (HN.out _ _).mono ?_; rintro e w ⟨rfl, rfl⟩)
   go_ret
   exact ⟨rfl, rfl⟩
  ·have p2 : ¬ (b : Int) < (a : Int) := by omega
   have hv : cmpN a b = 0 := by unfold cmpN; rw [if_neg h1, if_neg h2]
   rw [hv]
   clear h1 h2 hv
   go_enter Tryz.func53, Tryz.ntmps53
   go_wp2_with (go_at_call 87; refine (HN.out _ _).mono ?_; rintro e w ⟨rfl, rfl⟩)
   go_ret
   exact ⟨rfl, rfl⟩

def ByAt (w : World) (b : Nat) : Prop := w.cell? ⟨b, 0, none⟩ = some (.func (.func 25) #[] #[]) /\ b < w.heap.size

theorem ByAt.Ac {w w' : World} {b : Nat} (h : ByAt w b) (k : Keep Aa w w') : ByAt w' b := ⟨k.cell h.1 (λ h => h), Nat.lt_of_lt_of_le h.2 k.size⟩

set_option maxHeartbeats 4000000 in
theorem By_at (x y : Nat × Nat) (b : Nat) (w : World) (hb : ByAt w b) :
  Calls Tryz.prog 52 #[.agg #[.int .i64 (x.1 : Nat), .int .i64 (x.2 : Nat)], .agg #[.int .i64 (y.1 : Nat), .int .i64 (y.2 : Nat)], .pointer (some ⟨b, 0, none⟩)] w λ e w' => e = .returned (.int .i64 (cmpN x.1 y.1)) /\ Keep Aa w w' /\ ∃ q os', w' = Go.Sort.grow (w.drewN q) os' := by
 have HX := sE (λ (x : Nat × Nat) (w : World) => First_at x w)
 have HC := sE (λ (w : World) => Compare_at x.1 y.1 w)
 obtain ⟨hb1, hb2⟩ := hb
 obtain ⟨w1, hw1⟩ : ∃ w1, w1 = w.alloc (.cells #[.int .i64 (x.1 : Nat), .int .i64 (x.2 : Nat)] 39) := ⟨_, rfl⟩
 obtain ⟨w2, hw2⟩ : ∃ w2, w2 = w1.alloc (.cells #[.int .i64 (y.1 : Nat), .int .i64 (y.2 : Nat)] 39) := ⟨_, rfl⟩
 have k1 : Keep Aa w w1 := by rw [hw1]; exact (Keep.refl _ w).alloc _
 have k2 : Keep Aa w1 w2 := by rw [hw2]; exact (Keep.refl _ w1).alloc _
 have b1 : w1.heap[w.heap.size]? = some (.cells #[.int .i64 (x.1 : Nat), .int .i64 (x.2 : Nat)] 39 (0, 0)) := by rw [hw1]; exact World.alloc_heap_new w _
 have b2 : w2.heap[w1.heap.size]? = some (.cells #[.int .i64 (y.1 : Nat), .int .i64 (y.2 : Nat)] 39 (0, 0)) := by rw [hw2]; exact World.alloc_heap_new w1 _
 have z1 : w1.heap.size = w.heap.size + 1 := by rw [hw1]; simp
 rw [z1] at b2
 have b1' := k2.at_ b1 (λ h => h)
 have x0 : w2.cell? ⟨w.heap.size, 0, none⟩ = some (.int .i64 (x.1 : Nat)) := by simp [World.cell?, b1']
 have x1 : w2.cell? ⟨w.heap.size, 1, none⟩ = some (.int .i64 (x.2 : Nat)) := by simp [World.cell?, b1']
 have y0 : w2.cell? ⟨w.heap.size + 1, 0, none⟩ = some (.int .i64 (y.1 : Nat)) := by simp [World.cell?, b2]
 have y1 : w2.cell? ⟨w.heap.size + 1, 1, none⟩ = some (.int .i64 (y.2 : Nat)) := by simp [World.cell?, b2]
 have hb3 := (k1.then' k2).cell hb1 (λ h => h)
 have K2 := k1.then' k2
 have HW : Seal (∃ os, w2 = Go.Sort.grow w os) := ⟨⟨#[.cells #[.int .i64 (x.1 : Nat), .int .i64 (x.2 : Nat)] 39, .cells #[.int .i64 (y.1 : Nat), .int .i64 (y.2 : Nat)] 39], by rw [hw2, hw1]; rfl⟩⟩
 go_enter Tryz.func52, Tryz.ntmps52
 go_wp2_with fail
 rw [<- hw1, <- hw2]
 clear hw1 hw2 b1 b2 b1' hb1 k1 k2
 refine wp_region_held_drew (S := λ w' => w'.cell? ⟨b, 0, none⟩ = some (.func (.func 25) #[] #[]) /\ w'.cell? ⟨w.heap.size, 0, none⟩ = some (.int .i64 (x.1 : Nat)) /\ w'.cell? ⟨w.heap.size, 1, none⟩ = some (.int .i64 (x.2 : Nat)) /\ w'.cell? ⟨w.heap.size + 1, 0, none⟩ = some (.int .i64 (y.1 : Nat)) /\ w'.cell? ⟨w.heap.size + 1, 1, none⟩ = some (.int .i64 (y.2 : Nat))) (by kernel_rfl) ?_ (λ hHeld => ?_)
 ·(try dsimp only); (exact ⟨hb3, x0, x1, y0, y1⟩)
 refine Aw 0 ?_; refine Aw 1 ?_; refine Aw 3 ?_; refine Aw 4 ?_
 try simp only [AA]
 refine Bq [2] ?_
 refine Ag rfl (λ K hK => ?_)
 go_simp
 go_at_call 25
 (with_reducible refine (HX.out _ _).mono ?_)
 rintro e w3 ⟨rfl, h3⟩
 have K3 : Keep Aa w2 w3 := by rw [<- h3]; exact ((Keep.refl Aa w2).drew).alloc _
 have HG3 : Seal (∃ os, w3 = Go.Sort.grow w2.drew os) := ⟨⟨_, h3.symm.trans (Go.Sort.alloc_eq_grow _ _)⟩⟩
 clear h3
 refine hK _ _ ?_ (λ hHeld => ?_)
 ·(try dsimp only); (exact ⟨K3.cell hb3 (λ h => h), K3.cell x0 (λ h => h), K3.cell x1 (λ h => h), K3.cell y0 (λ h => h), K3.cell y1 (λ h => h)⟩)
 clear hK K
 try simp only [AA]
 refine Bq [5] ?_
 refine Ag rfl (λ K hK => ?_)
 go_simp
 go_at_call 25
 (with_reducible refine (HX.out _ _).mono ?_)
 rintro e w4 ⟨rfl, h4⟩
 have K4 : Keep Aa w2 w4 := by rw [<- h4]; exact K3.alloc _
 have HG4 : Seal (∃ os, w4 = Go.Sort.grow w2.drew os) := ⟨by
  obtain ⟨os, h⟩ := HG3.out
  exact ⟨os ++ _, by rw [<- h4, Go.Sort.alloc_eq_grow, h, Go.Sort.grow_grow]⟩⟩
 clear h4
 refine hK _ _ ?_ (λ hHeld => ?_)
 ·(try dsimp only); (exact ⟨K4.cell hb3 (λ h => h), K4.cell x0 (λ h => h), K4.cell x1 (λ h => h), K4.cell y0 (λ h => h), K4.cell y1 (λ h => h)⟩)
 clear hK K
 try simp only [AA]
 refine Bq [6] ?_
 refine Ag rfl (λ K hK => ?_)
 go_simp
 go_at_call 53
 (with_reducible refine (HC.out _).mono ?_)
 rintro e w4 ⟨rfl, rfl⟩
 refine hK _ _ ?_ (λ hHeld => ?_)
 ·(try dsimp only); (exact hHeld)
 clear hK K
 try simp only [AA]
 refine Aw 7 ?_
 try simp only [AA]
 refine wpAnyH_done (by kernel_rfl) ?_ _
 go_wp2
 go_ret
 refine ⟨rfl, K2.then' K4, ?_⟩
 obtain ⟨os, h⟩ := HG4.out
 obtain ⟨os2, h2⟩ := HW.out
 exact ⟨1, os2 ++ os, by rw [h, h2, <- Go.Sort.grow_grow]; rfl⟩

theorem owns_set {w : World} {base : Nat} {e : TypeId} {size g n cap j : Nat} {xs : List Value} {u : Value} (h : w.ownsRow base e size (.slice (some ⟨g, 0, none⟩) n cap) n xs) (hj : j < n * size) :
  (w.setCell ⟨g, j, none⟩ u).ownsRow base e size (.slice (some ⟨g, 0, none⟩) n cap) n (xs.set j u) := by
 obtain ⟨hl, h⟩ := h
 refine ⟨by simpa using hl, ?_⟩
 rcases h with ⟨h, -⟩ | ⟨g', cap', cur, hv, g2, g3, g4, g5, g6, g7⟩
 ·simp at h
 ·simp only [Value.slice.injEq, Option.some.injEq, Addr.mk.injEq] at hv
  obtain ⟨⟨rfl, -, -⟩, -, rfl⟩ := hv
  refine .inr ⟨g, cap, _, rfl, g2, block_setCell g3 _, g4, g5, by simpa using g6, ?_⟩
  rw [<- g7, <- List.take_set]
  simp

theorem flatR_last {l : List (Nat × Nat)} {x : Nat × Nat} (a : Nat) (h : l.getLast? = some x) : Be (l.dropLast ++ [(x.1, a)]) = (Be l).set ((l.length - 1) * 2 + 1) (.int .i64 (a : Nat)) := by
 obtain ⟨m, rfl⟩ : ∃ m, l = m ++ [x] := ⟨l.dropLast, by
  have hne : l ≠ [] := by intro e; rw [e] at h; simp at h
  rw [List.getLast?_eq_some_getLast hne] at h
  injection h with h
  rw [<- h]
  exact (List.dropLast_concat_getLast hne).symm⟩
 rw [List.dropLast_concat, Du, Du, List.length_append, List.length_singleton, Nat.add_sub_cancel, List.set_append_right _ _ (by rw [BH]; omega), BH]
 rw [show m.length * 2 + 1 - m.length * 2 = 1 by omega]
 rfl

theorem last_at {l : List (Nat × Nat)} {x : Nat × Nat} (h : l.getLast? = some x) : l[l.length - 1]? = some x := by
 rw [<- h, List.getLast?_eq_getElem?]

def JoinPost (lb base : Nat) (v : Value) (l : List (Nat × Nat)) (r : Nat × Nat) (w : World) (e : Ending) (w' : World) : Prop :=
 e = .returned (.tuple #[]) /\ ∃ v', w'.heap[lb]? = some (.cells #[v'] 33 (0, 0)) /\ w'.ownsRow base 39 2 v' (joinL l r).length (Be (joinL l r)) /\ Keep (λ k => k = lb \/ v.ownBlock = some k) w w'

set_option maxRecDepth 20000 in
set_option maxHeartbeats 4000000 in
theorem Join_at (lb base : Nat) (v : Value) (l : List (Nat × Nat)) (r : Nat × Nat) (w : World) (hbl : w.heap[lb]? = some (.cells #[v] 33 (0, 0))) (ho : w.ownsRow base 39 2 v l.length (Be l)) (hb : lb < base) (hb2 : base <= w.heap.size) (hl : l.length <= 65536) (hs : ∀ x ∈ l, x.1 + x.2 <= 65536) (hr : r.1 + r.2 <= 65536) :
  Calls Tryz.prog 23 #[.agg #[.int .i64 (r.1 : Nat), .int .i64 (r.2 : Nat)], .pointer (some ⟨lb, 0, none⟩)] w (JoinPost lb base v l r w) := by
 obtain ⟨w1, hw1⟩ : ∃ w1, w1 = w.alloc (.cells #[.int .i64 (r.1 : Nat), .int .i64 (r.2 : Nat)] 39) := ⟨_, rfl⟩
 have k1 : Keep Aa w w1 := by rw [hw1]; exact (Keep.refl _ w).alloc _
 have b1 : w1.heap[w.heap.size]? = some (.cells #[.int .i64 (r.1 : Nat), .int .i64 (r.2 : Nat)] 39 (0, 0)) := by rw [hw1]; exact World.alloc_heap_new w _
 have r0 : w1.cell? ⟨w.heap.size, 0, none⟩ = some (.int .i64 (r.1 : Nat)) := by simp [World.cell?, b1]
 have r1 : w1.cell? ⟨w.heap.size, 1, none⟩ = some (.int .i64 (r.2 : Nat)) := by simp [World.cell?, b1]
 have hbl1 := k1.at_ hbl (λ h => h)
 have ho1 := Az ho k1 (λ _ _ h => h)
 have c0 := cell_of_one hbl1
 have f0 := Ab hbl1 0
 have z1 := k1.size
 have HK1 := sE k1
 have HBl := sE hbl1
 have HRo := sE ho1
 have HBw := sE b1
 clear hbl ho k1 b1 hbl1
 cases hlast : l.getLast? with
 | none =>
  obtain rfl : l = [] := by simpa using hlast
  have HJ : Seal (joinL [] r = [] ++ [r]) := ⟨rfl⟩
  obtain ⟨va, vc, rfl⟩ := Bd ho1
  clear ho1 hlast
  have hw1' := hw1
  subst hw1
  go_enter Tryz.func23, Tryz.ntmps23
  go_wp2_with fail
  go_quiet (fail)
  obtain ⟨w2, hw2⟩ : ∃ w2, w2 = (w.alloc (.cells #[.int .i64 (r.1 : Nat), .int .i64 (r.2 : Nat)] 39)).drewN nq := ⟨_, rfl⟩
  have kd : Keep Aa (w.alloc (.cells #[.int .i64 (r.1 : Nat), .int .i64 (r.2 : Nat)] 39)) w2 := by rw [hw2]; exact Keep.Ae _
  rw [<- hw2]
  clear hw2
  have HK2 : Seal (Keep Aa w w2) := ⟨HK1.out.then' kd⟩
  have HBr := sE (kd.at_ HBl.out (λ h => h))
  have HRr := sE (Az HRo.out kd (λ _ _ h => h))
  have r0' := kd.cell r0 (λ h => h)
  have r1' := kd.cell r1 (λ h => h)
  have c0' := kd.cell c0 (λ h => h)
  have zd := HK2.out.size
  clear kd c0 r0 r1 f0
  go_wp2_with (at_builtin; obtain ⟨i0, hi, hz0, hz1, hz2⟩ := info_parts Tryz.infoRun; go_loud (refine wpList_append_lies _ rfl (.tmp 37) (.tmp 39) 33 rfl base 39 i0 _ 2 16 Tryz.BJ hi hz0 hz1 hz2 rfl (by omega) (.slice va 0 vc) 0 [] rfl (HRr.out.alloc _) ⟨w2.heap.size, 0, none⟩ 1 1 [.int .i64 (r.1 : Nat), .int .i64 (r.2 : Nat)] rfl rfl (World.news_of_block (World.alloc_heap_new w2 _)) (by intro u hu; simp at hu; rcases hu with rfl | rfl <;> rfl) (by omega) (by unfold maxLen; omega) (by omega) (by first | (simp; done) | (simp; omega)) (w2.heap.size + 1) (by simp) ?_); intro gn capn w3 hown3 hgrow hat hlt; clear hi hz0 hz1 hz2; have hnb : ¬ ((.slice va 0 vc) : Value).ownBlock = some lb := λ h => (by have := Al HRr.out h; omega); have k3 : Keep (λ k => ((.slice va 0 vc) : Value).ownBlock = some k) w2 w3 := ((Keep.refl Aa w2).alloc _ |>.Au _).grown hgrow (λ k e h => by first | exact h | exact e); have b3 := k3.at_ HBr.out hnb; have f3 := Ab b3 0; have c3 := cell_of_one b3; have HR3 := sE hown3; have HB3 := sE b3; have HK3 := sE k3; clear hown3 hgrow hat b3 k3)
  go_end0
  have KS : Keep (λ k => k = lb) w3 (w3.setCell ⟨lb, 0, none⟩ (.slice (some ⟨gn, 0, none⟩) 1 capn)) := (Keep.refl (λ k => k = lb) w3).setCell (λ _ => rfl) _
  refine ⟨rfl, _, one_setCell HB3.out, ?_, ((HK2.out.Au _).trans (HK3.out.mono λ i _ h => .inr h) (λ _ _ h => h)).trans KS (λ _ _ h => .inl h)⟩
  rw [HJ.out]
  exact Az HR3.out KS (λ b hb' e => by have := (Al HR3.out hb').1; omega)
 | some x =>
  have hne : l ≠ [] := by intro e; rw [e] at hlast; simp at hlast
  rcases ho1.2 with ⟨-, h0⟩ | ⟨g, cap, cur, rfl, g2, g3, g4, g5, g6, g7⟩
  ·exact absurd (List.length_eq_zero_iff.1 h0) hne
  obtain ⟨k, hk⟩ : ∃ k, l.length = k + 1 := ⟨l.length - 1, by have := List.length_pos_iff.2 hne; omega⟩
  have hx := last_at hlast
  obtain ⟨a0, a1⟩ := flatR_at l _ x hx
  have key : ∀ j, j < l.length * 2 -> w1.cell? ⟨g, j, none⟩ = (Be l)[j]? := λ j hj => by
   rw [<- g7, List.getElem?_take_of_lt hj]
   simp [World.cell?, g3]
  have e0 : w1.cell? ⟨g, k * 2, none⟩ = some (.int .i64 (x.1 : Nat)) := by rw [key _ (by omega)]; rw [hk] at a0; exact a0
  have e1 : w1.cell? ⟨g, k * 2 + 1, none⟩ = some (.int .i64 (x.2 : Nat)) := by rw [key _ (by omega)]; rw [hk] at a1; exact a1
  have hxs := hs x (List.mem_of_getElem? hx)
  rw [hk] at HRo c0 HBl hl ⊢
  have HLn := sE hk
  have p0 : (0 : Int) < (k : Int) + 1 := by omega
  have p1 : (k : Int) < (k : Int) + 1 := by omega
  have p2 : (0 : Int) <= (k : Int) := by omega
  have u1 : IntKind.i64.wrap ((k : Int) + 1 - 1) = (k : Int) := by rw [IntKind.wrap_i64]; omega
  have u2 : IntKind.i64.wrap (((k + 1 : Nat) : Int) - 1) = (k : Int) := by rw [IntKind.wrap_i64]; omega
  have u3 : IntKind.i64.wrap (k : Int) = (k : Int) := by rw [IntKind.wrap_i64]; omega
  have u4 : IntKind.i64.wrap ((x.1 : Int) + (x.2 : Int)) = (x.1 : Int) + (x.2 : Int) := by rw [IntKind.wrap_i64]; omega
  by_cases ht : x.1 + x.2 = r.1
  ·have HJ : Seal (joinL l r = l.dropLast ++ [(x.1, x.2 + r.2)]) := ⟨by unfold joinL; rw [hlast]; simp only; rw [if_pos ht]⟩
   have HJf : Seal (Be (l.dropLast ++ [(x.1, x.2 + r.2)]) = (Be l).set (k * 2 + 1) (.int .i64 ((x.2 + r.2 : Nat) : Int))) := ⟨by rw [flatR_last _ hlast, hk]; rfl⟩
   have HJl : Seal ((l.dropLast ++ [(x.1, x.2 + r.2)]).length = k + 1) := ⟨by rw [List.length_append, List.length_dropLast, hk]; simp⟩
   have q1 : (((x.1 : Int) + (x.2 : Int)) == (r.1 : Int)) = true := by rw [beq_iff_eq]; omega
   have u5 : IntKind.i64.wrap ((x.2 : Int) + (r.2 : Int)) = (x.2 : Int) + (r.2 : Int) := by rw [IntKind.wrap_i64]; omega
   have gf := Ab g3 (k * 2 + 1)
   clear ho1 hlast hne g2 g3 g4 g5 g6 g7 hx a0 a1 key hk ht hs
   subst hw1
   go_enter Tryz.func23, Tryz.ntmps23
   go_wp2_with fail
   go_quiet (fail)
   go_wp2_with fail
   obtain ⟨w2, hw2⟩ : ∃ w2, w2 = (w.alloc (.cells #[.int .i64 (r.1 : Nat), .int .i64 (r.2 : Nat)] 39)).drewN nq := ⟨_, rfl⟩
   have kd : Keep Aa (w.alloc (.cells #[.int .i64 (r.1 : Nat), .int .i64 (r.2 : Nat)] 39)) w2 := by rw [hw2]; exact Keep.Ae _
   rw [<- hw2]
   clear hw2
   have HK2 : Seal (Keep Aa w w2.drew) := ⟨(HK1.out.then' kd).drew⟩
   have HRr := sE (Az HRo.out kd.drew (λ _ _ h => h))
   have HBr := sE (kd.drew.at_ HBl.out (λ h => h))
   have r1' : w2.drew.cell? ⟨w.heap.size, 1, none⟩ = some (.int .i64 (r.2 : Nat)) := kd.drew.cell r1 (λ h => h)
   have c0' : w2.drew.cell? ⟨lb, 0, none⟩ = some (.slice (some ⟨g, 0, none⟩) (k + 1) cap) := kd.drew.cell c0 (λ h => h)
   have e1' : w2.drew.cell? ⟨g, k * 2 + 1, none⟩ = some (.int .i64 (x.2 : Nat)) := kd.drew.cell e1 (λ h => h)
   have gf' : w2.drew.frozen? ⟨g, k * 2 + 1, none⟩ = false := by
    rcases HRr.out.2 with ⟨h, -⟩ | ⟨g', cap', cur', hv, h2, h3, -⟩
    ·simp at h
    ·simp only [Value.slice.injEq, Option.some.injEq, Addr.mk.injEq] at hv
     obtain ⟨⟨rfl, -, -⟩, -, rfl⟩ := hv
     exact Ab h3 _
   clear kd c0 r0 r1 f0 e0 e1 gf
   go_region
   go_wp2
   refine bodyPost_ret (results_none rfl _ _ _) rfl ?_
   have hset : (w2.setCell ⟨g, k * 2 + 1, none⟩ (.int .i64 ((x.2 : Int) + (r.2 : Int)))).drew = w2.drew.setCell ⟨g, k * 2 + 1, none⟩ (.int .i64 ((x.2 + r.2 : Nat) : Int)) := by rw [Int.natCast_add]; rfl
   rw [hset]
   have KS : Keep (λ b => b = g) w2.drew (w2.drew.setCell ⟨g, k * 2 + 1, none⟩ (.int .i64 ((x.2 + r.2 : Nat) : Int))) := (Keep.refl (λ b => b = g) w2.drew).setCell (λ _ => rfl) _
   have hgb : base <= g := (Al HRr.out rfl).1
   refine ⟨rfl, _, KS.at_ HBr.out (by omega), ?_, (HK2.out.Au _).trans KS (λ i _ h => .inr (by rw [h]; rfl))⟩
   rw [HJ.out, HJl.out, HJf.out]
   exact owns_set HRr.out (by omega)
  ·have HJ : Seal (joinL l r = l ++ [r]) := ⟨by unfold joinL; rw [hlast]; simp only; rw [if_neg ht]⟩
   have q1 : (((x.1 : Int) + (x.2 : Int)) == (r.1 : Int)) = false := by rw [beq_eq_false_iff_ne]; omega
   clear ho1 hlast hne g2 g3 g4 g5 g6 g7 hx a0 a1 key hk ht hs
   subst hw1
   go_enter Tryz.func23, Tryz.ntmps23
   go_wp2_with fail
   go_quiet (fail)
   obtain ⟨w2, hw2⟩ : ∃ w2, w2 = (w.alloc (.cells #[.int .i64 (r.1 : Nat), .int .i64 (r.2 : Nat)] 39)).drewN nq := ⟨_, rfl⟩
   have kd : Keep Aa (w.alloc (.cells #[.int .i64 (r.1 : Nat), .int .i64 (r.2 : Nat)] 39)) w2 := by rw [hw2]; exact Keep.Ae _
   rw [<- hw2]
   clear hw2
   have HK2 : Seal (Keep Aa w w2) := ⟨HK1.out.then' kd⟩
   have HBr := sE (kd.at_ HBl.out (λ h => h))
   have HRr := sE (Az HRo.out kd (λ _ _ h => h))
   have r0' := kd.cell r0 (λ h => h)
   have r1' := kd.cell r1 (λ h => h)
   have c0' := kd.cell c0 (λ h => h)
   have zd := HK2.out.size
   clear kd c0 r0 r1 f0
   go_wp2_with (at_builtin; obtain ⟨i0, hi, hz0, hz1, hz2⟩ := info_parts Tryz.infoRun; go_loud (refine wpList_append_lies _ rfl (.tmp 37) (.tmp 39) 33 rfl base 39 i0 _ 2 16 Tryz.BJ hi hz0 hz1 hz2 rfl (by omega) (.slice (some ⟨g, 0, none⟩) (k + 1) cap) (k + 1) (Be l) rfl (HRr.out.alloc _) ⟨w2.heap.size, 0, none⟩ 1 1 [.int .i64 (r.1 : Nat), .int .i64 (r.2 : Nat)] rfl rfl (World.news_of_block (World.alloc_heap_new w2 _)) (by intro u hu; simp at hu; rcases hu with rfl | rfl <;> rfl) (by omega) (by unfold maxLen; omega) (by omega) (by first | (simp; done) | (simp; omega)) (w2.heap.size + 1) (by simp) ?_); intro gn capn w3 hown3 hgrow hat hlt; clear hi hz0 hz1 hz2; have hnb : ¬ ((.slice (some ⟨g, 0, none⟩) (k + 1) cap) : Value).ownBlock = some lb := λ h => (by have := Al HRr.out h; omega); have k3 : Keep (λ k => ((.slice (some ⟨g, 0, none⟩) (k + 1) cap) : Value).ownBlock = some k) w2 w3 := ((Keep.refl Aa w2).alloc _ |>.Au _).grown hgrow (λ k e h => by first | exact h | exact e); have b3 := k3.at_ HBr.out hnb; have f3 := Ab b3 0; have c3 := cell_of_one b3; have HR3 := sE hown3; have HB3 := sE b3; have HK3 := sE k3; clear hown3 hgrow hat b3 k3)
   go_end0
   have KS : Keep (λ k => k = lb) w3 (w3.setCell ⟨lb, 0, none⟩ (.slice (some ⟨gn, 0, none⟩) (k + 1 + 1) capn)) := (Keep.refl (λ k => k = lb) w3).setCell (λ _ => rfl) _
   refine ⟨rfl, _, one_setCell HB3.out, ?_, ((HK2.out.Au _).trans (HK3.out.mono λ i _ h => .inr h) (λ _ _ h => h)).trans KS (λ _ _ h => .inl h)⟩
   rw [HJ.out, Du, List.length_append, HLn.out]
   exact Az HR3.out KS (λ b hb' e => by have := (Al HR3.out hb').1; omega)

def EqAt (w : World) (eb b : Nat) : Prop := w.cell? ⟨eb, 0, none⟩ = some (.func (.func 52) #[] #[.pointer (some ⟨b, 0, none⟩)]) /\ eb < w.heap.size /\ ByAt w b

theorem EqAt.Ac {w w' : World} {eb b : Nat} (h : EqAt w eb b) (k : Keep Aa w w') : EqAt w' eb b := ⟨k.cell h.1 (λ h => h), Nat.lt_of_lt_of_le h.2.1 k.size, h.2.2.Ac k⟩

theorem EqAt.keepG {w w' : World} {eb b g : Nat} (h : EqAt w eb b) (k : Keep (λ k => k = g) w w') (h1 : ¬ eb = g) (h2 : ¬ b = g) : EqAt w' eb b := ⟨k.cell h.1 h1, Nat.lt_of_lt_of_le h.2.1 k.size, k.cell h.2.2.1 h2, Nat.lt_of_lt_of_le h.2.2.2 k.size⟩

set_option maxHeartbeats 1000000 in
theorem EqBy_at (x y : Nat × Nat) (eb b : Nat) (w : World) (h : EqAt w eb b) :
  Calls Tryz.prog 56 #[.agg #[.int .i64 (x.1 : Nat), .int .i64 (x.2 : Nat)], .agg #[.int .i64 (y.1 : Nat), .int .i64 (y.2 : Nat)], .pointer (some ⟨eb, 0, none⟩)] w λ e w' => e = .returned (.bool (decide (x.1 = y.1))) /\ Keep Aa w w' := by
 obtain ⟨he, hel, hb⟩ := h
 obtain ⟨w1, hw1⟩ : ∃ w1, w1 = w.alloc (.cells #[.int .i64 (x.1 : Nat), .int .i64 (x.2 : Nat)] 39) := ⟨_, rfl⟩
 obtain ⟨w2, hw2⟩ : ∃ w2, w2 = w1.alloc (.cells #[.int .i64 (y.1 : Nat), .int .i64 (y.2 : Nat)] 39) := ⟨_, rfl⟩
 have k1 : Keep Aa w w1 := by rw [hw1]; exact (Keep.refl _ w).alloc _
 have k2 : Keep Aa w1 w2 := by rw [hw2]; exact (Keep.refl _ w1).alloc _
 have b1 : w1.heap[w.heap.size]? = some (.cells #[.int .i64 (x.1 : Nat), .int .i64 (x.2 : Nat)] 39 (0, 0)) := by rw [hw1]; exact World.alloc_heap_new w _
 have b2 : w2.heap[w1.heap.size]? = some (.cells #[.int .i64 (y.1 : Nat), .int .i64 (y.2 : Nat)] 39 (0, 0)) := by rw [hw2]; exact World.alloc_heap_new w1 _
 have z1 : w1.heap.size = w.heap.size + 1 := by rw [hw1]; simp
 rw [z1] at b2
 have b1' := k2.at_ b1 (λ h => h)
 have x0 : w2.cell? ⟨w.heap.size, 0, none⟩ = some (.int .i64 (x.1 : Nat)) := by simp [World.cell?, b1']
 have x1 : w2.cell? ⟨w.heap.size, 1, none⟩ = some (.int .i64 (x.2 : Nat)) := by simp [World.cell?, b1']
 have y0 : w2.cell? ⟨w.heap.size + 1, 0, none⟩ = some (.int .i64 (y.1 : Nat)) := by simp [World.cell?, b2]
 have y1 : w2.cell? ⟨w.heap.size + 1, 1, none⟩ = some (.int .i64 (y.2 : Nat)) := by simp [World.cell?, b2]
 have K2 := k1.then' k2
 have he2 := K2.cell he (λ h => h)
 have HB := sE (By_at x y b w2 (hb.Ac K2))
 have HV : Seal (((cmpN x.1 y.1) == 0) = decide (x.1 = y.1)) := ⟨by
  unfold cmpN
  by_cases h1 : x.1 < y.1
  ·rw [if_pos h1, decide_eq_false (by omega)]; rfl
  ·by_cases h2 : y.1 < x.1
   ·rw [if_neg h1, if_pos h2, decide_eq_false (by omega)]; rfl
   ·rw [if_neg h1, if_neg h2, decide_eq_true (by omega)]; rfl⟩
 clear he hb b1 b2 b1' k1 k2 z1
 subst hw2 hw1
 go_enter Tryz.func56, Tryz.ntmps56
 go_wp2_with fail
 refine HB.out.mono ?_
 rintro e w3 ⟨rfl, k3, -⟩
 go_wp2
 go_ret
 exact ⟨by rw [<- HV.out]; rfl, K2.then' k3⟩

def CmpPost (L : List (Nat × Nat)) (g cap : Nat) (w : World) (e : Ending) (w' : World) : Prop :=
 e = .returned (.slice (some ⟨g, 0, none⟩) (BL L).length cap) /\ Keep (λ k => k = g) w w' /\ ∃ f, RunF w' g cap (BL L).length f /\ ∀ p x, (BL L)[p]? = some x -> f p = x

theorem zeroRun21 (w : World) : (zeroValue 39).run Tryz.prog w = .ok (.agg #[.int .i64 0, .int .i64 0]) w := by kernel_rfl

theorem DY {L : List (Nat × Nat)} : ∀ {j : Nat}, j <= L.length -> (∀ p z y, p + 1 < j -> L[p]? = some z -> L[p + 1]? = some y -> ¬ y.1 = z.1) -> BL (L.take j) = L.take j
 | 0, _, _ => rfl
 | 1, h, _ => by
  cases L with
  | nil => rfl
  | cons x L => rfl
 | j + 2, h, hd => by
  obtain ⟨z, hz⟩ : ∃ z, L[j]? = some z := ⟨_, List.getElem?_eq_getElem (by omega)⟩
  obtain ⟨y, hy⟩ : ∃ y, L[j + 1]? = some y := ⟨_, List.getElem?_eq_getElem (by omega)⟩
  rw [onceR_take hz hy, if_neg (hd j z y (by omega) hz hy), DY (by omega) (λ p a b hp => hd p a b (by omega)), List.take_add_one (i := j + 1), hy]
  rfl

set_option maxRecDepth 20000 in
set_option maxHeartbeats 8000000 in
theorem Compact_at (L : List (Nat × Nat)) (g cap n eb : Nat) (f0 : Nat -> Nat × Nat) (w : World) (h : RunF w g cap n f0) (hl : L.length = n) (hf : ∀ p x, L[p]? = some x -> f0 p = x) (hn : n <= 65536) (hcap : cap <= 9223372036854775807) (heg : ¬ eb = g)
  (hE : ∀ (x y : Nat × Nat) W', Keep (λ k => k = g) w W' -> Calls Tryz.prog 56 #[.agg #[.int .i64 (x.1 : Nat), .int .i64 (x.2 : Nat)], .agg #[.int .i64 (y.1 : Nat), .int .i64 (y.2 : Nat)], .pointer (some ⟨eb, 0, none⟩)] W' λ e w' => e = .returned (.bool (decide (x.1 = y.1))) /\ Keep Aa W' w') :
  Calls Tryz.prog 55 #[.slice (some ⟨g, 0, none⟩) n cap, .func (.func 56) #[] #[.pointer (some ⟨eb, 0, none⟩)]] w (CmpPost L g cap w) := by
 have HR := sE h
 have HE := sE hE
 have HF : Seal (∀ p, p < n -> L[p]? = some (f0 p)) := ⟨λ p hp => by
  obtain ⟨x, hx⟩ : ∃ x, L[p]? = some x := ⟨_, List.getElem?_eq_getElem (by omega)⟩
  rw [hx, hf p x hx]⟩
 have hnc := h.le
 have HL := sE hl
 clear h hf hl hE
 go_enter Tryz.func55, Tryz.ntmps55
 by_cases h2 : n < 2
 ·have h2' : (n : Int) < 2 := by omega
  have HO : Seal (BL L = L) := ⟨by
   have := DY (L := L) (j := n) (by rw [HL.out]; exact Nat.le_refl _) (λ p z y hp => by omega)
   rwa [List.take_of_length_le (by rw [HL.out]; exact Nat.le_refl _)] at this⟩
  go_wp2
  go_ret
  refine ⟨by rw [HO.out, HL.out]; rfl, Keep.refl _ _, f0, by rw [HO.out, HL.out]; exact HR.out, λ p x hx => ?_⟩
  rw [HO.out] at hx
  have hp := (List.getElem?_eq_some_iff.1 hx).1
  have := HF.out p (by rw [<- HL.out]; exact hp)
  rw [hx] at this
  injection this with this
  exact this.symm
 ·have h2' : ¬ (n : Int) < 2 := by omega
  go_wp2_with fail
  go_loopw [5] (λ y wr => ∃ i : Nat, i + 1 <= n /\ y = .int .i64 ((i + 1 : Nat) : Int) /\ Seal (∀ p z y, p + 1 < i + 1 -> L[p]? = some z -> L[p + 1]? = some y -> ¬ y.1 = z.1) /\ Keep Aa w wr) (λ y _ => n - (intOf y).toNat)
  case atStart => exact ⟨0, by omega, rfl, ⟨λ p z y hp => by omega⟩, Keep.refl _ _⟩
  case round =>
   obtain ⟨i, hi, rfl, HD, hk⟩ := hrel
   have HK := sE hk
   by_cases hjl : i + 1 < n
   ·have hjl' : (i : Int) + 1 < (n : Int) := by omega
    obtain ⟨x, hx⟩ : ∃ x, f0 (i + 1) = x := ⟨_, rfl⟩
    obtain ⟨z, hz⟩ : ∃ z, f0 i = z := ⟨_, rfl⟩
    obtain ⟨c0, c1⟩ := (HR.out.keep hk (λ h => h)).cells hjl
    obtain ⟨d0, d1⟩ := (HR.out.keep hk (λ h => h)).cells (p := i) (by omega)
    rw [hx] at c0 c1
    rw [hz] at d0 d1
    have HX : Seal (L[i + 1]? = some x /\ L[i]? = some z) := ⟨by rw [HF.out (i + 1) hjl, HF.out i (by omega), hx, hz]; exact ⟨rfl, rfl⟩⟩
    have HEx := sE (λ W' (kk : Keep Aa wr W') => HE.out x z W' ((hk.then' kk).Au _))
    clear hk hx hz
    go_wp2_with fail
    have hz0 : (0 : Int) <= (i : Int) + 1 := by omega
    have hz1 : (i : Int) < (n : Int) := by omega
    have hz2 : (0 : Int) <= (i : Int) := by omega
    have hwr3 : IntKind.i64.wrap (i : Int) = (i : Int) := by rw [IntKind.wrap_i64]; omega
    have hwr1 : IntKind.i64.wrap ((i : Int) + 1 - 1) = (i : Int) := by rw [IntKind.wrap_i64]; omega
    have hwr2 : IntKind.i64.wrap (((i + 1 : Nat) : Int) - 1) = (i : Int) := by rw [IntKind.wrap_i64]; omega
    refine wp_region_held_drew (S := λ w' => w'.cell? ⟨g, (i + 1) * 2, none⟩ = some (.int .i64 (x.1 : Nat)) /\ w'.cell? ⟨g, (i + 1) * 2 + 1, none⟩ = some (.int .i64 (x.2 : Nat)) /\ w'.cell? ⟨g, i * 2, none⟩ = some (.int .i64 (z.1 : Nat)) /\ w'.cell? ⟨g, i * 2 + 1, none⟩ = some (.int .i64 (z.2 : Nat))) (by kernel_rfl) ?_ (λ hHeld => ?_)
    ·(try dsimp only); (exact ⟨c0, c1, d0, d1⟩)
    refine Aw 0 ?_; refine Aw 1 ?_; refine Aw 2 ?_; refine Aw 3 ?_; refine Aw 4 ?_; refine Aw 5 ?_; refine Aw 6 ?_; refine Aw 7 ?_; refine Aw 8 ?_; refine Aw 9 ?_
    try simp only [AA]
    refine Bq [10] ?_
    refine Ag rfl (λ K hK => ?_)
    go_simp
    go_at_call 56
    (with_reducible refine (HEx.out _ (Keep.refl _ _).drew).mono ?_)
    rintro e w9 ⟨rfl, k9⟩
    have K9 : Keep Aa wr w9 := ((Keep.refl Aa wr).drew).then' k9
    refine hK _ _ ?_ (λ hHeld => ?_)
    ·(try dsimp only); (exact ⟨Ad K9 c0, Ad K9 c1, Ad K9 d0, Ad K9 d1⟩)
    clear hK K
    try simp only [AA]
    refine wpAnyH_done (by kernel_rfl) ?_ _
    have HK9 := sE (HK.out.then' K9)
    clear k9 K9 c0 c1 d0 d1 hHeld hwr1 hwr2
    by_cases hxz : x.1 = z.1
    ·have p1 : decide (x.1 = z.1) = true := decide_eq_true hxz
     rw [p1]
     have HT0 : Seal (BL (L.take (i + 1 + 1)) = L.take (i + 1)) := ⟨by
      rw [onceR_take HX.out.2 HX.out.1, if_pos hxz, List.append_nil]
      exact DY (by rw [HL.out]; omega) HD.out⟩
     clear p1 hxz
     go_wp2_with fail
     have HR9 := sE (HR.out.keep HK9.out (λ h => h))
     obtain ⟨m, hm⟩ : ∃ m, n - (i + 1) = m := ⟨_, rfl⟩
     obtain ⟨cm, hcm⟩ : ∃ cm, cap - (i + 1) = cm := ⟨_, rfl⟩
     rw [hm, hcm]
     obtain ⟨o, ho⟩ : ∃ o, (i + 1) * 2 = o := ⟨_, rfl⟩
     rw [ho]
     clear HEx
     go_loopw [5, 7] (λ x5 x7 wr => ∃ (q c : Nat) (f : Nat -> Nat × Nat), q + 1 <= m /\ x7 = .int .i64 ((q + 1 : Nat) : Int) /\ x5 = .int .i64 (c : Nat) /\ c <= i + 1 + q /\ Seal (c = (BL (L.take (i + 1 + (q + 1)))).length) /\ RunF wr g cap n f /\ Seal (∀ p, p < c -> (BL (L.take (i + 1 + (q + 1))))[p]? = some (f p)) /\ Seal (∀ p, i + 1 + q <= p -> p < n -> f p = f0 p) /\ Keep (λ k => k = g) w9 wr) (λ _ x7 _ => m - (intOf x7).toNat)
     case atStart =>
      refine ⟨0, i + 1, f0, by omega, rfl, by go_num, by omega, ⟨?_⟩, HR9.out, ⟨λ p hp => ?_⟩, ⟨λ p _ _ => rfl⟩, Keep.refl _ _⟩
      ·rw [HT0.out, List.length_take, HL.out]; omega
      ·rw [HT0.out, List.getElem?_take_of_lt hp]
       exact HF.out p (by omega)
     case round =>
      obtain ⟨q, c, f, hq, rfl, rfl, hcq, HC, hr, HA, HB, hk9⟩ := hrel
      have HKr := sE hk9
      have HRr := sE hr
      by_cases hql : q + 1 < m
      ·have hql' : (q : Int) + 1 < (m : Int) := by omega
       obtain ⟨x', hx'⟩ : ∃ x', f0 (i + 1 + (q + 1)) = x' := ⟨_, rfl⟩
       obtain ⟨z', hz'⟩ : ∃ z', f0 (i + 1 + q) = z' := ⟨_, rfl⟩
       have ha : i + 1 + (q + 1) < n := by omega
       obtain ⟨c0, c1⟩ := hr.cells ha
       obtain ⟨d0, d1⟩ := hr.cells (p := i + 1 + q) (by omega)
       rw [HB.out _ (by omega) ha, hx'] at c0 c1
       rw [HB.out _ (by omega) (by omega), hz'] at d0 d1
       rw [show (i + 1 + (q + 1)) * 2 = o + (q + 1) * 2 by omega] at c0 c1
       rw [show (i + 1 + q) * 2 = o + q * 2 by omega] at d0 d1
       have HXq : Seal (L[i + 1 + (q + 1)]? = some x' /\ L[i + 1 + q]? = some z') := ⟨by rw [HF.out _ ha, HF.out (i + 1 + q) (by omega), hx', hz']; exact ⟨rfl, rfl⟩⟩
       have HSu : Seal (BL (L.take (i + 1 + (q + 1) + 1)) = BL (L.take (i + 1 + (q + 1))) ++ (if x'.1 = z'.1 then [] else [x'])) := ⟨onceR_take (j := i + 1 + q) HXq.out.2 HXq.out.1⟩
       have HEx := sE (λ W' (kk : Keep Aa wr W') => HE.out x' z' W' (((HK9.out.Au (λ k => k = g)).trans HKr.out (λ _ _ h => h)).trans kk (λ _ _ h => h.elim)))
       have hz0 : (0 : Int) <= (q : Int) + 1 := by omega
       have hz1 : (q : Int) < (m : Int) := by omega
       have hz2 : (0 : Int) <= (q : Int) := by omega
       have hwr3 : IntKind.i64.wrap (q : Int) = (q : Int) := by rw [IntKind.wrap_i64]; omega
       have hwr1 : IntKind.i64.wrap ((q : Int) + 1 - 1) = (q : Int) := by rw [IntKind.wrap_i64]; omega
       have hwr2 : IntKind.i64.wrap (((q + 1 : Nat) : Int) - 1) = (q : Int) := by rw [IntKind.wrap_i64]; omega
       clear hk9 hr hx' hz'
       go_wp2_with fail
       refine wp_region_held_drew (S := λ w' => w'.cell? ⟨g, o + (q + 1) * 2, none⟩ = some (.int .i64 (x'.1 : Nat)) /\ w'.cell? ⟨g, o + (q + 1) * 2 + 1, none⟩ = some (.int .i64 (x'.2 : Nat)) /\ w'.cell? ⟨g, o + q * 2, none⟩ = some (.int .i64 (z'.1 : Nat)) /\ w'.cell? ⟨g, o + q * 2 + 1, none⟩ = some (.int .i64 (z'.2 : Nat))) (by kernel_rfl) ?_ (λ hHeld => ?_)
       ·(try dsimp only); (exact ⟨c0, c1, d0, d1⟩)
       refine Aw 0 ?_; refine Aw 1 ?_; refine Aw 2 ?_; refine Aw 3 ?_; refine Aw 4 ?_; refine Aw 5 ?_; refine Aw 6 ?_; refine Aw 7 ?_; refine Aw 8 ?_; refine Aw 9 ?_
       try simp only [AA]
       refine Bq [10] ?_
       refine Ag rfl (λ K hK => ?_)
       go_simp
       go_at_call 56
       (with_reducible refine (HEx.out _ (Keep.refl _ _).drew).mono ?_)
       rintro e w8 ⟨rfl, k8⟩
       have K8 : Keep Aa wr w8 := ((Keep.refl Aa wr).drew).then' k8
       refine hK _ _ ?_ (λ hHeld => ?_)
       ·(try dsimp only); (exact ⟨Ad K8 c0, Ad K8 c1, Ad K8 d0, Ad K8 d1⟩)
       clear hK K
       try simp only [AA]
       refine Aw 11 ?_
       try simp only [AA]
       refine wpAnyH_done (by kernel_rfl) ?_ _
       have e0 := Ad K8 c0
       have e1 := Ad K8 c1
       have HK8 := sE K8
       have hr8 := HRr.out.keep K8 (λ h => h)
       have hcn : c < n := by omega
       have hcn' : (c : Int) < (n : Int) := by omega
       obtain ⟨y0, y1⟩ := hr8.cells hcn
       have hfz := hr8.free
       have HR8 := sE hr8
       clear k8 K8 c0 c1 d0 d1 hHeld hr8
       by_cases hxz : x'.1 = z'.1
       ·have p1 : decide (x'.1 = z'.1) = true := decide_eq_true hxz
        rw [if_pos hxz, List.append_nil] at HSu
        rw [p1]
        clear hxz p1
        go_wp2
        refine ⟨⟨q + 1, c, f, by omega, by go_num, rfl, by omega, ⟨?_⟩, HR8.out, ⟨λ p hp => ?_⟩, ⟨λ p h1 h2 => HB.out p (by omega) h2⟩, HKr.out.trans HK8.out (λ _ _ h => h.elim)⟩, by simp only [intOf]; omega⟩
        ·rw [show i + 1 + (q + 1 + 1) = i + 1 + (q + 1) + 1 from rfl, HSu.out]
         exact HC.out
        ·rw [show i + 1 + (q + 1 + 1) = i + 1 + (q + 1) + 1 from rfl, HSu.out]
         exact HA.out p hp
       ·have p1 : decide (x'.1 = z'.1) = false := decide_eq_false hxz
        rw [if_neg hxz] at HSu
        rw [p1]
        clear hxz p1
        go_wp2
        have hrs := HR8.out.store hcn x'
        have ks : Keep (λ k => k = g) w8 ((w8.setCell ⟨g, c * 2, none⟩ (.int .i64 (x'.1 : Nat))).setCell ⟨g, c * 2 + 1, none⟩ (.int .i64 (x'.2 : Nat))) :=
         ((Keep.refl (λ k => k = g) w8).setCell (λ _ => rfl) _).setCell (λ _ => rfl) _
        refine ⟨⟨q + 1, c + 1, updR f c x', by omega, by go_num, by go_num, by omega, ⟨?_⟩, hrs, ⟨λ p hp => ?_⟩, ⟨λ p h1 h2 => ?_⟩, (HKr.out.trans HK8.out (λ _ _ h => h.elim)).trans ks (λ _ _ h => h)⟩, by simp only [intOf]; omega⟩
        ·rw [show i + 1 + (q + 1 + 1) = i + 1 + (q + 1) + 1 from rfl, HSu.out, List.length_append, <- HC.out]
         rfl
        ·rw [show i + 1 + (q + 1 + 1) = i + 1 + (q + 1) + 1 from rfl, HSu.out]
         by_cases e : p = c
         ·subst e
          rw [List.getElem?_append_right (by rw [<- HC.out]; exact Nat.le_refl _), <- HC.out, Nat.sub_self]
          simp [updR]
         ·rw [List.getElem?_append_left (by rw [<- HC.out]; omega), HA.out p (by omega)]
          simp [updR, e]
        ·rw [<- HB.out p (by omega) h2]
         unfold updR
         rw [if_neg (by omega)]
      ·have hql' : ¬ (q : Int) + 1 < (m : Int) := by omega
       obtain ⟨vs, hvs⟩ : ∃ vs, (Builtin.zeroCells (Value.cells (.agg #[.int .i64 0, .int .i64 0])) (n - c)).toList = vs := ⟨_, rfl⟩
       have hcl : ∀ ty, (Builtin.clear_ #[33] ty #[.slice (some ⟨g, c * 2, none⟩) (n - c) (cap - c)]).run Tryz.prog wr = .ok (.tuple #[]) (wr.setCells g (c * 2) vs) := λ ty => by
        rw [<- hvs]
        exact run_clear_cells wr _ 39 ty _ 2 Tryz.BJ zeroRun21 rfl (by intro u hu; simp [Value.cells] at hu; rcases hu with rfl | rfl <;> rfl) (by omega) g (c * 2) (n - c) _ (by omega)
         (λ p hp => hr.isCell (by have := hr.le; omega)) (λ p hp => hr.free _)
       have hcn' : (c : Int) < (n : Int) := by omega
       have hcc : c <= cap := by omega
       have hcc' : (c : Int) <= (cap : Int) := by omega
       have HVs := sE hvs
       clear hk9 hr hvs
       go_wp2
       go_ret
       obtain ⟨cur, e1, e2, e3⟩ := HRr.out.blk
       obtain ⟨cur', d1, d2, d3, d4⟩ := DI g 39 vs (c * 2) wr cur e1
       have hall : L.take (i + 1 + (q + 1)) = L := List.take_of_length_le (by rw [HL.out]; omega)
       have hcL : c = (BL L).length := by have := HC.out; rwa [hall] at this
       refine ⟨by rw [<- hcL]; rfl, ((HK9.out.Au (λ k => k = g)).trans HKr.out (λ _ _ h => h)).trans d4 (λ _ _ h => h), f, ⟨⟨cur', d1, by rw [d2, e2], λ p hp => ?_⟩, by omega, HRr.out.cap_le⟩, λ p x hx => ?_⟩
       ·rw [<- hcL] at hp
        rw [d3 _ (by omega), d3 _ (by omega)]
        exact e3 p (by omega)
       ·have hp := (List.getElem?_eq_some_iff.1 hx).1
        have := HA.out p (by omega)
        rw [hall, hx] at this
        injection this with this
        exact this.symm
    ·have p1 : decide (x.1 = z.1) = false := decide_eq_false hxz
     have HD2 : Seal (∀ p z y, p + 1 < i + 1 + 1 -> L[p]? = some z -> L[p + 1]? = some y -> ¬ y.1 = z.1) := ⟨λ p z' y' hp h1 h2 => by
      by_cases e : p = i
      ·subst e
       rw [HX.out.2] at h1
       rw [HX.out.1] at h2
       injection h1 with h1
       injection h2 with h2
       rw [<- h1, <- h2]
       exact hxz
      ·exact HD.out p z' y' (by omega) h1 h2⟩
     go_wp2
     exact ⟨⟨i + 1, by omega, by go_num, HD2, HK9.out⟩, by simp only [intOf]; omega⟩
   ·have hjl' : ¬ (i : Int) + 1 < (n : Int) := by omega
    have HO : Seal (BL L = L) := ⟨by
     have := DY (L := L) (j := n) (by rw [HL.out]; exact Nat.le_refl _) (λ p z y hp => HD.out p z y (by omega))
     rwa [List.take_of_length_le (by rw [HL.out]; exact Nat.le_refl _)] at this⟩
    clear hk
    go_wp2
    go_ret
    refine ⟨by rw [HO.out, HL.out]; rfl, HK.out.Au _, f0, by rw [HO.out, HL.out]; exact HR.out.keep HK.out (λ h => h), λ p x hx => ?_⟩
    rw [HO.out] at hx
    have hp := (List.getElem?_eq_some_iff.1 hx).1
    have := HF.out p (by rw [<- HL.out]; exact hp)
    rw [hx] at this
    injection this with this
    exact this.symm

end Go.Proofs.YtgccjhnafhlndaaGreatDoor
