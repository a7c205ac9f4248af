/-
 Rows of shifts (whole numbers): where one goes, how many granules move, two plans that are the same.
 What a plan tells: where one goes; what no shift takes (plain, then walked).
-/
import Derived.Test.YtlmdkfbibpkjgaaGreatDoorPlanP
import Derived.Test.YtlmdkfbibpkjgaaGreatDoorWalkCheck
namespace Go.Proofs.YtlmdkfbibpkjgaaGreatDoor
open Go.RowKit
set_option linter.unusedVariables false

def RowH (w : World) (v : Value) (es : List (Int × Int × Int)) : Prop :=
 ∃ a cap, v = .slice a es.length cap /\ ∀ i x, es[i]? = some x -> ∃ b o, a = some ⟨b, o, none⟩ /\ b < w.heap.size /\
  w.cell? ⟨b, o + i * 3, none⟩ = some (.int .i64 x.1) /\ w.cell? ⟨b, o + i * 3 + 1, none⟩ = some (.int .i64 x.2.1) /\ w.cell? ⟨b, o + i * 3 + 2, none⟩ = some (.int .i64 x.2.2)

theorem RowH.Ad {w w' : World} {v : Value} {es : List (Int × Int × Int)} (h : RowH w v es) (k : Keep Aa w w') : RowH w' v es := by
 obtain ⟨a, cap, rfl, h⟩ := h
 refine ⟨a, cap, rfl, λ i x hi => ?_⟩
 obtain ⟨b, o, rfl, h1, h2, h3, h4⟩ := h i x hi
 exact ⟨b, o, rfl, Nat.lt_of_lt_of_le h1 k.size, k.cell h2 (λ h => h), k.cell h3 (λ h => h), k.cell h4 (λ h => h)⟩

def castS (es : List (Nat × Nat × Nat)) : List (Int × Int × Int) := es.map λ x => ((x.1 : Int), (x.2.1 : Int), (x.2.2 : Int))

theorem RowO.rowH {w : World} {v : Value} {es : List (Nat × Nat × Nat)} (h : RowO w v es) : RowH w v (castS es) := by
 obtain ⟨a, cap, rfl, h⟩ := h
 refine ⟨a, cap, by rw [castS, List.length_map], λ i x hi => ?_⟩
 rw [castS, List.getElem?_map] at hi
 obtain ⟨y, hy, rfl⟩ := Option.map_eq_some_iff.1 hi
 exact h i y hy

def Cn : List (Int × Int × Int) -> Int
 | [] => 0
 | x :: es => (if x.2.1 = x.1 then 0 else x.2.2) + Cn es

theorem movedS_app : ∀ (a b : List (Int × Int × Int)), Cn (a ++ b) = Cn a + Cn b
 | [], b => by simp [Cn]
 | x :: a, b => by simp only [List.cons_append, Cn, movedS_app a b]; omega

theorem take_snoc' {α : Type} {L : List α} {j : Nat} {x : α} (h : L[j]? = some x) : L.take (j + 1) = L.take j ++ [x] := by
 rw [List.take_add_one, h]
 rfl

theorem movedS_take {es : List (Int × Int × Int)} {j : Nat} {x : Int × Int × Int} (h : es[j]? = some x) : Cn (es.take (j + 1)) = Cn (es.take j) + (if x.2.1 = x.1 then 0 else x.2.2) := by
 rw [take_snoc' h, movedS_app]
 simp [Cn]

theorem movedS_le {M : Int} (hM : 0 <= M) : ∀ (es : List (Int × Int × Int)), (∀ x ∈ es, 0 <= x.2.2 /\ x.2.2 <= M) -> 0 <= Cn es /\ Cn es <= M * es.length
 | [], _ => by simp [Cn]
 | x :: es, h => by
  obtain ⟨h1, h2⟩ := movedS_le hM es λ y hy => h y (List.mem_cons_of_mem _ hy)
  obtain ⟨h3, h4⟩ := h x List.mem_cons_self
  simp only [Cn, List.length_cons]
  have e : M * ((es.length + 1 : Nat) : Int) = M * (es.length : Int) + M := by
   rw [Int.natCast_add, Int.mul_add]
   simp
  rw [e]
  split <;> omega

set_option maxHeartbeats 2000000 in
theorem Moved_at (es : List (Int × Int × Int)) (v : Value) (w : World) (h : RowH w v es) (hl : es.length <= 1000) (hs : ∀ x ∈ es, 0 <= x.2.2 /\ x.2.2 <= 1099511627776) :
  Calls Tryz.prog 8 #[.agg #[v]] w λ e w' => e = .returned (.int .i64 (Cn es)) /\ Keep Aa w w' := by
 have HR := sE h
 obtain ⟨va, vc, rfl, -⟩ := h
 obtain ⟨n, hn⟩ : ∃ n, es.length = n := ⟨_, rfl⟩
 rw [hn] at HR hl ⊢
 have HN := sE hn
 have HS := sE hs
 obtain ⟨w1, hw1⟩ : ∃ w1, w1 = w.alloc (.cells #[.slice va n vc] 24) := ⟨_, rfl⟩
 have k1 : Keep Aa w w1 := by rw [hw1]; exact (Keep.refl _ w).alloc _
 have b1 : w1.heap[w.heap.size]? = some (.cells #[.slice va n vc] 24 (0, 0)) := by rw [hw1]; exact World.alloc_heap_new w _
 have c1 := cell_of_one b1
 have HK1 := sE k1
 clear hn hs k1 b1
 subst hw1
 go_enter Tryz.func8, Tryz.ntmps8
 go_wp2_with fail
 go_loopw [2, 4, 8] (λ x2 _ x8 wr => ∃ j : Nat, j <= n /\ x8 = .int .i64 (j : Nat) /\ x2 = .int .i64 (Cn (es.take j)) /\ Keep Aa w wr) (λ _ _ x8 _ => n - (intOf x8).toNat)
 case atStart => exact ⟨0, Nat.zero_le _, rfl, rfl, HK1.out⟩
 case round =>
  obtain ⟨j, hj, rfl, rfl, hk⟩ := hrel
  have HK := sE hk
  by_cases hjl : j < n
  ·have hjl' : (j : Int) < (n : Int) := by omega
   obtain ⟨va', vc', e, hx⟩ := HR.out
   injection e with e1 e3 e2
   clear e3
   subst e1 e2
   obtain ⟨x, hxj⟩ : ∃ x, es[j]? = some x := ⟨_, List.getElem?_eq_getElem (by rw [HN.out]; exact hjl)⟩
   obtain ⟨bb, o, rfl, hbb, x0, x1, x2⟩ := hx j x hxj
   replace x0 := hk.cell x0 (λ h => h)
   replace x1 := hk.cell x1 (λ h => h)
   replace x2 := hk.cell x2 (λ h => h)
   have hT := movedS_take hxj
   have hb := movedS_le (M := 1099511627776) (by omega) (es.take j) λ y hy => HS.out y (List.mem_of_mem_take hy)
   have hlt : (es.take j).length <= 1000 := by rw [List.length_take]; omega
   have hxs := HS.out x (List.mem_of_getElem? hxj)
   obtain ⟨m, hm⟩ : ∃ m, Cn (es.take j) = m := ⟨_, rfl⟩
   rw [hm] at hT hb ⊢
   obtain ⟨f, t, z⟩ := x
   simp only at x0 x1 x2 hT hxs
   have hA : (wr.alloc (.cells #[.int .i64 f, .int .i64 t, .int .i64 z] 27)).heap[wr.heap.size]? = some (.cells #[.int .i64 f, .int .i64 t, .int .i64 z] 27 (0, 0)) := World.alloc_heap_new wr _
   have z0 : (wr.alloc (.cells #[.int .i64 f, .int .i64 t, .int .i64 z] 27)).cell? ⟨wr.heap.size, 0, none⟩ = some (.int .i64 f) := by simp only [World.cell?, hA]; rfl
   have z1 : (wr.alloc (.cells #[.int .i64 f, .int .i64 t, .int .i64 z] 27)).cell? ⟨wr.heap.size, 1, none⟩ = some (.int .i64 t) := by simp only [World.cell?, hA]; rfl
   have z2 : (wr.alloc (.cells #[.int .i64 f, .int .i64 t, .int .i64 z] 27)).cell? ⟨wr.heap.size, 2, none⟩ = some (.int .i64 z) := by simp only [World.cell?, hA]; rfl
   have HK2 := sE (hk.then' (((Keep.refl Aa wr).alloc (.cells #[.int .i64 f, .int .i64 t, .int .i64 z] 27))))
   have HT := sE hT
   have u1 : IntKind.i64.wrap (m + z) = m + z := by rw [IntKind.wrap_i64]; omega
   clear hx hxj hk hm hT hA hlt
   by_cases hft : t = f
   ·subst hft
    rw [if_pos rfl] at HT
    clear u1
    go_wp2_with fail
    exact ⟨⟨j + 1, by omega, by go_num, by rw [HT.out, Int.add_zero], HK2.out⟩, by simp only [intOf]; omega⟩
   ·have hft' : (t != f) = true := by simp [hft]
    rw [if_neg hft] at HT
    clear hft
    go_wp2_with fail
    exact ⟨⟨j + 1, by omega, by go_num, by rw [HT.out], HK2.out⟩, by simp only [intOf]; omega⟩
  ·have hjl' : ¬ (j : Int) < (n : Int) := by omega
   clear hk
   go_wp2_with fail
   go_ret
   refine ⟨?_, HK.out⟩
   rw [List.take_of_length_le (by rw [HN.out]; omega)]
   rfl

set_option maxHeartbeats 2000000 in
theorem RefMoved_at (es : List (Int × Int × Int)) (v : Value) (w : World) (h : RowH w v es) (hl : es.length <= 1000) (hs : ∀ x ∈ es, 0 <= x.2.2 /\ x.2.2 <= 1099511627776) :
  Calls Tryz.prog 9 #[.agg #[v]] w λ e w' => e = .returned (.int .i64 (Cn es)) /\ Keep Aa w w' := by
 have HR := sE h
 obtain ⟨va, vc, rfl, -⟩ := h
 obtain ⟨n, hn⟩ : ∃ n, es.length = n := ⟨_, rfl⟩
 rw [hn] at HR hl ⊢
 have HN := sE hn
 have HS := sE hs
 obtain ⟨w1, hw1⟩ : ∃ w1, w1 = w.alloc (.cells #[.slice va n vc] 24) := ⟨_, rfl⟩
 have k1 : Keep Aa w w1 := by rw [hw1]; exact (Keep.refl _ w).alloc _
 have b1 : w1.heap[w.heap.size]? = some (.cells #[.slice va n vc] 24 (0, 0)) := by rw [hw1]; exact World.alloc_heap_new w _
 have HB1 := sE (cell_of_one b1)
 have HK1 := sE k1
 clear hn hs b1
 go_enter Tryz.func9, Tryz.ntmps9
 go_wp2_with fail
 rw [<- hw1]
 clear hw1 k1
 go_loopw [3, 4] (λ x3 x4 wr => ∃ j : Nat, j <= n /\ x4 = .int .i64 (j : Nat) /\ x3 = .int .i64 (Cn (es.take j)) /\ Keep Aa w1 wr) (λ _ x4 _ => n - (intOf x4).toNat)
 case atStart => exact ⟨0, Nat.zero_le _, rfl, rfl, Keep.refl _ _⟩
 case round =>
  obtain ⟨j, hj, rfl, rfl, hk⟩ := hrel
  have HK := sE hk
  have c0 := hk.cell HB1.out (λ h => h)
  by_cases hjl : j < n
  ·have hjl' : (j : Int) < (n : Int) := by omega
   obtain ⟨va', vc', e, hx⟩ := HR.out
   injection e with e1 e3 e2
   clear e3
   subst e1 e2
   obtain ⟨x, hxj⟩ : ∃ x, es[j]? = some x := ⟨_, List.getElem?_eq_getElem (by rw [HN.out]; exact hjl)⟩
   obtain ⟨bb, o, rfl, hbb, x0, x1, x2⟩ := hx j x hxj
   replace x0 := (HK1.out.then' hk).cell x0 (λ h => h)
   replace x1 := (HK1.out.then' hk).cell x1 (λ h => h)
   replace x2 := (HK1.out.then' hk).cell x2 (λ h => h)
   have hT := movedS_take hxj
   have hb := movedS_le (M := 1099511627776) (by omega) (es.take j) λ y hy => HS.out y (List.mem_of_mem_take hy)
   have hlt : (es.take j).length <= 1000 := by rw [List.length_take]; omega
   have hxs := HS.out x (List.mem_of_getElem? hxj)
   obtain ⟨m, hm⟩ : ∃ m, Cn (es.take j) = m := ⟨_, rfl⟩
   rw [hm] at hT hb ⊢
   obtain ⟨f, t, z⟩ := x
   simp only at x0 x1 x2 hT hxs
   have HT := sE hT
   have u1 : IntKind.i64.wrap (m + z) = m + z := by rw [IntKind.wrap_i64]; omega
   have l0 : ∀ nq, (wr.drewN nq).cell? ⟨w.heap.size, 0, none⟩ = some (.slice (some ⟨bb, o, none⟩) n vc) := λ nq => c0
   have l2 : ∀ nq, (wr.drewN nq).cell? ⟨bb, o + j * 3 + 2, none⟩ = some (.int .i64 z) := λ nq => x2
   clear hx hxj hk hm hT hlt
   by_cases hft : t = f
   ·subst hft
    rw [if_pos rfl] at HT
    clear u1
    go_wp2_with fail
    go_quiet (fail)
    go_wp2_with fail
    exact ⟨⟨j + 1, by omega, by go_num, by rw [HT.out, Int.add_zero], HK.out.then' (Keep.Ag _)⟩, by simp only [intOf]; omega⟩
   ·have hft' : (t != f) = true := by simp [hft]
    rw [if_neg hft] at HT
    clear hft
    go_wp2_with fail
    go_quiet (fail)
    go_wp2_with fail
    exact ⟨⟨j + 1, by omega, by go_num, by rw [HT.out], HK.out.then' (Keep.Ag _)⟩, by simp only [intOf]; omega⟩
  ·have hjl' : ¬ (j : Int) < (n : Int) := by omega
   clear hk
   go_wp2_with fail
   go_ret
   refine ⟨?_, HK1.out.then' HK.out⟩
   rw [List.take_of_length_le (by rw [HN.out]; omega)]
   rfl

def bumpL : List (Nat × Nat) -> List (Nat × Nat)
 | [] => []
 | [r] => [(r.1, r.2 + 1)]
 | r :: s :: rs => r :: bumpL (s :: rs)

def EL (f : Nat -> Bool) : Nat -> Bool
 | 0 => false
 | g + 1 => !f g

def CY (f : Nat -> Bool) : Nat -> List (Nat × Nat)
 | 0 => []
 | g + 1 => if f g then CY f g else if EL f g then bumpL (CY f g) else CY f g ++ [(g, 1)]

theorem bumpL_snoc : ∀ (L : List (Nat × Nat)) (x : Nat × Nat), bumpL (L ++ [x]) = L ++ [(x.1, x.2 + 1)]
 | [], x => rfl
 | [r], x => rfl
 | r :: s :: rs, x => by
  show r :: bumpL ((s :: rs) ++ [x]) = _
  rw [bumpL_snoc (s :: rs) x]
  rfl

theorem gapG_open {f : Nat -> Bool} : ∀ {g : Nat}, EL f g = true -> ∃ P s, s < g /\ CY f g = P ++ [(s, g - s)]
 | 0, h => by cases h
 | g + 1, h => by
  have hf : f g = false := by simpa [EL] using h
  simp only [CY, hf, Bool.false_eq_true, if_false]
  cases ho : EL f g with
  | true =>
   obtain ⟨P, s, hs, e⟩ := gapG_open ho
   refine ⟨P, s, by omega, ?_⟩
   rw [e, if_pos rfl, bumpL_snoc]
   simp only
   rw [show g - s + 1 = g + 1 - s by omega]
  | false => exact ⟨CY f g, g, by omega, by rw [if_neg (by simp), show g + 1 - g = 1 by omega]⟩

theorem gapG_full {f : Nat -> Bool} {a : Nat} : ∀ {b : Nat}, a <= b -> (∀ t, a <= t -> t < b -> f t = true) -> CY f b = CY f a
 | 0, h, _ => by rw [Nat.le_zero.1 h]
 | b + 1, h, hf => by
  by_cases e : a = b + 1
  ·rw [e]
  ·rw [CY, if_pos (hf b (by omega) (by omega)), gapG_full (by omega) λ t h1 h2 => hf t h1 (by omega)]

theorem gapG_run {f : Nat -> Bool} {a : Nat} (ho : EL f a = false) : ∀ {b : Nat}, a < b -> (∀ t, a <= t -> t < b -> f t = false) -> CY f b = CY f a ++ [(a, b - a)]
 | 0, h, _ => by omega
 | b + 1, h, hf => by
  have hb := hf b (by omega) (by omega)
  rw [CY, hb]
  simp only [Bool.false_eq_true, if_false]
  by_cases e : a = b
  ·subst e
   rw [ho, if_neg (by simp), show a + 1 - a = 1 by omega]
  ·rw [gapG_run ho (by omega) λ t h1 h2 => hf t h1 (by omega)]
   have : EL f b = true := by
    obtain ⟨c, rfl⟩ : ∃ c, b = c + 1 := ⟨b - 1, by omega⟩
    simp [EL, hf c (by omega) (by omega)]
   rw [if_pos this, bumpL_snoc]
   simp only
   rw [show b - a + 1 = b + 1 - a by omega]

theorem gapG_congr {f g : Nat -> Bool} : ∀ {n : Nat}, (∀ t, t < n -> f t = g t) -> CY f n = CY g n
 | 0, _ => rfl
 | n + 1, h => by
  have e : EL f n = EL g n := by
   cases n with
   | zero => rfl
   | succ m => simp only [EL]; rw [h m (by omega)]
  rw [CY, CY, h n (by omega), e, gapG_congr λ t ht => h t (by omega)]

theorem bumpL_len : ∀ (L : List (Nat × Nat)), (bumpL L).length = L.length
 | [] => rfl
 | [r] => rfl
 | r :: s :: rs => by
  simp only [bumpL, List.length_cons]
  rw [bumpL_len (s :: rs)]
  rfl

theorem gapG_len (f : Nat -> Bool) : ∀ (n : Nat), (CY f n).length <= n
 | 0 => Nat.zero_le _
 | n + 1 => by
  have := gapG_len f n
  rw [CY]
  split
  ·omega
  ·split
   ·rw [bumpL_len]; omega
   ·rw [List.length_append]; simp only [List.length_cons, List.length_nil]; omega

def toP (es : List (Int × Int × Int)) (g : Int) : Int × Bool :=
 match es.find? (λ x => x.1 == g) with
 | some x => (x.2.1, true)
 | none => (0, false)

theorem find_hit {es : List (Int × Int × Int)} {g : Int} {j : Nat} {x : Int × Int × Int} (h : (es.take j).find? (λ x => x.1 == g) = none) (hx : es[j]? = some x) (hg : x.1 = g) : es.find? (λ x => x.1 == g) = some x := by
 obtain ⟨h1, h2⟩ := List.getElem?_eq_some_iff.1 hx
 have hs : es = es.take j ++ x :: es.drop (j + 1) := by
  rw [<- h2, List.getElem_cons_drop h1, List.take_append_drop]
 rw [hs, List.find?_append, h, List.find?_cons_of_pos (by simp [hg])]
 rfl

theorem find_miss {es : List (Int × Int × Int)} {g : Int} {j : Nat} {x : Int × Int × Int} (h : (es.take j).find? (λ x => x.1 == g) = none) (hx : es[j]? = some x) (hg : ¬ x.1 = g) : (es.take (j + 1)).find? (λ x => x.1 == g) = none := by
 rw [take_snoc' hx, List.find?_append, h, List.find?_cons_of_neg (by simp [hg])]
 rfl

set_option maxHeartbeats 1000000 in
theorem ToOne_at (x : Int × Int × Int) (g : Int) (b : Nat) (w : World) (hb : w.cell? ⟨b, 0, none⟩ = some (.int .i64 g)) :
  Calls Tryz.prog 23 #[.agg #[.int .i64 x.1, .int .i64 x.2.1, .int .i64 x.2.2], .pointer (some ⟨b, 0, none⟩)] w λ e w' => e = .returned (.bool (x.1 == g)) /\ Keep Aa w w' := by
 obtain ⟨f, t, z⟩ := x
 simp only
 obtain ⟨w1, hw1⟩ : ∃ w1, w1 = w.alloc (.cells #[.int .i64 f, .int .i64 t, .int .i64 z] 27) := ⟨_, rfl⟩
 have k1 : Keep Aa w w1 := by rw [hw1]; exact (Keep.refl _ w).alloc _
 have b1 : w1.heap[w.heap.size]? = some (.cells #[.int .i64 f, .int .i64 t, .int .i64 z] 27 (0, 0)) := by rw [hw1]; exact World.alloc_heap_new w _
 have c0 : w1.cell? ⟨w.heap.size, 0, none⟩ = some (.int .i64 f) := by simp [World.cell?, b1]
 have cg := k1.cell hb (λ h => h)
 clear b1
 subst hw1
 go_enter Tryz.func23, Tryz.ntmps23
 go_wp2_with fail
 go_ret
 exact ⟨rfl, k1⟩

def IdxH (es : List (Int × Int × Int)) (g : Int) (w : World) (e : Ending) (w' : World) : Prop :=
 Keep Aa w w' /\ ((∃ (i : Nat) (x : Int × Int × Int), es[i]? = some x /\ es.find? (λ x => x.1 == g) = some x /\ e = .returned (.int .i64 (i : Nat))) \/ (es.find? (λ x => x.1 == g) = none /\ e = .returned (.int .i64 (-1))))

set_option maxHeartbeats 2000000 in
theorem IdxH_at (es : List (Int × Int × Int)) (v : Value) (g : Int) (b : Nat) (w : World) (h : RowH w v es) (hb : w.cell? ⟨b, 0, none⟩ = some (.int .i64 g)) (hl : es.length <= 65536) :
  Calls Tryz.prog 22 #[v, .func (.func 23) #[] #[.pointer (some ⟨b, 0, none⟩)]] w (IdxH es g w) := by
 have HV := sE h
 obtain ⟨va, vc, rfl, -⟩ := h
 obtain ⟨len, hlen⟩ : ∃ len, es.length = len := ⟨_, rfl⟩
 rw [hlen] at HV hl ⊢
 have HL := sE hlen
 have HO : Seal (∀ (x : Int × Int × Int) W', Keep Aa w W' -> Calls Tryz.prog 23 #[.agg #[.int .i64 x.1, .int .i64 x.2.1, .int .i64 x.2.2], .pointer (some ⟨b, 0, none⟩)] W' λ e w' => e = .returned (.bool (x.1 == g)) /\ Keep Aa W' w') := ⟨λ x W' kk => ToOne_at x g b W' (kk.cell hb (λ h => h))⟩
 clear hlen hb
 go_enter Tryz.func22, Tryz.ntmps22
 go_wp2_with fail
 go_loopw [5, 8] (λ _ y wr => ∃ j : Nat, j <= len /\ y = .int .i64 (j : Nat) /\ Seal ((es.take j).find? (λ x => x.1 == g) = none) /\ Keep Aa w wr) (λ _ y _ => len - (intOf y).toNat)
 case atStart => exact ⟨0, Nat.zero_le _, rfl, ⟨rfl⟩, Keep.refl _ _⟩
 case round =>
  obtain ⟨j, hj, rfl, HC, hk⟩ := hrel
  have HK := sE hk
  by_cases hjl : j < len
  ·have hjl' : (j : Int) < (len : Int) := by omega
   obtain ⟨va', vc', e, hx⟩ := HV.out
   injection e with e1 e3 e2
   clear e3
   subst e1 e2
   obtain ⟨x, hxj⟩ : ∃ x, es[j]? = some x := ⟨_, List.getElem?_eq_getElem (by rw [HL.out]; exact hjl)⟩
   obtain ⟨bb, o, rfl, hbb, x0, x1, x2⟩ := hx j x hxj
   replace x0 := hk.cell x0 (λ h => h)
   replace x1 := hk.cell x1 (λ h => h)
   replace x2 := hk.cell x2 (λ h => h)
   have HOx := sE (HO.out x wr hk)
   have HX := sE hxj
   clear hx hxj hk
   by_cases hin : x.1 = g
   ·have hin' : (x.1 == g) = true := by simp [hin]
    rw [hin'] at HOx
    have HIn := sE hin
    clear hin hin'
    go_wp2_with fail
    refine HOx.out.mono ?_
    rintro e w1 ⟨rfl, k1⟩
    go_wp2
    go_ret
    exact ⟨HK.out.then' k1, .inl ⟨j, x, HX.out, find_hit HC.out HX.out HIn.out, rfl⟩⟩
   ·have hin' : (x.1 == g) = false := by simp [hin]
    rw [hin'] at HOx
    have HC2 := sE (find_miss HC.out HX.out hin)
    clear hin hin'
    go_wp2_with fail
    refine HOx.out.mono ?_
    rintro e w1 ⟨rfl, k1⟩
    have HK1 := sE (HK.out.then' k1)
    clear k1 x0 x1 x2
    go_wp2
    exact ⟨⟨j + 1, by omega, by go_num, HC2, HK1.out⟩, by simp only [intOf]; omega⟩
  ·have hjl' : ¬ (j : Int) < (len : Int) := by omega
   clear hk
   go_wp2
   go_ret
   refine ⟨HK.out, .inr ⟨?_, rfl⟩⟩
   have := HC.out
   rwa [List.take_of_length_le (by rw [HL.out]; omega)] at this

set_option maxHeartbeats 2000000 in
theorem To_at (es : List (Int × Int × Int)) (v : Value) (g : Int) (w : World) (h : RowH w v es) (hl : es.length <= 65536) :
  Calls Tryz.prog 6 #[.agg #[v], .int .i64 g] w λ e w' => e = .returned (.tuple #[.int .i64 (toP es g).1, .bool (toP es g).2]) /\ Keep Aa w w' := by
 have HV := sE h
 obtain ⟨va, vc, rfl, -⟩ := h
 obtain ⟨len, hlen⟩ : ∃ len, es.length = len := ⟨_, rfl⟩
 rw [hlen] at HV hl ⊢
 have HL := sE hlen
 obtain ⟨w1, hw1⟩ : ∃ w1, w1 = (w.alloc (.cells #[.slice va len vc] 24)).alloc (.cells #[.int .i64 g] 3) := ⟨_, rfl⟩
 have k1 : Keep Aa w w1 := by rw [hw1]; exact ((Keep.refl _ w).alloc _).alloc _
 have b1 : w1.heap[w.heap.size]? = some (.cells #[.slice va len vc] 24 (0, 0)) := by rw [hw1]; exact ((Keep.refl Aa _).alloc _).at_ (World.alloc_heap_new w _) (λ h => h)
 have b2 : w1.heap[w.heap.size + 1]? = some (.cells #[.int .i64 g] 3 (0, 0)) := by
  rw [hw1]
  have := World.alloc_heap_new (w.alloc (.cells #[.slice va len vc] 24)) (.cells #[.int .i64 g] 3)
  rwa [show (w.alloc (.cells #[.slice va len vc] 24)).heap.size = w.heap.size + 1 by simp] at this
 have HI := sE (IdxH_at es _ g _ w1 (HV.out.Ad k1) (cell_of_one b2) (by rw [hlen]; exact hl))
 have c0 := cell_of_one b1
 have HK1 := sE k1
 clear hlen k1 b1 b2
 subst hw1
 go_enter Tryz.func6, Tryz.ntmps6
 go_wp2_with fail
 refine HI.out.mono ?_
 rintro e w2 ⟨k2, h2⟩
 have HK2 := sE (HK1.out.then' k2)
 have d0 := k2.cell c0 (λ h => h)
 clear k2 c0
 rcases h2 with ⟨i, x, hx, hf, rfl⟩ | ⟨hf, rfl⟩
 ·have hp : toP es g = (x.2.1, true) := by rw [toP, hf]
  have HP := sE hp
  obtain ⟨va', vc', e, hh⟩ := (HV.out.Ad HK2.out)
  injection e with e1 e3 e2
  clear e3
  subst e1 e2
  have hil : (i : Int) < (len : Int) := by
   have := (List.getElem?_eq_some_iff.1 hx).1
   rw [HL.out] at this
   omega
  obtain ⟨bb, o, rfl, hbb, x0, x1, x2⟩ := hh i x hx
  clear hh hx hf hp hbb
  go_wp2_with fail
  exact bodyPost_ret (v := .tuple #[.int .i64 (toP es g).1, .bool (toP es g).2]) (by rw [HP.out]; simp [results, Tryz.results6, go_sem]) rfl ⟨rfl, HK2.out⟩
 ·have hp : toP es g = (0, false) := by rw [toP, hf]
  have HP := sE hp
  clear hf hp
  go_wp2_with fail
  exact bodyPost_ret (v := .tuple #[.int .i64 (toP es g).1, .bool (toP es g).2]) (by rw [HP.out]; simp [results, Tryz.results6, go_sem]) rfl ⟨rfl, HK2.out⟩

set_option maxHeartbeats 2000000 in
theorem RefTo_at (es : List (Int × Int × Int)) (v : Value) (g : Int) (w : World) (h : RowH w v es) (hl : es.length <= 65536) :
  Calls Tryz.prog 7 #[.agg #[v], .int .i64 g] w λ e w' => e = .returned (.tuple #[.int .i64 (toP es g).1, .bool (toP es g).2]) /\ Keep Aa w w' := by
 have HV := sE h
 obtain ⟨va, vc, rfl, -⟩ := h
 obtain ⟨len, hlen⟩ : ∃ len, es.length = len := ⟨_, rfl⟩
 rw [hlen] at HV hl ⊢
 have HL := sE hlen
 obtain ⟨w1, hw1⟩ : ∃ w1, w1 = w.alloc (.cells #[.slice va len vc] 24) := ⟨_, rfl⟩
 have k1 : Keep Aa w w1 := by rw [hw1]; exact (Keep.refl _ w).alloc _
 have b1 : w1.heap[w.heap.size]? = some (.cells #[.slice va len vc] 24 (0, 0)) := by rw [hw1]; exact World.alloc_heap_new w _
 have c0 := cell_of_one b1
 have HK1 := sE k1
 clear hlen k1 b1
 go_enter Tryz.func7, Tryz.ntmps7
 go_wp2_with fail
 rw [<- hw1]
 clear hw1
 go_loopw [6] (λ x6 wr => ∃ j : Nat, j <= len /\ x6 = .int .i64 (j : Nat) /\ Seal ((es.take j).find? (λ x => x.1 == g) = none) /\ wr = w1) (λ x6 _ => len - (intOf x6).toNat)
 case atStart => exact ⟨0, Nat.zero_le _, rfl, ⟨rfl⟩, rfl⟩
 case round =>
  obtain ⟨j, hj, rfl, HC, rfl⟩ := hrel
  by_cases hjl : j < len
  ·have hjl' : (j : Int) < (len : Int) := by omega
   obtain ⟨va', vc', e, hx⟩ := HV.out.Ad HK1.out
   injection e with e1 e3 e2
   clear e3
   subst e1 e2
   obtain ⟨x, hxj⟩ : ∃ x, es[j]? = some x := ⟨_, List.getElem?_eq_getElem (by rw [HL.out]; exact hjl)⟩
   obtain ⟨bb, o, rfl, hbb, x0, x1, x2⟩ := hx j x hxj
   have HX := sE hxj
   clear hx hxj
   by_cases hin : x.1 = g
   ·have hin' : (x.1 == g) = true := by simp [hin]
    have hp : toP es g = (x.2.1, true) := by rw [toP, find_hit HC.out HX.out hin]
    have HP := sE hp
    clear hin hp
    go_wp2_with fail
    exact bodyPost_ret (v := .tuple #[.int .i64 (toP es g).1, .bool (toP es g).2]) (by rw [HP.out]; simp [results, Tryz.results7, go_sem]) rfl ⟨rfl, HK1.out⟩
   ·have hin' : (x.1 == g) = false := by simp [hin]
    have HC2 := sE (find_miss HC.out HX.out hin)
    clear hin
    go_wp2_with fail
    exact ⟨⟨j + 1, by omega, by go_num, HC2, trivial⟩, by simp only [intOf]; omega⟩
  ·have hjl' : ¬ (j : Int) < (len : Int) := by omega
   have hp : toP es g = (0, false) := by
    have := HC.out
    rw [List.take_of_length_le (by rw [HL.out]; omega)] at this
    rw [toP, this]
   have HP := sE hp
   clear hp
   go_wp2_with fail
   exact bodyPost_ret (v := .tuple #[.int .i64 (toP es g).1, .bool (toP es g).2]) (by rw [HP.out]; simp [results, Tryz.results7, go_sem]) rfl ⟨rfl, HK1.out⟩

def Ex (es : List (Int × Int × Int)) (g : Nat) : Bool := es.any λ x => decide (x.2.1 <= (g : Int) /\ (g : Int) - x.2.1 < x.2.2)

theorem takenS_take {es : List (Int × Int × Int)} {j : Nat} {x : Int × Int × Int} (h : es[j]? = some x) (g : Nat) : Ex (es.take (j + 1)) g = (Ex (es.take j) g || decide (x.2.1 <= (g : Int) /\ (g : Int) - x.2.1 < x.2.2)) := by
 unfold Ex
 rw [take_snoc' h, List.any_append]
 simp

def EM (L : List (Nat × Nat)) (w : World) (e : Ending) (w' : World) : Prop :=
 ∃ v', e = .returned v' /\ w'.ownsRow w.heap.size 68 2 v' L.length (AV L) /\ Keep Aa w w'

def leftG (n : Nat) (a b : Value) : Nat :=
 match b with
 | .bool true => n + 1 - (intOf a).toNat
 | _ => 0

theorem nextB_left (f : Nat -> Bool) (n z a : Nat) (h : a < z) (han : a < n) (x y : Value) (hv : (∃ k, Bd (λ u => !f u) n z = some k /\ x = .int .i64 (k : Nat) /\ y = .bool true) \/ (Bd (λ u => !f u) n z = none /\ x = .int .i64 0 /\ y = .bool false)) : leftG n x y < leftG n (.int .i64 (a : Nat)) (.bool true) := by
 rcases hv with ⟨k', h1, rfl, rfl⟩ | ⟨h1, rfl, rfl⟩
 ·rcases Dj (λ u => !f u) n z with ⟨k2, e1, h3, h4, -⟩ | ⟨e1, -⟩
  ·rw [h1] at e1
   injection e1 with e1
   subst e1
   simp only [leftG, intOf]
   omega
  ·rw [h1] at e1
   cases e1
 ·simp only [leftG, intOf]
  omega

set_option maxRecDepth 20000 in
set_option maxHeartbeats 4000000 in
theorem Gaps_at (es : List (Int × Int × Int)) (v : Value) (n : Nat) (w : World) (h : RowH w v es) (hl : es.length <= 1000) (hs : ∀ x ∈ es, -1099511627776 <= x.2.1 /\ x.2.1 <= 1099511627776 /\ 0 <= x.2.2 /\ x.2.2 <= 1099511627776) (h1 : 1 <= n) (h2 : n <= 65536) :
  Calls Tryz.prog 11 #[.agg #[v], .int .i64 (n : Nat)] w (EM (CY (Ex es) n) w) := by
 have HR := sE h
 obtain ⟨va, vc, rfl, -⟩ := h
 obtain ⟨len, hlen⟩ : ∃ len, es.length = len := ⟨_, rfl⟩
 rw [hlen] at HR hl
 rw [hlen]
 have HN := sE hlen
 have HS := sE hs
 obtain ⟨w1, hw1⟩ : ∃ w1, w1 = w.alloc (.cells #[.slice va len vc] 24) := ⟨_, rfl⟩
 have k1 : Keep Aa w w1 := by rw [hw1]; exact (Keep.refl _ w).alloc _
 have b1 : w1.heap[w.heap.size]? = some (.cells #[.slice va len vc] 24 (0, 0)) := by rw [hw1]; exact World.alloc_heap_new w _
 have c0 := cell_of_one b1
 have HBx := sE b1
 have HK1 := sE k1
 have d1 : ¬ (n : Int) < 1 := by omega
 have d2 : ¬ (65536 : Int) < (n : Int) := by omega
 obtain ⟨L, hL⟩ : ∃ L, CY (Ex es) n = L := ⟨_, rfl⟩
 rw [hL]
 have HG := sE hL
 clear hlen hs b1 hL
 go_enter Tryz.func11, Tryz.ntmps11
 go_wp2_with fail
 rw [<- hw1]
 clear hw1
 have HNew := sE (New_yes n w1 h2)
 clear k1
 refine HNew.out.mono ?_
 rintro e w2 ⟨p, q, rfl, hp, hq, hb2, k2⟩
 have HB2 := sE hb2
 have HK2 := sE (HK1.out.then' k2)
 have e0 := k2.cell c0 (λ h => h)
 have hqw : w.heap.size < w2.heap.size := by have := HK1.out.size; have := k2.size; have := lt_of_heap (k2.at_ HBx.out (λ h => h)); omega
 have hz1 := HK1.out.size
 clear c0 hb2 k2 HNew
 go_wp2_with fail
 go_loopw [8, 9, 10, 29] (λ _ _ _ x29 wr => ∃ (j : Nat) (f : Nat -> Bool), j <= len /\ x29 = .int .i64 (j : Nat) /\ Az wr p q f n /\ (∀ t, t < n -> f t = Ex (es.take j) t) /\ Keep (λ b => b = q) w2 wr) (λ _ _ _ x29 _ => len - (intOf x29).toNat)
 case atStart => exact ⟨0, _, Nat.zero_le _, rfl, HB2.out, λ t _ => rfl, Keep.refl _ _⟩
 case round =>
  obtain ⟨j, f, hj, rfl, hb, hf, hk⟩ := hrel
  have HB := sE hb
  have HF := sE hf
  have HK := sE hk
  have KN : Seal (Keep Aa w wr) := ⟨(HK2.out.Am _).trans hk (λ _ _ h => h) |>.mono (λ k hk h => by have h' : k = q := h; omega)⟩
  clear hb hf hk
  by_cases hjl : j < len
  ·have hjl' : (j : Int) < (len : Int) := by omega
   obtain ⟨va', vc', e, hx⟩ := HR.out.Ad KN.out
   injection e with e1 e3 e2
   clear e3
   subst e1 e2
   obtain ⟨x, hxj⟩ : ∃ x, es[j]? = some x := ⟨_, List.getElem?_eq_getElem (by rw [HN.out]; exact hjl)⟩
   obtain ⟨bb, o, rfl, hbb, x0, x1, x2⟩ := hx j x hxj
   have hT := λ t => takenS_take hxj t
   have hxs := HS.out x (List.mem_of_getElem? hxj)
   obtain ⟨f0, t, z⟩ := x
   simp only at x0 x1 x2 hT hxs
   have hA : (wr.alloc (.cells #[.int .i64 f0, .int .i64 t, .int .i64 z] 27)).heap[wr.heap.size]? = some (.cells #[.int .i64 f0, .int .i64 t, .int .i64 z] 27 (0, 0)) := World.alloc_heap_new wr _
   have z1 : ∀ nq, ((wr.alloc (.cells #[.int .i64 f0, .int .i64 t, .int .i64 z] 27)).drewN nq).cell? ⟨wr.heap.size, 1, none⟩ = some (.int .i64 t) := λ nq => by simp only [World.drewN, World.cell?, hA]; rfl
   have z2 : ∀ nq, ((wr.alloc (.cells #[.int .i64 f0, .int .i64 t, .int .i64 z] 27)).drewN nq).cell? ⟨wr.heap.size, 2, none⟩ = some (.int .i64 z) := λ nq => by simp only [World.drewN, World.cell?, hA]; rfl
   have zz1 : ((wr.alloc (.cells #[.int .i64 f0, .int .i64 t, .int .i64 z] 27))).cell? ⟨wr.heap.size, 1, none⟩ = some (.int .i64 t) := by simp only [World.cell?, hA]; rfl
   have zz2 : ((wr.alloc (.cells #[.int .i64 f0, .int .i64 t, .int .i64 z] 27))).cell? ⟨wr.heap.size, 2, none⟩ = some (.int .i64 z) := by simp only [World.cell?, hA]; rfl
   have u1 : IntKind.i64.wrap (t + z) = t + z := by rw [IntKind.wrap_i64]; omega
   have HX := sE (And.intro hT hxs)
   clear hx hxj hT hxs hA e0
   go_wp2_with fail
   go_quiet (fail)
   obtain ⟨wq, hwq⟩ : ∃ wq, wq = (wr.alloc (.cells #[.int .i64 f0, .int .i64 t, .int .i64 z] 27)).drewN nq := ⟨_, rfl⟩
   have kq : Keep Aa wr wq := by rw [hwq]; exact ((Keep.refl _ wr).alloc _).drewN _
   rw [<- hwq]
   have HBq := sE (HB.out.keep kq (λ h => h) (λ h => h))
   have HKq := sE (HK.out.trans kq (λ _ _ h => h.elim))
   clear hwq z1 z2 kq
   obtain ⟨A, hA⟩ : ∃ A : Int, max t 0 = A := ⟨_, rfl⟩
   obtain ⟨B, hB⟩ : ∃ B : Int, min (t + z) (n : Int) = B := ⟨_, rfl⟩
   rw [hA, hB]
   by_cases hlt : A < B
   ·obtain ⟨a, rfl⟩ : ∃ a : Nat, A = (a : Int) := Int.eq_ofNat_of_zero_le (by omega)
    obtain ⟨b, rfl⟩ : ∃ b : Nat, B = (b : Int) := Int.eq_ofNat_of_zero_le (by omega)
    have hab : a < b := by omega
    have hbn : b <= n := by omega
    obtain ⟨k, hk⟩ : ∃ k, b = a + k := ⟨b - a, by omega⟩
    have hsub : (b : Int) - (a : Int) = (k : Int) := by omega
    have HFn : Seal (∀ u, u < n -> CQ f a k true u = Ex (es.take (j + 1)) u) := ⟨λ u hu => by
     rw [HX.out.1 u, <- HF.out u hu]
     unfold CQ
     split
     ·rename_i hc
      have : t <= (u : Int) /\ (u : Int) - t < z := by
       omega
      simp [this]
     ·rename_i hc
      have : ¬ (t <= (u : Int) /\ (u : Int) - t < z) := by
       intro h
       omega
      simp [this]⟩
    have HSr := sE (SetRun_yes a k n p q f wq HBq.out (by omega))
    have hu2 : IntKind.i64.wrap (k : Int) = (k : Int) := by rw [IntKind.wrap_i64]; omega
    clear hA hB hab HF HX hk
    go_wp2_with fail
    with_reducible refine HSr.out.mono ?_
    rintro e w3 ⟨rfl, k3, hb3⟩
    have HB3 := sE hb3
    have HK3 := sE (HKq.out.trans k3 (λ _ _ h => h))
    clear hb3 k3 hsub hu2 hbn
    go_wp2_with fail
    exact ⟨⟨j + 1, _, by omega, by go_num, HB3.out, HFn.out, HK3.out⟩, by simp only [intOf]; omega⟩
   ·have HFn : Seal (∀ u, u < n -> f u = Ex (es.take (j + 1)) u) := ⟨λ u hu => by
     rw [HX.out.1 u, <- HF.out u hu]
     have : ¬ (t <= (u : Int) /\ (u : Int) - t < z) := by
      intro h
      omega
     simp [this]⟩
    clear hA hB HF HX
    go_wp2_with fail
    exact ⟨⟨j + 1, _, by omega, by go_num, HBq.out, HFn.out, HKq.out⟩, by simp only [intOf]; omega⟩
  ·have hjl' : ¬ (j : Int) < (len : Int) := by omega
   have HFe : Seal (∀ u, u < n -> f u = Ex es u) := ⟨λ u hu => by
    have := HF.out u hu
    rwa [List.take_of_length_le (by rw [HN.out]; omega)] at this⟩
   have HNc := sE (NextClear_at 0 n p q f wr HB.out)
   rw [Int.toNat_zero] at HNc
   have HGe : Seal (CY f n = L) := ⟨by rw [gapG_congr HFe.out]; exact HG.out⟩
   have hsp := Dj (λ u => !f u) n 0
   clear HF HFe HG HR HS HN hl e0 HB2 HK HK1 HK2 HBx
   go_wp2_with fail
   refine HNc.out.mono ?_
   rintro e w3 ⟨rfl, k3⟩
   have HB3 := sE (HB.out.keep k3 (λ h => h) (λ h => h))
   have HK3 := sE (KN.out.then' k3)
   clear k3 HB KN HNc
   obtain ⟨y11, y12, hy, hyv⟩ : ∃ y11 y12 : Value, Ez (Bd (λ u => !f u) n 0) = .tuple #[y11, y12] /\ ((∃ k, Bd (λ u => !f u) n 0 = some k /\ y11 = .int .i64 (k : Nat) /\ y12 = .bool true) \/ (Bd (λ u => !f u) n 0 = none /\ y11 = .int .i64 0 /\ y12 = .bool false)) := by
    cases Bd (λ u => !f u) n 0 with
    | none => exact ⟨_, _, rfl, .inr ⟨rfl, rfl, rfl⟩⟩
    | some k => exact ⟨_, _, rfl, .inl ⟨k, rfl, rfl, rfl⟩⟩
   rw [hy]
   have HYv := sE hyv
   clear hy hyv hsp
   go_wp2_with fail
   go_loopw [4, 11, 12, 13, 14] (λ x4 x11 x12 _ _ wr => ∃ c : Nat, c <= n /\ (c = 0 \/ n <= c \/ f c = true) /\ ((∃ k, Bd (λ u => !f u) n c = some k /\ x11 = .int .i64 (k : Nat) /\ x12 = .bool true) \/ (Bd (λ u => !f u) n c = none /\ x11 = .int .i64 0 /\ x12 = .bool false)) /\ wr.ownsRow w3.heap.size 68 2 x4 (CY f c).length (AV (CY f c)) /\ Keep Aa w3 wr) (λ _ x11 x12 _ _ _ => leftG n x11 x12)
   case atStart => exact ⟨0, Nat.zero_le _, .inl rfl, HYv.out, World.ownsRow_nil _ _ _ _, Keep.refl _ _⟩
   case round =>
    obtain ⟨c, hc, hc0, hy, ho, hk⟩ := hrel
    have HO := sE ho
    have HK := sE hk
    have HB4 := sE (HB3.out.keep hk (λ h => h) (λ h => h))
    have hzr := hk.size
    clear ho hk
    rcases hy with ⟨a, hn, rfl, rfl⟩ | ⟨hn, rfl, rfl⟩
    ·obtain ⟨hca, han, hfa, hall⟩ : c <= a /\ a < n /\ f a = false /\ ∀ u, c <= u -> u < a -> f u = true := by
      rcases Dj (λ u => !f u) n c with ⟨j, e1, e2, e3, e4, e5⟩ | ⟨e1, -⟩
      ·rw [hn] at e1
       injection e1 with e1
       subst e1
       exact ⟨e2, e3, by simpa using e4, λ u q1 q2 => by simpa using e5 u q1 q2⟩
      ·rw [hn] at e1
       cases e1
     have hgA : CY f a = CY f c := gapG_full hca hall
     have hoA : EL f a = false := by
      cases a with
      | zero => rfl
      | succ b =>
       by_cases hcb : c <= b
       ·simp [EL, hall b hcb (by omega)]
       ·have : c = b + 1 := by omega
        subst this
        rcases hc0 with h | h | h
        ·omega
        ·omega
        ·rw [hfa] at h
         cases h
     have HNx := sE (Next_at (a : Nat) n p q f wr HB4.out)
     rw [Int.toNat_natCast] at HNx
     rcases Dj f n a with ⟨z, hz, hz1', hz2', hz3, hall2⟩ | ⟨hz, hall2⟩
     ·have hne2 : a < z := by
       rcases Nat.lt_or_ge a z with h | h
       ·exact h
       ·have : z = a := by omega
        subst this
        rw [hfa] at hz3
        cases hz3
      have HO2 := sE hz
      clear hz
      have hE : CY f z = CY f c ++ [(a, z - a)] := by
       rw [<- hgA]
       exact gapG_run hoA hne2 (λ u q1 q2 => hall2 u q1 q2)
      have hEc : z = 0 \/ n <= z \/ f z = true := .inr (.inr hz3)
      have HE := sE (And.intro hE hEc)
      have hql := gapG_len f c
      obtain ⟨Q, hQ⟩ : ∃ Q, CY f c = Q := ⟨_, rfl⟩
      rw [hQ] at HO HE hql
      obtain ⟨ql, hqe⟩ : ∃ ql, Q.length = ql := ⟨_, rfl⟩
      rw [hqe] at HO hql
      have HQl := sE hqe
      obtain ⟨qa, qc, rfl⟩ := AA HO.out
      have hsub : (z : Int) - (a : Int) = ((z - a : Nat) : Int) := by omega
      have hk9 : ∀ w9, Keep Aa w3 w9 -> Calls Tryz.prog 26 #[.pointer (some ⟨p, 0, none⟩), .int .i64 (z : Nat)] w9 λ e w' => e = .returned (Ez (Bd (λ u => !f u) n z)) /\ Keep Aa w9 w' := λ w9 k9 => by
       have := NextClear_at (z : Nat) n p q f w9 (HB3.out.keep k9 (λ h => h) (λ h => h))
       rwa [Int.toNat_natCast] at this
      have HK9 := sE hk9
      have hEn : z <= n := by omega
      clear hk9 hE hEc hQ hqe hn hgA hoA hall hfa hall2 hc0
      go_wp2_with fail
      refine HNx.out.mono ?_
      rintro e w5 ⟨rfl, k5⟩
      have HO5 := sE (Ai HO.out k5 (λ _ _ h => h))
      have HK5 := sE (HK.out.then' k5)
      have hz5 := k5.size
      rw [HO2.out]
      dsimp only [Ez, Option.getD_some, Option.getD_none, Option.isSome_some, Option.isSome_none]
      clear k5 HNx
      go_wp2_with (at_builtin; obtain ⟨i0, hi, hz0, hz1, hz2⟩ := info_parts Tryz.EO; go_loud (refine wpList_append_lies _ rfl (.tmp 74) (.tmp 80) 32 rfl w3.heap.size 68 i0 _ 2 16 Tryz.Bt hi hz0 hz1 hz2 rfl (by omega) (.slice qa ql qc) ql (AV Q) rfl (HO5.out.alloc _) ⟨w5.heap.size, 0, none⟩ 1 1 [.int .i64 (a : Nat), .int .i64 (z - a : Nat)] rfl rfl (World.news_of_block (World.alloc_heap_new w5 _)) (by intro u hu; simp at hu; rcases hu with rfl | rfl <;> rfl) (by omega) (by unfold maxLen; omega) (by omega) (by first | (simp; done) | (simp; omega)) (w5.heap.size + 1) (by simp) ?_); intro gn capn w7 hown7 hgrow hat hlt; clear hi hz0 hz1 hz2; have HR7 := sE hown7; have HG7 := sE hgrow; clear hown7 hgrow hat hlt)
      have HK7 : Seal (Keep Aa w3 w7) := ⟨(HK5.out.alloc _).grown HG7.out (λ k e hk => by have := (Ah HO5.out e).1; omega)⟩
      refine (HK9.out w7 HK7.out).mono ?_
      rintro e w8 ⟨rfl, k8⟩
      have HK8 := sE (HK7.out.then' k8)
      have HR8 := sE (Ai HR7.out k8 (λ _ _ h => h))
      clear k8 HG7
      have hlb := nextB_left f n z a
      obtain ⟨y11, y12, hy, hyv⟩ : ∃ y11 y12 : Value, Ez (Bd (λ u => !f u) n z) = .tuple #[y11, y12] /\ ((∃ k, Bd (λ u => !f u) n z = some k /\ y11 = .int .i64 (k : Nat) /\ y12 = .bool true) \/ (Bd (λ u => !f u) n z = none /\ y11 = .int .i64 0 /\ y12 = .bool false)) := by
       cases Bd (λ u => !f u) n z with
       | none => exact ⟨_, _, rfl, .inr ⟨rfl, rfl, rfl⟩⟩
       | some k => exact ⟨_, _, rfl, .inl ⟨k, rfl, rfl, rfl⟩⟩
      rw [hy]
      have HLb := sE (hlb hne2 han _ _ hyv)
      have HYv := sE hyv
      clear hy hyv hlb
      go_wp2_with fail
      refine ⟨⟨z, hEn, HE.out.2, HYv.out, ?_, HK8.out⟩, HLb.out⟩
      rw [HE.out.1, CV, List.length_append, HQl.out]
      exact HR8.out
     ·have hne2 : True := trivial
      have HO2 := sE hz
      clear hz
      have hE : CY f n = CY f c ++ [(a, n - a)] := by
       rw [<- hgA]
       exact gapG_run hoA han (λ u q1 q2 => hall2 u q1 q2)
      have hEc : n = 0 \/ n <= n \/ f n = true := .inr (.inl (Nat.le_refl _))
      have HE := sE (And.intro hE hEc)
      have hql := gapG_len f c
      obtain ⟨Q, hQ⟩ : ∃ Q, CY f c = Q := ⟨_, rfl⟩
      rw [hQ] at HO HE hql
      obtain ⟨ql, hqe⟩ : ∃ ql, Q.length = ql := ⟨_, rfl⟩
      rw [hqe] at HO hql
      have HQl := sE hqe
      obtain ⟨qa, qc, rfl⟩ := AA HO.out
      have hsub : (n : Int) - (a : Int) = ((n - a : Nat) : Int) := by omega
      have hk9 : ∀ w9, Keep Aa w3 w9 -> Calls Tryz.prog 26 #[.pointer (some ⟨p, 0, none⟩), .int .i64 (n : Nat)] w9 λ e w' => e = .returned (Ez (Bd (λ u => !f u) n n)) /\ Keep Aa w9 w' := λ w9 k9 => by
       have := NextClear_at (n : Nat) n p q f w9 (HB3.out.keep k9 (λ h => h) (λ h => h))
       rwa [Int.toNat_natCast] at this
      have HK9 := sE hk9
      have hEn : n <= n := by omega
      clear hk9 hE hEc hQ hqe hn hgA hoA hall hfa hall2 hc0
      go_wp2_with fail
      refine HNx.out.mono ?_
      rintro e w5 ⟨rfl, k5⟩
      have HO5 := sE (Ai HO.out k5 (λ _ _ h => h))
      have HK5 := sE (HK.out.then' k5)
      have hz5 := k5.size
      rw [HO2.out]
      dsimp only [Ez, Option.getD_some, Option.getD_none, Option.isSome_some, Option.isSome_none]
      clear k5 HNx
      go_wp2_with (at_builtin; obtain ⟨i0, hi, hz0, hz1, hz2⟩ := info_parts Tryz.EO; go_loud (refine wpList_append_lies _ rfl (.tmp 74) (.tmp 80) 32 rfl w3.heap.size 68 i0 _ 2 16 Tryz.Bt hi hz0 hz1 hz2 rfl (by omega) (.slice qa ql qc) ql (AV Q) rfl (HO5.out.alloc _) ⟨w5.heap.size, 0, none⟩ 1 1 [.int .i64 (a : Nat), .int .i64 (n - a : Nat)] rfl rfl (World.news_of_block (World.alloc_heap_new w5 _)) (by intro u hu; simp at hu; rcases hu with rfl | rfl <;> rfl) (by omega) (by unfold maxLen; omega) (by omega) (by first | (simp; done) | (simp; omega)) (w5.heap.size + 1) (by simp) ?_); intro gn capn w7 hown7 hgrow hat hlt; clear hi hz0 hz1 hz2; have HR7 := sE hown7; have HG7 := sE hgrow; clear hown7 hgrow hat hlt)
      have HK7 : Seal (Keep Aa w3 w7) := ⟨(HK5.out.alloc _).grown HG7.out (λ k e hk => by have := (Ah HO5.out e).1; omega)⟩
      refine (HK9.out w7 HK7.out).mono ?_
      rintro e w8 ⟨rfl, k8⟩
      have HK8 := sE (HK7.out.then' k8)
      have HR8 := sE (Ai HR7.out k8 (λ _ _ h => h))
      clear k8 HG7
      have hlb := nextB_left f n n a
      obtain ⟨y11, y12, hy, hyv⟩ : ∃ y11 y12 : Value, Ez (Bd (λ u => !f u) n n) = .tuple #[y11, y12] /\ ((∃ k, Bd (λ u => !f u) n n = some k /\ y11 = .int .i64 (k : Nat) /\ y12 = .bool true) \/ (Bd (λ u => !f u) n n = none /\ y11 = .int .i64 0 /\ y12 = .bool false)) := by
       cases Bd (λ u => !f u) n n with
       | none => exact ⟨_, _, rfl, .inr ⟨rfl, rfl, rfl⟩⟩
       | some k => exact ⟨_, _, rfl, .inl ⟨k, rfl, rfl, rfl⟩⟩
      rw [hy]
      have HLb := sE (hlb han han _ _ hyv)
      have HYv := sE hyv
      clear hy hyv hlb
      go_wp2_with fail
      refine ⟨⟨n, hEn, HE.out.2, HYv.out, ?_, HK8.out⟩, HLb.out⟩
      rw [HE.out.1, CV, List.length_append, HQl.out]
      exact HR8.out
    ·have hall : ∀ u, c <= u -> u < n -> f u = true := by
      rcases Dj (λ u => !f u) n c with ⟨j, e1, -⟩ | ⟨-, e5⟩
      ·rw [hn] at e1
       cases e1
      ·exact λ u q1 q2 => by simpa using e5 u q1 q2
     have hgE : L = CY f c := by rw [<- HGe.out]; exact gapG_full hc hall
     have HgE := sE hgE
     have hw3 := HK3.out.size
     clear hgE hall hn hc0
     go_wp2_with fail
     exact bodyPost_ret (v := u4) (by simp [results, Tryz.results11, go_sem]) rfl ⟨u4, rfl, by rw [HgE.out]; exact Br HO.out hw3, HK3.out.then' HK.out⟩

end Go.Proofs.YtlmdkfbibpkjgaaGreatDoor
