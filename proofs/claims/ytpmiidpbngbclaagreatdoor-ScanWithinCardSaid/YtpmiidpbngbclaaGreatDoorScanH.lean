/-
  scan: Same of the document, Precise.
  scan: Precise.
-/
import Derived.Test.YtpmiidpbngbclaaGreatDoorScanG
import Derived.Test.YtpmiidpbngbclaaGreatDoorFindAl
namespace Go.Proofs.YtpmiidpbngbclaaGreatDoor
open Go.RowKit
set_option linter.unusedVariables false

/-- The value v is a row of ints. -/
def IntsIn (w : World) (v : Value) (xs : List Int) : Prop := IntsAt 1 w v xs.length (fun i _ => xs.getD i 0)

theorem IntsIn.keepN {w w' : World} {v : Value} {xs : List Int} (h : IntsIn w v xs) (k : Keep Nope w w') : IntsIn w' v xs := IntsAt.keep h k (fun _ _ h => h)

theorem ints_of_owns {w : World} {base : Nat} {v : Value} {xs : List Int} (h : w.ownsRow base 3 1 v xs.length (intVs xs)) (hr : ∀ x ∈ xs, -9223372036854775808 ≤ x ∧ x ≤ 9223372036854775807) : IntsIn w v xs := by
  rcases h.2 with ⟨rfl, h0⟩ | ⟨g, cap, cur, rfl, g2, g3, g4, g5, g6, g7⟩
  · exact ⟨none, 0, by rw [h0], fun i hi => by omega⟩
  · refine ⟨some ⟨g, 0, none⟩, cap, rfl, fun i hi => ⟨g, 0, rfl, lt_of_heap g3, fun j hj => ?_⟩⟩
    obtain rfl : j = 0 := by omega
    have hx : xs[i]? = some xs[i] := List.getElem?_eq_getElem hi
    refine ⟨?_, ?_⟩
    · have : cur.toList[i]? = some (.int .i64 xs[i]) := by
        rw [← List.getElem?_take_of_lt (j := xs.length * 1) (by omega), g7, intVs, List.getElem?_map, hx]
        rfl
      rw [show 0 + (i * 1 + 0) = i by omega]
      simp only [World.cell?, g3]
      rw [show xs.getD i 0 = xs[i] by simp [List.getD, hx], ← this]
      simp
    · dsimp only
      rw [show xs.getD i 0 = xs[i] by simp [List.getD, hx]]
      exact hr _ (List.getElem_mem hi)

theorem ints_one {w : World} {b cap : Nat} {x : Int} (h : w.heap[b]? = some (.cells #[.int .i64 x] 3 (0, 0))) (hr : -9223372036854775808 ≤ x ∧ x ≤ 9223372036854775807) : IntsIn w (.slice (some ⟨b, 0, none⟩) 1 cap) [x] :=
  ⟨_, _, rfl, fun i hi => ⟨b, 0, rfl, lt_of_heap h, fun j hj => by
    simp at hi
    obtain rfl : i = 0 := by omega
    obtain rfl : j = 0 := by omega
    exact ⟨by simp [World.cell?, h], by simpa using hr⟩⟩⟩

theorem ints_nil (w : World) : IntsIn w (.slice none 0 0) [] := ⟨none, 0, rfl, fun i hi => by simp at hi⟩

theorem sameB_iff (xs ys : List Int) : SameB xs.length ys.length (fun i _ => xs.getD i 0) (fun i _ => ys.getD i 0) = decide (xs = ys) := by
  unfold SameB
  by_cases h : xs = ys
  · subst h
    simp
  · rw [decide_eq_false h, decide_eq_false]
    rintro ⟨h1, h2⟩
    refine h (List.ext_getElem h1 fun i a b => ?_)
    have := h2 i a
    simpa [List.getD, List.getElem?_eq_getElem a, List.getElem?_eq_getElem b] using this

theorem SameInts_any {xs ys : List Int} {v u : Value} {w : World} (hv : IntsIn w v xs) (hu : IntsIn w u ys) (hl : xs.length ≤ 9223372036854775806) :
    Calls Tryz.prog 34 #[v, u] w fun e w' => e = .returned (.bool (decide (xs = ys))) ∧ Keep Nope w w' := by
  have := SameInts_at _ _ _ _ v u w hv hu hl
  rwa [sameB_iff] at this

theorem SameInts_yes {xs : List Int} {v u : Value} {w : World} (hv : IntsIn w v xs) (hu : IntsIn w u xs) (hl : xs.length ≤ 9223372036854775806) :
    Calls Tryz.prog 34 #[v, u] w fun e w' => e = .returned (.bool true) ∧ Keep Nope w w' := by
  have := SameInts_any hv hu hl
  rwa [decide_eq_true rfl] at this

theorem ints_slice {w : World} {v : Value} {xs : List Int} (h : IntsIn w v xs) : ∃ a c, v = .slice a xs.length c := by
  obtain ⟨a, c, h, -⟩ := h
  exact ⟨a, c, h⟩

set_option maxHeartbeats 2000000 in
theorem ScanSame_yes {ps hs : List Int} {p h p' h' : Value} {l : Int} {w : World} (h1 : IntsIn w p ps) (h2 : IntsIn w h hs) (h3 : IntsIn w p' ps) (h4 : IntsIn w h' hs) (hl : ps.length ≤ 65536) (hl2 : hs.length ≤ 65536) :
    Calls Tryz.prog 43 #[.agg #[p, h, .int .i64 l], .agg #[p', h', .int .i64 l]] w fun e w' => e = .returned (.bool true) ∧ Keep Nope w w' := by
  obtain ⟨pa, pc, hp⟩ := ints_slice h1
  obtain ⟨ha, hc, hh⟩ := ints_slice h2
  obtain ⟨pa', pc', hp'⟩ := ints_slice h3
  obtain ⟨ha', hc', hh'⟩ := ints_slice h4
  obtain ⟨np, hnp⟩ : ∃ n, ps.length = n := ⟨_, rfl⟩
  obtain ⟨nh, hnh⟩ : ∃ n, hs.length = n := ⟨_, rfl⟩
  rw [hnp] at hp hp'
  rw [hnh] at hh hh'
  have HA : Seal (∀ W', Keep Nope w W' → Calls Tryz.prog 34 #[p, p'] W' fun e w' => e = .returned (.bool true) ∧ Keep Nope W' w') := ⟨fun W' kk => SameInts_yes (h1.keepN kk) (h3.keepN kk) (by omega)⟩
  have HB : Seal (∀ W', Keep Nope w W' → Calls Tryz.prog 34 #[h, h'] W' fun e w' => e = .returned (.bool true) ∧ Keep Nope W' w') := ⟨fun W' kk => SameInts_yes (h2.keepN kk) (h4.keepN kk) (by omega)⟩
  subst hp hh hp' hh'
  obtain ⟨w2, hw2⟩ : ∃ w2, w2 = (w.alloc (.cells #[.slice pa np pc, .slice ha nh hc, .int .i64 l] 89)).alloc (.cells #[.slice pa' np pc', .slice ha' nh hc', .int .i64 l] 89) := ⟨_, rfl⟩
  have k2 : Keep Nope w w2 := by rw [hw2]; exact ((Keep.refl _ w).alloc _).alloc _
  have b0 : w2.heap[w.heap.size]? = some (.cells #[.slice pa np pc, .slice ha nh hc, .int .i64 l] 89 (0, 0)) := by rw [hw2]; exact ((Keep.refl Nope _).alloc _).at_ (World.alloc_heap_new w _) (fun h => h)
  have b1 : w2.heap[w.heap.size + 1]? = some (.cells #[.slice pa' np pc', .slice ha' nh hc', .int .i64 l] 89 (0, 0)) := by
    rw [hw2]
    have := World.alloc_heap_new (w.alloc (.cells #[.slice pa np pc, .slice ha nh hc, .int .i64 l] 89)) (.cells #[.slice pa' np pc', .slice ha' nh hc', .int .i64 l] 89)
    rwa [show (w.alloc (.cells #[.slice pa np pc, .slice ha nh hc, .int .i64 l] 89)).heap.size = w.heap.size + 1 by simp] at this
  obtain ⟨c0, c1, c2⟩ := scan_cells b0
  obtain ⟨d0, d1, d2⟩ := scan_cells b1
  have HK2 : Seal _ := ⟨k2⟩
  have q1 : (l == l) = true := by simp
  clear h1 h2 h3 h4 k2 b0 b1 hnp hnh hl hl2
  go_enter Tryz.func43, Tryz.ntmps43
  go_wp2_with fail
  rw [← hw2]
  clear hw2
  go_wp2_with fail
  refine (HA.out _ HK2.out).mono ?_
  rintro e w3 ⟨rfl, k3⟩
  replace c1 := k3.cell c1 (fun h => h)
  replace c2 := k3.cell c2 (fun h => h)
  replace d1 := k3.cell d1 (fun h => h)
  replace d2 := k3.cell d2 (fun h => h)
  have HK3 : Seal _ := ⟨HK2.out.then' k3⟩
  clear c0 d0 k3
  go_wp2_with fail
  refine (HB.out _ HK3.out).mono ?_
  rintro e w4 ⟨rfl, k4⟩
  replace c2 := k4.cell c2 (fun h => h)
  replace d2 := k4.cell d2 (fun h => h)
  have HK4 : Seal _ := ⟨HK3.out.then' k4⟩
  clear c1 d1 k4
  go_wp2
  go_ret
  exact ⟨rfl, HK4.out⟩

theorem SAddr_at (g : Nat) (w : World) (hg : g ≤ 65536) : Calls Tryz.prog 86 #[.int .i64 (g : Nat)] w fun e w' => e = .returned (.int .u64 ((1048576 + 2 * g : Nat) : Int)) ∧ w' = w := by
  have h0 : ¬ (g : Int) < 0 := by omega
  have hw1 : IntKind.u64.wrap (g : Int) = (g : Int) := by rw [IntKind.wrap_u64]; omega
  have hw2 : IntKind.u64.wrap (2 * (g : Int)) = 2 * (g : Int) := by rw [IntKind.wrap_u64]; omega
  have hw3 : IntKind.u64.wrap (1048576 + 2 * (g : Int)) = 1048576 + 2 * (g : Int) := by rw [IntKind.wrap_u64]; omega
  go_enter Tryz.func86, Tryz.ntmps86
  go_wp2
  go_ret
  exact ⟨by go_num, rfl⟩

/-- The object that has an address. -/
def ofW (n : Nat) (cs : List Cel) (y : Nat) : Option Nat :=
  if wordIn n y then (match celHas cs ((y - 1048576) / 2) with | some c => if c.tag = 1 then some c.g else none | none => none) else none

theorem FOf_any (y : Nat) (P : Sp) (W : Nat → Nat) (f : Nat → Bool) (cs : List Cel) (w : World) (hsp : SpaceAt w P W f) (hc : CellsAt P W cs) (hst : ∀ i, i < P.n / 2 → f i = startOf cs i) (hy : y < 18446744073709551616) :
    Calls Tryz.prog 46 #[.pointer (some ⟨P.s, 0, none⟩), .int .u64 (y : Nat)] w fun e w' => e = .returned (.tuple #[.int .i64 (((ofW P.n cs y).getD 0 : Nat) : Int), .bool (ofW P.n cs y).isSome]) ∧ Keep Nope w w' := by
  have hsm := hsp.ar.small
  have hev := hsp.ev
  by_cases hin : wordIn P.n y
  · have hin' := hin
    unfold wordIn at hin'
    obtain ⟨k, hk⟩ : ∃ k, y - 1048576 = k := ⟨_, rfl⟩
    obtain rfl : y = 1048576 + k := by omega
    obtain ⟨pre, c, post, rfl, hg1, hg2, -⟩ := cell_split (g := k / 2) hc.tl (by omega) (by omega)
    have hO := FOf_at k c pre post P W f w hsp hc hst (by omega) (by omega)
    have hco := celHas_at hc.tl hg1 hg2
    unfold FOfPost at hO
    unfold ofW
    rw [if_pos hin, hk, hco]
    dsimp only
    by_cases ht : c.tag = 1
    · rw [if_pos ht, show (c.tag == 1) = true by simp [ht]] at hO
      rw [if_pos ht]
      exact hO
    · rw [if_neg ht, show (c.tag == 1) = false by simp [ht]] at hO
      rw [if_neg ht]
      exact hO
  · unfold ofW
    rw [if_neg hin]
    exact FOf_out y P W f w hsp hin hy

/-- Whether a reference is precise, and where it leads. -/
def preL (n : Nat) (cs : List Cel) (y : Nat) : List Int := match ofW n cs y with | some g => if y = 1048576 + 2 * g then [(g : Int)] else [] | none => []

def preOk (n : Nat) (cs : List Cel) (y : Nat) : Prop := y = 0 ∨ ∃ g, ofW n cs y = some g ∧ y = 1048576 + 2 * g

def preLL (n : Nat) (cs : List Cel) (ys : Nat → Nat) (j : Nat) : List Int := (List.range j).flatMap fun i => preL n cs (ys i)

theorem preLL_succ (n : Nat) (cs : List Cel) (ys : Nat → Nat) (j : Nat) : preLL n cs ys (j + 1) = preLL n cs ys j ++ preL n cs (ys j) := by
  simp [preLL, List.range_succ]

theorem preL_len (n : Nat) (cs : List Cel) (y : Nat) : (preL n cs y).length ≤ 1 := by
  unfold preL
  split
  · split <;> simp
  · simp

theorem preLL_len (n : Nat) (cs : List Cel) (ys : Nat → Nat) : ∀ j, (preLL n cs ys j).length ≤ j
  | 0 => by simp [preLL]
  | j + 1 => by
    rw [preLL_succ, List.length_append]
    have := preLL_len n cs ys j
    have := preL_len n cs (ys j)
    omega

theorem preL_zero (n : Nat) (cs : List Cel) : preL n cs 0 = [] := by
  have h : ¬ wordIn n 0 := by unfold wordIn; omega
  unfold preL ofW
  rw [if_neg h]

end Go.Proofs.YtpmiidpbngbclaaGreatDoor

namespace Go.Proofs.YtpmiidpbngbclaaGreatDoor
open Go.RowKit
set_option linter.unusedVariables false

theorem Precise_nil (w : World) (v : Value) : Calls Tryz.prog 42 #[.pointer none, v] w fun e w' => e = .returned (.tuple #[.slice none 0 0, .int .i64 1]) ∧ Keep Nope w w' := by
  go_enter Tryz.func42, Tryz.ntmps42
  go_wp2
  go_ret2
  exact ⟨rfl, Keep.refl _ _⟩

/-- What Precise answers. -/
def PrePost (n : Nat) (cs : List Cel) (ys : Nat → Nat) (m : Nat) (w : World) (e : Ending) (w' : World) : Prop :=
  Keep Nope w w' ∧ (((∀ i, i < m → preOk n cs (ys i)) ∧ ∃ v, e = .returned (.tuple #[v, .int .i64 0]) ∧ w'.ownsRow w.heap.size 3 1 v (riseL (preLL n cs ys m)).length (intVs (riseL (preLL n cs ys m)))) ∨
    ((∃ i, i < m ∧ ¬ preOk n cs (ys i)) ∧ e = .returned (.tuple #[.slice none 0 0, .int .i64 8])))

theorem ofW_le {P : Sp} {W : Nat → Nat} {cs : List Cel} {y g : Nat} (hc : CellsAt P W cs) (h : ofW P.n cs y = some g) : g ≤ P.n / 2 := by
  unfold ofW at h
  split at h
  · split at h
    · rename_i c hco
      split at h
      · injection h with h
        unfold celHas at hco
        have := hc.tl.mem (List.mem_of_find?_eq_some hco)
        omega
      · cases h
    · cases h
  · cases h

set_option maxHeartbeats 4000000 in
theorem Precise_at (P : Sp) (W : Nat → Nat) (f : Nat → Bool) (cs : List Cel) (v : Value) (m : Nat) (ys : Nat → Nat) (w : World) (hsp : SpaceAt w P W f) (hc : CellsAt P W cs) (hst : ∀ i, i < P.n / 2 → f i = startOf cs i) (hv : WordArg w v m ys) (hm : m ≤ 65535) :
    Calls Tryz.prog 42 #[.pointer (some ⟨P.s, 0, none⟩), v] w (PrePost P.n cs ys m w) := by
  have hsm := hsp.ar.small
  have HSp : Seal _ := ⟨hsp⟩
  have HC : Seal _ := ⟨hc⟩
  have HSt : Seal _ := ⟨hst⟩
  have HOf : Seal (∀ (y : Nat) W', y < 18446744073709551616 → Keep Nope w W' → Calls Tryz.prog 46 #[.pointer (some ⟨P.s, 0, none⟩), .int .u64 (y : Nat)] W' fun e w' => e = .returned (.tuple #[.int .i64 (((ofW P.n cs y).getD 0 : Nat) : Int), .bool (ofW P.n cs y).isSome]) ∧ Keep Nope W' w') := ⟨fun y W' hy kk => FOf_any y P W f cs W' (hsp.keepN kk) hc hst hy⟩
  have HLe : Seal (∀ y g, ofW P.n cs y = some g → g ≤ 65536) := ⟨fun y g h => by have := ofW_le hc h; omega⟩
  obtain ⟨va, vc, rfl, hwd⟩ := hv
  have HWd : Seal _ := ⟨hwd⟩
  clear hsp hc hst hwd hsm
  go_enter Tryz.func42, Tryz.ntmps42
  go_wp2_with fail
  obtain ⟨B, hB⟩ : ∃ B, w.heap.size = B := ⟨_, rfl⟩
  have HBw : Seal _ := ⟨hB⟩
  go_loopw [4, 7, 8, 9, 14] (fun x4 _ _ _ x14 wr => ∃ j : Nat, j ≤ m ∧ x14 = .int .i64 (j : Nat) ∧ (∃ a n c, x4 = .slice a n c) ∧ wr.ownsRow B 3 1 x4 (preLL P.n cs ys j).length (intVs (preLL P.n cs ys j)) ∧ Seal (∀ i, i < j → preOk P.n cs (ys i)) ∧ Keep Nope w wr ∧ B ≤ wr.heap.size) (fun _ _ _ _ x14 _ => m - (intOf x14).toNat)
  case atStart => exact ⟨0, by omega, rfl, ⟨_, _, _, rfl⟩, World.ownsRow_nil _ _ _ _, ⟨fun i hi => by omega⟩, Keep.refl _ _, by omega⟩
  case round =>
    obtain ⟨j, hj, rfl, ⟨la, ln, lc, rfl⟩, ho, HOk, hk, hsz⟩ := hrel
    have HO : Seal _ := ⟨ho⟩
    have HK : Seal _ := ⟨hk⟩
    by_cases hjl : j < m
    · have hjl' : (j : Int) < (m : Int) := by omega
      obtain ⟨b, o, rfl, hcell, hys⟩ := HWd.out j hjl
      replace hcell := hk.cell hcell (fun h => h)
      obtain ⟨y, hy⟩ : ∃ y, ys j = y := ⟨_, rfl⟩
      have HY : Seal _ := ⟨hy⟩
      rw [hy] at hcell hys
      clear ho hk hB hy
      by_cases h0 : y = 0
      · have p0 : ((y : Int) == 0) = true := by simp [h0]
        have HOk2 : Seal (∀ i, i < j + 1 → preOk P.n cs (ys i)) := ⟨fun i hi => by
          by_cases e : i = j
          · subst e
            exact .inl (by rw [HY.out, h0])
          · exact HOk.out i (by omega)⟩
        have HE : Seal (preLL P.n cs ys (j + 1) = preLL P.n cs ys j) := ⟨by rw [preLL_succ, HY.out, h0, preL_zero, List.append_nil]⟩
        clear h0
        go_wp2
        exact ⟨⟨j + 1, by omega, by go_num, ⟨_, _, _, rfl⟩, by rw [HE.out]; exact HO.out, HOk2, HK.out, hsz⟩, by simp only [intOf]; omega⟩
      · have p0 : ((y : Int) == 0) = false := by simp; omega
        have HOy : Seal _ := ⟨HOf.out y wr hys HK.out⟩
        cases hof : ofW P.n cs y with
        | none =>
          rw [hof] at HOy
          have HNo : Seal (∃ i, i < m ∧ ¬ preOk P.n cs (ys i)) := ⟨⟨j, hjl, by
            rw [HY.out]
            rintro (h | ⟨g, h, -⟩)
            · exact h0 h
            · rw [hof] at h; cases h⟩⟩
          clear h0 hof
          go_wp2_with fail
          refine HOy.out.mono ?_
          rintro e w3 ⟨rfl, k3⟩
          have HK3 : Seal _ := ⟨HK.out.then' k3⟩
          clear k3
          go_wp2
          go_ret2
          exact ⟨HK3.out, .inr ⟨HNo.out, rfl⟩⟩
        | some g =>
          rw [hof] at HOy
          have hg := HLe.out y g hof
          have HAd : Seal (∀ W', Calls Tryz.prog 86 #[.int .i64 (g : Nat)] W' fun e w' => e = .returned (.int .u64 ((1048576 + 2 * g : Nat) : Int)) ∧ w' = W') := ⟨fun W' => SAddr_at g W' hg⟩
          obtain ⟨q, hq⟩ : ∃ q, 1048576 + 2 * g = q := ⟨_, rfl⟩
          rw [hq] at HAd
          by_cases he : y = q
          · have p1 : ((q : Int) != (y : Int)) = false := by simp [he]
            have HOk2 : Seal (∀ i, i < j + 1 → preOk P.n cs (ys i)) := ⟨fun i hi => by
              by_cases e : i = j
              · subst e
                exact .inr ⟨g, by rw [HY.out]; exact hof, by rw [HY.out, hq, he]⟩
              · exact HOk.out i (by omega)⟩
            have HE : Seal (preLL P.n cs ys (j + 1) = preLL P.n cs ys j ++ [(g : Int)]) := ⟨by rw [preLL_succ, HY.out, preL, hof]; dsimp only; rw [if_pos (by rw [he, hq])]⟩
            have HLn : Seal ((preLL P.n cs ys j).length ≤ 65536) := ⟨by have := preLL_len P.n cs ys j; omega⟩
            clear h0 hof he hq
            go_wp2_with fail
            refine HOy.out.mono ?_
            rintro e w3 ⟨rfl, k3⟩
            have HK3 : Seal _ := ⟨HK.out.then' k3⟩
            have HR3 : Seal _ := ⟨ownsRow_keep HO.out k3 (fun _ _ h => h)⟩
            have hz3 := k3.size
            clear k3
            go_wp2_with fail
            refine (HAd.out _).mono ?_
            rintro e w4 ⟨rfl, rfl⟩
            go_wp2_with (at_builtin; obtain ⟨i0, hi, hz0, hz1, hz2⟩ := info_parts Tryz.infoInt; go_loud (refine wpList_append_lies _ rfl (.tmp 34) (.tmp 36) 33 rfl B 3 i0 _ 1 8 Tryz.underlyingInts hi hz0 hz1 hz2 rfl (by omega) (.slice la ln lc) (preLL P.n cs ys j).length (intVs (preLL P.n cs ys j)) rfl (HR3.out.alloc _) ⟨w4.heap.size, 0, none⟩ 1 1 [.int .i64 (g : Nat)] rfl rfl (World.news_of_block (World.alloc_heap_new w4 _)) (by intro u hu; simp at hu; subst hu; rfl) (by omega) (by have := HLn.out; unfold maxLen; omega) (by have := HLn.out; omega) (by simp; omega) (w4.heap.size + 1) (by simp) ?_); intro gn capn w5 hown5 hgrow hat hlt; clear hi hz0 hz1 hz2; have HGr : Seal _ := ⟨hgrow⟩; have HR5 : Seal _ := ⟨hown5⟩; clear hown5 hgrow hat)
            have k5 : Keep (fun k => B ≤ k) w4 w5 := ((Keep.refl Nope w4).alloc (.cells #[.int .i64 (g : Nat)] 3) |>.of_not _).grown HGr.out (fun k e _ => (ownsRow_block HR3.out e).1)
            have hR : w5.ownsRow B 3 1 (.slice (some ⟨gn, 0, none⟩) ((preLL P.n cs ys j).length + 1) capn) (preLL P.n cs ys (j + 1)).length (intVs (preLL P.n cs ys (j + 1))) := by
              have := HR5.out
              rw [HE.out, intVs, List.map_append, List.length_append]
              exact this
            have hz5 := k5.size
            exact ⟨⟨j + 1, by omega, by go_num, ⟨_, _, _, rfl⟩, hR, HOk2, ((HK3.out.of_not (fun k => B ≤ k)).trans k5 (fun _ _ h => h)).mono (fun i hi h => by have := HBw.out; omega), by omega⟩, by simp only [intOf]; omega⟩
          · have p1 : ((q : Int) != (y : Int)) = true := by simp; omega
            have HNo : Seal (∃ i, i < m ∧ ¬ preOk P.n cs (ys i)) := ⟨⟨j, hjl, by
              rw [HY.out]
              rintro (h | ⟨g', h, h'⟩)
              · exact h0 h
              · rw [hof] at h
                injection h with h
                subst h
                exact he (by rw [h', hq])⟩⟩
            clear h0 hof he hq
            go_wp2_with fail
            refine HOy.out.mono ?_
            rintro e w3 ⟨rfl, k3⟩
            have HK3 : Seal _ := ⟨HK.out.then' k3⟩
            clear k3
            go_wp2_with fail
            refine (HAd.out _).mono ?_
            rintro e w4 ⟨rfl, rfl⟩
            go_wp2
            go_ret2
            exact ⟨HK3.out, .inr ⟨HNo.out, rfl⟩⟩
    · obtain rfl : j = m := by omega
      have HRi : Seal _ := ⟨Rise_row B (.slice la ln lc) (preLL P.n cs ys j) wr HO.out (by have := preLL_len P.n cs ys j; omega)⟩
      clear ho hk hB
      go_wp2_with fail
      refine HRi.out.mono ?_
      rintro e w3 ⟨v', rfl, o3, -, k3⟩
      have K3 : Keep Nope w w3 := ((HK.out.of_not (fun k => B ≤ k)).trans k3 (fun i _ h => (ownsRow_block HO.out h).1)).mono (fun i hi h => by have := HBw.out; omega)
      obtain ⟨p1, p2, p3, hpv⟩ := row_slice o3
      subst hpv
      have HR3 : Seal _ := ⟨o3⟩
      have HK3 : Seal _ := ⟨K3⟩
      clear o3 k3 K3
      go_wp2
      go_ret2
      refine ⟨HK3.out, .inl ⟨HOk.out, _, rfl, ?_⟩⟩
      rw [HBw.out]
      exact HR3.out

end Go.Proofs.YtpmiidpbngbclaaGreatDoor
