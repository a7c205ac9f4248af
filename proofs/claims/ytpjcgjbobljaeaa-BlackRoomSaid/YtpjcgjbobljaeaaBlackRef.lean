/-
  The document's row of ages, walked: New, Has.
-/
import Derived.Test.YtpjcgjbobljaeaaBlackFirst
import Derived.Test.YtpjcgjbobljaeaaSteps
namespace Go.Proofs.Ytpjcgjbobljaeaa
open Go.RowKit
set_option linter.unusedVariables false

/-- A row of ages: n numbers L, its head at p, its cells at g. -/
structure LeftAt (w : World) (p g : Nat) (L : Nat → Nat) (n : Nat) : Prop where
  hp : ∃ cap, w.heap[p]? = some (.cells #[.slice (some ⟨g, 0, none⟩) n cap] 97 (0, 0))
  hg : ∃ cs, w.heap[g]? = some (.cells cs 3 (0, 0)) ∧ n ≤ cs.size ∧ ∀ j, j < n → cs[j]? = some (.int .i64 (L j : Nat))
  small : n ≤ 65536

theorem LeftAt.keep {S : Nat → Prop} {w w' : World} {p g n : Nat} {L : Nat → Nat} (h : LeftAt w p g L n) (k : Keep S w w') (hp : ¬ S p) (hg : ¬ S g) : LeftAt w' p g L n := by
  obtain ⟨cap, h1⟩ := h.hp
  obtain ⟨cs, h2, h3, h4⟩ := h.hg
  exact ⟨⟨cap, k.at_ h1 hp⟩, ⟨cs, k.at_ h2 hg, h3, h4⟩, h.small⟩

theorem LeftAt.lt_p {w : World} {p g n : Nat} {L : Nat → Nat} (h : LeftAt w p g L n) : p < w.heap.size := by obtain ⟨_, h⟩ := h.hp; exact lt_of_heap h

theorem LeftAt.lt_g {w : World} {p g n : Nat} {L : Nat → Nat} (h : LeftAt w p g L n) : g < w.heap.size := by obtain ⟨_, h, _⟩ := h.hg; exact lt_of_heap h

theorem LeftAt.head {w : World} {p g n : Nat} {L : Nat → Nat} (h : LeftAt w p g L n) : ∃ cap, w.cell? ⟨p, 0, none⟩ = some (.slice (some ⟨g, 0, none⟩) n cap) := by
  obtain ⟨cap, h1⟩ := h.hp
  exact ⟨cap, cell_of_one h1⟩

theorem LeftAt.ne {w : World} {p g n : Nat} {L : Nat → Nat} (h : LeftAt w p g L n) : p ≠ g := by
  obtain ⟨_, h1⟩ := h.hp
  obtain ⟨_, h2, _⟩ := h.hg
  intro e
  subst e
  rw [h1] at h2
  injection h2 with h2
  injection h2 with _ h3
  exact absurd h3 (by decide)

theorem LeftAt.at_ {w : World} {p g n : Nat} {L : Nat → Nat} (h : LeftAt w p g L n) {j : Nat} (hj : j < n) : w.cell? ⟨g, j, none⟩ = some (.int .i64 (L j : Nat)) := by
  obtain ⟨cs, h2, h3, h4⟩ := h.hg
  simp only [World.cell?, h2]
  exact h4 j hj

theorem LeftAt.free {w : World} {p g n : Nat} {L : Nat → Nat} (h : LeftAt w p g L n) (j : Nat) : w.frozen? ⟨g, j, none⟩ = false := by
  obtain ⟨cs, h2, h3, h4⟩ := h.hg
  exact free_of_block h2 j

/-- L, but z at j. -/
def updN (L : Nat → Nat) (j z : Nat) (i : Nat) : Nat := if i = j then z else L i

theorem LeftAt.store {w : World} {p g n : Nat} {L : Nat → Nat} (h : LeftAt w p g L n) {j : Nat} (hj : j < n) (z : Nat) : LeftAt (w.setCell ⟨g, j, none⟩ (.int .i64 (z : Nat))) p g (updN L j z) n := by
  obtain ⟨cap, h1⟩ := h.hp
  obtain ⟨cs, h2, h3, h4⟩ := h.hg
  refine ⟨⟨cap, (Below.heap_setCell _ _ _ _ h.ne).trans h1⟩, ⟨_, block_setCell h2 _, by simpa using h3, fun i hi => ?_⟩, h.small⟩
  rw [Array.getElem?_setIfInBounds, updN]
  by_cases e : j = i
  · subst e
    rw [if_pos rfl, if_pos (by omega), if_pos rfl]
  · rw [if_neg e, if_neg (by omega)]
    exact h4 i hi

theorem LeftAt.congr {w : World} {p g n : Nat} {L M : Nat → Nat} (h : LeftAt w p g L n) (e : ∀ j, j < n → L j = M j) : LeftAt w p g M n := by
  obtain ⟨cs, h2, h3, h4⟩ := h.hg
  exact ⟨h.hp, ⟨cs, h2, h3, fun j hj => by rw [← e j hj]; exact h4 j hj⟩, h.small⟩

/-- The age of a granule. -/
def leftN (f0 f1 : Nat → Bool) (j : Nat) : Nat := if f0 j then 2 else if f1 j then 1 else 0

/-- Which are black. -/
def posB (L : Nat → Nat) (j : Nat) : Bool := decide (0 < L j)

theorem posB_left (f0 f1 : Nat → Bool) : posB (leftN f0 f1) = fun j => f0 j || f1 j := by
  funext j
  rw [posB, leftN]
  cases f0 j <;> cases f1 j <;> rfl

set_option maxHeartbeats 2000000 in
theorem LNew_at (n : Nat) (w : World) (h : n ≤ 65536) : Calls Try.prog 38 #[.int .i64 (n : Nat)] w fun e w' =>
      ∃ p g, e = .returned (.pointer (some ⟨p, 0, none⟩)) ∧ w.heap.size ≤ p ∧ w.heap.size ≤ g ∧ LeftAt w' p g (fun _ => 0) n ∧ Keep Nope w w' := by
  go_enter Try.func38, Try.ntmps38
  go_wp2_with (at_make; obtain ⟨i0, hi, hz0, hz1, hz2⟩ := info_parts Try.infoInt; go_loud (refine wpList_make_full _ rfl (.tmp 3) (.tmp 3) 56 rfl w.heap.size 3 i0 (.int .i64 0) 1 Try.underlyingInts hi hz0 hz1 .i64 .i64 n n n rfl rfl rfl rfl (by rw [hz2]; omega) (by unfold maxLen; omega) (Nat.le_refl _) ?_); intro w1 hown hgrow; clear hi hz0 hz1 hz2)
  have hk : Keep Nope w w1 := (Keep.refl Nope w).grown hgrow (fun _ e => by cases e)
  have hr : LeftAt (w1.alloc (.cells #[.slice (some ⟨w.heap.size, 0, none⟩) n n] 97)) w1.heap.size w.heap.size (fun _ => 0) n := by
    rcases hown.2 with ⟨e, -⟩ | ⟨g, cap, cur, e, -, hheap, hnc, -, hsz, htake⟩
    · cases e
    · injection e with e1 _ e2
      injection e1 with e1
      injection e1 with e1 _
      subst e1 e2
      refine ⟨⟨n, World.alloc_heap_new w1 _⟩, ⟨cur, ((Keep.refl Nope w1).alloc _).at_ hheap (fun h => h), by omega, fun j hj => ?_⟩, h⟩
      have h9 : (cur.toList.take (n * 1))[j]? = some (.int .i64 0) := by
        rw [htake, show (Value.int .i64 0).cells = #[Value.int .i64 0] from rfl, toList_madeCells_one, List.getElem?_replicate, if_pos (by omega)]
      rw [List.getElem?_take_of_lt (by omega)] at h9
      simpa using h9
  go_ret
  exact ⟨_, w.heap.size, rfl, hk.size, Nat.le_refl _, hr, hk.alloc _⟩

theorem LHas_int (i : Int) (n p g : Nat) (L : Nat → Nat) (w : World) (hb : LeftAt w p g L n) :
    Calls Try.prog 43 #[.pointer (some ⟨p, 0, none⟩), .int .i64 i] w fun e w' => e = .returned (.bool (hasI (posB L) n i)) ∧ w = w' := by
  obtain ⟨cap, hc⟩ := hb.head
  have hn := hb.small
  by_cases h1 : 0 ≤ i
  · obtain ⟨a, rfl⟩ := Int.eq_ofNat_of_zero_le h1
    by_cases h2 : a < n
    · have hbit := hb.at_ h2
      have h2' : (a : Int) < n := by omega
      have hv : Seal (hasI (posB L) n (a : Int) = posB L a) := ⟨by rw [hasI, decide_eq_true ⟨h1, h2'⟩]; rfl⟩
      obtain ⟨v, hfv⟩ : ∃ v, v = L a := ⟨_, rfl⟩
      have hp : Seal (posB L a = decide (0 < v)) := ⟨by rw [hfv]; rfl⟩
      rw [← hfv] at hbit
      clear hfv
      by_cases hv0 : 0 < v
      · have hv1 : (0 : Int) < v := by omega
        go_enter Try.func43, Try.ntmps43
        go_wp2
        go_ret
        exact ⟨by rw [hv.out, hp.out, decide_eq_true hv0]; rfl, rfl⟩
      · have hv1 : ¬ (0 : Int) < v := by omega
        go_enter Try.func43, Try.ntmps43
        go_wp2
        go_ret
        exact ⟨by rw [hv.out, hp.out, decide_eq_false hv0]; rfl, rfl⟩
    · have h2' : ¬ (a : Int) < n := by omega
      have hv : Seal (hasI (posB L) n (a : Int) = false) := ⟨by rw [hasI, decide_eq_false (fun h => h2' h.2)]; rfl⟩
      go_enter Try.func43, Try.ntmps43
      go_wp2
      go_ret
      exact ⟨by rw [hv.out]; rfl, rfl⟩
  · have hv : Seal (hasI (posB L) n i = false) := ⟨by rw [hasI, decide_eq_false (fun h => h1 h.1)]; rfl⟩
    go_enter Try.func43, Try.ntmps43
    go_wp2
    go_ret
    exact ⟨by rw [hv.out]; rfl, rfl⟩

/-- What a Turn has of an age. -/
def turnN (L : Nat → Nat) (i : Nat) : Nat := L i - 1

/-- Those below j turned. -/
def partN (L : Nat → Nat) (j : Nat) (i : Nat) : Nat := if i < j then L i - 1 else L i

theorem partN_zero (L : Nat → Nat) : partN L 0 = L := by funext i; rw [partN, if_neg (by omega)]

theorem partN_step (L : Nat → Nat) (j : Nat) : updN (partN L j) j (L j - 1) = partN L (j + 1) := by
  funext i
  simp only [updN, partN]
  by_cases h : i = j
  · subst h; rw [if_pos rfl, if_pos (by omega)]
  · rw [if_neg h]
    by_cases h2 : i < j
    · rw [if_pos h2, if_pos (by omega)]
    · rw [if_neg h2, if_neg (by omega)]

/-- How many below j have 1. -/
def onesN (L : Nat → Nat) : Nat → Nat
  | 0 => 0
  | j + 1 => onesN L j + if L j = 1 then 1 else 0

theorem onesN_le (L : Nat → Nat) : ∀ j, onesN L j ≤ j
  | 0 => Nat.le_refl _
  | j + 1 => by have := onesN_le L j; rw [onesN]; split <;> omega

set_option maxHeartbeats 4000000 in
theorem LTurn_at (p g n : Nat) (L : Nat → Nat) (w : World) (hb : LeftAt w p g L n) (hL : ∀ j, L j ≤ 2) :
    Calls Try.prog 61 #[.pointer (some ⟨p, 0, none⟩)] w fun e w' => e = .returned (.int .i64 (onesN L n : Nat)) ∧ Keep (fun b => b = g) w w' ∧ LeftAt w' p g (turnN L) n := by
  have hn := hb.small
  have HL : Seal _ := ⟨hL⟩
  clear hL
  go_enter Try.func61, Try.ntmps61
  go_wp2_with fail
  go_loopw [3, 4] (fun c y wr => ∃ (j k : Nat), j ≤ n ∧ c = .int .i64 (k : Nat) ∧ y = .int .i64 (j : Nat) ∧ k ≤ j ∧ Seal (k = onesN L j) ∧ LeftAt wr p g (partN L j) n ∧ Keep (fun b => b = g) w wr) (fun _ y _ => n - (intOf y).toNat)
  case atStart => exact ⟨0, 0, by omega, rfl, rfl, by omega, ⟨rfl⟩, by rw [partN_zero]; exact hb, Keep.refl _ _⟩
  case round =>
    obtain ⟨j, k, hj, rfl, rfl, hkj, hcn, hr, hk⟩ := hrel
    obtain ⟨cap, hc⟩ := hr.head
    by_cases hjn : j < n
    · have hjn' : (j : Int) < n := by omega
      have hcell := hr.at_ hjn
      rw [partN, if_neg (Nat.lt_irrefl j)] at hcell
      have hfr := hr.free j
      have hst := hr.store hjn (L j - 1)
      rw [partN_step] at hst
      have hL2 := HL.out j
      obtain ⟨v, hv⟩ : ∃ v, v = L j := ⟨_, rfl⟩
      rw [← hv] at hcell hst hL2
      have HV : Seal _ := ⟨hv⟩
      have HST : Seal _ := ⟨hst⟩
      clear hv hst
      rcases (show v = 0 ∨ v = 1 ∨ v = 2 by omega) with rfl | rfl | rfl
      · have h1 : Seal (k = onesN L (j + 1)) := ⟨by rw [onesN, ← HV.out, ← hcn.out]; rfl⟩
        go_wp2_with fail
        go_region
        go_wp2
        exact ⟨⟨j + 1, k, by omega, rfl, by go_num, by omega, h1, HST.out.keep (Keep.refl Nope _).drew (fun h => h) (fun h => h), (hk.setCell (fun _ => rfl) _).drew⟩, by simp only [intOf]; omega⟩
      · have h1 : Seal (k + 1 = onesN L (j + 1)) := ⟨by rw [onesN, ← HV.out, ← hcn.out]; rfl⟩
        go_wp2_with fail
        go_region
        go_wp2
        exact ⟨⟨j + 1, k + 1, by omega, by go_num, by go_num, by omega, h1, HST.out.keep (Keep.refl Nope _).drew (fun h => h) (fun h => h), (hk.setCell (fun _ => rfl) _).drew⟩, by simp only [intOf]; omega⟩
      · have h1 : Seal (k = onesN L (j + 1)) := ⟨by rw [onesN, ← HV.out, ← hcn.out]; rfl⟩
        go_wp2_with fail
        go_region
        go_wp2
        exact ⟨⟨j + 1, k, by omega, rfl, by go_num, by omega, h1, HST.out.keep (Keep.refl Nope _).drew (fun h => h) (fun h => h), (hk.setCell (fun _ => rfl) _).drew⟩, by simp only [intOf]; omega⟩
    · have hjn' : ¬ (j : Int) < n := by omega
      have hend : Seal (k = onesN L n) := ⟨by rw [hcn.out, show j = n by omega]⟩
      have hfin : LeftAt wr p g (turnN L) n := hr.congr (fun i hi => by rw [partN, if_pos (by omega)]; rfl)
      have HF : Seal _ := ⟨hfin⟩
      clear hfin
      go_wp2
      exact bodyPost_ret (v := .int .i64 (k : Nat)) (by simp [results, Try.results61, go_sem]) rfl ⟨by rw [← hend.out], hk, HF.out⟩

end Go.Proofs.Ytpjcgjbobljaeaa
