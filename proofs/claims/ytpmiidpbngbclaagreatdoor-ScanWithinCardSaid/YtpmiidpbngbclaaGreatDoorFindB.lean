/-
  find: the slot that has an address.
-/
import Derived.Test.YtpmiidpbngbclaaGreatDoorFindA
import Derived.Test.YtpmiidpbngbclaaGreatDoorPlayB
namespace Go.Proofs.YtpmiidpbngbclaaGreatDoor
open Go.RowKit
set_option linter.unusedVariables false

theorem Keep.new' {w w' : World} (h : Keep (fun k => w.heap.size ≤ k) w w') : Keep Nope w w' := h.mono (fun i hi hp => by omega)

theorem Both.has' {w0 w : World} {P : Sp} {rb q : Nat} {lv : Value} {W : Nat → Nat} {cs : List Cel} (h : Both w0 w P rb q lv W cs) : SpaceHas w P cs := ⟨W, h.sp⟩

/-- A view of an object of a space. -/
theorem SOf_cell (c : Cel) (P : Sp) (W : Nat → Nat) (f : Nat → Bool) (cs : List Cel) (w : World) (h : SpaceAt w P W f) (hc : CellsAt P W cs) (hm : c ∈ cs) (ht : c.tag = 1) :
    Calls Tryz.prog 38 #[.pointer (some ⟨P.a, 0, none⟩), .pointer (some ⟨P.t, 0, none⟩), .int .i64 (c.g : Nat)] w fun e w' =>
      ∃ b k wds m, (kindE k wds m (c.ln : Nat) = 0 ∧ slotsT k wds (c.ln : Nat) = (slotN P.ts c : Nat)) ∧ e = .returned (.tuple #[.pointer (some ⟨b, 0, none⟩), .int .i64 0]) ∧ ViewAt w' b P.a c k wds m ∧ w.heap.size ≤ b ∧ Keep Nope w w' := by
  refine (SOf_any (c.g : Nat) P.a P.q P.n P.t P.tq W P.ts w h.fl h.ar h.tb).mono ?_
  intro e w' hp
  unfold SOfPost at hp
  rw [hc.obj hm ht] at hp
  obtain ⟨b, k, wds, m, h1, h2, h3, h4, h5⟩ := hp
  have hk := kind_of hc hm ht h1
  refine ⟨b, k, wds, m, ⟨hk, ?_⟩, h2, h3, h4, h5⟩
  unfold slotN
  rw [if_pos ht, h1]
  dsimp only
  rw [Int.toNat_of_nonneg (slotsT_range hk).1]

/-- What Slot answers. -/
def SlotPost (b : Bool) (g j : Nat) (w : World) (e : Ending) (w' : World) : Prop :=
  e = .returned (.tuple #[.int .i64 ((if b then g else 0 : Nat) : Int), .int .i64 ((if b then j else 0 : Nat) : Int), .bool b]) ∧ Keep Nope w w'

theorem FSlot_fail (s : Value) (y : Int) (w : World) (hO : Calls Tryz.prog 46 #[s, .int .u64 y] w (OfFail w)) : Calls Tryz.prog 37 #[s, .int .u64 y] w (SlotPost false 0 0 w) := by
  have HO : Seal _ := ⟨hO⟩
  clear hO
  go_enter Tryz.func37, Tryz.ntmps37
  go_wp2_with fail
  refine HO.out.mono ?_
  rintro e w1 ⟨rfl, k1⟩
  go_wp2
  go_ret3
  exact ⟨rfl, k1⟩

set_option maxHeartbeats 2000000 in
theorem FSlot_obj (k : Nat) (c : Cel) (P : Sp) (W : Nat → Nat) (f : Nat → Bool) (cs : List Cel) (w : World) (h : SpaceAt w P W f) (hc : CellsAt P W cs) (hm : c ∈ cs) (ht : c.tag = 1) (hO : Calls Tryz.prog 46 #[.pointer (some ⟨P.s, 0, none⟩), .int .u64 ((1048576 + k : Nat) : Int)] w (FOfPost c w)) (hk : k < P.n) (h1 : 2 * c.g ≤ k) :
    Calls Tryz.prog 37 #[.pointer (some ⟨P.s, 0, none⟩), .int .u64 ((1048576 + k : Nat) : Int)] w (SlotPost (decide (2 * c.g < k ∧ k ≤ 2 * c.g + slotN P.ts c)) c.g (k - 2 * c.g - 1) w) := by
  unfold FOfPost at hO
  rw [if_pos ht, show (c.tag == 1) = true by simp [ht]] at hO
  have HO : Seal _ := ⟨hO⟩
  have hsm := h.ar.small
  have HAr : Seal (∀ w', Keep Nope w w' → Calls Tryz.prog 15 #[.pointer (some ⟨P.s, 0, none⟩)] w' fun e w'' => e = .returned (.pointer (some ⟨P.a, 0, none⟩)) ∧ w'' = w') := ⟨fun w' kk => SArena_at P W f w' (h.keepN kk)⟩
  have HTb : Seal (∀ w', Keep Nope w w' → Calls Tryz.prog 16 #[.pointer (some ⟨P.s, 0, none⟩)] w' fun e w'' => e = .returned (.pointer (some ⟨P.t, 0, none⟩)) ∧ w'' = w') := ⟨fun w' kk => STable_at P W f w' (h.keepN kk)⟩
  have HOf : Seal _ := ⟨fun w' (kk : Keep Nope w w') => SOf_cell c P W f cs w' (h.keepN kk) hc hm ht⟩
  have HW : Seal (∀ w', Calls Tryz.prog 79 #[.int .u64 ((1048576 + k : Nat) : Int)] w' fun e w'' => e = .returned (.tuple #[.int .i64 (k : Nat), .bool true]) ∧ w'' = w') := ⟨fun w' => SWord_yes k w' (by omega)⟩
  have hk6 : k < 65536 := by omega
  have hg6 : c.g < 65536 := by omega
  clear h hc hm hO hk hsm
  go_enter Tryz.func37, Tryz.ntmps37
  go_wp2_with fail
  refine HO.out.mono ?_
  rintro e w1 ⟨rfl, k1⟩
  have HK1 : Seal _ := ⟨k1⟩
  clear k1
  go_wp2_with fail
  refine (HAr.out w1 HK1.out).mono ?_
  rintro e w2 ⟨rfl, rfl⟩
  go_wp2_with fail
  refine (HTb.out w2 HK1.out).mono ?_
  rintro e w3 ⟨rfl, rfl⟩
  go_wp2_with fail
  refine (HOf.out w3 HK1.out).mono ?_
  rintro e w4 ⟨b, kd, wds, m, ⟨hE, hS⟩, rfl, hV, hb, k2⟩
  have HK2 : Seal _ := ⟨HK1.out.then' k2⟩
  have HSl : Seal (Calls Tryz.prog 40 #[.pointer (some ⟨b, 0, none⟩)] w4 fun e w' => e = .returned (.int .i64 (slotN P.ts c : Nat)) ∧ Keep Nope w4 w') := ⟨by
    have := VSlots_at b P.a c kd wds m w4 hV hE
    rwa [hS] at this⟩
  clear hE hS hV hb k2 HO HAr HTb HOf
  go_wp2_with fail
  refine (HW.out w4).mono ?_
  rintro e w5 ⟨rfl, rfl⟩
  have hwr1 : IntKind.i64.wrap ((k : Int) - 2 * (c.g : Int)) = (k : Int) - 2 * (c.g : Int) := by rw [IntKind.wrap_i64]; omega
  have hwr2 : IntKind.i64.wrap ((k : Int) - 2 * (c.g : Int) - 1) = (k : Int) - 2 * (c.g : Int) - 1 := by rw [IntKind.wrap_i64]; omega
  by_cases q1 : k = 2 * c.g
  · have d1 : decide ((k : Int) - 2 * (c.g : Int) - 1 < 0) = true := decide_eq_true (by omega)
    have HD : Seal (decide (2 * c.g < k ∧ k ≤ 2 * c.g + slotN P.ts c) = false) := ⟨decide_eq_false (by omega)⟩
    clear q1 h1
    go_wp2
    go_ret3
    rw [HD.out]
    exact ⟨rfl, HK2.out⟩
  · have d1 : decide ((k : Int) - 2 * (c.g : Int) - 1 < 0) = false := decide_eq_false (by omega)
    by_cases q2 : k ≤ 2 * c.g + slotN P.ts c
    · have d2 : decide ((slotN P.ts c : Int) ≤ (k : Int) - 2 * (c.g : Int) - 1) = false := decide_eq_false (by omega)
      have HD : Seal (decide (2 * c.g < k ∧ k ≤ 2 * c.g + slotN P.ts c) = true) := ⟨decide_eq_true (by omega)⟩
      have HE : Seal ((k : Int) - 2 * (c.g : Int) - 1 = ((k - 2 * c.g - 1 : Nat) : Int)) := ⟨by omega⟩
      clear q1 q2 h1
      go_wp2_with fail
      refine HSl.out.mono ?_
      rintro e w6 ⟨rfl, k3⟩
      go_wp2
      go_ret3
      rw [HD.out, HE.out]
      exact ⟨rfl, HK2.out.then' k3⟩
    · have d2 : decide ((slotN P.ts c : Int) ≤ (k : Int) - 2 * (c.g : Int) - 1) = true := decide_eq_true (by omega)
      have HD : Seal (decide (2 * c.g < k ∧ k ≤ 2 * c.g + slotN P.ts c) = false) := ⟨decide_eq_false (by omega)⟩
      clear q1 q2 h1
      go_wp2_with fail
      refine HSl.out.mono ?_
      rintro e w6 ⟨rfl, k3⟩
      go_wp2
      go_ret3
      rw [HD.out]
      exact ⟨rfl, HK2.out.then' k3⟩

/-- Slot at a word of the cell c. -/
theorem FSlot_at (k : Nat) (c : Cel) (pre post : List Cel) (P : Sp) (W : Nat → Nat) (f : Nat → Bool) (w : World) (h : SpaceAt w P W f) (hc : CellsAt P W (pre ++ c :: post)) (hst : ∀ i, i < P.n / 2 → f i = startOf (pre ++ c :: post) i) (h1 : 2 * c.g ≤ k) (h2 : k < 2 * c.fin) :
    Calls Tryz.prog 37 #[.pointer (some ⟨P.s, 0, none⟩), .int .u64 ((1048576 + k : Nat) : Int)] w (SlotPost (decide (2 * c.g < k ∧ k ≤ 2 * c.g + slotN P.ts c)) c.g (k - 2 * c.g - 1) w) := by
  have hO := FOf_at k c pre post P W f w h hc hst h1 h2
  have hle := hc.tl.fin_at.2.1.le
  by_cases ht : c.tag = 1
  · exact FSlot_obj k c P W f _ w h hc (by simp) ht hO (by omega) h1
  · have hs : slotN P.ts c = 0 := by unfold slotN; rw [if_neg ht]
    rw [hs, decide_eq_false (p := 2 * c.g < k ∧ k ≤ 2 * c.g + 0) (by omega)]
    have hf : FOfPost c w = OfFail w := by
      unfold OfFail FOfPost
      rw [if_neg ht, show (c.tag == 1) = false by simp [ht]]
      rfl
    rw [hf] at hO
    exact (FSlot_fail _ _ w hO).mono fun e w' hp => ⟨hp.1, hp.2⟩

/-- Slot at any address beside the words. -/
theorem FSlot_out (y : Nat) (P : Sp) (W : Nat → Nat) (f : Nat → Bool) (w : World) (h : SpaceAt w P W f) (hy : ¬ (1048576 ≤ y ∧ y < 1048576 + P.n)) (hy2 : y < 18446744073709551616) : Calls Tryz.prog 37 #[.pointer (some ⟨P.s, 0, none⟩), .int .u64 (y : Nat)] w (SlotPost false 0 0 w) :=
  FSlot_fail _ _ w (FOf_out y P W f w h hy hy2)

end Go.Proofs.YtpmiidpbngbclaaGreatDoor
