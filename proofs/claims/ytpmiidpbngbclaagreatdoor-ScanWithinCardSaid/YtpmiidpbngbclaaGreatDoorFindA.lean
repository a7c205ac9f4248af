/-
  find: the object, and the slot, that has an address.
-/
import Derived.Test.YtpmiidpbngbclaaGreatDoorFindP
namespace Go.Proofs.YtpmiidpbngbclaaGreatDoor
open Go.RowKit
set_option linter.unusedVariables false

theorem SWord_no (y : Nat) (w : World) (h : y < 1048576 ∨ 1114112 ≤ y) (hy : y < 18446744073709551616) : Calls Tryz.prog 79 #[.int .u64 (y : Nat)] w fun e w' => e = .returned (.tuple #[.int .i64 0, .bool false]) ∧ w' = w := by
  by_cases h1 : y < 1048576
  · have d1 : decide ((y : Int) < 1048576) = true := decide_eq_true (by omega)
    clear h
    go_enter Tryz.func79, Tryz.ntmps79
    go_wp2
    go_ret2
    exact ⟨rfl, rfl⟩
  · have d1 : decide ((y : Int) < 1048576) = false := decide_eq_false (by omega)
    have d2 : decide ((65536 : Int) ≤ (y : Int) - 1048576) = true := decide_eq_true (by omega)
    have d3 : IntKind.u64.wrap ((y : Int) - 1048576) = (y : Int) - 1048576 := by rw [IntKind.wrap_u64]; omega
    clear h
    go_enter Tryz.func79, Tryz.ntmps79
    go_wp2
    go_ret2
    exact ⟨rfl, rfl⟩

theorem SWord_yes (n : Nat) (w : World) (h : n < 65536) : Calls Tryz.prog 79 #[.int .u64 ((1048576 + n : Nat) : Int)] w fun e w' => e = .returned (.tuple #[.int .i64 (n : Nat), .bool true]) ∧ w' = w := by
  obtain ⟨y, hy⟩ : ∃ y, y = 1048576 + n := ⟨_, rfl⟩
  rw [← hy]
  have HY : Seal ((y : Int) - 1048576 = (n : Nat)) := ⟨by omega⟩
  have d1 : decide ((y : Int) < 1048576) = false := decide_eq_false (by omega)
  have d2 : decide ((65536 : Int) ≤ (y : Int) - 1048576) = false := decide_eq_false (by omega)
  have d3 : IntKind.u64.wrap ((y : Int) - 1048576) = (y : Int) - 1048576 := by rw [IntKind.wrap_u64]; omega
  have d4 : IntKind.i64.wrap ((y : Int) - 1048576) = (y : Int) - 1048576 := by rw [IntKind.wrap_i64]; omega
  clear hy
  go_enter Tryz.func79, Tryz.ntmps79
  go_wp2
  go_ret2
  exact ⟨by rw [HY.out]; rfl, rfl⟩

theorem SWord_any (y : Nat) (w : World) (hy : y < 18446744073709551616) : Calls Tryz.prog 79 #[.int .u64 (y : Nat)] w fun e w' => (∃ (n : Int) (b : Bool), e = .returned (.tuple #[.int .i64 n, .bool b])) ∧ w' = w := by
  by_cases h : y < 1048576 ∨ 1114112 ≤ y
  · exact (SWord_no y w h hy).mono fun e w' hp => ⟨⟨_, _, hp.1⟩, hp.2⟩
  · obtain ⟨n, rfl⟩ : ∃ n, y = 1048576 + n := ⟨y - 1048576, by omega⟩
    exact (SWord_yes n w (by omega)).mono fun e w' hp => ⟨⟨_, _, hp.1⟩, hp.2⟩

/-- What Of answers, where there is none. -/
def OfFail (w : World) (e : Ending) (w' : World) : Prop := e = .returned (.tuple #[.int .i64 0, .bool false]) ∧ Keep Nope w w'

theorem FOf_nil (y : Nat) (w : World) (hy : y < 18446744073709551616) : Calls Tryz.prog 46 #[.pointer none, .int .u64 (y : Nat)] w (OfFail w) := by
  have HW : Seal _ := ⟨SWord_any y w hy⟩
  clear hy
  go_enter Tryz.func46, Tryz.ntmps46
  go_wp2_with fail
  refine HW.out.mono ?_
  rintro e w' ⟨⟨n, b, rfl⟩, rfl⟩
  go_wp2
  go_ret2
  exact ⟨rfl, Keep.refl _ _⟩

theorem FOf_no (y : Nat) (P : Sp) (W : Nat → Nat) (f : Nat → Bool) (w : World) (h : SpaceAt w P W f) (hy : y < 1048576 ∨ 1114112 ≤ y) (hy2 : y < 18446744073709551616) : Calls Tryz.prog 46 #[.pointer (some ⟨P.s, 0, none⟩), .int .u64 (y : Nat)] w (OfFail w) := by
  have HW : Seal _ := ⟨SWord_no y w hy hy2⟩
  clear hy hy2 h
  go_enter Tryz.func46, Tryz.ntmps46
  go_wp2_with fail
  refine HW.out.mono ?_
  rintro e w' ⟨rfl, rfl⟩
  go_wp2
  go_ret2
  exact ⟨rfl, Keep.refl _ _⟩

theorem FOf_far (k : Nat) (P : Sp) (W : Nat → Nat) (f : Nat → Bool) (w : World) (h : SpaceAt w P W f) (hk : P.n ≤ k) (hk2 : k < 65536) : Calls Tryz.prog 46 #[.pointer (some ⟨P.s, 0, none⟩), .int .u64 ((1048576 + k : Nat) : Int)] w (OfFail w) := by
  have HW : Seal _ := ⟨SWord_yes k w hk2⟩
  have hev := h.ev
  have HG : Seal _ := ⟨Gran_at P W f w h⟩
  obtain ⟨H, hH⟩ : ∃ H, P.n / 2 = H := ⟨_, rfl⟩
  rw [hH] at HG
  have d1 : decide ((2 : Int) * (H : Nat) ≤ (k : Nat)) = true := decide_eq_true (by omega)
  have hH2 : H ≤ 32768 := by omega
  clear hH hev h hk
  go_enter Tryz.func46, Tryz.ntmps46
  go_wp2_with fail
  refine HW.out.mono ?_
  rintro e w' ⟨rfl, rfl⟩
  go_wp2_with fail
  refine HG.out.mono ?_
  rintro e w' ⟨rfl, rfl⟩
  go_wp2
  go_ret2
  exact ⟨rfl, Keep.refl _ _⟩

/-- Any address beside the words. -/
theorem FOf_out (y : Nat) (P : Sp) (W : Nat → Nat) (f : Nat → Bool) (w : World) (h : SpaceAt w P W f) (hy : ¬ (1048576 ≤ y ∧ y < 1048576 + P.n)) (hy2 : y < 18446744073709551616) : Calls Tryz.prog 46 #[.pointer (some ⟨P.s, 0, none⟩), .int .u64 (y : Nat)] w (OfFail w) := by
  by_cases h1 : y < 1048576 ∨ 1114112 ≤ y
  · exact FOf_no y P W f w h h1 hy2
  · obtain ⟨k, rfl⟩ : ∃ k, y = 1048576 + k := ⟨y - 1048576, by omega⟩
    exact FOf_far k P W f w h (by omega) (by omega)

/-- What Of answers of a word of the cell c. -/
def FOfPost (c : Cel) (w : World) (e : Ending) (w' : World) : Prop := e = .returned (.tuple #[.int .i64 (if c.tag = 1 then (c.g : Nat) else 0 : Nat), .bool (c.tag == 1)]) ∧ Keep Nope w w'

/-- What Of answers, where a start lies at or below. -/
def SomeAt (b : Bool) (g : Nat) (w : World) (e : Ending) (w' : World) : Prop := e = .returned (.tuple #[.int .i64 ((if b then g else 0 : Nat) : Int), .bool b]) ∧ Keep Nope w w'

theorem prev_start {f : Nat → Bool} {pre post : List Cel} {c : Cel} {H g : Nat} (ht : Tiles 0 (pre ++ c :: post) H) (hst : ∀ i, i < H → f i = startOf (pre ++ c :: post) i) (h1 : c.g ≤ g) (h2 : g < c.fin) :
    (c.tag = 1 → prevB f (g + 1) = some c.g) ∧ (¬ c.tag = 1 → prevB f (g + 1) = none ∨ ∃ d ∈ pre, d.tag = 1 ∧ prevB f (g + 1) = some d.g ∧ d.fin ≤ g) := by
  have t := ht.fin_at
  have hgH : g < H := by have := t.2.1.le; omega
  have hoff : ∀ t', c.g < t' → t' < g + 1 → f t' = false := fun t' a b => by
    rw [hst t' (by omega)]
    cases hh : startOf (pre ++ c :: post) t' with
    | false => rfl
    | true =>
      obtain ⟨d, hd, hd1, hd2⟩ := startOf_mem hh
      rcases List.mem_append.1 hd with hm | hm
      · have := t.2.2.mem hm
        unfold Cel.fin at *
        omega
      · rcases List.mem_cons.1 hm with rfl | hm
        · omega
        · have := t.2.1.mem hm
          unfold Cel.fin at *
          omega
  refine ⟨fun ht1 => ?_, fun ht1 => ?_⟩
  · refine prevB_some (by omega) ?_ hoff
    rw [hst c.g (by omega), startOf, List.any_eq_true]
    exact ⟨c, by simp, by simp [ht1]⟩
  · rcases prevB_spec f (g + 1) with ⟨j, e1, e2, e3, e4⟩ | ⟨e1, -⟩
    · right
      rw [hst j (by omega)] at e3
      obtain ⟨d, hd, hd1, hd2⟩ := startOf_mem e3
      rcases List.mem_append.1 hd with hm | hm
      · have := t.2.2.mem hm
        exact ⟨d, hm, hd1, by rw [e1, hd2], by unfold Cel.fin; omega⟩
      · rcases List.mem_cons.1 hm with rfl | hm
        · exact absurd hd1 ht1
        · have := t.2.1.mem hm
          unfold Cel.fin at *
          omega
    · exact .inl e1

set_option maxHeartbeats 1000000 in
theorem FOf_none (k : Nat) (P : Sp) (W : Nat → Nat) (f : Nat → Bool) (w : World) (h : SpaceAt w P W f) (hk : k < P.n) (hp : prevB f (k / 2 + 1) = none) : Calls Tryz.prog 46 #[.pointer (some ⟨P.s, 0, none⟩), .int .u64 ((1048576 + k : Nat) : Int)] w (OfFail w) := by
  have hsm := h.ar.small
  have HW : Seal _ := ⟨SWord_yes k w (by omega)⟩
  have hev := h.ev
  have HG : Seal _ := ⟨Gran_at P W f w h⟩
  have HSt : Seal _ := ⟨Starts_at P W f w h⟩
  obtain ⟨H, hH⟩ : ∃ H, P.n / 2 = H := ⟨_, rfl⟩
  rw [hH] at HG HSt
  have d1 : decide ((2 : Int) * (H : Nat) ≤ (k : Nat)) = false := decide_eq_false (by omega)
  have hH2 : H ≤ 32768 := by omega
  have HP : Seal (∀ p q w', BitsAt w' p q f H → Calls Tryz.prog 91 #[.pointer (some ⟨p, 0, none⟩), .int .i64 ((k : Int) / 2)] w' fun e w'' => e = .returned (.tuple #[.int .i64 0, .bool false]) ∧ Keep Nope w' w'') := ⟨fun p q w' hb => by
    have := Prev_at ((k : Int) / 2) H p q f w' hb (by omega)
    rw [show (min ((k : Int) / 2 + 1) (H : Nat)).toNat = k / 2 + 1 by omega, hp] at this
    exact this⟩
  have hk6 : k < 65536 := by omega
  clear hH hev h hk hp hsm
  go_enter Tryz.func46, Tryz.ntmps46
  go_wp2_with fail
  refine HW.out.mono ?_
  rintro e w' ⟨rfl, rfl⟩
  go_wp2_with fail
  refine HG.out.mono ?_
  rintro e w' ⟨rfl, rfl⟩
  go_wp2_with fail
  refine HSt.out.mono ?_
  rintro e w1 ⟨p, q, rfl, -, -, hb, k1⟩
  have HB : Seal _ := ⟨hb⟩
  have HK1 : Seal _ := ⟨k1⟩
  clear hb k1
  go_wp2_with fail
  refine (HP.out p q w1 HB.out).mono ?_
  rintro e w2 ⟨rfl, k2⟩
  have HK2 : Seal _ := ⟨HK1.out.then' k2⟩
  clear k2
  go_wp2
  go_ret2
  exact ⟨rfl, HK2.out⟩

set_option maxHeartbeats 1000000 in
theorem FOf_some (k : Nat) (c : Cel) (P : Sp) (W : Nat → Nat) (f : Nat → Bool) (w : World) (h : SpaceAt w P W f) (hk : k < P.n) (hp : prevB f (k / 2 + 1) = some c.g) (hW : W (2 * c.g) = encH c.tag c.ty c.ln c.sz) (hok : CelOk P.ts c) (hfin : c.fin ≤ P.n / 2) (hsz : 0 < c.sz) :
    Calls Tryz.prog 46 #[.pointer (some ⟨P.s, 0, none⟩), .int .u64 ((1048576 + k : Nat) : Int)] w (SomeAt (decide (k < 2 * c.fin)) c.g w) := by
  have hsm := h.ar.small
  have HW : Seal _ := ⟨SWord_yes k w (by omega)⟩
  have hev := h.ev
  have HG : Seal _ := ⟨Gran_at P W f w h⟩
  have HSt : Seal _ := ⟨Starts_at P W f w h⟩
  have HAr : Seal (∀ w', Keep Nope w w' → Calls Tryz.prog 15 #[.pointer (some ⟨P.s, 0, none⟩)] w' fun e w'' => e = .returned (.pointer (some ⟨P.a, 0, none⟩)) ∧ w'' = w') := ⟨fun w' kk => SArena_at P W f w' (h.keepN kk)⟩
  unfold Cel.fin at *
  have HHd : Seal (∀ w', Keep Nope w w' → Calls Tryz.prog 80 #[.pointer (some ⟨P.a, 0, none⟩), .int .i64 (c.g : Nat)] w' fun e w'' => e = .returned (.tuple #[headV (c.tag : Nat) (c.ty : Nat) (c.ln : Nat) (c.sz : Nat), .int .i64 0]) ∧ Keep Nope w' w'') := ⟨fun w' kk => SHead_cell c P W f w' (h.keepN kk) (by omega) hW hok⟩
  obtain ⟨H, hH⟩ : ∃ H, P.n / 2 = H := ⟨_, rfl⟩
  rw [hH] at HG HSt hfin
  have d1 : decide ((2 : Int) * (H : Nat) ≤ (k : Nat)) = false := decide_eq_false (by omega)
  have hH2 : H ≤ 32768 := by omega
  have HP : Seal (∀ p q w', BitsAt w' p q f H → Calls Tryz.prog 91 #[.pointer (some ⟨p, 0, none⟩), .int .i64 ((k : Int) / 2)] w' fun e w'' => e = .returned (.tuple #[.int .i64 (c.g : Nat), .bool true]) ∧ Keep Nope w' w'') := ⟨fun p q w' hb => by
    have := Prev_at ((k : Int) / 2) H p q f w' hb (by omega)
    rw [show (min ((k : Int) / 2 + 1) (H : Nat)).toNat = k / 2 + 1 by omega, hp] at this
    exact this⟩
  have hk6 : k < 65536 := by omega
  have hg6 : c.g + c.sz ≤ 32768 := by omega
  clear hH hev h hk hp hsm hW hok hfin
  go_enter Tryz.func46, Tryz.ntmps46
  go_wp2_with fail
  refine HW.out.mono ?_
  rintro e w' ⟨rfl, rfl⟩
  go_wp2_with fail
  refine HG.out.mono ?_
  rintro e w' ⟨rfl, rfl⟩
  go_wp2_with fail
  refine HSt.out.mono ?_
  rintro e w1 ⟨p, q, rfl, -, -, hb, k1⟩
  have HB : Seal _ := ⟨hb⟩
  have HK1 : Seal _ := ⟨k1⟩
  clear hb k1
  go_wp2_with fail
  refine (HP.out p q w1 HB.out).mono ?_
  rintro e w2 ⟨rfl, k2⟩
  have HK2 : Seal _ := ⟨HK1.out.then' k2⟩
  clear k2
  go_wp2_with fail
  refine (HAr.out w2 HK2.out).mono ?_
  rintro e w2 ⟨rfl, rfl⟩
  go_wp2_with fail
  refine (HHd.out w2 HK2.out).mono ?_
  rintro e w3 ⟨rfl, k3⟩
  unfold headV
  obtain ⟨w4, hw4⟩ : ∃ w4, w4 = w3.alloc (.cells #[.int .u8 (c.tag : Nat), .int .i64 (c.ty : Nat), .int .i64 (c.ln : Nat), .int .i64 (c.sz : Nat)] 60) := ⟨_, rfl⟩
  have k4 : Keep Nope w3 w4 := by rw [hw4]; exact (Keep.refl _ w3).alloc _
  have hD : w4.heap[w3.heap.size]? = some (.cells #[.int .u8 (c.tag : Nat), .int .i64 (c.ty : Nat), .int .i64 (c.ln : Nat), .int .i64 (c.sz : Nat)] 60 (0, 0)) := by rw [hw4]; exact World.alloc_heap_new w3 _
  have HK4 : Seal _ := ⟨(HK2.out.then' k3).then' k4⟩
  have e3 : w4.cell? ⟨w3.heap.size, 3, none⟩ = some (.int .i64 (c.sz : Nat)) := by simp [World.cell?, hD]
  clear k3 k4 hD
  by_cases hlt : k < 2 * (c.g + c.sz)
  · have d5 : decide ((2 : Int) * ((c.g : Int) + (c.sz : Int)) ≤ (k : Int)) = false := decide_eq_false (by omega)
    have HLT : Seal _ := ⟨hlt⟩
    clear hlt
    go_wp2_with fail
    rw [← hw4]
    clear hw4
    go_wp2
    go_ret2
    rw [decide_eq_true HLT.out]
    exact ⟨rfl, HK4.out⟩
  · have d5 : decide ((2 : Int) * ((c.g : Int) + (c.sz : Int)) ≤ (k : Int)) = true := decide_eq_true (by omega)
    have HLT : Seal _ := ⟨hlt⟩
    clear hlt
    go_wp2_with fail
    rw [← hw4]
    clear hw4
    go_wp2
    go_ret2
    rw [decide_eq_false HLT.out]
    exact ⟨rfl, HK4.out⟩

/-- A word of the cell c. -/
theorem FOf_at (k : Nat) (c : Cel) (pre post : List Cel) (P : Sp) (W : Nat → Nat) (f : Nat → Bool) (w : World) (h : SpaceAt w P W f) (hc : CellsAt P W (pre ++ c :: post)) (hst : ∀ i, i < P.n / 2 → f i = startOf (pre ++ c :: post) i) (h1 : 2 * c.g ≤ k) (h2 : k < 2 * c.fin) :
    Calls Tryz.prog 46 #[.pointer (some ⟨P.s, 0, none⟩), .int .u64 ((1048576 + k : Nat) : Int)] w (FOfPost c w) := by
  have t := hc.tl.fin_at
  have hle := t.2.1.le
  have hk : k < P.n := by omega
  have hps := prev_start (g := k / 2) hc.tl hst (by omega) (by omega)
  by_cases ht : c.tag = 1
  · have hm : c ∈ pre ++ c :: post := by simp
    have hz := hc.tl.mem hm
    refine (FOf_some k c P W f w h hk (hps.1 ht) (hc.hd c hm) (hc.ok c hm) hle hz.2.2).mono ?_
    rintro e w' ⟨rfl, k'⟩
    refine ⟨?_, k'⟩
    rw [if_pos ht, decide_eq_true h2, ht]
    rfl
  · have hf : OfFail w = FOfPost c w := by
      unfold OfFail FOfPost
      rw [if_neg ht, show (c.tag == 1) = false by simp [ht]]
      rfl
    rw [← hf]
    rcases hps.2 ht with hn | ⟨d, hd, hd1, hd2, hd3⟩
    · exact FOf_none k P W f w h hk hn
    · have hm : d ∈ pre ++ c :: post := by simp [hd]
      have hz := hc.tl.mem hm
      refine (FOf_some k d P W f w h hk hd2 (hc.hd d hm) (hc.ok d hm) (by unfold Cel.fin at *; omega) hz.2.2).mono ?_
      rintro e w' ⟨rfl, k'⟩
      refine ⟨?_, k'⟩
      rw [decide_eq_false (by omega)]
      rfl

end Go.Proofs.YtpmiidpbngbclaaGreatDoor
