/-
  find: the cell that has an address. The library's Search over a function that turns once.
-/
import Derived.Test.YtpmiidpbngbclaaGreatDoorFindA
import Derived.Laws.EntriesVeiled
namespace Go.Proofs.YtpmiidpbngbclaaGreatDoor
open Go.RowKit
set_option linter.unusedVariables false

set_option maxHeartbeats 2000000 in
theorem Search_at (g : Nat) (cb : Array Value) (n : Nat) (p : Nat → Bool) (w : World) (eg : ∀ args w, (callFunc g args).run Tryz.prog w = .ok (.enter g args) w) (hsz : n ≤ 65536)
    (hf : ∀ (w' : World) (i : Nat), Keep Nope w w' → i < n → Calls Tryz.prog g (#[.int .i64 (i : Nat)] ++ cb) w' fun e w'' => e = .returned (.bool (p i)) ∧ Keep Nope w' w'')
    (hmono : ∀ a b, a ≤ b → b < n → p a = true → p b = true) :
    Calls Tryz.prog 129 #[.int .i64 (n : Nat), .func (.func g) #[] cb] w fun e w' => ∃ k : Nat, k ≤ n ∧ e = .returned (.int .i64 (k : Nat)) ∧ ((∀ t, t < k → p t = false) ∧ (∀ t, k ≤ t → t < n → p t = true)) ∧ Keep Nope w w' := by
  have HF : Seal _ := ⟨hf⟩
  have M : Seal _ := ⟨hmono⟩
  clear hf hmono
  go_enter Tryz.func129, Tryz.ntmps129
  go_wp2_with fail
  go_loopw [5, 6] (fun s5 s6 wr => ∃ (lo hi : Nat), s5 = .int .i64 (lo : Nat) ∧ s6 = .int .i64 (hi : Nat) ∧ lo ≤ hi ∧ hi ≤ n ∧ Seal ((∀ t, t < lo → p t = false) ∧ (∀ t, hi ≤ t → t < n → p t = true)) ∧ Keep Nope w wr) (fun s5 s6 _ => (intOf s6).toNat - (intOf s5).toNat)
  case atStart => exact ⟨0, n, rfl, rfl, Nat.zero_le _, Nat.le_refl _, ⟨fun t ht => absurd ht (Nat.not_lt_zero _), fun t h1 h2 => by omega⟩, Keep.refl _ _⟩
  case round =>
    obtain ⟨lo, hi, rfl, rfl, hlh, hin, I, hk⟩ := hrel
    have HK : Seal _ := ⟨hk⟩
    clear hk
    by_cases hlt : lo < hi
    · have hc := HF.out wr ((lo + hi) / 2) HK.out (by omega)
      rw [show (((lo + hi) / 2 : Nat) : Int) = ((lo : Int) + (hi : Int)) / 2 by omega] at hc
      have HC : Seal _ := ⟨hc⟩
      clear hc
      cases hp : p ((lo + hi) / 2) <;> rw [hp] at HC
      · have HP : Seal (p ((lo + hi) / 2) = false) := ⟨hp⟩
        clear hp
        go_wp2_with (go_at_fn g; refine HC.out.mono ?_; rintro e w' ⟨rfl, k'⟩)
        have I2 : Seal ((∀ t, t < (lo + hi) / 2 + 1 → p t = false) ∧ (∀ t, hi ≤ t → t < n → p t = true)) := ⟨⟨fun t ht => (by
            cases h : p t with
            | false => rfl
            | true => have := M.out t ((lo + hi) / 2) (by omega) (by omega) h; rw [HP.out] at this; cases this), I.out.2⟩⟩
        exact ⟨⟨(lo + hi) / 2 + 1, hi, by rw [show ((lo : Int) + (hi : Int)) / 2 + 1 = (((lo + hi) / 2 + 1 : Nat) : Int) by omega], rfl, by omega, hin, I2, HK.out.then' k'⟩, by simp only [intOf]; omega⟩
      · have HP : Seal (p ((lo + hi) / 2) = true) := ⟨hp⟩
        clear hp
        go_wp2_with (go_at_fn g; refine HC.out.mono ?_; rintro e w' ⟨rfl, k'⟩)
        have I2 : Seal ((∀ t, t < lo → p t = false) ∧ (∀ t, (lo + hi) / 2 ≤ t → t < n → p t = true)) := ⟨⟨I.out.1, fun t ht htn => M.out ((lo + hi) / 2) t ht htn HP.out⟩⟩
        exact ⟨⟨lo, (lo + hi) / 2, rfl, by rw [show ((lo : Int) + (hi : Int)) / 2 = (((lo + hi) / 2 : Nat) : Int) by omega], by omega, by omega, I2, HK.out.then' k'⟩, by simp only [intOf]; omega⟩
    · obtain rfl : hi = lo := by omega
      go_wp2
      go_ret
      exact ⟨hi, hin, rfl, I.out, HK.out⟩

theorem Cell1_at (c : Cel) (wd bw : Nat) (w : World) (hwd : wd ≤ 65536) (hb : w.cell? ⟨bw, 0, none⟩ = some (.int .i64 (wd : Nat))) :
    Calls Tryz.prog 90 #[cellV c, .pointer (some ⟨bw, 0, none⟩)] w fun e w' => e = .returned (.bool (decide (c.g ≤ wd / 2))) ∧ Keep Nope w w' := by
  unfold cellV
  have c1 : ∀ o, (w.alloc o).cell? ⟨bw, 0, none⟩ = some (.int .i64 (wd : Nat)) := fun o => ((Keep.refl Nope w).alloc o).cell hb (fun h => h)
  have HD : Seal (decide ((c.g : Int) ≤ (wd : Int) / 2) = decide (c.g ≤ wd / 2)) := ⟨by
    by_cases h : c.g ≤ wd / 2
    · rw [decide_eq_true h, decide_eq_true (by omega)]
    · rw [decide_eq_false h, decide_eq_false (by omega)]⟩
  clear hb
  go_enter Tryz.func90, Tryz.ntmps90
  go_wp2
  go_ret
  exact ⟨by first | rfl | (rw [HD.out]; done) | (simp; omega), (Keep.refl Nope w).alloc _⟩

set_option maxHeartbeats 1000000 in
theorem Last1_at (cs : List Cel) (i : Nat) (x : Cel) (hx : cs[i]? = some x) (bi bl bw wd : Nat) (v : Value) (w : World) (hwd : wd ≤ 65536) (hlen : cs.length ≤ 65536)
    (hbi : w.cell? ⟨bi, 0, none⟩ = some (.func (.func 90) #[] #[.pointer (some ⟨bw, 0, none⟩)])) (hbl : w.cell? ⟨bl, 0, none⟩ = some v) (hb : w.cell? ⟨bw, 0, none⟩ = some (.int .i64 (wd : Nat))) (hv : RowC w v cs) :
    Calls Tryz.prog 130 #[.int .i64 (i : Nat), .pointer (some ⟨bi, 0, none⟩), .pointer (some ⟨bl, 0, none⟩)] w fun e w' => e = .returned (.bool (!decide (x.g ≤ wd / 2))) ∧ Keep Nope w w' := by
  obtain ⟨va, vc, rfl, hrow⟩ := hv
  obtain ⟨b, rfl, hb0, r0, r1, r2, r3, r4⟩ := hrow i x hx
  have hi := (List.getElem?_eq_some_iff.1 hx).1
  have hi' : (i : Int) < (cs.length : Nat) := by omega
  have HC : Seal (∀ w', Keep Nope w w' → Calls Tryz.prog 90 #[.agg #[.int .i64 (x.g : Nat), .int .u8 (x.tag : Nat), .int .i64 (x.ty : Nat), .int .i64 (x.ln : Nat), .int .i64 (x.sz : Nat)], .pointer (some ⟨bw, 0, none⟩)] w' fun e w'' => e = .returned (.bool (decide (x.g ≤ wd / 2))) ∧ Keep Nope w' w'') := ⟨fun w' kk => Cell1_at x wd bw w' hwd (kk.cell hb (fun h => h))⟩
  obtain ⟨D, hD⟩ : ∃ D, decide (x.g ≤ wd / 2) = D := ⟨_, rfl⟩
  rw [hD] at HC ⊢
  obtain ⟨L, hL⟩ : ∃ L, cs.length = L := ⟨_, rfl⟩
  rw [hL] at hi' hlen hbl
  clear hrow hx hD hL hi hb
  go_enter Tryz.func130, Tryz.ntmps130
  go_wp2_with fail
  go_region_held3 (fun w' => w'.cell? ⟨bi, 0, none⟩ = some (.func (.func 90) #[] #[.pointer (some ⟨bw, 0, none⟩)]) ∧ w'.cell? ⟨bl, 0, none⟩ = some (.slice (some ⟨b, 0, none⟩) L vc) ∧ w'.cell? ⟨b, i * 5, none⟩ = some (.int .i64 (x.g : Nat)) ∧ w'.cell? ⟨b, i * 5 + 1, none⟩ = some (.int .u8 (x.tag : Nat)) ∧ w'.cell? ⟨b, i * 5 + 2, none⟩ = some (.int .i64 (x.ty : Nat)) ∧ w'.cell? ⟨b, i * 5 + 3, none⟩ = some (.int .i64 (x.ln : Nat)) ∧ w'.cell? ⟨b, i * 5 + 4, none⟩ = some (.int .i64 (x.sz : Nat)))
    (first | exact ⟨hbi, hbl, r0, r1, r2, r3, r4⟩ | exact ⟨keepc (by (repeat (first | assumption | exact Keep.refl _ _ | refine Keep.drew ?_ | refine Keep.alloc ?_ _ | refine Keep.setNew ?_ (by omega) _))) hbi, keepc (by (repeat (first | assumption | exact Keep.refl _ _ | refine Keep.drew ?_ | refine Keep.alloc ?_ _ | refine Keep.setNew ?_ (by omega) _))) hbl, keepc (by (repeat (first | assumption | exact Keep.refl _ _ | refine Keep.drew ?_ | refine Keep.alloc ?_ _ | refine Keep.setNew ?_ (by omega) _))) r0, keepc (by (repeat (first | assumption | exact Keep.refl _ _ | refine Keep.drew ?_ | refine Keep.alloc ?_ _ | refine Keep.setNew ?_ (by omega) _))) r1, keepc (by (repeat (first | assumption | exact Keep.refl _ _ | refine Keep.drew ?_ | refine Keep.alloc ?_ _ | refine Keep.setNew ?_ (by omega) _))) r2, keepc (by (repeat (first | assumption | exact Keep.refl _ _ | refine Keep.drew ?_ | refine Keep.alloc ?_ _ | refine Keep.setNew ?_ (by omega) _))) r3, keepc (by (repeat (first | assumption | exact Keep.refl _ _ | refine Keep.drew ?_ | refine Keep.alloc ?_ _ | refine Keep.setNew ?_ (by omega) _))) r4⟩)
    (first | (go_at_call 90; refine (HC.out _ (by (repeat (first | assumption | exact Keep.refl _ _ | refine Keep.drew ?_ | refine Keep.alloc ?_ _ | refine Keep.setNew ?_ (by omega) _)))).mono ?_; rintro e w9 ⟨rfl, k9⟩; have K9 : Keep Nope w w9 := Keep.then' (by (repeat (first | assumption | exact Keep.refl _ _ | refine Keep.drew ?_ | refine Keep.alloc ?_ _ | refine Keep.setNew ?_ (by omega) _))) k9))
  go_wp2
  go_ret
  exact ⟨rfl, by (repeat (first | assumption | exact Keep.refl _ _ | refine Keep.drew ?_ | refine Keep.alloc ?_ _ | refine Keep.setNew ?_ (by omega) _))⟩

theorem tiles_mono : ∀ {cs : List Cel} {a b i j : Nat} {x y : Cel}, Tiles a cs b → i ≤ j → cs[i]? = some x → cs[j]? = some y → x.g ≤ y.g
  | c :: cs, a, b, 0, 0, x, y, h, _, hx, hy => by
    simp at hx hy
    rw [← hx, ← hy]
    exact Nat.le_refl _
  | c :: cs, a, b, 0, j + 1, x, y, ⟨h1, h2, h3⟩, _, hx, hy => by
    simp at hx
    subst hx
    have hy' : cs[j]? = some y := by simpa using hy
    have := h3.mem (List.mem_of_getElem? hy')
    omega
  | c :: cs, a, b, i + 1, j + 1, x, y, ⟨h1, h2, h3⟩, hij, hx, hy => tiles_mono h3 (Nat.le_of_succ_le_succ hij) (by simpa using hx) (by simpa using hy)

def gAt (cs : List Cel) (t : Nat) : Nat := match cs[t]? with | some x => x.g | none => 0

theorem gAt_of {cs : List Cel} {t : Nat} {x : Cel} (h : cs[t]? = some x) : gAt cs t = x.g := by unfold gAt; rw [h]

set_option maxHeartbeats 1000000 in
theorem Last_at (cs : List Cel) (bw wd H : Nat) (v : Value) (w : World) (hwd : wd ≤ 65536) (hlen : cs.length ≤ 65536) (ht : Tiles 0 cs H) (hb : w.cell? ⟨bw, 0, none⟩ = some (.int .i64 (wd : Nat))) (hv : RowC w v cs) :
    Calls Tryz.prog 89 #[v, .func (.func 90) #[] #[.pointer (some ⟨bw, 0, none⟩)]] w fun e w' =>
      ∃ k : Nat, k ≤ cs.length ∧ e = .returned (.int .i64 ((k : Int) - 1)) ∧ ((∀ t, t < k → gAt cs t ≤ wd / 2) ∧ (∀ t, k ≤ t → t < cs.length → wd / 2 < gAt cs t)) ∧ Keep Nope w w' := by
  obtain ⟨w2, hw2⟩ : ∃ w2, w2 = (w.alloc (.cells #[v] 52)).alloc (.cells #[.func (.func 90) #[] #[.pointer (some ⟨bw, 0, none⟩)]] 129) := ⟨_, rfl⟩
  have k2 : Keep Nope w w2 := by rw [hw2]; exact ((Keep.refl _ w).alloc _).alloc _
  have bl2 : w2.heap[w.heap.size]? = some (.cells #[v] 52 (0, 0)) := by rw [hw2]; exact ((Keep.refl Nope _).alloc _).at_ (World.alloc_heap_new w _) (fun h => h)
  have bi2 : w2.heap[w.heap.size + 1]? = some (.cells #[.func (.func 90) #[] #[.pointer (some ⟨bw, 0, none⟩)]] 129 (0, 0)) := by
    rw [hw2]
    have := World.alloc_heap_new (w.alloc (.cells #[v] 52)) (.cells #[.func (.func 90) #[] #[.pointer (some ⟨bw, 0, none⟩)]] 129)
    rwa [show (w.alloc (.cells #[v] 52)).heap.size = w.heap.size + 1 by simp] at this
  have cl := cell_of_one bl2
  have ci := cell_of_one bi2
  have hv2 := hv.keepN k2
  have hb2 := k2.cell hb (fun h => h)
  have HS : Seal _ := ⟨Search_at 130 #[.pointer (some ⟨w.heap.size + 1, 0, none⟩), .pointer (some ⟨w.heap.size, 0, none⟩)] cs.length (fun t => !decide (gAt cs t ≤ wd / 2)) w2 (fun _ _ => by kernel_rfl) hlen
    (fun w' i kk hi => by
      have hx : cs[i]? = some cs[i] := List.getElem?_eq_getElem hi
      have := Last1_at cs i cs[i] hx (w.heap.size + 1) w.heap.size bw wd v w' hwd hlen (kk.cell ci (fun h => h)) (kk.cell cl (fun h => h)) (kk.cell hb2 (fun h => h)) (hv2.keepN kk)
      rw [gAt_of hx]
      exact this)
    (fun a b hab hb h => by
      have hx : cs[a]? = some cs[a] := List.getElem?_eq_getElem (by omega)
      have hy : cs[b]? = some cs[b] := List.getElem?_eq_getElem hb
      have := tiles_mono ht hab hx hy
      rw [gAt_of hx] at h
      rw [gAt_of hy]
      simp at h ⊢
      omega)⟩
  have HK2 : Seal _ := ⟨k2⟩
  obtain ⟨va, vc, rfl, -⟩ := hv
  have hmf : ∀ (fn : Fn) (first cap : Array Value) (w : World), (Instr.makeFunc fn first cap).run Tryz.prog w = .ok (.func fn first cap) w := fun _ _ _ _ => rfl
  clear k2 bl2 bi2 ci hv2 hb2 hb ht
  go_enter Tryz.func89, Tryz.ntmps89
  go_wp2_with fail
  rw [← hw2]
  clear hw2
  refine HS.out.mono ?_
  rintro e w3 ⟨k, hk, rfl, hp, k3⟩
  have HP : Seal _ := ⟨hp⟩
  clear hp
  have hk6 : k ≤ 65536 := by omega
  go_wp2
  go_ret
  refine ⟨k, hk, rfl, ⟨fun t ht => ?_, fun t h1 h2 => ?_⟩, HK2.out.then' k3⟩
  · have := HP.out.1 t ht
    simpa using this
  · have := HP.out.2 t h1 h2
    simpa using this

theorem store5 {w : World} {b : Nat} {a0 a1 a2 a3 a4 : Value} {T : TypeId} (hb : w.heap[b]? = some (.cells #[a0, a1, a2, a3, a4] T (0, 0))) (v0 v1 v2 v3 v4 : Value) (wz : World) (hz : wz = ((((w.setCell ⟨b, 0, none⟩ v0).setCell ⟨b, 1, none⟩ v1).setCell ⟨b, 2, none⟩ v2).setCell ⟨b, 3, none⟩ v3).setCell ⟨b, 4, none⟩ v4) :
    wz.heap[b]? = some (.cells #[v0, v1, v2, v3, v4] T (0, 0)) ∧ Keep (fun i => i = b) w wz := by
  subst hz
  exact ⟨block_setCell (block_setCell (block_setCell (block_setCell (block_setCell hb (j := 0) _) (j := 1) _) (j := 2) _) (j := 3) _) (j := 4) _,
    (((((Keep.refl (fun i => i = b) w).setCell (fun _ => rfl) _).setCell (fun _ => rfl) _).setCell (fun _ => rfl) _).setCell (fun _ => rfl) _).setCell (fun _ => rfl) _⟩

theorem cells5 {w : World} {b : Nat} {a0 a1 a2 a3 a4 : Value} {T : TypeId} (hb : w.heap[b]? = some (.cells #[a0, a1, a2, a3, a4] T (0, 0))) :
    w.cell? ⟨b, 0, none⟩ = some a0 ∧ w.cell? ⟨b, 1, none⟩ = some a1 ∧ w.cell? ⟨b, 2, none⟩ = some a2 ∧ w.cell? ⟨b, 3, none⟩ = some a3 ∧ w.cell? ⟨b, 4, none⟩ = some a4 := by
  refine ⟨?_, ?_, ?_, ?_, ?_⟩ <;> simp only [World.cell?, hb] <;> rfl

theorem zeroCell (w : World) : (zeroValue 62).run Tryz.prog w = .ok (.agg #[.int .i64 0, .int .u8 0, .int .i64 0, .int .i64 0, .int .i64 0]) w := by kernel_rfl

/-- What Cell answers, where there is none. -/
def CellFail (w : World) (e : Ending) (w' : World) : Prop := e = .returned (.tuple #[.agg #[.int .i64 0, .int .u8 0, .int .i64 0, .int .i64 0, .int .i64 0], .bool false]) ∧ Keep Nope w w'

set_option maxHeartbeats 2000000 in
theorem FCell_no (y : Nat) (P : Sp) (W : Nat → Nat) (f : Nat → Bool) (w : World) (h : SpaceAt w P W f) (hy : y < 1048576 ∨ 1114112 ≤ y) (hy2 : y < 18446744073709551616) : Calls Tryz.prog 45 #[.pointer (some ⟨P.s, 0, none⟩), .int .u64 (y : Nat)] w (CellFail w) := by
  have HW : Seal _ := ⟨fun w' => SWord_no y w' hy hy2⟩
  obtain ⟨w2, hw2⟩ : ∃ w2, w2 = (w.alloc (.cells #[.int .i64 0, .int .u8 0, .int .i64 0, .int .i64 0, .int .i64 0] 62)).alloc (.cells #[.int .i64 0] 3) := ⟨_, rfl⟩
  have k2 : Keep Nope w w2 := by rw [hw2]; exact ((Keep.refl _ w).alloc _).alloc _
  have b0 : w2.heap[w.heap.size]? = some (.cells #[.int .i64 0, .int .u8 0, .int .i64 0, .int .i64 0, .int .i64 0] 62 (0, 0)) := by rw [hw2]; exact ((Keep.refl Nope _).alloc _).at_ (World.alloc_heap_new w _) (fun h => h)
  have HB0 : Seal _ := ⟨b0⟩
  have HK2 : Seal _ := ⟨k2⟩
  clear hy hy2 h b0 k2
  go_enter Tryz.func45, Tryz.ntmps45
  go_wp2_with fail
  refine (HW.out _).mono ?_
  rintro e w' ⟨rfl, rfl⟩
  go_wp2_with fail
  rw [← hw2]
  clear hw2
  refine wp_region_held_drew (S := fun _ => True) (by kernel_rfl) ?_ (fun hHeld => ?_)
  · trivial
  refine tk 0 (v := ?_) rfl (fun w0 hSw => ?_) ?_
  rotate_left
  · (try dsimp only at hSw); go_simp; (try with_reducible rfl)
  refine tk 1 (v := ?_) rfl (fun w0 hSw => ?_) ?_
  rotate_left
  · (try dsimp only at hSw); go_simp; (try with_reducible rfl)
  refine tk 2 (v := ?_) rfl (fun w0 hSw => ?_) ?_
  rotate_left
  · (try dsimp only at hSw); go_simp; (try with_reducible rfl)
  refine tk 3 (v := ?_) rfl (fun w0 hSw => ?_) ?_
  rotate_left
  · (try dsimp only at hSw); go_simp; (try with_reducible rfl)
  refine tk 4 (v := ?_) rfl (fun w0 hSw => ?_) ?_
  rotate_left
  · (try dsimp only at hSw); go_simp; (try with_reducible rfl)
  refine tk 5 (v := ?_) rfl (fun w0 hSw => ?_) ?_
  rotate_left
  · (try dsimp only at hSw); go_simp; (try with_reducible rfl)
  refine tk 6 (v := ?_) rfl (fun w0 hSw => ?_) ?_
  rotate_left
  · (try dsimp only at hSw); go_simp; (try with_reducible rfl)
  try simp only [Act.put, List.setIfInBounds_toArray, List.set_cons_zero, List.set_cons_succ]
  refine sk 7 rfl ?_
  refine sk 8 rfl ?_
  refine sk 9 rfl ?_
  refine sk 10 rfl ?_
  refine sk 11 rfl ?_
  try simp only [Act.put, List.setIfInBounds_toArray, List.set_cons_zero, List.set_cons_succ]
  refine tk 12 (v := ?_) rfl (fun w0 hSw => ?_) ?_
  rotate_left
  · (try dsimp only at hSw); go_simp; (try with_reducible rfl)
  try simp only [Act.put, List.setIfInBounds_toArray, List.set_cons_zero, List.set_cons_succ]
  refine wpAnyH_done (by kernel_rfl) ?_ _
  obtain ⟨w3, hw3⟩ : ∃ w3, w3 = w2.drew := ⟨_, rfl⟩
  have b3 : w3.heap[w.heap.size]? = some (.cells #[.int .i64 0, .int .u8 0, .int .i64 0, .int .i64 0, .int .i64 0] 62 (0, 0)) := by rw [hw3]; exact HB0.out
  have HK3 : Seal (Keep Nope w w3) := ⟨by rw [hw3]; exact HK2.out.drew⟩
  rw [← hw3]
  obtain ⟨c0, c1, c2, c3, c4⟩ := cells5 b3
  have hf := free_of_block b3
  have HB3 : Seal _ := ⟨b3⟩
  clear hw3 b3 hHeld
  go_wp2
  obtain ⟨bz, kz⟩ := store5 HB3.out (.int .i64 0) (.int .u8 0) (.int .i64 0) (.int .i64 0) (.int .i64 0) _ rfl
  obtain ⟨z0, z1, z2, z3, z4⟩ := cells5 bz
  refine bodyPost_ret (v := .tuple #[.agg #[.int .i64 0, .int .u8 0, .int .i64 0, .int .i64 0, .int .i64 0], .bool false]) (by simp [results, Tryz.results45, go_sem, z0, z1, z2, z3, z4]) rfl ?_
  exact ⟨rfl, HK3.out.trans (kz.mono fun i hi h => h) (fun i hi h => by omega)⟩

set_option maxHeartbeats 2000000 in
theorem FCell_far (k : Nat) (P : Sp) (W : Nat → Nat) (f : Nat → Bool) (w : World) (h : SpaceAt w P W f) (hk : P.n ≤ k) (hk6 : k < 65536) : Calls Tryz.prog 45 #[.pointer (some ⟨P.s, 0, none⟩), .int .u64 ((1048576 + k : Nat) : Int)] w (CellFail w) := by
  have hev := h.ev
  have HW : Seal (∀ w', Calls Tryz.prog 79 #[.int .u64 ((1048576 + k : Nat) : Int)] w' fun e w'' => e = .returned (.tuple #[.int .i64 (k : Nat), .bool true]) ∧ w'' = w') := ⟨fun w' => SWord_yes k w' (by omega)⟩
  have HG : Seal (∀ w', Keep Nope w w' → Calls Tryz.prog 19 #[.pointer (some ⟨P.s, 0, none⟩)] w' fun e w'' => e = .returned (.int .i64 ((P.n / 2 : Nat) : Int)) ∧ w'' = w') := ⟨fun w' kk => Gran_at P W f w' (h.keepN kk)⟩
  obtain ⟨H, hH⟩ : ∃ H, P.n / 2 = H := ⟨_, rfl⟩
  rw [hH] at HG
  have d1 : decide ((2 : Int) * (H : Nat) ≤ (k : Nat)) = true := decide_eq_true (by omega)
  have hH2 : H ≤ 32768 := by omega
  have hwr : IntKind.i64.wrap (2 * (H : Nat)) = 2 * (H : Nat) := by rw [IntKind.wrap_i64]; omega
  obtain ⟨w2, hw2⟩ : ∃ w2, w2 = (w.alloc (.cells #[.int .i64 0, .int .u8 0, .int .i64 0, .int .i64 0, .int .i64 0] 62)).alloc (.cells #[.int .i64 (k : Nat)] 3) := ⟨_, rfl⟩
  have k2 : Keep Nope w w2 := by rw [hw2]; exact ((Keep.refl _ w).alloc _).alloc _
  have b0 : w2.heap[w.heap.size]? = some (.cells #[.int .i64 0, .int .u8 0, .int .i64 0, .int .i64 0, .int .i64 0] 62 (0, 0)) := by rw [hw2]; exact ((Keep.refl Nope _).alloc _).at_ (World.alloc_heap_new w _) (fun h => h)
  have b1 : w2.heap[w.heap.size + 1]? = some (.cells #[.int .i64 (k : Nat)] 3 (0, 0)) := by
    rw [hw2]
    have := World.alloc_heap_new (w.alloc (.cells #[.int .i64 0, .int .u8 0, .int .i64 0, .int .i64 0, .int .i64 0] 62)) (.cells #[.int .i64 (k : Nat)] 3)
    rwa [show (w.alloc (.cells #[.int .i64 0, .int .u8 0, .int .i64 0, .int .i64 0, .int .i64 0] 62)).heap.size = w.heap.size + 1 by simp] at this
  have c1 := cell_of_one b1
  have HB0 : Seal _ := ⟨b0⟩
  clear h hk hH hev b0 b1
  go_enter Tryz.func45, Tryz.ntmps45
  go_wp2_with fail
  refine (HW.out _).mono ?_
  rintro e w' ⟨rfl, rfl⟩
  go_wp2_with fail
  rw [← hw2]
  clear hw2
  go_region_held3 (fun w' => w'.cell? ⟨w.heap.size + 1, 0, none⟩ = some (.int .i64 (k : Nat)) ∧ Keep Nope w2 w')
    (first | exact ⟨c1, (Keep.refl _ _).drew⟩ | (refine ⟨keepc ?_ c1, ?_⟩ <;> (repeat (first | assumption | exact Keep.refl _ _ | refine Keep.drew ?_ | refine Keep.alloc ?_ _ | refine Keep.setNew ?_ (by omega) _))))
    (first | (go_at_call 19; (with_reducible refine (HG.out _ (Keep.then' k2 (by (repeat (first | assumption | exact Keep.refl _ _ | refine Keep.drew ?_ | refine Keep.alloc ?_ _ | refine Keep.setNew ?_ (by omega) _))))).mono ?_); rintro e w9 ⟨rfl, rfl⟩))
  obtain ⟨w3, hw3⟩ : ∃ w3, w3 = w2.drew := ⟨_, rfl⟩
  have b3 : w3.heap[w.heap.size]? = some (.cells #[.int .i64 0, .int .u8 0, .int .i64 0, .int .i64 0, .int .i64 0] 62 (0, 0)) := by rw [hw3]; exact HB0.out
  have HK3 : Seal (Keep Nope w w3) := ⟨by rw [hw3]; exact k2.drew⟩
  rw [← hw3]
  obtain ⟨c0, c1, c2, c3, c4⟩ := cells5 b3
  have hf := free_of_block b3
  have HB3 : Seal _ := ⟨b3⟩
  clear hw3 b3 k2
  go_wp2
  obtain ⟨bz, kz⟩ := store5 HB3.out (.int .i64 0) (.int .u8 0) (.int .i64 0) (.int .i64 0) (.int .i64 0) _ rfl
  obtain ⟨z0, z1, z2, z3, z4⟩ := cells5 bz
  refine bodyPost_ret (v := .tuple #[.agg #[.int .i64 0, .int .u8 0, .int .i64 0, .int .i64 0, .int .i64 0], .bool false]) (by simp [results, Tryz.results45, go_sem, z0, z1, z2, z3, z4]) rfl ?_
  exact ⟨rfl, HK3.out.trans (kz.mono fun i hi h => h) (fun i hi h => by omega)⟩

set_option maxHeartbeats 2000000 in
theorem FCell_at (k : Nat) (c : Cel) (pre post : List Cel) (P : Sp) (W : Nat → Nat) (f : Nat → Bool) (w : World) (h : SpaceAt w P W f) (hc : CellsAt P W (pre ++ c :: post)) (hst : ∀ i, i < P.n / 2 → f i = startOf (pre ++ c :: post) i) (h1 : 2 * c.g ≤ k) (h2 : k < 2 * c.fin) :
    Calls Tryz.prog 45 #[.pointer (some ⟨P.s, 0, none⟩), .int .u64 ((1048576 + k : Nat) : Int)] w fun e w' => e = .returned (.tuple #[cellV c, .bool true]) ∧ Keep Nope w w' := by
  have hsm := h.ar.small
  have hev := h.ev
  have t := hc.tl.fin_at
  have hle := t.2.1.le
  have hkn : k < P.n := by omega
  have hk6 : k < 65536 := by omega
  have HW : Seal (∀ w', Calls Tryz.prog 79 #[.int .u64 ((1048576 + k : Nat) : Int)] w' fun e w'' => e = .returned (.tuple #[.int .i64 (k : Nat), .bool true]) ∧ w'' = w') := ⟨fun w' => SWord_yes k w' (by omega)⟩
  have HG : Seal (∀ w', Keep Nope w w' → Calls Tryz.prog 19 #[.pointer (some ⟨P.s, 0, none⟩)] w' fun e w'' => e = .returned (.int .i64 ((P.n / 2 : Nat) : Int)) ∧ w'' = w') := ⟨fun w' kk => Gran_at P W f w' (h.keepN kk)⟩
  have HCl : Seal (∀ w', Keep Nope w w' → Calls Tryz.prog 25 #[.pointer (some ⟨P.s, 0, none⟩)] w' fun e w'' => ∃ v, e = .returned v ∧ w''.ownsRow w'.heap.size 62 5 v (pre ++ c :: post).length (flatC (pre ++ c :: post)) ∧ Keep Nope w' w'') := ⟨fun w' kk => Cells_at P _ w' ⟨W, f, h.keepN kk, hc, hst⟩⟩
  have hlen : (pre ++ c :: post).length ≤ 32768 := by have := tiles_len hc.tl; omega
  have HTl : Seal _ := ⟨hc.tl⟩
  obtain ⟨H, hH⟩ : ∃ H, P.n / 2 = H := ⟨_, rfl⟩
  rw [hH] at HG HTl
  have d1 : decide ((2 : Int) * (H : Nat) ≤ (k : Nat)) = false := decide_eq_false (by omega)
  have hH2 : H ≤ 32768 := by omega
  have hwr : IntKind.i64.wrap (2 * (H : Nat)) = 2 * (H : Nat) := by rw [IntKind.wrap_i64]; omega
  have HFin : Seal (c.g ≤ k / 2 ∧ k / 2 < c.fin) := ⟨by omega⟩
  obtain ⟨w2, hw2⟩ : ∃ w2, w2 = (w.alloc (.cells #[.int .i64 0, .int .u8 0, .int .i64 0, .int .i64 0, .int .i64 0] 62)).alloc (.cells #[.int .i64 (k : Nat)] 3) := ⟨_, rfl⟩
  have k2 : Keep Nope w w2 := by rw [hw2]; exact ((Keep.refl _ w).alloc _).alloc _
  have b0 : w2.heap[w.heap.size]? = some (.cells #[.int .i64 0, .int .u8 0, .int .i64 0, .int .i64 0, .int .i64 0] 62 (0, 0)) := by rw [hw2]; exact ((Keep.refl Nope _).alloc _).at_ (World.alloc_heap_new w _) (fun h => h)
  have b1 : w2.heap[w.heap.size + 1]? = some (.cells #[.int .i64 (k : Nat)] 3 (0, 0)) := by
    rw [hw2]
    have := World.alloc_heap_new (w.alloc (.cells #[.int .i64 0, .int .u8 0, .int .i64 0, .int .i64 0, .int .i64 0] 62)) (.cells #[.int .i64 (k : Nat)] 3)
    rwa [show (w.alloc (.cells #[.int .i64 0, .int .u8 0, .int .i64 0, .int .i64 0, .int .i64 0] 62)).heap.size = w.heap.size + 1 by simp] at this
  have c1 := cell_of_one b1
  have HB0 : Seal _ := ⟨b0⟩
  have HC1 : Seal _ := ⟨c1⟩
  have HK2 : Seal _ := ⟨k2⟩
  clear h hc hst h1 h2 hkn hle t hH hev hsm b0 b1 k2
  go_enter Tryz.func45, Tryz.ntmps45
  go_wp2_with fail
  refine (HW.out _).mono ?_
  rintro e w' ⟨rfl, rfl⟩
  go_wp2_with fail
  rw [← hw2]
  clear hw2
  have k2 : Keep Nope w w2 := HK2.out
  go_region_held3 (fun w' => w'.cell? ⟨w.heap.size + 1, 0, none⟩ = some (.int .i64 (k : Nat)))
    (first | exact c1 | exact keepc (by (repeat (first | assumption | exact Keep.refl _ _ | refine Keep.drew ?_ | refine Keep.alloc ?_ _ | refine Keep.setNew ?_ (by omega) _))) c1)
    (first | (go_at_call 19; (with_reducible refine (HG.out _ (by first | exact Keep.then' k2 (by (repeat (first | assumption | exact Keep.refl _ _ | refine Keep.drew ?_ | refine Keep.alloc ?_ _ | refine Keep.setNew ?_ (by omega) _))))).mono ?_); rintro e w9 ⟨rfl, rfl⟩))
  obtain ⟨w3, hw3⟩ : ∃ w3, w3 = w2.drew := ⟨_, rfl⟩
  have b3 : w3.heap[w.heap.size]? = some (.cells #[.int .i64 0, .int .u8 0, .int .i64 0, .int .i64 0, .int .i64 0] 62 (0, 0)) := by rw [hw3]; exact HB0.out
  have d3 : w3.cell? ⟨w.heap.size + 1, 0, none⟩ = some (.int .i64 (k : Nat)) := by rw [hw3]; exact HC1.out
  have HK3 : Seal (Keep Nope w w3) := ⟨by rw [hw3]; exact k2.drew⟩
  rw [← hw3]
  have HB3 : Seal _ := ⟨b3⟩
  have HD3 : Seal _ := ⟨d3⟩
  clear hw3 b3 d3 k2 c1
  go_wp2_with fail
  refine (HCl.out _ HK3.out).mono ?_
  rintro e w6 ⟨v, rfl, hown, k6⟩
  have HRow : Seal _ := ⟨RowC.of_owns hown⟩
  have HK6 : Seal _ := ⟨k6⟩
  have HLa : Seal _ := ⟨Last_at (pre ++ c :: post) (w.heap.size + 1) k H v w6 (by omega) (by omega) HTl.out (k6.cell HD3.out (fun h => h)) HRow.out⟩
  have hmf : ∀ (fn : Fn) (first cap : Array Value) (w : World), (Instr.makeFunc fn first cap).run Tryz.prog w = .ok (.func fn first cap) w := fun _ _ _ _ => rfl
  obtain ⟨L, hL⟩ : ∃ L, (pre ++ c :: post).length = L := ⟨_, rfl⟩
  have HL : Seal _ := ⟨hL⟩
  obtain ⟨va, vc, hva, -⟩ := HRow.out
  rw [hL] at hva hlen
  subst hva
  clear hown k6 HCl hL
  go_wp2_with fail
  refine HLa.out.mono ?_
  rintro e w7 ⟨kk, hkk, rfl, hp, k7⟩
  obtain rfl : kk = pre.length + 1 := by
    have e0 : gAt (pre ++ c :: post) pre.length = c.g := gAt_of (by simp)
    have g1 : pre.length < kk := by
      rcases Nat.lt_or_ge pre.length kk with h | h
      · exact h
      · have := hp.2 pre.length h (by simp)
        have := HFin.out.1
        omega
    rcases Nat.lt_or_ge (pre.length + 1) kk with h | h
    · have hl : pre.length + 1 < (pre ++ c :: post).length := by have := HL.out; omega
      obtain ⟨x, hx⟩ : ∃ x, (pre ++ c :: post)[pre.length + 1]? = some x := ⟨_, List.getElem?_eq_getElem hl⟩
      have g2 := hp.1 (pre.length + 1) h
      rw [gAt_of hx] at g2
      have hxp : x ∈ post := by
        rw [List.getElem?_append_right (by omega), show pre.length + 1 - pre.length = 1 by omega] at hx
        exact List.mem_of_getElem? (by simpa using hx : post[0]? = some x)
      have := HTl.out.fin_at.2.1.mem hxp
      have := HFin.out.2
      omega
    · omega
  have HK7 : Seal _ := ⟨k7⟩
  have hL := HL.out
  rw [hL] at hkk
  obtain ⟨a', cap', ha', hrow⟩ := HRow.out.keepN k7
  obtain ⟨b, hab, hb0, r0, r1, r2, r3, r4⟩ := hrow pre.length c (by simp)
  have hva : va = some ⟨b, 0, none⟩ := by injection ha' with h1; rw [h1]; exact hab
  subst hva
  have b7 := k7.at_ (HK6.out.at_ HB3.out (fun h => h)) (fun h => h)
  have hf := free_of_block b7
  obtain ⟨c0, c1, c2, c3, c4⟩ := cells5 b7
  have HB7 : Seal _ := ⟨b7⟩
  obtain ⟨p, hp'⟩ : ∃ p, pre.length = p := ⟨_, rfl⟩
  have hpl : (p : Int) < (L : Int) := by have h9 := hL; simp at h9; omega
  rw [hp'] at r0 r1 r2 r3 r4
  rw [hp', show (((p + 1 : Nat) : Int) - 1) = (p : Int) by omega]
  have dn : decide ((p : Int) < 0) = false := decide_eq_false (by omega)
  clear hrow ha' hab hp k7 b7 hkk hL hp'
  go_wp2
  obtain ⟨bz, kz⟩ := store5 HB7.out (.int .i64 (c.g : Nat)) (.int .u8 (c.tag : Nat)) (.int .i64 (c.ty : Nat)) (.int .i64 (c.ln : Nat)) (.int .i64 (c.sz : Nat)) _ rfl
  obtain ⟨z0, z1, z2, z3, z4⟩ := cells5 bz
  refine bodyPost_ret (v := .tuple #[.agg #[.int .i64 (c.g : Nat), .int .u8 (c.tag : Nat), .int .i64 (c.ty : Nat), .int .i64 (c.ln : Nat), .int .i64 (c.sz : Nat)], .bool true]) (by simp [results, Tryz.results45, go_sem, z0, z1, z2, z3, z4]) rfl ?_
  exact ⟨rfl, ((HK3.out.then' HK6.out).then' HK7.out).trans (kz.mono fun i hi h => h) (fun i hi h => by omega)⟩

/-- Any address beside the words. -/
theorem FCell_out (y : Nat) (P : Sp) (W : Nat → Nat) (f : Nat → Bool) (w : World) (h : SpaceAt w P W f) (hy : ¬ (1048576 ≤ y ∧ y < 1048576 + P.n)) (hy2 : y < 18446744073709551616) : Calls Tryz.prog 45 #[.pointer (some ⟨P.s, 0, none⟩), .int .u64 (y : Nat)] w (CellFail w) := by
  by_cases h1 : y < 1048576 ∨ 1114112 ≤ y
  · exact FCell_no y P W f w h h1 hy2
  · obtain ⟨k, rfl⟩ : ∃ k, y = 1048576 + k := ⟨y - 1048576, by omega⟩
    exact FCell_far k P W f w h (by omega) (by omega)

end Go.Proofs.YtpmiidpbngbclaaGreatDoor
