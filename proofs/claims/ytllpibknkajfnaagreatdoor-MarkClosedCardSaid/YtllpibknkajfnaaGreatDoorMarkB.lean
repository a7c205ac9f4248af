/-
 mark: the objects that one refers to.
 mark: drain follows what waits.
 mark: again goes through the heap once more.
-/
import Derived.Test.YtllpibknkajfnaaGreatDoorMarkA
import Derived.Test.YtllpibknkajfnaaGreatDoorFindB
import Derived.Test.YtllpibknkajfnaaGreatDoorRefsAll
namespace Go.Proofs.YtllpibknkajfnaaGreatDoor
open Go.RowKit Go.Conc
set_option linter.unusedVariables false
attribute [local go_sem] Oper.semAt_some

/-- The words that a cell refers with. -/
def tgtsC (ts : List TypR) (W : Nat → Nat) (c : Cel) : List Nat := tgtL W c.g (refsC ts c)

/-- The object that a word is the address of. -/
def kidOf (fs : Nat → Bool) (H y : Nat) : List Nat := if 1048576 ≤ y ∧ y < 1114112 ∧ (y - 1048576) % 2 = 0 ∧ hasI fs H (((y - 1048576) / 2 : Nat) : Int) = true then [(y - 1048576) / 2] else []

def kidL (fs : Nat → Bool) (H : Nat) (ys : List Nat) (j : Nat) : List Nat := (ys.take j).flatMap (kidOf fs H)

theorem kidL_succ {fs : Nat → Bool} {H : Nat} {ys : List Nat} {j y : Nat} (h : ys[j]? = some y) : kidL fs H ys (j + 1) = kidL fs H ys j ++ kidOf fs H y := by
 unfold kidL
 rw [List.take_add_one, h, List.flatMap_append]
 simp

theorem kidL_len (fs : Nat → Bool) (H : Nat) (ys : List Nat) : ∀ j, (kidL fs H ys j).length ≤ j
 | 0 => by simp [kidL]
 | j + 1 => by
  cases h : ys[j]? with
  | some y =>
   rw [kidL_succ h, List.length_append]
   have := kidL_len fs H ys j
   have : (kidOf fs H y).length ≤ 1 := by unfold kidOf; split <;> simp
   omega
  | none =>
   have h1 : kidL fs H ys (j + 1) = kidL fs H ys j := by unfold kidL; rw [List.take_add_one, h]; simp
   rw [h1]
   exact Nat.le_succ_of_le (kidL_len fs H ys j)

theorem row_u64 {w : World} {base : Nat} {e : TypeId} {a : Option Addr} {n c : Nat} {xs : List Nat} {i x : Nat} (h : w.ownsRow base e 1 (.slice a n c) n (u64Vs xs)) (hx : xs[i]? = some x) : ∃ b, a = some ⟨b, 0, none⟩ ∧ w.cell? ⟨b, i, none⟩ = some (.int .u64 (x : Nat)) := by
 have hi := (List.getElem?_eq_some_iff.1 hx).1
 have hn : xs.length = n := by have := h.1; simpa [u64Vs] using this
 rcases h.2 with ⟨-, h0⟩ | ⟨g, cap, cur, hv, g2, g3, g4, g5, g6, g7⟩
 ·omega
 ·injection hv with h1 h2 h3
  refine ⟨g, h1, ?_⟩
  have : cur.toList[i]? = some (.int .u64 (x : Nat)) := by
   rw [← List.getElem?_take_of_lt (j := n * 1) (by omega), g7, u64Vs, List.getElem?_map, hx]
   rfl
  simp only [World.cell?, g3]
  rw [← this]
  simp

theorem SOf_full (c : Cel) (P : Sp) (W : Nat → Nat) (f : Nat → Bool) (cs : List Cel) (w : World) (h : SpaceAt w P W f) (hc : CellsAt P W cs) (hm : c ∈ cs) (ht : c.tag = 1) :
  Calls Tryz.prog 34 #[.pointer (some ⟨P.a, 0, none⟩), .pointer (some ⟨P.t, 0, none⟩), .int .i64 (c.g : Nat)] w fun e w' =>
   ∃ b k wds m, (typeOf P.ts (c.ty : Nat) = some ⟨k, wds, m⟩ ∧ kindE k wds m (c.ln : Nat) = 0 ∧ slotsT k wds (c.ln : Nat) = (slotN P.ts c : Nat)) ∧ e = .returned (.tuple #[.pointer (some ⟨b, 0, none⟩), .int .i64 0]) ∧ ViewAt w' b P.a c k wds m ∧ w.heap.size ≤ b ∧ Keep Nope w w' := by
 refine (SOf_any (c.g : Nat) P.a P.q P.n P.t P.tq W P.ts w h.fl h.ar h.tb).mono ?_
 intro e w' hp
 unfold SOfPost at hp
 rw [hc.obj hm ht] at hp
 obtain ⟨b, k, wds, m, h1, h2, h3, h4, h5⟩ := hp
 have hk := kind_of hc hm ht h1
 refine ⟨b, k, wds, m, ⟨h1, hk, ?_⟩, h2, h3, h4, h5⟩
 unfold slotN
 rw [if_pos ht, h1]
 dsimp only
 have := (slotsT_range hk).1
 omega

def KidsPost (L : List Nat) (w : World) (e : Ending) (w' : World) : Prop :=
 ∃ a n c, e = .returned (.slice a n c) ∧ w'.ownsRow w.heap.size 3 1 (.slice a n c) n (natVs L) ∧ Keep Nope w w'

set_option maxRecDepth 20000 in
set_option maxHeartbeats 8000000 in
theorem Kids_at (P : Sp) (W : Nat → Nat) (f : Nat → Bool) (cs : List Cel) (c : Cel) (mb c0 cap base : Nat) (sp sq mp mq H : Nat) (fs : Nat → Bool) (lv : Value) (S : MS) (w : World) (hsp : SpaceAt w P W f) (hc : CellsAt P W cs) (hm : c ∈ cs) (ht : c.tag = 1) (hms : ∀ x ∈ P.ts, x.m < 18446744073709551616)
  (h : MarkAt w mb c0 cap base (.pointer (some ⟨P.s, 0, none⟩)) sp sq mp mq H fs lv S) :
  Calls Tryz.prog 98 #[.pointer (some ⟨mb, 0, none⟩), .int .i64 (c.g : Nat)] w (KidsPost (kidL fs H (tgtsC P.ts W c) (tgtsC P.ts W c).length) w) := by
 have hst := h.st
 obtain ⟨b0, b1, -, -, -, -, -, -⟩ := cells8 hst.blk
 have hsm := hsp.ar.small
 have HFit : Seal (2 * c.g + 1 + slotN P.ts c ≤ P.n) := ⟨by
  have h1 := slotN_room (hc.ok c hm) (hc.tl.mem hm).2.2
  have h2 := (hc.tl.mem hm).2.1
  have h3 := hsp.ev
  unfold Cel.fin at *
  omega⟩
 have HAr : Seal (∀ w', Keep Nope w w' → Calls Tryz.prog 12 #[.pointer (some ⟨P.s, 0, none⟩)] w' fun e w'' => e = .returned (.pointer (some ⟨P.a, 0, none⟩)) ∧ w'' = w') := ⟨fun w' kk => SArena_at P W f w' (hsp.keepN kk)⟩
 have HTb : Seal (∀ w', Keep Nope w w' → Calls Tryz.prog 13 #[.pointer (some ⟨P.s, 0, none⟩)] w' fun e w'' => e = .returned (.pointer (some ⟨P.t, 0, none⟩)) ∧ w'' = w') := ⟨fun w' kk => STable_at P W f w' (hsp.keepN kk)⟩
 have HOf : Seal _ := ⟨fun w' (kk : Keep Nope w w') => SOf_full c P W f cs w' (hsp.keepN kk) hc hm ht⟩
 have HSp : Seal _ := ⟨hsp⟩
 have HHas : Seal (∀ (i : Int) W', Keep Nope w W' → Calls Tryz.prog 18 #[.pointer (some ⟨sp, 0, none⟩), .int .i64 i] W' fun e w' => e = .returned (.bool (hasI fs H i)) ∧ Keep Nope W' w') := ⟨fun i W' kk => Has_int i H sp sq fs W' (h.sb.keep kk (fun e => e) (fun e => e))⟩
 have HMs : Seal _ := ⟨hms⟩
 clear h hst hsp hc hm ht hms hsm
 go_enter Tryz.func98, Tryz.ntmps98
 go_wp2_with fail
 go_region_held3 (fun w' => w'.cell? ⟨mb, 0, none⟩ = some (.pointer (some ⟨P.s, 0, none⟩)))
  (first | exact b0 | exact keepc (by (repeat (first | assumption | exact Keep.refl _ _ | refine Keep.drew ?_ | refine Keep.alloc ?_ _ | refine Keep.setNew ?_ (by omega) _))) b0)
  (first
   | (go_at_call 12; (with_reducible refine (HAr.out _ (by (repeat (first | assumption | exact Keep.refl _ _ | refine Keep.drew ?_ | refine Keep.alloc ?_ _ | refine Keep.setNew ?_ (by omega) _)))).mono ?_); rintro e w2 ⟨rfl, rfl⟩)
   | (go_at_call 13; (with_reducible refine (HTb.out _ (by (repeat (first | assumption | exact Keep.refl _ _ | refine Keep.drew ?_ | refine Keep.alloc ?_ _ | refine Keep.setNew ?_ (by omega) _)))).mono ?_); rintro e w3 ⟨rfl, rfl⟩)
   | (go_at_call 34; (with_reducible refine (HOf.out _ (by (repeat (first | assumption | exact Keep.refl _ _ | refine Keep.drew ?_ | refine Keep.alloc ?_ _ | refine Keep.setNew ?_ (by omega) _)))).mono ?_); rintro e w4 ⟨b, kd, wds, mk, hE, rfl, hV, hb, k4⟩; have K4 : Keep Nope w w4 := Keep.then' (by (repeat (first | assumption | exact Keep.refl _ _ | refine Keep.drew ?_ | refine Keep.alloc ?_ _ | refine Keep.setNew ?_ (by omega) _))) k4))
 obtain ⟨h1, hE0, hSl⟩ := hE
 have hmk : mk < 18446744073709551616 := HMs.out ⟨kd, wds, mk⟩ (by
  unfold typeOf at h1
  split at h1
  ·exact List.mem_of_getElem? h1
  ·cases h1)
 have hys : tgtsC P.ts W c = tgtL W c.g (refsT kd wds mk (c.ln : Nat)) := by
  unfold tgtsC refsC
  rw [h1]
 have HSp4 := HSp.out.keepN K4
 have HTg : Seal _ := ⟨Targets_at b P.a P.q P.n W c kd wds mk w4 HSp4.ar hV hE0 hmk (by rw [hSl]; have := HFit.out; omega)⟩
 obtain ⟨ys, hysq⟩ : ∃ ys, tgtsC P.ts W c = ys := ⟨_, rfl⟩
 have hylt : ∀ y ∈ ys, y < 18446744073709551616 := fun y hy => by
  rw [← hysq, hys] at hy
  unfold tgtL at hy
  obtain ⟨hy, -⟩ := List.mem_filter.1 hy
  obtain ⟨s, hs, rfl⟩ := List.mem_map.1 hy
  have hs2 := refsT_mem hE0 hs
  exact HSp4.ar.fits _ (by have := HFit.out; omega)
 have hylen : ys.length ≤ 65536 := by
  rw [← hysq, hys]
  exact Nat.le_trans (tgtL_len _ _ _) (by have := refsT_len (M := mk) hE0; omega)
 rw [← hys, hysq] at HTg
 have HYq : Seal _ := ⟨hysq⟩
 have HYlt : Seal _ := ⟨hylt⟩
 have HK4 : Seal _ := ⟨K4⟩
 have c1 := K4.cell b1 (fun h => h)
 clear h1 hE0 hSl hys HSp4 hysq hylt K4 k4 hV hb b0 b1 HAr HTb HOf
 go_wp2_with fail
 refine HTg.out.mono ?_
 rintro e w5 ⟨tv, rfl, own5, k5⟩
 obtain ⟨ta, tc, rfl⟩ := owns_slice own5
 have HO5 : Seal _ := ⟨own5⟩
 have HK5 : Seal _ := ⟨HK4.out.then' k5⟩
 have c1' := k5.cell c1 (fun h => h)
 have z5 : w.heap.size ≤ w5.heap.size := HK5.out.size
 clear own5 k5 c1
 go_wp2_with fail
 obtain ⟨B, hB⟩ : ∃ B, w5.heap.size = B := ⟨_, rfl⟩
 obtain ⟨L, hL⟩ : ∃ L, ys.length = L := ⟨_, rfl⟩
 have HBw : Seal _ := ⟨hB⟩
 have HL : Seal _ := ⟨hL⟩
 rw [hB] at z5
 rw [hL] at hylen
 simp only [hL]
 rw [hL] at HO5
 go_loopw [4, 8, 9, 10, 31] (fun x4 _ _ _ x31 wr => ∃ j : Nat, j ≤ L ∧ x31 = .int .i64 (j : Nat) ∧ (∃ a n c, x4 = .slice a n c) ∧ wr.ownsRow B 3 1 x4 (kidL fs H ys j).length (natVs (kidL fs H ys j)) ∧ Keep Nope w5 wr ∧ B ≤ wr.heap.size) (fun _ _ _ _ x31 _ => L - (intOf x31).toNat)
 case atStart => exact ⟨0, by omega, rfl, ⟨_, _, _, rfl⟩, World.ownsRow_nil _ _ _ _, Keep.refl _ _, by omega⟩
 case round =>
  obtain ⟨j, hj, rfl, ⟨la, ln, lc, rfl⟩, ho, hk, hsz⟩ := hrel
  have HO : Seal _ := ⟨ho⟩
  have HK : Seal _ := ⟨hk⟩
  by_cases hjl : j < L
  ·have hjl' : (j : Int) < (L : Int) := by omega
   have hyj : ys[j]? = some (ys[j]'(by rw [HL.out]; exact hjl)) := List.getElem?_eq_getElem _
   obtain ⟨y, hy⟩ : ∃ y, ys[j]'(by rw [HL.out]; exact hjl) = y := ⟨_, rfl⟩
   rw [hy] at hyj
   obtain ⟨tb, rfl, hcell⟩ := row_u64 HO5.out hyj
   have hylt := HYlt.out y (List.mem_of_getElem? hyj)
   have HAdd : Seal _ := ⟨kidL_succ (fs := fs) (H := H) hyj⟩
   have HLn : Seal ((kidL fs H ys j).length ≤ 65536) := ⟨by have := kidL_len fs H ys j; omega⟩
   replace hcell := hk.cell hcell (fun h => h)
   have c1w := hk.cell c1' (fun h => h)
   clear ho hk hB hL hy hyj
   by_cases hw1 : 1048576 ≤ y ∧ y < 1114112
   ·obtain ⟨k, rfl⟩ : ∃ k, y = 1048576 + k := ⟨y - 1048576, by omega⟩
    have hk6 : k < 65536 := by omega
    have HW : Seal (∀ W', Calls Tryz.prog 122 #[.int .u64 ((1048576 + k : Nat) : Int)] W' fun e w' => e = .returned (.tuple #[.int .i64 (k : Nat), .bool true]) ∧ w' = W') := ⟨fun W' => SWord_yes k W' hk6⟩
    have HKid : Seal (kidOf fs H (1048576 + k) = if k % 2 = 0 ∧ hasI fs H ((k : Int) / 2) = true then [k / 2] else []) := ⟨by
     unfold kidOf
     rw [Nat.add_sub_cancel_left, show (((k / 2 : Nat) : Int)) = (k : Int) / 2 by omega]
     by_cases q : k % 2 = 0 ∧ hasI fs H ((k : Int) / 2) = true
     ·rw [if_pos q, if_pos ⟨by omega, by omega, q.1, q.2⟩]
     ·rw [if_neg q, if_neg (fun h => q ⟨h.2.2.1, h.2.2.2⟩)]⟩
    clear hw1 hylt
    obtain ⟨y, hyq⟩ : ∃ y, 1048576 + k = y := ⟨_, rfl⟩
    rw [hyq] at hcell HW HKid HAdd
    clear hyq
    by_cases q1 : k % 2 = 0
    ·have p1 : ((k : Int) % 2 == 0) = true := by simp; omega
     have HHk := HHas.out ((k : Int) / 2)
     cases q2 : hasI fs H ((k : Int) / 2) with
     | true =>
      rw [q2] at HHk
      rw [HKid.out, if_pos ⟨q1, q2⟩] at HAdd
      have HHs : Seal _ := ⟨HHk⟩
      clear q1 q2 HHk HKid
      go_wp2_with fail
      refine (HW.out _).mono ?_
      rintro e w6 ⟨rfl, rfl⟩
      go_wp2_with fail
      refine (HHs.out _ (HK5.out.then' HK.out)).mono ?_
      rintro e w7 ⟨rfl, k7⟩
      have HK7 : Seal _ := ⟨HK.out.then' k7⟩
      have HR7 : Seal _ := ⟨ownsRow_keep HO.out k7 (fun _ _ h => h)⟩
      have hz7 := k7.size
      clear k7
      have HD : Seal ((k : Int) / 2 = ((k / 2 : Nat) : Int)) := ⟨by omega⟩
      go_wp2_with (at_builtin; obtain ⟨i0, hi, hz0, hz1, hz2⟩ := info_parts Tryz.infoInt; go_loud (refine wpList_append_lies _ rfl (.tmp 55) (.tmp 58) 33 rfl B 3 i0 _ 1 8 Tryz.underlyingInts hi hz0 hz1 hz2 rfl (by omega) (.slice la ln lc) (kidL fs H ys j).length (natVs (kidL fs H ys j)) rfl (HR7.out.alloc _) ⟨w7.heap.size, 0, none⟩ 1 1 [.int .i64 ((k : Int) / 2)] rfl rfl (World.news_of_block (World.alloc_heap_new w7 _)) (by intro u hu; simp at hu; subst hu; rfl) (by omega) (by have := HLn.out; unfold maxLen; omega) (by have := HLn.out; omega) (by simp; omega) (w7.heap.size + 1) (by simp) ?_); intro gn capn w8 hown8 hgrow hat hlt; clear hi hz0 hz1 hz2; have HGr : Seal _ := ⟨hgrow⟩; have HR8 : Seal _ := ⟨hown8⟩; clear hown8 hgrow hat)
      have k8 : Keep (fun k => B ≤ k) w7 w8 := ((Keep.refl Nope w7).alloc (.cells #[.int .i64 ((k : Int) / 2)] 3) |>.of_not _).grown HGr.out (fun k e _ => (ownsRow_block HR7.out e).1)
      have hR : w8.ownsRow B 3 1 (.slice (some ⟨gn, 0, none⟩) ((kidL fs H ys j).length + 1) capn) (kidL fs H ys (j + 1)).length (natVs (kidL fs H ys (j + 1))) := by
       have := HR8.out
       rw [HD.out] at this
       rw [HAdd.out, natVs, List.map_append, List.length_append]
       exact this
      have hz8 := k8.size
      exact ⟨⟨j + 1, by omega, by go_num, ⟨_, _, _, rfl⟩, hR, ((HK7.out.of_not (fun k => B ≤ k)).trans k8 (fun _ _ h => h)).mono (fun i hi h => by have := HBw.out; omega), by omega⟩, by simp only [intOf]; omega⟩
     | false =>
      rw [q2] at HHk
      rw [HKid.out, if_neg (by rw [q2]; simp), List.append_nil] at HAdd
      have HHs : Seal _ := ⟨HHk⟩
      clear q1 q2 HHk HKid
      go_wp2_with fail
      refine (HW.out _).mono ?_
      rintro e w6 ⟨rfl, rfl⟩
      go_wp2_with fail
      refine (HHs.out _ (HK5.out.then' HK.out)).mono ?_
      rintro e w7 ⟨rfl, k7⟩
      have HK7 : Seal _ := ⟨HK.out.then' k7⟩
      have HR7 : Seal _ := ⟨ownsRow_keep HO.out k7 (fun _ _ h => h)⟩
      have hz7 := k7.size
      clear k7
      go_wp2
      exact ⟨⟨j + 1, by omega, by go_num, ⟨_, _, _, rfl⟩, by rw [HAdd.out]; exact HR7.out, HK7.out, by omega⟩, by simp only [intOf]; omega⟩
    ·have p1 : ((k : Int) % 2 == 0) = false := by simp; omega
     rw [HKid.out, if_neg (fun h => q1 h.1), List.append_nil] at HAdd
     clear q1 HKid
     go_wp2_with fail
     refine (HW.out _).mono ?_
     rintro e w6 ⟨rfl, rfl⟩
     go_wp2
     exact ⟨⟨j + 1, by omega, by go_num, ⟨_, _, _, rfl⟩, by rw [HAdd.out]; exact HO.out, HK.out, hsz⟩, by simp only [intOf]; omega⟩
   ·have HW : Seal (∀ W', Calls Tryz.prog 122 #[.int .u64 (y : Nat)] W' fun e w' => e = .returned (.tuple #[.int .i64 0, .bool false]) ∧ w' = W') := ⟨fun W' => SWord_no y W' (by omega) hylt⟩
    have HE : Seal (kidL fs H ys (j + 1) = kidL fs H ys j) := ⟨by
     rw [HAdd.out, kidOf, if_neg (fun h => hw1 ⟨h.1, h.2.1⟩), List.append_nil]⟩
    clear hw1 hylt
    go_wp2_with fail
    refine (HW.out _).mono ?_
    rintro e w6 ⟨rfl, rfl⟩
    go_wp2
    exact ⟨⟨j + 1, by omega, by go_num, ⟨_, _, _, rfl⟩, by rw [HE.out]; exact HO.out, HK.out, hsz⟩, by simp only [intOf]; omega⟩
  ·obtain rfl : j = L := by omega
   clear ho hk hB hL
   go_wp2_with fail
   go_ret
   obtain ⟨a', c', hv⟩ := owns_slice HO.out
   injection hv with v1 v2 v3
   refine ⟨la, ln, lc, rfl, ?_, HK5.out.then' HK.out⟩
   rw [HYq.out, HL.out, v2]
   have := ownsRow_less5 HO.out z5
   rw [v2] at this
   exact this

end Go.Proofs.YtllpibknkajfnaaGreatDoor

namespace Go.Proofs.YtllpibknkajfnaaGreatDoor
open Go.RowKit Go.Conc
set_option linter.unusedVariables false

/-- What a marking goes over: the objects T, and which objects each refers to. -/
structure MCtx (KF : Nat → List Nat) (T rs : Nat → Prop) (mb c cap base : Nat) (v0 : Value) (sp sq mp mq H : Nat) (fs : Nat → Bool) (I : World → Prop) : Prop where
 hI : ∀ w w', I w → Keep (fun k => k = mb ∨ k = c ∨ k = mq ∨ base ≤ k) w w' → I w'
 hK : ∀ g, T g → ∀ w lv S, I w → MarkAt w mb c cap base v0 sp sq mp mq H fs lv S → Calls Tryz.prog 98 #[.pointer (some ⟨mb, 0, none⟩), .int .i64 (g : Nat)] w (KidsPost (KF g) w)
 hT : ∀ g, T g → g < H
 hKT : ∀ g, T g → ∀ k ∈ KF g, T k
 hl : ∀ g, T g → (KF g).length ≤ 65536

/-- A marking on its way, since w0. -/
structure MSt (KF : Nat → List Nat) (T rs : Nat → Prop) (mb c cap base : Nat) (v0 : Value) (sp sq mp mq H : Nat) (fs : Nat → Bool) (I : World → Prop) (X : Nat → Prop) (w0 : World) (lv0 : Value) (S0 : MS) (w : World) (lv : Value) (S : MS) : Prop where
 at_ : MarkAt w mb c cap base v0 sp sq mp mq H fs lv S
 inv : MInv KF T rs cap X S
 ext : MExt S0 S
 hi : I w
 own : ∀ b, lv.ownBlock = some b → lv0.ownBlock = some b ∨ w0.heap.size ≤ b
 kp : Keep (MarkS mb c mq lv0) w0 w

theorem MarkAt.ge {w : World} {mb c cap base : Nat} {v0 : Value} {sp sq mp mq H : Nat} {fs : Nat → Bool} {lv : Value} {S : MS} (h : MarkAt w mb c cap base v0 sp sq mp mq H fs lv S) {b : Nat} (hb : lv.ownBlock = some b) : base ≤ b := (ownsRow_block h.st.row hb).1

section
variable {KF : Nat → List Nat} {T rs : Nat → Prop} {mb c cap base : Nat} {v0 : Value} {sp sq mp mq H : Nat} {fs : Nat → Bool} {I : World → Prop} {X Y : Nat → Prop} {w0 w1 w2 : World} {lv0 lv1 lv2 : Value} {S0 S1 S2 : MS}

theorem MSt.trans (h : MSt KF T rs mb c cap base v0 sp sq mp mq H fs I X w0 lv0 S0 w1 lv1 S1) (k : MSt KF T rs mb c cap base v0 sp sq mp mq H fs I Y w1 lv1 S1 w2 lv2 S2) : MSt KF T rs mb c cap base v0 sp sq mp mq H fs I Y w0 lv0 S0 w2 lv2 S2 :=
 ⟨k.at_, k.inv, h.ext.trans k.ext, k.hi, fun b hb => by
  rcases k.own b hb with e | e
  ·exact h.own b e
  ·exact .inr (Nat.le_trans h.kp.size e), h.kp.trans k.kp (fun i hi e => by
  rcases e with e | e | e | e
  ·exact .inl e
  ·exact .inr (.inl e)
  ·exact .inr (.inr (.inl e))
  ·rcases h.own i e with e | e
   ·exact .inr (.inr (.inr e))
   ·omega)⟩

theorem MSt.refl (h : MarkAt w0 mb c cap base v0 sp sq mp mq H fs lv0 S0) (k : MInv KF T rs cap X S0) (hi : I w0) : MSt KF T rs mb c cap base v0 sp sq mp mq H fs I X w0 lv0 S0 w0 lv0 S0 :=
 ⟨h, k, MExt.refl _, hi, fun b hb => .inl hb, Keep.refl _ _⟩

theorem MSt.new (C : MCtx KF T rs mb c cap base v0 sp sq mp mq H fs I) (h : MSt KF T rs mb c cap base v0 sp sq mp mq H fs I X w0 lv0 S0 w1 lv1 S1) (k : Keep Nope w1 w2) : MSt KF T rs mb c cap base v0 sp sq mp mq H fs I X w0 lv0 S0 w2 lv1 S1 :=
 ⟨h.at_.keep k (fun b e => e.elim), h.inv, h.ext, C.hI _ _ h.hi (k.mono fun _ _ e => e.elim), h.own, h.kp.trans k (fun i _ e => e.elim)⟩

theorem MSt.inv' (h : MSt KF T rs mb c cap base v0 sp sq mp mq H fs I X w0 lv0 S0 w1 lv1 S1) (k : MInv KF T rs cap Y S1) : MSt KF T rs mb c cap base v0 sp sq mp mq H fs I Y w0 lv0 S0 w1 lv1 S1 :=
 ⟨h.at_, k, h.ext, h.hi, h.own, h.kp⟩

/-- One more is marked. -/
theorem MSt.mark (C : MCtx KF T rs mb c cap base v0 sp sq mp mq H fs I) (h : MSt KF T rs mb c cap base v0 sp sq mp mq H fs I X w0 lv0 S0 w1 lv1 S1) {g : Nat} (ht : T g) (hr : MReach KF rs g) :
  Calls Tryz.prog 61 #[.pointer (some ⟨mb, 0, none⟩), .int .i64 (g : Nat)] w1 fun e w' => e = .returned (.tuple #[]) ∧ ∃ lv' S', MSt KF T rs mb c cap base v0 sp sq mp mq H fs I X w1 lv1 S1 w' lv' S' ∧ S'.f g = true := by
 refine (Mark_at mb c cap base v0 sp sq mp mq H fs lv1 S1 g (C.hT g ht) w1 h.at_).mono ?_
 rintro e w' ⟨he, lv', hM, hown, hk⟩
 obtain ⟨h1, h2, h3⟩ := markR_inv h.inv ht hr
 exact ⟨he, lv', _, ⟨hM, h1, h3, C.hI _ _ h.hi (hk.mono fun i _ e => by
  rcases e with e | e | e | e
  ·exact .inl e
  ·exact .inr (.inl e)
  ·exact .inr (.inr (.inl e))
  ·exact .inr (.inr (.inr (h.at_.ge e)))), hown, hk⟩, h2⟩

/-- What pop leaves. -/
def PopSt (KF : Nat → List Nat) (T rs : Nat → Prop) (mb c cap base : Nat) (v0 : Value) (sp sq mp mq H : Nat) (fs : Nat → Bool) (I : World → Prop) (X : Nat → Prop) (w0 : World) (lv0 : Value) (S0 : MS) (e : Ending) (w' : World) : Prop :=
 (∃ (g : Nat) (lv : Value) (S : MS), e = .returned (.tuple #[.int .i64 (g : Nat), .bool true]) ∧ MSt KF T rs mb c cap base v0 sp sq mp mq H fs I (fun x => X x ∨ x = g) w0 lv0 S0 w' lv S ∧ S.f g = true ∧ S.stk.length + 1 = S0.stk.length ∧ S.n = S0.n) ∨
  (e = .returned (.tuple #[.int .i64 0, .bool false]) ∧ S0.stk = [] ∧ w' = w0)

theorem MSt.pop (C : MCtx KF T rs mb c cap base v0 sp sq mp mq H fs I) (h : MSt KF T rs mb c cap base v0 sp sq mp mq H fs I X w0 lv0 S0 w1 lv1 S1) :
  Calls Tryz.prog 97 #[.pointer (some ⟨mb, 3, none⟩)] w1 (PopSt KF T rs mb c cap base v0 sp sq mp mq H fs I X w1 lv1 S1) := by
 rcases List.eq_nil_or_concat S1.stk with e | ⟨stk, g, e⟩
 ·have hst := h.at_.st
  rw [e] at hst
  refine (Pop_none mb c cap base _ _ _ _ _ lv1 S1.deep w1 hst).mono ?_
  rintro e' w' ⟨rfl, rfl⟩
  exact .inr ⟨rfl, e, rfl⟩
 ·have e' : S1.stk = stk ++ [g] := by simpa using e
  have hst := h.at_.st
  rw [e'] at hst
  obtain ⟨h1, h2⟩ := h.inv.pop e'
  refine (Pop_some mb c cap base g _ _ _ _ _ lv1 stk S1.deep w1 hst h.at_.bz).mono ?_
  rintro e2 w' ⟨rfl, lv', st', own', k'⟩
  have hne := h.at_.ne
  have km : Keep (MarkS mb c mq lv1) w1 w' := k'.mono fun i _ e => by
   rcases e with e | e
   ·exact .inl e
   ·exact .inr (.inl e)
  refine .inl ⟨g, lv', ⟨S1.f, S1.full, S1.n, stk, S1.deep⟩, rfl, ⟨⟨st', ?_, ?_, h.at_.cnt, h.at_.ap, hne, Nat.le_trans h.at_.bz k'.size⟩, h1, ⟨fun _ e => e, Nat.le_refl _, fun e => e, fun e => .inl e, ?_⟩, C.hI _ _ h.hi (k'.mono fun i _ e => ?_), fun b hb => .inl (own' b hb), km⟩, h2, ?_, rfl⟩
  ·exact h.at_.sb.keep k' (fun e => by rcases e with e | e; exact hne.1 e.symm; exact hne.2.2.2.2.1 e.symm) (fun e => by rcases e with e | e; exact hne.2.1 e.symm; exact hne.2.2.2.2.2.1 e.symm)
  ·exact h.at_.mbits.keep k' (fun e => by rcases e with e | e; exact hne.2.2.1 e.symm; exact hne.2.2.2.2.2.2.1 e.symm) (fun e => by rcases e with e | e; exact hne.2.2.2.1 e.symm; exact hne.2.2.2.2.2.2.2.1 e.symm)
  ·rw [e']
   simp
  ·rcases e with e | e
   ·exact .inl e
   ·exact .inr (.inl e)
  ·rw [e']
   simp
end

def DrainPost (KF : Nat → List Nat) (T rs : Nat → Prop) (mb c cap base : Nat) (v0 : Value) (sp sq mp mq H : Nat) (fs : Nat → Bool) (I : World → Prop) (X : Nat → Prop) (w0 : World) (lv0 : Value) (S0 : MS) (e : Ending) (w' : World) : Prop :=
 e = .returned (.tuple #[]) ∧ ∃ lv S, MSt KF T rs mb c cap base v0 sp sq mp mq H fs I X w0 lv0 S0 w' lv S ∧ S.stk = []

set_option maxRecDepth 20000 in
set_option maxHeartbeats 8000000 in
theorem Drain_at {KF : Nat → List Nat} {T rs : Nat → Prop} {mb c cap base : Nat} {v0 : Value} {sp sq mp mq H : Nat} {fs : Nat → Bool} {I : World → Prop} {X : Nat → Prop} {lv0 : Value} {S0 : MS} (C : MCtx KF T rs mb c cap base v0 sp sq mp mq H fs I) (w : World) (h : MarkAt w mb c cap base v0 sp sq mp mq H fs lv0 S0) (hv : MInv KF T rs cap X S0) (hi : I w) :
  Calls Tryz.prog 62 #[.pointer (some ⟨mb, 0, none⟩)] w (DrainPost KF T rs mb c cap base v0 sp sq mp mq H fs I X w lv0 S0) := by
 have HC : Seal _ := ⟨C⟩
 have HM : Seal _ := ⟨MSt.refl (rs := rs) (KF := KF) (T := T) (I := I) (X := X) h hv hi⟩
 clear C h hv hi
 go_enter Tryz.func62, Tryz.ntmps62
 go_wp2_with fail
 refine (HM.out.pop HC.out).mono ?_
 intro e w1 hp
 have hp' : ∃ (g : Nat) (b : Bool), e = .returned (.tuple #[.int .i64 (g : Nat), .bool b]) := by
  rcases hp with ⟨g, _, _, rfl, _⟩ | ⟨rfl, _⟩
  ·exact ⟨g, true, rfl⟩
  ·exact ⟨0, false, rfl⟩
 obtain ⟨g0, b0, rfl⟩ := hp'
 have HP : Seal _ := ⟨hp⟩
 clear hp
 go_wp2_with fail
 go_loopw [2, 3, 5] (fun x2 x3 _ wr => (∃ (g : Nat) (lv : Value) (S : MS), x2 = .int .i64 (g : Nat) ∧ x3 = .bool true ∧ MSt KF T rs mb c cap base v0 sp sq mp mq H fs I (fun x => X x ∨ x = g) w lv0 S0 wr lv S ∧ S.f g = true) ∨ (x2 = .int .i64 0 ∧ x3 = .bool false ∧ ∃ (lv : Value) (S : MS), MSt KF T rs mb c cap base v0 sp sq mp mq H fs I X w lv0 S0 wr lv S ∧ S.stk = [])) (fun _ x3 _ wr => muW mb H wr + b01 x3)
 case atStart =>
  rcases HP.out with ⟨g, lv, S, he, hM, hf, -⟩ | ⟨he, hs, rfl⟩
  ·injection he with he
   injection he with he
   simp at he
   obtain ⟨he1, rfl⟩ := he
   have : g0 = g := by omega
   subst this
   exact .inl ⟨_, lv, S, rfl, rfl, hM, hf⟩
  ·injection he with he
   injection he with he
   simp at he
   obtain ⟨he1, rfl⟩ := he
   have : g0 = 0 := by omega
   subst this
   exact .inr ⟨rfl, rfl, lv0, S0, HM.out, hs⟩
 case round =>
  rcases hrel with ⟨g, lv1, S1, rfl, rfl, hM, hfg⟩ | ⟨rfl, rfl, lv1, S1, hM, hs⟩
  ·obtain ⟨hTg, hRg⟩ := hM.inv.re g hfg
   have HM1 : Seal _ := ⟨hM⟩
   have HKd : Seal _ := ⟨HC.out.hK g hTg wr lv1 S1 hM.hi hM.at_⟩
   have HTg : Seal _ := ⟨hTg⟩
   have HRg : Seal _ := ⟨hRg⟩
   have HMu : Seal _ := ⟨muW_at hM.at_⟩
   clear hM hfg hTg hRg HP
   go_wp2_with fail
   refine HKd.out.mono ?_
   rintro e w2 ⟨ka, kn, kc, rfl, kown, kk⟩
   obtain rfl : kn = (KF g).length := by have := kown.1; simpa [natVs] using this.symm
   obtain ⟨L, hL⟩ : ∃ L, (KF g).length = L := ⟨_, rfl⟩
   have hL6 : L ≤ 65536 := by rw [← hL]; exact HC.out.hl g HTg.out
   rw [hL] at kown
   simp only [hL]
   have HL : Seal _ := ⟨hL⟩
   have HOw : Seal _ := ⟨kown⟩
   have HM2 : Seal _ := ⟨HM1.out.new HC.out kk⟩
   have HM0 : Seal _ := ⟨MSt.refl HM2.out.at_ HM2.out.inv HM2.out.hi⟩
   have hz2 := kk.size
   have HLo : Seal (∀ b, lv1.ownBlock = some b → b < wr.heap.size) := ⟨fun b hb => (ownsRow_block HM1.out.at_.st.row hb).2⟩
   have HNe : Seal (∀ b, wr.heap.size ≤ b → ¬ MarkS mb c mq lv1 b) := ⟨fun b hb e => by
    have h1 := HM1.out.at_.st.mb_lt
    have h2 := HM1.out.at_.st.c_lt
    have h3 := HM1.out.at_.ap.2.2.2
    have h4 := HM1.out.at_.bz
    rcases e with e | e | e | e
    ·omega
    ·omega
    ·omega
    ·have := HLo.out b e; omega⟩
   clear hL kown kk
   go_wp2_with fail
   go_loopw [5, 25] (fun _ x25 wk => ∃ (j : Nat) (lv : Value) (S : MS), j ≤ L ∧ x25 = .int .i64 (j : Nat) ∧ MSt KF T rs mb c cap base v0 sp sq mp mq H fs I (fun x => X x ∨ x = g) w2 lv1 S1 wk lv S ∧ (∀ k ∈ (KF g).take j, S.f k = true)) (fun _ x25 _ => L - (intOf x25).toNat)
   case atStart => exact ⟨0, lv1, S1, Nat.zero_le _, rfl, HM0.out, fun k hk => by simp at hk⟩
   case round =>
    obtain ⟨j, lv, S, hj, rfl, hMk, hAll⟩ := hrel
    have HMk : Seal _ := ⟨hMk⟩
    have HAll : Seal _ := ⟨hAll⟩
    by_cases hjl : j < L
    ·have hjl' : (j : Int) < (L : Int) := by omega
     have hxj : (KF g)[j]? = some ((KF g)[j]'(by rw [HL.out]; exact hjl)) := List.getElem?_eq_getElem _
     obtain ⟨x, hx⟩ : ∃ x, (KF g)[j]'(by rw [HL.out]; exact hjl) = x := ⟨_, rfl⟩
     rw [hx] at hxj
     obtain ⟨kb, rfl, hcell⟩ := row_cell HOw.out hxj
     have hkb := (ownsRow_block HOw.out (b := kb) (by simp [Value.ownBlock])).1
     have hmem := List.mem_of_getElem? hxj
     replace hcell := hMk.kp.cell hcell (HNe.out kb hkb)
     have HMrk : Seal _ := ⟨hMk.mark HC.out (HC.out.hKT g HTg.out x hmem) (MReach.step HRg.out hmem)⟩
     have HTk : Seal ((KF g).take (j + 1) = (KF g).take j ++ [x]) := ⟨by rw [List.take_add_one, hxj]; rfl⟩
     clear hMk hAll hx hxj hmem hkb
     go_wp2_with fail
     refine HMrk.out.mono ?_
     rintro e w3 ⟨rfl, lv3, S3, hM3, hf3⟩
     have HM3 : Seal _ := ⟨hM3⟩
     have HF3 : Seal _ := ⟨hf3⟩
     clear hM3 hf3
     go_wp2_with fail
     exact ⟨⟨j + 1, lv3, S3, by omega, by go_num, HMk.out.trans HM3.out, fun k hk => by
      rw [HTk.out] at hk
      rcases List.mem_append.1 hk with hk | hk
      ·exact HM3.out.ext.f k (HAll.out k hk)
      ·obtain rfl : k = x := by simpa using hk
       exact HF3.out⟩, by simp only [intOf]; omega⟩
    ·obtain rfl : j = L := by omega
     have HMc : Seal _ := ⟨HMk.out.inv' (Y := X) (HMk.out.inv.close (fun k hk => hAll k (by rw [← HL.out, List.take_length]; exact hk)))⟩
     have HPp : Seal _ := ⟨HMc.out.pop HC.out⟩
     clear hMk hAll hjl
     go_wp2_with fail
     refine HPp.out.mono ?_
     intro e w4 hp
     have hMT := (HM2.out.trans HMc.out)
     have hmx := HMc.out.ext.mu
     have hn1 := HMc.out.at_.n_le
     have hn0 := HM2.out.at_.n_le
     have HMT : Seal _ := ⟨hMT⟩
     clear hMT
     rcases hp with ⟨g', lv', S', rfl, hM', hf', hs1, hs2⟩ | ⟨rfl, hs, rfl⟩
     ·have HM' : Seal _ := ⟨hM'⟩
      clear hM'
      go_wp2_with fail
      refine ⟨.inl ⟨g', lv', S', rfl, rfl, HMT.out.trans HM'.out, hf'⟩, ?_⟩
      rw [HMu.out, muW_at HM'.out.at_, hs2]
      simp [b01]
      omega
     ·go_wp2_with fail
      refine ⟨.inr ⟨rfl, rfl, lv, S, HMT.out, hs⟩, ?_⟩
      rw [HMu.out, muW_at HMc.out.at_]
      simp [b01]
      omega
  ·clear HP
   have HM1 : Seal _ := ⟨hM⟩
   clear hM
   go_wp2_with fail
   go_end0
   exact ⟨rfl, lv1, S1, HM1.out, hs⟩

end Go.Proofs.YtllpibknkajfnaaGreatDoor

namespace Go.Proofs.YtllpibknkajfnaaGreatDoor
open Go.RowKit Go.Conc
set_option linter.unusedVariables false

section
variable {KF : Nat → List Nat} {T rs : Nat → Prop} {mb c cap base : Nat} {v0 : Value} {sp sq mp mq H : Nat} {fs : Nat → Bool} {I : World → Prop} {X Y : Nat → Prop} {w0 w1 w2 : World} {lv0 lv1 lv2 : Value} {S0 S1 S2 : MS}

/-- What Next tells of the marks from p on. -/
def NextSt (KF : Nat → List Nat) (T rs : Nat → Prop) (mb c cap base : Nat) (v0 : Value) (sp sq mp mq H : Nat) (fs : Nat → Bool) (I : World → Prop) (p : Nat) (w0 : World) (lv0 : Value) (S0 : MS) (lv : Value) (S : MS) (e : Ending) (w' : World) : Prop :=
 (∃ g : Nat, e = .returned (.tuple #[.int .i64 (g : Nat), .bool true]) ∧ p ≤ g ∧ g < H ∧ MSt KF T rs mb c cap base v0 sp sq mp mq H fs I (fun x => g ≤ x) w0 lv0 S0 w' lv S ∧ S.f g = true) ∨
  (e = .returned (.tuple #[.int .i64 0, .bool false]) ∧ MSt KF T rs mb c cap base v0 sp sq mp mq H fs I (fun _ => False) w0 lv0 S0 w' lv S)

theorem MSt.next (C : MCtx KF T rs mb c cap base v0 sp sq mp mq H fs I) (p : Nat) (i : Int) (hi : i = (p : Nat)) (h : MSt KF T rs mb c cap base v0 sp sq mp mq H fs I (fun x => p ≤ x) w0 lv0 S0 w1 lv1 S1) :
  Calls Tryz.prog 99 #[.pointer (some ⟨mp, 0, none⟩), .int .i64 i] w1 (NextSt KF T rs mb c cap base v0 sp sq mp mq H fs I p w0 lv0 S0 lv1 S1) := by
 subst hi
 refine (Next_at (p : Nat) H mp mq S1.f w1 h.at_.mbits).mono ?_
 rintro e w' ⟨rfl, k⟩
 have hn := h.new C k
 rw [show ((p : Nat) : Int).toNat = p from rfl]
 rcases nextB_spec S1.f H p with ⟨j, h1, h2, h3, h4, h5⟩ | ⟨h1, h2⟩
 ·rw [h1]
  refine .inl ⟨j, rfl, h2, h3, hn.inv' ⟨hn.inv.re, hn.inv.st, hn.inv.ln, hn.inv.fl, fun hf x hx => ?_⟩, h4⟩
  rcases hn.inv.cl hf x hx with e | e | e
  ·exact .inl e
  ·right
   left
   by_cases hj : j ≤ x
   ·exact hj
   ·have := h5 x e (by omega)
    rw [hx] at this
    cases this
  ·exact .inr (.inr e)
 ·rw [h1]
  refine .inr ⟨rfl, hn.inv' ⟨hn.inv.re, hn.inv.st, hn.inv.ln, hn.inv.fl, fun hf x hx => ?_⟩⟩
  rcases hn.inv.cl hf x hx with e | e | e
  ·exact .inl e
  ·have := h2 x e (C.hT x (hn.inv.re x hx).1)
   rw [hx] at this
   cases this
  ·exact .inr (.inr e)
end

def unfull (S : MS) : MS := ⟨S.f, false, S.n, S.stk, S.deep⟩

set_option maxRecDepth 20000 in
set_option maxHeartbeats 8000000 in
theorem Again_at {KF : Nat → List Nat} {T rs : Nat → Prop} {mb c cap base : Nat} {v0 : Value} {sp sq mp mq H : Nat} {fs : Nat → Bool} {I : World → Prop} {X : Nat → Prop} {lv0 : Value} {S0 : MS} (C : MCtx KF T rs mb c cap base v0 sp sq mp mq H fs I) (w : World) (h : MarkAt w mb c cap base v0 sp sq mp mq H fs lv0 S0) (hv : MInv KF T rs cap X S0) (hi : I w) (hs0 : S0.stk = []) :
  Calls Tryz.prog 63 #[.pointer (some ⟨mb, 0, none⟩)] w (DrainPost KF T rs mb c cap base v0 sp sq mp mq H fs I (fun _ => False) w lv0 (unfull S0)) := by
 have HC : Seal _ := ⟨C⟩
 obtain ⟨w1, hw1⟩ : ∃ w1, w1 = w.setCell ⟨mb, 6, none⟩ (.bool false) := ⟨_, rfl⟩
 have k1 : Keep (fun k => k = mb) w w1 := by rw [hw1]; exact (Keep.refl (fun k => k = mb) w).setCell (fun _ => rfl) _
 have hne := h.ne
 have M1 : MarkAt w1 mb c cap base v0 sp sq mp mq H fs lv0 (unfull S0) := ⟨h.st.turn k1 (by rw [hw1]; exact set8_6 h.st.blk _), h.sb.keep k1 (fun e => hne.1 e.symm) (fun e => hne.2.1 e.symm), h.mbits.keep k1 (fun e => hne.2.2.1 e.symm) (fun e => hne.2.2.2.1 e.symm), h.cnt, h.ap, hne, Nat.le_trans h.bz k1.size⟩
 have HM1 : Seal (MSt KF T rs mb c cap base v0 sp sq mp mq H fs I (fun x => 0 ≤ x) w lv0 (unfull S0) w1 lv0 (unfull S0)) := ⟨M1, ⟨hv.re, hv.st, hv.ln, (fun hf => by cases hf), fun _ x _ => .inr (.inl (Nat.zero_le x))⟩, MExt.refl _, C.hI _ _ hi (k1.mono fun i _ e => .inl e), fun b hb => .inl hb, k1.mono fun i _ e => .inl e⟩
 have HNx : Seal _ := ⟨HM1.out.next C 0 0 rfl⟩
 have HS0 : Seal ((unfull S0).stk = []) := ⟨hs0⟩
 obtain ⟨-, -, b2, -, -, -, b6, -⟩ := cells8 h.st.blk
 have f6 := free_of_block h.st.blk 6
 obtain ⟨-, -, c2, -, -, -, -, -⟩ := cells8 M1.st.blk
 clear C h hv hi hs0 M1 k1 hne
 go_enter Tryz.func63, Tryz.ntmps63
 go_wp2_with fail
 rw [← hw1]
 clear hw1
 go_wp2_with fail
 refine HNx.out.mono ?_
 intro e w2 hp
 have hp' : ∃ (g : Nat) (b : Bool), e = .returned (.tuple #[.int .i64 (g : Nat), .bool b]) := by
  rcases hp with ⟨g, rfl, _⟩ | ⟨rfl, _⟩
  ·exact ⟨g, true, rfl⟩
  ·exact ⟨0, false, rfl⟩
 obtain ⟨g0, b0, rfl⟩ := hp'
 have HP : Seal _ := ⟨hp⟩
 clear hp b2 b6 f6 c2
 go_wp2_with fail
 go_loopw [2, 3, 5] (fun x2 x3 _ wr => (∃ (g : Nat) (lv : Value) (S : MS), x2 = .int .i64 (g : Nat) ∧ x3 = .bool true ∧ g < H ∧ MSt KF T rs mb c cap base v0 sp sq mp mq H fs I (fun x => g ≤ x) w lv0 (unfull S0) wr lv S ∧ S.f g = true ∧ S.stk = []) ∨ (x2 = .int .i64 0 ∧ x3 = .bool false ∧ ∃ (lv : Value) (S : MS), MSt KF T rs mb c cap base v0 sp sq mp mq H fs I (fun _ => False) w lv0 (unfull S0) wr lv S ∧ S.stk = [])) (fun x2 x3 _ _ => b01 x3 * (H + 1 - (intOf x2).toNat))
 case atStart =>
  rcases HP.out with ⟨g, he, -, hg, hM, hf⟩ | ⟨he, hM⟩
  ·injection he with he
   injection he with he
   simp at he
   obtain ⟨he1, rfl⟩ := he
   have : g0 = g := by omega
   subst this
   exact .inl ⟨_, lv0, _, rfl, rfl, hg, hM, hf, HS0.out⟩
  ·injection he with he
   injection he with he
   simp at he
   obtain ⟨he1, rfl⟩ := he
   have : g0 = 0 := by omega
   subst this
   exact .inr ⟨rfl, rfl, lv0, _, hM, HS0.out⟩
 case round =>
  rcases hrel with ⟨g, lv1, S1, rfl, rfl, hgH, hM, hfg, hstk⟩ | ⟨rfl, rfl, lv1, S1, hM, hs⟩
  ·obtain ⟨hTg, hRg⟩ := hM.inv.re g hfg
   have HM1 : Seal _ := ⟨hM⟩
   have HKd : Seal _ := ⟨HC.out.hK g hTg wr lv1 S1 hM.hi hM.at_⟩
   have HTg : Seal _ := ⟨hTg⟩
   have HRg : Seal _ := ⟨hRg⟩
   have HH6 : Seal _ := ⟨hM.at_.mbits.small'⟩
   clear hM hfg hTg hRg HP hstk
   go_wp2_with fail
   refine HKd.out.mono ?_
   rintro e w2 ⟨ka, kn, kc, rfl, kown, kk⟩
   obtain rfl : kn = (KF g).length := by have := kown.1; simpa [natVs] using this.symm
   obtain ⟨L, hL⟩ : ∃ L, (KF g).length = L := ⟨_, rfl⟩
   have hL6 : L ≤ 65536 := by rw [← hL]; exact HC.out.hl g HTg.out
   rw [hL] at kown
   simp only [hL]
   have HL : Seal _ := ⟨hL⟩
   have HOw : Seal _ := ⟨kown⟩
   have HM2 : Seal _ := ⟨HM1.out.new HC.out kk⟩
   have HM0 : Seal _ := ⟨MSt.refl HM2.out.at_ HM2.out.inv HM2.out.hi⟩
   have hz2 := kk.size
   have HLo : Seal (∀ b, lv1.ownBlock = some b → b < wr.heap.size) := ⟨fun b hb => (ownsRow_block HM1.out.at_.st.row hb).2⟩
   have HNe : Seal (∀ b, wr.heap.size ≤ b → ¬ MarkS mb c mq lv1 b) := ⟨fun b hb e => by
    have h1 := HM1.out.at_.st.mb_lt
    have h2 := HM1.out.at_.st.c_lt
    have h3 := HM1.out.at_.ap.2.2.2
    have h4 := HM1.out.at_.bz
    rcases e with e | e | e | e
    ·omega
    ·omega
    ·omega
    ·have := HLo.out b e; omega⟩
   clear hL kown kk
   go_wp2_with fail
   go_loopw [5, 32] (fun _ x32 wk => ∃ (j : Nat) (lv : Value) (S : MS), j ≤ L ∧ x32 = .int .i64 (j : Nat) ∧ MSt KF T rs mb c cap base v0 sp sq mp mq H fs I (fun x => g ≤ x) w2 lv1 S1 wk lv S ∧ (∀ k ∈ (KF g).take j, S.f k = true)) (fun _ x32 _ => L - (intOf x32).toNat)
   case atStart => exact ⟨0, lv1, S1, Nat.zero_le _, rfl, HM0.out, fun k hk => by simp at hk⟩
   case round =>
    obtain ⟨j, lv, S, hj, rfl, hMk, hAll⟩ := hrel
    have HMk : Seal _ := ⟨hMk⟩
    have HAll : Seal _ := ⟨hAll⟩
    by_cases hjl : j < L
    ·have hjl' : (j : Int) < (L : Int) := by omega
     have hxj : (KF g)[j]? = some ((KF g)[j]'(by rw [HL.out]; exact hjl)) := List.getElem?_eq_getElem _
     obtain ⟨x, hx⟩ : ∃ x, (KF g)[j]'(by rw [HL.out]; exact hjl) = x := ⟨_, rfl⟩
     rw [hx] at hxj
     obtain ⟨kb, rfl, hcell⟩ := row_cell HOw.out hxj
     have hkb := (ownsRow_block HOw.out (b := kb) (by simp [Value.ownBlock])).1
     have hmem := List.mem_of_getElem? hxj
     replace hcell := hMk.kp.cell hcell (HNe.out kb hkb)
     have HMrk : Seal _ := ⟨hMk.mark HC.out (HC.out.hKT g HTg.out x hmem) (MReach.step HRg.out hmem)⟩
     have HTk : Seal ((KF g).take (j + 1) = (KF g).take j ++ [x]) := ⟨by rw [List.take_add_one, hxj]; rfl⟩
     clear hMk hAll hx hxj hmem hkb
     go_wp2_with fail
     refine HMrk.out.mono ?_
     rintro e w3 ⟨rfl, lv3, S3, hM3, hf3⟩
     have HM3 : Seal _ := ⟨hM3⟩
     have HF3 : Seal _ := ⟨hf3⟩
     clear hM3 hf3
     go_wp2_with fail
     exact ⟨⟨j + 1, lv3, S3, by omega, by go_num, HMk.out.trans HM3.out, fun k hk => by
      rw [HTk.out] at hk
      rcases List.mem_append.1 hk with hk | hk
      ·exact HM3.out.ext.f k (HAll.out k hk)
      ·obtain rfl : k = x := by simpa using hk
       exact HF3.out⟩, by simp only [intOf]; omega⟩
    ·obtain rfl : j = L := by omega
     have HMc : Seal (MSt KF T rs mb c cap base v0 sp sq mp mq H fs I (fun x => g + 1 ≤ x) w lv0 (unfull S0) _ lv S) := ⟨(HM2.out.trans HMk.out).inv' (MInv.close (g := g) (HMk.out.inv.mono (fun x (hx : g ≤ x) => by
      show g + 1 ≤ x ∨ x = g
      omega)) (fun k hk => hAll k (by rw [← HL.out, List.take_length]; exact hk)))⟩
     have HDr : Seal _ := ⟨Drain_at HC.out _ HMc.out.at_ HMc.out.inv HMc.out.hi⟩
     clear hMk hAll hjl
     go_wp2_with fail
     refine HDr.out.mono ?_
     rintro e w4 ⟨rfl, lv4, S4, hM4, hs4⟩
     have hMT := HMc.out.trans hM4
     have hH6 := HH6.out
     have hwr : IntKind.i64.wrap ((g : Int) + 1) = (g : Int) + 1 := by rw [IntKind.wrap_i64]; omega
     have HNx : Seal _ := ⟨hMT.next HC.out (g + 1) ((g : Int) + 1) (by omega)⟩
     obtain ⟨-, -, c2, -, -, -, -, -⟩ := cells8 hMT.at_.st.blk
     have HS4 : Seal _ := ⟨hs4⟩
     clear hM4 hMT hs4
     go_wp2_with fail
     refine HNx.out.mono ?_
     rintro e w5 (⟨g', rfl, hg1, hg2, hM', hf'⟩ | ⟨rfl, hM'⟩)
     ·have HM' : Seal _ := ⟨hM'⟩
      clear hM'
      go_wp2_with fail
      refine ⟨.inl ⟨g', lv4, S4, rfl, rfl, hg2, HM'.out, hf', HS4.out⟩, ?_⟩
      simp [b01, intOf]
      omega
     ·go_wp2_with fail
      refine ⟨.inr ⟨rfl, rfl, lv4, S4, hM', HS4.out⟩, ?_⟩
      simp [b01, intOf]
      omega
  ·clear HP
   have HM1 : Seal _ := ⟨hM⟩
   clear hM
   go_wp2_with fail
   go_end0
   exact ⟨rfl, lv1, S1, HM1.out, hs⟩

end Go.Proofs.YtllpibknkajfnaaGreatDoor
