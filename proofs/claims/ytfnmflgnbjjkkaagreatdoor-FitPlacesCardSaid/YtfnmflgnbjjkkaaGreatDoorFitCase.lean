/-
  The laws of fit: Heavy, hits, made: a space, and black granules.
-/
import Derived.Test.YtfnmflgnbjjkkaaGreatDoorPlayB
import Derived.Test.YtfnmflgnbjjkkaaGreatDoorFitB
namespace Go.Proofs.YtfnmflgnbjjkkaaGreatDoor
open Go.RowKit
set_option linter.unusedVariables false

theorem cells5 {w : World} {b : Nat} {a0 a1 a2 a3 a4 : Value} {T : TypeId} (hb : w.heap[b]? = some (.cells #[a0, a1, a2, a3, a4] T (0, 0))) :
    w.cell? ⟨b, 0, none⟩ = some a0 ∧ w.cell? ⟨b, 1, none⟩ = some a1 ∧ w.cell? ⟨b, 2, none⟩ = some a2 ∧ w.cell? ⟨b, 3, none⟩ = some a3 ∧ w.cell? ⟨b, 4, none⟩ = some a4 := by
  refine ⟨?_, ?_, ?_, ?_, ?_⟩ <;> simp only [World.cell?, hb] <;> rfl

theorem Steps6At.keepN {w w' : World} {v : Value} {len : Nat} {d g i n y : Nat → Int} {u : Nat → Value} {m : Nat → Nat} (h : Steps6At w v len d g i n y u m) (k : Keep Nope w w') : Steps6At w' v len d g i n y u m := by
  obtain ⟨a, cap, rfl, hx⟩ := h
  refine ⟨a, cap, rfl, fun j hj => ?_⟩
  obtain ⟨b, o, hab, hb, x0, x1, x2, x3, x4, x5, hr⟩ := hx j hj
  exact ⟨b, o, hab, Nat.lt_of_lt_of_le hb k.size, keepc k x0, keepc k x1, keepc k x2, keepc k x3, keepc k x4, keepc k x5, hr⟩

theorem AtsAt.keepN {w w' : World} {len : Nat} {u : Nat → Value} {m : Nat → Nat} (h : AtsAt w len u m) (k : Keep Nope w w') : AtsAt w' len u m := fun j hj => by
  obtain ⟨x, hx⟩ := h j hj
  exact ⟨x, hx.keepN1 k⟩

/-- What Heavy answers. -/
def Heavy13Post (n : Int) (lt len : Nat) (m : Nat → Nat) (lb : Nat) (w : World) (e : Ending) (w' : World) : Prop :=
  ∃ t : Bool, e = .returned (.bool t) ∧ Keep Nope w w' ∧ (t = false → ((n ≤ 600 ∨ 65536 < n) ∧ lt ≤ 70 ∧ len ≤ 60 ∧ ∀ i, i < len → m i ≤ 300) ∧ lb ≤ 200)

set_option maxHeartbeats 2000000 in
theorem Heavy13_any (n : Int) (v1 v2 : Value) (bare : Bool) (xs : List TypR) (len lb : Nat) (d g i nn y : Nat → Int) (u : Nat → Value) (m : Nat → Nat) (ab : Option Addr) (cb : Nat) (w : World) (h1 : TypsAt w v1 xs) (h2 : Steps6At w v2 len d g i nn y u m) (hl1 : xs.length ≤ 17592186044416) (hl2 : len ≤ 17592186044416) (hlb : lb ≤ 17592186044416) :
    Calls Tryz.prog 9 #[.agg #[.int .i64 n, v1, v2, .slice ab lb cb, .bool bare]] w (Heavy13Post n xs.length len m lb w) := by
  have hv1 : ∃ a l c, v1 = .slice a l c := by obtain ⟨a, c, h, -⟩ := h1; exact ⟨_, _, _, h⟩
  have hv2 : ∃ a l c, v2 = .slice a l c := by obtain ⟨a, c, h, -⟩ := h2; exact ⟨_, _, _, h⟩
  obtain ⟨a1, l1, c1, rfl⟩ := hv1
  obtain ⟨a2, l2, c2, rfl⟩ := hv2
  obtain ⟨w1, hw1⟩ : ∃ w1, w1 = w.alloc (.cells #[.int .i64 n, .slice a1 l1 c1, .slice a2 l2 c2, .slice ab lb cb, .bool bare] 26) := ⟨_, rfl⟩
  have k1 : Keep Nope w w1 := by rw [hw1]; exact (Keep.refl _ w).alloc _
  have b1 : w1.heap[w.heap.size]? = some (.cells #[.int .i64 n, .slice a1 l1 c1, .slice a2 l2 c2, .slice ab lb cb, .bool bare] 26 (0, 0)) := by rw [hw1]; exact World.alloc_heap_new w _
  have hS : Steps6At w1 (.slice a2 l2 c2) len d g i nn y u m := h2.keepN k1
  have HH : Seal _ := ⟨Heavy9_any n (.slice a1 l1 c1) (.slice a2 l2 c2) xs len d g i nn y u m w1 (h1.keepN k1) hS hl1 hl2⟩
  have HB : Seal _ := ⟨b1⟩
  have HK : Seal _ := ⟨k1⟩
  clear h1 h2 k1 b1 hS
  go_enter Tryz.func9, Tryz.ntmps9
  go_wp2_with fail
  rw [← hw1]
  clear hw1
  refine HH.out.mono ?_
  rintro e w2 ⟨t, rfl, rfl, hp⟩
  have HP : Seal _ := ⟨hp⟩
  have b2 := HB.out
  have hl := lt_of_heap b2
  obtain ⟨s0, s1, s2, s3, s4⟩ := cells5 b2
  clear hp b2
  cases t with
  | true =>
    go_wp2
    go_ret
    exact ⟨true, rfl, HK.out, fun h => by cases h⟩
  | false =>
    by_cases hq : 200 < lb
    · have hd : decide ((200 : Int) < (lb : Int)) = true := decide_eq_true (by omega)
      go_wp2
      go_ret
      exact ⟨true, rfl, HK.out, fun h => by cases h⟩
    · have hd : decide ((200 : Int) < (lb : Int)) = false := decide_eq_false (by omega)
      go_wp2
      go_ret
      exact ⟨false, rfl, HK.out, fun _ => ⟨HP.out (by trivial), by omega⟩⟩

/-- A row of bools of a call's own. -/
def BoolRow (w : World) (g n : Nat) : Prop := ∃ cs, w.heap[g]? = some (.cells cs 4 (0, 0)) ∧ n ≤ cs.size

theorem BoolRow.store {w : World} {g n j : Nat} (h : BoolRow w g n) (v : Value) : BoolRow (w.setCell ⟨g, j, none⟩ v) g n := by
  obtain ⟨cs, h1, h2⟩ := h
  exact ⟨_, block_setCell h1 _, by simpa using h2⟩

/-- What hits leaves. -/
def HitsPost (n : Nat) (w : World) (e : Ending) (w' : World) : Prop :=
  ∃ b p0 q0 p1 q1 f0 v, e = .returned (.tuple #[.pointer (some ⟨b, 0, none⟩), v]) ∧ BlackAt w' b p0 q0 p1 q1 f0 (fun _ => false) n ∧ w.heap.size ≤ q0 ∧ w.heap.size ≤ q1 ∧ Keep Nope w w'

theorem and_low20 (g : Int) : ∃ r : Nat, r ≤ 1048575 ∧ bits .and .i64 g 1048575 = (r : Int) := by
  refine ⟨(BitVec.ofInt 64 g &&& BitVec.ofInt 64 1048575).toNat, ?_, ?_⟩
  · rw [BitVec.toNat_and]
    exact Nat.and_le_right
  · show IntKind.i64.wrap ((BitVec.ofInt 64 g &&& BitVec.ofInt 64 1048575).toNat : Int) = _
    have h : (BitVec.ofInt 64 g &&& BitVec.ofInt 64 1048575).toNat ≤ 1048575 := by
      rw [BitVec.toNat_and]
      exact Nat.and_le_right
    rw [IntKind.wrap_i64]
    omega

theorem Tryz.infoBool13 : (Tryz.prog.info? 4).map (fun i => (i.zero, i.size, i.bytes)) = some (some (.bool false), 1, 1) := by kernel_rfl

theorem Tryz.underlyingBools13 : Tryz.prog.underlying 32 = some (.slice 4) := by kernel_rfl

theorem hit_ok {n g : Nat} (h : g < n) : okHit n (fun _ => (g : Int)) 1 = true := by
  unfold okHit
  simp
  omega

set_option maxRecDepth 20000 in
set_option maxHeartbeats 4000000 in
theorem hits_any (n : Nat) (v : Value) (len : Nat) (x : Nat → Nat → Int) (w : World) (hv : IntsAt 1 w v len x) (hn : 0 < n) (hn2 : n ≤ 65536) (hl : len ≤ 1000) :
    Calls Tryz.prog 49 #[.int .i64 (n : Nat), v] w (HitsPost n w) := by
  obtain ⟨va, vc, rfl, hxs⟩ := ints_at hv
  have HX : Seal _ := ⟨hxs⟩
  clear hv hxs
  go_enter Tryz.func49, Tryz.ntmps49
  go_wp2_with fail
  refine (BNew_yes n w hn2).mono ?_
  rintro e w1 ⟨b, p0, q0, p1, q1, rfl, lb, lq0, lq1, B1, k1⟩
  have HB1 : Seal _ := ⟨B1⟩
  have HK1 : Seal _ := ⟨k1⟩
  clear B1 k1
  go_wp2_with (at_make; obtain ⟨i0, hi, hz0, hz1, hz2⟩ := info_parts Tryz.infoBool13; go_loud (refine wpList_make_full _ rfl (.tmp 22) (.tmp 22) 32 rfl w1.heap.size 4 i0 (.bool false) 1 Tryz.underlyingBools13 hi hz0 hz1 .i64 .i64 n n n rfl rfl rfl rfl (by rw [hz2]; omega) (by unfold maxLen; omega) (Nat.le_refl _) ?_); intro w2 hown hgrow; clear hi hz0 hz1 hz2)
  have k2 : Keep Nope w1 w2 := (Keep.refl Nope w1).grown hgrow (fun _ e => by cases e)
  have hr : BoolRow w2 w1.heap.size n := by
    rcases hown.2 with ⟨e, -⟩ | ⟨g, cap, cur, e, -, hheap, hnc, -, hsz, htake⟩
    · cases e
    · injection e with e1 _ e2
      injection e1 with e1
      injection e1 with e1 _
      subst e1 e2
      exact ⟨cur, hheap, by omega⟩
  have HR : Seal _ := ⟨hr⟩
  have HB2 : Seal _ := ⟨HB1.out.keepN k2⟩
  have HK2 : Seal _ := ⟨HK1.out.then' k2⟩
  have hrw : w.heap.size ≤ w1.heap.size := HK1.out.size
  have HLt : Seal (b < w1.heap.size ∧ p0 < w1.heap.size ∧ q0 < w1.heap.size ∧ p1 < w1.heap.size ∧ q1 < w1.heap.size) := ⟨⟨lt_of_heap HB1.out.hb, HB1.out.h0.lt_p', HB1.out.h0.lt_q', HB1.out.h1.lt_p', HB1.out.h1.lt_q'⟩⟩
  clear hown hgrow k2 hr
  go_wp2_with fail
  go_loopw [9] (fun z wr => ∃ (j : Nat) (f0 : Nat → Bool), j ≤ len ∧ z = .int .i64 (j : Nat) ∧ Seal (BlackAt wr b p0 q0 p1 q1 f0 (fun _ => false) n) ∧ Seal (BoolRow wr w1.heap.size n) ∧ Keep Nope w wr) (fun z _ => len - (intOf z).toNat)
  case atStart => exact ⟨0, _, Nat.zero_le _, rfl, HB2, HR, HK2.out⟩
  case round =>
    obtain ⟨j, f0, hj, rfl, HB, HR', hk⟩ := hrel
    have HK : Seal _ := ⟨hk⟩
    have p9 : decide ((0 : Int) < (n : Int)) = true := decide_eq_true (by omega)
    by_cases hjl : j < len
    · have hjl' : (j : Int) < (len : Int) := by omega
      obtain ⟨b', o, rfl, hbl, cx0, xb1, xb2⟩ := HX.out j hjl
      have cx := hk.cell cx0 (fun h => h)
      have hbw : b' < wr.heap.size := Nat.lt_of_lt_of_le hbl hk.size
      obtain ⟨G, hG, hand⟩ := and_low20 (x j 0)
      have hgm : G % n < n := Nat.mod_lt _ hn
      have hm : (G : Int) % (n : Int) = ((G % n : Nat) : Int) := by push_cast; rfl
      obtain ⟨g, hg⟩ : ∃ g, G % n = g := ⟨_, rfl⟩
      rw [hg] at hgm hm
      have hg9 : (g : Int) < (n : Int) := by omega
      have HHit : Seal (∀ W' blk, Keep Nope wr W' → W'.heap[blk]? = some (.cells #[.int .i64 (g : Nat)] 3 (0, 0)) → wr.heap.size ≤ blk → Calls Tryz.prog 48 #[.pointer (some ⟨b, 0, none⟩), .slice (some ⟨blk, 0, none⟩) 1 1] W' fun e w' => e = .returned (.int .i64 0) ∧ Keep (fun i => i = q0) W' w' ∧ ∃ f0', BlackAt w' b p0 q0 p1 q1 f0' (fun _ => false) n) := ⟨fun W' blk kk hblk hge => by
        have hI : IntsAt 1 W' (.slice (some ⟨blk, 0, none⟩) 1 1) 1 (fun _ _ => (g : Int)) :=
          ⟨_, _, rfl, fun i hi => ⟨blk, 0, rfl, lt_of_heap hblk, fun k hk => by
            obtain rfl : i = 0 := by omega
            obtain rfl : k = 0 := by omega
            exact ⟨by simp [World.cell?, hblk], by show (-9223372036854775808 : Int) ≤ (g : Int); omega, by show (g : Int) ≤ 9223372036854775807; omega⟩⟩⟩
        have hq0 : q0 < wr.heap.size := HB.out.h0.lt_q'
        refine (Hit_at _ 1 _ b p0 q0 p1 q1 n f0 (fun _ => false) W' hI (HB.out.keepN kk) (fun _ h => by injection h with h; have h' : blk = q0 := h; omega) (by omega)).mono ?_
        rintro e w' ⟨rfl, k, hB⟩
        have hok := hit_ok (n := n) (g := g) (by omega)
        rw [hok] at hB ⊢
        exact ⟨rfl, k, _, hB⟩⟩
      clear cx0 hk hg
      go_wp2_with fail
      refine (HHit.out _ _ ((Keep.refl Nope wr).alloc _) (World.alloc_heap_new wr _) (Nat.le_refl _)).mono ?_
      rintro e w3 ⟨rfl, k3, f0', hB3⟩
      have hq0 : q0 < w1.heap.size := HLt.out.2.2.1
      have hR3 : BoolRow w3 w1.heap.size n := by
        obtain ⟨cs, h1, h2⟩ := HR'.out
        exact ⟨cs, k3.at_ (((Keep.refl Nope wr).alloc _).at_ h1 (fun h => h)) (fun h => by have h' : w1.heap.size = q0 := h; omega), h2⟩
      have HR3 : Seal _ := ⟨hR3⟩
      have HB3 : Seal _ := ⟨hB3⟩
      have HK3 : Seal (Keep Nope w w3) := ⟨(HK.out.alloc _).trans k3 (fun i hi h => by have h' : i = q0 := h; omega)⟩
      obtain ⟨cs, hcs, hcn⟩ := hR3
      have a0 : w3.cell? ⟨w1.heap.size, g, none⟩ = some (cs[g]'(by omega)) := by simp only [World.cell?, hcs]; exact Array.getElem?_eq_getElem _
      have a1 := free_of_block hcs g
      clear hB3 hcs cx k3
      go_wp2
      have k4 : Keep (fun k => k = w1.heap.size) w3 (w3.setCell ⟨w1.heap.size, g, none⟩ (.bool true)) := (Keep.refl (fun k => k = w1.heap.size) w3).setCell (fun _ => rfl) _
      obtain ⟨l1, l2, l3, l4, l5⟩ := HLt.out
      exact ⟨⟨j + 1, f0', by omega, by go_num, ⟨HB3.out.keep k4 (by omega) (by omega) (by omega) (by omega) (by omega)⟩, ⟨HR3.out.store _⟩, HK3.out.trans k4 (fun i hi h => by have h' : i = w1.heap.size := h; omega)⟩, by simp only [intOf]; omega⟩
    · have hjl' : ¬ (j : Int) < (len : Int) := by omega
      clear hk
      go_wp2
      exact bodyPost_ret (v := .tuple #[.pointer (some ⟨b, 0, none⟩), .slice (some ⟨w1.heap.size, 0, none⟩) n n]) (by simp [results, Tryz.results49, go_sem]) rfl ⟨b, p0, q0, p1, q1, f0, _, rfl, HB.out, lq0, lq1, HK.out⟩

/-- A list of black granules beside a space, or none. -/
def BlkOf (w : World) (P : Sp) (bv : Value) (blk : Nat → Bool) : Prop :=
  (bv = .pointer none ∧ blk = fun _ => false) ∨ ∃ b p0 q0 p1 q1 f0 f1, bv = .pointer (some ⟨b, 0, none⟩) ∧ BlackAt w b p0 q0 p1 q1 f0 f1 (P.n / 2) ∧ (blk = fun i => f0 i || f1 i) ∧ ¬ P.own q0 ∧ ¬ P.own q1

theorem BlkOf.keepN {w w' : World} {P : Sp} {bv : Value} {blk : Nat → Bool} (h : BlkOf w P bv blk) (k : Keep Nope w w') : BlkOf w' P bv blk := by
  rcases h with h | ⟨b, p0, q0, p1, q1, f0, f1, h1, h2, h3, h4, h5⟩
  · exact .inl h
  · exact .inr ⟨b, p0, q0, p1, q1, f0, f1, h1, h2.keepN k, h3, h4, h5⟩

theorem BlkOf.blk {w : World} {P : Sp} {bv : Value} {blk : Nat → Bool} (h : BlkOf w P bv blk) : BlkAt w bv (P.n / 2) blk := by
  rcases h with h | ⟨b, p0, q0, p1, q1, f0, f1, h1, h2, h3, h4, h5⟩
  · exact .inl h
  · exact .inr ⟨b, p0, q0, p1, q1, f0, f1, h1, h2, h3⟩

/-- Behind a step of the space. -/
theorem BlkOf.own {w w' : World} {P : Sp} {cs : List Cel} {bv : Value} {blk : Nat → Bool} (hs : SpaceHas w P cs) (h : BlkOf w P bv blk) (k : Keep P.own w w') : BlkOf w' P bv blk := by
  rcases h with h | ⟨b, p0, q0, p1, q1, f0, f1, h1, h2, h3, h4, h5⟩
  · exact .inl h
  · obtain ⟨n1, n2, n3, n4, n5⟩ := black_beside hs h2 h4 h5
    exact .inr ⟨b, p0, q0, p1, q1, f0, f1, h1, h2.keep k n1 n2 n3 n4 n5, h3, h4, h5⟩

/-- What made answers. -/
def MadeCase (n : Int) (xs : List TypR) (lv : Value) (w : World) (e : Ending) (w' : World) : Prop :=
  (e = .returned (.tuple #[.pointer none, .pointer none, .pointer none, .slice none 0 0, .bool true]) ∧ Keep Nope w w') ∨
  (∃ P rb q W cs bv blk l, e = .returned (.tuple #[.pointer (some ⟨P.s, 0, none⟩), .pointer (some ⟨rb, 0, none⟩), bv, l, .bool true]) ∧ Both w w' P rb q lv W cs ∧ (P.n : Int) = n ∧ P.ts = xs ∧ 16 ≤ P.n ∧ BlkOf w' P bv blk)

theorem Both.base {w0 w1 w : World} {P : Sp} {rb q : Nat} {lv : Value} {W : Nat → Nat} {cs : List Cel} (h : Both w1 w P rb q lv W cs) (k : Keep Nope w0 w1) (ht : TypsAt w0 lv P.ts) : Both w0 w P rb q lv W cs :=
  ⟨h.sp, h.dc, fun b hb => Nat.le_trans k.size (h.own b hb), Nat.le_trans k.size h.rb0, h.rbn, h.qn, h.gap, (k.of_not _).trans h.kb (fun i hi h => Nat.le_trans k.size h), ht, h.few, h.ms⟩

set_option maxRecDepth 20000 in
set_option maxHeartbeats 4000000 in
theorem made13_any (n : Int) (v1 v2 : Value) (bare : Bool) (xs : List TypR) (len lb : Nat) (d g i nn y : Nat → Int) (u : Nat → Value) (m : Nat → Nat) (v3 : Value) (x3 : Nat → Nat → Int) (w : World) (hF : FieldsAt w) (h1 : TypsAt w v1 xs) (h2 : Steps6At w v2 len d g i nn y u m) (h3 : IntsAt 1 w v3 lb x3)
    (hl : xs.length ≤ 17592186044416) (hM : Masks xs) (hlen : len ≤ 60) (hy : ∀ j, j < len → 0 ≤ y j ∧ y j ≤ 18446744073709551615) (hA : AtsAt w len u m) (hm : ∀ j, j < len → m j ≤ 300) (hlb : lb ≤ 200) :
    Calls Tryz.prog 11 #[.agg #[.int .i64 n, v1, v2, v3, .bool bare]] w (MadeCase n xs v1 w) := by
  have hv1 : ∃ a l c, v1 = .slice a l c := by obtain ⟨a, c, h, -⟩ := h1; exact ⟨_, _, _, h⟩
  have hv2 : ∃ a l c, v2 = .slice a l c := by obtain ⟨a, c, h, -⟩ := h2; exact ⟨_, _, _, h⟩
  have hv3 : ∃ a l c, v3 = .slice a l c := by obtain ⟨a, c, h, -⟩ := h3; exact ⟨_, _, _, h⟩
  obtain ⟨a1, l1, c1, rfl⟩ := hv1
  obtain ⟨a2, l2, c2, rfl⟩ := hv2
  obtain ⟨a3, l3, c3, rfl⟩ := hv3
  obtain ⟨w1, hw1⟩ : ∃ w1, w1 = w.alloc (.cells #[.int .i64 n, .slice a1 l1 c1, .slice a2 l2 c2, .slice a3 l3 c3, .bool bare] 26) := ⟨_, rfl⟩
  have k1 : Keep Nope w w1 := by rw [hw1]; exact (Keep.refl _ w).alloc _
  have b1 : w1.heap[w.heap.size]? = some (.cells #[.int .i64 n, .slice a1 l1 c1, .slice a2 l2 c2, .slice a3 l3 c3, .bool bare] 26 (0, 0)) := by rw [hw1]; exact World.alloc_heap_new w _
  have HP : Seal _ := ⟨Played_any n (.slice a1 l1 c1) (.slice a2 l2 c2) xs len d g i nn y u m w1 (hF.keepN k1) (h1.keepN k1) hl hM (h2.keepN k1) hlen hy (hA.keepN k1) hm⟩
  have H1 : Seal _ := ⟨h1⟩
  have H3 : Seal _ := ⟨h3⟩
  have HB : Seal _ := ⟨b1⟩
  have HK : Seal _ := ⟨k1⟩
  clear hF h1 h2 h3 hM hy hA hm k1 b1
  go_enter Tryz.func11, Tryz.ntmps11
  go_wp2_with fail
  rw [← hw1]
  clear hw1
  refine HP.out.mono ?_
  rintro e w2 (⟨rfl, k2⟩ | ⟨P, rb, q, W, cs, rfl, hB, hPn, hPs, h16⟩)
  · have HK2 : Seal _ := ⟨HK.out.then' k2⟩
    clear k2
    go_wp2
    exact bodyPost_ret (v := .tuple #[.pointer none, .pointer none, .pointer none, .slice none 0 0, .bool true]) (by simp [results, Tryz.results11, go_sem]) rfl (.inl ⟨rfl, HK2.out⟩)
  · have HBt : Seal (Both w w2 P rb q (.slice a1 l1 c1) W cs) := ⟨hB.base HK.out (by rw [hPs]; exact H1.out)⟩
    have hl1 := lt_of_heap HB.out
    have hblk : w2.heap[w.heap.size]? = some (.cells #[.int .i64 n, .slice a1 l1 c1, .slice a2 l2 c2, .slice a3 l3 c3, .bool bare] 26 (0, 0)) := hB.kb.at_ HB.out (by omega)
    have hl2 := lt_of_heap hblk
    obtain ⟨s0, s1, s2, s3, s4⟩ := cells5 hblk
    have HPn : Seal _ := ⟨hPn⟩
    have HPs : Seal _ := ⟨hPs⟩
    have hsm := hB.small
    clear hB hblk hPs
    cases bare with
    | true =>
      clear hPn
      go_wp2
      exact bodyPost_ret (v := .tuple #[.pointer (some ⟨P.s, 0, none⟩), .pointer (some ⟨rb, 0, none⟩), .pointer none, .slice none 0 0, .bool true]) (by simp [results, Tryz.results11, go_sem]) rfl (.inr ⟨P, rb, q, W, cs, _, _, _, rfl, HBt.out, HPn.out, HPs.out, h16, .inl ⟨rfl, rfl⟩⟩)
    | false =>
      rw [← hPn] at s0
      clear hPn
      have HM : Seal ((P.n : Int) / 2 = ((P.n / 2 : Nat) : Int)) := ⟨by omega⟩
      have h3w : IntsAt 1 w2 (.slice a3 l3 c3) lb x3 := H3.out.keepB HBt.out.kb (fun b h0 e => by have := ints_block H3.out h0 e; omega)
      have HH : Seal _ := ⟨hits_any (P.n / 2) _ lb x3 w2 h3w (by omega) (by omega) (by omega)⟩
      have HOw : Seal (∀ k, P.own k → k < w2.heap.size) := ⟨fun k hk => HBt.out.lt k (Sp.own_all hk)⟩
      clear h3w
      go_wp2_with fail
      rw [HM.out]
      refine HH.out.mono ?_
      rintro e w3 ⟨b, p0, q0, p1, q1, f0, v, rfl, hBl, hq0, hq1, k3⟩
      have HBl : Seal _ := ⟨hBl⟩
      have HB3 : Seal _ := ⟨HBt.out.keepN k3⟩
      clear hBl k3 s0 s1 s2 s3 s4
      go_wp2
      exact bodyPost_ret (v := .tuple #[.pointer (some ⟨P.s, 0, none⟩), .pointer (some ⟨rb, 0, none⟩), .pointer (some ⟨b, 0, none⟩), v, .bool true]) (by simp [results, Tryz.results11, go_sem]) rfl (.inr ⟨P, rb, q, W, cs, _, _, _, rfl, HB3.out, HPn.out, HPs.out, h16, .inr ⟨b, p0, q0, p1, q1, f0, _, rfl, HBl.out, rfl, fun h => by have := HOw.out q0 h; omega, fun h => by have := HOw.out q1 h; omega⟩⟩)

end Go.Proofs.YtfnmflgnbjjkkaaGreatDoor
