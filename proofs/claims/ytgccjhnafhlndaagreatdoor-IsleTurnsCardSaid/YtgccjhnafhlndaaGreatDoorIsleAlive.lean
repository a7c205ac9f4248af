/-
 The chapter's example of isle: what its steps lay (plain), and what Played answers.
 The chapter's example of isle, walked.
-/
import Derived.Test.YtgccjhnafhlndaaGreatDoorIsleD
import Derived.Test.YtgccjhnafhlndaaGreatDoorPlayJ
import Derived.Test.YtgccjhnafhlndaaGreatDoorSpaceAl
import Derived.Test.YtgccjhnafhlndaaGreatDoorFindB
import Derived.Test.YtgccjhnafhlndaaGreatDoorIsleO
namespace Go.Proofs.YtgccjhnafhlndaaGreatDoor
open Go.RowKit
set_option linter.unusedVariables false

theorem RunR.back1 {P : Sp} {dd gg ii nn : Nat -> Int} {W0 : Nat -> Nat} {cs0 : List Cel} {j : Nat} {W : Nat -> Nat} {cs : List Cel} (h : RunR P dd gg ii nn W0 cs0 (j + 1) W cs) : ∃ W1 cs1, RunR P dd gg ii nn W0 cs0 j W1 cs1 /\ StepR P W1 cs1 (dd j) (gg j) (ii j) (nn j) W cs := by
 cases h with
 | succ h1 h2 => exact ⟨_, _, h1, h2⟩

theorem RunR.start1 {P : Sp} {dd gg ii nn : Nat -> Int} {W0 : Nat -> Nat} {cs0 : List Cel} {W : Nat -> Nat} {cs : List Cel} (h : RunR P dd gg ii nn W0 cs0 0 W cs) : W = W0 /\ cs = cs0 := by
 cases h with
 | zero => exact ⟨rfl, rfl⟩

theorem put_mid {P : Sp} {W W' : Nat -> Nat} {cs' pre post : List Cel} {x : Cel} {H j a l S : Nat} (h : PutStep P W (pre ++ x :: post) (j : Nat) (a : Nat) (l : Nat) W' cs') (ht : Am 0 (pre ++ x :: post) H) (h1 : x.g <= j) (h2 : j < x.fin) (hR : Ck P.ts (P.n / 2) (pre ++ x :: post) (j : Nat) (a : Nat) (l : Nat) = 0) (hS : Bf P.ts (a : Nat) (l : Nat) = (S : Nat)) :
  W' = putW W x j a l S /\ cs' = putL pre x post j a l S := by
 rcases h with ⟨h, -⟩ | ⟨-, pre', c, post', j', a', l', S', e1, e2, e3, e4, e5, e6, q1, q2, q3, e7, e8⟩
 ·exact absurd hR h
 ·obtain rfl : j' = j := by omega
  obtain rfl : a' = a := by omega
  obtain rfl : l' = l := by omega
  obtain rfl : S' = S := by omega
  obtain ⟨rfl, rfl, rfl⟩ := split_uniq ht e1 h1 h2 q1 (by omega)
  exact ⟨e7, e8⟩

def al21g (j : Nat) : Int := [1, 3, 6].getD j 0

def cs21 : List Cel := [⟨0, 2, 0, 0, 1⟩, ⟨1, 1, 1, 3, 2⟩, ⟨3, 1, 1, 3, 2⟩, ⟨5, 2, 0, 0, 1⟩, ⟨6, 1, 1, 3, 2⟩]

theorem puts21 {P : Sp} (ht : P.ts = alT) (hn : P.n = 16) {dd ii nn : Nat -> Int} (hd : dd 0 = 0 /\ dd 1 = 0 /\ dd 2 = 0) (hi : ii 0 = 1 /\ ii 1 = 1 /\ ii 2 = 1) (hl : nn 0 = 3 /\ nn 1 = 3 /\ nn 2 = 3) {gg : Nat -> Int} (hg : gg 0 = 1 /\ gg 1 = 3 /\ gg 2 = 6) {W : Nat -> Nat} {cs : List Cel} (h : RunR P dd gg ii nn (AQ (λ _ => 0) 0 (16 / 2)) (gapL 0 (16 / 2)) 3 W cs) : cs = cs21 /\ W 4 = 0 /\ W 3 = 0 := by
 obtain ⟨W2, cs2, h2, s2⟩ := h.back1
 obtain ⟨W1, cs1, h1, s1⟩ := h2.back1
 obtain ⟨W0, cs0, h0, s0⟩ := h1.back1
 obtain ⟨rfl, rfl⟩ := h0.start1
 obtain ⟨d0, d1, d2⟩ := hd
 obtain ⟨i0, i1, i2⟩ := hi
 obtain ⟨l0, l1, l2⟩ := hl
 obtain ⟨g0, g1, g2⟩ := hg
 have p0 := s0.1 d0
 have p1 := s1.1 d1
 have p2 := s2.1 d2
 rw [i0, l0, g0] at p0
 rw [i1, l1, g1] at p1
 rw [i2, l2, g2] at p2
 obtain ⟨e0, rfl⟩ := put_mid (pre := []) (x := ⟨0, 3, 0, 0, 8⟩) (post := []) (H := 8) (j := 1) (a := 1) (l := 3) (S := 2) p0 ⟨rfl, by decide, rfl⟩ (by decide) (by decide) (by rw [ht, hn]; decide +kernel) (by rw [ht]; decide +kernel)
 obtain ⟨e1, rfl⟩ := put_mid (pre := [⟨0, 2, 0, 0, 1⟩, ⟨1, 1, 1, 3, 2⟩]) (x := ⟨3, 3, 0, 0, 5⟩) (post := []) (H := 8) (j := 3) (a := 1) (l := 3) (S := 2) p1 ⟨rfl, by decide, rfl, by decide, rfl, by decide, rfl⟩ (by decide) (by decide) (by rw [ht, hn]; decide +kernel) (by rw [ht]; decide +kernel)
 obtain ⟨e2, rfl⟩ := put_mid (pre := [⟨0, 2, 0, 0, 1⟩, ⟨1, 1, 1, 3, 2⟩, ⟨3, 1, 1, 3, 2⟩]) (x := ⟨5, 3, 0, 0, 3⟩) (post := []) (H := 8) (j := 6) (a := 1) (l := 3) (S := 2) p2 ⟨rfl, by decide, rfl, by decide, rfl, by decide, rfl, by decide, rfl⟩ (by decide) (by decide) (by rw [ht, hn]; decide +kernel) (by rw [ht]; decide +kernel)
 refine ⟨by decide +kernel, ?_, ?_⟩
 ·rw [e2, e1, e0]
  decide +kernel
 ·rw [e2, e1, e0]
  decide +kernel

def steps21 : Array Value := #[.int .i64 0, .int .i64 1, .int .i64 1, .int .i64 3, .int .u64 0, .slice none 0 0, .int .i64 0, .int .i64 3, .int .i64 1, .int .i64 3, .int .u64 0, .slice none 0 0, .int .i64 0, .int .i64 6, .int .i64 1, .int .i64 3, .int .u64 0, .slice none 0 0]

def Played21 (w : World) (e : Ending) (w' : World) : Prop :=
 ∃ (P : Sp) (rb : Nat) (W : Nat -> Nat) (f : Nat -> Bool), e = .returned (.tuple #[.pointer (some ⟨P.s, 0, none⟩), .pointer (some ⟨rb, 0, none⟩), .bool true]) /\ (P.ts = alT /\ P.n = 16) /\ SpaceAt w' P W f /\ CellsAt P W cs21 /\ (∀ i, i < P.n / 2 -> f i = Aq cs21 i) /\ W 4 = 0 /\ Keep Aa w w'

theorem played21 (w : World) (hF : Aj w) (bs bt : Nat) (T1 T2 : TypeId) (h1 : w.heap[bs]? = some (.cells steps21 T1 (0, 0))) (h2 : w.heap[bt]? = some (.cells #[.int .u8 2, .int .i64 0, .int .u64 0] T2 (0, 0))) :
  Calls Tryz.prog 7 #[.int .i64 16, .slice (some ⟨bt, 0, none⟩) 1 1, .slice (some ⟨bs, 0, none⟩) 3 3] w (Played21 w) := by
 have hts : AL w (.slice (some ⟨bt, 0, none⟩) 1 1) alT := ⟨_, _, rfl, λ i x hi => by
  cases i with
  | succ i => simp [alT] at hi
  | zero =>
   have : x = ⟨2, 0, 0⟩ := by simpa [alT] using hi.symm
   subst this
   refine ⟨bt, 0, rfl, lt_of_heap h2, ?_, ?_, ?_⟩ <;> simp only [World.cell?, h2] <;> rfl⟩
 have hst : Dy w (.slice (some ⟨bs, 0, none⟩) 3 3) 3 (λ _ => 0) al21g (λ _ => 1) (λ _ => 3) (λ _ => 0) (λ _ => .slice none 0 0) (λ _ => 0) := ⟨_, _, rfl, λ j hj => ⟨bs, 0, rfl, lt_of_heap h1, by
  have : j = 0 \/ j = 1 \/ j = 2 := by omega
  rcases this with rfl | rfl | rfl <;> (simp only [World.cell?, h1]; refine ⟨rfl, rfl, rfl, rfl, rfl, rfl, ⟨_, _, rfl⟩, by omega, ?_, ?_, ?_⟩ <;> decide +kernel)⟩⟩
 refine (Played_run 16 _ _ alT 3 (λ _ => 0) al21g (λ _ => 1) (λ _ => 3) (λ _ => 0) (λ _ => .slice none 0 0) (λ _ => 0) w hF hts (by decide) (λ x hx => by have := List.mem_singleton.1 hx; subst this; decide) (by decide +kernel) (by decide +kernel) hst (by omega) (λ j hj => by decide) (λ j hj => ⟨λ _ _ => 0, ⟨none, 0, rfl, λ i hi => absurd (show i < 0 from hi) (by omega)⟩⟩) (λ j hj => by omega)).mono ?_
 rintro e w' ⟨P, rb, q, W, cs, rfl, hB, hn, ht, hr⟩
 obtain ⟨rfl, r4, -⟩ := puts21 (dd := λ _ => 0) (ii := λ _ => 1) (nn := λ _ => 3) (gg := al21g) ht hn ⟨rfl, rfl, rfl⟩ ⟨rfl, rfl, rfl⟩ ⟨rfl, rfl, rfl⟩ ⟨rfl, rfl, rfl⟩ hr
 obtain ⟨f, hs, hc, hst⟩ := hB.sp
 exact ⟨P, rb, W, f, rfl, ⟨ht, hn⟩, hs, hc, hst, r4, hB.kb.new'⟩

theorem nats31 (w : World) (T : TypeId) : Bh (w.alloc (.cells #[.int .i64 3, .int .i64 1] T)) (.slice (some ⟨w.heap.size, 0, none⟩) 2 2) [3, 1] := ⟨_, _, rfl, λ i x hi => by
 have h1 : i = 0 \/ i = 1 := by have := (List.getElem?_eq_some_iff.1 hi).1; simp at this; omega
 rcases h1 with rfl | rfl <;> (simp at hi; subst hi; exact ⟨w.heap.size, 0, rfl, by simp only [World.cell?, World.alloc_heap_new w _]; rfl⟩)⟩

theorem nats16 (w : World) (T : TypeId) : Bh (w.alloc (.cells #[.int .i64 1, .int .i64 6] T)) (.slice (some ⟨w.heap.size, 0, none⟩) 2 2) [1, 6] := ⟨_, _, rfl, λ i x hi => by
 have h1 : i = 0 \/ i = 1 := by have := (List.getElem?_eq_some_iff.1 hi).1; simp at this; omega
 rcases h1 with rfl | rfl <;> (simp at hi; subst hi; exact ⟨w.heap.size, 0, rfl, by simp only [World.cell?, World.alloc_heap_new w _]; rfl⟩)⟩

theorem nats2 (w : World) (T : TypeId) : Bh (w.alloc (.cells #[.int .i64 2] T)) (.slice (some ⟨w.heap.size, 0, none⟩) 1 1) [2] := ⟨_, _, rfl, λ i x hi => by
 have h1 : i = 0 := by have := (List.getElem?_eq_some_iff.1 hi).1; simp at this; omega
 subst h1
 simp at hi
 subst hi
 exact ⟨w.heap.size, 0, rfl, by simp only [World.cell?, World.alloc_heap_new w _]; rfl⟩⟩

theorem rows1 (w : World) (T : TypeId) : BK (w.alloc (.cells #[.int .i64 1, .int .i64 4] T)) (.slice (some ⟨w.heap.size, 0, none⟩) 1 1) [(1, 4)] := ⟨_, _, rfl, λ i x hi => by
 have h1 : i = 0 := by have := (List.getElem?_eq_some_iff.1 hi).1; simp at this; omega
 subst h1
 simp at hi
 subst hi
 exact ⟨w.heap.size, 0, rfl, lt_of_heap (World.alloc_heap_new w _), by simp only [World.cell?, World.alloc_heap_new w _]; rfl, by simp only [World.cell?, World.alloc_heap_new w _]; rfl⟩⟩

theorem rows2 (w : World) (T : TypeId) : BK (w.alloc (.cells #[.int .i64 1, .int .i64 2, .int .i64 6, .int .i64 2] T)) (.slice (some ⟨w.heap.size, 0, none⟩) 2 2) [(1, 2), (6, 2)] := ⟨_, _, rfl, λ i x hi => by
 have h1 : i = 0 \/ i = 1 := by have := (List.getElem?_eq_some_iff.1 hi).1; simp at this; omega
 rcases h1 with rfl | rfl <;> (simp at hi; subst hi; exact ⟨w.heap.size, 0, rfl, lt_of_heap (World.alloc_heap_new w _), by simp only [World.cell?, World.alloc_heap_new w _]; rfl, by simp only [World.cell?, World.alloc_heap_new w _]; rfl⟩)⟩

theorem rows3 (w : World) (T : TypeId) : BK (w.alloc (.cells #[.int .i64 0, .int .i64 1, .int .i64 5, .int .i64 3] T)) (.slice (some ⟨w.heap.size, 0, none⟩) 2 2) [(0, 1), (5, 3)] := ⟨_, _, rfl, λ i x hi => by
 have h1 : i = 0 \/ i = 1 := by have := (List.getElem?_eq_some_iff.1 hi).1; simp at this; omega
 rcases h1 with rfl | rfl <;> (simp at hi; subst hi; exact ⟨w.heap.size, 0, rfl, lt_of_heap (World.alloc_heap_new w _), by simp only [World.cell?, World.alloc_heap_new w _]; rfl, by simp only [World.cell?, World.alloc_heap_new w _]; rfl⟩)⟩

theorem objs21 (gs : List Nat) (h : ∀ g ∈ gs, g = 1 \/ g = 3 \/ g = 6) : ∀ g ∈ gs, DN cs21 g := λ g hg => by
 rcases h g hg with rfl | rfl | rfl
 ·exact ⟨⟨1, 1, 1, 3, 2⟩, by simp [cs21], rfl, rfl⟩
 ·exact ⟨⟨3, 1, 1, 3, 2⟩, by simp [cs21], rfl, rfl⟩
 ·exact ⟨⟨6, 1, 1, 3, 2⟩, by simp [cs21], rfl, rfl⟩

set_option maxRecDepth 20000 in
set_option maxHeartbeats 8000000 in
theorem alive21 (w : World) (hF : Aj w) : Calls Tryz.prog 6 #[] w λ e w' => e = .returned (.bool true) /\ Keep Aa w w' := by
 have HF := sE hF
 clear hF
 go_enter Tryz.func6, Tryz.ntmps6
 go_wp2_with fail
 obtain ⟨wp, hwp⟩ : ∃ wp, wp = (w.alloc (.cells steps21 53)).alloc (.cells #[.int .u8 2, .int .i64 0, .int .u64 0] 55) := ⟨_, rfl⟩
 have kp : Keep Aa w wp := by rw [hwp]; exact ((Keep.refl _ w).alloc _).alloc _
 have hb1 : wp.heap[w.heap.size]? = some (.cells steps21 53 (0, 0)) := by rw [hwp]; exact ((Keep.refl Aa _).alloc _).at_ (World.alloc_heap_new w _) (λ h => h)
 have hb2 : wp.heap[w.heap.size + 1]? = some (.cells #[.int .u8 2, .int .i64 0, .int .u64 0] 55 (0, 0)) := by
  rw [hwp]
  have := World.alloc_heap_new (w.alloc (.cells steps21 53)) (.cells #[.int .u8 2, .int .i64 0, .int .u64 0] 55)
  rwa [show (w.alloc (.cells steps21 53)).heap.size = w.heap.size + 1 by simp] at this
 have HP := sE (played21 wp (HF.out.Ac kp) w.heap.size (w.heap.size + 1) _ _ hb1 hb2)
 have HKp := sE kp
 unfold steps21 at hwp
 rw [<- hwp]
 clear hwp hb1 hb2 kp
 refine HP.out.mono ?_
 rintro e w1 ⟨P, rb, W, f, rfl, ⟨ht, hn⟩, hs, hc, hst, r4, k1⟩
 have HK1 := sE (HKp.out.then' k1)
 have HOf : Seal (∀ W' v gs, Keep Aa w1 W' -> Bh W' v gs -> (∀ g ∈ gs, g = 1 \/ g = 3 \/ g = 6) -> gs.length <= 65536 -> Calls Tryz.prog 9 #[.pointer (some ⟨P.s, 0, none⟩), v] W' (Dc W'.heap.size (Ar cs21 (Ce gs)) W')) := ⟨λ W' v gs kk hx ho hl => IsleOf_at P W f cs21 W' gs v (hs.Ac kk) hc hst hx (objs21 gs ho) hl⟩
 have HWa : Seal (∀ W' v gs, Keep Aa w1 W' -> Bh W' v gs -> (∀ g ∈ gs, g = 1 \/ g = 3 \/ g = 6) -> gs.length <= 65536 -> Calls Tryz.prog 10 #[.pointer (some ⟨P.s, 0, none⟩), v] W' (Dc W'.heap.size (AV 0 (Ar cs21 (Ce gs)) 8) W')) := ⟨λ W' v gs kk hx ho hl => by
  have := IsleWater_at P W f cs21 W' gs v (hs.Ac kk) hc hst hx (objs21 gs ho) hl
  rw [hn] at this
  exact this⟩
 have HNo : Seal (∀ W', Keep Aa w1 W' -> Calls Tryz.prog 9 #[.pointer (some ⟨P.s, 0, none⟩), .slice (some ⟨W'.heap.size, 0, none⟩) 1 1] (W'.alloc (.cells #[.int .i64 2] 3)) (IsleNo 2 (W'.alloc (.cells #[.int .i64 2] 3)))) := ⟨λ W' kk => IsleOf_no P W f _ 2 _ (hs.Ac (kk.alloc _)) (by rw [hn]; omega) (by rw [show 2 * 2 = 4 from rfl, r4]; decide +kernel) (nats2 W' _)⟩
 have HNil : Seal (∀ W' v, Calls Tryz.prog 9 #[.pointer none, v] W' (IsleNo 1 W')) := ⟨λ W' v => IsleOf_nil v W'⟩
 clear ht hn hs hc hst r4 k1 HP HKp
 have e31 : Ar cs21 (Ce [3, 1]) = [(1, 4)] := by decide +kernel
 have e16 : Ar cs21 (Ce [1, 6]) = [(1, 2), (6, 2)] := by decide +kernel
 have e31w : AV 0 [(1, 4)] 8 = [(0, 1), (5, 3)] := by decide +kernel
 have HA : Seal (∀ W', Keep Aa w1 W' -> Calls Tryz.prog 9 #[.pointer (some ⟨P.s, 0, none⟩), .slice (some ⟨W'.heap.size, 0, none⟩) 2 2] (W'.alloc (.cells #[.int .i64 3, .int .i64 1] 3)) λ e w' => ∃ a c, e = .returned (.tuple #[.slice a 1 c, .int .i64 0]) /\ BK w' (.slice a 1 c) [(1, 4)] /\ Keep Aa W' w') := ⟨λ W' kk => by
  refine (HOf.out _ _ [3, 1] (kk.alloc _) (nats31 W' _) (by decide) (by decide)).mono ?_
  rw [e31]
  rintro e w' ⟨a, c, rfl, ho, k⟩
  exact ⟨a, c, rfl, BK.AO (L := [(1, 4)]) ho, ((Keep.refl _ _).alloc _).then' k⟩⟩
 have HB : Seal (∀ W', Keep Aa w1 W' -> Calls Tryz.prog 9 #[.pointer (some ⟨P.s, 0, none⟩), .slice (some ⟨W'.heap.size, 0, none⟩) 2 2] (W'.alloc (.cells #[.int .i64 1, .int .i64 6] 3)) λ e w' => ∃ a c, e = .returned (.tuple #[.slice a 2 c, .int .i64 0]) /\ BK w' (.slice a 2 c) [(1, 2), (6, 2)] /\ Keep Aa W' w') := ⟨λ W' kk => by
  refine (HOf.out _ _ [1, 6] (kk.alloc _) (nats16 W' _) (by decide) (by decide)).mono ?_
  rw [e16]
  rintro e w' ⟨a, c, rfl, ho, k⟩
  exact ⟨a, c, rfl, BK.AO (L := [(1, 2), (6, 2)]) ho, ((Keep.refl _ _).alloc _).then' k⟩⟩
 have HC : Seal (∀ W', Keep Aa w1 W' -> Calls Tryz.prog 10 #[.pointer (some ⟨P.s, 0, none⟩), .slice (some ⟨W'.heap.size, 0, none⟩) 2 2] (W'.alloc (.cells #[.int .i64 3, .int .i64 1] 3)) λ e w' => ∃ a c, e = .returned (.tuple #[.slice a 2 c, .int .i64 0]) /\ BK w' (.slice a 2 c) [(0, 1), (5, 3)] /\ Keep Aa W' w') := ⟨λ W' kk => by
  refine (HWa.out _ _ [3, 1] (kk.alloc _) (nats31 W' _) (by decide) (by decide)).mono ?_
  rw [e31, e31w]
  rintro e w' ⟨a, c, rfl, ho, k⟩
  exact ⟨a, c, rfl, BK.AO (L := [(0, 1), (5, 3)]) ho, ((Keep.refl _ _).alloc _).then' k⟩⟩
 have HS1 : Seal (∀ W' a c, BK W' (.slice a 1 c) [(1, 4)] -> Calls Tryz.prog 11 #[.slice a 1 c, .slice (some ⟨W'.heap.size, 0, none⟩) 1 1] (W'.alloc (.cells #[.int .i64 1, .int .i64 4] 39)) λ e w' => e = .returned (.bool true) /\ Keep Aa W' w') := ⟨λ W' a c h => (Dl [(1, 4)] _ _ _ (h.Ac ((Keep.refl _ _).alloc _)) (rows1 W' _) (by simp)).mono λ e w' ⟨he, k⟩ => ⟨he, ((Keep.refl _ _).alloc _).then' k⟩⟩
 have HS2 : Seal (∀ W' a c, BK W' (.slice a 2 c) [(1, 2), (6, 2)] -> Calls Tryz.prog 11 #[.slice a 2 c, .slice (some ⟨W'.heap.size, 0, none⟩) 2 2] (W'.alloc (.cells #[.int .i64 1, .int .i64 2, .int .i64 6, .int .i64 2] 39)) λ e w' => e = .returned (.bool true) /\ Keep Aa W' w') := ⟨λ W' a c h => (Dl [(1, 2), (6, 2)] _ _ _ (h.Ac ((Keep.refl _ _).alloc _)) (rows2 W' _) (by simp)).mono λ e w' ⟨he, k⟩ => ⟨he, ((Keep.refl _ _).alloc _).then' k⟩⟩
 have HS3 : Seal (∀ W' a c, BK W' (.slice a 2 c) [(0, 1), (5, 3)] -> Calls Tryz.prog 11 #[.slice a 2 c, .slice (some ⟨W'.heap.size, 0, none⟩) 2 2] (W'.alloc (.cells #[.int .i64 0, .int .i64 1, .int .i64 5, .int .i64 3] 39)) λ e w' => e = .returned (.bool true) /\ Keep Aa W' w') := ⟨λ W' a c h => (Dl [(0, 1), (5, 3)] _ _ _ (h.Ac ((Keep.refl _ _).alloc _)) (rows3 W' _) (by simp)).mono λ e w' ⟨he, k⟩ => ⟨he, ((Keep.refl _ _).alloc _).then' k⟩⟩
 clear e31 e16 e31w HOf HWa
 go_wp2_with fail
 refine (HA.out w1 (Keep.refl _ _)).mono ?_
 rintro e w2 ⟨a2, c2, rfl, r2, k2⟩
 have K2 : Seal (Keep Aa w1 w2) := ⟨k2⟩
 have R2 := sE r2
 clear k2 r2
 go_wp2_with fail
 refine (HB.out w2 K2.out).mono ?_
 rintro e w3 ⟨a3, c3, rfl, r3, k3⟩
 have K3 : Seal (Keep Aa w2 w3) := ⟨k3⟩
 have R3 := sE r3
 clear k3 r3
 go_wp2_with fail
 refine (HC.out w3 (K2.out.then' K3.out)).mono ?_
 rintro e w4 ⟨a4, c4, rfl, r4, k4⟩
 have K4 : Seal (Keep Aa w3 w4) := ⟨k4⟩
 have R4 := sE r4
 clear k4 r4
 go_wp2_with fail
 refine (HNo.out w4 (K2.out.then' (K3.out.then' K4.out))).mono ?_
 rintro e w5 ⟨rfl, k5⟩
 have K5 : Seal (Keep Aa w4 w5) := ⟨((Keep.refl _ _).alloc _).then' k5⟩
 clear k5
 go_wp2_with fail
 refine (HNil.out _ _).mono ?_
 rintro e w6 ⟨rfl, k6⟩
 have K6 : Seal (Keep Aa w4 w6) := ⟨K5.out.then' k6⟩
 have RA := sE (R2.out.Ac (K3.out.then' (K4.out.then' K6.out)))
 have RB := sE (R3.out.Ac (K4.out.then' K6.out))
 have RC := sE (R4.out.Ac K6.out)
 clear k6
 go_wp2_with fail
 refine (HS1.out w6 _ _ RA.out).mono ?_
 rintro e w7 ⟨rfl, k7⟩
 have K7 : Seal (Keep Aa w6 w7) := ⟨k7⟩
 clear k7
 go_wp2_with fail
 refine (HS2.out w7 _ _ (RB.out.Ac K7.out)).mono ?_
 rintro e w8 ⟨rfl, k8⟩
 have K8 : Seal (Keep Aa w6 w8) := ⟨K7.out.then' k8⟩
 clear k8
 go_wp2_with fail
 refine (HS3.out w8 _ _ (RC.out.Ac K8.out)).mono ?_
 rintro e w9 ⟨rfl, k9⟩
 have K9 : Seal (Keep Aa w6 w9) := ⟨K8.out.then' k9⟩
 clear k9
 go_wp2_with fail
 go_ret
 exact ⟨rfl, HK1.out.then' (K2.out.then' (K3.out.then' (K4.out.then' (K6.out.then' K9.out))))⟩

end Go.Proofs.YtgccjhnafhlndaaGreatDoor
