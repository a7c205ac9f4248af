/-
 The chapter's example of isle: what its steps lay (plain), and what Played answers.
 The chapter's example of isle, walked.
-/
import Derived.Test.YtlmdkfbibpkjgaaGreatDoorIsleD
import Derived.Test.YtlmdkfbibpkjgaaGreatDoorPlayJ
import Derived.Test.YtlmdkfbibpkjgaaGreatDoorSpaceAl
import Derived.Test.YtlmdkfbibpkjgaaGreatDoorFindB
import Derived.Test.YtlmdkfbibpkjgaaGreatDoorIsleO
namespace Go.Proofs.YtlmdkfbibpkjgaaGreatDoor
open Go.RowKit
set_option linter.unusedVariables false

theorem RunR.back1 {P : Sp} {dd gg ii nn : Nat -> Int} {W0 : Nat -> Nat} {cs0 : List Cel} {j : Nat} {W : Nat -> Nat} {cs : List Cel} (h : RunR P dd gg ii nn W0 cs0 (j + 1) W cs) : ∃ W1 cs1, RunR P dd gg ii nn W0 cs0 j W1 cs1 /\ StepR P W1 cs1 (dd j) (gg j) (ii j) (nn j) W cs := by
 cases h with
 | succ h1 h2 => exact ⟨_, _, h1, h2⟩

theorem RunR.start1 {P : Sp} {dd gg ii nn : Nat -> Int} {W0 : Nat -> Nat} {cs0 : List Cel} {W : Nat -> Nat} {cs : List Cel} (h : RunR P dd gg ii nn W0 cs0 0 W cs) : W = W0 /\ cs = cs0 := by
 cases h with
 | zero => exact ⟨rfl, rfl⟩

theorem put_mid {P : Sp} {W W' : Nat -> Nat} {cs' pre post : List Cel} {x : Cel} {H j a l S : Nat} (h : PutStep P W (pre ++ x :: post) (j : Nat) (a : Nat) (l : Nat) W' cs') (ht : Aq 0 (pre ++ x :: post) H) (h1 : x.g <= j) (h2 : j < x.fin) (hR : Cz P.ts (P.n / 2) (pre ++ x :: post) (j : Nat) (a : Nat) (l : Nat) = 0) (hS : Bj P.ts (a : Nat) (l : Nat) = (S : Nat)) :
  W' = putW W x j a l S /\ cs' = putL pre x post j a l S := by
 rcases h with ⟨h, -⟩ | ⟨-, pre', c, post', j', a', l', S', e1, e2, e3, e4, e5, e6, q1, q2, q3, e7, e8⟩
 ·exact absurd hR h
 ·obtain rfl : j' = j := by omega
  obtain rfl : a' = a := by omega
  obtain rfl : l' = l := by omega
  obtain rfl : S' = S := by omega
  obtain ⟨rfl, rfl, rfl⟩ := split_uniq ht e1 h1 h2 q1 (by omega)
  exact ⟨e7, e8⟩

def al21g (j : Nat) : Int := [1, 3, 6].getD j 0

def cs21 : List Cel := [⟨0, 2, 0, 0, 1⟩, ⟨1, 1, 1, 3, 2⟩, ⟨3, 1, 1, 3, 2⟩, ⟨5, 2, 0, 0, 1⟩, ⟨6, 1, 1, 3, 2⟩]

theorem puts21 {P : Sp} (ht : P.ts = alT) (hn : P.n = 16) {dd ii nn : Nat -> Int} (hd : dd 0 = 0 /\ dd 1 = 0 /\ dd 2 = 0) (hi : ii 0 = 1 /\ ii 1 = 1 /\ ii 2 = 1) (hl : nn 0 = 3 /\ nn 1 = 3 /\ nn 2 = 3) {gg : Nat -> Int} (hg : gg 0 = 1 /\ gg 1 = 3 /\ gg 2 = 6) {W : Nat -> Nat} {cs : List Cel} (h : RunR P dd gg ii nn (AP (λ _ => 0) 0 (16 / 2)) (gapL 0 (16 / 2)) 3 W cs) : cs = cs21 /\ W 4 = 0 /\ W 3 = 0 := by
 obtain ⟨W2, cs2, h2, s2⟩ := h.back1
 obtain ⟨W1, cs1, h1, s1⟩ := h2.back1
 obtain ⟨W0, cs0, h0, s0⟩ := h1.back1
 obtain ⟨rfl, rfl⟩ := h0.start1
 obtain ⟨d0, d1, d2⟩ := hd
 obtain ⟨i0, i1, i2⟩ := hi
 obtain ⟨l0, l1, l2⟩ := hl
 obtain ⟨g0, g1, g2⟩ := hg
 have p0 := s0.1 d0
 have p1 := s1.1 d1
 have p2 := s2.1 d2
 rw [i0, l0, g0] at p0
 rw [i1, l1, g1] at p1
 rw [i2, l2, g2] at p2
 obtain ⟨e0, rfl⟩ := put_mid (pre := []) (x := ⟨0, 3, 0, 0, 8⟩) (post := []) (H := 8) (j := 1) (a := 1) (l := 3) (S := 2) p0 ⟨rfl, by decide, rfl⟩ (by decide) (by decide) (by rw [ht, hn]; decide +kernel) (by rw [ht]; decide +kernel)
 obtain ⟨e1, rfl⟩ := put_mid (pre := [⟨0, 2, 0, 0, 1⟩, ⟨1, 1, 1, 3, 2⟩]) (x := ⟨3, 3, 0, 0, 5⟩) (post := []) (H := 8) (j := 3) (a := 1) (l := 3) (S := 2) p1 ⟨rfl, by decide, rfl, by decide, rfl, by decide, rfl⟩ (by decide) (by decide) (by rw [ht, hn]; decide +kernel) (by rw [ht]; decide +kernel)
 obtain ⟨e2, rfl⟩ := put_mid (pre := [⟨0, 2, 0, 0, 1⟩, ⟨1, 1, 1, 3, 2⟩, ⟨3, 1, 1, 3, 2⟩]) (x := ⟨5, 3, 0, 0, 3⟩) (post := []) (H := 8) (j := 6) (a := 1) (l := 3) (S := 2) p2 ⟨rfl, by decide, rfl, by decide, rfl, by decide, rfl, by decide, rfl⟩ (by decide) (by decide) (by rw [ht, hn]; decide +kernel) (by rw [ht]; decide +kernel)
 refine ⟨by decide +kernel, ?_, ?_⟩
 ·rw [e2, e1, e0]
  decide +kernel
 ·rw [e2, e1, e0]
  decide +kernel

def steps21 : Array Value := #[.int .i64 0, .int .i64 1, .int .i64 1, .int .i64 3, .int .u64 0, .slice none 0 0, .int .i64 0, .int .i64 3, .int .i64 1, .int .i64 3, .int .u64 0, .slice none 0 0, .int .i64 0, .int .i64 6, .int .i64 1, .int .i64 3, .int .u64 0, .slice none 0 0]

def Played21 (w : World) (e : Ending) (w' : World) : Prop :=
 ∃ (P : Sp) (rb : Nat) (W : Nat -> Nat) (f : Nat -> Bool), e = .returned (.tuple #[.pointer (some ⟨P.s, 0, none⟩), .pointer (some ⟨rb, 0, none⟩), .bool true]) /\ (P.ts = alT /\ P.n = 16) /\ SpaceAt w' P W f /\ CellsAt P W cs21 /\ (∀ i, i < P.n / 2 -> f i = Ar cs21 i) /\ W 4 = 0 /\ Keep Aa w w'

theorem played21 (w : World) (hF : Al w) (bs bt : Nat) (T1 T2 : TypeId) (h1 : w.heap[bs]? = some (.cells steps21 T1 (0, 0))) (h2 : w.heap[bt]? = some (.cells #[.int .u8 2, .int .i64 0, .int .u64 0] T2 (0, 0))) :
  Calls Tryz.prog 14 #[.int .i64 16, .slice (some ⟨bt, 0, none⟩) 1 1, .slice (some ⟨bs, 0, none⟩) 3 3] w (Played21 w) := by
 have hts : AQ w (.slice (some ⟨bt, 0, none⟩) 1 1) alT := ⟨_, _, rfl, λ i x hi => by
  cases i with
  | succ i => simp [alT] at hi
  | zero =>
   have : x = ⟨2, 0, 0⟩ := by simpa [alT] using hi.symm
   subst this
   refine ⟨bt, 0, rfl, lt_of_heap h2, ?_, ?_, ?_⟩ <;> simp only [World.cell?, h2] <;> rfl⟩
 have hst : EK w (.slice (some ⟨bs, 0, none⟩) 3 3) 3 (λ _ => 0) al21g (λ _ => 1) (λ _ => 3) (λ _ => 0) (λ _ => .slice none 0 0) (λ _ => 0) := ⟨_, _, rfl, λ j hj => ⟨bs, 0, rfl, lt_of_heap h1, by
  have : j = 0 \/ j = 1 \/ j = 2 := by omega
  rcases this with rfl | rfl | rfl <;> (simp only [World.cell?, h1]; refine ⟨rfl, rfl, rfl, rfl, rfl, rfl, ⟨_, _, rfl⟩, by omega, ?_, ?_, ?_⟩ <;> decide +kernel)⟩⟩
 refine (Played_run 16 _ _ alT 3 (λ _ => 0) al21g (λ _ => 1) (λ _ => 3) (λ _ => 0) (λ _ => .slice none 0 0) (λ _ => 0) w hF hts (by decide) (λ x hx => by have := List.mem_singleton.1 hx; subst this; decide) (by decide +kernel) (by decide +kernel) hst (by omega) (λ j hj => by decide) (λ j hj => ⟨λ _ _ => 0, ⟨none, 0, rfl, λ i hi => absurd (show i < 0 from hi) (by omega)⟩⟩) (λ j hj => by omega)).mono ?_
 rintro e w' ⟨P, rb, q, W, cs, rfl, hB, hn, ht, hr⟩
 obtain ⟨rfl, r4, -⟩ := puts21 (dd := λ _ => 0) (ii := λ _ => 1) (nn := λ _ => 3) (gg := al21g) ht hn ⟨rfl, rfl, rfl⟩ ⟨rfl, rfl, rfl⟩ ⟨rfl, rfl, rfl⟩ ⟨rfl, rfl, rfl⟩ hr
 obtain ⟨f, hs, hc, hst⟩ := hB.sp
 exact ⟨P, rb, W, f, rfl, ⟨ht, hn⟩, hs, hc, hst, r4, hB.kb.new'⟩

theorem nats2 (w : World) (T : TypeId) : Bf (w.alloc (.cells #[.int .i64 2] T)) (.slice (some ⟨w.heap.size, 0, none⟩) 1 1) [2] := ⟨_, _, rfl, λ i x hi => by
 have h1 : i = 0 := by have := (List.getElem?_eq_some_iff.1 hi).1; simp at this; omega
 subst h1
 simp at hi
 subst hi
 exact ⟨w.heap.size, 0, rfl, by simp only [World.cell?, World.alloc_heap_new w _]; rfl⟩⟩

theorem objs21 (gs : List Nat) (h : ∀ g ∈ gs, g = 1 \/ g = 3 \/ g = 6) : ∀ g ∈ gs, BV cs21 g := λ g hg => by
 rcases h g hg with rfl | rfl | rfl
 ·exact ⟨⟨1, 1, 1, 3, 2⟩, by simp [cs21], rfl, rfl⟩
 ·exact ⟨⟨3, 1, 1, 3, 2⟩, by simp [cs21], rfl, rfl⟩
 ·exact ⟨⟨6, 1, 1, 3, 2⟩, by simp [cs21], rfl, rfl⟩

end Go.Proofs.YtlmdkfbibpkjgaaGreatDoor
