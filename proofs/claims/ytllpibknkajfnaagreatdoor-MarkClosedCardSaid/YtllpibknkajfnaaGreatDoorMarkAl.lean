/-
 The chapter's example of mark: what its steps lay (plain).
 The chapter's example of mark: what is reached (plain), and what Of and All answer.
 The chapter's example of mark, walked.
-/
import Derived.Test.YtllpibknkajfnaaGreatDoorPlayJ
import Derived.Test.YtllpibknkajfnaaGreatDoorSpaceAl
import Derived.Test.YtllpibknkajfnaaGreatDoorMarkC
import Derived.Test.YtllpibknkajfnaaGreatDoorInts
namespace Go.Proofs.YtllpibknkajfnaaGreatDoor
open Go.RowKit
set_option linter.unusedVariables false

theorem put_last : ∀ {base pre post : List Cel} {c x : Cel}, base ++ [x] = pre ++ c :: post → (∀ o ∈ base, o.tag = 1) → ¬ c.tag = 1 → pre = base ∧ c = x ∧ post = []
 | [], [], post, c, x, h, _, _ => by
  simp at h
  exact ⟨rfl, h.1.symm, h.2⟩
 | [], d :: pre, post, c, x, h, _, _ => by simp at h
 | o :: base, [], post, c, x, h, hb, hc => by
  simp only [List.nil_append, List.cons_append, List.cons.injEq] at h
  exact absurd (h.1 ▸ hb o (by simp)) hc
 | o :: base, d :: pre, post, c, x, h, hb, hc => by
  simp only [List.cons_append, List.cons.injEq] at h
  obtain ⟨h1, h2, h3⟩ := put_last h.2 (fun y hy => hb y (by simp [hy])) hc
  exact ⟨by rw [h1, h.1], h2, h3⟩

theorem RunR.back {P : Sp} {dd gg ii nn : Nat → Int} {W0 : Nat → Nat} {cs0 : List Cel} {j : Nat} {W : Nat → Nat} {cs : List Cel} (h : RunR P dd gg ii nn W0 cs0 (j + 1) W cs) : ∃ W1 cs1, RunR P dd gg ii nn W0 cs0 j W1 cs1 ∧ StepR P W1 cs1 (dd j) (gg j) (ii j) (nn j) W cs := by
 cases h with
 | succ h1 h2 => exact ⟨_, _, h1, h2⟩

theorem RunR.start {P : Sp} {dd gg ii nn : Nat → Int} {W0 : Nat → Nat} {cs0 : List Cel} {W : Nat → Nat} {cs : List Cel} (h : RunR P dd gg ii nn W0 cs0 0 W cs) : W = W0 ∧ cs = cs0 := by
 cases h with
 | zero => exact ⟨rfl, rfl⟩

theorem put_at_end {P : Sp} {W W' : Nat → Nat} {cs' base : List Cel} {x : Cel} {j a l S : Nat} (h : PutStep P W (base ++ [x]) (j : Nat) (a : Nat) (l : Nat) W' cs') (hb : ∀ o ∈ base, o.tag = 1) (hR : putR P.ts (P.n / 2) (base ++ [x]) (j : Nat) (a : Nat) (l : Nat) = 0) (hS : sizeS P.ts (a : Nat) (l : Nat) = (S : Nat)) :
  W' = putW W x j a l S ∧ cs' = putL base x [] j a l S := by
 rcases h with ⟨h, -⟩ | ⟨-, pre, c, post, j', a', l', S', e1, e2, e3, e4, e5, e6, -, -, -, e7, e8⟩
 ·exact absurd hR h
 ·obtain rfl : j' = j := by omega
  obtain rfl : a' = a := by omega
  obtain rfl : l' = l := by omega
  obtain rfl : S' = S := by omega
  obtain ⟨rfl, rfl, rfl⟩ := put_last e1 hb e2
  exact ⟨e7, e8⟩

def al20d (j : Nat) : Int := [0, 0, 0, 5, 5].getD j 0

def al20g (j : Nat) : Int := [0, 1, 2, 0, 1].getD j 0

def al20i (j : Nat) : Int := [1, 1, 1, 1, 2].getD j 0

def al20n (j : Nat) : Int := [1, 1, 1, 0, 0].getD j 0

def cs20 : List Cel := [⟨0, 1, 1, 1, 1⟩, ⟨1, 1, 1, 1, 1⟩, ⟨2, 1, 1, 1, 1⟩, ⟨3, 3, 0, 0, 17⟩]

theorem puts20 {P : Sp} (ht : P.ts = alT) (hn : P.n = 40) {W : Nat → Nat} {cs : List Cel} (h : RunR P al20d al20g al20i al20n (layGap (fun _ => 0) 0 (40 / 2)) (gapL 0 (40 / 2)) 3 W cs) : cs = cs20 ∧ W 5 = 0 := by
 obtain ⟨W2, cs2, h2, s2⟩ := h.back
 obtain ⟨W1, cs1, h1, s1⟩ := h2.back
 obtain ⟨W0, cs0, h0, s0⟩ := h1.back
 obtain ⟨rfl, rfl⟩ := h0.start
 have p0 := s0.1 rfl
 have p1 := s1.1 rfl
 have p2 := s2.1 rfl
 obtain ⟨e0, rfl⟩ := put_at_end (base := []) (x := ⟨0, 3, 0, 0, 20⟩) (j := 0) (a := 1) (l := 1) (S := 1) p0 (by simp) (by rw [ht, hn]; decide +kernel) (by rw [ht]; decide +kernel)
 obtain ⟨e1, rfl⟩ := put_at_end (base := [⟨0, 1, 1, 1, 1⟩]) (x := ⟨1, 3, 0, 0, 19⟩) (j := 1) (a := 1) (l := 1) (S := 1) p1 (by simp) (by rw [ht, hn]; decide +kernel) (by rw [ht]; decide +kernel)
 obtain ⟨e2, rfl⟩ := put_at_end (base := [⟨0, 1, 1, 1, 1⟩, ⟨1, 1, 1, 1, 1⟩]) (x := ⟨2, 3, 0, 0, 18⟩) (j := 2) (a := 1) (l := 1) (S := 1) p2 (by simp) (by rw [ht, hn]; decide +kernel) (by rw [ht]; decide +kernel)
 refine ⟨by decide +kernel, ?_⟩
 rw [e2, e1, e0]
 decide +kernel

theorem join20 {P : Sp} (ht : P.ts = alT) {W W' : Nat → Nat} {cs' : List Cel} {g i : Nat} (hg : g < 3) (hi : i < 3) (h : JoinStep P W cs20 (g : Nat) (i : Nat) 0 W' cs') : cs' = cs20 ∧ W' = updW W (2 * g + 1) (1048576 + 2 * i) := by
 obtain ⟨rfl, h⟩ := h
 refine ⟨rfl, ?_⟩
 have ho : obsG cs20 = [0, 1, 2] := by decide +kernel
 have hz : bits .and .i64 0 65535 = 0 := by decide +kernel
 have hG : ∀ x : Nat, x < 3 → bits .and .i64 (x : Nat) 65535 = (x : Int) := fun x hx => by
  have : x = 0 ∨ x = 1 ∨ x = 2 := by omega
  rcases this with rfl | rfl | rfl <;> decide +kernel
 have hN : ∀ x : Nat, x < 3 → ([0, 1, 2] : List Nat)[x % 3]? = some x := fun x hx => by
  have : x = 0 ∨ x = 1 ∨ x = 2 := by omega
  rcases this with rfl | rfl | rfl <;> rfl
 rcases h with ⟨h, -⟩ | ⟨G1, G2, G3, c, g2, k, wds, m, ⟨a1, a2, a3⟩, ⟨hc, htg⟩, x1, x2, hty, hr⟩
 ·rw [ho] at h
  cases h
 ·rw [hG g hg] at a1
  rw [hG i hi] at a2
  rw [hz] at a3
  obtain rfl : G1 = g := by omega
  obtain rfl : G2 = i := by omega
  obtain rfl : G3 = 0 := by omega
  rw [ho] at x1 x2
  have e1 := (hN _ hg).symm.trans x1
  have e2 := (hN _ hi).symm.trans x2
  injection e1 with e1
  injection e2 with e2
  have hcc : c.ty = 1 ∧ c.ln = 1 := by
   have : c = ⟨0, 1, 1, 1, 1⟩ ∨ c = ⟨1, 1, 1, 1, 1⟩ ∨ c = ⟨2, 1, 1, 1, 1⟩ ∨ c = ⟨3, 3, 0, 0, 17⟩ := by simpa [cs20] using hc
   rcases this with rfl | rfl | rfl | rfl
   ·exact ⟨rfl, rfl⟩
   ·exact ⟨rfl, rfl⟩
   ·exact ⟨rfl, rfl⟩
   ·exact absurd htg (by decide)
  rw [ht, hcc.1] at hty
  have hty2 : some (⟨2, 0, 0⟩ : TypR) = some ⟨k, wds, m⟩ := (show typeOf alT ((1 : Nat) : Int) = some ⟨2, 0, 0⟩ from by rfl).symm.trans hty
  injection hty2 with hty2
  injection hty2 with q1 q2 q3
  subst q1 q2 q3
  rw [hcc.2, show refsT 2 0 0 ((1 : Nat) : Int) = [0] by decide +kernel] at hr
  rcases hr with ⟨hr, -⟩ | ⟨s, Y, hs, hY, hW⟩
  ·cases hr
  ·have hs0 : s = 0 := by
    have : some (0 : Nat) = some s := hs
    injection this with this
    exact this.symm
   rw [hW, hs0, hY (by omega), ← e1, ← e2]

theorem run20 {P : Sp} (ht : P.ts = alT) (hn : P.n = 40) {W : Nat → Nat} {cs : List Cel} (h : RunR P al20d al20g al20i al20n (layGap (fun _ => 0) 0 (40 / 2)) (gapL 0 (40 / 2)) 5 W cs) : cs = cs20 ∧ W 1 = 1048578 ∧ W 3 = 1048580 ∧ W 5 = 0 := by
 obtain ⟨W4, cs4, h4, s4⟩ := h.back
 obtain ⟨W3, cs3, h3, s3⟩ := h4.back
 obtain ⟨rfl, z5⟩ := puts20 ht hn h3
 obtain ⟨rfl, e4⟩ := join20 ht (g := 0) (i := 1) (by omega) (by omega) (s3.2 rfl)
 obtain ⟨rfl, e5⟩ := join20 ht (g := 1) (i := 2) (by omega) (by omega) (s4.2 rfl)
 refine ⟨rfl, ?_, ?_, ?_⟩ <;> rw [e5, e4] <;> simp [updW, z5]

end Go.Proofs.YtllpibknkajfnaaGreatDoor

namespace Go.Proofs.YtllpibknkajfnaaGreatDoor
open Go.RowKit
set_option linter.unusedVariables false

theorem kid_to {f : Nat → Bool} {H y i : Nat} (hy : y = 1048576 + 2 * i) (hi : i < H) (h6 : i < 32768) (hf : f i = true) : kidL f H [y] 1 = [i] := by
 subst hy
 have h1 : kidL f H [1048576 + 2 * i] (0 + 1) = kidL f H [1048576 + 2 * i] 0 ++ kidOf f H (1048576 + 2 * i) := kidL_succ rfl
 rw [show (1 : Nat) = 0 + 1 from rfl, h1]
 have h2 : (1048576 + 2 * i - 1048576) / 2 = i := by omega
 have h3 : hasI f H (i : Nat) = true := by
  unfold hasI
  rw [Bool.and_eq_true, decide_eq_true_eq, Int.toNat_natCast]
  exact ⟨by omega, hf⟩
 unfold kidOf
 rw [h2, if_pos ⟨by omega, by omega, by omega, h3⟩]
 rfl

theorem kids20 {f : Nat → Bool} {W : Nat → Nat} (hf : ∀ i, i < 20 → f i = startOf cs20 i) (h1 : W 1 = 1048578) (h3 : W 3 = 1048580) (h5 : W 5 = 0) :
  kidsOf f 20 alT W cs20 0 = [1] ∧ kidsOf f 20 alT W cs20 1 = [2] ∧ kidsOf f 20 alT W cs20 2 = [] := by
 have r : ∀ g, g < 3 → refsC alT ⟨g, 1, 1, 1, 1⟩ = [0] := fun g _ => by
  show refsT 2 0 0 ((1 : Nat) : Int) = [0]
  decide +kernel
 have f1 : f 1 = true := by rw [hf 1 (by omega)]; decide +kernel
 have f2 : f 2 = true := by rw [hf 2 (by omega)]; decide +kernel
 have t0 : tgtsC alT W ⟨0, 1, 1, 1, 1⟩ = [1048578] := by
  unfold tgtsC tgtL
  rw [r 0 (by omega)]
  simp [h1]
 have t1 : tgtsC alT W ⟨1, 1, 1, 1, 1⟩ = [1048580] := by
  unfold tgtsC tgtL
  rw [r 1 (by omega)]
  simp [h3]
 have t2 : tgtsC alT W ⟨2, 1, 1, 1, 1⟩ = [] := by
  unfold tgtsC tgtL
  rw [r 2 (by omega)]
  simp [h5]
 refine ⟨?_, ?_, ?_⟩
 ·show kidL f 20 (tgtsC alT W ⟨0, 1, 1, 1, 1⟩) (tgtsC alT W ⟨0, 1, 1, 1, 1⟩).length = [1]
  rw [t0]
  exact kid_to (i := 1) rfl (by omega) (by omega) f1
 ·show kidL f 20 (tgtsC alT W ⟨1, 1, 1, 1, 1⟩) (tgtsC alT W ⟨1, 1, 1, 1, 1⟩).length = [2]
  rw [t1]
  exact kid_to (i := 2) rfl (by omega) (by omega) f2
 ·show kidL f 20 (tgtsC alT W ⟨2, 1, 1, 1, 1⟩) (tgtsC alT W ⟨2, 1, 1, 1, 1⟩).length = []
  rw [t2]
  rfl

theorem reach20 {KF : Nat → List Nat} (k : KF 0 = [1] ∧ KF 1 = [2] ∧ KF 2 = []) (g : Nat) : MReach KF (fun g => g ∈ [0]) g ↔ g < 3 := by
 obtain ⟨k0, k1, k2⟩ := k
 constructor
 ·intro h
  induction h with
  | root e =>
   have := List.mem_singleton.1 e
   omega
  | @step x y _ e ih =>
   have : x = 0 ∨ x = 1 ∨ x = 2 := by omega
   rcases this with rfl | rfl | rfl
   ·rw [k0] at e
    have := List.mem_singleton.1 e
    omega
   ·rw [k1] at e
    have := List.mem_singleton.1 e
    omega
   ·rw [k2] at e
    cases e
 ·intro h
  have m0 : MReach KF (fun g => g ∈ [0]) 0 := .root (by simp)
  have m1 : MReach KF (fun g => g ∈ [0]) 1 := .step m0 (by rw [k0]; simp)
  have m2 : MReach KF (fun g => g ∈ [0]) 2 := .step m1 (by rw [k1]; simp)
  have : g = 0 ∨ g = 1 ∨ g = 2 := by omega
  rcases this with rfl | rfl | rfl
  ·exact m0
  ·exact m1
  ·exact m2

theorem set20 {f : Nat → Bool} (h : ∀ g, f g = true ↔ g < 3) : setL f 20 = [0, 1, 2] := by
 have : setL f 20 = setL (fun g => decide (g < 3)) 20 := setL_congr fun i _ => by
  cases hf : f i with
  | true => exact (decide_eq_true ((h i).1 hf)).symm
  | false => exact (decide_eq_false (fun e => by have := (h i).2 e; rw [hf] at this; cases this)).symm
 rw [this]
 decide +kernel

/-- What Of answers at the example. -/
def Of20 (lim : Nat) (w : World) (e : Ending) (w' : World) : Prop :=
 ∃ (mp mq : Nat) (fm : Nat → Bool) (dp : Nat), (setL fm 20 = [0, 1, 2] ∧ dp ≤ lim) ∧ (∃ ag : Nat, (3 ≤ lim → ag = 0) ∧ e = .returned (.tuple #[.pointer (some ⟨mp, 0, none⟩), .agg #[.int .i64 3, .int .i64 (dp : Nat), .int .i64 (ag : Nat)], .int .i64 0])) ∧ BitsAt w' mp mq fm 20 ∧ Keep Nope w w'

theorem of20 {P : Sp} {W : Nat → Nat} {f : Nat → Bool} (ht : P.ts = alT) (hn : P.n = 40) (lim : Nat) (w : World) (hsp : SpaceAt w P W f) (hc : CellsAt P W cs20) (hst : ∀ i, i < P.n / 2 → f i = startOf cs20 i) (h1 : W 1 = 1048578) (h3 : W 3 = 1048580) (h5 : W 5 = 0) (hl1 : 1 ≤ lim) (hl2 : lim ≤ 4096) (v : Value) (hx : NatsIn w v [0]) :
  Calls Tryz.prog 29 #[.pointer (some ⟨P.s, 0, none⟩), .int .i64 (lim : Nat), v] w (Of20 lim w) := by
 refine (MarkOf_at P W f lim w cs20 hsp hc hst (by rw [ht]; intro x hx; have := List.mem_singleton.1 hx; subst this; decide) hl1 hl2 v [0] hx (fun g hg => by
  have := List.mem_singleton.1 hg
  subst this
  exact ⟨⟨0, 1, 1, 1, 1⟩, by simp [cs20], rfl, rfl⟩) (by simp)).mono ?_
 rintro e w' ⟨mp, mq, fm, n, dp, ag, rfl, hb, hcn, hdp, hag, hre, hT, hm1, hm2, kk⟩
 rw [ht, hn] at hre
 rw [hn] at hb hcn
 have hk := kids20 (f := f) (W := W) (fun i hi => hst i (by rw [hn]; exact hi)) h1 h3 h5
 have hs := set20 (f := fm) (fun g => (hre g).trans (reach20 hk g))
 have hn3 : n = 3 := by
  rw [hcn]
  show (List.range 20).countP fm = 3
  rw [setL_count, hs]
  rfl
 subst hn3
 refine ⟨mp, mq, fm, dp, ⟨hs, hdp⟩, ⟨ag, fun h => ?_, rfl⟩, hb, kk⟩
 by_cases h0 : 0 < ag
 ·have := hag h0
  omega
 ·omega

end Go.Proofs.YtllpibknkajfnaaGreatDoor

namespace Go.Proofs.YtllpibknkajfnaaGreatDoor
open Go.RowKit
set_option linter.unusedVariables false

def steps20 : Array Value := #[.int .i64 0, .int .i64 0, .int .i64 1, .int .i64 1, .int .u64 0, .slice none 0 0, .int .i64 0, .int .i64 1, .int .i64 1, .int .i64 1, .int .u64 0, .slice none 0 0, .int .i64 0, .int .i64 2, .int .i64 1, .int .i64 1, .int .u64 0, .slice none 0 0, .int .i64 5, .int .i64 0, .int .i64 1, .int .i64 0, .int .u64 0, .slice none 0 0, .int .i64 5, .int .i64 1, .int .i64 2, .int .i64 0, .int .u64 0, .slice none 0 0]

/-- What Played answers at the example. -/
def Played20 (w : World) (e : Ending) (w' : World) : Prop :=
 ∃ (P : Sp) (rb : Nat) (W : Nat → Nat) (f : Nat → Bool), e = .returned (.tuple #[.pointer (some ⟨P.s, 0, none⟩), .pointer (some ⟨rb, 0, none⟩), .bool true]) ∧ (P.ts = alT ∧ P.n = 40) ∧ SpaceAt w' P W f ∧ CellsAt P W cs20 ∧ (∀ i, i < P.n / 2 → f i = startOf cs20 i) ∧ (W 1 = 1048578 ∧ W 3 = 1048580 ∧ W 5 = 0) ∧ Keep Nope w w'

theorem played20 (w : World) (hF : FieldsAt w) (bs bt : Nat) (T1 T2 : TypeId) (h1 : w.heap[bs]? = some (.cells steps20 T1 (0, 0))) (h2 : w.heap[bt]? = some (.cells #[.int .u8 2, .int .i64 0, .int .u64 0] T2 (0, 0))) :
  Calls Tryz.prog 27 #[.int .i64 40, .slice (some ⟨bt, 0, none⟩) 1 1, .slice (some ⟨bs, 0, none⟩) 5 5] w (Played20 w) := by
 have hts : TypsAt w (.slice (some ⟨bt, 0, none⟩) 1 1) alT := ⟨_, _, rfl, fun i x hi => by
  cases i with
  | succ i => simp [alT] at hi
  | zero =>
   have : x = ⟨2, 0, 0⟩ := by simpa [alT] using hi.symm
   subst this
   refine ⟨bt, 0, rfl, lt_of_heap h2, ?_, ?_, ?_⟩ <;> simp only [World.cell?, h2] <;> rfl⟩
 have hst : Steps6At w (.slice (some ⟨bs, 0, none⟩) 5 5) 5 al20d al20g al20i al20n (fun _ => 0) (fun _ => .slice none 0 0) (fun _ => 0) := ⟨_, _, rfl, fun j hj => ⟨bs, 0, rfl, lt_of_heap h1, by
  have : j = 0 ∨ j = 1 ∨ j = 2 ∨ j = 3 ∨ j = 4 := by omega
  rcases this with rfl | rfl | rfl | rfl | rfl <;> (simp only [World.cell?, h1]; refine ⟨rfl, rfl, rfl, rfl, rfl, rfl, ⟨_, _, rfl⟩, by omega, ?_, ?_, ?_⟩ <;> decide +kernel)⟩⟩
 refine (Played_run 40 _ _ alT 5 al20d al20g al20i al20n (fun _ => 0) (fun _ => .slice none 0 0) (fun _ => 0) w hF hts (by decide) (fun x hx => by have := List.mem_singleton.1 hx; subst this; decide) (by decide +kernel) (by decide +kernel) hst (by omega) (fun j hj => by decide) (fun j hj => ⟨fun _ _ => 0, ⟨none, 0, rfl, fun i hi => absurd (show i < 0 from hi) (by omega)⟩⟩) (fun j hj => by omega)).mono ?_
 rintro e w' ⟨P, rb, q, W, cs, rfl, hB, hn, ht, hr⟩
 obtain ⟨rfl, r1, r3, r5⟩ := run20 ht hn hr
 obtain ⟨f, hs, hc, hst⟩ := hB.sp
 exact ⟨P, rb, W, f, rfl, ⟨ht, hn⟩, hs, hc, hst, ⟨r1, r3, r5⟩, hB.kb.new'⟩

theorem nats0 (w : World) (T : TypeId) : NatsIn (w.alloc (.cells #[.int .i64 0] T)) (.slice (some ⟨w.heap.size, 0, none⟩) 1 1) [0] := ⟨_, _, rfl, fun i x hi => by
 cases i with
 | succ i => simp at hi
 | zero =>
  have : x = 0 := by simpa using hi.symm
  subst this
  exact ⟨w.heap.size, 0, rfl, by simp only [World.cell?, World.alloc_heap_new w _]; rfl⟩⟩

theorem ints012 (w : World) (T : TypeId) : IntsIn (w.alloc (.cells #[.int .i64 0, .int .i64 1, .int .i64 2] T)) (.slice (some ⟨w.heap.size, 0, none⟩) 3 3) [0, 1, 2] := ⟨_, _, rfl, fun i hi => ⟨w.heap.size, 0, rfl, lt_of_heap (World.alloc_heap_new w _), fun j hj => by
 have h1 : i = 0 ∨ i = 1 ∨ i = 2 := by simp at hi; omega
 obtain rfl : j = 0 := by omega
 rcases h1 with rfl | rfl | rfl <;> (simp only [World.cell?, World.alloc_heap_new w _]; exact ⟨rfl, by decide, by decide⟩)⟩⟩

theorem all012 {mp mq : Nat} {fm : Nat → Bool} {w : World} (hb : BitsAt w mp mq fm 20) (hs : setL fm 20 = [0, 1, 2]) :
  Calls Tryz.prog 30 #[.pointer (some ⟨mp, 0, none⟩)] w fun e w' => ∃ a c, e = .returned (.slice a 3 c) ∧ IntsIn w' (.slice a 3 c) [0, 1, 2] ∧ Keep Nope w w' := by
 refine (All20_at 20 mp mq fm w hb).mono ?_
 rintro e w' ⟨a, c, rfl, ho, k⟩
 rw [hs] at ho ⊢
 exact ⟨a, c, rfl, ints_of_owns (xs := [0, 1, 2]) ho (by simp), k⟩

set_option maxRecDepth 20000 in
set_option maxHeartbeats 8000000 in
theorem alive20 (w : World) (hF : FieldsAt w) : Calls Tryz.prog 26 #[] w fun e w' => e = .returned (.bool true) ∧ Keep Nope w w' := by
 have HF : Seal _ := ⟨hF⟩
 clear hF
 go_enter Tryz.func26, Tryz.ntmps26
 go_wp2_with fail
 obtain ⟨wp, hwp⟩ : ∃ wp, wp = (w.alloc (.cells steps20 35)).alloc (.cells #[.int .u8 2, .int .i64 0, .int .u64 0] 84) := ⟨_, rfl⟩
 have kp : Keep Nope w wp := by rw [hwp]; exact ((Keep.refl _ w).alloc _).alloc _
 have hb1 : wp.heap[w.heap.size]? = some (.cells steps20 35 (0, 0)) := by rw [hwp]; exact ((Keep.refl Nope _).alloc _).at_ (World.alloc_heap_new w _) (fun h => h)
 have hb2 : wp.heap[w.heap.size + 1]? = some (.cells #[.int .u8 2, .int .i64 0, .int .u64 0] 84 (0, 0)) := by
  rw [hwp]
  have := World.alloc_heap_new (w.alloc (.cells steps20 35)) (.cells #[.int .u8 2, .int .i64 0, .int .u64 0] 84)
  rwa [show (w.alloc (.cells steps20 35)).heap.size = w.heap.size + 1 by simp] at this
 have HP : Seal _ := ⟨played20 wp (HF.out.keepN kp) w.heap.size (w.heap.size + 1) _ _ hb1 hb2⟩
 have HKp : Seal _ := ⟨kp⟩
 unfold steps20 at hwp
 rw [← hwp]
 clear hwp hb1 hb2 kp
 refine HP.out.mono ?_
 rintro e w1 ⟨P, rb, W, f, rfl, ⟨ht, hn⟩, hs, hc, hst, ⟨r1, r3, r5⟩, k1⟩
 have HK1 : Seal _ := ⟨HKp.out.then' k1⟩
 have HOf : Seal (∀ (lim : Nat) W' v, Keep Nope w1 W' → 1 ≤ lim → lim ≤ 4096 → NatsIn W' v [0] → Calls Tryz.prog 29 #[.pointer (some ⟨P.s, 0, none⟩), .int .i64 (lim : Nat), v] W' (Of20 lim W')) := ⟨fun lim W' v kk l1 l2 hx => of20 ht hn lim W' (hs.keepN kk) hc hst r1 r3 r5 l1 l2 v hx⟩
 have HLast : Seal (∀ W' v, Calls Tryz.prog 29 #[.pointer (some ⟨P.s, 0, none⟩), .int .i64 0, v] W' (OfNo 2 W')) := ⟨fun W' v => MarkOf_zero P.s v W'⟩
 have HNil : Seal (∀ W' v, Calls Tryz.prog 29 #[.pointer none, .int .i64 1, v] W' (OfNo 1 W')) := ⟨fun W' v => MarkOf_nil 1 v W'⟩
 clear ht hn hs hc hst r1 r3 r5 k1 HP HKp
 go_wp2_with fail
 refine (HOf.out 1 _ _ ((Keep.refl _ _).alloc _) (by omega) (by omega) (nats0 w1 _)).mono ?_
 rintro e w2 ⟨mp, mq, fm, dp, ⟨hset, hdp⟩, ⟨ag, hag, rfl⟩, hb, k2⟩
 have K2 : Seal (Keep Nope w1 w2) := ⟨((Keep.refl _ _).alloc _).then' k2⟩
 have HSet : Seal _ := ⟨hset⟩
 have HB : Seal _ := ⟨hb⟩
 have HDp : Seal _ := ⟨hdp⟩
 clear hset hb hdp k2 hag
 go_wp2_with fail
 obtain ⟨w3, hw3⟩ : ∃ w3, w3 = w2.alloc (.cells #[.int .i64 3, .int .i64 (dp : Nat), .int .i64 (ag : Nat)] 72) := ⟨_, rfl⟩
 have k3 : Keep Nope w2 w3 := by rw [hw3]; exact (Keep.refl _ _).alloc _
 have hm3 : w3.heap[w2.heap.size]? = some (.cells #[.int .i64 3, .int .i64 (dp : Nat), .int .i64 (ag : Nat)] 72 (0, 0)) := by rw [hw3]; exact World.alloc_heap_new _ _
 rw [← hw3]
 have hz3 : w2.heap.size + 1 = w3.heap.size := by rw [hw3]; simp
 try rw [hz3]
 have K3 : Seal (Keep Nope w1 w3) := ⟨K2.out.then' k3⟩
 have HM3 : Seal _ := ⟨hm3⟩
 have HK3 : Seal _ := ⟨k3⟩
 clear hw3 k3 hm3 hz3
 refine (HOf.out 100 _ _ (K3.out.then' ((Keep.refl _ _).alloc _)) (by omega) (by omega) (nats0 w3 _)).mono ?_
 rintro e w4 ⟨mp', mq', fm', dp', ⟨hset', hdp'⟩, ⟨ag', hag', rfl⟩, hb', k4⟩
 obtain rfl : ag' = 0 := hag' (by omega)
 have K4 : Seal (Keep Nope w3 w4) := ⟨((Keep.refl _ _).alloc _).then' k4⟩
 have HSet' : Seal _ := ⟨hset'⟩
 have HB' : Seal _ := ⟨hb'⟩
 clear hset' hb' hdp' k4 hag'
 go_wp2_with fail
 obtain ⟨w5, hw5⟩ : ∃ w5, w5 = w4.alloc (.cells #[.int .i64 3, .int .i64 (dp' : Nat), .int .i64 0] 72) := ⟨_, rfl⟩
 have k5 : Keep Nope w4 w5 := by rw [hw5]; exact (Keep.refl _ _).alloc _
 have hm5 : w5.heap[w4.heap.size]? = some (.cells #[.int .i64 3, .int .i64 (dp' : Nat), .int .i64 0] 72 (0, 0)) := by rw [hw5]; exact World.alloc_heap_new _ _
 rw [← hw5]
 have HM5 : Seal _ := ⟨hm5⟩
 have HK5 : Seal _ := ⟨k5⟩
 clear hw5 k5 hm5
 refine (HLast.out _ _).mono ?_
 rintro e w6 ⟨rfl, k6⟩
 have K6 : Seal (Keep Nope w5 w6) := ⟨((Keep.refl _ _).alloc _).then' k6⟩
 clear k6
 go_wp2_with fail
 refine (HNil.out _ _).mono ?_
 rintro e w8 ⟨rfl, k8⟩
 have K8 : Seal (Keep Nope w6 w8) := ⟨((Keep.refl _ _).alloc _).then' k8⟩
 clear k8
 have K58 : Keep Nope w5 w8 := K6.out.then' K8.out
 have K38 : Keep Nope w3 w8 := (K4.out.then' HK5.out).then' K58
 have m3 := K38.at_ HM3.out (fun h => h)
 have m5 := K58.at_ HM5.out (fun h => h)
 have hx3 : ∀ o, (w8.alloc o).cell? ⟨w2.heap.size, 0, none⟩ = some (.int .i64 3) ∧ (w8.alloc o).cell? ⟨w2.heap.size, 1, none⟩ = some (.int .i64 (dp : Nat)) := fun o => by
  obtain ⟨a, b, -⟩ := cells3 (((Keep.refl Nope w8).alloc o).at_ m3 (fun h => h))
  exact ⟨a, b⟩
 have hx5 : ∀ o, (w8.alloc o).cell? ⟨w4.heap.size, 0, none⟩ = some (.int .i64 3) ∧ (w8.alloc o).cell? ⟨w4.heap.size, 2, none⟩ = some (.int .i64 0) := fun o => by
  obtain ⟨a, -, b⟩ := cells3 (((Keep.refl Nope w8).alloc o).at_ m5 (fun h => h))
  exact ⟨a, b⟩
 have y30 := fun o => (hx3 o).1
 have y31 := fun o => (hx3 o).2
 have y50 := fun o => (hx5 o).1
 have y52 := fun o => (hx5 o).2
 have hdle : decide ((dp : Int) ≤ 1) = true := decide_eq_true (by have := HDp.out; omega)
 clear hx3 hx5 m3 m5 K58 K38
 have HAl1 : Seal (∀ W', Keep Nope w8 W' → Calls Tryz.prog 30 #[.pointer (some ⟨mp, 0, none⟩)] W' fun e w' => ∃ a c, e = .returned (.slice a 3 c) ∧ IntsIn w' (.slice a 3 c) [0, 1, 2] ∧ Keep Nope W' w') := ⟨fun W' kk => all012 (HB.out.keep (((HK3.out.then' K4.out).then' HK5.out).then' ((K6.out.then' K8.out).then' kk)) (fun h => h) (fun h => h)) HSet.out⟩
 have HAl2 : Seal (∀ W', Keep Nope w8 W' → Calls Tryz.prog 30 #[.pointer (some ⟨mp', 0, none⟩)] W' fun e w' => ∃ a c, e = .returned (.slice a 3 c) ∧ IntsIn w' (.slice a 3 c) [0, 1, 2] ∧ Keep Nope W' w') := ⟨fun W' kk => all012 (HB'.out.keep (HK5.out.then' ((K6.out.then' K8.out).then' kk)) (fun h => h) (fun h => h)) HSet'.out⟩
 have HSI : Seal (∀ W' a c, IntsIn W' (.slice a 3 c) [0, 1, 2] → Calls Tryz.prog 31 #[.slice a 3 c, .slice (some ⟨W'.heap.size, 0, none⟩) 3 3] (W'.alloc (.cells #[.int .i64 0, .int .i64 1, .int .i64 2] 3)) fun e w' => e = .returned (.bool true) ∧ Keep Nope (W'.alloc (.cells #[.int .i64 0, .int .i64 1, .int .i64 2] 3)) w') := ⟨fun W' a c h => SameInts_yes (h.keepN ((Keep.refl _ W').alloc _)) (ints012 W' _) (by simp)⟩
 go_wp2_with fail
 refine (HAl1.out _ ((Keep.refl _ _).alloc _)).mono ?_
 rintro e wa ⟨a1, c1, rfl, hi1, ka⟩
 have KA : Seal (Keep Nope w8 wa) := ⟨((Keep.refl _ _).alloc _).then' ka⟩
 have HI1 : Seal _ := ⟨hi1⟩
 clear hi1 ka
 go_wp2_with fail
 refine (HSI.out wa a1 c1 HI1.out).mono ?_
 rintro e wb ⟨rfl, kb⟩
 have KB : Seal (Keep Nope w8 wb) := ⟨(KA.out.alloc _).then' kb⟩
 clear kb
 go_wp2_with fail
 refine (HAl2.out _ KB.out).mono ?_
 rintro e wc ⟨a2, c2, rfl, hi2, kc⟩
 have KC : Seal (Keep Nope w8 wc) := ⟨KB.out.then' kc⟩
 have HI2 : Seal _ := ⟨hi2⟩
 clear hi2 kc
 go_wp2_with fail
 refine (HSI.out wc a2 c2 HI2.out).mono ?_
 rintro e wd ⟨rfl, kd⟩
 have KD : Seal (Keep Nope w8 wd) := ⟨(KC.out.alloc _).then' kd⟩
 clear kd
 go_wp2_with fail
 go_ret
 exact ⟨rfl, (HK1.out.then' K3.out).then' ((K4.out.then' HK5.out).then' ((K6.out.then' K8.out).then' KD.out))⟩

end Go.Proofs.YtllpibknkajfnaaGreatDoor
