/-
 plan.Of where it answers nothing; the laws' helpers: the bits that are set, is a number in a row, two plans that are the same, a space's plan.
 The chapter's example of plan, walked.
-/
import Derived.Test.YtlmdkfbibpkjgaaGreatDoorPlanOf
import Derived.Test.YtlmdkfbibpkjgaaGreatDoorPlanG
import Derived.Test.YtlmdkfbibpkjgaaGreatDoorFindB
import Derived.Test.YtlmdkfbibpkjgaaGreatDoorIsleAlive
namespace Go.Proofs.YtlmdkfbibpkjgaaGreatDoor
open Go.RowKit
set_option linter.unusedVariables false

def PlanNo (c : Nat) (w : World) (e : Ending) (w' : World) : Prop :=
 e = .returned (.tuple #[.agg #[.slice none 0 0], .int .i64 (c : Nat)]) /\ Keep Aa w w'

theorem WaterNo (P : Sp) (W : Nat -> Nat) (f : Nat -> Bool) (w : World) (g : Nat) (v : Value) (hsp : SpaceAt w P W f) (hg : g < P.n / 2) (hd : BS (W (2 * g)) = false) (hv : Bf w v [g]) :
  Calls Tryz.prog 34 #[.pointer (some ⟨P.s, 0, none⟩), v] w (IsleNo 2 w) := by
 have HO := sE (IsleOf_no P W f w g v hsp hg hd hv)
 obtain ⟨va, vc, rfl, -⟩ := hv
 clear hsp hd
 go_enter Tryz.func34, Tryz.ntmps34
 go_wp2_with fail
 refine HO.out.mono ?_
 rintro e w1 ⟨rfl, k1⟩
 go_wp2_with fail
 exact bodyPost_ret (v := .tuple #[.slice none 0 0, .int .i64 2]) (by simp [results, Tryz.results34, go_sem]) rfl ⟨rfl, k1⟩

set_option maxRecDepth 20000 in
theorem PlanOf_nil (m v : Value) (w : World) : Calls Tryz.prog 20 #[.pointer none, m, v] w (PlanNo 1 w) := by
 obtain ⟨w1, hw1⟩ : ∃ w1, w1 = (w.alloc (.cells #[.pointer none] 39)).alloc (.cells #[.slice none 0 0] 24) := ⟨_, rfl⟩
 have k1 : Keep Aa w w1 := by rw [hw1]; exact ((Keep.refl _ w).alloc _).alloc _
 have p1 : w1.heap[w.heap.size + 1]? = some (.cells #[.slice none 0 0] 24 (0, 0)) := by
  rw [hw1]
  have := World.alloc_heap_new (w.alloc (.cells #[.pointer none] 39)) (.cells #[.slice none 0 0] 24)
  rwa [show (w.alloc (.cells #[.pointer none] 39)).heap.size = w.heap.size + 1 by simp] at this
 have c1 := cell_of_one p1
 have f1 := free_of_one p1
 have HK1 := sE k1
 have HP1 := sE p1
 clear k1 p1
 refine (callsIn_wide (n := 0)).1 ?_
 refine callsIn_of_wp_marks Tryz.func20 rfl trivial ?_
 simp only [Tryz.ntmps20, List.size_toArray, List.length_cons, List.length_nil, Nat.reduceAdd, Nat.reduceSub, Array.replicate_succ, Array.replicate_zero, List.push_toArray, List.append_toArray, List.nil_append, List.cons_append]
 subst hw1
 gi_wp2_with fail
 exact ⟨.tuple #[.agg #[.slice none 0 0], .int .i64 1], by simp [results, Tryz.results20, go_sem, c1], rfl, HK1.out⟩

set_option maxRecDepth 20000 in
theorem PlanOf_no (P : Sp) (W : Nat -> Nat) (f : Nat -> Bool) (w : World) (g mp : Nat) (v : Value) (hsp : SpaceAt w P W f) (hg : g < P.n / 2) (hd : BS (W (2 * g)) = false) (hv : Bf w v [g]) :
  Calls Tryz.prog 20 #[.pointer (some ⟨P.s, 0, none⟩), .pointer (some ⟨mp, 0, none⟩), v] w (PlanNo 2 w) := by
 obtain ⟨w1, hw1⟩ : ∃ w1, w1 = (w.alloc (.cells #[.pointer (some ⟨P.s, 0, none⟩)] 39)).alloc (.cells #[.slice none 0 0] 24) := ⟨_, rfl⟩
 have k1 : Keep Aa w w1 := by rw [hw1]; exact ((Keep.refl _ w).alloc _).alloc _
 have p1 : w1.heap[w.heap.size + 1]? = some (.cells #[.slice none 0 0] 24 (0, 0)) := by
  rw [hw1]
  have := World.alloc_heap_new (w.alloc (.cells #[.pointer (some ⟨P.s, 0, none⟩)] 39)) (.cells #[.slice none 0 0] 24)
  rwa [show (w.alloc (.cells #[.pointer (some ⟨P.s, 0, none⟩)] 39)).heap.size = w.heap.size + 1 by simp] at this
 have HWt := sE (WaterNo P W f w1 g v (hsp.Ad k1) hg hd (hv.Ad k1))
 have HK1 := sE k1
 have HP1 := sE p1
 obtain ⟨va, vc, rfl, -⟩ := hv
 clear k1 p1 hsp hd
 refine (callsIn_wide (n := 0)).1 ?_
 refine callsIn_of_wp_marks Tryz.func20 rfl trivial ?_
 simp only [Tryz.ntmps20, List.size_toArray, List.length_cons, List.length_nil, Nat.reduceAdd, Nat.reduceSub, Array.replicate_succ, Array.replicate_zero, List.push_toArray, List.append_toArray, List.nil_append, List.cons_append]
 gi_wp2_with fail
 rw [<- hw1]
 clear hw1
 refine ⟨trivial, rfl, ?_⟩
 refine (callsIn_wide.2 HWt.out).mono ?_
 rintro e w2 ⟨rfl, k2⟩
 have b2 := k2.at_ HP1.out (λ h => h)
 have c2 := cell_of_one b2
 have f2 := free_of_one b2
 have HK2 := sE (HK1.out.then' k2)
 have HB2 := sE b2
 clear k2 b2
 gi_wp2_with fail
 have c3 := cell_of_one (one_setCell (u := .slice none 0 0) HB2.out)
 exact ⟨.tuple #[.agg #[.slice none 0 0], .int .i64 2], by simp [results, Tryz.results20, go_sem, c3], rfl, ((HK2.out.Am (λ k => k = w.heap.size + 1)).setCell (λ _ => rfl) _).mono (λ i hi h => by omega)⟩

theorem Has22_at (xs : List Nat) (v : Value) (x : Nat) (w : World) (h : Bf w v xs) (hl : xs.length <= 65536) :
  Calls Tryz.prog 17 #[v, .int .i64 (x : Nat)] w λ e w' => e = .returned (.bool (BF xs x)) /\ Keep Aa w w' := by
 have HV := sE h
 obtain ⟨va, vc, rfl, -⟩ := h
 obtain ⟨len, hlen⟩ : ∃ len, xs.length = len := ⟨_, rfl⟩
 rw [hlen] at HV hl ⊢
 have HL := sE hlen
 clear hlen
 go_enter Tryz.func17, Tryz.ntmps17
 go_wp2_with fail
 go_loopw [5] (λ y wr => ∃ j : Nat, j <= len /\ y = .int .i64 (j : Nat) /\ Seal (BF (xs.take j) x = false) /\ Keep Aa w wr) (λ y _ => len - (intOf y).toNat)
 case atStart => exact ⟨0, Nat.zero_le _, rfl, ⟨rfl⟩, Keep.refl _ _⟩
 case round =>
  obtain ⟨j, hj, rfl, HC, hk⟩ := hrel
  have HK := sE hk
  by_cases hjl : j < len
  ·have hjl' : (j : Int) < (len : Int) := by omega
   obtain ⟨va', vc', e, hx⟩ := HV.out
   injection e with e1 e3 e2
   clear e3
   subst e1 e2
   obtain ⟨y, hxj⟩ : ∃ y, xs[j]? = some y := ⟨_, List.getElem?_eq_getElem (by rw [HL.out]; exact hjl)⟩
   obtain ⟨bb, o, rfl, x0⟩ := hx j y hxj
   replace x0 := hk.cell x0 (λ h => h)
   have hT := inL_take (g := x) hxj
   have hM : y ∈ xs := List.mem_of_getElem? hxj
   have HX := sE (And.intro hT hM)
   clear hx hxj hk hT hM
   by_cases hin : y = x
   ·have hin' : ((y : Int) == (x : Int)) = true := by simp [hin]
    have HT : Seal (BF xs x = true) := ⟨Bu.2 (by rw [<- hin]; exact HX.out.2)⟩
    clear hin
    go_wp2_with fail
    go_ret
    rw [HT.out]
    exact ⟨rfl, HK.out⟩
   ·have hin' : ((y : Int) == (x : Int)) = false := by rw [beq_eq_false_iff_ne]; omega
    have HC2 : Seal (BF (xs.take (j + 1)) x = false) := ⟨by rw [HX.out.1, HC.out]; simp [hin]⟩
    clear hin
    go_wp2_with fail
    exact ⟨⟨j + 1, by omega, by go_num, HC2, HK.out⟩, by simp only [intOf]; omega⟩
  ·have hjl' : ¬ (j : Int) < (len : Int) := by omega
   clear hk
   have HT : Seal (BF xs x = false) := ⟨by
    have := HC.out
    rwa [List.take_of_length_le (by rw [HL.out]; omega)] at this⟩
   go_wp2_with fail
   go_ret
   rw [HT.out]
   exact ⟨rfl, HK.out⟩

def Bits22Post (xs : List Nat) (n : Nat) (w : World) (e : Ending) (w' : World) : Prop :=
 ∃ p q f, e = .returned (.pointer (some ⟨p, 0, none⟩)) /\ Az w' p q f n /\ (∀ t, t < n -> f t = BF xs t) /\ w.heap.size <= p /\ w.heap.size <= q /\ Keep Aa w w'

theorem Bits22_at (xs : List Nat) (v : Value) (n : Nat) (w : World) (h : Bf w v xs) (hl : xs.length <= 65536) (hn : n <= 65536) (hx : ∀ x ∈ xs, x < n) :
  Calls Tryz.prog 19 #[.int .i64 (n : Nat), v] w (Bits22Post xs n w) := by
 have HV := sE h
 obtain ⟨va, vc, rfl, -⟩ := h
 obtain ⟨len, hlen⟩ : ∃ len, xs.length = len := ⟨_, rfl⟩
 rw [hlen] at HV hl ⊢
 have HL := sE hlen
 have HXn := sE hx
 have HNew := sE (New_yes n w hn)
 clear hlen hx
 go_enter Tryz.func19, Tryz.ntmps19
 go_wp2_with fail
 refine HNew.out.mono ?_
 rintro e w2 ⟨p, q, rfl, hp, hq, hb2, k2⟩
 have HB2 := sE hb2
 have HK2 := sE k2
 clear hb2 k2 HNew
 go_wp2_with fail
 go_loopw [7] (λ y wr => ∃ (j : Nat) (f : Nat -> Bool), j <= len /\ y = .int .i64 (j : Nat) /\ Az wr p q f n /\ (∀ t, t < n -> f t = BF (xs.take j) t) /\ Keep (λ b => b = q) w2 wr) (λ y _ => len - (intOf y).toNat)
 case atStart => exact ⟨0, _, Nat.zero_le _, rfl, HB2.out, λ t _ => rfl, Keep.refl _ _⟩
 case round =>
  obtain ⟨j, f, hj, rfl, hb, hf, hk⟩ := hrel
  have HB := sE hb
  have HF := sE hf
  have HK := sE hk
  have KN : Seal (Keep Aa w wr) := ⟨(HK2.out.Am _).trans hk (λ _ _ h => h) |>.mono (λ k hk h => by have h' : k = q := h; omega)⟩
  clear hb hf hk
  by_cases hjl : j < len
  ·have hjl' : (j : Int) < (len : Int) := by omega
   obtain ⟨va', vc', e, hx⟩ := HV.out
   injection e with e1 e3 e2
   clear e3
   subst e1 e2
   obtain ⟨y, hxj⟩ : ∃ y, xs[j]? = some y := ⟨_, List.getElem?_eq_getElem (by rw [HL.out]; exact hjl)⟩
   obtain ⟨bb, o, rfl, x0⟩ := hx j y hxj
   replace x0 := KN.out.cell x0 (λ h => h)
   have hyn := HXn.out y (List.mem_of_getElem? hxj)
   have HS := sE (Set_yes y n p q f wr HB.out hyn)
   have HFn : Seal (∀ t, t < n -> CQ f y 1 true t = BF (xs.take (j + 1)) t) := ⟨λ t ht => by
    rw [inL_take (g := t) hxj, <- HF.out t ht]
    unfold CQ
    by_cases e : y = t
    ·subst e
     simp
    ·rw [if_neg (by omega)]
     simp [e]⟩
   clear hx hxj HF
   go_wp2_with fail
   refine HS.out.mono ?_
   rintro e w3 ⟨rfl, k3, hb3⟩
   have HB3 := sE hb3
   have HK3 := sE (HK.out.trans k3 (λ _ _ h => h))
   clear hb3 k3 HS
   go_wp2_with fail
   exact ⟨⟨j + 1, _, by omega, by go_num, HB3.out, HFn.out, HK3.out⟩, by simp only [intOf]; omega⟩
  ·have hjl' : ¬ (j : Int) < (len : Int) := by omega
   have HFe : Seal (∀ t, t < n -> f t = BF xs t) := ⟨λ u hu => by
    have := HF.out u hu
    rwa [List.take_of_length_le (by rw [HL.out]; omega)] at this⟩
   go_wp2_with fail
   go_ret
   exact ⟨p, q, f, rfl, HB.out, HFe.out, hp, hq, KN.out⟩

theorem up_ext : ∀ {l l' : List Nat}, l.Pairwise (· < ·) -> l'.Pairwise (· < ·) -> (∀ g, g ∈ l ↔ g ∈ l') -> l = l'
 | [], [], _, _, _ => rfl
 | [], y :: ys, _, _, h => by
  have := (h y).2 List.mem_cons_self
  cases this
 | x :: xs, [], _, _, h => by
  have := (h x).1 List.mem_cons_self
  cases this
 | x :: xs, y :: ys, h1, h2, h => by
  obtain ⟨a1, a2⟩ := List.pairwise_cons.1 h1
  obtain ⟨b1, b2⟩ := List.pairwise_cons.1 h2
  have hx : x = y := by
   rcases List.mem_cons.1 ((h x).1 List.mem_cons_self) with e | e
   ·exact e
   ·rcases List.mem_cons.1 ((h y).2 List.mem_cons_self) with e2 | e2
    ·exact e2.symm
    ·have := b1 x e
     have := a1 y e2
     omega
  subst hx
  rw [up_ext a2 b2 λ g => ?_]
  constructor
  ·intro hg
   rcases List.mem_cons.1 ((h g).1 (List.mem_cons_of_mem _ hg)) with e | e
   ·have := a1 g hg
    omega
   ·exact e
  ·intro hg
   rcases List.mem_cons.1 ((h g).2 (List.mem_cons_of_mem _ hg)) with e | e
   ·have := b1 g hg
    omega
   ·exact e

theorem riseN_ext {xs ys : List Nat} (h : ∀ g, g ∈ xs ↔ g ∈ ys) : BH xs = BH ys :=
 up_ext (Eb xs) (Eb ys) λ g => by rw [Cu, Cu, h]

def PlannedPost (L : List (Nat × Nat × Nat)) (pins : List Nat) (w : World) (e : Ending) (w' : World) : Prop :=
 ∃ pv ra rc, e = .returned (.tuple #[.agg #[pv], .slice ra pins.length rc, .bool true]) /\ w'.ownsRow w.heap.size 27 3 pv L.length (Cy L) /\ Bf w' (.slice ra pins.length rc) pins /\ Keep Aa w w'

set_option maxRecDepth 20000 in
set_option maxHeartbeats 4000000 in
theorem Planned_at (P : Sp) (W : Nat -> Nat) (f : Nat -> Bool) (cs : List Cel) (w : World) (v1 v2 : Value) (n1 n2 : Nat) (y1 y2 : Nat -> Nat) (hsp : SpaceAt w P W f) (hc : CellsAt P W cs) (hst : ∀ i, i < P.n / 2 -> f i = Ar cs i) (hne : cs ≠ []) (h1 : BytesIn w v1 n1 y1) (h2 : BytesIn w v2 n2 y2) (hl1 : n1 <= 65536) (hl2 : n2 <= 65536) :
  Calls Tryz.prog 15 #[.pointer (some ⟨P.s, 0, none⟩), v1, v2] w (PlannedPost (BB cs (AC (Aw cs) y2 n2) (BH (AC (Aw cs) y1 n1 ++ AC (Aw cs) y2 n2)) (P.n / 2)) (AC (Aw cs) y2 n2) w) := by
 have hsm := hsp.ar.small
 have HRt : Seal (∀ W' v n ys, Keep Aa w W' -> n <= 65536 -> BytesIn W' v n ys -> Calls Tryz.prog 16 #[.pointer (some ⟨P.s, 0, none⟩), v] W' λ e w' => ∃ a c, e = .returned (.slice a (AC (Aw cs) ys n).length c) /\ w'.ownsRow W'.heap.size 3 1 (.slice a (AC (Aw cs) ys n).length c) (AC (Aw cs) ys n).length (AJ (AC (Aw cs) ys n)) /\ Keep Aa W' w') := ⟨λ W' v n ys kk hn hv => Roots20_at P cs W' ⟨W, f, hsp.Ad kk, hc, hst⟩ hne v n ys hn hv⟩
 have hro : ∀ (ys : Nat -> Nat) (n : Nat), ∀ g ∈ AC (Aw cs) ys n, BV cs g := λ ys n => roots_obj
 obtain ⟨H, hH⟩ : ∃ H, P.n / 2 = H := ⟨_, rfl⟩
 have hH2 : H <= 32768 := by omega
 have HGr : Seal (∀ W', Keep Aa w W' -> Calls Tryz.prog 30 #[.pointer (some ⟨P.s, 0, none⟩)] W' λ e w'' => e = .returned (.int .i64 (H : Nat)) /\ w'' = W') := ⟨λ W' kk => by
  rw [<- hH]
  exact Gran_at P W f W' (hsp.Ad kk)⟩
 have HOb : Seal (∀ g, BV cs g -> g < H) := ⟨λ g ho => by
  obtain ⟨c, hm, h1, rfl⟩ := ho
  have hlt := hc.tl.mem hm
  omega⟩
 have HOf : Seal (∀ W' mp mq fm pins v, Keep Aa w W' -> Az W' mp mq fm H -> (∀ g, g < H -> fm g = true -> BV cs g) -> Bf W' v pins -> (∀ g ∈ pins, BV cs g) -> pins.length <= 65536 -> Calls Tryz.prog 20 #[.pointer (some ⟨P.s, 0, none⟩), .pointer (some ⟨mp, 0, none⟩), v] W' (PlanPost (BB cs pins (BH (C9 fm H ++ pins)) H) W')) := ⟨λ W' mp mq fm pins v kk hb hm hv ho hl => by
  have := PlanOf_at P W f cs W' mp mq fm pins v (hsp.Ad kk) hc hst (by rw [hH]; exact hb) (by rw [hH]; exact hm) (hv.Ad (Keep.refl _ _)) ho hl
  rwa [hH] at this⟩
 rw [hH]
 have H1 := sE h1
 have H2 := sE h2
 obtain ⟨a1, c1, rfl, -⟩ := h1
 obtain ⟨a2, c2, rfl, -⟩ := h2
 obtain ⟨ms, hms⟩ : ∃ ms, AC (Aw cs) y1 n1 = ms := ⟨_, rfl⟩
 obtain ⟨ps, hps⟩ : ∃ ps, AC (Aw cs) y2 n2 = ps := ⟨_, rfl⟩
 have HM : Seal (AC (Aw cs) y1 n1 = ms) := ⟨hms⟩
 have HP : Seal (AC (Aw cs) y2 n2 = ps) := ⟨hps⟩
 have HMo : Seal (∀ g ∈ ms, BV cs g) := ⟨by rw [<- hms]; exact hro y1 n1⟩
 have HPo : Seal (∀ g ∈ ps, BV cs g) := ⟨by rw [<- hps]; exact hro y2 n2⟩
 have hml : ms.length <= 65536 := by rw [<- hms]; have := rootsOf_len (Aw cs) y1 n1; omega
 have hpl : ps.length <= 65536 := by rw [<- hps]; have := rootsOf_len (Aw cs) y2 n2; omega
 rw [hms, hps]
 obtain ⟨L, hL⟩ : ∃ L, BB cs ps (BH (ms ++ ps)) H = L := ⟨_, rfl⟩
 have HL := sE hL
 rw [hL]
 obtain ⟨w1, hw1⟩ : ∃ w1, w1 = w.alloc (.cells #[.slice none 0 0] 24) := ⟨_, rfl⟩
 have k1 : Keep Aa w w1 := by rw [hw1]; exact (Keep.refl _ w).alloc _
 have b1 : w1.heap[w.heap.size]? = some (.cells #[.slice none 0 0] 24 (0, 0)) := by rw [hw1]; exact World.alloc_heap_new w _
 have HK1 := sE k1
 have HB1 := sE b1
 have HR1 := sE (HRt.out w1 _ n2 y2 k1 hl2 (H2.out.Ad k1))
 rw [hps] at HR1
 clear hsp hc hst hne hro hH hsm hms hps k1 b1 hL
 go_enter Tryz.func15, Tryz.ntmps15
 go_wp2_with fail
 rw [<- hw1]
 clear hw1
 refine HR1.out.mono ?_
 rintro e w2 ⟨ra, rc, rfl, ho2, k2⟩
 have HN2 := sE ho2
 have hz1 : w.heap.size < w1.heap.size := lt_of_heap HB1.out
 have HK2 : Seal (Keep Aa w w2) := ⟨HK1.out.then' k2⟩
 have HB2 := sE (k2.at_ HB1.out (λ h => h))
 clear ho2 k2 HR1 HB1
 go_wp2_with fail
 refine (HGr.out w2 HK2.out).mono ?_
 rintro e w3 ⟨rfl, rfl⟩
 have HR2 := sE (HRt.out w3 _ n1 y1 HK2.out hl1 (H1.out.Ad HK2.out))
 rw [HM.out] at HR2
 go_wp2_with fail
 refine HR2.out.mono ?_
 rintro e w4 ⟨ma, mc, rfl, ho4, k4⟩
 have HN4 : Seal (Bf w4 (.slice ma ms.length mc) ms) := ⟨Bf.A9 ho4⟩
 have HP4 := sE (Ai HN2.out k4 (λ _ _ h => h))
 have HK4 : Seal (Keep Aa w w4) := ⟨HK2.out.then' k4⟩
 have HB4 := sE (k4.at_ HB2.out (λ h => h))
 have HBi := sE (Bits22_at ms _ H w4 HN4.out hml (by omega) (λ x hx => HOb.out x (HMo.out x hx)))
 clear ho4 k4 HR2 HN2 HB2
 go_wp2_with fail
 refine HBi.out.mono ?_
 rintro e w5 ⟨p, q, fm, rfl, hb5, hf5, -, -, k5⟩
 have HB5 := sE hb5
 have HP5 := sE (Ai HP4.out k5 (λ _ _ h => h))
 have HK5 : Seal (Keep Aa w w5) := ⟨HK4.out.then' k5⟩
 have HBp := sE (k5.at_ HB4.out (λ h => h))
 have HE : Seal (BH (C9 fm H ++ ps) = BH (ms ++ ps)) := ⟨riseN_ext λ g => by
  rw [List.mem_append, List.mem_append, mem_setL]
  constructor
  ·rintro (⟨a, b⟩ | h)
   ·rw [hf5 g a] at b
    exact .inl (Bu.1 b)
   ·exact .inr h
  ·rintro (h | h)
   ·have := HOb.out g (HMo.out g h)
    exact .inl ⟨this, by rw [hf5 g this]; exact Bu.2 h⟩
   ·exact .inr h⟩
 have HO := sE (HOf.out w5 p q fm ps _ HK5.out hb5 (λ g a b => by rw [hf5 g a] at b; exact HMo.out g (Bu.1 b)) (Bf.A9 HP5.out) HPo.out hpl)
 rw [HE.out, HL.out] at HO
 clear hb5 hf5 k5 HBi HP4 HB4
 go_wp2_with fail
 refine HO.out.mono ?_
 rintro e w6 ⟨pv, rfl, ho6, k6⟩
 obtain ⟨pa, pc, rfl⟩ := AA ho6
 obtain ⟨w7, hw7⟩ : ∃ w7, w7 = w6.alloc (.cells #[.slice pa L.length pc] 24) := ⟨_, rfl⟩
 have k7 : Keep Aa w6 w7 := by rw [hw7]; exact (Keep.refl _ w6).alloc _
 have b7 : w7.heap[w6.heap.size]? = some (.cells #[.slice pa L.length pc] 24 (0, 0)) := by rw [hw7]; exact World.alloc_heap_new w6 _
 have c7 := cell_of_one b7
 have b8 := (k6.then' k7).at_ HBp.out (λ h => h)
 have f8 := free_of_one b8
 have c8 := cell_of_one b8
 have HO6 := sE (Ai ho6 k7 (λ _ _ h => h))
 have HK7 : Seal (Keep Aa w w7) := ⟨HK5.out.then' (k6.then' k7)⟩
 have HP7 := sE (Ai HP5.out (k6.then' k7) (λ _ _ h => h))
 have HB8 := sE b8
 have zw := HK5.out.size
 have z5 : w.heap.size < w5.heap.size := lt_of_heap HBp.out
 clear ho6 k6 k7 b7 b8 HO
 subst hw7
 go_wp2_with fail
 have KS : Keep (λ k => k = w.heap.size) (w6.alloc (.cells #[.slice pa L.length pc] 24)) ((w6.alloc (.cells #[.slice pa L.length pc] 24)).setCell ⟨w.heap.size, 0, none⟩ (.slice pa L.length pc)) := (Keep.refl (λ k => k = w.heap.size) _).setCell (λ _ => rfl) _
 have c9 := cell_of_one (one_setCell (u := .slice pa L.length pc) HB8.out)
 refine bodyPost_ret (v := .tuple #[.agg #[.slice pa L.length pc], .slice ra ps.length rc, .bool true]) (by simp [results, Tryz.results15, go_sem, c9]) rfl ⟨_, ra, rc, rfl, ?_, ?_, ?_⟩
 ·exact Br (Ai HO6.out KS (λ b hb h => by have := (Ah HO6.out hb).1; omega)) (by omega)
 ·exact Bf.A9 (Ai HP7.out KS (λ b hb h => by have := (Ah HP7.out hb).1; omega))
 ·exact (HK7.out.Am (λ k => k = w.heap.size)).trans KS (λ _ _ h => h) |>.mono (λ i hi h => by omega)

theorem run_eq_shift (a b c a' b' c' : Int) (w : World) : (Op.equalIn 10000 27 (.agg #[.int .i64 a, .int .i64 b, .int .i64 c]) (.agg #[.int .i64 a', .int .i64 b', .int .i64 c'])).run Tryz.prog w = .ok (a == a' && (b == b' && c == c')) w := by
 have u3 := Tryz.underlying3
 have a3 := Tryz.isAgg3
 have z3 := Tryz.sizeOf3
 have hS : Tryz.prog.underlying 27 = some (.struct (Tryz.prog.fieldsOf 27)) := by kernel_rfl
 rw [show (10000 : Nat) = 9999 + 1 from rfl, run_equalIn_agg w 9999 27 _ _ hS (by kernel_rfl)]
 simp only [Program.fieldsOf, Tryz.underlying27]
 go_simp
 by_cases h0 : a = a' <;> by_cases h1 : b = b' <;> by_cases h2 : c = c' <;> simp [h0, h1, h2]

theorem run_neq_shift (a b c a' b' c' : Int) (w : World) : (binOp .neq 27 (.agg #[.int .i64 a, .int .i64 b, .int .i64 c]) (.agg #[.int .i64 a', .int .i64 b', .int .i64 c'])).run Tryz.prog w = .ok (.bool (!(a == a' && (b == b' && c == c')))) w := by
 rw [run_neq_struct, run_eq_shift]; rfl

section

attribute [local go_sem ↓] run_neq_shift

set_option maxHeartbeats 2000000 in
theorem SameP_yes (cs : List (Nat × Nat × Nat)) (v u : Value) (w : World) (hv : RowO w v cs) (hu : RowO w u cs) (hlen : cs.length <= 9223372036854775806) :
  Calls Tryz.prog 21 #[.agg #[v], .agg #[u]] w λ e w' => e = .returned (.bool true) /\ Keep Aa w w' := by
 have HV := sE hv
 have HU := sE hu
 obtain ⟨va, vc, rfl, -⟩ := hv
 obtain ⟨ua, uc, rfl, -⟩ := hu
 obtain ⟨len, hlen'⟩ : ∃ len, cs.length = len := ⟨_, rfl⟩
 rw [hlen'] at HV HU hlen ⊢
 have HL := sE hlen'
 obtain ⟨w1, hw1⟩ : ∃ w1, w1 = (w.alloc (.cells #[.slice va len vc] 24)).alloc (.cells #[.slice ua len uc] 24) := ⟨_, rfl⟩
 have k1 : Keep Aa w w1 := by rw [hw1]; exact ((Keep.refl _ w).alloc _).alloc _
 have b1 : w1.heap[w.heap.size]? = some (.cells #[.slice va len vc] 24 (0, 0)) := by rw [hw1]; exact ((Keep.refl Aa _).alloc _).at_ (World.alloc_heap_new w _) (λ h => h)
 have b2 : w1.heap[w.heap.size + 1]? = some (.cells #[.slice ua len uc] 24 (0, 0)) := by
  rw [hw1]
  have := World.alloc_heap_new (w.alloc (.cells #[.slice va len vc] 24)) (.cells #[.slice ua len uc] 24)
  rwa [show (w.alloc (.cells #[.slice va len vc] 24)).heap.size = w.heap.size + 1 by simp] at this
 have c1 := cell_of_one b1
 have c2 := cell_of_one b2
 have HB := sE (And.intro b1 b2)
 have HK1 := sE k1
 clear hlen' k1 b1 b2
 go_enter Tryz.func21, Tryz.ntmps21
 subst hw1
 go_wp2_with fail
 go_loopw [5] (λ y wr => ∃ j : Nat, j <= len /\ y = .int .i64 (j : Nat) /\ Keep Aa ((w.alloc (.cells #[.slice va len vc] 24)).alloc (.cells #[.slice ua len uc] 24)) wr) (λ y _ => len - (intOf y).toNat)
 case atStart => exact ⟨0, Nat.zero_le _, rfl, Keep.refl _ _⟩
 case round =>
  obtain ⟨j, hj, rfl, hk⟩ := hrel
  have d1 := cell_of_one (hk.at_ HB.out.1 (λ h => h))
  have d2 := cell_of_one (hk.at_ HB.out.2 (λ h => h))
  clear c1 c2
  by_cases hjl : j < len
  ·have hjl' : (j : Int) < len := by omega
   obtain ⟨va', vc', e, hx⟩ := HV.out
   injection e with e1 e3 e2
   clear e3
   subst e1 e2
   obtain ⟨ua', uc', e, hy⟩ := HU.out
   injection e with e1 e3 e2
   clear e3
   subst e1 e2
   obtain ⟨x, hxj⟩ : ∃ x, cs[j]? = some x := ⟨cs[j]'(by rw [HL.out]; omega), List.getElem?_eq_getElem (by rw [HL.out]; omega)⟩
   obtain ⟨b, o, rfl, hbl, x0, x1, x2⟩ := hx j x hxj
   obtain ⟨b', o', rfl, hbl', y0, y1, y2⟩ := hy j x hxj
   clear hx hy hxj
   have KN := HK1.out.then' hk
   replace x0 := KN.cell x0 (λ h => h)
   replace x1 := KN.cell x1 (λ h => h)
   replace x2 := KN.cell x2 (λ h => h)
   replace y0 := KN.cell y0 (λ h => h)
   replace y1 := KN.cell y1 (λ h => h)
   replace y2 := KN.cell y2 (λ h => h)
   clear KN
   go_wp2_with fail
   go_quiet (fail)
   go_wp2_with fail
   refine ⟨⟨j + 1, by omega, by go_num, hk.then' (Keep.Ag _)⟩, by simp only [intOf]; omega⟩
  ·have hjl' : ¬ (j : Int) < len := by omega
   go_wp2_with fail
   go_ret
   exact ⟨rfl, HK1.out.then' hk⟩

end

end Go.Proofs.YtlmdkfbibpkjgaaGreatDoor

namespace Go.Proofs.YtlmdkfbibpkjgaaGreatDoor
open Go.RowKit
set_option linter.unusedVariables false

def pA22 : List (Nat × Nat × Nat) := [(1, 0, 2), (3, 3, 2), (6, 5, 2)]

def pB22 : List (Nat × Nat × Nat) := [(1, 0, 2), (3, 2, 2), (6, 4, 2)]

theorem nats3 (w : World) (T : TypeId) : Bf (w.alloc (.cells #[.int .i64 3] T)) (.slice (some ⟨w.heap.size, 0, none⟩) 1 1) [3] := ⟨_, _, rfl, λ i x hi => by
 have h1 : i = 0 := by have := (List.getElem?_eq_some_iff.1 hi).1; simp at this; omega
 subst h1
 simp at hi
 subst hi
 exact ⟨w.heap.size, 0, rfl, by simp only [World.cell?, World.alloc_heap_new w _]; rfl⟩⟩

theorem nats136 (w : World) (T : TypeId) : Bf (w.alloc (.cells #[.int .i64 1, .int .i64 3, .int .i64 6] T)) (.slice (some ⟨w.heap.size, 0, none⟩) 3 3) [1, 3, 6] := ⟨_, _, rfl, λ i x hi => by
 have h1 : i = 0 \/ i = 1 \/ i = 2 := by have := (List.getElem?_eq_some_iff.1 hi).1; simp at this; omega
 rcases h1 with rfl | rfl | rfl <;> (simp at hi; subst hi; exact ⟨w.heap.size, 0, rfl, by simp only [World.cell?, World.alloc_heap_new w _]; rfl⟩)⟩

theorem natsNil (w : World) : Bf w (.slice none 0 0) [] := ⟨none, 0, rfl, λ i x hi => by simp at hi⟩

theorem rowoA (w : World) (T : TypeId) : RowO (w.alloc (.cells #[.int .i64 1, .int .i64 0, .int .i64 2, .int .i64 3, .int .i64 3, .int .i64 2, .int .i64 6, .int .i64 5, .int .i64 2] T)) (.slice (some ⟨w.heap.size, 0, none⟩) 3 3) pA22 := ⟨_, _, rfl, λ i x hi => by
 have h1 : i = 0 \/ i = 1 \/ i = 2 := by have := (List.getElem?_eq_some_iff.1 hi).1; simp [pA22] at this; omega
 rcases h1 with rfl | rfl | rfl <;> (simp [pA22] at hi; subst hi; exact ⟨w.heap.size, 0, rfl, lt_of_heap (World.alloc_heap_new w _), by simp only [World.cell?, World.alloc_heap_new w _]; rfl, by simp only [World.cell?, World.alloc_heap_new w _]; rfl, by simp only [World.cell?, World.alloc_heap_new w _]; rfl⟩)⟩

theorem rowsA (w : World) (T : TypeId) : EN (w.alloc (.cells #[.int .i64 2, .int .i64 1, .int .i64 7, .int .i64 1] T)) (.slice (some ⟨w.heap.size, 0, none⟩) 2 2) [(2, 1), (7, 1)] := ⟨_, _, rfl, λ i x hi => by
 have h1 : i = 0 \/ i = 1 := by have := (List.getElem?_eq_some_iff.1 hi).1; simp at this; omega
 rcases h1 with rfl | rfl <;> (simp at hi; subst hi; exact ⟨w.heap.size, 0, rfl, lt_of_heap (World.alloc_heap_new w _), by simp only [World.cell?, World.alloc_heap_new w _]; rfl, by simp only [World.cell?, World.alloc_heap_new w _]; rfl⟩)⟩

theorem rise22 {fm : Nat -> Bool} {gs : List Nat} (hf : ∀ t, t < 8 -> fm t = BF [1, 3, 6] t) (hg : ∀ g ∈ gs, g = 1 \/ g = 3 \/ g = 6) : BH (C9 fm 8 ++ gs) = [1, 3, 6] := by
 rw [riseN_ext (ys := [1, 3, 6]) λ g => ?_]
 ·exact up_ext (Eb _) (by decide) λ g => Cu
 ·rw [List.mem_append, mem_setL]
  constructor
  ·rintro (⟨a, b⟩ | h)
   ·rw [hf g a] at b
    exact Bu.1 b
   ·rcases hg g h with rfl | rfl | rfl <;> simp
  ·intro h
   have : g < 8 := by
    simp at h
    omega
   exact .inl ⟨this, by rw [hf g this]; exact Bu.2 h⟩

def Of22 (L : List (Nat × Nat × Nat)) (w0 : World) (e : Ending) (w' : World) : Prop :=
 ∃ a c, e = .returned (.tuple #[.agg #[.slice a 3 c], .int .i64 0]) /\ RowO w' (.slice a 3 c) L /\ Keep Aa w0 w'

theorem of22 {P : Sp} {W : Nat -> Nat} {f fm : Nat -> Bool} {w1 : World} {mp mq : Nat} (hn : P.n = 16) (hs : SpaceAt w1 P W f) (hc : CellsAt P W cs21) (hst : ∀ i, i < P.n / 2 -> f i = Ar cs21 i) (hb : Az w1 mp mq fm 8) (hf : ∀ t, t < 8 -> fm t = BF [1, 3, 6] t) {L : List (Nat × Nat × Nat)} {gs : List Nat} (hL : BB cs21 gs [1, 3, 6] 8 = L) (hl : L.length = 3) (hg : ∀ g ∈ gs, g = 1 \/ g = 3 \/ g = 6) (hgl : gs.length <= 65536) (w' : World) (v : Value) (k : Keep Aa w1 w') (hv : Bf w' v gs) :
  Calls Tryz.prog 20 #[.pointer (some ⟨P.s, 0, none⟩), .pointer (some ⟨mp, 0, none⟩), v] w' (Of22 L w') := by
 have h8 : P.n / 2 = 8 := by omega
 have := PlanOf_at P W f cs21 w' mp mq fm gs v (hs.Ad k) hc hst (by rw [h8]; exact hb.keep k (λ h => h) (λ h => h)) (λ g h1 h2 => by
  rw [h8] at h1
  rw [hf g h1] at h2
  exact objs21 [1, 3, 6] (by simp) g (Bu.1 h2)) hv (objs21 gs hg) hgl
 rw [h8, rise22 hf hg, hL] at this
 refine this.mono ?_
 rintro e w2 ⟨pv, rfl, ho, k2⟩
 obtain ⟨a, c, rfl⟩ := AA ho
 rw [hl]
 refine ⟨a, c, rfl, ?_, k2⟩
 have := RowO.A9 ho
 rwa [hl] at this

set_option maxRecDepth 20000 in
set_option maxHeartbeats 8000000 in
theorem alive22 (w : World) (hF : Al w) : Calls Tryz.prog 5 #[] w λ e w' => e = .returned (.bool true) /\ Keep Aa w w' := by
 have HF := sE hF
 clear hF
 go_enter Tryz.func5, Tryz.ntmps5
 go_wp2_with fail
 obtain ⟨wp, hwp⟩ : ∃ wp, wp = (w.alloc (.cells steps21 58)).alloc (.cells #[.int .u8 2, .int .i64 0, .int .u64 0] 60) := ⟨_, rfl⟩
 have kp : Keep Aa w wp := by rw [hwp]; exact ((Keep.refl _ w).alloc _).alloc _
 have hb1 : wp.heap[w.heap.size]? = some (.cells steps21 58 (0, 0)) := by rw [hwp]; exact ((Keep.refl Aa _).alloc _).at_ (World.alloc_heap_new w _) (λ h => h)
 have hb2 : wp.heap[w.heap.size + 1]? = some (.cells #[.int .u8 2, .int .i64 0, .int .u64 0] 60 (0, 0)) := by
  rw [hwp]
  have := World.alloc_heap_new (w.alloc (.cells steps21 58)) (.cells #[.int .u8 2, .int .i64 0, .int .u64 0] 60)
  rwa [show (w.alloc (.cells steps21 58)).heap.size = w.heap.size + 1 by simp] at this
 have HP := sE (played21 wp (HF.out.Ad kp) w.heap.size (w.heap.size + 1) _ _ hb1 hb2)
 have HKp := sE kp
 unfold steps21 at hwp
 rw [<- hwp]
 clear hwp hb1 hb2 kp
 refine HP.out.mono ?_
 rintro e w1 ⟨P, rb, W, f, rfl, ⟨ht, hn⟩, hs, hc, hst, r4, k1⟩
 have HK1 := sE (HKp.out.then' k1)
 have HBi := sE (Bits22_at [1, 3, 6] _ 8 _ (nats136 w1 3) (by decide) (by decide) (by decide))
 have HSx := sE (And.intro hn (And.intro hs (And.intro hc (And.intro hst r4))))
 clear ht hn hs hc hst r4 k1 HP HKp
 go_wp2_with fail
 refine HBi.out.mono ?_
 rintro e w2 ⟨mp, mq, fm, rfl, hbt, hfm, -, -, k2⟩
 have K2 : Seal (Keep Aa w1 w2) := ⟨((Keep.refl _ w1).alloc _).then' k2⟩
 have HA : Seal (∀ w', Keep Aa w2 w' -> Calls Tryz.prog 20 #[.pointer (some ⟨P.s, 0, none⟩), .pointer (some ⟨mp, 0, none⟩), .slice (some ⟨w'.heap.size, 0, none⟩) 1 1] (w'.alloc (.cells #[.int .i64 3] 3)) (Of22 pA22 (w'.alloc (.cells #[.int .i64 3] 3)))) := ⟨λ w' k => of22 HSx.out.1 (HSx.out.2.1.Ad K2.out) HSx.out.2.2.1 HSx.out.2.2.2.1 hbt hfm (gs := [3]) (by decide +kernel) rfl (by decide) (by decide) _ _ (k.alloc _) (nats3 w' _)⟩
 have HB : Seal (∀ w', Keep Aa w2 w' -> Calls Tryz.prog 20 #[.pointer (some ⟨P.s, 0, none⟩), .pointer (some ⟨mp, 0, none⟩), .slice none 0 0] w' (Of22 pB22 w')) := ⟨λ w' k => of22 HSx.out.1 (HSx.out.2.1.Ad K2.out) HSx.out.2.2.1 HSx.out.2.2.2.1 hbt hfm (gs := []) (by decide +kernel) rfl (by simp) (by decide) _ _ k (natsNil w')⟩
 have HNo : Seal (∀ w', Keep Aa w2 w' -> Calls Tryz.prog 20 #[.pointer (some ⟨P.s, 0, none⟩), .pointer (some ⟨mp, 0, none⟩), .slice (some ⟨w'.heap.size, 0, none⟩) 1 1] (w'.alloc (.cells #[.int .i64 2] 3)) (PlanNo 2 (w'.alloc (.cells #[.int .i64 2] 3)))) := ⟨λ w' k => PlanOf_no P W f _ 2 mp _ (HSx.out.2.1.Ad (K2.out.then' (k.alloc _))) (by rw [HSx.out.1]; omega) (by rw [show 2 * 2 = 4 from rfl, HSx.out.2.2.2.2]; decide +kernel) (nats2 w' _)⟩
 have HNil : Seal (∀ w' m v, Calls Tryz.prog 20 #[.pointer none, m, v] w' (PlanNo 1 w')) := ⟨λ w' m v => PlanOf_nil m v w'⟩
 clear hbt hfm k2 HBi
 go_wp2_with fail
 refine (HA.out w2 (Keep.refl _ _)).mono ?_
 rintro e w3 ⟨a3, c3, rfl, r3, k3⟩
 obtain ⟨wa, hwa⟩ : ∃ wa, wa = w3.alloc (.cells #[.slice a3 3 c3] 24) := ⟨_, rfl⟩
 have ka : Keep Aa w3 wa := by rw [hwa]; exact (Keep.refl _ w3).alloc _
 have ba : wa.heap[w3.heap.size]? = some (.cells #[.slice a3 3 c3] 24 (0, 0)) := by rw [hwa]; exact World.alloc_heap_new w3 _
 have Ka : Seal (Keep Aa w2 wa) := ⟨(((Keep.refl _ w2).alloc _).then' k3).then' ka⟩
 have Ra := sE (r3.Ad ka)
 have Ba := sE ba
 clear r3 k3 ka ba HA
 go_wp2_with fail
 rw [<- hwa]
 clear hwa
 refine (HB.out wa Ka.out).mono ?_
 rintro e w4 ⟨a4, c4, rfl, r4, k4⟩
 obtain ⟨wb, hwb⟩ : ∃ wb, wb = w4.alloc (.cells #[.slice a4 3 c4] 24) := ⟨_, rfl⟩
 have kb : Keep Aa w4 wb := by rw [hwb]; exact (Keep.refl _ w4).alloc _
 have bb : wb.heap[w4.heap.size]? = some (.cells #[.slice a4 3 c4] 24 (0, 0)) := by rw [hwb]; exact World.alloc_heap_new w4 _
 have Kb : Seal (Keep Aa wa wb) := ⟨k4.then' kb⟩
 have Rb := sE (r4.Ad kb)
 have Bb := sE bb
 clear r4 k4 kb bb HB
 go_upto_region 8 with fail
 rw [<- hwb]
 clear hwb
 go_wp2_with fail
 refine (HNo.out wb (Ka.out.then' Kb.out)).mono ?_
 rintro e w5 ⟨rfl, k5⟩
 have K5 : Seal (Keep Aa wb w5) := ⟨((Keep.refl _ wb).alloc _).then' k5⟩
 clear k5 HNo
 go_wp2_with fail
 refine (HNil.out _ _ _).mono ?_
 rintro e w6 ⟨rfl, k6⟩
 obtain ⟨wc, hwc⟩ : ∃ wc, wc = w6.alloc (.cells #[.slice none 0 0] 24) := ⟨_, rfl⟩
 have kc : Keep Aa w6 wc := by rw [hwc]; exact (Keep.refl _ w6).alloc _
 have Kc : Seal (Keep Aa wb wc) := ⟨((K5.out.alloc _).then' k6).then' kc⟩
 have ca := cell_of_one ((Kb.out.then' Kc.out).at_ Ba.out (λ h => h))
 have cb := cell_of_one (Kc.out.at_ Bb.out (λ h => h))
 have Rc := sE (Ra.out.Ad (Kb.out.then' Kc.out))
 have Rd := sE (Rb.out.Ad Kc.out)
 clear k6 kc HNil Ra Rb
 go_upto_region 10 with fail
 rw [<- hwc]
 clear hwc
 have HTo := sE (To_at (castS pA22) (.slice a3 3 c3) 6 wc Rc.out.rowH (by decide))
 rw [show toP (castS pA22) 6 = (5, true) by decide] at HTo
 have HSm : Seal (∀ w', Keep Aa wc w' -> Calls Tryz.prog 21 #[.agg #[.slice a3 3 c3], .agg #[.slice (some ⟨w'.heap.size, 0, none⟩) 3 3]] (w'.alloc (.cells #[.int .i64 1, .int .i64 0, .int .i64 2, .int .i64 3, .int .i64 3, .int .i64 2, .int .i64 6, .int .i64 5, .int .i64 2] 27)) λ e w'' => e = .returned (.bool true) /\ Keep Aa (w'.alloc (.cells #[.int .i64 1, .int .i64 0, .int .i64 2, .int .i64 3, .int .i64 3, .int .i64 2, .int .i64 6, .int .i64 5, .int .i64 2] 27)) w'') := ⟨λ w' k => SameP_yes pA22 _ _ _ (Rc.out.Ad (k.alloc _)) (rowoA w' _) (by decide)⟩
 have HMv : Seal (∀ w', Keep Aa wc w' -> Calls Tryz.prog 8 #[.agg #[.slice a3 3 c3]] w' λ e w'' => e = .returned (.int .i64 4) /\ Keep Aa w' w'') := ⟨λ w' k => by
  have := Moved_at (castS pA22) (.slice a3 3 c3) w' (Rc.out.Ad k).rowH (by decide) (by decide)
  rwa [show Cn (castS pA22) = 4 by decide] at this⟩
 have HGp : Seal (∀ w', Keep Aa wc w' -> Calls Tryz.prog 11 #[.agg #[.slice a3 3 c3], .int .i64 8] w' (EM [(2, 1), (7, 1)] w')) := ⟨λ w' k => by
  have := Gaps_at (castS pA22) (.slice a3 3 c3) 8 w' (Rc.out.Ad k).rowH (by decide) (by decide) (by decide) (by decide)
  rwa [show CY (Ex (castS pA22)) 8 = [(2, 1), (7, 1)] by decide] at this⟩
 go_wp2_with fail
 refine HTo.out.mono ?_
 rintro e w7 ⟨rfl, k7⟩
 have K7 : Seal (Keep Aa wc w7) := ⟨k7⟩
 have ca7 := k7.cell ca (λ h => h)
 clear k7 HTo ca
 go_wp2_with fail
 refine (HSm.out w7 K7.out).mono ?_
 rintro e w8 ⟨rfl, k8⟩
 have K8 : Seal (Keep Aa wc w8) := ⟨K7.out.then' (((Keep.refl _ w7).alloc _).then' k8)⟩
 have ca8 := ((Keep.refl Aa w7).alloc _ |>.then' k8).cell ca7 (λ h => h)
 have cb8 := K8.out.cell cb (λ h => h)
 obtain ⟨za, zc, hv, hx⟩ := Rd.out.Ad K8.out
 injection hv with q1 q2 q3
 subst q1
 obtain ⟨b2, o2, rfl, -, -, x2, -⟩ := hx 2 (6, 4, 2) rfl
 clear k8 ca7 cb hx q2 q3 HSm
 go_wp2_with fail
 refine (HMv.out w8 K8.out).mono ?_
 rintro e w9 ⟨rfl, k9⟩
 have K9 : Seal (Keep Aa wc w9) := ⟨K8.out.then' k9⟩
 have ca9 := k9.cell ca8 (λ h => h)
 clear k9 HMv ca8 cb8 x2
 go_wp2_with fail
 refine (HGp.out w9 K9.out).mono ?_
 rintro e wd ⟨gv, rfl, go, kd⟩
 have Rg := sE (EN.A9 go)
 have Kd : Seal (Keep Aa wc wd) := ⟨K9.out.then' kd⟩
 obtain ⟨ga, gc, rfl⟩ := AA go
 have HSr := sE (SameRuns_yes [(2, 1), (7, 1)] _ _ _ (Rg.out.Ad ((Keep.refl _ wd).alloc _)) (rowsA wd 68) (by decide))
 clear go kd HGp
 go_wp2_with fail
 refine HSr.out.mono ?_
 rintro e we ⟨rfl, ke⟩
 have Ke : Seal (Keep Aa wd we) := ⟨((Keep.refl _ wd).alloc _).then' ke⟩
 clear ke
 go_wp2_with fail
 go_ret
 exact ⟨rfl, HK1.out.then' (K2.out.then' (Ka.out.then' (Kb.out.then' (Kc.out.then' (Kd.out.then' Ke.out)))))⟩

end Go.Proofs.YtlmdkfbibpkjgaaGreatDoor
