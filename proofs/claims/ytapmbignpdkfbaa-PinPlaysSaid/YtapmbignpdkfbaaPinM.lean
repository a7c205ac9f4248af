/-
  A map from addresses to how often (map[uint64]int) that a call owns, as a row: asked, told, gone over, copied.
-/
import Derived.Test.YtapmbignpdkfbaaSeqU
import Derived.Test.YtapmbignpdkfbaaSortH
import Derived.Test.YtapmbignpdkfbaaPinP
import Derived.Maps.Own
import Derived.Maps.OwnSet
import Derived.Maps.RangeWalk
import Derived.Sort.MapsRangeIn
namespace Go.Proofs.Ytapmbignpdkfbaa
open Go.RowKit Go.Maps
set_option linter.unusedVariables false
attribute [local go_sem] Oper.semAt_some

theorem wfU {g : Nat} (h : g < 18446744073709551616) : (Lit.int .u64 (g : Int)).wf = true := by
  have h1 : IntKind.u64.min = 0 := by decide
  have h2 : IntKind.u64.max = 18446744073709551615 := by decide
  simp only [Lit.wf, h1, h2, Bool.and_eq_true, decide_eq_true_eq]
  omega

theorem wfU_inv {x : Int} (h : (Lit.int .u64 x).wf = true) : ∃ g : Nat, x = (g : Int) ∧ g < 18446744073709551616 := by
  have h1 : IntKind.u64.min = 0 := by decide
  have h2 : IntKind.u64.max = 18446744073709551615 := by decide
  simp only [Lit.wf, h1, h2, Bool.and_eq_true, decide_eq_true_eq] at h
  exact ⟨x.toNat, by omega, by omega⟩

theorem wfI {g : Nat} (h : g < 9223372036854775808) : (Lit.int .i64 (g : Int)).wf = true := by
  have h1 : IntKind.i64.min = -9223372036854775808 := by decide
  have h2 : IntKind.i64.max = 9223372036854775807 := by decide
  simp only [Lit.wf, h1, h2, Bool.and_eq_true, decide_eq_true_eq]
  omega

/-- A map of at most n keys (in memory's words): c tells how often each is there; none that is not. -/
def PinIn (w : World) (b n : Nat) (c : Nat → Nat) : Prop :=
  ∃ D : DataW Unit, w.ownsMap Try.prog 27 (plainElem Try.prog 3) b n D ∧ ∀ g : Nat, g < 18446744073709551616 → has D (.int .u64 (g : Nat)) = decide (0 < c g) ∧ D.atKey (.int .u64 (g : Nat)) (.lit (.int .i64 0)) = .lit (.int .i64 (c g : Nat))

theorem zeroI (w : World) : (zeroValue 3).run Try.prog w = .ok (.int .i64 0) w := by kernel_rfl

theorem PinIn.made (w : World) : PinIn (w.alloc (.map #[] 0)) w.heap.size 0 (fun _ => 0) :=
  ⟨.map [], World.ownsMap_made w _ _ _, fun g _ => ⟨rfl, rfl⟩⟩

theorem PinIn.lt {w : World} {b n : Nat} {c : Nat → Nat} (h : PinIn w b n c) : b < w.heap.size := by
  obtain ⟨D, h1, -⟩ := h
  exact h1.lt

theorem PinIn.keep {S : Nat → Prop} {w w' : World} {b n : Nat} {c : Nat → Nat} (h : PinIn w b n c) (k : Keep S w w') (hb : ¬ S b) : PinIn w' b n c := by
  obtain ⟨D, ⟨es, clock, h1, h2⟩, h3⟩ := h
  exact ⟨D, ⟨es, clock, k.at_ h1 hb, h2⟩, h3⟩

theorem PinIn.look {w : World} {b n : Nat} {c : Nat → Nat} (h : PinIn w b n c) {g : Nat} (hg : g < 18446744073709551616) :
    (Instr.lookup 44 (.map (some b)) (.int .u64 (g : Nat)) false).run Try.prog w = .ok (.int .i64 (c g : Nat)) w := by
  obtain ⟨D, h1, h2⟩ := h
  obtain ⟨x, hrun, hat, -⟩ := h1.lookup_int (int_keyed Try.underlying27) Try.underlying44 Try.underlying3 (zeroI w) (keyOf_int_mk Try.underlying27 (wfU hg))
  rw [(h2 g hg).2] at hat
  have : ((c g : Nat) : Int) = x := by injection hat with hat; injection hat
  rw [hrun, this]

/-- What put does. -/
theorem PinIn.put {w : World} {b n : Nat} {c : Nat → Nat} (h : PinIn w b n c) (hn : n < maxLen) {g v : Nat} (hg : g < 18446744073709551616) (hv : v < 9223372036854775808) :
    ∃ w' w'', (Instr.mapUpdate 44 (.map (some b)) (.int .u64 (g : Nat)) (.int .i64 (v : Nat))).run Try.prog w = .ok () w' ∧ (v ≠ 0 → PinIn w' b (n + 1) (fun x => if x = g then v else c x)) ∧ Keep (fun k => k = b) w w' ∧
      (∀ ty, (Builtin.delete_ #[44, 27] ty #[.map (some b), .int .u64 (g : Nat)]).run Try.prog w' = .ok (.tuple #[]) w'') ∧ PinIn w'' b (n + 1) (fun x => if x = g then 0 else c x) ∧ Keep (fun k => k = b) w w'' := by
  obtain ⟨D, h1, h2⟩ := h
  have K := int_keyed Try.underlying27
  have hkk := keyOf_int_mk Try.underlying27 (wfU hg)
  obtain ⟨w', hrun, ho, hgr⟩ := h1.update K Try.underlying44 hn hkk (plainElem_int Try.underlying3 (wfI hv))
  have hK : Keep (fun k => k = b) w w' := (Keep.refl _ w).grown hgr (fun k e _ => by injection e with e; exact e.symm)
  obtain ⟨w'', hdel, ho2, htu⟩ := ho.drop K Try.underlying44 hkk 0
  have hne : ∀ x : Nat, x ≠ g → (Lit.int .u64 (x : Int)) ≠ Lit.int .u64 (g : Int) := fun x e h => by
    injection h with _ h
    omega
  refine ⟨w', w'', hrun, fun hv0 => ⟨_, ho, fun x hx => ?_⟩, hK, fun ty => hdel, ⟨_, ho2, fun x hx => ?_⟩, hK.grown htu.grown (fun k e _ => by injection e with e; exact e.symm)⟩
  · by_cases ex : x = g
    · subst ex
      rw [Maps.atKey_put_same h1.isMap (K.key hkk), Maps.has_put_same h1.isMap (K.key hkk)]
      simp
      omega
    · rw [Maps.atKey_put_other (hne x ex), Maps.has_put_other (hne x ex), (h2 x hx).1, (h2 x hx).2]
      simp [ex]
  · by_cases ex : x = g
    · subst ex
      rw [Maps.has_del_same, Maps.atKey_del_same]
      simp
    · rw [Maps.has_del_other (hne x ex), Maps.atKey_del_other (hne x ex), Maps.atKey_put_other (hne x ex), Maps.has_put_other (hne x ex), (h2 x hx).1, (h2 x hx).2]
      simp [ex]

theorem ranges_keep {P : Program} {k : TypeId} {R : Value → Option (DataW Unit × List MemPlace)} {b r n : Nat} {D : DataW Unit} {left : Lit → Bool} {cnt : Nat} {S : Nat → Prop} {w w' : World} (h : w.ranges P k R b r n D left cnt) (hk : Keep S w w') (h1 : ¬ S b) (h2 : ¬ S r) : w'.ranges P k R b r n D left cnt := by
  obtain ⟨es, clock, since, seen, c0, hb, F, hs, hD, hr, rest⟩ := h
  exact ⟨es, clock, since, seen, c0, hk.at_ hb h1, F, hs, hD, hk.at_ hr h2, rest⟩

/-- The keys handed on so far. -/
def CollU (D : DataW Unit) (left : Lit → Bool) (ss : List Nat) : Prop := ss.Nodup ∧ ∀ x : Nat, x ∈ ss ↔ x < 18446744073709551616 ∧ has D (.int .u64 (x : Nat)) = true ∧ left (.int .u64 (x : Nat)) = false

theorem CollU.start (D : DataW Unit) : CollU D (has D) [] := ⟨List.nodup_nil, fun x => by cases has D (.int .u64 (x : Nat)) <;> simp⟩

theorem CollU.step {D : DataW Unit} {left : Lit → Bool} {ss : List Nat} (h : CollU D left ss) {x : Nat} (hx : x < 18446744073709551616) {y : DataW Unit} (hlk : left (.int .u64 (x : Nat)) = true) (hat : ∀ zd, D.atKey (.int .u64 (x : Nat)) zd = y) : CollU D (fun z => left z && !z.sameKey (.int .u64 (x : Nat))) (ss ++ [x]) := by
  have hhas : has D (.int .u64 (x : Nat)) = true := has_true_of_atKey hat
  have hnew : x ∉ ss := fun hm => by have := ((h.2 x).1 hm).2.2; rw [hlk] at this; cases this
  refine ⟨List.nodup_append.2 ⟨h.1, by simp, fun a ha b hb => by simp at hb; subst hb; exact fun e => hnew (e ▸ ha)⟩, fun y => ?_⟩
  by_cases hy : y = x
  · subst hy; simp [hhas, Lit.sameKey, hx]
  · have hy' : ¬ (y : Int) = (x : Int) := by omega
    simp [h.2 y, hy, hy', Lit.sameKey]

def KeyP (c : Nat → Nat) (pre : List Nat) : Prop := pre.Nodup ∧ ∀ x ∈ pre, x < 18446744073709551616 ∧ 0 < c x

def KeyF (c : Nat → Nat) (ss : List Nat) : Prop := ss.Nodup ∧ ∀ x, x ∈ ss ↔ x < 18446744073709551616 ∧ 0 < c x

set_option maxRecDepth 20000 in
set_option maxHeartbeats 4000000 in
theorem keys_iter (w : World) (Bm b n : Nat) (c : Nat → Nat) (hb : w.heap[Bm]? = some (.cells #[.map (some b)] 44 (0, 0))) (hm : PinIn w b n c) {R : Nat → Prop} (hR : ∀ i, R i → i < w.heap.size ∧ ¬ i = Bm ∧ ¬ i = b) :
    IterN Try.prog 33 #[.pointer (some ⟨Bm, 0, none⟩)] (fun x : Nat => #[.int .u64 (x : Nat)]) (KeyP c) (KeyF c) (fun k => k = w.heap.size + 2) R w := by
  intro l J Jx S0 W hW hl1 hl2 hsz hS hJ hJx hY h0
  have lb := hm.lt
  have lBm := (Array.getElem?_eq_some_iff.1 hb).1
  have cb := cell_of_one (hW.at_ hb (fun h => h))
  have hmW := hm.keep hW (fun h => h)
  obtain ⟨D, hown, hD⟩ := hmW
  have HD : Seal _ := ⟨hD⟩
  have HR : Seal _ := ⟨hR⟩
  have HS : Seal _ := ⟨hS⟩
  have HJ : Seal _ := ⟨hJ⟩
  have HY : Seal _ := ⟨hY⟩
  have H0 : Seal _ := ⟨h0⟩
  have HZ : Seal _ := ⟨hsz⟩
  clear hD hR hm hb hS hJ hY h0 hsz
  have K := int_keyed Try.underlying27
  refine (callsIn_wide (n := 0)).1 ?_
  refine callsIn_of_wp Try.func33 rfl trivial ?_
  simp only [Try.ntmps33, List.size_toArray, List.length_cons, List.length_nil, Nat.reduceAdd, Nat.reduceSub, Array.replicate_succ, Array.replicate_zero, List.push_toArray, List.append_toArray, List.nil_append, List.cons_append]
  gi_wp2_with (first
    | (gi_at_range; refine wpListIn_range_own _ rfl _ 44 rfl 27 3 (int_keyed Try.underlying27) Try.underlying44 _ b n _ rfl hown ?_; intro w0 hrg0 hg0 hs0))
  have HOw : Seal _ := ⟨hown⟩
  have hz0 : w0.heap.size = W.heap.size + 1 := hs0
  have HK0 : Seal (Keep Nope W w0) := ⟨(Keep.refl Nope W).grown hg0 (fun k e _ => by cases e)⟩
  clear hown hg0 hs0
  gi_loopw [3] (fun _ wr => ∃ (left : Lit → Bool) (cnt : Nat) (ss : List Nat) (S : Nat → Prop), wr.ranges Try.prog 27 (plainElem Try.prog 3) b W.heap.size n D left cnt ∧ CollU D left ss ∧ J ss S wr)
    (fun _ wr => wr.rangeLeft b W.heap.size)
  case atStart => exact ⟨_, _, [], S0, hrg0, CollU.start D, HJ.out [] S0 W w0 H0.out (HK0.out.of_not _)⟩
  case round =>
    obtain ⟨left, cnt, ss, S, hrg, hC, hJs⟩ := hrel
    have HC : Seal _ := ⟨hC⟩
    have HJs : Seal _ := ⟨hJs⟩
    clear hC hJs hrg0
    gi_wp2_with (first
      | (gi_at_next; refine wpListIn_next_ranges _ rfl _ rfl 27 (int_keyed Try.underlying27) (plainElem Try.prog 3) (Value.int .u64) id (fun key kl hk => by obtain ⟨x, hx, _⟩ := Maps.keyOf_int_inv Try.underlying27 hk; exact ⟨x, hx⟩) (fun v _ _ => ⟨v, rfl⟩) b W.heap.size n _ _ _ rfl hrg ?_ ?_))
    · intro hc0 hl0
      have HF : Seal (KeyF c ss) := ⟨HC.out.1, fun x => by
        rw [HC.out.2 x, hl0]
        constructor
        · rintro ⟨h1, h2, -⟩
          rw [(HD.out x h1).1] at h2
          exact ⟨h1, by simpa using h2⟩
        · rintro ⟨h1, h2⟩
          exact ⟨h1, by rw [(HD.out x h1).1]; simpa using h2, rfl⟩⟩
      clear hl0
      gi_wp2_with fail
      go_end0
      exact ⟨⟨_, rfl⟩, Or.inl ⟨ss, HF.out, S, HJs.out⟩⟩
    · intro x e kl yd yp w2 cnt2 hkey hlk hv hat hrg2 hlt hg2 hs2 hen
      obtain ⟨x', ex, rfl, hwf⟩ := Maps.keyOf_int_inv Try.underlying27 hkey
      obtain rfl : x = x' := by simpa using ex
      obtain ⟨g, rfl, hg⟩ := wfU_inv hwf
      have HC2 : Seal _ := ⟨HC.out.step hg hlk hat⟩
      have HPx : Seal (KeyP c (ss ++ [g])) := ⟨HC2.out.1, fun z hz => by
        have h1 := (HC2.out.2 z).1 hz
        have h2 := h1.2.1
        rw [(HD.out z h1.1).1] at h2
        exact ⟨h1.1, by simpa using h2⟩⟩
      have hJ2 : J ss S w2 := HJ.out ss S wr w2 HJs.out ((Keep.refl _ wr).grown hg2 (fun k e _ => by injection e with e; have := HZ.out; omega))
      have hRl := hrg2.lt
      obtain ⟨fn, tmps, assign, body, hy, hRn⟩ := HY.out ss S g w2 HPx.out hJ2 (fun k hk => by have := HZ.out; omega)
      have HRg : Seal _ := ⟨hrg2⟩
      have HLt : Seal (cnt2 < wr.rangeLeft b W.heap.size) := ⟨by rw [hrg.left_eq]; exact hlt⟩
      have HSk : Seal (∀ k, S k → ¬ k = b ∧ ¬ k = W.heap.size) := ⟨fun k hk => by
        have h1 := HS.out ss S w2 hJ2 k hk
        have h2 := HZ.out
        have h3 := hRl
        refine ⟨fun e => ?_, fun e => h1.2.2 (by omega)⟩
        rcases h1.1 with h | h
        · exact (HR.out k h).2.2 e
        · omega⟩
      clear hs2 hkey hlk hv hat hrg2 hrg hlt hg2 hJ2 hwf ex
      gi_wp2_with fail
      refine ⟨rfl, hRn.mono ?_⟩
      rintro e W3 (⟨rfl, hk3, S', hJ3, hn3⟩ | ⟨rfl, hJ3⟩)
      · have hrg3 := ranges_keep HRg.out hk3 (fun h => by rcases h with h | h; exact (HSk.out _ h).1 rfl; omega) (fun h => by rcases h with h | h; exact (HSk.out _ h).2 rfl; omega)
        have HR3 : Seal _ := ⟨hrg3⟩
        have HJ3 : Seal _ := ⟨hJ3⟩
        clear hk3 hn3 hJ3 hrg3 hy hRn
        gi_wp2_with fail
        exact ⟨⟨_, cnt2, ss ++ [g], S', HR3.out, HC2.out, HJ3.out⟩, by rw [HR3.out.left_eq]; exact HLt.out⟩
      · have HJ3 : Seal _ := ⟨hJ3⟩
        clear hJ3 hy hRn
        gi_wp2_with fail
        exact bodyPost_ret (results_none rfl _ _ _) rfl ⟨⟨_, rfl⟩, Or.inr ⟨_, HPx.out, HJ3.out⟩⟩

set_option maxHeartbeats 1000000 in
theorem Ins_nil (w : World) : Calls Try.prog 36 #[.slice none 0 0, .int .i64 0, .int .i64 0] w fun e w' => e = .returned (.tuple #[]) ∧ w' = w := by
  go_enter Try.func36, Try.ntmps36
  go_wp2
  go_loopw [6] (fun vi wr => vi = .int .i64 1 ∧ w = wr) (fun _ _ => 0)
  case atStart => exact ⟨rfl, rfl⟩
  case round =>
    obtain ⟨rfl, rfl⟩ := hrel
    go_wp2
    go_end0
    exact ⟨rfl, rfl⟩

set_option maxRecDepth 20000 in
set_option maxHeartbeats 1000000 in
theorem Pdq_nil (w : World) : Calls Try.prog 34 #[.slice none 0 0, .int .i64 0, .int .i64 0, .int .i64 0] w fun e w' => e = .returned (.tuple #[]) ∧ w' = w := by
  go_enter Try.func34, Try.ntmps34
  go_wp2
  go_loopw [1, 2, 3, 8, 9, 10, 11, 12, 13, 14, 15, 16, 17, 18] (fun v1 v2 v3 v8 v9 _ _ _ _ _ _ _ _ _ wr => v1 = .int .i64 0 ∧ v2 = .int .i64 0 ∧ w = wr) (fun v1 v2 _ _ _ _ _ _ _ _ _ _ _ _ _ => 0)
  case atStart => exact ⟨rfl, rfl, rfl⟩
  case round =>
    obtain ⟨rfl, rfl, rfl⟩ := hrel
    go_wp2_with fail
    refine (Ins_nil _).mono ?_
    rintro e w' ⟨rfl, rfl⟩
    go_wp2_with fail
    exact bodyPost_ret (results_none rfl _ _ _) rfl ⟨rfl, rfl⟩

set_option maxHeartbeats 1000000 in
theorem Sort_nil (w : World) : Calls Try.prog 32 #[.slice none 0 0] w fun e w' => e = .returned (.tuple #[]) ∧ w' = w := by
  have HL : Seal (Calls Try.prog 35 #[.int .u64 0] w fun e w' => e = .returned (.int .i64 0) ∧ w' = w) := ⟨Try.bits_Len 0 w (by omega) (by omega)⟩
  go_enter Try.func32, Try.ntmps32
  go_wp2_with fail
  refine HL.out.mono ?_
  rintro e w' ⟨rfl, rfl⟩
  go_wp2_with fail
  refine (Pdq_nil _).mono ?_
  rintro e w' ⟨rfl, rfl⟩
  go_wp2_with fail
  go_end0
  exact ⟨rfl, rfl⟩

/-- The keys in order. -/
def KeysPost (c : Nat → Nat) (w : World) (e : Ending) (w' : World) : Prop :=
  ∃ v ss, KeyF c ss ∧ ss.Pairwise (· < ·) ∧ e = .returned v ∧ w'.ownsRow w.heap.size 27 1 v ss.length (u64L ss) ∧ Keep Nope w w'

theorem map_getD (ss : List Nat) : (List.range ss.length).map (fun i => ss.getD i 0) = ss := by
  refine List.ext_getElem (by simp) fun i h1 h2 => ?_
  simp at h1
  simp [List.getD, List.getElem?_eq_getElem h1]

theorem sorted_rise {n : Nat} {G : Nat → Nat} (h : SortedR 0 n G) (hn : ((List.range n).map G).Nodup) : ((List.range n).map G).Pairwise (· < ·) := by
  rw [List.pairwise_iff_getElem]
  intro i j hi hj hij
  simp at hi hj
  have h1 := h i j (by omega) (by omega) hj
  have h2 : G i ≠ G j := by
    have h3 := List.pairwise_iff_getElem.1 hn i j (by simpa using hi) (by simpa using hj) hij
    simpa using h3
  simp
  omega

set_option maxHeartbeats 1000000 in
theorem Sorted_at (w : World) (Bm b n : Nat) (c : Nat → Nat) (K : List Nat) (hb : w.heap[Bm]? = some (.cells #[.map (some b)] 44 (0, 0))) (hm : PinIn w b n c) (hK : ∀ x, x < 18446744073709551616 → 0 < c x → x ∈ K) (hKl : K.length ≤ 1099511627776) :
    Calls Try.prog 29 #[.func (.func 33) #[] #[.pointer (some ⟨Bm, 0, none⟩)]] w (KeysPost c w) := by
  have lb := hm.lt
  have lBm := (Array.getElem?_eq_some_iff.1 hb).1
  have k1 : Keep Nope w (w.alloc (.cells #[.slice none 0 0] 34)) := (Keep.refl _ w).alloc _
  have HC : Seal _ := ⟨Collect_at (O := fun k => k = (w.alloc (.cells #[.slice none 0 0] 34)).heap.size + 2) w (enters_of Try.func33 (by kernel_rfl) rfl)
    (keys_iter (w.alloc (.cells #[.slice none 0 0] 34)) Bm b n c (k1.at_ hb (fun h => h)) (hm.keep k1 (fun h => h)) (R := fun i => i = w.heap.size) (fun i hi => by subst hi; simp; omega)) (fun k hk => by simp at hk; omega)
    (fun pre hp => Nat.le_trans (nodup_sub_len hp.1 fun x hx => hK x (hp.2 x hx).1 (hp.2 x hx).2) hKl)⟩
  clear hb hm k1
  go_enter Try.func29, Try.ntmps29
  go_wp2_with fail
  refine HC.out.mono ?_
  rintro e w1 ⟨v, ss, hF, rfl, hown, k1⟩
  have HF : Seal _ := ⟨hF⟩
  have HK1 : Seal _ := ⟨k1⟩
  have HO : Seal _ := ⟨hown⟩
  have hl : ss.length ≤ 1099511627776 := Nat.le_trans (nodup_sub_len hF.1 fun x hx => hK x ((hF.2 x).1 hx).1 ((hF.2 x).1 hx).2) hKl
  rcases hown.2 with ⟨rfl, h0⟩ | ⟨g, cap, cur, rfl, g2, g3, g4, g5, g6, g7⟩
  · clear hown hF k1
    go_wp2_with fail
    refine (Sort_nil _).mono ?_
    rintro e w2 ⟨rfl, rfl⟩
    go_wp2_with fail
    refine bodyPost_ret (v := .slice none 0 0) (by simp [results, Try.results29, go_sem]) rfl ⟨.slice none 0 0, ss, HF.out, ?_, rfl, HO.out, HK1.out⟩
    have : ss = [] := List.length_eq_zero_iff.1 h0
    subst this
    simp
  · have HRow : Seal (RowU cur g 27 0 ss.length (fun i => ss.getD i 0) w1) := ⟨⟨cur, g3, rfl, fun i hi => by
      have h1 : cur.toList[i]? = some (.int .u64 (ss[i] : Nat)) := by
        rw [← List.getElem?_take_of_lt (j := ss.length * 1) (by omega), g7, u64L, List.getElem?_map, List.getElem?_eq_getElem hi]
        rfl
      rw [Nat.zero_add]
      simpa [List.getD, List.getElem?_eq_getElem hi] using h1, fun i hi => by
      have := ((hF.2 ss[i]).1 (List.getElem_mem hi)).1
      simpa [List.getD, List.getElem?_eq_getElem hi] using this, fun k hk => rfl⟩⟩
    have HG : Seal _ := ⟨And.intro g2 (And.intro g4 (And.intro g5 g6))⟩
    clear hown hF k1 g2 g3 g4 g5 g6 g7
    have HS : Seal _ := ⟨Sort_at (cap := cap) HRow.out (by omega)⟩
    obtain ⟨m, hm⟩ : ∃ m, ss.length = m := ⟨_, rfl⟩
    have HM : Seal _ := ⟨hm⟩
    rw [hm] at HS HRow HG hl ⊢
    clear hm
    go_wp2_with fail
    refine HS.out.mono ?_
    rintro e w2 ⟨rfl, G, hR, hSw, hSo, hK2⟩
    have HR2 : Seal _ := ⟨hR⟩
    have HSw : Seal _ := ⟨hSw⟩
    have HSo : Seal _ := ⟨hSo⟩
    have HK2 : Seal _ := ⟨hK2⟩
    clear hR hSw hSo hK2 HS
    go_wp2_with fail
    have hperm : ((List.range m).map G).Perm ss := by
      have := HSw.out.perm (n := m) (Nat.le_refl _)
      rw [← HM.out, map_getD] at this
      rw [← HM.out]
      exact this
    have hnd : ((List.range m).map G).Nodup := hperm.nodup_iff.2 HF.out.1
    have hlen : ((List.range m).map G).length = m := by simp
    refine bodyPost_ret (v := .slice (some ⟨g, 0, none⟩) m cap) (by simp [results, Try.results29, go_sem]) rfl ⟨_, (List.range m).map G, ⟨hnd, fun x => by rw [hperm.mem_iff]; exact HF.out.2 x⟩, sorted_rise HSo.out hnd, rfl, ?_, ?_⟩
    · obtain ⟨cc, q1, q2, q3, q4, q5⟩ := HR2.out
      rw [hlen]
      refine ⟨by rw [u64L_len, hlen, Nat.mul_one], .inr ⟨g, cap, cc, rfl, HG.out.1, q1, HG.out.2.1, HG.out.2.2.1, by rw [q2]; exact HG.out.2.2.2, ?_⟩⟩
      refine List.ext_getElem? fun i => ?_
      rw [List.getElem?_take]
      by_cases hi : i < m
      · rw [if_pos (by omega), u64L, List.map_map]
        have := q3 i hi
        rw [Nat.zero_add] at this
        simpa [hi] using this
      · rw [if_neg (by omega), List.getElem?_eq_none (by simp [u64L]; omega)]
    · exact HK1.out.trans HK2.out (fun i hi e => by have := HG.out.1; omega)

end Go.Proofs.Ytapmbignpdkfbaa
