/-
  Two nodes, two graphs: are they the same? The program's and the document's answer.
-/
import Derived.Test.YtifdhaiihlfomaaDoorDiLib
import Derived.Test.YtifdhaiihlfomaaDoorDiOf
namespace Go.Proofs.YtifdhaiihlfomaaDoor
open Go Go.RowKit
set_option linter.unusedVariables false

/-- A node's rows in memory. -/
def NodeR (w : World) (n : NodeV) : Prop := RowR .u64 w n.wv n.ws ∧ RowR .i64 w n.rv n.rs
theorem NodeR.keep {w w' : World} {n : NodeV} (h : NodeR w n) (hk : Keep Nope w w') : NodeR w' n := ⟨h.1.keep hk, h.2.keep hk⟩
/-- A row of nodes in memory. -/
def NodesR (w : World) (v : Value) (ns : List NodeV) : Prop :=
  ∃ a c, v = .slice a ns.length c ∧ ∀ i n, ns[i]? = some n → ∃ b o, a = some ⟨b, o, none⟩ ∧ b < w.heap.size ∧ w.cell? ⟨b, o + i * 4, none⟩ = some (.int .i64 n.ty) ∧ w.cell? ⟨b, o + i * 4 + 1, none⟩ = some (.int .i64 n.ln) ∧
    w.cell? ⟨b, o + i * 4 + 2, none⟩ = some n.wv ∧ w.cell? ⟨b, o + i * 4 + 3, none⟩ = some n.rv ∧ NodeR w n
theorem NodesR.keep {w w' : World} {v : Value} {ns : List NodeV} (h : NodesR w v ns) (hk : Keep Nope w w') : NodesR w' v ns := by
  obtain ⟨a, c, rfl, h⟩ := h
  refine ⟨a, c, rfl, fun i n hn => ?_⟩
  obtain ⟨b, o, rfl, h1, h2, h3, h4, h5, h6⟩ := h i n hn
  exact ⟨b, o, rfl, Nat.lt_of_lt_of_le h1 hk.size, keepc hk h2, keepc hk h3, keepc hk h4, keepc hk h5, h6.keep hk⟩
/-- A graph in memory. -/
structure GraphR (w : World) (x : GraphV) : Prop where
  nodes : NodesR w x.nv x.ns
  hands : RowR .i64 w x.hv x.hs
  pins : RowR .i64 w x.pv x.ps
  stack : RowR .i64 w x.sv x.ss
theorem GraphR.keep {w w' : World} {x : GraphV} (h : GraphR w x) (hk : Keep Nope w w') : GraphR w' x := ⟨h.nodes.keep hk, h.hands.keep hk, h.pins.keep hk, h.stack.keep hk⟩
/-- No row of it is longer than this. -/
structure GraphL (x : GraphV) : Prop where
  n : x.ns.length ≤ 17592186044416
  h : x.hs.length ≤ 17592186044416
  p : x.ps.length ≤ 17592186044416
  s : x.ss.length ≤ 17592186044416
  w : ∀ y ∈ x.ns, y.ws.length ≤ 17592186044416 ∧ y.rs.length ≤ 17592186044416

/-- Two nodes say the same. -/
def sameN (x y : NodeV) : Bool := decide (x.ty = y.ty) && (decide (x.ln = y.ln) && (decide (x.ws = y.ws) && decide (x.rs = y.rs)))

theorem row_slice {k : IntKind} {w : World} {v : Value} {xs : List Int} (h : RowR k w v xs) : ∃ a c, v = .slice a xs.length c := by
  obtain ⟨a, c, h, _⟩ := h
  exact ⟨a, c, h⟩

theorem row_form {k : IntKind} {w : World} {v : Value} {xs : List Int} (h : RowR k w v xs) : ∃ a n c, v = .slice a n c := by
  obtain ⟨a, c, h, _⟩ := h
  exact ⟨a, _, c, h⟩

set_option maxHeartbeats 2000000 in
theorem SameNode_R {x y : NodeV} {w : World} (hx : NodeR w x) (hy : NodeR w y) (hl : x.ws.length ≤ 17592186044416 ∧ x.rs.length ≤ 17592186044416) :
    Calls Tryd.prog 32 #[x.val, y.val] w fun e w' => e = .returned (.bool (sameN x y)) ∧ Keep Nope w w' := by
  obtain ⟨xt, xl, xw, xr, xws, xrs⟩ := x
  obtain ⟨yt, yl, yw, yr, yws, yrs⟩ := y
  obtain ⟨hxw, hxr⟩ := hx
  obtain ⟨hyw, hyr⟩ := hy
  dsimp only at hxw hxr hyw hyr hl
  obtain ⟨xwa, xwc, rfl⟩ := row_slice hxw
  obtain ⟨xra, xrc, rfl⟩ := row_slice hxr
  obtain ⟨ywa, ywc, rfl⟩ := row_slice hyw
  obtain ⟨yra, yrc, rfl⟩ := row_slice hyr
  generalize hn1 : xws.length = n1 at hxw hl ⊢
  generalize hn2 : xrs.length = n2 at hxr hl ⊢
  generalize hn3 : yws.length = n3 at hyw ⊢
  generalize hn4 : yrs.length = n4 at hyr ⊢
  have HXW : Seal _ := ⟨hxw⟩
  have HXR : Seal _ := ⟨hxr⟩
  have HYW : Seal _ := ⟨hyw⟩
  have HYR : Seal _ := ⟨hyr⟩
  have HN1 : Seal _ := ⟨hn1⟩
  have HN2 : Seal _ := ⟨hn2⟩
  clear hxw hxr hyw hyr hn1 hn2 hn3 hn4
  unfold sameN NodeV.val
  dsimp only
  have HK : Seal (Keep Nope w ((w.alloc (.cells #[.int .i64 xt, .int .i64 xl, .slice xwa n1 xwc, .slice xra n2 xrc] 41)).alloc (.cells #[.int .i64 yt, .int .i64 yl, .slice ywa n3 ywc, .slice yra n4 yrc] 41))) := ⟨((Keep.refl _ _).alloc _).alloc _⟩
  have HA : Seal (((w.alloc (.cells #[.int .i64 xt, .int .i64 xl, .slice xwa n1 xwc, .slice xra n2 xrc] 41)).alloc (.cells #[.int .i64 yt, .int .i64 yl, .slice ywa n3 ywc, .slice yra n4 yrc] 41)).heap[w.heap.size]? = some (.cells #[.int .i64 xt, .int .i64 xl, .slice xwa n1 xwc, .slice xra n2 xrc] 41)) := ⟨by
    rw [Below.heap_alloc _ _ _ (by simp)]
    exact World.alloc_heap_new w _⟩
  have HB : Seal (((w.alloc (.cells #[.int .i64 xt, .int .i64 xl, .slice xwa n1 xwc, .slice xra n2 xrc] 41)).alloc (.cells #[.int .i64 yt, .int .i64 yl, .slice ywa n3 ywc, .slice yra n4 yrc] 41)).heap[w.heap.size + 1]? = some (.cells #[.int .i64 yt, .int .i64 yl, .slice ywa n3 ywc, .slice yra n4 yrc] 41)) := ⟨by
    have := World.alloc_heap_new (w.alloc (.cells #[.int .i64 xt, .int .i64 xl, .slice xwa n1 xwc, .slice xra n2 xrc] 41)) (.cells #[.int .i64 yt, .int .i64 yl, .slice ywa n3 ywc, .slice yra n4 yrc] 41)
    simpa using this⟩
  by_cases e1 : xt = yt
  · have q1 : (xt == yt) = true := by simp [e1]
    rw [decide_eq_true e1, Bool.true_and]
    clear e1
    by_cases e2 : xl = yl
    · have q2 : (xl == yl) = true := by simp [e2]
      rw [decide_eq_true e2, Bool.true_and]
      clear e2
      obtain ⟨r3, hr3⟩ : ∃ r, decide (xws = yws) = r := ⟨_, rfl⟩
      have HR3 : Seal _ := ⟨hr3⟩
      rw [hr3]
      obtain ⟨r4, hr4⟩ : ∃ r, decide (xrs = yrs) = r := ⟨_, rfl⟩
      have HR4 : Seal _ := ⟨hr4⟩
      rw [hr4]
      clear hr3 hr4
      cases r3 with
      | true =>
        rw [Bool.true_and]
        go_enter Tryd.func32, Tryd.ntmps32
        go_wp2_with (first | (go_at_call 33; refine (EqualWords_R (HXW.out.keep HK.out) (HYW.out.keep HK.out) (by rw [HN1.out]; omega)).mono ?_; rintro e w2 ⟨rfl, hk2⟩; rw [HR3.out]; have ca := keepc hk2 (cell_at HA.out (i := 3) rfl); have cb := keepc hk2 (cell_at HB.out (i := 3) rfl); have HK2 : Seal _ := ⟨hk2⟩; clear hk2) | (go_at_call 34; refine (EqualInts_R ((HXR.out.keep HK.out).keep HK2.out) ((HYR.out.keep HK.out).keep HK2.out) (by rw [HN2.out]; omega)).mono ?_; rintro e w3 ⟨rfl, hk3⟩; rw [HR4.out]; have HK3 : Seal _ := ⟨hk3⟩; clear hk3))
        go_ret
        exact ⟨rfl, (HK.out.then' HK2.out).then' HK3.out⟩
      | false =>
        rw [Bool.false_and]
        go_enter Tryd.func32, Tryd.ntmps32
        go_wp2_with (go_at_call 33; refine (EqualWords_R (HXW.out.keep HK.out) (HYW.out.keep HK.out) (by rw [HN1.out]; omega)).mono ?_; rintro e w2 ⟨rfl, hk2⟩; rw [HR3.out]; have ca := keepc hk2 (cell_at HA.out (i := 3) rfl); have cb := keepc hk2 (cell_at HB.out (i := 3) rfl); have HK2 : Seal _ := ⟨hk2⟩; clear hk2)
        go_ret
        exact ⟨rfl, HK.out.then' HK2.out⟩
    · have q2 : (xl == yl) = false := by simp [e2]
      rw [decide_eq_false e2, Bool.false_and]
      clear e2
      go_enter Tryd.func32, Tryd.ntmps32
      go_wp2
      go_ret
      exact ⟨rfl, HK.out⟩
  · have q1 : (xt == yt) = false := by simp [e1]
    rw [decide_eq_false e1, Bool.false_and]
    clear e1
    go_enter Tryd.func32, Tryd.ntmps32
    go_wp2
    go_ret
    exact ⟨rfl, HK.out⟩

/-- Two rows of nodes say the same. -/
def sameNs (us vs : List NodeV) : Bool := decide (us.length = vs.length ∧ ∀ i, i < us.length → sameN (us.getD i nodeZ) (vs.getD i nodeZ) = true)

set_option maxHeartbeats 4000000 in
theorem EqualNodes_R {us vs : List NodeV} {v u : Value} {w : World} (hv : NodesR w v us) (hu : NodesR w u vs) (hl : us.length ≤ 17592186044416) (hw : ∀ y ∈ us, y.ws.length ≤ 17592186044416 ∧ y.rs.length ≤ 17592186044416) :
    Calls Tryd.prog 40 #[v, u, .func (.func 32) #[] #[]] w fun e w' => e = .returned (.bool (sameNs us vs)) ∧ Keep Nope w w' := by
  obtain ⟨va, vc, rfl, hx⟩ := hv
  obtain ⟨ua, uc, rfl, hy⟩ := hu
  have HX : Seal _ := ⟨hx⟩
  have HY : Seal _ := ⟨hy⟩
  have HL : Seal _ := ⟨hw⟩
  clear hx hy hw
  obtain ⟨N, hN⟩ : ∃ N, us.length = N := ⟨_, rfl⟩
  obtain ⟨M, hM⟩ : ∃ M, vs.length = M := ⟨_, rfl⟩
  have HN : Seal _ := ⟨hN⟩
  have HM : Seal _ := ⟨hM⟩
  rw [hN, hM]
  rw [hN] at hl
  clear hN hM
  by_cases hle : N = M
  · subst hle
    have hl1 : ((N : Int) != (N : Int)) = false := by simp
    obtain ⟨r, hr⟩ : ∃ r, sameNs us vs = r := ⟨_, rfl⟩
    rw [hr]
    have HR : Seal _ := ⟨hr⟩
    clear hr
    go_enter Tryd.func40, Tryd.ntmps40
    go_wp2_with fail
    go_loopw [17] (fun z wr => ∃ j : Nat, j ≤ N ∧ z = .int .i64 (j : Nat) ∧ Seal (∀ i, i < j → sameN (us.getD i nodeZ) (vs.getD i nodeZ) = true) ∧ Keep Nope w wr) (fun z _ => N - (intOf z).toNat)
    case atStart => exact ⟨0, Nat.zero_le _, rfl, ⟨fun i hi => by omega⟩, Keep.refl _ _⟩
    case round =>
      obtain ⟨j, hj, rfl, HE, hk⟩ := hrel
      have HK : Seal _ := ⟨hk⟩
      by_cases hjl : j < N
      · have hjl' : (j : Int) < N := by omega
        obtain ⟨X, hX⟩ : ∃ X, us[j]? = some X := ⟨_, List.getElem?_eq_getElem (by rw [HN.out]; exact hjl)⟩
        obtain ⟨Y, hY⟩ : ∃ Y, vs[j]? = some Y := ⟨_, List.getElem?_eq_getElem (by rw [HM.out]; exact hjl)⟩
        have HXg : Seal (us.getD j nodeZ = X) := ⟨by rw [List.getD_eq_getElem?_getD, hX]; rfl⟩
        have HYg : Seal (vs.getD j nodeZ = Y) := ⟨by rw [List.getD_eq_getElem?_getD, hY]; rfl⟩
        have HLX : Seal _ := ⟨HL.out X (List.mem_of_getElem? hX)⟩
        obtain ⟨b, o, rfl, hb, r0, r1, r2, r3, hn⟩ := HX.out j X hX
        obtain ⟨b', o', rfl, hb', t0, t1, t2, t3, hm⟩ := HY.out j Y hY
        replace r0 := keepc hk r0
        replace r1 := keepc hk r1
        replace r2 := keepc hk r2
        replace r3 := keepc hk r3
        replace t0 := keepc hk t0
        replace t1 := keepc hk t1
        replace t2 := keepc hk t2
        replace t3 := keepc hk t3
        have hb2 : b' < wr.heap.size := Nat.lt_of_lt_of_le hb' hk.size
        have HNX : Seal _ := ⟨hn.keep hk⟩
        have HNY : Seal _ := ⟨hm.keep hk⟩
        clear hk hX hY hn hm
        obtain ⟨q, hq⟩ : ∃ q, sameN X Y = q := ⟨_, rfl⟩
        have HQ : Seal _ := ⟨hq⟩
        clear hq
        obtain ⟨xt, xl, xw, xr, xws, xrs⟩ := X
        obtain ⟨yt, yl, yw, yr, yws, yrs⟩ := Y
        obtain ⟨xwa, xwn, xwc, rfl⟩ := row_form HNX.out.1
        obtain ⟨xra, xrn, xrc, rfl⟩ := row_form HNX.out.2
        obtain ⟨ywa, ywn, ywc, rfl⟩ := row_form HNY.out.1
        obtain ⟨yra, yrn, yrc, rfl⟩ := row_form HNY.out.2
        dsimp only at r0 r1 r2 r3 t0 t1 t2 t3
        have s0 : ∀ ob, (wr.alloc ob).cell? ⟨b', o' + j * 4, none⟩ = some (.int .i64 yt) := fun ob => (World.cell?_alloc_lt _ _ _ hb2).trans t0
        have s1 : ∀ ob, (wr.alloc ob).cell? ⟨b', o' + j * 4 + 1, none⟩ = some (.int .i64 yl) := fun ob => (World.cell?_alloc_lt _ _ _ hb2).trans t1
        have s2 : ∀ ob, (wr.alloc ob).cell? ⟨b', o' + j * 4 + 2, none⟩ = some (.slice ywa ywn ywc) := fun ob => (World.cell?_alloc_lt _ _ _ hb2).trans t2
        have s3 : ∀ ob, (wr.alloc ob).cell? ⟨b', o' + j * 4 + 3, none⟩ = some (.slice yra yrn yrc) := fun ob => (World.cell?_alloc_lt _ _ _ hb2).trans t3
        clear t0 t1 t2 t3
        cases q with
        | true =>
          have HE2 : Seal (∀ i, i < j + 1 → sameN (us.getD i nodeZ) (vs.getD i nodeZ) = true) := ⟨fun i hi => by
            by_cases e : i = j
            · rw [e, HXg.out, HYg.out, HQ.out]
            · exact HE.out i (by omega)⟩
          go_wp2_with (go_at_call 32; refine (SameNode_R (x := ⟨xt, xl, .slice xwa xwn xwc, .slice xra xrn xrc, xws, xrs⟩) (y := ⟨yt, yl, .slice ywa ywn ywc, .slice yra yrn yrc, yws, yrs⟩) (HNX.out.keep (((Keep.refl _ _).alloc _).alloc _)) (HNY.out.keep (((Keep.refl _ _).alloc _).alloc _)) HLX.out).mono ?_; rintro e w2 ⟨rfl, hk2⟩; rw [HQ.out]; have HK2 : Seal (Keep Nope wr w2) := ⟨Keep.then' (((Keep.refl _ _).alloc _).alloc _) hk2⟩; clear hk2)
          exact ⟨⟨j + 1, by omega, by go_num, HE2, HK.out.then' HK2.out⟩, by simp only [intOf]; omega⟩
        | false =>
          have HF : Seal (r = false) := ⟨by
            rw [← HR.out, sameNs, decide_eq_false]
            intro h
            have := h.2 j (by rw [HN.out]; exact hjl)
            rw [HXg.out, HYg.out, HQ.out] at this
            cases this⟩
          go_wp2_with (go_at_call 32; refine (SameNode_R (x := ⟨xt, xl, .slice xwa xwn xwc, .slice xra xrn xrc, xws, xrs⟩) (y := ⟨yt, yl, .slice ywa ywn ywc, .slice yra yrn yrc, yws, yrs⟩) (HNX.out.keep (((Keep.refl _ _).alloc _).alloc _)) (HNY.out.keep (((Keep.refl _ _).alloc _).alloc _)) HLX.out).mono ?_; rintro e w2 ⟨rfl, hk2⟩; rw [HQ.out]; have HK2 : Seal (Keep Nope wr w2) := ⟨Keep.then' (((Keep.refl _ _).alloc _).alloc _) hk2⟩; clear hk2)
          go_ret
          exact ⟨by rw [HF.out]; rfl, HK.out.then' HK2.out⟩
      · have hjl' : ¬ (j : Int) < N := by omega
        have HF : Seal (r = true) := ⟨by
          rw [← HR.out, sameNs, decide_eq_true]
          exact ⟨by rw [HN.out, HM.out], fun i hi => HE.out i (by rw [HN.out] at hi; omega)⟩⟩
        clear hk
        go_wp2
        go_ret
        exact ⟨by rw [HF.out]; rfl, HK.out⟩
  · have hl1 : ((N : Int) != (M : Int)) = true := by simp; omega
    rw [show sameNs us vs = false from decide_eq_false fun h => hle (by rw [← HN.out, ← HM.out, h.1])]
    clear hle
    go_enter Tryd.func40, Tryd.ntmps40
    go_wp2
    go_ret
    exact ⟨rfl, Keep.refl _ _⟩

set_option maxHeartbeats 1000000 in
theorem EqualN_R {us vs : List NodeV} {v u : Value} {w : World} (hv : NodesR w v us) (hu : NodesR w u vs) (hl : us.length ≤ 17592186044416) (hw : ∀ y ∈ us, y.ws.length ≤ 17592186044416 ∧ y.rs.length ≤ 17592186044416) :
    Calls Tryd.prog 31 #[v, u, .func (.func 32) #[] #[]] w fun e w' => e = .returned (.bool (sameNs us vs)) ∧ Keep Nope w w' := by
  have HC : Seal _ := ⟨EqualNodes_R hv hu hl hw⟩
  clear hv hu hl hw
  go_enter Tryd.func31, Tryd.ntmps31
  go_wp2_with (go_at_call 40; refine HC.out.mono ?_; rintro e w2 ⟨rfl, hk⟩; have HK : Seal _ := ⟨hk⟩; clear hk)
  go_ret
  exact ⟨rfl, HK.out⟩

/-- Two graphs say the same. -/
def sameG (a b : GraphV) : Bool := sameNs a.ns b.ns && (decide (a.hs = b.hs) && (decide (a.ps = b.ps) && decide (a.ss = b.ss)))

theorem nodes_form {w : World} {v : Value} {ns : List NodeV} (h : NodesR w v ns) : ∃ a n c, v = .slice a n c := by
  obtain ⟨a, c, h, _⟩ := h
  exact ⟨a, _, c, h⟩

set_option maxHeartbeats 4000000 in
theorem SameGraph_R {a b : GraphV} {w : World} (ha : GraphR w a) (hb : GraphR w b) (hl : GraphL a) :
    Calls Tryd.prog 19 #[a.val, b.val] w fun e w' => e = .returned (.bool (sameG a b)) ∧ Keep Nope w w' := by
  obtain ⟨anv, ahv, apv, asv, ans, ahs, aps, ass⟩ := a
  obtain ⟨bnv, bhv, bpv, bsv, bns, bhs, bps, bss⟩ := b
  obtain ⟨na, ha1, pa, sa⟩ := ha
  obtain ⟨nb, hb1, pb, sb⟩ := hb
  dsimp only at na ha1 pa sa nb hb1 pb sb
  obtain ⟨ana, ann, anc, rfl⟩ := nodes_form na
  obtain ⟨bna, bnn, bnc, rfl⟩ := nodes_form nb
  obtain ⟨aha, ahn, ahc, rfl⟩ := row_form ha1
  obtain ⟨apa, apn, apc, rfl⟩ := row_form pa
  obtain ⟨asa, asn, asc, rfl⟩ := row_form sa
  obtain ⟨bha, bhn, bhc, rfl⟩ := row_form hb1
  obtain ⟨bpa, bpn, bpc, rfl⟩ := row_form pb
  obtain ⟨bsa, bsn, bsc, rfl⟩ := row_form sb
  have HNa : Seal _ := ⟨na⟩
  have HNb : Seal _ := ⟨nb⟩
  have HHa : Seal _ := ⟨ha1⟩
  have HHb : Seal _ := ⟨hb1⟩
  have HPa : Seal _ := ⟨pa⟩
  have HPb : Seal _ := ⟨pb⟩
  have HSa : Seal _ := ⟨sa⟩
  have HSb : Seal _ := ⟨sb⟩
  have HLa : Seal _ := ⟨hl⟩
  clear na nb ha1 hb1 pa pb sa sb hl
  have HK : Seal (Keep Nope w ((w.alloc (.cells #[.slice ana ann anc, .slice aha ahn ahc, .slice apa apn apc, .slice asa asn asc] 25)).alloc (.cells #[.slice bna bnn bnc, .slice bha bhn bhc, .slice bpa bpn bpc, .slice bsa bsn bsc] 25))) := ⟨((Keep.refl _ _).alloc _).alloc _⟩
  have HA : Seal (((w.alloc (.cells #[.slice ana ann anc, .slice aha ahn ahc, .slice apa apn apc, .slice asa asn asc] 25)).alloc (.cells #[.slice bna bnn bnc, .slice bha bhn bhc, .slice bpa bpn bpc, .slice bsa bsn bsc] 25)).heap[w.heap.size]? = some (.cells #[.slice ana ann anc, .slice aha ahn ahc, .slice apa apn apc, .slice asa asn asc] 25)) := ⟨by
    rw [Below.heap_alloc _ _ _ (by simp)]
    exact World.alloc_heap_new w _⟩
  have HB : Seal (((w.alloc (.cells #[.slice ana ann anc, .slice aha ahn ahc, .slice apa apn apc, .slice asa asn asc] 25)).alloc (.cells #[.slice bna bnn bnc, .slice bha bhn bhc, .slice bpa bpn bpc, .slice bsa bsn bsc] 25)).heap[w.heap.size + 1]? = some (.cells #[.slice bna bnn bnc, .slice bha bhn bhc, .slice bpa bpn bpc, .slice bsa bsn bsc] 25)) := ⟨by
    have := World.alloc_heap_new (w.alloc (.cells #[.slice ana ann anc, .slice aha ahn ahc, .slice apa apn apc, .slice asa asn asc] 25)) (.cells #[.slice bna bnn bnc, .slice bha bhn bhc, .slice bpa bpn bpc, .slice bsa bsn bsc] 25)
    simpa using this⟩
  unfold sameG GraphV.val
  dsimp only
  obtain ⟨r1, hr1⟩ : ∃ r, sameNs ans bns = r := ⟨_, rfl⟩
  obtain ⟨r2, hr2⟩ : ∃ r, decide (ahs = bhs) = r := ⟨_, rfl⟩
  obtain ⟨r3, hr3⟩ : ∃ r, decide (aps = bps) = r := ⟨_, rfl⟩
  obtain ⟨r4, hr4⟩ : ∃ r, decide (ass = bss) = r := ⟨_, rfl⟩
  have HR1 : Seal _ := ⟨hr1⟩
  have HR2 : Seal _ := ⟨hr2⟩
  have HR3 : Seal _ := ⟨hr3⟩
  have HR4 : Seal _ := ⟨hr4⟩
  rw [hr1, hr2, hr3, hr4]
  clear hr1 hr2 hr3 hr4
  cases r1 with
  | false =>
    rw [Bool.false_and]
    go_enter Tryd.func19, Tryd.ntmps19
    go_wp2_with (go_at_call 31; refine (EqualN_R (HNa.out.keep HK.out) (HNb.out.keep HK.out) HLa.out.n HLa.out.w).mono ?_; rintro e w2 ⟨rfl, hk⟩; rw [HR1.out]; have a1 := keepc hk (cell_at HA.out (i := 1) rfl); have b1 := keepc hk (cell_at HB.out (i := 1) rfl); have a2 := keepc hk (cell_at HA.out (i := 2) rfl); have b2 := keepc hk (cell_at HB.out (i := 2) rfl); have a3 := keepc hk (cell_at HA.out (i := 3) rfl); have b3 := keepc hk (cell_at HB.out (i := 3) rfl); have HK2 : Seal (Keep Nope w w2) := ⟨HK.out.then' hk⟩; clear hk)
    go_ret
    exact ⟨rfl, HK2.out⟩
  | true =>
    rw [Bool.true_and]
    cases r2 with
    | false =>
      rw [Bool.false_and]
      go_enter Tryd.func19, Tryd.ntmps19
      go_wp2_with (first | (go_at_call 31; refine (EqualN_R (HNa.out.keep HK.out) (HNb.out.keep HK.out) HLa.out.n HLa.out.w).mono ?_; rintro e w2 ⟨rfl, hk⟩; rw [HR1.out]; have a1 := keepc hk (cell_at HA.out (i := 1) rfl); have b1 := keepc hk (cell_at HB.out (i := 1) rfl); have a2 := keepc hk (cell_at HA.out (i := 2) rfl); have b2 := keepc hk (cell_at HB.out (i := 2) rfl); have a3 := keepc hk (cell_at HA.out (i := 3) rfl); have b3 := keepc hk (cell_at HB.out (i := 3) rfl); have HK2 : Seal (Keep Nope w w2) := ⟨HK.out.then' hk⟩; clear hk) | (go_at_call 34; with_reducible refine (EqualInts_R (v := .slice aha ahn ahc) (u := .slice bha bhn bhc) (HHa.out.keep HK2.out) (HHb.out.keep HK2.out) (by have h0 := HLa.out.h; dsimp only at h0; omega)).mono ?_; rintro e w3 ⟨rfl, hk⟩; rw [HR2.out]; replace a2 := keepc hk a2; replace b2 := keepc hk b2; replace a3 := keepc hk a3; replace b3 := keepc hk b3; have HK3 : Seal (Keep Nope w w3) := ⟨HK2.out.then' hk⟩; clear hk))
      go_ret
      exact ⟨rfl, HK3.out⟩
    | true =>
      rw [Bool.true_and]
      cases r3 with
      | false =>
        rw [Bool.false_and]
        go_enter Tryd.func19, Tryd.ntmps19
        go_wp2_with (first | (go_at_call 31; refine (EqualN_R (HNa.out.keep HK.out) (HNb.out.keep HK.out) HLa.out.n HLa.out.w).mono ?_; rintro e w2 ⟨rfl, hk⟩; rw [HR1.out]; have a1 := keepc hk (cell_at HA.out (i := 1) rfl); have b1 := keepc hk (cell_at HB.out (i := 1) rfl); have a2 := keepc hk (cell_at HA.out (i := 2) rfl); have b2 := keepc hk (cell_at HB.out (i := 2) rfl); have a3 := keepc hk (cell_at HA.out (i := 3) rfl); have b3 := keepc hk (cell_at HB.out (i := 3) rfl); have HK2 : Seal (Keep Nope w w2) := ⟨HK.out.then' hk⟩; clear hk) | (go_at_call 34; with_reducible refine (EqualInts_R (v := .slice aha ahn ahc) (u := .slice bha bhn bhc) (HHa.out.keep HK2.out) (HHb.out.keep HK2.out) (by have h0 := HLa.out.h; dsimp only at h0; omega)).mono ?_; rintro e w3 ⟨rfl, hk⟩; rw [HR2.out]; replace a2 := keepc hk a2; replace b2 := keepc hk b2; replace a3 := keepc hk a3; replace b3 := keepc hk b3; have HK3 : Seal (Keep Nope w w3) := ⟨HK2.out.then' hk⟩; clear hk) | (go_at_call 34; with_reducible refine (EqualInts_R (v := .slice apa apn apc) (u := .slice bpa bpn bpc) (HPa.out.keep HK3.out) (HPb.out.keep HK3.out) (by have h0 := HLa.out.p; dsimp only at h0; omega)).mono ?_; rintro e w4 ⟨rfl, hk⟩; rw [HR3.out]; replace a3 := keepc hk a3; replace b3 := keepc hk b3; have HK4 : Seal (Keep Nope w w4) := ⟨HK3.out.then' hk⟩; clear hk))
        go_ret
        exact ⟨rfl, HK4.out⟩
      | true =>
        rw [Bool.true_and]
        go_enter Tryd.func19, Tryd.ntmps19
        go_wp2_with (first | (go_at_call 31; refine (EqualN_R (HNa.out.keep HK.out) (HNb.out.keep HK.out) HLa.out.n HLa.out.w).mono ?_; rintro e w2 ⟨rfl, hk⟩; rw [HR1.out]; have a1 := keepc hk (cell_at HA.out (i := 1) rfl); have b1 := keepc hk (cell_at HB.out (i := 1) rfl); have a2 := keepc hk (cell_at HA.out (i := 2) rfl); have b2 := keepc hk (cell_at HB.out (i := 2) rfl); have a3 := keepc hk (cell_at HA.out (i := 3) rfl); have b3 := keepc hk (cell_at HB.out (i := 3) rfl); have HK2 : Seal (Keep Nope w w2) := ⟨HK.out.then' hk⟩; clear hk) | (go_at_call 34; with_reducible refine (EqualInts_R (v := .slice aha ahn ahc) (u := .slice bha bhn bhc) (HHa.out.keep HK2.out) (HHb.out.keep HK2.out) (by have h0 := HLa.out.h; dsimp only at h0; omega)).mono ?_; rintro e w3 ⟨rfl, hk⟩; rw [HR2.out]; replace a2 := keepc hk a2; replace b2 := keepc hk b2; replace a3 := keepc hk a3; replace b3 := keepc hk b3; have HK3 : Seal (Keep Nope w w3) := ⟨HK2.out.then' hk⟩; clear hk) | (go_at_call 34; with_reducible refine (EqualInts_R (v := .slice apa apn apc) (u := .slice bpa bpn bpc) (HPa.out.keep HK3.out) (HPb.out.keep HK3.out) (by have h0 := HLa.out.p; dsimp only at h0; omega)).mono ?_; rintro e w4 ⟨rfl, hk⟩; rw [HR3.out]; replace a3 := keepc hk a3; replace b3 := keepc hk b3; have HK4 : Seal (Keep Nope w w4) := ⟨HK3.out.then' hk⟩; clear hk) | (go_at_call 34; with_reducible refine (EqualInts_R (v := .slice asa asn asc) (u := .slice bsa bsn bsc) (HSa.out.keep HK4.out) (HSb.out.keep HK4.out) (by have h0 := HLa.out.s; dsimp only at h0; omega)).mono ?_; rintro e w5 ⟨rfl, hk⟩; rw [HR4.out];  have HK5 : Seal (Keep Nope w w5) := ⟨HK4.out.then' hk⟩; clear hk))
        go_ret
        exact ⟨rfl, HK5.out⟩

end Go.Proofs.YtifdhaiihlfomaaDoor
