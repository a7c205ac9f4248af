/-
  diff.Count, walked: a map from types to how many nodes there are.
-/
import Derived.Test.YtifdhaiihlfomaaDoorDiPart
import Derived.Carry
import Derived.Maps.Own
namespace Go.Proofs.YtifdhaiihlfomaaDoor
open Go Go.RowKit Go.Maps
set_option linter.unusedVariables false

theorem wfT {g : Int} (h0 : -9223372036854775808 ≤ g) (h : g < 9223372036854775808) : (Lit.int .i64 g).wf = true := by
  have h1 : IntKind.i64.min = -9223372036854775808 := by decide
  have h2 : IntKind.i64.max = 9223372036854775807 := by decide
  simp only [Lit.wf, h1, h2, Bool.and_eq_true, decide_eq_true_eq]
  omega
/-- A map of at most n keys (in memory's words): c tells how often each is there; none that is not. -/
def TypIn (w : World) (b n : Nat) (c : Int → Nat) : Prop :=
  ∃ D : DataW Unit, w.ownsMap Tryd.prog 3 (plainElem Tryd.prog 3) b n D ∧ ∀ g : Int, has D (.int .i64 g) = decide (0 < c g) ∧ D.atKey (.int .i64 g) (.lit (.int .i64 0)) = .lit (.int .i64 (c g : Nat))
theorem zeroT (w : World) : (zeroValue 3).run Tryd.prog w = .ok (.int .i64 0) w := by kernel_rfl
theorem TypIn.made (w : World) : TypIn (w.alloc (.map #[] 0)) w.heap.size 0 (fun _ => 0) := ⟨.map [], World.ownsMap_made w _ _ _, fun g => ⟨rfl, rfl⟩⟩
theorem TypIn.lt {w : World} {b n : Nat} {c : Int → Nat} (h : TypIn w b n c) : b < w.heap.size := by
  obtain ⟨D, h1, -⟩ := h
  exact h1.lt
theorem TypIn.keep {S : Nat → Prop} {w w' : World} {b n : Nat} {c : Int → Nat} (h : TypIn w b n c) (k : Keep S w w') (hb : ¬ S b) : TypIn w' b n c := by
  obtain ⟨D, ⟨es, clock, h1, h2⟩, h3⟩ := h
  exact ⟨D, ⟨es, clock, k.at_ h1 hb, h2⟩, h3⟩
theorem TypIn.look {w : World} {b n : Nat} {c : Int → Nat} (h : TypIn w b n c) {g : Int} (h0 : -9223372036854775808 ≤ g) (hg : g < 9223372036854775808) :
    (Instr.lookup 37 (.map (some b)) (.int .i64 g) false).run Tryd.prog w = .ok (.int .i64 (c g : Nat)) w := by
  obtain ⟨D, h1, h2⟩ := h
  obtain ⟨x, hrun, hat, -⟩ := h1.lookup_int (int_keyed Tryd.underlying3) Tryd.underlying37 Tryd.underlying3 (zeroT w) (keyOf_int_mk Tryd.underlying3 (wfT h0 hg))
  rw [(h2 g).2] at hat
  have : ((c g : Nat) : Int) = x := by injection hat with hat; injection hat
  rw [hrun, this]
theorem TypIn.put {w : World} {b n : Nat} {c : Int → Nat} (h : TypIn w b n c) (hn : n < maxLen) {g : Int} {v : Nat} (h0 : -9223372036854775808 ≤ g) (hg : g < 9223372036854775808) (hv : v < 9223372036854775808) (hv0 : 0 < v) :
    ∃ w', (Instr.mapUpdate 37 (.map (some b)) (.int .i64 g) (.int .i64 (v : Nat))).run Tryd.prog w = .ok () w' ∧ TypIn w' b (n + 1) (fun x => if x = g then v else c x) ∧ Keep (fun k => k = b) w w' := by
  obtain ⟨D, h1, h2⟩ := h
  have K := int_keyed Tryd.underlying3
  have hkk := keyOf_int_mk Tryd.underlying3 (wfT h0 hg)
  obtain ⟨w', hrun, ho, hgr⟩ := h1.update K Tryd.underlying37 hn hkk (plainElem_int Tryd.underlying3 (wfT (g := (v : Int)) (by omega) (by omega)))
  have hne : ∀ x : Int, x ≠ g → (Lit.int .i64 x) ≠ Lit.int .i64 g := fun x e h => by
    injection h with _ h
    omega
  refine ⟨w', hrun, ⟨_, ho, fun x => ?_⟩, (Keep.refl _ w).grown hgr (fun k e _ => by injection e with e; exact e.symm)⟩
  by_cases ex : x = g
  · subst ex
    rw [Maps.atKey_put_same h1.isMap (K.key hkk), Maps.has_put_same h1.isMap (K.key hkk)]
    simp
    omega
  · rw [Maps.atKey_put_other (hne x ex), Maps.has_put_other (hne x ex), (h2 x).1, (h2 x).2]
    simp [ex]

/-- How many nodes of a type. -/
def cntT (ns : List NodeV) (g : Int) : Nat := (ns.filter fun y => decide (y.ty = g)).length
theorem cntT_snoc {ns : List NodeV} {j : Nat} {y : NodeV} (h : ns[j]? = some y) : cntT (ns.take (j + 1)) = fun x => if x = y.ty then cntT (ns.take j) y.ty + 1 else cntT (ns.take j) x := by
  funext x
  unfold cntT
  rw [List.take_add_one, h, Option.toList_some, List.filter_append, List.length_append]
  by_cases e : x = y.ty
  · subst e
    simp
  · rw [if_neg e, List.filter_cons_of_neg (by simpa using fun h => e h.symm)]
    simp
theorem cntT_le (ns : List NodeV) (g : Int) : cntT ns g ≤ ns.length := List.length_filter_le _ _

section
attribute [local go_sem] run_makeMap
set_option maxRecDepth 20000 in
set_option maxHeartbeats 4000000 in
theorem Count_R {x : GraphV} {w : World} (hx : GraphR w x) (hl : x.ns.length ≤ 1000000) (ht : ∀ y ∈ x.ns, -9223372036854775808 ≤ y.ty ∧ y.ty < 9223372036854775808) :
    Calls Tryd.prog 17 #[x.val] w fun e w' => ∃ b, e = .returned (.map (some b)) ∧ TypIn w' b x.ns.length (cntT x.ns) ∧ w.heap.size ≤ b ∧ Keep Nope w w' := by
  obtain ⟨xnv, xhv, xpv, xsv, xns, xhs, xps, xss⟩ := x
  obtain ⟨na, ha1, pa, sa⟩ := hx
  dsimp only at na ha1 pa sa hl ht
  obtain ⟨xha, xhn, xhc, rfl⟩ := row_form ha1
  obtain ⟨xpa, xpn, xpc, rfl⟩ := row_form pa
  obtain ⟨xsa, xsn, xsc, rfl⟩ := row_form sa
  obtain ⟨xna, xnc, rfl, hnx⟩ := na
  obtain ⟨N, hN⟩ : ∃ N, xns.length = N := ⟨_, rfl⟩
  have HN : Seal _ := ⟨hN⟩
  have HX : Seal _ := ⟨hnx⟩
  have HT : Seal _ := ⟨ht⟩
  rw [hN] at hl
  unfold GraphV.val
  dsimp only
  rw [hN]
  clear hnx hN ha1 pa sa ht
  have ka : Keep Nope w (w.alloc (.cells #[.slice xna N xnc, .slice xha xhn xhc, .slice xpa xpn xpc, .slice xsa xsn xsc] 25)) := (Keep.refl _ _).alloc _
  have x1 := World.alloc_heap_new w (.cells #[.slice xna N xnc, .slice xha xhn xhc, .slice xpa xpn xpc, .slice xsa xsn xsc] 25)
  have KA : Seal _ := ⟨ka⟩
  have k2 : Keep Nope w ((w.alloc (.cells #[.slice xna N xnc, .slice xha xhn xhc, .slice xpa xpn xpc, .slice xsa xsn xsc] 25)).alloc (.map #[] 0)) := ka.alloc _
  have KM : Seal _ := ⟨k2⟩
  have hm0 := TypIn.made (w.alloc (.cells #[.slice xna N xnc, .slice xha xhn xhc, .slice xpa xpn xpc, .slice xsa xsn xsc] 25))
  rw [show (w.alloc (.cells #[.slice xna N xnc, .slice xha xhn xhc, .slice xpa xpn xpc, .slice xsa xsn xsc] 25)).heap.size = w.heap.size + 1 by simp] at hm0
  have HM0 : Seal (TypIn ((w.alloc (.cells #[.slice xna N xnc, .slice xha xhn xhc, .slice xpa xpn xpc, .slice xsa xsn xsc] 25)).alloc (.map #[] 0)) (w.heap.size + 1) 0 (cntT (xns.take 0))) := ⟨hm0⟩
  have c0 : ((w.alloc (.cells #[.slice xna N xnc, .slice xha xhn xhc, .slice xpa xpn xpc, .slice xsa xsn xsc] 25)).alloc (.map #[] 0)).cell? ⟨w.heap.size, 0, none⟩ = some (.slice xna N xnc) := by
    have := keepc ((Keep.refl Nope _).alloc (.map #[] 0)) (cell_at x1 (i := 0) rfl)
    exact this
  clear ka k2 hm0 x1
  go_enter Tryd.func17, Tryd.ntmps17
  go_wp2_with fail
  clear c0
  go_loopw [10] (fun zi wr => ∃ j : Nat, j ≤ N ∧ zi = .int .i64 (j : Nat) ∧ Seal (TypIn wr (w.heap.size + 1) j (cntT (xns.take j))) ∧ Seal (Keep Nope w wr) ∧ Seal (w.heap.size + 2 ≤ wr.heap.size)) (fun zi _ => N - (intOf zi).toNat)
  case atStart => exact ⟨0, Nat.zero_le _, rfl, HM0, KM, ⟨by simp⟩⟩
  case round =>
    obtain ⟨j, hj, rfl, HTj, HKj, HZj⟩ := hrel
    by_cases hjl : j < N
    · have hjl' : (j : Int) < (N : Int) := by omega
      obtain ⟨X, hX⟩ : ∃ X, xns[j]? = some X := ⟨_, List.getElem?_eq_getElem (by rw [HN.out]; exact hjl)⟩
      obtain ⟨b, o, rfl, hb, r0, r1, r2, r3, hn⟩ := HX.out j X hX
      replace r0 := keepc HKj.out r0
      replace r1 := keepc HKj.out r1
      replace r2 := keepc HKj.out r2
      replace r3 := keepc HKj.out r3
      have htx := HT.out X (List.mem_of_getElem? hX)
      have hsn := cntT_snoc hX
      have hcl := cntT_le (xns.take j) X.ty
      rw [List.length_take, HN.out] at hcl
      obtain ⟨xt, xl, xw, xr, xws, xrs⟩ := X
      obtain ⟨xwa, xwn, xwc, rfl⟩ := row_form hn.1
      obtain ⟨xra, xrn, xrc, rfl⟩ := row_form hn.2
      dsimp only at r0 r1 r2 r3 htx hsn hcl
      have hin := HTj.out.keep ((Keep.refl Nope wr).alloc (.cells #[.int .i64 xt, .int .i64 xl, .slice xwa xwn xwc, .slice xra xrn xrc] 41)) (fun h => h)
      have hlk := hin.look htx.1 htx.2
      obtain ⟨cc, hcc⟩ : ∃ cc, cntT (xns.take j) xt = cc := ⟨_, rfl⟩
      rw [hcc] at hlk hsn hcl
      have e1 : IntKind.i64.wrap ((cc : Int) + 1) = (cc : Int) + 1 := by rw [IntKind.wrap_i64]; omega
      obtain ⟨w5, hrun, hput, hk5⟩ := hin.put (by unfold maxLen; omega) htx.1 htx.2 (v := cc + 1) (by omega) (by omega)
      rw [Int.natCast_add, Int.natCast_one] at hrun
      rw [← hsn] at hput
      have HP5 : Seal _ := ⟨hput⟩
      have HZ5 : Seal (w.heap.size + 2 ≤ w5.heap.size) := ⟨by have := hk5.size; have := HZj.out; simp at *; omega⟩
      have HK5 : Seal (Keep Nope w w5) := ⟨(HKj.out.alloc _).trans hk5 (fun i hi (e : i = _) => by omega)⟩
      clear hin hput hk5 hX hn hb htx hsn hcl hcc hj
      go_wp2_with fail
      exact ⟨⟨j + 1, by omega, by go_num, HP5, HK5, HZ5⟩, by simp only [intOf]; omega⟩
    · obtain rfl : j = N := by omega
      have hjl' : ¬ (j : Int) < (j : Int) := by omega
      have HE : Seal (xns.take j = xns) := ⟨List.take_of_length_le (by rw [HN.out]; exact Nat.le_refl _)⟩
      clear hjl hj
      go_wp2_with fail
      go_ret
      exact ⟨_, rfl, by rw [← HE.out]; exact HTj.out, by omega, HKj.out⟩
end

end Go.Proofs.YtifdhaiihlfomaaDoor
