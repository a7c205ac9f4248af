/-
  skerrylaw38.Long: is a graph more than a statement looks at?
-/
import Derived.Test.YtifdhaiihlfomaaDoorDiSame
namespace Go.Proofs.YtifdhaiihlfomaaDoor
open Go Go.RowKit
set_option linter.unusedVariables false

/-- How much there is, of the first i nodes' rows. -/
def sizeTo (x : GraphV) (i : Nat) : Nat := x.hs.length + x.ps.length + x.ss.length + x.ns.length + ((x.ns.take i).map fun y => y.ws.length + y.rs.length).sum
def longB (x : GraphV) : Bool := decide (600 < sizeTo x (min x.ns.length 300))
theorem sizeTo_succ {x : GraphV} {i : Nat} {y : NodeV} (h : x.ns[i]? = some y) : sizeTo x (i + 1) = sizeTo x i + y.ws.length + y.rs.length := by
  unfold sizeTo
  rw [List.take_add_one, h, List.map_append, List.sum_append]
  simp only [Option.toList_some, List.map_cons, List.map_nil, List.sum_cons, List.sum_nil]
  omega
theorem sizeTo_le {x : GraphV} (h : GraphL x) (i : Nat) : sizeTo x i ≤ 70368744177664 + i * 35184372088832 := by
  induction i with
  | zero =>
    have h1 := h.n
    have h2 := h.h
    have h3 := h.p
    have h4 := h.s
    have e : sizeTo x 0 = x.hs.length + x.ps.length + x.ss.length + x.ns.length := rfl
    omega
  | succ i ih =>
    cases e : x.ns[i]? with
    | none =>
      have e2 : x.ns.take (i + 1) = x.ns.take i := by rw [List.take_add_one, e]; simp only [Option.toList_none, List.append_nil]
      have e3 : sizeTo x (i + 1) = sizeTo x i := by unfold sizeTo; rw [e2]
      omega
    | some y =>
      rw [sizeTo_succ e]
      have := h.w y (List.mem_of_getElem? e)
      omega

set_option maxHeartbeats 4000000 in
theorem Long_R {x : GraphV} {w : World} (hx : GraphR w x) (hb : GraphL x) :
    Calls Tryd.prog 6 #[x.val] w fun e w' => e = .returned (.bool (longB x)) ∧ Keep Nope w w' := by
  have HB : Seal _ := ⟨hb⟩
  have HS : Seal (∀ i, sizeTo x i ≤ 70368744177664 + i * 35184372088832) := ⟨sizeTo_le hb⟩
  have HSu : Seal (∀ i y, x.ns[i]? = some y → sizeTo x (i + 1) = sizeTo x i + y.ws.length + y.rs.length) := ⟨fun i y h => sizeTo_succ h⟩
  obtain ⟨hna, ha1, pa, sa⟩ := hx
  obtain ⟨ana, anc, hn1, hx⟩ := hna
  obtain ⟨aha, ahc, hh1⟩ := row_slice ha1
  obtain ⟨apa, apc, hp1⟩ := row_slice pa
  obtain ⟨asa, asc, hs1⟩ := row_slice sa
  have HX : Seal _ := ⟨hx⟩
  have hbn := hb.n
  have hbh := hb.h
  have hbp := hb.p
  have hbs := hb.s
  obtain ⟨S0, hS0⟩ : ∃ S0, sizeTo x 0 = S0 := ⟨_, rfl⟩
  have hS0' : S0 = x.hs.length + x.ps.length + x.ss.length + x.ns.length := by
    rw [← hS0]
    unfold sizeTo
    simp only [List.take_zero, List.map_nil, List.sum_nil]
    omega
  unfold GraphV.val longB
  rw [hn1, hh1, hp1, hs1]
  clear hx ha1 pa sa hb hn1 hh1 hp1 hs1
  obtain ⟨N, hN⟩ : ∃ N, x.ns.length = N := ⟨_, rfl⟩
  obtain ⟨nh, hnh⟩ : ∃ N, x.hs.length = N := ⟨_, rfl⟩
  obtain ⟨np, hnp⟩ : ∃ N, x.ps.length = N := ⟨_, rfl⟩
  obtain ⟨ns, hns⟩ : ∃ N, x.ss.length = N := ⟨_, rfl⟩
  rw [hN, hnh, hnp, hns] at hS0' ⊢
  rw [hN] at hbn
  rw [hnh] at hbh
  rw [hnp] at hbp
  rw [hns] at hbs
  have HN : Seal _ := ⟨hN⟩
  have HS0 : Seal _ := ⟨hS0⟩
  clear hN hnh hnp hns hS0
  obtain ⟨r, hr⟩ : ∃ r, decide (600 < sizeTo x (min N 300)) = r := ⟨_, rfl⟩
  rw [hr]
  have HR : Seal _ := ⟨hr⟩
  clear hr
  have g1 : IntKind.i64.wrap ((nh : Int) + (np : Int)) = (nh : Int) + np := by rw [IntKind.wrap_i64]; omega
  have g2 : IntKind.i64.wrap ((nh : Int) + (np : Int) + (ns : Int)) = (nh : Int) + np + ns := by rw [IntKind.wrap_i64]; omega
  have g3 : IntKind.i64.wrap ((nh : Int) + (np : Int) + (ns : Int) + (N : Int)) = (S0 : Int) := by rw [IntKind.wrap_i64]; omega
  have HA : Seal ((w.alloc (.cells #[.slice ana N anc, .slice aha nh ahc, .slice apa np apc, .slice asa ns asc] 25)).heap[w.heap.size]? = some (.cells #[.slice ana N anc, .slice aha nh ahc, .slice apa np apc, .slice asa ns asc] 25)) := ⟨World.alloc_heap_new w _⟩
  have HK : Seal (Keep Nope w (w.alloc (.cells #[.slice ana N anc, .slice aha nh ahc, .slice apa np apc, .slice asa ns asc] 25))) := ⟨(Keep.refl _ _).alloc _⟩
  go_enter Tryd.func6, Tryd.ntmps6
  go_wp2_with fail
  have HT : Seal (Value.int .i64 ((nh : Int) + (np : Int) + (ns : Int) + (N : Int)) = .int .i64 ((sizeTo x 0 : Nat) : Int)) := ⟨by rw [HS0.out]; congr 1; omega⟩
  clear g1 g2 g3 hS0'
  go_loopw [3, 4] (fun v z wr => ∃ j s : Nat, (j ≤ N ∧ j ≤ 300) ∧ v = .int .i64 (s : Nat) ∧ z = .int .i64 (j : Nat) ∧ Seal (sizeTo x j = s) ∧ Keep Nope (w.alloc (.cells #[.slice ana N anc, .slice aha nh ahc, .slice apa np apc, .slice asa ns asc] 25)) wr) (fun _ z _ => 300 - (intOf z).toNat)
  case atStart => exact ⟨0, sizeTo x 0, ⟨Nat.zero_le _, by omega⟩, HT.out, rfl, ⟨rfl⟩, Keep.refl _ _⟩
  case round =>
    obtain ⟨j, s, ⟨hj1, hj2⟩, rfl, rfl, HSj, hk⟩ := hrel
    have c0 := keepc hk (cell_at HA.out (i := 0) rfl)
    have HKr : Seal (Keep Nope (w.alloc (.cells #[.slice ana N anc, .slice aha nh ahc, .slice apa np apc, .slice asa ns asc] 25)) wr) := ⟨hk⟩
    by_cases h1 : j < N
    · have h1' : (j : Int) < (N : Int) := by omega
      by_cases h2 : j < 300
      · have h2' : (j : Int) < 300 := by omega
        obtain ⟨X, hX⟩ : ∃ X, x.ns[j]? = some X := ⟨_, List.getElem?_eq_getElem (by rw [HN.out]; exact h1)⟩
        obtain ⟨b, o, rfl, hb', r0, r1, r2, r3, hn⟩ := HX.out j X hX
        replace r2 := keepc (HK.out.then' hk) r2
        replace r3 := keepc (HK.out.then' hk) r3
        have hsj := HSj.out
        have hsu := HSu.out j X hX
        have hsl := HS.out j
        have hwl := HB.out.w X (List.mem_of_getElem? hX)
        obtain ⟨xwa, xwc, hxw⟩ := row_slice hn.1
        obtain ⟨xra, xrc, hxr⟩ := row_slice hn.2
        rw [hxw] at r2
        rw [hxr] at r3
        obtain ⟨aw, haw⟩ : ∃ a, X.ws.length = a := ⟨_, rfl⟩
        obtain ⟨ar, har⟩ : ∃ a, X.rs.length = a := ⟨_, rfl⟩
        rw [haw] at r2 hsu hwl
        rw [har] at r3 hsu hwl
        have e1 : IntKind.i64.wrap ((s : Int) + (aw : Int)) = ((s + aw : Nat) : Int) := by rw [IntKind.wrap_i64]; omega
        have e2 : IntKind.i64.wrap (((s + aw : Nat) : Int) + (ar : Int)) = ((s + aw + ar : Nat) : Int) := by rw [IntKind.wrap_i64]; omega
        have e1' : IntKind.i64.wrap ((s : Int) + (aw : Int)) = (s : Int) + aw := by rw [IntKind.wrap_i64]; omega
        have e2' : IntKind.i64.wrap ((s : Int) + (aw : Int) + (ar : Int)) = (s : Int) + aw + ar := by rw [IntKind.wrap_i64]; omega
        have HS2 : Seal (sizeTo x (j + 1) = s + aw + ar) := ⟨by omega⟩
        clear e1 e2 hk hX hb' r0 r1 hn hsj hsu hsl hwl hxw hxr haw har
        go_wp2_with fail
        go_quiet (fail)
        go_wp2
        exact ⟨⟨j + 1, s + aw + ar, ⟨by omega, by omega⟩, by simp, by go_num, HS2, HKr.out.then' (Keep.of_drewN _)⟩, by simp only [intOf]; omega⟩
      · have h2' : ¬ (j : Int) < 300 := by omega
        have hjm : min N 300 = j := by omega
        by_cases hq : 600 < s
        · have hq' : (600 : Int) < (s : Int) := by omega
          have HF : Seal (r = true) := ⟨by rw [← HR.out, hjm, HSj.out, decide_eq_true hq]⟩
          clear hq hk hjm
          go_wp2
          go_ret
          exact ⟨by rw [HF.out]; rfl, HK.out.then' HKr.out⟩
        · have hq' : ¬ (600 : Int) < (s : Int) := by omega
          have HF : Seal (r = false) := ⟨by rw [← HR.out, hjm, HSj.out, decide_eq_false hq]⟩
          clear hq hk hjm
          go_wp2
          go_ret
          exact ⟨by rw [HF.out]; rfl, HK.out.then' HKr.out⟩
    · have h1' : ¬ (j : Int) < (N : Int) := by omega
      have hjm : min N 300 = j := by omega
      by_cases hq : 600 < s
      · have hq' : (600 : Int) < (s : Int) := by omega
        have HF : Seal (r = true) := ⟨by rw [← HR.out, hjm, HSj.out, decide_eq_true hq]⟩
        clear hq hk hjm
        go_wp2
        go_ret
        exact ⟨by rw [HF.out]; rfl, HK.out.then' HKr.out⟩
      · have hq' : ¬ (600 : Int) < (s : Int) := by omega
        have HF : Seal (r = false) := ⟨by rw [← HR.out, hjm, HSj.out, decide_eq_false hq]⟩
        clear hq hk hjm
        go_wp2
        go_ret
        exact ⟨by rw [HF.out]; rfl, HK.out.then' HKr.out⟩

end Go.Proofs.YtifdhaiihlfomaaDoor
