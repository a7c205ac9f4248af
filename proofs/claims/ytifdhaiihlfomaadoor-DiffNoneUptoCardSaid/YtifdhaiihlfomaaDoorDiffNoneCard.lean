/-
  The law DiffNone returns true, whatever its input of bulk at most 1048576, and leaves its arguments as they were: the row of the second form, and its tied card. The walk is in DiNone.
-/
import Derived.Test.YtifdhaiihlfomaaDoorDiUpto
import Derived.Test.YtifdhaiihlfomaaDoorDiNone
import Derived.Test.YtifdhaiihlfomaaDoorTie
import Derived.Test.YtifdhaiihlfomaaDoorCards
import Derived.SevenTiedAt
namespace Go.Proofs.YtifdhaiihlfomaaDoor.diffNone
open Go.ChangeShapes Go.WideShapes Go.ChangeAt Go.RowKit Go.Conc
set_option linter.unusedVariables false

theorem types : typesB Tryd.prog Tryd.f4.params.toList = true := by kernel_rfl
def wit : Value := .agg #[.slice none 0 0, .slice none 0 0, .slice none 0 0, .slice none 0 0]
theorem reads (os : Os) {H : Type} (enc : TypeId × Value → H) : ∃ places, DataW.whole enc Tryd.prog ((World.doorLaid Tryd.prog 400 os).forCall (fun _ _ => 0) ⟨#[], #[wit, wit], []⟩).memory Tryd.f4.params.toList Rows.diffNoneSpec.vars false #[wit, wit].toList 8 = some ([.agg [.nil, .nil, .nil, .nil], .agg [.nil, .nil, .nil, .nil]], [], places) :=
  ⟨[], by kernel_rfl⟩

set_option maxRecDepth 100000 in
theorem lifted (os : Os) (started : os.Started) (H : Type) (enc : TypeId × Value → H) (F : Stop.Interp) :
    ReturnsInLeavingWide {} Tryd.checked os 4 .any ((Rows.OpenSpec.upto Rows.diffNoneSpec).preRow enc Tryd.prog Tryd.f4 Rows.diffNoneUptoRow.domain false Rows.diffNoneUptoRow.laid) (((Rows.OpenSpec.upto Rows.diffNoneSpec).at F).post enc Tryd.prog Tryd.f4 false true false false) := by
  obtain ⟨places, hx⟩ := reads os enc
  have hok : Input.okWideB Tryd.prog ((World.doorLaid Tryd.prog 400 os).forCall (fun _ _ => 0) ⟨#[], #[wit, wit], []⟩) 4 ⟨#[], #[wit, wit], []⟩ = true := by kernel_rfl
  refine leavingWide_of_row (C := Tryd.checked) (s := Rows.OpenSpec.upto Rows.diffNoneSpec) own started Tryd.func4
    ⟨World.doorLaid Tryd.prog 400 os, fun _ _ => 0, ⟨#[], #[wit, wit], []⟩, rfl, World.shaped_of_RefB (by kernel_rfl) (by kernel_rfl), (Input.okWide_of_okWideB (base := 0) hok).1, (Input.okWide_of_okWideB hok).2,
      OpenSpec.preRow_of_cond 8 hx (by kernel_rfl) (fun k hk => by cases hk; kernel_rfl) (by kernel_rfl) (door_met os _), by
      simp only [Assume.holds]
      exact ⟨by simp, by simp, fun _ => Modest.zero, by simp, by simp⟩⟩ ?_
  intro W base args ds gs before hval0 hW hcnd hk hwt
  have hb := bulk_of (hk _ rfl)
  have hval : ∀ (j : Nat) t v, Tryd.f4.params[j]? = some t → args[j]? = some v → Value.okWide Tryd.prog W .any base t v := hval0
  have hlt := hW.lt
  have hW' := hW
  obtain ⟨p, q, hA0, hV, rfl, hfz, hnd⟩ := hW
  have hA : DataW.TrodAll enc Tryd.prog W 0 (fun _ => true) true Tryd.f4.params.toList args.toList ds p := hA0
  have hAll := hA
  rw [Tryd.params4] at hA hval
  obtain ⟨v0, vs0, d0, ds0, p0, q0, hargs, rfl, rfl, h0, r0⟩ := trodAll_cons hA
  obtain ⟨v1, vs1, d1, ds1, p1, q1, rfl, rfl, rfl, h1, r1⟩ := trodAll_cons r0
  obtain ⟨rfl, rfl, rfl⟩ := trodAll_nil r1
  obtain rfl : args = #[v0, v1] := by cases args; simp_all
  obtain ⟨rfl, rfl⟩ := trodVars_none hV
  have b0 : Rows.uptoBulk d0 ≤ 1048576 := Nat.le_trans (bulk_part (List.mem_append_left _ List.mem_cons_self)) hb
  have b1 : Rows.uptoBulk d1 ≤ 1048576 := Nat.le_trans (bulk_part (List.mem_append_left _ (List.mem_cons_of_mem _ List.mem_cons_self))) hb
  obtain ⟨x, rfl, hx, hl, hxb⟩ := open_graphB bulk_ok (hval 0 _ v0 rfl rfl) h0 (fun x hx => by have := List.all_eq_true.1 hwt x (DataW.weights_mem_each (j := 0) (t := 25) (d := d0) rfl rfl x hx); simpa using this) b0
  obtain ⟨y, rfl, hy, hl2, hyb⟩ := open_graphB bulk_ok (hval 1 _ v1 rfl rfl) h1 (fun x hx => by have := List.all_eq_true.1 hwt x (DataW.weights_mem_each (j := 1) (t := 25) (d := d1) rfl rfl x hx); simpa using this) b1
  clear hA0 hval0
  obtain ⟨M, last, o, w', t', e1, e2, e3, e4⟩ := drive_ends (Post := fun v w' => v = .bool true ∧ Older W w') (none_T hx hl hxb hy hl2 hyb)
  refine ⟨M, last, o, w', t', e1, e2, e3, e4.mono fun v hv => ?_⟩
  obtain ⟨rfl, hO⟩ := hv
  have hg := hO.keep
  exact post_tape (hg.post (pv := []) hW' (fun _ _ _ => (trodAll_cons_mk (shut_bool Tryd.underlying4 _) trodAll_mk0))
    (fun sp hs => hg.trodArgs laidOut types hAll (fun x hx => hlt x (List.mem_append_left _ hx)) (fun x hx => hs x (List.mem_append_left _ hx))) (fun _ _ => rfl)
    (ok_one (by kernel_rfl) rfl (okWide_bool_mk Tryd.underlying4 _)))

theorem over : Rows.DiffNoneUptoSaid :=
  holds_of_cond_leaving 4 Tryd.f4 rfl rfl rfl rfl rfl rfl rfl ⟨rfl, rfl, rfl, rfl, rfl⟩ rfl rfl rfl rfl rfl (by kernel_rfl) Tryd.func4 (by kernel_rfl)
    (of_decide_eq_true (by kernel_rfl)) (by unfold Func.isWrapper; first | (rw [if_pos (by decide +kernel)]; kernel_rfl) | (rw [if_neg (by decide +kernel)]; exact ⟨rfl, rfl⟩))
    (fun os started H enc _ F => by rw [OpenClaim.pre_eq_preRow]; exact lifted os started H enc F)

end Go.Proofs.YtifdhaiihlfomaaDoor.diffNone

namespace Go.Proofs.YtifdhaiihlfomaaDoor
open Go

/-- The builder of a tied card, for a row whose call starts goroutines. -/
theorem holds_tied_goes (Lk : Looks) {p : Pinned} {s : OpenSpec} {c : OpenClaim} (kinds : List LaidKind) (tests : Bool) (har : Bool × String) (lk : Bool)
    (hc : c.holds p s) (hw : c.wfByText s = true) (htie : c.laidByTextAt Lk p kinds tests)
    (hst : c.start = .entering) (hnb : c.noBlocks = false ∧ c.again = false) (hm : p.checked.prog.mainIs = some (har.1, har.2.toList)) (hn : (!har.1 && har.2.isEmpty && !lk) = false)
    (hl : ∀ f fn, p.checked.prog.funcNamed c.func = some f → p.checked.prog.funcs[f]? = some fn → lk = p.checked.prog.looks [] ∧ ∀ (j : Nat) t, fn.params[j]? = some t → p.checked.prog.wantsStandIn t = false)
    (hg : true = c.goesBy p.checked.prog) :
    Claim7.holds p (.plain s) { stood := { row := c, standIns := [], harness := har, looks := lk }, kinds := [], alts := [], goes := true, laidByText := true, laidKinds := kinds, laidTests := tests, laidLooks := Lk } := by
  have h6 : ∀ r : OpenClaim, Claim7.isSixth { stood := { row := r, standIns := [], harness := har, looks := lk }, kinds := [] } = false := fun r => by simpa [Claim7.isSixth] using hn
  exact ⟨Claim7.tied_new_at Lk kinds tests (Claim7.new_of_sixth hc har lk hst hnb hm (h6 c) hl) hw, fun D hD => (by cases hD), htie, (fun h => by cases h), hg⟩

end Go.Proofs.YtifdhaiihlfomaaDoor

namespace Go.Proofs.YtifdhaiihlfomaaDoor.diffNone
open Go

theorem proved : Rows.DiffNoneUptoCardSaid :=
  holds_tied_goes .later [.data, .data, .data] true (true, "d2e102bd121b1355a72a23b82e6b6b23dd9095df01534741a0b49ef88d3a6766") false
    over (by kernel_rfl) diffNoneUpto_row_tie rfl ⟨rfl, rfl⟩ (by kernel_rfl) rfl
    (fun f fn hf hfn => by
      obtain rfl : f = 4 := Option.some.inj ((show Tryd.prog.funcNamed "skerry/skerrylaw38.DiffNone" = some 4 by kernel_rfl).symm.trans hf) |>.symm
      obtain rfl : fn = Tryd.f4 := (Option.some.inj (Tryd.func4.symm.trans hfn)).symm
      exact ⟨by kernel_rfl, fun j t ht => by
        rw [Tryd.params4] at ht
        have hm : t ∈ [25, 25] := by simpa using Array.mem_of_getElem? ht
        have hall : ([25, 25].all fun u => !Tryd.prog.wantsStandIn u) = true := by kernel_rfl
        exact (show Tryd.prog.wantsStandIn t = false by simpa using List.all_eq_true.1 hall t hm)⟩)
    (by kernel_rfl)

end Go.Proofs.YtifdhaiihlfomaaDoor.diffNone
