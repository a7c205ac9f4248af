/-
  A row's last step behind a call that at most laid new blocks ('Keep Nope'), whatever is frozen among the new ones.
-/
import Derived.Test.YtpjcgjbobljaeaaKeep
import Derived.ChangeSame
namespace Go.Proofs.Ytpjcgjbobljaeaa
open Go.RowKit Go.WideShapes Go.ChangeShapes
set_option linter.unusedVariables false

theorem Keep.post {H : Type} {enc : TypeId × Value → H} {P : Program} {f : Func} {s : ChangeSpec} {apart fresh handsOn again : Bool} {W W' : World} {args : Array Value} {v : Value} {ds gs : List (DataW H)} {pa pv : List MemPlace}
    (k : Keep Nope W W') (hW : DataW.Whole enc P f.params.toList s.vars apart W args.toList ds gs (pa ++ pv))
    (hr : ∀ (b : Nat) (sp : Nat → Bool) (hd : Bool), DataW.TrodAll enc P W' b sp hd f.resultTypes.toList (v.resultList f.resultTypes.size) (s.fn H (ds ++ gs)).results [])
    (ha : ∀ sp : Nat → Bool, (∀ p ∈ pa ++ pv, sp p.block = true) → DataW.TrodAll enc P W' 0 sp true f.params.toList args.toList (s.fn H (ds ++ gs)).args pa)
    (hv : ∀ sp : Nat → Bool, (∀ p ∈ pa ++ pv, sp p.block = true) → DataW.TrodVars enc P W' sp s.vars (s.fn H (ds ++ gs)).vars pv)
    (ho : ∀ (j : Nat) (t : TypeId) (r : Value), f.resultTypes[j]? = some t → (v.resultList f.resultTypes.size)[j]? = some r → Value.okWide P W' .any 0 t r) :
    s.post enc P f apart fresh handsOn again W args v W' := by
  have old : ∀ p ∈ pa ++ pv, p.block < W.heap.size := fun p hp => hW.lt p hp
  have below := k.below_not
  have whole := trodAll_append (ha (fun _ => true) (fun _ _ => rfl)) (hr 0 (fun _ => true) true)
  refine ⟨ds, gs, pa ++ pv, [], pa, pv, hW, hr _ _ _, ha _ (fun p hp => decide_eq_true (old p hp)), hv _ (fun p hp => decide_eq_true (old p hp)),
    World.keptBut_mono (fun p hp => ⟨hp, .inr (List.mem_append.1 hp)⟩) (below.frame (· ∈ pa ++ pv)), fun _ => ⟨ho, (s.fn H (ds ++ gs)).results ++ (s.fn H (ds ++ gs)).args, (s.fn H (ds ++ gs)).vars, pa ++ pv, ?_, fun p hp _ => hp⟩⟩
  obtain ⟨_, _, _, _, _, hz, hn⟩ := hW
  exact ⟨pa, pv, whole, hv _ (fun _ _ => rfl), rfl, fun b off hp => (below.frozen (old _ hp)).trans (hz b off hp), fun e => hn e⟩

end Go.Proofs.Ytpjcgjbobljaeaa
