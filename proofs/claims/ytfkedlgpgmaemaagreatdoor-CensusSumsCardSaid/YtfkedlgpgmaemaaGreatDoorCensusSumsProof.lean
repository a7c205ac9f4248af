/-
  The law CensusSums returns true, whatever its input, and leaves its arguments as they were: the row proved, under the condition that the row lists (the table of a header's fields lies as the program's text lays it). The walk is in CensusSumsWalk, the condition's reading in HeadLaid.
-/
import Derived.Test.YtfkedlgpgmaemaaGreatDoorRows
import Derived.Test.YtfkedlgpgmaemaaGreatDoorCensusSumsWalk
import Derived.Test.YtfkedlgpgmaemaaGreatDoorQay
import Derived.WalkKit
import Derived.ProofKit
import Derived.OpenShut
set_option linter.unusedVariables false
set_option maxHeartbeats 16000000
namespace Go.Proofs.YtfkedlgpgmaemaaGreatDoor
open Go.RowKit Go.WideShapes Go.ChangeShapes

theorem Kp.below {S : Nat → Prop} {a b : World} (h : Kp S a b) {B : Nat} (hB : B ≤ a.heap.size) (hs : ∀ k, k < B → ¬ S k) : Below B a b :=
  ⟨h.os, h.tape, h.output, h.size, fun k hk => h.block k (by omega) (hs k hk)⟩

theorem Kp.below_not {a b : World} (h : Kp Aa a b) : Below a.heap.size a b := h.below (Nat.le_refl _) (fun _ _ hf => hf)

theorem Kp.post {H : Type} {enc : TypeId × Value → H} {P : Program} {f : Func} {s : ChangeSpec} {apart fresh handsOn again : Bool} {W W' : World} {args : Array Value} {v : Value} {ds gs : List (DataW H)} {pa pv : List MemPlace}
    (k : Kp Aa W W') (hW : DataW.Whole enc P f.params.toList s.vars apart W args.toList ds gs (pa ++ pv))
    (hr : ∀ (b : Nat) (sp : Nat → Bool) (hd : Bool), DataW.TrodAll enc P W' b sp hd f.resultTypes.toList (v.resultList f.resultTypes.size) (s.fn H (ds ++ gs)).results [])
    (ha : ∀ sp : Nat → Bool, (∀ p ∈ pa ++ pv, sp p.block = true) → DataW.TrodAll enc P W' 0 sp true f.params.toList args.toList (s.fn H (ds ++ gs)).args pa)
    (hv : ∀ sp : Nat → Bool, (∀ p ∈ pa ++ pv, sp p.block = true) → DataW.TrodVars enc P W' sp s.vars (s.fn H (ds ++ gs)).vars pv)
    (ho : ∀ (j : Nat) (t : TypeId) (r : Value), f.resultTypes[j]? = some t → (v.resultList f.resultTypes.size)[j]? = some r → Value.okWide P W' .any 0 t r) :
    s.post enc P f apart fresh handsOn again W args v W' := by
  have old : ∀ p ∈ pa ++ pv, p.block < W.heap.size := fun p hp => hW.lt p hp
  have below := k.below_not
  have whole := trodAll_append (ha (fun _ => true) (fun _ _ => rfl)) (hr 0 (fun _ => true) true)
  refine ⟨ds, gs, pa ++ pv, [], pa, pv, hW, hr _ _ _, ha _ (fun p hp => decide_eq_true (old p hp)), hv _ (fun p hp => decide_eq_true (old p hp)),
    World.keptBut_mono (fun p hp => ⟨hp, .inr (List.mem_append.1 hp)⟩) (below.frame (· ∈ pa ++ pv)), fun _ => ⟨ho, (s.fn H (ds ++ gs)).results ++ (s.fn H (ds ++ gs)).args, (s.fn H (ds ++ gs)).vars, pa ++ pv, ?_, fun p hp _ => hp⟩⟩
  obtain ⟨_, _, _, _, _, hz, hn⟩ := hW
  exact ⟨pa, pv, whole, hv _ (fun _ _ => rfl), rfl, fun b off hp => (below.frozen (old _ hp)).trans (hz b off hp), fun e => hn e⟩

theorem Kp.trodAll {H : Type} {enc : TypeId × Value → H} {P : Program} {W W' : World} (k : Kp Aa W W') (hl : laidOutB P = true) {sp : Nat → Bool} : ∀ {ts : List TypeId} {vs : List Value} {ds : List (DataW H)} {ps : List MemPlace}, (∀ t ∈ ts, P.readableRec t = true ∧ t < P.types.size) →
    DataW.TrodAll enc P W 0 (fun _ => true) true ts vs ds ps → (∀ x ∈ ps, x.block < W.heap.size) → (∀ x ∈ ps, sp x.block = true) → DataW.TrodAll enc P W' 0 sp true ts vs ds ps
  | [], [], [], _, _, h, _, _ => h
  | t :: ts, v :: vs, d :: ds, ps, ht, h, hb, hs => by
    obtain ⟨p, q, h1, h2, e⟩ := h
    subst e
    have ht0 := ht t (by simp)
    exact ⟨p, q, WideElems.Trod_stays hl ht0.1 ht0.2 h1 (fun x hx => k.below_not.same (hb x (by simp [hx]))) (fun x hx => hs x (by simp [hx])),
      Kp.trodAll k hl (fun u hu => ht u (by simp [hu])) h2 (fun x hx => hb x (by simp [hx])) (fun x hx => hs x (by simp [hx])), rfl⟩

theorem Kp.trodArgs {H : Type} {enc : TypeId × Value → H} {P : Program} {W W' : World} (k : Kp Aa W W') (hl : laidOutB P = true) {sp : Nat → Bool} {ts : List TypeId} {vs : List Value} {ds : List (DataW H)} {ps : List MemPlace} (ht : typesB P ts = true)
    (h : DataW.TrodAll enc P W 0 (fun _ => true) true ts vs ds ps) (hb : ∀ x ∈ ps, x.block < W.heap.size) (hs : ∀ x ∈ ps, sp x.block = true) : DataW.TrodAll enc P W' 0 sp true ts vs ds ps :=
  k.trodAll hl (fun t hm => by have := List.all_eq_true.1 ht t hm; simpa using this) h hb hs

end Go.Proofs.YtfkedlgpgmaemaaGreatDoor

namespace Go.Proofs.YtfkedlgpgmaemaaGreatDoor.censusSums
open Go.Proofs.Tryz
open Go.ChangeShapes Go.WideShapes Go.ChangeAt Go.RowKit

theorem own:ownKnob prog.godebug=none:=by kernel_rfl

theorem laidOut:laidOutB prog=true:=by kernel_rfl

theorem types:typesB prog f6.params.toList=true:=by kernel_rfl

theorem door_met(os:Os)(args:Array Value):laidMetH prog laidL ((World.doorLaid prog 400 os).forCall (λ _ _=>0) ⟨#[],args,[]⟩).memory:=
 laidMetH_of_parts3 (fuel:=8) (laidMet_of_run' 8 (by kernel_rfl) (by kernel_rfl)) (by kernel_rfl) (by kernel_rfl)

set_option maxRecDepth 100000 in
theorem lifted(os:Os)(started:os.Started)(H:Type)(enc:TypeId×Value->H):
  ReturnsInHanded {} checked os 6 .any (λ w args=>(Rows.censusSumsSpec.pre enc prog f6 [] false w args/\laidMetH prog laidL w)/\sizedMet enc prog f6 (OpenSpec.ofChange Rows.censusSumsSpec) false w args)
   (Rows.censusSumsSpec.post enc prog f6 false true false false):=by
 refine returnsInHanded_of_change_and (C:=checked) (X:=λ w _=>laidMetH prog laidL w) (λ _ _ _ hh h=>h.of_heap hh) own started (by kernel_rfl) func6
  (ChangeSpec.witness_shaped (enc:=enc) (C:=checked) (os:=os) (X:=λ w _=>laidMetH prog laidL w) false (World.doorLaid prog 400 os) #[.int .i64 0,.slice none 0 0,.slice none 0 0,.slice none 0 0,.int .u8 0] 8 rfl (World.shaped_of_RefB (by kernel_rfl) (by kernel_rfl)) (by kernel_rfl) (by kernel_rfl) (by kernel_rfl) (door_met os _)) ?_
 intro W base args ds gs before hval0 hW hcnd hwt hL _
 have hval:∀ (j:Nat) t v,f6.params[j]?=some t->args[j]?=some v->Value.okWide prog W .any base t v:=hval0
 have hlt:=hW.lt
 have hW':=hW
 obtain⟨p,q,hA0,hV,rfl,hfz,hnd⟩:=hW
 have hA:DataW.TrodAll enc prog W 0 (λ _=>true) true f6.params.toList args.toList ds p:=hA0
 have hAll:=hA
 rw[params6] at hA hval
 obtain⟨v0,vs0,d0,ds0,p0,q0,hargs,rfl,rfl,h0,r0⟩:=trodAll_cons hA
 obtain⟨v1,vs1,d1,ds1,p1,q1,rfl,rfl,rfl,h1,r1⟩:=trodAll_cons r0
 obtain⟨v2,vs2,d2,ds2,p2,q2,rfl,rfl,rfl,h2,r2⟩:=trodAll_cons r1
 obtain⟨v3,vs3,d3,ds3,p3,q3,rfl,rfl,rfl,h3,r3⟩:=trodAll_cons r2
 obtain⟨v4,vs4,d4,ds4,p4,q4,rfl,rfl,rfl,h4,r4⟩:=trodAll_cons r3
 obtain⟨rfl,rfl,rfl⟩:=trodAll_nil r4
 obtain rfl:args=#[v0,v1,v2,v3,v4]:=by cases args;simp_all
 obtain⟨rfl,rfl⟩:=trodVars_none hV
 obtain⟨a0,rfl,rfl,rfl,w0⟩:=open_int underlying3 (hval 0 3 v0 rfl rfl) h0
 obtain⟨xs1,hxs1,hlx1,hms1⟩:=open_types7 underlying22 underlying106 (by kernel_rfl) (by kernel_rfl) (of_decide_eq_true (by kernel_rfl)) underlying5 underlying3 underlying79 (okWide_slice underlying22 (hval 1 22 v1 rfl rfl)) h1 (λ x hx=>by have:=List.all_eq_true.1 hwt x (DataW.weights_mem_each (j:=1) (t:=22) (d:=d1) rfl rfl x hx);simpa using this)
 obtain⟨len2,dd2,gg2,ii2,nn2,yy2,uu2,mm2,hst2,hls2,hsy2,hsa2⟩:=open_steps7 underlying23 underlying104 (by kernel_rfl) (by kernel_rfl) (of_decide_eq_true (by kernel_rfl)) underlying3 underlying3 underlying3 underlying3 underlying79 underlying24 underlying3 (by kernel_rfl) (by kernel_rfl) (okWide_slice underlying23 (hval 2 23 v2 rfl rfl)) h2 (λ x hx=>by have:=List.all_eq_true.1 hwt x (DataW.weights_mem_each (j:=2) (t:=23) (d:=d2) rfl rfl x hx);simpa using this)
 obtain⟨lu3,fu3,hu3⟩:=open_bytes8 underlying25 underlying5 (by kernel_rfl) (okWide_slice underlying25 (hval 3 25 v3 rfl rfl)) h3
 obtain⟨a4,rfl,rfl,rfl,w4⟩:=open_int underlying5 (hval 4 5 v4 rfl rfl) h4
 obtain⟨b4,rfl,hb4⟩:=u8_nat w4
 clear hA0 hval0
 have HF:=fields_of_laid hL
 refine(sums_walk a0 v1 v2 v3 b4 xs1 len2 dd2 gg2 ii2 nn2 yy2 uu2 mm2 lu3 fu3 W HF hxs1 hst2 hlx1 hms1 hls2 hsy2 hsa2 hu3 hb4).mono λ e W' ⟨he,hg⟩=>?_
 subst he
 exact⟨_,rfl,hg.post (pv:=[]) hW' (λ _ _ _=>(trodAll_cons_mk (shut_bool underlying4 _) trodAll_mk0))
  (λ sp hs=>hg.trodArgs laidOut types hAll (λ x hx=>hlt x (List.mem_append_left _ hx)) (λ x hx=>hs x (List.mem_append_left _ hx))) (λ _ _=>rfl)
  (ok_one (by kernel_rfl) rfl (okWide_bool_mk underlying4 _))⟩

theorem over:Rows.CensusSumsSaid:=
 OpenClaim.holds_of_wide 6 f6 rfl rfl rfl rfl rfl rfl rfl ⟨rfl,rfl,rfl,rfl,rfl⟩ rfl rfl rfl rfl rfl (by kernel_rfl) func6 (by kernel_rfl)
  (of_decide_eq_true (by kernel_rfl)) (by unfold Func.isWrapper;first|(rw [if_pos (by decide +kernel)];kernel_rfl)|(rw [if_neg (by decide +kernel)];exact ⟨rfl,rfl⟩))
  (λ os started H enc _=>lifted os started H enc)

end Go.Proofs.YtfkedlgpgmaemaaGreatDoor.censusSums
