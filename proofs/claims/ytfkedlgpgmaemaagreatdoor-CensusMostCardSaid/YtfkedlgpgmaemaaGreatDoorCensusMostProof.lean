/-
  The law CensusMost returns true, whatever its input, and leaves its arguments as they were: the row proved, under the condition that the row lists (the table of a header's fields lies as the program's text lays it). The walk is in CensusMostWalk, the condition's reading in HeadLaid.
-/
import Derived.Test.YtfkedlgpgmaemaaGreatDoorRows
import Derived.Test.YtfkedlgpgmaemaaGreatDoorCensusMostWalk
import Derived.Test.YtfkedlgpgmaemaaGreatDoorQay
import Derived.WalkKit
import Derived.ProofKit
import Derived.OpenShut
set_option linter.unusedVariables false
set_option maxHeartbeats 16000000
namespace Go.Proofs.YtfkedlgpgmaemaaGreatDoor.censusMost
open Go.Proofs.Tryz
open Go.ChangeShapes Go.WideShapes Go.ChangeAt Go.RowKit

theorem own:ownKnob prog.godebug=none:=by kernel_rfl

theorem laidOut:laidOutB prog=true:=by kernel_rfl

theorem types:typesB prog f4.params.toList=true:=by kernel_rfl

theorem door_met(os:Os)(args:Array Value):laidMetH prog laidL ((World.doorLaid prog 400 os).forCall (λ _ _=>0) ⟨#[],args,[]⟩).memory:=
 laidMetH_of_parts3 (fuel:=8) (laidMet_of_run' 8 (by kernel_rfl) (by kernel_rfl)) (by kernel_rfl) (by kernel_rfl)

set_option maxRecDepth 100000 in
theorem lifted(os:Os)(started:os.Started)(H:Type)(enc:TypeId×Value->H):
  ReturnsInHanded {} checked os 4 .any (λ w args=>(Rows.censusMostSpec.pre enc prog f4 [] false w args/\laidMetH prog laidL w)/\sizedMet enc prog f4 (OpenSpec.ofChange Rows.censusMostSpec) false w args)
   (Rows.censusMostSpec.post enc prog f4 false true false false):=by
 refine returnsInHanded_of_change_and (C:=checked) (X:=λ w _=>laidMetH prog laidL w) (λ _ _ _ hh h=>h.of_heap hh) own started (by kernel_rfl) func4
  (ChangeSpec.witness_shaped (enc:=enc) (C:=checked) (os:=os) (X:=λ w _=>laidMetH prog laidL w) false (World.doorLaid prog 400 os) #[.int .i64 0,.slice none 0 0] 8 rfl (World.shaped_of_RefB (by kernel_rfl) (by kernel_rfl)) (by kernel_rfl) (by kernel_rfl) (by kernel_rfl) (door_met os _)) ?_
 intro W base args ds gs before hval0 hW hcnd hwt hL _
 have hval:∀ (j:Nat) t v,f4.params[j]?=some t->args[j]?=some v->Value.okWide prog W .any base t v:=hval0
 have hlt:=hW.lt
 have hW':=hW
 obtain⟨p,q,hA0,hV,rfl,hfz,hnd⟩:=hW
 have hA:DataW.TrodAll enc prog W 0 (λ _=>true) true f4.params.toList args.toList ds p:=hA0
 have hAll:=hA
 rw[params4] at hA hval
 obtain⟨v0,vs0,d0,ds0,p0,q0,hargs,rfl,rfl,h0,r0⟩:=trodAll_cons hA
 obtain⟨v1,vs1,d1,ds1,p1,q1,rfl,rfl,rfl,h1,r1⟩:=trodAll_cons r0
 obtain⟨rfl,rfl,rfl⟩:=trodAll_nil r1
 obtain rfl:args=#[v0,v1]:=by cases args;simp_all
 obtain⟨rfl,rfl⟩:=trodVars_none hV
 obtain⟨a0,rfl,rfl,rfl,w0⟩:=open_int underlying3 (hval 0 3 v0 rfl rfl) h0
 obtain⟨lk1,xk1,ik1⟩:=open_intstructs underlying34 underlying67 (by kernel_rfl) (by kernel_rfl) (by decide) (by intro j f hj;rcases j with _|_|_|j <;> simp at hj <;> subst hj <;> exact underlying3) (okWide_slice underlying34 (hval 1 34 v1 rfl rfl)) h1
 clear hA0 hval0
 have HF:=fields_of_laid hL
 refine(most_walk a0 v1 _ W HF (FO.of_ints ik1)).mono λ e W' ⟨he,hg⟩=>?_
 subst he
 exact⟨_,rfl,hg.post (pv:=[]) hW' (λ _ _ _=>(trodAll_cons_mk (shut_bool underlying4 _) trodAll_mk0))
  (λ sp hs=>hg.trodArgs laidOut types hAll (λ x hx=>hlt x (List.mem_append_left _ hx)) (λ x hx=>hs x (List.mem_append_left _ hx))) (λ _ _=>rfl)
  (ok_one (by kernel_rfl) rfl (okWide_bool_mk underlying4 _))⟩

theorem over:Rows.CensusMostSaid:=
 OpenClaim.holds_of_wide 4 f4 rfl rfl rfl rfl rfl rfl rfl ⟨rfl,rfl,rfl,rfl,rfl⟩ rfl rfl rfl rfl rfl (by kernel_rfl) func4 (by kernel_rfl)
  (of_decide_eq_true (by kernel_rfl)) (by unfold Func.isWrapper;first|(rw [if_pos (by decide +kernel)];kernel_rfl)|(rw [if_neg (by decide +kernel)];exact ⟨rfl,rfl⟩))
  (λ os started H enc _=>lifted os started H enc)

end Go.Proofs.YtfkedlgpgmaemaaGreatDoor.censusMost
