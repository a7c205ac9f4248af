/-
  The law SlideTells returns true, whatever its input, and leaves its arguments as they were: the row proved, under the condition that the row lists (the table of a header's fields lies as the program's text lays it). The walk is in SlideTellsWalk, the condition's reading in HeadLaid.
-/
import Derived.Test.YtmfajopmppfldaaGreatDoorRows
import Derived.Test.YtmfajopmppfldaaGreatDoorSlideTellsWalk
import Derived.Test.YtmfajopmppfldaaGreatDoorQav
import Derived.Test.YtmfajopmppfldaaGreatDoorQbg
import Derived.WalkKit
import Derived.ProofKit
import Derived.OpenShut
set_option linter.unusedVariables false
set_option maxHeartbeats 16000000
namespace Go.Proofs.YtmfajopmppfldaaGreatDoor.slideTells
open Go.Proofs.Tryz
open Go.ChangeShapes Go.WideShapes Go.ChangeAt Go.RowKit

theorem own:ownKnob prog.godebug=none:=by kernel_rfl

theorem laidOut:laidOutB prog=true:=by kernel_rfl

theorem types:typesB prog f5.params.toList=true:=by kernel_rfl

theorem door_met(os:Os)(args:Array Value):laidMetH prog laidL ((World.doorLaid prog 400 os).forCall (λ _ _=>0) ⟨#[],args,[]⟩).memory:=
 laidMetH_of_parts3 (fuel:=8) (laidMet_of_run' 8 (by kernel_rfl) (by kernel_rfl)) (by kernel_rfl) (by kernel_rfl)

set_option maxRecDepth 100000 in
theorem lifted(os:Os)(started:os.Started)(H:Type)(enc:TypeId×Value->H):
  ReturnsInHanded {} checked os 5 .any (λ w args=>(Rows.slideTellsSpec.pre enc prog f5 [] false w args/\laidMetH prog laidL w)/\sizedMet enc prog f5 (OpenSpec.ofChange Rows.slideTellsSpec) false w args)
   (Rows.slideTellsSpec.post enc prog f5 false true false false):=by
 refine returnsInHanded_of_change_and (C:=checked) (X:=λ w _=>laidMetH prog laidL w) (λ _ _ _ hh h=>h.of_heap hh) own started (by kernel_rfl) func5
  (ChangeSpec.witness_shaped (enc:=enc) (C:=checked) (os:=os) (X:=λ w _=>laidMetH prog laidL w) false (World.doorLaid prog 400 os) #[.int .i64 0,.slice none 0 0,.slice none 0 0,.slice none 0 0,.slice none 0 0,.agg #[.slice none 0 0],.bool false] 8 rfl (World.shaped_of_RefB (by kernel_rfl) (by kernel_rfl)) (by kernel_rfl) (by kernel_rfl) (by kernel_rfl) (door_met os _)) ?_
 intro W base args ds gs before hval0 hW hcnd hwt hL _
 have hval:∀ (j:Nat) t v,f5.params[j]?=some t->args[j]?=some v->Value.okWide prog W .any base t v:=hval0
 have hlt:=hW.lt
 have hW':=hW
 obtain⟨p,q,hA0,hV,rfl,hfz,hnd⟩:=hW
 have hA:DataW.TrodAll enc prog W 0 (λ _=>true) true f5.params.toList args.toList ds p:=hA0
 have hAll:=hA
 rw[params5] at hA hval
 obtain⟨v0,vs0,d0,ds0,p0,q0,hargs,rfl,rfl,h0,r0⟩:=trodAll_cons hA
 obtain⟨v1,vs1,d1,ds1,p1,q1,rfl,rfl,rfl,h1,r1⟩:=trodAll_cons r0
 obtain⟨v2,vs2,d2,ds2,p2,q2,rfl,rfl,rfl,h2,r2⟩:=trodAll_cons r1
 obtain⟨v3,vs3,d3,ds3,p3,q3,rfl,rfl,rfl,h3,r3⟩:=trodAll_cons r2
 obtain⟨v4,vs4,d4,ds4,p4,q4,rfl,rfl,rfl,h4,r4⟩:=trodAll_cons r3
 obtain⟨v5,vs5,d5,ds5,p5,q5,rfl,rfl,rfl,h5,r5⟩:=trodAll_cons r4
 obtain⟨v6,vs6,d6,ds6,p6,q6,rfl,rfl,rfl,h6,r6⟩:=trodAll_cons r5
 obtain⟨rfl,rfl,rfl⟩:=trodAll_nil r6
 obtain rfl:args=#[v0,v1,v2,v3,v4,v5,v6]:=by cases args;simp_all
 obtain⟨rfl,rfl⟩:=trodVars_none hV
 obtain⟨a0,rfl,rfl,rfl,w0⟩:=open_int underlying3 (hval 0 3 v0 rfl rfl) h0
 obtain⟨xs1,hxs1,hlx1,hms1⟩:=open_types7 underlying22 underlying86 (by kernel_rfl) (by kernel_rfl) (of_decide_eq_true (by kernel_rfl)) underlying5 underlying3 underlying55 (okWide_slice underlying22 (hval 1 22 v1 rfl rfl)) h1 (λ x hx=>by have:=List.all_eq_true.1 hwt x (DataW.weights_mem_each (j:=1) (t:=22) (d:=d1) rfl rfl x hx);simpa using this)
 obtain⟨len2,dd2,gg2,ii2,nn2,yy2,uu2,mm2,hst2,hls2,hsy2,hsa2⟩:=open_steps7 underlying23 underlying84 (by kernel_rfl) (by kernel_rfl) (of_decide_eq_true (by kernel_rfl)) underlying3 underlying3 underlying3 underlying3 underlying55 underlying82 underlying3 (by kernel_rfl) (by kernel_rfl) (okWide_slice underlying23 (hval 2 23 v2 rfl rfl)) h2 (λ x hx=>by have:=List.all_eq_true.1 hwt x (DataW.weights_mem_each (j:=2) (t:=23) (d:=d2) rfl rfl x hx);simpa using this)
 obtain⟨lu3,fu3,hu3,hl3⟩:=open_bytes9 underlying24 underlying5 (by kernel_rfl) (of_decide_eq_true (by kernel_rfl)) (okWide_slice underlying24 (hval 3 24 v3 rfl rfl)) h3 (λ x hx=>by have:=List.all_eq_true.1 hwt x (DataW.weights_mem_each (j:=3) (t:=24) (d:=d3) rfl rfl x hx);simpa using this)
 obtain⟨lu4,fu4,hu4,hl4⟩:=open_bytes9 underlying24 underlying5 (by kernel_rfl) (of_decide_eq_true (by kernel_rfl)) (okWide_slice underlying24 (hval 4 24 v4 rfl rfl)) h4 (λ x hx=>by have:=List.all_eq_true.1 hwt x (DataW.weights_mem_each (j:=4) (t:=24) (d:=d4) rfl rfl x hx);simpa using this)
 obtain⟨pv5,es5,rfl,hp5⟩:=open_plan (hval 5 33 v5 rfl rfl) h5 (λ x hx=>by have:=List.all_eq_true.1 hwt x (DataW.weights_mem_each (j:=5) (t:=33) (d:=d5) rfl rfl x hx);simpa using this)
 obtain⟨tb6,rfl,-⟩:=open_bool underlying4 (hval 6 4 v6 rfl rfl) h6
 clear hA0 hval0
 have HF:=fields_of_laid hL
 refine(slidetells_walk a0 v1 v2 v3 v4 pv5 tb6 xs1 len2 dd2 gg2 ii2 nn2 yy2 uu2 mm2 lu3 fu3 lu4 fu4 es5 W HF hxs1 hst2 hlx1 hms1 hls2 hsy2 hsa2 hu3 hl3 hu4 hl4 hp5.1 hp5.2).mono λ e W' ⟨he,hg⟩=>?_
 subst he
 exact⟨_,rfl,hg.post (pv:=[]) hW' (λ _ _ _=>(trodAll_cons_mk (shut_bool underlying4 _) trodAll_mk0))
  (λ sp hs=>hg.trodArgs laidOut types hAll (λ x hx=>hlt x (List.mem_append_left _ hx)) (λ x hx=>hs x (List.mem_append_left _ hx))) (λ _ _=>rfl)
  (ok_one (by kernel_rfl) rfl (okWide_bool_mk underlying4 _))⟩

theorem over:Rows.SlideTellsSaid:=
 OpenClaim.holds_of_wide 5 f5 rfl rfl rfl rfl rfl rfl rfl ⟨rfl,rfl,rfl,rfl,rfl⟩ rfl rfl rfl rfl rfl (by kernel_rfl) func5 (by kernel_rfl)
  (of_decide_eq_true (by kernel_rfl)) (by unfold Func.isWrapper;first|(rw [if_pos (by decide +kernel)];kernel_rfl)|(rw [if_neg (by decide +kernel)];exact ⟨rfl,rfl⟩))
  (λ os started H enc _=>lifted os started H enc)

end Go.Proofs.YtmfajopmppfldaaGreatDoor.slideTells
