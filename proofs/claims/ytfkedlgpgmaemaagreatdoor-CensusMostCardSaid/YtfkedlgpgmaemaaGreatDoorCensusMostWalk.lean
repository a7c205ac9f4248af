/-
  The law CensusMost, walked.
-/
import Derived.Test.YtfkedlgpgmaemaaGreatDoorQch
import Derived.Test.YtfkedlgpgmaemaaGreatDoorQbw
set_option linter.unusedVariables false
set_option maxHeartbeats 16000000
namespace Go.Proofs.YtfkedlgpgmaemaaGreatDoor
open Tryz
open Go.RowKit

theorem FO.of_ints{w:World}{v:Value}{len:Nat}{x:Nat->Nat->Int}(h:Bw 3 w v len x):FO w v ((List.range len).map λ i=>(x i 0,x i 1,x i 2)):=by
 obtain⟨a,cap,rfl,h⟩:=h
 refine⟨a,cap,by simp,λ i y hy=>?_⟩
 have hi:=(gE.1 hy).1
 rw[List.length_map,List.length_range] at hi
 rw[List.getElem?_map,List.getElem?_range hi] at hy
 injection hy with hy
 subst hy
 obtain⟨b,o,rfl,-,hc⟩:=h i hi
 refine⟨b,o,rfl,?_,?_,?_⟩
 .have:=(hc 0 (by omega)).1
  rwa [Nat.add_zero] at this
 .have:=(hc 1 (by omega)).1
  rwa [<- Nat.add_assoc] at this
 .have:=(hc 2 (by omega)).1
  rwa [<- Nat.add_assoc] at this

set_option maxRecDepth 20000 in
theorem most_walk(n:Int)(v:Value)(L:List T3)(w:World)(hF:Aq w)(hv:FO w v L):
  Calls prog 4 #[.int .i64 n,v] w λ e w'=>e=.returned (.bool true)/\Kp Aa w w':=by
 have HAlive:Sl (∀ W',Kp Aa w W'->Calls prog 9 #[] W' λ e w'=>e=.returned (.bool true)/\Kp Aa W' w'):=⟨λ W' kk=>alive39 W' (hF.Ad kk)⟩
 have HV:=sE hv
 obtain⟨a,c,rfl,-⟩:=hv
 obtain⟨len,hlen⟩:∃ len,L.length=len:=⟨_,rfl⟩
 rw[hlen] at HV ⊢
 have HL:=sE hlen
 clear hlen hF
 by_cases h60:len<=60
 case neg=>
  have p:(60:Int)<(len:Int):=by omega
  go_enter func4,ntmps4
  go_wp2_with fail
  refine(HAlive.out _ (Kr _ _)).mono ?_
  rintro e w3 ⟨rfl,k3⟩
  go_wp2
  go_ret
  exact⟨rfl,k3⟩
 case pos=>
  have p:¬ (60:Int)<(len:Int):=by omega
  go_enter func4,ntmps4
  go_wp2_with (at_builtin;obtain ⟨i0,hi,hz0,hz1,hz2⟩:=info_parts FU;go_loud (refine FM _ rfl (.const (.slice none 0 0)) (.tmp 10) 34 rfl 67 i0 Eg hi hz0 hz1 hz2 w.heap.size _ 0 [] rfl (World.ownsRow_nil _ _ _ _) _ L rfl HV.out (by rw[HL.out];omega) (Nat.le_refl _) ?_);intro v1 w1 hown hgrow hat;clear hi hz0 hz1 hz2 hat)
  have HO1:Sl (w1.ownsRow w.heap.size 67 3 v1 L.length (Br L)):=⟨by rwa [Nat.zero_add,List.nil_append] at hown⟩
  have K1:Sl (Kp Aa w w1):=⟨(Kr Aa w).grown hgrow (λ k e hk=>by cases e)⟩
  have HR1:Sl (Df w1 v1 L):=⟨Df.Be HO1.out⟩
  clear hown hgrow
  refine(CMost_at w1 n v1 L HR1.out (by rw[HL.out];omega)).mono ?_
  rintro e w2 ⟨v2,rfl,hr2,k2⟩
  have HR2:=sE hr2
  have K2:Sl (Kp Aa w1 w2):=⟨k2⟩
  clear hr2 k2
  go_wp2_with fail
  refine(RMost_at w2 n _ L (HV.out.Ad (K1.out.then' K2.out)) (by rw[HL.out];omega)).mono ?_
  rintro e w3 ⟨v3,rfl,hr3,k3⟩
  have HR3:=sE hr3
  have K3:Sl (Kp Aa w2 w3):=⟨k3⟩
  have HLen:Sl (((Cb Fq L).take n.toNat).length<=9223372036854775806):=⟨by
   rw[List.length_take,(FN Fq L).length_eq,HL.out]
   omega⟩
  clear hr3 k3
  go_wp2_with fail
  refine(FR _ _ _ _ (HR2.out.Ad K3.out) HR3.out HLen.out).mono ?_
  rintro e w4 ⟨rfl,k4⟩
  have K4:Sl (Kp Aa w1 w4):=⟨K2.out.then' (K3.out.then' k4)⟩
  clear k4
  go_wp2_with fail
  refine(SameKeeps_any L _ _ _ (HR1.out.Ad K4.out).to (HV.out.Ad (K1.out.then' K4.out)) (by rw[HL.out];omega)).mono ?_
  rintro e w5 ⟨rfl,k5⟩
  have K5:Sl (Kp Aa w w5):=⟨K1.out.then' (K4.out.then' k5)⟩
  clear k5
  go_wp2_with fail
  refine(HAlive.out _ K5.out).mono ?_
  rintro e w6 ⟨rfl,k6⟩
  go_wp2
  go_ret
  exact⟨rfl,K5.out.then' k6⟩

end Go.Proofs.YtfkedlgpgmaemaaGreatDoor
