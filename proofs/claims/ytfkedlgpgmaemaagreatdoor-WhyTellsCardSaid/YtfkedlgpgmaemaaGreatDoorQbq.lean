/-
  Lemmas for the laws, together: CenJ, DocZ, WhyJ.
-/
import Derived.Test.YtfkedlgpgmaemaaGreatDoorQbn
import Derived.Test.YtfkedlgpgmaemaaGreatDoorQbj
import Derived.Maps.RangeWalk
import Derived.Test.YtfkedlgpgmaemaaGreatDoorProg
import Derived.Test.YtfkedlgpgmaemaaGreatDoorQak
import Derived.BigGuard
import Derived.BigCall
import Derived.CellFam
import Derived.Deep.Draws
import Derived.Test.YtfkedlgpgmaemaaGreatDoorQaz
import Derived.Test.YtfkedlgpgmaemaaGreatDoorQbm
import Derived.Deep.DeepCutAuto
import Derived.Test.YtfkedlgpgmaemaaGreatDoorQbp
import Derived.Test.YtfkedlgpgmaemaaGreatDoorQbs
import Derived.Test.YtfkedlgpgmaemaaGreatDoorQbl
set_option linter.unusedVariables false
set_option maxHeartbeats 16000000
namespace Go.Proofs.YtfkedlgpgmaemaaGreatDoor
open Tryz
section
open Go.RowKit

def Cy(cs:List Cel)(zs:List Int):Bool:=zs.all (Er cs)

def natL(zs:List Int):List Nat:=zs.map Int.toNat

theorem EU{cs:List Cel}{g:Int}:Er cs g=true ↔ ∃ k:Nat,g=(k:Int)/\CL cs k:=by
 rw[isObj_yes]
 constructor
 .rintro ⟨c,h1,rfl,h2⟩
  exact⟨c.g,rfl,c,h1,h2,rfl⟩
 .rintro ⟨k,rfl,c,h1,h2,rfl⟩
  exact⟨c,h1,rfl,h2⟩

theorem allObj_yes{cs:List Cel}{zs:List Int}(h:Cy cs zs=true):zs=(natL zs).map (λ g:Nat=>(g:Int))/\∀ g∈natL zs,CL cs g:=by
 unfold Cy at h
 rw[List.all_eq_true] at h
 constructor
 .unfold natL
  rw[List.map_map]
  refine(List.map_id zs).symm.trans (List.map_congr_left λ z hz=>?_)
  obtain⟨k,rfl,-⟩:=EU.1 (h z hz)
  rfl
 .intro g hg
  obtain⟨z,hz,rfl⟩:=List.mem_map.1 hg
  obtain⟨k,rfl,hk⟩:=EU.1 (h z hz)
  exact hk

section

variable {P:Sp} {W:Nat->Nat} {f:Nat->Bool} {w:World} {cs:List Cel}

end

end

section
open Go.RowKit

theorem flatE_of{L:List (Nat×Nat×Nat)}:Bi (L.map toI)=Bt L:=(flatE_toI L).symm

set_option maxRecDepth 20000 in
theorem DOnly40_at(w:World)(ea:Option Addr)(ec:Nat)(es:List (Nat×Nat×Nat))(ra:Option Addr)(rc:Nat)(rs:List Nat)(g K E n:Nat)
  (he:Dl w (.slice ea E ec) es) (hr:AO w (.slice ra n rc) rs) (hE:es.length=E) (hn:rs.length=n) (hec:E<=ec) (hK:K<=65536) (hrs:∀ r∈rs,r<K) (hes:∀ e∈es,e.2.2<K) (hel:E<=2147483648) (hrl:n<=65536) (hnd:es.Nodup):
  Calls prog 48 #[.slice ea E ec,g,.slice ra n rc] w λ e w'=>∃ v,e=.returned v/\Dl w' v (onlyL es rs g)/\Kp Aa w w':=by
 have HE:=sE he
 have HEL:=sE hE
 have HND:=sE hnd
 have HRe:Sl (∀ W' la lc L,Kp Aa w W'->Dl W' (.slice la L.length lc) L->L.length<=2147483648->(∀ e∈L,e∈es)->Calls prog 64 #[.slice la L.length lc,.slice ra n rc] W' (ReachPost L rs W')):=⟨λ W' la lc L kk h1 h2 h3=>by
  subst hn
  exact DReached_at W' la lc L ra rc rs K h1 (hr.Ac kk) hK hrs (λ e h=>hes e (h3 e h)) h2 hrl⟩
 have HRk:Sl (∀ L z,(∀ e∈L,e∈es)->AA L rs z->z<K):=⟨λ L z h h1=>reachT_lt hrs (λ e he=>hes e (h e he)) h1⟩
 clear he hE hr hn hrs hes hnd
 go_enter func48,ntmps48
 go_wp2_with fail
 go_loopw [7,8,9] (λ x7 x8 _ wr=>∃ i:Nat,x8=.int .i64 (i:Nat)/\i<=E/\Sl (wr.ownsRow w.heap.size 70 3 x7 (onlyT es rs g i).length (Bt (onlyT es rs g i)))/\Kp Aa w wr) (λ _ x8 _ _=>E-(intOf x8).toNat)
 case atStart=>exact ⟨0,rfl,Nat.zero_le _,⟨World.ownsRow_nil _ _ _ _⟩,Kr _ _⟩
 case round=>
  obtain⟨i,rfl,hi,HO,hk⟩:=hrel
  obtain⟨wq,rfl⟩:∃ wq,wq=wr:=⟨_,rfl⟩
  by_cases hil:i<E
  .have hil':(i:Int)<(E:Int):=by omega
   obtain⟨x,hx⟩:∃ x,es[i]?=some x:=⟨es[i]'(by rw[HEL.o];exact hil),by simp⟩
   obtain⟨ea',ec',ee,hcells⟩:=HE.o
   obtain⟨eb,heb,hebw,z0,z1,z2⟩:=hcells i x hx
   have hea:ea=some ⟨eb,0,none⟩:=by injection ee with h1;rw [h1];exact heb
   subst hea
   have HZ0:=sE z0
   have HZ1:=sE z1
   have HZ2:=sE z2
   have y2:=Ae hk z2
   have HX:=sE hx
   have hle:(onlyT es rs g i).length<=2147483648:=Nat.le_trans (List.length_filter_le _ _) (by rw[List.length_take];omega)
   clear ee hcells heb hx z0 z1 z2
   by_cases h1:x.2.2=g
   .have e1:((x.2.2:Int) !=(g:Int))=false:=by rw[h1];simp
    have H1:=sE h1
    have u1:IntKind.i64.wrap ((i:Int)+1)=(i:Int)+1:=by rw[IntKind.wrap_i64];omega
    have p1:(i:Int)<=(ec:Int):=by omega
    have p2:(i:Int)+1<=(E:Int):=by omega
    have p3:(E:Int)<=(ec:Int):=by omega
    have p4:(0:Int)<=(i:Int)+1:=by omega
    obtain⟨ct,cd⟩:=(HE.o.Ac hk).cut HEL.o hil hec
    obtain⟨ta,hta⟩:∃ ta:Option Addr,(if ec=i+1 then some (⟨eb,0,none⟩:Addr) else some ⟨eb,(i+1)*3,none⟩)=ta:=⟨_,rfl⟩
    rw[hta] at cd
    have HCt:=sE ct
    have HCd:=sE cd
    have HCl:Sl ((es.take i).length=i/\(es.drop (i+1)).length=E-(i+1)/\(cutE es i).length=i+(E-(i+1))):=⟨by rw[List.length_take,HEL.o,Nat.min_eq_left (by omega)],by rw[List.length_drop,HEL.o],by unfold cutE;rw [List.length_append,List.length_take,List.length_drop,HEL.o,Nat.min_eq_left (by omega)]⟩
    have hzq:=hk.size
    clear ct cd h1
    go_wp2_with fail
    refine wp_region_held_drew (S:=λ _=>True/\True) (by kernel_rfl) ?_ (λ qZ=>?_)
    .exact ⟨trivial,trivial⟩
    have kd:Kp Aa wq wq.drew:=(Kr _ _).drew
    refine Ap 0 ?_;refine Ap 1 ?_;refine Ap 2 ?_;refine Ap 4 ?_;refine Ap 5 ?_;refine Ap 6 ?_
    try simp only[AB]
    refine Ap 7 ?_
    try rw[hta]
    try simp only[AB]
    refine Bp [3] ?_
    refine Ag rfl (λ K2 hK2=>?_)
    obtain⟨i0,hi0,hz0,hz1,hz2⟩:=info_parts Gu
    refine step_append_t3 rfl rfl (.const (.slice none 0 0)) (.tmp 25) 47 rfl 70 i0 EB hi0 hz0 hz1 hz2 wq.heap.size (.slice none 0 0) 0 [] rfl (World.ownsRow_nil _ _ _ _) _ _ rfl (HCt.o.Ac kd) (by rw[List.length_map,HCl.o.1];omega) kd.size (λ v4 w4 hown4 hgrow4 hat4=>?_)
    rw[Nat.zero_add,List.nil_append] at hown4
    have kq4:Kp Aa wq w4:=kd.grown hgrow4 (λ k e _=>by cases e)
    obtain⟨a4,c4,rfl⟩:=Aq hown4
    refine hK2 _ _ ?_ (λ qZ=>?_)
    .exact ⟨trivial,trivial⟩
    clear hK2 K2
    try simp only[AB]
    refine Bp [8] ?_
    refine Ag rfl (λ K2 hK2=>?_)
    refine step_append_t3 rfl rfl (.tmp 26) (.tmp 30) 47 rfl 70 i0 EB hi0 hz0 hz1 hz2 wq.heap.size _ _ _ rfl hown4 _ _ rfl (HCd.o.Ac kq4) (by rw[List.length_map,List.length_map,HCl.o.1,HCl.o.2.1];omega) kq4.size (λ v5 w5 hown5 hgrow5 hat5=>?_)
    clear hi0 hz0 hz1 hz2
    have kq5:Kp Aa wq w5:=kq4.grown hgrow5 (λ k e hk=>by have:=(Ad hown4 e).1;omega)
    have HL5:Sl (w5.ownsRow wq.heap.size 70 3 v5 (cutE es i).length (Bt (cutE es i))):=⟨by
     rw[List.length_map,List.length_map,<- List.map_append,flatE_of] at hown5
     unfold cutE
     rw[List.length_append]
     exact hown5⟩
    have HKq5:=sE kq5
    refine hK2 _ _ ?_ (λ qZ=>?_)
    .exact ⟨trivial,trivial⟩
    clear hK2 K2 hown4 hown5 hgrow4 hgrow5 hat4 hat5 kq4 kd HCt HCd hta
    try simp only[AB]
    refine Ap 9 ?_
    try simp only[AB]
    refine wpAnyH_done (by kernel_rfl) ?_ _
    obtain⟨la,lc,rfl⟩:=Aq HL5.o
    have HLs:Sl (∀ e∈cutE es i,e∈es):=⟨λ e h=>(GA.1 ((mem_cutE HND.o HX.o e).1 h)).1⟩
    have HRd:=sE (HRe.o w5 la lc (cutE es i) (hk.then' kq5) (Dl.Bc HL5.o) (by rw[HCl.o.2.2];omega) HLs.o)
    obtain⟨CL,hCL⟩:∃ n,(cutE es i).length=n:=⟨_,rfl⟩
    rw[hCL] at HRd ⊢
    clear kq5 hCL HL5 qZ
    go_wp2_with fail
    with_reducible refine HRd.o.mono ?_
    rintro e w6 ⟨v6,m,rfl,a1,a2,a3,a4,k6⟩
    obtain⟨b6,c6,rfl,-⟩:=id a1
    have hl6:m.length<=65536:=Nat.le_trans (Cm a2 (λ z hz=>HRk.o _ z HLs.o ((a3 z).1 hz))) hK
    have HAt:=sE (DAt40_at w6 b6 c6 m g a1 hl6)
    have HIn:Sl (g∈m ↔ AA (Gm es x) rs g):=⟨(a3 g).trans (AA.iff (λ e=>mem_cutE HND.o HX.o e) g)⟩
    have K6:Sl (Kp Aa w w6):=⟨hk.then' (HKq5.o.then' k6)⟩
    have HO6:=sE (Af (Af HO.o HKq5.o (λ _ _ h=>h)) k6 (λ _ _ h=>h))
    obtain⟨ML,hML⟩:∃ n,m.length=n:=⟨_,rfl⟩
    rw[hML] at HAt ⊢
    clear a1 a2 a3 a4 k6 hML hl6 HRd HLs hk HO HKq5
    go_wp2_with fail
    with_reducible refine HAt.o.mono ?_
    rintro e w7 ⟨p,rfl,hp,rfl⟩
    rcases hp with ⟨j,rfl,hj⟩|⟨rfl,hj⟩
    .have hin:=HIn.o.1 (List.mem_of_getElem? hj)
     have HSt:Sl (onlyT es rs g (i+1)=onlyT es rs g i):=⟨by rw[onlyT_step (b:=false) HX.o ⟨(λ h=>by cases h),λ h=>absurd hin h.2⟩];simp⟩
     have q1:¬ (j:Int)<0:=by omega
     clear hj hin
     go_wp2_with fail
     exact⟨⟨i+1,by go_num,by omega,⟨by rw[HSt.o];exact HO6.o⟩,K6.o⟩,by simp only[intOf];omega⟩
    .have hin:¬ AA (Gm es x) rs g:=λ h=>hj (HIn.o.2 h)
     have HSt:Sl (onlyT es rs g (i+1)=onlyT es rs g i++[x]):=⟨by rw[onlyT_step (b:=true) HX.o ⟨λ _=>⟨H1.o,hin⟩,λ _=>rfl⟩];simp⟩
     have z0:=K6.o.cell HZ0.o (λ h=>h)
     have z1:=K6.o.cell HZ1.o (λ h=>h)
     have z2:=K6.o.cell HZ2.o (λ h=>h)
     obtain⟨R,hR⟩:∃ R,onlyT es rs g i=R:=⟨_,rfl⟩
     rw[hR] at HO6 HSt hle
     have hws:=K6.o.size
     clear hj hin hR y2
     go_wp2_with (at_builtin;obtain ⟨i0,hi0,hz0,hz1,hz2⟩:=info_parts Gu;go_loud (refine wpList_append_lies _ rfl (.tmp 38) (.tmp 43) 47 rfl w.heap.size 70 i0 _ 3 24 EB hi0 hz0 hz1 hz2 rfl (by omega) _ R.length (Bt R) rfl (Af HO6.o ((Kr Aa _).alloc _) (λ _ _ h=>h)) ⟨w6.heap.size,0,none⟩ 1 1 [x.1,x.2.1,x.2.2] rfl rfl (World.news_of_block (wN w6 _)) (by intro u hu;simp at hu;rcases hu with rfl|rfl|rfl <;> rfl) (by omega) (by unfold maxLen;omega) (by omega) (by simp;omega) (w6.heap.size+1) (by simp) ?_);intro gb cap w8 hown8 hgrow hat hlt;clear hi0 hz0 hz1 hz2)
     have k8:Kp Aa w w8:=(K6.o.then' ((Kr Aa _).alloc _)).grown hgrow (λ k e hk=>by have:=(Ad HO6.o e).1;omega)
     have HO8:=sE hown8
     have HFl:Sl (Bt (R++[x])=Bt R++[.int .i64 x.1,.int .i64 x.2.1,.int .i64 x.2.2]):=⟨ER ..⟩
     clear hown8 hgrow hat
     go_wp2_with fail
     exact⟨⟨i+1,by go_num,by omega,⟨by rw[HSt.o,HFl.o,List.length_append,List.length_singleton];exact HO8.o⟩,k8⟩,by simp only[intOf];omega⟩
   .have e1:((x.2.2:Int) !=(g:Int))=true:=by rw[bne_iff_ne];omega
    have HSt:Sl (onlyT es rs g (i+1)=onlyT es rs g i):=⟨by rw[onlyT_step (b:=false) HX.o ⟨(λ h=>by cases h),λ h=>absurd h.1 h1⟩];simp⟩
    clear h1
    go_wp2_with fail
    exact⟨⟨i+1,by go_num,by omega,⟨by rw[HSt.o];exact HO.o⟩,hk⟩,by simp only[intOf];omega⟩
  .have hil':¬ (i:Int)<(E:Int):=by omega
   have HT:Sl (onlyT es rs g i=onlyL es rs g):=⟨onlyT_all es rs g i (by rw[HEL.o];omega)⟩
   rw[HT.o] at HO
   have HP:Sl (Dl wq _ (onlyL es rs g)):=⟨Dl.Bc HO.o⟩
   clear HO
   go_wp2_with fail
   go_ret
   exact⟨_,rfl,HP.o,hk⟩

end

section
open Go.RowKit

open Classical in
noncomputable def distD (es:List (Nat×Nat×Nat)) (rs:List Nat):Nat->Option Nat:=λ g=>if AA es rs g then some (least λ n=>StepsN es rs n g) else none

theorem isDist_D(es:List (Nat×Nat×Nat))(rs:List Nat):Gg es rs (distD es rs):=λ g n=>by
 unfold distD
 by_cases h:AA es rs g
 .rw [if_pos h]
  obtain⟨q1,q2⟩:=Gv (p:=λ n=>StepsN es rs n g) h
  constructor
  .intro e
   injection e with e
   subst e
   exact⟨q1,q2⟩
  .rintro ⟨h1,h2⟩
   congr 1
   exact Nat.le_antisymm (q2 _ h1) (h2 _ q1)
 .rw [if_neg h]
  constructor
  .intro e
   cases e
  .rintro ⟨h1,-⟩
   exact absurd ⟨n,h1⟩ h

theorem natL_map(ns:List Nat):natL (ns.map λ g:Nat=>(g:Int))=ns:=by
 unfold natL
 rw[List.map_map]
 exact List.map_id ns

theorem GK{cs:List Cel}{zs:List Int}:Cy cs zs=true ↔ ∃ ns:List Nat,zs=ns.map (λ g:Nat=>(g:Int))/\∀ g∈ns,CL cs g:=by
 constructor
 .intro h
  exact⟨_,allObj_yes h⟩
 .rintro ⟨ns,rfl,h⟩
  unfold Cy
  rw[List.all_eq_true]
  intro z hz
  obtain⟨g,hg,rfl⟩:=List.mem_map.1 hz
  exact EU.2 ⟨g,rfl,h g hg⟩

def AnyC(c:Int)(R:World->Value->Prop)(w:World)(e:Ending)(w':World):Prop:=
 ∃ (a:Option Addr) (n cap:Nat),e=.returned (.tuple #[.slice a n cap,.int .i64 c])/\Sl (¬ c=0->n=0)/\Sl (c=0->R w' (.slice a n cap))/\Kp Aa w w'

theorem AnyC.no{R:World->Value->Prop}{w w':World}{c:Int}(k:Kp Aa w w')(h:¬ c=0):AnyC c R w (.returned (.tuple #[.slice none 0 0,.int .i64 c])) w':=
 ⟨none,0,0,rfl,⟨λ _=>rfl⟩,⟨λ q=>absurd q h⟩,k⟩

theorem AnyC.yesE{w w':World}{v:Value}{L:List (Nat×Nat×Nat)}(h:Dl w' v L)(k:Kp Aa w w'):AnyC 0 (λ w' u=>Dl w' u L) w (.returned (.tuple #[v,(0:Int)])) w':=by
 obtain⟨a,c,rfl,-⟩:=id h
 exact⟨a,_,c,rfl,⟨λ q=>absurd rfl q⟩,⟨λ _=>h⟩,k⟩

def cFar(B:Bool):Int:=if B=true then 0 else 2

def cWay(B G M:Bool):Int:=if B=true/\G=true then (if M=true then 0 else 3) else 2

section

variable {P:Sp} {W:Nat->Nat} {f:Nat->Bool} {w:World} {cs:List Cel}

theorem WFar_any(hsp:SpaceAt w P W f)(hc:CellsAt P W cs)(hst:∀ i,i<P.n/2->f i=Ak cs i)(hms:∀ x∈P.ts,x.m<18446744073709551616){v:Value}{zs:List Int}(hx:IntsIn w v zs)(hxl:zs.length<=65536):
  Calls prog 39 #[.pointer (some P.s),v] w (AnyC (cFar (Cy cs zs)) (λ w' u=>RowP w' u (farP (distD (AP P.ts W cs) (natL zs)) (reachL (AP P.ts W cs) (natL zs) (P.n/2)))) w):=by
 have hs:=hsp.bt.FQ
 refine(WFar_at P W f w cs hsp hc hst hms v zs hx hxl).mono ?_
 rintro e w' ⟨⟨ns,h1,hT,v,D,rfl,hD,hr⟩|⟨hno,rfl⟩,k⟩
 .have hB:Cy cs zs=true:=GK.2 ⟨ns,h1,hT⟩
  have hn:natL zs=ns:=by rw[h1];exact natL_map ns
  obtain rfl:=hD.uniq (isDist_D _ _)
  rw[hB,hn]
  have hr2:RowP w' v (farP (distD (AP P.ts W cs) ns) (reachL (AP P.ts W cs) ns (P.n/2))):=by
   refine farP_of ?_ (λ z hz=>by have:=(mem_reachL.1 hz).1;omega)
   rw[<- setL_reach (fm:=λ g=>(distD (AP P.ts W cs) ns g).isSome) (λ g=>(isDist_D _ _).reach)]
   exact hr
  obtain⟨a,c,rfl,-⟩:=id hr2
  exact⟨a,_,c,rfl,⟨λ q=>absurd rfl q⟩,⟨λ _=>hr2⟩,k⟩
 .have hB:Cy cs zs=false:=by
   cases h:Cy cs zs with
   |false=>rfl
   |true=>exact absurd (GK.1 h) hno
  rw[hB]
  exact AnyC.no k (by decide)

theorem reach_mem(hc:CellsAt P W cs)(hst:∀ i,i<P.n/2->f i=Ak cs i){ns:List Nat}(hT:∀ g∈ns,CL cs g){g:Nat}:g∈reachL (AP P.ts W cs) ns (P.n/2) ↔ AA (AP P.ts W cs) ns g:=
 mem_reachL.trans ⟨λ h=>h.2,λ h=>⟨CV hc (reach_obj hc hst hT h),h⟩⟩

theorem cWay_no{zs:List Int}{i:Int}{M:Bool}(h:(¬ ∃ ns,GI (CL cs) zs ns)\/¬ ∃ g:Nat,i=(g:Int)/\CL cs g):cWay (Cy cs zs) (Er cs i) M=2:=by
 unfold cWay
 rw[if_neg]
 rintro ⟨h1,h2⟩
 rcases h with h|h
 .exact h (GK.1 h1)
 .exact h (EU.1 h2)

theorem WWay_any(hsp:SpaceAt w P W f)(hc:CellsAt P W cs)(hst:∀ i,i<P.n/2->f i=Ak cs i)(hms:∀ x∈P.ts,x.m<18446744073709551616)(i:Int){v:Value}{zs:List Int}(hx:IntsIn w v zs)(hxl:zs.length<=65536):
  Calls prog 40 #[.pointer (some P.s),.int .i64 i,v] w (AnyC (cWay (Cy cs zs) (Er cs i) (decide (i.toNat∈reachL (AP P.ts W cs) (natL zs) (P.n/2)))) (λ w' u=>Dl w' u (Gz (AP P.ts W cs) (distD (AP P.ts W cs) (natL zs)) ((distD (AP P.ts W cs) (natL zs) i.toNat).getD 0) i.toNat)) w):=by
 refine(WWay_at P W f w cs hsp hc hst hms i v zs hx hxl).mono ?_
 rintro e w' ⟨⟨ns,D,⟨h1,hT⟩,hD,g,rfl,hg,h⟩|⟨hno,rfl⟩,k⟩
 .have hB:Cy cs zs=true:=GK.2 ⟨ns,h1,hT⟩
  have hG:Er cs (g:Int)=true:=EU.2 ⟨g,rfl,hg⟩
  have hn:natL zs=ns:=by rw[h1];exact natL_map ns
  obtain rfl:=hD.uniq (isDist_D _ _)
  rw[hB,hG,hn,Int.toNat_natCast]
  rcases h with ⟨n,v,hd,rfl,hr⟩|⟨hd,rfl⟩
  .rw [dT ((reach_mem hc hst hT).2 (hD.reach.1 (by rw[hd];rfl))),hd]
   exact AnyC.yesE hr k
  .rw [dF (λ q=>by have:=hD.reach.2 ((reach_mem hc hst hT).1 q);rw [hd] at this;cases this)]
   exact AnyC.no k (by decide)
 .rw [cWay_no hno]
  exact AnyC.no k (by decide)

theorem WOnly_any(hsp:SpaceAt w P W f)(hc:CellsAt P W cs)(hst:∀ i,i<P.n/2->f i=Ak cs i)(hms:∀ x∈P.ts,x.m<18446744073709551616)(i:Int){v:Value}{zs:List Int}(hx:IntsIn w v zs)(hxl:zs.length<=65536):
  Calls prog 41 #[.pointer (some P.s),.int .i64 i,v] w (AnyC (cWay (Cy cs zs) (Er cs i) (decide (i.toNat∈reachL (AP P.ts W cs) (natL zs) (P.n/2)))) (λ w' u=>Dl w' u (onlyL (AP P.ts W cs) (natL zs) i.toNat)) w):=by
 refine(WOnly_at P W f w cs hsp hc hst hms i v zs hx hxl).mono ?_
 rintro e w' ⟨⟨ns,⟨h1,hT⟩,g,rfl,hg,h⟩|⟨hno,rfl⟩,k⟩
 .have hB:Cy cs zs=true:=GK.2 ⟨ns,h1,hT⟩
  have hG:Er cs (g:Int)=true:=EU.2 ⟨g,rfl,hg⟩
  have hn:natL zs=ns:=by rw[h1];exact natL_map ns
  rw[hB,hG,hn,Int.toNat_natCast]
  rcases h with ⟨hd,v,rfl,hr⟩|⟨hd,rfl⟩
  .rw [dT ((reach_mem hc hst hT).2 hd)]
   exact AnyC.yesE hr k
  .rw [dF (λ q=>hd ((reach_mem hc hst hT).1 q))]
   exact AnyC.no k (by decide)
 .rw [cWay_no hno]
  exact AnyC.no k (by decide)

theorem WHolds_any(hsp:SpaceAt w P W f)(hc:CellsAt P W cs)(hst:∀ i,i<P.n/2->f i=Ak cs i)(hms:∀ x∈P.ts,x.m<18446744073709551616)(i:Int):
  Calls prog 42 #[.pointer (some P.s),.int .i64 i] w (AnyC (cFar (Er cs i)) (λ w' u=>Dl w' u (GD (AP P.ts W cs) i.toNat)) w):=by
 refine(WHolds_at P W f w cs hsp hc hst hms i).mono ?_
 rintro e w' ⟨⟨g,v,rfl,hg,rfl,hr⟩|⟨hno,rfl⟩,k⟩
 .rw [EU.2 ⟨g,rfl,hg⟩,Int.toNat_natCast]
  exact AnyC.yesE hr k
 .have hG:Er cs i=false:=by
   cases h:Er cs i with
   |false=>rfl
   |true=>exact absurd (EU.1 h) hno
  rw[hG]
  exact AnyC.no k (by decide)

end

end

end Go.Proofs.YtfkedlgpgmaemaaGreatDoor
