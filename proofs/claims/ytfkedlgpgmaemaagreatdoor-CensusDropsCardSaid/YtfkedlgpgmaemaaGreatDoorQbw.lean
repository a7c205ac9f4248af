/-
  Lemmas for the laws, together: CenY.
-/
import Derived.Test.YtfkedlgpgmaemaaGreatDoorQbt
set_option linter.unusedVariables false
set_option maxHeartbeats 16000000
namespace Go.Proofs.YtfkedlgpgmaemaaGreatDoor
open Tryz
section
open Go.RowKit

def GranPost(os:List Cel)(es:List (Nat×Nat×Nat))(xs:List Nat)(w:World)(e:Ending)(w':World):Prop:=
 ∃ fm:Nat->Bool,(∀ g,fm g=true ↔ AA es xs g)/\e=.returned (.tuple #[.int .i64 (DY os fm os.length:Nat),.bool true])/\Kp Aa w w'

theorem objs_len{P:Sp}{W:Nat->Nat}{cs:List Cel}(hc:CellsAt P W cs)(hH:P.n/2<=65536):(Ak cs).length<=65536:=by
 have h1:(Ak cs).length<=cs.length:=List.length_filter_le _ _
 have h2:=BP hc.tl
 omega

set_option maxRecDepth 20000 in
theorem LGran_at(P:Sp)(W:Nat->Nat)(f:Nat->Bool)(w:World)(cs:List Cel)(hsp:SpaceAt w P W f)(hc:CellsAt P W cs)(hne:cs≠[])(hst:∀ i,i<P.n/2->f i=Ap cs i)(hms:∀ x∈P.ts,x.m<18446744073709551616)(v:Value)(xs:List Nat)(hx:Bz w v xs)(hxo:∀ g∈xs,De cs g)(hxl:xs.length<=65536):
  Calls prog 28 #[.pointer (some ⟨P.s,0,none⟩),v] w (GranPost (Ak cs) (AP P.ts W cs) xs w):=by
 obtain⟨va,vc,rfl,-⟩:=id hx
 have HMk:=sE (MarkOf_at P W f 100 w cs hsp hc hst hms (by omega) (by omega) _ xs hx hxo hxl)
 have HRe:Sl (∀ g,MReach (Du f (P.n/2) P.ts W cs) (λ g=>g∈xs) g ↔ AA (AP P.ts W cs) xs g):=⟨λ g=>reach_marks hc hst hxo g⟩
 have HOb:Sl (∀ W',Kp Aa w W'->_):=⟨λ W' kk=>Objects_at P cs W' ⟨W,f,hsp.Ad kk,hc,hst⟩ hne⟩
 have hH65:P.n/2<=65536:=hsp.bt.Fa
 have HLen:Sl ((Ak cs).length<=65536):=⟨objs_len hc hH65⟩
 have HUp:=sE (objs_up hc)
 have HSz:Sl (∀ c∈Ak cs,c.sz<=65536):=⟨λ c hcc=>by
  have:=hc.tl.mem (AR.1 hcc).1
  omega⟩
 have HLt:Sl (∀ c∈Ak cs,c.g<P.n/2):=⟨λ c hcc=>DV hc ⟨c,(AR.1 hcc).1,(AR.1 hcc).2,rfl⟩⟩
 obtain⟨H,hH⟩:∃ H,P.n/2=H:=⟨_,rfl⟩
 obtain⟨es,hes⟩:∃ es,AP P.ts W cs=es:=⟨_,rfl⟩
 obtain⟨os,hos⟩:∃ os,Ak cs=os:=⟨_,rfl⟩
 obtain⟨L,hL⟩:∃ L,xs.length=L:=⟨_,rfl⟩
 rw[hes] at HRe
 rw[hos] at HOb HLen HUp HSz HLt
 rw[hH] at HLt hH65
 rw[hL] at HMk
 rw[hes,hos,hL]
 clear hsp hc hst hms hx hxo hxl hne hes hos hL
 go_enter func28,ntmps28
 go_wp2_with fail
 refine HMk.out.mono ?_
 rintro e w1 ⟨mp,mq,fm,n1,dp,ag,rfl,hb1,-,-,-,hr1,-,-,-,k1⟩
 have HFm:Sl (∀ g,fm g=true ↔ AA es xs g):=⟨λ g=>(hr1 g).trans (HRe.out g)⟩
 rw[hH] at hb1
 have HB1:=sE hb1
 have HK1:=sE k1
 clear hb1 hr1 k1 HMk HRe hH
 go_wp2_with fail
 refine(HOb.out _ (HK1.out.alloc _)).mono ?_
 rintro e w2 ⟨a,cap,rfl,hrow,k2⟩
 have HK2:Sl (Kp Aa w1 w2):=⟨((Kr _ _).alloc _).then' k2⟩
 have HRow:=sE hrow
 obtain⟨M,hM⟩:∃ M,os.length=M:=⟨_,rfl⟩
 have HM:=sE hM
 rw[hM] at HRow HLen ⊢
 have hMl:=HLen.out
 clear hrow k2 hM HOb
 go_wp2_with fail
 go_loopw [9,11] (λ x9 x11 wr=>∃ j:Nat,x11=.int .i64 (j:Nat)/\j<=M/\x9=.int .i64 (DY os fm j:Nat)/\Kp Aa w2 wr) (λ _ x11 _=>M-(intOf x11).toNat)
 case atStart=>exact ⟨0,rfl,Nat.zero_le _,rfl,Kr _ _⟩
 case round=>
  obtain⟨j,rfl,hj,rfl,hk⟩:=hrel
  have HK:=sE hk
  by_cases hjl:j<M
  .have hjl':(j:Int)<(M:Int):=by omega
   obtain⟨c,hcj⟩:∃ c,os[j]?=some c:=⟨_,List.getElem?_eq_getElem (by rw[HM.out];exact hjl)⟩
   obtain⟨a',cap',e,hx⟩:=HRow.out.Ad hk
   injection e with e1 e3 e2
   clear e3
   subst e1 e2
   obtain⟨b,rfl,-,c0,-,-,-,c4⟩:=hx j c hcj
   have hcm:=List.mem_of_getElem? hcj
   have hcg:=HLt.out c hcm
   have hst:=granT_step HUp.out (fm:=fm) hcj
   have hle:=granT_le (fm:=fm) HSz.out j
   have hsz:=HSz.out c hcm
   rw[HM.out] at hle
   have HHa:=sE (Has_in c.g H mp mq fm wr (HB1.out.keep (HK2.out.then' hk) (λ h=>h) (λ h=>h)) hcg)
   have hle2:DY os fm j<=65536*65536:=Nat.le_trans hle (Nat.mul_le_mul_right _ hMl)
   obtain⟨t,ht⟩:∃ t,DY os fm j=t:=⟨_,rfl⟩
   obtain⟨y,hy⟩:∃ y,fm c.g=y:=⟨_,rfl⟩
   rw[ht,hy] at hst
   rw[ht] at hle2 ⊢
   rw[hy] at HHa
   have u1:IntKind.i64.wrap ((t:Int)+(c.sz:Int))=(t:Int)+(c.sz:Int):=by rw[IntKind.wrap_i64];omega
   clear hx hcj hcm hk hle ht hy
   cases y with
   |true=>
    rw[if_pos rfl] at hst
    have HSt:=sE hst
    clear hst
    go_wp2_with fail
    refine HHa.out.mono ?_
    rintro e w3 ⟨rfl,k3⟩
    have c4:=Ac k3 c4
    have HK3:=sE (HK.out.then' k3)
    clear k3 c0
    go_wp2
    exact⟨⟨j+1,by go_num,by omega,by rw[HSt.out];go_num,HK3.out⟩,by simp only[intOf];omega⟩
   |false=>
    rw[if_neg (by simp)] at hst
    have HSt:=sE hst
    clear hst
    go_wp2_with fail
    refine HHa.out.mono ?_
    rintro e w3 ⟨rfl,k3⟩
    have HK3:=sE (HK.out.then' k3)
    clear k3 c0 c4
    go_wp2
    exact⟨⟨j+1,by go_num,by omega,by rw[HSt.out];rfl,HK3.out⟩,by simp only[intOf];omega⟩
  .have hjl':¬ (j:Int)<(M:Int):=by omega
   obtain rfl:j=M:=by omega
   go_wp2
   go_ret2
   exact⟨fm,HFm.out,by rw[HM.out];rfl,HK1.out.then' (HK2.out.then' HK.out)⟩

end

end Go.Proofs.YtfkedlgpgmaemaaGreatDoor
