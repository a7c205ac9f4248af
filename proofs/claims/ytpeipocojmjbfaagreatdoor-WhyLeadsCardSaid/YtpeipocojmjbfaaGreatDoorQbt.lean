/-
  Lemmas for the laws, together: WhyLd.
-/
import Derived.Test.YtpeipocojmjbfaaGreatDoorQbq
import Derived.Test.YtpeipocojmjbfaaGreatDoorQbs
set_option linter.unusedVariables false
set_option maxHeartbeats 16000000
namespace Go.Proofs.YtpeipocojmjbfaaGreatDoor
open Tryz
section
open Go.RowKit

set_option maxRecDepth 20000 in
theorem Leads40_at(w:World)(v1 v2 v3:Value)(es way:List (Nat×Nat×Nat))(rs:List Nat)(g:Nat)(h1:ED w v1 es)(h2:ED w v2 way)(h3:DU w v3 rs)(hw:WayOk es rs way g)(hl1:es.length<=2147483648)(hl2:way.length<=65536)(hl3:rs.length<=65536):
  Calls prog 45 #[v1,v2,.int .i64 (g:Nat),v3] w λ e w'=>e=.returned (.bool true)/\Kp Ag w w':=by
 obtain⟨s,hs,hway,hend⟩:=hw
 obtain⟨ea,ec,rfl,-⟩:=id h1
 obtain⟨wa,wc,rfl,-⟩:=id h2
 obtain⟨ra,rc,rfl,-⟩:=id h3
 obtain⟨EL,hEL⟩:∃ n,es.length=n:=⟨_,rfl⟩
 obtain⟨WL,hWL⟩:∃ n,way.length=n:=⟨_,rfl⟩
 obtain⟨RL,hRL⟩:∃ n,rs.length=n:=⟨_,rfl⟩
 rw[hEL] at h1 hl1 ⊢
 rw[hWL] at h2 hl2 hend ⊢
 rw[hRL] at h3 hl3 ⊢
 have H1:=sE h1
 have H2:=sE h2
 have H3:=sE h3
 have HS:=sE hs
 have HW:=sE hway
 have HE:=sE hend
 have HEL:=sE hEL
 have HWL:=sE hWL
 have HRL:=sE hRL
 have HA:Sl ((rs.any λ z=>z==s)=true):=⟨List.any_eq_true.2 ⟨s,hs,by simp⟩⟩
 clear h1 h2 h3 hs hway hend hEL hWL hRL
 go_enter func45,ntmps45
 go_upto_if 18 with fail
 go_cut [9] from 19 to 23 (λ x9 wx=>x9=.int .i64 (s:Nat)/\wx=w)
 case first=>
  by_cases h0:0<WL
  .have p0:decide ((0:Int)<(WL:Int))=true:=dT (by omega)
   obtain⟨x,hx⟩:∃ x,way[0]?=some x:=⟨way[0]'(by rw[HWL.out];exact h0),by simp⟩
   obtain⟨q1,q2⟩:=HW.out 0 x hx
   have q3:x.1=s:=q2
   obtain⟨wa',wc',hwa,hcells⟩:=H2.out
   obtain⟨wb,hwb,hwb0,x0,x1,x2⟩:=hcells 0 x hx
   have hww:wa=some ⟨wb,0,none⟩:=by injection hwa with h1;rw [h1];exact hwb
   subst hww
   rw[q3] at x0
   have x0':w.cell? ⟨wb,0,none⟩=some (.int .i64 (s:Nat)):=by simpa using x0
   clear hwa hcells hwb hx q1 q2 x0
   go_wp2_with fail
   go_meet
   exact⟨rfl,rfl⟩
  .have p0:decide ((0:Int)<(WL:Int))=false:=dF (by omega)
   have hz:WL=0:=by omega
   have hgs:s=g:=by
    have:=HE.out
    rw[hz] at this
    exact this
   subst hgs
   clear hz
   go_wp2_with fail
   go_meet
   exact⟨rfl,rfl⟩
 case rest=>
  obtain⟨rfl,hwc⟩:=hcut
  subst hwc
  go_wp2_with fail
  go_loopw [10,11] (λ x10 x11 wr=>∃ j:Nat,j<=RL/\x11=.int .i64 (j:Nat)/\x10=.bool ((rs.take j).any λ z=>z==s)/\Kp Ag wc wr) (λ _ x11 _=>RL-(intOf x11).toNat)
  case atStart=>exact ⟨0,Nat.zero_le _,rfl,rfl,Kr _ _⟩
  case round=>
   obtain⟨j,hj,rfl,rfl,hkk⟩:=hrel
   have HKK:=sE hkk
   by_cases hjl:j<RL
   .have hjl':(j:Int)<(RL:Int):=by omega
    obtain⟨z,hz⟩:∃ z,rs[j]?=some z:=⟨rs[j]'(by rw[HRL.out];exact hjl),by simp⟩
    obtain⟨ra',rc',hra,hcells⟩:=H3.out.Am hkk
    obtain⟨rb,ro,hrb,cx⟩:=hcells j z hz
    have hrr:ra=some ⟨rb,ro,none⟩:=by injection hra with h1;rw [h1];exact hrb
    subst hrr
    have HNx:=any_take (p:=λ z=>z==s) hz
    obtain⟨t,ht⟩:∃ t,(rs.take j).any (λ z=>z==s)=t:=⟨_,rfl⟩
    rw[ht] at HNx ⊢
    clear ht hz hra hcells hrb hkk
    cases t with
    |true=>
     have HN1:Sl ((rs.take (j+1)).any (λ z=>z==s)=true):=⟨by rw[HNx];rfl⟩
     clear HNx
     go_wp2
     exact⟨⟨j+1,by omega,by go_num,by rw[HN1.out],HKK.out⟩,by simp only[intOf];omega⟩
    |false=>
     have HN1:Sl ((rs.take (j+1)).any (λ z=>z==s)=((z:Int)==(s:Int))):=⟨by
      rw[HNx,Bool.false_or,Bool.eq_iff_iff,beq_iff_eq,beq_iff_eq]
      omega⟩
     clear HNx
     go_wp2
     exact⟨⟨j+1,by omega,by go_num,by rw[HN1.out],HKK.out⟩,by simp only[intOf];omega⟩
   .have hjl':¬ (j:Int)<(RL:Int):=by omega
    obtain rfl:j=RL:=by omega
    have hall:((rs.take j).any λ z=>z==s)=true:=by
     rw[List.take_of_length_le (by rw[HRL.out];omega)]
     exact HA.out
    rw[hall]
    obtain⟨w1,rfl⟩:∃ w1,w1=wr:=⟨_,rfl⟩
    clear hall hkk
    go_wp2_with fail
    go_loopw [9,12] (λ x9 x12 wr=>∃ i:Nat,i<=WL/\x12=.int .i64 (i:Nat)/\x9=.int .i64 (curW s way i:Nat)/\Kp Ag wc wr) (λ _ x12 _=>WL-(intOf x12).toNat)
    case atStart=>exact ⟨0,Nat.zero_le _,rfl,rfl,HKK.out⟩
    case round=>
     obtain⟨i,hi,rfl,rfl,hkk⟩:=hrel
     have HKi:=sE hkk
     by_cases hil:i<WL
     .have hil':(i:Int)<(WL:Int):=by omega
      obtain⟨x,hx⟩:∃ x,way[i]?=some x:=⟨way[i]'(by rw[HWL.out];exact hil),by simp⟩
      obtain⟨q1,q2⟩:=HW.out i x hx
      obtain⟨wa',wc',hwa,hcells⟩:=H2.out.Am hkk
      obtain⟨wb,hwb,hwb0,x0,x1,x2⟩:=hcells i x hx
      have hww:wa=some ⟨wb,0,none⟩:=by injection hwa with h1;rw [h1];exact hwb
      subst hww
      have HCu:Sl (curW s way (i+1)=x.2.2):=⟨by simp only[curW];rw [hx];rfl⟩
      have HAx:Sl ((es.any λ z=>z==x)=true):=⟨List.any_eq_true.2 ⟨x,q1,by simp⟩⟩
      obtain⟨cu,hcu⟩:∃ cu,curW s way i=cu:=⟨_,rfl⟩
      rw[hcu] at q2 ⊢
      have HX:=sE (And.intro x0 (And.intro x1 x2))
      have HQ2:=sE q2
      clear q2
      obtain⟨w2,rfl⟩:∃ w2,w2=wr:=⟨_,rfl⟩
      clear hwa hcells hwb hx q1 hcu hkk x0 x1 x2
      go_wp2_with fail
      go_loopw [13,14] (λ x13 x14 wr=>∃ k:Nat,k<=EL/\x14=.int .i64 (k:Nat)/\x13=.bool ((es.take k).any λ z=>z==x)/\Kp Ag w2 wr) (λ _ x14 _=>EL-(intOf x14).toNat)
      case atStart=>exact ⟨0,Nat.zero_le _,rfl,rfl,Kr _ _⟩
      case round=>
       obtain⟨k,hk,rfl,rfl,hkk⟩:=hrel
       have HKk:=sE hkk
       have x0:=hkk.cell HX.out.1 (λ h=>h)
       have x1:=hkk.cell HX.out.2.1 (λ h=>h)
       have x2:=hkk.cell HX.out.2.2 (λ h=>h)
       by_cases hkl:k<EL
       .have hkl':(k:Int)<(EL:Int):=by omega
        obtain⟨z,hz⟩:∃ z,es[k]?=some z:=⟨es[k]'(by rw[HEL.out];exact hkl),by simp⟩
        obtain⟨ea',ec',hea,hcells⟩:=H1.out.Am (HKi.out.then' hkk)
        obtain⟨eb,heb,heb0,z0,z1,z2⟩:=hcells k z hz
        have hee:ea=some ⟨eb,0,none⟩:=by injection hea with h1;rw [h1];exact heb
        subst hee
        have HNx:=any_take (p:=λ z=>z==x) hz
        obtain⟨t,ht⟩:∃ t,(es.take k).any (λ z=>z==x)=t:=⟨_,rfl⟩
        rw[ht] at HNx ⊢
        clear ht hz hea hcells heb hkk
        cases t with
        |true=>
         have HN1:Sl ((es.take (k+1)).any (λ z=>z==x)=true):=⟨by rw[HNx];rfl⟩
         clear HNx
         go_wp2_with fail
         go_quiet (fail)
         go_wp2
         exact⟨⟨k+1,by omega,by go_num,by rw[HN1.out],HKk.out.then' (Kp.Ap _)⟩,by simp only[intOf];omega⟩
        |false=>
         have hq:=eq_edge x z
         obtain⟨t,ht⟩:∃ t,(z==x)=t:=⟨_,rfl⟩
         rw[ht] at hq
         have HN1:Sl ((es.take (k+1)).any (λ z=>z==x)=t):=⟨by rw[HNx,Bool.false_or,ht]⟩
         have heq:∀ W',(binOp .eql 70 (.agg #[.int .i64 (z.1:Nat),.int .i64 (z.2.1:Nat),.int .i64 (z.2.2:Nat)]) (.agg #[.int .i64 (x.1:Nat),.int .i64 (x.2.1:Nat),.int .i64 (x.2.2:Nat)])).run prog W'=.ok (.bool t) W':=λ W'=>by rw[run_eql_edge,hq]
         clear HNx hq ht
         go_wp2_with fail
         go_quiet (fail)
         go_wp2
         exact⟨⟨k+1,by omega,by go_num,by rw[HN1.out],HKk.out.then' (Kp.Ap _)⟩,by simp only[intOf];omega⟩
       .have hkl':¬ (k:Int)<(EL:Int):=by omega
        obtain rfl:k=EL:=by omega
        have hall:((es.take k).any λ z=>z==x)=true:=by
         rw[List.take_of_length_le (by rw[HEL.out];omega)]
         exact HAx.out
        rw[hall]
        have hne:((x.1:Int) !=(cu:Int))=false:=by rw[HQ2.out];simp
        clear hall hkk
        go_wp2
        exact⟨⟨i+1,by omega,by go_num,by rw[HCu.out],HKi.out.then' HKk.out⟩,by simp only[intOf];omega⟩
     .have hil':¬ (i:Int)<(WL:Int):=by omega
      obtain rfl:i=WL:=by omega
      rw[HE.out]
      go_wp2
      go_ret
      exact⟨by simp,hkk⟩

end

end Go.Proofs.YtpeipocojmjbfaaGreatDoor
