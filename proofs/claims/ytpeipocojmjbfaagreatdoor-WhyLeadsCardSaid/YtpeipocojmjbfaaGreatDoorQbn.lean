/-
  Lemmas for the laws, together: WhyH.
-/
import Derived.Test.YtpeipocojmjbfaaGreatDoorQbm
set_option linter.unusedVariables false
set_option maxHeartbeats 16000000
namespace Go.Proofs.YtpeipocojmjbfaaGreatDoor
open Tryz
section
open Go.RowKit

def EK(T:Nat->Prop)(xs:List Int)(ns:List Nat):Prop:=xs=ns.map (λ g:Nat=>(g:Int))/\∀ g∈ns,T g

def WWayPost(es:List (Nat×Nat×Nat))(T:Nat->Prop)(xs:List Int)(i:Int)(w:World)(e:Ending)(w':World):Prop:=
  ((∃ ns D,EK T xs ns/\Cw es ns D/\∃ g:Nat,i=(g:Int)/\T g/\((∃ (n:Nat) (v:Value),D g=some n/\e=.returned (.tuple #[v,.int .i64 0])/\ED w' v (E5 es D n g))\/(D g=none/\e=.returned (.tuple #[.slice none 0 0,.int .i64 3]))))\/
   ((¬ (∃ ns,EK T xs ns)\/¬ ∃ g:Nat,i=(g:Int)/\T g)/\e=.returned (.tuple #[.slice none 0 0,.int .i64 2])))/\Kp Ag w w'

set_option maxRecDepth 20000 in
theorem WWay_at(P:Sp)(W:Nat->Nat)(f:Nat->Bool)(w:World)(cs:List Cel)(hsp:SpaceAt w P W f)(hc:CellsAt P W cs)(hst:∀ i,i<P.n/2->f i=Av cs i)(hms:∀ x∈P.ts,x.m<18446744073709551616)(i:Int)(v:Value)(xs:List Int)(hx:IntsIn w v xs)(hxl:xs.length<=65536):
    Calls prog 44 #[.pointer (some ⟨P.s,0,none⟩),.int .i64 i,v] w (WWayPost (AX P.ts W cs) (BJ cs) xs i w):=by
  obtain⟨va,vc,rfl⟩:=ints_slice hx
  have HOf:=sE (WOf_at P W f w cs hsp hc hst hms _ xs hx hxl)
  have HHas:Sl (∀ W',Kp Ag w W'->_):=⟨λ W' kk=>WHas_at P W f W' (hsp.Am kk) i⟩
  have HTy:Sl (CZ f (P.n/2) i=true ↔ ∃ g:Nat,i=(g:Int)/\BJ cs g):=⟨hasI_obj hc hst i⟩
  have HT:Sl (∀ g,BJ cs g->g<65536):=⟨λ g h=>by have:=Cs hc h;have:=hsp.bt.EB;omega⟩
  have HE:Sl ((∀ x∈AX P.ts W cs,x.1<65536)/\(AX P.ts W cs).length<=2147483648):=⟨λ x hx=>HT.out _ (DK hc hst hx).1,Nat.le_trans (Du cs _) (hc.to.refs_len hsp.ar.small)⟩
  have HDn:Sl (∀ ns D,EK (BJ cs) xs ns->Cw (AX P.ts W cs) ns D->∀ g n,D g=some n->n<65536):=⟨λ ns D hr hd g n hg=>by
    have h1:=(distN_lt (H:=P.n/2) hd (λ g hg=>Cs hc (hr.2 g hg)) (λ x hx=>Cs hc (DK hc hst hx).2.1) hg)
    have:=hsp.bt.EB
    omega⟩
  obtain⟨es,hes⟩:∃ es,AX P.ts W cs=es:=⟨_,rfl⟩
  rw[hes] at HOf HE HDn ⊢
  obtain⟨b,hb⟩:∃ b,CZ f (P.n/2) i=b:=⟨_,rfl⟩
  rw[hb] at HHas HTy
  clear hsp hc hst hms hes hb hx
  go_enter func44,ntmps44
  go_wp2_with fail
  refine HOf.out.mono ?_
  rintro e w1 ⟨(⟨ns,hns,hT1,gb,D,rfl,hG,hDi⟩|⟨hno,rfl⟩),k1⟩
  . have HK1:=sE k1
    have HG:=sE hG
    have HR:Sl (EK (BJ cs) xs ns):=⟨⟨hns,hT1⟩⟩
    have HDi:=sE hDi
    clear hns hT1 hG hDi k1
    go_wp2_with fail
    obtain⟨w2,hw2⟩:∃ w2,w2=w1.alloc (.cells #[.pointer (some ⟨gb,0,none⟩)] 177):=⟨_,rfl⟩
    obtain⟨bg,hbg⟩:∃ b,w1.heap.size=b:=⟨_,rfl⟩
    have k2:Kp Ag w1 w2:=by rw[hw2];exact (Kr _ w1).alloc _
    have b2:w2.heap[bg]?=some (.cells #[.pointer (some ⟨gb,0,none⟩)] 177 (0,0)):=by rw[hw2,<- hbg];exact wN w1 _
    try rw[<- hw2]
    try rw[hbg]
    have HB2:=sE b2
    have HK2:Sl (Kp Ag w w2):=⟨HK1.out.then' k2⟩
    have HG2:=sE (HG.out.Am k2)
    clear hw2 hbg k2 b2 HG HK1
    refine(HHas.out _ HK2.out).mono ?_
    rintro e w3 ⟨rfl,k3⟩
    cases b with
    |false=>
      have HNo:Sl (¬ ∃ g:Nat,i=(g:Int)/\BJ cs g):=⟨λ h=>by have:=HTy.out.2 h;cases this⟩
      go_wp2
      go_ret2
      exact⟨.inr ⟨.inr HNo.out,rfl⟩,HK2.out.then' k3⟩
    |true=>
      obtain⟨g,rfl,hTg⟩:=HTy.out.1 rfl
      have hgl:=HT.out g hTg
      have HG3:=sE (HG2.out.Am k3)
      obtain⟨mo,mi,mf,n,co,ci,hg,-,-,hm⟩:=HG3.out
      obtain⟨gc0,gc1,gc2⟩:=Dl hg
      have cb:=cell_of_one (k3.at_ HB2.out (λ h=>h))
      have hlk:=hm.lookOk (g:=g) (by omega) Bb (zeroFar _)
      have HTg:=sE hTg
      have HB3:=sE (k3.at_ HB2.out (λ h=>h))
      have HK3:=sE (HK2.out.then' k3)
      cases hD:D g with
      |none=>
        have hfv:Cu D g=none:=by unfold Cu;rw [hD];rfl
        rw[hfv] at hlk
        simp only[Option.getD_none,Option.isSome_none] at hlk
        have HD:=sE hD
        clear hD hfv hm hg hTg k3
        go_wp2
        go_ret2
        exact⟨.inl ⟨ns,D,HR.out,HDi.out,g,rfl,HTg.out,.inr ⟨HD.out,rfl⟩⟩,HK3.out⟩
      |some n=>
        have hfv:Cu D g=some (.int .i64 (n:Nat)):=by unfold Cu;rw [hD];rfl
        rw[hfv] at hlk
        simp only[Option.getD_some,Option.isSome_some] at hlk
        have HD:=sE hD
        have hn:=HDn.out ns D HR.out HDi.out g n hD
        clear hD hfv hm hg hTg k3
        go_wp2_with fail
        obtain⟨w4,hw4⟩:∃ w4,w4=w3.alloc (.cells #[.func (.func 99) #[] #[.pointer (some ⟨bg,0,none⟩),.pointer (some ⟨w3.heap.size,0,none⟩)]] 194):=⟨_,rfl⟩
        have k4:Kp Ag w3 w4:=by rw[hw4];exact (Kr _ w3).alloc _
        have HV:Sl (WayEnv w4 bg w3.heap.size gb es D):=⟨k4.at_ HB3.out (λ h=>h),by rw[hw4];exact wN w3 _,HG3.out.Am k4⟩
        try rw[<- hw4]
        have HK4:=sE (HK3.out.then' k4)
        clear hw4 k4
        refine(WWay1_at es D bg _ gb HE.out.1 HE.out.2 n g w4 HV.out HD.out hgl hn).mono ?_
        rintro e w5 ⟨v,rfl,ho,k5⟩
        have HRw:=sE (ED.BG ho)
        clear ho
        go_wp2
        go_ret2
        exact⟨.inl ⟨ns,D,HR.out,HDi.out,g,rfl,HTg.out,.inl ⟨n,v,HD.out,rfl,HRw.out⟩⟩,HK4.out.then' k5⟩
  . have HNo:=sE hno
    have HK1:=sE k1
    clear hno k1
    go_wp2
    go_ret2
    exact⟨.inr ⟨.inl (λ ⟨ms,h⟩=>HNo.out ⟨ms,h.1,h.2⟩),rfl⟩,HK1.out.alloc _⟩

end

end Go.Proofs.YtpeipocojmjbfaaGreatDoor
