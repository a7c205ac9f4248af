/-
  Lemmas for the laws, together: WhyFar.
-/
import Derived.Test.YtpeipocojmjbfaaGreatDoorQbj
import Derived.Test.YtpeipocojmjbfaaGreatDoorQbk
import Derived.Maps.RangeWalk
set_option linter.unusedVariables false
set_option maxHeartbeats 16000000
namespace Go.Proofs.YtpeipocojmjbfaaGreatDoor
open Tryz
section
open Go.RowKit Go.Maps

def mkD(D:Nat->Option Nat)(g:Nat):Ce:=(⟨g%65536,Nat.mod_lt _ (by decide)⟩,(D g).getD 0)

def dLq(D:Nat->Option Nat)(H:Nat):List Ce:=(setL (λ g=>(D g).isSome) H).map (mkD D)

theorem sorted_uniqD:∀ {A B:List Ce},A.Pairwise (λ a b=>a.1.val<b.1.val)->B.Pairwise (λ a b=>a.1.val<b.1.val)->(∀ x,x∈A ↔ x∈B)->A=B
  |[],[],_,_,_=>rfl
  |[],b::B,_,_,h=>absurd ((h b).2 (by simp)) (by simp)
  |a::A,[],_,_,h=>absurd ((h a).1 (by simp)) (by simp)
  |a::A,b::B,ha,hb,h=>by
    obtain⟨a1,a2⟩:=List.pairwise_cons.1 ha
    obtain⟨b1,b2⟩:=List.pairwise_cons.1 hb
    have e:a=b:=by
      rcases List.mem_cons.1 ((h a).1 (by simp)) with e|e
      . exact e
      . rcases List.mem_cons.1 ((h b).2 (by simp)) with e'|e'
        . exact e'.symm
        . have:=a1 b e'
          have:=b1 a e
          omega
    subst e
    rw[sorted_uniqD a2 b2 λ x=>?_]
    constructor
    . intro hx
      rcases List.mem_cons.1 ((h x).1 (by simp[hx])) with e|e
      . subst e
        have:=a1 x hx
        omega
      . exact e
    . intro hx
      rcases List.mem_cons.1 ((h x).2 (by simp[hx])) with e|e
      . subst e
        have:=b1 x hx
        omega
      . exact e

theorem setL_mem{f:Nat->Bool}{H g:Nat}:g∈setL f H ↔ g<H/\f g=true:=by
  unfold setL
  rw[List.mem_filter,List.mem_range]

theorem setL_up(f:Nat->Bool)(H:Nat):(setL f H).Pairwise (· <·):=by
  unfold setL
  exact List.Pairwise.filter _ List.pairwise_lt_range

theorem distL_up{D:Nat->Option Nat}{H:Nat}(hH:H<=65536):(dLq D H).Pairwise (λ a b=>a.1.val<b.1.val):=by
  unfold dLq
  rw[List.pairwise_map]
  refine(setL_up _ H).imp_of_mem λ {a b} ha hb h=>?_
  have h1:=(setL_mem.1 ha).1
  have h2:=(setL_mem.1 hb).1
  show a%65536<b%65536
  rw[Nat.mod_eq_of_lt (by omega),Nat.mod_eq_of_lt (by omega)]
  exact h

theorem distL_of{D:Nat->Option Nat}{H:Nat}(hH:H<=65536)(hD:∀ g,(D g).isSome=true->g<H){ss:List Nat}{M:List Ce}(hn:ss.Nodup)(hs:∀ g,g∈ss ↔ (D g).isSome=true)(hp:M.Perm (ss.map (mkD D)))(hm:M.Pairwise λ a b=>a.1.val<=b.1.val):M=dLq D H:=by
  have hlt:∀ g∈ss,g<65536:=λ g hg=>by have:=hD g ((hs g).1 hg);omega
  have hnd:(M.map λ a=>a.1.val).Nodup:=by
    refine((hp.map λ a=>a.1.val).nodup_iff).2 ?_
    rw[List.map_map]
    refine List.pairwise_map.2 (hn.imp_of_mem λ {a b} ha hb h=>?_)
    show ¬ a%65536=b%65536
    rw[Nat.mod_eq_of_lt (hlt a ha),Nat.mod_eq_of_lt (hlt b hb)]
    exact h
  refine sorted_uniqD ((List.Pairwise.and hm (List.pairwise_map.1 hnd)).imp λ h=>by omega) (distL_up hH) λ x=>?_
  rw[hp.mem_iff]
  unfold dLq
  rw[List.mem_map,List.mem_map]
  refine exists_congr λ g=>and_congr_left λ_=>?_
  rw[hs,setL_mem]
  exact⟨λ h=>⟨hD g h,h⟩,λ h=>h.2⟩

def RowD(w:World)(v:Value)(L:List Ce):Prop:=
  ∃ a cap,v=.slice a L.length cap/\∀ i x,L[i]?=some x->∃ b,a=some ⟨b,0,none⟩/\b<w.heap.size/\w.cell? ⟨b,i*2,none⟩=some (.int .i64 (x.1.val:Nat))/\w.cell? ⟨b,i*2+1,none⟩=some (.int .i64 (x.2:Nat))

theorem RowD.BG{w:World}{base:Nat}{v:Value}{L:List Ce}(h:w.ownsRow base 97 2 v L.length (CX L)):RowD w v L:=by
  rcases h.2 with ⟨rfl,h0⟩|⟨g,cap,cur,rfl,g2,g3,g4,g5,g6,g7⟩
  . exact⟨none,0,by rw[h0],λ i x hx=>by have:=(gE.1 hx).1;omega⟩
  . refine⟨some ⟨g,0,none⟩,cap,rfl,λ i x hx=>?_⟩
    have hi:=(gE.1 hx).1
    obtain⟨x0,x1⟩:=flatD_at L i x hx
    have key:∀ j,j<L.length*2->w.cell? ⟨g,j,none⟩=(CX L)[j]?:=λ j hj=>by
      rw[<- g7,List.getElem?_take_of_lt hj]
      simp[World.cell?,g3]
    exact⟨g,rfl,lZ g3,by rw[key _ (by omega)];exact x0,by rw[key _ (by omega)];exact x1⟩

theorem RowD.Am{w w':World}{v:Value}{L:List Ce}(h:RowD w v L)(k:Kp Ag w w'):RowD w' v L:=by
  obtain⟨a,cap,rfl,h⟩:=h
  refine⟨a,cap,rfl,λ i x hi=>?_⟩
  obtain⟨b,rfl,h1,h2,h3⟩:=h i x hi
  exact⟨b,rfl,Nat.lt_of_lt_of_le h1 k.size,k.cell h2 (λ h=>h),k.cell h3 (λ h=>h)⟩

theorem underlyingDists:prog.underlying 93=some (.slice 97):=by kernel_rfl

theorem infoDist:(prog.info? 97).map (λ i=>(i.zero,i.size,i.bytes))=some (some (.agg #[.int .i64 0,.int .i64 0]),2,16):=by kernel_rfl

theorem nodup_lt:∀ (H:Nat) (ss:List Nat),ss.Nodup->(∀ g∈ss,g<H)->ss.length<=H
  |0,[],_,_=>Nat.le_refl _
  |0,a::ss,_,h=>absurd (h a (by simp)) (by omega)
  |H+1,ss,hn,h=>by
    by_cases hm:H∈ss
    . have h1:=nodup_lt H (ss.erase H) (hn.erase H) (λ g hg=>by
        obtain⟨q1,q2⟩:=hn.mem_erase_iff.1 hg
        have:=h g q2
        omega)
      rw[List.length_erase_of_mem hm] at h1
      omega
    . have h1:=nodup_lt H ss hn (λ g hg=>by
        have h2:=h g hg
        have:¬ g=H:=λ e=>hm (e▸hg)
        omega)
      omega

def WFarPost(es:List (Nat×Nat×Nat))(T:Nat->Prop)(xs:List Int)(H:Nat)(w:World)(e:Ending)(w':World):Prop:=
  ((∃ ns:List Nat,xs=ns.map (λ g:Nat=>(g:Int))/\(∀ g∈ns,T g)/\∃ v D,e=.returned (.tuple #[v,.int .i64 0])/\Cw es ns D/\RowD w' v (dLq D H))\/
   (¬ (∃ ns:List Nat,xs=ns.map (λ g:Nat=>(g:Int))/\∀ g∈ns,T g)/\e=.returned (.tuple #[.slice none 0 0,.int .i64 2])))/\Kp Ag w w'

theorem Cw.to{es:List (Nat×Nat×Nat)}{ns:List Nat}{D:Nat->Option Nat}(h:Cw es ns D){T:Nat->Prop}(hn:∀ g∈ns,T g)(he:∀ x∈es,T x.2.2){g:Nat}(hg:(D g).isSome=true):T g:=by
  obtain⟨n,hs⟩:=h.reach.1 hg
  cases hs with
  |root h=>exact hn _ h
  |step _ h=>exact he _ h

theorem Ca.entry{c:Nat->Option Value}{Dm:DataW Value}(hD:∀ g:Nat,g<9223372036854775808->∀ zd,Dm.atKey (.int .i64 (g:Nat)) zd=((c g).map DataW.held).getD zd)(hneg:∀ x:Int,x<0->∀ zd,Dm.atKey (.int .i64 x) zd=zd){x:Int}{e:Value}{y:DataW Value×List MemPlace}(hwf:(Lit.int .i64 x).wf=true)(hv:heldE e=some y)(hat:∀ zd,Dm.atKey (.int .i64 x) zd=y.1):
    ∃ g:Nat,x=(g:Int)/\g<9223372036854775808/\c g=some e:=by
  have hx:=wfN_inv hwf
  have h0:0<=x:=by
    by_cases h:0<=x
    . exact h
    . have h1:=has_true_of_atKey hat
      have h2:=has_false_of_atKey (hneg x (by omega))
      rw[h1] at h2
      cases h2
  obtain⟨g,rfl⟩:=Int.eq_ofNat_of_zero_le h0
  refine⟨g,rfl,by omega,?_⟩
  have h1:=hat (.nil)
  have h2:=hD g (by omega) .nil
  rw[h1] at h2
  have h3:y.1=.held e:=by
    unfold heldE at hv
    injection hv with hv
    rw[<- hv]
  rw[h3] at h2
  cases hc:c g with
  |none=>rw [hc] at h2;cases h2
  |some u=>rw [hc] at h2;injection h2 with h2;rw [h2]

theorem Ca.has_eqP{D:DataW Value}{c:Nat->Option Value}(h:∀ g:Nat,g<9223372036854775808->∀ zd,D.atKey (.int .i64 (g:Nat)) zd=((c g).map DataW.held).getD zd){g:Nat}(hg:g<9223372036854775808):has D (.int .i64 (g:Nat))=(c g).isSome:=Ad.has_eq h hg

set_option maxRecDepth 20000 in
theorem WFar_at(P:Sp)(W:Nat->Nat)(f:Nat->Bool)(w:World)(cs:List Cel)(hsp:SpaceAt w P W f)(hc:CellsAt P W cs)(hst:∀ i,i<P.n/2->f i=Av cs i)(hms:∀ x∈P.ts,x.m<18446744073709551616)(v:Value)(xs:List Int)(hx:IntsIn w v xs)(hxl:xs.length<=65536):
    Calls prog 41 #[.pointer (some ⟨P.s,0,none⟩),v] w (WFarPost (AX P.ts W cs) (BJ cs) xs (P.n/2) w):=by
  have HOf:=sE (WOf_at P W f w cs hsp hc hst hms v xs hx hxl)
  obtain⟨va,vc,rfl⟩:=ints_slice hx
  obtain⟨H,hH⟩:∃ H,P.n/2=H:=⟨_,rfl⟩
  obtain⟨es,hes⟩:∃ es,AX P.ts W cs=es:=⟨_,rfl⟩
  have hH65:H<=65536:=by have:=hsp.bt.EB;omega
  have HT:Sl ((∀ g,BJ cs g->g<H)/\∀ x∈es,BJ cs x.2.2):=⟨by
    rw[<- hH,<- hes]
    exact⟨λ g h=>Cs hc h,λ x hx=>(DK hc hst hx).2.1⟩⟩
  rw[hes] at HOf ⊢
  rw[hH]
  obtain⟨T,hT⟩:∃ T,BJ cs=T:=⟨_,rfl⟩
  rw[hT] at HT HOf ⊢
  clear hsp hc hst hms hx hH hes hT
  go_enter func41,ntmps41
  go_wp2_with fail
  refine HOf.out.mono ?_
  rintro e w1 ⟨(⟨ns,hns,hT1,gb,D,rfl,hG,hDi⟩|⟨hno,rfl⟩),k1⟩
  . have HNs:=sE (And.intro hns hT1)
    have HDi:=sE hDi
    have HK1:=sE k1
    have HDl:Sl (∀ g,(D g).isSome=true->g<H):=⟨λ g hg=>HT.out.1 g (hDi.to hT1 HT.out.2 hg)⟩
    obtain⟨mo,mi,mf,n,co,ci,hg,-,-,hm⟩:=hG
    obtain⟨gc0,gc1,gc2⟩:=Dl hg
    have hmf:=hm.lt
    obtain⟨Dm,hown,hD,hneg⟩:=hm
    have HD:=sE (And.intro hD hneg)
    clear hns hT1 hDi k1 hD hneg hg
    go_wp2_with (first|(at_range;refine wpList_range_own _ rfl _ 181 rfl 3 3 (int_keyed underlying3) Bb _ mf n _ rfl hown ?_;intro w0 hrg0 hg0 hs0))
    go_frame
    obtain⟨rb,hrb⟩:∃ b,w1.heap.size=b:=⟨_,rfl⟩
    have K0:Kp Ag w1 w0:=(Kr Ag w1).grown hg0 (λ k e _=>by cases e)
    rw[hrb] at hrg0 hs0 hmf ⊢
    have HK0:Sl (Kp Ag w w0):=⟨HK1.out.then' K0⟩
    have HRb:Sl (w.heap.size<=rb):=⟨by have:=HK1.out.size;omega⟩
    have HOw:=sE hown
    clear hown hg0 K0 hrb gc0 gc1 gc2
    go_loopw [4] (λ x4 wr=>∃ (left:Lit->Bool) (cnt:Nat) (ss:List Nat),wr.ranges prog 3 heldE mf rb n Dm left cnt/\CollI Dm left ss/\wr.ownsRow (rb+1) 97 2 x4 ss.length (CX (ss.map (mkD D)))/\Kp (λ k=>k=rb\/rb+1<=k) w0 wr) (λ _ wr=>wr.rangeLeft mf rb)
    case atStart=>exact ⟨_,_,[],hrg0,CollI.start Dm,World.ownsRow_nil _ _ _ _,Kr _ _⟩
    case round=>
      obtain⟨left,cnt,ss,hrg,hC,hro,hkk⟩:=hrel
      obtain⟨ra,rc,rfl⟩:=Ba hro
      have HC:=sE hC
      have HRo:=sE hro
      have HKK:=sE hkk
      have hzr:=hkk.size
      have hss:∀ g∈ss,(D g).isSome=true:=λ g hg=>by
        have h1:=(hC.2 g).1 hg
        have h2:=h1.2.1
        rw[Ca.has_eqP HD.out.1 h1.1] at h2
        unfold Cu at h2
        simpa using h2
      have HSl:Sl (ss.length<=H):=⟨by
        exact nodup_lt H ss hC.1 (λ g hg=>HDl.out g (hss g hg))⟩
      clear hC hro hkk hrg0
      go_wp2_with (first|(at_next;refine wpList_next_ranges _ rfl _ rfl 3 (int_keyed underlying3) heldE (Value.int .i64) id (λ key kl hk=>by obtain⟨x,hx,_⟩:=Maps.keyOf_int_inv underlying3 hk;exact ⟨x,hx⟩) (λ v _ _=>⟨v,rfl⟩) mf rb n _ _ _ rfl hrg ?_ ?_))
      . intro hc0 hl0
        have HSs:Sl (∀ g,g∈ss ↔ (D g).isSome=true):=⟨λ g=>by
          rw[HC.out.2 g,hl0]
          constructor
          . rintro ⟨h1,h2,-⟩
            rw[Ca.has_eqP HD.out.1 h1] at h2
            unfold Cu at h2
            simpa using h2
          . intro h
            have:=HDl.out g h
            refine⟨by omega,?_,rfl⟩
            rw[Ca.has_eqP HD.out.1 (by omega)]
            unfold Cu
            simpa using h⟩
        have HSo:=sE (SortDists_at (rb+1) (.slice ra ss.length rc) (ss.map (mkD D)) wr (by rw[List.length_map];exact HRo.out) (by rw[List.length_map];have:=HSl.out;omega))
        clear hl0 hrg hss
        go_wp2_with fail
        refine HSo.out.mono ?_
        rintro e w3 ⟨rfl,M,hp,hm,ho,k3⟩
        have HM:Sl (M=dLq D H):=⟨distL_of hH65 HDl.out HC.out.1 HSs.out hp hm⟩
        have hml:M.length=ss.length:=by rw[hp.length_eq,List.length_map]
        rw[hml] at ho
        have HRd:Sl (RowD w3 (.slice ra ss.length rc) (dLq D H)):=⟨by
          rw[<- HM.out]
          exact RowD.BG (base:=rb+1) (by rw[hml];exact ho)⟩
        have HK3:Sl (Kp Ag w w3):=⟨(HK0.out.trans HKK.out (λ b hb h=>by have:=HRb.out;omega)).trans k3 (λ b hb h=>by have:=(Ab HRo.out h).1;have:=HRb.out;omega)⟩
        clear hp hm ho k3 hml
        go_wp2
        go_ret2
        exact⟨.inl ⟨ns,HNs.out.1,HNs.out.2,_,D,rfl,HDi.out,HRd.out⟩,HK3.out⟩
      . intro x e kl yd yp w2 cnt2 hkey hlk hv hat hrg2 hlt hg2 hs2 hen
        obtain⟨x',ex,rfl,hwf⟩:=Maps.keyOf_int_inv underlying3 hkey
        obtain rfl:x=x':=by simpa using ex
        obtain⟨g,rfl,hg,hfg⟩:=Ca.entry HD.out.1 HD.out.2 hwf hv (λ zd=>hat zd)
        obtain⟨d,hd,rfl⟩:∃ d,D g=some d/\e=.int .i64 (d:Nat):=by
          unfold Cu at hfg
          cases h:D g with
          |none=>rw [h] at hfg;cases hfg
          |some d=>rw [h] at hfg;exact ⟨d,rfl,by injection hfg with hfg;exact hfg.symm⟩
        have hgH:=HDl.out g (by rw[hd];rfl)
        have HC2:=sE (HC.out.step hg hlk hat)
        have k2:Kp (λ k=>k=rb) wr w2:=(Kr _ wr).grown hg2 (λ k e _=>by injection e with e;exact e.symm)
        have HRg:=sE hrg2
        have HLt:Sl (cnt2<wr.rangeLeft mf rb):=⟨by rw[hrg.left_eq];exact hlt⟩
        have HR2:=sE (Ac HRo.out k2 (λ b hb h=>by have:=(Ab HRo.out hb).1;omega))
        have HMk:Sl (mkD D g=((⟨g%65536,Nat.mod_lt _ (by decide)⟩:Fin 65536),d)):=⟨by unfold mkD;rw [hd];rfl⟩
        have hz2:=k2.size
        have HK2:=sE (HKK.out.trans k2 (λ b hb h=>.inl h))
        have hmod:g%65536=g:=Nat.mod_eq_of_lt (by omega)
        have hsl:=HSl.out
        have hsz2:rb+1<=w2.heap.size:=by omega
        clear hs2 hkey hlk hv hat hrg2 hrg hlt hg2 hwf ex hfg k2 hss hd hg
        go_wp2_with (at_builtin;obtain ⟨i0,hi,hz0,hz1,hz2⟩:=info_parts infoDist;go_loud (refine wpList_append_own_at _ rfl (.tmp 28) (.tmp 32) 93 rfl (rb+1) 97 i0 _ 2 16 underlyingDists hi hz0 hz1 hz2 rfl (by omega) (.slice ra ss.length rc) ss.length (CX (ss.map (mkD D))) rfl (HR2.out.alloc _) ⟨w2.heap.size,0,none⟩ 1 1 [.int .i64 (g:Nat),.int .i64 (d:Nat)] rfl rfl (World.news_of_block (wN w2 _)) (by intro u hu;simp at hu;rcases hu with rfl|rfl <;> rfl) (by unfold maxLen;omega) (by omega) (by simp;omega) ?_);intro v' w3 hown3 hgrow hnl hat3;obtain ⟨na,nc,rfl⟩:=Ba hown3;clear hi hz0 hz1 hz2)
        have KA:Kp (λ k=>(Value.slice ra ss.length rc).ownBlock=some k) w2 w3:=(((Kr Ag w2).alloc _).AA _).grown hgrow (λ k e _=>e)
        have hb1:∀ k,(Value.slice ra ss.length rc).ownBlock=some k->rb+1<=k:=λ k hk=>(Ab HR2.out hk).1
        have hrg3:=ranges_keepI HRg.out KA (λ h=>by have:=hb1 _ h;omega) (λ h=>by have:=hb1 _ h;omega)
        have HR3:Sl (w3.ownsRow (rb+1) 97 2 (.slice na (ss.length+1) nc) (ss++[g]).length (CX ((ss++[g]).map (mkD D)))):=⟨by
          have e1:CX ((ss++[g]).map (mkD D))=CX (ss.map (mkD D))++[.int .i64 (g:Nat),.int .i64 (d:Nat)]:=by
            rw[List.map_append]
            show CX (ss.map (mkD D)++[mkD D g])=_
            unfold CX
            rw[List.flatMap_append,HMk.out]
            simp[encD,hmod]
          rw[e1,List.length_append]
          exact hown3⟩
        have HRg3:=sE hrg3
        have HK3:=sE (HK2.out.trans KA (λ b hb h=>.inr (hb1 b h)))
        clear hown3 hgrow hnl hat3 KA hb1 hrg3
        go_wp2
        exact⟨⟨_,cnt2,ss++[g],HRg3.out,HC2.out,HR3.out,HK3.out⟩,by rw[HRg3.out.left_eq];exact HLt.out⟩
  . have HNo:=sE hno
    clear hno
    go_wp2
    go_ret2
    exact⟨.inr ⟨HNo.out,rfl⟩,k1⟩

end

end Go.Proofs.YtpeipocojmjbfaaGreatDoor
