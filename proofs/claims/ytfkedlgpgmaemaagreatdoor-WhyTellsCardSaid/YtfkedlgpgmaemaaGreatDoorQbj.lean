/-
  Lemmas for the laws, together: WhyFar, WhyWay, WhyH.
-/
import Derived.Test.YtfkedlgpgmaemaaGreatDoorQbh
import Derived.Test.YtfkedlgpgmaemaaGreatDoorQbi
import Derived.Maps.RangeWalk
set_option linter.unusedVariables false
set_option maxHeartbeats 16000000
namespace Go.Proofs.YtfkedlgpgmaemaaGreatDoor
open Tryz
section
open Go.RowKit Go.Maps

def mkD(D:Nat->Option Nat)(g:Nat):Gl:=(⟨g%65536,Nat.mod_lt _ (by decide)⟩,(D g).getD 0)

def distL(D:Nat->Option Nat)(H:Nat):List Gl:=(setL (λ g=>(D g).isSome) H).map (mkD D)

theorem sorted_uniqD:∀ {A B:List Gl},A.Pairwise (λ a b=>a.1.val<b.1.val)->B.Pairwise (λ a b=>a.1.val<b.1.val)->(∀ x,x∈A ↔ x∈B)->A=B
  |[],[],_,_,_=>rfl
  |[],b::B,_,_,h=>absurd ((h b).2 (by simp)) (by simp)
  |a::A,[],_,_,h=>absurd ((h a).1 (by simp)) (by simp)
  |a::A,b::B,ha,hb,h=>by
    obtain⟨a1,a2⟩:=List.pairwise_cons.1 ha
    obtain⟨b1,b2⟩:=List.pairwise_cons.1 hb
    have e:a=b:=by
      rcases List.mem_cons.1 ((h a).1 (by simp)) with e|e
      . exact e
      . rcases List.mem_cons.1 ((h b).2 (by simp)) with e'|e'
        . exact e'.symm
        . have:=a1 b e'
          have:=b1 a e
          omega
    subst e
    rw[sorted_uniqD a2 b2 λ x=>?_]
    constructor
    . intro hx
      rcases List.mem_cons.1 ((h x).1 (by simp[hx])) with e|e
      . subst e
        have:=a1 x hx
        omega
      . exact e
    . intro hx
      rcases List.mem_cons.1 ((h x).2 (by simp[hx])) with e|e
      . subst e
        have:=b1 x hx
        omega
      . exact e

theorem setL_mem{f:Nat->Bool}{H g:Nat}:g∈setL f H ↔ g<H/\f g=true:=by
  unfold setL
  rw[List.mem_filter,List.mem_range]

theorem setL_up(f:Nat->Bool)(H:Nat):(setL f H).Pairwise (· <·):=by
  unfold setL
  exact List.Pairwise.filter _ List.pairwise_lt_range

theorem distL_up{D:Nat->Option Nat}{H:Nat}(hH:H<=65536):(distL D H).Pairwise (λ a b=>a.1.val<b.1.val):=by
  unfold distL
  rw[List.pairwise_map]
  refine(setL_up _ H).imp_of_mem λ {a b} ha hb h=>?_
  have h1:=(setL_mem.1 ha).1
  have h2:=(setL_mem.1 hb).1
  show a%65536<b%65536
  rw[Nat.mod_eq_of_lt (by omega),Nat.mod_eq_of_lt (by omega)]
  exact h

theorem distL_of{D:Nat->Option Nat}{H:Nat}(hH:H<=65536)(hD:∀ g,(D g).isSome=true->g<H){ss:List Nat}{M:List Gl}(hn:ss.Nodup)(hs:∀ g,g∈ss ↔ (D g).isSome=true)(hp:M.Perm (ss.map (mkD D)))(hm:M.Pairwise λ a b=>a.1.val<=b.1.val):M=distL D H:=by
  have hlt:∀ g∈ss,g<65536:=λ g hg=>by have:=hD g ((hs g).1 hg);omega
  have hnd:(M.map λ a=>a.1.val).Nodup:=by
    refine((hp.map λ a=>a.1.val).nodup_iff).2 ?_
    rw[List.map_map]
    refine List.pairwise_map.2 (hn.imp_of_mem λ {a b} ha hb h=>?_)
    show ¬ a%65536=b%65536
    rw[Nat.mod_eq_of_lt (hlt a ha),Nat.mod_eq_of_lt (hlt b hb)]
    exact h
  refine sorted_uniqD ((List.Pairwise.and hm (List.pairwise_map.1 hnd)).imp λ h=>by omega) (distL_up hH) λ x=>?_
  rw[hp.mem_iff]
  unfold distL
  rw[List.mem_map,List.mem_map]
  refine exists_congr λ g=>and_congr_left λ_=>?_
  rw[hs,setL_mem]
  exact⟨λ h=>⟨hD g h,h⟩,λ h=>h.2⟩

def RowD(w:World)(v:Value)(L:List Gl):Prop:=
  ∃ a cap,v=.slice a L.length cap/\∀ i x,L[i]?=some x->∃ b,a=some ⟨b,0,none⟩/\b<w.heap.size/\w.cell? ⟨b,i*2,none⟩=some (.int .i64 x.1.val)/\w.cell? ⟨b,i*2+1,none⟩=some (.int .i64 x.2)

theorem RowD.Bc{w:World}{base:Nat}{v:Value}{L:List Gl}(h:w.ownsRow base 99 2 v L.length (Gj L)):RowD w v L:=by
  rcases h.2 with ⟨rfl,h0⟩|⟨g,cap,cur,rfl,g2,g3,g4,g5,g6,g7⟩
  . exact⟨none,0,by rw[h0],λ i x hx=>by have:=(gE.1 hx).1;omega⟩
  . refine⟨some ⟨g,0,none⟩,cap,rfl,λ i x hx=>?_⟩
    have hi:=(gE.1 hx).1
    obtain⟨x0,x1⟩:=flatD_at L i x hx
    have key:∀ j,j<L.length*2->w.cell? ⟨g,j,none⟩=(Gj L)[j]?:=λ j hj=>by
      rw[<- g7,List.getElem?_take_of_lt hj]
      simp[World.cell?,g3]
    exact⟨g,rfl,lZ g3,by rw[key _ (by omega)];exact x0,by rw[key _ (by omega)];exact x1⟩

theorem underlyingDists:prog.underlying 88=some (.slice 99):=by kernel_rfl

theorem infoDist:(prog.info? 99).map (λ i=>(i.zero,i.size,i.bytes))=some (some (.agg #[(0:Int),(0:Int)]),2,16):=by kernel_rfl

theorem nodup_lt:∀ (H:Nat) (ss:List Nat),ss.Nodup->(∀ g∈ss,g<H)->ss.length<=H
  |0,[],_,_=>Nat.le_refl _
  |0,a::ss,_,h=>absurd (h a (by simp)) (by omega)
  |H+1,ss,hn,h=>by
    by_cases hm:H∈ss
    . have h1:=nodup_lt H (ss.erase H) (hn.erase H) (λ g hg=>by
        obtain⟨q1,q2⟩:=hn.mem_erase_iff.1 hg
        have:=h g q2
        omega)
      rw[List.length_erase_of_mem hm] at h1
      omega
    . have h1:=nodup_lt H ss hn (λ g hg=>by
        have h2:=h g hg
        have:¬ g=H:=λ e=>hm (e▸hg)
        omega)
      omega

def WFarPost(es:List (Nat×Nat×Nat))(T:Nat->Prop)(xs:List Int)(H:Nat)(w:World)(e:Ending)(w':World):Prop:=
  ((∃ ns:List Nat,xs=ns.map (λ g:Nat=>(g:Int))/\(∀ g∈ns,T g)/\∃ v D,e=.returned (.tuple #[v,(0:Int)])/\Gg es ns D/\RowD w' v (distL D H))\/
   (¬ (∃ ns:List Nat,xs=ns.map (λ g:Nat=>(g:Int))/\∀ g∈ns,T g)/\e=.returned (.tuple #[.slice none 0 0,(2:Int)])))/\Kp Aa w w'

theorem Gg.to{es:List (Nat×Nat×Nat)}{ns:List Nat}{D:Nat->Option Nat}(h:Gg es ns D){T:Nat->Prop}(hn:∀ g∈ns,T g)(he:∀ x∈es,T x.2.2){g:Nat}(hg:(D g).isSome=true):T g:=by
  obtain⟨n,hs⟩:=h.reach.1 hg
  cases hs with
  |root h=>exact hn _ h
  |step _ h=>exact he _ h

theorem BS.entry{c:Nat->Option Value}{Dm:DataW Value}(hD:∀ g:Nat,g<9223372036854775808->∀ zd,Dm.atKey (.int .i64 g) zd=((c g).map DataW.held).getD zd)(hneg:∀ x:Int,x<0->∀ zd,Dm.atKey (.int .i64 x) zd=zd){x:Int}{e:Value}{y:DataW Value×List MemPlace}(hwf:(Lit.int .i64 x).wf=true)(hv:heldE e=some y)(hat:∀ zd,Dm.atKey (.int .i64 x) zd=y.1):
    ∃ g:Nat,x=(g:Int)/\g<9223372036854775808/\c g=some e:=by
  have hx:=wfN_inv hwf
  have h0:0<=x:=by
    by_cases h:0<=x
    . exact h
    . have h1:=has_true_of_atKey hat
      have h2:=has_false_of_atKey (hneg x (by omega))
      rw[h1] at h2
      cases h2
  obtain⟨g,rfl⟩:=Int.eq_ofNat_of_zero_le h0
  refine⟨g,rfl,by omega,?_⟩
  have h1:=hat (.nil)
  have h2:=hD g (by omega) .nil
  rw[h1] at h2
  have h3:y.1=.held e:=by
    unfold heldE at hv
    injection hv with hv
    rw[<- hv]
  rw[h3] at h2
  cases hc:c g with
  |none=>rw [hc] at h2;cases h2
  |some u=>rw [hc] at h2;injection h2 with h2;rw [h2]

theorem BS.has_eqP{D:DataW Value}{c:Nat->Option Value}(h:∀ g:Nat,g<9223372036854775808->∀ zd,D.atKey (.int .i64 g) zd=((c g).map DataW.held).getD zd){g:Nat}(hg:g<9223372036854775808):has D (.int .i64 g)=(c g).isSome:=Ca.has_eq h hg

set_option maxRecDepth 20000 in
theorem WFar_at(P:Sp)(W:Nat->Nat)(f:Nat->Bool)(w:World)(cs:List Cel)(hsp:SpaceAt w P W f)(hc:CellsAt P W cs)(hst:∀ i,i<P.n/2->f i=Ak cs i)(hms:∀ x∈P.ts,x.m<18446744073709551616)(v:Value)(xs:List Int)(hx:IntsIn w v xs)(hxl:xs.length<=65536):
    Calls prog 39 #[.pointer (some P.s),v] w (WFarPost (AP P.ts W cs) (CL cs) xs (P.n/2) w):=by
  have HOf:=sE (WOf_at P W f w cs hsp hc hst hms v xs hx hxl)
  obtain⟨va,vc,rfl⟩:=ints_slice hx
  obtain⟨H,hH⟩:∃ H,P.n/2=H:=⟨_,rfl⟩
  obtain⟨es,hes⟩:∃ es,AP P.ts W cs=es:=⟨_,rfl⟩
  have hH65:H<=65536:=by have:=hsp.bt.FQ;omega
  have HT:Sl ((∀ g,CL cs g->g<H)/\∀ x∈es,CL cs x.2.2):=⟨by
    rw[<- hH,<- hes]
    exact⟨λ g h=>CV hc h,λ x hx=>(Ep hc hst hx).2.1⟩⟩
  rw[hes] at HOf ⊢
  rw[hH]
  obtain⟨T,hT⟩:∃ T,CL cs=T:=⟨_,rfl⟩
  rw[hT] at HT HOf ⊢
  clear hsp hc hst hms hx hH hes hT
  go_enter func39,ntmps39
  go_wp2_with fail
  refine HOf.o.mono ?_
  rintro e w1 ⟨(⟨ns,hns,hT1,gb,D,rfl,hG,hDi⟩|⟨hno,rfl⟩),k1⟩
  . have HNs:=sE (And.intro hns hT1)
    have HDi:=sE hDi
    have HK1:=sE k1
    have HDl:Sl (∀ g,(D g).isSome=true->g<H):=⟨λ g hg=>HT.o.1 g (hDi.to hT1 HT.o.2 hg)⟩
    obtain⟨mo,mi,mf,n,co,ci,hg,-,-,hm⟩:=hG
    obtain⟨gc0,gc1,gc2⟩:=Gy hg
    have hmf:=hm.lt
    obtain⟨Dm,hown,hD,hneg⟩:=hm
    have HD:=sE (And.intro hD hneg)
    clear hns hT1 hDi k1 hD hneg hg
    go_wp2_with (first|(at_range;refine wpList_range_own _ rfl _ 167 rfl 3 3 (int_keyed underlying3) Gd _ mf n _ rfl hown ?_;intro w0 hrg0 hg0 hs0))
    go_frame
    obtain⟨rb,hrb⟩:∃ b,w1.heap.size=b:=⟨_,rfl⟩
    have K0:Kp Aa w1 w0:=(Kr Aa w1).grown hg0 (λ k e _=>by cases e)
    rw[hrb] at hrg0 hs0 hmf ⊢
    have HK0:Sl (Kp Aa w w0):=⟨HK1.o.then' K0⟩
    have HRb:Sl (w.heap.size<=rb):=⟨by have:=HK1.o.size;omega⟩
    have HOw:=sE hown
    clear hown hg0 K0 hrb gc0 gc1 gc2
    go_loopw [4] (λ x4 wr=>∃ (left:Lit->Bool) (cnt:Nat) (ss:List Nat),wr.ranges prog 3 heldE mf rb n Dm left cnt/\CollI Dm left ss/\wr.ownsRow (rb+1) 99 2 x4 ss.length (Gj (ss.map (mkD D)))/\Kp (λ k=>k=rb\/rb+1<=k) w0 wr) (λ _ wr=>wr.rangeLeft mf rb)
    case atStart=>exact ⟨_,_,[],hrg0,CollI.start Dm,World.ownsRow_nil _ _ _ _,Kr _ _⟩
    case round=>
      obtain⟨left,cnt,ss,hrg,hC,hro,hkk⟩:=hrel
      obtain⟨ra,rc,rfl⟩:=Aq hro
      have HC:=sE hC
      have HRo:=sE hro
      have HKK:=sE hkk
      have hzr:=hkk.size
      have hss:∀ g∈ss,(D g).isSome=true:=λ g hg=>by
        have h1:=(hC.2 g).1 hg
        have h2:=h1.2.1
        rw[BS.has_eqP HD.o.1 h1.1] at h2
        unfold Gn at h2
        simpa using h2
      have HSl:Sl (ss.length<=H):=⟨by
        exact nodup_lt H ss hC.1 (λ g hg=>HDl.o g (hss g hg))⟩
      clear hC hro hkk hrg0
      go_wp2_with (first|(at_next;refine wpList_next_ranges _ rfl _ rfl 3 (int_keyed underlying3) heldE (Value.int .i64) id (λ key kl hk=>by obtain⟨x,hx,_⟩:=Maps.keyOf_int_inv underlying3 hk;exact ⟨x,hx⟩) (λ v _ _=>⟨v,rfl⟩) mf rb n _ _ _ rfl hrg ?_ ?_))
      . intro hc0 hl0
        have HSs:Sl (∀ g,g∈ss ↔ (D g).isSome=true):=⟨λ g=>by
          rw[HC.o.2 g,hl0]
          constructor
          . rintro ⟨h1,h2,-⟩
            rw[BS.has_eqP HD.o.1 h1] at h2
            unfold Gn at h2
            simpa using h2
          . intro h
            have:=HDl.o g h
            refine⟨by omega,?_,rfl⟩
            rw[BS.has_eqP HD.o.1 (by omega)]
            unfold Gn
            simpa using h⟩
        have HSo:=sE (SortDists_at (rb+1) (.slice ra ss.length rc) (ss.map (mkD D)) wr (by rw[List.length_map];exact HRo.o) (by rw[List.length_map];have:=HSl.o;omega))
        clear hl0 hrg hss
        go_wp2_with fail
        refine HSo.o.mono ?_
        rintro e w3 ⟨rfl,M,hp,hm,ho,k3⟩
        have HM:Sl (M=distL D H):=⟨distL_of hH65 HDl.o HC.o.1 HSs.o hp hm⟩
        have hml:M.length=ss.length:=by rw[hp.length_eq,List.length_map]
        rw[hml] at ho
        have HRd:Sl (RowD w3 (.slice ra ss.length rc) (distL D H)):=⟨by
          rw[<- HM.o]
          exact RowD.Bc (base:=rb+1) (by rw[hml];exact ho)⟩
        have HK3:Sl (Kp Aa w w3):=⟨(HK0.o.trans HKK.o (λ b hb h=>by have:=HRb.o;omega)).trans k3 (λ b hb h=>by have:=(Ad HRo.o h).1;have:=HRb.o;omega)⟩
        clear hp hm ho k3 hml
        go_wp2
        go_ret2
        exact⟨.inl ⟨ns,HNs.o.1,HNs.o.2,_,D,rfl,HDi.o,HRd.o⟩,HK3.o⟩
      . intro x e kl yd yp w2 cnt2 hkey hlk hv hat hrg2 hlt hg2 hs2 hen
        obtain⟨x',ex,rfl,hwf⟩:=Maps.keyOf_int_inv underlying3 hkey
        obtain rfl:x=x':=by simpa using ex
        obtain⟨g,rfl,hg,hfg⟩:=BS.entry HD.o.1 HD.o.2 hwf hv (λ zd=>hat zd)
        obtain⟨d,hd,rfl⟩:∃ d,D g=some d/\e=.int .i64 (d:Nat):=by
          unfold Gn at hfg
          cases h:D g with
          |none=>rw [h] at hfg;cases hfg
          |some d=>rw [h] at hfg;exact ⟨d,rfl,by injection hfg with hfg;exact hfg.symm⟩
        have hgH:=HDl.o g (by rw[hd];rfl)
        have HC2:=sE (HC.o.step hg hlk hat)
        have k2:Kp (λ k=>k=rb) wr w2:=(Kr _ wr).grown hg2 (λ k e _=>by injection e with e;exact e.symm)
        have HRg:=sE hrg2
        have HLt:Sl (cnt2<wr.rangeLeft mf rb):=⟨by rw[hrg.left_eq];exact hlt⟩
        have HR2:=sE (Af HRo.o k2 (λ b hb h=>by have:=(Ad HRo.o hb).1;omega))
        have HMk:Sl (mkD D g=((⟨g%65536,Nat.mod_lt _ (by decide)⟩:Fin 65536),d)):=⟨by unfold mkD;rw [hd];rfl⟩
        have hz2:=k2.size
        have HK2:=sE (HKK.o.trans k2 (λ b hb h=>.inl h))
        have hmod:g%65536=g:=Nat.mod_eq_of_lt (by omega)
        have hsl:=HSl.o
        have hsz2:rb+1<=w2.heap.size:=by omega
        clear hs2 hkey hlk hv hat hrg2 hrg hlt hg2 hwf ex hfg k2 hss hd hg
        go_wp2_with (at_builtin;obtain ⟨i0,hi,hz0,hz1,hz2⟩:=info_parts infoDist;go_loud (refine wpList_append_own_at _ rfl (.tmp 28) (.tmp 32) 88 rfl (rb+1) 99 i0 _ 2 16 underlyingDists hi hz0 hz1 hz2 rfl (by omega) (.slice ra ss.length rc) ss.length (Gj (ss.map (mkD D))) rfl (HR2.o.alloc _) ⟨w2.heap.size,0,none⟩ 1 1 [.int .i64 (g:Nat),.int .i64 (d:Nat)] rfl rfl (World.news_of_block (wN w2 _)) (by intro u hu;simp at hu;rcases hu with rfl|rfl <;> rfl) (by unfold maxLen;omega) (by omega) (by simp;omega) ?_);intro v' w3 hown3 hgrow hnl hat3;obtain ⟨na,nc,rfl⟩:=Aq hown3;clear hi hz0 hz1 hz2)
        have KA:Kp (λ k=>(Value.slice ra ss.length rc).ownBlock=some k) w2 w3:=(((Kr Aa w2).alloc _).Aw _).grown hgrow (λ k e _=>e)
        have hb1:∀ k,(Value.slice ra ss.length rc).ownBlock=some k->rb+1<=k:=λ k hk=>(Ad HR2.o hk).1
        have hrg3:=ranges_keepI HRg.o KA (λ h=>by have:=hb1 _ h;omega) (λ h=>by have:=hb1 _ h;omega)
        have HR3:Sl (w3.ownsRow (rb+1) 99 2 (.slice na (ss.length+1) nc) (ss++[g]).length (Gj ((ss++[g]).map (mkD D)))):=⟨by
          have e1:Gj ((ss++[g]).map (mkD D))=Gj (ss.map (mkD D))++[.int .i64 (g:Nat),.int .i64 (d:Nat)]:=by
            rw[List.map_append]
            show Gj (ss.map (mkD D)++[mkD D g])=_
            unfold Gj
            rw[List.flatMap_append,HMk.o]
            simp[encD,hmod]
          rw[e1,List.length_append]
          exact hown3⟩
        have HRg3:=sE hrg3
        have HK3:=sE (HK2.o.trans KA (λ b hb h=>.inr (hb1 b h)))
        clear hown3 hgrow hnl hat3 KA hb1 hrg3
        go_wp2
        exact⟨⟨_,cnt2,ss++[g],HRg3.o,HC2.o,HR3.o,HK3.o⟩,by rw[HRg3.o.left_eq];exact HLt.o⟩
  . have HNo:=sE hno
    clear hno
    go_wp2
    go_ret2
    exact⟨.inr ⟨HNo.o,rfl⟩,k1⟩

end

section
open Go.RowKit

theorem WHas_at(P:Sp)(W:Nat->Nat)(f:Nat->Bool)(w:World)(hsp:SpaceAt w P W f)(i:Int):
  Calls prog 86 #[.pointer (some P.s),.int .i64 i] w (RK (.bool (EH f (P.n/2) i)) w):=by
 have HS:=sE (Starts_at P W f w hsp)
 clear hsp
 go_enter func86,ntmps86
 go_wp2_with fail
 refine HS.o.mono ?_
 rintro e w1 ⟨p,q,rfl,-,-,hb,k1⟩
 have HH:=sE (Has_int i (P.n/2) p q f w1 hb)
 have HK:=sE k1
 clear hb k1
 go_wp2_with fail
 refine HH.o.mono ?_
 rintro e w2 ⟨rfl,k2⟩
 go_wp2
 go_ret
 exact⟨rfl,HK.o.then' k2⟩

theorem hasI_obj{P:Sp}{W:Nat->Nat}{f:Nat->Bool}{cs:List Cel}(hc:CellsAt P W cs)(hst:∀ i,i<P.n/2->f i=Ak cs i)(i:Int):EH f (P.n/2) i=true ↔ ∃ g:Nat,i=(g:Int)/\CL cs g:=by
 unfold EH
 rw[Bool.and_eq_true,decide_eq_true_eq]
 constructor
 .rintro ⟨⟨h1,h2⟩,h3⟩
  refine⟨i.toNat,by omega,?_⟩
  rw[hst _ (by omega)] at h3
  exact Fj.2 h3
 .rintro ⟨g,rfl,h⟩
  have:=CV hc h
  refine⟨by omega,?_⟩
  rw[Int.toNat_natCast,hst _ this]
  exact Fj.1 h

theorem Gg.chain{es:List (Nat×Nat×Nat)}{ns:List Nat}{D:Nat->Option Nat}(h:Gg es ns D):∀ (n g:Nat),D g=some n->∀ k,k<=n->∃ x,D x=some k
 |0,g,hg,k,hk=>⟨g,by
  obtain rfl:k=0:=by omega
  exact hg⟩
 |n+1,g,hg,k,hk=>by
  by_cases e:k=n+1
  .exact ⟨g,by rw[hg,e]⟩
  .obtain ⟨h1,h2⟩:=(h g (n+1)).1 hg
   generalize h0:n+1=m at h1
   cases h1 with
   |root h=>omega
   |@step j x hs he=>
    obtain rfl:n=j:=by omega
    exact h.chain n x.1 ((h _ _).2 ⟨hs,λ m hm=>by have:=h2 (m+1) (.step hm he);omega⟩) k (by omega)

theorem distN_lt{es:List (Nat×Nat×Nat)}{ns:List Nat}{D:Nat->Option Nat}{H:Nat}(h:Gg es ns D)(hn:∀ g∈ns,g<H)(he:∀ x∈es,x.2.2<H){g n:Nat}(hg:D g=some n):n<H:=by
 have hlt:∀ x,(D x).isSome=true->x<H:=λ x hx=>h.to (T:=λ x=>x<H) hn he hx
 have hc:∀ k,∃ x,k<=n->D x=some k:=λ k=>by
  by_cases hk:k<=n
  .obtain ⟨x,hx⟩:=h.chain n g hg k hk
   exact⟨x,λ _=>hx⟩
  .exact ⟨0,λ h=>absurd h hk⟩
 let F:Nat->Nat:=λ k=>(hc k).choose
 have hF:∀ k,k<=n->D (F k)=some k:=λ k=>(hc k).choose_spec
 have h1:=nodup_lt H ((List.range (n+1)).map F) (by
  refine List.pairwise_map.2 (List.nodup_range.imp_of_mem λ {a b} ha hb hab e=>hab ?_)
  have h1:=hF a (by have:=List.mem_range.1 ha;omega)
  have h2:=hF b (by have:=List.mem_range.1 hb;omega)
  rw[e,h2] at h1
  injection h1 with h1
  exact h1.symm) (λ x hx=>by
  obtain⟨k,hk,rfl⟩:=List.mem_map.1 hx
  exact hlt _ (by rw[hF k (by have:=List.mem_range.1 hk;omega)];rfl))
 simp at h1
 omega

theorem find_ix{α:Type}{p:α->Bool}{l:List α}{i:Nat}{y:α}(h:l[i]?=some y)(hn:∀ e∈l.take i,p e=false)(hy:p y=true):l.find? p=some y:=by
 have hi:=(gE.1 h).1
 have e1:l=l.take i++y::l.drop (i+1):=by
  rw[List.getElem?_eq_getElem hi] at h
  injection h with h
  rw[<- h,<- List.drop_eq_getElem_cons hi,List.take_append_drop]
 rw[e1,List.find?_append,List.find?_eq_none.2 (λ e he=>by rw[hn e he];simp)]
 simp[hy]

theorem wayL_len(es:List (Nat×Nat×Nat))(D:Nat->Option Nat):∀ (n g:Nat),(Gz es D n g).length<=n
 |0,g=>Nat.le_refl _
 |n+1,g=>by
  unfold Gz
  split
  .rename_i e _
   rw[List.length_append]
   have:=wayL_len es D n e.1
   simpa using this
  .simp

def WayEnv(w:World)(bg bw gb:Nat)(es:List (Nat×Nat×Nat))(D:Nat->Option Nat):Prop:=
 w.heap[bg]?=some (.cells #[.pointer (some gb)] 163 (0,0))/\w.heap[bw]?=some (.cells #[.func (.func 87) #[] #[.pointer (some bg),.pointer (some bw)]] 173 (0,0))/\GraphAt w gb es D

theorem WayEnv.Ac{w w':World}{bg bw gb:Nat}{es:List (Nat×Nat×Nat)}{D:Nat->Option Nat}(h:WayEnv w bg bw gb es D)(k:Kp Aa w w'):WayEnv w' bg bw gb es D:=⟨k.at_ h.1 id,k.at_ h.2.1 id,h.2.2.Ac k⟩

set_option maxRecDepth 20000 in
theorem WWay1_at(es:List (Nat×Nat×Nat))(D:Nat->Option Nat)(bg bw gb:Nat)(hE:∀ x∈es,x.1<65536)(hEl:es.length<=2147483648):∀ (n g:Nat) (w:World),WayEnv w bg bw gb es D->D g=some n->g<65536->n<65536->
  Calls prog 87 #[g,.pointer (some bg),.pointer (some bw)] w λ e w'=>∃ v,e=.returned v/\w'.ownsRow w.heap.size 70 3 v (Gz es D n g).length (Bt (Gz es D n g))/\Kp Aa w w'
 |0,g,w,hV,hD,hg,hn=>by
  obtain⟨h1,-,h3⟩:=hV
  obtain⟨mo,mi,mf,n,co,ci,hgb,-,-,hm⟩:=h3
  obtain⟨gc0,gc1,gc2⟩:=Gy hgb
  have c0:=cell_of_one h1
  have hlk:=hm.look (g:=g) (by omega) Gd (zeroFar _)
  have hfv:Gn D g=some (.int .i64 ((0:Nat):Int)):=by unfold Gn;rw [hD];rfl
  rw[hfv] at hlk
  have hlk':(Instr.lookup 167 (.map (some mf)) (.int .i64 g) false).run prog w=.ok (.int .i64 0) w:=hlk
  clear h1 hgb hm hlk hfv
  go_enter func87,ntmps87
  go_wp2
  go_ret
  exact⟨_,rfl,World.ownsRow_nil _ _ _ _,Kr _ _⟩
 |n+1,g,w,hV,hD,hg,hn=>by
  have HIH:=sE (λ (g':Nat) (w':World) (h1:WayEnv w' bg bw gb es D) (h2:D g'=some n) (h3:g'<65536)=>WWay1_at es D bg bw gb hE hEl n g' w' h1 h2 h3 (by omega))
  have HV:=sE hV
  obtain⟨h1,h2,h3⟩:=hV
  obtain⟨mo,mi,mf,nn,co,ci,hgb,-,⟨hmi,hri⟩,hm⟩:=h3
  obtain⟨gc0,gc1,gc2⟩:=Gy hgb
  have c0:=cell_of_one h1
  have hlx:∀ W',Kp Aa w W'->(Instr.lookup 167 (.map (some mf)) (.int .i64 g) false).run prog W'=.ok (.int .i64 ((n:Int)+1)) W':=λ W' kk=>by
   have:=(hm.keep kk id).look (g:=g) (by omega) Gd (zeroFar _)
   have hfv:Gn D g=some (.int .i64 ((n:Int)+1)):=by unfold Gn;rw [hD];rfl
   rwa [hfv] at this
  have hl0:=hlx w (Kr _ _)
  have hli:=hmi.look (g:=g) (by omega) Gf (Gp _)
  have hR:=hri g
  obtain⟨rv,hrv⟩:∃ v,(ci g).getD (.slice none 0 0)=v:=⟨_,rfl⟩
  rw[hrv] at hli hR
  obtain⟨ra,rc,rfl,hcells⟩:=hR
  obtain⟨N,hN⟩:∃ N,(GD es g).length=N:=⟨_,rfl⟩
  have hNl:N<=2147483648:=by
   have h2:(GD es g).length<=es.length:=List.length_filter_le _ _
   omega
  rw[hN] at hli
  have HN:=sE hN
  have HCe:=sE hcells
  have HM:=sE hm
  have HGb:=sE hgb
  have HB1:=sE h1
  have HB2:=sE h2
  have HLx:=sE hlx
  have e0:(((n:Int)+1)==0)=false:=by rw[beq_eq_false_iff_ne];omega
  clear h1 h2 hgb hm hlx hmi hri hcells hrv hN hD
  go_enter func87,ntmps87
  go_wp2_with fail
  go_loopw [23] (λ x23 wr=>∃ i:Nat,i<=N/\x23=.int .i64 i/\(∀ e∈(GD es g).take i,¬ D e.1=some n)/\Kp Aa w wr) (λ x23 _=>N-(intOf x23).toNat)
  case atStart=>exact ⟨0,Nat.zero_le _,rfl,λ e he=>by simp at he,Kr _ _⟩
  case round=>
   obtain⟨i,hi,rfl,hno,hkk⟩:=hrel
   have HNo:=sE hno
   have HKK:=sE hkk
   by_cases hil:i<N
   .have hil':(i:Int)<(N:Int):=by omega
    obtain⟨y,hy⟩:∃ y,(GD es g)[i]?=some y:=⟨(GD es g)[i]'(by rw[HN.o];exact hil),by simp⟩
    have hym:=mem_inE.1 (List.mem_of_getElem? hy)
    have hyH:=hE y hym.1
    obtain⟨eb,heb,heb0,y0,y1,y2⟩:=HCe.o i y hy
    subst heb
    have y0:=hkk.cell y0 id
    have y1:=hkk.cell y1 id
    have y2:=hkk.cell y2 id
    have HY:=sE (And.intro hy hym)
    clear hno hkk hy hym gc0 gc1 gc2 c0
    go_wp2_with fail
    obtain⟨wA,hwA⟩:∃ wA,wA=wr.alloc (.cells #[y.1,y.2.1,y.2.2] 70):=⟨_,rfl⟩
    have kA:Kp Aa wr wA:=by rw[hwA];exact (Kr _ wr).alloc _
    have bA:wA.heap[wr.heap.size]?=some (.cells #[y.1,y.2.1,y.2.2] 70 (0,0)):=by rw[hwA];exact wN wr _
    rw[<- hwA]
    obtain⟨xb,hxb⟩:∃ b,wr.heap.size=b:=⟨_,rfl⟩
    rw[hxb] at bA ⊢
    have KA:Kp Aa w wA:=HKK.o.then' kA
    obtain⟨g0,g1,g2⟩:=Gy (KA.at_ HGb.o id)
    have cb:=cell_of_one (KA.at_ HB1.o id)
    have cw:=cell_of_one (KA.at_ HB2.o id)
    obtain⟨e0',e1',e2'⟩:=cells3 bA
    have HKA:=sE KA
    have hlk:∀ nq,(Instr.lookup 167 (.map (some mf)) (.int .i64 y.1) true).run prog (wA.drewN nq)=.ok (.tuple #[(Gn D y.1).getD (.int .i64 0),.bool (Gn D y.1).isSome]) (wA.drewN nq):=λ nq=>(HM.o.keep (S:=Aa) (KA.then' (Kp.Ah nq)) id).lookOk (g:=y.1) (by omega) Gd (zeroFar _)
    have hl2:∀ nq,(Instr.lookup 167 (.map (some mf)) (.int .i64 g) false).run prog (wA.drewN nq)=.ok (.int .i64 ((n:Int)+1)) (wA.drewN nq):=λ nq=>HLx.o _ (KA.then' (Kp.Ah nq))
    have wr1:IntKind.i64.wrap ((n:Int)+1-1)=(n:Int):=by rw[IntKind.wrap_i64];omega
    clear hwA bA y0 y1 y2 KA kA
    cases hD:D y.1 with
    |none=>
     have hfv:Gn D y.1=none:=by unfold Gn;rw [hD];rfl
     rw[hfv] at hlk
     simp only[Option.getD_none,Option.isSome_none] at hlk
     have HNx:Sl (∀ e∈(GD es g).take (i+1),¬ D e.1=some n):=⟨λ e he=>by
      rw[List.take_add_one,HY.o.1,List.mem_append] at he
      rcases he with he|he
      .exact HNo.o e he
      .simp at he
       rw[he,hD]
       simp⟩
     clear hD hfv
     go_quiet (fail)
     go_wp2
     exact⟨⟨i+1,by omega,by go_num,HNx.o,HKA.o.then' (Kp.Ah _)⟩,by simp only[intOf];omega⟩
    |some k=>
     have hfv:Gn D y.1=some (.int .i64 (k:Nat)):=by unfold Gn;rw [hD];rfl
     rw[hfv] at hlk
     simp only[Option.getD_some,Option.isSome_some] at hlk
     by_cases hkn:k=n
     .subst hkn
      have HD:=sE hD
      have HWy:Sl (Gz es D (k+1) g=Gz es D k y.1++[y]):=⟨by
       have hf:(GD es g).find? (λ e=>D e.1==some k)=some y:=find_ix HY.o.1 (λ e he=>by
        have:=HNo.o e he
        simpa using this) (by rw[hD];simp)
       show (match (GD es g).find? (λ e=>D e.1==some k) with
        |some e=>Gz es D k e.1++[e]
        |none=>[])=_
       rw[hf]⟩
      have hkk2:((k:Int)==(k:Int))=true:=by simp
      clear hD hfv
      go_quiet (fail)
      go_wp2_with fail
      obtain⟨wB,hwB⟩:∃ wB,wB=wA.drewN nq:=⟨_,rfl⟩
      have kB:Kp Aa wA wB:=by rw[hwB];exact Kp.Ah _
      rw[<- hwB]
      have cw:=Ae kB cw
      have e0':=Ae kB e0'
      have e1':=Ae kB e1'
      have e2':=Ae kB e2'
      have KB:Kp Aa w wB:=HKA.o.then' kB
      have HKB:=sE KB
      have hzw:=KB.size
      have hxz:=lt_of_cell e0'
      have hbw:=lZ HB2.o
      clear hwB kB hlk hl2 KB g0 g1 g2 cb
      refine wp_region_held_drew (S:=λ w'=>w'.cell? bw=some (.func (.func 87) #[] #[.pointer (some bg),.pointer (some bw)])/\w'.cell? xb=some (.int .i64 y.1)/\w'.cell? ⟨xb,1,none⟩=some (.int .i64 y.2.1)/\w'.cell? ⟨xb,2,none⟩=some (.int .i64 y.2.2)) (by kernel_rfl) ?_ (λ qZ=>?_)
      .exact ⟨cw,e0',e1',e2'⟩
      refine Ap 0 ?_;refine Ap 1 ?_;refine Ap 2 ?_;refine Ap 4 ?_
      try simp only[AB]
      have kd:Kp Aa wB wB.drew:=(Kr _ _).drew
      refine Bp [3,5] ?_
      refine Ai rfl (λ K hK=>?_) (Ag rfl (λ K hK=>?_))
      go_simp
      go_at_call 87
      (with_reducible refine(HIH.o y.1 _ (HV.o.Ac (HKB.o.then' kd)) HD.o (by omega)).mono ?_)
      rintro e w3 ⟨v,rfl,ho,k3⟩
      have K3:Kp Aa wB w3:=kd.then' k3
      refine hK _ _ ?_ (λ qZ=>?_)
      .exact ⟨Ae K3 cw,Ae K3 e0',Ae K3 e1',Ae K3 e2'⟩
      clear hK K
      try simp only[AB]
      refine Bp [5] ?_
      refine Ag rfl (λ K hK=>?_)
      go_simp
      obtain⟨w6,hw6⟩:∃ w6,w6=w3.alloc (.cells #[y.1,y.2.1,y.2.2] 70):=⟨_,rfl⟩
      obtain⟨nb,hnb⟩:∃ b,w3.heap.size=b:=⟨_,rfl⟩
      have k36:Kp Aa w3 w6:=by rw[hw6];exact (Kr _ w3).alloc _
      have bn:w6.heap[nb]?=some (.cells #[y.1,y.2.1,y.2.2] 70 (0,0)):=by rw[hw6,<- hnb];exact wN w3 _
      rw[<- hw6]
      try rw[hnb]
      have K6:Kp Aa wB w6:=K3.then' k36
      have hnx:¬ v.ownBlock=some xb:=λ h=>by have:=(Ad ho h).1;have:=kd.size;omega
      have ho6:=BZ (Af ho k36 (λ _ _ h=>h)) (base':=w.heap.size) (by have:=kd.size;omega)
      refine hK _ _ ?_ (λ qZ=>?_)
      .exact ⟨Ae K6 cw,Ae K6 e0',Ae K6 e1',Ae K6 e2'⟩
      clear hK K
      try simp only[AB]
      clear hw6 hnb k36 K3 k3 ho
      rotate_left
      go_simp
      obtain⟨w2,hw2⟩:∃ w2,w2=(wB.alloc (.cells #[y.1,y.2.1,y.2.2] 70)).drew:=⟨_,rfl⟩
      obtain⟨nb,hnb⟩:∃ b,wB.heap.size=b:=⟨_,rfl⟩
      have k2:Kp Aa wB w2:=by rw[hw2];exact ((Kr _ wB).alloc _).drew
      have bn2:w2.heap[nb]?=some (.cells #[y.1,y.2.1,y.2.2] 70 (0,0)):=by rw[hw2,<- hnb];exact wN wB _
      try rw[<- hw2]
      try rw[hnb]
      refine hK _ _ ?_ (λ qZ=>?_)
      .exact ⟨Ae k2 cw,Ae k2 e0',Ae k2 e1',Ae k2 e2'⟩
      clear hK K
      try simp only[AB]
      refine Bp [3] ?_
      refine Ag rfl (λ K hK=>?_)
      go_simp
      try rw[<- hw2]
      go_at_call 87
      (with_reducible refine(HIH.o y.1 _ (HV.o.Ac (HKB.o.then' k2)) HD.o (by omega)).mono ?_)
      rintro e w6 ⟨v,rfl,ho,k3⟩
      have K6:Kp Aa wB w6:=k2.then' k3
      have bn:=k3.at_ bn2 id
      have hnx:¬ v.ownBlock=some xb:=λ h=>by have:=(Ad ho h).1;have:=k2.size;omega
      have ho6:=BZ ho (base':=w.heap.size) (by have:=k2.size;omega)
      refine hK _ _ ?_ (λ qZ=>?_)
      .exact ⟨Ae K6 cw,Ae K6 e0',Ae K6 e1',Ae K6 e2'⟩
      clear hK K
      try simp only[AB]
      clear hw2 hnb k2 bn2 k3 ho
      all_goals
       obtain⟨va,vc,rfl⟩:=Aq ho6
       have hwl:=wayL_len es D k y.1
       have hz6:=K6.size
       obtain⟨M,hM⟩:∃ M,(Gz es D k y.1).length=M:=⟨_,rfl⟩
       rw[hM] at ho6 hwl hnx ⊢
       obtain⟨i0,hi0,hz0,hz1,hz2⟩:=info_parts Gu
       refine Bp [6] ?_
       refine Ag rfl (λ K hK=>?_)
       refine CP rfl rfl (.tmp 52) (.tmp 54) 47 rfl w.heap.size 70 i0 _ 3 24 EB hi0 hz0 hz1 hz2 rfl (by omega) (.slice va M vc) M _ rfl ho6 ⟨nb,0,none⟩ 1 _ [y.1,y.2.1,y.2.2] rfl rfl (World.news_of_block bn) (by intro u hu;simp at hu;rcases hu with rfl|rfl|rfl <;> rfl) (by unfold maxLen;omega) (by omega) (by omega) ?_
       intro nv w7 hown7 hgrow hblk
       obtain⟨na,nc,rfl⟩:=Aq hown7
       clear hi0 hz0 hz1 hz2
       have KA:Kp (λ b=>(Value.slice va M vc).ownBlock=some b) w6 w7:=(Kr _ w6).grown hgrow (λ k e _=>e)
       have nw:¬ (Value.slice va M vc).ownBlock=some bw:=λ h=>by have:=(Ad ho6 h).1;omega
       have K7:Kp Aa w w7:=(HKB.o.then' K6).trans KA (λ b hb h=>by have:=(Ad ho6 h).1;omega)
       have HO7:Sl (w7.ownsRow w.heap.size 70 3 (.slice na (M+1) nc) (Gz es D (k+1) g).length (Bt (Gz es D (k+1) g))):=⟨by
        rw[HWy.o,ER,List.length_append,hM]
        exact hown7⟩
       have a1:=KA.cell (Ae K6 cw) nw
       have a2:=KA.cell (Ae K6 e0') hnx
       have a3:=KA.cell (Ae K6 e1') hnx
       have a4:=KA.cell (Ae K6 e2') hnx
       refine hK _ _ ?_ (λ qZ=>?_)
       .exact ⟨a1,a2,a3,a4⟩
       clear hK K
       try simp only[AB]
       refine Ap 7 ?_
       try simp only[AB]
       refine wpAnyH_done (by kernel_rfl) ?_ _
       have HK7:=sE K7
       clear KA nw K7 a1 a2 a3 a4 hown7 hgrow hblk ho6 qZ bn K6 hnx
       go_wp2
       go_ret
       exact⟨_,rfl,HO7.o,HK7.o⟩
     .have hkn':((k:Int)==(n:Int))=false:=by rw[beq_eq_false_iff_ne];omega
      have HNx:Sl (∀ e∈(GD es g).take (i+1),¬ D e.1=some n):=⟨λ e he=>by
       rw[List.take_add_one,HY.o.1,List.mem_append] at he
       rcases he with he|he
       .exact HNo.o e he
       .simp at he
        rw[he,hD]
        simpa using hkn⟩
      clear hD hfv
      go_quiet (fail)
      go_wp2
      exact⟨⟨i+1,by omega,by go_num,HNx.o,HKA.o.then' (Kp.Ah _)⟩,by simp only[intOf];omega⟩
   .have hil':¬ (i:Int)<(N:Int):=by omega
    obtain rfl:i=N:=by omega
    have HWy:Sl (Gz es D (n+1) g=[]):=⟨by
     have hf:(GD es g).find? (λ e=>D e.1==some n)=none:=List.find?_eq_none.2 λ e he=>by
      have:=hno e (by rw[List.take_of_length_le (by rw[HN.o];omega)];exact he)
      simpa using this
     show (match (GD es g).find? (λ e=>D e.1==some n) with
      |some e=>Gz es D n e.1++[e]
      |none=>[])=_
     rw[hf]⟩
    clear hno hkk
    go_wp2
    go_ret
    exact⟨_,rfl,by rw[HWy.o];exact World.ownsRow_nil _ _ _ _,HKK.o⟩

end

section
open Go.RowKit

def GI(T:Nat->Prop)(xs:List Int)(ns:List Nat):Prop:=xs=ns.map (λ g:Nat=>(g:Int))/\∀ g∈ns,T g

def WHoldsPost(es:List (Nat×Nat×Nat))(T:Nat->Prop)(i:Int)(w:World)(e:Ending)(w':World):Prop:=
  ((∃ (g:Nat) (v:Value),i=(g:Int)/\T g/\e=.returned (.tuple #[v,(0:Int)])/\Dl w' v (GD es g))\/(¬ (∃ g:Nat,i=(g:Int)/\T g)/\e=.returned (.tuple #[.slice none 0 0,(2:Int)])))/\Kp Aa w w'

set_option maxRecDepth 20000 in
theorem WHolds_at(P:Sp)(W:Nat->Nat)(f:Nat->Bool)(w:World)(cs:List Cel)(hsp:SpaceAt w P W f)(hc:CellsAt P W cs)(hst:∀ i,i<P.n/2->f i=Ak cs i)(hms:∀ x∈P.ts,x.m<18446744073709551616)(i:Int):
    Calls prog 42 #[.pointer (some P.s),.int .i64 i] w (WHoldsPost (AP P.ts W cs) (CL cs) i w):=by
  have HOf:=sE (WOf_at P W f w cs hsp hc hst hms (.slice none 0 0) [] (ints_nil w) (by simp))
  have HHas:Sl (∀ W',Kp Aa w W'->_):=⟨λ W' kk=>WHas_at P W f W' (hsp.Ac kk) i⟩
  have HTy:Sl (EH f (P.n/2) i=true ↔ ∃ g:Nat,i=(g:Int)/\CL cs g):=⟨hasI_obj hc hst i⟩
  have HT:Sl (∀ g,CL cs g->g<65536):=⟨λ g h=>by have:=CV hc h;have:=hsp.bt.FQ;omega⟩
  obtain⟨es,hes⟩:∃ es,AP P.ts W cs=es:=⟨_,rfl⟩
  rw[hes] at HOf ⊢
  obtain⟨b,hb⟩:∃ b,EH f (P.n/2) i=b:=⟨_,rfl⟩
  rw[hb] at HHas HTy
  clear hsp hc hst hms hes hb
  go_enter func42,ntmps42
  go_wp2_with fail
  refine HOf.o.mono ?_
  rintro e w1 ⟨(⟨ns,hns,hT1,gb,D,rfl,hG,hDi⟩|⟨hno,rfl⟩),k1⟩
  . have HK1:=sE k1
    have HG:=sE hG
    clear hns hT1 hG hDi k1
    go_wp2_with fail
    refine(HHas.o _ HK1.o).mono ?_
    rintro e w2 ⟨rfl,k2⟩
    cases b with
    |false=>
      have HNo:Sl (¬ ∃ g:Nat,i=(g:Int)/\CL cs g):=⟨λ h=>by have:=HTy.o.2 h;cases this⟩
      go_wp2
      go_ret2
      exact⟨.inr ⟨HNo.o,rfl⟩,HK1.o.then' k2⟩
    |true=>
      obtain⟨g,rfl,hTg⟩:=HTy.o.1 rfl
      have hgl:=HT.o g hTg
      obtain⟨mo,mi,mf,n,co,ci,hg,-,⟨hm,hr⟩,-⟩:=HG.o.Ac k2
      obtain⟨gc0,gc1,gc2⟩:=Gy hg
      have hlk:=hm.look (g:=g) (by omega) Gf (Gp _)
      have hR:=hr g
      obtain⟨rv,hrv⟩:∃ v,(ci g).getD (.slice none 0 0)=v:=⟨_,rfl⟩
      rw[hrv] at hlk hR
      have HR:=sE hR
      have HTg:=sE hTg
      have HK2:=sE (HK1.o.then' k2)
      clear hg hm hr hrv hTg k2 hR
      go_wp2
      go_ret2
      exact⟨.inl ⟨g,rv,rfl,HTg.o,rfl,HR.o⟩,HK2.o⟩
  . exact absurd ⟨[],by simp,by simp⟩ hno

def WWayPost(es:List (Nat×Nat×Nat))(T:Nat->Prop)(xs:List Int)(i:Int)(w:World)(e:Ending)(w':World):Prop:=
  ((∃ ns D,GI T xs ns/\Gg es ns D/\∃ g:Nat,i=(g:Int)/\T g/\((∃ (n:Nat) (v:Value),D g=some n/\e=.returned (.tuple #[v,(0:Int)])/\Dl w' v (Gz es D n g))\/(D g=none/\e=.returned (.tuple #[.slice none 0 0,(3:Int)]))))\/
   ((¬ (∃ ns,GI T xs ns)\/¬ ∃ g:Nat,i=(g:Int)/\T g)/\e=.returned (.tuple #[.slice none 0 0,(2:Int)])))/\Kp Aa w w'

set_option maxRecDepth 20000 in
theorem WWay_at(P:Sp)(W:Nat->Nat)(f:Nat->Bool)(w:World)(cs:List Cel)(hsp:SpaceAt w P W f)(hc:CellsAt P W cs)(hst:∀ i,i<P.n/2->f i=Ak cs i)(hms:∀ x∈P.ts,x.m<18446744073709551616)(i:Int)(v:Value)(xs:List Int)(hx:IntsIn w v xs)(hxl:xs.length<=65536):
    Calls prog 40 #[.pointer (some P.s),.int .i64 i,v] w (WWayPost (AP P.ts W cs) (CL cs) xs i w):=by
  obtain⟨va,vc,rfl⟩:=ints_slice hx
  have HOf:=sE (WOf_at P W f w cs hsp hc hst hms _ xs hx hxl)
  have HHas:Sl (∀ W',Kp Aa w W'->_):=⟨λ W' kk=>WHas_at P W f W' (hsp.Ac kk) i⟩
  have HTy:Sl (EH f (P.n/2) i=true ↔ ∃ g:Nat,i=(g:Int)/\CL cs g):=⟨hasI_obj hc hst i⟩
  have HT:Sl (∀ g,CL cs g->g<65536):=⟨λ g h=>by have:=CV hc h;have:=hsp.bt.FQ;omega⟩
  have HE:Sl ((∀ x∈AP P.ts W cs,x.1<65536)/\(AP P.ts W cs).length<=2147483648):=⟨λ x hx=>HT.o _ (Ep hc hst hx).1,Nat.le_trans (Dv cs _) (hc.to.F8 hsp.ar.small)⟩
  have HDn:Sl (∀ ns D,GI (CL cs) xs ns->Gg (AP P.ts W cs) ns D->∀ g n,D g=some n->n<65536):=⟨λ ns D hr hd g n hg=>by
    have h1:=(distN_lt (H:=P.n/2) hd (λ g hg=>CV hc (hr.2 g hg)) (λ x hx=>CV hc (Ep hc hst hx).2.1) hg)
    have:=hsp.bt.FQ
    omega⟩
  obtain⟨es,hes⟩:∃ es,AP P.ts W cs=es:=⟨_,rfl⟩
  rw[hes] at HOf HE HDn ⊢
  obtain⟨b,hb⟩:∃ b,EH f (P.n/2) i=b:=⟨_,rfl⟩
  rw[hb] at HHas HTy
  clear hsp hc hst hms hes hb hx
  go_enter func40,ntmps40
  go_wp2_with fail
  refine HOf.o.mono ?_
  rintro e w1 ⟨(⟨ns,hns,hT1,gb,D,rfl,hG,hDi⟩|⟨hno,rfl⟩),k1⟩
  . have HK1:=sE k1
    have HG:=sE hG
    have HR:Sl (GI (CL cs) xs ns):=⟨⟨hns,hT1⟩⟩
    have HDi:=sE hDi
    clear hns hT1 hG hDi k1
    go_wp2_with fail
    obtain⟨w2,hw2⟩:∃ w2,w2=w1.alloc (.cells #[.pointer (some gb)] 163):=⟨_,rfl⟩
    obtain⟨bg,hbg⟩:∃ b,w1.heap.size=b:=⟨_,rfl⟩
    have k2:Kp Aa w1 w2:=by rw[hw2];exact (Kr _ w1).alloc _
    have b2:w2.heap[bg]?=some (.cells #[.pointer (some gb)] 163 (0,0)):=by rw[hw2,<- hbg];exact wN w1 _
    try rw[<- hw2]
    try rw[hbg]
    have HB2:=sE b2
    have HK2:Sl (Kp Aa w w2):=⟨HK1.o.then' k2⟩
    have HG2:=sE (HG.o.Ac k2)
    clear hw2 hbg k2 b2 HG HK1
    refine(HHas.o _ HK2.o).mono ?_
    rintro e w3 ⟨rfl,k3⟩
    cases b with
    |false=>
      have HNo:Sl (¬ ∃ g:Nat,i=(g:Int)/\CL cs g):=⟨λ h=>by have:=HTy.o.2 h;cases this⟩
      go_wp2
      go_ret2
      exact⟨.inr ⟨.inr HNo.o,rfl⟩,HK2.o.then' k3⟩
    |true=>
      obtain⟨g,rfl,hTg⟩:=HTy.o.1 rfl
      have hgl:=HT.o g hTg
      have HG3:=sE (HG2.o.Ac k3)
      obtain⟨mo,mi,mf,n,co,ci,hg,-,-,hm⟩:=HG3.o
      obtain⟨gc0,gc1,gc2⟩:=Gy hg
      have cb:=cell_of_one (k3.at_ HB2.o id)
      have hlk:=hm.lookOk (g:=g) (by omega) Gd (zeroFar _)
      have HTg:=sE hTg
      have HB3:=sE (k3.at_ HB2.o id)
      have HK3:=sE (HK2.o.then' k3)
      cases hD:D g with
      |none=>
        have hfv:Gn D g=none:=by unfold Gn;rw [hD];rfl
        rw[hfv] at hlk
        simp only[Option.getD_none,Option.isSome_none] at hlk
        have HD:=sE hD
        clear hD hfv hm hg hTg k3
        go_wp2
        go_ret2
        exact⟨.inl ⟨ns,D,HR.o,HDi.o,g,rfl,HTg.o,.inr ⟨HD.o,rfl⟩⟩,HK3.o⟩
      |some n=>
        have hfv:Gn D g=some (.int .i64 (n:Nat)):=by unfold Gn;rw [hD];rfl
        rw[hfv] at hlk
        simp only[Option.getD_some,Option.isSome_some] at hlk
        have HD:=sE hD
        have hn:=HDn.o ns D HR.o HDi.o g n hD
        clear hD hfv hm hg hTg k3
        go_wp2_with fail
        obtain⟨w4,hw4⟩:∃ w4,w4=w3.alloc (.cells #[.func (.func 87) #[] #[.pointer (some bg),.pointer (some w3.heap.size)]] 173):=⟨_,rfl⟩
        have k4:Kp Aa w3 w4:=by rw[hw4];exact (Kr _ w3).alloc _
        have HV:Sl (WayEnv w4 bg w3.heap.size gb es D):=⟨k4.at_ HB3.o id,by rw[hw4];exact wN w3 _,HG3.o.Ac k4⟩
        try rw[<- hw4]
        have HK4:=sE (HK3.o.then' k4)
        clear hw4 k4
        refine(WWay1_at es D bg _ gb HE.o.1 HE.o.2 n g w4 HV.o HD.o hgl hn).mono ?_
        rintro e w5 ⟨v,rfl,ho,k5⟩
        have HRw:=sE (Dl.Bc ho)
        clear ho
        go_wp2
        go_ret2
        exact⟨.inl ⟨ns,D,HR.o,HDi.o,g,rfl,HTg.o,.inl ⟨n,v,HD.o,rfl,HRw.o⟩⟩,HK4.o.then' k5⟩
  . have HNo:=sE hno
    have HK1:=sE k1
    clear hno k1
    go_wp2
    go_ret2
    exact⟨.inr ⟨.inl (λ ⟨ms,h⟩=>HNo.o ⟨ms,h.1,h.2⟩),rfl⟩,HK1.o.alloc _⟩

end

end Go.Proofs.YtfkedlgpgmaemaaGreatDoor
