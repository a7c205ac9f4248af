/-
  Lemmas for the laws, together: WhyOn.
-/
import Derived.Test.YtpeipocojmjbfaaGreatDoorQbo
set_option linter.unusedVariables false
set_option maxHeartbeats 16000000
namespace Go.Proofs.YtpeipocojmjbfaaGreatDoor
open Tryz
section
open Go.RowKit

def WOnlyPost(es:List (Nat×Nat×Nat))(T:Nat->Prop)(xs:List Int)(i:Int)(w:World)(e:Ending)(w':World):Prop:=
  ((∃ ns,EK T xs ns/\∃ g:Nat,i=(g:Int)/\T g/\((Bz es ns g/\∃ v:Value,e=.returned (.tuple #[v,.int .i64 0])/\ED w' v (onlyL es ns g))\/(¬ Bz es ns g/\e=.returned (.tuple #[.slice none 0 0,.int .i64 3]))))\/
   ((¬ (∃ ns,EK T xs ns)\/¬ ∃ g:Nat,i=(g:Int)/\T g)/\e=.returned (.tuple #[.slice none 0 0,.int .i64 2])))/\Kp Ag w w'

theorem nats_of_ints{w:World}{v:Value}{xs:List Int}{ns:List Nat}(h:IntsIn w v xs)(hx:xs=ns.map (λ g:Nat=>(g:Int))):DU w v ns:=by
  subst hx
  obtain⟨a,cap,rfl,hc⟩:=h
  refine⟨a,cap,by rw[List.length_map],λ i x hi=>?_⟩
  have hlt:=(gE.1 hi).1
  obtain⟨b,o,h1,h2,h3⟩:=hc i (by rw[List.length_map];exact hlt)
  have h4:=(h3 0 (by omega)).1
  dsimp only at h4
  rw[List.getD_eq_getElem?_getD,List.getElem?_map,hi] at h4
  exact⟨b,o,h1,by rw[show o+i=o+(i*1+0) by omega];exact h4⟩

open Classical in
noncomputable def onlyU (es:List (Nat×Nat×Nat)) (ns:List Nat) (g:Nat) (l:List (Nat×Nat×Nat)):List (Nat×Nat×Nat):=l.filter λ x=> !decide (Bz (Cr es x) ns g)

open Classical in
theorem onlyU_add(es:List (Nat×Nat×Nat))(ns:List Nat)(g:Nat)(l:List (Nat×Nat×Nat))(x:Nat×Nat×Nat):onlyU es ns g (l++[x])=onlyU es ns g l++(if ¬ Bz (Cr es x) ns g then [x] else []):=by
  unfold onlyU
  rw[List.filter_append]
  by_cases h:Bz (Cr es x) ns g <;> simp[h]

set_option maxRecDepth 20000 in
theorem WOnly_at(P:Sp)(W:Nat->Nat)(f:Nat->Bool)(w:World)(cs:List Cel)(hsp:SpaceAt w P W f)(hc:CellsAt P W cs)(hst:∀ i,i<P.n/2->f i=Av cs i)(hms:∀ x∈P.ts,x.m<18446744073709551616)(i:Int)(v:Value)(xs:List Int)(hx:IntsIn w v xs)(hxl:xs.length<=65536):
    Calls prog 47 #[.pointer (some ⟨P.s,0,none⟩),.int .i64 i,v] w (WOnlyPost (AX P.ts W cs) (BJ cs) xs i w):=by
  obtain⟨va,vc,rfl⟩:=ints_slice hx
  have HX:=sE hx
  have HOf:=sE (WOf_at P W f w cs hsp hc hst hms _ xs hx hxl)
  have HHas:Sl (∀ W',Kp Ag w W'->_):=⟨λ W' kk=>WHas_at P W f W' (hsp.Am kk) i⟩
  have HTy:Sl (CZ f (P.n/2) i=true ↔ ∃ g:Nat,i=(g:Int)/\BJ cs g):=⟨hasI_obj hc hst i⟩
  have HT:Sl (∀ g,BJ cs g->g<P.n/2):=⟨λ g h=>Cs hc h⟩
  have HE:Sl ((∀ x∈AX P.ts W cs,x.2.2<P.n/2)/\(AX P.ts W cs).length<=2147483648):=⟨λ x hx=>Cs hc (DK hc hst hx).2.1,Nat.le_trans (Du cs _) (hc.to.refs_len hsp.ar.small)⟩
  have HRe:Sl (∀ rs:List Nat,(∀ g∈rs,BJ cs g)->∀ g,MReach (Dn f (P.n/2) P.ts W cs) (λ g=>g∈rs) g ↔ Bz (AX P.ts W cs) rs g):=⟨λ rs hr g=>reach_marks hc hst hr g⟩
  obtain⟨KF,hKF⟩:∃ KF,Dn f (P.n/2) P.ts W cs=KF:=⟨_,rfl⟩
  obtain⟨H,hH⟩:∃ H,P.n/2=H:=⟨_,rfl⟩
  have hH65:H<=65536:=by have:=hsp.bt.EB;omega
  have HMk:Sl (∀ W' v rs,Kp Ag w W'->DU W' v rs->(∀ g∈rs,BJ cs g)->rs.length<=65536->Calls prog 40 #[.pointer (some ⟨P.s,0,none⟩),.int .i64 4096,v] W' (MarkOfPost KF (BJ cs) rs 4096 H W')):=⟨λ W' v rs kk hx ho hl=>by
    rw[<- hKF,<- hH]
    exact MarkOf_at P W f 4096 W' cs (hsp.Am kk) hc hst hms (by omega) (by omega) v rs hx ho hl⟩
  have HGr:Sl (∀ W',Kp Ag w W'->Calls prog 87 #[.pointer (some ⟨P.s,0,none⟩)] W' λ e w''=>e=.returned (.int .i64 (H:Nat))/\w''=W'):=⟨λ W' kk=>by
    rw[<- hH]
    exact Gran_at P W f W' (hsp.Am kk)⟩
  obtain⟨es,hes⟩:∃ es,AX P.ts W cs=es:=⟨_,rfl⟩
  rw[hes] at HOf HE HRe ⊢
  rw[hKF] at HRe
  rw[hH] at HHas HTy HT HE
  obtain⟨b,hb⟩:∃ b,CZ f H i=b:=⟨_,rfl⟩
  rw[hb] at HHas HTy
  clear hsp hc hst hms hes hb hx hH hKF
  go_enter func47,ntmps47
  go_wp2_with fail
  refine HOf.out.mono ?_
  rintro e w1 ⟨(⟨ns,hns,hT1,gb,D,rfl,hG,hDi⟩|⟨hno,rfl⟩),k1⟩
  . have HK1:=sE k1
    have HG:=sE hG
    have HR:Sl (EK (BJ cs) xs ns):=⟨⟨hns,hT1⟩⟩
    have hnl:ns.length<=65536:=by rw[hns,List.length_map] at hxl;exact hxl
    have HNX:Sl (DU w (.slice va xs.length vc) ns):=⟨nats_of_ints HX.out hns⟩
    clear hns hT1 hG hDi k1
    go_wp2_with fail
    refine(HHas.out _ HK1.out).mono ?_
    rintro e w2 ⟨rfl,k2⟩
    cases b with
    |false=>
      have HNo:Sl (¬ ∃ g:Nat,i=(g:Int)/\BJ cs g):=⟨λ h=>by have:=HTy.out.2 h;cases this⟩
      go_wp2
      go_ret2
      exact⟨.inr ⟨.inr HNo.out,rfl⟩,HK1.out.then' k2⟩
    |true=>
      obtain⟨g,rfl,hTg⟩:=HTy.out.1 rfl
      have hgl:=HT.out g hTg
      have HTg:=sE hTg
      have HK2:=sE (HK1.out.then' k2)
      have HG2:=sE (HG.out.Am k2)
      clear k2 hTg HG HK1
      go_wp2_with fail
      refine(HMk.out _ _ ns HK2.out (HNX.out.Am HK2.out) HR.out.2 hnl).mono ?_
      rintro e w3 ⟨mp,mq,fm,n1,dp,ag,rfl,hb3,hn3,-,-,hr3,ht3,-,-,k3⟩
      have HB3:=sE hb3
      have HK3:=sE (HK2.out.then' k3)
      have HG3:=sE (HG2.out.Am k3)
      have HFm:Sl (fm g=true ↔ Bz es ns g):=⟨by rw[hr3,HRe.out ns HR.out.2]⟩
      clear hb3 k3 hr3 ht3 hn3 HG2
      have HHa:Sl (∀ o,_):=⟨λ o=>Has_in g H mp mq fm (w3.alloc o) (HB3.out.keep ((Kr Ag w3).alloc o) (λ h=>h) (λ h=>h)) hgl⟩
      go_wp2_with fail
      refine(HHa.out _).mono ?_
      rintro e w4 ⟨rfl,k4⟩
      have K34:Kp Ag w3 w4:=((Kr _ _).alloc _).then' k4
      have HK4:=sE (HK3.out.then' K34)
      have HG4:=sE (HG3.out.Am K34)
      clear k4 K34 HG3 HHa HB3
      cases hfg:fm g with
      |false=>
        have HNr:Sl (¬ Bz es ns g):=⟨λ h=>by have:=HFm.out.2 h;rw [hfg] at this;cases this⟩
        clear hfg
        go_wp2
        go_ret2
        exact⟨.inl ⟨ns,HR.out,g,rfl,HTg.out,.inr ⟨HNr.out,rfl⟩⟩,HK4.out⟩
      |true=>
        have HRg:Sl (Bz es ns g):=⟨HFm.out.1 hfg⟩
        obtain⟨mo,mi,mf,n,co,ci,hg,-,⟨hm,hr⟩,-⟩:=HG4.out
        obtain⟨gc0,gc1,gc2⟩:=Dl hg
        have hlk:=hm.look (g:=g) (by omega) Bh (EZ _)
        have hR:=hr g
        obtain⟨rv,hrv⟩:∃ v,(ci g).getD (.slice none 0 0)=v:=⟨_,rfl⟩
        rw[hrv] at hlk hR
        have HRow:Sl (ED w4 rv (inE es g)):=⟨hR⟩
        obtain⟨ra,rc,rfl,-⟩:=hR
        obtain⟨N,hN⟩:∃ N,(inE es g).length=N:=⟨_,rfl⟩
        have hNl:N<=2147483648:=by
          have h1:=HE.out.2
          have h2:(inE es g).length<=es.length:=List.length_filter_le _ _
          omega
        rw[hN] at hlk HRow
        have HN:=sE hN
        clear hfg hg hm hr hrv hN
        go_wp2_with fail
        obtain⟨B,hB⟩:∃ B,w4.heap.size=B:=⟨_,rfl⟩
        have HBs:Sl (w.heap.size<=B):=⟨by have:=HK4.out.size;omega⟩
        go_loopw [6,51] (λ x6 x51 wr=>∃ (j:Nat) (os:List (Nat×Nat×Nat)),x51=.int .i64 (j:Nat)/\j<=N/\os=onlyU es ns g ((inE es g).take j)/\wr.ownsRow B 70 3 x6 os.length (Cq os)/\Kp (λ b=>B<=b) w4 wr) (λ _ x51 _=>N-(intOf x51).toNat)
        case atStart=>exact ⟨0,[],rfl,Nat.zero_le _,rfl,World.ownsRow_nil _ _ _ _,Kr _ _⟩
        case round=>
          obtain⟨j,os,rfl,hj,hos,ho,hkk⟩:=hrel
          obtain⟨oa,oc,rfl⟩:=Ba ho
          obtain⟨OL,hOL⟩:∃ n,os.length=n:=⟨_,rfl⟩
          have hOl:OL<=N:=by
            rw[<- hOL,hos]
            exact Nat.le_trans (List.length_filter_le _ _) (by rw[List.length_take];omega)
          have HOL:=sE hOL
          have HOs:=sE hos
          rw[hOL] at ho ⊢
          have HO:=sE ho
          have hkn:Kp Ag w4 wr:=hkk.mono λ b hb h=>by omega
          have HKn:=sE hkn
          have HKk:=sE hkk
          have HKr:Sl (Kp Ag w wr):=⟨HK4.out.then' hkn⟩
          have hszB:B<=wr.heap.size:=by have:=hkn.size;omega
          by_cases hjl:j<N
          . have hjl':(j:Int)<(N:Int):=by omega
            obtain⟨y,hy⟩:∃ y,(inE es g)[j]?=some y:=⟨(inE es g)[j]'(by rw[HN.out];exact hjl),by simp⟩
            obtain⟨a',c',hac,hcells⟩:=HRow.out
            obtain⟨eb,heb,heb0,y0,y1,y2⟩:=hcells j y hy
            have hra2:ra=some ⟨eb,0,none⟩:=by injection hac with h1;rw [h1];exact heb
            subst hra2
            have y0:=hkn.cell y0 (λ h=>h)
            have y1:=hkn.cell y1 (λ h=>h)
            have y2:=hkn.cell y2 (λ h=>h)
            have HTk:Sl ((inE es g).take (j+1)=(inE es g).take j++[y]):=⟨by rw[List.take_add_one,hy];rfl⟩
            clear hac hcells heb hy hkn hos hOL ho hkk gc0 gc1 gc2 hlk
            go_wp2_with fail
            obtain⟨wA,hwA⟩:∃ wA,wA=wr.alloc (.cells #[.int .i64 (y.1:Nat),.int .i64 (y.2.1:Nat),.int .i64 (y.2.2:Nat)] 70):=⟨_,rfl⟩
            have kA:Kp Ag wr wA:=by rw[hwA];exact (Kr _ wr).alloc _
            have bA:wA.heap[wr.heap.size]?=some (.cells #[.int .i64 (y.1:Nat),.int .i64 (y.2.1:Nat),.int .i64 (y.2.2:Nat)] 70 (0,0)):=by rw[hwA];exact wN wr _
            rw[<- hwA]
            obtain⟨xb,hxb⟩:∃ b,wr.heap.size=b:=⟨_,rfl⟩
            rw[hxb] at bA ⊢
            obtain⟨e0,e1,e2⟩:=cells3 bA
            have KwA:Kp Ag w wA:=HKr.out.then' kA
            have HKA:=sE kA
            have HKwA:=sE KwA
            have HWi:Sl (∀ W',Kp Ag wA W'->_):=⟨λ W' kk=>Without_at W' gb H es D y (.slice va xs.length vc) ns (HG4.out.Am (HKn.out.then' (kA.then' kk))) (HNX.out.Am (KwA.then' kk)) (λ g hg=>HT.out g (HR.out.2 g hg)) HE.out.1 hH65 hnl HE.out.2⟩
            have kd:Kp Ag wA wA.drew:=(Kr _ _).drew
            clear hwA bA y0 y1 y2 kA KwA
            refine wp_region_held_drew (S:=λ w'=>w'.cell? ⟨xb,0,none⟩=some (.int .i64 (y.1:Nat))/\w'.cell? ⟨xb,1,none⟩=some (.int .i64 (y.2.1:Nat))/\w'.cell? ⟨xb,2,none⟩=some (.int .i64 (y.2.2:Nat))) (by kernel_rfl) ?_ (λ qZ=>?_)
            . (try dsimp only);(exact ⟨e0,e1,e2⟩)
            refine AB 0 ?_;refine AB 1 ?_;refine AB 2 ?_;refine AB 4 ?_;refine AB 6 ?_
            try simp only[AJ]
            refine Bj [3] ?_
            refine Ao rfl (λ K hK=>?_)
            go_simp
            go_at_call 87
            (with_reducible refine(HGr.out _ (HKwA.out.then' kd)).mono ?_)
            rintro e w5 ⟨rfl,rfl⟩
            refine hK _ _ ?_ (λ qZ=>?_)
            . (try dsimp only);(exact ⟨Al kd e0,Al kd e1,Al kd e2⟩)
            clear hK K
            try simp only[AJ]
            refine Bj [5] ?_
            refine Ao rfl (λ K hK=>?_)
            go_simp
            go_at_call 100
            (with_reducible refine(HWi.out _ kd).mono ?_)
            rintro e w6 ⟨p6,q6,f6,rfl,hb6,hf6,k6⟩
            have K6:Kp Ag wA w6:=kd.then' k6
            have HHx:=sE (Has_in g H p6 q6 f6 w6 hb6 hgl)
            have HF6:=sE (hf6 g)
            clear hb6 hf6 k6
            refine hK _ _ ?_ (λ qZ=>?_)
            . (try dsimp only);(exact ⟨Al K6 e0,Al K6 e1,Al K6 e2⟩)
            clear hK K
            try simp only[AJ]
            refine Bj [7] ?_
            refine Ao rfl (λ K hK=>?_)
            go_simp
            go_at_call 42
            (with_reducible refine HHx.out.mono ?_)
            rintro e w7 ⟨rfl,k7⟩
            have K7:Kp Ag wA w7:=K6.then' k7
            refine hK _ _ ?_ (λ qZ=>?_)
            . (try dsimp only);(exact ⟨Al K7 e0,Al K7 e1,Al K7 e2⟩)
            clear hK K
            try simp only[AJ]
            refine AB 8 ?_
            try simp only[AJ]
            refine wpAnyH_done (by kernel_rfl) ?_ _
            have HK7:=sE (HKA.out.then' K7)
            have y0:=Al K7 e0
            have y1:=Al K7 e1
            have y2:=Al K7 e2
            have HO7:=sE (Ac HO.out (HKA.out.then' K7) (λ _ _ h=>h))
            have hz7:=HK7.out.size
            clear K7 k7 e0 e1 e2 qZ kd K6 HHx
            cases hf6:f6 g with
            |true=>
              have HOn:Sl (onlyU es ns g ((inE es g).take (j+1))=os):=⟨by
                rw[HTk.out,onlyU_add,if_neg (λ h=>h (HF6.out.1 hf6)),List.append_nil,HOs.out]⟩
              clear hf6
              go_wp2
              exact⟨⟨j+1,os,by go_num,by omega,HOn.out.symm,by rw[HOL.out];exact HO7.out,HKk.out.trans HK7.out (λ b hb h=>h.elim)⟩,by simp only[intOf];omega⟩
            |false=>
              have HOn:Sl (onlyU es ns g ((inE es g).take (j+1))=os++[y]):=⟨by
                rw[HTk.out,onlyU_add,if_pos (λ h=>by have:=HF6.out.2 h;rw [hf6] at this;cases this),HOs.out]⟩
              have HKj:=sE (HKk.out.trans HK7.out (λ b hb h=>h.elim))
              clear hf6
              go_wp2_with (at_builtin;obtain ⟨i0,hi0,hz0,hz1,hz2⟩:=info_parts infoEdge;go_loud (refine wpList_append_own_at _ rfl (.tmp 64) (.tmp 66) 47 rfl B 70 i0 _ 3 24 Ck hi0 hz0 hz1 hz2 rfl (by omega) (.slice oa OL oc) OL (Cq os) rfl (HO7.out.alloc _) ⟨w7.heap.size,0,none⟩ 1 1 [.int .i64 (y.1:Nat),.int .i64 (y.2.1:Nat),.int .i64 (y.2.2:Nat)] rfl rfl (World.news_of_block (wN w7 _)) (by intro u hu;simp at hu;rcases hu with rfl|rfl|rfl <;> rfl) (by unfold maxLen;omega) (by omega) (by simp;omega) ?_);intro v' w8 hown8 hgrow hnl8 hat8;obtain ⟨na,nc,rfl⟩:=Ba hown8;clear hi0 hz0 hz1 hz2)
              have KA:Kp (λ k=>(Value.slice oa OL oc).ownBlock=some k) w7 w8:=(((Kr Ag w7).alloc _).AA _).grown hgrow (λ k e _=>e)
              have HK8:=sE (HKj.out.trans KA (λ b hb h=>(Ab HO7.out h).1))
              have HO8:Sl (w8.ownsRow B 70 3 (.slice na (OL+1) nc) (os++[y]).length (Cq (os++[y]))):=⟨by
                rw[flatE_app,List.length_append,HOL.out]
                exact hown8⟩
              clear KA hown8 hgrow hnl8 hat8
              go_wp2
              exact⟨⟨j+1,os++[y],by go_num,by omega,HOn.out.symm,HO8.out,HK8.out⟩,by simp only[intOf];omega⟩
          . have hjl':¬ (j:Int)<(N:Int):=by omega
            obtain rfl:j=N:=by omega
            have HOn:Sl (ED wr (.slice oa OL oc) (onlyL es ns g)):=⟨by
              have h1:onlyL es ns g=os:=by
                rw[HOs.out,List.take_of_length_le (by rw[HN.out];omega)]
                rfl
              rw[h1]
              exact ED.BG (base:=B) (by rw[HOL.out];exact HO.out)⟩
            clear hkn hos hOL ho hkk gc0 gc1 gc2 hlk
            go_wp2
            go_ret2
            exact⟨.inl ⟨ns,HR.out,g,rfl,HTg.out,.inl ⟨HRg.out,_,rfl,HOn.out⟩⟩,HKr.out⟩
  . have HNo:=sE hno
    have HK1:=sE k1
    clear hno k1
    go_wp2
    go_ret2
    exact⟨.inr ⟨.inl (λ ⟨ms,h⟩=>HNo.out ⟨ms,h.1,h.2⟩),rfl⟩,HK1.out⟩

end

end Go.Proofs.YtpeipocojmjbfaaGreatDoor
