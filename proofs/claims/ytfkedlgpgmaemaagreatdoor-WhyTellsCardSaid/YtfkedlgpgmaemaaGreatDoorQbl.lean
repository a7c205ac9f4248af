/-
  Lemmas for the laws, together: WhyOn.
-/
import Derived.Test.YtfkedlgpgmaemaaGreatDoorQbk
set_option linter.unusedVariables false
set_option maxHeartbeats 16000000
namespace Go.Proofs.YtfkedlgpgmaemaaGreatDoor
open Tryz
section
open Go.RowKit

def WOnlyPost(es:List (Nat×Nat×Nat))(T:Nat->Prop)(xs:List Int)(i:Int)(w:World)(e:Ending)(w':World):Prop:=
  ((∃ ns,GI T xs ns/\∃ g:Nat,i=(g:Int)/\T g/\((AA es ns g/\∃ v:Value,e=.returned (.tuple #[v,(0:Int)])/\Dl w' v (onlyL es ns g))\/(¬ AA es ns g/\e=.returned (.tuple #[.slice none 0 0,(3:Int)]))))\/
   ((¬ (∃ ns,GI T xs ns)\/¬ ∃ g:Nat,i=(g:Int)/\T g)/\e=.returned (.tuple #[.slice none 0 0,(2:Int)])))/\Kp Aa w w'

open Classical in
noncomputable def onlyU (es:List (Nat×Nat×Nat)) (ns:List Nat) (g:Nat) (l:List (Nat×Nat×Nat)):List (Nat×Nat×Nat):=l.filter λ x=> !decide (AA (Gm es x) ns g)

open Classical in
theorem onlyU_add(es:List (Nat×Nat×Nat))(ns:List Nat)(g:Nat)(l:List (Nat×Nat×Nat))(x:Nat×Nat×Nat):onlyU es ns g (l++[x])=onlyU es ns g l++(if ¬ AA (Gm es x) ns g then [x] else []):=by
  unfold onlyU
  rw[List.filter_append]
  by_cases h:AA (Gm es x) ns g <;> simp[h]

set_option maxRecDepth 20000 in
theorem WOnly_at(P:Sp)(W:Nat->Nat)(f:Nat->Bool)(w:World)(cs:List Cel)(hsp:SpaceAt w P W f)(hc:CellsAt P W cs)(hst:∀ i,i<P.n/2->f i=Ak cs i)(hms:∀ x∈P.ts,x.m<18446744073709551616)(i:Int)(v:Value)(xs:List Int)(hx:IntsIn w v xs)(hxl:xs.length<=65536):
    Calls prog 41 #[.pointer (some P.s),.int .i64 i,v] w (WOnlyPost (AP P.ts W cs) (CL cs) xs i w):=by
  obtain⟨va,vc,rfl⟩:=ints_slice hx
  have HX:=sE hx
  have HOf:=sE (WOf_at P W f w cs hsp hc hst hms _ xs hx hxl)
  have HHas:Sl (∀ W',Kp Aa w W'->_):=⟨λ W' kk=>WHas_at P W f W' (hsp.Ac kk) i⟩
  have HTy:Sl (EH f (P.n/2) i=true ↔ ∃ g:Nat,i=(g:Int)/\CL cs g):=⟨hasI_obj hc hst i⟩
  have HT:Sl (∀ g,CL cs g->g<P.n/2):=⟨λ g h=>CV hc h⟩
  have HE:Sl ((∀ x∈AP P.ts W cs,x.2.2<P.n/2)/\(AP P.ts W cs).length<=2147483648):=⟨λ x hx=>CV hc (Ep hc hst hx).2.1,Nat.le_trans (Dv cs _) (hc.to.F8 hsp.ar.small)⟩
  have HRe:Sl (∀ rs:List Nat,(∀ g∈rs,CL cs g)->∀ g,MReach (DU f (P.n/2) P.ts W cs) (λ g=>g∈rs) g ↔ AA (AP P.ts W cs) rs g):=⟨λ rs hr g=>reach_marks hc hst hr g⟩
  obtain⟨KF,hKF⟩:∃ KF,DU f (P.n/2) P.ts W cs=KF:=⟨_,rfl⟩
  obtain⟨H,hH⟩:∃ H,P.n/2=H:=⟨_,rfl⟩
  have hH65:H<=65536:=by have:=hsp.bt.FQ;omega
  have HMk:Sl (∀ W' v rs,Kp Aa w W'->AO W' v rs->(∀ g∈rs,CL cs g)->rs.length<=65536->Calls prog 73 #[.pointer (some P.s),(4096:Int),v] W' (MarkOfPost KF (CL cs) rs 4096 H W')):=⟨λ W' v rs kk hx ho hl=>by
    rw[<- hKF,<- hH]
    exact MarkOf_at P W f 4096 W' cs (hsp.Ac kk) hc hst hms (by omega) (by omega) v rs hx ho hl⟩
  have HGr:Sl (∀ W',Kp Aa w W'->Calls prog 89 #[.pointer (some P.s)] W' λ e w''=>e=.returned (.int .i64 (H:Nat))/\w''=W'):=⟨λ W' kk=>by
    rw[<- hH]
    exact Gran_at P W f W' (hsp.Ac kk)⟩
  obtain⟨es,hes⟩:∃ es,AP P.ts W cs=es:=⟨_,rfl⟩
  rw[hes] at HOf HE HRe ⊢
  rw[hKF] at HRe
  rw[hH] at HHas HTy HT HE
  obtain⟨b,hb⟩:∃ b,EH f H i=b:=⟨_,rfl⟩
  rw[hb] at HHas HTy
  clear hsp hc hst hms hes hb hx hH hKF
  go_enter func41,ntmps41
  go_wp2_with fail
  refine HOf.o.mono ?_
  rintro e w1 ⟨(⟨ns,hns,hT1,gb,D,rfl,hG,hDi⟩|⟨hno,rfl⟩),k1⟩
  . have HK1:=sE k1
    have HG:=sE hG
    have HR:Sl (GI (CL cs) xs ns):=⟨⟨hns,hT1⟩⟩
    have hnl:ns.length<=65536:=by rw[hns,List.length_map] at hxl;exact hxl
    have HNX:Sl (AO w (.slice va xs.length vc) ns):=⟨nats_of_ints HX.o hns⟩
    clear hns hT1 hG hDi k1
    go_wp2_with fail
    refine(HHas.o _ HK1.o).mono ?_
    rintro e w2 ⟨rfl,k2⟩
    cases b with
    |false=>
      have HNo:Sl (¬ ∃ g:Nat,i=(g:Int)/\CL cs g):=⟨λ h=>by have:=HTy.o.2 h;cases this⟩
      go_wp2
      go_ret2
      exact⟨.inr ⟨.inr HNo.o,rfl⟩,HK1.o.then' k2⟩
    |true=>
      obtain⟨g,rfl,hTg⟩:=HTy.o.1 rfl
      have hgl:=HT.o g hTg
      have HTg:=sE hTg
      have HK2:=sE (HK1.o.then' k2)
      have HG2:=sE (HG.o.Ac k2)
      clear k2 hTg HG HK1
      go_wp2_with fail
      refine(HMk.o _ _ ns HK2.o (HNX.o.Ac HK2.o) HR.o.2 hnl).mono ?_
      rintro e w3 ⟨mp,mq,fm,n1,dp,ag,rfl,hb3,hn3,-,-,hr3,ht3,-,-,k3⟩
      have HB3:=sE hb3
      have HK3:=sE (HK2.o.then' k3)
      have HG3:=sE (HG2.o.Ac k3)
      have HFm:Sl (fm g=true ↔ AA es ns g):=⟨by rw[hr3,HRe.o ns HR.o.2]⟩
      clear hb3 k3 hr3 ht3 hn3 HG2
      have HHa:Sl (∀ o,_):=⟨λ o=>Has_in g H mp mq fm (w3.alloc o) (HB3.o.keep ((Kr Aa w3).alloc o) id id) hgl⟩
      go_wp2_with fail
      refine(HHa.o _).mono ?_
      rintro e w4 ⟨rfl,k4⟩
      have K34:Kp Aa w3 w4:=((Kr _ _).alloc _).then' k4
      have HK4:=sE (HK3.o.then' K34)
      have HG4:=sE (HG3.o.Ac K34)
      clear k4 K34 HG3 HHa HB3
      cases hfg:fm g with
      |false=>
        have HNr:Sl (¬ AA es ns g):=⟨λ h=>by have:=HFm.o.2 h;rw [hfg] at this;cases this⟩
        clear hfg
        go_wp2
        go_ret2
        exact⟨.inl ⟨ns,HR.o,g,rfl,HTg.o,.inr ⟨HNr.o,rfl⟩⟩,HK4.o⟩
      |true=>
        have HRg:Sl (AA es ns g):=⟨HFm.o.1 hfg⟩
        obtain⟨mo,mi,mf,n,co,ci,hg,-,⟨hm,hr⟩,-⟩:=HG4.o
        obtain⟨gc0,gc1,gc2⟩:=Gy hg
        have hlk:=hm.look (g:=g) (by omega) Gf (Gp _)
        have hR:=hr g
        obtain⟨rv,hrv⟩:∃ v,(ci g).getD (.slice none 0 0)=v:=⟨_,rfl⟩
        rw[hrv] at hlk hR
        have HRow:Sl (Dl w4 rv (GD es g)):=⟨hR⟩
        obtain⟨ra,rc,rfl,-⟩:=hR
        obtain⟨N,hN⟩:∃ N,(GD es g).length=N:=⟨_,rfl⟩
        have hNl:N<=2147483648:=by
          have h1:=HE.o.2
          have h2:(GD es g).length<=es.length:=List.length_filter_le _ _
          omega
        rw[hN] at hlk HRow
        have HN:=sE hN
        clear hfg hg hm hr hrv hN
        go_wp2_with fail
        obtain⟨B,hB⟩:∃ B,w4.heap.size=B:=⟨_,rfl⟩
        have HBs:Sl (w.heap.size<=B):=⟨by have:=HK4.o.size;omega⟩
        go_loopw [6,51] (λ x6 x51 wr=>∃ (j:Nat) (os:List (Nat×Nat×Nat)),x51=.int .i64 j/\j<=N/\os=onlyU es ns g ((GD es g).take j)/\wr.ownsRow B 70 3 x6 os.length (Bt os)/\Kp (λ b=>B<=b) w4 wr) (λ _ x51 _=>N-(intOf x51).toNat)
        case atStart=>exact ⟨0,[],rfl,Nat.zero_le _,rfl,World.ownsRow_nil _ _ _ _,Kr _ _⟩
        case round=>
          obtain⟨j,os,rfl,hj,hos,ho,hkk⟩:=hrel
          obtain⟨oa,oc,rfl⟩:=Aq ho
          obtain⟨OL,hOL⟩:∃ n,os.length=n:=⟨_,rfl⟩
          have hOl:OL<=N:=by
            rw[<- hOL,hos]
            exact Nat.le_trans (List.length_filter_le _ _) (by rw[List.length_take];omega)
          have HOL:=sE hOL
          have HOs:=sE hos
          rw[hOL] at ho ⊢
          have HO:=sE ho
          have hkn:Kp Aa w4 wr:=hkk.mono λ b hb h=>by omega
          have HKn:=sE hkn
          have HKk:=sE hkk
          have HKr:Sl (Kp Aa w wr):=⟨HK4.o.then' hkn⟩
          have hszB:B<=wr.heap.size:=by have:=hkn.size;omega
          by_cases hjl:j<N
          . have hjl':(j:Int)<(N:Int):=by omega
            obtain⟨y,hy⟩:∃ y,(GD es g)[j]?=some y:=⟨(GD es g)[j]'(by rw[HN.o];exact hjl),by simp⟩
            obtain⟨a',c',hac,hcells⟩:=HRow.o
            obtain⟨eb,heb,heb0,y0,y1,y2⟩:=hcells j y hy
            have hra2:ra=some ⟨eb,0,none⟩:=by injection hac with h1;rw [h1];exact heb
            subst hra2
            have y0:=hkn.cell y0 id
            have y1:=hkn.cell y1 id
            have y2:=hkn.cell y2 id
            have HTk:Sl ((GD es g).take (j+1)=(GD es g).take j++[y]):=⟨by rw[List.take_add_one,hy];rfl⟩
            clear hac hcells heb hy hkn hos hOL ho hkk gc0 gc1 gc2 hlk
            go_wp2_with fail
            obtain⟨wA,hwA⟩:∃ wA,wA=wr.alloc (.cells #[y.1,y.2.1,y.2.2] 70):=⟨_,rfl⟩
            have kA:Kp Aa wr wA:=by rw[hwA];exact (Kr _ wr).alloc _
            have bA:wA.heap[wr.heap.size]?=some (.cells #[y.1,y.2.1,y.2.2] 70 (0,0)):=by rw[hwA];exact wN wr _
            rw[<- hwA]
            obtain⟨xb,hxb⟩:∃ b,wr.heap.size=b:=⟨_,rfl⟩
            rw[hxb] at bA ⊢
            obtain⟨e0,e1,e2⟩:=cells3 bA
            have KwA:Kp Aa w wA:=HKr.o.then' kA
            have HKA:=sE kA
            have HKwA:=sE KwA
            have HWi:Sl (∀ W',Kp Aa wA W'->_):=⟨λ W' kk=>Without_at W' gb H es D y (.slice va xs.length vc) ns (HG4.o.Ac (HKn.o.then' (kA.then' kk))) (HNX.o.Ac (KwA.then' kk)) (λ g hg=>HT.o g (HR.o.2 g hg)) HE.o.1 hH65 hnl HE.o.2⟩
            have kd:Kp Aa wA wA.drew:=(Kr _ _).drew
            clear hwA bA y0 y1 y2 kA KwA
            refine wp_region_held_drew (S:=λ w'=>w'.cell? xb=some (.int .i64 y.1)/\w'.cell? ⟨xb,1,none⟩=some (.int .i64 y.2.1)/\w'.cell? ⟨xb,2,none⟩=some (.int .i64 y.2.2)) (by kernel_rfl) ?_ (λ qZ=>?_)
            . (try dsimp only);(exact ⟨e0,e1,e2⟩)
            refine Ap 0 ?_;refine Ap 1 ?_;refine Ap 2 ?_;refine Ap 4 ?_;refine Ap 6 ?_
            try simp only[AB]
            refine Bp [3] ?_
            refine Ag rfl (λ K hK=>?_)
            go_simp
            go_at_call 89
            (with_reducible refine(HGr.o _ (HKwA.o.then' kd)).mono ?_)
            rintro e w5 ⟨rfl,rfl⟩
            refine hK _ _ ?_ (λ qZ=>?_)
            . (try dsimp only);(exact ⟨Ae kd e0,Ae kd e1,Ae kd e2⟩)
            clear hK K
            try simp only[AB]
            refine Bp [5] ?_
            refine Ag rfl (λ K hK=>?_)
            go_simp
            go_at_call 88
            (with_reducible refine(HWi.o _ kd).mono ?_)
            rintro e w6 ⟨p6,q6,f6,rfl,hb6,hf6,k6⟩
            have K6:Kp Aa wA w6:=kd.then' k6
            have HHx:=sE (Has_in g H p6 q6 f6 w6 hb6 hgl)
            have HF6:=sE (hf6 g)
            clear hb6 hf6 k6
            refine hK _ _ ?_ (λ qZ=>?_)
            . (try dsimp only);(exact ⟨Ae K6 e0,Ae K6 e1,Ae K6 e2⟩)
            clear hK K
            try simp only[AB]
            refine Bp [7] ?_
            refine Ag rfl (λ K hK=>?_)
            go_simp
            go_at_call 58
            (with_reducible refine HHx.o.mono ?_)
            rintro e w7 ⟨rfl,k7⟩
            have K7:Kp Aa wA w7:=K6.then' k7
            refine hK _ _ ?_ (λ qZ=>?_)
            . (try dsimp only);(exact ⟨Ae K7 e0,Ae K7 e1,Ae K7 e2⟩)
            clear hK K
            try simp only[AB]
            refine Ap 8 ?_
            try simp only[AB]
            refine wpAnyH_done (by kernel_rfl) ?_ _
            have HK7:=sE (HKA.o.then' K7)
            have y0:=Ae K7 e0
            have y1:=Ae K7 e1
            have y2:=Ae K7 e2
            have HO7:=sE (Af HO.o (HKA.o.then' K7) (λ _ _ h=>h))
            have hz7:=HK7.o.size
            clear K7 k7 e0 e1 e2 qZ kd K6 HHx
            cases hf6:f6 g with
            |true=>
              have HOn:Sl (onlyU es ns g ((GD es g).take (j+1))=os):=⟨by
                rw[HTk.o,onlyU_add,if_neg (λ h=>h (HF6.o.1 hf6)),List.append_nil,HOs.o]⟩
              clear hf6
              go_wp2
              exact⟨⟨j+1,os,by go_num,by omega,HOn.o.symm,by rw[HOL.o];exact HO7.o,HKk.o.trans HK7.o (λ b hb h=>h.elim)⟩,by simp only[intOf];omega⟩
            |false=>
              have HOn:Sl (onlyU es ns g ((GD es g).take (j+1))=os++[y]):=⟨by
                rw[HTk.o,onlyU_add,if_pos (λ h=>by have:=HF6.o.2 h;rw [hf6] at this;cases this),HOs.o]⟩
              have HKj:=sE (HKk.o.trans HK7.o (λ b hb h=>h.elim))
              clear hf6
              go_wp2_with (at_builtin;obtain ⟨i0,hi0,hz0,hz1,hz2⟩:=info_parts Gu;go_loud (refine wpList_append_own_at _ rfl (.tmp 64) (.tmp 66) 47 rfl B 70 i0 _ 3 24 EB hi0 hz0 hz1 hz2 rfl (by omega) (.slice oa OL oc) OL (Bt os) rfl (HO7.o.alloc _) ⟨w7.heap.size,0,none⟩ 1 1 [y.1,y.2.1,y.2.2] rfl rfl (World.news_of_block (wN w7 _)) (by intro u hu;simp at hu;rcases hu with rfl|rfl|rfl <;> rfl) (by unfold maxLen;omega) (by omega) (by simp;omega) ?_);intro v' w8 hown8 hgrow hnl8 hat8;obtain ⟨na,nc,rfl⟩:=Aq hown8;clear hi0 hz0 hz1 hz2)
              have KA:Kp (λ k=>(Value.slice oa OL oc).ownBlock=some k) w7 w8:=(((Kr Aa w7).alloc _).Aw _).grown hgrow (λ k e _=>e)
              have HK8:=sE (HKj.o.trans KA (λ b hb h=>(Ad HO7.o h).1))
              have HO8:Sl (w8.ownsRow B 70 3 (.slice na (OL+1) nc) (os++[y]).length (Bt (os++[y]))):=⟨by
                rw[ER,List.length_append,HOL.o]
                exact hown8⟩
              clear KA hown8 hgrow hnl8 hat8
              go_wp2
              exact⟨⟨j+1,os++[y],by go_num,by omega,HOn.o.symm,HO8.o,HK8.o⟩,by simp only[intOf];omega⟩
          . have hjl':¬ (j:Int)<(N:Int):=by omega
            obtain rfl:j=N:=by omega
            have HOn:Sl (Dl wr (.slice oa OL oc) (onlyL es ns g)):=⟨by
              have h1:onlyL es ns g=os:=by
                rw[HOs.o,List.take_of_length_le (by rw[HN.o];omega)]
                rfl
              rw[h1]
              exact Dl.Bc (base:=B) (by rw[HOL.o];exact HO.o)⟩
            clear hkn hos hOL ho hkk gc0 gc1 gc2 hlk
            go_wp2
            go_ret2
            exact⟨.inl ⟨ns,HR.o,g,rfl,HTg.o,.inl ⟨HRg.o,_,rfl,HOn.o⟩⟩,HKr.o⟩
  . have HNo:=sE hno
    have HK1:=sE k1
    clear hno k1
    go_wp2
    go_ret2
    exact⟨.inr ⟨.inl (λ ⟨ms,h⟩=>HNo.o ⟨ms,h.1,h.2⟩),rfl⟩,HK1.o⟩

end

end Go.Proofs.YtfkedlgpgmaemaaGreatDoor
