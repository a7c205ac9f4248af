/-
  Lemmas for the laws, together: TellsA.
-/
import Derived.Test.YtmfajopmppfldaaGreatDoorQbl
import Derived.Test.YtmfajopmppfldaaGreatDoorQau
import Derived.Test.YtmfajopmppfldaaGreatDoorQbj
set_option linter.unusedVariables false
set_option maxHeartbeats 16000000
namespace Go.Proofs.YtmfajopmppfldaaGreatDoor
open Go.Proofs.Tryz
section
open Go.RowKit

set_option maxRecDepth 20000 in
theorem DAddr23_at(es:List (Nat×Nat×Nat))(v:Value)(y:Nat)(w:World)(h:Du w v es)(hl:es.length<=65536)(hs:∀ x∈es,x.1<=65536/\x.2.1<=65536):
  Calls prog 151 #[.agg #[v],.int .u64 (y:Nat)] w λ e w'=>e=.returned (.int .u64 (toA es y:Nat))/\Kp Ab w w':=by
 have HV:=sE h
 obtain⟨va,vc,rfl,-⟩:=h
 obtain⟨len,hlen⟩:∃ len,es.length=len:=⟨_,rfl⟩
 rw[hlen] at HV hl ⊢
 have HL:=sE hlen
 have HS:=sE hs
 obtain⟨w1,hw1⟩:∃ w1,w1=w.alloc (.cells #[.slice va len vc] 33):=⟨_,rfl⟩
 have k1:Kp Ab w w1:=by rw[hw1];exact (Kr _ w).alloc _
 have b1:w1.heap[w.heap.size]?=some (.cells #[.slice va len vc] 33 (0,0)):=by rw[hw1];exact wN w _
 have c0:=cell_of_one b1
 have HK1:=sE k1
 clear hlen k1 b1 hs
 go_enter func151,ntmps151
 go_wp2_with fail
 rw[<- hw1]
 clear hw1
 go_loopw [5] (λ x5 wr=>∃ j:Nat,j<=len/\x5=.int .i64 (j:Nat)/\Sl ((es.take j).find? (λ x=>Dk x.1==y)=none)/\wr=w1) (λ x5 _=>len-(intOf x5).toNat)
 case atStart=>exact ⟨0,Nat.zero_le _,rfl,⟨rfl⟩,rfl⟩
 case round=>
  obtain⟨j,hj,rfl,HC,rfl⟩:=hrel
  by_cases hjl:j<len
  .have hjl':(j:Int)<(len:Int):=by omega
   obtain⟨va',vc',e,hx⟩:=HV.out
   injection e with e1 e3 e2
   clear e3
   subst e1 e2
   obtain⟨x,hxj⟩:∃ x,es[j]?=some x:=⟨_,List.getElem?_eq_getElem (by rw[HL.out];exact hjl)⟩
   obtain⟨bb,o,rfl,hbb,x0,x1,x2⟩:=hx j x hxj
   replace x0:=HK1.out.cell x0 (λ h=>h)
   replace x1:=HK1.out.cell x1 (λ h=>h)
   have HX:=sE hxj
   have hxs:=HS.out x (List.mem_of_getElem? hxj)
   obtain⟨f,t,z⟩:=x
   simp only at x0 x1 hxs
   obtain⟨A,hA⟩:∃ A,Dk f=A:=⟨_,rfl⟩
   obtain⟨T,hT⟩:∃ T,Dk t=T:=⟨_,rfl⟩
   have HAf:Sl (Calls prog 134 #[.int .i64 (f:Nat)] wr λ e w'=>e=.returned (.int .u64 (A:Nat))/\w'=wr):=⟨by rw[<- hA];exact DAddr_at f _ hxs.1⟩
   have HAt:Sl (Calls prog 134 #[.int .i64 (t:Nat)] wr λ e w'=>e=.returned (.int .u64 (T:Nat))/\w'=wr):=⟨by rw[<- hT];exact DAddr_at t _ hxs.2⟩
   have hA0:¬ A=0:=by rw[<- hA];unfold Dk;omega
   have HT:=sE hT
   have HA:=sE hA
   clear hx hxj hbb x2 hxs hT hA
   by_cases hAy:A=y
   .subst hAy
    have p0:((A:Int) !=0)=true:=by rw[bne_iff_ne];omega
    have p1:((A:Int)==(A:Int))=true:=by simp
    have HP:Sl (toA es A=T):=⟨by
     unfold toA
     rw[find_hit' HC.out HX.out (by simp[HA.out])]
     exact HT.out⟩
    go_wp2_with fail
    refine HAf.out.mono ?_
    rintro e w2 ⟨rfl,rfl⟩
    go_wp2_with fail
    refine HAt.out.mono ?_
    rintro e w2 ⟨rfl,rfl⟩
    go_wp2_with fail
    exact bodyPost_ret (v:=.int .u64 (T:Nat)) (by simp[results,results151,go_sem]) rfl ⟨by rw[HP.out],HK1.out⟩
   .have HC2:=sE (find_miss' (p:=λ x=>Dk x.1==y) HC.out HX.out (by simp only[HA.out];simpa using hAy))
    by_cases hy0:y=0
    .have p0:((y:Int) !=0)=false:=by simp[hy0]
     go_wp2_with fail
     exact⟨⟨j+1,by omega,by go_num,HC2,trivial⟩,by simp only[intOf];omega⟩
    .have p0:((y:Int) !=0)=true:=by rw[bne_iff_ne];omega
     have p1:((A:Int)==(y:Int))=false:=by rw[beq_eq_false_iff_ne];omega
     go_wp2_with fail
     refine HAf.out.mono ?_
     rintro e w2 ⟨rfl,rfl⟩
     go_wp2_with fail
     exact⟨⟨j+1,by omega,by go_num,HC2,trivial⟩,by simp only[intOf];omega⟩
  .have hjl':¬ (j:Int)<(len:Int):=by omega
   have HP:Sl (toA es y=0):=⟨by
    have:=HC.out
    rw[List.take_of_length_le (by rw[HL.out];omega)] at this
    unfold toA
    rw[this]⟩
   go_wp2_with fail
   exact bodyPost_ret (v:=.int .u64 0) (by simp[results,results151,go_sem]) rfl ⟨by rw[HP.out];rfl,HK1.out⟩

def D23Post(P:Sp)(W:Nat->Nat)(cs:List Cel)(es:List (Nat×Nat×Nat))(w:World)(e:Ending)(w':World):Prop:=
 ∃ q' cap',e=.returned (.tuple #[.slice (some ⟨q',0,none⟩) P.n cap',.int .i64 (DK es (Eu P.ts cs) es W:Nat)])/\WRow w' q' P.n (BL es (Eu P.ts cs) es W)/\w.heap.size<=q'/\Kp Ab w w'

theorem turnP_next{es xs:List (Nat×Nat×Nat)}{j:Nat}{x:Nat×Nat×Nat}(h:xs[j]?=some x)(rf:Nat->List Nat)(W:Nat->Nat):BL es rf (xs.take (j+1)) W=Bv es x.1 (rf x.1) (BL es rf (xs.take j) W)/\DK es rf (xs.take (j+1)) W=DK es rf (xs.take j) W+Ec es x.1 (rf x.1) (BL es rf (xs.take j) W):=by
 rw[BR h,turnP_app,cntT_app]
 exact⟨rfl,rfl⟩

theorem turnS_next{es:List (Nat×Nat×Nat)}{g k s:Nat}{ss:List Nat}(h:ss[k]?=some s)(W:Nat->Nat):
  Bv es g (ss.take (k+1)) W=BM (Bv es g (ss.take k) W) (2*g+1+s) (toA es (Bv es g (ss.take k) W (2*g+1+s)))/\
  Ec es g (ss.take (k+1)) W=Ec es g (ss.take k) W+(if toA es (Bv es g (ss.take k) W (2*g+1+s))=Bv es g (ss.take k) W (2*g+1+s) then 0 else 1):=by
 have e:ss.take (k+1)=ss.take k++[s]:=by rw[List.take_add_one,h];rfl
 rw[e,turnS_app,cntS_app]
 exact⟨rfl,rfl⟩

set_option maxRecDepth 20000 in
theorem D23Do_at(P:Sp)(W:Nat->Nat)(cs:List Cel)(es:List (Nat×Nat×Nat))(rb q:Nat)(lv v:Value)(w:World)(hc:CellsAt P W cs)(hd:DocAt w rb q P.n W lv)(hv:AO w lv P.ts)(hl:P.ts.length<=17592186044416)(hM:Cg P.ts)(h:Du w v es)(hg:GoodP cs es)(hel:es.length<=1000)(h0:0<P.n):
  Calls prog 119 #[.pointer (some ⟨rb,0,none⟩),.agg #[v]] w (D23Post P W cs es w):=by
 have HRo:=sE h
 have HGp:=sE hg
 have HCs:=sE hc
 have HDc:=sE hd
 have HTy:=sE hv
 have HMs:=sE hM
 have HTl:=sE hc.tl
 have hsm:=hd.row.small
 obtain⟨va,vc,rfl,-⟩:=h
 obtain⟨n,hn⟩:∃ n,es.length=n:=⟨_,rfl⟩
 rw[hn] at HRo hel ⊢
 have HN:=sE hn
 have HSm:Sl (∀ x∈es,x.1<=65536/\x.2.1<=65536):=⟨λ x hx=>by
  have:=hg.fit hc.tl hx
  omega⟩
 obtain⟨capr,d0,d1⟩:=hd.head
 have lrb:=hd.lt
 have lq:=hd.row.lt
 obtain⟨B,hB⟩:∃ B,w.heap.size=B:=⟨_,rfl⟩
 obtain⟨w1,hw1⟩:∃ w1,w1=w.alloc (.cells #[.slice va n vc] 33):=⟨_,rfl⟩
 have k1:Kp Ab w w1:=by rw[hw1];exact (Kr _ w).alloc _
 have b1:w1.heap[B]?=some (.cells #[.slice va n vc] 33 (0,0)):=by rw[hw1,<- hB];exact wN w _
 have HRw:=sE (hd.row.Ad k1)
 have HB1:=sE b1
 have HK1:=sE k1
 have c0:=k1.cell d0 (λ h=>h)
 have lrb1:rb<w1.heap.size:=Nat.lt_of_lt_of_le lrb k1.size
 rw[hB] at lrb lq
 have HLt:Sl (rb<B/\q<B):=⟨⟨lrb,lq⟩⟩
 have HD0:=sE (And.intro d0 d1)
 clear hn hg k1 b1 hc hd hv hM d0 d1 lrb lq
 go_enter func119,ntmps119
 go_upto_region 1 with fail
 rw[<- hw1]
 clear hw1
 try rw[hB]
 go_wp2_with (at_builtin;go_loud (refine Ed rfl (.tmp 21) rfl q P.n capr W rfl HRw.out h0 ?_);intro w2 q2 cap2 hr2 hq2 k2)
 have HR2:=sE hr2
 have HK2:Sl (Kp Ab w w2):=⟨HK1.out.then' k2⟩
 have HB2:=sE (k2.at_ HB1.out (λ h=>h))
 have hq2':B<q2:=by have:=lZ HB1.out;omega
 have lq2:=hr2.lt
 clear hr2 hq2 k2 c0 lrb1
 go_wp2_with fail
 go_loopw [7,8,9,10,11,12,13,14,15,16,17] (λ x7 x8 _ _ _ _ _ _ _ _ _ wr=>∃ j:Nat,j<=n/\x8=.int .i64 (j:Nat)/\x7=.int .i64 (DK es (Eu P.ts cs) (es.take j) W:Nat)/\WRow wr q2 P.n (BL es (Eu P.ts cs) (es.take j) W)/\Kp (λ k=>k=q2) w2 wr) (λ _ x8 _ _ _ _ _ _ _ _ _ _=>n-(intOf x8).toNat)
 case atStart=>exact ⟨0,Nat.zero_le _,rfl,rfl,HR2.out,Kr _ _⟩
 case round=>
  obtain⟨j,hj,rfl,rfl,hwr,hk⟩:=hrel
  obtain⟨wg,rfl⟩:∃ wg:World,wg=wr:=⟨_,rfl⟩
  have HWr:=sE hwr
  have HK:=sE hk
  have hBq:¬ B=q2:=by omega
  have cB:=cell_of_one (hk.at_ HB2.out hBq)
  by_cases hjl:j<n
  .have hjl':(j:Int)<(n:Int):=by omega
   obtain⟨va',vc',e,hx⟩:=HRo.out
   injection e with e1 e3 e2
   clear e3
   subst e1 e2
   obtain⟨x,hxj⟩:∃ x,es[j]?=some x:=⟨_,List.getElem?_eq_getElem (by rw[HN.out];exact hjl)⟩
   obtain⟨bb,o,rfl,hbb,x0,-,-⟩:=hx j x hxj
   have hbq:¬ bb=q2:=by rw[hB] at hbb;omega
   replace x0:=hk.cell (HK2.out.cell x0 (λ h=>h)) hbq
   have HX:=sE hxj
   obtain⟨c,hcm,ht,c2,c3⟩:=HGp.out.obj x (List.mem_of_getElem? hxj)
   obtain⟨xf,xt,xz⟩:=x
   simp only at x0 c2 c3
   subst c2
   have hrq:¬ rb=q2:=by have:=HLt.out.1;omega
   have hqq:¬ q=q2:=by have:=HLt.out.2;omega
   have Dg:DocAt wg rb q P.n W lv:=(HDc.out.Ad HK2.out).keep hk hrq hqq
   have Tg:AO wg lv P.ts:=HTy.out.FD (((HK2.out.Ak (λ k=>k=q2)).trans hk (λ _ _ h=>h)).mono (λ i hi h=>by have h':i=q2:=h;rw [hB];omega))
   obtain⟨k,wds,m,hty⟩:=En ((HCs.out.ok c hcm).2 ht).1
   have hE:=kind_of HCs.out hcm ht hty
   have hMm:m<18446744073709551616:=HMs.out _ (typeOf_mem hty)
   have hrf:Eu P.ts cs c.g=Ba k wds m (c.ln:Nat):=by rw[rfG_at HTl.out hcm ht];unfold Ct;rw [hty]
   have c0:=hk.cell (HK2.out.cell HD0.out.1 (λ h=>h)) hrq
   have c1:=hk.cell (HK2.out.cell HD0.out.2 (λ h=>h)) hrq
   have hrb:rb<wg.heap.size:=Dg.lt
   have HOf:Sl (∀ W',Kp Ab wg W'->Calls prog 132 #[.slice (some ⟨q,0,none⟩) P.n capr,lv,.int .i64 (c.g:Nat)] W' λ e w'=>e=.returned (.tuple #[.agg #[.int .u8 1,.int .i64 (c.ty:Nat),.int .i64 (c.ln:Nat),.int .i64 (c.sz:Nat)],.agg #[.int .u8 k,.int .i64 wds,.int .u64 (m:Nat)],.int .i64 0])/\Kp Ab W' w'):=⟨λ W' kk=>by
    refine(DOf_any (c.g:Nat) q P.n capr W lv P.ts W' (Dg.Ad kk).row (Tg.Ad kk) hl HMs.out).mono λ e w' hp=>?_
    unfold DN at hp
    rw[HCs.out.obj hcm ht] at hp
    obtain⟨k',wds',m',h1,h2,h3⟩:=hp
    rw[hty] at h1
    injection h1 with h1
    injection h1 with h1 h1' h1''
    subst h1 h1' h1''
    exact⟨h2,h3⟩⟩
   have HRefs:Sl (∀ W',Calls prog 135 #[.agg #[.int .u8 k,.int .i64 wds,.int .u64 (m:Nat)],.int .i64 (c.ln:Nat)] W' (Fy k wds m (c.ln:Nat) W')):=⟨λ W'=>DRefs_any k wds m (c.ln:Nat) W' hMm hE⟩
   have HSl:Sl (∀ s∈Ba k wds m (c.ln:Nat),2*c.g+1+s<P.n):=⟨λ s hs=>by
    rw[<- hrf,rfG_at HTl.out hcm ht] at hs
    exact(refsC_slot HCs.out hcm ht hs).2.2⟩
   have HRf:=sE hrf
   have hrl:=rfG_len HCs.out c.g
   rw[hrf] at hrl
   have hcg:c.g<=65536:=(HSm.out _ (List.mem_of_getElem? hxj)).1
   have HV2:Sl (Du w2 (.slice (some ⟨bb,o,none⟩) n vc) es):=⟨HRo.out.Ad HK2.out⟩
   clear hx hxj hbb hk hwr hty hE hMm hrf Dg Tg hcm ht c3 hqq hrq
   go_upto_region 7 with fail
   clear x0
   go_cut [10,11,12] from 36 to 49 (λ a b e wx=>SlotsCut c k wds m wg a b e wx)
   case first=>
    obtain⟨W0,hW0⟩:∃ W0,wg.drew=W0:=⟨_,rfl⟩
    have kk:Kp Ab wg wg.drew:=(Kr _ _).drew
    refine wp_region_held_drew (S:=(λ w'=>w'.cell? ⟨rb,0,none⟩=some (.slice (some ⟨q,0,none⟩) P.n capr)/\w'.cell? ⟨rb,1,none⟩=some lv)) (by kernel_rfl) ?_ (λ qZ=>?_)
    .exact ⟨Kz c0,Kz c1⟩
    rw[hW0] at kk qZ ⊢
    refine Ao 0 ?_;refine Ao 1 ?_;refine Ao 2 ?_;refine Ao 3 ?_;refine Ao 4 ?_;refine Ao 5 ?_;refine Ao 6 ?_;refine Ao 7 ?_;refine Ao 8 ?_
    try simp only[Ar]
    iterate 3
     all_goals
      first|(have g:=pA;clear g;have g:=pB;clear g;refine AQ [9] ?_)|(have g:=pA;clear g;have g:=mC;clear g;refine AQ [15] ?_)|(have g:=pB;clear g;have g:=mC;clear g;refine AQ [14] ?_)|(have g:=pA;clear g;refine AQ [9,15] ?_)|(have g:=pB;clear g;refine AQ [9,14] ?_)|(have g:=mC;clear g;refine AQ [14,15] ?_)|(refine AQ [9,14,15] ?_)
      repeat' (first|exact AllReadyH.nil|refine Ah rfl (λ K hK=>?_) ?_)
      all_goals go_simp
      all_goals first
       |with_reducible refine(HOf.out _ kk).mono ?_
        rintro e W0 ⟨rfl,ka⟩
        try replace pA:=ka.at_ pA (λ h=>h)
        try replace pB:=ka.at_ pB (λ h=>h)
        replace kk:=kk.then' ka
        have mC:True:=trivial
        refine hK _ _ ?_ (λ qZ=>?_)
        .exact ⟨Kz c0,Kz c1⟩
        clear hK K ka
        try simp only[Ar]
        refine Ao 10 ?_;refine Ao 11 ?_;refine Ao 12 ?_;refine Ao 13 ?_
        try simp only[Ar]
       |obtain ⟨a,ha⟩:∃ a,W0.heap.size=a:=⟨_,rfl⟩
        obtain⟨V,hV⟩:∃ V,V=World.alloc W0 (.cells #[.int .u8 0,.int .i64 0,.int .i64 0,.int .i64 0] 52):=⟨_,rfl⟩
        rw[<- hV]
        have ka:Kp Ab W0 V:=by rw[hV];exact (Kr _ _).alloc _
        have pA:V.heap[a]?=some (.cells #[.int .u8 0,.int .i64 0,.int .i64 0,.int .i64 0] 52 (0,0)):=by rw[hV,<- ha];exact wN _ _
        have lA:wg.heap.size<=a:=by rw[<- ha];exact kk.size
        try have hab:¬ b=a:=by have:=lZ pB;omega
        try replace pB:=ka.at_ pB (λ h=>h)
        replace kk:=kk.then' ka
        rw[ha]
        refine hK _ _ ?_ (λ qZ=>?_)
        .exact ⟨Kz c0,Kz c1⟩
        clear hK K ka hV ha
        try simp only[Ar]
        obtain⟨W0,rfl⟩:∃ W0,W0=V:=⟨_,rfl⟩
       |obtain ⟨b,hb⟩:∃ b,W0.heap.size=b:=⟨_,rfl⟩
        obtain⟨V,hV⟩:∃ V,V=World.alloc W0 (.cells #[.int .u8 0,.int .i64 0,.int .u64 0] 86):=⟨_,rfl⟩
        rw[<- hV]
        have ka:Kp Ab W0 V:=by rw[hV];exact (Kr _ _).alloc _
        have pB:V.heap[b]?=some (.cells #[.int .u8 0,.int .i64 0,.int .u64 0] 86 (0,0)):=by rw[hV,<- hb];exact wN _ _
        have lB:wg.heap.size<=b:=by rw[<- hb];exact kk.size
        try have hab:¬ b=a:=by have:=lZ pA;omega
        try replace pA:=ka.at_ pA (λ h=>h)
        replace kk:=kk.then' ka
        rw[hb]
        refine hK _ _ ?_ (λ qZ=>?_)
        .exact ⟨Kz c0,Kz c1⟩
        clear hK K ka hV hb
        try simp only[Ar]
        obtain⟨W0,rfl⟩:∃ W0,W0=V:=⟨_,rfl⟩
    all_goals
     have hsz:=lZ pA
     obtain⟨d0,d1,d2,d3⟩:=Ay pA
     have f0:=Ae pA;have f00:=f0 0;have f01:=f0 1;have f02:=f0 2;have f03:=f0 3
     refine AQ [16] ?_
     refine Ag rfl (λ K hK=>?_)
     clear f0
     go_simp
     obtain⟨V,hV⟩:∃ V,V=World.setCell (World.setCell (World.setCell (World.setCell W0 ⟨a,0,none⟩ (.int .u8 1)) ⟨a,1,none⟩ (.int .i64 (c.ty:Nat))) ⟨a,2,none⟩ (.int .i64 (c.ln:Nat))) ⟨a,3,none⟩ (.int .i64 (c.sz:Nat)):=⟨_,rfl⟩
     rw[<- hV]
     obtain⟨qA,ka⟩:=Bb pA _ _ _ _ V hV
     replace pB:=ka.at_ pB hab
     replace kk:Kp Ab wg V:=kk.trans ka (λ i hi h=>by have h':i=a:=h;omega)
     clear hV d0 f00 d1 f01 d2 f02 d3 f03 pA ka hsz
     refine hK _ _ ?_ (λ qZ=>?_)
     .exact ⟨Kz c0,Kz c1⟩
     clear hK K
     try simp only[Ar]
     have hsz:=lZ pB
     obtain⟨d0,d1,d2⟩:=cells3 pB
     have f0:=Ae pB;have f00:=f0 0;have f01:=f0 1;have f02:=f0 2
     refine AQ [17] ?_
     refine Ag rfl (λ K hK=>?_)
     clear f0
     go_simp
     obtain⟨W0,hV⟩:∃ W,W=World.setCell (World.setCell (World.setCell V ⟨b,0,none⟩ (.int .u8 k)) ⟨b,1,none⟩ (.int .i64 wds)) ⟨b,2,none⟩ (.int .u64 (m:Nat)):=⟨_,rfl⟩
     rw[<- hV]
     obtain⟨qB,ka⟩:=Bh pB _ _ _ W0 hV
     replace qA:=ka.at_ qA (λ h=>hab (show a=b from h).symm)
     replace kk:Kp Ab wg W0:=kk.trans ka (λ i hi h=>by have h':i=b:=h;omega)
     clear hV d0 f00 d1 f01 d2 f02 pB ka hsz
     refine hK _ _ ?_ (λ qZ=>?_)
     .exact ⟨Kz c0,Kz c1⟩
     clear hK K
     try simp only[Ar]
     refine Ao 18 ?_
     try simp only[Ar]
     refine wpAnyH_done (by kernel_rfl) ?_ _
     go_wp2_with fail
     go_meet
     exact⟨_,_,rfl,rfl,rfl,qA,qB,kk⟩
   case rest=>
    obtain⟨b1,b2,rfl,rfl,rfl,hb1,hb2,kx⟩:=hcut
    obtain⟨d0,d1,d2,d3⟩:=Ay hb1
    obtain⟨t0,t1,t2⟩:=cells3 hb2
    have hl1b:=lZ hb1
    have hl2b:=lZ hb2
    have HKx:Sl (Kp Ab wg wc):=⟨kx⟩
    clear hb1 hb2 c0 c1 kx d0 d1 d3 cB
    go_wp2_with fail
    refine(HRefs.out _).mono ?_
    rintro e w5 ⟨vr,rfl,hor,k5⟩
    obtain⟨M,hM⟩:∃ M,(Ba k wds m (c.ln:Nat)).length=M:=⟨_,rfl⟩
    rw[hM] at hor hrl
    have HML:=sE hM
    obtain⟨ra,rc,rfl⟩:=AA hor
    have HOR:=sE hor
    have HK5:Sl (Kp (λ k=>k=q2) w2 w5):=⟨(HK.out.trans (HKx.out.Ak _) (λ _ _ h=>h)).trans (k5.Ak _) (λ _ _ h=>h)⟩
    have HW5:=sE (HWr.out.Ad (HKx.out.then' k5))
    have hqw:q2<wc.heap.size:=Nat.lt_of_lt_of_le HWr.out.lt HKx.out.size
    have HNj:=turnP_next (es:=es) HX.out (Eu P.ts cs) W
    dsimp only at HNj
    rw[HRf.out] at HNj
    have hc0:DK es (Eu P.ts cs) (es.take j) W<=65536*n:=by
     have h1:=cntT_le es (Eu P.ts cs) (λ g=>rfG_len HCs.out g) (es.take j) W
     have h2:(es.take j).length<=n:=by rw[<- HN.out];exact List.length_take_le' _ _
     exact Nat.le_trans h1 (Nat.mul_le_mul_left _ h2)
    obtain⟨V0,hV0⟩:∃ V,BL es (Eu P.ts cs) (es.take j) W=V:=⟨_,rfl⟩
    obtain⟨C0,hC0⟩:∃ C,DK es (Eu P.ts cs) (es.take j) W=C:=⟨_,rfl⟩
    obtain⟨rs,hrs⟩:∃ rs,Ba k wds m (c.ln:Nat)=rs:=⟨_,rfl⟩
    rw[hV0,hC0,hrs] at HNj
    rw[hV0] at HW5
    rw[hC0] at hc0
    rw[hrs] at HOR HSl HML
    rw[hC0]
    have HNJ:=sE HNj
    clear HNj
    have HNj:=HNJ
    clear HNJ hor k5 d2 t0 t1 t2 hM hV0 hC0 hrs HRf
    go_wp2_with fail
    go_loopw [7,15,16,17] (λ x7 x15 _ _ wr=>∃ i:Nat,i<=M/\x15=.int .i64 (i:Nat)/\x7=.int .i64 (C0+Ec es c.g (rs.take i) V0:Nat)/\WRow wr q2 P.n (Bv es c.g (rs.take i) V0)/\Kp (λ k=>k=q2) w5 wr) (λ _ x15 _ _ _=>M-(intOf x15).toNat)
    case atStart=>exact ⟨0,Nat.zero_le _,rfl,rfl,HW5.out,Kr _ _⟩
    case round=>
     obtain⟨i,hi,rfl,rfl,hwi,hki⟩:=hrel
     have HKi:=sE hki
     obtain⟨wi,rfl⟩:∃ wi:World,wi=wr:=⟨_,rfl⟩
     have HK2i:Sl (Kp (λ k=>k=q2) w2 wi):=⟨HK5.out.trans hki (λ _ _ h=>h)⟩
     by_cases hil:i<M
     .have hil':(i:Int)<(M:Int):=by omega
      obtain⟨s,hs⟩:∃ s,rs[i]?=some s:=⟨_,List.getElem?_eq_getElem (by rw[HML.out];exact hil)⟩
      have HNs:=sE (turnS_next (es:=es) (g:=c.g) hs V0)
      have hsn:=HSl.out s (List.mem_of_getElem? hs)
      obtain⟨rb0,rfl,cr⟩:=Ce HOR.out hs
      have hrq:¬ rb0=q2:=λ e=>by
       have:=(Af HOR.out (b:=rb0) rfl).1
       omega
      replace cr:=hki.cell cr hrq
      have hcs:=Nat.le_trans (Nat.add_le_add_left (cntS_le es c.g (rs.take i) V0) C0) (Nat.add_le_add_left (List.length_take_le i rs) C0)
      obtain⟨V,hV⟩:∃ V,Bv es c.g (rs.take i) V0=V:=⟨_,rfl⟩
      obtain⟨C,hC⟩:∃ C,C0+Ec es c.g (rs.take i) V0=C:=⟨_,rfl⟩
      obtain⟨A,hA⟩:∃ A,2*c.g+1+s=A:=⟨_,rfl⟩
      rw[hV,hA] at HNs
      rw[hA] at hsn
      rw[hV] at hwi
      rw[hC] at hcs ⊢
      have HC1:Sl (C0+Ec es c.g (rs.take (i+1)) V0=C+(if toA es (V A)=V A then 0 else 1)):=⟨by rw[HNs.out.2,<- hC,Nat.add_assoc]⟩
      have HV1:Sl (Bv es c.g (rs.take (i+1)) V0=BM V A (toA es (V A))):=⟨HNs.out.1⟩
      have HWi:=sE hwi
      have cW:=hwi.at_ hsn
      obtain⟨y,hy⟩:∃ y,V A=y:=⟨_,rfl⟩
      rw[hy] at cW HC1 HV1
      have cB:=cell_of_one (HK2i.out.at_ HB2.out (by omega))
      have HAd:Sl (∀ W',Kp Ab wi W'->Calls prog 151 #[.agg #[.slice (some ⟨bb,o,none⟩) n vc],.int .u64 (y:Nat)] W' λ e w'=>e=.returned (.int .u64 (toA es y:Nat))/\Kp Ab W' w'):=⟨λ W' k=>DAddr23_at es _ y W' (by
       obtain⟨a,c',e,hx⟩:=HV2.out
       refine⟨a,c',e,λ i x hi=>?_⟩
       obtain⟨b',o',e',h1,h2,h3,h4⟩:=hx i x hi
       have hn:¬ b'=q2:=by
        injection e with e
        rw[e'] at e
        injection e with e
        injection e with e
        rw[<- e]
        exact hbq
       have K:=HK2i.out.trans (k.Ak (λ k=>k=q2)) (λ _ _ h=>h)
       exact⟨b',o',e',Nat.lt_of_lt_of_le h1 K.size,K.cell h2 hn,K.cell h3 hn,K.cell h4 hn⟩) (by rw[HN.out];omega) HSm.out⟩
      obtain⟨T,hT⟩:∃ T,toA es y=T:=⟨_,rfl⟩
      rw[hT] at HAd HC1 HV1
      have HT64:Sl (T<18446744073709551616):=⟨by rw[<- hT];exact toA_lt (λ x hx=>(HSm.out x hx).2) y⟩
      have u1:IntKind.i64.wrap (2*(c.g:Int))=((2*c.g:Nat):Int):=by rw[IntKind.wrap_i64];omega
      have u2:IntKind.i64.wrap (((2*c.g:Nat):Int)+1)=((2*c.g+1:Nat):Int):=by rw[IntKind.wrap_i64];omega
      have u3:IntKind.i64.wrap (((2*c.g+1:Nat):Int)+(s:Int))=(A:Int):=by rw[IntKind.wrap_i64];omega
      have u4:IntKind.i64.wrap ((C:Int)+1)=((C+1:Nat):Int):=by rw[IntKind.wrap_i64];omega
      obtain⟨G2,hG2⟩:∃ G2,2*c.g=G2:=⟨_,rfl⟩
      rw[hG2] at u1 u2 u3
      obtain⟨G3,hG3⟩:∃ G3,G2+1=G3:=⟨_,rfl⟩
      rw[hG3] at u2 u3
      have hAn:(A:Int)<(P.n:Int):=by omega
      have HY:=sE hy
      clear hs hwi hki hV hC hA hy hT hG2 hG3 HNs hcs
      go_wp2_with fail
      have kk0:Kp Ab wi wi.drew:=(Kr _ _).drew
      refine wp_region_held_drew (S:=λ w'=>w'.cell? ⟨B,0,none⟩=some (.slice (some ⟨bb,o,none⟩) n vc)/\w'.cell? ⟨q2,A,none⟩=some (.int .u64 (y:Nat))) (by kernel_rfl) ?_ (λ qZ=>?_)
      .exact ⟨cB,cW⟩
      refine Ao 0 ?_;refine Ao 1 ?_;refine Ao 2 ?_;refine Ao 3 ?_;refine Ao 4 ?_
      try simp only[Ar]
      refine AQ [5] ?_
      refine Ag rfl (λ K hK=>?_)
      go_simp
      go_at_call 151
      (with_reducible refine(HAd.out _ kk0).mono ?_)
      rintro e wz ⟨rfl,kz⟩
      have Kz:Kp Ab wi wz:=kk0.then' kz
      refine hK _ _ ?_ (λ qZ=>?_)
      .exact ⟨Ac Kz cB,Ac Kz cW⟩
      clear hK K
      try simp only[Ar]
      refine Ao 6 ?_
      try simp only[Ar]
      refine wpAnyH_done (by kernel_rfl) ?_ _
      have HWz:=sE (HWi.out.Ad Kz)
      replace cW:=HWz.out.at_ hsn
      rw[HY.out] at cW
      have fW:=HWz.out.free A
      have lW:=HWz.out.lt
      have HKz:Sl (Kp (λ k=>k=q2) w5 (wz.setCell ⟨q2,A,none⟩ (.int .u64 (T:Nat)))):=⟨(HKi.out.trans (Kz.Ak _) (λ _ _ h=>h)).trans ((Kr (λ k=>k=q2) wz).setCell (p:=⟨q2,A,none⟩) (λ _=>rfl) (.int .u64 (T:Nat))) (λ _ _ h=>h)⟩
      have HSt:=sE (HWz.out.store hsn T HT64.out)
      clear cB qZ kz Kz kk0 HY
      by_cases hTy:T=y
      .have HC2:Sl (C0+Ec es c.g (rs.take (i+1)) V0=C):=⟨by rw[HC1.out,if_pos hTy];rfl⟩
       subst hTy
       have p0:((T:Int) !=(T:Int))=false:=by simp
       go_wp2_with fail
       exact⟨⟨i+1,by omega,by go_num,by rw[HC2.out],by rw[HV1.out];exact HSt.out,HKz.out⟩,by simp only[intOf];omega⟩
      .have HC2:Sl (C0+Ec es c.g (rs.take (i+1)) V0=C+1):=⟨by rw[HC1.out,if_neg hTy]⟩
       have p0:((T:Int) !=(y:Int))=true:=by rw[bne_iff_ne];omega
       go_wp2_with fail
       exact⟨⟨i+1,by omega,by go_num,by rw[HC2.out];go_num,by rw[HV1.out];exact HSt.out,HKz.out⟩,by simp only[intOf];omega⟩
     .obtain rfl:i=M:=by omega
      have hil':¬ (i:Int)<(i:Int):=by omega
      have hta:rs.take i=rs:=by rw[<- HML.out,List.take_length]
      rw[hta] at hwi ⊢
      have HWi:=sE hwi
      clear hwi hki
      go_wp2_with fail
      exact⟨⟨j+1,by omega,by go_num,by rw[HNj.out.2],by rw[HNj.out.1];exact HWi.out,HK2i.out⟩,by simp only[intOf];omega⟩
  .obtain rfl:j=n:=by omega
   have hjl':¬ (j:Int)<(j:Int):=by omega
   have hta:es.take j=es:=by rw[<- HN.out,List.take_length]
   rw[hta] at HWr ⊢
   have HKz:Sl (Kp Ab w wg):=⟨(HK2.out.Ak (λ k=>k=q2)).trans hk (λ _ _ h=>h) |>.mono (λ i hi h=>by have h':i=q2:=h;omega)⟩
   clear hwr hk
   go_wp2_with fail
   exact bodyPost_ret (v:=.tuple #[.slice (some ⟨q2,0,none⟩) P.n cap2,.int .i64 (DK es (Eu P.ts cs) es W:Nat)]) (by simp[results,results119,go_sem]) rfl ⟨q2,cap2,rfl,HWr.out,by omega,HKz.out⟩

end

end Go.Proofs.YtmfajopmppfldaaGreatDoor
