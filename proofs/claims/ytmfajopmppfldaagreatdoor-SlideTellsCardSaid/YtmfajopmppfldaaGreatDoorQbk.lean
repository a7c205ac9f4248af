/-
  Lemmas for the laws, together: TurnCheck.
-/
import Derived.Test.YtmfajopmppfldaaGreatDoorQbi
import Derived.Test.YtmfajopmppfldaaGreatDoorQbj
import Derived.Test.YtmfajopmppfldaaGreatDoorQaz
import Derived.Deep.DeepCutAuto
import Derived.Deep.CutBlock
set_option linter.unusedVariables false
set_option maxHeartbeats 16000000
namespace Go.Proofs.YtmfajopmppfldaaGreatDoor
open Go.Proofs.Tryz
section
open Go.RowKit

def HeadPost(W:Nat->Nat)(H:Nat)(g:Int)(w:World)(e:Ending)(w':World):Prop:=
 ∃ tag ty ln sz E:Nat,e=.returned (.tuple #[.agg #[.int .u8 (tag:Nat),.int .i64 (ty:Nat),.int .i64 (ln:Nat),.int .i64 (sz:Nat)],.int .i64 (E:Nat)])/\Kp Ab w w'/\
  (E=0\/¬ E=0)/\(E=0->∃ k:Nat,g=(k:Nat)/\k<H/\BO (W (2*k))=true/\sz=DJ (W (2*k)))/\(∀ k:Nat,g=(k:Nat)->k<H->BO (W (2*k))=true->E=0)

theorem SHead_any(P:Sp)(W:Nat->Nat)(f:Nat->Bool)(g:Int)(w:World)(h:SpaceAt w P W f):
  Calls prog 49 #[.pointer (some ⟨P.a,0,none⟩),.int .i64 g] w (HeadPost W (P.n/2) g w):=by
 by_cases hg:0<=g/\g<((P.n/2:Nat):Int)
 .obtain ⟨k,rfl⟩:=Int.eq_ofNat_of_zero_le hg.1
  refine(SHead_at k P.a P.q P.n W w h.fl h.ar (by omega)).mono ?_
  rintro e w' ⟨rfl,k'⟩
  cases hd:BO (W (2*k)) with
  |true=>exact ⟨_,_,_,_,0,rfl,k',.inl rfl,λ _=>⟨k,rfl,by omega,hd,rfl⟩,λ _ _ _ _=>rfl⟩
  |false=>exact ⟨0,0,0,0,7,rfl,k',.inr (by simp),λ h=>absurd h (by decide),λ k2 e _ h2=>by
    have:k=k2:=by omega
    subst this
    rw[hd] at h2
    cases h2⟩
 .refine (SHead_out g P.a P.q P.n W w h.ar (by omega)).mono ?_
  rintro e w' ⟨rfl,k'⟩
  exact⟨0,0,0,0,2,rfl,k',.inr (by simp),λ h=>absurd h (by decide),λ k e hk _=>by omega⟩

def LastF(es:List (Int×Int×Int))(j:Nat)(last:Int):Prop:=
 (∀ i y,i<j->es[i]?=some y->y.1<=last)/\(last=-1\/∃ i y,i<j/\es[i]?=some y/\y.1=last)

theorem LastF.iff{es:List (Int×Int×Int)}{j:Nat}{last g:Int}(h:LastF es j last)(h0:0<=g):(∀ i y,i<j->es[i]?=some y->y.1<g) ↔ last<g:=by
 constructor
 .intro hh
  rcases h.2 with rfl|⟨i,y,h1,h2,rfl⟩
  .omega
  .exact hh i y h1 h2
 .intro hl i y h1 h2
  have:=h.1 i y h1 h2
  omega

theorem LastF.next{es:List (Int×Int×Int)}{j:Nat}{last:Int}{x:Int×Int×Int}(h:LastF es j last)(hx:es[j]?=some x)(hl:last<x.1):LastF es (j+1) x.1:=by
 refine⟨λ i y h1 h2=>?_,.inr ⟨j,x,by omega,hx,rfl⟩⟩
 by_cases e:i=j
 .subst e
  rw[hx] at h2
  injection h2 with h2
  rw[h2]
  exact Int.le_refl _
 .have:=h.1 i y (by omega) h2
  omega

def TChkPost(cs:List Cel)(es:List (Int×Int×Int))(w:World)(e:Ending)(w':World):Prop:=
 ((Cs cs es/\e=.returned (.int .i64 0))\/(¬ Cs cs es/\e=.returned (.int .i64 2)))/\Kp Ab w w'

theorem takenS_nat{es:List (Int×Int×Int)}{j:Nat}{x:Int×Int×Int}(h:es[j]?=some x){t z:Nat}(h1:x.2.1=(t:Nat))(h2:x.2.2=(z:Nat))(g:Nat):Bz (es.take (j+1)) g=(Bz (es.take j) g||decide (t<=g/\g<t+z)):=by
 rw[takenS_take h g]
 congr 1
 rw[h1,h2]
 exact decide_eq_decide.2 (by omega)

def ChkCut(W:Nat->Nat)(H:Nat)(g:Int)(wb:World)(x10 x11:Value)(wx:World):Prop:=
 ∃ hb tag ty ln sz E:Nat,x10=.pointer (some ⟨hb,0,none⟩)/\x11=.int .i64 (E:Nat)/\wx.heap[hb]?=some (.cells #[.int .u8 (tag:Nat),.int .i64 (ty:Nat),.int .i64 (ln:Nat),.int .i64 (sz:Nat)] 52 (0,0))/\Kp Ab wb wx/\
  (E=0->∃ k:Nat,g=(k:Nat)/\k<H/\BO (W (2*k))=true/\sz=DJ (W (2*k)))/\(∀ k:Nat,g=(k:Nat)->k<H->BO (W (2*k))=true->E=0)

set_option maxRecDepth 20000 in
theorem TCheck_at(P:Sp)(W:Nat->Nat)(cs:List Cel)(es:List (Int×Int×Int))(v:Value)(w:World)(hs:Aw w P W cs)(h:RowH w v es)(hl:es.length<=65536):
  Calls prog 61 #[.pointer (some ⟨P.s,0,none⟩),.agg #[v]] w (TChkPost cs es w):=by
 obtain⟨f,hsp,hc,hst⟩:=hs
 have HR:=sE h
 obtain⟨va,vc,rfl,-⟩:=h
 obtain⟨n,hn⟩:∃ n,es.length=n:=⟨_,rfl⟩
 rw[hn] at HR hl ⊢
 have HN:=sE hn
 have hsm:=hsp.ar.small
 obtain⟨H,hH⟩:∃ H,P.n/2=H:=⟨_,rfl⟩
 have hH2:H<=32768:=by omega
 have HSp:=sE hsp
 have HGr:Sl (∀ W',Kp Ab w W'->Calls prog 42 #[.pointer (some ⟨P.s,0,none⟩)] W' λ e w'=>e=.returned (.int .i64 (H:Nat))/\w'=W'):=⟨λ W' k=>by rw[<- hH];exact EC P W f W' (hsp.Ad k)⟩
 have HStt:Sl (∀ W',Kp Ab w W'->Calls prog 22 #[.pointer (some ⟨P.s,0,none⟩)] W' λ e w'=>∃ p q,e=.returned (.pointer (some ⟨p,0,none⟩))/\W'.heap.size<=p/\W'.heap.size<=q/\AJ w' p q f H/\Kp Ab W' w'):=⟨λ W' k=>by rw[<- hH];exact Fz P W f W' (hsp.Ad k)⟩
 have HHd:Sl (∀ g W',Kp Ab w W'->Calls prog 49 #[.pointer (some ⟨P.a,0,none⟩),.int .i64 g] W' (HeadPost W H g W')):=⟨λ g W' k=>by rw[<- hH];exact SHead_any P W f g W' (hsp.Ad k)⟩
 have HAr:Sl (∀ W',Kp Ab w W'->Calls prog 14 #[.pointer (some ⟨P.s,0,none⟩)] W' λ e w'=>e=.returned (.pointer (some ⟨P.a,0,none⟩))/\w'=W'):=⟨λ W' k=>Cj P W f W' (hsp.Ad k)⟩
 have HTl:Sl (Au 0 cs H):=⟨by rw[<- hH];exact hc.tl⟩
 have HOb:Sl (∀ k:Nat,k<H->f k=true->∃ c∈cs,c.tag=1/\c.g=k/\BO (W (2*k))=true/\DJ (W (2*k))=c.sz/\k+c.sz<=H):=⟨λ k hk hf=>by
  rw[hst k (by omega)] at hf
  unfold Aq at hf
  rw[List.any_eq_true] at hf
  obtain⟨c,hcm,hcc⟩:=hf
  simp only[Bool.and_eq_true,beq_iff_eq] at hcc
  obtain⟨d1,d2,d3,d4,d5⟩:=dec_enc (hc.ok c hcm).1
  have hd:=hc.hd c hcm
  rw[hcc.2] at hd
  rw[hd]
  have:=hc.tl.mem hcm
  exact⟨c,hcm,hcc.1,hcc.2,d5,d4,by omega⟩⟩
 have HObj:Sl (∀ k:Nat,k<H->f k=false->¬ ∃ c∈cs,c.tag=1/\c.g=k):=⟨λ k hk hf=>by
  rw[hst k (by omega)] at hf
  unfold Aq at hf
  rw[List.any_eq_false] at hf
  rintro ⟨c,hcm,h1,h2⟩
  exact hf c hcm (by simp[h1,h2])⟩
 obtain⟨w1,hw1⟩:∃ w1,w1=w.alloc (.cells #[.slice va n vc] 33):=⟨_,rfl⟩
 have k1:Kp Ab w w1:=by rw[hw1];exact (Kr _ w).alloc _
 have b1:w1.heap[w.heap.size]?=some (.cells #[.slice va n vc] 33 (0,0)):=by rw[hw1];exact wN w _
 have c0:=cell_of_one b1
 have HK1:=sE k1
 clear hn hsp hc hst hH hsm b1 k1
 go_enter func61,ntmps61
 go_wp2_with fail
 rw[<- hw1]
 clear hw1
 refine(HStt.out w1 HK1.out).mono ?_
 rintro e w2 ⟨sp,sq,rfl,hp1,hp2,hbt,k2⟩
 have HBt:=sE hbt
 have HK2:Sl (Kp Ab w w2):=⟨HK1.out.then' k2⟩
 replace c0:=k2.cell c0 (λ h=>h)
 clear hbt k2 HStt
 go_wp2_with fail
 refine(HGr.out w2 HK2.out).mono ?_
 rintro e w3 ⟨rfl,rfl⟩
 obtain⟨w4,hmk,hF4,k4⟩:=MakeBools w3 H (by omega)
 have lsp:sp<w3.heap.size/\sq<w3.heap.size:=⟨HBt.out.lt_p',HBt.out.lt_q'⟩
 have HF4:Sl (Cq w4 w3.heap.size H (Bz (es.take 0))):=⟨hF4⟩
 have HK4:=sE k4
 replace c0:=k4.cell c0 (λ h=>h)
 obtain⟨fb,hfb⟩:∃ fb,w3.heap.size=fb:=⟨_,rfl⟩
 rw[hfb] at hmk HF4 lsp
 have HFb:=sE hfb
 have l4:fb<w4.heap.size:=by
  obtain⟨cs',h,-⟩:=HF4.out
  exact lZ h
 clear hF4 k4
 go_wp2_with fail
 clear hmk
 go_loopw [7,9,10,11,12,23] (λ x7 _ _ _ _ x23 wr=>∃ (j:Nat) (last:Int),j<=n/\x23=.int .i64 (j:Nat)/\x7=.int .i64 last/\-1<=last/\LastF es j last/\(∀ i y,i<j->es[i]?=some y->OkS cs es i y)/\Cq wr fb H (Bz (es.take j))/\Kp Ab w3 wr) (λ _ _ _ _ _ x23 _=>n-(intOf x23).toNat)
 case atStart=>exact ⟨0,-1,Nat.zero_le _,rfl,rfl,Int.le_refl _,⟨λ i y h=>by omega,.inl rfl⟩,λ i y h=>by omega,HF4.out,HK4.out⟩
 case round=>
  obtain⟨j,last,hj,rfl,rfl,hl1,hla,hok,hfu,hk⟩:=hrel
  have HK:=sE hk
  have HLa:=sE hla
  have HOk:=sE hok
  have HFu:=sE hfu
  by_cases hjl:j<n
  .have hjl':(j:Int)<(n:Int):=by omega
   obtain⟨va',vc',e,hx⟩:=HR.out
   injection e with e1 e3 e2
   clear e3
   subst e1 e2
   obtain⟨x,hxj⟩:∃ x,es[j]?=some x:=⟨_,List.getElem?_eq_getElem (by rw[HN.out];exact hjl)⟩
   obtain⟨bb,o,rfl,hbb,x0,x1,x2⟩:=hx j x hxj
   have K0:Kp Ab w wr:=HK2.out.then' hk
   replace x0:=K0.cell x0 (λ h=>h)
   replace x1:=K0.cell x1 (λ h=>h)
   replace x2:=K0.cell x2 (λ h=>h)
   have HX:=sE hxj
   obtain⟨xf,xt,xz⟩:=x
   simp only at x0 x1 x2
   obtain⟨wb,hwb⟩:∃ wb,wb=wr.alloc (.cells #[.int .i64 xf,.int .i64 xt,.int .i64 xz] 43):=⟨_,rfl⟩
   have kb:Kp Ab wr wb:=by rw[hwb];exact (Kr _ wr).alloc _
   have bb0:wb.heap[wr.heap.size]?=some (.cells #[.int .i64 xf,.int .i64 xt,.int .i64 xz] 43 (0,0)):=by rw[hwb];exact wN wr _
   obtain⟨y0,y1,y2⟩:=cells3 bb0
   have HKb:Sl (Kp Ab w wb):=⟨K0.then' kb⟩
   have HKr:Sl (Kp Ab w3 wb):=⟨hk.then' kb⟩
   have HBb:=sE bb0
   have HFb2:=sE (hfu.keep kb (λ h=>h))
   clear hx hxj hk K0 kb bb0 hla hok hfu
   go_upto_region 9 with fail
   rw[<- hwb]
   clear hwb x0 x1 x2
   go_cut [10,11] from 27 to 34 (λ x10 x11 wx=>ChkCut W H xf wb x10 x11 wx)
   case first=>
    have kk0:Kp Ab wb wb.drew:=(Kr _ _).drew
    refine wp_region_held_drew (S:=λ w'=>w'.cell? ⟨wr.heap.size,0,none⟩=some (.int .i64 xf)) (by kernel_rfl) ?_ (λ qZ=>?_)
    .exact y0
    refine Ao 0 ?_;refine Ao 2 ?_;refine Ao 3 ?_
    try simp only[Ar]
    refine AQ [1,8] ?_
    refine Ah rfl (λ K hK=>?_) ?_
    .skip
     go_simp
     with_reducible refine(HAr.out _ (HKb.out.then' kk0)).mono ?_
     rintro e wz ⟨rfl,rfl⟩
     refine hK _ _ ?_ (λ qZ=>?_)
     .exact Ac kk0 y0
     clear hK K
     try simp only[Ar]
     refine AQ [4,8] ?_
     refine Ah rfl (λ K hK=>?_) ?_
     .skip
      go_simp
      with_reducible refine(HHd.out xf _ (HKb.out.then' kk0)).mono ?_
      rintro e wh4 ⟨tag,ty,ln,sz,E,rfl,kh3x,-,hE2,hE3⟩
      obtain⟨ha,hha⟩:∃ ha:Array Value,Value.agg #[.int .u8 (tag:Nat),.int .i64 (ty:Nat),.int .i64 (ln:Nat),.int .i64 (sz:Nat)]=.agg ha:=⟨_,rfl⟩
      rw[hha]
      have kh3:=(kk0).then' kh3x
      refine hK _ _ ?_ (λ qZ=>?_)
      .exact Ac kh3 y0
      clear hK K
      try simp only[Ar]
      refine Ao 5 ?_;refine Ao 6 ?_;refine Ao 7 ?_
      try simp only[Ar]
      refine AQ [8] ?_
      refine Ag rfl (λ K hK=>?_)
      go_simp
      obtain⟨wa5,hwa5⟩:∃ wa5,wa5=World.alloc wh4 (.cells #[.int .u8 0,.int .i64 0,.int .i64 0,.int .i64 0] 52):=⟨_,rfl⟩
      rw[<- hwa5]
      have ka6x:Kp Ab wh4 wa5:=by rw[hwa5];exact (Kr Ab wh4).alloc _
      have ka6b:wa5.heap[wh4.heap.size]?=some (.cells #[.int .u8 0,.int .i64 0,.int .i64 0,.int .i64 0] 52 (0,0)):=by rw[hwa5];exact wN wh4 _
      have ka6:Kp Ab wb wa5:=(kh3).then' ka6x
      have ka6l:wb.heap.size<=wh4.heap.size:=(kh3).size
      clear hwa5
      refine hK _ _ ?_ (λ qZ=>?_)
      .exact Ac ka6 y0
      clear hK K
      try simp only[Ar]
      refine AQ [9] ?_
      refine Ag rfl (λ K hK=>?_)
      have HAE:Sl (ha.toList=[.int .u8 (tag:Nat),.int .i64 (ty:Nat),.int .i64 (ln:Nat),.int .i64 (sz:Nat)]):=⟨by injection hha with h;rw [<- h]⟩
      have hszA:ha.size=4:=by have:=congrArg List.length HAE.out;simpa using this
      have HST:=sE (run_storeCells_at (P:=prog) (wh4.heap.size) 0 52 ha.toList 0 _ _ ka6b (by rw[HAE.out];exact Nat.le_refl _) (by rw[HAE.out];intro v hv;simp at hv;rcases hv with rfl|rfl|rfl|rfl <;> rfl))
      clear hha
      go_simp
      rw[HST.out]
      have hnb:=setRow_heap _ (wh4.heap.size) _ [.int .u8 (tag:Nat),.int .i64 (ty:Nat),.int .i64 (ln:Nat),.int .i64 (sz:Nat)].toArray _ _ ka6b
      rw[HAE.out]
      go_simp
      obtain⟨wn,hwn⟩:∃ wn:World,wn=World.setRow wa5 (wh4.heap.size) #[.int .u8 (tag:Nat),.int .i64 (ty:Nat),.int .i64 (ln:Nat),.int .i64 (sz:Nat)]:=⟨_,rfl⟩
      have kn:Kp Ab wb wn:=by rw[hwn];exact ((ka6.Ak _).trans (Cm _ _ _) (λ _ _ h=>h)).mono (λ k hk h=>by have h1:k=wh4.heap.size:=h;omega)
      have hbn:wn.heap[wh4.heap.size]?=some (.cells #[.int .u8 (tag:Nat),.int .i64 (ty:Nat),.int .i64 (ln:Nat),.int .i64 (sz:Nat)] 52 (0,0)):=by rw[hwn];exact hnb
      rw[<- hwn]
      clear hwn hnb HST
      refine hK _ _ ?_ (λ qZ=>?_)
      .exact Ac kn y0
      clear hK K
      try simp only[Ar]
      refine Ao 10 ?_
      try simp only[Ar]
      refine wpAnyH_done (by kernel_rfl) ?_ _
      go_wp2_with fail
      go_meet
      exact⟨_,tag,ty,ln,sz,E,rfl,rfl,hbn,kn,hE2,hE3⟩
     .refine Ah rfl (λ K hK=>?_) AllReadyH.nil
      go_simp
      obtain⟨wa7,hwa7⟩:∃ wa7,wa7=(World.alloc wb (.cells #[.int .u8 0,.int .i64 0,.int .i64 0,.int .i64 0] 52)).drew:=⟨_,rfl⟩
      rw[<- hwa7]
      have ka8x:Kp Ab wb wa7:=by rw[hwa7];exact ((Kr Ab wb).alloc _).drew
      have ka8b:wa7.heap[wb.heap.size]?=some (.cells #[.int .u8 0,.int .i64 0,.int .i64 0,.int .i64 0] 52 (0,0)):=by rw[hwa7];exact wN wb _
      have ka8:Kp Ab wb wa7:=ka8x
      have ka8l:wb.heap.size<=wb.heap.size:=Nat.le_refl _
      clear hwa7
      refine hK _ _ ?_ (λ qZ=>?_)
      .exact Ac ka8 y0
      clear hK K
      try simp only[Ar]
      refine AQ [4] ?_
      refine Ag rfl (λ K hK=>?_)
      go_simp
      with_reducible refine(HHd.out xf _ (HKb.out.then' ka8)).mono ?_
      rintro e wh10 ⟨tag,ty,ln,sz,E,rfl,kh9x,-,hE2,hE3⟩
      obtain⟨ha,hha⟩:∃ ha:Array Value,Value.agg #[.int .u8 (tag:Nat),.int .i64 (ty:Nat),.int .i64 (ln:Nat),.int .i64 (sz:Nat)]=.agg ha:=⟨_,rfl⟩
      rw[hha]
      have kh9:=(ka8).then' kh9x
      have ab11:=kh9x.at_ ka8b (λ h=>h)
      refine hK _ _ ?_ (λ qZ=>?_)
      .exact Ac kh9 y0
      clear hK K
      try simp only[Ar]
      refine Ao 5 ?_;refine Ao 6 ?_;refine Ao 7 ?_
      try simp only[Ar]
      refine AQ [9] ?_
      refine Ag rfl (λ K hK=>?_)
      have HAE:Sl (ha.toList=[.int .u8 (tag:Nat),.int .i64 (ty:Nat),.int .i64 (ln:Nat),.int .i64 (sz:Nat)]):=⟨by injection hha with h;rw [<- h]⟩
      have hszA:ha.size=4:=by have:=congrArg List.length HAE.out;simpa using this
      have HST:=sE (run_storeCells_at (P:=prog) (wb.heap.size) 0 52 ha.toList 0 _ _ ab11 (by rw[HAE.out];exact Nat.le_refl _) (by rw[HAE.out];intro v hv;simp at hv;rcases hv with rfl|rfl|rfl|rfl <;> rfl))
      clear hha
      go_simp
      rw[HST.out]
      have hnb:=setRow_heap _ (wb.heap.size) _ [.int .u8 (tag:Nat),.int .i64 (ty:Nat),.int .i64 (ln:Nat),.int .i64 (sz:Nat)].toArray _ _ ab11
      rw[HAE.out]
      go_simp
      obtain⟨wn,hwn⟩:∃ wn:World,wn=World.setRow wh10 (wb.heap.size) #[.int .u8 (tag:Nat),.int .i64 (ty:Nat),.int .i64 (ln:Nat),.int .i64 (sz:Nat)]:=⟨_,rfl⟩
      have kn:Kp Ab wb wn:=by rw[hwn];exact ((kh9.Ak _).trans (Cm _ _ _) (λ _ _ h=>h)).mono (λ k hk h=>by have h1:k=wb.heap.size:=h;omega)
      have hbn:wn.heap[wb.heap.size]?=some (.cells #[.int .u8 (tag:Nat),.int .i64 (ty:Nat),.int .i64 (ln:Nat),.int .i64 (sz:Nat)] 52 (0,0)):=by rw[hwn];exact hnb
      rw[<- hwn]
      clear hwn hnb HST
      refine hK _ _ ?_ (λ qZ=>?_)
      .exact Ac kn y0
      clear hK K
      try simp only[Ar]
      refine Ao 10 ?_
      try simp only[Ar]
      refine wpAnyH_done (by kernel_rfl) ?_ _
      go_wp2_with fail
      go_meet
      exact⟨_,tag,ty,ln,sz,E,rfl,rfl,hbn,kn,hE2,hE3⟩
    .refine Ah rfl (λ K hK=>?_) AllReadyH.nil
     go_simp
     obtain⟨wa12,hwa12⟩:∃ wa12,wa12=(World.alloc wb (.cells #[.int .u8 0,.int .i64 0,.int .i64 0,.int .i64 0] 52)).drew:=⟨_,rfl⟩
     rw[<- hwa12]
     have ka13x:Kp Ab wb wa12:=by rw[hwa12];exact ((Kr Ab wb).alloc _).drew
     have ka13b:wa12.heap[wb.heap.size]?=some (.cells #[.int .u8 0,.int .i64 0,.int .i64 0,.int .i64 0] 52 (0,0)):=by rw[hwa12];exact wN wb _
     have ka13:Kp Ab wb wa12:=ka13x
     have ka13l:wb.heap.size<=wb.heap.size:=Nat.le_refl _
     clear hwa12
     refine hK _ _ ?_ (λ qZ=>?_)
     .exact Ac ka13 y0
     clear hK K
     try simp only[Ar]
     refine AQ [1] ?_
     refine Ag rfl (λ K hK=>?_)
     go_simp
     with_reducible refine(HAr.out _ (HKb.out.then' ka13)).mono ?_
     rintro e wz ⟨rfl,rfl⟩
     refine hK _ _ ?_ (λ qZ=>?_)
     .exact Ac ka13 y0
     clear hK K
     try simp only[Ar]
     refine AQ [4] ?_
     refine Ag rfl (λ K hK=>?_)
     go_simp
     with_reducible refine(HHd.out xf _ (HKb.out.then' ka13)).mono ?_
     rintro e wh17 ⟨tag,ty,ln,sz,E,rfl,kh16x,-,hE2,hE3⟩
     obtain⟨ha,hha⟩:∃ ha:Array Value,Value.agg #[.int .u8 (tag:Nat),.int .i64 (ty:Nat),.int .i64 (ln:Nat),.int .i64 (sz:Nat)]=.agg ha:=⟨_,rfl⟩
     rw[hha]
     have kh16:=(ka13).then' kh16x
     have ab18:=kh16x.at_ ka13b (λ h=>h)
     refine hK _ _ ?_ (λ qZ=>?_)
     .exact Ac kh16 y0
     clear hK K
     try simp only[Ar]
     refine Ao 5 ?_;refine Ao 6 ?_;refine Ao 7 ?_
     try simp only[Ar]
     refine AQ [9] ?_
     refine Ag rfl (λ K hK=>?_)
     have HAE:Sl (ha.toList=[.int .u8 (tag:Nat),.int .i64 (ty:Nat),.int .i64 (ln:Nat),.int .i64 (sz:Nat)]):=⟨by injection hha with h;rw [<- h]⟩
     have hszA:ha.size=4:=by have:=congrArg List.length HAE.out;simpa using this
     have HST:=sE (run_storeCells_at (P:=prog) (wb.heap.size) 0 52 ha.toList 0 _ _ ab18 (by rw[HAE.out];exact Nat.le_refl _) (by rw[HAE.out];intro v hv;simp at hv;rcases hv with rfl|rfl|rfl|rfl <;> rfl))
     clear hha
     go_simp
     rw[HST.out]
     have hnb:=setRow_heap _ (wb.heap.size) _ [.int .u8 (tag:Nat),.int .i64 (ty:Nat),.int .i64 (ln:Nat),.int .i64 (sz:Nat)].toArray _ _ ab18
     rw[HAE.out]
     go_simp
     obtain⟨wn,hwn⟩:∃ wn:World,wn=World.setRow wh17 (wb.heap.size) #[.int .u8 (tag:Nat),.int .i64 (ty:Nat),.int .i64 (ln:Nat),.int .i64 (sz:Nat)]:=⟨_,rfl⟩
     have kn:Kp Ab wb wn:=by rw[hwn];exact ((kh16.Ak _).trans (Cm _ _ _) (λ _ _ h=>h)).mono (λ k hk h=>by have h1:k=wb.heap.size:=h;omega)
     have hbn:wn.heap[wb.heap.size]?=some (.cells #[.int .u8 (tag:Nat),.int .i64 (ty:Nat),.int .i64 (ln:Nat),.int .i64 (sz:Nat)] 52 (0,0)):=by rw[hwn];exact hnb
     rw[<- hwn]
     clear hwn hnb HST
     refine hK _ _ ?_ (λ qZ=>?_)
     .exact Ac kn y0
     clear hK K
     try simp only[Ar]
     refine Ao 10 ?_
     try simp only[Ar]
     refine wpAnyH_done (by kernel_rfl) ?_ _
     go_wp2_with fail
     go_meet
     exact⟨_,tag,ty,ln,sz,E,rfl,rfl,hbn,kn,hE2,hE3⟩
   case rest=>
    obtain⟨hb,tag,ty,ln,sz,E,rfl,rfl,hhb,kc,hE2,hE3⟩:=hcut
    replace y0:=kc.cell y0 (λ h=>h)
    replace y1:=kc.cell y1 (λ h=>h)
    replace y2:=kc.cell y2 (λ h=>h)
    obtain⟨z0,z1,z2,z3⟩:=Ay hhb
    have HKc:Sl (Kp Ab w wc):=⟨HKb.out.then' kc⟩
    have HKrc:Sl (Kp Ab w3 wc):=⟨HKr.out.then' kc⟩
    have HBc:=sE (kc.at_ HBb.out (λ h=>h))
    have HFc:=sE (HFb2.out.keep kc (λ h=>h))
    have HHs:=sE (Has_int xf H sp sq f wc (HBt.out.keep HKrc.out (λ h=>h) (λ h=>h)))
    clear z0 z1 z2 kc HKb HKr HBb HFb2
    by_cases hE:E=0
    case neg=>
     have p36:((E:Int) !=0)=true:=by rw[bne_iff_ne];omega
     have HNo:Sl (¬ Cs cs es):=⟨λ hfit=>by
      have hk:=hfit j _ HX.out
      obtain⟨c,hcm,c1,c2,c3⟩:=hk.obj
      have hlt:=HTl.out.mem hcm
      obtain⟨c',h1,h2,h3,h4,h5,h6⟩:∃ c',c'∈cs/\c'.tag=1/\c'.g=c.g/\BO (W (2*c.g))=true/\DJ (W (2*c.g))=c'.sz/\c.g+c'.sz<=H:=HOb.out c.g (by omega) (by
       cases hf:f c.g with
       |true=>rfl
       |false=>exact absurd ⟨c,hcm,c1,rfl⟩ (HObj.out c.g (by omega) hf))
      exact hE (hE3 c.g c2 (by omega) h4)⟩
     clear hE hE2 hE3 hhb z3
     go_wp2_with fail
     exact bodyPost_ret (v:=.int .i64 2) (by simp[results,results61,go_sem]) rfl ⟨.inr ⟨HNo.out,rfl⟩,HKc.out⟩
    case pos=>
    subst hE
    obtain⟨k,rfl,hkH,hdk,rfl⟩:=hE2 rfl
    have hhas:hasI f H (k:Nat)=f k:=by unfold hasI;simp [hkH]
    rw[hhas] at HHs
    obtain⟨sz,hsz⟩:∃ sz,DJ (W (2*k))=sz:=⟨_,rfl⟩
    rw[hsz] at z3 hhb
    clear hE2 hE3 hhas
    cases hfk:f k with
    |false=>
     have HNo:Sl (¬ Cs cs es):=⟨λ hfit=>by
      obtain⟨c,hcm,c1,c2,c3⟩:=(hfit j _ HX.out).obj
      exact HObj.out k hkH hfk ⟨c,hcm,c1,by simp only at c2;omega⟩⟩
     clear hdk hsz hhb
     go_wp2_with fail
     refine HHs.out.mono ?_
     rintro e wd ⟨rfl,kd⟩
     rw[hfk]
     have HKd:=sE (HKc.out.then' kd)
     have y0':=kd.cell y0 (λ h=>h)
     have y1':=kd.cell y1 (λ h=>h)
     have y2':=kd.cell y2 (λ h=>h)
     have z3':=kd.cell z3 (λ h=>h)
     clear kd y0 y1 y2 z3
     go_wp2_with fail
     exact bodyPost_ret (v:=.int .i64 2) (by simp[results,results61,go_sem]) rfl ⟨.inr ⟨HNo.out,rfl⟩,HKd.out⟩
    |true=>
     obtain⟨c,hcm,c1,c2,c3,c4,c5⟩:=HOb.out k hkH hfk
     rw[hsz] at c4
     have HCm:Sl (c∈cs/\c.tag=1/\c.g=k/\c.sz=sz):=⟨⟨hcm,c1,c2,c4.symm⟩⟩
     have hfitH:k+sz<=H:=by omega
     have HUq:Sl (∀ d∈cs,d.tag=1->((k:Nat):Int)=(d.g:Nat)->d.sz=sz):=⟨λ d hd d1 d2=>by
      have:d=c:=HTl.out.only hd hcm (by omega)
      rw[this,<- c4]⟩
     clear hcm c1 c2 c3 c4 c5 hdk hsz hhb
     by_cases hxz:(sz:Int)=xz
     case neg=>
      have p49:((sz:Int) !=xz)=true:=by rw[bne_iff_ne];exact hxz
      have HNo:Sl (¬ Cs cs es):=⟨λ hfit=>by
       obtain⟨d,hd,d1,d2,d3⟩:=(hfit j _ HX.out).obj
       have:=HUq.out d hd d1 d2
       simp only at d3
       omega⟩
      clear hxz
      go_wp2_with fail
      refine HHs.out.mono ?_
      rintro e wd ⟨rfl,kd⟩
      rw[hfk]
      have HKd:=sE (HKc.out.then' kd)
      have y0':=kd.cell y0 (λ h=>h)
      have y1':=kd.cell y1 (λ h=>h)
      have y2':=kd.cell y2 (λ h=>h)
      have z3':=kd.cell z3 (λ h=>h)
      clear kd y0 y1 y2 z3
      go_wp2_with fail
      exact bodyPost_ret (v:=.int .i64 2) (by simp[results,results61,go_sem]) rfl ⟨.inr ⟨HNo.out,rfl⟩,HKd.out⟩
     case pos=>
     have p49:((sz:Int) !=xz)=false:=by rw[bne_eq_false_iff_eq];exact hxz
     by_cases ht0:xt<0
     case pos=>
      have HNo:Sl (¬ Cs cs es):=⟨λ hfit=>by
       have:=(hfit j _ HX.out).pos
       simp only at this
       omega⟩
      clear hxz
      go_wp2_with fail
      refine HHs.out.mono ?_
      rintro e wd ⟨rfl,kd⟩
      rw[hfk]
      have HKd:=sE (HKc.out.then' kd)
      have y0':=kd.cell y0 (λ h=>h)
      have y1':=kd.cell y1 (λ h=>h)
      have y2':=kd.cell y2 (λ h=>h)
      have z3':=kd.cell z3 (λ h=>h)
      clear kd y0 y1 y2 z3
      go_wp2_with fail
      exact bodyPost_ret (v:=.int .i64 2) (by simp[results,results61,go_sem]) rfl ⟨.inr ⟨HNo.out,rfl⟩,HKd.out⟩
     case neg=>
     by_cases htf:(k:Int)<xt
     case pos=>
      have HNo:Sl (¬ Cs cs es):=⟨λ hfit=>by
       have:=(hfit j _ HX.out).le
       simp only at this
       omega⟩
      clear hxz
      go_wp2_with fail
      refine HHs.out.mono ?_
      rintro e wd ⟨rfl,kd⟩
      rw[hfk]
      have HKd:=sE (HKc.out.then' kd)
      have y0':=kd.cell y0 (λ h=>h)
      have y1':=kd.cell y1 (λ h=>h)
      have y2':=kd.cell y2 (λ h=>h)
      have z3':=kd.cell z3 (λ h=>h)
      clear kd y0 y1 y2 z3
      go_wp2_with fail
      exact bodyPost_ret (v:=.int .i64 2) (by simp[results,results61,go_sem]) rfl ⟨.inr ⟨HNo.out,rfl⟩,HKd.out⟩
     case neg=>
     by_cases hla:(k:Int)<=last
     case pos=>
      have HNo:Sl (¬ Cs cs es):=⟨λ hfit=>by
       have:=(HLa.out.iff (by omega)).1 (hfit j _ HX.out).up
       simp only at this
       omega⟩
      clear hxz
      go_wp2_with fail
      refine HHs.out.mono ?_
      rintro e wd ⟨rfl,kd⟩
      rw[hfk]
      have HKd:=sE (HKc.out.then' kd)
      have y0':=kd.cell y0 (λ h=>h)
      have y1':=kd.cell y1 (λ h=>h)
      have y2':=kd.cell y2 (λ h=>h)
      have z3':=kd.cell z3 (λ h=>h)
      clear kd y0 y1 y2 z3
      go_wp2_with fail
      exact bodyPost_ret (v:=.int .i64 2) (by simp[results,results61,go_sem]) rfl ⟨.inr ⟨HNo.out,rfl⟩,HKd.out⟩
     case neg=>
      obtain⟨t,rfl⟩:=Int.eq_ofNat_of_zero_le (show 0<=xt by omega)
      subst hxz
      have HOkj:Sl ((∀ g:Nat,t<=g->g<t+sz->Bz (es.take j) g=false)->OkS cs es j ((k:Nat),(t:Nat),(sz:Nat))):=⟨λ hfree=>⟨by
       obtain⟨h1,h2,h3,h4⟩:=HCm.out
       exact⟨c,h1,h2,by simp only;omega,by simp only;omega⟩,by simp only;omega,by simp only;omega,(HLa.out.iff (by simp only;omega)).2 (by simp only;omega),λ g g1 g2=>hfree g (by simp only at g1;omega) (by simp only at g2;omega)⟩⟩
      have HTk:Sl (∀ g,Bz (es.take (j+1)) g=(Bz (es.take j) g||decide (t<=g/\g<t+sz))):=⟨λ g=>takenS_nat HX.out rfl rfl g⟩
      have HNx:Sl (LastF es (j+1) (k:Nat)):=⟨HLa.out.next HX.out (by simp only;omega)⟩
      have htk:t<=k:=by omega
      clear ht0 htf p49
      have p49:((sz:Int) !=(sz:Int))=false:=by simp
      have ht0:¬ (t:Int)<0:=by omega
      have htf:¬ (k:Int)<(t:Int):=by omega
      go_wp2_with fail
      refine HHs.out.mono ?_
      rintro e wd ⟨rfl,kd⟩
      rw[hfk]
      have HKd:=sE (HKc.out.then' kd)
      have HKrd:=sE (HKrc.out.then' kd)
      have HBd:=sE (kd.at_ HBc.out (λ h=>h))
      have HFd:=sE (HFc.out.keep kd (λ h=>h))
      have y0':=kd.cell y0 (λ h=>h)
      have y1':=kd.cell y1 (λ h=>h)
      have y2':=kd.cell y2 (λ h=>h)
      have z3':=kd.cell z3 (λ h=>h)
      have hnf:¬ wr.heap.size=fb:=by
       obtain⟨cs',h,-⟩:=HFu.out
       have:=lZ h
       omega
      clear kd y0 y1 y2 z3
      go_wp2_with fail
      have HBd':=sE HBd.out
      clear y0' y1' y2' z3'
      go_loopw [12] (λ x12 wq=>∃ q:Nat,t<=q/\q<=t+sz/\x12=.int .i64 (q:Nat)/\(∀ g,t<=g->g<q->Bz (es.take j) g=false)/\Cq wq fb H (λ p=>Bz (es.take j) p||decide (t<=p/\p<q))/\Kp (λ k=>k=fb) wd wq) (λ x12 _=>t+sz-(intOf x12).toNat)
      case atStart=>
       refine⟨t,Nat.le_refl _,by omega,rfl,λ g g1 g2=>by omega,?_,Kr _ _⟩
       obtain⟨cs',h1,h2,h3⟩:=HFd.out
       exact⟨cs',h1,h2,λ p hp=>by
        rw[h3 p hp]
        have:¬ (t<=p/\p<t):=by omega
        simp[this]⟩
      case round=>
       obtain⟨q,hq1,hq2,rfl,hqf,hfq,hkq⟩:=hrel
       obtain⟨wq,rfl⟩:∃ wq:World,wq=wr:=⟨_,rfl⟩
       have HFq:=sE hfq
       have HKq:=sE hkq
       have HQf:=sE hqf
       obtain⟨s0,s1,s2⟩:=cells3 (hkq.at_ HBd.out hnf)
       have u8:IntKind.i64.wrap ((t:Int)+(sz:Int))=(t:Int)+(sz:Int):=by rw[IntKind.wrap_i64];omega
       clear hfq hkq hqf
       by_cases hqe:q<t+sz
       .have d1:(q:Int)<(t:Int)+(sz:Int):=by omega
        have hqH:(q:Int)<(H:Int):=by omega
        have hbit:=HFq.out.bit (j:=q) (by omega)
        have hnq:¬ (t<=q/\q<q):=by omega
        cases hap:Bz (es.take j) q with
        |true=>
         simp only[hap,Bool.true_or] at hbit
         have HNo:Sl (¬ Cs cs es):=⟨λ hfit=>by
          have:=(hfit j _ HX.out).free q (by simp only;omega) (by simp only;omega)
          rw[this] at hap
          cases hap⟩
         have HKz:Sl (Kp Ab w wq):=⟨((HKd.out.Ak _).trans HKq.out (λ _ _ h=>h)).mono (λ i hi h=>by have h':i=fb:=h;have:=HK2.out.size;omega)⟩
         clear hap hnq
         go_wp2_with fail
         exact bodyPost_ret (v:=.int .i64 2) (by simp[results,results61,go_sem]) rfl ⟨.inr ⟨HNo.out,rfl⟩,HKz.out⟩
        |false=>
         simp only[hap,hnq,decide_false,Bool.or_false] at hbit
         have hfr:=HFq.out.free q
         have HSt:Sl (Cq (wq.setCell ⟨fb,q,none⟩ (.bool true)) fb H (λ p=>Bz (es.take j) p||decide (t<=p/\p<q+1))):=⟨HFq.out.store λ i hi=>by
          by_cases e:i=q
          .subst e
           have:t<=i/\i<i+1:=by omega
           simp[this]
          .have:(t<=i/\i<q+1) ↔ (t<=i/\i<q):=by omega
           simp[this,e]⟩
         have HKs:=sE (HKq.out.setCell (p:=⟨fb,q,none⟩) (λ _=>rfl) (.bool true))
         have HQ2:Sl (∀ g,t<=g->g<q+1->Bz (es.take j) g=false):=⟨λ g g1 g2=>by
          by_cases e:g=q
          .rw [e];exact hap
          .exact HQf.out g g1 (by omega)⟩
         clear hap hnq
         go_wp2_with fail
         exact⟨⟨q+1,by omega,by omega,by go_num,HQ2.out,HSt.out,HKs.out⟩,by simp only[intOf];omega⟩
       .have d1:¬ (q:Int)<(t:Int)+(sz:Int):=by omega
        obtain rfl:q=t+sz:=by omega
        have HFe:Sl (Cq wq fb H (Bz (es.take (j+1)))):=⟨by
         obtain⟨cs',h1,h2,h3⟩:=HFq.out
         exact⟨cs',h1,h2,λ p hp=>by rw[h3 p hp,HTk.out p]⟩⟩
        have HKe:Sl (Kp Ab w3 wq):=⟨((HKrd.out.Ak _).trans HKq.out (λ _ _ h=>h)).mono (λ i hi h=>by have h':i=fb:=h;omega)⟩
        have HOn:Sl (∀ i y,i<j+1->es[i]?=some y->OkS cs es i y):=⟨λ i y hi hy=>by
         by_cases e:i=j
         .subst e
          have:=HX.out.symm.trans hy
          injection this with this
          rw[<- this]
          exact HOkj.out HQf.out
         .exact HOk.out i y (by omega) hy⟩
        clear HFq HKq hqe hq1 hq2
        go_wp2_with fail
        exact⟨⟨j+1,(k:Nat),by omega,by go_num,rfl,by omega,HNx.out,HOn.out,HFe.out,HKe.out⟩,by simp only[intOf];omega⟩
  .obtain rfl:j=n:=by omega
   have hjl':¬ (j:Int)<(j:Int):=by omega
   have HFin:Sl (Cs cs es):=⟨λ i y hy=>HOk.out i y (by have:=(gE.1 hy).1;have:=HN.out;omega) hy⟩
   clear hk hla hok hfu
   go_wp2_with fail
   exact bodyPost_ret (v:=.int .i64 0) (by simp[results,results61,go_sem]) rfl ⟨.inl ⟨HFin.out,rfl⟩,HK2.out.then' HK.out⟩

end

end Go.Proofs.YtmfajopmppfldaaGreatDoor
