/-
  Lemmas for the laws, together: WhyOnly.
-/
import Derived.Test.YtfkedlgpgmaemaaGreatDoorQbj
import Derived.Test.YtfkedlgpgmaemaaGreatDoorQbe
set_option linter.unusedVariables false
set_option maxHeartbeats 16000000
namespace Go.Proofs.YtfkedlgpgmaemaaGreatDoor
open Tryz
section
open Go.RowKit
attribute [local go_sem ↓] run_neq_edge

def cntF(f:Nat->Bool)(H:Nat):Nat:=(List.range H).countP λ g=> !f g

theorem cntF_le(f:Nat->Bool)(H:Nat):cntF f H<=H:=by
 unfold cntF
 have:=List.countP_le_length (p:=λ g=> !f g) (l:=List.range H)
 rwa [List.length_range] at this

theorem cntF_upd{f:Nat->Bool}{g:Nat}(hg:f g=false):∀ {H:Nat},g<H->cntF (updB f g) H+1=cntF f H
 |0,h=>by omega
 |H+1,h=>by
  unfold cntF
  rw[List.range_succ,List.countP_append,List.countP_append]
  by_cases e:g=H
  .subst e
   have:(List.range g).countP (λ x=> !updB f g x)=(List.range g).countP λ x=> !f x:=by
    refine List.countP_congr λ x hx=>?_
    have:=List.mem_range.1 hx
    unfold updB
    rw[if_neg (by omega)]
   rw[this]
   simp[updB,hg]
  .have ih:=cntF_upd hg (H:=H) (by omega)
   unfold cntF at ih
   have:updB f g H=f H:=by unfold updB;rw [if_neg (by omega)]
   simp only[List.countP_singleton,this]
   omega

theorem setF_upd{f:Nat->Bool}{H g:Nat}(hg:g<H)(hH:H<=65536):Ex f H (g:Int) 1 true=updB f g:=by
 funext x
 unfold Ex updB
 rw[if_pos (by unfold Bz;simp;omega)]
 unfold Ck
 by_cases e:x=g
 .subst e
  simp
 .rw [if_neg e]
  simp
  intro h1 h2
  omega

structure VisI(w:World)(xb bb p q qb H:Nat)(xe:Nat×Nat×Nat)(Q:List Nat)(f:Nat->Bool)(wr:World):Prop where
 xbox:wr.heap[xb]?=some (.cells #[xe.1,xe.2.1,xe.2.2] 70 (0,0))
 box:wr.heap[bb]?=some (.cells #[.pointer (some p)] 120 (0,0))
 bt:AL wr p q f H
 qa:QAt wr qb (qb+1) Q
 le:Q.length+cntF f H<=H
 kn:Kp Aa w wr
 z:qb<wr.heap.size
 ne:xb<qb/\bb<qb/\p<qb/\q<qb/\¬ xb=q/\¬ bb=q/\w.heap.size<=q/\w.heap.size<=qb

theorem VisI.Ac{w wr w':World}{xb bb p q qb H:Nat}{xe:Nat×Nat×Nat}{Q:List Nat}{f:Nat->Bool}(h:VisI w xb bb p q qb H xe Q f wr)(k:Kp Aa wr w'):VisI w xb bb p q qb H xe Q f w':=
 ⟨k.at_ h.xbox id,k.at_ h.box id,h.bt.keep k id id,h.qa.Ac k,h.le,h.kn.then' k,Nat.lt_of_lt_of_le h.z k.size,h.ne⟩

def VisPost(w:World)(xb bb p q qb H:Nat)(xe:Nat×Nat×Nat)(Q:List Nat)(f:Nat->Bool)(g:Nat)(e:Ending)(w':World):Prop:=
 e=.returned (.tuple #[])/\∃ Q' f',VisI w xb bb p q qb H xe Q' f' w'/\((f g=true/\Q'=Q/\f'=f)\/(f g=false/\Q'=Q++[g]/\f'=updB f g))

theorem Visit_at(w:World)(xb bb p q qb H:Nat)(xe:Nat×Nat×Nat)(Q:List Nat)(f:Nat->Bool)(g:Nat)(wr:World)(h:VisI w xb bb p q qb H xe Q f wr)(hg:g<H):
  Calls prog 144 #[g,.pointer (some bb),.pointer (some qb)] wr (VisPost w xb bb p q qb H xe Q f g):=by
 have cb:=cell_of_one h.box
 have HI:=sE h
 have HHas:=sE (Has_in g H p q f wr h.bt hg)
 have hH:=h.bt.FQ
 obtain⟨fg,hfg⟩:∃ b,f g=b:=⟨_,rfl⟩
 rw[hfg] at HHas
 have HFg:=sE hfg
 clear h hfg
 go_enter func144,ntmps144
 go_wp2_with fail
 refine HHas.o.mono ?_
 rintro e w1 ⟨rfl,k1⟩
 have HI1:=sE (HI.o.Ac k1)
 have cb1:=cell_of_one HI1.o.box
 clear cb k1
 cases fg with
 |true=>
  go_wp2
  go_end0
  exact⟨rfl,Q,f,HI1.o,.inl ⟨HFg.o,rfl,rfl⟩⟩
 |false=>
  have HSet:=sE (Set_int (g:Nat) H p q f w1 HI1.o.bt)
  go_wp2_with fail
  refine HSet.o.mono ?_
  rintro e w2 ⟨rfl,k2,hb2⟩
  have hne:=HI1.o.ne
  have hz:=HI1.o.z
  have hle:=HI1.o.le
  rw[setF_upd hg hH] at hb2
  have hq2:=HI1.o.qa.keep k2 (λ h=>by omega) (λ i hi hl h=>by omega)
  have hcn:=cntF_upd HFg.o hg
  have hz2:=k2.size
  have HPu:=sE (QPush_at qb (qb+1) g Q w2 hq2 (by omega) (by omega))
  have HB2:=sE hb2
  have HK2:=sE k2
  clear k2 hb2 hq2
  go_wp2_with fail
  refine HPu.o.mono ?_
  rintro e w3 ⟨rfl,hq3,k3⟩
  have k13:Kp (λ b=>b=q\/b=qb\/qb+1<=b) w1 w3:=(HK2.o.mono λ b _ h=>.inl h).trans k3 (λ b _ h=>.inr h)
  have HI3:Sl (VisI w xb bb p q qb H xe (Q++[g]) (updB f g) w3):=⟨k13.at_ HI1.o.xbox (λ h=>by omega),k13.at_ HI1.o.box (λ h=>by omega),HB2.o.keep k3 (λ h=>by omega) (λ h=>by omega),hq3,by simp;omega,HI1.o.kn.trans k13 (λ b hb h=>by omega),by have:=k13.size;omega,hne⟩
  clear k13 k3 hq3
  go_wp2
  go_end0
  exact⟨rfl,_,_,HI3.o,.inr ⟨HFg.o,rfl,rfl⟩⟩

theorem WI.more{es l l':List (Nat×Nat×Nat)}{rs:List Nat}{pre:List Nat}{Q:List Nat}{f:Nat->Bool}(h:WI es rs pre l Q f)(hl:∀ e∈l,e∈l'):WI es rs pre l' Q f:=
 ⟨h.snd,h.rt,λ e he hf=>(h.fol e he hf).imp_right (λ q=>q.imp_left (hl e)),h.inq⟩

def WbAt(w:World)(xb bb p q qb H:Nat)(es:List (Nat×Nat×Nat))(ns:List Nat)(xe:Nat×Nat×Nat)(x15 x16:Value)(wr:World)(k:Nat):Prop:=
 ∃ x b Q f,x15=.int .i64 ((x:Nat):Int)/\x16=.bool b/\VisI w xb bb p q qb H xe Q f wr/\(b=true->f x=true/\WI (Gm es xe) ns ns (Gw es x) Q f)/\(b=false->∀ g,f g=true ↔ AA (Gm es xe) ns g)/\k=2*cntF f H+Q.length+(if b=true then 1 else 0)

theorem WbAt.pop{w wr w':World}{xb bb p q qb H x:Nat}{es:List (Nat×Nat×Nat)}{ns:List Nat}{xe:Nat×Nat×Nat}{is:Bool}{Q Q':List Nat}{f:Nat->Bool}(h:VisI w xb bb p q qb H xe Q f wr)(hb:WI (Gm es xe) ns ns [] Q f)(hq:QAt w' qb (qb+1) Q')(k:Kp (λ k=>k=qb) wr w')
  (hc:(is=false/\Q=[]/\Q'=[])\/(is=true/\Q=x::Q')):∃ j,j<=2*cntF f H+Q.length/\WbAt w xb bb p q qb H es ns xe (.int .i64 ((x:Nat):Int)) (.bool is) w' j:=by
 have hne:=h.ne
 have hv:Q'.length<=Q.length->VisI w xb bb p q qb H xe Q' f w':=λ hl=>⟨k.at_ h.xbox (λ e=>by omega),k.at_ h.box (λ e=>by omega),h.bt.keep k (λ e=>by omega) (λ e=>by omega),hq,by have:=h.le;omega,h.kn.trans k (λ b hb e=>by omega),Nat.lt_of_lt_of_le h.z k.size,hne⟩
 rcases hc with ⟨rfl,rfl,rfl⟩|⟨rfl,rfl⟩
 .exact ⟨_,Nat.le_refl _,x,false,[],f,rfl,rfl,hv (Nat.le_refl _),λ e=>(by cases e),λ _=>hb.all,by simp⟩
 .obtain ⟨h1,h2⟩:=hb.pop
  exact⟨_,Nat.le_refl _,x,true,Q',f,rfl,rfl,hv (by simp),λ _=>⟨h1,h2.more (λ e he=>GM.2 ⟨(GA.1 (GM.1 he).1).1,(GM.1 he).2⟩)⟩,λ e=>(by cases e),by simp;omega⟩

theorem reach_lt{es:List (Nat×Nat×Nat)}{ns:List Nat}{xe:Nat×Nat×Nat}{H x:Nat}(hn:∀ g∈ns,g<H)(he:∀ y∈es,y.2.2<H)(h:AA (Gm es xe) ns x):x<H:=by
 obtain⟨n,hs⟩:=h
 cases hs with
 |root h=>exact hn _ h
 |step _ h=>exact he _ (GA.1 h).1

set_option maxRecDepth 20000 in
theorem Without_at(w:World)(gb H:Nat)(es:List (Nat×Nat×Nat))(D:Nat->Option Nat)(xe:Nat×Nat×Nat)(v:Value)(ns:List Nat)(hG:GraphAt w gb es D)(hx:AO w v ns)(hns:∀ g∈ns,g<H)(hes:∀ x∈es,x.2.2<H)(hH:H<=65536)(hnl:ns.length<=65536)(hel:es.length<=2147483648):
  Calls prog 88 #[.pointer (some gb),.agg #[xe.1,xe.2.1,xe.2.2],H,v] w λ e w'=>∃ p q f,e=.returned (.pointer (some ⟨p,0,none⟩))/\AL w' p q f H/\(∀ g,f g=true ↔ AA (Gm es xe) ns g)/\Kp Aa w w':=by
 obtain⟨va,vc,rfl,-⟩:=id hx
 obtain⟨L,hL⟩:∃ L,ns.length=L:=⟨_,rfl⟩
 have HX:Sl (AO w (.slice va L vc) ns):=⟨by rw[<- hL];exact hx⟩
 have HL:=sE hL
 have HG:=sE hG
 have HNs:=sE hns
 have HEs:=sE hes
 have HNew:Sl (∀ W',_):=⟨λ W'=>New_yes H W' hH⟩
 rw[hL] at hnl ⊢
 clear hG hx hns hes hL
 go_enter func88,ntmps88
 go_wp2_with fail
 obtain⟨w1,hw1⟩:∃ w1,w1=w.alloc (.cells #[xe.1,xe.2.1,xe.2.2] 70):=⟨_,rfl⟩
 obtain⟨xb,hxb⟩:∃ b,w.heap.size=b:=⟨_,rfl⟩
 have k1:Kp Aa w w1:=by rw[hw1];exact (Kr _ w).alloc _
 have b1:w1.heap[xb]?=some (.cells #[xe.1,xe.2.1,xe.2.2] 70 (0,0)):=by rw[hw1,<- hxb];exact wN w _
 have z1:w1.heap.size=xb+1:=by rw[hw1,<- hxb];simp
 rw[<- hw1]
 try rw[hxb]
 refine(HNew.o w1).mono ?_
 rintro e w2 ⟨p,q,rfl,hp,hq,hb,k2⟩
 have b2:=k2.at_ b1 (λ h=>h)
 have HW2:=sE (And.intro (k1.then' k2) (And.intro b2 hb))
 have hpl:=hb.lt_p'
 have hql:=hb.lt_q'
 clear hw1 k1 b1 k2 b2 hb
 go_wp2_with fail
 obtain⟨w4,hw4⟩:∃ w4,w4=(w2.alloc (.cells #[.pointer (some ⟨p,0,none⟩)] 120)).alloc (.cells #[.slice none 0 0] 237):=⟨_,rfl⟩
 obtain⟨bb,hbb⟩:∃ b,w2.heap.size=b:=⟨_,rfl⟩
 have HI4:Sl (VisI w xb bb p q (bb+1) H xe [] (λ _=>false) w4):=⟨by
  have k4:Kp Aa w2 w4:=by rw[hw4];exact ((Kr _ w2).alloc _).alloc _
  have h1:=wN w2 (.cells #[.pointer (some ⟨p,0,none⟩)] 120)
  have h2:=QAt.new (w2.alloc (.cells #[.pointer (some ⟨p,0,none⟩)] 120)) (bb+1+1) (by simp;omega)
  have hz:(w2.alloc (.cells #[.pointer (some ⟨p,0,none⟩)] 120)).heap.size=bb+1:=by simp;omega
  rw[hz] at h2
  refine⟨k4.at_ HW2.o.2.1 (λ h=>h),?_,HW2.o.2.2.keep k4 (λ h=>h) (λ h=>h),by rw[hw4];exact h2,by have:=cntF_le (λ _=>false) H;simpa using this,HW2.o.1.then' k4,by rw[hw4];simp;omega,by omega⟩
  rw[hw4,<- hbb]
  exact((Kr Aa _).alloc _).at_ h1 (λ h=>h)⟩
 try rw[<- hw4]
 try rw[hbb]
 clear hw4 HW2 hbb
 go_loopw [27] (λ x27 wr=>∃ (i:Nat) (Q:List Nat) (f:Nat->Bool),x27=.int .i64 i/\i<=L/\VisI w xb bb p q (bb+1) H xe Q f wr/\WI (Gm es xe) ns (ns.take i) [] Q f) (λ x27 _=>L-(intOf x27).toNat)
 case atStart=>exact ⟨0,[],_,rfl,Nat.zero_le _,HI4.o,by rw[List.take_zero];exact WI.init _ _⟩
 case round=>
  obtain⟨i,Q,f,rfl,hi,hI,hW⟩:=hrel
  have HI:=sE hI
  have HWI:=sE hW
  by_cases hil:i<L
  .have hil':(i:Int)<(L:Int):=by omega
   obtain⟨g,hg⟩:∃ g,ns[i]?=some g:=⟨ns[i]'(by rw[HL.o];exact hil),by simp⟩
   have hgm:=List.mem_of_getElem? hg
   have hgH:=HNs.o g hgm
   obtain⟨a',c',hac,hcl⟩:=HX.o.Ac hI.kn
   obtain⟨rb,ro,hra,cx⟩:=hcl i g hg
   have hva:va=some ⟨rb,ro,none⟩:=by injection hac with h1;rw [h1];exact hra
   subst hva
   have HTk:Sl (ns.take (i+1)=ns.take i++[g]):=⟨by rw[List.take_add_one,hg];rfl⟩
   have HGm:=sE hgm
   have HV:=sE (Visit_at w xb bb p q (bb+1) H xe Q f g wr hI hgH)
   clear hI hW hac hcl hra hg hgm
   go_wp2_with fail
   refine HV.o.mono ?_
   rintro e w5 ⟨rfl,Q',f',hI',hc⟩
   have HI':=sE hI'
   have HW':Sl (WI (Gm es xe) ns (ns.take (i+1)) [] Q' f'):=⟨by
    rw[HTk.o]
    rcases hc with ⟨h1,rfl,rfl⟩|⟨h1,rfl,rfl⟩
    .exact HWI.o.rootOld h1
    .exact HWI.o.rootNew HGm.o⟩
   clear hI' hc
   go_wp2
   exact⟨⟨i+1,Q',f',by go_num,by omega,HI'.o,HW'.o⟩,by simp only[intOf];omega⟩
  .have hil':¬ (i:Int)<(L:Int):=by omega
   obtain rfl:i=L:=by omega
   have HWa:Sl (WI (Gm es xe) ns ns [] Q f):=⟨by
    rwa [List.take_of_length_le (by rw[HL.o];omega)] at hW⟩
   have HPop:=sE (QPop_any (bb+1) (bb+1+1) Q wr hI.qa)
   clear hI hW HI4
   go_wp2_with fail
   refine HPop.o.mono ?_
   rintro e w7 ⟨is,x,Q',rfl,hq7,k7,hc⟩
   obtain⟨k0,hk0,hBf⟩:=WbAt.pop HI.o HWa.o hq7 k7 hc
   have HBf:=sE hBf
   clear hq7 k7 hc hBf hk0 HPop HWa HWI HI
   go_wp2_with fail
   go_loopw [15,16] (λ x15 x16 wr=>∃ k,WbAt w xb bb p q (bb+1) H es ns xe x15 x16 wr k) (λ x15 x16 wr=>least (WbAt w xb bb p q (bb+1) H es ns xe x15 x16 wr))
   case atStart=>exact ⟨k0,HBf.o⟩
   case round=>
    obtain⟨K0,hK0⟩:∃ K,least (WbAt w xb bb p q (bb+1) H es ns xe u15 u16 wr)=K:=⟨_,rfl⟩
    have hst:=(Gv hrel).1
    rw[hK0] at hst
    clear hrel HBf
    have HK0:=sE hK0
    clear hK0
    obtain⟨x,b,Q,f,rfl,rfl,hI,hb1,hb2,hk⟩:=hst
    have hbc:=cell_of_one hI.box
    cases b with
    |false=>
     have HAll:=sE (hb2 rfl)
     have HI:=sE hI
     clear hb1 hb2 hI
     go_wp2
     go_ret
     exact⟨p,q,f,rfl,HI.o.bt,HAll.o,HI.o.kn⟩
    |true=>
     obtain⟨hfx,hW⟩:=hb1 rfl
     simp only[if_true] at hk
     have hxH:=reach_lt HNs.o HEs.o (hW.snd x hfx)
     obtain⟨mo,mi,mf,n,co,ci,hg,⟨hm,hr⟩,-,-⟩:=HG.o
     have hg:=hI.kn.at_ hg (λ h=>h)
     obtain⟨gc0,gc1,gc2⟩:=Gy hg
     have hlk:=(hm.keep hI.kn (λ h=>h)).look (g:=x) (by omega) Gf (Gp _)
     have hR:=hr x
     obtain⟨rv,hrv⟩:∃ v,(co x).getD (.slice none 0 0)=v:=⟨_,rfl⟩
     rw[hrv] at hlk hR
     obtain⟨ra,rc,rfl,hcells⟩:=hR
     obtain⟨N,hN⟩:∃ N,(Gw es x).length=N:=⟨_,rfl⟩
     have hNl:N<=2147483648:=by
      have h2:(Gw es x).length<=es.length:=List.length_filter_le _ _
      omega
     rw[hN] at hlk
     have HN:=sE hN
     have HCe:=sE hcells
     have HI:=sE hI
     have HWI:=sE hW
     have HKo:=sE hk
     have HFx:=sE hfx
     clear hb1 hb2 hg hm hr hrv hcells hN hI hW hk hfx hbc
     go_wp2_with fail
     go_loopw [51] (λ x51 wr=>∃ (i:Nat) (Q1:List Nat) (f1:Nat->Bool),x51=.int .i64 i/\i<=N/\VisI w xb bb p q (bb+1) H xe Q1 f1 wr/\f1 x=true/\WI (Gm es xe) ns ns ((Gw es x).drop i) Q1 f1/\2*cntF f1 H+Q1.length<K0) (λ x51 wr=>N-(intOf x51).toNat)
     case atStart=>exact ⟨0,Q,f,rfl,Nat.zero_le _,HI.o,HFx.o,HWI.o,by have:=HKo.o;omega⟩
     case round=>
      obtain⟨i,Q1,f1,rfl,hi,hI1,hfx1,hW1,hk1⟩:=hrel
      by_cases hil:i<N
      .have hil':(i:Int)<(N:Int):=by omega
       obtain⟨y,hy⟩:∃ y,(Gw es x)[i]?=some y:=⟨(Gw es x)[i]'(by rw[HN.o];exact hil),by simp⟩
       have hym:=GM.1 (List.mem_of_getElem? hy)
       have hyH:=HEs.o y hym.1
       have hdr:(Gw es x).drop i=y::(Gw es x).drop (i+1):=by
        rw[List.drop_eq_getElem_cons (by rw[HN.o];exact hil)]
        rw[List.getElem?_eq_getElem (by rw[HN.o];exact hil)] at hy
        injection hy with hy
        rw[hy]
       rw[hdr] at hW1
       obtain⟨eb,heb,heb0,y0,y1,y2⟩:=HCe.o i y hy
       subst heb
       have y0:=hI1.kn.cell y0 (λ h=>h)
       have y1:=hI1.kn.cell y1 (λ h=>h)
       have y2:=hI1.kn.cell y2 (λ h=>h)
       have HW1:=sE hW1
       have HFx1:=sE hfx1
       have HYm:=sE hym
       have HK1:=sE hk1
       have HI1:=sE hI1
       have hxa:∀ o,(wr.alloc o).cell? xb=some (.int .i64 xe.1)/\(wr.alloc o).cell? ⟨xb,1,none⟩=some (.int .i64 xe.2.1)/\(wr.alloc o).cell? ⟨xb,2,none⟩=some (.int .i64 xe.2.2):=λ o=>cells3 (((Kr Aa wr).alloc o).at_ HI1.o.xbox (λ h=>h))
       have x0:=λ o=>(hxa o).1
       have x1:=λ o=>(hxa o).2.1
       have x2:=λ o=>(hxa o).2.2
       have HIA:Sl (∀ o,VisI w xb bb p q (bb+1) H xe Q1 f1 (wr.alloc o)):=⟨λ o=>HI1.o.Ac ((Kr _ wr).alloc o)⟩
       have HVA:Sl (∀ o,_):=⟨λ o=>Visit_at w xb bb p q (bb+1) H xe Q1 f1 y.2.2 _ (HIA.o o) hyH⟩
       clear hW1 hfx1 hym hk1 hdr hy hI1 gc0 gc1 gc2 hlk hxa
       by_cases hxy:y=xe
       .have q0:((y.1:Int)==(xe.1:Int))=true:=by rw[hxy];simp
        have q1:((y.2.1:Int)==(xe.2.1:Int))=true:=by rw[hxy];simp
        have q2:((y.2.2:Int)==(xe.2.2:Int))=true:=by rw[hxy];simp
        have HW2:Sl (WI (Gm es xe) ns ns ((Gw es x).drop (i+1)) Q1 f1):=⟨HW1.o.not (λ h=>(GA.1 h).2 hxy)⟩
        clear hxy
        go_wp2
        exact⟨⟨i+1,Q1,f1,by go_num,by omega,HIA.o _,HFx1.o,HW2.o,HK1.o⟩,by simp only[intOf];omega⟩
       .have hne:(!(((y.1:Int)==(xe.1:Int))&&(((y.2.1:Int)==(xe.2.1:Int))&&((y.2.2:Int)==(xe.2.2:Int)))))=true:=by
         rw[Bool.not_eq_true',Bool.eq_false_iff]
         intro h
         simp only[Bool.and_eq_true,beq_iff_eq] at h
         exact hxy (Prod.ext (by omega) (Prod.ext (by omega) (by omega)))
        have HYl:Sl (y∈Gm es xe):=⟨GA.2 ⟨HYm.o.1,hxy⟩⟩
        clear hxy
        go_wp2_with fail
        refine(HVA.o _).mono ?_
        rintro e w5 ⟨rfl,Q',f',hI',hc⟩
        have HI':=sE hI'
        have HR':Sl (f' x=true/\WI (Gm es xe) ns ns ((Gw es x).drop (i+1)) Q' f'/\2*cntF f' H+Q'.length<K0):=⟨by
         rcases hc with ⟨h1,rfl,rfl⟩|⟨h1,rfl,rfl⟩
         .exact ⟨HFx1.o,HW1.o.old h1,HK1.o⟩
         .refine ⟨Gh.2 (.inr HFx1.o),HW1.o.new HYl.o (by rw[HYm.o.2];exact HFx1.o),?_⟩
          have h2:=cntF_upd h1 hyH
          have h3:=HK1.o
          rw[List.length_append,List.length_singleton]
          omega⟩
        clear hI' hc
        go_wp2
        exact⟨⟨i+1,Q',f',by go_num,by omega,HI'.o,HR'.o.1,HR'.o.2.1,HR'.o.2.2⟩,by simp only[intOf];omega⟩
      .have hil':¬ (i:Int)<(N:Int):=by omega
       obtain rfl:i=N:=by omega
       have HWe:Sl (WI (Gm es xe) ns ns [] Q1 f1):=⟨by
        rwa [List.drop_of_length_le (by rw[HN.o];omega)] at hW1⟩
       have HI1:=sE hI1
       have HPo:=sE (QPop_any (bb+1) (bb+1+1) Q1 wr hI1.qa)
       clear hI1 hW1 hfx1 gc0 gc1 gc2 hlk
       go_wp2_with fail
       refine HPo.o.mono ?_
       rintro e w7 ⟨is,x',Q',rfl,hq7,k7,hc⟩
       obtain⟨j',hj',hBf⟩:=WbAt.pop HI1.o HWe.o hq7 k7 hc
       have HBf:=sE hBf
       clear hq7 k7 hc hBf
       go_wp2
       exact⟨⟨j',HBf.o⟩,Nat.lt_of_le_of_lt ((Gv ⟨j',HBf.o⟩).2 j' HBf.o) (by rw[HK0.o];omega)⟩

end

end Go.Proofs.YtfkedlgpgmaemaaGreatDoor
