/-
  Lemmas for the laws, together: CenA, CenK, CenL.
-/
import Derived.Test.YtfkedlgpgmaemaaGreatDoorQbi
import Derived.Test.YtfkedlgpgmaemaaGreatDoorQbf
set_option linter.unusedVariables false
set_option maxHeartbeats 16000000
namespace Go.Proofs.YtfkedlgpgmaemaaGreatDoor
open Tryz
section
open Go.RowKit

theorem setL_nextC{f:Nat->Bool}{j:Nat}:∀ {k:Nat},j<=k->(∀ t,j<=t->t<k->f t=false)->Bb f k=Bb f j
 |0,h,_=>by rw[Nat.le_zero.1 h]
 |k+1,h,hf=>by
  by_cases e:j=k+1
  .rw [e]
  .rw [setL_succ,hf k (by omega) (by omega),if_neg (by simp),List.append_nil]
   exact setL_nextC (by omega) λ t h1 h2=>hf t h1 (by omega)

def leftC(n:Nat)(a b:Value):Nat:=
 match b with
 |.bool true=>n+1-(intOf a).toNat
 |_=>0

def NxtV(fm:Nat->Bool)(H j:Nat)(x y:Value):Prop:=(∃ k,Fs fm H j=some k/\x=.int .i64 (k:Nat)/\y=.bool true)\/(Fs fm H j=none/\x=.int .i64 0/\y=.bool false)

theorem NxtV.has(fm:Nat->Bool)(H j:Nat):∃ x y:Value,optV (Fs fm H j)=.tuple #[x,y]/\NxtV fm H j x y:=by
 unfold NxtV
 cases Fs fm H j with
 |none=>exact ⟨_,_,rfl,.inr ⟨rfl,rfl,rfl⟩⟩
 |some k=>exact ⟨_,_,rfl,.inl ⟨k,rfl,rfl,rfl⟩⟩

theorem NxtV.less{fm:Nat->Bool}{H k:Nat}{x y:Value}(h:NxtV fm H (k+1) x y)(hk:k<H):leftC H x y<leftC H (.int .i64 (k:Nat)) (.bool true):=by
 rcases h with ⟨k',h1,rfl,rfl⟩|⟨h1,rfl,rfl⟩
 .rcases nextB_spec fm H (k+1) with ⟨k2,e1,h3,h4,-⟩|⟨e1,-⟩
  .rw [h1] at e1
   injection e1 with e1
   subst e1
   simp only[leftC,intOf]
   omega
  .rw [h1] at e1
   cases e1
 .simp only[leftC,intOf]
  omega

def AllPost(xs:List Nat)(w:World)(e:Ending)(w':World):Prop:=
 ∃ a c,e=.returned (.slice a xs.length c)/\w'.ownsRow w.heap.size 3 1 (.slice a xs.length c) xs.length (Az xs)/\Kp Aa w w'

set_option maxRecDepth 20000 in
theorem CAll_at(w:World)(b s:Nat)(v:Value)(os:List Cel)(es:List (Nat×Nat×Nat))(mp mq H:Nat)(fm:Nat->Bool)(h:E8 w b s v os es mp mq H fm)(hH:H<=65536):
  Calls prog 53 #[.pointer (some ⟨b,0,none⟩)] w (AllPost (Bb fm H) w):=by
 obtain⟨mc,mo,n,co,F,hg,-,-,-,hb⟩:=h
 have HNx:Sl (∀ W' (i:Nat),Kp Aa w W'->Calls prog 105 #[.pointer (some ⟨mp,0,none⟩),.int .i64 (i:Nat)] W' λ e w'=>e=.returned (optV (Fs fm H i))/\Kp Aa W' w'):=⟨λ W' i kk=>by
  have:=Next_at (i:Int) H mp mq fm W' (hb.keep kk (λ h=>h) (λ h=>h))
  rw[Int.toNat_natCast] at this
  exact this⟩
 have HG:=sE hg
 obtain⟨-,-,-,-,g4⟩:=Dj hg
 clear hg hb
 go_enter func53,ntmps53
 go_wp2_with fail
 refine(HNx.out w 0 (Kr _ _)).mono ?_
 rintro e w3 ⟨rfl,k3⟩
 have HK3:=sE k3
 have hz3:=k3.size
 obtain⟨y3,y4,hy,hyv⟩:=NxtV.has fm H 0
 rw[hy]
 have HYv:=sE hyv
 clear hy hyv k3 g4
 go_wp2_with fail
 go_loopw [2,3,4] (λ x2 x3 x4 wr=>∃ j:Nat,j<=H/\NxtV fm H j x3 x4/\wr.ownsRow w3.heap.size 3 1 x2 (Bb fm j).length (Az (Bb fm j))/\Kp Aa w3 wr) (λ _ x3 x4 _=>leftC H x3 x4)
 case atStart=>exact ⟨0,Nat.zero_le _,HYv.out,World.ownsRow_nil _ _ _ _,Kr _ _⟩
 case round=>
  obtain⟨j,hj,hy,ho,hk⟩:=hrel
  have HO1:=sE ho
  have HK:=sE hk
  have hzr:=hk.size
  have hsl:=setL_len fm j
  clear ho hk
  rcases hy with ⟨k,hn,rfl,rfl⟩|⟨hn,rfl,rfl⟩
  .rcases nextB_spec fm H j with ⟨k',e1,hjk,hkH,hfk,hno⟩|⟨e1,-⟩
   .rw [hn] at e1
    injection e1 with e1
    subst e1
    have HSe:Sl (Bb fm (k+1)=Bb fm j++[k]):=⟨by rw[setL_succ,if_pos hfk,setL_nextC hjk hno]⟩
    obtain⟨Q,hQ⟩:∃ Q,Bb fm j=Q:=⟨_,rfl⟩
    obtain⟨ql,hql⟩:∃ ql,Q.length=ql:=⟨_,rfl⟩
    rw[hQ] at HSe HO1 hsl
    rw[hql] at HO1 hsl
    have HQl:=sE hql
    obtain⟨qa,qc,rfl⟩:=AJ HO1.out
    have u1:IntKind.i64.wrap ((k:Int)+1)=((k+1:Nat):Int):=by rw[IntKind.wrap_i64];omega
    clear hn hno hfk hQ hql
    go_wp2_with (at_builtin;obtain ⟨i0,hi,hz0,hz1,hz2⟩:=info_parts Ch;go_loud (refine wpList_append_lies _ rfl (.tmp 24) (.tmp 26) 24 rfl w3.heap.size 3 i0 _ 1 8 AU hi hz0 hz1 hz2 rfl (by omega) (.slice qa ql qc) ql (Az Q) rfl (HO1.out.alloc _) ⟨wr.heap.size,0,none⟩ 1 1 [.int .i64 (k:Nat)] rfl rfl (World.news_of_block (wN wr _)) (by intro u hu;simp at hu;subst hu;rfl) (by omega) (by unfold maxLen;omega) (by omega) (by first|(simp;done)|(simp;omega)) (wr.heap.size+1) (by simp) ?_);intro gn capn w5 hown5 hgrow hat hlt;clear hi hz0 hz1 hz2;have HGw:=sE hgrow;have HR5:=sE hown5;clear hown5 hgrow hat hlt;obtain ⟨-,-,-,-,g4⟩:=Dj ((HK3.out.then' ((HK.out.alloc _).grown HGw.out (λ k e hk=>by have:=(Ae HO1.out e).1;omega))).at_ HG.out (λ h=>h)))
    have k5:Kp Aa w3 w5:=(HK.out.alloc _).grown HGw.out (λ k e hk=>by have:=(Ae HO1.out e).1;omega)
    have HK5:=sE k5
    clear k5 g4
    refine(HNx.out w5 (k+1) (HK3.out.then' HK5.out)).mono ?_
    rintro e w6 ⟨rfl,k6⟩
    have HK6:=sE (HK5.out.then' k6)
    have HR6:=sE (Ag HR5.out k6 (λ _ _ h=>h))
    clear k6
    obtain⟨y3',y4',hy',hyv'⟩:=NxtV.has fm H (k+1)
    rw[hy']
    have HYv':=sE hyv'
    have HLb:=sE (hyv'.less hkH)
    clear hy' hyv'
    go_wp2_with fail
    refine⟨⟨k+1,by omega,HYv'.out,?_,HK6.out⟩,HLb.out⟩
    rw[HSe.out,Az,List.map_append,List.length_append,HQl.out]
    exact HR6.out
   .rw [hn] at e1
    cases e1
  .have HSe:Sl (Bb fm H=Bb fm j):=⟨by
    rcases nextB_spec fm H j with ⟨k',e1,-⟩|⟨-,e2⟩
    .rw [hn] at e1
     cases e1
    .exact setL_nextC hj e2⟩
   rw[<- HSe.out] at HO1
   obtain⟨Q,hQ⟩:∃ Q,Bb fm H=Q:=⟨_,rfl⟩
   rw[hQ] at HO1
   have HQ:=sE hQ
   obtain⟨ql,hql⟩:∃ ql,Q.length=ql:=⟨_,rfl⟩
   rw[hql] at HO1
   have HQl:=sE hql
   obtain⟨qa,qc,rfl⟩:=AJ HO1.out
   clear hn HSe hQ hql HYv HNx hsl
   go_wp2
   go_ret
   rw[HQ.out]
   refine⟨qa,qc,by rw[HQl.out];rfl,?_,HK3.out.then' HK.out⟩
   rw[HQl.out]
   exact Cu HO1.out hz3

end

section
open Go.RowKit

def KBox(w:World)(bg bl bp bv g lp pb:Nat):Prop:=
 w.heap[bg]?=some (.cells #[.int .i64 (g:Nat)] 3 (0,0))/\w.heap[bl]?=some (.cells #[.pointer (some ⟨lp,0,none⟩)] 120 (0,0))/\w.heap[bp]?=some (.cells #[.pointer (some ⟨pb,0,none⟩)] 114 (0,0))/\
  w.heap[bv]?=some (.cells #[.func (.func 107) #[] #[.pointer (some ⟨bg,0,none⟩),.pointer (some ⟨bl,0,none⟩),.pointer (some ⟨bp,0,none⟩),.pointer (some ⟨bv,0,none⟩)]] 193 (0,0))

theorem KBox.keep{w w':World}{bg bl bp bv g lp pb:Nat}(h:KBox w bg bl bp bv g lp pb){S:Nat->Prop}(k:Kp S w w')(h1:¬ S bg)(h2:¬ S bl)(h3:¬ S bp)(h4:¬ S bv):KBox w' bg bl bp bv g lp pb:=
 ⟨k.at_ h.1 h1,k.at_ h.2.1 h2,k.at_ h.2.2.1 h3,k.at_ h.2.2.2 h4⟩

structure OutAt(wk:World)(pb mo:Nat)(co:Nat->Option Value)(es:List (Nat×Nat×Nat)):Prop where
 mp:∀ W' (k:Nat),Kp Aa wk W'->k<65536->(Instr.lookup 119 (.map (some mo)) (.int .i64 (k:Nat)) false).run prog W'=.ok ((co k).getD (.slice none 0 0)) W'
 row:∀ k,Bz wk ((co k).getD (.slice none 0 0)) (EN es k)
 cel:∀ W',Kp Aa wk W'->W'.cell? ⟨pb,3,none⟩=some (.map (some mo))

theorem E8.out{w:World}{b s:Nat}{v:Value}{os:List Cel}{es:List (Nat×Nat×Nat)}{mp mq H:Nat}{fm:Nat->Bool}(h:E8 w b s v os es mp mq H fm):∃ mo co,OutAt w b mo co es:=by
 obtain⟨mc,mo,n,co,F,h1,h2,h3,⟨h4,h5⟩,h6⟩:=h
 exact⟨mo,co,λ W' k kk hk=>(h4.keep kk (λ h=>h)).look (by omega) DN (zeroInts _),h5,λ W' kk=>(Dj (kk.at_ h1 (λ h=>h))).2.2.2.1⟩

theorem cntF_mono{f f':Nat->Bool}(h:∀ x,f x=true->f' x=true)(H:Nat):cntF f' H<=cntF f H:=by
 unfold cntF
 refine List.countP_mono_left λ x _ hx=>?_
 cases e:f x with
 |false=>rfl
 |true=>rw [h x e] at hx;cases hx

theorem mem_outN{es:List (Nat×Nat×Nat)}{x y:Nat}:y∈EN es x ↔ ∃ e∈es,e.1=x/\e.2.2=y:=by
 unfold EN outE
 simp only[List.mem_map,List.mem_filter]
 constructor
 .rintro ⟨e,⟨h1,h2⟩,h3⟩
  exact⟨e,h1,by simpa using h2,h3⟩
 .rintro ⟨e,h1,h2,h3⟩
  exact⟨e,⟨h1,by simpa using h2⟩,h3⟩

theorem visit_more{es:List (Nat×Nat×Nat)}{A:Nat->Prop}{g y:Nat}{f f' f'':Nat->Bool}(h:Visit es g A f f')(k:Visit es g (λ z=>z=y) f' f'')(hy:A y):Visit es g A f f'':=by
 have k':Visit es g A f' f'':=⟨k.up,λ z hz=>(k.new z hz).imp_right λ⟨r,hr,q⟩=>⟨y,hy,by obtain rfl:=hr;exact q⟩,k.cl⟩
 exact h.trans k' (λ _ h=>h)

def VisitPost(es:List (Nat×Nat×Nat))(g lp lq H x:Nat)(f:Nat->Bool)(w:World)(e:Ending)(w':World):Prop:=
 ∃ v f',e=.returned v/\AC w' lp lq f' H/\Visit es g (λ y=>y=x) f f'/\(x=g\/f' x=true)/\Kp (λ b=>b=lq) w w'

set_option maxRecDepth 20000 in
theorem Kept1_at(wk:World)(pb mo:Nat)(co:Nat->Option Value)(es:List (Nat×Nat×Nat))(hO:OutAt wk pb mo co es)(g bg bl bp bv lp lq H:Nat)(hH:H<=65536)(hE:∀ e∈es,e.2.2<H)(hEl:es.length<=2147483648)(hlq:wk.heap.size<=lq)(n1:¬ bg=lq)(n2:¬ bl=lq)(n3:¬ bp=lq)(n4:¬ bv=lq):
  ∀ (n x:Nat) (f:Nat->Bool) (w:World),Kp Aa wk w->KBox w bg bl bp bv g lp pb->AC w lp lq f H->cntF f H<=n->x<H->
  Calls prog 107 #[.int .i64 (x:Nat),.pointer (some ⟨bg,0,none⟩),.pointer (some ⟨bl,0,none⟩),.pointer (some ⟨bp,0,none⟩),.pointer (some ⟨bv,0,none⟩)] w (VisitPost es g lp lq H x f w):=by
 intro n
 induction n using Nat.strongRecOn with
 |ind n ih=>
 intro x f w hkw hbx hb hcn hx
 have HIH:=sE ih
 have HKw:=sE hkw
 have HBx:=sE hbx
 have HB:=sE hb
 obtain⟨h1,h2,h3,h4⟩:=hbx
 have c1:=cell_of_one h1
 have c2:=cell_of_one h2
 clear ih hkw hb h1 h2 h3 h4
 by_cases hxg:x=g
 .subst hxg
  have hee:((x:Int)==(x:Int))=true:=by simp
  go_enter func107,ntmps107
  go_wp2
  refine bodyPost_ret (results_none rfl _ _ _) rfl ?_
  exact⟨_,f,rfl,HB.out,Visit.refl _ _ _ _,.inl rfl,Kr _ _⟩
 have hne:((x:Int)==(g:Int))=false:=by rw[beq_eq_false_iff_ne];omega
 have HHas:=sE (Has_in x H lp lq f w HB.out hx)
 cases hfx:f x with
 |true=>
  rw[hfx] at HHas
  go_enter func107,ntmps107
  go_wp2_with fail
  refine HHas.out.mono ?_
  rintro e w1 ⟨rfl,k1⟩
  go_wp2
  refine bodyPost_ret (results_none rfl _ _ _) rfl ?_
  exact⟨_,f,rfl,HB.out.keep k1 (λ h=>h) (λ h=>h),Visit.refl _ _ _ _,.inr hfx,k1.Ar _⟩
 |false=>
  rw[hfx] at HHas
  have hcu:=cntF_upd hfx hx
  have HSt:Sl (∀ W',AC W' lp lq f H->Calls prog 108 #[.pointer (some ⟨lp,0,none⟩),.int .i64 (x:Nat)] W' λ e w'=>e=.returned (.int .i64 (errV (BD H (x:Nat) 1)))/\Kp (λ b=>b=lq) W' w'/\AC w' lp lq (updB f x) H):=⟨λ W' hb'=>by
   have:=Set_int (x:Nat) H lp lq f W' hb'
   rwa [setF_upd hx hH] at this⟩
  obtain⟨rv,hrv⟩:∃ v,(co x).getD (.slice none 0 0)=v:=⟨_,rfl⟩
  have HRw:=hO.row x
  rw[hrv] at HRw
  obtain⟨ra,rc,hra,hcells⟩:=HRw
  obtain⟨N,hN⟩:∃ N,(EN es x).length=N:=⟨_,rfl⟩
  have hNl:N<=2147483648:=by
   have:(EN es x).length<=es.length:=by
    unfold EN outE
    rw[List.length_map]
    exact List.length_filter_le _ _
   omega
  rw[hN] at hra
  subst hra
  have HN:=sE hN
  have HCe:=sE hcells
  have HLk:Sl (∀ W',Kp Aa wk W'->_):=⟨λ W' kk=>by
   have:=hO.mp W' x kk (by omega)
   rwa [hrv] at this⟩
  have HFx:=sE hfx
  clear hrv hN hcells hfx
  go_enter func107,ntmps107
  go_wp2_with fail
  refine HHas.out.mono ?_
  rintro e w1 ⟨rfl,k1⟩
  have c2:=Ac k1 c2
  have HB1:=sE (HB.out.keep k1 (λ h=>h) (λ h=>h))
  have HK1:=sE k1
  clear k1 c1
  go_wp2_with fail
  refine(HSt.out w1 HB1.out).mono ?_
  rintro e w2 ⟨rfl,k2,b2⟩
  have K2:Kp (λ b=>b=lq) w w2:=(HK1.out.Ar _).trans k2 (λ _ _ h=>h)
  have KW2:Kp Aa wk w2:=HKw.out.trans K2 (λ i hi h=>by have h':i=lq:=h;omega)
  have HBx2:=sE (HBx.out.keep K2 n1 n2 n3 n4)
  have c3:=cell_of_one HBx2.out.2.2.1
  have cp:=hO.cel w2 KW2
  have hlk:=HLk.out w2 KW2
  have HKW2:=sE KW2
  have HK2:=sE K2
  have HB2:=sE b2
  clear c2 k2 b2 K2 KW2
  go_wp2_with fail
  go_loopw [26] (λ x26 wr=>∃ (i:Nat) (f':Nat->Bool),x26=.int .i64 (i:Nat)/\i<=N/\AC wr lp lq f' H/\Visit es g (λ y=>∃ e∈es,e.1=x/\e.2.2=y) (updB f x) f'/\(∀ y∈(EN es x).take i,y=g\/f' y=true)/\Kp (λ b=>b=lq) w wr) (λ x26 _=>N-(intOf x26).toNat)
  case atStart=>exact ⟨0,_,rfl,Nat.zero_le _,HB2.out,Visit.refl _ _ _ _,λ y hy=>by simp at hy,HK2.out⟩
  case round=>
   obtain⟨i,f',rfl,hi,hb',hv,ha,hkk⟩:=hrel
   have HB':=sE hb'
   have HV:=sE hv
   have HA:=sE ha
   have HKK:=sE hkk
   have KWr:Kp Aa wk wr:=HKw.out.trans hkk (λ i hi h=>by have h':i=lq:=h;omega)
   have HKWr:=sE KWr
   have HBxr:=sE (HBx.out.keep hkk n1 n2 n3 n4)
   by_cases hil:i<N
   .have hil':(i:Int)<(N:Int):=by omega
    obtain⟨y,hy⟩:∃ y,(EN es x)[i]?=some y:=⟨(EN es x)[i]'(by rw[HN.out];exact hil),by simp⟩
    obtain⟨rb,ro,hra,cy⟩:=HCe.out i y hy
    subst hra
    have cy:=Ac KWr cy
    have c4:=cell_of_one HBxr.out.2.2.2
    obtain⟨ey,hey,hey1,hey2⟩:=mem_outN.1 (List.mem_of_getElem? hy)
    have hyH:y<H:=by have:=hE ey hey;omega
    have hcm:=cntF_mono HV.out.up H
    have HCl:=sE (HIH.out (n-1) (by omega) y f' wr KWr HBxr.out hb' (by omega) hyH)
    have HY:=sE hy
    have HEy:Sl (∃ e∈es,e.1=x/\e.2.2=y):=⟨⟨ey,hey,hey1,hey2⟩⟩
    clear hb' hv ha hkk KWr hy hey hey1 hey2 cp c3 hlk
    go_wp2_with fail
    refine HCl.out.mono ?_
    rintro e w3 ⟨v3,f3,rfl,hb3,hv3,ha3,k3⟩
    have HB3:=sE hb3
    have HV3:=sE hv3
    have HA3:=sE ha3
    have HK3:=sE k3
    clear hb3 hv3 ha3 k3
    go_wp2
    refine⟨⟨i+1,f3,by go_num,by omega,HB3.out,visit_more HV.out HV3.out HEy.out,λ z hz=>?_,HKK.out.trans HK3.out (λ _ _ h=>h)⟩,by simp only[intOf];omega⟩
    rw[List.take_add_one,HY.out,List.mem_append] at hz
    rcases hz with hz|hz
    .exact (HA.out z hz).imp_right (HV3.out.up z)
    .simp at hz
     subst hz
     exact HA3.out
   .obtain rfl:i=N:=by omega
    have hil':¬ (i:Int)<(i:Int):=by omega
    clear hb' hv ha hkk KWr cp c3 hlk
    go_wp2
    refine bodyPost_ret (results_none rfl _ _ _) rfl ?_
    refine⟨_,f',rfl,HB'.out,Visit.node hxg HV.out (λ e he h1=>?_),.inr (HV.out.up x (updB_true.2 (.inl rfl))),HKK.out⟩
    have:=HA.out e.2.2 (by rw[List.take_of_length_le (by rw[HN.out];omega)];exact mem_outN.2 ⟨e,he,h1,rfl⟩)
    exact this

end

section
open Go.RowKit

noncomputable def keptL (es:List (Nat×Nat×Nat)) (xs l:List Nat) (g:Nat):List Nat:=l.filter λ x=>@decide (¬ AQ es xs g x) (Classical.propDecidable _)

theorem mem_keptL{es:List (Nat×Nat×Nat)}{xs l:List Nat}{g x:Nat}:x∈keptL es xs l g ↔ x∈l/\¬ AQ es xs g x:=by
 unfold keptL
 rw[List.mem_filter]
 constructor
 .rintro ⟨a,b⟩
  exact⟨a,@of_decide_eq_true _ (Classical.propDecidable _) b⟩
 .rintro ⟨a,b⟩
  exact⟨a,@dT _ (Classical.propDecidable _) b⟩

theorem keptL_eq{es:List (Nat×Nat×Nat)}{xs l:List Nat}{g:Nat}{f:Nat->Bool}(h:∀ x,f x=true ↔ AQ es xs g x):keptL es xs l g=l.filter λ x=> !f x:=by
 unfold keptL
 refine List.filter_congr λ x _=>?_
 cases e:f x with
 |true=>simpa using (h x).1 e
 |false=>
  have:¬ AQ es xs g x:=λ q=>by rw[(h x).2 q] at e;cases e
  simpa using this

theorem filter_step{l:List Nat}{p:Nat->Bool}{i y:Nat}(h:l[i]?=some y):(l.take (i+1)).filter p=(l.take i).filter p++if p y=true then [y] else []:=by
 rw[List.take_add_one,h,List.filter_append]
 congr 1
 cases e:p y <;> simp[e]

set_option maxRecDepth 20000 in
theorem CKept_at(w:World)(b s:Nat)(v:Value)(os:List Cel)(es:List (Nat×Nat×Nat))(mp mq H:Nat)(fm:Nat->Bool)(xs:List Nat)(h:E8 w b s v os es mp mq H fm)(hH:H<=65536)(hE:∀ e∈es,e.2.2<H)(hEl:es.length<=2147483648)(hx:Bz w v xs)(hxo:∀ x∈xs,x<H)(hxl:xs.length<=65536)(g:Nat)(hg:g<65536)
  (hGr:∀ W',Kp Aa w W'->Calls prog 89 #[.pointer (some ⟨s,0,none⟩)] W' λ e w''=>e=.returned (.int .i64 (H:Nat))/\w''=W'):
  Calls prog 54 #[.pointer (some ⟨b,0,none⟩),.int .i64 (g:Nat)] w (AllPost (keptL es xs (Bb fm H) g) w):=by
 obtain⟨va,vc,rfl,hcells⟩:=id hx
 obtain⟨mo,co,hO⟩:=h.out
 have HO:=sE hO
 have HAll:Sl (∀ W',Kp Aa w W'->_):=⟨λ W' kk=>CAll_at W' b s _ os es mp mq H fm (h.Ad kk) hH⟩
 have HX:=sE hcells
 have HGr:Sl (∀ W',Kp Aa w W'->_):=⟨hGr⟩
 have HNew:Sl (∀ W',_):=⟨λ W'=>New_yes H W' hH⟩
 have HCl:Sl (∀ bp bg w1 w2,Kp Aa w w1->Kp Aa w1 w2->∀ bl bv lp lq,w1.heap.size<=lq->¬ bg=lq->¬ bl=lq->¬ bp=lq->¬ bv=lq->∀ (x:Nat) (f:Nat->Bool),KBox w2 bg bl bp bv g lp b->AC w2 lp lq f H->x<H->Calls prog 107 #[.int .i64 (x:Nat),.pointer (some ⟨bg,0,none⟩),.pointer (some ⟨bl,0,none⟩),.pointer (some ⟨bp,0,none⟩),.pointer (some ⟨bv,0,none⟩)] w2 (VisitPost es g lp lq H x f w2)):=⟨λ bp bg w1 w2 k1 k2 bl bv lp lq hl n1 n2 n3 n4 x f hb hf hx'=>Kept1_at w b mo co es HO.out g bg bl bp bv lp lq H hH hE hEl (Nat.le_trans k1.size hl) n1 n2 n3 n4 _ x f w2 (k1.then' k2) hb hf (Nat.le_refl _) hx'⟩
 obtain⟨mc,mo',n,co',F,hgp,-⟩:=h
 have HG:=sE hgp
 obtain⟨L,hL⟩:∃ L,xs.length=L:=⟨_,rfl⟩
 rw[hL] at HG hxl
 have HL:=sE hL
 clear hO hcells hGr hgp hL hx
 go_enter func54,ntmps54
 obtain⟨w2,hw2⟩:∃ w2,w2=(w.alloc (.cells #[.pointer (some ⟨b,0,none⟩)] 114)).alloc (.cells #[.int .i64 (g:Nat)] 3):=⟨_,rfl⟩
 have k2:Kp Aa w w2:=by rw[hw2];exact ((Kr _ w).alloc _).alloc _
 obtain⟨gc0,-⟩:=Dj (k2.at_ HG.out (λ h=>h))
 rw[hw2] at gc0
 go_wp2_with fail
 try rw[<- hw2]
 obtain⟨bp,hbp⟩:∃ m,w.heap.size=m:=⟨_,rfl⟩
 have hz2:w2.heap.size=bp+2:=by rw[hw2,<- hbp];simp
 have hB2:w2.heap[bp]?=some (.cells #[.pointer (some ⟨b,0,none⟩)] 114 (0,0))/\w2.heap[bp+1]?=some (.cells #[.int .i64 (g:Nat)] 3 (0,0)):=by
  rw[hw2,<- hbp]
  exact⟨((Kr Aa (w.alloc (.cells #[.pointer (some ⟨b,0,none⟩)] 114))).alloc _).at_ (wN w _) (λ h=>h),by have:=wN (w.alloc (.cells #[.pointer (some ⟨b,0,none⟩)] 114)) (.cells #[.int .i64 (g:Nat)] 3);rwa [show (w.alloc (.cells #[.pointer (some ⟨b,0,none⟩)] 114)).heap.size=w.heap.size+1 by simp] at this⟩
 try rw[hbp]
 have HB2:=sE hB2
 have HK2:=sE k2
 clear hw2 hB2 k2 gc0
 refine(HGr.out w2 HK2.out).mono ?_
 rintro e w3 ⟨rfl,rfl⟩
 go_wp2_with fail
 refine(HNew.out w3).mono ?_
 rintro e w4 ⟨lp,lq,rfl,hlp,hlq,hb4,k4⟩
 have hp4:=hb4.lt_p'
 have hq4:=hb4.lt_q'
 have HB4:=sE hb4
 have HK4:=sE k4
 clear hb4 k4
 obtain⟨bl,hbl⟩:∃ m,w4.heap.size=m:=⟨_,rfl⟩
 obtain⟨w5,hw5⟩:∃ w5,w5=(w4.alloc (.cells #[.pointer (some ⟨lp,0,none⟩)] 120)).alloc (.cells #[.func (.func 107) #[] #[.pointer (some ⟨bp+1,0,none⟩),.pointer (some ⟨w4.heap.size,0,none⟩),.pointer (some ⟨bp,0,none⟩),.pointer (some ⟨w4.heap.size+1,0,none⟩)]] 193):=⟨_,rfl⟩
 have k5:Kp Aa w4 w5:=by rw[hw5];exact ((Kr _ w4).alloc _).alloc _
 have hB5:w5.heap[bl]?=some (.cells #[.pointer (some ⟨lp,0,none⟩)] 120 (0,0))/\w5.heap[bl+1]?=some (.cells #[.func (.func 107) #[] #[.pointer (some ⟨bp+1,0,none⟩),.pointer (some ⟨bl,0,none⟩),.pointer (some ⟨bp,0,none⟩),.pointer (some ⟨bl+1,0,none⟩)]] 193 (0,0)):=by
  rw[hw5,<- hbl]
  exact⟨((Kr Aa (w4.alloc (.cells #[.pointer (some ⟨lp,0,none⟩)] 120))).alloc _).at_ (wN w4 _) (λ h=>h),by have:=wN (w4.alloc (.cells #[.pointer (some ⟨lp,0,none⟩)] 120)) (.cells #[.func (.func 107) #[] #[.pointer (some ⟨bp+1,0,none⟩),.pointer (some ⟨w4.heap.size,0,none⟩),.pointer (some ⟨bp,0,none⟩),.pointer (some ⟨w4.heap.size+1,0,none⟩)]] 193);rwa [show (w4.alloc (.cells #[.pointer (some ⟨lp,0,none⟩)] 120)).heap.size=w4.heap.size+1 by simp] at this⟩
 have K35:Kp Aa w3 w5:=HK4.out.then' k5
 have HKB:Sl (KBox w5 (bp+1) bl bp (bl+1) g lp b):=⟨⟨K35.at_ HB2.out.2 (λ h=>h),hB5.1,K35.at_ HB2.out.1 (λ h=>h),hB5.2⟩⟩
 have cb:=cell_of_one HKB.out.2.2.1
 have K5:Kp Aa w w5:=HK2.out.then' K35
 obtain⟨-,gc1,-⟩:=Dj (K5.at_ HG.out (λ h=>h))
 have HB5:Sl (AC w5 lp lq (λ _=>false) H):=⟨HB4.out.keep k5 (λ h=>h) (λ h=>h)⟩
 have HK5:=sE K5
 have HK35:=sE K35
 clear hB5 k5 K5 K35
 rw[hbl] at hw5
 rw[hw5] at cb gc1
 have hz3:=HK2.out.size
 have hwb:w.heap.size=bp:=hbp
 go_wp2_with fail
 try rw[<- hw5]
 try rw[hbl]
 clear hw5 cb gc1
 go_loopw [27] (λ x27 wr=>∃ (i:Nat) (f':Nat->Bool),x27=.int .i64 (i:Nat)/\i<=L/\AC wr lp lq f' H/\Visit es g (λ y=>y∈xs) (λ _=>false) f'/\(∀ y∈xs.take i,y=g\/f' y=true)/\Kp (λ b=>b=lq) w5 wr) (λ x27 _=>L-(intOf x27).toNat)
 case atStart=>exact ⟨0,_,rfl,Nat.zero_le _,HB5.out,Visit.refl _ _ _ _,λ y hy=>by simp at hy,Kr _ _⟩
 case round=>
  obtain⟨i,f',rfl,hi,hb',hv,ha,hkk⟩:=hrel
  have HB':=sE hb'
  have HV:=sE hv
  have HA:=sE ha
  have HKK:=sE hkk
  have K3r:Kp Aa w3 wr:=HK35.out.trans hkk (λ i hi h=>by have h':i=lq:=h;omega)
  have HKWr:=sE (HK2.out.then' K3r)
  have HBxr:=sE (HKB.out.keep hkk (λ h=>by have h':bp+1=lq:=h;omega) (λ h=>by have h':bl=lq:=h;omega) (λ h=>by have h':bp=lq:=h;omega) (λ h=>by have h':bl+1=lq:=h;omega))
  by_cases hil:i<L
  .have hil':(i:Int)<(L:Int):=by omega
   obtain⟨y,hy⟩:∃ y,xs[i]?=some y:=⟨xs[i]'(by rw[HL.out];exact hil),by simp⟩
   obtain⟨rb,ro,hra,cy⟩:=HX.out i y hy
   subst hra
   have cy:=Ac HKWr.out cy
   have c4:=cell_of_one HBxr.out.2.2.2
   have hyH:=hxo y (List.mem_of_getElem? hy)
   have HCy:=sE (HCl.out bp (bp+1) w3 wr HK2.out K3r bl (bl+1) lp lq hlq (by omega) (by omega) (by omega) (by omega) y f' HBxr.out hb' hyH)
   have HY:=sE hy
   clear hb' hv ha hkk K3r hy
   go_wp2_with fail
   refine HCy.out.mono ?_
   rintro e w6 ⟨v3,f3,rfl,hb3,hv3,ha3,k3⟩
   have HB3:=sE hb3
   have HV3:=sE hv3
   have HA3:=sE ha3
   have HK3:=sE k3
   clear hb3 hv3 ha3 k3
   go_wp2
   refine⟨⟨i+1,f3,by go_num,by omega,HB3.out,visit_more HV.out HV3.out (List.mem_of_getElem? HY.out),λ z hz=>?_,HKK.out.trans HK3.out (λ _ _ h=>h)⟩,by simp only[intOf];omega⟩
   rw[List.take_add_one,HY.out,List.mem_append] at hz
   rcases hz with hz|hz
   .exact (HA.out z hz).imp_right (HV3.out.up z)
   .simp at hz
    subst hz
    exact HA3.out
  .obtain rfl:i=L:=by omega
   have hil':¬ (i:Int)<(i:Int):=by omega
   have HF:Sl (∀ x,f' x=true ↔ AQ es xs g x):=⟨HV.out.all (λ r hr=>HA.out r (by rw[List.take_of_length_le (by rw[HL.out];omega)];exact hr))⟩
   have c3:=cell_of_one HBxr.out.2.2.1
   have hz6:=HKWr.out.size
   clear hb' hv ha hkk K3r
   go_wp2_with fail
   refine(HAll.out wr HKWr.out).mono ?_
   rintro e w7 ⟨qa,qc,rfl,ho7,k7⟩
   have HKL:Sl (keptL es xs (Bb fm H) g=(Bb fm H).filter λ x=> !f' x):=⟨keptL_eq HF.out⟩
   have hQH:(Bb fm H).length<=65536:=Nat.le_trans (setL_len fm H) hH
   have HQlt:Sl (∀ y∈Bb fm H,y<H):=⟨λ y hy=>setL_lt y hy⟩
   obtain⟨Q,hQ⟩:∃ Q,Bb fm H=Q:=⟨_,rfl⟩
   rw[hQ] at ho7 hQH HQlt ⊢
   have HKQ:Sl (keptL es xs (Bb fm H) g=Q.filter λ x=> !f' x):=⟨by rw[<- hQ];exact HKL.out⟩
   obtain⟨M,hM⟩:∃ M,Q.length=M:=⟨_,rfl⟩
   rw[hM] at ho7 hQH ⊢
   have HM:=sE hM
   have HO7:=sE ho7
   have HK7:Sl (Kp Aa w w7):=⟨HKWr.out.then' k7⟩
   have HBx7:=sE (HBxr.out.keep k7 (λ h=>h) (λ h=>h) (λ h=>h) (λ h=>h))
   have HB7:Sl (AC w7 lp lq f' H):=⟨HB'.out.keep k7 (λ h=>h) (λ h=>h)⟩
   have hz7:=k7.size
   obtain⟨B,hB⟩:∃ B,w7.heap.size=B:=⟨_,rfl⟩
   have HBs:Sl (w7.heap.size=B):=⟨hB⟩
   have hwB:w.heap.size<=B:=by omega
   clear ho7 k7 hM hQ hB c3 HKL HF HAll HCl HNew HGr HB' HV HA HKK HBxr HKWr
   go_wp2_with fail
   go_loopw [4,38] (λ x4 x38 wr=>∃ (j:Nat),x38=.int .i64 (j:Nat)/\j<=M/\wr.ownsRow B 3 1 x4 ((Q.take j).filter λ x=> !f' x).length (Az ((Q.take j).filter λ x=> !f' x))/\Kp Aa w7 wr) (λ _ x38 _=>M-(intOf x38).toNat)
   case atStart=>exact ⟨0,rfl,Nat.zero_le _,World.ownsRow_nil _ _ _ _,Kr _ _⟩
   case round=>
    obtain⟨j,rfl,hj,ho,hk⟩:=hrel
    have HOj:=sE ho
    have HKj:=sE hk
    have hzj:=hk.size
    rw[HBs.out] at hzj
    obtain⟨R,hR⟩:∃ R,(Q.take j).filter (λ x=> !f' x)=R:=⟨_,rfl⟩
    have hRl:R.length<=M:=by
     rw[<- hR]
     exact Nat.le_trans (List.length_filter_le _ _) (by rw[List.length_take];omega)
    have hRlt:∀ y∈R,y<H:=λ y hy=>by
     rw[<- hR] at hy
     exact HQlt.out y (List.mem_of_mem_take (List.mem_filter.1 hy).1)
    rw[hR] at HOj
    obtain⟨rl,hrl⟩:∃ n,R.length=n:=⟨_,rfl⟩
    rw[hrl] at HOj hRl
    have HRl:=sE hrl
    have HR:=sE hR
    obtain⟨ra,rc,rfl⟩:=AJ HOj.out
    by_cases hjl:j<M
    .have hjl':(j:Int)<(M:Int):=by omega
     obtain⟨y,hy⟩:∃ y,Q[j]?=some y:=⟨_,List.getElem?_eq_getElem (by rw[HM.out];exact hjl)⟩
     obtain⟨bb,hbb,x0⟩:=Cw (Ag HO7.out hk (λ _ _ h=>h)) hy
     subst hbb
     have hyH:=HQlt.out y (List.mem_of_getElem? hy)
     have cbl:=cell_of_one (hk.at_ HBx7.out.2.1 (λ h=>h))
     have HHas:=sE (Has_in y H lp lq f' wr (HB7.out.keep hk (λ h=>h) (λ h=>h)) hyH)
     have HSt:=sE (filter_step (p:=λ x=> !f' x) hy)
     clear ho hk hrl hR hy
     go_wp2_with fail
     refine HHas.out.mono ?_
     rintro e w8 ⟨rfl,k8⟩
     have HK8:=sE (HKj.out.then' k8)
     have HO8:=sE (Ag HOj.out k8 (λ _ _ h=>h))
     have hz8:=k8.size
     clear k8
     cases hfy:f' y with
     |true=>
      have HSe:Sl ((Q.take (j+1)).filter (λ x=> !f' x)=R):=⟨by rw[HSt.out,hfy,HR.out];simp⟩
      clear hfy
      go_wp2
      refine⟨⟨j+1,by go_num,by omega,?_,HK8.out⟩,by simp only[intOf];omega⟩
      rw[HSe.out,HRl.out]
      exact HO8.out
     |false=>
      have HSe:Sl ((Q.take (j+1)).filter (λ x=> !f' x)=R++[y]):=⟨by rw[HSt.out,hfy,HR.out];simp⟩
      clear hfy
      go_wp2_with (at_builtin;obtain ⟨i0,hi,hz0,hz1,hz2⟩:=info_parts Ch;go_loud (refine wpList_append_lies _ rfl (.tmp 46) (.tmp 48) 24 rfl B 3 i0 _ 1 8 AU hi hz0 hz1 hz2 rfl (by omega) (.slice ra rl rc) rl (Az R) rfl (HO8.out.alloc _) ⟨w8.heap.size,0,none⟩ 1 1 [.int .i64 (y:Nat)] rfl rfl (World.news_of_block (wN w8 _)) (by intro u hu;simp at hu;subst hu;rfl) (by omega) (by unfold maxLen;omega) (by omega) (by first|(simp;done)|(simp;omega)) (w8.heap.size+1) (by simp) ?_);intro gn capn w9 hown9 hgrow hat hlt;clear hi hz0 hz1 hz2;have HGw:=sE hgrow;have HR9:=sE hown9;clear hown9 hgrow hat hlt)
      have k9:Kp Aa w7 w9:=(HK8.out.alloc _).grown HGw.out (λ k e hk=>by have:=(Ae HO8.out e).1;have:=HBs.out;omega)
      refine⟨⟨j+1,by go_num,by omega,?_,k9⟩,by simp only[intOf];omega⟩
      rw[HSe.out,Az,List.map_append,List.length_append,HRl.out]
      exact HR9.out
    .obtain rfl:j=M:=by omega
     have hjl':¬ (j:Int)<(j:Int):=by omega
     have HRe:Sl (Q.filter (λ x=> !f' x)=R):=⟨by rw[<- HR.out,List.take_of_length_le (by rw[HM.out];omega)]⟩
     clear ho hk hrl hR
     go_wp2
     go_ret
     rw[HKQ.out,HRe.out]
     refine⟨ra,rc,by rw[HRl.out];rfl,?_,HK7.out.then' HKj.out⟩
     rw[HRl.out]
     exact Cu HOj.out hwB

end

end Go.Proofs.YtfkedlgpgmaemaaGreatDoor
