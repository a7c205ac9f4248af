/-
  Lemmas for the laws, together: MarkC.
-/
import Derived.Test.YtfkedlgpgmaemaaGreatDoorQbb
import Derived.Test.YtfkedlgpgmaemaaGreatDoorQam
import Derived.Conc.SmallLaws
import Derived.Test.YtfkedlgpgmaemaaGreatDoorQba
import Derived.Test.YtfkedlgpgmaemaaGreatDoorQah
import Derived.Test.YtfkedlgpgmaemaaGreatDoorQax
set_option linter.unusedVariables false
set_option maxHeartbeats 16000000
namespace Go.Proofs.YtfkedlgpgmaemaaGreatDoor
open Tryz
section
open Go.RowKit Go.Conc

def Bz(w:World)(v:Value)(xs:List Nat):Prop:=
 ∃ a cap,v=.slice a xs.length cap/\∀ i x,xs[i]?=some x->∃ b o,a=some ⟨b,o,none⟩/\w.cell? ⟨b,o+i,none⟩=some (.int .i64 (x:Nat))

theorem Bz.Ad{w w':World}{v:Value}{xs:List Nat}(h:Bz w v xs)(k:Kp Aa w w'):Bz w' v xs:=by
 obtain⟨a,cap,hv,h⟩:=h
 exact⟨a,cap,hv,λ i x hx=>by
  obtain⟨b,o,h1,h2⟩:=h i x hx
  exact⟨b,o,h1,k.cell h2 (λ h=>h)⟩⟩

def OfCut(w:World)(s mp lim H:Nat)(fs:Nat->Bool)(v:Value)(wx:World):Prop:=
 ∃ mb c sp sq,v=.pointer (some ⟨mb,0,none⟩)/\wx.heap[mb]?=some (.cells #[.pointer (some ⟨s,0,none⟩),.pointer (some ⟨sp,0,none⟩),.pointer (some ⟨mp,0,none⟩),.chan (some c),.slice none 0 0,.int .i64 0,.bool false,.int .i64 0] 213 (0,0))/\
  wx.heap[c]?=some (.chan lim #[] false 0 0 false)/\AC wx sp sq fs H/\(w.heap.size<=mb/\w.heap.size<=c/\w.heap.size<=sp/\w.heap.size<=sq)/\(¬ mb=c/\¬ mb=sp/\¬ mb=sq/\¬ c=sp/\¬ c=sq)/\Kp Aa w wx

def Du(f:Nat->Bool)(H:Nat)(ts:List TypR)(W:Nat->Nat)(cs:List Cel)(g:Nat):List Nat:=
 match cs.find? (λ c=>c.tag==1&&c.g==g) with
 |some c=>EK f H (tgtsC ts W c) (tgtsC ts W c).length
 |none=>[]

def De(cs:List Cel)(g:Nat):Prop:=∃ c∈cs,c.tag=1/\c.g=g

theorem objG_find{cs:List Cel}{g:Nat}(h:De cs g):∃ c,cs.find? (λ c=>c.tag==1&&c.g==g)=some c/\c∈cs/\c.tag=1/\c.g=g:=by
 obtain⟨c,h1,h2,h3⟩:=h
 cases hf:cs.find? (λ c=>c.tag==1&&c.g==g) with
 |none=>
  have:=List.find?_eq_none.1 hf c h1
  simp[h2,h3] at this
 |some x=>
  have h4:=List.find?_some hf
  simp only[Bool.and_eq_true,beq_iff_eq] at h4
  exact⟨x,rfl,List.mem_of_find?_eq_some hf,h4.1,h4.2⟩

theorem objG_start{cs:List Cel}{g:Nat}:De cs g ↔ Ap cs g=true:=by
 unfold De Ap
 simp

theorem kidOf_mem{f:Nat->Bool}{H y k:Nat}(h:k∈kidOf f H y):k<H/\f k=true:=by
 unfold kidOf at h
 obtain⟨z,hz⟩:∃ z,(y-1048576)/2=z:=⟨_,rfl⟩
 rw[hz] at h
 by_cases hcnd:1048576<=y/\y<1114112/\(y-1048576)%2=0/\E9 f H (z:Nat)=true
 .rw [if_pos hcnd] at h
  have h5:=hcnd.2.2.2
  unfold E9 at h5
  rw[Bool.and_eq_true,decide_eq_true_eq,Int.toNat_natCast] at h5
  have hk:=List.mem_singleton.1 h
  rw[hk]
  exact⟨by omega,h5.2⟩
 .rw [if_neg hcnd] at h
  cases h

theorem tgtsC_len{P:Sp}{W:Nat->Nat}{cs:List Cel}{c:Cel}(hc:CellsAt P W cs)(hm:c∈cs)(ht:c.tag=1):(tgtsC P.ts W c).length<=65536:=by
 unfold tgtsC
 refine Nat.le_trans (tgtL_len _ _ _) ?_
 have h0:∀ o:Option TypR,typeOf P.ts (c.ty:Nat)=o->(match o with|some x=>BM x.k x.wds x.m (c.ln:Nat)|none=>[]).length<=65536:=by
  intro o h
  cases o with
  |none=>exact Nat.zero_le _
  |some x=>exact Nat.le_trans (DL (M:=x.m) (kind_of (k:=x.k) (wds:=x.wds) (m:=x.m) hc hm ht h)) (by omega)
 exact h0 _ rfl

theorem markCtx{P:Sp}{W:Nat->Nat}{f:Nat->Bool}{cs:List Cel}{w:World}(hsp:SpaceAt w P W f)(hc:CellsAt P W cs)(hst:∀ i,i<P.n/2->f i=Ap cs i)(hms:∀ x∈P.ts,x.m<18446744073709551616)(rs:Nat->Prop){mb c cap base sp sq mp mq:Nat}(h1:w.heap.size<=mb)(h2:w.heap.size<=c)(h3:w.heap.size<=mq)(h4:w.heap.size<=base):
  MCtx (Du f (P.n/2) P.ts W cs) (De cs) rs mb c cap base (.pointer (some ⟨P.s,0,none⟩)) sp sq mp mq (P.n/2) f (λ w'=>SpaceAt w' P W f):=by
 have hlt:∀ g,De cs g->g<P.n/2:=λ g ⟨x,h1,h2,h3⟩=>by
  have:=hc.tl.mem h1
  unfold Cel.fin at this
  omega
 refine⟨λ w1 w2 hs k=>hs.keep k (λ i hi e=>?_),λ g hg w' lv S hs hM=>?_,hlt,λ g hg k hk=>?_,λ g hg=>?_⟩
 .have:=hsp.lt i hi
  omega
 .obtain ⟨x,e1,e2,e3,e4⟩:=objG_find hg
  have:=Kids_at P W f cs x mb c cap base sp sq mp mq (P.n/2) f lv S w' hs hc e2 e3 hms hM
  unfold Du
  rw[e1]
  rw[e4] at this
  exact this
 .obtain ⟨x,e1,e2,e3,e4⟩:=objG_find hg
  unfold Du at hk
  rw[e1] at hk
  unfold EK at hk
  obtain⟨y,-,hy⟩:=List.mem_flatMap.1 hk
  obtain⟨h5,h6⟩:=kidOf_mem hy
  rw[objG_start,<- hst _ h5]
  exact h6
 .obtain ⟨x,e1,e2,e3,e4⟩:=objG_find hg
  unfold Du
  rw[e1]
  exact Nat.le_trans (kidL_len _ _ _ _) (tgtsC_len hc e2 e3)

def MarkOfPost(KF:Nat->List Nat)(T:Nat->Prop)(xs:List Nat)(lim H:Nat)(w:World)(e:Ending)(w':World):Prop:=
 ∃ (mp mq:Nat) (fm:Nat->Bool) (n dp ag:Nat),e=.returned (.tuple #[.pointer (some ⟨mp,0,none⟩),.agg #[.int .i64 (n:Nat),.int .i64 (dp:Nat),.int .i64 (ag:Nat)],.int .i64 0])/\
  AC w' mp mq fm H/\n=(List.range H).countP fm/\dp<=lim/\(0<ag->lim<n)/\(∀ g,fm g=true ↔ MReach KF (λ g=>g∈xs) g)/\(∀ g,fm g=true->T g)/\w.heap.size<=mp/\w.heap.size<=mq/\Kp Aa w w'

def muF(mb H:Nat)(w:World):Nat:=
 match w.cell? ⟨mb,6,none⟩,w.cell? ⟨mb,7,none⟩ with
 |some (.bool true),some (.int _ n)=>H+1-n.toNat
 |_,_=>0

theorem muF_at{w:World}{mb c cap base:Nat}{v0:Value}{sp sq mp mq H:Nat}{fs:Nat->Bool}{lv:Value}{S:MS}(h:MarkAt w mb c cap base v0 sp sq mp mq H fs lv S):muF mb H w=if S.full=true then H+1-S.n else 0:=by
 obtain⟨-,-,-,-,-,-,b6,b7⟩:=Co h.st.blk
 unfold muF
 rw[b6,b7]
 cases S.full <;> simp

theorem cell_in{w:World}{b j:Nat}{v:Value}(h:w.cell? ⟨b,j,none⟩=some v):b<w.heap.size:=by
 by_cases hb:b<w.heap.size
 .exact hb
 .simp [World.cell?,Array.getElem?_eq_none (Nat.le_of_not_lt hb)] at h

theorem MarkAt.other{w w':World}{x mb c cap base:Nat}{v0:Value}{sp sq mp mq H:Nat}{fs:Nat->Bool}{lv:Value}{S:MS}(h:MarkAt w mb c cap base v0 sp sq mp mq H fs lv S)(k:Kp (λ k=>k=x) w w')(hx:base<=x)(ho:∀ b,lv.ownBlock=some b->¬ b=x):MarkAt w' mb c cap base v0 sp sq mp mq H fs lv S:=by
 have a:=h.ap
 have l1:=h.st.mb_lt
 have l2:=h.st.c_lt
 obtain⟨buf,s,r,hc,hs⟩:=h.st.ch
 exact⟨⟨k.at_ h.st.blk (by omega),⟨buf,s,r,k.at_ hc (by omega),hs⟩,Ag h.st.row k (λ b hb e=>ho b hb e),h.st.le,h.st.cap_le,h.st.deep_le,h.st.mb_lt,h.st.c_lt,h.st.ne⟩,
  h.sb.keep k (by omega) (by omega),h.mbits.keep k (by omega) (by omega),h.cnt,h.ap,h.ne,Nat.le_trans h.bz k.size⟩

structure OfLoop(KF:Nat->List Nat)(T:Nat->Prop)(xs:List Nat)(mb c lim base:Nat)(v0:Value)(sp sq mp mq H:Nat)(f:Nat->Bool)(I:World->Prop)(w:World)(xb:Nat)(a:Nat)(lv:Value)(S:MS)(wr:World):Prop where
 at_:MarkAt wr mb c lim base v0 sp sq mp mq H f lv S
 inv:MInv KF T (λ g=>g∈xs) lim (λ _=>False) S
 stk:S.stk=[]
 hi:I wr
 own:∀ b,lv.ownBlock=some b->¬ b=xb
 rt:∀ g∈xs,S.f g=true
 kp:Kp Aa w wr
 rc:wr.heap[w.heap.size]?=some (.cells #[.int .i64 0,.int .i64 0,.int .i64 0] 144 (0,0))
 x:wr.heap[xb]?=some (.cells #[.int .i64 0,.int .i64 0,.int .i64 (a:Nat)] 144 (0,0))
 le:S.full=true->a<=S.n
 le1:a<=S.n+1
 gt:0<a->lim<S.n

theorem MInv.init(KF:Nat->List Nat)(T rs:Nat->Prop)(cap:Nat):MInv KF T rs cap (λ _=>False) ⟨λ _=>false,false,0,[],0⟩:=by
 refine⟨?_,?_,Nat.le_refl _,?_,?_⟩
 .intro g e
  cases e
 .intro g e
  cases e
 .intro e
  cases e
 .intro _ g e
  cases e

theorem MInv.all{KF:Nat->List Nat}{T rs:Nat->Prop}{cap:Nat}{S:MS}(h:MInv KF T rs cap (λ _=>False) S)(h1:S.stk=[])(h2:S.full=false)(h3:∀ g,rs g->S.f g=true)(g:Nat):S.f g=true ↔ MReach KF rs g:=by
 refine⟨λ e=>(h.re g e).2,λ e=>?_⟩
 induction e with
 |root hg=>exact h3 _ hg
 |step _ hk ih=>
  rcases h.cl h2 _ ih with e|e|e
  .rw [h1] at e
   cases e
  .exact e.elim
  .exact e _ hk

theorem mkchan(lim:Nat)(hl:lim<=4096)(w:World):(Instr.makeChan 209 (.int .i64 (lim:Nat))).run prog w=.ok (.chan (some w.heap.size)) (w.alloc (.chan lim #[] false 0 0 false)):=by
 have h:(prog.info? 298).map (·.bytes)=some 0:=by kernel_rfl
 obtain⟨i,hi,hb⟩:=Option.map_eq_some_iff.1 h
 exact run_makeChan (P:=prog) (w:=w) (t:=209) (dir:=.both) (by kernel_rfl) hi .i64 lim (by omega) (by rw[hb];omega)

set_option maxRecDepth 20000 in
theorem MarkOf_at(P:Sp)(W:Nat->Nat)(f:Nat->Bool)(lim:Nat)(w:World)(cs:List Cel)(hsp:SpaceAt w P W f)(hc:CellsAt P W cs)(hst:∀ i,i<P.n/2->f i=Ap cs i)(hms:∀ x∈P.ts,x.m<18446744073709551616)(h1:1<=lim)(h2:lim<=4096)(v:Value)(xs:List Nat)(hx:Bz w v xs)(hxo:∀ g∈xs,De cs g)(hxl:xs.length<=65536):
  Calls prog 73 #[.pointer (some ⟨P.s,0,none⟩),.int .i64 (lim:Nat),v] w (MarkOfPost (Du f (P.n/2) P.ts W cs) (De cs) xs lim (P.n/2) w):=by
 have hsm:=hsp.ar.small
 obtain⟨H,hH⟩:∃ H,P.n/2=H:=⟨_,rfl⟩
 have HCx:=sE (λ mb c base sp sq mp mq=>markCtx hsp hc hst hms (λ g=>g∈xs) (mb:=mb) (c:=c) (cap:=lim) (base:=base) (sp:=sp) (sq:=sq) (mp:=mp) (mq:=mq))
 have HXo:Sl (∀ g∈xs,g<P.n/2/\f g=true/\De cs g):=⟨λ g hg=>by
  have h1:=(HCx.out 0 0 0 0 0 0 0)
  have h3:=hxo g hg
  have h4:g<P.n/2:=by
   obtain⟨x,e1,e2,e3⟩:=h3
   have:=hc.tl.mem e1
   unfold Cel.fin at this
   omega
  exact⟨h4,by rw[hst g h4];exact objG_start.1 h3,h3⟩⟩
 have HLim:Sl (lim<=4096/\1<=lim):=⟨h2,h1⟩
 obtain⟨KF,hKF⟩:∃ KF,Du f (P.n/2) P.ts W cs=KF:=⟨_,rfl⟩
 obtain⟨T,hTq⟩:∃ T,De cs=T:=⟨_,rfl⟩
 rw[hKF,hTq] at HCx ⊢
 rw[hTq] at HXo
 rw[hH] at HCx HXo ⊢
 have HSp:=sE hsp
 have HX:=sE hx
 have HG:Sl (∀ W',Kp Aa w W'->Calls prog 89 #[.pointer (some ⟨P.s,0,none⟩)] W' λ e w'=>e=.returned (.int .i64 (H:Nat))/\w'=W'):=⟨λ W' kk=>by
  have:=EU P W f W' (hsp.Ad kk)
  rwa [hH] at this⟩
 have HN:Sl (∀ W',Calls prog 106 #[.int .i64 (H:Nat)] W' λ e w'=>∃ p q,e=.returned (.tuple #[.pointer (some ⟨p,0,none⟩),.int .i64 0])/\W'.heap.size<=p/\W'.heap.size<=q/\AC w' p q (λ _=>false) H/\Kp Aa W' w'):=⟨λ W'=>New_yes H W' (by omega)⟩
 have HSt:Sl (∀ W',Kp Aa w W'->Calls prog 122 #[.pointer (some ⟨P.s,0,none⟩)] W' λ e w'=>∃ p q,e=.returned (.pointer (some ⟨p,0,none⟩))/\W'.heap.size<=p/\W'.heap.size<=q/\AC w' p q f H/\Kp Aa W' w'):=⟨λ W' kk=>by
  have:=Starts_at P W f W' (hsp.Ad kk)
  rwa [hH] at this⟩
 have HMk:∀ W',(Instr.makeChan 209 (.int .i64 (lim:Nat))).run prog W'=.ok (.chan (some W'.heap.size)) (W'.alloc (.chan lim #[] false 0 0 false)):=λ W'=>mkchan lim h2 W'
 have d1:decide ((lim:Int)<1)=false:=dF (by omega)
 have d2:decide ((4096:Int)<(lim:Int))=false:=dF (by omega)
 obtain⟨w1,hw1⟩:∃ w1,w1=w.alloc (.cells #[.int .i64 0,.int .i64 0,.int .i64 0] 144):=⟨_,rfl⟩
 have k1:Kp Aa w w1:=by rw[hw1];exact (Kr _ w).alloc _
 have b1:w1.heap[w.heap.size]?=some (.cells #[.int .i64 0,.int .i64 0,.int .i64 0] 144 (0,0)):=by rw[hw1];exact wN w _
 have HK1:=sE k1
 have HB1:=sE b1
 clear hsp hx hH hsm h1 h2 k1 b1 hc hst hms hxo hKF hTq
 obtain⟨va,vc,rfl,hxs⟩:=HX.out
 have HXs:=sE hxs
 clear hxs
 obtain⟨L,hL⟩:∃ L,xs.length=L:=⟨_,rfl⟩
 rw[hL] at HX hxl ⊢
 have HL:=sE hL
 clear hL
 go_enter func73,ntmps73
 go_wp2_with fail
 rw[<- hw1]
 clear hw1
 refine(HG.out _ HK1.out).mono ?_
 rintro e w2 ⟨rfl,rfl⟩
 go_wp2_with fail
 refine(HN.out _).mono ?_
 rintro e w3 ⟨mp,mq,rfl,hmp,hmq,hmb,k3⟩
 have HK3:=sE (HK1.out.then' k3)
 have HMb:=sE hmb
 have HB3:=sE (k3.at_ HB1.out (λ h=>h))
 clear hmb k3
 go_upto_region 8 with fail
 go_cut [11] from 37 to 46 (λ z wx=>OfCut w3 P.s mp lim H f z wx)
 case first=>
  have kk0:Kp Aa w3 w3.drew:=(Kr _ _).drew
  refine wp_region_held_drew (S:=(λ _=>True)) (by kernel_rfl) ?_ (λ qZ=>?_)
  .trivial
  refine Ao 0 ?_;refine Ao 1 ?_;refine Ao 3 ?_;refine Ao 4 ?_
  try simp only[Ay]
  refine Bl [2,5] ?_
  refine Aj rfl (λ K hK=>?_) ?_
  .go_simp
   with_reducible refine(HSt.out _ (HK3.out.then' kk0)).mono ?_
   rintro e wa ⟨sp,sq,rfl,hsp,hsq,hsb,ka⟩
   have kk1:=kk0.then' ka
   refine hK _ _ ?_ (λ qZ=>?_)
   .trivial
   clear hK K
   try simp only[Ay]
   refine Bl [5] ?_
   refine Af rfl (λ K hK=>?_)
   go_simp
   obtain⟨wb,hwb⟩:∃ wb,wb=wa.alloc (.chan lim #[] false 0 0 false):=⟨_,rfl⟩
   rw[<- hwb]
   have kb:Kp Aa wa wb:=by rw[hwb];exact (Kr _ _).alloc _
   have hbc:wb.heap[wa.heap.size]?=some (.chan lim #[] false 0 0 false):=by rw[hwb];exact wN _ _
   have HZb:Sl (wb.heap.size=wa.heap.size+1):=⟨by rw[hwb];simp⟩
   clear hwb
   refine hK _ _ ?_ (λ qZ=>?_)
   .trivial
   clear hK K
   try simp only[Ay]
   refine Ao 6 ?_;refine Ao 7 ?_
   try simp only[Ay]
   refine Bl [8] ?_
   refine Af rfl (λ K hK=>?_)
   go_simp
   obtain⟨wd,hwd⟩:∃ wd,wd=World.alloc wb (.cells #[.pointer (some ⟨P.s,0,none⟩),.pointer (some ⟨sp,0,none⟩),.pointer (some ⟨mp,0,none⟩),.chan (some wa.heap.size),.slice none 0 0,.int .i64 0,.bool false,.int .i64 0] 213):=⟨_,rfl⟩
   rw[<- hwd]
   have kd:Kp Aa wb wd:=by rw[hwd];exact (Kr _ _).alloc _
   have hbd:wd.heap[wb.heap.size]?=some (.cells #[.pointer (some ⟨P.s,0,none⟩),.pointer (some ⟨sp,0,none⟩),.pointer (some ⟨mp,0,none⟩),.chan (some wa.heap.size),.slice none 0 0,.int .i64 0,.bool false,.int .i64 0] 213 (0,0)):=by rw[hwd];exact wN _ _
   clear hwd
   refine hK _ _ ?_ (λ qZ=>?_)
   .trivial
   clear hK K
   try simp only[Ay]
   refine Ao 9 ?_
   try simp only[Ay]
   refine wpAnyH_done (by kernel_rfl) ?_ _
   go_wp2_with fail
   go_meet
   have z1:=kk1.size
   have zb:=HZb.out
   have z2:=ka.size
   have zs:=hsb.lt_p'
   have zq:=hsb.lt_q'
   have z3:=kk0.size
   exact⟨wb.heap.size,wa.heap.size,sp,sq,rfl,hbd,kd.at_ hbc (λ h=>h),(hsb.keep kb (λ h=>h) (λ h=>h)).keep kd (λ h=>h) (λ h=>h),⟨by omega,by omega,by omega,by omega⟩,⟨by omega,by omega,by omega,by omega,by omega⟩,(kk1.then' kb).then' kd⟩
  .refine Aj rfl (λ K hK=>?_) AllReadyH.nil
   go_simp
   obtain⟨wb,hwb⟩:∃ wb,wb=(w3.alloc (.chan lim #[] false 0 0 false)).drew:=⟨_,rfl⟩
   rw[<- hwb]
   have kk1:Kp Aa w3 wb:=by rw[hwb];exact ((Kr _ _).alloc _).drew
   have hbc:wb.heap[w3.heap.size]?=some (.chan lim #[] false 0 0 false):=by rw[hwb];exact wN w3 _
   have HZb:Sl (wb.heap.size=w3.heap.size+1):=⟨by rw[hwb];simp⟩
   clear hwb
   refine hK _ _ ?_ (λ qZ=>?_)
   .trivial
   clear hK K
   try simp only[Ay]
   refine Ao 6 ?_
   try simp only[Ay]
   refine Bl [2] ?_
   refine Af rfl (λ K hK=>?_)
   go_simp
   with_reducible refine(HSt.out _ (HK3.out.then' kk1)).mono ?_
   rintro e wa ⟨sp,sq,rfl,hsp,hsq,hsb,ka⟩
   have kk2:=kk1.then' ka
   refine hK _ _ ?_ (λ qZ=>?_)
   .trivial
   clear hK K
   try simp only[Ay]
   refine Ao 7 ?_
   try simp only[Ay]
   refine Bl [8] ?_
   refine Af rfl (λ K hK=>?_)
   go_simp
   obtain⟨wd,hwd⟩:∃ wd,wd=World.alloc wa (.cells #[.pointer (some ⟨P.s,0,none⟩),.pointer (some ⟨sp,0,none⟩),.pointer (some ⟨mp,0,none⟩),.chan (some w3.heap.size),.slice none 0 0,.int .i64 0,.bool false,.int .i64 0] 213):=⟨_,rfl⟩
   rw[<- hwd]
   have kd:Kp Aa wa wd:=by rw[hwd];exact (Kr _ _).alloc _
   have hbd:wd.heap[wa.heap.size]?=some (.cells #[.pointer (some ⟨P.s,0,none⟩),.pointer (some ⟨sp,0,none⟩),.pointer (some ⟨mp,0,none⟩),.chan (some w3.heap.size),.slice none 0 0,.int .i64 0,.bool false,.int .i64 0] 213 (0,0)):=by rw[hwd];exact wN _ _
   clear hwd
   refine hK _ _ ?_ (λ qZ=>?_)
   .trivial
   clear hK K
   try simp only[Ay]
   refine Ao 9 ?_
   try simp only[Ay]
   refine wpAnyH_done (by kernel_rfl) ?_ _
   go_wp2_with fail
   go_meet
   have z1:=kk1.size
   have zb:=HZb.out
   have z2:=ka.size
   have zs:=hsb.lt_p'
   have zq:=hsb.lt_q'
   have z3:=kk0.size
   exact⟨wa.heap.size,w3.heap.size,sp,sq,rfl,hbd,kd.at_ (ka.at_ hbc (λ h=>h)) (λ h=>h),hsb.keep kd (λ h=>h) (λ h=>h),⟨by omega,by omega,by omega,by omega⟩,⟨by omega,by omega,by omega,by omega,by omega⟩,kk2.then' kd⟩
 case rest=>
  obtain⟨mb,c,sp,sq,rfl,hmbk,hck,hsb,hge,hne,kx⟩:=hcut
  have K9:Kp Aa w wc:=HK3.out.then' kx
  have z3:=HK3.out.size
  have z1:=HK1.out.size
  have hlmb:=lZ hmbk
  have hlc:=lZ hck
  have hMb9:=HMb.out.keep kx (λ h=>h) (λ h=>h)
  have C:=HCx.out mb c wc.heap.size sp sq mp mq (by omega) (by omega) (by omega) (by omega)
  have hlmp:=HMb.out.lt_p'
  have hlmq:=HMb.out.lt_q'
  have M9:MarkAt wc mb c lim wc.heap.size (.pointer (some ⟨P.s,0,none⟩)) sp sq mp mq H f (.slice none 0 0) ⟨λ _=>false,false,0,[],0⟩:=
   ⟨⟨hmbk,⟨_,_,_,hck,rfl⟩,World.ownsRow_nil _ _ _ _,Nat.zero_le _,by have:=HLim.out;omega,Nat.zero_le _,hlmb,hlc,hne.1⟩,hsb,hMb9,by simp,⟨hsb.lt_p',hsb.lt_q',hMb9.lt_p',hMb9.lt_q'⟩,
    ⟨hne.2.1,hne.2.2.1,by omega,by omega,hne.2.2.2.1,hne.2.2.2.2,by omega,by omega,by omega,by omega⟩,Nat.le_refl _⟩
  have HI9s:=sE (HSp.out.Ad K9)
  have HM9:=sE M9
  have HC9:=sE C
  have HK9:=sE K9
  have HRc:=sE (kx.at_ HB3.out (λ h=>h))
  have HGe:Sl (w.heap.size<w2.heap.size/\w2.heap.size<=w3.heap.size/\w3.heap.size<=mb/\w3.heap.size<=c/\w2.heap.size<=mp/\w2.heap.size<=mq):=⟨⟨lZ HB1.out,by omega,hge.1,hge.2.1,hmp,hmq⟩⟩
  have HHas:Sl (∀ (i:Int) W',Kp Aa wc W'->Calls prog 58 #[.pointer (some ⟨sp,0,none⟩),.int .i64 i] W' λ e w'=>e=.returned (.bool (E9 f H i))/\Kp Aa W' w'):=⟨λ i W' kk=>Has_int i H sp sq f W' (hsb.keep kk (λ e=>e) (λ e=>e))⟩
  obtain⟨-,e1,-,-,-,-,-,-⟩:=Co hmbk
  have HE1:=sE e1
  clear hck hsb hge hne kx K9 z3 z1 hlmb hlc hMb9 C hlmp hlmq M9 hmp hmq hmbk e1
  go_wp2_with fail
  go_loopw [13,48] (λ _ x48 wr=>∃ j:Nat,j<=L/\x48=.int .i64 (j:Nat)/\Kp Aa wc wr) (λ _ x48 _=>L-(intOf x48).toNat)
  case atStart=>exact ⟨0,Nat.zero_le _,rfl,Kr _ _⟩
  case round=>
   obtain⟨j,hj,rfl,hk⟩:=hrel
   have HK:=sE hk
   by_cases hjl:j<L
   .have hjl':(j:Int)<(L:Int):=by omega
    have hxj:xs[j]?=some (xs[j]'(by rw[HL.out];exact hjl)):=List.getElem?_eq_getElem _
    obtain⟨g,hg⟩:∃ x,xs[j]'(by rw[HL.out];exact hjl)=x:=⟨_,rfl⟩
    rw[hg] at hxj
    obtain⟨kb,o,rfl,hcell⟩:=HXs.out j g hxj
    have hgo:=HXo.out g (List.mem_of_getElem? hxj)
    have hyes:E9 f H ((g:Nat):Int)=true:=by
     unfold E9
     rw[Bool.and_eq_true,decide_eq_true_eq,Int.toNat_natCast]
     exact⟨by omega,hgo.2.1⟩
    replace hcell:=(HK9.out.then' hk).cell hcell (λ h=>h)
    have e1:=hk.cell HE1.out (λ h=>h)
    have HHs:=sE (HHas.out ((g:Nat):Int) _ hk)
    rw[hyes] at HHs
    clear hk hgo hyes hxj hg
    go_wp2_with fail
    refine HHs.out.mono ?_
    rintro e w6 ⟨rfl,k6⟩
    have HK6:=sE (HK.out.then' k6)
    clear k6
    go_wp2
    exact⟨⟨j+1,by omega,by go_num,HK6.out⟩,by simp only[intOf];omega⟩
   .obtain rfl:j=L:=by omega
    have HM6:=sE (MSt.refl (HM9.out.keep hk (λ b e=>e.elim)) (KF:=KF) (T:=T) (rs:=λ g=>g∈xs) (X:=λ _=>False) (I:=λ w'=>SpaceAt w' P W f) (MInv.init KF T (λ g=>g∈xs) lim) (HI9s.out.Ad hk))
    clear hk hjl
    go_wp2_with fail
    go_loopw [15,63] (λ _ x63 wk=>∃ (i:Nat) (lv:Value) (S:MS),i<=j/\x63=.int .i64 (i:Nat)/\MSt KF T (λ g=>g∈xs) mb c lim wc.heap.size (.pointer (some ⟨P.s,0,none⟩)) sp sq mp mq H f (λ w'=>SpaceAt w' P W f) (λ _=>False) wr (.slice none 0 0) ⟨λ _=>false,false,0,[],0⟩ wk lv S/\(∀ k∈xs.take i,S.f k=true)) (λ _ x63 _=>j-(intOf x63).toNat)
    case atStart=>exact ⟨0,_,_,Nat.zero_le _,rfl,HM6.out,λ k hk=>by simp at hk⟩
    case round=>
     obtain⟨i,lv,S,hi,rfl,hMk,hAll⟩:=hrel
     have HMk:=sE hMk
     have HAll:=sE hAll
     by_cases hil:i<j
     .have hil':(i:Int)<(j:Int):=by omega
      have hxj:xs[i]?=some (xs[i]'(by rw[HL.out];exact hil)):=List.getElem?_eq_getElem _
      obtain⟨g,hg⟩:∃ x,xs[i]'(by rw[HL.out];exact hil)=x:=⟨_,rfl⟩
      rw[hg] at hxj
      obtain⟨kb,o,rfl,hcell⟩:=HXs.out i g hxj
      have hlt:=cell_in hcell
      have hmem:=List.mem_of_getElem? hxj
      replace hcell:=hMk.kp.cell ((HK9.out.then' HK.out).cell hcell (λ h=>h)) (λ e=>by
       have:=HGe.out
       rcases e with e|e|e|e
       .exact absurd (show kb=mb from e) (by omega)
       .exact absurd (show kb=c from e) (by omega)
       .exact absurd (show kb=mq from e) (by omega)
       .cases e)
      have HMrk:=sE (hMk.mark HC9.out (HXo.out g hmem).2.2 (MReach.root hmem))
      have HTk:Sl (xs.take (i+1)=xs.take i++[g]):=⟨by rw[List.take_add_one,hxj];rfl⟩
      clear hMk hAll hg hxj hmem hlt
      go_wp2_with fail
      refine HMrk.out.mono ?_
      rintro e w3 ⟨rfl,lv3,S3,hM3,hf3⟩
      have HM3:=sE hM3
      have HF3:=sE hf3
      clear hM3 hf3
      go_wp2_with fail
      exact⟨⟨i+1,lv3,S3,by omega,by go_num,HMk.out.trans HM3.out,λ k hk=>by
       rw[HTk.out] at hk
       rcases List.mem_append.1 hk with hk|hk
       .exact HM3.out.ext.f k (HAll.out k hk)
       .obtain rfl:k=g:=by simpa using hk
        exact HF3.out⟩,by simp only[intOf];omega⟩
     .obtain rfl:i=j:=by omega
      have HDr:=sE (Drain_at HC9.out _ hMk.at_ hMk.inv hMk.hi)
      have HRt:Sl (∀ g∈xs,S.f g=true):=⟨λ g hg=>hAll g (by rw[<- HL.out,List.take_length];exact hg)⟩
      clear hMk hAll hil
      go_wp2_with fail
      refine HDr.out.mono ?_
      rintro e w7 ⟨rfl,lv7,S7,hM7,hs7⟩
      have HM7:=sE (HMk.out.trans hM7)
      have HR7:Sl (∀ g∈xs,S7.f g=true):=⟨λ g hg=>hM7.ext.f g (HRt.out g hg)⟩
      have HS7:=sE hs7
      clear hM7 hs7
      go_wp2_with fail
      obtain⟨xb,hxb⟩:∃ xb,w7.heap.size=xb:=⟨_,rfl⟩
      obtain⟨w8,hw8⟩:∃ w8,w8=w7.alloc (.cells #[.int .i64 0,.int .i64 0,.int .i64 0] 144):=⟨_,rfl⟩
      have k8:Kp Aa w7 w8:=by rw[hw8];exact (Kr _ _).alloc _
      have b8:w8.heap[xb]?=some (.cells #[.int .i64 0,.int .i64 0,.int .i64 0] 144 (0,0)):=by rw[hw8,<- hxb];exact wN w7 _
      rw[<- hw8,hxb]
      have hz7:=(HK9.out.then' HK.out).size
      have hz6:=HK.out.size
      have hz71:=HM7.out.kp.size
      have hbase:wc.heap.size<=xb:=by omega
      have hrcl:w.heap.size<wc.heap.size:=by have:=HGe.out;have:=lZ HRc.out;omega
      have HLp:Sl (OfLoop KF T xs mb c lim wc.heap.size (.pointer (some ⟨P.s,0,none⟩)) sp sq mp mq H f (λ w'=>SpaceAt w' P W f) w xb 0 lv7 S7 w8):=⟨by
       have hM8:=HM7.out.new HC9.out k8
       refine⟨hM8.at_,hM8.inv,HS7.out,hM8.hi,λ b hb e=>?_,HR7.out,?_,?_,b8,λ _=>Nat.zero_le _,Nat.zero_le _,λ e=>absurd e (Nat.lt_irrefl 0)⟩
       .have:=(Ae HM7.out.at_.st.row hb).2
        omega
       .refine (HK9.out.then' HK.out).trans hM8.kp (λ i hi e=>?_)
        have:=HGe.out
        rcases e with e|e|e|e
        .exact absurd e (by omega)
        .exact absurd e (by omega)
        .exact absurd e (by omega)
        .cases e
       .refine hM8.kp.at_ (HK.out.at_ HRc.out (λ h=>h)) (λ e=>?_)
        have:=HGe.out
        rcases e with e|e|e|e
        .omega
        .omega
        .omega
        .cases e⟩
      have HXb:=sE hbase
      have HXw:Sl (w.heap.size<xb):=⟨by omega⟩
      clear hw8 k8 b8 hxb hz7 hz6 hz71 hbase hrcl
      go_loopw [77] (λ _ wl=>∃ (a:Nat) (lv:Value) (S:MS),OfLoop KF T xs mb c lim wc.heap.size (.pointer (some ⟨P.s,0,none⟩)) sp sq mp mq H f (λ w'=>SpaceAt w' P W f) w xb a lv S wl) (λ _ wl=>muF mb H wl)
      case atStart=>exact ⟨0,lv7,S7,HLp.out⟩
      case round=>
       obtain⟨a,lv,S,hL⟩:=hrel
       have HLo:=sE hL
       obtain⟨-,-,-,-,-,b5,b6,b7⟩:=Co hL.at_.st.blk
       obtain⟨x0,x1,x2⟩:=cells3 hL.x
       have f2:=Ab hL.x 2
       have hn:=hL.at_.n_le
       have hH6:=hL.at_.mbits.small'
       have ha1:=hL.le1
       have hmu:=muF_at hL.at_
       have HMu:=sE hmu
       clear hmu
       cases hfl:S.full with
       |true=>
        have ha:=hL.le hfl
        have HFl:=sE hfl
        obtain⟨w9,hw9⟩:∃ w9,w9=wr.setCell ⟨xb,2,none⟩ (.int .i64 ((a:Int)+1)):=⟨_,rfl⟩
        have k9:Kp (λ k=>k=xb) wr w9:=by rw[hw9];exact (Kr (λ k=>k=xb) wr).setCell (λ _=>rfl) _
        have b9:w9.heap[xb]?=some (.cells #[.int .i64 0,.int .i64 0,.int .i64 ((a+1:Nat):Int)] 144 (0,0)):=by
         rw[hw9,bZ hL.x]
         rfl
        have hM9:=hL.at_.other k9 HXb.out hL.own
        have hI9:SpaceAt w9 P W f:=hL.hi.keep k9 (λ i hi e=>by
         have:=HSp.out.lt i hi
         have:=HXw.out
         omega)
        have HAg:=sE (Again_at HC9.out w9 hM9 hL.inv hI9 hL.stk)
        have HB9:=sE b9
        have HK9':=sE k9
        rw[hfl] at b6
        clear hfl hL k9 b9 hM9 hI9
        go_wp2_with fail
        rw[<- hw9]
        clear hw9
        have HK9n:Sl (Kp Aa w w9):=⟨HLo.out.kp.trans HK9'.out (λ i hi e=>absurd (show i=xb from e) (by have:=HXw.out;omega))⟩
        refine HAg.out.mono ?_
        rintro e w10 ⟨rfl,lv',S',hM',hs'⟩
        have hz9:=HK9'.out.size
        have hxbl:=lZ HLo.out.x
        have hb:=HLo.out.at_.st.mb_lt
        have hcb:=HLo.out.at_.st.c_lt
        have hmq:=HLo.out.at_.ap.2.2.2
        have hNx:¬ MarkS mb c mq lv xb:=λ e=>by
         have:=HXb.out
         rcases e with e|e|e|e
         .omega
         .omega
         .omega
         .exact HLo.out.own xb e rfl
        have hNr:¬ MarkS mb c mq lv w.heap.size:=λ e=>by
         have:=HGe.out
         rcases e with e|e|e|e
         .omega
         .omega
         .omega
         .have:=HLo.out.at_.ge e
          have:=HXw.out
          have:=hM'.at_.st.mb_lt
          omega
        have hNo:∀ i,i<w.heap.size->¬ MarkS mb c mq lv i:=λ i hi e=>by
         have:=HGe.out
         rcases e with e|e|e|e
         .omega
         .omega
         .omega
         .have:=HLo.out.at_.ge e
          omega
        have hex:=hM'.ext
        have hnl:S.n<=S'.n:=hex.n
        have hdn:S'.full=true->S.n<S'.n:=λ e=>by
         rcases hex.dn e with h|h
         .cases h
         .exact h
        have hgt:=HLo.out.inv.fl HFl.out
        have hLn:OfLoop KF T xs mb c lim wc.heap.size (.pointer (some ⟨P.s,0,none⟩)) sp sq mp mq H f (λ w'=>SpaceAt w' P W f) w xb (a+1) lv' S' w10:=by
         refine⟨hM'.at_,hM'.inv,hs',hM'.hi,λ b hb e=>?_,λ g hg=>hex.f g (HLo.out.rt g hg),HK9n.out.trans hM'.kp (λ i hi e=>absurd e (hNo i hi)),?_,hM'.kp.at_ HB9.out hNx,λ e=>?_,?_,λ _=>?_⟩
         .rcases hM'.own b hb with h|h
          .exact HLo.out.own b h e
          .omega
         .exact hM'.kp.at_ (HK9'.out.at_ HLo.out.rc (λ e=>absurd (show w.heap.size=xb from e) (by have:=HXw.out;omega))) hNr
         .have:=hdn e
          omega
         .omega
         .omega
        have hmu:=muF_at hM'.at_
        have hn':=hM'.at_.n_le
        go_wp2_with fail
        refine⟨⟨a+1,lv',S',hLn⟩,?_⟩
        rw[hmu,HMu.out,HFl.out]
        by_cases hf':S'.full=true
        .have:=hdn hf'
         rw[if_pos hf',if_pos rfl]
         omega
        .rw [if_neg hf',if_pos rfl]
         omega
       |false=>
        rw[hfl] at b6
        have HFl:=sE hfl
        have HAn:=sE (hL.inv.all hL.stk hfl hL.rt)
        have g0:=Ab hL.x 0
        have g1:=Ab hL.x 1
        clear hL hfl
        go_wp2_with fail
        go_region
        obtain⟨wA,hwA⟩:∃ wA,wA=((wr.setCell ⟨xb,0,none⟩ (.int .i64 (S.n:Nat))).setCell ⟨xb,1,none⟩ (.int .i64 (S.deep:Nat))).drew:=⟨_,rfl⟩
        have kA:Kp (λ k=>k=xb) wr wA:=by rw[hwA];exact (((Kr (λ k=>k=xb) wr).setCell (λ _=>rfl) _).setCell (λ _=>rfl) _).drew
        have bA:wA.heap[xb]?=some (.cells #[.int .i64 (S.n:Nat),.int .i64 (S.deep:Nat),.int .i64 (a:Nat)] 144 (0,0)):=by
         rw[hwA]
         show((wr.setCell ⟨xb,0,none⟩ (.int .i64 (S.n:Nat))).setCell ⟨xb,1,none⟩ (.int .i64 (S.deep:Nat))).heap[xb]?=_
         rw[bZ (bZ HLo.out.x _) _]
         rfl
        rw[<- hwA]
        have hrA:=kA.at_ HLo.out.rc (λ e=>absurd (show w.heap.size=xb from e) (by have:=HXw.out;omega))
        clear hwA x0 x1 x2 b5 b6 b7 f2 g0 g1
        obtain⟨x0,x1,x2⟩:=cells3 bA
        obtain⟨r0,r1,r2⟩:=cells3 hrA
        have HRA:=sE hrA
        have HKA:=sE kA
        have frr:=Ab hrA
        have fr0:=frr 0
        have fr1:=frr 1
        have fr2:=frr 2
        clear frr bA hrA kA
        go_wp2_with fail
        go_region
        obtain⟨wZ,hwZ⟩:∃ wZ,wZ=(((wA.setCell ⟨w.heap.size,0,none⟩ (.int .i64 (S.n:Nat))).setCell ⟨w.heap.size,1,none⟩ (.int .i64 (S.deep:Nat))).setCell ⟨w.heap.size,2,none⟩ (.int .i64 (a:Nat))).drew:=⟨_,rfl⟩
        have kZ:Kp (λ k=>k=w.heap.size) wA wZ:=by rw[hwZ];exact ((((Kr (λ k=>k=w.heap.size) wA).setCell (λ _=>rfl) _).setCell (λ _=>rfl) _).setCell (λ _=>rfl) _).drew
        have bZ:wZ.heap[w.heap.size]?=some (.cells #[.int .i64 (S.n:Nat),.int .i64 (S.deep:Nat),.int .i64 (a:Nat)] 144 (0,0)):=by
         rw[hwZ]
         show(((wA.setCell ⟨w.heap.size,0,none⟩ (.int .i64 (S.n:Nat))).setCell ⟨w.heap.size,1,none⟩ (.int .i64 (S.deep:Nat))).setCell ⟨w.heap.size,2,none⟩ (.int .i64 (a:Nat))).heap[w.heap.size]?=_
         rw[bZ (bZ (bZ HRA.out _) _) _]
         rfl
        rw[<- hwZ]
        clear hwZ r0 r1 r2 x0 x1 x2 fr0 fr1 fr2
        obtain⟨z0,z1,z2⟩:=cells3 bZ
        have hGe:=HGe.out
        have hXb:=HXb.out
        have hXw:=HXw.out
        have hap:=HLo.out.at_.ap
        have HKZ:=sE kZ
        clear kZ bZ
        go_wp2_with fail
        refine bodyPost_ret (v:=.tuple #[.pointer (some ⟨mp,0,none⟩),.agg #[.int .i64 (S.n:Nat),.int .i64 (S.deep:Nat),.int .i64 (a:Nat)],.int .i64 0]) (by simp[results,results73,go_sem,z0,z1,z2]) rfl ?_
        refine⟨mp,mq,S.f,S.n,S.deep,a,rfl,?_,HLo.out.at_.cnt,HLo.out.at_.st.deep_le,HLo.out.gt,HAn.out,λ g hg=>(HLo.out.inv.re g hg).1,by omega,by omega,?_⟩
        .exact (HLo.out.at_.mbits.keep HKA.out (by omega) (by omega)).keep HKZ.out (by omega) (by omega)
        .exact (HLo.out.kp.trans HKA.out (λ i hi e=>absurd (show i=xb from e) (by omega))).trans HKZ.out (λ i hi e=>absurd (show i=w.heap.size from e) (by omega))

open Go.RowKit

def Bb(f:Nat->Bool)(j:Nat):List Nat:=(List.range j).filter f

theorem setL_succ(f:Nat->Bool)(j:Nat):Bb f (j+1)=Bb f j++(if f j=true then [j] else []):=by
 unfold Bb
 rw[List.range_succ,List.filter_append]
 congr 1
 by_cases h:f j=true <;> simp[h]

theorem setL_len(f:Nat->Bool)(j:Nat):(Bb f j).length<=j:=by
 unfold Bb
 exact Nat.le_trans (List.length_filter_le _ _) (by simp)

def OfNo(c:Nat)(w:World)(e:Ending)(w':World):Prop:=
 e=.returned (.tuple #[.pointer none,.agg #[.int .i64 0,.int .i64 0,.int .i64 0],.int .i64 (c:Nat)])/\Kp Aa w w'

set_option maxRecDepth 20000 in
theorem MarkOf_nil(lim:Int)(v:Value)(w:World):Calls prog 73 #[.pointer none,.int .i64 lim,v] w (OfNo 1 w):=by
 obtain⟨w1,hw1⟩:∃ w1,w1=w.alloc (.cells #[.int .i64 0,.int .i64 0,.int .i64 0] 144):=⟨_,rfl⟩
 have k1:Kp Aa w w1:=by rw[hw1];exact (Kr _ w).alloc _
 have b1:w1.heap[w.heap.size]?=some (.cells #[.int .i64 0,.int .i64 0,.int .i64 0] 144 (0,0)):=by rw[hw1];exact wN w _
 go_enter func73,ntmps73
 go_wp2_with fail
 rw[<- hw1]
 obtain⟨z0,z1,z2⟩:=cells3 b1
 exact bodyPost_ret (v:=.tuple #[.pointer none,.agg #[.int .i64 0,.int .i64 0,.int .i64 0],.int .i64 1]) (by simp[results,results73,go_sem,z0,z1,z2]) rfl ⟨rfl,k1⟩

theorem Bz.Be{w:World}{base:Nat}{e:TypeId}{a:Option Addr}{n c:Nat}{xs:List Nat}(h:w.ownsRow base e 1 (.slice a n c) n (Az xs)):Bz w (.slice a n c) xs:=by
 have hn:xs.length=n:=by have:=h.1;simpa [Az] using this
 subst hn
 refine⟨a,c,rfl,λ i x hx=>?_⟩
 obtain⟨b,hb,hc⟩:=Cw h hx
 exact⟨b,0,hb,by rw[Nat.zero_add];exact hc⟩

section
variable {P:Program}

theorem run_append_none(w:World)(t ty e:TypeId)(i:TypeInfo)(ht:P.underlying t=some (.slice e))(hi:P.info? e=some i)(base size:Nat)(v:Value)(n:Nat)(xs:List Value)(hown:w.ownsRow base e size v n xs)(c:Nat):
  (Builtin.append_ #[t,t] ty #[v,.slice none 0 c]).run P w=.ok v w:=by
 rcases hown.2 with ⟨rfl,rfl⟩|⟨g,cap,cur,rfl,hbg,hg,hnc,hcm,hcs,htake⟩
 .simp [Builtin.append_,run_underlying ht,sizeOf,typeInfo,hi,Builtin.lenOf,Builtin.firstCells]
 .simp [Builtin.append_,run_underlying ht,sizeOf,typeInfo,hi,Builtin.lenOf,Builtin.firstCells,hnc,storeCells]

end

theorem setL_lt{f:Nat->Bool}{H:Nat}:∀ x∈Bb f H,x<H:=λ x hx=>by
 unfold Bb at hx
 exact List.mem_range.1 (List.mem_filter.1 hx).1

section
variable {H:Type} {enc:TypeId×Value->H} {P:Program}

end

end

end Go.Proofs.YtfkedlgpgmaemaaGreatDoor
