/-
  Lemmas for the laws, together: MarkC.
-/
import Derived.Test.YtfkedlgpgmaemaaGreatDoorQbb
import Derived.Test.YtfkedlgpgmaemaaGreatDoorQam
import Derived.Conc.SmallLaws
import Derived.Test.YtfkedlgpgmaemaaGreatDoorQba
import Derived.Test.YtfkedlgpgmaemaaGreatDoorQah
import Derived.Test.YtfkedlgpgmaemaaGreatDoorQax
set_option linter.unusedVariables false
set_option maxHeartbeats 16000000
namespace Go.Proofs.YtfkedlgpgmaemaaGreatDoor
open Tryz
section
open Go.RowKit Go.Conc

def AO(w:World)(v:Value)(xs:List Nat):Prop:=
 ∃ a cap,v=.slice a xs.length cap/\∀ i x,xs[i]?=some x->∃ b o,a=some ⟨b,o,none⟩/\w.cell? ⟨b,o+i,none⟩=some (.int .i64 (x:Nat))

theorem AO.Ac{w w':World}{v:Value}{xs:List Nat}(h:AO w v xs)(k:Kp Aa w w'):AO w' v xs:=by
 obtain⟨a,cap,hv,h⟩:=h
 exact⟨a,cap,hv,λ i x hx=>by
  obtain⟨b,o,h1,h2⟩:=h i x hx
  exact⟨b,o,h1,k.cell h2 id⟩⟩

def OfCut(w:World)(s mp lim H:Nat)(fs:Nat->Bool)(v:Value)(wx:World):Prop:=
 ∃ mb c sp sq,v=.pointer (some ⟨mb,0,none⟩)/\wx.heap[mb]?=some (.cells #[.pointer (some s),.pointer (some ⟨sp,0,none⟩),.pointer (some mp),.chan (some c),.slice none 0 0,(0:Int),.bool false,(0:Int)] 213 (0,0))/\
  wx.heap[c]?=some (.chan lim #[] false 0 0 false)/\AL wx sp sq fs H/\(w.heap.size<=mb/\w.heap.size<=c/\w.heap.size<=sp/\w.heap.size<=sq)/\(¬ mb=c/\¬ mb=sp/\¬ mb=sq/\¬ c=sp/\¬ c=sq)/\Kp Aa w wx

def DU(f:Nat->Bool)(H:Nat)(ts:List TypR)(W:Nat->Nat)(cs:List Cel)(g:Nat):List Nat:=
 match cs.find? (λ c=>c.tag==1&&c.g==g) with
 |some c=>Fx f H (tgtsC ts W c) (tgtsC ts W c).length
 |none=>[]

def CL(cs:List Cel)(g:Nat):Prop:=∃ c∈cs,c.tag=1/\c.g=g

theorem objG_find{cs:List Cel}{g:Nat}(h:CL cs g):∃ c,cs.find? (λ c=>c.tag==1&&c.g==g)=some c/\c∈cs/\c.tag=1/\c.g=g:=by
 obtain⟨c,h1,h2,h3⟩:=h
 cases hf:cs.find? (λ c=>c.tag==1&&c.g==g) with
 |none=>
  have:=List.find?_eq_none.1 hf c h1
  simp[h2,h3] at this
 |some x=>
  have h4:=List.find?_some hf
  simp only[Bool.and_eq_true,beq_iff_eq] at h4
  exact⟨x,rfl,List.mem_of_find?_eq_some hf,h4.1,h4.2⟩

theorem Fj{cs:List Cel}{g:Nat}:CL cs g ↔ Ak cs g=true:=by
 unfold CL Ak
 simp

theorem kidOf_mem{f:Nat->Bool}{H y k:Nat}(h:k∈kidOf f H y):k<H/\f k=true:=by
 unfold kidOf at h
 obtain⟨z,hz⟩:∃ z,(y-1048576)/2=z:=⟨_,rfl⟩
 rw[hz] at h
 by_cases hcnd:1048576<=y/\y<1114112/\(y-1048576)%2=0/\EH f H (z:Nat)=true
 .rw [if_pos hcnd] at h
  have h5:=hcnd.2.2.2
  unfold EH at h5
  rw[Bool.and_eq_true,decide_eq_true_eq,Int.toNat_natCast] at h5
  have hk:=List.mem_singleton.1 h
  rw[hk]
  exact⟨by omega,h5.2⟩
 .rw [if_neg hcnd] at h
  cases h

theorem tgtsC_len{P:Sp}{W:Nat->Nat}{cs:List Cel}{c:Cel}(hc:CellsAt P W cs)(hm:c∈cs)(ht:c.tag=1):(tgtsC P.ts W c).length<=65536:=by
 unfold tgtsC
 refine Nat.le_trans (tgtL_len _ _ _) ?_
 have h0:∀ o:Option TypR,typeOf P.ts (c.ty:Nat)=o->(match o with|some x=>BP x.k x.wds x.m (c.ln:Nat)|none=>[]).length<=65536:=by
  intro o h
  cases o with
  |none=>exact Nat.zero_le _
  |some x=>exact Nat.le_trans (Eh (M:=x.m) (kind_of (k:=x.k) (wds:=x.wds) (m:=x.m) hc hm ht h)) (by omega)
 exact h0 _ rfl

theorem markCtx{P:Sp}{W:Nat->Nat}{f:Nat->Bool}{cs:List Cel}{w:World}(hsp:SpaceAt w P W f)(hc:CellsAt P W cs)(hst:∀ i,i<P.n/2->f i=Ak cs i)(hms:∀ x∈P.ts,x.m<18446744073709551616)(rs:Nat->Prop){mb c cap base sp sq mp mq:Nat}(h1:w.heap.size<=mb)(h2:w.heap.size<=c)(h3:w.heap.size<=mq)(h4:w.heap.size<=base):
  MCtx (DU f (P.n/2) P.ts W cs) (CL cs) rs mb c cap base (.pointer (some P.s)) sp sq mp mq (P.n/2) f (λ w'=>SpaceAt w' P W f):=by
 have hlt:∀ g,CL cs g->g<P.n/2:=λ g ⟨x,h1,h2,h3⟩=>by
  have:=hc.tl.mem h1
  unfold Cel.fin at this
  omega
 refine⟨λ w1 w2 hs k=>hs.keep k (λ i hi e=>?_),λ g hg w' lv S hs hM=>?_,hlt,λ g hg k hk=>?_,λ g hg=>?_⟩
 .have:=hsp.lt i hi
  omega
 .obtain ⟨x,e1,e2,e3,e4⟩:=objG_find hg
  have:=Kids_at P W f cs x mb c cap base sp sq mp mq (P.n/2) f lv S w' hs hc e2 e3 hms hM
  unfold DU
  rw[e1]
  rw[e4] at this
  exact this
 .obtain ⟨x,e1,e2,e3,e4⟩:=objG_find hg
  unfold DU at hk
  rw[e1] at hk
  unfold Fx at hk
  obtain⟨y,-,hy⟩:=List.mem_flatMap.1 hk
  obtain⟨h5,h6⟩:=kidOf_mem hy
  rw[Fj,<- hst _ h5]
  exact h6
 .obtain ⟨x,e1,e2,e3,e4⟩:=objG_find hg
  unfold DU
  rw[e1]
  exact Nat.le_trans (kidL_len _ _ _ _) (tgtsC_len hc e2 e3)

def MarkOfPost(KF:Nat->List Nat)(T:Nat->Prop)(xs:List Nat)(lim H:Nat)(w:World)(e:Ending)(w':World):Prop:=
 ∃ (mp mq:Nat) (fm:Nat->Bool) (n dp ag:Nat),e=.returned (.tuple #[.pointer (some mp),.agg #[n,dp,ag],(0:Int)])/\
  AL w' mp mq fm H/\n=(List.range H).countP fm/\dp<=lim/\(0<ag->lim<n)/\(∀ g,fm g=true ↔ MReach KF (λ g=>g∈xs) g)/\(∀ g,fm g=true->T g)/\w.heap.size<=mp/\w.heap.size<=mq/\Kp Aa w w'

def muF(mb H:Nat)(w:World):Nat:=
 match w.cell? ⟨mb,6,none⟩,w.cell? ⟨mb,7,none⟩ with
 |some (.bool true),some (.int _ n)=>H+1-n.toNat
 |_,_=>0

theorem muF_at{w:World}{mb c cap base:Nat}{v0:Value}{sp sq mp mq H:Nat}{fs:Nat->Bool}{lv:Value}{S:MS}(h:MarkAt w mb c cap base v0 sp sq mp mq H fs lv S):muF mb H w=if S.full=true then H+1-S.n else 0:=by
 obtain⟨-,-,-,-,-,-,b6,b7⟩:=Cs h.st.blk
 unfold muF
 rw[b6,b7]
 cases S.full <;> simp

theorem cell_in{w:World}{b j:Nat}{v:Value}(h:w.cell? ⟨b,j,none⟩=some v):b<w.heap.size:=by
 by_cases hb:b<w.heap.size
 .exact hb
 .simp [World.cell?,Array.getElem?_eq_none (Nat.le_of_not_lt hb)] at h

theorem MarkAt.other{w w':World}{x mb c cap base:Nat}{v0:Value}{sp sq mp mq H:Nat}{fs:Nat->Bool}{lv:Value}{S:MS}(h:MarkAt w mb c cap base v0 sp sq mp mq H fs lv S)(k:Kp (λ k=>k=x) w w')(hx:base<=x)(ho:∀ b,lv.ownBlock=some b->¬ b=x):MarkAt w' mb c cap base v0 sp sq mp mq H fs lv S:=by
 have a:=h.ap
 have l1:=h.st.mb_lt
 have l2:=h.st.c_lt
 obtain⟨buf,s,r,hc,hs⟩:=h.st.ch
 exact⟨⟨k.at_ h.st.blk (by omega),⟨buf,s,r,k.at_ hc (by omega),hs⟩,Af h.st.row k (λ b hb e=>ho b hb e),h.st.le,h.st.cap_le,h.st.deep_le,h.st.mb_lt,h.st.c_lt,h.st.ne⟩,
  h.sb.keep k (by omega) (by omega),h.mbits.keep k (by omega) (by omega),h.cnt,h.ap,h.ne,Nat.le_trans h.bz k.size⟩

structure OfLoop(KF:Nat->List Nat)(T:Nat->Prop)(xs:List Nat)(mb c lim base:Nat)(v0:Value)(sp sq mp mq H:Nat)(f:Nat->Bool)(I:World->Prop)(w:World)(xb:Nat)(a:Nat)(lv:Value)(S:MS)(wr:World):Prop where
 at_:MarkAt wr mb c lim base v0 sp sq mp mq H f lv S
 inv:MInv KF T (λ g=>g∈xs) lim (λ _=>False) S
 stk:S.stk=[]
 hi:I wr
 own:∀ b,lv.ownBlock=some b->¬ b=xb
 rt:∀ g∈xs,S.f g=true
 kp:Kp Aa w wr
 rc:wr.heap[w.heap.size]?=some (.cells #[(0:Int),(0:Int),(0:Int)] 144 (0,0))
 x:wr.heap[xb]?=some (.cells #[(0:Int),(0:Int),a] 144 (0,0))
 le:S.full=true->a<=S.n
 le1:a<=S.n+1
 gt:0<a->lim<S.n

theorem MInv.init(KF:Nat->List Nat)(T rs:Nat->Prop)(cap:Nat):MInv KF T rs cap (λ _=>False) ⟨λ _=>false,false,0,[],0⟩:=by
 refine⟨?_,?_,Nat.le_refl _,?_,?_⟩
 .intro g e
  cases e
 .intro g e
  cases e
 .intro e
  cases e
 .intro _ g e
  cases e

theorem MInv.all{KF:Nat->List Nat}{T rs:Nat->Prop}{cap:Nat}{S:MS}(h:MInv KF T rs cap (λ _=>False) S)(h1:S.stk=[])(h2:S.full=false)(h3:∀ g,rs g->S.f g=true)(g:Nat):S.f g=true ↔ MReach KF rs g:=by
 refine⟨λ e=>(h.re g e).2,λ e=>?_⟩
 induction e with
 |root hg=>exact h3 _ hg
 |step _ hk ih=>
  rcases h.cl h2 _ ih with e|e|e
  .rw [h1] at e
   cases e
  .exact e.elim
  .exact e _ hk

def MarkAnyPost(KF:Nat->List Nat)(T:Nat->Prop)(zs:List Int)(lim H:Nat)(w:World)(e:Ending)(w':World):Prop:=
 (∃ xs:List Nat,zs=xs.map (λ g:Nat=>(g:Int))/\(∀ g∈xs,T g)/\MarkOfPost KF T xs lim H w e w')\/
 (∃ z∈zs,∀ g:Nat,z=(g:Int)->¬ T g)/\e=.returned (.tuple #[.pointer none,.agg #[(0:Int),(0:Int),(0:Int)],(2:Int)])/\Kp Aa w w'

theorem nats_of_ints{w:World}{v:Value}{xs:List Int}{ns:List Nat}(h:IntsIn w v xs)(hx:xs=ns.map (λ g:Nat=>(g:Int))):AO w v ns:=by
 subst hx
 obtain⟨a,cap,rfl,hc⟩:=h
 refine⟨a,cap,by rw[List.length_map],λ i x hi=>?_⟩
 have hlt:=(gE.1 hi).1
 obtain⟨b,o,h1,h2,h3⟩:=hc i (by rw[List.length_map];exact hlt)
 have h4:=(h3 0 (by omega)).1
 dsimp only at h4
 rw[List.getD_eq_getElem?_getD,List.getElem?_map,hi] at h4
 exact⟨b,o,h1,by rw[show o+i=o+(i*1+0) by omega];exact h4⟩

theorem ints_of_natsIn{w:World}{v:Value}{xs:List Nat}(h:AO w v xs)(hr:∀ x∈xs,x<65536):IntsIn w v (xs.map λ g:Nat=>(g:Int)):=by
 obtain⟨a,c,rfl,hc⟩:=h
 refine⟨a,c,by rw[List.length_map],λ i hi=>?_⟩
 rw[List.length_map] at hi
 have hx:xs[i]?=some xs[i]:=List.getElem?_eq_getElem hi
 obtain⟨b,o,h1,h2⟩:=hc i _ hx
 have h3:=hr _ (List.mem_of_getElem? hx)
 refine⟨b,o,h1,cell_in h2,λ j hj=>?_⟩
 have hd:(xs.map λ g:Nat=>(g:Int)).getD i 0=((xs[i]:Nat):Int):=by
  rw[List.getD_eq_getElem?_getD,List.getElem?_map,hx];rfl
 dsimp only
 rw[show o+(i*1+j)=o+i by omega,hd]
 exact⟨h2,by omega,by omega⟩

theorem nat_row{T:Nat->Prop}:∀ {zs:List Int},(∀ z∈zs,∃ g:Nat,z=(g:Int)/\T g)->∃ xs:List Nat,zs=xs.map (λ g:Nat=>(g:Int))/\∀ g∈xs,T g
 |[],_=>⟨[],rfl,λ _ h=>(by cases h)⟩
 |z::zs,h=>by
  obtain⟨xs,rfl,h1⟩:=nat_row (λ z hz=>h z (List.mem_cons_of_mem _ hz))
  obtain⟨g,rfl,h2⟩:=h z (List.mem_cons_self ..)
  exact⟨g::xs,rfl,λ x hx=>(List.mem_cons.1 hx).elim (λ e=>e▸h2) (h1 x)⟩

theorem mkchan(lim:Nat)(hl:lim<=4096)(w:World):(Instr.makeChan 209 (.int .i64 lim)).run prog w=.ok (.chan (some w.heap.size)) (w.alloc (.chan lim #[] false 0 0 false)):=by
 have h:(prog.info? 298).map (·.bytes)=some 0:=by kernel_rfl
 obtain⟨i,hi,hb⟩:=Option.map_eq_some_iff.1 h
 exact run_makeChan (P:=prog) (w:=w) (t:=209) (dir:=.both) (by kernel_rfl) hi .i64 lim (by omega) (by rw[hb];omega)

set_option maxRecDepth 20000 in
theorem MarkOf_any(P:Sp)(W:Nat->Nat)(f:Nat->Bool)(lim:Nat)(w:World)(cs:List Cel)(hsp:SpaceAt w P W f)(hc:CellsAt P W cs)(hst:∀ i,i<P.n/2->f i=Ak cs i)(hms:∀ x∈P.ts,x.m<18446744073709551616)(h1:1<=lim)(h2:lim<=4096)(v:Value)(zs:List Int)(hx:IntsIn w v zs)(hxl:zs.length<=65536):
  Calls prog 73 #[.pointer (some P.s),lim,v] w (MarkAnyPost (DU f (P.n/2) P.ts W cs) (CL cs) zs lim (P.n/2) w):=by
 have hsm:=hsp.ar.small
 obtain⟨H,hH⟩:∃ H,P.n/2=H:=⟨_,rfl⟩
 have HCx:=sE (λ (xs:List Nat) mb c base sp sq mp mq=>markCtx hsp hc hst hms (λ g=>g∈xs) (mb:=mb) (c:=c) (cap:=lim) (base:=base) (sp:=sp) (sq:=sq) (mp:=mp) (mq:=mq))
 have HXo:Sl (∀ i:Int,EH f (P.n/2) i=true ↔ ∃ g:Nat,i=(g:Int)/\CL cs g):=⟨λ i=>by
  unfold EH
  rw[Bool.and_eq_true,decide_eq_true_eq]
  constructor
  .rintro ⟨⟨h1,h2⟩,h3⟩
   refine⟨i.toNat,by omega,?_⟩
   rw[hst _ (by omega)] at h3
   exact Fj.2 h3
  .rintro ⟨g,rfl,h⟩
   have h4:g<P.n/2:=by
    obtain⟨x,e1,e2,e3⟩:=h
    have:=hc.tl.mem e1
    unfold Cel.fin at this
    omega
   refine⟨by omega,?_⟩
   rw[Int.toNat_natCast,hst _ h4]
   exact Fj.1 h⟩
 have HLim:Sl (lim<=4096/\1<=lim):=⟨h2,h1⟩
 obtain⟨KF,hKF⟩:∃ KF,DU f (P.n/2) P.ts W cs=KF:=⟨_,rfl⟩
 obtain⟨T,hTq⟩:∃ T,CL cs=T:=⟨_,rfl⟩
 rw[hKF,hTq] at HCx ⊢
 rw[hTq] at HXo
 rw[hH] at HCx HXo ⊢
 have HSp:=sE hsp
 have HX:=sE hx
 have HG:Sl (∀ W',Kp Aa w W'->Calls prog 89 #[.pointer (some P.s)] W' λ e w'=>e=.returned (.int .i64 (H:Nat))/\w'=W'):=⟨λ W' kk=>by
  have:=Gran_at P W f W' (hsp.Ac kk)
  rwa [hH] at this⟩
 have HN:Sl (∀ W',Calls prog 106 #[.int .i64 (H:Nat)] W' λ e w'=>∃ p q,e=.returned (.tuple #[.pointer (some ⟨p,0,none⟩),(0:Int)])/\W'.heap.size<=p/\W'.heap.size<=q/\AL w' p q (λ _=>false) H/\Kp Aa W' w'):=⟨λ W'=>New_yes H W' (by omega)⟩
 have HSt:Sl (∀ W',Kp Aa w W'->Calls prog 122 #[.pointer (some P.s)] W' λ e w'=>∃ p q,e=.returned (.pointer (some ⟨p,0,none⟩))/\W'.heap.size<=p/\W'.heap.size<=q/\AL w' p q f H/\Kp Aa W' w'):=⟨λ W' kk=>by
  have:=Starts_at P W f W' (hsp.Ac kk)
  rwa [hH] at this⟩
 have HMk:∀ W',(Instr.makeChan 209 (.int .i64 lim)).run prog W'=.ok (.chan (some W'.heap.size)) (W'.alloc (.chan lim #[] false 0 0 false)):=λ W'=>mkchan lim h2 W'
 have d1:decide ((lim:Int)<1)=false:=dF (by omega)
 have d2:decide ((4096:Int)<(lim:Int))=false:=dF (by omega)
 obtain⟨w1,hw1⟩:∃ w1,w1=w.alloc (.cells #[(0:Int),(0:Int),(0:Int)] 144):=⟨_,rfl⟩
 have k1:Kp Aa w w1:=by rw[hw1];exact (Kr _ w).alloc _
 have b1:w1.heap[w.heap.size]?=some (.cells #[(0:Int),(0:Int),(0:Int)] 144 (0,0)):=by rw[hw1];exact wN w _
 have HK1:=sE k1
 have HB1:=sE b1
 clear hsp hx hH hsm h1 h2 k1 b1 hc hst hms hKF hTq
 obtain⟨va,vc,rfl,hzs⟩:=id HX.o
 have HZs:=sE hzs
 clear hzs
 obtain⟨L,hL⟩:∃ L,zs.length=L:=⟨_,rfl⟩
 rw[hL] at HX hxl ⊢
 have HL:=sE hL
 clear hL
 go_enter func73,ntmps73
 go_wp2_with fail
 rw[<- hw1]
 clear hw1
 refine(HG.o _ HK1.o).mono ?_
 rintro e w2 ⟨rfl,rfl⟩
 go_wp2_with fail
 refine(HN.o _).mono ?_
 rintro e w3 ⟨mp,mq,rfl,hmp,hmq,hmb,k3⟩
 have HK3:=sE (HK1.o.then' k3)
 have HMb:=sE hmb
 have HB3:=sE (k3.at_ HB1.o (λ h=>h))
 clear hmb k3
 go_upto_region 8 with fail
 go_cut [11] from 37 to 46 (λ z wx=>OfCut w3 P.s mp lim H f z wx)
 case first=>
  have kk0:Kp Aa w3 w3.drew:=(Kr _ _).drew
  refine wp_region_held_drew (S:=(λ _=>True)) (by kernel_rfl) ?_ (λ qZ=>?_)
  .trivial
  refine Ap 0 ?_;refine Ap 1 ?_;refine Ap 3 ?_;refine Ap 4 ?_
  try simp only[AB]
  refine Bp [2,5] ?_
  refine Ai rfl (λ K hK=>?_) ?_
  .go_simp
   with_reducible refine(HSt.o _ (HK3.o.then' kk0)).mono ?_
   rintro e wa ⟨sp,sq,rfl,hsp,hsq,hsb,ka⟩
   have kk1:=kk0.then' ka
   refine hK _ _ ?_ (λ qZ=>?_)
   .trivial
   clear hK K
   try simp only[AB]
   refine Bp [5] ?_
   refine Ag rfl (λ K hK=>?_)
   go_simp
   obtain⟨wb,hwb⟩:∃ wb,wb=wa.alloc (.chan lim #[] false 0 0 false):=⟨_,rfl⟩
   rw[<- hwb]
   have kb:Kp Aa wa wb:=by rw[hwb];exact (Kr _ _).alloc _
   have hbc:wb.heap[wa.heap.size]?=some (.chan lim #[] false 0 0 false):=by rw[hwb];exact wN _ _
   have HZb:Sl (wb.heap.size=wa.heap.size+1):=⟨by rw[hwb];simp⟩
   clear hwb
   refine hK _ _ ?_ (λ qZ=>?_)
   .trivial
   clear hK K
   try simp only[AB]
   refine Ap 6 ?_;refine Ap 7 ?_
   try simp only[AB]
   refine Bp [8] ?_
   refine Ag rfl (λ K hK=>?_)
   go_simp
   obtain⟨wd,hwd⟩:∃ wd,wd=World.alloc wb (.cells #[.pointer (some P.s),.pointer (some sp),.pointer (some mp),.chan (some wa.heap.size),.slice none 0 0,(0:Int),.bool false,(0:Int)] 213):=⟨_,rfl⟩
   rw[<- hwd]
   have kd:Kp Aa wb wd:=by rw[hwd];exact (Kr _ _).alloc _
   have hbd:wd.heap[wb.heap.size]?=some (.cells #[.pointer (some P.s),.pointer (some sp),.pointer (some mp),.chan (some wa.heap.size),.slice none 0 0,(0:Int),.bool false,(0:Int)] 213 (0,0)):=by rw[hwd];exact wN _ _
   clear hwd
   refine hK _ _ ?_ (λ qZ=>?_)
   .trivial
   clear hK K
   try simp only[AB]
   refine Ap 9 ?_
   try simp only[AB]
   refine wpAnyH_done (by kernel_rfl) ?_ _
   go_wp2_with fail
   go_meet
   have z1:=kk1.size
   have zb:=HZb.o
   have z2:=ka.size
   have zs:=hsb.lt_p'
   have zq:=hsb.lt_q'
   have z3:=kk0.size
   exact⟨wb.heap.size,wa.heap.size,sp,sq,rfl,hbd,kd.at_ hbc (λ h=>h),(hsb.keep kb (λ h=>h) (λ h=>h)).keep kd (λ h=>h) (λ h=>h),⟨by omega,by omega,by omega,by omega⟩,⟨by omega,by omega,by omega,by omega,by omega⟩,(kk1.then' kb).then' kd⟩
  .refine Ai rfl (λ K hK=>?_) AllReadyH.nil
   go_simp
   obtain⟨wb,hwb⟩:∃ wb,wb=(w3.alloc (.chan lim #[] false 0 0 false)).drew:=⟨_,rfl⟩
   rw[<- hwb]
   have kk1:Kp Aa w3 wb:=by rw[hwb];exact ((Kr _ _).alloc _).drew
   have hbc:wb.heap[w3.heap.size]?=some (.chan lim #[] false 0 0 false):=by rw[hwb];exact wN w3 _
   have HZb:Sl (wb.heap.size=w3.heap.size+1):=⟨by rw[hwb];simp⟩
   clear hwb
   refine hK _ _ ?_ (λ qZ=>?_)
   .trivial
   clear hK K
   try simp only[AB]
   refine Ap 6 ?_
   try simp only[AB]
   refine Bp [2] ?_
   refine Ag rfl (λ K hK=>?_)
   go_simp
   with_reducible refine(HSt.o _ (HK3.o.then' kk1)).mono ?_
   rintro e wa ⟨sp,sq,rfl,hsp,hsq,hsb,ka⟩
   have kk2:=kk1.then' ka
   refine hK _ _ ?_ (λ qZ=>?_)
   .trivial
   clear hK K
   try simp only[AB]
   refine Ap 7 ?_
   try simp only[AB]
   refine Bp [8] ?_
   refine Ag rfl (λ K hK=>?_)
   go_simp
   obtain⟨wd,hwd⟩:∃ wd,wd=World.alloc wa (.cells #[.pointer (some P.s),.pointer (some sp),.pointer (some mp),.chan (some w3.heap.size),.slice none 0 0,(0:Int),.bool false,(0:Int)] 213):=⟨_,rfl⟩
   rw[<- hwd]
   have kd:Kp Aa wa wd:=by rw[hwd];exact (Kr _ _).alloc _
   have hbd:wd.heap[wa.heap.size]?=some (.cells #[.pointer (some P.s),.pointer (some sp),.pointer (some mp),.chan (some w3.heap.size),.slice none 0 0,(0:Int),.bool false,(0:Int)] 213 (0,0)):=by rw[hwd];exact wN _ _
   clear hwd
   refine hK _ _ ?_ (λ qZ=>?_)
   .trivial
   clear hK K
   try simp only[AB]
   refine Ap 9 ?_
   try simp only[AB]
   refine wpAnyH_done (by kernel_rfl) ?_ _
   go_wp2_with fail
   go_meet
   have z1:=kk1.size
   have zb:=HZb.o
   have z2:=ka.size
   have zs:=hsb.lt_p'
   have zq:=hsb.lt_q'
   have z3:=kk0.size
   exact⟨wa.heap.size,w3.heap.size,sp,sq,rfl,hbd,kd.at_ (ka.at_ hbc (λ h=>h)) (λ h=>h),hsb.keep kd (λ h=>h) (λ h=>h),⟨by omega,by omega,by omega,by omega⟩,⟨by omega,by omega,by omega,by omega,by omega⟩,kk2.then' kd⟩
 case rest=>
  obtain⟨mb,c,sp,sq,rfl,hmbk,hck,hsb,hge,hne,kx⟩:=hcut
  have K9:Kp Aa w wc:=HK3.o.then' kx
  have z3:=HK3.o.size
  have z1:=HK1.o.size
  have hlmb:=lZ hmbk
  have hlc:=lZ hck
  have hMb9:=HMb.o.keep kx (λ h=>h) (λ h=>h)
  have HC9s:=sE (λ xs=>HCx.o xs mb c wc.heap.size sp sq mp mq (by omega) (by omega) (by omega) (by omega))
  have hlmp:=HMb.o.lt_p'
  have hlmq:=HMb.o.lt_q'
  have M9:MarkAt wc mb c lim wc.heap.size (.pointer (some P.s)) sp sq mp mq H f (.slice none 0 0) ⟨λ _=>false,false,0,[],0⟩:=
   ⟨⟨hmbk,⟨_,_,_,hck,rfl⟩,World.ownsRow_nil _ _ _ _,Nat.zero_le _,by have:=HLim.o;omega,Nat.zero_le _,hlmb,hlc,hne.1⟩,hsb,hMb9,by simp,⟨hsb.lt_p',hsb.lt_q',hMb9.lt_p',hMb9.lt_q'⟩,
    ⟨hne.2.1,hne.2.2.1,by omega,by omega,hne.2.2.2.1,hne.2.2.2.2,by omega,by omega,by omega,by omega⟩,Nat.le_refl _⟩
  have HI9s:=sE (HSp.o.Ac K9)
  have HM9:=sE M9
  have HK9:=sE K9
  have HRc:=sE (kx.at_ HB3.o (λ h=>h))
  have HGe:Sl (w.heap.size<w2.heap.size/\w2.heap.size<=w3.heap.size/\w3.heap.size<=mb/\w3.heap.size<=c/\w2.heap.size<=mp/\w2.heap.size<=mq):=⟨⟨lZ HB1.o,by omega,hge.1,hge.2.1,hmp,hmq⟩⟩
  have HHas:Sl (∀ (i:Int) W',Kp Aa wc W'->Calls prog 58 #[.pointer (some sp),.int .i64 i] W' (RK (.bool (EH f H i)) W')):=⟨λ i W' kk=>Has_int i H sp sq f W' (hsb.keep kk (λ e=>e) (λ e=>e))⟩
  obtain⟨-,e1,-,-,-,-,-,-⟩:=Cs hmbk
  have HE1:=sE e1
  clear hck hsb hge hne kx K9 z3 z1 hlmb hlc hMb9 hlmp hlmq M9 hmp hmq hmbk e1
  go_wp2_with fail
  go_loopw [13,48] (λ _ x48 wr=>∃ j:Nat,j<=L/\x48=.int .i64 (j:Nat)/\Sl (∀ z∈zs.take j,EH f H z=true)/\Kp Aa wc wr) (λ _ x48 _=>L-(intOf x48).toNat)
  case atStart=>exact ⟨0,Nat.zero_le _,rfl,⟨λ z hz=>by simp at hz⟩,Kr _ _⟩
  case round=>
   obtain⟨j,hj,rfl,HAl,hk⟩:=hrel
   have HK:=sE hk
   by_cases hjl:j<L
   .have hjl':(j:Int)<(L:Int):=by omega
    obtain⟨g,hg⟩:∃ x,zs.getD j 0=x:=⟨_,rfl⟩
    have hxj:zs[j]?=some g:=by
     rw[List.getD_eq_getElem?_getD,List.getElem?_eq_getElem (by rw[HL.o];exact hjl)] at hg
     rw[List.getElem?_eq_getElem (by rw[HL.o];exact hjl),<- hg];rfl
    obtain⟨kb,o,rfl,-,hcell⟩:=HZs.o j (by rw[HL.o];exact hjl)
    replace hcell:=(hcell 0 (by omega)).1
    rw[show o+(j*1+0)=o+j by omega,hg] at hcell
    replace hcell:=(HK9.o.then' hk).cell hcell (λ h=>h)
    have e1:=hk.cell HE1.o (λ h=>h)
    have HHs:=sE (HHas.o g _ hk)
    have HXj:=sE hxj
    clear hk hxj hg
    cases hyes:EH f H g with
    |true=>
     rw[hyes] at HHs
     have HAl2:Sl (∀ z∈zs.take (j+1),EH f H z=true):=⟨λ z hz=>by
      rw[List.take_add_one,HXj.o] at hz
      rcases List.mem_append.1 hz with hz|hz
      .exact HAl.o z hz
      .obtain rfl:z=g:=by simpa using hz
       exact hyes⟩
     clear hyes
     go_wp2_with fail
     refine HHs.o.mono ?_
     rintro e w6 ⟨rfl,k6⟩
     have HK6:=sE (HK.o.then' k6)
     clear k6
     go_wp2
     exact⟨⟨j+1,by omega,by go_num,HAl2,HK6.o⟩,by simp only[intOf];omega⟩
    |false=>
     rw[hyes] at HHs
     have HNo:Sl (∃ z∈zs,∀ g:Nat,z=(g:Int)->¬ T g):=⟨g,List.mem_of_getElem? HXj.o,λ y e ht=>by
      have:=(HXo.o g).2 ⟨y,e,ht⟩
      rw[hyes] at this
      cases this⟩
     clear hyes
     go_wp2_with fail
     refine HHs.o.mono ?_
     rintro e w6 ⟨rfl,k6⟩
     have HK6:Sl (Kp Aa wc w6):=⟨HK.o.then' k6⟩
     clear k6
     have hr6:=HK6.o.at_ HRc.o (λ h=>h)
     have HR6:=sE hr6
     obtain⟨r0,r1,r2⟩:=cells3 hr6
     have frr:=Ab hr6
     have fr0:=frr 0
     have fr1:=frr 1
     have fr2:=frr 2
     clear frr hr6
     go_wp2_with fail
     obtain⟨wZ,hwZ⟩:∃ wZ,wZ=((w6.setCell w.heap.size (.int .i64 0)).setCell ⟨w.heap.size,1,none⟩ (.int .i64 0)).setCell ⟨w.heap.size,2,none⟩ (.int .i64 0):=⟨_,rfl⟩
     have kZ:Kp (λ k=>k=w.heap.size) w6 wZ:=by rw[hwZ];exact (((Kr (λ k=>k=w.heap.size) w6).setCell (λ _=>rfl) _).setCell (λ _=>rfl) _).setCell (λ _=>rfl) _
     have bZ:wZ.heap[w.heap.size]?=some (.cells #[(0:Int),(0:Int),(0:Int)] 144 (0,0)):=by
      rw[hwZ,bZ (bZ (bZ HR6.o _) _) _]
      rfl
     rw[<- hwZ]
     clear hwZ
     obtain⟨z0,z1,z2⟩:=cells3 bZ
     refine bodyPost_ret (v:=.tuple #[.pointer none,.agg #[(0:Int),(0:Int),(0:Int)],(2:Int)]) (by simp[results,results73,go_sem,z0,z1,z2]) rfl ?_
     exact Or.inr ⟨HNo.o,rfl,(HK9.o.then' HK6.o).trans kZ (λ i hi e=>absurd (show i=w.heap.size from e) (by omega))⟩
   .obtain rfl:j=L:=by omega
    obtain⟨xs,hxz,hxo⟩:=nat_row (T:=T) (zs:=zs) λ z hz=>(HXo.o z).1 (HAl.o z (by rw[List.take_of_length_le (by rw[HL.o];omega)];exact hz))
    have HXz:=sE hxz
    have HXo:=sE hxo
    have hxn:=nats_of_ints HX.o hxz
    obtain⟨va',vc',hva,hxs⟩:=hxn
    obtain rfl:va=va':=by injection hva
    have HXs:=sE hxs
    have HL:Sl (xs.length=j):=⟨by rw[<- HL.o,hxz,List.length_map]⟩
    have HC9:=sE (HC9s.o xs)
    clear hxz hxo hva hxs
    have HM6:=sE (MSt.refl (HM9.o.keep hk (λ b e=>e.elim)) (KF:=KF) (T:=T) (rs:=λ g=>g∈xs) (X:=λ _=>False) (I:=λ w'=>SpaceAt w' P W f) (MInv.init KF T (λ g=>g∈xs) lim) (HI9s.o.Ac hk))
    clear hk hjl
    go_wp2_with fail
    go_loopw [15,63] (λ _ x63 wk=>∃ (i:Nat) (lv:Value) (S:MS),i<=j/\x63=.int .i64 (i:Nat)/\MSt KF T (λ g=>g∈xs) mb c lim wc.heap.size (.pointer (some P.s)) sp sq mp mq H f (λ w'=>SpaceAt w' P W f) (λ _=>False) wr (.slice none 0 0) ⟨λ _=>false,false,0,[],0⟩ wk lv S/\(∀ k∈xs.take i,S.f k=true)) (λ _ x63 _=>j-(intOf x63).toNat)
    case atStart=>exact ⟨0,_,_,Nat.zero_le _,rfl,HM6.o,λ k hk=>by simp at hk⟩
    case round=>
     obtain⟨i,lv,S,hi,rfl,hMk,hAll⟩:=hrel
     have HMk:=sE hMk
     have HAll:=sE hAll
     by_cases hil:i<j
     .have hil':(i:Int)<(j:Int):=by omega
      have hxj:xs[i]?=some (xs[i]'(by rw[HL.o];exact hil)):=List.getElem?_eq_getElem _
      obtain⟨g,hg⟩:∃ x,xs[i]'(by rw[HL.o];exact hil)=x:=⟨_,rfl⟩
      rw[hg] at hxj
      obtain⟨kb,o,rfl,hcell⟩:=HXs.o i g hxj
      have hlt:=cell_in hcell
      have hmem:=List.mem_of_getElem? hxj
      replace hcell:=hMk.kp.cell ((HK9.o.then' HK.o).cell hcell (λ h=>h)) (λ e=>by
       have:=HGe.o
       rcases e with e|e|e|e
       .exact absurd (show kb=mb from e) (by omega)
       .exact absurd (show kb=c from e) (by omega)
       .exact absurd (show kb=mq from e) (by omega)
       .cases e)
      have HMrk:=sE (hMk.mark HC9.o (HXo.o g hmem) (MReach.root hmem))
      have HTk:Sl (xs.take (i+1)=xs.take i++[g]):=⟨by rw[List.take_add_one,hxj];rfl⟩
      clear hMk hAll hg hxj hmem hlt
      go_wp2_with fail
      refine HMrk.o.mono ?_
      rintro e w3 ⟨rfl,lv3,S3,hM3,hf3⟩
      have HM3:=sE hM3
      have HF3:=sE hf3
      clear hM3 hf3
      go_wp2_with fail
      exact⟨⟨i+1,lv3,S3,by omega,by go_num,HMk.o.trans HM3.o,λ k hk=>by
       rw[HTk.o] at hk
       rcases List.mem_append.1 hk with hk|hk
       .exact HM3.o.ext.f k (HAll.o k hk)
       .obtain rfl:k=g:=by simpa using hk
        exact HF3.o⟩,by simp only[intOf];omega⟩
     .obtain rfl:i=j:=by omega
      have HDr:=sE (Drain_at HC9.o _ hMk.at_ hMk.inv hMk.hi)
      have HRt:Sl (∀ g∈xs,S.f g=true):=⟨λ g hg=>hAll g (by rw[<- HL.o,List.take_length];exact hg)⟩
      clear hMk hAll hil
      go_wp2_with fail
      refine HDr.o.mono ?_
      rintro e w7 ⟨rfl,lv7,S7,hM7,hs7⟩
      have HM7:=sE (HMk.o.trans hM7)
      have HR7:Sl (∀ g∈xs,S7.f g=true):=⟨λ g hg=>hM7.ext.f g (HRt.o g hg)⟩
      have HS7:=sE hs7
      clear hM7 hs7
      go_wp2_with fail
      obtain⟨xb,hxb⟩:∃ xb,w7.heap.size=xb:=⟨_,rfl⟩
      obtain⟨w8,hw8⟩:∃ w8,w8=w7.alloc (.cells #[(0:Int),(0:Int),(0:Int)] 144):=⟨_,rfl⟩
      have k8:Kp Aa w7 w8:=by rw[hw8];exact (Kr _ _).alloc _
      have b8:w8.heap[xb]?=some (.cells #[(0:Int),(0:Int),(0:Int)] 144 (0,0)):=by rw[hw8,<- hxb];exact wN w7 _
      rw[<- hw8,hxb]
      have hz7:=(HK9.o.then' HK.o).size
      have hz6:=HK.o.size
      have hz71:=HM7.o.kp.size
      have hbase:wc.heap.size<=xb:=by omega
      have hrcl:w.heap.size<wc.heap.size:=by have:=HGe.o;have:=lZ HRc.o;omega
      have HLp:Sl (OfLoop KF T xs mb c lim wc.heap.size (.pointer (some P.s)) sp sq mp mq H f (λ w'=>SpaceAt w' P W f) w xb 0 lv7 S7 w8):=⟨by
       have hM8:=HM7.o.new HC9.o k8
       refine⟨hM8.at_,hM8.inv,HS7.o,hM8.hi,λ b hb e=>?_,HR7.o,?_,?_,b8,λ _=>Nat.zero_le _,Nat.zero_le _,λ e=>absurd e (Nat.lt_irrefl 0)⟩
       .have:=(Ad HM7.o.at_.st.row hb).2
        omega
       .refine (HK9.o.then' HK.o).trans hM8.kp (λ i hi e=>?_)
        have:=HGe.o
        rcases e with e|e|e|e
        .exact absurd e (by omega)
        .exact absurd e (by omega)
        .exact absurd e (by omega)
        .cases e
       .refine hM8.kp.at_ (HK.o.at_ HRc.o (λ h=>h)) (λ e=>?_)
        have:=HGe.o
        rcases e with e|e|e|e
        .omega
        .omega
        .omega
        .cases e⟩
      have HXb:=sE hbase
      have HXw:Sl (w.heap.size<xb):=⟨by omega⟩
      clear hw8 k8 b8 hxb hz7 hz6 hz71 hbase hrcl
      go_loopw [77] (λ _ wl=>∃ (a:Nat) (lv:Value) (S:MS),OfLoop KF T xs mb c lim wc.heap.size (.pointer (some P.s)) sp sq mp mq H f (λ w'=>SpaceAt w' P W f) w xb a lv S wl) (λ _ wl=>muF mb H wl)
      case atStart=>exact ⟨0,lv7,S7,HLp.o⟩
      case round=>
       obtain⟨a,lv,S,hL⟩:=hrel
       have HLo:=sE hL
       obtain⟨-,-,-,-,-,b5,b6,b7⟩:=Cs hL.at_.st.blk
       obtain⟨x0,x1,x2⟩:=cells3 hL.x
       have f2:=Ab hL.x 2
       have hn:=hL.at_.n_le
       have hH6:=hL.at_.mbits.FQ
       have ha1:=hL.le1
       have hmu:=muF_at hL.at_
       have HMu:=sE hmu
       clear hmu
       cases hfl:S.full with
       |true=>
        have ha:=hL.le hfl
        have HFl:=sE hfl
        obtain⟨w9,hw9⟩:∃ w9,w9=wr.setCell ⟨xb,2,none⟩ (.int .i64 ((a:Int)+1)):=⟨_,rfl⟩
        have k9:Kp (λ k=>k=xb) wr w9:=by rw[hw9];exact (Kr (λ k=>k=xb) wr).setCell (λ _=>rfl) _
        have b9:w9.heap[xb]?=some (.cells #[(0:Int),(0:Int),.int .i64 ((a+1:Nat):Int)] 144 (0,0)):=by
         rw[hw9,bZ hL.x]
         rfl
        have hM9:=hL.at_.other k9 HXb.o hL.own
        have hI9:SpaceAt w9 P W f:=hL.hi.keep k9 (λ i hi e=>by
         have:=HSp.o.lt i hi
         have:=HXw.o
         omega)
        have HAg:=sE (Again_at HC9.o w9 hM9 hL.inv hI9 hL.stk)
        have HB9:=sE b9
        have HK9':=sE k9
        rw[hfl] at b6
        clear hfl hL k9 b9 hM9 hI9
        go_wp2_with fail
        rw[<- hw9]
        clear hw9
        have HK9n:Sl (Kp Aa w w9):=⟨HLo.o.kp.trans HK9'.o (λ i hi e=>absurd (show i=xb from e) (by have:=HXw.o;omega))⟩
        refine HAg.o.mono ?_
        rintro e w10 ⟨rfl,lv',S',hM',hs'⟩
        have hz9:=HK9'.o.size
        have hxbl:=lZ HLo.o.x
        have hb:=HLo.o.at_.st.mb_lt
        have hcb:=HLo.o.at_.st.c_lt
        have hmq:=HLo.o.at_.ap.2.2.2
        have hNx:¬ MarkS mb c mq lv xb:=λ e=>by
         have:=HXb.o
         rcases e with e|e|e|e
         .omega
         .omega
         .omega
         .exact HLo.o.own xb e rfl
        have hNr:¬ MarkS mb c mq lv w.heap.size:=λ e=>by
         have:=HGe.o
         rcases e with e|e|e|e
         .omega
         .omega
         .omega
         .have:=HLo.o.at_.ge e
          have:=HXw.o
          have:=hM'.at_.st.mb_lt
          omega
        have hNo:∀ i,i<w.heap.size->¬ MarkS mb c mq lv i:=λ i hi e=>by
         have:=HGe.o
         rcases e with e|e|e|e
         .omega
         .omega
         .omega
         .have:=HLo.o.at_.ge e
          omega
        have hex:=hM'.ext
        have hnl:S.n<=S'.n:=hex.n
        have hdn:S'.full=true->S.n<S'.n:=λ e=>by
         rcases hex.dn e with h|h
         .cases h
         .exact h
        have hgt:=HLo.o.inv.fl HFl.o
        have hLn:OfLoop KF T xs mb c lim wc.heap.size (.pointer (some P.s)) sp sq mp mq H f (λ w'=>SpaceAt w' P W f) w xb (a+1) lv' S' w10:=by
         refine⟨hM'.at_,hM'.inv,hs',hM'.hi,λ b hb e=>?_,λ g hg=>hex.f g (HLo.o.rt g hg),HK9n.o.trans hM'.kp (λ i hi e=>absurd e (hNo i hi)),?_,hM'.kp.at_ HB9.o hNx,λ e=>?_,?_,λ _=>?_⟩
         .rcases hM'.own b hb with h|h
          .exact HLo.o.own b h e
          .omega
         .exact hM'.kp.at_ (HK9'.o.at_ HLo.o.rc (λ e=>absurd (show w.heap.size=xb from e) (by have:=HXw.o;omega))) hNr
         .have:=hdn e
          omega
         .omega
         .omega
        have hmu:=muF_at hM'.at_
        have hn':=hM'.at_.n_le
        go_wp2_with fail
        refine⟨⟨a+1,lv',S',hLn⟩,?_⟩
        rw[hmu,HMu.o,HFl.o]
        by_cases hf':S'.full=true
        .have:=hdn hf'
         rw[if_pos hf',if_pos rfl]
         omega
        .rw [if_neg hf',if_pos rfl]
         omega
       |false=>
        rw[hfl] at b6
        have HFl:=sE hfl
        have HAn:=sE (hL.inv.all hL.stk hfl hL.rt)
        have g0:=Ab hL.x 0
        have g1:=Ab hL.x 1
        clear hL hfl
        go_wp2_with fail
        go_region
        obtain⟨wA,hwA⟩:∃ wA,wA=((wr.setCell ⟨xb,0,none⟩ (.int .i64 S.n)).setCell ⟨xb,1,none⟩ (.int .i64 S.deep)).drew:=⟨_,rfl⟩
        have kA:Kp (λ k=>k=xb) wr wA:=by rw[hwA];exact (((Kr (λ k=>k=xb) wr).setCell (λ _=>rfl) _).setCell (λ _=>rfl) _).drew
        have bA:wA.heap[xb]?=some (.cells #[S.n,S.deep,a] 144 (0,0)):=by
         rw[hwA]
         show((wr.setCell ⟨xb,0,none⟩ (.int .i64 S.n)).setCell ⟨xb,1,none⟩ (.int .i64 S.deep)).heap[xb]?=_
         rw[bZ (bZ HLo.o.x _) _]
         rfl
        rw[<- hwA]
        have hrA:=kA.at_ HLo.o.rc (λ e=>absurd (show w.heap.size=xb from e) (by have:=HXw.o;omega))
        clear hwA x0 x1 x2 b5 b6 b7 f2 g0 g1
        obtain⟨x0,x1,x2⟩:=cells3 bA
        obtain⟨r0,r1,r2⟩:=cells3 hrA
        have HRA:=sE hrA
        have HKA:=sE kA
        have frr:=Ab hrA
        have fr0:=frr 0
        have fr1:=frr 1
        have fr2:=frr 2
        clear frr bA hrA kA
        go_wp2_with fail
        go_region
        obtain⟨wZ,hwZ⟩:∃ wZ,wZ=(((wA.setCell w.heap.size (.int .i64 S.n)).setCell ⟨w.heap.size,1,none⟩ (.int .i64 S.deep)).setCell ⟨w.heap.size,2,none⟩ (.int .i64 a)).drew:=⟨_,rfl⟩
        have kZ:Kp (λ k=>k=w.heap.size) wA wZ:=by rw[hwZ];exact ((((Kr (λ k=>k=w.heap.size) wA).setCell (λ _=>rfl) _).setCell (λ _=>rfl) _).setCell (λ _=>rfl) _).drew
        have bZ:wZ.heap[w.heap.size]?=some (.cells #[S.n,S.deep,a] 144 (0,0)):=by
         rw[hwZ]
         show(((wA.setCell w.heap.size (.int .i64 S.n)).setCell ⟨w.heap.size,1,none⟩ (.int .i64 S.deep)).setCell ⟨w.heap.size,2,none⟩ (.int .i64 a)).heap[w.heap.size]?=_
         rw[bZ (bZ (bZ HRA.o _) _) _]
         rfl
        rw[<- hwZ]
        clear hwZ r0 r1 r2 x0 x1 x2 fr0 fr1 fr2
        obtain⟨z0,z1,z2⟩:=cells3 bZ
        have hGe:=HGe.o
        have hXb:=HXb.o
        have hXw:=HXw.o
        have hap:=HLo.o.at_.ap
        have HKZ:=sE kZ
        clear kZ bZ
        go_wp2_with fail
        refine bodyPost_ret (v:=.tuple #[.pointer (some mp),.agg #[S.n,S.deep,a],(0:Int)]) (by simp[results,results73,go_sem,z0,z1,z2]) rfl ?_
        refine .inl ⟨xs,HXz.o,HXo.o,?_⟩
        refine⟨mp,mq,S.f,S.n,S.deep,a,rfl,?_,HLo.o.at_.cnt,HLo.o.at_.st.deep_le,HLo.o.gt,HAn.o,λ g hg=>(HLo.o.inv.re g hg).1,by omega,by omega,?_⟩
        .exact (HLo.o.at_.mbits.keep HKA.o (by omega) (by omega)).keep HKZ.o (by omega) (by omega)
        .exact (HLo.o.kp.trans HKA.o (λ i hi e=>absurd (show i=xb from e) (by omega))).trans HKZ.o (λ i hi e=>absurd (show i=w.heap.size from e) (by omega))

theorem MarkOf_at(P:Sp)(W:Nat->Nat)(f:Nat->Bool)(lim:Nat)(w:World)(cs:List Cel)(hsp:SpaceAt w P W f)(hc:CellsAt P W cs)(hst:∀ i,i<P.n/2->f i=Ak cs i)(hms:∀ x∈P.ts,x.m<18446744073709551616)(h1:1<=lim)(h2:lim<=4096)(v:Value)(xs:List Nat)(hx:AO w v xs)(hxo:∀ g∈xs,CL cs g)(hxl:xs.length<=65536):
  Calls prog 73 #[.pointer (some P.s),lim,v] w (MarkOfPost (DU f (P.n/2) P.ts W cs) (CL cs) xs lim (P.n/2) w):=by
 have hs:=hsp.bt.FQ
 have hlt:∀ g∈xs,g<65536:=λ g hg=>by
  obtain⟨x,e1,e2,e3⟩:=hxo g hg
  have:=hc.tl.mem e1
  unfold Cel.fin at this
  omega
 refine(MarkOf_any P W f lim w cs hsp hc hst hms h1 h2 v _ (ints_of_natsIn hx hlt) (by rw[List.length_map];exact hxl)).mono ?_
 rintro e w' (⟨ys,h3,-,h4⟩|⟨⟨z,hz,h3⟩,-⟩)
 .obtain rfl:xs=ys:=(List.map_inj_right (λ _ _ h=>Int.ofNat.inj h)).1 h3
  exact h4
 .obtain ⟨g,hg,rfl⟩:=List.mem_map.1 hz
  exact absurd (hxo g hg) (h3 g rfl)

open Go.RowKit

def setL(f:Nat->Bool)(j:Nat):List Nat:=(List.range j).filter f

theorem setL_len(f:Nat->Bool)(j:Nat):(setL f j).length<=j:=by
 unfold setL
 exact Nat.le_trans (List.length_filter_le _ _) (by simp)

def BytesIn(w:World)(v:Value)(n:Nat)(ys:Nat->Nat):Prop:=
 ∃ a cap,v=.slice a n cap/\∀ i,i<n->∃ b o,a=some ⟨b,o,none⟩/\w.cell? ⟨b,o+i,none⟩=some (.int .u8 (ys i:Nat))/\ys i<256

theorem BytesIn.Ac{w w':World}{v:Value}{n:Nat}{ys:Nat->Nat}(h:BytesIn w v n ys)(k:Kp Aa w w'):BytesIn w' v n ys:=by
 obtain⟨a,cap,hv,h⟩:=h
 exact⟨a,cap,hv,λ i hi=>by
  obtain⟨b,o,h1,h2,h3⟩:=h i hi
  exact⟨b,o,h1,k.cell h2 id,h3⟩⟩

def CR(os:List Cel)(ys:Nat->Nat)(j:Nat):List Nat:=(List.range j).map λ i=>(os[ys i%os.length]?.map Cel.g).getD 0

theorem rootsL_succ{os:List Cel}{ys:Nat->Nat}{j:Nat}{x:Cel}(h:os[ys j%os.length]?=some x):CR os ys (j+1)=CR os ys j++[x.g]:=by
 unfold CR
 rw[List.range_succ,List.map_append,List.map_singleton,h]
 rfl

theorem rootsL_len(os:List Cel)(ys:Nat->Nat)(j:Nat):(CR os ys j).length=j:=by simp[CR]

def BD(os:List Cel)(ys:Nat->Nat)(n:Nat):List Nat:=if os=[] then [] else CR os ys n

theorem Roots20_at(P:Sp)(cs:List Cel)(w:World)(h:SpaceHas w P cs)(hne:cs≠[])(v:Value)(n:Nat)(ys:Nat->Nat)(hn:n<=65536)(hv:BytesIn w v n ys):
  Calls prog 11 #[.pointer (some P.s),v] w λ e w'=>∃ a c,e=.returned (.slice a (BD (Aj cs) ys n).length c)/\w'.ownsRow w.heap.size 3 1 (.slice a (BD (Aj cs) ys n).length c) (BD (Aj cs) ys n).length (Az (BD (Aj cs) ys n))/\Kp Aa w w':=by
 have HOb:=sE (Objects_at P cs w h hne)
 have holen:(Aj cs).length<=65536:=by
  obtain⟨W,f,hs,hc,-⟩:=h
  have:=BG hc.tl
  have:=hs.ar.small
  have:(Aj cs).length<=cs.length:=List.length_filter_le _ _
  omega
 obtain⟨va,vc,rfl,hb⟩:=hv
 have HB:=sE hb
 obtain⟨os,hos⟩:∃ os,Aj cs=os:=⟨_,rfl⟩
 rw[hos] at HOb holen ⊢
 clear h hne hb hos
 go_enter func11,ntmps11
 go_wp2_with fail
 refine HOb.o.mono ?_
 rintro e w1 ⟨oa,oc,rfl,hrow,k1⟩
 have HRow:=sE hrow
 have HK1:=sE k1
 have z1:=k1.size
 clear hrow k1 HOb
 obtain⟨B,hB⟩:∃ B,w1.heap.size=B:=⟨_,rfl⟩
 have HBw:=sE hB
 obtain⟨L,hL⟩:∃ L,os.length=L:=⟨_,rfl⟩
 have HL:=sE hL
 rw[hL] at HRow holen
 rw[hB] at z1
 simp only[hL]
 by_cases hos:os=[]
 .have hL0:L=0:=by rw[<- hL,hos];rfl
  subst hL0
  have HRo:Sl (BD os ys n=[]):=⟨by unfold BD;rw [if_pos hos]⟩
  clear hL hos hB
  go_wp2_with fail
  go_loopw [6,7] (λ x6 x7 wr=>x6=.slice none 0 0/\x7=.int .i64 0/\wr=w1) (λ _ _ _=>0)
  case atStart=>exact ⟨rfl,rfl,rfl⟩
  case round=>
   obtain⟨rfl,rfl,rfl⟩:=hrel
   have hend:∃ a c,(Value.slice none 0 0)=.slice a (BD os ys n).length c/\wr.ownsRow w.heap.size 3 1 (.slice a (BD os ys n).length c) (BD os ys n).length (Az (BD os ys n)):=by
    rw[HRo.o]
    exact⟨none,0,rfl,World.ownsRow_nil _ _ _ _⟩
   have HEnd:=sE hend
   clear hend
   clear HB
   go_wp2_with fail
   all_goals go_ret
   all_goals (obtain ⟨a,c,h1,h2⟩:=HEnd.o;exact ⟨a,c,congrArg Ending.returned h1,h2,HK1.o⟩)
 .have hL0:0<L:=by
   rw[<- hL]
   exact List.length_pos_iff.2 hos
  have d0:decide ((0:Int)<(L:Int))=true:=dT (by omega)
  have HRo:Sl (BD os ys n=CR os ys n):=⟨by unfold BD;rw [if_neg hos]⟩
  clear hL hos hB
  go_wp2_with fail
  go_loopw [6,7] (λ x6 x7 wr=>∃ j:Nat,j<=n/\x7=.int .i64 j/\(∃ a m c,x6=.slice a m c)/\wr.ownsRow B 3 1 x6 (CR os ys j).length (Az (CR os ys j))/\Kp Aa w1 wr/\B<=wr.heap.size) (λ _ x7 _=>n-(intOf x7).toNat)
  case atStart=>exact ⟨0,Nat.zero_le _,rfl,⟨_,_,_,rfl⟩,World.ownsRow_nil _ _ _ _,Kr _ _,by have:=HBw.o;omega⟩
  case round=>
   obtain⟨j,hj,rfl,⟨la,ln,lc,rfl⟩,ho,hk,hsz⟩:=hrel
   have HO:=sE ho
   have HK:=sE hk
   by_cases hjl:j<n
   .have hjl':(j:Int)<(n:Int):=by omega
    obtain⟨yb,yo,rfl,hyc,hy⟩:=HB.o j hjl
    have hmod:ys j%L<L:=Nat.mod_lt _ hL0
    have hox:os[ys j%L]?=some (os[ys j%L]'(by rw[HL.o];exact hmod)):=List.getElem?_eq_getElem _
    obtain⟨x,hx⟩:∃ x,os[ys j%L]'(by rw[HL.o];exact hmod)=x:=⟨_,rfl⟩
    rw[hx] at hox
    obtain⟨ra,rcap,hra,hrc⟩:=HRow.o
    injection hra with r1 r2 r3
    subst r1
    obtain⟨rb,rfl,hrl,hcg,-,-,-,-⟩:=hrc _ _ hox
    have HAd:Sl (CR os ys (j+1)=CR os ys j++[x.g]):=⟨rootsL_succ (by rw[HL.o];exact hox)⟩
    have HLn:Sl ((CR os ys j).length<=65536):=⟨by rw[rootsL_len];omega⟩
    replace hyc:=(HK1.o.then' hk).cell hyc id
    replace hcg:=hk.cell hcg id
    obtain⟨y,hyq⟩:∃ y,ys j=y:=⟨_,rfl⟩
    rw[hyq] at hyc hy hmod hcg
    have hrem:(y:Int)%(L:Int)=((y%L:Nat):Int):=by omega
    have hi1:((y%L:Nat):Int)<(L:Int):=by omega
    have hne0:¬ (L:Int)=0:=by omega
    obtain⟨t,ht⟩:∃ t,y%L=t:=⟨_,rfl⟩
    rw[ht] at hrem hi1 hcg hmod
    clear ho hk hox hx hyq ht hrc r2 r3 hrl
    go_wp2_with (at_builtin;obtain ⟨i0,hi,hz0,hz1,hz2⟩:=info_parts Be;go_loud (refine wpList_append_lies _ rfl (.tmp 21) (.tmp 34) 24 rfl B 3 i0 _ 1 8 Ar hi hz0 hz1 hz2 rfl (by omega) (.slice la ln lc) (CR os ys j).length (Az (CR os ys j)) rfl (HO.o.alloc _) ⟨wr.heap.size,0,none⟩ 1 1 [x.g] rfl rfl (World.news_of_block (wN wr _)) (by intro u hu;simp at hu;subst hu;rfl) (by omega) (by have:=HLn.o;unfold maxLen;omega) (by have:=HLn.o;omega) (by simp;omega) (wr.heap.size+1) (by simp) ?_);intro gn capn w5 hown5 hgrow hat hlt;clear hi hz0 hz1 hz2;have HGr:=sE hgrow;have HR5:=sE hown5;clear hown5 hgrow hat)
    have k5:Kp (λ k=>B<=k) wr w5:=((Kr Aa wr).alloc (.cells #[x.g] 3) |>.Aw _).grown HGr.o (λ k e _=>(Ad HO.o e).1)
    have hR:w5.ownsRow B 3 1 (.slice (some ⟨gn,0,none⟩) ((CR os ys j).length+1) capn) (CR os ys (j+1)).length (Az (CR os ys (j+1))):=by
     have:=HR5.o
     rw[HAd.o,Az,List.map_append,List.length_append]
     exact this
    have hz5:=k5.size
    exact⟨⟨j+1,by omega,by go_num,⟨_,_,_,rfl⟩,hR,((HK.o.Aw (λ k=>B<=k)).trans k5 (λ _ _ h=>h)).mono (λ i hi h=>by have:=HBw.o;omega),by omega⟩,by simp only[intOf];omega⟩
   .obtain rfl:j=n:=by omega
    go_wp2_with fail
    go_ret
    obtain⟨a',c',hv⟩:=Aq HO.o
    injection hv with v1 v2 v3
    have:=Cq HO.o z1
    rw[HRo.o]
    rw[v2] at this ⊢
    exact⟨la,lc,rfl,this,HK1.o.then' HK.o⟩

theorem setL_congr{f g:Nat->Bool}{n:Nat}(h:∀ i,i<n->f i=g i):setL f n=setL g n:=by
 unfold setL
 refine List.filter_congr (λ i hi=>h i (List.mem_range.1 hi))

theorem AO.Bc{w:World}{base:Nat}{e:TypeId}{a:Option Addr}{n c:Nat}{xs:List Nat}(h:w.ownsRow base e 1 (.slice a n c) n (Az xs)):AO w (.slice a n c) xs:=by
 have hn:xs.length=n:=by have:=h.1;simpa [Az] using this
 subst hn
 refine⟨a,c,rfl,λ i x hx=>?_⟩
 obtain⟨b,hb,hc⟩:=Cu h hx
 exact⟨b,0,hb,by rw[Nat.zero_add];exact hc⟩

theorem roots_obj{cs:List Cel}{ys:Nat->Nat}{n:Nat}:∀ g∈BD (Aj cs) ys n,CL cs g:=by
 intro g hg
 unfold BD at hg
 by_cases h0:Aj cs=[]
 .rw [if_pos h0] at hg
  cases hg
 .rw [if_neg h0] at hg
  unfold CR at hg
  obtain⟨i,-,hi⟩:=List.mem_map.1 hg
  have hlt:ys i%(Aj cs).length<(Aj cs).length:=Nat.mod_lt _ (List.length_pos_iff.2 h0)
  rw[List.getElem?_eq_getElem hlt] at hi
  have hm:=AX.1 (List.getElem_mem hlt)
  exact⟨_,hm.1,hm.2,hi⟩

theorem rootsOf_len(os:List Cel)(ys:Nat->Nat)(n:Nat):(BD os ys n).length<=n:=by
 unfold BD
 by_cases h:os=[]
 .rw [if_pos h]
  exact Nat.zero_le _
 .rw [if_neg h,rootsL_len]
  exact Nat.le_refl _

section
variable {P:Program}

theorem Ew(w:World)(t ty e:TypeId)(i:TypeInfo)(ht:P.underlying t=some (.slice e))(hi:P.info? e=some i)(base size:Nat)(v:Value)(n:Nat)(xs:List Value)(hown:w.ownsRow base e size v n xs)(c:Nat):
  (Builtin.append_ #[t,t] ty #[v,.slice none 0 c]).run P w=.ok v w:=by
 rcases hown.2 with ⟨rfl,rfl⟩|⟨g,cap,cur,rfl,hbg,hg,hnc,hcm,hcs,htake⟩
 .simp [Builtin.append_,run_underlying ht,sizeOf,typeInfo,hi,Builtin.lenOf,Builtin.firstCells]
 .simp [Builtin.append_,run_underlying ht,sizeOf,typeInfo,hi,Builtin.lenOf,Builtin.firstCells,hnc,storeCells]

theorem run_append_nats(w:World)(t ty e:TypeId)(i:TypeInfo)(ht:P.underlying t=some (.slice e))(hi:P.info? e=some i)(hz:i.zero=some (.int .i64 0))(hsize:i.size=1)(hby:i.bytes=8)
  (base:Nat) (v:Value) (n:Nat) (xs:List Nat) (hown:w.ownsRow base e 1 v n (Az xs)) (u:Value) (ys:List Nat) (hu:AO w u ys) (hle:n+ys.length<=1000000) (hbase:base<=w.heap.size):
  ∃ v' w',(Builtin.append_ #[t,t] ty #[v,u]).run P w=.ok v' w'/\w'.ownsRow base e 1 v' (n+ys.length) (Az (xs++ys))/\w.grownBy w' v.ownBlock:=by
 obtain⟨a,cap,rfl,hy⟩:=hu
 cases a with
 |none=>
  have h0:ys=[]:=by
   cases ys with
   |nil=>rfl
   |cons y ys=>
    obtain⟨b,o,e,-⟩:=hy 0 y rfl
    cases e
  subst h0
  refine⟨v,w,Ew w t ty e i ht hi base 1 v n _ hown cap,?_,⟨rfl,rfl,rfl,Nat.le_refl _,λ _ _ _=>rfl⟩⟩
  rw[List.append_nil]
  exact hown
 |some ad=>
  obtain⟨v',w',hr,h2,h3,_,h5⟩:=run_append_own_at (P:=P) w base t ty e i (.int .i64 0) 1 8 ht hi hz hsize hby rfl (by omega) v n (Az xs) hown ad ys.length cap (Az ys) (by simp[Az])
   (by
    intro j u hj
    unfold Az at hj
    rw[List.getElem?_map] at hj
    obtain⟨y,hyj,rfl⟩:=Option.map_eq_some_iff.1 hj
    obtain⟨b,o,ea,hc⟩:=hy j y hyj
    injection ea with ea
    subst ea
    rw[Addr.add_lit]
    exact hc)
   (by
    intro u hu
    obtain⟨_,_,rfl⟩:=List.mem_map.1 hu
    rfl) (by unfold maxLen;omega) (by omega) hbase
  refine⟨v',w',hr,?_,h3⟩
  rw[Az,List.map_append]
  exact h2

theorem AY(w:World){ops:Array Oper}{rest:List Oper}{o:Oper}{a:Act}{Q:Exit->Act->World->Prop}(hgd:o.guard=none)(s x:Operand)(t:TypeId)
  (ho:o.op=.call {callee:=.builtin .append,args:=#[s,x],argTypes:=#[t,t]}) (e:TypeId) (i:TypeInfo) (ht:P.underlying t=some (.slice e)) (hi:P.info? e=some i) (hz:i.zero=some (.int .i64 0)) (hsize:i.size=1) (hby:i.bytes=8)
  (base:Nat) (v:Value) (n:Nat) (xs:List Nat) (hs:a.eval s=v) (hown:w.ownsRow base e 1 v n (Az xs)) (u:Value) (ys:List Nat) (hx:a.eval x=u) (hu:AO w u ys) (hle:n+ys.length<=1000000) (hbase:base<=w.heap.size)
  (h:∀ v' w',w'.ownsRow base e 1 v' (n+ys.length) (Az (xs++ys))->w.grownBy w' v.ownBlock->wpList P ops Q rest (a.put o.dst v') w'):wpList P ops Q (o::rest) a w:=by
 refine wpList_plain hgd λ K hK=>?_
 obtain⟨v',w',hr,h2,h3⟩:=run_append_nats (P:=P) w t o.type e i ht hi hz hsize hby base v n xs hown u ys hu hle hbase
 unfold Oper.wp execOp
 simp only[ho,resolve,invoke,builtin,Sem.run_bind,Sem.run_pure,Result.andThen_ok,List.map_toArray,List.map_cons,List.map_nil,hs,hx,hr]
 exact hK _ _ (h v' w' h2 h3)

end

theorem natVs_int(xs:List Nat):Az xs=Fb (xs.map λ x:Nat=>(x:Int)):=by simp[Az,Fb]

section
variable {H:Type} {enc:TypeId×Value->H} {P:Program}

theorem u8_wf{n:Int}(h:(Lit.int .u8 n).wf=true):0<=n/\n<256:=by
 have h1:IntKind.u8.min=0:=by decide
 have h2:IntKind.u8.max=255:=by decide
 simp only[Lit.wf,h1,h2,Bool.and_eq_true,decide_eq_true_eq] at h
 omega

theorem u8_nat{n:Int}(h:(Lit.int .u8 n).wf=true):∃ k:Nat,n=(k:Nat)/\k<256:=by
 have:=u8_wf h
 exact⟨n.toNat,by omega,by omega⟩

theorem open_bytes8{w:World}{base:Nat}{held:Bool}{t e:TypeId}{v:Value}{d:DataW H}{ps:List MemPlace}(ht:P.underlying t=some (.slice e))(he:P.underlying e=some (.int .u8))(hc:P.cellsOf e=1)(hv:∃ a len cap,v=.slice a len cap)
  (h:DataW.Trod enc P w base (λ _=>true) held t v d ps):∃ (len:Nat) (f:Nat->Nat),BytesIn w v len f:=by
 obtain⟨fuel,hf⟩:=h
 obtain⟨a0,len0,cap0,rfl⟩:=hv
 rcases Go.ChangeShapes.open_ints ht he hc hf with ⟨hcs,-⟩|⟨a,len,cap,zs,hcs,-,hl,hm,hz,-,hcell,hwz⟩
 .simp only[Value.cells,List.cons.injEq,and_true] at hcs
  injection hcs with h1 h2 h3
  subst h1
  subst h2
  exact⟨0,λ _=>0,none,cap0,rfl,λ i hi=>by omega⟩
 .simp only[Value.cells,List.cons.injEq,and_true] at hcs
  injection hcs with h1 h2 h3
  subst h1
  subst h2
  rw[if_pos rfl] at hz
  refine⟨len0,λ i=>(zs.getD i 0).toNat,some a,cap0,rfl,λ i hi=>?_⟩
  have hi':i<zs.length:=by omega
  have hc:=hcell i hi'
  have hw:=u8_wf (hwz (zs.getD i 0) (by rw[List.getD_eq_getElem?_getD,List.getElem?_eq_getElem hi'];exact List.getElem_mem hi'))
  obtain⟨e1,-⟩:=E9 (hcell 0 (by omega))
  have e2:a=⟨a.block,a.off,none⟩:=by
   obtain⟨b,o,p⟩:=a
   cases p with
   |none=>rfl
   |some q=>simp [Addr.add] at e1
  refine⟨a.block,a.off,by rw[<- e2],?_,by dsimp only;omega⟩
  rw[e2,Addr.add_lit] at hc
  rw[hc,Int.toNat_of_nonneg hw.1]

end

end

end Go.Proofs.YtfkedlgpgmaemaaGreatDoor
