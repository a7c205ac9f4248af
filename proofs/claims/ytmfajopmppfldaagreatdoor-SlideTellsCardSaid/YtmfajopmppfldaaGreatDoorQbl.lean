/-
  Lemmas for the laws, together: TurnDo.
-/
import Derived.Test.YtmfajopmppfldaaGreatDoorQbh
import Derived.Test.YtmfajopmppfldaaGreatDoorQbj
import Derived.Test.YtmfajopmppfldaaGreatDoorQbk
import Derived.Test.YtmfajopmppfldaaGreatDoorQbg
set_option linter.unusedVariables false
set_option maxHeartbeats 16000000
namespace Go.Proofs.YtmfajopmppfldaaGreatDoor
open Go.Proofs.Tryz
section
open Go.RowKit

def CP(B:Nat):List Deferred->World->Prop
 |[],_=>True
 |d::ds,w=>(∃ r,B<=r/\d={target:=.collected r,args:=#[]}/\w.heap[r]?=some (.deferred (some []))/\∀ e∈ds,¬ e=d)/\CP B ds w

theorem CP.keep{B:Nat}{S:Nat->Prop}{w w':World}(k:Kp S w w')(hS:∀ i,S i->i<B):∀ {ds:List Deferred},CP B ds w->CP B ds w'
 |[],_=>trivial
 |d::ds,⟨⟨r,h1,h2,h3,h4⟩,h5⟩=>⟨⟨r,h1,h2,k.at_ h3 (λ h=>by have:=hS r h;omega),h4⟩,CP.keep k hS h5⟩

theorem CP.lt{B:Nat}{w:World}:∀ {ds:List Deferred},CP B ds w->∀ e∈ds,∃ r,e={target:=.collected r,args:=#[]}/\r<w.heap.size
 |d::ds,⟨⟨r,h1,h2,h3,h4⟩,h5⟩,e,he=>by
  rcases List.mem_cons.1 he with rfl|he
  .exact ⟨r,h2,lZ h3⟩
  .exact CP.lt h5 e he

theorem CP.shut{B r:Nat}{w:World}:∀ {ds:List Deferred},CP B ds w->(∀ e∈ds,¬ e={target:=.collected r,args:=#[]})->CP B ds (w.putObj r (.deferred none))
 |[],_,_=>trivial
 |d::ds,⟨⟨q,h1,h2,h3,h4⟩,h5⟩,hn=>⟨⟨q,h1,h2,by
   have:¬ q=r:=λ e=>hn d List.mem_cons_self (by rw[h2,e])
   rw[World.putObj_heap_other this]
   exact h3,h4⟩,CP.shut h5 λ e he=>hn e (List.mem_cons_of_mem _ he)⟩

theorem leaves_marks{F:Fence}{n B:Nat}{P:Program}{fn:Func}{tmps:Array Value}{R:Ending->World->Prop}:∀ {ds:List Deferred} {w:World},CP B ds w->
  (∀ w',Kp (λ k=>B<=k) w w'->(∀ p,w'.cell? p=w.cell? p)->LeavesInM F n P fn tmps R [] .returning w')->LeavesInM F n P fn tmps R ds .returning w
 |[],w,_,h=>h w (Kr _ _) (λ _=>rfl)
 |d::ds,w,⟨⟨r,h1,h2,h3,h4⟩,h5⟩,h=>by
  refine⟨by simp,.inl ⟨r,_,by rw[h2],run_takeDeferred h3,?_⟩⟩
  have h6:=CP.shut (r:=r) h5 λ e he=>by rw[<- h2];exact h4 e he
  refine leaves_marks h6 λ w' k hc=>h w' ?_ λ p=>?_
  .exact ((Kr (λ k=>B<=k) w).putObj (r:=r) (λ _=>h1) _).trans k (λ _ _ h=>h)
  .rw [hc p]
   exact cell_putObj h3 rfl rfl p

theorem twords_fn(b:Nat)(w:World):
  Calls prog 64 #[.agg #[.pointer (some ⟨b,0,none⟩)]] w λ e w'=>
   e=.returned (.func (.func 112) #[] #[.pointer (some ⟨w.heap.size,0,none⟩)])/\w.alloc (.cells #[.pointer (some ⟨b,0,none⟩)] 132)=w':=by
 have hmf:∀ (fn:Fn) (first cap:Array Value) (w:World),(Instr.makeFunc fn first cap).run prog w=.ok (.func fn first cap) w:=λ _ _ _ _=>rfl
 go_enter func64,ntmps64
 go_wp2
 go_ret
 exact⟨rfl,rfl⟩

theorem updW_same(W:Nat->Nat)(k:Nat):BM W k (W k)=W:=funext λ a=>by
 unfold BM
 split
 .rename_i h;rw [h]
 .rfl

theorem turnS_snoc(es:List (Nat×Nat×Nat))(g:Nat)(pre:List Nat)(s:Nat)(W:Nat->Nat)(hn:(pre++[s]).Nodup):Bv es g (pre++[s]) W=BM (Bv es g pre W) (2*g+1+s) (toA es (W (2*g+1+s))):=by
 obtain⟨h1,h2,h3⟩:=List.nodup_append.1 hn
 have:Bv es g pre W (2*g+1+s)=W (2*g+1+s):=by
  rw[turnS_at es g _ h1,if_neg]
  rintro ⟨t,ht,e⟩
  exact h3 t ht s (by simp) (by omega)
 rw[turnS_app,Bv,Bv,this]

theorem cntS_snoc(es:List (Nat×Nat×Nat))(g:Nat)(pre:List Nat)(s:Nat)(W:Nat->Nat)(hn:(pre++[s]).Nodup):Ec es g (pre++[s]) W=Ec es g pre W+(if toA es (W (2*g+1+s))=W (2*g+1+s) then 0 else 1):=by
 obtain⟨h1,h2,h3⟩:=List.nodup_append.1 hn
 have:Bv es g pre W (2*g+1+s)=W (2*g+1+s):=by
  rw[turnS_at es g _ h1,if_neg]
  rintro ⟨t,ht,e⟩
  exact h3 t ht s (by simp) (by omega)
 rw[cntS_app,Ec,Ec,this,Nat.add_zero]

def TrnI(es:List (Nat×Nat×Nat))(P:Sp)(W0:Nat->Nat)(g cn:Nat)(rs:List Nat)(nb:Nat)(wl:World)(pre:List Nat)(S:Nat->Prop)(W':World):Prop:=
 ArenaAt W' P.a P.q (Bv es g pre W0) P.n/\W'.heap[nb]?=some (.cells #[.int .i64 (cn+Ec es g pre W0:Nat)] 3 (0,0))/\(S=λ k=>k=P.a\/k=P.q\/k=nb)/\Kp (λ k=>k=P.a\/k=P.q\/k=nb) wl W'/\pre <+: rs

theorem hsW1{w w':World}{P:Sp}{W:Nat->Nat}{cs:List Cel}(h:Aw w P W cs)(k:Kp Ab w w'):Aw w' P W cs:=by
 obtain⟨f,h1,h2,h3⟩:=h
 exact⟨f,h1.Ad k,h2,h3⟩

theorem rfG_len{P:Sp}{W:Nat->Nat}{cs:List Cel}(h:CellsAt P W cs)(g:Nat):(Eu P.ts cs g).length<=65536:=by
 unfold Eu
 cases hf:cs.find? (λ c=>c.tag==1&&c.g==g) with
 |none=>simp
 |some c=>
  have h1:=List.find?_some hf
  have h2:=List.mem_of_find?_eq_some hf
  simp only[Bool.and_eq_true,beq_iff_eq] at h1
  simp only
  unfold Ct
  cases ht:typeOf P.ts (c.ty:Nat) with
  |none=>simp
  |some x=>
   obtain⟨k,wds,m⟩:=x
   exact El (kind_of h h2 h1.1 ht)

def DoCut(P:Sp)(c:Cel)(wb:World)(x10 x11:Value)(wx:World):Prop:=
 ∃ (hb b:Nat) (k wds:Int) (m:Nat),x10=.pointer (some ⟨hb,0,none⟩)/\x11=.int .i64 0/\wx.heap[hb]?=some (.cells #[.pointer (some ⟨b,0,none⟩)] 44 (0,0))/\BJ wx b P.a c k wds m/\
  (AV k wds m (c.ln:Nat)=0/\m<18446744073709551616/\Ct P.ts c=Ba k wds m (c.ln:Nat)/\2*c.g+1+AR k wds (c.ln:Nat)<=(P.n:Nat))/\Kp Ab wb wx/\wb.heap.size<=b/\wb.heap.size<=hb

theorem SpaceAt.wordsS{S:Nat->Prop}{w w':World}{P:Sp}{W W':Nat->Nat}{f:Nat->Bool}(h:SpaceAt w P W f)(k:Kp S w w')(hS:∀ i,P.all i->S i->i=P.a\/i=P.q)(ar:ArenaAt w' P.a P.q W' P.n):SpaceAt w' P W' f:=by
 have hA:=h.ap.1 P.a (.inl rfl)
 have hQ:=h.ap.1 P.q (.inr (.inl rfl))
 have h1:=h.ap.2.1
 have h2:=h.ap.2.2
 have hn:∀ i,P.all i->¬ i=P.a->¬ i=P.q->¬ S i:=λ i hi n1 n2 hs=>by
  rcases hS i hi hs with e|e
  .exact n1 e
  .exact n2 e
 refine⟨k.at_ h.hs (hn _ (by simp[Sp.all]) ?_ ?_),ar,h.tb.keep k (hn _ (by simp[Sp.all]) ?_ ?_) (hn _ (by simp[Sp.all]) ?_ ?_),h.bt.keep k (hn _ (by simp[Sp.all]) ?_ ?_) (hn _ (by simp[Sp.all]) ?_ ?_),h.fl.keep k (hn _ (by simp[Sp.all]) ?_ ?_),h.ap,h.ev,λ i hi=>Nat.lt_of_lt_of_le (h.lt i hi) k.size⟩ <;> omega

def TDoPost(P:Sp)(W:Nat->Nat)(cs:List Cel)(es:List (Nat×Nat×Nat))(w:World)(e:Ending)(w':World):Prop:=
 e=.returned (.tuple #[.int .i64 (DK es (Eu P.ts cs) es W:Nat),.int .i64 0])/\Aw w' P (BL es (Eu P.ts cs) es W) cs/\Kp (λ k=>k=P.a\/k=P.q) w w'

attribute [local go_sem] Oper.semAt_some

set_option maxRecDepth 20000 in
theorem TDo_at(P:Sp)(W:Nat->Nat)(cs:List Cel)(es:List (Nat×Nat×Nat))(v:Value)(w:World)(hs:Aw w P W cs)(h:Du w v es)(hg:GoodP cs es)(hl:es.length<=32768)(hms:∀ x∈P.ts,x.m<18446744073709551616)(hv:∀ b o l c,v=.slice (some ⟨b,o,none⟩) l c->¬ P.own b):
  Calls prog 28 #[.pointer (some ⟨P.s,0,none⟩),.agg #[v]] w (TDoPost P W cs es w):=by
 have HSp:=sE hs
 have HRo:=sE h
 have HGp:=sE hg
 obtain⟨va,vc,rfl,-⟩:=h
 obtain⟨n,hn⟩:∃ n,es.length=n:=⟨_,rfl⟩
 rw[hn] at HRo hl hv ⊢
 have HN:=sE hn
 obtain⟨f,hsp,hcs,hst⟩:=hs
 have lall:=hsp.lt
 have hsm:=hsp.ar.small
 have HFt:Sl (Cs cs (FB es)):=⟨hg.fits⟩
 have HSm:Sl (∀ x∈es,x.1<=65536/\x.2.1<=65536):=⟨λ x hx=>by
  have:=hg.fit hcs.tl hx
  omega⟩
 obtain⟨B,hB⟩:∃ B,w.heap.size=B:=⟨_,rfl⟩
 have HB:=sE hB
 obtain⟨w1,hw1⟩:∃ w1,w1=(w.alloc (.cells #[.slice va n vc] 33)).alloc (.cells #[.int .i64 0] 3):=⟨_,rfl⟩
 have k1:Kp Ab w w1:=by rw[hw1];exact ((Kr _ w).alloc _).alloc _
 have b0:w1.heap[B]?=some (.cells #[.slice va n vc] 33 (0,0)):=by
  rw[hw1,<- hB]
  exact((Kr Ab _).alloc _).at_ (wN w _) (λ h=>h)
 have b1:w1.heap[B+1]?=some (.cells #[.int .i64 0] 3 (0,0)):=by
  rw[hw1]
  have:=wN (w.alloc (.cells #[.slice va n vc] 33)) (.cells #[.int .i64 0] 3)
  rwa [show (w.alloc (.cells #[.slice va n vc] 33)).heap.size=B+1 by simp[hB]] at this
 have HCk:=sE (TCheck_at P W cs (FB es) (.slice va n vc) w1 (hsW1 HSp.out k1) (HRo.out.Ad k1).rowH (by rw[castS_len,HN.out];omega))
 have HK1:=sE k1
 have Hb0:=sE b0
 have Hb1:=sE b1
 have c0:=cell_of_one b0
 clear hn hg k1 b0 b1 hsp hcs hst
 refine(callsIn_wide (n:=0)).1 ?_
 refine callsIn_of_wp_marks func28 rfl trivial ?_
 simp only[ntmps28,List.size_toArray,List.length_cons,List.length_nil,Nat.reduceAdd,Nat.reduceSub,Array.replicate_succ,Array.replicate_zero,List.push_toArray,List.append_toArray,List.nil_append,List.cons_append]
 gi_wp2_with fail
 rw[<- hw1]
 clear hw1
 try rw[hB]
 refine⟨trivial,rfl,?_⟩
 refine(callsIn_wide.2 HCk.out).mono ?_
 rintro e w2 ⟨(⟨-,rfl⟩|⟨hno,-⟩),k2⟩
 case inr=>exact absurd HFt.out hno
 have HK2:Sl (Kp Ab w w2):=⟨HK1.out.then' k2⟩
 have Hb2:=sE (k2.at_ Hb1.out (λ h=>h))
 have Hb20:=sE (k2.at_ Hb0.out (λ h=>h))
 have HOf:=sE (TOf_at es (.slice va n vc) w2 (HRo.out.Ad HK2.out) (by rw[HN.out];omega) HSm.out)
 replace c0:=k2.cell c0 (λ h=>h)
 clear k2 HCk
 gi_wp2_with fail
 refine⟨trivial,rfl,?_⟩
 refine(callsIn_wide.2 HOf.out).mono ?_
 rintro e w3 ⟨mb,nm,rfl,hA,hmb,k3⟩
 obtain⟨w4,hw4⟩:∃ w4,w4=w3.alloc (.cells #[.map (some mb)] 126):=⟨_,rfl⟩
 have k4:Kp Ab w3 w4:=by rw[hw4];exact (Kr _ w3).alloc _
 have b4:w4.heap[w3.heap.size]?=some (.cells #[.map (some mb)] 126 (0,0)):=by rw[hw4];exact wN w3 _
 have z4:w4.heap.size=w3.heap.size+1:=by rw[hw4];simp
 have HA4:=sE (hA.keep k4 (λ h=>h))
 have HK4:Sl (Kp Ab w w4):=⟨HK2.out.then' (k3.then' k4)⟩
 have HK24:Sl (Kp Ab w2 w4):=⟨k3.then' k4⟩
 have Hb4:=sE (HK24.out.at_ Hb2.out (λ h=>h))
 have Hb40:=sE (HK24.out.at_ Hb20.out (λ h=>h))
 have lmb:=hA.lt
 have lB1:=lZ Hb2.out
 have z23:=k3.size
 obtain⟨C,hC⟩:∃ C,w3.heap.size=C:=⟨_,rfl⟩
 rw[hC] at b4 z4 lmb z23
 have HT4:=sE b4
 replace c0:=k3.cell c0 (λ h=>h)
 have lB0:B<C:=by omega
 have lB0':B<w3.heap.size:=by omega
 clear hA k3 k4 b4
 gi_wp2_with fail
 try rw[hC]
 rw[<- hw4]
 clear hw4
 obtain⟨D,hD⟩:∃ D,C+1=D:=⟨_,rfl⟩
 rw[hD] at z4
 have hrl:∀ g,(Eu P.ts cs g).length<=65536:=λ g=>by
  obtain⟨f,-,hc,-⟩:=HSp.out
  exact rfG_len hc g
 have HCt:Sl (∀ j,DK es (Eu P.ts cs) (es.take j) W<=65536*n):=⟨λ j=>by
  have:=cntT_le es (Eu P.ts cs) hrl (es.take j) W
  have h2:(es.take j).length<=n:=by rw[<- HN.out];exact List.length_take_le' _ _
  exact Nat.le_trans this (Nat.mul_le_mul_left _ h2)⟩
 clear hrl
 refine wpIn_loop (λ a' wr=>∃ (u9 u10 u11 u12 u13 u14 u27 u28 u29 u30 u31 u32 u33 u34 u35 u36 u37 u38 u39 u40 u41 u42 u43 u44 u45 u46 u47 u48 u49 u50 u51 u52 u53 u54 u55 u56 u57 u58 u59 u60 u61 u62:Value) (ds:List Deferred) (j:Nat),(j<=n/\Aw wr P (BL es (Eu P.ts cs) (es.take j) W) cs/\wr.heap[B+1]?=some (.cells #[.int .i64 (DK es (Eu P.ts cs) (es.take j) W:Nat)] 3 (0,0))/\CP D ds wr/\Kp (λ k=>k=P.a\/k=P.q\/k=B+1) w4 wr)/\
   a'={tmps:=#[.pointer (some ⟨P.s,0,none⟩),.agg #[.slice va n vc],undef,.pointer (some ⟨B,0,none⟩),.pointer (some ⟨B+1,0,none⟩),.int .i64 0,.int .i64 0,.pointer (some ⟨C,0,none⟩),undef,u9,u10,u11,u12,u13,u14,.pointer (some ⟨P.s,0,none⟩),.agg #[.slice va n vc],.int .i64 0,.int .i64 0,.bool false,undef,.agg #[.slice va n vc],.agg #[.map (some mb)],.pointer (some ⟨B,0,none⟩),.slice va n vc,.int .i64 (n:Nat),.int .i64 (j:Nat),u27,u28,u29,u30,u31,u32,u33,u34,u35,u36,u37,u38,u39,u40,u41,u42,u43,u44,u45,u46,u47,u48,u49,u50,u51,u52,u53,u54,u55,u56,u57,u58,u59,u60,u61,u62,undef],defers:=ds}) (λ a' _=>n-(intOf (a'.tmps.getD 26 undef)).toNat) ?_ ?_
 .refine ⟨undef,undef,undef,undef,undef,undef,undef,undef,undef,undef,undef,undef,undef,undef,undef,undef,undef,undef,undef,undef,undef,undef,undef,undef,undef,undef,undef,undef,undef,undef,undef,undef,undef,undef,undef,undef,undef,undef,undef,undef,undef,undef,[],0,⟨Nat.zero_le _,hsW1 HSp.out HK4.out,Hb4.out,trivial,Kr _ _⟩,rfl⟩
 intro _ wr hinv
 obtain⟨u9,u10,u11,u12,u13,u14,u27,u28,u29,u30,u31,u32,u33,u34,u35,u36,u37,u38,u39,u40,u41,u42,u43,u44,u45,u46,u47,u48,u49,u50,u51,u52,u53,u54,u55,u56,u57,u58,u59,u60,u61,u62,ds,j,⟨hj,hS,hb,hM,hk⟩,ha⟩:=hinv
 subst ha
 try dsimp only
 have HS:=sE hS
 have HBn:=sE hb
 have HMk:=sE hM
 have HK:=sE hk
 by_cases hjl:j<n
 .have hjl':(j:Int)<(n:Int):=by omega
  obtain⟨va',vc',e,hx⟩:=HRo.out
  injection e with e1 e3 e2
  clear e3
  subst e1 e2
  obtain⟨x,hxj⟩:∃ x,es[j]?=some x:=⟨_,List.getElem?_eq_getElem (by rw[HN.out];exact hjl)⟩
  obtain⟨bb,o,rfl,hbb,x0,x1,x2⟩:=hx j x hxj
  have hnb:¬ (bb=P.a\/bb=P.q\/bb=B+1):=by
   have:=hv bb o n vc rfl
   unfold Sp.own at this
   omega
  have x0':=hk.cell (HK4.out.cell x0 (λ h=>h)) hnb
  have x1':=hk.cell (HK4.out.cell x1 (λ h=>h)) hnb
  have x2':=hk.cell (HK4.out.cell x2 (λ h=>h)) hnb
  have HX:=sE hxj
  obtain⟨xf,xt,xz⟩:=x
  simp only at x0' x1' x2'
  obtain⟨wb,hwb⟩:∃ wb,wb=wr.alloc (.cells #[.int .i64 (xf:Nat),.int .i64 (xt:Nat),.int .i64 (xz:Nat)] 43):=⟨_,rfl⟩
  have kb:Kp Ab wr wb:=by rw[hwb];exact (Kr _ wr).alloc _
  have bb0:wb.heap[wr.heap.size]?=some (.cells #[.int .i64 (xf:Nat),.int .i64 (xt:Nat),.int .i64 (xz:Nat)] 43 (0,0)):=by rw[hwb];exact wN wr _
  obtain⟨y0,y1,y2⟩:=cells3 bb0
  have HKb:=sE kb
  have HBb:=sE bb0
  obtain⟨c,hcm,c1,c2,c3⟩:=HGp.out.obj (xf,xt,xz) (List.mem_of_getElem? hxj)
  simp only at c2 c3
  obtain⟨f',hs',hc',hst'⟩:=HS.out
  have hmem:=hc'.tl.mem hcm
  have HAr:Sl (∀ W',Kp Ab wr W'->Calls prog 14 #[.pointer (some ⟨P.s,0,none⟩)] W' λ e w'=>e=.returned (.pointer (some ⟨P.a,0,none⟩))/\w'=W'):=⟨λ W' k=>Cj P _ f' W' (hs'.Ad k)⟩
  have HTb:Sl (∀ W',Kp Ab wr W'->Calls prog 15 #[.pointer (some ⟨P.s,0,none⟩)] W' λ e w'=>e=.returned (.pointer (some ⟨P.t,0,none⟩))/\w'=W'):=⟨λ W' k=>STable_at P _ f' W' (hs'.Ad k)⟩
  have HOf:Sl (∀ W',Kp Ab wr W'->Calls prog 13 #[.pointer (some ⟨P.a,0,none⟩),.pointer (some ⟨P.t,0,none⟩),.int .i64 (xf:Nat)] W' λ e w'=>
   ∃ b k wds m,((AV k wds m (c.ln:Nat)=0/\m<18446744073709551616)/\Ct P.ts c=Ba k wds m (c.ln:Nat)/\2*c.g+1+AR k wds (c.ln:Nat)<=(P.n:Nat))/\e=.returned (.tuple #[.pointer (some ⟨b,0,none⟩),.int .i64 0])/\BJ w' b P.a c k wds m/\W'.heap.size<=b/\Kp Ab W' w'):=⟨λ W' k=>by
    rw[<- c2]
    exact SOf_one c P _ f' W' (hs'.Ad k) (hc'.ok c hcm) (hc'.hd c hcm) hmem.2.1 hmem.2.2 c1 hms⟩
  have HC:=sE (And.intro hcm (And.intro c1 (And.intro c2 c3)))
  clear hx hxj hk kb bb0 hS hb hM x0 x1 x2 hnb hcm c1 c2 c3 hs' hc' hst' hmem
  gi_wp2_with fail
  rw[<- hwb]
  clear hwb x0' x1' x2'
  gi_cut [10,11] from 64 (λ x10 x11 wx=>DoCut P c wb x10 x11 wx)
  case first=>
   refine wpIn_only ?_
   refine wpIn_wide.2 ?_
   have kk0:Kp Ab wb wb.drew:=(Kr _ _).drew
   refine wp_region_held_drew (S:=λ w'=>w'.cell? ⟨wr.heap.size,0,none⟩=some (.int .i64 (xf:Nat))) (by kernel_rfl) ?_ (λ qZ=>?_)
   .exact y0
   refine Ao 0 ?_;refine Ao 2 ?_;refine Ao 4 ?_;refine Ao 5 ?_
   try simp only[Ar]
   refine AQ [1,10] ?_
   refine Ah rfl (λ K hK=>?_) ?_
   .skip
    go_simp
    with_reducible refine(HAr.out _ (HKb.out.then' kk0)).mono ?_
    rintro e wz ⟨rfl,rfl⟩
    refine hK _ _ ?_ (λ qZ=>?_)
    .exact Ac kk0 y0
    clear hK K
    try simp only[Ar]
    refine AQ [3,10] ?_
    refine Ah rfl (λ K hK=>?_) ?_
    .skip
     go_simp
     with_reducible refine(HTb.out _ (HKb.out.then' kk0)).mono ?_
     rintro e wz ⟨rfl,rfl⟩
     refine hK _ _ ?_ (λ qZ=>?_)
     .exact Ac kk0 y0
     clear hK K
     try simp only[Ar]
     refine AQ [6,10] ?_
     refine Ah rfl (λ K hK=>?_) ?_
     .skip
      go_simp
      with_reducible refine(HOf.out _ (HKb.out.then' kk0)).mono ?_
      rintro e wh6 ⟨b,kk,wds,m,⟨⟨hE,hm⟩,hrf,hfit⟩,rfl,hV,hbn0,kh5x⟩
      have HKd:=sE (And.intro hE (And.intro hm (And.intro hrf hfit)))
      have hbz:wb.heap.size<=b:=Nat.le_trans (kk0).size hbn0
      have lbv:b<wh6.heap.size:=lZ hV
      clear hE hm hrf hfit
      have kh5:=(kk0).then' kh5x
      refine hK _ _ ?_ (λ qZ=>?_)
      .exact Ac kh5 y0
      clear hK K
      try simp only[Ar]
      refine Ao 7 ?_;refine Ao 8 ?_;refine Ao 9 ?_
      try simp only[Ar]
      refine AQ [10] ?_
      refine Ag rfl (λ K hK=>?_)
      go_simp
      obtain⟨wa7,hwa7⟩:∃ wa7,wa7=World.alloc wh6 (.cells #[.pointer none] 44):=⟨_,rfl⟩
      rw[<- hwa7]
      have ka8x:Kp Ab wh6 wa7:=by rw[hwa7];exact (Kr Ab wh6).alloc _
      have ka8b:wa7.heap[wh6.heap.size]?=some (.cells #[.pointer none] 44 (0,0)):=by rw[hwa7];exact wN wh6 _
      have ka8:Kp Ab wb wa7:=(kh5).then' ka8x
      have ka8l:wb.heap.size<=wh6.heap.size:=(kh5).size
      have ka8m:wh6.heap.size<wa7.heap.size:=lZ ka8b
      clear hwa7
      refine hK _ _ ?_ (λ qZ=>?_)
      .exact Ac ka8 y0
      clear hK K
      try simp only[Ar]
      have cv9:=hV.Ad ka8x
      refine AQ [11] ?_
      refine Ag rfl (λ K hK=>?_)
      have cS:=cell_of_one ka8b
      have fS:=free_of_one ka8b
      have lS:=lZ ka8b
      go_simp
      obtain⟨wn,hwn⟩:∃ wn:World,wn=wa7.setCell ⟨wh6.heap.size,0,none⟩ (.pointer (some ⟨b,0,none⟩)):=⟨_,rfl⟩
      have hbn:wn.heap[wh6.heap.size]?=some (.cells #[.pointer (some ⟨b,0,none⟩)] 44 (0,0)):=by rw[hwn];exact set_one ka8b _
      have kn:Kp Ab wb wn:=by rw[hwn];exact ((ka8.Ak (λ i=>i=wh6.heap.size)).trans ((Kr (λ i=>i=wh6.heap.size) _).setCell (λ _=>rfl) _) (λ _ _ h=>h)).mono (λ k hk h=>by have h1:k=wh6.heap.size:=h;omega)
      have HVw:=sE (cv9.keep ((Kr (λ i=>i=wh6.heap.size) wa7).setCell (p:=⟨wh6.heap.size,0,none⟩) (λ _=>rfl) (.pointer (some ⟨b,0,none⟩))) (show ¬ _=_ by omega))
      rw[<- hwn] at HVw
      rw[<- hwn]
      clear hwn cS fS lS
      refine hK _ _ ?_ (λ qZ=>?_)
      .exact Ac kn y0
      clear hK K
      try simp only[Ar]
      refine Ao 12 ?_
      try simp only[Ar]
      refine wpAnyH_done (by kernel_rfl) ?_ _
      gi_wp2_with fail
      gi_meet
      exact⟨wh6.heap.size,b,kk,wds,m,rfl,rfl,hbn,HVw.out,HKd.out,kn,hbz,by omega⟩
     .refine Ah rfl (λ K hK=>?_) AllReadyH.nil
      go_simp
      obtain⟨wa10,hwa10⟩:∃ wa10,wa10=(World.alloc wb (.cells #[.pointer none] 44)).drew:=⟨_,rfl⟩
      rw[<- hwa10]
      have ka11x:Kp Ab wb wa10:=by rw[hwa10];exact ((Kr Ab wb).alloc _).drew
      have ka11b:wa10.heap[wb.heap.size]?=some (.cells #[.pointer none] 44 (0,0)):=by rw[hwa10];exact wN wb _
      have ka11:Kp Ab wb wa10:=ka11x
      have ka11l:wb.heap.size<=wb.heap.size:=Nat.le_refl _
      have ka11m:wb.heap.size<wa10.heap.size:=lZ ka11b
      clear hwa10
      refine hK _ _ ?_ (λ qZ=>?_)
      .exact Ac ka11 y0
      clear hK K
      try simp only[Ar]
      refine AQ [6] ?_
      refine Ag rfl (λ K hK=>?_)
      go_simp
      with_reducible refine(HOf.out _ (HKb.out.then' ka11)).mono ?_
      rintro e wh13 ⟨b,kk,wds,m,⟨⟨hE,hm⟩,hrf,hfit⟩,rfl,hV,hbn0,kh12x⟩
      have HKd:=sE (And.intro hE (And.intro hm (And.intro hrf hfit)))
      have hbz:wb.heap.size<=b:=Nat.le_trans (ka11).size hbn0
      have lbv:b<wh13.heap.size:=lZ hV
      clear hE hm hrf hfit
      have kh12:=(ka11).then' kh12x
      have ab14:=kh12x.at_ ka11b (λ h=>h)
      refine hK _ _ ?_ (λ qZ=>?_)
      .exact Ac kh12 y0
      clear hK K
      try simp only[Ar]
      refine Ao 7 ?_;refine Ao 8 ?_;refine Ao 9 ?_
      try simp only[Ar]
      refine AQ [11] ?_
      refine Ag rfl (λ K hK=>?_)
      have cS:=cell_of_one ab14
      have fS:=free_of_one ab14
      have lS:=lZ ab14
      go_simp
      obtain⟨wn,hwn⟩:∃ wn:World,wn=wh13.setCell ⟨wb.heap.size,0,none⟩ (.pointer (some ⟨b,0,none⟩)):=⟨_,rfl⟩
      have hbn:wn.heap[wb.heap.size]?=some (.cells #[.pointer (some ⟨b,0,none⟩)] 44 (0,0)):=by rw[hwn];exact set_one ab14 _
      have kn:Kp Ab wb wn:=by rw[hwn];exact ((kh12.Ak (λ i=>i=wb.heap.size)).trans ((Kr (λ i=>i=wb.heap.size) _).setCell (λ _=>rfl) _) (λ _ _ h=>h)).mono (λ k hk h=>by have h1:k=wb.heap.size:=h;omega)
      have HVw:=sE (hV.keep ((Kr (λ i=>i=wb.heap.size) wh13).setCell (p:=⟨wb.heap.size,0,none⟩) (λ _=>rfl) (.pointer (some ⟨b,0,none⟩))) (show ¬ _=_ by omega))
      rw[<- hwn] at HVw
      rw[<- hwn]
      clear hwn cS fS lS
      refine hK _ _ ?_ (λ qZ=>?_)
      .exact Ac kn y0
      clear hK K
      try simp only[Ar]
      refine Ao 12 ?_
      try simp only[Ar]
      refine wpAnyH_done (by kernel_rfl) ?_ _
      gi_wp2_with fail
      gi_meet
      exact⟨wb.heap.size,b,kk,wds,m,rfl,rfl,hbn,HVw.out,HKd.out,kn,hbz,by omega⟩
    .refine Ah rfl (λ K hK=>?_) AllReadyH.nil
     go_simp
     obtain⟨wa15,hwa15⟩:∃ wa15,wa15=(World.alloc wb (.cells #[.pointer none] 44)).drew:=⟨_,rfl⟩
     rw[<- hwa15]
     have ka16x:Kp Ab wb wa15:=by rw[hwa15];exact ((Kr Ab wb).alloc _).drew
     have ka16b:wa15.heap[wb.heap.size]?=some (.cells #[.pointer none] 44 (0,0)):=by rw[hwa15];exact wN wb _
     have ka16:Kp Ab wb wa15:=ka16x
     have ka16l:wb.heap.size<=wb.heap.size:=Nat.le_refl _
     have ka16m:wb.heap.size<wa15.heap.size:=lZ ka16b
     clear hwa15
     refine hK _ _ ?_ (λ qZ=>?_)
     .exact Ac ka16 y0
     clear hK K
     try simp only[Ar]
     refine AQ [3] ?_
     refine Ag rfl (λ K hK=>?_)
     go_simp
     with_reducible refine(HTb.out _ (HKb.out.then' ka16)).mono ?_
     rintro e wz ⟨rfl,rfl⟩
     refine hK _ _ ?_ (λ qZ=>?_)
     .exact Ac ka16 y0
     clear hK K
     try simp only[Ar]
     refine AQ [6] ?_
     refine Ag rfl (λ K hK=>?_)
     go_simp
     with_reducible refine(HOf.out _ (HKb.out.then' ka16)).mono ?_
     rintro e wh20 ⟨b,kk,wds,m,⟨⟨hE,hm⟩,hrf,hfit⟩,rfl,hV,hbn0,kh19x⟩
     have HKd:=sE (And.intro hE (And.intro hm (And.intro hrf hfit)))
     have hbz:wb.heap.size<=b:=Nat.le_trans (ka16).size hbn0
     have lbv:b<wh20.heap.size:=lZ hV
     clear hE hm hrf hfit
     have kh19:=(ka16).then' kh19x
     have ab21:=kh19x.at_ ka16b (λ h=>h)
     refine hK _ _ ?_ (λ qZ=>?_)
     .exact Ac kh19 y0
     clear hK K
     try simp only[Ar]
     refine Ao 7 ?_;refine Ao 8 ?_;refine Ao 9 ?_
     try simp only[Ar]
     refine AQ [11] ?_
     refine Ag rfl (λ K hK=>?_)
     have cS:=cell_of_one ab21
     have fS:=free_of_one ab21
     have lS:=lZ ab21
     go_simp
     obtain⟨wn,hwn⟩:∃ wn:World,wn=wh20.setCell ⟨wb.heap.size,0,none⟩ (.pointer (some ⟨b,0,none⟩)):=⟨_,rfl⟩
     have hbn:wn.heap[wb.heap.size]?=some (.cells #[.pointer (some ⟨b,0,none⟩)] 44 (0,0)):=by rw[hwn];exact set_one ab21 _
     have kn:Kp Ab wb wn:=by rw[hwn];exact ((kh19.Ak (λ i=>i=wb.heap.size)).trans ((Kr (λ i=>i=wb.heap.size) _).setCell (λ _=>rfl) _) (λ _ _ h=>h)).mono (λ k hk h=>by have h1:k=wb.heap.size:=h;omega)
     have HVw:=sE (hV.keep ((Kr (λ i=>i=wb.heap.size) wh20).setCell (p:=⟨wb.heap.size,0,none⟩) (λ _=>rfl) (.pointer (some ⟨b,0,none⟩))) (show ¬ _=_ by omega))
     rw[<- hwn] at HVw
     rw[<- hwn]
     clear hwn cS fS lS
     refine hK _ _ ?_ (λ qZ=>?_)
     .exact Ac kn y0
     clear hK K
     try simp only[Ar]
     refine Ao 12 ?_
     try simp only[Ar]
     refine wpAnyH_done (by kernel_rfl) ?_ _
     gi_wp2_with fail
     gi_meet
     exact⟨wb.heap.size,b,kk,wds,m,rfl,rfl,hbn,HVw.out,HKd.out,kn,hbz,by omega⟩
   .refine Ah rfl (λ K hK=>?_) AllReadyH.nil
    go_simp
    obtain⟨wa22,hwa22⟩:∃ wa22,wa22=(World.alloc wb (.cells #[.pointer none] 44)).drew:=⟨_,rfl⟩
    rw[<- hwa22]
    have ka23x:Kp Ab wb wa22:=by rw[hwa22];exact ((Kr Ab wb).alloc _).drew
    have ka23b:wa22.heap[wb.heap.size]?=some (.cells #[.pointer none] 44 (0,0)):=by rw[hwa22];exact wN wb _
    have ka23:Kp Ab wb wa22:=ka23x
    have ka23l:wb.heap.size<=wb.heap.size:=Nat.le_refl _
    have ka23m:wb.heap.size<wa22.heap.size:=lZ ka23b
    clear hwa22
    refine hK _ _ ?_ (λ qZ=>?_)
    .exact Ac ka23 y0
    clear hK K
    try simp only[Ar]
    refine AQ [1] ?_
    refine Ag rfl (λ K hK=>?_)
    go_simp
    with_reducible refine(HAr.out _ (HKb.out.then' ka23)).mono ?_
    rintro e wz ⟨rfl,rfl⟩
    refine hK _ _ ?_ (λ qZ=>?_)
    .exact Ac ka23 y0
    clear hK K
    try simp only[Ar]
    refine AQ [3] ?_
    refine Ag rfl (λ K hK=>?_)
    go_simp
    with_reducible refine(HTb.out _ (HKb.out.then' ka23)).mono ?_
    rintro e wz ⟨rfl,rfl⟩
    refine hK _ _ ?_ (λ qZ=>?_)
    .exact Ac ka23 y0
    clear hK K
    try simp only[Ar]
    refine AQ [6] ?_
    refine Ag rfl (λ K hK=>?_)
    go_simp
    with_reducible refine(HOf.out _ (HKb.out.then' ka23)).mono ?_
    rintro e wh29 ⟨b,kk,wds,m,⟨⟨hE,hm⟩,hrf,hfit⟩,rfl,hV,hbn0,kh28x⟩
    have HKd:=sE (And.intro hE (And.intro hm (And.intro hrf hfit)))
    have hbz:wb.heap.size<=b:=Nat.le_trans (ka23).size hbn0
    have lbv:b<wh29.heap.size:=lZ hV
    clear hE hm hrf hfit
    have kh28:=(ka23).then' kh28x
    have ab30:=kh28x.at_ ka23b (λ h=>h)
    refine hK _ _ ?_ (λ qZ=>?_)
    .exact Ac kh28 y0
    clear hK K
    try simp only[Ar]
    refine Ao 7 ?_;refine Ao 8 ?_;refine Ao 9 ?_
    try simp only[Ar]
    refine AQ [11] ?_
    refine Ag rfl (λ K hK=>?_)
    have cS:=cell_of_one ab30
    have fS:=free_of_one ab30
    have lS:=lZ ab30
    go_simp
    obtain⟨wn,hwn⟩:∃ wn:World,wn=wh29.setCell ⟨wb.heap.size,0,none⟩ (.pointer (some ⟨b,0,none⟩)):=⟨_,rfl⟩
    have hbn:wn.heap[wb.heap.size]?=some (.cells #[.pointer (some ⟨b,0,none⟩)] 44 (0,0)):=by rw[hwn];exact set_one ab30 _
    have kn:Kp Ab wb wn:=by rw[hwn];exact ((kh28.Ak (λ i=>i=wb.heap.size)).trans ((Kr (λ i=>i=wb.heap.size) _).setCell (λ _=>rfl) _) (λ _ _ h=>h)).mono (λ k hk h=>by have h1:k=wb.heap.size:=h;omega)
    have HVw:=sE (hV.keep ((Kr (λ i=>i=wb.heap.size) wh29).setCell (p:=⟨wb.heap.size,0,none⟩) (λ _=>rfl) (.pointer (some ⟨b,0,none⟩))) (show ¬ _=_ by omega))
    rw[<- hwn] at HVw
    rw[<- hwn]
    clear hwn cS fS lS
    refine hK _ _ ?_ (λ qZ=>?_)
    .exact Ac kn y0
    clear hK K
    try simp only[Ar]
    refine Ao 12 ?_
    try simp only[Ar]
    refine wpAnyH_done (by kernel_rfl) ?_ _
    gi_wp2_with fail
    gi_meet
    exact⟨wb.heap.size,b,kk,wds,m,rfl,rfl,hbn,HVw.out,HKd.out,kn,hbz,by omega⟩
  case rest=>
   obtain⟨hb,b,kk,wds,m,rfl,rfl,hhb,hV,⟨hE,hm,hrf,hfit⟩,kc,hbz,hhz⟩:=hcut
   obtain⟨f',hs',hc',hst'⟩:=HS.out
   obtain⟨Wj,hWj⟩:∃ Wj,BL es (Eu P.ts cs) (es.take j) W=Wj:=⟨_,rfl⟩
   obtain⟨cn,hcn⟩:∃ cn,DK es (Eu P.ts cs) (es.take j) W=cn:=⟨_,rfl⟩
   have hcl:=HCt.out j
   rw[hWj] at hs' hc'
   rw[hcn] at hcl
   have KC:Kp Ab wr wc:=HKb.out.then' kc
   have HKC:=sE KC
   have HSc:=sE (hs'.Ad KC)
   have HNc:=sE (KC.at_ HBn.out (λ h=>h))
   rw[hcn] at HNc
   have hz0:=HK.out.size
   have hz1:=KC.size
   have hzb:=HKb.out.size
   have hBe:=HB.out
   have lbb:=lZ hV
   have lhb:=lZ hhb
   obtain⟨hC1,hC2,hC3,hC4⟩:=HC.out
   have hlen:=El (M:=m) hE
   have hrfx:Eu P.ts cs xf=Ba kk wds m (c.ln:Nat):=by rw[<- hC3,rfG_at hc'.tl hC1 hC2,hrf]
   have HSl:Sl (∀ s∈Ba kk wds m (c.ln:Nat),(s:Int)<AR kk wds (c.ln:Nat)):=⟨λ s hs=>FK hE hs⟩
   have HNd:=sE (refsT_nodup kk wds m (c.ln:Nat))
   obtain⟨X,hX⟩:∃ X,wc.heap.size=X:=⟨_,rfl⟩
   obtain⟨wl,hwl⟩:∃ wl,wl=wc.alloc (.cells #[.pointer (some ⟨b,0,none⟩)] 132):=⟨_,rfl⟩
   have kl:Kp Ab wc wl:=by rw[hwl];exact (Kr _ wc).alloc _
   have bxl:wl.heap[X]?=some (.cells #[.pointer (some ⟨b,0,none⟩)] 132 (0,0)):=by rw[hwl,<- hX];exact wN wc _
   have zl:wl.heap.size=X+1:=by rw[hwl];simp [hX]
   have HAl:=sE ((HSc.out.Ad kl).ar)
   have HIt:Sl _:=⟨words_iter X b P.a P.q P.n Wj c kk wds m wl HAl.out (hV.Ad kl) hE hm hfit bxl (R:=λ i=>i=P.a\/i=P.q\/i=B+1) (X:=λ _=>False) (λ i hi=>by
    have l1:=lall P.a (.inr (.inr (.inl rfl)))
    have l2:=lall P.q (.inr (.inr (.inr (.inl rfl))))
    have l3:=HB.out
    rcases hi with rfl|rfl|rfl <;> refine⟨?_,?_,?_⟩ <;> omega)⟩
   have HVc:=sE (hV.Ad kl)
   have HHb:=sE (kl.at_ hhb (λ h=>h))
   have HKl:=sE kl
   have HKd:=sE (And.intro hE (And.intro hm hfit))
   have chb:=cell_of_one hhb
   clear hs' hc' hst' KC hV hhb kc kl bxl hE hm hfit hrf hC3
   gi_wp2_with fail
   refine⟨trivial,rfl,?_⟩
   refine(callsIn_wide.2 (twords_fn b wc)).mono ?_
   rintro e wy ⟨rfl,hwy⟩
   obtain rfl:wl=wy:=by rw[hwl,hwy]
   rw[hX]
   clear hwl hwy chb
   gi_wp2_with fail
   have l1:=lall P.a (.inr (.inr (.inl rfl)))
   have l2:=lall P.q (.inr (.inr (.inr (.inl rfl))))
   refine Fv (n:=0) (gf:=112) (lb:=#[.pointer (some ⟨X,0,none⟩)]) rfl (enters_of func112 (by kernel_rfl) rfl) HIt.out (λ i hi=>hi.elim) (λ i hi=>by
     rcases hi with rfl|rfl|rfl <;> omega) (λ i hi=>hi.elim) (λ _=>rfl)
    (λ pre S W'=>TrnI es P Wj c.g cn (Ba kk wds m (c.ln:Nat)) (B+1) wl pre S W') (λ c pre W'=>False) (λ i=>i=P.a\/i=P.q\/i=B+1) ?hS ?hI ?hIx ?h0 ?hround ?hdone ?hstop
   case hS=>
    rintro pre S A ⟨a1,a2,rfl,a4,a5⟩
    refine⟨⟨_,a1,λ s hs hn=>?_⟩,λ i hi=>⟨.inl hi,?_⟩⟩
    .rw [turnS_at es c.g _ (a5.sublist.nodup HNd.out),if_neg]
     rintro ⟨t,ht,e⟩
     have:s=t:=by omega
     exact hn (this▸ht)
    .have:=a4.size
     rcases hi with rfl|rfl|rfl <;> omega
   case hI=>
    rintro pre S A A' ⟨a1,a2,a3,a4,a5⟩ hk'
    have hn:∀ i,(Ab i\/i=wl.heap.size\/i=wl.heap.size+1)->¬ i=P.a/\¬ i=P.q/\¬ i=B+1:=λ i h=>by
     rcases h with h|h|h
     .exact h.elim
     .omega
     .omega
    exact⟨a1.keep hk' (λ h=>(hn _ h).1 rfl) (λ h=>(hn _ h).2.1 rfl),hk'.at_ a2 (λ h=>(hn _ h).2.2 rfl),a3,a4.trans hk' (λ i hi h=>by
     rcases h with h|h|h
     .exact h.elim
     .omega
     .omega),a5⟩
   case hIx=>exact λ c pre A B' h hk=>h
   case h0=>exact ⟨HAl.out,HKl.out.at_ HNc.out (λ h=>h),rfl,Kr _ _,List.nil_prefix⟩
   case hround=>
    rintro pre S s rest W' hx ⟨a1,a2,rfl,a4,a5⟩ hs
    have hpf:pre++[s] <+: Ba kk wds m (c.ln:Nat):=⟨rest,by rw[hx];simp⟩
    have hnd:=hpf.sublist.nodup HNd.out
    have hsm':s∈Ba kk wds m (c.ln:Nat):=by rw[hx];simp
    have hsl:=HSl.out s hsm'
    have hpl:pre.length<=65536:=by
     have:(Ba kk wds m (c.ln:Nat)).length=pre.length+(rest.length+1):=by rw[hx];simp
     omega
    have hcs:=cntS_le es c.g pre Wj
    have hkn:2*c.g+1+s<P.n:=by have:=HKd.out.2.2;omega
    have hy:=HAl.out.fits _ hkn
    have HTs:=turnS_snoc es c.g pre s Wj hnd
    have HCs:=cntS_snoc es c.g pre s Wj hnd
    have HT0:Bv es c.g pre Wj (2*c.g+1+s)=Wj (2*c.g+1+s):=by
     rw[turnS_at es c.g _ (List.nodup_append.1 hnd).1,if_neg]
     rintro ⟨t,ht,e⟩
     have:s=t:=by omega
     exact(List.nodup_append.1 hnd).2.2 t ht s (by simp) this.symm
    obtain⟨y,hyy⟩:∃ y,Wj (2*c.g+1+s)=y:=⟨_,rfl⟩
    rw[hyy] at hy HTs HCs HT0
    have hyI:=hyy
    obtain⟨z,hz⟩:∃ z,toA es y=z:=⟨_,rfl⟩
    have hzl:z<18446744073709551616:=by rw[<- hz];exact toA_lt (λ x hx=>(HSm.out x hx).2) y
    rw[hz] at HTs HCs
    have KW:Kp (λ k=>k=P.a\/k=P.q\/k=B+1) w4 W':=((HK.out.trans HKC.out (λ _ _ h=>h.elim)).trans HKl.out (λ _ _ h=>h.elim)).trans a4 (λ _ _ h=>h)
    have HA1:=sE a1
    have HA2:=sE a2
    have HA4':=sE a4
    have HA5:=sE hpf
    have HKW:=sE KW
    have HTS:=sE HTs
    have HCS:=sE HCs
    have HT00:=sE HT0
    obtain⟨q,hq⟩:∃ q,cn+Ec es c.g pre Wj=q:=⟨_,rfl⟩
    have HQ:=sE hq
    have hql:q<=4294967296:=by omega
    rw[hyy]
    clear hx hsm' a1 a2 a4 a5 hnd hpf KW hcs HTs HCs HT0 hyI hq hpl hrfx
    gi_wp2_with fail
    refine⟨Kr _ _,?_⟩
    intro W2 hc2 hf2 hk2 hs2 hr2
    have K2:Kp (λ k=>k=P.a\/k=P.q\/k=B+1) wl W2:=HA4'.out.trans hk2 (λ i hi h=>by have h':i=wl.heap.size+1:=h;omega)
    have K42:Kp (λ k=>k=P.a\/k=P.q\/k=B+1) w4 W2:=HKW.out.trans hk2 (λ i hi h=>by have h':i=wl.heap.size+1:=h;have:=HKl.out.size;omega)
    have hA2:CJ W2 mb nm (mapA es):=HA4.out.keep K42 (by omega)
    have hlook:=hA2.look hy
    rw[toA_map,hz] at hlook
    have cT:=cell_of_one (K42.at_ HT4.out (by omega))
    have V2:BJ W2 b P.a c kk wds m:=HVc.out.keep K2 (by omega)
    have cH:=cell_of_one (K2.at_ HHb.out (by omega))
    have n2:=hk2.at_ HA2.out (show ¬ _=_ by omega)
    rw[HQ.out] at n2
    have A2:=HA1.out.keep hk2 (show ¬ _=_ by omega) (show ¬ _=_ by omega)
    have HSt:=sE (VStore_yes s z b P.a P.q P.n _ c kk wds m W2 A2 V2 HKd.out.1 hsl hzl hkn)
    have HN2:=sE n2
    have HA22:=sE A2
    have HK2x:=sE K2
    have lW2:=K2.size
    clear hA2 V2 n2 A2 K42 K2 hc2 hf2 hk2 hs2 hr2 hz
    by_cases hzy:z=y
    .subst hzy
     have hzz:((z:Int) !=(z:Int))=false:=by simp
     gi_wp2_with fail
     refine⟨Kr _ W2,_,⟨?_,?_,rfl,HK2x.out,HA5.out⟩,λ i hi=>.inl hi⟩
     .rw [HTS.out,<- HT00.out,updW_same]
      exact HA22.out
     .have:=HCS.out
      simp only[if_true,Nat.add_zero] at this
      rw[this,HQ.out]
      exact HN2.out
    .have hzz:((z:Int) !=(y:Int))=true:=by rw[bne_iff_ne];omega
     gi_wp2_with fail
     refine⟨trivial,rfl,?_⟩
     refine(Ca HSt.out).mono ?_
     rintro e w5 ⟨rfl,k5,A5⟩
     have n5:=k5.at_ HN2.out (show ¬ (_=_\/_=_) by omega)
     have cN:=cell_of_one n5
     have fN:=free_of_one n5
     have lN:=lZ n5
     have HN5:=sE n5
     have HA5x:=sE A5
     have HK5:=sE k5
     have u1:IntKind.i64.wrap ((q:Int)+1)=((q+1:Nat):Int):=by rw[IntKind.wrap_i64];omega
     clear k5 A5 n5 cT cH hlook
     gi_wp2_with fail
     have ks:Kp (λ k=>k=B+1) w5 (w5.setCell ⟨B+1,0,none⟩ (.int .i64 ((q:Int)+1))):=(Kr (λ k=>k=B+1) w5).setCell (λ _=>rfl) _
     refine⟨?_,_,⟨?_,?_,rfl,?_,HA5.out⟩,λ i hi=>.inl hi⟩
     .exact (HK5.out.mono (λ i hi h=>by rcases h with h|h;exact .inl h;exact .inr (.inl h))).trans ks (λ i hi h=>.inr (.inr h))
     .rw [HTS.out]
      exact HA5x.out.keep ks (show ¬ _=_ by omega) (show ¬ _=_ by omega)
     .have e1:((cn+Ec es c.g (pre++[s]) Wj:Nat):Int)=(q:Int)+1:=by
       have h1:=HCS.out
       rw[if_neg hzy] at h1
       have h2:=HQ.out
       omega
      rw[e1]
      exact set_one HN5.out _
     .exact (HK2x.out.trans (HK5.out.mono (S':=λ k=>k=P.a\/k=P.q\/k=B+1) (λ i hi h=>by rcases h with h|h;exact .inl h;exact .inr (.inl h))) (λ _ _ h=>h)).trans ks (λ i hi h=>.inr (.inr h))
   case hdone=>
    rintro S W' ⟨a1,a2,rfl,a4,a5⟩ hs hD'
    have HA1:=sE a1
    have HA2:=sE a2
    have HA4':=sE a4
    have KW:Kp (λ k=>k=P.a\/k=P.q\/k=B+1) wr W':=((HKC.out.Ak _).trans HKl.out (λ _ _ h=>h.elim)).trans a4 (λ _ _ h=>h)
    have K4W:Kp (λ k=>k=P.a\/k=P.q\/k=B+1) w4 W':=HK.out.trans KW (λ _ _ h=>h)
    have HKW:=sE KW
    have HK4W:=sE K4W
    have HDd:=sE hD'
    clear a1 a2 a4 a5 KW K4W hD'
    gi_wp2_with fail
    have hzW:=HKW.out.size
    have hzwl:=HA4'.out.size
    have hrc:Eu P.ts cs c.g=Ba kk wds m (c.ln:Nat):=by rw[HC.out.2.2.1];exact hrfx
    have HTe:Sl (BL es (Eu P.ts cs) (es.take (j+1)) W=Bv es c.g (Ba kk wds m (c.ln:Nat)) Wj):=⟨by
     rw[BR HX.out,turnP_app,hWj]
     show BL es (Eu P.ts cs) [] (Bv es xf (Eu P.ts cs xf) Wj)=_
     rw[hrfx,HC.out.2.2.1]
     rfl⟩
    have HCe:Sl (DK es (Eu P.ts cs) (es.take (j+1)) W=cn+Ec es c.g (Ba kk wds m (c.ln:Nat)) Wj):=⟨by
     rw[BR HX.out,cntT_app,hWj,hcn]
     show cn+(Ec es xf (Eu P.ts cs xf) Wj+DK es (Eu P.ts cs) [] _)=_
     rw[hrfx,HC.out.2.2.1]
     rfl⟩
    refine⟨⟨_,_,_,_,_,_,_,_,_,_,_,_,_,_,_,_,_,_,_,_,_,_,_,_,_,_,_,_,_,_,_,_,_,_,_,_,_,_,_,_,_,_,_,j+1,⟨by omega,?_,?_,?_,HK4W.out⟩,rfl⟩,?_⟩
    .obtain ⟨f',hs',hc',hst'⟩:=HS.out
     rw[hWj] at hs' hc'
     rw[HTe.out]
     refine⟨f',hs'.wordsS HKW.out (λ i hi h=>?_) HA1.out,?_,hst'⟩
     .rcases h with h|h|h
      .exact .inl h
      .exact .inr h
      .have:=lall i hi
       omega
     .refine hc'.Bv es hC1 hC2 λ s hs=>?_
      rw[<- rfG_at hc'.tl hC1 hC2,hrc]
      exact hs
    .rw [HCe.out]
     exact HA2.out
    .refine ⟨⟨wl.heap.size,by omega,rfl,HDd.out,λ e he=>?_⟩,HMk.out.keep HKW.out (λ i h=>?_)⟩
     .obtain ⟨r,rfl,hr⟩:=HMk.out.lt e he
      intro h
      injection h with h
      injection h with h
      omega
     .have l1:=lall P.a (.inr (.inr (.inl rfl)))
      have l2:=lall P.q (.inr (.inr (.inr (.inl rfl))))
      rcases h with rfl|rfl|rfl <;> omega
    .show n-((j:Int)+1).toNat<n-((j:Nat):Int).toNat
     omega
   case hstop=>exact λ c pre W' hp h=>h.elim
 .have hjl':¬ (j:Int)<(n:Int):=by omega
  obtain rfl:j=n:=by omega
  have cb:=cell_of_one hb
  have fb:=free_of_one hb
  have lb:=lZ hb
  have ht:es.take j=es:=List.take_of_length_le (by rw[HN.out];exact Nat.le_refl _)
  rw[ht] at cb
  have HT:=sE ht
  obtain⟨cn,hcn⟩:∃ cn,DK es (Eu P.ts cs) es W=cn:=⟨_,rfl⟩
  rw[hcn] at cb
  have HCn:=sE hcn
  clear hk hS hb hM ht hcn
  gi_wp2_with fail
  have ks:Kp (λ k=>k=B+1) wr (wr.setCell ⟨B+1,0,none⟩ (.int .i64 (cn:Nat))):=(Kr (λ k=>k=B+1) wr).setCell (λ _=>rfl) _
  have hcs:(wr.setCell ⟨B+1,0,none⟩ (.int .i64 (cn:Nat))).cell? ⟨B+1,0,none⟩=some (.int .i64 (cn:Nat)):=World.cell?_setCell_same' _ _ _ (by rw[cb];rfl)
  have hBe:=HB.out
  have l1:=lall P.a (.inr (.inr (.inl rfl)))
  have l2:=lall P.q (.inr (.inr (.inr (.inl rfl))))
  refine leaves_marks (B:=D) (HMk.out.keep ks (λ i h=>by have h':i=B+1:=h;omega)) λ w' kd hcd=>?_
  have hc':=(hcd ⟨B+1,0,none⟩).trans hcs
  refine⟨.tuple #[.int .i64 (cn:Nat),.int .i64 0],by simp[results,results28,go_sem,hc'],by rw[HCn.out],?_,?_⟩
  .obtain ⟨f',hs',hc2,hst'⟩:=HS.out
   rw[HT.out] at hs' hc2
   have k1:Kp (λ k=>k=B+1\/D<=k) wr w':=(ks.mono (λ i hi h=>.inl h)).trans kd (λ i hi h=>.inr h)
   refine⟨f',hs'.keep k1 (λ i hi h=>?_),hc2,hst'⟩
   have:=lall i hi
   omega
  .refine (HK4.out.Ak _).trans ((HK.out.trans ks (λ i hi h=>.inr (.inr h))).trans kd (λ i hi h=>?_)) (λ i hi h=>?_)
   .omega
   .rcases h with h|h|h
    .exact .inl h
    .exact .inr h
    .omega

end

end Go.Proofs.YtmfajopmppfldaaGreatDoor
