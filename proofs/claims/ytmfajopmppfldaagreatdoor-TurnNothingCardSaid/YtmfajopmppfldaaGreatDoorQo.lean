/-
  Lemmas for the laws, together: TurnDo, TurnAl, TurnPl, Same09.
-/
import Derived.Test.YtmfajopmppfldaaGreatDoorQn
import Derived.Test.YtmfajopmppfldaaGreatDoorQm
import Derived.Test.YtmfajopmppfldaaGreatDoorQk
import Derived.Test.YtmfajopmppfldaaGreatDoorQh
import Derived.Test.YtmfajopmppfldaaGreatDoorQi
set_option linter.unusedVariables false
set_option maxHeartbeats 16000000
namespace Go.Proofs.YtmfajopmppfldaaGreatDoor
open Go.Proofs.Tryz
section
open Go.RowKit

def Cw(B:Nat):List Deferred->World->Prop
 |[],_=>True
 |d::ds,w=>(∃ r,B<=r/\d={target:=.collected r,args:=#[]}/\w.heap[r]?=some (.deferred (some []))/\∀ e∈ds,¬ e=d)/\Cw B ds w

theorem Cw.keep{B:Nat}{S:Nat->Prop}{w w':World}(k:Kp S w w')(hS:∀ i,S i->i<B):∀ {ds:List Deferred},Cw B ds w->Cw B ds w'
 |[],_=>trivial
 |d::ds,⟨⟨r,h1,h2,h3,h4⟩,h5⟩=>⟨⟨r,h1,h2,k.at_ h3 (λ h=>by have:=hS r h;omega),h4⟩,Cw.keep k hS h5⟩

theorem Cw.lt{B:Nat}{w:World}:∀ {ds:List Deferred},Cw B ds w->∀ e∈ds,∃ r,e={target:=.collected r,args:=#[]}/\r<w.heap.size
 |d::ds,⟨⟨r,h1,h2,h3,h4⟩,h5⟩,e,he=>by
  rcases List.mem_cons.1 he with rfl|he
  .exact ⟨r,h2,lt_of_heap h3⟩
  .exact Cw.lt h5 e he

theorem Cw.shut{B r:Nat}{w:World}:∀ {ds:List Deferred},Cw B ds w->(∀ e∈ds,¬ e={target:=.collected r,args:=#[]})->Cw B ds (w.putObj r (.deferred none))
 |[],_,_=>trivial
 |d::ds,⟨⟨q,h1,h2,h3,h4⟩,h5⟩,hn=>⟨⟨q,h1,h2,by
   have:¬ q=r:=λ e=>hn d List.mem_cons_self (by rw[h2,e])
   rw[World.putObj_heap_other this]
   exact h3,h4⟩,Cw.shut h5 λ e he=>hn e (List.mem_cons_of_mem _ he)⟩

theorem leaves_marks{F:Fence}{n B:Nat}{P:Program}{fn:Func}{tmps:Array Value}{R:Ending->World->Prop}:∀ {ds:List Deferred} {w:World},Cw B ds w->
  (∀ w',Kp (λ k=>B<=k) w w'->(∀ p,w'.cell? p=w.cell? p)->LeavesInM F n P fn tmps R [] .returning w')->LeavesInM F n P fn tmps R ds .returning w
 |[],w,_,h=>h w (Kr _ _) (λ _=>rfl)
 |d::ds,w,⟨⟨r,h1,h2,h3,h4⟩,h5⟩,h=>by
  refine⟨by simp,.inl ⟨r,_,by rw[h2],run_takeDeferred h3,?_⟩⟩
  have h6:=Cw.shut (r:=r) h5 λ e he=>by rw[<- h2];exact h4 e he
  refine leaves_marks h6 λ w' k hc=>h w' ?_ λ p=>?_
  .exact ((Kr (λ k=>B<=k) w).putObj (r:=r) (λ _=>h1) _).trans k (λ _ _ h=>h)
  .rw [hc p]
   exact cell_putObj h3 rfl rfl p

theorem twords_fn(b:Nat)(w:World):
  Calls prog 64 #[.agg #[.pointer (some ⟨b,0,none⟩)]] w λ e w'=>
   e=.returned (.func (.func 112) #[] #[.pointer (some ⟨w.heap.size,0,none⟩)])/\w.alloc (.cells #[.pointer (some ⟨b,0,none⟩)] 132)=w':=by
 have hmf:∀ (fn:Fn) (first cap:Array Value) (w:World),(Instr.makeFunc fn first cap).run prog w=.ok (.func fn first cap) w:=λ _ _ _ _=>rfl
 go_enter func64,ntmps64
 go_wp2
 go_ret
 exact⟨rfl,rfl⟩

theorem updW_same(W:Nat->Nat)(k:Nat):Ca W k (W k)=W:=funext λ a=>by
 unfold Ca
 split
 .rename_i h;rw [h]
 .rfl

theorem turnS_snoc(es:List (Nat×Nat×Nat))(g:Nat)(pre:List Nat)(s:Nat)(W:Nat->Nat)(hn:(pre++[s]).Nodup):BU es g (pre++[s]) W=Ca (BU es g pre W) (2*g+1+s) (toA es (W (2*g+1+s))):=by
 obtain⟨h1,h2,h3⟩:=List.nodup_append.1 hn
 have:BU es g pre W (2*g+1+s)=W (2*g+1+s):=by
  rw[turnS_at es g _ h1,if_neg]
  rintro ⟨t,ht,e⟩
  exact h3 t ht s (by simp) (by omega)
 rw[turnS_app,BU,BU,this]

theorem cntS_snoc(es:List (Nat×Nat×Nat))(g:Nat)(pre:List Nat)(s:Nat)(W:Nat->Nat)(hn:(pre++[s]).Nodup):Fp es g (pre++[s]) W=Fp es g pre W+(if toA es (W (2*g+1+s))=W (2*g+1+s) then 0 else 1):=by
 obtain⟨h1,h2,h3⟩:=List.nodup_append.1 hn
 have:BU es g pre W (2*g+1+s)=W (2*g+1+s):=by
  rw[turnS_at es g _ h1,if_neg]
  rintro ⟨t,ht,e⟩
  exact h3 t ht s (by simp) (by omega)
 rw[cntS_app,Fp,Fp,this,Nat.add_zero]

def TrnI(es:List (Nat×Nat×Nat))(P:Sp)(W0:Nat->Nat)(g cn:Nat)(rs:List Nat)(nb:Nat)(wl:World)(pre:List Nat)(S:Nat->Prop)(W':World):Prop:=
 ArenaAt W' P.a P.q (BU es g pre W0) P.n/\W'.heap[nb]?=some (.cells #[.int .i64 (cn+Fp es g pre W0:Nat)] 3 (0,0))/\(S=λ k=>k=P.a\/k=P.q\/k=nb)/\Kp (λ k=>k=P.a\/k=P.q\/k=nb) wl W'/\pre <+: rs

theorem hsW1{w w':World}{P:Sp}{W:Nat->Nat}{cs:List Cel}(h:AB w P W cs)(k:Kp Ab w w'):AB w' P W cs:=by
 obtain⟨f,h1,h2,h3⟩:=h
 exact⟨f,h1.Ad k,h2,h3⟩

theorem rfG_len{P:Sp}{W:Nat->Nat}{cs:List Cel}(h:CellsAt P W cs)(g:Nat):(rfG P.ts cs g).length<=65536:=by
 unfold rfG
 cases hf:cs.find? (λ c=>c.tag==1&&c.g==g) with
 |none=>simp
 |some c=>
  have h1:=List.find?_some hf
  have h2:=List.mem_of_find?_eq_some hf
  simp only[Bool.and_eq_true,beq_iff_eq] at h1
  simp only
  unfold Cu
  cases ht:typeOf P.ts (c.ty:Nat) with
  |none=>simp
  |some x=>
   obtain⟨k,wds,m⟩:=x
   exact Ec (kind_of h h2 h1.1 ht)

def DoCut(P:Sp)(c:Cel)(wb:World)(x10 x11:Value)(wx:World):Prop:=
 ∃ (hb b:Nat) (k wds:Int) (m:Nat),x10=.pointer (some ⟨hb,0,none⟩)/\x11=.int .i64 0/\wx.heap[hb]?=some (.cells #[.pointer (some ⟨b,0,none⟩)] 44 (0,0))/\BH wx b P.a c k wds m/\
  (AQ k wds m (c.ln:Nat)=0/\m<18446744073709551616/\Cu P.ts c=A8 k wds m (c.ln:Nat)/\2*c.g+1+AP k wds (c.ln:Nat)<=(P.n:Nat))/\Kp Ab wb wx/\wb.heap.size<=b/\wb.heap.size<=hb

theorem SpaceAt.wordsS{S:Nat->Prop}{w w':World}{P:Sp}{W W':Nat->Nat}{f:Nat->Bool}(h:SpaceAt w P W f)(k:Kp S w w')(hS:∀ i,P.all i->S i->i=P.a\/i=P.q)(ar:ArenaAt w' P.a P.q W' P.n):SpaceAt w' P W' f:=by
 have hA:=h.ap.1 P.a (.inl rfl)
 have hQ:=h.ap.1 P.q (.inr (.inl rfl))
 have h1:=h.ap.2.1
 have h2:=h.ap.2.2
 have hn:∀ i,P.all i->¬ i=P.a->¬ i=P.q->¬ S i:=λ i hi n1 n2 hs=>by
  rcases hS i hi hs with e|e
  .exact n1 e
  .exact n2 e
 refine⟨k.at_ h.hs (hn _ (by simp[Sp.all]) ?_ ?_),ar,h.tb.keep k (hn _ (by simp[Sp.all]) ?_ ?_) (hn _ (by simp[Sp.all]) ?_ ?_),h.bt.keep k (hn _ (by simp[Sp.all]) ?_ ?_) (hn _ (by simp[Sp.all]) ?_ ?_),h.fl.keep k (hn _ (by simp[Sp.all]) ?_ ?_),h.ap,h.ev,λ i hi=>Nat.lt_of_lt_of_le (h.lt i hi) k.size⟩ <;> omega

def TDoPost(P:Sp)(W:Nat->Nat)(cs:List Cel)(es:List (Nat×Nat×Nat))(w:World)(e:Ending)(w':World):Prop:=
 e=.returned (.tuple #[.int .i64 (ET es (rfG P.ts cs) es W:Nat),.int .i64 0])/\AB w' P (CZ es (rfG P.ts cs) es W) cs/\Kp (λ k=>k=P.a\/k=P.q) w w'

attribute [local go_sem] Oper.semAt_some

set_option maxRecDepth 20000 in
theorem TDo_at(P:Sp)(W:Nat->Nat)(cs:List Cel)(es:List (Nat×Nat×Nat))(v:Value)(w:World)(hs:AB w P W cs)(h:C9 w v es)(hg:GoodP cs es)(hl:es.length<=32768)(hms:∀ x∈P.ts,x.m<18446744073709551616)(hv:∀ b o l c,v=.slice (some ⟨b,o,none⟩) l c->¬ P.own b):
  Calls prog 28 #[.pointer (some ⟨P.s,0,none⟩),.agg #[v]] w (TDoPost P W cs es w):=by
 have HSp:=sE hs
 have HRo:=sE h
 have HGp:=sE hg
 obtain⟨va,vc,rfl,-⟩:=h
 obtain⟨n,hn⟩:∃ n,es.length=n:=⟨_,rfl⟩
 rw[hn] at HRo hl hv ⊢
 have HN:=sE hn
 obtain⟨f,hsp,hcs,hst⟩:=hs
 have lall:=hsp.lt
 have hsm:=hsp.ar.small
 have HFt:Sl (Fv cs (castS es)):=⟨hg.fits⟩
 have HSm:Sl (∀ x∈es,x.1<=65536/\x.2.1<=65536):=⟨λ x hx=>by
  have:=hg.fit hcs.tl hx
  omega⟩
 obtain⟨B,hB⟩:∃ B,w.heap.size=B:=⟨_,rfl⟩
 have HB:=sE hB
 obtain⟨w1,hw1⟩:∃ w1,w1=(w.alloc (.cells #[.slice va n vc] 33)).alloc (.cells #[.int .i64 0] 3):=⟨_,rfl⟩
 have k1:Kp Ab w w1:=by rw[hw1];exact ((Kr _ w).alloc _).alloc _
 have b0:w1.heap[B]?=some (.cells #[.slice va n vc] 33 (0,0)):=by
  rw[hw1,<- hB]
  exact((Kr Ab _).alloc _).at_ (wN w _) (λ h=>h)
 have b1:w1.heap[B+1]?=some (.cells #[.int .i64 0] 3 (0,0)):=by
  rw[hw1]
  have:=wN (w.alloc (.cells #[.slice va n vc] 33)) (.cells #[.int .i64 0] 3)
  rwa [show (w.alloc (.cells #[.slice va n vc] 33)).heap.size=B+1 by simp[hB]] at this
 have HCk:=sE (TCheck_at P W cs (castS es) (.slice va n vc) w1 (hsW1 HSp.out k1) (HRo.out.Ad k1).rowH (by rw[castS_len,HN.out];omega))
 have HK1:=sE k1
 have Hb0:=sE b0
 have Hb1:=sE b1
 have c0:=cell_of_one b0
 clear hn hg k1 b0 b1 hsp hcs hst
 refine(callsIn_wide (n:=0)).1 ?_
 refine callsIn_of_wp_marks func28 rfl trivial ?_
 simp only[ntmps28,List.size_toArray,List.length_cons,List.length_nil,Nat.reduceAdd,Nat.reduceSub,Array.replicate_succ,Array.replicate_zero,List.push_toArray,List.append_toArray,List.nil_append,List.cons_append]
 gi_wp2_with fail
 rw[<- hw1]
 clear hw1
 try rw[hB]
 refine⟨trivial,rfl,?_⟩
 refine(callsIn_wide.2 HCk.out).mono ?_
 rintro e w2 ⟨(⟨-,rfl⟩|⟨hno,-⟩),k2⟩
 case inr=>exact absurd HFt.out hno
 have HK2:Sl (Kp Ab w w2):=⟨HK1.out.then' k2⟩
 have Hb2:=sE (k2.at_ Hb1.out (λ h=>h))
 have Hb20:=sE (k2.at_ Hb0.out (λ h=>h))
 have HOf:=sE (TOf_at es (.slice va n vc) w2 (HRo.out.Ad HK2.out) (by rw[HN.out];omega) HSm.out)
 replace c0:=k2.cell c0 (λ h=>h)
 clear k2 HCk
 gi_wp2_with fail
 refine⟨trivial,rfl,?_⟩
 refine(callsIn_wide.2 HOf.out).mono ?_
 rintro e w3 ⟨mb,nm,rfl,hA,hmb,k3⟩
 obtain⟨w4,hw4⟩:∃ w4,w4=w3.alloc (.cells #[.map (some mb)] 126):=⟨_,rfl⟩
 have k4:Kp Ab w3 w4:=by rw[hw4];exact (Kr _ w3).alloc _
 have b4:w4.heap[w3.heap.size]?=some (.cells #[.map (some mb)] 126 (0,0)):=by rw[hw4];exact wN w3 _
 have z4:w4.heap.size=w3.heap.size+1:=by rw[hw4];simp
 have HA4:=sE (hA.keep k4 (λ h=>h))
 have HK4:Sl (Kp Ab w w4):=⟨HK2.out.then' (k3.then' k4)⟩
 have HK24:Sl (Kp Ab w2 w4):=⟨k3.then' k4⟩
 have Hb4:=sE (HK24.out.at_ Hb2.out (λ h=>h))
 have Hb40:=sE (HK24.out.at_ Hb20.out (λ h=>h))
 have lmb:=hA.lt
 have lB1:=lt_of_heap Hb2.out
 have z23:=k3.size
 obtain⟨C,hC⟩:∃ C,w3.heap.size=C:=⟨_,rfl⟩
 rw[hC] at b4 z4 lmb z23
 have HT4:=sE b4
 replace c0:=k3.cell c0 (λ h=>h)
 have lB0:B<C:=by omega
 have lB0':B<w3.heap.size:=by omega
 clear hA k3 k4 b4
 gi_wp2_with fail
 try rw[hC]
 rw[<- hw4]
 clear hw4
 obtain⟨D,hD⟩:∃ D,C+1=D:=⟨_,rfl⟩
 rw[hD] at z4
 have hrl:∀ g,(rfG P.ts cs g).length<=65536:=λ g=>by
  obtain⟨f,-,hc,-⟩:=HSp.out
  exact rfG_len hc g
 have HCt:Sl (∀ j,ET es (rfG P.ts cs) (es.take j) W<=65536*n):=⟨λ j=>by
  have:=cntT_le es (rfG P.ts cs) hrl (es.take j) W
  have h2:(es.take j).length<=n:=by rw[<- HN.out];exact List.length_take_le' _ _
  exact Nat.le_trans this (Nat.mul_le_mul_left _ h2)⟩
 clear hrl
 refine wpIn_loop (λ a' wr=>∃ (u9 u10 u11 u12 u13 u14 u27 u28 u29 u30 u31 u32 u33 u34 u35 u36 u37 u38 u39 u40 u41 u42 u43 u44 u45 u46 u47 u48 u49 u50 u51 u52 u53 u54 u55 u56 u57 u58 u59 u60 u61 u62:Value) (ds:List Deferred) (j:Nat),(j<=n/\AB wr P (CZ es (rfG P.ts cs) (es.take j) W) cs/\wr.heap[B+1]?=some (.cells #[.int .i64 (ET es (rfG P.ts cs) (es.take j) W:Nat)] 3 (0,0))/\Cw D ds wr/\Kp (λ k=>k=P.a\/k=P.q\/k=B+1) w4 wr)/\
   a'={tmps:=#[.pointer (some ⟨P.s,0,none⟩),.agg #[.slice va n vc],undef,.pointer (some ⟨B,0,none⟩),.pointer (some ⟨B+1,0,none⟩),.int .i64 0,.int .i64 0,.pointer (some ⟨C,0,none⟩),undef,u9,u10,u11,u12,u13,u14,.pointer (some ⟨P.s,0,none⟩),.agg #[.slice va n vc],.int .i64 0,.int .i64 0,.bool false,undef,.agg #[.slice va n vc],.agg #[.map (some mb)],.pointer (some ⟨B,0,none⟩),.slice va n vc,.int .i64 (n:Nat),.int .i64 (j:Nat),u27,u28,u29,u30,u31,u32,u33,u34,u35,u36,u37,u38,u39,u40,u41,u42,u43,u44,u45,u46,u47,u48,u49,u50,u51,u52,u53,u54,u55,u56,u57,u58,u59,u60,u61,u62,undef],defers:=ds}) (λ a' _=>n-(intOf (a'.tmps.getD 26 undef)).toNat) ?_ ?_
 .refine ⟨undef,undef,undef,undef,undef,undef,undef,undef,undef,undef,undef,undef,undef,undef,undef,undef,undef,undef,undef,undef,undef,undef,undef,undef,undef,undef,undef,undef,undef,undef,undef,undef,undef,undef,undef,undef,undef,undef,undef,undef,undef,undef,[],0,⟨Nat.zero_le _,hsW1 HSp.out HK4.out,Hb4.out,trivial,Kr _ _⟩,rfl⟩
 intro _ wr hinv
 obtain⟨u9,u10,u11,u12,u13,u14,u27,u28,u29,u30,u31,u32,u33,u34,u35,u36,u37,u38,u39,u40,u41,u42,u43,u44,u45,u46,u47,u48,u49,u50,u51,u52,u53,u54,u55,u56,u57,u58,u59,u60,u61,u62,ds,j,⟨hj,hS,hb,hM,hk⟩,ha⟩:=hinv
 subst ha
 try dsimp only
 have HS:=sE hS
 have HBn:=sE hb
 have HMk:=sE hM
 have HK:=sE hk
 by_cases hjl:j<n
 .have hjl':(j:Int)<(n:Int):=by omega
  obtain⟨va',vc',e,hx⟩:=HRo.out
  injection e with e1 e3 e2
  clear e3
  subst e1 e2
  obtain⟨x,hxj⟩:∃ x,es[j]?=some x:=⟨_,List.getElem?_eq_getElem (by rw[HN.out];exact hjl)⟩
  obtain⟨bb,o,rfl,hbb,x0,x1,x2⟩:=hx j x hxj
  have hnb:¬ (bb=P.a\/bb=P.q\/bb=B+1):=by
   have:=hv bb o n vc rfl
   unfold Sp.own at this
   omega
  have x0':=hk.cell (HK4.out.cell x0 (λ h=>h)) hnb
  have x1':=hk.cell (HK4.out.cell x1 (λ h=>h)) hnb
  have x2':=hk.cell (HK4.out.cell x2 (λ h=>h)) hnb
  have HX:=sE hxj
  obtain⟨xf,xt,xz⟩:=x
  simp only at x0' x1' x2'
  obtain⟨wb,hwb⟩:∃ wb,wb=wr.alloc (.cells #[.int .i64 (xf:Nat),.int .i64 (xt:Nat),.int .i64 (xz:Nat)] 43):=⟨_,rfl⟩
  have kb:Kp Ab wr wb:=by rw[hwb];exact (Kr _ wr).alloc _
  have bb0:wb.heap[wr.heap.size]?=some (.cells #[.int .i64 (xf:Nat),.int .i64 (xt:Nat),.int .i64 (xz:Nat)] 43 (0,0)):=by rw[hwb];exact wN wr _
  obtain⟨y0,y1,y2⟩:=cells3 bb0
  have HKb:=sE kb
  have HBb:=sE bb0
  obtain⟨c,hcm,c1,c2,c3⟩:=HGp.out.obj (xf,xt,xz) (List.mem_of_getElem? hxj)
  simp only at c2 c3
  obtain⟨f',hs',hc',hst'⟩:=HS.out
  have hmem:=hc'.tl.mem hcm
  have HAr:Sl (∀ W',Kp Ab wr W'->Calls prog 14 #[.pointer (some ⟨P.s,0,none⟩)] W' λ e w'=>e=.returned (.pointer (some ⟨P.a,0,none⟩))/\w'=W'):=⟨λ W' k=>Ck P _ f' W' (hs'.Ad k)⟩
  have HTb:Sl (∀ W',Kp Ab wr W'->Calls prog 15 #[.pointer (some ⟨P.s,0,none⟩)] W' λ e w'=>e=.returned (.pointer (some ⟨P.t,0,none⟩))/\w'=W'):=⟨λ W' k=>Fx P _ f' W' (hs'.Ad k)⟩
  have HOf:Sl (∀ W',Kp Ab wr W'->Calls prog 13 #[.pointer (some ⟨P.a,0,none⟩),.pointer (some ⟨P.t,0,none⟩),.int .i64 (xf:Nat)] W' λ e w'=>
   ∃ b k wds m,((AQ k wds m (c.ln:Nat)=0/\m<18446744073709551616)/\Cu P.ts c=A8 k wds m (c.ln:Nat)/\2*c.g+1+AP k wds (c.ln:Nat)<=(P.n:Nat))/\e=.returned (.tuple #[.pointer (some ⟨b,0,none⟩),.int .i64 0])/\BH w' b P.a c k wds m/\W'.heap.size<=b/\Kp Ab W' w'):=⟨λ W' k=>by
    rw[<- c2]
    exact SOf_one c P _ f' W' (hs'.Ad k) (hc'.ok c hcm) (hc'.hd c hcm) hmem.2.1 hmem.2.2 c1 hms⟩
  have HC:=sE (And.intro hcm (And.intro c1 (And.intro c2 c3)))
  clear hx hxj hk kb bb0 hS hb hM x0 x1 x2 hnb hcm c1 c2 c3 hs' hc' hst' hmem
  gi_wp2_with fail
  rw[<- hwb]
  clear hwb x0' x1' x2'
  gi_cut [10,11] from 64 (λ x10 x11 wx=>DoCut P c wb x10 x11 wx)
  case first=>
   refine wpIn_only ?_
   refine wpIn_wide.2 ?_
   have kk0:Kp Ab wb wb.drew:=(Kr _ _).drew
   refine wp_region_held_drew (S:=λ w'=>w'.cell? ⟨wr.heap.size,0,none⟩=some (.int .i64 (xf:Nat))) (by kernel_rfl) ?_ (λ hHeld=>?_)
   .exact y0
   refine Ao 0 ?_;refine Ao 2 ?_;refine Ao 4 ?_;refine Ao 5 ?_
   try simp only[Ar]
   refine AO [1,10] ?_
   refine Ai rfl (λ K hK=>?_) ?_
   .skip
    go_simp
    with_reducible refine(HAr.out _ (HKb.out.then' kk0)).mono ?_
    rintro e wz ⟨rfl,rfl⟩
    refine hK _ _ ?_ (λ hHeld=>?_)
    .exact Ac kk0 y0
    clear hK K
    try simp only[Ar]
    refine AO [3,10] ?_
    refine Ai rfl (λ K hK=>?_) ?_
    .skip
     go_simp
     with_reducible refine(HTb.out _ (HKb.out.then' kk0)).mono ?_
     rintro e wz ⟨rfl,rfl⟩
     refine hK _ _ ?_ (λ hHeld=>?_)
     .exact Ac kk0 y0
     clear hK K
     try simp only[Ar]
     refine AO [6,10] ?_
     refine Ai rfl (λ K hK=>?_) ?_
     .skip
      go_simp
      with_reducible refine(HOf.out _ (HKb.out.then' kk0)).mono ?_
      rintro e wh6 ⟨b,kk,wds,m,⟨⟨hE,hm⟩,hrf,hfit⟩,rfl,hV,hbn0,kh5x⟩
      have HKd:=sE (And.intro hE (And.intro hm (And.intro hrf hfit)))
      have hbz:wb.heap.size<=b:=Nat.le_trans (kk0).size hbn0
      have lbv:b<wh6.heap.size:=lt_of_heap hV
      clear hE hm hrf hfit
      have kh5:=(kk0).then' kh5x
      refine hK _ _ ?_ (λ hHeld=>?_)
      .exact Ac kh5 y0
      clear hK K
      try simp only[Ar]
      refine Ao 7 ?_;refine Ao 8 ?_;refine Ao 9 ?_
      try simp only[Ar]
      refine AO [10] ?_
      refine Ag rfl (λ K hK=>?_)
      go_simp
      obtain⟨wa7,hwa7⟩:∃ wa7,wa7=World.alloc wh6 (.cells #[.pointer none] 44):=⟨_,rfl⟩
      rw[<- hwa7]
      have ka8x:Kp Ab wh6 wa7:=by rw[hwa7];exact (Kr Ab wh6).alloc _
      have ka8b:wa7.heap[wh6.heap.size]?=some (.cells #[.pointer none] 44 (0,0)):=by rw[hwa7];exact wN wh6 _
      have ka8:Kp Ab wb wa7:=(kh5).then' ka8x
      have ka8l:wb.heap.size<=wh6.heap.size:=(kh5).size
      have ka8m:wh6.heap.size<wa7.heap.size:=lt_of_heap ka8b
      clear hwa7
      refine hK _ _ ?_ (λ hHeld=>?_)
      .exact Ac ka8 y0
      clear hK K
      try simp only[Ar]
      have cv9:=hV.Ad ka8x
      refine AO [11] ?_
      refine Ag rfl (λ K hK=>?_)
      have cS:=cell_of_one ka8b
      have fS:=free_of_one ka8b
      have lS:=lt_of_heap ka8b
      go_simp
      obtain⟨wn,hwn⟩:∃ wn:World,wn=wa7.setCell ⟨wh6.heap.size,0,none⟩ (.pointer (some ⟨b,0,none⟩)):=⟨_,rfl⟩
      have hbn:wn.heap[wh6.heap.size]?=some (.cells #[.pointer (some ⟨b,0,none⟩)] 44 (0,0)):=by rw[hwn];exact Fe ka8b _
      have kn:Kp Ab wb wn:=by rw[hwn];exact ((ka8.Am (λ i=>i=wh6.heap.size)).trans ((Kr (λ i=>i=wh6.heap.size) _).setCell (λ _=>rfl) _) (λ _ _ h=>h)).mono (λ k hk h=>by have h1:k=wh6.heap.size:=h;omega)
      have HVw:=sE (cv9.keep ((Kr (λ i=>i=wh6.heap.size) wa7).setCell (p:=⟨wh6.heap.size,0,none⟩) (λ _=>rfl) (.pointer (some ⟨b,0,none⟩))) (show ¬ _=_ by omega))
      rw[<- hwn] at HVw
      rw[<- hwn]
      clear hwn cS fS lS
      refine hK _ _ ?_ (λ hHeld=>?_)
      .exact Ac kn y0
      clear hK K
      try simp only[Ar]
      refine Ao 12 ?_
      try simp only[Ar]
      refine wpAnyH_done (by kernel_rfl) ?_ _
      gi_wp2_with fail
      gi_meet
      exact⟨wh6.heap.size,b,kk,wds,m,rfl,rfl,hbn,HVw.out,HKd.out,kn,hbz,by omega⟩
     .refine Ai rfl (λ K hK=>?_) AllReadyH.nil
      go_simp
      obtain⟨wa10,hwa10⟩:∃ wa10,wa10=(World.alloc wb (.cells #[.pointer none] 44)).drew:=⟨_,rfl⟩
      rw[<- hwa10]
      have ka11x:Kp Ab wb wa10:=by rw[hwa10];exact ((Kr Ab wb).alloc _).drew
      have ka11b:wa10.heap[wb.heap.size]?=some (.cells #[.pointer none] 44 (0,0)):=by rw[hwa10];exact wN wb _
      have ka11:Kp Ab wb wa10:=ka11x
      have ka11l:wb.heap.size<=wb.heap.size:=Nat.le_refl _
      have ka11m:wb.heap.size<wa10.heap.size:=lt_of_heap ka11b
      clear hwa10
      refine hK _ _ ?_ (λ hHeld=>?_)
      .exact Ac ka11 y0
      clear hK K
      try simp only[Ar]
      refine AO [6] ?_
      refine Ag rfl (λ K hK=>?_)
      go_simp
      with_reducible refine(HOf.out _ (HKb.out.then' ka11)).mono ?_
      rintro e wh13 ⟨b,kk,wds,m,⟨⟨hE,hm⟩,hrf,hfit⟩,rfl,hV,hbn0,kh12x⟩
      have HKd:=sE (And.intro hE (And.intro hm (And.intro hrf hfit)))
      have hbz:wb.heap.size<=b:=Nat.le_trans (ka11).size hbn0
      have lbv:b<wh13.heap.size:=lt_of_heap hV
      clear hE hm hrf hfit
      have kh12:=(ka11).then' kh12x
      have ab14:=kh12x.at_ ka11b (λ h=>h)
      refine hK _ _ ?_ (λ hHeld=>?_)
      .exact Ac kh12 y0
      clear hK K
      try simp only[Ar]
      refine Ao 7 ?_;refine Ao 8 ?_;refine Ao 9 ?_
      try simp only[Ar]
      refine AO [11] ?_
      refine Ag rfl (λ K hK=>?_)
      have cS:=cell_of_one ab14
      have fS:=free_of_one ab14
      have lS:=lt_of_heap ab14
      go_simp
      obtain⟨wn,hwn⟩:∃ wn:World,wn=wh13.setCell ⟨wb.heap.size,0,none⟩ (.pointer (some ⟨b,0,none⟩)):=⟨_,rfl⟩
      have hbn:wn.heap[wb.heap.size]?=some (.cells #[.pointer (some ⟨b,0,none⟩)] 44 (0,0)):=by rw[hwn];exact Fe ab14 _
      have kn:Kp Ab wb wn:=by rw[hwn];exact ((kh12.Am (λ i=>i=wb.heap.size)).trans ((Kr (λ i=>i=wb.heap.size) _).setCell (λ _=>rfl) _) (λ _ _ h=>h)).mono (λ k hk h=>by have h1:k=wb.heap.size:=h;omega)
      have HVw:=sE (hV.keep ((Kr (λ i=>i=wb.heap.size) wh13).setCell (p:=⟨wb.heap.size,0,none⟩) (λ _=>rfl) (.pointer (some ⟨b,0,none⟩))) (show ¬ _=_ by omega))
      rw[<- hwn] at HVw
      rw[<- hwn]
      clear hwn cS fS lS
      refine hK _ _ ?_ (λ hHeld=>?_)
      .exact Ac kn y0
      clear hK K
      try simp only[Ar]
      refine Ao 12 ?_
      try simp only[Ar]
      refine wpAnyH_done (by kernel_rfl) ?_ _
      gi_wp2_with fail
      gi_meet
      exact⟨wb.heap.size,b,kk,wds,m,rfl,rfl,hbn,HVw.out,HKd.out,kn,hbz,by omega⟩
    .refine Ai rfl (λ K hK=>?_) AllReadyH.nil
     go_simp
     obtain⟨wa15,hwa15⟩:∃ wa15,wa15=(World.alloc wb (.cells #[.pointer none] 44)).drew:=⟨_,rfl⟩
     rw[<- hwa15]
     have ka16x:Kp Ab wb wa15:=by rw[hwa15];exact ((Kr Ab wb).alloc _).drew
     have ka16b:wa15.heap[wb.heap.size]?=some (.cells #[.pointer none] 44 (0,0)):=by rw[hwa15];exact wN wb _
     have ka16:Kp Ab wb wa15:=ka16x
     have ka16l:wb.heap.size<=wb.heap.size:=Nat.le_refl _
     have ka16m:wb.heap.size<wa15.heap.size:=lt_of_heap ka16b
     clear hwa15
     refine hK _ _ ?_ (λ hHeld=>?_)
     .exact Ac ka16 y0
     clear hK K
     try simp only[Ar]
     refine AO [3] ?_
     refine Ag rfl (λ K hK=>?_)
     go_simp
     with_reducible refine(HTb.out _ (HKb.out.then' ka16)).mono ?_
     rintro e wz ⟨rfl,rfl⟩
     refine hK _ _ ?_ (λ hHeld=>?_)
     .exact Ac ka16 y0
     clear hK K
     try simp only[Ar]
     refine AO [6] ?_
     refine Ag rfl (λ K hK=>?_)
     go_simp
     with_reducible refine(HOf.out _ (HKb.out.then' ka16)).mono ?_
     rintro e wh20 ⟨b,kk,wds,m,⟨⟨hE,hm⟩,hrf,hfit⟩,rfl,hV,hbn0,kh19x⟩
     have HKd:=sE (And.intro hE (And.intro hm (And.intro hrf hfit)))
     have hbz:wb.heap.size<=b:=Nat.le_trans (ka16).size hbn0
     have lbv:b<wh20.heap.size:=lt_of_heap hV
     clear hE hm hrf hfit
     have kh19:=(ka16).then' kh19x
     have ab21:=kh19x.at_ ka16b (λ h=>h)
     refine hK _ _ ?_ (λ hHeld=>?_)
     .exact Ac kh19 y0
     clear hK K
     try simp only[Ar]
     refine Ao 7 ?_;refine Ao 8 ?_;refine Ao 9 ?_
     try simp only[Ar]
     refine AO [11] ?_
     refine Ag rfl (λ K hK=>?_)
     have cS:=cell_of_one ab21
     have fS:=free_of_one ab21
     have lS:=lt_of_heap ab21
     go_simp
     obtain⟨wn,hwn⟩:∃ wn:World,wn=wh20.setCell ⟨wb.heap.size,0,none⟩ (.pointer (some ⟨b,0,none⟩)):=⟨_,rfl⟩
     have hbn:wn.heap[wb.heap.size]?=some (.cells #[.pointer (some ⟨b,0,none⟩)] 44 (0,0)):=by rw[hwn];exact Fe ab21 _
     have kn:Kp Ab wb wn:=by rw[hwn];exact ((kh19.Am (λ i=>i=wb.heap.size)).trans ((Kr (λ i=>i=wb.heap.size) _).setCell (λ _=>rfl) _) (λ _ _ h=>h)).mono (λ k hk h=>by have h1:k=wb.heap.size:=h;omega)
     have HVw:=sE (hV.keep ((Kr (λ i=>i=wb.heap.size) wh20).setCell (p:=⟨wb.heap.size,0,none⟩) (λ _=>rfl) (.pointer (some ⟨b,0,none⟩))) (show ¬ _=_ by omega))
     rw[<- hwn] at HVw
     rw[<- hwn]
     clear hwn cS fS lS
     refine hK _ _ ?_ (λ hHeld=>?_)
     .exact Ac kn y0
     clear hK K
     try simp only[Ar]
     refine Ao 12 ?_
     try simp only[Ar]
     refine wpAnyH_done (by kernel_rfl) ?_ _
     gi_wp2_with fail
     gi_meet
     exact⟨wb.heap.size,b,kk,wds,m,rfl,rfl,hbn,HVw.out,HKd.out,kn,hbz,by omega⟩
   .refine Ai rfl (λ K hK=>?_) AllReadyH.nil
    go_simp
    obtain⟨wa22,hwa22⟩:∃ wa22,wa22=(World.alloc wb (.cells #[.pointer none] 44)).drew:=⟨_,rfl⟩
    rw[<- hwa22]
    have ka23x:Kp Ab wb wa22:=by rw[hwa22];exact ((Kr Ab wb).alloc _).drew
    have ka23b:wa22.heap[wb.heap.size]?=some (.cells #[.pointer none] 44 (0,0)):=by rw[hwa22];exact wN wb _
    have ka23:Kp Ab wb wa22:=ka23x
    have ka23l:wb.heap.size<=wb.heap.size:=Nat.le_refl _
    have ka23m:wb.heap.size<wa22.heap.size:=lt_of_heap ka23b
    clear hwa22
    refine hK _ _ ?_ (λ hHeld=>?_)
    .exact Ac ka23 y0
    clear hK K
    try simp only[Ar]
    refine AO [1] ?_
    refine Ag rfl (λ K hK=>?_)
    go_simp
    with_reducible refine(HAr.out _ (HKb.out.then' ka23)).mono ?_
    rintro e wz ⟨rfl,rfl⟩
    refine hK _ _ ?_ (λ hHeld=>?_)
    .exact Ac ka23 y0
    clear hK K
    try simp only[Ar]
    refine AO [3] ?_
    refine Ag rfl (λ K hK=>?_)
    go_simp
    with_reducible refine(HTb.out _ (HKb.out.then' ka23)).mono ?_
    rintro e wz ⟨rfl,rfl⟩
    refine hK _ _ ?_ (λ hHeld=>?_)
    .exact Ac ka23 y0
    clear hK K
    try simp only[Ar]
    refine AO [6] ?_
    refine Ag rfl (λ K hK=>?_)
    go_simp
    with_reducible refine(HOf.out _ (HKb.out.then' ka23)).mono ?_
    rintro e wh29 ⟨b,kk,wds,m,⟨⟨hE,hm⟩,hrf,hfit⟩,rfl,hV,hbn0,kh28x⟩
    have HKd:=sE (And.intro hE (And.intro hm (And.intro hrf hfit)))
    have hbz:wb.heap.size<=b:=Nat.le_trans (ka23).size hbn0
    have lbv:b<wh29.heap.size:=lt_of_heap hV
    clear hE hm hrf hfit
    have kh28:=(ka23).then' kh28x
    have ab30:=kh28x.at_ ka23b (λ h=>h)
    refine hK _ _ ?_ (λ hHeld=>?_)
    .exact Ac kh28 y0
    clear hK K
    try simp only[Ar]
    refine Ao 7 ?_;refine Ao 8 ?_;refine Ao 9 ?_
    try simp only[Ar]
    refine AO [11] ?_
    refine Ag rfl (λ K hK=>?_)
    have cS:=cell_of_one ab30
    have fS:=free_of_one ab30
    have lS:=lt_of_heap ab30
    go_simp
    obtain⟨wn,hwn⟩:∃ wn:World,wn=wh29.setCell ⟨wb.heap.size,0,none⟩ (.pointer (some ⟨b,0,none⟩)):=⟨_,rfl⟩
    have hbn:wn.heap[wb.heap.size]?=some (.cells #[.pointer (some ⟨b,0,none⟩)] 44 (0,0)):=by rw[hwn];exact Fe ab30 _
    have kn:Kp Ab wb wn:=by rw[hwn];exact ((kh28.Am (λ i=>i=wb.heap.size)).trans ((Kr (λ i=>i=wb.heap.size) _).setCell (λ _=>rfl) _) (λ _ _ h=>h)).mono (λ k hk h=>by have h1:k=wb.heap.size:=h;omega)
    have HVw:=sE (hV.keep ((Kr (λ i=>i=wb.heap.size) wh29).setCell (p:=⟨wb.heap.size,0,none⟩) (λ _=>rfl) (.pointer (some ⟨b,0,none⟩))) (show ¬ _=_ by omega))
    rw[<- hwn] at HVw
    rw[<- hwn]
    clear hwn cS fS lS
    refine hK _ _ ?_ (λ hHeld=>?_)
    .exact Ac kn y0
    clear hK K
    try simp only[Ar]
    refine Ao 12 ?_
    try simp only[Ar]
    refine wpAnyH_done (by kernel_rfl) ?_ _
    gi_wp2_with fail
    gi_meet
    exact⟨wb.heap.size,b,kk,wds,m,rfl,rfl,hbn,HVw.out,HKd.out,kn,hbz,by omega⟩
  case rest=>
   obtain⟨hb,b,kk,wds,m,rfl,rfl,hhb,hV,⟨hE,hm,hrf,hfit⟩,kc,hbz,hhz⟩:=hcut
   obtain⟨f',hs',hc',hst'⟩:=HS.out
   obtain⟨Wj,hWj⟩:∃ Wj,CZ es (rfG P.ts cs) (es.take j) W=Wj:=⟨_,rfl⟩
   obtain⟨cn,hcn⟩:∃ cn,ET es (rfG P.ts cs) (es.take j) W=cn:=⟨_,rfl⟩
   have hcl:=HCt.out j
   rw[hWj] at hs' hc'
   rw[hcn] at hcl
   have KC:Kp Ab wr wc:=HKb.out.then' kc
   have HKC:=sE KC
   have HSc:=sE (hs'.Ad KC)
   have HNc:=sE (KC.at_ HBn.out (λ h=>h))
   rw[hcn] at HNc
   have hz0:=HK.out.size
   have hz1:=KC.size
   have hzb:=HKb.out.size
   have hBe:=HB.out
   have lbb:=lt_of_heap hV
   have lhb:=lt_of_heap hhb
   obtain⟨hC1,hC2,hC3,hC4⟩:=HC.out
   have hlen:=Ec (M:=m) hE
   have hrfx:rfG P.ts cs xf=A8 kk wds m (c.ln:Nat):=by rw[<- hC3,rfG_at hc'.tl hC1 hC2,hrf]
   have HSl:Sl (∀ s∈A8 kk wds m (c.ln:Nat),(s:Int)<AP kk wds (c.ln:Nat)):=⟨λ s hs=>EL hE hs⟩
   have HNd:=sE (refsT_nodup kk wds m (c.ln:Nat))
   obtain⟨X,hX⟩:∃ X,wc.heap.size=X:=⟨_,rfl⟩
   obtain⟨wl,hwl⟩:∃ wl,wl=wc.alloc (.cells #[.pointer (some ⟨b,0,none⟩)] 132):=⟨_,rfl⟩
   have kl:Kp Ab wc wl:=by rw[hwl];exact (Kr _ wc).alloc _
   have bxl:wl.heap[X]?=some (.cells #[.pointer (some ⟨b,0,none⟩)] 132 (0,0)):=by rw[hwl,<- hX];exact wN wc _
   have zl:wl.heap.size=X+1:=by rw[hwl];simp [hX]
   have HAl:=sE ((HSc.out.Ad kl).ar)
   have HIt:Sl _:=⟨words_iter X b P.a P.q P.n Wj c kk wds m wl HAl.out (hV.Ad kl) hE hm hfit bxl (R:=λ i=>i=P.a\/i=P.q\/i=B+1) (X:=λ _=>False) (λ i hi=>by
    have l1:=lall P.a (.inr (.inr (.inl rfl)))
    have l2:=lall P.q (.inr (.inr (.inr (.inl rfl))))
    have l3:=HB.out
    rcases hi with rfl|rfl|rfl <;> refine⟨?_,?_,?_⟩ <;> omega)⟩
   have HVc:=sE (hV.Ad kl)
   have HHb:=sE (kl.at_ hhb (λ h=>h))
   have HKl:=sE kl
   have HKd:=sE (And.intro hE (And.intro hm hfit))
   have chb:=cell_of_one hhb
   clear hs' hc' hst' KC hV hhb kc kl bxl hE hm hfit hrf hC3
   gi_wp2_with fail
   refine⟨trivial,rfl,?_⟩
   refine(callsIn_wide.2 (twords_fn b wc)).mono ?_
   rintro e wy ⟨rfl,hwy⟩
   obtain rfl:wl=wy:=by rw[hwl,hwy]
   rw[hX]
   clear hwl hwy chb
   gi_wp2_with fail
   have l1:=lall P.a (.inr (.inr (.inl rfl)))
   have l2:=lall P.q (.inr (.inr (.inr (.inl rfl))))
   refine Fj (n:=0) (gf:=112) (lb:=#[.pointer (some ⟨X,0,none⟩)]) rfl (enters_of func112 (by kernel_rfl) rfl) HIt.out (λ i hi=>hi.elim) (λ i hi=>by
     rcases hi with rfl|rfl|rfl <;> omega) (λ i hi=>hi.elim) (λ _=>rfl)
    (λ pre S W'=>TrnI es P Wj c.g cn (A8 kk wds m (c.ln:Nat)) (B+1) wl pre S W') (λ c pre W'=>False) (λ i=>i=P.a\/i=P.q\/i=B+1) ?hS ?hI ?hIx ?h0 ?hround ?hdone ?hstop
   case hS=>
    rintro pre S A ⟨a1,a2,rfl,a4,a5⟩
    refine⟨⟨_,a1,λ s hs hn=>?_⟩,λ i hi=>⟨.inl hi,?_⟩⟩
    .rw [turnS_at es c.g _ (a5.sublist.nodup HNd.out),if_neg]
     rintro ⟨t,ht,e⟩
     have:s=t:=by omega
     exact hn (this▸ht)
    .have:=a4.size
     rcases hi with rfl|rfl|rfl <;> omega
   case hI=>
    rintro pre S A A' ⟨a1,a2,a3,a4,a5⟩ hk'
    have hn:∀ i,(Ab i\/i=wl.heap.size\/i=wl.heap.size+1)->¬ i=P.a/\¬ i=P.q/\¬ i=B+1:=λ i h=>by
     rcases h with h|h|h
     .exact h.elim
     .omega
     .omega
    exact⟨a1.keep hk' (λ h=>(hn _ h).1 rfl) (λ h=>(hn _ h).2.1 rfl),hk'.at_ a2 (λ h=>(hn _ h).2.2 rfl),a3,a4.trans hk' (λ i hi h=>by
     rcases h with h|h|h
     .exact h.elim
     .omega
     .omega),a5⟩
   case hIx=>exact λ c pre A B' h hk=>h
   case h0=>exact ⟨HAl.out,HKl.out.at_ HNc.out (λ h=>h),rfl,Kr _ _,List.nil_prefix⟩
   case hround=>
    rintro pre S s rest W' hx ⟨a1,a2,rfl,a4,a5⟩ hs
    have hpf:pre++[s] <+: A8 kk wds m (c.ln:Nat):=⟨rest,by rw[hx];simp⟩
    have hnd:=hpf.sublist.nodup HNd.out
    have hsm':s∈A8 kk wds m (c.ln:Nat):=by rw[hx];simp
    have hsl:=HSl.out s hsm'
    have hpl:pre.length<=65536:=by
     have:(A8 kk wds m (c.ln:Nat)).length=pre.length+(rest.length+1):=by rw[hx];simp
     omega
    have hcs:=cntS_le es c.g pre Wj
    have hkn:2*c.g+1+s<P.n:=by have:=HKd.out.2.2;omega
    have hy:=HAl.out.fits _ hkn
    have HTs:=turnS_snoc es c.g pre s Wj hnd
    have HCs:=cntS_snoc es c.g pre s Wj hnd
    have HT0:BU es c.g pre Wj (2*c.g+1+s)=Wj (2*c.g+1+s):=by
     rw[turnS_at es c.g _ (List.nodup_append.1 hnd).1,if_neg]
     rintro ⟨t,ht,e⟩
     have:s=t:=by omega
     exact(List.nodup_append.1 hnd).2.2 t ht s (by simp) this.symm
    obtain⟨y,hyy⟩:∃ y,Wj (2*c.g+1+s)=y:=⟨_,rfl⟩
    rw[hyy] at hy HTs HCs HT0
    have hyI:=hyy
    obtain⟨z,hz⟩:∃ z,toA es y=z:=⟨_,rfl⟩
    have hzl:z<18446744073709551616:=by rw[<- hz];exact toA_lt (λ x hx=>(HSm.out x hx).2) y
    rw[hz] at HTs HCs
    have KW:Kp (λ k=>k=P.a\/k=P.q\/k=B+1) w4 W':=((HK.out.trans HKC.out (λ _ _ h=>h.elim)).trans HKl.out (λ _ _ h=>h.elim)).trans a4 (λ _ _ h=>h)
    have HA1:=sE a1
    have HA2:=sE a2
    have HA4':=sE a4
    have HA5:=sE hpf
    have HKW:=sE KW
    have HTS:=sE HTs
    have HCS:=sE HCs
    have HT00:=sE HT0
    obtain⟨q,hq⟩:∃ q,cn+Fp es c.g pre Wj=q:=⟨_,rfl⟩
    have HQ:=sE hq
    have hql:q<=4294967296:=by omega
    rw[hyy]
    clear hx hsm' a1 a2 a4 a5 hnd hpf KW hcs HTs HCs HT0 hyI hq hpl hrfx
    gi_wp2_with fail
    refine⟨Kr _ _,?_⟩
    intro W2 hc2 hf2 hk2 hs2 hr2
    have K2:Kp (λ k=>k=P.a\/k=P.q\/k=B+1) wl W2:=HA4'.out.trans hk2 (λ i hi h=>by have h':i=wl.heap.size+1:=h;omega)
    have K42:Kp (λ k=>k=P.a\/k=P.q\/k=B+1) w4 W2:=HKW.out.trans hk2 (λ i hi h=>by have h':i=wl.heap.size+1:=h;have:=HKl.out.size;omega)
    have hA2:Cv W2 mb nm (mapA es):=HA4.out.keep K42 (by omega)
    have hlook:=hA2.look hy
    rw[toA_map,hz] at hlook
    have cT:=cell_of_one (K42.at_ HT4.out (by omega))
    have V2:BH W2 b P.a c kk wds m:=HVc.out.keep K2 (by omega)
    have cH:=cell_of_one (K2.at_ HHb.out (by omega))
    have n2:=hk2.at_ HA2.out (show ¬ _=_ by omega)
    rw[HQ.out] at n2
    have A2:=HA1.out.keep hk2 (show ¬ _=_ by omega) (show ¬ _=_ by omega)
    have HSt:=sE (VStore_yes s z b P.a P.q P.n _ c kk wds m W2 A2 V2 HKd.out.1 hsl hzl hkn)
    have HN2:=sE n2
    have HA22:=sE A2
    have HK2x:=sE K2
    have lW2:=K2.size
    clear hA2 V2 n2 A2 K42 K2 hc2 hf2 hk2 hs2 hr2 hz
    by_cases hzy:z=y
    .subst hzy
     have hzz:((z:Int) !=(z:Int))=false:=by simp
     gi_wp2_with fail
     refine⟨Kr _ W2,_,⟨?_,?_,rfl,HK2x.out,HA5.out⟩,λ i hi=>.inl hi⟩
     .rw [HTS.out,<- HT00.out,updW_same]
      exact HA22.out
     .have:=HCS.out
      simp only[if_true,Nat.add_zero] at this
      rw[this,HQ.out]
      exact HN2.out
    .have hzz:((z:Int) !=(y:Int))=true:=by rw[bne_iff_ne];omega
     gi_wp2_with fail
     refine⟨trivial,rfl,?_⟩
     refine(BO HSt.out).mono ?_
     rintro e w5 ⟨rfl,k5,A5⟩
     have n5:=k5.at_ HN2.out (show ¬ (_=_\/_=_) by omega)
     have cN:=cell_of_one n5
     have fN:=free_of_one n5
     have lN:=lt_of_heap n5
     have HN5:=sE n5
     have HA5x:=sE A5
     have HK5:=sE k5
     have u1:IntKind.i64.wrap ((q:Int)+1)=((q+1:Nat):Int):=by rw[IntKind.wrap_i64];omega
     clear k5 A5 n5 cT cH hlook
     gi_wp2_with fail
     have ks:Kp (λ k=>k=B+1) w5 (w5.setCell ⟨B+1,0,none⟩ (.int .i64 ((q:Int)+1))):=(Kr (λ k=>k=B+1) w5).setCell (λ _=>rfl) _
     refine⟨?_,_,⟨?_,?_,rfl,?_,HA5.out⟩,λ i hi=>.inl hi⟩
     .exact (HK5.out.mono (λ i hi h=>by rcases h with h|h;exact .inl h;exact .inr (.inl h))).trans ks (λ i hi h=>.inr (.inr h))
     .rw [HTS.out]
      exact HA5x.out.keep ks (show ¬ _=_ by omega) (show ¬ _=_ by omega)
     .have e1:((cn+Fp es c.g (pre++[s]) Wj:Nat):Int)=(q:Int)+1:=by
       have h1:=HCS.out
       rw[if_neg hzy] at h1
       have h2:=HQ.out
       omega
      rw[e1]
      exact Fe HN5.out _
     .exact (HK2x.out.trans (HK5.out.mono (S':=λ k=>k=P.a\/k=P.q\/k=B+1) (λ i hi h=>by rcases h with h|h;exact .inl h;exact .inr (.inl h))) (λ _ _ h=>h)).trans ks (λ i hi h=>.inr (.inr h))
   case hdone=>
    rintro S W' ⟨a1,a2,rfl,a4,a5⟩ hs hD'
    have HA1:=sE a1
    have HA2:=sE a2
    have HA4':=sE a4
    have KW:Kp (λ k=>k=P.a\/k=P.q\/k=B+1) wr W':=((HKC.out.Am _).trans HKl.out (λ _ _ h=>h.elim)).trans a4 (λ _ _ h=>h)
    have K4W:Kp (λ k=>k=P.a\/k=P.q\/k=B+1) w4 W':=HK.out.trans KW (λ _ _ h=>h)
    have HKW:=sE KW
    have HK4W:=sE K4W
    have HDd:=sE hD'
    clear a1 a2 a4 a5 KW K4W hD'
    gi_wp2_with fail
    have hzW:=HKW.out.size
    have hzwl:=HA4'.out.size
    have hrc:rfG P.ts cs c.g=A8 kk wds m (c.ln:Nat):=by rw[HC.out.2.2.1];exact hrfx
    have HTe:Sl (CZ es (rfG P.ts cs) (es.take (j+1)) W=BU es c.g (A8 kk wds m (c.ln:Nat)) Wj):=⟨by
     rw[Co HX.out,turnP_app,hWj]
     show CZ es (rfG P.ts cs) [] (BU es xf (rfG P.ts cs xf) Wj)=_
     rw[hrfx,HC.out.2.2.1]
     rfl⟩
    have HCe:Sl (ET es (rfG P.ts cs) (es.take (j+1)) W=cn+Fp es c.g (A8 kk wds m (c.ln:Nat)) Wj):=⟨by
     rw[Co HX.out,cntT_app,hWj,hcn]
     show cn+(Fp es xf (rfG P.ts cs xf) Wj+ET es (rfG P.ts cs) [] _)=_
     rw[hrfx,HC.out.2.2.1]
     rfl⟩
    refine⟨⟨_,_,_,_,_,_,_,_,_,_,_,_,_,_,_,_,_,_,_,_,_,_,_,_,_,_,_,_,_,_,_,_,_,_,_,_,_,_,_,_,_,_,_,j+1,⟨by omega,?_,?_,?_,HK4W.out⟩,rfl⟩,?_⟩
    .obtain ⟨f',hs',hc',hst'⟩:=HS.out
     rw[hWj] at hs' hc'
     rw[HTe.out]
     refine⟨f',hs'.wordsS HKW.out (λ i hi h=>?_) HA1.out,?_,hst'⟩
     .rcases h with h|h|h
      .exact .inl h
      .exact .inr h
      .have:=lall i hi
       omega
     .refine hc'.BU es hC1 hC2 λ s hs=>?_
      rw[<- rfG_at hc'.tl hC1 hC2,hrc]
      exact hs
    .rw [HCe.out]
     exact HA2.out
    .refine ⟨⟨wl.heap.size,by omega,rfl,HDd.out,λ e he=>?_⟩,HMk.out.keep HKW.out (λ i h=>?_)⟩
     .obtain ⟨r,rfl,hr⟩:=HMk.out.lt e he
      intro h
      injection h with h
      injection h with h
      omega
     .have l1:=lall P.a (.inr (.inr (.inl rfl)))
      have l2:=lall P.q (.inr (.inr (.inr (.inl rfl))))
      rcases h with rfl|rfl|rfl <;> omega
    .show n-((j:Int)+1).toNat<n-((j:Nat):Int).toNat
     omega
   case hstop=>exact λ c pre W' hp h=>h.elim
 .have hjl':¬ (j:Int)<(n:Int):=by omega
  obtain rfl:j=n:=by omega
  have cb:=cell_of_one hb
  have fb:=free_of_one hb
  have lb:=lt_of_heap hb
  have ht:es.take j=es:=List.take_of_length_le (by rw[HN.out];exact Nat.le_refl _)
  rw[ht] at cb
  have HT:=sE ht
  obtain⟨cn,hcn⟩:∃ cn,ET es (rfG P.ts cs) es W=cn:=⟨_,rfl⟩
  rw[hcn] at cb
  have HCn:=sE hcn
  clear hk hS hb hM ht hcn
  gi_wp2_with fail
  have ks:Kp (λ k=>k=B+1) wr (wr.setCell ⟨B+1,0,none⟩ (.int .i64 (cn:Nat))):=(Kr (λ k=>k=B+1) wr).setCell (λ _=>rfl) _
  have hcs:(wr.setCell ⟨B+1,0,none⟩ (.int .i64 (cn:Nat))).cell? ⟨B+1,0,none⟩=some (.int .i64 (cn:Nat)):=World.cell?_setCell_same' _ _ _ (by rw[cb];rfl)
  have hBe:=HB.out
  have l1:=lall P.a (.inr (.inr (.inl rfl)))
  have l2:=lall P.q (.inr (.inr (.inr (.inl rfl))))
  refine leaves_marks (B:=D) (HMk.out.keep ks (λ i h=>by have h':i=B+1:=h;omega)) λ w' kd hcd=>?_
  have hc':=(hcd ⟨B+1,0,none⟩).trans hcs
  refine⟨.tuple #[.int .i64 (cn:Nat),.int .i64 0],by simp[results,results28,go_sem,hc'],by rw[HCn.out],?_,?_⟩
  .obtain ⟨f',hs',hc2,hst'⟩:=HS.out
   rw[HT.out] at hs' hc2
   have k1:Kp (λ k=>k=B+1\/D<=k) wr w':=(ks.mono (λ i hi h=>.inl h)).trans kd (λ i hi h=>.inr h)
   refine⟨f',hs'.keep k1 (λ i hi h=>?_),hc2,hst'⟩
   have:=lall i hi
   omega
  .refine (HK4.out.Am _).trans ((HK.out.trans ks (λ i hi h=>.inr (.inr h))).trans kd (λ i hi h=>?_)) (λ i hi h=>?_)
   .omega
   .rcases h with h|h|h
    .exact .inl h
    .exact .inr h
    .omega

end

section
open Go.RowKit

theorem join23{P:Sp}(ht:P.ts=alT){W W':Nat->Nat}{cs':List Cel}(h:JoinStep P W Ei 0 2 0 W' cs'):cs'=Ei/\W'=Ca W 3 1048588:=by
 obtain⟨rfl,h⟩:=h
 refine⟨rfl,?_⟩
 have ho:Bq Ei=[1,3,6]:=by decide +kernel
 have hz:bits .and .i64 0 65535=0:=by decide +kernel
 have h2:bits .and .i64 2 65535=2:=by decide +kernel
 rcases h with ⟨h,-⟩|⟨G1,G2,G3,c,g2,k,wds,m,⟨a1,a2,a3⟩,⟨hc,htg⟩,x1,x2,hty,hr⟩
 .rw [ho] at h
  cases h
 .rw [hz] at a1 a3
  rw[h2] at a2
  obtain rfl:G1=0:=by omega
  obtain rfl:G2=2:=by omega
  obtain rfl:G3=0:=by omega
  rw[ho] at x1 x2
  have e1:some 1=some c.g:=x1
  have e2:some 6=some g2:=x2
  injection e1 with e1
  injection e2 with e2
  have hcc:c.ty=1/\c.ln=3:=by
   have:c=⟨0,2,0,0,1⟩\/c=⟨1,1,1,3,2⟩\/c=⟨3,1,1,3,2⟩\/c=⟨5,2,0,0,1⟩\/c=⟨6,1,1,3,2⟩:=by simpa [Ei] using hc
   rcases this with rfl|rfl|rfl|rfl|rfl
   .exact absurd htg (by decide)
   .exact ⟨rfl,rfl⟩
   .exact ⟨rfl,rfl⟩
   .exact absurd htg (by decide)
   .exact ⟨rfl,rfl⟩
  rw[ht,hcc.1] at hty
  have hty2:some (⟨2,0,0⟩:TypR)=some ⟨k,wds,m⟩:=(show typeOf alT ((1:Nat):Int)=some ⟨2,0,0⟩ from by rfl).symm.trans hty
  injection hty2 with hty2
  injection hty2 with q1 q2 q3
  subst q1 q2 q3
  rw[hcc.2,show A8 2 0 0 ((3:Nat):Int)=[0,1,2] by decide +kernel] at hr
  rcases hr with ⟨hr,-⟩|⟨s,Y,hs,hY,hW⟩
  .cases hr
  .have hs0:s=0:=by
    have:some (0:Nat)=some s:=hs
    injection this with this
    exact this.symm
   rw[hW,hs0,hY (by omega),<- e1,<- e2]

def al23d(j:Nat):Int:=[0,0,0,5].getD j 0
def al23g(j:Nat):Int:=[1,3,6,0].getD j 0
def al23i(j:Nat):Int:=[1,1,1,2].getD j 0
def al23n(j:Nat):Int:=[3,3,3,0].getD j 0

theorem run23{P:Sp}(ht:P.ts=alT)(hn:P.n=16){W:Nat->Nat}{cs:List Cel}(h:RunR P al23d al23g al23i al23n (AX (λ _=>0) 0 (16/2)) (gapL 0 (16/2)) 4 W cs):cs=Ei/\W 3=1048588/\∀ k∈[4,5,7,8,9,13,14,15],W k=0:=by
 obtain⟨W3,cs3,h3,s3⟩:=h.back1
 obtain⟨rfl,-,-,hz⟩:=puts21 (dd:=al23d) (ii:=al23i) (nn:=al23n) (gg:=al23g) ht hn ⟨rfl,rfl,rfl⟩ ⟨rfl,rfl,rfl⟩ ⟨rfl,rfl,rfl⟩ ⟨rfl,rfl,rfl⟩ h3
 obtain⟨rfl,rfl⟩:=join23 ht (s3.2 rfl)
 refine⟨rfl,by simp[Ca],λ k hk=>?_⟩
 have h3:¬ k=3:=by rintro rfl;simp at hk
 rw[Ca,if_neg h3]
 exact hz k (by simp only[List.mem_cons,List.not_mem_nil,or_false] at hk ⊢;omega)

def steps23:Array Value:=#[.int .i64 0,.int .i64 1,.int .i64 1,.int .i64 3,.int .u64 0,.slice none 0 0,.int .i64 0,.int .i64 3,.int .i64 1,.int .i64 3,.int .u64 0,.slice none 0 0,.int .i64 0,.int .i64 6,.int .i64 1,.int .i64 3,.int .u64 0,.slice none 0 0,.int .i64 5,.int .i64 0,.int .i64 2,.int .i64 0,.int .u64 0,.slice none 0 0]

def Played23(w:World)(e:Ending)(w':World):Prop:=
 ∃ (P:Sp) (rb:Nat) (W:Nat->Nat),e=.returned (.tuple #[.pointer (some ⟨P.s,0,none⟩),.pointer (some ⟨rb,0,none⟩),.bool true])/\(P.ts=alT/\P.n=16)/\AB w' P W Ei/\(W 3=1048588/\∀ k∈[4,5,7,8,9,13,14,15],W k=0)/\(∀ k,P.own k->w.heap.size<=k)/\Kp Ab w w'

theorem played23(w:World)(hF:Au w)(bs bt:Nat)(T1 T2:TypeId)(h1:w.heap[bs]?=some (.cells steps23 T1 (0,0)))(h2:w.heap[bt]?=some (.cells #[.int .u8 2,.int .i64 0,.int .u64 0] T2 (0,0))):
  Calls prog 8 #[.int .i64 16,.slice (some ⟨bt,0,none⟩) 1 1,.slice (some ⟨bs,0,none⟩) 4 4] w (Played23 w):=by
 have hts:AV w (.slice (some ⟨bt,0,none⟩) 1 1) alT:=⟨_,_,rfl,λ i x hi=>by
  cases i with
  |succ i=>simp [alT] at hi
  |zero=>
   have:x=⟨2,0,0⟩:=by simpa [alT] using hi.symm
   subst this
   refine⟨bt,0,rfl,lt_of_heap h2,?_,?_,?_⟩ <;> simp only[World.cell?,h2] <;> rfl⟩
 have hst:Fz w (.slice (some ⟨bs,0,none⟩) 4 4) 4 al23d al23g al23i al23n (λ _=>0) (λ _=>.slice none 0 0) (λ _=>0):=⟨_,_,rfl,λ j hj=>⟨bs,0,rfl,lt_of_heap h1,by
  have:j=0\/j=1\/j=2\/j=3:=by omega
  rcases this with rfl|rfl|rfl|rfl <;> (simp only[World.cell?,h1];refine ⟨rfl,rfl,rfl,rfl,rfl,rfl,⟨_,_,rfl⟩,by omega,?_,?_,?_⟩ <;> decide +kernel)⟩⟩
 refine(Played_run 16 _ _ alT 4 al23d al23g al23i al23n (λ _=>0) (λ _=>.slice none 0 0) (λ _=>0) w hF hts (by decide) (λ x hx=>by have:=List.mem_singleton.1 hx;subst this;decide) (by decide +kernel) (by decide +kernel) hst (by omega) (λ j hj=>by decide) (λ j hj=>⟨λ _ _=>0,⟨none,0,rfl,λ i hi=>absurd (show i<0 from hi) (by omega)⟩⟩) (λ j hj=>by omega)).mono ?_
 rintro e w' ⟨P,rb,q,W,cs,rfl,hB,hn,ht,hr⟩
 obtain⟨rfl,r3,hz⟩:=run23 ht hn hr
 exact⟨P,rb,W,rfl,⟨ht,hn⟩,hB.sp,⟨r3,hz⟩,hB.own,hB.kb.new'⟩

def Dk:List (Nat×Nat×Nat):=[(1,0,2),(3,3,2),(6,5,2)]

theorem good23:GoodP Ei Dk:=by
 refine⟨?_,?_,?_,?_⟩
 .intro x hx
  have:x=(1,0,2)\/x=(3,3,2)\/x=(6,5,2):=by simpa [Dk] using hx
  rcases this with rfl|rfl|rfl
  .exact ⟨⟨1,1,1,3,2⟩,by simp[Ei],rfl,rfl,rfl⟩
  .exact ⟨⟨3,1,1,3,2⟩,by simp[Ei],rfl,rfl,rfl⟩
  .exact ⟨⟨6,1,1,3,2⟩,by simp[Ei],rfl,rfl,rfl⟩
 .decide
 .simp [Dk]
 .simp [Dk]

theorem rf23(g:Nat)(h:g=1\/g=3\/g=6):rfG alT Ei g=[0,1,2]:=by
 rcases h with rfl|rfl|rfl <;> decide +kernel

theorem cnt23{W:Nat->Nat}(h3:W 3=1048588)(hz:∀ k∈[4,5,7,8,9,13,14,15],W k=0):ET Dk (rfG alT Ei) Dk W=1/\CZ Dk (rfG alT Ei) Dk W 3=1048586:=by
 have h4:=hz 4 (by simp)
 have h5:=hz 5 (by simp)
 have h7:=hz 7 (by simp)
 have h8:=hz 8 (by simp)
 have h9:=hz 9 (by simp)
 have h13:=hz 13 (by simp)
 have h14:=hz 14 (by simp)
 have h15:=hz 15 (by simp)
 have t1:toA Dk 1048588=1048586:=by decide +kernel
 have t0:toA Dk 0=0:=by decide +kernel
 have hp:Dk=[(1,0,2),(3,3,2),(6,5,2)]:=rfl
 have hx:∀ es W,ET es (rfG alT Ei) [(1,0,2),(3,3,2),(6,5,2)] W=ET es (rfG alT Ei) Dk W:=λ _ _=>rfl
 constructor
 .rw [<- hx]
  simp only[ET,rf23 1 (.inl rfl),rf23 3 (.inr (.inl rfl)),rf23 6 (.inr (.inr rfl)),Fp,BU,Ca]
  simp[h3,h4,h5,h7,h8,h9,h13,h14,h15,t1,t0]
 .show CZ Dk (rfG alT Ei) [(1,0,2),(3,3,2),(6,5,2)] W 3=1048586
  simp only[CZ,rf23 1 (.inl rfl),rf23 3 (.inr (.inl rfl)),rf23 6 (.inr (.inr rfl)),BU,Ca]
  simp[h3,t1]

end

section
open Go.RowKit

def Planned23Post(L:List (Nat×Nat×Nat))(w:World)(e:Ending)(w':World):Prop:=
 ∃ pv,e=.returned (.tuple #[.agg #[pv],.bool true])/\w'.ownsRow w.heap.size 43 3 pv L.length (Bn L)/\Kp Ab w w'

set_option maxRecDepth 20000 in
theorem Planned23_at(P:Sp)(W:Nat->Nat)(f:Nat->Bool)(cs:List Cel)(w:World)(v1 v2:Value)(n1 n2:Nat)(y1 y2:Nat->Nat)(hsp:SpaceAt w P W f)(hc:CellsAt P W cs)(hst:∀ i,i<P.n/2->f i=Aq cs i)(hne:cs≠[])(h1:BytesIn w v1 n1 y1)(h2:BytesIn w v2 n2 y2)(hl1:n1<=65536)(hl2:n2<=65536):
  Calls prog 9 #[.pointer (some ⟨P.s,0,none⟩),v1,v2] w (Planned23Post (BN cs (AY (Ak cs) y2 n2) (BQ (AY (Ak cs) y1 n1++AY (Ak cs) y2 n2)) (P.n/2)) w):=by
 have hsm:=hsp.ar.small
 have HRt:Sl (∀ W' v n ys,Kp Ab w W'->n<=65536->BytesIn W' v n ys->Calls prog 43 #[.pointer (some ⟨P.s,0,none⟩),v] W' λ e w'=>∃ a c,e=.returned (.slice a (AY (Ak cs) ys n).length c)/\w'.ownsRow W'.heap.size 3 1 (.slice a (AY (Ak cs) ys n).length c) (AY (Ak cs) ys n).length (AL (AY (Ak cs) ys n))/\Kp Ab W' w'):=⟨λ W' v n ys kk hn hv=>Roots20_at P cs W' ⟨W,f,hsp.Ad kk,hc,hst⟩ hne v n ys hn hv⟩
 have hro:∀ (ys:Nat->Nat) (n:Nat),∀ g∈AY (Ak cs) ys n,CR cs g:=λ ys n=>roots_obj
 obtain⟨H,hH⟩:∃ H,P.n/2=H:=⟨_,rfl⟩
 have hH2:H<=32768:=by omega
 have HGr:Sl (∀ W',Kp Ab w W'->Calls prog 42 #[.pointer (some ⟨P.s,0,none⟩)] W' λ e w''=>e=.returned (.int .i64 (H:Nat))/\w''=W'):=⟨λ W' kk=>by
  rw[<- hH]
  exact Eu P W f W' (hsp.Ad kk)⟩
 have HOb:Sl (∀ g,CR cs g->g<H):=⟨λ g ho=>by
  obtain⟨c,hm,h1,rfl⟩:=ho
  have hlt:=hc.tl.mem hm
  omega⟩
 have HOf:Sl (∀ W' mp mq fm pins v,Kp Ab w W'->AC W' mp mq fm H->(∀ g,g<H->fm g=true->CR cs g)->Di W' v pins->(∀ g∈pins,CR cs g)->pins.length<=65536->Calls prog 44 #[.pointer (some ⟨P.s,0,none⟩),.pointer (some ⟨mp,0,none⟩),v] W' (PlanPost (BN cs pins (BQ (DU fm H++pins)) H) W')):=⟨λ W' mp mq fm pins v kk hb hm hv ho hl=>by
  have:=PlanOf_at P W f cs W' mp mq fm pins v (hsp.Ad kk) hc hst (by rw[hH];exact hb) (by rw[hH];exact hm) (hv.Ad (Kr _ _)) ho hl
  rwa [hH] at this⟩
 rw[hH]
 have H1:=sE h1
 have H2:=sE h2
 obtain⟨a1,c1,rfl,-⟩:=h1
 obtain⟨a2,c2,rfl,-⟩:=h2
 obtain⟨ms,hms⟩:∃ ms,AY (Ak cs) y1 n1=ms:=⟨_,rfl⟩
 obtain⟨ps,hps⟩:∃ ps,AY (Ak cs) y2 n2=ps:=⟨_,rfl⟩
 have HM:Sl (AY (Ak cs) y1 n1=ms):=⟨hms⟩
 have HP:Sl (AY (Ak cs) y2 n2=ps):=⟨hps⟩
 have HMo:Sl (∀ g∈ms,CR cs g):=⟨by rw[<- hms];exact hro y1 n1⟩
 have HPo:Sl (∀ g∈ps,CR cs g):=⟨by rw[<- hps];exact hro y2 n2⟩
 have hml:ms.length<=65536:=by rw[<- hms];have:=rootsOf_len (Ak cs) y1 n1;omega
 have hpl:ps.length<=65536:=by rw[<- hps];have:=rootsOf_len (Ak cs) y2 n2;omega
 rw[hms,hps]
 obtain⟨L,hL⟩:∃ L,BN cs ps (BQ (ms++ps)) H=L:=⟨_,rfl⟩
 have HL:=sE hL
 rw[hL]
 obtain⟨w1,hw1⟩:∃ w1,w1=w.alloc (.cells #[.slice none 0 0] 33):=⟨_,rfl⟩
 have k1:Kp Ab w w1:=by rw[hw1];exact (Kr _ w).alloc _
 have b1:w1.heap[w.heap.size]?=some (.cells #[.slice none 0 0] 33 (0,0)):=by rw[hw1];exact wN w _
 have HK1:=sE k1
 have HB1:=sE b1
 clear hsp hc hst hne hro hH hsm hms hps k1 b1 hL
 go_enter func9,ntmps9
 go_wp2_with fail
 rw[<- hw1]
 clear hw1
 refine(HGr.out w1 HK1.out).mono ?_
 rintro e w2 ⟨rfl,rfl⟩
 have hz1:w.heap.size<w2.heap.size:=lt_of_heap HB1.out
 have HR2:=sE (HRt.out w2 _ n1 y1 HK1.out hl1 (H1.out.Ad HK1.out))
 rw[HM.out] at HR2
 go_wp2_with fail
 refine HR2.out.mono ?_
 rintro e w4 ⟨ma,mc,rfl,ho4,k4⟩
 have HN4:Sl (Di w4 (.slice ma ms.length mc) ms):=⟨Di.Bd ho4⟩
 have HK4:Sl (Kp Ab w w4):=⟨HK1.out.then' k4⟩
 have HB4:=sE (k4.at_ HB1.out (λ h=>h))
 have HBi:=sE (Bits22_at ms _ H w4 HN4.out hml (by omega) (λ x hx=>HOb.out x (HMo.out x hx)))
 clear ho4 k4 HR2 HB1
 go_wp2_with fail
 refine HBi.out.mono ?_
 rintro e w5 ⟨p,q,fm,rfl,hb5,hf5,-,-,k5⟩
 have HK5:Sl (Kp Ab w w5):=⟨HK4.out.then' k5⟩
 have HBp:=sE (k5.at_ HB4.out (λ h=>h))
 have HBt5:=sE hb5
 have HF5:=sE hf5
 have HR1:=sE (HRt.out w5 _ n2 y2 HK5.out hl2 (H2.out.Ad HK5.out))
 rw[HP.out] at HR1
 clear hb5 hf5 k5 HBi HB4
 go_wp2_with fail
 refine HR1.out.mono ?_
 rintro e w9 ⟨ra,rc,rfl,ho9,k9⟩
 have HP9:=sE ho9
 have HK9:Sl (Kp Ab w w9):=⟨HK5.out.then' k9⟩
 have HB9:=sE (k9.at_ HBp.out (λ h=>h))
 have HE:Sl (BQ (DU fm H++ps)=BQ (ms++ps)):=⟨riseN_ext λ g=>by
  rw[List.mem_append,List.mem_append,mem_setL]
  constructor
  .rintro (⟨a,b⟩|h)
   .rw [HF5.out g a] at b
    exact .inl (DL.1 b)
   .exact .inr h
  .rintro (h|h)
   .have:=HOb.out g (HMo.out g h)
    exact .inl ⟨this,by rw[HF5.out g this];exact DL.2 h⟩
   .exact .inr h⟩
 have HO:=sE (HOf.out w9 p q fm ps _ HK9.out (HBt5.out.keep k9 (λ h=>h) (λ h=>h)) (λ g a b=>by rw[HF5.out g a] at b;exact HMo.out g (DL.1 b)) (Di.Bd HP9.out) HPo.out hpl)
 rw[HE.out,HL.out] at HO
 clear k9 ho9 HBp HR1
 go_wp2_with fail
 refine HO.out.mono ?_
 rintro e w6 ⟨pv,rfl,ho6,k6⟩
 obtain⟨pa,pc,rfl⟩:=Aw ho6
 obtain⟨w7,hw7⟩:∃ w7,w7=w6.alloc (.cells #[.slice pa L.length pc] 33):=⟨_,rfl⟩
 have k7:Kp Ab w6 w7:=by rw[hw7];exact (Kr _ w6).alloc _
 have b7:w7.heap[w6.heap.size]?=some (.cells #[.slice pa L.length pc] 33 (0,0)):=by rw[hw7];exact wN w6 _
 have c7:=cell_of_one b7
 have b8:=(k6.then' k7).at_ HB9.out (λ h=>h)
 have f8:=free_of_one b8
 have c8:=cell_of_one b8
 have HO6:=sE (Ah ho6 k7 (λ _ _ h=>h))
 have HK7:Sl (Kp Ab w w7):=⟨HK9.out.then' (k6.then' k7)⟩
 have HB8:=sE b8
 have zw:=HK9.out.size
 have z5:w.heap.size<w9.heap.size:=lt_of_heap HB9.out
 clear ho6 k6 k7 b7 b8 HO
 subst hw7
 go_wp2_with fail
 have KS:Kp (λ k=>k=w.heap.size) (w6.alloc (.cells #[.slice pa L.length pc] 33)) ((w6.alloc (.cells #[.slice pa L.length pc] 33)).setCell ⟨w.heap.size,0,none⟩ (.slice pa L.length pc)):=(Kr (λ k=>k=w.heap.size) _).setCell (λ _=>rfl) _
 have c9:=cell_of_one (one_setCell (u:=.slice pa L.length pc) HB8.out)
 refine bodyPost_ret (v:=.tuple #[.agg #[.slice pa L.length pc],.bool true]) (by simp[results,results9,go_sem,c9]) rfl ⟨_,rfl,?_,?_⟩
 .exact Bc (Ah HO6.out KS (λ b hb h=>by have:=(Af HO6.out hb).1;omega)) (by omega)
 .exact (HK7.out.Am (λ k=>k=w.heap.size)).trans KS (λ _ _ h=>h) |>.mono (λ i hi h=>by omega)

theorem TCheck_nil(v:Value)(w:World):Calls prog 61 #[.pointer none,.agg #[v]] w λ e w'=>e=.returned (.int .i64 1)/\Kp Ab w w':=by
 go_enter func61,ntmps61
 go_wp2_with fail
 exact bodyPost_ret (v:=.int .i64 1) (by simp[results,results61,go_sem]) rfl ⟨rfl,(Kr _ _).alloc _⟩

theorem rowo23(w:World)(T:TypeId):C9 (w.alloc (.cells #[.int .i64 1,.int .i64 0,.int .i64 2,.int .i64 3,.int .i64 3,.int .i64 2,.int .i64 6,.int .i64 5,.int .i64 2] T)) (.slice (some ⟨w.heap.size,0,none⟩) 3 3) Dk:=rowoA w T

theorem back23:¬ Fv Ei (castS (Dy Dk)):=λ h=>by
 obtain⟨c,hc,h1,h2,-⟩:=(h 0 ((0:Nat),(1:Nat),(2:Nat)) rfl).obj
 have:c=⟨0,2,0,0,1⟩\/c=⟨1,1,1,3,2⟩\/c=⟨3,1,1,3,2⟩\/c=⟨5,2,0,0,1⟩\/c=⟨6,1,1,3,2⟩:=by simpa [Ei] using hc
 simp only at h2
 rcases this with rfl|rfl|rfl|rfl|rfl
 .simp at h1
 .simp at h2
 .simp at h2
 .simp at h2
 .simp at h2

set_option maxRecDepth 20000 in
theorem alive23(w:World)(hF:Au w):Calls prog 23 #[] w λ e w'=>e=.returned (.bool true)/\Kp Ab w w':=by
 have HF:=sE hF
 clear hF
 go_enter func23,ntmps23
 go_wp2_with fail
 obtain⟨wp,hwp⟩:∃ wp,wp=(w.alloc (.cells steps23 84)).alloc (.cells #[.int .u8 2,.int .i64 0,.int .u64 0] 86):=⟨_,rfl⟩
 have kp:Kp Ab w wp:=by rw[hwp];exact ((Kr _ w).alloc _).alloc _
 have hb1:wp.heap[w.heap.size]?=some (.cells steps23 84 (0,0)):=by rw[hwp];exact ((Kr Ab _).alloc _).at_ (wN w _) (λ h=>h)
 have hb2:wp.heap[w.heap.size+1]?=some (.cells #[.int .u8 2,.int .i64 0,.int .u64 0] 86 (0,0)):=by
  rw[hwp]
  have:=wN (w.alloc (.cells steps23 84)) (.cells #[.int .u8 2,.int .i64 0,.int .u64 0] 86)
  rwa [show (w.alloc (.cells steps23 84)).heap.size=w.heap.size+1 by simp] at this
 have HP:=sE (played23 wp (HF.out.Ad kp) w.heap.size (w.heap.size+1) _ _ hb1 hb2)
 have HKp:=sE kp
 unfold steps23 at hwp
 rw[<- hwp]
 clear hwp hb1 hb2 kp
 refine HP.out.mono ?_
 rintro e w1 ⟨P,rb,W,rfl,⟨ht,hn⟩,hs,⟨r3,hz⟩,hown,k1⟩
 have HK1:=sE (HKp.out.then' k1)
 obtain⟨w2,hw2⟩:∃ w2,w2=w1.alloc (.cells #[.int .i64 1,.int .i64 0,.int .i64 2,.int .i64 3,.int .i64 3,.int .i64 2,.int .i64 6,.int .i64 5,.int .i64 2] 43):=⟨_,rfl⟩
 obtain⟨B,hB⟩:∃ B,w1.heap.size=B:=⟨_,rfl⟩
 have R2:C9 w2 (.slice (some ⟨B,0,none⟩) 3 3) Dk:=by rw[hw2,<- hB];exact rowo23 w1 _
 have k2:Kp Ab w1 w2:=by rw[hw2];exact (Kr _ w1).alloc _
 have z2:w2.heap.size=B+1:=by rw[hw2];simp [hB]
 obtain⟨w3,hw3⟩:∃ w3,w3=w2.alloc (.cells #[.slice (some ⟨B,0,none⟩) 3 3] 33):=⟨_,rfl⟩
 have k3:Kp Ab w2 w3:=by rw[hw3];exact (Kr _ w2).alloc _
 have b3:w3.heap[B+1]?=some (.cells #[.slice (some ⟨B,0,none⟩) 3 3] 33 (0,0)):=by rw[hw3,<- z2];exact wN w2 _
 have R3:=sE (R2.Ad k3)
 have HB3:=sE b3
 have S3:=hsW1 hs (k2.then' k3)
 have hlt:∀ k,P.own k->k<B:=λ k hk=>by
  obtain⟨f,h,-⟩:=hs
  have:=h.lt k (Sp.BG hk)
  omega
 have HS3:=sE S3
 have HK13:=sE (k2.then' k3)
 have HC1:=sE (TCheck_at P W Ei (castS Dk) _ w3 S3 R3.out.rowH (by decide))
 have HC2:Sl (∀ W',Calls prog 61 #[.pointer none,.agg #[.slice (some ⟨B,0,none⟩) 3 3]] W' λ e w'=>e=.returned (.int .i64 1)/\Kp Ab W' w'):=⟨λ W'=>TCheck_nil _ W'⟩
 have c3:=cell_of_one b3
 have HW:=sE (And.intro ht (And.intro hn (And.intro r3 (And.intro hz (And.intro hown hlt)))))
 clear hs hz r3 hown k1 k2 k3 R2 b3 S3 ht hn z2 hlt HP
 go_wp2_with fail
 try rw[hB]
 rw[<- hw2,<- hw3]
 clear hw2 hw3
 refine HC1.out.mono ?_
 rintro e w4 ⟨(⟨-,rfl⟩|⟨hno,-⟩),k4⟩
 case inr=>exact absurd good23.fits hno
 have HK4:Sl (Kp Ab w3 w4):=⟨k4⟩
 replace c3:=k4.cell c3 (λ h=>h)
 clear k4 HC1
 go_wp2_with fail
 refine(HC2.out _).mono ?_
 rintro e w5 ⟨rfl,k5⟩
 have HK5:Sl (Kp Ab w3 w5):=⟨HK4.out.then' k5⟩
 replace c3:=k5.cell c3 (λ h=>h)
 have HDo:Sl _:=⟨TDo_at P W Ei Dk (.slice (some ⟨B,0,none⟩) 3 3) w5 (hsW1 HS3.out HK5.out) (R3.out.Ad HK5.out) good23 (by decide) (by rw[HW.out.1];intro x hx;have:=List.mem_singleton.1 hx;subst this;decide) (λ b o l c h hb=>by
  injection h with h
  injection h with h
  injection h with h
  have:=HW.out.2.2.2.2.2 b hb
  omega)⟩
 clear k5 HC2
 go_wp2_with fail
 refine HDo.out.mono ?_
 rintro e w6 ⟨rfl,hS6,k6⟩
 have HCt:=sE (cnt23 HW.out.2.2.1 HW.out.2.2.2.1)
 rw[HW.out.1] at hS6 ⊢
 rw[HCt.out.1]
 obtain⟨W6,hW6⟩:∃ W6,CZ Dk (rfG alT Ei) Dk W=W6:=⟨_,rfl⟩
 rw[hW6] at hS6 HCt
 have lB:∀ k,(k=P.a\/k=P.q)->k<B:=λ k h=>HW.out.2.2.2.2.2 k (by rcases h with h|h;exact .inl h;exact .inr (.inl h))
 have HB6:=sE (k6.at_ (HK5.out.at_ HB3.out (λ h=>h)) (λ h=>by have:=lB _ h;omega))
 have HR6:Sl (C9 w6 (.slice (some ⟨B,0,none⟩) 3 3) Dk):=⟨by
  obtain⟨a,cp,e,hx⟩:=R3.out.Ad HK5.out
  refine⟨a,cp,e,λ i x hi=>?_⟩
  obtain⟨b,o,rfl,hb,x0,x1,x2⟩:=hx i x hi
  injection e with e
  injection e with e
  injection e with e
  have hn:¬ (b=P.a\/b=P.q):=λ h=>by have:=lB _ h;omega
  exact⟨b,o,rfl,Nat.lt_of_lt_of_le hb k6.size,k6.cell x0 hn,k6.cell x1 hn,k6.cell x2 hn⟩⟩
 have HS6:=sE hS6
 have HK6:=sE k6
 obtain⟨f6,hs6,hc6,hst6⟩:=hS6
 have hcm:(⟨1,1,1,3,2⟩:Cel)∈Ei:=by simp[Ei]
 have HAr:Sl (∀ W',Kp Ab w6 W'->Calls prog 14 #[.pointer (some ⟨P.s,0,none⟩)] W' λ e w'=>e=.returned (.pointer (some ⟨P.a,0,none⟩))/\w'=W'):=⟨λ W' k=>Ck P W6 f6 W' (hs6.Ad k)⟩
 have HTb:Sl (∀ W',Kp Ab w6 W'->Calls prog 15 #[.pointer (some ⟨P.s,0,none⟩)] W' λ e w'=>e=.returned (.pointer (some ⟨P.t,0,none⟩))/\w'=W'):=⟨λ W' k=>Fx P W6 f6 W' (hs6.Ad k)⟩
 have hmem:=hc6.tl.mem hcm
 have HOf:=sE (SOf_one ⟨1,1,1,3,2⟩ P W6 f6 w6 hs6 (hc6.ok _ hcm) (hc6.hd _ hcm) hmem.2.1 hmem.2.2 rfl (by rw[HW.out.1];intro x hx;have:=List.mem_singleton.1 hx;subst this;decide))
 have HA6:=sE hs6.ar
 clear hs6 hc6 hst6 hcm hmem k6 c3 HDo
 go_wp2_with fail
 refine(HAr.out w6 (Kr _ _)).mono ?_
 rintro e w7 ⟨rfl,rfl⟩
 go_wp2_with fail
 refine(HTb.out w7 (Kr _ _)).mono ?_
 rintro e w8 ⟨rfl,rfl⟩
 go_wp2_with fail
 refine HOf.out.mono ?_
 rintro e w9 ⟨b,kk,wds,m,⟨⟨hE,hm⟩,hrf,hfit⟩,rfl,hV,hbn,k9⟩
 have h0:(0:Nat)∈A8 kk wds m ((3:Nat):Int):=by
  rw[<- show Cu P.ts (⟨1,1,1,3,2⟩:Cel)=A8 kk wds m ((3:Nat):Int) from hrf,HW.out.1]
  decide +kernel
 have hsl:=EL hE h0
 have HLd:=sE (VLoad_yes 0 b P.a P.q P.n W6 ⟨1,1,1,3,2⟩ kk wds m w9 (HA6.out.Ad k9) hV hE hsl (by rw[HW.out.2.1];decide))
 rw[show 2*(⟨1,1,1,3,2⟩:Cel).g+1+0=3 from rfl,HCt.out.2] at HLd
 have HK9:=sE k9
 clear hE hm hrf hfit hV hbn k9 h0 hsl
 go_wp2_with fail
 refine HLd.out.mono ?_
 rintro e wa ⟨rfl,ka⟩
 have HKa:Sl (Kp Ab w8 wa):=⟨HK9.out.then' ka⟩
 have ca:=cell_of_one (HKa.out.at_ HB6.out (λ h=>h))
 have HA5:Sl (∀ W',Calls prog 25 #[.int .i64 5] W' λ e w'=>e=.returned (.int .u64 1048586)/\w'=W'):=⟨λ W'=>Dx 5 W' (by decide)⟩
 have HA66:Sl (∀ W',Calls prog 25 #[.int .i64 6] W' λ e w'=>e=.returned (.int .u64 1048588)/\w'=W'):=⟨λ W'=>Dx 6 W' (by decide)⟩
 have HA2:Sl (∀ W',Calls prog 25 #[.int .i64 2] W' λ e w'=>e=.returned (.int .u64 1048580)/\w'=W'):=⟨λ W'=>Dx 2 W' (by decide)⟩
 have hsm:∀ x∈Dk,x.1<=65536/\x.2.1<=65536/\x.2.2<=65536:=by decide
 have HT6:Sl (∀ W',Kp Ab wa W'->Calls prog 26 #[.agg #[.slice (some ⟨B,0,none⟩) 3 3],.int .u64 1048588] W' λ e w'=>e=.returned (.int .u64 1048586)/\Kp Ab W' w'):=⟨λ W' k=>by
  have:=TAddr_at Dk (.slice (some ⟨B,0,none⟩) 3 3) 1048588 W' (HR6.out.Ad (HKa.out.then' k)) (by decide) (λ x hx=>⟨(hsm x hx).1,(hsm x hx).2.1⟩) (by decide)
  rw[show toA Dk 1048588=1048586 by decide +kernel] at this
  exact this⟩
 have HT2:Sl (∀ W',Kp Ab wa W'->Calls prog 26 #[.agg #[.slice (some ⟨B,0,none⟩) 3 3],.int .u64 1048580] W' λ e w'=>e=.returned (.int .u64 0)/\Kp Ab W' w'):=⟨λ W' k=>by
  have:=TAddr_at Dk (.slice (some ⟨B,0,none⟩) 3 3) 1048580 W' (HR6.out.Ad (HKa.out.then' k)) (by decide) (λ x hx=>⟨(hsm x hx).1,(hsm x hx).2.1⟩) (by decide)
  rw[show toA Dk 1048580=0 by decide +kernel] at this
  exact this⟩
 have HWi:Sl (∀ W',Kp Ab wa W'->Calls prog 27 #[.agg #[.slice (some ⟨B,0,none⟩) 3 3],.int .u64 1048589] W' λ e w'=>e=.returned (.int .u64 1048587)/\Kp Ab W' w'):=⟨λ W' k=>by
  have:=TWithin_at Dk (.slice (some ⟨B,0,none⟩) 3 3) 13 W' (HR6.out.Ad (HKa.out.then' k)) (by decide) hsm (by decide)
  rw[show witA Dk 13=1048587 by decide +kernel] at this
  exact this⟩
 have HBk:Sl (∀ W',Kp Ab wa W'->Calls prog 24 #[.agg #[.slice (some ⟨B,0,none⟩) 3 3]] W' (BackPost Dk W')):=⟨λ W' k=>TBack_at Dk _ W' (HR6.out.Ad (HKa.out.then' k)) (by decide)⟩
 have HCb:Sl (∀ W' v,Kp Ab wa W'->C9 W' v (Dy Dk)->Calls prog 61 #[.pointer (some ⟨P.s,0,none⟩),.agg #[v]] W' (TChkPost Ei (castS (Dy Dk)) W')):=⟨λ W' v k h=>TCheck_at P W6 Ei _ v W' (hsW1 HS6.out (HKa.out.then' k)) h.rowH (by decide)⟩
 clear ka hsm HLd
 go_wp2_with fail
 have kk0:Kp Ab wa wa.drew:=(Kr _ _).drew
 refine wp_region_held_drew (S:=λ w'=>w'.cell? ⟨B+1,0,none⟩=some (.slice (some ⟨B,0,none⟩) 3 3)) (by kernel_rfl) ?_ (λ hHeld=>?_)
 .exact ca
 refine Ao 0 ?_;refine Ao 1 ?_;refine Ao 2 ?_;refine Ao 3 ?_;refine Ao 4 ?_;refine Ao 5 ?_;refine Ao 6 ?_;refine Ao 7 ?_
 try simp only[Ar]
 refine AO [8] ?_
 refine Ag rfl (λ K hK=>?_)
 go_simp
 go_at_call 25
 (with_reducible refine(HA5.out _).mono ?_)
 rintro e wz ⟨rfl,rfl⟩
 refine hK _ _ ?_ (λ hHeld=>?_)
 .exact Ac kk0 ca
 clear hK K
 try simp only[Ar]
 refine Ao 9 ?_;refine Ao 10 ?_;refine Ao 11 ?_;refine Ao 12 ?_
 try simp only[Ar]
 refine AO [13] ?_
 refine Ag rfl (λ K hK=>?_)
 go_simp
 go_at_call 25
 (with_reducible refine(HA66.out _).mono ?_)
 rintro e wz ⟨rfl,rfl⟩
 refine hK _ _ ?_ (λ hHeld=>?_)
 .exact Ac kk0 ca
 clear hK K
 try simp only[Ar]
 refine AO [14] ?_
 refine Ag rfl (λ K hK=>?_)
 go_simp
 go_at_call 26
 (with_reducible refine(HT6.out _ kk0).mono ?_)
 rintro e wb ⟨rfl,kb⟩
 have Kb:Kp Ab wa wb:=kk0.then' kb
 refine hK _ _ ?_ (λ hHeld=>?_)
 .exact Ac Kb ca
 clear hK K
 try simp only[Ar]
 refine AO [15] ?_
 refine Ag rfl (λ K hK=>?_)
 go_simp
 go_at_call 25
 (with_reducible refine(HA5.out _).mono ?_)
 rintro e wz ⟨rfl,rfl⟩
 refine hK _ _ ?_ (λ hHeld=>?_)
 .exact Ac Kb ca
 clear hK K
 try simp only[Ar]
 refine Ao 16 ?_;refine Ao 17 ?_;refine Ao 18 ?_;refine Ao 19 ?_
 try simp only[Ar]
 refine AO [20] ?_
 refine Ag rfl (λ K hK=>?_)
 go_simp
 go_at_call 25
 (with_reducible refine(HA2.out _).mono ?_)
 rintro e wz ⟨rfl,rfl⟩
 refine hK _ _ ?_ (λ hHeld=>?_)
 .exact Ac Kb ca
 clear hK K
 try simp only[Ar]
 refine AO [21] ?_
 refine Ag rfl (λ K hK=>?_)
 go_simp
 go_at_call 26
 (with_reducible refine(HT2.out _ Kb).mono ?_)
 rintro e wc ⟨rfl,kc⟩
 have Kc:Kp Ab wa wc:=Kb.then' kc
 refine hK _ _ ?_ (λ hHeld=>?_)
 .exact Ac Kc ca
 clear hK K
 try simp only[Ar]
 refine Ao 22 ?_;refine Ao 23 ?_;refine Ao 24 ?_;refine Ao 25 ?_
 try simp only[Ar]
 refine AO [26] ?_
 refine Ag rfl (λ K hK=>?_)
 go_simp
 go_at_call 27
 (with_reducible refine(HWi.out _ Kc).mono ?_)
 rintro e wd ⟨rfl,kd⟩
 have Kd:Kp Ab wa wd:=Kc.then' kd
 refine hK _ _ ?_ (λ hHeld=>?_)
 .exact Ac Kd ca
 clear hK K
 try simp only[Ar]
 refine Ao 27 ?_;refine Ao 28 ?_;refine Ao 29 ?_;refine Ao 30 ?_;refine Ao 31 ?_
 try simp only[Ar]
 refine AO [32] ?_
 refine Ag rfl (λ K hK=>?_)
 go_simp
 go_at_call 24
 (with_reducible refine(HBk.out _ Kd).mono ?_)
 rintro e we ⟨bv,rfl,hbo,ke⟩
 have Ke:Kp Ab wa we:=Kd.then' ke
 refine hK _ _ ?_ (λ hHeld=>?_)
 .exact Ac Ke ca
 clear hK K
 try simp only[Ar]
 refine AO [33] ?_
 refine Ag rfl (λ K hK=>?_)
 go_simp
 go_at_call 61
 (with_reducible refine(HCb.out _ _ Ke (C9.Bd hbo)).mono ?_)
 rintro e wf ⟨(⟨hyes,-⟩|⟨-,rfl⟩),kf⟩
 case inl=>exact absurd hyes back23
 have Kf:Kp Ab wa wf:=Ke.then' kf
 refine hK _ _ ?_ (λ hHeld=>?_)
 .exact Ac Kf ca
 clear hK K
 try simp only[Ar]
 refine Ao 34 ?_;refine Ao 35 ?_;refine Ao 36 ?_
 try simp only[Ar]
 refine wpAnyH_done (by kernel_rfl) ?_ _
 go_wp2_with fail
 go_ret
 refine⟨rfl,?_⟩
 have K8f:Kp Ab w8 wf:=HKa.out.then' Kf
 have K5f:Kp (λ k=>k=P.a\/k=P.q) w5 wf:=HK6.out.trans K8f (λ _ _ h=>h.elim)
 have Kw5:Kp Ab w w5:=HK1.out.then' (HK13.out.then' HK5.out)
 refine((Kw5.Am (λ k=>k=P.a\/k=P.q)).trans K5f (λ _ _ h=>h)).mono (λ i hi h=>?_)
 have:=HW.out.2.2.2.2.1 i (by rcases h with h|h;exact .inl h;exact .inr (.inl h))
 have:=HKp.out.size
 omega

end

section
open Go.RowKit

section
attribute [local go_sem ↓] run_eql_slice_nil

theorem Clone_many(b len cap:Nat)(ws:List Nat)(w:World)(hl:ws.length=len)(hc:∀ j,j<len->w.cell? ⟨b,j,none⟩=some (.int .u64 (ws.getD j 0:Nat)))(hle:len<=65536):
  Calls prog 97 #[.slice (some ⟨b,0,none⟩) len cap] w λ e w'=>
   ∃ g cap',e=.returned (.slice (some ⟨g,0,none⟩) len cap')/\w.heap.size<=g/\(∃ cs,w'.heap[g]?=some (.cells cs 55 (0,0))/\len<=cs.size/\∀ j,j<len->cs[j]?=some (.int .u64 (ws.getD j 0:Nat)))/\Kp Ab w w':=by
 have HC:=sE hc
 have HL:=sE hl
 clear hc hl
 go_enter func97,ntmps97
 go_wp2_with (at_builtin;obtain ⟨i0,hi,hz0,hz1,hz2⟩:=info_parts infoWord;go_loud (refine wpList_append_own_at _ rfl (.tmp 5) (.tmp 6) 135 rfl w.heap.size 55 i0 _ 1 8 Dt hi hz0 hz1 hz2 rfl (by omega) (.slice (some ⟨w.heap.size,0,none⟩) 0 0) 0 [] rfl (World.ownsRow_lit w #[] 0 (Nat.le_refl _) (by unfold maxLen;omega) rfl) ⟨b,0,none⟩ len cap (Es ws) rfl (by rw[Es,List.length_map,HL.out];omega) (by intro j u hu;exact clone_cells HC.out HL.out hu) (by intro u hu;exact words_oneCell ws u hu) (by unfold maxLen;omega) (by omega) (by simp) ?_);intro v' w1 hown hgrow hnil hat;clear hi hz0 hz1 hz2)
 have hk:Kp Ab w w1:=((Kr Ab w).alloc _).grown hgrow (λ k e hl=>by simp[Value.ownBlock] at e;omega)
 obtain⟨-,h2⟩:=hown
 rcases h2 with ⟨h2,-⟩|⟨g,cap',cur,h2,h3,h4,h5,h6,h7,h8⟩
 .have:=hnil.1 h2
  simp at this
 .rw [Nat.zero_add,Nat.mul_one,List.nil_append] at h8
  refine bodyPost_ret (v:=v') (by simp[results,results97,go_sem]) rfl ⟨g,cap',by rw[h2,Nat.zero_add],h3,⟨cur,h4,?_,λ j hj=>?_⟩,hk⟩
  .have h9:=congrArg List.length h8
   rw[List.length_take,Es,List.length_map,HL.out] at h9
   simp at h9
   omega
  .have h9:(cur.toList.take len)[j]?=(Es ws)[j]?:=by rw[h8]
   rw[List.getElem?_take_of_lt hj,wordVs_at ws j (by rw[HL.out];exact hj)] at h9
   simpa using h9

end

theorem range_getD(W:Nat->Nat){n j:Nat}(hj:j<n):((List.range n).map W).getD j 0=W j:=by
 simp[List.getD,List.getElem?_map,List.getElem?_range hj]

def AWordsPost(n:Nat)(W:Nat->Nat)(w:World)(e:Ending)(w':World):Prop:=
 ∃ g cap,e=.returned (.tuple #[.slice (some ⟨g,0,none⟩) n cap,.int .i64 0])/\w.heap.size<=g/\(∀ j,j<n->w'.cell? ⟨g,j,none⟩=some (.int .u64 (W j:Nat)))/\Kp Ab w w'

theorem AWords_at(a q n:Nat)(W:Nat->Nat)(w:World)(h:ArenaAt w a q W n):
  Calls prog 66 #[.pointer (some ⟨a,0,none⟩),.int .i64 0,.int .i64 (n:Nat)] w (AWordsPost n W w):=by
 have hn:=h.small
 obtain⟨cap,c,h0,h1,hcap⟩:=h.headC
 have HH:=sE (Ahas_any 0 (n:Nat) a q n W w h)
 have hok:Bt n 0 (n:Nat)=true:=by unfold Bt;rw [decide_eq_true_eq];omega
 rw[hok] at HH
 have HC:=sE (Clone_many q n cap ((List.range n).map W) w (by simp) (λ j hj=>by rw[range_getD W hj];exact h.at_ hj) hn)
 have lq:=h.lt_q
 clear h hok
 go_enter func66,ntmps66
 go_wp2_with fail
 refine HH.out.mono ?_
 rintro e w1 ⟨rfl,rfl⟩
 have hc0:(n:Int)<=(cap:Int):=by omega
 have hE:errV true=0:=rfl
 rw[hE]
 go_wp2_with fail
 refine HC.out.mono ?_
 rintro e w2 ⟨g,cap',rfl,hg,⟨cs',h2,h3,h4⟩,k2⟩
 go_wp2_with fail
 refine bodyPost_ret (v:=.tuple #[.slice (some ⟨g,0,none⟩) n cap',.int .i64 0]) (by simp[results,results66,go_sem]) rfl ⟨g,cap',rfl,hg,λ j hj=>?_,k2⟩
 have:=h4 j hj
 rw[range_getD W hj] at this
 simp only[World.cell?,h2]
 exact this

theorem SameWords_yes(g g' n cap cap':Nat)(W:Nat->Nat)(w:World)(h1:∀ j,j<n->w.cell? ⟨g,j,none⟩=some (.int .u64 (W j:Nat)))(h2:∀ j,j<n->w.cell? ⟨g',j,none⟩=some (.int .u64 (W j:Nat)))(hn:n<=65536):
  Calls prog 68 #[.slice (some ⟨g,0,none⟩) n cap,.slice (some ⟨g',0,none⟩) n cap'] w λ e w'=>e=.returned (.bool true)/\Kp Ab w w':=by
 have H1:=sE h1
 have H2:=sE h2
 clear h1 h2
 go_enter func68,ntmps68
 go_wp2_with fail
 go_loopw [5] (λ x5 wr=>∃ j:Nat,j<=n/\x5=.int .i64 (j:Nat)/\Kp Ab w wr) (λ x5 _=>n-(intOf x5).toNat)
 case atStart=>exact ⟨0,Nat.zero_le _,rfl,Kr _ _⟩
 case round=>
  obtain⟨j,hj,rfl,hk⟩:=hrel
  have HK:=sE hk
  by_cases hjl:j<n
  .have hjl':(j:Int)<(n:Int):=by omega
   have x1:=hk.cell (H1.out j hjl) (λ h=>h)
   have x2:=hk.cell (H2.out j hjl) (λ h=>h)
   obtain⟨y,hy⟩:∃ y,W j=y:=⟨_,rfl⟩
   rw[hy] at x1 x2
   clear hk hy
   go_wp2_with fail
   go_quiet (fail)
   go_wp2
   exact⟨⟨j+1,by omega,by go_num,HK.out.then' (Kp.Aj _)⟩,by simp only[intOf];omega⟩
  .have hjl':¬ (j:Int)<(n:Int):=by omega
   clear hk
   go_wp2_with fail
   exact bodyPost_ret (v:=.bool true) (by simp[results,results68,go_sem]) rfl ⟨rfl,HK.out⟩

theorem cnt_starts:∀ {cs:List Cel} {a b:Nat},Av a cs b->Dj (Aq cs) a (b-a)=(Ak cs).length
 |[],a,b,h=>by
  have:a=b:=h
  subst this
  rw[Nat.sub_self]
  rfl
 |c::cs,a,b,⟨h1,h2,h3⟩=>by
  have hle:=h3.le
  have ih:=cnt_starts h3
  rw[show b-a=c.sz+(b-(a+c.sz)) by omega,FB]
  have e2:Dj (Aq (c::cs)) (a+c.sz) (b-(a+c.sz))=Dj (Aq cs) (a+c.sz) (b-(a+c.sz)):=cntB_congr _ λ t t1 t2=>by
   show((c.tag==1&&c.g==t)||Aq cs t)=Aq cs t
   have:¬ c.g=t:=by omega
   simp[this]
  rw[e2,ih,show c.sz=1+(c.sz-1) by omega,FB]
  have e3:Dj (Aq (c::cs)) (a+1) (c.sz-1)=0:=cntB_zero _ λ t t1 t2=>by
   show((c.tag==1&&c.g==t)||Aq cs t)=false
   have h4:¬ c.g=t:=by omega
   rw[Fg h3 (.inl (by omega))]
   simp[h4]
  have e1:Dj (Aq (c::cs)) a 1=if c.tag=1 then 1 else 0:=by
   show 0+(if Aq (c::cs) (a+0)=true then 1 else 0)=_
   have:Aq (c::cs) (a+0)=(c.tag==1):=by
    show((c.tag==1&&c.g==a+0)||Aq cs (a+0))=(c.tag==1)
    rw[Fg h3 (.inl (by omega))]
    simp[h1]
   rw[this,Nat.zero_add]
   by_cases ht:c.tag=1 <;> simp[ht]
  rw[e1,e3]
  unfold Ak
  by_cases ht:c.tag=1
  .rw [List.filter_cons_of_pos (by simp[ht])]
   simp only[ht,if_true,List.length_cons]
   omega
  .rw [List.filter_cons_of_neg (by simp[ht])]
   simp only[ht,if_false]
   omega

set_option maxRecDepth 20000 in
theorem Same09_at(P:Sp)(W:Nat->Nat)(cs:List Cel)(rb q:Nat)(lv:Value)(w:World)(hs:AB w P W cs)(hd:DocAt w rb q P.n W lv)(hv:AV w lv P.ts)(hl:P.ts.length<=17592186044416)(hM:CV P.ts):
  Calls prog 29 #[.pointer (some ⟨P.s,0,none⟩),.pointer (some ⟨rb,0,none⟩)] w λ e w'=>e=.returned (.bool true)/\Kp Ab w w':=by
 obtain⟨f,hsp,hc,hst⟩:=hs
 have hsm:=hsp.ar.small
 obtain⟨H,hH⟩:∃ H,P.n/2=H:=⟨_,rfl⟩
 have hev:=hsp.ev
 have HAr:Sl (∀ W',Kp Ab w W'->Calls prog 14 #[.pointer (some ⟨P.s,0,none⟩)] W' λ e w'=>e=.returned (.pointer (some ⟨P.a,0,none⟩))/\w'=W'):=⟨λ W' k=>Ck P W f W' (hsp.Ad k)⟩
 have HStt:Sl (∀ W',Kp Ab w W'->Calls prog 22 #[.pointer (some ⟨P.s,0,none⟩)] W' λ e w'=>∃ p q,e=.returned (.pointer (some ⟨p,0,none⟩))/\W'.heap.size<=p/\W'.heap.size<=q/\AC w' p q f H/\Kp Ab W' w'):=⟨λ W' k=>by rw[<- hH];exact Fy P W f W' (hsp.Ad k)⟩
 have HGr:Sl (∀ W',Kp Ab w W'->Calls prog 42 #[.pointer (some ⟨P.s,0,none⟩)] W' λ e w'=>e=.returned (.int .i64 (H:Nat))/\w'=W'):=⟨λ W' k=>by rw[<- hH];exact Eu P W f W' (hsp.Ad k)⟩
 have HLen:Sl (∀ W',Kp Ab w W'->Calls prog 59 #[.pointer (some ⟨P.a,0,none⟩)] W' λ e w'=>e=.returned (.int .i64 (P.n:Nat))/\W'=w'):=⟨λ W' k=>ALen_at P.a P.q P.n W W' (hsp.Ad k).ar⟩
 have HWd:Sl (∀ W',Kp Ab w W'->Calls prog 66 #[.pointer (some ⟨P.a,0,none⟩),.int .i64 0,.int .i64 (P.n:Nat)] W' (AWordsPost P.n W W')):=⟨λ W' k=>AWords_at P.a P.q P.n W W' (hsp.Ad k).ar⟩
 have HCl:Sl (∀ W',Kp Ab w W'->Calls prog 32 #[.pointer (some ⟨P.s,0,none⟩)] W' λ e w'=>∃ v,e=.returned v/\w'.ownsRow W'.heap.size 71 5 v cs.length (BP cs)/\Kp Ab W' w'):=⟨λ W' kk=>Cells_at P cs W' ⟨W,f,hsp.Ad kk,hc,hst⟩⟩
 have HAll:Sl (∀ W',Kp Ab w W'->Calls prog 67 #[.pointer (some ⟨rb,0,none⟩)] W' λ e w'=>∃ v,e=.returned v/\w'.ownsRow W'.heap.size 71 5 v cs.length (BP cs)/\Kp Ab W' w'):=⟨λ W' kk=>DAll_at P W cs rb q lv W' (hd.Ad kk) hc (hv.Ad kk) hl hM⟩
 obtain⟨cap,d0,d1⟩:=hd.head
 have HRow:Sl (∀ W',Kp Ab w W'->∀ j,j<P.n->W'.cell? ⟨q,j,none⟩=some (.int .u64 (W j:Nat))):=⟨λ W' kk j hj=>kk.cell (hd.row.at_ hj) (λ h=>h)⟩
 have HD0:=sE d0
 have HCn:Sl (Dj f 0 H=(Ak cs).length):=⟨by
  have h1:=cnt_starts hc.tl
  rw[hH,Nat.sub_zero] at h1
  rw[<- h1]
  exact cntB_congr _ λ t _ t2=>hst t (by omega)⟩
 have HSf:Sl (∀ c∈cs,c.tag=1->c.g<H/\f c.g=true):=⟨λ c hcm h1=>by
  have:=hc.tl.mem hcm
  refine⟨by omega,?_⟩
  rw[hst _ (by omega)]
  unfold Aq
  rw[List.any_eq_true]
  exact⟨c,hcm,by simp[h1]⟩⟩
 have hcl:cs.length<=32768:=by have:=BB hc.tl;omega
 obtain⟨n,hn⟩:∃ n,cs.length=n:=⟨_,rfl⟩
 have HN:=sE hn
 have hPn:(P.n:Int)/2=(H:Int):=by omega
 have hwH:IntKind.i64.wrap (H:Int)=(H:Int):=by rw[IntKind.wrap_i64];omega
 have lrb:=hd.lt
 clear hsp hc hst hd hv hl hM d0 d1 hn
 go_enter func29,ntmps29
 go_wp2_with fail
 refine(HAr.out w (Kr _ _)).mono ?_
 rintro e w1 ⟨rfl,rfl⟩
 go_wp2_with fail
 refine(HStt.out w1 (Kr _ _)).mono ?_
 rintro e w2 ⟨p0,q0,rfl,-,-,-,k2⟩
 have HK2:=sE k2
 clear k2
 go_wp2_with fail
 refine(HAr.out w2 HK2.out).mono ?_
 rintro e w3 ⟨rfl,rfl⟩
 go_wp2_with fail
 refine(HAr.out w3 HK2.out).mono ?_
 rintro e w4 ⟨rfl,rfl⟩
 go_wp2_with fail
 refine(HLen.out w4 HK2.out).mono ?_
 rintro e w5 ⟨rfl,rfl⟩
 go_wp2_with fail
 refine(HWd.out w4 HK2.out).mono ?_
 rintro e w5 ⟨g,gc,rfl,hg,hgw,k5⟩
 have HK5:=sE (HK2.out.then' k5)
 have HG5:=sE hgw
 clear hgw k5
 go_wp2_with fail
 refine(HAll.out w5 HK5.out).mono ?_
 rintro e w6 ⟨v,rfl,hrow,k6⟩
 have HK6:=sE (HK5.out.then' k6)
 have HK56:=sE k6
 have HR6:=sE (RowC.Bd hrow)
 obtain⟨va,vc,rfl⟩:=Aw hrow
 have cd:=HK6.out.cell HD0.out (λ h=>h)
 rw[HN.out] at HR6 hcl ⊢
 clear k6 hrow
 go_wp2_with fail
 have kk0:Kp Ab w1 w6.drew:=HK6.out.drew
 refine wp_region_held_drew (S:=λ w'=>w'.cell? ⟨rb,0,none⟩=some (.slice (some ⟨q,0,none⟩) P.n cap)) (by kernel_rfl) ?_ (λ hHeld=>?_)
 .exact cd
 refine Ao 0 ?_;refine Ao 1 ?_;refine Ao 2 ?_;refine Ao 3 ?_;refine Ao 4 ?_;refine Ao 5 ?_;refine Ao 6 ?_;refine Ao 7 ?_
 try simp only[Ar]
 refine AO [8] ?_
 refine Ag rfl (λ K hK=>?_)
 go_simp
 go_at_call 68
 (with_reducible refine(SameWords_yes g q P.n gc cap W _ (λ j hj=>((HK56.out.drew).cell (HG5.out j hj) (λ h=>h))) (HRow.out _ kk0) hsm).mono ?_)
 rintro e w7 ⟨rfl,k7⟩
 have K7:Kp Ab w1 w7:=kk0.then' k7
 have K67:Kp Ab w6 w7:=((Kr Ab w6).drew).then' k7
 refine hK _ _ ?_ (λ hHeld=>?_)
 .exact Ac K67 cd
 clear hK K
 try simp only[Ar]
 refine Ao 9 ?_;refine Ao 10 ?_;refine Ao 11 ?_;refine Ao 12 ?_;refine Ao 14 ?_
 try simp only[Ar]
 refine AO [13] ?_
 refine Ag rfl (λ K hK=>?_)
 go_simp
 go_at_call 32
 (with_reducible refine(HCl.out _ K7).mono ?_)
 rintro e w8 ⟨cv,rfl,hrow8,k8⟩
 have K8:Kp Ab w1 w8:=K7.then' k8
 have K68:Kp Ab w6 w8:=K67.then' k8
 have HC8:=sE (RowC.Bd hrow8)
 clear hrow8
 refine hK _ _ ?_ (λ hHeld=>?_)
 .exact Ac K68 cd
 clear hK K
 try simp only[Ar]
 refine AO [15] ?_
 refine Ag rfl (λ K hK=>?_)
 go_simp
 go_at_call 69
 (with_reducible refine(SameC_at cs _ _ _ HC8.out (by rw[<- HN.out];exact (by rw[HN.out];exact HR6.out.Ad K68)) (by rw[HN.out];omega)).mono ?_)
 rintro e w9 ⟨rfl,k9⟩
 have K9:Kp Ab w1 w9:=K8.then' k9
 have K69:Kp Ab w6 w9:=K68.then' k9
 refine hK _ _ ?_ (λ hHeld=>?_)
 .exact Ac K69 cd
 clear hK K
 try simp only[Ar]
 refine Ao 16 ?_;refine Ao 17 ?_;refine Ao 18 ?_;refine Ao 19 ?_;refine Ao 21 ?_;refine Ao 22 ?_;refine Ao 23 ?_;refine Ao 24 ?_;refine Ao 25 ?_;refine Ao 26 ?_
 try simp only[Ar]
 refine AO [20] ?_
 refine Ag rfl (λ K hK=>?_)
 go_simp
 go_at_call 42
 (with_reducible refine(HGr.out _ K9).mono ?_)
 rintro e wz ⟨rfl,rfl⟩
 refine hK _ _ ?_ (λ hHeld=>?_)
 .exact Ac K69 cd
 clear hK K
 try simp only[Ar]
 refine Ao 27 ?_;refine Ao 28 ?_;refine Ao 29 ?_;refine Ao 30 ?_;refine Ao 33 ?_
 try simp only[Ar]
 refine AO [31] ?_
 refine Ag rfl (λ K hK=>?_)
 go_simp
 go_at_call 22
 (with_reducible refine(HStt.out _ K9).mono ?_)
 rintro e wa ⟨p1,q1,rfl,-,-,b1,ka⟩
 have Ka:Kp Ab w1 wa:=K9.then' ka
 have K6a:Kp Ab w6 wa:=K69.then' ka
 refine hK _ _ ?_ (λ hHeld=>?_)
 .exact Ac K6a cd
 clear hK K
 try simp only[Ar]
 refine AO [32] ?_
 refine Ag rfl (λ K hK=>?_)
 go_simp
 go_at_call 70
 (with_reducible refine(Len_at H p1 q1 f _ b1).mono ?_)
 rintro e wz ⟨rfl,rfl⟩
 refine hK _ _ ?_ (λ hHeld=>?_)
 .exact Ac K6a cd
 clear hK K
 try simp only[Ar]
 refine AO [34] ?_
 refine Ag rfl (λ K hK=>?_)
 go_simp
 go_at_call 42
 (with_reducible refine(HGr.out _ Ka).mono ?_)
 rintro e wz ⟨rfl,rfl⟩
 refine hK _ _ ?_ (λ hHeld=>?_)
 .exact Ac K6a cd
 clear hK K
 try simp only[Ar]
 refine Ao 35 ?_;refine Ao 36 ?_
 try simp only[Ar]
 refine wpAnyH_done (by kernel_rfl) ?_ _
 have HKa:=sE Ka
 have HK6a:=sE K6a
 clear cd hHeld K7 K67 K8 K68 K9 K69 Ka K6a b1 ka k7 k8 k9 kk0 hPn hwH
 go_wp2_with fail
 go_loopw [8,9] (λ x8 x9 wr=>∃ j:Nat,j<=n/\x9=.int .i64 (j:Nat)/\x8=.int .i64 ((Ak (cs.take j)).length:Nat)/\Kp Ab w6 wr) (λ _ x9 _=>n-(intOf x9).toNat)
 case atStart=>exact ⟨0,Nat.zero_le _,rfl,rfl,HK6a.out⟩
 case round=>
  obtain⟨j,hj,rfl,rfl,hk⟩:=hrel
  have HK:=sE hk
  have hol:(Ak (cs.take j)).length<=j:=by
   have h1:(Ak (cs.take j)).length<=(cs.take j).length:=List.length_filter_le _ _
   have h2:=List.length_take_le j cs
   omega
  by_cases hjl:j<n
  .have hjl':(j:Int)<(n:Int):=by omega
   obtain⟨x,hxj⟩:∃ x,cs[j]?=some x:=⟨_,List.getElem?_eq_getElem (by rw[HN.out];exact hjl)⟩
   have hta:=objsOf_take hxj
   have HSx:Sl (x.tag=1->x.g<H/\f x.g=true):=⟨HSf.out x (List.mem_of_getElem? hxj)⟩
   obtain⟨va',vc',e,hx⟩:=HR6.out
   injection e with e1 e3 e2
   clear e3
   subst e1 e2
   obtain⟨bb,rfl,hbb,x0,x1,-,-,-⟩:=hx j x hxj
   replace x0:=hk.cell x0 (λ h=>h)
   replace x1:=hk.cell x1 (λ h=>h)
   have HX0:=sE x0
   obtain⟨m,hm⟩:∃ m,(Ak (cs.take j)).length=m:=⟨_,rfl⟩
   rw[hm] at hta hol ⊢
   clear hx hxj hk hm
   by_cases ht:x.tag=1
   .have t1:((x.tag:Int)==1)=true:=by simp[ht]
    have hw1:IntKind.i64.wrap ((m:Int)+1)=(m:Int)+1:=by rw[IntKind.wrap_i64];omega
    rw[if_pos ht] at hta
    have HTa:=sE hta
    obtain⟨hxg,hxf⟩:=HSx.out ht
    have K1r:Kp Ab w1 wr:=HK6.out.then' HK.out
    clear ht hta HSx
    go_wp2_with fail
    refine wp_region_held_drew (S:=λ w'=>w'.cell? ⟨bb,j*5,none⟩=some (.int .i64 (x.g:Nat))) (by kernel_rfl) ?_ (λ hHeld=>?_)
    .exact HX0.out
    refine Ao 0 ?_;refine Ao 2 ?_;refine Ao 3 ?_;refine Ao 4 ?_;refine Ao 5 ?_;refine Ao 6 ?_
    try simp only[Ar]
    refine AO [1] ?_
    refine Ag rfl (λ K hK=>?_)
    go_simp
    go_at_call 22
    (with_reducible refine(HStt.out _ K1r.drew).mono ?_)
    rintro e wb ⟨p2,q2,rfl,-,-,b2,kb⟩
    have Kb:Kp Ab wr wb:=((Kr Ab wr).drew).then' kb
    refine hK _ _ ?_ (λ hHeld=>?_)
    .exact Ac Kb HX0.out
    clear hK K
    try simp only[Ar]
    refine AO [7] ?_
    refine Ag rfl (λ K hK=>?_)
    go_simp
    go_at_call 58
    (with_reducible refine(Has_in x.g H p2 q2 f _ b2 hxg).mono ?_)
    rintro e wc ⟨rfl,kc⟩
    rw[hxf]
    have Kc:Kp Ab wr wc:=Kb.then' kc
    refine hK _ _ ?_ (λ hHeld=>?_)
    .exact Ac Kc HX0.out
    clear hK K
    try simp only[Ar]
    refine Ao 8 ?_
    try simp only[Ar]
    refine wpAnyH_done (by kernel_rfl) ?_ _
    have HKc:=sE Kc
    clear hHeld Kc kc Kb kb b2 K1r x0 x1 hxf
    go_wp2_with fail
    exact⟨⟨j+1,by omega,by go_num,by rw[HTa.out];go_num,HK.out.then' HKc.out⟩,by simp only[intOf];omega⟩
   .have t1:((x.tag:Int)==1)=false:=by rw[beq_eq_false_iff_ne];omega
    rw[if_neg ht,Nat.add_zero] at hta
    have HTa:=sE hta
    clear ht hta
    go_wp2_with fail
    exact⟨⟨j+1,by omega,by go_num,by rw[HTa.out];rfl,HK.out⟩,by simp only[intOf];omega⟩
  .have hjl':¬ (j:Int)<(n:Int):=by omega
   have K1r:Kp Ab w1 wr:=HK6.out.then' HK.out
   have HK1r:=sE K1r
   have HOb:Sl ((Ak (cs.take j)).length=Dj f 0 H):=⟨by rw[List.take_of_length_le (by rw[HN.out];omega),HCn.out]⟩
   rw[HOb.out]
   clear hk K1r hol
   go_wp2_with fail
   refine(HStt.out _ HK1r.out).mono ?_
   rintro e wb ⟨p2,q2,rfl,-,-,b2,kb⟩
   have HB2:=sE b2
   have HKb:=sE (HK1r.out.then' kb)
   clear b2 kb
   go_wp2_with fail
   refine(HGr.out _ HKb.out).mono ?_
   rintro e wc ⟨rfl,rfl⟩
   go_wp2_with fail
   refine(Count_yes 0 H H p2 q2 f _ HB2.out (by omega)).mono ?_
   rintro e wd ⟨rfl,kd⟩
   have HKd:=sE (HKb.out.then' kd)
   clear kd
   go_wp2_with fail
   go_ret
   exact⟨rfl,HKd.out⟩

def Objs10Post(cs:List Cel)(w:World)(e:Ending)(w':World):Prop:=
 ∃ v,e=.returned v/\w'.ownsRow w.heap.size 71 5 v (Ak cs).length (BP (Ak cs))/\Kp Ab w w'

theorem Objs10_at(cs:List Cel)(v:Value)(w:World)(h:RowC w v cs)(hl:cs.length<=32768):
  Calls prog 31 #[v] w (Objs10Post cs w):=by
 have HR:=sE h
 obtain⟨va,vc,rfl,-⟩:=h
 obtain⟨n,hn⟩:∃ n,cs.length=n:=⟨_,rfl⟩
 rw[hn] at HR hl ⊢
 have HN:=sE hn
 clear hn
 go_enter func31,ntmps31
 go_wp2_with fail
 go_loopw [3,4] (λ x3 x4 wr=>∃ j:Nat,j<=n/\x4=.int .i64 (j:Nat)/\wr.ownsRow w.heap.size 71 5 x3 (Ak (cs.take j)).length (BP (Ak (cs.take j)))/\Kp Ab w wr) (λ _ x4 _=>n-(intOf x4).toNat)
 case atStart=>exact ⟨0,Nat.zero_le _,rfl,World.ownsRow_nil _ _ _ _,Kr _ _⟩
 case round=>
  obtain⟨j,hj,rfl,ho,hk⟩:=hrel
  have HK:=sE hk
  have HO:=sE ho
  obtain⟨oa,oc,rfl⟩:=Aw ho
  have hol:(Ak (cs.take j)).length<=j:=by
   have h1:(Ak (cs.take j)).length<=(cs.take j).length:=List.length_filter_le _ _
   have h2:=List.length_take_le j cs
   omega
  by_cases hjl:j<n
  .have hjl':(j:Int)<(n:Int):=by omega
   obtain⟨x,hxj⟩:∃ x,cs[j]?=some x:=⟨_,List.getElem?_eq_getElem (by rw[HN.out];exact hjl)⟩
   have hta:Ak (cs.take (j+1))=Ak (cs.take j)++(if x.tag=1 then [x] else []):=by
    rw[List.take_add_one,hxj,Fq]
    congr 1
    show Ak [x]=_
    unfold Ak
    by_cases ht:x.tag=1
    .rw [if_pos ht,List.filter_cons_of_pos (by simp[ht])];rfl
    .rw [if_neg ht,List.filter_cons_of_neg (by simp[ht])];rfl
   obtain⟨va',vc',e,hx⟩:=HR.out
   injection e with e1 e3 e2
   clear e3
   subst e1 e2
   obtain⟨bb,rfl,hbb,x0,x1,x2,x3,x4⟩:=hx j x hxj
   replace x0:=hk.cell x0 (λ h=>h)
   replace x1:=hk.cell x1 (λ h=>h)
   replace x2:=hk.cell x2 (λ h=>h)
   replace x3:=hk.cell x3 (λ h=>h)
   replace x4:=hk.cell x4 (λ h=>h)
   have hzr:=hk.size
   obtain⟨os,hos⟩:∃ os,Ak (cs.take j)=os:=⟨_,rfl⟩
   rw[hos] at hta hol HO ⊢
   clear hx hxj hk ho hos
   by_cases ht:x.tag=1
   .have t1:((x.tag:Int)==1)=true:=by simp[ht]
    rw[if_pos ht] at hta
    have HTa:=sE hta
    clear ht hta
    go_wp2_with (at_builtin;obtain ⟨i0,hi,hz0,hz1,hz2⟩:=info_parts infoCell;go_loud (refine wpList_append_lies _ rfl (.tmp 18) (.tmp 23) 40 rfl w.heap.size 71 i0 _ 5 40 Dr hi hz0 hz1 hz2 rfl (by omega) (.slice oa os.length oc) os.length (BP os) rfl (HO.out.alloc _) ⟨wr.heap.size,0,none⟩ 1 1 [.int .i64 (x.g:Nat),.int .u8 (x.tag:Nat),.int .i64 (x.ty:Nat),.int .i64 (x.ln:Nat),.int .i64 (x.sz:Nat)] rfl rfl (World.news_of_block (wN wr _)) (by intro u hu;simp at hu;rcases hu with rfl|rfl|rfl|rfl|rfl <;> rfl) (by omega) (by unfold maxLen;omega) (by omega) (by first|(simp;done)|(simp;omega)) (wr.heap.size+1) (by simp) ?_);intro gn capn w7 hown7 hgrow hat hlt;clear hi hz0 hz1 hz2;have HR7:=sE hown7;have HG7:=sE hgrow;clear hown7 hgrow hat hlt)
    have K7:Kp Ab w w7:=(HK.out.alloc _).grown HG7.out (λ k e hk=>by have:=(Af HO.out e).1;omega)
    refine⟨⟨j+1,by omega,by go_num,?_,K7⟩,by simp only[intOf];omega⟩
    rw[HTa.out,List.length_append,Ex]
    exact HR7.out
   .have t1:((x.tag:Int)==1)=false:=by rw[beq_eq_false_iff_ne];omega
    rw[if_neg ht,List.append_nil] at hta
    have HTa:=sE hta
    clear ht hta
    go_wp2_with fail
    exact⟨⟨j+1,by omega,by go_num,by rw[HTa.out];exact HO.out,HK.out⟩,by simp only[intOf];omega⟩
  .have hjl':¬ (j:Int)<(n:Int):=by omega
   have ht:cs.take j=cs:=List.take_of_length_le (by rw[HN.out];omega)
   rw[ht] at HO ⊢
   clear hk ho
   go_wp2_with fail
   go_ret
   exact⟨_,rfl,HO.out,HK.out⟩

end

end Go.Proofs.YtmfajopmppfldaaGreatDoor
