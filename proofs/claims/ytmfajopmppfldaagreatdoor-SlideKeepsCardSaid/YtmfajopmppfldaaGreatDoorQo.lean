/-
  Lemmas for the laws, together: Same09, TurnDo, TurnAl, TurnPl.
-/
import Derived.Test.YtmfajopmppfldaaGreatDoorQh
import Derived.Test.YtmfajopmppfldaaGreatDoorQi
import Derived.Test.YtmfajopmppfldaaGreatDoorQn
import Derived.Test.YtmfajopmppfldaaGreatDoorQm
import Derived.Test.YtmfajopmppfldaaGreatDoorQk
set_option linter.unusedVariables false
set_option maxHeartbeats 16000000
namespace Go.Proofs.YtmfajopmppfldaaGreatDoor
open Go.Proofs.Tryz
section
open Go.RowKit

section
attribute [local go_sem ↓] run_eql_slice_nil

theorem Clone_many(b len cap:Nat)(ws:List Nat)(w:World)(hl:ws.length=len)(hc:∀ j,j<len->w.cell? ⟨b,j,none⟩=some (.int .u64 (ws.getD j 0:Nat)))(hle:len<=65536):
  Calls prog 97 #[.slice (some ⟨b,0,none⟩) len cap] w λ e w'=>
   ∃ g cap',e=.returned (.slice (some ⟨g,0,none⟩) len cap')/\w.heap.size<=g/\len<=cap'/\(∃ cs,w'.heap[g]?=some (.cells cs 55 (0,0))/\len<=cs.size/\∀ j,j<len->cs[j]?=some (.int .u64 (ws.getD j 0:Nat)))/\Kp Ab w w':=by
 have HC:=sE hc
 have HL:=sE hl
 clear hc hl
 go_enter func97,ntmps97
 go_wp2_with (at_builtin;obtain ⟨i0,hi,hz0,hz1,hz2⟩:=info_parts infoWord;go_loud (refine wpList_append_own_at _ rfl (.tmp 5) (.tmp 6) 135 rfl w.heap.size 55 i0 _ 1 8 CQ hi hz0 hz1 hz2 rfl (by omega) (.slice (some ⟨w.heap.size,0,none⟩) 0 0) 0 [] rfl (World.ownsRow_lit w #[] 0 (Nat.le_refl _) (by unfold maxLen;omega) rfl) ⟨b,0,none⟩ len cap (Ez ws) rfl (by rw[Ez,List.length_map,HL.out];omega) (by intro j u hu;exact clone_cells HC.out HL.out hu) (by intro u hu;exact words_oneCell ws u hu) (by unfold maxLen;omega) (by omega) (by simp) ?_);intro v' w1 hown hgrow hnil hat;clear hi hz0 hz1 hz2)
 have hk:Kp Ab w w1:=((Kr Ab w).alloc _).grown hgrow (λ k e hl=>by simp[Value.ownBlock] at e;omega)
 obtain⟨-,h2⟩:=hown
 rcases h2 with ⟨h2,-⟩|⟨g,cap',cur,h2,h3,h4,h5,h6,h7,h8⟩
 .have:=hnil.1 h2
  simp at this
 .rw [Nat.zero_add,Nat.mul_one,List.nil_append] at h8
  refine bodyPost_ret (v:=v') (by simp[results,results97,go_sem]) rfl ⟨g,cap',by rw[h2,Nat.zero_add],h3,by omega,⟨cur,h4,?_,λ j hj=>?_⟩,hk⟩
  .have h9:=congrArg List.length h8
   rw[List.length_take,Ez,List.length_map,HL.out] at h9
   simp at h9
   omega
  .have h9:(cur.toList.take len)[j]?=(Ez ws)[j]?:=by rw[h8]
   rw[List.getElem?_take_of_lt hj,wordVs_at ws j (by rw[HL.out];exact hj)] at h9
   simpa using h9

end

theorem range_getD(W:Nat->Nat){n j:Nat}(hj:j<n):((List.range n).map W).getD j 0=W j:=by
 simp[List.getD,List.getElem?_map,List.getElem?_range hj]

end

section
open Go.RowKit

def CB(B:Nat):List Deferred->World->Prop
 |[],_=>True
 |d::ds,w=>(∃ r,B<=r/\d={target:=.collected r,args:=#[]}/\w.heap[r]?=some (.deferred (some []))/\∀ e∈ds,¬ e=d)/\CB B ds w

theorem CB.keep{B:Nat}{S:Nat->Prop}{w w':World}(k:Kp S w w')(hS:∀ i,S i->i<B):∀ {ds:List Deferred},CB B ds w->CB B ds w'
 |[],_=>trivial
 |d::ds,⟨⟨r,h1,h2,h3,h4⟩,h5⟩=>⟨⟨r,h1,h2,k.at_ h3 (λ h=>by have:=hS r h;omega),h4⟩,CB.keep k hS h5⟩

theorem CB.lt{B:Nat}{w:World}:∀ {ds:List Deferred},CB B ds w->∀ e∈ds,∃ r,e={target:=.collected r,args:=#[]}/\r<w.heap.size
 |d::ds,⟨⟨r,h1,h2,h3,h4⟩,h5⟩,e,he=>by
  rcases List.mem_cons.1 he with rfl|he
  .exact ⟨r,h2,lZ h3⟩
  .exact CB.lt h5 e he

theorem CB.shut{B r:Nat}{w:World}:∀ {ds:List Deferred},CB B ds w->(∀ e∈ds,¬ e={target:=.collected r,args:=#[]})->CB B ds (w.putObj r (.deferred none))
 |[],_,_=>trivial
 |d::ds,⟨⟨q,h1,h2,h3,h4⟩,h5⟩,hn=>⟨⟨q,h1,h2,by
   have:¬ q=r:=λ e=>hn d List.mem_cons_self (by rw[h2,e])
   rw[World.putObj_heap_other this]
   exact h3,h4⟩,CB.shut h5 λ e he=>hn e (List.mem_cons_of_mem _ he)⟩

theorem leaves_marks{F:Fence}{n B:Nat}{P:Program}{fn:Func}{tmps:Array Value}{R:Ending->World->Prop}:∀ {ds:List Deferred} {w:World},CB B ds w->
  (∀ w',Kp (λ k=>B<=k) w w'->(∀ p,w'.cell? p=w.cell? p)->LeavesInM F n P fn tmps R [] .returning w')->LeavesInM F n P fn tmps R ds .returning w
 |[],w,_,h=>h w (Kr _ _) (λ _=>rfl)
 |d::ds,w,⟨⟨r,h1,h2,h3,h4⟩,h5⟩,h=>by
  refine⟨by simp,.inl ⟨r,_,by rw[h2],run_takeDeferred h3,?_⟩⟩
  have h6:=CB.shut (r:=r) h5 λ e he=>by rw[<- h2];exact h4 e he
  refine leaves_marks h6 λ w' k hc=>h w' ?_ λ p=>?_
  .exact ((Kr (λ k=>B<=k) w).putObj (r:=r) (λ _=>h1) _).trans k (λ _ _ h=>h)
  .rw [hc p]
   exact cell_putObj h3 rfl rfl p

theorem twords_fn(b:Nat)(w:World):
  Calls prog 64 #[.agg #[.pointer (some ⟨b,0,none⟩)]] w λ e w'=>
   e=.returned (.func (.func 112) #[] #[.pointer (some ⟨w.heap.size,0,none⟩)])/\w.alloc (.cells #[.pointer (some ⟨b,0,none⟩)] 132)=w':=by
 have hmf:∀ (fn:Fn) (first cap:Array Value) (w:World),(Instr.makeFunc fn first cap).run prog w=.ok (.func fn first cap) w:=λ _ _ _ _=>rfl
 go_enter func64,ntmps64
 go_wp2
 go_ret
 exact⟨rfl,rfl⟩

theorem updW_same(W:Nat->Nat)(k:Nat):Ca W k (W k)=W:=funext λ a=>by
 unfold Ca
 split
 .rename_i h;rw [h]
 .rfl

theorem turnS_snoc(es:List (Nat×Nat×Nat))(g:Nat)(pre:List Nat)(s:Nat)(W:Nat->Nat)(hn:(pre++[s]).Nodup):BU es g (pre++[s]) W=Ca (BU es g pre W) (2*g+1+s) (toA es (W (2*g+1+s))):=by
 obtain⟨h1,h2,h3⟩:=List.nodup_append.1 hn
 have:BU es g pre W (2*g+1+s)=W (2*g+1+s):=by
  rw[Er es g _ h1,if_neg]
  rintro ⟨t,ht,e⟩
  exact h3 t ht s (by simp) (by omega)
 rw[turnS_app,BU,BU,this]

theorem cntS_snoc(es:List (Nat×Nat×Nat))(g:Nat)(pre:List Nat)(s:Nat)(W:Nat->Nat)(hn:(pre++[s]).Nodup):cntS es g (pre++[s]) W=cntS es g pre W+(if toA es (W (2*g+1+s))=W (2*g+1+s) then 0 else 1):=by
 obtain⟨h1,h2,h3⟩:=List.nodup_append.1 hn
 have:BU es g pre W (2*g+1+s)=W (2*g+1+s):=by
  rw[Er es g _ h1,if_neg]
  rintro ⟨t,ht,e⟩
  exact h3 t ht s (by simp) (by omega)
 rw[cntS_app,cntS,cntS,this,Nat.add_zero]

def TrnI(es:List (Nat×Nat×Nat))(P:Sp)(W0:Nat->Nat)(g cn:Nat)(rs:List Nat)(nb:Nat)(wl:World)(pre:List Nat)(S:Nat->Prop)(W':World):Prop:=
 ArenaAt W' P.a P.q (BU es g pre W0) P.n/\W'.heap[nb]?=some (.cells #[.int .i64 (cn+cntS es g pre W0:Nat)] 3 (0,0))/\(S=λ k=>k=P.a\/k=P.q\/k=nb)/\Kp (λ k=>k=P.a\/k=P.q\/k=nb) wl W'/\pre <+: rs

theorem hsW1{w w':World}{P:Sp}{W:Nat->Nat}{cs:List Cel}(h:Az w P W cs)(k:Kp Ab w w'):Az w' P W cs:=by
 obtain⟨f,h1,h2,h3⟩:=h
 exact⟨f,h1.Ad k,h2,h3⟩

theorem rfG_len{P:Sp}{W:Nat->Nat}{cs:List Cel}(h:CellsAt P W cs)(g:Nat):(FP P.ts cs g).length<=65536:=by
 unfold FP
 cases hf:cs.find? (λ c=>c.tag==1&&c.g==g) with
 |none=>simp
 |some c=>
  have h1:=List.find?_some hf
  have h2:=List.mem_of_find?_eq_some hf
  simp only[Bool.and_eq_true,beq_iff_eq] at h1
  simp only
  unfold BP
  cases ht:typeOf P.ts (c.ty:Nat) with
  |none=>simp
  |some x=>
   obtain⟨k,wds,m⟩:=x
   exact Eh (kind_of h h2 h1.1 ht)

def DoCut(P:Sp)(c:Cel)(wb:World)(x10 x11:Value)(wx:World):Prop:=
 ∃ (hb b:Nat) (k wds:Int) (m:Nat),x10=.pointer (some ⟨hb,0,none⟩)/\x11=.int .i64 0/\wx.heap[hb]?=some (.cells #[.pointer (some ⟨b,0,none⟩)] 44 (0,0))/\Bt wx b P.a c k wds m/\
  (AP k wds m (c.ln:Nat)=0/\m<18446744073709551616/\BP P.ts c=Bc k wds m (c.ln:Nat)/\2*c.g+1+AL k wds (c.ln:Nat)<=(P.n:Nat))/\Kp Ab wb wx/\wb.heap.size<=b/\wb.heap.size<=hb

theorem SpaceAt.wordsS{S:Nat->Prop}{w w':World}{P:Sp}{W W':Nat->Nat}{f:Nat->Bool}(h:SpaceAt w P W f)(k:Kp S w w')(hS:∀ i,P.all i->S i->i=P.a\/i=P.q)(ar:ArenaAt w' P.a P.q W' P.n):SpaceAt w' P W' f:=by
 have hA:=h.ap.1 P.a (.inl rfl)
 have hQ:=h.ap.1 P.q (.inr (.inl rfl))
 have h1:=h.ap.2.1
 have h2:=h.ap.2.2
 have hn:∀ i,P.all i->¬ i=P.a->¬ i=P.q->¬ S i:=λ i hi n1 n2 hs=>by
  rcases hS i hi hs with e|e
  .exact n1 e
  .exact n2 e
 refine⟨k.at_ h.hs (hn _ (by simp[Sp.all]) ?_ ?_),ar,h.tb.keep k (hn _ (by simp[Sp.all]) ?_ ?_) (hn _ (by simp[Sp.all]) ?_ ?_),h.bt.keep k (hn _ (by simp[Sp.all]) ?_ ?_) (hn _ (by simp[Sp.all]) ?_ ?_),h.fl.keep k (hn _ (by simp[Sp.all]) ?_ ?_),h.ap,h.ev,λ i hi=>Nat.lt_of_lt_of_le (h.lt i hi) k.size⟩ <;> omega

def TDoPost(P:Sp)(W:Nat->Nat)(cs:List Cel)(es:List (Nat×Nat×Nat))(w:World)(e:Ending)(w':World):Prop:=
 e=.returned (.tuple #[.int .i64 (Fw es (FP P.ts cs) es W:Nat),.int .i64 0])/\Az w' P (BZ es (FP P.ts cs) es W) cs/\Kp (λ k=>k=P.a\/k=P.q) w w'

attribute [local go_sem] Oper.semAt_some

set_option maxRecDepth 20000 in
theorem TDo_at(P:Sp)(W:Nat->Nat)(cs:List Cel)(es:List (Nat×Nat×Nat))(v:Value)(w:World)(hs:Az w P W cs)(h:Et w v es)(hg:GoodP cs es)(hl:es.length<=32768)(hms:∀ x∈P.ts,x.m<18446744073709551616)(hv:∀ b o l c,v=.slice (some ⟨b,o,none⟩) l c->¬ P.own b):
  Calls prog 28 #[.pointer (some ⟨P.s,0,none⟩),.agg #[v]] w (TDoPost P W cs es w):=by
 have HSp:=sE hs
 have HRo:=sE h
 have HGp:=sE hg
 obtain⟨va,vc,rfl,-⟩:=h
 obtain⟨n,hn⟩:∃ n,es.length=n:=⟨_,rfl⟩
 rw[hn] at HRo hl hv ⊢
 have HN:=sE hn
 obtain⟨f,hsp,hcs,hst⟩:=hs
 have lall:=hsp.lt
 have hsm:=hsp.ar.small
 have HFt:Sl (FC cs (castS es)):=⟨hg.fits⟩
 have HSm:Sl (∀ x∈es,x.1<=65536/\x.2.1<=65536):=⟨λ x hx=>by
  have:=hg.fit hcs.tl hx
  omega⟩
 obtain⟨B,hB⟩:∃ B,w.heap.size=B:=⟨_,rfl⟩
 have HB:=sE hB
 obtain⟨w1,hw1⟩:∃ w1,w1=(w.alloc (.cells #[.slice va n vc] 33)).alloc (.cells #[.int .i64 0] 3):=⟨_,rfl⟩
 have k1:Kp Ab w w1:=by rw[hw1];exact ((Kr _ w).alloc _).alloc _
 have b0:w1.heap[B]?=some (.cells #[.slice va n vc] 33 (0,0)):=by
  rw[hw1,<- hB]
  exact((Kr Ab _).alloc _).at_ (wN w _) (λ h=>h)
 have b1:w1.heap[B+1]?=some (.cells #[.int .i64 0] 3 (0,0)):=by
  rw[hw1]
  have:=wN (w.alloc (.cells #[.slice va n vc] 33)) (.cells #[.int .i64 0] 3)
  rwa [show (w.alloc (.cells #[.slice va n vc] 33)).heap.size=B+1 by simp[hB]] at this
 have HCk:=sE (TCheck_at P W cs (castS es) (.slice va n vc) w1 (hsW1 HSp.out k1) (HRo.out.Ad k1).rowH (by rw[castS_len,HN.out];omega))
 have HK1:=sE k1
 have Hb0:=sE b0
 have Hb1:=sE b1
 have c0:=cell_of_one b0
 clear hn hg k1 b0 b1 hsp hcs hst
 refine(callsIn_wide (n:=0)).1 ?_
 refine callsIn_of_wp_marks func28 rfl trivial ?_
 simp only[ntmps28,List.size_toArray,List.length_cons,List.length_nil,Nat.reduceAdd,Nat.reduceSub,Array.replicate_succ,Array.replicate_zero,List.push_toArray,List.append_toArray,List.nil_append,List.cons_append]
 gi_wp2_with fail
 rw[<- hw1]
 clear hw1
 try rw[hB]
 refine⟨trivial,rfl,?_⟩
 refine(callsIn_wide.2 HCk.out).mono ?_
 rintro e w2 ⟨(⟨-,rfl⟩|⟨hno,-⟩),k2⟩
 case inr=>exact absurd HFt.out hno
 have HK2:Sl (Kp Ab w w2):=⟨HK1.out.then' k2⟩
 have Hb2:=sE (k2.at_ Hb1.out (λ h=>h))
 have Hb20:=sE (k2.at_ Hb0.out (λ h=>h))
 have HOf:=sE (TOf_at es (.slice va n vc) w2 (HRo.out.Ad HK2.out) (by rw[HN.out];omega) HSm.out)
 replace c0:=k2.cell c0 (λ h=>h)
 clear k2 HCk
 gi_wp2_with fail
 refine⟨trivial,rfl,?_⟩
 refine(callsIn_wide.2 HOf.out).mono ?_
 rintro e w3 ⟨mb,nm,rfl,hA,hmb,k3⟩
 obtain⟨w4,hw4⟩:∃ w4,w4=w3.alloc (.cells #[.map (some mb)] 126):=⟨_,rfl⟩
 have k4:Kp Ab w3 w4:=by rw[hw4];exact (Kr _ w3).alloc _
 have b4:w4.heap[w3.heap.size]?=some (.cells #[.map (some mb)] 126 (0,0)):=by rw[hw4];exact wN w3 _
 have z4:w4.heap.size=w3.heap.size+1:=by rw[hw4];simp
 have HA4:=sE (hA.keep k4 (λ h=>h))
 have HK4:Sl (Kp Ab w w4):=⟨HK2.out.then' (k3.then' k4)⟩
 have HK24:Sl (Kp Ab w2 w4):=⟨k3.then' k4⟩
 have Hb4:=sE (HK24.out.at_ Hb2.out (λ h=>h))
 have Hb40:=sE (HK24.out.at_ Hb20.out (λ h=>h))
 have lmb:=hA.lt
 have lB1:=lZ Hb2.out
 have z23:=k3.size
 obtain⟨C,hC⟩:∃ C,w3.heap.size=C:=⟨_,rfl⟩
 rw[hC] at b4 z4 lmb z23
 have HT4:=sE b4
 replace c0:=k3.cell c0 (λ h=>h)
 have lB0:B<C:=by omega
 have lB0':B<w3.heap.size:=by omega
 clear hA k3 k4 b4
 gi_wp2_with fail
 try rw[hC]
 rw[<- hw4]
 clear hw4
 obtain⟨D,hD⟩:∃ D,C+1=D:=⟨_,rfl⟩
 rw[hD] at z4
 have hrl:∀ g,(FP P.ts cs g).length<=65536:=λ g=>by
  obtain⟨f,-,hc,-⟩:=HSp.out
  exact rfG_len hc g
 have HCt:Sl (∀ j,Fw es (FP P.ts cs) (es.take j) W<=65536*n):=⟨λ j=>by
  have:=cntT_le es (FP P.ts cs) hrl (es.take j) W
  have h2:(es.take j).length<=n:=by rw[<- HN.out];exact List.length_take_le' _ _
  exact Nat.le_trans this (Nat.mul_le_mul_left _ h2)⟩
 clear hrl
 refine wpIn_loop (λ a' wr=>∃ (u9 u10 u11 u12 u13 u14 u27 u28 u29 u30 u31 u32 u33 u34 u35 u36 u37 u38 u39 u40 u41 u42 u43 u44 u45 u46 u47 u48 u49 u50 u51 u52 u53 u54 u55 u56 u57 u58 u59 u60 u61 u62:Value) (ds:List Deferred) (j:Nat),(j<=n/\Az wr P (BZ es (FP P.ts cs) (es.take j) W) cs/\wr.heap[B+1]?=some (.cells #[.int .i64 (Fw es (FP P.ts cs) (es.take j) W:Nat)] 3 (0,0))/\CB D ds wr/\Kp (λ k=>k=P.a\/k=P.q\/k=B+1) w4 wr)/\
   a'={tmps:=#[.pointer (some ⟨P.s,0,none⟩),.agg #[.slice va n vc],undef,.pointer (some ⟨B,0,none⟩),.pointer (some ⟨B+1,0,none⟩),.int .i64 0,.int .i64 0,.pointer (some ⟨C,0,none⟩),undef,u9,u10,u11,u12,u13,u14,.pointer (some ⟨P.s,0,none⟩),.agg #[.slice va n vc],.int .i64 0,.int .i64 0,.bool false,undef,.agg #[.slice va n vc],.agg #[.map (some mb)],.pointer (some ⟨B,0,none⟩),.slice va n vc,.int .i64 (n:Nat),.int .i64 (j:Nat),u27,u28,u29,u30,u31,u32,u33,u34,u35,u36,u37,u38,u39,u40,u41,u42,u43,u44,u45,u46,u47,u48,u49,u50,u51,u52,u53,u54,u55,u56,u57,u58,u59,u60,u61,u62,undef],defers:=ds}) (λ a' _=>n-(intOf (a'.tmps.getD 26 undef)).toNat) ?_ ?_
 .refine ⟨undef,undef,undef,undef,undef,undef,undef,undef,undef,undef,undef,undef,undef,undef,undef,undef,undef,undef,undef,undef,undef,undef,undef,undef,undef,undef,undef,undef,undef,undef,undef,undef,undef,undef,undef,undef,undef,undef,undef,undef,undef,undef,[],0,⟨Nat.zero_le _,hsW1 HSp.out HK4.out,Hb4.out,trivial,Kr _ _⟩,rfl⟩
 intro _ wr hinv
 obtain⟨u9,u10,u11,u12,u13,u14,u27,u28,u29,u30,u31,u32,u33,u34,u35,u36,u37,u38,u39,u40,u41,u42,u43,u44,u45,u46,u47,u48,u49,u50,u51,u52,u53,u54,u55,u56,u57,u58,u59,u60,u61,u62,ds,j,⟨hj,hS,hb,hM,hk⟩,ha⟩:=hinv
 subst ha
 try dsimp only
 have HS:=sE hS
 have HBn:=sE hb
 have HMk:=sE hM
 have HK:=sE hk
 by_cases hjl:j<n
 .have hjl':(j:Int)<(n:Int):=by omega
  obtain⟨va',vc',e,hx⟩:=HRo.out
  injection e with e1 e3 e2
  clear e3
  subst e1 e2
  obtain⟨x,hxj⟩:∃ x,es[j]?=some x:=⟨_,List.getElem?_eq_getElem (by rw[HN.out];exact hjl)⟩
  obtain⟨bb,o,rfl,hbb,x0,x1,x2⟩:=hx j x hxj
  have hnb:¬ (bb=P.a\/bb=P.q\/bb=B+1):=by
   have:=hv bb o n vc rfl
   unfold Sp.own at this
   omega
  have x0':=hk.cell (HK4.out.cell x0 (λ h=>h)) hnb
  have x1':=hk.cell (HK4.out.cell x1 (λ h=>h)) hnb
  have x2':=hk.cell (HK4.out.cell x2 (λ h=>h)) hnb
  have HX:=sE hxj
  obtain⟨xf,xt,xz⟩:=x
  simp only at x0' x1' x2'
  obtain⟨wb,hwb⟩:∃ wb,wb=wr.alloc (.cells #[.int .i64 (xf:Nat),.int .i64 (xt:Nat),.int .i64 (xz:Nat)] 43):=⟨_,rfl⟩
  have kb:Kp Ab wr wb:=by rw[hwb];exact (Kr _ wr).alloc _
  have bb0:wb.heap[wr.heap.size]?=some (.cells #[.int .i64 (xf:Nat),.int .i64 (xt:Nat),.int .i64 (xz:Nat)] 43 (0,0)):=by rw[hwb];exact wN wr _
  obtain⟨y0,y1,y2⟩:=cells3 bb0
  have HKb:=sE kb
  have HBb:=sE bb0
  obtain⟨c,hcm,c1,c2,c3⟩:=HGp.out.obj (xf,xt,xz) (List.mem_of_getElem? hxj)
  simp only at c2 c3
  obtain⟨f',hs',hc',hst'⟩:=HS.out
  have hmem:=hc'.tl.mem hcm
  have HAr:Sl (∀ W',Kp Ab wr W'->Calls prog 14 #[.pointer (some ⟨P.s,0,none⟩)] W' λ e w'=>e=.returned (.pointer (some ⟨P.a,0,none⟩))/\w'=W'):=⟨λ W' k=>BV P _ f' W' (hs'.Ad k)⟩
  have HTb:Sl (∀ W',Kp Ab wr W'->Calls prog 15 #[.pointer (some ⟨P.s,0,none⟩)] W' λ e w'=>e=.returned (.pointer (some ⟨P.t,0,none⟩))/\w'=W'):=⟨λ W' k=>Ea P _ f' W' (hs'.Ad k)⟩
  have HOf:Sl (∀ W',Kp Ab wr W'->Calls prog 13 #[.pointer (some ⟨P.a,0,none⟩),.pointer (some ⟨P.t,0,none⟩),.int .i64 (xf:Nat)] W' λ e w'=>
   ∃ b k wds m,((AP k wds m (c.ln:Nat)=0/\m<18446744073709551616)/\BP P.ts c=Bc k wds m (c.ln:Nat)/\2*c.g+1+AL k wds (c.ln:Nat)<=(P.n:Nat))/\e=.returned (.tuple #[.pointer (some ⟨b,0,none⟩),.int .i64 0])/\Bt w' b P.a c k wds m/\W'.heap.size<=b/\Kp Ab W' w'):=⟨λ W' k=>by
    rw[<- c2]
    exact SOf_one c P _ f' W' (hs'.Ad k) (hc'.ok c hcm) (hc'.hd c hcm) hmem.2.1 hmem.2.2 c1 hms⟩
  have HC:=sE (And.intro hcm (And.intro c1 (And.intro c2 c3)))
  clear hx hxj hk kb bb0 hS hb hM x0 x1 x2 hnb hcm c1 c2 c3 hs' hc' hst' hmem
  gi_wp2_with fail
  rw[<- hwb]
  clear hwb x0' x1' x2'
  gi_cut [10,11] from 64 (λ x10 x11 wx=>DoCut P c wb x10 x11 wx)
  case first=>
   refine wpIn_only ?_
   refine wpIn_wide.2 ?_
   have kk0:Kp Ab wb wb.drew:=(Kr _ _).drew
   refine wp_region_held_drew (S:=λ w'=>w'.cell? ⟨wr.heap.size,0,none⟩=some (.int .i64 (xf:Nat))) (by kernel_rfl) ?_ (λ qZ=>?_)
   .exact y0
   refine Ao 0 ?_;refine Ao 2 ?_;refine Ao 4 ?_;refine Ao 5 ?_
   try simp only[Aw]
   refine AV [1,10] ?_
   refine Ai rfl (λ K hK=>?_) ?_
   .skip
    go_simp
    with_reducible refine(HAr.out _ (HKb.out.then' kk0)).mono ?_
    rintro e wz ⟨rfl,rfl⟩
    refine hK _ _ ?_ (λ qZ=>?_)
    .exact Ac kk0 y0
    clear hK K
    try simp only[Aw]
    refine AV [3,10] ?_
    refine Ai rfl (λ K hK=>?_) ?_
    .skip
     go_simp
     with_reducible refine(HTb.out _ (HKb.out.then' kk0)).mono ?_
     rintro e wz ⟨rfl,rfl⟩
     refine hK _ _ ?_ (λ qZ=>?_)
     .exact Ac kk0 y0
     clear hK K
     try simp only[Aw]
     refine AV [6,10] ?_
     refine Ai rfl (λ K hK=>?_) ?_
     .skip
      go_simp
      with_reducible refine(HOf.out _ (HKb.out.then' kk0)).mono ?_
      rintro e wh6 ⟨b,kk,wds,m,⟨⟨hE,hm⟩,hrf,hfit⟩,rfl,hV,hbn0,kh5x⟩
      have HKd:=sE (And.intro hE (And.intro hm (And.intro hrf hfit)))
      have hbz:wb.heap.size<=b:=Nat.le_trans (kk0).size hbn0
      have lbv:b<wh6.heap.size:=lZ hV
      clear hE hm hrf hfit
      have kh5:=(kk0).then' kh5x
      refine hK _ _ ?_ (λ qZ=>?_)
      .exact Ac kh5 y0
      clear hK K
      try simp only[Aw]
      refine Ao 7 ?_;refine Ao 8 ?_;refine Ao 9 ?_
      try simp only[Aw]
      refine AV [10] ?_
      refine Ag rfl (λ K hK=>?_)
      go_simp
      obtain⟨wa7,hwa7⟩:∃ wa7,wa7=World.alloc wh6 (.cells #[.pointer none] 44):=⟨_,rfl⟩
      rw[<- hwa7]
      have ka8x:Kp Ab wh6 wa7:=by rw[hwa7];exact (Kr Ab wh6).alloc _
      have ka8b:wa7.heap[wh6.heap.size]?=some (.cells #[.pointer none] 44 (0,0)):=by rw[hwa7];exact wN wh6 _
      have ka8:Kp Ab wb wa7:=(kh5).then' ka8x
      have ka8l:wb.heap.size<=wh6.heap.size:=(kh5).size
      have ka8m:wh6.heap.size<wa7.heap.size:=lZ ka8b
      clear hwa7
      refine hK _ _ ?_ (λ qZ=>?_)
      .exact Ac ka8 y0
      clear hK K
      try simp only[Aw]
      have cv9:=hV.Ad ka8x
      refine AV [11] ?_
      refine Ag rfl (λ K hK=>?_)
      have cS:=cell_of_one ka8b
      have fS:=free_of_one ka8b
      have lS:=lZ ka8b
      go_simp
      obtain⟨wn,hwn⟩:∃ wn:World,wn=wa7.setCell ⟨wh6.heap.size,0,none⟩ (.pointer (some ⟨b,0,none⟩)):=⟨_,rfl⟩
      have hbn:wn.heap[wh6.heap.size]?=some (.cells #[.pointer (some ⟨b,0,none⟩)] 44 (0,0)):=by rw[hwn];exact set_one ka8b _
      have kn:Kp Ab wb wn:=by rw[hwn];exact ((ka8.Al (λ i=>i=wh6.heap.size)).trans ((Kr (λ i=>i=wh6.heap.size) _).setCell (λ _=>rfl) _) (λ _ _ h=>h)).mono (λ k hk h=>by have h1:k=wh6.heap.size:=h;omega)
      have HVw:=sE (cv9.keep ((Kr (λ i=>i=wh6.heap.size) wa7).setCell (p:=⟨wh6.heap.size,0,none⟩) (λ _=>rfl) (.pointer (some ⟨b,0,none⟩))) (show ¬ _=_ by omega))
      rw[<- hwn] at HVw
      rw[<- hwn]
      clear hwn cS fS lS
      refine hK _ _ ?_ (λ qZ=>?_)
      .exact Ac kn y0
      clear hK K
      try simp only[Aw]
      refine Ao 12 ?_
      try simp only[Aw]
      refine wpAnyH_done (by kernel_rfl) ?_ _
      gi_wp2_with fail
      gi_meet
      exact⟨wh6.heap.size,b,kk,wds,m,rfl,rfl,hbn,HVw.out,HKd.out,kn,hbz,by omega⟩
     .refine Ai rfl (λ K hK=>?_) AllReadyH.nil
      go_simp
      obtain⟨wa10,hwa10⟩:∃ wa10,wa10=(World.alloc wb (.cells #[.pointer none] 44)).drew:=⟨_,rfl⟩
      rw[<- hwa10]
      have ka11x:Kp Ab wb wa10:=by rw[hwa10];exact ((Kr Ab wb).alloc _).drew
      have ka11b:wa10.heap[wb.heap.size]?=some (.cells #[.pointer none] 44 (0,0)):=by rw[hwa10];exact wN wb _
      have ka11:Kp Ab wb wa10:=ka11x
      have ka11l:wb.heap.size<=wb.heap.size:=Nat.le_refl _
      have ka11m:wb.heap.size<wa10.heap.size:=lZ ka11b
      clear hwa10
      refine hK _ _ ?_ (λ qZ=>?_)
      .exact Ac ka11 y0
      clear hK K
      try simp only[Aw]
      refine AV [6] ?_
      refine Ag rfl (λ K hK=>?_)
      go_simp
      with_reducible refine(HOf.out _ (HKb.out.then' ka11)).mono ?_
      rintro e wh13 ⟨b,kk,wds,m,⟨⟨hE,hm⟩,hrf,hfit⟩,rfl,hV,hbn0,kh12x⟩
      have HKd:=sE (And.intro hE (And.intro hm (And.intro hrf hfit)))
      have hbz:wb.heap.size<=b:=Nat.le_trans (ka11).size hbn0
      have lbv:b<wh13.heap.size:=lZ hV
      clear hE hm hrf hfit
      have kh12:=(ka11).then' kh12x
      have ab14:=kh12x.at_ ka11b (λ h=>h)
      refine hK _ _ ?_ (λ qZ=>?_)
      .exact Ac kh12 y0
      clear hK K
      try simp only[Aw]
      refine Ao 7 ?_;refine Ao 8 ?_;refine Ao 9 ?_
      try simp only[Aw]
      refine AV [11] ?_
      refine Ag rfl (λ K hK=>?_)
      have cS:=cell_of_one ab14
      have fS:=free_of_one ab14
      have lS:=lZ ab14
      go_simp
      obtain⟨wn,hwn⟩:∃ wn:World,wn=wh13.setCell ⟨wb.heap.size,0,none⟩ (.pointer (some ⟨b,0,none⟩)):=⟨_,rfl⟩
      have hbn:wn.heap[wb.heap.size]?=some (.cells #[.pointer (some ⟨b,0,none⟩)] 44 (0,0)):=by rw[hwn];exact set_one ab14 _
      have kn:Kp Ab wb wn:=by rw[hwn];exact ((kh12.Al (λ i=>i=wb.heap.size)).trans ((Kr (λ i=>i=wb.heap.size) _).setCell (λ _=>rfl) _) (λ _ _ h=>h)).mono (λ k hk h=>by have h1:k=wb.heap.size:=h;omega)
      have HVw:=sE (hV.keep ((Kr (λ i=>i=wb.heap.size) wh13).setCell (p:=⟨wb.heap.size,0,none⟩) (λ _=>rfl) (.pointer (some ⟨b,0,none⟩))) (show ¬ _=_ by omega))
      rw[<- hwn] at HVw
      rw[<- hwn]
      clear hwn cS fS lS
      refine hK _ _ ?_ (λ qZ=>?_)
      .exact Ac kn y0
      clear hK K
      try simp only[Aw]
      refine Ao 12 ?_
      try simp only[Aw]
      refine wpAnyH_done (by kernel_rfl) ?_ _
      gi_wp2_with fail
      gi_meet
      exact⟨wb.heap.size,b,kk,wds,m,rfl,rfl,hbn,HVw.out,HKd.out,kn,hbz,by omega⟩
    .refine Ai rfl (λ K hK=>?_) AllReadyH.nil
     go_simp
     obtain⟨wa15,hwa15⟩:∃ wa15,wa15=(World.alloc wb (.cells #[.pointer none] 44)).drew:=⟨_,rfl⟩
     rw[<- hwa15]
     have ka16x:Kp Ab wb wa15:=by rw[hwa15];exact ((Kr Ab wb).alloc _).drew
     have ka16b:wa15.heap[wb.heap.size]?=some (.cells #[.pointer none] 44 (0,0)):=by rw[hwa15];exact wN wb _
     have ka16:Kp Ab wb wa15:=ka16x
     have ka16l:wb.heap.size<=wb.heap.size:=Nat.le_refl _
     have ka16m:wb.heap.size<wa15.heap.size:=lZ ka16b
     clear hwa15
     refine hK _ _ ?_ (λ qZ=>?_)
     .exact Ac ka16 y0
     clear hK K
     try simp only[Aw]
     refine AV [3] ?_
     refine Ag rfl (λ K hK=>?_)
     go_simp
     with_reducible refine(HTb.out _ (HKb.out.then' ka16)).mono ?_
     rintro e wz ⟨rfl,rfl⟩
     refine hK _ _ ?_ (λ qZ=>?_)
     .exact Ac ka16 y0
     clear hK K
     try simp only[Aw]
     refine AV [6] ?_
     refine Ag rfl (λ K hK=>?_)
     go_simp
     with_reducible refine(HOf.out _ (HKb.out.then' ka16)).mono ?_
     rintro e wh20 ⟨b,kk,wds,m,⟨⟨hE,hm⟩,hrf,hfit⟩,rfl,hV,hbn0,kh19x⟩
     have HKd:=sE (And.intro hE (And.intro hm (And.intro hrf hfit)))
     have hbz:wb.heap.size<=b:=Nat.le_trans (ka16).size hbn0
     have lbv:b<wh20.heap.size:=lZ hV
     clear hE hm hrf hfit
     have kh19:=(ka16).then' kh19x
     have ab21:=kh19x.at_ ka16b (λ h=>h)
     refine hK _ _ ?_ (λ qZ=>?_)
     .exact Ac kh19 y0
     clear hK K
     try simp only[Aw]
     refine Ao 7 ?_;refine Ao 8 ?_;refine Ao 9 ?_
     try simp only[Aw]
     refine AV [11] ?_
     refine Ag rfl (λ K hK=>?_)
     have cS:=cell_of_one ab21
     have fS:=free_of_one ab21
     have lS:=lZ ab21
     go_simp
     obtain⟨wn,hwn⟩:∃ wn:World,wn=wh20.setCell ⟨wb.heap.size,0,none⟩ (.pointer (some ⟨b,0,none⟩)):=⟨_,rfl⟩
     have hbn:wn.heap[wb.heap.size]?=some (.cells #[.pointer (some ⟨b,0,none⟩)] 44 (0,0)):=by rw[hwn];exact set_one ab21 _
     have kn:Kp Ab wb wn:=by rw[hwn];exact ((kh19.Al (λ i=>i=wb.heap.size)).trans ((Kr (λ i=>i=wb.heap.size) _).setCell (λ _=>rfl) _) (λ _ _ h=>h)).mono (λ k hk h=>by have h1:k=wb.heap.size:=h;omega)
     have HVw:=sE (hV.keep ((Kr (λ i=>i=wb.heap.size) wh20).setCell (p:=⟨wb.heap.size,0,none⟩) (λ _=>rfl) (.pointer (some ⟨b,0,none⟩))) (show ¬ _=_ by omega))
     rw[<- hwn] at HVw
     rw[<- hwn]
     clear hwn cS fS lS
     refine hK _ _ ?_ (λ qZ=>?_)
     .exact Ac kn y0
     clear hK K
     try simp only[Aw]
     refine Ao 12 ?_
     try simp only[Aw]
     refine wpAnyH_done (by kernel_rfl) ?_ _
     gi_wp2_with fail
     gi_meet
     exact⟨wb.heap.size,b,kk,wds,m,rfl,rfl,hbn,HVw.out,HKd.out,kn,hbz,by omega⟩
   .refine Ai rfl (λ K hK=>?_) AllReadyH.nil
    go_simp
    obtain⟨wa22,hwa22⟩:∃ wa22,wa22=(World.alloc wb (.cells #[.pointer none] 44)).drew:=⟨_,rfl⟩
    rw[<- hwa22]
    have ka23x:Kp Ab wb wa22:=by rw[hwa22];exact ((Kr Ab wb).alloc _).drew
    have ka23b:wa22.heap[wb.heap.size]?=some (.cells #[.pointer none] 44 (0,0)):=by rw[hwa22];exact wN wb _
    have ka23:Kp Ab wb wa22:=ka23x
    have ka23l:wb.heap.size<=wb.heap.size:=Nat.le_refl _
    have ka23m:wb.heap.size<wa22.heap.size:=lZ ka23b
    clear hwa22
    refine hK _ _ ?_ (λ qZ=>?_)
    .exact Ac ka23 y0
    clear hK K
    try simp only[Aw]
    refine AV [1] ?_
    refine Ag rfl (λ K hK=>?_)
    go_simp
    with_reducible refine(HAr.out _ (HKb.out.then' ka23)).mono ?_
    rintro e wz ⟨rfl,rfl⟩
    refine hK _ _ ?_ (λ qZ=>?_)
    .exact Ac ka23 y0
    clear hK K
    try simp only[Aw]
    refine AV [3] ?_
    refine Ag rfl (λ K hK=>?_)
    go_simp
    with_reducible refine(HTb.out _ (HKb.out.then' ka23)).mono ?_
    rintro e wz ⟨rfl,rfl⟩
    refine hK _ _ ?_ (λ qZ=>?_)
    .exact Ac ka23 y0
    clear hK K
    try simp only[Aw]
    refine AV [6] ?_
    refine Ag rfl (λ K hK=>?_)
    go_simp
    with_reducible refine(HOf.out _ (HKb.out.then' ka23)).mono ?_
    rintro e wh29 ⟨b,kk,wds,m,⟨⟨hE,hm⟩,hrf,hfit⟩,rfl,hV,hbn0,kh28x⟩
    have HKd:=sE (And.intro hE (And.intro hm (And.intro hrf hfit)))
    have hbz:wb.heap.size<=b:=Nat.le_trans (ka23).size hbn0
    have lbv:b<wh29.heap.size:=lZ hV
    clear hE hm hrf hfit
    have kh28:=(ka23).then' kh28x
    have ab30:=kh28x.at_ ka23b (λ h=>h)
    refine hK _ _ ?_ (λ qZ=>?_)
    .exact Ac kh28 y0
    clear hK K
    try simp only[Aw]
    refine Ao 7 ?_;refine Ao 8 ?_;refine Ao 9 ?_
    try simp only[Aw]
    refine AV [11] ?_
    refine Ag rfl (λ K hK=>?_)
    have cS:=cell_of_one ab30
    have fS:=free_of_one ab30
    have lS:=lZ ab30
    go_simp
    obtain⟨wn,hwn⟩:∃ wn:World,wn=wh29.setCell ⟨wb.heap.size,0,none⟩ (.pointer (some ⟨b,0,none⟩)):=⟨_,rfl⟩
    have hbn:wn.heap[wb.heap.size]?=some (.cells #[.pointer (some ⟨b,0,none⟩)] 44 (0,0)):=by rw[hwn];exact set_one ab30 _
    have kn:Kp Ab wb wn:=by rw[hwn];exact ((kh28.Al (λ i=>i=wb.heap.size)).trans ((Kr (λ i=>i=wb.heap.size) _).setCell (λ _=>rfl) _) (λ _ _ h=>h)).mono (λ k hk h=>by have h1:k=wb.heap.size:=h;omega)
    have HVw:=sE (hV.keep ((Kr (λ i=>i=wb.heap.size) wh29).setCell (p:=⟨wb.heap.size,0,none⟩) (λ _=>rfl) (.pointer (some ⟨b,0,none⟩))) (show ¬ _=_ by omega))
    rw[<- hwn] at HVw
    rw[<- hwn]
    clear hwn cS fS lS
    refine hK _ _ ?_ (λ qZ=>?_)
    .exact Ac kn y0
    clear hK K
    try simp only[Aw]
    refine Ao 12 ?_
    try simp only[Aw]
    refine wpAnyH_done (by kernel_rfl) ?_ _
    gi_wp2_with fail
    gi_meet
    exact⟨wb.heap.size,b,kk,wds,m,rfl,rfl,hbn,HVw.out,HKd.out,kn,hbz,by omega⟩
  case rest=>
   obtain⟨hb,b,kk,wds,m,rfl,rfl,hhb,hV,⟨hE,hm,hrf,hfit⟩,kc,hbz,hhz⟩:=hcut
   obtain⟨f',hs',hc',hst'⟩:=HS.out
   obtain⟨Wj,hWj⟩:∃ Wj,BZ es (FP P.ts cs) (es.take j) W=Wj:=⟨_,rfl⟩
   obtain⟨cn,hcn⟩:∃ cn,Fw es (FP P.ts cs) (es.take j) W=cn:=⟨_,rfl⟩
   have hcl:=HCt.out j
   rw[hWj] at hs' hc'
   rw[hcn] at hcl
   have KC:Kp Ab wr wc:=HKb.out.then' kc
   have HKC:=sE KC
   have HSc:=sE (hs'.Ad KC)
   have HNc:=sE (KC.at_ HBn.out (λ h=>h))
   rw[hcn] at HNc
   have hz0:=HK.out.size
   have hz1:=KC.size
   have hzb:=HKb.out.size
   have hBe:=HB.out
   have lbb:=lZ hV
   have lhb:=lZ hhb
   obtain⟨hC1,hC2,hC3,hC4⟩:=HC.out
   have hlen:=Eh (M:=m) hE
   have hrfx:FP P.ts cs xf=Bc kk wds m (c.ln:Nat):=by rw[<- hC3,rfG_at hc'.tl hC1 hC2,hrf]
   have HSl:Sl (∀ s∈Bc kk wds m (c.ln:Nat),(s:Int)<AL kk wds (c.ln:Nat)):=⟨λ s hs=>FO hE hs⟩
   have HNd:=sE (refsT_nodup kk wds m (c.ln:Nat))
   obtain⟨X,hX⟩:∃ X,wc.heap.size=X:=⟨_,rfl⟩
   obtain⟨wl,hwl⟩:∃ wl,wl=wc.alloc (.cells #[.pointer (some ⟨b,0,none⟩)] 132):=⟨_,rfl⟩
   have kl:Kp Ab wc wl:=by rw[hwl];exact (Kr _ wc).alloc _
   have bxl:wl.heap[X]?=some (.cells #[.pointer (some ⟨b,0,none⟩)] 132 (0,0)):=by rw[hwl,<- hX];exact wN wc _
   have zl:wl.heap.size=X+1:=by rw[hwl];simp [hX]
   have HAl:=sE ((HSc.out.Ad kl).ar)
   have HIt:Sl _:=⟨words_iter X b P.a P.q P.n Wj c kk wds m wl HAl.out (hV.Ad kl) hE hm hfit bxl (R:=λ i=>i=P.a\/i=P.q\/i=B+1) (X:=λ _=>False) (λ i hi=>by
    have l1:=lall P.a (.inr (.inr (.inl rfl)))
    have l2:=lall P.q (.inr (.inr (.inr (.inl rfl))))
    have l3:=HB.out
    rcases hi with rfl|rfl|rfl <;> refine⟨?_,?_,?_⟩ <;> omega)⟩
   have HVc:=sE (hV.Ad kl)
   have HHb:=sE (kl.at_ hhb (λ h=>h))
   have HKl:=sE kl
   have HKd:=sE (And.intro hE (And.intro hm hfit))
   have chb:=cell_of_one hhb
   clear hs' hc' hst' KC hV hhb kc kl bxl hE hm hfit hrf hC3
   gi_wp2_with fail
   refine⟨trivial,rfl,?_⟩
   refine(callsIn_wide.2 (twords_fn b wc)).mono ?_
   rintro e wy ⟨rfl,hwy⟩
   obtain rfl:wl=wy:=by rw[hwl,hwy]
   rw[hX]
   clear hwl hwy chb
   gi_wp2_with fail
   have l1:=lall P.a (.inr (.inr (.inl rfl)))
   have l2:=lall P.q (.inr (.inr (.inr (.inl rfl))))
   refine Fv (n:=0) (gf:=112) (lb:=#[.pointer (some ⟨X,0,none⟩)]) rfl (enters_of func112 (by kernel_rfl) rfl) HIt.out (λ i hi=>hi.elim) (λ i hi=>by
     rcases hi with rfl|rfl|rfl <;> omega) (λ i hi=>hi.elim) (λ _=>rfl)
    (λ pre S W'=>TrnI es P Wj c.g cn (Bc kk wds m (c.ln:Nat)) (B+1) wl pre S W') (λ c pre W'=>False) (λ i=>i=P.a\/i=P.q\/i=B+1) ?hS ?hI ?hIx ?h0 ?hround ?hdone ?hstop
   case hS=>
    rintro pre S A ⟨a1,a2,rfl,a4,a5⟩
    refine⟨⟨_,a1,λ s hs hn=>?_⟩,λ i hi=>⟨.inl hi,?_⟩⟩
    .rw [Er es c.g _ (a5.sublist.nodup HNd.out),if_neg]
     rintro ⟨t,ht,e⟩
     have:s=t:=by omega
     exact hn (this▸ht)
    .have:=a4.size
     rcases hi with rfl|rfl|rfl <;> omega
   case hI=>
    rintro pre S A A' ⟨a1,a2,a3,a4,a5⟩ hk'
    have hn:∀ i,(Ab i\/i=wl.heap.size\/i=wl.heap.size+1)->¬ i=P.a/\¬ i=P.q/\¬ i=B+1:=λ i h=>by
     rcases h with h|h|h
     .exact h.elim
     .omega
     .omega
    exact⟨a1.keep hk' (λ h=>(hn _ h).1 rfl) (λ h=>(hn _ h).2.1 rfl),hk'.at_ a2 (λ h=>(hn _ h).2.2 rfl),a3,a4.trans hk' (λ i hi h=>by
     rcases h with h|h|h
     .exact h.elim
     .omega
     .omega),a5⟩
   case hIx=>exact λ c pre A B' h hk=>h
   case h0=>exact ⟨HAl.out,HKl.out.at_ HNc.out (λ h=>h),rfl,Kr _ _,List.nil_prefix⟩
   case hround=>
    rintro pre S s rest W' hx ⟨a1,a2,rfl,a4,a5⟩ hs
    have hpf:pre++[s] <+: Bc kk wds m (c.ln:Nat):=⟨rest,by rw[hx];simp⟩
    have hnd:=hpf.sublist.nodup HNd.out
    have hsm':s∈Bc kk wds m (c.ln:Nat):=by rw[hx];simp
    have hsl:=HSl.out s hsm'
    have hpl:pre.length<=65536:=by
     have:(Bc kk wds m (c.ln:Nat)).length=pre.length+(rest.length+1):=by rw[hx];simp
     omega
    have hcs:=cntS_le es c.g pre Wj
    have hkn:2*c.g+1+s<P.n:=by have:=HKd.out.2.2;omega
    have hy:=HAl.out.fits _ hkn
    have HTs:=turnS_snoc es c.g pre s Wj hnd
    have HCs:=cntS_snoc es c.g pre s Wj hnd
    have HT0:BU es c.g pre Wj (2*c.g+1+s)=Wj (2*c.g+1+s):=by
     rw[Er es c.g _ (List.nodup_append.1 hnd).1,if_neg]
     rintro ⟨t,ht,e⟩
     have:s=t:=by omega
     exact(List.nodup_append.1 hnd).2.2 t ht s (by simp) this.symm
    obtain⟨y,hyy⟩:∃ y,Wj (2*c.g+1+s)=y:=⟨_,rfl⟩
    rw[hyy] at hy HTs HCs HT0
    have hyI:=hyy
    obtain⟨z,hz⟩:∃ z,toA es y=z:=⟨_,rfl⟩
    have hzl:z<18446744073709551616:=by rw[<- hz];exact toA_lt (λ x hx=>(HSm.out x hx).2) y
    rw[hz] at HTs HCs
    have KW:Kp (λ k=>k=P.a\/k=P.q\/k=B+1) w4 W':=((HK.out.trans HKC.out (λ _ _ h=>h.elim)).trans HKl.out (λ _ _ h=>h.elim)).trans a4 (λ _ _ h=>h)
    have HA1:=sE a1
    have HA2:=sE a2
    have HA4':=sE a4
    have HA5:=sE hpf
    have HKW:=sE KW
    have HTS:=sE HTs
    have HCS:=sE HCs
    have HT00:=sE HT0
    obtain⟨q,hq⟩:∃ q,cn+cntS es c.g pre Wj=q:=⟨_,rfl⟩
    have HQ:=sE hq
    have hql:q<=4294967296:=by omega
    rw[hyy]
    clear hx hsm' a1 a2 a4 a5 hnd hpf KW hcs HTs HCs HT0 hyI hq hpl hrfx
    gi_wp2_with fail
    refine⟨Kr _ _,?_⟩
    intro W2 hc2 hf2 hk2 hs2 hr2
    have K2:Kp (λ k=>k=P.a\/k=P.q\/k=B+1) wl W2:=HA4'.out.trans hk2 (λ i hi h=>by have h':i=wl.heap.size+1:=h;omega)
    have K42:Kp (λ k=>k=P.a\/k=P.q\/k=B+1) w4 W2:=HKW.out.trans hk2 (λ i hi h=>by have h':i=wl.heap.size+1:=h;have:=HKl.out.size;omega)
    have hA2:Cz W2 mb nm (mapA es):=HA4.out.keep K42 (by omega)
    have hlook:=hA2.look hy
    rw[toA_map,hz] at hlook
    have cT:=cell_of_one (K42.at_ HT4.out (by omega))
    have V2:Bt W2 b P.a c kk wds m:=HVc.out.keep K2 (by omega)
    have cH:=cell_of_one (K2.at_ HHb.out (by omega))
    have n2:=hk2.at_ HA2.out (show ¬ _=_ by omega)
    rw[HQ.out] at n2
    have A2:=HA1.out.keep hk2 (show ¬ _=_ by omega) (show ¬ _=_ by omega)
    have HSt:=sE (VStore_yes s z b P.a P.q P.n _ c kk wds m W2 A2 V2 HKd.out.1 hsl hzl hkn)
    have HN2:=sE n2
    have HA22:=sE A2
    have HK2x:=sE K2
    have lW2:=K2.size
    clear hA2 V2 n2 A2 K42 K2 hc2 hf2 hk2 hs2 hr2 hz
    by_cases hzy:z=y
    .subst hzy
     have hzz:((z:Int) !=(z:Int))=false:=by simp
     gi_wp2_with fail
     refine⟨Kr _ W2,_,⟨?_,?_,rfl,HK2x.out,HA5.out⟩,λ i hi=>.inl hi⟩
     .rw [HTS.out,<- HT00.out,updW_same]
      exact HA22.out
     .have:=HCS.out
      simp only[if_true,Nat.add_zero] at this
      rw[this,HQ.out]
      exact HN2.out
    .have hzz:((z:Int) !=(y:Int))=true:=by rw[bne_iff_ne];omega
     gi_wp2_with fail
     refine⟨trivial,rfl,?_⟩
     refine(BR HSt.out).mono ?_
     rintro e w5 ⟨rfl,k5,A5⟩
     have n5:=k5.at_ HN2.out (show ¬ (_=_\/_=_) by omega)
     have cN:=cell_of_one n5
     have fN:=free_of_one n5
     have lN:=lZ n5
     have HN5:=sE n5
     have HA5x:=sE A5
     have HK5:=sE k5
     have u1:IntKind.i64.wrap ((q:Int)+1)=((q+1:Nat):Int):=by rw[IntKind.wrap_i64];omega
     clear k5 A5 n5 cT cH hlook
     gi_wp2_with fail
     have ks:Kp (λ k=>k=B+1) w5 (w5.setCell ⟨B+1,0,none⟩ (.int .i64 ((q:Int)+1))):=(Kr (λ k=>k=B+1) w5).setCell (λ _=>rfl) _
     refine⟨?_,_,⟨?_,?_,rfl,?_,HA5.out⟩,λ i hi=>.inl hi⟩
     .exact (HK5.out.mono (λ i hi h=>by rcases h with h|h;exact .inl h;exact .inr (.inl h))).trans ks (λ i hi h=>.inr (.inr h))
     .rw [HTS.out]
      exact HA5x.out.keep ks (show ¬ _=_ by omega) (show ¬ _=_ by omega)
     .have e1:((cn+cntS es c.g (pre++[s]) Wj:Nat):Int)=(q:Int)+1:=by
       have h1:=HCS.out
       rw[if_neg hzy] at h1
       have h2:=HQ.out
       omega
      rw[e1]
      exact set_one HN5.out _
     .exact (HK2x.out.trans (HK5.out.mono (S':=λ k=>k=P.a\/k=P.q\/k=B+1) (λ i hi h=>by rcases h with h|h;exact .inl h;exact .inr (.inl h))) (λ _ _ h=>h)).trans ks (λ i hi h=>.inr (.inr h))
   case hdone=>
    rintro S W' ⟨a1,a2,rfl,a4,a5⟩ hs hD'
    have HA1:=sE a1
    have HA2:=sE a2
    have HA4':=sE a4
    have KW:Kp (λ k=>k=P.a\/k=P.q\/k=B+1) wr W':=((HKC.out.Al _).trans HKl.out (λ _ _ h=>h.elim)).trans a4 (λ _ _ h=>h)
    have K4W:Kp (λ k=>k=P.a\/k=P.q\/k=B+1) w4 W':=HK.out.trans KW (λ _ _ h=>h)
    have HKW:=sE KW
    have HK4W:=sE K4W
    have HDd:=sE hD'
    clear a1 a2 a4 a5 KW K4W hD'
    gi_wp2_with fail
    have hzW:=HKW.out.size
    have hzwl:=HA4'.out.size
    have hrc:FP P.ts cs c.g=Bc kk wds m (c.ln:Nat):=by rw[HC.out.2.2.1];exact hrfx
    have HTe:Sl (BZ es (FP P.ts cs) (es.take (j+1)) W=BU es c.g (Bc kk wds m (c.ln:Nat)) Wj):=⟨by
     rw[Dk HX.out,turnP_app,hWj]
     show BZ es (FP P.ts cs) [] (BU es xf (FP P.ts cs xf) Wj)=_
     rw[hrfx,HC.out.2.2.1]
     rfl⟩
    have HCe:Sl (Fw es (FP P.ts cs) (es.take (j+1)) W=cn+cntS es c.g (Bc kk wds m (c.ln:Nat)) Wj):=⟨by
     rw[Dk HX.out,cntT_app,hWj,hcn]
     show cn+(cntS es xf (FP P.ts cs xf) Wj+Fw es (FP P.ts cs) [] _)=_
     rw[hrfx,HC.out.2.2.1]
     rfl⟩
    refine⟨⟨_,_,_,_,_,_,_,_,_,_,_,_,_,_,_,_,_,_,_,_,_,_,_,_,_,_,_,_,_,_,_,_,_,_,_,_,_,_,_,_,_,_,_,j+1,⟨by omega,?_,?_,?_,HK4W.out⟩,rfl⟩,?_⟩
    .obtain ⟨f',hs',hc',hst'⟩:=HS.out
     rw[hWj] at hs' hc'
     rw[HTe.out]
     refine⟨f',hs'.wordsS HKW.out (λ i hi h=>?_) HA1.out,?_,hst'⟩
     .rcases h with h|h|h
      .exact .inl h
      .exact .inr h
      .have:=lall i hi
       omega
     .refine hc'.BU es hC1 hC2 λ s hs=>?_
      rw[<- rfG_at hc'.tl hC1 hC2,hrc]
      exact hs
    .rw [HCe.out]
     exact HA2.out
    .refine ⟨⟨wl.heap.size,by omega,rfl,HDd.out,λ e he=>?_⟩,HMk.out.keep HKW.out (λ i h=>?_)⟩
     .obtain ⟨r,rfl,hr⟩:=HMk.out.lt e he
      intro h
      injection h with h
      injection h with h
      omega
     .have l1:=lall P.a (.inr (.inr (.inl rfl)))
      have l2:=lall P.q (.inr (.inr (.inr (.inl rfl))))
      rcases h with rfl|rfl|rfl <;> omega
    .show n-((j:Int)+1).toNat<n-((j:Nat):Int).toNat
     omega
   case hstop=>exact λ c pre W' hp h=>h.elim
 .have hjl':¬ (j:Int)<(n:Int):=by omega
  obtain rfl:j=n:=by omega
  have cb:=cell_of_one hb
  have fb:=free_of_one hb
  have lb:=lZ hb
  have ht:es.take j=es:=List.take_of_length_le (by rw[HN.out];exact Nat.le_refl _)
  rw[ht] at cb
  have HT:=sE ht
  obtain⟨cn,hcn⟩:∃ cn,Fw es (FP P.ts cs) es W=cn:=⟨_,rfl⟩
  rw[hcn] at cb
  have HCn:=sE hcn
  clear hk hS hb hM ht hcn
  gi_wp2_with fail
  have ks:Kp (λ k=>k=B+1) wr (wr.setCell ⟨B+1,0,none⟩ (.int .i64 (cn:Nat))):=(Kr (λ k=>k=B+1) wr).setCell (λ _=>rfl) _
  have hcs:(wr.setCell ⟨B+1,0,none⟩ (.int .i64 (cn:Nat))).cell? ⟨B+1,0,none⟩=some (.int .i64 (cn:Nat)):=World.cell?_setCell_same' _ _ _ (by rw[cb];rfl)
  have hBe:=HB.out
  have l1:=lall P.a (.inr (.inr (.inl rfl)))
  have l2:=lall P.q (.inr (.inr (.inr (.inl rfl))))
  refine leaves_marks (B:=D) (HMk.out.keep ks (λ i h=>by have h':i=B+1:=h;omega)) λ w' kd hcd=>?_
  have hc':=(hcd ⟨B+1,0,none⟩).trans hcs
  refine⟨.tuple #[.int .i64 (cn:Nat),.int .i64 0],by simp[results,results28,go_sem,hc'],by rw[HCn.out],?_,?_⟩
  .obtain ⟨f',hs',hc2,hst'⟩:=HS.out
   rw[HT.out] at hs' hc2
   have k1:Kp (λ k=>k=B+1\/D<=k) wr w':=(ks.mono (λ i hi h=>.inl h)).trans kd (λ i hi h=>.inr h)
   refine⟨f',hs'.keep k1 (λ i hi h=>?_),hc2,hst'⟩
   have:=lall i hi
   omega
  .refine (HK4.out.Al _).trans ((HK.out.trans ks (λ i hi h=>.inr (.inr h))).trans kd (λ i hi h=>?_)) (λ i hi h=>?_)
   .omega
   .rcases h with h|h|h
    .exact .inl h
    .exact .inr h
    .omega

end

section
open Go.RowKit

theorem join23{P:Sp}(ht:P.ts=alT){W W':Nat->Nat}{cs':List Cel}(h:JoinStep P W Dw 0 2 0 W' cs'):cs'=Dw/\W'=Ca W 3 1048588:=by
 obtain⟨rfl,h⟩:=h
 refine⟨rfl,?_⟩
 have ho:Bu Dw=[1,3,6]:=by decide +kernel
 have hz:bits .and .i64 0 65535=0:=by decide +kernel
 have h2:bits .and .i64 2 65535=2:=by decide +kernel
 rcases h with ⟨h,-⟩|⟨G1,G2,G3,c,g2,k,wds,m,⟨a1,a2,a3⟩,⟨hc,htg⟩,x1,x2,hty,hr⟩
 .rw [ho] at h
  cases h
 .rw [hz] at a1 a3
  rw[h2] at a2
  obtain rfl:G1=0:=by omega
  obtain rfl:G2=2:=by omega
  obtain rfl:G3=0:=by omega
  rw[ho] at x1 x2
  have e1:some 1=some c.g:=x1
  have e2:some 6=some g2:=x2
  injection e1 with e1
  injection e2 with e2
  have hcc:c.ty=1/\c.ln=3:=by
   have:c=⟨0,2,0,0,1⟩\/c=⟨1,1,1,3,2⟩\/c=⟨3,1,1,3,2⟩\/c=⟨5,2,0,0,1⟩\/c=⟨6,1,1,3,2⟩:=by simpa [Dw] using hc
   rcases this with rfl|rfl|rfl|rfl|rfl
   .exact absurd htg (by decide)
   .exact ⟨rfl,rfl⟩
   .exact ⟨rfl,rfl⟩
   .exact absurd htg (by decide)
   .exact ⟨rfl,rfl⟩
  rw[ht,hcc.1] at hty
  have hty2:some (⟨2,0,0⟩:TypR)=some ⟨k,wds,m⟩:=(show typeOf alT ((1:Nat):Int)=some ⟨2,0,0⟩ from by rfl).symm.trans hty
  injection hty2 with hty2
  injection hty2 with q1 q2 q3
  subst q1 q2 q3
  rw[hcc.2,show Bc 2 0 0 ((3:Nat):Int)=[0,1,2] by decide +kernel] at hr
  rcases hr with ⟨hr,-⟩|⟨s,Y,hs,hY,hW⟩
  .cases hr
  .have hs0:s=0:=by
    have:some (0:Nat)=some s:=hs
    injection this with this
    exact this.symm
   rw[hW,hs0,hY (by omega),<- e1,<- e2]

def al23d(j:Nat):Int:=[0,0,0,5].getD j 0
def al23g(j:Nat):Int:=[1,3,6,0].getD j 0
def al23i(j:Nat):Int:=[1,1,1,2].getD j 0
def al23n(j:Nat):Int:=[3,3,3,0].getD j 0

theorem run23{P:Sp}(ht:P.ts=alT)(hn:P.n=16){W:Nat->Nat}{cs:List Cel}(h:RunR P al23d al23g al23i al23n (AX (λ _=>0) 0 (16/2)) (Fx 0 (16/2)) 4 W cs):cs=Dw/\W 3=1048588/\∀ k∈[4,5,7,8,9,13,14,15],W k=0:=by
 obtain⟨W3,cs3,h3,s3⟩:=h.back1
 obtain⟨rfl,-,-,hz⟩:=puts21 (dd:=al23d) (ii:=al23i) (nn:=al23n) (gg:=al23g) ht hn ⟨rfl,rfl,rfl⟩ ⟨rfl,rfl,rfl⟩ ⟨rfl,rfl,rfl⟩ ⟨rfl,rfl,rfl⟩ h3
 obtain⟨rfl,rfl⟩:=join23 ht (s3.2 rfl)
 refine⟨rfl,by simp[Ca],λ k hk=>?_⟩
 have h3:¬ k=3:=by rintro rfl;simp at hk
 rw[Ca,if_neg h3]
 exact hz k (by simp only[List.mem_cons,List.not_mem_nil,or_false] at hk ⊢;omega)

def steps23:Array Value:=#[.int .i64 0,.int .i64 1,.int .i64 1,.int .i64 3,.int .u64 0,.slice none 0 0,.int .i64 0,.int .i64 3,.int .i64 1,.int .i64 3,.int .u64 0,.slice none 0 0,.int .i64 0,.int .i64 6,.int .i64 1,.int .i64 3,.int .u64 0,.slice none 0 0,.int .i64 5,.int .i64 0,.int .i64 2,.int .i64 0,.int .u64 0,.slice none 0 0]

def Played23(w:World)(e:Ending)(w':World):Prop:=
 ∃ (P:Sp) (rb:Nat) (W:Nat->Nat),e=.returned (.tuple #[.pointer (some ⟨P.s,0,none⟩),.pointer (some ⟨rb,0,none⟩),.bool true])/\(P.ts=alT/\P.n=16)/\Az w' P W Dw/\(W 3=1048588/\∀ k∈[4,5,7,8,9,13,14,15],W k=0)/\(∀ k,P.own k->w.heap.size<=k)/\Kp Ab w w'

theorem played23(w:World)(hF:Aq w)(bs bt:Nat)(T1 T2:TypeId)(h1:w.heap[bs]?=some (.cells steps23 T1 (0,0)))(h2:w.heap[bt]?=some (.cells #[.int .u8 2,.int .i64 0,.int .u64 0] T2 (0,0))):
  Calls prog 8 #[.int .i64 16,.slice (some ⟨bt,0,none⟩) 1 1,.slice (some ⟨bs,0,none⟩) 4 4] w (Played23 w):=by
 have hts:A9 w (.slice (some ⟨bt,0,none⟩) 1 1) alT:=⟨_,_,rfl,λ i x hi=>by
  cases i with
  |succ i=>simp [alT] at hi
  |zero=>
   have:x=⟨2,0,0⟩:=by simpa [alT] using hi.symm
   subst this
   refine⟨bt,0,rfl,lZ h2,?_,?_,?_⟩ <;> simp only[World.cell?,h2] <;> rfl⟩
 have hst:FH w (.slice (some ⟨bs,0,none⟩) 4 4) 4 al23d al23g al23i al23n (λ _=>0) (λ _=>.slice none 0 0) (λ _=>0):=⟨_,_,rfl,λ j hj=>⟨bs,0,rfl,lZ h1,by
  have:j=0\/j=1\/j=2\/j=3:=by omega
  rcases this with rfl|rfl|rfl|rfl <;> (simp only[World.cell?,h1];refine ⟨rfl,rfl,rfl,rfl,rfl,rfl,⟨_,_,rfl⟩,by omega,?_,?_,?_⟩ <;> decide +kernel)⟩⟩
 refine(Played_run 16 _ _ alT 4 al23d al23g al23i al23n (λ _=>0) (λ _=>.slice none 0 0) (λ _=>0) w hF hts (by decide) (λ x hx=>by have:=List.mem_singleton.1 hx;subst this;decide) (by decide +kernel) (by decide +kernel) hst (by omega) (λ j hj=>by decide) (λ j hj=>⟨λ _ _=>0,⟨none,0,rfl,λ i hi=>absurd (show i<0 from hi) (by omega)⟩⟩) (λ j hj=>by omega)).mono ?_
 rintro e w' ⟨P,rb,q,W,cs,rfl,hB,hn,ht,hr⟩
 obtain⟨rfl,r3,hz⟩:=run23 ht hn hr
 exact⟨P,rb,W,rfl,⟨ht,hn⟩,hB.sp,⟨r3,hz⟩,hB.own,hB.kb.new'⟩

def Cu:List (Nat×Nat×Nat):=[(1,0,2),(3,3,2),(6,5,2)]

theorem good23:GoodP Dw Cu:=by
 refine⟨?_,?_,?_,?_⟩
 .intro x hx
  have:x=(1,0,2)\/x=(3,3,2)\/x=(6,5,2):=by simpa [Cu] using hx
  rcases this with rfl|rfl|rfl
  .exact ⟨⟨1,1,1,3,2⟩,by simp[Dw],rfl,rfl,rfl⟩
  .exact ⟨⟨3,1,1,3,2⟩,by simp[Dw],rfl,rfl,rfl⟩
  .exact ⟨⟨6,1,1,3,2⟩,by simp[Dw],rfl,rfl,rfl⟩
 .decide
 .simp [Cu]
 .simp [Cu]

theorem rf23(g:Nat)(h:g=1\/g=3\/g=6):FP alT Dw g=[0,1,2]:=by
 rcases h with rfl|rfl|rfl <;> decide +kernel

theorem cnt23{W:Nat->Nat}(h3:W 3=1048588)(hz:∀ k∈[4,5,7,8,9,13,14,15],W k=0):Fw Cu (FP alT Dw) Cu W=1/\BZ Cu (FP alT Dw) Cu W 3=1048586:=by
 have h4:=hz 4 (by simp)
 have h5:=hz 5 (by simp)
 have h7:=hz 7 (by simp)
 have h8:=hz 8 (by simp)
 have h9:=hz 9 (by simp)
 have h13:=hz 13 (by simp)
 have h14:=hz 14 (by simp)
 have h15:=hz 15 (by simp)
 have t1:toA Cu 1048588=1048586:=by decide +kernel
 have t0:toA Cu 0=0:=by decide +kernel
 have hp:Cu=[(1,0,2),(3,3,2),(6,5,2)]:=rfl
 have hx:∀ es W,Fw es (FP alT Dw) [(1,0,2),(3,3,2),(6,5,2)] W=Fw es (FP alT Dw) Cu W:=λ _ _=>rfl
 constructor
 .rw [<- hx]
  simp only[Fw,rf23 1 (.inl rfl),rf23 3 (.inr (.inl rfl)),rf23 6 (.inr (.inr rfl)),cntS,BU,Ca]
  simp[h3,h4,h5,h7,h8,h9,h13,h14,h15,t1,t0]
 .show BZ Cu (FP alT Dw) [(1,0,2),(3,3,2),(6,5,2)] W 3=1048586
  simp only[BZ,rf23 1 (.inl rfl),rf23 3 (.inr (.inl rfl)),rf23 6 (.inr (.inr rfl)),BU,Ca]
  simp[h3,t1]

end

section
open Go.RowKit

def Planned23Post(L:List (Nat×Nat×Nat))(w:World)(e:Ending)(w':World):Prop:=
 ∃ pv,e=.returned (.tuple #[.agg #[pv],.bool true])/\w'.ownsRow w.heap.size 43 3 pv L.length (BB L)/\Kp Ab w w'

set_option maxRecDepth 20000 in
theorem Planned23_at(P:Sp)(W:Nat->Nat)(f:Nat->Bool)(cs:List Cel)(w:World)(v1 v2:Value)(n1 n2:Nat)(y1 y2:Nat->Nat)(hsp:SpaceAt w P W f)(hc:CellsAt P W cs)(hst:∀ i,i<P.n/2->f i=Ar cs i)(hne:cs≠[])(h1:BytesIn w v1 n1 y1)(h2:BytesIn w v2 n2 y2)(hl1:n1<=65536)(hl2:n2<=65536):
  Calls prog 9 #[.pointer (some ⟨P.s,0,none⟩),v1,v2] w (Planned23Post (BN cs (AY (Ap cs) y2 n2) (BL (AY (Ap cs) y1 n1++AY (Ap cs) y2 n2)) (P.n/2)) w):=by
 have hsm:=hsp.ar.small
 have HRt:Sl (∀ W' v n ys,Kp Ab w W'->n<=65536->BytesIn W' v n ys->Calls prog 43 #[.pointer (some ⟨P.s,0,none⟩),v] W' λ e w'=>∃ a c,e=.returned (.slice a (AY (Ap cs) ys n).length c)/\w'.ownsRow W'.heap.size 3 1 (.slice a (AY (Ap cs) ys n).length c) (AY (Ap cs) ys n).length (AC (AY (Ap cs) ys n))/\Kp Ab W' w'):=⟨λ W' v n ys kk hn hv=>Roots20_at P cs W' ⟨W,f,hsp.Ad kk,hc,hst⟩ hne v n ys hn hv⟩
 have hro:∀ (ys:Nat->Nat) (n:Nat),∀ g∈AY (Ap cs) ys n,CV cs g:=λ ys n=>roots_obj
 obtain⟨H,hH⟩:∃ H,P.n/2=H:=⟨_,rfl⟩
 have hH2:H<=32768:=by omega
 have HGr:Sl (∀ W',Kp Ab w W'->Calls prog 42 #[.pointer (some ⟨P.s,0,none⟩)] W' λ e w''=>e=.returned (.int .i64 (H:Nat))/\w''=W'):=⟨λ W' kk=>by
  rw[<- hH]
  exact Fe P W f W' (hsp.Ad kk)⟩
 have HOb:Sl (∀ g,CV cs g->g<H):=⟨λ g ho=>by
  obtain⟨c,hm,h1,rfl⟩:=ho
  have hlt:=hc.tl.mem hm
  omega⟩
 have HOf:Sl (∀ W' mp mq fm pins v,Kp Ab w W'->AO W' mp mq fm H->(∀ g,g<H->fm g=true->CV cs g)->Dr W' v pins->(∀ g∈pins,CV cs g)->pins.length<=65536->Calls prog 44 #[.pointer (some ⟨P.s,0,none⟩),.pointer (some ⟨mp,0,none⟩),v] W' (PlanPost (BN cs pins (BL (DX fm H++pins)) H) W')):=⟨λ W' mp mq fm pins v kk hb hm hv ho hl=>by
  have:=PlanOf_at P W f cs W' mp mq fm pins v (hsp.Ad kk) hc hst (by rw[hH];exact hb) (by rw[hH];exact hm) (hv.Ad (Kr _ _)) ho hl
  rwa [hH] at this⟩
 rw[hH]
 have H1:=sE h1
 have H2:=sE h2
 obtain⟨a1,c1,rfl,-⟩:=h1
 obtain⟨a2,c2,rfl,-⟩:=h2
 obtain⟨ms,hms⟩:∃ ms,AY (Ap cs) y1 n1=ms:=⟨_,rfl⟩
 obtain⟨ps,hps⟩:∃ ps,AY (Ap cs) y2 n2=ps:=⟨_,rfl⟩
 have HM:Sl (AY (Ap cs) y1 n1=ms):=⟨hms⟩
 have HP:Sl (AY (Ap cs) y2 n2=ps):=⟨hps⟩
 have HMo:Sl (∀ g∈ms,CV cs g):=⟨by rw[<- hms];exact hro y1 n1⟩
 have HPo:Sl (∀ g∈ps,CV cs g):=⟨by rw[<- hps];exact hro y2 n2⟩
 have hml:ms.length<=65536:=by rw[<- hms];have:=Fh (Ap cs) y1 n1;omega
 have hpl:ps.length<=65536:=by rw[<- hps];have:=Fh (Ap cs) y2 n2;omega
 rw[hms,hps]
 obtain⟨L,hL⟩:∃ L,BN cs ps (BL (ms++ps)) H=L:=⟨_,rfl⟩
 have HL:=sE hL
 rw[hL]
 obtain⟨w1,hw1⟩:∃ w1,w1=w.alloc (.cells #[.slice none 0 0] 33):=⟨_,rfl⟩
 have k1:Kp Ab w w1:=by rw[hw1];exact (Kr _ w).alloc _
 have b1:w1.heap[w.heap.size]?=some (.cells #[.slice none 0 0] 33 (0,0)):=by rw[hw1];exact wN w _
 have HK1:=sE k1
 have HB1:=sE b1
 clear hsp hc hst hne hro hH hsm hms hps k1 b1 hL
 go_enter func9,ntmps9
 go_wp2_with fail
 rw[<- hw1]
 clear hw1
 refine(HGr.out w1 HK1.out).mono ?_
 rintro e w2 ⟨rfl,rfl⟩
 have hz1:w.heap.size<w2.heap.size:=lZ HB1.out
 have HR2:=sE (HRt.out w2 _ n1 y1 HK1.out hl1 (H1.out.Ad HK1.out))
 rw[HM.out] at HR2
 go_wp2_with fail
 refine HR2.out.mono ?_
 rintro e w4 ⟨ma,mc,rfl,ho4,k4⟩
 have HN4:Sl (Dr w4 (.slice ma ms.length mc) ms):=⟨Dr.BK ho4⟩
 have HK4:Sl (Kp Ab w w4):=⟨HK1.out.then' k4⟩
 have HB4:=sE (k4.at_ HB1.out (λ h=>h))
 have HBi:=sE (Bits22_at ms _ H w4 HN4.out hml (by omega) (λ x hx=>HOb.out x (HMo.out x hx)))
 clear ho4 k4 HR2 HB1
 go_wp2_with fail
 refine HBi.out.mono ?_
 rintro e w5 ⟨p,q,fm,rfl,hb5,hf5,-,-,k5⟩
 have HK5:Sl (Kp Ab w w5):=⟨HK4.out.then' k5⟩
 have HBp:=sE (k5.at_ HB4.out (λ h=>h))
 have HBt5:=sE hb5
 have HF5:=sE hf5
 have HR1:=sE (HRt.out w5 _ n2 y2 HK5.out hl2 (H2.out.Ad HK5.out))
 rw[HP.out] at HR1
 clear hb5 hf5 k5 HBi HB4
 go_wp2_with fail
 refine HR1.out.mono ?_
 rintro e w9 ⟨ra,rc,rfl,ho9,k9⟩
 have HP9:=sE ho9
 have HK9:Sl (Kp Ab w w9):=⟨HK5.out.then' k9⟩
 have HB9:=sE (k9.at_ HBp.out (λ h=>h))
 have HE:Sl (BL (DX fm H++ps)=BL (ms++ps)):=⟨riseN_ext λ g=>by
  rw[List.mem_append,List.mem_append,mem_setL]
  constructor
  .rintro (⟨a,b⟩|h)
   .rw [HF5.out g a] at b
    exact .inl (DU.1 b)
   .exact .inr h
  .rintro (h|h)
   .have:=HOb.out g (HMo.out g h)
    exact .inl ⟨this,by rw[HF5.out g this];exact DU.2 h⟩
   .exact .inr h⟩
 have HO:=sE (HOf.out w9 p q fm ps _ HK9.out (HBt5.out.keep k9 (λ h=>h) (λ h=>h)) (λ g a b=>by rw[HF5.out g a] at b;exact HMo.out g (DU.1 b)) (Dr.BK HP9.out) HPo.out hpl)
 rw[HE.out,HL.out] at HO
 clear k9 ho9 HBp HR1
 go_wp2_with fail
 refine HO.out.mono ?_
 rintro e w6 ⟨pv,rfl,ho6,k6⟩
 obtain⟨pa,pc,rfl⟩:=AA ho6
 obtain⟨w7,hw7⟩:∃ w7,w7=w6.alloc (.cells #[.slice pa L.length pc] 33):=⟨_,rfl⟩
 have k7:Kp Ab w6 w7:=by rw[hw7];exact (Kr _ w6).alloc _
 have b7:w7.heap[w6.heap.size]?=some (.cells #[.slice pa L.length pc] 33 (0,0)):=by rw[hw7];exact wN w6 _
 have c7:=cell_of_one b7
 have b8:=(k6.then' k7).at_ HB9.out (λ h=>h)
 have f8:=free_of_one b8
 have c8:=cell_of_one b8
 have HO6:=sE (Ah ho6 k7 (λ _ _ h=>h))
 have HK7:Sl (Kp Ab w w7):=⟨HK9.out.then' (k6.then' k7)⟩
 have HB8:=sE b8
 have zw:=HK9.out.size
 have z5:w.heap.size<w9.heap.size:=lZ HB9.out
 clear ho6 k6 k7 b7 b8 HO
 subst hw7
 go_wp2_with fail
 have KS:Kp (λ k=>k=w.heap.size) (w6.alloc (.cells #[.slice pa L.length pc] 33)) ((w6.alloc (.cells #[.slice pa L.length pc] 33)).setCell ⟨w.heap.size,0,none⟩ (.slice pa L.length pc)):=(Kr (λ k=>k=w.heap.size) _).setCell (λ _=>rfl) _
 have c9:=cell_of_one (one_setCell (u:=.slice pa L.length pc) HB8.out)
 refine bodyPost_ret (v:=.tuple #[.agg #[.slice pa L.length pc],.bool true]) (by simp[results,results9,go_sem,c9]) rfl ⟨_,rfl,?_,?_⟩
 .exact Bi (Ah HO6.out KS (λ b hb h=>by have:=(Af HO6.out hb).1;omega)) (by omega)
 .exact (HK7.out.Al (λ k=>k=w.heap.size)).trans KS (λ _ _ h=>h) |>.mono (λ i hi h=>by omega)

theorem TCheck_nil(v:Value)(w:World):Calls prog 61 #[.pointer none,.agg #[v]] w λ e w'=>e=.returned (.int .i64 1)/\Kp Ab w w':=by
 go_enter func61,ntmps61
 go_wp2_with fail
 exact bodyPost_ret (v:=.int .i64 1) (by simp[results,results61,go_sem]) rfl ⟨rfl,(Kr _ _).alloc _⟩

theorem rowo23(w:World)(T:TypeId):Et (w.alloc (.cells #[.int .i64 1,.int .i64 0,.int .i64 2,.int .i64 3,.int .i64 3,.int .i64 2,.int .i64 6,.int .i64 5,.int .i64 2] T)) (.slice (some ⟨w.heap.size,0,none⟩) 3 3) Cu:=rowoA w T

end

end Go.Proofs.YtmfajopmppfldaaGreatDoor
