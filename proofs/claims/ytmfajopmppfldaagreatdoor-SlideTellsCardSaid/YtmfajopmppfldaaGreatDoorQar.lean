/-
  Lemmas for the laws, together: Play5.
-/
import Derived.Test.YtmfajopmppfldaaGreatDoorQap
import Derived.Test.YtmfajopmppfldaaGreatDoorQan
import Derived.Test.YtmfajopmppfldaaGreatDoorQah
import Derived.Test.YtmfajopmppfldaaGreatDoorQai
set_option linter.unusedVariables false
set_option maxHeartbeats 16000000
namespace Go.Proofs.YtmfajopmppfldaaGreatDoor
open Tryz
section
open Go.RowKit

theorem VHead_at(b a:Nat)(c:Cel)(k wds:Int)(m:Nat)(w:World)(hV:BJ w b a c k wds m):
  Calls prog 16 #[.pointer (some ⟨b,0,none⟩)] w λ e w'=>e=.returned (.agg #[.int .u8 (c.tag:Nat),.int .i64 (c.ty:Nat),.int .i64 (c.ln:Nat),.int .i64 (c.sz:Nat)])/\Kp Ab w w':=by
 obtain⟨w1,hw1⟩:∃ w1,w1=w.alloc (.cells #[.int .u8 0,.int .i64 0,.int .i64 0,.int .i64 0] 52):=⟨_,rfl⟩
 have kA:Kp Ab w w1:=by rw[hw1];exact (Kr _ w).alloc _
 have b0:w1.heap[w.heap.size]?=some (.cells #[.int .u8 0,.int .i64 0,.int .i64 0,.int .i64 0] 52 (0,0)):=by rw[hw1];exact wN w _
 have hl:=lZ b0
 obtain⟨v0,v1,v2,v3,v4,v5,v6,v7,v8⟩:=(hV.Ad kA).cells
 have hlt:=lZ (hV.Ad kA)
 obtain⟨tg,htg⟩:∃ x,c.tag=x:=⟨_,rfl⟩
 obtain⟨ty,hty⟩:∃ x,c.ty=x:=⟨_,rfl⟩
 obtain⟨ln,hln⟩:∃ x,c.ln=x:=⟨_,rfl⟩
 obtain⟨sz,hsz⟩:∃ x,c.sz=x:=⟨_,rfl⟩
 rw[htg] at v2 ⊢
 rw[hty] at v3 ⊢
 rw[hln] at v4 ⊢
 rw[hsz] at v5 ⊢
 obtain⟨d0,d1,d2,d3⟩:=Ay b0
 have f0:=Ae b0
 have f00:=f0 0
 have f01:=f0 1
 have f02:=f0 2
 have f03:=f0 3
 have HB:=sE b0
 clear b0 f0 hV htg hty hln hsz v0 v1 v6 v7 v8
 subst hw1
 go_enter func16,ntmps16
 go_wp2
 obtain⟨e0,e1,e2,e3⟩:=Ay (wN w (.cells #[.int .u8 (tg:Nat),.int .i64 (ty:Nat),.int .i64 (ln:Nat),.int .i64 (sz:Nat)] 52))
 exact bodyPost_ret (v:=.agg #[.int .u8 (tg:Nat),.int .i64 (ty:Nat),.int .i64 (ln:Nat),.int .i64 (sz:Nat)]) (by simp[results,results16,go_sem,e0,e1,e2,e3]) rfl ⟨rfl,(Kr _ _).alloc _⟩

theorem run_field_size(a b c d:Int)(w:World):(Instr.field 52 (.agg #[.int .u8 a,.int .i64 b,.int .i64 c,.int .i64 d]) 3).run prog w=.ok (.int .i64 d) w:=by kernel_rfl

def EB(os:List Cel):List Nat:=0::os.map Cel.fin

theorem endsL_last(os:List Cel):(EB os)[os.length]?=some ((os.getLast?.map Cel.fin).getD 0):=by
 rcases List.eq_nil_or_concat os with h|⟨l,z,h⟩
 .subst h;rfl
 .rw [List.concat_eq_append] at h
  subst h
  simp[EB]

theorem endsL_snoc(os:List Cel)(c:Cel):EB (os++[c])=EB os++[c.fin]:=by simp[EB]

theorem endsL_succ{os:List Cel}{i:Nat}{o:Cel}(h:os[i]?=some o):(EB os)[i+1]?=some o.fin:=by simp[EB,h]

theorem endsL_len(os:List Cel):(EB os).length=os.length+1:=by simp[EB]

theorem owns_num{w:World}{base:Nat}{E:TypeId}{v:Value}{n:Nat}{l:List Nat}(h:w.ownsRow base E 1 v n (AB l))(hn:n=l.length){i z:Nat}(hi:l[i]?=some z):
  ∃ gb cap,v=.slice (some ⟨gb,0,none⟩) n cap/\base<=gb/\gb<w.heap.size/\w.cell? ⟨gb,i,none⟩=some (.int .i64 (z:Nat)):=by
 have hil:=(gE.1 hi).1
 obtain⟨_,h⟩:=h
 rcases h with ⟨_,h0⟩|⟨gb,cap5,cur,hu,hb,hh,_,_,hsz,htk⟩
 .omega
 .refine ⟨gb,cap5,hu,hb,lZ hh,?_⟩
  have h9:=congrArg (λ l=>l[i]?) htk
  simp only[List.getElem?_take,Nat.mul_one,AB,List.getElem?_map,hi,Option.map_some] at h9
  rw[if_pos (by omega),Array.getElem?_toList] at h9
  simp only[World.cell?,hh]
  exact h9

theorem owns_one(w:World)(E:TypeId)(z:Nat):(w.alloc (.cells #[.int .i64 (z:Nat)] E)).ownsRow w.heap.size E 1 (.slice (some ⟨w.heap.size,0,none⟩) 1 1) 1 (AB [z]):=
 ⟨rfl,.inr ⟨w.heap.size,1,#[.int .i64 (z:Nat)],rfl,Nat.le_refl _,wN w _,Nat.le_refl _,by decide,rfl,rfl⟩⟩

def SSettlePost(P:Sp)(W:Nat->Nat)(cs:List Cel)(x:Nat->Int)(len:Nat)(w:World)(e:Ending)(w':World):Prop:=
 (Bd W P.n P.ts x 0 len 0=none/\e=.returned (.int .i64 2)/\Aw w' P W cs/\Kp Ab w w')\/
 (∃ os,Bd W P.n P.ts x 0 len 0=some os/\e=.returned (.int .i64 0)/\Kp P.own w w'/\Aw w' P (AU W 0 os (P.n/2)) (Cn 0 os (P.n/2)))

def SetI2(P:Sp)(W:Nat->Nat)(x:Nat->Int)(len:Nat)(w:World)(v5 v18:Value)(wr:World):Prop:=
 ∃ (j:Nat) (os:List Cel) (e:Nat),j<=len/\v18=.int .i64 (j:Nat)/\e<=32768/\Sl (Cc W P.n P.ts x len j os e)/\Sl (wr.ownsRow w.heap.size 3 1 v5 (os.length+1) (AB (EB os)))/\Kp Ab w wr

attribute [local go_sem] run_field_size

def SSettleTo(P:Sp)(W:Nat->Nat)(f:Nat->Bool)(x:Nat->Int)(len:Nat)(w:World)(e:Ending)(w':World):Prop:=
 (Bd W P.n P.ts x 0 len 0=none/\e=.returned (.int .i64 2)/\SpaceAt w' P W f/\Kp Ab w w')\/
 (∃ os,Bd W P.n P.ts x 0 len 0=some os/\e=.returned (.int .i64 0)/\Kp P.own w w'/\Aw w' P (AU W 0 os (P.n/2)) (Cn 0 os (P.n/2)))

set_option maxRecDepth 20000 in
theorem SSettle_to(P:Sp)(W:Nat->Nat)(f:Nat->Bool)(v:Value)(len:Nat)(x:Nat->Nat->Int)(w:World)(hS:SpaceAt w P W f)
  (hx:BA 1 w v len x) (hlen:len<=1000) (hvb:0<len->∀ b,v.ownBlock=some b->¬ P.own b):
  Calls prog 79 #[.pointer (some ⟨P.s,0,none⟩),v] w (SSettleTo P W f (λ i=>x i 0) len w):=by
 have HSp:=sE hS
 have hn:=hS.ar.small
 have hlt:∀ k,P.all k->k<w.heap.size:=hS.lt
 have hlts:=hlt P.s (.inr (.inl rfl))
 obtain⟨va,vc,rfl,hxs⟩:=ints_at hx
 have HX:=sE hxs
 have HS0:=sE hS
 have HVB:=sE hvb
 have HLT:=sE hlt
 clear hS hx hxs hvb hlt
 go_enter func79,ntmps79
 go_wp2_with fail
 go_loopw [5,18] (λ v5 v18 wr=>SetI2 P W (λ i=>x i 0) len w v5 v18 wr) (λ _ y _=>len-(intOf y).toNat)
 case atStart=>exact ⟨0,[],0,Nat.zero_le _,rfl,Nat.zero_le _,⟨Cc.start _ _ _ _ _⟩,⟨owns_one w _ 0⟩,(Kr _ _).alloc _⟩
 case round=>
  obtain⟨j,os,e,hj,rfl,he,HS,HO,hk⟩:=hrel
  have HK:=sE hk
  by_cases hjl:j<len
  .have hjl':(j:Int)<(len:Int):=by omega
   obtain⟨b,o,rfl,hbl,cx0,xb1,xb2⟩:=HX.out j hjl
   have cx:=hk.cell cx0 (λ h=>h)
   obtain⟨s0,s1,s2⟩:=(HS0.out.Ad hk).head
   have hsw:P.s<wr.heap.size:=Nat.lt_of_lt_of_le hlts hk.size
   have hbr:b<wr.heap.size:=Nat.lt_of_lt_of_le hbl hk.size
   have holen:os.length=j:=HS.out.2.1
   have hlast:(EB os)[os.length]?=some e:=by rw[endsL_last,<- HS.out.2.2.2.2]
   obtain⟨gb,cap5,rfl,hg1,hg2,cz⟩:=owns_num HO.out (by rw[endsL_len]) hlast
   clear hk cx0
   have hgw:gb<wr.heap.size:=hg2
   go_wp2_with fail
   cases hc:Cb W P.n P.ts (x j 0) with
   |none=>
    have HF:Sl (Bd W P.n P.ts (λ i=>x i 0) 0 len 0=none):=⟨HS.out.fails hjl (.inl hc)⟩
    have HOf:Sl (∀ W',Kp Ab wr W'->Calls prog 13 #[.pointer (some ⟨P.a,0,none⟩),.pointer (some ⟨P.t,0,none⟩),.int .i64 (x j 0)] W' (SOfNo W')):=⟨λ W' kk=>by
     have kw:=HK.out.then' kk
     refine(SOf_any (x j 0) P.a P.q P.n P.t P.tq W P.ts W' (HS0.out.fl.Ad kw) (HS0.out.ar.Ad kw) (HS0.out.Ad kw).tb).mono λ e w' hp=>?_
     unfold Dn at hp
     rw[hc] at hp
     exact hp⟩
    clear hc
    go_region_held3 (λ w'=>w'.cell? ⟨P.s,0,none⟩=some (.pointer (some ⟨P.a,0,none⟩))/\w'.cell? ⟨P.s,1,none⟩=some (.pointer (some ⟨P.t,0,none⟩)))
     (exact ⟨Ac KU s0,Ac KU s1⟩)
     (first|(go_at_call 13;(with_reducible refine(HOf.out _ KU).mono ?_);rintro e w9 ⟨E,hE,rfl,k9⟩;have K9:Kp Ab wr w9:=Kp.then' KU k9))
    have hb:(E !=0)=true:=by simpa using hE
    have HKF:=HK.out.then' K9
    clear hE s0 s1 cx cz
    go_wp2
    exact bodyPost_ret (v:=.int .i64 2) (by simp[results,results79,go_sem]) rfl (.inl ⟨HF.out,rfl,HSp.out.Ad HKF,HKF⟩)
   |some c=>
    have hf:=HS0.out.ar.fits
    obtain⟨g1,g2,g3,g4,g5,g6⟩:=Ej hc hf
    have HOf:Sl (∀ W',Kp Ab wr W'->Calls prog 13 #[.pointer (some ⟨P.a,0,none⟩),.pointer (some ⟨P.t,0,none⟩),.int .i64 (x j 0)] W' (SOfYes P.a P.ts c W')):=⟨λ W' kk=>by
     have kw:=HK.out.then' kk
     refine(SOf_any (x j 0) P.a P.q P.n P.t P.tq W P.ts W' (HS0.out.fl.Ad kw) (HS0.out.ar.Ad kw) (HS0.out.Ad kw).tb).mono λ e w' hp=>?_
     unfold Dn at hp
     rw[hc] at hp
     exact hp⟩
    have hcb:c.g+c.sz<=32768:=by unfold Cel.fin at g4;omega
    have HC:=sE hc
    have HG1:=sE g1
    clear hc hf g2 g5 g6 g4 g1
    go_region_held3 (λ w'=>w'.cell? ⟨P.s,0,none⟩=some (.pointer (some ⟨P.a,0,none⟩))/\w'.cell? ⟨P.s,1,none⟩=some (.pointer (some ⟨P.t,0,none⟩)))
     (exact ⟨Ac KU s0,Ac KU s1⟩)
     (first|(go_at_call 13;(with_reducible refine(HOf.out _ KU).mono ?_);rintro e w9 ⟨vb,k,wds,m,hty,rfl,hvw,hvb,k9⟩;have K9:Kp Ab wr w9:=Kp.then' KU k9))
    have HKF:Sl (Kp Ab w w9):=⟨HK.out.then' K9⟩
    have cx9:=K9.cell cx (λ h=>h)
    rw[HG1.out] at cx9
    have cz9:=K9.cell cz (λ h=>h)
    have hs9:=K9.size
    have HVw:=sE hvw
    have HO9:Sl (w9.ownsRow w.heap.size 3 1 (.slice (some ⟨gb,0,none⟩) (os.length+1) cap5) (os.length+1) (AB (EB os))):=⟨K9.owns HO.out (λ _ _ h=>h)⟩
    have HOL:=sE holen
    rw[holen] at HO9 cz9
    have HVH:=sE (VHead_at vb P.a c k wds m w9 hvw)
    clear s0 s1 cx cz K9 hvw hty holen hlast k9
    by_cases hlow:(c.g:Int)<(e:Int)
    .have HF:Sl (Bd W P.n P.ts (λ i=>x i 0) 0 len 0=none):=⟨HS.out.fails hjl (.inr (by show x j 0<_;rw [HG1.out];exact hlow))⟩
     have p1:decide ((c.g:Int)<(e:Int))=true:=dT hlow
     rw[HG1.out]
     go_wp2
     exact bodyPost_ret (v:=.int .i64 2) (by simp[results,results79,go_sem]) rfl (.inl ⟨HF.out,rfl,HSp.out.Ad HKF.out,HKF.out⟩)
    .have HN:Sl (Cc W P.n P.ts (λ i=>x i 0) len (j+1) (os++[c]) c.fin):=⟨HS.out.next hjl HS0.out.ar.fits HC.out (by show ¬ x j 0<_;rw [HG1.out];exact hlow)⟩
     have p1:decide ((c.g:Int)<(e:Int))=false:=dF hlow
     have hsum:(c.g:Int)+(c.sz:Int)=((c.fin:Nat):Int):=by rw[Cel.fin];omega
     have HSum:=sE hsum
     have hfb:c.fin<=32768:=by rw[Cel.fin];exact hcb
     clear hsum
     rw[HG1.out]
     go_wp2_with fail
     refine HVH.out.mono ?_
     rintro e w10 ⟨rfl,k10⟩
     have HO10:=sE (k10.owns HO9.out (λ _ _ h=>h))
     have HK10:=sE (HKF.out.then' k10)
     have hs10:=k10.size
     have hws:w.heap.size<=w10.heap.size:=HK10.out.size
     clear cz9 cx9 k10
     go_wp2_with (at_builtin;obtain ⟨i0,hi,hz0,hz1,hz2⟩:=info_parts Cv;go_loud (refine wpList_append_lies _ rfl (.tmp 47) (.tmp 53) 82 rfl w.heap.size 3 i0 _ 1 8 AP hi hz0 hz1 hz2 rfl (by omega) _ (j+1) (AB (EB os)) rfl (HO10.out.alloc _) ⟨w10.heap.size,0,none⟩ 1 1 [.int .i64 (c.fin:Nat)] rfl rfl (World.news_of_block (by rw[<- HSum.out];exact wN w10 _)) (by intro u hu;simp at hu;subst hu;rfl) (by omega) (by unfold maxLen;omega) (by omega) (by simp;omega) (w10.heap.size+1) (by simp) ?_);intro g cap w11 hown11 hgrow hat hlt;clear hi hz0 hz1 hz2)
     have k11:Kp Ab w w11:=(HK10.out.alloc _).grown hgrow (λ k e hl=>absurd (HO10.out.lt k e).1 (by omega))
     have h11:w11.ownsRow w.heap.size 3 1 (.slice (some ⟨g,0,none⟩) (j+1+1) cap) ((os++[c]).length+1) (AB (EB (os++[c]))):=by
      rw[endsL_snoc,AB,List.map_append,List.length_append,HOL.out];exact hown11
     have HO11:=sE h11
     have HK11:=sE k11
     clear hown11 hgrow hat k11 h11
     go_wp2
     exact⟨⟨j+1,os++[c],c.fin,by omega,by go_num,hfb,HN,HO11,HK11.out⟩,by simp only[intOf];omega⟩
  .have hjl':¬ (j:Int)<(len:Int):=by omega
   obtain rfl:j=len:=by omega
   have hR:=HS.out.done
   have hf:=HS0.out.ar.fits
   obtain⟨r1,r2,r3,r4⟩:=Da hf hR (Nat.zero_le _)
   have HR:=sE hR
   have HRi:=sE r1
   have HXo:Sl (∀ i o,os[i]?=some o->x i 0=(o.g:Nat)):=⟨λ i o ho=>by have:=r3 i o ho;rwa [Nat.zero_add] at this⟩
   have HLen:=sE r2
   have HTag:Sl (∀ o∈os,o.tag=1):=⟨λ o ho=>(r1.mem ho).2.1⟩
   have S0:=HS0.out.Ad hk
   obtain⟨s0,s1,s2⟩:=S0.head
   have hsw:P.s<wr.heap.size:=Nat.lt_of_lt_of_le hlts hk.size
   have HSo:=sE S0
   have HGr:Sl (∀ W' (W1:Nat->Nat) f1,SpaceAt W' P W1 f1->Calls prog 42 #[.pointer (some ⟨P.s,0,none⟩)] W' λ e w'=>e=.returned (.int .i64 ((P.n/2:Nat):Int))/\w'=W'):=⟨λ W' W1 f1 h=>EC P W1 f1 W' h⟩
   clear hk r1 r2 r3 r4 hR hf S0 s0 s1
   obtain⟨wo,rfl⟩:∃ wo:World,wo=wr:=⟨_,rfl⟩
   go_wp2_with fail
   refine Co 6 (by kernel_rfl) (by kernel_rfl) ?_
   simp only[List.take_succ_cons,List.take_zero,List.drop_succ_cons,List.drop_zero]
   repeat (go_big_quiet_step (((go_at_call 42;with_reducible refine Calls.quiet_of_same (HGr.out _ W f ?_);(first|exact HSo.out|exact HSo.out.Ad (Kr Ab _).drew|exact HSo.out.Ad (Kp.Aj _)|exact HSo.out.Ad ((Kp.Aj _).drewN _))))))
   refine wpQuiet_nil ?_
   intro _ hw'
   obtain⟨nq,hw''⟩:=hw'
   subst hw''
   go_wp2_with fail
   refine(ClearRun_int 0 ((P.n/2:Nat):Int) (P.n/2) P.b P.bq f _ (HSo.out.Ad (Kp.Aj _)).bt).mono ?_
   rintro e w3 ⟨rfl,k3,b3⟩
   have S3:=(HSo.out.Ad (Kp.Aj nq)).bits k3 b3
   have K3:Kp P.own wo w3:=((Kp.Aj (S:=P.own) nq)).trans k3 (λ b _ hb=>.inr (.inr hb))
   obtain⟨f3,hf3⟩:∃ f3,E8 f (P.n/2) 0 ((P.n/2:Nat):Int) false=f3:=⟨_,rfl⟩
   have HF3:Sl (∀ t,t<P.n/2->f3 t=Aq (os.take 0) t):=⟨λ t ht=>by
    rw[<- hf3,E8,if_pos (by unfold Bf;rw [decide_eq_true_eq];omega),Em]
    rw[if_pos (by omega)];rfl⟩
   rw[hf3] at S3
   have HS3:=sE S3
   have HK3:=sE K3
   clear k3 b3 S3 K3 hf3 s2
   go_wp2_with fail
   go_loopw [65] (λ v65 w'=>∃ (i e':Nat) (W1:Nat->Nat) (f1:Nat->Bool),i<=j/\v65=.int .i64 (i:Nat)/\Sl ((EB os)[i]?=some e')/\Sl (BI e' (os.drop i) (P.n/2))/\Sl (AU W1 e' (os.drop i) (P.n/2)=AU W 0 os (P.n/2))/\Sl (SpaceAt w' P W1 f1)/\Sl (∀ t,t<P.n/2->f1 t=Aq (os.take i) t)/\Kp P.own wo w') (λ y _=>j-(intOf y).toNat)
   case atStart=>exact ⟨0,0,W,f3,Nat.zero_le _,rfl,⟨rfl⟩,⟨HRi.out⟩,⟨rfl⟩,⟨HS3.out⟩,⟨HF3.out⟩,HK3.out⟩
   case round=>
    obtain⟨i,e',W1,f1,hi,rfl,hen,hri,hst,hs1,hf1,hkr⟩:=hrel
    have HKR:=sE hkr
    obtain⟨gb,cap5,hu5,hg1,hg2,cz0⟩:=owns_num HO.out (by rw[endsL_len]) hen.out
    subst hu5
    have hgo:¬ P.own gb:=λ h=>by
     have:=HLT.out gb (by unfold Sp.own at h;unfold Sp.all;omega)
     omega
    have cz:=hkr.cell cz0 hgo
    have hgw:gb<wr.heap.size:=Nat.lt_of_lt_of_le hg2 hkr.size
    have hws:w.heap.size<=wr.heap.size:=Nat.le_trans HK.out.size hkr.size
    obtain⟨s0,s1,s2⟩:=hs1.out.head
    have hsw1:P.s<wr.heap.size:=by omega
    have HOL:=sE HLen.out
    rw[HLen.out]
    by_cases hij:i<j
    .have hij':(i:Int)<(j:Int):=by omega
     obtain⟨ob,hob⟩:∃ ob,os[i]?=some ob:=⟨os[i]'(by have:=HLen.out;omega),by simp⟩
     obtain⟨b,o,rfl,hbl,cx0,xb1,xb2⟩:=HX.out i (by omega)
     have hx9:=HXo.out i ob hob
     rw[hx9] at cx0
     obtain⟨t1,t2,t3,t4⟩:=rising_step hob hri.out
     have hst2:=settle_step (W:=W1) (e:=e') (H:=P.n/2) hob
     have HST:Sl (AU (AZ W1 e' (ob.g-e')) ob.fin (os.drop (i+1)) (P.n/2)=AU W 0 os (P.n/2)):=⟨hst2.symm.trans hst.out⟩
     have HR4:=sE t4
     have hfin:ob.g+ob.sz<=P.n/2:=t3
     have hwr:IntKind.i64.wrap ((ob.g:Int)-(e':Int))=((ob.g-e':Nat):Int):=by rw[IntKind.wrap_i64];omega
     have HWr:=sE hwr
     have HEn:Sl ((EB os)[i+1]?=some ob.fin):=⟨endsL_succ hob⟩
     have hbo:¬ P.own b:=HVB.out (by omega) b rfl
     have cx:=hkr.cell (HK.out.cell cx0 (λ h=>h)) hbo
     have hbw:b<wr.heap.size:=by omega
     have HTk:Sl (∀ t,Aq (os.take (i+1)) t=(Aq (os.take i) t||ob.g==t)):=⟨λ t=>by
      rw[List.take_add_one,hob,A9]
      have h1:=HTag.out ob (List.mem_of_getElem? hob)
      have:Aq ([ob]) t=(ob.g==t):=by simp[Aq,h1]
      rw[<- this];rfl⟩
     have HSet:=sE (Set_int (ob.g:Nat) (P.n/2) P.b P.bq f1 wr hs1.out.bt)
     clear hst2 hx9 cx0 cz0 hkr hst hri t3 t4 hob s0 s1 hwr
     go_wp2_with fail
     refine HSet.out.mono ?_
     rintro e w4 ⟨rfl,k4,b4⟩
     have S4:=hs1.out.bits k4 b4
     obtain⟨f4,hf4⟩:∃ f4,E8 f1 (P.n/2) (ob.g:Nat) 1 true=f4:=⟨_,rfl⟩
     have HF4:Sl (∀ t,t<P.n/2->f4 t=Aq (os.take (i+1)) t):=⟨λ t ht=>by
      rw[<- hf4,E8,if_pos (by unfold Bf;rw [decide_eq_true_eq];omega),Em,HTk.out t,<- hf1.out t ht]
      by_cases q:ob.g=t
      .subst q;simp
      .have:¬ ((ob.g:Int).toNat<=t/\t<(ob.g:Int).toNat+(1:Int).toNat):=by simp;omega
       rw[if_neg this]
       simp[q]⟩
     rw[hf4] at S4
     have HS4:=sE S4
     have nbq:∀ b,¬ P.own b->¬ b=P.bq:=λ b h e=>h (.inr (.inr e))
     have cz4:=k4.cell cz (nbq gb hgo)
     have HK4:Sl (Kp P.own wo w4):=⟨HKR.out.trans k4 (λ b _ hb=>.inr (.inr hb))⟩
     have hs4:=k4.size
     have hgw4:gb<w4.heap.size:=by omega
     have HGap:Sl (∀ W',Kp Ab w4 W'->Calls prog 123 #[.pointer (some ⟨P.s,0,none⟩),.int .i64 (e':Nat),.int .i64 ((ob.g-e':Nat):Int)] W' (LaidGap P (AZ W1 e' (ob.g-e')) f4 W')):=⟨λ W' kk=>gap_any e' (ob.g-e') P W1 f4 W' (S4.Ad kk) (by omega)⟩
     have hwr:=HWr.out
     clear cz cx k4 b4 S4 hf4 s2 nbq
     go_wp2_with fail
     refine Co 11 (by kernel_rfl) (by kernel_rfl) ?_
     simp only[List.take_succ_cons,List.take_zero,List.drop_succ_cons,List.drop_zero]
     repeat (go_big_quiet_step (fail))
     refine wpQuiet_nil ?_
     intro _ hw'
     obtain⟨nq,hw''⟩:=hw'
     subst hw''
     try rw[hwr]
     clear hwr
     go_wp2_with fail
     refine(HGap.out _ (Kp.Aj nq)).mono ?_
     rintro e w5 ⟨rfl,k5,S5⟩
     have HK5:Sl (Kp P.own wo w5):=⟨(HK4.out.drewN nq).trans k5 (λ b _ hb=>by rcases hb with h|h;exact .inl h;exact .inr (.inl h))⟩
     have HS5:=sE S5
     clear k5 S5 cz4
     go_wp2
     exact⟨⟨i+1,ob.fin,_,f4,by omega,by go_num,HEn,HR4,HST,HS5,HF4,HK5.out⟩,by simp only[intOf];omega⟩
    .have hij':¬ (i:Int)<(j:Int):=by omega
     obtain rfl:i=j:=by omega
     have hi0:os.drop i=[]:=List.drop_eq_nil_of_le (by have:=HLen.out;omega)
     have ht0:os.take i=os:=List.take_of_length_le (by have:=HLen.out;omega)
     have hst2:=hst.out
     have hri2:=hri.out
     rw[hi0] at hst2 hri2
     have he2:e'<=P.n/2:=hri2
     have HST:Sl (AZ W1 e' (P.n/2-e')=AU W 0 os (P.n/2)):=⟨hst2⟩
     have HF1:Sl (∀ t,t<P.n/2->f1 t=Aq (Cn 0 os (P.n/2)) t):=⟨λ t ht=>by rw[settle_starts,hf1.out t ht,ht0]⟩
     have HGap:Sl (∀ W',Kp Ab wr W'->Calls prog 123 #[.pointer (some ⟨P.s,0,none⟩),.int .i64 (e':Nat),.int .i64 ((P.n/2-e':Nat):Int)] W' (LaidGap P (AZ W1 e' (P.n/2-e')) f1 W')):=⟨λ W' kk=>gap_any e' (P.n/2-e') P W1 f1 W' (hs1.out.Ad kk) (by omega)⟩
     have HG1:=sE (HGr.out wr W1 f1 hs1.out)
     have HM:Sl ((P.n:Int)/2-(e':Int)=((P.n/2-e':Nat):Int)):=⟨by omega⟩
     clear hst2 hri2 hi0 hst hri hkr ht0 s0 s1 s2
     go_wp2_with fail
     refine HG1.out.mono ?_
     rintro e w4 ⟨rfl,rfl⟩
     go_wp2_with fail
     rw[HM.out]
     refine(HGap.out _ (Kr _ _)).mono ?_
     rintro e w5 ⟨rfl,k5,S5⟩
     have HK5:Sl (Kp P.own wo w5):=⟨HKR.out.trans k5 (λ b _ hb=>by rcases hb with h|h;exact .inl h;exact .inr (.inl h))⟩
     have HS5:=sE S5
     clear k5 S5 cz
     go_wp2
     exact bodyPost_ret (v:=.int .i64 0) (by simp[results,results79,go_sem]) rfl (.inr ⟨os,HR.out,rfl,(HK.out.Ak _).trans HK5.out (λ _ _ h=>h),f1,by rw[<- HST.out];exact HS5.out,settleR_cells hn HS0.out.ar.fits HR.out,HF1.out⟩)

theorem SSettle_any(P:Sp)(W:Nat->Nat)(cs:List Cel)(v:Value)(len:Nat)(x:Nat->Nat->Int)(w:World)(hs:Aw w P W cs)
  (hx:BA 1 w v len x) (hlen:len<=1000) (hvb:0<len->∀ b,v.ownBlock=some b->¬ P.own b):
  Calls prog 79 #[.pointer (some ⟨P.s,0,none⟩),v] w (SSettlePost P W cs (λ i=>x i 0) len w):=by
 obtain⟨f,hS,hcs,hst⟩:=hs
 refine(SSettle_to P W f v len x w hS hx hlen hvb).mono λ e w' hp=>?_
 rcases hp with ⟨h1,h2,h3,h4⟩|hp
 .exact .inl ⟨h1,h2,⟨f,h3,hcs,hst⟩,h4⟩
 .exact .inr hp

end

end Go.Proofs.YtmfajopmppfldaaGreatDoor
