/-
  Lemmas for the laws, together: WhyOf.
-/
import Derived.Test.YtfkedlgpgmaemaaGreatDoorQbg
set_option linter.unusedVariables false
set_option maxHeartbeats 16000000
namespace Go.Proofs.YtfkedlgpgmaemaaGreatDoor
open Tryz
section
open Go.RowKit

def encE(e:Nat×Nat×Nat):List Value:=[e.1,e.2.1,e.2.2]

def mmE(mo mi:Nat):Bool->Nat:=λ s=>if s=true then mo else mi

def lsE(es:List (Nat×Nat×Nat)):Bool->Nat->List (Nat×Nat×Nat):=λ s k=>if s=true then Gw es k else GD es k

theorem lsE_add(es:List (Nat×Nat×Nat))(x:Nat×Nat×Nat):updG (updG (lsE es) true x.1 (lsE es true x.1++[x])) false x.2.2 ((updG (lsE es) true x.1 (lsE es true x.1++[x])) false x.2.2++[x])=lsE (es++[x]):=by
  funext s k
  cases s with
  |true=>
    rw[Gi _ _ (λ h=>by cases h.1)]
    by_cases e:k=x.1
    . subst e
      rw[GJ]
      simp[lsE,Gw]
    . rw[Gi _ _ (λ h=>e h.2)]
      have:¬ x.1=k:=λ h=>e h.symm
      simp[lsE,Gw,this]
  |false=>
    by_cases e:k=x.2.2
    . subst e
      rw[GJ,Gi _ _ (λ h=>by cases h.1)]
      simp[lsE,GD]
    . rw[Gi _ _ (λ h=>e h.2),Gi _ _ (λ h=>by cases h.1)]
      have:¬ x.2.2=k:=λ h=>e h.symm
      simp[lsE,GD,this]

theorem lsE_len(es:List (Nat×Nat×Nat))(s:Bool)(k:Nat):(lsE es s k).length<=es.length:=by
  unfold lsE Gw GD
  cases s <;> exact List.length_filter_le _ _

def EdAt(w:World)(mo mi c0:Nat)(es:List (Nat×Nat×Nat)):Prop:=∃ vs n,n<=2*es.length/\Grp 70 3 encE w c0 (mmE mo mi) vs (lsE es) n

theorem EdAt.keep{w w':World}{mo mi c0:Nat}{es:List (Nat×Nat×Nat)}(h:EdAt w mo mi c0 es){S:Nat->Prop}(k:Kp S w w')(h1:¬ S mo)(h2:¬ S mi)(h3:∀ b,c0<=b->b<w.heap.size->¬ S b):EdAt w' mo mi c0 es:=by
  obtain⟨vs,n,hn,hg⟩:=h
  exact⟨vs,n,hn,hg.keep k (λ s=>by cases s <;> assumption) h3⟩

theorem EdAt.o{w:World}{mo mi c0:Nat}{es:List (Nat×Nat×Nat)}(h:EdAt w mo mi c0 es)(s:Bool):∃ n c,n<=2*es.length/\BS w (mmE mo mi s) n c/\∀ k,w.ownsRow c0 70 3 ((c k).getD (.slice none 0 0)) (lsE es s k).length (Bt (lsE es s k)):=by
  obtain⟨vs,n,hn,hg⟩:=h
  obtain⟨c,q1,q2⟩:=hg.mp s
  exact⟨n,c,hn,q1,λ k=>by rw[q2];exact hg.row s k⟩

def WOfPost(es:List (Nat×Nat×Nat))(T:Nat->Prop)(xs:List Int)(w:World)(e:Ending)(w':World):Prop:=
  ((∃ ns:List Nat,xs=ns.map (λ g:Nat=>(g:Int))/\(∀ g∈ns,T g)/\∃ gb D,e=.returned (.tuple #[.pointer (some ⟨gb,0,none⟩),(0:Int)])/\GraphAt w' gb es D/\Gg es ns D)\/
   (¬ (∃ ns:List Nat,xs=ns.map (λ g:Nat=>(g:Int))/\∀ g∈ns,T g)/\e=.returned (.tuple #[.pointer none,(2:Int)])))/\Kp Aa w w'

set_option maxRecDepth 20000 in
theorem WOf_nil(v:Value)(w:World):Calls prog 83 #[.pointer none,v] w (RK (.tuple #[.pointer none,(1:Int)]) w):=by
  go_enter func83,ntmps83
  go_wp2
  go_ret2
  exact⟨rfl,Kr _ _⟩

theorem graph_new(w1:World):∃ w4,w4=((((w1.alloc (.map #[] 0)).alloc (.map #[] 0)).alloc (.map #[] 0)).alloc (.cells #[.map (some w1.heap.size),.map (some (w1.heap.size+1)),.map (some (w1.heap.size+1+1))] 169))/\
    (BS w4 w1.heap.size 0 (λ _=>none)/\BS w4 (w1.heap.size+1) 0 (λ _=>none)/\BS w4 (w1.heap.size+1+1) 0 (λ _=>none))/\
    w4.heap[w1.heap.size+1+1+1]?=some (.cells #[.map (some w1.heap.size),.map (some (w1.heap.size+1)),.map (some (w1.heap.size+1+1))] 169 (0,0))/\w4.heap.size=w1.heap.size+4/\Kp Aa w1 w4:=by
  refine⟨_,rfl,⟨?_,?_,?_⟩,?_,by simp,(((Kr _ w1).alloc _).alloc _).alloc _ |>.alloc _⟩
  . exact(BS.made w1).keep (S:=Aa) ((((Kr _ _).alloc _).alloc _).alloc _) id
  . have:=(BS.made (w1.alloc (.map #[] 0))).keep (S:=Aa) (((Kr _ _).alloc (.map #[] 0)).alloc (.cells #[.map (some w1.heap.size),.map (some (w1.heap.size+1)),.map (some (w1.heap.size+1+1))] 169)) id
    rwa [show (w1.alloc (.map #[] 0)).heap.size=w1.heap.size+1 by simp] at this
  . have:=(BS.made ((w1.alloc (.map #[] 0)).alloc (.map #[] 0))).keep (S:=Aa) ((Kr _ _).alloc (.cells #[.map (some w1.heap.size),.map (some (w1.heap.size+1)),.map (some (w1.heap.size+1+1))] 169)) id
    rwa [show ((w1.alloc (.map #[] 0)).alloc (.map #[] 0)).heap.size=w1.heap.size+1+1 by simp] at this
  . have:=wN (((w1.alloc (.map #[] 0)).alloc (.map #[] 0)).alloc (.map #[] 0)) (.cells #[.map (some w1.heap.size),.map (some (w1.heap.size+1)),.map (some (w1.heap.size+1+1))] 169)
    rwa [show (((w1.alloc (.map #[] 0)).alloc (.map #[] 0)).alloc (.map #[] 0)).heap.size=w1.heap.size+1+1+1 by simp] at this

theorem EdAt.nil{w:World}{mo mi c0:Nat}(h1:BS w mo 0 (λ _=>none))(h2:BS w mi 0 (λ _=>none))(hn:¬ mo=mi)(l1:mo<c0)(l2:mi<c0):EdAt w mo mi c0 []:=by
  refine⟨λ _ _=>.slice none 0 0,0,Nat.le_refl _,⟨λ s=>?_,λ s k=>?_,λ s k s' k' b h=>(by cases h),hn,λ s=>(by cases s <;> assumption)⟩⟩
  . cases s
    . exact⟨_,h2,λ k=>rfl⟩
    . exact⟨_,h1,λ k=>rfl⟩
  . cases s <;> exact World.ownsRow_nil _ _ _ _

theorem Gy{w:World}{b mo mi mf:Nat}(h:w.heap[b]?=some (.cells #[.map (some mo),.map (some mi),.map (some mf)] 169 (0,0))):w.cell? b=some (.map (some mo))/\w.cell? ⟨b,1,none⟩=some (.map (some mi))/\w.cell? ⟨b,2,none⟩=some (.map (some mf)):=by
  refine⟨?_,?_,?_⟩ <;> simp[World.cell?,h]

structure FarI(w6:World)(mf qb H:Nat)(Q:List Nat)(D:Nat->Option Nat)(wr:World):Prop where
  mp:∃ n,n+cntN D H<=H/\BS wr mf n (Gn D)
  q:QAt wr qb (qb+1) Q
  le:Q.length+cntN D H<=H
  lt:∀ g d,D g=some d->g<H/\d+cntN D H<=H
  kp:Kp (λ b=>b=mf) w6 wr
  z:qb<wr.heap.size

theorem FarI.Ac{w6 wr w':World}{mf qb H:Nat}{Q:List Nat}{D:Nat->Option Nat}(h:FarI w6 mf qb H Q D wr)(k:Kp Aa wr w'):FarI w6 mf qb H Q D w':=by
  obtain⟨n,hn,hm⟩:=h.mp
  exact⟨⟨n,hn,hm.keep k id⟩,h.q.Ac k,h.le,h.lt,h.kp.trans k (λ _ _ h=>h.elim),Nat.lt_of_lt_of_le h.z k.size⟩

theorem FarI.step{w6 wr w1 w2:World}{mf qb H g d n:Nat}{Q:List Nat}{D:Nat->Option Nat}(h:FarI w6 mf qb H Q D wr)(hg:D g=none)(hgH:g<H)(hd:d+cntN D H<=H+1)(h0:0<cntN D H->d+cntN D H<=H+1)(hn:n+cntN D H<=H)
    (m1:BS w1 mf (n+1) (λ x=>if x=g then some (.int .i64 d) else Gn D x)) (k1:Kp (λ k=>k=mf) wr w1) (q2:QAt w2 qb (qb+1) (Q++[g])) (k2:Kp (λ k=>k=qb\/qb+1<=k) w1 w2) (hq:mf<qb) (hw:w6.heap.size<=qb):FarI w6 mf qb H (Q++[g]) (GG D g d) w2:=by
  have hc:=cntN_upd (d:=d) hg hgH
  have hle:=h.le
  refine⟨⟨n+1,by omega,?_⟩,q2,by simp;omega,λ x y hx=>?_,(h.kp.trans k1 (λ _ _ h=>h)).trans k2 (λ i hi h=>by omega),?_⟩
  . rw[farV_upd]
    exact m1.keep k2 (λ h=>by omega)
  . unfold GG at hx
    by_cases e:x=g
    . rw[if_pos e] at hx
      injection hx with hx
      subst hx
      exact⟨by omega,by omega⟩
    . rw[if_neg e] at hx
      have:=h.lt x y hx
      exact⟨this.1,by omega⟩
  . exact Nat.lt_of_lt_of_le (Nat.lt_of_lt_of_le h.z k1.size) k2.size

theorem FarI.start{w6 wr:World}{mf qb H:Nat}(hm:BS wr mf 0 (λ _=>none))(hq:QAt wr qb (qb+1) [])(k:Kp (λ b=>b=mf) w6 wr)(hz:qb<wr.heap.size):FarI w6 mf qb H [] (λ _=>none) wr:=
  ⟨⟨0,by have:=cntN_le (λ _=>none) H;omega,hm⟩,hq,by have:=cntN_le (λ _=>none) H;simpa using this,λ g d h=>(by cases h),k,hz⟩

theorem QPop_any(b c0:Nat)(Q:List Nat)(w:World)(h:QAt w b c0 Q):
    Calls prog 141 #[.pointer (some b)] w λ e w'=>∃ (is:Bool) (x:Nat) (Q':List Nat),e=.returned (.tuple #[x,.bool is])/\QAt w' b c0 Q'/\Kp (λ k=>k=b) w w'/\((is=false/\Q=[]/\Q'=[])\/(is=true/\Q=x::Q')):=by
  cases Q with
  |nil=>exact (QPop_none b c0 w h).mono λ e w' ⟨h1,h2⟩=>⟨false,0,[],h1,h.Ac h2,h2.Aw _,.inl ⟨rfl,rfl,rfl⟩⟩
  |cons x Q=>exact (QPop_some b c0 x Q w h).mono λ e w' ⟨h1,h2,h3⟩=>⟨true,x,Q,h1,h2,h3,.inr ⟨rfl,rfl⟩⟩

theorem FarI.popped{w6 wr w':World}{mf qb H:Nat}{Q Q':List Nat}{D:Nat->Option Nat}(h:FarI w6 mf qb H Q D wr)(hq:QAt w' qb (qb+1) Q')(hl:Q'.length<=Q.length)(k:Kp (λ k=>k=qb) wr w')(hm:mf<qb)(hw:w6.heap.size<=qb):FarI w6 mf qb H Q' D w':=by
  obtain⟨n,hn,hm'⟩:=h.mp
  exact⟨⟨n,hn,hm'.keep k (λ h=>by omega)⟩,hq,by have:=h.le;omega,h.lt,h.kp.trans k (λ i hi h=>by omega),Nat.lt_of_lt_of_le h.z k.size⟩

def BfsAt(es:List (Nat×Nat×Nat))(ns:List Nat)(w6:World)(mf qb H:Nat)(x15 x16:Value)(wr:World)(k:Nat):Prop:=
  ∃ x b Q D,x15=.int .i64 ((x:Nat):Int)/\x16=.bool b/\FarI w6 mf qb H Q D wr/\(b=true->∃ m,D x=some m/\BI es ns (Gw es x) m Q D)/\(b=false->Gg es ns D)/\k=2*cntN D H+Q.length+(if b=true then 1 else 0)

theorem BfsAt.pop{es:List (Nat×Nat×Nat)}{ns:List Nat}{w6 wr w':World}{mf qb H x lo:Nat}{is:Bool}{Q Q':List Nat}{D:Nat->Option Nat}(h:FarI w6 mf qb H Q D wr)(hb:BI es ns [] lo Q D)(hq:QAt w' qb (qb+1) Q')(k:Kp (λ k=>k=qb) wr w')(hm:mf<qb)(hw:w6.heap.size<=qb)
    (hc:(is=false/\Q=[]/\Q'=[])\/(is=true/\Q=x::Q')):∃ j,j<=2*cntN D H+Q.length/\BfsAt es ns w6 mf qb H (.int .i64 ((x:Nat):Int)) (.bool is) w' j:=by
  rcases hc with ⟨rfl,rfl,rfl⟩|⟨rfl,rfl⟩
  . exact⟨_,Nat.le_refl _,x,false,[],D,rfl,rfl,h.popped hq (Nat.le_refl _) k hm hw,λ e=>(by cases e),λ _=>hb.dist,by simp⟩
  . obtain⟨m,h1,h2⟩:=hb.pop
    exact⟨_,Nat.le_refl _,x,true,Q',D,rfl,rfl,h.popped hq (by simp) k hm hw,λ _=>⟨m,h1,h2⟩,λ e=>(by cases e),by simp;omega⟩

def EdLoop(w5:World)(mo mi c0:Nat)(es:List (Nat×Nat×Nat))(x33:Value)(j:Nat)(wr:World):Prop:=
  x33=.int .i64 j/\j<=es.length/\EdAt wr mo mi c0 (es.take j)/\Kp (λ b=>b=mo\/b=mi\/c0<=b) w5 wr

set_option maxRecDepth 20000 in
theorem WOf_at(P:Sp)(W:Nat->Nat)(f:Nat->Bool)(w:World)(cs:List Cel)(hsp:SpaceAt w P W f)(hc:CellsAt P W cs)(hst:∀ i,i<P.n/2->f i=Ak cs i)(hms:∀ x∈P.ts,x.m<18446744073709551616)(v:Value)(xs:List Int)(hx:IntsIn w v xs)(hxl:xs.length<=65536):
    Calls prog 83 #[.pointer (some P.s),v] w (WOfPost (AP P.ts W cs) (CL cs) xs w):=by
  obtain⟨va,vc,rfl⟩:=ints_slice hx
  obtain⟨H,hH⟩:∃ H,P.n/2=H:=⟨_,rfl⟩
  obtain⟨es,hes⟩:∃ es,AP P.ts W cs=es:=⟨_,rfl⟩
  obtain⟨L,hL⟩:∃ L,xs.length=L:=⟨_,rfl⟩
  have hH65:H<=65536:=by have:=hsp.bt.FQ;omega
  have HX:Sl (IntsIn w (.slice va L vc) xs):=⟨by rw[<- hL];exact hx⟩
  have HL:=sE hL
  have HSt:Sl (∀ W',Kp Aa w W'->Calls prog 122 #[.pointer (some P.s)] W' λ e w'=>∃ p q,e=.returned (.pointer (some ⟨p,0,none⟩))/\AL w' p q f H/\Kp Aa W' w'):=⟨λ W' kk=>by
    have:=Starts_at P W f W' (hsp.Ac kk)
    rw[hH] at this
    exact this.mono λ e w' ⟨p,q,h1,h2,h3,h4,h5⟩=>⟨p,q,h1,h4,h5⟩⟩
  have HEd:Sl (∀ W',Kp Aa w W'->Calls prog 29 #[.pointer (some P.s)] W' λ e w'=>∃ v,e=.returned v/\w'.ownsRow W'.heap.size 70 3 v es.length (Bt es)/\Kp Aa W' w'):=⟨λ W' kk=>by
    have:=Edges_at P W f cs W' (hsp.Ac kk) hc hms
    rwa [hes] at this⟩
  have HEl:Sl (es.length<=2147483648/\∀ x∈es,x.1<H/\x.2.2<H):=⟨by
    rw[<- hes,<- hH]
    exact⟨Nat.le_trans (Dv cs _) (hc.to.F8 hsp.ar.small),λ x hx=>⟨CV hc (Ep hc hst hx).1,CV hc (Ep hc hst hx).2.1⟩⟩⟩
  have HTy:Sl (∀ i,EH f H i=true ↔ ∃ g:Nat,i=(g:Int)/\CL cs g):=⟨λ i=>by
    unfold EH
    rw[Bool.and_eq_true,decide_eq_true_eq]
    constructor
    . rintro ⟨⟨h1,h2⟩,h3⟩
      refine⟨i.toNat,by omega,?_⟩
      rw[hst _ (by omega)] at h3
      exact Fj.2 h3
    . rintro ⟨g,rfl,h⟩
      have:=CV hc h
      refine⟨by omega,?_⟩
      rw[Int.toNat_natCast,hst _ this]
      exact Fj.1 h⟩
  rw[hes]
  have HT:Sl (∀ g,CL cs g->g<H):=⟨λ g h=>by rw[<- hH];exact CV hc h⟩
  obtain⟨T,hT⟩:∃ T,CL cs=T:=⟨_,rfl⟩
  rw[hT] at HTy HT ⊢
  rw[hL]
  have hL65:L<=65536:=by omega
  clear hsp hc hst hms hx hL hH hes hT
  go_enter func83,ntmps83
  go_wp2_with fail
  refine(HSt.o _ (Kr _ _)).mono ?_
  rintro e w1 ⟨p,q,rfl,hb,k1⟩
  have HB1:=sE hb
  have HK1:=sE k1
  clear hb k1
  have hmm:=@run_makeMap prog
  go_wp2_with fail
  obtain⟨w4,hw4,⟨hm0,hm1,hm2⟩,hg4,hz4,k4⟩:=graph_new w1
  rw[<- hw4]
  clear hw4 hmm
  obtain⟨mo,hmo⟩:∃ m,w1.heap.size=m:=⟨_,rfl⟩
  have hw1:=HK1.o.size
  have hp1:=HB1.o.lt_p'
  have hq1:=HB1.o.lt_q'
  rw[hmo] at hm0 hm1 hm2 hg4 hz4 hp1 hq1 hw1 ⊢
  obtain⟨mi,hmi⟩:∃ m,mo+1=m:=⟨_,rfl⟩
  rw[hmi] at hm1 hm2 hg4 ⊢
  obtain⟨mf,hmf⟩:∃ m,mi+1=m:=⟨_,rfl⟩
  rw[hmf] at hm2 hg4 ⊢
  obtain⟨gb,hgb⟩:∃ m,mf+1=m:=⟨_,rfl⟩
  rw[hgb] at hg4 ⊢
  have K4:Sl (Kp Aa w w4):=⟨HK1.o.then' k4⟩
  have HB4:Sl (AL w4 p q f H):=⟨HB1.o.keep k4 id id⟩
  refine(HEd.o w4 K4.o).mono ?_
  rintro e w5 ⟨ev,rfl,he,k5⟩
  obtain⟨ea,ec,rfl⟩:=Aq he
  obtain⟨EL,hEL⟩:∃ n,es.length=n:=⟨_,rfl⟩
  rw[hEL] at he ⊢
  have hz5:=k5.size
  obtain⟨c0,hc0⟩:∃ c,w5.heap.size=c:=⟨_,rfl⟩
  rw[hc0] at hz5
  have HE5:Sl (w5.ownsRow w4.heap.size 70 3 (.slice ea EL ec) EL (Bt es)):=⟨he⟩
  have HEL:Sl (es.length=EL):=⟨hEL⟩
  have HG5:Sl (w5.heap[gb]?=some (.cells #[.map (some mo),.map (some mi),.map (some mf)] 169 (0,0))):=⟨k5.at_ hg4 id⟩
  have HM5:Sl (BS w5 mf 0 (λ _=>none)):=⟨hm2.keep k5 id⟩
  have HD5:Sl (EdAt w5 mo mi c0 []):=⟨EdAt.nil (hm0.keep k5 id) (hm1.keep k5 id) (by omega) (by omega) (by omega)⟩
  have HB5:Sl (AL w5 p q f H):=⟨HB4.o.keep k5 id id⟩
  have HK5:Sl (Kp Aa w w5):=⟨K4.o.then' k5⟩
  have HC5:Sl (w5.heap.size=c0):=⟨hc0⟩
  have HZ:Sl (w.heap.size<=mo/\p<mo/\q<mo/\w4.heap.size=mo+4/\mo+4<=c0):=⟨⟨hw1,hp1,hq1,hz4,by omega⟩⟩
  have hEL2:EL<=2147483648:=by have:=HEl.o.1;omega
  clear he hEL hg4 hm0 hm1 hm2 k5 k4 hc0 hz5 hz4 hp1 hq1 hw1 hmo HB4 K4
  go_wp2_with fail
  go_loopw [33] (λ x33 wr=>∃ j,EdLoop w5 mo mi c0 es x33 j wr) (λ x33 wr=>EL-(intOf x33).toNat)
  case atStart=>exact ⟨0,rfl,Nat.zero_le _,HD5.o,Kr _ _⟩
  case round=>
    obtain⟨j,rfl,hj,hEd,hkk⟩:=hrel
    rw[HEL.o] at hj
    have HKK:=sE hkk
    have HEd2:=sE hEd
    have hzr:=hkk.size
    rw[HC5.o] at hzr
    have hrow:=Af HE5.o hkk (λ b hb h=>by have:=Ad HE5.o hb;have:=HZ.o;have:=HC5.o;omega)
    have hgr:=hkk.at_ HG5.o (λ h=>by have:=HZ.o;omega)
    obtain⟨gc0,gc1,gc2⟩:=Gy hgr
    by_cases hjl:j<EL
    . have hjl':(j:Int)<(EL:Int):=by omega
      obtain⟨x,hx⟩:∃ x,es[j]?=some x:=⟨es[j]'(by rw[HEL.o];exact hjl),by simp⟩
      have hrowE:Dl wr (.slice ea EL ec) es:=Dl.Bc (base:=w4.heap.size) (by rw[HEL.o];exact hrow)
      obtain⟨ea',ec',hea,hcells⟩:=hrowE
      obtain⟨eb,heb,heb0,x0,x1,x2⟩:=hcells j x hx
      have hea2:ea=some ⟨eb,0,none⟩:=by injection hea with h1;rw [h1];exact heb
      subst hea2
      obtain⟨vs,n,hn,hGr⟩:=hEd
      have hxl:=HEl.o.2 x (List.mem_of_getElem? hx)
      have HTk:Sl (es.take (j+1)=es.take j++[x]):=⟨by rw[List.take_add_one,hx];rfl⟩
      have htl:(es.take j).length=j:=by rw[List.length_take,HEL.o];omega
      rw[htl] at hn
      clear hcells hea heb hrow hkk hx
      go_wp2_with fail
      obtain⟨wA,hwA⟩:∃ wA,wA=wr.alloc (.cells #[x.1,x.2.1,x.2.2] 70):=⟨_,rfl⟩
      have kA:Kp Aa wr wA:=by rw[hwA];exact (Kr _ wr).alloc _
      have bA:wA.heap[wr.heap.size]?=some (.cells #[x.1,x.2.1,x.2.2] 70 (0,0)):=by rw[hwA];exact wN wr _
      have zA:=kA.size
      rw[<- hwA]
      obtain⟨xb,hxb⟩:∃ b,wr.heap.size=b:=⟨_,rfl⟩
      rw[hxb] at bA zA hzr ⊢
      have hgA:=kA.at_ hgr id
      obtain⟨g0,g1,g2⟩:=Gy hgA
      obtain⟨e0,e1,e2⟩:=cells3 bA
      have hGA:=hGr.keep kA (λ _ h=>h) (λ _ _ _ h=>h)
      have hgz:gb<c0:=by have:=HZ.o;omega
      have hmoz:mo<c0/\mi<c0:=by have:=HZ.o;omega
      clear hwA bA x0 x1 x2 gc0 gc1 gc2 hgr hgA
      obtain⟨pva,pvc,phv⟩:=Aq (hGA.row true x.1)
      have phl:∀ W',Kp Aa wA W'->(Instr.lookup 166 (.map (some mo)) (.int .i64 x.1) false).run prog W'=.ok (.slice pva ((lsE (es.take j)) true x.1).length pvc) W':=λ W' kk=>by
        rw[<- phv]
        exact(hGA.keep kk (λ _ h=>h) (λ _ _ _ h=>h)).look true (by omega) Gf (Gp _)
      obtain⟨pN,phN⟩:∃ N,((lsE (es.take j)) true x.1).length=N:=⟨_,rfl⟩
      have pHN:Sl (pN<=EL):=⟨by rw[<- phN];have:=lsE_len (es.take j) true x.1;have:=List.length_take_le j es;omega⟩
      have phNl:=pHN.o
      rw[phN] at phl phv
      refine wp_region_held_drew (S:=λ w'=>w'.cell? gb=some (.map (some mo))/\w'.cell? ⟨gb,1,none⟩=some (.map (some mi))/\w'.cell? xb=some (.int .i64 x.1)/\w'.cell? ⟨xb,1,none⟩=some (.int .i64 x.2.1)/\w'.cell? ⟨xb,2,none⟩=some (.int .i64 x.2.2)) (by kernel_rfl) ?_ (λ qZ=>?_)
      . (try dsimp only);(exact ⟨g0,g1,e0,e1,e2⟩)
      refine Ap 0 ?_;refine Ap 1 ?_;refine Ap 2 ?_;refine Ap 3 ?_;refine Ap 4 ?_;refine Ap 5 ?_;refine Ap 6 ?_;refine Ap 7 ?_;refine Ap 8 ?_
      try simp only[AB]
      refine Ap 9 ?_;refine Ap 10 ?_;refine Ap 11 ?_;refine Ap 13 ?_
      try simp only[AB]
      have kd:Kp Aa wA wA.drew:=(Kr _ _).drew
      have ke:Kp Aa wA (wA.alloc (.cells #[x.1,x.2.1,x.2.2] 70)).drew:=((Kr _ _).alloc _).drew
      have pl0:=phl _ kd
      have pl1:=phl _ ke
      refine Bp [12,14] ?_
      refine Ai rfl (λ K hK=>?_) (Ag rfl (λ K hK=>?_))
      go_simp
      refine hK _ _ ?_ (λ qZ=>?_)
      . (try dsimp only);(exact ⟨Ae kd g0,Ae kd g1,Ae kd e0,Ae kd e1,Ae kd e2⟩)
      clear hK K
      try simp only[AB]
      refine Bp [14] ?_
      refine Ag rfl (λ K hK=>?_)
      go_simp
      refine hK _ _ ?_ (λ qZ=>?_)
      . (try dsimp only);(exact ⟨Ae ke g0,Ae ke g1,Ae ke e0,Ae ke e1,Ae ke e2⟩)
      clear hK K
      try simp only[AB]
      rotate_left
      go_simp
      refine hK _ _ ?_ (λ qZ=>?_)
      . (try dsimp only);(exact ⟨Ae ke g0,Ae ke g1,Ae ke e0,Ae ke e1,Ae ke e2⟩)
      clear hK K
      try simp only[AB]
      refine Bp [12] ?_
      refine Ag rfl (λ K hK=>?_)
      go_simp
      refine hK _ _ ?_ (λ qZ=>?_)
      . (try dsimp only);(exact ⟨Ae ke g0,Ae ke g1,Ae ke e0,Ae ke e1,Ae ke e2⟩)
      clear hK K
      try simp only[AB]
      all_goals
        clear pl0 pl1 kd
        obtain⟨pw6,hw6⟩:∃ w6,w6=(wA.alloc (.cells #[x.1,x.2.1,x.2.2] 70)).drew:=⟨_,rfl⟩
        rw[<- hw6] at ke ⊢
        have bn:pw6.heap[wA.heap.size]?=some (.cells #[x.1,x.2.1,x.2.2] 70 (0,0)):=by rw[hw6];exact wN wA _
        clear hw6
        have o6:=Af (hGA.row true x.1) ke (λ _ _ h=>h)
        rw[phv,phN] at o6
        have hz6:=ke.size
        obtain⟨i0,hi,hz0,hz1,hz2⟩:=info_parts Gu
        refine Bp [15] ?_
        refine Ag rfl (λ K hK=>?_)
        refine CP rfl rfl (.tmp 49) (.tmp 51) 47 rfl c0 70 i0 _ 3 24 EB hi hz0 hz1 hz2 rfl (by omega) (.slice pva pN pvc) pN _ rfl o6 ⟨wA.heap.size,0,none⟩ 1 _ [x.1,x.2.1,x.2.2] rfl rfl (World.news_of_block bn) (by intro u hu;simp at hu;rcases hu with rfl|rfl|rfl <;> rfl) (by unfold maxLen;omega) (by omega) (by omega) ?_
        intro nv pw7 hown7 hgrow hblk
        obtain⟨na,nc,rfl⟩:=Aq hown7
        clear hi hz0 hz1 hz2
        have hrb:∀ b,(Value.slice pva pN pvc).ownBlock=some b->c0<=b/\b<xb:=λ b hb=>⟨(Ad o6 hb).1,by have:=(Ad (hGr.row true x.1) (b:=b) (by rw[phv];exact hb)).2;omega⟩
        have KA:Kp (λ b=>(Value.slice pva pN pvc).ownBlock=some b) pw6 pw7:=(Kr _ pw6).grown hgrow (λ k e _=>e)
        obtain⟨pw8,hput,pG8,k78,pk8⟩:=hGA.put (by unfold maxLen;omega) true (k:=x.1) (by omega) Gf (x:=x) ke (by rw[phN];exact hown7) (by rw[phv];exact hgrow) (by rw[phv];exact hblk)
        have ng:¬ (Value.slice pva pN pvc).ownBlock=some gb:=λ h=>by have:=hrb _ h;omega
        have nx:¬ (Value.slice pva pN pvc).ownBlock=some xb:=λ h=>by have:=hrb _ h;omega
        have ag0:=KA.cell (Ae ke g0) ng
        have ag1:=KA.cell (Ae ke g1) ng
        have ae0:=KA.cell (Ae ke e0) nx
        have ae1:=KA.cell (Ae ke e1) nx
        have ae2:=KA.cell (Ae ke e2) nx
        refine hK _ _ ?_ (λ qZ=>?_)
        . (try dsimp only);(exact ⟨ag0,ag1,ae0,ae1,ae2⟩)
        clear hK K
        try simp only[AB]
        have hput':(Instr.mapUpdate 166 (.map (some mo)) (.int .i64 x.1) (.slice na (pN+1) nc)).run prog pw7=.ok () pw8:=hput
        refine Bp [16] ?_
        refine Ag rfl (λ K hK=>?_)
        go_simp
        have bg0:=k78.cell ag0 (by intro h;have h':gb=mo:=h;omega)
        have bg1:=k78.cell ag1 (by intro h;have h':gb=mo:=h;omega)
        have be0:=k78.cell ae0 (by intro h;have h':xb=mo:=h;omega)
        have be1:=k78.cell ae1 (by intro h;have h':xb=mo:=h;omega)
        have be2:=k78.cell ae2 (by intro h;have h':xb=mo:=h;omega)
        refine hK _ _ ?_ (λ qZ=>?_)
        . (try dsimp only);(exact ⟨bg0,bg1,be0,be1,be2⟩)
        clear hK K
        try simp only[AB]
        refine wpAnyH_done (by kernel_rfl) ?_ _
        have KK8:Kp (λ b=>b=mo\/c0<=b) wr pw8:=(kA.Aw _).trans pk8 (λ b hb h=>by
          rcases h with h|h
          . exact .inl h
          . rw[phv] at h;exact .inr (hrb b h).1)
        have zz8:=k78.size
        have z67:=KA.size
        have hc8:c0<=pw8.heap.size:=by omega
        clear ag0 ag1 ae0 ae1 ae2 hput hput' k78 pk8 KA ng nx hrb hown7 hgrow hblk bn o6 ke hz6 qZ z67 i0
        go_wp2_with fail
        obtain⟨qva,qvc,qhv⟩:=Aq (pG8.row false x.2.2)
        have qhl:∀ W',Kp Aa pw8 W'->(Instr.lookup 166 (.map (some mi)) (.int .i64 x.2.2) false).run prog W'=.ok (.slice qva ((updG (lsE (es.take j)) true x.1 (lsE (es.take j) true x.1++[x])) false x.2.2).length qvc) W':=λ W' kk=>by
          rw[<- qhv]
          exact(pG8.keep kk (λ _ h=>h) (λ _ _ _ h=>h)).look false (by omega) Gf (Gp _)
        obtain⟨qN,qhN⟩:∃ N,((updG (lsE (es.take j)) true x.1 (lsE (es.take j) true x.1++[x])) false x.2.2).length=N:=⟨_,rfl⟩
        have qHN:Sl (qN<=EL):=⟨by rw[<- qhN,Gi _ _ (λ h=>by cases h.1)];have:=lsE_len (es.take j) false x.2.2;have:=List.length_take_le j es;omega⟩
        have qhNl:=qHN.o
        rw[qhN] at qhl qhv
        refine wp_region_held_drew (S:=λ w'=>w'.cell? gb=some (.map (some mo))/\w'.cell? ⟨gb,1,none⟩=some (.map (some mi))/\w'.cell? xb=some (.int .i64 x.1)/\w'.cell? ⟨xb,1,none⟩=some (.int .i64 x.2.1)/\w'.cell? ⟨xb,2,none⟩=some (.int .i64 x.2.2)) (by kernel_rfl) ?_ (λ qZ=>?_)
        . (try dsimp only);(exact ⟨bg0,bg1,be0,be1,be2⟩)
        refine Ap 0 ?_;refine Ap 1 ?_;refine Ap 2 ?_;refine Ap 3 ?_;refine Ap 4 ?_;refine Ap 5 ?_;refine Ap 6 ?_;refine Ap 7 ?_;refine Ap 8 ?_
        try simp only[AB]
        refine Ap 9 ?_;refine Ap 10 ?_;refine Ap 11 ?_;refine Ap 13 ?_
        try simp only[AB]
        have kd:Kp Aa pw8 pw8.drew:=(Kr _ _).drew
        have ke:Kp Aa pw8 (pw8.alloc (.cells #[x.1,x.2.1,x.2.2] 70)).drew:=((Kr _ _).alloc _).drew
        have ql0:=qhl _ kd
        have ql1:=qhl _ ke
        refine Bp [12,14] ?_
        refine Ai rfl (λ K hK=>?_) (Ag rfl (λ K hK=>?_))
        go_simp
        refine hK _ _ ?_ (λ qZ=>?_)
        . (try dsimp only);(exact ⟨Ae kd bg0,Ae kd bg1,Ae kd be0,Ae kd be1,Ae kd be2⟩)
        clear hK K
        try simp only[AB]
        refine Bp [14] ?_
        refine Ag rfl (λ K hK=>?_)
        go_simp
        refine hK _ _ ?_ (λ qZ=>?_)
        . (try dsimp only);(exact ⟨Ae ke bg0,Ae ke bg1,Ae ke be0,Ae ke be1,Ae ke be2⟩)
        clear hK K
        try simp only[AB]
        rotate_left
        go_simp
        refine hK _ _ ?_ (λ qZ=>?_)
        . (try dsimp only);(exact ⟨Ae ke bg0,Ae ke bg1,Ae ke be0,Ae ke be1,Ae ke be2⟩)
        clear hK K
        try simp only[AB]
        refine Bp [12] ?_
        refine Ag rfl (λ K hK=>?_)
        go_simp
        refine hK _ _ ?_ (λ qZ=>?_)
        . (try dsimp only);(exact ⟨Ae ke bg0,Ae ke bg1,Ae ke be0,Ae ke be1,Ae ke be2⟩)
        clear hK K
        try simp only[AB]
        all_goals
          clear ql0 ql1 kd
          obtain⟨qw6,hw6⟩:∃ w6,w6=(pw8.alloc (.cells #[x.1,x.2.1,x.2.2] 70)).drew:=⟨_,rfl⟩
          rw[<- hw6] at ke ⊢
          have bn:qw6.heap[pw8.heap.size]?=some (.cells #[x.1,x.2.1,x.2.2] 70 (0,0)):=by rw[hw6];exact wN pw8 _
          clear hw6
          have o6:=Af (pG8.row false x.2.2) ke (λ _ _ h=>h)
          rw[qhv,qhN] at o6
          have hz6:=ke.size
          obtain⟨i0,hi,hz0,hz1,hz2⟩:=info_parts Gu
          refine Bp [15] ?_
          refine Ag rfl (λ K hK=>?_)
          refine CP rfl rfl (.tmp 65) (.tmp 67) 47 rfl c0 70 i0 _ 3 24 EB hi hz0 hz1 hz2 rfl (by omega) (.slice qva qN qvc) qN _ rfl o6 ⟨pw8.heap.size,0,none⟩ 1 _ [x.1,x.2.1,x.2.2] rfl rfl (World.news_of_block bn) (by intro u hu;simp at hu;rcases hu with rfl|rfl|rfl <;> rfl) (by unfold maxLen;omega) (by omega) (by omega) ?_
          intro nv qw7 hown7 hgrow hblk
          obtain⟨na,nc,rfl⟩:=Aq hown7
          clear hi hz0 hz1 hz2
          have hrb:∀ b,(Value.slice qva qN qvc).ownBlock=some b->c0<=b/\b<xb:=λ b hb=>⟨(Ad o6 hb).1,by have:=(Ad (hGr.row false x.2.2) (b:=b) (by rw[Gi _ _ (λ h=>by cases h.1)] at qhv;rw [qhv];exact hb)).2;omega⟩
          have KA:Kp (λ b=>(Value.slice qva qN qvc).ownBlock=some b) qw6 qw7:=(Kr _ qw6).grown hgrow (λ k e _=>e)
          obtain⟨qw8,hput,qG8,k78,qk8⟩:=pG8.put (by unfold maxLen;omega) false (k:=x.2.2) (by omega) Gf (x:=x) ke (by rw[qhN];exact hown7) (by rw[qhv];exact hgrow) (by rw[qhv];exact hblk)
          have ng:¬ (Value.slice qva qN qvc).ownBlock=some gb:=λ h=>by have:=hrb _ h;omega
          have nx:¬ (Value.slice qva qN qvc).ownBlock=some xb:=λ h=>by have:=hrb _ h;omega
          have ag0:=KA.cell (Ae ke bg0) ng
          have ag1:=KA.cell (Ae ke bg1) ng
          have ae0:=KA.cell (Ae ke be0) nx
          have ae1:=KA.cell (Ae ke be1) nx
          have ae2:=KA.cell (Ae ke be2) nx
          refine hK _ _ ?_ (λ qZ=>?_)
          . (try dsimp only);(exact ⟨ag0,ag1,ae0,ae1,ae2⟩)
          clear hK K
          try simp only[AB]
          have hput':(Instr.mapUpdate 166 (.map (some mi)) (.int .i64 x.2.2) (.slice na (qN+1) nc)).run prog qw7=.ok () qw8:=hput
          refine Bp [16] ?_
          refine Ag rfl (λ K hK=>?_)
          go_simp
          have bg0:=k78.cell ag0 (by intro h;have h':gb=mi:=h;omega)
          have bg1:=k78.cell ag1 (by intro h;have h':gb=mi:=h;omega)
          have be0:=k78.cell ae0 (by intro h;have h':xb=mi:=h;omega)
          have be1:=k78.cell ae1 (by intro h;have h':xb=mi:=h;omega)
          have be2:=k78.cell ae2 (by intro h;have h':xb=mi:=h;omega)
          refine hK _ _ ?_ (λ qZ=>?_)
          . (try dsimp only);(exact ⟨bg0,bg1,be0,be1,be2⟩)
          clear hK K
          try simp only[AB]
          refine wpAnyH_done (by kernel_rfl) ?_ _
          have KK9:Kp (λ b=>b=mo\/b=mi\/c0<=b) wr qw8:=(KK8.mono λ b _ h=>h.elim .inl (λ h=>.inr (.inr h))).trans qk8 (λ b hb h=>by
            rcases h with h|h
            . exact .inr (.inl h)
            . rw[qhv] at h;exact .inr (.inr (hrb b h).1))
          have HE9:Sl (EdAt qw8 mo mi c0 (es.take (j+1))):=⟨by
            rw[HTk.o]
            refine⟨_,_,?_,by rw[<- lsE_add];exact qG8⟩
            rw[List.length_append,htl]
            simp
            omega⟩
          clear ag0 ag1 ae0 ae1 ae2 bg0 bg1 be0 be1 be2 hput hput' k78 qk8 KA ng nx hrb hown7 hgrow hblk bn o6 ke hz6 qZ
          go_wp2
          exact⟨⟨j+1,by go_num,by rw[HEL.o];omega,HE9.o,HKK.o.trans KK9 (λ b _ h=>h)⟩,by simp only[intOf];omega⟩
    . have hjl':¬ (j:Int)<(EL:Int):=by omega
      obtain rfl:j=EL:=by omega
      have HEF:Sl (EdAt wr mo mi c0 es):=⟨by
        have:=hEd
        rwa [List.take_of_length_le (by rw[HEL.o];omega)] at this⟩
      have hz:=HZ.o
      have HM6:Sl (BS wr mf 0 (λ _=>none)):=⟨HM5.o.keep hkk (λ h=>by omega)⟩
      have HB6:Sl (AL wr p q f H):=⟨HB5.o.keep hkk (λ h=>by omega) (λ h=>by omega)⟩
      have HG6:=sE hgr
      have HK6:Sl (Kp Aa w wr):=⟨HK5.o.trans hkk (λ b hb h=>by omega)⟩
      obtain⟨w6,rfl⟩:∃ w6,w6=wr:=⟨_,rfl⟩
      clear hgr gc0 gc1 gc2 hrow hkk hEd HEd2 HE5 HG5 HM5 HD5 HB5 HK5 HC5 HKK
      go_wp2_with fail
      obtain⟨wq,hwq⟩:∃ wq,wq=w6.alloc (.cells #[.slice none 0 0] 237):=⟨_,rfl⟩
      obtain⟨qb,hqb⟩:∃ b,w6.heap.size=b:=⟨_,rfl⟩
      have kq:Kp Aa w6 wq:=by rw[hwq];exact (Kr _ w6).alloc _
      have hQ:QAt wq qb (qb+1) []:=by rw[hwq,<- hqb];exact QAt.new w6 _ (Nat.lt_succ_self _)
      have hzq:wq.heap.size=qb+1:=by rw[hwq,<- hqb];simp
      try rw[<- hwq]
      try rw[hqb]
      have HF0:Sl (FarI w6 mf qb H [] (λ _=>none) wq):=⟨FarI.start (HM6.o.keep kq id) hQ (kq.Aw _) (by omega)⟩
      have HQ6:Sl (w6.heap.size=qb):=⟨hqb⟩
      have hmq:mf<qb/\gb<qb/\mo+4<=c0/\c0<=qb:=by omega
      clear hwq hQ hzq kq HM6 hqb
      go_loopw [72] (λ x72 wr=>∃ (i:Nat) (ns Q:List Nat) (D:Nat->Option Nat),x72=.int .i64 (i:Nat)/\i<=L/\xs.take i=ns.map (λ g:Nat=>(g:Int))/\(∀ g∈ns,T g)/\RI ns Q D/\FarI w6 mf qb H Q D wr) (λ x72 wr=>L-(intOf x72).toNat)
      case atStart=>exact ⟨0,[],[],λ _=>none,rfl,Nat.zero_le _,by simp,λ g h=>(by simp at h),RI.init,HF0.o⟩
      case round=>
        obtain⟨i,ns,Q,D,rfl,hi,htk,hns,hRI,hF⟩:=hrel
        obtain⟨wo,rfl⟩:∃ wo:World,wo=wr:=⟨_,rfl⟩
        have HRI:=sE hRI
        have HF:=sE hF
        have HNs:=sE hns
        have HTk:=sE htk
        have HKw:Sl (Kp Aa w wo):=⟨HK6.o.trans hF.kp (λ b hb h=>by omega)⟩
        have hB:=HB6.o.keep hF.kp (λ h=>by omega) (λ h=>by omega)
        by_cases hil:i<L
        . have hil':(i:Int)<(L:Int):=by omega
          obtain⟨r,hr⟩:∃ r,xs.getD i 0=r:=⟨_,rfl⟩
          have hxr:xs[i]?=some r:=by
            rw[List.getD_eq_getElem?_getD] at hr
            rw[List.getElem?_eq_getElem (by rw[HL.o];exact hil)] at hr ⊢
            rw[<- hr];rfl
          obtain⟨a',c',hac,hcl⟩:=HX.o.Ac HKw.o
          obtain⟨xb,xo,hxa,hxlt,hxc⟩:=hcl i (by rw[HL.o];exact hil)
          have ha2:va=some ⟨xb,xo,none⟩:=by injection hac with h1;rw [h1];exact hxa
          subst ha2
          have cx:=(hxc 0 (by omega)).1
          dsimp only at cx
          rw[show xo+(i*1+0)=xo+i by omega,hr] at cx
          have HHas:=sE (Has_int r H p q f wo hB)
          have HR:=sE hxr
          obtain⟨hb,hhb⟩:∃ b,EH f H r=b:=⟨_,rfl⟩
          rw[hhb] at HHas
          clear hac hcl hxa hxc hr hRI hF hns htk hB hxlt hxr
          cases hb with
          |false=>
            have HNo:Sl (¬ ∃ ns:List Nat,xs=ns.map (λ g:Nat=>(g:Int))/\∀ g∈ns,T g):=⟨λ ⟨ms,h1,h2⟩=>by
              have h3:r∈xs:=List.mem_of_getElem? HR.o
              rw[h1] at h3
              obtain⟨g,hg,rfl⟩:=List.mem_map.1 h3
              have:=(HTy.o (g:Int)).2 ⟨g,rfl,h2 g hg⟩
              rw[hhb] at this
              cases this⟩
            clear hhb
            go_wp2_with fail
            refine HHas.o.mono ?_
            rintro e w8 ⟨rfl,k8⟩
            go_wp2
            go_ret2
            exact⟨.inr ⟨HNo.o,rfl⟩,HKw.o.then' k8⟩
          |true=>
            obtain⟨g,rfl,hTg⟩:=(HTy.o r).1 hhb
            have hgH:=HT.o g hTg
            have HTg:=sE hTg
            have HTk2:Sl (xs.take (i+1)=(ns++[g]).map (λ g:Nat=>(g:Int))):=⟨by rw[List.take_add_one,HR.o,HTk.o,List.map_append];rfl⟩
            clear hhb hTg
            go_wp2_with fail
            refine HHas.o.mono ?_
            rintro e w8 ⟨rfl,k8⟩
            have HF8:=sE (HF.o.Ac k8)
            have hg8:=((HF8.o.kp).at_ HG6.o (λ h=>by omega))
            obtain⟨gc0,gc1,gc2⟩:=Gy hg8
            obtain⟨n,hn,hm⟩:=HF8.o.mp
            have hlk:=hm.lookOk (g:=g) (by omega) Gd (zeroFar _)
            cases hD:D g with
            |some d=>
              have hfv:Gn D g=some (.int .i64 d):=by unfold Gn;rw [hD];rfl
              rw[hfv] at hlk
              have HD:=sE hD
              simp only[Option.getD_some,Option.isSome_some] at hlk
              clear hD hm hfv k8 hg8
              go_wp2
              exact⟨⟨i+1,ns++[g],Q,D,by go_num,by omega,HTk2.o,λ x hx=>(List.mem_append.1 hx).elim (HNs.o x) (λ hx=>by rw[List.mem_singleton.1 hx];exact HTg.o),HRI.o.old HD.o,HF8.o⟩,by simp only[intOf];omega⟩
            |none=>
              have hfv:Gn D g=none:=by unfold Gn;rw [hD];rfl
              rw[hfv] at hlk
              have HD:=sE hD
              simp only[Option.getD_none,Option.isSome_none] at hlk
              obtain⟨w9,hput,m9,k9,z9⟩:=hm.put (by unfold maxLen;omega) (g:=g) (by omega) (.int .i64 ((0:Nat):Int)) Gd
              have hq9:QAt w9 qb (qb+1) Q:=HF8.o.q.keep k9 (λ h=>by omega) (λ b hb hl h=>by omega)
              have hz8:=HF8.o.z
              have hle8:=HF8.o.le
              have HPu:=sE (QPush_at qb (qb+1) g Q w9 hq9 (by omega) (by omega))
              have HM9:=sE m9
              have HK9:=sE k9
              have hc1:=cntN_le D H
              have hput':(Instr.mapUpdate 167 (.map (some mf)) (.int .i64 (g:Nat)) (.int .i64 0)).run prog w8=.ok () w9:=hput
              clear hD hm hfv k8 hg8 m9 k9 hq9 hput
              go_wp2_with fail
              refine HPu.o.mono ?_
              rintro e w10 ⟨rfl,hq10,k10⟩
              have HF10:Sl (FarI w6 mf qb H (Q++[g]) (GG D g 0) w10):=⟨HF8.o.step HD.o hgH (by omega) (λ _=>by omega) hn HM9.o HK9.o hq10 k10 (by omega) (by have:=HQ6.o;omega)⟩
              clear hq10 k10
              go_wp2
              exact⟨⟨i+1,ns++[g],Q++[g],GG D g 0,by go_num,by omega,HTk2.o,λ x hx=>(List.mem_append.1 hx).elim (HNs.o x) (λ hx=>by rw[List.mem_singleton.1 hx];exact HTg.o),HRI.o.new HD.o,HF10.o⟩,by simp only[intOf];omega⟩
        . have hil':¬ (i:Int)<(L:Int):=by omega
          obtain rfl:i=L:=by omega
          have HXs:Sl (xs=ns.map (λ g:Nat=>(g:Int))):=⟨by
            rw[<- htk,List.take_of_length_le (by rw[HL.o];omega)]⟩
          have HBI:Sl (BI es ns [] 0 Q D):=⟨RI.bi hRI⟩
          have HPop:=sE (QPop_any qb (qb+1) Q wo hF.q)
          clear hRI hF hns htk hB HX HF0
          go_wp2_with fail
          refine HPop.o.mono ?_
          rintro e w7 ⟨is,x,Q',rfl,hq7,k7,hc⟩
          obtain⟨k0,hk0,hBf⟩:=BfsAt.pop HF.o HBI.o hq7 k7 (by omega) (by have:=HQ6.o;omega) hc
          have HBf:=sE hBf
          clear hq7 k7 hc hBf hk0
          go_wp2_with fail
          go_loopw [15,16] (λ x15 x16 wr=>∃ k,BfsAt es ns w6 mf qb H x15 x16 wr k) (λ x15 x16 wr=>least (BfsAt es ns w6 mf qb H x15 x16 wr))
          case atStart=>exact ⟨k0,HBf.o⟩
          case round=>
            obtain⟨K0,hK0⟩:∃ K,least (BfsAt es ns w6 mf qb H u15 u16 wr)=K:=⟨_,rfl⟩
            have hst:=(Gv hrel).1
            rw[hK0] at hst
            clear hrel HF HBI HBf HPop
            have HK0:=sE hK0
            clear hK0
            obtain⟨x,b,Q,D,rfl,rfl,hF,hb1,hb2,hk⟩:=hst
            cases b with
            |false=>
              have HDi:=sE (hb2 rfl)
              have HKw:Sl (Kp Aa w wr):=⟨HK6.o.trans hF.kp (λ b hb h=>by omega)⟩
              have hgr:=hF.kp.at_ HG6.o (λ h=>by omega)
              obtain⟨n,hn,hm⟩:=hF.mp
              have hEd:=HEF.o.keep hF.kp (by omega) (by omega) (λ b hb hl h=>by omega)
              have HGp:Sl (GraphAt wr gb es D):=⟨by
                obtain⟨n1,c1,hn1,q1,q2⟩:=hEd.o true
                obtain⟨n2,c2,hn2,q3,q4⟩:=hEd.o false
                refine⟨mo,mi,mf,max n1 (max n2 n),c1,c2,hgr,⟨q1.mono (by omega),λ k=>Dl.Bc (q2 k)⟩,⟨q3.mono (by omega),λ k=>Dl.Bc (q4 k)⟩,hm.mono (by omega)⟩⟩
              clear hb1 hb2 hgr hm hEd hF
              go_wp2
              go_ret2
              exact⟨.inl ⟨ns,HXs.o,HNs.o,gb,D,rfl,HGp.o,HDi.o⟩,HKw.o⟩
            |true=>
              obtain⟨m,hDx,hBI⟩:=hb1 rfl
              have hxH:=(hF.lt x m hDx).1
              simp only[if_true] at hk
              have hgr:=hF.kp.at_ HG6.o (λ h=>by omega)
              obtain⟨gc0,gc1,gc2⟩:=Gy hgr
              obtain⟨n1,c1,hn1,q1,q2⟩:=HEF.o.o true
              have hlk:=(q1.keep hF.kp (by show ¬ mo=mf;omega)).look (g:=x) (by omega) Gf (Gp _)
              obtain⟨rv,hrv⟩:∃ v,(c1 x).getD (.slice none 0 0)=v:=⟨_,rfl⟩
              have hro:=q2 x
              rw[hrv] at hlk hro
              have hro':w6.ownsRow c0 70 3 rv (Gw es x).length (Bt (Gw es x)):=hro
              obtain⟨ra,rc,rfl⟩:=Aq hro'
              obtain⟨N,hN⟩:∃ N,(Gw es x).length=N:=⟨_,rfl⟩
              have hNl:N<=2147483648:=by
                have h1:=HEl.o.1
                have h2:(Gw es x).length<=es.length:=List.length_filter_le _ _
                omega
              rw[hN] at hlk hro'
              have HN:=sE hN
              have HRo:=sE hro'
              have HF:=sE hF
              have HBI:=sE hBI
              have HDx:=sE hDx
              have HKo:=sE hk
              have hlk':(Instr.lookup 166 (.map (some mo)) (.int .i64 (x:Nat)) false).run prog wr=.ok (.slice ra N rc) wr:=hlk
              clear hro hb1 hb2 hgr q1 q2 hlk hrv hro' hN hF hBI hDx hk
              obtain⟨wo,rfl⟩:∃ wo:World,wo=wr:=⟨_,rfl⟩
              go_wp2_with fail
              go_loopw [115] (λ x115 wr=>∃ (i:Nat) (Q1:List Nat) (D1:Nat->Option Nat),x115=.int .i64 (i:Nat)/\i<=N/\FarI w6 mf qb H Q1 D1 wr/\D1 x=some m/\BI es ns ((Gw es x).drop i) m Q1 D1/\2*cntN D1 H+Q1.length<K0) (λ x115 wr=>N-(intOf x115).toNat)
              case atStart=>exact ⟨0,Q,D,rfl,Nat.zero_le _,HF.o,HDx.o,HBI.o,by have:=HKo.o;omega⟩
              case round=>
                obtain⟨i,Q1,D1,rfl,hi,hF1,hDx1,hB1,hk1⟩:=hrel
                have hgr:=hF1.kp.at_ HG6.o (λ h=>by omega)
                obtain⟨gc0,gc1,gc2⟩:=Gy hgr
                by_cases hil:i<N
                . have hil':(i:Int)<(N:Int):=by omega
                  obtain⟨y,hy⟩:∃ y,(Gw es x)[i]?=some y:=⟨(Gw es x)[i]'(by rw[HN.o];exact hil),by simp⟩
                  have hym:=GM.1 (List.mem_of_getElem? hy)
                  have hyH:=HEl.o.2 y hym.1
                  have hdr:(Gw es x).drop i=y::(Gw es x).drop (i+1):=by
                    rw[List.drop_eq_getElem_cons (by rw[HN.o];exact hil)]
                    rw[List.getElem?_eq_getElem (by rw[HN.o];exact hil)] at hy
                    injection hy with hy
                    rw[hy]
                  rw[hdr] at hB1
                  have hrow:Dl wr (.slice ra N rc) (Gw es x):=Dl.Bc (base:=c0) (by rw[HN.o];exact Af HRo.o hF1.kp (λ b hb h=>by have:=(Ad HRo.o hb).1;omega))
                  obtain⟨a',c',hac,hcells⟩:=hrow
                  obtain⟨eb,heb,heb0,y0,y1,y2⟩:=hcells i y hy
                  have hra2:ra=some ⟨eb,0,none⟩:=by injection hac with h1;rw [h1];exact heb
                  subst hra2
                  have HF1:=sE hF1
                  have HB1:=sE hB1
                  have HDx1:=sE hDx1
                  have HYm:=sE hym
                  have HK1':=sE hk1
                  clear hac hcells heb hF1 hB1 hDx1 hym hdr hy hk1
                  go_wp2_with fail
                  obtain⟨wA,hwA⟩:∃ wA,wA=wr.alloc (.cells #[y.1,y.2.1,y.2.2] 70):=⟨_,rfl⟩
                  have kA:Kp Aa wr wA:=by rw[hwA];exact (Kr _ wr).alloc _
                  have bA:wA.heap[wr.heap.size]?=some (.cells #[y.1,y.2.1,y.2.2] 70 (0,0)):=by rw[hwA];exact wN wr _
                  rw[<- hwA]
                  obtain⟨xb,hxb⟩:∃ b,wr.heap.size=b:=⟨_,rfl⟩
                  have hzw:=HF1.o.z
                  rw[hxb] at bA hzw ⊢
                  have HFA:Sl (FarI w6 mf qb H Q1 D1 wA):=⟨HF1.o.Ac kA⟩
                  have hgA:=kA.at_ hgr id
                  obtain⟨g0,g1,g2⟩:=Gy hgA
                  obtain⟨e0,e1,e2⟩:=cells3 bA
                  obtain⟨n2,hn2,hm2⟩:=HFA.o.mp
                  have hle1:=HFA.o.le
                  have hlk:∀ nq,(Instr.lookup 167 (.map (some mf)) (.int .i64 y.2.2) true).run prog (wA.drewN nq)=.ok (.tuple #[(Gn D1 y.2.2).getD (.int .i64 0),.bool (Gn D1 y.2.2).isSome]) (wA.drewN nq):=λ nq=>(hm2.keep (S:=Aa) (Kp.Ah nq) id).lookOk (g:=y.2.2) (by omega) Gd (zeroFar _)
                  have hlx:∀ W',Kp Aa wA W'->(Instr.lookup 167 (.map (some mf)) (.int .i64 (x:Nat)) false).run prog W'=.ok (.int .i64 (m:Nat)) W':=λ W' kk=>by
                    have:=(hm2.keep kk id).look (g:=x) (by omega) Gd (zeroFar _)
                    have hfx:Gn D1 x=some (.int .i64 (m:Nat)):=by unfold Gn;rw [HDx1.o];rfl
                    rwa [hfx] at this
                  clear hwA bA y0 y1 y2 gc0 gc1 gc2 kA
                  cases hD:D1 y.2.2 with
                  |some d=>
                    have hfv:Gn D1 y.2.2=some (.int .i64 d):=by unfold Gn;rw [hD];rfl
                    rw[hfv] at hlk
                    simp only[Option.getD_some,Option.isSome_some] at hlk
                    have HD:=sE hD
                    clear hD hfv hm2 hlx
                    go_quiet (fail)
                    go_wp2
                    exact⟨⟨i+1,Q1,D1,by go_num,by omega,HFA.o.Ac (Kp.Ah _),HDx1.o,HB1.o.old (by rw[HYm.o.2];exact HDx1.o) HD.o,HK1'.o⟩,by simp only[intOf];omega⟩
                  |none=>
                    have hfv:Gn D1 y.2.2=none:=by unfold Gn;rw [hD];rfl
                    rw[hfv] at hlk
                    simp only[Option.getD_none,Option.isSome_none] at hlk
                    have HD:=sE hD
                    clear hD hfv
                    go_quiet (fail)
                    obtain⟨wB,hwB⟩:∃ wB,wB=wA.drewN nq:=⟨_,rfl⟩
                    have kB:Kp Aa wA wB:=by rw[hwB];exact Kp.Ah _
                    rw[<- hwB]
                    have HFB:Sl (FarI w6 mf qb H Q1 D1 wB):=⟨HFA.o.Ac kB⟩
                    have hlx2:∀ q,(Instr.lookup 167 (.map (some mf)) (.int .i64 (x:Nat)) false).run prog (wB.drewN q)=.ok (.int .i64 (m:Nat)) (wB.drewN q):=λ q=>hlx _ (kB.then' (Kp.Ah _))
                    have g0:=Ae kB g0
                    have g2:=Ae kB g2
                    have e2:=Ae kB e2
                    have hm3:=hm2.keep kB id
                    have hzB:wB.heap.size=wA.heap.size:=by rw[hwB];rfl
                    have hdv:=(HFA.o.lt x m HDx1.o).2
                    have wr1:IntKind.i64.wrap ((m:Int)+1)=(m:Int)+1:=by rw[IntKind.wrap_i64];omega
                    clear hwB hlk hlx hm2
                    go_wp2_with fail
                    refine Br 13 (by kernel_rfl) (by kernel_rfl) ?_
                    simp only[List.take_succ_cons,List.take_zero,List.drop_succ_cons,List.drop_zero]
                    repeat (go_big_quiet_step (fail))
                    refine wpQuiet_nil ?_
                    intro _ hw'
                    obtain⟨nq,hw''⟩:=hw'
                    subst hw''
                    obtain⟨wC,hwC⟩:∃ wC,wC=wB.drewN nq:=⟨_,rfl⟩
                    have kC:Kp Aa wB wC:=by rw[hwC];exact Kp.Ah _
                    rw[<- hwC]
                    have e2:=Ae kC e2
                    obtain⟨w9,hput,m9,k9,z9⟩:=(hm3.keep kC id).put (by unfold maxLen;omega) (g:=y.2.2) (by omega) (.int .i64 ((m+1:Nat):Int)) Gd
                    have hput':(Instr.mapUpdate 167 (.map (some mf)) (.int .i64 y.2.2) (.int .i64 ((m:Int)+1))).run prog wC=.ok () w9:=by
                      have:((m+1:Nat):Int)=(m:Int)+1:=by omega
                      rw[<- this]
                      exact hput
                    have HFC:Sl (FarI w6 mf qb H Q1 D1 wC):=⟨HFB.o.Ac kC⟩
                    have hq9:QAt w9 qb (qb+1) Q1:=HFC.o.q.keep k9 (λ h=>by omega) (λ b hb hl h=>by omega)
                    have hz8:=HFC.o.z
                    have HPu:=sE (QPush_at qb (qb+1) y.2.2 Q1 w9 hq9 (by omega) (by omega))
                    have HM9:=sE m9
                    have HK9:=sE k9
                    have e29:=k9.cell e2 (λ h=>by have h':xb=mf:=h;omega)
                    have hc1:=cntN_le D1 H
                    clear hwC hlx2 hput m9 k9 hq9 hm3 e2
                    go_wp2_with fail
                    refine HPu.o.mono ?_
                    rintro e w10 ⟨rfl,hq10,k10⟩
                    have hcn:cntN (GG D1 y.2.2 (m+1)) H+1=cntN D1 H:=cntN_upd HD.o hyH.2
                    have HF10:Sl (FarI w6 mf qb H (Q1++[y.2.2]) (GG D1 y.2.2 (m+1)) w10):=⟨HFC.o.step HD.o hyH.2 (by omega) (λ _=>by omega) hn2 HM9.o HK9.o hq10 k10 (by omega) (by have:=HQ6.o;omega)⟩
                    have HBn:=sE (HB1.o.new HYm.o.1 (by rw[HYm.o.2];exact HDx1.o) HD.o)
                    have HDn:Sl (GG D1 y.2.2 (m+1) x=some m):=⟨by
                      unfold GG
                      rw[if_neg (λ h=>by have h1:=HD.o;rw [<- h,HDx1.o] at h1;cases h1)]
                      exact HDx1.o⟩
                    have HKn:Sl (2*cntN (GG D1 y.2.2 (m+1)) H+(Q1++[y.2.2]).length<K0):=⟨by
                      rw[List.length_append]
                      simp only[List.length_singleton]
                      have:=HK1'.o
                      omega⟩
                    clear hq10 k10
                    go_wp2
                    exact⟨⟨i+1,Q1++[y.2.2],GG D1 y.2.2 (m+1),by go_num,by omega,HF10.o,HDn.o,HBn.o,HKn.o⟩,by simp only[intOf];omega⟩
                . have hil':¬ (i:Int)<(N:Int):=by omega
                  obtain rfl:i=N:=by omega
                  have HBe:Sl (BI es ns [] m Q1 D1):=⟨by
                    rwa [List.drop_of_length_le (by rw[HN.o];omega)] at hB1⟩
                  have HF1:=sE hF1
                  have HPo:=sE (QPop_any qb (qb+1) Q1 wr hF1.q)
                  clear hF1 hB1 hDx1 gc0 gc1 gc2 hgr
                  go_wp2_with fail
                  refine HPo.o.mono ?_
                  rintro e w7 ⟨is,x',Q',rfl,hq7,k7,hc⟩
                  obtain⟨j',hj',hBf⟩:=BfsAt.pop HF1.o HBe.o hq7 k7 (by omega) (by have:=HQ6.o;omega) hc
                  have HBf:=sE hBf
                  clear hq7 k7 hc hBf
                  go_wp2
                  exact⟨⟨j',HBf.o⟩,Nat.lt_of_le_of_lt ((Gv ⟨j',HBf.o⟩).2 j' HBf.o) (by rw[HK0.o];omega)⟩

end

end Go.Proofs.YtfkedlgpgmaemaaGreatDoor
