/-
  Lemmas for the laws, together: TurnC, SlideP.
-/
import Derived.Test.YtmfajopmppfldaaGreatDoorQbh
import Derived.Test.YtmfajopmppfldaaGreatDoorQbg
import Derived.Test.YtmfajopmppfldaaGreatDoorQat
set_option linter.unusedVariables false
set_option maxHeartbeats 16000000
namespace Go.Proofs.YtmfajopmppfldaaGreatDoor
open Go.Proofs.Tryz
section
open Go.RowKit

structure GoodP(cs:List Cel)(es:List (Nat×Nat×Nat)):Prop where
 obj:∀ x∈es,∃ c∈cs,c.tag=1/\c.g=x.1/\c.sz=x.2.2
 le:∀ x∈es,x.2.1<=x.1
 up:es.Pairwise λ x y=>x.1<y.1
 apart:es.Pairwise λ x y=>x.2.1+x.2.2<=y.2.1\/y.2.1+y.2.2<=x.2.1

theorem GoodP.fit{cs:List Cel}{es:List (Nat×Nat×Nat)}{H:Nat}(h:GoodP cs es)(ht:Au 0 cs H){x:Nat×Nat×Nat}(hx:x∈es):x.1+x.2.2<=H/\x.2.1+x.2.2<=H/\0<x.2.2:=by
 obtain⟨c,hc,-,h2,h3⟩:=h.obj x hx
 have:=ht.mem hc
 have:=h.le x hx
 omega

theorem GoodP.uniq_to{cs:List Cel}{es:List (Nat×Nat×Nat)}{H:Nat}(h:GoodP cs es)(ht:Au 0 cs H){x y:Nat×Nat×Nat}(hx:x∈es)(hy:y∈es)(e:x.2.1=y.2.1):x=y:=by
 have hfx:=h.fit ht hx
 have hfy:=h.fit ht hy
 obtain⟨i,hi,rfl⟩:=List.mem_iff_getElem.1 hx
 obtain⟨j,hj,rfl⟩:=List.mem_iff_getElem.1 hy
 have hp:=List.pairwise_iff_getElem.1 h.apart
 by_cases e1:i=j
 .subst e1;rfl
 .rcases Nat.lt_or_gt_of_ne e1 with e2|e2
  .have:=hp i j hi hj e2;omega
  .have:=hp j i hj hi e2;omega

theorem planOf_good{cs:List Cel}{ms ps:List Nat}{H:Nat}(ht:Au 0 cs H)(hm:∀ g∈ms,CX cs g)(hp:∀ g∈ps,CX cs g):GoodP cs (BU cs ps (BQ (ms++ps)) H):=by
 have ho:∀ g∈BQ (ms++ps),CX cs g:=λ g hg=>by
  rcases List.mem_append.1 (Eg.1 hg) with h|h
  .exact hm g h
  .exact hp g h
 obtain⟨hf,hk⟩:=FJ (pins:=ps) ht (EZ _) ho
 have hs:∀ j x,(BU cs ps (BQ (ms++ps)) H)[j]?=some x->SlOk ms ps (BU cs ps (BQ (ms++ps)) H) H j x:=λ j x hx=>slides_ok ht hm hp hx
 generalize BU cs ps (BQ (ms++ps)) H=L at*
 refine⟨λ x hx=>?_,λ x hx=>?_,?_,?_⟩
 .have hx1:x.1∈BQ (ms++ps):=by rw[<- hf];exact List.mem_map.2 ⟨x,hx,rfl⟩
  obtain⟨c,hc,c1,c2⟩:=ho x.1 hx1
  have hz:=Cy ht hc c1
  rw[c2] at hz
  exact⟨c,hc,c1,c2,by rw[<- hz];exact ((hk.each x hx).1).symm⟩
 .obtain ⟨j,hj⟩:=List.mem_iff_getElem?.1 hx
  exact(hs j x hj).le
 .have:=EZ (ms++ps)
  rw[<- hf,List.pairwise_map] at this
  exact this
 .refine List.pairwise_iff_getElem.2 λ i j hi hj hij=>?_
  have hx:=hs j L[j] (List.getElem?_eq_getElem hj)
  have hy:=hs i L[i] (List.getElem?_eq_getElem hi)
  have p1:=hx.pos
  have p2:=hy.pos
  by_cases e:L[i].2.1+L[i].2.2<=L[j].2.1\/L[j].2.1+L[j].2.2<=L[i].2.1
  .exact e
  .have hq:=hx.apart (max L[i].2.1 L[j].2.1) (by omega) (by omega)
   have hmem:L[i]∈L.take j:=List.mem_iff_getElem.2 ⟨i,by rw[List.length_take];omega,by rw[List.getElem_take]⟩
   have:fullF (L.take j) (max L[i].2.1 L[j].2.1)=true:=by
    unfold fullF
    rw[List.any_eq_true]
    exact⟨L[i],hmem,by rw[decide_eq_true_eq];omega⟩
   rw[this] at hq
   cases hq

structure OkS(cs:List Cel)(es:List (Int×Int×Int))(j:Nat)(x:Int×Int×Int):Prop where
 obj:∃ c∈cs,c.tag=1/\x.1=(c.g:Nat)/\x.2.2=(c.sz:Nat)
 pos:0<=x.2.1
 le:x.2.1<=x.1
 up:∀ i y,i<j->es[i]?=some y->y.1<x.1
 free:∀ g:Nat,x.2.1<=(g:Int)->(g:Int)<x.2.1+x.2.2->Bz (es.take j) g=false

def Cs(cs:List Cel)(es:List (Int×Int×Int)):Prop:=∀ j x,es[j]?=some x->OkS cs es j x

theorem castS_at{es:List (Nat×Nat×Nat)}{j:Nat}{x:Int×Int×Int}(h:(FB es)[j]?=some x):∃ y,es[j]?=some y/\x=((y.1:Int),(y.2.1:Int),(y.2.2:Int)):=by
 unfold FB at h
 rw[List.getElem?_map] at h
 cases hy:es[j]? with
 |none=>rw [hy] at h;cases h
 |some y=>rw [hy] at h;injection h with h;exact ⟨y,rfl,h.symm⟩

theorem castS_len(es:List (Nat×Nat×Nat)):(FB es).length=es.length:=List.length_map ..

theorem GoodP.fits{cs:List Cel}{es:List (Nat×Nat×Nat)}(h:GoodP cs es):Cs cs (FB es):=by
 intro j x hx
 obtain⟨y,hy,rfl⟩:=castS_at hx
 have hym:=List.mem_of_getElem? hy
 obtain⟨c,hc,c1,c2,c3⟩:=h.obj y hym
 obtain⟨hj,hyj⟩:=gE.1 hy
 have hle:=h.le y hym
 refine⟨⟨c,hc,c1,by simp only;omega,by simp only;omega⟩,by simp only;omega,by simp only;omega,λ i z hi hz=>?_,λ g g1 g2=>?_⟩
 .obtain ⟨y',hy',rfl⟩:=castS_at hz
  obtain⟨hi',hyi⟩:=gE.1 hy'
  have:=List.pairwise_iff_getElem.1 h.up i j hi' hj hi
  rw[hyi,hyj] at this
  simp only
  omega
 .simp only at g1 g2
  unfold Bz
  rw[List.any_eq_false]
  intro z hz
  obtain⟨i,hi,e⟩:=List.mem_iff_getElem.1 hz
  rw[List.length_take] at hi
  rw[List.getElem_take] at e
  obtain⟨y',hy',rfl⟩:=castS_at (es:=es) (j:=i) (x:=z) (by rw[<- e];exact List.getElem?_eq_getElem _)
  obtain⟨hi',hyi⟩:=gE.1 hy'
  have:=List.pairwise_iff_getElem.1 h.apart i j hi' hj (by omega)
  rw[hyi,hyj] at this
  simp only[decide_eq_true_eq]
  omega

def Eu(ts:List TypR)(cs:List Cel)(g:Nat):List Nat:=
 match cs.find? (λ c=>c.tag==1&&c.g==g) with
 |some c=>Ct ts c
 |none=>[]

theorem rfG_at{ts:List TypR}{cs:List Cel}{H:Nat}{c:Cel}(ht:Au 0 cs H)(hc:c∈cs)(h1:c.tag=1):Eu ts cs c.g=Ct ts c:=by
 unfold Eu
 cases h:cs.find? (λ d=>d.tag==1&&d.g==c.g) with
 |none=>
  have:=List.find?_eq_none.1 h c hc
  simp[h1] at this
 |some d=>
  have h2:=List.find?_some h
  have h3:=List.mem_of_find?_eq_some h
  simp only[Bool.and_eq_true,beq_iff_eq] at h2
  rw[ht.only h3 hc h2.2]

theorem refsC_slot{P:Sp}{W:Nat->Nat}{cs:List Cel}{c:Cel}{s:Nat}(h:CellsAt P W cs)(hc:c∈cs)(h1:c.tag=1)(hs:s∈Ct P.ts c):2*c.g<2*c.g+1+s/\2*c.g+1+s<2*c.fin/\2*c.g+1+s<P.n:=by
 unfold Ct at hs
 cases ht:typeOf P.ts (c.ty:Nat) with
 |none=>rw [ht] at hs;cases hs
 |some x=>
  rw[ht] at hs
  obtain⟨k,wds,m⟩:=x
  exact slot_in h hc h1 ht (FK (kind_of h hc h1 ht) hs)

theorem CellsAt.Bv{P:Sp}{cs:List Cel}{c:Cel}(es:List (Nat×Nat×Nat))(hc:c∈cs)(h1:c.tag=1):∀ {ss:List Nat} {W:Nat->Nat},CellsAt P W cs->(∀ s∈ss,s∈Ct P.ts c)->CellsAt P (Bv es c.g ss W) cs
 |[],W,h,_=>h
 |s::ss,W,h,hs=>by
  have hk:=refsC_slot h hc h1 (hs s List.mem_cons_self)
  exact CellsAt.Bv es hc h1 (ss:=ss) (h.store hc hk.1 hk.2.1 _) λ t ht=>hs t (List.mem_cons_of_mem _ ht)

theorem CellsAt.BL{P:Sp}{cs:List Cel}(es:List (Nat×Nat×Nat)):∀ {xs:List (Nat×Nat×Nat)} {W:Nat->Nat},CellsAt P W cs->(∀ x∈xs,∃ c∈cs,c.tag=1/\c.g=x.1)->CellsAt P (BL es (Eu P.ts cs) xs W) cs
 |[],W,h,_=>h
 |x::xs,W,h,ho=>by
  obtain⟨c,hc,h1,h2⟩:=ho x List.mem_cons_self
  refine CellsAt.BL es (xs:=xs) ?_ λ y hy=>ho y (List.mem_cons_of_mem _ hy)
  rw[<- h2,rfG_at h.tl hc h1]
  exact h.Bv es hc h1 λ s hs=>hs

theorem toA_lt{es:List (Nat×Nat×Nat)}(h:∀ x∈es,x.2.1<=65536)(y:Nat):toA es y<18446744073709551616:=by
 unfold toA
 cases hf:es.find? (λ z=>Dk z.1==y) with
 |none=>simp
 |some z=>
  have:=h z (List.mem_of_find?_eq_some hf)
  simp only[Dk]
  omega

theorem cntT_le(es:List (Nat×Nat×Nat))(rf:Nat->List Nat){m:Nat}(hr:∀ g,(rf g).length<=m):∀ (xs:List (Nat×Nat×Nat)) (W:Nat->Nat),DK es rf xs W<=m*xs.length
 |[],W=>Nat.zero_le _
 |x::xs,W=>by
  have h1:=cntT_le es rf hr xs (Bv es x.1 (rf x.1) W)
  have h2:=cntS_le es x.1 (rf x.1) W
  have h3:=hr x.1
  rw[DK,List.length_cons,Nat.mul_succ]
  omega

end

section
open Go.RowKit

def BP(W:Nat->Nat)(d s n:Nat)(k:Nat):Nat:=if d<=k/\k<d+n then W (s+(k-d)) else W k

theorem moveW_same(W:Nat->Nat)(a n:Nat):BP W a a n=W:=funext λ k=>by
 unfold BP
 split
 .congr 1;omega
 .rfl

def AX:List (Nat×Nat×Nat)->(Nat->Nat)->(Nat->Nat)
 |[],W=>W
 |x::xs,W=>AX xs (BP W (2*x.2.1) (2*x.1) (2*x.2.2))

theorem slideW_app:∀ (a b:List (Nat×Nat×Nat)) (W:Nat->Nat),AX (a++b) W=AX b (AX a W)
 |[],b,W=>rfl
 |x::a,b,W=>slideW_app a b _

def Bl:List (Nat×Nat×Nat)->Nat
 |[]=>0
 |x::xs=>(if x.2.1=x.1 then 0 else 2*x.2.2)+Bl xs

theorem slideW_off{k:Nat}:∀ {es:List (Nat×Nat×Nat)} {W:Nat->Nat},(∀ x∈es,¬ (2*x.2.1<=k/\k<2*x.2.1+2*x.2.2))->AX es W k=W k
 |[],W,_=>rfl
 |x::xs,W,h=>by
  rw[AX,slideW_off λ y hy=>h y (List.mem_cons_of_mem _ hy),BP,if_neg (h x List.mem_cons_self)]

theorem slideW_at{x:Nat×Nat×Nat}{k:Nat}(hk:k<2*x.2.2):∀ {es:List (Nat×Nat×Nat)} {W:Nat->Nat},(∀ y∈es,y.2.1<=y.1)->(es.Pairwise λ y z=>y.1+y.2.2<=z.1)->(es.Pairwise λ y z=>y.2.1+y.2.2<=z.2.1\/z.2.1+z.2.2<=y.2.1)->x∈es->AX es W (2*x.2.1+k)=W (2*x.1+k)
 |y::ys,W,h1,h2,h3,hx=>by
  rw[List.pairwise_cons] at h2 h3
  rw[AX]
  rcases List.mem_cons.1 hx with rfl|hx
  .rw [slideW_off λ z hz=>by have:=h3.1 z hz;omega,BP,if_pos (by omega)]
   congr 1;omega
  .rw [slideW_at hk (λ z hz=>h1 z (List.mem_cons_of_mem _ hz)) h2.2 h3.2 hx,BP,if_neg]
   have:=h1 y List.mem_cons_self
   have:=h2.1 x hx
   omega

theorem GoodP.rows{cs:List Cel}{es:List (Nat×Nat×Nat)}{H:Nat}(h:GoodP cs es)(ht:Au 0 cs H):es.Pairwise λ y z=>y.1+y.2.2<=z.1:=by
 refine List.pairwise_iff_getElem.2 λ i j hi hj hij=>?_
 have hu:=List.pairwise_iff_getElem.1 h.up i j hi hj hij
 obtain⟨c,hc,c1,c2,c3⟩:=h.obj es[i] (List.getElem_mem hi)
 obtain⟨d,hd,d1,d2,d3⟩:=h.obj es[j] (List.getElem_mem hj)
 by_cases e:es[i].1+es[i].2.2<=es[j].1
 .exact e
 .have hdz:=(ht.mem hd).2.2
  have:c=d:=cell_only ht hc hd (j:=es[j].1) (by omega) (by unfold Cel.fin;omega) (by omega) (by unfold Cel.fin;omega)
  subst this
  omega

theorem GoodP.slide{cs:List Cel}{es:List (Nat×Nat×Nat)}{H:Nat}(h:GoodP cs es)(ht:Au 0 cs H){x:Nat×Nat×Nat}(hx:x∈es)(W:Nat->Nat){k:Nat}(hk:k<2*x.2.2):AX es W (2*x.2.1+k)=W (2*x.1+k):=
 slideW_at hk h.le (h.rows ht) h.apart hx

def putAt(c:Cel)(t:Nat):Cel:=⟨t,c.tag,c.ty,c.ln,c.sz⟩

def goesTo(cs:List Cel)(es:List (Nat×Nat×Nat))(t:Nat):Cel:=
 match es.find? (λ x=>x.2.1==t) with
 |some x=>match cs.find? (λ c=>c.tag==1&&c.g==x.1) with
  |some c=>putAt c t
  |none=>⟨t,0,0,0,0⟩
 |none=>⟨t,0,0,0,0⟩

theorem goesTo_at{cs:List Cel}{es:List (Nat×Nat×Nat)}{H:Nat}(h:GoodP cs es)(ht:Au 0 cs H){x:Nat×Nat×Nat}(hx:x∈es):∃ c∈cs,c.tag=1/\c.g=x.1/\c.sz=x.2.2/\goesTo cs es x.2.1=putAt c x.2.1:=by
 obtain⟨c,hc,c1,c2,c3⟩:=h.obj x hx
 refine⟨c,hc,c1,c2,c3,?_⟩
 unfold goesTo
 cases hf:es.find? (λ y=>y.2.1==x.2.1) with
 |none=>
  have:=List.find?_eq_none.1 hf x hx
  simp at this
 |some y=>
  have h1:=List.find?_some hf
  have h2:=List.mem_of_find?_eq_some hf
  have:y=x:=h.uniq_to ht h2 hx (by simpa using h1)
  subst this
  simp only
  cases hg:cs.find? (λ c=>c.tag==1&&c.g==y.1) with
  |none=>
   have:=List.find?_eq_none.1 hg c hc
   simp[c1,c2] at this
  |some d=>
   have d1:=List.find?_some hg
   have d2:=List.mem_of_find?_eq_some hg
   simp only[Bool.and_eq_true,beq_iff_eq] at d1
   rw[ht.only d2 hc (by omega)]

def goesL(cs:List Cel)(es:List (Nat×Nat×Nat))(ts:List Nat):List Cel:=ts.map (goesTo cs es)

theorem goesL_rising{cs:List Cel}{es:List (Nat×Nat×Nat)}{H:Nat}(h:GoodP cs es)(ht:Au 0 cs H):∀ {ts:List Nat} {e:Nat},(∀ t∈ts,∃ x∈es,x.2.1=t)->ts.Pairwise (· <·)->e<=H->(∀ t∈ts,e<=t)->BI e (goesL cs es ts) H
 |[],e,_,_,he,_=>he
 |t::ts,e,hm,hp,he,hl=>by
  obtain⟨x,hx,rfl⟩:=hm t List.mem_cons_self
  obtain⟨c,hc,c1,c2,c3,hg⟩:=goesTo_at h ht hx
  have hf:=h.fit ht hx
  rw[List.pairwise_cons] at hp
  show BI e (goesTo cs es x.2.1::goesL cs es ts) H
  rw[hg]
  refine⟨hl _ List.mem_cons_self,c1,by unfold putAt;simp only;omega,?_⟩
  have hfin:(putAt c x.2.1).fin=x.2.1+x.2.2:=by unfold Cel.fin putAt;simp only;omega
  rw[hfin]
  refine goesL_rising h ht (λ t ht'=>hm t (List.mem_cons_of_mem _ ht')) hp.2 hf.2.1 λ t ht'=>?_
  obtain⟨y,hy,rfl⟩:=hm t (List.mem_cons_of_mem _ ht')
  have hlt:=hp.1 _ ht'
  have hfy:=h.fit ht hy
  obtain⟨i,hi,rfl⟩:=List.mem_iff_getElem.1 hx
  obtain⟨j,hj,rfl⟩:=List.mem_iff_getElem.1 hy
  have hap:=List.pairwise_iff_getElem.1 h.apart
  by_cases e1:i=j
  .subst e1;omega
  .rcases Nat.lt_or_gt_of_ne e1 with e2|e2
   .have:=hap i j hi hj e2;omega
   .have:=hap j i hj hi e2;omega

theorem settleR_of{W:Nat->Nat}{n:Nat}{ts:List TypR}{x:Nat->Int}:∀ {os:List Cel} {i e:Nat},BI e os (n/2)->(∀ o∈os,Cb W n ts (o.g:Nat)=some o)->(∀ j o,os[j]?=some o->x (i+j)=(o.g:Nat))->Bd W n ts x i os.length e=some os
 |[],i,e,_,_,_=>rfl
 |o::os,i,e,hr,ho,hx=>by
  have h0:=hx 0 o rfl
  rw[Nat.add_zero] at h0
  have hc:=ho o List.mem_cons_self
  rw[<- h0] at hc
  rw[List.length_cons,settleR_some hc (by have:=hr.1;omega),settleR_of hr.2.2.2 (λ p hp=>ho p (List.mem_cons_of_mem _ hp)) λ j p hp=>by
   have:=hx (j+1) p (by simpa using hp)
   rw[<- this]
   congr 1
   omega]
  rfl

theorem settleW_in{k:Nat}:∀ {os:List Cel} {W:Nat->Nat} {e H:Nat} {o:Cel},BI e os H->o∈os->2*o.g<=k->k<2*o.fin->AU W e os H k=W k
 |p::os,W,e,H,o,hr,ho,h1,h2=>by
  obtain⟨r1,r2,r3,r4⟩:=hr
  rw[AU]
  have hg:AZ W e (p.g-e) k=W k:=by
   have hm:=BI.mem (o:=o) (show BI e (p::os) H from ⟨r1,r2,r3,r4⟩) ho
   unfold AZ
   split
   .rfl
   .unfold BM
    rw[if_neg]
    rcases List.mem_cons.1 ho with rfl|ho
    .omega
    .have:=(r4.mem ho).1
     unfold Cel.fin at this
     omega
  rcases List.mem_cons.1 ho with rfl|ho
  .rw [settleW_out (k:=k) r4 (by unfold Cel.fin at h2 ⊢;omega),hg]
  .rw [settleW_in r4 ho h1 h2,hg]
where
 settleW_out {k:Nat}:∀ {os:List Cel} {W:Nat->Nat} {e H:Nat},BI e os H->k<2*e->AU W e os H k=W k
  |[],W,e,H,h,hk=>by
   unfold AU AZ
   split
   .rfl
   .unfold BM
    rw[if_neg (by omega)]
  |o::os,W,e,H,⟨h1,h2,h3,h4⟩,hk=>by
   unfold AU
   rw[settleW_out h4 (by unfold Cel.fin;omega)]
   unfold AZ
   split
   .rfl
   .unfold BM
    rw[if_neg (by omega)]

end

end Go.Proofs.YtmfajopmppfldaaGreatDoor
