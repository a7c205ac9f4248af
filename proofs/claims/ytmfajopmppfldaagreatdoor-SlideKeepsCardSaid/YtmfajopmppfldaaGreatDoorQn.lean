/-
  Lemmas for the laws, together: TurnP, TurnC, TurnM, TurnOf, TurnAdr, TurnCheck, TurnW, TurnN.
-/
import Derived.Test.YtmfajopmppfldaaGreatDoorQi
import Derived.Test.YtmfajopmppfldaaGreatDoorQm
import Derived.Test.YtmfajopmppfldaaGreatDoorQh
import Derived.Test.YtmfajopmppfldaaGreatDoorQa
import Derived.Maps.Own
import Derived.Maps.OwnSet
import Derived.Test.YtmfajopmppfldaaGreatDoorQj
import Derived.Test.YtmfajopmppfldaaGreatDoorQl
import Derived.Deep.DeepCutAuto
import Derived.Deep.CutBlock
set_option linter.unusedVariables false
set_option maxHeartbeats 16000000
namespace Go.Proofs.YtmfajopmppfldaaGreatDoor
open Go.Proofs.Tryz
section

def Cc(g:Nat):Nat:=1048576+2*g

theorem adrG_inj{a b:Nat}(h:Cc a=Cc b):a=b:=by
 unfold Cc at h
 omega

def toA(es:List (Nat×Nat×Nat))(y:Nat):Nat:=
 match es.find? (λ x=>Cc x.1==y) with
 |some x=>Cc x.2.1
 |none=>0

def BU(es:List (Nat×Nat×Nat))(g:Nat):List Nat->(Nat->Nat)->(Nat->Nat)
 |[],W=>W
 |s::ss,W=>BU es g ss (Ca W (2*g+1+s) (toA es (W (2*g+1+s))))

def cntS(es:List (Nat×Nat×Nat))(g:Nat):List Nat->(Nat->Nat)->Nat
 |[],W=>0
 |s::ss,W=>(if toA es (W (2*g+1+s))=W (2*g+1+s) then 0 else 1)+cntS es g ss (Ca W (2*g+1+s) (toA es (W (2*g+1+s))))

theorem turnS_app(es:List (Nat×Nat×Nat))(g:Nat):∀ (a b:List Nat) (W:Nat->Nat),BU es g (a++b) W=BU es g b (BU es g a W)
 |[],b,W=>rfl
 |s::a,b,W=>turnS_app es g a b _

theorem cntS_app(es:List (Nat×Nat×Nat))(g:Nat):∀ (a b:List Nat) (W:Nat->Nat),cntS es g (a++b) W=cntS es g a W+cntS es g b (BU es g a W)
 |[],b,W=>by simp[cntS,BU]
 |s::a,b,W=>by
  simp only[List.cons_append,cntS,BU]
  rw[cntS_app es g a b]
  omega

theorem cntS_le(es:List (Nat×Nat×Nat))(g:Nat):∀ (ss:List Nat) (W:Nat->Nat),cntS es g ss W<=ss.length
 |[],W=>Nat.le_refl _
 |s::ss,W=>by
  have:=cntS_le es g ss (Ca W (2*g+1+s) (toA es (W (2*g+1+s))))
  simp only[cntS,List.length_cons]
  split <;> omega

theorem Er(es:List (Nat×Nat×Nat))(g:Nat):∀ {ss:List Nat} {W:Nat->Nat} (a:Nat),ss.Nodup->BU es g ss W a=if ∃ s∈ss,a=2*g+1+s then toA es (W a) else W a
 |[],W,a,_=>by
  rw[if_neg (λ ⟨s,h,_⟩=>by cases h)]
  rfl
 |s::ss,W,a,hn=>by
  obtain⟨n1,n2⟩:=List.nodup_cons.1 hn
  rw[BU,Er es g a n2]
  by_cases e:a=2*g+1+s
  .have h1:¬ ∃ t∈ss,a=2*g+1+t:=λ ⟨t,ht,e2⟩=>n1 (by rwa [show s=t by omega])
   rw[if_neg h1,if_pos ⟨s,List.mem_cons_self,e⟩,e]
   simp[Ca]
  .have hu:∀ z,Ca W (2*g+1+s) z a=W a:=λ z=>by simp[Ca,e]
   rw[hu]
   by_cases h:∃ t∈ss,a=2*g+1+t
   .obtain ⟨t,ht,e2⟩:=h
    rw[if_pos ⟨t,ht,e2⟩,if_pos ⟨t,List.mem_cons_of_mem _ ht,e2⟩]
   .rw [if_neg h,if_neg (λ ⟨t,ht,e2⟩=>by
     rcases List.mem_cons.1 ht with rfl|ht
     .exact e e2
     .exact h ⟨t,ht,e2⟩)]

def BZ(es:List (Nat×Nat×Nat))(rf:Nat->List Nat):List (Nat×Nat×Nat)->(Nat->Nat)->(Nat->Nat)
 |[],W=>W
 |x::xs,W=>BZ es rf xs (BU es x.1 (rf x.1) W)

def Fw(es:List (Nat×Nat×Nat))(rf:Nat->List Nat):List (Nat×Nat×Nat)->(Nat->Nat)->Nat
 |[],W=>0
 |x::xs,W=>cntS es x.1 (rf x.1) W+Fw es rf xs (BU es x.1 (rf x.1) W)

theorem turnP_app(es:List (Nat×Nat×Nat))(rf:Nat->List Nat):∀ (a b:List (Nat×Nat×Nat)) (W:Nat->Nat),BZ es rf (a++b) W=BZ es rf b (BZ es rf a W)
 |[],b,W=>rfl
 |x::a,b,W=>turnP_app es rf a b _

theorem cntT_app(es:List (Nat×Nat×Nat))(rf:Nat->List Nat):∀ (a b:List (Nat×Nat×Nat)) (W:Nat->Nat),Fw es rf (a++b) W=Fw es rf a W+Fw es rf b (BZ es rf a W)
 |[],b,W=>by simp[Fw,BZ]
 |x::a,b,W=>by
  simp only[List.cons_append,Fw,BZ]
  rw[cntT_app es rf a b]
  omega

end

section
open Go.RowKit

structure GoodP(cs:List Cel)(es:List (Nat×Nat×Nat)):Prop where
 obj:∀ x∈es,∃ c∈cs,c.tag=1/\c.g=x.1/\c.sz=x.2.2
 le:∀ x∈es,x.2.1<=x.1
 up:es.Pairwise λ x y=>x.1<y.1
 apart:es.Pairwise λ x y=>x.2.1+x.2.2<=y.2.1\/y.2.1+y.2.2<=x.2.1

theorem GoodP.fit{cs:List Cel}{es:List (Nat×Nat×Nat)}{H:Nat}(h:GoodP cs es)(ht:Au 0 cs H){x:Nat×Nat×Nat}(hx:x∈es):x.1+x.2.2<=H/\x.2.1+x.2.2<=H/\0<x.2.2:=by
 obtain⟨c,hc,-,h2,h3⟩:=h.obj x hx
 have:=ht.mem hc
 have:=h.le x hx
 omega

theorem GoodP.uniq{cs:List Cel}{es:List (Nat×Nat×Nat)}(h:GoodP cs es){x y:Nat×Nat×Nat}(hx:x∈es)(hy:y∈es)(e:x.1=y.1):x=y:=by
 obtain⟨i,hi,rfl⟩:=List.mem_iff_getElem.1 hx
 obtain⟨j,hj,rfl⟩:=List.mem_iff_getElem.1 hy
 have hp:=List.pairwise_iff_getElem.1 h.up
 by_cases e1:i=j
 .subst e1;rfl
 .rcases Nat.lt_or_gt_of_ne e1 with e2|e2
  .have:=hp i j hi hj e2;omega
  .have:=hp j i hj hi e2;omega

theorem GoodP.uniq_to{cs:List Cel}{es:List (Nat×Nat×Nat)}{H:Nat}(h:GoodP cs es)(ht:Au 0 cs H){x y:Nat×Nat×Nat}(hx:x∈es)(hy:y∈es)(e:x.2.1=y.2.1):x=y:=by
 have hfx:=h.fit ht hx
 have hfy:=h.fit ht hy
 obtain⟨i,hi,rfl⟩:=List.mem_iff_getElem.1 hx
 obtain⟨j,hj,rfl⟩:=List.mem_iff_getElem.1 hy
 have hp:=List.pairwise_iff_getElem.1 h.apart
 by_cases e1:i=j
 .subst e1;rfl
 .rcases Nat.lt_or_gt_of_ne e1 with e2|e2
  .have:=hp i j hi hj e2;omega
  .have:=hp j i hj hi e2;omega

theorem planOf_good{cs:List Cel}{ms ps:List Nat}{H:Nat}(ht:Au 0 cs H)(hm:∀ g∈ms,CV cs g)(hp:∀ g∈ps,CV cs g):GoodP cs (BN cs ps (BL (ms++ps)) H):=by
 have ho:∀ g∈BL (ms++ps),CV cs g:=λ g hg=>by
  rcases List.mem_append.1 (Ed.1 hg) with h|h
  .exact hm g h
  .exact hp g h
 obtain⟨hf,hk⟩:=FN (pins:=ps) ht (EX _) ho
 have hs:∀ j x,(BN cs ps (BL (ms++ps)) H)[j]?=some x->SlOk ms ps (BN cs ps (BL (ms++ps)) H) H j x:=λ j x hx=>slides_ok ht hm hp hx
 generalize BN cs ps (BL (ms++ps)) H=L at*
 refine⟨λ x hx=>?_,λ x hx=>?_,?_,?_⟩
 .have hx1:x.1∈BL (ms++ps):=by rw[<- hf];exact List.mem_map.2 ⟨x,hx,rfl⟩
  obtain⟨c,hc,c1,c2⟩:=ho x.1 hx1
  have hz:=Cv ht hc c1
  rw[c2] at hz
  exact⟨c,hc,c1,c2,by rw[<- hz];exact ((hk.each x hx).1).symm⟩
 .obtain ⟨j,hj⟩:=List.mem_iff_getElem?.1 hx
  exact(hs j x hj).le
 .have:=EX (ms++ps)
  rw[<- hf,List.pairwise_map] at this
  exact this
 .refine List.pairwise_iff_getElem.2 λ i j hi hj hij=>?_
  have hx:=hs j L[j] (List.getElem?_eq_getElem hj)
  have hy:=hs i L[i] (List.getElem?_eq_getElem hi)
  have p1:=hx.pos
  have p2:=hy.pos
  by_cases e:L[i].2.1+L[i].2.2<=L[j].2.1\/L[j].2.1+L[j].2.2<=L[i].2.1
  .exact e
  .have hq:=hx.apart (max L[i].2.1 L[j].2.1) (by omega) (by omega)
   have hmem:L[i]∈L.take j:=List.mem_iff_getElem.2 ⟨i,by rw[List.length_take];omega,by rw[List.getElem_take]⟩
   have:fullF (L.take j) (max L[i].2.1 L[j].2.1)=true:=by
    unfold fullF
    rw[List.any_eq_true]
    exact⟨L[i],hmem,by rw[decide_eq_true_eq];omega⟩
   rw[this] at hq
   cases hq

structure OkS(cs:List Cel)(es:List (Int×Int×Int))(j:Nat)(x:Int×Int×Int):Prop where
 obj:∃ c∈cs,c.tag=1/\x.1=(c.g:Nat)/\x.2.2=(c.sz:Nat)
 pos:0<=x.2.1
 le:x.2.1<=x.1
 up:∀ i y,i<j->es[i]?=some y->y.1<x.1
 free:∀ g:Nat,x.2.1<=(g:Int)->(g:Int)<x.2.1+x.2.2->CX (es.take j) g=false

def FC(cs:List Cel)(es:List (Int×Int×Int)):Prop:=∀ j x,es[j]?=some x->OkS cs es j x

theorem castS_at{es:List (Nat×Nat×Nat)}{j:Nat}{x:Int×Int×Int}(h:(castS es)[j]?=some x):∃ y,es[j]?=some y/\x=((y.1:Int),(y.2.1:Int),(y.2.2:Int)):=by
 unfold castS at h
 rw[List.getElem?_map] at h
 cases hy:es[j]? with
 |none=>rw [hy] at h;cases h
 |some y=>rw [hy] at h;injection h with h;exact ⟨y,rfl,h.symm⟩

theorem castS_len(es:List (Nat×Nat×Nat)):(castS es).length=es.length:=List.length_map ..

theorem GoodP.fits{cs:List Cel}{es:List (Nat×Nat×Nat)}(h:GoodP cs es):FC cs (castS es):=by
 intro j x hx
 obtain⟨y,hy,rfl⟩:=castS_at hx
 have hym:=List.mem_of_getElem? hy
 obtain⟨c,hc,c1,c2,c3⟩:=h.obj y hym
 obtain⟨hj,hyj⟩:=gE.1 hy
 have hle:=h.le y hym
 refine⟨⟨c,hc,c1,by simp only;omega,by simp only;omega⟩,by simp only;omega,by simp only;omega,λ i z hi hz=>?_,λ g g1 g2=>?_⟩
 .obtain ⟨y',hy',rfl⟩:=castS_at hz
  obtain⟨hi',hyi⟩:=gE.1 hy'
  have:=List.pairwise_iff_getElem.1 h.up i j hi' hj hi
  rw[hyi,hyj] at this
  simp only
  omega
 .simp only at g1 g2
  unfold CX
  rw[List.any_eq_false]
  intro z hz
  obtain⟨i,hi,e⟩:=List.mem_iff_getElem.1 hz
  rw[List.length_take] at hi
  rw[List.getElem_take] at e
  obtain⟨y',hy',rfl⟩:=castS_at (es:=es) (j:=i) (x:=z) (by rw[<- e];exact List.getElem?_eq_getElem _)
  obtain⟨hi',hyi⟩:=gE.1 hy'
  have:=List.pairwise_iff_getElem.1 h.apart i j hi' hj (by omega)
  rw[hyi,hyj] at this
  simp only[decide_eq_true_eq]
  omega

theorem toA_uniq{es:List (Nat×Nat×Nat)}{x:Nat×Nat×Nat}(hx:x∈es)(hu:∀ y∈es,y.1=x.1->y=x):toA es (Cc x.1)=Cc x.2.1:=by
 unfold toA
 cases hf:es.find? (λ z=>Cc z.1==Cc x.1) with
 |none=>
  have:=List.find?_eq_none.1 hf x hx
  simp at this
 |some z=>
  have h1:=List.find?_some hf
  have h2:=List.mem_of_find?_eq_some hf
  have h3:z.1=x.1:=adrG_inj (by simpa using h1)
  rw[hu z h2 h3]

theorem GoodP.to{cs:List Cel}{es:List (Nat×Nat×Nat)}(h:GoodP cs es){x:Nat×Nat×Nat}(hx:x∈es):toA es (Cc x.1)=Cc x.2.1:=
 toA_uniq hx λ y hy e=>h.uniq hy hx e

def FP(ts:List TypR)(cs:List Cel)(g:Nat):List Nat:=
 match cs.find? (λ c=>c.tag==1&&c.g==g) with
 |some c=>BP ts c
 |none=>[]

theorem rfG_at{ts:List TypR}{cs:List Cel}{H:Nat}{c:Cel}(ht:Au 0 cs H)(hc:c∈cs)(h1:c.tag=1):FP ts cs c.g=BP ts c:=by
 unfold FP
 cases h:cs.find? (λ d=>d.tag==1&&d.g==c.g) with
 |none=>
  have:=List.find?_eq_none.1 h c hc
  simp[h1] at this
 |some d=>
  have h2:=List.find?_some h
  have h3:=List.mem_of_find?_eq_some h
  simp only[Bool.and_eq_true,beq_iff_eq] at h2
  rw[ht.only h3 hc h2.2]

theorem refsC_slot{P:Sp}{W:Nat->Nat}{cs:List Cel}{c:Cel}{s:Nat}(h:CellsAt P W cs)(hc:c∈cs)(h1:c.tag=1)(hs:s∈BP P.ts c):2*c.g<2*c.g+1+s/\2*c.g+1+s<2*c.fin/\2*c.g+1+s<P.n:=by
 unfold BP at hs
 cases ht:typeOf P.ts (c.ty:Nat) with
 |none=>rw [ht] at hs;cases hs
 |some x=>
  rw[ht] at hs
  obtain⟨k,wds,m⟩:=x
  exact slot_in h hc h1 ht (FO (kind_of h hc h1 ht) hs)

theorem CellsAt.BU{P:Sp}{cs:List Cel}{c:Cel}(es:List (Nat×Nat×Nat))(hc:c∈cs)(h1:c.tag=1):∀ {ss:List Nat} {W:Nat->Nat},CellsAt P W cs->(∀ s∈ss,s∈BP P.ts c)->CellsAt P (BU es c.g ss W) cs
 |[],W,h,_=>h
 |s::ss,W,h,hs=>by
  have hk:=refsC_slot h hc h1 (hs s List.mem_cons_self)
  exact CellsAt.BU es hc h1 (ss:=ss) (h.store hc hk.1 hk.2.1 _) λ t ht=>hs t (List.mem_cons_of_mem _ ht)

theorem CellsAt.BZ{P:Sp}{cs:List Cel}(es:List (Nat×Nat×Nat)):∀ {xs:List (Nat×Nat×Nat)} {W:Nat->Nat},CellsAt P W cs->(∀ x∈xs,∃ c∈cs,c.tag=1/\c.g=x.1)->CellsAt P (BZ es (FP P.ts cs) xs W) cs
 |[],W,h,_=>h
 |x::xs,W,h,ho=>by
  obtain⟨c,hc,h1,h2⟩:=ho x List.mem_cons_self
  refine CellsAt.BZ es (xs:=xs) ?_ λ y hy=>ho y (List.mem_cons_of_mem _ hy)
  rw[<- h2,rfG_at h.tl hc h1]
  exact h.BU es hc h1 λ s hs=>hs

theorem toA_lt{es:List (Nat×Nat×Nat)}(h:∀ x∈es,x.2.1<=65536)(y:Nat):toA es y<18446744073709551616:=by
 unfold toA
 cases hf:es.find? (λ z=>Cc z.1==y) with
 |none=>simp
 |some z=>
  have:=h z (List.mem_of_find?_eq_some hf)
  simp only[Cc]
  omega

theorem cntT_le(es:List (Nat×Nat×Nat))(rf:Nat->List Nat){m:Nat}(hr:∀ g,(rf g).length<=m):∀ (xs:List (Nat×Nat×Nat)) (W:Nat->Nat),Fw es rf xs W<=m*xs.length
 |[],W=>Nat.zero_le _
 |x::xs,W=>by
  have h1:=cntT_le es rf hr xs (BU es x.1 (rf x.1) W)
  have h2:=cntS_le es x.1 (rf x.1) W
  have h3:=hr x.1
  rw[Fw,List.length_cons,Nat.mul_succ]
  omega

end

section
open Go.RowKit Go.Maps

theorem wf_u64{g:Nat}(h:g<18446744073709551616):(Lit.int .u64 (g:Int)).wf=true:=by
 have h1:IntKind.u64.min=0:=by decide
 have h2:IntKind.u64.max=18446744073709551615:=by decide
 simp only[Lit.wf,h1,h2,Bool.and_eq_true,decide_eq_true_eq]
 omega

section

variable {P:Program} {k t:TypeId}

def EP(P:Program)(k:TypeId)(w:World)(b n:Nat)(f:Nat->Option Nat):Prop:=
 ∃ D:DataW Unit,w.ownsMap P k (plainElem P k) b n D/\∀ g:Nat,g<18446744073709551616->has D (.int .u64 (g:Nat))=(f g).isSome/\D.atKey (.int .u64 (g:Nat)) (.lit (.int .u64 0))=.lit (.int .u64 (((f g).getD 0:Nat):Int))

theorem EP.look{w:World}{b n:Nat}{f:Nat->Option Nat}(h:EP P k w b n f)(hk:P.underlying k=some (.int .u64))(ht:P.underlying t=some (.map k k))(hz:(zeroValue k).run P w=.ok (.int .u64 0) w){g:Nat}(hg:g<18446744073709551616):
  (Instr.lookup t (.map (some b)) (.int .u64 (g:Nat)) false).run P w=.ok (.int .u64 (((f g).getD 0:Nat):Int)) w:=by
 obtain⟨D,h1,h2⟩:=h
 obtain⟨c,hrun,hat,-⟩:=h1.lookup_int (int_keyed hk) ht hk hz (keyOf_int_mk hk (wf_u64 hg))
 rw[(h2 g hg).2] at hat
 have:(((f g).getD 0:Nat):Int)=c:=by injection hat with hat;injection hat
 rw[hrun,this]

theorem EP.lookOk{w:World}{b n:Nat}{f:Nat->Option Nat}(h:EP P k w b n f)(hk:P.underlying k=some (.int .u64))(ht:P.underlying t=some (.map k k))(hz:(zeroValue k).run P w=.ok (.int .u64 0) w){g:Nat}(hg:g<18446744073709551616):
  (Instr.lookup t (.map (some b)) (.int .u64 (g:Nat)) true).run P w=.ok (.tuple #[.int .u64 (((f g).getD 0:Nat):Int),.bool (f g).isSome]) w:=by
 obtain⟨D,h1,h2⟩:=h
 obtain⟨v,ps,hrun,hv⟩:=h1.look_ok (int_keyed hk) ht hz (plainElem_int (H:=Unit) hk (by decide)) (keyOf_int_mk hk (wf_u64 hg))
 obtain⟨c,rfl,hc,-⟩:=plainElem_int_inv hk hv
 simp only[Prod.mk.injEq] at hc
 have hat:=hc.1
 rw[(h2 g hg).2] at hat
 have:(((f g).getD 0:Nat):Int)=c:=by injection hat with hat;injection hat
 rw[hrun,this,(h2 g hg).1]

theorem EP.put{w:World}{b n:Nat}{f:Nat->Option Nat}(h:EP P k w b n f)(hk:P.underlying k=some (.int .u64))(ht:P.underlying t=some (.map k k))(hn:n<maxLen){g c:Nat}(hg:g<18446744073709551616)(hc:c<18446744073709551616):
  ∃ w',(Instr.mapUpdate t (.map (some b)) (.int .u64 (g:Nat)) (.int .u64 (c:Nat))).run P w=.ok () w'/\EP P k w' b (n+1) (λ x=>if x=g then some c else f x)/\Kp (λ k=>k=b) w w':=by
 obtain⟨D,h1,h2⟩:=h
 have hkk:=keyOf_int_mk hk (wf_u64 hg)
 obtain⟨w',hrun,ho,hgr⟩:=h1.update (int_keyed hk) ht hn hkk (plainElem_int hk (wf_u64 hc))
 refine⟨w',hrun,⟨_,ho,λ x hx=>?_⟩,(Kr _ w).grown hgr (λ k e _=>by injection e with e;exact e.symm)⟩
 by_cases ex:x=g
 .subst ex
  rw[Maps.atKey_put_same h1.isMap ((int_keyed hk).key hkk),Maps.has_put_same h1.isMap ((int_keyed hk).key hkk)]
  simp
 .have hne:(Lit.int .u64 (x:Int))≠Lit.int .u64 (g:Int):=by
   intro h
   injection h with _ h
   omega
  rw[Maps.atKey_put_other hne,Maps.has_put_other hne,(h2 x hx).1,(h2 x hx).2]
  simp[ex]

end

def Cz(w:World)(b n:Nat)(f:Nat->Option Nat):Prop:=EP prog 55 w b n f

theorem zeroU64(w:World):(zeroValue 55).run prog w=.ok (.int .u64 0) w:=by kernel_rfl

theorem Cz.made(w:World):Cz (w.alloc (.map #[] 0)) w.heap.size 0 (λ _=>none):=
 ⟨.map [],World.ownsMap_made w _ _ _,λ g _=>⟨rfl,rfl⟩⟩

theorem Cz.lt{w:World}{b n:Nat}{f:Nat->Option Nat}(h:Cz w b n f):b<w.heap.size:=by
 obtain⟨D,h1,-⟩:=h
 exact h1.lt

theorem Cz.keep{S:Nat->Prop}{w w':World}{b n:Nat}{f:Nat->Option Nat}(h:Cz w b n f)(k:Kp S w w')(hb:¬ S b):Cz w' b n f:=by
 obtain⟨D,⟨es,clock,h1,h2⟩,h3⟩:=h
 exact⟨D,⟨es,clock,k.at_ h1 hb,h2⟩,h3⟩

theorem Cz.look{w:World}{b n:Nat}{f:Nat->Option Nat}(h:Cz w b n f){g:Nat}(hg:g<18446744073709551616):
  (Instr.lookup 124 (.map (some b)) (.int .u64 (g:Nat)) false).run prog w=.ok (.int .u64 (((f g).getD 0:Nat):Int)) w:=
 EP.look h underlying55 underlying124 (zeroU64 w) hg

theorem Cz.lookOk{w:World}{b n:Nat}{f:Nat->Option Nat}(h:Cz w b n f){g:Nat}(hg:g<18446744073709551616):
  (Instr.lookup 124 (.map (some b)) (.int .u64 (g:Nat)) true).run prog w=.ok (.tuple #[.int .u64 (((f g).getD 0:Nat):Int),.bool (f g).isSome]) w:=
 EP.lookOk h underlying55 underlying124 (zeroU64 w) hg

theorem Cz.put{w:World}{b n:Nat}{f:Nat->Option Nat}(h:Cz w b n f)(hn:n<maxLen){g c:Nat}(hg:g<18446744073709551616)(hc:c<18446744073709551616):
  ∃ w',(Instr.mapUpdate 124 (.map (some b)) (.int .u64 (g:Nat)) (.int .u64 (c:Nat))).run prog w=.ok () w'/\Cz w' b (n+1) (λ x=>if x=g then some c else f x)/\Kp (λ k=>k=b) w w':=
 EP.put h underlying55 underlying124 hn hg hc

end

section
open Go.RowKit

theorem FE(g:Nat)(w:World)(hg:g<=65536):Calls prog 25 #[.int .i64 (g:Nat)] w λ e w'=>e=.returned (.int .u64 (Cc g:Nat))/\w'=w:=by
 have h0:¬ (g:Int)<0:=by omega
 have hw1:IntKind.u64.wrap (g:Int)=(g:Int):=by rw[IntKind.wrap_u64];omega
 have hw2:IntKind.u64.wrap (2*(g:Int))=2*(g:Int):=by rw[IntKind.wrap_u64];omega
 have hw3:IntKind.u64.wrap (1048576+2*(g:Int))=1048576+2*(g:Int):=by rw[IntKind.wrap_u64];omega
 go_enter func25,ntmps25
 go_wp2
 go_ret
 unfold Cc
 exact⟨by go_num,rfl⟩

def mapA(es:List (Nat×Nat×Nat))(y:Nat):Option Nat:=(es.find? (λ x=>Cc x.1==y)).map λ x=>Cc x.2.1

theorem toA_map(es:List (Nat×Nat×Nat))(y:Nat):(mapA es y).getD 0=toA es y:=by
 unfold toA mapA
 cases es.find? (λ x=>Cc x.1==y) <;> rfl

theorem mapA_snoc(es:List (Nat×Nat×Nat))(x:Nat×Nat×Nat):mapA (es++[x])=if (mapA es (Cc x.1)).isSome then mapA es else λ y=>if y=Cc x.1 then some (Cc x.2.1) else mapA es y:=by
 have hs:∀ y,mapA (es++[x]) y=(mapA es y).or (if y=Cc x.1 then some (Cc x.2.1) else none):=λ y=>by
  unfold mapA
  rw[List.find?_append]
  cases h:es.find? (λ z=>Cc z.1==y) with
  |some z=>rfl
  |none=>
   by_cases e:y=Cc x.1
   .subst e
    simp
   .have:¬ Cc x.1=y:=λ h=>e h.symm
    simp[e,this]
 funext y
 rw[hs y]
 by_cases h:(mapA es (Cc x.1)).isSome
 .rw [if_pos h]
  by_cases e:y=Cc x.1
  .subst e
   obtain⟨z,hz⟩:=Option.isSome_iff_exists.1 h
   rw[hz]
   rfl
  .rw [if_neg e]
   cases mapA es y <;> rfl
 .rw [if_neg h]
  by_cases e:y=Cc x.1
  .subst e
   rw[if_pos rfl,if_pos rfl]
   cases h2:mapA es (Cc x.1) with
   |some z=>rw [h2] at h;exact absurd rfl h
   |none=>rfl
  .rw [if_neg e,if_neg e]
   cases mapA es y <;> rfl

def TOfPost(es:List (Nat×Nat×Nat))(w:World)(e:Ending)(w':World):Prop:=
 ∃ mb n,e=.returned (.agg #[.map (some mb)])/\Cz w' mb n (mapA es)/\w.heap.size<=mb/\Kp Ab w w'

theorem TOf_at(es:List (Nat×Nat×Nat))(v:Value)(w:World)(h:Et w v es)(hl:es.length<=65536)(hs:∀ x∈es,x.1<=65536/\x.2.1<=65536):
  Calls prog 62 #[.agg #[v]] w (TOfPost es w):=by
 have HR:=sE h
 obtain⟨va,vc,rfl,-⟩:=h
 obtain⟨n,hn⟩:∃ n,es.length=n:=⟨_,rfl⟩
 rw[hn] at HR hl ⊢
 have HN:=sE hn
 have HS:=sE hs
 obtain⟨B,hB⟩:∃ B,w.heap.size=B:=⟨_,rfl⟩
 have HB:=sE hB
 obtain⟨w1,hw1⟩:∃ w1,w1=(((w.alloc (.cells #[.slice va n vc] 33)).alloc (.cells #[.map none] 126)).alloc (.map #[] 0)).alloc (.cells #[.map (some (B+2))] 126):=⟨_,rfl⟩
 have z2:((w.alloc (.cells #[.slice va n vc] 33)).alloc (.cells #[.map none] 126)).heap.size=B+2:=by simp[hB]
 have z3:(((w.alloc (.cells #[.slice va n vc] 33)).alloc (.cells #[.map none] 126)).alloc (.map #[] 0)).heap.size=B+3:=by simp[hB]
 have k1:Kp Ab w w1:=by rw[hw1];exact ((((Kr _ w).alloc _).alloc _).alloc _).alloc _
 have A1:Cz w1 (B+2) 0 (mapA []):=by
  rw[hw1]
  have:=Cz.made ((w.alloc (.cells #[.slice va n vc] 33)).alloc (.cells #[.map none] 126))
  rw[z2] at this
  exact this.keep ((Kr Ab _).alloc _) (λ h=>h)
 have b0:w1.heap[B]?=some (.cells #[.slice va n vc] 33 (0,0)):=by
  rw[hw1,<- hB]
  exact((((Kr Ab _).alloc _).alloc _).alloc _).at_ (wN w _) (λ h=>h)
 have b1:w1.heap[B+1]?=some (.cells #[.map none] 126 (0,0)):=by
  rw[hw1]
  have:=wN (w.alloc (.cells #[.slice va n vc] 33)) (.cells #[.map none] 126)
  rw[show (w.alloc (.cells #[.slice va n vc] 33)).heap.size=B+1 by simp[hB]] at this
  exact(((Kr Ab _).alloc _).alloc _).at_ this (λ h=>h)
 have b3:w1.heap[B+3]?=some (.cells #[.map (some (B+2))] 126 (0,0)):=by
  rw[hw1,<- z3]
  exact wN _ _
 have HA1:=sE A1
 have Hb1:=sE b1
 have Hb3:=sE b3
 have HK1:=sE k1
 have c0:=cell_of_one b0
 clear hn hs A1 b0 b1 b3 k1 z2 z3
 have hmm:=@run_makeMap prog
 go_enter func62,ntmps62
 go_wp2_with fail
 clear hmm
 try rw[hB]
 rw[<- hw1]
 clear hw1
 go_loopw [5,6,7,8,14] (λ _ _ _ _ x14 wr=>∃ (j m:Nat),j<=n/\m<=j/\x14=.int .i64 (j:Nat)/\Cz wr (B+2) m (mapA (es.take j))/\wr.heap[B+1]?=some (.cells #[.map none] 126 (0,0))/\wr.heap[B+3]?=some (.cells #[.map (some (B+2))] 126 (0,0))/\Kp Ab w wr) (λ _ _ _ _ x14 _=>n-(intOf x14).toNat)
 case atStart=>exact ⟨0,0,Nat.zero_le _,Nat.le_refl _,rfl,HA1.out,Hb1.out,Hb3.out,HK1.out⟩
 case round=>
  obtain⟨j,m,hj,hm,rfl,hA,hb1,hb3,hk⟩:=hrel
  have HK:=sE hk
  have HA:=sE hA
  have HB1:=sE hb1
  have HB3:=sE hb3
  have l3:=lZ hb3
  by_cases hjl:j<n
  .have hjl':(j:Int)<(n:Int):=by omega
   obtain⟨va',vc',e,hx⟩:=HR.out
   injection e with e1 e3 e2
   clear e3
   subst e1 e2
   obtain⟨x,hxj⟩:∃ x,es[j]?=some x:=⟨_,List.getElem?_eq_getElem (by rw[HN.out];exact hjl)⟩
   obtain⟨bb,o,rfl,hbb,x0,x1,x2⟩:=hx j x hxj
   replace x0:=hk.cell x0 (λ h=>h)
   replace x1:=hk.cell x1 (λ h=>h)
   replace x2:=hk.cell x2 (λ h=>h)
   have hT:=mapA_snoc (es.take j) x
   rw[<- Dk hxj] at hT
   have hxs:=HS.out x (List.mem_of_getElem? hxj)
   obtain⟨f,t,z⟩:=x
   simp only at x0 x1 x2 hT hxs
   obtain⟨wa,hwa⟩:∃ wa,wa=wr.alloc (.cells #[.int .i64 (f:Nat),.int .i64 (t:Nat),.int .i64 (z:Nat)] 43):=⟨_,rfl⟩
   have ka:Kp Ab wr wa:=by rw[hwa];exact (Kr _ wr).alloc _
   have ba:wa.heap[wr.heap.size]?=some (.cells #[.int .i64 (f:Nat),.int .i64 (t:Nat),.int .i64 (z:Nat)] 43 (0,0)):=by rw[hwa];exact wN wr _
   obtain⟨y0,y1,y2⟩:=cells3 ba
   have hlf:=FE f
   have hg:Cc f<18446744073709551616:=by unfold Cc;omega
   have hgt:Cc t<18446744073709551616:=by unfold Cc;omega
   have Aa:=hA.keep ka (λ h=>h)
   have hlook:=Aa.lookOk hg
   have c3:=cell_of_one (ka.at_ hb3 (λ h=>h))
   have HKA:=sE (hk.then' ka)
   have HAa:=sE Aa
   have Hb1a:=sE (ka.at_ hb1 (λ h=>h))
   have Hb3a:=sE (ka.at_ hb3 (λ h=>h))
   have HSf:Sl (∀ W',Calls prog 25 #[.int .i64 (f:Nat)] W' λ e w'=>e=.returned (.int .u64 (Cc f:Nat))/\w'=W'):=⟨λ W'=>FE f W' hxs.1⟩
   have HSt:Sl (∀ W',Calls prog 25 #[.int .i64 (t:Nat)] W' λ e w'=>e=.returned (.int .u64 (Cc t:Nat))/\w'=W'):=⟨λ W'=>FE t W' hxs.2⟩
   have hf0:(0:Int)<=(f:Int):=by omega
   have HT:=sE hT
   have HXa:=sE ba
   obtain⟨yf,hyf⟩:∃ yf,Cc f=yf:=⟨_,rfl⟩
   rw[hyf] at hlook hg HT HSf
   have HYf:=sE hyf
   clear hx hxj hk hA hb1 hb3 hT ka ba Aa hlf hyf
   go_upto_region 5 with fail
   rw[<- hwa]
   clear hwa x0 x1 x2
   go_wp2_with fail
   refine(HSf.out _).mono ?_
   rintro e w5 ⟨rfl,rfl⟩
   cases hi:(mapA (es.take j) yf).isSome with
   |true=>
    rw[hi] at hlook HT
    rw[if_pos rfl] at HT
    go_wp2_with fail
    exact⟨⟨j+1,m,by omega,by omega,by go_num,by rw[HT.out];exact HAa.out,Hb1a.out,Hb3a.out,HKA.out⟩,by simp only[intOf];omega⟩
   |false=>
    rw[hi] at hlook HT
    rw[if_neg (by simp)] at HT
    go_wp2_with fail
    refine Co 6 (by kernel_rfl) (by kernel_rfl) ?_
    simp only[List.take_succ_cons,List.take_zero,List.drop_succ_cons,List.drop_zero]
    repeat (go_big_quiet_step (((go_at_call 25;with_reducible refine Calls.quiet_of_same (HSt.out _)))))
    refine wpQuiet_nil ?_
    intro _ hw'
    obtain⟨nq,hw''⟩:=hw'
    subst hw''
    obtain⟨w6,hrun,A6,k6⟩:=(HAa.out.keep (Kp.Aj (S:=Ab) nq) (λ h=>h)).put (by unfold maxLen;omega) hg hgt
    go_wp2_with fail
    have K6:Kp (λ k=>k=B+2) w5 w6:=((Kp.Aj (S:=Ab) nq).Al _).trans k6 (λ b _ h=>h)
    clear hrun k6
    refine⟨⟨j+1,m+1,by omega,by omega,by go_num,by rw[HT.out];exact A6,K6.at_ Hb1a.out (by omega),K6.at_ Hb3a.out (by omega),(HKA.out.Al (λ k=>k=B+2)).trans K6 (λ b _ h=>h) |>.mono (λ i hi h=>by have h':i=B+2:=h;have:=HB.out;omega)⟩,by simp only[intOf];omega⟩
  .have hjl':¬ (j:Int)<(n:Int):=by omega
   have c1:=cell_of_one hb1
   have c3:=cell_of_one hb3
   have f1:=free_of_one hb1
   clear hk hA hb1 hb3
   go_wp2_with fail
   have c2:(wr.setCell ⟨B+1,0,none⟩ (.map (some (B+2)))).cell? ⟨B+1,0,none⟩=some (.map (some (B+2))):=World.cell?_setCell_same' _ _ _ (by rw[c1];rfl)
   have ks:Kp (λ k=>k=B+1) wr (wr.setCell ⟨B+1,0,none⟩ (.map (some (B+2)))):=(Kr (λ k=>k=B+1) wr).setCell (λ _=>rfl) _
   refine bodyPost_ret (v:=.agg #[.map (some (B+2))]) (by simp[results,results62,go_sem,c2]) rfl ⟨B+2,m,rfl,?_,by have:=HB.out;omega,(HK.out.Al _).trans ks (λ b _ h=>h) |>.mono (λ i hi h=>by have h':i=B+1:=h;have:=HB.out;omega)⟩
   have:=HA.out.keep ks (by omega)
   rwa [List.take_of_length_le (by rw[HN.out];omega)] at this

end

section
open Go.RowKit

theorem find_hit'{es:List (Nat×Nat×Nat)}{p:Nat×Nat×Nat->Bool}{j:Nat}{x:Nat×Nat×Nat}(h:(es.take j).find? p=none)(hx:es[j]?=some x)(hg:p x=true):es.find? p=some x:=by
 obtain⟨h1,h2⟩:=gE.1 hx
 have e:es=es.take j++x::es.drop (j+1):=by rw[<- h2,List.getElem_cons_drop h1,List.take_append_drop]
 rw[e,List.find?_append,h,Option.none_or,List.find?_cons_of_pos hg]

theorem find_miss'{es:List (Nat×Nat×Nat)}{p:Nat×Nat×Nat->Bool}{j:Nat}{x:Nat×Nat×Nat}(h:(es.take j).find? p=none)(hx:es[j]?=some x)(hg:p x=false):(es.take (j+1)).find? p=none:=by
 rw[Dk hx,List.find?_append,h,Option.none_or,List.find?_cons_of_neg (by simp[hg])]
 rfl

theorem set_one{w:World}{b:Nat}{a:Value}{T:TypeId}(h:w.heap[b]?=some (.cells #[a] T (0,0)))(v:Value):(w.setCell ⟨b,0,none⟩ v).heap[b]?=some (.cells #[v] T (0,0)):=by
 rw[bZ h]
 rfl

end

section
open Go.RowKit

def HeadPost(W:Nat->Nat)(H:Nat)(g:Int)(w:World)(e:Ending)(w':World):Prop:=
 ∃ tag ty ln sz E:Nat,e=.returned (.tuple #[.agg #[.int .u8 (tag:Nat),.int .i64 (ty:Nat),.int .i64 (ln:Nat),.int .i64 (sz:Nat)],.int .i64 (E:Nat)])/\Kp Ab w w'/\
  (E=0\/¬ E=0)/\(E=0->∃ k:Nat,g=(k:Nat)/\k<H/\BJ (W (2*k))=true/\sz=DL (W (2*k)))/\(∀ k:Nat,g=(k:Nat)->k<H->BJ (W (2*k))=true->E=0)

theorem SHead_any(P:Sp)(W:Nat->Nat)(f:Nat->Bool)(g:Int)(w:World)(h:SpaceAt w P W f):
  Calls prog 49 #[.pointer (some ⟨P.a,0,none⟩),.int .i64 g] w (HeadPost W (P.n/2) g w):=by
 by_cases hg:0<=g/\g<((P.n/2:Nat):Int)
 .obtain ⟨k,rfl⟩:=Int.eq_ofNat_of_zero_le hg.1
  refine(SHead_at k P.a P.q P.n W w h.fl h.ar (by omega)).mono ?_
  rintro e w' ⟨rfl,k'⟩
  cases hd:BJ (W (2*k)) with
  |true=>exact ⟨_,_,_,_,0,rfl,k',.inl rfl,λ _=>⟨k,rfl,by omega,hd,rfl⟩,λ _ _ _ _=>rfl⟩
  |false=>exact ⟨0,0,0,0,7,rfl,k',.inr (by simp),λ h=>absurd h (by decide),λ k2 e _ h2=>by
    have:k=k2:=by omega
    subst this
    rw[hd] at h2
    cases h2⟩
 .refine (SHead_out g P.a P.q P.n W w h.ar (by omega)).mono ?_
  rintro e w' ⟨rfl,k'⟩
  exact⟨0,0,0,0,2,rfl,k',.inr (by simp),λ h=>absurd h (by decide),λ k e hk _=>by omega⟩

def LastF(es:List (Int×Int×Int))(j:Nat)(last:Int):Prop:=
 (∀ i y,i<j->es[i]?=some y->y.1<=last)/\(last=-1\/∃ i y,i<j/\es[i]?=some y/\y.1=last)

theorem LastF.iff{es:List (Int×Int×Int)}{j:Nat}{last g:Int}(h:LastF es j last)(h0:0<=g):(∀ i y,i<j->es[i]?=some y->y.1<g) ↔ last<g:=by
 constructor
 .intro hh
  rcases h.2 with rfl|⟨i,y,h1,h2,rfl⟩
  .omega
  .exact hh i y h1 h2
 .intro hl i y h1 h2
  have:=h.1 i y h1 h2
  omega

theorem LastF.next{es:List (Int×Int×Int)}{j:Nat}{last:Int}{x:Int×Int×Int}(h:LastF es j last)(hx:es[j]?=some x)(hl:last<x.1):LastF es (j+1) x.1:=by
 refine⟨λ i y h1 h2=>?_,.inr ⟨j,x,by omega,hx,rfl⟩⟩
 by_cases e:i=j
 .subst e
  rw[hx] at h2
  injection h2 with h2
  rw[h2]
  exact Int.le_refl _
 .have:=h.1 i y (by omega) h2
  omega

def TChkPost(cs:List Cel)(es:List (Int×Int×Int))(w:World)(e:Ending)(w':World):Prop:=
 ((FC cs es/\e=.returned (.int .i64 0))\/(¬ FC cs es/\e=.returned (.int .i64 2)))/\Kp Ab w w'

theorem takenS_nat{es:List (Int×Int×Int)}{j:Nat}{x:Int×Int×Int}(h:es[j]?=some x){t z:Nat}(h1:x.2.1=(t:Nat))(h2:x.2.2=(z:Nat))(g:Nat):CX (es.take (j+1)) g=(CX (es.take j) g||decide (t<=g/\g<t+z)):=by
 rw[takenS_take h g]
 congr 1
 rw[h1,h2]
 exact decide_eq_decide.2 (by omega)

def ChkCut(W:Nat->Nat)(H:Nat)(g:Int)(wb:World)(x10 x11:Value)(wx:World):Prop:=
 ∃ hb tag ty ln sz E:Nat,x10=.pointer (some ⟨hb,0,none⟩)/\x11=.int .i64 (E:Nat)/\wx.heap[hb]?=some (.cells #[.int .u8 (tag:Nat),.int .i64 (ty:Nat),.int .i64 (ln:Nat),.int .i64 (sz:Nat)] 52 (0,0))/\Kp Ab wb wx/\
  (E=0->∃ k:Nat,g=(k:Nat)/\k<H/\BJ (W (2*k))=true/\sz=DL (W (2*k)))/\(∀ k:Nat,g=(k:Nat)->k<H->BJ (W (2*k))=true->E=0)

set_option maxRecDepth 20000 in
theorem TCheck_at(P:Sp)(W:Nat->Nat)(cs:List Cel)(es:List (Int×Int×Int))(v:Value)(w:World)(hs:Az w P W cs)(h:RowH w v es)(hl:es.length<=65536):
  Calls prog 61 #[.pointer (some ⟨P.s,0,none⟩),.agg #[v]] w (TChkPost cs es w):=by
 obtain⟨f,hsp,hc,hst⟩:=hs
 have HR:=sE h
 obtain⟨va,vc,rfl,-⟩:=h
 obtain⟨n,hn⟩:∃ n,es.length=n:=⟨_,rfl⟩
 rw[hn] at HR hl ⊢
 have HN:=sE hn
 have hsm:=hsp.ar.small
 obtain⟨H,hH⟩:∃ H,P.n/2=H:=⟨_,rfl⟩
 have hH2:H<=32768:=by omega
 have HSp:=sE hsp
 have HGr:Sl (∀ W',Kp Ab w W'->Calls prog 42 #[.pointer (some ⟨P.s,0,none⟩)] W' λ e w'=>e=.returned (.int .i64 (H:Nat))/\w'=W'):=⟨λ W' k=>by rw[<- hH];exact Fe P W f W' (hsp.Ad k)⟩
 have HStt:Sl (∀ W',Kp Ab w W'->Calls prog 22 #[.pointer (some ⟨P.s,0,none⟩)] W' λ e w'=>∃ p q,e=.returned (.pointer (some ⟨p,0,none⟩))/\W'.heap.size<=p/\W'.heap.size<=q/\AO w' p q f H/\Kp Ab W' w'):=⟨λ W' k=>by rw[<- hH];exact Starts_at P W f W' (hsp.Ad k)⟩
 have HHd:Sl (∀ g W',Kp Ab w W'->Calls prog 49 #[.pointer (some ⟨P.a,0,none⟩),.int .i64 g] W' (HeadPost W H g W')):=⟨λ g W' k=>by rw[<- hH];exact SHead_any P W f g W' (hsp.Ad k)⟩
 have HAr:Sl (∀ W',Kp Ab w W'->Calls prog 14 #[.pointer (some ⟨P.s,0,none⟩)] W' λ e w'=>e=.returned (.pointer (some ⟨P.a,0,none⟩))/\w'=W'):=⟨λ W' k=>BV P W f W' (hsp.Ad k)⟩
 have HTl:Sl (Au 0 cs H):=⟨by rw[<- hH];exact hc.tl⟩
 have HOb:Sl (∀ k:Nat,k<H->f k=true->∃ c∈cs,c.tag=1/\c.g=k/\BJ (W (2*k))=true/\DL (W (2*k))=c.sz/\k+c.sz<=H):=⟨λ k hk hf=>by
  rw[hst k (by omega)] at hf
  unfold Ar at hf
  rw[List.any_eq_true] at hf
  obtain⟨c,hcm,hcc⟩:=hf
  simp only[Bool.and_eq_true,beq_iff_eq] at hcc
  obtain⟨d1,d2,d3,d4,d5⟩:=dec_enc (hc.ok c hcm).1
  have hd:=hc.hd c hcm
  rw[hcc.2] at hd
  rw[hd]
  have:=hc.tl.mem hcm
  exact⟨c,hcm,hcc.1,hcc.2,d5,d4,by omega⟩⟩
 have HObj:Sl (∀ k:Nat,k<H->f k=false->¬ ∃ c∈cs,c.tag=1/\c.g=k):=⟨λ k hk hf=>by
  rw[hst k (by omega)] at hf
  unfold Ar at hf
  rw[List.any_eq_false] at hf
  rintro ⟨c,hcm,h1,h2⟩
  exact hf c hcm (by simp[h1,h2])⟩
 obtain⟨w1,hw1⟩:∃ w1,w1=w.alloc (.cells #[.slice va n vc] 33):=⟨_,rfl⟩
 have k1:Kp Ab w w1:=by rw[hw1];exact (Kr _ w).alloc _
 have b1:w1.heap[w.heap.size]?=some (.cells #[.slice va n vc] 33 (0,0)):=by rw[hw1];exact wN w _
 have c0:=cell_of_one b1
 have HK1:=sE k1
 clear hn hsp hc hst hH hsm b1 k1
 go_enter func61,ntmps61
 go_wp2_with fail
 rw[<- hw1]
 clear hw1
 refine(HStt.out w1 HK1.out).mono ?_
 rintro e w2 ⟨sp,sq,rfl,hp1,hp2,hbt,k2⟩
 have HBt:=sE hbt
 have HK2:Sl (Kp Ab w w2):=⟨HK1.out.then' k2⟩
 replace c0:=k2.cell c0 (λ h=>h)
 clear hbt k2 HStt
 go_wp2_with fail
 refine(HGr.out w2 HK2.out).mono ?_
 rintro e w3 ⟨rfl,rfl⟩
 obtain⟨w4,hmk,hF4,k4⟩:=MakeBools w3 H (by omega)
 have lsp:sp<w3.heap.size/\sq<w3.heap.size:=⟨HBt.out.lt_p',HBt.out.lt_q'⟩
 have HF4:Sl (Dq w4 w3.heap.size H (CX (es.take 0))):=⟨hF4⟩
 have HK4:=sE k4
 replace c0:=k4.cell c0 (λ h=>h)
 obtain⟨fb,hfb⟩:∃ fb,w3.heap.size=fb:=⟨_,rfl⟩
 rw[hfb] at hmk HF4 lsp
 have HFb:=sE hfb
 have l4:fb<w4.heap.size:=by
  obtain⟨cs',h,-⟩:=HF4.out
  exact lZ h
 clear hF4 k4
 go_wp2_with fail
 clear hmk
 go_loopw [7,9,10,11,12,23] (λ x7 _ _ _ _ x23 wr=>∃ (j:Nat) (last:Int),j<=n/\x23=.int .i64 (j:Nat)/\x7=.int .i64 last/\-1<=last/\LastF es j last/\(∀ i y,i<j->es[i]?=some y->OkS cs es i y)/\Dq wr fb H (CX (es.take j))/\Kp Ab w3 wr) (λ _ _ _ _ _ x23 _=>n-(intOf x23).toNat)
 case atStart=>exact ⟨0,-1,Nat.zero_le _,rfl,rfl,Int.le_refl _,⟨λ i y h=>by omega,.inl rfl⟩,λ i y h=>by omega,HF4.out,HK4.out⟩
 case round=>
  obtain⟨j,last,hj,rfl,rfl,hl1,hla,hok,hfu,hk⟩:=hrel
  have HK:=sE hk
  have HLa:=sE hla
  have HOk:=sE hok
  have HFu:=sE hfu
  by_cases hjl:j<n
  .have hjl':(j:Int)<(n:Int):=by omega
   obtain⟨va',vc',e,hx⟩:=HR.out
   injection e with e1 e3 e2
   clear e3
   subst e1 e2
   obtain⟨x,hxj⟩:∃ x,es[j]?=some x:=⟨_,List.getElem?_eq_getElem (by rw[HN.out];exact hjl)⟩
   obtain⟨bb,o,rfl,hbb,x0,x1,x2⟩:=hx j x hxj
   have K0:Kp Ab w wr:=HK2.out.then' hk
   replace x0:=K0.cell x0 (λ h=>h)
   replace x1:=K0.cell x1 (λ h=>h)
   replace x2:=K0.cell x2 (λ h=>h)
   have HX:=sE hxj
   obtain⟨xf,xt,xz⟩:=x
   simp only at x0 x1 x2
   obtain⟨wb,hwb⟩:∃ wb,wb=wr.alloc (.cells #[.int .i64 xf,.int .i64 xt,.int .i64 xz] 43):=⟨_,rfl⟩
   have kb:Kp Ab wr wb:=by rw[hwb];exact (Kr _ wr).alloc _
   have bb0:wb.heap[wr.heap.size]?=some (.cells #[.int .i64 xf,.int .i64 xt,.int .i64 xz] 43 (0,0)):=by rw[hwb];exact wN wr _
   obtain⟨y0,y1,y2⟩:=cells3 bb0
   have HKb:Sl (Kp Ab w wb):=⟨K0.then' kb⟩
   have HKr:Sl (Kp Ab w3 wb):=⟨hk.then' kb⟩
   have HBb:=sE bb0
   have HFb2:=sE (hfu.keep kb (λ h=>h))
   clear hx hxj hk K0 kb bb0 hla hok hfu
   go_upto_region 9 with fail
   rw[<- hwb]
   clear hwb x0 x1 x2
   go_cut [10,11] from 27 to 34 (λ x10 x11 wx=>ChkCut W H xf wb x10 x11 wx)
   case first=>
    have kk0:Kp Ab wb wb.drew:=(Kr _ _).drew
    refine wp_region_held_drew (S:=λ w'=>w'.cell? ⟨wr.heap.size,0,none⟩=some (.int .i64 xf)) (by kernel_rfl) ?_ (λ qZ=>?_)
    .exact y0
    refine Ao 0 ?_;refine Ao 2 ?_;refine Ao 3 ?_
    try simp only[Aw]
    refine AV [1,8] ?_
    refine Ai rfl (λ K hK=>?_) ?_
    .skip
     go_simp
     with_reducible refine(HAr.out _ (HKb.out.then' kk0)).mono ?_
     rintro e wz ⟨rfl,rfl⟩
     refine hK _ _ ?_ (λ qZ=>?_)
     .exact Ac kk0 y0
     clear hK K
     try simp only[Aw]
     refine AV [4,8] ?_
     refine Ai rfl (λ K hK=>?_) ?_
     .skip
      go_simp
      with_reducible refine(HHd.out xf _ (HKb.out.then' kk0)).mono ?_
      rintro e wh4 ⟨tag,ty,ln,sz,E,rfl,kh3x,-,hE2,hE3⟩
      obtain⟨ha,hha⟩:∃ ha:Array Value,Value.agg #[.int .u8 (tag:Nat),.int .i64 (ty:Nat),.int .i64 (ln:Nat),.int .i64 (sz:Nat)]=.agg ha:=⟨_,rfl⟩
      rw[hha]
      have kh3:=(kk0).then' kh3x
      refine hK _ _ ?_ (λ qZ=>?_)
      .exact Ac kh3 y0
      clear hK K
      try simp only[Aw]
      refine Ao 5 ?_;refine Ao 6 ?_;refine Ao 7 ?_
      try simp only[Aw]
      refine AV [8] ?_
      refine Ag rfl (λ K hK=>?_)
      go_simp
      obtain⟨wa5,hwa5⟩:∃ wa5,wa5=World.alloc wh4 (.cells #[.int .u8 0,.int .i64 0,.int .i64 0,.int .i64 0] 52):=⟨_,rfl⟩
      rw[<- hwa5]
      have ka6x:Kp Ab wh4 wa5:=by rw[hwa5];exact (Kr Ab wh4).alloc _
      have ka6b:wa5.heap[wh4.heap.size]?=some (.cells #[.int .u8 0,.int .i64 0,.int .i64 0,.int .i64 0] 52 (0,0)):=by rw[hwa5];exact wN wh4 _
      have ka6:Kp Ab wb wa5:=(kh3).then' ka6x
      have ka6l:wb.heap.size<=wh4.heap.size:=(kh3).size
      clear hwa5
      refine hK _ _ ?_ (λ qZ=>?_)
      .exact Ac ka6 y0
      clear hK K
      try simp only[Aw]
      refine AV [9] ?_
      refine Ag rfl (λ K hK=>?_)
      have HAE:Sl (ha.toList=[.int .u8 (tag:Nat),.int .i64 (ty:Nat),.int .i64 (ln:Nat),.int .i64 (sz:Nat)]):=⟨by injection hha with h;rw [<- h]⟩
      have hszA:ha.size=4:=by have:=congrArg List.length HAE.out;simpa using this
      have HST:=sE (run_storeCells_at (P:=prog) (wh4.heap.size) 0 52 ha.toList 0 _ _ ka6b (by rw[HAE.out];exact Nat.le_refl _) (by rw[HAE.out];intro v hv;simp at hv;rcases hv with rfl|rfl|rfl|rfl <;> rfl))
      clear hha
      go_simp
      rw[HST.out]
      have hnb:=setRow_heap _ (wh4.heap.size) _ [.int .u8 (tag:Nat),.int .i64 (ty:Nat),.int .i64 (ln:Nat),.int .i64 (sz:Nat)].toArray _ _ ka6b
      rw[HAE.out]
      go_simp
      obtain⟨wn,hwn⟩:∃ wn:World,wn=World.setRow wa5 (wh4.heap.size) #[.int .u8 (tag:Nat),.int .i64 (ty:Nat),.int .i64 (ln:Nat),.int .i64 (sz:Nat)]:=⟨_,rfl⟩
      have kn:Kp Ab wb wn:=by rw[hwn];exact ((ka6.Al _).trans (Cn _ _ _) (λ _ _ h=>h)).mono (λ k hk h=>by have h1:k=wh4.heap.size:=h;omega)
      have hbn:wn.heap[wh4.heap.size]?=some (.cells #[.int .u8 (tag:Nat),.int .i64 (ty:Nat),.int .i64 (ln:Nat),.int .i64 (sz:Nat)] 52 (0,0)):=by rw[hwn];exact hnb
      rw[<- hwn]
      clear hwn hnb HST
      refine hK _ _ ?_ (λ qZ=>?_)
      .exact Ac kn y0
      clear hK K
      try simp only[Aw]
      refine Ao 10 ?_
      try simp only[Aw]
      refine wpAnyH_done (by kernel_rfl) ?_ _
      go_wp2_with fail
      go_meet
      exact⟨_,tag,ty,ln,sz,E,rfl,rfl,hbn,kn,hE2,hE3⟩
     .refine Ai rfl (λ K hK=>?_) AllReadyH.nil
      go_simp
      obtain⟨wa7,hwa7⟩:∃ wa7,wa7=(World.alloc wb (.cells #[.int .u8 0,.int .i64 0,.int .i64 0,.int .i64 0] 52)).drew:=⟨_,rfl⟩
      rw[<- hwa7]
      have ka8x:Kp Ab wb wa7:=by rw[hwa7];exact ((Kr Ab wb).alloc _).drew
      have ka8b:wa7.heap[wb.heap.size]?=some (.cells #[.int .u8 0,.int .i64 0,.int .i64 0,.int .i64 0] 52 (0,0)):=by rw[hwa7];exact wN wb _
      have ka8:Kp Ab wb wa7:=ka8x
      have ka8l:wb.heap.size<=wb.heap.size:=Nat.le_refl _
      clear hwa7
      refine hK _ _ ?_ (λ qZ=>?_)
      .exact Ac ka8 y0
      clear hK K
      try simp only[Aw]
      refine AV [4] ?_
      refine Ag rfl (λ K hK=>?_)
      go_simp
      with_reducible refine(HHd.out xf _ (HKb.out.then' ka8)).mono ?_
      rintro e wh10 ⟨tag,ty,ln,sz,E,rfl,kh9x,-,hE2,hE3⟩
      obtain⟨ha,hha⟩:∃ ha:Array Value,Value.agg #[.int .u8 (tag:Nat),.int .i64 (ty:Nat),.int .i64 (ln:Nat),.int .i64 (sz:Nat)]=.agg ha:=⟨_,rfl⟩
      rw[hha]
      have kh9:=(ka8).then' kh9x
      have ab11:=kh9x.at_ ka8b (λ h=>h)
      refine hK _ _ ?_ (λ qZ=>?_)
      .exact Ac kh9 y0
      clear hK K
      try simp only[Aw]
      refine Ao 5 ?_;refine Ao 6 ?_;refine Ao 7 ?_
      try simp only[Aw]
      refine AV [9] ?_
      refine Ag rfl (λ K hK=>?_)
      have HAE:Sl (ha.toList=[.int .u8 (tag:Nat),.int .i64 (ty:Nat),.int .i64 (ln:Nat),.int .i64 (sz:Nat)]):=⟨by injection hha with h;rw [<- h]⟩
      have hszA:ha.size=4:=by have:=congrArg List.length HAE.out;simpa using this
      have HST:=sE (run_storeCells_at (P:=prog) (wb.heap.size) 0 52 ha.toList 0 _ _ ab11 (by rw[HAE.out];exact Nat.le_refl _) (by rw[HAE.out];intro v hv;simp at hv;rcases hv with rfl|rfl|rfl|rfl <;> rfl))
      clear hha
      go_simp
      rw[HST.out]
      have hnb:=setRow_heap _ (wb.heap.size) _ [.int .u8 (tag:Nat),.int .i64 (ty:Nat),.int .i64 (ln:Nat),.int .i64 (sz:Nat)].toArray _ _ ab11
      rw[HAE.out]
      go_simp
      obtain⟨wn,hwn⟩:∃ wn:World,wn=World.setRow wh10 (wb.heap.size) #[.int .u8 (tag:Nat),.int .i64 (ty:Nat),.int .i64 (ln:Nat),.int .i64 (sz:Nat)]:=⟨_,rfl⟩
      have kn:Kp Ab wb wn:=by rw[hwn];exact ((kh9.Al _).trans (Cn _ _ _) (λ _ _ h=>h)).mono (λ k hk h=>by have h1:k=wb.heap.size:=h;omega)
      have hbn:wn.heap[wb.heap.size]?=some (.cells #[.int .u8 (tag:Nat),.int .i64 (ty:Nat),.int .i64 (ln:Nat),.int .i64 (sz:Nat)] 52 (0,0)):=by rw[hwn];exact hnb
      rw[<- hwn]
      clear hwn hnb HST
      refine hK _ _ ?_ (λ qZ=>?_)
      .exact Ac kn y0
      clear hK K
      try simp only[Aw]
      refine Ao 10 ?_
      try simp only[Aw]
      refine wpAnyH_done (by kernel_rfl) ?_ _
      go_wp2_with fail
      go_meet
      exact⟨_,tag,ty,ln,sz,E,rfl,rfl,hbn,kn,hE2,hE3⟩
    .refine Ai rfl (λ K hK=>?_) AllReadyH.nil
     go_simp
     obtain⟨wa12,hwa12⟩:∃ wa12,wa12=(World.alloc wb (.cells #[.int .u8 0,.int .i64 0,.int .i64 0,.int .i64 0] 52)).drew:=⟨_,rfl⟩
     rw[<- hwa12]
     have ka13x:Kp Ab wb wa12:=by rw[hwa12];exact ((Kr Ab wb).alloc _).drew
     have ka13b:wa12.heap[wb.heap.size]?=some (.cells #[.int .u8 0,.int .i64 0,.int .i64 0,.int .i64 0] 52 (0,0)):=by rw[hwa12];exact wN wb _
     have ka13:Kp Ab wb wa12:=ka13x
     have ka13l:wb.heap.size<=wb.heap.size:=Nat.le_refl _
     clear hwa12
     refine hK _ _ ?_ (λ qZ=>?_)
     .exact Ac ka13 y0
     clear hK K
     try simp only[Aw]
     refine AV [1] ?_
     refine Ag rfl (λ K hK=>?_)
     go_simp
     with_reducible refine(HAr.out _ (HKb.out.then' ka13)).mono ?_
     rintro e wz ⟨rfl,rfl⟩
     refine hK _ _ ?_ (λ qZ=>?_)
     .exact Ac ka13 y0
     clear hK K
     try simp only[Aw]
     refine AV [4] ?_
     refine Ag rfl (λ K hK=>?_)
     go_simp
     with_reducible refine(HHd.out xf _ (HKb.out.then' ka13)).mono ?_
     rintro e wh17 ⟨tag,ty,ln,sz,E,rfl,kh16x,-,hE2,hE3⟩
     obtain⟨ha,hha⟩:∃ ha:Array Value,Value.agg #[.int .u8 (tag:Nat),.int .i64 (ty:Nat),.int .i64 (ln:Nat),.int .i64 (sz:Nat)]=.agg ha:=⟨_,rfl⟩
     rw[hha]
     have kh16:=(ka13).then' kh16x
     have ab18:=kh16x.at_ ka13b (λ h=>h)
     refine hK _ _ ?_ (λ qZ=>?_)
     .exact Ac kh16 y0
     clear hK K
     try simp only[Aw]
     refine Ao 5 ?_;refine Ao 6 ?_;refine Ao 7 ?_
     try simp only[Aw]
     refine AV [9] ?_
     refine Ag rfl (λ K hK=>?_)
     have HAE:Sl (ha.toList=[.int .u8 (tag:Nat),.int .i64 (ty:Nat),.int .i64 (ln:Nat),.int .i64 (sz:Nat)]):=⟨by injection hha with h;rw [<- h]⟩
     have hszA:ha.size=4:=by have:=congrArg List.length HAE.out;simpa using this
     have HST:=sE (run_storeCells_at (P:=prog) (wb.heap.size) 0 52 ha.toList 0 _ _ ab18 (by rw[HAE.out];exact Nat.le_refl _) (by rw[HAE.out];intro v hv;simp at hv;rcases hv with rfl|rfl|rfl|rfl <;> rfl))
     clear hha
     go_simp
     rw[HST.out]
     have hnb:=setRow_heap _ (wb.heap.size) _ [.int .u8 (tag:Nat),.int .i64 (ty:Nat),.int .i64 (ln:Nat),.int .i64 (sz:Nat)].toArray _ _ ab18
     rw[HAE.out]
     go_simp
     obtain⟨wn,hwn⟩:∃ wn:World,wn=World.setRow wh17 (wb.heap.size) #[.int .u8 (tag:Nat),.int .i64 (ty:Nat),.int .i64 (ln:Nat),.int .i64 (sz:Nat)]:=⟨_,rfl⟩
     have kn:Kp Ab wb wn:=by rw[hwn];exact ((kh16.Al _).trans (Cn _ _ _) (λ _ _ h=>h)).mono (λ k hk h=>by have h1:k=wb.heap.size:=h;omega)
     have hbn:wn.heap[wb.heap.size]?=some (.cells #[.int .u8 (tag:Nat),.int .i64 (ty:Nat),.int .i64 (ln:Nat),.int .i64 (sz:Nat)] 52 (0,0)):=by rw[hwn];exact hnb
     rw[<- hwn]
     clear hwn hnb HST
     refine hK _ _ ?_ (λ qZ=>?_)
     .exact Ac kn y0
     clear hK K
     try simp only[Aw]
     refine Ao 10 ?_
     try simp only[Aw]
     refine wpAnyH_done (by kernel_rfl) ?_ _
     go_wp2_with fail
     go_meet
     exact⟨_,tag,ty,ln,sz,E,rfl,rfl,hbn,kn,hE2,hE3⟩
   case rest=>
    obtain⟨hb,tag,ty,ln,sz,E,rfl,rfl,hhb,kc,hE2,hE3⟩:=hcut
    replace y0:=kc.cell y0 (λ h=>h)
    replace y1:=kc.cell y1 (λ h=>h)
    replace y2:=kc.cell y2 (λ h=>h)
    obtain⟨z0,z1,z2,z3⟩:=Ay hhb
    have HKc:Sl (Kp Ab w wc):=⟨HKb.out.then' kc⟩
    have HKrc:Sl (Kp Ab w3 wc):=⟨HKr.out.then' kc⟩
    have HBc:=sE (kc.at_ HBb.out (λ h=>h))
    have HFc:=sE (HFb2.out.keep kc (λ h=>h))
    have HHs:=sE (Has_int xf H sp sq f wc (HBt.out.keep HKrc.out (λ h=>h) (λ h=>h)))
    clear z0 z1 z2 kc HKb HKr HBb HFb2
    by_cases hE:E=0
    case neg=>
     have p36:((E:Int) !=0)=true:=by rw[bne_iff_ne];omega
     have HNo:Sl (¬ FC cs es):=⟨λ hfit=>by
      have hk:=hfit j _ HX.out
      obtain⟨c,hcm,c1,c2,c3⟩:=hk.obj
      have hlt:=HTl.out.mem hcm
      obtain⟨c',h1,h2,h3,h4,h5,h6⟩:∃ c',c'∈cs/\c'.tag=1/\c'.g=c.g/\BJ (W (2*c.g))=true/\DL (W (2*c.g))=c'.sz/\c.g+c'.sz<=H:=HOb.out c.g (by omega) (by
       cases hf:f c.g with
       |true=>rfl
       |false=>exact absurd ⟨c,hcm,c1,rfl⟩ (HObj.out c.g (by omega) hf))
      exact hE (hE3 c.g c2 (by omega) h4)⟩
     clear hE hE2 hE3 hhb z3
     go_wp2_with fail
     exact bodyPost_ret (v:=.int .i64 2) (by simp[results,results61,go_sem]) rfl ⟨.inr ⟨HNo.out,rfl⟩,HKc.out⟩
    case pos=>
    subst hE
    obtain⟨k,rfl,hkH,hdk,rfl⟩:=hE2 rfl
    have hhas:hasI f H (k:Nat)=f k:=by unfold hasI;simp [hkH]
    rw[hhas] at HHs
    obtain⟨sz,hsz⟩:∃ sz,DL (W (2*k))=sz:=⟨_,rfl⟩
    rw[hsz] at z3 hhb
    clear hE2 hE3 hhas
    cases hfk:f k with
    |false=>
     have HNo:Sl (¬ FC cs es):=⟨λ hfit=>by
      obtain⟨c,hcm,c1,c2,c3⟩:=(hfit j _ HX.out).obj
      exact HObj.out k hkH hfk ⟨c,hcm,c1,by simp only at c2;omega⟩⟩
     clear hdk hsz hhb
     go_wp2_with fail
     refine HHs.out.mono ?_
     rintro e wd ⟨rfl,kd⟩
     rw[hfk]
     have HKd:=sE (HKc.out.then' kd)
     have y0':=kd.cell y0 (λ h=>h)
     have y1':=kd.cell y1 (λ h=>h)
     have y2':=kd.cell y2 (λ h=>h)
     have z3':=kd.cell z3 (λ h=>h)
     clear kd y0 y1 y2 z3
     go_wp2_with fail
     exact bodyPost_ret (v:=.int .i64 2) (by simp[results,results61,go_sem]) rfl ⟨.inr ⟨HNo.out,rfl⟩,HKd.out⟩
    |true=>
     obtain⟨c,hcm,c1,c2,c3,c4,c5⟩:=HOb.out k hkH hfk
     rw[hsz] at c4
     have HCm:Sl (c∈cs/\c.tag=1/\c.g=k/\c.sz=sz):=⟨⟨hcm,c1,c2,c4.symm⟩⟩
     have hfitH:k+sz<=H:=by omega
     have HUq:Sl (∀ d∈cs,d.tag=1->((k:Nat):Int)=(d.g:Nat)->d.sz=sz):=⟨λ d hd d1 d2=>by
      have:d=c:=HTl.out.only hd hcm (by omega)
      rw[this,<- c4]⟩
     clear hcm c1 c2 c3 c4 c5 hdk hsz hhb
     by_cases hxz:(sz:Int)=xz
     case neg=>
      have p49:((sz:Int) !=xz)=true:=by rw[bne_iff_ne];exact hxz
      have HNo:Sl (¬ FC cs es):=⟨λ hfit=>by
       obtain⟨d,hd,d1,d2,d3⟩:=(hfit j _ HX.out).obj
       have:=HUq.out d hd d1 d2
       simp only at d3
       omega⟩
      clear hxz
      go_wp2_with fail
      refine HHs.out.mono ?_
      rintro e wd ⟨rfl,kd⟩
      rw[hfk]
      have HKd:=sE (HKc.out.then' kd)
      have y0':=kd.cell y0 (λ h=>h)
      have y1':=kd.cell y1 (λ h=>h)
      have y2':=kd.cell y2 (λ h=>h)
      have z3':=kd.cell z3 (λ h=>h)
      clear kd y0 y1 y2 z3
      go_wp2_with fail
      exact bodyPost_ret (v:=.int .i64 2) (by simp[results,results61,go_sem]) rfl ⟨.inr ⟨HNo.out,rfl⟩,HKd.out⟩
     case pos=>
     have p49:((sz:Int) !=xz)=false:=by rw[bne_eq_false_iff_eq];exact hxz
     by_cases ht0:xt<0
     case pos=>
      have HNo:Sl (¬ FC cs es):=⟨λ hfit=>by
       have:=(hfit j _ HX.out).pos
       simp only at this
       omega⟩
      clear hxz
      go_wp2_with fail
      refine HHs.out.mono ?_
      rintro e wd ⟨rfl,kd⟩
      rw[hfk]
      have HKd:=sE (HKc.out.then' kd)
      have y0':=kd.cell y0 (λ h=>h)
      have y1':=kd.cell y1 (λ h=>h)
      have y2':=kd.cell y2 (λ h=>h)
      have z3':=kd.cell z3 (λ h=>h)
      clear kd y0 y1 y2 z3
      go_wp2_with fail
      exact bodyPost_ret (v:=.int .i64 2) (by simp[results,results61,go_sem]) rfl ⟨.inr ⟨HNo.out,rfl⟩,HKd.out⟩
     case neg=>
     by_cases htf:(k:Int)<xt
     case pos=>
      have HNo:Sl (¬ FC cs es):=⟨λ hfit=>by
       have:=(hfit j _ HX.out).le
       simp only at this
       omega⟩
      clear hxz
      go_wp2_with fail
      refine HHs.out.mono ?_
      rintro e wd ⟨rfl,kd⟩
      rw[hfk]
      have HKd:=sE (HKc.out.then' kd)
      have y0':=kd.cell y0 (λ h=>h)
      have y1':=kd.cell y1 (λ h=>h)
      have y2':=kd.cell y2 (λ h=>h)
      have z3':=kd.cell z3 (λ h=>h)
      clear kd y0 y1 y2 z3
      go_wp2_with fail
      exact bodyPost_ret (v:=.int .i64 2) (by simp[results,results61,go_sem]) rfl ⟨.inr ⟨HNo.out,rfl⟩,HKd.out⟩
     case neg=>
     by_cases hla:(k:Int)<=last
     case pos=>
      have HNo:Sl (¬ FC cs es):=⟨λ hfit=>by
       have:=(HLa.out.iff (by omega)).1 (hfit j _ HX.out).up
       simp only at this
       omega⟩
      clear hxz
      go_wp2_with fail
      refine HHs.out.mono ?_
      rintro e wd ⟨rfl,kd⟩
      rw[hfk]
      have HKd:=sE (HKc.out.then' kd)
      have y0':=kd.cell y0 (λ h=>h)
      have y1':=kd.cell y1 (λ h=>h)
      have y2':=kd.cell y2 (λ h=>h)
      have z3':=kd.cell z3 (λ h=>h)
      clear kd y0 y1 y2 z3
      go_wp2_with fail
      exact bodyPost_ret (v:=.int .i64 2) (by simp[results,results61,go_sem]) rfl ⟨.inr ⟨HNo.out,rfl⟩,HKd.out⟩
     case neg=>
      obtain⟨t,rfl⟩:=Int.eq_ofNat_of_zero_le (show 0<=xt by omega)
      subst hxz
      have HOkj:Sl ((∀ g:Nat,t<=g->g<t+sz->CX (es.take j) g=false)->OkS cs es j ((k:Nat),(t:Nat),(sz:Nat))):=⟨λ hfree=>⟨by
       obtain⟨h1,h2,h3,h4⟩:=HCm.out
       exact⟨c,h1,h2,by simp only;omega,by simp only;omega⟩,by simp only;omega,by simp only;omega,(HLa.out.iff (by simp only;omega)).2 (by simp only;omega),λ g g1 g2=>hfree g (by simp only at g1;omega) (by simp only at g2;omega)⟩⟩
      have HTk:Sl (∀ g,CX (es.take (j+1)) g=(CX (es.take j) g||decide (t<=g/\g<t+sz))):=⟨λ g=>takenS_nat HX.out rfl rfl g⟩
      have HNx:Sl (LastF es (j+1) (k:Nat)):=⟨HLa.out.next HX.out (by simp only;omega)⟩
      have htk:t<=k:=by omega
      clear ht0 htf p49
      have p49:((sz:Int) !=(sz:Int))=false:=by simp
      have ht0:¬ (t:Int)<0:=by omega
      have htf:¬ (k:Int)<(t:Int):=by omega
      go_wp2_with fail
      refine HHs.out.mono ?_
      rintro e wd ⟨rfl,kd⟩
      rw[hfk]
      have HKd:=sE (HKc.out.then' kd)
      have HKrd:=sE (HKrc.out.then' kd)
      have HBd:=sE (kd.at_ HBc.out (λ h=>h))
      have HFd:=sE (HFc.out.keep kd (λ h=>h))
      have y0':=kd.cell y0 (λ h=>h)
      have y1':=kd.cell y1 (λ h=>h)
      have y2':=kd.cell y2 (λ h=>h)
      have z3':=kd.cell z3 (λ h=>h)
      have hnf:¬ wr.heap.size=fb:=by
       obtain⟨cs',h,-⟩:=HFu.out
       have:=lZ h
       omega
      clear kd y0 y1 y2 z3
      go_wp2_with fail
      have HBd':=sE HBd.out
      clear y0' y1' y2' z3'
      go_loopw [12] (λ x12 wq=>∃ q:Nat,t<=q/\q<=t+sz/\x12=.int .i64 (q:Nat)/\(∀ g,t<=g->g<q->CX (es.take j) g=false)/\Dq wq fb H (λ p=>CX (es.take j) p||decide (t<=p/\p<q))/\Kp (λ k=>k=fb) wd wq) (λ x12 _=>t+sz-(intOf x12).toNat)
      case atStart=>
       refine⟨t,Nat.le_refl _,by omega,rfl,λ g g1 g2=>by omega,?_,Kr _ _⟩
       obtain⟨cs',h1,h2,h3⟩:=HFd.out
       exact⟨cs',h1,h2,λ p hp=>by
        rw[h3 p hp]
        have:¬ (t<=p/\p<t):=by omega
        simp[this]⟩
      case round=>
       obtain⟨q,hq1,hq2,rfl,hqf,hfq,hkq⟩:=hrel
       obtain⟨wq,rfl⟩:∃ wq:World,wq=wr:=⟨_,rfl⟩
       have HFq:=sE hfq
       have HKq:=sE hkq
       have HQf:=sE hqf
       obtain⟨s0,s1,s2⟩:=cells3 (hkq.at_ HBd.out hnf)
       have u8:IntKind.i64.wrap ((t:Int)+(sz:Int))=(t:Int)+(sz:Int):=by rw[IntKind.wrap_i64];omega
       clear hfq hkq hqf
       by_cases hqe:q<t+sz
       .have d1:(q:Int)<(t:Int)+(sz:Int):=by omega
        have hqH:(q:Int)<(H:Int):=by omega
        have hbit:=HFq.out.bit (j:=q) (by omega)
        have hnq:¬ (t<=q/\q<q):=by omega
        cases hap:CX (es.take j) q with
        |true=>
         simp only[hap,Bool.true_or] at hbit
         have HNo:Sl (¬ FC cs es):=⟨λ hfit=>by
          have:=(hfit j _ HX.out).free q (by simp only;omega) (by simp only;omega)
          rw[this] at hap
          cases hap⟩
         have HKz:Sl (Kp Ab w wq):=⟨((HKd.out.Al _).trans HKq.out (λ _ _ h=>h)).mono (λ i hi h=>by have h':i=fb:=h;have:=HK2.out.size;omega)⟩
         clear hap hnq
         go_wp2_with fail
         exact bodyPost_ret (v:=.int .i64 2) (by simp[results,results61,go_sem]) rfl ⟨.inr ⟨HNo.out,rfl⟩,HKz.out⟩
        |false=>
         simp only[hap,hnq,decide_false,Bool.or_false] at hbit
         have hfr:=HFq.out.free q
         have HSt:Sl (Dq (wq.setCell ⟨fb,q,none⟩ (.bool true)) fb H (λ p=>CX (es.take j) p||decide (t<=p/\p<q+1))):=⟨HFq.out.store λ i hi=>by
          by_cases e:i=q
          .subst e
           have:t<=i/\i<i+1:=by omega
           simp[this]
          .have:(t<=i/\i<q+1) ↔ (t<=i/\i<q):=by omega
           simp[this,e]⟩
         have HKs:=sE (HKq.out.setCell (p:=⟨fb,q,none⟩) (λ _=>rfl) (.bool true))
         have HQ2:Sl (∀ g,t<=g->g<q+1->CX (es.take j) g=false):=⟨λ g g1 g2=>by
          by_cases e:g=q
          .rw [e];exact hap
          .exact HQf.out g g1 (by omega)⟩
         clear hap hnq
         go_wp2_with fail
         exact⟨⟨q+1,by omega,by omega,by go_num,HQ2.out,HSt.out,HKs.out⟩,by simp only[intOf];omega⟩
       .have d1:¬ (q:Int)<(t:Int)+(sz:Int):=by omega
        obtain rfl:q=t+sz:=by omega
        have HFe:Sl (Dq wq fb H (CX (es.take (j+1)))):=⟨by
         obtain⟨cs',h1,h2,h3⟩:=HFq.out
         exact⟨cs',h1,h2,λ p hp=>by rw[h3 p hp,HTk.out p]⟩⟩
        have HKe:Sl (Kp Ab w3 wq):=⟨((HKrd.out.Al _).trans HKq.out (λ _ _ h=>h)).mono (λ i hi h=>by have h':i=fb:=h;omega)⟩
        have HOn:Sl (∀ i y,i<j+1->es[i]?=some y->OkS cs es i y):=⟨λ i y hi hy=>by
         by_cases e:i=j
         .subst e
          have:=HX.out.symm.trans hy
          injection this with this
          rw[<- this]
          exact HOkj.out HQf.out
         .exact HOk.out i y (by omega) hy⟩
        clear HFq HKq hqe hq1 hq2
        go_wp2_with fail
        exact⟨⟨j+1,(k:Nat),by omega,by go_num,rfl,by omega,HNx.out,HOn.out,HFe.out,HKe.out⟩,by simp only[intOf];omega⟩
  .obtain rfl:j=n:=by omega
   have hjl':¬ (j:Int)<(j:Int):=by omega
   have HFin:Sl (FC cs es):=⟨λ i y hy=>HOk.out i y (by have:=(gE.1 hy).1;have:=HN.out;omega) hy⟩
   clear hk hla hok hfu
   go_wp2_with fail
   exact bodyPost_ret (v:=.int .i64 0) (by simp[results,results61,go_sem]) rfl ⟨.inl ⟨HFin.out,rfl⟩,HK2.out.then' HK.out⟩

end

section
open Go.RowKit

theorem refsT_nodup(k wds:Int)(M:Nat)(n:Int):(Bc k wds M n).Nodup:=by
 unfold Bc AJ
 exact List.nodup_range.filter _

def RdW(a q n:Nat)(W0:Nat->Nat)(g:Nat)(xs pre:List Nat)(A:World):Prop:=
 ∃ Wc,ArenaAt A a q Wc n/\∀ s∈xs,s ∉ pre->Wc (2*g+1+s)=W0 (2*g+1+s)

set_option maxRecDepth 20000 in
theorem words_iter(bx b a q n:Nat)(W0:Nat->Nat)(c:Cel)(k wds:Int)(m:Nat)(w:World)(hA:ArenaAt w a q W0 n)(hV:Bt w b a c k wds m)(hE:AP k wds m (c.ln:Nat)=0)(hM:m<18446744073709551616)(hfit:2*c.g+1+AL k wds (c.ln:Nat)<=(n:Nat))
  (hb:w.heap[bx]?=some (.cells #[.pointer (some ⟨b,0,none⟩)] 132 (0,0))) {R X:Nat->Prop} (hR:∀ i,R i->i<w.heap.size/\¬ i=bx/\¬ i=b):
  IterG prog 112 #[.pointer (some ⟨bx,0,none⟩)] (λ s=>#[.int .i64 (s:Nat),.int .u64 (W0 (2*c.g+1+s):Nat)]) (Bc k wds m (c.ln:Nat)) Ab R X true (λ pre _ A=>RdW a q n W0 c.g (Bc k wds m (c.ln:Nat)) pre A) w:=by
 intro l J Jx S0 W hW hl1 hl2 hSR hJ hJx hY h0
 have hS:∀ pre S A,J pre S A->∀ k,S k->(R k\/W.heap.size<=k)/\k<A.heap.size:=λ pre S A h=>(hSR pre S A h).2
 have lbx:=lZ hb
 have lbv:=lZ hV
 have bW:=hW.at_ hb (λ h=>h)
 have vW:=hV.Ad hW
 have aW:=hA.Ad hW
 have HVw:=sE vW
 have HBw:=sE bW
 have hlen:=Eh (M:=m) hE
 have HVr:=sE (VRefs_at b a q n W0 c k wds m W aW vW hE hM hfit)
 have HLd:Sl (∀ (s:Nat) Wc W',s∈Bc k wds m (c.ln:Nat)->ArenaAt W' a q Wc n->Bt W' b a c k wds m->Calls prog 18 #[.pointer (some ⟨b,0,none⟩),.int .i64 (s:Nat)] W' λ e w'=>e=.returned (.tuple #[.int .u64 (Wc (2*c.g+1+s):Nat),.int .i64 0])/\Kp Ab W' w'):=⟨λ s Wc W' hs hA' hV'=>by
  have:=FO hE hs
  exact FI s b a q n Wc c k wds m W' hA' hV' hE this (by omega)⟩
 have hnd:=refsT_nodup k wds m (c.ln:Nat)
 have HRd:Sl (∀ pre S A,J pre S A->RdW a q n W0 c.g (Bc k wds m (c.ln:Nat)) pre A):=⟨λ pre S A h=>(hSR pre S A h).1⟩
 obtain⟨xs,hxs⟩:∃ xs,Bc k wds m (c.ln:Nat)=xs:=⟨_,rfl⟩
 have HXS:=sE hxs
 have HY:=sE hY
 rw[hxs] at hlen HLd HY HRd HVr hnd ⊢
 have HND:=sE hnd
 have cb:=cell_of_one bW
 have z1:=hW.size
 have H0:=sE h0
 clear hY hxs vW aW hA hV hfit hM hE bW h0 hb hSR hnd
 refine(callsIn_wide (n:=0)).1 ?_
 refine callsIn_of_wp func112 rfl trivial ?_
 simp only[ntmps112,List.size_toArray,List.length_cons,List.length_nil,Nat.reduceAdd,Nat.reduceSub,Array.replicate_succ,Array.replicate_zero,List.push_toArray,List.append_toArray,List.nil_append,List.cons_append]
 gi_wp2_with fail
 refine⟨trivial,rfl,?_⟩
 refine(callsIn_wide.2 HVr.out).mono ?_
 rintro e w5 ⟨v,rfl,hown,K5⟩
 obtain⟨va,vc,hva⟩:=AA hown
 subst hva
 obtain⟨L,hL⟩:∃ L,xs.length=L:=⟨_,rfl⟩
 rw[hL] at hown hlen ⊢
 have HL:=sE hL
 have J5:=hJ _ _ _ _ H0.out K5
 have hown5:w5.ownsRow W.heap.size 3 1 (.slice va L vc) L (AC xs):=hown
 have hS5:∀ i,S0 i->¬ (Value.slice va L vc).ownBlock=some i:=λ i hi h=>by
  have:=(hS _ _ _ H0.out i hi).2
  have:=(Af hown5 h).1
  omega
 have HR5:Sl (Kp (λ i=>R i\/i=l) W w5):=⟨K5.Al _⟩
 have HJ5:=sE (And.intro J5 (And.intro hown5 hS5))
 clear hown hown5 hS5 J5 K5 hL cb HVr
 gi_wp2_with fail
 gi_loopw [4,5,6,11] (λ v6 v7 v8 v26 wr=>∃ (j:Nat) (S:Nat->Prop),j<=L/\v26=.int .i64 (j:Nat)/\J (xs.take j) S wr/\Kp (λ i=>R i\/i=l) W wr/\wr.ownsRow W.heap.size 3 1 (.slice va L vc) L (AC xs)/\(∀ i,S i->¬ (Value.slice va L vc).ownBlock=some i)) (λ v6 v7 v8 v26 wr=>L-(intOf v26).toNat)
 case atStart=>exact ⟨0,S0,Nat.zero_le _,rfl,HJ5.out.1,HR5.out,HJ5.out.2.1,HJ5.out.2.2⟩
 case round=>
  obtain⟨j,S,hj,rfl,hjJ,kr,ho,hSn⟩:=hrel
  have HJ:=sE hjJ
  have HKr:=sE kr
  have HO:=sE ho
  have HSn:=sE hSn
  by_cases hjl:j<L
  .have hjl':(j:Int)<(L:Int):=by omega
   obtain⟨x,hx⟩:∃ x,xs[j]?=some x:=⟨xs[j]'(by rw[HL.out];exact hjl),by simp⟩
   obtain⟨rb,hrb,cx⟩:=Db ho hx
   subst hrb
   have hmem:x∈xs:=List.mem_of_getElem? hx
   have hnot:∀ i,i<w.heap.size->(i=bx\/i=b)->¬ (R i\/i=l):=λ i hi h hr=>by
    rcases hr with hr|hr
    .have:=hR i hr;omega
    .omega
   have br:=kr.at_ HBw.out (hnot bx lbx (.inl rfl))
   obtain⟨Wc,hac,hwc⟩:=HRd.out _ _ _ hjJ
   have hxn:x ∉ xs.take j:=λ h=>by
    obtain⟨i,hi,e⟩:=List.mem_iff_getElem.1 h
    rw[List.length_take] at hi
    rw[List.getElem_take] at e
    obtain⟨h1,h2⟩:=gE.1 hx
    exact List.pairwise_iff_getElem.1 HND.out i j (by omega) h1 (by omega) (e.trans h2.symm)
   have hwx:=hwc x hmem hxn
   have cb:=cell_of_one br
   have hlo:=HLd.out x Wc wr hmem hac (HVw.out.keep kr (hnot b lbv (.inr rfl)))
   rw[hwx] at hlo
   have HLo:=sE hlo
   have hsp:xs=xs.take j++x::xs.drop (j+1):=by
    obtain⟨h1,h2⟩:=gE.1 hx
    rw[<- h2,List.getElem_cons_drop h1,List.take_append_drop]
   have hst:xs.take (j+1)=xs.take j++[x]:=by rw[List.take_add_one,hx];rfl
   have HSp:=sE (And.intro hsp hst)
   clear kr ho hSn hjJ hmem hnot br hsp hst hx hlo hwx hwc hac hxn
   gi_wp2_with fail
   refine⟨trivial,rfl,?_⟩
   refine(callsIn_wide.2 HLo.out).mono ?_
   rintro e w6 ⟨rfl,k6⟩
   have J6:=hJ _ _ _ _ HJ.out k6
   have HY6:=sE (HY.out _ S x _ w6 HSp.out.1 J6)
   have O6:=Ah HO.out k6 (λ _ _ h=>h)
   have HO6:=sE O6
   have HK6:=sE (HKr.out.trans k6 (λ _ _ h=>h.elim))
   have HS6:Sl (∀ i,S i->(R i\/W.heap.size<=i)):=⟨λ i hi=>(hS _ _ _ J6 i hi).1⟩
   have hrow6:=Af O6 (b:=rb) rfl
   clear J6 O6 k6 cx cb
   gi_wp2_with fail
   refine CU HY6.out rfl ?_
   intro b' B hB
   rcases hB with ⟨rfl,hk,S',hT,hS'⟩|⟨rfl,-,hE⟩
   .have hnr:∀ i,(S i\/i=l)->¬ (Value.slice (some ⟨rb,0,none⟩) L vc).ownBlock=some i:=λ i hi h=>by
     rcases hi with hi|hi
     .exact HSn.out i hi h
     .have:=(Af HO6.out h).1;omega
    have OB:=Ah HO6.out hk (λ b' hb' hs=>hnr b' hs hb')
    have KB:=HK6.out.trans hk (λ i hi h=>by
     rcases h with h|h
     .rcases HS6.out i h with h|h
      .exact .inl h
      .omega
     .exact .inr h)
    have HF:Sl _:=⟨And.intro hT (And.intro KB (And.intro OB (λ i hi h=>by
     rcases hS' i hi with h'|h'
     .exact HSn.out i h' h
     .have:=(Af HO6.out h).2;omega:∀ i,S' i->¬ (Value.slice (some ⟨rb,0,none⟩) L vc).ownBlock=some i)))⟩
    clear hT KB OB hS' hk hnr
    gi_wp2_with fail
    exact⟨⟨j+1,S',by omega,by go_num,by rw[HSp.out.2];exact HF.out.1,HF.out.2.1,HF.out.2.2.1,HF.out.2.2.2⟩,by simp only[intOf];omega⟩
   .gi_wp2_with fail
    refine bodyPost_ret (results_none rfl _ _ _) rfl ?_
    exact⟨⟨_,rfl⟩,.inr ⟨_,⟨_,by rw[List.append_assoc];exact HSp.out.1.symm⟩,hE⟩⟩
  .have hjl':¬ (j:Int)<(L:Int):=by omega
   gi_wp2_with fail
   go_end0
   exact⟨⟨_,rfl⟩,.inl ⟨S,by have:=HJ.out;rwa [List.take_of_length_le (by rw[HL.out];omega)] at this⟩⟩

end

section
open Go.RowKit

end

end Go.Proofs.YtmfajopmppfldaaGreatDoor
