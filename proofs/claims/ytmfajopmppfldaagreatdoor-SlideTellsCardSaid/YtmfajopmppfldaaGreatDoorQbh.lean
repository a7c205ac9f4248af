/-
  Lemmas for the laws, together: TurnP, TurnM, TurnW.
-/
import Derived.Test.YtmfajopmppfldaaGreatDoorQaw
import Derived.Test.YtmfajopmppfldaaGreatDoorQaa
import Derived.Test.YtmfajopmppfldaaGreatDoorQam
import Derived.Maps.Own
import Derived.Maps.OwnSet
set_option linter.unusedVariables false
set_option maxHeartbeats 16000000
namespace Go.Proofs.YtmfajopmppfldaaGreatDoor
open Tryz
section

def Dk(g:Nat):Nat:=1048576+2*g

def toA(es:List (Nat×Nat×Nat))(y:Nat):Nat:=
 match es.find? (λ x=>Dk x.1==y) with
 |some x=>Dk x.2.1
 |none=>0

def Bv(es:List (Nat×Nat×Nat))(g:Nat):List Nat->(Nat->Nat)->(Nat->Nat)
 |[],W=>W
 |s::ss,W=>Bv es g ss (BM W (2*g+1+s) (toA es (W (2*g+1+s))))

def Ec(es:List (Nat×Nat×Nat))(g:Nat):List Nat->(Nat->Nat)->Nat
 |[],W=>0
 |s::ss,W=>(if toA es (W (2*g+1+s))=W (2*g+1+s) then 0 else 1)+Ec es g ss (BM W (2*g+1+s) (toA es (W (2*g+1+s))))

theorem turnS_app(es:List (Nat×Nat×Nat))(g:Nat):∀ (a b:List Nat) (W:Nat->Nat),Bv es g (a++b) W=Bv es g b (Bv es g a W)
 |[],b,W=>rfl
 |s::a,b,W=>turnS_app es g a b _

theorem cntS_app(es:List (Nat×Nat×Nat))(g:Nat):∀ (a b:List Nat) (W:Nat->Nat),Ec es g (a++b) W=Ec es g a W+Ec es g b (Bv es g a W)
 |[],b,W=>by simp[Ec,Bv]
 |s::a,b,W=>by
  simp only[List.cons_append,Ec,Bv]
  rw[cntS_app es g a b]
  omega

theorem cntS_le(es:List (Nat×Nat×Nat))(g:Nat):∀ (ss:List Nat) (W:Nat->Nat),Ec es g ss W<=ss.length
 |[],W=>Nat.le_refl _
 |s::ss,W=>by
  have:=cntS_le es g ss (BM W (2*g+1+s) (toA es (W (2*g+1+s))))
  simp only[Ec,List.length_cons]
  split <;> omega

theorem turnS_at(es:List (Nat×Nat×Nat))(g:Nat):∀ {ss:List Nat} {W:Nat->Nat} (a:Nat),ss.Nodup->Bv es g ss W a=if ∃ s∈ss,a=2*g+1+s then toA es (W a) else W a
 |[],W,a,_=>by
  rw[if_neg (λ ⟨s,h,_⟩=>by cases h)]
  rfl
 |s::ss,W,a,hn=>by
  obtain⟨n1,n2⟩:=List.nodup_cons.1 hn
  rw[Bv,turnS_at es g a n2]
  by_cases e:a=2*g+1+s
  .have h1:¬ ∃ t∈ss,a=2*g+1+t:=λ ⟨t,ht,e2⟩=>n1 (by rwa [show s=t by omega])
   rw[if_neg h1,if_pos ⟨s,List.mem_cons_self,e⟩,e]
   simp[BM]
  .have hu:∀ z,BM W (2*g+1+s) z a=W a:=λ z=>by simp[BM,e]
   rw[hu]
   by_cases h:∃ t∈ss,a=2*g+1+t
   .obtain ⟨t,ht,e2⟩:=h
    rw[if_pos ⟨t,ht,e2⟩,if_pos ⟨t,List.mem_cons_of_mem _ ht,e2⟩]
   .rw [if_neg h,if_neg (λ ⟨t,ht,e2⟩=>by
     rcases List.mem_cons.1 ht with rfl|ht
     .exact e e2
     .exact h ⟨t,ht,e2⟩)]

def BL(es:List (Nat×Nat×Nat))(rf:Nat->List Nat):List (Nat×Nat×Nat)->(Nat->Nat)->(Nat->Nat)
 |[],W=>W
 |x::xs,W=>BL es rf xs (Bv es x.1 (rf x.1) W)

def DK(es:List (Nat×Nat×Nat))(rf:Nat->List Nat):List (Nat×Nat×Nat)->(Nat->Nat)->Nat
 |[],W=>0
 |x::xs,W=>Ec es x.1 (rf x.1) W+DK es rf xs (Bv es x.1 (rf x.1) W)

theorem turnP_app(es:List (Nat×Nat×Nat))(rf:Nat->List Nat):∀ (a b:List (Nat×Nat×Nat)) (W:Nat->Nat),BL es rf (a++b) W=BL es rf b (BL es rf a W)
 |[],b,W=>rfl
 |x::a,b,W=>turnP_app es rf a b _

theorem cntT_app(es:List (Nat×Nat×Nat))(rf:Nat->List Nat):∀ (a b:List (Nat×Nat×Nat)) (W:Nat->Nat),DK es rf (a++b) W=DK es rf a W+DK es rf b (BL es rf a W)
 |[],b,W=>by simp[DK,BL]
 |x::a,b,W=>by
  simp only[List.cons_append,DK,BL]
  rw[cntT_app es rf a b]
  omega

end

section
open Go.RowKit Go.Maps

theorem wf_u64{g:Nat}(h:g<18446744073709551616):(Lit.int .u64 (g:Int)).wf=true:=by
 have h1:IntKind.u64.min=0:=by decide
 have h2:IntKind.u64.max=18446744073709551615:=by decide
 simp only[Lit.wf,h1,h2,Bool.and_eq_true,decide_eq_true_eq]
 omega

section

variable {P:Program} {k t:TypeId}

def ER(P:Program)(k:TypeId)(w:World)(b n:Nat)(f:Nat->Option Nat):Prop:=
 ∃ D:DataW Unit,w.ownsMap P k (plainElem P k) b n D/\∀ g:Nat,g<18446744073709551616->has D (.int .u64 (g:Nat))=(f g).isSome/\D.atKey (.int .u64 (g:Nat)) (.lit (.int .u64 0))=.lit (.int .u64 (((f g).getD 0:Nat):Int))

theorem ER.look{w:World}{b n:Nat}{f:Nat->Option Nat}(h:ER P k w b n f)(hk:P.underlying k=some (.int .u64))(ht:P.underlying t=some (.map k k))(hz:(zeroValue k).run P w=.ok (.int .u64 0) w){g:Nat}(hg:g<18446744073709551616):
  (Instr.lookup t (.map (some b)) (.int .u64 (g:Nat)) false).run P w=.ok (.int .u64 (((f g).getD 0:Nat):Int)) w:=by
 obtain⟨D,h1,h2⟩:=h
 obtain⟨c,hrun,hat,-⟩:=h1.lookup_int (int_keyed hk) ht hk hz (keyOf_int_mk hk (wf_u64 hg))
 rw[(h2 g hg).2] at hat
 have:(((f g).getD 0:Nat):Int)=c:=by injection hat with hat;injection hat
 rw[hrun,this]

theorem ER.lookOk{w:World}{b n:Nat}{f:Nat->Option Nat}(h:ER P k w b n f)(hk:P.underlying k=some (.int .u64))(ht:P.underlying t=some (.map k k))(hz:(zeroValue k).run P w=.ok (.int .u64 0) w){g:Nat}(hg:g<18446744073709551616):
  (Instr.lookup t (.map (some b)) (.int .u64 (g:Nat)) true).run P w=.ok (.tuple #[.int .u64 (((f g).getD 0:Nat):Int),.bool (f g).isSome]) w:=by
 obtain⟨D,h1,h2⟩:=h
 obtain⟨v,ps,hrun,hv⟩:=h1.look_ok (int_keyed hk) ht hz (plainElem_int (H:=Unit) hk (by decide)) (keyOf_int_mk hk (wf_u64 hg))
 obtain⟨c,rfl,hc,-⟩:=plainElem_int_inv hk hv
 simp only[Prod.mk.injEq] at hc
 have hat:=hc.1
 rw[(h2 g hg).2] at hat
 have:(((f g).getD 0:Nat):Int)=c:=by injection hat with hat;injection hat
 rw[hrun,this,(h2 g hg).1]

theorem ER.put{w:World}{b n:Nat}{f:Nat->Option Nat}(h:ER P k w b n f)(hk:P.underlying k=some (.int .u64))(ht:P.underlying t=some (.map k k))(hn:n<maxLen){g c:Nat}(hg:g<18446744073709551616)(hc:c<18446744073709551616):
  ∃ w',(Instr.mapUpdate t (.map (some b)) (.int .u64 (g:Nat)) (.int .u64 (c:Nat))).run P w=.ok () w'/\ER P k w' b (n+1) (λ x=>if x=g then some c else f x)/\Kp (λ k=>k=b) w w':=by
 obtain⟨D,h1,h2⟩:=h
 have hkk:=keyOf_int_mk hk (wf_u64 hg)
 obtain⟨w',hrun,ho,hgr⟩:=h1.update (int_keyed hk) ht hn hkk (plainElem_int hk (wf_u64 hc))
 refine⟨w',hrun,⟨_,ho,λ x hx=>?_⟩,(Kr _ w).grown hgr (λ k e _=>by injection e with e;exact e.symm)⟩
 by_cases ex:x=g
 .subst ex
  rw[Maps.atKey_put_same h1.isMap ((int_keyed hk).key hkk),Maps.has_put_same h1.isMap ((int_keyed hk).key hkk)]
  simp
 .have hne:(Lit.int .u64 (x:Int))≠Lit.int .u64 (g:Int):=by
   intro h
   injection h with _ h
   omega
  rw[Maps.atKey_put_other hne,Maps.has_put_other hne,(h2 x hx).1,(h2 x hx).2]
  simp[ex]

end

def CJ(w:World)(b n:Nat)(f:Nat->Option Nat):Prop:=ER prog 55 w b n f

theorem zeroU64(w:World):(zeroValue 55).run prog w=.ok (.int .u64 0) w:=by kernel_rfl

theorem CJ.made(w:World):CJ (w.alloc (.map #[] 0)) w.heap.size 0 (λ _=>none):=
 ⟨.map [],World.ownsMap_made w _ _ _,λ g _=>⟨rfl,rfl⟩⟩

theorem CJ.lt{w:World}{b n:Nat}{f:Nat->Option Nat}(h:CJ w b n f):b<w.heap.size:=by
 obtain⟨D,h1,-⟩:=h
 exact h1.lt

theorem CJ.keep{S:Nat->Prop}{w w':World}{b n:Nat}{f:Nat->Option Nat}(h:CJ w b n f)(k:Kp S w w')(hb:¬ S b):CJ w' b n f:=by
 obtain⟨D,⟨es,clock,h1,h2⟩,h3⟩:=h
 exact⟨D,⟨es,clock,k.at_ h1 hb,h2⟩,h3⟩

theorem CJ.look{w:World}{b n:Nat}{f:Nat->Option Nat}(h:CJ w b n f){g:Nat}(hg:g<18446744073709551616):
  (Instr.lookup 124 (.map (some b)) (.int .u64 (g:Nat)) false).run prog w=.ok (.int .u64 (((f g).getD 0:Nat):Int)) w:=
 ER.look h underlying55 underlying124 (zeroU64 w) hg

theorem CJ.lookOk{w:World}{b n:Nat}{f:Nat->Option Nat}(h:CJ w b n f){g:Nat}(hg:g<18446744073709551616):
  (Instr.lookup 124 (.map (some b)) (.int .u64 (g:Nat)) true).run prog w=.ok (.tuple #[.int .u64 (((f g).getD 0:Nat):Int),.bool (f g).isSome]) w:=
 ER.lookOk h underlying55 underlying124 (zeroU64 w) hg

theorem CJ.put{w:World}{b n:Nat}{f:Nat->Option Nat}(h:CJ w b n f)(hn:n<maxLen){g c:Nat}(hg:g<18446744073709551616)(hc:c<18446744073709551616):
  ∃ w',(Instr.mapUpdate 124 (.map (some b)) (.int .u64 (g:Nat)) (.int .u64 (c:Nat))).run prog w=.ok () w'/\CJ w' b (n+1) (λ x=>if x=g then some c else f x)/\Kp (λ k=>k=b) w w':=
 ER.put h underlying55 underlying124 hn hg hc

end

section
open Go.RowKit

theorem refsT_nodup(k wds:Int)(M:Nat)(n:Int):(Ba k wds M n).Nodup:=by
 unfold Ba AL
 exact List.nodup_range.filter _

def RdW(a q n:Nat)(W0:Nat->Nat)(g:Nat)(xs pre:List Nat)(A:World):Prop:=
 ∃ Wc,ArenaAt A a q Wc n/\∀ s∈xs,s ∉ pre->Wc (2*g+1+s)=W0 (2*g+1+s)

set_option maxRecDepth 20000 in
theorem words_iter(bx b a q n:Nat)(W0:Nat->Nat)(c:Cel)(k wds:Int)(m:Nat)(w:World)(hA:ArenaAt w a q W0 n)(hV:BJ w b a c k wds m)(hE:AV k wds m (c.ln:Nat)=0)(hM:m<18446744073709551616)(hfit:2*c.g+1+AR k wds (c.ln:Nat)<=(n:Nat))
  (hb:w.heap[bx]?=some (.cells #[.pointer (some ⟨b,0,none⟩)] 132 (0,0))) {R X:Nat->Prop} (hR:∀ i,R i->i<w.heap.size/\¬ i=bx/\¬ i=b):
  IterG prog 112 #[.pointer (some ⟨bx,0,none⟩)] (λ s=>#[.int .i64 (s:Nat),.int .u64 (W0 (2*c.g+1+s):Nat)]) (Ba k wds m (c.ln:Nat)) Ab R X true (λ pre _ A=>RdW a q n W0 c.g (Ba k wds m (c.ln:Nat)) pre A) w:=by
 intro l J Jx S0 W hW hl1 hl2 hSR hJ hJx hY h0
 have hS:∀ pre S A,J pre S A->∀ k,S k->(R k\/W.heap.size<=k)/\k<A.heap.size:=λ pre S A h=>(hSR pre S A h).2
 have lbx:=lZ hb
 have lbv:=lZ hV
 have bW:=hW.at_ hb (λ h=>h)
 have vW:=hV.Ad hW
 have aW:=hA.Ad hW
 have HVw:=sE vW
 have HBw:=sE bW
 have hlen:=El (M:=m) hE
 have HVr:=sE (VRefs_at b a q n W0 c k wds m W aW vW hE hM hfit)
 have HLd:Sl (∀ (s:Nat) Wc W',s∈Ba k wds m (c.ln:Nat)->ArenaAt W' a q Wc n->BJ W' b a c k wds m->Calls prog 18 #[.pointer (some ⟨b,0,none⟩),.int .i64 (s:Nat)] W' λ e w'=>e=.returned (.tuple #[.int .u64 (Wc (2*c.g+1+s):Nat),.int .i64 0])/\Kp Ab W' w'):=⟨λ s Wc W' hs hA' hV'=>by
  have:=FK hE hs
  exact VLoad_yes s b a q n Wc c k wds m W' hA' hV' hE this (by omega)⟩
 have hnd:=refsT_nodup k wds m (c.ln:Nat)
 have HRd:Sl (∀ pre S A,J pre S A->RdW a q n W0 c.g (Ba k wds m (c.ln:Nat)) pre A):=⟨λ pre S A h=>(hSR pre S A h).1⟩
 obtain⟨xs,hxs⟩:∃ xs,Ba k wds m (c.ln:Nat)=xs:=⟨_,rfl⟩
 have HXS:=sE hxs
 have HY:=sE hY
 rw[hxs] at hlen HLd HY HRd HVr hnd ⊢
 have HND:=sE hnd
 have cb:=cell_of_one bW
 have z1:=hW.size
 have H0:=sE h0
 clear hY hxs vW aW hA hV hfit hM hE bW h0 hb hSR hnd
 refine(callsIn_wide (n:=0)).1 ?_
 refine callsIn_of_wp func112 rfl trivial ?_
 simp only[ntmps112,List.size_toArray,List.length_cons,List.length_nil,Nat.reduceAdd,Nat.reduceSub,Array.replicate_succ,Array.replicate_zero,List.push_toArray,List.append_toArray,List.nil_append,List.cons_append]
 gi_wp2_with fail
 refine⟨trivial,rfl,?_⟩
 refine(callsIn_wide.2 HVr.out).mono ?_
 rintro e w5 ⟨v,rfl,hown,K5⟩
 obtain⟨va,vc,hva⟩:=AA hown
 subst hva
 obtain⟨L,hL⟩:∃ L,xs.length=L:=⟨_,rfl⟩
 rw[hL] at hown hlen ⊢
 have HL:=sE hL
 have J5:=hJ _ _ _ _ H0.out K5
 have hown5:w5.ownsRow W.heap.size 3 1 (.slice va L vc) L (AB xs):=hown
 have hS5:∀ i,S0 i->¬ (Value.slice va L vc).ownBlock=some i:=λ i hi h=>by
  have:=(hS _ _ _ H0.out i hi).2
  have:=(Af hown5 h).1
  omega
 have HR5:Sl (Kp (λ i=>R i\/i=l) W w5):=⟨K5.Ak _⟩
 have HJ5:=sE (And.intro J5 (And.intro hown5 hS5))
 clear hown hown5 hS5 J5 K5 hL cb HVr
 gi_wp2_with fail
 gi_loopw [4,5,6,11] (λ v6 v7 v8 v26 wr=>∃ (j:Nat) (S:Nat->Prop),j<=L/\v26=.int .i64 (j:Nat)/\J (xs.take j) S wr/\Kp (λ i=>R i\/i=l) W wr/\wr.ownsRow W.heap.size 3 1 (.slice va L vc) L (AB xs)/\(∀ i,S i->¬ (Value.slice va L vc).ownBlock=some i)) (λ v6 v7 v8 v26 wr=>L-(intOf v26).toNat)
 case atStart=>exact ⟨0,S0,Nat.zero_le _,rfl,HJ5.out.1,HR5.out,HJ5.out.2.1,HJ5.out.2.2⟩
 case round=>
  obtain⟨j,S,hj,rfl,hjJ,kr,ho,hSn⟩:=hrel
  have HJ:=sE hjJ
  have HKr:=sE kr
  have HO:=sE ho
  have HSn:=sE hSn
  by_cases hjl:j<L
  .have hjl':(j:Int)<(L:Int):=by omega
   obtain⟨x,hx⟩:∃ x,xs[j]?=some x:=⟨xs[j]'(by rw[HL.out];exact hjl),by simp⟩
   obtain⟨rb,hrb,cx⟩:=Ce ho hx
   subst hrb
   have hmem:x∈xs:=List.mem_of_getElem? hx
   have hnot:∀ i,i<w.heap.size->(i=bx\/i=b)->¬ (R i\/i=l):=λ i hi h hr=>by
    rcases hr with hr|hr
    .have:=hR i hr;omega
    .omega
   have br:=kr.at_ HBw.out (hnot bx lbx (.inl rfl))
   obtain⟨Wc,hac,hwc⟩:=HRd.out _ _ _ hjJ
   have hxn:x ∉ xs.take j:=λ h=>by
    obtain⟨i,hi,e⟩:=List.mem_iff_getElem.1 h
    rw[List.length_take] at hi
    rw[List.getElem_take] at e
    obtain⟨h1,h2⟩:=gE.1 hx
    exact List.pairwise_iff_getElem.1 HND.out i j (by omega) h1 (by omega) (e.trans h2.symm)
   have hwx:=hwc x hmem hxn
   have cb:=cell_of_one br
   have hlo:=HLd.out x Wc wr hmem hac (HVw.out.keep kr (hnot b lbv (.inr rfl)))
   rw[hwx] at hlo
   have HLo:=sE hlo
   have hsp:xs=xs.take j++x::xs.drop (j+1):=by
    obtain⟨h1,h2⟩:=gE.1 hx
    rw[<- h2,List.getElem_cons_drop h1,List.take_append_drop]
   have hst:xs.take (j+1)=xs.take j++[x]:=by rw[List.take_add_one,hx];rfl
   have HSp:=sE (And.intro hsp hst)
   clear kr ho hSn hjJ hmem hnot br hsp hst hx hlo hwx hwc hac hxn
   gi_wp2_with fail
   refine⟨trivial,rfl,?_⟩
   refine(callsIn_wide.2 HLo.out).mono ?_
   rintro e w6 ⟨rfl,k6⟩
   have J6:=hJ _ _ _ _ HJ.out k6
   have HY6:=sE (HY.out _ S x _ w6 HSp.out.1 J6)
   have O6:=Ai HO.out k6 (λ _ _ h=>h)
   have HO6:=sE O6
   have HK6:=sE (HKr.out.trans k6 (λ _ _ h=>h.elim))
   have HS6:Sl (∀ i,S i->(R i\/W.heap.size<=i)):=⟨λ i hi=>(hS _ _ _ J6 i hi).1⟩
   have hrow6:=Af O6 (b:=rb) rfl
   clear J6 O6 k6 cx cb
   gi_wp2_with fail
   refine CW HY6.out rfl ?_
   intro b' B hB
   rcases hB with ⟨rfl,hk,S',hT,hS'⟩|⟨rfl,-,hE⟩
   .have hnr:∀ i,(S i\/i=l)->¬ (Value.slice (some ⟨rb,0,none⟩) L vc).ownBlock=some i:=λ i hi h=>by
     rcases hi with hi|hi
     .exact HSn.out i hi h
     .have:=(Af HO6.out h).1;omega
    have OB:=Ai HO6.out hk (λ b' hb' hs=>hnr b' hs hb')
    have KB:=HK6.out.trans hk (λ i hi h=>by
     rcases h with h|h
     .rcases HS6.out i h with h|h
      .exact .inl h
      .omega
     .exact .inr h)
    have HF:Sl _:=⟨And.intro hT (And.intro KB (And.intro OB (λ i hi h=>by
     rcases hS' i hi with h'|h'
     .exact HSn.out i h' h
     .have:=(Af HO6.out h).2;omega:∀ i,S' i->¬ (Value.slice (some ⟨rb,0,none⟩) L vc).ownBlock=some i)))⟩
    clear hT KB OB hS' hk hnr
    gi_wp2_with fail
    exact⟨⟨j+1,S',by omega,by go_num,by rw[HSp.out.2];exact HF.out.1,HF.out.2.1,HF.out.2.2.1,HF.out.2.2.2⟩,by simp only[intOf];omega⟩
   .gi_wp2_with fail
    refine bodyPost_ret (results_none rfl _ _ _) rfl ?_
    exact⟨⟨_,rfl⟩,.inr ⟨_,⟨_,by rw[List.append_assoc];exact HSp.out.1.symm⟩,hE⟩⟩
  .have hjl':¬ (j:Int)<(L:Int):=by omega
   gi_wp2_with fail
   go_end0
   exact⟨⟨_,rfl⟩,.inl ⟨S,by have:=HJ.out;rwa [List.take_of_length_le (by rw[HL.out];omega)] at this⟩⟩

end

end Go.Proofs.YtmfajopmppfldaaGreatDoor
