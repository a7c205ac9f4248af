/-
  Lemmas for the laws, together: SlideP, SlideQ, SlideM, SlideO, SlideD, SlideL.
-/
import Derived.Test.YtmfajopmppfldaaGreatDoorQn
import Derived.Test.YtmfajopmppfldaaGreatDoorQi
import Derived.Test.YtmfajopmppfldaaGreatDoorQo
import Derived.Laws.CopyRow
import Derived.Test.YtmfajopmppfldaaGreatDoorQk
set_option linter.unusedVariables false
set_option maxHeartbeats 16000000
namespace Go.Proofs.YtmfajopmppfldaaGreatDoor
open Go.Proofs.Tryz
section
open Go.RowKit

def Dn(W:Nat->Nat)(d s n:Nat)(k:Nat):Nat:=if d<=k/\k<d+n then W (s+(k-d)) else W k

theorem moveW_same(W:Nat->Nat)(a n:Nat):Dn W a a n=W:=funext λ k=>by
 unfold Dn
 split
 .congr 1;omega
 .rfl

def Bh:List (Nat×Nat×Nat)->(Nat->Nat)->(Nat->Nat)
 |[],W=>W
 |x::xs,W=>Bh xs (Dn W (2*x.2.1) (2*x.1) (2*x.2.2))

theorem slideW_app:∀ (a b:List (Nat×Nat×Nat)) (W:Nat->Nat),Bh (a++b) W=Bh b (Bh a W)
 |[],b,W=>rfl
 |x::a,b,W=>slideW_app a b _

def Cf:List (Nat×Nat×Nat)->Nat
 |[]=>0
 |x::xs=>(if x.2.1=x.1 then 0 else 2*x.2.2)+Cf xs

theorem slideW_off{k:Nat}:∀ {es:List (Nat×Nat×Nat)} {W:Nat->Nat},(∀ x∈es,¬ (2*x.2.1<=k/\k<2*x.2.1+2*x.2.2))->Bh es W k=W k
 |[],W,_=>rfl
 |x::xs,W,h=>by
  rw[Bh,slideW_off λ y hy=>h y (List.mem_cons_of_mem _ hy),Dn,if_neg (h x List.mem_cons_self)]

theorem slideW_at{x:Nat×Nat×Nat}{k:Nat}(hk:k<2*x.2.2):∀ {es:List (Nat×Nat×Nat)} {W:Nat->Nat},(∀ y∈es,y.2.1<=y.1)->(es.Pairwise λ y z=>y.1+y.2.2<=z.1)->(es.Pairwise λ y z=>y.2.1+y.2.2<=z.2.1\/z.2.1+z.2.2<=y.2.1)->x∈es->Bh es W (2*x.2.1+k)=W (2*x.1+k)
 |y::ys,W,h1,h2,h3,hx=>by
  rw[List.pairwise_cons] at h2 h3
  rw[Bh]
  rcases List.mem_cons.1 hx with rfl|hx
  .rw [slideW_off λ z hz=>by have:=h3.1 z hz;omega,Dn,if_pos (by omega)]
   congr 1;omega
  .rw [slideW_at hk (λ z hz=>h1 z (List.mem_cons_of_mem _ hz)) h2.2 h3.2 hx,Dn,if_neg]
   have:=h1 y List.mem_cons_self
   have:=h2.1 x hx
   omega

theorem GoodP.rows{cs:List Cel}{es:List (Nat×Nat×Nat)}{H:Nat}(h:GoodP cs es)(ht:Au 0 cs H):es.Pairwise λ y z=>y.1+y.2.2<=z.1:=by
 refine List.pairwise_iff_getElem.2 λ i j hi hj hij=>?_
 have hu:=List.pairwise_iff_getElem.1 h.up i j hi hj hij
 obtain⟨c,hc,c1,c2,c3⟩:=h.obj es[i] (List.getElem_mem hi)
 obtain⟨d,hd,d1,d2,d3⟩:=h.obj es[j] (List.getElem_mem hj)
 by_cases e:es[i].1+es[i].2.2<=es[j].1
 .exact e
 .have hdz:=(ht.mem hd).2.2
  have:c=d:=cell_only ht hc hd (j:=es[j].1) (by omega) (by unfold Cel.fin;omega) (by omega) (by unfold Cel.fin;omega)
  subst this
  omega

theorem GoodP.slide{cs:List Cel}{es:List (Nat×Nat×Nat)}{H:Nat}(h:GoodP cs es)(ht:Au 0 cs H){x:Nat×Nat×Nat}(hx:x∈es)(W:Nat->Nat){k:Nat}(hk:k<2*x.2.2):Bh es W (2*x.2.1+k)=W (2*x.1+k):=
 slideW_at hk h.le (h.rows ht) h.apart hx

def putAt(c:Cel)(t:Nat):Cel:=⟨t,c.tag,c.ty,c.ln,c.sz⟩

def Eu(cs:List Cel)(es:List (Nat×Nat×Nat))(t:Nat):Cel:=
 match es.find? (λ x=>x.2.1==t) with
 |some x=>match cs.find? (λ c=>c.tag==1&&c.g==x.1) with
  |some c=>putAt c t
  |none=>⟨t,0,0,0,0⟩
 |none=>⟨t,0,0,0,0⟩

theorem DC{cs:List Cel}{es:List (Nat×Nat×Nat)}{H:Nat}(h:GoodP cs es)(ht:Au 0 cs H){x:Nat×Nat×Nat}(hx:x∈es):∃ c∈cs,c.tag=1/\c.g=x.1/\c.sz=x.2.2/\Eu cs es x.2.1=putAt c x.2.1:=by
 obtain⟨c,hc,c1,c2,c3⟩:=h.obj x hx
 refine⟨c,hc,c1,c2,c3,?_⟩
 unfold Eu
 cases hf:es.find? (λ y=>y.2.1==x.2.1) with
 |none=>
  have:=List.find?_eq_none.1 hf x hx
  simp at this
 |some y=>
  have h1:=List.find?_some hf
  have h2:=List.mem_of_find?_eq_some hf
  have:y=x:=h.uniq_to ht h2 hx (by simpa using h1)
  subst this
  simp only
  cases hg:cs.find? (λ c=>c.tag==1&&c.g==y.1) with
  |none=>
   have:=List.find?_eq_none.1 hg c hc
   simp[c1,c2] at this
  |some d=>
   have d1:=List.find?_some hg
   have d2:=List.mem_of_find?_eq_some hg
   simp only[Bool.and_eq_true,beq_iff_eq] at d1
   rw[ht.only d2 hc (by omega)]

def goesL(cs:List Cel)(es:List (Nat×Nat×Nat))(ts:List Nat):List Cel:=ts.map (Eu cs es)

theorem goesL_rising{cs:List Cel}{es:List (Nat×Nat×Nat)}{H:Nat}(h:GoodP cs es)(ht:Au 0 cs H):∀ {ts:List Nat} {e:Nat},(∀ t∈ts,∃ x∈es,x.2.1=t)->ts.Pairwise (· <·)->e<=H->(∀ t∈ts,e<=t)->BH e (goesL cs es ts) H
 |[],e,_,_,he,_=>he
 |t::ts,e,hm,hp,he,hl=>by
  obtain⟨x,hx,rfl⟩:=hm t List.mem_cons_self
  obtain⟨c,hc,c1,c2,c3,hg⟩:=DC h ht hx
  have hf:=h.fit ht hx
  rw[List.pairwise_cons] at hp
  show BH e (Eu cs es x.2.1::goesL cs es ts) H
  rw[hg]
  refine⟨hl _ List.mem_cons_self,c1,by unfold putAt;simp only;omega,?_⟩
  have hfin:(putAt c x.2.1).fin=x.2.1+x.2.2:=by unfold Cel.fin putAt;simp only;omega
  rw[hfin]
  refine goesL_rising h ht (λ t ht'=>hm t (List.mem_cons_of_mem _ ht')) hp.2 hf.2.1 λ t ht'=>?_
  obtain⟨y,hy,rfl⟩:=hm t (List.mem_cons_of_mem _ ht')
  have hlt:=hp.1 _ ht'
  have hfy:=h.fit ht hy
  obtain⟨i,hi,rfl⟩:=List.mem_iff_getElem.1 hx
  obtain⟨j,hj,rfl⟩:=List.mem_iff_getElem.1 hy
  have hap:=List.pairwise_iff_getElem.1 h.apart
  by_cases e1:i=j
  .subst e1;omega
  .rcases Nat.lt_or_gt_of_ne e1 with e2|e2
   .have:=hap i j hi hj e2;omega
   .have:=hap j i hj hi e2;omega

theorem settleR_of{W:Nat->Nat}{n:Nat}{ts:List TypR}{x:Nat->Int}:∀ {os:List Cel} {i e:Nat},BH e os (n/2)->(∀ o∈os,BO W n ts (o.g:Nat)=some o)->(∀ j o,os[j]?=some o->x (i+j)=(o.g:Nat))->Be W n ts x i os.length e=some os
 |[],i,e,_,_,_=>rfl
 |o::os,i,e,hr,ho,hx=>by
  have h0:=hx 0 o rfl
  rw[Nat.add_zero] at h0
  have hc:=ho o List.mem_cons_self
  rw[<- h0] at hc
  rw[List.length_cons,settleR_some hc (by have:=hr.1;omega),settleR_of hr.2.2.2 (λ p hp=>ho p (List.mem_cons_of_mem _ hp)) λ j p hp=>by
   have:=hx (j+1) p (by simpa using hp)
   rw[<- this]
   congr 1
   omega]
  rfl

theorem settleW_in{k:Nat}:∀ {os:List Cel} {W:Nat->Nat} {e H:Nat} {o:Cel},BH e os H->o∈os->2*o.g<=k->k<2*o.fin->AR W e os H k=W k
 |p::os,W,e,H,o,hr,ho,h1,h2=>by
  obtain⟨r1,r2,r3,r4⟩:=hr
  rw[AR]
  have hg:AX W e (p.g-e) k=W k:=by
   have hm:=BH.mem (o:=o) (show BH e (p::os) H from ⟨r1,r2,r3,r4⟩) ho
   unfold AX
   split
   .rfl
   .unfold Ca
    rw[if_neg]
    rcases List.mem_cons.1 ho with rfl|ho
    .omega
    .have:=(r4.mem ho).1
     unfold Cel.fin at this
     omega
  rcases List.mem_cons.1 ho with rfl|ho
  .rw [settleW_out (k:=k) r4 (by unfold Cel.fin at h2 ⊢;omega),hg]
  .rw [settleW_in r4 ho h1 h2,hg]
where
 settleW_out {k:Nat}:∀ {os:List Cel} {W:Nat->Nat} {e H:Nat},BH e os H->k<2*e->AR W e os H k=W k
  |[],W,e,H,h,hk=>by
   unfold AR AX
   split
   .rfl
   .unfold Ca
    rw[if_neg (by omega)]
  |o::os,W,e,H,⟨h1,h2,h3,h4⟩,hk=>by
   unfold AR
   rw[settleW_out h4 (by unfold Cel.fin;omega)]
   unfold AX
   split
   .rfl
   .unfold Ca
    rw[if_neg (by omega)]

end

section
open Go.RowKit

theorem movedW_snoc(x:Nat×Nat×Nat):∀ xs:List (Nat×Nat×Nat),Cf (xs++[x])=Cf xs+if x.2.1=x.1 then 0 else 2*x.2.2
 |[]=>by simp[Cf]
 |y::ys=>by rw[List.cons_append,Cf,Cf,movedW_snoc x ys,Nat.add_assoc]

theorem movedW_le{H:Nat}:∀ {es:List (Nat×Nat×Nat)} {e:Nat},(∀ x∈es,e<=x.1/\x.1+x.2.2<=H)->(es.Pairwise λ y z=>y.1+y.2.2<=z.1)->e<=H->Cf es<=2*(H-e)
 |[],e,_,_,_=>Nat.zero_le _
 |x::xs,e,h,hp,he=>by
  rw[List.pairwise_cons] at hp
  have h1:=h x List.mem_cons_self
  have:=movedW_le (es:=xs) (e:=x.1+x.2.2) (λ y hy=>⟨hp.1 y hy,(h y (List.mem_cons_of_mem _ hy)).2⟩) hp.2 h1.2
  rw[Cf]
  split <;> omega

theorem GoodP.moved{cs:List Cel}{es:List (Nat×Nat×Nat)}{H:Nat}(h:GoodP cs es)(ht:Au 0 cs H)(j:Nat):Cf (es.take j)<=2*H:=by
 have:=movedW_le (H:=H) (es:=es.take j) (e:=0) (λ x hx=>⟨Nat.zero_le _,(h.fit ht (List.mem_of_mem_take hx)).1⟩) ((h.rows ht).sublist (List.take_sublist _ _)) (Nat.zero_le _)
 omega

theorem objAt_slide{P:Sp}{W:Nat->Nat}{cs:List Cel}{es:List (Nat×Nat×Nat)}(hc:CellsAt P W cs)(hg:GoodP cs es){x:Nat×Nat×Nat}(hx:x∈es):BO (Bh es W) P.n P.ts (x.2.1:Nat)=some (Eu cs es x.2.1):=by
 obtain⟨c,hm,h1,h2,h3,h4⟩:=DC hg hc.tl hx
 have hf:=hg.fit hc.tl hx
 rw[h4]
 have hw:Bh es W (2*x.2.1)=W (2*x.1):=hg.slide hc.tl hx W (k:=0) (by omega)
 refine obj_one (c:=putAt c x.2.1) (hc.ok c hm) ?_ ?_ ?_ h1
 .show Bh es W (2*x.2.1)=Bl c.tag c.ty c.ln c.sz
  rw[hw,<- h2]
  exact hc.hd c hm
 .show x.2.1+c.sz<=P.n/2
  omega
 .show 0<c.sz
  omega

def DF(es:List (Nat×Nat×Nat)):List Nat:=(es.map λ x=>x.2.1).mergeSort λ x y=>decide (x<=y)

theorem sortT_len(es:List (Nat×Nat×Nat)):(DF es).length=es.length:=by simp[DF]

theorem sortT_cast(es:List (Nat×Nat×Nat)):((es.map λ x=>x.2.1).map λ(n:Nat)=>(n:Int)).mergeSort (λ x y=>decide (x<=y))=(DF es).map λ(n:Nat)=>(n:Int):=by
 unfold DF
 rw[List.map_mergeSort]
 intro a _ b _
 simp

theorem DI{es:List (Nat×Nat×Nat)}{t:Nat}:t∈DF es ↔ ∃ x∈es,x.2.1=t:=by
 unfold DF
 rw[List.mem_mergeSort,List.mem_map]

theorem GoodP.nodupT{cs:List Cel}{es:List (Nat×Nat×Nat)}{H:Nat}(h:GoodP cs es)(ht:Au 0 cs H):(es.map λ x=>x.2.1).Nodup:=by
 rw[List.nodup_iff_pairwise_ne,List.pairwise_map]
 refine List.pairwise_iff_getElem.2 λ i j hi hj hij e=>?_
 have h1:=List.pairwise_iff_getElem.1 h.apart i j hi hj hij
 have h2:=h.fit ht (List.getElem_mem hi)
 have h3:=h.fit ht (List.getElem_mem hj)
 omega

theorem GoodP.sortT_lt{cs:List Cel}{es:List (Nat×Nat×Nat)}{H:Nat}(h:GoodP cs es)(ht:Au 0 cs H):(DF es).Pairwise (· <·):=by
 have h1:=List.pairwise_mergeSort (le:=λ x y:Nat=>decide (x<=y)) (λ a b c=>by simp;omega) (λ a b=>by simp;omega) (es.map λ x=>x.2.1)
 have h2:(DF es).Nodup:=(List.mergeSort_perm _ _).nodup_iff.2 (h.nodupT ht)
 rw[List.nodup_iff_pairwise_ne] at h2
 have h3:(DF es).Pairwise λ a b=>decide (a<=b)=true:=h1
 refine(h3.and h2).imp λ {a b} hab=>?_
 have:=hab.1
 have:=hab.2
 simp at*
 omega

def BS(cs:List Cel)(es:List (Nat×Nat×Nat)):List Cel:=goesL cs es (DF es)

theorem CL{cs:List Cel}{es:List (Nat×Nat×Nat)}{H:Nat}(h:GoodP cs es)(ht:Au 0 cs H):BH 0 (BS cs es) H:=
 goesL_rising h ht (λ t hm=>by simpa using DI.1 hm) (h.sortT_lt ht) (Nat.zero_le _) λ_ _=>Nat.zero_le _

theorem slidO_settle{P:Sp}{W:Nat->Nat}{cs:List Cel}{es:List (Nat×Nat×Nat)}(hc:CellsAt P W cs)(hg:GoodP cs es):Be (Bh es W) P.n P.ts (λ i=>((DF es).getD i 0:Nat)) 0 es.length 0=some (BS cs es):=by
 have hl:(BS cs es).length=es.length:=by unfold BS goesL;rw [List.length_map,sortT_len]
 rw[<- hl]
 refine settleR_of (CL hg hc.tl) (λ o ho=>?_) λ j o hj=>?_
 .obtain ⟨t,ht,rfl⟩:=List.mem_map.1 ho
  obtain⟨x,hx,rfl⟩:=DI.1 ht
  obtain⟨c,-,-,-,-,h4⟩:=DC hg hc.tl hx
  have:(Eu cs es x.2.1).g=x.2.1:=by rw[h4];rfl
  rw[this]
  exact objAt_slide hc hg hx
 .unfold BS goesL at hj
  rw[List.getElem?_map] at hj
  obtain⟨t,h1,rfl⟩:=Option.map_eq_some_iff.1 hj
  obtain⟨x,hx,rfl⟩:=DI.1 (List.mem_of_getElem? h1)
  obtain⟨c,-,-,-,-,h4⟩:=DC hg hc.tl hx
  rw[h4,Nat.zero_add,List.getD_eq_getElem?_getD,h1]
  rfl

end

section
open Go.RowKit

theorem wp_copy{P:Program}{w:World}{o:Oper}{a:Act}{K:Act->World->Prop}{Q:Exit->Act->World->Prop}(d s:Operand)(dT sT:TypeId)
  (ho:o.op=.call {callee:=.builtin .copy,args:=#[d,s],argTypes:=#[dT,sT]}) (elem:TypeId) (hu:P.underlying dT=some (.slice elem)) (hsz:(P.info? elem).map (·.size)=some 1)
  (g off dLen dCap:Nat) (ad:Addr) (sLen sCap:Nat) (hd:a.eval d=.slice (some ⟨g,off,none⟩) dLen dCap) (hs:a.eval s=.slice (some ad) sLen sCap)
  (cur:Array Value) (t:TypeId) (hg:w.heap[g]?=some (.cells cur t (0,0))) (cs:List Value) (hn:cs.length=Nat.min sLen dLen)
  (hsrc:∀ j v,cs[j]?=some v->w.cell? (ad.add j)=some v) (hfit:off+cs.length<=cur.size) (h1:∀ v∈cs,v.oneCell'=true)
  (h:K (a.put o.dst (goInt cs.length)) (w.setRow g (cur.toList.take off++(cs++cur.toList.drop (off+cs.length))).toArray)):Oper.wp P o a w K Q:=by
 have hrun:=run_copy_row (P:=P) w dT sT o.type elem g off dLen dCap ad sLen sCap cur t cs hu hsz hg hn hsrc hfit h1
 unfold Oper.wp
 simp[execOp,ho,resolve,invoke,builtin,hd,hs,hrun,Result.andThen]
 exact h

theorem Kp.setRow{S:Nat->Prop}{a w:World}(h:Kp S a w){g:Nat}(hr:g<a.heap.size->S g)(cs:Array Value):Kp S a (w.setRow g cs):=
 h.trans (S':=λ k=>k=g) ⟨rfl,rfl,rfl,by simp[World.setRow],λ k _ hn=>setRow_other w g k cs hn⟩ (λ i hi e=>by subst e;exact hr hi)

def FM(W:Nat->Nat)(s k:Nat):List Value:=(List.range k).map λ j=>Value.int .u64 (W (s+j):Nat)

theorem partV_at(W:Nat->Nat)(s:Nat){k j:Nat}(hj:j<k):(FM W s k)[j]?=some (.int .u64 (W (s+j):Nat)):=by
 unfold FM
 rw[List.getElem?_map,List.getElem?_range hj]
 rfl

theorem partV_some{W:Nat->Nat}{s k j:Nat}{v:Value}(h:(FM W s k)[j]?=some v):j<k/\v=.int .u64 (W (s+j):Nat):=by
 have hj:j<k:=by
  have:=(gE.1 h).1
  simpa [FM] using this
 rw[partV_at W s hj] at h
 exact⟨hj,(Option.some.inj h).symm⟩

theorem ArenaAt.move{w:World}{a q n:Nat}{W:Nat->Nat}(h:ArenaAt w a q W n){cur:Array Value}(hc:w.heap[q]?=some (.cells cur 55 (0,0))){d s k:Nat}(hs:s+k<=n)(hd:d+k<=n):
  ArenaAt (w.setRow q (cur.toList.take d++(FM W s k++cur.toList.drop (d+(FM W s k).length))).toArray) a q (Dn W d s k) n:=by
 obtain⟨cap,c,h1,hcp⟩:=h.ha
 obtain⟨cs,h2,h3,h4⟩:=h.hq
 obtain rfl:cs=cur:=by rw[h2] at hc;injection hc with hc;injection hc
 have hl:(FM W s k).length=k:=by simp[FM]
 have hcl:cs.toList.length=cs.size:=Array.length_toList
 rw[hl]
 refine⟨⟨cap,c,(setRow_other _ _ _ _ h.ne).trans h1,hcp⟩,⟨_,setRow_heap w q cs _ _ _ h2,?_,λ j hj=>?_⟩,h.small,λ i hi=>?_⟩
 .simp [hl];omega
 .rw [List.getElem?_toArray,Dn]
  by_cases e1:j<d
  .rw [if_neg (by omega),List.getElem?_append_left (by rw[List.length_take,hcl];omega),List.getElem?_take_of_lt e1,Array.getElem?_toList]
   exact h4 j hj
  .rw [List.getElem?_append_right (by rw[List.length_take,hcl];omega),List.length_take,hcl,Nat.min_eq_left (by omega)]
   by_cases e2:j<d+k
   .rw [if_pos (by omega),List.getElem?_append_left (by omega),partV_at W s (by omega)]
   .rw [if_neg (by omega),List.getElem?_append_right (by omega),hl,List.getElem?_drop,Array.getElem?_toList,show d+k+(j-d-k)=j by omega]
    exact h4 j hj
 .unfold Dn
  split
  .exact h.fits _ (by omega)
  .exact h.fits i hi

theorem AMove_at(d s k:Nat)(a q n:Nat)(W:Nat->Nat)(w:World)(h:ArenaAt w a q W n)(hs:s+k<=n)(hd:d+k<=n)(hk:0<k):
  Calls prog 76 #[.pointer (some ⟨a,0,none⟩),.int .i64 (d:Nat),.int .i64 (s:Nat),.int .i64 (k:Nat)] w (Stored w a q n (Dn W d s k)):=by
 have hn:=h.small
 obtain⟨cap,c,h0,h1,hcap⟩:=h.headC
 have H1:=sE (Ahas_any (s:Nat) (k:Nat) a q n W w h)
 have H2:=sE (Ahas_any (d:Nat) (k:Nat) a q n W w h)
 have hok1:Bq n (s:Nat) (k:Nat)=true:=by unfold Bq;rw [decide_eq_true_eq];omega
 have hok2:Bq n (d:Nat) (k:Nat)=true:=by unfold Bq;rw [decide_eq_true_eq];omega
 rw[hok1] at H1
 rw[hok2] at H2
 obtain⟨cur,hcur,hsz,hat⟩:=h.hq
 have HA:=sE (And.intro h hcur)
 have HAT:=sE hat
 have hnn:(n:Int)<=(cap:Int):=by omega
 have hs1:(s:Int)+(k:Int)<=(n:Int):=by omega
 have hd1:(d:Int)+(k:Int)<=(n:Int):=by omega
 have hs2:(s:Int)+(k:Int)<=(cap:Int):=by omega
 have hd2:(d:Int)+(k:Int)<=(cap:Int):=by omega
 have hne:=h.ne
 have hE:errV true=0:=rfl
 have hwd:IntKind.i64.wrap ((d:Int)+(k:Int))=(d:Int)+(k:Int):=by rw[IntKind.wrap_i64];omega
 have hws:IntKind.i64.wrap ((s:Int)+(k:Int))=(s:Int)+(k:Int):=by rw[IntKind.wrap_i64];omega
 clear h hok1 hok2 hat
 go_enter func76,ntmps76
 go_wp2_with fail
 refine H1.out.mono ?_
 rintro e w1 ⟨rfl,rfl⟩
 go_wp2_with fail
 refine H2.out.mono ?_
 rintro e w1 ⟨rfl,rfl⟩
 go_wp2_with fail
 refine wp_region_held_drew (S:=λ w'=>w'.cell? ⟨a,0,none⟩=some (.slice (some ⟨q,0,none⟩) n cap)) (by kernel_rfl) ?_ (λ qZ=>?_)
 .exact h0
 refine Ao 0 ?_;refine Ao 1 ?_;refine Ao 2 ?_;refine Ao 3 ?_;refine Ao 4 ?_;refine Ao 5 ?_;refine Ao 6 ?_;refine Ao 7 ?_;refine Ao 8 ?_;refine Ao 9 ?_;refine Ao 10 ?_
 try simp only[Aw]
 refine Ao 11 (v:=.slice (some ⟨q,d,none⟩) k k) ?_ rfl (by
  intro w0 hSw
  try dsimp only at hSw
  go_simp
  rw[if_pos (by omega),if_pos ⟨by omega,by omega⟩,if_pos (by omega),if_neg (by omega),show ((d:Int)+(k:Int)).toNat-d=k by omega])
 refine Ao 12 ?_;refine Ao 13 ?_;refine Ao 14 ?_;refine Ao 15 ?_;refine Ao 16 ?_;refine Ao 17 ?_;refine Ao 18 ?_;refine Ao 19 ?_
 refine Ao 20 (v:=.slice (some ⟨q,s,none⟩) k (cap-s)) ?_ rfl (by
  intro w0 hSw
  try dsimp only at hSw
  go_simp
  rw[if_pos (by omega),if_pos (by omega),if_neg (by omega),show ((s:Int)+(k:Int)).toNat-s=k by omega])
 try simp only[Aw]
 refine AV [21] ?_
 refine Ag rfl (λ K hK=>?_)
 rw[if_pos (show Region.wanted _ _=true by kernel_rfl)]
 refine wp_copy (.tmp 36) (.tmp 45) 135 135 rfl 55 CQ (by kernel_rfl) q d k k ⟨q,s,none⟩ k (cap-s) ?_ ?_ cur 55 HA.out.2 (FM W s k) ?_ ?_ ?_ ?_ ?_
 .rfl
 .rfl
 .simp [FM]
 .intro j v hv
  obtain⟨hj,rfl⟩:=partV_some hv
  have hadd:(⟨q,s,none⟩:Addr).add j=⟨q,s+j,none⟩:=by unfold Addr.add;split <;> simp_all
  rw[hadd]
  exact HA.out.1.at_ (j:=s+j) (by omega)
 .simp [FM];omega
 .intro v hv
  obtain⟨j,hj,rfl⟩:=List.mem_map.1 hv
  rfl
 have HM:=sE ((HA.out.1.Ad (Kr Ab w).drew).move (w:=w.drew) HA.out.2 hs hd)
 have kM:Kp (λ b=>b=q) w (w.drew.setRow q (cur.toList.take d++(FM W s k++cur.toList.drop (d+(FM W s k).length))).toArray):=(Kr (λ b=>b=q) w).drew.setRow (λ _=>rfl) _
 refine hK _ _ ?_ (λ qZ=>?_)
 .exact kM.cell h0 hne
 clear hK K
 try simp only[Aw]
 refine wpAnyH_done (by kernel_rfl) ?_ _
 generalize w.drew.setRow q _=wM at HM kM qZ ⊢
 obtain⟨cap2,c2,h2,h3⟩:=HM.out.head
 have hfa:=HM.out.freeA 1
 have h1M:=kM.cell h1 hne
 clear h2 h3 h0 h1
 go_wp2_with fail
 exact bodyPost_ret (v:=.int .i64 0) (by simp[results,results76,go_sem]) rfl ⟨rfl,(kM.mono λ_ _ e=>.inr e).setCell (λ _=>.inl rfl) _,HM.out.count _⟩

end

section
open Go.RowKit

structure OneSt(a q n bA bW bM base:Nat)(W:Nat->Nat)(ts:List Nat)(m:Nat)(w:World):Prop where
 ar:ArenaAt w a q W n
 row:∃ v,w.heap[bA]?=some (.cells #[v] 82 (0,0))/\w.ownsRow base 3 1 v ts.length (AC ts)
 wd:w.heap[bW]?=some (.cells #[.int .i64 (m:Nat)] 3 (0,0))
 mv:w.heap[bM]?=some (.cells #[.func (.func 76) #[.pointer (some ⟨a,0,none⟩)] #[]] 149 (0,0))
 big:base<=w.heap.size

structure OneBx(a q bA bW bM base:Nat):Prop where
 aA:a<bA
 qA:q<bA
 AW:bA≠bW
 aW:a<bW
 qW:q<bW
 aM:a<bM
 qM:q<bM
 AM:bA≠bM
 WM:bW≠bM
 lA:bA<base
 lW:bW<base
 lM:bM<base

def OnePost(a q n bA bW bM base:Nat)(W:Nat->Nat)(ts:List Nat)(m:Nat)(x:Nat×Nat×Nat)(w:World)(e:Ending)(w':World):Prop:=
 e=.returned (.int .i64 0)/\OneSt a q n bA bW bM base (Dn W (2*x.2.1) (2*x.1) (2*x.2.2)) (ts++[x.2.1]) (m+if x.2.1=x.1 then 0 else 2*x.2.2) w'/\Kp (λ b=>b=bA\/b=bW\/b=a\/b=q\/base<=b) w w'

set_option maxRecDepth 6000 in
theorem One_at(a q n bA bW bM base:Nat)(W:Nat->Nat)(ts:List Nat)(m:Nat)(x:Nat×Nat×Nat)(w:World)(h:OneSt a q n bA bW bM base W ts m w)(hb:OneBx a q bA bW bM base)
  (h1:2*x.1+2*x.2.2<=n) (h2:x.2.1<=x.1) (h3:0<x.2.2) (ht:ts.length<=65536) (hm:m<=65536):
  Calls prog 77 #[.agg #[.int .i64 (x.1:Nat),.int .i64 (x.2.1:Nat),.int .i64 (x.2.2:Nat)],.pointer (some ⟨bA,0,none⟩),.pointer (some ⟨bW,0,none⟩),.pointer (some ⟨bM,0,none⟩)] w (OnePost a q n bA bW bM base W ts m x w):=by
 obtain⟨fr,tt,sz⟩:=x
 dsimp only at h1 h2 h3 ⊢
 obtain⟨ar,⟨v,hA,hrow⟩,hW,hM,hbig⟩:=h
 have hn:=ar.small
 obtain⟨va,vc,hva⟩:=AA hrow
 subst hva
 obtain⟨L,hL⟩:∃ L,ts.length=L:=⟨_,rfl⟩
 rw[hL] at hrow hA ht
 have HL:=sE hL
 clear hL
 have cA:=cell_of_one hA
 have fA:=free_of_one hA
 have cW:=cell_of_one hW
 have fW:=free_of_one hW
 have cM:=cell_of_one hM
 have lA:=lZ hA
 have lW:=lZ hW
 have lM:=lZ hM
 have HAR:=sE ar
 have HA:=sE hA
 have HW:=sE hW
 have HM:=sE hM
 have HR:=sE hrow
 have HB:=sE hb
 clear ar hA hW hM hrow hb
 go_enter func77,ntmps77
 go_wp2_with (at_builtin;obtain ⟨i0,hi,hz0,hz1,hz2⟩:=info_parts Dj;go_loud (refine wpList_append_lies _ rfl (.tmp 6) (.tmp 9) 82 rfl base 3 i0 _ 1 8 A8 hi hz0 hz1 hz2 rfl (by omega) (.slice va L vc) L (AC ts) rfl ((HR.out.alloc _).alloc _) ⟨w.heap.size+1,0,none⟩ 1 1 [.int .i64 (tt:Nat)] rfl rfl ?_ (by intro u hu;simp at hu;subst hu;rfl) (by omega) (by unfold maxLen;omega) (by omega) (by simp;omega) _ rfl ?_))
 .exact World.news_of_block (by simpa using wN (w.alloc (.cells #[.int .i64 (fr:Nat),.int .i64 (tt:Nat),.int .i64 (sz:Nat)] 43)) (.cells #[.int .i64 (tt:Nat)] 3))
 intro g cap w3 hown hgrow ha hg
 have k3:Kp (λ b=>base<=b) w w3:=(((Kr _ w).alloc _).alloc _).grown hgrow (λ k e hl=>by
  have:=Af HR.out e
  omega)
 have hx3:w3.heap[w.heap.size]?=some (.cells #[.int .i64 (fr:Nat),.int .i64 (tt:Nat),.int .i64 (sz:Nat)] 43 (0,0)):=by
  rw[hgrow.block _ (by simp;omega) (λ e=>by have:=Af HR.out e.symm;omega)]
  exact(Below.heap_alloc _ _ _ (by simp)).trans (wN w _)
 have hB:=HB.out
 have a3:=k3.at_ HA.out (by have:=hB.lA;omega)
 have b3:=k3.at_ HW.out (by have:=hB.lW;omega)
 have m3:=k3.at_ HM.out (by have:=hB.lM;omega)
 have l3:=k3.size
 clear hgrow ha cA fA cW fW cM lA lW lM
 have cA:=cell_of_one a3
 have fA:=free_of_one a3
 have KB:Kp (λ b=>b=bA) w3 (w3.setCell ⟨bA,0,none⟩ (.slice (some ⟨g,0,none⟩) (L+1) cap)):=(Kr (λ b=>b=bA) w3).setCell (λ _=>rfl) _
 have HA4:=sE (one_setCell (u:=.slice (some ⟨g,0,none⟩) (L+1) cap) a3)
 have hx4:=KB.at_ hx3 (by have:=hB.lA;omega)
 have b4:=KB.at_ b3 hB.AW.symm
 have m4:=KB.at_ m3 hB.AM.symm
 have hown4:=Ah hown KB (λ b hb h=>by have:=Af hown hb;have:=hB.lA;omega)
 have k4:Kp (λ b=>b=bA\/base<=b) w (w3.setCell ⟨bA,0,none⟩ (.slice (some ⟨g,0,none⟩) (L+1) cap)):=(k3.mono λ_ _ h=>.inr h).trans KB (λ b _ h=>.inl h)
 have KA4:=HAR.out.keep k4 (by have:=hB.aA;have:=hB.lA;omega) (by have:=hB.qA;have:=hB.lA;omega)
 have HX4:=sE hx4
 have HM4:=sE (And.intro b4 m4)
 have HOW4:=sE hown4
 have HK4:=sE k4
 have HAR4:=sE KA4
 have hz4:=k4.size
 obtain⟨bX,hbX⟩:∃ bX,w.heap.size=bX:=⟨_,rfl⟩
 have hbs:base<=bX:=by omega
 have hln:(ts++[tt]).length=L+1:=by rw[List.length_append,HL.out];rfl
 have hnv:AC ts++[.int .i64 (tt:Nat)]=AC (ts++[tt]):=by rw[AC,AC,List.map_append];rfl
 rw[hbX] at HX4 hz4 ⊢
 rw[hnv] at HOW4
 rw[hbX] at hx3
 have cW:=cell_of_one b3
 have fW:=free_of_one b3
 have cM:=cell_of_one m3
 have x0:w3.cell? ⟨bX,0,none⟩=some (.int .i64 (fr:Nat)):=by simp[World.cell?,hx3]
 have x1:w3.cell? ⟨bX,1,none⟩=some (.int .i64 (tt:Nat)):=by simp[World.cell?,hx3]
 have x2:w3.cell? ⟨bX,2,none⟩=some (.int .i64 (sz:Nat)):=by simp[World.cell?,hx3]
 have n1:bX≠bA:=by have:=hB.lA;omega
 have n2:bX≠bW:=by have:=hB.lW;omega
 have n3:=hB.AW
 have n3':=hB.AW.symm
 have n4:=hB.AM.symm
 have n5:=hB.WM.symm
 clear hx4 b4 m4 hown4 k4 KA4 hx3 a3 b3 m3 k3 KB hown hnv
 by_cases e:tt=fr
 .subst e
  have hmv:Dn W (2*tt) (2*tt) (2*sz)=W:=moveW_same _ _ _
  go_wp2_with fail
  refine bodyPost_ret (v:=.int .i64 0) (by simp[results,results77,go_sem]) rfl ⟨rfl,⟨?_,⟨_,HA4.out,?_⟩,?_,HM4.out.2,by omega⟩,HK4.out.mono λ b _ h=>?_⟩
  .show ArenaAt _ a q (Dn W (2*tt) (2*tt) (2*sz)) n
   rw[hmv]
   exact HAR4.out
  .rw [hln];exact HOW4.out
  .rw [if_pos rfl,Nat.add_zero];exact HM4.out.1
  .rcases h with h|h
   .exact .inl h
   .exact .inr (.inr (.inr (.inr h)))
 .have hWs:IntKind.i64.wrap ((m:Int)+2*(sz:Int))=(m:Int)+2*(sz:Int):=by rw[IntKind.wrap_i64];omega
  have hW1:IntKind.i64.wrap (2*(sz:Int))=2*(sz:Int):=by rw[IntKind.wrap_i64];omega
  have hW2:IntKind.i64.wrap (2*(fr:Int))=2*(fr:Int):=by rw[IntKind.wrap_i64];omega
  have hW3:IntKind.i64.wrap (2*(tt:Int))=2*(tt:Int):=by rw[IntKind.wrap_i64];omega
  go_wp2_with fail
  have H4:∀ b,b=a\/b=q->¬ b=bW:=λ b h=>by have:=hB.aW;have:=hB.qW;omega
  have KW:Kp (λ b=>b=bW) (w3.setCell ⟨bA,0,none⟩ (.slice (some ⟨g,0,none⟩) (L+1) cap)) _:=(Kr (λ b=>b=bW) (w3.setCell ⟨bA,0,none⟩ (.slice (some ⟨g,0,none⟩) (L+1) cap))).setCell (p:=⟨bW,0,none⟩) (λ _=>rfl) (.int .i64 ((m:Int)+2*(sz:Int)))
  have b5:=one_setCell (u:=.int .i64 ((m:Int)+2*(sz:Int))) HM4.out.1
  have A5:=KW.at_ HA4.out n3
  have M5:=KW.at_ HM4.out.2 n5
  have ar5:=HAR4.out.keep KW (H4 a (.inl rfl)) (H4 q (.inr rfl))
  have o5:=Ah HOW4.out KW (λ b hb h=>by have:=Af HOW4.out hb;have:=hB.lW;omega)
  have s5:=KW.size
  have HK5:Kp (λ b=>b=bA\/b=bW\/b=a\/b=q\/base<=b) w _:=(HK4.out.mono λ b _ h=>(show b=bA\/b=bW\/b=a\/b=q\/base<=b by rcases h with h|h;exact .inl h;exact .inr (.inr (.inr (.inr h))))).trans KW (λ b _ h=>.inr (.inl h))
  generalize World.setCell _ _ _=w5 at b5 A5 M5 ar5 o5 s5 HK5 ⊢
  have e1:((2*tt:Nat):Int)=2*(tt:Int):=by omega
  have e2:((2*fr:Nat):Int)=2*(fr:Int):=by omega
  have e3:((2*sz:Nat):Int)=2*(sz:Int):=by omega
  have HMV:=AMove_at (2*tt) (2*fr) (2*sz) a q n W w5 ar5 h1 (by omega) (by omega)
  rw[e1,e2,e3] at HMV
  refine HMV.mono ?_
  rintro e6 w6 ⟨rfl,k6,ar6⟩
  go_wp2_with fail
  have hn6:∀ b,(b=a\/b=q)->b≠bA/\b≠bW/\b≠bM/\b<base:=λ b h=>by have:=hB.aA;have:=hB.qA;have:=hB.aW;have:=hB.qW;have:=hB.aM;have:=hB.qM;have:=hB.lA;omega
  refine bodyPost_ret (v:=.int .i64 0) (by simp[results,results77,go_sem]) rfl ⟨rfl,⟨ar6,⟨_,k6.at_ A5 (λ h=>(hn6 _ h).1 rfl),?_⟩,?_,k6.at_ M5 (λ h=>(hn6 _ h).2.2.1 rfl),by have:=k6.size;omega⟩,HK5.trans k6 λ b _ h=>?_⟩
  .rw [hln]
   exact Ah o5 k6 (λ b hb h=>by have:=Af o5 hb;have:=(hn6 _ h).2.2.2;omega)
  .rw [if_neg e]
   have:=k6.at_ b5 (λ h=>(hn6 _ h).2.1 rfl)
   rw[this,Int.natCast_add,e3]
  .rcases h with h|h
   .exact .inr (.inr (.inl h))
   .exact .inr (.inr (.inr (.inl h)))

end

section
open Go.RowKit

theorem OneSt.keep{a q n bA bW bM base:Nat}{W:Nat->Nat}{ts:List Nat}{m:Nat}{w w':World}(h:OneSt a q n bA bW bM base W ts m w)(k:Kp Ab w w'):OneSt a q n bA bW bM base W ts m w':=by
 obtain⟨v,h1,h2⟩:=h.row
 exact⟨h.ar.Ad k,⟨v,k.at_ h1 (λ h=>h),Ah h2 k (λ _ _ h=>h)⟩,k.at_ h.wd (λ h=>h),k.at_ h.mv (λ h=>h),Nat.le_trans h.big k.size⟩

def SlDoPost(P:Sp)(W:Nat->Nat)(cs:List Cel)(es:List (Nat×Nat×Nat))(w:World)(e:Ending)(w':World):Prop:=
 e=.returned (.tuple #[.int .i64 (Cf es:Nat),.int .i64 0])/\Kp P.own w w'/\Az w' P (AR (Bh es W) 0 (BS cs es) (P.n/2)) (Bd 0 (BS cs es) (P.n/2))

theorem SlDo_at(P:Sp)(W:Nat->Nat)(cs:List Cel)(es:List (Nat×Nat×Nat))(v:Value)(w:World)(hs:Az w P W cs)(h:Et w v es)(hg:GoodP cs es)(hl:es.length<=1000)(hv:∀ b o l c,v=.slice (some ⟨b,o,none⟩) l c->¬ P.own b):
  Calls prog 36 #[.pointer (some ⟨P.s,0,none⟩),.agg #[v]] w (SlDoPost P W cs es w):=by
 have HSp:=sE hs
 have HRo:=sE h
 have HGp:=sE hg
 obtain⟨va,vc,rfl,-⟩:=h
 obtain⟨n,hn⟩:∃ n,es.length=n:=⟨_,rfl⟩
 rw[hn] at HRo hl hv ⊢
 have HN:=sE hn
 obtain⟨f,hsp,hcs,hst⟩:=hs
 have lall:=hsp.lt
 have hsm:=hsp.ar.small
 have HS0:=sE hsp
 have HTl:=sE hcs.tl
 have HCs:=sE hcs
 have HFt:Sl (FC cs (castS es)):=⟨hg.fits⟩
 obtain⟨B,hB⟩:∃ B,w.heap.size=B:=⟨_,rfl⟩
 have HB:=sE hB
 obtain⟨w1,hw1⟩:∃ w1,w1=(w.alloc (.cells #[.slice va n vc] 33)).alloc (.cells #[.int .i64 0] 3):=⟨_,rfl⟩
 have k1:Kp Ab w w1:=by rw[hw1];exact ((Kr _ w).alloc _).alloc _
 have b0:w1.heap[B]?=some (.cells #[.slice va n vc] 33 (0,0)):=by
  rw[hw1,<- hB]
  exact((Kr Ab _).alloc _).at_ (wN w _) (λ h=>h)
 have b1:w1.heap[B+1]?=some (.cells #[.int .i64 0] 3 (0,0)):=by
  rw[hw1]
  have:=wN (w.alloc (.cells #[.slice va n vc] 33)) (.cells #[.int .i64 0] 3)
  rwa [show (w.alloc (.cells #[.slice va n vc] 33)).heap.size=B+1 by simp[hB]] at this
 have HCk:=sE (TCheck_at P W cs (castS es) (.slice va n vc) w1 (hsW1 HSp.out k1) (HRo.out.Ad k1).rowH (by rw[castS_len,HN.out];omega))
 have HK1:=sE k1
 have Hb0:=sE b0
 have Hb1:=sE b1
 have c0:=cell_of_one b0
 clear hn hg k1 b0 b1 hsp hcs hst
 go_enter func36,ntmps36
 go_wp2_with fail
 rw[<- hw1]
 clear hw1
 try rw[hB]
 refine HCk.out.mono ?_
 rintro e w2 ⟨(⟨-,rfl⟩|⟨hno,-⟩),k2⟩
 case inr=>exact absurd HFt.out hno
 have HK2:Sl (Kp Ab w w2):=⟨HK1.out.then' k2⟩
 have Hb2:=sE (k2.at_ Hb1.out (λ h=>h))
 have Hb20:=sE (k2.at_ Hb0.out (λ h=>h))
 have HSa:Sl (SpaceAt w2 P W f):=⟨HS0.out.Ad HK2.out⟩
 have HAr:=sE (BV P W f w2 HSa.out)
 replace c0:=k2.cell c0 (λ h=>h)
 clear k2 HCk
 go_wp2_with fail
 refine HAr.out.mono ?_
 rintro e w3 ⟨rfl,rfl⟩
 have lB:B<w3.heap.size:=lZ Hb20.out
 have lB1:B+1<w3.heap.size:=lZ Hb2.out
 obtain⟨M,hM⟩:∃ M,w3.heap.size=M:=⟨_,rfl⟩
 obtain⟨w4,hw4⟩:∃ w4,w4=(w3.alloc (.cells #[.func (.func 76) #[.pointer (some ⟨P.a,0,none⟩)] #[]] 149)).alloc (.cells #[.slice none 0 0] 82):=⟨_,rfl⟩
 have k4:Kp Ab w3 w4:=by rw[hw4];exact ((Kr _ w3).alloc _).alloc _
 have b7:w4.heap[M]?=some (.cells #[.func (.func 76) #[.pointer (some ⟨P.a,0,none⟩)] #[]] 149 (0,0)):=by
  rw[hw4,<- hM]
  exact((Kr Ab _).alloc _).at_ (wN w3 _) (λ h=>h)
 have b8:w4.heap[M+1]?=some (.cells #[.slice none 0 0] 82 (0,0)):=by
  rw[hw4]
  have:=wN (w3.alloc (.cells #[.func (.func 76) #[.pointer (some ⟨P.a,0,none⟩)] #[]] 149)) (.cells #[.slice none 0 0] 82)
  rwa [show (w3.alloc (.cells #[.func (.func 76) #[.pointer (some ⟨P.a,0,none⟩)] #[]] 149)).heap.size=M+1 by simp[hM]] at this
 have z4:w4.heap.size=M+2:=by rw[hw4];simp [hM]
 have la:P.a<B:=by have:=lall P.a (by simp[Sp.all]);omega
 have lq:P.q<B:=by have:=lall P.q (by simp[Sp.all]);omega
 have HBx:Sl (OneBx P.a P.q (M+1) (B+1) M (M+2)):=⟨⟨by omega,by omega,by omega,by omega,by omega,by omega,by omega,by omega,by omega,by omega,by omega,by omega⟩⟩
 have HSt0:Sl (OneSt P.a P.q P.n (M+1) (B+1) M (M+2) (Bh (es.take 0) W) ((es.take 0).map λ x=>x.2.1) (Cf (es.take 0)) w4):=⟨⟨HSa.out.ar.Ad k4,⟨_,b8,World.ownsRow_nil _ _ _ _⟩,k4.at_ Hb2.out (λ h=>h),b7,by omega⟩⟩
 have HK4:Sl (Kp Ab w w4):=⟨HK2.out.then' k4⟩
 have HM:=sE hM
 clear k4 b7 b8 HAr hM
 go_wp2_with fail
 have hM:=HM.out
 rw[<- hw4]
 try rw[hM]
 clear hw4
 go_loopw [11,12,26] (λ _ _ x26 wr=>∃ j:Nat,j<=n/\x26=.int .i64 (j:Nat)/\OneSt P.a P.q P.n (M+1) (B+1) M (M+2) (Bh (es.take j) W) ((es.take j).map λ x=>x.2.1) (Cf (es.take j)) wr/\Kp (λ b=>b=P.a\/b=P.q) w wr) (λ _ _ x26 _=>n-(intOf x26).toNat)
 case atStart=>exact ⟨0,Nat.zero_le _,rfl,HSt0.out,HK4.out.Al _⟩
 case round=>
  obtain⟨j,hj,rfl,hst,hk⟩:=hrel
  have HK:=sE hk
  have HSt:=sE hst
  by_cases hjl:j<n
  .have hjl':(j:Int)<(n:Int):=by omega
   obtain⟨va',vc',e,hx⟩:=HRo.out
   injection e with e1 e3 e2
   clear e3
   subst e1 e2
   obtain⟨x,hxj⟩:∃ x,es[j]?=some x:=⟨_,List.getElem?_eq_getElem (by rw[HN.out];exact hjl)⟩
   obtain⟨bb,o,rfl,hbb,x0,x1,x2⟩:=hx j x hxj
   have hnb:¬ (bb=P.a\/bb=P.q):=λ h=>hv bb o n vc rfl (by rcases h with h|h;exact .inl h;exact .inr (.inl h))
   replace x0:=hk.cell x0 hnb
   replace x1:=hk.cell x1 hnb
   replace x2:=hk.cell x2 hnb
   have HX:=sE hxj
   obtain⟨xf,xt,xz⟩:=x
   simp only at x0 x1 x2
   have hxm:(xf,xt,xz)∈es:=List.mem_of_getElem? hxj
   have hft:=HGp.out.fit HTl.out hxm
   have hle:=HGp.out.le _ hxm
   have hmo:=HGp.out.moved HTl.out j
   dsimp only at hft hle
   have hev:=HS0.out.ev
   have HOne:=sE (One_at P.a P.q P.n (M+1) (B+1) M (M+2) (Bh (es.take j) W) ((es.take j).map λ x=>x.2.1) (Cf (es.take j)) (xf,xt,xz) (wr.alloc (.cells #[.int .i64 (xf:Nat),.int .i64 (xt:Nat),.int .i64 (xz:Nat)] 43)) (hst.keep ((Kr _ wr).alloc _)) HBx.out (by dsimp only;omega) (by dsimp only;omega) (by dsimp only;omega) (by rw[List.length_map,List.length_take];omega) (by omega))
   clear hx hst hk hxm hft hle hmo hev
   go_wp2_with fail
   refine HOne.out.mono ?_
   rintro e w6 ⟨rfl,st6,k6⟩
   have HK6:Sl (Kp (λ b=>b=P.a\/b=P.q) w w6):=⟨(HK.out.alloc _).trans k6 λ i hi h=>by
    rw[HB.out] at hi
    rcases h with h|h|h|h|h
    .omega
    .omega
    .exact .inl h
    .exact .inr h
    .omega⟩
   have HSt6:=sE st6
   have htk:es.take (j+1)=es.take j++[(xf,xt,xz)]:=by rw[List.take_add_one,HX.out];rfl
   clear st6 k6
   go_wp2_with fail
   refine⟨⟨j+1,by omega,by go_num,?_,HK6.out⟩,by simp only[intOf];omega⟩
   rw[htk,slideW_app,List.map_append,movedW_snoc]
   exact HSt6.out
  .have hje:j=n:=by omega
   subst hje
   have htk:es.take j=es:=by rw[<- HN.out,List.take_length]
   rw[htk] at HSt hst
   obtain⟨v,h8,hrow⟩:=hst.row
   have hml:(es.map λ x=>x.2.1).length=j:=by rw[List.length_map,HN.out]
   rw[hml] at hrow
   obtain⟨sa,sc,hv8⟩:=AA hrow
   subst hv8
   have c8:=cell_of_one h8
   have hcl:((es.map λ x=>x.2.1).map λ(n:Nat)=>(n:Int)).length=j:=by rw[List.length_map,hml]
   have HSo:=sE (Sort_row (M+2) (.slice sa j sc) ((es.map λ x=>x.2.1).map λ(n:Nat)=>(n:Int)) wr (by rw[hcl,<- natVs_cast];exact hrow) (by rw[hcl];omega))
   rw[hcl,sortT_cast,<- natVs_cast] at HSo
   have hob:∀ b,(Value.slice sa j sc).ownBlock=some b->M+2<=b:=λ b h=>(Af hrow h).1
   have HOb:=sE hob
   have H8:=sE h8
   clear hst hk hrow h8 hob hcl hml
   go_wp2_with fail
   with_reducible refine HSo.out.mono ?_
   rintro e w7 ⟨rfl,o7,k7⟩
   have k8:Kp (λ b=>M+2<=b) wr w7.drew:=(k7.mono λ b _ h=>HOb.out b h).drew
   have o8:w7.drew.ownsRow (M+2) 3 1 (.slice sa j sc) j (AC (DF es)):=Ah o7 (Kr Ab w7).drew (λ _ _ h=>h)
   have kw:Kp (λ b=>b=P.a\/b=P.q) w w7.drew:=HK.out.trans k8 (λ b hb h=>by rw[HB.out] at hb;omega)
   have ar8:=HSt.out.ar.keep k8 (by omega) (by omega)
   have S8:=HS0.out.wordsS kw (λ i _ h=>h) ar8
   have b8:=k8.at_ HSt.out.wd (by omega)
   have a8:=k8.at_ H8.out (by omega)
   have I8:Bw 1 w7.drew (.slice sa j sc) j (λ i _=>((DF es).getD i 0:Nat)):=⟨sa,sc,rfl,λ i hi=>by
    have hsl:i<(DF es).length:=by rw[sortT_len,HN.out];exact hi
    obtain⟨bb,h1,h2⟩:=Db o8 (List.getElem?_eq_getElem hsl)
    refine⟨bb,0,h1,World.block_lt_of_cell? _ _ h2,λ k hk=>?_⟩
    obtain rfl:k=0:=by omega
    have hgd:(DF es).getD i 0=(DF es)[i]:=by rw[List.getD_eq_getElem?_getD,List.getElem?_eq_getElem hsl];rfl
    have hmm:=DI.1 (List.getElem_mem hsl)
    obtain⟨y,hy,hy2⟩:=hmm
    have:=(HGp.out.fit HTl.out hy).2.1
    (try dsimp only)
    rw[hgd,Nat.zero_add,Nat.mul_one,Nat.add_zero]
    exact⟨h2,by omega,by omega⟩⟩
   have HSe:Sl _:=⟨SSettle_to P (Bh es W) f (.slice sa j sc) j (λ i _=>((DF es).getD i 0:Nat)) w7.drew S8 I8 hl (λ _ b hb h=>by
    have h1:=HOb.out b hb
    have h2:=lall b (by rcases h with h|h|h <;> simp[Sp.all,h])
    omega)⟩
   have hset:=slidO_settle (P:=P) (W:=W) HCs.out HGp.out
   rw[HN.out] at hset
   have HSet:=sE hset
   have cB:=cell_of_one b8
   have c8':=cell_of_one a8
   have HB8:=sE b8
   have HKw:=sE kw
   have hnown:∀ b,B<=b->¬ P.own b:=λ b hb h=>by
    have h2:=lall b (by rcases h with h|h|h <;> simp[Sp.all,h])
    omega
   have HNo:=sE hnown
   clear k8 o8 kw ar8 S8 b8 a8 I8 hset o7 k7 hnown HSo c8
   go_wp2_with fail
   refine wp_region_held_drew (S:=λ w'=>w'.cell? ⟨B+1,0,none⟩=some (.int .i64 (Cf es:Nat))/\w'.cell? ⟨M+1,0,none⟩=some (.slice sa j sc)) (by kernel_rfl) ?_ (λ qZ=>?_)
   .exact ⟨cB,c8'⟩
   refine Ao 0 ?_;refine Ao 1 ?_;refine Ao 2 ?_
   try simp only[Aw]
   refine AV [3] ?_
   refine Ag rfl (λ K hK=>?_)
   go_simp
   with_reducible refine HSe.out.mono ?_
   rintro e w9 (⟨h1,-⟩|⟨os,h1,rfl,k9,hsp9⟩)
   .rw [HSet.out] at h1
    cases h1
   rw[HSet.out] at h1
   obtain rfl:=Option.some.inj h1
   have b9:=k9.at_ HB8.out (HNo.out _ (by omega))
   have cB9:=cell_of_one b9
   have fB9:=free_of_one b9
   have cM9:=k9.cell c8' (HNo.out _ (by show B<=M+1;omega))
   refine hK _ _ ?_ (λ qZ=>?_)
   .exact ⟨cB9,cM9⟩
   clear hK K
   try simp only[Aw]
   refine AV [4] ?_
   refine Ag rfl (λ K hK=>?_)
   go_simp
   have KB:Kp (λ b=>b=B+1) w9 (w9.setCell ⟨B+1,0,none⟩ (.int .i64 (Cf es:Nat))):=(Kr (λ b=>b=B+1) w9).setCell (λ _=>rfl) _
   have b10:=one_setCell (u:=.int .i64 (Cf es:Nat)) b9
   have cB10:=cell_of_one b10
   have cM10:=KB.cell cM9 (by show ¬ M+1=B+1;omega)
   have hsp10:Az (w9.setCell ⟨B+1,0,none⟩ (.int .i64 (Cf es:Nat))) P (AR (Bh es W) 0 (BS cs es) (P.n/2)) (Bd 0 (BS cs es) (P.n/2)):=by
    obtain⟨f',s1,s2,s3⟩:=hsp9
    exact⟨f',s1.keep KB (λ i hi h=>by have:=lall i hi;omega),s2,s3⟩
   have k10:Kp P.own w (w9.setCell ⟨B+1,0,none⟩ (.int .i64 (Cf es:Nat))):=((HKw.out.mono λ b _ h=>(show P.own b by rcases h with h|h;exact .inl h;exact .inr (.inl h))).trans k9 (λ _ _ h=>h)).trans KB (λ b hb h=>by rw[HB.out] at hb;omega)
   refine hK _ _ ?_ (λ qZ=>?_)
   .exact ⟨cB10,cM10⟩
   clear hK K
   try simp only[Aw]
   refine Ao 5 ?_
   try simp only[Aw]
   refine wpAnyH_done (by kernel_rfl) ?_ _
   generalize w9.setCell _ _=w10 at cB10 hsp10 k10 ⊢
   have HFin:=sE (And.intro k10 hsp10)
   clear KB b10 cM10 hsp10 k10 b9 cB9 fB9 cM9 hsp9 k9
   go_wp2_with fail
   exact bodyPost_ret (v:=.tuple #[.int .i64 (Cf es:Nat),.int .i64 0]) (by simp[results,results36,go_sem,cB10]) rfl ⟨rfl,HFin.out.1,HFin.out.2⟩

end

section
open Go.RowKit

theorem SlDo_nil(v:Value)(w:World):Calls prog 36 #[.pointer none,.agg #[v]] w λ e w'=>e=.returned (.tuple #[.int .i64 0,.int .i64 1])/\Kp Ab w w':=by
 obtain⟨B,hB⟩:∃ B,w.heap.size=B:=⟨_,rfl⟩
 obtain⟨w1,hw1⟩:∃ w1,w1=(w.alloc (.cells #[v] 33)).alloc (.cells #[.int .i64 0] 3):=⟨_,rfl⟩
 have k1:Kp Ab w w1:=by rw[hw1];exact ((Kr _ w).alloc _).alloc _
 have b0:w1.heap[B]?=some (.cells #[v] 33 (0,0)):=by
  rw[hw1,<- hB]
  exact((Kr Ab _).alloc _).at_ (wN w _) (λ h=>h)
 have b1:w1.heap[B+1]?=some (.cells #[.int .i64 0] 3 (0,0)):=by
  rw[hw1]
  have:=wN (w.alloc (.cells #[v] 33)) (.cells #[.int .i64 0] 3)
  rwa [show (w.alloc (.cells #[v] 33)).heap.size=B+1 by simp[hB]] at this
 have HCk:=sE (TCheck_nil v w1)
 have c0:=cell_of_one b0
 go_enter func36,ntmps36
 go_wp2_with fail
 rw[<- hw1]
 clear hw1
 try rw[hB]
 refine HCk.out.mono ?_
 rintro e w2 ⟨rfl,k2⟩
 have cB:=cell_of_one (k2.at_ b1 (λ h=>h))
 have fB:=free_of_one (k2.at_ b1 (λ h=>h))
 have lB:B+1<w2.heap.size:=lZ (k2.at_ b1 (λ h=>h))
 have KB:Kp Ab w (w2.setCell ⟨B+1,0,none⟩ (.int .i64 0)):=(k1.then' k2).trans ((Kr (λ b=>b=B+1) w2).setCell (p:=⟨B+1,0,none⟩) (λ _=>rfl) (.int .i64 0)) (λ b hb h=>by rw[hB] at hb;omega)
 have cB2:=cell_of_one (one_setCell (u:=.int .i64 0) (k2.at_ b1 (λ h=>h)))
 clear k2 b0 b1 c0 k1
 go_wp2_with fail
 exact bodyPost_ret (v:=.tuple #[.int .i64 0,.int .i64 1]) (by simp[results,results36,go_sem,cB2]) rfl ⟨rfl,KB⟩

def SlAllPost(P:Sp)(W:Nat->Nat)(cs:List Cel)(es:List (Nat×Nat×Nat))(w:World)(e:Ending)(w':World):Prop:=
 e=.returned (.tuple #[.int .i64 (Fw es (FP P.ts cs) es W:Nat),.int .i64 (Cf es:Nat),.int .i64 0])/\Kp P.own w w'/\
  Az w' P (AR (Bh es (BZ es (FP P.ts cs) es W)) 0 (BS cs es) (P.n/2)) (Bd 0 (BS cs es) (P.n/2))

theorem SlAll_at(P:Sp)(W:Nat->Nat)(cs:List Cel)(es:List (Nat×Nat×Nat))(v:Value)(w:World)(hs:Az w P W cs)(h:Et w v es)(hg:GoodP cs es)(hl:es.length<=1000)(hms:∀ x∈P.ts,x.m<18446744073709551616)(hv:∀ b o l c,v=.slice (some ⟨b,o,none⟩) l c->¬ P.own b):
  Calls prog 11 #[.pointer (some ⟨P.s,0,none⟩),.agg #[v]] w (SlAllPost P W cs es w):=by
 have HSp:=sE hs
 have HRo:=sE h
 obtain⟨B,hB⟩:∃ B,w.heap.size=B:=⟨_,rfl⟩
 obtain⟨w1,hw1⟩:∃ w1,w1=w.alloc (.cells #[v] 33):=⟨_,rfl⟩
 have k1:Kp Ab w w1:=by rw[hw1];exact (Kr _ w).alloc _
 have b0:w1.heap[B]?=some (.cells #[v] 33 (0,0)):=by
  rw[hw1,<- hB]
  exact wN w _
 have HTd:=sE (TDo_at P W cs es v w1 (hsW1 hs k1) (h.Ad k1) hg (by omega) hms hv)
 have c0:=cell_of_one b0
 go_enter func11,ntmps11
 go_wp2_with fail
 rw[<- hw1]
 clear hw1
 try rw[hB]
 refine HTd.out.mono ?_
 rintro e w2 ⟨rfl,hs2,k2⟩
 have hBa:∀ b,(b=P.a\/b=P.q)->b<B:=λ b h=>by
  obtain⟨f,s1,-,-⟩:=hs
  have:=s1.lt b (by rcases h with h|h <;> simp[Sp.all,h])
  omega
 replace c0:=k2.cell c0 (λ h=>by have:=hBa _ h;dsimp only at this;omega)
 have hr2:Et w2 v es:=by
  obtain⟨va,vc,rfl,hx⟩:=h
  refine⟨va,vc,rfl,λ i x hi=>?_⟩
  obtain⟨bb,o,rfl,h1,h2,h3,h4⟩:=hx i x hi
  have hn:¬ (bb=P.a\/bb=P.q):=λ h=>hv bb o _ vc rfl (by rcases h with h|h;exact .inl h;exact .inr (.inl h))
  have k:=(k1.Al (λ b=>b=P.a\/b=P.q)).trans k2 (λ _ _ h=>h)
  exact⟨bb,o,rfl,Nat.lt_of_lt_of_le h1 k.size,k.cell h2 hn,k.cell h3 hn,k.cell h4 hn⟩
 have HSd:=sE (SlDo_at P _ cs es v w2 hs2 hr2 hg hl hv)
 have HK2:Sl (Kp P.own w w2):=⟨(k1.Al P.own).trans k2 (λ b _ h=>(by rcases h with h|h;exact .inl h;exact .inr (.inl h)))⟩
 clear hs2 hr2 k2
 go_wp2_with fail
 refine HSd.out.mono ?_
 rintro e w3 ⟨rfl,k3,hs3⟩
 have HFin:=sE (And.intro (HK2.out.trans k3 (λ _ _ h=>h)) hs3)
 clear k3 hs3
 go_wp2_with fail
 exact bodyPost_ret (v:=.tuple #[.int .i64 (Fw es (FP P.ts cs) es W:Nat),.int .i64 (Cf es:Nat),.int .i64 0]) (by simp[results,results11,go_sem]) rfl ⟨rfl,HFin.out.1,HFin.out.2⟩

end

end Go.Proofs.YtmfajopmppfldaaGreatDoor
