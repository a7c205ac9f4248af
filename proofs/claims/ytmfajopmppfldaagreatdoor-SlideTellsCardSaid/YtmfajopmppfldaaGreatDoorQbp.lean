/-
  Lemmas for the laws, together: SlideQ, TellsP.
-/
import Derived.Test.YtmfajopmppfldaaGreatDoorQbi
import Derived.Test.YtmfajopmppfldaaGreatDoorQaw
import Derived.Test.YtmfajopmppfldaaGreatDoorQbg
set_option linter.unusedVariables false
set_option maxHeartbeats 16000000
namespace Go.Proofs.YtmfajopmppfldaaGreatDoor
open Go.Proofs.Tryz
section
open Go.RowKit

theorem movedW_snoc(x:Nat×Nat×Nat):∀ xs:List (Nat×Nat×Nat),Bl (xs++[x])=Bl xs+if x.2.1=x.1 then 0 else 2*x.2.2
 |[]=>by simp[Bl]
 |y::ys=>by rw[List.cons_append,Bl,Bl,movedW_snoc x ys,Nat.add_assoc]

theorem movedW_le{H:Nat}:∀ {es:List (Nat×Nat×Nat)} {e:Nat},(∀ x∈es,e<=x.1/\x.1+x.2.2<=H)->(es.Pairwise λ y z=>y.1+y.2.2<=z.1)->e<=H->Bl es<=2*(H-e)
 |[],e,_,_,_=>Nat.zero_le _
 |x::xs,e,h,hp,he=>by
  rw[List.pairwise_cons] at hp
  have h1:=h x List.mem_cons_self
  have:=movedW_le (es:=xs) (e:=x.1+x.2.2) (λ y hy=>⟨hp.1 y hy,(h y (List.mem_cons_of_mem _ hy)).2⟩) hp.2 h1.2
  rw[Bl]
  split <;> omega

theorem GoodP.moved{cs:List Cel}{es:List (Nat×Nat×Nat)}{H:Nat}(h:GoodP cs es)(ht:Au 0 cs H)(j:Nat):Bl (es.take j)<=2*H:=by
 have:=movedW_le (H:=H) (es:=es.take j) (e:=0) (λ x hx=>⟨Nat.zero_le _,(h.fit ht (List.mem_of_mem_take hx)).1⟩) ((h.rows ht).sublist (List.take_sublist _ _)) (Nat.zero_le _)
 omega

theorem objAt_slide{P:Sp}{W:Nat->Nat}{cs:List Cel}{es:List (Nat×Nat×Nat)}(hc:CellsAt P W cs)(hg:GoodP cs es){x:Nat×Nat×Nat}(hx:x∈es):Cb (AX es W) P.n P.ts (x.2.1:Nat)=some (goesTo cs es x.2.1):=by
 obtain⟨c,hm,h1,h2,h3,h4⟩:=goesTo_at hg hc.tl hx
 have hf:=hg.fit hc.tl hx
 rw[h4]
 have hw:AX es W (2*x.2.1)=W (2*x.1):=hg.slide hc.tl hx W (k:=0) (by omega)
 refine obj_one (c:=putAt c x.2.1) (hc.ok c hm) ?_ ?_ ?_ h1
 .show AX es W (2*x.2.1)=Bo c.tag c.ty c.ln c.sz
  rw[hw,<- h2]
  exact hc.hd c hm
 .show x.2.1+c.sz<=P.n/2
  omega
 .show 0<c.sz
  omega

def Bn(es:List (Nat×Nat×Nat)):List Nat:=(es.map λ x=>x.2.1).mergeSort λ x y=>decide (x<=y)

theorem sortT_len(es:List (Nat×Nat×Nat)):(Bn es).length=es.length:=by simp[Bn]

theorem sortT_cast(es:List (Nat×Nat×Nat)):((es.map λ x=>x.2.1).map λ(n:Nat)=>(n:Int)).mergeSort (λ x y=>decide (x<=y))=(Bn es).map λ(n:Nat)=>(n:Int):=by
 unfold Bn
 rw[List.map_mergeSort]
 intro a _ b _
 simp

theorem DD{es:List (Nat×Nat×Nat)}{t:Nat}:t∈Bn es ↔ ∃ x∈es,x.2.1=t:=by
 unfold Bn
 rw[List.mem_mergeSort,List.mem_map]

theorem GoodP.nodupT{cs:List Cel}{es:List (Nat×Nat×Nat)}{H:Nat}(h:GoodP cs es)(ht:Au 0 cs H):(es.map λ x=>x.2.1).Nodup:=by
 rw[List.nodup_iff_pairwise_ne,List.pairwise_map]
 refine List.pairwise_iff_getElem.2 λ i j hi hj hij e=>?_
 have h1:=List.pairwise_iff_getElem.1 h.apart i j hi hj hij
 have h2:=h.fit ht (List.getElem_mem hi)
 have h3:=h.fit ht (List.getElem_mem hj)
 omega

theorem GoodP.sortT_lt{cs:List Cel}{es:List (Nat×Nat×Nat)}{H:Nat}(h:GoodP cs es)(ht:Au 0 cs H):(Bn es).Pairwise (· <·):=by
 have h1:=List.pairwise_mergeSort (le:=λ x y:Nat=>decide (x<=y)) (λ a b c=>by simp;omega) (λ a b=>by simp;omega) (es.map λ x=>x.2.1)
 have h2:(Bn es).Nodup:=(List.mergeSort_perm _ _).nodup_iff.2 (h.nodupT ht)
 rw[List.nodup_iff_pairwise_ne] at h2
 have h3:(Bn es).Pairwise λ a b=>decide (a<=b)=true:=h1
 refine(h3.and h2).imp λ {a b} hab=>?_
 have:=hab.1
 have:=hab.2
 simp at*
 omega

def Dm(cs:List Cel)(es:List (Nat×Nat×Nat)):List Cel:=goesL cs es (Bn es)

theorem slidO_rising{cs:List Cel}{es:List (Nat×Nat×Nat)}{H:Nat}(h:GoodP cs es)(ht:Au 0 cs H):BI 0 (Dm cs es) H:=
 goesL_rising h ht (λ t hm=>by simpa using DD.1 hm) (h.sortT_lt ht) (Nat.zero_le _) λ_ _=>Nat.zero_le _

theorem slidO_settle{P:Sp}{W:Nat->Nat}{cs:List Cel}{es:List (Nat×Nat×Nat)}(hc:CellsAt P W cs)(hg:GoodP cs es):Bd (AX es W) P.n P.ts (λ i=>((Bn es).getD i 0:Nat)) 0 es.length 0=some (Dm cs es):=by
 have hl:(Dm cs es).length=es.length:=by unfold Dm goesL;rw [List.length_map,sortT_len]
 rw[<- hl]
 refine settleR_of (slidO_rising hg hc.tl) (λ o ho=>?_) λ j o hj=>?_
 .obtain ⟨t,ht,rfl⟩:=List.mem_map.1 ho
  obtain⟨x,hx,rfl⟩:=DD.1 ht
  obtain⟨c,-,-,-,-,h4⟩:=goesTo_at hg hc.tl hx
  have:(goesTo cs es x.2.1).g=x.2.1:=by rw[h4];rfl
  rw[this]
  exact objAt_slide hc hg hx
 .unfold Dm goesL at hj
  rw[List.getElem?_map] at hj
  obtain⟨t,h1,rfl⟩:=Option.map_eq_some_iff.1 hj
  obtain⟨x,hx,rfl⟩:=DD.1 (List.mem_of_getElem? h1)
  obtain⟨c,-,-,-,-,h4⟩:=goesTo_at hg hc.tl hx
  rw[h4,Nat.zero_add,List.getD_eq_getElem?_getD,h1]
  rfl

end

section
open Go.RowKit

theorem GoodP.take{cs:List Cel}{es:List (Nat×Nat×Nat)}(h:GoodP cs es)(j:Nat):GoodP cs (es.take j):=
 ⟨λ x hx=>h.obj x (List.mem_of_mem_take hx),λ x hx=>h.le x (List.mem_of_mem_take hx),h.up.sublist (List.take_sublist _ _),h.apart.sublist (List.take_sublist _ _)⟩

theorem GoodP.above{cs:List Cel}{es:List (Nat×Nat×Nat)}{H j:Nat}{x:Nat×Nat×Nat}(h:GoodP cs es)(ht:Au 0 cs H)(hx:es[j]?=some x)(W:Nat->Nat){k:Nat}(hk:2*x.1<=k):AX (es.take j) W k=W k:=by
 refine slideW_off λ y hy=>?_
 have hle:=h.le y (List.mem_of_mem_take hy)
 obtain⟨i,hi,e⟩:=List.mem_iff_getElem.1 hy
 rw[List.length_take] at hi
 rw[List.getElem_take] at e
 obtain⟨hj,ej⟩:=gE.1 hx
 have:=List.pairwise_iff_getElem.1 (h.rows ht) i j (by omega) hj (by omega)
 rw[e,ej] at this
 omega

theorem moveW_zero(W:Nat->Nat)(d s:Nat):BP W d s 0=W:=funext λ k=>by
 unfold BP
 rw[if_neg (by omega)]

theorem moveW_succ(W:Nat->Nat)(d s i:Nat):BM (BP W d s i) (d+i) (W (s+i))=BP W d s (i+1):=funext λ k=>by
 unfold BM BP
 by_cases e:k=d+i
 .subst e
  rw[if_pos rfl,if_pos (by omega)]
  congr 1
  omega
 .rw [if_neg e]
  by_cases e2:d<=k/\k<d+i
  .rw [if_pos e2,if_pos (by omega)]
  .rw [if_neg e2,if_neg (by omega)]

theorem slideW_next{es:List (Nat×Nat×Nat)}{j:Nat}{x:Nat×Nat×Nat}(hx:es[j]?=some x)(W:Nat->Nat):AX (es.take (j+1)) W=BP (AX (es.take j) W) (2*x.2.1) (2*x.1) (2*x.2.2):=by
 rw[BR hx,slideW_app]
 rfl

theorem movedW_next{es:List (Nat×Nat×Nat)}{j:Nat}{x:Nat×Nat×Nat}(hx:es[j]?=some x):Bl (es.take (j+1))=Bl (es.take j)+if x.2.1=x.1 then 0 else 2*x.2.2:=by
 rw[BR hx,movedW_snoc]

theorem sortT_ins{cs:List Cel}{es:List (Nat×Nat×Nat)}{H j i:Nat}{x:Nat×Nat×Nat}(h:GoodP cs es)(ht:Au 0 cs H)(hx:es[j]?=some x)
  (h1:∀ a y,a<i->(Bn (es.take j))[a]?=some y->y<x.2.1) (h2:∀ y,(Bn (es.take j))[i]?=some y->x.2.1<=y):
  (Bn (es.take j)).take i++[x.2.1]++(Bn (es.take j)).drop i=Bn (es.take (j+1)):=by
 have hs:=(h.take j).sortT_lt ht
 have hn:¬ x.2.1∈Bn (es.take j):=λ hm=>by
  have h3:=(h.take (j+1)).nodupT ht
  rw[BR hx,List.map_append,List.nodup_append] at h3
  obtain⟨y,hy,e⟩:=DD.1 hm
  exact h3.2.2 x.2.1 (List.mem_map.2 ⟨y,hy,e⟩) x.2.1 (by simp) rfl
 have hmem:∀ g,g∈Bn (es.take (j+1)) ↔ g∈Bn (es.take j)\/g=x.2.1:=λ g=>by
  rw[DD,DD,BR hx]
  simp only[List.mem_append,List.mem_singleton]
  constructor
  .rintro ⟨y,hy|rfl,e⟩
   .exact .inl ⟨y,hy,e⟩
   .exact .inr e.symm
  .rintro (⟨y,hy,e⟩|e)
   .exact ⟨y,.inl hy,e⟩
   .exact ⟨x,.inr rfl,e.symm⟩
 generalize Bn (es.take j)=S at*
 refine up_ext ?_ ((h.take (j+1)).sortT_lt ht) λ g=>?_
 .have hd:∀ b∈S.drop i,x.2.1<b:=λ b hb=>by
   obtain⟨t,ht2⟩:=List.mem_iff_getElem?.1 hb
   rw[List.getElem?_drop] at ht2
   have hbS:=List.mem_of_getElem? ht2
   have hne:¬ b=x.2.1:=λ e=>hn (e▸hbS)
   obtain⟨hlt,e⟩:=gE.1 ht2
   have hi0:i<S.length:=by omega
   have h5:=h2 S[i] (List.getElem?_eq_getElem hi0)
   by_cases e0:t=0
   .subst e0
    have:S[i]=b:=e
    omega
   .have:=List.pairwise_iff_getElem.1 hs i (i+t) hi0 hlt (by omega)
    rw[e] at this
    omega
  have ha:∀ a∈S.take i,a<x.2.1:=λ a ha=>by
   obtain⟨t,ht2⟩:=List.mem_iff_getElem?.1 ha
   have hti:=(gE.1 ht2).1
   rw[List.length_take] at hti
   rw[List.getElem?_take_of_lt (by omega)] at ht2
   exact h1 t a (by omega) ht2
  rw[List.append_assoc,List.singleton_append,List.pairwise_append]
  refine⟨hs.sublist (List.take_sublist _ _),List.pairwise_cons.2 ⟨hd,hs.sublist (List.drop_sublist _ _)⟩,λ a h3 b h4=>?_⟩
  have:=ha a h3
  rcases List.mem_cons.1 h4 with rfl|h4
  .exact this
  .have:=hd b h4
   omega
 .rw [hmem g,List.append_assoc,List.mem_append,List.singleton_append,List.mem_cons]
  constructor
  .rintro (h3|rfl|h3)
   .exact .inl (List.mem_of_mem_take h3)
   .exact .inr rfl
   .exact .inl (List.mem_of_mem_drop h3)
  .rintro (h3|rfl)
   .rw [<- List.take_append_drop i S,List.mem_append] at h3
    rcases h3 with h3|h3
    .exact .inl h3
    .exact .inr (.inr h3)
   .exact .inr (.inl rfl)

theorem up_last{cs:List Cel}{es:List (Int×Int×Int)}{j:Nat}{x:Int×Int×Int}(hj:j<=es.length)(h:∀ i y,i<j->es[i]?=some y->OkS cs es i y):
  (∀ i y,i<j->es[i]?=some y->y.1<x.1) ↔ ∀ y,0<j->es[j-1]?=some y->y.1<x.1:=by
 constructor
 .intro hh y h0 hy
  exact hh _ y (by omega) hy
 .intro hh i y hi hy
  by_cases e:i=j-1
  .subst e
   exact hh y (by omega) hy
  .obtain ⟨z,hz⟩:∃ z,es[j-1]?=some z:=⟨_,List.getElem?_eq_getElem (show j-1<es.length by omega)⟩
   have:=(h (j-1) z (by omega) hz).up i y (by omega) hy
   have:=hh z (by omega) hz
   omega

end

end Go.Proofs.YtmfajopmppfldaaGreatDoor
