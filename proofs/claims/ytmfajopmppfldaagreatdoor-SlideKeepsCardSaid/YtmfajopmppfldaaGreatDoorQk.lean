/-
  Lemmas for the laws, together: IsleS, IsleO, PlanP, Rise, PlanSurv, IsleAlive.
-/
import Derived.Test.YtmfajopmppfldaaGreatDoorQj
import Derived.Test.YtmfajopmppfldaaGreatDoorShelf
import Derived.Shelf.SlSortCmp.WholeK
import Derived.Sort.OwnSortedInts
import Derived.Shelf.SlSortCmp.NoneTotal
import Derived.Lib.SlicesCompact
import Derived.Test.YtmfajopmppfldaaGreatDoorQh
import Derived.Test.YtmfajopmppfldaaGreatDoorQa
import Derived.Test.YtmfajopmppfldaaGreatDoorQe
set_option linter.unusedVariables false
set_option maxHeartbeats 16000000
namespace Go.Proofs.YtmfajopmppfldaaGreatDoor
open Go.Proofs.Tryz
section
open Go.RowKit Go.Sort

def encR(x:Nat×Nat):List Value:=[.int .i64 (x.1:Nat),.int .i64 (x.2:Nat)]

theorem encR_len(x:Nat×Nat):(encR x).length=2:=rfl

theorem encR_one(x:Nat×Nat):∀ v∈encR x,v.oneCell'=true:=by
 intro v hv
 simp[encR] at hv
 rcases hv with rfl|rfl <;> rfl

theorem flatKR_at(L:List (Nat×Nat))(t:Nat)(h:t<L.length*2):(Go.Sort.flatK encR 2 L.toArray)[t]! =((Bo L)[t]?).getD default:=by
 rw[Go.Sort.get_flatK _ _ _ _ (by simpa using h)]
 obtain⟨i,c,rfl,hc⟩:∃ i c,t=i*2+c/\c<2:=⟨t/2,t%2,by omega,by omega⟩
 have hi:i<L.length:=by omega
 obtain⟨a0,a1⟩:=flatR_at L i _ (List.getElem?_eq_getElem hi)
 rw[show (i*2+c)/2=i by omega,show (i*2+c)%2=c by omega]
 have hd:L.toArray[i]! =L[i]:=by simp[hi]
 rw[hd]
 have:c=0\/c=1:=by omega
 rcases this with rfl|rfl
 .rw [Nat.add_zero,a0]
  rfl
 .rw [a1]
  rfl

theorem flat_eq(L:List (Nat×Nat)):Go.Sort.flatK encR 2 L.toArray=(Bo L).toArray:=by
 refine Array.ext (by simp[Ct]) λ t h1 h2=>?_
 have ht:t<L.length*2:=by simpa using h1
 have:=flatKR_at L t ht
 rw[getElem!_pos _ t h1,List.getElem?_eq_getElem (by rw[Ct];exact ht)] at this
 rw[this]
 rfl

theorem holdsK_of_block{w:World}{g:Nat}{cur:Array Value}{e:TypeId}{L:List (Nat×Nat)}(hb:w.heap[g]?=some (.cells cur e (0,0)))(ht:cur.toList.take (L.length*2)=Bo L):Go.Sort.HoldsK encR 2 w g 0 L.toArray:=by
 unfold Go.Sort.HoldsK
 rw[flat_eq]
 intro j hj
 have hj':j<L.length*2:=by simpa [Ct] using hj
 refine⟨?_,by simp[World.frozen?,hb]⟩
 have h1:(cur.toList.take (L.length*2))[j]?=(Bo L)[j]?:=by rw[ht]
 rw[List.getElem?_take_of_lt hj'] at h1
 simp only[World.cell?,hb,Nat.zero_add]
 simp only[Option.isSome_none,Bool.false_eq_true,if_false]
 rw[<- Array.getElem?_toList,h1,List.getElem?_eq_getElem (by rw[Ct];exact hj')]
 have:j<(Bo L).length:=by rw[Ct];exact hj'
 simp[this]

theorem heap_sortedV{w:World}{g n:Nat}{os:Array Obj}{cur:Array Value}{e:TypeId}{fr:Nat×Nat}(d:Array Value)(hb:w.heap[g]?=some (.cells cur e fr)):
  (grow (putRow id (Sort.ahead w n) g 0 d) os).heap[g]?=some (.cells (putCells id 0 d cur) e fr):=by
 have hg:g<w.heap.size:=(Array.getElem?_eq_some_iff.1 hb).1
 rw[heap_grow_old _ _ (by simpa using hg)]
 simp[putRow,mapBlock,Sort.ahead,Array.getElem?_modify,hb,onCells]

theorem grownBy_sortedV{w:World}{g n:Nat}{os:Array Obj}(d:Array Value):w.grownBy (grow (putRow id (Sort.ahead w n) g 0 d) os) (some g):=by
 refine⟨rfl,rfl,rfl,by simp,λ k hk hne=>?_⟩
 rw[heap_grow_old _ _ (by simpa using hk)]
 have:g≠k:=λ e=>hne (by rw[e])
 simp[putRow,mapBlock,Sort.ahead,Array.getElem?_modify,this]

theorem take_putCellsV(cur:Array Value)(ts:List Value)(h:ts.length<=cur.size):(putCells id 0 ts.toArray cur).toList.take ts.length=ts:=by
 apply List.ext_getElem?
 intro j
 by_cases hj:j<ts.length
 .rw [List.getElem?_take_of_lt hj,Array.getElem?_toList]
  simp[putCells,hj,show j<cur.size by omega]
 .rw [List.getElem?_take_eq_none (by omega),List.getElem?_eq_none (by omega)]

theorem owns_sortedR{w:World}{base g cap n:Nat}{e:TypeId}{os:Array Obj}{cur:Array Value}{L M:List (Nat×Nat)}(hl:M.length=L.length)(hbase:base<=g)(hb:w.heap[g]?=some (.cells cur e (0,0)))
  (h1:L.length<=cap) (h2:cap<=maxLen) (h3:cur.size=cap*2):
  (Go.Proofs.sortWorldK encR 2 w g 0 n M.toArray os).ownsRow base e 2 (.slice (some ⟨g,0,none⟩) L.length cap) L.length (Bo M):=by
 unfold Go.Proofs.sortWorldK Go.Sort.putRowK
 rw[flat_eq]
 refine⟨by rw[Ct,hl],.inr ⟨g,cap,_,rfl,hbase,heap_sortedV _ hb,h1,h2,by simp[putCells,h3],?_⟩⟩
 have:=take_putCellsV cur (Bo M) (by rw[Ct];omega)
 rw[Ct,hl] at this
 exact this

theorem grownBy_sortedR{w:World}{g n:Nat}{os:Array Obj}(M:Array (Nat×Nat)):w.grownBy (Go.Proofs.sortWorldK encR 2 w g 0 n M os) (some g):=grownBy_sortedV _

open Go.RowKit Go.Sort Go.Shelf

theorem ltR(x y:Nat×Nat):Go.Proofs.ltOf (λ x y:Nat×Nat=>cmpN x.1 y.1) x y=decide (x.1<y.1):=by
 unfold Go.Proofs.ltOf cmpN
 by_cases h1:x.1<y.1
 .simp [h1]
 .by_cases h2:y.1<x.1 <;> simp[h1,h2]

theorem swoR:SWO (Go.Proofs.ltOf λ x y:Nat×Nat=>cmpN x.1 y.1) where
 irrefl x:=by rw[ltR];simp
 trans x y z h1 h2:=by rw[ltR] at *;simp at *;omega
 ntrans x y z h1 h2:=by rw[ltR] at *;simp at *;omega

theorem permR{d d':Array (Nat×Nat)}(h:PermIn 0 d.size d d'):d'.toList.Perm d.toList:=by
 have h1:=h.2.2
 have e1:d'.extract 0 d.size=d':=by rw[<- h.1];simp
 have e2:d.extract 0 d.size=d:=by simp
 rwa [e1,e2] at h1

theorem sortedR{d':Array (Nat×Nat)}{n:Nat}(hn:d'.size=n)(h:SortedIn (Go.Proofs.ltOf λ x y:Nat×Nat=>cmpN x.1 y.1) 0 n d'):d'.toList.Pairwise λ a b=>a.1<=b.1:=by
 rw[List.pairwise_iff_getElem]
 intro i j hi hj hij
 have:=h i j (Nat.zero_le _) hij (by rw[<- hn];simpa using hj)
 rw[ltR] at this
 have h2:=of_decide_eq_false this
 have e1:d'[i]! =d'.toList[i]:=by
  rw[getElem!_pos d' i (by simpa using hi)]
  simp
 have e2:d'[j]! =d'.toList[j]:=by
  rw[getElem!_pos d' j (by simpa using hj)]
  simp
 rw[e1,e2] at h2
 omega

theorem ByAt.sort{w:World}{b g:Nat}{m:Nat}{dk:Array (Nat×Nat)}{os:Array Obj}(h:ByAt w b)(hne:¬ b=g):ByAt (Go.Proofs.sortWorldK encR 2 w g 0 m dk os) b:=by
 unfold Go.Proofs.sortWorldK putRowK
 refine⟨?_,?_⟩
 .rw [cell?_grow _ _ _ (by simpa using h.2),cell?_putRow_other _ _ _ _ _ _ (.inl hne)]
  exact h.1
 .have:b<w.heap.size:=h.2
  simp[grow]
  omega

theorem SortRuns_at(base:Nat)(v:Value)(L:List (Nat×Nat))(b:Nat)(w:World)(ho:w.ownsRow base 225 2 v L.length (Bo L))(hb:ByAt w b)(hbv:¬ v.ownBlock=some b)(hl:L.length<=65536):
  Calls prog 196 #[v,.func (.func 194) #[] #[.pointer (some ⟨b,0,none⟩)]] w λ e w'=>
   e=.returned (.tuple #[])/\∃ M:List (Nat×Nat),M.Perm L/\M.Pairwise (λ a b=>a.1<=b.1)/\w'.ownsRow base 225 2 v M.length (Bo M)/\Kp (λ k=>v.ownBlock=some k) w w':=by
 rcases ho.2 with ⟨rfl,h0⟩|⟨g,cap,cur,rfl,h2,h3,h4,h5,h6,h7⟩
 .have hL:=List.length_eq_zero_iff.1 h0
  subst hL
  refine(Go.Proofs.AnyF.slices_SortFunc_none sortRuns none 0 _ w).mono ?_
  rintro e w' ⟨rfl,rfl⟩
  exact⟨rfl,[],List.Perm.refl _,List.Pairwise.nil,ho,Kr _ _⟩
 .have eg:∀ args w,(callFunc 194 args).run prog w=.ok (.enter 194 args) w:=enters_of func194 (by kernel_rfl) rfl
  have hbg:¬ b=g:=λ e=>hbv (by rw[e];rfl)
  have hcmp:Go.Proofs.CmpLays prog 194 #[.pointer (some ⟨b,0,none⟩)] encR 2 (λ x y=>cmpN x.1 y.1) g 0 L.toArray.size w:=λ m os dk hs x y=>
   (By_at x y b _ (hb.sort hbg)).mono λ e w' ⟨h1,_,h2⟩=>⟨h1,h2⟩
  have hH:=holdsK_of_block h3 h7
  have hcon:=Go.Proofs.AnyQ.slices_SortFunc sortRuns 2 isAgg225 sizeOf225 encR encR_len encR_one (λ x y=>cmpN x.1 y.1) swoR 194 #[.pointer (some ⟨b,0,none⟩)] g 0 cap L.toArray w eg hcmp hH (lZ h3) (by simp;omega)
  refine hcon.mono ?_
  rintro e w' ⟨rfl,d',n,os,hp,hs,rfl⟩
  have hsz:d'.toList.length=L.length:=by have:=hp.1;simpa using this
  refine⟨rfl,d'.toList,by simpa using permR hp,sortedR (by simpa using hsz) (by simpa using hs),?_,?_⟩
  .rw [hsz]
   have:=owns_sortedR (n:=n) (os:=os) (M:=d'.toList) hsz h2 h3 h4 h5 h6
   simpa using this
  .exact ((Kr (λ k=>k=g) w).grown (grownBy_sortedR _) (λ k e _=>by injection e with e;exact e.symm)).mono λ i _ h=>by subst h;rfl

open Go.RowKit

theorem Compact_none(va:Option Addr)(vc:Nat)(fv:Value)(w:World):Calls prog 197 #[.slice va 0 vc,fv] w λ e w'=>e=.returned (.slice va 0 vc)/\w'=w:=by
 go_enter func197,ntmps197
 go_wp2
 go_ret
 exact⟨rfl,rfl⟩

def RisePost(v:Value)(L:List (Nat×Nat))(w:World)(e:Ending)(w':World):Prop:=
 ∃ v' M,e=.returned v'/\UpR M/\(∀ r,r∈M ↔ r∈L)/\RowR w' v' M/\Kp (λ k=>v.ownBlock=some k) w w'

theorem Rising_at(base:Nat)(v:Value)(L:List (Nat×Nat))(w:World)(ho:w.ownsRow base 225 2 v L.length (Bo L))(hl:L.length<=65536)(hu:∀ a∈L,∀ b∈L,a.1=b.1->a=b):
  Calls prog 174 #[v,.func (.func 175) #[] #[]] w (RisePost v L w):=by
 obtain⟨va,vc,rfl⟩:=AA ho
 obtain⟨v,hv⟩:∃ v,Value.slice va L.length vc=v:=⟨_,rfl⟩
 rw[hv] at ho ⊢
 have HO:=sE ho
 have HU:=sE hu
 have HVv:=sE hv
 clear ho hu hv
 go_enter func174,ntmps174
 go_wp2_with fail
 obtain⟨w1,hw1⟩:∃ w1,w1=w.alloc (.cells #[.func (.func 175) #[] #[]] 259):=⟨_,rfl⟩
 obtain⟨w2,hw2⟩:∃ w2,w2=w1.alloc (.cells #[.func (.func 194) #[] #[.pointer (some ⟨w.heap.size,0,none⟩)]] 269):=⟨_,rfl⟩
 have k1:Kp Ab w w1:=by rw[hw1];exact (Kr _ w).alloc _
 have k2:Kp Ab w1 w2:=by rw[hw2];exact (Kr _ w1).alloc _
 have b1:w1.heap[w.heap.size]?=some (.cells #[.func (.func 175) #[] #[]] 259 (0,0)):=by rw[hw1];exact wN w _
 have b2:w2.heap[w1.heap.size]?=some (.cells #[.func (.func 194) #[] #[.pointer (some ⟨w.heap.size,0,none⟩)]] 269 (0,0)):=by rw[hw2];exact wN w1 _
 have z1:w1.heap.size=w.heap.size+1:=by rw[hw1];simp
 rw[z1] at b2
 have b1':=k2.at_ b1 (λ h=>h)
 rw[<- hw1,<- hw2]
 have hBy:ByAt w2 w.heap.size:=⟨cell_of_one b1',lZ b1'⟩
 have hEq:EqAt w2 (w.heap.size+1) w.heap.size:=⟨cell_of_one b2,lZ b2,hBy⟩
 have K2:=k1.then' k2
 have hvb:∀ k,v.ownBlock=some k->k<w.heap.size:=λ k h=>(Af HO.out h).2
 have HS:=sE (SortRuns_at base v L w.heap.size w2 (Ah HO.out K2 (λ _ _ h=>h)) hBy (λ h=>by have:=hvb _ h;omega) hl)
 have HE2:=sE hEq
 have HK2:=sE K2
 have HVb:=sE hvb
 clear hw1 hw2 k1 k2 b1 b2 z1 b1' hBy hEq K2 hvb
 refine HS.out.mono ?_
 rintro e w3 ⟨rfl,M,hp,hs,hown,k3⟩
 have HM:Sl (UpR (Cy M)/\∀ r,r∈Cy M ↔ r∈L):=⟨by
  obtain⟨h1,h2⟩:=onceR_up hs (λ a ha b hb=>HU.out a (hp.mem_iff.1 ha) b (hp.mem_iff.1 hb))
  exact⟨h1,λ r=>by rw[h2,hp.mem_iff]⟩⟩
 have hML:M.length=L.length:=hp.length_eq
 have HK3:Sl (Kp (λ k=>v.ownBlock=some k) w w3):=⟨(HK2.out.Al _).trans k3 (λ _ _ h=>h)⟩
 by_cases hne:M=[]
 .have hv:=HVv.out
  have hL0:L.length=0:=by rw[<- hML,hne];rfl
  rw[hL0] at hv
  subst hv
  have HN:Sl (Cy M=[]):=⟨by rw[hne];rfl⟩
  clear hp hs hown k3 hML hne hL0 HS
  go_wp2_with (go_at_call 197;refine (Compact_none _ _ _ _).mono ?_;rintro e w4 ⟨rfl,rfl⟩)
  go_ret
  refine⟨_,[],rfl,List.Pairwise.nil,λ r=>by rw[<- HM.out.2 r,HN.out],⟨_,_,rfl,λ i x hx=>by simp at hx⟩,HK3.out⟩
 .obtain ⟨g,cap,hvg,hbg,hr⟩:=RunF.BK hown hne
  have hgl:g<w.heap.size:=HVb.out g (by rw[hvg];rfl)
  have hvo:v.ownBlock=some g:=by rw[hvg];rfl
  have HEq3:Sl (EqAt w3 (w.heap.size+1) w.heap.size):=⟨by
   refine HE2.out.keepG (g:=g) (k3.mono λ k _ h=>?_) (by omega) (by omega)
   rw[hvo] at h
   injection h with h
   exact h.symm⟩
  obtain⟨n,hn⟩:∃ n,M.length=n:=⟨_,rfl⟩
  have HC:=sE (Compact_at M g cap n (w.heap.size+1) _ w3 (by rw[<- hn];exact hr) hn (λ p x hx=>by rw[hx];rfl) (by omega) (by have:=hr.cap_le;unfold maxLen at this;omega) (by omega) (λ x y W' kk=>EqBy_at x y _ w.heap.size W' (HEq3.out.keepG kk (by omega) (by omega))))
  rw[hn] at hvg
  have HVo:=sE hvo
  subst hvg
  clear hp hs hown k3 hML hne hr hvo HS
  go_wp2_with fail
  refine HC.out.mono ?_
  rintro e w4 ⟨rfl,k4,f,hf,hfx⟩
  have HR:=sE (RowR.of_runF hf hfx)
  obtain⟨m,hm⟩:∃ m,(Cy M).length=m:=⟨_,rfl⟩
  rw[hm] at HR ⊢
  clear hf hfx
  go_wp2
  go_ret
  exact⟨_,Cy M,rfl,HM.out.1,HM.out.2,HR.out,HK3.out.trans k4 (λ i _ h=>by rw[HVo.out,h])⟩

end

section
open Go.RowKit

def Cs(cs:List Cel)(g:Nat):Nat:=
 match cs.find? (λ c=>c.tag==1&&c.g==g) with
 |some c=>c.sz
 |none=>0

theorem Cv{cs:List Cel}{H:Nat}{c:Cel}(ht:Au 0 cs H)(hc:c∈cs)(h1:c.tag=1):Cs cs c.g=c.sz:=by
 obtain⟨d,e1,e2,e3,e4⟩:=objG_find (g:=c.g) ⟨c,hc,h1,rfl⟩
 unfold Cs
 rw[e1]
 have:=Au.only ht e2 hc e4
 simp only
 rw[this]

def Di(gs:List Nat)(g:Nat):Bool:=gs.contains g

theorem DU{gs:List Nat}{g:Nat}:Di gs g=true ↔ g∈gs:=by
 unfold Di
 exact List.contains_iff_mem

def Cg(cs:List Cel)(gs:List Nat):List (Nat×Nat):=gs.map λ g=>(g,Cs cs g)

theorem pinsOf_len(cs:List Cel)(gs:List Nat):(Cg cs gs).length=gs.length:=List.length_map ..

theorem pinsOf_take{cs:List Cel}{gs:List Nat}{j g:Nat}(h:gs[j]?=some g):Cg cs (gs.take (j+1))=Cg cs (gs.take j)++[(g,Cs cs g)]:=by
 unfold Cg
 rw[Dk h,List.map_append]
 rfl

theorem pinsOf_fst{cs:List Cel}{gs:List Nat}:∀ a∈Cg cs gs,∀ b∈Cg cs gs,a.1=b.1->a=b:=by
 intro a ha b hb h
 unfold Cg at ha hb
 obtain⟨x,-,rfl⟩:=List.mem_map.1 ha
 obtain⟨y,-,rfl⟩:=List.mem_map.1 hb
 simp only at h
 rw[h]

theorem pins_pinL{cs:List Cel}{gs:List Nat}{H:Nat}{M:List (Nat×Nat)}(hu:UpR M)(hm:∀ r,r∈M ↔ r∈Cg cs gs)(ho:∀ g∈gs,CV cs g)(ht:Au 0 cs H):M=pinL cs (Di gs):=by
 refine hu.uniq ((EN (p:=Di gs) ht).up.1) λ r=>?_
 rw[hm,mem_pinL]
 unfold Cg
 rw[List.mem_map]
 constructor
 .rintro ⟨g,hg,rfl⟩
  obtain⟨c,hc,h1,rfl⟩:=ho g hg
  exact⟨c,hc,h1,DU.2 hg,by rw[Cv ht hc h1]⟩
 .rintro ⟨c,hc,h1,hp,rfl⟩
  exact⟨c.g,DU.1 hp,by rw[Cv ht hc h1]⟩

theorem BI.take:∀ {L:List (Nat×Nat)} {e H:Nat} (j:Nat),BI e L H->BI e (L.take j) H
 |[],e,H,j,h=>by simpa using h
 |r::L,e,H,0,h=>h.le
 |r::L,e,H,j+1,⟨h1,h2,h3⟩=>⟨h1,h2,h3.take j⟩

theorem BI.fits:∀ {L:List (Nat×Nat)} {e H:Nat},BI e L H->∀ x∈L,x.1+x.2<=H
 |[],e,H,h,x,hx=>by cases hx
 |r::L,e,H,⟨h1,h2,h3⟩,x,hx=>by
  rcases List.mem_cons.1 hx with rfl|hx
  .exact h3.le
  .exact h3.fits x hx

theorem joinGo_len:∀ (c:Nat×Nat) (rs:List (Nat×Nat)),(CJ c rs).length<=rs.length+1
 |c,[]=>by simp[CJ]
 |c,r::rs=>by
  unfold CJ
  split
  .have:=joinGo_len (c.1,c.2+r.2) rs
   simp only[List.length_cons]
   omega
  .have:=joinGo_len r rs
   simp only[List.length_cons]
   omega

theorem joinsR_len(rs:List (Nat×Nat)):(Ev rs).length<=rs.length:=by
 cases rs with
 |nil=>exact Nat.le_refl _
 |cons r rs=>exact joinGo_len r rs

theorem BI.len:∀ {L:List (Nat×Nat)} {e H:Nat},BI e L H->L.length<=H-e
 |[],e,H,h=>Nat.zero_le _
 |r::L,e,H,⟨h1,h2,h3⟩=>by
  have:=h3.len
  have:=h3.le
  simp only[List.length_cons]
  omega

theorem RowR.not_box{w:World}{v:Value}{L:List (Nat×Nat)}{b o i lb:Nat}{x:Nat×Nat}{a:Option Addr}{n c:Nat}{T:TypeId}(h:w.cell? ⟨b,o+i*2,none⟩=some (.int .i64 (x.1:Nat)))(hb:w.heap[lb]?=some (.cells #[.slice a n c] T (0,0))):¬ b=lb:=by
 intro e
 subst e
 simp only[World.cell?,hb] at h
 generalize o+i*2=k at h
 cases k with
 |zero=>simp at h
 |succ k=>simp at h

def IslePost(base:Nat)(L:List (Nat×Nat))(w:World)(e:Ending)(w':World):Prop:=
 ∃ a c,e=.returned (.tuple #[.slice a L.length c,.int .i64 0])/\w'.ownsRow base 225 2 (.slice a L.length c) L.length (Bo L)/\Kp Ab w w'

def PinOne(P:Sp)(H p:Nat)(z:Nat)(g:Nat)(W':World):Prop:=
 (∀ W2,Kp Ab W' W2->∃ ty ln:Nat,Calls prog 49 #[.pointer (some ⟨P.a,0,none⟩),.int .i64 (g:Nat)] W2 λ e w'=>e=.returned (.tuple #[Ak 1 (ty:Nat) (ln:Nat) (z:Nat),.int .i64 0])/\Kp Ab W2 w')/\
 ∀ W2,Kp Ab W' W2->Calls prog 58 #[.pointer (some ⟨p,0,none⟩),.int .i64 (g:Nat)] W2 λ e w'=>e=.returned (.bool true)/\Kp Ab W2 w'

theorem pin_one{P:Sp}{W:Nat->Nat}{f:Nat->Bool}{cs:List Cel}{w:World}{p q g:Nat}(hsp:SpaceAt w P W f)(hc:CellsAt P W cs)(hst:∀ i,i<P.n/2->f i=Ar cs i)(hb:AO w p q f (P.n/2))(ho:CV cs g):PinOne P (P.n/2) p (Cs cs g) g w:=by
 obtain⟨c,hm,h1,rfl⟩:=ho
 have hlt:=(hc.tl.mem hm)
 have hg:c.g<P.n/2:=by omega
 refine⟨λ W2 k=>⟨c.ty,c.ln,?_⟩,λ W2 k=>?_⟩
 .have:=ER c P W f W2 (hsp.Ad k) hg (hc.hd c hm) (hc.ok c hm)
  rw[Cv hc.tl hm h1]
  rw[h1] at this
  exact this
 .have:=Has_in c.g (P.n/2) p q f W2 (AO.keep hb k (λ h=>h) (λ h=>h)) hg
  rw[hst c.g hg,objG_start.1 ⟨c,hm,h1,rfl⟩] at this
  exact this

set_option maxRecDepth 20000 in
theorem IsleOf_at(P:Sp)(W:Nat->Nat)(f:Nat->Bool)(cs:List Cel)(w:World)(gs:List Nat)(v:Value)(hsp:SpaceAt w P W f)(hc:CellsAt P W cs)(hst:∀ i,i<P.n/2->f i=Ar cs i)(hv:Dr w v gs)(ho:∀ g∈gs,CV cs g)(hl:gs.length<=65536):
  Calls prog 137 #[.pointer (some ⟨P.s,0,none⟩),v] w (IslePost w.heap.size (BQ cs (Di gs)) w):=by
 have hsz:∀ g∈gs,g+Cs cs g<=65536:=λ g hg=>by
  obtain⟨c,hm,h1,rfl⟩:=ho g hg
  rw[Cv hc.tl hm h1]
  have:=hc.tl.mem hm
  have:=hsp.ar.small
  omega
 have hrise:=EN (p:=Di gs) hc.tl
 have hsm:=hsp.ar.small
 obtain⟨w1,hw1⟩:∃ w1,w1=w.alloc (.cells #[.slice none 0 0] 163):=⟨_,rfl⟩
 have k1:Kp Ab w w1:=by rw[hw1];exact (Kr _ w).alloc _
 have b1:w1.heap[w.heap.size]?=some (.cells #[.slice none 0 0] 163 (0,0)):=by rw[hw1];exact wN w _
 have z1:w1.heap.size=w.heap.size+1:=by rw[hw1];simp
 have HSt:=sE (Starts_at P W f w1 (hsp.Ad k1))
 have HPin:Sl (∀ W' p q,Kp Ab w W'->AO W' p q f (P.n/2)->∀ g∈gs,PinOne P (P.n/2) p (Cs cs g) g W'):=⟨λ W' p q k hb g hg=>pin_one (hsp.Ad k) hc hst hb (ho g hg)⟩
 have HAr:Sl (∀ W',Kp Ab w W'->Calls prog 14 #[.pointer (some ⟨P.s,0,none⟩)] W' λ e w'=>e=.returned (.pointer (some ⟨P.a,0,none⟩))/\w'=W'):=⟨λ W' k=>BV P W f W' (hsp.Ad k)⟩
 have HEnd:Sl (∀ M,UpR M->(∀ r,r∈M ↔ r∈Cg cs gs)->M=pinL cs (Di gs)):=⟨λ M h1 h2=>pins_pinL h1 h2 ho hc.tl⟩
 have HZ:=sE hsz
 have HRi:=sE hrise
 have HV:=sE hv
 obtain⟨va,vc,rfl,-⟩:=hv
 obtain⟨n,hn⟩:∃ n,gs.length=n:=⟨_,rfl⟩
 rw[hn] at HV hl ⊢
 have HN:=sE hn
 have HK1:=sE k1
 have HB1:=sE b1
 have HZ1:=sE z1
 obtain⟨H,hH⟩:∃ H,P.n/2=H:=⟨_,rfl⟩
 rw[hH] at HPin HSt HRi
 have hH2:H<=32768:=by omega
 clear hsp hc hst ho hn hsz hrise hsm k1 b1 z1 hH
 go_enter func137,ntmps137
 go_wp2_with fail
 rw[<- hw1]
 clear hw1
 refine HSt.out.mono ?_
 rintro e w2 ⟨p,q,rfl,hp,hq,hbits,k2⟩
 have HB2:=sE (k2.at_ HB1.out (λ h=>h))
 have HK2:Sl (Kp Ab w w2):=⟨HK1.out.then' k2⟩
 have HP2:Sl (∀ g∈gs,PinOne P H p (Cs cs g) g w2):=⟨HPin.out w2 p q (HK1.out.then' k2) hbits⟩
 have HZ2:Sl (w.heap.size<w2.heap.size):=⟨by have:=HZ1.out;have:=k2.size;omega⟩
 clear hp hq hbits k2 HSt HPin
 go_wp2_with fail
 go_loopw [6,21] (λ v6 i wr=>∃ j:Nat,j<=n/\i=.int .i64 (j:Nat)/\wr.ownsRow w2.heap.size 225 2 v6 (Cg cs (gs.take j)).length (Bo (Cg cs (gs.take j)))/\Kp Ab w2 wr) (λ _ i _=>n-(intOf i).toNat)
 case atStart=>exact ⟨0,Nat.zero_le _,rfl,World.ownsRow_nil _ _ _ _,Kr _ _⟩
 case round=>
  obtain⟨j,hj,rfl,hown,hk⟩:=hrel
  have HO:=sE hown
  have HK:=sE hk
  clear hown hk
  by_cases hjl:j<n
  .have hjl':(j:Int)<(n:Int):=by omega
   obtain⟨va',vc',e,hx⟩:=HV.out
   injection e with e1 e3 e2
   clear e3
   subst e1 e2
   obtain⟨g,hg⟩:∃ g,gs[j]?=some g:=⟨_,List.getElem?_eq_getElem (by rw[HN.out];exact hjl)⟩
   obtain⟨bb,o,rfl,x0⟩:=hx j g hg
   have y0:=(HK2.out.then' HK.out).cell x0 (λ h=>h)
   obtain⟨pa,pb⟩:=HP2.out g (List.mem_of_getElem? hg)
   have HHd:=sE (λ W2 k=>pa W2 (HK.out.then' k))
   have HHs:=sE (λ W2 k=>pb W2 (HK.out.then' k))
   have HT:=sE (pinsOf_take (cs:=cs) hg)
   have hpl:(Cg cs (gs.take j)).length=j:=by rw[pinsOf_len,List.length_take,HN.out];omega
   obtain⟨z,hz⟩:∃ z,Cs cs g=z:=⟨_,rfl⟩
   have hgz:=HZ.out g (List.mem_of_getElem? hg)
   rw[hz] at HHd HT hgz
   obtain⟨Q,hQ⟩:∃ Q,Cg cs (gs.take j)=Q:=⟨_,rfl⟩
   rw[hQ] at HT HO hpl
   have HQ:=sE hpl
   rw[hpl] at HO
   clear hx x0 pa pb hz hg hQ hpl
   go_wp2_with fail
   refine(HAr.out _ (HK2.out.then' HK.out)).mono ?_
   rintro e w3 ⟨rfl,rfl⟩
   obtain⟨ty,ln,hd⟩:=HHd.out w3 (Kr _ _)
   go_wp2_with fail
   refine hd.mono ?_
   rintro e w4 ⟨rfl,k4⟩
   unfold Ak
   clear hd
   obtain⟨w5,hw5⟩:∃ w5,w5=w4.alloc (.cells #[.int .u8 1,.int .i64 (ty:Nat),.int .i64 (ln:Nat),.int .i64 (z:Nat)] 52):=⟨_,rfl⟩
   have k5:Kp Ab w4 w5:=by rw[hw5];exact (Kr _ w4).alloc _
   have b5:w5.heap[w4.heap.size]?=some (.cells #[.int .u8 1,.int .i64 (ty:Nat),.int .i64 (ln:Nat),.int .i64 (z:Nat)] 52 (0,0)):=by rw[hw5];exact wN w4 _
   have K5:=sE (k4.then' k5)
   have HX3:Sl (w5.cell? ⟨w4.heap.size,3,none⟩=some (.int .i64 (z:Nat))):=⟨by simp[World.cell?,b5]⟩
   clear k4 k5 b5
   go_wp2_with fail
   rw[<- hw5]
   clear hw5
   refine(HHs.out w5 K5.out).mono ?_
   rintro e w6 ⟨rfl,k6⟩
   have x3:=k6.cell HX3.out (λ h=>h)
   have K6:=sE (K5.out.then' k6)
   have HO6:=sE (Ah HO.out K6.out (λ _ _ h=>h))
   obtain⟨qa,qc,rfl⟩:=AA HO6.out
   have hzn:j<=65536:=by omega
   have hs26:=(HK.out.then' K6.out).size
   clear k6
   go_wp2_with (at_builtin;obtain ⟨i0,hi,hz0,hz1,hz2⟩:=info_parts infoRun;go_loud (refine wpList_append_lies _ rfl (.tmp 40) (.tmp 45) 163 rfl w2.heap.size 225 i0 _ 2 16 Cx hi hz0 hz1 hz2 rfl (by omega) (.slice qa j qc) j (Bo Q) rfl (HO6.out.alloc _) ⟨w6.heap.size,0,none⟩ 1 1 [.int .i64 (g:Nat),.int .i64 (z:Nat)] rfl rfl (World.news_of_block (wN w6 _)) (by intro u hu;simp at hu;rcases hu with rfl|rfl <;> rfl) (by omega) (by unfold maxLen;omega) (by omega) (by first|(simp;done)|(simp;omega)) (w6.heap.size+1) (by simp) ?_);intro gn capn w7 hown7 hgrow hat hlt;clear hi hz0 hz1 hz2;have HR7:=sE hown7;have HG7:=sE hgrow;clear hown7 hgrow hat hlt)
   have k7:Kp Ab w2 w7:=((HK.out.then' K6.out).alloc _).grown HG7.out (λ k e hk=>by have:=(Af HO6.out e).1;omega)
   refine⟨⟨j+1,by omega,by go_num,?_,k7⟩,by simp only[intOf];omega⟩
   rw[HT.out,EK,List.length_append,HQ.out]
   exact HR7.out
  .obtain rfl:j=n:=by omega
   have hwhole:gs.take j=gs:=List.take_of_length_le (by rw[HN.out];exact Nat.le_refl _)
   rw[hwhole] at HO
   have hpl:(Cg cs gs).length=j:=by rw[pinsOf_len,HN.out]
   have HRs:=sE (Rising_at w2.heap.size _ (Cg cs gs) wr HO.out (by rw[hpl];omega) pinsOf_fst)
   obtain⟨qa,qc,rfl⟩:=AA HO.out
   rw[hpl] at HRs
   have HKw:Sl (Kp Ab w wr):=⟨HK2.out.then' HK.out⟩
   have HBr:=sE (HK.out.at_ HB2.out (λ h=>h))
   have HOb:Sl (∀ k,(Value.slice qa j qc).ownBlock=some k->w2.heap.size<=k):=⟨λ k e=>by rw[hpl] at HO;exact (Af HO.out e).1⟩
   rw[hpl]
   clear HO HK hwhole hpl HK2 HB2 HAr HP2
   go_wp2_with fail
   refine HRs.out.mono ?_
   rintro e w3 ⟨v',M,rfl,hu,hm,hrow,kr⟩
   have hM:=HEnd.out M hu hm
   have HK3:Sl (Kp Ab w w3):=⟨((HKw.out.Al _).trans kr (λ _ _ h=>h)).mono (λ i hi h=>by have:=HOb.out i h;have:=HZ2.out;omega)⟩
   have HB3:=sE (kr.at_ HBr.out (λ h=>by have:=HOb.out _ h;have:=HZ2.out;omega))
   have HMr:=sE hrow
   have hR:=HRi.out
   rw[<- hM] at hR
   have HRm:=sE hR
   have hml:=hR.len
   have HMe:Sl (M=pinL cs (Di gs)):=⟨hM⟩
   obtain⟨ma,mc,rfl,hmx⟩:=hrow
   obtain⟨ml,hml'⟩:∃ ml,M.length=ml:=⟨_,rfl⟩
   have HML:=sE hml'
   have HMx:=sE hmx
   have hlt3:w.heap.size<w3.heap.size:=lZ HB3.out
   rw[hml'] at hml HMr ⊢
   clear hu hm hM hR kr hmx hml' HEnd HRs HBr HOb HKw
   go_wp2_with fail
   go_loopw [52] (λ i wx=>∃ j:Nat,j<=ml/\i=.int .i64 (j:Nat)/\∃ vv,wx.heap[w.heap.size]?=some (.cells #[vv] 163 (0,0))/\wx.ownsRow w3.heap.size 225 2 vv (Ev (M.take j)).length (Bo (Ev (M.take j)))/\Kp (λ k=>k=w.heap.size\/w3.heap.size<=k) w3 wx) (λ i _=>ml-(intOf i).toNat)
   case atStart=>exact ⟨0,Nat.zero_le _,rfl,_,HB3.out,World.ownsRow_nil _ _ _ _,Kr _ _⟩
   case round=>
    obtain⟨i,hi,rfl,vv,hbx,hown,hk⟩:=hrel
    have HKx:=sE hk
    have HBx:=sE hbx
    have HOx:=sE hown
    clear hbx hown hk
    by_cases hil:i<ml
    .have hil':(i:Int)<(ml:Int):=by omega
     obtain⟨x,hx⟩:∃ x,M[i]?=some x:=⟨_,List.getElem?_eq_getElem (by rw[HML.out];exact hil)⟩
     obtain⟨bb,o,rfl,hb0,y0,y1⟩:=HMx.out i x hx
     have hnb:=RowR.not_box (L:=M) (v:=.slice none 0 0) y0 HB3.out
     have hbn:¬ (bb=w.heap.size\/w3.heap.size<=bb):=by omega
     have x0:=HKx.out.cell y0 hbn
     have x1:=HKx.out.cell y1 hbn
     have HTk:Sl (Ev (M.take (i+1))=joinL (Ev (M.take i)) x):=⟨by rw[Dk hx,joinsR_snoc]⟩
     have hfx:=HRm.out.fits x (List.mem_of_getElem? hx)
     obtain⟨J,hJ⟩:∃ J,Ev (M.take i)=J:=⟨_,rfl⟩
     have HJf:Sl (∀ y∈J,y.1+y.2<=65536):=⟨λ y hy=>by
      rw[<- hJ] at hy
      have:=(joinsR_apart (HRm.out.take i)).rise.fits y hy
      omega⟩
     have HJl:Sl (J.length<=65536):=⟨by
      rw[<- hJ]
      have h1:=joinsR_len (M.take i)
      have h2:(M.take i).length<=i:=by rw[List.length_take];omega
      omega⟩
     rw[hJ] at HOx HTk
     have hs3:=HKx.out.size
     have hkb:∀ k,vv.ownBlock=some k->w3.heap.size<=k:=λ k e=>(Af HOx.out e).1
     obtain⟨wj,hwj⟩:∃ wj,wj=wr.alloc (.cells #[.int .i64 (x.1:Nat),.int .i64 (x.2:Nat)] 225):=⟨_,rfl⟩
     have kj:Kp Ab wr wj:=by rw[hwj];exact (Kr _ wr).alloc _
     have HJo:=sE (Join_at w.heap.size w3.heap.size vv J x wj (kj.at_ HBx.out (λ h=>h)) (Ah HOx.out kj (λ _ _ h=>h)) hlt3 (by have:=kj.size;omega) HJl.out HJf.out (by omega))
     have HKj:Sl (Kp (λ k=>k=w.heap.size\/w3.heap.size<=k) w3 wj):=⟨HKx.out.trans kj (λ _ _ h=>h.elim)⟩
     have HKb:=sE hkb
     have hbj:wj.cell? ⟨wr.heap.size,0,none⟩=some (.int .i64 (x.1:Nat))/\wj.cell? ⟨wr.heap.size,1,none⟩=some (.int .i64 (x.2:Nat)):=by
      have hb:=wN wr (.cells #[.int .i64 (x.1:Nat),.int .i64 (x.2:Nat)] 225)
      rw[<- hwj] at hb
      exact⟨by simp[World.cell?,hb],by simp[World.cell?,hb]⟩
     obtain⟨z0,z1⟩:=hbj
     clear hbn hx y0 y1 hJ hs3 hkb kj hb0 HKx HOx HBx
     subst hwj
     go_wp2_with fail
     refine HJo.out.mono ?_
     rintro e w5 ⟨rfl,v5,hb5,ho5,k5⟩
     have HB5:=sE hb5
     have HO5:=sE ho5
     have HK5:Sl (Kp (λ k=>k=w.heap.size\/w3.heap.size<=k) w3 w5):=⟨HKj.out.trans k5 (λ k _ h=>by
      rcases h with h|h
      .exact .inl h
      .exact .inr (HKb.out k h))⟩
     clear hb5 ho5 k5
     go_wp2_with fail
     exact⟨⟨i+1,by omega,by go_num,v5,HB5.out,by rw[HTk.out];exact HO5.out,HK5.out⟩,by simp only[intOf];omega⟩
    .obtain rfl:i=ml:=by omega
     have hwhole:M.take i=M:=List.take_of_length_le (by rw[HML.out];exact Nat.le_refl _)
     have hL:Ev M=BQ cs (Di gs):=by unfold BQ;rw [<- HMe.out]
     rw[hwhole,hL] at HOx
     have c4:=cell_of_one HBx.out
     have f4:=free_of_one HBx.out
     have hKe:Kp Ab w (wr.setCell ⟨w.heap.size,0,none⟩ vv):=((HK3.out.Al _).trans (HKx.out.setCell (λ _=>.inl rfl) _) (λ _ _ h=>h)).mono (λ i hi h=>by
      rcases h with h|h <;> omega)
     have hOe:(wr.setCell ⟨w.heap.size,0,none⟩ vv).ownsRow w.heap.size 225 2 vv (BQ cs (Di gs)).length (Bo (BQ cs (Di gs))):=Bi (Ah HOx.out ((Kr (λ k=>k=w.heap.size) wr).setCell (λ _=>rfl) _) (λ b e h=>by
      have:=(Af HOx.out e).1
      omega)) (by omega)
     obtain⟨ea,ec,rfl⟩:=AA hOe
     have HKe:=sE hKe
     have HBx9:=sE HBx.out
     have HOe:=sE hOe
     clear hKe hOe hL hwhole HOx HKx HML HMe HMx HMr HRm
     go_wp2_with fail
     have b9:(wr.setCell ⟨w.heap.size,0,none⟩ (.slice ea (BQ cs (Di gs)).length ec)).heap[w.heap.size]?=some (.cells #[.slice ea (BQ cs (Di gs)).length ec] 163 (0,0)):=by
      have:=bZ HBx9.out (j:=0) (.slice ea (BQ cs (Di gs)).length ec)
      simpa using this
     have c9:=cell_of_one b9
     exact bodyPost_ret (v:=.tuple #[.slice ea (BQ cs (Di gs)).length ec,.int .i64 0]) (by simp[results,results137,go_sem,c9]) rfl ⟨ea,ec,rfl,HOe.out,HKe.out⟩

theorem endR_le:∀ (L:List (Nat×Nat)) (e H:Nat),e<=H->(∀ x∈L,x.1+x.2<=H)->endR e L<=H
 |[],e,H,h,_=>h
 |r::L,e,H,h,hx=>endR_le L (r.1+r.2) H (hx r List.mem_cons_self) (λ x hm=>hx x (List.mem_cons_of_mem _ hm))

set_option maxRecDepth 20000 in
theorem IsleWater_at(P:Sp)(W:Nat->Nat)(f:Nat->Bool)(cs:List Cel)(w:World)(gs:List Nat)(v:Value)(hsp:SpaceAt w P W f)(hc:CellsAt P W cs)(hst:∀ i,i<P.n/2->f i=Ar cs i)(hv:Dr w v gs)(ho:∀ g∈gs,CV cs g)(hl:gs.length<=65536):
  Calls prog 92 #[.pointer (some ⟨P.s,0,none⟩),v] w (IslePost w.heap.size (Bv 0 (BQ cs (Di gs)) (P.n/2)) w):=by
 have HOf:=sE (IsleOf_at P W f cs w gs v hsp hc hst hv ho hl)
 have HSp:=sE hsp
 have hH:=hsp.ar.small
 have hA:=EC (p:=Di gs) hc.tl
 obtain⟨va,vc,rfl,-⟩:=hv
 obtain⟨H,hH'⟩:∃ H,P.n/2=H:=⟨_,rfl⟩
 obtain⟨L,hL⟩:∃ L,BQ cs (Di gs)=L:=⟨_,rfl⟩
 rw[hL] at HOf hA ⊢
 rw[hH'] at hA ⊢
 have hH2:H<=32768:=by omega
 have HH:=sE hH'
 have HA:=sE hA.rise
 have HLn:=sE hA.rise.len
 clear hsp hc hst ho hl hL hA hH hH'
 go_enter func92,ntmps92
 go_wp2_with fail
 refine HOf.out.mono ?_
 rintro e w1 ⟨a,c,rfl,hown,k1⟩
 obtain⟨l,hl⟩:∃ l,L.length=l:=⟨_,rfl⟩
 rw[hl] at hown HLn ⊢
 have HLl:=sE hl
 have HO1:=sE hown
 have HK1:=sE k1
 have hl2:=HLn.out
 clear hown k1 hl HOf
 go_wp2_with fail
 have HGr:=Fe P W f w1 (HSp.out.Ad HK1.out)
 rw[HH.out] at HGr
 refine HGr.mono ?_
 rintro e w1' ⟨rfl,rfl⟩
 clear HGr
 have hs1:=HK1.out.size
 go_wp2_with (at_builtin;obtain ⟨i0,hi,hz0,hz1,hz2⟩:=info_parts infoRun;go_loud (refine wpList_append_lies _ rfl (.tmp 19) (.tmp 23) 163 rfl w.heap.size 225 i0 _ 2 16 Cx hi hz0 hz1 hz2 rfl (by omega) (.slice a l c) l (Bo L) rfl (HO1.out.alloc _) ⟨w1'.heap.size,0,none⟩ 1 1 [.int .i64 (H:Nat),.int .i64 0] rfl rfl (World.news_of_block (wN w1' _)) (by intro u hu;simp at hu;rcases hu with rfl|rfl <;> rfl) (by omega) (by unfold maxLen;omega) (by omega) (by first|(simp;done)|(simp;omega)) (w1'.heap.size+1) (by simp) ?_);intro gn capn w2 hown2 hgrow hat hlt;clear hi hz0 hz1 hz2;have HR2:=sE hown2;have HG2:=sE hgrow;clear hown2 hgrow hat hlt)
 have hk2:Kp Ab w w2:=(HK1.out.alloc _).grown HG2.out (λ k e hk=>by have:=(Af HO1.out e).1;omega)
 have HK2:=sE hk2
 obtain⟨M,hM⟩:∃ M,L++[(H,0)]=M:=⟨_,rfl⟩
 have hml:M.length=l+1:=by rw[<- hM,List.length_append,HLl.out];rfl
 have hrm:RowR w2 (.slice (some ⟨gn,0,none⟩) M.length capn) M:=by
  refine RowR.BK (T:=225) (base:=w.heap.size) ?_
  have:=HR2.out
  rw[hml,<- hM,EK]
  exact this
 have HM:=sE hrm
 have HMf:Sl (∀ x∈M,x.1+x.2<=H):=⟨λ x hx=>by
  rw[<- hM] at hx
  rcases List.mem_append.1 hx with h|h
  .exact HA.out.fits x h
  .have:=List.mem_singleton.1 h
   subst this
   simp only
   omega⟩
 have HML:=sE hml
 have HWt:Sl (Bv 0 L H=DT 0 M):=⟨by rw[<- hM,waterL_gaps]⟩
 clear hk2 hM hml hrm HSp HO1 HG2 HR2 HK1 HA HLn
 go_loopw [4,7,26] (λ v4 v7 i wx=>∃ j:Nat,j<=l+1/\i=.int .i64 (j:Nat)/\v7=.int .i64 (endR 0 (M.take j):Nat)/\wx.ownsRow w2.heap.size 225 2 v4 (DT 0 (M.take j)).length (Bo (DT 0 (M.take j)))/\Kp Ab w2 wx) (λ _ _ i _=>l+1-(intOf i).toNat)
 case atStart=>exact ⟨0,Nat.zero_le _,rfl,rfl,World.ownsRow_nil _ _ _ _,Kr _ _⟩
 case round=>
  obtain⟨j,hj,rfl,rfl,hown,hk⟩:=hrel
  have HO:=sE hown
  have HK:=sE hk
  clear hown hk
  have hend:endR 0 (M.take j)<=H:=endR_le _ _ _ (Nat.zero_le _) (λ x hx=>HMf.out x (List.mem_of_mem_take hx))
  have hgl:(DT 0 (M.take j)).length<=j:=by
   have h1:=gapsR_len (M.take j) 0
   have h2:(M.take j).length<=j:=by rw[List.length_take];omega
   omega
  by_cases hjl:j<l+1
  .have hjl':(j:Int)<(l:Int)+1:=by omega
   obtain⟨x,hx⟩:∃ x,M[j]?=some x:=⟨_,List.getElem?_eq_getElem (by rw[HML.out];exact hjl)⟩
   obtain⟨ma,mc,hv,hmx⟩:=HM.out
   injection hv with q1 q2 q3
   subst q1
   obtain⟨bb,o,e0,hb0,y0,y1⟩:=hmx j x hx
   injection e0 with e0
   injection e0 with e0 e1
   subst e0 e1
   rw[Nat.zero_add] at y0 y1
   have x0:=HK.out.cell y0 (λ h=>h)
   have x1:=HK.out.cell y1 (λ h=>h)
   have hxf:=HMf.out x (List.mem_of_getElem? hx)
   have HT:Sl (DT 0 (M.take (j+1))=DT 0 (M.take j)++(if endR 0 (M.take j)<x.1 then [(endR 0 (M.take j),x.1-endR 0 (M.take j))] else [])):=⟨by rw[Dk hx,gapsR_snoc]⟩
   have HE:Sl (endR 0 (M.take (j+1))=x.1+x.2):=⟨by rw[Dk hx,endR_snoc]⟩
   obtain⟨E,hE⟩:∃ E,endR 0 (M.take j)=E:=⟨_,rfl⟩
   obtain⟨G,hG⟩:∃ G,DT 0 (M.take j)=G:=⟨_,rfl⟩
   rw[hE,hG] at HT
   rw[hE] at hend
   rw[hG] at hgl HO
   rw[hE]
   have u1:IntKind.i64.wrap ((x.1:Int)+(x.2:Int))=(x.1:Int)+(x.2:Int):=by rw[IntKind.wrap_i64];omega
   clear hx y0 y1 hmx hE hG hb0 q2 q3
   by_cases hlt:E<x.1
   .have d1:decide ((E:Int)<(x.1:Int))=true:=dT (by omega)
    have u2:IntKind.i64.wrap ((x.1:Int)-(E:Int))=((x.1-E:Nat):Int):=by rw[IntKind.wrap_i64];omega
    have HT':Sl (DT 0 (M.take (j+1))=G++[(E,x.1-E)]):=⟨by rw[HT.out,if_pos hlt]⟩
    obtain⟨gl,hgl'⟩:∃ gl,G.length=gl:=⟨_,rfl⟩
    rw[hgl'] at HO hgl
    have HGl:=sE hgl'
    obtain⟨qa,qc,rfl⟩:=AA HO.out
    have hs2:=HK.out.size
    have hA:((wr.alloc (.cells #[.int .i64 (x.1:Nat),.int .i64 (x.2:Nat)] 225)).alloc (.cells #[.int .i64 (E:Nat),.int .i64 ((x.1-E:Nat):Int)] 225)).heap[wr.heap.size]?=some (.cells #[.int .i64 (x.1:Nat),.int .i64 (x.2:Nat)] 225 (0,0)):=((Kr Ab (wr.alloc (.cells #[.int .i64 (x.1:Nat),.int .i64 (x.2:Nat)] 225))).alloc _).at_ (wN wr _) (λ h=>h)
    have hB:((wr.alloc (.cells #[.int .i64 (x.1:Nat),.int .i64 (x.2:Nat)] 225)).alloc (.cells #[.int .i64 (E:Nat),.int .i64 ((x.1-E:Nat):Int)] 225)).heap[wr.heap.size+1]?=some (.cells #[.int .i64 (E:Nat),.int .i64 ((x.1-E:Nat):Int)] 225 (0,0)):=by
     have:=wN (wr.alloc (.cells #[.int .i64 (x.1:Nat),.int .i64 (x.2:Nat)] 225)) (.cells #[.int .i64 (E:Nat),.int .i64 ((x.1-E:Nat):Int)] 225)
     rwa [show (wr.alloc (.cells #[.int .i64 (x.1:Nat),.int .i64 (x.2:Nat)] 225)).heap.size=wr.heap.size+1 by simp] at this
    have HA:=sE hA
    have HB:=sE hB
    clear HT hgl' hA hB
    go_wp2_with (at_builtin;obtain ⟨i0,hi,hz0,hz1,hz2⟩:=info_parts infoRun;go_loud (refine wpList_append_lies _ rfl (.tmp 34) (.tmp 41) 163 rfl w2.heap.size 225 i0 _ 2 16 Cx hi hz0 hz1 hz2 rfl (by omega) (.slice qa gl qc) gl (Bo G) rfl ((HO.out.alloc _).alloc _) ⟨wr.heap.size+1,0,none⟩ 1 1 [.int .i64 (E:Nat),.int .i64 ((x.1-E:Nat):Int)] rfl rfl (World.news_of_block HB.out) (by intro u hu;simp at hu;rcases hu with rfl|rfl <;> rfl) (by omega) (by unfold maxLen;omega) (by omega) (by first|(simp;done)|(simp;omega)) (wr.heap.size+2) (by simp) ?_);intro gn3 capn3 w3 hown3 hgrow hat hlt3;clear hi hz0 hz1 hz2;have k3:Kp (λ k=>(Value.slice qa gl qc).ownBlock=some k) ((wr.alloc (.cells #[.int .i64 (x.1:Nat),.int .i64 (x.2:Nat)] 225)).alloc (.cells #[.int .i64 (E:Nat),.int .i64 ((x.1-E:Nat):Int)] 225)) w3:=(Kr _ _).grown hgrow (λ k e _=>e);have b3:=k3.at_ HA.out (λ h=>by have:=Af HO.out h;omega);have x9:w3.cell? ⟨wr.heap.size,0,none⟩=some (.int .i64 (x.1:Nat)):=(by simp[World.cell?,b3]);have x9':w3.cell? ⟨wr.heap.size,1,none⟩=some (.int .i64 (x.2:Nat)):=(by simp[World.cell?,b3]);have HR3:=sE hown3;have HK3:Sl (Kp Ab w2 w3):=⟨((HK.out.alloc _).alloc _).grown hgrow (λ k e hk=>by have:=(Af HO.out e).1;omega)⟩;clear hown3 hgrow hat k3 b3)
    refine⟨⟨j+1,by omega,by go_num,by rw[HE.out];go_num,?_,HK3.out⟩,by simp only[intOf];omega⟩
    rw[HT'.out,EK,List.length_append,HGl.out]
    exact HR3.out
   .have d1:decide ((E:Int)<(x.1:Int))=false:=dF (by omega)
    have HT':Sl (DT 0 (M.take (j+1))=G):=⟨by rw[HT.out,if_neg hlt,List.append_nil]⟩
    have hA:(wr.alloc (.cells #[.int .i64 (x.1:Nat),.int .i64 (x.2:Nat)] 225)).heap[wr.heap.size]?=some (.cells #[.int .i64 (x.1:Nat),.int .i64 (x.2:Nat)] 225 (0,0)):=wN wr _
    have z0:(wr.alloc (.cells #[.int .i64 (x.1:Nat),.int .i64 (x.2:Nat)] 225)).cell? ⟨wr.heap.size,0,none⟩=some (.int .i64 (x.1:Nat)):=by simp only[World.cell?,hA];rfl
    have z1:(wr.alloc (.cells #[.int .i64 (x.1:Nat),.int .i64 (x.2:Nat)] 225)).cell? ⟨wr.heap.size,1,none⟩=some (.int .i64 (x.2:Nat)):=by simp only[World.cell?,hA];rfl
    clear HT hA
    go_wp2_with fail
    refine⟨⟨j+1,by omega,by go_num,by rw[HE.out];go_num,?_,HK.out.alloc _⟩,by simp only[intOf];omega⟩
    rw[HT'.out]
    exact HO.out.alloc _
  .obtain rfl:j=l+1:=by omega
   have hwhole:M.take (l+1)=M:=List.take_of_length_le (by rw[HML.out];exact Nat.le_refl _)
   rw[hwhole,<- HWt.out] at HO
   obtain⟨qa,qc,rfl⟩:=AA HO.out
   have HOe:=sE (Bi HO.out HK2.out.size)
   have HKe:=sE (HK2.out.then' HK.out)
   clear HO HK hwhole
   go_wp2_with fail
   exact bodyPost_ret (v:=.tuple #[.slice qa (Bv 0 L H).length qc,.int .i64 0]) (by simp[results,results92,go_sem]) rfl ⟨qa,qc,rfl,HOe.out,HKe.out⟩

theorem inL_take{rs:List Nat}{m r g:Nat}(h:rs[m]?=some r):Di (rs.take (m+1)) g=(Di (rs.take m) g||(r==g)):=by
 rw[Bool.eq_iff_iff,Bool.or_eq_true,DU,DU,Dk h,List.mem_append,List.mem_singleton,beq_iff_eq]
 exact or_congr Iff.rfl eq_comm

end

section

def Ce(pin:Nat->Bool)(sz:Nat->Nat):List Nat->Nat->Nat->List (Nat×Nat×Nat)×List Nat
 |[],f,t=>([],[])
 |u::us,f,t=>
  if pin u=true then ((u,u,sz u)::(Ce pin sz us f t).1,(Ce pin sz us f t).2)
  else if t-f<sz u then ([],u::us)
  else ((u,f,sz u)::(Ce pin sz us (f+sz u) t).1,(Ce pin sz us (f+sz u) t).2)

def stayL(sz:Nat->Nat)(l:List Nat):List (Nat×Nat×Nat):=l.map λ g=>(g,g,sz g)

def planL(pin:Nat->Bool)(sz:Nat->Nat):List (Nat×Nat)->List Nat->List (Nat×Nat×Nat)
 |[],l=>stayL sz (l.takeWhile pin)
 |r::rs,l=>(Ce pin sz l r.1 (r.1+r.2)).1++planL pin sz rs (Ce pin sz l r.1 (r.1+r.2)).2

theorem fillL_rest(pin:Nat->Bool)(sz:Nat->Nat)(f t:Nat):∀ (l:List Nat),Ce pin sz l f t=(stayL sz (l.takeWhile pin)++(Ce pin sz (l.dropWhile pin) f t).1,(Ce pin sz (l.dropWhile pin) f t).2)
 |[]=>rfl
 |u::us=>by
  cases h:pin u with
  |true=>
   rw[List.takeWhile_cons_of_pos h,List.dropWhile_cons_of_pos h]
   have ih:=fillL_rest pin sz f t us
   simp only[Ce,h,if_true]
   rw[ih]
   rfl
  |false=>
   rw[List.takeWhile_cons_of_neg (by simp[h]),List.dropWhile_cons_of_neg (by simp[h])]
   rfl

def RowS(sz:Nat->Nat):Nat->List Nat->Nat->Prop
 |e,[],H=>e<=H
 |e,u::us,H=>e<=u/\0<sz u/\RowS sz (u+sz u) us H

theorem RowS.le{sz:Nat->Nat}:∀ {l:List Nat} {e H:Nat},RowS sz e l H->e<=H
 |[],e,H,h=>h
 |u::us,e,H,⟨h1,h2,h3⟩=>by have:=h3.le;omega

theorem RowS.mem{sz:Nat->Nat}:∀ {l:List Nat} {e H g:Nat},RowS sz e l H->g∈l->e<=g/\g+sz g<=H/\0<sz g
 |[],e,H,g,h,hg=>by cases hg
 |u::us,e,H,g,⟨h1,h2,h3⟩,hg=>by
  rcases List.mem_cons.1 hg with rfl|hg
  .exact ⟨h1,h3.le,h2⟩
  .obtain ⟨a,b,c⟩:=h3.mem hg
   exact⟨by omega,b,c⟩

theorem RowS.mono{sz:Nat->Nat}{l:List Nat}{e e' H:Nat}(h:RowS sz e l H)(he:e'<=e):RowS sz e' l H:=by
 cases l with
 |nil=>exact Nat.le_trans he h
 |cons u us=>exact ⟨Nat.le_trans he h.1,h.2.1,h.2.2⟩

structure PlanOk(pin:Nat->Bool)(sz:Nat->Nat)(R:List (Nat×Nat))(e:Nat)(out:List (Nat×Nat×Nat)):Prop where
 each:∀ x∈out,x.2.2=sz x.1/\(pin x.1=true->x.2.1=x.1)/\(pin x.1=false->e<=x.2.1/\x.2.1<=x.1/\∃ r∈R,r.1<=x.2.1/\x.2.1+x.2.2<=r.1+r.2)
 pw:out.Pairwise λ x y=>pin x.1=false->pin y.1=false->x.2.1+x.2.2<=y.2.1

theorem takeW_all{α:Type}{p:α->Bool}:∀ {l:List α},(∀ g∈l,p g=true)->l.takeWhile p=l
 |[],_=>rfl
 |x::l,h=>by
  rw[List.takeWhile_cons_of_pos (h x List.mem_cons_self),takeW_all λ g hg=>h g (List.mem_cons_of_mem _ hg)]

theorem stay_fst(sz:Nat->Nat)(l:List Nat):(stayL sz l).map (·.1)=l:=by
 unfold stayL
 rw[List.map_map]
 exact List.map_id' l

theorem stay_ok{pin:Nat->Bool}{sz:Nat->Nat}{R:List (Nat×Nat)}{e:Nat}{l:List Nat}(h:∀ g∈l,pin g=true):PlanOk pin sz R e (stayL sz l):=by
 have hp:∀ x∈stayL sz l,x.2.2=sz x.1/\x.2.1=x.1/\pin x.1=true:=λ x hx=>by
  unfold stayL at hx
  obtain⟨g,hg,rfl⟩:=List.mem_map.1 hx
  exact⟨rfl,rfl,h g hg⟩
 refine⟨λ x hx=>?_,?_⟩
 .obtain ⟨a,b,c⟩:=hp x hx
  exact⟨a,λ _=>b,λ h=>by rw[c] at h;cases h⟩
 .refine List.Pairwise.imp_of_mem (R:=λ _ _=>True) (λ {x y} hx _ _ hp1=>?_) (List.pairwise_of_forall (λ _ _=>trivial))
  obtain⟨-,-,c⟩:=hp x hx
  rw[c] at hp1
  cases hp1

theorem fill_ok{pin:Nat->Bool}{sz:Nat->Nat}{r:Nat×Nat}:∀ {l:List Nat} {e f H:Nat},RowS sz e l H->r.1<=f->f<=r.1+r.2->(∀ u∈l,pin u=false->f<=u)->
  (Ce pin sz l f (r.1+r.2)).1.map (·.1)++(Ce pin sz l f (r.1+r.2)).2=l/\PlanOk pin sz [r] f (Ce pin sz l f (r.1+r.2)).1/\(∀ u∈(Ce pin sz l f (r.1+r.2)).2,pin u=false->r.1+r.2<u+sz u)/\(∃ e',e<=e'/\RowS sz e' (Ce pin sz l f (r.1+r.2)).2 H)
 |[],e,f,H,hr,h1,h2,h3=>⟨rfl,⟨λ x hx=>(by cases hx),List.Pairwise.nil⟩,λ u hu=>(by cases hu),e,Nat.le_refl _,hr⟩
 |u::us,e,f,H,⟨r1,r2,r3⟩,h1,h2,h3=>by
  cases hp:pin u with
  |true=>
   obtain⟨a,b,c,e',d1,d2⟩:=fill_ok (r:=r) (l:=us) r3 h1 h2 (λ v hv=>h3 v (List.mem_cons_of_mem _ hv))
   simp only[Ce,hp,if_true]
   refine⟨by rw[List.map_cons,List.cons_append,a],⟨λ x hx=>?_,?_⟩,c,e',by omega,d2⟩
   .rcases List.mem_cons.1 hx with rfl|hx
    .exact ⟨rfl,λ _=>rfl,λ h=>by rw[hp] at h;cases h⟩
    .exact b.each x hx
   .exact List.pairwise_cons.2 ⟨λ y hy h=>(by rw[hp] at h;cases h),b.pw⟩
  |false=>
   have hfu:=h3 u List.mem_cons_self hp
   by_cases hs:r.1+r.2-f<sz u
   .simp only[Ce,hp,hs,if_true,Bool.false_eq_true,if_false]
    refine⟨rfl,⟨λ x hx=>(by cases hx),List.Pairwise.nil⟩,λ v hv hpv=>?_,e,Nat.le_refl _,r1,r2,r3⟩
    rcases List.mem_cons.1 hv with rfl|hv
    .omega
    .have:=r3.mem hv
     omega
   .obtain ⟨a,b,c,e',d1,d2⟩:=fill_ok (r:=r) (l:=us) (f:=f+sz u) r3 (by omega) (by omega) (λ v hv hpv=>by have:=r3.mem hv;omega)
    simp only[Ce,hp,hs,Bool.false_eq_true,if_false]
    refine⟨by rw[List.map_cons,List.cons_append,a],⟨λ x hx=>?_,?_⟩,c,e',by omega,d2⟩
    .rcases List.mem_cons.1 hx with rfl|hx
     .exact ⟨rfl,λ h=>(by rw[hp] at h;cases h),λ _=>⟨Nat.le_refl _,hfu,r,List.mem_singleton.2 rfl,h1,by simp only;omega⟩⟩
     .obtain ⟨a1,a2,a3⟩:=b.each x hx
      exact⟨a1,a2,λ h=>⟨by have:=(a3 h).1;omega,(a3 h).2⟩⟩
    .refine List.pairwise_cons.2 ⟨λ y hy _ hq=>?_,b.pw⟩
     have:=((b.each y hy).2.2 hq).1
     simp only
     omega

theorem plan_ok{pin:Nat->Bool}{sz:Nat->Nat}:∀ {R:List (Nat×Nat)} {l:List Nat} {e e2 H H2:Nat},RowS sz e l H->BI e2 R H2->(∀ u∈l,pin u=false->∃ r∈R,r.1<=u/\u+sz u<=r.1+r.2)->
  (planL pin sz R l).map (·.1)=l/\PlanOk pin sz R e2 (planL pin sz R l)
 |[],l,e,e2,H,H2,hl,hR,hw=>by
  have hall:∀ g∈l,pin g=true:=λ g hg=>by
   cases hp:pin g with
   |true=>rfl
   |false=>
    obtain⟨r,hr,-⟩:=hw g hg hp
    cases hr
  have htk:l.takeWhile pin=l:=takeW_all hall
  simp only[planL,htk]
  exact⟨stay_fst sz l,stay_ok hall⟩
 |r::rs,l,e,e2,H,H2,hl,⟨R1,R2,R3⟩,hw=>by
  have hge:∀ u∈l,pin u=false->r.1<=u:=λ u hu hp=>by
   obtain⟨r',hr',a,b⟩:=hw u hu hp
   rcases List.mem_cons.1 hr' with rfl|hr'
   .exact a
   .have:=(R3.up.2 r' hr')
    omega
  obtain⟨a,b,c,e',d1,d2⟩:=fill_ok (r:=r) hl (Nat.le_refl _) (by omega) hge
  obtain⟨p,q⟩:=plan_ok (R:=rs) (l:=(Ce pin sz l r.1 (r.1+r.2)).2) d2 R3 (λ u hu hp=>by
   have hul:u∈l:=by rw[<- a];exact List.mem_append_right _ hu
   obtain⟨r',hr',x,y⟩:=hw u hul hp
   rcases List.mem_cons.1 hr' with rfl|hr'
   .have:=c u hu hp
    omega
   .exact ⟨r',hr',x,y⟩)
  simp only[planL]
  refine⟨by rw[List.map_append,p,a],⟨λ x hx=>?_,?_⟩⟩
  .rcases List.mem_append.1 hx with hx|hx
   .obtain ⟨a1,a2,a3⟩:=b.each x hx
    refine⟨a1,a2,λ h=>?_⟩
    obtain⟨z1,z2,r',hr',z3⟩:=a3 h
    have:=List.mem_singleton.1 hr'
    subst this
    exact⟨by omega,z2,r',List.mem_cons_self,z3⟩
   .obtain ⟨a1,a2,a3⟩:=q.each x hx
    refine⟨a1,a2,λ h=>?_⟩
    obtain⟨z1,z2,r',hr',z3⟩:=a3 h
    exact⟨by omega,z2,r',List.mem_cons_of_mem _ hr',z3⟩
  .refine List.pairwise_append.2 ⟨b.pw,q.pw,λ x hx y hy hpx hpy=>?_⟩
   obtain⟨-,-,r',hr',z3,z4⟩:=(b.each x hx).2.2 hpx
   have:=List.mem_singleton.1 hr'
   subst this
   have:=((q.each y hy).2.2 hpy).1
   omega

theorem water_one:∀ {L:List (Nat×Nat)} {e H a b:Nat},BI e L H->a<b->(∀ q,a<=q->q<b->e<=q/\q<H/\cov L q=false)->∃ r∈Bv e L H,r.1<=a/\b<=r.1+r.2
 |[],e,H,a,b,h,hab,hq=>by
  have h1:=hq a (Nat.le_refl _) hab
  have h2:=hq (b-1) (by omega) (by omega)
  unfold Bv
  rw[if_pos (by omega)]
  exact⟨(e,H-e),List.mem_singleton.2 rfl,h1.1,by simp only;omega⟩
 |r::L,e,H,a,b,⟨h1,h2,h3⟩,hab,hq=>by
  have hn:∀ q,a<=q->q<b->¬ (r.1<=q/\q<r.1+r.2):=λ q q1 q2 hc=>by
   have:=(hq q q1 q2).2.2
   rw[Ep,Bool.or_eq_false_iff,decide_eq_false_iff_not] at this
   exact this.1 hc
  have ha:=hq a (Nat.le_refl _) hab
  unfold Bv
  by_cases hlt:a<r.1
  .have hb:b<=r.1:=by
    by_cases h:b<=r.1
    .exact h
    .exact absurd ⟨Nat.le_refl _,by omega⟩ (hn r.1 (by omega) (by omega))
   rw[if_pos (by omega)]
   exact⟨(e,r.1-e),List.mem_append_left _ (List.mem_singleton.2 rfl),ha.1,by simp only;omega⟩
  .have hge:r.1+r.2<=a:=by
    by_cases h:r.1+r.2<=a
    .exact h
    .exact absurd ⟨by omega,by omega⟩ (hn a (Nat.le_refl _) hab)
   obtain⟨x,hx,x1,x2⟩:=water_one (L:=L) h3 hab (λ q q1 q2=>by
    obtain⟨y1,y2,y3⟩:=hq q q1 q2
    rw[Ep,Bool.or_eq_false_iff] at y3
    exact⟨by omega,y2,y3.2⟩)
   exact⟨x,List.mem_append_right _ hx,x1,x2⟩

theorem water_rise:∀ {L:List (Nat×Nat)} {e H:Nat},BI e L H->BI e (Bv e L H) H
 |[],e,H,h=>by
  unfold Bv
  by_cases hl:e<H
  .rw [if_pos hl]
   exact⟨Nat.le_refl _,by simp only;omega,by show e+(H-e)<=H;omega⟩
  .rw [if_neg hl]
   exact h
 |r::L,e,H,⟨h1,h2,h3⟩=>by
  have ih:=water_rise h3
  unfold Bv
  by_cases hl:e<r.1
  .rw [if_pos hl]
   refine⟨Nat.le_refl _,by simp only;omega,?_⟩
   exact BI.mono ih (by simp only;omega)
  .rw [if_neg hl]
   exact BI.mono ih (by omega)

theorem BI.rowS{sz:Nat->Nat}:∀ {P:List (Nat×Nat)} {e H:Nat},BI e P H->(∀ r∈P,r.2=sz r.1)->RowS sz e (P.map (·.1)) H
 |[],e,H,h,_=>h
 |r::P,e,H,⟨h1,h2,h3⟩,hs=>by
  have hr:=hs r List.mem_cons_self
  exact⟨h1,by rw[<- hr];exact h2,by rw[<- hr];exact h3.rowS λ x hx=>hs x (List.mem_cons_of_mem _ hx)⟩

theorem rowS_of{cs:List Cel}{l:List Nat}{H:Nat}(ht:Au 0 cs H)(hl:l.Pairwise (· <·))(ho:∀ g∈l,CV cs g):RowS (Cs cs) 0 l H:=by
 have hu:UpR (Cg cs l):=by
  unfold UpR Cg
  rw[List.pairwise_map]
  exact hl
 have he:=pins_pinL (M:=Cg cs l) (gs:=l) hu (λ r=>Iff.rfl) ho ht
 have hr:=EN (p:=Di l) ht
 rw[<- he] at hr
 have:=hr.rowS (sz:=Cs cs) (λ r hr=>by
  unfold Cg at hr
  obtain⟨g,-,rfl⟩:=List.mem_map.1 hr
  rfl)
 rw[show (Cg cs l).map (·.1)=l by unfold Cg;rw [List.map_map];exact List.map_id' l] at this
 exact this

theorem RowS.pw{sz:Nat->Nat}:∀ {l:List Nat} {e H:Nat},RowS sz e l H->l.Pairwise λ a b=>a+sz a<=b
 |[],e,H,h=>List.Pairwise.nil
 |u::us,e,H,⟨h1,h2,h3⟩=>List.pairwise_cons.2 ⟨λ v hv=>(h3.mem hv).1,h3.pw⟩

def BN(cs:List Cel)(pins l:List Nat)(H:Nat):List (Nat×Nat×Nat):=planL (Di pins) (Cs cs) (Bv 0 (BQ cs (Di pins)) H) l

theorem FN{cs:List Cel}{pins l:List Nat}{H:Nat}(ht:Au 0 cs H)(hl:l.Pairwise (· <·))(ho:∀ g∈l,CV cs g):
  (BN cs pins l H).map (·.1)=l/\PlanOk (Di pins) (Cs cs) (Bv 0 (BQ cs (Di pins)) H) 0 (BN cs pins l H):=by
 have hr:=rowS_of ht hl ho
 have ha:=(EC (p:=Di pins) ht).rise
 refine plan_ok hr (water_rise ha) λ u hu hp=>?_
 obtain⟨c,hc,h1,rfl⟩:=ho u hu
 have hz:=Cv ht hc h1
 have hm:=hr.mem hu
 refine water_one ha (by omega) λ q q1 q2=>⟨Nat.zero_le _,by omega,?_⟩
 rw[islesL_cov ht hc q1 (by unfold Cel.fin;omega),hp,Bool.and_false]

def fullF(out:List (Nat×Nat×Nat))(q:Nat):Bool:=out.any λ x=>decide (x.2.1<=q/\q<x.2.1+x.2.2)

theorem plan_apart{cs:List Cel}{pins l:List Nat}{H:Nat}{j q:Nat}{x:Nat×Nat×Nat}(ht:Au 0 cs H)(hl:l.Pairwise (· <·))(ho:∀ g∈l,CV cs g)(hpo:∀ g∈pins,CV cs g)(hx:(BN cs pins l H)[j]?=some x)(h1:x.2.1<=q)(h2:q<x.2.1+x.2.2):fullF ((BN cs pins l H).take j) q=false:=by
 obtain⟨hf,hk⟩:=FN (pins:=pins) ht hl ho
 have hr:=rowS_of ht hl ho
 have ha:=(EC (p:=Di pins) ht).rise
 have hland:∀ y:Nat×Nat×Nat,y∈BN cs pins l H->Di pins y.1=true->y.2.1<=q->q<y.2.1+y.2.2->cov (BQ cs (Di pins)) q=true:=λ y hy hp y1 y2=>by
  obtain⟨e1,e2,-⟩:=hk.each y hy
  rw[e2 hp] at y1 y2
  obtain⟨c,hc,c1,c2⟩:=hpo y.1 (DU.1 hp)
  have hz:=Cv ht hc c1
  rw[c2] at hz
  rw[islesL_cov ht hc (by omega) (by unfold Cel.fin;omega),c1,c2,hp]
  rfl
 have hsea:∀ y:Nat×Nat×Nat,y∈BN cs pins l H->Di pins y.1=false->y.2.1<=q->q<y.2.1+y.2.2->cov (BQ cs (Di pins)) q=false:=λ y hy hp y1 y2=>by
  obtain⟨-,-,e3⟩:=hk.each y hy
  obtain⟨-,-,r,hrm,r1,r2⟩:=e3 hp
  have hc:cov (Bv 0 (BQ cs (Di pins)) H) q=true:=cov_mem.2 ⟨r,hrm,by omega,by omega⟩
  rw[water_cov ha q,Bool.and_eq_true] at hc
  simpa using hc.2
 have hxm:x∈BN cs pins l H:=List.mem_of_getElem? hx
 obtain⟨hjl,hjx⟩:=gE.1 hx
 cases hff:fullF ((BN cs pins l H).take j) q with
 |false=>rfl
 |true=>
  exfalso
  unfold fullF at hff
  rw[List.any_eq_true] at hff
  obtain⟨y,hy,hyq⟩:=hff
  rw[decide_eq_true_eq] at hyq
  obtain⟨i,hi⟩:=List.mem_iff_getElem?.1 hy
  obtain⟨hil,hiy⟩:=gE.1 hi
  rw[List.length_take] at hil
  rw[List.getElem_take] at hiy
  have hym:y∈BN cs pins l H:=List.mem_of_mem_take hy
  cases hp1:Di pins y.1 with
  |true=>
   have g1:=hland y hym hp1 hyq.1 hyq.2
   cases hp2:Di pins x.1 with
   |false=>
    rw[hsea x hxm hp2 h1 h2] at g1
    cases g1
   |true=>
    obtain⟨a1,a2,-⟩:=hk.each y hym
    obtain⟨b1,b2,-⟩:=hk.each x hxm
    rw[a2 hp1] at hyq
    rw[b2 hp2] at h1
    have hpw:(BN cs pins l H).Pairwise λ a b=>a.1+Cs cs a.1<=b.1:=by
     have:=hr.pw
     rw[<- hf,List.pairwise_map] at this
     exact this
    have:=List.pairwise_iff_getElem.1 hpw i j (by omega) hjl (by omega)
    rw[hiy,hjx] at this
    omega
  |false=>
   have g1:=hsea y hym hp1 hyq.1 hyq.2
   cases hp2:Di pins x.1 with
   |true=>
    rw[hland x hxm hp2 h1 h2] at g1
    cases g1
   |false=>
    have:=List.pairwise_iff_getElem.1 hk.pw i j (by omega) hjl (by omega)
    rw[hiy,hjx] at this
    have:=this hp1 hp2
    omega

def LastIs(pin:Nat->Bool)(out:List (Nat×Nat×Nat))(j:Nat)(last:Int):Prop:=
 last=-1\/∃ i y,i<j/\out[i]?=some y/\pin y.1=false/\last=(y.2.1:Int)

theorem LastIs.lt{cs:List Cel}{pins l:List Nat}{H:Nat}{j:Nat}{x:Nat×Nat×Nat}{last:Int}(h:LastIs (Di pins) (BN cs pins l H) j last)(ht:Au 0 cs H)(hl:l.Pairwise (· <·))(ho:∀ g∈l,CV cs g)(hx:(BN cs pins l H)[j]?=some x)(hp:Di pins x.1=false):last<(x.2.1:Int):=by
 rcases h with rfl|⟨i,y,hij,hy,hpy,rfl⟩
 .omega
 .obtain ⟨hf,hk⟩:=FN (pins:=pins) ht hl ho
  obtain⟨hjl,hjx⟩:=gE.1 hx
  obtain⟨hil,hiy⟩:=gE.1 hy
  have:=List.pairwise_iff_getElem.1 hk.pw i j hil hjl hij
  rw[hiy,hjx] at this
  have h2:=this hpy hp
  have hs:=hk.each y (List.mem_of_getElem? hy)
  have hm:y.1∈l:=by
   rw[<- hf]
   exact List.mem_map.2 ⟨y,List.mem_of_getElem? hy,rfl⟩
  have:=((rowS_of ht hl ho).mem hm).2.2
  rw[<- hs.1] at this
  omega

theorem LastIs.keep{pin:Nat->Bool}{out:List (Nat×Nat×Nat)}{j:Nat}{last:Int}(h:LastIs pin out j last):LastIs pin out (j+1) last:=by
 rcases h with rfl|⟨i,y,hij,hy,hpy,e⟩
 .exact .inl rfl
 .exact .inr ⟨i,y,by omega,hy,hpy,e⟩

end

section
open Go.Lib

theorem EW(s:Array Int)(hs:∀ a b,a<=b->b<s.size->s[a]! <=s[b]!):∀ m,m<=s.size->
  (compactUpTo s m).Pairwise (· <·)/\(∀ x∈compactUpTo s m,∃ j,j<m/\s[j]! =x)/\(∀ j,j<m->s[j]! ∈compactUpTo s m)
 |0,_=>⟨by simp[compactUpTo],by simp[compactUpTo],λ j hj=>by omega⟩
 |m+1,hm=>by
  obtain⟨h1,h2,h3⟩:=EW s hs m (by omega)
  rw[compactUpTo_succ]
  cases hk:keeps s m with
  |false=>
   simp only[Bool.false_eq_true,if_false,List.append_nil]
   refine⟨h1,λ x hx=>?_,λ j hj=>?_⟩
   .obtain ⟨j,a,b⟩:=h2 x hx
    exact⟨j,by omega,b⟩
   .by_cases e:j=m
    .subst e
     have:¬ (j=0\/s[j]! ≠s[j-1]!):=by simpa [keeps] using hk
     have h0:¬ j=0:=λ h=>this (.inl h)
     have he:s[j]! =s[j-1]! :=by
      by_cases h:s[j]! =s[j-1]!
      .exact h
      .exact absurd (.inr h) this
     rw[he]
     exact h3 _ (by omega)
    .exact h3 j (by omega)
  |true=>
   simp only[if_true]
   refine⟨?_,λ x hx=>?_,λ j hj=>?_⟩
   .rw [List.pairwise_append]
    refine⟨h1,by simp,λ x hx y hy=>?_⟩
    simp at hy
    subst hy
    obtain⟨j,a,b⟩:=h2 x hx
    have hk':m=0\/s[m]! ≠s[m-1]! :=by simpa [keeps] using hk
    have h0:¬ m=0:=by omega
    have hne:s[m]! ≠s[m-1]! :=by rcases hk' with h|h;exact absurd h h0;exact h
    have e1:=hs j (m-1) (by omega) (by omega)
    have e2:=hs (m-1) m (by omega) (by omega)
    omega
   .rcases List.mem_append.1 hx with h|h
    .obtain ⟨j,a,b⟩:=h2 x h
     exact⟨j,by omega,b⟩
    .simp at h
     exact⟨m,by omega,h.symm⟩
   .by_cases e:j=m
    .subst e;simp
    .exact List.mem_append_left _ (h3 j (by omega))

def riseL(zs:List Int):List Int:=compact (zs.mergeSort λ x y=>decide (x<=y))

theorem riseL_spec(zs:List Int):(riseL zs).Pairwise (· <·)/\∀ x,x∈riseL zs ↔ x∈zs:=by
 have hp:=List.pairwise_mergeSort (le:=λ x y:Int=>decide (x<=y)) (λ a b c=>by simp;omega) (λ a b=>by simp;omega) zs
 have hperm:=List.mergeSort_perm zs (λ x y:Int=>decide (x<=y))
 unfold riseL
 obtain⟨s,hs⟩:∃ s,zs.mergeSort (λ x y=>decide (x<=y))=s:=⟨_,rfl⟩
 rw[hs] at hp hperm ⊢
 have hm:∀ a b,a<=b->b<s.toArray.size->s.toArray[a]! <=s.toArray[b]! :=λ a b hab hb=>by
  have hb':b<s.length:=by simpa using hb
  rw[getElem!_pos s.toArray a (by simp;omega),getElem!_pos s.toArray b hb]
  by_cases e:a=b
  .subst e;exact Int.le_refl _
  .have:=List.pairwise_iff_getElem.1 hp a b (by omega) hb' (by omega)
   simpa using this
 obtain⟨h1,h2,h3⟩:=EW s.toArray hm s.length (by simp)
 refine⟨h1,λ x=>?_⟩
 rw[<- hperm.mem_iff]
 constructor
 .intro hx
  obtain⟨j,a,b⟩:=h2 x hx
  rw[getElem!_pos s.toArray j (by simpa using a)] at b
  rw[<- b]
  simp
 .intro hx
  obtain⟨j,a,b⟩:=List.getElem_of_mem hx
  have:=h3 j a
  rw[getElem!_pos s.toArray j (by simpa using a)] at this
  rw[<- b]
  exact this

theorem riseL_len(zs:List Int):(riseL zs).length<=zs.length:=by
 have h:(riseL zs).length<=(zs.mergeSort λ x y=>decide (x<=y)).length:=by
  unfold riseL compact compactUpTo
  rw[List.length_map]
  exact Nat.le_trans (List.length_filter_le _ _) (by simp)
 simpa using h

open Go.RowKit Go.Sort

theorem Kp.of_grownBy{w w':World}{b:Nat}(h:w.grownBy w' (some b)):Kp (λ k=>k=b) w w':=
 (Kr (λ k=>k=b) w).grown h (λ k e _=>by injection e with e;exact e.symm)

theorem Sort_row(base:Nat)(v:Value)(zs:List Int)(w:World)(ho:w.ownsRow base 3 1 v zs.length (intVs zs))(hl:zs.length<=4611686018427387903):
  Calls prog 78 #[v] w λ e w'=>e=.returned (.tuple #[])/\w'.ownsRow base 3 1 v zs.length (intVs (zs.mergeSort λ x y=>decide (x<=y)))/\Kp (λ k=>v.ownBlock=some k) w w':=by
 rcases ho.2 with ⟨rfl,h0⟩|⟨b,cap,cur,rfl,h2,h3,h4,h5,h6,h7⟩
 .rw [h0]
  refine(slices_Sort_int_none none 0 w).mono ?_
  rintro e w' ⟨rfl,rfl⟩
  obtain rfl:zs=[]:=List.length_eq_zero_iff.1 h0
  exact⟨rfl,⟨by simp[intVs],.inl ⟨rfl,rfl⟩⟩,Kr _ _⟩
 .rw [Nat.mul_one] at h7
  refine(slices_Sort_int b 0 cap zs w (holds_of_blockI h3 h7) (Array.getElem?_eq_some_iff.1 h3).1 (by omega)).mono ?_
  rintro e w' ⟨rfl,n,os,rfl⟩
  refine⟨rfl,ownsRow_sortedI (by simp) h2 h3 h4 h5 h6,(Kp.of_grownBy (grownBy_sortedI _)).mono λ i _ h=>by subst h;rfl⟩

theorem Compact_row(base:Nat)(v:Value)(zs:List Int)(w:World)(ho:w.ownsRow base 3 1 v zs.length (intVs zs))(hl:zs.length<=4611686018427387903):
  Calls prog 139 #[v] w λ e w'=>∃ v',e=.returned v'/\w'.ownsRow base 3 1 v' (Lib.compact zs).length (intVs (Lib.compact zs))/\v'.ownBlock=v.ownBlock/\Kp (λ k=>v.ownBlock=some k) w w':=by
 rcases ho.2 with ⟨rfl,h0⟩|⟨b,cap,cur,rfl,h2,h3,h4,h5,h6,h7⟩
 .refine (slices_Compact_int_empty none 0 w).mono ?_
  rintro e w' ⟨rfl,rfl⟩
  obtain rfl:zs=[]:=List.length_eq_zero_iff.1 h0
  exact⟨_,rfl,⟨by simp[intVs],.inl ⟨rfl,rfl⟩⟩,rfl,Kr _ _⟩
 .rw [Nat.mul_one] at h7
  have hc:(Lib.compact zs).length<=zs.length:=by
   unfold Lib.compact Lib.compactUpTo
   rw[List.length_map]
   exact Nat.le_trans (List.length_filter_le _ _) (by simp)
  refine(slices_Compact_int b 0 cap zs w (holds_of_blockI h3 h7) (by omega) h4).mono ?_
  rintro e w' ⟨rfl,q,rfl⟩
  obtain⟨ts,hts⟩:∃ ts,Lib.compact zs++List.replicate (zs.length-(Lib.compact zs).length) 0=ts:=⟨_,rfl⟩
  have hlt:ts.length=zs.length:=by rw[<- hts];simp;omega
  rw[hts]
  have hg:=heap_sortedI (n:=q) (os:=#[]) ts.toArray h3
  have hgb:=grownBy_sortedI (w:=w) (g:=b) (n:=q) (os:=#[]) ts.toArray
  rw[grow_empty] at hg hgb
  refine⟨_,rfl,⟨by simp[intVs],.inr ⟨b,cap,_,rfl,h2,hg,by omega,h5,by simp[putCells,h6],?_⟩⟩,rfl,(Kp.of_grownBy hgb).mono λ i _ h=>by subst h;rfl⟩
  have ht:=take_putCellsI cur ts (by omega)
  have h8:=congrArg (List.take (Lib.compact zs).length) ht
  rw[List.take_take,Nat.min_eq_left (by omega),<- List.map_take,<- hts,List.take_left' rfl] at h8
  rw[Nat.mul_one,hts] at*
  rw[<- hts] at h8 ⊢
  exact h8

end

section
open Go.RowKit

def BL(xs:List Nat):List Nat:=(riseL (xs.map λ(n:Nat)=>(n:Int))).map Int.toNat

theorem riseN_cast(xs:List Nat):(BL xs).map (λ (n:Nat)=>(n:Int))=riseL (xs.map λ(n:Nat)=>(n:Int)):=by
 unfold BL
 rw[List.map_map]
 refine(List.map_congr_left λ x hx=>?_).trans (List.map_id _)
 obtain⟨n,-,rfl⟩:=List.mem_map.1 (((riseL_spec _).2 x).1 hx)
 rfl

theorem natVs_cast(xs:List Nat):AC xs=intVs (xs.map λ(n:Nat)=>(n:Int)):=by
 unfold AC intVs
 rw[List.map_map]
 rfl

theorem EX(xs:List Nat):(BL xs).Pairwise (· <·):=by
 have h:=(riseL_spec (xs.map λ(n:Nat)=>(n:Int))).1
 rw[<- riseN_cast,List.pairwise_map] at h
 exact h.imp λ h=>by omega

theorem Ed{xs:List Nat}{g:Nat}:g∈BL xs ↔ g∈xs:=by
 have h:=(riseL_spec (xs.map λ(n:Nat)=>(n:Int))).2 (g:Int)
 rw[<- riseN_cast] at h
 constructor
 .intro hg
  obtain⟨n,hn,e⟩:=List.mem_map.1 (h.1 (List.mem_map.2 ⟨g,hg,rfl⟩))
  have:n=g:=by omega
  rw[<- this]
  exact hn
 .intro hg
  obtain⟨n,hn,e⟩:=List.mem_map.1 (h.2 (List.mem_map.2 ⟨g,hg,rfl⟩))
  have:n=g:=by omega
  rw[<- this]
  exact hn

theorem up_len:∀ {l:List Nat} {e H:Nat},l.Pairwise (· <·)->(∀ g∈l,e<=g/\g<H)->l.length<=H-e
 |[],e,H,_,_=>Nat.zero_le _
 |u::us,e,H,hp,h=>by
  obtain⟨p1,p2⟩:=List.pairwise_cons.1 hp
  have h1:=h u List.mem_cons_self
  have:=up_len (e:=u+1) (H:=H) p2 λ g hg=>⟨p1 g hg,(h g (List.mem_cons_of_mem _ hg)).2⟩
  simp only[List.length_cons]
  omega

theorem setL_next{f:Nat->Bool}{j:Nat}:∀ {k:Nat},j<=k->(∀ t,j<=t->t<k->f t=false)->DX f k=DX f j
 |0,h,_=>by rw[Nat.le_zero.1 h]
 |k+1,h,hf=>by
  by_cases e:j=k+1
  .rw [e]
  .rw [setL_succ,hf k (by omega) (by omega),if_neg (by simp),List.append_nil]
   exact setL_next (by omega) λ t h1 h2=>hf t h1 (by omega)

theorem mem_setL{f:Nat->Bool}{n g:Nat}:g∈DX f n ↔ g<n/\f g=true:=by
 unfold DX
 rw[List.mem_filter,List.mem_range]

def leftB(n:Nat)(a b:Value):Nat:=
 match b with
 |.bool true=>n+1-(intOf a).toNat
 |_=>0

def SurvPost(xs:List Nat)(w:World)(e:Ending)(w':World):Prop:=
 ∃ a c,e=.returned (.tuple #[.slice a (BL xs).length c,.int .i64 0])/\w'.ownsRow w.heap.size 3 1 (.slice a (BL xs).length c) (BL xs).length (AC (BL xs))/\Kp Ab w w'

set_option maxRecDepth 20000 in
theorem Surv_at(P:Sp)(W:Nat->Nat)(f:Nat->Bool)(cs:List Cel)(w:World)(mp mq:Nat)(fm:Nat->Bool)(pins:List Nat)(v:Value)(hsp:SpaceAt w P W f)(hc:CellsAt P W cs)(hst:∀ i,i<P.n/2->f i=Ar cs i)(hb:AO w mp mq fm (P.n/2))(hm:∀ g,g<P.n/2->fm g=true->CV cs g)(hv:Dr w v pins)(ho:∀ g∈pins,CV cs g)(hl:pins.length<=65536):
  Calls prog 93 #[.pointer (some ⟨P.s,0,none⟩),.pointer (some ⟨mp,0,none⟩),v] w (SurvPost (DX fm (P.n/2)++pins) w):=by
 have hsm:=hsp.ar.small
 have HSt:=sE (Starts_at P W f w hsp)
 obtain⟨H,hH⟩:∃ H,P.n/2=H:=⟨_,rfl⟩
 rw[hH] at hb hm HSt hst ⊢
 have HHs:Sl (∀ W' p q g,AO W' p q f H->CV cs g->Calls prog 58 #[.pointer (some ⟨p,0,none⟩),.int .i64 (g:Nat)] W' λ e w'=>e=.returned (.bool true)/\Kp Ab W' w'):=⟨λ W' p q g hb' ho'=>by
  obtain⟨c,hcm,h1,rfl⟩:=ho'
  have hlt:=hc.tl.mem hcm
  have:=Has_in c.g H p q f W' hb' (by omega)
  rw[hst c.g (by omega),objG_start.1 ⟨c,hcm,h1,rfl⟩] at this
  exact this⟩
 have HO:Sl (∀ g∈DX fm H++pins,CV cs g):=⟨λ g hg=>by
  rcases List.mem_append.1 hg with h|h
  .obtain ⟨a,b⟩:=mem_setL.1 h
   exact hm g a b
  .exact ho g h⟩
 have HNx:Sl (∀ W' (i:Nat),Kp Ab w W'->Calls prog 138 #[.pointer (some ⟨mp,0,none⟩),.int .i64 (i:Nat)] W' λ e w'=>e=.returned (optV (Da fm H i))/\Kp Ab W' w'):=⟨λ W' i kk=>by
  have:=Next_at (i:Int) H mp mq fm W' (hb.keep kk (λ h=>h) (λ h=>h))
  rw[Int.toNat_natCast] at this
  exact this⟩
 have HV:=sE hv
 obtain⟨va,vc,rfl,-⟩:=hv
 obtain⟨X,hX⟩:∃ X,DX fm H++pins=X:=⟨_,rfl⟩
 have HX:=sE hX
 rw[hX] at HO ⊢
 clear hX
 obtain⟨n,hn⟩:∃ n,pins.length=n:=⟨_,rfl⟩
 rw[hn] at HV hl ⊢
 have HN:=sE hn
 have hH2:H<=32768:=by omega
 clear hsp hc hst hb hm ho hH hn hsm
 go_enter func93,ntmps93
 go_wp2_with fail
 refine HSt.out.mono ?_
 rintro e w2 ⟨p,q,rfl,hp,hq,hbits,k2⟩
 have HB2:=sE hbits
 have HK2:=sE k2
 clear hbits k2 HSt hp hq
 go_wp2_with fail
 refine(HNx.out w2 0 HK2.out).mono ?_
 rintro e w3 ⟨rfl,k3⟩
 have HK3:Sl (Kp Ab w w3):=⟨HK2.out.then' k3⟩
 have HB3:Sl (AO w3 p q f H):=⟨HB2.out.keep k3 (λ h=>h) (λ h=>h)⟩
 clear k3
 have hzw:=HK3.out.size
 have HNb:Sl (∀ j,(∃ k,Da fm H j=some k/\j<=k/\k<H/\fm k=true/\∀ t,j<=t->t<k->fm t=false)\/(Da fm H j=none/\∀ t,j<=t->t<H->fm t=false)):=⟨λ j=>nextB_spec fm H j⟩
 obtain⟨y9,y10,hy,hyv⟩:∃ y9 y10:Value,optV (Da fm H 0)=.tuple #[y9,y10]/\((∃ k,Da fm H 0=some k/\y9=.int .i64 (k:Nat)/\y10=.bool true)\/(Da fm H 0=none/\y9=.int .i64 0/\y10=.bool false)):=by
  cases Da fm H 0 with
  |none=>exact ⟨_,_,rfl,.inr ⟨rfl,rfl,rfl⟩⟩
  |some k=>exact ⟨_,_,rfl,.inl ⟨k,rfl,rfl,rfl⟩⟩
 rw[hy]
 have HYv:=sE hyv
 clear hy hyv
 go_wp2_with fail
 go_loopw [6,9,10] (λ x6 x9 x10 wr=>∃ j:Nat,j<=H/\((∃ k,Da fm H j=some k/\x9=.int .i64 (k:Nat)/\x10=.bool true)\/(Da fm H j=none/\x9=.int .i64 0/\x10=.bool false))/\wr.ownsRow w3.heap.size 3 1 x6 (DX fm j).length (AC (DX fm j))/\Kp Ab w3 wr) (λ _ x9 x10 _=>leftB H x9 x10)
 case atStart=>exact ⟨0,Nat.zero_le _,HYv.out,World.ownsRow_nil _ _ _ _,Kr _ _⟩
 case round=>
  obtain⟨j,hj,hy,ho,hk⟩:=hrel
  have HO1:=sE ho
  have HK:=sE hk
  have hzr:=hk.size
  have hsl:=setL_len fm j
  clear ho hk
  rcases hy with ⟨k,hn,rfl,rfl⟩|⟨hn,rfl,rfl⟩
  .rcases HNb.out j with ⟨k',e1,hjk,hkH,hfk,hno⟩|⟨e1,-⟩
   .rw [hn] at e1
    injection e1 with e1
    subst e1
    have hSe:DX fm (k+1)=DX fm j++[k]:=by rw[setL_succ,if_pos hfk,setL_next hjk hno]
    have HSe:=sE hSe
    obtain⟨Q,hQ⟩:∃ Q,DX fm j=Q:=⟨_,rfl⟩
    obtain⟨ql,hql⟩:∃ ql,Q.length=ql:=⟨_,rfl⟩
    rw[hQ] at HSe HO1 hsl
    rw[hql] at HO1 hsl
    have HQl:=sE hql
    obtain⟨qa,qc,rfl⟩:=AA HO1.out
    have u1:IntKind.i64.wrap ((k:Int)+1)=((k+1:Nat):Int):=by rw[IntKind.wrap_i64];omega
    clear hn hno hfk hSe hQ hql
    go_wp2_with (at_builtin;obtain ⟨i0,hi,hz0,hz1,hz2⟩:=info_parts Dj;go_loud (refine wpList_append_lies _ rfl (.tmp 28) (.tmp 30) 82 rfl w3.heap.size 3 i0 _ 1 8 A8 hi hz0 hz1 hz2 rfl (by omega) (.slice qa ql qc) ql (AC Q) rfl (HO1.out.alloc _) ⟨wr.heap.size,0,none⟩ 1 1 [.int .i64 (k:Nat)] rfl rfl (World.news_of_block (wN wr _)) (by intro u hu;simp at hu;subst hu;rfl) (by omega) (by unfold maxLen;omega) (by omega) (by first|(simp;done)|(simp;omega)) (wr.heap.size+1) (by simp) ?_);intro gn capn w5 hown5 hgrow hat hlt;clear hi hz0 hz1 hz2;have HGw:=sE hgrow;have HR5:=sE hown5;clear hown5 hgrow hat hlt)
    have k5:Kp Ab w3 w5:=(HK.out.alloc _).grown HGw.out (λ k e hk=>by have:=(Af HO1.out e).1;omega)
    have HK5:=sE k5
    clear k5
    refine(HNx.out w5 (k+1) (HK3.out.then' HK5.out)).mono ?_
    rintro e w6 ⟨rfl,k6⟩
    have HK6:=sE (HK5.out.then' k6)
    have HR6:=sE (Ah HR5.out k6 (λ _ _ h=>h))
    clear k6
    have hlb:∀ (x y:Value),((∃ k',Da fm H (k+1)=some k'/\x=.int .i64 (k':Nat)/\y=.bool true)\/(Da fm H (k+1)=none/\x=.int .i64 0/\y=.bool false))->leftB H x y<leftB H (.int .i64 (k:Nat)) (.bool true):=λ x y h=>by
     rcases h with ⟨k',h1,rfl,rfl⟩|⟨h1,rfl,rfl⟩
     .rcases HNb.out (k+1) with ⟨k2,e1,h3,h4,-⟩|⟨e1,-⟩
      .rw [h1] at e1
       injection e1 with e1
       subst e1
       simp only[leftB,intOf]
       omega
      .rw [h1] at e1
       cases e1
     .simp only[leftB,intOf]
      omega
    obtain⟨y9',y10',hy',hyv'⟩:∃ y9 y10:Value,optV (Da fm H (k+1))=.tuple #[y9,y10]/\((∃ k',Da fm H (k+1)=some k'/\y9=.int .i64 (k':Nat)/\y10=.bool true)\/(Da fm H (k+1)=none/\y9=.int .i64 0/\y10=.bool false)):=by
     cases Da fm H (k+1) with
     |none=>exact ⟨_,_,rfl,.inr ⟨rfl,rfl,rfl⟩⟩
     |some k=>exact ⟨_,_,rfl,.inl ⟨k,rfl,rfl,rfl⟩⟩
    rw[hy']
    have HYv':=sE hyv'
    have HLb:=sE (hlb _ _ hyv')
    clear hy' hyv' hlb
    go_wp2_with fail
    refine⟨⟨k+1,by omega,HYv'.out,?_,HK6.out⟩,HLb.out⟩
    rw[HSe.out,AC,List.map_append,List.length_append,HQl.out]
    exact HR6.out
   .rw [hn] at e1
    cases e1
  .have hSe:DX fm H=DX fm j:=by
    rcases HNb.out j with ⟨k',e1,-⟩|⟨-,e2⟩
    .rw [hn] at e1
     cases e1
    .exact setL_next hj e2
   have HSe:=sE hSe
   obtain⟨Q,hQ⟩:∃ Q,DX fm H=Q:=⟨_,rfl⟩
   have hQl:Q.length<=32768:=by
    rw[<- hQ]
    have:=setL_len fm H
    omega
   rw[hQ] at HX HSe
   rw[<- HSe.out] at HO1
   obtain⟨ql,hql⟩:∃ ql,Q.length=ql:=⟨_,rfl⟩
   rw[hql] at HO1 hQl
   have HQl:=sE hql
   obtain⟨qa,qc,rfl⟩:=AA HO1.out
   have HVr:=sE (HV.out.Ad (HK3.out.then' HK.out))
   clear hn hSe hQ hql HNb HYv HNx hsl
   go_wp2_with (at_builtin;obtain ⟨i0,hi,hz0,hz1,hz2⟩:=info_parts Dj;go_loud (refine wpList_append_nats _ rfl (.tmp 32) (.tmp 33) 82 rfl 3 i0 A8 hi hz0 hz1 hz2 w3.heap.size (.slice qa ql qc) ql Q rfl HO1.out (.slice va n vc) pins rfl HVr.out (by rw[HN.out];omega) hzr ?_);intro v11 w11 hown11 hgrow11;obtain ⟨tot,htot⟩:∃ tot,ql+pins.length=tot:=⟨_,rfl⟩;rw [htot] at hown11;obtain ⟨a11,c11,rfl⟩:=AA hown11;have HTot:=sE htot;clear htot;have HO11:=sE hown11;have HG11:=sE hgrow11;clear hi hz0 hz1 hz2 hown11 hgrow11)
   have k11:Kp Ab w3 w11:=HK.out.grown HG11.out (λ k e hk=>by have:=(Af HO1.out e).1;omega)
   have HK11:=sE k11
   have HB11:Sl (AO w11 p q f H):=⟨HB3.out.keep k11 (λ h=>h) (λ h=>h)⟩
   have htb:tot<=98304:=by have:=HTot.out;rw [HN.out] at this;omega
   have hXl:X.length=tot:=by rw[<- HX.out,List.length_append,HQl.out,HTot.out]
   have HXl:=sE hXl
   rw[HX.out] at HO11
   clear k11 hXl HG11 HO1 HVr HB3
   go_wp2_with fail
   go_loopw [6,37] (λ x6 x37 wr=>∃ i:Nat,i<=tot/\x37=.int .i64 (i:Nat)/\x6=.slice a11 tot c11/\Kp Ab w11 wr) (λ _ x37 _=>tot-(intOf x37).toNat)
   case atStart=>exact ⟨0,Nat.zero_le _,rfl,rfl,Kr _ _⟩
   case round=>
    obtain⟨i,hi,rfl,rfl,hk⟩:=hrel
    have HKi:=sE hk
    have HOi:=sE (Ah HO11.out hk (λ _ _ h=>h))
    have HHi:Sl (∀ g∈X,Calls prog 58 #[.pointer (some ⟨p,0,none⟩),.int .i64 (g:Nat)] wr λ e w'=>e=.returned (.bool true)/\Kp Ab wr w'):=⟨λ g hg=>HHs.out wr p q g (HB11.out.keep hk (λ h=>h) (λ h=>h)) (HO.out g hg)⟩
    clear hk
    by_cases hil:i<tot
    .have hil':(i:Int)<(tot:Int):=by omega
     obtain⟨g,hg⟩:∃ g,X[i]?=some g:=⟨_,List.getElem?_eq_getElem (by rw[HXl.out];exact hil)⟩
     obtain⟨bb,hbb,x0⟩:=Db HOi.out hg
     subst hbb
     have HHg:=sE (HHi.out g (List.mem_of_getElem? hg))
     clear hg HHi
     go_wp2_with fail
     refine HHg.out.mono ?_
     rintro e w12 ⟨rfl,k12⟩
     have HK12:=sE (HKi.out.then' k12)
     clear k12
     go_wp2_with fail
     exact⟨⟨i+1,by omega,by go_num,rfl,HK12.out⟩,by simp only[intOf];omega⟩
    .have hcl:(X.map λ(n:Nat)=>(n:Int)).length=tot:=by rw[List.length_map,HXl.out]
     have HSo:=sE (Sort_row w3.heap.size (.slice a11 tot c11) (X.map λ(n:Nat)=>(n:Int)) wr (by rw[hcl,<- natVs_cast];exact HOi.out) (by rw[hcl];omega))
     rw[hcl] at HSo
     have hob:∀ b,(Value.slice a11 tot c11).ownBlock=some b->w3.heap.size<=b:=λ b h=>(Af HOi.out h).1
     have HOb:=sE hob
     clear hcl hob HHi
     go_wp2_with fail
     with_reducible refine HSo.out.mono ?_
     rintro e w13 ⟨rfl,o13,k13⟩
     have HCo:=sE (Compact_row w3.heap.size (.slice a11 tot c11) _ w13 (by rw[List.length_mergeSort,List.length_map,HXl.out];exact o13) (by rw[List.length_mergeSort,List.length_map,HXl.out];omega))
     have HK13:=sE k13
     clear o13 k13 HSo
     go_wp2_with fail
     with_reducible refine HCo.out.mono ?_
     rintro e w14 ⟨v',rfl,o14,-,k14⟩
     have hre:Lib.compact ((X.map λ(n:Nat)=>(n:Int)).mergeSort λ x y=>decide (x<=y))=(BL X).map (λ (n:Nat)=>(n:Int)):=(riseN_cast X).symm
     rw[hre,List.length_map,<- natVs_cast] at o14
     obtain⟨ra,rc,rfl⟩:=AA o14
     have hend:Kp Ab w w14:=(((((HK3.out.then' HK11.out).then' HKi.out).Al _).trans HK13.out (λ _ _ h=>h)).trans k14 (λ _ _ h=>h)).mono (λ c hc h=>by have:=HOb.out c h;omega)
     have HE:=sE hend
     have HOe:=sE (Bi o14 (base':=w.heap.size) (by omega))
     clear hre o14 k14 hend HCo
     go_wp2_with fail
     exact bodyPost_ret (v:=.tuple #[.slice ra (BL X).length rc,.int .i64 0]) (by simp[results,results93,go_sem]) rfl ⟨ra,rc,rfl,HOe.out,HE.out⟩

end

section
open Go.RowKit

theorem RunR.back1{P:Sp}{dd gg ii nn:Nat->Int}{W0:Nat->Nat}{cs0:List Cel}{j:Nat}{W:Nat->Nat}{cs:List Cel}(h:RunR P dd gg ii nn W0 cs0 (j+1) W cs):∃ W1 cs1,RunR P dd gg ii nn W0 cs0 j W1 cs1/\StepR P W1 cs1 (dd j) (gg j) (ii j) (nn j) W cs:=by
 cases h with
 |succ h1 h2=>exact ⟨_,_,h1,h2⟩

theorem RunR.start1{P:Sp}{dd gg ii nn:Nat->Int}{W0:Nat->Nat}{cs0:List Cel}{W:Nat->Nat}{cs:List Cel}(h:RunR P dd gg ii nn W0 cs0 0 W cs):W=W0/\cs=cs0:=by
 cases h with
 |zero=>exact ⟨rfl,rfl⟩

theorem put_mid{P:Sp}{W W':Nat->Nat}{cs' pre post:List Cel}{x:Cel}{H j a l S:Nat}(h:PutStep P W (pre++x::post) (j:Nat) (a:Nat) (l:Nat) W' cs')(ht:Au 0 (pre++x::post) H)(h1:x.g<=j)(h2:j<x.fin)(hR:Dt P.ts (P.n/2) (pre++x::post) (j:Nat) (a:Nat) (l:Nat)=0)(hS:Bj P.ts (a:Nat) (l:Nat)=(S:Nat)):
  W'=putW W x j a l S/\cs'=putL pre x post j a l S:=by
 rcases h with ⟨h,-⟩|⟨-,pre',c,post',j',a',l',S',e1,e2,e3,e4,e5,e6,q1,q2,q3,e7,e8⟩
 .exact absurd hR h
 .obtain rfl:j'=j:=by omega
  obtain rfl:a'=a:=by omega
  obtain rfl:l'=l:=by omega
  obtain rfl:S'=S:=by omega
  obtain⟨rfl,rfl,rfl⟩:=split_uniq ht e1 h1 h2 q1 (by omega)
  exact⟨e7,e8⟩

def Dw:List Cel:=[⟨0,2,0,0,1⟩,⟨1,1,1,3,2⟩,⟨3,1,1,3,2⟩,⟨5,2,0,0,1⟩,⟨6,1,1,3,2⟩]

theorem puts21{P:Sp}(ht:P.ts=alT)(hn:P.n=16){dd ii nn:Nat->Int}(hd:dd 0=0/\dd 1=0/\dd 2=0)(hi:ii 0=1/\ii 1=1/\ii 2=1)(hl:nn 0=3/\nn 1=3/\nn 2=3){gg:Nat->Int}(hg:gg 0=1/\gg 1=3/\gg 2=6){W:Nat->Nat}{cs:List Cel}(h:RunR P dd gg ii nn (AX (λ _=>0) 0 (16/2)) (Fx 0 (16/2)) 3 W cs):cs=Dw/\W 4=0/\W 3=0/\∀ k∈[3,4,5,7,8,9,13,14,15],W k=0:=by
 obtain⟨W2,cs2,h2,s2⟩:=h.back1
 obtain⟨W1,cs1,h1,s1⟩:=h2.back1
 obtain⟨W0,cs0,h0,s0⟩:=h1.back1
 obtain⟨rfl,rfl⟩:=h0.start1
 obtain⟨d0,d1,d2⟩:=hd
 obtain⟨i0,i1,i2⟩:=hi
 obtain⟨l0,l1,l2⟩:=hl
 obtain⟨g0,g1,g2⟩:=hg
 have p0:=s0.1 d0
 have p1:=s1.1 d1
 have p2:=s2.1 d2
 rw[i0,l0,g0] at p0
 rw[i1,l1,g1] at p1
 rw[i2,l2,g2] at p2
 obtain⟨e0,rfl⟩:=put_mid (pre:=[]) (x:=⟨0,3,0,0,8⟩) (post:=[]) (H:=8) (j:=1) (a:=1) (l:=3) (S:=2) p0 ⟨rfl,by decide,rfl⟩ (by decide) (by decide) (by rw[ht,hn];decide +kernel) (by rw[ht];decide +kernel)
 obtain⟨e1,rfl⟩:=put_mid (pre:=[⟨0,2,0,0,1⟩,⟨1,1,1,3,2⟩]) (x:=⟨3,3,0,0,5⟩) (post:=[]) (H:=8) (j:=3) (a:=1) (l:=3) (S:=2) p1 ⟨rfl,by decide,rfl,by decide,rfl,by decide,rfl⟩ (by decide) (by decide) (by rw[ht,hn];decide +kernel) (by rw[ht];decide +kernel)
 obtain⟨e2,rfl⟩:=put_mid (pre:=[⟨0,2,0,0,1⟩,⟨1,1,1,3,2⟩,⟨3,1,1,3,2⟩]) (x:=⟨5,3,0,0,3⟩) (post:=[]) (H:=8) (j:=6) (a:=1) (l:=3) (S:=2) p2 ⟨rfl,by decide,rfl,by decide,rfl,by decide,rfl,by decide,rfl⟩ (by decide) (by decide) (by rw[ht,hn];decide +kernel) (by rw[ht];decide +kernel)
 refine⟨by decide +kernel,?_,?_,?_⟩
 .rw [e2,e1,e0]
  decide +kernel
 .rw [e2,e1,e0]
  decide +kernel
 .rw [e2,e1,e0]
  decide +kernel

end

end Go.Proofs.YtmfajopmppfldaaGreatDoor
