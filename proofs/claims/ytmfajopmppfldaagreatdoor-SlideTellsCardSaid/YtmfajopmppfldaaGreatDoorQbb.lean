/-
  Lemmas for the laws, together: IsleS, IsleO, IsleAlive.
-/
import Derived.Test.YtmfajopmppfldaaGreatDoorQba
import Derived.Test.YtmfajopmppfldaaGreatDoorShelf
import Derived.Shelf.SlSortCmp.WholeK
import Derived.Sort.OwnSortedInts
import Derived.Shelf.SlSortCmp.NoneTotal
import Derived.Test.YtmfajopmppfldaaGreatDoorQay
import Derived.Test.YtmfajopmppfldaaGreatDoorQau
import Derived.Test.YtmfajopmppfldaaGreatDoorQas
import Derived.Test.YtmfajopmppfldaaGreatDoorQav
set_option linter.unusedVariables false
set_option maxHeartbeats 16000000
namespace Go.Proofs.YtmfajopmppfldaaGreatDoor
open Go.Proofs.Tryz
section
open Go.RowKit Go.Sort

def encR(x:Nat×Nat):List Value:=[.int .i64 (x.1:Nat),.int .i64 (x.2:Nat)]

theorem encR_len(x:Nat×Nat):(encR x).length=2:=rfl

theorem encR_one(x:Nat×Nat):∀ v∈encR x,v.oneCell'=true:=by
 intro v hv
 simp[encR] at hv
 rcases hv with rfl|rfl <;> rfl

theorem flatKR_at(L:List (Nat×Nat))(t:Nat)(h:t<L.length*2):(Go.Sort.flatK encR 2 L.toArray)[t]! =((Bt L)[t]?).getD default:=by
 rw[Go.Sort.get_flatK _ _ _ _ (by simpa using h)]
 obtain⟨i,c,rfl,hc⟩:∃ i c,t=i*2+c/\c<2:=⟨t/2,t%2,by omega,by omega⟩
 have hi:i<L.length:=by omega
 obtain⟨a0,a1⟩:=flatR_at L i _ (List.getElem?_eq_getElem hi)
 rw[show (i*2+c)/2=i by omega,show (i*2+c)%2=c by omega]
 have hd:L.toArray[i]! =L[i]:=by simp[hi]
 rw[hd]
 have:c=0\/c=1:=by omega
 rcases this with rfl|rfl
 .rw [Nat.add_zero,a0]
  rfl
 .rw [a1]
  rfl

theorem flat_eq(L:List (Nat×Nat)):Go.Sort.flatK encR 2 L.toArray=(Bt L).toArray:=by
 refine Array.ext (by simp[Cw]) λ t h1 h2=>?_
 have ht:t<L.length*2:=by simpa using h1
 have:=flatKR_at L t ht
 rw[getElem!_pos _ t h1,List.getElem?_eq_getElem (by rw[Cw];exact ht)] at this
 rw[this]
 rfl

theorem holdsK_of_block{w:World}{g:Nat}{cur:Array Value}{e:TypeId}{L:List (Nat×Nat)}(hb:w.heap[g]?=some (.cells cur e (0,0)))(ht:cur.toList.take (L.length*2)=Bt L):Go.Sort.HoldsK encR 2 w g 0 L.toArray:=by
 unfold Go.Sort.HoldsK
 rw[flat_eq]
 intro j hj
 have hj':j<L.length*2:=by simpa [Cw] using hj
 refine⟨?_,by simp[World.frozen?,hb]⟩
 have h1:(cur.toList.take (L.length*2))[j]?=(Bt L)[j]?:=by rw[ht]
 rw[List.getElem?_take_of_lt hj'] at h1
 simp only[World.cell?,hb,Nat.zero_add]
 simp only[Option.isSome_none,Bool.false_eq_true,if_false]
 rw[<- Array.getElem?_toList,h1,List.getElem?_eq_getElem (by rw[Cw];exact hj')]
 have:j<(Bt L).length:=by rw[Cw];exact hj'
 simp[this]

theorem heap_sortedV{w:World}{g n:Nat}{os:Array Obj}{cur:Array Value}{e:TypeId}{fr:Nat×Nat}(d:Array Value)(hb:w.heap[g]?=some (.cells cur e fr)):
  (grow (putRow id (Sort.ahead w n) g 0 d) os).heap[g]?=some (.cells (putCells id 0 d cur) e fr):=by
 have hg:g<w.heap.size:=(Array.getElem?_eq_some_iff.1 hb).1
 rw[heap_grow_old _ _ (by simpa using hg)]
 simp[putRow,mapBlock,Sort.ahead,Array.getElem?_modify,hb,onCells]

theorem grownBy_sortedV{w:World}{g n:Nat}{os:Array Obj}(d:Array Value):w.grownBy (grow (putRow id (Sort.ahead w n) g 0 d) os) (some g):=by
 refine⟨rfl,rfl,rfl,by simp,λ k hk hne=>?_⟩
 rw[heap_grow_old _ _ (by simpa using hk)]
 have:g≠k:=λ e=>hne (by rw[e])
 simp[putRow,mapBlock,Sort.ahead,Array.getElem?_modify,this]

theorem take_putCellsV(cur:Array Value)(ts:List Value)(h:ts.length<=cur.size):(putCells id 0 ts.toArray cur).toList.take ts.length=ts:=by
 apply List.ext_getElem?
 intro j
 by_cases hj:j<ts.length
 .rw [List.getElem?_take_of_lt hj,Array.getElem?_toList]
  simp[putCells,hj,show j<cur.size by omega]
 .rw [List.getElem?_take_eq_none (by omega),List.getElem?_eq_none (by omega)]

theorem owns_sortedR{w:World}{base g cap n:Nat}{e:TypeId}{os:Array Obj}{cur:Array Value}{L M:List (Nat×Nat)}(hl:M.length=L.length)(hbase:base<=g)(hb:w.heap[g]?=some (.cells cur e (0,0)))
  (h1:L.length<=cap) (h2:cap<=maxLen) (h3:cur.size=cap*2):
  (Go.Proofs.sortWorldK encR 2 w g 0 n M.toArray os).ownsRow base e 2 (.slice (some ⟨g,0,none⟩) L.length cap) L.length (Bt M):=by
 unfold Go.Proofs.sortWorldK Go.Sort.putRowK
 rw[flat_eq]
 refine⟨by rw[Cw,hl],.inr ⟨g,cap,_,rfl,hbase,heap_sortedV _ hb,h1,h2,by simp[putCells,h3],?_⟩⟩
 have:=take_putCellsV cur (Bt M) (by rw[Cw];omega)
 rw[Cw,hl] at this
 exact this

theorem grownBy_sortedR{w:World}{g n:Nat}{os:Array Obj}(M:Array (Nat×Nat)):w.grownBy (Go.Proofs.sortWorldK encR 2 w g 0 n M os) (some g):=grownBy_sortedV _

open Go.RowKit Go.Sort Go.Shelf

theorem ltR(x y:Nat×Nat):Go.Proofs.ltOf (λ x y:Nat×Nat=>cmpN x.1 y.1) x y=decide (x.1<y.1):=by
 unfold Go.Proofs.ltOf cmpN
 by_cases h1:x.1<y.1
 .simp [h1]
 .by_cases h2:y.1<x.1 <;> simp[h1,h2]

theorem swoR:SWO (Go.Proofs.ltOf λ x y:Nat×Nat=>cmpN x.1 y.1) where
 irrefl x:=by rw[ltR];simp
 trans x y z h1 h2:=by rw[ltR] at *;simp at *;omega
 ntrans x y z h1 h2:=by rw[ltR] at *;simp at *;omega

theorem permR{d d':Array (Nat×Nat)}(h:PermIn 0 d.size d d'):d'.toList.Perm d.toList:=by
 have h1:=h.2.2
 have e1:d'.extract 0 d.size=d':=by rw[<- h.1];simp
 have e2:d.extract 0 d.size=d:=by simp
 rwa [e1,e2] at h1

theorem sortedR{d':Array (Nat×Nat)}{n:Nat}(hn:d'.size=n)(h:SortedIn (Go.Proofs.ltOf λ x y:Nat×Nat=>cmpN x.1 y.1) 0 n d'):d'.toList.Pairwise λ a b=>a.1<=b.1:=by
 rw[List.pairwise_iff_getElem]
 intro i j hi hj hij
 have:=h i j (Nat.zero_le _) hij (by rw[<- hn];simpa using hj)
 rw[ltR] at this
 have h2:=of_decide_eq_false this
 have e1:d'[i]! =d'.toList[i]:=by
  rw[getElem!_pos d' i (by simpa using hi)]
  simp
 have e2:d'[j]! =d'.toList[j]:=by
  rw[getElem!_pos d' j (by simpa using hj)]
  simp
 rw[e1,e2] at h2
 omega

theorem ByAt.sort{w:World}{b g:Nat}{m:Nat}{dk:Array (Nat×Nat)}{os:Array Obj}(h:ByAt w b)(hne:¬ b=g):ByAt (Go.Proofs.sortWorldK encR 2 w g 0 m dk os) b:=by
 unfold Go.Proofs.sortWorldK putRowK
 refine⟨?_,?_⟩
 .rw [cell?_grow _ _ _ (by simpa using h.2),cell?_putRow_other _ _ _ _ _ _ (.inl hne)]
  exact h.1
 .have:b<w.heap.size:=h.2
  simp[grow]
  omega

theorem SortRuns_at(base:Nat)(v:Value)(L:List (Nat×Nat))(b:Nat)(w:World)(ho:w.ownsRow base 225 2 v L.length (Bt L))(hb:ByAt w b)(hbv:¬ v.ownBlock=some b)(hl:L.length<=65536):
  Calls prog 196 #[v,.func (.func 194) #[] #[.pointer (some ⟨b,0,none⟩)]] w λ e w'=>
   e=.returned (.tuple #[])/\∃ M:List (Nat×Nat),M.Perm L/\M.Pairwise (λ a b=>a.1<=b.1)/\w'.ownsRow base 225 2 v M.length (Bt M)/\Kp (λ k=>v.ownBlock=some k) w w':=by
 rcases ho.2 with ⟨rfl,h0⟩|⟨g,cap,cur,rfl,h2,h3,h4,h5,h6,h7⟩
 .have hL:=List.length_eq_zero_iff.1 h0
  subst hL
  refine(Go.Proofs.AnyF.slices_SortFunc_none sortRuns none 0 _ w).mono ?_
  rintro e w' ⟨rfl,rfl⟩
  exact⟨rfl,[],List.Perm.refl _,List.Pairwise.nil,ho,Kr _ _⟩
 .have eg:∀ args w,(callFunc 194 args).run prog w=.ok (.enter 194 args) w:=enters_of func194 (by kernel_rfl) rfl
  have hbg:¬ b=g:=λ e=>hbv (by rw[e];rfl)
  have hcmp:Go.Proofs.CmpLays prog 194 #[.pointer (some ⟨b,0,none⟩)] encR 2 (λ x y=>cmpN x.1 y.1) g 0 L.toArray.size w:=λ m os dk hs x y=>
   (By_at x y b _ (hb.sort hbg)).mono λ e w' ⟨h1,_,h2⟩=>⟨h1,h2⟩
  have hH:=holdsK_of_block h3 h7
  have hcon:=Go.Proofs.AnyQ.slices_SortFunc sortRuns 2 isAgg225 sizeOf225 encR encR_len encR_one (λ x y=>cmpN x.1 y.1) swoR 194 #[.pointer (some ⟨b,0,none⟩)] g 0 cap L.toArray w eg hcmp hH (lZ h3) (by simp;omega)
  refine hcon.mono ?_
  rintro e w' ⟨rfl,d',n,os,hp,hs,rfl⟩
  have hsz:d'.toList.length=L.length:=by have:=hp.1;simpa using this
  refine⟨rfl,d'.toList,by simpa using permR hp,sortedR (by simpa using hsz) (by simpa using hs),?_,?_⟩
  .rw [hsz]
   have:=owns_sortedR (n:=n) (os:=os) (M:=d'.toList) hsz h2 h3 h4 h5 h6
   simpa using this
  .exact ((Kr (λ k=>k=g) w).grown (grownBy_sortedR _) (λ k e _=>by injection e with e;exact e.symm)).mono λ i _ h=>by subst h;rfl

open Go.RowKit

theorem Compact_none(va:Option Addr)(vc:Nat)(fv:Value)(w:World):Calls prog 197 #[.slice va 0 vc,fv] w λ e w'=>e=.returned (.slice va 0 vc)/\w'=w:=by
 go_enter func197,ntmps197
 go_wp2
 go_ret
 exact⟨rfl,rfl⟩

def RisePost(v:Value)(L:List (Nat×Nat))(w:World)(e:Ending)(w':World):Prop:=
 ∃ v' M,e=.returned v'/\UpR M/\(∀ r,r∈M ↔ r∈L)/\RowR w' v' M/\Kp (λ k=>v.ownBlock=some k) w w'

theorem Rising_at(base:Nat)(v:Value)(L:List (Nat×Nat))(w:World)(ho:w.ownsRow base 225 2 v L.length (Bt L))(hl:L.length<=65536)(hu:∀ a∈L,∀ b∈L,a.1=b.1->a=b):
  Calls prog 174 #[v,.func (.func 175) #[] #[]] w (RisePost v L w):=by
 obtain⟨va,vc,rfl⟩:=AA ho
 obtain⟨v,hv⟩:∃ v,Value.slice va L.length vc=v:=⟨_,rfl⟩
 rw[hv] at ho ⊢
 have HO:=sE ho
 have HU:=sE hu
 have HVv:=sE hv
 clear ho hu hv
 go_enter func174,ntmps174
 go_wp2_with fail
 obtain⟨w1,hw1⟩:∃ w1,w1=w.alloc (.cells #[.func (.func 175) #[] #[]] 259):=⟨_,rfl⟩
 obtain⟨w2,hw2⟩:∃ w2,w2=w1.alloc (.cells #[.func (.func 194) #[] #[.pointer (some ⟨w.heap.size,0,none⟩)]] 269):=⟨_,rfl⟩
 have k1:Kp Ab w w1:=by rw[hw1];exact (Kr _ w).alloc _
 have k2:Kp Ab w1 w2:=by rw[hw2];exact (Kr _ w1).alloc _
 have b1:w1.heap[w.heap.size]?=some (.cells #[.func (.func 175) #[] #[]] 259 (0,0)):=by rw[hw1];exact wN w _
 have b2:w2.heap[w1.heap.size]?=some (.cells #[.func (.func 194) #[] #[.pointer (some ⟨w.heap.size,0,none⟩)]] 269 (0,0)):=by rw[hw2];exact wN w1 _
 have z1:w1.heap.size=w.heap.size+1:=by rw[hw1];simp
 rw[z1] at b2
 have b1':=k2.at_ b1 (λ h=>h)
 rw[<- hw1,<- hw2]
 have hBy:ByAt w2 w.heap.size:=⟨cell_of_one b1',lZ b1'⟩
 have hEq:EqAt w2 (w.heap.size+1) w.heap.size:=⟨cell_of_one b2,lZ b2,hBy⟩
 have K2:=k1.then' k2
 have hvb:∀ k,v.ownBlock=some k->k<w.heap.size:=λ k h=>(Af HO.out h).2
 have HS:=sE (SortRuns_at base v L w.heap.size w2 (Ai HO.out K2 (λ _ _ h=>h)) hBy (λ h=>by have:=hvb _ h;omega) hl)
 have HE2:=sE hEq
 have HK2:=sE K2
 have HVb:=sE hvb
 clear hw1 hw2 k1 k2 b1 b2 z1 b1' hBy hEq K2 hvb
 refine HS.out.mono ?_
 rintro e w3 ⟨rfl,M,hp,hs,hown,k3⟩
 have HM:Sl (UpR (CE M)/\∀ r,r∈CE M ↔ r∈L):=⟨by
  obtain⟨h1,h2⟩:=onceR_up hs (λ a ha b hb=>HU.out a (hp.mem_iff.1 ha) b (hp.mem_iff.1 hb))
  exact⟨h1,λ r=>by rw[h2,hp.mem_iff]⟩⟩
 have hML:M.length=L.length:=hp.length_eq
 have HK3:Sl (Kp (λ k=>v.ownBlock=some k) w w3):=⟨(HK2.out.Ak _).trans k3 (λ _ _ h=>h)⟩
 by_cases hne:M=[]
 .have hv:=HVv.out
  have hL0:L.length=0:=by rw[<- hML,hne];rfl
  rw[hL0] at hv
  subst hv
  have HN:Sl (CE M=[]):=⟨by rw[hne];rfl⟩
  clear hp hs hown k3 hML hne hL0 HS
  go_wp2_with (go_at_call 197;refine (Compact_none _ _ _ _).mono ?_;rintro e w4 ⟨rfl,rfl⟩)
  go_ret
  refine⟨_,[],rfl,List.Pairwise.nil,λ r=>by rw[<- HM.out.2 r,HN.out],⟨_,_,rfl,λ i x hx=>by simp at hx⟩,HK3.out⟩
 .obtain ⟨g,cap,hvg,hbg,hr⟩:=RunF.Br hown hne
  have hgl:g<w.heap.size:=HVb.out g (by rw[hvg];rfl)
  have hvo:v.ownBlock=some g:=by rw[hvg];rfl
  have HEq3:Sl (EqAt w3 (w.heap.size+1) w.heap.size):=⟨by
   refine HE2.out.keepG (g:=g) (k3.mono λ k _ h=>?_) (by omega) (by omega)
   rw[hvo] at h
   injection h with h
   exact h.symm⟩
  obtain⟨n,hn⟩:∃ n,M.length=n:=⟨_,rfl⟩
  have HC:=sE (Compact_at M g cap n (w.heap.size+1) _ w3 (by rw[<- hn];exact hr) hn (λ p x hx=>by rw[hx];rfl) (by omega) (by have:=hr.cap_le;unfold maxLen at this;omega) (by omega) (λ x y W' kk=>EqBy_at x y _ w.heap.size W' (HEq3.out.keepG kk (by omega) (by omega))))
  rw[hn] at hvg
  have HVo:=sE hvo
  subst hvg
  clear hp hs hown k3 hML hne hr hvo HS
  go_wp2_with fail
  refine HC.out.mono ?_
  rintro e w4 ⟨rfl,k4,f,hf,hfx⟩
  have HR:=sE (RowR.of_runF hf hfx)
  obtain⟨m,hm⟩:∃ m,(CE M).length=m:=⟨_,rfl⟩
  rw[hm] at HR ⊢
  clear hf hfx
  go_wp2
  go_ret
  exact⟨_,CE M,rfl,HM.out.1,HM.out.2,HR.out,HK3.out.trans k4 (λ i _ h=>by rw[HVo.out,h])⟩

end

section
open Go.RowKit

def Cu(cs:List Cel)(g:Nat):Nat:=
 match cs.find? (λ c=>c.tag==1&&c.g==g) with
 |some c=>c.sz
 |none=>0

theorem Cy{cs:List Cel}{H:Nat}{c:Cel}(ht:Au 0 cs H)(hc:c∈cs)(h1:c.tag=1):Cu cs c.g=c.sz:=by
 obtain⟨d,e1,e2,e3,e4⟩:=objG_find (g:=c.g) ⟨c,hc,h1,rfl⟩
 unfold Cu
 rw[e1]
 have:=Au.only ht e2 hc e4
 simp only
 rw[this]

def De(gs:List Nat)(g:Nat):Bool:=gs.contains g

theorem DU{gs:List Nat}{g:Nat}:De gs g=true ↔ g∈gs:=by
 unfold De
 exact List.contains_iff_mem

def Ci(cs:List Cel)(gs:List Nat):List (Nat×Nat):=gs.map λ g=>(g,Cu cs g)

theorem pinsOf_len(cs:List Cel)(gs:List Nat):(Ci cs gs).length=gs.length:=List.length_map ..

theorem pinsOf_take{cs:List Cel}{gs:List Nat}{j g:Nat}(h:gs[j]?=some g):Ci cs (gs.take (j+1))=Ci cs (gs.take j)++[(g,Cu cs g)]:=by
 unfold Ci
 rw[BR h,List.map_append]
 rfl

theorem pinsOf_fst{cs:List Cel}{gs:List Nat}:∀ a∈Ci cs gs,∀ b∈Ci cs gs,a.1=b.1->a=b:=by
 intro a ha b hb h
 unfold Ci at ha hb
 obtain⟨x,-,rfl⟩:=List.mem_map.1 ha
 obtain⟨y,-,rfl⟩:=List.mem_map.1 hb
 simp only at h
 rw[h]

theorem pins_pinL{cs:List Cel}{gs:List Nat}{H:Nat}{M:List (Nat×Nat)}(hu:UpR M)(hm:∀ r,r∈M ↔ r∈Ci cs gs)(ho:∀ g∈gs,CX cs g)(ht:Au 0 cs H):M=pinL cs (De gs):=by
 refine hu.uniq ((EP (p:=De gs) ht).up.1) λ r=>?_
 rw[hm,mem_pinL]
 unfold Ci
 rw[List.mem_map]
 constructor
 .rintro ⟨g,hg,rfl⟩
  obtain⟨c,hc,h1,rfl⟩:=ho g hg
  exact⟨c,hc,h1,DU.2 hg,by rw[Cy ht hc h1]⟩
 .rintro ⟨c,hc,h1,hp,rfl⟩
  exact⟨c.g,DU.1 hp,by rw[Cy ht hc h1]⟩

theorem BN.take:∀ {L:List (Nat×Nat)} {e H:Nat} (j:Nat),BN e L H->BN e (L.take j) H
 |[],e,H,j,h=>by simpa using h
 |r::L,e,H,0,h=>h.le
 |r::L,e,H,j+1,⟨h1,h2,h3⟩=>⟨h1,h2,h3.take j⟩

theorem BN.fits:∀ {L:List (Nat×Nat)} {e H:Nat},BN e L H->∀ x∈L,x.1+x.2<=H
 |[],e,H,h,x,hx=>by cases hx
 |r::L,e,H,⟨h1,h2,h3⟩,x,hx=>by
  rcases List.mem_cons.1 hx with rfl|hx
  .exact h3.le
  .exact h3.fits x hx

theorem joinGo_len:∀ (c:Nat×Nat) (rs:List (Nat×Nat)),(CQ c rs).length<=rs.length+1
 |c,[]=>by simp[CQ]
 |c,r::rs=>by
  unfold CQ
  split
  .have:=joinGo_len (c.1,c.2+r.2) rs
   simp only[List.length_cons]
   omega
  .have:=joinGo_len r rs
   simp only[List.length_cons]
   omega

theorem joinsR_len(rs:List (Nat×Nat)):(Ew rs).length<=rs.length:=by
 cases rs with
 |nil=>exact Nat.le_refl _
 |cons r rs=>exact joinGo_len r rs

theorem BN.len:∀ {L:List (Nat×Nat)} {e H:Nat},BN e L H->L.length<=H-e
 |[],e,H,h=>Nat.zero_le _
 |r::L,e,H,⟨h1,h2,h3⟩=>by
  have:=h3.len
  have:=h3.le
  simp only[List.length_cons]
  omega

theorem RowR.not_box{w:World}{v:Value}{L:List (Nat×Nat)}{b o i lb:Nat}{x:Nat×Nat}{a:Option Addr}{n c:Nat}{T:TypeId}(h:w.cell? ⟨b,o+i*2,none⟩=some (.int .i64 (x.1:Nat)))(hb:w.heap[lb]?=some (.cells #[.slice a n c] T (0,0))):¬ b=lb:=by
 intro e
 subst e
 simp only[World.cell?,hb] at h
 generalize o+i*2=k at h
 cases k with
 |zero=>simp at h
 |succ k=>simp at h

def IslePost(base:Nat)(L:List (Nat×Nat))(w:World)(e:Ending)(w':World):Prop:=
 ∃ a c,e=.returned (.tuple #[.slice a L.length c,.int .i64 0])/\w'.ownsRow base 225 2 (.slice a L.length c) L.length (Bt L)/\Kp Ab w w'

def PinOne(P:Sp)(H p:Nat)(z:Nat)(g:Nat)(W':World):Prop:=
 (∀ W2,Kp Ab W' W2->∃ ty ln:Nat,Calls prog 49 #[.pointer (some ⟨P.a,0,none⟩),.int .i64 (g:Nat)] W2 λ e w'=>e=.returned (.tuple #[Al 1 (ty:Nat) (ln:Nat) (z:Nat),.int .i64 0])/\Kp Ab W2 w')/\
 ∀ W2,Kp Ab W' W2->Calls prog 58 #[.pointer (some ⟨p,0,none⟩),.int .i64 (g:Nat)] W2 λ e w'=>e=.returned (.bool true)/\Kp Ab W2 w'

theorem pin_one{P:Sp}{W:Nat->Nat}{f:Nat->Bool}{cs:List Cel}{w:World}{p q g:Nat}(hsp:SpaceAt w P W f)(hc:CellsAt P W cs)(hst:∀ i,i<P.n/2->f i=Aq cs i)(hb:AJ w p q f (P.n/2))(ho:CX cs g):PinOne P (P.n/2) p (Cu cs g) g w:=by
 obtain⟨c,hm,h1,rfl⟩:=ho
 have hlt:=(hc.tl.mem hm)
 have hg:c.g<P.n/2:=by omega
 refine⟨λ W2 k=>⟨c.ty,c.ln,?_⟩,λ W2 k=>?_⟩
 .have:=ET c P W f W2 (hsp.Ad k) hg (hc.hd c hm) (hc.ok c hm)
  rw[Cy hc.tl hm h1]
  rw[h1] at this
  exact this
 .have:=Has_in c.g (P.n/2) p q f W2 (AJ.keep hb k (λ h=>h) (λ h=>h)) hg
  rw[hst c.g hg,objG_start.1 ⟨c,hm,h1,rfl⟩] at this
  exact this

set_option maxRecDepth 20000 in
theorem IsleOf_at(P:Sp)(W:Nat->Nat)(f:Nat->Bool)(cs:List Cel)(w:World)(gs:List Nat)(v:Value)(hsp:SpaceAt w P W f)(hc:CellsAt P W cs)(hst:∀ i,i<P.n/2->f i=Aq cs i)(hv:Bw w v gs)(ho:∀ g∈gs,CX cs g)(hl:gs.length<=65536):
  Calls prog 137 #[.pointer (some ⟨P.s,0,none⟩),v] w (IslePost w.heap.size (BX cs (De gs)) w):=by
 have hsz:∀ g∈gs,g+Cu cs g<=65536:=λ g hg=>by
  obtain⟨c,hm,h1,rfl⟩:=ho g hg
  rw[Cy hc.tl hm h1]
  have:=hc.tl.mem hm
  have:=hsp.ar.small
  omega
 have hrise:=EP (p:=De gs) hc.tl
 have hsm:=hsp.ar.small
 obtain⟨w1,hw1⟩:∃ w1,w1=w.alloc (.cells #[.slice none 0 0] 163):=⟨_,rfl⟩
 have k1:Kp Ab w w1:=by rw[hw1];exact (Kr _ w).alloc _
 have b1:w1.heap[w.heap.size]?=some (.cells #[.slice none 0 0] 163 (0,0)):=by rw[hw1];exact wN w _
 have z1:w1.heap.size=w.heap.size+1:=by rw[hw1];simp
 have HSt:=sE (Fz P W f w1 (hsp.Ad k1))
 have HPin:Sl (∀ W' p q,Kp Ab w W'->AJ W' p q f (P.n/2)->∀ g∈gs,PinOne P (P.n/2) p (Cu cs g) g W'):=⟨λ W' p q k hb g hg=>pin_one (hsp.Ad k) hc hst hb (ho g hg)⟩
 have HAr:Sl (∀ W',Kp Ab w W'->Calls prog 14 #[.pointer (some ⟨P.s,0,none⟩)] W' λ e w'=>e=.returned (.pointer (some ⟨P.a,0,none⟩))/\w'=W'):=⟨λ W' k=>Cj P W f W' (hsp.Ad k)⟩
 have HEnd:Sl (∀ M,UpR M->(∀ r,r∈M ↔ r∈Ci cs gs)->M=pinL cs (De gs)):=⟨λ M h1 h2=>pins_pinL h1 h2 ho hc.tl⟩
 have HZ:=sE hsz
 have HRi:=sE hrise
 have HV:=sE hv
 obtain⟨va,vc,rfl,-⟩:=hv
 obtain⟨n,hn⟩:∃ n,gs.length=n:=⟨_,rfl⟩
 rw[hn] at HV hl ⊢
 have HN:=sE hn
 have HK1:=sE k1
 have HB1:=sE b1
 have HZ1:=sE z1
 obtain⟨H,hH⟩:∃ H,P.n/2=H:=⟨_,rfl⟩
 rw[hH] at HPin HSt HRi
 have hH2:H<=32768:=by omega
 clear hsp hc hst ho hn hsz hrise hsm k1 b1 z1 hH
 go_enter func137,ntmps137
 go_wp2_with fail
 rw[<- hw1]
 clear hw1
 refine HSt.out.mono ?_
 rintro e w2 ⟨p,q,rfl,hp,hq,hbits,k2⟩
 have HB2:=sE (k2.at_ HB1.out (λ h=>h))
 have HK2:Sl (Kp Ab w w2):=⟨HK1.out.then' k2⟩
 have HP2:Sl (∀ g∈gs,PinOne P H p (Cu cs g) g w2):=⟨HPin.out w2 p q (HK1.out.then' k2) hbits⟩
 have HZ2:Sl (w.heap.size<w2.heap.size):=⟨by have:=HZ1.out;have:=k2.size;omega⟩
 clear hp hq hbits k2 HSt HPin
 go_wp2_with fail
 go_loopw [6,21] (λ v6 i wr=>∃ j:Nat,j<=n/\i=.int .i64 (j:Nat)/\wr.ownsRow w2.heap.size 225 2 v6 (Ci cs (gs.take j)).length (Bt (Ci cs (gs.take j)))/\Kp Ab w2 wr) (λ _ i _=>n-(intOf i).toNat)
 case atStart=>exact ⟨0,Nat.zero_le _,rfl,World.ownsRow_nil _ _ _ _,Kr _ _⟩
 case round=>
  obtain⟨j,hj,rfl,hown,hk⟩:=hrel
  have HO:=sE hown
  have HK:=sE hk
  clear hown hk
  by_cases hjl:j<n
  .have hjl':(j:Int)<(n:Int):=by omega
   obtain⟨va',vc',e,hx⟩:=HV.out
   injection e with e1 e3 e2
   clear e3
   subst e1 e2
   obtain⟨g,hg⟩:∃ g,gs[j]?=some g:=⟨_,List.getElem?_eq_getElem (by rw[HN.out];exact hjl)⟩
   obtain⟨bb,o,rfl,x0⟩:=hx j g hg
   have y0:=(HK2.out.then' HK.out).cell x0 (λ h=>h)
   obtain⟨pa,pb⟩:=HP2.out g (List.mem_of_getElem? hg)
   have HHd:=sE (λ W2 k=>pa W2 (HK.out.then' k))
   have HHs:=sE (λ W2 k=>pb W2 (HK.out.then' k))
   have HT:=sE (pinsOf_take (cs:=cs) hg)
   have hpl:(Ci cs (gs.take j)).length=j:=by rw[pinsOf_len,List.length_take,HN.out];omega
   obtain⟨z,hz⟩:∃ z,Cu cs g=z:=⟨_,rfl⟩
   have hgz:=HZ.out g (List.mem_of_getElem? hg)
   rw[hz] at HHd HT hgz
   obtain⟨Q,hQ⟩:∃ Q,Ci cs (gs.take j)=Q:=⟨_,rfl⟩
   rw[hQ] at HT HO hpl
   have HQ:=sE hpl
   rw[hpl] at HO
   clear hx x0 pa pb hz hg hQ hpl
   go_wp2_with fail
   refine(HAr.out _ (HK2.out.then' HK.out)).mono ?_
   rintro e w3 ⟨rfl,rfl⟩
   obtain⟨ty,ln,hd⟩:=HHd.out w3 (Kr _ _)
   go_wp2_with fail
   refine hd.mono ?_
   rintro e w4 ⟨rfl,k4⟩
   unfold Al
   clear hd
   obtain⟨w5,hw5⟩:∃ w5,w5=w4.alloc (.cells #[.int .u8 1,.int .i64 (ty:Nat),.int .i64 (ln:Nat),.int .i64 (z:Nat)] 52):=⟨_,rfl⟩
   have k5:Kp Ab w4 w5:=by rw[hw5];exact (Kr _ w4).alloc _
   have b5:w5.heap[w4.heap.size]?=some (.cells #[.int .u8 1,.int .i64 (ty:Nat),.int .i64 (ln:Nat),.int .i64 (z:Nat)] 52 (0,0)):=by rw[hw5];exact wN w4 _
   have K5:=sE (k4.then' k5)
   have HX3:Sl (w5.cell? ⟨w4.heap.size,3,none⟩=some (.int .i64 (z:Nat))):=⟨by simp[World.cell?,b5]⟩
   clear k4 k5 b5
   go_wp2_with fail
   rw[<- hw5]
   clear hw5
   refine(HHs.out w5 K5.out).mono ?_
   rintro e w6 ⟨rfl,k6⟩
   have x3:=k6.cell HX3.out (λ h=>h)
   have K6:=sE (K5.out.then' k6)
   have HO6:=sE (Ai HO.out K6.out (λ _ _ h=>h))
   obtain⟨qa,qc,rfl⟩:=AA HO6.out
   have hzn:j<=65536:=by omega
   have hs26:=(HK.out.then' K6.out).size
   clear k6
   go_wp2_with (at_builtin;obtain ⟨i0,hi,hz0,hz1,hz2⟩:=info_parts infoRun;go_loud (refine wpList_append_lies _ rfl (.tmp 40) (.tmp 45) 163 rfl w2.heap.size 225 i0 _ 2 16 Cz hi hz0 hz1 hz2 rfl (by omega) (.slice qa j qc) j (Bt Q) rfl (HO6.out.alloc _) ⟨w6.heap.size,0,none⟩ 1 1 [.int .i64 (g:Nat),.int .i64 (z:Nat)] rfl rfl (World.news_of_block (wN w6 _)) (by intro u hu;simp at hu;rcases hu with rfl|rfl <;> rfl) (by omega) (by unfold maxLen;omega) (by omega) (by first|(simp;done)|(simp;omega)) (w6.heap.size+1) (by simp) ?_);intro gn capn w7 hown7 hgrow hat hlt;clear hi hz0 hz1 hz2;have HR7:=sE hown7;have HG7:=sE hgrow;clear hown7 hgrow hat hlt)
   have k7:Kp Ab w2 w7:=((HK.out.then' K6.out).alloc _).grown HG7.out (λ k e hk=>by have:=(Af HO6.out e).1;omega)
   refine⟨⟨j+1,by omega,by go_num,?_,k7⟩,by simp only[intOf];omega⟩
   rw[HT.out,EM,List.length_append,HQ.out]
   exact HR7.out
  .obtain rfl:j=n:=by omega
   have hwhole:gs.take j=gs:=List.take_of_length_le (by rw[HN.out];exact Nat.le_refl _)
   rw[hwhole] at HO
   have hpl:(Ci cs gs).length=j:=by rw[pinsOf_len,HN.out]
   have HRs:=sE (Rising_at w2.heap.size _ (Ci cs gs) wr HO.out (by rw[hpl];omega) pinsOf_fst)
   obtain⟨qa,qc,rfl⟩:=AA HO.out
   rw[hpl] at HRs
   have HKw:Sl (Kp Ab w wr):=⟨HK2.out.then' HK.out⟩
   have HBr:=sE (HK.out.at_ HB2.out (λ h=>h))
   have HOb:Sl (∀ k,(Value.slice qa j qc).ownBlock=some k->w2.heap.size<=k):=⟨λ k e=>by rw[hpl] at HO;exact (Af HO.out e).1⟩
   rw[hpl]
   clear HO HK hwhole hpl HK2 HB2 HAr HP2
   go_wp2_with fail
   refine HRs.out.mono ?_
   rintro e w3 ⟨v',M,rfl,hu,hm,hrow,kr⟩
   have hM:=HEnd.out M hu hm
   have HK3:Sl (Kp Ab w w3):=⟨((HKw.out.Ak _).trans kr (λ _ _ h=>h)).mono (λ i hi h=>by have:=HOb.out i h;have:=HZ2.out;omega)⟩
   have HB3:=sE (kr.at_ HBr.out (λ h=>by have:=HOb.out _ h;have:=HZ2.out;omega))
   have HMr:=sE hrow
   have hR:=HRi.out
   rw[<- hM] at hR
   have HRm:=sE hR
   have hml:=hR.len
   have HMe:Sl (M=pinL cs (De gs)):=⟨hM⟩
   obtain⟨ma,mc,rfl,hmx⟩:=hrow
   obtain⟨ml,hml'⟩:∃ ml,M.length=ml:=⟨_,rfl⟩
   have HML:=sE hml'
   have HMx:=sE hmx
   have hlt3:w.heap.size<w3.heap.size:=lZ HB3.out
   rw[hml'] at hml HMr ⊢
   clear hu hm hM hR kr hmx hml' HEnd HRs HBr HOb HKw
   go_wp2_with fail
   go_loopw [52] (λ i wx=>∃ j:Nat,j<=ml/\i=.int .i64 (j:Nat)/\∃ vv,wx.heap[w.heap.size]?=some (.cells #[vv] 163 (0,0))/\wx.ownsRow w3.heap.size 225 2 vv (Ew (M.take j)).length (Bt (Ew (M.take j)))/\Kp (λ k=>k=w.heap.size\/w3.heap.size<=k) w3 wx) (λ i _=>ml-(intOf i).toNat)
   case atStart=>exact ⟨0,Nat.zero_le _,rfl,_,HB3.out,World.ownsRow_nil _ _ _ _,Kr _ _⟩
   case round=>
    obtain⟨i,hi,rfl,vv,hbx,hown,hk⟩:=hrel
    have HKx:=sE hk
    have HBx:=sE hbx
    have HOx:=sE hown
    clear hbx hown hk
    by_cases hil:i<ml
    .have hil':(i:Int)<(ml:Int):=by omega
     obtain⟨x,hx⟩:∃ x,M[i]?=some x:=⟨_,List.getElem?_eq_getElem (by rw[HML.out];exact hil)⟩
     obtain⟨bb,o,rfl,hb0,y0,y1⟩:=HMx.out i x hx
     have hnb:=RowR.not_box (L:=M) (v:=.slice none 0 0) y0 HB3.out
     have hbn:¬ (bb=w.heap.size\/w3.heap.size<=bb):=by omega
     have x0:=HKx.out.cell y0 hbn
     have x1:=HKx.out.cell y1 hbn
     have HTk:Sl (Ew (M.take (i+1))=joinL (Ew (M.take i)) x):=⟨by rw[BR hx,joinsR_snoc]⟩
     have hfx:=HRm.out.fits x (List.mem_of_getElem? hx)
     obtain⟨J,hJ⟩:∃ J,Ew (M.take i)=J:=⟨_,rfl⟩
     have HJf:Sl (∀ y∈J,y.1+y.2<=65536):=⟨λ y hy=>by
      rw[<- hJ] at hy
      have:=(joinsR_apart (HRm.out.take i)).rise.fits y hy
      omega⟩
     have HJl:Sl (J.length<=65536):=⟨by
      rw[<- hJ]
      have h1:=joinsR_len (M.take i)
      have h2:(M.take i).length<=i:=by rw[List.length_take];omega
      omega⟩
     rw[hJ] at HOx HTk
     have hs3:=HKx.out.size
     have hkb:∀ k,vv.ownBlock=some k->w3.heap.size<=k:=λ k e=>(Af HOx.out e).1
     obtain⟨wj,hwj⟩:∃ wj,wj=wr.alloc (.cells #[.int .i64 (x.1:Nat),.int .i64 (x.2:Nat)] 225):=⟨_,rfl⟩
     have kj:Kp Ab wr wj:=by rw[hwj];exact (Kr _ wr).alloc _
     have HJo:=sE (Join_at w.heap.size w3.heap.size vv J x wj (kj.at_ HBx.out (λ h=>h)) (Ai HOx.out kj (λ _ _ h=>h)) hlt3 (by have:=kj.size;omega) HJl.out HJf.out (by omega))
     have HKj:Sl (Kp (λ k=>k=w.heap.size\/w3.heap.size<=k) w3 wj):=⟨HKx.out.trans kj (λ _ _ h=>h.elim)⟩
     have HKb:=sE hkb
     have hbj:wj.cell? ⟨wr.heap.size,0,none⟩=some (.int .i64 (x.1:Nat))/\wj.cell? ⟨wr.heap.size,1,none⟩=some (.int .i64 (x.2:Nat)):=by
      have hb:=wN wr (.cells #[.int .i64 (x.1:Nat),.int .i64 (x.2:Nat)] 225)
      rw[<- hwj] at hb
      exact⟨by simp[World.cell?,hb],by simp[World.cell?,hb]⟩
     obtain⟨z0,z1⟩:=hbj
     clear hbn hx y0 y1 hJ hs3 hkb kj hb0 HKx HOx HBx
     subst hwj
     go_wp2_with fail
     refine HJo.out.mono ?_
     rintro e w5 ⟨rfl,v5,hb5,ho5,k5⟩
     have HB5:=sE hb5
     have HO5:=sE ho5
     have HK5:Sl (Kp (λ k=>k=w.heap.size\/w3.heap.size<=k) w3 w5):=⟨HKj.out.trans k5 (λ k _ h=>by
      rcases h with h|h
      .exact .inl h
      .exact .inr (HKb.out k h))⟩
     clear hb5 ho5 k5
     go_wp2_with fail
     exact⟨⟨i+1,by omega,by go_num,v5,HB5.out,by rw[HTk.out];exact HO5.out,HK5.out⟩,by simp only[intOf];omega⟩
    .obtain rfl:i=ml:=by omega
     have hwhole:M.take i=M:=List.take_of_length_le (by rw[HML.out];exact Nat.le_refl _)
     have hL:Ew M=BX cs (De gs):=by unfold BX;rw [<- HMe.out]
     rw[hwhole,hL] at HOx
     have c4:=cell_of_one HBx.out
     have f4:=free_of_one HBx.out
     have hKe:Kp Ab w (wr.setCell ⟨w.heap.size,0,none⟩ vv):=((HK3.out.Ak _).trans (HKx.out.setCell (λ _=>.inl rfl) _) (λ _ _ h=>h)).mono (λ i hi h=>by
      rcases h with h|h <;> omega)
     have hOe:(wr.setCell ⟨w.heap.size,0,none⟩ vv).ownsRow w.heap.size 225 2 vv (BX cs (De gs)).length (Bt (BX cs (De gs))):=Bp (Ai HOx.out ((Kr (λ k=>k=w.heap.size) wr).setCell (λ _=>rfl) _) (λ b e h=>by
      have:=(Af HOx.out e).1
      omega)) (by omega)
     obtain⟨ea,ec,rfl⟩:=AA hOe
     have HKe:=sE hKe
     have HBx9:=sE HBx.out
     have HOe:=sE hOe
     clear hKe hOe hL hwhole HOx HKx HML HMe HMx HMr HRm
     go_wp2_with fail
     have b9:(wr.setCell ⟨w.heap.size,0,none⟩ (.slice ea (BX cs (De gs)).length ec)).heap[w.heap.size]?=some (.cells #[.slice ea (BX cs (De gs)).length ec] 163 (0,0)):=by
      have:=bZ HBx9.out (j:=0) (.slice ea (BX cs (De gs)).length ec)
      simpa using this
     have c9:=cell_of_one b9
     exact bodyPost_ret (v:=.tuple #[.slice ea (BX cs (De gs)).length ec,.int .i64 0]) (by simp[results,results137,go_sem,c9]) rfl ⟨ea,ec,rfl,HOe.out,HKe.out⟩

theorem endR_le:∀ (L:List (Nat×Nat)) (e H:Nat),e<=H->(∀ x∈L,x.1+x.2<=H)->endR e L<=H
 |[],e,H,h,_=>h
 |r::L,e,H,h,hx=>endR_le L (r.1+r.2) H (hx r List.mem_cons_self) (λ x hm=>hx x (List.mem_cons_of_mem _ hm))

set_option maxRecDepth 20000 in
theorem IsleWater_at(P:Sp)(W:Nat->Nat)(f:Nat->Bool)(cs:List Cel)(w:World)(gs:List Nat)(v:Value)(hsp:SpaceAt w P W f)(hc:CellsAt P W cs)(hst:∀ i,i<P.n/2->f i=Aq cs i)(hv:Bw w v gs)(ho:∀ g∈gs,CX cs g)(hl:gs.length<=65536):
  Calls prog 92 #[.pointer (some ⟨P.s,0,none⟩),v] w (IslePost w.heap.size (BZ 0 (BX cs (De gs)) (P.n/2)) w):=by
 have HOf:=sE (IsleOf_at P W f cs w gs v hsp hc hst hv ho hl)
 have HSp:=sE hsp
 have hH:=hsp.ar.small
 have hA:=EE (p:=De gs) hc.tl
 obtain⟨va,vc,rfl,-⟩:=hv
 obtain⟨H,hH'⟩:∃ H,P.n/2=H:=⟨_,rfl⟩
 obtain⟨L,hL⟩:∃ L,BX cs (De gs)=L:=⟨_,rfl⟩
 rw[hL] at HOf hA ⊢
 rw[hH'] at hA ⊢
 have hH2:H<=32768:=by omega
 have HH:=sE hH'
 have HA:=sE hA.rise
 have HLn:=sE hA.rise.len
 clear hsp hc hst ho hl hL hA hH hH'
 go_enter func92,ntmps92
 go_wp2_with fail
 refine HOf.out.mono ?_
 rintro e w1 ⟨a,c,rfl,hown,k1⟩
 obtain⟨l,hl⟩:∃ l,L.length=l:=⟨_,rfl⟩
 rw[hl] at hown HLn ⊢
 have HLl:=sE hl
 have HO1:=sE hown
 have HK1:=sE k1
 have hl2:=HLn.out
 clear hown k1 hl HOf
 go_wp2_with fail
 have HGr:=EC P W f w1 (HSp.out.Ad HK1.out)
 rw[HH.out] at HGr
 refine HGr.mono ?_
 rintro e w1' ⟨rfl,rfl⟩
 clear HGr
 have hs1:=HK1.out.size
 go_wp2_with (at_builtin;obtain ⟨i0,hi,hz0,hz1,hz2⟩:=info_parts infoRun;go_loud (refine wpList_append_lies _ rfl (.tmp 19) (.tmp 23) 163 rfl w.heap.size 225 i0 _ 2 16 Cz hi hz0 hz1 hz2 rfl (by omega) (.slice a l c) l (Bt L) rfl (HO1.out.alloc _) ⟨w1'.heap.size,0,none⟩ 1 1 [.int .i64 (H:Nat),.int .i64 0] rfl rfl (World.news_of_block (wN w1' _)) (by intro u hu;simp at hu;rcases hu with rfl|rfl <;> rfl) (by omega) (by unfold maxLen;omega) (by omega) (by first|(simp;done)|(simp;omega)) (w1'.heap.size+1) (by simp) ?_);intro gn capn w2 hown2 hgrow hat hlt;clear hi hz0 hz1 hz2;have HR2:=sE hown2;have HG2:=sE hgrow;clear hown2 hgrow hat hlt)
 have hk2:Kp Ab w w2:=(HK1.out.alloc _).grown HG2.out (λ k e hk=>by have:=(Af HO1.out e).1;omega)
 have HK2:=sE hk2
 obtain⟨M,hM⟩:∃ M,L++[(H,0)]=M:=⟨_,rfl⟩
 have hml:M.length=l+1:=by rw[<- hM,List.length_append,HLl.out];rfl
 have hrm:RowR w2 (.slice (some ⟨gn,0,none⟩) M.length capn) M:=by
  refine RowR.Br (T:=225) (base:=w.heap.size) ?_
  have:=HR2.out
  rw[hml,<- hM,EM]
  exact this
 have HM:=sE hrm
 have HMf:Sl (∀ x∈M,x.1+x.2<=H):=⟨λ x hx=>by
  rw[<- hM] at hx
  rcases List.mem_append.1 hx with h|h
  .exact HA.out.fits x h
  .have:=List.mem_singleton.1 h
   subst this
   simp only
   omega⟩
 have HML:=sE hml
 have HWt:Sl (BZ 0 L H=DT 0 M):=⟨by rw[<- hM,waterL_gaps]⟩
 clear hk2 hM hml hrm HSp HO1 HG2 HR2 HK1 HA HLn
 go_loopw [4,7,26] (λ v4 v7 i wx=>∃ j:Nat,j<=l+1/\i=.int .i64 (j:Nat)/\v7=.int .i64 (endR 0 (M.take j):Nat)/\wx.ownsRow w2.heap.size 225 2 v4 (DT 0 (M.take j)).length (Bt (DT 0 (M.take j)))/\Kp Ab w2 wx) (λ _ _ i _=>l+1-(intOf i).toNat)
 case atStart=>exact ⟨0,Nat.zero_le _,rfl,rfl,World.ownsRow_nil _ _ _ _,Kr _ _⟩
 case round=>
  obtain⟨j,hj,rfl,rfl,hown,hk⟩:=hrel
  have HO:=sE hown
  have HK:=sE hk
  clear hown hk
  have hend:endR 0 (M.take j)<=H:=endR_le _ _ _ (Nat.zero_le _) (λ x hx=>HMf.out x (List.mem_of_mem_take hx))
  have hgl:(DT 0 (M.take j)).length<=j:=by
   have h1:=gapsR_len (M.take j) 0
   have h2:(M.take j).length<=j:=by rw[List.length_take];omega
   omega
  by_cases hjl:j<l+1
  .have hjl':(j:Int)<(l:Int)+1:=by omega
   obtain⟨x,hx⟩:∃ x,M[j]?=some x:=⟨_,List.getElem?_eq_getElem (by rw[HML.out];exact hjl)⟩
   obtain⟨ma,mc,hv,hmx⟩:=HM.out
   injection hv with q1 q2 q3
   subst q1
   obtain⟨bb,o,e0,hb0,y0,y1⟩:=hmx j x hx
   injection e0 with e0
   injection e0 with e0 e1
   subst e0 e1
   rw[Nat.zero_add] at y0 y1
   have x0:=HK.out.cell y0 (λ h=>h)
   have x1:=HK.out.cell y1 (λ h=>h)
   have hxf:=HMf.out x (List.mem_of_getElem? hx)
   have HT:Sl (DT 0 (M.take (j+1))=DT 0 (M.take j)++(if endR 0 (M.take j)<x.1 then [(endR 0 (M.take j),x.1-endR 0 (M.take j))] else [])):=⟨by rw[BR hx,gapsR_snoc]⟩
   have HE:Sl (endR 0 (M.take (j+1))=x.1+x.2):=⟨by rw[BR hx,endR_snoc]⟩
   obtain⟨E,hE⟩:∃ E,endR 0 (M.take j)=E:=⟨_,rfl⟩
   obtain⟨G,hG⟩:∃ G,DT 0 (M.take j)=G:=⟨_,rfl⟩
   rw[hE,hG] at HT
   rw[hE] at hend
   rw[hG] at hgl HO
   rw[hE]
   have u1:IntKind.i64.wrap ((x.1:Int)+(x.2:Int))=(x.1:Int)+(x.2:Int):=by rw[IntKind.wrap_i64];omega
   clear hx y0 y1 hmx hE hG hb0 q2 q3
   by_cases hlt:E<x.1
   .have d1:decide ((E:Int)<(x.1:Int))=true:=dT (by omega)
    have u2:IntKind.i64.wrap ((x.1:Int)-(E:Int))=((x.1-E:Nat):Int):=by rw[IntKind.wrap_i64];omega
    have HT':Sl (DT 0 (M.take (j+1))=G++[(E,x.1-E)]):=⟨by rw[HT.out,if_pos hlt]⟩
    obtain⟨gl,hgl'⟩:∃ gl,G.length=gl:=⟨_,rfl⟩
    rw[hgl'] at HO hgl
    have HGl:=sE hgl'
    obtain⟨qa,qc,rfl⟩:=AA HO.out
    have hs2:=HK.out.size
    have hA:((wr.alloc (.cells #[.int .i64 (x.1:Nat),.int .i64 (x.2:Nat)] 225)).alloc (.cells #[.int .i64 (E:Nat),.int .i64 ((x.1-E:Nat):Int)] 225)).heap[wr.heap.size]?=some (.cells #[.int .i64 (x.1:Nat),.int .i64 (x.2:Nat)] 225 (0,0)):=((Kr Ab (wr.alloc (.cells #[.int .i64 (x.1:Nat),.int .i64 (x.2:Nat)] 225))).alloc _).at_ (wN wr _) (λ h=>h)
    have hB:((wr.alloc (.cells #[.int .i64 (x.1:Nat),.int .i64 (x.2:Nat)] 225)).alloc (.cells #[.int .i64 (E:Nat),.int .i64 ((x.1-E:Nat):Int)] 225)).heap[wr.heap.size+1]?=some (.cells #[.int .i64 (E:Nat),.int .i64 ((x.1-E:Nat):Int)] 225 (0,0)):=by
     have:=wN (wr.alloc (.cells #[.int .i64 (x.1:Nat),.int .i64 (x.2:Nat)] 225)) (.cells #[.int .i64 (E:Nat),.int .i64 ((x.1-E:Nat):Int)] 225)
     rwa [show (wr.alloc (.cells #[.int .i64 (x.1:Nat),.int .i64 (x.2:Nat)] 225)).heap.size=wr.heap.size+1 by simp] at this
    have HA:=sE hA
    have HB:=sE hB
    clear HT hgl' hA hB
    go_wp2_with (at_builtin;obtain ⟨i0,hi,hz0,hz1,hz2⟩:=info_parts infoRun;go_loud (refine wpList_append_lies _ rfl (.tmp 34) (.tmp 41) 163 rfl w2.heap.size 225 i0 _ 2 16 Cz hi hz0 hz1 hz2 rfl (by omega) (.slice qa gl qc) gl (Bt G) rfl ((HO.out.alloc _).alloc _) ⟨wr.heap.size+1,0,none⟩ 1 1 [.int .i64 (E:Nat),.int .i64 ((x.1-E:Nat):Int)] rfl rfl (World.news_of_block HB.out) (by intro u hu;simp at hu;rcases hu with rfl|rfl <;> rfl) (by omega) (by unfold maxLen;omega) (by omega) (by first|(simp;done)|(simp;omega)) (wr.heap.size+2) (by simp) ?_);intro gn3 capn3 w3 hown3 hgrow hat hlt3;clear hi hz0 hz1 hz2;have k3:Kp (λ k=>(Value.slice qa gl qc).ownBlock=some k) ((wr.alloc (.cells #[.int .i64 (x.1:Nat),.int .i64 (x.2:Nat)] 225)).alloc (.cells #[.int .i64 (E:Nat),.int .i64 ((x.1-E:Nat):Int)] 225)) w3:=(Kr _ _).grown hgrow (λ k e _=>e);have b3:=k3.at_ HA.out (λ h=>by have:=Af HO.out h;omega);have x9:w3.cell? ⟨wr.heap.size,0,none⟩=some (.int .i64 (x.1:Nat)):=(by simp[World.cell?,b3]);have x9':w3.cell? ⟨wr.heap.size,1,none⟩=some (.int .i64 (x.2:Nat)):=(by simp[World.cell?,b3]);have HR3:=sE hown3;have HK3:Sl (Kp Ab w2 w3):=⟨((HK.out.alloc _).alloc _).grown hgrow (λ k e hk=>by have:=(Af HO.out e).1;omega)⟩;clear hown3 hgrow hat k3 b3)
    refine⟨⟨j+1,by omega,by go_num,by rw[HE.out];go_num,?_,HK3.out⟩,by simp only[intOf];omega⟩
    rw[HT'.out,EM,List.length_append,HGl.out]
    exact HR3.out
   .have d1:decide ((E:Int)<(x.1:Int))=false:=dF (by omega)
    have HT':Sl (DT 0 (M.take (j+1))=G):=⟨by rw[HT.out,if_neg hlt,List.append_nil]⟩
    have hA:(wr.alloc (.cells #[.int .i64 (x.1:Nat),.int .i64 (x.2:Nat)] 225)).heap[wr.heap.size]?=some (.cells #[.int .i64 (x.1:Nat),.int .i64 (x.2:Nat)] 225 (0,0)):=wN wr _
    have z0:(wr.alloc (.cells #[.int .i64 (x.1:Nat),.int .i64 (x.2:Nat)] 225)).cell? ⟨wr.heap.size,0,none⟩=some (.int .i64 (x.1:Nat)):=by simp only[World.cell?,hA];rfl
    have z1:(wr.alloc (.cells #[.int .i64 (x.1:Nat),.int .i64 (x.2:Nat)] 225)).cell? ⟨wr.heap.size,1,none⟩=some (.int .i64 (x.2:Nat)):=by simp only[World.cell?,hA];rfl
    clear HT hA
    go_wp2_with fail
    refine⟨⟨j+1,by omega,by go_num,by rw[HE.out];go_num,?_,HK.out.alloc _⟩,by simp only[intOf];omega⟩
    rw[HT'.out]
    exact HO.out.alloc _
  .obtain rfl:j=l+1:=by omega
   have hwhole:M.take (l+1)=M:=List.take_of_length_le (by rw[HML.out];exact Nat.le_refl _)
   rw[hwhole,<- HWt.out] at HO
   obtain⟨qa,qc,rfl⟩:=AA HO.out
   have HOe:=sE (Bp HO.out HK2.out.size)
   have HKe:=sE (HK2.out.then' HK.out)
   clear HO HK hwhole
   go_wp2_with fail
   exact bodyPost_ret (v:=.tuple #[.slice qa (BZ 0 L H).length qc,.int .i64 0]) (by simp[results,results92,go_sem]) rfl ⟨qa,qc,rfl,HOe.out,HKe.out⟩

theorem inL_take{rs:List Nat}{m r g:Nat}(h:rs[m]?=some r):De (rs.take (m+1)) g=(De (rs.take m) g||(r==g)):=by
 rw[Bool.eq_iff_iff,Bool.or_eq_true,DU,DU,BR h,List.mem_append,List.mem_singleton,beq_iff_eq]
 exact or_congr Iff.rfl eq_comm

end

section
open Go.RowKit

theorem RunR.back1{P:Sp}{dd gg ii nn:Nat->Int}{W0:Nat->Nat}{cs0:List Cel}{j:Nat}{W:Nat->Nat}{cs:List Cel}(h:RunR P dd gg ii nn W0 cs0 (j+1) W cs):∃ W1 cs1,RunR P dd gg ii nn W0 cs0 j W1 cs1/\StepR P W1 cs1 (dd j) (gg j) (ii j) (nn j) W cs:=by
 cases h with
 |succ h1 h2=>exact ⟨_,_,h1,h2⟩

theorem RunR.start1{P:Sp}{dd gg ii nn:Nat->Int}{W0:Nat->Nat}{cs0:List Cel}{W:Nat->Nat}{cs:List Cel}(h:RunR P dd gg ii nn W0 cs0 0 W cs):W=W0/\cs=cs0:=by
 cases h with
 |zero=>exact ⟨rfl,rfl⟩

theorem put_mid{P:Sp}{W W':Nat->Nat}{cs' pre post:List Cel}{x:Cel}{H j a l S:Nat}(h:PutStep P W (pre++x::post) (j:Nat) (a:Nat) (l:Nat) W' cs')(ht:Au 0 (pre++x::post) H)(h1:x.g<=j)(h2:j<x.fin)(hR:DX P.ts (P.n/2) (pre++x::post) (j:Nat) (a:Nat) (l:Nat)=0)(hS:Bq P.ts (a:Nat) (l:Nat)=(S:Nat)):
  W'=putW W x j a l S/\cs'=putL pre x post j a l S:=by
 rcases h with ⟨h,-⟩|⟨-,pre',c,post',j',a',l',S',e1,e2,e3,e4,e5,e6,q1,q2,q3,e7,e8⟩
 .exact absurd hR h
 .obtain rfl:j'=j:=by omega
  obtain rfl:a'=a:=by omega
  obtain rfl:l'=l:=by omega
  obtain rfl:S'=S:=by omega
  obtain⟨rfl,rfl,rfl⟩:=split_uniq ht e1 h1 h2 q1 (by omega)
  exact⟨e7,e8⟩

def Dv:List Cel:=[⟨0,2,0,0,1⟩,⟨1,1,1,3,2⟩,⟨3,1,1,3,2⟩,⟨5,2,0,0,1⟩,⟨6,1,1,3,2⟩]

theorem puts21{P:Sp}(ht:P.ts=alT)(hn:P.n=16){dd ii nn:Nat->Int}(hd:dd 0=0/\dd 1=0/\dd 2=0)(hi:ii 0=1/\ii 1=1/\ii 2=1)(hl:nn 0=3/\nn 1=3/\nn 2=3){gg:Nat->Int}(hg:gg 0=1/\gg 1=3/\gg 2=6){W:Nat->Nat}{cs:List Cel}(h:RunR P dd gg ii nn (AZ (λ _=>0) 0 (16/2)) (gapL 0 (16/2)) 3 W cs):cs=Dv/\W 4=0/\W 3=0/\∀ k∈[3,4,5,7,8,9,13,14,15],W k=0:=by
 obtain⟨W2,cs2,h2,s2⟩:=h.back1
 obtain⟨W1,cs1,h1,s1⟩:=h2.back1
 obtain⟨W0,cs0,h0,s0⟩:=h1.back1
 obtain⟨rfl,rfl⟩:=h0.start1
 obtain⟨d0,d1,d2⟩:=hd
 obtain⟨i0,i1,i2⟩:=hi
 obtain⟨l0,l1,l2⟩:=hl
 obtain⟨g0,g1,g2⟩:=hg
 have p0:=s0.1 d0
 have p1:=s1.1 d1
 have p2:=s2.1 d2
 rw[i0,l0,g0] at p0
 rw[i1,l1,g1] at p1
 rw[i2,l2,g2] at p2
 obtain⟨e0,rfl⟩:=put_mid (pre:=[]) (x:=⟨0,3,0,0,8⟩) (post:=[]) (H:=8) (j:=1) (a:=1) (l:=3) (S:=2) p0 ⟨rfl,by decide,rfl⟩ (by decide) (by decide) (by rw[ht,hn];decide +kernel) (by rw[ht];decide +kernel)
 obtain⟨e1,rfl⟩:=put_mid (pre:=[⟨0,2,0,0,1⟩,⟨1,1,1,3,2⟩]) (x:=⟨3,3,0,0,5⟩) (post:=[]) (H:=8) (j:=3) (a:=1) (l:=3) (S:=2) p1 ⟨rfl,by decide,rfl,by decide,rfl,by decide,rfl⟩ (by decide) (by decide) (by rw[ht,hn];decide +kernel) (by rw[ht];decide +kernel)
 obtain⟨e2,rfl⟩:=put_mid (pre:=[⟨0,2,0,0,1⟩,⟨1,1,1,3,2⟩,⟨3,1,1,3,2⟩]) (x:=⟨5,3,0,0,3⟩) (post:=[]) (H:=8) (j:=6) (a:=1) (l:=3) (S:=2) p2 ⟨rfl,by decide,rfl,by decide,rfl,by decide,rfl,by decide,rfl⟩ (by decide) (by decide) (by rw[ht,hn];decide +kernel) (by rw[ht];decide +kernel)
 refine⟨by decide +kernel,?_,?_,?_⟩
 .rw [e2,e1,e0]
  decide +kernel
 .rw [e2,e1,e0]
  decide +kernel
 .rw [e2,e1,e0]
  decide +kernel

end

end Go.Proofs.YtmfajopmppfldaaGreatDoor
