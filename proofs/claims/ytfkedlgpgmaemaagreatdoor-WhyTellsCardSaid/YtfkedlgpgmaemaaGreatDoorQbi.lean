/-
  Lemmas for the laws, together: WhyS.
-/
import Derived.Test.YtfkedlgpgmaemaaGreatDoorQam
import Derived.Test.YtfkedlgpgmaemaaGreatDoorShelf
import Derived.Shelf.SlSortCmp.WholeK
import Derived.Sort.OwnSortedInts
import Derived.Shelf.SlSortCmp.NoneTotal
set_option linter.unusedVariables false
set_option maxHeartbeats 16000000
namespace Go.Proofs.YtfkedlgpgmaemaaGreatDoor
open Tryz
section
open Go.RowKit Go.Sort Go.Shelf

abbrev Gl:=Fin 65536×Nat

def encD(x:Gl):List Value:=[x.1.val,x.2]

theorem encD_len(x:Gl):(encD x).length=2:=rfl

theorem encD_one(x:Gl):∀ v∈encD x,v.oneCell'=true:=by
 intro v hv
 simp[encD] at hv
 rcases hv with rfl|rfl <;> rfl

def Gj(L:List Gl):List Value:=L.flatMap encD

theorem Gs:∀ (xs:List Gl),(Gj xs).length=xs.length*2
 |[]=>rfl
 |x::xs=>by
  have:=Gs xs
  unfold Gj at this ⊢
  rw[List.flatMap_cons,List.length_append,this,encD_len]
  simp only[List.length_cons]
  omega

theorem flatD_at:∀ (xs:List Gl) (i:Nat) (x:Gl),xs[i]?=some x->(Gj xs)[i*2]?=some (.int .i64 x.1.val)/\(Gj xs)[i*2+1]?=some (.int .i64 x.2)
 |[],i,x,h=>by simp at h
 |y::xs,0,x,h=>by
  simp at h
  subst h
  exact⟨rfl,rfl⟩
 |y::xs,i+1,x,h=>by
  have h2:xs[i]?=some x:=by simpa using h
  obtain⟨h3,h4⟩:=flatD_at xs i x h2
  rw[show (i+1)*2=(i*2+1+1) by omega]
  exact⟨h3,h4⟩

theorem flatKD_at(L:List Gl)(t:Nat)(h:t<L.length*2):(Go.Sort.flatK encD 2 L.toArray)[t]! =((Gj L)[t]?).getD default:=by
 rw[Go.Sort.get_flatK _ _ _ _ (by simpa using h)]
 obtain⟨i,c,rfl,hc⟩:∃ i c,t=i*2+c/\c<2:=⟨t/2,t%2,by omega,by omega⟩
 have hi:i<L.length:=by omega
 obtain⟨a0,a1⟩:=flatD_at L i _ (List.getElem?_eq_getElem hi)
 rw[show (i*2+c)/2=i by omega,show (i*2+c)%2=c by omega]
 have hd:L.toArray[i]! =L[i]:=by simp[hi]
 rw[hd]
 have:c=0\/c=1:=by omega
 rcases this with rfl|rfl
 .rw [Nat.add_zero,a0]
  rfl
 .rw [a1]
  rfl

theorem flatD_eq(L:List Gl):Go.Sort.flatK encD 2 L.toArray=(Gj L).toArray:=by
 refine Array.ext (by simp[Gs]) λ t h1 h2=>?_
 have ht:t<L.length*2:=by simpa using h1
 have:=flatKD_at L t ht
 rw[getElem!_pos _ t h1,List.getElem?_eq_getElem (by rw[Gs];exact ht)] at this
 rw[this]
 rfl

theorem holdsD_of_block{w:World}{g:Nat}{cur:Array Value}{e:TypeId}{L:List Gl}(hb:w.heap[g]?=some (.cells cur e (0,0)))(ht:cur.toList.take (L.length*2)=Gj L):Go.Sort.HoldsK encD 2 w g 0 L.toArray:=by
 unfold Go.Sort.HoldsK
 rw[flatD_eq]
 intro j hj
 have hj':j<L.length*2:=by simpa [Gs] using hj
 refine⟨?_,by simp[World.frozen?,hb]⟩
 have h1:(cur.toList.take (L.length*2))[j]?=(Gj L)[j]?:=by rw[ht]
 rw[List.getElem?_take_of_lt hj'] at h1
 simp only[World.cell?,hb,Nat.zero_add]
 simp only[Option.isSome_none,Bool.false_eq_true,if_false]
 rw[<- Array.getElem?_toList,h1,List.getElem?_eq_getElem (by rw[Gs];exact hj')]
 have:j<(Gj L).length:=by rw[Gs];exact hj'
 simp[this]

theorem heap_sortedD{w:World}{g n:Nat}{os:Array Obj}{cur:Array Value}{e:TypeId}{fr:Nat×Nat}(d:Array Value)(hb:w.heap[g]?=some (.cells cur e fr)):
  (grow (putRow id (Sort.ahead w n) g 0 d) os).heap[g]?=some (.cells (putCells id 0 d cur) e fr):=by
 have hg:g<w.heap.size:=(Array.getElem?_eq_some_iff.1 hb).1
 rw[heap_grow_old _ _ (by simpa using hg)]
 simp[putRow,mapBlock,Sort.ahead,Array.getElem?_modify,hb,onCells]

theorem grownBy_sortedD{w:World}{g n:Nat}{os:Array Obj}(d:Array Value):w.grownBy (grow (putRow id (Sort.ahead w n) g 0 d) os) (some g):=by
 refine⟨rfl,rfl,rfl,by simp,λ k hk hne=>?_⟩
 rw[heap_grow_old _ _ (by simpa using hk)]
 have:g≠k:=λ e=>hne (by rw[e])
 simp[putRow,mapBlock,Sort.ahead,Array.getElem?_modify,this]

theorem take_putCellsD(cur:Array Value)(ts:List Value)(h:ts.length<=cur.size):(putCells id 0 ts.toArray cur).toList.take ts.length=ts:=by
 apply List.ext_getElem?
 intro j
 by_cases hj:j<ts.length
 .rw [List.getElem?_take_of_lt hj,Array.getElem?_toList]
  simp[putCells,hj,show j<cur.size by omega]
 .rw [List.getElem?_take_eq_none (by omega),List.getElem?_eq_none (by omega)]

theorem owns_sortedD{w:World}{base g cap n:Nat}{e:TypeId}{os:Array Obj}{cur:Array Value}{L M:List Gl}(hl:M.length=L.length)(hbase:base<=g)(hb:w.heap[g]?=some (.cells cur e (0,0)))
  (h1:L.length<=cap) (h2:cap<=maxLen) (h3:cur.size=cap*2):
  (Go.Proofs.sortWorldK encD 2 w g 0 n M.toArray os).ownsRow base e 2 (.slice (some ⟨g,0,none⟩) L.length cap) L.length (Gj M):=by
 unfold Go.Proofs.sortWorldK Go.Sort.putRowK
 rw[flatD_eq]
 refine⟨by rw[Gs,hl],.inr ⟨g,cap,_,rfl,hbase,heap_sortedD _ hb,h1,h2,by simp[putCells,h3],?_⟩⟩
 have:=take_putCellsD cur (Gj M) (by rw[Gs];omega)
 rw[Gs,hl] at this
 exact this

def cmpD(x y:Gl):Int:=(x.1.val:Int)-(y.1.val:Int)

theorem ltD(x y:Gl):Go.Proofs.ltOf cmpD x y=decide (x.1.val<y.1.val):=by
 unfold Go.Proofs.ltOf cmpD
 by_cases h1:x.1.val<y.1.val
 .simp [h1]
  omega
 .simp [h1]
  omega

theorem swoD:SWO (Go.Proofs.ltOf cmpD) where
 irrefl x:=by rw[ltD];simp
 trans x y z h1 h2:=by rw[ltD] at *;simp at *;omega
 ntrans x y z h1 h2:=by rw[ltD] at *;simp at *;omega

theorem permD{d d':Array Gl}(h:PermIn 0 d.size d d'):d'.toList.Perm d.toList:=by
 have h1:=h.2.2
 have e1:d'.extract 0 d.size=d':=by rw[<- h.1];simp
 have e2:d.extract 0 d.size=d:=by simp
 rwa [e1,e2] at h1

theorem sortedD{d':Array Gl}{n:Nat}(hn:d'.size=n)(h:SortedIn (Go.Proofs.ltOf cmpD) 0 n d'):d'.toList.Pairwise λ a b=>a.1.val<=b.1.val:=by
 rw[List.pairwise_iff_getElem]
 intro i j hi hj hij
 have:=h i j (Nat.zero_le _) hij (by rw[<- hn];simpa using hj)
 rw[ltD] at this
 have h2:=of_decide_eq_false this
 have e1:d'[i]! =d'.toList[i]:=by
  rw[getElem!_pos d' i (by simpa using hi)]
  simp
 have e2:d'[j]! =d'.toList[j]:=by
  rw[getElem!_pos d' j (by simpa using hj)]
  simp
 rw[e1,e2] at h2
 omega

theorem ByD_at(x y:Gl)(w:World):
  Calls prog 85 #[.agg #[x.1.val,x.2],.agg #[y.1.val,y.2]] w λ e w'=>e=.returned (.int .i64 (cmpD x y))/\∃ q os',w'=Go.Sort.grow (w.drewN q) os':=by
 obtain⟨a,ha⟩:∃ a,x.1.val=a:=⟨_,rfl⟩
 obtain⟨b,hb⟩:∃ b,y.1.val=b:=⟨_,rfl⟩
 have h1:a<65536:=by rw[<- ha];exact x.1.isLt
 have h2:b<65536:=by rw[<- hb];exact y.1.isLt
 unfold cmpD
 rw[ha,hb]
 obtain⟨w1,hw1⟩:∃ w1,w1=w.alloc (.cells #[.int .i64 (a:Nat),x.2] 99):=⟨_,rfl⟩
 obtain⟨w2,hw2⟩:∃ w2,w2=w1.alloc (.cells #[.int .i64 (b:Nat),y.2] 99):=⟨_,rfl⟩
 have k2:Kp Aa w1 w2:=by rw[hw2];exact (Kr _ w1).alloc _
 have b1:w1.heap[w.heap.size]?=some (.cells #[.int .i64 (a:Nat),x.2] 99 (0,0)):=by rw[hw1];exact wN w _
 have b2:w2.heap[w1.heap.size]?=some (.cells #[.int .i64 (b:Nat),y.2] 99 (0,0)):=by rw[hw2];exact wN w1 _
 have z1:w1.heap.size=w.heap.size+1:=by rw[hw1];simp
 rw[z1] at b2
 have b1':=k2.at_ b1 id
 have x0:w2.cell? w.heap.size=some (.int .i64 (a:Nat)):=by simp[World.cell?,b1']
 have y0:w2.cell? ⟨w.heap.size+1,0,none⟩=some (.int .i64 (b:Nat)):=by simp[World.cell?,b2]
 have HW:Sl (∃ os,w2=Go.Sort.grow w os):=⟨⟨#[.cells #[.int .i64 (a:Nat),x.2] 99,.cells #[.int .i64 (b:Nat),y.2] 99],by rw[hw2,hw1];rfl⟩⟩
 have e1:IntKind.i64.wrap ((a:Int)-(b:Int))=(a:Int)-(b:Int):=by rw[IntKind.wrap_i64];omega
 clear b1 b2 b1' k2 z1 ha hb
 go_enter func85,ntmps85
 go_wp2_with fail
 try rw[<- hw1,<- hw2]
 clear hw1 hw2
 go_wp2
 go_ret
 obtain⟨os,hos⟩:=HW.o
 exact⟨rfl,0,os,hos⟩

theorem SortDists_at(base:Nat)(v:Value)(L:List Gl)(w:World)(ho:w.ownsRow base 99 2 v L.length (Gj L))(hl:L.length<=65536):
  Calls prog 84 #[v,.func (.func 85) #[] #[]] w λ e w'=>
   e=.returned (.tuple #[])/\∃ M:List Gl,M.Perm L/\M.Pairwise (λ a b=>a.1.val<=b.1.val)/\w'.ownsRow base 99 2 v M.length (Gj M)/\Kp (λ k=>v.ownBlock=some k) w w':=by
 rcases ho.2 with ⟨rfl,h0⟩|⟨g,cap,cur,rfl,h2,h3,h4,h5,h6,h7⟩
 .have hL:=List.length_eq_zero_iff.1 h0
  subst hL
  refine(Go.Proofs.AnyF.slices_SortFunc_none sortDists none 0 _ w).mono ?_
  rintro e w' ⟨rfl,rfl⟩
  exact⟨rfl,[],List.Perm.refl _,List.Pairwise.nil,ho,Kr _ _⟩
 .have eg:∀ args w,(callFunc 85 args).run prog w=.ok (.enter 85 args) w:=enters_of func85 (by kernel_rfl) rfl
  have hcmp:Go.Proofs.CmpLays prog 85 #[] encD 2 cmpD g 0 L.toArray.size w:=λ m os dk hs x y=>ByD_at x y _
  have hH:=holdsD_of_block h3 h7
  have hcon:=Go.Proofs.AnyQ.slices_SortFunc sortDists 2 isAgg99 sizeOf99 encD encD_len encD_one cmpD swoD 85 #[] g 0 cap L.toArray w eg hcmp hH (lZ h3) (by simp;omega)
  refine hcon.mono ?_
  rintro e w' ⟨rfl,d',n,os,hp,hs,rfl⟩
  have hsz:d'.toList.length=L.length:=by have:=hp.1;simpa using this
  refine⟨rfl,d'.toList,by simpa using permD hp,sortedD (by simpa using hsz) (by simpa using hs),?_,?_⟩
  .rw [hsz]
   have:=owns_sortedD (n:=n) (os:=os) (M:=d'.toList) hsz h2 h3 h4 h5 h6
   simpa using this
  .exact ((Kr (λ k=>k=g) w).grown (grownBy_sortedD _) (λ k e _=>by injection e with e;exact e.symm)).mono λ i _ h=>by subst h;rfl

end

end Go.Proofs.YtfkedlgpgmaemaaGreatDoor
