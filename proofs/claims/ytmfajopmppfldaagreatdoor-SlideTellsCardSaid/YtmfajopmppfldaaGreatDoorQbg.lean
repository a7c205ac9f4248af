/-
  Lemmas for the laws, together: PlanG, PlanBools, PlanAl, PlanArgs.
-/
import Derived.Test.YtmfajopmppfldaaGreatDoorQbc
import Derived.Test.YtmfajopmppfldaaGreatDoorQaz
import Derived.Test.YtmfajopmppfldaaGreatDoorQbf
import Derived.Test.YtmfajopmppfldaaGreatDoorQay
import Derived.Test.YtmfajopmppfldaaGreatDoorQav
import Derived.Test.YtmfajopmppfldaaGreatDoorQbb
import Derived.Test.YtmfajopmppfldaaGreatDoorQas
set_option linter.unusedVariables false
set_option maxHeartbeats 16000000
namespace Go.Proofs.YtmfajopmppfldaaGreatDoor
open Go.Proofs.Tryz
section
open Go.RowKit

def RowH(w:World)(v:Value)(es:List (Int×Int×Int)):Prop:=
 ∃ a cap,v=.slice a es.length cap/\∀ i x,es[i]?=some x->∃ b o,a=some ⟨b,o,none⟩/\b<w.heap.size/\
  w.cell? ⟨b,o+i*3,none⟩=some (.int .i64 x.1)/\w.cell? ⟨b,o+i*3+1,none⟩=some (.int .i64 x.2.1)/\w.cell? ⟨b,o+i*3+2,none⟩=some (.int .i64 x.2.2)

theorem RowH.Ad{w w':World}{v:Value}{es:List (Int×Int×Int)}(h:RowH w v es)(k:Kp Ab w w'):RowH w' v es:=by
 obtain⟨a,cap,rfl,h⟩:=h
 refine⟨a,cap,rfl,λ i x hi=>?_⟩
 obtain⟨b,o,rfl,h1,h2,h3,h4⟩:=h i x hi
 exact⟨b,o,rfl,Nat.lt_of_lt_of_le h1 k.size,k.cell h2 (λ h=>h),k.cell h3 (λ h=>h),k.cell h4 (λ h=>h)⟩

def FB(es:List (Nat×Nat×Nat)):List (Int×Int×Int):=es.map λ x=>((x.1:Int),(x.2.1:Int),(x.2.2:Int))

theorem Du.rowH{w:World}{v:Value}{es:List (Nat×Nat×Nat)}(h:Du w v es):RowH w v (FB es):=by
 obtain⟨a,cap,rfl,h⟩:=h
 refine⟨a,cap,by rw[FB,List.length_map],λ i x hi=>?_⟩
 rw[FB,List.getElem?_map] at hi
 obtain⟨y,hy,rfl⟩:=Option.map_eq_some_iff.1 hi
 exact h i y hy

theorem take_snoc'{α:Type}{L:List α}{j:Nat}{x:α}(h:L[j]?=some x):L.take (j+1)=L.take j++[x]:=by
 rw[List.take_add_one,h]
 rfl

def Bz(es:List (Int×Int×Int))(g:Nat):Bool:=es.any λ x=>decide (x.2.1<=(g:Int)/\(g:Int)-x.2.1<x.2.2)

theorem takenS_take{es:List (Int×Int×Int)}{j:Nat}{x:Int×Int×Int}(h:es[j]?=some x)(g:Nat):Bz (es.take (j+1)) g=(Bz (es.take j) g||decide (x.2.1<=(g:Int)/\(g:Int)-x.2.1<x.2.2)):=by
 unfold Bz
 rw[take_snoc' h,List.any_append]
 simp

end

section
open Go.RowKit

theorem infoBool:(prog.info? 4).map (λ i=>(i.zero,i.size,i.bytes))=some (some (.bool false),1,1):=by kernel_rfl

theorem underlyingBools:prog.underlying 145=some (.slice 4):=by kernel_rfl

def Cq(w:World)(g H:Nat)(f:Nat->Bool):Prop:=∃ cs,w.heap[g]?=some (.cells cs 4 (0,0))/\H<=cs.size/\∀ j,j<H->cs[j]?=some (.bool (f j))

theorem Cq.keep{S:Nat->Prop}{w w':World}{g H:Nat}{f:Nat->Bool}(h:Cq w g H f)(k:Kp S w w')(hg:¬ S g):Cq w' g H f:=by
 obtain⟨cs,h1,h2,h3⟩:=h
 exact⟨cs,k.at_ h1 hg,h2,h3⟩

theorem Cq.bit{w:World}{g H:Nat}{f:Nat->Bool}(h:Cq w g H f){j:Nat}(hj:j<H):w.cell? ⟨g,j,none⟩=some (.bool (f j)):=by
 obtain⟨cs,h1,h2,h3⟩:=h
 simp only[World.cell?,h1]
 exact h3 j hj

theorem Cq.free{w:World}{g H:Nat}{f:Nat->Bool}(h:Cq w g H f)(j:Nat):w.frozen? ⟨g,j,none⟩=false:=by
 obtain⟨cs,h1,h2,h3⟩:=h
 exact Ae h1 j

theorem Cq.store{w:World}{g H:Nat}{f f':Nat->Bool}(h:Cq w g H f){j:Nat}(hf:∀ i,i<H->f' i=(f i||decide (i=j))):Cq (w.setCell ⟨g,j,none⟩ (.bool true)) g H f':=by
 obtain⟨cs,h1,h2,h3⟩:=h
 refine⟨_,bZ h1 _,by simpa using h2,λ i hi=>?_⟩
 rw[Array.getElem?_setIfInBounds,hf i hi]
 by_cases e:j=i
 .subst e
  rw[if_pos rfl,if_pos (by omega)]
  simp
 .rw [if_neg e,h3 i hi]
  have:¬ i=j:=λ h=>e h.symm
  simp[this]

theorem MakeBools(w:World)(H:Nat)(hH:H<=65536):∃ w',(Instr.makeSlice 145 (.int .i64 (H:Nat)) (.int .i64 (H:Nat))).run prog w=.ok (.slice (some ⟨w.heap.size,0,none⟩) H H) w'/\Cq w' w.heap.size H (λ _=>false)/\Kp Ab w w':=by
 obtain⟨i0,hi,hz0,hz1,hz2⟩:=info_parts infoBool
 have h:=run_makeSlice (P:=prog) (w:=w) 145 4 i0 (.bool false) underlyingBools hi hz0 .i64 .i64 (H:Nat) (H:Nat) (by omega) (by omega) (by rw[hz1];omega) (by rw[hz2];omega) (by omega)
 simp only[Int.toNat_natCast] at h
 refine⟨_,h,⟨_,wN w _,?_,λ j hj=>?_⟩,(Kr _ w).alloc _⟩
 .rw [hz1,<- Array.length_toList,show (Value.bool false).cells=#[Value.bool false] from rfl,toList_madeCells_one,List.length_replicate]
  omega
 .rw [hz1,<- Array.getElem?_toList,show (Value.bool false).cells=#[Value.bool false] from rfl,toList_madeCells_one,List.getElem?_replicate,if_pos (by omega)]

structure SlOk(ms ps:List Nat)(L:List (Nat×Nat×Nat))(H j:Nat)(x:Nat×Nat×Nat):Prop where
 le:x.2.1<=x.1
 pos:1<=x.2.2
 fit:x.1+x.2.2<=H
 pin:De ps x.1=true->x.2.1=x.1
 mark:De ps x.1=false->De ms x.1=true
 apart:∀ q,x.2.1<=q->q<x.2.1+x.2.2->fullF (L.take j) q=false
 last:∀ last,LastIs (De ps) L j last->De ps x.1=false->last<(x.2.1:Int)
 up:∀ i y,i<j->L[i]?=some y->y.1<x.1

theorem slides_ok{cs:List Cel}{ms ps:List Nat}{H j:Nat}{x:Nat×Nat×Nat}(ht:Au 0 cs H)(hm:∀ g∈ms,CX cs g)(hp:∀ g∈ps,CX cs g)(hx:(BU cs ps (BQ (ms++ps)) H)[j]?=some x):SlOk ms ps (BU cs ps (BQ (ms++ps)) H) H j x:=by
 have hl:=EZ (ms++ps)
 have ho:∀ g∈BQ (ms++ps),CX cs g:=λ g hg=>by
  rcases List.mem_append.1 (Eg.1 hg) with h|h
  .exact hm g h
  .exact hp g h
 obtain⟨hf,hk⟩:=FJ (pins:=ps) ht hl ho
 have hr:=rowS_of ht hl ho
 have hxm:=List.mem_of_getElem? hx
 obtain⟨e1,e2,e3⟩:=hk.each x hxm
 have hxX:x.1∈BQ (ms++ps):=by
  rw[<- hf]
  exact List.mem_map.2 ⟨x,hxm,rfl⟩
 have hb:=hr.mem hxX
 refine⟨?_,by omega,by omega,e2,λ h=>?_,λ q h1 h2=>plan_apart ht hl ho hp hx h1 h2,λ last h h2=>h.lt ht hl ho hx h2,λ i y hi hy=>?_⟩
 .cases h:De ps x.1 with
  |true=>rw [e2 h];exact Nat.le_refl _
  |false=>exact (e3 h).2.1
 .rcases List.mem_append.1 (Eg.1 hxX) with h2|h2
  .exact DU.2 h2
  .rw [DU.2 h2] at h
   cases h
 .have hl2:=hl
  rw[<- hf,List.pairwise_map] at hl2
  obtain⟨q1,q2⟩:=gE.1 hy
  obtain⟨q3,q4⟩:=gE.1 hx
  have:=List.pairwise_iff_getElem.1 hl2 i j q1 q3 hi
  rw[q2,q4] at this
  exact this

end

section
open Go.RowKit

def Bits22Post(xs:List Nat)(n:Nat)(w:World)(e:Ending)(w':World):Prop:=
 ∃ p q f,e=.returned (.pointer (some ⟨p,0,none⟩))/\AJ w' p q f n/\(∀ t,t<n->f t=De xs t)/\w.heap.size<=p/\w.heap.size<=q/\Kp Ab w w'

theorem Bits22_at(xs:List Nat)(v:Value)(n:Nat)(w:World)(h:Bw w v xs)(hl:xs.length<=65536)(hn:n<=65536)(hx:∀ x∈xs,x<n):
  Calls prog 41 #[.int .i64 (n:Nat),v] w (Bits22Post xs n w):=by
 have HV:=sE h
 obtain⟨va,vc,rfl,-⟩:=h
 obtain⟨len,hlen⟩:∃ len,xs.length=len:=⟨_,rfl⟩
 rw[hlen] at HV hl ⊢
 have HL:=sE hlen
 have HXn:=sE hx
 have HNew:=sE (New_yes n w hn)
 clear hlen hx
 go_enter func41,ntmps41
 go_wp2_with fail
 refine HNew.out.mono ?_
 rintro e w2 ⟨p,q,rfl,hp,hq,hb2,k2⟩
 have HB2:=sE hb2
 have HK2:=sE k2
 clear hb2 k2 HNew
 go_wp2_with fail
 go_loopw [7] (λ y wr=>∃ (j:Nat) (f:Nat->Bool),j<=len/\y=.int .i64 (j:Nat)/\AJ wr p q f n/\(∀ t,t<n->f t=De (xs.take j) t)/\Kp (λ b=>b=q) w2 wr) (λ y _=>len-(intOf y).toNat)
 case atStart=>exact ⟨0,_,Nat.zero_le _,rfl,HB2.out,λ t _=>rfl,Kr _ _⟩
 case round=>
  obtain⟨j,f,hj,rfl,hb,hf,hk⟩:=hrel
  have HB:=sE hb
  have HF:=sE hf
  have HK:=sE hk
  have KN:Sl (Kp Ab w wr):=⟨(HK2.out.Ak _).trans hk (λ _ _ h=>h) |>.mono (λ k hk h=>by have h':k=q:=h;omega)⟩
  clear hb hf hk
  by_cases hjl:j<len
  .have hjl':(j:Int)<(len:Int):=by omega
   obtain⟨va',vc',e,hx⟩:=HV.out
   injection e with e1 e3 e2
   clear e3
   subst e1 e2
   obtain⟨y,hxj⟩:∃ y,xs[j]?=some y:=⟨_,List.getElem?_eq_getElem (by rw[HL.out];exact hjl)⟩
   obtain⟨bb,o,rfl,x0⟩:=hx j y hxj
   replace x0:=KN.out.cell x0 (λ h=>h)
   have hyn:=HXn.out y (List.mem_of_getElem? hxj)
   have HS:=sE (Set_yes y n p q f wr HB.out hyn)
   have HFn:Sl (∀ t,t<n->Em f y 1 true t=De (xs.take (j+1)) t):=⟨λ t ht=>by
    rw[inL_take (g:=t) hxj,<- HF.out t ht]
    unfold Em
    by_cases e:y=t
    .subst e
     simp
    .rw [if_neg (by omega)]
     simp[e]⟩
   clear hx hxj HF
   go_wp2_with fail
   refine HS.out.mono ?_
   rintro e w3 ⟨rfl,k3,hb3⟩
   have HB3:=sE hb3
   have HK3:=sE (HK.out.trans k3 (λ _ _ h=>h))
   clear hb3 k3 HS
   go_wp2_with fail
   exact⟨⟨j+1,_,by omega,by go_num,HB3.out,HFn.out,HK3.out⟩,by simp only[intOf];omega⟩
  .have hjl':¬ (j:Int)<(len:Int):=by omega
   have HFe:Sl (∀ t,t<n->f t=De xs t):=⟨λ u hu=>by
    have:=HF.out u hu
    rwa [List.take_of_length_le (by rw[HL.out];omega)] at this⟩
   go_wp2_with fail
   go_ret
   exact⟨p,q,f,rfl,HB.out,HFe.out,hp,hq,KN.out⟩

theorem up_ext:∀ {l l':List Nat},l.Pairwise (· <·)->l'.Pairwise (· <·)->(∀ g,g∈l ↔ g∈l')->l=l'
 |[],[],_,_,_=>rfl
 |[],y::ys,_,_,h=>by
  have:=(h y).2 List.mem_cons_self
  cases this
 |x::xs,[],_,_,h=>by
  have:=(h x).1 List.mem_cons_self
  cases this
 |x::xs,y::ys,h1,h2,h=>by
  obtain⟨a1,a2⟩:=List.pairwise_cons.1 h1
  obtain⟨b1,b2⟩:=List.pairwise_cons.1 h2
  have hx:x=y:=by
   rcases List.mem_cons.1 ((h x).1 List.mem_cons_self) with e|e
   .exact e
   .rcases List.mem_cons.1 ((h y).2 List.mem_cons_self) with e2|e2
    .exact e2.symm
    .have:=b1 x e
     have:=a1 y e2
     omega
  subst hx
  rw[up_ext a2 b2 λ g=>?_]
  constructor
  .intro hg
   rcases List.mem_cons.1 ((h g).1 (List.mem_cons_of_mem _ hg)) with e|e
   .have:=a1 g hg
    omega
   .exact e
  .intro hg
   rcases List.mem_cons.1 ((h g).2 (List.mem_cons_of_mem _ hg)) with e|e
   .have:=b1 g hg
    omega
   .exact e

theorem riseN_ext{xs ys:List Nat}(h:∀ g,g∈xs ↔ g∈ys):BQ xs=BQ ys:=
 up_ext (EZ xs) (EZ ys) λ g=>by rw[Eg,Eg,h]

theorem run_eq_shift(a b c a' b' c':Int)(w:World):(Op.equalIn 10000 43 (.agg #[.int .i64 a,.int .i64 b,.int .i64 c]) (.agg #[.int .i64 a',.int .i64 b',.int .i64 c'])).run prog w=.ok (a==a'&&(b==b'&&c==c')) w:=by
 have u3:=underlying3
 have a3:=isAgg3
 have z3:=sizeOf3
 have hS:prog.underlying 43=some (.struct (prog.fieldsOf 43)):=by kernel_rfl
 rw[show (10000:Nat)=9999+1 from rfl,run_equalIn_agg w 9999 43 _ _ hS (by kernel_rfl)]
 simp only[Program.fieldsOf,underlying43]
 go_simp
 by_cases h0:a=a' <;> by_cases h1:b=b' <;> by_cases h2:c=c' <;> simp[h0,h1,h2]

theorem run_neq_shift(a b c a' b' c':Int)(w:World):(binOp .neq 43 (.agg #[.int .i64 a,.int .i64 b,.int .i64 c]) (.agg #[.int .i64 a',.int .i64 b',.int .i64 c'])).run prog w=.ok (.bool (!(a==a'&&(b==b'&&c==c')))) w:=by
 rw[run_neq_struct,run_eq_shift];rfl

section

attribute [local go_sem ↓] run_neq_shift

end

end

section
open Go.RowKit

def pA22:List (Nat×Nat×Nat):=[(1,0,2),(3,3,2),(6,5,2)]

theorem nats136(w:World)(T:TypeId):Bw (w.alloc (.cells #[.int .i64 1,.int .i64 3,.int .i64 6] T)) (.slice (some ⟨w.heap.size,0,none⟩) 3 3) [1,3,6]:=⟨_,_,rfl,λ i x hi=>by
 have h1:i=0\/i=1\/i=2:=by have:=(gE.1 hi).1;simp at this;omega
 rcases h1 with rfl|rfl|rfl <;> (simp at hi;subst hi;exact ⟨w.heap.size,0,rfl,by simp only[World.cell?,wN w _];rfl⟩)⟩

theorem rowoA(w:World)(T:TypeId):Du (w.alloc (.cells #[.int .i64 1,.int .i64 0,.int .i64 2,.int .i64 3,.int .i64 3,.int .i64 2,.int .i64 6,.int .i64 5,.int .i64 2] T)) (.slice (some ⟨w.heap.size,0,none⟩) 3 3) pA22:=⟨_,_,rfl,λ i x hi=>by
 have h1:i=0\/i=1\/i=2:=by have:=(gE.1 hi).1;simp [pA22] at this;omega
 rcases h1 with rfl|rfl|rfl <;> (simp [pA22] at hi;subst hi;exact ⟨w.heap.size,0,rfl,lZ (wN w _),by simp only[World.cell?,wN w _];rfl,by simp only[World.cell?,wN w _];rfl,by simp only[World.cell?,wN w _];rfl⟩)⟩

end

section
open Go.RowKit Go.WideShapes Go.ChangeShapes Go.Deep

section
variable {H:Type} {enc:TypeId×Value->H} {P:Program}

theorem slice_len{w:World}{base:Nat}{sp:Nat->Bool}{held:Bool}{t e:TypeId}{v:Value}{d:DataW H}{ps:List MemPlace}(ht:P.underlying t=some (.slice e))(hB:1<=P.bytesOf e)(hv:∃ a len cap,v=.slice a len cap)(h:DataW.Trod enc P w base sp held t v d ps)(hw:∀ n∈d.weights P t,n<=reachBytes):
  ∃ a len cap,v=.slice a len cap/\len<=140737488355328:=by
 obtain⟨a,len,cap,rfl⟩:=hv
 obtain⟨fuel,h⟩:=h
 have hcs:(Value.slice a len cap).cells.toList=[.slice a len cap]:=rfl
 rw[hcs] at h
 rcases open_slice ht h with ⟨h0,-⟩|⟨a',len',cap',m,n,D,Pl,h1,h2,h3,h4,h5,h6,h7⟩
 .injection h0 with h0
  injection h0 with h0 h1 h2
  subst h0 h1 h2
  exact⟨_,_,_,rfl,by omega⟩
 .injection h1 with h1
  injection h1 with e1 e2 e3
  subst e1 e2 e3
  have hd:=congrArg Prod.fst h6
  dsimp only at hd
  have hm:len<=m:=by rw[h5];split <;> omega
  refine⟨_,_,_,rfl,?_⟩
  rw[hd] at hw
  have:=hw _ (by simp only[DataW.weights,ht];exact List.mem_cons_self)
  unfold reachBytes at this
  simp only[List.length_map,List.length_range] at this
  have h8:(len+(m-len))*1<=(len+(m-len))*P.bytesOf e:=Nat.mul_le_mul_left _ hB
  omega

theorem open_struct9{w:World}{base b0:Nat}{r:Reach}{sp:Nat->Bool}{held:Bool}{t:TypeId}{fs:Array Field}{v:Value}{d:DataW H}{ps:List MemPlace}(hs:P.underlying t=some (.struct fs))(hone:oneCellFields P fs=true)(hC:P.cellsOf t=fs.size)
  (hv:Value.okWide P w r b0 t v) (h:DataW.Trod enc P w base sp held t v d ps) (hw:∀ n∈d.weights P t,n<=reachBytes):
  ∃ cs:List Value,v=.agg cs.toArray/\cs.length=fs.size/\∀ (j:Nat) (f:Field),fs[j]?=some f->∃ u n y,cs[j]?=some u/\DataW.trod enc P w base sp held n f.type [u]=some y/\∀ m∈y.1.weights P f.type,m<=reachBytes:=by
 obtain⟨cs,rfl,hsz⟩:=okWide_struct hs hv
 obtain⟨l⟩:=cs
 obtain⟨fuel,hf⟩:=h
 obtain⟨ys,n',_,hx,_,hyl,hg⟩:=DataW.trod_struct hs hf
 have hl:l.length=fs.size:=by rw[<- hC];exact hsz
 refine⟨l,rfl,hl,λ j f hj=>?_⟩
 have hjl:j<fs.size:=(Array.getElem?_eq_some_iff.1 hj).1
 obtain⟨ho,hk⟩:=hone_of hone j _ hj
 have h8:=hg j _ hj
 rw[ho,hk] at h8
 have hcl:(Value.agg l.toArray).cells.toList=l:=by simp[Value.cells]
 rw[hcl] at h8
 have hone':(l.drop j).take 1=[l[j]'(by omega)]:=by rw[List.drop_eq_getElem_cons (by omega)];rfl
 rw[hone',List.getElem?_eq_getElem (by omega)] at h8
 refine⟨l[j]'(by omega),n',_,List.getElem?_eq_getElem (by omega),h8,λ k hk=>hw k ?_⟩
 have hd:=congrArg Prod.fst hx
 dsimp only at hd
 rw[hd]
 simp only[DataW.weights,hs]
 exact DataW.weights_mem_each (j:=j) (t:=f.type) (by simp[hj]) (by rw[List.getElem?_map,List.getElem?_eq_getElem (by omega)];rfl) k hk

theorem open_bytes9{w:World}{base:Nat}{held:Bool}{t e:TypeId}{v:Value}{d:DataW H}{ps:List MemPlace}(ht:P.underlying t=some (.slice e))(he:P.underlying e=some (.int .u8))(hc:P.cellsOf e=1)(hB:1<=P.bytesOf e)(hv:∃ a len cap,v=.slice a len cap)
  (h:DataW.Trod enc P w base (λ _=>true) held t v d ps) (hw:∀ n∈d.weights P t,n<=reachBytes):∃ (len:Nat) (f:Nat->Nat),BytesIn w v len f/\len<=140737488355328:=by
 obtain⟨len,f,hb⟩:=open_bytes8 ht he hc hv h
 obtain⟨a,l,c,e1,e2⟩:=slice_len ht hB hv h hw
 refine⟨len,f,hb,?_⟩
 obtain⟨a',c',e3,-⟩:=hb
 rw[e1] at e3
 injection e3 with _ e4
 omega

theorem trod_of_cell9{w:World}{base:Nat}{sp:Nat->Bool}{held:Bool}{t:TypeId}{a:Option Addr}{l c n:Nat}{y:DataW H×List MemPlace}(h:DataW.trod enc P w base sp held n t [.slice a l c]=some y):DataW.Trod enc P w base sp held t (.slice a l c) y.1 y.2:=⟨n,h⟩

theorem slice_of_trod9{w:World}{base:Nat}{sp:Nat->Bool}{held:Bool}{t e:TypeId}{u:Value}{n:Nat}{y:DataW H×List MemPlace}(ht:P.underlying t=some (.slice e))(h:DataW.trod enc P w base sp held n t [u]=some y):∃ a l c,u=.slice a l c:=by
 rcases open_slice ht h with ⟨h0,-⟩|⟨a',len',cap',m,n,D,Pl,h1,-⟩
 .injection h0 with h0
  exact⟨_,_,_,h0⟩
 .injection h1 with h1
  exact⟨_,_,_,h1⟩

theorem open_shifts{w:World}{base:Nat}{sp:Nat->Bool}{held:Bool}{t e:TypeId}{f0 f1 f2:Field}{v:Value}{d:DataW H}{ps:List MemPlace}(ht:P.underlying t=some (.slice e))(he:P.underlying e=some (.struct #[f0,f1,f2]))(hone:oneCellFields P #[f0,f1,f2]=true)(hC:P.cellsOf e=3)
  (hB:8<=P.bytesOf e) (h0:P.underlying f0.type=some (.int .i64)) (h1:P.underlying f1.type=some (.int .i64)) (h2:P.underlying f2.type=some (.int .i64)) (hv:∃ a len cap,v=.slice a len cap) (h:DataW.Trod enc P w base sp held t v d ps) (hw:∀ n∈d.weights P t,n<=reachBytes):
  ∃ es:List (Int×Int×Int),RowH w v es/\es.length<=17592186044416:=by
 obtain⟨len,V,⟨a,cap,rfl,hr⟩,hl,hf⟩:=open_rows ht he hone hC (by simp) hB hv h hw
 refine⟨(List.range len).map λ i=>(intV (V i 0),intV (V i 1),intV (V i 2)),⟨a,cap,by simp,λ i x hx=>?_⟩,by simpa using hl⟩
 have hi:i<len:=by have:=(gE.1 hx).1;simpa using this
 have hx':x=(intV (V i 0),intV (V i 1),intV (V i 2)):=by simp[hi] at hx;exact hx.symm
 subst hx'
 obtain⟨b,o,rfl,hb,hc⟩:=hr i hi
 obtain⟨n0,y0,g0,-⟩:=hf i hi 0 f0 rfl
 obtain⟨n1,y1,g1,-⟩:=hf i hi 1 f1 rfl
 obtain⟨n2,y2,g2,-⟩:=hf i hi 2 f2 rfl
 obtain⟨z0,e0,-,w0⟩:=DataW.trod_int h0 g0
 obtain⟨z1,e1,-,w1⟩:=DataW.trod_int h1 g1
 obtain⟨z2,e2,-,w2⟩:=DataW.trod_int h2 g2
 injection e0 with e0
 injection e1 with e1
 injection e2 with e2
 have c0:=hc 0 (by simp)
 have c1:=hc 1 (by simp)
 have c2:=hc 2 (by simp)
 rw[e0] at c0 ⊢
 rw[e1] at c1 ⊢
 rw[e2] at c2 ⊢
 refine⟨b,o,rfl,hb,c0,by rw[Nat.add_assoc];exact c1,?_⟩
 rw[Nat.add_assoc]
 exact c2

end

set_option maxRecDepth 20000 in
theorem open_plan{H:Type}{enc:TypeId×Value->H}{w:World}{base b0:Nat}{r:Reach}{sp:Nat->Bool}{held:Bool}{v:Value}{d:DataW H}{ps:List MemPlace}
  (hv:Value.okWide prog w r b0 33 v) (h:DataW.Trod enc prog w base sp held 33 v d ps) (hw:∀ n∈d.weights prog 33,n<=reachBytes):
  ∃ u es,v=.agg #[u]/\RowH w u es/\es.length<=17592186044416:=by
 obtain⟨cs,rfl,hl,hf⟩:=open_struct9 underlying33 (by kernel_rfl) (by kernel_rfl) hv h hw
 obtain⟨u0,n0,y0,c0,t0,w0⟩:=hf 0 _ rfl
 obtain⟨a1,l1,k1,rfl⟩:=slice_of_trod9 underlying31 t0
 obtain⟨es,hes⟩:=open_shifts underlying31 underlying43 (by kernel_rfl) (by kernel_rfl) (of_decide_eq_true (by kernel_rfl)) underlying3 underlying3 underlying3 ⟨_,_,_,rfl⟩ (trod_of_cell9 t0) w0
 have hcs:cs=[.slice a1 l1 k1]:=by
  have hl5:cs.length=1:=hl
  match cs,hl5,c0 with
  |[q0],_,c0=>
   injection c0 with c0
   subst c0
   rfl
 subst hcs
 exact⟨_,es,rfl,hes⟩

end

end Go.Proofs.YtmfajopmppfldaaGreatDoor
