/-
  Lemmas for the laws, together: CenR, CenB.
-/
import Derived.Test.YtfkedlgpgmaemaaGreatDoorQbs
import Derived.Test.YtfkedlgpgmaemaaGreatDoorQbk
import Derived.Test.YtfkedlgpgmaemaaGreatDoorQbe
set_option linter.unusedVariables false
set_option maxHeartbeats 16000000
namespace Go.Proofs.YtfkedlgpgmaemaaGreatDoor
open Tryz
section
open Go.RowKit

def FC{α:Type}(f:α->Nat):List α->Nat
 |[]=>0
 |x::l=>f x+FC f l

theorem sumB_app{α:Type}(f:α->Nat):∀ l m:List α,FC f (l++m)=FC f l+FC f m
 |[],m=>by simp[FC]
 |x::l,m=>by
  show f x+FC f (l++m)=f x+FC f l+FC f m
  rw[sumB_app f l m]
  omega

theorem sumB_perm{α:Type}{f:α->Nat}{l m:List α}(h:l.Perm m):FC f l=FC f m:=by
 induction h with
 |nil=>rfl
 |cons x _ ih=>
  show _+_=_+_
  rw[ih]
 |swap x y l=>
  show f y+(f x+FC f l)=f x+(f y+FC f l)
  omega
 |trans _ _ h1 h2=>exact h1.trans h2

theorem sumB_map{α β:Type}(f:β->Nat)(g:α->β):∀ l:List α,FC f (l.map g)=FC (λ x=>f (g x)) l
 |[]=>rfl
 |x::l=>by
  show f (g x)+_=f (g x)+_
  rw[sumB_map f g l]

theorem sumB_congr{α:Type}{f g:α->Nat}:∀ {l:List α},(∀ x∈l,f x=g x)->FC f l=FC g l
 |[],_=>rfl
 |x::l,h=>by
  show f x+_=g x+_
  rw[h x (List.mem_cons_self ..),sumB_congr λ y hy=>h y (List.mem_cons_of_mem _ hy)]

theorem sumB_take{α:Type}{f:α->Nat}{l:List α}{j:Nat}{x:α}(h:l[j]?=some x):FC f (l.take (j+1))=FC f (l.take j)+f x:=by
 rw[List.take_add_one,h,sumB_app]
 rfl

theorem sumB_le{α:Type}{f:α->Nat}{l:List α}(j:Nat):FC f (l.take j)<=FC f l:=by
 have h:=sumB_app f (l.take j) (l.drop j)
 rw[List.take_append_drop] at h
 omega

theorem sumB_one{f:Nat->Nat}(a c:Nat):∀ {ss:List Nat},ss.Nodup->a∈ss->FC (λ t=>f t+if a=t then c else 0) ss=FC f ss+c
 |[],_,h=>by cases h
 |s::ss,hn,h=>by
  have h1:¬ s∈ss:=(List.nodup_cons.1 hn).1
  have h2:=(List.nodup_cons.1 hn).2
  show(f s+if a=s then c else 0)+FC (λ t=>f t+if a=t then c else 0) ss=f s+FC f ss+c
  rcases List.mem_cons.1 h with rfl|h
  .rw [if_pos rfl,sumB_congr (g:=f) (λ t ht=>by rw[if_neg (λ e=>h1 (by rw[e];exact ht)),Nat.add_zero])]
   omega
  .rw [if_neg (λ e=>h1 (by rw[<- e];exact h)),sumB_one a c h2 h]
   omega

theorem sumB_zero{α:Type}:∀ l:List α,FC (λ _=>0) l=0
 |[]=>rfl
 |x::l=>by
  show 0+_=_
  rw[sumB_zero l]

theorem ofTy_cons(os:List Cel)(x:Nat)(S:List Nat)(t:Nat):EM os (x::S) t=(if (BK os x).ty=t then [x] else [])++EM os S t:=by
 unfold EM
 by_cases h:(BK os x).ty=t <;> simp[h]

theorem types_count{os:List Cel}{ss:List Nat}(hn:ss.Nodup):∀ {S:List Nat},(∀ x∈S,(BK os x).ty∈ss)->FC (λ t=>(EM os S t).length) ss=S.length
 |[],_=>sumB_zero ss
 |x::S,h=>by
  have ih:=types_count hn (S:=S) λ y hy=>h y (List.mem_cons_of_mem _ hy)
  rw[sumB_congr (g:=λ t=>(EM os S t).length+if (BK os x).ty=t then 1 else 0) (λ t _=>by
   rw[ofTy_cons,List.length_append]
   split <;> simp[Nat.add_comm]),sumB_one _ _ hn (h x (List.mem_cons_self ..)),ih]
  rfl

theorem types_size{os:List Cel}{ss:List Nat}(hn:ss.Nodup):∀ {S:List Nat},(∀ x∈S,(BK os x).ty∈ss)->FC (λ t=>Bc os (EM os S t)) ss=Bc os S
 |[],_=>sumB_zero ss
 |x::S,h=>by
  have ih:=types_size hn (S:=S) λ y hy=>h y (List.mem_cons_of_mem _ hy)
  rw[sumB_congr (g:=λ t=>Bc os (EM os S t)+if (BK os x).ty=t then (BK os x).sz else 0) (λ t _=>by
   rw[ofTy_cons,Fx]
   split
   .show (BK os x).sz+0+_=_;omega
   .show 0+_=_;omega),sumB_one _ _ hn (h x (List.mem_cons_self ..)),ih]
  show _=(BK os x).sz+Bc os S
  omega

theorem types_all{os:List Cel}{S ss:List Nat}{M:List (Nat×Nat×Nat)}(hn:ss.Nodup)(hs:∀ t,t∈ss ↔ ∃ x∈S,(BK os x).ty=t)(hp:M.Perm (ss.map (rowS os S))):FC (λ r:Nat×Nat×Nat=>r.2.1) M=S.length/\FC (λ r:Nat×Nat×Nat=>r.2.2) M=Bc os S:=by
 have h1:∀ x∈S,(BK os x).ty∈ss:=λ x hx=>(hs _).2 ⟨x,hx,rfl⟩
 rw[sumB_perm hp,sumB_perm (f:=λ r:Nat×Nat×Nat=>r.2.2) hp,sumB_map,sumB_map]
 exact⟨types_count hn h1,types_size hn h1⟩

theorem filter_len{α:Type}(p:α->Bool):∀ l:List α,(l.filter p).length+(l.filter λ x=> !p x).length=l.length
 |[]=>rfl
 |x::l=>by
  have ih:=filter_len p l
  cases h:p x
  .rw [List.filter_cons_of_neg (by simp[h]),List.filter_cons_of_pos (by simp[h])]
   simp only[List.length_cons]
   omega
  .rw [List.filter_cons_of_pos (by simp[h]),List.filter_cons_of_neg (by simp[h])]
   simp only[List.length_cons]
   omega

theorem sizeL_map{os:List Cel}(hu:os.Pairwise λ c d=>c.g<d.g):∀ {l:List Cel},(∀ c∈l,c∈os)->Bc os (l.map Cel.g)=FC Cel.sz l
 |[],_=>rfl
 |c::l,h=>by
  show(BK os c.g).sz+Bc os (l.map Cel.g)=c.sz+FC Cel.sz l
  rw[celN_self hu (h c (List.mem_cons_self ..)),sizeL_map hu λ d hd=>h d (List.mem_cons_of_mem _ hd)]

theorem cS_objs:∀ cs:List Cel,FC Cel.sz (Ak cs)=cS 1 cs
 |[]=>rfl
 |c::cs=>by
  have ih:=cS_objs cs
  unfold Ak at ih ⊢
  show _=(if c.tag=1 then c.sz else 0)+cS 1 cs
  by_cases e:c.tag=1
  .rw [List.filter_cons_of_pos (by simp[e]),if_pos e]
   show c.sz+_=_
   rw[ih]
  .rw [List.filter_cons_of_neg (by simp[e]),if_neg e,ih]
   omega

theorem all_or_lost{cs:List Cel}(hu:(Ak cs).Pairwise λ c d=>c.g<d.g){fm:Nat->Bool}{H:Nat}(hH:∀ c∈Ak cs,c.g<H)(hf:∀ g,fm g=true->∃ c∈Ak cs,c.g=g):
  (Bb fm H).length+(FH (Ak cs) fm).length=cN 1 cs/\Bc (Ak cs) (Bb fm H)+Bc (Ak cs) (FH (Ak cs) fm)=cS 1 cs:=by
 have hp:=set_perm hu hH hf
 unfold FH
 constructor
 .rw [hp.length_eq,filter_len,List.length_map,cN_objs]
 .rw [sizeL_perm hp,<- sizeL_split,sizeL_map hu (λ c h=>h),cS_objs]

/-! who keeps whom -/

theorem filter_more{os:List Cel}{p q:Nat->Bool}{S:List Nat}{x:Nat}(h:∀ z∈S,q z=true->p z=true)(hx:x∈S)(hp:p x=true)(hq:q x=false):Bc os (S.filter q)+(BK os x).sz<=Bc os (S.filter p):=by
 have hs:=sizeL_split (os:=os) q (S.filter p)
 have e1:(S.filter p).filter q=S.filter q:=by
  rw[List.filter_filter]
  refine List.filter_congr λ z hz=>?_
  cases e:q z
  .rfl
  .rw [h z hz e];rfl
 have e2:=sizeL_mem (os:=os) (x:=x) (l:=(S.filter p).filter λ z=> !q z) (List.mem_filter.2 ⟨List.mem_filter.2 ⟨hx,hp⟩,by rw[hq];rfl⟩)
 rw[e1] at hs
 omega

section

variable {es:List (Nat×Nat×Nat)} {xs S:List Nat} {fm:Nat->Bool} {H:Nat}

theorem FE{Q l:List Nat}{g x:Nat}:x∈overL es xs Q g l ↔ x∈l/\¬ x=g/\g∈keptL es xs Q x:=by
 unfold overL
 rw[List.mem_filter,Bool.and_eq_true,decide_eq_true_eq]
 simp

theorem keeps_iff(hS:∀ x,x∈S ↔ AA es xs x){a c:Nat}:c∈keptL es xs S a ↔ FI es xs a c:=by
 rw[mem_keptL,hS]
 exact Iff.rfl

theorem over_chain(hS:∀ x,x∈S ↔ AA es xs x){g x y:Nat}(hx:x∈overL es xs S g S)(hy:y∈overL es xs S g S)(hne:¬ x=y):y∈overL es xs S x S\/x∈overL es xs S y S:=by
 rw[FE,keeps_iff hS] at hx hy
 rw[FE,FE,keeps_iff hS,keeps_iff hS]
 rcases FI.chain ((hS x).1 hx.1) ((hS y).1 hy.1) hx.2.2 hy.2.2 with h|h
 .exact .inr ⟨hx.1,hne,h⟩
 .exact .inl ⟨hy.1,λ e=>hne e.symm,h⟩

theorem over_more{os:List Cel}(hS:∀ x,x∈S ↔ AA es xs x){g x:Nat}(hx:x∈overL es xs S g S)(h0:0<(BK os x).sz):Bc os (keptL es xs S g)<Bc os (keptL es xs S x):=by
 rw[FE,keeps_iff hS] at hx
 obtain⟨h1,h2,h3⟩:=hx
 have hfg:∀ z,@decide (AQ es xs g z) (Classical.propDecidable _)=true ↔ AQ es xs g z:=λ z=>@decide_eq_true_iff _ (Classical.propDecidable _)
 have hfx:∀ z,@decide (AQ es xs x z) (Classical.propDecidable _)=true ↔ AQ es xs x z:=λ z=>@decide_eq_true_iff _ (Classical.propDecidable _)
 rw[keptL_eq hfg,keptL_eq hfx]
 have key:=filter_more (os:=os) (p:=λ z=> !@decide (AQ es xs x z) (Classical.propDecidable _)) (q:=λ z=> !@decide (AQ es xs g z) (Classical.propDecidable _)) (S:=S) (x:=x) (λ z hz hq=>by
  have hg:¬ AQ es xs g z:=by simpa using hq
  have:¬ AQ es xs x z:=(h3.trans ⟨(hS z).1 hz,hg⟩).2
  simpa using this) h1 (by
  have:¬ AQ es xs x x:=λ k=>k.ne rfl
  simpa using this) (by
  have:AQ es xs g x:=Classical.byContradiction λ k=>h2 (FI.anti h3 ⟨(hS x).1 h1,k⟩)
  simpa using this)
 omega

end

def FD(L:List (Nat×Nat×Nat))(a:Nat):Nat:=((L.filter λ r=>r.1==a).getLast?.map λ r=>r.2.2).getD 0

theorem lastV_step{L:List (Nat×Nat×Nat)}{j:Nat}{r:Nat×Nat×Nat}(h:L[j]?=some r)(a:Nat):FD (L.take (j+1)) a=if r.1=a then r.2.2 else FD (L.take j) a:=by
 unfold FD
 rw[List.take_add_one,h,List.filter_append]
 by_cases e:r.1=a
 .rw [if_pos e]
  simp[e]
 .rw [if_neg e]
  simp[e]

theorem lastV_keeps{os:List Cel}{es:List (Nat×Nat×Nat)}{xs S l:List Nat}{a:Nat}(h:a∈l):FD (keepsL os es xs S l) a=Bc os (keptL es xs S a):=by
 unfold FD
 have hm:(a,(BK os a).sz,Bc os (keptL es xs S a))∈(keepsL os es xs S l).filter λ r=>r.1==a:=List.mem_filter.2 ⟨List.mem_map.2 ⟨a,h,rfl⟩,by simp⟩
 have hne:(keepsL os es xs S l).filter (λ r=>r.1==a)≠[]:=List.ne_nil_of_mem hm
 rw[List.getLast?_eq_some_getLast hne]
 have hl:=List.getLast_mem hne
 obtain⟨h1,h2⟩:=List.mem_filter.1 hl
 obtain⟨z,hz,e⟩:=List.mem_map.1 h1
 have h3:z=a:=by
  have:=beq_iff_eq.1 h2
  rw[<- e] at this
  exact this
 rw[h3] at e
 simp only[Option.map_some,Option.getD_some]
 rw[<- e]

end

section
open Go.RowKit

theorem LHas_at(w:World)(a:Option Addr)(c:Nat)(l:List Nat)(x:Nat)(hx:Bz w (.slice a l.length c) l)(hl:l.length<=65536):
  Calls prog 35 #[.slice a l.length c,.int .i64 (x:Nat)] w λ e w'=>e=.returned (.bool (decide (x∈l)))/\Kp Aa w w':=by
 have HX:=sE hx
 obtain⟨n,hn⟩:∃ n,l.length=n:=⟨_,rfl⟩
 have HN:=sE hn
 rw[hn] at HX hl ⊢
 clear hx hn
 go_enter func35,ntmps35
 go_wp2_with fail
 go_loopw [5] (λ x5 wr=>∃ j:Nat,x5=.int .i64 (j:Nat)/\j<=n/\Sl (¬ x∈l.take j)/\Kp Aa w wr) (λ x5 _=>n-(intOf x5).toNat)
 case atStart=>exact ⟨0,rfl,Nat.zero_le _,⟨by simp⟩,Kr _ _⟩
 case round=>
  obtain⟨j,rfl,hj,HNo,hk⟩:=hrel
  by_cases hjl:j<n
  .have hjl':(j:Int)<(n:Int):=by omega
   obtain⟨y,hy⟩:∃ y,l[j]?=some y:=⟨l[j]'(by rw[HN.out];exact hjl),by simp⟩
   obtain⟨a',c',e,hcell⟩:=HX.out.Ad hk
   obtain⟨b,o,hb,y0⟩:=hcell j y hy
   have ha:a=some ⟨b,o,none⟩:=by injection e with h1;rw [h1];exact hb
   subst ha
   have HY:=sE hy
   clear e hcell hb hy
   by_cases hyx:y=x
   .have e1:((y:Int)==(x:Int))=true:=by rw[hyx];simp
    have HD:Sl (decide (x∈l)=true):=⟨dT (by rw[<- hyx];exact List.mem_of_getElem? HY.out)⟩
    clear hyx
    go_wp2
    go_ret
    exact⟨by rw[HD.out];rfl,hk⟩
   .have e1:((y:Int)==(x:Int))=false:=by rw[beq_eq_false_iff_ne];omega
    have HNo2:Sl (¬ x∈l.take (j+1)):=⟨by
     rw[List.take_add_one,HY.out,List.mem_append]
     rintro (h|h)
     .exact HNo.out h
     .have h2:x=y:=by simpa using h
      exact hyx h2.symm⟩
    clear hyx
    go_wp2
    exact⟨⟨j+1,by go_num,by omega,HNo2,hk⟩,by simp only[intOf];omega⟩
  .have hjl':¬ (j:Int)<(n:Int):=by omega
   have HD:Sl (decide (x∈l)=false):=⟨dF (by
    have:=HNo.out
    rwa [List.take_of_length_le (by rw[HN.out];omega)] at this)⟩
   go_wp2
   go_ret
   exact⟨by rw[HD.out];rfl,hk⟩

theorem LMore_at(w:World)(a:Option Addr)(c:Nat)(L:List (Nat×Nat×Nat))(x y:Nat)(hx:Df w (.slice a L.length c) (L.map toI))(hl:L.length<=65536):
  Calls prog 36 #[.slice a L.length c,.int .i64 (x:Nat),.int .i64 (y:Nat)] w λ e w'=>e=.returned (.bool (decide (FD L y<FD L x)))/\Kp Aa w w':=by
 have HX:=sE hx
 obtain⟨n,hn⟩:∃ n,L.length=n:=⟨_,rfl⟩
 have HN:=sE hn
 rw[hn] at HX hl ⊢
 clear hx hn
 go_enter func36,ntmps36
 go_wp2_with fail
 go_loopw [7,8,9] (λ x7 x8 x9 wr=>∃ j:Nat,x9=.int .i64 (j:Nat)/\j<=n/\x7=.int .i64 (FD (L.take j) x:Nat)/\x8=.int .i64 (FD (L.take j) y:Nat)/\Kp Aa w wr) (λ _ _ x9 _=>n-(intOf x9).toNat)
 case atStart=>exact ⟨0,rfl,Nat.zero_le _,rfl,rfl,Kr _ _⟩
 case round=>
  obtain⟨j,rfl,hj,rfl,rfl,hk⟩:=hrel
  by_cases hjl:j<n
  .have hjl':(j:Int)<(n:Int):=by omega
   obtain⟨r,hr⟩:∃ r,L[j]?=some r:=⟨L[j]'(by rw[HN.out];exact hjl),by simp⟩
   have hs1:=lastV_step hr x
   have hs2:=lastV_step hr y
   obtain⟨a',c',e,hcell⟩:=HX.out.Ad hk
   obtain⟨b,hb,y0,-,y2⟩:=hcell j (toI r) (by rw[List.getElem?_map,hr];rfl)
   have ha:a=some ⟨b,0,none⟩:=by injection e with h1;rw [h1];exact hb
   subst ha
   replace y0:wr.cell? ⟨b,j*3,none⟩=some (.int .i64 (r.1:Nat)):=y0
   replace y2:wr.cell? ⟨b,j*3+2,none⟩=some (.int .i64 (r.2.2:Nat)):=y2
   have HS1:=sE hs1
   have HS2:=sE hs2
   clear e hcell hb hr hs1 hs2
   obtain⟨t1,ht1⟩:∃ t,FD (L.take j) x=t:=⟨_,rfl⟩
   obtain⟨t2,ht2⟩:∃ t,FD (L.take j) y=t:=⟨_,rfl⟩
   rw[ht1] at HS1 ⊢
   rw[ht2] at HS2 ⊢
   clear ht1 ht2
   by_cases h1:r.1=x
   .have e1:((r.1:Int)==(x:Int))=true:=by rw[h1];simp
    have HA:Sl (FD (L.take (j+1)) x=r.2.2):=⟨by rw[HS1.out,if_pos h1]⟩
    by_cases h2:r.1=y
    .have e2:((r.1:Int)==(y:Int))=true:=by rw[h2];simp
     have HB:Sl (FD (L.take (j+1)) y=r.2.2):=⟨by rw[HS2.out,if_pos h2]⟩
     clear h1 h2
     go_wp2
     exact⟨⟨j+1,by go_num,by omega,by rw[HA.out],by rw[HB.out],hk⟩,by simp only[intOf];omega⟩
    .have e2:((r.1:Int)==(y:Int))=false:=by rw[beq_eq_false_iff_ne];omega
     have HB:Sl (FD (L.take (j+1)) y=t2):=⟨by rw[HS2.out,if_neg h2]⟩
     clear h1 h2
     go_wp2
     exact⟨⟨j+1,by go_num,by omega,by rw[HA.out],by rw[HB.out],hk⟩,by simp only[intOf];omega⟩
   .have e1:((r.1:Int)==(x:Int))=false:=by rw[beq_eq_false_iff_ne];omega
    have HA:Sl (FD (L.take (j+1)) x=t1):=⟨by rw[HS1.out,if_neg h1]⟩
    by_cases h2:r.1=y
    .have e2:((r.1:Int)==(y:Int))=true:=by rw[h2];simp
     have HB:Sl (FD (L.take (j+1)) y=r.2.2):=⟨by rw[HS2.out,if_pos h2]⟩
     clear h1 h2
     go_wp2
     exact⟨⟨j+1,by go_num,by omega,by rw[HA.out],by rw[HB.out],hk⟩,by simp only[intOf];omega⟩
    .have e2:((r.1:Int)==(y:Int))=false:=by rw[beq_eq_false_iff_ne];omega
     have HB:Sl (FD (L.take (j+1)) y=t2):=⟨by rw[HS2.out,if_neg h2]⟩
     clear h1 h2
     go_wp2
     exact⟨⟨j+1,by go_num,by omega,by rw[HA.out],by rw[HB.out],hk⟩,by simp only[intOf];omega⟩
  .have hjl':¬ (j:Int)<(n:Int):=by omega
   obtain rfl:j=n:=by omega
   rw[List.take_of_length_le (by rw[HN.out];exact Nat.le_refl _)]
   have hd:decide ((FD L y:Int)<(FD L x:Int))=decide (FD L y<FD L x):=by
    rw[Bool.eq_iff_iff,decide_eq_true_eq,decide_eq_true_eq]
    omega
   go_wp2
   go_ret
   exact⟨by rw[<- hd];rfl,hk⟩

theorem objs_ty{P:Sp}{W:Nat->Nat}{cs:List Cel}(hc:CellsAt P W cs){c:Cel}(h:c∈Ak cs):c.ty<65536:=by
 have:=(hc.ok c (AR.1 h).1).1
 unfold Al at this
 rw[decide_eq_true_eq] at this
 omega

end

end Go.Proofs.YtfkedlgpgmaemaaGreatDoor
