/-
  Lemmas for the laws, together: Objects.
-/
import Derived.Test.YtfkedlgpgmaemaaGreatDoorQam
import Derived.Lib.SliceRun
import Derived.Laws.EntriesVeiled
set_option linter.unusedVariables false
set_option maxHeartbeats 16000000
namespace Go.Proofs.YtfkedlgpgmaemaaGreatDoor
open Tryz
section
open Go.RowKit

structure RowF(w:World)(g cap n:Nat)(f:Nat->Cel):Prop where
 blk:∃ cur,w.heap[g]?=some (.cells cur 113 (0,0))/\cur.size=cap*5/\∀ p,p<n->cur[p*5]?=some (.int .i64 ((f p).g:Nat))/\cur[p*5+1]?=some (.int .u8 ((f p).tag:Nat))/\cur[p*5+2]?=some (.int .i64 ((f p).ty:Nat))/\cur[p*5+3]?=some (.int .i64 ((f p).ln:Nat))/\cur[p*5+4]?=some (.int .i64 ((f p).sz:Nat))
 le:n<=cap
 cap_le:cap<=maxLen

theorem RowF.keep{S:Nat->Prop}{w w':World}{g cap n:Nat}{f:Nat->Cel}(a:RowF w g cap n f)(k:Kp S w w')(e:¬ S g):RowF w' g cap n f:=by
 obtain⟨b,c,d⟩:=a.blk
 exact⟨⟨b,k.at_ c e,d⟩,a.le,a.cap_le⟩

theorem RowF.cells{w:World}{g cap n p:Nat}{f:Nat->Cel}(i:RowF w g cap n f)(l:p<n):w.cell? ⟨g,p*5,none⟩=some (.int .i64 ((f p).g:Nat))/\w.cell? ⟨g,p*5+1,none⟩=some (.int .u8 ((f p).tag:Nat))/\w.cell? ⟨g,p*5+2,none⟩=some (.int .i64 ((f p).ty:Nat))/\
  w.cell? ⟨g,p*5+3,none⟩=some (.int .i64 ((f p).ln:Nat))/\w.cell? ⟨g,p*5+4,none⟩=some (.int .i64 ((f p).sz:Nat)):=by
 obtain⟨m,j,o,k⟩:=i.blk
 obtain⟨a,b,c,d,e⟩:=k p l
 simp only[World.cell?,j]
 exact⟨by simpa using a,by simpa using b,by simpa using c,by simpa using d,by simpa using e⟩

theorem RowF.free{w:World}{g cap n:Nat}{f:Nat->Cel}(a:RowF w g cap n f)(j:Nat):w.frozen? ⟨g,j,none⟩=false:=by
 obtain⟨c,b,-⟩:=a.blk
 exact Ab b j

theorem RowF.lt{w:World}{g cap n:Nat}{f:Nat->Cel}(a:RowF w g cap n f):g<w.heap.size:=by
 obtain⟨c,b,-⟩:=a.blk
 exact lZ b

theorem RowF.isCell{w:World}{g cap n q:Nat}{f:Nat->Cel}(b:RowF w g cap n f)(a:q<cap*5):(w.cell? ⟨g,q,none⟩).isSome=true:=by
 obtain⟨e,c,d,-⟩:=b.blk
 simp only[World.cell?,c]
 rw[<- d] at a
 simp[a]

def updF(f:Nat->Cel)(p:Nat)(x:Cel)(i:Nat):Cel:=if i=p then x else f i

theorem RowF.store{w:World}{g cap n p:Nat}{f:Nat->Cel}(a:RowF w g cap n f)(t:p<n)(x:Cel):
  RowF (((((w.setCell ⟨g,p*5,none⟩ (.int .i64 x.g)).setCell ⟨g,p*5+1,none⟩ (.int .u8 x.tag)).setCell ⟨g,p*5+2,none⟩ (.int .i64 x.ty)).setCell ⟨g,p*5+3,none⟩ (.int .i64 x.ln)).setCell ⟨g,p*5+4,none⟩ (.int .i64 x.sz)) g cap n (updF f p x):=by
 obtain⟨b,c,d,j⟩:=a.blk
 have s:=a.le
 refine⟨⟨_,bZ (bZ (bZ (bZ (bZ c _) _) _) _) _,by simp[d],λ i k=>?_⟩,a.le,a.cap_le⟩
 have u:p*5+4<b.size:=by omega
 obtain⟨l,m,o,q,r⟩:=j i k
 by_cases e:i=p
 .subst e
  unfold updF
  rw[if_pos rfl]
  simp only[Array.getElem?_setIfInBounds]
  refine⟨?_,?_,?_,?_,?_⟩ <;> (simp;omega)
 .unfold updF
  rw[if_neg e]
  simp only[Array.getElem?_setIfInBounds]
  refine⟨?_,?_,?_,?_,?_⟩ <;> (rw [if_neg (by omega),if_neg (by omega),if_neg (by omega),if_neg (by omega),if_neg (by omega)];assumption)

theorem Obj1_at(x:Cel)(w:World):Calls prog 104 #[cellV x] w (RK (.bool ((x.tag:Int) !=1)) w):=by
 unfold cellV
 go_enter func104,ntmps104
 go_wp2
 go_ret
 exact⟨rfl,(Kr Aa w).alloc _⟩

def IdxPost(n:Nat)(f:Nat->Cel)(w:World)(e:Ending)(w':World):Prop:=
 Kp Aa w w'/\((∃ i,i<n/\¬ (f i).tag=1/\(∀ p,p<i->(f p).tag=1)/\e=.returned (.int .i64 (i:Nat)))\/((∀ p,p<n->(f p).tag=1)/\e=.returned (.int .i64 (-1))))

theorem IndexFunc_at(g cap n:Nat)(f:Nat->Cel)(w:World)(s:RowF w g cap n f)(H:n<=65536):
  Calls prog 159 #[.slice (some ⟨g,0,none⟩) n cap,.func (.func 104) #[] #[]] w (IdxPost n f w):=by
 have A:=sE s
 have z:Sl (∀ (x:Cel) c,Calls prog 104 #[.agg #[x.g,.int .u8 x.tag,x.ty,x.ln,x.sz]] c (RK (.bool ((x.tag:Int) !=1)) c)):=⟨λ x c=>Obj1_at x c⟩
 clear s
 go_enter func159,ntmps159
 go_wp2_with fail
 go_loopw [5,8] (λ _ y wr=>∃ j:Nat,j<=n/\y=.int .i64 j/\Sl (∀ p,p<j->(f p).tag=1)/\Kp Aa w wr) (λ _ y _=>n-(intOf y).toNat)
 case atStart=>exact ⟨0,Nat.zero_le _,rfl,⟨λ p t=>by omega⟩,Kr _ _⟩
 case round=>
  obtain⟨j,G,rfl,i,d⟩:=hrel
  have l:=sE d
  by_cases hjl:j<n
  .have F:(j:Int)<(n:Int):=by omega
   obtain⟨c0,B,C,D,E⟩:=(A.o.keep d id).cells hjl
   obtain⟨x,q⟩:∃ x,f j=x:=⟨_,rfl⟩
   have r:=sE q
   rw[q] at c0 B C D E
   have a:=z.o x wr
   clear d q
   by_cases ht:x.tag=1
   .rw [show ((x.tag:Int) !=1)=false by simp[ht]] at a
    have k:=sE a
    have u:Sl (∀ p,p<j+1->(f p).tag=1):=⟨λ p t=>by
     by_cases e:p=j
     .rw [e,r.o,ht]
     .exact i.o p (by omega)⟩
    clear a ht
    go_wp2_with fail
    refine k.o.mono ?_
    rintro e w1 ⟨rfl,b⟩
    have m:=sE (l.o.then' b)
    clear b
    go_wp2
    exact⟨⟨j+1,by omega,by go_num,u,m.o⟩,by simp only[intOf];omega⟩
   .rw [show ((x.tag:Int) !=1)=true by simp;omega] at a
    have k:=sE a
    have v:Sl (¬ (f j).tag=1):=⟨by rw[r.o];exact ht⟩
    clear a ht
    go_wp2_with fail
    refine k.o.mono ?_
    rintro e w1 ⟨rfl,b⟩
    have m:=sE (l.o.then' b)
    clear b
    go_wp2
    go_ret
    exact⟨m.o,.inl ⟨j,hjl,v.o,i.o,rfl⟩⟩
  .have F:¬ (j:Int)<(n:Int):=by omega
   clear d
   go_wp2
   go_ret
   exact⟨l.o,.inr ⟨λ p t=>i.o p (by omega),rfl⟩⟩

theorem zeroCell10(w:World):(zeroValue 113).run prog w=.ok (.agg #[(0:Int),.int .u8 0,(0:Int),(0:Int),(0:Int)]) w:=by kernel_rfl

theorem setCells_block(b:Nat)(T:TypeId):∀ (vs:List Value) (o:Nat) (w:World) (a:Array Value),w.heap[b]?=some (.cells a T (0,0))->
  ∃ c,(w.setCells b o vs).heap[b]?=some (.cells c T (0,0))/\c.size=a.size/\(∀ j,j<o->c[j]?=a[j]?)/\Kp (λ k=>k=b) w (w.setCells b o vs)
 |[],o,w,a,d=>⟨a,d,rfl,λ _ _=>rfl,Kr _ _⟩
 |v::r,o,w,a,d=>by
  obtain⟨c,e,f,g,i⟩:=setCells_block b T r (o+1) _ _ (bZ d (j:=o) v)
  refine⟨c,e,by rw[f];simp,λ j l=>?_,((Kr (λ k=>k=b) w).setCell (λ _=>rfl) _).trans i (λ _ _ d=>d)⟩
  rw[g j (by omega),Array.getElem?_setIfInBounds,if_neg (by omega)]

theorem run_clear_cells{Pr:Program}(w:World)(t e ty:TypeId)(z:Value)(k:Nat)(q:Pr.underlying t=some (.slice e))(r:∀ w,(zeroValue e).run Pr w=.ok z w)(s:z.cells.size=k)(g:∀ u∈z.cells.toList,u.oneCell'=true)(v:0<k)(b o n c:Nat)(x:0<n)
  (l:∀ j,j<n*k->(w.cell? ⟨b,o+j,none⟩).isSome=true) (p:∀ j,j<n*k->w.frozen? ⟨b,o+j,none⟩=false):
  (Builtin.clear_ #[t] ty #[.slice (some ⟨b,o,none⟩) n c]).run Pr w=.ok (.tuple #[]) (w.setCells b o (Builtin.zeroCells z.cells n).toList):=by
 have a:(Builtin.zeroCells z.cells n).toList.length=n*k:=by simp[Builtin.zeroCells,s]
 have d:=run_storeCells_cells (P:=Pr) b o (Builtin.zeroCells z.cells n).toList 0 w (by rw[a];simpa using l) (by rw[a];simpa using p) (by
  intro u f
  simp only[Builtin.zeroCells,Array.toList_map,List.mem_map] at f
  obtain⟨i,-,rfl⟩:=f
  have:i%z.cells.size<z.cells.size:=Nat.mod_lt _ (by omega)
  rw[getElem!_pos z.cells _ this]
  exact g _ (by simp))
 simp only[Nat.add_zero] at d
 obtain⟨m,rfl⟩:∃ m,n=m+1:=⟨n-1,by omega⟩
 simp[Builtin.clear_,run_underlying q,r,d]

theorem DT{w:World}{b:Nat}{a c d e f:Value}{T:TypeId}(g:w.heap[b]?=some (.cells #[a,c,d,e,f] T (0,0))):
  w.cell? b=some a/\w.cell? ⟨b,1,none⟩=some c/\w.cell? ⟨b,2,none⟩=some d/\w.cell? ⟨b,3,none⟩=some e/\w.cell? ⟨b,4,none⟩=some f:=by
 refine⟨?_,?_,?_,?_,?_⟩ <;> simp only[World.cell?,g] <;> rfl

def DelPost(cs:List Cel)(g cap:Nat)(w:World)(e:Ending)(w':World):Prop:=
 e=.returned (.slice (some ⟨g,0,none⟩) (Aj cs).length cap)/\Kp (λ k=>k=g) w w'/\∃ f,RowF w' g cap (Aj cs).length f/\∀ p x,(Aj cs)[p]?=some x->f p=x

theorem objsOf_all{cs:List Cel}(a:∀ x∈cs,x.tag=1):Aj cs=cs:=List.filter_eq_self.2 λ x b=>by simp[a x b]

theorem objsOf_succ{cs:List Cel}{j:Nat}{x:Cel}(h:cs[j]?=some x):Aj (cs.take (j+1))=Aj (cs.take j)++(if x.tag=1 then [x] else []):=by
 rw[List.take_add_one,h,objsOf_append]
 congr 1
 by_cases ht:x.tag=1 <;> simp[Aj,ht]

set_option maxRecDepth 20000 in
theorem DeleteFunc_at(cs:List Cel)(g cap n:Nat)(s:Nat->Cel)(w:World)(b:RowF w g cap n s)(b0:cs.length=n)(a9:∀ p x,cs[p]?=some x->s p=x)(c5:n<=65536)(d5:cap<=9223372036854775807):
  Calls prog 103 #[.slice (some ⟨g,0,none⟩) n cap,.func (.func 104) #[] #[]] w (DelPost cs g cap w):=by
 have Z:=sE b
 have b6:=sE (IndexFunc_at g cap n s w b c5)
 have b7:Sl (∀ (x:Cel) I,Calls prog 104 #[.agg #[x.g,.int .u8 x.tag,x.ty,x.ln,x.sz]] I (RK (.bool ((x.tag:Int) !=1)) I)):=⟨λ x I=>Obj1_at x I⟩
 have z:Sl (∀ p,p<n->cs[p]?=some (s p)):=⟨λ p d=>by
  obtain⟨x,a⟩:∃ x,cs[p]?=some x:=⟨_,List.getElem?_eq_getElem (by omega)⟩
  rw[a,a9 p x a]⟩
 have e4:=b.le
 have A:=sE b0
 clear b a9 b0
 go_enter func103,ntmps103
 go_wp2_with fail
 refine b6.o.mono ?_
 rintro e w1 ⟨E,⟨i,c3,m,b2,rfl⟩|⟨D,rfl⟩⟩
 .have F:=sE E
  have a0:Sl (Aj (cs.take (i+1))=cs.take i):=⟨by
   rw[objsOf_succ (z.o i c3),if_neg m,List.append_nil]
   refine objsOf_all λ x a=>?_
   obtain⟨p,d,rfl⟩:=List.getElem_of_mem a
   have c6:p<i:=by simp at d;omega
   have:=z.o p (by omega)
   rw[List.getElem_take]
   have t:=(gE.1 this).2
   rw[t]
   exact b2 p c6⟩
  have b8:=sE (Z.o.keep E id)
  have d1:((i:Int)==-1)=false:=by simp
  clear E m b2
  go_wp2_with fail
  go_loopw [5,6,7] (λ x5 x6 _ wr=>∃ (j c:Nat) (f:Nat->Cel),j<=n/\x6=.int .i64 j/\x5=.int .i64 c/\c<j/\Sl (c=(Aj (cs.take j)).length)/\RowF wr g cap n f/\Sl (∀ p,p<c->(Aj (cs.take j))[p]?=some (f p))/\Sl (∀ p,j<=p->p<n->f p=s p)/\Kp (λ k=>k=g) w1 wr) (λ _ x6 _ _=>n-(intOf x6).toNat)
  case atStart=>
   refine⟨i+1,i,s,by omega,by go_num,rfl,by omega,⟨?_⟩,b8.o,⟨λ p d=>?_⟩,⟨λ p _ _=>rfl⟩,Kr _ _⟩
   .rw [a0.o,List.length_take,A.o];omega
   .rw [a0.o,List.getElem?_take_of_lt d]
    exact z.o p (by omega)
  case round=>
   obtain⟨j,c,f,e3,rfl,rfl,d8,v,l,L,M,X⟩:=hrel
   have P:=sE X
   have H:=sE l
   by_cases hjl:j<n
   .have c4:(j:Int)<(n:Int):=by omega
    obtain⟨c0,S,T,U,V⟩:=l.cells hjl
    obtain⟨x,a⟩:∃ x,f j=x:=⟨_,rfl⟩
    have b9:Sl (cs[j]?=some x):=⟨by rw[z.o j hjl,<- M.o j (Nat.le_refl _) hjl,a]⟩
    rw[a] at c0 S T U V
    have y:=b7.o x
    have e5:=l.lt
    have b4:Kp Aa wr (wr.alloc (.cells #[x.g,.int .u8 x.tag,x.ty,x.ln,x.sz] 113)):=(Kr _ wr).alloc _
    have b5:=sE (wN wr (.cells #[x.g,.int .u8 x.tag,x.ty,x.ln,x.sz] 113))
    have G:=sE b4
    have B:=sE (objsOf_succ b9.o)
    clear X l a b4
    by_cases m:x.tag=1
    .rw [show ((x.tag:Int) !=1)=false by simp[m]] at y
     have N:=sE y
     rw[if_pos m] at B
     clear y m
     go_wp2_with fail
     refine(N.o _).mono ?_
     rintro e K ⟨rfl,r⟩
     obtain⟨d2,a1,a2,C,a3⟩:=DT (r.at_ b5.o id)
     have J:=(H.o.keep G.o id).keep r id
     have a8:c<n:=by omega
     have e1:(c:Int)<(n:Int):=by omega
     obtain⟨d3,a4,a5,a6,d4⟩:=J.cells a8
     have e2:=J.free
     have R:=sE J
     have Q:=sE (G.o.then' r)
     clear c0 S T U V r J
     go_wp2
     have c8:=R.o.store a8 x
     have c9:Kp (λ k=>k=g) K (((((K.setCell ⟨g,c*5,none⟩ (.int .i64 x.g)).setCell ⟨g,c*5+1,none⟩ (.int .u8 x.tag)).setCell ⟨g,c*5+2,none⟩ (.int .i64 x.ty)).setCell ⟨g,c*5+3,none⟩ (.int .i64 x.ln)).setCell ⟨g,c*5+4,none⟩ (.int .i64 x.sz)):=
      (((((Kr (λ k=>k=g) K).setCell (λ _=>rfl) _).setCell (λ _=>rfl) _).setCell (λ _=>rfl) _).setCell (λ _=>rfl) _).setCell (λ _=>rfl) _
     refine⟨⟨j+1,c+1,updF f c x,by omega,by go_num,by go_num,by omega,⟨?_⟩,c8,⟨λ p d=>?_⟩,⟨λ p W t=>?_⟩,(P.o.trans Q.o (λ _ _ b=>b.elim)).trans c9 (λ _ _ b=>b)⟩,by simp only[intOf];omega⟩
     .rw [B.o,List.length_append,<- v.o]
      rfl
     .rw [B.o]
      by_cases e:p=c
      .subst e
       rw[List.getElem?_append_right (by rw[<- v.o];exact Nat.le_refl _),<- v.o,Nat.sub_self]
       simp[updF]
      .rw [List.getElem?_append_left (by rw[<- v.o];omega),L.o p (by omega)]
       simp[updF,e]
     .rw [<- M.o p (by omega) t]
      unfold updF
      rw[if_neg (by omega)]
    .rw [show ((x.tag:Int) !=1)=true by simp;omega] at y
     have N:=sE y
     rw[if_neg m,List.append_nil] at B
     clear y m
     go_wp2_with fail
     refine(N.o _).mono ?_
     rintro e K ⟨rfl,r⟩
     have R:=sE ((H.o.keep G.o id).keep r id)
     have Q:=sE (G.o.then' r)
     clear c0 S T U V r
     go_wp2
     exact⟨⟨j+1,c,f,by omega,by go_num,rfl,by omega,⟨by rw[B.o];exact v.o⟩,R.o,⟨λ p d=>by rw[B.o];exact L.o p d⟩,⟨λ p W t=>M.o p (by omega) t⟩,P.o.trans Q.o (λ _ _ b=>b.elim)⟩,by simp only[intOf];omega⟩
   .obtain rfl:j=n:=by omega
    have c4:¬ (j:Int)<(j:Int):=by omega
    have d9:(c:Int)<(j:Int):=by omega
    obtain⟨vs,Y⟩:∃ vs,(Builtin.zeroCells (Value.cells (.agg #[(0:Int),.int .u8 0,(0:Int),(0:Int),(0:Int)])) (j-c)).toList=vs:=⟨_,rfl⟩
    have e0:∀ ty,(Builtin.clear_ #[45] ty #[.slice (some ⟨g,c*5,none⟩) (j-c) (cap-c)]).run prog wr=.ok (.tuple #[]) (wr.setCells g (c*5) vs):=λ ty=>by
     rw[<- Y]
     exact run_clear_cells wr _ 113 ty _ 5 Dp zeroCell10 rfl (by intro u b3;simp [Value.cells] at b3;rcases b3 with rfl|rfl|rfl|rfl|rfl <;> rfl) (by omega) g (c*5) (j-c) _ (by omega)
      (λ q c7=>l.isCell (by have:=l.le;omega)) (λ q c7=>l.free _)
    have d6:c<=cap:=by omega
    have d7:(c:Int)<=(cap:Int):=by omega
    have d0:=sE Y
    clear X l Y
    go_wp2
    go_ret
    obtain⟨c1,a4,a5,a6⟩:=H.o.blk
    obtain⟨c2,a1,a2,C,a3⟩:=setCells_block g 113 vs (c*5) wr c1 a4
    have D:Aj (cs.take j)=Aj cs:=by rw[List.take_of_length_le (by rw[A.o];omega)]
    have a7:c=(Aj cs).length:=by rw[<- D];exact v.o
    refine⟨by rw[<- a7];rfl,((F.o.Aw (λ k=>k=g)).trans P.o (λ _ _ b=>b)).trans a3 (λ _ _ b=>b),f,⟨⟨c2,a1,by rw[a2,a5],λ p d=>?_⟩,by omega,H.o.cap_le⟩,λ p x a=>?_⟩
    .rw [<- a7] at d
     rw[C _ (by omega),C _ (by omega),C _ (by omega),C _ (by omega),C _ (by omega)]
     exact a6 p (by omega)
    .have d:=(gE.1 a).1
     have:=L.o p (by omega)
     rw[D,a] at this
     injection this with this
     exact this.symm
 .have O:Sl (Aj cs=cs):=⟨objsOf_all λ x a=>by
   obtain⟨p,d,rfl⟩:=List.getElem_of_mem a
   have b1:p<n:=by have:=A.o;omega
   have W:=z.o p b1
   have t:=(gE.1 W).2
   rw[t]
   exact D p b1⟩
  have F:=sE E
  clear D E
  go_wp2
  go_ret
  refine⟨by rw[O.o,A.o];rfl,F.o.Aw _,s,by rw[O.o,A.o];exact Z.o.keep F.o id,λ p x a=>?_⟩
  rw[O.o] at a
  have d:=(gE.1 a).1
  have:=z.o p (by have:=A.o;omega)
  rw[a] at this
  injection this with this
  exact this.symm

theorem RowF.Bc{w:World}{base:Nat}{v:Value}{cs:List Cel}(m:w.ownsRow base 113 5 v cs.length (Ci cs))(q:cs≠[]):∃ g cap,v=.slice (some ⟨g,0,none⟩) cs.length cap/\base<=g/\RowF w g cap cs.length (λ p=>(cs[p]?).getD ⟨0,0,0,0,0⟩):=by
 rcases m.2 with ⟨-,n⟩|⟨g,cap,b,s,d,e,f,i,k,l⟩
 .exact absurd (List.length_eq_zero_iff.1 n) q
 .refine ⟨g,cap,s,d,⟨b,e,k,λ p r=>?_⟩,f,i⟩
  have c:cs[p]?=some cs[p]:=List.getElem?_eq_getElem r
  obtain⟨x0,x1,x2,x3,x4⟩:=flatC_at cs p _ c
  have a:∀ j,j<cs.length*5->b[j]?=(Ci cs)[j]?:=λ j o=>by
   rw[<- l,List.getElem?_take_of_lt o]
   simp
  rw[c]
  exact⟨by rw[a _ (by omega)];exact x0,by rw[a _ (by omega)];exact x1,by rw[a _ (by omega)];exact x2,by rw[a _ (by omega)];exact x3,by rw[a _ (by omega)];exact x4⟩

theorem Du.of_rowF{w:World}{g cap:Nat}{f:Nat->Cel}{xs:List Cel}(a:RowF w g cap xs.length f)(d:∀ p x,xs[p]?=some x->f p=x):Du w (.slice (some ⟨g,0,none⟩) xs.length cap) xs:=by
 refine⟨_,_,rfl,λ i x c=>?_⟩
 have e:=(gE.1 c).1
 have b:=a.cells e
 rw[d i x c] at b
 exact⟨g,rfl,a.lt,b⟩

theorem Objects_at(P:Sp)(cs:List Cel)(w:World)(b:SpaceHas w P cs)(G:cs≠[]):
  Calls prog 51 #[.pointer (some P.s)] w λ e w'=>∃ a cap,e=.returned (.slice a (Aj cs).length cap)/\Du w' (.slice a (Aj cs).length cap) (Aj cs)/\Kp Aa w w':=by
 have F:cs.length<=65536:=by
  obtain⟨W,f,H,E,-⟩:=b
  have:=BG E.tl
  have:=H.ar.small
  omega
 have A:=sE (Cells_at P cs w b)
 clear b
 go_enter func51,ntmps51
 go_wp2_with fail
 refine A.o.mono ?_
 rintro e w1 ⟨v,rfl,u,y⟩
 obtain⟨g,cap,rfl,J,d⟩:=RowF.Bc u G
 obtain⟨n,t⟩:∃ n,cs.length=n:=⟨_,rfl⟩
 have j:=sE (DeleteFunc_at cs g cap cs.length _ w1 d rfl (λ p x I=>by rw[I];rfl) F (by have:=d.cap_le;unfold maxLen at this;omega))
 rw[t] at j ⊢
 have B:=sE y
 clear u d y t
 go_wp2_with fail
 refine j.o.mono ?_
 rintro e w2 ⟨rfl,z,f,q,r⟩
 have l:=sE (Du.of_rowF q r)
 have C:Sl (Kp Aa w w2):=⟨((B.o.Aw (λ k=>w.heap.size<=k)).trans z (λ i _ b=>by omega)).mono (λ i K b=>by omega)⟩
 obtain⟨m,c⟩:∃ m,(Aj cs).length=m:=⟨_,rfl⟩
 rw[c] at l
 have D:=sE c
 rw[c]
 clear z q r c
 go_wp2
 go_ret
 rw[D.o]
 exact⟨_,_,rfl,l.o,C.o⟩

end

end Go.Proofs.YtfkedlgpgmaemaaGreatDoor
