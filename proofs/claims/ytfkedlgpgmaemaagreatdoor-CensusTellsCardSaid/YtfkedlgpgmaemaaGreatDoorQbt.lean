/-
  Lemmas for the laws, together: CenE, CenC, CenF, CenX, CenN, CenH.
-/
import Derived.Test.YtfkedlgpgmaemaaGreatDoorQbl
import Derived.Test.YtfkedlgpgmaemaaGreatDoorQbe
import Derived.Test.YtfkedlgpgmaemaaGreatDoorQbj
import Derived.Test.YtfkedlgpgmaemaaGreatDoorQac
import Derived.Test.YtfkedlgpgmaemaaGreatDoorQbk
import Derived.Test.YtfkedlgpgmaemaaGreatDoorQbg
import Derived.Test.YtfkedlgpgmaemaaGreatDoorQbm
set_option linter.unusedVariables false
set_option maxHeartbeats 16000000
namespace Go.Proofs.YtfkedlgpgmaemaaGreatDoor
open Tryz
section
open Go.RowKit

def toI(x:Nat×Nat×Nat):T3:=((x.1:Int),(x.2.1:Int),(x.2.2:Int))

theorem ES(L:List (Nat×Nat×Nat)):Bt L=Bi (L.map toI):=by
 induction L with
 |nil=>rfl
 |cons x L ih=>
  show _::_::_::Bt L=_::_::_::Bi (L.map toI)
  rw[ih]
  rfl

def CY(w:World)(v:Value)(L:List T3):Prop:=
 ∃ a cap,v=.slice a L.length cap/\∀ i x,L[i]?=some x->∃ b,a=some ⟨b,0,none⟩/\w.cell? ⟨b,i*3,none⟩=some (.int .i64 x.1)/\w.cell? ⟨b,i*3+1,none⟩=some (.int .i64 x.2.1)/\w.cell? ⟨b,i*3+2,none⟩=some (.int .i64 x.2.2)

theorem CY.Ac{w w':World}{v:Value}{L:List T3}(c:CY w v L)(k:Kp Aa w w'):CY w' v L:=by
 obtain⟨a,cap,rfl,c⟩:=c
 refine⟨a,cap,rfl,λ i x g=>?_⟩
 obtain⟨b,rfl,d,e,f⟩:=c i x g
 exact⟨b,rfl,k.cell d id,k.cell e id,k.cell f id⟩

def RowTo(w:World)(v:Value)(L:List T3):Prop:=
 ∃ a cap,v=.slice a L.length cap/\∀ i x,L[i]?=some x->∃ b o,a=some ⟨b,o,none⟩/\w.cell? ⟨b,o+i*3,none⟩=some (.int .i64 x.1)/\w.cell? ⟨b,o+i*3+1,none⟩=some (.int .i64 x.2.1)/\w.cell? ⟨b,o+i*3+2,none⟩=some (.int .i64 x.2.2)

theorem CY.to{w:World}{v:Value}{L:List T3}(c:CY w v L):RowTo w v L:=by
 obtain⟨a,cap,rfl,c⟩:=c
 refine⟨a,cap,rfl,λ i x g=>?_⟩
 obtain⟨b,rfl,d,e,f⟩:=c i x g
 exact⟨b,0,rfl,by rw[Nat.zero_add];exact d,by rw[Nat.zero_add];exact e,by rw[Nat.zero_add];exact f⟩

theorem CY.Bc{w:World}{base T:Nat}{v:Value}{L:List T3}(d:w.ownsRow base T 3 v L.length (Bi L)):CY w v L:=by
 obtain⟨a,c,rfl⟩:=Aq d
 refine⟨a,c,rfl,λ i x k=>?_⟩
 have o:=(gE.1 k).1
 cases a with
 |none=>
  rcases d.2 with ⟨e,m⟩|⟨g,cap,l,e,-⟩
  .omega
  .injection e with e1
   cases e1
 |some ad=>
  have n:∃ b,ad=⟨b,0,none⟩:=by
   rcases d.2 with ⟨e,m⟩|⟨g,cap,l,e,-⟩
   .omega
   .injection e with e1
    injection e1 with e1
    exact⟨g,e1⟩
  obtain⟨b,rfl⟩:=n
  obtain⟨-,-,-,-,p⟩:=Bn.Bc d
  obtain⟨c0,f,j⟩:=p.cells o
  have e:atL L i=x:=by unfold atL;rw [k];rfl
  rw[e] at c0 f j
  exact⟨b,rfl,c0,f,j⟩

theorem run_eq_keep(a b c a' d e:Int)(w:World):(Op.equalIn 10000 67 (.agg #[.int .i64 a,.int .i64 b,.int .i64 c]) (.agg #[.int .i64 a',.int .i64 d,.int .i64 e])).run prog w=.ok (a==a'&&(b==d&&c==e)) w:=by
 have u3:=underlying3
 have g:=isAgg3
 have i:=sizeOf3
 have f:prog.underlying 67=some (.struct (prog.fieldsOf 67)):=by kernel_rfl
 rw[show (10000:Nat)=9999+1 from rfl,run_equalIn_agg w 9999 67 _ _ f (by kernel_rfl)]
 simp only[Program.fieldsOf,underlying67]
 go_simp
 by_cases h0:a=a' <;> by_cases h1:b=d <;> by_cases h2:c=e <;> simp[h0,h1,h2]

theorem run_neq_keep(a b c a' d e:Int)(w:World):(binOp .neq 67 (.agg #[.int .i64 a,.int .i64 b,.int .i64 c]) (.agg #[.int .i64 a',.int .i64 d,.int .i64 e])).run prog w=.ok (.bool (!(a==a'&&(b==d&&c==e)))) w:=by
 rw[run_neq_struct,run_eq_keep];rfl

section

attribute [local go_sem ↓] run_neq_keep

theorem SameKeeps_any(cs:List T3)(v u:Value)(w:World)(m:RowTo w v cs)(l:RowTo w u cs)(z:cs.length<=9223372036854775806):
  Calls prog 20 #[v,u] w (RK (.bool true) w):=by
 have k:=sE m
 have i:=sE l
 obtain⟨H,J,rfl,-⟩:=m
 obtain⟨D,F,rfl,-⟩:=l
 obtain⟨c,d⟩:∃ c,cs.length=c:=⟨_,rfl⟩
 rw[d] at k i z ⊢
 have g:=sE d
 clear d
 go_enter func20,ntmps20
 go_wp2_with fail
 go_loopw [5] (λ y wr=>∃ j:Nat,j<=c/\y=.int .i64 j/\Kp Aa w wr) (λ y _=>c-(intOf y).toNat)
 case atStart=>exact ⟨0,Nat.zero_le _,rfl,Kr _ _⟩
 case round=>
  obtain⟨j,B,rfl,a⟩:=hrel
  by_cases hjl:j<c
  .have t:(j:Int)<c:=by omega
   obtain⟨I,K,e,n⟩:=k.o
   injection e with e1 e3 e2
   clear e3
   subst e1 e2
   obtain⟨E,G,e,p⟩:=i.o
   injection e with e1 e3 e2
   clear e3
   subst e1 e2
   obtain⟨x,f⟩:∃ x,cs[j]?=some x:=⟨cs[j]'(by rw[g.o];omega),List.getElem?_eq_getElem (by rw[g.o];omega)⟩
   obtain⟨b,o,rfl,x0,x1,x2⟩:=n j x f
   obtain⟨A,C,rfl,q,r,s⟩:=p j x f
   clear n p f
   replace x0:=a.cell x0 id
   replace x1:=a.cell x1 id
   replace x2:=a.cell x2 id
   replace q:=a.cell q id
   replace r:=a.cell r id
   replace s:=a.cell s id
   go_wp2_with fail
   go_quiet (fail)
   go_wp2
   refine⟨⟨j+1,by omega,by go_num,a.then' (Kp.Ah _)⟩,by simp only[intOf];omega⟩
  .have t:¬ (j:Int)<c:=by omega
   go_wp2
   go_ret
   exact⟨rfl,a⟩

end

theorem FP(cs:List T3)(v u:Value)(w:World)(c:CY w v cs)(b:CY w u cs)(a:cs.length<=9223372036854775806):
  Calls prog 20 #[v,u] w (RK (.bool true) w):=SameKeeps_any cs v u w c.to b.to a

theorem run_eq_share(a b c a' d e:Int)(w:World):(Op.equalIn 10000 82 (.agg #[.int .i64 a,.int .i64 b,.int .i64 c]) (.agg #[.int .i64 a',.int .i64 d,.int .i64 e])).run prog w=.ok (a==a'&&(b==d&&c==e)) w:=by
 have u3:=underlying3
 have g:=isAgg3
 have i:=sizeOf3
 have f:prog.underlying 82=some (.struct (prog.fieldsOf 82)):=by kernel_rfl
 rw[show (10000:Nat)=9999+1 from rfl,run_equalIn_agg w 9999 82 _ _ f (by kernel_rfl)]
 simp only[Program.fieldsOf,underlying82]
 go_simp
 by_cases h0:a=a' <;> by_cases h1:b=d <;> by_cases h2:c=e <;> simp[h0,h1,h2]

theorem run_neq_share(a b c a' d e:Int)(w:World):(binOp .neq 82 (.agg #[.int .i64 a,.int .i64 b,.int .i64 c]) (.agg #[.int .i64 a',.int .i64 d,.int .i64 e])).run prog w=.ok (.bool (!(a==a'&&(b==d&&c==e)))) w:=by
 rw[run_neq_struct,run_eq_share];rfl

section

attribute [local go_sem ↓] run_neq_share

theorem SameShares_any(cs:List T3)(v u:Value)(w:World)(m:RowTo w v cs)(l:RowTo w u cs)(z:cs.length<=9223372036854775806):
  Calls prog 22 #[v,u] w (RK (.bool true) w):=by
 have k:=sE m
 have i:=sE l
 obtain⟨H,J,rfl,-⟩:=m
 obtain⟨D,F,rfl,-⟩:=l
 obtain⟨c,d⟩:∃ c,cs.length=c:=⟨_,rfl⟩
 rw[d] at k i z ⊢
 have g:=sE d
 clear d
 go_enter func22,ntmps22
 go_wp2_with fail
 go_loopw [5] (λ y wr=>∃ j:Nat,j<=c/\y=.int .i64 j/\Kp Aa w wr) (λ y _=>c-(intOf y).toNat)
 case atStart=>exact ⟨0,Nat.zero_le _,rfl,Kr _ _⟩
 case round=>
  obtain⟨j,B,rfl,a⟩:=hrel
  by_cases hjl:j<c
  .have t:(j:Int)<c:=by omega
   obtain⟨I,K,e,n⟩:=k.o
   injection e with e1 e3 e2
   clear e3
   subst e1 e2
   obtain⟨E,G,e,p⟩:=i.o
   injection e with e1 e3 e2
   clear e3
   subst e1 e2
   obtain⟨x,f⟩:∃ x,cs[j]?=some x:=⟨cs[j]'(by rw[g.o];omega),List.getElem?_eq_getElem (by rw[g.o];omega)⟩
   obtain⟨b,o,rfl,x0,x1,x2⟩:=n j x f
   obtain⟨A,C,rfl,q,r,s⟩:=p j x f
   clear n p f
   replace x0:=a.cell x0 id
   replace x1:=a.cell x1 id
   replace x2:=a.cell x2 id
   replace q:=a.cell q id
   replace r:=a.cell r id
   replace s:=a.cell s id
   go_wp2_with fail
   go_quiet (fail)
   go_wp2
   refine⟨⟨j+1,by omega,by go_num,a.then' (Kp.Ah _)⟩,by simp only[intOf];omega⟩
  .have t:¬ (j:Int)<c:=by omega
   go_wp2
   go_ret
   exact⟨rfl,a⟩

end

theorem SameShares_yes(cs:List T3)(v u:Value)(w:World)(c:CY w v cs)(b:CY w u cs)(a:cs.length<=9223372036854775806):
  Calls prog 22 #[v,u] w (RK (.bool true) w):=SameShares_any cs v u w c.to b.to a

end

section
open Go.RowKit

def Fa(a b:Int):Int:=if a<b then -1 else if b<a then 1 else 0

theorem NaN_at(x:Int)(w:World):Calls prog 110 #[.int .i64 x] w λ e w'=>e=.returned (.bool false)/\w'=w:=by
 have h:(x !=x)=false:=by simp
 go_enter func110,ntmps110
 go_wp2
 go_ret
 first
  |exact ⟨rfl,rfl⟩
  |exact ⟨by simp,rfl⟩

theorem Compare_at(a b:Int)(w:World):Calls prog 57 #[.int .i64 a,.int .i64 b] w λ e w'=>e=.returned (.int .i64 (Fa a b))/\w'=w:=by
 go_enter func57,ntmps57
 go_wp2_with fail
 refine(NaN_at a _).mono ?_
 rintro e w1 ⟨rfl,rfl⟩
 go_wp2_with fail
 refine(NaN_at b _).mono ?_
 rintro e w2 ⟨rfl,rfl⟩
 by_cases h:a<b
 .have c:Fa a b=-1:=by unfold Fa;rw [if_pos h]
  go_wp2
  go_ret
  exact⟨by rw[c];rfl,rfl⟩
 .by_cases h2:b<a
  .have c:Fa a b=1:=by unfold Fa;rw [if_neg h,if_pos h2]
   have d:a > b:=h2
   go_wp2
   go_ret
   exact⟨by rw[c];rfl,rfl⟩
  .have c:Fa a b=0:=by unfold Fa;rw [if_neg h,if_neg h2]
   have d:¬ a > b:=h2
   go_wp2
   go_ret
   exact⟨by rw[c];rfl,rfl⟩

theorem Or2_at(x y:Int)(b c:Nat)(w:World)(f:w.cell? b=some (.int .i64 x))(g:w.cell? ⟨b,1,none⟩=some (.int .i64 y)):
  Calls prog 72 #[.slice (some ⟨b,0,none⟩) 2 c] w λ e w'=>e=.returned (.int .i64 (if x=0 then y else x))/\Kp Aa w w':=by
 have k:=sE f
 have H1:=sE g
 go_enter func72,ntmps72
 clear f g
 go_wp2_with fail
 go_loopw [8] (λ z wr=>∃ j:Nat,j<=2/\z=.int .i64 j/\(1<=j->x=0)/\(j=2->y=0)/\Kp Aa w wr) (λ z _=>2-(intOf z).toNat)
 case atStart=>exact ⟨0,Nat.zero_le _,rfl,λ d=>by omega,λ d=>by omega,Kr _ _⟩
 case round=>
  obtain⟨j,q,rfl,i,n,a⟩:=hrel
  have c0:=Ae a k.o
  have p:=Ae a H1.o
  have m:j=0\/j=1\/j=2:=by omega
  rcases m with rfl|rfl|rfl
  .by_cases e:x=0
   .subst e
    go_wp2
    exact⟨⟨1,by omega,by go_num,λ _=>by simp,λ d=>by omega,a⟩,by simp only[intOf];omega⟩
   .have l:(x !=0)=true:=by simp[e]
    go_wp2
    go_ret
    exact⟨by simp,a⟩
  .obtain rfl:=i (by omega)
   by_cases e:y=0
   .subst e
    go_wp2
    exact⟨⟨2,by omega,by go_num,λ _=>by simp,λ _=>by simp,a⟩,by simp only[intOf];omega⟩
   .have l:(y !=0)=true:=by simp[e]
    go_wp2
    go_ret
    exact⟨by simp,a⟩
  .obtain rfl:=i (by omega)
   obtain rfl:=n rfl
   go_wp2
   go_ret
   exact⟨by simp,a⟩

def Fh(a b:T3):Int:=if Fa b.2.2 a.2.2=0 then Fa a.1 b.1 else Fa b.2.2 a.2.2

theorem mostC_lt{a b:T3}:Fh a b<0 ↔ b.2.2<a.2.2\/(a.2.2=b.2.2/\a.1<b.1):=by
 unfold Fh Fa
 repeat' split
 all_goals omega

theorem mostC_ord:OrdC Fh:=⟨λ h=>by rw[mostC_lt] at h ⊢;omega,λ h k=>by rw[mostC_lt] at h k ⊢;omega⟩

def typeC(a b:T3):Int:=Fa a.1 b.1

theorem typeC_lt{a b:T3}:typeC a b<0 ↔ a.1<b.1:=by
 unfold typeC Fa
 repeat' split
 all_goals omega

theorem typeC_ord:OrdC typeC:=⟨λ h=>by rw[typeC_lt] at h ⊢;omega,λ h k=>by rw[typeC_lt] at h k ⊢;omega⟩

theorem TypeCmp_at(a b:T3)(w:World):Calls prog 56 #[Ej a,Ej b] w (RK (.int .i64 (typeC a b)) w):=by
 unfold Ej
 go_enter func56,ntmps56
 go_wp2_with fail
 refine(Compare_at _ _ _).mono ?_
 rintro e w2 ⟨rfl,rfl⟩
 go_wp2
 go_ret
 exact⟨rfl,((Kr _ w).alloc _).alloc _⟩

theorem MostCmp_at(a b:T3)(w:World):Calls prog 71 #[Ej a,Ej b] w (RK (.int .i64 (Fh a b)) w):=by
 unfold Ej
 go_enter func71,ntmps71
 go_wp2_with fail
 obtain⟨w1,s⟩:∃ w1,w1=(w.alloc (.cells #[.int .i64 a.1,.int .i64 a.2.1,.int .i64 a.2.2] 67)).alloc (.cells #[.int .i64 b.1,.int .i64 b.2.1,.int .i64 b.2.2] 67):=⟨_,rfl⟩
 have A:Kp Aa w w1:=by rw[s];exact ((Kr _ w).alloc _).alloc _
 obtain⟨g,-,i⟩:=cells3 (((Kr Aa (w.alloc (.cells #[.int .i64 a.1,.int .i64 a.2.1,.int .i64 a.2.2] 67))).alloc (.cells #[.int .i64 b.1,.int .i64 b.2.1,.int .i64 b.2.2] 67)).at_ (wN w _) id)
 have p:=wN (w.alloc (.cells #[.int .i64 a.1,.int .i64 a.2.1,.int .i64 a.2.2] 67)) (.cells #[.int .i64 b.1,.int .i64 b.2.1,.int .i64 b.2.2] 67)
 rw[show (w.alloc (.cells #[.int .i64 a.1,.int .i64 a.2.1,.int .i64 a.2.2] 67)).heap.size=w.heap.size+1 by simp] at p
 obtain⟨c,-,d⟩:=cells3 p
 rw[<- s] at g i c d ⊢
 obtain⟨n,v⟩:∃ m,w.heap.size=m:=⟨_,rfl⟩
 rw[v] at g i c d ⊢
 obtain⟨u,x⟩:∃ m,n+1=m:=⟨_,rfl⟩
 rw[x] at c d ⊢
 have C:=sE A
 clear s A p v x
 refine wp_region_held_drew (S:=λ w'=>w'.cell? n=some (.int .i64 a.1)/\w'.cell? ⟨n,2,none⟩=some (.int .i64 a.2.2)/\w'.cell? u=some (.int .i64 b.1)/\w'.cell? ⟨u,2,none⟩=some (.int .i64 b.2.2)) (by kernel_rfl) ?_ (λ l=>?_)
 .exact ⟨g,i,c,d⟩
 refine Ap 0 ?_;refine Ap 1 ?_;refine Ap 2 ?_;refine Ap 3 ?_;refine Ap 5 ?_;refine Ap 6 ?_;refine Ap 7 ?_;refine Ap 8 ?_
 try simp only[AB]
 refine Bp [4] ?_
 refine Ag rfl (λ K hK=>?_)
 go_simp
 refine(Compare_at _ _ _).mono ?_
 rintro e w2 ⟨rfl,rfl⟩
 have f:Kp Aa w1 w1.drew:=(Kr _ _).drew
 refine hK _ _ ?_ (λ l=>?_)
 .exact ⟨Ae f g,Ae f i,Ae f c,Ae f d⟩
 clear hK K
 try simp only[AB]
 refine Bp [9] ?_
 refine Ag rfl (λ K hK=>?_)
 go_simp
 refine(Compare_at _ _ _).mono ?_
 rintro e G ⟨rfl,rfl⟩
 refine hK _ _ ?_ (λ l=>?_)
 .exact ⟨Ae f g,Ae f i,Ae f c,Ae f d⟩
 clear hK K
 try simp only[AB]
 refine Bp [10] ?_
 refine Ag rfl (λ K hK=>?_)
 go_simp
 have j:Kp Aa w1 (w1.alloc (.cells #[.int .i64 (Fa b.2.2 a.2.2),.int .i64 (Fa a.1 b.1)] 3)).drew:=((Kr _ _).alloc _).drew
 refine hK _ _ ?_ (λ l=>?_)
 .exact ⟨Ae j g,Ae j i,Ae j c,Ae j d⟩
 clear hK K
 try simp only[AB]
 refine Bp [11] ?_
 refine Ag rfl (λ K hK=>?_)
 go_simp
 have q:(w1.alloc (.cells #[.int .i64 (Fa b.2.2 a.2.2),.int .i64 (Fa a.1 b.1)] 3)).drew.heap[w1.heap.size]?=some (.cells #[.int .i64 (Fa b.2.2 a.2.2),.int .i64 (Fa a.1 b.1)] 3 (0,0)):=wN w1 _
 obtain⟨B,y⟩:∃ B,B=(w1.alloc (.cells #[.int .i64 (Fa b.2.2 a.2.2),.int .i64 (Fa a.1 b.1)] 3)).drew:=⟨_,rfl⟩
 rw[<- y] at q j ⊢
 clear y
 refine(Or2_at (Fa b.2.2 a.2.2) (Fa a.1 b.1) w1.heap.size 2 _ (by simp[World.cell?,q]) (by simp[World.cell?,q])).mono ?_
 rintro e F ⟨r,E⟩
 obtain⟨z,t⟩:∃ z,Fh a b=z:=⟨_,rfl⟩
 replace r:e=.returned (.int .i64 z):=by rw[<- t];exact r
 subst r
 have D:=sE t
 clear t
 have k:Kp Aa w1 F:=j.then' E
 refine hK _ _ ?_ (λ l=>?_)
 .exact ⟨Ae k g,Ae k i,Ae k c,Ae k d⟩
 clear hK K
 try simp only[AB]
 refine Ap 12 ?_
 try simp only[AB]
 refine wpAnyH_done (by kernel_rfl) ?_ _
 go_wp2
 go_ret
 exact⟨by rw[D.o];rfl,C.o.then' k⟩

end

section
open Go.RowKit

section

variable {P:Program}

theorem run_append_t3(w:World)(t ty e:TypeId)(i:TypeInfo)(A:P.underlying t=some (.slice e))(z:P.info? e=some i)(L:i.zero=some (.agg #[(0:Int),(0:Int),(0:Int)]))(K:i.size=3)(I:i.bytes=24)
  (base:Nat) (v:Value) (n:Nat) (xs:List T3) (l:w.ownsRow base e 3 v n (Bi xs)) (u:Value) (c:List T3) (k:RowTo w u c) (M:n+c.length<=1000000) (H:base<=w.heap.size):
  ∃ d w',(Builtin.append_ #[t,t] ty #[v,u]).run P w=.ok d w'/\w'.ownsRow base e 3 d (n+c.length) (Bi (xs++c))/\w.grownBy w' v.ownBlock/\(d.ownBlock=v.ownBlock\/d.ownBlock=some w.heap.size):=by
 obtain⟨a,cap,rfl,f⟩:=k
 have G:Bi (xs++c)=Bi xs++Bi c:=by simp[Bi]
 cases a with
 |none=>
  have C:c=[]:=by
   cases c with
   |nil=>rfl
   |cons y c=>
    obtain⟨b,o,e,-⟩:=f 0 y rfl
    cases e
  subst C
  refine⟨v,w,Ew w t ty e i A z base 3 v n _ l cap,?_,⟨rfl,rfl,rfl,Nat.le_refl _,λ _ _ _=>rfl⟩,.inl rfl⟩
  rw[List.append_nil]
  exact l
 |some ad=>
  obtain⟨d,w',m,D,E,_,F⟩:=run_append_own_at (P:=P) w base t ty e i (.agg #[(0:Int),(0:Int),(0:Int)]) 3 24 A z L K I rfl (by omega) v n (Bi xs) l ad c.length cap (Bi c) (ET c)
   (by
    intro j u g
    have J:=(gE.1 g).1
    rw[ET] at J
    obtain⟨y,B⟩:∃ y,c[j/3]?=some y:=⟨_,List.getElem?_eq_getElem (by omega)⟩
    obtain⟨b,o,ea,c0,p,q⟩:=f _ y B
    injection ea with ea
    subst ea
    obtain⟨r,s,x⟩:=FV c _ y B
    rw[Addr.add_lit]
    have m:j=j/3*3\/j=j/3*3+1\/j=j/3*3+2:=by omega
    rcases m with e|e|e
    .rw [<- e] at c0 r
     rw[c0,<- g,r]
    .rw [Nat.add_assoc,<- e] at p
     rw[<- e] at s
     rw[p,<- g,s]
    .rw [Nat.add_assoc,<- e] at q
     rw[<- e] at x
     rw[q,<- g,x])
   (by
    intro u k
    unfold Bi at k
    obtain⟨y,_,f⟩:=List.mem_flatMap.1 k
    simp only[List.mem_cons,List.not_mem_nil,or_false] at f
    rcases f with rfl|rfl|rfl <;> rfl) (by unfold maxLen;omega) (by omega) H
  exact⟨d,w',m,by rw[G];exact D,E,F⟩

theorem wpList_append_t3(w:World){ops:Array Oper}{rest:List Oper}{o:Oper}{a:Act}{Q:Exit->Act->World->Prop}(m:o.guard=none)(s x:Operand)(t:TypeId)
  (r:o.op=.call {callee:=.builtin .append,args:=#[s,x],argTypes:=#[t,t]}) (e:TypeId) (i:TypeInfo) (C:P.underlying t=some (.slice e)) (p:P.info? e=some i) (F:i.zero=some (.agg #[(0:Int),(0:Int),(0:Int)])) (B:i.size=3) (l:i.bytes=24)
  (base:Nat) (v:Value) (n:Nat) (xs:List T3) (A:a.eval s=v) (y:w.ownsRow base e 3 v n (Bi xs)) (u:Value) (c:List T3) (E:a.eval x=u) (D:RowTo w u c) (q:n+c.length<=1000000) (k:base<=w.heap.size)
  (d:∀ b w',w'.ownsRow base e 3 b (n+c.length) (Bi (xs++c))->w.grownBy w' v.ownBlock->(b.ownBlock=v.ownBlock\/b.ownBlock=some w.heap.size)->wpList P ops Q rest (a.put o.dst b) w'):wpList P ops Q (o::rest) a w:=by
 refine wpList_plain m λ K hK=>?_
 obtain⟨b,w',z,f,g,j⟩:=run_append_t3 (P:=P) w t o.type e i C p F B l base v n xs y u c D q k
 unfold Oper.wp execOp
 simp only[r,resolve,invoke,builtin,Sem.run_bind,Sem.run_pure,Result.andThen_ok,List.map_toArray,List.map_cons,List.map_nil,A,E,z]
 exact hK _ _ (d b w' f g j)

end

section

attribute [local go_sem] run_eql_slice_nil

theorem CloneK_at(w:World)(v:Value)(L:List T3)(q:CY w v L)(E:L.length<=100000):
  Calls prog 70 #[v] w λ e w'=>∃ f,e=.returned f/\w'.ownsRow w.heap.size 67 3 f L.length (Bi L)/\Kp Aa w w':=by
 have j:=sE q
 obtain⟨a,c,rfl,r⟩:=q
 have G:=Dq
 cases a with
 |none=>
  have C:L=[]:=by
   cases L with
   |nil=>rfl
   |cons y ys=>
    obtain⟨b,e,-⟩:=r 0 y rfl
    cases e
  subst C
  go_enter func70,ntmps70
  go_wp2
  go_ret
  exact⟨_,rfl,World.ownsRow_nil _ _ _ _,Kr _ _⟩
 |some ad=>
  obtain⟨d,g⟩:∃ d,L.length=d:=⟨_,rfl⟩
  rw[g] at j E ⊢
  have i:=sE g
  clear r g
  go_enter func70,ntmps70
  have x:Sl (∀ T,(w.alloc (.cells #[] T)).ownsRow w.heap.size T 3 (.slice (some ⟨w.heap.size,0,none⟩) 0 0) 0 (Bi [])):=⟨λ T=>⟨rfl,.inr ⟨w.heap.size,0,#[],rfl,Nat.le_refl _,wN w _,Nat.le_refl _,Nat.zero_le _,rfl,rfl⟩⟩⟩
  have A:Sl (∀ T,CY (w.alloc (.cells #[] T)) (.slice (some ad) d c) L):=⟨λ T=>j.o.Ac ((Kr _ w).alloc _)⟩
  go_wp2_with (at_builtin;obtain ⟨F,n,s,t,u⟩:=info_parts infoKeep;go_loud (refine wpList_append_t3 _ rfl (.tmp 5) (.tmp 6) 34 rfl 67 F Dq n s t u w.heap.size _ 0 [] rfl (x.o _) _ L rfl (A.o _).to (by rw[i.o];omega) (by simp) ?_);intro f w' p m D;clear n s t u D)
  have B:Sl (w'.ownsRow w.heap.size 67 3 f d (Bi L)):=⟨by rwa [Nat.zero_add,i.o,List.nil_append] at p⟩
  have z:Sl (Kp Aa w w'):=⟨((Kr Aa w).alloc _).grown m (λ k e H=>by
   have l:some w.heap.size=some k:=e
   injection l with l
   omega)⟩
  clear p m
  go_ret
  exact⟨_,rfl,B.o,z.o⟩

theorem owns_cap{w:World}{base T z:Nat}{a:Option Addr}{n c m:Nat}{xs:List Value}(b:w.ownsRow base T z (.slice a n c) m xs):m<=c:=by
 rcases b.2 with ⟨e,k⟩|⟨g,cap,d,e,f,i,j,-⟩
 .omega
 .injection e with e1 e2 e3
  omega

theorem CY.take{w:World}{a:Option Addr}{n c:Nat}{L:List T3}(d:CY w (.slice a n c) L){k:Nat}(l:k<=n):CY w (.slice a k c) (L.take k):=by
 obtain⟨a',j,e,g⟩:=d
 injection e with e1 e2 e3
 subst e1 e3
 refine⟨a,c,by rw[List.length_take,Nat.min_eq_left (by omega)],λ i x b=>?_⟩
 have f:=(gE.1 b).1
 rw[List.length_take] at f
 rw[List.getElem?_take_of_lt (by omega)] at b
 exact g i x b

theorem CMost_of(w:World)(n:Int)(v:Value)(L:List T3)(z:CY w v L)(u:L.length<=100000)
  (s:∀ {base:Nat} {v:Value} {w:World},w.ownsRow base 67 3 v L.length (Bi L)->Calls prog 69 #[v,.func (.func 71) #[] #[]] w λ e w'=>e=.returned v/\w'.ownsRow base 67 3 v L.length (Bi (BN Fh L))/\Kp (λ k=>v.ownBlock=some k) w w'):
  Calls prog 26 #[.int .i64 n,v] w λ e w'=>∃ C,e=.returned C/\CY w' C ((BN Fh L).take n.toNat)/\Kp Aa w w':=by
 have q:=sE (CloneK_at w v L z u)
 obtain⟨a,c,rfl,M⟩:=z
 have g:Sl ((BN Fh L).length=L.length):=⟨(sortC_perm Fh L).length_eq⟩
 have p:Sl (∀ {base:Nat} {v:Value} {w:World},w.ownsRow base 67 3 v L.length (Bi L)->_):=⟨λ {base v w} j=>s (base:=base) (v:=v) (w:=w) j⟩
 clear s
 obtain⟨d,x⟩:∃ d,L.length=d:=⟨_,rfl⟩
 rw[x] at q p g u ⊢
 clear M x
 go_enter func26,ntmps26
 go_wp2_with fail
 refine q.o.mono ?_
 rintro e w1 ⟨Q,rfl,m,A⟩
 obtain⟨H,r,rfl⟩:=Aq m
 have E:=sE A
 have f:=sE m
 clear A m
 go_wp2_with fail
 refine(p.o f.o).mono ?_
 rintro e w2 ⟨rfl,y,B⟩
 have F:Sl (Kp Aa w w2):=⟨E.o.trans B (λ b N j=>by have:=(Ad f.o j).1;omega)⟩
 have G:Sl (CY w2 (.slice H d r) (BN Fh L)):=⟨CY.Bc (by rw[g.o];exact y)⟩
 obtain⟨k,O,t⟩:∃ k:Nat,min (max n 0) (d:Int)=(k:Int)/\k=min n.toNat d:=⟨min n.toNat d,by omega,rfl⟩
 have D:=sE t
 have K:k<=d:=by omega
 have P:k<=r:=by have:=owns_cap f.o;omega
 clear B y t
 go_wp2
 go_ret
 refine⟨_,rfl,?_,F.o⟩
 have I:=G.o.take K
 have J:(BN Fh L).take k=(BN Fh L).take n.toNat:=by
  rw[D.o,<- List.take_take,List.take_of_length_le (l:=BN Fh L) (i:=d) (by rw[g.o];exact Nat.le_refl _)]
 rwa [J] at I

theorem CMost_few(w:World)(n:Int)(v:Value)(L:List T3)(d:CY w v L)(c:L.length<=19):
  Calls prog 26 #[.int .i64 n,v] w λ e w'=>∃ a,e=.returned a/\CY w' a ((BN Fh L).take n.toNat)/\Kp Aa w w':=
 CMost_of w n v L d (by omega) λ b=>ByK_few mostC_ord MostCmp_at c b

end

end

section
open Go.RowKit

theorem areach39{g x:Nat}(o:g<3):BJ Dw [0] g x ↔ x<g:=by
 constructor
 .intro c
  refine AA.rec' (es:=woE Dw g) (rs:=woR [0] g) (p:=λ x=>x<g) (λ x b=>?_) (λ e m _ n=>?_) c
  .obtain ⟨a,j⟩:=FJ.1 b
   have:=List.mem_singleton.1 a
   omega
  .obtain ⟨a,j,d⟩:=FI.1 m
   have f:e.1<g:=n
   have l:e=(0,0,1)\/e=(1,0,2):=by
    have:=a
    simp only[Dw,List.mem_cons,List.not_mem_nil,or_false] at this
    exact this
   rcases l with rfl|rfl
   .show 1<g
    have k:¬ (1:Nat)=g:=d
    have:(0:Nat)<g:=f
    omega
   .show 2<g
    have k:¬ (2:Nat)=g:=d
    have:(1:Nat)<g:=f
    omega
 .intro c
  have b:x=0\/x=1:=by omega
  have i:BJ Dw [0] g 0:=BJ.root (by simp) (by omega)
  rcases b with rfl|rfl
  .exact i
  .exact BJ.step (e:=(0,0,1)) i (by simp[Dw]) (by show ¬ (1:Nat)=g;omega)

theorem kept39{g:Nat}(a:g<3)(l:List Nat):keptL Dw [0] l g=l.filter λ x=> !decide (x<g):=
 keptL_eq λ x=>by rw[areach39 a,decide_eq_true_eq]

theorem ereach39{g:Nat}:AA Dw [0] g ↔ g<3:=by
 constructor
 .rintro ⟨n,h⟩
  exact(steps40.1 h).2
 .intro h
  exact⟨g,steps40.2 ⟨rfl,h⟩⟩

theorem set39{fm:Nat->Bool}(h:∀ g,fm g=true ↔ AA Dw [0] g):Bo fm 20=[0,1,2]:=by
 have:fm=λ g=>decide (g<3):=by
  funext g
  have:=(h g).trans ereach39
  cases e:fm g with
  |true=>rw [e] at this;exact (dT (this.1 rfl)).symm
  |false=>rw [e] at this;exact (dF (λ q=>by have:=this.2 q;cases this)).symm
 rw[this]
 decide

theorem keeps39{fm:Nat->Bool}(h:∀ g,fm g=true ↔ AA Dw [0] g):keepsL (Aj CZ) Dw [0] (Bo fm 20) (Bo fm 20)=[(0,1,3),(1,1,2),(2,1,1)]:=by
 rw[set39 h]
 unfold keepsL
 simp only[List.map_cons,List.map_nil]
 rw[kept39 (by omega),kept39 (by omega),kept39 (by omega)]
 decide

theorem over39{fm:Nat->Bool}(a:∀ g,fm g=true ↔ AA Dw [0] g):overL Dw [0] (Bo fm 20) 2 (Bo fm 20)=[0,1]:=by
 rw[set39 a]
 unfold overL
 have b:keptL Dw [0] [0,1,2] 0=[0,1,2]:=by rw[kept39 (by omega)];decide
 have c:keptL Dw [0] [0,1,2] 1=[1,2]:=by rw[kept39 (by omega)];decide
 have d:keptL Dw [0] [0,1,2] 2=[2]:=by rw[kept39 (by omega)];decide
 simp[List.filter,b,c,d]

theorem ereach39b{g:Nat}:AA Dw [1] g ↔ g=1\/g=2:=by
 constructor
 .intro b
  refine AA.rec' (p:=λ g=>g=1\/g=2) (λ x f=>.inl (List.mem_singleton.1 f)) (λ e d _ i=>?_) b
  have c:e=(0,0,1)\/e=(1,0,2):=by
   have:=d
   simp only[Dw,List.mem_cons,List.not_mem_nil,or_false] at this
   exact this
  rcases c with rfl|rfl
  .exact .inl rfl
  .exact .inr rfl
 .have a:AA Dw [1] 1:=AA.root' (by simp)
  rintro (rfl|rfl)
  .exact a
  .exact AA.step' (e:=(1,0,2)) a (by simp[Dw])

theorem fm39b{fm:Nat->Bool}(h:∀ g,fm g=true ↔ AA Dw [1] g):fm=λ g=>decide (g=1\/g=2):=by
 funext g
 have:=(h g).trans ereach39b
 cases e:fm g with
 |true=>rw [e] at this;exact (dT (this.1 rfl)).symm
 |false=>rw [e] at this;exact (dF (λ q=>by have:=this.2 q;cases this)).symm

theorem lost39{fm:Nat->Bool}(h:∀ g,fm g=true ↔ AA Dw [1] g):lostL (Aj CZ) fm=[0]/\Bb (Aj CZ) (lostL (Aj CZ) fm)=1:=by
 rw[fm39b h]
 decide

theorem types39{fm:Nat->Bool}(j:∀ g,fm g=true ↔ AA Dw [1] g){a:List Nat}{M:List (Nat×Nat×Nat)}(m:a.Nodup)(d:∀ t,t∈a ↔ ∃ x∈Bo fm 20,(Bf (Aj CZ) x).ty=t)(b:M.Perm (a.map (Ev (Aj CZ) (Bo fm 20)))):M=[(1,2,2)]:=by
 have l:Bo fm 20=[1,2]:=by rw[fm39b j];decide
 rw[l] at d b
 have c:(Bf (Aj CZ) 1).ty=1:=by decide
 have k:(Bf (Aj CZ) 2).ty=1:=by decide
 have n:a.Perm [1]:=(List.perm_ext_iff_of_nodup m (by decide)).2 λ t=>by
  rw[d]
  constructor
  .rintro ⟨x,e,rfl⟩
   simp only[List.mem_cons,List.not_mem_nil,or_false] at e
   rcases e with rfl|rfl
   .rw [c];simp
   .rw [k];simp
  .intro q
   rw[List.mem_singleton.1 q]
   exact⟨1,by simp,c⟩
 have f:a=[1]:=List.perm_singleton.1 n
 rw[f] at b
 have i:Ev (Aj CZ) [1,2] 1=(1,2,2):=by decide
 rw[List.map_singleton,i] at b
 exact List.perm_singleton.1 b

end

section
open Go.RowKit

theorem COf_nil(a:Option Addr)(n c:Nat)(w:World):Calls prog 52 #[.pointer none,.slice a n c] w (RK (.tuple #[.pointer none,(1:Int)]) w):=by
 have f:=sE (MarkOf_nil 4096 (.slice a n c) w)
 go_enter func52,ntmps52
 go_wp2_with fail
 refine f.o.mono ?_
 rintro e w1 ⟨rfl,b⟩
 have d:=sE b
 clear b
 go_wp2
 go_ret2
 exact⟨rfl,d.o.alloc _⟩

theorem CKeeps_nil(a:Option Addr)(n c:Nat)(w:World):Calls prog 13 #[.pointer none,.slice a n c] w (RK (.tuple #[.slice none 0 0,(1:Int)]) w):=by
 have b:=sE (COf_nil a n c w)
 go_enter func13,ntmps13
 go_wp2_with fail
 refine b.o.mono ?_
 rintro e w1 ⟨rfl,d⟩
 go_wp2
 go_ret2
 exact⟨rfl,d⟩

end

section
open Go.RowKit

def frI(x:T3):Nat×Nat×Nat:=(x.1.toNat,x.2.1.toNat,x.2.2.toNat)

theorem frI_toI(L:List (Nat×Nat×Nat)):(L.map toI).map frI=L:=by
 rw[List.map_map]
 have:frI ∘ toI=id:=by funext x;rfl
 rw[this,List.map_id]

theorem sortsS_few:SortsS 19:=λ w base v L j s=>by
 have c:=sortC_perm typeC (L.map toI)
 have p:=Fu typeC_ord (L.map toI)
 have k:((BN typeC (L.map toI)).map frI).map toI=BN typeC (L.map toI):=by
  rw[List.map_map]
  refine(List.map_congr_left (g:=id) λ x q=>?_).trans (List.map_id _)
  obtain⟨y,-,rfl⟩:=List.mem_map.1 (c.mem_iff.1 q)
  rfl
 have d:(L.map toI).length=L.length:=List.length_map _
 refine(ByS_few (base:=base) (v:=v) (L:=L.map toI) (w:=w) typeC_ord TypeCmp_at (by rw[d];omega) (by rw[d,<- ES];exact j)).mono ?_
 rintro e w' ⟨n,i,o⟩
 rw[d] at i
 refine⟨n,(BN typeC (L.map toI)).map frI,?_,?_,?_,o⟩
 .have:=c.map frI
  rwa [frI_toI] at this
 .rw [List.pairwise_map]
  refine p.imp_of_mem λ {a b} l m f=>?_
  obtain⟨x,-,rfl⟩:=List.mem_map.1 (c.mem_iff.1 l)
  obtain⟨y,-,rfl⟩:=List.mem_map.1 (c.mem_iff.1 m)
  rw[typeC_lt] at f
  show(x.1:Int).toNat<=(y.1:Int).toNat
  have r:¬ (y.1:Int)<(x.1:Int):=f
  omega
 .rw [ES,k]
  exact i

/-! the example -/

theorem rowT_lit(w:World)(T:TypeId)(L:List T3):CY (w.alloc (.cells (Bi L).toArray T)).drew (.slice (some ⟨w.heap.size,0,none⟩) L.length L.length) L:=⟨_,_,rfl,λ i x b=>⟨w.heap.size,rfl,by
 obtain⟨x0,x1,x2⟩:=FV L i x b
 have a:(w.alloc (.cells (Bi L).toArray T)).drew.heap[w.heap.size]?=some (.cells (Bi L).toArray T (0,0)):=wN w _
 simp only[World.cell?,a]
 exact⟨by simpa using x0,by simpa using x1,by simpa using x2⟩⟩⟩

theorem rowT_lit'(w:World)(T:TypeId)(L:List T3):CY (w.alloc (.cells (Bi L).toArray T)) (.slice (some ⟨w.heap.size,0,none⟩) L.length L.length) L:=⟨_,_,rfl,λ i x a=>⟨w.heap.size,rfl,by
 obtain⟨x0,x1,x2⟩:=FV L i x a
 simp only[World.cell?,wN w _]
 exact⟨by simpa using x0,by simpa using x1,by simpa using x2⟩⟩⟩

theorem natsIn_one(w:World)(k:Nat)(T:TypeId):AO (w.alloc (.cells #[k] T)) (.slice (some ⟨w.heap.size,0,none⟩) 1 1) [k]:=⟨_,_,rfl,λ i x a=>⟨w.heap.size,0,rfl,by
 have b:i=0:=by
  have:=(gE.1 a).1
  simp at this
  omega
 subst b
 have:x=k:=by simpa using a.symm
 subst this
 simp only[World.cell?,wN w _]
 rfl⟩⟩

theorem ints_lit2(w:World)(T:TypeId)(b:T=3):IntsIn (w.alloc (.cells #[(0:Int),(1:Int)] T)) (.slice (some ⟨w.heap.size,0,none⟩) 2 2) [((0:Nat):Int),((1:Nat):Int)]:=by
 subst b
 have c:(w.alloc (.cells #[(0:Int),(1:Int)] 3)).heap[w.heap.size]?=some (.cells #[(0:Int),(1:Int)] 3 (0,0)):=wN w _
 refine Cz (base:=0) ⟨rfl,.inr ⟨w.heap.size,2,_,rfl,Nat.zero_le _,c,Nat.le_refl _,by decide,rfl,rfl⟩⟩ (λ x a=>?_)
 simp only[List.mem_cons,List.not_mem_nil,or_false] at a
 rcases a with rfl|rfl <;> decide

section

variable {w:World} {P:Sp} {W:Nat->Nat} {f:Nat->Bool}

theorem ex_half(a:Ex40 w P W f):P.n/2=20:=by
 obtain⟨-,-,-,-,-,b⟩:=a
 rw[b]

theorem keeps39_at(d:Ex40 w P W f)(v:Value)(r:AO w v [0]):
  Calls prog 13 #[.pointer (some P.s),v] w λ e w'=>∃ a c,3<=c/\e=.returned (.tuple #[.slice a 3 c,(0:Int)])/\CY w' (.slice a 3 c) [(0,1,3),(1,1,2),(2,1,1)]/\Kp Aa w w':=by
 have q:=ex_half d
 obtain⟨i,j,l,m,n,t⟩:=d
 refine(CKeeps_at P W f w CZ i j (by simp[CZ]) l m v [0] r (λ g p=>by rw[List.mem_singleton.1 p];exact objG40 (by omega)) (by simp)).mono ?_
 rw[n,q]
 rintro e w' ⟨fm,u,o,rfl,b,k⟩
 rw[keeps39 o] at b
 obtain⟨a,c,rfl⟩:=Aq b
 exact⟨a,c,owns_cap b,rfl,CY.Bc (by rw[ES] at b;exact b),k⟩

theorem over39_at(b:Ex40 w P W f)(v:Value)(t:AO w v [0]):
  Calls prog 16 #[.pointer (some P.s),(2:Int),v] w λ e w'=>∃ a c,e=.returned (.tuple #[.slice a 2 c,(0:Int)])/\IntsIn w' (.slice a 2 c) [((0:Nat):Int),((1:Nat):Int)]/\Kp Aa w w':=by
 have q:=ex_half b
 obtain⟨i,j,l,m,n,u⟩:=b
 refine(COver_at P W f w CZ i j (by simp[CZ]) l m 2 (by omega) v [0] t (λ g p=>by rw[List.mem_singleton.1 p];exact objG40 (by omega)) (by simp)).mono ?_
 rw[n,q]
 rintro e w' ⟨⟨r,-⟩|⟨-,fm,a,c,o,rfl,d⟩,k⟩
 .exact absurd ⟨⟨2,1,1,1,1⟩,by decide +kernel,rfl⟩ r
 .rw [over39 o] at d ⊢
  exact⟨a,c,rfl,ints_of_natrow (ns:=[0,1]) d (by decide),k⟩

theorem types39_at(l:Ex40 w P W f)(v:Value)(b:AO w v [1]):
  Calls prog 14 #[.pointer (some P.s),v] w λ e w'=>∃ a c,e=.returned (.tuple #[.slice a 1 c,(0:Int)])/\CY w' (.slice a 1 c) [(1,2,2)]/\Kp Aa w w':=by
 have z:=ex_half l
 obtain⟨o,p,q,r,m,C⟩:=l
 refine(CTypes_at P W f w CZ o p (by simp[CZ]) q r v [1] b (λ g y=>by rw[List.mem_singleton.1 y];exact objG40 (by omega)) (by simp) (by decide +kernel) 19 sortsS_few (λ n d j=>Nat.le_trans (FX 2 n d λ t B=>by
  obtain⟨x,b,rfl⟩:=j t B
  rw[m] at b
  rcases ereach39b.1 b with rfl|rfl <;> decide +kernel) (by omega))).mono ?_
 rw[m,z]
 rintro e w' ⟨fm,D,n,M,u,rfl,d,j,A,-,i,k⟩
 obtain rfl:=types39 u d j A
 obtain⟨a,c,rfl⟩:=Aq i
 exact⟨a,c,rfl,CY.Bc (by rw[ES] at i;exact i),k⟩

theorem lost39_at(c:Ex40 w P W f)(v:Value)(p:AO w v [1]):
  Calls prog 15 #[.pointer (some P.s),v] w (RK (.tuple #[(1:Int),(1:Int),(0:Int)]) w):=by
 obtain⟨d,i,j,l,m,q⟩:=c
 refine(CLost_at P W f w CZ d i (by simp[CZ]) j l v [1] p (λ g o=>by rw[List.mem_singleton.1 o];exact objG40 (by omega)) (by simp)).mono ?_
 rw[m]
 rintro e w' ⟨fm,n,rfl,k⟩
 obtain⟨a,b⟩:=lost39 n
 rw[b,a]
 exact⟨rfl,k⟩

end

end

end Go.Proofs.YtfkedlgpgmaemaaGreatDoor
