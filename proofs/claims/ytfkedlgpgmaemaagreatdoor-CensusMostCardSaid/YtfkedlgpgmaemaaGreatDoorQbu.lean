/-
  Lemmas for the laws, together: CenE, CenC, CenF, CenX, CenN, CenH.
-/
import Derived.Test.YtfkedlgpgmaemaaGreatDoorQbm
import Derived.Test.YtfkedlgpgmaemaaGreatDoorQbe
import Derived.Test.YtfkedlgpgmaemaaGreatDoorQbk
import Derived.Test.YtfkedlgpgmaemaaGreatDoorQac
import Derived.Test.YtfkedlgpgmaemaaGreatDoorQbl
import Derived.Test.YtfkedlgpgmaemaaGreatDoorQbg
import Derived.Test.YtfkedlgpgmaemaaGreatDoorQbn
set_option linter.unusedVariables false
set_option maxHeartbeats 16000000
namespace Go.Proofs.YtfkedlgpgmaemaaGreatDoor
open Tryz
section
open Go.RowKit

def toI(x:Nat×Nat×Nat):T3:=((x.1:Int),(x.2.1:Int),(x.2.2:Int))

theorem flatE_toI(L:List (Nat×Nat×Nat)):BZ L=Br (L.map toI):=by
 induction L with
 |nil=>rfl
 |cons x L ih=>
  show _::_::_::BZ L=_::_::_::Br (L.map toI)
  rw[ih]
  rfl

def Df(w:World)(v:Value)(L:List T3):Prop:=
 ∃ a cap,v=.slice a L.length cap/\∀ i x,L[i]?=some x->∃ b,a=some ⟨b,0,none⟩/\w.cell? ⟨b,i*3,none⟩=some (.int .i64 x.1)/\w.cell? ⟨b,i*3+1,none⟩=some (.int .i64 x.2.1)/\w.cell? ⟨b,i*3+2,none⟩=some (.int .i64 x.2.2)

theorem Df.Ad{w w':World}{v:Value}{L:List T3}(h:Df w v L)(k:Kp Aa w w'):Df w' v L:=by
 obtain⟨a,cap,rfl,h⟩:=h
 refine⟨a,cap,rfl,λ i x hi=>?_⟩
 obtain⟨b,rfl,h1,h2,h3⟩:=h i x hi
 exact⟨b,rfl,k.cell h1 (λ h=>h),k.cell h2 (λ h=>h),k.cell h3 (λ h=>h)⟩

def FO(w:World)(v:Value)(L:List T3):Prop:=
 ∃ a cap,v=.slice a L.length cap/\∀ i x,L[i]?=some x->∃ b o,a=some ⟨b,o,none⟩/\w.cell? ⟨b,o+i*3,none⟩=some (.int .i64 x.1)/\w.cell? ⟨b,o+i*3+1,none⟩=some (.int .i64 x.2.1)/\w.cell? ⟨b,o+i*3+2,none⟩=some (.int .i64 x.2.2)

theorem FO.Ad{w w':World}{v:Value}{L:List T3}(h:FO w v L)(k:Kp Aa w w'):FO w' v L:=by
 obtain⟨a,cap,rfl,h⟩:=h
 refine⟨a,cap,rfl,λ i x hi=>?_⟩
 obtain⟨b,o,rfl,h1,h2,h3⟩:=h i x hi
 exact⟨b,o,rfl,k.cell h1 (λ h=>h),k.cell h2 (λ h=>h),k.cell h3 (λ h=>h)⟩

theorem Df.to{w:World}{v:Value}{L:List T3}(h:Df w v L):FO w v L:=by
 obtain⟨a,cap,rfl,h⟩:=h
 refine⟨a,cap,rfl,λ i x hi=>?_⟩
 obtain⟨b,rfl,h1,h2,h3⟩:=h i x hi
 exact⟨b,0,rfl,by rw[Nat.zero_add];exact h1,by rw[Nat.zero_add];exact h2,by rw[Nat.zero_add];exact h3⟩

theorem Df.Be{w:World}{base T:Nat}{v:Value}{L:List T3}(h:w.ownsRow base T 3 v L.length (Br L)):Df w v L:=by
 obtain⟨a,c,rfl⟩:=AJ h
 refine⟨a,c,rfl,λ i x hx=>?_⟩
 have hi:=(gE.1 hx).1
 cases a with
 |none=>
  rcases h.2 with ⟨e,h0⟩|⟨g,cap,cur,e,-⟩
  .omega
  .injection e with e1
   cases e1
 |some ad=>
  have had:∃ b,ad=⟨b,0,none⟩:=by
   rcases h.2 with ⟨e,h0⟩|⟨g,cap,cur,e,-⟩
   .omega
   .injection e with e1
    injection e1 with e1
    exact⟨g,e1⟩
  obtain⟨b,rfl⟩:=had
  obtain⟨-,-,-,-,hr⟩:=AV.Be h
  obtain⟨c0,c1,c2⟩:=hr.cells hi
  have e:atL L i=x:=by unfold atL;rw [hx];rfl
  rw[e] at c0 c1 c2
  exact⟨b,rfl,c0,c1,c2⟩

theorem run_eq_keep(a b c a' b' c':Int)(w:World):(Op.equalIn 10000 67 (.agg #[.int .i64 a,.int .i64 b,.int .i64 c]) (.agg #[.int .i64 a',.int .i64 b',.int .i64 c'])).run prog w=.ok (a==a'&&(b==b'&&c==c')) w:=by
 have u3:=underlying3
 have a3:=isAgg3
 have z3:=sizeOf3
 have hS:prog.underlying 67=some (.struct (prog.fieldsOf 67)):=by kernel_rfl
 rw[show (10000:Nat)=9999+1 from rfl,run_equalIn_agg w 9999 67 _ _ hS (by kernel_rfl)]
 simp only[Program.fieldsOf,underlying67]
 go_simp
 by_cases h0:a=a' <;> by_cases h1:b=b' <;> by_cases h2:c=c' <;> simp[h0,h1,h2]

theorem run_neq_keep(a b c a' b' c':Int)(w:World):(binOp .neq 67 (.agg #[.int .i64 a,.int .i64 b,.int .i64 c]) (.agg #[.int .i64 a',.int .i64 b',.int .i64 c'])).run prog w=.ok (.bool (!(a==a'&&(b==b'&&c==c')))) w:=by
 rw[run_neq_struct,run_eq_keep];rfl

section

attribute [local go_sem ↓] run_neq_keep

theorem SameKeeps_any(cs:List T3)(v u:Value)(w:World)(hv:FO w v cs)(hu:FO w u cs)(hlen:cs.length<=9223372036854775806):
  Calls prog 20 #[v,u] w λ e w'=>e=.returned (.bool true)/\Kp Aa w w':=by
 have HV:=sE hv
 have HU:=sE hu
 obtain⟨va,vc,rfl,-⟩:=hv
 obtain⟨ua,uc,rfl,-⟩:=hu
 obtain⟨len,hlen'⟩:∃ len,cs.length=len:=⟨_,rfl⟩
 rw[hlen'] at HV HU hlen ⊢
 have HL:=sE hlen'
 clear hlen'
 go_enter func20,ntmps20
 go_wp2_with fail
 go_loopw [5] (λ y wr=>∃ j:Nat,j<=len/\y=.int .i64 (j:Nat)/\Kp Aa w wr) (λ y _=>len-(intOf y).toNat)
 case atStart=>exact ⟨0,Nat.zero_le _,rfl,Kr _ _⟩
 case round=>
  obtain⟨j,hj,rfl,hk⟩:=hrel
  by_cases hjl:j<len
  .have hjl':(j:Int)<len:=by omega
   obtain⟨va',vc',e,hx⟩:=HV.out
   injection e with e1 e3 e2
   clear e3
   subst e1 e2
   obtain⟨ua',uc',e,hy⟩:=HU.out
   injection e with e1 e3 e2
   clear e3
   subst e1 e2
   obtain⟨x,hxj⟩:∃ x,cs[j]?=some x:=⟨cs[j]'(by rw[HL.out];omega),List.getElem?_eq_getElem (by rw[HL.out];omega)⟩
   obtain⟨b,o,rfl,x0,x1,x2⟩:=hx j x hxj
   obtain⟨b',o',rfl,y0,y1,y2⟩:=hy j x hxj
   clear hx hy hxj
   replace x0:=hk.cell x0 (λ h=>h)
   replace x1:=hk.cell x1 (λ h=>h)
   replace x2:=hk.cell x2 (λ h=>h)
   replace y0:=hk.cell y0 (λ h=>h)
   replace y1:=hk.cell y1 (λ h=>h)
   replace y2:=hk.cell y2 (λ h=>h)
   go_wp2_with fail
   go_quiet (fail)
   go_wp2
   refine⟨⟨j+1,by omega,by go_num,hk.then' (Kp.Ah _)⟩,by simp only[intOf];omega⟩
  .have hjl':¬ (j:Int)<len:=by omega
   go_wp2
   go_ret
   exact⟨rfl,hk⟩

end

theorem FR(cs:List T3)(v u:Value)(w:World)(hv:Df w v cs)(hu:Df w u cs)(hlen:cs.length<=9223372036854775806):
  Calls prog 20 #[v,u] w λ e w'=>e=.returned (.bool true)/\Kp Aa w w':=SameKeeps_any cs v u w hv.to hu.to hlen

theorem run_eq_share(a b c a' b' c':Int)(w:World):(Op.equalIn 10000 82 (.agg #[.int .i64 a,.int .i64 b,.int .i64 c]) (.agg #[.int .i64 a',.int .i64 b',.int .i64 c'])).run prog w=.ok (a==a'&&(b==b'&&c==c')) w:=by
 have u3:=underlying3
 have a3:=isAgg3
 have z3:=sizeOf3
 have hS:prog.underlying 82=some (.struct (prog.fieldsOf 82)):=by kernel_rfl
 rw[show (10000:Nat)=9999+1 from rfl,run_equalIn_agg w 9999 82 _ _ hS (by kernel_rfl)]
 simp only[Program.fieldsOf,underlying82]
 go_simp
 by_cases h0:a=a' <;> by_cases h1:b=b' <;> by_cases h2:c=c' <;> simp[h0,h1,h2]

theorem run_neq_share(a b c a' b' c':Int)(w:World):(binOp .neq 82 (.agg #[.int .i64 a,.int .i64 b,.int .i64 c]) (.agg #[.int .i64 a',.int .i64 b',.int .i64 c'])).run prog w=.ok (.bool (!(a==a'&&(b==b'&&c==c')))) w:=by
 rw[run_neq_struct,run_eq_share];rfl

section

attribute [local go_sem ↓] run_neq_share

theorem SameShares_any(cs:List T3)(v u:Value)(w:World)(hv:FO w v cs)(hu:FO w u cs)(hlen:cs.length<=9223372036854775806):
  Calls prog 22 #[v,u] w λ e w'=>e=.returned (.bool true)/\Kp Aa w w':=by
 have HV:=sE hv
 have HU:=sE hu
 obtain⟨va,vc,rfl,-⟩:=hv
 obtain⟨ua,uc,rfl,-⟩:=hu
 obtain⟨len,hlen'⟩:∃ len,cs.length=len:=⟨_,rfl⟩
 rw[hlen'] at HV HU hlen ⊢
 have HL:=sE hlen'
 clear hlen'
 go_enter func22,ntmps22
 go_wp2_with fail
 go_loopw [5] (λ y wr=>∃ j:Nat,j<=len/\y=.int .i64 (j:Nat)/\Kp Aa w wr) (λ y _=>len-(intOf y).toNat)
 case atStart=>exact ⟨0,Nat.zero_le _,rfl,Kr _ _⟩
 case round=>
  obtain⟨j,hj,rfl,hk⟩:=hrel
  by_cases hjl:j<len
  .have hjl':(j:Int)<len:=by omega
   obtain⟨va',vc',e,hx⟩:=HV.out
   injection e with e1 e3 e2
   clear e3
   subst e1 e2
   obtain⟨ua',uc',e,hy⟩:=HU.out
   injection e with e1 e3 e2
   clear e3
   subst e1 e2
   obtain⟨x,hxj⟩:∃ x,cs[j]?=some x:=⟨cs[j]'(by rw[HL.out];omega),List.getElem?_eq_getElem (by rw[HL.out];omega)⟩
   obtain⟨b,o,rfl,x0,x1,x2⟩:=hx j x hxj
   obtain⟨b',o',rfl,y0,y1,y2⟩:=hy j x hxj
   clear hx hy hxj
   replace x0:=hk.cell x0 (λ h=>h)
   replace x1:=hk.cell x1 (λ h=>h)
   replace x2:=hk.cell x2 (λ h=>h)
   replace y0:=hk.cell y0 (λ h=>h)
   replace y1:=hk.cell y1 (λ h=>h)
   replace y2:=hk.cell y2 (λ h=>h)
   go_wp2_with fail
   go_quiet (fail)
   go_wp2
   refine⟨⟨j+1,by omega,by go_num,hk.then' (Kp.Ah _)⟩,by simp only[intOf];omega⟩
  .have hjl':¬ (j:Int)<len:=by omega
   go_wp2
   go_ret
   exact⟨rfl,hk⟩

end

theorem SameShares_yes(cs:List T3)(v u:Value)(w:World)(hv:Df w v cs)(hu:Df w u cs)(hlen:cs.length<=9223372036854775806):
  Calls prog 22 #[v,u] w λ e w'=>e=.returned (.bool true)/\Kp Aa w w':=SameShares_any cs v u w hv.to hu.to hlen

end

section
open Go.RowKit

def EE(a b:Int):Int:=if a<b then -1 else if b<a then 1 else 0

theorem NaN_at(x:Int)(w:World):Calls prog 110 #[.int .i64 x] w λ e w'=>e=.returned (.bool false)/\w'=w:=by
 have h:(x !=x)=false:=by simp
 go_enter func110,ntmps110
 go_wp2
 go_ret
 first
  |exact ⟨rfl,rfl⟩
  |exact ⟨by simp,rfl⟩

theorem Compare_at(a b:Int)(w:World):Calls prog 57 #[.int .i64 a,.int .i64 b] w λ e w'=>e=.returned (.int .i64 (EE a b))/\w'=w:=by
 go_enter func57,ntmps57
 go_wp2_with fail
 refine(NaN_at a _).mono ?_
 rintro e w1 ⟨rfl,rfl⟩
 go_wp2_with fail
 refine(NaN_at b _).mono ?_
 rintro e w2 ⟨rfl,rfl⟩
 by_cases h:a<b
 .have hC:EE a b=-1:=by unfold EE;rw [if_pos h]
  go_wp2
  go_ret
  exact⟨by rw[hC];rfl,rfl⟩
 .by_cases h2:b<a
  .have hC:EE a b=1:=by unfold EE;rw [if_neg h,if_pos h2]
   have h3:a > b:=h2
   go_wp2
   go_ret
   exact⟨by rw[hC];rfl,rfl⟩
  .have hC:EE a b=0:=by unfold EE;rw [if_neg h,if_neg h2]
   have h3:¬ a > b:=h2
   go_wp2
   go_ret
   exact⟨by rw[hC];rfl,rfl⟩

theorem Or2_at(x y:Int)(b c:Nat)(w:World)(h0:w.cell? ⟨b,0,none⟩=some (.int .i64 x))(h1:w.cell? ⟨b,1,none⟩=some (.int .i64 y)):
  Calls prog 72 #[.slice (some ⟨b,0,none⟩) 2 c] w λ e w'=>e=.returned (.int .i64 (if x=0 then y else x))/\Kp Aa w w':=by
 have H0:=sE h0
 have H1:=sE h1
 go_enter func72,ntmps72
 clear h0 h1
 go_wp2_with fail
 go_loopw [8] (λ z wr=>∃ j:Nat,j<=2/\z=.int .i64 (j:Nat)/\(1<=j->x=0)/\(j=2->y=0)/\Kp Aa w wr) (λ z _=>2-(intOf z).toNat)
 case atStart=>exact ⟨0,Nat.zero_le _,rfl,λ h=>by omega,λ h=>by omega,Kr _ _⟩
 case round=>
  obtain⟨j,hj,rfl,hx0,hy0,hk⟩:=hrel
  have c0:=Ac hk H0.out
  have c1:=Ac hk H1.out
  have hj3:j=0\/j=1\/j=2:=by omega
  rcases hj3 with rfl|rfl|rfl
  .by_cases e:x=0
   .subst e
    go_wp2
    exact⟨⟨1,by omega,by go_num,λ _=>by simp,λ h=>by omega,hk⟩,by simp only[intOf];omega⟩
   .have e1:(x !=0)=true:=by simp[e]
    go_wp2
    go_ret
    exact⟨by simp,hk⟩
  .obtain rfl:=hx0 (by omega)
   by_cases e:y=0
   .subst e
    go_wp2
    exact⟨⟨2,by omega,by go_num,λ _=>by simp,λ _=>by simp,hk⟩,by simp only[intOf];omega⟩
   .have e1:(y !=0)=true:=by simp[e]
    go_wp2
    go_ret
    exact⟨by simp,hk⟩
  .obtain rfl:=hx0 (by omega)
   obtain rfl:=hy0 rfl
   go_wp2
   go_ret
   exact⟨by simp,hk⟩

def Fq(a b:T3):Int:=if EE b.2.2 a.2.2=0 then EE a.1 b.1 else EE b.2.2 a.2.2

theorem FV{a b:T3}:Fq a b<0 ↔ b.2.2<a.2.2\/(a.2.2=b.2.2/\a.1<b.1):=by
 unfold Fq EE
 repeat' split
 all_goals omega

theorem FW:OrdC Fq:=⟨λ h=>by rw[FV] at h ⊢;omega,λ h k=>by rw[FV] at h k ⊢;omega⟩

def typeC(a b:T3):Int:=EE a.1 b.1

theorem typeC_lt{a b:T3}:typeC a b<0 ↔ a.1<b.1:=by
 unfold typeC EE
 repeat' split
 all_goals omega

theorem typeC_ord:OrdC typeC:=⟨λ h=>by rw[typeC_lt] at h ⊢;omega,λ h k=>by rw[typeC_lt] at h k ⊢;omega⟩

theorem TypeCmp_at(a b:T3)(w:World):Calls prog 56 #[Dr a,Dr b] w λ e w'=>e=.returned (.int .i64 (typeC a b))/\Kp Aa w w':=by
 unfold Dr
 go_enter func56,ntmps56
 go_wp2_with fail
 refine(Compare_at _ _ _).mono ?_
 rintro e w2 ⟨rfl,rfl⟩
 go_wp2
 go_ret
 exact⟨rfl,((Kr _ w).alloc _).alloc _⟩

theorem MostCmp_at(a b:T3)(w:World):Calls prog 71 #[Dr a,Dr b] w λ e w'=>e=.returned (.int .i64 (Fq a b))/\Kp Aa w w':=by
 unfold Dr
 go_enter func71,ntmps71
 go_wp2_with fail
 obtain⟨w1,hw1⟩:∃ w1,w1=(w.alloc (.cells #[.int .i64 a.1,.int .i64 a.2.1,.int .i64 a.2.2] 67)).alloc (.cells #[.int .i64 b.1,.int .i64 b.2.1,.int .i64 b.2.2] 67):=⟨_,rfl⟩
 have k1:Kp Aa w w1:=by rw[hw1];exact ((Kr _ w).alloc _).alloc _
 obtain⟨a0,-,a2⟩:=cells3 (((Kr Aa (w.alloc (.cells #[.int .i64 a.1,.int .i64 a.2.1,.int .i64 a.2.2] 67))).alloc (.cells #[.int .i64 b.1,.int .i64 b.2.1,.int .i64 b.2.2] 67)).at_ (wN w _) (λ h=>h))
 have hb:=wN (w.alloc (.cells #[.int .i64 a.1,.int .i64 a.2.1,.int .i64 a.2.2] 67)) (.cells #[.int .i64 b.1,.int .i64 b.2.1,.int .i64 b.2.2] 67)
 rw[show (w.alloc (.cells #[.int .i64 a.1,.int .i64 a.2.1,.int .i64 a.2.2] 67)).heap.size=w.heap.size+1 by simp] at hb
 obtain⟨b0,-,b2⟩:=cells3 hb
 rw[<- hw1] at a0 a2 b0 b2 ⊢
 obtain⟨ab,hab⟩:∃ m,w.heap.size=m:=⟨_,rfl⟩
 rw[hab] at a0 a2 b0 b2 ⊢
 obtain⟨bb,hbb⟩:∃ m,ab+1=m:=⟨_,rfl⟩
 rw[hbb] at b0 b2 ⊢
 have HK1:=sE k1
 clear hw1 k1 hb hab hbb
 refine wp_region_held_drew (S:=λ w'=>w'.cell? ⟨ab,0,none⟩=some (.int .i64 a.1)/\w'.cell? ⟨ab,2,none⟩=some (.int .i64 a.2.2)/\w'.cell? ⟨bb,0,none⟩=some (.int .i64 b.1)/\w'.cell? ⟨bb,2,none⟩=some (.int .i64 b.2.2)) (by kernel_rfl) ?_ (λ qZ=>?_)
 .exact ⟨a0,a2,b0,b2⟩
 refine Ao 0 ?_;refine Ao 1 ?_;refine Ao 2 ?_;refine Ao 3 ?_;refine Ao 5 ?_;refine Ao 6 ?_;refine Ao 7 ?_;refine Ao 8 ?_
 try simp only[Ay]
 refine Bl [4] ?_
 refine Af rfl (λ K hK=>?_)
 go_simp
 refine(Compare_at _ _ _).mono ?_
 rintro e w2 ⟨rfl,rfl⟩
 have kd1:Kp Aa w1 w1.drew:=(Kr _ _).drew
 refine hK _ _ ?_ (λ qZ=>?_)
 .exact ⟨Ac kd1 a0,Ac kd1 a2,Ac kd1 b0,Ac kd1 b2⟩
 clear hK K
 try simp only[Ay]
 refine Bl [9] ?_
 refine Af rfl (λ K hK=>?_)
 go_simp
 refine(Compare_at _ _ _).mono ?_
 rintro e w3 ⟨rfl,rfl⟩
 refine hK _ _ ?_ (λ qZ=>?_)
 .exact ⟨Ac kd1 a0,Ac kd1 a2,Ac kd1 b0,Ac kd1 b2⟩
 clear hK K
 try simp only[Ay]
 refine Bl [10] ?_
 refine Af rfl (λ K hK=>?_)
 go_simp
 have kd2:Kp Aa w1 (w1.alloc (.cells #[.int .i64 (EE b.2.2 a.2.2),.int .i64 (EE a.1 b.1)] 3)).drew:=((Kr _ _).alloc _).drew
 refine hK _ _ ?_ (λ qZ=>?_)
 .exact ⟨Ac kd2 a0,Ac kd2 a2,Ac kd2 b0,Ac kd2 b2⟩
 clear hK K
 try simp only[Ay]
 refine Bl [11] ?_
 refine Af rfl (λ K hK=>?_)
 go_simp
 have hbn:(w1.alloc (.cells #[.int .i64 (EE b.2.2 a.2.2),.int .i64 (EE a.1 b.1)] 3)).drew.heap[w1.heap.size]?=some (.cells #[.int .i64 (EE b.2.2 a.2.2),.int .i64 (EE a.1 b.1)] 3 (0,0)):=wN w1 _
 obtain⟨wz,hwz⟩:∃ wz,wz=(w1.alloc (.cells #[.int .i64 (EE b.2.2 a.2.2),.int .i64 (EE a.1 b.1)] 3)).drew:=⟨_,rfl⟩
 rw[<- hwz] at hbn kd2 ⊢
 clear hwz
 refine(Or2_at (EE b.2.2 a.2.2) (EE a.1 b.1) w1.heap.size 2 _ (by simp[World.cell?,hbn]) (by simp[World.cell?,hbn])).mono ?_
 rintro e w4 ⟨he,k4⟩
 obtain⟨z,hz⟩:∃ z,Fq a b=z:=⟨_,rfl⟩
 replace he:e=.returned (.int .i64 z):=by rw[<- hz];exact he
 subst he
 have HZ:=sE hz
 clear hz
 have k14:Kp Aa w1 w4:=kd2.then' k4
 refine hK _ _ ?_ (λ qZ=>?_)
 .exact ⟨Ac k14 a0,Ac k14 a2,Ac k14 b0,Ac k14 b2⟩
 clear hK K
 try simp only[Ay]
 refine Ao 12 ?_
 try simp only[Ay]
 refine wpAnyH_done (by kernel_rfl) ?_ _
 go_wp2
 go_ret
 exact⟨by rw[HZ.out];rfl,HK1.out.then' k14⟩

end

section
open Go.RowKit

section

variable {P:Program}

theorem run_append_t3(w:World)(t ty e:TypeId)(i:TypeInfo)(ht:P.underlying t=some (.slice e))(hi:P.info? e=some i)(hz:i.zero=some (.agg #[.int .i64 0,.int .i64 0,.int .i64 0]))(hsize:i.size=3)(hby:i.bytes=24)
  (base:Nat) (v:Value) (n:Nat) (xs:List T3) (hown:w.ownsRow base e 3 v n (Br xs)) (u:Value) (ys:List T3) (hu:FO w u ys) (hle:n+ys.length<=1000000) (hbase:base<=w.heap.size):
  ∃ v' w',(Builtin.append_ #[t,t] ty #[v,u]).run P w=.ok v' w'/\w'.ownsRow base e 3 v' (n+ys.length) (Br (xs++ys))/\w.grownBy w' v.ownBlock/\(v'.ownBlock=v.ownBlock\/v'.ownBlock=some w.heap.size):=by
 obtain⟨a,cap,rfl,hy⟩:=hu
 have happ:Br (xs++ys)=Br xs++Br ys:=by simp[Br]
 cases a with
 |none=>
  have h0:ys=[]:=by
   cases ys with
   |nil=>rfl
   |cons y ys=>
    obtain⟨b,o,e,-⟩:=hy 0 y rfl
    cases e
  subst h0
  refine⟨v,w,run_append_none w t ty e i ht hi base 3 v n _ hown cap,?_,⟨rfl,rfl,rfl,Nat.le_refl _,λ _ _ _=>rfl⟩,.inl rfl⟩
  rw[List.append_nil]
  exact hown
 |some ad=>
  obtain⟨v',w',hr,h2,h3,_,h5⟩:=run_append_own_at (P:=P) w base t ty e i (.agg #[.int .i64 0,.int .i64 0,.int .i64 0]) 3 24 ht hi hz hsize hby rfl (by omega) v n (Br xs) hown ad ys.length cap (Br ys) (Ew ys)
   (by
    intro j u hj
    have hjl:=(gE.1 hj).1
    rw[Ew] at hjl
    obtain⟨y,hyj⟩:∃ y,ys[j/3]?=some y:=⟨_,List.getElem?_eq_getElem (by omega)⟩
    obtain⟨b,o,ea,c0,c1,c2⟩:=hy _ y hyj
    injection ea with ea
    subst ea
    obtain⟨f0,f1,f2⟩:=Fj ys _ y hyj
    rw[Addr.add_lit]
    have hr:j=j/3*3\/j=j/3*3+1\/j=j/3*3+2:=by omega
    rcases hr with e|e|e
    .rw [<- e] at c0 f0
     rw[c0,<- hj,f0]
    .rw [Nat.add_assoc,<- e] at c1
     rw[<- e] at f1
     rw[c1,<- hj,f1]
    .rw [Nat.add_assoc,<- e] at c2
     rw[<- e] at f2
     rw[c2,<- hj,f2])
   (by
    intro u hu
    unfold Br at hu
    obtain⟨y,_,hy⟩:=List.mem_flatMap.1 hu
    simp only[List.mem_cons,List.not_mem_nil,or_false] at hy
    rcases hy with rfl|rfl|rfl <;> rfl) (by unfold maxLen;omega) (by omega) hbase
  exact⟨v',w',hr,by rw[happ];exact h2,h3,h5⟩

theorem FM(w:World){ops:Array Oper}{rest:List Oper}{o:Oper}{a:Act}{Q:Exit->Act->World->Prop}(hgd:o.guard=none)(s x:Operand)(t:TypeId)
  (ho:o.op=.call {callee:=.builtin .append,args:=#[s,x],argTypes:=#[t,t]}) (e:TypeId) (i:TypeInfo) (ht:P.underlying t=some (.slice e)) (hi:P.info? e=some i) (hz:i.zero=some (.agg #[.int .i64 0,.int .i64 0,.int .i64 0])) (hsize:i.size=3) (hby:i.bytes=24)
  (base:Nat) (v:Value) (n:Nat) (xs:List T3) (hs:a.eval s=v) (hown:w.ownsRow base e 3 v n (Br xs)) (u:Value) (ys:List T3) (hx:a.eval x=u) (hu:FO w u ys) (hle:n+ys.length<=1000000) (hbase:base<=w.heap.size)
  (h:∀ v' w',w'.ownsRow base e 3 v' (n+ys.length) (Br (xs++ys))->w.grownBy w' v.ownBlock->(v'.ownBlock=v.ownBlock\/v'.ownBlock=some w.heap.size)->wpList P ops Q rest (a.put o.dst v') w'):wpList P ops Q (o::rest) a w:=by
 refine wpList_plain hgd λ K hK=>?_
 obtain⟨v',w',hr,h2,h3,h5⟩:=run_append_t3 (P:=P) w t o.type e i ht hi hz hsize hby base v n xs hown u ys hu hle hbase
 unfold Oper.wp execOp
 simp only[ho,resolve,invoke,builtin,Sem.run_bind,Sem.run_pure,Result.andThen_ok,List.map_toArray,List.map_cons,List.map_nil,hs,hx,hr]
 exact hK _ _ (h v' w' h2 h3 h5)

theorem step_append_t3{w:World}{ops:Array Oper}{o:Oper}{a:Act}{K:Act->World->Prop}{Q:Exit->Act->World->Prop}{E:Prop}(hgd:o.guard=none){d:Tmp}(hd:o.dst=some d)(s x:Operand)(t:TypeId)
  (ho:o.op=.call {callee:=.builtin .append,args:=#[s,x],argTypes:=#[t,t]}) (e:TypeId) (i:TypeInfo) (ht:P.underlying t=some (.slice e)) (hi:P.info? e=some i) (hz:i.zero=some (.agg #[.int .i64 0,.int .i64 0,.int .i64 0])) (hsize:i.size=3) (hby:i.bytes=24)
  (base:Nat) (v:Value) (n:Nat) (xs:List T3) (hs:a.eval s=v) (hown:w.ownsRow base e 3 v n (Br xs)) (u:Value) (ys:List T3) (hx:a.eval x=u) (hu:FO w u ys) (hle:n+ys.length<=1000000) (hbase:base<=w.heap.size)
  (h:∀ v' w',w'.ownsRow base e 3 v' (n+ys.length) (Br (xs++ys))->w.grownBy w' v.ownBlock->(v'.ownBlock=v.ownBlock\/v'.ownBlock=some w.heap.size)->K (a.put (some d) v') w'):
  if Region.wanted o (yielded ops a.tmps)=true then Oper.wp P o a w K Q else E:=by
 have hw:Region.wanted o (yielded ops a.tmps)=true:=by simp[Region.wanted,hgd]
 rw[if_pos hw]
 obtain⟨v',w',hr,h2,h3,h5⟩:=run_append_t3 (P:=P) w t o.type e i ht hi hz hsize hby base v n xs hown u ys hu hle hbase
 unfold Oper.wp execOp
 simp only[ho,resolve,invoke,builtin,Sem.run_bind,Sem.run_pure,Result.andThen_ok,List.map_toArray,List.map_cons,List.map_nil,hs,hx,hr]
 have:=h v' w' h2 h3 h5
 rw[<- hd] at this
 exact this

end

section

attribute [local go_sem] run_eql_slice_nil

theorem CloneK_at(w:World)(v:Value)(L:List T3)(hv:Df w v L)(hl:L.length<=100000):
  Calls prog 70 #[v] w λ e w'=>∃ v',e=.returned v'/\w'.ownsRow w.heap.size 67 3 v' L.length (Br L)/\Kp Aa w w':=by
 have HV:=sE hv
 obtain⟨a,c,rfl,hx⟩:=hv
 have hU:=Eg
 cases a with
 |none=>
  have h0:L=[]:=by
   cases L with
   |nil=>rfl
   |cons y ys=>
    obtain⟨b,e,-⟩:=hx 0 y rfl
    cases e
  subst h0
  go_enter func70,ntmps70
  go_wp2
  go_ret
  exact⟨_,rfl,World.ownsRow_nil _ _ _ _,Kr _ _⟩
 |some ad=>
  obtain⟨len,hlen⟩:∃ len,L.length=len:=⟨_,rfl⟩
  rw[hlen] at HV hl ⊢
  have HL:=sE hlen
  clear hx hlen
  go_enter func70,ntmps70
  have HE:Sl (∀ T,(w.alloc (.cells #[] T)).ownsRow w.heap.size T 3 (.slice (some ⟨w.heap.size,0,none⟩) 0 0) 0 (Br [])):=⟨λ T=>⟨rfl,.inr ⟨w.heap.size,0,#[],rfl,Nat.le_refl _,wN w _,Nat.le_refl _,Nat.zero_le _,rfl,rfl⟩⟩⟩
  have HVk:Sl (∀ T,Df (w.alloc (.cells #[] T)) (.slice (some ad) len c) L):=⟨λ T=>HV.out.Ad ((Kr _ w).alloc _)⟩
  go_wp2_with (at_builtin;obtain ⟨i0,hi,hz0,hz1,hz2⟩:=info_parts FU;go_loud (refine FM _ rfl (.tmp 5) (.tmp 6) 34 rfl 67 i0 Eg hi hz0 hz1 hz2 w.heap.size _ 0 [] rfl (HE.out _) _ L rfl (HVk.out _).to (by rw[HL.out];omega) (by simp) ?_);intro v' w' hown hgrow hat;clear hi hz0 hz1 hz2 hat)
  have HW:Sl (w'.ownsRow w.heap.size 67 3 v' len (Br L)):=⟨by rwa [Nat.zero_add,HL.out,List.nil_append] at hown⟩
  have HK:Sl (Kp Aa w w'):=⟨((Kr Aa w).alloc _).grown hgrow (λ k e hk=>by
   have e':some w.heap.size=some k:=e
   injection e' with e'
   omega)⟩
  clear hown hgrow
  go_ret
  exact⟨_,rfl,HW.out,HK.out⟩

theorem owns_cap{w:World}{base T z:Nat}{a:Option Addr}{n c m:Nat}{xs:List Value}(h:w.ownsRow base T z (.slice a n c) m xs):m<=c:=by
 rcases h.2 with ⟨e,h0⟩|⟨g,cap,cur,e,g2,g3,g4,-⟩
 .omega
 .injection e with e1 e2 e3
  omega

theorem Df.take{w:World}{a:Option Addr}{n c:Nat}{L:List T3}(h:Df w (.slice a n c) L){k:Nat}(hk:k<=n):Df w (.slice a k c) (L.take k):=by
 obtain⟨a',c',e,hx⟩:=h
 injection e with e1 e2 e3
 subst e1 e3
 refine⟨a,c,by rw[List.length_take,Nat.min_eq_left (by omega)],λ i x hi=>?_⟩
 have h1:=(gE.1 hi).1
 rw[List.length_take] at h1
 rw[List.getElem?_take_of_lt (by omega)] at hi
 exact hx i x hi

theorem CMost_of(w:World)(n:Int)(v:Value)(L:List T3)(hv:Df w v L)(hl:L.length<=100000)
  (hby:∀ {base:Nat} {v:Value} {w:World},w.ownsRow base 67 3 v L.length (Br L)->Calls prog 69 #[v,.func (.func 71) #[] #[]] w λ e w'=>e=.returned v/\w'.ownsRow base 67 3 v L.length (Br (Cb Fq L))/\Kp (λ k=>v.ownBlock=some k) w w'):
  Calls prog 26 #[.int .i64 n,v] w λ e w'=>∃ v',e=.returned v'/\Df w' v' ((Cb Fq L).take n.toNat)/\Kp Aa w w':=by
 have HC:=sE (CloneK_at w v L hv hl)
 obtain⟨a,c,rfl,hx⟩:=hv
 have HS:Sl ((Cb Fq L).length=L.length):=⟨(FN Fq L).length_eq⟩
 have HBy:Sl (∀ {base:Nat} {v:Value} {w:World},w.ownsRow base 67 3 v L.length (Br L)->_):=⟨λ {base v w} h=>hby (base:=base) (v:=v) (w:=w) h⟩
 clear hby
 obtain⟨len,hlen⟩:∃ len,L.length=len:=⟨_,rfl⟩
 rw[hlen] at HC HBy HS hl ⊢
 clear hx hlen
 go_enter func26,ntmps26
 go_wp2_with fail
 refine HC.out.mono ?_
 rintro e w1 ⟨v1,rfl,ho1,k1⟩
 obtain⟨a1,c1,rfl⟩:=AJ ho1
 have HK1:=sE k1
 have HO1:=sE ho1
 clear k1 ho1
 go_wp2_with fail
 refine(HBy.out HO1.out).mono ?_
 rintro e w2 ⟨rfl,ho2,k2⟩
 have HK2:Sl (Kp Aa w w2):=⟨HK1.out.trans k2 (λ b hb h=>by have:=(Ae HO1.out h).1;omega)⟩
 have HR2:Sl (Df w2 (.slice a1 len c1) (Cb Fq L)):=⟨Df.Be (by rw[HS.out];exact ho2)⟩
 obtain⟨k,hk,hk2⟩:∃ k:Nat,min (max n 0) (len:Int)=(k:Int)/\k=min n.toNat len:=⟨min n.toNat len,by omega,rfl⟩
 have HK:=sE hk2
 have hkl:k<=len:=by omega
 have hkc:k<=c1:=by have:=owns_cap HO1.out;omega
 clear k2 ho2 hk2
 go_wp2
 go_ret
 refine⟨_,rfl,?_,HK2.out⟩
 have h1:=HR2.out.take hkl
 have h2:(Cb Fq L).take k=(Cb Fq L).take n.toNat:=by
  rw[HK.out,<- List.take_take,List.take_of_length_le (l:=Cb Fq L) (i:=len) (by rw[HS.out];exact Nat.le_refl _)]
 rwa [h2] at h1

theorem CMost_few(w:World)(n:Int)(v:Value)(L:List T3)(hv:Df w v L)(hl:L.length<=19):
  Calls prog 26 #[.int .i64 n,v] w λ e w'=>∃ v',e=.returned v'/\Df w' v' ((Cb Fq L).take n.toNat)/\Kp Aa w w':=
 CMost_of w n v L hv (by omega) λ h=>ByK_few FW MostCmp_at hl h

end

end

section
open Go.RowKit

theorem areach39{g x:Nat}(hg:g<3):AQ Dh [0] g x ↔ x<g:=by
 constructor
 .intro h
  refine AA.rec' (es:=woE Dh g) (rs:=woR [0] g) (p:=λ x=>x<g) (λ x hx=>?_) (λ e he _ ih=>?_) h
  .obtain ⟨h1,h2⟩:=mem_woR.1 hx
   have:=List.mem_singleton.1 h1
   omega
  .obtain ⟨h1,h2,h3⟩:=mem_woE.1 he
   have ih':e.1<g:=ih
   have h4:e=(0,0,1)\/e=(1,0,2):=by
    have:=h1
    simp only[Dh,List.mem_cons,List.not_mem_nil,or_false] at this
    exact this
   rcases h4 with rfl|rfl
   .show 1<g
    have h3':¬ (1:Nat)=g:=h3
    have:(0:Nat)<g:=ih'
    omega
   .show 2<g
    have h3':¬ (2:Nat)=g:=h3
    have:(1:Nat)<g:=ih'
    omega
 .intro h
  have hx:x=0\/x=1:=by omega
  have r0:AQ Dh [0] g 0:=AQ.root (by simp) (by omega)
  rcases hx with rfl|rfl
  .exact r0
  .exact AQ.step (e:=(0,0,1)) r0 (by simp[Dh]) (by show ¬ (1:Nat)=g;omega)

theorem kept39{g:Nat}(hg:g<3)(l:List Nat):keptL Dh [0] l g=l.filter λ x=> !decide (x<g):=
 keptL_eq λ x=>by rw[areach39 hg,decide_eq_true_eq]

theorem ereach39{g:Nat}:AA Dh [0] g ↔ g<3:=by
 constructor
 .rintro ⟨n,h⟩
  exact(steps40.1 h).2
 .intro h
  exact⟨g,steps40.2 ⟨rfl,h⟩⟩

theorem set39{fm:Nat->Bool}(h:∀ g,fm g=true ↔ AA Dh [0] g):Bb fm 20=[0,1,2]:=by
 have:fm=λ g=>decide (g<3):=by
  funext g
  have:=(h g).trans ereach39
  cases e:fm g with
  |true=>rw [e] at this;exact (dT (this.1 rfl)).symm
  |false=>rw [e] at this;exact (dF (λ q=>by have:=this.2 q;cases this)).symm
 rw[this]
 decide

theorem keeps39{fm:Nat->Bool}(h:∀ g,fm g=true ↔ AA Dh [0] g):keepsL (Ak CP) Dh [0] (Bb fm 20) (Bb fm 20)=[(0,1,3),(1,1,2),(2,1,1)]:=by
 rw[set39 h]
 unfold keepsL
 simp only[List.map_cons,List.map_nil]
 rw[kept39 (by omega),kept39 (by omega),kept39 (by omega)]
 decide

theorem over39{fm:Nat->Bool}(h:∀ g,fm g=true ↔ AA Dh [0] g):overL Dh [0] (Bb fm 20) 2 (Bb fm 20)=[0,1]:=by
 rw[set39 h]
 unfold overL
 have h0:keptL Dh [0] [0,1,2] 0=[0,1,2]:=by rw[kept39 (by omega)];decide
 have h1:keptL Dh [0] [0,1,2] 1=[1,2]:=by rw[kept39 (by omega)];decide
 have h2:keptL Dh [0] [0,1,2] 2=[2]:=by rw[kept39 (by omega)];decide
 simp[List.filter,h0,h1,h2]

theorem ereach39b{g:Nat}:AA Dh [1] g ↔ g=1\/g=2:=by
 constructor
 .intro h
  refine AA.rec' (p:=λ g=>g=1\/g=2) (λ x hx=>.inl (List.mem_singleton.1 hx)) (λ e he _ ih=>?_) h
  have h4:e=(0,0,1)\/e=(1,0,2):=by
   have:=he
   simp only[Dh,List.mem_cons,List.not_mem_nil,or_false] at this
   exact this
  rcases h4 with rfl|rfl
  .exact .inl rfl
  .exact .inr rfl
 .have h1:AA Dh [1] 1:=AA.root' (by simp)
  rintro (rfl|rfl)
  .exact h1
  .exact AA.step' (e:=(1,0,2)) h1 (by simp[Dh])

theorem fm39b{fm:Nat->Bool}(h:∀ g,fm g=true ↔ AA Dh [1] g):fm=λ g=>decide (g=1\/g=2):=by
 funext g
 have:=(h g).trans ereach39b
 cases e:fm g with
 |true=>rw [e] at this;exact (dT (this.1 rfl)).symm
 |false=>rw [e] at this;exact (dF (λ q=>by have:=this.2 q;cases this)).symm

theorem lost39{fm:Nat->Bool}(h:∀ g,fm g=true ↔ AA Dh [1] g):lostL (Ak CP) fm=[0]/\Bc (Ak CP) (lostL (Ak CP) fm)=1:=by
 rw[fm39b h]
 decide

theorem types39{fm:Nat->Bool}(h:∀ g,fm g=true ↔ AA Dh [1] g){ss:List Nat}{M:List (Nat×Nat×Nat)}(hn:ss.Nodup)(hs:∀ t,t∈ss ↔ ∃ x∈Bb fm 20,(BK (Ak CP) x).ty=t)(hp:M.Perm (ss.map (rowS (Ak CP) (Bb fm 20)))):M=[(1,2,2)]:=by
 have hS:Bb fm 20=[1,2]:=by rw[fm39b h];decide
 rw[hS] at hs hp
 have h1:(BK (Ak CP) 1).ty=1:=by decide
 have h2:(BK (Ak CP) 2).ty=1:=by decide
 have hs1:ss.Perm [1]:=(List.perm_ext_iff_of_nodup hn (by decide)).2 λ t=>by
  rw[hs]
  constructor
  .rintro ⟨x,hx,rfl⟩
   simp only[List.mem_cons,List.not_mem_nil,or_false] at hx
   rcases hx with rfl|rfl
   .rw [h1];simp
   .rw [h2];simp
  .intro q
   rw[List.mem_singleton.1 q]
   exact⟨1,by simp,h1⟩
 have e1:ss=[1]:=List.perm_singleton.1 hs1
 rw[e1] at hp
 have e2:rowS (Ak CP) [1,2] 1=(1,2,2):=by decide
 rw[List.map_singleton,e2] at hp
 exact List.perm_singleton.1 hp

end

section
open Go.RowKit

theorem COf_nil(a:Option Addr)(n c:Nat)(w:World):Calls prog 52 #[.pointer none,.slice a n c] w λ e w'=>e=.returned (.tuple #[.pointer none,.int .i64 1])/\Kp Aa w w':=by
 have HM:=sE (MarkOf_nil 4096 (.slice a n c) w)
 go_enter func52,ntmps52
 go_wp2_with fail
 refine HM.out.mono ?_
 rintro e w1 ⟨rfl,k1⟩
 have HK:=sE k1
 clear k1
 go_wp2
 go_ret2
 exact⟨rfl,HK.out.alloc _⟩

theorem CKeeps_nil(a:Option Addr)(n c:Nat)(w:World):Calls prog 13 #[.pointer none,.slice a n c] w λ e w'=>e=.returned (.tuple #[.slice none 0 0,.int .i64 1])/\Kp Aa w w':=by
 have HM:=sE (COf_nil a n c w)
 go_enter func13,ntmps13
 go_wp2_with fail
 refine HM.out.mono ?_
 rintro e w1 ⟨rfl,k1⟩
 go_wp2
 go_ret2
 exact⟨rfl,k1⟩

end

section
open Go.RowKit

def frI(x:T3):Nat×Nat×Nat:=(x.1.toNat,x.2.1.toNat,x.2.2.toNat)

theorem frI_toI(L:List (Nat×Nat×Nat)):(L.map toI).map frI=L:=by
 rw[List.map_map]
 have:frI ∘ toI=id:=by funext x;rfl
 rw[this,List.map_id]

theorem sortsS_few:SortsS 19:=λ w base v L hL hn=>by
 have hp:=FN typeC (L.map toI)
 have hpw:=sortC_pairwise typeC_ord (L.map toI)
 have hM:((Cb typeC (L.map toI)).map frI).map toI=Cb typeC (L.map toI):=by
  rw[List.map_map]
  refine(List.map_congr_left (g:=id) λ x hx=>?_).trans (List.map_id _)
  obtain⟨y,-,rfl⟩:=List.mem_map.1 (hp.mem_iff.1 hx)
  rfl
 have hlen:(L.map toI).length=L.length:=List.length_map _
 refine(ByS_few (base:=base) (v:=v) (L:=L.map toI) (w:=w) typeC_ord TypeCmp_at (by rw[hlen];omega) (by rw[hlen,<- flatE_toI];exact hL)).mono ?_
 rintro e w' ⟨he,ho,hk⟩
 rw[hlen] at ho
 refine⟨he,(Cb typeC (L.map toI)).map frI,?_,?_,?_,hk⟩
 .have:=hp.map frI
  rwa [frI_toI] at this
 .rw [List.pairwise_map]
  refine hpw.imp_of_mem λ {a b} ha hb h=>?_
  obtain⟨x,-,rfl⟩:=List.mem_map.1 (hp.mem_iff.1 ha)
  obtain⟨y,-,rfl⟩:=List.mem_map.1 (hp.mem_iff.1 hb)
  rw[typeC_lt] at h
  show(x.1:Int).toNat<=(y.1:Int).toNat
  have h':¬ (y.1:Int)<(x.1:Int):=h
  omega
 .rw [flatE_toI,hM]
  exact ho

/-! the example -/

theorem rowT_lit(w:World)(T:TypeId)(L:List T3):Df (w.alloc (.cells (Br L).toArray T)).drew (.slice (some ⟨w.heap.size,0,none⟩) L.length L.length) L:=⟨_,_,rfl,λ i x hx=>⟨w.heap.size,rfl,by
 obtain⟨x0,x1,x2⟩:=Fj L i x hx
 have hb:(w.alloc (.cells (Br L).toArray T)).drew.heap[w.heap.size]?=some (.cells (Br L).toArray T (0,0)):=wN w _
 simp only[World.cell?,hb]
 exact⟨by simpa using x0,by simpa using x1,by simpa using x2⟩⟩⟩

theorem rowT_lit'(w:World)(T:TypeId)(L:List T3):Df (w.alloc (.cells (Br L).toArray T)) (.slice (some ⟨w.heap.size,0,none⟩) L.length L.length) L:=⟨_,_,rfl,λ i x hx=>⟨w.heap.size,rfl,by
 obtain⟨x0,x1,x2⟩:=Fj L i x hx
 simp only[World.cell?,wN w _]
 exact⟨by simpa using x0,by simpa using x1,by simpa using x2⟩⟩⟩

theorem natsIn_one(w:World)(k:Nat)(T:TypeId):Bz (w.alloc (.cells #[.int .i64 (k:Nat)] T)) (.slice (some ⟨w.heap.size,0,none⟩) 1 1) [k]:=⟨_,_,rfl,λ i x hi=>⟨w.heap.size,0,rfl,by
 have h1:i=0:=by
  have:=(gE.1 hi).1
  simp at this
  omega
 subst h1
 have:x=k:=by simpa using hi.symm
 subst this
 simp only[World.cell?,wN w _]
 rfl⟩⟩

theorem ints_lit2(w:World)(T:TypeId)(hT:T=3):IntsIn (w.alloc (.cells #[.int .i64 0,.int .i64 1] T)) (.slice (some ⟨w.heap.size,0,none⟩) 2 2) [((0:Nat):Int),((1:Nat):Int)]:=by
 subst hT
 have hb:(w.alloc (.cells #[.int .i64 0,.int .i64 1] 3)).heap[w.heap.size]?=some (.cells #[.int .i64 0,.int .i64 1] 3 (0,0)):=wN w _
 refine ints_of_owns (base:=0) ⟨rfl,.inr ⟨w.heap.size,2,_,rfl,Nat.zero_le _,hb,Nat.le_refl _,by decide,rfl,rfl⟩⟩ (λ x hx=>?_)
 simp only[List.mem_cons,List.not_mem_nil,or_false] at hx
 rcases hx with rfl|rfl <;> decide

section

variable {w:World} {P:Sp} {W:Nat->Nat} {f:Nat->Bool}

theorem ex_half(h:Ex40 w P W f):P.n/2=20:=by
 obtain⟨-,-,-,-,-,h6⟩:=h
 rw[h6]

theorem keeps39_at(h:Ex40 w P W f)(v:Value)(hx:Bz w v [0]):
  Calls prog 13 #[.pointer (some ⟨P.s,0,none⟩),v] w λ e w'=>∃ a c,3<=c/\e=.returned (.tuple #[.slice a 3 c,.int .i64 0])/\Df w' (.slice a 3 c) [(0,1,3),(1,1,2),(2,1,1)]/\Kp Aa w w':=by
 have hh:=ex_half h
 obtain⟨h1,h2,h3,h4,h5,h6⟩:=h
 refine(CKeeps_at P W f w CP h1 h2 (by simp[CP]) h3 h4 v [0] hx (λ g hg=>by rw[List.mem_singleton.1 hg];exact objG40 (by omega)) (by simp)).mono ?_
 rw[h5,hh]
 rintro e w' ⟨fm,v',hf,rfl,ho,k⟩
 rw[keeps39 hf] at ho
 obtain⟨a,c,rfl⟩:=AJ ho
 exact⟨a,c,owns_cap ho,rfl,Df.Be (by rw[flatE_toI] at ho;exact ho),k⟩

theorem over39_at(h:Ex40 w P W f)(v:Value)(hx:Bz w v [0]):
  Calls prog 16 #[.pointer (some ⟨P.s,0,none⟩),.int .i64 2,v] w λ e w'=>∃ a c,e=.returned (.tuple #[.slice a 2 c,.int .i64 0])/\IntsIn w' (.slice a 2 c) [((0:Nat):Int),((1:Nat):Int)]/\Kp Aa w w':=by
 have hh:=ex_half h
 obtain⟨h1,h2,h3,h4,h5,h6⟩:=h
 refine(COver_at P W f w CP h1 h2 (by simp[CP]) h3 h4 2 (by omega) v [0] hx (λ g hg=>by rw[List.mem_singleton.1 hg];exact objG40 (by omega)) (by simp)).mono ?_
 rw[h5,hh]
 rintro e w' ⟨⟨hno,-⟩|⟨-,fm,a,c,hf,rfl,ho⟩,k⟩
 .exact absurd ⟨⟨2,1,1,1,1⟩,by decide +kernel,rfl⟩ hno
 .rw [over39 hf] at ho ⊢
  exact⟨a,c,rfl,ints_of_natrow (ns:=[0,1]) ho (by decide),k⟩

theorem types39_at(h:Ex40 w P W f)(v:Value)(hx:Bz w v [1]):
  Calls prog 14 #[.pointer (some ⟨P.s,0,none⟩),v] w λ e w'=>∃ a c,e=.returned (.tuple #[.slice a 1 c,.int .i64 0])/\Df w' (.slice a 1 c) [(1,2,2)]/\Kp Aa w w':=by
 have hh:=ex_half h
 obtain⟨h1,h2,h3,h4,h5,h6⟩:=h
 refine (CTypes_at P W f w CP h1 h2 (by simp [CP]) h3 h4 v [1] hx (λ g hg => by rw [List.mem_singleton.1 hg]; exact objG40 (by omega)) (by simp) (by decide +kernel) 19 sortsS_few (λ ss hn hs => Nat.le_trans (nodup_lt 2 ss hn λ t ht=>by
  obtain⟨x,hx,rfl⟩:=hs t ht
  rw[h5] at hx
  rcases ereach39b.1 hx with rfl|rfl <;> decide +kernel) (by omega))).mono ?_
 rw[h5,hh]
 rintro e w' ⟨fm,v',ss,M,hf,rfl,hn,hs,hp,-,ho,k⟩
 obtain rfl:=types39 hf hn hs hp
 obtain⟨a,c,rfl⟩:=AJ ho
 exact⟨a,c,rfl,Df.Be (by rw[flatE_toI] at ho;exact ho),k⟩

theorem lost39_at(h:Ex40 w P W f)(v:Value)(hx:Bz w v [1]):
  Calls prog 15 #[.pointer (some ⟨P.s,0,none⟩),v] w λ e w'=>e=.returned (.tuple #[.int .i64 1,.int .i64 1,.int .i64 0])/\Kp Aa w w':=by
 obtain⟨h1,h2,h3,h4,h5,h6⟩:=h
 refine(CLost_at P W f w CP h1 h2 (by simp[CP]) h3 h4 v [1] hx (λ g hg=>by rw[List.mem_singleton.1 hg];exact objG40 (by omega)) (by simp)).mono ?_
 rw[h5]
 rintro e w' ⟨fm,hf,rfl,k⟩
 obtain⟨e1,e2⟩:=lost39 hf
 rw[e2,e1]
 exact⟨rfl,k⟩

end

end

end Go.Proofs.YtfkedlgpgmaemaaGreatDoor
