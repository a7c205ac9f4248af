/-
  Lemmas for the laws, together: DocK, DocL, DocN, DocP, DocQ, DocS, DocT, DocU, DocO40.
-/
import Derived.Test.YtfkedlgpgmaemaaGreatDoorQbo
import Derived.Test.YtfkedlgpgmaemaaGreatDoorQbn
import Derived.Test.YtfkedlgpgmaemaaGreatDoorQbj
import Derived.Maps.RangeWalk
import Derived.Test.YtfkedlgpgmaemaaGreatDoorQap
import Derived.Test.YtfkedlgpgmaemaaGreatDoorQbm
set_option linter.unusedVariables false
set_option maxHeartbeats 16000000
namespace Go.Proofs.YtfkedlgpgmaemaaGreatDoor
open Tryz
section
open Go.RowKit

def celAt(cs:List Cel)(g:Nat):Option Cel:=cs.find? λ c=>c.g==g

end

section
open Go.RowKit

def szC(l:List Cel):Nat:=(l.map Cel.sz).sum

end

section
open Go.RowKit

theorem sorted_ext{m m':List Nat}(h:m.Pairwise (· <·))(h':m'.Pairwise (· <·))(hm:∀ z,z∈m ↔ z∈m'):m=m':=by
 have n1:m.Nodup:=h.imp (λ h=>Nat.ne_of_lt h)
 have n2:m'.Nodup:=h'.imp (λ h=>Nat.ne_of_lt h)
 exact List.Perm.eq_of_pairwise (λ a b _ _ h1 h2=>absurd h2 (Nat.lt_asymm h1)) h h' ((List.perm_ext_iff_of_nodup n1 n2).2 hm)

end

section
open Go.RowKit

def Er(cs:List Cel)(g:Int):Bool:=cs.any λ c=>decide ((c.g:Int)=g)&&decide (c.tag=1)

theorem isObj_take{cs:List Cel}{g:Int}{i:Nat}{c:Cel}(h:cs[i]?=some c):Er (cs.take (i+1)) g=(Er (cs.take i) g||(decide ((c.g:Int)=g)&&decide (c.tag=1))):=any_take h

theorem isObj_yes{cs:List Cel}{g:Int}:Er cs g=true ↔ ∃ c∈cs,(c.g:Int)=g/\c.tag=1:=by
 unfold Er
 rw[List.any_eq_true]
 constructor
 .rintro ⟨c,h,h1⟩
  rw[Bool.and_eq_true,decide_eq_true_iff,decide_eq_true_iff] at h1
  exact⟨c,h,h1⟩
 .rintro ⟨c,h,h1⟩
  exact⟨c,h,by rw[Bool.and_eq_true,decide_eq_true_iff,decide_eq_true_iff];exact h1⟩

end

section
open Go.RowKit

theorem setL_doc{es:List (Nat×Nat×Nat)}{rs m:List Nat}{fm:Nat->Bool}{H:Nat}(hf:∀ g,fm g=true ↔ AA es rs g)(hm:m.Pairwise (· <·))(hr:∀ z,z∈m ↔ AA es rs z)(hH:∀ z,AA es rs z->z<H):setL fm H=m:=
 sorted_ext (setL_up fm H) hm (λ z=>by
  unfold setL
  rw[List.mem_filter,List.mem_range,hf,hr]
  exact⟨λ h=>h.2,λ h=>⟨hH z h,h⟩⟩)

end

section
open Go.RowKit

open Classical in
noncomputable def reachL (es:List (Nat×Nat×Nat)) (rs:List Nat) (H:Nat):List Nat:=setL (λ g=>decide (AA es rs g)) H

theorem setL_reach{es:List (Nat×Nat×Nat)}{rs:List Nat}{fm:Nat->Bool}{H:Nat}(h:∀ g,fm g=true ↔ AA es rs g):setL fm H=reachL es rs H:=
 setL_congr λ i _=>by
  classical
  rw[Bool.eq_iff_iff,h,decide_eq_true_iff]

theorem mem_reachL{es:List (Nat×Nat×Nat)}{rs:List Nat}{H z:Nat}:z∈reachL es rs H ↔ z<H/\AA es rs z:=by
 classical
 unfold reachL setL
 rw[List.mem_filter,List.mem_range,decide_eq_true_iff]

theorem reach_obj{P:Sp}{W:Nat->Nat}{f:Nat->Bool}{cs:List Cel}(hc:CellsAt P W cs)(hst:∀ i,i<P.n/2->f i=Ak cs i){rs:List Nat}(ho:∀ g∈rs,CL cs g){x:Nat}(h:AA (AP P.ts W cs) rs x):CL cs x:=
 AA.rec' (p:=λ x=>CL cs x) ho (λ e he _ _=>(Ep hc hst he).2.1) h

structure AskD(cs:List Cel)(es:List (Nat×Nat×Nat))(rs:List Nat)(K:Nat)(la:Option Addr)(lc:Nat)(ea:Option Addr)(ec:Nat)(ra:Option Addr)(rc:Nat)(w:World):Prop where
 cw:Du w (.slice la cs.length lc) cs
 ew:Dl w (.slice ea es.length ec) es
 rw:AO w (.slice ra rs.length rc) rs
 cl:cs.length<=65536
 sz:szC cs<=65536
 cz:∀ c∈cs,c.sz<=65536
 el:es.length<=2147483648
 rl:rs.length<=65536
 k:K<=65536
 rk:∀ r∈rs,r<K
 ek:∀ e∈es,e.2.2<K
 ce:∀ z,AA es rs z->celAt cs z=some (celN cs z)
 zk:∀ z,AA es rs z->z<K

section

variable {cs:List Cel} {es:List (Nat×Nat×Nat)} {rs:List Nat} {K:Nat} {la ea ra:Option Addr} {lc ec rc:Nat} {w:World}

end

end

section
open Go.RowKit

def stF(es:List (Nat×Nat×Nat))(D:Nat->Option Nat)(n k z:Nat):Int:=
 match D z with
 |some d=>if d<=n\/(d=n+1/\((es.take k).any λ e=>e.2.2==z&&D e.1==some n)=true) then (d:Nat) else -1
 |none=>-1

theorem stF_yes{es:List (Nat×Nat×Nat)}{D:Nat->Option Nat}{n k z d:Nat}(h:D z=some d)(hd:d<=n):stF es D n k z=(d:Nat):=by
 unfold stF
 rw[h]
 dsimp only
 rw[if_pos (.inl hd)]

theorem stF_eq{es:List (Nat×Nat×Nat)}{D:Nat->Option Nat}{n k z:Nat}:stF es D n k z=(n:Nat) ↔ D z=some n:=by
 constructor
 .intro h
  unfold stF at h
  cases e:D z with
  |none=>rw [e] at h;dsimp only at h;omega
  |some d=>
   rw[e] at h
   dsimp only at h
   split at h
   .congr 1;omega
   .omega
 .exact λ h=>stF_yes h (Nat.le_refl _)

theorem stF_zero{es:List (Nat×Nat×Nat)}{rs:List Nat}{D:Nat->Option Nat}(h:Gg es rs D)(z:Nat):stF es D 0 0 z=if z∈rs then 0 else -1:=by
 have h0:D z=some 0 ↔ z∈rs:=by
  rw[h z 0]
  constructor
  .rintro ⟨h1,-⟩
   generalize e:0=n at h1
   cases h1 with
   |root h=>exact h
   |step _ _=>omega
  .exact λ h=>⟨.root h,λ _ _=>Nat.zero_le _⟩
 by_cases hz:z∈rs
 .rw [if_pos hz,stF_yes (h0.2 hz) (Nat.le_refl _)]
  rfl
 .rw [if_neg hz]
  unfold stF
  cases e:D z with
  |none=>rfl
  |some d=>
   dsimp only
   rw[if_neg]
   rintro (h1|⟨-,h1⟩)
   .obtain rfl:d=0:=by omega
    exact hz (h0.1 e)
   .simp at h1

theorem stF_same{es:List (Nat×Nat×Nat)}{D:Nat->Option Nat}{n k:Nat}{x:Nat×Nat×Nat}(hk:es[k]?=some x)(h:¬ (D x.1=some n/\stF es D n k x.2.2<0))(z:Nat):stF es D n (k+1) z=stF es D n k z:=by
 unfold stF at h ⊢
 rw[List.take_add_one,hk]
 cases e:D z with
 |none=>rfl
 |some d=>
  dsimp only
  by_cases h1:x.2.2=z/\D x.1=some n
  .obtain ⟨rfl,h2⟩:=h1
   rw[e] at h
   dsimp only at h
   by_cases h3:d<=n\/(d=n+1/\((es.take k).any λ e=>e.2.2==x.2.2&&D e.1==some n)=true)
   .rw [if_pos h3,if_pos]
    rcases h3 with h3|⟨h3,h4⟩
    .exact .inl h3
    .exact .inr ⟨h3,by rw[List.any_append,h4];rfl⟩
   .rw [if_neg h3] at h
    exact absurd ⟨h2,by decide⟩ h
  .have h2:((es.take k++(some x).toList).any λ e=>e.2.2==z&&D e.1==some n)=((es.take k).any λ e=>e.2.2==z&&D e.1==some n):=by
    rw[List.any_append]
    have h3:(x.2.2==z&&D x.1==some n)=false:=by
     rw[Bool.and_eq_false_iff,beq_eq_false_iff_ne,beq_eq_false_iff_ne]
     by_cases h4:x.2.2=z
     .exact .inr λ h5=>h1 ⟨h4,h5⟩
     .exact .inl h4
    simp[h3]
   rw[h2]

theorem stF_new{es:List (Nat×Nat×Nat)}{rs:List Nat}{D:Nat->Option Nat}(hD:Gg es rs D){n k:Nat}{x:Nat×Nat×Nat}(hk:es[k]?=some x)(h1:D x.1=some n)(h2:stF es D n k x.2.2<0)(z:Nat):stF es D n (k+1) z=if z=x.2.2 then ((n+1:Nat):Int) else stF es D n k z:=by
 by_cases hz:z=x.2.2
 .subst hz
  rw[if_pos rfl]
  obtain⟨d,h3,h4⟩:=hD.near (List.mem_of_getElem? hk) h1
  have h5:¬ d<=n:=λ h5=>by
   rw[stF_yes h3 h5] at h2
   omega
  unfold stF
  rw[h3]
  dsimp only
  rw[if_pos]
  .congr 1;omega
  .refine .inr ⟨by omega,?_⟩
   rw[List.take_add_one,hk,List.any_append]
   simp[h1]
 .rw [if_neg hz]
  unfold stF
  cases e:D z with
  |none=>rfl
  |some d=>
   dsimp only
   rw[List.take_add_one,hk,List.any_append]
   have h3:(x.2.2==z)=false:=beq_eq_false_iff_ne.2 λ q=>hz q.symm
   rw[show ((some x).toList.any λ e=>e.2.2==z&&D e.1==some n)=false by simp only[Option.toList,List.any_cons,List.any_nil,h3,Bool.false_and,Bool.or_false],Bool.or_false]

theorem Gg.pred{es:List (Nat×Nat×Nat)}{rs:List Nat}{D:Nat->Option Nat}(h:Gg es rs D){n g:Nat}(hg:D g=some (n+1)):∃ e∈es,e.2.2=g/\D e.1=some n:=by
 obtain⟨h1,h2⟩:=(h g (n+1)).1 hg
 generalize h0:n+1=m at h1
 cases h1 with
 |root h=>omega
 |@step k e hs he=>
  obtain rfl:n=k:=by omega
  refine⟨e,he,rfl,(h _ _).2 ⟨hs,λ m hm=>?_⟩⟩
  have:=h2 (m+1) (.step hm he)
  omega

theorem stF_round{es:List (Nat×Nat×Nat)}{rs:List Nat}{D:Nat->Option Nat}(hD:Gg es rs D)(n z:Nat):stF es D n es.length z=stF es D (n+1) 0 z:=by
 unfold stF
 cases e:D z with
 |none=>rfl
 |some d=>
  dsimp only
  rw[List.take_length]
  by_cases h1:d<=n
  .rw [if_pos (.inl h1),if_pos (.inl (by omega))]
  .by_cases h2:d=n+1
   .subst h2
    obtain⟨x,q1,q2,q3⟩:=hD.pred e
    rw[if_pos (.inr ⟨rfl,List.any_eq_true.2 ⟨x,q1,by simp[q2,q3]⟩⟩),if_pos (.inl (Nat.le_refl _))]
   .rw [if_neg (by rintro (q|⟨q,-⟩) <;> omega),if_neg]
    rintro (q|⟨-,q⟩)
    .omega
    .simp at q

theorem countP_more{p q:Nat->Bool}:∀ {l:List Nat},(∀ x,p x=true->q x=true)->(∃ x∈l,q x=true/\p x=false)->l.countP p<l.countP q
 |[],_,⟨_,h,_⟩=>by cases h
 |y::l,hpq,⟨x,hx,h1,h2⟩=>by
  have hle:l.countP p<=l.countP q:=List.countP_mono_left λ x _=>hpq x
  rw[List.countP_cons,List.countP_cons]
  rcases List.mem_cons.1 hx with rfl|hx
  .rw [h1,h2];simp;omega
  .have:=countP_more hpq ⟨x,hx,h1,h2⟩
   have h3:=hpq y
   cases hp:p y
   .simp;omega
   .rw [h3 hp];simp;omega

theorem dist_lt{es:List (Nat×Nat×Nat)}{rs:List Nat}{D:Nat->Option Nat}(hD:Gg es rs D){m:List Nat}(hm:∀ z,(D z).isSome=true->z∈m){g d:Nat}(hg:D g=some d):d<m.length:=by
 have hc:∀ n,n<=d->n+1<=m.countP λ z=>match D z with|some k=>decide (k<=n)|none=>false:=by
  intro n
  induction n with
  |zero=>
   intro h
   obtain⟨x,hx⟩:=hD.chain d g hg 0 h
   have:0<m.countP λ z=>match D z with|some k=>decide (k<=0)|none=>false:=List.countP_pos_iff.2 ⟨x,hm x (by rw[hx];rfl),by rw[hx];rfl⟩
   omega
  |succ n ih=>
   intro h
   obtain⟨x,hx⟩:=hD.chain d g hg (n+1) h
   have h1:=ih (by omega)
   have h2:=countP_more (l:=m) (p:=λ z=>match D z with|some k=>decide (k<=n)|none=>false) (q:=λ z=>match D z with|some k=>decide (k<=n+1)|none=>false) (λ z hz=>by
    cases e:D z with
    |none=>rw [e] at hz;cases hz
    |some k=>
     rw[e] at hz
     dsimp only at hz ⊢
     rw[decide_eq_true_iff] at hz ⊢
     omega) ⟨x,hm x (by rw[hx];rfl),by rw[hx];simp,by rw[hx];simp⟩
   omega
 have h1:=hc d (Nat.le_refl _)
 have h2:m.countP _<=m.length:=List.countP_le_length (p:=λ z=>match D z with|some k=>decide (k<=d)|none=>false)
 omega

end

section
open Go.RowKit

def AtIs(l:List Nat)(x:Nat)(p:Int):Prop:=(∃ i:Nat,p=(i:Nat)/\l[i]?=some x)\/(p=-1/\¬ x∈l)

set_option maxRecDepth 20000 in
theorem DAt40_at(w:World)(a:Option Addr)(c:Nat)(l:List Nat)(x:Nat)(hx:AO w (.slice a l.length c) l)(hl:l.length<=65536):
  Calls prog 90 #[.slice a l.length c,x] w λ e w'=>∃ p:Int,e=.returned (.int .i64 p)/\AtIs l x p/\w=w':=by
 have HX:=sE hx
 obtain⟨n,hn⟩:∃ n,l.length=n:=⟨_,rfl⟩
 have HN:=sE hn
 rw[hn] at HX hl ⊢
 clear hx hn
 go_enter func90,ntmps90
 go_wp2_with fail
 go_loopw [4,5] (λ _ x5 wr=>∃ j:Nat,x5=.int .i64 j/\j<=n/\Sl (¬ x∈l.take j)/\w=wr) (λ _ x5 _=>n-(intOf x5).toNat)
 case atStart=>exact ⟨0,rfl,Nat.zero_le _,⟨by simp⟩,rfl⟩
 case round=>
  obtain⟨j,rfl,hj,HNo,rfl⟩:=hrel
  by_cases hjl:j<n
  .have hjl':(j:Int)<(n:Int):=by omega
   obtain⟨y,hy⟩:∃ y,l[j]?=some y:=⟨l[j]'(by rw[HN.o];exact hjl),by simp⟩
   obtain⟨a',c',e,hcell⟩:=HX.o
   obtain⟨b,o,hb,y0⟩:=hcell j y hy
   have ha:a=some ⟨b,o,none⟩:=by injection e with h1;rw [h1];exact hb
   subst ha
   have HY:=sE hy
   clear e hcell hb hy
   by_cases hyx:y=x
   .have e1:((y:Int)==(x:Int))=true:=by rw[hyx];simp
    have HP:Sl (AtIs l x (j:Nat)):=⟨.inl ⟨j,rfl,by rw[<- hyx];exact HY.o⟩⟩
    clear hyx
    go_wp2
    go_ret
    exact⟨_,rfl,HP.o,rfl⟩
   .have e1:((y:Int)==(x:Int))=false:=by rw[beq_eq_false_iff_ne];omega
    have HNo2:Sl (¬ x∈l.take (j+1)):=⟨by
     rw[List.take_add_one,HY.o,List.mem_append]
     rintro (h|h)
     .exact HNo.o h
     .have h2:x=y:=by simpa using h
      exact hyx h2.symm⟩
    clear hyx
    go_wp2
    exact⟨⟨j+1,by go_num,by omega,HNo2,trivial⟩,by simp only[intOf];omega⟩
  .have hjl':¬ (j:Int)<(n:Int):=by omega
   have HP:Sl (AtIs l x (-1)):=⟨.inr ⟨rfl,by
    have:=HNo.o
    rwa [List.take_of_length_le (by rw[HN.o];omega)] at this⟩⟩
   go_wp2
   go_ret
   exact⟨_,rfl,HP.o,rfl⟩

def GH(w:World)(b n:Nat)(F:Nat->Int):Prop:=∃ cs,w.heap[b]?=some (.cells cs 3 (0,0))/\cs.size=n/\∀ j,j<n->cs[j]?=some (.int .i64 (F j))

theorem GH.Ac{w w':World}{b n:Nat}{F:Nat->Int}(h:GH w b n F)(k:Kp Aa w w'):GH w' b n F:=by
 obtain⟨cs,h1,h2⟩:=h
 exact⟨cs,k.at_ h1 id,h2⟩

theorem GH.cell{w:World}{b n:Nat}{F:Nat->Int}(h:GH w b n F){j:Nat}(hj:j<n):w.cell? ⟨b,j,none⟩=some (.int .i64 (F j))/\w.frozen? ⟨b,j,none⟩=false:=by
 obtain⟨cs,h1,h2,h3⟩:=h
 exact⟨by simp only[World.cell?,h1];exact h3 j hj,by simp[World.frozen?,h1]⟩

theorem GH.store{w:World}{b n:Nat}{F:Nat->Int}(h:GH w b n F){j:Nat}(hj:j<n)(x:Int):GH (w.setCell ⟨b,j,none⟩ (.int .i64 x)) b n (λ i=>if i=j then x else F i):=by
 obtain⟨cs,h1,h2,h3⟩:=h
 refine⟨cs.setIfInBounds j (.int .i64 x),bZ h1 _,by simp[h2],λ i hi=>?_⟩
 dsimp only
 by_cases e:i=j
 .subst e
  simp[h2,hi]
 .rw [Array.getElem?_setIfInBounds_ne (λ q=>e q.symm),if_neg e]
  exact h3 i hi

theorem GH.congr{w:World}{b n:Nat}{F G:Nat->Int}(h:GH w b n F)(hf:∀ j,j<n->F j=G j):GH w b n G:=by
 obtain⟨cs,h1,h2,h3⟩:=h
 exact⟨cs,h1,h2,λ j hj=>by rw[<- hf j hj];exact h3 j hj⟩

theorem MakeNumsI(w:World)(H:Nat)(hH:H<=65536):∃ w',(Instr.makeSlice 24 (.int .i64 H) (.int .i64 H)).run prog w=.ok (.slice (some ⟨w.heap.size,0,none⟩) H H) w'/\GH w' w.heap.size H (λ _=>0)/\Kp Aa w w':=by
 obtain⟨i0,hi,hz0,hz1,hz2⟩:=info_parts Be
 have h:=run_makeSlice (P:=prog) (w:=w) 24 3 i0 (.int .i64 0) Ar hi hz0 .i64 .i64 (H:Nat) (H:Nat) (by omega) (by omega) (by rw[hz1];omega) (by rw[hz2];omega) (by omega)
 simp only[Int.toNat_natCast] at h
 refine⟨_,h,⟨_,wN w _,?_,λ j hj=>?_⟩,(Kr _ w).alloc _⟩
 .rw [hz1,<- Array.length_toList,show (Value.int .i64 0).cells=#[Value.int .i64 0] from rfl,toList_madeCells_one,List.length_replicate]
  omega
 .rw [hz1,<- Array.getElem?_toList,show (Value.int .i64 0).cells=#[Value.int .i64 0] from rfl,toList_madeCells_one,List.getElem?_replicate,if_pos (by omega)]

theorem AO.keepB{S:Nat->Prop}{w w':World}{v:Value}{xs:List Nat}(h:AO w v xs)(k:Kp S w w')(hS:∀ b,b<w.heap.size->¬ S b):AO w' v xs:=by
 obtain⟨a,cap,hv,h⟩:=h
 exact⟨a,cap,hv,λ i x hx=>by
  obtain⟨b,o,h1,h2⟩:=h i x hx
  exact⟨b,o,h1,k.cell h2 (hS b (cell_in h2))⟩⟩

theorem Dl.keepB{S:Nat->Prop}{w w':World}{v:Value}{es:List (Nat×Nat×Nat)}(h:Dl w v es)(k:Kp S w w')(hS:∀ b,b<w.heap.size->¬ S b):Dl w' v es:=by
 obtain⟨a,cap,hv,h⟩:=h
 exact⟨a,cap,hv,λ i x hx=>by
  obtain⟨b,h1,h2,h3,h4,h5⟩:=h i x hx
  exact⟨b,h1,Nat.lt_of_lt_of_le h2 k.size,k.cell h3 (hS b h2),k.cell h4 (hS b h2),k.cell h5 (hS b h2)⟩⟩

end

section
open Go.RowKit

set_option maxRecDepth 20000 in
theorem DObject40_at(P:Sp)(W:Nat->Nat)(cs:List Cel)(rb q:Nat)(lv:Value)(w:World)(g:Int)(hd:DocAt w rb q P.n W lv)(hc:CellsAt P W cs)(hv:A8 w lv P.ts)(hl:P.ts.length<=17592186044416)(hM:Cw P.ts)(hcl:cs.length<=65536):
  Calls prog 38 #[.pointer (some rb),.int .i64 g] w (RK (.bool (Er cs g)) w):=by
 have HAll:=sE (DAll_at P W cs rb q lv w hd hc hv hl hM)
 obtain⟨n,hn⟩:∃ n,cs.length=n:=⟨_,rfl⟩
 have HN:=sE hn
 rw[hn] at hcl
 clear hd hc hv hl hM hn
 go_enter func38,ntmps38
 go_wp2_with fail
 refine HAll.o.mono ?_
 rintro e w1 ⟨v1,rfl,ho1,k1⟩
 obtain⟨ca,cc,rfl⟩:=Aq ho1
 have HC:=sE (Du.Bc ho1)
 have HK1:=sE k1
 rw[HN.o] at HC ⊢
 clear ho1 k1 HAll
 go_wp2_with fail
 go_loopw [6] (λ x6 wr=>∃ i:Nat,x6=.int .i64 i/\i<=n/\Sl (Er (cs.take i) g=false)/\wr=w1) (λ x6 _=>n-(intOf x6).toNat)
 case atStart=>exact ⟨0,rfl,Nat.zero_le _,⟨rfl⟩,rfl⟩
 case round=>
  obtain⟨i,rfl,hi,HF,rfl⟩:=hrel
  by_cases hil:i<n
  .have hil':(i:Int)<(n:Int):=by omega
   obtain⟨c,hx⟩:∃ x,cs[i]?=some x:=⟨cs[i]'(by rw[HN.o];exact hil),by simp⟩
   obtain⟨a',c',e,hcell⟩:=HC.o
   obtain⟨b,hb,hbw,y0,y1,y2,y3,y4⟩:=hcell i c hx
   have ha:ca=some ⟨b,0,none⟩:=by injection e with h1;rw [h1];exact hb
   subst ha
   have HS:=sE (isObj_take (g:=g) hx)
   have HM:Sl (c∈cs):=⟨List.mem_of_getElem? hx⟩
   clear e hcell hb hx
   by_cases h1:(c.g:Int)=g
   .have e1:((c.g:Int)==g)=true:=by rw[h1];simp
    by_cases h2:c.tag=1
    .have e2:((c.tag:Int)==1)=true:=by rw[h2];rfl
     have HY:Sl (Er cs g=true):=⟨isObj_yes.2 ⟨c,HM.o,h1,h2⟩⟩
     clear h1 h2
     go_wp2_with fail
     go_ret
     exact⟨by rw[HY.o];rfl,HK1.o⟩
    .have e2:((c.tag:Int)==1)=false:=by rw[beq_eq_false_iff_ne];omega
     have HS2:Sl (Er (cs.take (i+1)) g=false):=⟨by rw[HS.o,HF.o,dF h2,Bool.and_false];rfl⟩
     clear h1 h2
     go_wp2_with fail
     exact⟨⟨i+1,by go_num,by omega,HS2,trivial⟩,by simp only[intOf];omega⟩
   .have e1:((c.g:Int)==g)=false:=by rw[beq_eq_false_iff_ne];exact h1
    have HS2:Sl (Er (cs.take (i+1)) g=false):=⟨by rw[HS.o,HF.o,dF h1,Bool.false_and];rfl⟩
    clear h1
    go_wp2_with fail
    exact⟨⟨i+1,by go_num,by omega,HS2,trivial⟩,by simp only[intOf];omega⟩
  .have hil':¬ (i:Int)<(n:Int):=by omega
   have HNo:Sl (Er cs g=false):=⟨by
    have:=HF.o
    rwa [List.take_of_length_le (by rw[HN.o];omega)] at this⟩
   go_wp2_with fail
   go_ret
   exact⟨by rw[HNo.o];rfl,HK1.o⟩

end

end Go.Proofs.YtfkedlgpgmaemaaGreatDoor
