/-
  Lemmas for the laws, together: DocI, DocJ, DocK, DocL, DocM, DocN, DocO, DocP, DocQ, DocR, DocS.
-/
import Derived.Test.YtfkedlgpgmaemaaGreatDoorQcl
import Derived.Test.YtfkedlgpgmaemaaGreatDoorQbj
import Derived.Test.YtfkedlgpgmaemaaGreatDoorQbk
import Derived.Test.YtfkedlgpgmaemaaGreatDoorQap
import Derived.Test.YtfkedlgpgmaemaaGreatDoorQbf
import Derived.Test.YtfkedlgpgmaemaaGreatDoorQbt
set_option linter.unusedVariables false
set_option maxHeartbeats 16000000
namespace Go.Proofs.YtfkedlgpgmaemaaGreatDoor
open Tryz
section
open Go.RowKit

theorem woE_snoc{es:List (Nat×Nat×Nat)}{g i:Nat}{x:Nat×Nat×Nat}(h:es[i]?=some x):woE (es.take (i+1)) g=woE (es.take i) g++if x.1 !=g&&x.2.2 !=g then [x] else []:=by
 unfold woE
 rw[List.take_add_one,h,List.filter_append]
 simp only[Option.toList,List.filter_cons,List.filter_nil]

theorem woR_snoc{rs:List Nat}{g i:Nat}{x:Nat}(h:rs[i]?=some x):woR (rs.take (i+1)) g=woR (rs.take i) g++if x !=g then [x] else []:=by
 unfold woR
 rw[List.take_add_one,h,List.filter_append]
 simp only[Option.toList,List.filter_cons,List.filter_nil]

theorem woE_le{es:List (Nat×Nat×Nat)}{g i:Nat}:(woE (es.take i) g).length<=es.length:=by
 unfold woE
 have:=List.length_filter_le (λ e=>e.1 !=g&&e.2.2 !=g) (es.take i)
 have h:(es.take i).length<=es.length:=List.length_take_le' ..
 omega

theorem woR_le{rs:List Nat}{g i:Nat}:(woR (rs.take i) g).length<=rs.length:=by
 unfold woR
 have:=List.length_filter_le (λ r=>r !=g) (rs.take i)
 have h:(rs.take i).length<=rs.length:=List.length_take_le' ..
 omega

set_option maxRecDepth 20000 in
theorem DWithout_at(w:World)(ea:Option Addr)(ec:Nat)(es:List (Nat×Nat×Nat))(ra:Option Addr)(rc:Nat)(rs:List Nat)(g K:Nat)
  (F:Dl w (.slice ea es.length ec) es) (G:AO w (.slice ra rs.length rc) rs) (hK:K<=65536) (c6:∀ r∈rs,r<K) (c4:∀ e∈es,e.2.2<K) (c3:es.length<=2147483648) (c5:rs.length<=65536):
  Calls prog 120 #[.slice ea es.length ec,.slice ra rs.length rc,.int .i64 (g:Nat)] w (ReachPost (woE es g) (woR rs g) w):=by
 have a4:=sE F
 have a7:=sE G
 have d7:=sE c6
 have d2:=sE c4
 obtain⟨n,W⟩:∃ n,rs.length=n:=⟨_,rfl⟩
 obtain⟨f,S⟩:∃ f,es.length=f:=⟨_,rfl⟩
 have p:=sE W
 have m:=sE S
 rw[W] at a7 c5 ⊢
 rw[S] at a4 c3 ⊢
 clear F G c6 c4 W S
 go_enter func120,ntmps120
 go_wp2_with fail
 go_loopw [7,8] (λ x7 x8 wr=>∃ i:Nat,x8=.int .i64 i/\i<=f/\Sl (wr.ownsRow w.heap.size 70 3 x7 (woE (es.take i) g).length (Bt (woE (es.take i) g)))/\Kp Aa w wr) (λ _ x8 _=>f-(intOf x8).toNat)
 case atStart=>exact ⟨0,rfl,Nat.zero_le _,⟨World.ownsRow_nil _ _ _ _⟩,Kr _ _⟩
 case round=>
  obtain⟨i,rfl,e7,a,c⟩:=hrel
  by_cases hil:i<f
  .have U:(i:Int)<(f:Int):=by omega
   obtain⟨x,Y⟩:∃ x,es[i]?=some x:=⟨es[i]'(by rw[m.o];exact hil),by simp⟩
   obtain⟨f3,f4,c1,c0⟩:=a4.o.Ac c
   obtain⟨e1,c2,f6,x0,x1,x2⟩:=c0 i x Y
   have e6:ea=some ⟨e1,0,none⟩:=by injection c1 with h1;rw [h1];exact c2
   subst e6
   have j:=sE (woE_snoc (g:=g) Y)
   have V:(woE (es.take i) g).length<=2147483648:=Nat.le_trans woE_le (by rw[m.o];exact c3)
   obtain⟨R,s⟩:∃ R,woE (es.take i) g=R:=⟨_,rfl⟩
   rw[s] at a j V
   clear c1 c0 c2 Y s
   by_cases h1:x.1=g
   .have P:((x.1:Int) !=(g:Int))=false:=by rw[h1];simp
    have d:Sl (woE (es.take (i+1)) g=R):=⟨by rw[j.o,h1];simp⟩
    clear h1
    go_wp2_with fail
    exact⟨⟨i+1,by go_num,by omega,⟨by rw[d.o];exact a.o⟩,c⟩,by simp only[intOf];omega⟩
   .have P:((x.1:Int) !=(g:Int))=true:=by rw[bne_iff_ne];omega
    by_cases h2:x.2.2=g
    .have e0:((x.2.2:Int) !=(g:Int))=false:=by rw[h2];simp
     have d:Sl (woE (es.take (i+1)) g=R):=⟨by rw[j.o,h2];simp⟩
     clear h1 h2
     go_wp2_with fail
     exact⟨⟨i+1,by go_num,by omega,⟨by rw[d.o];exact a.o⟩,c⟩,by simp only[intOf];omega⟩
    .have e0:((x.2.2:Int) !=(g:Int))=true:=by rw[bne_iff_ne];omega
     have d:Sl (woE (es.take (i+1)) g=R++[x]):=⟨by
      rw[j.o,if_pos]
      rw[Bool.and_eq_true,bne_iff_ne,bne_iff_ne]
      exact⟨h1,h2⟩⟩
     clear h1 h2
     have e8:=c.size
     go_wp2_with (at_builtin;obtain ⟨a0,v,B,C,D⟩:=info_parts infoEdge;go_loud (refine wpList_append_lies _ rfl (.tmp 33) (.tmp 38) 47 rfl w.heap.size 70 a0 _ 3 24 EB v B C D rfl (by omega) _ R.length (Bt R) rfl (Af a.o ((Kr Aa wr).alloc _) (λ _ _ Q=>Q)) ⟨wr.heap.size,0,none⟩ 1 1 [x.1,x.2.1,x.2.2] rfl rfl (World.news_of_block (wN wr _)) (by intro u c7;simp at c7;rcases c7 with rfl|rfl|rfl <;> rfl) (by omega) (by unfold maxLen;omega) (by omega) (by simp;omega) (wr.heap.size+1) (by simp) ?_);intro f5 cap a2 A t e5 f7;clear v B C D)
     have a1:Kp Aa w a2:=(c.then' ((Kr Aa wr).alloc _)).grown t (λ k e c=>by have:=(Ad a.o e).1;omega)
     have J:=sE A
     have d3:Sl (Bt (R++[x])=Bt R++[.int .i64 x.1,.int .i64 x.2.1,.int .i64 x.2.2]):=⟨ER ..⟩
     clear A t e5
     go_wp2_with fail
     exact⟨⟨i+1,by go_num,by omega,⟨by rw[d.o,d3.o,List.length_append,List.length_singleton];exact J.o⟩,a1⟩,by simp only[intOf];omega⟩
  .have U:¬ (i:Int)<(f:Int):=by omega
   have q:Sl (es.take i=es):=⟨List.take_of_length_le (by rw[m.o];omega)⟩
   rw[q.o] at a
   obtain⟨N,O,e2⟩:=Aq a.o
   subst e2
   have H:Sl (Dl wr (.slice N (woE es g).length O) (woE es g)):=⟨Dl.Bc a.o⟩
   have d9:=sE (a7.o.Ac c)
   have a6:Sl ((woE es g).length<=2147483648):=⟨by
    have:=woE_le (es:=es) (g:=g) (i:=f)
    rw[List.take_of_length_le (by rw[m.o];exact Nat.le_refl _),m.o] at this
    omega⟩
   have a5:Sl (∀ e∈woE es g,e.2.2<K):=⟨λ e F=>d2.o e (FI.1 F).1⟩
   have d4:=sE c
   obtain⟨L,E⟩:∃ L,woE es g=L:=⟨_,rfl⟩
   have d6:=sE E
   obtain⟨M,T⟩:∃ M,(woE es g).length=M:=⟨_,rfl⟩
   have I:Sl (L.length=M):=⟨by rw[<- E];exact T⟩
   rw[T] at H a6 ⊢
   rw[E] at H a5
   clear T E a q c
   obtain⟨l,X⟩:∃ l,l=wr:=⟨_,rfl⟩
   have f1:=sE X
   go_wp2_with fail
   go_loopw [9,10] (λ x9 x10 d0=>∃ i:Nat,x10=.int .i64 i/\i<=n/\Sl (d0.ownsRow l.heap.size 3 1 x9 (woR (rs.take i) g).length (Az (woR (rs.take i) g)))/\Kp Aa l d0) (λ _ x10 _=>n-(intOf x10).toNat)
   case atStart=>exact ⟨0,rfl,Nat.zero_le _,⟨World.ownsRow_nil _ _ _ _⟩,by rw[X];exact Kr _ _⟩
   case round=>
    subst X
    obtain⟨i,rfl,e7,a,c⟩:=hrel
    by_cases hil:i<n
    .have U:(i:Int)<(n:Int):=by omega
     obtain⟨y,Z⟩:∃ y,rs[i]?=some y:=⟨rs[i]'(by rw[p.o];exact hil),by simp⟩
     obtain⟨a',f2,e,b9⟩:=d9.o.Ac c
     obtain⟨b,o,b8,f9⟩:=b9 i y Z
     have e4:ra=some ⟨b,o,none⟩:=by injection e with h1;rw [h1];exact b8
     subst e4
     have j:=sE (woR_snoc (g:=g) Z)
     have V:(woR (rs.take i) g).length<=65536:=Nat.le_trans woR_le (by rw[p.o];exact c5)
     obtain⟨R,s⟩:∃ R,woR (rs.take i) g=R:=⟨_,rfl⟩
     rw[s] at a j V
     clear e b9 b8 Z s
     by_cases h1:y=g
     .have P:((y:Int) !=(g:Int))=false:=by rw[h1];simp
      have d:Sl (woR (rs.take (i+1)) g=R):=⟨by rw[j.o,h1];simp⟩
      clear h1
      go_wp2_with fail
      exact⟨⟨i+1,by go_num,by omega,⟨by rw[d.o];exact a.o⟩,c⟩,by simp only[intOf];omega⟩
     .have P:((y:Int) !=(g:Int))=true:=by rw[bne_iff_ne];omega
      have d:Sl (woR (rs.take (i+1)) g=R++[y]):=⟨by
       rw[j.o,if_pos]
       rw[bne_iff_ne]
       exact h1⟩
      clear h1
      have e8:=c.size
      go_wp2_with (at_builtin;obtain ⟨a0,v,B,C,D⟩:=info_parts Be;go_loud (refine AY _ rfl (.tmp 52) (.tmp 57) 24 rfl 3 a0 Ar v B C D l.heap.size _ R.length R rfl (Af a.o ((Kr Aa wr).alloc _) (λ _ _ Q=>Q)) (.slice (some ⟨wr.heap.size,0,none⟩) 1 1) [y] rfl (nats_lit wr y _) (by simp only[List.length_singleton];omega) (by simp;omega) ?_);intro f8 a2 A t;clear v B C D)
      have a1:Kp Aa l a2:=(c.then' ((Kr Aa wr).alloc _)).grown t (λ k e c=>by have:=(Ad a.o e).1;omega)
      have J:=sE A
      clear A t
      go_wp2_with fail
      exact⟨⟨i+1,by go_num,by omega,⟨by rw[d.o,List.length_append];exact J.o⟩,a1⟩,by simp only[intOf];omega⟩
    .have U:¬ (i:Int)<(n:Int):=by omega
     have q:Sl (rs.take i=rs):=⟨List.take_of_length_le (by rw[p.o];omega)⟩
     rw[q.o] at a
     obtain⟨b0,b1,e3⟩:=Aq a.o
     subst e3
     have a8:=sE (AO.Bc a.o)
     have b7:(woR rs g).length<=65536:=by
      have:=woR_le (rs:=rs) (g:=g) (i:=n)
      rw[List.take_of_length_le (by rw[p.o];exact Nat.le_refl _),p.o] at this
      omega
     have d8:Sl (∀ r∈woR rs g,r<K):=⟨λ r G=>d7.o r (FJ.1 G).1⟩
     have a3:Sl (Calls prog 64 #[.slice N M O,.slice b0 (woR rs g).length b1] wr (ReachPost L (woR rs g) wr)):=⟨by
      rw[<- I.o]
      exact DD wr N O L b0 b1 (woR rs g) K (by rw[I.o];exact H.o.Ac c) a8.o hK d8.o a5.o (by rw[I.o];exact a6.o) b7⟩
     have d5:=sE (d4.o.then' c)
     obtain⟨a9,b6⟩:∃ a9,(woR rs g).length=a9:=⟨_,rfl⟩
     rw[b6] at a3 ⊢
     clear a q b7 a8 b6 c
     go_wp2_with fail
     refine a3.o.mono ?_
     rintro e f0 ⟨c9,e9,rfl,b2,b3,b4,b5,c8⟩
     have d1:Sl (ReachPost (woE es g) (woR rs g) w (.returned c9) f0):=⟨c9,e9,rfl,b2,b3,λ z=>by rw[d6.o];exact b4 z,b5,d5.o.then' c8⟩
     clear b2 b3 b4 b5 c8
     go_wp2_with fail
     go_ret
     exact d1.o

end

section
open Go.RowKit

set_option maxRecDepth 20000 in
theorem DHas39_at(w:World)(a:Option Addr)(c:Nat)(l:List Nat)(x:Nat)(u:AO w (.slice a l.length c) l)(D:l.length<=65536):
  Calls prog 65 #[.slice a l.length c,x] w (RK (.bool (decide (x∈l))) w):=by
 have q:=sE u
 obtain⟨n,i⟩:∃ n,l.length=n:=⟨_,rfl⟩
 have m:=sE i
 rw[i] at q D ⊢
 clear u i
 go_enter func65,ntmps65
 go_wp2_with fail
 go_loopw [5] (λ x5 wr=>∃ j:Nat,x5=.int .i64 j/\j<=n/\Sl (¬ x∈l.take j)/\Kp Aa w wr) (λ x5 _=>n-(intOf x5).toNat)
 case atStart=>exact ⟨0,rfl,Nat.zero_le _,⟨by simp⟩,Kr _ _⟩
 case round=>
  obtain⟨j,rfl,F,p,d⟩:=hrel
  by_cases hjl:j<n
  .have C:(j:Int)<(n:Int):=by omega
   obtain⟨y,k⟩:∃ y,l[j]?=some y:=⟨l[j]'(by rw[m.o];exact hjl),by simp⟩
   obtain⟨a',E,e,t⟩:=q.o.Ac d
   obtain⟨b,o,s,G⟩:=t j y k
   have B:a=some ⟨b,o,none⟩:=by injection e with h1;rw [h1];exact s
   subst B
   have r:=sE k
   clear e t s k
   by_cases hyx:y=x
   .have z:((y:Int)==(x:Int))=true:=by rw[hyx];simp
    have f:Sl (decide (x∈l)=true):=⟨dT (by rw[<- hyx];exact List.mem_of_getElem? r.o)⟩
    clear hyx
    go_wp2
    go_ret
    exact⟨by rw[f.o];rfl,d⟩
   .have z:((y:Int)==(x:Int))=false:=by rw[beq_eq_false_iff_ne];omega
    have v:Sl (¬ x∈l.take (j+1)):=⟨by
     rw[List.take_add_one,r.o,List.mem_append]
     rintro (g|g)
     .exact p.o g
     .have A:x=y:=by simpa using g
      exact hyx A.symm⟩
    clear hyx
    go_wp2
    exact⟨⟨j+1,by go_num,by omega,v,d⟩,by simp only[intOf];omega⟩
  .have C:¬ (j:Int)<(n:Int):=by omega
   have f:Sl (decide (x∈l)=false):=⟨dF (by
    have:=p.o
    rwa [List.take_of_length_le (by rw[m.o];omega)] at this)⟩
   go_wp2
   go_ret
   exact⟨by rw[f.o];rfl,d⟩

theorem De{es:List (Nat×Nat×Nat)}{rs:List Nat}{K z:Nat}(d:∀ r∈rs,r<K)(b:∀ e∈es,e.2.2<K)(a:AA es rs z):z<K:=by
 obtain⟨k,c⟩:=a
 cases c with
 |root a=>exact d _ a
 |step _ he=>exact b _ he

def Fg(a l:List Nat):List Nat:=a.filter λ z=> !decide (z∈l)

theorem lessL_snoc{a l:List Nat}{i x:Nat}(h:a[i]?=some x):Fg (a.take (i+1)) l=Fg (a.take i) l++if (!decide (x∈l))=true then [x] else []:=by
 unfold Fg
 rw[List.take_add_one,h,List.filter_append]
 simp only[Option.toList,List.filter_cons,List.filter_nil]

theorem lessL_le{a l:List Nat}{i:Nat}:(Fg (a.take i) l).length<=a.length:=by
 unfold Fg
 have:=List.length_filter_le (λ z=> !decide (z∈l)) (a.take i)
 have h:(a.take i).length<=a.length:=List.length_take_le' ..
 omega

theorem mem_lessL{a l:List Nat}{z:Nat}:z∈Fg a l ↔ z∈a/\¬ z∈l:=by
 unfold Fg
 rw[List.mem_filter]
 simp

def DKeptPost(es:List (Nat×Nat×Nat))(rs:List Nat)(g:Nat)(w:World)(e:Ending)(w':World):Prop:=
 ∃ (v:Value) (m:List Nat),e=.returned v/\AO w' v m/\m.Pairwise (· <·)/\(∀ z,z∈m ↔ AA es rs z/\¬ BJ es rs g z)/\RowForm v/\Kp Aa w w'

set_option maxRecDepth 20000 in
theorem DKept_at(w:World)(ea:Option Addr)(ec:Nat)(es:List (Nat×Nat×Nat))(ra:Option Addr)(rc:Nat)(rs:List Nat)(g K:Nat)
  (d:Dl w (.slice ea es.length ec) es) (v:AO w (.slice ra rs.length rc) rs) (hK:K<=65536) (C:∀ r∈rs,r<K) (B:∀ e∈es,e.2.2<K) (S:es.length<=2147483648) (V:rs.length<=65536):
  Calls prog 66 #[.slice ea es.length ec,.slice ra rs.length rc,g] w (DKeptPost es rs g w):=by
 have F:=sE (DD w ea ec es ra rc rs K d v hK C B S V)
 have N:=sE (λ p D=>DWithout_at p ea ec es ra rc rs g K (d.Ac D) (v.Ac D) hK C B S V)
 have a6:=sE C
 have a4:=sE B
 obtain⟨n,U⟩:∃ n,rs.length=n:=⟨_,rfl⟩
 obtain⟨a0,P⟩:∃ a0,es.length=a0:=⟨_,rfl⟩
 rw[U,P] at F N
 rw[U,P]
 clear d v C B U P S V
 go_enter func66,ntmps66
 go_wp2_with fail
 refine F.o.mono ?_
 rintro e w1 ⟨e3,c,rfl,q,t,s,O,c1⟩
 obtain⟨c8,e0,rfl,-⟩:=id q
 have a1:=sE q
 have c7:=sE t
 have c3:=sE s
 have b5:c.length<=65536:=Nat.le_trans (Cm t (λ z X=>De a6.o a4.o ((s z).1 X))) hK
 have H:=sE c1
 clear q t s O c1 F
 go_wp2_with fail
 refine(N.o w1 H.o).mono ?_
 rintro e w2 ⟨e4,a,rfl,q,t,s,O,Y⟩
 obtain⟨a8,a9,rfl,-⟩:=id q
 have c4:Sl (∀ z,z∈a ↔ BJ es rs g z):=⟨s⟩
 have b6:a.length<=65536:=Nat.le_trans (Cm t (λ z X=>De (λ r v=>a6.o r (FJ.1 v).1) (λ e d=>a4.o e (FI.1 d).1) ((s z).1 X))) hK
 have a3:=sE q
 have a2:=sE (a1.o.Ac Y)
 have c2:=sE (H.o.then' Y)
 have a5:Sl (∀ p z,Kp Aa w2 p->Calls prog 65 #[.slice a8 a.length a9,.int .i64 (z:Nat)] p (RK (.bool (decide (z∈a))) p)):=⟨λ p z D=>DHas39_at p a8 a9 a z (a3.o.Ac D) b6⟩
 obtain⟨j,A⟩:∃ j,c.length=j:=⟨_,rfl⟩
 obtain⟨M,Q⟩:∃ M,a.length=M:=⟨_,rfl⟩
 have G:=sE A
 rw[A] at a2 b5
 rw[Q] at a5
 rw[A,Q]
 clear q t s O Y A Q b6 a1 a3 N H
 go_wp2_with fail
 go_loopw [9,10] (λ x9 x10 wr=>∃ i:Nat,x10=.int .i64 i/\i<=j/\Sl (wr.ownsRow w2.heap.size 3 1 x9 (Fg (c.take i) a).length (Az (Fg (c.take i) a)))/\Kp Aa w2 wr) (λ _ x10 _=>j-(intOf x10).toNat)
 case atStart=>exact ⟨0,rfl,Nat.zero_le _,⟨World.ownsRow_nil _ _ _ _⟩,Kr _ _⟩
 case round=>
  obtain⟨i,rfl,e1,m,f⟩:=hrel
  by_cases hil:i<j
  .have d3:(i:Int)<(j:Int):=by omega
   obtain⟨y,W⟩:∃ y,c[i]?=some y:=⟨c[i]'(by rw[G.o];exact hil),by simp⟩
   obtain⟨a',d9,e,b2⟩:=a2.o.Ac f
   obtain⟨b,o,b1,Z⟩:=b2 i y W
   have d2:c8=some ⟨b,o,none⟩:=by injection e with h1;rw [h1];exact b1
   subst d2
   have J:=sE (lessL_snoc (l:=a) W)
   have d4:(Fg (c.take i) a).length<=65536:=Nat.le_trans lessL_le (by rw[G.o];exact b5)
   obtain⟨R,b0⟩:∃ R,Fg (c.take i) a=R:=⟨_,rfl⟩
   rw[b0] at m J d4
   have d8:=sE f
   clear e b2 b1 W b0
   go_wp2_with fail
   refine(a5.o _ y f).mono ?_
   rintro e E ⟨d,x⟩
   have T:=f.then' x
   have e6:=x.cell Z (λ u=>u)
   have I:=sE (Af m.o x (λ _ _ u=>u))
   by_cases h1:y∈a
   .rw [dT h1] at d
    subst d
    have L:Sl (Fg (c.take (i+1)) a=R):=⟨by rw[J.o,dT h1];simp⟩
    clear h1 x f Z
    go_wp2_with fail
    exact⟨⟨i+1,by go_num,by omega,⟨by rw[L.o];exact I.o⟩,T⟩,by simp only[intOf];omega⟩
   .rw [dF h1] at d
    subst d
    have L:Sl (Fg (c.take (i+1)) a=R++[y]):=⟨by rw[J.o,dF h1];rfl⟩
    have e2:=T.size
    clear h1 x f Z
    go_wp2_with (at_builtin;obtain ⟨d5,b4,b8,b9,c0⟩:=info_parts Be;go_loud (refine AY _ rfl (.tmp 31) (.tmp 36) 24 rfl 3 d5 Ar b4 b8 b9 c0 w2.heap.size _ R.length R rfl (Af I.o ((Kr Aa E).alloc _) (λ _ _ u=>u)) (.slice (some ⟨E.heap.size,0,none⟩) 1 1) [y] rfl (nats_lit E y _) (by simp only[List.length_singleton];omega) (by simp;omega) ?_);intro e5 d7 b7 b3;clear b4 b8 b9 c0)
    have d6:Kp Aa w2 d7:=(T.then' ((Kr Aa E).alloc _)).grown b3 (λ k e f=>by have:=(Ad I.o e).1;omega)
    have c5:=sE b7
    clear b7 b3
    go_wp2_with fail
    exact⟨⟨i+1,by go_num,by omega,⟨by rw[L.o,List.length_append];exact c5.o⟩,d6⟩,by simp only[intOf];omega⟩
  .have d3:¬ (i:Int)<(j:Int):=by omega
   have a7:Sl (c.take i=c):=⟨List.take_of_length_le (by rw[G.o];omega)⟩
   rw[a7.o] at m
   obtain⟨c9,d0,d1⟩:=Aq m.o
   subst d1
   have c6:Sl (DKeptPost es rs g w (.returned (.slice c9 (Fg c a).length d0)) wr):=⟨_,Fg c a,rfl,AO.Bc m.o,c7.o.sublist List.filter_sublist,λ z=>by rw[mem_lessL,c3.o,c4.o],owns_form m.o,c2.o.then' f⟩
   clear m a7
   go_wp2_with fail
   go_ret
   exact c6.o

end

section
open Go.RowKit

def celAt(cs:List Cel)(g:Nat):Option Cel:=cs.find? λ c=>c.g==g

def celV(c:Cel):Value:=.agg #[c.g,.int .u8 c.tag,c.ty,c.ln,c.sz]

theorem celAt_of{cs:List Cel}{g i:Nat}{c:Cel}(b:∀ t x,t<i->cs[t]?=some x->¬ x.g=g)(a:cs[i]?=some c)(d:c.g=g):celAt cs g=some c:=by
 induction cs generalizing i with
 |nil=>simp at a
 |cons x xs ih=>
  unfold celAt at ih ⊢
  rw[List.find?_cons]
  cases i with
  |zero=>
   have:x=c:=by simpa using a
   subst this
   rw[d,beq_self_eq_true]
  |succ i=>
   have e:=b 0 x (by omega) (by simp)
   rw[beq_eq_false_iff_ne.2 e]
   exact ih (i:=i) (λ t y j f=>b (t+1) y (by omega) (by simpa using f)) (by simpa using a)

set_option maxRecDepth 20000 in
theorem DCell39_at(w:World)(a:Option Addr)(cap:Nat)(cs:List Cel)(g:Nat)(c:Cel)(M:Du w (.slice a cs.length cap) cs)(W:cs.length<=65536)(K:celAt cs g=some c):
  Calls prog 67 #[.slice a cs.length cap,g] w (RK (celV c) w):=by
 have y:=sE M
 have H:=sE K
 obtain⟨n,C⟩:∃ n,cs.length=n:=⟨_,rfl⟩
 have I:=sE C
 rw[C] at y W ⊢
 clear M K C
 go_enter func67,ntmps67
 go_wp2_with fail
 obtain⟨w1,s⟩:∃ w1,w1=w.alloc (.cells #[(0:Int),.int .u8 0,(0:Int),(0:Int),(0:Int)] 113):=⟨_,rfl⟩
 have G:Kp Aa w w1:=by rw[s];exact (Kr _ w).alloc _
 have d:w1.heap[w.heap.size]?=some (.cells #[(0:Int),.int .u8 0,(0:Int),(0:Int),(0:Int)] 113 (0,0)):=by rw[s];exact wN w _
 rw[<- s]
 have P:=sE G
 have Q:=sE (y.o.Ac G)
 obtain⟨r,D⟩:∃ r,w.heap.size=r:=⟨_,rfl⟩
 rw[D] at d ⊢
 have J:=sE D
 clear s G D
 go_loopw [5] (λ x5 wr=>∃ i:Nat,x5=.int .i64 i/\i<=n/\Sl (∀ t x,t<i->cs[t]?=some x->¬ x.g=g)/\wr=w1) (λ x5 _=>n-(intOf x5).toNat)
 case atStart=>exact ⟨0,rfl,Nat.zero_le _,⟨λ t x k=>by omega⟩,rfl⟩
 case round=>
  obtain⟨i,rfl,a7,u,rfl⟩:=hrel
  by_cases hil:i<n
  .have a8:(i:Int)<(n:Int):=by omega
   obtain⟨x,F⟩:∃ x,cs[i]?=some x:=⟨cs[i]'(by rw[I.o];exact hil),by simp⟩
   obtain⟨a',Y,e,L⟩:=Q.o
   obtain⟨b,l,a5,a9,b0,b1,b2,b3⟩:=L i x F
   have U:a=some ⟨b,0,none⟩:=by injection e with h1;rw [h1];exact l
   subst U
   have A:=sE F
   have a4:¬ b=r:=λ k=>by
    obtain⟨_,_,S,V⟩:=y.o
    obtain⟨X,m,a6,-⟩:=V i x A.o
    injection S with B
    rw[<- B] at m
    injection m with m
    injection m with m
    have:=J.o
    omega
   clear e L l F
   by_cases h1:x.g=g
   .have B:((x.g:Int)==(g:Int))=true:=by rw[h1];simp
    have O:Sl (x=c):=⟨by
     have:=celAt_of u.o A.o h1
     rw[H.o] at this
     injection this with this
     exact this.symm⟩
    clear h1
    obtain⟨b4,b5,b6,b7,b8⟩:=DT d
    have Z:=Ab d 0
    have a0:=Ab d 1
    have a1:=Ab d 2
    have a2:=Ab d 3
    have a3:=Ab d 4
    go_wp2_with fail
    have p:w.heap.size<=r:=by have:=J.o;omega
    refine bodyPost_ret (v:=celV x) ?_ rfl ⟨by rw[O.o],((((P.o.Av p _).Av p _).Av p _).Av p _).Av p _⟩
    refine results_cell_row (ty:=113) rfl _ _ r 113 #[x.g,.int .u8 x.tag,x.ty,x.ln,x.sz] (0,0) _ rfl ?_ rfl rfl (by kernel_rfl)
    have q:∀ (w:World) (b:Nat) (cs:Array Value) (t:TypeId) (j:Nat) (v:Value),w.heap[b]?=some (.cells cs t (0,0))->(w.setCell ⟨b,j,none⟩ v).heap[b]?=some (.cells (cs.setIfInBounds j v) t (0,0)):=λ w b cs t j v k=>by
     have l:=lZ k
     have T:w.heap[b]=.cells cs t (0,0):=by
      rw[Array.getElem?_eq_getElem l] at k
      injection k
     simp[World.setCell,Array.getElem_modify,T,l]
    have R:=q _ _ _ _ 4 (.int .i64 x.sz) (q _ _ _ _ 3 (.int .i64 x.ln) (q _ _ _ _ 2 (.int .i64 x.ty) (q _ _ _ _ 1 (.int .u8 x.tag) (q _ _ _ _ 0 (.int .i64 x.g) d))))
    rw[R]
    rfl
   .have B:((x.g:Int)==(g:Int))=false:=by rw[beq_eq_false_iff_ne];omega
    have N:Sl (∀ t x,t<i+1->cs[t]?=some x->¬ x.g=g):=⟨λ t z E f=>by
     by_cases e:t=i
     .subst e
      rw[A.o] at f
      injection f with f
      rw[<- f]
      exact h1
     .exact u.o t z (by omega) f⟩
    clear h1
    go_wp2_with fail
    exact⟨⟨i+1,by go_num,by omega,N,trivial⟩,by simp only[intOf];omega⟩
  .exact absurd H.o (by
    unfold celAt
    rw[List.find?_eq_none.2 (λ z f=>by
     obtain⟨t,E⟩:=List.mem_iff_getElem?.1 f
     have:=(gE.1 E).1
     rw[beq_iff_eq]
     exact u.o t z (by have:=I.o;omega) E)]
    simp)

end

section
open Go.RowKit

def szC(l:List Cel):Nat:=(l.map Cel.sz).sum

def Cx(cs:List Cel)(m:List Nat):List Cel:=cs.filter λ c=>decide (c.tag=1)&& !decide (c.g∈m)

theorem lossC_snoc{cs:List Cel}{m:List Nat}{i:Nat}{c:Cel}(h:cs[i]?=some c):Cx (cs.take (i+1)) m=Cx (cs.take i) m++if (decide (c.tag=1)&& !decide (c.g∈m))=true then [c] else []:=by
 unfold Cx
 rw[List.take_add_one,h,List.filter_append]
 simp only[Option.toList,List.filter_cons,List.filter_nil]

theorem szC_app(a b:List Cel):szC (a++b)=szC a+szC b:=by
 unfold szC
 rw[List.map_append,List.sum_append]

theorem szC_filter(p:Cel->Bool):∀ l:List Cel,szC (l.filter p)<=szC l
 |[]=>Nat.le_refl _
 |x::t=>by
  have a:=szC_filter p t
  unfold szC at a ⊢
  rw[List.filter_cons]
  split
  .simp only[List.map_cons,List.sum_cons]
   omega
  .simp only[List.map_cons,List.sum_cons]
   omega

theorem szC_take(l:List Cel)(i:Nat):szC (l.take i)<=szC l:=by
 have:=szC_app (l.take i) (l.drop i)
 rw[List.take_append_drop] at this
 omega

theorem lossC_le{cs:List Cel}{m:List Nat}{i:Nat}:szC (Cx (cs.take i) m)<=szC cs/\(Cx (cs.take i) m).length<=cs.length:=by
 have a:=szC_filter (λ c=>decide (c.tag=1)&& !decide (c.g∈m)) (cs.take i)
 have b:=szC_take cs i
 have d:=List.length_filter_le (λ c:Cel=>decide (c.tag=1)&& !decide (c.g∈m)) (cs.take i)
 have e:(cs.take i).length<=cs.length:=List.length_take_le' ..
 unfold Cx
 omega

def DLostPost(cs:List Cel)(es:List (Nat×Nat×Nat))(rs:List Nat)(w:World)(e:Ending)(w':World):Prop:=
 ∃ m:List Nat,m.Pairwise (· <·)/\(∀ z,z∈m ↔ AA es rs z)/\e=.returned (.tuple #[.int .i64 ((Cx cs m).length:Nat),.int .i64 (szC (Cx cs m):Nat)])/\Kp Aa w w'

set_option maxRecDepth 20000 in
theorem DLost_at(w:World)(la:Option Addr)(lc:Nat)(cs:List Cel)(ea:Option Addr)(ec:Nat)(es:List (Nat×Nat×Nat))(ra:Option Addr)(rc:Nat)(rs:List Nat)(K:Nat)
  (a1:Du w (.slice la cs.length lc) cs) (c5:cs.length<=65536) (a9:szC cs<=65536)
  (f:Dl w (.slice ea es.length ec) es) (a6:AO w (.slice ra rs.length rc) rs) (hK:K<=65536) (L:∀ r∈rs,r<K) (G:∀ e∈es,e.2.2<K) (a3:es.length<=2147483648) (a7:rs.length<=65536):
  Calls prog 19 #[.slice la cs.length lc,.slice ea es.length ec,.slice ra rs.length rc] w (DLostPost cs es rs w):=by
 have v:=sE (DD w ea ec es ra rc rs K f a6 hK L G a3 a7)
 have b8:=sE L
 have b6:=sE G
 have U:=sE a1
 have b9:=sE a9
 obtain⟨n,H⟩:∃ n,rs.length=n:=⟨_,rfl⟩
 obtain⟨T,F⟩:∃ T,es.length=T:=⟨_,rfl⟩
 obtain⟨C,t⟩:∃ C,cs.length=C:=⟨_,rfl⟩
 have y:=sE t
 rw[H,F] at v
 rw[t] at U c5
 rw[H,F,t]
 clear a1 f a6 L G H F t a3 a7 a9
 go_enter func19,ntmps19
 go_wp2_with fail
 refine v.o.mono ?_
 rintro e w1 ⟨d5,m,rfl,A,B,D,c1,P⟩
 obtain⟨X,Y,rfl,-⟩:=id A
 have W:Sl (m.Pairwise (· <·)/\∀ z,z∈m ↔ AA es rs z):=⟨B,D⟩
 have a5:m.length<=65536:=Nat.le_trans (Cm B (λ z c7=>De b8.o b6.o ((D z).1 c7))) hK
 have V:Sl (∀ k z,Kp Aa w1 k->Calls prog 65 #[.slice X m.length Y,.int .i64 (z:Nat)] k (RK (.bool (decide (z∈m))) k)):=⟨λ k z c8=>DHas39_at k X Y m z (A.Ac c8) a5⟩
 have b7:=sE P
 have b5:=sE (U.o.Ac P)
 obtain⟨S,E⟩:∃ S,m.length=S:=⟨_,rfl⟩
 rw[E] at V
 rw[E]
 clear A B D c1 P v E a5
 go_wp2_with fail
 go_loopw [9,10,11] (λ x9 x10 x11 wr=>∃ i:Nat,x11=.int .i64 i/\i<=C/\x9=.int .i64 ((Cx (cs.take i) m).length:Nat)/\x10=.int .i64 (szC (Cx (cs.take i) m):Nat)/\Kp Aa w1 wr) (λ _ _ x11 _=>C-(intOf x11).toNat)
 case atStart=>exact ⟨0,rfl,Nat.zero_le _,rfl,rfl,Kr _ _⟩
 case round=>
  obtain⟨i,rfl,d1,rfl,rfl,j⟩:=hrel
  obtain⟨N,O⟩:=lossC_le (cs:=cs) (m:=m) (i:=i)
  by_cases hil:i<C
  .have c6:(i:Int)<(C:Int):=by omega
   obtain⟨c,M⟩:∃ x,cs[i]?=some x:=⟨cs[i]'(by rw[y.o];exact hil),by simp⟩
   obtain⟨a',c9,e,a2⟩:=b5.o.Ac j
   obtain⟨b,a0,d0,b1,b2,b3,b4,Q⟩:=a2 i c M
   have c4:la=some ⟨b,0,none⟩:=by injection e with h1;rw [h1];exact a0
   subst c4
   have l:=sE (lossC_snoc (m:=m) M)
   have b0:=(lossC_le (cs:=cs) (m:=m) (i:=i+1)).1
   have a8:=b9.o
   obtain⟨R,Z⟩:∃ R,Cx (cs.take i) m=R:=⟨_,rfl⟩
   rw[Z] at l N O ⊢
   obtain⟨p,I⟩:∃ p,R.length=p:=⟨_,rfl⟩
   obtain⟨q,J⟩:∃ q,szC R=q:=⟨_,rfl⟩
   have d:Sl (R.length=p/\szC R=q):=⟨I,J⟩
   have d2:p<=65536:=by have:=y.o;omega
   have d4:q<=65536:=by omega
   rw[I,J]
   have c0:Sl (szC (Cx (cs.take (i+1)) m)<=65536):=⟨Nat.le_trans b0 a8⟩
   clear e a2 a0 M Z I J N O b0 a8
   by_cases h1:c.tag=1
   .have c2:((c.tag:Int)==1)=true:=by rw[h1];rfl
    have s:Sl (c.tag=1):=⟨h1⟩
    clear h1
    go_wp2_with fail
    refine(V.o _ c.g j).mono ?_
    rintro e d6 ⟨f,u⟩
    have a4:=j.then' u
    have d7:=u.cell Q (λ c3=>c3)
    by_cases h2:c.g∈m
    .rw [dT h2] at f
     subst f
     have a:Sl (Cx (cs.take (i+1)) m=R):=⟨by rw[l.o,dT h2];simp⟩
     clear h2 u j b1 b2 b3 b4 Q
     go_wp2_with fail
     exact⟨⟨i+1,by go_num,by omega,by rw[a.o,d.o.1],by rw[a.o,d.o.2],a4⟩,by simp only[intOf];omega⟩
    .rw [dF h2] at f
     subst f
     have a:Sl (Cx (cs.take (i+1)) m=R++[c]):=⟨by rw[l.o,dF h2,s.o];rfl⟩
     have d3:q+c.sz<=65536:=by
      have:=c0.o
      rw[a.o,szC_app,d.o.2] at this
      exact this
     clear h2 u j b1 b2 b3 b4 Q
     go_wp2_with fail
     refine⟨⟨i+1,by go_num,by omega,?_,?_,a4⟩,by simp only[intOf];omega⟩
     .rw [a.o,List.length_append,d.o.1,List.length_singleton]
      go_num
     .rw [a.o,szC_app,d.o.2]
      show _=Value.int .i64 ((q+c.sz:Nat):Int)
      go_num
   .have c2:((c.tag:Int)==1)=false:=by rw[beq_eq_false_iff_ne];omega
    have a:Sl (Cx (cs.take (i+1)) m=R):=⟨by rw[l.o,dF h1];simp⟩
    clear h1
    go_wp2_with fail
    exact⟨⟨i+1,by go_num,by omega,by rw[a.o,d.o.1],by rw[a.o,d.o.2],j⟩,by simp only[intOf];omega⟩
  .have c6:¬ (i:Int)<(C:Int):=by omega
   have s:Sl (cs.take i=cs):=⟨List.take_of_length_le (by rw[y.o];omega)⟩
   rw[s.o]
   clear N O s
   go_wp2_with fail
   refine bodyPost_ret (results_tmp2 rfl _ _ _) rfl ⟨m,W.o.1,W.o.2,rfl,b7.o.then' j⟩

end

section
open Go.RowKit

def OverIs(es:List (Nat×Nat×Nat))(rs:List Nat)(g z:Nat):Prop:=¬ z=g/\AA es rs g/\¬ BJ es rs z g

def DOverPost(es:List (Nat×Nat×Nat))(rs:List Nat)(g:Nat)(w:World)(e:Ending)(w':World):Prop:=
 ∃ (v:Value) (m:List Nat),e=.returned v/\AO w' v m/\m.Pairwise (· <·)/\(∀ z,z∈m ↔ AA es rs z/\OverIs es rs g z)/\Kp Aa w w'

set_option maxRecDepth 20000 in
theorem DOver_at(w:World)(ea:Option Addr)(ec:Nat)(es:List (Nat×Nat×Nat))(ra:Option Addr)(rc:Nat)(rs:List Nat)(g K:Nat)
  (f:Dl w (.slice ea es.length ec) es) (X:AO w (.slice ra rs.length rc) rs) (hK:K<=65536) (E:∀ r∈rs,r<K) (D:∀ e∈es,e.2.2<K) (T:es.length<=2147483648) (Y:rs.length<=65536):
  Calls prog 25 #[.slice ea es.length ec,.slice ra rs.length rc,g] w (DOverPost es rs g w):=by
 have G:=sE (DD w ea ec es ra rc rs K f X hK E D T Y)
 have a9:=sE (λ c9 z b8=>DKept_at c9 ea ec es ra rc rs z K (f.Ac b8) (X.Ac b8) hK E D T Y)
 have L:=sE E
 have H:=sE D
 obtain⟨n,W⟩:∃ n,rs.length=n:=⟨_,rfl⟩
 obtain⟨a2,R⟩:∃ a2,es.length=a2:=⟨_,rfl⟩
 rw[W,R] at G a9
 rw[W,R]
 clear f X E D W R T Y
 go_enter func25,ntmps25
 go_wp2_with fail
 refine G.o.mono ?_
 rintro e w1 ⟨e6,d,rfl,O,b0,P,d0,b6⟩
 obtain⟨d1,e4,rfl,-⟩:=id O
 have a3:=sE O
 have a7:=sE P
 have d8:d.length<=65536:=Nat.le_trans (Cm b0 (λ z x=>De L.o H.o ((P z).1 x))) hK
 have a6:=sE b6
 obtain⟨j,C⟩:∃ j,d.length=j:=⟨_,rfl⟩
 have a4:=sE C
 rw[C] at a3 d8
 rw[C]
 clear O b0 P d0 b6 G C
 go_wp2_with fail
 go_loopw [8,9] (λ x8 x9 wr=>∃ (i:Nat) (o:List Nat),x9=.int .i64 i/\i<=j/\Sl (OutR wr x8 o)/\Sl (∀ z,z∈o ↔ z∈d.take i/\OverIs es rs g z)/\Kp Aa w1 wr) (λ _ x9 _=>j-(intOf x9).toNat)
 case atStart=>exact ⟨0,[],rfl,Nat.zero_le _,⟨nats_none _ _ _,List.Pairwise.nil,.inl rfl⟩,⟨λ z=>by simp⟩,Kr _ _⟩
 case round=>
  obtain⟨i,o,rfl,e5,J,l,k⟩:=hrel
  by_cases hil:i<j
  .have d5:(i:Int)<(j:Int):=by omega
   obtain⟨y,Z⟩:∃ y,d[i]?=some y:=⟨d[i]'(by rw[a4.o];exact hil),by simp⟩
   obtain⟨a',e3,e,b4⟩:=a3.o.Ac k
   obtain⟨b,q,b3,b9⟩:=b4 i y Z
   have d4:d1=some ⟨b,q,none⟩:=by injection e with a;rw [a];exact b3
   subst d4
   have N:Sl (∀ z,z∈d.take (i+1) ↔ z∈d.take i\/z=y):=⟨λ z=>by
    rw[List.take_add_one,Z,List.mem_append]
    simp⟩
   have e2:=sE k
   clear e b4 b3 Z
   by_cases h0:y=g
   .have d2:((y:Int) !=(g:Int))=false:=by rw[h0];simp
    have c2:Sl (∀ z,z∈o ↔ z∈d.take (i+1)/\OverIs es rs g z):=⟨λ z=>by
     rw[l.o,N.o]
     constructor
     .rintro ⟨a,c⟩
      exact⟨.inl a,c⟩
     .rintro ⟨a|a,c⟩
      .exact ⟨a,c⟩
      .exact absurd (a.trans h0) c.1⟩
    clear h0
    go_wp2_with fail
    exact⟨⟨i+1,o,by go_num,by omega,J,c2,k⟩,by simp only[intOf];omega⟩
   .have d2:((y:Int) !=(g:Int))=true:=by rw[bne_iff_ne];omega
    have c5:Sl (¬ y=g):=⟨h0⟩
    clear h0
    go_wp2_with fail
    refine(a9.o _ y (a6.o.then' k)).mono ?_
    rintro e w2 ⟨e7,t,rfl,p,v,s,B,F⟩
    obtain⟨b1,b2,rfl,-⟩:=id p
    have b5:t.length<=65536:=Nat.le_trans (Cm v (λ z x=>De L.o H.o ((s z).1 x).1)) hK
    have a5:Sl (Calls prog 65 #[.slice b1 t.length b2,g] w2 (RK (.bool (decide (g∈t))) w2)):=⟨DHas39_at w2 b1 b2 t g p b5⟩
    have I:=sE (s g)
    have U:=k.then' F
    have a1:=F.cell b9 (λ Q=>Q)
    have c6:=sE (J.o.Ac F)
    obtain⟨M,S⟩:∃ M,t.length=M:=⟨_,rfl⟩
    rw[S] at a5
    rw[S]
    clear p v s B F S k b9 b5
    go_wp2_with fail
    refine a5.o.mono ?_
    rintro e e0 ⟨f,A⟩
    have V:=U.then' A
    have c0:=A.cell a1 (λ Q=>Q)
    have u:=sE (c6.o.Ac A)
    by_cases a:g∈t
    .rw [dT a] at f
     subst f
     have c1:Sl (OverIs es rs g y):=⟨c5.o,(I.o.1 a).1,(I.o.1 a).2⟩
     clear a A U a1
     go_wp2_with fail
     refine(DPut18_at e0 _ o y u.o.1 u.o.2.2 u.o.2.1 ?_).mono ?_
     .exact Nat.le_trans (Cm u.o.2.1 (λ z x=>De L.o H.o ((a7.o z).1 (List.mem_of_mem_take ((l.o z).1 x).1)))) hK
     rintro e e1 ⟨d9,a0,rfl,p,v,s,B,b7⟩
     have c7:Sl (OutR e1 d9 a0):=⟨p,v,B⟩
     have c4:Sl (∀ z,z∈a0 ↔ z∈d.take (i+1)/\OverIs es rs g z):=⟨λ z=>by
      rw[s,l.o,N.o]
      constructor
      .rintro (⟨a,c⟩|rfl)
       .exact ⟨.inl a,c⟩
       .exact ⟨.inr rfl,c1.o⟩
      .rintro ⟨a|a,c⟩
       .exact .inl ⟨a,c⟩
       .exact .inr a⟩
     have d6:=V.then' b7
     clear p v s B b7 V c0
     go_wp2_with fail
     exact⟨⟨i+1,a0,by go_num,by omega,c7,c4,d6⟩,by simp only[intOf];omega⟩
    .rw [dF a] at f
     subst f
     have c3:Sl (∀ z,z∈o ↔ z∈d.take (i+1)/\OverIs es rs g z):=⟨λ z=>by
      rw[l.o,N.o]
      constructor
      .rintro ⟨a,c⟩
       exact⟨.inl a,c⟩
      .rintro ⟨d3|rfl,c⟩
       .exact ⟨d3,c⟩
       .exact absurd (I.o.2 ⟨c.2.1,c.2.2⟩) a⟩
     clear a A U a1 c0
     go_wp2_with fail
     exact⟨⟨i+1,o,by go_num,by omega,u,c3,V⟩,by simp only[intOf];omega⟩
  .have d5:¬ (i:Int)<(j:Int):=by omega
   have a8:Sl (d.take i=d):=⟨List.take_of_length_le (by rw[a4.o];omega)⟩
   have c8:Sl (∃ m:List Nat,OutR wr u8 m/\(∀ z,z∈m ↔ AA es rs z/\OverIs es rs g z)):=⟨o,J.o,λ z=>by rw[l.o,a8.o,a7.o]⟩
   have d7:=a6.o.then' k
   clear a8 l
   go_wp2_with fail
   go_ret
   obtain⟨m,a,c⟩:=c8.o
   exact⟨_,m,rfl,a.1,a.2.1,c,d7⟩

end

section
open Go.RowKit

theorem sorted_ext{m m':List Nat}(c:m.Pairwise (· <·))(d:m'.Pairwise (· <·))(g:∀ z,z∈m ↔ z∈m'):m=m':=by
 have i:m.Nodup:=c.imp (λ c=>Nat.ne_of_lt c)
 have j:m'.Nodup:=d.imp (λ c=>Nat.ne_of_lt c)
 exact List.Perm.eq_of_pairwise (λ a b _ _ e f=>absurd f (Nat.lt_asymm e)) c d ((List.perm_ext_iff_of_nodup i j).2 g)

theorem keptL_sorted{es:List (Nat×Nat×Nat)}{rs m:List Nat}{g:Nat}(h:m.Pairwise (· <·)):(keptL es rs m g).Pairwise (· <·):=h.sublist List.filter_sublist

theorem flatE_snoc(L:List (Nat×Nat×Nat))(x:Nat×Nat×Nat):Bt (L++[x])=Bt L++[.int .i64 x.1,.int .i64 x.2.1,.int .i64 x.2.2]:=ER ..

theorem Dl.of_owns3{w:World}{base:Nat}{T:TypeId}{v:Value}{es:List (Nat×Nat×Nat)}(e:w.ownsRow base T 3 v es.length (Bt es)):Dl w v es:=by
 rcases e.2 with ⟨rfl,f⟩|⟨g,cap,l,rfl,m,c,n,o,p,d⟩
 .exact ⟨none,0,by rw[f],λ i x a=>by have:=(gE.1 a).1;omega⟩
 .refine ⟨some ⟨g,0,none⟩,cap,rfl,λ i x a=>?_⟩
  have q:=(gE.1 a).1
  obtain⟨x0,x1,x2⟩:=flatE_at es i x a
  have b:∀ j,j<es.length*3->w.cell? ⟨g,j,none⟩=(Bt es)[j]?:=λ j k=>by
   rw[<- d,List.getElem?_take_of_lt k]
   simp[World.cell?,c]
  exact⟨g,rfl,lZ c,by rw[b _ (by omega)];exact x0,by rw[b _ (by omega)];exact x1,by rw[b _ (by omega)];exact x2⟩

def DKeepsPost(cs:List Cel)(es:List (Nat×Nat×Nat))(rs:List Nat)(w:World)(e:Ending)(w':World):Prop:=
 ∃ (v:Value) (m:List Nat),m.Pairwise (· <·)/\(∀ z,z∈m ↔ AA es rs z)/\e=.returned v/\Dl w' v (keepsL cs es rs m m)/\Kp Aa w w'

set_option maxRecDepth 20000 in
theorem DKeeps_at(w:World)(la:Option Addr)(lc:Nat)(cs:List Cel)(ea:Option Addr)(ec:Nat)(es:List (Nat×Nat×Nat))(ra:Option Addr)(rc:Nat)(rs:List Nat)(K:Nat)
  (e9:Du w (.slice la cs.length lc) cs) (V:cs.length<=65536) (D:∀ c∈cs,c.sz<=65536) (f0:∀ z,AA es rs z->celAt cs z=some (Bf cs z))
  (c1:Dl w (.slice ea es.length ec) es) (c4:AO w (.slice ra rs.length rc) rs) (hK:K<=65536) (X:∀ r∈rs,r<K) (W:∀ e∈es,e.2.2<K) (c2:es.length<=2147483648) (c5:rs.length<=65536):
  Calls prog 21 #[.slice la cs.length lc,.slice ea es.length ec,.slice ra rs.length rc] w (DKeepsPost cs es rs w):=by
 have a4:=sE (DD w ea ec es ra rc rs K c1 c4 hK X W c2 c5)
 have e2:=sE (λ g z E=>DKept_at g ea ec es ra rc rs z K (c1.Ac E) (c4.Ac E) hK X W c2 c5)
 have a7:Sl (∀ g z,Kp Aa w g->AA es rs z->Calls prog 67 #[.slice la cs.length lc,.int .i64 (z:Nat)] g (RK (celV (Bf cs z)) g)):=⟨λ g z E l=>DCell39_at g la lc cs z _ (e9.Ac E) V (f0 z l)⟩
 have d8:=sE X
 have d2:=sE W
 have e1:=sE D
 obtain⟨n,c3⟩:∃ n,rs.length=n:=⟨_,rfl⟩
 obtain⟨c9,b7⟩:∃ c9,es.length=c9:=⟨_,rfl⟩
 obtain⟨C,b6⟩:∃ C,cs.length=C:=⟨_,rfl⟩
 rw[c3,b7] at a4 e2
 rw[b6] at a7
 rw[c3,b7,b6]
 clear e9 c1 c4 X W c3 b7 b6 c2 c5 D f0 V
 go_enter func21,ntmps21
 go_wp2_with fail
 refine a4.o.mono ?_
 rintro e w1 ⟨m4,a,rfl,b0,b1,b2,j1,g1⟩
 obtain⟨j2,l5,rfl,-⟩:=id b0
 have a5:=sE b0
 have e0:=sE b1
 have a9:=sE b2
 have k8:a.length<=65536:=Nat.le_trans (Cm b1 (λ z l=>De d8.o d2.o ((b2 z).1 l))) hK
 have J:=sE g1
 obtain⟨v,P⟩:∃ v,a.length=v:=⟨_,rfl⟩
 have a6:=sE P
 rw[P] at a5 k8
 rw[P]
 obtain⟨p,e6⟩:∃ p,w1.heap.size=p:=⟨_,rfl⟩
 have d0:Sl (w1.heap.size=p):=⟨e6⟩
 clear b0 b1 b2 j1 g1 a4 P e6
 go_wp2_with fail
 go_loopw [8,9] (λ x8 x9 wr=>∃ (i:Nat),x9=.int .i64 i/\i<=v/\Sl (wr.ownsRow p 67 3 x8 i (Bt (keepsL cs es rs a (a.take i))))/\Kp Aa w1 wr) (λ _ x9 _=>v-(intOf x9).toNat)
 case atStart=>exact ⟨0,rfl,Nat.zero_le _,⟨World.ownsRow_nil _ _ _ _⟩,Kr _ _⟩
 case round=>
  obtain⟨i,rfl,m1,L,B⟩:=hrel
  by_cases hil:i<v
  .have k3:(i:Int)<(v:Int):=by omega
   obtain⟨y,I⟩:∃ y,a[i]?=some y:=⟨a[i]'(by rw[a6.o];exact hil),by simp⟩
   obtain⟨a',j6,e,H⟩:=a5.o.Ac B
   obtain⟨b,q,e7,g6⟩:=H i y I
   have b9:j2=some ⟨b,q,none⟩:=by injection e with O;rw [O];exact e7
   subst b9
   have i4:Sl (AA es rs y):=⟨(a9.o y).1 (List.mem_of_getElem? I)⟩
   have i5:Sl (keepsL cs es rs a (a.take (i+1))=keepsL cs es rs a (a.take i)++[(y,(Bf cs y).sz,Bb cs (keptL es rs a y))]):=⟨by
    unfold keepsL
    rw[List.take_add_one,I,List.map_append]
    rfl⟩
   obtain⟨j0,l7,e4,f1⟩:=a5.o
   obtain⟨l4,m3,U,g7⟩:=f1 i y I
   have e5:some ⟨b,q,none⟩=j0:=by injection e4
   rw[<- e5] at U
   injection U with U
   injection U with hb1 hb2
   subst hb1 hb2
   have i9:=sE g7
   obtain⟨j4,j7,j9⟩:=Aq L.o
   subst j9
   clear e H e7 I e4 e5 f1 g7
   go_wp2_with fail
   refine(e2.o _ y (J.o.then' B)).mono ?_
   rintro e w2 ⟨m5,f,rfl,b4,b5,N,j8,Z⟩
   obtain⟨j3,l6,rfl,-⟩:=id b4
   have g9:Sl (keptL es rs a y=f):=⟨sorted_ext (keptL_sorted e0.o) b5 (λ z=>by rw[mem_keptL,a9.o,N])⟩
   have k9:f.length<=65536:=Nat.le_trans (Cm b5 (λ z l=>De d8.o d2.o ((N z).1 l).1)) hK
   have i3:Sl (∀ z∈f,AA es rs z):=⟨λ z l=>((N z).1 l).1⟩
   have d5:=sE b4
   have f5:=B.then' Z
   have i0:=sE (Af L.o Z (λ _ _ d=>d))
   have i8:=sE (Z.cell g6 (λ d=>d))
   have d3:=sE f5
   obtain⟨M,Q⟩:∃ M,f.length=M:=⟨_,rfl⟩
   have d4:=sE Q
   rw[Q] at d5 k9
   rw[Q]
   clear b4 b5 N j8 Z Q B g6 f5
   have l9:=Fp
   have m0:=run_field_sizeC
   go_wp2_with fail
   go_loopw [11,12] (λ x11 x12 m=>∃ j:Nat,x12=.int .i64 j/\j<=M/\x11=.int .i64 (Bb cs (f.take j):Nat)/\Kp Aa w2 m) (λ _ x12 _=>M-(intOf x12).toNat)
   case atStart=>exact ⟨0,rfl,Nat.zero_le _,rfl,Kr _ _⟩
   case round=>
    obtain⟨j,rfl,m2,rfl,t⟩:=hrel
    obtain⟨m,rfl⟩:∃ m,m=wr:=⟨_,rfl⟩
    have D:=F9 e1.o (f.take j)
    have c6:Bb cs (f.take j)<=65536*65536:=Nat.le_trans D (Nat.mul_le_mul_right _ (by rw[List.length_take];omega))
    by_cases hjl:j<M
    .have k4:(j:Int)<(M:Int):=by omega
     obtain⟨z,l⟩:∃ z,f[j]?=some z:=⟨f[j]'(by rw[d4.o];exact hjl),by simp⟩
     obtain⟨a',j6,e,H⟩:=d5.o.Ac t
     obtain⟨j5,l2,e8,l3⟩:=H j z l
     have b9:j3=some ⟨j5,l2,none⟩:=by injection e with O;rw [O];exact e8
     subst b9
     have d9:=i3.o z (List.mem_of_getElem? l)
     have d1:=sE (a7.o m z (J.o.then' (d3.o.then' t)) d9)
     have V:=celN_le e1.o z
     have T:Bb cs (f.take (j+1))=Bb cs (f.take j)+(Bf cs z).sz:=by
      rw[List.take_add_one,l,EZ]
      rfl
     obtain⟨S,A⟩:∃ S,Bb cs (f.take j)=S:=⟨_,rfl⟩
     obtain⟨b3,f2⟩:∃ b3,Bf cs z=b3:=⟨_,rfl⟩
     rw[f2] at V T d1
     rw[A] at c6 T ⊢
     have i6:=sE T
     clear e H e8 l A f2 T d9 D
     go_wp2_with fail
     refine d1.o.mono ?_
     rintro e m6 ⟨rfl,g2⟩
     have k5:=t.then' g2
     unfold celV
     clear g2 t l3
     go_wp2_with fail
     refine⟨⟨j+1,by go_num,by omega,?_,k5⟩,by simp only[intOf];omega⟩
     rw[i6.o]
     show _=Value.int .i64 ((S+b3.sz:Nat):Int)
     go_num
    .have k4:¬ (j:Int)<(M:Int):=by omega
     have G:Sl (f.take j=f):=⟨List.take_of_length_le (by rw[d4.o];omega)⟩
     rw[G.o] at c6 ⊢
     have a3:=t.cell i8.o (λ d=>d)
     have d6:=sE (Af i0.o t (λ _ _ d=>d))
     have a8:Sl (Kp Aa w1 m):=⟨d3.o.then' t⟩
     have k0:p<=m.heap.size:=by
      have O:=a8.o.size
      have l8:=d0.o
      omega
     obtain⟨s,c0⟩:∃ s,Bf cs y=s:=⟨_,rfl⟩
     obtain⟨S,A⟩:∃ S,Bb cs f=S:=⟨_,rfl⟩
     obtain⟨R,b8⟩:∃ R,keepsL cs es rs a (a.take i)=R:=⟨_,rfl⟩
     have g8:Sl (∀ g,Kp Aa m g->Calls prog 67 #[.slice la C lc,.int .i64 (y:Nat)] g (RK (celV s) g)):=⟨λ g E=>by
      rw[<- c0]
      exact a7.o g y (a8.o.then' E |> J.o.then') i4.o⟩
     have i7:Sl (keepsL cs es rs a (a.take (i+1))=R++[(y,s.sz,S)]):=⟨by rw[i5.o,g9.o,c0,A,b8]⟩
     rw[b8] at d6
     rw[A] at c6 ⊢
     have c8:Kp Aa m m.drew:=(Kr _ _).drew
     clear c0 A b8 G D t
     go_wp2_with fail
     refine wp_region_held_drew (S:=λ w'=>w'.cell? ⟨b,q+i,none⟩=some (.int .i64 (y:Nat))) (by kernel_rfl) ?_ (λ a2=>?_)
     .exact a3
     refine Ap 0 ?_;refine Ap 1 ?_;refine Ap 2 ?_;refine Ap 3 ?_;refine Ap 4 ?_
     try simp only[AB]
     refine Ap 5 ?_;refine Ap 6 ?_;refine Ap 7 ?_;refine Ap 8 ?_;refine Ap 9 ?_
     try simp only[AB]
     refine Ap 13 ?_
     try simp only[AB]
     refine Bp [10] ?_
     refine Ag rfl (λ K hK=>?_)
     go_simp
     go_at_call 67
     (with_reducible refine(g8.o _ c8).mono ?_)
     rintro e x ⟨rfl,g3⟩
     have a0:Kp Aa m x:=c8.then' g3
     refine hK _ _ ?_ (λ a2=>?_)
     .exact Ae a0 a3
     clear hK K
     try simp only[AB]
     unfold celV
     refine Ap 11 ?_;refine Ap 12 ?_;refine Ap 14 ?_
     try simp only[AB]
     refine Bp [15] ?_
     refine Ag rfl (λ K hK=>?_)
     go_simp
     obtain⟨F,Y⟩:∃ F,F=x.alloc (.cells #[.int .i64 (y:Nat),s.sz,.int .i64 (S:Nat)] 67):=⟨_,rfl⟩
     have c7:Kp Aa x F:=by rw[Y];exact (Kr _ x).alloc _
     have e3:F.heap[x.heap.size]?=some (.cells #[.int .i64 (y:Nat),s.sz,.int .i64 (S:Nat)] 67 (0,0)):=by rw[Y];exact wN x _
     rw[<- Y]
     clear Y
     have a1:Kp Aa m F:=a0.then' c7
     have k1:p<=F.heap.size:=Nat.le_trans k0 a1.size
     have d7:=sE (Af d6.o a1 (λ _ _ d=>d))
     refine hK _ _ ?_ (λ a2=>?_)
     .exact Ae c7 (Ae a0 a3)
     clear hK K
     try simp only[AB]
     obtain⟨l0,f4,f8,f9,g0⟩:=info_parts infoKeep
     refine Bp [16] ?_
     refine Ag rfl (λ K hK=>?_)
     refine CP rfl rfl (.tmp 45) (.tmp 60) 34 rfl p 67 l0 _ 3 24 Dq f4 f8 f9 g0 rfl (by omega) (.slice j4 i j7) i (Bt R) rfl d7.o ⟨x.heap.size,0,none⟩ 1 _ [.int .i64 (y:Nat),s.sz,.int .i64 (S:Nat)] rfl rfl (World.news_of_block e3) (by intro u f7;simp at f7;rcases f7 with rfl|rfl|rfl <;> rfl) (by unfold maxLen;omega) (by omega) k1 ?_
     intro l1 g5 f6 f3 k2
     clear f4 f8 f9 g0
     have g4:Kp Aa w1 g5:=(a8.o.then' a1).grown f3 (λ k e B=>by have:=(Ad d7.o e).1;have:=d0.o;omega)
     have i1:Sl (g5.ownsRow p 67 3 l1 (i+1) (Bt (R++[(y,s.sz,S)]))):=⟨by
      rw[flatE_snoc]
      exact f6⟩
     refine hK _ _ ?_ (λ a2=>?_)
     .exact g4.cell i9.o (λ d=>d)
     clear hK K
     try simp only[AB]
     refine Ap 17 ?_
     try simp only[AB]
     refine wpAnyH_done (by kernel_rfl) ?_ _
     clear a2 f6 f3 k2 c7 a1 e3 c8 g3 a0 a3
     go_wp2_with fail
     refine⟨⟨i+1,by go_num,by omega,⟨?_⟩,g4⟩,by simp only[intOf];omega⟩
     rw[i7.o]
     exact i1.o
  .have k3:¬ (i:Int)<(v:Int):=by omega
   have G:Sl (a.take i=a):=⟨List.take_of_length_le (by rw[a6.o];omega)⟩
   have i2:Sl (Dl wr u8 (keepsL cs es rs a a)):=⟨Dl.of_owns3 (by
    have d:=L.o
    rw[G.o] at d
    have k7:i=(keepsL cs es rs a a).length:=by
     unfold keepsL
     rw[List.length_map,a6.o]
     omega
    rw[k7] at d
    exact d)⟩
   have k6:=J.o.then' B
   clear G L
   go_wp2_with fail
   go_ret
   exact⟨_,a,e0.o,a9.o,rfl,i2.o,k6⟩

end

section
open Go.RowKit

def CJ(cs:List Cel)(m:List Nat):Nat->List (Nat×Nat×Nat)
 |0=>[]
 |k+1=>CJ cs m k++if 0<(Ch cs m (k+1)).length then [Ev cs m (k+1)] else []

theorem typesD_len(cs:List Cel)(m:List Nat):∀ k,(CJ cs m k).length<=k
 |0=>Nat.le_refl _
 |k+1=>by
  have h:=typesD_len cs m k
  show(CJ cs m k++_).length<=_
  rw[List.length_append]
  split
  .rw [List.length_singleton]
   omega
  .rw [List.length_nil]
   omega

theorem set3_1d{w:World}{b:Nat}{a d c:Value}{T:TypeId}(e:w.heap[b]?=some (.cells #[a,d,c] T (0,0)))(v:Value):(w.setCell ⟨b,1,none⟩ v).heap[b]?=some (.cells #[a,v,c] T (0,0)):=by
 rw[bZ e]
 rfl

def DTypesPost(cs:List Cel)(es:List (Nat×Nat×Nat))(rs:List Nat)(w:World)(e:Ending)(w':World):Prop:=
 ∃ (v:Value) (m:List Nat),m.Pairwise (· <·)/\(∀ z,z∈m ↔ AA es rs z)/\e=.returned v/\Dl w' v (CJ cs m 64)/\Kp Aa w w'

set_option maxRecDepth 20000 in
theorem DTypes_at(w:World)(la:Option Addr)(lc:Nat)(cs:List Cel)(ea:Option Addr)(ec:Nat)(es:List (Nat×Nat×Nat))(ra:Option Addr)(rc:Nat)(rs:List Nat)(K:Nat)
  (d6:Du w (.slice la cs.length lc) cs) (T:cs.length<=65536) (e7:∀ c∈cs,c.sz<=65536) (d7:∀ z,AA es rs z->celAt cs z=some (Bf cs z))
  (e0:Dl w (.slice ea es.length ec) es) (e5:AO w (.slice ra rs.length rc) rs) (hK:K<=65536) (b3:∀ r∈rs,r<K) (b1:∀ e∈es,e.2.2<K) (e1:es.length<=2147483648) (e6:rs.length<=65536):
  Calls prog 23 #[.slice la cs.length lc,.slice ea es.length ec,.slice ra rs.length rc] w (DTypesPost cs es rs w):=by
 have Y:=sE (DD w ea ec es ra rc rs K e0 e5 hK b3 b1 e1 e6)
 have c0:Sl (∀ E z,Kp Aa w E->AA es rs z->Calls prog 67 #[.slice la cs.length lc,.int .i64 (z:Nat)] E (RK (celV (Bf cs z)) E)):=⟨λ E z k0 l=>DCell39_at E la lc cs z _ (d6.Ac k0) T (d7 z l)⟩
 have g5:=sE b3
 have g0:=sE b1
 have c6:=sE e7
 obtain⟨n,b2⟩:∃ n,rs.length=n:=⟨_,rfl⟩
 obtain⟨b7,b0⟩:∃ b7,es.length=b7:=⟨_,rfl⟩
 obtain⟨C,a9⟩:∃ C,cs.length=C:=⟨_,rfl⟩
 rw[b2,b0] at Y
 rw[a9] at c0
 rw[b2,b0,a9]
 clear d6 e0 e5 b3 b1 b2 b0 a9 e1 e6 e7 d7 T
 go_enter func23,ntmps23
 go_wp2_with fail
 refine Y.o.mono ?_
 rintro e w1 ⟨m4,a,rfl,a4,a5,a6,g8,f3⟩
 obtain⟨g9,l1,rfl,-⟩:=id a4
 have b8:=sE a4
 have g6:=sE a5
 have c5:=sE a6
 have j3:a.length<=65536:=Nat.le_trans (Cm a5 (λ z l=>De g5.o g0.o ((a6 z).1 l))) hK
 have c2:=sE f3
 obtain⟨m,P⟩:∃ m,a.length=m:=⟨_,rfl⟩
 have Z:=sE P
 rw[P] at b8 j3
 rw[P]
 obtain⟨q,d3⟩:∃ q,w1.heap.size=q:=⟨_,rfl⟩
 have L:Sl (w1.heap.size=q):=⟨d3⟩
 clear a4 a5 a6 g8 f3 Y P d3
 go_wp2_with fail
 go_loopw [8,9] (λ x8 x9 wr=>∃ (k:Nat),x9=.int .i64 ((k+1:Nat):Int)/\k<=64/\Sl (wr.ownsRow q 82 3 x8 (CJ cs a k).length (Bt (CJ cs a k)))/\Kp Aa w1 wr) (λ _ x9 _=>65-(intOf x9).toNat)
 case atStart=>exact ⟨0,rfl,Nat.zero_le _,⟨World.ownsRow_nil _ _ _ _⟩,Kr _ _⟩
 case round=>
  obtain⟨k,rfl,l8,B,U⟩:=hrel
  obtain⟨t,b5⟩:∃ t,k+1=t:=⟨_,rfl⟩
  rw[b5]
  by_cases hil:k<64
  .have j0:(t:Int)<=64:=by omega
   obtain⟨k9,l2,i5⟩:=Aq B.o
   subst i5
   have HOr:=sE B.o
   have g2:=sE U
   go_wp2_with fail
   obtain⟨s,W⟩:∃ s,s=wr.alloc (.cells #[.int .i64 (t:Nat),(0:Int),(0:Int)] 82):=⟨_,rfl⟩
   have f4:Kp Aa wr s:=by rw[W];exact (Kr _ wr).alloc _
   have a7:s.heap[wr.heap.size]?=some (.cells #[.int .i64 (t:Nat),(0:Int),(0:Int)] 82 (0,0)):=by rw[W];exact wN wr _
   rw[<- W]
   obtain⟨i,b4⟩:∃ i,wr.heap.size=i:=⟨_,rfl⟩
   have g7:=sE b4
   have l6:q<=i:=by
    have y:=U.size
    have a8:=L.o
    omega
   rw[b4] at a7 ⊢
   have f9:=sE a7
   have c4:Sl (Kp Aa wr s):=⟨f4⟩
   clear W f4 a7 b4 U B
   go_loopw [11] (λ x11 f8=>∃ j:Nat,x11=.int .i64 j/\j<=m/\Sl (f8.heap[i]?=some (.cells #[.int .i64 (t:Nat),.int .i64 ((Ch cs (a.take j) t).length:Nat),.int .i64 (Bb cs (Ch cs (a.take j) t):Nat)] 82 (0,0)))/\Kp (λ k=>k=i) s f8) (λ x11 _=>m-(intOf x11).toNat)
   case atStart=>exact ⟨0,rfl,Nat.zero_le _,⟨f9.o⟩,Kr _ _⟩
   case round=>
    obtain⟨j,rfl,l9,J,G⟩:=hrel
    have v:Kp Aa w1 wr:=(g2.o.then' c4.o).trans G (λ x j7 f=>by have i4:x=i:=f;have:=L.o;omega)
    obtain⟨p,V⟩:∃ p,(Ch cs (a.take j) t).length=p:=⟨_,rfl⟩
    obtain⟨S,Q⟩:∃ S,Bb cs (Ch cs (a.take j) t)=S:=⟨_,rfl⟩
    have j6:p<=65536:=by
     have y:(Ch cs (a.take j) t).length<=(a.take j).length:=List.length_filter_le _ _
     have a8:(a.take j).length<=a.length:=List.length_take_le' ..
     have l4:=Z.o
     omega
    have l7:S<=65536*65536:=by
     rw[<- Q]
     exact Nat.le_trans (F9 c6.o _) (Nat.mul_le_mul_right _ (by rw[V];exact j6))
    have D:Sl ((Ch cs (a.take j) t).length=p/\Bb cs (Ch cs (a.take j) t)=S):=⟨V,Q⟩
    rw[V,Q] at J
    clear V Q
    by_cases hjl:j<m
    .have j1:(j:Int)<(m:Int):=by omega
     obtain⟨z,l⟩:∃ z,a[j]?=some z:=⟨a[j]'(by rw[Z.o];exact hjl),by simp⟩
     obtain⟨a',l0,e,d8⟩:=b8.o.Ac v
     obtain⟨i0,k1,d5,k8⟩:=d8 j z l
     have i7:g9=some ⟨i0,k1,none⟩:=by injection e with y;rw [y];exact d5
     subst i7
     have c1:=sE (c0.o wr z (c2.o.then' v) ((c5.o z).1 (List.mem_of_getElem? l)))
     have T:=celN_le c6.o z
     have a1:Sl (Ch cs (a.take (j+1)) t=Ch cs (a.take j) t++if (Bf cs z).ty=t then [z] else []):=⟨by
      rw[List.take_add_one,l]
      exact ofTy_step t⟩
     have c7:Sl (Bb cs [z]=(Bf cs z).sz):=⟨rfl⟩
     obtain⟨d,d9⟩:∃ d,Bf cs z=d:=⟨_,rfl⟩
     rw[d9] at T c1 a1 c7
     have g1:=sE G
     clear e d8 d5 l d9 v G
     go_wp2_with fail
     refine c1.o.mono ?_
     rintro e A ⟨rfl,X⟩
     unfold celV
     obtain⟨I,H⟩:∃ I,I=A.alloc (.cells #[d.g,.int .u8 d.tag,d.ty,d.ln,d.sz] 113):=⟨_,rfl⟩
     have b6:Kp Aa A I:=by rw[H];exact (Kr _ A).alloc _
     have d2:I.heap[A.heap.size]?=some (.cells #[d.g,.int .u8 d.tag,d.ty,d.ln,d.sz] 113 (0,0)):=by rw[H];exact wN A _
     have F:=(X.then' b6).at_ J.o (λ f=>f)
     have b9:=sE F
     obtain⟨k3,k4,k5,k6,k7⟩:=DT d2
     obtain⟨f5,f6,f7⟩:=cells3 F
     have i2:=Ab F 1
     have i3:=Ab F 2
     have m0:¬ A.heap.size=i:=λ f=>by
      have y:=lZ (X.at_ J.o (λ f=>f))
      omega
     rw[H] at k3 k4 k5 k6 k7 f5 f6 f7 i2 i3
     have d1:Sl (Kp (λ k=>k=i) s I):=⟨g1.o.trans (X.then' b6) (λ _ _ f=>f.elim)⟩
     have d0:=sE H
     have m2:IntKind.i64.wrap ((p:Int)+1)=((p+1:Nat):Int):=by rw[IntKind.wrap_i64];omega
     have m3:IntKind.i64.wrap ((S:Int)+(d.sz:Int))=((S+d.sz:Nat):Int):=by rw[IntKind.wrap_i64];omega
     clear X b6 d2 F H k8
     by_cases hty:d.ty=t
     .have i1:((d.ty:Int)==(t:Int))=true:=by rw[hty];simp
      have a0:Sl (Ch cs (a.take (j+1)) t=Ch cs (a.take j) t++[z]):=⟨by rw[a1.o,if_pos hty]⟩
      clear hty
      go_wp2_with fail
      rw[<- d0.o]
      refine⟨⟨j+1,by go_num,by omega,⟨?_⟩,(d1.o.setCell (λ _=>rfl) _).setCell (λ _=>rfl) _⟩,by simp only[intOf];omega⟩
      rw[a0.o,List.length_append,EZ,D.o.1,D.o.2,c7.o]
      exact set3_2 (set3_1d b9.o _) _
     .have i1:((d.ty:Int)==(t:Int))=false:=by rw[beq_eq_false_iff_ne];omega
      have a0:Sl (Ch cs (a.take (j+1)) t=Ch cs (a.take j) t):=⟨by rw[a1.o,if_neg hty,List.append_nil]⟩
      clear hty
      go_wp2_with fail
      rw[<- d0.o]
      refine⟨⟨j+1,by go_num,by omega,⟨?_⟩,d1.o⟩,by simp only[intOf];omega⟩
      rw[a0.o,D.o.1,D.o.2]
      exact b9.o
    .have j1:¬ (j:Int)<(m:Int):=by omega
     have c8:Sl (a.take j=a):=⟨List.take_of_length_le (by rw[Z.o];omega)⟩
     have N:Sl ((Ch cs a t).length=p/\Bb cs (Ch cs a t)=S):=⟨by rw[<- c8.o];exact D.o⟩
     have M:Sl _:=⟨Af (Af HOr.o c4.o (λ _ _ f=>f)) G (λ b i9 f=>by
      have i4:b=i:=f
      have y:=(Ad HOr.o i9).2
      have a8:=g7.o
      omega)⟩
     have i6:=typesD_len cs a k
     have a2:Sl (CJ cs a (k+1)=CJ cs a k++if 0<(Ch cs a (k+1)).length then [Ev cs a (k+1)] else []):=⟨rfl⟩
     obtain⟨R,d4⟩:∃ R,CJ cs a k=R:=⟨_,rfl⟩
     rw[d4] at M a2 i6 ⊢
     obtain⟨f5,f6,f7⟩:=cells3 J.o
     have c9:Sl (k+1=t):=⟨b5⟩
     have c3:=sE v
     have l5:q<=wr.heap.size:=by
      have y:=v.size
      have a8:=L.o
      omega
     have e9:((t:Int)+1)=((k+1+1:Nat):Int):=by omega
     have O:=sE e9
     have m1:t<=64:=by omega
     clear c8 d4 v G b5 e9
     by_cases hp0:0<p
     .have j5:(0:Int)<(p:Int):=by omega
      have a3:Sl (CJ cs a (k+1)=R++[(t,p,S)]):=⟨by
       rw[a2.o,c9.o,if_pos (by rw[N.o.1];exact hp0)]
       unfold Ev
       rw[N.o.1,N.o.2]⟩
      go_wp2_with (at_builtin;obtain ⟨j8,e3,f0,f1,f2⟩:=info_parts infoShare;go_loud (refine wpList_append_lies _ rfl (.tmp 53) (.tmp 55) 38 rfl q 82 j8 _ 3 24 Gb e3 f0 f1 f2 rfl (by omega) _ R.length (Bt R) rfl (Af M.o ((Kr Aa wr).alloc _) (λ _ _ f=>f)) ⟨wr.heap.size,0,none⟩ 1 1 [.int .i64 (t:Nat),.int .i64 (p:Nat),.int .i64 (S:Nat)] rfl rfl (World.news_of_block (wN wr _)) (by intro u e8;simp at e8;rcases e8 with rfl|rfl|rfl <;> rfl) (by omega) (by unfold maxLen;omega) (by omega) (by simp;omega) (wr.heap.size+1) (by simp) ?_);intro l3 cap k2 e4 e2 i8 j4;clear e3 f0 f1 f2)
      have j9:Kp Aa w1 k2:=(c3.o.then' ((Kr Aa wr).alloc _)).grown e2 (λ x e j7=>by have:=(Ad M.o e).1;have:=L.o;omega)
      have g3:=sE e4
      clear e4 e2 i8 j4
      go_wp2_with fail
      refine⟨⟨k+1,?_,by omega,⟨?_⟩,j9⟩,by simp only[intOf];omega⟩
      .first
        |(rw [<- O.o];go_num)
        |(rw [O.o])
      .rw [a3.o,flatE_snoc,List.length_append,List.length_singleton]
       exact g3.o
     .have j5:¬ (0:Int)<(p:Int):=by omega
      have a3:Sl (CJ cs a (k+1)=R):=⟨by
       rw[a2.o,c9.o,if_neg (by rw[N.o.1];exact hp0),List.append_nil]⟩
      go_wp2_with fail
      refine⟨⟨k+1,?_,by omega,⟨?_⟩,c3.o⟩,by simp only[intOf];omega⟩
      .first
        |(rw [<- O.o];go_num)
        |(rw [O.o])
      .rw [a3.o]
       exact M.o
  .have j0:¬ (t:Int)<=64:=by omega
   have g4:Sl (Dl wr u8 (CJ cs a 64)):=⟨Dl.of_owns3 (by
    have f:=B.o
    obtain rfl:k=64:=by omega
    exact f)⟩
   have j2:=c2.o.then' U
   clear B
   go_wp2_with fail
   go_ret
   exact⟨_,a,g6.o,c5.o,rfl,g4.o,j2⟩

end

section
open Go.RowKit

def Er(cs:List Cel)(g:Int):Bool:=cs.any λ c=>decide ((c.g:Int)=g)&&decide (c.tag=1)

theorem isObj_take{cs:List Cel}{g:Int}{i:Nat}{c:Cel}(h:cs[i]?=some c):Er (cs.take (i+1)) g=(Er (cs.take i) g||(decide ((c.g:Int)=g)&&decide (c.tag=1))):=any_take h

theorem isObj_yes{cs:List Cel}{g:Int}:Er cs g=true ↔ ∃ c∈cs,(c.g:Int)=g/\c.tag=1:=by
 unfold Er
 rw[List.any_eq_true]
 constructor
 .rintro ⟨c,b,a⟩
  rw[Bool.and_eq_true,decide_eq_true_iff,decide_eq_true_iff] at a
  exact⟨c,b,a⟩
 .rintro ⟨c,b,a⟩
  exact⟨c,b,by rw[Bool.and_eq_true,decide_eq_true_iff,decide_eq_true_iff];exact a⟩

set_option maxRecDepth 20000 in
theorem DObject_at(P:Sp)(W:Nat->Nat)(cs:List Cel)(p q:Nat)(m:Value)(w:World)(g:Int)(B:DocAt w p q P.n W m)(z:CellsAt P W cs)(D:A8 w m P.ts)(C:P.ts.length<=17592186044416)(v:Cw P.ts)(M:cs.length<=65536):
  Calls prog 12 #[.pointer (some p),.int .i64 g] w (RK (.bool (Er cs g)) w):=by
 have r:=sE (DAll_at P W cs p q m w B z D C v)
 obtain⟨n,k⟩:∃ n,cs.length=n:=⟨_,rfl⟩
 have f:=sE k
 rw[k] at M
 clear B z D C v k
 go_enter func12,ntmps12
 go_wp2_with fail
 refine r.o.mono ?_
 rintro e w1 ⟨T,rfl,l,E⟩
 obtain⟨I,Q,rfl⟩:=Aq l
 have s:=sE (Du.Bc l)
 have t:=sE E
 rw[f.o] at s ⊢
 clear l E r
 go_wp2_with fail
 go_loopw [6] (λ x6 wr=>∃ i:Nat,x6=.int .i64 i/\i<=n/\Sl (Er (cs.take i) g=false)/\wr=w1) (λ x6 _=>n-(intOf x6).toNat)
 case atStart=>exact ⟨0,rfl,Nat.zero_le _,⟨rfl⟩,rfl⟩
 case round=>
  obtain⟨i,rfl,S,d,rfl⟩:=hrel
  by_cases hil:i<n
  .have N:(i:Int)<(n:Int):=by omega
   obtain⟨c,a⟩:∃ x,cs[i]?=some x:=⟨cs[i]'(by rw[f.o];exact hil),by simp⟩
   obtain⟨a',O,e,A⟩:=s.o
   obtain⟨b,y,R,U,V,X,Y,Z⟩:=A i c a
   have L:I=some ⟨b,0,none⟩:=by injection e with h1;rw [h1];exact y
   subst L
   have u:=sE (isObj_take (g:=g) a)
   have F:Sl (c∈cs):=⟨List.mem_of_getElem? a⟩
   clear e A y a
   by_cases h1:(c.g:Int)=g
   .have J:((c.g:Int)==g)=true:=by rw[h1];simp
    by_cases h2:c.tag=1
    .have K:((c.tag:Int)==1)=true:=by rw[h2];rfl
     have H:Sl (Er cs g=true):=⟨isObj_yes.2 ⟨c,F.o,h1,h2⟩⟩
     clear h1 h2
     go_wp2_with fail
     go_ret
     exact⟨by rw[H.o];rfl,t.o⟩
    .have K:((c.tag:Int)==1)=false:=by rw[beq_eq_false_iff_ne];omega
     have j:Sl (Er (cs.take (i+1)) g=false):=⟨by rw[u.o,d.o,dF h2,Bool.and_false];rfl⟩
     clear h1 h2
     go_wp2_with fail
     exact⟨⟨i+1,by go_num,by omega,j,trivial⟩,by simp only[intOf];omega⟩
   .have J:((c.g:Int)==g)=false:=by rw[beq_eq_false_iff_ne];exact h1
    have j:Sl (Er (cs.take (i+1)) g=false):=⟨by rw[u.o,d.o,dF h1,Bool.false_and];rfl⟩
    clear h1
    go_wp2_with fail
    exact⟨⟨i+1,by go_num,by omega,j,trivial⟩,by simp only[intOf];omega⟩
  .have N:¬ (i:Int)<(n:Int):=by omega
   have G:Sl (Er cs g=false):=⟨by
    have:=d.o
    rwa [List.take_of_length_le (by rw[f.o];omega)] at this⟩
   go_wp2_with fail
   go_ret
   exact⟨by rw[G.o];rfl,t.o⟩

end

section
open Go.RowKit

theorem celN_objs{cs:List Cel}{g:Nat}{c:Cel}(r:∀ x∈cs,∀ y∈cs,x.g=y.g->x=y)(i:c∈cs)(s:c.tag=1)(j:c.g=g)(q:c∈Aj cs):celAt cs g=some c/\Bf cs g=c/\Bf (Aj cs) g=c:=by
 have b:∀ l:List Cel,(∀ x∈l,x∈cs)->c∈l->l.find? (λ c=>c.g==g)=some c:=λ l p m=>by
  cases e:l.find? (λ c=>c.g==g) with
  |none=>
   have:=List.find?_eq_none.1 e c m
   simp[j] at this
  |some d=>
   have n:=List.mem_of_find?_eq_some e
   have o:d.g=g:=by
    have:=List.find?_some e
    simpa using this
   rw[r d (p d n) c i (o.trans j.symm)]
 have f:=b cs (λ x a=>a) i
 have k:=b (Aj cs) (λ x a=>(AX.1 a).1) q
 refine⟨f,?_,?_⟩
 .unfold Bf
  rw[f]
  rfl
 .unfold Bf
  rw[k]
  rfl

theorem setL_doc{es:List (Nat×Nat×Nat)}{rs m:List Nat}{fm:Nat->Bool}{H:Nat}(c:∀ g,fm g=true ↔ AA es rs g)(d:m.Pairwise (· <·))(e:∀ z,z∈m ↔ AA es rs z)(b:∀ z,AA es rs z->z<H):Bo fm H=m:=
 sorted_ext (setL_up fm H) d (λ z=>by
  unfold Bo
  rw[List.mem_filter,List.mem_range,c,e]
  exact⟨λ a=>a.2,λ a=>⟨b z a,a⟩⟩)

theorem overL_doc{es:List (Nat×Nat×Nat)}{rs m o:List Nat}{g:Nat}(b:m.Pairwise (· <·))(a:∀ z,z∈m ↔ AA es rs z)(c:o.Pairwise (· <·))(d:∀ z,z∈o ↔ AA es rs z/\OverIs es rs g z):overL es rs m g m=o:=
 sorted_ext (b.sublist List.filter_sublist) c (λ z=>by
  unfold overL
  rw[List.mem_filter,d,a,Bool.and_eq_true,decide_eq_true_iff,mem_keptL,a]
  unfold OverIs
  rw[Bool.not_eq_true',beq_eq_false_iff_ne])

theorem sizeL_congr{a b:List Cel}:∀ {l:List Nat},(∀ z∈l,Bf a z=Bf b z)->Bb a l=Bb b l
 |[],_=>rfl
 |x::l,h=>by
  show(Bf a x).sz+Bb a l=(Bf b x).sz+Bb b l
  rw[h x (List.mem_cons_self ..),sizeL_congr (λ z c=>h z (List.mem_cons_of_mem _ c))]

theorem keepsL_congr{a b:List Cel}{es:List (Nat×Nat×Nat)}{rs m:List Nat}(c:∀ z∈m,Bf a z=Bf b z):keepsL a es rs m m=keepsL b es rs m m:=by
 unfold keepsL
 refine List.map_congr_left λ z e=>?_
 rw[c z e,sizeL_congr (λ x d=>c x (mem_keptL.1 d).1)]

theorem lostL_doc{cs:List Cel}{m:List Nat}{fm:Nat->Bool}(b:∀ g,fm g=true ↔ g∈m):lostL (Aj cs) fm=(Cx cs m).map Cel.g:=by
 have a:∀ g,fm g=decide (g∈m):=λ g=>by
  rw[Bool.eq_iff_iff,b,decide_eq_true_iff]
 unfold lostL Cx Aj
 rw[List.filter_map,List.filter_filter]
 congr 1
 refine List.filter_congr λ c _=>?_
 show(!fm c.g&&_)=_
 rw[a,Bool.and_comm]
 congr 1

theorem sizeL_loss{os:List Cel}:∀ {l:List Cel},(∀ c∈l,Bf os c.g=c)->Bb os (l.map Cel.g)=szC l
 |[],_=>rfl
 |x::l,h=>by
  show(Bf os x.g).sz+Bb os (l.map Cel.g)=szC (x::l)
  rw[h x (List.mem_cons_self ..),sizeL_loss (λ c a=>h c (List.mem_cons_of_mem _ a))]
  unfold szC
  rw[List.map_cons,List.sum_cons]

def typT(cs:List Cel)(m:List Nat):Nat->List Nat
 |0=>[]
 |k+1=>typT cs m k++if 0<(Ch cs m (k+1)).length then [k+1] else []

theorem typesD_map(cs:List Cel)(m:List Nat):∀ k,CJ cs m k=(typT cs m k).map (Ev cs m)
 |0=>rfl
 |k+1=>by
  show CJ cs m k++_=(typT cs m k++_).map _
  rw[List.map_append,typesD_map cs m k]
  congr 1
  split <;> rfl

theorem mem_typT(cs:List Cel)(m:List Nat)(t:Nat):∀ k,t∈typT cs m k ↔ 1<=t/\t<=k/\0<(Ch cs m t).length
 |0=>by
  show t∈[] ↔ _
  simp
  omega
 |k+1=>by
  show t∈typT cs m k++_ ↔ _
  rw[List.mem_append,mem_typT cs m t k]
  split
  .rename_i c
   rw[List.mem_singleton]
   constructor
   .rintro (a|rfl)
    .exact ⟨a.1,by omega,a.2.2⟩
    .exact ⟨by omega,Nat.le_refl _,c⟩
   .rintro ⟨a,d,b⟩
    by_cases e:t=k+1
    .exact .inr e
    .exact .inl ⟨a,by omega,b⟩
  .rename_i c
   constructor
   .rintro (a|a)
    .exact ⟨a.1,by omega,a.2.2⟩
    .cases a
   .rintro ⟨a,d,b⟩
    refine .inl ⟨a,?_,b⟩
    by_cases e:t=k+1
    .subst e
     exact absurd b c
    .omega

theorem typT_up(cs:List Cel)(m:List Nat):∀ k,(typT cs m k).Pairwise (· <·)
 |0=>List.Pairwise.nil
 |k+1=>by
  show(typT cs m k++_).Pairwise _
  refine List.pairwise_append.2 ⟨typT_up cs m k,?_,λ a d b c=>?_⟩
  .split
   .exact List.pairwise_singleton _ _
   .exact List.Pairwise.nil
  .have e:=(mem_typT cs m a k).1 d
   split at c
   .rw [List.mem_singleton] at c
    omega
   .cases c

theorem types_doc{cs:List Cel}{m c:List Nat}{M:List (Nat×Nat×Nat)}(q:c.Nodup)(i:M.Perm (c.map (Ev cs m)))(u:M.Pairwise (λ a b=>a.1<=b.1))(p:∀ t,t∈c ↔ 1<=t/\t<=64/\0<(Ch cs m t).length):M=CJ cs m 64:=by
 have f:(M.map Prod.fst).Perm c:=by
  have:=i.map Prod.fst
  rw[List.map_map] at this
  have e:c.map (Prod.fst ∘ Ev cs m)=c:=(List.map_congr_left (g:=id) λ_ _=>rfl).trans (List.map_id c)
  rwa [e] at this
 have j:(M.map Prod.fst).Pairwise (· <=·):=List.pairwise_map.2 u
 have k:(M.map Prod.fst).Nodup:=f.nodup_iff.2 q
 have l:(M.map Prod.fst).Pairwise (· <·):=(j.and k).imp (λ d=>Nat.lt_of_le_of_ne d.1 d.2)
 have n:M.map Prod.fst=typT cs m 64:=sorted_ext l (typT_up cs m 64) (λ z=>by rw[f.mem_iff,p,mem_typT])
 have o:M=(M.map Prod.fst).map (Ev cs m):=by
  rw[List.map_map]
  refine(List.map_id M).symm.trans (List.map_congr_left λ r s=>?_)
  obtain⟨t,-,rfl⟩:=List.mem_map.1 (i.mem_iff.1 s)
  rfl
 rw[o,n,typesD_map]

end

section
open Go.RowKit

theorem tiles_sz:∀ {xs:List Cel} {a b:Nat},AC a xs b->a+szC xs=b
 |[],a,b,h=>by
  have h:a=b:=h
  rw[h];rfl
 |c::xs,a,b,⟨h1,h2,h3⟩=>by
  have:=tiles_sz h3
  unfold Cel.fin at this
  show a+(c.sz+szC xs)=b
  omega

theorem Dl.toT{w:World}{v:Value}{L:List (Nat×Nat×Nat)}(e:Dl w v L):CY w v (L.map toI):=by
 obtain⟨a,c,rfl,j⟩:=e
 refine⟨a,c,by rw[List.length_map],λ i x d=>?_⟩
 rw[List.getElem?_map] at d
 obtain⟨y,k,rfl⟩:=Option.map_eq_some_iff.1 d
 obtain⟨b,f,-,g⟩:=j i y k
 exact⟨b,f,g⟩

theorem ty_few{P:Sp}{W:Nat->Nat}{cs:List Cel}(d:CellsAt P W cs)(g:P.ts.length<=64){c:Cel}(b:c∈cs)(f:c.tag=1):1<=c.ty/\c.ty<=64:=by
 have a:=((d.ok c b).2 f).1
 unfold AV at a
 cases e:typeOf P.ts (c.ty:Nat) with
 |none=>rw [e] at a;simp at a
 |some x=>
  unfold typeOf at e
  by_cases h2:(1:Int)<=(c.ty:Nat)
  .rw [if_pos h2] at e
   have:=(gE.1 e).1
   omega
  .rw [if_neg h2] at e
   cases e

theorem cel_doc{P:Sp}{W:Nat->Nat}{cs:List Cel}(i:CellsAt P W cs){z:Nat}(f:CL cs z):∃ c∈cs,c.tag=1/\c.g=z/\celAt cs z=some c/\Bf cs z=c/\Bf (Aj cs) z=c:=by
 obtain⟨c,a,b,d⟩:=f
 exact⟨c,a,b,d,celN_objs (λ x j y k e=>i.tl.only j k e) a b d (AX.2 ⟨a,b⟩)⟩

theorem lost_doc{P:Sp}{W:Nat->Nat}{cs:List Cel}(f:CellsAt P W cs){m:List Nat}{fm:Nat->Bool}(l:∀ g,fm g=true ↔ g∈m):
  (lostL (Aj cs) fm).length=(Cx cs m).length/\Bb (Aj cs) (lostL (Aj cs) fm)=szC (Cx cs m):=by
 rw[lostL_doc l,List.length_map]
 refine⟨rfl,sizeL_loss λ c a=>?_⟩
 unfold Cx at a
 obtain⟨b,e⟩:=List.mem_filter.1 a
 rw[Bool.and_eq_true,decide_eq_true_iff] at e
 obtain⟨d,i,n,j,-,-,k⟩:=cel_doc f ⟨c,b,e.1,rfl⟩
 rw[k]
 exact f.tl.only i b j

theorem ofTy_congr{a b:List Cel}{l:List Nat}{t:Nat}(c:∀ z∈l,Bf a z=Bf b z):Ch a l t=Ch b l t:=
 List.filter_congr λ z d=>by rw[c z d]

theorem types_prog{a cs:List Cel}{m f:List Nat}{M:List (Nat×Nat×Nat)}(i:f.Nodup)(n:∀ t,t∈f ↔ ∃ x∈m,(Bf a x).ty=t)(j:M.Perm (f.map (Ev a m)))(o:M.Pairwise (λ a b=>a.1<=b.1))(e:∀ z∈m,Bf a z=Bf cs z)(p:∀ z∈m,1<=(Bf cs z).ty/\(Bf cs z).ty<=64):M=CJ cs m 64:=by
 have k:∀ t,Ev a m t=Ev cs m t:=λ t=>by
  unfold Ev
  rw[ofTy_congr e,sizeL_congr (l:=Ch cs m t) (λ z q=>e z (List.mem_filter.1 q).1)]
 refine types_doc i ?_ o λ t=>?_
 .rwa [List.map_congr_left (λ t _=>k t)] at j
 .rw [n,List.length_pos_iff_exists_mem]
  unfold Ch
  constructor
  .rintro ⟨x,d,rfl⟩
   have c:=p x d
   rw[e x d]
   exact⟨c.1,c.2,x,List.mem_filter.2 ⟨d,by simp⟩⟩
  .rintro ⟨-,-,x,d⟩
   obtain⟨c,g⟩:=List.mem_filter.1 d
   exact⟨x,c,by rw[e x c];simpa using g⟩

end

section
open Go.RowKit

open Classical in
noncomputable def reachL (es:List (Nat×Nat×Nat)) (rs:List Nat) (H:Nat):List Nat:=Bo (λ g=>decide (AA es rs g)) H

theorem setL_reach{es:List (Nat×Nat×Nat)}{rs:List Nat}{fm:Nat->Bool}{H:Nat}(h:∀ g,fm g=true ↔ AA es rs g):Bo fm H=reachL es rs H:=
 setL_congr λ i _=>by
  classical
  rw[Bool.eq_iff_iff,h,decide_eq_true_iff]

theorem Ed{es:List (Nat×Nat×Nat)}{rs:List Nat}{H z:Nat}:z∈reachL es rs H ↔ z<H/\AA es rs z:=by
 classical
 unfold reachL Bo
 rw[List.mem_filter,List.mem_range,decide_eq_true_iff]

theorem FZ{P:Sp}{W:Nat->Nat}{f:Nat->Bool}{cs:List Cel}(b:CellsAt P W cs)(j:∀ i,i<P.n/2->f i=Ak cs i){rs:List Nat}(d:∀ g∈rs,CL cs g){x:Nat}(a:AA (AP P.ts W cs) rs x):CL cs x:=
 AA.rec' (p:=λ x=>CL cs x) d (λ e c _ _=>(Ep b j c).2.1) a

structure AskD(cs:List Cel)(es:List (Nat×Nat×Nat))(rs:List Nat)(K:Nat)(la:Option Addr)(lc:Nat)(ea:Option Addr)(ec:Nat)(ra:Option Addr)(rc:Nat)(w:World):Prop where
 cw:Du w (.slice la cs.length lc) cs
 ew:Dl w (.slice ea es.length ec) es
 rw:AO w (.slice ra rs.length rc) rs
 cl:cs.length<=65536
 sz:szC cs<=65536
 cz:∀ c∈cs,c.sz<=65536
 el:es.length<=2147483648
 rl:rs.length<=65536
 k:K<=65536
 rk:∀ r∈rs,r<K
 ek:∀ e∈es,e.2.2<K
 ce:∀ z,AA es rs z->celAt cs z=some (Bf cs z)
 zk:∀ z,AA es rs z->z<K

section

variable {cs:List Cel} {es:List (Nat×Nat×Nat)} {rs:List Nat} {K:Nat} {la ea ra:Option Addr} {lc ec rc:Nat} {w:World}

theorem AskD.of{P:Sp}{W:Nat->Nat}{f:Nat->Bool}(a:CellsAt P W cs)(t:P.n<=65536)(d:∀ i,i<P.n/2->f i=Ak cs i)(b:∀ g∈rs,CL cs g)(s:rs.length<=65536)
  (k:Du w (.slice la cs.length lc) cs) (l:Dl w (.slice ea (AP P.ts W cs).length ec) (AP P.ts W cs)) (rw:AO w (.slice ra rs.length rc) rs):AskD cs (AP P.ts W cs) rs (P.n/2) la lc ea ec ra rc w:=by
 have v:=BG a.tl
 have x:=tiles_sz a.tl
 exact⟨k,l,rw,by omega,by omega,λ c m=>by have:=a.tl.mem m;omega,Nat.le_trans (Dv cs _) (a.to.F8 t),s,by omega,λ r u=>CV a (b r u),λ e q=>CV a (Ep a d q).2.1,
  λ z j=>by
   obtain⟨c,-,-,-,o,p,-⟩:=cel_doc a (FZ a d b j)
   rw[o,p],
  λ z j=>CV a (FZ a d b j)⟩

theorem AskD.Ac{w':World}(h:AskD cs es rs K la lc ea ec ra rc w)(k:Kp Aa w w'):AskD cs es rs K la lc ea ec ra rc w':=
 ⟨h.cw.Ac k,h.ew.Ac k,h.rw.Ac k,h.cl,h.sz,h.cz,h.el,h.rl,h.k,h.rk,h.ek,h.ce,h.zk⟩

theorem AskD.all(a:AskD cs es rs K la lc ea ec ra rc w){m:List Nat}(b:m.Pairwise (· <·))(c:∀ z,z∈m ↔ AA es rs z):m=reachL es rs K:=by
 classical
 exact(setL_doc (λ g=>decide_eq_true_iff) b c a.zk).symm

theorem AskD.lost(a:AskD cs es rs K la lc ea ec ra rc w):Calls prog 19 #[.slice la cs.length lc,.slice ea es.length ec,.slice ra rs.length rc] w λ e w'=>
  e=.returned (.tuple #[.int .i64 ((Cx cs (reachL es rs K)).length:Nat),.int .i64 (szC (Cx cs (reachL es rs K)):Nat)])/\Kp Aa w w':=by
 refine(DLost_at w la lc cs ea ec es ra rc rs K a.cw a.cl a.sz a.ew a.rw a.k a.rk a.ek a.el a.rl).mono ?_
 rintro e w' ⟨m,b,c,rfl,k⟩
 rw[a.all b c]
 exact⟨rfl,k⟩

theorem AskD.keeps(a:AskD cs es rs K la lc ea ec ra rc w):Calls prog 21 #[.slice la cs.length lc,.slice ea es.length ec,.slice ra rs.length rc] w λ e w'=>
  ∃ v,e=.returned v/\CY w' v ((keepsL cs es rs (reachL es rs K) (reachL es rs K)).map toI)/\Kp Aa w w':=by
 refine(DKeeps_at w la lc cs ea ec es ra rc rs K a.cw a.cl a.cz a.ce a.ew a.rw a.k a.rk a.ek a.el a.rl).mono ?_
 rintro e w' ⟨v,m,c,d,rfl,b,k⟩
 rw[a.all c d] at b
 exact⟨v,rfl,b.toT,k⟩

theorem AskD.types(a:AskD cs es rs K la lc ea ec ra rc w):Calls prog 23 #[.slice la cs.length lc,.slice ea es.length ec,.slice ra rs.length rc] w λ e w'=>
  ∃ v,e=.returned v/\CY w' v ((CJ cs (reachL es rs K) 64).map toI)/\Kp Aa w w':=by
 refine(DTypes_at w la lc cs ea ec es ra rc rs K a.cw a.cl a.cz a.ce a.ew a.rw a.k a.rk a.ek a.el a.rl).mono ?_
 rintro e w' ⟨v,m,c,d,rfl,b,k⟩
 rw[a.all c d] at b
 exact⟨v,rfl,b.toT,k⟩

theorem AskD.over(a:AskD cs es rs K la lc ea ec ra rc w)(g:Nat):Calls prog 25 #[.slice ea es.length ec,.slice ra rs.length rc,g] w λ e w'=>
  ∃ v,e=.returned v/\AO w' v (overL es rs (reachL es rs K) g (reachL es rs K))/\Kp Aa w w':=by
 refine(DOver_at w ea ec es ra rc rs g K a.ew a.rw a.k a.rk a.ek a.el a.rl).mono ?_
 rintro e w' ⟨v,m,rfl,b,c,d,k⟩
 rw[<- overL_doc (m:=reachL es rs K) (setL_up _ _) (λ z=>Ed.trans ⟨λ q=>q.2,λ q=>⟨a.zk z q,q⟩⟩) c d] at b
 exact⟨v,rfl,b,k⟩

end

end

end Go.Proofs.YtfkedlgpgmaemaaGreatDoor
