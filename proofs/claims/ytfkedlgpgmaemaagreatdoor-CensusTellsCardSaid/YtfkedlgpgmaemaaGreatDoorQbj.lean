/-
  Lemmas for the laws, together: CenQ, CenV, CenW.
-/
import Derived.Test.YtfkedlgpgmaemaaGreatDoorQbi
import Derived.Test.YtfkedlgpgmaemaaGreatDoorQbf
import Derived.Maps.RangeWalk
set_option linter.unusedVariables false
set_option maxHeartbeats 16000000
namespace Go.Proofs.YtfkedlgpgmaemaaGreatDoor
open Tryz
section
open Go.RowKit

def Bf(os:List Cel)(x:Nat):Cel:=(os.find? λ c=>c.g==x).getD ⟨0,0,0,0,0⟩

theorem FU{os:List Cel}{x:Nat}:(Bf os x∈os/\(Bf os x).g=x)\/(Bf os x=⟨0,0,0,0,0⟩/\∀ c∈os,¬ c.g=x):=by
 unfold Bf
 cases e:os.find? λ c=>c.g==x with
 |some c=>exact .inl ⟨List.mem_of_find?_eq_some e,by simpa using List.find?_some e⟩
 |none=>exact .inr ⟨rfl,λ c a=>by have:=List.find?_eq_none.1 e c a;simpa using this⟩

theorem CellF.get{os:List Cel}{F:Nat->Option Value}(c:CellF os F)(x:Nat):(F x).getD (.agg #[(0:Int),.int .u8 0,(0:Int),(0:Int),(0:Int)])=cellW (Bf os x):=by
 rcases FU (os:=os) (x:=x) with ⟨a,b⟩|⟨a,b⟩
 .have:=c.1 _ a
  rw[b] at this
  rw[this]
  rfl
 .rw [c.2 x b,a]
  rfl

def Bb(os:List Cel):List Nat->Nat
 |[]=>0
 |x::l=>(Bf os x).sz+Bb os l

theorem EZ(os:List Cel):∀ (l m:List Nat),Bb os (l++m)=Bb os l+Bb os m
 |[],m=>by simp[Bb]
 |x::l,m=>by
  show(Bf os x).sz+Bb os (l++m)=(Bf os x).sz+Bb os l+Bb os m
  rw[EZ os l m]
  omega

theorem celN_le{os:List Cel}{K:Nat}(b:∀ c∈os,c.sz<=K)(x:Nat):(Bf os x).sz<=K:=by
 rcases FU (os:=os) (x:=x) with ⟨a,-⟩|⟨a,-⟩
 .exact b _ a
 .rw [a]
  exact Nat.zero_le _

theorem F9{os:List Cel}{K:Nat}(a:∀ c∈os,c.sz<=K):∀ l:List Nat,Bb os l<=l.length*K
 |[]=>by simp[Bb]
 |x::l=>by
  have b:=celN_le a x
  have d:=F9 a l
  show(Bf os x).sz+Bb os l<=(l.length+1)*K
  rw[Nat.add_mul]
  omega

noncomputable def keepsL (os:List Cel) (es:List (Nat×Nat×Nat)) (xs rs l:List Nat):List (Nat×Nat×Nat):=l.map λ g=>(g,(Bf os g).sz,Bb os (keptL es xs rs g))

theorem Fp(a:Int)(b c d e:Int)(w:World):(Instr.field 113 (.agg #[.int .i64 a,.int .u8 b,.int .i64 c,.int .i64 d,.int .i64 e]) 1).run prog w=.ok (.agg #[.int .u8 b,.int .i64 c,.int .i64 d,.int .i64 e]) w:=by kernel_rfl

theorem run_field_sizeC(a b c d:Int)(w:World):(Instr.field 111 (.agg #[.int .u8 a,.int .i64 b,.int .i64 c,.int .i64 d]) 3).run prog w=.ok (.int .i64 d) w:=by kernel_rfl

theorem set3_2{w:World}{b:Nat}{a c d:Value}{T:TypeId}(e:w.heap[b]?=some (.cells #[a,c,d] T (0,0)))(v:Value):(w.setCell ⟨b,2,none⟩ v).heap[b]?=some (.cells #[a,c,v] T (0,0)):=by
 rw[bZ e]
 rfl

theorem infoKeep:(prog.info? 67).map (λ i=>(i.zero,i.size,i.bytes))=some (some (.agg #[(0:Int),(0:Int),(0:Int)]),3,24):=by kernel_rfl

theorem Dq:prog.underlying 34=some (.slice 67):=by kernel_rfl

def KeepsPost(os:List Cel)(es:List (Nat×Nat×Nat))(H:Nat)(xs:List Nat)(w:World)(e:Ending)(w':World):Prop:=
 ∃ fm v,(∀ g,fm g=true ↔ AA es xs g)/\e=.returned (.tuple #[v,(0:Int)])/\w'.ownsRow w.heap.size 67 3 v (keepsL os es xs (Bo fm H) (Bo fm H)).length (Bt (keepsL os es xs (Bo fm H) (Bo fm H)))/\Kp Aa w w'

set_option maxRecDepth 20000 in
theorem CKeeps_at(P:Sp)(W:Nat->Nat)(f:Nat->Bool)(w:World)(cs:List Cel)(O:SpaceAt w P W f)(C:CellsAt P W cs)(g3:cs≠[])(c9:∀ i,i<P.n/2->f i=Ak cs i)(g2:∀ x∈P.ts,x.m<18446744073709551616)(v:Value)(xs:List Nat)(r:AO w v xs)(d1:∀ g∈xs,CL cs g)(d0:xs.length<=65536):
  Calls prog 13 #[.pointer (some P.s),v] w (KeepsPost (Aj cs) (AP P.ts W cs) (P.n/2) xs w):=by
 obtain⟨m2,m3,rfl,-⟩:=id r
 have X:=sE (COf_at P W f w cs O C g3 c9 g2 _ xs r d1 d0)
 have a1:P.n/2<=65536:=O.bt.FQ
 have V:Sl (∀ b fm mp mq d,Kp Aa w d->FO d b P.s (.slice m2 xs.length m3) (Aj cs) (AP P.ts W cs) mp mq (P.n/2) fm->∀ g,g<65536->Calls prog 54 #[.pointer (some ⟨b,0,none⟩),.int .i64 (g:Nat)] d (AllPost (keptL (AP P.ts W cs) xs (Bo fm (P.n/2)) g) d)):=⟨λ b fm mp mq d D l2 g c8=>CKept_at d b P.s _ _ _ mp mq _ fm xs l2 a1 (λ e k7=>CV C (Ep C c9 k7).2.1) (Nat.le_trans (Dv cs _) (C.to.F8 O.ar.small)) (r.Ac D) (λ x r=>CV C (d1 x r)) d0 g c8 (λ k2 R=>FE P W f k2 (O.Ac (D.then' R)))⟩
 have b8:Sl (∀ c∈Aj cs,c.sz<=65536):=⟨λ c k5=>by
  have:=C.tl.mem (AX.1 k5).1
  omega⟩
 obtain⟨H,a0⟩:∃ H,P.n/2=H:=⟨_,rfl⟩
 obtain⟨es,c7⟩:∃ es,AP P.ts W cs=es:=⟨_,rfl⟩
 obtain⟨os,a8⟩:∃ os,Aj cs=os:=⟨_,rfl⟩
 obtain⟨L,f2⟩:∃ L,xs.length=L:=⟨_,rfl⟩
 rw[c7,a8,a0] at X V
 rw[a8] at b8
 rw[a0] at a1
 rw[c7,a8,a0]
 rw[f2] at X V ⊢
 clear O C c9 g2 r d1 d0 g3 a0 c7 a8 f2
 go_enter func13,ntmps13
 go_wp2_with fail
 refine X.o.mono ?_
 rintro e w1 ⟨b,mp,mq,fm,rfl,g5,f5,i1⟩
 have b6:=sE g5
 have b2:=sE i1
 have i8:=sE f5
 clear g5 i1 f5
 have d5:=sE (CAll_at w1 b P.s _ os es mp mq H fm b6.o a1)
 go_wp2_with fail
 refine d5.o.mono ?_
 rintro e w2 ⟨o2,o3,rfl,a6,R⟩
 have c5:(Bo fm H).length<=65536:=Nat.le_trans (Fq fm H) a1
 have b7:Sl (∀ y∈Bo fm H,y<H):=⟨λ y N=>setL_lt y N⟩
 have e2:Sl (∀ y,(keptL es xs (Bo fm H) y).length<=65536):=⟨λ y=>Nat.le_trans (List.length_filter_le _ _) c5⟩
 obtain⟨Q,c4⟩:∃ Q,Bo fm H=Q:=⟨_,rfl⟩
 have e6:=sE c4
 rw[c4] at a6 c5 b7 e2 ⊢
 have j3:Sl (∀ d,Kp Aa w1 d->∀ g,g<65536->Calls prog 54 #[.pointer (some ⟨b,0,none⟩),.int .i64 (g:Nat)] d (AllPost (keptL es xs Q g) d)):=⟨λ d D g c8=>by
  rw[<- e6.o]
  exact V.o b fm mp mq d (b2.o.then' D) (b6.o.Ac D) g c8⟩
 obtain⟨M,c2⟩:∃ M,Q.length=M:=⟨_,rfl⟩
 rw[c2] at a6 c5 ⊢
 have b4:=sE c2
 have j5:=sE a6
 have d8:=sE R
 obtain⟨E,f1⟩:∃ E,w2.heap.size=E:=⟨_,rfl⟩
 have d6:Sl (w2.heap.size=E):=⟨f1⟩
 have l5:w.heap.size<=E:=by have:=b2.o.size;have:=R.size;omega
 obtain⟨d3,o1,n,m8,F,f6,g1,hF,-,-⟩:=b6.o
 have d7:=sE f6
 have e1:Sl (∀ d (x:Nat),Kp Aa w1 d->x<65536->(Instr.lookup 118 (.map (some d3)) (.int .i64 (x:Nat)) false).run prog d=.ok (cellW (Bf os x)) d):=⟨λ d x D r=>by
  have:=(g1.keep D (λ a=>a)).look (g:=x) (by omega) BV (zeroCell _)
  rwa [hF.get] at this⟩
 clear a6 R c2 c4 f1 d5 X V f6 g1 hF
 go_wp2_with fail
 go_loopw [4,24] (λ x4 x24 wr=>∃ (j:Nat),x24=.int .i64 j/\j<=M/\wr.ownsRow E 67 3 x4 j (Bt (keepsL os es xs Q (Q.take j)))/\Kp Aa w2 wr) (λ _ x24 _=>M-(intOf x24).toNat)
 case atStart=>exact ⟨0,rfl,Nat.zero_le _,World.ownsRow_nil _ _ _ _,Kr _ _⟩
 case round=>
  obtain⟨j,rfl,n3,a5,p⟩:=hrel
  obtain⟨l,rfl⟩:∃ l:World,l=wr:=⟨_,rfl⟩
  have b5:=sE a5
  have e0:=sE p
  have l8:=p.size
  rw[d6.o] at l8
  obtain⟨ra,rc,rfl⟩:=Aq a5
  by_cases hjl:j<M
  .have k9:(j:Int)<(M:Int):=by omega
   obtain⟨y,N⟩:∃ y,Q[j]?=some y:=⟨_,List.getElem?_eq_getElem (by rw[b4.o];exact hjl)⟩
   obtain⟨m5,k4,x0⟩:=Cu (Af j5.o p (λ _ _ a=>a)) N
   subst k4
   have n5:=b7.o y (List.mem_of_getElem? N)
   have Z:Kp Aa w1 l:=d8.o.then' p
   have b3:=sE Z
   have a4:=e1.o l y Z (by omega)
   obtain⟨-,-,e9,-,-⟩:=Dk (Z.at_ d7.o (λ a=>a))
   have f4:=Fp
   have n0:=run_field_sizeC
   obtain⟨q,c6⟩:∃ c,Bf os y=c:=⟨_,rfl⟩
   rw[c6] at a4
   have l0:(Instr.lookup 118 (.map (some d3)) (.int .i64 (y:Nat)) false).run prog l=.ok (.agg #[q.g,.int .u8 q.tag,q.ty,q.ln,q.sz]) l:=a4
   have j8:=sE N
   have i7:=sE c6
   clear a5 p N Z a4 c6
   obtain⟨U,a9⟩:∃ U,U=l.alloc (.cells #[.int .i64 (y:Nat),q.sz,(0:Int)] 67):=⟨_,rfl⟩
   have d2:Kp Aa l U:=by rw[a9];exact (Kr _ l).alloc _
   obtain⟨A,f9⟩:∃ m,l.heap.size=m:=⟨_,rfl⟩
   have b9:U.heap[A]?=some (.cells #[.int .i64 (y:Nat),q.sz,(0:Int)] 67 (0,0)):=by rw[a9,<- f9];exact wN l _
   have d9:=sE d2
   have i4:=sE b9
   have n7:=lZ b9
   have i6:=sE (j3.o U (b3.o.then' d2) y (by omega))
   clear d2 b9
   go_wp2_with fail
   try rw[<- a9]
   try rw[f9]
   clear a9 l0 e9 f4
   refine i6.o.mono ?_
   rintro e d4 ⟨n9,o0,rfl,a7,T⟩
   have e7:=e2.o y
   obtain⟨K,hK⟩:∃ K,keptL es xs Q y=K:=⟨_,rfl⟩
   rw[hK] at a7 e7 ⊢
   obtain⟨B,c3⟩:∃ B,K.length=B:=⟨_,rfl⟩
   rw[c3] at a7 e7 ⊢
   have e3:=sE c3
   have j0:=sE hK
   have j2:Sl (∀ x∈K,x<65536):=⟨λ x r=>by
    rw[<- hK] at r
    have:=b7.o x (mem_keptL.1 r).1
    omega⟩
   have e4:=sE a7
   have k0:Sl (Kp Aa w1 d4):=⟨b3.o.then' (d9.o.then' T)⟩
   have k1:Sl (Kp Aa l d4):=⟨d9.o.then' T⟩
   have i3:=sE (T.at_ i4.o (λ a=>a))
   have n6:=T.size
   clear a7 T hK c3
   go_wp2_with fail
   go_loopw [42] (λ x42 i2=>∃ (i:Nat),x42=.int .i64 (i:Nat)/\i<=B/\i2.heap[A]?=some (.cells #[.int .i64 (y:Nat),q.sz,.int .i64 ((Bb os (K.take i):Nat):Int)] 67 (0,0))/\Kp (λ k=>k=A) d4 i2) (λ x42 _=>B-(intOf x42).toNat)
   case atStart=>exact ⟨0,rfl,Nat.zero_le _,i3.o,Kr _ _⟩
   case round=>
    obtain⟨i,rfl,n2,I,J⟩:=hrel
    have i5:=sE I
    have j1:=sE J
    obtain⟨c0,m6,c1⟩:=cells3 I
    have Y:Kp Aa w1 wr:=k0.o.trans J (λ k p a=>by have f0:k=A:=a;have:=b3.o.size;omega)
    by_cases hil:i<B
    .have k8:(i:Int)<(B:Int):=by omega
     obtain⟨z,b1⟩:∃ z,K[i]?=some z:=⟨_,List.getElem?_eq_getElem (by rw[e3.o];exact hil)⟩
     obtain⟨o5,l7,o4⟩:=Cu (Af e4.o J (λ k p a=>by have f0:k=A:=a;have:=(Ad e4.o p).1;omega)) b1
     subst l7
     have l6:=j2.o z (List.mem_of_getElem? b1)
     obtain⟨t,a3⟩:∃ c,Bf os z=c:=⟨_,rfl⟩
     have a4:∀ nq,(Instr.lookup 118 (.map (some d3)) (.int .i64 (z:Nat)) false).run prog (wr.drewN nq)=.ok (.agg #[t.g,.int .u8 t.tag,t.ty,t.ln,t.sz]) (wr.drewN nq):=λ nq=>by
      have:=e1.o (wr.drewN nq) z (Y.then' (Kp.Ah nq)) l6
      rw[a3] at this
      exact this
     obtain⟨-,-,e9,-,-⟩:=Dk (Y.at_ d7.o (λ a=>a))
     have f4:=Fp
     have n1:=Ab I 2
     have g6:=F9 b8.o (K.take i)
     have k6:=celN_le b8.o z
     rw[a3] at k6
     have G:Bb os (K.take (i+1))=Bb os (K.take i)+t.sz:=by
      rw[List.take_add_one,b1,EZ]
      show _+((Bf os z).sz+0)=_
      rw[a3]
      rfl
     have l3:Bb os (K.take i)<=65536*65536:=Nat.le_trans g6 (Nat.mul_le_mul_right _ (by rw[List.length_take];omega))
     obtain⟨S,a2⟩:∃ S,Bb os (K.take i)=S:=⟨_,rfl⟩
     rw[a2] at c1 G l3
     have j7:=sE G
     have n4:IntKind.i64.wrap ((S:Int)+(t.sz:Int))=((S+t.sz:Nat):Int):=by rw[IntKind.wrap_i64];omega
     clear I J Y b1 a3 g6 G
     go_wp2_with fail
     refine Br 12 (by kernel_rfl) (by kernel_rfl) ?_
     simp only[List.take_succ_cons,List.take_zero,List.drop_succ_cons,List.drop_zero]
     repeat (go_big_quiet_step (fail))
     refine wpQuiet_nil ?_
     intro _ hw'
     obtain⟨nq,l4⟩:=hw'
     subst l4
     go_wp2_with fail
     have m1:Kp (λ k=>k=A) wr ((wr.drewN nq).setCell ⟨A,2,none⟩ (.int .i64 ((S+t.sz:Nat):Int))):=((Kr (λ k=>k=A) wr).drewN _).setCell (λ _=>rfl) _
     refine⟨⟨i+1,by go_num,by omega,?_,j1.o.trans m1 (λ _ _ a=>a)⟩,by simp only[intOf];omega⟩
     rw[j7.o]
     exact set3_2 (w:=wr.drewN nq) i5.o _
    .obtain rfl:i=B:=by omega
     have k8:¬ (i:Int)<(i:Int):=by omega
     have G:Bb os (K.take i)=Bb os K:=by rw[List.take_of_length_le (by rw[e3.o];omega)]
     rw[G] at c1 I
     have b0:Kp Aa l wr:=k1.o.trans J (λ k p a=>by have f0:k=A:=a;omega)
     have j9:=sE b0
     have e5:=sE (Af b5.o b0 (λ _ _ a=>a))
     have n8:=b0.size
     have e8:Sl (keepsL os es xs Q (Q.take (j+1))=keepsL os es xs Q (Q.take j)++[(y,q.sz,Bb os K)]):=⟨by
      rw[List.take_add_one,j8.o]
      unfold keepsL
      rw[List.map_append]
      show _++[(y,(Bf os y).sz,Bb os (keptL es xs Q y))]=_
      rw[i7.o,j0.o]⟩
     obtain⟨S,a2⟩:∃ S,Bb os K=S:=⟨_,rfl⟩
     rw[a2] at c1 e8
     clear I J Y G b0 a2
     go_wp2_with (at_builtin;obtain ⟨l9,f8,g8,g9,i0⟩:=info_parts infoKeep;go_loud (refine wpList_append_lies _ rfl (.tmp 59) (.tmp 61) 34 rfl E 67 l9 _ 3 24 Dq f8 g8 g9 i0 rfl (by omega) (.slice ra j rc) j _ rfl (e5.o.alloc _) ⟨wr.heap.size,0,none⟩ 1 1 [.int .i64 (y:Nat),q.sz,.int .i64 (S:Nat)] rfl rfl (World.news_of_block (wN wr _)) (by intro u g7;simp at g7;rcases g7 with rfl|rfl|rfl <;> rfl) (by omega) (by unfold maxLen;omega) (by omega) (by first|(simp;done)|(simp;omega)) (wr.heap.size+1) (by simp) ?_);intro m9 m7 m4 g4 f7 k3 l1;clear f8 g8 g9 i0;have i9:=sE f7;have j6:=sE g4;clear g4 f7 k3 l1)
     have m0:Kp Aa w2 m4:=(e0.o.then' (j9.o.alloc _)).grown i9.o (λ k e p=>by have:=(Ad e5.o e).1;have:=d6.o;omega)
     refine⟨⟨j+1,by go_num,by omega,?_,m0⟩,by simp only[intOf];omega⟩
     rw[e8.o,ER]
     exact j6.o
  .obtain rfl:j=M:=by omega
   have k9:¬ (j:Int)<(j:Int):=by omega
   have f3:Q.take j=Q:=List.take_of_length_le (by rw[b4.o];omega)
   rw[f3] at b5
   have g0:(keepsL os es xs Q Q).length=j:=by unfold keepsL;rw [List.length_map,b4.o]
   have j4:=sE g0
   clear a5 p f3 g0
   go_wp2
   go_ret2
   refine⟨fm,.slice ra j rc,i8.o,rfl,?_,b2.o.then' (d8.o.then' e0.o)⟩
   rw[e6.o,j4.o]
   exact BZ b5.o l5

end

section
open Go.RowKit

theorem Index_nats(w:World)(a:Option Addr)(c:Nat)(l:List Nat)(x:Nat)(H:AO w (.slice a l.length c) l)(G:l.length<=65536):
  Calls prog 112 #[.slice a l.length c,x] w λ e w'=>∃ i:Int,e=.returned (.int .i64 i)/\(0<=i ↔ x∈l)/\Kp Aa w w':=by
 obtain⟨a',I,u,v⟩:=H
 obtain rfl:a=a':=by injection u
 obtain⟨d,p⟩:∃ d,l.length=d:=⟨_,rfl⟩
 have q:=sE p
 have A:=sE v
 rw[p] at G ⊢
 clear u v p
 go_enter func112,ntmps112
 go_wp2_with fail
 go_loopw [8] (λ z wr=>∃ j:Nat,j<=d/\z=.int .i64 (j:Nat)/\(∀ y∈l.take j,¬ x=y)/\Kp Aa w wr) (λ z _=>d-(intOf z).toNat)
 case atStart=>exact ⟨0,Nat.zero_le _,rfl,λ y f=>by simp at f,Kr _ _⟩
 case round=>
  obtain⟨j,J,rfl,m,k⟩:=hrel
  have r:=sE m
  have n:=sE k
  by_cases hjl:j<d
  .have F:(j:Int)<(d:Int):=by omega
   obtain⟨y,f⟩:∃ y,l[j]?=some y:=⟨_,List.getElem?_eq_getElem (by rw[q.o];exact hjl)⟩
   obtain⟨b,o,E,s⟩:=A.o j y f
   subst E
   have s:=Ae k s
   have C:=sE f
   by_cases e:x=y
   .have D:((x:Int)==(y:Int))=true:=by simp[e]
    have B:Sl (x∈l):=⟨by rw[e];exact List.mem_of_getElem? f⟩
    clear m k f e
    go_wp2
    go_ret
    exact⟨(j:Nat),rfl,⟨λ _=>B.o,λ _=>by omega⟩,n.o⟩
   .have D:((x:Int)==(y:Int))=false:=by simp;omega
    clear m k f
    go_wp2
    refine⟨⟨j+1,by omega,by go_num,λ z g=>?_,n.o⟩,by simp only[intOf];omega⟩
    rw[List.take_add_one,C.o,List.mem_append] at g
    rcases g with g|g
    .exact r.o z g
    .simp at g
     rw[g]
     exact e
  .obtain rfl:j=d:=by omega
   have F:¬ (j:Int)<(j:Int):=by omega
   clear m k
   go_wp2
   go_ret
   exact⟨-1,rfl,⟨λ t=>by omega,λ t=>absurd rfl (r.o x (by rw[List.take_of_length_le (by rw[q.o];omega)];exact t))⟩,n.o⟩

theorem Contains_nats(w:World)(a:Option Addr)(c:Nat)(l:List Nat)(x:Nat)(m:AO w (.slice a l.length c) l)(n:l.length<=65536):
  Calls prog 59 #[.slice a l.length c,x] w (RK (.bool (decide (x∈l))) w):=by
 have f:=sE (Index_nats w a c l x m n)
 obtain⟨g,j⟩:∃ g,l.length=g:=⟨_,rfl⟩
 rw[j] at f ⊢
 clear m j
 go_enter func59,ntmps59
 go_wp2_with fail
 refine f.o.mono ?_
 rintro e w1 ⟨i,rfl,b,p⟩
 have k:decide (0<=i)=decide (x∈l):=by
  by_cases h:x∈l
  .rw [dT h,dT (b.2 h)]
  .rw [dF h,dF (λ q=>h (b.1 q))]
 have d:=sE k
 clear b k
 go_wp2
 go_ret
 refine⟨?_,p⟩
 first
  |(rw [<- d.o];rfl)
  |(rw [<- d.o];simp)

noncomputable def overL (es:List (Nat×Nat×Nat)) (xs Q:List Nat) (g:Nat) (l:List Nat):List Nat:=l.filter λ x=> !(x==g)&&decide (g∈keptL es xs Q x)

def OverPost(os:List Cel)(es:List (Nat×Nat×Nat))(H:Nat)(xs:List Nat)(g:Nat)(w:World)(e:Ending)(w':World):Prop:=
 ((¬ ∃ c∈os,c.g=g)/\e=.returned (.tuple #[.slice none 0 0,(2:Int)])\/
  (∃ c∈os,c.g=g)/\∃ fm a c,(∀ g,fm g=true ↔ AA es xs g)/\e=.returned (.tuple #[.slice a (overL es xs (Bo fm H) g (Bo fm H)).length c,(0:Int)])/\w'.ownsRow w.heap.size 3 1 (.slice a (overL es xs (Bo fm H) g (Bo fm H)).length c) (overL es xs (Bo fm H) g (Bo fm H)).length (Az (overL es xs (Bo fm H) g (Bo fm H))))/\Kp Aa w w'

set_option maxRecDepth 20000 in
theorem COver_at(P:Sp)(W:Nat->Nat)(f:Nat->Bool)(w:World)(cs:List Cel)(S:SpaceAt w P W f)(q:CellsAt P W cs)(f0:cs≠[])(c5:∀ i,i<P.n/2->f i=Ak cs i)(e9:∀ x∈P.ts,x.m<18446744073709551616)(g:Nat)(a0:g<65536)(v:Value)(xs:List Nat)(B:AO w v xs)(c8:∀ g∈xs,CL cs g)(c7:xs.length<=65536):
  Calls prog 16 #[.pointer (some P.s),.int .i64 (g:Nat),v] w (OverPost (Aj cs) (AP P.ts W cs) (P.n/2) xs g w):=by
 obtain⟨k4,k5,rfl,-⟩:=id B
 have V:=sE (COf_at P W f w cs S q f0 c5 e9 _ xs B c8 c7)
 have Z:P.n/2<=65536:=S.bt.FQ
 have U:Sl (∀ b fm mp mq a,Kp Aa w a->FO a b P.s (.slice k4 xs.length k5) (Aj cs) (AP P.ts W cs) mp mq (P.n/2) fm->∀ g,g<65536->Calls prog 54 #[.pointer (some ⟨b,0,none⟩),.int .i64 (g:Nat)] a (AllPost (keptL (AP P.ts W cs) xs (Bo fm (P.n/2)) g) a)):=⟨λ b fm mp mq a t j5 g a0=>CKept_at a b P.s _ _ _ mp mq _ fm xs j5 Z (λ e j2=>CV q (Ep q c5 j2).2.1) (Nat.le_trans (Dv cs _) (q.to.F8 S.ar.small)) (B.Ac t) (λ x B=>CV q (c8 x B)) c7 g a0 (λ i5 a3=>FE P W f i5 (S.Ac (t.then' a3)))⟩
 obtain⟨H,Y⟩:∃ H,P.n/2=H:=⟨_,rfl⟩
 obtain⟨es,b9⟩:∃ es,AP P.ts W cs=es:=⟨_,rfl⟩
 obtain⟨os,c4⟩:∃ os,Aj cs=os:=⟨_,rfl⟩
 obtain⟨L,e1⟩:∃ L,xs.length=L:=⟨_,rfl⟩
 rw[b9,c4,Y] at V U
 rw[Y] at Z
 rw[b9,c4,Y]
 rw[e1] at V U ⊢
 clear S q c5 e9 B c8 c7 f0 Y b9 c4 e1
 go_enter func16,ntmps16
 go_wp2_with fail
 refine V.o.mono ?_
 rintro e w1 ⟨b,mp,mq,fm,rfl,f4,e4,g1⟩
 have b1:=sE f4
 have T:=sE g1
 have g5:=sE e4
 clear f4 g1 e4
 obtain⟨k3,l7,n,l1,F,c1,e8,hF,-,-⟩:=b1.o
 have k8:=sE c1
 obtain⟨-,-,i8,-,-⟩:=Dk c1
 have O:=e8.lookOk (g:=g) (by omega) BV (zeroCell _)
 rw[hF.get] at O
 obtain⟨l,e3⟩:∃ c,Bf os g=c:=⟨_,rfl⟩
 rw[e3] at O
 have f5:∀ v,F g=v->((∃ u,v=some u)/\∃ c∈os,c.g=g)\/(v=none/\¬ ∃ c∈os,c.g=g):=λ v f7=>by
  rcases FU (os:=os) (x:=g) with ⟨b4,J⟩|⟨b4,J⟩
  .have:=hF.1 _ b4
   rw[J,f7] at this
   exact .inl ⟨⟨_,this⟩,⟨_,b4,J⟩⟩
  .have:=hF.2 g J
   rw[f7] at this
   exact .inr ⟨this,λ ⟨c,q,e⟩=>J c q e⟩
 obtain⟨d9,c0⟩:∃ v,F g=v:=⟨_,rfl⟩
 have j6:=f5 d9 c0
 rw[c0] at O
 have c2:(Instr.lookup 118 (.map (some k3)) (.int .i64 (g:Nat)) true).run prog w1=.ok (.tuple #[.agg #[l.g,.int .u8 l.tag,l.ty,l.ln,l.sz],.bool d9.isSome]) w1:=O
 clear O f5 hF e8 c1 c0 e3
 rcases j6 with ⟨⟨u,rfl⟩,e7⟩|⟨rfl,f1⟩
 case inr=>
  have i1:=sE f1
  simp only[Option.isSome_none] at c2
  clear f1
  go_wp2
  go_ret2
  exact⟨.inl ⟨i1.o,rfl⟩,T.o.alloc _⟩
 simp only[Option.isSome_some] at c2
 have g7:=sE e7
 have d0:Sl (∀ a,Kp Aa w1 a->_):=⟨λ a t=>CAll_at a b P.s _ os es mp mq H fm (b1.o.Ac t) Z⟩
 clear e7
 obtain⟨a6,c6⟩:∃ a6,a6=w1.alloc (.cells #[l.g,.int .u8 l.tag,l.ty,l.ln,l.sz] 113):=⟨_,rfl⟩
 have g2:Kp Aa w1 a6:=by rw[c6];exact (Kr _ w1).alloc _
 have d3:=sE g2
 clear g2
 go_wp2_with fail
 try rw[<- c6]
 clear c6 c2 i8
 refine(d0.o a6 d3.o).mono ?_
 rintro e w2 ⟨l8,l9,rfl,a1,a3⟩
 have b7:(Bo fm H).length<=65536:=Nat.le_trans (Fq fm H) Z
 have d6:Sl (∀ y∈Bo fm H,y<H):=⟨λ y C=>setL_lt y C⟩
 have d4:Sl (∀ y,(keptL es xs (Bo fm H) y).length<=65536):=⟨λ y=>Nat.le_trans (List.length_filter_le _ _) b7⟩
 obtain⟨Q,b6⟩:∃ Q,Bo fm H=Q:=⟨_,rfl⟩
 have b2:=sE b6
 rw[b6] at a1 b7 d6 d4 ⊢
 have i0:Sl (∀ a,Kp Aa w1 a->∀ g,g<65536->Calls prog 54 #[.pointer (some ⟨b,0,none⟩),.int .i64 (g:Nat)] a (AllPost (keptL es xs Q g) a)):=⟨λ a t g a0=>by
  rw[<- b2.o]
  exact U.o b fm mp mq a (T.o.then' t) (b1.o.Ac t) g a0⟩
 obtain⟨M,b5⟩:∃ M,Q.length=M:=⟨_,rfl⟩
 rw[b5] at a1 b7 ⊢
 have d5:=sE b5
 have i2:=sE a1
 have a8:Sl (Kp Aa w1 w2):=⟨d3.o.then' a3⟩
 obtain⟨z,e0⟩:∃ z,w2.heap.size=z:=⟨_,rfl⟩
 have d1:Sl (w2.heap.size=z):=⟨e0⟩
 have j7:w.heap.size<=z:=by have:=T.o.size;have:=a8.o.size;omega
 clear a1 a3 b5 b6 e0 d0 V U
 go_wp2_with fail
 go_loopw [6,36] (λ x6 x36 wr=>∃ (j:Nat),x36=.int .i64 j/\j<=M/\wr.ownsRow z 3 1 x6 (overL es xs Q g (Q.take j)).length (Az (overL es xs Q g (Q.take j)))/\Kp Aa w2 wr) (λ _ x36 _=>M-(intOf x36).toNat)
 case atStart=>exact ⟨0,rfl,Nat.zero_le _,World.ownsRow_nil _ _ _ _,Kr _ _⟩
 case round=>
  obtain⟨j,rfl,l3,c3,r⟩:=hrel
  have A:=sE c3
  have a9:=sE r
  have j8:=r.size
  rw[d1.o] at j8
  obtain⟨R,N⟩:∃ R,overL es xs Q g (Q.take j)=R:=⟨_,rfl⟩
  have i9:R.length<=M:=by
   rw[<- N]
   exact Nat.le_trans (List.length_filter_le _ _) (by rw[List.length_take];omega)
  rw[N] at A
  obtain⟨g3,a2⟩:∃ n,R.length=n:=⟨_,rfl⟩
  rw[a2] at A i9
  have D:=sE a2
  have X:=sE N
  obtain⟨ra,rc,rfl⟩:=Aq A.o
  by_cases hjl:j<M
  .have j3:(j:Int)<(M:Int):=by omega
   obtain⟨y,C⟩:∃ y,Q[j]?=some y:=⟨_,List.getElem?_eq_getElem (by rw[d5.o];exact hjl)⟩
   obtain⟨k9,j1,x0⟩:=Cu (Af i2.o r (λ _ _ I=>I)) C
   subst j1
   have l4:=d6.o y (List.mem_of_getElem? C)
   have g8:Sl (Kp Aa w1 wr):=⟨a8.o.then' r⟩
   have g4:=sE (i0.o wr g8.o y (by omega))
   have G:=sE (filter_step (p:=λ x=> !(x==g)&&decide (g∈keptL es xs Q x)) C)
   clear c3 r a2 N C
   by_cases hyg:y=g
   .have i6:((y:Int) !=(g:Int))=false:=by simp[hyg]
    have E:Sl (overL es xs Q g (Q.take (j+1))=R):=⟨by unfold overL;rw [G.o,<- X.o];simp [hyg,overL]⟩
    clear hyg
    go_wp2
    refine⟨⟨j+1,by go_num,by omega,?_,a9.o⟩,by simp only[intOf];omega⟩
    rw[E.o,D.o]
    exact A.o
   .have i6:((y:Int) !=(g:Int))=true:=by simp;omega
    have i7:(y==g)=false:=by simp;omega
    go_wp2_with fail
    refine g4.o.mono ?_
    rintro e k6 ⟨k1,k2,rfl,f2,a4⟩
    have b3:=d4.o y
    have a7:=sE (Contains_nats k6 k1 k2 (keptL es xs Q y) g (AO.Bc f2) b3)
    obtain⟨K,hK⟩:∃ K,keptL es xs Q y=K:=⟨_,rfl⟩
    rw[hK] at b3 a7 G ⊢
    obtain⟨d8,e2⟩:∃ d8,K.length=d8:=⟨_,rfl⟩
    rw[e2] at b3 a7 ⊢
    have g9:=sE (a9.o.then' a4)
    have i3:=sE (Af A.o a4 (λ _ _ I=>I))
    have l5:=a4.size
    clear f2 a4 hK e2
    go_wp2_with fail
    refine a7.o.mono ?_
    rintro e c9 ⟨rfl,a5⟩
    have d2:=sE (g9.o.then' a5)
    have b0:=sE (Af i3.o a5 (λ _ _ I=>I))
    have l6:=a5.size
    clear a5
    obtain⟨d,b8⟩:∃ d,decide (g∈K)=d:=⟨_,rfl⟩
    rw[b8] at G ⊢
    cases d with
    |false=>
     have E:Sl (overL es xs Q g (Q.take (j+1))=R):=⟨by unfold overL;rw [G.o,<- X.o];simp [overL]⟩
     clear b8
     go_wp2
     refine⟨⟨j+1,by go_num,by omega,?_,d2.o⟩,by simp only[intOf];omega⟩
     rw[E.o,D.o]
     exact b0.o
    |true=>
     have E:Sl (overL es xs Q g (Q.take (j+1))=R++[y]):=⟨by unfold overL;rw [G.o,<- X.o];simp [overL,i7]⟩
     clear b8
     go_wp2_with (at_builtin;obtain ⟨j9,e6,f8,f9,g0⟩:=info_parts Be;go_loud (refine wpList_append_lies _ rfl (.tmp 50) (.tmp 52) 24 rfl z 3 j9 _ 1 8 Ar e6 f8 f9 g0 rfl (by omega) (.slice ra g3 rc) g3 (Az R) rfl (b0.o.alloc _) ⟨c9.heap.size,0,none⟩ 1 1 [.int .i64 (y:Nat)] rfl rfl (World.news_of_block (wN c9 _)) (by intro u f6;simp at f6;subst f6;rfl) (by omega) (by unfold maxLen;omega) (by omega) (by first|(simp;done)|(simp;omega)) (c9.heap.size+1) (by simp) ?_);intro l2 l0 k7 f3 e5 j0 j4;clear e6 f8 f9 g0;have g6:=sE e5;have i4:=sE f3;clear f3 e5 j0 j4)
     have k0:Kp Aa w2 k7:=(d2.o.alloc _).grown g6.o (λ k e r=>by have:=(Ad b0.o e).1;have:=d1.o;omega)
     refine⟨⟨j+1,by go_num,by omega,?_,k0⟩,by simp only[intOf];omega⟩
     rw[E.o,Az,List.map_append,List.length_append,D.o]
     exact i4.o
  .obtain rfl:j=M:=by omega
   have j3:¬ (j:Int)<(j:Int):=by omega
   have d7:Sl (overL es xs Q g Q=R):=⟨by rw[<- X.o,List.take_of_length_le (by rw[d5.o];omega)]⟩
   clear c3 r a2 N
   go_wp2
   go_ret2
   refine⟨.inr ⟨g7.o,fm,ra,rc,g5.o,?_,?_⟩,T.o.then' (a8.o.then' a9.o)⟩
   .rw [b2.o,d7.o,D.o];rfl
   .rw [b2.o,d7.o,D.o]
    exact BZ A.o j7

end

section
open Go.RowKit Go.Maps

theorem sizeL_perm{os:List Cel}{l m:List Nat}(h:l.Perm m):Bb os l=Bb os m:=by
 induction h with
 |nil=>rfl
 |cons x _ ih=>
  show _+_=_+_
  rw[ih]
 |swap x y l=>
  show(Bf os y).sz+((Bf os x).sz+Bb os l)=(Bf os x).sz+((Bf os y).sz+Bb os l)
  omega
 |trans _ _ h1 h2=>exact h1.trans h2

theorem tiles_up:∀ {cs:List Cel} {a b:Nat},AC a cs b->cs.Pairwise λ c d=>c.g<d.g
 |[],a,b,h=>List.Pairwise.nil
 |c::cs,a,b,⟨h1,h2,h3⟩=>List.Pairwise.cons (λ d e=>by have:=AC.mem h3 e;omega) (tiles_up h3)

def lostL(os:List Cel)(fm:Nat->Bool):List Nat:=(os.map Cel.g).filter λ x=> !fm x

def LostPost(os:List Cel)(es:List (Nat×Nat×Nat))(xs:List Nat)(w:World)(e:Ending)(w':World):Prop:=
 ∃ fm:Nat->Bool,(∀ g,fm g=true ↔ AA es xs g)/\e=.returned (.tuple #[.int .i64 ((lostL os fm).length:Nat),.int .i64 (Bb os (lostL os fm):Nat),(0:Int)])/\Kp Aa w w'

set_option maxRecDepth 20000 in
theorem CLost_at(P:Sp)(W:Nat->Nat)(f:Nat->Bool)(w:World)(cs:List Cel)(b4:SpaceAt w P W f)(I:CellsAt P W cs)(e5:cs≠[])(f0:∀ i,i<P.n/2->f i=Ak cs i)(e4:∀ x∈P.ts,x.m<18446744073709551616)(v:Value)(xs:List Nat)(A:AO w v xs)(f4:∀ g∈xs,CL cs g)(f3:xs.length<=65536):
  Calls prog 15 #[.pointer (some P.s),v] w (LostPost (Aj cs) (AP P.ts W cs) xs w):=by
 obtain⟨l1,l2,rfl,-⟩:=id A
 have Q:=sE (COf_at P W f w cs b4 I e5 f0 e4 _ xs A f4 f3)
 have i4:P.n/2<=65536:=b4.bt.FQ
 have t:Sl ((∀ c∈Aj cs,c.g<P.n/2)/\(∀ c∈Aj cs,c.sz<=65536)/\((Aj cs).map Cel.g).Nodup):=⟨by
  refine⟨λ c V=>CV I ⟨c,(AX.1 V).1,(AX.1 V).2,rfl⟩,λ c V=>?_,?_⟩
  .have:=I.tl.mem (AX.1 V).1
   omega
  .exact List.pairwise_map.2 ((List.Pairwise.filter _ (tiles_up I.tl)).imp λ a e=>by omega)⟩
 obtain⟨H,U⟩:∃ H,P.n/2=H:=⟨_,rfl⟩
 obtain⟨es,a8⟩:∃ es,AP P.ts W cs=es:=⟨_,rfl⟩
 obtain⟨os,Z⟩:∃ os,Aj cs=os:=⟨_,rfl⟩
 obtain⟨L,d3⟩:∃ L,xs.length=L:=⟨_,rfl⟩
 rw[a8,Z,U] at Q
 rw[Z,U] at t
 rw[U] at i4
 rw[a8,Z]
 rw[d3] at Q ⊢
 clear b4 I f0 e4 A f4 f3 e5 U a8 Z d3
 go_enter func15,ntmps15
 go_wp2_with fail
 refine Q.o.mono ?_
 rintro e w1 ⟨b,mp,mq,fm,rfl,i8,d5,f5⟩
 have g7:=sE f5
 have g3:=sE d5
 obtain⟨K,l0,n,k0,F,b0,e3,hF,-,a7⟩:=i8
 have g4:=sE b0
 have g2:=sE hF
 have f7:=sE a7
 obtain⟨-,-,i2,-,C⟩:=Dk b0
 have i7:=e3.lt
 obtain⟨a2,e7,d2,e6⟩:=e3
 have D:=sE (And.intro d2 e6)
 have N:Sl (∀ g,(F g).isSome=true ↔ g∈os.map Cel.g):=⟨λ g=>by
  rw[List.mem_map]
  constructor
  .intro a
   rcases FU (os:=os) (x:=g) with ⟨l,q⟩|⟨l,q⟩
   .exact ⟨_,l,q⟩
   .rw [hF.2 g q] at a;cases a
  .rintro ⟨c,l,rfl⟩
   rw[hF.1 c l];rfl⟩
 have g5:Sl (∀ G x,Kp Aa w1 G->x<H->Calls prog 58 #[.pointer (some mp),.int .i64 (x:Nat)] G (RK (.bool (fm x)) G)):=⟨λ G x j2 A=>Has_in x H mp mq fm G (f7.o.keep j2 (λ a=>a) (λ a=>a)) A⟩
 clear f5 d5 b0 hF a7 d2 e6 Q
 go_wp2_with (first|(at_range;go_loud (refine wpList_range_own _ rfl _ 118 rfl 3 113 (int_keyed underlying3) BV _ K n _ rfl e7 ?_);intro w0 b3 d6 i9))
 go_frame
 obtain⟨p,b2⟩:∃ b,w1.heap.size=b:=⟨_,rfl⟩
 have c7:Kp Aa w1 w0:=(Kr Aa w1).grown d6 (λ k e _=>by cases e)
 rw[b2] at b3 i9 i7 ⊢
 have g6:=sE c7
 have c6:Sl (w1.heap.size=p):=⟨b2⟩
 clear e7 d6 c7 b2 i2 C
 go_loopw [4,5] (λ x4 x5 wr=>∃ (left:Lit->Bool) (cnt:Nat) (d:List Nat),wr.ranges prog 3 heldE K p n a2 left cnt/\CollI a2 left d/\x4=.int .i64 ((d.filter λ x=> !fm x).length:Nat)/\x5=.int .i64 (Bb os (d.filter λ x=> !fm x):Nat)/\Kp (λ k=>k=p) w0 wr) (λ _ _ wr=>wr.rangeLeft K p)
 case atStart=>exact ⟨_,_,[],b3,CollI.start a2,rfl,rfl,Kr _ _⟩
 case round=>
  obtain⟨left,cnt,d,a0,T,rfl,rfl,Y⟩:=hrel
  have a3:=sE T
  have i0:=sE Y
  have k8:=Y.size
  have c8:Kp Aa w1 wr:=g6.o.trans Y (λ k b1 a=>by have i3:k=p:=a;have:=c6.o;omega)
  have c1:=sE c8
  have b5:∀ g∈d,g∈os.map Cel.g:=λ g z=>by
   have l:=(T.2 g).1 z
   have q:=l.2.1
   rw[BS.has_eqP D.o.1 l.1] at q
   exact(N.o g).1 q
  have k5:d.length<=H:=FX H d T.1 (λ g z=>by
   obtain⟨c,l,rfl⟩:=List.mem_map.1 (b5 g z)
   exact t.o.1 c l)
  have a9:(d.filter λ x=> !fm x).length<=65536:=Nat.le_trans (List.length_filter_le _ _) (by omega)
  have e9:Bb os (d.filter λ x=> !fm x)<=65536*65536:=Nat.le_trans (F9 t.o.2.1 _) (Nat.mul_le_mul_right _ a9)
  clear T Y b3 c8
  go_wp2_with (first|(at_next;refine wpList_next_ranges _ rfl _ rfl 3 (int_keyed underlying3) heldE (Value.int .i64) id (λ k9 j3 b1=>by obtain⟨x,A,_⟩:=Maps.keyOf_int_inv underlying3 b1;exact ⟨x,A⟩) (λ v _ _=>⟨v,rfl⟩) K p n _ _ _ rfl a0 ?_ ?_))
  .intro k3 e0
   have c5:Sl ((d.filter λ x=> !fm x).Perm (lostL os fm)):=⟨by
    unfold lostL
    refine List.Perm.filter _ ((List.perm_ext_iff_of_nodup a3.o.1 t.o.2.2).2 λ g=>?_)
    rw[a3.o.2 g,e0,<- N.o g]
    constructor
    .rintro ⟨l,q,-⟩
     rwa [BS.has_eqP D.o.1 l] at q
    .intro a
     have z:g<H:=by
      obtain⟨c,l,rfl⟩:=List.mem_map.1 ((N.o g).1 a)
      exact t.o.1 c l
     exact⟨by omega,by rw[BS.has_eqP D.o.1 (by omega)];exact a,rfl⟩⟩
   obtain⟨S,u⟩:∃ n,(d.filter λ x=> !fm x).length=n:=⟨_,rfl⟩
   obtain⟨E,y⟩:∃ n,Bb os (d.filter λ x=> !fm x)=n:=⟨_,rfl⟩
   have g0:Sl ((lostL os fm).length=S):=⟨by rw[<- c5.o.length_eq,u]⟩
   have g1:Sl (Bb os (lostL os fm)=E):=⟨by rw[<- sizeL_perm c5.o,y]⟩
   rw[u,y]
   clear e0 a0 b5 u y a9 e9
   go_wp2
   go_ret3
   refine⟨fm,g3.o,?_,g7.o.then' c1.o⟩
   rw[g0.o,g1.o]
   rfl
  .intro x e j3 l3 l4 w2 a5 d9 e1 f1 a6 e8 e2 d7 j0 k4
   obtain⟨j4,d0,rfl,f2⟩:=Maps.keyOf_int_inv underlying3 d9
   obtain rfl:x=j4:=by simpa using d0
   obtain⟨g,rfl,z,r⟩:=BS.entry D.o.1 D.o.2 f2 f1 (λ zd=>a6 zd)
   have d8:g∈os.map Cel.g:=(N.o g).1 (by rw[r];rfl)
   have i6:g<H:=by
    obtain⟨c,l,rfl⟩:=List.mem_map.1 d8
    exact t.o.1 c l
   obtain⟨j,X⟩:∃ c,Bf os g=c:=⟨_,rfl⟩
   have d4:=g2.o.get g
   rw[r,X] at d4
   obtain rfl:e=.agg #[j.g,.int .u8 j.tag,j.ty,j.ln,j.sz]:=d4
   have i5:=celN_le t.o.2.1 g
   rw[X] at i5
   have f9:=sE X
   have b9:=sE (a3.o.step z e1 a6)
   have a1:Kp (λ k=>k=p) wr w2:=(Kr _ wr).grown d7 (λ k e _=>by injection e with e;exact e.symm)
   have i1:=sE e8
   have c4:Sl (a5<wr.rangeLeft K p):=⟨by rw[a0.left_eq];exact e2⟩
   have g9:=sE a1
   have a4:Sl (Kp Aa w1 w2):=⟨c1.o.trans a1 (λ k b1 a=>by have i3:k=p:=a;have:=c6.o;omega)⟩
   have k7:=a1.size
   have k6:p+1<=w2.heap.size:=by omega
   obtain⟨-,-,-,-,C⟩:=Dk (a4.o.at_ g4.o (λ a=>a))
   have g8:=sE a4.o
   obtain⟨S,u⟩:∃ n,(d.filter λ x=> !fm x).length=n:=⟨_,rfl⟩
   obtain⟨E,y⟩:∃ n,Bb os (d.filter λ x=> !fm x)=n:=⟨_,rfl⟩
   have O:=sE (And.intro u y)
   rw[u] at a9 ⊢
   rw[y] at e9 ⊢
   clear j0 d9 e1 f1 a6 e8 a0 e2 d7 f2 d0 r a1 b5 z a4 X d8 u y
   obtain⟨M,J⟩:∃ M,M=w2.alloc (.cells #[j.g,.int .u8 j.tag,j.ty,j.ln,j.sz] 113):=⟨_,rfl⟩
   have b7:Kp Aa w2 M:=by rw[J];exact (Kr _ w2).alloc _
   obtain⟨j5,j1⟩:∃ m,w2.heap.size=m:=⟨_,rfl⟩
   have c9:M.heap[j5]?=some (.cells #[j.g,.int .u8 j.tag,j.ty,j.ln,j.sz] 113 (0,0)):=by rw[J,<- j1];exact wN w2 _
   have c3:=sE b7
   have f8:=sE c9
   have C:=Ae b7 C
   rw[J] at C
   clear b7 c9
   go_wp2_with fail
   try rw[<- J]
   clear J C
   refine(g5.o M g (g8.o.then' c3.o) i6).mono ?_
   rintro e f6 ⟨rfl,b6⟩
   have b8:Kp Aa w2 f6:=c3.o.then' b6
   have R:=sE (ranges_keepI i1.o b8 (λ a=>a) (λ a=>a))
   have c2:Sl (Kp (λ k=>k=p) w0 f6):=⟨(i0.o.trans g9.o (λ b a7 a=>a)).trans b8 (λ _ _ a=>a.elim)⟩
   have d1:=b6.at_ f8.o (λ a=>a)
   obtain⟨c0,j6,j7,j8,j9⟩:=DT d1
   have B:Sl ((d++[g]).filter (λ x=> !fm x)=(d.filter λ x=> !fm x)++(if fm g=true then [] else [g])):=⟨by
    rw[List.filter_append]
    congr 1
    cases e:fm g <;> simp[e]⟩
   clear b6 b8 d1
   cases r:fm g with
   |true=>
    rw[r,if_pos rfl,List.append_nil] at B
    clear r
    go_wp2
    refine⟨⟨_,a5,d++[g],R.o,b9.o,?_,?_,c2.o⟩,by rw[R.o.left_eq];exact c4.o⟩
    .rw [B.o,O.o.1]
    .rw [B.o,O.o.2]
   |false=>
    rw[r,if_neg (by simp)] at B
    have k1:IntKind.i64.wrap ((S:Int)+1)=((S+1:Nat):Int):=by rw[IntKind.wrap_i64];omega
    have k2:IntKind.i64.wrap ((E:Int)+(j.sz:Int))=((E+j.sz:Nat):Int):=by rw[IntKind.wrap_i64];omega
    clear r
    go_wp2
    refine⟨⟨_,a5,d++[g],R.o,b9.o,?_,?_,c2.o⟩,by rw[R.o.left_eq];exact c4.o⟩
    .rw [B.o,List.length_append,O.o.1]
     rfl
    .rw [B.o,EZ,O.o.2]
     show _=Value.int .i64 ((E+((Bf os g).sz+0):Nat):Int)
     rw[f9.o]
     rfl

end

end Go.Proofs.YtfkedlgpgmaemaaGreatDoor
