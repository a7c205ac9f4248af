/-
  Lemmas for the laws, together: CenT.
-/
import Derived.Test.YtfkedlgpgmaemaaGreatDoorQbj
import Derived.Maps.RangeWalk
set_option linter.unusedVariables false
set_option maxHeartbeats 16000000
namespace Go.Proofs.YtfkedlgpgmaemaaGreatDoor
open Tryz
section
open Go.RowKit Go.Maps

def Ch(os:List Cel)(l:List Nat)(t:Nat):List Nat:=l.filter λ x=>(Bf os x).ty==t

def Ev(os:List Cel)(l:List Nat)(t:Nat):Nat×Nat×Nat:=(t,(Ch os l t).length,Bb os (Ch os l t))

def valS(r:Nat×Nat×Nat):Value:=.agg #[r.1,r.2.1,r.2.2]

def Ey(os:List Cel)(l:List Nat)(t:Nat):Option Value:=if (Ch os l t).isEmpty=true then none else some (valS (Ev os l t))

theorem ofTy_step{os:List Cel}{l:List Nat}{x:Nat}(t:Nat):Ch os (l++[x]) t=Ch os l t++if (Bf os x).ty=t then [x] else []:=by
 unfold Ch
 rw[List.filter_append]
 congr 1
 by_cases h:(Bf os x).ty=t <;> simp[h]

theorem shareF_get(os:List Cel)(l:List Nat)(t:Nat):(Ey os l t).getD (.agg #[(0:Int),(0:Int),(0:Int)])=.agg #[.int .i64 (if (Ch os l t).isEmpty=true then 0 else t:Nat),.int .i64 ((Ch os l t).length:Nat),.int .i64 (Bb os (Ch os l t):Nat)]:=by
 unfold Ey
 by_cases h:(Ch os l t).isEmpty=true
 .rw [if_pos h,if_pos h,List.isEmpty_iff.1 h]
  rfl
 .rw [if_neg h,if_neg h]
  rfl

theorem shareF_step(os:List Cel)(l:List Nat)(x:Nat):(λ t=>if t=(Bf os x).ty then some (valS ((Bf os x).ty,(Ch os l (Bf os x).ty).length+1,Bb os (Ch os l (Bf os x).ty)+(Bf os x).sz)) else Ey os l t)=Ey os (l++[x]):=by
 funext t
 unfold Ey Ev
 rw[ofTy_step]
 by_cases h:t=(Bf os x).ty
 .subst h
  rw[if_pos rfl,if_pos rfl,if_neg (by simp),List.length_append,EZ]
  rfl
 .have a:¬ (Bf os x).ty=t:=λ e=>h e.symm
  rw[if_neg h,if_neg a,List.append_nil]

theorem shareF_none(os:List Cel):Ey os []=λ _=>none:=by
 funext t
 rfl

def SortsS(n:Nat):Prop:=∀ (w:World) (base:Nat) (v:Value) (L:List (Nat×Nat×Nat)),w.ownsRow base 82 3 v L.length (Bt L)->L.length<=n->
 Calls prog 55 #[v,.func (.func 56) #[] #[]] w λ e w'=>e=.returned v/\∃ M:List (Nat×Nat×Nat),M.Perm L/\M.Pairwise (λ a b=>a.1<=b.1)/\w'.ownsRow base 82 3 v L.length (Bt M)/\Kp (λ b=>v.ownBlock=some b) w w'

theorem infoShare:(prog.info? 82).map (λ i=>(i.zero,i.size,i.bytes))=some (some (.agg #[(0:Int),(0:Int),(0:Int)]),3,24):=by kernel_rfl

theorem Gb:prog.underlying 38=some (.slice 82):=by kernel_rfl

theorem Dz:prog.underlying 124=some (.map 3 82):=by kernel_rfl

theorem zeroShare(w:World):(zeroValue 82).run prog w=.ok (.agg #[(0:Int),(0:Int),(0:Int)]) w:=by kernel_rfl

def TypesPost(os:List Cel)(es:List (Nat×Nat×Nat))(H:Nat)(xs:List Nat)(w:World)(e:Ending)(w':World):Prop:=
 ∃ (fm:Nat->Bool) (v:Value) (ss:List Nat) (M:List (Nat×Nat×Nat)),(∀ g,fm g=true ↔ AA es xs g)/\e=.returned (.tuple #[v,(0:Int)])/\ss.Nodup/\(∀ t,t∈ss ↔ ∃ x∈Bo fm H,(Bf os x).ty=t)/\M.Perm (ss.map (Ev os (Bo fm H)))/\M.Pairwise (λ a b=>a.1<=b.1)/\w'.ownsRow w.heap.size 82 3 v M.length (Bt M)/\Kp Aa w w'

set_option maxRecDepth 20000 in
theorem CTypes_at(P:Sp)(W:Nat->Nat)(f:Nat->Bool)(w:World)(cs:List Cel)(d9:SpaceAt w P W f)(c7:CellsAt P W cs)(j6:cs≠[])(k5:∀ i,i<P.n/2->f i=Ak cs i)(j5:∀ x∈P.ts,x.m<18446744073709551616)(v:Value)(xs:List Nat)(B:AO w v xs)(l2:∀ g∈xs,CL cs g)(l1:xs.length<=65536)
  (k7:∀ c∈Aj cs,c.ty<65536) (e7:Nat) (i2:SortsS e7) (d2:∀ d:List Nat,d.Nodup->(∀ t∈d,∃ x,AA (AP P.ts W cs) xs x/\(Bf (Aj cs) x).ty=t)->d.length<=e7):
  Calls prog 14 #[.pointer (some P.s),v] w (TypesPost (Aj cs) (AP P.ts W cs) (P.n/2) xs w):=by
 obtain⟨s9,t0,rfl,-⟩:=id B
 have Y:=sE (COf_at P W f w cs d9 c7 j6 k5 j5 _ xs B l2 l1)
 have c3:P.n/2<=65536:=d9.bt.FQ
 have b8:Sl (∀ c∈Aj cs,c.sz<=65536):=⟨λ c p3=>by
  have:=c7.tl.mem (AX.1 p3).1
  omega⟩
 have b9:Sl (∀ x,(Bf (Aj cs) x).ty<65536):=⟨λ x=>by
  rcases FU (os:=Aj cs) (x:=x) with ⟨C,-⟩|⟨C,-⟩
  .exact k7 _ C
  .rw [C];decide⟩
 have o2:=sE i2
 obtain⟨H,a1⟩:∃ H,P.n/2=H:=⟨_,rfl⟩
 obtain⟨es,a4⟩:∃ es,AP P.ts W cs=es:=⟨_,rfl⟩
 obtain⟨os,V⟩:∃ os,Aj cs=os:=⟨_,rfl⟩
 obtain⟨L,i0⟩:∃ L,xs.length=L:=⟨_,rfl⟩
 rw[a4,V,a1] at Y
 rw[a4,V] at d2
 have n5:=sE d2
 rw[V] at b8 b9
 rw[a1] at c3
 rw[a4,V,a1]
 rw[i0] at Y ⊢
 clear d9 c7 k5 j5 B l2 l1 j6 k7 i2 d2 a1 a4 V i0
 go_enter func14,ntmps14
 go_wp2_with fail
 refine Y.o.mono ?_
 rintro e w1 ⟨b,mp,mq,fm,rfl,k0,i5,l5⟩
 have f9:=sE k0
 have f1:=sE l5
 have f0:=sE i5
 clear l5 i5 Y k0
 have p8:=@run_makeMap prog
 go_wp2_with fail
 obtain⟨w2,a9⟩:∃ w2,w2=w1.alloc (.map #[] 0):=⟨_,rfl⟩
 have J:Kp Aa w1 w2:=by rw[a9];exact (Kr _ w1).alloc _
 have b1:BS w2 w1.heap.size 0 (λ _=>none):=by rw[a9];exact BS.made w1
 rw[<- a9]
 clear a9 p8
 obtain⟨mb,d1⟩:∃ m,w1.heap.size=m:=⟨_,rfl⟩
 rw[d1] at b1 ⊢
 have n3:Sl (w1.heap.size=mb):=⟨d1⟩
 have f6:=sE b1
 have f2:=sE J
 have r7:=b1.lt
 clear J b1 d1
 refine(CAll_at w2 b P.s _ os es mp mq H fm (f9.o.Ac f2.o) c3).mono ?_
 rintro e e8 ⟨s6,s7,rfl,a6,e3⟩
 have i1:(Bo fm H).length<=65536:=Nat.le_trans (Fq fm H) c3
 have g0:Sl (∀ y∈Bo fm H,y<H):=⟨λ y O=>setL_lt y O⟩
 obtain⟨Q,c5⟩:∃ Q,Bo fm H=Q:=⟨_,rfl⟩
 have b5:=sE c5
 rw[c5] at a6 i1 g0 ⊢
 obtain⟨M,c4⟩:∃ M,Q.length=M:=⟨_,rfl⟩
 rw[c4] at a6 i1 ⊢
 have f5:=sE c4
 have f7:=sE a6
 have n1:=sE (f6.o.keep e3 (λ a=>a))
 have m4:Sl (Kp Aa w1 e8):=⟨f2.o.then' e3⟩
 obtain⟨l8,s5,n,r2,F,i8,j4,hF,-,-⟩:=f9.o
 have m2:=sE i8
 have m9:Sl (∀ a0 (x:Nat),Kp Aa w1 a0->x<65536->(Instr.lookup 118 (.map (some l8)) (.int .i64 (x:Nat)) false).run prog a0=.ok (cellW (Bf os x)) a0):=⟨λ a0 x q3 B=>by
  have:=(j4.keep q3 (λ a=>a)).look (g:=x) (by omega) BV (zeroCell _)
  rwa [hF.get] at this⟩
 clear a6 e3 c4 c5 i8 j4 hF f6
 go_wp2_with fail
 go_loopw [27] (λ x27 wr=>∃ (j:Nat),x27=.int .i64 j/\j<=M/\BS wr mb j (Ey os (Q.take j))/\Kp (λ k=>k=mb) e8 wr) (λ x27 _=>M-(intOf x27).toNat)
 case atStart=>exact ⟨0,rfl,Nat.zero_le _,by rw[List.take_zero,shareF_none];exact n1.o,Kr _ _⟩
 case round=>
  obtain⟨j,rfl,p5,I,A⟩:=hrel
  have n4:=sE I
  have r0:=sE A
  have S:Kp Aa w1 wr:=m4.o.trans A (λ k A a=>by have p0:k=mb:=a;have:=n3.o;omega)
  have f3:=sE S
  by_cases hjl:j<M
  .have p6:(j:Int)<(M:Int):=by omega
   obtain⟨y,O⟩:∃ y,Q[j]?=some y:=⟨_,List.getElem?_eq_getElem (by rw[f5.o];exact hjl)⟩
   obtain⟨r1,p2,x0⟩:=Cu (Af f7.o A (λ k A a=>by have p0:k=mb:=a;have:=(Ad f7.o A).1;omega)) O
   subst p2
   have s1:=g0.o y (List.mem_of_getElem? O)
   have N:=m9.o wr y S (by omega)
   obtain⟨-,-,r3,-,-⟩:=Dk (S.at_ m2.o (λ a=>a))
   have a2:=shareF_step os (Q.take j) y
   have c9:(Ch os (Q.take j) (Bf os y).ty).length<=65536:=Nat.le_trans (List.length_filter_le _ _) (by rw[List.length_take];omega)
   have k6:=Nat.le_trans (F9 b8.o (Ch os (Q.take j) (Bf os y).ty)) (Nat.mul_le_mul_right _ c9)
   have p4:=celN_le b8.o y
   have q1:=b9.o y
   obtain⟨l,i4⟩:∃ c,Bf os y=c:=⟨_,rfl⟩
   rw[i4] at N a2 c9 k6 p4 q1
   have r6:(Instr.lookup 118 (.map (some l8)) (.int .i64 (y:Nat)) false).run prog wr=.ok (.agg #[l.g,.int .u8 l.tag,l.ty,l.ln,l.sz]) wr:=N
   obtain⟨b2,b0⟩:∃ b2,b2=wr.alloc (.cells #[l.g,.int .u8 l.tag,l.ty,l.ln,l.sz] 113):=⟨_,rfl⟩
   have e4:Kp Aa wr b2:=by rw[b0];exact (Kr _ wr).alloc _
   have d0:=(I.keep e4 (λ a=>a)).look (g:=l.ty) (by omega) Dz (zeroShare _)
   rw[shareF_get] at d0
   obtain⟨o8,i3⟩:∃ n,(if (Ch os (Q.take j) l.ty).isEmpty=true then 0 else l.ty)=n:=⟨_,rfl⟩
   obtain⟨p,E⟩:∃ n,(Ch os (Q.take j) l.ty).length=n:=⟨_,rfl⟩
   obtain⟨r,G⟩:∃ n,Bb os (Ch os (Q.take j) l.ty)=n:=⟨_,rfl⟩
   rw[i3,E,G] at d0
   rw[E,G] at a2
   rw[E] at c9
   rw[G] at k6
   rw[b0] at d0
   have u1:IntKind.i64.wrap ((p:Int)+1)=(p:Int)+1:=by rw[IntKind.wrap_i64];omega
   have u2:IntKind.i64.wrap ((r:Int)+(l.sz:Int))=(r:Int)+(l.sz:Int):=by rw[IntKind.wrap_i64];omega
   have o7:Sl (Q.take (j+1)=Q.take j++[y]):=⟨by rw[List.take_add_one,O];rfl⟩
   obtain⟨e9,e1⟩:∃ e9,e9=b2.alloc (.cells #[o8,p,r] 82):=⟨_,rfl⟩
   have e5:Kp Aa wr e9:=by rw[e1];exact e4.alloc _
   obtain⟨m0,d6,e6,l6,q9⟩:=(I.keep e5 (λ a=>a)).put (by unfold maxLen;omega) (g:=l.ty) (by omega) (valS (l.ty,p+1,r+l.sz)) Dz
   rw[a2] at e6
   rw[e1,b0] at d6
   have r8:(Instr.mapUpdate 124 (.map (some mb)) (.int .i64 l.ty) (.agg #[l.ty,.int .i64 ((p:Int)+1),.int .i64 ((r:Int)+(l.sz:Int))])).run prog _=.ok () m0:=d6
   have n2:=sE e6
   have m7:Sl (Kp (λ k=>k=mb) e8 m0):=⟨(A.trans e5 (λ _ _ a=>a.elim)).trans l6 (λ _ _ a=>a)⟩
   clear I A S N a2 O d6 e6 l6 q9 i4 i3 E G e4 e5 b0 e1
   go_wp2
   refine⟨⟨j+1,by go_num,by omega,by rw[o7.o];exact n2.o,m7.o⟩,by simp only[intOf];omega⟩
  .obtain rfl:j=M:=by omega
   have p6:¬ (j:Int)<(j:Int):=by omega
   rw[List.take_of_length_le (by rw[f5.o];omega)] at I
   obtain⟨X,rfl⟩:∃ X:World,X=wr:=⟨_,rfl⟩
   have p7:=I.lt
   obtain⟨b3,j9,g9,j7⟩:=I
   have R:=sE (And.intro g9 j7)
   have b7:Sl (∀ t,(Ey os Q t).isSome=true ↔ ∃ x∈Q,(Bf os x).ty=t):=⟨λ t=>by
    have j8:(Ch os Q t).isEmpty=true ↔ ¬ ∃ x∈Q,(Bf os x).ty=t:=by
     rw[List.isEmpty_iff]
     unfold Ch
     rw[List.filter_eq_nil_iff]
     simp
    unfold Ey
    by_cases a:(Ch os Q t).isEmpty=true
    .rw [if_pos a]
     simp only[Option.isSome_none]
     exact⟨λ a=>(by cases a),λ q=>absurd q (j8.1 a)⟩
    .rw [if_neg a]
     simp only[Option.isSome_some]
     exact⟨λ _=>Classical.byContradiction λ q=>a (j8.2 q),λ _=>trivial⟩⟩
   clear n4 g9 j7 p5 A S
   go_wp2_with (first|(at_range;go_loud (refine wpList_range_own _ rfl _ 124 rfl 3 82 (int_keyed underlying3) Dz _ mb j _ rfl j9 ?_);intro w0 d7 i6 p9))
   try go_frame
   obtain⟨z,k2⟩:∃ b,X.heap.size=b:=⟨_,rfl⟩
   have g5:Kp Aa X w0:=(Kr Aa X).grown i6 (λ k e _=>by cases e)
   rw[k2] at d7 p9 p7 ⊢
   have m3:Sl (Kp Aa w w0):=⟨f1.o.then' (f3.o.then' g5)⟩
   have b6:Sl (w.heap.size<=z):=⟨by have:=(f1.o.then' f3.o).size;omega⟩
   have g4:Sl (∀ t,(Ey os Q t).isSome=true->t<65536):=⟨λ t e0=>by
    obtain⟨x,-,rfl⟩:=(b7.o t).1 e0
    exact b9.o x⟩
   clear j9 i6 g5 k2
   go_loopw [4] (λ x4 wr=>∃ (left:Lit->Bool) (cnt:Nat) (d:List Nat),wr.ranges prog 3 heldE mb z j b3 left cnt/\CollI b3 left d/\wr.ownsRow (z+1) 82 3 x4 d.length (Bt (d.map (Ev os Q)))/\Kp (λ k=>k=z\/z+1<=k) w0 wr) (λ _ wr=>wr.rangeLeft mb z)
   case atStart=>exact ⟨_,_,[],d7,CollI.start b3,World.ownsRow_nil _ _ _ _,Kr _ _⟩
   case round=>
    obtain⟨left,cnt,d,a7,T,d8,c8⟩:=hrel
    obtain⟨ra,rc,rfl⟩:=Aq d8
    have b4:=sE T
    have Z:=sE d8
    have f4:=sE c8
    have s3:=c8.size
    have a8:∀ g∈d,(Ey os Q g).isSome=true:=λ g K=>by
     have C:=(T.2 g).1 K
     have c2:=C.2.1
     rwa [BS.has_eqP R.o.1 C.1] at c2
    have o4:Sl (d.length<=65536):=⟨FX 65536 d T.1 (λ g K=>g4.o g (a8 g K))⟩
    have o5:Sl (d.length<=e7):=⟨n5.o d T.1 (λ t e0=>by
     obtain⟨x,B,e⟩:=(b7.o t).1 (a8 t e0)
     rw[<- b5.o] at B
     exact⟨x,(f0.o x).1 (setL_mem.1 B).2,e⟩)⟩
    clear T d8 c8 d7
    go_wp2_with (first|(at_next;refine wpList_next_ranges _ rfl _ rfl 3 (int_keyed underlying3) heldE (Value.int .i64) id (λ s4 q4 A=>by obtain⟨x,B,_⟩:=Maps.keyOf_int_inv underlying3 A;exact ⟨x,B⟩) (λ v _ _=>⟨v,rfl⟩) mb z j _ _ _ rfl a7 ?_ ?_))
    .intro r4 j2
     have o3:Sl (∀ g,g∈d ↔ ∃ x∈Q,(Bf os x).ty=g):=⟨λ g=>by
      rw[b4.o.2 g,j2,<- b7.o g]
      constructor
      .rintro ⟨C,c2,-⟩
       rwa [BS.has_eqP R.o.1 C] at c2
      .intro a
       have:=g4.o g a
       exact⟨by omega,by rw[BS.has_eqP R.o.1 (by omega)];exact a,rfl⟩⟩
     have o6:=sE (o2.o wr (z+1) (.slice ra d.length rc) (d.map (Ev os Q)) (by rw[List.length_map];exact Z.o) (by rw[List.length_map];exact o5.o))
     clear j2 a7 a8
     go_wp2_with fail
     refine o6.o.mono ?_
     rintro e q7 ⟨rfl,g6,d5,k1,d3,l7⟩
     have a5:g6.length=d.length:=by rw[d5.length_eq,List.length_map]
     rw[List.length_map] at d3
     have m8:Sl (Kp Aa w q7):=⟨(m3.o.trans f4.o (λ b U a=>by have:=b6.o;omega)).trans l7 (λ b U a=>by have:=(Ad Z.o a).1;have:=b6.o;omega)⟩
     have f8:=sE (And.intro d5 k1)
     have n8:=sE d3
     have n7:=sE a5
     clear d5 k1 d3 l7 a5
     go_wp2
     go_ret2
     refine⟨fm,.slice ra d.length rc,d,g6,f0.o,rfl,b4.o.1,?_,?_,f8.o.2,?_,m8.o⟩
     .rw [b5.o];exact o3.o
     .rw [b5.o];exact f8.o.1
     .rw [n7.o]
      exact BZ n8.o (by have:=b6.o;omega)
    .intro x e q4 t1 t2 w2 g7 j1 N k9 c6 k3 j3 i7 q0 r5
     obtain⟨q8,g8,rfl,l0⟩:=Maps.keyOf_int_inv underlying3 j1
     obtain rfl:x=q8:=by simpa using g8
     obtain⟨g,rfl,K,D⟩:=BS.entry R.o.1 R.o.2 l0 k9 (λ zd=>c6 zd)
     obtain⟨p,E⟩:∃ n,(Ch os Q g).length=n:=⟨_,rfl⟩
     obtain⟨r,G⟩:∃ n,Bb os (Ch os Q g)=n:=⟨_,rfl⟩
     have g3:Sl (Ev os Q g=(g,p,r)):=⟨by unfold Ev;rw [E,G]⟩
     obtain rfl:e=.agg #[.int .i64 (g:Nat),p,r]:=by
      unfold Ey at D
      split at D
      .cases D
      .rw [g3.o] at D
       injection D with D
       exact D.symm
     have m1:=sE (b4.o.step K N c6)
     have J:Kp (λ k=>k=z) wr w2:=(Kr _ wr).grown i7 (λ k e _=>by injection e with e;exact e.symm)
     have o1:=sE k3
     have n0:Sl (g7<wr.rangeLeft mb z):=⟨by rw[a7.left_eq];exact j3⟩
     have g1:=sE (Af Z.o J (λ b U a=>by have:=(Ad Z.o U).1;omega))
     have e2:=J.size
     have m5:=sE (f4.o.trans J (λ b U a=>.inl a))
     have r9:=o4.o
     have s0:z+1<=w2.heap.size:=by omega
     have n6:Sl (((w2.alloc (.cells #[.int .i64 (g:Nat),p,r] 82)).alloc (.cells #[.int .i64 (g:Nat),p,r] 82)).heap[w2.heap.size+1]?=some (.cells #[.int .i64 (g:Nat),p,r] 82 (0,0))):=⟨by
      have:=wN (w2.alloc (.cells #[.int .i64 (g:Nat),p,r] 82)) (.cells #[.int .i64 (g:Nat),p,r] 82)
      rwa [show (w2.alloc (.cells #[.int .i64 (g:Nat),p,r] 82)).heap.size=w2.heap.size+1 by simp] at this⟩
     have c0:Sl (Kp Aa w2 ((w2.alloc (.cells #[.int .i64 (g:Nat),p,r] 82)).alloc (.cells #[.int .i64 (g:Nat),p,r] 82))):=⟨((Kr _ w2).alloc _).alloc _⟩
     have o0:=sE (Af g1.o c0.o (λ _ _ a=>a))
     have s2:=c0.o.size
     clear q0 j1 N k9 c6 k3 a7 j3 i7 l0 g8 D J a8 K E G
     go_wp2_with (at_builtin;obtain ⟨q2,j0,l3,l4,e2⟩:=info_parts infoShare;go_loud (refine wpList_append_own_at _ rfl (.tmp 66) (.tmp 68) 38 rfl (z+1) 82 q2 _ 3 24 Gb j0 l3 l4 e2 rfl (by omega) (.slice ra d.length rc) d.length (Bt (d.map (Ev os Q))) rfl o0.o ⟨w2.heap.size+1,0,none⟩ 1 1 [.int .i64 (g:Nat),p,r] rfl rfl (World.news_of_block n6.o) (by intro u k8;simp at k8;rcases k8 with rfl|rfl|rfl <;> rfl) (by unfold maxLen;omega) (by omega) (by simp;omega) ?_);intro s8 l9 d4 i9 a5 p1;obtain ⟨q5,q6,rfl⟩:=Aq d4;clear j0 l3 l4 e2)
     have c1:Kp (λ k=>(Value.slice ra d.length rc).ownBlock=some k) w2 l9:=(c0.o.Aw _).grown i9 (λ k e _=>e)
     have a3:∀ k,(Value.slice ra d.length rc).ownBlock=some k->z+1<=k:=λ k A=>(Ad g1.o A).1
     have k4:=ranges_keepI o1.o c1 (λ a=>by have:=a3 _ a;omega) (λ a=>by have:=a3 _ a;omega)
     have n9:Sl (l9.ownsRow (z+1) 82 3 (.slice q5 (d.length+1) q6) (d++[g]).length (Bt ((d++[g]).map (Ev os Q)))):=⟨by
      have o9:Bt ((d++[g]).map (Ev os Q))=Bt (d.map (Ev os Q))++[.int .i64 (g:Nat),.int .i64 p,.int .i64 r]:=by
       rw[List.map_append,ER]
       show _++Bt [Ev os Q g]=_
       rw[g3.o]
       rfl
      rw[o9,List.length_append]
      exact d4⟩
     have g2:=sE k4
     have m6:=sE (m5.o.trans c1 (λ b U a=>.inr (a3 b a)))
     clear d4 i9 a5 p1 c1 a3 k4
     go_wp2
     exact⟨⟨_,g7,d++[g],g2.o,m1.o,n9.o,m6.o⟩,by rw[g2.o.left_eq];exact n0.o⟩

end

end Go.Proofs.YtfkedlgpgmaemaaGreatDoor
