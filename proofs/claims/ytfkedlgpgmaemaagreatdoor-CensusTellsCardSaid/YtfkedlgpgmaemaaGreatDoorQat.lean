/-
  Lemmas for the laws, together: Play5.
-/
import Derived.Test.YtfkedlgpgmaemaaGreatDoorQaq
import Derived.Test.YtfkedlgpgmaemaaGreatDoorQao
import Derived.Test.YtfkedlgpgmaemaaGreatDoorQah
import Derived.Test.YtfkedlgpgmaemaaGreatDoorQai
set_option linter.unusedVariables false
set_option maxHeartbeats 16000000
namespace Go.Proofs.YtfkedlgpgmaemaaGreatDoor
open Tryz
section
open Go.RowKit

theorem VHead_at(b a:Nat)(c:Cel)(k wds:Int)(m:Nat)(w:World)(f:Ce w b a c k wds m):
  Calls prog 156 #[.pointer (some b)] w (RK (.agg #[.int .u8 c.tag,c.ty,c.ln,c.sz]) w):=by
 obtain⟨w1,g⟩:∃ w1,w1=w.alloc (.cells #[.int .u8 0,(0:Int),(0:Int),(0:Int)] 111):=⟨_,rfl⟩
 have o:Kp Aa w w1:=by rw[g];exact (Kr _ w).alloc _
 have d:w1.heap[w.heap.size]?=some (.cells #[.int .u8 0,(0:Int),(0:Int),(0:Int)] 111 (0,0)):=by rw[g];exact wN w _
 have K:=lZ d
 obtain⟨v0,u,y,z,A,B,C,D,E⟩:=(f.Ac o).cells
 have L:=lZ (f.Ac o)
 obtain⟨p,l⟩:∃ x,c.tag=x:=⟨_,rfl⟩
 obtain⟨ty,n⟩:∃ x,c.ty=x:=⟨_,rfl⟩
 obtain⟨ln,i⟩:∃ x,c.ln=x:=⟨_,rfl⟩
 obtain⟨sz,j⟩:∃ x,c.sz=x:=⟨_,rfl⟩
 rw[l] at y ⊢
 rw[n] at z ⊢
 rw[i] at A ⊢
 rw[j] at B ⊢
 obtain⟨G,H,I,J⟩:=Ay d
 have e:=Ab d
 have f00:=e 0
 have f01:=e 1
 have f02:=e 2
 have f03:=e 3
 have F:=sE d
 clear d e f l n i j v0 u C D E
 subst g
 go_enter func156,ntmps156
 go_wp2
 obtain⟨q,r,s,t⟩:=Ay (wN w (.cells #[.int .u8 p,ty,ln,sz] 111))
 exact bodyPost_ret (v:=.agg #[.int .u8 p,ty,ln,sz]) (by simp[results,results156,go_sem,q,r,s,t]) rfl ⟨rfl,(Kr _ _).alloc _⟩

theorem run_field_size(a b c d:Int)(w:World):(Instr.field 111 (.agg #[.int .u8 a,.int .i64 b,.int .i64 c,.int .i64 d]) 3).run prog w=.ok (.int .i64 d) w:=by kernel_rfl

def ED(os:List Cel):List Nat:=0::os.map Cel.fin

theorem endsL_last(os:List Cel):(ED os)[os.length]?=some ((os.getLast?.map Cel.fin).getD 0):=by
 rcases List.eq_nil_or_concat os with h|⟨l,z,h⟩
 .subst h;rfl
 .rw [List.concat_eq_append] at h
  subst h
  simp[ED]

theorem endsL_snoc(os:List Cel)(c:Cel):ED (os++[c])=ED os++[c.fin]:=by simp[ED]

theorem endsL_succ{os:List Cel}{i:Nat}{o:Cel}(h:os[i]?=some o):(ED os)[i+1]?=some o.fin:=by simp[ED,h]

theorem endsL_len(os:List Cel):(ED os).length=os.length+1:=by simp[ED]

theorem owns_num{w:World}{base:Nat}{f:TypeId}{v:Value}{n:Nat}{l:List Nat}(b:w.ownsRow base f 1 v n (Az l))(r:n=l.length){i z:Nat}(e:l[i]?=some z):
  ∃ a cap,v=.slice (some ⟨a,0,none⟩) n cap/\base<=a/\a<w.heap.size/\w.cell? ⟨a,i,none⟩=some (.int .i64 z):=by
 have q:=(gE.1 e).1
 obtain⟨_,b⟩:=b
 rcases b with ⟨_,p⟩|⟨a,g,o,m,j,d,_,_,s,k⟩
 .omega
 .refine ⟨a,g,m,j,lZ d,?_⟩
  have c:=congrArg (λ l=>l[i]?) k
  simp only[List.getElem?_take,Nat.mul_one,Az,List.getElem?_map,e,Option.map_some] at c
  rw[if_pos (by omega),Array.getElem?_toList] at c
  simp only[World.cell?,d]
  exact c

theorem owns_one(w:World)(E:TypeId)(z:Nat):(w.alloc (.cells #[z] E)).ownsRow w.heap.size E 1 (.slice (some ⟨w.heap.size,0,none⟩) 1 1) 1 (Az [z]):=
 ⟨rfl,.inr ⟨w.heap.size,1,#[z],rfl,Nat.le_refl _,wN w _,Nat.le_refl _,by decide,rfl,rfl⟩⟩

def SSettlePost(P:Sp)(W:Nat->Nat)(cs:List Cel)(x:Nat->Int)(len:Nat)(w:World)(e:Ending)(w':World):Prop:=
 (Bu W P.n P.ts x 0 len 0=none/\e=.returned (.int .i64 2)/\AQ w' P W cs/\Kp Aa w w')\/
 (∃ os,Bu W P.n P.ts x 0 len 0=some os/\e=.returned (.int .i64 0)/\Kp P.own w w'/\AQ w' P (BH W 0 os (P.n/2)) (Df 0 os (P.n/2)))

def SetI2(P:Sp)(W:Nat->Nat)(x:Nat->Int)(len:Nat)(w:World)(v5 v18:Value)(wr:World):Prop:=
 ∃ (j:Nat) (os:List Cel) (e:Nat),j<=len/\v18=.int .i64 j/\e<=32768/\Sl (Cb W P.n P.ts x len j os e)/\Sl (wr.ownsRow w.heap.size 3 1 v5 (os.length+1) (Az (ED os)))/\Kp Aa w wr

attribute [local go_sem] run_field_size

def SSettleTo(P:Sp)(W:Nat->Nat)(f:Nat->Bool)(x:Nat->Int)(len:Nat)(w:World)(e:Ending)(w':World):Prop:=
 (Bu W P.n P.ts x 0 len 0=none/\e=.returned (.int .i64 2)/\SpaceAt w' P W f/\Kp Aa w w')\/
 (∃ os,Bu W P.n P.ts x 0 len 0=some os/\e=.returned (.int .i64 0)/\Kp P.own w w'/\AQ w' P (BH W 0 os (P.n/2)) (Df 0 os (P.n/2)))

set_option maxRecDepth 20000 in
theorem SSettle_to(P:Sp)(W:Nat->Nat)(f:Nat->Bool)(v:Value)(B:Nat)(x:Nat->Nat->Int)(w:World)(a6:SpaceAt w P W f)
  (i6:Bw 1 w v B x) (q3:B<=1000) (d9:0<B->∀ b,v.ownBlock=some b->¬ P.own b):
  Calls prog 100 #[.pointer (some P.s),v] w (SSettleTo P W f (λ i=>x i 0) B w):=by
 have f2:=sE a6
 have n7:=a6.ar.small
 have b5:∀ k,P.all k->k<w.heap.size:=a6.lt
 have i1:=b5 P.s (.inr (.inl rfl))
 obtain⟨r0,r1,rfl,i8⟩:=ints_at i6
 have f3:=sE i8
 have C:=sE a6
 have l9:=sE d9
 have k8:=sE b5
 clear a6 i6 i8 d9 b5
 go_enter func100,ntmps100
 go_wp2_with fail
 go_loopw [5,18] (λ o6 o5 wr=>SetI2 P W (λ i=>x i 0) B w o6 o5 wr) (λ _ y _=>B-(intOf y).toNat)
 case atStart=>exact ⟨0,[],0,Nat.zero_le _,rfl,Nat.zero_le _,⟨Cb.start _ _ _ _ _⟩,⟨owns_one w _ 0⟩,(Kr _ _).alloc _⟩
 case round=>
  obtain⟨j,os,e,q1,rfl,p7,X,c6,D⟩:=hrel
  have L:=sE D
  by_cases hjl:j<B
  .have n6:(j:Int)<(B:Int):=by omega
   obtain⟨b,o,rfl,g5,Z,p0,p1⟩:=f3.o j hjl
   have a5:=D.cell Z id
   obtain⟨E,F,b2⟩:=(C.o.Ac D).head
   have n8:P.s<wr.heap.size:=Nat.lt_of_lt_of_le i1 D.size
   have p5:b<wr.heap.size:=Nat.lt_of_lt_of_le g5 D.size
   have d7:os.length=j:=X.o.2.1
   have i0:(ED os)[os.length]?=some e:=by rw[endsL_last,<- X.o.2.2.2.2]
   obtain⟨I,f7,rfl,n3,d4,M⟩:=owns_num c6.o (by rw[endsL_len]) i0
   clear D Z
   have n4:I<wr.heap.size:=d4
   go_wp2_with fail
   cases hc:Cj W P.n P.ts (x j 0) with
   |none=>
    have c3:Sl (Bu W P.n P.ts (λ i=>x i 0) 0 B 0=none):=⟨X.o.fails hjl (.inl hc)⟩
    have c7:Sl (∀ d,Kp Aa wr d->Calls prog 30 #[.pointer (some P.a),.pointer (some P.t),.int .i64 (x j 0)] d (SOfNo d)):=⟨λ d R=>by
     have T:=L.o.then' R
     refine(SOf_any (x j 0) P.a P.q P.n P.t P.tq W P.ts d (C.o.fl.Ac T) (C.o.ar.Ac T) (C.o.Ac T).tb).mono λ e w' Q=>?_
     unfold Db at Q
     rw[hc] at Q
     exact Q⟩
    clear hc
    go_region_held3 (λ w'=>w'.cell? P.s=some (.pointer (some P.a))/\w'.cell? ⟨P.s,1,none⟩=some (.pointer (some P.t)))
     (exact ⟨Ae KU E,Ae KU F⟩)
     (first|(go_at_call 30;(with_reducible refine(c7.o _ KU).mono ?_);rintro e a2 ⟨j9,g4,rfl,c0⟩;have G:Kp Aa wr a2:=Kp.then' KU c0))
    have J:(j9 !=0)=true:=by simpa using g4
    have V:=L.o.then' G
    clear g4 E F a5 M
    go_wp2
    exact bodyPost_ret (v:=.int .i64 2) (by simp[results,results100,go_sem]) rfl (.inl ⟨c3.o,rfl,f2.o.Ac V,V⟩)
   |some c=>
    have a7:=C.o.ar.fits
    obtain⟨g1,m4,p4,g2,m5,m6⟩:=Eg hc a7
    have c7:Sl (∀ d,Kp Aa wr d->Calls prog 30 #[.pointer (some P.a),.pointer (some P.t),.int .i64 (x j 0)] d (SOfYes P.a P.ts c d)):=⟨λ d R=>by
     have T:=L.o.then' R
     refine(SOf_any (x j 0) P.a P.q P.n P.t P.tq W P.ts d (C.o.fl.Ac T) (C.o.ar.Ac T) (C.o.Ac T).tb).mono λ e w' Q=>?_
     unfold Db at Q
     rw[hc] at Q
     exact Q⟩
    have n0:c.g+c.sz<=32768:=by unfold Cel.fin at g2;omega
    have k0:=sE hc
    have K:=sE g1
    clear hc a7 m4 m5 m6 g2 g1
    go_region_held3 (λ w'=>w'.cell? P.s=some (.pointer (some P.a))/\w'.cell? ⟨P.s,1,none⟩=some (.pointer (some P.t)))
     (exact ⟨Ae KU E,Ae KU F⟩)
     (first|(go_at_call 30;(with_reducible refine(c7.o _ KU).mono ?_);rintro e a2 ⟨o8,k,wds,m,n9,rfl,e0,d9,c0⟩;have G:Kp Aa wr a2:=Kp.then' KU c0))
    have V:Sl (Kp Aa w a2):=⟨L.o.then' G⟩
    have f8:=G.cell a5 id
    rw[K.o] at f8
    have g0:=G.cell M id
    have q6:=G.size
    have p3:=sE e0
    have e9:Sl (a2.ownsRow w.heap.size 3 1 (.slice (some ⟨I,0,none⟩) (os.length+1) f7) (os.length+1) (Az (ED os))):=⟨G.owns c6.o (λ _ _ r=>r)⟩
    have f0:=sE d7
    rw[d7] at e9 g0
    have m0:=sE (VHead_at o8 P.a c k wds m a2 e0)
    clear E F a5 M G e0 n9 d7 i0 c0
    by_cases hlow:(c.g:Int)<(e:Int)
    .have c3:Sl (Bu W P.n P.ts (λ i=>x i 0) 0 B 0=none):=⟨X.o.fails hjl (.inr (by show x j 0<_;rw [K.o];exact hlow))⟩
     have o3:decide ((c.g:Int)<(e:Int))=true:=dT hlow
     rw[K.o]
     go_wp2
     exact bodyPost_ret (v:=.int .i64 2) (by simp[results,results100,go_sem]) rfl (.inl ⟨c3.o,rfl,f2.o.Ac V.o,V.o⟩)
    .have l0:Sl (Cb W P.n P.ts (λ i=>x i 0) B (j+1) (os++[c]) c.fin):=⟨X.o.next hjl C.o.ar.fits k0.o (by show ¬ x j 0<_;rw [K.o];exact hlow)⟩
     have o3:decide ((c.g:Int)<(e:Int))=false:=dF hlow
     have i3:(c.g:Int)+(c.sz:Int)=((c.fin:Nat):Int):=by rw[Cel.fin];omega
     have l6:=sE i3
     have n2:c.fin<=32768:=by rw[Cel.fin];exact n0
     clear i3
     rw[K.o]
     go_wp2_with fail
     refine m0.o.mono ?_
     rintro e c1 ⟨rfl,b9⟩
     have e8:=sE (b9.owns e9.o (λ _ _ r=>r))
     have e6:=sE (V.o.then' b9)
     have q4:=b9.size
     have o1:w.heap.size<=c1.heap.size:=e6.o.size
     clear g0 f8 b9
     go_wp2_with (at_builtin;obtain ⟨o2,d5,i9,j0,j1⟩:=info_parts Be;go_loud (refine wpList_append_lies _ rfl (.tmp 47) (.tmp 53) 24 rfl w.heap.size 3 o2 _ 1 8 Ar d5 i9 j0 j1 rfl (by omega) _ (j+1) (Az (ED os)) rfl (e8.o.alloc _) ⟨c1.heap.size,0,none⟩ 1 1 [c.fin] rfl rfl (World.news_of_block (by rw[<- l6.o];exact wN c1 _)) (by intro u i5;simp at i5;subst i5;rfl) (by omega) (by unfold maxLen;omega) (by omega) (by simp;omega) (c1.heap.size+1) (by simp) ?_);intro g cap j8 i2 g8 m8 b5;clear d5 i9 j0 j1)
     have j2:Kp Aa w j8:=(e6.o.alloc _).grown g8 (λ k e q2=>absurd (e8.o.lt k e).1 (by omega))
     have g3:j8.ownsRow w.heap.size 3 1 (.slice (some ⟨g,0,none⟩) (j+1+1) cap) ((os++[c]).length+1) (Az (ED (os++[c]))):=by
      rw[endsL_snoc,Az,List.map_append,List.length_append,f0.o];exact i2
     have l1:=sE g3
     have k5:=sE j2
     clear i2 g8 m8 j2 g3
     go_wp2
     exact⟨⟨j+1,os++[c],c.fin,by omega,by go_num,n2,l0,l1,k5.o⟩,by simp only[intOf];omega⟩
  .have n6:¬ (j:Int)<(B:Int):=by omega
   obtain rfl:j=B:=by omega
   have d1:=X.o.done
   have a7:=C.o.ar.fits
   obtain⟨e3,j4,j5,o4⟩:=C8 a7 d1 (Nat.zero_le _)
   have f1:=sE d1
   have l3:=sE e3
   have m2:Sl (∀ i o,os[i]?=some o->x i 0=(o.g:Nat)):=⟨λ i o d6=>by have:=j5 i o d6;rwa [Nat.zero_add] at this⟩
   have a3:=sE j4
   have l7:Sl (∀ o∈os,o.tag=1):=⟨λ o d6=>(e3.mem d6).2.1⟩
   have S0:=C.o.Ac D
   obtain⟨E,F,b2⟩:=S0.head
   have n8:P.s<wr.heap.size:=Nat.lt_of_lt_of_le i1 D.size
   have Y:=sE S0
   have e5:Sl (∀ d (z:Nat->Nat) A,SpaceAt d P z A->Calls prog 89 #[.pointer (some P.s)] d λ e w'=>e=.returned (.int .i64 ((P.n/2:Nat):Int))/\w'=d):=⟨λ d z A r=>FE P z A d r⟩
   clear D e3 j4 j5 o4 d1 a7 S0 E F
   obtain⟨U,rfl⟩:∃ U:World,U=wr:=⟨_,rfl⟩
   go_wp2_with fail
   refine Br 6 (by kernel_rfl) (by kernel_rfl) ?_
   simp only[List.take_succ_cons,List.take_zero,List.drop_succ_cons,List.drop_zero]
   repeat (go_big_quiet_step (((go_at_call 89;with_reducible refine Calls.quiet_of_same (e5.o _ W f ?_);(first|exact Y.o|exact Y.o.Ac (Kr Aa _).drew|exact Y.o.Ac (Kp.Ah _)|exact Y.o.Ac ((Kp.Ah _).drewN _))))))
   refine wpQuiet_nil ?_
   intro _ hw'
   obtain⟨nq,e1⟩:=hw'
   subst e1
   go_wp2_with fail
   refine(ClearRun_int 0 ((P.n/2:Nat):Int) (P.n/2) P.b P.bq f _ (Y.o.Ac (Kp.Ah _)).bt).mono ?_
   rintro e o9 ⟨rfl,e2,f5⟩
   have d0:=(Y.o.Ac (Kp.Ah nq)).bits e2 f5
   have f4:Kp P.own U o9:=((Kp.Ah (S:=P.own) nq)).trans e2 (λ b _ J=>.inr (.inr J))
   obtain⟨b4,d2⟩:∃ b4,Ex f (P.n/2) 0 ((P.n/2:Nat):Int) false=b4:=⟨_,rfl⟩
   have k3:Sl (∀ t,t<P.n/2->b4 t=Ak (os.take 0) t):=⟨λ t b8=>by
    rw[<- d2,Ex,if_pos (by unfold Bz;rw [decide_eq_true_eq];omega),Ck]
    rw[if_pos (by omega)];rfl⟩
   rw[d2] at d0
   have l4:=sE d0
   have k6:=sE f4
   clear e2 f5 d0 f4 d2 b2
   go_wp2_with fail
   go_loopw [65] (λ o7 w'=>∃ (i l:Nat) (z:Nat->Nat) (A:Nat->Bool),i<=j/\o7=.int .i64 (i:Nat)/\Sl ((ED os)[i]?=some l)/\Sl (CX l (os.drop i) (P.n/2))/\Sl (BH z l (os.drop i) (P.n/2)=BH W 0 os (P.n/2))/\Sl (SpaceAt w' P z A)/\Sl (∀ t,t<P.n/2->A t=Ak (os.take i) t)/\Kp P.own U w') (λ y _=>j-(intOf y).toNat)
   case atStart=>exact ⟨0,0,W,b4,Nat.zero_le _,rfl,⟨rfl⟩,⟨l3.o⟩,⟨rfl⟩,⟨l4.o⟩,⟨k3.o⟩,k6.o⟩
   case round=>
    obtain⟨i,l,z,A,d5,rfl,n1,b6,b7,a8,g6,N⟩:=hrel
    have e7:=sE N
    obtain⟨I,f7,o0,n3,d4,f9⟩:=owns_num c6.o (by rw[endsL_len]) n1.o
    subst o0
    have g7:¬ P.own I:=λ r=>by
     have:=k8.o I (by unfold Sp.own at r;unfold Sp.all;omega)
     omega
    have M:=N.cell f9 g7
    have n4:I<wr.heap.size:=Nat.lt_of_lt_of_le d4 N.size
    have o1:w.heap.size<=wr.heap.size:=Nat.le_trans L.o.size N.size
    obtain⟨E,F,b2⟩:=a8.o.head
    have q7:P.s<wr.heap.size:=by omega
    have f0:=sE a3.o
    rw[a3.o]
    by_cases hij:i<j
    .have n5:(i:Int)<(j:Int):=by omega
     obtain⟨p,O⟩:∃ p,os[i]?=some p:=⟨os[i]'(by have:=a3.o;omega),by simp⟩
     obtain⟨b,o,rfl,g5,Z,p0,p1⟩:=f3.o i (by omega)
     have i7:=m2.o i p O
     rw[i7] at Z
     obtain⟨q8,q9,j6,j7⟩:=rising_step O b6.o
     have a1:=settle_step (W:=z) (e:=l) (H:=P.n/2) O
     have c9:Sl (BH (Bd z l (p.g-l)) p.fin (os.drop (i+1)) (P.n/2)=BH W 0 os (P.n/2)):=⟨a1.symm.trans b7.o⟩
     have l2:=sE j7
     have p9:p.g+p.sz<=P.n/2:=j6
     have a9:IntKind.i64.wrap ((p.g:Int)-(l:Int))=((p.g-l:Nat):Int):=by rw[IntKind.wrap_i64];omega
     have m1:=sE a9
     have k1:Sl ((ED os)[i+1]?=some p.fin):=⟨endsL_succ O⟩
     have m9:¬ P.own b:=l9.o (by omega) b rfl
     have a5:=N.cell (L.o.cell Z id) m9
     have p6:b<wr.heap.size:=by omega
     have l8:Sl (∀ t,Ak (os.take (i+1)) t=(Ak (os.take i) t||p.g==t)):=⟨λ t=>by
      rw[List.take_add_one,O,Ba]
      have m7:=l7.o p (List.mem_of_getElem? O)
      have:Ak ([p]) t=(p.g==t):=by simp[Ak,m7]
      rw[<- this];rfl⟩
     have l5:=sE (Set_int (p.g:Nat) (P.n/2) P.b P.bq A wr a8.o.bt)
     clear a1 i7 Z f9 N b7 b6 j6 j7 O E F a9
     go_wp2_with fail
     refine l5.o.mono ?_
     rintro e c2 ⟨rfl,b0,f6⟩
     have b3:=a8.o.bits b0 f6
     obtain⟨a0,d3⟩:∃ a0,Ex A (P.n/2) (p.g:Nat) 1 true=a0:=⟨_,rfl⟩
     have k4:Sl (∀ t,t<P.n/2->a0 t=Ak (os.take (i+1)) t):=⟨λ t b8=>by
      rw[<- d3,Ex,if_pos (by unfold Bz;rw [decide_eq_true_eq];omega),Ck,l8.o t,<- g6.o t b8]
      by_cases q:p.g=t
      .subst q;simp
      .have:¬ ((p.g:Int).toNat<=t/\t<(p.g:Int).toNat+(1:Int).toNat):=by simp;omega
       rw[if_neg this]
       simp[q]⟩
     rw[d3] at b3
     have p2:=sE b3
     have j3:∀ b,¬ P.own b->¬ b=P.bq:=λ b r e=>r (.inr (.inr e))
     have m3:=b0.cell M (j3 I g7)
     have k7:Sl (Kp P.own U c2):=⟨e7.o.trans b0 (λ b _ J=>.inr (.inr J))⟩
     have q5:=b0.size
     have q0:I<c2.heap.size:=by omega
     have c4:Sl (∀ d,Kp Aa c2 d->Calls prog 147 #[.pointer (some P.s),l,.int .i64 ((p.g-l:Nat):Int)] d (LaidGap P (Bd z l (p.g-l)) a0 d)):=⟨λ d R=>gap_any l (p.g-l) P z a0 d (b3.Ac R) (by omega)⟩
     have a9:=m1.o
     clear M a5 b0 f6 b3 d3 b2 j3
     go_wp2_with fail
     refine Br 11 (by kernel_rfl) (by kernel_rfl) ?_
     simp only[List.take_succ_cons,List.take_zero,List.drop_succ_cons,List.drop_zero]
     repeat (go_big_quiet_step (fail))
     refine wpQuiet_nil ?_
     intro _ hw'
     obtain⟨nq,e1⟩:=hw'
     subst e1
     try rw[a9]
     clear a9
     go_wp2_with fail
     refine(c4.o _ (Kp.Ah nq)).mono ?_
     rintro e e4 ⟨rfl,b1,a4⟩
     have c5:Sl (Kp P.own U e4):=⟨(k7.o.drewN nq).trans b1 (λ b _ J=>by rcases J with r|r;exact .inl r;exact .inr (.inl r))⟩
     have c8:=sE a4
     clear b1 a4 m3
     go_wp2
     exact⟨⟨i+1,p.fin,_,a0,by omega,by go_num,k1,l2,c9,c8,k4,c5.o⟩,by simp only[intOf];omega⟩
    .have n5:¬ (i:Int)<(j:Int):=by omega
     obtain rfl:i=j:=by omega
     have g9:os.drop i=[]:=List.drop_eq_nil_of_le (by have:=a3.o;omega)
     have i4:os.take i=os:=List.take_of_length_le (by have:=a3.o;omega)
     have a1:=b7.o
     have d8:=b6.o
     rw[g9] at a1 d8
     have p8:l<=P.n/2:=d8
     have c9:Sl (Bd z l (P.n/2-l)=BH W 0 os (P.n/2)):=⟨a1⟩
     have k2:Sl (∀ t,t<P.n/2->A t=Ak (Df 0 os (P.n/2)) t):=⟨λ t b8=>by rw[settle_starts,g6.o t b8,i4]⟩
     have c4:Sl (∀ d,Kp Aa wr d->Calls prog 147 #[.pointer (some P.s),l,.int .i64 ((P.n/2-l:Nat):Int)] d (LaidGap P (Bd z l (P.n/2-l)) A d)):=⟨λ d R=>gap_any l (P.n/2-l) P z A d (a8.o.Ac R) (by omega)⟩
     have K:=sE (e5.o wr z A a8.o)
     have k9:Sl ((P.n:Int)/2-(l:Int)=((P.n/2-l:Nat):Int)):=⟨by omega⟩
     clear a1 d8 g9 b7 b6 N i4 E F b2
     go_wp2_with fail
     refine K.o.mono ?_
     rintro e c2 ⟨rfl,rfl⟩
     go_wp2_with fail
     rw[k9.o]
     refine(c4.o _ (Kr _ _)).mono ?_
     rintro e e4 ⟨rfl,b1,a4⟩
     have c5:Sl (Kp P.own U e4):=⟨e7.o.trans b1 (λ b _ J=>by rcases J with r|r;exact .inl r;exact .inr (.inl r))⟩
     have c8:=sE a4
     clear b1 a4 M
     go_wp2
     exact bodyPost_ret (v:=.int .i64 0) (by simp[results,results100,go_sem]) rfl (.inr ⟨os,f1.o,rfl,(L.o.Aw _).trans c5.o (λ _ _ r=>r),A,by rw[<- c9.o];exact c8.o,settleR_cells n7 C.o.ar.fits f1.o,k2.o⟩)

theorem SSettle_any(P:Sp)(W:Nat->Nat)(cs:List Cel)(v:Value)(a:Nat)(x:Nat->Nat->Int)(w:World)(o:AQ w P W cs)
  (r:Bw 1 w v a x) (n:a<=1000) (q:0<a->∀ b,v.ownBlock=some b->¬ P.own b):
  Calls prog 100 #[.pointer (some P.s),v] w (SSettlePost P W cs (λ i=>x i 0) a w):=by
 obtain⟨f,l,m,p⟩:=o
 refine(SSettle_to P W f v a x w l r n q).mono λ e w' c=>?_
 rcases c with ⟨d,g,j,k⟩|c
 .exact .inl ⟨d,g,⟨f,j,m,p⟩,k⟩
 .exact .inr c

end

end Go.Proofs.YtfkedlgpgmaemaaGreatDoor
