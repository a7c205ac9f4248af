/-
  The law CensusTells, walked.
-/
import Derived.Test.YtfkedlgpgmaemaaGreatDoorQbx
import Derived.Test.YtfkedlgpgmaemaaGreatDoorQcn
import Derived.Test.YtfkedlgpgmaemaaGreatDoorQco
import Derived.Test.YtfkedlgpgmaemaaGreatDoorQau
set_option linter.unusedVariables false
set_option maxHeartbeats 16000000
namespace Go.Proofs.YtfkedlgpgmaemaaGreatDoor
open Tryz
open Go.RowKit

theorem ints_of_at{w:World}{v:Value}{e:Nat}{x:Nat->Nat->Int}(f:Bw 1 w v e x):IntsIn w v ((List.range e).map λ i=>x i 0):=by
 obtain⟨a,c,rfl,m⟩:=f
 refine⟨a,c,by simp,λ i d=>?_⟩
 rw[List.length_map,List.length_range] at d
 obtain⟨b,o,g,k,l⟩:=m i d
 refine⟨b,o,g,k,λ j p=>?_⟩
 obtain rfl:j=0:=by omega
 have n:((List.range e).map λ i=>x i 0).getD i 0=x i 0:=by simp[List.getD,d]
 dsimp only
 rw[n]
 exact l 0 p

theorem ints_range{w:World}{v:Value}{xs:List Int}(e:IntsIn w v xs):∀ x∈xs,-9223372036854775808<=x/\x<=9223372036854775807:=λ x j=>by
 obtain⟨i,d⟩:=List.getElem?_of_mem j
 obtain⟨a,c,-,g⟩:=e
 obtain⟨b,o,-,-,f⟩:=g i (gE.1 d).1
 have:=(f 0 (by omega)).2
 dsimp only at this
 rwa [List.getD_eq_getElem?_getD,d] at this

theorem intsIn_at{w:World}{a:Option Addr}{n c:Nat}{xs:List Int}(f:IntsIn w (.slice a n c) xs){i:Nat}{x:Int}(d:xs[i]?=some x):∃ b o,a=some ⟨b,o,none⟩/\w.cell? ⟨b,o+i,none⟩=some (.int .i64 x):=by
 obtain⟨a',l,e,k⟩:=f
 obtain⟨b,o,g,-,j⟩:=k i (gE.1 d).1
 have:=(j 0 (by omega)).1
 dsimp only at this
 rw[List.getD_eq_getElem?_getD,d,show o+(i*1+0)=o+i by omega] at this
 injection e with e1
 exact⟨b,o,e1.trans g,this⟩

theorem allObj_step{cs:List Cel}{zs:List Int}{j:Nat}{z:Int}(h:zs[j]?=some z):Cy cs (zs.take (j+1))=(Cy cs (zs.take j)&&Er cs z):=by
 unfold Cy
 rw[List.take_add_one,h,List.all_append]
 simp

set_option maxRecDepth 20000 in
theorem tells_walk(n:Int)(c6 d7 w4 w5:Value)(a8:Int)(b3:Nat)(xs:List TypR)(b2:Nat)(d g i o1 y:Nat->Int)(u:Nat->Value)(m:Nat->Nat)(a2:Nat)(w8:Nat->Nat->Int)(ns:Nat)(T:Nat->Nat)(w:World)(hF:Au w)(F:A8 w c6 xs)(a9:FT w d7 b2 d g i o1 y u m)
  (V:xs.length<=17592186044416) (d2:Cw xs) (s5:b2<=17592186044416) (v0:∀ j,j<b2->0<=y j/\y j<=18446744073709551615) (r3:AtsAt w b2 u m) (v5:Bw 1 w w4 a2 w8) (G2:a2<=17592186044416) (r7:BytesIn w w5 ns T) (G1:ns<=140737488355328) (s2:-9223372036854775808<=a8) (s3:a8<9223372036854775808) (t3:b3<256):
  Calls prog 3 #[.int .i64 n,c6,d7,w4,w5,.int .i64 a8,.int .u8 b3] w (RK (.bool true) w):=by
 have D1:=sE hF
 have c9:Sl (∀ p,Kp Aa w p->Calls prog 9 #[] p (RK (.bool true) p)):=⟨λ p B=>alive39 p (hF.Ac B)⟩
 have j0:=sE (Heavy9_any n c6 d7 xs b2 d g i o1 y u m w F a9 V s5)
 have p6:Sl (b2<=60->(∀ j,j<b2->m j<=300)->Calls prog 10 #[.int .i64 n,c6,d7] w (Ea n xs c6 w)):=⟨λ i2 i3=>Played_any n c6 d7 xs b2 d g i o1 y u m w hF F V d2 a9 i2 v0 r3 i3⟩
 have B7:∃ a l c,c6=.slice a l c:=by obtain⟨a,c,a4,-⟩:=F;exact ⟨_,_,_,a4⟩
 have B8:∃ a l c,d7=.slice a l c:=by obtain⟨a,c,a4,-⟩:=a9;exact ⟨_,_,_,a4⟩
 obtain⟨z4,C0,z9,rfl⟩:=B7
 obtain⟨D2,G4,E0,rfl⟩:=B8
 have g0:=sE (ints_of_at v5)
 obtain⟨e0,c4⟩:∃ z,(List.range a2).map (λ i=>w8 i 0)=z:=⟨_,rfl⟩
 have k5:Sl (e0.length=a2):=⟨by rw[<- c4];simp⟩
 rw[c4] at g0
 have o6:=sE r7
 obtain⟨z5,A0,rfl,-⟩:=v5
 obtain⟨D3,E1,rfl,-⟩:=r7
 clear hF F a9 d2 v0 r3 V s5 c4
 by_cases hs5:a2+ns<=40
 case neg=>
  have C2:decide ((40:Int)<(a2:Int)+(ns:Int))=true:=dT (by omega)
  clear hs5
  go_enter func3,ntmps3
  go_wp2_with fail
  refine j0.o.mono ?_
  rintro e w2 ⟨t,rfl,rfl,b0⟩
  clear b0
  cases t
  all_goals
   go_wp2_with fail
   refine(c9.o _ (Kr _ _)).mono ?_
   rintro e A ⟨rfl,d5⟩
   go_wp2
   go_ret
   exact⟨rfl,d5⟩
 case pos=>
 have C2:decide ((40:Int)<(a2:Int)+(ns:Int))=false:=dF (by omega)
 go_enter func3,ntmps3
 go_wp2_with fail
 refine j0.o.mono ?_
 rintro e w2 ⟨t,rfl,rfl,b0⟩
 cases t with
 |true=>
  clear b0
  go_wp2_with fail
  refine(c9.o _ (Kr _ _)).mono ?_
  rintro e A ⟨rfl,d5⟩
  go_wp2
  go_ret
  exact⟨rfl,d5⟩
 |false=>
  obtain⟨-,-,i2,i3⟩:=b0 rfl
  have p7:=sE (p6.o i2 i3)
  clear i2 i3 b0 p6
  go_wp2_with fail
  refine p7.o.mono ?_
  rintro e A (⟨rfl,d5⟩|⟨P,e6,q,W,cs,rfl,M,A6,A7,A3⟩)
  .have Y:=sE d5
   clear d5
   go_wp2_with fail
   refine(c9.o _ Y.o).mono ?_
   rintro e w6 ⟨rfl,e3⟩
   go_wp2
   go_ret
   exact⟨rfl,Y.o.then' e3⟩
  .obtain ⟨f,c2,U,c3⟩:=M.sp
   have Y:Sl (Kp Aa _ A):=⟨M.kb.new'⟩
   have d3:cs≠[]:=λ e=>by
    have:=U.tl
    rw[e] at this
    have r2:0=P.n/2:=this
    omega
   have e2:∀ x∈P.ts,x.m<18446744073709551616:=M.ms
   have r4:P.n<=65536:=c2.ar.small
   have i0:=M.ty.keepBase M.kb
   have s1:=M.few
   have r8:cs.length<=65536:=by have:=BG U.tl;omega
   have f9:Sl (∀ p v n T,Kp Aa A p->n<=65536->BytesIn p v n T->Calls prog 11 #[.pointer (some P.s),v] p λ e w'=>∃ a c,e=.returned (.slice a (BD (Aj cs) T n).length c)/\w'.ownsRow p.heap.size 3 1 (.slice a (BD (Aj cs) T n).length c) (BD (Aj cs) T n).length (Az (BD (Aj cs) T n))/\Kp Aa p w'):=⟨λ p v n T B s8 B6=>Roots20_at P cs p ⟨W,f,c2.Ac B,U,c3⟩ d3 v n T s8 B6⟩
   have p4:Sl (∀ p z,Kp Aa A p->Calls prog 12 #[.pointer (some e6),.int .i64 z] p (RK (.bool (Er cs z)) p)):=⟨λ p z B=>DObject_at P W cs e6 q _ p z (M.dc.Ac B) U (i0.Ac B) (by omega) M.ms r8⟩
   have o5:Sl (∀ p,Kp Aa A p->_):=⟨λ p B=>DAll_at P W cs e6 q _ p (M.dc.Ac B) U (i0.Ac B) (by omega) M.ms⟩
   have i9:Sl (∀ p cap,Kp Aa A p->_):=⟨λ p cap B=>DEdges_at P W cs q cap _ p (M.dc.row.keep B id) U (i0.Ac B) (by omega) M.ms⟩
   have e9:Sl (∀ p v zs,Kp Aa A p->IntsIn p v zs->zs.length<=65536->_):=⟨λ p v zs B C V=>CKeeps_any (c2.Ac B) U d3 c3 e2 C V⟩
   have f2:Sl (∀ p v zs,Kp Aa A p->IntsIn p v zs->zs.length<=65536->_):=⟨λ p v zs B C V=>CTypes_any (c2.Ac B) U d3 c3 e2 s1 C V⟩
   have f0:Sl (∀ p v zs,Kp Aa A p->IntsIn p v zs->zs.length<=65536->_):=⟨λ p v zs B C V=>CLost_any (c2.Ac B) U d3 c3 e2 C V⟩
   have f1:Sl (∀ p v zs g,Kp Aa A p->-9223372036854775808<=g->g<9223372036854775808->IntsIn p v zs->zs.length<=65536->_):=⟨λ p v zs g B F a9 C V=>COver_any (c2.Ac B) U d3 c3 e2 F a9 C V⟩
   have i7:Sl (∀ p rs la lc ea ec ra rc,(∀ g∈rs,CL cs g)->rs.length<=65536->Du p (.slice la cs.length lc) cs->Dl p (.slice ea (AP P.ts W cs).length ec) (AP P.ts W cs)->AO p (.slice ra rs.length rc) rs->AskD cs (AP P.ts W cs) rs (P.n/2) la lc ea ec ra rc p):=⟨λ p rs la lc ea ec ra rc t2 V F a9 A4=>AskD.of U r4 c3 t2 V F a9 A4⟩
   have f3:Sl (P.n/2<=65536):=⟨by omega⟩
   have p3:Sl (∀ g,CL cs g->g<65536):=⟨λ g a4=>by have:=CV U a4;omega⟩
   obtain⟨r1,r9,s0⟩:=M.dc.head
   have o8:=sE r9
   have y1:=sE s0
   obtain⟨es,m2⟩:∃ es,AP P.ts W cs=es:=⟨_,rfl⟩
   obtain⟨H,l5⟩:∃ H,P.n/2=H:=⟨_,rfl⟩
   obtain⟨G8,t9⟩:∃ s,P.s=s:=⟨_,rfl⟩
   obtain⟨z3,l6⟩:∃ n,P.n=n:=⟨_,rfl⟩
   rw[m2,l5] at e9 f2 f0 f1 i7
   rw[l5] at f3
   rw[m2,l6] at i9
   rw[l6] at o8
   rw[t9] at f9 e9 f2 f0 f1 ⊢
   obtain⟨C7,l4⟩:∃ n,cs.length=n:=⟨_,rfl⟩
   obtain⟨D0,g5⟩:∃ n,es.length=n:=⟨_,rfl⟩
   clear c2 U c3 d3 e2 M A6 A7 A3 p7 j0 r9 s0 i0 s1 r8 r4 m2 l5 t9 l6
   go_wp2_with fail
   refine(f9.o A _ ns T (Kr _ _) (by omega) (o6.o.Ac Y.o)).mono ?_
   rintro e w6 ⟨ra,rc,rfl,a1,e3⟩
   have q3:Sl (Kp Aa A w6):=⟨e3⟩
   have l9:∀ g∈BD (Aj cs) T ns,g<65536:=λ g m3=>p3.o g (roots_obj g m3)
   have r5:(BD (Aj cs) T ns).length<=ns:=rootsOf_len (Aj cs) T ns
   obtain⟨rs,t8⟩:∃ rs,BD (Aj cs) T ns=rs:=⟨_,rfl⟩
   rw[t8] at a1 l9 r5 ⊢
   obtain⟨c5,d4⟩:∃ c5,rs.length=c5:=⟨_,rfl⟩
   rw[d4] at a1 r5 ⊢
   rw[natVs_int] at a1
   have k0:=sE a1
   have q1:=sE (g0.o.Ac (Y.o.then' e3))
   have d0:Sl (∀ x∈rs.map (λ x:Nat=>(x:Int))++e0,-9223372036854775808<=x/\x<=9223372036854775807):=⟨λ x C=>by
    rcases List.mem_append.1 C with a4|a4
    .obtain ⟨k,a5,rfl⟩:=List.mem_map.1 a4
     have:=l9 k a5
     omega
    .exact ints_range g0.o x a4⟩
   have a0:(rs.map (λ x:Nat=>(x:Int))++e0).length=c5+a2:=by rw[List.length_append,List.length_map,d4,k5.o]
   obtain⟨zs,c4⟩:∃ zs,rs.map (λ x:Nat=>(x:Int))++e0=zs:=⟨_,rfl⟩
   obtain⟨D,n3⟩:∃ D,c5+a2=D:=⟨_,rfl⟩
   have G3:D<=40:=by omega
   have q2:=sE c4
   have k4:Sl (c5+e0.length=D):=⟨by rw[k5.o];exact n3⟩
   rw[c4] at d0 a0
   rw[n3] at a0
   have a3:Sl (zs.length=D):=⟨a0⟩
   clear a1 e3 l9 d4 t8 g0 c4 n3 a0 o6
   go_wp2_with (at_builtin;obtain ⟨a6,J,N,O,R⟩:=info_parts Be;go_loud (refine Cv _ rfl (.tmp 64) (.tmp 65) 24 rfl 3 a6 Ar J N O R A.heap.size (.slice ra c5 rc) c5 _ rfl k0.o (.slice z5 a2 A0) e0 rfl q1.o (by have:=k4.o;omega) q3.o.size ?_);intro G9 c7 g9 s4;rw [q2.o,k4.o] at g9;obtain ⟨b9,c0,rfl⟩:=Aq g9;have p0:Sl (IntsIn c7 (.slice b9 D c0) zs):=⟨Cz (by rw[a3.o];exact g9) d0.o⟩;have q4:Sl (Kp Aa A c7):=⟨q3.o.grown s4 (λ k e a5=>by have:=(Ad k0.o e).1;omega)⟩;clear J N O R g9 s4)
   have t4:BytesIn (c7.alloc (.cells #[.int .u8 b3] 5)) (.slice (some ⟨c7.heap.size,0,none⟩) 1 1) 1 (λ _=>b3):=⟨_,_,rfl,λ i J=>by
    have r2:i=0:=by omega
    subst r2
    exact⟨c7.heap.size,0,rfl,by simp only[World.cell?,wN c7 _];rfl,t3⟩⟩
   refine(f9.o _ _ 1 (λ _=>b3) (q4.o.alloc _) (by omega) t4).mono ?_
   rintro e i4 ⟨G5,G7,rfl,a1,n4⟩
   have k6:Sl (Kp Aa A i4):=⟨(q4.o.alloc _).then' n4⟩
   have j1:=sE (p0.o.Ac (((Kr Aa c7).alloc _).then' n4))
   have j9:Sl (∀ g∈BD (Aj cs) (λ _=>b3) 1,g<65536):=⟨λ g m3=>p3.o g (roots_obj g m3)⟩
   have b5:=rootsOf_len (Aj cs) (λ _=>b3) 1
   obtain⟨os,t5⟩:∃ rs,BD (Aj cs) (λ _=>b3) 1=rs:=⟨_,rfl⟩
   rw[t5] at a1 j9 b5 ⊢
   obtain⟨a7,m8⟩:∃ n,os.length=n:=⟨_,rfl⟩
   rw[m8] at a1 b5 ⊢
   have p8:=sE a1
   have p5:=sE m8
   clear t4 a1 n4 t5 m8 p0 k0 q1 f9 q2 k4 k5
   go_upto_region 8 with fail
   go_cut [77] from 71 to 76 (λ x77 o4=>x77=.bool (decide (0<a7)&&decide (a8<0))/\i4=o4)
   case first=>
    by_cases t2:0<a7
    .have B4:(0:Int)<(a7:Int):=by omega
     by_cases s8:a8<0
     .go_wp2_with fail
      go_meet
      exact⟨by rw[dT (show 0<a7 by omega),dT (show a8<0 by omega)];rfl,rfl⟩
     .go_wp2_with fail
      go_meet
      exact⟨by rw[dT (show 0<a7 by omega),dF (show ¬ a8<0 by omega)];rfl,rfl⟩
    .have B4:¬ (0:Int)<(a7:Int):=by omega
     go_wp2_with fail
     go_meet
     exact⟨by rw[dF (show ¬ 0<a7 by omega)];rfl,rfl⟩
   case rest=>
   obtain⟨rfl,rfl⟩:=hcut
   obtain⟨z7,m1⟩:∃ b,(decide (0<a7)&&decide (a8<0))=b:=⟨_,rfl⟩
   have i8:=sE m1
   rw[m1]
   clear m1
   go_upto_if 77 with fail
   go_cut [5,77] from 78 to 80 (λ x5 _ o4=>Sl (∃ c1:Int,x5=.int .i64 c1/\-9223372036854775808<=c1/\c1<9223372036854775808)/\i4=o4)
   case first=>
    cases z7 with
    |true=>
     obtain⟨C1,m5⟩:∃ o,os[0]?=some o:=⟨_,List.getElem?_eq_getElem (by
      have F:=i8.o
      rw[Bool.and_eq_true,decide_eq_true_iff] at F
      rw[p5.o]
      exact F.1)⟩
     obtain⟨G6,B5,E3⟩:=Cu p8.o m5
     subst B5
     have F6:=j9.o C1 (List.mem_of_getElem? m5)
     have t3:(0:Int)<(a7:Int):=by
      have F:=i8.o
      rw[Bool.and_eq_true,decide_eq_true_iff] at F
      omega
     clear m5
     go_wp2_with fail
     go_meet
     exact⟨⟨_,rfl,by omega,by omega⟩,rfl⟩
    |false=>
     go_wp2_with fail
     go_meet
     exact⟨⟨_,rfl,s2,s3⟩,rfl⟩
   case rest=>
   obtain⟨⟨c1,rfl,B1,B2⟩,rfl⟩:=hcut
   clear i8 p8 j9 p5 b5 s2 s3
   go_wp2_with fail
   go_loopw [20,21] (λ x20 x21 wr=>∃ j:Nat,x21=.int .i64 (j:Nat)/\j<=D/\x20=.bool (Cy cs (zs.take j))/\Kp Aa i4 wr) (λ _ x21 _=>D-(intOf x21).toNat)
   case atStart=>exact ⟨0,rfl,Nat.zero_le _,rfl,Kr _ _⟩
   case round=>
    obtain⟨j,rfl,G0,rfl,a5⟩:=hrel
    have f4:=sE a5
    by_cases hjl:j<D
    .have B3:(j:Int)<(D:Int):=by omega
     obtain⟨z,n2⟩:∃ z,zs[j]?=some z:=⟨_,List.getElem?_eq_getElem (by rw[a3.o];exact hjl)⟩
     obtain⟨H6,H7,B9,E7⟩:=intsIn_at (j1.o.Ac a5) n2
     subst B9
     have k1:=sE (allObj_step (cs:=cs) n2)
     obtain⟨t,b0⟩:∃ t,Cy cs (zs.take j)=t:=⟨_,rfl⟩
     rw[b0] at k1 ⊢
     clear b0 n2 a5
     cases t with
     |false=>
      go_wp2_with fail
      exact⟨⟨j+1,by go_num,by omega,by rw[k1.o];rfl,f4.o⟩,by simp only[intOf];omega⟩
     |true=>
      go_wp2_with fail
      refine(p4.o wr z (k6.o.then' f4.o)).mono ?_
      rintro e e7 ⟨rfl,v6⟩
      have e1:=sE (f4.o.then' v6)
      clear v6
      go_wp2_with fail
      exact⟨⟨j+1,by go_num,by omega,by rw[k1.o,Bool.true_and],e1.o⟩,by simp only[intOf];omega⟩
    .obtain rfl:D=j:=by omega
     have B3:¬ (D:Int)<(D:Int):=by omega
     obtain⟨w9,g4⟩:∃ b,Cy cs zs=b:=⟨_,rfl⟩
     rw[show zs.take D=zs by rw[List.take_of_length_le (by rw[a3.o];omega)],g4]
     have y0:=sE g4
     obtain⟨d6,n0⟩:∃ r,natL zs=r:=⟨_,rfl⟩
     have y3:=sE n0
     obtain⟨Q,l7⟩:∃ q,reachL es d6 H=q:=⟨_,rfl⟩
     have b6:=sE l7
     have a0:zs.length<=65536:=by rw[a3.o];omega
     have e1:Sl (∀ p v,Kp Aa A p->IntsIn p v zs->_):=⟨λ p v B C=>e9.o p v zs B C a0⟩
     have k2:Sl (∀ p v,Kp Aa A p->IntsIn p v zs->_):=⟨λ p v B C=>f2.o p v zs B C a0⟩
     have j7:Sl (∀ p v,Kp Aa A p->IntsIn p v zs->_):=⟨λ p v B C=>f0.o p v zs B C a0⟩
     have j8:Sl (∀ p v,Kp Aa A p->IntsIn p v zs->_):=⟨λ p v B C=>f1.o p v zs c1 B B1 B2 C a0⟩
     rw[g4,n0,l7] at e1 k2 j7 j8
     have j2:=sE (j1.o.Ac a5)
     have y5:Sl (Kp Aa A wr):=⟨k6.o.then' a5⟩
     obtain⟨e7,rfl⟩:∃ e7,e7=wr:=⟨_,rfl⟩
     clear a5 e9 f2 f0 f1 j1 k6 f4 g4 n0 l7 a0 hjl
     go_wp2_with (at_builtin;obtain ⟨a6,J,N,O,R⟩:=info_parts Be;go_loud (refine Cv _ rfl (.const (.slice none 0 0)) (.tmp 98) 24 rfl 3 a6 Ar J N O R e7.heap.size (.slice none 0 0) 0 [] rfl (World.ownsRow_nil _ _ _ _) (.slice b9 D c0) zs rfl j2.o (by rw[a3.o];omega) (Nat.le_refl _) ?_);intro Z E L I;rw [Nat.zero_add,List.nil_append] at L;have X:Sl (IntsIn E Z zs):=⟨Cz L d0.o⟩;have KF:Sl (Kp Aa A E):=⟨y5.o.then' ((Kr Aa _).grown I (λ k e _=>by cases e))⟩;have G:Sl (Kp Aa e7 E):=⟨(Kr Aa _).grown I (λ k e _=>by cases e)⟩;clear J N O R L I)
     refine(e1.o E Z KF.o X.o).mono ?_
     rintro e d8 ⟨D4,z6,D5,D6,rfl,s9,v1,n5⟩
     have y6:Sl (Kp Aa A d8):=⟨KF.o.then' n5⟩
     have j3:=sE (j2.o.Ac (G.o.then' n5))
     clear n5 X KF G e1 j2
     go_wp2_with (at_builtin;obtain ⟨a6,J,N,O,R⟩:=info_parts Be;go_loud (refine Cv _ rfl (.const (.slice none 0 0)) (.tmp 105) 24 rfl 3 a6 Ar J N O R d8.heap.size (.slice none 0 0) 0 [] rfl (World.ownsRow_nil _ _ _ _) (.slice b9 D c0) zs rfl j3.o (by rw[a3.o];omega) (Nat.le_refl _) ?_);intro Z E L I;rw [Nat.zero_add,List.nil_append] at L;have X:Sl (IntsIn E Z zs):=⟨Cz L d0.o⟩;have KF:Sl (Kp Aa A E):=⟨y6.o.then' ((Kr Aa _).grown I (λ k e _=>by cases e))⟩;have G:Sl (Kp Aa d8 E):=⟨(Kr Aa _).grown I (λ k e _=>by cases e)⟩;clear J N O R L I)
     refine(k2.o E Z KF.o X.o).mono ?_
     rintro e d9 ⟨D7,z8,D8,D9,rfl,t0,v2,n6⟩
     have y9:Sl (Kp Aa A d9):=⟨KF.o.then' n6⟩
     have q5:Sl (Kp Aa d8 d9):=⟨G.o.then' n6⟩
     have j4:=sE (j3.o.Ac q5.o)
     clear n6 X KF G k2 j3
     go_wp2_with (at_builtin;obtain ⟨a6,J,N,O,R⟩:=info_parts Be;go_loud (refine Cv _ rfl (.const (.slice none 0 0)) (.tmp 112) 24 rfl 3 a6 Ar J N O R d9.heap.size (.slice none 0 0) 0 [] rfl (World.ownsRow_nil _ _ _ _) (.slice b9 D c0) zs rfl j4.o (by rw[a3.o];omega) (Nat.le_refl _) ?_);intro Z E L I;rw [Nat.zero_add,List.nil_append] at L;have X:Sl (IntsIn E Z zs):=⟨Cz L d0.o⟩;have KF:Sl (Kp Aa A E):=⟨y9.o.then' ((Kr Aa _).grown I (λ k e _=>by cases e))⟩;have G:Sl (Kp Aa d9 E):=⟨(Kr Aa _).grown I (λ k e _=>by cases e)⟩;clear J N O R L I)
     refine(j7.o E Z KF.o X.o).mono ?_
     rintro e e8 ⟨E6,E4,E2,rfl,t1,v3,e4⟩
     have z2:Sl (Kp Aa A e8):=⟨KF.o.then' e4⟩
     have y7:Sl (Kp Aa d8 e8):=⟨q5.o.then' (G.o.then' e4)⟩
     have z0:Sl (Kp Aa d9 e8):=⟨G.o.then' e4⟩
     have j5:=sE (j4.o.Ac (G.o.then' e4))
     clear e4 X KF G j7 j4
     go_wp2_with (at_builtin;obtain ⟨a6,J,N,O,R⟩:=info_parts Be;go_loud (refine Cv _ rfl (.const (.slice none 0 0)) (.tmp 121) 24 rfl 3 a6 Ar J N O R e8.heap.size (.slice none 0 0) 0 [] rfl (World.ownsRow_nil _ _ _ _) (.slice b9 D c0) zs rfl j5.o (by rw[a3.o];omega) (Nat.le_refl _) ?_);intro Z E L I;rw [Nat.zero_add,List.nil_append] at L;have X:Sl (IntsIn E Z zs):=⟨Cz L d0.o⟩;have KF:Sl (Kp Aa A E):=⟨z2.o.then' ((Kr Aa _).grown I (λ k e _=>by cases e))⟩;have G:Sl (Kp Aa e8 E):=⟨(Kr Aa _).grown I (λ k e _=>by cases e)⟩;clear J N O R L I)
     refine(j8.o E Z KF.o X.o).mono ?_
     rintro e c8 ⟨F0,F3,F1,F2,rfl,m4,v4,e5⟩
     have b7:Sl (Kp Aa A c8):=⟨KF.o.then' e5⟩
     have y8:Sl (Kp Aa d8 c8):=⟨y7.o.then' (G.o.then' e5)⟩
     have z1:Sl (Kp Aa d9 c8):=⟨z0.o.then' (G.o.then' e5)⟩
     have p1:=sE (j5.o.Ac (G.o.then' e5))
     clear e5 X KF G j8 j5
     cases w9 with
     |false=>
      obtain⟨rfl,rfl⟩:=s9.o rfl
      obtain⟨rfl,rfl⟩:=t0.o rfl
      obtain⟨rfl,rfl,rfl⟩:=t1.o rfl
      obtain⟨rfl,rfl⟩:=m4.o rfl
      go_wp2_with fail
      refine(c9.o _ (Y.o.then' b7.o)).mono ?_
      rintro e i5 ⟨rfl,b1⟩
      go_wp2
      go_ret
      exact⟨rfl,Y.o.then' (b7.o.then' b1)⟩
     |true=>
      obtain⟨rfl,t6⟩:=v1.o rfl
      obtain⟨rfl,t7⟩:=v2.o rfl
      obtain⟨rfl,rfl,rfl⟩:=v3.o rfl
      have f7:=sE (t6.Ac y8.o)
      have f8:=sE (t7.Ac z1.o)
      obtain⟨i1,n1⟩:=E8 y0.o
      rw[y3.o] at i1 n1
      have d4:d6.length=D:=by rw[<- a3.o,i1,List.length_map]
      have p2:Sl (AO c8 (.slice b9 D c0) d6):=⟨CB p1.o i1⟩
      have q0:=sE n1
      have d1:=sE d4
      have g2:=b7.o.cell o8.o id
      have g3:=b7.o.cell y1.o id
      obtain⟨l0,g6⟩:∃ l,(keepsL cs es d6 Q Q).map toI=l:=⟨_,rfl⟩
      obtain⟨l3,g8⟩:∃ l,(CJ cs Q 64).map toI=l:=⟨_,rfl⟩
      rw[g6] at f7
      rw[g8] at f8
      have A5:z6=l0.length:=by obtain⟨_,_,e,-⟩:=f7.o;injection e
      have B0:z8=l3.length:=by obtain⟨_,_,e,-⟩:=f8.o;injection e
      subst A5 B0
      have F7:l0.length<=65536:=by
       rw[<- g6,List.length_map]
       unfold keepsL
       rw[List.length_map,<- b6.o]
       exact Nat.le_trans (Fq _ _) f3.o
      have F8:l3.length<=64:=by rw[<- g8,List.length_map];exact typesD_len cs Q 64
      have y2:=sE g6
      have y4:=sE g8
      clear t6 t7 v1 v2 v3 s9 t0 t1 i1 n1 d4 g6 g8 p1
      go_wp2_with fail
      refine wp_region_held_drew (S:=λ w'=>w'.cell? e6=some (.slice (some ⟨q,0,none⟩) z3 r1)/\w'.cell? ⟨e6,1,none⟩=some (.slice z4 C0 z9)) (by kernel_rfl) ?_ (λ o2=>?_)
      .exact ⟨g2,g3⟩
      refine Ap 0 ?_;refine Ap 2 ?_;refine Ap 3 ?_;refine Ap 4 ?_;refine Ap 5 ?_;refine Ap 6 ?_;refine Ap 7 ?_;refine Ap 8 ?_;refine Ap 9 ?_
      try simp only[AB]
      refine Bp [1] ?_
      refine Ag rfl (λ K hK=>?_)
      go_simp
      go_at_call 17
      (with_reducible refine(o5.o _ (b7.o.then' (Kr _ _).drew)).mono ?_)
      rintro e i5 ⟨H0,rfl,m6,b1⟩
      have g1:Sl (Kp Aa c8 i5):=⟨(Kr Aa c8).drew.then' b1⟩
      obtain⟨ea,ec,rfl⟩:=Aq m6
      have o7:=sE (Du.Bc m6)
      refine hK _ _ ?_ (λ o2=>?_)
      .exact ⟨Ae g1.o g2,Ae g1.o g3⟩
      clear hK K
      try simp only[AB]
      refine Bp [10] ?_
      refine Ag rfl (λ K hK=>?_)
      go_simp
      go_at_call 18
      (with_reducible refine(i9.o _ r1 (b7.o.then' g1.o)).mono ?_)
      rintro e b4 ⟨H1,rfl,m7,n7⟩
      have b8:Sl (Kp Aa c8 b4):=⟨g1.o.then' n7⟩
      obtain⟨A1,A2,rfl⟩:=Aq m7
      have o9:=sE (Dl.Bc m7)
      refine hK _ _ ?_ (λ o2=>?_)
      .exact ⟨Ae b8.o g2,Ae b8.o g3⟩
      clear hK K
      try simp only[AB]
      refine Ap 11 ?_;refine Ap 12 ?_
      try simp only[AB]
      refine wpAnyH_done (by kernel_rfl) ?_ _
      have m0:=i7.o b4 d6 ea ec A1 A2 b9 c0 q0.o (by rw[d1.o];omega) (o7.o.Ac n7) o9.o (by rw[d1.o];exact p2.o.Ac b8.o)
      have i6:=sE m0
      have f5:=sE m0.lost
      rw[d1.o,b6.o,l4,g5] at f5
      obtain⟨ln,s7⟩:∃ n,(Cx cs Q).length=n:=⟨_,rfl⟩
      obtain⟨w3,s6⟩:∃ n,szC (Cx cs Q)=n:=⟨_,rfl⟩
      rw[s7,s6] at f5 ⊢
      clear m0 s7 s6 m6 m7 b1 n7 o9 o7 i7 i9 o5 p2 q0 o2 g2 g3
      go_wp2_with fail
      with_reducible refine f5.o.mono ?_
      rintro e C3 ⟨rfl,n8⟩
      have q6:Sl (Kp Aa b4 C3):=⟨n8⟩
      have j6:=sE ((i6.o.Ac n8).keeps)
      rw[d1.o,b6.o,l4,g5] at j6
      clear n8 f5
      have F4:((ln:Int) !=(ln:Int))=false:=by simp
      have F5:((w3:Int) !=(w3:Int))=false:=by simp
      go_wp2_with fail
      with_reducible refine j6.o.mono ?_
      rintro e C4 ⟨H2,rfl,d2,v7⟩
      rw[y2.o] at d2
      have k7:Sl (Kp Aa b4 C4):=⟨q6.o.then' v7⟩
      go_wp2_with fail
      with_reducible refine(FP l0 _ _ _ (f7.o.Ac (b8.o.then' k7.o)) d2 (by omega)).mono ?_
      rintro e wN ⟨rfl,v8⟩
      have k8:Sl (Kp Aa b4 wN):=⟨k7.o.then' v8⟩
      have k3:=sE ((i6.o.Ac k8.o).types)
      rw[d1.o,b6.o,l4,g5] at k3
      clear d2 v7 v8 j6 k7 q6 f7
      go_wp2_with fail
      with_reducible refine k3.o.mono ?_
      rintro e C5 ⟨H3,rfl,l8,v9⟩
      rw[y4.o] at l8
      have k9:Sl (Kp Aa b4 C5):=⟨k8.o.then' v9⟩
      go_wp2_with fail
      with_reducible refine(SameShares_yes l3 _ _ _ (f8.o.Ac (b8.o.then' k9.o)) l8 (by omega)).mono ?_
      rintro e o3 ⟨rfl,w0⟩
      have q7:Sl (Kp Aa b4 o3):=⟨k9.o.then' w0⟩
      have q9:Sl (Kp Aa A o3):=⟨b7.o.then' (b8.o.then' q7.o)⟩
      clear l8 v9 w0 k3 k9 k8 f8
      go_wp2_with fail
      refine(p4.o o3 c1 q9.o).mono ?_
      rintro e w7 ⟨rfl,n9⟩
      have l1:Sl (Kp Aa A w7):=⟨q9.o.then' n9⟩
      have q8:Sl (Kp Aa b4 w7):=⟨q7.o.then' n9⟩
      clear n9
      cases hG:Er cs c1 with
      |false=>
       obtain⟨rfl,rfl⟩:=m4.o (by rw[hG];rfl)
       clear hG
       go_wp2_with fail
       refine(c9.o _ (Y.o.then' l1.o)).mono ?_
       rintro e i5 ⟨rfl,b1⟩
       go_wp2
       go_ret
       exact⟨rfl,Y.o.then' (l1.o.then' b1)⟩
      |true=>
       obtain⟨rfl,m9⟩:=v4.o (by rw[hG];rfl)
       obtain⟨k,rfl,-⟩:=EU.1 hG
       rw[Int.toNat_natCast] at m9
       have f6:=sE ((i6.o.Ac q8.o).over k)
       rw[d1.o,b6.o,g5] at f6
       have p9:=sE (m9.Ac (b8.o.then' q8.o))
       obtain⟨l2,g7⟩:∃ l,overL es d6 Q k Q=l:=⟨_,rfl⟩
       have b5:Sl ((∀ x∈l2,x<65536)/\l2.length<=65536):=⟨λ x C=>by
        rw[<- g7] at C
        have F:=(List.mem_filter.1 C).1
        rw[<- b6.o] at F
        have:=(Ed.1 F).1
        have:=f3.o
        omega,by
        rw[<- g7,<- b6.o]
        exact Nat.le_trans (Nat.le_trans (List.length_filter_le _ _) (Fq _ _)) f3.o⟩
       rw[g7] at p9 f6
       clear hG m9 m4 v4 g7
       go_wp2_with fail
       with_reducible refine f6.o.mono ?_
       rintro e H5 ⟨H4,rfl,r6,o0⟩
       go_wp2_with fail
       with_reducible refine(SameInts_yes (xs:=l2.map λ x:Nat=>(x:Int)) (Fe (p9.o.Ac o0) b5.o.1) (Fe r6 b5.o.1) (by rw[List.length_map];have:=b5.o.2;omega)).mono ?_
       rintro e C6 ⟨rfl,w1⟩
       have r0:Sl (Kp Aa A C6):=⟨l1.o.then' (o0.then' w1)⟩
       clear r6 o0 w1 f6
       go_wp2_with fail
       refine(c9.o _ (Y.o.then' r0.o)).mono ?_
       rintro e i5 ⟨rfl,b1⟩
       go_wp2
       go_ret
       exact⟨rfl,Y.o.then' (r0.o.then' b1)⟩

end Go.Proofs.YtfkedlgpgmaemaaGreatDoor
