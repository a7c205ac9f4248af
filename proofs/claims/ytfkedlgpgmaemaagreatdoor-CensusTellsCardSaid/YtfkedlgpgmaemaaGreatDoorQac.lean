/-
  Lemmas for the laws, together: Bits2.
-/
import Derived.Test.YtfkedlgpgmaemaaGreatDoorQab
import Derived.OwnWalk
import Derived.Maps.AppendAt
import Derived.Deep.AppendLies
import Derived.Laws.Cover3
import Derived.Deep.RegionHeld3
import Derived.BigQuiet
import Derived.Laws.StructEq
set_option linter.unusedVariables false
set_option maxHeartbeats 16000000
namespace Go.Proofs.YtfkedlgpgmaemaaGreatDoor
open Tryz
section
open Go.RowKit
attribute [local go_sem] Oper.semAt_some

theorem in_yes(i n a:Int)(p:Nat)(w:World)(b:w.cell? ⟨p,1,none⟩=some (.int .i64 a))(c:0<=i)(d:0<=n)(f:i<=a)(g:n<=a-i)(j:a<=65536):
  Calls prog 199 #[.pointer (some p),.int .i64 i,.int .i64 n] w λ e w'=>e=.returned (.int .i64 0)/\w=w':=by
 go_enter func199,ntmps199
 go_wp2
 go_ret
 exact⟨rfl,rfl⟩

theorem in_no(i n a:Int)(p:Nat)(w:World)(c:w.cell? ⟨p,1,none⟩=some (.int .i64 a))(b:¬ (0<=i/\0<=n/\i<=a/\n<=a-i))(f:a<=65536)(g:0<=a):
  Calls prog 199 #[.pointer (some p),.int .i64 i,.int .i64 n] w λ e w'=>e=.returned (.int .i64 2)/\w=w':=by
 by_cases h1:0<=i
 .by_cases h2:0<=n
  .by_cases h3:i<=a
   .have d:a-i<n:=by omega
    clear b
    go_enter func199,ntmps199
    go_wp2
    go_ret
    exact⟨rfl,rfl⟩
   .clear b
    go_enter func199,ntmps199
    go_wp2
    go_ret
    exact⟨rfl,rfl⟩
  .clear b
   go_enter func199,ntmps199
   go_wp2
   go_ret
   exact⟨rfl,rfl⟩
 .clear b
  go_enter func199,ntmps199
  go_wp2
  go_ret
  exact⟨rfl,rfl⟩

def Ck(f:Nat->Bool)(i n:Nat)(t:Bool):Nat->Bool:=λ k=>if i<=k/\k<i+n then t else f k

theorem SetRun_yes(i k n p q:Nat)(f:Nat->Bool)(w:World)(l:AL w p q f n)(a7:i+k<=n):
  Calls prog 162 #[.pointer (some p),i,.int .i64 (k:Nat)] w λ e w'=>
   e=.returned (.int .i64 0)/\Kp (λ b=>b=q) w w'/\AL w' p q (Ck f i k true) n:=by
 obtain⟨ws,v,Q⟩:=l
 obtain⟨⟨cap,a3⟩,J,G,H⟩:=v.reads
 have a2:=v.lt_p
 have b4:=v.lt_q
 have a8:=v.small
 refine(callsIn_wide (n:=0)).1 ?_
 refine callsIn_of_wp_marks func162 rfl trivial ?_
 simp only[ntmps162,List.size_toArray,List.length_cons,List.length_nil,Nat.reduceAdd,Nat.reduceSub,Array.replicate_succ,Array.replicate_zero,List.push_toArray,List.append_toArray,List.nil_append,List.cons_append]
 gi_wp2_with fail
 refine⟨trivial,rfl,?_⟩
 refine(callsIn_wide.2 (in_yes _ _ n p _ (by rw[World.cell?_alloc_past _ _ _ a2];exact J) (by omega) (by omega) (by omega) (by omega) (by omega))).mono ?_
 rintro e w' ⟨rfl,rfl⟩
 gi_wp2_with fail
 refine⟨trivial,rfl,?_⟩
 refine(callsIn_wide.2 (pieces_any _ _ _)).mono ?_
 rintro e w' ⟨rfl,rfl⟩
 gi_wp2_with fail
 obtain⟨wl,o⟩:∃ wl,wl=((w.alloc (.cells #[.pointer (some p)] 120)).alloc (.cells #[i] 3)).alloc (.cells #[.int .i64 (k:Nat)] 3):=⟨_,rfl⟩
 rw[<- o]
 have b1:wl.heap.size=w.heap.size+3:=by rw[o];simp
 have I:Kp Aa w wl:=by rw[o];exact (((Kr _ w).alloc _).alloc _).alloc _
 have M:wl.heap[w.heap.size]?=some (.cells #[.pointer (some p)] 120 (0,0)):=by
  rw[o];exact (((Kr Aa _).alloc _).alloc _).at_ (wN w _) id
 have N:wl.heap[w.heap.size+1]?=some (.cells #[i] 3 (0,0)):=by
  rw[o];refine ((Kr Aa _).alloc _).at_ ?_ id;have:=wN (w.alloc (.cells #[.pointer (some p)] 120)) (.cells #[i] 3);rwa [World.size_alloc] at this
 have gk:wl.heap[w.heap.size+1+1]?=some (.cells #[.int .i64 (k:Nat)] 3 (0,0)):=by
  rw[o];have:=wN ((w.alloc (.cells #[.pointer (some p)] 120)).alloc (.cells #[i] 3)) (.cells #[.int .i64 (k:Nat)] 3);rwa [World.size_alloc,World.size_alloc] at this
 clear o
 refine wpIn_range (n:=0) (gf:=220) (lb:=#[.pointer (some ⟨w.heap.size+1+1,0,none⟩),.pointer (some ⟨w.heap.size+1,0,none⟩)]) rfl (enters_of func220 (by kernel_rfl) rfl)
  (pieces_iter (w:=wl) (i:=i) (n:=k) (by omega) _ _ gk N (by omega) (R:=λ b=>b=q) (λ b l=>by omega)) (λ b l=>by omega) (λ b l=>by omega) (λ _=>rfl)
  (λ z W=>Kp (λ b=>b=q) w W/\W.heap[w.heap.size]?=some (.cells #[.pointer (some p)] 120 (0,0))/\∃ ws,WordsAt W p q ws n/\∀ j,j<n->bitOf ws j=(inPcs z j||f j))
  (λ _ _ _=>False) ?hI ?hIx ?h0 ?hround ?hdone ?hstop
 case hI=>
  rintro z K L ⟨hK,D,ws,g,t⟩ C
  exact⟨hK.trans C (λ b l d=>by omega),C.at_ D (by omega),ws,g.keep C (by omega) (by omega),t⟩
 case hIx=>rintro c z K L d _;exact d
 case h0=>exact ⟨I.Aw _,M,ws,v.keep I id id,λ j u=>by rw[inPcs_nil,Bool.false_or];exact Q j u⟩
 case hround=>
  rintro z x rest W D ⟨hK,A,ws,g,t⟩ Z
  have X:=pcs_mem (i:=i) (n:=k) (x:=x) (by rw[D];simp)
  obtain⟨a,m,s⟩:=x
  dsimp only[pieceV] at X ⊢
  gi_wp2_with fail
  refine⟨(Kr _ W).alloc _,?_⟩
  intro B a5 a6 U b0 a9
  have V:=g.len
  have E:a<ws.length:=by rw[V];omega
  have b2:=g.lt_p
  have b3:=g.lt_q
  obtain⟨⟨cap,a3⟩,J,G,H⟩:=g.reads
  have G:=G a E
  have H:=H a
  have a4:=cell_of_one A
  have lb:=lZ A
  gi_wp2_with fail
  refine BM 13 (by kernel_rfl) (by kernel_rfl) (by kernel_rfl) (λ _ _ d=>d) ?_
  simp only[List.take_succ_cons,List.take_zero,List.drop_succ_cons,List.drop_zero]
  repeat (go_big_quiet_step (fail))
  refine wpQuiet_nil ?_
  intro _ hw'
  obtain⟨nq,a0⟩:=hw'
  subst a0
  go_wp2
  have a1:Kp Aa W (W.alloc (.cells #[a,m,.int .u64 (pmk m s:Nat)] 292)):=(Kr _ W).alloc _
  have F:=(a1.Aw (λ k=>k=wl.heap.size+1)).trans U (λ _ _ d=>d)
  have P:=(g.keep F (by omega) (by omega)).keep (Kp.Ah (S:=Aa) nq) id id
  have Y:=u64_or_nat (ws.getD a 0) (pmk m s) (g.fits a) (pmask_lt (by omega))
  rw[<- List.getD_eq_getElem?_getD,Y]
  have T:ws.getD a 0 ||| pmk m s<18446744073709551616:=by
   have:=Nat.or_lt_two_pow (n:=64) (x:=ws.getD a 0) (y:=pmk m s) (by rw[Wd.FN];exact g.fits a) (by rw[Wd.FN];exact pmask_lt (by omega))
   rwa [Wd.FN] at this
  have r:Kp (λ b=>b=q) B ((B.drewN nq).setCell ⟨q,a,none⟩ (.int .u64 (ws.getD a 0 ||| pmk m s:Nat))):=((Kr (λ b=>b=q) B).drewN nq).setCell (λ _=>rfl) _
  refine⟨r,(hK.trans F (λ b l d=>by omega)).trans r (λ _ _ d=>d),r.at_ (F.at_ A (by omega)) (by omega),_,P.store E T,λ j u=>?_⟩
  rw[bitOf_set E,inPcs_snoc,Nat.testBit_or,testBit_pmask]
  have l:=t j u
  unfold bitOf at l ⊢
  by_cases e:j/64=a
  .subst e
   rw[if_pos rfl,l]
   simp[Bool.or_comm,Bool.or_left_comm]
  .rw [if_neg e,l]
   have:decide (a=j/64/\m<=j%64/\j%64<m+s)=false:=by simp;omega
   rw[this,Bool.or_false]
 case hdone=>
  rintro W ⟨hK,A,ws,g,t⟩ Z O
  gi_wp2_with fail
  refine⟨by simp,.inl ⟨_,_,rfl,run_takeDeferred O,?_⟩⟩
  have r:Kp (λ b=>b=wl.heap.size) W (W.putObj wl.heap.size (.deferred none)):=(Kr (λ b=>b=wl.heap.size) W).putObj (λ _=>rfl) _
  refine⟨_,results_tmp rfl _ _ _,rfl,hK.trans r (λ b l d=>by omega),ws,g.keep r (by omega) (by omega),λ j u=>?_⟩
  rw[t j u,inPcs_pcs,Ck]
  by_cases e:i<=j/\j<i+k
  .simp [e]
  .simp [e]
 case hstop=>
  intro c z W _ d
  exact d.elim

theorem ClearRun_yes(i k n p q:Nat)(f:Nat->Bool)(w:World)(l:AL w p q f n)(a8:i+k<=n):
  Calls prog 157 #[.pointer (some p),i,.int .i64 (k:Nat)] w λ e w'=>
   e=.returned (.int .i64 0)/\Kp (λ b=>b=q) w w'/\AL w' p q (Ck f i k false) n:=by
 obtain⟨ws,y,Q⟩:=l
 obtain⟨⟨cap,a4⟩,I,F,G⟩:=y.reads
 have a3:=y.lt_p
 have b5:=y.lt_q
 have a9:=y.small
 refine(callsIn_wide (n:=0)).1 ?_
 refine callsIn_of_wp_marks func157 rfl trivial ?_
 simp only[ntmps157,List.size_toArray,List.length_cons,List.length_nil,Nat.reduceAdd,Nat.reduceSub,Array.replicate_succ,Array.replicate_zero,List.push_toArray,List.append_toArray,List.nil_append,List.cons_append]
 gi_wp2_with fail
 refine⟨trivial,rfl,?_⟩
 refine(callsIn_wide.2 (in_yes _ _ n p _ (by rw[World.cell?_alloc_past _ _ _ a3];exact I) (by omega) (by omega) (by omega) (by omega) (by omega))).mono ?_
 rintro e w' ⟨rfl,rfl⟩
 gi_wp2_with fail
 refine⟨trivial,rfl,?_⟩
 refine(callsIn_wide.2 (pieces_any _ _ _)).mono ?_
 rintro e w' ⟨rfl,rfl⟩
 gi_wp2_with fail
 obtain⟨wl,o⟩:∃ wl,wl=((w.alloc (.cells #[.pointer (some p)] 120)).alloc (.cells #[i] 3)).alloc (.cells #[.int .i64 (k:Nat)] 3):=⟨_,rfl⟩
 rw[<- o]
 have b2:wl.heap.size=w.heap.size+3:=by rw[o];simp
 have H:Kp Aa w wl:=by rw[o];exact (((Kr _ w).alloc _).alloc _).alloc _
 have L:wl.heap[w.heap.size]?=some (.cells #[.pointer (some p)] 120 (0,0)):=by
  rw[o];exact (((Kr Aa _).alloc _).alloc _).at_ (wN w _) id
 have M:wl.heap[w.heap.size+1]?=some (.cells #[i] 3 (0,0)):=by
  rw[o];refine ((Kr Aa _).alloc _).at_ ?_ id;have:=wN (w.alloc (.cells #[.pointer (some p)] 120)) (.cells #[i] 3);rwa [World.size_alloc] at this
 have gk:wl.heap[w.heap.size+1+1]?=some (.cells #[.int .i64 (k:Nat)] 3 (0,0)):=by
  rw[o];have:=wN ((w.alloc (.cells #[.pointer (some p)] 120)).alloc (.cells #[i] 3)) (.cells #[.int .i64 (k:Nat)] 3);rwa [World.size_alloc,World.size_alloc] at this
 clear o
 refine wpIn_range (n:=0) (gf:=220) (lb:=#[.pointer (some ⟨w.heap.size+1+1,0,none⟩),.pointer (some ⟨w.heap.size+1,0,none⟩)]) rfl (enters_of func220 (by kernel_rfl) rfl)
  (pieces_iter (w:=wl) (i:=i) (n:=k) (by omega) _ _ gk M (by omega) (R:=λ b=>b=q) (λ b l=>by omega)) (λ b l=>by omega) (λ b l=>by omega) (λ _=>rfl)
  (λ s W=>Kp (λ b=>b=q) w W/\W.heap[w.heap.size]?=some (.cells #[.pointer (some p)] 120 (0,0))/\∃ ws,WordsAt W p q ws n/\∀ j,j<n->bitOf ws j=(!inPcs s j&&f j))
  (λ _ _ _=>False) ?hI ?hIx ?h0 ?hround ?hdone ?hstop
 case hI=>
  rintro s J K ⟨hK,C,ws,g,u⟩ B
  exact⟨hK.trans B (λ b l a=>by omega),B.at_ C (by omega),ws,g.keep B (by omega) (by omega),u⟩
 case hIx=>rintro c s J K a _;exact a
 case h0=>exact ⟨H.Aw _,L,ws,y.keep H id id,λ j v=>by rw[inPcs_nil,Bool.not_false,Bool.true_and];exact Q j v⟩
 case hround=>
  rintro s x rest W C ⟨hK,z,ws,g,u⟩ a0
  have X:=pcs_mem (i:=i) (n:=k) (x:=x) (by rw[C];simp)
  obtain⟨d,m,t⟩:=x
  dsimp only[pieceV] at X ⊢
  gi_wp2_with fail
  refine⟨(Kr _ W).alloc _,?_⟩
  intro A a6 a7 U b1 b0
  have V:=g.len
  have D:d<ws.length:=by rw[V];omega
  have b3:=g.lt_p
  have b4:=g.lt_q
  obtain⟨⟨cap,a4⟩,I,F,G⟩:=g.reads
  have F:=F d D
  have G:=G d
  have a5:=cell_of_one z
  have lb:=lZ z
  gi_wp2_with fail
  refine BM 12 (by kernel_rfl) (by kernel_rfl) (by kernel_rfl) (λ _ _ a=>a) ?_
  simp only[List.take_succ_cons,List.take_zero,List.drop_succ_cons,List.drop_zero]
  repeat (go_big_quiet_step (fail))
  refine wpQuiet_nil ?_
  intro _ hw'
  obtain⟨nq,a1⟩:=hw'
  subst a1
  go_wp2
  have a2:Kp Aa W (W.alloc (.cells #[d,m,.int .u64 (pmk m t:Nat)] 292)):=(Kr _ W).alloc _
  have E:=(a2.Aw (λ k=>k=wl.heap.size+1)).trans U (λ _ _ a=>a)
  have P:=(g.keep E (by omega) (by omega)).keep (Kp.Ah (S:=Aa) nq) id id
  have Y:=u64_andNot_nat (ws.getD d 0) (pmk m t) (g.fits d) (pmask_lt (by omega))
  rw[<- List.getD_eq_getElem?_getD,Y]
  have T:ws.getD d 0 &&& (18446744073709551615-pmk m t)<18446744073709551616:=Nat.lt_of_le_of_lt Nat.and_le_left (g.fits d)
  have Z:pmk m t<2 ^ 64:=by rw[Wd.FN];exact pmask_lt (by omega)
  have r:Kp (λ b=>b=q) A ((A.drewN nq).setCell ⟨q,d,none⟩ (.int .u64 (ws.getD d 0 &&& (18446744073709551615-pmk m t):Nat))):=((Kr (λ b=>b=q) A).drewN nq).setCell (λ _=>rfl) _
  refine⟨r,(hK.trans E (λ b l a=>by omega)).trans r (λ _ _ a=>a),r.at_ (E.at_ z (by omega)) (by omega),_,P.store D T,λ j v=>?_⟩
  rw[bitOf_set D,inPcs_snoc,Nat.testBit_and,Wd.tb_not Z,testBit_pmask]
  have l:=u j v
  unfold bitOf at l ⊢
  have N:decide (j%64<64)=true:=by simp;omega
  by_cases e:j/64=d
  .subst e
   rw[if_pos rfl,l,N]
   cases inPcs s j <;> cases f j <;> simp
  .rw [if_neg e,l]
   have:decide (d=j/64/\m<=j%64/\j%64<m+t)=false:=by simp;omega
   rw[this,Bool.or_false]
 case hdone=>
  rintro W ⟨hK,z,ws,g,u⟩ a0 O
  gi_wp2_with fail
  refine⟨by simp,.inl ⟨_,_,rfl,run_takeDeferred O,?_⟩⟩
  have r:Kp (λ b=>b=wl.heap.size) W (W.putObj wl.heap.size (.deferred none)):=(Kr (λ b=>b=wl.heap.size) W).putObj (λ _=>rfl) _
  refine⟨_,results_tmp rfl _ _ _,rfl,hK.trans r (λ b l a=>by omega),ws,g.keep r (by omega) (by omega),λ j v=>?_⟩
  rw[u j v,inPcs_pcs,Ck]
  by_cases e:i<=j/\j<i+k
  .simp [e]
  .simp [e]
 case hstop=>
  intro c s W _ a
  exact a.elim

theorem SetRun_no(i k:Int)(n p q:Nat)(f:Nat->Bool)(w:World)(d:AL w p q f n)(b:¬ (0<=i/\0<=k/\i<=n/\k<=n-i)):
  Calls prog 162 #[.pointer (some p),.int .i64 i,.int .i64 k] w (RK (.int .i64 2) w):=by
 obtain⟨ws,a,l⟩:=d
 obtain⟨⟨cap,r⟩,j,s,t⟩:=a.reads
 have g:=a.lt_p
 have m:=a.small
 have c:=sE b
 clear b
 refine(callsIn_wide (n:=0)).1 ?_
 refine callsIn_of_wp_marks func162 rfl trivial ?_
 simp only[ntmps162,List.size_toArray,List.length_cons,List.length_nil,Nat.reduceAdd,Nat.reduceSub,Array.replicate_succ,Array.replicate_zero,List.push_toArray,List.append_toArray,List.nil_append,List.cons_append]
 gi_wp2_with fail
 refine⟨trivial,rfl,?_⟩
 refine(callsIn_wide.2 (in_no _ _ n p _ (by rw[World.cell?_alloc_past _ _ _ g];exact j) c.o (by omega) (by omega))).mono ?_
 rintro e w' ⟨rfl,rfl⟩
 gi_wp2_with fail
 exact⟨_,results_tmp rfl _ _ _,rfl,(Kr _ w).alloc _⟩

theorem ClearRun_no(i k:Int)(n p q:Nat)(f:Nat->Bool)(w:World)(d:AL w p q f n)(b:¬ (0<=i/\0<=k/\i<=n/\k<=n-i)):
  Calls prog 157 #[.pointer (some p),.int .i64 i,.int .i64 k] w (RK (.int .i64 2) w):=by
 obtain⟨ws,a,l⟩:=d
 obtain⟨⟨cap,r⟩,j,s,t⟩:=a.reads
 have g:=a.lt_p
 have m:=a.small
 have c:=sE b
 clear b
 refine(callsIn_wide (n:=0)).1 ?_
 refine callsIn_of_wp_marks func157 rfl trivial ?_
 simp only[ntmps157,List.size_toArray,List.length_cons,List.length_nil,Nat.reduceAdd,Nat.reduceSub,Array.replicate_succ,Array.replicate_zero,List.push_toArray,List.append_toArray,List.nil_append,List.cons_append]
 gi_wp2_with fail
 refine⟨trivial,rfl,?_⟩
 refine(callsIn_wide.2 (in_no _ _ n p _ (by rw[World.cell?_alloc_past _ _ _ g];exact j) c.o (by omega) (by omega))).mono ?_
 rintro e w' ⟨rfl,rfl⟩
 gi_wp2_with fail
 exact⟨_,results_tmp rfl _ _ _,rfl,(Kr _ w).alloc _⟩

theorem Set_no(i:Int)(n p q:Nat)(f:Nat->Bool)(w:World)(c:AL w p q f n)(a:¬ (0<=i/\i<n)):
  Calls prog 108 #[.pointer (some p),.int .i64 i] w (RK (.int .i64 2) w):=by
 have b:=sE a
 clear a
 go_enter func108,ntmps108
 go_wp2_with fail
 refine(SetRun_no _ _ n p q f _ c (by have:=b.o;omega)).mono ?_
 rintro e w' ⟨rfl,d⟩
 go_wp2_with fail
 go_ret
 exact⟨rfl,d⟩

theorem Set_yes(i n p q:Nat)(f:Nat->Bool)(w:World)(a:AL w p q f n)(g:i<n):
  Calls prog 108 #[.pointer (some p),i] w λ e w'=>e=.returned (.int .i64 0)/\Kp (λ b=>b=q) w w'/\AL w' p q (Ck f i 1 true) n:=by
 go_enter func108,ntmps108
 go_wp2_with fail
 refine(SetRun_yes i 1 n p q f _ a (by omega)).mono ?_
 rintro e w' ⟨rfl,d,c⟩
 go_wp2_with fail
 go_ret
 exact⟨rfl,d,c⟩

theorem Clear_no(i:Int)(n p q:Nat)(f:Nat->Bool)(w:World)(c:AL w p q f n)(a:¬ (0<=i/\i<n)):
  Calls prog 152 #[.pointer (some p),.int .i64 i] w (RK (.int .i64 2) w):=by
 have b:=sE a
 clear a
 go_enter func152,ntmps152
 go_wp2_with fail
 refine(ClearRun_no _ _ n p q f _ c (by have:=b.o;omega)).mono ?_
 rintro e w' ⟨rfl,d⟩
 go_wp2_with fail
 go_ret
 exact⟨rfl,d⟩

theorem Clear_yes(i n p q:Nat)(f:Nat->Bool)(w:World)(a:AL w p q f n)(g:i<n):
  Calls prog 152 #[.pointer (some p),i] w λ e w'=>e=.returned (.int .i64 0)/\Kp (λ b=>b=q) w w'/\AL w' p q (Ck f i 1 false) n:=by
 go_enter func152,ntmps152
 go_wp2_with fail
 refine(ClearRun_yes i 1 n p q f _ a (by omega)).mono ?_
 rintro e w' ⟨rfl,d,c⟩
 go_wp2_with fail
 go_ret
 exact⟨rfl,d,c⟩

end

section
open Go.RowKit
attribute [local go_sem] Oper.semAt_some

theorem Has_out(i:Int)(n p q:Nat)(f:Nat->Bool)(w:World)(b:AL w p q f n)(a:¬ (0<=i/\i<n)):
  Calls prog 58 #[.pointer (some p),.int .i64 i] w λ e w'=>e=.returned (.bool false)/\w=w':=by
 obtain⟨ws,c,g⟩:=b
 obtain⟨⟨cap,j⟩,k,l,m⟩:=c.reads
 by_cases h0:i<0
 .clear a
  go_enter func58,ntmps58
  go_wp2
  go_ret
  exact⟨rfl,rfl⟩
 .have d:(n:Int)<=i:=by omega
  clear a
  go_enter func58,ntmps58
  go_wp2
  go_ret
  exact⟨rfl,rfl⟩

theorem bit_test(v k:Nat)(a:v<18446744073709551616):(bits BinOp.and IntKind.u64 ((v:Int)/2 ^ k) 1==1)=v.testBit k:=by
 rw[Wd.and_one' k (by omega) (by omega),Int.toNat_natCast,Wd.FM]
 rcases Nat.mod_two_eq_zero_or_one (v/2 ^ k) with e|e <;> rw[e] <;> rfl

theorem Has_in(i n p q:Nat)(f:Nat->Bool)(w:World)(d:AL w p q f n)(j:i<n):
  Calls prog 58 #[.pointer (some p),i] w (RK (.bool (f i)) w):=by
 obtain⟨ws,a,g⟩:=d
 obtain⟨⟨cap,u⟩,x,-,-⟩:=a.reads
 have s:=a.lt_p
 have t:=a.lt_q
 have k:=a.len
 have r:=a.small
 have m:i/64<ws.length:=by omega
 obtain⟨v,c,y,z,l⟩:=a.word (i/64) m
 have T:Sl ((bits BinOp.and IntKind.u64 ((v:Int)/2 ^ (i%64)) 1==1)=f i):=⟨by rw[bit_test v _ c,<- g i j,bitOf,l.o]⟩
 clear k c
 go_enter func58,ntmps58
 go_wp2_with (go_at_call 111;refine (at_any _ _ (by omega) (by omega)).mono ?_;rintro e w' ⟨rfl,rfl⟩)
 go_quiet (fail)
 go_wp2
 go_ret
 exact⟨congrArg (λ b=>Ending.returned (.bool b)) T.o,(((Kr _ w).alloc _).alloc _).drewN _⟩

def optV(o:Option Nat):Value:=.tuple #[.int .i64 ((o.getD 0:Nat):Int),.bool o.isSome]

def turnW(t:Bool):Nat:=if t then 18446744073709551615 else 0

theorem turned_bit(v:Nat)(t:Bool)(k:Nat)(a:k<64):(v ^^^ turnW t).testBit k=(v.testBit k ^^ t):=by
 rw[Nat.testBit_xor]
 congr 1
 cases t
 .simp [turnW]
 .have:=Wd.tb_not (m:=0) (by decide) k
  simp only[Nat.sub_zero] at this
  simp[turnW,this,a]

theorem turned_lt{v:Nat}(t:Bool)(a:v<18446744073709551616):v ^^^ turnW t<18446744073709551616:=by
 have:=Nat.xor_lt_two_pow (x:=v) (y:=turnW t) (n:=64) (by rw[Wd.FN];exact a) (by rw[Wd.FN];cases t <;> decide)
 rwa [Wd.FN] at this

theorem y_zero{x k:Nat}(a:x/2 ^ k=0)(t:Nat)(b:k<=t):x.testBit t=false:=by
 have:=Nat.testBit_div_two_pow x (n:=k) (i:=t-k)
 rw[a,Nat.zero_testBit,show t-k+k=t by omega] at this
 exact this.symm

theorem y_low{x k:Nat}(c:x<18446744073709551616)(g:x/2 ^ k≠0):Wd.low (x/2 ^ k)<64/\k+Wd.low (x/2 ^ k)<64/\x.testBit (k+Wd.low (x/2 ^ k))=true/\∀ t,k<=t->t<k+Wd.low (x/2 ^ k)->x.testBit t=false:=by
 have d:∀ j,(x/2 ^ k).testBit j=x.testBit (k+j):=λ j=>by rw[Nat.testBit_div_two_pow,Nat.add_comm]
 have f:Wd.low (x/2 ^ k)<64:=by
  rcases Nat.lt_or_ge (Wd.low (x/2 ^ k)) 64 with a|a
  .exact a
  .exfalso
   apply g
   apply Nat.eq_of_testBit_eq
   intro j
   rw[Nat.zero_testBit,Wd.FM]
   by_cases hj:j<64
   .simpa using Wd.low_below (v:=x/2 ^ k) (k:=j) (by omega)
   .have b:x/2 ^ k<2 ^ j:=Nat.lt_of_le_of_lt (Nat.div_le_self _ _) (Nat.lt_of_lt_of_le (by rw[<- Wd.FN] at c;exact c) (Nat.pow_le_pow_right (by decide) (by omega)))
    rw[Nat.div_eq_of_lt b];rfl
 have a:x.testBit (k+Wd.low (x/2 ^ k))=true:=by
  rw[<- d,Wd.FM];simpa using Wd.low_is f
 refine⟨f,?_,a,λ t b i=>?_⟩
 .rcases Nat.lt_or_ge (k+Wd.low (x/2 ^ k)) 64 with b|b
  .exact b
  .rw [Nat.testBit_lt_two_pow (Nat.lt_of_lt_of_le (by rw[<- Wd.FN] at c;exact c) (Nat.pow_le_pow_right (by decide) b))] at a;cases a
 .have:=Wd.low_below (v:=x/2 ^ k) (k:=t-k) (by omega)
  have e:=d (t-k)
  rw[show k+(t-k)=t by omega] at e
  rw[<- e,Wd.FM];simpa using this

theorem next_from(s:Nat)(i:Int)(S:(i<0/\s=0)\/(0<=i/\i=s))(t:Bool)(n p q:Nat)(f:Nat->Bool)(w:World)(R:AL w p q f n)(a2:s<=131072):
  Calls prog 160 #[.pointer (some p),.int .i64 i,.int .u64 (turnW t:Nat)] w λ e w'=>
   e=.returned (optV (FW (λ j=>f j ^^ t) n s))/\Kp Aa w w':=by
 obtain⟨ws,B,F⟩:=R
 have a5:=B.small
 have L:=sE F
 clear F
 have S0:Sl (i<0->s=0):=⟨by omega⟩
 rcases S with ⟨E,V⟩|⟨E,rfl⟩
 all_goals
  have K:=B.reads.2.1
  try clear V
  go_enter func160,ntmps160
  go_wp2
  clear K
  go_loopw [1,8,9] (λ x _ _ wr=>∃ j:Nat,s<=j/\j<=131072+64/\x=.int .i64 j/\Sl (∀ k,s<=k->k<j->k<n->(f k ^^ t)=false)/\Kp Aa w wr) (λ x _ _ _=>131072+64-(intOf x).toNat)
  case atStart=>first|exact ⟨0,by have:=S0.o E;omega,by omega,rfl,⟨λ k a b=>by omega⟩,Kr _ _⟩|exact ⟨s,by omega,by omega,rfl,⟨λ k a b=>by omega⟩,Kr _ _⟩
  case round=>
   obtain⟨j,a3,a4,rfl,u,g⟩:=hrel
   have d:=B.keep g id id
   obtain⟨⟨cap,b0⟩,K,-,-⟩:=d.reads
   have a8:=d.lt_p
   have a9:=d.lt_q
   by_cases hjn:j<n
   .have U:=d.len
    have Z:j/64<ws.length:=by omega
    obtain⟨v,A,b1,b2,X⟩:=d.word (j/64) Z
    obtain⟨x,m⟩:∃ x,x=v ^^^ turnW t:=⟨_,rfl⟩
    have a1:bits BinOp.xor IntKind.u64 (v:Int) (turnW t:Nat)=(x:Nat):=by rw[m];exact u64_xor_nat v (turnW t) A (by cases t <;> decide)
    have G:Sl (x<18446744073709551616):=⟨by rw[m];exact turned_lt t A⟩
    have z:Sl (∀ k,k<64->j/64*64+k<n->x.testBit k=(f (j/64*64+k) ^^ t)):=⟨λ k P Q=>by
     rw[m,turned_bit v t k P,<- L.o _ Q,bitOf,show (j/64*64+k)/64=j/64 by omega,show (j/64*64+k)%64=k by omega,X.o]⟩
    have Y:(x:Int)/2 ^ (j%64)=((x/2 ^ (j%64):Nat):Int):=by simp
    clear U A m
    obtain⟨y,C⟩:∃ y,x/2 ^ (j%64)=y:=⟨_,rfl⟩
    rw[C] at Y
    have l:=sE C
    clear C
    by_cases hy0:y=0
    .have W:((y:Int)==0)=true:=by rw[hy0];rfl
     have r:=sE hy0
     clear hy0
     go_wp2_with (go_at_call 111;refine (at_any _ _ (by omega) (by omega)).mono ?_;rintro e w' ⟨rfl,rfl⟩)
     go_quiet (fail)
     go_wp2
     refine⟨⟨j+(64-j%64),by omega,by omega,by go_num,⟨λ k a b c=>?_⟩,((g.alloc _).alloc _).drewN _⟩,by simp only[intOf];omega⟩
     by_cases hkj:k<j
     .exact u.o k a hkj c
     .have:=z.o (k%64) (by omega) (by omega)
      rw[show j/64*64+k%64=k by omega] at this
      rw[<- this]
      exact y_zero (by rw[l.o,r.o]) _ (by omega)
    .have W:((y:Int)==0)=false:=by rw[beq_eq_false_iff_ne];omega
     have r:=sE hy0
     clear hy0
     go_wp2_with (go_at_call 111;refine (at_any _ _ (by omega) (by omega)).mono ?_;rintro e w' ⟨rfl,rfl⟩)
     go_quiet (fail)
     have H:=y_low (x:=x) (k:=j%64) G.o (by rw[l.o];exact r.o)
     rw[l.o] at H
     obtain⟨a6,a7,I,J⟩:=H
     have M:=sE I
     have N:=sE J
     clear I J
     have a0:Sl (y<18446744073709551616):=⟨by rw[<- l.o];exact Nat.lt_of_le_of_lt (Nat.div_le_self _ _) G.o⟩
     have D:Sl (∀ k,s<=k->k<j+Wd.low y->k<n->(f k ^^ t)=false):=⟨λ k a b c=>by
      by_cases hkj:k<j
      .exact u.o k a hkj c
      .have:=z.o (k%64) (by omega) (by omega)
       rw[show j/64*64+k%64=k by omega] at this
       rw[<- this]
       exact N.o _ (by omega) (by omega)⟩
     have O:Sl (j+Wd.low y<n->(f (j+Wd.low y) ^^ t)=true):=⟨λ c=>by
      have:=z.o (j%64+Wd.low y) (by omega) (by omega)
      rw[show j/64*64+(j%64+Wd.low y)=j+Wd.low y by omega] at this
      rw[<- this]
      exact M.o⟩
     go_wp2_with fail
     refine(Low_any _ _ (by omega) (by have:=a0.o;omega)).mono ?_
     rintro e w' ⟨rfl,rfl⟩
     by_cases hin:j+Wd.low y<n
     .have T:¬ (n:Int)<=(j:Int)+(Wd.low y:Nat):=by omega
      go_wp2
      go_ret2
      refine⟨?_,((g.alloc _).alloc _).drewN _⟩
      rw[nextB_some (by omega) hin (O.o hin) (λ k a b=>D.o k a b (by omega))]
      simp[optV]
     .have T:(n:Int)<=(j:Int)+(Wd.low y:Nat):=by omega
      go_wp2
      go_ret2
      refine⟨?_,((g.alloc _).alloc _).drewN _⟩
      rw[nextB_none (λ k a b=>D.o k a (by omega) b)]
      simp[optV]
   .go_wp2
    go_ret2
    refine⟨?_,g⟩
    rw[nextB_none (λ k a b=>u.o k a (by omega) b)]
    simp[optV]

end

section
open Go.RowKit
attribute [local go_sem] Oper.semAt_some

theorem next_big(i:Int)(u:Int)(n p q:Nat)(f g:Nat->Bool)(w:World)(c:AL w p q f n)(l:(n:Int)<=i):
  Calls prog 160 #[.pointer (some p),.int .i64 i,.int .u64 u] w λ e w'=>
   e=.returned (optV (FW g n i.toNat))/\Kp Aa w w':=by
 obtain⟨ws,d,k⟩:=c
 have m:=d.reads.2.1
 have j:¬ i<0:=by omega
 rw[nextB_none (g:=g) (n:=n) (i:=i.toNat) (λ t a b=>by omega)]
 go_enter func160,ntmps160
 go_wp2
 refine wp_loop_once ?_
 go_wp2
 go_ret2
 exact⟨by simp[optV],Kr _ _⟩

theorem next_all(i:Int)(t:Bool)(n p q:Nat)(f:Nat->Bool)(w:World)(a:AL w p q f n):
  Calls prog 160 #[.pointer (some p),.int .i64 i,.int .u64 (turnW t:Nat)] w λ e w'=>
   e=.returned (optV (FW (λ j=>f j ^^ t) n i.toNat))/\Kp Aa w w':=by
 have c:n<=65536:=by obtain⟨ws,b,_⟩:=a;exact b.small
 by_cases h:(n:Int)<=i
 .exact next_big i _ n p q f _ w a h
 .exact next_from i.toNat i (by omega) t n p q f w a (by omega)

theorem Next_at(i:Int)(n p q:Nat)(f:Nat->Bool)(w:World)(b:AL w p q f n):
  Calls prog 105 #[.pointer (some p),.int .i64 i] w (RK (optV (FW f n i.toNat)) w):=by
 have a:=next_all i false n p q f
 rw[show (λ j=>f j ^^ false)=f from funext λ j=>Bool.xor_false _] at a
 go_enter func105,ntmps105
 go_wp2_with fail
 refine(a _ b).mono ?_
 rintro e w' ⟨rfl,c⟩
 unfold optV
 go_wp2_with fail
 go_ret2
 exact⟨rfl,c⟩

end

section
open Go.RowKit
attribute [local go_sem] Oper.semAt_some

end

section
open Go.RowKit

theorem AL.FQ{w:World}{p q n:Nat}{f:Nat->Bool}(a:AL w p q f n):n<=65536:=by
 obtain⟨ws,b,_⟩:=a;exact b.small

theorem AL.lt_p'{w:World}{p q n:Nat}{f:Nat->Bool}(a:AL w p q f n):p<w.heap.size:=by
 obtain⟨ws,b,_⟩:=a;exact b.lt_p

theorem AL.lt_q'{w:World}{p q n:Nat}{f:Nat->Bool}(a:AL w p q f n):q<w.heap.size:=by
 obtain⟨ws,b,_⟩:=a;exact b.lt_q

theorem Kp.owns{S:Nat->Prop}{a b:World}(i:Kp S a b){base:Nat}{e:TypeId}{d:Nat}{v:Value}{n:Nat}{xs:List Value}(c:a.ownsRow base e d v n xs)(p:∀ k,v.ownBlock=some k->¬ S k):b.ownsRow base e d v n xs:=by
 refine⟨c.1,?_⟩
 rcases c.2 with j|⟨g,cap,f,rfl,l,m,o⟩
 .exact .inl j
 .exact .inr ⟨g,cap,f,rfl,l,i.at_ m (p g rfl),o⟩

theorem EC:prog.underlying 49=some (.slice 79):=by kernel_rfl

attribute [local go_sem] EC

theorem run_eql_slice_nil{P:Program}{w:World}(t e:TypeId)(a:Option Addr)(l c:Nat)(h:P.underlying t=some (.slice e)):(binOp .eql t (.slice a l c) (.slice none 0 0)).run P w=.ok (.bool a.isNone) w:=by
 simp only[binOp]
 simp[run_equal_slice_nil w t e a l c h]

attribute [local go_sem] run_eql_slice_nil

theorem infoWord:(prog.info? 79).map (λ i=>(i.zero,i.size,i.bytes))=some (some (.int .u64 0),1,8):=by kernel_rfl

def wordVs(ws:List Nat):List Value:=ws.map λ v=>.int .u64 (v:Nat)

theorem words_oneCell(ws:List Nat):∀ u∈wordVs ws,u.oneCell'=true:=by
 intro u a
 obtain⟨_,_,rfl⟩:=List.mem_map.1 a
 rfl

theorem wordVs_at(ws:List Nat)(j:Nat)(a:j<ws.length):(wordVs ws)[j]?=some (.int .u64 (ws.getD j 0:Nat)):=by
 simp[wordVs,List.getElem?_map,List.getD_eq_getElem?_getD,List.getElem?_eq_getElem a]

theorem clone_cells{w:World}{b c:Nat}{ws:List Nat}(e:∀ j,j<c->w.cell? ⟨b,j,none⟩=some (.int .u64 (ws.getD j 0:Nat)))(g:ws.length=c){j:Nat}{u:Value}{o:Obj}
  (a:(wordVs ws)[j]?=some u):(w.alloc o).cell? ((⟨b,0,none⟩:Addr).add j)=some u:=by
 have f:j<ws.length:=by
  have:=(gE.1 a).1
  simpa [wordVs] using this
 rw[wordVs_at ws j f] at a
 injection a with a
 subst a
 rw[Addr.add_lit,Nat.zero_add]
 have:=e j (by omega)
 have d:b<w.heap.size:=by
  rcases Nat.lt_or_ge b w.heap.size with h|h
  .exact h
  .simp [World.cell?,Array.getElem?_eq_none h] at this
 rw[World.cell?_alloc_past _ _ _ d]
 exact this

theorem Clone_words(b a cap:Nat)(ws:List Nat)(w:World)(i:ws.length=a)(q:∀ j,j<a->w.cell? ⟨b,j,none⟩=some (.int .u64 (ws.getD j 0:Nat)))(M:a<=1024):
  Calls prog 161 #[.slice (some ⟨b,0,none⟩) a cap] w λ e w'=>
   ∃ g f,e=.returned (.slice (some ⟨g,0,none⟩) a f)/\w.heap.size<=g/\(∃ cs,w'.heap[g]?=some (.cells cs 79 (0,0))/\∀ j,j<a->cs[j]?=some (.int .u64 (ws.getD j 0:Nat)))/\Kp Aa w w':=by
 have z:=sE q
 have d:=sE i
 clear q i
 go_enter func161,ntmps161
 go_wp2_with (at_builtin;obtain ⟨G,r,t,x,y⟩:=info_parts infoWord;go_loud (refine wpList_append_own_at _ rfl (.tmp 5) (.tmp 6) 49 rfl w.heap.size 79 G _ 1 8 EC r t x y rfl (by omega) (.slice (some ⟨w.heap.size,0,none⟩) 0 0) 0 [] rfl (World.ownsRow_lit w #[] 0 (Nat.le_refl _) (by unfold maxLen;omega) rfl) ⟨b,0,none⟩ a cap (wordVs ws) rfl (by rw[wordVs,List.length_map,d.o];omega) (by intro j u l;exact clone_cells z.o d.o l) (by intro u l;exact words_oneCell ws u l) (by unfold maxLen;omega) (by omega) (by simp) ?_);intro H w1 F C E L;clear r t x y)
 have D:Kp Aa w w1:=((Kr Aa w).alloc _).grown C (λ k e i=>by simp[Value.ownBlock] at e;omega)
 obtain⟨-,c⟩:=F
 rcases c with ⟨c,-⟩|⟨g,f,m,c,A,B,I,J,K,n⟩
 .have:=E.1 c
  simp at this
 .rw [Nat.zero_add,Nat.mul_one,List.nil_append] at n
  refine bodyPost_ret (v:=H) (by simp[results,results161,go_sem]) rfl ⟨g,f,by rw[c,Nat.zero_add],A,⟨m,B,λ j s=>?_⟩,D⟩
  have p:(m.toList.take a)[j]?=(wordVs ws)[j]?:=by rw[n]
  rw[List.getElem?_take_of_lt s,wordVs_at ws j (by rw[d.o];exact s)] at p
  simpa using p

theorem WordsAt.make{w:World}{g cap n:Nat}{ws:List Nat}(d:∃ cs,w.heap[g]?=some (.cells cs 79 (0,0))/\∀ j,j<ws.length->cs[j]?=some (.int .u64 (ws.getD j 0:Nat)))(e:ws.length=(n+63)/64)(f:n<=65536)(c:∀ j,ws.getD j 0<18446744073709551616):
  WordsAt (w.alloc (.cells #[.slice (some ⟨g,0,none⟩) ws.length cap,n] 196)) w.heap.size g ws n:=by
 obtain⟨cs,a,b⟩:=d
 exact⟨⟨cap,wN w _⟩,⟨cs,((Kr Aa w).alloc _).at_ a id,b⟩,e,f,c⟩

theorem Copy_at(n p q:Nat)(f:Nat->Bool)(w:World)(u:AL w p q f n):
  Calls prog 168 #[.pointer (some p)] w λ e w'=>
   ∃ c k,e=.returned (.pointer (some ⟨c,0,none⟩))/\w.heap.size<=c/\w.heap.size<=k/\AL w' c k f n/\Kp Aa w w':=by
 obtain⟨ws,a,d⟩:=u
 have m:=sE d
 clear d
 obtain⟨⟨cap,C⟩,D,l,z⟩:=a.reads
 have s:=sE l
 have B:=a.small
 have r:Sl (ws.length<=1024):=⟨by have:=a.len;omega⟩
 clear l z
 go_enter func168,ntmps168
 go_wp2_with fail
 go_region_held3 (λ w'=>w'.cell? p=some (.slice (some ⟨q,0,none⟩) ws.length cap)/\w'.cell? ⟨p,1,none⟩=some (.int .i64 n)) (first|go_keep|exact ⟨b.cell (by assumption) id,b.cell (by assumption) id⟩)
  (first|(go_at_call 161;refine (Clone_words q ws.length cap ws _ rfl (λ j y=>by exact s.o j y) r.o).mono ?_;rintro e w' ⟨g,A,rfl,v,x,b⟩))
 go_wp2
 go_ret
 have i:Kp Aa w w':=((Kr Aa w).drew).trans b (λ _ _ t=>t)
 exact⟨_,g,rfl,i.size,v,⟨ws,WordsAt.make x a.len a.small a.fits,m.o⟩,i.alloc _⟩

theorem underlyingRow:prog.underlying 258=some (.array (prog.arrayLen 258) (prog.elem 258)):=by kernel_rfl

theorem lenRow:prog.arrayLen 258=1024:=by kernel_rfl

theorem elemRow:prog.elem 258=79:=by kernel_rfl

theorem run_sliceRow(b:Nat)(a:Int)(c:0<=a)(d:a<=1024)(w:World):(Instr.sliceAt 258 (.pointer (some b)) none (some (.int .i64 a)) none).run prog w=.ok (.slice (some ⟨b,0,none⟩) a.toNat 1024) w:=by
 obtain⟨j,e,g,f,i⟩:=info_parts infoWord
 rw[run_sliceAt_array_h _ _ _ underlyingRow .i64 a c (by rw[lenRow];exact d)]
 simp[lenRow,elemRow,sizeOf,typeInfo,e,slicedAt,f]
 rfl

theorem zeroRow:zeroCells258=Array.replicate 1024 (.int .u64 0):=by kernel_rfl

theorem zeroRow_at(w:World)(j:Nat)(a:j<1024):(w.alloc (.cells zeroCells258 258)).cell? ⟨w.heap.size,j,none⟩=some (.int .u64 0):=by
 have b:=wN w (.cells zeroCells258 258)
 unfold World.cell?
 rw[b,zeroRow]
 show(Array.replicate 1024 _)[j]?=_
 rw[Array.getElem?_replicate,if_pos a]

attribute [local go_sem] run_sliceRow

theorem DX(k j:Nat):(List.replicate k (0:Nat)).getD j 0=0:=by
 rw[List.getD_eq_getElem?_getD,List.getElem?_replicate]
 split <;> rfl

theorem New_yes(n:Nat)(w:World)(a:n<=65536):Calls prog 106 #[n] w λ e w'=>
   ∃ p q,e=.returned (.tuple #[.pointer (some ⟨p,0,none⟩),(0:Int)])/\w.heap.size<=p/\w.heap.size<=q/\AL w' p q (λ _=>false) n/\Kp Aa w w':=by
 have r:¬ (n:Int)<0:=by omega
 have s:¬ (65536:Int)<n:=by omega
 go_enter func106,ntmps106
 have t:0<=((n:Int)+63)/64:=by omega
 have u:((n:Int)+63)/64<=1024:=by omega
 have v:(((n:Int)+63)/64).toNat=(n+63)/64:=by omega
 go_wp2_with (go_at_call 161;refine (Clone_words w.heap.size ((n+63)/64) 1024 (List.replicate ((n+63)/64) 0) _ (by simp) (λ j y=>by rw[DX];exact zeroRow_at w j (by omega)) (by omega)).mono ?_;rintro e w' ⟨g,f,rfl,k,m,o⟩)
 have d:Kp Aa w w':=((Kr Aa w).alloc _).trans o (λ _ _ a=>a)
 have l:w.heap.size<=g:=by simp at k;omega
 have b:(List.replicate ((n+63)/64) (0:Nat)).length=(n+63)/64:=by simp
 have c:=WordsAt.make (w:=w') (g:=g) (cap:=f) (n:=n) (ws:=List.replicate ((n+63)/64) 0) (by rw[b];exact m) b a (λ j=>by rw[DX];omega)
 rw[b] at c
 go_ret2
 refine⟨_,g,rfl,d.size,l,⟨_,c,λ i x=>?_⟩,d.alloc _⟩
 rw[bitOf,DX,Nat.zero_testBit]

end

section
open Go.RowKit

def Bz(n:Nat)(i k:Int):Bool:=decide (0<=i/\0<=k/\i<=n/\k<=n-i)

def Ex(f:Nat->Bool)(n:Nat)(i k:Int)(t:Bool):Nat->Bool:=if Bz n i k then Ck f i.toNat k.toNat t else f

def errV(ok:Bool):Int:=if ok then 0 else 2

theorem SetRun_int(i k:Int)(n p q:Nat)(f:Nat->Bool)(w:World)(d:AL w p q f n):
  Calls prog 162 #[.pointer (some p),.int .i64 i,.int .i64 k] w λ e w'=>
   e=.returned (.int .i64 (errV (Bz n i k)))/\Kp (λ b=>b=q) w w'/\AL w' p q (Ex f n i k true) n:=by
 by_cases h:0<=i/\0<=k/\i<=n/\k<=n-i
 .have g:Bz n i k=true:=by simpa [Bz] using h
  obtain⟨a,rfl⟩:=Int.eq_ofNat_of_zero_le h.1
  obtain⟨b,rfl⟩:=Int.eq_ofNat_of_zero_le h.2.1
  refine(SetRun_yes a b n p q f w d (by omega)).mono ?_
  rintro e w' ⟨rfl,c,j⟩
  rw[Ex,g]
  exact⟨rfl,c,j⟩
 .have g:Bz n i k=false:=by simpa [Bz] using h
  refine(SetRun_no i k n p q f w d h).mono ?_
  rintro e w' ⟨rfl,c⟩
  rw[Ex,g]
  have l:=c.Aw (λ b=>b=q)
  exact⟨rfl,l,d.keep c id id⟩

theorem ClearRun_int(i k:Int)(n p q:Nat)(f:Nat->Bool)(w:World)(d:AL w p q f n):
  Calls prog 157 #[.pointer (some p),.int .i64 i,.int .i64 k] w λ e w'=>
   e=.returned (.int .i64 (errV (Bz n i k)))/\Kp (λ b=>b=q) w w'/\AL w' p q (Ex f n i k false) n:=by
 by_cases h:0<=i/\0<=k/\i<=n/\k<=n-i
 .have g:Bz n i k=true:=by simpa [Bz] using h
  obtain⟨a,rfl⟩:=Int.eq_ofNat_of_zero_le h.1
  obtain⟨b,rfl⟩:=Int.eq_ofNat_of_zero_le h.2.1
  refine(ClearRun_yes a b n p q f w d (by omega)).mono ?_
  rintro e w' ⟨rfl,c,j⟩
  rw[Ex,g]
  exact⟨rfl,c,j⟩
 .have g:Bz n i k=false:=by simpa [Bz] using h
  refine(ClearRun_no i k n p q f w d h).mono ?_
  rintro e w' ⟨rfl,c⟩
  rw[Ex,g]
  have l:=c.Aw (λ b=>b=q)
  exact⟨rfl,l,d.keep c id id⟩

theorem Set_int(i:Int)(n p q:Nat)(f:Nat->Bool)(w:World)(d:AL w p q f n):
  Calls prog 108 #[.pointer (some p),.int .i64 i] w λ e w'=>
   e=.returned (.int .i64 (errV (Bz n i 1)))/\Kp (λ b=>b=q) w w'/\AL w' p q (Ex f n i 1 true) n:=by
 by_cases h:0<=i/\i<n
 .have g:Bz n i 1=true:=by simp[Bz];omega
  obtain⟨a,rfl⟩:=Int.eq_ofNat_of_zero_le h.1
  refine(Set_yes a n p q f w d (by omega)).mono ?_
  rintro e w' ⟨rfl,c,j⟩
  rw[Ex,g]
  exact⟨rfl,c,j⟩
 .have g:Bz n i 1=false:=by simp[Bz];omega
  refine(Set_no i n p q f w d h).mono ?_
  rintro e w' ⟨rfl,c⟩
  rw[Ex,g]
  have k:=c.Aw (λ b=>b=q)
  exact⟨rfl,k,d.keep c id id⟩

theorem Clear_int(i:Int)(n p q:Nat)(f:Nat->Bool)(w:World)(d:AL w p q f n):
  Calls prog 152 #[.pointer (some p),.int .i64 i] w λ e w'=>
   e=.returned (.int .i64 (errV (Bz n i 1)))/\Kp (λ b=>b=q) w w'/\AL w' p q (Ex f n i 1 false) n:=by
 by_cases h:0<=i/\i<n
 .have g:Bz n i 1=true:=by simp[Bz];omega
  obtain⟨a,rfl⟩:=Int.eq_ofNat_of_zero_le h.1
  refine(Clear_yes a n p q f w d (by omega)).mono ?_
  rintro e w' ⟨rfl,c,j⟩
  rw[Ex,g]
  exact⟨rfl,c,j⟩
 .have g:Bz n i 1=false:=by simp[Bz];omega
  refine(Clear_no i n p q f w d h).mono ?_
  rintro e w' ⟨rfl,c⟩
  rw[Ex,g]
  have k:=c.Aw (λ b=>b=q)
  exact⟨rfl,k,d.keep c id id⟩

def EH(f:Nat->Bool)(n:Nat)(i:Int):Bool:=decide (0<=i/\i<n)&&f i.toNat

theorem Has_int(i:Int)(n p q:Nat)(f:Nat->Bool)(w:World)(b:AL w p q f n):
  Calls prog 58 #[.pointer (some p),.int .i64 i] w λ e w'=>
   e=.returned (.bool (EH f n i))/\Kp Aa w w':=by
 by_cases h:0<=i/\i<n
 .obtain ⟨a,rfl⟩:=Int.eq_ofNat_of_zero_le h.1
  refine(Has_in a n p q f w b (by omega)).mono ?_
  rintro e w' ⟨rfl,c⟩
  rw[EH,dT h]
  exact⟨rfl,c⟩
 .refine (Has_out i n p q f w b h).mono ?_
  rintro e w' ⟨rfl,rfl⟩
  rw[EH,dF h]
  exact⟨rfl,Kr _ _⟩

end

end Go.Proofs.YtfkedlgpgmaemaaGreatDoor
