/-
  Lemmas for the laws, together: Bits2.
-/
import Derived.Test.YtmfajopmppfldaaGreatDoorQab
import Derived.OwnWalk
import Derived.Maps.AppendAt
import Derived.Deep.AppendLies
import Derived.Laws.Cover3
import Derived.Deep.RegionHeld3
import Derived.BigQuiet
import Derived.Laws.StructEq
set_option linter.unusedVariables false
set_option maxHeartbeats 16000000
namespace Go.Proofs.YtmfajopmppfldaaGreatDoor
open Tryz
section
open Go.RowKit
attribute [local go_sem] Oper.semAt_some

theorem in_yes(i n N:Int)(p:Nat)(w:World)(h:w.cell? ⟨p,1,none⟩=some (.int .i64 N))(h1:0<=i)(h2:0<=n)(h3:i<=N)(h4:n<=N-i)(h5:N<=65536):
  Calls prog 115 #[.pointer (some ⟨p,0,none⟩),.int .i64 i,.int .i64 n] w λ e w'=>e=.returned (.int .i64 0)/\w=w':=by
 go_enter func115,ntmps115
 go_wp2
 go_ret
 exact⟨rfl,rfl⟩

theorem in_no(i n N:Int)(p:Nat)(w:World)(h:w.cell? ⟨p,1,none⟩=some (.int .i64 N))(hn:¬ (0<=i/\0<=n/\i<=N/\n<=N-i))(h5:N<=65536)(h6:0<=N):
  Calls prog 115 #[.pointer (some ⟨p,0,none⟩),.int .i64 i,.int .i64 n] w λ e w'=>e=.returned (.int .i64 2)/\w=w':=by
 by_cases h1:0<=i
 .by_cases h2:0<=n
  .by_cases h3:i<=N
   .have h4:N-i<n:=by omega
    clear hn
    go_enter func115,ntmps115
    go_wp2
    go_ret
    exact⟨rfl,rfl⟩
   .clear hn
    go_enter func115,ntmps115
    go_wp2
    go_ret
    exact⟨rfl,rfl⟩
  .clear hn
   go_enter func115,ntmps115
   go_wp2
   go_ret
   exact⟨rfl,rfl⟩
 .clear hn
  go_enter func115,ntmps115
  go_wp2
  go_ret
  exact⟨rfl,rfl⟩

def Em(f:Nat->Bool)(i n:Nat)(t:Bool):Nat->Bool:=λ k=>if i<=k/\k<i+n then t else f k

theorem SetRun_yes(i k n p q:Nat)(f:Nat->Bool)(w:World)(hb:AJ w p q f n)(hi:i+k<=n):
  Calls prog 136 #[.pointer (some ⟨p,0,none⟩),.int .i64 (i:Nat),.int .i64 (k:Nat)] w λ e w'=>
   e=.returned (.int .i64 0)/\Kp (λ b=>b=q) w w'/\AJ w' p q (Em f i k true) n:=by
 obtain⟨ws,hw,hbits⟩:=hb
 obtain⟨⟨cap,r0⟩,r1,r2,r3⟩:=hw.reads
 have lp:=hw.lt_p
 have lq:=hw.lt_q
 have hn:=hw.small
 refine(callsIn_wide (n:=0)).1 ?_
 refine callsIn_of_wp_marks func136 rfl trivial ?_
 simp only[ntmps136,List.size_toArray,List.length_cons,List.length_nil,Nat.reduceAdd,Nat.reduceSub,Array.replicate_succ,Array.replicate_zero,List.push_toArray,List.append_toArray,List.nil_append,List.cons_append]
 gi_wp2_with fail
 refine⟨trivial,rfl,?_⟩
 refine(callsIn_wide.2 (in_yes _ _ n p _ (by rw[World.cell?_alloc_past _ _ _ lp];exact r1) (by omega) (by omega) (by omega) (by omega) (by omega))).mono ?_
 rintro e w' ⟨rfl,rfl⟩
 gi_wp2_with fail
 refine⟨trivial,rfl,?_⟩
 refine(callsIn_wide.2 (pieces_any _ _ _)).mono ?_
 rintro e w' ⟨rfl,rfl⟩
 gi_wp2_with fail
 obtain⟨wl,hwl⟩:∃ wl,wl=((w.alloc (.cells #[.pointer (some ⟨p,0,none⟩)] 64)).alloc (.cells #[.int .i64 (i:Nat)] 3)).alloc (.cells #[.int .i64 (k:Nat)] 3):=⟨_,rfl⟩
 rw[<- hwl]
 have hz:wl.heap.size=w.heap.size+3:=by rw[hwl];simp
 have kl:Kp Ab w wl:=by rw[hwl];exact (((Kr _ w).alloc _).alloc _).alloc _
 have gb:wl.heap[w.heap.size]?=some (.cells #[.pointer (some ⟨p,0,none⟩)] 64 (0,0)):=by
  rw[hwl];exact (((Kr Ab _).alloc _).alloc _).at_ (wN w _) (λ h=>h)
 have gi:wl.heap[w.heap.size+1]?=some (.cells #[.int .i64 (i:Nat)] 3 (0,0)):=by
  rw[hwl];refine ((Kr Ab _).alloc _).at_ ?_ (λ h=>h);have:=wN (w.alloc (.cells #[.pointer (some ⟨p,0,none⟩)] 64)) (.cells #[.int .i64 (i:Nat)] 3);rwa [World.size_alloc] at this
 have gk:wl.heap[w.heap.size+1+1]?=some (.cells #[.int .i64 (k:Nat)] 3 (0,0)):=by
  rw[hwl];have:=wN ((w.alloc (.cells #[.pointer (some ⟨p,0,none⟩)] 64)).alloc (.cells #[.int .i64 (i:Nat)] 3)) (.cells #[.int .i64 (k:Nat)] 3);rwa [World.size_alloc,World.size_alloc] at this
 clear hwl
 refine wpIn_range (n:=0) (gf:=150) (lb:=#[.pointer (some ⟨w.heap.size+1+1,0,none⟩),.pointer (some ⟨w.heap.size+1,0,none⟩)]) rfl (enters_of func150 (by kernel_rfl) rfl)
  (pieces_iter (w:=wl) (i:=i) (n:=k) (by omega) _ _ gk gi (by omega) (R:=λ b=>b=q) (λ b hb=>by omega)) (λ b hb=>by omega) (λ b hb=>by omega) (λ _=>rfl)
  (λ pre W=>Kp (λ b=>b=q) w W/\W.heap[w.heap.size]?=some (.cells #[.pointer (some ⟨p,0,none⟩)] 64 (0,0))/\∃ ws,WordsAt W p q ws n/\∀ j,j<n->bitOf ws j=(inPcs pre j||f j))
  (λ _ _ _=>False) ?hI ?hIx ?h0 ?hround ?hdone ?hstop
 case hI=>
  rintro pre A B ⟨hK,hx,ws,hW,hB⟩ hk
  exact⟨hK.trans hk (λ b hb h=>by omega),hk.at_ hx (by omega),ws,hW.keep hk (by omega) (by omega),hB⟩
 case hIx=>rintro c pre A B h _;exact h
 case h0=>exact ⟨kl.Ak _,gb,ws,hw.keep kl (λ h=>h) (λ h=>h),λ j hj=>by rw[inPcs_nil,Bool.false_or];exact hbits j hj⟩
 case hround=>
  rintro pre x rest W hx ⟨hK,hbx,ws,hW,hB⟩ hs
  have hm:=pcs_mem (i:=i) (n:=k) (x:=x) (by rw[hx];simp)
  obtain⟨xw,xb,xk⟩:=x
  dsimp only[pieceV] at hm ⊢
  gi_wp2_with fail
  refine⟨(Kr _ W).alloc _,?_⟩
  intro W2 hc hf hk2 hs2 hr2
  have hl:=hW.len
  have hxl:xw<ws.length:=by rw[hl];omega
  have lW:=hW.lt_p
  have lW':=hW.lt_q
  obtain⟨⟨cap,r0⟩,r1,r2,r3⟩:=hW.reads
  have r2:=r2 xw hxl
  have r3:=r3 xw
  have cb:=cell_of_one hbx
  have lb:=lZ hbx
  gi_wp2_with fail
  refine Bj 13 (by kernel_rfl) (by kernel_rfl) (by kernel_rfl) (λ _ _ h=>h) ?_
  simp only[List.take_succ_cons,List.take_zero,List.drop_succ_cons,List.drop_zero]
  repeat (go_big_quiet_step (fail))
  refine wpQuiet_nil ?_
  intro _ hw'
  obtain⟨nq,hw''⟩:=hw'
  subst hw''
  go_wp2
  have kW:Kp Ab W (W.alloc (.cells #[.int .i64 (xw:Nat),.int .i64 (xb:Nat),.int .u64 (pmk xb xk:Nat)] 206)):=(Kr _ W).alloc _
  have kW2:=(kW.Ak (λ k=>k=wl.heap.size+1)).trans hk2 (λ _ _ h=>h)
  have hW2:=(hW.keep kW2 (by omega) (by omega)).keep (Kp.Aj (S:=Ab) nq) (λ h=>h) (λ h=>h)
  have ho:=u64_or_nat (ws.getD xw 0) (pmk xb xk) (hW.fits xw) (pmask_lt (by omega))
  rw[<- List.getD_eq_getElem?_getD,ho]
  have hfit:ws.getD xw 0 ||| pmk xb xk<18446744073709551616:=by
   have:=Nat.or_lt_two_pow (n:=64) (x:=ws.getD xw 0) (y:=pmk xb xk) (by rw[Wd.Fu];exact hW.fits xw) (by rw[Wd.Fu];exact pmask_lt (by omega))
   rwa [Wd.Fu] at this
  have kE:Kp (λ b=>b=q) W2 ((W2.drewN nq).setCell ⟨q,xw,none⟩ (.int .u64 (ws.getD xw 0 ||| pmk xb xk:Nat))):=((Kr (λ b=>b=q) W2).drewN nq).setCell (λ _=>rfl) _
  refine⟨kE,(hK.trans kW2 (λ b hb h=>by omega)).trans kE (λ _ _ h=>h),kE.at_ (kW2.at_ hbx (by omega)) (by omega),_,hW2.store hxl hfit,λ j hj=>?_⟩
  rw[bitOf_set hxl,inPcs_snoc,Nat.testBit_or,Fw]
  have hb:=hB j hj
  unfold bitOf at hb ⊢
  by_cases e:j/64=xw
  .subst e
   rw[if_pos rfl,hb]
   simp[Bool.or_comm,Bool.or_left_comm]
  .rw [if_neg e,hb]
   have:decide (xw=j/64/\xb<=j%64/\j%64<xb+xk)=false:=by simp;omega
   rw[this,Bool.or_false]
 case hdone=>
  rintro W ⟨hK,hbx,ws,hW,hB⟩ hs hD
  gi_wp2_with fail
  refine⟨by simp,.inl ⟨_,_,rfl,run_takeDeferred hD,?_⟩⟩
  have kE:Kp (λ b=>b=wl.heap.size) W (W.putObj wl.heap.size (.deferred none)):=(Kr (λ b=>b=wl.heap.size) W).putObj (λ _=>rfl) _
  refine⟨_,results_tmp rfl _ _ _,rfl,hK.trans kE (λ b hb h=>by omega),ws,hW.keep kE (by omega) (by omega),λ j hj=>?_⟩
  rw[hB j hj,inPcs_pcs,Em]
  by_cases e:i<=j/\j<i+k
  .simp [e]
  .simp [e]
 case hstop=>
  intro c pre W _ h
  exact h.elim

theorem ClearRun_yes(i k n p q:Nat)(f:Nat->Bool)(w:World)(hb:AJ w p q f n)(hi:i+k<=n):
  Calls prog 122 #[.pointer (some ⟨p,0,none⟩),.int .i64 (i:Nat),.int .i64 (k:Nat)] w λ e w'=>
   e=.returned (.int .i64 0)/\Kp (λ b=>b=q) w w'/\AJ w' p q (Em f i k false) n:=by
 obtain⟨ws,hw,hbits⟩:=hb
 obtain⟨⟨cap,r0⟩,r1,r2,r3⟩:=hw.reads
 have lp:=hw.lt_p
 have lq:=hw.lt_q
 have hn:=hw.small
 refine(callsIn_wide (n:=0)).1 ?_
 refine callsIn_of_wp_marks func122 rfl trivial ?_
 simp only[ntmps122,List.size_toArray,List.length_cons,List.length_nil,Nat.reduceAdd,Nat.reduceSub,Array.replicate_succ,Array.replicate_zero,List.push_toArray,List.append_toArray,List.nil_append,List.cons_append]
 gi_wp2_with fail
 refine⟨trivial,rfl,?_⟩
 refine(callsIn_wide.2 (in_yes _ _ n p _ (by rw[World.cell?_alloc_past _ _ _ lp];exact r1) (by omega) (by omega) (by omega) (by omega) (by omega))).mono ?_
 rintro e w' ⟨rfl,rfl⟩
 gi_wp2_with fail
 refine⟨trivial,rfl,?_⟩
 refine(callsIn_wide.2 (pieces_any _ _ _)).mono ?_
 rintro e w' ⟨rfl,rfl⟩
 gi_wp2_with fail
 obtain⟨wl,hwl⟩:∃ wl,wl=((w.alloc (.cells #[.pointer (some ⟨p,0,none⟩)] 64)).alloc (.cells #[.int .i64 (i:Nat)] 3)).alloc (.cells #[.int .i64 (k:Nat)] 3):=⟨_,rfl⟩
 rw[<- hwl]
 have hz:wl.heap.size=w.heap.size+3:=by rw[hwl];simp
 have kl:Kp Ab w wl:=by rw[hwl];exact (((Kr _ w).alloc _).alloc _).alloc _
 have gb:wl.heap[w.heap.size]?=some (.cells #[.pointer (some ⟨p,0,none⟩)] 64 (0,0)):=by
  rw[hwl];exact (((Kr Ab _).alloc _).alloc _).at_ (wN w _) (λ h=>h)
 have gi:wl.heap[w.heap.size+1]?=some (.cells #[.int .i64 (i:Nat)] 3 (0,0)):=by
  rw[hwl];refine ((Kr Ab _).alloc _).at_ ?_ (λ h=>h);have:=wN (w.alloc (.cells #[.pointer (some ⟨p,0,none⟩)] 64)) (.cells #[.int .i64 (i:Nat)] 3);rwa [World.size_alloc] at this
 have gk:wl.heap[w.heap.size+1+1]?=some (.cells #[.int .i64 (k:Nat)] 3 (0,0)):=by
  rw[hwl];have:=wN ((w.alloc (.cells #[.pointer (some ⟨p,0,none⟩)] 64)).alloc (.cells #[.int .i64 (i:Nat)] 3)) (.cells #[.int .i64 (k:Nat)] 3);rwa [World.size_alloc,World.size_alloc] at this
 clear hwl
 refine wpIn_range (n:=0) (gf:=150) (lb:=#[.pointer (some ⟨w.heap.size+1+1,0,none⟩),.pointer (some ⟨w.heap.size+1,0,none⟩)]) rfl (enters_of func150 (by kernel_rfl) rfl)
  (pieces_iter (w:=wl) (i:=i) (n:=k) (by omega) _ _ gk gi (by omega) (R:=λ b=>b=q) (λ b hb=>by omega)) (λ b hb=>by omega) (λ b hb=>by omega) (λ _=>rfl)
  (λ pre W=>Kp (λ b=>b=q) w W/\W.heap[w.heap.size]?=some (.cells #[.pointer (some ⟨p,0,none⟩)] 64 (0,0))/\∃ ws,WordsAt W p q ws n/\∀ j,j<n->bitOf ws j=(!inPcs pre j&&f j))
  (λ _ _ _=>False) ?hI ?hIx ?h0 ?hround ?hdone ?hstop
 case hI=>
  rintro pre A B ⟨hK,hx,ws,hW,hB⟩ hk
  exact⟨hK.trans hk (λ b hb h=>by omega),hk.at_ hx (by omega),ws,hW.keep hk (by omega) (by omega),hB⟩
 case hIx=>rintro c pre A B h _;exact h
 case h0=>exact ⟨kl.Ak _,gb,ws,hw.keep kl (λ h=>h) (λ h=>h),λ j hj=>by rw[inPcs_nil,Bool.not_false,Bool.true_and];exact hbits j hj⟩
 case hround=>
  rintro pre x rest W hx ⟨hK,hbx,ws,hW,hB⟩ hs
  have hm:=pcs_mem (i:=i) (n:=k) (x:=x) (by rw[hx];simp)
  obtain⟨xw,xb,xk⟩:=x
  dsimp only[pieceV] at hm ⊢
  gi_wp2_with fail
  refine⟨(Kr _ W).alloc _,?_⟩
  intro W2 hc hf hk2 hs2 hr2
  have hl:=hW.len
  have hxl:xw<ws.length:=by rw[hl];omega
  have lW:=hW.lt_p
  have lW':=hW.lt_q
  obtain⟨⟨cap,r0⟩,r1,r2,r3⟩:=hW.reads
  have r2:=r2 xw hxl
  have r3:=r3 xw
  have cb:=cell_of_one hbx
  have lb:=lZ hbx
  gi_wp2_with fail
  refine Bj 12 (by kernel_rfl) (by kernel_rfl) (by kernel_rfl) (λ _ _ h=>h) ?_
  simp only[List.take_succ_cons,List.take_zero,List.drop_succ_cons,List.drop_zero]
  repeat (go_big_quiet_step (fail))
  refine wpQuiet_nil ?_
  intro _ hw'
  obtain⟨nq,hw''⟩:=hw'
  subst hw''
  go_wp2
  have kW:Kp Ab W (W.alloc (.cells #[.int .i64 (xw:Nat),.int .i64 (xb:Nat),.int .u64 (pmk xb xk:Nat)] 206)):=(Kr _ W).alloc _
  have kW2:=(kW.Ak (λ k=>k=wl.heap.size+1)).trans hk2 (λ _ _ h=>h)
  have hW2:=(hW.keep kW2 (by omega) (by omega)).keep (Kp.Aj (S:=Ab) nq) (λ h=>h) (λ h=>h)
  have ho:=u64_andNot_nat (ws.getD xw 0) (pmk xb xk) (hW.fits xw) (pmask_lt (by omega))
  rw[<- List.getD_eq_getElem?_getD,ho]
  have hfit:ws.getD xw 0 &&& (18446744073709551615-pmk xb xk)<18446744073709551616:=Nat.lt_of_le_of_lt Nat.and_le_left (hW.fits xw)
  have hpm:pmk xb xk<2 ^ 64:=by rw[Wd.Fu];exact pmask_lt (by omega)
  have kE:Kp (λ b=>b=q) W2 ((W2.drewN nq).setCell ⟨q,xw,none⟩ (.int .u64 (ws.getD xw 0 &&& (18446744073709551615-pmk xb xk):Nat))):=((Kr (λ b=>b=q) W2).drewN nq).setCell (λ _=>rfl) _
  refine⟨kE,(hK.trans kW2 (λ b hb h=>by omega)).trans kE (λ _ _ h=>h),kE.at_ (kW2.at_ hbx (by omega)) (by omega),_,hW2.store hxl hfit,λ j hj=>?_⟩
  rw[bitOf_set hxl,inPcs_snoc,Nat.testBit_and,Wd.tb_not hpm,Fw]
  have hb:=hB j hj
  unfold bitOf at hb ⊢
  have h64:decide (j%64<64)=true:=by simp;omega
  by_cases e:j/64=xw
  .subst e
   rw[if_pos rfl,hb,h64]
   cases inPcs pre j <;> cases f j <;> simp
  .rw [if_neg e,hb]
   have:decide (xw=j/64/\xb<=j%64/\j%64<xb+xk)=false:=by simp;omega
   rw[this,Bool.or_false]
 case hdone=>
  rintro W ⟨hK,hbx,ws,hW,hB⟩ hs hD
  gi_wp2_with fail
  refine⟨by simp,.inl ⟨_,_,rfl,run_takeDeferred hD,?_⟩⟩
  have kE:Kp (λ b=>b=wl.heap.size) W (W.putObj wl.heap.size (.deferred none)):=(Kr (λ b=>b=wl.heap.size) W).putObj (λ _=>rfl) _
  refine⟨_,results_tmp rfl _ _ _,rfl,hK.trans kE (λ b hb h=>by omega),ws,hW.keep kE (by omega) (by omega),λ j hj=>?_⟩
  rw[hB j hj,inPcs_pcs,Em]
  by_cases e:i<=j/\j<i+k
  .simp [e]
  .simp [e]
 case hstop=>
  intro c pre W _ h
  exact h.elim

theorem SetRun_no(i k:Int)(n p q:Nat)(f:Nat->Bool)(w:World)(hb:AJ w p q f n)(hn:¬ (0<=i/\0<=k/\i<=n/\k<=n-i)):
  Calls prog 136 #[.pointer (some ⟨p,0,none⟩),.int .i64 i,.int .i64 k] w λ e w'=>e=.returned (.int .i64 2)/\Kp Ab w w':=by
 obtain⟨ws,hw,hbits⟩:=hb
 obtain⟨⟨cap,r0⟩,r1,r2,r3⟩:=hw.reads
 have lp:=hw.lt_p
 have hs:=hw.small
 have HN:=sE hn
 clear hn
 refine(callsIn_wide (n:=0)).1 ?_
 refine callsIn_of_wp_marks func136 rfl trivial ?_
 simp only[ntmps136,List.size_toArray,List.length_cons,List.length_nil,Nat.reduceAdd,Nat.reduceSub,Array.replicate_succ,Array.replicate_zero,List.push_toArray,List.append_toArray,List.nil_append,List.cons_append]
 gi_wp2_with fail
 refine⟨trivial,rfl,?_⟩
 refine(callsIn_wide.2 (in_no _ _ n p _ (by rw[World.cell?_alloc_past _ _ _ lp];exact r1) HN.out (by omega) (by omega))).mono ?_
 rintro e w' ⟨rfl,rfl⟩
 gi_wp2_with fail
 exact⟨_,results_tmp rfl _ _ _,rfl,(Kr _ w).alloc _⟩

theorem ClearRun_no(i k:Int)(n p q:Nat)(f:Nat->Bool)(w:World)(hb:AJ w p q f n)(hn:¬ (0<=i/\0<=k/\i<=n/\k<=n-i)):
  Calls prog 122 #[.pointer (some ⟨p,0,none⟩),.int .i64 i,.int .i64 k] w λ e w'=>e=.returned (.int .i64 2)/\Kp Ab w w':=by
 obtain⟨ws,hw,hbits⟩:=hb
 obtain⟨⟨cap,r0⟩,r1,r2,r3⟩:=hw.reads
 have lp:=hw.lt_p
 have hs:=hw.small
 have HN:=sE hn
 clear hn
 refine(callsIn_wide (n:=0)).1 ?_
 refine callsIn_of_wp_marks func122 rfl trivial ?_
 simp only[ntmps122,List.size_toArray,List.length_cons,List.length_nil,Nat.reduceAdd,Nat.reduceSub,Array.replicate_succ,Array.replicate_zero,List.push_toArray,List.append_toArray,List.nil_append,List.cons_append]
 gi_wp2_with fail
 refine⟨trivial,rfl,?_⟩
 refine(callsIn_wide.2 (in_no _ _ n p _ (by rw[World.cell?_alloc_past _ _ _ lp];exact r1) HN.out (by omega) (by omega))).mono ?_
 rintro e w' ⟨rfl,rfl⟩
 gi_wp2_with fail
 exact⟨_,results_tmp rfl _ _ _,rfl,(Kr _ w).alloc _⟩

theorem Set_no(i:Int)(n p q:Nat)(f:Nat->Bool)(w:World)(hb:AJ w p q f n)(hn:¬ (0<=i/\i<n)):
  Calls prog 91 #[.pointer (some ⟨p,0,none⟩),.int .i64 i] w λ e w'=>e=.returned (.int .i64 2)/\Kp Ab w w':=by
 have HN:=sE hn
 clear hn
 go_enter func91,ntmps91
 go_wp2_with fail
 refine(SetRun_no _ _ n p q f _ hb (by have:=HN.out;omega)).mono ?_
 rintro e w' ⟨rfl,hk⟩
 go_wp2_with fail
 go_ret
 exact⟨rfl,hk⟩

theorem Set_yes(i n p q:Nat)(f:Nat->Bool)(w:World)(hb:AJ w p q f n)(hi:i<n):
  Calls prog 91 #[.pointer (some ⟨p,0,none⟩),.int .i64 (i:Nat)] w λ e w'=>e=.returned (.int .i64 0)/\Kp (λ b=>b=q) w w'/\AJ w' p q (Em f i 1 true) n:=by
 go_enter func91,ntmps91
 go_wp2_with fail
 refine(SetRun_yes i 1 n p q f _ hb (by omega)).mono ?_
 rintro e w' ⟨rfl,hk,hb'⟩
 go_wp2_with fail
 go_ret
 exact⟨rfl,hk,hb'⟩

theorem Clear_no(i:Int)(n p q:Nat)(f:Nat->Bool)(w:World)(hb:AJ w p q f n)(hn:¬ (0<=i/\i<n)):
  Calls prog 130 #[.pointer (some ⟨p,0,none⟩),.int .i64 i] w λ e w'=>e=.returned (.int .i64 2)/\Kp Ab w w':=by
 have HN:=sE hn
 clear hn
 go_enter func130,ntmps130
 go_wp2_with fail
 refine(ClearRun_no _ _ n p q f _ hb (by have:=HN.out;omega)).mono ?_
 rintro e w' ⟨rfl,hk⟩
 go_wp2_with fail
 go_ret
 exact⟨rfl,hk⟩

theorem Clear_yes(i n p q:Nat)(f:Nat->Bool)(w:World)(hb:AJ w p q f n)(hi:i<n):
  Calls prog 130 #[.pointer (some ⟨p,0,none⟩),.int .i64 (i:Nat)] w λ e w'=>e=.returned (.int .i64 0)/\Kp (λ b=>b=q) w w'/\AJ w' p q (Em f i 1 false) n:=by
 go_enter func130,ntmps130
 go_wp2_with fail
 refine(ClearRun_yes i 1 n p q f _ hb (by omega)).mono ?_
 rintro e w' ⟨rfl,hk,hb'⟩
 go_wp2_with fail
 go_ret
 exact⟨rfl,hk,hb'⟩

theorem Len_at(n p q:Nat)(f:Nat->Bool)(w:World)(hb:AJ w p q f n):Calls prog 70 #[.pointer (some ⟨p,0,none⟩)] w λ e w'=>e=.returned (.int .i64 (n:Nat))/\w=w':=by
 obtain⟨ws,hw,hbits⟩:=hb
 obtain⟨⟨cap,r0⟩,r1,r2,r3⟩:=hw.reads
 go_enter func70,ntmps70
 go_wp2
 go_ret
 exact⟨rfl,rfl⟩

end

section
open Go.RowKit
attribute [local go_sem] Oper.semAt_some

theorem Has_out(i:Int)(n p q:Nat)(f:Nat->Bool)(w:World)(hb:AJ w p q f n)(hn:¬ (0<=i/\i<n)):
  Calls prog 58 #[.pointer (some ⟨p,0,none⟩),.int .i64 i] w λ e w'=>e=.returned (.bool false)/\w=w':=by
 obtain⟨ws,hw,hbits⟩:=hb
 obtain⟨⟨cap,r0⟩,r1,r2,r3⟩:=hw.reads
 by_cases h0:i<0
 .clear hn
  go_enter func58,ntmps58
  go_wp2
  go_ret
  exact⟨rfl,rfl⟩
 .have h1:(n:Int)<=i:=by omega
  clear hn
  go_enter func58,ntmps58
  go_wp2
  go_ret
  exact⟨rfl,rfl⟩

theorem bit_test(v k:Nat)(hv:v<18446744073709551616):(bits BinOp.and IntKind.u64 ((v:Int)/2 ^ k) 1==1)=v.testBit k:=by
 rw[Wd.and_one' k (by omega) (by omega),Int.toNat_natCast,Wd.Es]
 rcases Nat.mod_two_eq_zero_or_one (v/2 ^ k) with e|e <;> rw[e] <;> rfl

theorem Has_in(i n p q:Nat)(f:Nat->Bool)(w:World)(hb:AJ w p q f n)(hi:i<n):
  Calls prog 58 #[.pointer (some ⟨p,0,none⟩),.int .i64 (i:Nat)] w λ e w'=>e=.returned (.bool (f i))/\Kp Ab w w':=by
 obtain⟨ws,hw,hbits⟩:=hb
 obtain⟨⟨cap,r0⟩,r1,-,-⟩:=hw.reads
 have lp:=hw.lt_p
 have lq:=hw.lt_q
 have hl:=hw.len
 have hs:=hw.small
 have hx:i/64<ws.length:=by omega
 obtain⟨v,hv,r2,r3,hvs⟩:=hw.word (i/64) hx
 have T:Sl ((bits BinOp.and IntKind.u64 ((v:Int)/2 ^ (i%64)) 1==1)=f i):=⟨by rw[bit_test v _ hv,<- hbits i hi,bitOf,hvs.out]⟩
 clear hl hv
 go_enter func58,ntmps58
 go_wp2_with (go_at_call 108;refine (at_any _ _ (by omega) (by omega)).mono ?_;rintro e w' ⟨rfl,rfl⟩)
 go_quiet (fail)
 go_wp2
 go_ret
 exact⟨congrArg (λ b=>Ending.returned (.bool b)) T.out,(((Kr _ w).alloc _).alloc _).drewN _⟩

def optV(o:Option Nat):Value:=.tuple #[.int .i64 ((o.getD 0:Nat):Int),.bool o.isSome]

def turnW(t:Bool):Nat:=if t then 18446744073709551615 else 0

theorem turned_bit(v:Nat)(t:Bool)(k:Nat)(hk:k<64):(v ^^^ turnW t).testBit k=(v.testBit k ^^ t):=by
 rw[Nat.testBit_xor]
 congr 1
 cases t
 .simp [turnW]
 .have:=Wd.tb_not (m:=0) (by decide) k
  simp only[Nat.sub_zero] at this
  simp[turnW,this,hk]

theorem turned_lt{v:Nat}(t:Bool)(hv:v<18446744073709551616):v ^^^ turnW t<18446744073709551616:=by
 have:=Nat.xor_lt_two_pow (x:=v) (y:=turnW t) (n:=64) (by rw[Wd.Fu];exact hv) (by rw[Wd.Fu];cases t <;> decide)
 rwa [Wd.Fu] at this

theorem y_zero{x k:Nat}(h:x/2 ^ k=0)(t:Nat)(ht:k<=t):x.testBit t=false:=by
 have:=Nat.testBit_div_two_pow x (n:=k) (i:=t-k)
 rw[h,Nat.zero_testBit,show t-k+k=t by omega] at this
 exact this.symm

theorem y_low{x k:Nat}(hx:x<18446744073709551616)(h:x/2 ^ k≠0):Wd.low (x/2 ^ k)<64/\k+Wd.low (x/2 ^ k)<64/\x.testBit (k+Wd.low (x/2 ^ k))=true/\∀ t,k<=t->t<k+Wd.low (x/2 ^ k)->x.testBit t=false:=by
 have hb:∀ j,(x/2 ^ k).testBit j=x.testBit (k+j):=λ j=>by rw[Nat.testBit_div_two_pow,Nat.add_comm]
 have hlow:Wd.low (x/2 ^ k)<64:=by
  rcases Nat.lt_or_ge (Wd.low (x/2 ^ k)) 64 with h1|h1
  .exact h1
  .exfalso
   apply h
   apply Nat.eq_of_testBit_eq
   intro j
   rw[Nat.zero_testBit,Wd.Es]
   by_cases hj:j<64
   .simpa using Wd.low_below (v:=x/2 ^ k) (k:=j) (by omega)
   .have h2:x/2 ^ k<2 ^ j:=Nat.lt_of_le_of_lt (Nat.div_le_self _ _) (Nat.lt_of_lt_of_le (by rw[<- Wd.Fu] at hx;exact hx) (Nat.pow_le_pow_right (by decide) (by omega)))
    rw[Nat.div_eq_of_lt h2];rfl
 have h1:x.testBit (k+Wd.low (x/2 ^ k))=true:=by
  rw[<- hb,Wd.Es];simpa using Wd.low_is hlow
 refine⟨hlow,?_,h1,λ t h2 h3=>?_⟩
 .rcases Nat.lt_or_ge (k+Wd.low (x/2 ^ k)) 64 with h2|h2
  .exact h2
  .rw [Nat.testBit_lt_two_pow (Nat.lt_of_lt_of_le (by rw[<- Wd.Fu] at hx;exact hx) (Nat.pow_le_pow_right (by decide) h2))] at h1;cases h1
 .have:=Wd.low_below (v:=x/2 ^ k) (k:=t-k) (by omega)
  have e:=hb (t-k)
  rw[show k+(t-k)=t by omega] at e
  rw[<- e,Wd.Es];simpa using this

theorem next_from(s:Nat)(i:Int)(hi0:(i<0/\s=0)\/(0<=i/\i=s))(t:Bool)(n p q:Nat)(f:Nat->Bool)(w:World)(hb:AJ w p q f n)(hi:s<=131072):
  Calls prog 176 #[.pointer (some ⟨p,0,none⟩),.int .i64 i,.int .u64 (turnW t:Nat)] w λ e w'=>
   e=.returned (optV (C9 (λ j=>f j ^^ t) n s))/\Kp Ab w w':=by
 obtain⟨ws,hw,hbits⟩:=hb
 have hs:=hw.small
 have HB:=sE hbits
 clear hbits
 have S0:Sl (i<0->s=0):=⟨by omega⟩
 rcases hi0 with ⟨h0,hs0⟩|⟨h0,rfl⟩
 all_goals
  have r1:=hw.reads.2.1
  try clear hs0
  go_enter func176,ntmps176
  go_wp2
  clear r1
  go_loopw [1,8,9] (λ x _ _ wr=>∃ j:Nat,s<=j/\j<=131072+64/\x=.int .i64 j/\Sl (∀ k,s<=k->k<j->k<n->(f k ^^ t)=false)/\Kp Ab w wr) (λ x _ _ _=>131072+64-(intOf x).toNat)
  case atStart=>first|exact ⟨0,by have:=S0.out h0;omega,by omega,rfl,⟨λ k a b=>by omega⟩,Kr _ _⟩|exact ⟨s,by omega,by omega,rfl,⟨λ k a b=>by omega⟩,Kr _ _⟩
  case round=>
   obtain⟨j,hj1,hj2,rfl,hall,hk⟩:=hrel
   have hW:=hw.keep hk (λ h=>h) (λ h=>h)
   obtain⟨⟨cap,r0⟩,r1,-,-⟩:=hW.reads
   have lp:=hW.lt_p
   have lq:=hW.lt_q
   by_cases hjn:j<n
   .have hl:=hW.len
    have hx:j/64<ws.length:=by omega
    obtain⟨v,hv,r2,r3,hvs⟩:=hW.word (j/64) hx
    obtain⟨x,hxd⟩:∃ x,x=v ^^^ turnW t:=⟨_,rfl⟩
    have hX:bits BinOp.xor IntKind.u64 (v:Int) (turnW t:Nat)=(x:Nat):=by rw[hxd];exact u64_xor_nat v (turnW t) hv (by cases t <;> decide)
    have hxl:Sl (x<18446744073709551616):=⟨by rw[hxd];exact turned_lt t hv⟩
    have hbit:Sl (∀ k,k<64->j/64*64+k<n->x.testBit k=(f (j/64*64+k) ^^ t)):=⟨λ k h1 h2=>by
     rw[hxd,turned_bit v t k h1,<- HB.out _ h2,bitOf,show (j/64*64+k)/64=j/64 by omega,show (j/64*64+k)%64=k by omega,hvs.out]⟩
    have hw0:(x:Int)/2 ^ (j%64)=((x/2 ^ (j%64):Nat):Int):=by simp
    clear hl hv hxd
    obtain⟨y,hy⟩:∃ y,x/2 ^ (j%64)=y:=⟨_,rfl⟩
    rw[hy] at hw0
    have hY:=sE hy
    clear hy
    by_cases hy0:y=0
    .have ht:((y:Int)==0)=true:=by rw[hy0];rfl
     have hY0:=sE hy0
     clear hy0
     go_wp2_with (go_at_call 108;refine (at_any _ _ (by omega) (by omega)).mono ?_;rintro e w' ⟨rfl,rfl⟩)
     go_quiet (fail)
     go_wp2
     refine⟨⟨j+(64-j%64),by omega,by omega,by go_num,⟨λ k a b c=>?_⟩,((hk.alloc _).alloc _).drewN _⟩,by simp only[intOf];omega⟩
     by_cases hkj:k<j
     .exact hall.out k a hkj c
     .have:=hbit.out (k%64) (by omega) (by omega)
      rw[show j/64*64+k%64=k by omega] at this
      rw[<- this]
      exact y_zero (by rw[hY.out,hY0.out]) _ (by omega)
    .have ht:((y:Int)==0)=false:=by rw[beq_eq_false_iff_ne];omega
     have hY0:=sE hy0
     clear hy0
     go_wp2_with (go_at_call 108;refine (at_any _ _ (by omega) (by omega)).mono ?_;rintro e w' ⟨rfl,rfl⟩)
     go_quiet (fail)
     have hyl:=y_low (x:=x) (k:=j%64) hxl.out (by rw[hY.out];exact hY0.out)
     rw[hY.out] at hyl
     obtain⟨l1,l2,l3,l4⟩:=hyl
     have L3:=sE l3
     have L4:=sE l4
     clear l3 l4
     have yl:Sl (y<18446744073709551616):=⟨by rw[<- hY.out];exact Nat.lt_of_le_of_lt (Nat.div_le_self _ _) hxl.out⟩
     have before:Sl (∀ k,s<=k->k<j+Wd.low y->k<n->(f k ^^ t)=false):=⟨λ k a b c=>by
      by_cases hkj:k<j
      .exact hall.out k a hkj c
      .have:=hbit.out (k%64) (by omega) (by omega)
       rw[show j/64*64+k%64=k by omega] at this
       rw[<- this]
       exact L4.out _ (by omega) (by omega)⟩
     have found:Sl (j+Wd.low y<n->(f (j+Wd.low y) ^^ t)=true):=⟨λ c=>by
      have:=hbit.out (j%64+Wd.low y) (by omega) (by omega)
      rw[show j/64*64+(j%64+Wd.low y)=j+Wd.low y by omega] at this
      rw[<- this]
      exact L3.out⟩
     go_wp2_with fail
     refine(Low_any _ _ (by omega) (by have:=yl.out;omega)).mono ?_
     rintro e w' ⟨rfl,rfl⟩
     by_cases hin:j+Wd.low y<n
     .have hin':¬ (n:Int)<=(j:Int)+(Wd.low y:Nat):=by omega
      go_wp2
      go_ret2
      refine⟨?_,((hk.alloc _).alloc _).drewN _⟩
      rw[nextB_some (by omega) hin (found.out hin) (λ k a b=>before.out k a b (by omega))]
      simp[optV]
     .have hin':(n:Int)<=(j:Int)+(Wd.low y:Nat):=by omega
      go_wp2
      go_ret2
      refine⟨?_,((hk.alloc _).alloc _).drewN _⟩
      rw[nextB_none (λ k a b=>before.out k a (by omega) b)]
      simp[optV]
   .go_wp2
    go_ret2
    refine⟨?_,hk⟩
    rw[nextB_none (λ k a b=>hall.out k a (by omega) b)]
    simp[optV]

end

section
open Go.RowKit
attribute [local go_sem] Oper.semAt_some

theorem next_big(i:Int)(u:Int)(n p q:Nat)(f g:Nat->Bool)(w:World)(hb:AJ w p q f n)(hi:(n:Int)<=i):
  Calls prog 176 #[.pointer (some ⟨p,0,none⟩),.int .i64 i,.int .u64 u] w λ e w'=>
   e=.returned (optV (C9 g n i.toNat))/\Kp Ab w w':=by
 obtain⟨ws,hw,hbits⟩:=hb
 have r1:=hw.reads.2.1
 have h0:¬ i<0:=by omega
 rw[nextB_none (g:=g) (n:=n) (i:=i.toNat) (λ t a b=>by omega)]
 go_enter func176,ntmps176
 go_wp2
 refine wp_loop_once ?_
 go_wp2
 go_ret2
 exact⟨by simp[optV],Kr _ _⟩

theorem next_all(i:Int)(t:Bool)(n p q:Nat)(f:Nat->Bool)(w:World)(hb:AJ w p q f n):
  Calls prog 176 #[.pointer (some ⟨p,0,none⟩),.int .i64 i,.int .u64 (turnW t:Nat)] w λ e w'=>
   e=.returned (optV (C9 (λ j=>f j ^^ t) n i.toNat))/\Kp Ab w w':=by
 have hs:n<=65536:=by obtain⟨ws,hw,_⟩:=hb;exact hw.small
 by_cases h:(n:Int)<=i
 .exact next_big i _ n p q f _ w hb h
 .exact next_from i.toNat i (by omega) t n p q f w hb (by omega)

theorem Next_at(i:Int)(n p q:Nat)(f:Nat->Bool)(w:World)(hb:AJ w p q f n):
  Calls prog 138 #[.pointer (some ⟨p,0,none⟩),.int .i64 i] w λ e w'=>e=.returned (optV (C9 f n i.toNat))/\Kp Ab w w':=by
 have h:=next_all i false n p q f
 rw[show (λ j=>f j ^^ false)=f from funext λ j=>Bool.xor_false _] at h
 go_enter func138,ntmps138
 go_wp2_with fail
 refine(h _ hb).mono ?_
 rintro e w' ⟨rfl,hk⟩
 unfold optV
 go_wp2_with fail
 go_ret2
 exact⟨rfl,hk⟩

end

section
open Go.RowKit
attribute [local go_sem] Oper.semAt_some

theorem Count_yes(i k n p q:Nat)(f:Nat->Bool)(w:World)(hb:AJ w p q f n)(hi:i+k<=n):
  Calls prog 71 #[.pointer (some ⟨p,0,none⟩),.int .i64 (i:Nat),.int .i64 (k:Nat)] w λ e w'=>
   e=.returned (.tuple #[.int .i64 (Dl f i k:Nat),.int .i64 0])/\Kp Ab w w':=by
 obtain⟨ws,hw,hbits⟩:=hb
 have HB:=sE hbits
 clear hbits
 have r1:=hw.reads.2.1
 have lp:=hw.lt_p
 have lp':p<w.heap.size+1:=by omega
 have lq:=hw.lt_q
 have hn:=hw.small
 refine(callsIn_wide (n:=0)).1 ?_
 refine callsIn_of_wp_marks func71 rfl trivial ?_
 simp only[ntmps71,List.size_toArray,List.length_cons,List.length_nil,Nat.reduceAdd,Nat.reduceSub,Array.replicate_succ,Array.replicate_zero,List.push_toArray,List.append_toArray,List.nil_append,List.cons_append]
 gi_wp2_with fail
 refine⟨trivial,rfl,?_⟩
 refine(callsIn_wide.2 (in_yes _ _ n p _ (by rw[World.cell?_alloc_past _ _ _ (by simpa using lp'),World.cell?_alloc_past _ _ _ lp];exact r1) (by omega) (by omega) (by omega) (by omega) (by omega))).mono ?_
 rintro e w' ⟨rfl,rfl⟩
 gi_wp2_with fail
 refine⟨trivial,rfl,?_⟩
 refine(callsIn_wide.2 (pieces_any _ _ _)).mono ?_
 rintro e w' ⟨rfl,rfl⟩
 gi_wp2_with fail
 obtain⟨wl,hwl⟩:∃ wl,wl=(((w.alloc (.cells #[.pointer (some ⟨p,0,none⟩)] 64)).alloc (.cells #[.int .i64 0] 3)).alloc (.cells #[.int .i64 (i:Nat)] 3)).alloc (.cells #[.int .i64 (k:Nat)] 3):=⟨_,rfl⟩
 rw[<- hwl]
 have hz:wl.heap.size=w.heap.size+4:=by rw[hwl];simp
 have kl:Kp Ab w wl:=by rw[hwl];exact ((((Kr _ w).alloc _).alloc _).alloc _).alloc _
 have gb:wl.heap[w.heap.size]?=some (.cells #[.pointer (some ⟨p,0,none⟩)] 64 (0,0)):=by
  rw[hwl];exact ((((Kr Ab _).alloc _).alloc _).alloc _).at_ (wN w _) (λ h=>h)
 have gc:wl.heap[w.heap.size+1]?=some (.cells #[.int .i64 ((Dl f i 0:Nat):Int)] 3 (0,0)):=by
  rw[hwl];exact (((Kr Ab _).alloc _).alloc _).at_ (Bc _ _ (by simp)) (λ h=>h)
 have gi:wl.heap[w.heap.size+1+1]?=some (.cells #[.int .i64 (i:Nat)] 3 (0,0)):=by
  rw[hwl];exact ((Kr Ab _).alloc _).at_ (Bc _ _ (by simp)) (λ h=>h)
 have gk:wl.heap[w.heap.size+1+1+1]?=some (.cells #[.int .i64 (k:Nat)] 3 (0,0)):=by
  rw[hwl];exact Bc _ _ (by simp)
 clear hwl
 refine wpIn_range (n:=0) (gf:=150) (lb:=#[.pointer (some ⟨w.heap.size+1+1+1,0,none⟩),.pointer (some ⟨w.heap.size+1+1,0,none⟩)]) rfl (enters_of func150 (by kernel_rfl) rfl)
  (pieces_iter (w:=wl) (i:=i) (n:=k) (by omega) _ _ gk gi (by omega) (R:=λ b=>b=w.heap.size+1) (λ b hb=>by omega)) (λ b hb=>by omega) (λ b hb=>by omega) (λ _=>rfl)
  (λ pre W=>Kp Ab w W/\W.heap[w.heap.size]?=some (.cells #[.pointer (some ⟨p,0,none⟩)] 64 (0,0))/\
   ∃ L,L<=k/\pcs i k=pre++pcs (i+L) (k-L)/\W.heap[w.heap.size+1]?=some (.cells #[.int .i64 (Dl f i L:Nat)] 3 (0,0)))
  (λ _ _ _=>False) ?hI ?hIx ?h0 ?hround ?hdone ?hstop
 case hI=>
  rintro pre A B ⟨hK,hx,L,h1,h2,hc⟩ hk
  exact⟨hK.trans hk (λ b hb h=>by omega),hk.at_ hx (by omega),L,h1,h2,hk.at_ hc (by omega)⟩
 case hIx=>rintro c pre A B h _;exact h
 case h0=>exact ⟨kl,gb,0,by omega,rfl,gc⟩
 case hround=>
  rintro pre ⟨xw,xb,K⟩ rest W hx ⟨hK,hbx,L,hL,hp,hc⟩ hs
  have hxr:(xw,xb,K)::rest=pcs (i+L) (k-L):=List.append_cancel_left (hx.symm.trans hp)
  have hkL:0<k-L:=by
   rcases Nat.eq_zero_or_pos (k-L) with h|h
   .rw [h,pcs_nil] at hxr;cases hxr
   .exact h
  rw[FI _ _ hkL] at hxr
  injection hxr with hx1 hx2
  injection hx1 with hx1 hx3
  injection hx3 with hx3 hx4
  have hK1:xb+K<=64:=by omega
  have hK2:L+K<=k:=by omega
  have hK3:0<K:=by omega
  have hxwn:xw<(n+63)/64:=by omega
  have hbits:∀ t,t<K->(i+L+t)/64=xw/\(i+L+t)%64=xb+t:=λ t ht=>by omega
  have HX:Sl (rest=pcs (i+(L+K)) (k-(L+K))):=⟨by rw[hx2,<- hx4,Nat.add_assoc,Nat.sub_sub]⟩
  have HT:=sE hbits
  have HP:=sE hx
  clear hx1 hx2 hx3 hx4 hbits hx hp hkL
  have hW:=hw.keep hK (λ h=>h) (λ h=>h)
  have hl:=hW.len
  have hxl:xw<ws.length:=by omega
  obtain⟨v,hv,r2,r3,hvs⟩:=hW.word xw hxl
  obtain⟨⟨cap,r0⟩,-,-,-⟩:=hW.reads
  have cc:=cell_of_one hc
  have fc:=free_of_one hc
  have cb:=cell_of_one hbx
  have lb:=lZ hbx
  have lc:=lZ hc
  have lpW:=hW.lt_p
  have lqW:=hW.lt_q
  have hcl:=cntB_le f i L
  obtain⟨c0,hc0⟩:∃ c0,c0=Dl f i L:=⟨_,rfl⟩
  rw[<- hc0] at cc hcl
  have HC:=sE hc0
  obtain⟨o,ho⟩:∃ o,o=Wd.ones (v &&& pmk xb K):=⟨_,rfl⟩
  have hol:o<=64:=by rw[ho];exact Wd.ones_le _
  have hoc:Sl (o=Dl f (i+L) K):=⟨by
   rw[ho,ones_piece _ _ _ hK1]
   refine cntB_shift K (λ t ht=>?_)
   obtain⟨h1,h2⟩:=HT.out t ht
   rw[<- HB.out _ (by omega),bitOf,h1,h2,hvs.out]⟩
  have hand:=u64_and_nat v (pmk xb K) hv (pmask_lt hK1)
  have hal:Sl (v &&& pmk xb K<18446744073709551616):=⟨Nat.lt_of_le_of_lt Nat.and_le_left hv⟩
  have HO:Sl (Wd.ones (v &&& pmk xb K)=o):=⟨ho.symm⟩
  clear hl hv ho hc0
  dsimp only[pieceV]
  gi_wp2_with fail
  refine⟨(Kr _ W).alloc _,?_⟩
  intro W2 hc2 hf2 hk2 hs2 hr2
  gi_wp2_with fail
  refine Bj 15 (by kernel_rfl) (by kernel_rfl) (by kernel_rfl) (λ _ _ h=>h) ?_
  simp only[List.take_succ_cons,List.take_zero,List.drop_succ_cons,List.drop_zero]
  repeat (go_big_quiet_step (((go_at_call 117;exact Calls.quiet_of_same ((Ones_any _ _ (by omega) (by have:=hal.out;omega)).mono λ_ _ ⟨a,b⟩=>⟨b,a.symm⟩)))))
  refine wpQuiet_nil ?_
  intro _ hw'
  obtain⟨nq,hw''⟩:=hw'
  subst hw''
  go_wp2
  have hsum:wrap64 ((c0:Int)+(Wd.ones (v &&& pmk xb K):Nat))=((c0+o:Nat):Int):=by
   rw[HO.out];unfold wrap64;omega
  rw[hsum]
  have kW:Kp Ab W (W.alloc (.cells #[.int .i64 (xw:Nat),.int .i64 (xb:Nat),.int .u64 (pmk xb K:Nat)] 206)):=(Kr _ W).alloc _
  have kW2:=(kW.Ak (λ k=>k=wl.heap.size+1)).trans hk2 (λ _ _ h=>h)
  have kE:Kp (λ b=>b=w.heap.size+1) W2 ((W2.drewN nq).setCell ⟨w.heap.size+1,0,none⟩ (.int .i64 (c0+o:Nat))):=((Kr (λ b=>b=w.heap.size+1) W2).drewN nq).setCell (λ _=>rfl) _
  refine⟨kE,(hK.trans kW2 (λ b hb h=>by omega)).trans kE (λ b hb h=>by omega),kE.at_ (kW2.at_ hbx (by omega)) (by omega),L+K,hK2,by rw[HP.out,HX.out];simp,?_⟩
  rw[FC,<- hoc.out,<- HC.out]
  have h:=bZ (w:=W2.drewN nq) (j:=0) (kW2.at_ hc (by omega)) (.int .i64 (c0+o:Nat))
  simpa using h
 case hdone=>
  rintro W ⟨hK,hbx,L,hL,hp,hc⟩ hs hD
  have hLk:L=k:=by
   have h:pcs (i+L) (k-L)=[]:=List.append_cancel_left ((List.append_nil _).trans hp).symm
   rcases Nat.eq_zero_or_pos (k-L) with e|e
   .omega
   .rw [FI _ _ e] at h;cases h
  subst hLk
  clear hp
  have hcc:=hc
  have cc:=cell_of_one hc
  have fc:=free_of_one hc
  have lc:=lZ hc
  obtain⟨c0,hc0⟩:∃ c0,c0=Dl f i L:=⟨_,rfl⟩
  rw[<- hc0] at cc hcc
  have HC:=sE hc0
  clear hc hc0 gc hL
  gi_wp2_with fail
  have hD':(W.setCell ⟨w.heap.size+1,0,none⟩ (.int .i64 (c0:Nat))).heap[wl.heap.size]?=some (.deferred (some [])):=
   (Below.heap_setCell _ _ _ _ (by show wl.heap.size≠w.heap.size+1;omega)).trans hD
  refine⟨by simp,.inl ⟨_,_,rfl,run_takeDeferred hD',?_⟩⟩
  have kE:Kp (λ b=>b=w.heap.size+1\/b=wl.heap.size) W ((W.setCell ⟨w.heap.size+1,0,none⟩ (.int .i64 (c0:Nat))).putObj wl.heap.size (.deferred none)):=
   ((Kr (λ b=>b=w.heap.size+1\/b=wl.heap.size) W).setCell (λ _=>.inl rfl) _).putObj (λ _=>.inr rfl) _
  have hcE:((W.setCell ⟨w.heap.size+1,0,none⟩ (.int .i64 (c0:Nat))).putObj wl.heap.size (.deferred none)).heap[w.heap.size+1]?=some (.cells #[.int .i64 (c0:Nat)] 3 (0,0)):=
   ((Kr (λ b=>b=wl.heap.size) _).putObj (λ _=>rfl) _).at_ (bZ hcc _) (by omega)
  have ccE:=cell_of_one hcE
  refine⟨.tuple #[.int .i64 (c0:Nat),.int .i64 0],by simp[results,results71,go_sem,ccE],by rw[HC.out],hK.trans kE (λ b hb h=>by omega)⟩
 case hstop=>
  intro c pre W _ h
  exact h.elim

end

section
open Go.RowKit

theorem AJ.lt_p'{w:World}{p q n:Nat}{f:Nat->Bool}(h:AJ w p q f n):p<w.heap.size:=by
 obtain⟨ws,hw,_⟩:=h;exact hw.lt_p

theorem AJ.lt_q'{w:World}{p q n:Nat}{f:Nat->Bool}(h:AJ w p q f n):q<w.heap.size:=by
 obtain⟨ws,hw,_⟩:=h;exact hw.lt_q

theorem Kp.owns{S:Nat->Prop}{a b:World}(h:Kp S a b){base:Nat}{e:TypeId}{size:Nat}{v:Value}{n:Nat}{xs:List Value}(ho:a.ownsRow base e size v n xs)(hn:∀ k,v.ownBlock=some k->¬ S k):b.ownsRow base e size v n xs:=by
 refine⟨ho.1,?_⟩
 rcases ho.2 with h1|⟨g,cap,cur,rfl,h2,h3,h4⟩
 .exact .inl h1
 .exact .inr ⟨g,cap,cur,rfl,h2,h.at_ h3 (hn g rfl),h4⟩

theorem Cz:prog.underlying 163=some (.slice 225):=by kernel_rfl

theorem infoRun:(prog.info? 225).map (λ i=>(i.zero,i.size,i.bytes))=some (some (.agg #[.int .i64 0,.int .i64 0]),2,16):=by kernel_rfl

theorem CU:prog.underlying 135=some (.slice 55):=by kernel_rfl

attribute [local go_sem] CU

theorem run_eql_slice_nil{P:Program}{w:World}(t e:TypeId)(a:Option Addr)(l c:Nat)(h:P.underlying t=some (.slice e)):(binOp .eql t (.slice a l c) (.slice none 0 0)).run P w=.ok (.bool a.isNone) w:=by
 simp only[binOp]
 simp[run_equal_slice_nil w t e a l c h]

attribute [local go_sem] run_eql_slice_nil

theorem infoWord:(prog.info? 55).map (λ i=>(i.zero,i.size,i.bytes))=some (some (.int .u64 0),1,8):=by kernel_rfl

def EA(ws:List Nat):List Value:=ws.map λ v=>.int .u64 (v:Nat)

theorem words_oneCell(ws:List Nat):∀ u∈EA ws,u.oneCell'=true:=by
 intro u hu
 obtain⟨_,_,rfl⟩:=List.mem_map.1 hu
 rfl

theorem wordVs_at(ws:List Nat)(j:Nat)(hj:j<ws.length):(EA ws)[j]?=some (.int .u64 (ws.getD j 0:Nat)):=by
 simp[EA,List.getElem?_map,List.getD_eq_getElem?_getD,List.getElem?_eq_getElem hj]

theorem clone_cells{w:World}{b len:Nat}{ws:List Nat}(hc:∀ j,j<len->w.cell? ⟨b,j,none⟩=some (.int .u64 (ws.getD j 0:Nat)))(hl:ws.length=len){j:Nat}{u:Value}{o:Obj}
  (hu:(EA ws)[j]?=some u):(w.alloc o).cell? ((⟨b,0,none⟩:Addr).add j)=some u:=by
 have hj:j<ws.length:=by
  have:=(gE.1 hu).1
  simpa [EA] using this
 rw[wordVs_at ws j hj] at hu
 injection hu with hu
 subst hu
 rw[Addr.add_lit,Nat.zero_add]
 have:=hc j (by omega)
 have hb:b<w.heap.size:=by
  rcases Nat.lt_or_ge b w.heap.size with h|h
  .exact h
  .simp [World.cell?,Array.getElem?_eq_none h] at this
 rw[World.cell?_alloc_past _ _ _ hb]
 exact this

theorem Clone_words(b len cap:Nat)(ws:List Nat)(w:World)(hl:ws.length=len)(hc:∀ j,j<len->w.cell? ⟨b,j,none⟩=some (.int .u64 (ws.getD j 0:Nat)))(hle:len<=1024):
  Calls prog 97 #[.slice (some ⟨b,0,none⟩) len cap] w λ e w'=>
   ∃ g cap',e=.returned (.slice (some ⟨g,0,none⟩) len cap')/\w.heap.size<=g/\(∃ cs,w'.heap[g]?=some (.cells cs 55 (0,0))/\∀ j,j<len->cs[j]?=some (.int .u64 (ws.getD j 0:Nat)))/\Kp Ab w w':=by
 have HC:=sE hc
 have HL:=sE hl
 clear hc hl
 go_enter func97,ntmps97
 go_wp2_with (at_builtin;obtain ⟨i0,hi,hz0,hz1,hz2⟩:=info_parts infoWord;go_loud (refine wpList_append_own_at _ rfl (.tmp 5) (.tmp 6) 135 rfl w.heap.size 55 i0 _ 1 8 CU hi hz0 hz1 hz2 rfl (by omega) (.slice (some ⟨w.heap.size,0,none⟩) 0 0) 0 [] rfl (World.ownsRow_lit w #[] 0 (Nat.le_refl _) (by unfold maxLen;omega) rfl) ⟨b,0,none⟩ len cap (EA ws) rfl (by rw[EA,List.length_map,HL.out];omega) (by intro j u hu;exact clone_cells HC.out HL.out hu) (by intro u hu;exact words_oneCell ws u hu) (by unfold maxLen;omega) (by omega) (by simp) ?_);intro v' w1 hown hgrow hnil hat;clear hi hz0 hz1 hz2)
 have hk:Kp Ab w w1:=((Kr Ab w).alloc _).grown hgrow (λ k e hl=>by simp[Value.ownBlock] at e;omega)
 obtain⟨-,h2⟩:=hown
 rcases h2 with ⟨h2,-⟩|⟨g,cap',cur,h2,h3,h4,h5,h6,h7,h8⟩
 .have:=hnil.1 h2
  simp at this
 .rw [Nat.zero_add,Nat.mul_one,List.nil_append] at h8
  refine bodyPost_ret (v:=v') (by simp[results,results97,go_sem]) rfl ⟨g,cap',by rw[h2,Nat.zero_add],h3,⟨cur,h4,λ j hj=>?_⟩,hk⟩
  have h9:(cur.toList.take len)[j]?=(EA ws)[j]?:=by rw[h8]
  rw[List.getElem?_take_of_lt hj,wordVs_at ws j (by rw[HL.out];exact hj)] at h9
  simpa using h9

theorem WordsAt.make{w:World}{g cap n:Nat}{ws:List Nat}(hg:∃ cs,w.heap[g]?=some (.cells cs 55 (0,0))/\∀ j,j<ws.length->cs[j]?=some (.int .u64 (ws.getD j 0:Nat)))(hl:ws.length=(n+63)/64)(hn:n<=65536)(hf:∀ j,ws.getD j 0<18446744073709551616):
  WordsAt (w.alloc (.cells #[.slice (some ⟨g,0,none⟩) ws.length cap,.int .i64 (n:Nat)] 175)) w.heap.size g ws n:=by
 obtain⟨cs,h1,h2⟩:=hg
 exact⟨⟨cap,wN w _⟩,⟨cs,((Kr Ab w).alloc _).at_ h1 (λ h=>h),h2⟩,hl,hn,hf⟩

theorem Copy_at(n p q:Nat)(f:Nat->Bool)(w:World)(hb:AJ w p q f n):
  Calls prog 46 #[.pointer (some ⟨p,0,none⟩)] w λ e w'=>
   ∃ p' q',e=.returned (.pointer (some ⟨p',0,none⟩))/\w.heap.size<=p'/\w.heap.size<=q'/\AJ w' p' q' f n/\Kp Ab w w':=by
 obtain⟨ws,hw,hbits⟩:=hb
 have HB:=sE hbits
 clear hbits
 obtain⟨⟨cap,r0⟩,r1,r2,r3⟩:=hw.reads
 have R2:=sE r2
 have hn:=hw.small
 have HL:Sl (ws.length<=1024):=⟨by have:=hw.len;omega⟩
 clear r2 r3
 go_enter func46,ntmps46
 go_wp2_with fail
 go_region_held3 (λ w'=>w'.cell? ⟨p,0,none⟩=some (.slice (some ⟨q,0,none⟩) ws.length cap)/\w'.cell? ⟨p,1,none⟩=some (.int .i64 (n:Nat))) (first|go_keep|exact ⟨hk.cell (by assumption) (λ h=>h),hk.cell (by assumption) (λ h=>h)⟩)
  (first|(go_at_call 97;refine (Clone_words q ws.length cap ws _ rfl (λ j hj=>by exact R2.out j hj) HL.out).mono ?_;rintro e w' ⟨g,cap',rfl,hg,hgc,hk⟩))
 go_wp2
 go_ret
 have k1:Kp Ab w w':=((Kr Ab w).drew).trans hk (λ _ _ h=>h)
 exact⟨_,g,rfl,k1.size,hg,⟨ws,WordsAt.make hgc hw.len hw.small hw.fits,HB.out⟩,k1.alloc _⟩

theorem underlyingRow:prog.underlying 223=some (.array (prog.arrayLen 223) (prog.elem 223)):=by kernel_rfl

theorem lenRow:prog.arrayLen 223=1024:=by kernel_rfl

theorem elemRow:prog.elem 223=55:=by kernel_rfl

theorem run_sliceRow(b:Nat)(h:Int)(h0:0<=h)(h1:h<=1024)(w:World):(Instr.sliceAt 223 (.pointer (some ⟨b,0,none⟩)) none (some (.int .i64 h)) none).run prog w=.ok (.slice (some ⟨b,0,none⟩) h.toNat 1024) w:=by
 obtain⟨i0,hi,hz0,hz1,hz2⟩:=info_parts infoWord
 rw[run_sliceAt_array_h _ _ _ underlyingRow .i64 h h0 (by rw[lenRow];exact h1)]
 simp[lenRow,elemRow,sizeOf,typeInfo,hi,slicedAt,hz1]
 rfl

theorem zeroRow:zeroCells223=Array.replicate 1024 (.int .u64 0):=by kernel_rfl

theorem zeroRow_at(w:World)(j:Nat)(h:j<1024):(w.alloc (.cells zeroCells223 223)).cell? ⟨w.heap.size,j,none⟩=some (.int .u64 0):=by
 have h1:=wN w (.cells zeroCells223 223)
 unfold World.cell?
 rw[h1,zeroRow]
 show(Array.replicate 1024 _)[j]?=_
 rw[Array.getElem?_replicate,if_pos h]

attribute [local go_sem] run_sliceRow

theorem DY(k j:Nat):(List.replicate k (0:Nat)).getD j 0=0:=by
 rw[List.getD_eq_getElem?_getD,List.getElem?_replicate]
 split <;> rfl

theorem New_yes(n:Nat)(w:World)(h:n<=65536):Calls prog 90 #[.int .i64 (n:Nat)] w λ e w'=>
   ∃ p q,e=.returned (.tuple #[.pointer (some ⟨p,0,none⟩),.int .i64 0])/\w.heap.size<=p/\w.heap.size<=q/\AJ w' p q (λ _=>false) n/\Kp Ab w w':=by
 have h0:¬ (n:Int)<0:=by omega
 have h1:¬ (65536:Int)<n:=by omega
 go_enter func90,ntmps90
 have h2:0<=((n:Int)+63)/64:=by omega
 have h3:((n:Int)+63)/64<=1024:=by omega
 have h4:(((n:Int)+63)/64).toNat=(n+63)/64:=by omega
 go_wp2_with (go_at_call 97;refine (Clone_words w.heap.size ((n+63)/64) 1024 (List.replicate ((n+63)/64) 0) _ (by simp) (λ j hj=>by rw[DY];exact zeroRow_at w j (by omega)) (by omega)).mono ?_;rintro e w' ⟨g,cap',rfl,hg,hgc,hk⟩)
 have k1:Kp Ab w w':=((Kr Ab w).alloc _).trans hk (λ _ _ h=>h)
 have hg':w.heap.size<=g:=by simp at hg;omega
 have hlen:(List.replicate ((n+63)/64) (0:Nat)).length=(n+63)/64:=by simp
 have hA:=WordsAt.make (w:=w') (g:=g) (cap:=cap') (n:=n) (ws:=List.replicate ((n+63)/64) 0) (by rw[hlen];exact hgc) hlen h (λ j=>by rw[DY];omega)
 rw[hlen] at hA
 go_ret2
 refine⟨_,g,rfl,k1.size,hg',⟨_,hA,λ i hi=>?_⟩,k1.alloc _⟩
 rw[bitOf,DY,Nat.zero_testBit]

end

section
open Go.RowKit

theorem run_eq_run(a b c d:Int)(w:World):(Op.equalIn 10000 225 (.agg #[.int .i64 a,.int .i64 b]) (.agg #[.int .i64 c,.int .i64 d])).run prog w=.ok (a==c&&b==d) w:=by
 have u3:=underlying3
 have a3:=isAgg3
 have z3:=sizeOf3
 have hS:prog.underlying 225=some (.struct (prog.fieldsOf 225)):=by kernel_rfl
 rw[show (10000:Nat)=9999+1 from rfl,run_equalIn_agg w 9999 225 _ _ hS (by kernel_rfl)]
 simp only[Program.fieldsOf,underlying225]
 go_simp
 by_cases h1:a=c <;> by_cases h2:b=d <;> simp[h1,h2]

theorem run_neq_run(a b c d:Int)(w:World):(binOp .neq 225 (.agg #[.int .i64 a,.int .i64 b]) (.agg #[.int .i64 c,.int .i64 d])).run prog w=.ok (.bool (!(a==c&&b==d))) w:=by
 rw[run_neq_struct,run_eq_run];rfl

attribute [local go_sem ↓] run_neq_run -- 225

end

section
open Go.RowKit

def Bf(n:Nat)(i k:Int):Bool:=decide (0<=i/\0<=k/\i<=n/\k<=n-i)

def E8(f:Nat->Bool)(n:Nat)(i k:Int)(t:Bool):Nat->Bool:=if Bf n i k then Em f i.toNat k.toNat t else f

def errV(ok:Bool):Int:=if ok then 0 else 2

theorem SetRun_int(i k:Int)(n p q:Nat)(f:Nat->Bool)(w:World)(hb:AJ w p q f n):
  Calls prog 136 #[.pointer (some ⟨p,0,none⟩),.int .i64 i,.int .i64 k] w λ e w'=>
   e=.returned (.int .i64 (errV (Bf n i k)))/\Kp (λ b=>b=q) w w'/\AJ w' p q (E8 f n i k true) n:=by
 by_cases h:0<=i/\0<=k/\i<=n/\k<=n-i
 .have ho:Bf n i k=true:=by simpa [Bf] using h
  obtain⟨a,rfl⟩:=Int.eq_ofNat_of_zero_le h.1
  obtain⟨b,rfl⟩:=Int.eq_ofNat_of_zero_le h.2.1
  refine(SetRun_yes a b n p q f w hb (by omega)).mono ?_
  rintro e w' ⟨rfl,hk,hb'⟩
  rw[E8,ho]
  exact⟨rfl,hk,hb'⟩
 .have ho:Bf n i k=false:=by simpa [Bf] using h
  refine(SetRun_no i k n p q f w hb h).mono ?_
  rintro e w' ⟨rfl,hk⟩
  rw[E8,ho]
  have hk':=hk.Ak (λ b=>b=q)
  exact⟨rfl,hk',hb.keep hk (λ h=>h) (λ h=>h)⟩

theorem ClearRun_int(i k:Int)(n p q:Nat)(f:Nat->Bool)(w:World)(hb:AJ w p q f n):
  Calls prog 122 #[.pointer (some ⟨p,0,none⟩),.int .i64 i,.int .i64 k] w λ e w'=>
   e=.returned (.int .i64 (errV (Bf n i k)))/\Kp (λ b=>b=q) w w'/\AJ w' p q (E8 f n i k false) n:=by
 by_cases h:0<=i/\0<=k/\i<=n/\k<=n-i
 .have ho:Bf n i k=true:=by simpa [Bf] using h
  obtain⟨a,rfl⟩:=Int.eq_ofNat_of_zero_le h.1
  obtain⟨b,rfl⟩:=Int.eq_ofNat_of_zero_le h.2.1
  refine(ClearRun_yes a b n p q f w hb (by omega)).mono ?_
  rintro e w' ⟨rfl,hk,hb'⟩
  rw[E8,ho]
  exact⟨rfl,hk,hb'⟩
 .have ho:Bf n i k=false:=by simpa [Bf] using h
  refine(ClearRun_no i k n p q f w hb h).mono ?_
  rintro e w' ⟨rfl,hk⟩
  rw[E8,ho]
  have hk':=hk.Ak (λ b=>b=q)
  exact⟨rfl,hk',hb.keep hk (λ h=>h) (λ h=>h)⟩

theorem Set_int(i:Int)(n p q:Nat)(f:Nat->Bool)(w:World)(hb:AJ w p q f n):
  Calls prog 91 #[.pointer (some ⟨p,0,none⟩),.int .i64 i] w λ e w'=>
   e=.returned (.int .i64 (errV (Bf n i 1)))/\Kp (λ b=>b=q) w w'/\AJ w' p q (E8 f n i 1 true) n:=by
 by_cases h:0<=i/\i<n
 .have ho:Bf n i 1=true:=by simp[Bf];omega
  obtain⟨a,rfl⟩:=Int.eq_ofNat_of_zero_le h.1
  refine(Set_yes a n p q f w hb (by omega)).mono ?_
  rintro e w' ⟨rfl,hk,hb'⟩
  rw[E8,ho]
  exact⟨rfl,hk,hb'⟩
 .have ho:Bf n i 1=false:=by simp[Bf];omega
  refine(Set_no i n p q f w hb h).mono ?_
  rintro e w' ⟨rfl,hk⟩
  rw[E8,ho]
  have hk':=hk.Ak (λ b=>b=q)
  exact⟨rfl,hk',hb.keep hk (λ h=>h) (λ h=>h)⟩

theorem Clear_int(i:Int)(n p q:Nat)(f:Nat->Bool)(w:World)(hb:AJ w p q f n):
  Calls prog 130 #[.pointer (some ⟨p,0,none⟩),.int .i64 i] w λ e w'=>
   e=.returned (.int .i64 (errV (Bf n i 1)))/\Kp (λ b=>b=q) w w'/\AJ w' p q (E8 f n i 1 false) n:=by
 by_cases h:0<=i/\i<n
 .have ho:Bf n i 1=true:=by simp[Bf];omega
  obtain⟨a,rfl⟩:=Int.eq_ofNat_of_zero_le h.1
  refine(Clear_yes a n p q f w hb (by omega)).mono ?_
  rintro e w' ⟨rfl,hk,hb'⟩
  rw[E8,ho]
  exact⟨rfl,hk,hb'⟩
 .have ho:Bf n i 1=false:=by simp[Bf];omega
  refine(Clear_no i n p q f w hb h).mono ?_
  rintro e w' ⟨rfl,hk⟩
  rw[E8,ho]
  have hk':=hk.Ak (λ b=>b=q)
  exact⟨rfl,hk',hb.keep hk (λ h=>h) (λ h=>h)⟩

def hasI(f:Nat->Bool)(n:Nat)(i:Int):Bool:=decide (0<=i/\i<n)&&f i.toNat

theorem Has_int(i:Int)(n p q:Nat)(f:Nat->Bool)(w:World)(hb:AJ w p q f n):
  Calls prog 58 #[.pointer (some ⟨p,0,none⟩),.int .i64 i] w λ e w'=>
   e=.returned (.bool (hasI f n i))/\Kp Ab w w':=by
 by_cases h:0<=i/\i<n
 .obtain ⟨a,rfl⟩:=Int.eq_ofNat_of_zero_le h.1
  refine(Has_in a n p q f w hb (by omega)).mono ?_
  rintro e w' ⟨rfl,hk⟩
  rw[hasI,dT h]
  exact⟨rfl,hk⟩
 .refine (Has_out i n p q f w hb h).mono ?_
  rintro e w' ⟨rfl,rfl⟩
  rw[hasI,dF h]
  exact⟨rfl,Kr _ _⟩

end

end Go.Proofs.YtmfajopmppfldaaGreatDoor
