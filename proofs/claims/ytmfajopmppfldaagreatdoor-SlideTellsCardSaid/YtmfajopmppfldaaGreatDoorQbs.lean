/-
  Lemmas for the laws, together: TellsN, TellsW.
-/
import Derived.Test.YtmfajopmppfldaaGreatDoorQbq
import Derived.Test.YtmfajopmppfldaaGreatDoorQbg
set_option linter.unusedVariables false
set_option maxHeartbeats 16000000
namespace Go.Proofs.YtmfajopmppfldaaGreatDoor
open Go.Proofs.Tryz
section
open Go.RowKit

theorem TDo_no(P:Sp)(W:Nat->Nat)(cs:List Cel)(es:List (Int×Int×Int))(v:Value)(w:World)(hs:Aw w P W cs)(h:RowH w v es)(hl:es.length<=65536)(hf:¬ Cs cs es):
  Calls prog 28 #[.pointer (some ⟨P.s,0,none⟩),.agg #[v]] w λ e w'=>e=.returned (.tuple #[.int .i64 0,.int .i64 2])/\Kp Ab w w':=by
 obtain⟨B,hB⟩:∃ B,w.heap.size=B:=⟨_,rfl⟩
 obtain⟨w1,hw1⟩:∃ w1,w1=(w.alloc (.cells #[v] 33)).alloc (.cells #[.int .i64 0] 3):=⟨_,rfl⟩
 have k1:Kp Ab w w1:=by rw[hw1];exact ((Kr _ w).alloc _).alloc _
 have b0:w1.heap[B]?=some (.cells #[v] 33 (0,0)):=by
  rw[hw1,<- hB]
  exact((Kr Ab _).alloc _).at_ (wN w _) (λ h=>h)
 have b1:w1.heap[B+1]?=some (.cells #[.int .i64 0] 3 (0,0)):=by
  rw[hw1]
  have:=wN (w.alloc (.cells #[v] 33)) (.cells #[.int .i64 0] 3)
  rwa [show (w.alloc (.cells #[v] 33)).heap.size=B+1 by simp[hB]] at this
 have HCk:=sE (TCheck_at P W cs es v w1 (hsW1 hs k1) (h.Ad k1) hl)
 have HNf:=sE hf
 have c0:=cell_of_one b0
 clear hs h hf
 go_enter func28,ntmps28
 go_wp2_with fail
 rw[<- hw1]
 clear hw1
 try rw[hB]
 refine HCk.out.mono ?_
 rintro e w2 ⟨(⟨hy,-⟩|⟨-,rfl⟩),k2⟩
 case inl=>exact absurd hy HNf.out
 have cB:=cell_of_one (k2.at_ b1 (λ h=>h))
 have fB:=free_of_one (k2.at_ b1 (λ h=>h))
 have lB:B+1<w2.heap.size:=lZ (k2.at_ b1 (λ h=>h))
 have KB:Kp Ab w (w2.setCell ⟨B+1,0,none⟩ (.int .i64 0)):=(k1.then' k2).trans ((Kr (λ b=>b=B+1) w2).setCell (p:=⟨B+1,0,none⟩) (λ _=>rfl) (.int .i64 0)) (λ b hb h=>by rw[hB] at hb;omega)
 have cB2:=cell_of_one (one_setCell (u:=.int .i64 0) (k2.at_ b1 (λ h=>h)))
 clear k2 b0 b1 c0 k1
 go_wp2_with fail
 exact bodyPost_ret (v:=.tuple #[.int .i64 0,.int .i64 2]) (by simp[results,results28,go_sem,cB2]) rfl ⟨rfl,KB⟩

theorem SlDo_no(P:Sp)(W:Nat->Nat)(cs:List Cel)(es:List (Int×Int×Int))(v:Value)(w:World)(hs:Aw w P W cs)(h:RowH w v es)(hl:es.length<=65536)(hf:¬ Cs cs es):
  Calls prog 36 #[.pointer (some ⟨P.s,0,none⟩),.agg #[v]] w λ e w'=>e=.returned (.tuple #[.int .i64 0,.int .i64 2])/\Kp Ab w w':=by
 obtain⟨B,hB⟩:∃ B,w.heap.size=B:=⟨_,rfl⟩
 obtain⟨w1,hw1⟩:∃ w1,w1=(w.alloc (.cells #[v] 33)).alloc (.cells #[.int .i64 0] 3):=⟨_,rfl⟩
 have k1:Kp Ab w w1:=by rw[hw1];exact ((Kr _ w).alloc _).alloc _
 have b0:w1.heap[B]?=some (.cells #[v] 33 (0,0)):=by
  rw[hw1,<- hB]
  exact((Kr Ab _).alloc _).at_ (wN w _) (λ h=>h)
 have b1:w1.heap[B+1]?=some (.cells #[.int .i64 0] 3 (0,0)):=by
  rw[hw1]
  have:=wN (w.alloc (.cells #[v] 33)) (.cells #[.int .i64 0] 3)
  rwa [show (w.alloc (.cells #[v] 33)).heap.size=B+1 by simp[hB]] at this
 have HCk:=sE (TCheck_at P W cs es v w1 (hsW1 hs k1) (h.Ad k1) hl)
 have HNf:=sE hf
 have c0:=cell_of_one b0
 clear hs h hf
 go_enter func36,ntmps36
 go_wp2_with fail
 rw[<- hw1]
 clear hw1
 try rw[hB]
 refine HCk.out.mono ?_
 rintro e w2 ⟨(⟨hy,-⟩|⟨-,rfl⟩),k2⟩
 case inl=>exact absurd hy HNf.out
 have cB:=cell_of_one (k2.at_ b1 (λ h=>h))
 have fB:=free_of_one (k2.at_ b1 (λ h=>h))
 have lB:B+1<w2.heap.size:=lZ (k2.at_ b1 (λ h=>h))
 have KB:Kp Ab w (w2.setCell ⟨B+1,0,none⟩ (.int .i64 0)):=(k1.then' k2).trans ((Kr (λ b=>b=B+1) w2).setCell (p:=⟨B+1,0,none⟩) (λ _=>rfl) (.int .i64 0)) (λ b hb h=>by rw[hB] at hb;omega)
 have cB2:=cell_of_one (one_setCell (u:=.int .i64 0) (k2.at_ b1 (λ h=>h)))
 clear k2 b0 b1 c0 k1
 go_wp2_with fail
 exact bodyPost_ret (v:=.tuple #[.int .i64 0,.int .i64 2]) (by simp[results,results36,go_sem,cB2]) rfl ⟨rfl,KB⟩

theorem SlAll_no(P:Sp)(W:Nat->Nat)(cs:List Cel)(es:List (Int×Int×Int))(v:Value)(w:World)(hs:Aw w P W cs)(h:RowH w v es)(hl:es.length<=65536)(hf:¬ Cs cs es):
  Calls prog 11 #[.pointer (some ⟨P.s,0,none⟩),.agg #[v]] w λ e w'=>e=.returned (.tuple #[.int .i64 0,.int .i64 0,.int .i64 2])/\Kp Ab w w':=by
 obtain⟨B,hB⟩:∃ B,w.heap.size=B:=⟨_,rfl⟩
 obtain⟨w1,hw1⟩:∃ w1,w1=w.alloc (.cells #[v] 33):=⟨_,rfl⟩
 have k1:Kp Ab w w1:=by rw[hw1];exact (Kr _ w).alloc _
 have b0:w1.heap[B]?=some (.cells #[v] 33 (0,0)):=by
  rw[hw1,<- hB]
  exact wN w _
 have HTd:=sE (TDo_no P W cs es v w1 (hsW1 hs k1) (h.Ad k1) hl hf)
 have c0:=cell_of_one b0
 have HK1:=sE k1
 clear hs h hf b0 k1
 go_enter func11,ntmps11
 go_wp2_with fail
 rw[<- hw1]
 clear hw1
 try rw[hB]
 refine HTd.out.mono ?_
 rintro e w2 ⟨rfl,k2⟩
 have HK2:Sl (Kp Ab w w2):=⟨HK1.out.then' k2⟩
 clear k2 c0
 go_wp2_with fail
 exact bodyPost_ret (v:=.tuple #[.int .i64 0,.int .i64 0,.int .i64 2]) (by simp[results,results11,go_sem]) rfl ⟨rfl,HK2.out⟩

end

section
open Go.RowKit

def WildPost(n:Nat)(w:World)(e:Ending)(w':World):Prop:=∃ t:Bool,e=.returned (.bool t)/\Kp Ab w w'/\(t=false->n<=60)

set_option maxRecDepth 20000 in
theorem wild_any(u:Value)(es:List (Int×Int×Int))(w:World)(h:RowH w u es)(hl:es.length<=17592186044416):
  Calls prog 33 #[.agg #[u]] w (WildPost es.length w):=by
 obtain⟨a,c,rfl,-⟩:=id h
 obtain⟨N,hN⟩:∃ N,es.length=N:=⟨_,rfl⟩
 have HN:=sE hN
 obtain⟨w1,hw1⟩:∃ w1,w1=w.alloc (.cells #[.slice a N c] 33):=⟨_,rfl⟩
 obtain⟨B,hB⟩:∃ B,w.heap.size=B:=⟨_,rfl⟩
 rw[hN] at h hl ⊢
 have k1:Kp Ab w w1:=by rw[hw1];exact (Kr _ w).alloc _
 have b1:w1.heap[B]?=some (.cells #[.slice a N c] 33 (0,0)):=by rw[hw1,<- hB];exact wN w _
 have HV:=sE (h.Ad k1)
 have HB:=sE b1
 have HK:=sE k1
 clear h hN k1 b1
 go_enter func33,ntmps33
 go_wp2_with fail
 rw[<- hw1]
 clear hw1
 try rw[hB]
 go_loopw [3,4] (λ z _ wr=>∃ j:Nat,j<=N/\z=.int .i64 (j:Nat)/\Sl (Kp Ab w1 wr)) (λ z _ _=>N-(intOf z).toNat)
 case atStart=>exact ⟨0,Nat.zero_le _,rfl,⟨Kr _ _⟩⟩
 case round=>
  obtain⟨j,hj,rfl,HKr⟩:=hrel
  have cB:=cell_of_one (HKr.out.at_ HB.out (λ h=>h))
  by_cases hjN:j<N
  .have hjN':(j:Int)<(N:Int):=by omega
   obtain⟨x,hxj⟩:∃ x,es[j]?=some x:=⟨_,List.getElem?_eq_getElem (by rw[HN.out];exact hjN)⟩
   obtain⟨a',c',e,hx⟩:=HV.out
   injection e with e1 e3 e2
   clear e3
   subst e1 e2
   obtain⟨bb,o,rfl,hbb,x0,x1,x2⟩:=hx j x hxj
   replace x0:=HKr.out.cell x0 (λ h=>h)
   replace x1:=HKr.out.cell x1 (λ h=>h)
   replace x2:=HKr.out.cell x2 (λ h=>h)
   obtain⟨f,t,z⟩:=x
   simp only at x0 x1 x2
   obtain⟨wa,hwa⟩:∃ wa,wa=wr.alloc (.cells #[.int .i64 f,.int .i64 t,.int .i64 z] 43):=⟨_,rfl⟩
   have ka:Kp Ab wr wa:=by rw[hwa];exact (Kr _ wr).alloc _
   have ba:wa.heap[wr.heap.size]?=some (.cells #[.int .i64 f,.int .i64 t,.int .i64 z] 43 (0,0)):=by rw[hwa];exact wN wr _
   obtain⟨y0,y1,y2⟩:=cells3 ba
   have HKa:Sl (Kp Ab w1 wa):=⟨HKr.out.then' ka⟩
   have HKz:Sl (Kp Ab w wa):=⟨HK.out.then' HKa.out⟩
   clear hx hxj hbb ka ba
   go_upto_region 5 with fail
   rw[<- hwa]
   clear hwa x0 x1 x2 cB
   rcases (show f< -1099511627776\/(¬ f< -1099511627776/\1099511627776<f)\/(¬ f< -1099511627776/\¬ 1099511627776<f/\t< -1099511627776)\/(¬ f< -1099511627776/\¬ 1099511627776<f/\¬ t< -1099511627776/\1099511627776<t)\/
    (¬ f< -1099511627776/\¬ 1099511627776<f/\¬ t< -1099511627776/\¬ 1099511627776<t/\z< -1099511627776)\/(¬ f< -1099511627776/\¬ 1099511627776<f/\¬ t< -1099511627776/\¬ 1099511627776<t/\¬ z< -1099511627776/\1099511627776<z)\/
    (¬ f< -1099511627776/\¬ 1099511627776<f/\¬ t< -1099511627776/\¬ 1099511627776<t/\¬ z< -1099511627776/\¬ 1099511627776<z) by omega) with q1|⟨q1,q2⟩|⟨q1,q2,q3⟩|⟨q1,q2,q3,q4⟩|⟨q1,q2,q3,q4,q5⟩|⟨q1,q2,q3,q4,q5,q6⟩|⟨q1,q2,q3,q4,q5,q6⟩
   iterate 6
    .go_wp2_with fail
     exact bodyPost_ret (v:=.bool true) (by simp[results,results33,go_sem]) rfl ⟨true,rfl,HKz.out,λ h=>by cases h⟩
   .go_wp2_with fail
    exact⟨⟨j+1,by omega,by go_num,HKa⟩,by simp only[intOf];omega⟩
  .obtain rfl:j=N:=by omega
   have hjN':¬ (j:Int)<(j:Int):=by omega
   have HKz:Sl (Kp Ab w wr):=⟨HK.out.then' HKr.out⟩
   by_cases h6:60<j
   .have h6':(60:Int)<(j:Int):=by omega
    go_wp2_with fail
    exact bodyPost_ret (v:=.bool true) (by simp[results,results33,go_sem]) rfl ⟨true,rfl,HKz.out,λ h=>by cases h⟩
   .have h6':¬ (60:Int)<(j:Int):=by omega
    go_wp2_with fail
    exact bodyPost_ret (v:=.bool false) (by simp[results,results33,go_sem]) rfl ⟨false,rfl,HKz.out,λ _=>by omega⟩

end

end Go.Proofs.YtmfajopmppfldaaGreatDoor
