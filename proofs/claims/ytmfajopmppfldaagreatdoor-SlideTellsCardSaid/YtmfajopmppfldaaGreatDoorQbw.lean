/-
  Lemmas for the laws, together: TellsE.
-/
import Derived.Test.YtmfajopmppfldaaGreatDoorQbv
import Derived.Test.YtmfajopmppfldaaGreatDoorQbt
import Derived.Test.YtmfajopmppfldaaGreatDoorQbs
import Derived.Test.YtmfajopmppfldaaGreatDoorQbn
set_option linter.unusedVariables false
set_option maxHeartbeats 16000000
namespace Go.Proofs.YtmfajopmppfldaaGreatDoor
open Go.Proofs.Tryz
section
open Go.RowKit

theorem Does24_no(b:Bool)(P:Sp)(W:Nat->Nat)(cs:List Cel)(es:List (Int×Int×Int))(rb q:Nat)(lv v:Value)(w:World)(hs:Aw w P W cs)(hd:DocAt w rb q P.n W lv)(hv:AO w lv P.ts)(hl:P.ts.length<=17592186044416)(hM:Cg P.ts)(h:RowH w v es)(hel:es.length<=65536)(hf:¬ Cs cs es):
  Calls prog 35 #[.pointer (some ⟨P.s,0,none⟩),.pointer (some ⟨rb,0,none⟩),.agg #[v],.bool b] w λ e w'=>e=.returned (.bool true)/\Kp Ab w w':=by
 obtain⟨B,hB⟩:∃ B,w.heap.size=B:=⟨_,rfl⟩
 obtain⟨w1,hw1⟩:∃ w1,w1=w.alloc (.cells #[v] 33):=⟨_,rfl⟩
 have k1:Kp Ab w w1:=by rw[hw1];exact (Kr _ w).alloc _
 have b1:w1.heap[B]?=some (.cells #[v] 33 (0,0)):=by rw[hw1,<- hB];exact wN w _
 have hc:CellsAt P W cs:=by obtain⟨f,-,hc,-⟩:=hs;exact hc
 have HFi:=sE (DFits_at P W cs es rb q lv v w1 hc (hd.Ad k1) (hv.Ad k1) hl hM (h.Ad k1) hel)
 have HAl:Sl (∀ W',Kp Ab w W'->Calls prog 11 #[.pointer (some ⟨P.s,0,none⟩),.agg #[v]] W' λ e w'=>e=.returned (.tuple #[.int .i64 0,.int .i64 0,.int .i64 2])/\Kp Ab W' w'):=⟨λ W' k=>SlAll_no P W cs es v W' (hsW1 hs k) (h.Ad k) hel hf⟩
 have HDo:Sl (∀ W',Kp Ab w W'->Calls prog 36 #[.pointer (some ⟨P.s,0,none⟩),.agg #[v]] W' λ e w'=>e=.returned (.tuple #[.int .i64 0,.int .i64 2])/\Kp Ab W' w'):=⟨λ W' k=>SlDo_no P W cs es v W' (hsW1 hs k) (h.Ad k) hel hf⟩
 have HSm:Sl (∀ W',Kp Ab w W'->Calls prog 29 #[.pointer (some ⟨P.s,0,none⟩),.pointer (some ⟨rb,0,none⟩)] W' λ e w'=>e=.returned (.bool true)/\Kp Ab W' w'):=⟨λ W' k=>Same09_at P W cs rb q lv W' (hsW1 hs k) (hd.Ad k) (hv.Ad k) hl hM⟩
 have HNf:=sE hf
 have HK1:=sE k1
 have c1:=cell_of_one b1
 clear hs hd hv h hc k1 b1 hf
 go_enter func35,ntmps35
 go_wp2_with fail
 rw[<- hw1]
 clear hw1
 try rw[hB]
 refine HFi.out.mono ?_
 rintro e w2 ⟨(⟨hy,-⟩|⟨-,rfl⟩),k2⟩
 case inl=>exact absurd hy HNf.out
 have HK2:Sl (Kp Ab w w2):=⟨HK1.out.then' k2⟩
 replace c1:=k2.cell c1 (λ h=>h)
 clear k2 HFi
 cases b with
 |true=>
  go_wp2_with fail
  refine(HAl.out _ HK2.out).mono ?_
  rintro e w3 ⟨rfl,k3⟩
  have HK3:Sl (Kp Ab w w3):=⟨HK2.out.then' k3⟩
  clear k3 c1
  go_wp2_with fail
  refine(HSm.out _ HK3.out).mono ?_
  rintro e w4 ⟨rfl,k4⟩
  have HK4:Sl (Kp Ab w w4):=⟨HK3.out.then' k4⟩
  clear k4
  go_wp2_with fail
  exact bodyPost_ret (v:=.bool true) (by simp[results,results35,go_sem]) rfl ⟨rfl,HK4.out⟩
 |false=>
  go_wp2_with fail
  refine(HDo.out _ HK2.out).mono ?_
  rintro e w3 ⟨rfl,k3⟩
  have HK3:Sl (Kp Ab w w3):=⟨HK2.out.then' k3⟩
  clear k3 c1
  go_wp2_with fail
  refine(HSm.out _ HK3.out).mono ?_
  rintro e w4 ⟨rfl,k4⟩
  have HK4:Sl (Kp Ab w w4):=⟨HK3.out.then' k4⟩
  clear k4
  go_wp2_with fail
  exact bodyPost_ret (v:=.bool true) (by simp[results,results35,go_sem]) rfl ⟨rfl,HK4.out⟩

theorem Does24_yes(b:Bool)(P:Sp)(W:Nat->Nat)(cs:List Cel)(es:List (Nat×Nat×Nat))(rb q:Nat)(lv v:Value)(w:World)(hs:Aw w P W cs)(hd:DocAt w rb q P.n W lv)(hv:∀ w',Kp (λ k=>P.own k\/k=rb\/w.heap.size<=k) w w'->AO w' lv P.ts)(hl:P.ts.length<=17592186044416)(hM:Cg P.ts)(h:Du w v es)(hg:GoodP cs es)(hel:es.length<=1000)(h0:0<P.n)(hrn:¬ P.all rb)(hqn:¬ P.all q)
  (hnb:∀ b o l c,v=.slice (some ⟨b,o,none⟩) l c->¬ P.own b/\¬ b=rb):
  Calls prog 35 #[.pointer (some ⟨P.s,0,none⟩),.pointer (some ⟨rb,0,none⟩),.agg #[v],.bool b] w λ e w'=>e=.returned (.bool true)/\Kp (λ k=>P.own k\/k=rb) w w':=by
 obtain⟨B,hB⟩:∃ B,w.heap.size=B:=⟨_,rfl⟩
 obtain⟨w1,hw1⟩:∃ w1,w1=w.alloc (.cells #[v] 33):=⟨_,rfl⟩
 have k1:Kp Ab w w1:=by rw[hw1];exact (Kr _ w).alloc _
 have b1:w1.heap[B]?=some (.cells #[v] 33 (0,0)):=by rw[hw1,<- hB];exact wN w _
 have hc:CellsAt P W cs:=by obtain⟨f,-,hc,-⟩:=hs;exact hc
 have hlt:∀ k,P.all k->k<B:=λ k hk=>by
  obtain⟨f,s1,-,-⟩:=hs
  rw[<- hB]
  exact s1.lt k hk
 have lrb:=hd.lt
 have HFi:=sE (DFits_at P W cs (FB es) rb q lv v w1 hc (hd.Ad k1) ((hv w (Kr _ _)).Ad k1) hl hM (h.Ad k1).rowH (by rw[castS_len];omega))
 have HMs:∀ x∈P.ts,x.m<18446744073709551616:=hM
 have HKP:Sl (∀ w2 w3,Kp Ab w w2->Kp P.own w2 w3->Du w3 v es/\DocAt w3 rb q P.n W lv/\∀ w',Kp (λ k=>k=rb\/w3.heap.size<=k) w3 w'->AO w' lv P.ts):=⟨λ w2 w3 k2 k3=>by
  have k:Kp P.own w w3:=(k2.Ak _).trans k3 (λ _ _ h=>h)
  refine⟨?_,(hd.Ad k2).keep k3 (λ h=>hrn (Sp.BH h)) (λ h=>hqn (Sp.BH h)),λ w' k'=>hv w' ((k.mono λ_ _ h=>.inl h).trans k' λ b hb h=>.inr (h.imp id λ h=>Nat.le_trans k.size h))⟩
  obtain⟨a,c,rfl,hx⟩:=h
  refine⟨a,c,rfl,λ i x hi=>?_⟩
  obtain⟨bb,o,rfl,h1,h2,h3,h4⟩:=hx i x hi
  have hn:=(hnb bb o _ c rfl).1
  exact⟨bb,o,rfl,Nat.lt_of_lt_of_le h1 k.size,k.cell h2 hn,k.cell h3 hn,k.cell h4 hn⟩⟩
 have HAl:Sl (∀ W',Kp Ab w W'->Calls prog 11 #[.pointer (some ⟨P.s,0,none⟩),.agg #[v]] W' (SlAllPost P W cs es W')):=⟨λ W' k=>SlAll_at P W cs es v W' (hsW1 hs k) (h.Ad k) hg hel HMs (λ b o l c e=>(hnb b o l c e).1)⟩
 have HDo:Sl (∀ W',Kp Ab w W'->Calls prog 36 #[.pointer (some ⟨P.s,0,none⟩),.agg #[v]] W' (SlDoPost P W cs es W')):=⟨λ W' k=>SlDo_at P W cs es v W' (hsW1 hs k) (h.Ad k) hg hel (λ b o l c e=>(hnb b o l c e).1)⟩
 have HAr:Sl (∀ w2 w3,Kp Ab w w2->Kp P.own w2 w3->Calls prog 73 #[.pointer (some ⟨rb,0,none⟩),.agg #[v]] w3 (D24AllPost P W cs es rb lv w3)):=⟨λ w2 w3 k2 k3=>by
  obtain⟨r,d,t⟩:=HKP.out w2 w3 k2 k3
  exact D24All_at P W cs es rb q lv v w3 hc d t hl hM r hg hel h0 (λ b o l c e=>(hnb b o l c e).2)⟩
 have HDr:Sl (∀ w2 w3,Kp Ab w w2->Kp P.own w2 w3->Calls prog 74 #[.pointer (some ⟨rb,0,none⟩),.agg #[v]] w3 (D24Post P W cs es rb lv w3)):=⟨λ w2 w3 k2 k3=>by
  obtain⟨r,d,t⟩:=HKP.out w2 w3 k2 k3
  exact D24Do_at P W cs es rb q lv v w3 hc d t hl hM r hg hel h0⟩
 have HSa:Sl (∀ w2 w3 w4 W' cs' q',Kp Ab w w2->Kp P.own w2 w3->Aw w3 P W' cs'->Kp (λ k=>k=rb) w3 w4->DocAt w4 rb q' P.n W' lv->Calls prog 75 #[.pointer (some ⟨P.s,0,none⟩),.pointer (some ⟨rb,0,none⟩)] w4 λ e w'=>e=.returned (.bool true)/\Kp Ab w4 w'):=⟨λ w2 w3 w4 W' cs' q' k2 k3 s3 k4 d4=>by
  refine Same24_at P W' cs' rb q' lv w4 (s3.keep k4 (λ i hi e=>hrn (e▸hi))) d4 ((HKP.out w2 w3 k2 k3).2.2 w4 (k4.mono λ_ _ h=>.inl h)) hl hM⟩
 have HFt:Sl (Cs cs (FB es)):=⟨hg.fits⟩
 have HK1:=sE k1
 have HLt:Sl (∀ k,P.own k->k<B):=⟨λ k hk=>hlt k (Sp.BH hk)⟩
 rw[hB] at lrb
 have c1:=cell_of_one b1
 clear hs hd hv h hc k1 b1 hg hlt hnb HKP
 go_enter func35,ntmps35
 go_wp2_with fail
 rw[<- hw1]
 clear hw1
 try rw[hB]
 refine HFi.out.mono ?_
 rintro e w2 ⟨(⟨-,rfl⟩|⟨hno,-⟩),k2⟩
 case inr=>exact absurd HFt.out hno
 have HK2:Sl (Kp Ab w w2):=⟨HK1.out.then' k2⟩
 replace c1:=k2.cell c1 (λ h=>h)
 clear k2 HFi
 cases b with
 |true=>
  go_wp2_with fail
  refine(HAl.out _ HK2.out).mono ?_
  rintro e w3 ⟨rfl,k3,hs3⟩
  have HK3:=sE k3
  have HS3:=sE hs3
  replace c1:=k3.cell c1 (λ h=>by have h':=HLt.out _ h;dsimp only at h';omega)
  clear k3 hs3
  go_wp2_with fail
  refine(HAr.out w2 _ HK2.out HK3.out).mono ?_
  rintro e w4 ⟨rfl,k4,q',hd4⟩
  have HSx:=sE (HSa.out w2 w3 w4 _ _ q' HK2.out HK3.out HS3.out k4 hd4)
  have HK4:Sl (Kp (λ k=>P.own k\/k=rb) w w4):=⟨((HK2.out.Ak _).trans HK3.out (λ _ _ h=>.inl h)).trans k4 (λ _ _ h=>.inr h)⟩
  clear k4 hd4 c1
  go_wp2_with fail
  refine HSx.out.mono ?_
  rintro e w5 ⟨rfl,k5⟩
  have HK5:Sl (Kp (λ k=>P.own k\/k=rb) w w5):=⟨HK4.out.trans (k5.Ak _) (λ _ _ h=>h)⟩
  clear k5
  go_wp2_with fail
  exact bodyPost_ret (v:=.bool true) (by simp[results,results35,go_sem]) rfl ⟨rfl,HK5.out⟩
 |false=>
  go_wp2_with fail
  refine(HDo.out _ HK2.out).mono ?_
  rintro e w3 ⟨rfl,k3,hs3⟩
  have HK3:=sE k3
  have HS3:=sE hs3
  replace c1:=k3.cell c1 (λ h=>by have h':=HLt.out _ h;dsimp only at h';omega)
  clear k3 hs3
  go_wp2_with fail
  refine(HDr.out w2 _ HK2.out HK3.out).mono ?_
  rintro e w4 ⟨rfl,k4,q',hd4⟩
  have HSx:=sE (HSa.out w2 w3 w4 _ _ q' HK2.out HK3.out HS3.out k4 hd4)
  have HK4:Sl (Kp (λ k=>P.own k\/k=rb) w w4):=⟨((HK2.out.Ak _).trans HK3.out (λ _ _ h=>.inl h)).trans k4 (λ _ _ h=>.inr h)⟩
  clear k4 hd4 c1
  go_wp2_with fail
  refine HSx.out.mono ?_
  rintro e w5 ⟨rfl,k5⟩
  have HK5:Sl (Kp (λ k=>P.own k\/k=rb) w w5):=⟨HK4.out.trans (k5.Ak _) (λ _ _ h=>h)⟩
  clear k5
  go_wp2_with fail
  exact bodyPost_ret (v:=.bool true) (by simp[results,results35,go_sem]) rfl ⟨rfl,HK5.out⟩

end

end Go.Proofs.YtmfajopmppfldaaGreatDoor
