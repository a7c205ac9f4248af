/-
  Lemmas for the laws, together: SlideAl.
-/
import Derived.Test.YtmfajopmppfldaaGreatDoorQbq
import Derived.Test.YtmfajopmppfldaaGreatDoorQbm
set_option linter.unusedVariables false
set_option maxHeartbeats 16000000
namespace Go.Proofs.YtmfajopmppfldaaGreatDoor
open Go.Proofs.Tryz
section
open Go.RowKit

theorem rowO_one{w:World}{b x y z:Nat}{T:TypeId}(h:w.heap[b]?=some (.cells #[.int .i64 (x:Nat),.int .i64 (y:Nat),.int .i64 (z:Nat)] T (0,0))):Du w (.slice (some ⟨b,0,none⟩) 1 1) [(x,y,z)]:=by
 refine⟨_,_,rfl,λ i e he=>?_⟩
 obtain rfl:i=0:=by have:=(gE.1 he).1;simp at this;exact this
 simp at he
 subst he
 exact⟨b,0,rfl,lZ h,by simp[World.cell?,h],by simp[World.cell?,h],by simp[World.cell?,h]⟩

def cs24:List Cel:=[⟨0,1,1,3,2⟩,⟨2,2,0,0,1⟩,⟨3,1,1,3,2⟩,⟨5,1,1,3,2⟩,⟨7,2,0,0,1⟩]

theorem os24:Dm Dv Cx=[⟨0,1,1,3,2⟩,⟨3,1,1,3,2⟩,⟨5,1,1,3,2⟩]:=by
 have h:Bn Cx=[0,3,5]:=by
  unfold Bn
  rw[List.mergeSort_of_pairwise (by simp[Cx])]
  rfl
 unfold Dm goesL
 rw[h]
 decide +kernel

theorem sl24:Cn 0 (Dm Dv Cx) 8=cs24:=by
 rw[os24]
 decide +kernel

theorem ed24{W:Nat->Nat}(h3:W 3=1048588)(hz:∀ k∈[4,5,7,8,9,13,14,15],W k=0):edgesL alT (AU (AX Cx (BL Cx (Eu alT Dv) Cx W)) 0 (Dm Dv Cx) 8) cs24=[(0,0,5)]:=by
 have h4:=hz 4 (by simp)
 have h5:=hz 5 (by simp)
 have h7:=hz 7 (by simp)
 have h8:=hz 8 (by simp)
 have h9:=hz 9 (by simp)
 have h13:=hz 13 (by simp)
 have h14:=hz 14 (by simp)
 have h15:=hz 15 (by simp)
 have t1:toA Cx 1048588=1048586:=by decide +kernel
 have t0:toA Cx 0=0:=by decide +kernel
 obtain⟨W6,hW6⟩:∃ W6,BL Cx (Eu alT Dv) Cx W=W6:=⟨_,rfl⟩
 have g:W6 3=1048586/\∀ k∈[4,5,7,8,9,13,14,15],W6 k=0:=by
  rw[<- hW6]
  have e:∀ k,BL Cx (Eu alT Dv) Cx W k=BL Cx (Eu alT Dv) [(1,0,2),(3,3,2),(6,5,2)] W k:=λ _=>rfl
  refine⟨?_,λ k hk=>?_⟩
  .rw [e]
   simp only[BL,rf23 1 (.inl rfl),rf23 3 (.inr (.inl rfl)),rf23 6 (.inr (.inr rfl)),Bv,BM]
   simp[h3,t1]
  .rw [e]
   simp only[BL,rf23 1 (.inl rfl),rf23 3 (.inr (.inl rfl)),rf23 6 (.inr (.inr rfl)),Bv,BM]
   simp only[List.mem_cons,List.not_mem_nil,or_false] at hk
   rcases hk with rfl|rfl|rfl|rfl|rfl|rfl|rfl|rfl <;> simp[h4,h5,h7,h8,h9,h13,h14,h15,t0]
 rw[hW6]
 obtain⟨g3,gz⟩:=g
 have g4:=gz 4 (by simp)
 have g5:=gz 5 (by simp)
 have g7:=gz 7 (by simp)
 have g8:=gz 8 (by simp)
 have g9:=gz 9 (by simp)
 have g13:=gz 13 (by simp)
 have g14:=gz 14 (by simp)
 have g15:=gz 15 (by simp)
 have hr:BI 0 (Dm Dv Cx) 8:=slidO_rising good23 (by simp[Au,Dv])
 have hin:∀ (o:Cel) (k:Nat),o∈Dm Dv Cx->2*o.g<=k->k<2*o.fin->AU (AX Cx W6) 0 (Dm Dv Cx) 8 k=AX [(1,0,2),(3,3,2),(6,5,2)] W6 k:=λ o k h1 h2 h3=>settleW_in hr h1 h2 h3
 rw[os24] at hin ⊢
 have o0:=λ k=>hin ⟨0,1,1,3,2⟩ k (by simp)
 have o3:=λ k=>hin ⟨3,1,1,3,2⟩ k (by simp)
 have o5:=λ k=>hin ⟨5,1,1,3,2⟩ k (by simp)
 obtain⟨V,hV⟩:∃ V,AU (AX Cx W6) 0 [⟨0,1,1,3,2⟩,⟨3,1,1,3,2⟩,⟨5,1,1,3,2⟩] 8=V:=⟨_,rfl⟩
 rw[hV] at o0 o3 o5 ⊢
 have e1:Ap cs24=[⟨0,1,1,3,2⟩,⟨3,1,1,3,2⟩,⟨5,1,1,3,2⟩]:=by decide +kernel
 have e2:∀ g,Ct alT ⟨g,1,1,3,2⟩=[0,1,2]:=λ g=>by
  show Ct alT ⟨1,1,1,3,2⟩=_
  decide +kernel
 have v1:V 1=1048586:=by rw[o0 1 (by decide) (by decide)];simp [AX,BP,g3]
 have v2:V 2=0:=by rw[o0 2 (by decide) (by decide)];simp [AX,BP,g4]
 have v3:V 3=0:=by rw[o0 3 (by decide) (by decide)];simp [AX,BP,g5]
 have v7:V 7=0:=by rw[o3 7 (by decide) (by decide)];simp [AX,BP,g7]
 have v8:V 8=0:=by rw[o3 8 (by decide) (by decide)];simp [AX,BP,g8]
 have v9:V 9=0:=by rw[o3 9 (by decide) (by decide)];simp [AX,BP,g9]
 have v11:V 11=0:=by rw[o5 11 (by decide) (by decide)];simp [AX,BP,g13]
 have v12:V 12=0:=by rw[o5 12 (by decide) (by decide)];simp [AX,BP,g14]
 have v13:V 13=0:=by rw[o5 13 (by decide) (by decide)];simp [AX,BP,g15]
 have hR:BC alT V (Ap cs24)=[(0,0,1048586),(0,1,0),(0,2,0),(3,0,0),(3,1,0),(3,2,0),(5,0,0),(5,1,0),(5,2,0)]:=by
  rw[e1]
  unfold BC
  simp only[List.flatMap_cons,List.flatMap_nil,List.append_nil,e2,List.map_cons,List.map_nil,List.cons_append,List.nil_append]
  rw[v1,v2,v3,v7,v8,v9,v11,v12,v13]
 unfold edgesL
 rw[hR]
 decide +kernel

set_option maxRecDepth 20000 in
theorem alive24(w:World)(hF:Av w):Calls prog 7 #[] w λ e w'=>e=.returned (.bool true)/\Kp Ab w w':=by
 have HF:=sE hF
 clear hF
 go_enter func7,ntmps7
 go_wp2_with fail
 obtain⟨wp,hwp⟩:∃ wp,wp=(w.alloc (.cells steps23 84)).alloc (.cells #[.int .u8 2,.int .i64 0,.int .u64 0] 86):=⟨_,rfl⟩
 have kp:Kp Ab w wp:=by rw[hwp];exact ((Kr _ w).alloc _).alloc _
 have hb1:wp.heap[w.heap.size]?=some (.cells steps23 84 (0,0)):=by rw[hwp];exact ((Kr Ab _).alloc _).at_ (wN w _) (λ h=>h)
 have hb2:wp.heap[w.heap.size+1]?=some (.cells #[.int .u8 2,.int .i64 0,.int .u64 0] 86 (0,0)):=by
  rw[hwp]
  have:=wN (w.alloc (.cells steps23 84)) (.cells #[.int .u8 2,.int .i64 0,.int .u64 0] 86)
  rwa [show (w.alloc (.cells steps23 84)).heap.size=w.heap.size+1 by simp] at this
 have HP:=sE (played23 wp (HF.out.Ad kp) w.heap.size (w.heap.size+1) _ _ hb1 hb2)
 have HKp:=sE kp
 unfold steps23 at hwp
 rw[<- hwp]
 clear hwp hb1 hb2 kp
 refine HP.out.mono ?_
 rintro e w1 ⟨P,rb,W,rfl,⟨ht,hn⟩,hs,⟨r3,hz⟩,hown,k1⟩
 have HK1:=sE (HKp.out.then' k1)
 obtain⟨w2,hw2⟩:∃ w2,w2=w1.alloc (.cells #[.int .i64 1,.int .i64 0,.int .i64 2,.int .i64 3,.int .i64 3,.int .i64 2,.int .i64 6,.int .i64 5,.int .i64 2] 43):=⟨_,rfl⟩
 obtain⟨B,hB⟩:∃ B,w1.heap.size=B:=⟨_,rfl⟩
 have R2:Du w2 (.slice (some ⟨B,0,none⟩) 3 3) Cx:=by rw[hw2,<- hB];exact rowo23 w1 _
 have k2:Kp Ab w1 w2:=by rw[hw2];exact (Kr _ w1).alloc _
 have z2:w2.heap.size=B+1:=by rw[hw2];simp [hB]
 obtain⟨w3,hw3⟩:∃ w3,w3=w2.alloc (.cells #[.slice (some ⟨B,0,none⟩) 3 3] 33):=⟨_,rfl⟩
 have k3:Kp Ab w2 w3:=by rw[hw3];exact (Kr _ w2).alloc _
 have b3:w3.heap[B+1]?=some (.cells #[.slice (some ⟨B,0,none⟩) 3 3] 33 (0,0)):=by rw[hw3,<- z2];exact wN w2 _
 have R3:=sE (R2.Ad k3)
 have HB3:=sE b3
 have S3:=hsW1 hs (k2.then' k3)
 have hlt:∀ k,P.own k->k<B:=λ k hk=>by
  obtain⟨f,h,-⟩:=hs
  have:=h.lt k (Sp.BH hk)
  omega
 have HK13:=sE (HK1.out.then' (k2.then' k3))
 have HAll:Sl _:=⟨SlAll_at P W Dv Cx (.slice (some ⟨B,0,none⟩) 3 3) w3 S3 R3.out good23 (by decide) (by rw[ht];intro x hx;have:=List.mem_singleton.1 hx;subst this;decide) (λ b o l c h hb=>by
  injection h with h
  injection h with h
  injection h with h
  have:=hlt b hb
  omega)⟩
 have c3:=cell_of_one b3
 have HOw:Sl (∀ k,P.own k->w.heap.size<=k):=⟨λ k hk=>by have:=hown k hk;have:=HKp.out.size;omega⟩
 have HW:=sE (And.intro ht (And.intro hn (And.intro r3 (And.intro hz hlt))))
 clear hs hz r3 hown k1 k2 k3 R2 b3 S3 ht hn z2 hlt HP
 go_wp2_with fail
 try rw[hB]
 rw[<- hw2,<- hw3]
 clear hw2 hw3
 refine HAll.out.mono ?_
 rintro e w4 ⟨rfl,k4,hs4⟩
 rw[HW.out.1,(cnt23 HW.out.2.2.1 HW.out.2.2.2.1).1,show Bl Cx=8 by decide]
 rw[HW.out.1,HW.out.2.1,show (16:Nat)/2=8 from rfl,sl24] at hs4
 have HEd:=sE (ed24 HW.out.2.2.1 HW.out.2.2.2.1)
 obtain⟨W8,hW8⟩:∃ W8,AU (AX Cx (BL Cx (Eu alT Dv) Cx W)) 0 (Dm Dv Cx) 8=W8:=⟨_,rfl⟩
 rw[hW8] at hs4 HEd
 have lB:∀ k,P.own k->k<B:=HW.out.2.2.2.2
 have c4:=k4.cell c3 (λ h=>by have:=lB _ h;dsimp only at this;omega)
 have HK4:Sl (Kp Ab w w4):=⟨HK13.out.trans k4 (λ k hk h=>by have:=HOw.out k h;omega)⟩
 have HS4:=sE hs4
 have HDn:Sl (∀ W',Calls prog 36 #[.pointer none,.agg #[.slice (some ⟨B,0,none⟩) 3 3]] W' λ e w'=>e=.returned (.tuple #[.int .i64 0,.int .i64 1])/\Kp Ab W' w'):=⟨λ W'=>SlDo_nil _ W'⟩
 clear hs4 k4 hW8 lB c3 HAll
 go_wp2_with fail
 refine(HDn.out _).mono ?_
 rintro e w5 ⟨rfl,k5⟩
 have HK5:=sE (HK4.out.then' k5)
 have HS5:=sE (hsW1 HS4.out k5)
 clear k5 c4 HDn
 go_wp2_with fail
 obtain⟨f5,s5,q5,t5⟩:=HS5.out
 have HCl:=sE (Cells_at P cs24 w5 ⟨W8,HS5.out⟩)
 have HE:Sl (∀ W',Kp Ab w5 W'->Calls prog 38 #[.pointer (some ⟨P.s,0,none⟩)] W' λ e w'=>∃ v,e=.returned v/\w'.ownsRow W'.heap.size 91 3 v 1 (CB [(0,0,5)])/\Kp Ab W' w'):=⟨λ W' k=>by
  have:=Edges_at P W8 f5 cs24 W' (s5.Ad k) q5 (by rw[HW.out.1];intro x hx;have:=List.mem_singleton.1 hx;subst this;decide)
  rw[HW.out.1,HEd.out] at this
  exact this⟩
 clear s5 q5 t5
 refine HCl.out.mono ?_
 rintro e w6 ⟨v,rfl,ho,k6⟩
 have HK6:=sE (HK5.out.then' k6)
 rcases ho.2 with ⟨-,h0⟩|⟨g,cap,cur,rfl,h2,h3,h4,h5,h6,h7⟩
 .cases h0
 have hc:∀ i x,(BV cs24)[i]?=some x->w6.cell? ⟨g,i,none⟩=some x:=λ i x hx=>by
  have hi:=(gE.1 hx).1
  have e5:(BV cs24).length=25:=by decide
  rw[<- h7,List.getElem?_take_of_lt (by rw[show cs24.length*5=25 from rfl];omega),Array.getElem?_toList] at hx
  simp only[World.cell?,h3]
  exact hx
 have x0:=hc 0 (.int .i64 0) rfl
 have x1:=hc 1 (.int .u8 1) rfl
 have x6:=hc 6 (.int .u8 2) rfl
 have x15:=hc 15 (.int .i64 5) rfl
 have HE6:=sE (HE.out w6 k6)
 clear ho h2 h3 h4 h5 h6 h7 hc k6 HCl HE
 go_wp2_with fail
 refine HE6.out.mono ?_
 rintro e w7 ⟨v,rfl,hv,k7⟩
 have HRw:=sE (Du.Br (es:=[(0,0,5)]) hv)
 have HK7:=sE (HK6.out.then' k7)
 clear hv k7 x0 x1 x6 x15
 go_wp2_with fail
 obtain⟨wD,hwD⟩:∃ wD,wD=w7.alloc (.cells #[.int .i64 0,.int .i64 0,.int .i64 5] 91):=⟨_,rfl⟩
 rw[<- hwD]
 have kD:Kp Ab w7 wD:=by rw[hwD];exact (Kr _ w7).alloc _
 have bD:wD.heap[w7.heap.size]?=some (.cells #[.int .i64 0,.int .i64 0,.int .i64 5] 91 (0,0)):=by rw[hwD];exact wN w7 _
 have HSE:=sE (SameEdges_yes [(0,0,5)] _ _ wD (HRw.out.Ad kD) (rowO_one bD) (by decide))
 have HKD:=sE (HK7.out.then' kD)
 clear hwD kD bD
 refine HSE.out.mono ?_
 rintro e wE ⟨rfl,kE⟩
 have HKE:=sE (HKD.out.then' kE)
 clear kE
 go_wp2_with fail
 exact bodyPost_ret (v:=.bool true) (by simp[results,results7,go_sem]) rfl ⟨rfl,HKE.out⟩

end

end Go.Proofs.YtmfajopmppfldaaGreatDoor
