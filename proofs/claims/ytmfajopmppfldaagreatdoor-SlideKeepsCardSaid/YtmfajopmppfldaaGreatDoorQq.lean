/-
  Lemmas for the laws, together: SlideAl, SlideK, SlideC, SlideV, SlideW.
-/
import Derived.Test.YtmfajopmppfldaaGreatDoorQp
import Derived.Test.YtmfajopmppfldaaGreatDoorQo
import Derived.Test.YtmfajopmppfldaaGreatDoorQi
import Derived.Test.YtmfajopmppfldaaGreatDoorQn
set_option linter.unusedVariables false
set_option maxHeartbeats 16000000
namespace Go.Proofs.YtmfajopmppfldaaGreatDoor
open Go.Proofs.Tryz
section
open Go.RowKit

theorem rowO_one{w:World}{b x y z:Nat}{T:TypeId}(h:w.heap[b]?=some (.cells #[.int .i64 (x:Nat),.int .i64 (y:Nat),.int .i64 (z:Nat)] T (0,0))):Et w (.slice (some ⟨b,0,none⟩) 1 1) [(x,y,z)]:=by
 refine⟨_,_,rfl,λ i e he=>?_⟩
 obtain rfl:i=0:=by have:=(gE.1 he).1;simp at this;exact this
 simp at he
 subst he
 exact⟨b,0,rfl,lZ h,by simp[World.cell?,h],by simp[World.cell?,h],by simp[World.cell?,h]⟩

def cs24:List Cel:=[⟨0,1,1,3,2⟩,⟨2,2,0,0,1⟩,⟨3,1,1,3,2⟩,⟨5,1,1,3,2⟩,⟨7,2,0,0,1⟩]

theorem os24:BS Dw Cu=[⟨0,1,1,3,2⟩,⟨3,1,1,3,2⟩,⟨5,1,1,3,2⟩]:=by
 have h:DF Cu=[0,3,5]:=by
  unfold DF
  rw[List.mergeSort_of_pairwise (by simp[Cu])]
  rfl
 unfold BS goesL
 rw[h]
 decide +kernel

theorem sl24:Bd 0 (BS Dw Cu) 8=cs24:=by
 rw[os24]
 decide +kernel

theorem ed24{W:Nat->Nat}(h3:W 3=1048588)(hz:∀ k∈[4,5,7,8,9,13,14,15],W k=0):edgesL alT (AR (Bh Cu (BZ Cu (FP alT Dw) Cu W)) 0 (BS Dw Cu) 8) cs24=[(0,0,5)]:=by
 have h4:=hz 4 (by simp)
 have h5:=hz 5 (by simp)
 have h7:=hz 7 (by simp)
 have h8:=hz 8 (by simp)
 have h9:=hz 9 (by simp)
 have h13:=hz 13 (by simp)
 have h14:=hz 14 (by simp)
 have h15:=hz 15 (by simp)
 have t1:toA Cu 1048588=1048586:=by decide +kernel
 have t0:toA Cu 0=0:=by decide +kernel
 obtain⟨W6,hW6⟩:∃ W6,BZ Cu (FP alT Dw) Cu W=W6:=⟨_,rfl⟩
 have g:W6 3=1048586/\∀ k∈[4,5,7,8,9,13,14,15],W6 k=0:=by
  rw[<- hW6]
  have e:∀ k,BZ Cu (FP alT Dw) Cu W k=BZ Cu (FP alT Dw) [(1,0,2),(3,3,2),(6,5,2)] W k:=λ _=>rfl
  refine⟨?_,λ k hk=>?_⟩
  .rw [e]
   simp only[BZ,rf23 1 (.inl rfl),rf23 3 (.inr (.inl rfl)),rf23 6 (.inr (.inr rfl)),BU,Ca]
   simp[h3,t1]
  .rw [e]
   simp only[BZ,rf23 1 (.inl rfl),rf23 3 (.inr (.inl rfl)),rf23 6 (.inr (.inr rfl)),BU,Ca]
   simp only[List.mem_cons,List.not_mem_nil,or_false] at hk
   rcases hk with rfl|rfl|rfl|rfl|rfl|rfl|rfl|rfl <;> simp[h4,h5,h7,h8,h9,h13,h14,h15,t0]
 rw[hW6]
 obtain⟨g3,gz⟩:=g
 have g4:=gz 4 (by simp)
 have g5:=gz 5 (by simp)
 have g7:=gz 7 (by simp)
 have g8:=gz 8 (by simp)
 have g9:=gz 9 (by simp)
 have g13:=gz 13 (by simp)
 have g14:=gz 14 (by simp)
 have g15:=gz 15 (by simp)
 have hr:BH 0 (BS Dw Cu) 8:=CL good23 (by simp[Au,Dw])
 have hin:∀ (o:Cel) (k:Nat),o∈BS Dw Cu->2*o.g<=k->k<2*o.fin->AR (Bh Cu W6) 0 (BS Dw Cu) 8 k=Bh [(1,0,2),(3,3,2),(6,5,2)] W6 k:=λ o k h1 h2 h3=>settleW_in hr h1 h2 h3
 rw[os24] at hin ⊢
 have o0:=λ k=>hin ⟨0,1,1,3,2⟩ k (by simp)
 have o3:=λ k=>hin ⟨3,1,1,3,2⟩ k (by simp)
 have o5:=λ k=>hin ⟨5,1,1,3,2⟩ k (by simp)
 obtain⟨V,hV⟩:∃ V,AR (Bh Cu W6) 0 [⟨0,1,1,3,2⟩,⟨3,1,1,3,2⟩,⟨5,1,1,3,2⟩] 8=V:=⟨_,rfl⟩
 rw[hV] at o0 o3 o5 ⊢
 have e1:Ap cs24=[⟨0,1,1,3,2⟩,⟨3,1,1,3,2⟩,⟨5,1,1,3,2⟩]:=by decide +kernel
 have e2:∀ g,BP alT ⟨g,1,1,3,2⟩=[0,1,2]:=λ g=>by
  show BP alT ⟨1,1,1,3,2⟩=_
  decide +kernel
 have v1:V 1=1048586:=by rw[o0 1 (by decide) (by decide)];simp [Bh,Dn,g3]
 have v2:V 2=0:=by rw[o0 2 (by decide) (by decide)];simp [Bh,Dn,g4]
 have v3:V 3=0:=by rw[o0 3 (by decide) (by decide)];simp [Bh,Dn,g5]
 have v7:V 7=0:=by rw[o3 7 (by decide) (by decide)];simp [Bh,Dn,g7]
 have v8:V 8=0:=by rw[o3 8 (by decide) (by decide)];simp [Bh,Dn,g8]
 have v9:V 9=0:=by rw[o3 9 (by decide) (by decide)];simp [Bh,Dn,g9]
 have v11:V 11=0:=by rw[o5 11 (by decide) (by decide)];simp [Bh,Dn,g13]
 have v12:V 12=0:=by rw[o5 12 (by decide) (by decide)];simp [Bh,Dn,g14]
 have v13:V 13=0:=by rw[o5 13 (by decide) (by decide)];simp [Bh,Dn,g15]
 have hR:Br alT V (Ap cs24)=[(0,0,1048586),(0,1,0),(0,2,0),(3,0,0),(3,1,0),(3,2,0),(5,0,0),(5,1,0),(5,2,0)]:=by
  rw[e1]
  unfold Br
  simp only[List.flatMap_cons,List.flatMap_nil,List.append_nil,e2,List.map_cons,List.map_nil,List.cons_append,List.nil_append]
  rw[v1,v2,v3,v7,v8,v9,v11,v12,v13]
 unfold edgesL
 rw[hR]
 decide +kernel

set_option maxRecDepth 20000 in
theorem alive24(w:World)(hF:Aq w):Calls prog 7 #[] w λ e w'=>e=.returned (.bool true)/\Kp Ab w w':=by
 have HF:=sE hF
 clear hF
 go_enter func7,ntmps7
 go_wp2_with fail
 obtain⟨wp,hwp⟩:∃ wp,wp=(w.alloc (.cells steps23 84)).alloc (.cells #[.int .u8 2,.int .i64 0,.int .u64 0] 86):=⟨_,rfl⟩
 have kp:Kp Ab w wp:=by rw[hwp];exact ((Kr _ w).alloc _).alloc _
 have hb1:wp.heap[w.heap.size]?=some (.cells steps23 84 (0,0)):=by rw[hwp];exact ((Kr Ab _).alloc _).at_ (wN w _) (λ h=>h)
 have hb2:wp.heap[w.heap.size+1]?=some (.cells #[.int .u8 2,.int .i64 0,.int .u64 0] 86 (0,0)):=by
  rw[hwp]
  have:=wN (w.alloc (.cells steps23 84)) (.cells #[.int .u8 2,.int .i64 0,.int .u64 0] 86)
  rwa [show (w.alloc (.cells steps23 84)).heap.size=w.heap.size+1 by simp] at this
 have HP:=sE (played23 wp (HF.out.Ad kp) w.heap.size (w.heap.size+1) _ _ hb1 hb2)
 have HKp:=sE kp
 unfold steps23 at hwp
 rw[<- hwp]
 clear hwp hb1 hb2 kp
 refine HP.out.mono ?_
 rintro e w1 ⟨P,rb,W,rfl,⟨ht,hn⟩,hs,⟨r3,hz⟩,hown,k1⟩
 have HK1:=sE (HKp.out.then' k1)
 obtain⟨w2,hw2⟩:∃ w2,w2=w1.alloc (.cells #[.int .i64 1,.int .i64 0,.int .i64 2,.int .i64 3,.int .i64 3,.int .i64 2,.int .i64 6,.int .i64 5,.int .i64 2] 43):=⟨_,rfl⟩
 obtain⟨B,hB⟩:∃ B,w1.heap.size=B:=⟨_,rfl⟩
 have R2:Et w2 (.slice (some ⟨B,0,none⟩) 3 3) Cu:=by rw[hw2,<- hB];exact rowo23 w1 _
 have k2:Kp Ab w1 w2:=by rw[hw2];exact (Kr _ w1).alloc _
 have z2:w2.heap.size=B+1:=by rw[hw2];simp [hB]
 obtain⟨w3,hw3⟩:∃ w3,w3=w2.alloc (.cells #[.slice (some ⟨B,0,none⟩) 3 3] 33):=⟨_,rfl⟩
 have k3:Kp Ab w2 w3:=by rw[hw3];exact (Kr _ w2).alloc _
 have b3:w3.heap[B+1]?=some (.cells #[.slice (some ⟨B,0,none⟩) 3 3] 33 (0,0)):=by rw[hw3,<- z2];exact wN w2 _
 have R3:=sE (R2.Ad k3)
 have HB3:=sE b3
 have S3:=hsW1 hs (k2.then' k3)
 have hlt:∀ k,P.own k->k<B:=λ k hk=>by
  obtain⟨f,h,-⟩:=hs
  have:=h.lt k (Sp.Cb hk)
  omega
 have HK13:=sE (HK1.out.then' (k2.then' k3))
 have HAll:Sl _:=⟨SlAll_at P W Dw Cu (.slice (some ⟨B,0,none⟩) 3 3) w3 S3 R3.out good23 (by decide) (by rw[ht];intro x hx;have:=List.mem_singleton.1 hx;subst this;decide) (λ b o l c h hb=>by
  injection h with h
  injection h with h
  injection h with h
  have:=hlt b hb
  omega)⟩
 have c3:=cell_of_one b3
 have HOw:Sl (∀ k,P.own k->w.heap.size<=k):=⟨λ k hk=>by have:=hown k hk;have:=HKp.out.size;omega⟩
 have HW:=sE (And.intro ht (And.intro hn (And.intro r3 (And.intro hz hlt))))
 clear hs hz r3 hown k1 k2 k3 R2 b3 S3 ht hn z2 hlt HP
 go_wp2_with fail
 try rw[hB]
 rw[<- hw2,<- hw3]
 clear hw2 hw3
 refine HAll.out.mono ?_
 rintro e w4 ⟨rfl,k4,hs4⟩
 rw[HW.out.1,(cnt23 HW.out.2.2.1 HW.out.2.2.2.1).1,show Cf Cu=8 by decide]
 rw[HW.out.1,HW.out.2.1,show (16:Nat)/2=8 from rfl,sl24] at hs4
 have HEd:=sE (ed24 HW.out.2.2.1 HW.out.2.2.2.1)
 obtain⟨W8,hW8⟩:∃ W8,AR (Bh Cu (BZ Cu (FP alT Dw) Cu W)) 0 (BS Dw Cu) 8=W8:=⟨_,rfl⟩
 rw[hW8] at hs4 HEd
 have lB:∀ k,P.own k->k<B:=HW.out.2.2.2.2
 have c4:=k4.cell c3 (λ h=>by have:=lB _ h;dsimp only at this;omega)
 have HK4:Sl (Kp Ab w w4):=⟨HK13.out.trans k4 (λ k hk h=>by have:=HOw.out k h;omega)⟩
 have HS4:=sE hs4
 have HDn:Sl (∀ W',Calls prog 36 #[.pointer none,.agg #[.slice (some ⟨B,0,none⟩) 3 3]] W' λ e w'=>e=.returned (.tuple #[.int .i64 0,.int .i64 1])/\Kp Ab W' w'):=⟨λ W'=>SlDo_nil _ W'⟩
 clear hs4 k4 hW8 lB c3 HAll
 go_wp2_with fail
 refine(HDn.out _).mono ?_
 rintro e w5 ⟨rfl,k5⟩
 have HK5:=sE (HK4.out.then' k5)
 have HS5:=sE (hsW1 HS4.out k5)
 clear k5 c4 HDn
 go_wp2_with fail
 obtain⟨f5,s5,q5,t5⟩:=HS5.out
 have HCl:=sE (Cells_at P cs24 w5 ⟨W8,HS5.out⟩)
 have HE:Sl (∀ W',Kp Ab w5 W'->Calls prog 38 #[.pointer (some ⟨P.s,0,none⟩)] W' λ e w'=>∃ v,e=.returned v/\w'.ownsRow W'.heap.size 91 3 v 1 (BB [(0,0,5)])/\Kp Ab W' w'):=⟨λ W' k=>by
  have:=Edges_at P W8 f5 cs24 W' (s5.Ad k) q5 (by rw[HW.out.1];intro x hx;have:=List.mem_singleton.1 hx;subst this;decide)
  rw[HW.out.1,HEd.out] at this
  exact this⟩
 clear s5 q5 t5
 refine HCl.out.mono ?_
 rintro e w6 ⟨v,rfl,ho,k6⟩
 have HK6:=sE (HK5.out.then' k6)
 rcases ho.2 with ⟨-,h0⟩|⟨g,cap,cur,rfl,h2,h3,h4,h5,h6,h7⟩
 .cases h0
 have hc:∀ i x,(Cr cs24)[i]?=some x->w6.cell? ⟨g,i,none⟩=some x:=λ i x hx=>by
  have hi:=(gE.1 hx).1
  have e5:(Cr cs24).length=25:=by decide
  rw[<- h7,List.getElem?_take_of_lt (by rw[show cs24.length*5=25 from rfl];omega),Array.getElem?_toList] at hx
  simp only[World.cell?,h3]
  exact hx
 have x0:=hc 0 (.int .i64 0) rfl
 have x1:=hc 1 (.int .u8 1) rfl
 have x6:=hc 6 (.int .u8 2) rfl
 have x15:=hc 15 (.int .i64 5) rfl
 have HE6:=sE (HE.out w6 k6)
 clear ho h2 h3 h4 h5 h6 h7 hc k6 HCl HE
 go_wp2_with fail
 refine HE6.out.mono ?_
 rintro e w7 ⟨v,rfl,hv,k7⟩
 have HRw:=sE (Et.BK (es:=[(0,0,5)]) hv)
 have HK7:=sE (HK6.out.then' k7)
 clear hv k7 x0 x1 x6 x15
 go_wp2_with fail
 obtain⟨wD,hwD⟩:∃ wD,wD=w7.alloc (.cells #[.int .i64 0,.int .i64 0,.int .i64 5] 91):=⟨_,rfl⟩
 rw[<- hwD]
 have kD:Kp Ab w7 wD:=by rw[hwD];exact (Kr _ w7).alloc _
 have bD:wD.heap[w7.heap.size]?=some (.cells #[.int .i64 0,.int .i64 0,.int .i64 5] 91 (0,0)):=by rw[hwD];exact wN w7 _
 have HSE:=sE (SameEdges_yes [(0,0,5)] _ _ wD (HRw.out.Ad kD) (rowO_one bD) (by decide))
 have HKD:=sE (HK7.out.then' kD)
 clear hwD kD bD
 refine HSE.out.mono ?_
 rintro e wE ⟨rfl,kE⟩
 have HKE:=sE (HKD.out.then' kE)
 clear kE
 go_wp2_with fail
 exact bodyPost_ret (v:=.bool true) (by simp[results,results7,go_sem]) rfl ⟨rfl,HKE.out⟩

end

section
open Go.RowKit

theorem Leads_at(es:List (Nat×Nat×Nat))(v:Value)(y z:Nat)(w:World)(h:Et w v es)(hl:es.length<=65536)(hs:∀ x∈es,x.1<=65536/\x.2.1<=65536)(hz:z=toA es y):
  Calls prog 20 #[.agg #[v],.int .u64 (y:Nat),.int .u64 (z:Nat)] w λ e w'=>e=.returned (.bool true)/\Kp Ab w w':=by
 have HV:=sE h
 obtain⟨va,vc,rfl,-⟩:=h
 obtain⟨len,hlen⟩:∃ len,es.length=len:=⟨_,rfl⟩
 rw[hlen] at HV hl
 have HL:=sE hlen
 have HS:=sE hs
 have HZ:=sE hz
 obtain⟨w1,hw1⟩:∃ w1,w1=w.alloc (.cells #[.slice va len vc] 33):=⟨_,rfl⟩
 have k1:Kp Ab w w1:=by rw[hw1];exact (Kr _ w).alloc _
 have b1:w1.heap[w.heap.size]?=some (.cells #[.slice va len vc] 33 (0,0)):=by rw[hw1];exact wN w _
 have HB1:=sE b1
 have HK1:=sE k1
 rw[hlen]
 clear hlen k1 b1 hs hz
 go_enter func20,ntmps20
 go_wp2_with fail
 rw[<- hw1]
 clear hw1
 obtain⟨B,hB⟩:∃ B,w.heap.size=B:=⟨_,rfl⟩
 rw[hB] at HB1
 try rw[hB]
 go_loopw [7] (λ x7 wr=>∃ j:Nat,j<=len/\x7=.int .i64 (j:Nat)/\Sl ((es.take j).find? (λ x=>Cc x.1==y)=none)/\Kp Ab w1 wr) (λ x7 _=>len-(intOf x7).toNat)
 case atStart=>exact ⟨0,Nat.zero_le _,rfl,⟨rfl⟩,Kr _ _⟩
 case round=>
  obtain⟨j,hj,rfl,HF,hk⟩:=hrel
  have HK:=sE hk
  have c0:=cell_of_one (hk.at_ HB1.out (λ h=>h))
  by_cases hjl:j<len
  .have hjl':(j:Int)<(len:Int):=by omega
   obtain⟨va',vc',e,hx⟩:=HV.out
   rw[HL.out] at e
   injection e with e1 e3 e2
   clear e3
   subst e1 e2
   obtain⟨x,hxj⟩:∃ x,es[j]?=some x:=⟨_,List.getElem?_eq_getElem (by rw[HL.out];exact hjl)⟩
   obtain⟨bb,o,rfl,hbb,x0,x1,x2⟩:=hx j x hxj
   have K0:Kp Ab w wr:=HK1.out.then' hk
   replace x0:=K0.cell x0 (λ h=>h)
   replace x1:=K0.cell x1 (λ h=>h)
   have hsx:=HS.out x (List.mem_of_getElem? hxj)
   have HX:=sE hxj
   obtain⟨xf,xt,xz⟩:=x
   simp only at x0 x1 hsx
   have HA:Sl (∀ W',Calls prog 25 #[.int .i64 (xf:Nat)] W' _):=⟨λ W'=>FE xf W' (by omega)⟩
   have HA2:Sl (∀ W',Calls prog 25 #[.int .i64 (xt:Nat)] W' _):=⟨λ W'=>FE xt W' (by omega)⟩
   clear hx hk hxj K0 hsx
   go_wp2_with fail
   refine(HA.out _).mono ?_
   rintro e w4 ⟨rfl,rfl⟩
   by_cases hy:y=Cc xf
   .have hz:z=Cc xt:=by
     rw[HZ.out]
     unfold toA
     rw[find_hit' HF.out HX.out (by simp[hy])]
    have hy':(y:Int)=(Cc xf:Int):=by omega
    have hz':(z:Int)=(Cc xt:Int):=by omega
    go_wp2_with fail
    refine(HA2.out _).mono ?_
    rintro e w5 ⟨rfl,rfl⟩
    go_wp2_with fail
    refine bodyPost_ret (v:=.bool true) (by simp[results,results20,go_sem]) rfl ⟨rfl,HK1.out.then' HK.out⟩
   .have hy':¬ (y:Int)=(Cc xf:Int):=by omega
    have hF:=find_miss' HF.out HX.out (by simp;exact λ h=>hy h.symm)
    go_wp2_with fail
    exact⟨⟨j+1,by omega,by go_num,⟨hF⟩,HK.out⟩,by simp only[intOf];omega⟩
  .have hje:j=len:=by omega
   subst hje
   have hz:z=0:=by
    have hF:=HF.out
    rw[<- HL.out,List.take_length] at hF
    rw[HZ.out]
    unfold toA
    rw[hF]
   have hz':(z:Int)=0:=by omega
   go_wp2_with fail
   refine bodyPost_ret (v:=.bool true) (by simp[results,results20,go_sem,hz']) rfl ⟨rfl,HK1.out.then' HK.out⟩

end

section
open Go.RowKit

def ACopyPost(n:Nat)(W:Nat->Nat)(w:World)(e:Ending)(w':World):Prop:=
 ∃ a' q',e=.returned (.pointer (some ⟨a',0,none⟩))/\w.heap.size<=a'/\w.heap.size<=q'/\a'<w'.heap.size/\ArenaAt w' a' q' W n/\Kp Ab w w'

theorem ACopy_at(a q n:Nat)(W:Nat->Nat)(w:World)(h:ArenaAt w a q W n):
  Calls prog 45 #[.pointer (some ⟨a,0,none⟩)] w (ACopyPost n W w):=by
 have hn:=h.small
 have hfits:=h.fits
 obtain⟨cap,c,h0,h1,hcap⟩:=h.headC
 have HC:=sE (Clone_many q n cap ((List.range n).map W) w.drew (by simp) (λ j hj=>by rw[range_getD W hj];exact h.at_ hj) hn)
 have HF:=sE hfits
 clear h hfits
 go_enter func45,ntmps45
 go_wp2_with fail
 refine wp_region_held_drew (S:=λ w'=>w'.cell? ⟨a,0,none⟩=some (.slice (some ⟨q,0,none⟩) n cap)/\w'.cell? ⟨a,1,none⟩=some (.int .u64 c)) (by kernel_rfl) ?_ (λ qZ=>?_)
 .exact ⟨h0,h1⟩
 refine Ao 0 ?_;refine Ao 1 ?_;refine Ao 2 ?_;refine Ao 3 ?_;refine Ao 5 ?_;refine Ao 6 ?_;refine Ao 7 ?_;refine Ao 8 ?_
 try simp only[Aw]
 refine AV [4] ?_
 refine Ag rfl (λ K hK=>?_)
 go_simp
 with_reducible refine HC.out.mono ?_
 rintro e w2 ⟨g,cap',rfl,hg,hcc,⟨cs',h2,h3,h4⟩,k2⟩
 have K2:Kp Ab w w2:=((Kr _ w).drew).then' k2
 refine hK _ _ ?_ (λ qZ=>?_)
 .exact ⟨K2.cell h0 (λ h=>h),K2.cell h1 (λ h=>h)⟩
 clear hK K
 try simp only[Aw]
 refine Ao 9 ?_
 try simp only[Aw]
 refine AV [10] ?_
 refine Ag rfl (λ K hK=>?_)
 go_simp
 have KA:Kp Ab w (w2.alloc (.cells #[.slice (some ⟨g,0,none⟩) n cap',.int .u64 c] 173)):=K2.alloc _
 have hAr:ArenaAt (w2.alloc (.cells #[.slice (some ⟨g,0,none⟩) n cap',.int .u64 c] 173)) w2.heap.size g W n:=
  ⟨⟨cap',c,wN _ _,hcc⟩,⟨cs',((Kr Ab w2).alloc _).at_ h2 (λ h=>h),h3,λ j hj=>by
   have:=h4 j hj
   rwa [range_getD W hj] at this⟩,hn,HF.out⟩
 have z2:=K2.size
 have hlt:w2.heap.size<(w2.alloc (.cells #[.slice (some ⟨g,0,none⟩) n cap',.int .u64 c] 173)).heap.size:=by simp
 refine hK _ _ ?_ (λ qZ=>?_)
 .exact ⟨KA.cell h0 (λ h=>h),KA.cell h1 (λ h=>h)⟩
 clear hK K
 try simp only[Aw]
 refine Ao 11 ?_
 try simp only[Aw]
 refine wpAnyH_done (by kernel_rfl) ?_ _
 have HFin:Sl (ACopyPost n W w (.returned (.pointer (some ⟨w2.heap.size,0,none⟩))) _):=⟨_,_,rfl,z2,hg,hlt,hAr,KA⟩
 clear KA hAr z2 hlt K2 k2
 go_wp2_with fail
 exact bodyPost_ret (v:=.pointer (some ⟨w2.heap.size,0,none⟩)) (by simp[results,results45,go_sem]) rfl HFin.out

def SCopyPost(P:Sp)(W:Nat->Nat)(f:Nat->Bool)(w:World)(e:Ending)(w':World):Prop:=
 ∃ s a q b bq,e=.returned (.pointer (some ⟨s,0,none⟩))/\(w.heap.size<=s/\w.heap.size<=a/\w.heap.size<=q/\w.heap.size<=b/\w.heap.size<=bq)/\SpaceAt w' ⟨s,a,q,P.t,P.tq,b,bq,P.n,P.ts⟩ W f/\Kp Ab w w'

theorem SCopy_at(P:Sp)(W:Nat->Nat)(f:Nat->Bool)(w:World)(h:SpaceAt w P W f):
  Calls prog 10 #[.pointer (some ⟨P.s,0,none⟩)] w (SCopyPost P W f w):=by
 have HS:=sE h
 have lall:=h.lt
 have HA:=sE (ACopy_at P.a P.q P.n W w.drew (h.ar.Ad (Kr Ab w).drew))
 have s0:w.cell? ⟨P.s,0,none⟩=some (.pointer (some ⟨P.a,0,none⟩)):=by simp[World.cell?,h.hs]
 have s1:w.cell? ⟨P.s,1,none⟩=some (.pointer (some ⟨P.t,0,none⟩)):=by simp[World.cell?,h.hs]
 have s2:w.cell? ⟨P.s,2,none⟩=some (.pointer (some ⟨P.b,0,none⟩)):=by simp[World.cell?,h.hs]
 clear h
 go_enter func10,ntmps10
 go_wp2_with fail
 refine wp_region_held_drew (S:=λ w'=>w'.cell? ⟨P.s,0,none⟩=some (.pointer (some ⟨P.a,0,none⟩))/\w'.cell? ⟨P.s,1,none⟩=some (.pointer (some ⟨P.t,0,none⟩))/\w'.cell? ⟨P.s,2,none⟩=some (.pointer (some ⟨P.b,0,none⟩))) (by kernel_rfl) ?_ (λ qZ=>?_)
 .exact ⟨s0,s1,s2⟩
 refine Ao 0 ?_;refine Ao 1 ?_;refine Ao 2 ?_;refine Ao 3 ?_;refine Ao 5 ?_;refine Ao 6 ?_;refine Ao 7 ?_;refine Ao 8 ?_;refine Ao 9 ?_;refine Ao 10 ?_;refine Ao 11 ?_;refine Ao 12 ?_
 try simp only[Aw]
 refine AV [4] ?_
 refine Ag rfl (λ K hK=>?_)
 go_simp
 with_reducible refine HA.out.mono ?_
 rintro e w2 ⟨a',q',rfl,ha,hq,hla,ar2,k2⟩
 have K2:Kp Ab w w2:=((Kr _ w).drew).then' k2
 refine hK _ _ ?_ (λ qZ=>?_)
 .exact ⟨K2.cell s0 (λ h=>h),K2.cell s1 (λ h=>h),K2.cell s2 (λ h=>h)⟩
 clear hK K
 try simp only[Aw]
 have HB:=sE (Copy_at (P.n/2) P.b P.bq f w2 (HS.out.bt.keep K2 (λ h=>h) (λ h=>h)))
 refine AV [13] ?_
 refine Ag rfl (λ K hK=>?_)
 go_simp
 with_reducible refine HB.out.mono ?_
 rintro e w3 ⟨b',q'',rfl,hb,hbq,bt3,k3⟩
 have K3:Kp Ab w w3:=K2.then' k3
 refine hK _ _ ?_ (λ qZ=>?_)
 .exact ⟨K3.cell s0 (λ h=>h),K3.cell s1 (λ h=>h),K3.cell s2 (λ h=>h)⟩
 clear hK K
 try simp only[Aw]
 refine Ao 14 ?_
 try simp only[Aw]
 refine AV [15] ?_
 refine Ag rfl (λ K hK=>?_)
 go_simp
 obtain⟨w4,hw4⟩:∃ w4,w4=w3.alloc (.cells #[.pointer (some ⟨a',0,none⟩),.pointer (some ⟨P.t,0,none⟩),.pointer (some ⟨b',0,none⟩)] 99):=⟨_,rfl⟩
 have k4:Kp Ab w3 w4:=by rw[hw4];exact (Kr _ w3).alloc _
 have b4:w4.heap[w3.heap.size]?=some (.cells #[.pointer (some ⟨a',0,none⟩),.pointer (some ⟨P.t,0,none⟩),.pointer (some ⟨b',0,none⟩)] 99 (0,0)):=by rw[hw4];exact wN w3 _
 have z4:w4.heap.size=w3.heap.size+1:=by rw[hw4];simp
 rw[<- hw4]
 have K4:Kp Ab w w4:=K3.then' k4
 have z2:=K2.size
 have z3:=k3.size
 have z0:w.drew.heap.size=w.heap.size:=rfl
 have hq2:=ar2.lt_q
 have hb3:=bt3.lt_p'
 have hbq3:=bt3.lt_q'
 have hbn:=bt3.ne'
 have hS4:=HS.out.Ad K4
 have ar4:=ar2.Ad (k3.then' k4)
 have bt4:=bt3.keep k4 (λ h=>h) (λ h=>h)
 have hSp:SpaceAt w4 ⟨w3.heap.size,a',q',P.t,P.tq,b',q'',P.n,P.ts⟩ W f:=by
  have l0:=lall 0 (by simp[Sp.all])
  have lt_:=lall P.t (by simp[Sp.all])
  have ltq:=lall P.tq (by simp[Sp.all])
  refine⟨b4,ar4,hS4.tb,bt4,hS4.fl,⟨λ k hk=>?_,?_,?_⟩,hS4.ev,λ k hk=>?_⟩
  .have hk':k=a'\/k=q'\/k=q'':=hk
   dsimp only
   omega
  .dsimp only;omega
  .dsimp only;omega
  .have hk':k=0\/k=w3.heap.size\/k=a'\/k=q'\/k=P.t\/k=P.tq\/k=b'\/k=q'':=hk
   omega
 have HFin:Sl (SCopyPost P W f w (.returned (.pointer (some ⟨w3.heap.size,0,none⟩))) w4):=⟨_,_,_,_,_,rfl,⟨by omega,by omega,by omega,by omega,by omega⟩,hSp,K4⟩
 refine hK _ _ ?_ (λ qZ=>?_)
 .exact ⟨K4.cell s0 (λ h=>h),K4.cell s1 (λ h=>h),K4.cell s2 (λ h=>h)⟩
 clear hK K
 try simp only[Aw]
 refine Ao 16 ?_
 try simp only[Aw]
 refine wpAnyH_done (by kernel_rfl) ?_ _
 clear hSp bt4 ar4 hS4 K4 k4 b4 bt3 ar2 k3 K3 K2 k2 hw4
 go_wp2_with fail
 exact bodyPost_ret (v:=.pointer (some ⟨w3.heap.size,0,none⟩)) (by simp[results,results10,go_sem]) rfl HFin.out

end

section
open Go.RowKit

theorem KRef_ok(k wds:Int)(M:Nat)(n:Int)(s:Nat)(w:World)(hM:M<18446744073709551616)(hE:AP k wds M n=0)(hs:(s:Int)<AL k wds n):
  Calls prog 56 #[.agg #[.int .u8 k,.int .i64 wds,.int .u64 (M:Nat)],.int .i64 n,.int .i64 (s:Nat)] w λ e w'=>e=.returned (.tuple #[.bool (Ba k wds M s),.int .i64 0])/\Kp Ab w w':=by
 obtain⟨K,hK⟩:∃ K:Nat,AL k wds n=(K:Nat):=Int.eq_ofNat_of_zero_le (AU hE).1
 have hK2:K<=65536:=by have:=(AU hE).2;omega
 have CO:=λ w=>Kof_any k wds M n w
 unfold AB at CO
 have HO0:=sE CO
 have HZ:=sE hE
 have CS:=λ w=>slots_any k wds M n w hE
 rw[hK] at CS
 unfold BC at CS
 have HC:=sE CS
 have HIs:Sl (∀ W',Calls prog 106 #[.agg #[.int .u8 k,.int .i64 wds,.int .u64 (M:Nat),.int .i64 n],.int .i64 (s:Nat)] W' λ e w'=>e=.returned (.bool (Ba k wds M s))/\Kp Ab W' w'):=
  ⟨λ W'=>LRef_any k wds n M s W' hM hE hs⟩
 rw[hK] at hs
 obtain⟨R,hR⟩:∃ R,Ba k wds M s=R:=⟨_,rfl⟩
 rw[hR] at HIs ⊢
 have kA:=(Kr Ab w).alloc (.cells #[.int .u8 k,.int .i64 wds,.int .u64 (M:Nat)] 86)
 clear CO CS hK hE hR
 go_enter func56,ntmps56
 go_wp2_with fail
 obtain⟨w1,hw1⟩:∃ w1,w1=w.alloc (.cells #[.int .u8 k,.int .i64 wds,.int .u64 (M:Nat)] 86):=⟨_,rfl⟩
 rw[<- hw1] at kA ⊢
 clear hw1
 refine(HO0.out w1).mono ?_
 rintro e w2 ⟨v,rfl,hv,hv0,k2⟩
 have hv2:=hv0 HZ.out
 unfold BC at hv2
 subst hv2
 rw[HZ.out]
 clear hv hv0
 obtain⟨w3,hw3⟩:∃ w3,w3=w2.alloc (.cells #[.int .u8 k,.int .i64 wds,.int .u64 (M:Nat),.int .i64 n] 187):=⟨_,rfl⟩
 have k3:Kp Ab w2 w3:=by rw[hw3];exact (Kr _ w2).alloc _
 have b3:w3.heap[w2.heap.size]?=some (.cells #[.int .u8 k,.int .i64 wds,.int .u64 (M:Nat),.int .i64 n] 187 (0,0)):=by rw[hw3];exact wN w2 _
 have HB3:=sE b3
 have HK3:=sE ((kA.then' k2).then' k3)
 clear kA k2 k3 b3
 go_wp2_with fail
 rw[<- hw3]
 clear hw3
 refine(HC.out w3).mono ?_
 rintro e w4 ⟨rfl,k4⟩
 have HB4:=sE (k4.at_ HB3.out (λ h=>h))
 have HK4:=sE (HK3.out.then' k4)
 clear k4
 obtain⟨L,hL⟩:∃ L,w2.heap.size=L:=⟨_,rfl⟩
 rw[hL] at HB4
 obtain⟨a0,a1,a2,a3⟩:=Ay HB4.out
 go_wp2_with fail
 refine(HIs.out _).mono ?_
 rintro e w5 ⟨rfl,k5⟩
 have HK5:=sE (HK4.out.then' k5)
 clear k5
 go_wp2_with fail
 exact bodyPost_ret (v:=.tuple #[.bool R,.int .i64 0]) (by simp[results,results56,go_sem]) rfl ⟨rfl,HK5.out⟩

theorem VRef_at(j b a:Nat)(c:Cel)(k wds:Int)(m:Nat)(w:World)(hV:Bt w b a c k wds m)(hm:m<18446744073709551616)(hE:AP k wds m (c.ln:Nat)=0)(hj:(j:Int)<AL k wds (c.ln:Nat)):
  Calls prog 19 #[.pointer (some ⟨b,0,none⟩),.int .i64 (j:Nat)] w λ e w'=>e=.returned (.tuple #[.bool (Ba k wds m j),.int .i64 0])/\Kp Ab w w':=by
 have HK:Sl (∀ W',Calls prog 56 #[.agg #[.int .u8 k,.int .i64 wds,.int .u64 (m:Nat)],.int .i64 (c.ln:Nat),.int .i64 (j:Nat)] W' λ e w'=>e=.returned (.tuple #[.bool (Ba k wds m j),.int .i64 0])/\Kp Ab W' w'):=⟨λ W'=>KRef_ok k wds m (c.ln:Nat) j W' hm hE hj⟩
 obtain⟨s,hs⟩:∃ s,Ba k wds m j=s:=⟨_,rfl⟩
 rw[hs] at HK ⊢
 obtain⟨v0,v1,v2,v3,v4,v5,v6,v7,v8⟩:=hV.cells
 have hlt:=lZ hV
 obtain⟨ln,hln⟩:∃ ln,c.ln=ln:=⟨_,rfl⟩
 rw[hln] at HK v4
 clear hs hV hE v0 v1 v2 v3 v5 hln hj
 go_enter func19,ntmps19
 go_wp2_with fail
 go_region_held3 (λ w'=>w'.cell? ⟨b,4,none⟩=some (.int .i64 (ln:Nat))/\w'.cell? ⟨b,6,none⟩=some (.int .u8 k)/\w'.cell? ⟨b,7,none⟩=some (.int .i64 wds)/\w'.cell? ⟨b,8,none⟩=some (.int .u64 (m:Nat)))
  (exact ⟨Ac KU v4,Ac KU v6,Ac KU v7,Ac KU v8⟩)
  (first | (go_at_call 56;with_reducible refine(HK.out _).mono ?_;rintro e w2 ⟨rfl,hk⟩;(have KK:Kp Ab w w2:=Kp.then' KU hk)))
 go_wp2_with fail
 exact bodyPost_ret (v:=.tuple #[.bool s,.int .i64 0]) (by simp[results,results19,go_sem]) rfl ⟨rfl,KK.then' KU⟩

theorem SOf_ty(c:Cel)(P:Sp)(W:Nat->Nat)(f:Nat->Bool)(w:World)(h:SpaceAt w P W f)(hobj:BO W P.n P.ts (c.g:Nat)=some c)(hok:C8 P.ts c)(h0:0<c.sz)(ht:c.tag=1)(hms:∀ x∈P.ts,x.m<18446744073709551616):
  Calls prog 13 #[.pointer (some ⟨P.a,0,none⟩),.pointer (some ⟨P.t,0,none⟩),.int .i64 (c.g:Nat)] w λ e w'=>
   ∃ b k wds m,(typeOf P.ts (c.ty:Nat)=some ⟨k,wds,m⟩/\AP k wds m (c.ln:Nat)=0/\m<18446744073709551616/\1+AL k wds (c.ln:Nat)<=2*(c.sz:Nat))/\e=.returned (.tuple #[.pointer (some ⟨b,0,none⟩),.int .i64 0])/\Bt w' b P.a c k wds m/\w.heap.size<=b/\Kp Ab w w':=by
 refine(SOf_any (c.g:Nat) P.a P.q P.n P.t P.tq W P.ts w h.fl h.ar h.tb).mono ?_
 intro e w' hp
 unfold Dh at hp
 rw[hobj] at hp
 obtain⟨b,k,wds,m,h1,h2,h3,h4,h5⟩:=hp
 have hk:AP k wds m (c.ln:Nat)=0:=by
  obtain⟨e1,e2⟩:=hok.2 ht
  unfold AQ at e1
  rw[h1] at e1
  exact e1
 have hm:m<18446744073709551616:=by
  obtain⟨i,-,hi,-⟩:=DN h1
  exact hms _ (List.mem_of_getElem? hi)
 refine⟨b,k,wds,m,⟨h1,hk,hm,?_⟩,h2,h3,h4,h5⟩
 have hr:=slotN_room hok h0
 unfold slotN at hr
 rw[if_pos ht,h1] at hr
 dsimp only at hr
 have:=(AU hk).1
 omega

theorem refsC_is{ts:List TypR}{c:Cel}{k wds:Int}{m s:Nat}(h:typeOf ts (c.ty:Nat)=some ⟨k,wds,m⟩)(hs:(s:Int)<AL k wds (c.ln:Nat)):s∈BP ts c ↔ Ba k wds m s=true:=by
 unfold BP
 rw[h]
 dsimp only
 unfold Bc AJ
 rw[List.mem_filter,List.mem_range]
 constructor
 .exact λ h=>h.2
 .exact λ h=>⟨by omega,h⟩

end

section
open Go.RowKit

theorem objsOf_gapL(e m:Nat):Ap (Fx e m)=[]:=by
 unfold Fx
 split
 .rfl
 .simp [Ap]
  split <;> simp

theorem Em:∀ {os:List Cel} {e H:Nat},(∀ o∈os,o.tag=1)->Ap (Bd e os H)=os
 |[],e,H,_=>by rw[Bd,objsOf_gapL]
 |o::os,e,H,h=>by
  have h1:=h o List.mem_cons_self
  have ih:=Em (os:=os) (e:=o.fin) (H:=H) λ p hp=>h p (List.mem_cons_of_mem _ hp)
  have hg:=objsOf_gapL e (o.g-e)
  unfold Ap at ih hg ⊢
  rw[Bd,List.filter_append,hg,List.nil_append,List.filter_cons_of_pos (by simp[h1]),ih]

theorem turnP_off{es:List (Nat×Nat×Nat)}{rf:Nat->List Nat}{a:Nat}:∀ {xs:List (Nat×Nat×Nat)} {W:Nat->Nat},(∀ x∈xs,(rf x.1).Nodup)->(∀ x∈xs,∀ s∈rf x.1,¬ a=2*x.1+1+s)->BZ es rf xs W a=W a
 |[],W,_,_=>rfl
 |x::xs,W,hn,h=>by
  rw[BZ,turnP_off (λ y hy=>hn y (List.mem_cons_of_mem _ hy)) (λ y hy=>h y (List.mem_cons_of_mem _ hy)),Er es x.1 a (hn x List.mem_cons_self),if_neg]
  rintro ⟨s,hs,e⟩
  exact h x List.mem_cons_self s hs e

theorem turnP_in{es:List (Nat×Nat×Nat)}{rf:Nat->List Nat}{x:Nat×Nat×Nat}{k:Nat}:∀ {xs:List (Nat×Nat×Nat)} {W:Nat->Nat},(∀ y∈xs,(rf y.1).Nodup)->(∀ y∈xs,∀ s∈rf y.1,1+s<2*y.2.2)->(xs.Pairwise λ y z=>y.1+y.2.2<=z.1)->x∈xs->1+k<2*x.2.2->
  BZ es rf xs W (2*x.1+1+k)=if k∈rf x.1 then toA es (W (2*x.1+1+k)) else W (2*x.1+1+k)
 |y::ys,W,hn,hs,hp,hx,hk=>by
  rw[List.pairwise_cons] at hp
  rw[BZ]
  rcases List.mem_cons.1 hx with rfl|hx
  .rw [turnP_off (λ z hz=>hn z (List.mem_cons_of_mem _ hz)) λ z hz s _=>by have:=hp.1 z hz;omega,Er es x.1 _ (hn x List.mem_cons_self)]
   by_cases h:k∈rf x.1
   .rw [if_pos ⟨k,h,rfl⟩,if_pos h]
   .rw [if_neg,if_neg h]
    rintro ⟨s,h1,h2⟩
    exact h (by rwa [show k=s by omega])
  .have hoff:BU es y.1 (rf y.1) W (2*x.1+1+k)=W (2*x.1+1+k):=by
    rw[Er es y.1 _ (hn y List.mem_cons_self),if_neg]
    rintro ⟨s,h1,h2⟩
    have:=hs y List.mem_cons_self s h1
    have:=hp.1 x hx
    omega
   rw[turnP_in (λ z hz=>hn z (List.mem_cons_of_mem _ hz)) (λ z hz=>hs z (List.mem_cons_of_mem _ hz)) hp.2 hx hk,hoff]

theorem rfG_nodup(ts:List TypR)(cs:List Cel)(g:Nat):(FP ts cs g).Nodup:=by
 unfold FP
 split
 .unfold BP
  split
  .unfold Bc AJ
   exact List.nodup_range.filter _
  .exact List.nodup_nil
 .exact List.nodup_nil

def slidW(P:Sp)(W:Nat->Nat)(cs:List Cel)(es:List (Nat×Nat×Nat)):Nat->Nat:=AR (Bh es (BZ es (FP P.ts cs) es W)) 0 (BS cs es) (P.n/2)

theorem slid_word{P:Sp}{W:Nat->Nat}{cs:List Cel}{es:List (Nat×Nat×Nat)}(hc:CellsAt P W cs)(hg:GoodP cs es){x:Nat×Nat×Nat}{c:Cel}(hx:x∈es)(hm:c∈cs)(h1:c.tag=1)(h2:c.g=x.1){k:Nat}(hk:1+k<2*x.2.2):
  slidW P W cs es (2*x.2.1+1+k)=if k∈BP P.ts c then toA es (W (2*c.g+1+k)) else W (2*c.g+1+k):=by
 obtain⟨d,hd,d1,d2,d3,hgo⟩:=DC hg hc.tl hx
 have hmem:Eu cs es x.2.1∈BS cs es:=by
  unfold BS goesL
  exact List.mem_map_of_mem (DI.2 ⟨x,hx,rfl⟩)
 have hfin:(Eu cs es x.2.1).g=x.2.1/\(Eu cs es x.2.1).fin=x.2.1+x.2.2:=by
  rw[hgo]
  refine⟨rfl,?_⟩
  unfold Cel.fin putAt
  simp only
  omega
 unfold slidW
 rw[settleW_in (CL hg hc.tl) hmem (by omega) (by omega),show 2*x.2.1+1+k=2*x.2.1+(1+k) by omega,hg.slide hc.tl hx _ hk,show 2*x.1+(1+k)=2*x.1+1+k by omega]
 have hrf:∀ y∈es,∀ s∈FP P.ts cs y.1,1+s<2*y.2.2:=λ y hy s hs=>by
  obtain⟨b,hb,b1,b2,b3⟩:=hg.obj y hy
  rw[<- b2,rfG_at hc.tl hb b1] at hs
  have:=(refsC_slot hc hb b1 hs).2.1
  unfold Cel.fin at this
  omega
 rw[turnP_in (λ y _=>rfG_nodup _ _ _) hrf (hg.rows hc.tl) hx hk,<- h2,rfG_at hc.tl hm h1]

theorem toA_or(es:List (Nat×Nat×Nat))(y:Nat):toA es y=0\/∃ x∈es,toA es y=Cc x.2.1:=by
 unfold toA
 cases h:es.find? (λ x=>Cc x.1==y) with
 |none=>exact .inl rfl
 |some x=>exact .inr ⟨x,List.mem_of_find?_eq_some h,rfl⟩

theorem faultsS_nil{st:Nat->Bool}{cs:List Cel}:∀ {j:Nat},(∀ i,i<j->st i=Ar cs i)->Bb st cs j=[]
 |0,_=>rfl
 |j+1,h=>by
  rw[faultsS_succ,faultsS_nil λ i hi=>h i (by omega),List.nil_append]
  unfold faultS
  rw[h j (by omega)]
  cases Ar cs j <;> rfl

theorem slid_faults{P:Sp}{W:Nat->Nat}{cs:List Cel}{es:List (Nat×Nat×Nat)}{f:Nat->Bool}(hc:CellsAt P W cs)(hg:GoodP cs es)(hn:P.n<=65536)(hf:∀ i,i<P.n/2->f i=Ar (Bd 0 (BS cs es) (P.n/2)) i):
  faultsL P.ts (P.n/2) (slidW P W cs es) f (Bd 0 (BS cs es) (P.n/2)) (P.n/2)=[]:=by
 have hr:=CL hg hc.tl
 unfold faultsL El
 rw[faultsS_nil hf,if_neg (by omega),Em (λ o ho=>(hr.mem ho).2.1)]
 simp only[List.append_nil,List.nil_append]
 unfold CE
 rw[List.flatMap_eq_nil_iff]
 intro z hz
 unfold Br at hz
 obtain⟨o,ho,hz⟩:=List.mem_flatMap.1 hz
 obtain⟨s,hs,rfl⟩:=List.mem_map.1 hz
 unfold faultR
 rw[if_neg]
 rintro ⟨n0,nt⟩
 obtain⟨t,ht,rfl⟩:=List.mem_map.1 (show o∈(DF es).map (Eu cs es) from ho)
 obtain⟨x,hx,rfl⟩:=DI.1 ht
 obtain⟨d,hd,d1,d2,d3,hgo⟩:=DC hg hc.tl hx
 rw[hgo] at hs n0 nt
 have hs':s∈BP P.ts d:=hs
 have hsl:=(refsC_slot hc hd d1 hs').2.1
 have hw:=slid_word hc hg hx hd d1 d2 (k:=s) (by unfold Cel.fin at hsl;omega)
 rw[if_pos hs'] at hw
 dsimp only[putAt] at n0 nt
 rw[hw] at n0 nt
 rcases toA_or es (W (2*d.g+1+s)) with e|⟨y,hy,e⟩
 .exact n0 e
 .rw [e] at nt
  have hfy:=(hg.fit hc.tl hy).2.1
  have h0:=(hg.fit hc.tl hy).2.2
  obtain⟨b,hb,b1,b2,b3,hgy⟩:=DC hg hc.tl hy
  have hst:Ar (Bd 0 (BS cs es) (P.n/2)) y.2.1=true:=by
   rw[Fz]
   unfold Ar
   rw[List.any_eq_true]
   refine⟨Eu cs es y.2.1,List.mem_map_of_mem (DI.2 ⟨y,hy,rfl⟩),?_⟩
   rw[hgy]
   simp[putAt,b1]
  unfold tgt Cc at nt
  have e1:(1048576+2*y.2.1-1048576)/2=y.2.1:=by omega
  rw[e1,if_pos ⟨by omega,by omega,by omega,hst⟩] at nt
  omega

theorem riseN_len(xs:List Nat):(BL xs).length<=xs.length:=by
 have h:=congrArg List.length (riseN_cast xs)
 rw[List.length_map] at h
 rw[h]
 have:=riseL_len (xs.map λ(n:Nat)=>(n:Int))
 rwa [List.length_map] at this

theorem planOf_len{cs:List Cel}{pins l:List Nat}{H:Nat}(ht:Au 0 cs H)(ho:∀ g∈l,CV cs g):(BN cs pins (BL l) H).length<=l.length:=by
 have h:=congrArg List.length (FN (pins:=pins) ht (EX l) λ g hg=>ho g (Ed.1 hg)).1
 rw[List.length_map] at h
 rw[h]
 exact riseN_len l

end

end Go.Proofs.YtmfajopmppfldaaGreatDoor
