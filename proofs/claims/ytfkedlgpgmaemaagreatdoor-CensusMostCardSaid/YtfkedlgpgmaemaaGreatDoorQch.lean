/-
  Lemmas for the laws, together: CenMo.
-/
import Derived.Test.YtfkedlgpgmaemaaGreatDoorQbu
set_option linter.unusedVariables false
set_option maxHeartbeats 16000000
namespace Go.Proofs.YtfkedlgpgmaemaaGreatDoor
open Tryz
section
open Go.RowKit

def FP(R:List T3)(b i:Nat):Prop:=b<i/\i<=R.length/\(∀ t x y,t<b->R[t]?=some x->R[b]?=some y->Fq y x<0)/\∀ t x y,b<t->t<i->R[t]?=some x->R[b]?=some y->¬ Fq x y<0

theorem FP.start{R:List T3}(h:0<R.length):FP R 0 1:=⟨by omega,h,λ t x y h=>by omega,λ t x y h1 h2=>by omega⟩

theorem FP.stay{R:List T3}{b i:Nat}{x y:T3}(h:FP R b i)(hi:R[i]?=some x)(hb:R[b]?=some y)(hc:¬ Fq x y<0):FP R b (i+1):=by
 obtain⟨h1,h2,h3,h4⟩:=h
 have hl:=(gE.1 hi).1
 refine⟨by omega,hl,h3,λ t x' y' t1 t2 hx hy=>?_⟩
 by_cases e:t=i
 .subst e
  rw[hi] at hx
  rw[hb] at hy
  injection hx with hx
  injection hy with hy
  rw[<- hx,<- hy]
  exact hc
 .exact h4 t x' y' t1 (by omega) hx hy

theorem FP.turn{R:List T3}{b i:Nat}{x y:T3}(h:FP R b i)(hi:R[i]?=some x)(hb:R[b]?=some y)(hc:Fq x y<0):FP R i (i+1):=by
 obtain⟨h1,h2,h3,h4⟩:=h
 have hl:=(gE.1 hi).1
 refine⟨by omega,hl,λ t x' y' t1 hx hy=>?_,λ t x' y' t1 t2=>by omega⟩
 rw[hi] at hy
 injection hy with hy
 subst hy
 by_cases e:t=b
 .subst e
  rw[hb] at hx
  injection hx with hx
  rw[<- hx]
  exact hc
 .by_cases e2:t<b
  .exact FW.lt_trans hc (h3 t x' y e2 hx hb)
  .exact FW.lt_le hc (h4 t x' y (by omega) t1 hx hb)

theorem FP.done{R:List T3}{b:Nat}{y:T3}(h:FP R b R.length)(hb:R[b]?=some y):Cb Fq R=y::Cb Fq (R.take b++R.drop (b+1)):=by
 obtain⟨h1,h2,h3,h4⟩:=h
 have hl:=(gE.1 hb).1
 have hsp:R=R.take b++y::R.drop (b+1):=by
  have e1:R.drop b=y::R.drop (b+1):=by
   rw[List.drop_eq_getElem_cons hl]
   congr 1
   exact(gE.1 hb).2
  rw[<- e1,List.take_append_drop]
 have:=sortC_first FW (x:=y) (R.drop (b+1)) (R.take b) (λ z hz=>?_) (λ z hz=>?_)
 .rw [<- hsp] at this
  exact this
 .obtain ⟨t,ht,e⟩:=List.mem_iff_getElem?.1 hz |>.imp λ t ht=>(⟨(gE.1 ht).1,ht⟩:_/\_)
  rw[List.length_take] at ht
  rw[List.getElem?_take_of_lt (by omega)] at e
  exact h3 t z y (by omega) e hb
 .obtain ⟨t,e⟩:=List.mem_iff_getElem?.1 hz
  rw[List.getElem?_drop] at e
  have:=(gE.1 e).1
  exact h4 (b+1+t) z y (by omega) (by omega) e hb

def FT(L K R:List T3):Prop:=Cb Fq L=K++Cb Fq R

theorem FT.len{L K R:List T3}(h:FT L K R):K.length+R.length=L.length:=by
 have:=congrArg List.length h
 rw[List.length_append,(FN Fq L).length_eq,(FN Fq R).length_eq] at this
 omega

theorem FT.step{L K R:List T3}{b:Nat}{y:T3}(h:FT L K R)(hm:FP R b R.length)(hb:R[b]?=some y):FT L (K++[y]) (R.take b++R.drop (b+1)):=by
 unfold FT at h ⊢
 rw[h,hm.done hb,List.append_assoc]
 rfl

theorem FT.stop{L K R:List T3}{n:Int}(h:FT L K R)(h1:K.length<=n.toNat)(h2:¬ (K.length:Int)<n\/R.length=0):K=(Cb Fq L).take n.toNat:=by
 unfold FT at h
 rw[h]
 by_cases hR:R.length=0
 .rw [List.length_eq_zero_iff.1 hR]
  show K=(K++[]).take _
  rw[List.append_nil,List.take_of_length_le h1]
 .have:K.length=n.toNat:=by
   have:=h2.resolve_right hR
   omega
  rw[<- this,List.take_left]

theorem ownsRow_take{w:World}{base T n c k:Nat}{a:Option Addr}{L:List T3}(h:w.ownsRow base T 3 (.slice a n c) n (Br L))(hk:k<=n)(ha:a≠none):w.ownsRow base T 3 (.slice a k c) k (Br (L.take k)):=by
 have hl:=h.1
 rw[Ew] at hl
 rcases h.2 with ⟨e,-⟩|⟨g,cap,cur,e,g2,g3,g4,g5,g6,g7⟩
 .injection e with e1
  exact absurd e1 ha
 .injection e with e1 e2 e3
  subst e1 e3
  have hmin:min k L.length=k:=by omega
  refine⟨by rw[Ew,List.length_take,hmin],.inr ⟨g,c,cur,rfl,g2,g3,by omega,g5,g6,?_⟩⟩
  have e4:Br (L.take k)=(Br L).take (k*3):=by
   have h1:Br L=Br (L.take k)++Br (L.drop k):=by
    have:Br (L.take k++L.drop k)=Br (L.take k)++Br (L.drop k):=List.flatMap_append ..
    rwa [List.take_append_drop] at this
   rw[h1,List.take_left' (by rw[Ew,List.length_take,hmin])]
  rw[e4,<- g7,List.take_take,Nat.min_eq_left (by omega)]

def lenS:Value->Nat
 |.slice _ n _=>n
 |_=>0

section

attribute [local go_sem] run_eql_slice_nil

set_option maxRecDepth 20000 in
theorem RMost_at(w:World)(n:Int)(v:Value)(L:List T3)(hv:FO w v L)(hl:L.length<=100000):
  Calls prog 27 #[.int .i64 n,v] w λ e w'=>∃ v',e=.returned v'/\Df w' v' ((Cb Fq L).take n.toNat)/\Kp Aa w w':=by
 have HV:=sE hv
 obtain⟨a,c,rfl,-⟩:=hv
 obtain⟨len,hlen⟩:∃ len,L.length=len:=⟨_,rfl⟩
 rw[hlen] at HV hl ⊢
 have HL:=sE hlen
 clear hlen
 go_enter func27,ntmps27
 go_wp2_with (at_builtin;obtain ⟨i0,hi,hz0,hz1,hz2⟩:=info_parts FU;go_loud (refine FM _ rfl (.const (.slice none 0 0)) (.tmp 9) 34 rfl 67 i0 Eg hi hz0 hz1 hz2 w.heap.size _ 0 [] rfl (World.ownsRow_nil _ _ _ _) _ L rfl HV.out (by rw[HL.out];omega) (Nat.le_refl _) ?_);intro v1 w1 hown hgrow hat;clear hi hz0 hz1 hz2 hat)
 have HO1:Sl (w1.ownsRow w.heap.size 67 3 v1 L.length (Br L)):=⟨by rwa [Nat.zero_add,List.nil_append] at hown⟩
 have HK1:Sl (Kp Aa w w1):=⟨(Kr Aa w).grown hgrow (λ k e hk=>by cases e)⟩
 obtain⟨B,hB⟩:∃ B,w.heap.size=B:=⟨_,rfl⟩
 have HB:=sE hB
 rw[hB] at HO1
 clear hown hgrow hB
 go_loopw [5,6,7,8] (λ x5 x6 _ _ wr=>∃ (R K:List T3),Sl (FT L K R)/\K.length<=n.toNat/\wr.ownsRow B 67 3 x5 R.length (Br R)/\wr.ownsRow B 67 3 x6 K.length (Br K)/\Sl (∀ b,x5.ownBlock=some b->¬ x6.ownBlock=some b)/\Kp Aa w wr) (λ x5 _ _ _ _=>lenS x5)
 case atStart=>exact ⟨L,[],⟨rfl⟩,Nat.zero_le _,HO1.out,World.ownsRow_nil _ _ _ _,⟨λ b _ h=>by cases h⟩,HK1.out⟩
 case round=>
  obtain⟨R,K,HSel,hKn,hR,hK,HAp,hk⟩:=hrel
  obtain⟨ra,rc,rfl⟩:=AJ hR
  obtain⟨ka,kc,rfl⟩:=AJ hK
  have hlen:=HSel.out.len
  rw[HL.out] at hlen
  have HR:=sE hR
  have HK:=sE hK
  have HKe:=sE hk
  obtain⟨rn,hrn⟩:∃ rn,R.length=rn:=⟨_,rfl⟩
  obtain⟨kn,hkn⟩:∃ kn,K.length=kn:=⟨_,rfl⟩
  rw[hrn] at hlen HR HAp ⊢
  rw[hkn] at hlen hKn HK HAp ⊢
  have HRn:=sE hrn
  have HKn:=sE hkn
  clear hR hK hk hrn hkn HO1
  by_cases h1:(kn:Int)<n
  case neg=>
   go_wp2
   go_ret
   refine⟨_,rfl,?_,HKe.out⟩
   rw[<- HSel.out.stop (n:=n) (by rw[HKn.out];exact hKn) (.inl (by rw[HKn.out];omega))]
   exact Df.Be (by rw[HKn.out];exact HK.out)
  case pos=>
   by_cases h2:0<rn
   case neg=>
    have h2':¬ (0:Int)<(rn:Int):=by omega
    go_wp2
    go_ret
    refine⟨_,rfl,?_,HKe.out⟩
    rw[<- HSel.out.stop (n:=n) (by rw[HKn.out];exact hKn) (.inr (by rw[HRn.out];omega))]
    exact Df.Be (by rw[HKn.out];exact HK.out)
   case pos=>
    have h2':(0:Int)<(rn:Int):=by omega
    obtain⟨w2,rfl⟩:∃ w2,w2=wr:=⟨_,rfl⟩
    go_wp2_with fail
    go_loopw [7,8] (λ x7 x8 wr=>∃ b i:Nat,x7=.int .i64 (b:Nat)/\x8=.int .i64 (i:Nat)/\b<i/\i<=rn/\Sl (FP R b i)/\Kp Aa w2 wr) (λ _ x8 _=>rn-(intOf x8).toNat)
    case atStart=>exact ⟨0,1,rfl,rfl,by omega,by omega,⟨FP.start (by rw[HRn.out];exact h2)⟩,Kr _ _⟩
    case round=>
     obtain⟨b,i,rfl,rfl,hbi,hir,HMin,hk⟩:=hrel
     have HKi:=sE hk
     have hT:Df wr (.slice ra rn rc) R:=Df.Be (by rw[HRn.out];exact Ag HR.out hk (λ _ _ h=>h))
     obtain⟨a',c',e,hcell⟩:=hT
     obtain⟨y,hy⟩:∃ y,R[b]?=some y:=⟨R[b]'(by rw[HRn.out];omega),by simp⟩
     obtain⟨gb,hgb,y0,y1,y2⟩:=hcell b y hy
     have hra:ra=some ⟨gb,0,none⟩:=by injection e with q1;rw [q1];exact hgb
     subst hra
     have HY:=sE hy
     by_cases hil:i<rn
     .have hil':(i:Int)<(rn:Int):=by omega
      have hbl':(b:Int)<(rn:Int):=by omega
      obtain⟨x,hx⟩:∃ x,R[i]?=some x:=⟨R[i]'(by rw[HRn.out];omega),by simp⟩
      obtain⟨gb2,hgb2,x0,x1,x2⟩:=hcell i x hx
      obtain rfl:gb=gb2:=by
       have q:=hgb.symm.trans hgb2
       injection q with q
       injection q
      have HX:=sE hx
      clear e hcell hgb hgb2 hx hy hk
      obtain⟨x1',xs',x3'⟩:=x
      obtain⟨y1',ys',y3'⟩:=y
      dsimp only at x0 x1 x2 y0 y1 y2
      by_cases q1:y3'<x3'
      .have HM2:Sl (FP R i (i+1)):=⟨HMin.out.turn HX.out HY.out (FV.2 (.inl q1))⟩
       clear x0 y0 x1 y1
       go_wp2_with fail
       go_quiet (fail)
       go_wp2
       exact⟨⟨i,i+1,rfl,by go_num,by omega,by omega,HM2,HKi.out.drewN _⟩,by simp only[intOf];omega⟩
      .by_cases q2:x3'=y3'
       .subst q2
        have e1:(x3'==x3')=true:=by simp
        by_cases q3:x1'<y1'
        .have HM2:Sl (FP R i (i+1)):=⟨HMin.out.turn HX.out HY.out (FV.2 (.inr ⟨rfl,q3⟩))⟩
         go_wp2_with fail
         go_quiet (fail)
         go_wp2
         exact⟨⟨i,i+1,rfl,by go_num,by omega,by omega,HM2,HKi.out.drewN _⟩,by simp only[intOf];omega⟩
        .have HM2:Sl (FP R b (i+1)):=⟨HMin.out.stay HX.out HY.out (λ h=>by
          rcases FV.1 h with h|⟨-,h⟩
          .exact q1 h
          .exact q3 h)⟩
         go_wp2_with fail
         go_quiet (fail)
         go_wp2
         exact⟨⟨b,i+1,rfl,by go_num,by omega,by omega,HM2,HKi.out.drewN _⟩,by simp only[intOf];omega⟩
       .have e1:(x3'==y3')=false:=by rw[beq_eq_false_iff_ne];exact q2
        have e0:decide (y3'<x3')=false:=dF q1
        have HM2:Sl (FP R b (i+1)):=⟨HMin.out.stay HX.out HY.out (λ h=>by
         rcases FV.1 h with h|⟨h,-⟩
         .exact q1 h
         .exact q2 h)⟩
        go_wp2_with fail
        refine wp_region_held_drew (S:=λ w'=>w'.cell? ⟨gb,i*3+2,none⟩=some (.int .i64 x3')/\w'.cell? ⟨gb,b*3+2,none⟩=some (.int .i64 y3')) (by kernel_rfl) ?_ (λ qZ=>?_)
        .exact ⟨x2,y2⟩
        refine Ao 0 ?_;refine Ao 1 ?_;refine Ao 2 ?_;refine Ao 3 ?_;refine Ao 4 ?_
        try simp only[Ay]
        refine Ao 5 ?_;refine Ao 6 ?_;refine Ao 7 ?_;refine Ao 8 ?_;refine Ao 9 ?_
        try simp only[Ay]
        refine Ao 10 ?_;refine Ao 11 ?_;refine Ao 12 ?_;refine Ao 13 ?_;refine Ao 14 ?_
        try simp only[Ay]
        refine Ao 15 ?_;refine Ao 16 ?_;refine Ao 17 ?_;refine Ao 18 ?_;refine Ao 19 ?_
        try simp only[Ay]
        refine Ao 20 ?_;refine Ao 21 ?_;refine Ao 22 ?_;refine Ao 23 ?_
        try simp only[Ay]
        refine sk 24 rfl ?_
        refine sk 25 rfl ?_
        refine sk 26 rfl ?_
        refine sk 27 rfl ?_
        refine sk 28 rfl ?_
        refine sk 29 rfl ?_
        refine sk 30 rfl ?_
        refine sk 31 rfl ?_
        refine sk 32 rfl ?_
        refine sk 33 rfl ?_
        refine sk 34 rfl ?_
        try simp only[Ay]
        refine Ao 35 ?_
        try simp only[Ay]
        refine Ao 36 ?_
        try simp only[Ay]
        refine wpAnyH_done (by kernel_rfl) ?_ _
        clear qZ
        go_wp2
        exact⟨⟨b,i+1,rfl,by go_num,by omega,by omega,HM2,HKi.out.drew⟩,by simp only[intOf];omega⟩
     .have hil':¬ (i:Int)<(rn:Int):=by omega
      obtain rfl:i=rn:=by omega
      clear e hcell hgb hy hk
      have hbr:b<i:=hbi
      have hbl:(b:Int)<(i:Int):=by omega
      have HKr:=sE (Ag HK.out HKi.out (λ _ _ h=>h))
      have HRr:=sE (Ag HR.out HKi.out (λ _ _ h=>h))
      have HKw:Sl (Kp Aa w wr):=⟨HKe.out.then' HKi.out⟩
      have HKa:Sl (∀ o,(wr.alloc o).ownsRow B 67 3 (.slice ka kn kc) kn (Br K)):=⟨λ o=>Ag HKr.out ((Kr Aa _).alloc o) (λ _ _ h=>h)⟩
      have HLit:Sl (FO (wr.alloc (.cells (Br [y]).toArray 67)) (.slice (some ⟨wr.heap.size,0,none⟩) 1 1) [y]):=⟨(rowT_lit' wr 67 [y]).to⟩
      have hBw:B<=wr.heap.size:=by have:=HKw.out.size;have:=HB.out;omega
      go_wp2_with (at_builtin;obtain ⟨i0,hi,hz0,hz1,hz2⟩:=info_parts FU;go_loud (refine FM _ rfl (.tmp 64) (.tmp 69) 34 rfl 67 i0 Eg hi hz0 hz1 hz2 B _ kn K rfl (HKa.out _) _ [y] rfl HLit.out (by simp only[List.length_singleton];omega) (by simp;omega) ?_);intro v3 w3 hown hgrow hat;clear hi hz0 hz1 hz2)
      have k3:Kp (λ k=>(Value.slice ka kn kc).ownBlock=some k) wr w3:=(((Kr Aa wr).alloc _).Ar _).grown hgrow (λ k e _=>e)
      have HR3:=sE (Ag HRr.out k3 (λ b hb h=>HAp.out b hb h))
      have HO3:Sl (w3.ownsRow B 67 3 v3 (kn+1) (Br (K++[y]))):=⟨hown⟩
      obtain⟨ka3,kc3,rfl⟩:=AJ HO3.out
      have HAt3:Sl (∀ b',(Value.slice ka3 (kn+1) kc3).ownBlock=some b'->(Value.slice ka kn kc).ownBlock=some b'\/wr.heap.size<b'):=⟨λ b' hb'=>by
       rcases hat with h|h
       .exact .inl (h.symm.trans hb')
       .rw [h] at hb'
        injection hb' with hb'
        have:(wr.alloc (.cells #[.int .i64 y.1,.int .i64 y.2.1,.int .i64 y.2.2] 67)).heap.size=wr.heap.size+1:=by simp
        omega⟩
      have HK3:Sl (Kp Aa w w3):=⟨HKw.out.trans k3 (λ b hb h=>by have:=(Ae HKr.out h).1;have:=HB.out;omega)⟩
      have hgbr:=(Ae HRr.out (b:=gb) rfl)
      have hnv3:¬ (Value.slice ka3 (kn+1) kc3).ownBlock=some gb:=λ h=>by
       rcases HAt3.out gb h with h2|h2
       .exact HAp.out gb rfl h2
       .omega
      have HNv:=sE hnv3
      have hic:=owns_cap HR3.out
      have hSel:=HSel.out.step (by rw[HRn.out];exact HMin.out) HY.out
      have HSel2:=sE hSel
      have hlen2:=hSel.len
      clear hown hgrow hat k3 hnv3 hSel HKa HLit
      have u1:IntKind.i64.wrap ((b:Int)+1)=(b:Int)+1:=by rw[IntKind.wrap_i64];omega
      have p1:(b:Int)<=(rc:Int):=by omega
      have p2:(b:Int)+1<=(i:Int):=by omega
      have p3:(i:Int)<=(rc:Int):=by omega
      have p4:(0:Int)<=(b:Int)+1:=by omega
      obtain⟨ta,hta⟩:∃ ta:Option Addr,(if rc=b+1 then some (⟨gb,0,none⟩:Addr) else some ⟨gb,(b+1)*3,none⟩)=ta:=⟨_,rfl⟩
      have HTk:Sl (w3.ownsRow B 67 3 (.slice (some ⟨gb,0,none⟩) b rc) b (Br (R.take b))):=⟨ownsRow_take HR3.out (by omega) (by simp)⟩
      have HTl:Sl (FO w3 (.slice ta (i-(b+1)) (rc-(b+1))) (R.drop (b+1))):=⟨⟨ta,rc-(b+1),by rw[List.length_drop,HRn.out],λ t x hx=>by
       rw[List.getElem?_drop] at hx
       have ht:=(gE.1 hx).1
       rw[HRn.out] at ht
       have hT:Df w3 (.slice (some ⟨gb,0,none⟩) R.length rc) R:=Df.Be (by rw[HRn.out];exact HR3.out)
       obtain⟨a',c',e,hcell⟩:=hT
       obtain⟨g2,hg2,x0,x1,x2⟩:=hcell _ x hx
       obtain rfl:gb=g2:=by
        injection e with q1
        rw[<- q1] at hg2
        injection hg2 with q2
        injection q2
       refine⟨gb,(b+1)*3,by rw[<- hta,if_neg (by omega)],?_,?_,?_⟩
       .rw [<- Nat.add_mul];exact x0
       .rw [<- Nat.add_mul];exact x1
       .rw [<- Nat.add_mul];exact x2⟩⟩
      have hdl:(R.drop (b+1)).length=i-(b+1):=by rw[List.length_drop,HRn.out]
      have hBw3:B<=w3.heap.size:=by have:=HK3.out.size;have:=HB.out;omega
      have kd:Kp Aa w3 w3.drew:=(Kr _ _).drew
      refine wp_region_held_drew (S:=λ _=>True/\True) (by kernel_rfl) ?_ (λ qZ=>?_)
      .exact ⟨trivial,trivial⟩
      refine Ao 0 ?_;refine Ao 1 ?_;refine Ao 2 ?_;refine Ao 3 ?_;refine Ao 4 ?_;refine Ao 5 ?_
      try simp only[Ay]
      refine Ao 6 ?_
      try rw[hta]
      try simp only[Ay]
      refine Bl [7] ?_
      refine Af rfl (λ K2 hK2=>?_)
      obtain⟨i0,hi,hz0,hz1,hz2⟩:=info_parts FU
      refine step_append_t3 rfl rfl (.tmp 73) (.tmp 77) 34 rfl 67 i0 Eg hi hz0 hz1 hz2 B _ b (R.take b) rfl (Ag HTk.out kd (λ _ _ h=>h)) _ (R.drop (b+1)) rfl (HTl.out.Ad kd) (by rw[hdl];omega) hBw3 (λ v4 w4 hown4 hgrow4 hat4=>?_)
      clear hi hz0 hz1 hz2
      have k4:Kp (λ k=>k=gb) w3 w4:=(kd.Ar _).grown hgrow4 (λ k e _=>by
       have e':some gb=some k:=e
       injection e' with e'
       exact e'.symm)
      have hl4:b+(R.drop (b+1)).length=(R.take b++R.drop (b+1)).length:=by rw[List.length_append,List.length_take,HRn.out];omega
      rw[hl4] at hown4
      have HR4:=sE hown4
      have HO4:Sl _:=⟨Ag HO3.out k4 (λ b' hb h=>by
       have h':b'=gb:=h
       subst h'
       exact HNv.out hb)⟩
      have hrl4:(R.take b++R.drop (b+1)).length=i-1:=by rw[<- hl4,hdl];omega
      have HAp4:Sl (∀ b',v4.ownBlock=some b'->¬ (Value.slice ka3 (kn+1) kc3).ownBlock=some b'):=⟨λ b' hb h=>by
       rcases hat4 with q|q
       .have q':v4.ownBlock=some gb:=q
        rw[q'] at hb
        injection hb with hb
        subst hb
        exact HNv.out h
       .rw [q] at hb
        injection hb with hb
        have:=(Ae HO3.out h).2
        have e4:w3.drew.heap.size=w3.heap.size:=rfl
        omega⟩
      have HK4:Sl (Kp Aa w w4):=⟨HK3.out.trans k4 (λ b' hb h=>by have h':b'=gb:=h;have:=HB.out;omega)⟩
      obtain⟨va,vc,rfl⟩:=AJ HR4.out
      rw[hrl4] at HAp4
      refine hK2 _ _ ?_ (λ qZ=>?_)
      .exact ⟨trivial,trivial⟩
      clear hK2 K2 hown4 hgrow4 hat4 k4 kd hta hl4
      try simp only[Ay]
      refine Ao 8 ?_
      try simp only[Ay]
      refine wpAnyH_done (by kernel_rfl) ?_ _
      clear qZ
      go_wp2
      refine⟨⟨R.take b++R.drop (b+1),K++[y],HSel2,?_,?_,?_,HAp4,HK4.out⟩,?_⟩
      .rw [List.length_append,HKn.out]
       simp only[List.length_singleton]
       omega
      .have h:=HR4.out
       rw[hrl4] at h ⊢
       exact h
      .rw [List.length_append,HKn.out]
       exact HO4.out
      .simp only[lenS]
       omega

end

end

end Go.Proofs.YtfkedlgpgmaemaaGreatDoor
