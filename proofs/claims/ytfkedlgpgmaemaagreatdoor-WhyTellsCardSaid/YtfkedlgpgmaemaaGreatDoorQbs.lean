/-
  Lemmas for the laws, together: DocW, DocX, DocY.
-/
import Derived.Test.YtfkedlgpgmaemaaGreatDoorQbr
import Derived.Test.YtfkedlgpgmaemaaGreatDoorQbp
import Derived.Test.YtfkedlgpgmaemaaGreatDoorQbn
import Derived.Test.YtfkedlgpgmaemaaGreatDoorQbl
set_option linter.unusedVariables false
set_option maxHeartbeats 16000000
namespace Go.Proofs.YtfkedlgpgmaemaaGreatDoor
open Tryz
section
open Go.RowKit

def farP(D:Nat->Option Nat)(m:List Nat):List (Nat×Nat):=m.map λ z=>(z,(D z).getD 0)

theorem farP_of{w:World}{v:Value}{D:Nat->Option Nat}{m:List Nat}(h:RowD w v (m.map (mkD D)))(hm:∀ z∈m,z<65536):RowP w v (farP D m):=by
 have h1:=h.toP
 rw[List.map_map] at h1
 unfold farP
 rw[List.map_congr_left (g:=λ z=>(z,(D z).getD 0)) (λ z hz=>by
  exact Prod.ext (Nat.mod_eq_of_lt (hm z hz)) rfl)] at h1
 exact h1

def stpI(D:Nat->Option Nat)(m:List Nat)(g:Nat):Int:=if g∈m then (((D g).getD 0:Nat):Int) else -1

set_option maxRecDepth 20000 in
theorem DSteps40_at(w:World)(a:Option Addr)(c:Nat)(D:Nat->Option Nat)(m:List Nat)(g M:Nat)(hx:RowP w (.slice a M c) (farP D m))(hM:m.length=M)(hl:M<=65536):
  Calls prog 91 #[.slice a M c,g] w λ e w'=>e=.returned (.int .i64 (stpI D m g))/\w=w':=by
 have HX:=sE hx
 have HN:=sE hM
 clear hx hM
 go_enter func91,ntmps91
 go_wp2_with fail
 go_loopw [4,5] (λ _ x5 wr=>∃ j:Nat,x5=.int .i64 j/\j<=M/\Sl (¬ g∈m.take j)/\w=wr) (λ _ x5 _=>M-(intOf x5).toNat)
 case atStart=>exact ⟨0,rfl,Nat.zero_le _,⟨by simp⟩,rfl⟩
 case round=>
  obtain⟨j,rfl,hj,HNo,rfl⟩:=hrel
  by_cases hjl:j<M
  .have hjl':(j:Int)<(M:Int):=by omega
   obtain⟨y,hy⟩:∃ y,m[j]?=some y:=⟨m[j]'(by rw[HN.o];exact hjl),by simp⟩
   obtain⟨a',c',e,hcell⟩:=HX.o
   obtain⟨b,hb,y0,y1⟩:=hcell j (y,(D y).getD 0) (by unfold farP;rw [List.getElem?_map,hy];rfl)
   have ha:a=some ⟨b,0,none⟩:=by injection e with h1;rw [h1];exact hb
   subst ha
   dsimp only at y0 y1
   have HY:=sE hy
   clear e hcell hb hy
   by_cases hyx:y=g
   .have e1:((y:Int)==(g:Int))=true:=by rw[hyx];simp
    have HP:Sl ((((D y).getD 0:Nat):Int)=stpI D m g):=⟨by
     unfold stpI
     rw[if_pos (by rw[<- hyx];exact List.mem_of_getElem? HY.o),hyx]⟩
    obtain⟨d,hd⟩:∃ d,(D y).getD 0=d:=⟨_,rfl⟩
    rw[hd] at y1 HP
    clear hyx hd
    go_wp2
    go_ret
    exact⟨congrArg (λ z=>Ending.returned (.int .i64 z)) HP.o,rfl⟩
   .have e1:((y:Int)==(g:Int))=false:=by rw[beq_eq_false_iff_ne];omega
    have HNo2:Sl (¬ g∈m.take (j+1)):=⟨by
     rw[List.take_add_one,HY.o,List.mem_append]
     rintro (h|h)
     .exact HNo.o h
     .have h2:g=y:=by simpa using h
      exact hyx h2.symm⟩
    clear hyx y1
    go_wp2
    exact⟨⟨j+1,by go_num,by omega,HNo2,trivial⟩,by simp only[intOf];omega⟩
  .have hjl':¬ (j:Int)<(M:Int):=by omega
   have HP:Sl (-1=stpI D m g):=⟨by
    unfold stpI
    rw[if_neg]
    have:=HNo.o
    rwa [List.take_of_length_le (by rw[HN.o];omega)] at this⟩
   go_wp2
   go_ret
   exact⟨congrArg (λ z=>Ending.returned (.int .i64 z)) HP.o,rfl⟩

theorem inE_snoc{es:List (Nat×Nat×Nat)}{g i:Nat}{x:Nat×Nat×Nat}(h:es[i]?=some x):GD (es.take (i+1)) g=GD (es.take i) g++if x.2.2=g then [x] else []:=by
 unfold GD
 rw[List.take_add_one,h,List.filter_append]
 congr 1
 by_cases h1:x.2.2=g <;> simp[h1]

set_option maxRecDepth 20000 in
theorem DHolds40_at(w:World)(ea:Option Addr)(ec:Nat)(es:List (Nat×Nat×Nat))(g E:Nat)(he:Dl w (.slice ea E ec) es)(hE:es.length=E)(hel:E<=2147483648):
  Calls prog 44 #[.slice ea E ec,g] w λ e w'=>∃ v,e=.returned v/\Dl w' v (GD es g)/\Kp Aa w w':=by
 have HE:=sE he
 have HEL:=sE hE
 clear he hE
 go_enter func44,ntmps44
 go_wp2_with fail
 go_loopw [5,6] (λ x5 x6 wr=>∃ i:Nat,x6=.int .i64 i/\i<=E/\Sl (wr.ownsRow w.heap.size 70 3 x5 (GD (es.take i) g).length (Bt (GD (es.take i) g)))/\Kp Aa w wr) (λ _ x6 _=>E-(intOf x6).toNat)
 case atStart=>exact ⟨0,rfl,Nat.zero_le _,⟨World.ownsRow_nil _ _ _ _⟩,Kr _ _⟩
 case round=>
  obtain⟨i,rfl,hi,HO,hk⟩:=hrel
  by_cases hil:i<E
  .have hil':(i:Int)<(E:Int):=by omega
   obtain⟨x,hx⟩:∃ x,es[i]?=some x:=⟨es[i]'(by rw[HEL.o];exact hil),by simp⟩
   obtain⟨ea',ec',ee,hcells⟩:=HE.o.Ac hk
   obtain⟨eb,heb,hebw,y0,y1,y2⟩:=hcells i x hx
   have hea:ea=some ⟨eb,0,none⟩:=by injection ee with h1;rw [h1];exact heb
   subst hea
   have HS:=sE (inE_snoc (g:=g) hx)
   have hle:(GD (es.take i) g).length<=2147483648:=Nat.le_trans (List.length_filter_le _ _) (by rw[List.length_take];omega)
   obtain⟨R,hR⟩:∃ R,GD (es.take i) g=R:=⟨_,rfl⟩
   rw[hR] at HO HS hle
   clear ee hcells heb hx hR
   by_cases h1:x.2.2=g
   .have e1:((x.2.2:Int)==(g:Int))=true:=by rw[h1];simp
    have HS2:Sl (GD (es.take (i+1)) g=R++[x]):=⟨by rw[HS.o,if_pos h1]⟩
    have hws:=hk.size
    clear h1
    go_wp2_with (at_builtin;obtain ⟨i0,hi0,hz0,hz1,hz2⟩:=info_parts Gu;go_loud (refine wpList_append_lies _ rfl (.tmp 20) (.tmp 25) 47 rfl w.heap.size 70 i0 _ 3 24 EB hi0 hz0 hz1 hz2 rfl (by omega) _ R.length (Bt R) rfl (Af HO.o ((Kr Aa wr).alloc _) (λ _ _ h=>h)) ⟨wr.heap.size,0,none⟩ 1 1 [x.1,x.2.1,x.2.2] rfl rfl (World.news_of_block (wN wr _)) (by intro u hu;simp at hu;rcases hu with rfl|rfl|rfl <;> rfl) (by omega) (by unfold maxLen;omega) (by omega) (by simp;omega) (wr.heap.size+1) (by simp) ?_);intro gb cap w3 hown3 hgrow hat hlt;clear hi0 hz0 hz1 hz2)
    have k3:Kp Aa w w3:=(hk.then' ((Kr Aa wr).alloc _)).grown hgrow (λ k e hk=>by have:=(Ad HO.o e).1;omega)
    have HO3:=sE hown3
    have HFl:Sl (Bt (R++[x])=Bt R++[.int .i64 x.1,.int .i64 x.2.1,.int .i64 x.2.2]):=⟨ER ..⟩
    clear hown3 hgrow hat
    go_wp2_with fail
    exact⟨⟨i+1,by go_num,by omega,⟨by rw[HS2.o,HFl.o,List.length_append,List.length_singleton];exact HO3.o⟩,k3⟩,by simp only[intOf];omega⟩
   .have e1:((x.2.2:Int)==(g:Int))=false:=by rw[beq_eq_false_iff_ne];omega
    have HS2:Sl (GD (es.take (i+1)) g=R):=⟨by rw[HS.o,if_neg h1,List.append_nil]⟩
    clear h1
    go_wp2_with fail
    exact⟨⟨i+1,by go_num,by omega,⟨by rw[HS2.o];exact HO.o⟩,hk⟩,by simp only[intOf];omega⟩
  .have hil':¬ (i:Int)<(E:Int):=by omega
   have HT:Sl (es.take i=es):=⟨List.take_of_length_le (by rw[HEL.o];omega)⟩
   rw[HT.o] at HO
   have HP:Sl (Dl wr _ (GD es g)):=⟨Dl.Bc HO.o⟩
   clear HO
   go_wp2_with fail
   go_ret
   exact⟨_,rfl,HP.o,hk⟩

end

section
open Go.RowKit

set_option maxRecDepth 20000 in
theorem DWay40_at(es:List (Nat×Nat×Nat))(rs:List Nat)(D:Nat->Option Nat)(m:List Nat)(ea fa:Option Addr)(ec fc E M:Nat)(hE:es.length=E)(hM:m.length=M)(hel:E<=2147483648)(hml:M<=65536)(hD:Gg es rs D)(hm:∀ z,z∈m ↔ (D z).isSome=true):∀ (n g:Nat) (w:World),Dl w (.slice ea E ec) es->RowP w (.slice fa M fc) (farP D m)->D g=some n->n<65536->
  Calls prog 47 #[.slice ea E ec,.slice fa M fc,.int .i64 (g:Nat)] w λ e w'=>∃ v,e=.returned v/\w'.ownsRow w.heap.size 70 3 v (Gz es D n g).length (Bt (Gz es D n g))/\Kp Aa w w':=by
 have HStp:Sl (∀ W' g,RowP W' (.slice fa M fc) (farP D m)->Calls prog 91 #[.slice fa M fc,.int .i64 (g:Nat)] W' λ e w'=>e=.returned (.int .i64 (stpI D m g))/\W'=w'):=⟨λ W' g h=>DSteps40_at W' fa fc D m g M h hM hml⟩
 have HV:Sl (∀ z d,D z=some d->stpI D m z=(d:Nat)):=⟨λ z d h=>by
  unfold stpI
  rw[if_pos ((hm z).2 (by rw[h];rfl)),h]
  rfl⟩
 have HV2:Sl (∀ z (d:Nat),stpI D m z=(d:Nat)->D z=some d):=⟨λ z d h=>by
  unfold stpI at h
  by_cases h1:z∈m
  .rw [if_pos h1] at h
   obtain⟨k,hk⟩:=Option.isSome_iff_exists.1 ((hm z).1 h1)
   rw[hk] at h ⊢
   congr 1
   have h2:((k:Nat):Int)=(d:Nat):=h
   omega
  .rw [if_neg h1] at h
   omega⟩
 have HEL:=sE hE
 clear hE hM hm hD
 intro n
 induction n with
 |zero=>
  intro g w he hf hg hn
  have HS:=sE (HStp.o w g hf)
  rw[HV.o g 0 hg] at HS
  clear he hf hg
  go_enter func47,ntmps47
  go_wp2_with fail
  with_reducible refine HS.o.mono ?_
  rintro e w1 ⟨rfl,rfl⟩
  go_wp2_with fail
  go_ret
  exact⟨_,rfl,World.ownsRow_nil _ _ _ _,Kr _ _⟩
 |succ n ih=>
  intro g w he hf hg hn
  have HIH:=sE ih
  have HE:=sE he
  have HF:=sE hf
  have HS:=sE (HStp.o w g hf)
  rw[HV.o g _ hg] at HS
  obtain⟨N,hN⟩:∃ N,n+1=N:=⟨_,rfl⟩
  rw[hN] at HS
  have hwr:IntKind.i64.wrap ((N:Int)-1)=(n:Int):=by rw[IntKind.wrap_i64];omega
  have hnp:¬ (N:Int)<=0:=by omega
  have hnd:decide (N=0)=false:=dF (by omega)
  clear hN
  clear he hf hg ih
  go_enter func47,ntmps47
  go_wp2_with fail
  with_reducible refine HS.o.mono ?_
  rintro e w1 ⟨rfl,rfl⟩
  go_wp2_with fail
  go_loopw [6,8] (λ _ x8 wr=>∃ i:Nat,x8=.int .i64 (i:Nat)/\i<=E/\Sl (∀ e∈es.take i,¬ (e.2.2=g/\D e.1=some n))/\w=wr) (λ _ x8 _=>E-(intOf x8).toNat)
  case atStart=>exact ⟨0,rfl,Nat.zero_le _,⟨λ e he=>by simp at he⟩,rfl⟩
  case round=>
   obtain⟨i,rfl,hi,HNo,rfl⟩:=hrel
   by_cases hil:i<E
   .have hil':(i:Int)<(E:Int):=by omega
    obtain⟨y,hy⟩:∃ y,es[i]?=some y:=⟨es[i]'(by rw[HEL.o];exact hil),by simp⟩
    obtain⟨ea',ec',ee,hcells⟩:=HE.o
    obtain⟨xb,hxb,hxz,e0,e1,e2⟩:=hcells i y hy
    have hea:ea=some ⟨xb,0,none⟩:=by injection ee with h1;rw [h1];exact hxb
    subst hea
    have HY:=sE hy
    have NEXT:Sl (¬ (y.2.2=g/\D y.1=some n)->∀ e∈es.take (i+1),¬ (e.2.2=g/\D e.1=some n)):=⟨λ h e he=>by
     rw[List.take_add_one,HY.o,List.mem_append] at he
     rcases he with he|he
     .exact HNo.o e he
     .obtain rfl:e=y:=by simpa using he
      exact h⟩
    clear ee hcells hxb hy
    by_cases h1:y.2.2=g
    .have q1:((y.2.2:Int)==(g:Int))=true:=by rw[h1];simp
     have HSy:=sE (HStp.o w y.1 HF.o)
     obtain⟨sy,hsy⟩:∃ s,stpI D m y.1=s:=⟨_,rfl⟩
     have HSe:=sE hsy
     rw[hsy] at HSy
     clear hsy
     by_cases h2:sy=(n:Int)
     .have q2:(sy==(n:Int))=true:=by rw[h2];simp
      have HDy:Sl (D y.1=some n):=⟨HV2.o y.1 n (by rw[HSe.o];exact h2)⟩
      have HWy:Sl (Gz es D (n+1) g=Gz es D n y.1++[y]):=⟨by
       have hf:(GD es g).find? (λ e=>D e.1==some n)=some y:=by
        unfold GD
        rw[List.find?_filter]
        refine find_ix HY.o (λ e he=>?_) (by simp[h1,HDy.o])
        have:=HNo.o e he
        by_cases h3:e.2.2=g
        .have h4:¬ D e.1=some n:=λ h4=>this ⟨h3,h4⟩
         simp[h3,h4]
        .simp [h3]
       show (match (GD es g).find? (λ e=>D e.1==some n) with
        |some e=>Gz es D n e.1++[e]
        |none=>[])=_
       rw[hf]⟩
      clear NEXT h1 h2
      go_wp2_with fail
      with_reducible refine HSy.o.mono ?_
      rintro e w2 ⟨rfl,rfl⟩
      go_wp2_with fail
      refine wp_region_held_drew (S:=λ w'=>w'.cell? ⟨xb,i*3,none⟩=some (.int .i64 y.1)/\w'.cell? ⟨xb,i*3+1,none⟩=some (.int .i64 y.2.1)/\w'.cell? ⟨xb,i*3+2,none⟩=some (.int .i64 y.2.2)) (by kernel_rfl) ?_ (λ qZ=>?_)
      .exact ⟨e0,e1,e2⟩
      refine Ap 0 ?_;refine Ap 1 ?_;refine Ap 2 ?_;refine Ap 3 ?_;refine Ap 4 ?_;refine Ap 5 ?_;refine Ap 6 ?_;refine Ap 8 ?_;refine Ap 9 ?_
      try simp only[AB]
      refine Ap 10 ?_;refine Ap 11 ?_
      try simp only[AB]
      have kd:Kp Aa w w.drew:=(Kr _ _).drew
      refine Bp [7,12] ?_
      refine Ai rfl (λ K hK=>?_) (Ag rfl (λ K hK=>?_))
      go_simp
      go_at_call 47
      (with_reducible refine(HIH.o y.1 _ (HE.o.Ac kd) (HF.o.Ac kd) HDy.o (by omega)).mono ?_)
      rintro e w3 ⟨v,rfl,ho,k3⟩
      have K3:Kp Aa w w3:=kd.then' k3
      refine hK _ _ ?_ (λ qZ=>?_)
      .exact ⟨Ae K3 e0,Ae K3 e1,Ae K3 e2⟩
      clear hK K
      try simp only[AB]
      refine Bp [12] ?_
      refine Ag rfl (λ K hK=>?_)
      go_simp
      obtain⟨w6,hw6⟩:∃ w6,w6=w3.alloc (.cells #[y.1,y.2.1,y.2.2] 70):=⟨_,rfl⟩
      obtain⟨nb,hnb⟩:∃ b,w3.heap.size=b:=⟨_,rfl⟩
      have k36:Kp Aa w3 w6:=by rw[hw6];exact (Kr _ w3).alloc _
      have bn:w6.heap[nb]?=some (.cells #[y.1,y.2.1,y.2.2] 70 (0,0)):=by rw[hw6,<- hnb];exact wN w3 _
      rw[<- hw6]
      try rw[hnb]
      have K6:Kp Aa w w6:=K3.then' k36
      have hnx:¬ v.ownBlock=some xb:=λ h=>by have:=(Ad ho h).1;have:=kd.size;omega
      have ho6:=BZ (Af ho k36 (λ _ _ h=>h)) (base':=w.heap.size) (by have:=kd.size;omega)
      refine hK _ _ ?_ (λ qZ=>?_)
      .exact ⟨Ae K6 e0,Ae K6 e1,Ae K6 e2⟩
      clear hK K
      try simp only[AB]
      clear hw6 hnb k36 K3 k3 ho
      rotate_left
      go_simp
      obtain⟨w2,hw2⟩:∃ w2,w2=(w.alloc (.cells #[y.1,y.2.1,y.2.2] 70)).drew:=⟨_,rfl⟩
      obtain⟨nb,hnb⟩:∃ b,w.heap.size=b:=⟨_,rfl⟩
      have k2:Kp Aa w w2:=by rw[hw2];exact ((Kr _ w).alloc _).drew
      have bn2:w2.heap[nb]?=some (.cells #[y.1,y.2.1,y.2.2] 70 (0,0)):=by rw[hw2,<- hnb];exact wN w _
      try rw[<- hw2]
      try rw[hnb]
      refine hK _ _ ?_ (λ qZ=>?_)
      .exact ⟨Ae k2 e0,Ae k2 e1,Ae k2 e2⟩
      clear hK K
      try simp only[AB]
      refine Bp [7] ?_
      refine Ag rfl (λ K hK=>?_)
      go_simp
      try rw[<- hw2]
      go_at_call 47
      (with_reducible refine(HIH.o y.1 _ (HE.o.Ac k2) (HF.o.Ac k2) HDy.o (by omega)).mono ?_)
      rintro e w6 ⟨v,rfl,ho,k3⟩
      have K6:Kp Aa w w6:=k2.then' k3
      have bn:=k3.at_ bn2 id
      have hnx:¬ v.ownBlock=some xb:=λ h=>by have:=(Ad ho h).1;have:=k2.size;omega
      have ho6:=BZ ho (base':=w.heap.size) (by have:=k2.size;omega)
      refine hK _ _ ?_ (λ qZ=>?_)
      .exact ⟨Ae K6 e0,Ae K6 e1,Ae K6 e2⟩
      clear hK K
      try simp only[AB]
      clear hw2 hnb k2 bn2 k3 ho
      all_goals
       obtain⟨va,vc,rfl⟩:=Aq ho6
       have hwl:=wayL_len es D n y.1
       have hz6:=K6.size
       obtain⟨L,hL⟩:∃ L,(Gz es D n y.1).length=L:=⟨_,rfl⟩
       rw[hL] at ho6 hwl hnx ⊢
       obtain⟨i0,hi0,hz0,hz1,hz2⟩:=info_parts Gu
       refine Bp [13] ?_
       refine Ag rfl (λ K hK=>?_)
       refine CP rfl rfl (.tmp 46) (.tmp 51) 47 rfl w.heap.size 70 i0 _ 3 24 EB hi0 hz0 hz1 hz2 rfl (by omega) (.slice va L vc) L _ rfl ho6 ⟨nb,0,none⟩ 1 _ [y.1,y.2.1,y.2.2] rfl rfl (World.news_of_block bn) (by intro u hu;simp at hu;rcases hu with rfl|rfl|rfl <;> rfl) (by unfold maxLen;omega) (by omega) (by omega) ?_
       intro nv w7 hown7 hgrow hblk
       obtain⟨na,nc,rfl⟩:=Aq hown7
       clear hi0 hz0 hz1 hz2
       have KA:Kp (λ b=>(Value.slice va L vc).ownBlock=some b) w6 w7:=(Kr _ w6).grown hgrow (λ k e _=>e)
       have K7:Kp Aa w w7:=K6.trans KA (λ b hb h=>by have:=(Ad ho6 h).1;omega)
       have HO7:Sl (w7.ownsRow w.heap.size 70 3 (.slice na (L+1) nc) (Gz es D (n+1) g).length (Bt (Gz es D (n+1) g))):=⟨by
        rw[HWy.o,ER,List.length_append,hL]
        exact hown7⟩
       have a2:=KA.cell (Ae K6 e0) hnx
       have a3:=KA.cell (Ae K6 e1) hnx
       have a4:=KA.cell (Ae K6 e2) hnx
       refine hK _ _ ?_ (λ qZ=>?_)
       .exact ⟨a2,a3,a4⟩
       clear hK K
       try simp only[AB]
       refine Ap 14 ?_
       try simp only[AB]
       refine wpAnyH_done (by kernel_rfl) ?_ _
       have HK7:=sE K7
       clear KA K7 a2 a3 a4 hown7 hgrow hblk ho6 qZ bn K6 hnx
       go_wp2
       go_ret
       exact⟨_,rfl,HO7.o,HK7.o⟩
     .have q2:(sy==(n:Int))=false:=by rw[beq_eq_false_iff_ne];exact h2
      have HNo2:=sE (NEXT.o λ h=>h2 (by rw[<- HSe.o];exact HV.o _ _ h.2))
      clear NEXT h1 h2
      go_wp2_with fail
      with_reducible refine HSy.o.mono ?_
      rintro e w2 ⟨rfl,rfl⟩
      go_wp2_with fail
      exact⟨⟨i+1,by go_num,by omega,HNo2,trivial⟩,by simp only[intOf];omega⟩
    .have q1:((y.2.2:Int)==(g:Int))=false:=by rw[beq_eq_false_iff_ne];omega
     have HNo2:=sE (NEXT.o λ h=>h1 h.1)
     clear NEXT h1
     go_wp2_with fail
     exact⟨⟨i+1,by go_num,by omega,HNo2,trivial⟩,by simp only[intOf];omega⟩
   .have hil':¬ (i:Int)<(E:Int):=by omega
    have HWy:Sl (Gz es D (n+1) g=[]):=⟨by
     have hf:(GD es g).find? (λ e=>D e.1==some n)=none:=by
      unfold GD
      rw[List.find?_filter,List.find?_eq_none]
      intro e he
      have:=HNo.o e (by rw[List.take_of_length_le (by rw[HEL.o];omega)];exact he)
      by_cases h3:e.2.2=g
      .have h4:¬ D e.1=some n:=λ h4=>this ⟨h3,h4⟩
       simp[h3,h4]
      .simp [h3]
     show (match (GD es g).find? (λ e=>D e.1==some n) with
      |some e=>Gz es D n e.1++[e]
      |none=>[])=_
     rw[hf]⟩
    go_wp2_with fail
    go_ret
    exact⟨_,rfl,by rw[HWy.o];exact World.ownsRow_nil _ _ _ _,Kr _ _⟩

end

section
open Go.RowKit

def ixE(e:Nat×Nat×Nat):Nat:=2*e.1+1+e.2.1

theorem objs_fin:∀ {cs:List Cel} {a b:Nat},AC a cs b->(∀ c∈cs,a<=c.g)/\cs.Pairwise (λ c d=>c.fin<=d.g)
 |[],a,b,_=>⟨λ c h=>(by cases h),List.Pairwise.nil⟩
 |c::cs,a,b,⟨h1,h2,h3⟩=>by
  obtain⟨q1,q2⟩:=objs_fin h3
  refine⟨λ d hd=>?_,List.pairwise_cons.2 ⟨λ d hd=>by have:=q1 d hd;unfold Cel.fin;omega,q2⟩⟩
  rcases List.mem_cons.1 hd with rfl|hd
  .omega
  .have:=q1 d hd
   unfold Cel.fin at this
   omega

theorem refsC_up(ts:List TypR)(c:Cel):(BQ ts c).Pairwise (· <·):=by
 unfold BQ
 cases typeOf ts (c.ty:Nat) with
 |none=>exact List.Pairwise.nil
 |some x=>exact List.pairwise_lt_range.filter _

theorem edges_nodup{P:Sp}{W:Nat->Nat}{cs:List Cel}(hc:CellsAt P W cs):(AP P.ts W cs).Nodup:=by
 have h1:(Bv P.ts W (Aj cs)).Pairwise (λ x y=>ixE x<ixE y):=by
  unfold Bv
  refine List.pairwise_flatMap.2 ⟨λ c hcm=>?_,((objs_fin hc.tl).2.filter _).imp_of_mem λ {c d} hcm hdm hle x hx y hy=>?_⟩
  .rw [List.pairwise_map]
   exact(refsC_up P.ts c).imp λ {a b} h=>by
    show 2*c.g+1+a<2*c.g+1+b
    omega
  .obtain ⟨s,hs,rfl⟩:=List.mem_map.1 hx
   obtain⟨t,ht,rfl⟩:=List.mem_map.1 hy
   have h2:=(refsC_in hc (AX.1 hcm).1 (AX.1 hcm).2 hs).2.1
   show 2*c.g+1+s<2*d.g+1+t
   omega
 have h2:(AP P.ts W cs).Pairwise (λ x y=>ixE x<ixE y):=by
  unfold AP A9
  refine List.pairwise_flatMap.2 ⟨λ x hx=>?_,h1.imp λ {a b} h x hx y hy=>?_⟩
  .unfold Eu
   split
   .exact List.pairwise_singleton _ _
   .exact List.Pairwise.nil
  .obtain ⟨-,rfl⟩:=mem_edgeOf.1 hx
   obtain⟨-,rfl⟩:=mem_edgeOf.1 hy
   exact h
 exact h2.imp λ {a b} h e=>by rw[e] at h;exact Nat.lt_irrefl _ h

theorem AA.iff{es es':List (Nat×Nat×Nat)}{rs:List Nat}(h:∀ e,e∈es ↔ e∈es')(g:Nat):AA es rs g ↔ AA es' rs g:=
 ⟨λ ⟨n,q⟩=>⟨n,q.mono λ e he=>(h e).1 he⟩,λ ⟨n,q⟩=>⟨n,q.mono λ e he=>(h e).2 he⟩⟩

def cutE(es:List (Nat×Nat×Nat))(i:Nat):List (Nat×Nat×Nat):=es.take i++es.drop (i+1)

theorem mem_cutE{es:List (Nat×Nat×Nat)}(hn:es.Nodup){i:Nat}{x:Nat×Nat×Nat}(hx:es[i]?=some x)(e:Nat×Nat×Nat):e∈cutE es i ↔ e∈Gm es x:=by
 obtain⟨hl,hg⟩:=gE.1 hx
 have hs:es=es.take i++x::es.drop (i+1):=by
  have e1:es.drop i=x::es.drop (i+1):=by rw[List.drop_eq_getElem_cons hl,hg]
  rw[<- e1,List.take_append_drop]
 rw[GA]
 unfold cutE
 rw[hs,List.nodup_append] at hn
 obtain⟨n1,n2,n3⟩:=hn
 have n4:=(List.nodup_cons.1 n2).1
 rw[List.mem_append]
 constructor
 .rintro (h|h)
  .exact ⟨List.mem_of_mem_take h,λ q=>n3 e h x (List.mem_cons_self ..) q⟩
  .exact ⟨List.mem_of_mem_drop h,λ q=>n4 (q▸h)⟩
 .rintro ⟨h,hne⟩
  rw[hs,List.mem_append,List.mem_cons] at h
  rcases h with h|h|h
  .exact .inl h
  .exact absurd h hne
  .exact .inr h

open Classical in
noncomputable def onlyT (es:List (Nat×Nat×Nat)) (rs:List Nat) (g i:Nat):List (Nat×Nat×Nat):=(es.take i).filter λ x=>x.2.2==g&& !decide (AA (Gm es x) rs g)

theorem onlyT_all(es:List (Nat×Nat×Nat))(rs:List Nat)(g i:Nat)(hi:es.length<=i):onlyT es rs g i=onlyL es rs g:=by
 unfold onlyT onlyL GD
 rw[List.take_of_length_le hi,List.filter_filter]
 refine List.filter_congr λ x _=>?_
 rw[Bool.and_comm]

theorem onlyT_step{es:List (Nat×Nat×Nat)}{rs:List Nat}{g i:Nat}{x:Nat×Nat×Nat}(hx:es[i]?=some x){b:Bool}(hb:b=true ↔ (x.2.2=g/\¬ AA (Gm es x) rs g)):onlyT es rs g (i+1)=onlyT es rs g i++if b=true then [x] else []:=by
 unfold onlyT
 rw[List.take_add_one,hx,List.filter_append]
 congr 1
 by_cases h:b=true
 .rw [if_pos h]
  obtain⟨h1,h2⟩:=hb.1 h
  simp[h1,h2]
 .rw [if_neg h]
  have h3:¬ (x.2.2=g/\¬ AA (Gm es x) rs g):=λ q=>h (hb.2 q)
  simp only[Option.toList,List.filter_cons,List.filter_nil]
  rw[if_neg]
  rw[Bool.and_eq_true,beq_iff_eq,Bool.not_eq_true',decide_eq_false_iff_not]
  exact h3

theorem Dl.cut{w:World}{eb ec E:Nat}{es:List (Nat×Nat×Nat)}(h:Dl w (.slice (some ⟨eb,0,none⟩) E ec) es)(hE:es.length=E){i:Nat}(hi:i<E)(hc:E<=ec):
  RowTo w (.slice (some ⟨eb,0,none⟩) i ec) ((es.take i).map toI)/\RowTo w (.slice (if ec=i+1 then some ⟨eb,0,none⟩ else some ⟨eb,(i+1)*3,none⟩) (E-(i+1)) (ec-(i+1))) ((es.drop (i+1)).map toI):=by
 obtain⟨a,c,e,hcell⟩:=h
 injection e with e1 e2 e3
 subst e1 e3
 constructor
 .refine ⟨_,_,by rw[List.length_map,List.length_take,Nat.min_eq_left (by omega)],λ t x hx=>?_⟩
  rw[List.getElem?_map] at hx
  obtain⟨y,hy,rfl⟩:=Option.map_eq_some_iff.1 hx
  have hy2:es[t]?=some y:=by
   have ht:=(gE.1 hy).1
   rw[List.length_take] at ht
   rwa [List.getElem?_take_of_lt (by omega)] at hy
  obtain⟨b,h1,-,h2,h3,h4⟩:=hcell t y hy2
  exact⟨b,0,h1,by rw[Nat.zero_add];exact h2,by rw[Nat.zero_add];exact h3,by rw[Nat.zero_add];exact h4⟩
 .refine ⟨_,_,by rw[List.length_map,List.length_drop,hE],λ t x hx=>?_⟩
  rw[List.getElem?_map] at hx
  obtain⟨y,hy,rfl⟩:=Option.map_eq_some_iff.1 hx
  rw[List.getElem?_drop] at hy
  have ht:=(gE.1 hy).1
  obtain⟨b,h1,-,h2,h3,h4⟩:=hcell _ y hy
  injection h1 with h1
  injection h1 with h1
  subst h1
  refine⟨eb,(i+1)*3,by rw[if_neg (by omega)],?_,?_,?_⟩
  .rw [<- Nat.add_mul];exact h2
  .rw [<- Nat.add_mul];exact h3
  .rw [<- Nat.add_mul];exact h4

end

end Go.Proofs.YtfkedlgpgmaemaaGreatDoor
