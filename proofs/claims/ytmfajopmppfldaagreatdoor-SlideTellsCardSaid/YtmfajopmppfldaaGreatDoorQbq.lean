/-
  Lemmas for the laws, together: SlideD, SlideL.
-/
import Derived.Test.YtmfajopmppfldaaGreatDoorQbp
import Derived.Test.YtmfajopmppfldaaGreatDoorQbo
import Derived.Test.YtmfajopmppfldaaGreatDoorQbl
import Derived.Test.YtmfajopmppfldaaGreatDoorQbe
import Derived.Test.YtmfajopmppfldaaGreatDoorQbm
set_option linter.unusedVariables false
set_option maxHeartbeats 16000000
namespace Go.Proofs.YtmfajopmppfldaaGreatDoor
open Go.Proofs.Tryz
section
open Go.RowKit

theorem OneSt.keep{a q n bA bW bM base:Nat}{W:Nat->Nat}{ts:List Nat}{m:Nat}{w w':World}(h:OneSt a q n bA bW bM base W ts m w)(k:Kp Ab w w'):OneSt a q n bA bW bM base W ts m w':=by
 obtain⟨v,h1,h2⟩:=h.row
 exact⟨h.ar.Ad k,⟨v,k.at_ h1 (λ h=>h),Ai h2 k (λ _ _ h=>h)⟩,k.at_ h.wd (λ h=>h),k.at_ h.mv (λ h=>h),Nat.le_trans h.big k.size⟩

def SlDoPost(P:Sp)(W:Nat->Nat)(cs:List Cel)(es:List (Nat×Nat×Nat))(w:World)(e:Ending)(w':World):Prop:=
 e=.returned (.tuple #[.int .i64 (Bl es:Nat),.int .i64 0])/\Kp P.own w w'/\Aw w' P (AU (AX es W) 0 (Dm cs es) (P.n/2)) (Cn 0 (Dm cs es) (P.n/2))

theorem SlDo_at(P:Sp)(W:Nat->Nat)(cs:List Cel)(es:List (Nat×Nat×Nat))(v:Value)(w:World)(hs:Aw w P W cs)(h:Du w v es)(hg:GoodP cs es)(hl:es.length<=1000)(hv:∀ b o l c,v=.slice (some ⟨b,o,none⟩) l c->¬ P.own b):
  Calls prog 36 #[.pointer (some ⟨P.s,0,none⟩),.agg #[v]] w (SlDoPost P W cs es w):=by
 have HSp:=sE hs
 have HRo:=sE h
 have HGp:=sE hg
 obtain⟨va,vc,rfl,-⟩:=h
 obtain⟨n,hn⟩:∃ n,es.length=n:=⟨_,rfl⟩
 rw[hn] at HRo hl hv ⊢
 have HN:=sE hn
 obtain⟨f,hsp,hcs,hst⟩:=hs
 have lall:=hsp.lt
 have hsm:=hsp.ar.small
 have HS0:=sE hsp
 have HTl:=sE hcs.tl
 have HCs:=sE hcs
 have HFt:Sl (Cs cs (FB es)):=⟨hg.fits⟩
 obtain⟨B,hB⟩:∃ B,w.heap.size=B:=⟨_,rfl⟩
 have HB:=sE hB
 obtain⟨w1,hw1⟩:∃ w1,w1=(w.alloc (.cells #[.slice va n vc] 33)).alloc (.cells #[.int .i64 0] 3):=⟨_,rfl⟩
 have k1:Kp Ab w w1:=by rw[hw1];exact ((Kr _ w).alloc _).alloc _
 have b0:w1.heap[B]?=some (.cells #[.slice va n vc] 33 (0,0)):=by
  rw[hw1,<- hB]
  exact((Kr Ab _).alloc _).at_ (wN w _) (λ h=>h)
 have b1:w1.heap[B+1]?=some (.cells #[.int .i64 0] 3 (0,0)):=by
  rw[hw1]
  have:=wN (w.alloc (.cells #[.slice va n vc] 33)) (.cells #[.int .i64 0] 3)
  rwa [show (w.alloc (.cells #[.slice va n vc] 33)).heap.size=B+1 by simp[hB]] at this
 have HCk:=sE (TCheck_at P W cs (FB es) (.slice va n vc) w1 (hsW1 HSp.out k1) (HRo.out.Ad k1).rowH (by rw[castS_len,HN.out];omega))
 have HK1:=sE k1
 have Hb0:=sE b0
 have Hb1:=sE b1
 have c0:=cell_of_one b0
 clear hn hg k1 b0 b1 hsp hcs hst
 go_enter func36,ntmps36
 go_wp2_with fail
 rw[<- hw1]
 clear hw1
 try rw[hB]
 refine HCk.out.mono ?_
 rintro e w2 ⟨(⟨-,rfl⟩|⟨hno,-⟩),k2⟩
 case inr=>exact absurd HFt.out hno
 have HK2:Sl (Kp Ab w w2):=⟨HK1.out.then' k2⟩
 have Hb2:=sE (k2.at_ Hb1.out (λ h=>h))
 have Hb20:=sE (k2.at_ Hb0.out (λ h=>h))
 have HSa:Sl (SpaceAt w2 P W f):=⟨HS0.out.Ad HK2.out⟩
 have HAr:=sE (Cj P W f w2 HSa.out)
 replace c0:=k2.cell c0 (λ h=>h)
 clear k2 HCk
 go_wp2_with fail
 refine HAr.out.mono ?_
 rintro e w3 ⟨rfl,rfl⟩
 have lB:B<w3.heap.size:=lZ Hb20.out
 have lB1:B+1<w3.heap.size:=lZ Hb2.out
 obtain⟨M,hM⟩:∃ M,w3.heap.size=M:=⟨_,rfl⟩
 obtain⟨w4,hw4⟩:∃ w4,w4=(w3.alloc (.cells #[.func (.func 76) #[.pointer (some ⟨P.a,0,none⟩)] #[]] 149)).alloc (.cells #[.slice none 0 0] 82):=⟨_,rfl⟩
 have k4:Kp Ab w3 w4:=by rw[hw4];exact ((Kr _ w3).alloc _).alloc _
 have b7:w4.heap[M]?=some (.cells #[.func (.func 76) #[.pointer (some ⟨P.a,0,none⟩)] #[]] 149 (0,0)):=by
  rw[hw4,<- hM]
  exact((Kr Ab _).alloc _).at_ (wN w3 _) (λ h=>h)
 have b8:w4.heap[M+1]?=some (.cells #[.slice none 0 0] 82 (0,0)):=by
  rw[hw4]
  have:=wN (w3.alloc (.cells #[.func (.func 76) #[.pointer (some ⟨P.a,0,none⟩)] #[]] 149)) (.cells #[.slice none 0 0] 82)
  rwa [show (w3.alloc (.cells #[.func (.func 76) #[.pointer (some ⟨P.a,0,none⟩)] #[]] 149)).heap.size=M+1 by simp[hM]] at this
 have z4:w4.heap.size=M+2:=by rw[hw4];simp [hM]
 have la:P.a<B:=by have:=lall P.a (by simp[Sp.all]);omega
 have lq:P.q<B:=by have:=lall P.q (by simp[Sp.all]);omega
 have HBx:Sl (OneBx P.a P.q (M+1) (B+1) M (M+2)):=⟨⟨by omega,by omega,by omega,by omega,by omega,by omega,by omega,by omega,by omega,by omega,by omega,by omega⟩⟩
 have HSt0:Sl (OneSt P.a P.q P.n (M+1) (B+1) M (M+2) (AX (es.take 0) W) ((es.take 0).map λ x=>x.2.1) (Bl (es.take 0)) w4):=⟨⟨HSa.out.ar.Ad k4,⟨_,b8,World.ownsRow_nil _ _ _ _⟩,k4.at_ Hb2.out (λ h=>h),b7,by omega⟩⟩
 have HK4:Sl (Kp Ab w w4):=⟨HK2.out.then' k4⟩
 have HM:=sE hM
 clear k4 b7 b8 HAr hM
 go_wp2_with fail
 have hM:=HM.out
 rw[<- hw4]
 try rw[hM]
 clear hw4
 go_loopw [11,12,26] (λ _ _ x26 wr=>∃ j:Nat,j<=n/\x26=.int .i64 (j:Nat)/\OneSt P.a P.q P.n (M+1) (B+1) M (M+2) (AX (es.take j) W) ((es.take j).map λ x=>x.2.1) (Bl (es.take j)) wr/\Kp (λ b=>b=P.a\/b=P.q) w wr) (λ _ _ x26 _=>n-(intOf x26).toNat)
 case atStart=>exact ⟨0,Nat.zero_le _,rfl,HSt0.out,HK4.out.Ak _⟩
 case round=>
  obtain⟨j,hj,rfl,hst,hk⟩:=hrel
  have HK:=sE hk
  have HSt:=sE hst
  by_cases hjl:j<n
  .have hjl':(j:Int)<(n:Int):=by omega
   obtain⟨va',vc',e,hx⟩:=HRo.out
   injection e with e1 e3 e2
   clear e3
   subst e1 e2
   obtain⟨x,hxj⟩:∃ x,es[j]?=some x:=⟨_,List.getElem?_eq_getElem (by rw[HN.out];exact hjl)⟩
   obtain⟨bb,o,rfl,hbb,x0,x1,x2⟩:=hx j x hxj
   have hnb:¬ (bb=P.a\/bb=P.q):=λ h=>hv bb o n vc rfl (by rcases h with h|h;exact .inl h;exact .inr (.inl h))
   replace x0:=hk.cell x0 hnb
   replace x1:=hk.cell x1 hnb
   replace x2:=hk.cell x2 hnb
   have HX:=sE hxj
   obtain⟨xf,xt,xz⟩:=x
   simp only at x0 x1 x2
   have hxm:(xf,xt,xz)∈es:=List.mem_of_getElem? hxj
   have hft:=HGp.out.fit HTl.out hxm
   have hle:=HGp.out.le _ hxm
   have hmo:=HGp.out.moved HTl.out j
   dsimp only at hft hle
   have hev:=HS0.out.ev
   have HOne:=sE (One_at P.a P.q P.n (M+1) (B+1) M (M+2) (AX (es.take j) W) ((es.take j).map λ x=>x.2.1) (Bl (es.take j)) (xf,xt,xz) (wr.alloc (.cells #[.int .i64 (xf:Nat),.int .i64 (xt:Nat),.int .i64 (xz:Nat)] 43)) (hst.keep ((Kr _ wr).alloc _)) HBx.out (by dsimp only;omega) (by dsimp only;omega) (by dsimp only;omega) (by rw[List.length_map,List.length_take];omega) (by omega))
   clear hx hst hk hxm hft hle hmo hev
   go_wp2_with fail
   refine HOne.out.mono ?_
   rintro e w6 ⟨rfl,st6,k6⟩
   have HK6:Sl (Kp (λ b=>b=P.a\/b=P.q) w w6):=⟨(HK.out.alloc _).trans k6 λ i hi h=>by
    rw[HB.out] at hi
    rcases h with h|h|h|h|h
    .omega
    .omega
    .exact .inl h
    .exact .inr h
    .omega⟩
   have HSt6:=sE st6
   have htk:es.take (j+1)=es.take j++[(xf,xt,xz)]:=by rw[List.take_add_one,HX.out];rfl
   clear st6 k6
   go_wp2_with fail
   refine⟨⟨j+1,by omega,by go_num,?_,HK6.out⟩,by simp only[intOf];omega⟩
   rw[htk,slideW_app,List.map_append,movedW_snoc]
   exact HSt6.out
  .have hje:j=n:=by omega
   subst hje
   have htk:es.take j=es:=by rw[<- HN.out,List.take_length]
   rw[htk] at HSt hst
   obtain⟨v,h8,hrow⟩:=hst.row
   have hml:(es.map λ x=>x.2.1).length=j:=by rw[List.length_map,HN.out]
   rw[hml] at hrow
   obtain⟨sa,sc,hv8⟩:=AA hrow
   subst hv8
   have c8:=cell_of_one h8
   have hcl:((es.map λ x=>x.2.1).map λ(n:Nat)=>(n:Int)).length=j:=by rw[List.length_map,hml]
   have HSo:=sE (Sort_row (M+2) (.slice sa j sc) ((es.map λ x=>x.2.1).map λ(n:Nat)=>(n:Int)) wr (by rw[hcl,<- natVs_cast];exact hrow) (by rw[hcl];omega))
   rw[hcl,sortT_cast,<- natVs_cast] at HSo
   have hob:∀ b,(Value.slice sa j sc).ownBlock=some b->M+2<=b:=λ b h=>(Af hrow h).1
   have HOb:=sE hob
   have H8:=sE h8
   clear hst hk hrow h8 hob hcl hml
   go_wp2_with fail
   with_reducible refine HSo.out.mono ?_
   rintro e w7 ⟨rfl,o7,k7⟩
   have k8:Kp (λ b=>M+2<=b) wr w7.drew:=(k7.mono λ b _ h=>HOb.out b h).drew
   have o8:w7.drew.ownsRow (M+2) 3 1 (.slice sa j sc) j (AB (Bn es)):=Ai o7 (Kr Ab w7).drew (λ _ _ h=>h)
   have kw:Kp (λ b=>b=P.a\/b=P.q) w w7.drew:=HK.out.trans k8 (λ b hb h=>by rw[HB.out] at hb;omega)
   have ar8:=HSt.out.ar.keep k8 (by omega) (by omega)
   have S8:=HS0.out.wordsS kw (λ i _ h=>h) ar8
   have b8:=k8.at_ HSt.out.wd (by omega)
   have a8:=k8.at_ H8.out (by omega)
   have I8:BA 1 w7.drew (.slice sa j sc) j (λ i _=>((Bn es).getD i 0:Nat)):=⟨sa,sc,rfl,λ i hi=>by
    have hsl:i<(Bn es).length:=by rw[sortT_len,HN.out];exact hi
    obtain⟨bb,h1,h2⟩:=Ce o8 (List.getElem?_eq_getElem hsl)
    refine⟨bb,0,h1,World.block_lt_of_cell? _ _ h2,λ k hk=>?_⟩
    obtain rfl:k=0:=by omega
    have hgd:(Bn es).getD i 0=(Bn es)[i]:=by rw[List.getD_eq_getElem?_getD,List.getElem?_eq_getElem hsl];rfl
    have hmm:=DD.1 (List.getElem_mem hsl)
    obtain⟨y,hy,hy2⟩:=hmm
    have:=(HGp.out.fit HTl.out hy).2.1
    (try dsimp only)
    rw[hgd,Nat.zero_add,Nat.mul_one,Nat.add_zero]
    exact⟨h2,by omega,by omega⟩⟩
   have HSe:Sl _:=⟨SSettle_to P (AX es W) f (.slice sa j sc) j (λ i _=>((Bn es).getD i 0:Nat)) w7.drew S8 I8 hl (λ _ b hb h=>by
    have h1:=HOb.out b hb
    have h2:=lall b (by rcases h with h|h|h <;> simp[Sp.all,h])
    omega)⟩
   have hset:=slidO_settle (P:=P) (W:=W) HCs.out HGp.out
   rw[HN.out] at hset
   have HSet:=sE hset
   have cB:=cell_of_one b8
   have c8':=cell_of_one a8
   have HB8:=sE b8
   have HKw:=sE kw
   have hnown:∀ b,B<=b->¬ P.own b:=λ b hb h=>by
    have h2:=lall b (by rcases h with h|h|h <;> simp[Sp.all,h])
    omega
   have HNo:=sE hnown
   clear k8 o8 kw ar8 S8 b8 a8 I8 hset o7 k7 hnown HSo c8
   go_wp2_with fail
   refine wp_region_held_drew (S:=λ w'=>w'.cell? ⟨B+1,0,none⟩=some (.int .i64 (Bl es:Nat))/\w'.cell? ⟨M+1,0,none⟩=some (.slice sa j sc)) (by kernel_rfl) ?_ (λ qZ=>?_)
   .exact ⟨cB,c8'⟩
   refine Ao 0 ?_;refine Ao 1 ?_;refine Ao 2 ?_
   try simp only[Ar]
   refine AQ [3] ?_
   refine Ag rfl (λ K hK=>?_)
   go_simp
   with_reducible refine HSe.out.mono ?_
   rintro e w9 (⟨h1,-⟩|⟨os,h1,rfl,k9,hsp9⟩)
   .rw [HSet.out] at h1
    cases h1
   rw[HSet.out] at h1
   obtain rfl:=Option.some.inj h1
   have b9:=k9.at_ HB8.out (HNo.out _ (by omega))
   have cB9:=cell_of_one b9
   have fB9:=free_of_one b9
   have cM9:=k9.cell c8' (HNo.out _ (by show B<=M+1;omega))
   refine hK _ _ ?_ (λ qZ=>?_)
   .exact ⟨cB9,cM9⟩
   clear hK K
   try simp only[Ar]
   refine AQ [4] ?_
   refine Ag rfl (λ K hK=>?_)
   go_simp
   have KB:Kp (λ b=>b=B+1) w9 (w9.setCell ⟨B+1,0,none⟩ (.int .i64 (Bl es:Nat))):=(Kr (λ b=>b=B+1) w9).setCell (λ _=>rfl) _
   have b10:=one_setCell (u:=.int .i64 (Bl es:Nat)) b9
   have cB10:=cell_of_one b10
   have cM10:=KB.cell cM9 (by show ¬ M+1=B+1;omega)
   have hsp10:Aw (w9.setCell ⟨B+1,0,none⟩ (.int .i64 (Bl es:Nat))) P (AU (AX es W) 0 (Dm cs es) (P.n/2)) (Cn 0 (Dm cs es) (P.n/2)):=by
    obtain⟨f',s1,s2,s3⟩:=hsp9
    exact⟨f',s1.keep KB (λ i hi h=>by have:=lall i hi;omega),s2,s3⟩
   have k10:Kp P.own w (w9.setCell ⟨B+1,0,none⟩ (.int .i64 (Bl es:Nat))):=((HKw.out.mono λ b _ h=>(show P.own b by rcases h with h|h;exact .inl h;exact .inr (.inl h))).trans k9 (λ _ _ h=>h)).trans KB (λ b hb h=>by rw[HB.out] at hb;omega)
   refine hK _ _ ?_ (λ qZ=>?_)
   .exact ⟨cB10,cM10⟩
   clear hK K
   try simp only[Ar]
   refine Ao 5 ?_
   try simp only[Ar]
   refine wpAnyH_done (by kernel_rfl) ?_ _
   generalize w9.setCell _ _=w10 at cB10 hsp10 k10 ⊢
   have HFin:=sE (And.intro k10 hsp10)
   clear KB b10 cM10 hsp10 k10 b9 cB9 fB9 cM9 hsp9 k9
   go_wp2_with fail
   exact bodyPost_ret (v:=.tuple #[.int .i64 (Bl es:Nat),.int .i64 0]) (by simp[results,results36,go_sem,cB10]) rfl ⟨rfl,HFin.out.1,HFin.out.2⟩

end

section
open Go.RowKit

theorem SlDo_nil(v:Value)(w:World):Calls prog 36 #[.pointer none,.agg #[v]] w λ e w'=>e=.returned (.tuple #[.int .i64 0,.int .i64 1])/\Kp Ab w w':=by
 obtain⟨B,hB⟩:∃ B,w.heap.size=B:=⟨_,rfl⟩
 obtain⟨w1,hw1⟩:∃ w1,w1=(w.alloc (.cells #[v] 33)).alloc (.cells #[.int .i64 0] 3):=⟨_,rfl⟩
 have k1:Kp Ab w w1:=by rw[hw1];exact ((Kr _ w).alloc _).alloc _
 have b0:w1.heap[B]?=some (.cells #[v] 33 (0,0)):=by
  rw[hw1,<- hB]
  exact((Kr Ab _).alloc _).at_ (wN w _) (λ h=>h)
 have b1:w1.heap[B+1]?=some (.cells #[.int .i64 0] 3 (0,0)):=by
  rw[hw1]
  have:=wN (w.alloc (.cells #[v] 33)) (.cells #[.int .i64 0] 3)
  rwa [show (w.alloc (.cells #[v] 33)).heap.size=B+1 by simp[hB]] at this
 have HCk:=sE (TCheck_nil v w1)
 have c0:=cell_of_one b0
 go_enter func36,ntmps36
 go_wp2_with fail
 rw[<- hw1]
 clear hw1
 try rw[hB]
 refine HCk.out.mono ?_
 rintro e w2 ⟨rfl,k2⟩
 have cB:=cell_of_one (k2.at_ b1 (λ h=>h))
 have fB:=free_of_one (k2.at_ b1 (λ h=>h))
 have lB:B+1<w2.heap.size:=lZ (k2.at_ b1 (λ h=>h))
 have KB:Kp Ab w (w2.setCell ⟨B+1,0,none⟩ (.int .i64 0)):=(k1.then' k2).trans ((Kr (λ b=>b=B+1) w2).setCell (p:=⟨B+1,0,none⟩) (λ _=>rfl) (.int .i64 0)) (λ b hb h=>by rw[hB] at hb;omega)
 have cB2:=cell_of_one (one_setCell (u:=.int .i64 0) (k2.at_ b1 (λ h=>h)))
 clear k2 b0 b1 c0 k1
 go_wp2_with fail
 exact bodyPost_ret (v:=.tuple #[.int .i64 0,.int .i64 1]) (by simp[results,results36,go_sem,cB2]) rfl ⟨rfl,KB⟩

def SlAllPost(P:Sp)(W:Nat->Nat)(cs:List Cel)(es:List (Nat×Nat×Nat))(w:World)(e:Ending)(w':World):Prop:=
 e=.returned (.tuple #[.int .i64 (DK es (Eu P.ts cs) es W:Nat),.int .i64 (Bl es:Nat),.int .i64 0])/\Kp P.own w w'/\
  Aw w' P (AU (AX es (BL es (Eu P.ts cs) es W)) 0 (Dm cs es) (P.n/2)) (Cn 0 (Dm cs es) (P.n/2))

theorem SlAll_at(P:Sp)(W:Nat->Nat)(cs:List Cel)(es:List (Nat×Nat×Nat))(v:Value)(w:World)(hs:Aw w P W cs)(h:Du w v es)(hg:GoodP cs es)(hl:es.length<=1000)(hms:∀ x∈P.ts,x.m<18446744073709551616)(hv:∀ b o l c,v=.slice (some ⟨b,o,none⟩) l c->¬ P.own b):
  Calls prog 11 #[.pointer (some ⟨P.s,0,none⟩),.agg #[v]] w (SlAllPost P W cs es w):=by
 have HSp:=sE hs
 have HRo:=sE h
 obtain⟨B,hB⟩:∃ B,w.heap.size=B:=⟨_,rfl⟩
 obtain⟨w1,hw1⟩:∃ w1,w1=w.alloc (.cells #[v] 33):=⟨_,rfl⟩
 have k1:Kp Ab w w1:=by rw[hw1];exact (Kr _ w).alloc _
 have b0:w1.heap[B]?=some (.cells #[v] 33 (0,0)):=by
  rw[hw1,<- hB]
  exact wN w _
 have HTd:=sE (TDo_at P W cs es v w1 (hsW1 hs k1) (h.Ad k1) hg (by omega) hms hv)
 have c0:=cell_of_one b0
 go_enter func11,ntmps11
 go_wp2_with fail
 rw[<- hw1]
 clear hw1
 try rw[hB]
 refine HTd.out.mono ?_
 rintro e w2 ⟨rfl,hs2,k2⟩
 have hBa:∀ b,(b=P.a\/b=P.q)->b<B:=λ b h=>by
  obtain⟨f,s1,-,-⟩:=hs
  have:=s1.lt b (by rcases h with h|h <;> simp[Sp.all,h])
  omega
 replace c0:=k2.cell c0 (λ h=>by have:=hBa _ h;dsimp only at this;omega)
 have hr2:Du w2 v es:=by
  obtain⟨va,vc,rfl,hx⟩:=h
  refine⟨va,vc,rfl,λ i x hi=>?_⟩
  obtain⟨bb,o,rfl,h1,h2,h3,h4⟩:=hx i x hi
  have hn:¬ (bb=P.a\/bb=P.q):=λ h=>hv bb o _ vc rfl (by rcases h with h|h;exact .inl h;exact .inr (.inl h))
  have k:=(k1.Ak (λ b=>b=P.a\/b=P.q)).trans k2 (λ _ _ h=>h)
  exact⟨bb,o,rfl,Nat.lt_of_lt_of_le h1 k.size,k.cell h2 hn,k.cell h3 hn,k.cell h4 hn⟩
 have HSd:=sE (SlDo_at P _ cs es v w2 hs2 hr2 hg hl hv)
 have HK2:Sl (Kp P.own w w2):=⟨(k1.Ak P.own).trans k2 (λ b _ h=>(by rcases h with h|h;exact .inl h;exact .inr (.inl h)))⟩
 clear hs2 hr2 k2
 go_wp2_with fail
 refine HSd.out.mono ?_
 rintro e w3 ⟨rfl,k3,hs3⟩
 have HFin:=sE (And.intro (HK2.out.trans k3 (λ _ _ h=>h)) hs3)
 clear k3 hs3
 go_wp2_with fail
 exact bodyPost_ret (v:=.tuple #[.int .i64 (DK es (Eu P.ts cs) es W:Nat),.int .i64 (Bl es:Nat),.int .i64 0]) (by simp[results,results11,go_sem]) rfl ⟨rfl,HFin.out.1,HFin.out.2⟩

end

end Go.Proofs.YtmfajopmppfldaaGreatDoor
