/-
  Lemmas for the laws, together: PlayA, PlayJ, FindB, Ints.
-/
import Derived.Test.YtmfajopmppfldaaGreatDoorQg
import Derived.Test.YtmfajopmppfldaaGreatDoorQe
import Derived.Test.YtmfajopmppfldaaGreatDoorQf
import Derived.Test.YtmfajopmppfldaaGreatDoorQc
import Derived.Test.YtmfajopmppfldaaGreatDoorQd
set_option linter.unusedVariables false
set_option maxHeartbeats 16000000
namespace Go.Proofs.YtmfajopmppfldaaGreatDoor
open Go.Proofs.Tryz
section
open Go.RowKit

def DMadeNew(n:Nat)(lv:Value)(w:World)(e:Ending)(w':World):Prop:=
 ∃ rb q,e=.returned (.pointer (some ⟨rb,0,none⟩))/\w.heap.size<=rb/\w.heap.size<=q/\DocAt w' rb q n (AX (λ _=>0) 0 (n/2)) lv/\Kp Ab w w'

theorem DNew_at(n:Nat)(lv:Value)(w:World)(hlv:∃ a l c,lv=.slice a l c)(h1:1<=n)(h2:n<=65536):Calls prog 82 #[.int .i64 (n:Nat),lv] w (DMadeNew n lv w):=by
 have hq:Sl (((n:Nat):Int)/2=((n/2:Nat):Int)):=⟨by omega⟩
 obtain⟨la,ll,lc,rfl⟩:=hlv
 go_enter func82,ntmps82
 go_wp2_with (at_make;obtain ⟨i0,hi,hz0,hz1,hz2⟩:=info_parts infoU64;go_loud (refine wpList_make_full _ rfl (.tmp 6) (.tmp 6) 135 rfl w.heap.size 55 i0 (.int .u64 0) 1 underlyingU64s hi hz0 hz1 .i64 .i64 n n n rfl rfl rfl rfl (by rw[hz2];omega) (by unfold maxLen;omega) (Nat.le_refl _) ?_);intro w1 hown hgrow;clear hi hz0 hz1 hz2)
 have hk:Kp Ab w w1:=(Kr Ab w).grown hgrow (λ _ e=>by cases e)
 obtain⟨w2,hw2⟩:∃ w2,w2=w1.alloc (.cells #[.slice (some ⟨w.heap.size,0,none⟩) n n,.slice la ll lc] 140):=⟨_,rfl⟩
 have hk2:Kp Ab w w2:=by rw[hw2];exact hk.alloc _
 have hD:DocAt w2 w1.heap.size w.heap.size n (λ _=>0) (.slice la ll lc):=by
  rw[hw2]
  rcases hown.2 with ⟨e,-⟩|⟨g,cap,cur,e,-,hheap,hnc,-,hsz,htake⟩
  .cases e
  .injection e with e1 _ e2
   injection e1 with e1
   injection e1 with e1 _
   subst e1 e2
   refine⟨⟨n,wN w1 _⟩,⟨cur,((Kr Ab w1).alloc _).at_ hheap (λ h=>h),by omega,λ j hj=>?_⟩,h2,λ j hj=>by omega⟩
   have h9:(cur.toList.take (n*1))[j]?=some (.int .u64 0):=by
    rw[htake,show (Value.int .u64 0).cells=#[Value.int .u64 0] from rfl,toList_madeCells_one,List.getElem?_replicate,if_pos (by omega)]
   rw[List.getElem?_take_of_lt (by omega)] at h9
   rwa [Array.getElem?_toList] at h9
 have hs1:=hk.size
 have HL:=sE (DR w1.heap.size w.heap.size n (λ _=>0) (.slice la ll lc) 0 (n/2) w2 hD (by omega))
 have HK2:=sE hk2
 clear hown hgrow hk hk2 hD
 go_wp2_with fail
 try rw[<- hw2]
 clear hw2
 try go_wp2_with fail
 try rw[hq.out]
 refine HL.out.mono ?_
 rintro e w3 ⟨rfl,q',D3,hq3,k3⟩
 have HD3:=sE D3
 have HK3:=sE k3
 have hqw:w.heap.size<=q':=by
  have:=HK2.out.size
  omega
 clear D3 hq3 k3
 go_wp2
 go_ret
 exact⟨_,q',rfl,hs1,hqw,HD3.out,HK2.out.trans HK3.out (λ i hi h=>by have h':i=w1.heap.size:=h;omega)⟩

structure Both(w0 w:World)(P:Sp)(rb q:Nat)(lv:Value)(W:Nat->Nat)(cs:List Cel):Prop where
 sp:Az w P W cs
 dc:DocAt w rb q P.n W lv
 own:∀ k,P.own k->w0.heap.size<=k
 rb0:w0.heap.size<=rb
 rbn:¬ P.all rb
 qn:¬ P.all q
 gap:BM cs
 kb:Kp (λ k=>w0.heap.size<=k) w0 w
 ty:A9 w0 lv P.ts
 few:P.ts.length<=64
 ms:Dm P.ts

theorem A9.keepBase{w0 w:World}{v:Value}{xs:List TypR}(h:A9 w0 v xs)(k:Kp (λ k=>w0.heap.size<=k) w0 w):A9 w v xs:=by
 obtain⟨a,cap,rfl,h⟩:=h
 refine⟨a,cap,rfl,λ i x hx=>?_⟩
 obtain⟨b,o,hab,hb,c0,c1,c2⟩:=h i x hx
 have hn:¬ w0.heap.size<=b:=by omega
 exact⟨b,o,hab,Nat.lt_of_lt_of_le hb k.size,k.cell c0 hn,k.cell c1 hn,k.cell c2 hn⟩

theorem Both.tyAt{w0 w:World}{P:Sp}{rb q:Nat}{lv:Value}{W:Nat->Nat}{cs:List Cel}(h:Both w0 w P rb q lv W cs):A9 w lv P.ts:=h.ty.keepBase h.kb

theorem Both.few'{w0 w:World}{P:Sp}{rb q:Nat}{lv:Value}{W:Nat->Nat}{cs:List Cel}(h:Both w0 w P rb q lv W cs):P.ts.length<=17592186044416:=by have:=h.few;omega

theorem Both.cells{w0 w:World}{P:Sp}{rb q:Nat}{lv:Value}{W:Nat->Nat}{cs:List Cel}(h:Both w0 w P rb q lv W cs):CellsAt P W cs:=by
 obtain⟨f,_,hc,_⟩:=h.sp
 exact hc

theorem Both.at_{w0 w:World}{P:Sp}{rb q:Nat}{lv:Value}{W:Nat->Nat}{cs:List Cel}(h:Both w0 w P rb q lv W cs):∃ f,SpaceAt w P W f:=by
 obtain⟨f,hs,_⟩:=h.sp
 exact⟨f,hs⟩

theorem Both.lt{w0 w:World}{P:Sp}{rb q:Nat}{lv:Value}{W:Nat->Nat}{cs:List Cel}(h:Both w0 w P rb q lv W cs):∀ k,P.all k->k<w.heap.size:=by
 obtain⟨f,hs⟩:=h.at_
 exact hs.lt

theorem Both.small{w0 w:World}{P:Sp}{rb q:Nat}{lv:Value}{W:Nat->Nat}{cs:List Cel}(h:Both w0 w P rb q lv W cs):P.n<=65536:=h.dc.row.small

theorem Sp.Cb{P:Sp}{k:Nat}(h:P.own k):P.all k:=by
 rcases h with h|h|h <;> (unfold Sp.all;simp [h])

theorem Both.Ad{w0 w w':World}{P:Sp}{rb q:Nat}{lv:Value}{W:Nat->Nat}{cs:List Cel}(h:Both w0 w P rb q lv W cs)(k:Kp Ab w w'):Both w0 w' P rb q lv W cs:=
 ⟨h.sp.Ad k,h.dc.Ad k,h.own,h.rb0,h.rbn,h.qn,h.gap,h.kb.trans k (λ _ _ h=>h.elim),h.ty,h.few,h.ms⟩

theorem Both.size{w0 w:World}{P:Sp}{rb q:Nat}{lv:Value}{W:Nat->Nat}{cs:List Cel}(h:Both w0 w P rb q lv W cs):w0.heap.size<=w.heap.size:=h.kb.size

theorem Both.step{w0 w w1 w2:World}{P:Sp}{rb q q':Nat}{lv:Value}{W W':Nat->Nat}{cs cs':List Cel}(h:Both w0 w P rb q lv W cs)(k1:Kp P.own w w1)(hs:Az w1 P W' cs')(hg:BM cs')(k2:Kp (λ k=>k=rb) w1 w2)
  (hd:DocAt w2 rb q' P.n W' lv) (hq:q'=q\/w1.heap.size<=q'):Both w0 w2 P rb q' lv W' cs':=
 ⟨hs.keep k2 (λ i hi e=>h.rbn (e▸hi)),hd,h.own,h.rb0,h.rbn,by
  rcases hq with e|e
  .rw [e];exact h.qn
  .exact λ ha=>by
    have:=h.lt q' ha
    have:=k1.size
    omega,hg,
  (h.kb.trans k1 (λ k hk hp=>h.own k hp)).trans k2 (λ k hk e=>by have e':k=rb:=e;rw [e'];exact h.rb0),h.ty,h.few,h.ms⟩

def En(w0:World)(P:Sp)(rb:Nat)(lv:Value)(w:World)(e:Ending)(w':World):Prop:=
 ∃ W' cs' q',e=.returned (.bool true)/\Both w0 w' P rb q' lv W' cs'

theorem cells6{w:World}{b:Nat}{a0 a1 a2 a3 a4 a5:Value}{T:TypeId}(hb:w.heap[b]?=some (.cells #[a0,a1,a2,a3,a4,a5] T (0,0))):
  w.cell? ⟨b,0,none⟩=some a0/\w.cell? ⟨b,1,none⟩=some a1/\w.cell? ⟨b,2,none⟩=some a2/\w.cell? ⟨b,3,none⟩=some a3/\w.cell? ⟨b,4,none⟩=some a4/\w.cell? ⟨b,5,none⟩=some a5:=by
 refine⟨?_,?_,?_,?_,?_,?_⟩ <;> simp only[World.cell?,hb] <;> rfl

theorem start_of_drop{cs p1 g1 g2 p2:List Cel}{c:Cel}{j x y:Nat}(h:C9 cs j p1 g1 c g2 p2 x y):Ar cs j=true:=by
 obtain⟨h1,h2,h3,-⟩:=h
 unfold Ar
 rw[List.any_eq_true]
 exact⟨c,by rw[h1];simp,by simp[h2,h3]⟩

def DK(d g i n y:Int)(u:Value):Value:=.agg #[.int .i64 d,.int .i64 g,.int .i64 i,.int .i64 n,.int .u64 y,u]

def PutStep(P:Sp)(W:Nat->Nat)(cs:List Cel)(g i n:Int)(W':Nat->Nat)(cs':List Cel):Prop:=
 (¬ Dt P.ts (P.n/2) cs g i n=0/\W'=W/\cs'=cs)\/
  (Dt P.ts (P.n/2) cs g i n=0/\∃ (pre:List Cel) (c:Cel) (post:List Cel) (j a l S:Nat),cs=pre++c::post/\¬ c.tag=1/\g=(j:Nat)/\i=(a:Nat)/\n=(l:Nat)/\Bj P.ts i n=(S:Nat)/\
   c.g<=j/\j+S<=c.fin/\0<S/\W'=putW W c j a l S/\cs'=putL pre c post j a l S)

def EI(w0:World)(P:Sp)(rb:Nat)(lv:Value)(R:(Nat->Nat)->List Cel->Prop)(w:World)(e:Ending)(w':World):Prop:=
 ∃ W' cs' q',e=.returned (.bool true)/\Both w0 w' P rb q' lv W' cs'/\R W' cs'

theorem EI.weak{w0:World}{P:Sp}{rb:Nat}{lv:Value}{R:(Nat->Nat)->List Cel->Prop}{w:World}{e:Ending}{w':World}(h:EI w0 P rb lv R w e w'):En w0 P rb lv w e w':=by
 obtain⟨W',cs',q',h1,h2,-⟩:=h
 exact⟨W',cs',q',h1,h2⟩

set_option maxRecDepth 20000 in
theorem Does_putR(w0 w:World)(P:Sp)(rb q:Nat)(lv:Value)(W:Nat->Nat)(cs:List Cel)(g i n y:Int)(u:Value)(hb:Both w0 w P rb q lv W cs)(hu:∃ a l c,u=.slice a l c):
  Calls prog 40 #[.pointer (some ⟨P.s,0,none⟩),.pointer (some ⟨rb,0,none⟩),DK 0 g i n y u] w (EI w0 P rb lv (λ W' cs'=>PutStep P W cs g i n W' cs') w):=by
 obtain⟨ua,ul,uc,rfl⟩:=hu
 obtain⟨w1,hw1⟩:∃ w1,w1=w.alloc (.cells #[.int .i64 0,.int .i64 g,.int .i64 i,.int .i64 n,.int .u64 y,.slice ua ul uc] 84):=⟨_,rfl⟩
 have k1:Kp Ab w w1:=by rw[hw1];exact (Kr _ w).alloc _
 have b1:w1.heap[w.heap.size]?=some (.cells #[.int .i64 0,.int .i64 g,.int .i64 i,.int .i64 n,.int .u64 y,.slice ua ul uc] 84 (0,0)):=by rw[hw1];exact wN w _
 have hl1:=lZ b1
 obtain⟨c0,c1,c2,c3,c4,c5⟩:=cells6 b1
 have B1:=hb.Ad k1
 have HB0:=sE hb
 have HB1:=sE B1
 have hbo:¬ P.own w.heap.size:=λ h=>by have:=hb.lt _ (Sp.Cb h);omega
 have hbrb:¬ w.heap.size=rb:=λ h=>by have:=hb.dc.lt;omega
 have HNO:=sE hbo
 have HNR:=sE hbrb
 clear b1 k1 B1 hb hbo hbrb
 unfold DK
 go_enter func40,ntmps40
 go_wp2_with fail
 rw[<- hw1]
 clear hw1
 try go_wp2_with fail
 refine wp_region_held_drew (S:=(λ w'=>w'.cell? ⟨w.heap.size,1,none⟩=some (.int .i64 g)/\w'.cell? ⟨w.heap.size,2,none⟩=some (.int .i64 i)/\w'.cell? ⟨w.heap.size,3,none⟩=some (.int .i64 n))) (by kernel_rfl) ?_ (λ qZ=>?_)
 .exact ⟨Ac ((Kr _ _).drew) c1,Ac ((Kr _ _).drew) c2,Ac ((Kr _ _).drew) c3⟩
 refine Ao 0 ?_;refine Ao 1 ?_;refine Ao 2 ?_;refine Ao 3 ?_;refine Ao 4 ?_;refine Ao 5 ?_;refine Ao 6 ?_;refine Ao 8 ?_;refine Ao 9 ?_;refine Ao 10 ?_;refine Ao 11 ?_;refine Ao 12 ?_;refine Ao 13 ?_;refine Ao 14 ?_
 try simp only[Aw]
 refine AV [7] ?_
 refine Ag rfl (λ K hK=>?_)
 go_simp
 refine(Put_anyW g i n P cs _ W (HB1.out.sp.Ad ((Kr _ _).drew))).mono ?_
 rintro e w2 ⟨rfl,k2,hp⟩
 have HP:=sE hp
 have K2:Sl (Kp P.own w1 w2):=⟨((Kr P.own w1).drew).trans k2 (λ _ _ h=>h)⟩
 have d1:=K2.out.cell c1 HNO.out
 have d2:=K2.out.cell c2 HNO.out
 have d3:=K2.out.cell c3 HNO.out
 clear hp k2
 refine hK _ _ ?_ (λ qZ=>?_)
 .exact ⟨d1,d2,d3⟩
 clear hK K
 try simp only[Aw]
 refine AV [15] ?_
 refine Ag rfl (λ K hK=>?_)
 go_simp
 have hrn:¬ P.own rb:=λ h=>HB1.out.rbn (Sp.Cb h)
 have hqn:¬ P.own q:=λ h=>HB1.out.qn (Sp.Cb h)
 have hkb2:=HB1.out.kb.trans K2.out (λ k hk hp=>HB1.out.own k hp)
 refine(DPut_any P W cs rb q lv g i n _ (HB1.out.dc.keep K2.out hrn hqn) HB1.out.cells (HB1.out.ty.keepBase hkb2) HB1.out.few HB1.out.ms).mono ?_
 rintro e w3 ⟨rfl,k3,hp⟩
 have HP3:=sE hp
 have K3:=sE k3
 have e1:=k3.cell d1 HNR.out
 have e2:=k3.cell d2 HNR.out
 have e3:=k3.cell d3 HNR.out
 clear hp k3 hkb2 hrn hqn
 refine hK _ _ ?_ (λ qZ=>?_)
 .exact ⟨e1,e2,e3⟩
 clear hK K
 try simp only[Aw]
 refine Ao 16 ?_;refine Ao 17 ?_
 try simp only[Aw]
 refine wpAnyH_done (by kernel_rfl) ?_ _
 go_wp2
 refine bodyPost_ret (v:=.bool true) (by simp[results,results40,go_sem]) rfl ?_
 rcases HP.out with ⟨h0,hs⟩|⟨h0,pre,c,post,j,a,l,S,hcs,ht,hg,hi,hn,hS,hc1,hc2,hS0,hs⟩
 .rcases HP3.out with ⟨h1,hd⟩|⟨h1,-⟩
  .exact ⟨W,cs,q,rfl,HB1.out.step K2.out hs HB1.out.gap K3.out hd (.inl rfl),.inl ⟨h0,rfl,rfl⟩⟩
  .exact absurd h1 h0
 .rcases HP3.out with ⟨h1,-⟩|⟨h1,x,j',a',l',S',hx,hg',hi',hn',hS',hhit,q',hq',hd⟩
  .exact absurd h0 h1
  .obtain rfl:j=j':=by omega
   obtain rfl:a=a':=by omega
   obtain rfl:l=l':=by omega
   obtain rfl:S=S':=by omega
   obtain⟨y1,y2,y3,y4⟩:=hhit
   have hcx:c=x:=cell_only HB1.out.cells.tl (c:=c) (d:=x) (by rw[hcs];simp) hx (j:=j) hc1 (by omega) y2 y3
   subst hcx
   exact⟨_,_,q',rfl,HB1.out.step K2.out hs (put_gaps (hcs▸HB1.out.gap)) K3.out hd (.inr hq'),.inr ⟨h0,pre,c,post,j,a,l,S,hcs,ht,hg,hi,hn,hS,hc1,hc2,hS0,rfl,rfl⟩⟩

theorem Does_put(w0 w:World)(P:Sp)(rb q:Nat)(lv:Value)(W:Nat->Nat)(cs:List Cel)(g i n y:Int)(u:Value)(hb:Both w0 w P rb q lv W cs)(hu:∃ a l c,u=.slice a l c):
  Calls prog 40 #[.pointer (some ⟨P.s,0,none⟩),.pointer (some ⟨rb,0,none⟩),DK 0 g i n y u] w (En w0 P rb lv w):=
 (Does_putR w0 w P rb q lv W cs g i n y u hb hu).mono λ_ _ h=>h.weak

set_option maxRecDepth 20000 in
theorem Does_drop(w0 w:World)(P:Sp)(rb q:Nat)(lv:Value)(W:Nat->Nat)(cs:List Cel)(g i n y:Int)(u:Value)(hb:Both w0 w P rb q lv W cs)(hu:∃ a l c,u=.slice a l c):
  Calls prog 40 #[.pointer (some ⟨P.s,0,none⟩),.pointer (some ⟨rb,0,none⟩),DK 1 g i n y u] w (En w0 P rb lv w):=by
 obtain⟨ua,ul,uc,rfl⟩:=hu
 obtain⟨w1,hw1⟩:∃ w1,w1=w.alloc (.cells #[.int .i64 1,.int .i64 g,.int .i64 i,.int .i64 n,.int .u64 y,.slice ua ul uc] 84):=⟨_,rfl⟩
 have k1:Kp Ab w w1:=by rw[hw1];exact (Kr _ w).alloc _
 have b1:w1.heap[w.heap.size]?=some (.cells #[.int .i64 1,.int .i64 g,.int .i64 i,.int .i64 n,.int .u64 y,.slice ua ul uc] 84 (0,0)):=by rw[hw1];exact wN w _
 have hl1:=lZ b1
 obtain⟨c0,c1,c2,c3,c4,c5⟩:=cells6 b1
 have B1:=hb.Ad k1
 have HB0:=sE hb
 have HB1:=sE B1
 have hbo:¬ P.own w.heap.size:=λ h=>by have:=hb.lt _ (Sp.Cb h);omega
 have hbrb:¬ w.heap.size=rb:=λ h=>by have:=hb.dc.lt;omega
 have HNO:=sE hbo
 have HNR:=sE hbrb
 clear b1 k1 B1 hb hbo hbrb
 unfold DK
 go_enter func40,ntmps40
 go_wp2_with fail
 rw[<- hw1]
 clear hw1
 try go_wp2_with fail
 refine wp_region_held_drew (S:=(λ w'=>w'.cell? ⟨w.heap.size,1,none⟩=some (.int .i64 g))) (by kernel_rfl) ?_ (λ qZ=>?_)
 .exact Ac ((Kr _ _).drew) c1
 refine Ao 0 ?_;refine Ao 1 ?_;refine Ao 2 ?_;refine Ao 4 ?_;refine Ao 5 ?_;refine Ao 6 ?_
 try simp only[Aw]
 refine AV [3] ?_
 refine Ag rfl (λ K hK=>?_)
 go_simp
 refine(Drop_anyW g P cs _ W (HB1.out.sp.Ad ((Kr _ _).drew))).mono ?_
 rintro e w2 hp
 obtain⟨r,rfl,k2⟩:∃ r:Int,e=.returned (.int .i64 r)/\Kp P.own w1.drew w2:=by
  rcases hp with ⟨rfl,_,k⟩|⟨rfl,k,_⟩
  .exact ⟨_,rfl,k.Al _⟩
  .exact ⟨_,rfl,k⟩
 have HP:=sE hp
 have K2:Sl (Kp P.own w1 w2):=⟨((Kr P.own w1).drew).trans k2 (λ _ _ h=>h)⟩
 have d1:=K2.out.cell c1 HNO.out
 clear hp k2
 refine hK _ _ ?_ (λ qZ=>?_)
 .exact d1
 clear hK K
 try simp only[Aw]
 refine AV [7] ?_
 refine Ag rfl (λ K hK=>?_)
 go_simp
 have hrn:¬ P.own rb:=λ h=>HB1.out.rbn (Sp.Cb h)
 have hqn:¬ P.own q:=λ h=>HB1.out.qn (Sp.Cb h)
 have hkb2:=HB1.out.kb.trans K2.out (λ k hk hp=>HB1.out.own k hp)
 refine(DDrop_any P W cs rb q lv g _ (HB1.out.dc.keep K2.out hrn hqn) HB1.out.cells (HB1.out.ty.keepBase hkb2) HB1.out.few' HB1.out.ms).mono ?_
 rintro e w3 hp
 obtain⟨r',rfl,k3⟩:∃ r:Int,e=.returned (.int .i64 r)/\Kp (λ k=>k=rb) w2 w3:=by
  rcases hp with ⟨rfl,_,_,k⟩|⟨rfl,k,_⟩
  .exact ⟨_,rfl,k.Al _⟩
  .exact ⟨_,rfl,k⟩
 have HP3:=sE hp
 have K3:=sE k3
 have e1:=k3.cell d1 HNR.out
 clear hp k3 hkb2 hrn hqn
 refine hK _ _ ?_ (λ qZ=>?_)
 .exact e1
 clear hK K
 try simp only[Aw]
 obtain⟨hrr,HF⟩:r=r'/\Sl (∃ W' cs' q',Both w0 w3 P rb q' lv W' cs'):=by
  rcases HP.out with ⟨h0,hno,k0⟩|⟨h0,k0,j,p1,g1,c,g2,p2,x,z,hg,hdo,hs⟩
  .rcases HP3.out with ⟨h1,hno1,hd,k4⟩|⟨h1,k4,j,p1,g1,c,g2,p2,x,z,hg,hdo,q',hq',hd⟩
   .injection h0 with h0;injection h0 with h0;injection h1 with h1;injection h1 with h1
    exact⟨by omega,⟨W,cs,q,HB1.out.step K2.out (HB1.out.sp.Ad ((Kr Ab w1).drew.then' k0)) HB1.out.gap K3.out hd (.inl rfl)⟩⟩
   .have:=start_of_drop hdo
    rw[hno j hg] at this
    cases this
  .rcases HP3.out with ⟨h1,hno1,hd,k4⟩|⟨h1,k4,j',p1',g1',c',g2',p2',x',z',hg',hdo',q',hq',hd⟩
   .have:=start_of_drop hdo
    rw[hno1 j hg] at this
    cases this
   .injection h0 with h0;injection h0 with h0;injection h1 with h1;injection h1 with h1
    obtain rfl:j=j':=by omega
    obtain⟨rfl,rfl,rfl,rfl⟩:=hdo.uniq HB1.out.cells.tl hdo'
    exact⟨by omega,⟨_,_,q',HB1.out.step K2.out hs (drop_gaps HB1.out.gap hdo) K3.out hd hq'⟩⟩
 subst hrr
 refine Ao 8 ?_;refine Ao 9 ?_
 try simp only[Aw]
 refine wpAnyH_done (by kernel_rfl) ?_ _
 go_wp2
 refine bodyPost_ret (v:=.bool true) (by simp[results,results40,go_sem]) rfl ?_
 obtain⟨W',cs',q',h⟩:=HF.out
 exact⟨W',cs',q',rfl,h⟩

theorem Bw.keepN1{w w':World}{v:Value}{len:Nat}{x:Nat->Nat->Int}(h:Bw 1 w v len x)(k:Kp Ab w w'):Bw 1 w' v len x:=h.keep k (λ _ _ h=>h)

theorem ints_block{w:World}{v:Value}{len:Nat}{x:Nat->Nat->Int}(h:Bw 1 w v len x)(h0:0<len){b:Nat}(hb:v.ownBlock=some b):b<w.heap.size:=by
 obtain⟨a,cap,rfl,hx⟩:=ints_at h
 obtain⟨g,o,rfl,hg,-⟩:=hx 0 h0
 have:g=b:=by injection hb
 omega

theorem settle_gaps{os:List Cel}{H:Nat}(hr:BH 0 os H):BM (Bd 0 os H):=λ c hc ht=>by
 rcases settleL_mem hr hc with m|⟨g,m,h0,h1,rfl⟩
 .exact absurd (hr.mem m).2.1 ht
 .exact ⟨rfl,rfl,rfl⟩

theorem slot_in{P:Sp}{W:Nat->Nat}{cs:List Cel}{c:Cel}{k wds:Int}{m j:Nat}(h:CellsAt P W cs)(hc:c∈cs)(ht:c.tag=1)(hty:typeOf P.ts (c.ty:Nat)=some ⟨k,wds,m⟩)(hj:(j:Int)<AL k wds (c.ln:Nat)):
  2*c.g<2*c.g+1+j/\2*c.g+1+j<2*c.fin/\2*c.g+1+j<P.n:=by
 obtain⟨e1,e2⟩:=(h.ok c hc).2 ht
 have hm:=h.tl.mem hc
 unfold Bj at e2
 rw[hty] at e2
 simp only[Fj] at e2
 unfold Cel.fin
 omega

theorem kind_of{P:Sp}{W:Nat->Nat}{cs:List Cel}{c:Cel}{k wds:Int}{m:Nat}(h:CellsAt P W cs)(hc:c∈cs)(ht:c.tag=1)(hty:typeOf P.ts (c.ty:Nat)=some ⟨k,wds,m⟩):AP k wds m (c.ln:Nat)=0:=by
 obtain⟨e1,e2⟩:=(h.ok c hc).2 ht
 unfold AQ at e1
 rw[hty] at e1
 exact e1

theorem Both.lay{w0 w w1 w2:World}{P:Sp}{rb q q' z Y:Nat}{lv:Value}{W:Nat->Nat}{cs:List Cel}{c:Cel}(h:Both w0 w P rb q lv W cs)(k1:Kp (λ i=>i=P.a\/i=P.q) w w1)(A:ArenaAt w1 P.a P.q (Ca W z Y) P.n)(hc:c∈cs)(h1:2*c.g<z)(h2:z<2*c.fin)
  (k2:Kp (λ k=>k=rb) w1 w2) (hd:DocAt w2 rb q' P.n (Ca W z Y) lv) (hq:q'=q\/w1.heap.size<=q'):Both w0 w2 P rb q' lv (Ca W z Y) cs:=by
 obtain⟨f,hs,hcs,hst⟩:=h.sp
 exact h.step (k1.mono (λ i _ hi=>by rcases hi with e|e;exact .inl e;exact .inr (.inl e))) ⟨f,hs.words k1 A,hcs.store hc h1 h2 Y,hst⟩ h.gap k2 hd hq

set_option maxRecDepth 20000 in
theorem Does_settle(w0 w:World)(P:Sp)(rb q:Nat)(lv:Value)(W:Nat->Nat)(cs:List Cel)(g i n y:Int)(u:Value)(hb:Both w0 w P rb q lv W cs)(hu:∃ a l c,u=.slice a l c)(m:Nat)(x:Nat->Nat->Int)(hI:Bw 1 w0 u m x)(hm:m<=300):
  Calls prog 40 #[.pointer (some ⟨P.s,0,none⟩),.pointer (some ⟨rb,0,none⟩),DK 3 g i n y u] w (En w0 P rb lv w):=by
 have HIB:=sE hI
 have hub:0<m->u.ownBlock≠some rb:=λ h e=>by have:=ints_block hI h e;have:=hb.rb0;omega
 have hIw:Bw 1 w u m x:=hI.keepB hb.kb (λ b h e=>by have:=ints_block hI h e;omega)
 have hIk:=hIw.keepN1 (w':=w.alloc (.cells #[.int .i64 3,.int .i64 g,.int .i64 i,.int .i64 n,.int .u64 y,u] 84)) ((Kr _ _).alloc _)
 obtain⟨ua,ul,uc,rfl⟩:=hu
 obtain⟨w1,hw1⟩:∃ w1,w1=w.alloc (.cells #[.int .i64 3,.int .i64 g,.int .i64 i,.int .i64 n,.int .u64 y,.slice ua ul uc] 84):=⟨_,rfl⟩
 have k1:Kp Ab w w1:=by rw[hw1];exact (Kr _ w).alloc _
 have b1:w1.heap[w.heap.size]?=some (.cells #[.int .i64 3,.int .i64 g,.int .i64 i,.int .i64 n,.int .u64 y,.slice ua ul uc] 84 (0,0)):=by rw[hw1];exact wN w _
 have hl1:=lZ b1
 obtain⟨c0,c1,c2,c3,c4,c5⟩:=cells6 b1
 have B1:=hb.Ad k1
 rw[<- hw1] at hIk
 have HI:=sE hIk
 have HUB:=sE hub
 clear hI hIw hIk hub
 have HB0:=sE hb
 have HB1:=sE B1
 have hbo:¬ P.own w.heap.size:=λ h=>by have:=hb.lt _ (Sp.Cb h);omega
 have hbrb:¬ w.heap.size=rb:=λ h=>by have:=hb.dc.lt;omega
 have HNO:=sE hbo
 have HNR:=sE hbrb
 clear b1 k1 B1 hb hbo hbrb
 unfold DK
 go_enter func40,ntmps40
 go_wp2_with fail
 rw[<- hw1]
 clear hw1
 try go_wp2_with fail
 refine wp_region_held_drew (S:=(λ w'=>w'.cell? ⟨w.heap.size,5,none⟩=some (.slice ua ul uc))) (by kernel_rfl) ?_ (λ qZ=>?_)
 .exact Ac ((Kr _ _).drew) c5
 refine Ao 0 ?_;refine Ao 1 ?_;refine Ao 2 ?_;refine Ao 5 ?_;refine Ao 6 ?_;refine Ao 7 ?_
 try simp only[Aw]
 refine AV [3] ?_
 refine Ag rfl (λ K hK=>?_)
 obtain⟨i0,hi0,hz0,hz1,hz2⟩:=info_parts Dj
 refine step_append_ints rfl _ _ 82 rfl 3 i0 A8 hi0 hz0 hz1 hz2 rfl _ m x rfl (HI.out.keepN1 ((Kr _ _).drew)) (by omega) ?_
 intro v' w2 hown hgr
 clear hi0 hz0 hz1 hz2
 have kA:Kp Ab w1 w2:=((Kr Ab w1).drew).grown hgr (λ k e _=>by cases e)
 have hbd:∀ i,i<m->-9223372036854775808<=x i 0/\x i 0<=9223372036854775807:=λ i hi=>by
  obtain⟨a,cap,_,hx⟩:=ints_at HI.out
  obtain⟨_,_,_,_,_,h1,h2⟩:=hx i hi
  exact⟨h1,h2⟩
 have HI2:Sl (Bw 1 w2 v' m x):=⟨Bw.BK hown hbd⟩
 have HOW:Sl (∀ b,v'.ownBlock=some b->w1.heap.size<=b):=⟨λ b e=>(Af hown e).1⟩
 have KA:=sE kA
 have d5:=kA.cell c5 (λ h=>h)
 clear hown hgr hbd kA
 refine hK _ _ ?_ (λ qZ=>?_)
 .exact d5
 clear hK K
 try simp only[Aw]
 refine AV [4] ?_
 refine Ag rfl (λ K hK=>?_)
 go_simp
 refine(SSettle_any P W cs v' m x _ (HB1.out.sp.Ad KA.out) HI2.out (by omega) (λ _ b e h=>by have:=HOW.out b e;have:=HB1.out.lt b (Sp.Cb h);omega)).mono ?_
 rintro e w3 hp
 obtain⟨r,rfl,k3⟩:∃ r:Int,e=.returned (.int .i64 r)/\Kp P.own w2 w3:=by
  rcases hp with ⟨_,rfl,_,k⟩|⟨_,_,rfl,k,_⟩
  .exact ⟨_,rfl,k.Al _⟩
  .exact ⟨_,rfl,k⟩
 have HP:=sE hp
 have K3:Sl (Kp P.own w1 w3):=⟨(KA.out.Al _).trans k3 (λ _ _ h=>h)⟩
 have e5:=K3.out.cell c5 HNO.out
 clear hp k3
 refine hK _ _ ?_ (λ qZ=>?_)
 .exact e5
 clear hK K
 try simp only[Aw]
 refine AV [8] ?_
 refine Ag rfl (λ K hK=>?_)
 go_simp
 have hrn:¬ P.own rb:=λ h=>HB1.out.rbn (Sp.Cb h)
 have hqn:¬ P.own q:=λ h=>HB1.out.qn (Sp.Cb h)
 have hkb2:=HB1.out.kb.trans K3.out (λ k hk hp=>HB1.out.own k hp)
 have hI3:=HIB.out.keepB hkb2 (λ b h e=>by have:=ints_block HIB.out h e;omega)
 refine(DSettle_any P W rb q lv _ m x _ (HB1.out.dc.keep K3.out hrn hqn) (HB1.out.ty.keepBase hkb2) HB1.out.few' HB1.out.ms hI3 (by omega) HUB.out).mono ?_
 rintro e w4 hp
 obtain⟨r',rfl,k4⟩:∃ r:Int,e=.returned (.int .i64 r)/\Kp (λ k=>k=rb) w3 w4:=by
  rcases hp with ⟨_,rfl,_,k⟩|⟨_,_,rfl,k,_⟩
  .exact ⟨_,rfl,k.Al _⟩
  .exact ⟨_,rfl,k⟩
 have HP4:=sE hp
 have K4:=sE k4
 have f5:=k4.cell e5 HNR.out
 clear hp k4 hkb2 hrn hqn hI3
 refine hK _ _ ?_ (λ qZ=>?_)
 .exact f5
 clear hK K
 try simp only[Aw]
 obtain⟨hrr,HF⟩:r=r'/\Sl (∃ W' cs' q',Both w0 w4 P rb q' lv W' cs'):=by
  rcases HP.out with ⟨s0,h0,hs,k0⟩|⟨os,s0,h0,k0,hs⟩
  .rcases HP4.out with ⟨s1,h1,hd,k9⟩|⟨os',s1,h1,k9,q',hq',hd⟩
   .injection h0 with h0;injection h0 with h0;injection h1 with h1;injection h1 with h1
    exact⟨by omega,⟨W,cs,q,HB1.out.step K3.out hs HB1.out.gap K4.out hd (.inl rfl)⟩⟩
   .rw [s0] at s1;cases s1
  .rcases HP4.out with ⟨s1,h1,hd,k9⟩|⟨os',s1,h1,k9,q',hq',hd⟩
   .rw [s0] at s1;cases s1
   .rw [s0] at s1
    injection s1 with s1
    subst s1
    injection h0 with h0;injection h0 with h0;injection h1 with h1;injection h1 with h1
    exact⟨by omega,⟨_,_,q',HB1.out.step K3.out hs (settle_gaps (Dc HB1.out.dc.row.fits s0 (Nat.zero_le _)).1) K4.out hd hq'⟩⟩
 subst hrr
 refine Ao 9 ?_;refine Ao 10 ?_
 try simp only[Aw]
 refine wpAnyH_done (by kernel_rfl) ?_ _
 go_wp2
 refine bodyPost_ret (v:=.bool true) (by simp[results,results40,go_sem]) rfl ?_
 obtain⟨W',cs',q',h⟩:=HF.out
 exact⟨W',cs',q',rfl,h⟩

set_option maxRecDepth 20000 in
theorem Does_else(w0 w:World)(P:Sp)(rb q:Nat)(lv:Value)(W:Nat->Nat)(cs:List Cel)(d g i n y:Int)(u:Value)(hb:Both w0 w P rb q lv W cs)(h0:¬ d=0)(h1:¬ d=1)(h2:¬ d=2)(h3:¬ d=3)(h5:¬ d=5)(hu:∃ a l c,u=.slice a l c):
  Calls prog 40 #[.pointer (some ⟨P.s,0,none⟩),.pointer (some ⟨rb,0,none⟩),DK d g i n y u] w (En w0 P rb lv w):=by
 obtain⟨ua,ul,uc,rfl⟩:=hu
 have p0:(d==0)=false:=by simpa using h0
 have p1:(d==1)=false:=by simpa using h1
 have p2:(d==2)=false:=by simpa using h2
 have p3:(d==3)=false:=by simpa using h3
 have p5:(d==5)=false:=by simpa using h5
 have HB0:=sE hb
 clear hb h0 h1 h2 h3 h5
 unfold DK
 go_enter func40,ntmps40
 go_wp2
 exact bodyPost_ret (v:=.bool true) (by simp[results,results40,go_sem]) rfl ⟨W,cs,q,rfl,HB0.out.Ad ((Kr _ _).alloc _)⟩

set_option maxRecDepth 20000 in
theorem Does_slot(w0 w:World)(P:Sp)(rb q:Nat)(lv:Value)(W:Nat->Nat)(cs:List Cel)(g i n y:Int)(u:Value)(hb:Both w0 w P rb q lv W cs)(hu:∃ a l c,u=.slice a l c)(hy:0<=y/\y<=18446744073709551615):
  Calls prog 40 #[.pointer (some ⟨P.s,0,none⟩),.pointer (some ⟨rb,0,none⟩),DK 2 g i n y u] w (En w0 P rb lv w):=by
 obtain⟨ua,ul,uc,rfl⟩:=hu
 obtain⟨w1,hw1⟩:∃ w1,w1=w.alloc (.cells #[.int .i64 2,.int .i64 g,.int .i64 i,.int .i64 n,.int .u64 y,.slice ua ul uc] 84):=⟨_,rfl⟩
 have k1:Kp Ab w w1:=by rw[hw1];exact (Kr _ w).alloc _
 have b1:w1.heap[w.heap.size]?=some (.cells #[.int .i64 2,.int .i64 g,.int .i64 i,.int .i64 n,.int .u64 y,.slice ua ul uc] 84 (0,0)):=by rw[hw1];exact wN w _
 have hl1:=lZ b1
 obtain⟨c0,c1,c2,c3,c4,c5⟩:=cells6 b1
 have B1:=hb.Ad k1
 have HB0:=sE hb
 have HB1:=sE B1
 have hbo:¬ P.own w.heap.size:=λ h=>by have:=hb.lt _ (Sp.Cb h);omega
 have hbrb:¬ w.heap.size=rb:=λ h=>by have:=hb.dc.lt;omega
 have HNO:=sE hbo
 have HNR:=sE hbrb
 clear b1 k1 B1 hb hbo hbrb
 unfold DK
 obtain⟨Y,rfl⟩:=Int.eq_ofNat_of_zero_le hy.1
 have hY:Y<18446744073709551616:=by omega
 have HYb:=sE hY
 clear hY hy
 have HSl:=sE (DSl_any P W cs rb q lv g w1 HB1.out.dc HB1.out.cells HB1.out.tyAt HB1.out.few' HB1.out.ms)
 go_enter func40,ntmps40
 go_wp2_with fail
 rw[<- hw1]
 clear hw1
 try go_wp2_with fail
 refine HSl.out.mono ?_
 rintro e w2 ⟨r,rfl,k2,hcase⟩
 have K2:=sE k2
 have d1:=k2.cell c1 (λ h=>h)
 have d3:=k2.cell c3 (λ h=>h)
 have d4:=k2.cell c4 (λ h=>h)
 have hl2:w.heap.size<w2.heap.size:=Nat.lt_of_lt_of_le hl1 k2.size
 clear c0 c1 c2 c3 c4 c5 k2
 by_cases hn0:n<0
 .have p1:decide (n<0)=true:=dT hn0
  clear hcase
  go_wp2
  exact bodyPost_ret (v:=.bool true) (by simp[results,results40,go_sem]) rfl ⟨W,cs,q,rfl,HB1.out.Ad K2.out⟩
 .have p1:decide (n<0)=false:=dF hn0
  by_cases hnr:r<=n
  .have p2:decide (r<=n)=true:=dT hnr
   clear hcase
   go_wp2
   exact bodyPost_ret (v:=.bool true) (by simp[results,results40,go_sem]) rfl ⟨W,cs,q,rfl,HB1.out.Ad K2.out⟩
  .have p2:decide (r<=n)=false:=dF hnr
   rcases hcase with ⟨c,k,wds,m,hc,ht,hg,hty,hr⟩|⟨-,hr⟩
   .obtain ⟨j,rfl⟩:=Int.eq_ofNat_of_zero_le (show 0<=n by omega)
    obtain rfl:g=(c.g:Nat):=hg.symm
    have hjs:(j:Int)<AL k wds (c.ln:Nat):=by rw[<- hr];omega
    obtain⟨z1,z2,z3⟩:=slot_in HB1.out.cells hc ht hty hjs
    have hE:=kind_of HB1.out.cells hc ht hty
    have B2:=HB1.out.Ad K2.out
    obtain⟨f,hS2⟩:=B2.at_
    have HS2:=sE hS2
    have HB2:=sE B2
    have HC:=sE hc
    have HTg:=sE ht
    have HTy:=sE hty
    have HJ:=sE hjs
    have HE:=sE hE
    have HZ:Sl (2*c.g<2*c.g+1+j/\2*c.g+1+j<2*c.fin/\2*c.g+1+j<P.n):=⟨⟨z1,z2,z3⟩⟩
    have hsm:=HB1.out.small
    have hz9:2*c.g+1+j<P.n:=z3
    clear hc ht hg hty hr hjs hE hS2 B2 z1 z2 z3 hn0 hnr
    go_wp2_with fail
    refine wp_region_held_drew (S:=(λ w'=>w'.cell? ⟨w.heap.size,1,none⟩=some (.int .i64 (c.g:Nat)))) (by kernel_rfl) ?_ (λ qZ=>?_)
    .exact Ac ((Kr _ _).drew) d1
    refine Ao 0 ?_;refine Ao 2 ?_;refine Ao 4 ?_;refine Ao 5 ?_
    try simp only[Aw]
    refine AV [1] ?_
    refine Ag rfl (λ K hK=>?_)
    go_simp
    refine(BV P W f _ (HS2.out.Ad ((Kr _ _).drew))).mono ?_
    rintro e w3 ⟨rfl,rfl⟩
    refine hK _ _ ?_ (λ qZ=>?_)
    .exact Ac ((Kr _ _).drew) d1
    clear hK K
    try simp only[Aw]
    refine AV [3] ?_
    refine Ag rfl (λ K hK=>?_)
    go_simp
    refine(Ea P W f _ (HS2.out.Ad ((Kr _ _).drew))).mono ?_
    rintro e w3 ⟨rfl,rfl⟩
    refine hK _ _ ?_ (λ qZ=>?_)
    .exact Ac ((Kr _ _).drew) d1
    clear hK K
    try simp only[Aw]
    refine AV [6] ?_
    refine Ag rfl (λ K hK=>?_)
    go_simp
    refine(SOf_any (c.g:Nat) P.a P.q P.n P.t P.tq W P.ts _ (HS2.out.Ad ((Kr _ _).drew)).fl (HS2.out.Ad ((Kr _ _).drew)).ar (HS2.out.Ad ((Kr _ _).drew)).tb).mono ?_
    intro e w3 hp
    unfold Dh at hp
    rw[HB2.out.cells.obj HC.out HTg.out] at hp
    obtain⟨vb,k',wds',m',h1,rfl,hv,hvb,k3⟩:=hp
    rw[HTy.out] at h1
    injection h1 with h1
    injection h1 with h1 h1' h1''
    subst h1 h1' h1''
    have K3:Sl (Kp Ab w2 w3):=⟨((Kr _ _).drew).then' k3⟩
    have HV:=sE hv
    have e1:=K3.out.cell d1 (λ h=>h)
    clear hv k3
    refine hK _ _ ?_ (λ qZ=>?_)
    .exact e1
    clear hK K
    try simp only[Aw]
    refine Ao 7 ?_;refine Ao 8 ?_;refine Ao 9 ?_;refine Ao 10 ?_;refine Ao 11 ?_
    try simp only[Aw]
    refine wpAnyH_done (by kernel_rfl) ?_ _
    have e3:=K3.out.cell d3 (λ h=>h)
    have e4:=K3.out.cell d4 (λ h=>h)
    have hs3:=K3.out.size
    have hl3:w.heap.size<w3.heap.size:=by omega
    have HB3:=sE (HB2.out.Ad K3.out)
    have HA3:=sE ((HS2.out.Ad K3.out).ar)
    have HSt:=sE (VStore_yes j Y vb P.a P.q P.n W c k wds m w3 HA3.out HV.out HE.out HJ.out HYb.out HZ.out.2.2)
    clear d1 d3 d4
    go_wp2_with fail
    refine HSt.out.mono ?_
    rintro e w4 ⟨rfl,k4,A4⟩
    have K4:=sE k4
    have HA4:=sE A4
    have hno:∀ b,¬ P.own b->¬ (b=P.a\/b=P.q):=λ b h e=>h (by rcases e with e|e;exact .inl e;exact .inr (.inl e))
    have f1:=k4.cell e1 (hno _ HNO.out)
    have f3:=k4.cell e3 (hno _ HNO.out)
    have f4:=k4.cell e4 (hno _ HNO.out)
    have hrn:¬ P.own rb:=λ h=>HB1.out.rbn (Sp.Cb h)
    have hqn:¬ P.own q:=λ h=>HB1.out.qn (Sp.Cb h)
    have D4:=HB3.out.dc.keep k4 (hno _ hrn) (hno _ hqn)
    have HD4:=sE D4
    obtain⟨cap,g0,g1⟩:=D4.head
    have hlr:=D4.lt
    have hs4:=k4.size
    have hl4:w.heap.size<w4.heap.size:=by omega
    clear e1 e3 e4 k4 A4 D4 hrn hqn hno
    go_wp2_with (at_builtin;go_loud (refine copy_words rfl (.tmp 86) rfl q P.n cap W rfl HD4.out.row (by have:=HZ.out.2.2;omega) ?_;intro w5 q1 cap1 hr5 hq5 k5;have HR5:=sE hr5;have K5:=sE k5;have h1:=k5.cell f1 (λ h=>h);have h3:=k5.cell f3 (λ h=>h);have h4:=k5.cell f4 (λ h=>h);have a0:=hr5.at_ HZ.out.2.2;have a1:=hr5.free (2*c.g+1+j);have D5:=HD4.out.Ad k5;obtain ⟨cap2,b0,b1⟩:=D5.head;have b2:=D5.free 0;have hs5:=k5.size;have hl5:w.heap.size<w5.heap.size:=(by omega);have hlt5:=D5.lt;have hq5':=hr5.lt;have hne:¬ q1=rb:=(by omega);have hne':¬ rb=q1:=(by omega);have hne2:¬ q1=w.heap.size:=(by omega);have hne3:¬ w.heap.size=q1:=(by omega);have HD5:=sE D5;have hqq:¬ q=q1:=(by have:=HD4.out.row.lt;omega);clear f1 f3 f4 g0 g1 hr5 k5 D5))
    try go_wp2
    have k6:Kp (λ k=>k=q1) w5 (w5.setCell ⟨q1,2*c.g+1+j,none⟩ (.int .u64 (Y:Nat))):=(Kr (λ k=>k=q1) w5).setCell (λ _=>rfl) _
    have D6:=HD5.out.keep k6 hne' hqq
    obtain⟨cap3,hr6⟩:=D6.hr
    have k7:Kp (λ k=>k=rb) (w5.setCell ⟨q1,2*c.g+1+j,none⟩ (.int .u64 (Y:Nat))) ((w5.setCell ⟨q1,2*c.g+1+j,none⟩ (.int .u64 (Y:Nat))).setCell ⟨rb,0,none⟩ (.slice (some ⟨q1,0,none⟩) P.n cap1)):=(Kr (λ k=>k=rb) _).setCell (λ _=>rfl) _
    have D7:DocAt ((w5.setCell ⟨q1,2*c.g+1+j,none⟩ (.int .u64 (Y:Nat))).setCell ⟨rb,0,none⟩ (.slice (some ⟨q1,0,none⟩) P.n cap1)) rb q1 P.n (Ca W (2*c.g+1+j) Y) lv:=
     ⟨⟨cap1,by rw[bZ hr6 _];rfl⟩,(HR5.out.store HZ.out.2.2 Y HYb.out).keep k7 hne⟩
    have kF:Kp (λ k=>k=rb) w4 ((w5.setCell ⟨q1,2*c.g+1+j,none⟩ (.int .u64 (Y:Nat))).setCell ⟨rb,0,none⟩ (.slice (some ⟨q1,0,none⟩) P.n cap1)):=
     ((K5.out.Al _).trans k6 (λ b hb h=>by have h':b=q1:=h;omega)).trans k7 (λ _ _ h=>h)
    exact bodyPost_ret (v:=.bool true) (by simp[results,results40,go_sem]) rfl ⟨_,cs,q1,rfl,HB3.out.lay K4.out HA4.out HC.out HZ.out.1 HZ.out.2.1 kF D7 (.inr hq5)⟩
   .omega

end

section
open Go.RowKit

theorem and_low(g:Int):∃ r:Nat,r<=65535/\bits .and .i64 g 65535=(r:Int):=by
 refine⟨(BitVec.ofInt 64 g &&& BitVec.ofInt 64 65535).toNat,?_,?_⟩
 .rw [BitVec.toNat_and]
  exact Nat.and_le_right
 .show IntKind.i64.wrap ((BitVec.ofInt 64 g &&& BitVec.ofInt 64 65535).toNat:Int)=_
  have h:(BitVec.ofInt 64 g &&& BitVec.ofInt 64 65535).toNat<=65535:=by
   rw[BitVec.toNat_and]
   exact Nat.and_le_right
  rw[IntKind.wrap_i64]
  omega

theorem DAddr_at(g:Nat)(w:World)(hg:g<=65536):Calls prog 134 #[.int .i64 (g:Nat)] w λ e w'=>e=.returned (.int .u64 ((1048576+2*g:Nat):Int))/\w'=w:=by
 have h0:¬ (g:Int)<0:=by omega
 go_enter func134,ntmps134
 go_wp2
 go_ret
 exact⟨rfl,rfl⟩

theorem obsG_take{cs:List Cel}{j:Nat}{x:Cel}(h:cs[j]?=some x):Bu (cs.take (j+1))=Bu (cs.take j)++(if x.tag=1 then [x.g] else []):=by
 unfold Bu Ap
 rw[List.take_add_one,h,List.filter_append,List.map_append]
 congr 1
 by_cases ht:x.tag=1 <;> simp[ht]

theorem obsG_at{cs:List Cel}{i g:Nat}(h:(Bu cs)[i]?=some g):∃ c∈cs,c.tag=1/\c.g=g:=by
 have:=List.mem_of_getElem? h
 unfold Bu at this
 obtain⟨c,hc,rfl⟩:=List.mem_map.1 this
 have:=Dy.1 hc
 exact⟨c,this.1,this.2,rfl⟩

def JoinW(i:Int)(g2:Nat)(w:World)(v:Value)(wx:World):Prop:=∃ Y:Nat,v=.int .u64 (Y:Nat)/\Y<18446744073709551616/\(0<=i->Y=1048576+2*g2)/\Kp Ab w wx

def JoinStep(P:Sp)(W:Nat->Nat)(cs:List Cel)(g i n:Int)(W':Nat->Nat)(cs':List Cel):Prop:=
 cs'=cs/\((Bu cs=[]/\W'=W)\/
  ∃ (G1 G2 G3:Nat) (c:Cel) (g2:Nat) (k wds:Int) (m:Nat),(bits .and .i64 g 65535=(G1:Int)/\bits .and .i64 i 65535=(G2:Int)/\bits .and .i64 n 65535=(G3:Int))/\(c∈cs/\c.tag=1)/\(Bu cs)[G1%(Bu cs).length]?=some c.g/\(Bu cs)[G2%(Bu cs).length]?=some g2/\typeOf P.ts (c.ty:Nat)=some ⟨k,wds,m⟩/\
   ((Bc k wds m (c.ln:Nat)=[]/\W'=W)\/∃ s Y:Nat,(Bc k wds m (c.ln:Nat))[G3%(Bc k wds m (c.ln:Nat)).length]?=some s/\(0<=i->Y=1048576+2*g2)/\W'=Ca W (2*c.g+1+s) Y))

set_option maxRecDepth 40000 in
theorem joins_any(w0 w:World)(P:Sp)(rb q:Nat)(lv:Value)(W:Nat->Nat)(cs:List Cel)(d g i n y:Int)(u:Value)(hb:Both w0 w P rb q lv W cs)(hu:∃ a l c,u=.slice a l c):
  Calls prog 89 #[.pointer (some ⟨P.s,0,none⟩),.pointer (some ⟨rb,0,none⟩),DK d g i n y u] w (EI w0 P rb lv (λ W' cs'=>JoinStep P W cs g i n W' cs') w):=by
 obtain⟨ua,ul,uc,rfl⟩:=hu
 obtain⟨w1,hw1⟩:∃ w1,w1=w.alloc (.cells #[.int .i64 d,.int .i64 g,.int .i64 i,.int .i64 n,.int .u64 y,.slice ua ul uc] 84):=⟨_,rfl⟩
 have k1:Kp Ab w w1:=by rw[hw1];exact (Kr _ w).alloc _
 have b1:w1.heap[w.heap.size]?=some (.cells #[.int .i64 d,.int .i64 g,.int .i64 i,.int .i64 n,.int .u64 y,.slice ua ul uc] 84 (0,0)):=by rw[hw1];exact wN w _
 have hl1:=lZ b1
 obtain⟨s0,s1,s2,s3,s4,s5⟩:=cells6 b1
 have B1:=hb.Ad k1
 have HB1:=sE B1
 have hbo:¬ P.own w.heap.size:=λ h=>by have:=hb.lt _ (Sp.Cb h);omega
 have hbrb:¬ w.heap.size=rb:=λ h=>by have:=hb.dc.lt;omega
 have HNO:=sE hbo
 have HNR:=sE hbrb
 have hlen:cs.length<=32768:=by
  have:=Ci hb.cells.tl
  have:=hb.small
  omega
 have hsm:=hb.small
 have HAll:=sE (DAll_at P W cs rb q lv w1 B1.dc B1.cells B1.tyAt B1.few' B1.ms)
 obtain⟨G1,hG1,a1⟩:=and_low g
 obtain⟨G2,hG2,a2⟩:=and_low i
 obtain⟨G3,hG3,a3⟩:=and_low n
 have A1:=sE a1
 have A2:=sE a2
 have A3:=sE a3
 clear b1 k1 B1 hb hbo hbrb s0 s4 s5 a1 a2 a3
 unfold DK
 go_enter func89,ntmps89
 go_wp2_with fail
 rw[<- hw1]
 clear hw1
 refine HAll.out.mono ?_
 rintro e wl ⟨v,rfl,hown,kl⟩
 have HKL:=sE kl
 have HRow:=sE (RowC.BK hown)
 obtain⟨va,vc,hva,-⟩:=HRow.out
 subst hva
 obtain⟨len,hlen'⟩:∃ len,cs.length=len:=⟨_,rfl⟩
 rw[hlen'] at HRow hlen ⊢
 have HLen:=sE hlen'
 clear hown kl HAll hlen'
 go_wp2_with fail
 go_loopw [7,9] (λ v z wr=>∃ j:Nat,j<=len/\z=.int .i64 (j:Nat)/\Sl (wr.ownsRow wl.heap.size 3 1 v (Bu (cs.take j)).length (AC (Bu (cs.take j))))/\Kp Ab wl wr) (λ _ z _=>len-(intOf z).toNat)
 case atStart=>exact ⟨0,Nat.zero_le _,rfl,⟨World.ownsRow_nil _ _ _ _⟩,Kr _ _⟩
 case round=>
  obtain⟨j,hj,rfl,HO,hkk⟩:=hrel
  have HKK:=sE hkk
  by_cases hjl:j<len
  .have hjl':(j:Int)<(len:Int):=by omega
   obtain⟨x,hx⟩:∃ x,cs[j]?=some x:=⟨cs[j]'(by rw[HLen.out];exact hjl),by simp⟩
   obtain⟨a',cap',ha',hrow⟩:=HRow.out.Ad hkk
   obtain⟨b,hab,hb0,r0,r1,r2,r3,r4⟩:=hrow j x hx
   have hva:va=some ⟨b,0,none⟩:=by injection ha' with h1;rw [h1];exact hab
   subst hva
   have HTk:=sE (obsG_take hx)
   have hol:(Bu (cs.take j)).length<=32768:=by
    have:=obsG_len (cs.take j)
    rw[List.length_take] at this
    omega
   have hws:=hkk.size
   clear hx hrow ha' hab hkk r2 r3 r4
   by_cases q2:x.tag=1
   .have p2:((x.tag:Int)==1)=true:=by simp[q2]
    have HE:Sl (Bu (cs.take (j+1))=Bu (cs.take j)++[x.g]):=⟨by rw[HTk.out,if_pos q2]⟩
    clear q2
    go_wp2_with (at_builtin;obtain ⟨i0,hi,hz0,hz1,hz2⟩:=info_parts Dj;go_loud (refine wpList_append_lies _ rfl (.tmp 36) (.tmp 42) 82 rfl wl.heap.size 3 i0 _ 1 8 A8 hi hz0 hz1 hz2 rfl (by omega) u7 (Bu (cs.take j)).length (AC (Bu (cs.take j))) rfl (HO.out.alloc _) ⟨wr.heap.size,0,none⟩ 1 1 [.int .i64 (x.g:Nat)] rfl rfl (World.news_of_block (wN wr _)) (by intro u hu;simp at hu;subst hu;rfl) (by omega) (by unfold maxLen;omega) (by omega) (by simp;omega) (wr.heap.size+1) (by simp) ?_);intro g cap w5 hown5 hgrow hat hlt;clear hi hz0 hz1 hz2)
    have k5:Kp Ab wl w5:=(HKK.out.alloc _).grown hgrow (λ k e hl=>absurd (HO.out.lt k e).1 (by omega))
    have h5:w5.ownsRow wl.heap.size 3 1 (.slice (some ⟨g,0,none⟩) ((Bu (cs.take j)).length+1) cap) (Bu (cs.take (j+1))).length (AC (Bu (cs.take (j+1)))):=by
     rw[HE.out,AC,List.map_append,List.length_append];exact hown5
    have H5:=sE h5
    clear hown5 hgrow hat h5 hws
    go_wp2
    exact⟨⟨j+1,by omega,by go_num,H5,k5⟩,by simp only[intOf];omega⟩
   .have p2:((x.tag:Int)==1)=false:=by simp;omega
    have HE:Sl (Bu (cs.take (j+1))=Bu (cs.take j)):=⟨by rw[HTk.out,if_neg q2,List.append_nil]⟩
    clear q2
    go_wp2
    exact⟨⟨j+1,by omega,by go_num,⟨by rw[HE.out];exact HO.out⟩,HKK.out⟩,by simp only[intOf];omega⟩
  .have hjl':¬ (j:Int)<(len:Int):=by omega
   obtain rfl:j=len:=by omega
   have ht:cs.take j=cs:=List.take_of_length_le (by rw[HLen.out];omega)
   have HO2:Sl (wr.ownsRow wl.heap.size 3 1 u7 (Bu cs).length (AC (Bu cs))):=⟨by have:=HO.out;rwa [ht] at this⟩
   have hol:(Bu cs).length<=32768:=by have:=obsG_len cs;have:=HLen.out;omega
   have HK1:Sl (Kp Ab w1 wr):=⟨HKL.out.then' hkk⟩
   replace s1:=HK1.out.cell s1 (λ h=>h)
   replace s2:=HK1.out.cell s2 (λ h=>h)
   replace s3:=HK1.out.cell s3 (λ h=>h)
   have hlr:w.heap.size<wr.heap.size:=Nat.lt_of_lt_of_le hl1 HK1.out.size
   clear ht hkk hj
   rcases Nat.eq_zero_or_pos (Bu cs).length with h0|h0
   .have hn0:u7=.slice none 0 0\/∃ a c,u7=.slice a 0 c:=by
     rcases HO2.out.2 with ⟨h,_⟩|⟨gb,cap5,cur,hu,_⟩
     .exact .inl h
     .exact .inr ⟨_,_,by rw[hu,h0]⟩
    have hn1:∃ a c,u7=.slice a 0 c:=by
     rcases hn0 with h|h
     .exact ⟨none,0,h⟩
     .exact h
    obtain⟨a,c,rfl⟩:=hn1
    have HE0:Sl (Bu cs=[]):=⟨List.length_eq_zero_iff.1 h0⟩
    clear hn0 h0
    go_wp2
    exact bodyPost_ret (v:=.bool true) (by simp[results,results89,go_sem]) rfl ⟨W,cs,q,rfl,HB1.out.Ad HK1.out,rfl,.inl ⟨HE0.out,rfl⟩⟩
   .obtain ⟨N,hN⟩:∃ N,(Bu cs).length=N:=⟨_,rfl⟩
    have HN:=sE hN
    rw[hN] at HO2 hol h0
    have hi1:G1%N<N:=Nat.mod_lt _ h0
    have hm1:(G1:Int)%(N:Int)=((G1%N:Nat):Int):=by push_cast;rfl
    obtain⟨i1,he1⟩:∃ i1,G1%N=i1:=⟨_,rfl⟩
    rw[he1] at hi1 hm1
    obtain⟨g1,hg1⟩:∃ g1,(Bu cs)[i1]?=some g1:=⟨(Bu cs)[i1]'(by omega),by simp⟩
    obtain⟨gb,cap5,rfl,hgb1,hgb2,cz1⟩:=owns_num HO2.out hN.symm hg1
    have hi2:G2%N<N:=Nat.mod_lt _ h0
    have hm2:(G2:Int)%(N:Int)=((G2%N:Nat):Int):=by push_cast;rfl
    obtain⟨i2,he2⟩:∃ i2,G2%N=i2:=⟨_,rfl⟩
    rw[he2] at hi2 hm2
    obtain⟨g2,hg2⟩:∃ g2,(Bu cs)[i2]?=some g2:=⟨(Bu cs)[i2]'(by omega),by simp⟩
    obtain⟨gb',cap6,hu6,-,-,cz2⟩:=owns_num HO2.out hN.symm hg2
    injection hu6 with hu6 hu6' hu6''
    injection hu6 with hu6
    injection hu6 with hu6
    subst hu6 hu6''
    have hN0:((N:Int)==0)=false:=by simp;omega
    obtain⟨c,hc,ht,rfl⟩:=obsG_at hg1
    obtain⟨c2,hc2,ht2,rfl⟩:=obsG_at hg2
    have hcg2:c2.g<=65536:=by have:=(HB1.out.cells.tl.mem hc2).2.1;omega
    have HC:=sE hc
    have HTg:=sE ht
    have HG1:Sl ((Bu cs)[G1%(Bu cs).length]?=some c.g):=⟨by rw[HN.out,he1];exact hg1⟩
    have HG2:Sl ((Bu cs)[G2%(Bu cs).length]?=some c2.g):=⟨by rw[HN.out,he2];exact hg2⟩
    have hb1:=A1.out
    have hb2:=A2.out
    clear hg1 hg2 hc hc2 ht ht2 he1 he2 hN
    obtain⟨wo,rfl⟩:∃ wo:World,wo=wr:=⟨_,rfl⟩
    go_upto_if 58 with fail
    go_cut [11] from 53 to 68 (λ v wx=>JoinW i c2.g wo v wx)
    case first=>
     by_cases hi0:0<=i
     .have HAd:=sE (DAddr_at c2.g wo hcg2)
      go_wp2_with fail
      refine HAd.out.mono ?_
      rintro e w3 ⟨rfl,rfl⟩
      go_wp2_with fail
      go_meet
      exact⟨1048576+2*c2.g,rfl,by omega,λ _=>rfl,Kr _ _⟩
     .go_wp2_with fail
      go_meet
      exact⟨0,rfl,by omega,λ h=>by omega,Kr _ _⟩
    case rest=>
     obtain⟨Y,rfl,hY,hYi,kx⟩:=hcut
     have HYi:=sE hYi
     clear hYi
     have HYb:=sE hY
     obtain⟨wg,rfl⟩:∃ wg:World,wg=wc:=⟨_,rfl⟩
     have HKg:Sl (Kp Ab w1 wg):=⟨HK1.out.then' kx⟩
     have Bg:=HB1.out.Ad HKg.out
     have HBg:=sE Bg
     obtain⟨k,wds,m,hty⟩:=EZ ((Bg.cells.ok c HC.out).2 HTg.out).1
     have HTy:=sE hty
     have hE:=kind_of Bg.cells HC.out HTg.out hty
     have HE:=sE hE
     have hMm:m<18446744073709551616:=Bg.ms _ (typeOf_mem hty)
     obtain⟨f,hSg⟩:=Bg.at_
     have HSg:=sE hSg
     obtain⟨capr,c0,c1⟩:=Bg.dc.head
     have hrb:rb<wg.heap.size:=Bg.dc.lt
     have HOf:Sl (∀ W',Kp Ab wg W'->Calls prog 132 #[.slice (some ⟨q,0,none⟩) P.n capr,lv,.int .i64 (c.g:Nat)] W' λ e w'=>e=.returned (.tuple #[.agg #[.int .u8 1,.int .i64 (c.ty:Nat),.int .i64 (c.ln:Nat),.int .i64 (c.sz:Nat)],.agg #[.int .u8 k,.int .i64 wds,.int .u64 (m:Nat)],.int .i64 0])/\Kp Ab W' w'):=⟨λ W' kk=>by
      have B':=HBg.out.Ad kk
      refine(DOf_any (c.g:Nat) q P.n capr W lv P.ts W' B'.dc.row B'.tyAt B'.few' B'.ms).mono λ e w' hp=>?_
      unfold Ej at hp
      rw[HBg.out.cells.obj HC.out HTg.out] at hp
      obtain⟨k',wds',m',h1,h2,h3⟩:=hp
      rw[HTy.out] at h1
      injection h1 with h1
      injection h1 with h1 h1' h1''
      subst h1 h1' h1''
      exact⟨h2,h3⟩⟩
     have HRefs:Sl (∀ W',Calls prog 135 #[.agg #[.int .u8 k,.int .i64 wds,.int .u64 (m:Nat)],.int .i64 (c.ln:Nat)] W' (DRefsPost k wds m (c.ln:Nat) W')):=⟨λ W'=>DRefs_any k wds m (c.ln:Nat) W' hMm hE⟩
     replace s1:=kx.cell s1 (λ h=>h)
     replace s2:=kx.cell s2 (λ h=>h)
     replace s3:=kx.cell s3 (λ h=>h)
     have hlg:w.heap.size<wg.heap.size:=Nat.lt_of_lt_of_le hlr kx.size
     clear hY kx Bg hty hE hMm hSg cz1 cz2 hm1 hm2 hb1 hb2 hi1 hi2
     go_upto_region 14 with fail
     go_cut [12,13,14] from 69 to 82 (λ a b e wx=>SlotsCut c k wds m wg a b e wx)
     case first=>
      have kk0:Kp Ab wg wg.drew:=(Kr _ _).drew
      refine wp_region_held_drew (S:=(λ w'=>w'.cell? ⟨rb,0,none⟩=some (.slice (some ⟨q,0,none⟩) P.n capr)/\w'.cell? ⟨rb,1,none⟩=some lv)) (by kernel_rfl) ?_ (λ qZ=>?_)
      .exact ⟨Kz c0,Kz c1⟩
      refine Ao 0 ?_;refine Ao 1 ?_;refine Ao 2 ?_;refine Ao 3 ?_;refine Ao 4 ?_;refine Ao 5 ?_;refine Ao 6 ?_;refine Ao 7 ?_;refine Ao 8 ?_
      try simp only[Aw]
      refine AV [9,14,15] ?_
      refine Ai rfl (λ K hK=>?_) ?_
      .go_simp
       with_reducible refine(HOf.out _ kk0).mono ?_
       rintro e wc1 ⟨rfl,kc2⟩
       have kk3:=kk0.then' kc2
       refine hK _ _ ?_ (λ qZ=>?_)
       .exact ⟨Kz c0,Kz c1⟩
       clear hK K
       try simp only[Aw]
       refine Ao 10 ?_;refine Ao 11 ?_;refine Ao 12 ?_;refine Ao 13 ?_
       try simp only[Aw]
       refine AV [14,15] ?_
       refine Ai rfl (λ K hK=>?_) ?_
       .go_simp
        obtain⟨wa4,hw5⟩:∃ wa4,wa4=World.alloc wc1 (.cells #[.int .u8 0,.int .i64 0,.int .i64 0,.int .i64 0] 52):=⟨_,rfl⟩
        rw[<- hw5]
        have ka6:Kp Ab wc1 wa4:=by rw[hw5];exact ((Kr _ _).alloc _)
        have hge8:wg.heap.size<=wc1.heap.size:=kk3.size
        have hb7:wa4.heap[wc1.heap.size]?=some (.cells #[.int .u8 0,.int .i64 0,.int .i64 0,.int .i64 0] 52 (0,0)):=by rw[hw5];exact wN _ _
        have hl9:wc1.heap.size<wa4.heap.size:=lZ hb7
        have kk10:=kk3.then' ka6
        have HW11:=sE hw5
        clear hw5
        refine hK _ _ ?_ (λ qZ=>?_)
        .exact ⟨Kz c0,Kz c1⟩
        clear hK K
        try simp only[Aw]
        refine AV [15] ?_
        refine Ai rfl (λ K hK=>?_) ?_
        .go_simp
         obtain⟨wa12,hw13⟩:∃ wa12,wa12=World.alloc wa4 (.cells #[.int .u8 0,.int .i64 0,.int .u64 0] 86):=⟨_,rfl⟩
         rw[<- hw13]
         have ka14:Kp Ab wa4 wa12:=by rw[hw13];exact ((Kr _ _).alloc _)
         have hge16:wg.heap.size<=wa4.heap.size:=kk10.size
         have hb15:wa12.heap[wa4.heap.size]?=some (.cells #[.int .u8 0,.int .i64 0,.int .u64 0] 86 (0,0)):=by rw[hw13];exact wN _ _
         have hl17:wa4.heap.size<wa12.heap.size:=lZ hb15
         have hx18:=lZ hb7
         have hb19:=ka14.at_ hb7 (λ h=>h)
         have kk20:=kk10.then' ka14
         have HW21:=sE hw13
         clear hw13
         refine hK _ _ ?_ (λ qZ=>?_)
         .exact ⟨Kz c0,Kz c1⟩
         clear hK K
         try simp only[Aw]
         have hsz:=lZ hb19
         obtain⟨d0,d1,d2,d3⟩:=Ay hb19
         have f0:=Ae hb19;have f00:=f0 0;have f01:=f0 1;have f02:=f0 2;have f03:=f0 3
         refine AV [16] ?_
         refine Ag rfl (λ K hK=>?_)
         clear f0
         go_simp
         obtain⟨wz22,hz23⟩:∃ wz22,wz22=World.setCell (World.setCell (World.setCell (World.setCell (wa12) ⟨wc1.heap.size,0,none⟩ (.int .u8 1)) ⟨wc1.heap.size,1,none⟩ (.int .i64 (c.ty:Nat))) ⟨wc1.heap.size,2,none⟩ (.int .i64 (c.ln:Nat))) ⟨wc1.heap.size,3,none⟩ (.int .i64 (c.sz:Nat)):=⟨_,rfl⟩
         rw[<- hz23]
         obtain⟨tz24,kz25⟩:=Bn hb19 _ _ _ _ wz22 hz23
         have hb26:=kz25.at_ hb15 (λ h=>by have h':wa4.heap.size=wc1.heap.size:=h;omega)
         have kk27:Kp Ab wg wz22:=kk20.trans kz25 (λ i hi h=>by have h':i=wc1.heap.size:=h;(try have hq:=Nat.le_of_eq h');(first|omega|(simp only[World.size_drew] at *;omega)))
         clear hz23 d0 f00 d1 f01 d2 f02 d3 f03
         refine hK _ _ ?_ (λ qZ=>?_)
         .exact ⟨Kz c0,Kz c1⟩
         clear hK K
         try simp only[Aw]
         have hsz:=lZ hb26
         obtain⟨d0,d1,d2⟩:=cells3 hb26
         have f0:=Ae hb26;have f00:=f0 0;have f01:=f0 1;have f02:=f0 2
         refine AV [17] ?_
         refine Ag rfl (λ K hK=>?_)
         clear f0
         go_simp
         obtain⟨wz28,hz29⟩:∃ wz28,wz28=World.setCell (World.setCell (World.setCell (wz22) ⟨wa4.heap.size,0,none⟩ (.int .u8 k)) ⟨wa4.heap.size,1,none⟩ (.int .i64 wds)) ⟨wa4.heap.size,2,none⟩ (.int .u64 (m:Nat)):=⟨_,rfl⟩
         rw[<- hz29]
         obtain⟨tz30,kz31⟩:=Bz hb26 _ _ _ wz28 hz29
         have hb32:=kz31.at_ tz24 (λ h=>by have h':wc1.heap.size=wa4.heap.size:=h;omega)
         have kk33:Kp Ab wg wz28:=kk27.trans kz31 (λ i hi h=>by have h':i=wa4.heap.size:=h;(try have hq:=Nat.le_of_eq h');(first|omega|(simp only[World.size_drew] at *;omega)))
         clear hz29 d0 f00 d1 f01 d2 f02
         refine hK _ _ ?_ (λ qZ=>?_)
         .exact ⟨Kz c0,Kz c1⟩
         clear hK K
         try simp only[Aw]
         refine Ao 18 ?_
         try simp only[Aw]
         refine wpAnyH_done (by kernel_rfl) ?_ _
         go_wp2_with fail
         go_meet
         exact⟨_,_,rfl,rfl,rfl,hb32,tz30,kk33⟩
        exact AllReadyH.nil
       refine Ai rfl (λ K hK=>?_) ?_
       .go_simp
        obtain⟨wa34,hw35⟩:∃ wa34,wa34=World.alloc wc1 (.cells #[.int .u8 0,.int .i64 0,.int .u64 0] 86):=⟨_,rfl⟩
        rw[<- hw35]
        have ka36:Kp Ab wc1 wa34:=by rw[hw35];exact ((Kr _ _).alloc _)
        have hge38:wg.heap.size<=wc1.heap.size:=kk3.size
        have hb37:wa34.heap[wc1.heap.size]?=some (.cells #[.int .u8 0,.int .i64 0,.int .u64 0] 86 (0,0)):=by rw[hw35];exact wN _ _
        have hl39:wc1.heap.size<wa34.heap.size:=lZ hb37
        have kk40:=kk3.then' ka36
        have HW41:=sE hw35
        clear hw35
        refine hK _ _ ?_ (λ qZ=>?_)
        .exact ⟨Kz c0,Kz c1⟩
        clear hK K
        try simp only[Aw]
        refine AV [14] ?_
        refine Ai rfl (λ K hK=>?_) ?_
        .go_simp
         obtain⟨wa42,hw43⟩:∃ wa42,wa42=World.alloc wa34 (.cells #[.int .u8 0,.int .i64 0,.int .i64 0,.int .i64 0] 52):=⟨_,rfl⟩
         rw[<- hw43]
         have ka44:Kp Ab wa34 wa42:=by rw[hw43];exact ((Kr _ _).alloc _)
         have hge46:wg.heap.size<=wa34.heap.size:=kk40.size
         have hb45:wa42.heap[wa34.heap.size]?=some (.cells #[.int .u8 0,.int .i64 0,.int .i64 0,.int .i64 0] 52 (0,0)):=by rw[hw43];exact wN _ _
         have hl47:wa34.heap.size<wa42.heap.size:=lZ hb45
         have hx48:=lZ hb37
         have hb49:=ka44.at_ hb37 (λ h=>h)
         have kk50:=kk40.then' ka44
         have HW51:=sE hw43
         clear hw43
         refine hK _ _ ?_ (λ qZ=>?_)
         .exact ⟨Kz c0,Kz c1⟩
         clear hK K
         try simp only[Aw]
         have hsz:=lZ hb45
         obtain⟨d0,d1,d2,d3⟩:=Ay hb45
         have f0:=Ae hb45;have f00:=f0 0;have f01:=f0 1;have f02:=f0 2;have f03:=f0 3
         refine AV [16] ?_
         refine Ag rfl (λ K hK=>?_)
         clear f0
         go_simp
         obtain⟨wz52,hz53⟩:∃ wz52,wz52=World.setCell (World.setCell (World.setCell (World.setCell (wa42) ⟨wa34.heap.size,0,none⟩ (.int .u8 1)) ⟨wa34.heap.size,1,none⟩ (.int .i64 (c.ty:Nat))) ⟨wa34.heap.size,2,none⟩ (.int .i64 (c.ln:Nat))) ⟨wa34.heap.size,3,none⟩ (.int .i64 (c.sz:Nat)):=⟨_,rfl⟩
         rw[<- hz53]
         obtain⟨tz54,kz55⟩:=Bn hb45 _ _ _ _ wz52 hz53
         have hb56:=kz55.at_ hb49 (λ h=>by have h':wc1.heap.size=wa34.heap.size:=h;omega)
         have kk57:Kp Ab wg wz52:=kk50.trans kz55 (λ i hi h=>by have h':i=wa34.heap.size:=h;(try have hq:=Nat.le_of_eq h');(first|omega|(simp only[World.size_drew] at *;omega)))
         clear hz53 d0 f00 d1 f01 d2 f02 d3 f03
         refine hK _ _ ?_ (λ qZ=>?_)
         .exact ⟨Kz c0,Kz c1⟩
         clear hK K
         try simp only[Aw]
         have hsz:=lZ hb56
         obtain⟨d0,d1,d2⟩:=cells3 hb56
         have f0:=Ae hb56;have f00:=f0 0;have f01:=f0 1;have f02:=f0 2
         refine AV [17] ?_
         refine Ag rfl (λ K hK=>?_)
         clear f0
         go_simp
         obtain⟨wz58,hz59⟩:∃ wz58,wz58=World.setCell (World.setCell (World.setCell (wz52) ⟨wc1.heap.size,0,none⟩ (.int .u8 k)) ⟨wc1.heap.size,1,none⟩ (.int .i64 wds)) ⟨wc1.heap.size,2,none⟩ (.int .u64 (m:Nat)):=⟨_,rfl⟩
         rw[<- hz59]
         obtain⟨tz60,kz61⟩:=Bz hb56 _ _ _ wz58 hz59
         have hb62:=kz61.at_ tz54 (λ h=>by have h':wa34.heap.size=wc1.heap.size:=h;omega)
         have kk63:Kp Ab wg wz58:=kk57.trans kz61 (λ i hi h=>by have h':i=wc1.heap.size:=h;(try have hq:=Nat.le_of_eq h');(first|omega|(simp only[World.size_drew] at *;omega)))
         clear hz59 d0 f00 d1 f01 d2 f02
         refine hK _ _ ?_ (λ qZ=>?_)
         .exact ⟨Kz c0,Kz c1⟩
         clear hK K
         try simp only[Aw]
         refine Ao 18 ?_
         try simp only[Aw]
         refine wpAnyH_done (by kernel_rfl) ?_ _
         go_wp2_with fail
         go_meet
         exact⟨_,_,rfl,rfl,rfl,hb62,tz60,kk63⟩
        exact AllReadyH.nil
       exact AllReadyH.nil
      refine Ai rfl (λ K hK=>?_) ?_
      .go_simp
       obtain⟨wa64,hw65⟩:∃ wa64,wa64=World.drew (World.alloc wg (.cells #[.int .u8 0,.int .i64 0,.int .i64 0,.int .i64 0] 52)):=⟨_,rfl⟩
       rw[<- hw65]
       have ka66:Kp Ab wg wa64:=by rw[hw65];exact ((Kr _ _).alloc _).drew
       have hge68:wg.heap.size<=wg.heap.size:=kk0.size
       have hb67:wa64.heap[wg.heap.size]?=some (.cells #[.int .u8 0,.int .i64 0,.int .i64 0,.int .i64 0] 52 (0,0)):=by rw[hw65];exact wN _ _
       have hl69:wg.heap.size<wa64.heap.size:=lZ hb67
       have kk70:=ka66
       have HW71:=sE hw65
       clear hw65
       refine hK _ _ ?_ (λ qZ=>?_)
       .exact ⟨Kz c0,Kz c1⟩
       clear hK K
       try simp only[Aw]
       refine AV [9,15] ?_
       refine Ai rfl (λ K hK=>?_) ?_
       .go_simp
        with_reducible refine(HOf.out _ kk70).mono ?_
        rintro e wc72 ⟨rfl,kc73⟩
        have hb74:=kc73.at_ hb67 (λ h=>h)
        have kk75:=kk70.then' kc73
        refine hK _ _ ?_ (λ qZ=>?_)
        .exact ⟨Kz c0,Kz c1⟩
        clear hK K
        try simp only[Aw]
        refine Ao 10 ?_;refine Ao 11 ?_;refine Ao 12 ?_;refine Ao 13 ?_
        try simp only[Aw]
        refine AV [15] ?_
        refine Ai rfl (λ K hK=>?_) ?_
        .go_simp
         obtain⟨wa76,hw77⟩:∃ wa76,wa76=World.alloc wc72 (.cells #[.int .u8 0,.int .i64 0,.int .u64 0] 86):=⟨_,rfl⟩
         rw[<- hw77]
         have ka78:Kp Ab wc72 wa76:=by rw[hw77];exact ((Kr _ _).alloc _)
         have hge80:wg.heap.size<=wc72.heap.size:=kk75.size
         have hb79:wa76.heap[wc72.heap.size]?=some (.cells #[.int .u8 0,.int .i64 0,.int .u64 0] 86 (0,0)):=by rw[hw77];exact wN _ _
         have hl81:wc72.heap.size<wa76.heap.size:=lZ hb79
         have hx82:=lZ hb74
         have hb83:=ka78.at_ hb74 (λ h=>h)
         have kk84:=kk75.then' ka78
         have HW85:=sE hw77
         clear hw77
         refine hK _ _ ?_ (λ qZ=>?_)
         .exact ⟨Kz c0,Kz c1⟩
         clear hK K
         try simp only[Aw]
         have hsz:=lZ hb83
         obtain⟨d0,d1,d2,d3⟩:=Ay hb83
         have f0:=Ae hb83;have f00:=f0 0;have f01:=f0 1;have f02:=f0 2;have f03:=f0 3
         refine AV [16] ?_
         refine Ag rfl (λ K hK=>?_)
         clear f0
         go_simp
         obtain⟨wz86,hz87⟩:∃ wz86,wz86=World.setCell (World.setCell (World.setCell (World.setCell (wa76) ⟨wg.heap.size,0,none⟩ (.int .u8 1)) ⟨wg.heap.size,1,none⟩ (.int .i64 (c.ty:Nat))) ⟨wg.heap.size,2,none⟩ (.int .i64 (c.ln:Nat))) ⟨wg.heap.size,3,none⟩ (.int .i64 (c.sz:Nat)):=⟨_,rfl⟩
         rw[<- hz87]
         obtain⟨tz88,kz89⟩:=Bn hb83 _ _ _ _ wz86 hz87
         have hb90:=kz89.at_ hb79 (λ h=>by have h':wc72.heap.size=wg.heap.size:=h;omega)
         have kk91:Kp Ab wg wz86:=kk84.trans kz89 (λ i hi h=>by have h':i=wg.heap.size:=h;(try have hq:=Nat.le_of_eq h');(first|omega|(simp only[World.size_drew] at *;omega)))
         clear hz87 d0 f00 d1 f01 d2 f02 d3 f03
         refine hK _ _ ?_ (λ qZ=>?_)
         .exact ⟨Kz c0,Kz c1⟩
         clear hK K
         try simp only[Aw]
         have hsz:=lZ hb90
         obtain⟨d0,d1,d2⟩:=cells3 hb90
         have f0:=Ae hb90;have f00:=f0 0;have f01:=f0 1;have f02:=f0 2
         refine AV [17] ?_
         refine Ag rfl (λ K hK=>?_)
         clear f0
         go_simp
         obtain⟨wz92,hz93⟩:∃ wz92,wz92=World.setCell (World.setCell (World.setCell (wz86) ⟨wc72.heap.size,0,none⟩ (.int .u8 k)) ⟨wc72.heap.size,1,none⟩ (.int .i64 wds)) ⟨wc72.heap.size,2,none⟩ (.int .u64 (m:Nat)):=⟨_,rfl⟩
         rw[<- hz93]
         obtain⟨tz94,kz95⟩:=Bz hb90 _ _ _ wz92 hz93
         have hb96:=kz95.at_ tz88 (λ h=>by have h':wg.heap.size=wc72.heap.size:=h;omega)
         have kk97:Kp Ab wg wz92:=kk91.trans kz95 (λ i hi h=>by have h':i=wc72.heap.size:=h;(try have hq:=Nat.le_of_eq h');(first|omega|(simp only[World.size_drew] at *;omega)))
         clear hz93 d0 f00 d1 f01 d2 f02
         refine hK _ _ ?_ (λ qZ=>?_)
         .exact ⟨Kz c0,Kz c1⟩
         clear hK K
         try simp only[Aw]
         refine Ao 18 ?_
         try simp only[Aw]
         refine wpAnyH_done (by kernel_rfl) ?_ _
         go_wp2_with fail
         go_meet
         exact⟨_,_,rfl,rfl,rfl,hb96,tz94,kk97⟩
        exact AllReadyH.nil
       refine Ai rfl (λ K hK=>?_) ?_
       .go_simp
        obtain⟨wa98,hw99⟩:∃ wa98,wa98=World.alloc wa64 (.cells #[.int .u8 0,.int .i64 0,.int .u64 0] 86):=⟨_,rfl⟩
        rw[<- hw99]
        have ka100:Kp Ab wa64 wa98:=by rw[hw99];exact ((Kr _ _).alloc _)
        have hge102:wg.heap.size<=wa64.heap.size:=kk70.size
        have hb101:wa98.heap[wa64.heap.size]?=some (.cells #[.int .u8 0,.int .i64 0,.int .u64 0] 86 (0,0)):=by rw[hw99];exact wN _ _
        have hl103:wa64.heap.size<wa98.heap.size:=lZ hb101
        have hx104:=lZ hb67
        have hb105:=ka100.at_ hb67 (λ h=>h)
        have kk106:=kk70.then' ka100
        have HW107:=sE hw99
        clear hw99
        refine hK _ _ ?_ (λ qZ=>?_)
        .exact ⟨Kz c0,Kz c1⟩
        clear hK K
        try simp only[Aw]
        refine AV [9] ?_
        refine Ai rfl (λ K hK=>?_) ?_
        .go_simp
         with_reducible refine(HOf.out _ kk106).mono ?_
         rintro e wc108 ⟨rfl,kc109⟩
         have hb110:=kc109.at_ hb105 (λ h=>h)
         have hb111:=kc109.at_ hb101 (λ h=>h)
         have kk112:=kk106.then' kc109
         refine hK _ _ ?_ (λ qZ=>?_)
         .exact ⟨Kz c0,Kz c1⟩
         clear hK K
         try simp only[Aw]
         refine Ao 10 ?_;refine Ao 11 ?_;refine Ao 12 ?_;refine Ao 13 ?_
         try simp only[Aw]
         have hsz:=lZ hb110
         obtain⟨d0,d1,d2,d3⟩:=Ay hb110
         have f0:=Ae hb110;have f00:=f0 0;have f01:=f0 1;have f02:=f0 2;have f03:=f0 3
         refine AV [16] ?_
         refine Ag rfl (λ K hK=>?_)
         clear f0
         go_simp
         obtain⟨wz113,hz114⟩:∃ wz113,wz113=World.setCell (World.setCell (World.setCell (World.setCell (wc108) ⟨wg.heap.size,0,none⟩ (.int .u8 1)) ⟨wg.heap.size,1,none⟩ (.int .i64 (c.ty:Nat))) ⟨wg.heap.size,2,none⟩ (.int .i64 (c.ln:Nat))) ⟨wg.heap.size,3,none⟩ (.int .i64 (c.sz:Nat)):=⟨_,rfl⟩
         rw[<- hz114]
         obtain⟨tz115,kz116⟩:=Bn hb110 _ _ _ _ wz113 hz114
         have hb117:=kz116.at_ hb111 (λ h=>by have h':wa64.heap.size=wg.heap.size:=h;omega)
         have kk118:Kp Ab wg wz113:=kk112.trans kz116 (λ i hi h=>by have h':i=wg.heap.size:=h;(try have hq:=Nat.le_of_eq h');(first|omega|(simp only[World.size_drew] at *;omega)))
         clear hz114 d0 f00 d1 f01 d2 f02 d3 f03
         refine hK _ _ ?_ (λ qZ=>?_)
         .exact ⟨Kz c0,Kz c1⟩
         clear hK K
         try simp only[Aw]
         have hsz:=lZ hb117
         obtain⟨d0,d1,d2⟩:=cells3 hb117
         have f0:=Ae hb117;have f00:=f0 0;have f01:=f0 1;have f02:=f0 2
         refine AV [17] ?_
         refine Ag rfl (λ K hK=>?_)
         clear f0
         go_simp
         obtain⟨wz119,hz120⟩:∃ wz119,wz119=World.setCell (World.setCell (World.setCell (wz113) ⟨wa64.heap.size,0,none⟩ (.int .u8 k)) ⟨wa64.heap.size,1,none⟩ (.int .i64 wds)) ⟨wa64.heap.size,2,none⟩ (.int .u64 (m:Nat)):=⟨_,rfl⟩
         rw[<- hz120]
         obtain⟨tz121,kz122⟩:=Bz hb117 _ _ _ wz119 hz120
         have hb123:=kz122.at_ tz115 (λ h=>by have h':wg.heap.size=wa64.heap.size:=h;omega)
         have kk124:Kp Ab wg wz119:=kk118.trans kz122 (λ i hi h=>by have h':i=wa64.heap.size:=h;(try have hq:=Nat.le_of_eq h');(first|omega|(simp only[World.size_drew] at *;omega)))
         clear hz120 d0 f00 d1 f01 d2 f02
         refine hK _ _ ?_ (λ qZ=>?_)
         .exact ⟨Kz c0,Kz c1⟩
         clear hK K
         try simp only[Aw]
         refine Ao 18 ?_
         try simp only[Aw]
         refine wpAnyH_done (by kernel_rfl) ?_ _
         go_wp2_with fail
         go_meet
         exact⟨_,_,rfl,rfl,rfl,hb123,tz121,kk124⟩
        exact AllReadyH.nil
       exact AllReadyH.nil
      refine Ai rfl (λ K hK=>?_) ?_
      .go_simp
       obtain⟨wa125,hw126⟩:∃ wa125,wa125=World.drew (World.alloc wg (.cells #[.int .u8 0,.int .i64 0,.int .u64 0] 86)):=⟨_,rfl⟩
       rw[<- hw126]
       have ka127:Kp Ab wg wa125:=by rw[hw126];exact ((Kr _ _).alloc _).drew
       have hge129:wg.heap.size<=wg.heap.size:=kk0.size
       have hb128:wa125.heap[wg.heap.size]?=some (.cells #[.int .u8 0,.int .i64 0,.int .u64 0] 86 (0,0)):=by rw[hw126];exact wN _ _
       have hl130:wg.heap.size<wa125.heap.size:=lZ hb128
       have kk131:=ka127
       have HW132:=sE hw126
       clear hw126
       refine hK _ _ ?_ (λ qZ=>?_)
       .exact ⟨Kz c0,Kz c1⟩
       clear hK K
       try simp only[Aw]
       refine AV [9,14] ?_
       refine Ai rfl (λ K hK=>?_) ?_
       .go_simp
        with_reducible refine(HOf.out _ kk131).mono ?_
        rintro e wc133 ⟨rfl,kc134⟩
        have hb135:=kc134.at_ hb128 (λ h=>h)
        have kk136:=kk131.then' kc134
        refine hK _ _ ?_ (λ qZ=>?_)
        .exact ⟨Kz c0,Kz c1⟩
        clear hK K
        try simp only[Aw]
        refine Ao 10 ?_;refine Ao 11 ?_;refine Ao 12 ?_;refine Ao 13 ?_
        try simp only[Aw]
        refine AV [14] ?_
        refine Ai rfl (λ K hK=>?_) ?_
        .go_simp
         obtain⟨wa137,hw138⟩:∃ wa137,wa137=World.alloc wc133 (.cells #[.int .u8 0,.int .i64 0,.int .i64 0,.int .i64 0] 52):=⟨_,rfl⟩
         rw[<- hw138]
         have ka139:Kp Ab wc133 wa137:=by rw[hw138];exact ((Kr _ _).alloc _)
         have hge141:wg.heap.size<=wc133.heap.size:=kk136.size
         have hb140:wa137.heap[wc133.heap.size]?=some (.cells #[.int .u8 0,.int .i64 0,.int .i64 0,.int .i64 0] 52 (0,0)):=by rw[hw138];exact wN _ _
         have hl142:wc133.heap.size<wa137.heap.size:=lZ hb140
         have hx143:=lZ hb135
         have hb144:=ka139.at_ hb135 (λ h=>h)
         have kk145:=kk136.then' ka139
         have HW146:=sE hw138
         clear hw138
         refine hK _ _ ?_ (λ qZ=>?_)
         .exact ⟨Kz c0,Kz c1⟩
         clear hK K
         try simp only[Aw]
         have hsz:=lZ hb140
         obtain⟨d0,d1,d2,d3⟩:=Ay hb140
         have f0:=Ae hb140;have f00:=f0 0;have f01:=f0 1;have f02:=f0 2;have f03:=f0 3
         refine AV [16] ?_
         refine Ag rfl (λ K hK=>?_)
         clear f0
         go_simp
         obtain⟨wz147,hz148⟩:∃ wz147,wz147=World.setCell (World.setCell (World.setCell (World.setCell (wa137) ⟨wc133.heap.size,0,none⟩ (.int .u8 1)) ⟨wc133.heap.size,1,none⟩ (.int .i64 (c.ty:Nat))) ⟨wc133.heap.size,2,none⟩ (.int .i64 (c.ln:Nat))) ⟨wc133.heap.size,3,none⟩ (.int .i64 (c.sz:Nat)):=⟨_,rfl⟩
         rw[<- hz148]
         obtain⟨tz149,kz150⟩:=Bn hb140 _ _ _ _ wz147 hz148
         have hb151:=kz150.at_ hb144 (λ h=>by have h':wg.heap.size=wc133.heap.size:=h;omega)
         have kk152:Kp Ab wg wz147:=kk145.trans kz150 (λ i hi h=>by have h':i=wc133.heap.size:=h;(try have hq:=Nat.le_of_eq h');(first|omega|(simp only[World.size_drew] at *;omega)))
         clear hz148 d0 f00 d1 f01 d2 f02 d3 f03
         refine hK _ _ ?_ (λ qZ=>?_)
         .exact ⟨Kz c0,Kz c1⟩
         clear hK K
         try simp only[Aw]
         have hsz:=lZ hb151
         obtain⟨d0,d1,d2⟩:=cells3 hb151
         have f0:=Ae hb151;have f00:=f0 0;have f01:=f0 1;have f02:=f0 2
         refine AV [17] ?_
         refine Ag rfl (λ K hK=>?_)
         clear f0
         go_simp
         obtain⟨wz153,hz154⟩:∃ wz153,wz153=World.setCell (World.setCell (World.setCell (wz147) ⟨wg.heap.size,0,none⟩ (.int .u8 k)) ⟨wg.heap.size,1,none⟩ (.int .i64 wds)) ⟨wg.heap.size,2,none⟩ (.int .u64 (m:Nat)):=⟨_,rfl⟩
         rw[<- hz154]
         obtain⟨tz155,kz156⟩:=Bz hb151 _ _ _ wz153 hz154
         have hb157:=kz156.at_ tz149 (λ h=>by have h':wc133.heap.size=wg.heap.size:=h;omega)
         have kk158:Kp Ab wg wz153:=kk152.trans kz156 (λ i hi h=>by have h':i=wg.heap.size:=h;(try have hq:=Nat.le_of_eq h');(first|omega|(simp only[World.size_drew] at *;omega)))
         clear hz154 d0 f00 d1 f01 d2 f02
         refine hK _ _ ?_ (λ qZ=>?_)
         .exact ⟨Kz c0,Kz c1⟩
         clear hK K
         try simp only[Aw]
         refine Ao 18 ?_
         try simp only[Aw]
         refine wpAnyH_done (by kernel_rfl) ?_ _
         go_wp2_with fail
         go_meet
         exact⟨_,_,rfl,rfl,rfl,hb157,tz155,kk158⟩
        exact AllReadyH.nil
       refine Ai rfl (λ K hK=>?_) ?_
       .go_simp
        obtain⟨wa159,hw160⟩:∃ wa159,wa159=World.alloc wa125 (.cells #[.int .u8 0,.int .i64 0,.int .i64 0,.int .i64 0] 52):=⟨_,rfl⟩
        rw[<- hw160]
        have ka161:Kp Ab wa125 wa159:=by rw[hw160];exact ((Kr _ _).alloc _)
        have hge163:wg.heap.size<=wa125.heap.size:=kk131.size
        have hb162:wa159.heap[wa125.heap.size]?=some (.cells #[.int .u8 0,.int .i64 0,.int .i64 0,.int .i64 0] 52 (0,0)):=by rw[hw160];exact wN _ _
        have hl164:wa125.heap.size<wa159.heap.size:=lZ hb162
        have hx165:=lZ hb128
        have hb166:=ka161.at_ hb128 (λ h=>h)
        have kk167:=kk131.then' ka161
        have HW168:=sE hw160
        clear hw160
        refine hK _ _ ?_ (λ qZ=>?_)
        .exact ⟨Kz c0,Kz c1⟩
        clear hK K
        try simp only[Aw]
        refine AV [9] ?_
        refine Ai rfl (λ K hK=>?_) ?_
        .go_simp
         with_reducible refine(HOf.out _ kk167).mono ?_
         rintro e wc169 ⟨rfl,kc170⟩
         have hb171:=kc170.at_ hb166 (λ h=>h)
         have hb172:=kc170.at_ hb162 (λ h=>h)
         have kk173:=kk167.then' kc170
         refine hK _ _ ?_ (λ qZ=>?_)
         .exact ⟨Kz c0,Kz c1⟩
         clear hK K
         try simp only[Aw]
         refine Ao 10 ?_;refine Ao 11 ?_;refine Ao 12 ?_;refine Ao 13 ?_
         try simp only[Aw]
         have hsz:=lZ hb172
         obtain⟨d0,d1,d2,d3⟩:=Ay hb172
         have f0:=Ae hb172;have f00:=f0 0;have f01:=f0 1;have f02:=f0 2;have f03:=f0 3
         refine AV [16] ?_
         refine Ag rfl (λ K hK=>?_)
         clear f0
         go_simp
         obtain⟨wz174,hz175⟩:∃ wz174,wz174=World.setCell (World.setCell (World.setCell (World.setCell (wc169) ⟨wa125.heap.size,0,none⟩ (.int .u8 1)) ⟨wa125.heap.size,1,none⟩ (.int .i64 (c.ty:Nat))) ⟨wa125.heap.size,2,none⟩ (.int .i64 (c.ln:Nat))) ⟨wa125.heap.size,3,none⟩ (.int .i64 (c.sz:Nat)):=⟨_,rfl⟩
         rw[<- hz175]
         obtain⟨tz176,kz177⟩:=Bn hb172 _ _ _ _ wz174 hz175
         have hb178:=kz177.at_ hb171 (λ h=>by have h':wg.heap.size=wa125.heap.size:=h;omega)
         have kk179:Kp Ab wg wz174:=kk173.trans kz177 (λ i hi h=>by have h':i=wa125.heap.size:=h;(try have hq:=Nat.le_of_eq h');(first|omega|(simp only[World.size_drew] at *;omega)))
         clear hz175 d0 f00 d1 f01 d2 f02 d3 f03
         refine hK _ _ ?_ (λ qZ=>?_)
         .exact ⟨Kz c0,Kz c1⟩
         clear hK K
         try simp only[Aw]
         have hsz:=lZ hb178
         obtain⟨d0,d1,d2⟩:=cells3 hb178
         have f0:=Ae hb178;have f00:=f0 0;have f01:=f0 1;have f02:=f0 2
         refine AV [17] ?_
         refine Ag rfl (λ K hK=>?_)
         clear f0
         go_simp
         obtain⟨wz180,hz181⟩:∃ wz180,wz180=World.setCell (World.setCell (World.setCell (wz174) ⟨wg.heap.size,0,none⟩ (.int .u8 k)) ⟨wg.heap.size,1,none⟩ (.int .i64 wds)) ⟨wg.heap.size,2,none⟩ (.int .u64 (m:Nat)):=⟨_,rfl⟩
         rw[<- hz181]
         obtain⟨tz182,kz183⟩:=Bz hb178 _ _ _ wz180 hz181
         have hb184:=kz183.at_ tz176 (λ h=>by have h':wa125.heap.size=wg.heap.size:=h;omega)
         have kk185:Kp Ab wg wz180:=kk179.trans kz183 (λ i hi h=>by have h':i=wg.heap.size:=h;(try have hq:=Nat.le_of_eq h');(first|omega|(simp only[World.size_drew] at *;omega)))
         clear hz181 d0 f00 d1 f01 d2 f02
         refine hK _ _ ?_ (λ qZ=>?_)
         .exact ⟨Kz c0,Kz c1⟩
         clear hK K
         try simp only[Aw]
         refine Ao 18 ?_
         try simp only[Aw]
         refine wpAnyH_done (by kernel_rfl) ?_ _
         go_wp2_with fail
         go_meet
         exact⟨_,_,rfl,rfl,rfl,hb184,tz182,kk185⟩
        exact AllReadyH.nil
       exact AllReadyH.nil
      exact AllReadyH.nil
     case rest=>
      obtain⟨b1,b2,rfl,rfl,rfl,hb1,hb2,kx⟩:=hcut
      obtain⟨d0,d1,d2,d3⟩:=Ay hb1
      obtain⟨t0,t1,t2⟩:=cells3 hb2
      have hl1b:=lZ hb1
      have hl2b:=lZ hb2
      have HKx:Sl (Kp Ab wg wc):=⟨kx⟩
      replace s3:=kx.cell s3 (λ h=>h)
      have hlx:w.heap.size<wc.heap.size:=Nat.lt_of_lt_of_le hlg kx.size
      clear hb1 hb2 c0 c1 s1 s2 kx d0 d1 d3
      go_wp2_with fail
      refine(HRefs.out _).mono ?_
      rintro e w5 ⟨vr,rfl,hor,k5⟩
      have HOR:=sE hor
      have HK5:Sl (Kp Ab wg w5):=⟨HKx.out.then' k5⟩
      replace s3:=k5.cell s3 (λ h=>h)
      have hl5:w.heap.size<w5.heap.size:=Nat.lt_of_lt_of_le hlx k5.size
      obtain⟨M,hM⟩:∃ M,(Bc k wds m (c.ln:Nat)).length=M:=⟨_,rfl⟩
      rw[hM] at HOR
      clear hor k5 d2 t0 t1 t2
      rcases Nat.eq_zero_or_pos M with h0M|h0M
      .subst h0M
       have hn1:∃ a cc,vr=.slice a 0 cc:=by
        rcases HOR.out.2 with ⟨h,_⟩|⟨gb,cap5,cur,hu,_⟩
        .exact ⟨none,0,h⟩
        .exact ⟨_,_,hu⟩
       obtain⟨a,cc,rfl⟩:=hn1
       have HR0:Sl (Bc k wds m (c.ln:Nat)=[]):=⟨List.length_eq_zero_iff.1 hM⟩
       clear hM
       go_wp2
       exact bodyPost_ret (v:=.bool true) (by simp[results,results89,go_sem]) rfl ⟨W,cs,q,rfl,HBg.out.Ad HK5.out,rfl,.inr ⟨G1,G2,G3,c,c2.g,k,wds,m,⟨A1.out,A2.out,A3.out⟩,⟨HC.out,HTg.out⟩,HG1.out,HG2.out,HTy.out,.inl ⟨HR0.out,rfl⟩⟩⟩
      .have hi3:G3%M<M:=Nat.mod_lt _ h0M
       have hm3:(G3:Int)%(M:Int)=((G3%M:Nat):Int):=by push_cast;rfl
       obtain⟨i3,he3⟩:∃ i3,G3%M=i3:=⟨_,rfl⟩
       rw[he3] at hi3 hm3
       obtain⟨j,hj⟩:∃ j,(Bc k wds m (c.ln:Nat))[i3]?=some j:=⟨(Bc k wds m (c.ln:Nat))[i3]'(by omega),by simp⟩
       obtain⟨gr,capr5,rfl,hgr1,hgr2,cz3⟩:=owns_num HOR.out hM.symm hj
       have hjs:(j:Int)<AL k wds (c.ln:Nat):=by
        have h8:=refsUpto_mem (List.mem_of_getElem? hj)
        have h9:=(AU HE.out).1
        omega
       obtain⟨z1,z2,z3⟩:=slot_in HBg.out.cells HC.out HTg.out HTy.out hjs
       have HZ:Sl (2*c.g<2*c.g+1+j/\2*c.g+1+j<2*c.fin/\2*c.g+1+j<P.n):=⟨⟨z1,z2,z3⟩⟩
       have HJ:=sE hjs
       have hM0:((M:Int)==0)=false:=by simp;omega
       have hb3:=A3.out
       have B5:=HBg.out.Ad HK5.out
       have HB5:=sE B5
       obtain⟨f5,hS5⟩:=B5.at_
       have HS5:=sE hS5
       have HAr:=sE (BV P W f5 w5 hS5)
       have HTb:=sE (Ea P W f5 w5 hS5)
       have HOf5:=sE (SOf_any (c.g:Nat) P.a P.q P.n P.t P.tq W P.ts w5 hS5.fl hS5.ar hS5.tb)
       have HJ3:Sl ((Bc k wds m (c.ln:Nat))[G3%(Bc k wds m (c.ln:Nat)).length]?=some j):=⟨by rw[hM,he3];exact hj⟩
       clear hM he3 hj hjs z1 z2 B5 hS5
       go_wp2_with fail
       refine HAr.out.mono ?_
       rintro e w6 ⟨rfl,rfl⟩
       go_wp2_with fail
       refine HTb.out.mono ?_
       rintro e w6 ⟨rfl,rfl⟩
       go_wp2_with fail
       refine HOf5.out.mono ?_
       intro e w6 hp
       unfold Dh at hp
       rw[HB5.out.cells.obj HC.out HTg.out] at hp
       obtain⟨vb,k',wds',m',h1,rfl,hv,hvb,k6⟩:=hp
       rw[HTy.out] at h1
       injection h1 with h1
       injection h1 with h1 h1' h1''
       subst h1 h1' h1''
       have HV:=sE hv
       have HB6:=sE (HB5.out.Ad k6)
       have HA6:=sE ((HS5.out.Ad k6).ar)
       have HSt:=sE (VStore_yes j Y vb P.a P.q P.n W c k wds m w6 HA6.out HV.out HE.out HJ.out HYb.out HZ.out.2.2)
       clear hv hvb k6
       go_wp2_with fail
       refine HSt.out.mono ?_
       rintro e w7 ⟨rfl,k7,A7⟩
       have K7:=sE k7
       have HA7:=sE A7
       have hno:∀ b,¬ P.own b->¬ (b=P.a\/b=P.q):=λ b h e=>h (by rcases e with e|e;exact .inl e;exact .inr (.inl e))
       have hrn:¬ P.own rb:=λ h=>HB1.out.rbn (Sp.Cb h)
       have hqn:¬ P.own q:=λ h=>HB1.out.qn (Sp.Cb h)
       have D7:=HB6.out.dc.keep k7 (hno _ hrn) (hno _ hqn)
       have HD7:=sE D7
       obtain⟨cap,g0,g1⟩:=D7.head
       have hlr7:=D7.lt
       clear s3 k7 A7 D7 hrn hqn hno cz3
       go_wp2_with (at_builtin;go_loud (refine copy_words rfl (.tmp 127) rfl q P.n cap W rfl HD7.out.row (by have:=HZ.out.2.2;omega) ?_;intro w8 q1 cap1 hr8 hq8 k8;have HR8:=sE hr8;have K8:=sE k8;have a0:=hr8.at_ HZ.out.2.2;have a1:=hr8.free (2*c.g+1+j);have D8:=HD7.out.Ad k8;obtain ⟨cap2,b0,b1⟩:=D8.head;have b2:=D8.free 0;have hlt8:=D8.lt;have hq8':=hr8.lt;have hne:¬ q1=rb:=(by omega);have hne':¬ rb=q1:=(by omega);have HD8:=sE D8;have hqq:¬ q=q1:=(by have:=HD7.out.row.lt;omega);clear g0 g1 hr8 k8 D8))
       try go_wp2
       have k9:Kp (λ k=>k=q1) w8 (w8.setCell ⟨q1,2*c.g+1+j,none⟩ (.int .u64 (Y:Nat))):=(Kr (λ k=>k=q1) w8).setCell (λ _=>rfl) _
       have D9:=HD8.out.keep k9 hne' hqq
       obtain⟨cap3,hr9⟩:=D9.hr
       have k10:Kp (λ k=>k=rb) (w8.setCell ⟨q1,2*c.g+1+j,none⟩ (.int .u64 (Y:Nat))) ((w8.setCell ⟨q1,2*c.g+1+j,none⟩ (.int .u64 (Y:Nat))).setCell ⟨rb,0,none⟩ (.slice (some ⟨q1,0,none⟩) P.n cap1)):=(Kr (λ k=>k=rb) _).setCell (λ _=>rfl) _
       have D10:DocAt ((w8.setCell ⟨q1,2*c.g+1+j,none⟩ (.int .u64 (Y:Nat))).setCell ⟨rb,0,none⟩ (.slice (some ⟨q1,0,none⟩) P.n cap1)) rb q1 P.n (Ca W (2*c.g+1+j) Y) lv:=
        ⟨⟨cap1,by rw[bZ hr9 _];rfl⟩,(HR8.out.store HZ.out.2.2 Y HYb.out).keep k10 hne⟩
       have kF:Kp (λ k=>k=rb) w7 ((w8.setCell ⟨q1,2*c.g+1+j,none⟩ (.int .u64 (Y:Nat))).setCell ⟨rb,0,none⟩ (.slice (some ⟨q1,0,none⟩) P.n cap1)):=
        ((K8.out.Al _).trans k9 (λ b hb h=>by have h':b=q1:=h;omega)).trans k10 (λ _ _ h=>h)
       exact bodyPost_ret (v:=.bool true) (by simp[results,results89,go_sem]) rfl ⟨_,cs,q1,rfl,HB6.out.lay K7.out HA7.out HC.out HZ.out.1 HZ.out.2.1 kF D10 (.inr hq8),rfl,.inr ⟨G1,G2,G3,c,c2.g,k,wds,m,⟨A1.out,A2.out,A3.out⟩,⟨HC.out,HTg.out⟩,HG1.out,HG2.out,HTy.out,.inr ⟨j,Y,HJ3.out,HYi.out,rfl⟩⟩⟩

theorem Does_joinR(w0 w:World)(P:Sp)(rb q:Nat)(lv:Value)(W:Nat->Nat)(cs:List Cel)(g i n y:Int)(u:Value)(hb:Both w0 w P rb q lv W cs)(hu:∃ a l c,u=.slice a l c):
  Calls prog 40 #[.pointer (some ⟨P.s,0,none⟩),.pointer (some ⟨rb,0,none⟩),DK 5 g i n y u] w (EI w0 P rb lv (λ W' cs'=>JoinStep P W cs g i n W' cs') w):=by
 obtain⟨ua,ul,uc,rfl⟩:=hu
 obtain⟨w1,hw1⟩:∃ w1,w1=w.alloc (.cells #[.int .i64 5,.int .i64 g,.int .i64 i,.int .i64 n,.int .u64 y,.slice ua ul uc] 84):=⟨_,rfl⟩
 have k1:Kp Ab w w1:=by rw[hw1];exact (Kr _ w).alloc _
 have HJn:=sE (joins_any w0 w1 P rb q lv W cs 5 g i n y (.slice ua ul uc) (hb.Ad k1) ⟨ua,ul,uc,rfl⟩)
 unfold DK at HJn ⊢
 clear hb k1
 go_enter func40,ntmps40
 go_wp2_with fail
 rw[<- hw1]
 clear hw1
 refine HJn.out.mono ?_
 rintro e w2 ⟨W',cs',q',rfl,hB,hR⟩
 have HR:=sE hR
 clear hR
 have HB:=sE hB
 clear hB
 go_wp2
 exact bodyPost_ret (v:=.bool true) (by simp[results,results40,go_sem]) rfl ⟨W',cs',q',rfl,HB.out,HR.out⟩

theorem Does_join(w0 w:World)(P:Sp)(rb q:Nat)(lv:Value)(W:Nat->Nat)(cs:List Cel)(g i n y:Int)(u:Value)(hb:Both w0 w P rb q lv W cs)(hu:∃ a l c,u=.slice a l c):
  Calls prog 40 #[.pointer (some ⟨P.s,0,none⟩),.pointer (some ⟨rb,0,none⟩),DK 5 g i n y u] w (En w0 P rb lv w):=
 (Does_joinR w0 w P rb q lv W cs g i n y u hb hu).mono λ_ _ h=>h.weak

def DZ(n:Int)(xs:List TypR)(lv:Value)(w:World)(e:Ending)(w':World):Prop:=
 (e=.returned (.tuple #[.pointer none,.pointer none,.bool true])/\Kp Ab w w')\/
 (∃ P rb q W cs,e=.returned (.tuple #[.pointer (some ⟨P.s,0,none⟩),.pointer (some ⟨rb,0,none⟩),.bool true])/\Both w w' P rb q lv W cs/\(P.n:Int)=n/\P.ts=xs/\16<=P.n)

theorem Made_no(n:Int)(lv:Value)(xs:List TypR)(w:World)(hv:A9 w lv xs)(hl:xs.length<=17592186044416)(he:¬ FR 0 xs=0):
  Calls prog 39 #[.int .i64 n,lv] w (DZ n xs lv w):=by
 have HT:=sE (TNew_any lv xs w hv hl)
 have hb:(FR 0 xs !=0)=true:=by simpa using he
 have HE:=sE he
 clear hv hl he
 go_enter func39,ntmps39
 go_wp2_with fail
 refine HT.out.mono ?_
 rintro e w1 ⟨k1,⟨h0,-⟩|⟨-,rfl⟩⟩
 .exact absurd h0 HE.out
 .go_wp2
  exact bodyPost_ret (v:=.tuple #[.pointer none,.pointer none,.bool true]) (by simp[results,results39,go_sem]) rfl (.inl ⟨rfl,k1⟩)

theorem Made_words(n:Int)(lv:Value)(xs:List TypR)(w:World)(hv:A9 w lv xs)(hl:xs.length<=17592186044416)(he:FR 0 xs=0)(hn:Du n=false):
  Calls prog 39 #[.int .i64 n,lv] w (DZ n xs lv w):=by
 have HT:=sE (TNew_any lv xs w hv hl)
 have HE:=sE he
 have HN:Sl (∀ t W',Calls prog 81 #[.int .i64 n,.pointer (some ⟨t,0,none⟩)] W' λ e w'=>e=.returned (.tuple #[.pointer none,.int .i64 2])/\w'=W'):=⟨λ t W'=>SNew_no n t W' hn⟩
 have hn':n<16\/65536<n\/n%2≠0:=by
  unfold Du at hn
  have:=of_decide_eq_false hn
  omega
 clear hv hl he hn
 rcases Decidable.em (n<16) with h1|h1
 .go_enter func39,ntmps39
  go_wp2_with fail
  refine HT.out.mono ?_
  rintro e w1 ⟨k1,⟨-,t,tq,rfl,-⟩|⟨h0,-⟩⟩
  .go_wp2_with fail
   refine(HN.out t w1).mono ?_
   rintro e w2 ⟨rfl,rfl⟩
   go_wp2
   exact bodyPost_ret (v:=.tuple #[.pointer none,.pointer none,.bool true]) (by simp[results,results39,go_sem]) rfl (.inl ⟨rfl,k1⟩)
  .exact absurd HE.out h0
 .rcases Decidable.em (65536<n) with h2|h2
  .go_enter func39,ntmps39
   go_wp2_with fail
   refine HT.out.mono ?_
   rintro e w1 ⟨k1,⟨-,t,tq,rfl,-⟩|⟨h0,-⟩⟩
   .go_wp2_with fail
    refine(HN.out t w1).mono ?_
    rintro e w2 ⟨rfl,rfl⟩
    go_wp2
    exact bodyPost_ret (v:=.tuple #[.pointer none,.pointer none,.bool true]) (by simp[results,results39,go_sem]) rfl (.inl ⟨rfl,k1⟩)
   .exact absurd HE.out h0
  .have h3:n%2≠0:=by omega
   have h4:(n%2 !=0)=true:=by simpa using h3
   have h0n:0<=n:=by omega
   go_enter func39,ntmps39
   go_wp2_with fail
   refine HT.out.mono ?_
   rintro e w1 ⟨k1,⟨-,t,tq,rfl,-⟩|⟨h0,-⟩⟩
   .go_wp2_with fail
    refine(HN.out t w1).mono ?_
    rintro e w2 ⟨rfl,rfl⟩
    go_wp2
    exact bodyPost_ret (v:=.tuple #[.pointer none,.pointer none,.bool true]) (by simp[results,results39,go_sem]) rfl (.inl ⟨rfl,k1⟩)
   .exact absurd HE.out h0

def NewPost(n:Nat)(xs:List TypR)(lv:Value)(w:World)(e:Ending)(w':World):Prop:=
 ∃ P rb q,e=.returned (.tuple #[.pointer (some ⟨P.s,0,none⟩),.pointer (some ⟨rb,0,none⟩),.bool true])/\Both w w' P rb q lv (AX (λ _=>0) 0 (n/2)) (Fx 0 (n/2))/\P.n=n/\P.ts=xs

theorem Made_new(n:Nat)(lv:Value)(xs:List TypR)(w:World)(hF:Aq w)(hv:A9 w lv xs)(hl:xs.length<=17592186044416)(hM:Dm xs)(he:FR 0 xs=0)(hn:Du (n:Nat)=true):
  Calls prog 39 #[.int .i64 (n:Nat),lv] w (NewPost n xs lv w):=by
 have HT:=sE (TNew_any lv xs w hv hl)
 have HV:=sE hv
 have HMs:=sE hM
 have HF:=sE hF
 have HE:=sE he
 have hlv:∃ a l c,lv=.slice a l c:=by obtain⟨a,c,h,-⟩:=hv;exact ⟨_,_,_,h⟩
 have hn':16<=n/\n<=65536/\n%2=0:=by
  unfold Du at hn
  have:=of_decide_eq_true hn
  omega
 obtain⟨h1,h2,h3⟩:=hn'
 have HLv:=sE hlv
 have H3:=sE h3
 have h4:((n:Int)%2 !=0)=false:=by simp;omega
 clear hv hl hM he hn hF hlv h3
 go_enter func39,ntmps39
 go_wp2_with fail
 refine HT.out.mono ?_
 rintro e w1 ⟨k1,⟨-,t,tq,rfl,hta,ht1,ht2,ht3⟩|⟨h0,-⟩⟩
 .have HSN:=sE (SNew_yesW n t tq xs w1 hta (HF.out.Ad k1) hta.lt_t ht3 h1 h2 H3.out)
  have HK1:=sE k1
  have few:=hta.few
  clear k1 hta
  go_wp2_with fail
  refine HSN.out.mono ?_
  rintro e w2 ⟨P,hPt,hPq,hPs,hPn,rfl,hS,hown,hs0,hb0,k2⟩
  have HSp:=sE hS
  have HK2:=sE (HK1.out.then' k2)
  have HOw:Sl (∀ k,P.own k->w.heap.size<=k):=⟨λ k h=>Nat.le_trans HK1.out.size (hown k h)⟩
  have HPs:=sE hPs
  have HPn:=sE hPn
  have HDN:=sE (DNew_at n lv w2 HLv.out (by omega) h2)
  have hAr:∃ f,SpaceAt w2 P (AX (λ _=>0) 0 (n/2)) f:=by obtain⟨f,h,_⟩:=hS;exact ⟨f,h⟩
  obtain⟨f,hAt⟩:=hAr
  have HAt:=sE hAt
  clear hS k2 hown hPs hPn hPt hPq hAt
  go_wp2_with fail
  refine HDN.out.mono ?_
  rintro e w3 ⟨rb,q,rfl,hrb,hq,hd,k3⟩
  have HD:=sE hd
  have HK3:=sE k3
  have HA3:=sE (BV P _ f w3 (HAt.out.Ad k3))
  clear hd k3
  go_wp2_with fail
  refine HA3.out.mono ?_
  rintro e w4 ⟨rfl,rfl⟩
  go_wp2
  refine bodyPost_ret (v:=.tuple #[.pointer (some ⟨P.s,0,none⟩),.pointer (some ⟨rb,0,none⟩),.bool true]) (by simp[results,results39,go_sem]) rfl ⟨P,rb,q,rfl,⟨HSp.out.Ad HK3.out,?_,HOw.out,?_,?_,?_,BM.gap _ _,?_,?_,?_,?_⟩,HPn.out,HPs.out⟩
  .rw [HPn.out];exact HD.out
  .exact Nat.le_trans HK2.out.size hrb
  .exact λ h=>by have:=HAt.out.lt rb h;omega
  .exact λ h=>by have:=HAt.out.lt q h;omega
  .exact (HK2.out.then' HK3.out).Al _
  .rw [HPs.out];exact HV.out
  .rw [HPs.out];exact few
  .rw [HPs.out];exact HMs.out
 .exact absurd HE.out h0

theorem Made_yes(n:Nat)(lv:Value)(xs:List TypR)(w:World)(hF:Aq w)(hv:A9 w lv xs)(hl:xs.length<=17592186044416)(hM:Dm xs)(he:FR 0 xs=0)(hn:Du (n:Nat)=true):
  Calls prog 39 #[.int .i64 (n:Nat),lv] w (DZ (n:Nat) xs lv w):=by
 refine(Made_new n lv xs w hF hv hl hM he hn).mono ?_
 rintro e w' ⟨P,rb,q,h1,h2,h3,h4⟩
 refine .inr ⟨P,rb,q,_,_,h1,h2,by rw[h3],h4,?_⟩
 unfold Du at hn
 have:=of_decide_eq_true hn
 omega

theorem Made_any(n:Int)(lv:Value)(xs:List TypR)(w:World)(hF:Aq w)(hv:A9 w lv xs)(hl:xs.length<=17592186044416)(hM:Dm xs):
  Calls prog 39 #[.int .i64 n,lv] w (DZ n xs lv w):=by
 by_cases he:FR 0 xs=0
 .cases hn:Du n with
  |false=>exact Made_words n lv xs w hv hl he hn
  |true=>
   have h:=hn
   unfold Du at h
   have:=of_decide_eq_true h
   obtain⟨N,rfl⟩:=Int.eq_ofNat_of_zero_le (show 0<=n by omega)
   exact Made_yes N lv xs w hF hv hl hM he hn
 .exact Made_no n lv xs w hv hl he

theorem Does_any(w0 w:World)(P:Sp)(rb q:Nat)(lv:Value)(W:Nat->Nat)(cs:List Cel)(d g i n y:Int)(u:Value)(m:Nat)(hb:Both w0 w P rb q lv W cs)(hy:0<=y/\y<=18446744073709551615)(hI:∃ x,Bw 1 w0 u m x)(hm:m<=300):
  Calls prog 40 #[.pointer (some ⟨P.s,0,none⟩),.pointer (some ⟨rb,0,none⟩),DK d g i n y u] w (En w0 P rb lv w):=by
 obtain⟨x,hx⟩:=hI
 have hu:∃ a l c,u=.slice a l c:=by obtain⟨a,c,h,-⟩:=hx;exact ⟨_,_,_,h⟩
 by_cases h0:d=0
 .subst h0;exact Does_put w0 w P rb q lv W cs g i n y u hb hu
 by_cases h1:d=1
 .subst h1;exact Does_drop w0 w P rb q lv W cs g i n y u hb hu
 by_cases h2:d=2
 .subst h2;exact Does_slot w0 w P rb q lv W cs g i n y u hb hu hy
 by_cases h3:d=3
 .subst h3;exact Does_settle w0 w P rb q lv W cs g i n y u hb hu m x hx hm
 by_cases h5:d=5
 .subst h5;exact Does_join w0 w P rb q lv W cs g i n y u hb hu
 .exact Does_else w0 w P rb q lv W cs d g i n y u hb h0 h1 h2 h3 h5 hu

set_option maxRecDepth 20000 in
theorem Played_any(n:Int)(lv v2:Value)(xs:List TypR)(len:Nat)(dd gg ii nn yy:Nat->Int)(uu:Nat->Value)(mm:Nat->Nat)(w:World)(hF:Aq w)(hv:A9 w lv xs)(hl:xs.length<=17592186044416)(hM:Dm xs)
  (h2:FH w v2 len dd gg ii nn yy uu mm) (hlen:len<=60) (hy:∀ j,j<len->0<=yy j/\yy j<=18446744073709551615) (hA:AtsAt w len uu mm) (hm:∀ j,j<len->mm j<=300):
  Calls prog 8 #[.int .i64 n,lv,v2] w (DZ n xs lv w):=by
 have HMd:=sE (Made_any n lv xs w hF hv hl hM)
 have HY:=sE hy
 have HAt:=sE hA
 have HMm:=sE hm
 obtain⟨va,vc,rfl,hx⟩:=h2
 have HX:=sE hx
 clear hF hv hl hM hy hA hm hx
 go_enter func8,ntmps8
 go_wp2_with fail
 refine HMd.out.mono ?_
 rintro e w1 (⟨rfl,k1⟩|⟨P,rb,q,W,cs,rfl,hB,hPn,hPs,h16⟩)
 .go_wp2
  exact bodyPost_ret (v:=.tuple #[.pointer none,.pointer none,.bool true]) (by simp[results,results8,go_sem]) rfl (.inl ⟨rfl,k1⟩)
 .have HB:=sE hB
  have HPn:=sE hPn
  have HPs:=sE hPs
  clear hB hPn hPs
  go_wp2_with fail
  go_loopw [12] (λ z wr=>∃ (j q':Nat) (W':Nat->Nat) (cs':List Cel),j<=len/\z=.int .i64 (j:Nat)/\Sl (Both w wr P rb q' lv W' cs')) (λ z _=>len-(intOf z).toNat)
  case atStart=>exact ⟨0,q,W,cs,Nat.zero_le _,rfl,HB⟩
  case round=>
   obtain⟨j,q',W',cs',hj,rfl,HBr⟩:=hrel
   by_cases hjl:j<len
   .have hjl':(j:Int)<(len:Int):=by omega
    obtain⟨b,o,rfl,hbl,x0,x1,x2,x3,x4,x5,⟨ua,uc,hu⟩,-⟩:=HX.out j hjl
    have hnb:¬ w.heap.size<=b:=by omega
    have y0:=HBr.out.kb.cell x0 hnb
    have y1:=HBr.out.kb.cell x1 hnb
    have y2:=HBr.out.kb.cell x2 hnb
    have y3:=HBr.out.kb.cell x3 hnb
    have y4:=HBr.out.kb.cell x4 hnb
    have y5:=HBr.out.kb.cell x5 hnb
    have hbw:b<wr.heap.size:=Nat.lt_of_lt_of_le hbl HBr.out.size
    have HD:=sE (Does_any w wr P rb q' lv W' cs' (dd j) (gg j) (ii j) (nn j) (yy j) (uu j) (mm j) HBr.out (HY.out j hjl) (HAt.out j hjl) (HMm.out j hjl))
    unfold DK at HD
    rw[hu] at y5 HD
    clear x0 x1 x2 x3 x4 x5 hnb hu
    go_wp2_with fail
    refine HD.out.mono ?_
    rintro e w3 ⟨W3,cs3,q3,rfl,hB3⟩
    have HB3:=sE hB3
    clear hB3 y0 y1 y2 y3 y4 y5
    go_wp2
    exact⟨⟨j+1,q3,W3,cs3,by omega,by go_num,HB3⟩,by simp only[intOf];omega⟩
   .have hjl':¬ (j:Int)<(len:Int):=by omega
    go_wp2
    exact bodyPost_ret (v:=.tuple #[.pointer (some ⟨P.s,0,none⟩),.pointer (some ⟨rb,0,none⟩),.bool true]) (by simp[results,results8,go_sem]) rfl (.inr ⟨P,rb,q',W',cs',rfl,HBr.out,HPn.out,HPs.out,h16⟩)

def StepR(P:Sp)(W:Nat->Nat)(cs:List Cel)(d g i n:Int)(W':Nat->Nat)(cs':List Cel):Prop:=
 (d=0->PutStep P W cs g i n W' cs')/\(d=5->JoinStep P W cs g i n W' cs')

theorem Does_anyR(w0 w:World)(P:Sp)(rb q:Nat)(lv:Value)(W:Nat->Nat)(cs:List Cel)(d g i n y:Int)(u:Value)(m:Nat)(hb:Both w0 w P rb q lv W cs)(hy:0<=y/\y<=18446744073709551615)(hI:∃ x,Bw 1 w0 u m x)(hm:m<=300):
  Calls prog 40 #[.pointer (some ⟨P.s,0,none⟩),.pointer (some ⟨rb,0,none⟩),DK d g i n y u] w (EI w0 P rb lv (λ W' cs'=>StepR P W cs d g i n W' cs') w):=by
 have hu:∃ a l c,u=.slice a l c:=by obtain⟨x,a,c,h,-⟩:=hI;exact ⟨_,_,_,h⟩
 by_cases h0:d=0
 .subst h0
  refine(Does_putR w0 w P rb q lv W cs g i n y u hb hu).mono ?_
  rintro e w' ⟨W',cs',q',h1,h2,h3⟩
  exact⟨W',cs',q',h1,h2,λ _=>h3,λ h=>absurd h (by omega)⟩
 by_cases h5:d=5
 .subst h5
  refine(Does_joinR w0 w P rb q lv W cs g i n y u hb hu).mono ?_
  rintro e w' ⟨W',cs',q',h1,h2,h3⟩
  exact⟨W',cs',q',h1,h2,λ h=>absurd h (by omega),λ _=>h3⟩
 refine(Does_any w0 w P rb q lv W cs d g i n y u m hb hy hI hm).mono ?_
 rintro e w' ⟨W',cs',q',h1,h2⟩
 exact⟨W',cs',q',h1,h2,λ h=>absurd h h0,λ h=>absurd h h5⟩

inductive RunR (P:Sp) (dd gg ii nn:Nat->Int) (W0:Nat->Nat) (cs0:List Cel):Nat->(Nat->Nat)->List Cel->Prop
 |zero:RunR P dd gg ii nn W0 cs0 0 W0 cs0
 |succ {j:Nat} {W W':Nat->Nat} {cs cs':List Cel}:RunR P dd gg ii nn W0 cs0 j W cs->StepR P W cs (dd j) (gg j) (ii j) (nn j) W' cs'->RunR P dd gg ii nn W0 cs0 (j+1) W' cs'

def RunPost(n:Nat)(xs:List TypR)(len:Nat)(dd gg ii nn:Nat->Int)(lv:Value)(w:World)(e:Ending)(w':World):Prop:=
 ∃ P rb q W cs,e=.returned (.tuple #[.pointer (some ⟨P.s,0,none⟩),.pointer (some ⟨rb,0,none⟩),.bool true])/\Both w w' P rb q lv W cs/\P.n=n/\P.ts=xs/\RunR P dd gg ii nn (AX (λ _=>0) 0 (n/2)) (Fx 0 (n/2)) len W cs

set_option maxRecDepth 20000 in
theorem Played_run(n:Nat)(lv v2:Value)(xs:List TypR)(len:Nat)(dd gg ii nn yy:Nat->Int)(uu:Nat->Value)(mm:Nat->Nat)(w:World)(hF:Aq w)(hv:A9 w lv xs)(hl:xs.length<=17592186044416)(hM:Dm xs)(he:FR 0 xs=0)(hn:Du (n:Nat)=true)
  (h2:FH w v2 len dd gg ii nn yy uu mm) (hlen:len<=60) (hy:∀ j,j<len->0<=yy j/\yy j<=18446744073709551615) (hA:AtsAt w len uu mm) (hm:∀ j,j<len->mm j<=300):
  Calls prog 8 #[.int .i64 (n:Nat),lv,v2] w (RunPost n xs len dd gg ii nn lv w):=by
 have HMd:=sE (Made_new n lv xs w hF hv hl hM he hn)
 have HY:=sE hy
 have HAt:=sE hA
 have HMm:=sE hm
 obtain⟨va,vc,rfl,hx⟩:=h2
 have HX:=sE hx
 clear hF hv hl hM hy hA hm hx he hn
 go_enter func8,ntmps8
 go_wp2_with fail
 refine HMd.out.mono ?_
 rintro e w1 ⟨P,rb,q,rfl,hB,hPn,hPs⟩
 .have HB:=sE hB
  have HPn:=sE hPn
  have HPs:=sE hPs
  clear hB hPn hPs
  go_wp2_with fail
  go_loopw [12] (λ z wr=>∃ (j q':Nat) (W':Nat->Nat) (cs':List Cel),j<=len/\z=.int .i64 (j:Nat)/\Sl (Both w wr P rb q' lv W' cs')/\Sl (RunR P dd gg ii nn (AX (λ _=>0) 0 (n/2)) (Fx 0 (n/2)) j W' cs')) (λ z _=>len-(intOf z).toNat)
  case atStart=>exact ⟨0,q,_,_,Nat.zero_le _,rfl,HB,⟨RunR.zero⟩⟩
  case round=>
   obtain⟨j,q',W',cs',hj,rfl,HBr,HRun⟩:=hrel
   by_cases hjl:j<len
   .have hjl':(j:Int)<(len:Int):=by omega
    obtain⟨b,o,rfl,hbl,x0,x1,x2,x3,x4,x5,⟨ua,uc,hu⟩,-⟩:=HX.out j hjl
    have hnb:¬ w.heap.size<=b:=by omega
    have y0:=HBr.out.kb.cell x0 hnb
    have y1:=HBr.out.kb.cell x1 hnb
    have y2:=HBr.out.kb.cell x2 hnb
    have y3:=HBr.out.kb.cell x3 hnb
    have y4:=HBr.out.kb.cell x4 hnb
    have y5:=HBr.out.kb.cell x5 hnb
    have hbw:b<wr.heap.size:=Nat.lt_of_lt_of_le hbl HBr.out.size
    have HD:=sE (Does_anyR w wr P rb q' lv W' cs' (dd j) (gg j) (ii j) (nn j) (yy j) (uu j) (mm j) HBr.out (HY.out j hjl) (HAt.out j hjl) (HMm.out j hjl))
    unfold DK at HD
    rw[hu] at y5 HD
    clear x0 x1 x2 x3 x4 x5 hnb hu
    go_wp2_with fail
    refine HD.out.mono ?_
    rintro e w3 ⟨W3,cs3,q3,rfl,hB3,hR3⟩
    have HR3:=sE (HRun.out.succ hR3)
    clear hR3
    have HB3:=sE hB3
    clear hB3 y0 y1 y2 y3 y4 y5
    go_wp2
    exact⟨⟨j+1,q3,W3,cs3,by omega,by go_num,HB3,HR3⟩,by simp only[intOf];omega⟩
   .have hjl':¬ (j:Int)<(len:Int):=by omega
    go_wp2
    exact bodyPost_ret (v:=.tuple #[.pointer (some ⟨P.s,0,none⟩),.pointer (some ⟨rb,0,none⟩),.bool true]) (by simp[results,results8,go_sem]) rfl ⟨P,rb,q',W',cs',rfl,HBr.out,HPn.out,HPs.out,by
     obtain rfl:j=len:=by omega
     exact HRun.out⟩

end

section
open Go.RowKit

theorem Kp.new'{w w':World}(h:Kp (λ k=>w.heap.size<=k) w w'):Kp Ab w w':=h.mono (λ i hi hp=>by omega)

end

section
open Go.RowKit

def intVs(xs:List Int):List Value:=xs.map (Value.int .i64)

def IntsIn(w:World)(v:Value)(xs:List Int):Prop:=Bw 1 w v xs.length (λ i _=>xs.getD i 0)

theorem IntsIn.Ad{w w':World}{v:Value}{xs:List Int}(h:IntsIn w v xs)(k:Kp Ab w w'):IntsIn w' v xs:=Bw.keep h k (λ _ _ h=>h)

end

end Go.Proofs.YtmfajopmppfldaaGreatDoor
