/-
  Lemmas for the laws, together: PlayA.
-/
import Derived.Test.YtmfajopmppfldaaGreatDoorQaq
import Derived.Test.YtmfajopmppfldaaGreatDoorQar
import Derived.Test.YtmfajopmppfldaaGreatDoorQal
import Derived.Test.YtmfajopmppfldaaGreatDoorQao
import Derived.Test.YtmfajopmppfldaaGreatDoorQan
import Derived.Test.YtmfajopmppfldaaGreatDoorQas
set_option linter.unusedVariables false
set_option maxHeartbeats 16000000
namespace Go.Proofs.YtmfajopmppfldaaGreatDoor
open Tryz
section
open Go.RowKit

def DMadeNew(n:Nat)(lv:Value)(w:World)(e:Ending)(w':World):Prop:=
 ∃ rb q,e=.returned (.pointer (some ⟨rb,0,none⟩))/\w.heap.size<=rb/\w.heap.size<=q/\DocAt w' rb q n (AZ (λ _=>0) 0 (n/2)) lv/\Kp Ab w w'

theorem DNew_at(n:Nat)(lv:Value)(w:World)(hlv:∃ a l c,lv=.slice a l c)(h1:1<=n)(h2:n<=65536):Calls prog 82 #[.int .i64 (n:Nat),lv] w (DMadeNew n lv w):=by
 have hq:Sl (((n:Nat):Int)/2=((n/2:Nat):Int)):=⟨by omega⟩
 obtain⟨la,ll,lc,rfl⟩:=hlv
 go_enter func82,ntmps82
 go_wp2_with (at_make;obtain ⟨i0,hi,hz0,hz1,hz2⟩:=info_parts infoU64;go_loud (refine wpList_make_full _ rfl (.tmp 6) (.tmp 6) 135 rfl w.heap.size 55 i0 (.int .u64 0) 1 underlyingU64s hi hz0 hz1 .i64 .i64 n n n rfl rfl rfl rfl (by rw[hz2];omega) (by unfold maxLen;omega) (Nat.le_refl _) ?_);intro w1 hown hgrow;clear hi hz0 hz1 hz2)
 have hk:Kp Ab w w1:=(Kr Ab w).grown hgrow (λ _ e=>by cases e)
 obtain⟨w2,hw2⟩:∃ w2,w2=w1.alloc (.cells #[.slice (some ⟨w.heap.size,0,none⟩) n n,.slice la ll lc] 140):=⟨_,rfl⟩
 have hk2:Kp Ab w w2:=by rw[hw2];exact hk.alloc _
 have hD:DocAt w2 w1.heap.size w.heap.size n (λ _=>0) (.slice la ll lc):=by
  rw[hw2]
  rcases hown.2 with ⟨e,-⟩|⟨g,cap,cur,e,-,hheap,hnc,-,hsz,htake⟩
  .cases e
  .injection e with e1 _ e2
   injection e1 with e1
   injection e1 with e1 _
   subst e1 e2
   refine⟨⟨n,wN w1 _⟩,⟨cur,((Kr Ab w1).alloc _).at_ hheap (λ h=>h),by omega,λ j hj=>?_⟩,h2,λ j hj=>by omega⟩
   have h9:(cur.toList.take (n*1))[j]?=some (.int .u64 0):=by
    rw[htake,show (Value.int .u64 0).cells=#[Value.int .u64 0] from rfl,toList_madeCells_one,List.getElem?_replicate,if_pos (by omega)]
   rw[List.getElem?_take_of_lt (by omega)] at h9
   rwa [Array.getElem?_toList] at h9
 have hs1:=hk.size
 have HL:=sE (DL w1.heap.size w.heap.size n (λ _=>0) (.slice la ll lc) 0 (n/2) w2 hD (by omega))
 have HK2:=sE hk2
 clear hown hgrow hk hk2 hD
 go_wp2_with fail
 try rw[<- hw2]
 clear hw2
 try go_wp2_with fail
 try rw[hq.out]
 refine HL.out.mono ?_
 rintro e w3 ⟨rfl,q',D3,hq3,k3⟩
 have HD3:=sE D3
 have HK3:=sE k3
 have hqw:w.heap.size<=q':=by
  have:=HK2.out.size
  omega
 clear D3 hq3 k3
 go_wp2
 go_ret
 exact⟨_,q',rfl,hs1,hqw,HD3.out,HK2.out.trans HK3.out (λ i hi h=>by have h':i=w1.heap.size:=h;omega)⟩

structure Both(w0 w:World)(P:Sp)(rb q:Nat)(lv:Value)(W:Nat->Nat)(cs:List Cel):Prop where
 sp:Aw w P W cs
 dc:DocAt w rb q P.n W lv
 own:∀ k,P.own k->w0.heap.size<=k
 rb0:w0.heap.size<=rb
 rbn:¬ P.all rb
 qn:¬ P.all q
 gap:BS cs
 kb:Kp (λ k=>w0.heap.size<=k) w0 w
 ty:AO w0 lv P.ts
 few:P.ts.length<=64
 ms:Cg P.ts

theorem AO.FD{w0 w:World}{v:Value}{xs:List TypR}(h:AO w0 v xs)(k:Kp (λ k=>w0.heap.size<=k) w0 w):AO w v xs:=by
 obtain⟨a,cap,rfl,h⟩:=h
 refine⟨a,cap,rfl,λ i x hx=>?_⟩
 obtain⟨b,o,hab,hb,c0,c1,c2⟩:=h i x hx
 have hn:¬ w0.heap.size<=b:=by omega
 exact⟨b,o,hab,Nat.lt_of_lt_of_le hb k.size,k.cell c0 hn,k.cell c1 hn,k.cell c2 hn⟩

theorem Both.tyAt{w0 w:World}{P:Sp}{rb q:Nat}{lv:Value}{W:Nat->Nat}{cs:List Cel}(h:Both w0 w P rb q lv W cs):AO w lv P.ts:=h.ty.FD h.kb

theorem Both.few'{w0 w:World}{P:Sp}{rb q:Nat}{lv:Value}{W:Nat->Nat}{cs:List Cel}(h:Both w0 w P rb q lv W cs):P.ts.length<=17592186044416:=by have:=h.few;omega

theorem Both.cells{w0 w:World}{P:Sp}{rb q:Nat}{lv:Value}{W:Nat->Nat}{cs:List Cel}(h:Both w0 w P rb q lv W cs):CellsAt P W cs:=by
 obtain⟨f,_,hc,_⟩:=h.sp
 exact hc

theorem Both.at_{w0 w:World}{P:Sp}{rb q:Nat}{lv:Value}{W:Nat->Nat}{cs:List Cel}(h:Both w0 w P rb q lv W cs):∃ f,SpaceAt w P W f:=by
 obtain⟨f,hs,_⟩:=h.sp
 exact⟨f,hs⟩

theorem Both.lt{w0 w:World}{P:Sp}{rb q:Nat}{lv:Value}{W:Nat->Nat}{cs:List Cel}(h:Both w0 w P rb q lv W cs):∀ k,P.all k->k<w.heap.size:=by
 obtain⟨f,hs⟩:=h.at_
 exact hs.lt

theorem Both.small{w0 w:World}{P:Sp}{rb q:Nat}{lv:Value}{W:Nat->Nat}{cs:List Cel}(h:Both w0 w P rb q lv W cs):P.n<=65536:=h.dc.row.small

theorem Sp.BH{P:Sp}{k:Nat}(h:P.own k):P.all k:=by
 rcases h with h|h|h <;> (unfold Sp.all;simp [h])

theorem Both.Ad{w0 w w':World}{P:Sp}{rb q:Nat}{lv:Value}{W:Nat->Nat}{cs:List Cel}(h:Both w0 w P rb q lv W cs)(k:Kp Ab w w'):Both w0 w' P rb q lv W cs:=
 ⟨h.sp.Ad k,h.dc.Ad k,h.own,h.rb0,h.rbn,h.qn,h.gap,h.kb.trans k (λ _ _ h=>h.elim),h.ty,h.few,h.ms⟩

theorem Both.size{w0 w:World}{P:Sp}{rb q:Nat}{lv:Value}{W:Nat->Nat}{cs:List Cel}(h:Both w0 w P rb q lv W cs):w0.heap.size<=w.heap.size:=h.kb.size

theorem Both.step{w0 w w1 w2:World}{P:Sp}{rb q q':Nat}{lv:Value}{W W':Nat->Nat}{cs cs':List Cel}(h:Both w0 w P rb q lv W cs)(k1:Kp P.own w w1)(hs:Aw w1 P W' cs')(hg:BS cs')(k2:Kp (λ k=>k=rb) w1 w2)
  (hd:DocAt w2 rb q' P.n W' lv) (hq:q'=q\/w1.heap.size<=q'):Both w0 w2 P rb q' lv W' cs':=
 ⟨hs.keep k2 (λ i hi e=>h.rbn (e▸hi)),hd,h.own,h.rb0,h.rbn,by
  rcases hq with e|e
  .rw [e];exact h.qn
  .exact λ ha=>by
    have:=h.lt q' ha
    have:=k1.size
    omega,hg,
  (h.kb.trans k1 (λ k hk hp=>h.own k hp)).trans k2 (λ k hk e=>by have e':k=rb:=e;rw [e'];exact h.rb0),h.ty,h.few,h.ms⟩

def Eo(w0:World)(P:Sp)(rb:Nat)(lv:Value)(w:World)(e:Ending)(w':World):Prop:=
 ∃ W' cs' q',e=.returned (.bool true)/\Both w0 w' P rb q' lv W' cs'

theorem cells6{w:World}{b:Nat}{a0 a1 a2 a3 a4 a5:Value}{T:TypeId}(hb:w.heap[b]?=some (.cells #[a0,a1,a2,a3,a4,a5] T (0,0))):
  w.cell? ⟨b,0,none⟩=some a0/\w.cell? ⟨b,1,none⟩=some a1/\w.cell? ⟨b,2,none⟩=some a2/\w.cell? ⟨b,3,none⟩=some a3/\w.cell? ⟨b,4,none⟩=some a4/\w.cell? ⟨b,5,none⟩=some a5:=by
 refine⟨?_,?_,?_,?_,?_,?_⟩ <;> simp only[World.cell?,hb] <;> rfl

theorem start_of_drop{cs p1 g1 g2 p2:List Cel}{c:Cel}{j x y:Nat}(h:Dj cs j p1 g1 c g2 p2 x y):Aq cs j=true:=by
 obtain⟨h1,h2,h3,-⟩:=h
 unfold Aq
 rw[List.any_eq_true]
 exact⟨c,by rw[h1];simp,by simp[h2,h3]⟩

def DI(d g i n y:Int)(u:Value):Value:=.agg #[.int .i64 d,.int .i64 g,.int .i64 i,.int .i64 n,.int .u64 y,u]

def PutStep(P:Sp)(W:Nat->Nat)(cs:List Cel)(g i n:Int)(W':Nat->Nat)(cs':List Cel):Prop:=
 (¬ DX P.ts (P.n/2) cs g i n=0/\W'=W/\cs'=cs)\/
  (DX P.ts (P.n/2) cs g i n=0/\∃ (pre:List Cel) (c:Cel) (post:List Cel) (j a l S:Nat),cs=pre++c::post/\¬ c.tag=1/\g=(j:Nat)/\i=(a:Nat)/\n=(l:Nat)/\Bq P.ts i n=(S:Nat)/\
   c.g<=j/\j+S<=c.fin/\0<S/\W'=putW W c j a l S/\cs'=putL pre c post j a l S)

def EK(w0:World)(P:Sp)(rb:Nat)(lv:Value)(R:(Nat->Nat)->List Cel->Prop)(w:World)(e:Ending)(w':World):Prop:=
 ∃ W' cs' q',e=.returned (.bool true)/\Both w0 w' P rb q' lv W' cs'/\R W' cs'

theorem EK.weak{w0:World}{P:Sp}{rb:Nat}{lv:Value}{R:(Nat->Nat)->List Cel->Prop}{w:World}{e:Ending}{w':World}(h:EK w0 P rb lv R w e w'):Eo w0 P rb lv w e w':=by
 obtain⟨W',cs',q',h1,h2,-⟩:=h
 exact⟨W',cs',q',h1,h2⟩

set_option maxRecDepth 20000 in
theorem Does_putR(w0 w:World)(P:Sp)(rb q:Nat)(lv:Value)(W:Nat->Nat)(cs:List Cel)(g i n y:Int)(u:Value)(hb:Both w0 w P rb q lv W cs)(hu:∃ a l c,u=.slice a l c):
  Calls prog 40 #[.pointer (some ⟨P.s,0,none⟩),.pointer (some ⟨rb,0,none⟩),DI 0 g i n y u] w (EK w0 P rb lv (λ W' cs'=>PutStep P W cs g i n W' cs') w):=by
 obtain⟨ua,ul,uc,rfl⟩:=hu
 obtain⟨w1,hw1⟩:∃ w1,w1=w.alloc (.cells #[.int .i64 0,.int .i64 g,.int .i64 i,.int .i64 n,.int .u64 y,.slice ua ul uc] 84):=⟨_,rfl⟩
 have k1:Kp Ab w w1:=by rw[hw1];exact (Kr _ w).alloc _
 have b1:w1.heap[w.heap.size]?=some (.cells #[.int .i64 0,.int .i64 g,.int .i64 i,.int .i64 n,.int .u64 y,.slice ua ul uc] 84 (0,0)):=by rw[hw1];exact wN w _
 have hl1:=lZ b1
 obtain⟨c0,c1,c2,c3,c4,c5⟩:=cells6 b1
 have B1:=hb.Ad k1
 have HB0:=sE hb
 have HB1:=sE B1
 have hbo:¬ P.own w.heap.size:=λ h=>by have:=hb.lt _ (Sp.BH h);omega
 have hbrb:¬ w.heap.size=rb:=λ h=>by have:=hb.dc.lt;omega
 have HNO:=sE hbo
 have HNR:=sE hbrb
 clear b1 k1 B1 hb hbo hbrb
 unfold DI
 go_enter func40,ntmps40
 go_wp2_with fail
 rw[<- hw1]
 clear hw1
 try go_wp2_with fail
 refine wp_region_held_drew (S:=(λ w'=>w'.cell? ⟨w.heap.size,1,none⟩=some (.int .i64 g)/\w'.cell? ⟨w.heap.size,2,none⟩=some (.int .i64 i)/\w'.cell? ⟨w.heap.size,3,none⟩=some (.int .i64 n))) (by kernel_rfl) ?_ (λ qZ=>?_)
 .exact ⟨Ac ((Kr _ _).drew) c1,Ac ((Kr _ _).drew) c2,Ac ((Kr _ _).drew) c3⟩
 refine Ao 0 ?_;refine Ao 1 ?_;refine Ao 2 ?_;refine Ao 3 ?_;refine Ao 4 ?_;refine Ao 5 ?_;refine Ao 6 ?_;refine Ao 8 ?_;refine Ao 9 ?_;refine Ao 10 ?_;refine Ao 11 ?_;refine Ao 12 ?_;refine Ao 13 ?_;refine Ao 14 ?_
 try simp only[Ar]
 refine AQ [7] ?_
 refine Ag rfl (λ K hK=>?_)
 go_simp
 refine(Put_anyW g i n P cs _ W (HB1.out.sp.Ad ((Kr _ _).drew))).mono ?_
 rintro e w2 ⟨rfl,k2,hp⟩
 have HP:=sE hp
 have K2:Sl (Kp P.own w1 w2):=⟨((Kr P.own w1).drew).trans k2 (λ _ _ h=>h)⟩
 have d1:=K2.out.cell c1 HNO.out
 have d2:=K2.out.cell c2 HNO.out
 have d3:=K2.out.cell c3 HNO.out
 clear hp k2
 refine hK _ _ ?_ (λ qZ=>?_)
 .exact ⟨d1,d2,d3⟩
 clear hK K
 try simp only[Ar]
 refine AQ [15] ?_
 refine Ag rfl (λ K hK=>?_)
 go_simp
 have hrn:¬ P.own rb:=λ h=>HB1.out.rbn (Sp.BH h)
 have hqn:¬ P.own q:=λ h=>HB1.out.qn (Sp.BH h)
 have hkb2:=HB1.out.kb.trans K2.out (λ k hk hp=>HB1.out.own k hp)
 refine(DPut_any P W cs rb q lv g i n _ (HB1.out.dc.keep K2.out hrn hqn) HB1.out.cells (HB1.out.ty.FD hkb2) HB1.out.few HB1.out.ms).mono ?_
 rintro e w3 ⟨rfl,k3,hp⟩
 have HP3:=sE hp
 have K3:=sE k3
 have e1:=k3.cell d1 HNR.out
 have e2:=k3.cell d2 HNR.out
 have e3:=k3.cell d3 HNR.out
 clear hp k3 hkb2 hrn hqn
 refine hK _ _ ?_ (λ qZ=>?_)
 .exact ⟨e1,e2,e3⟩
 clear hK K
 try simp only[Ar]
 refine Ao 16 ?_;refine Ao 17 ?_
 try simp only[Ar]
 refine wpAnyH_done (by kernel_rfl) ?_ _
 go_wp2
 refine bodyPost_ret (v:=.bool true) (by simp[results,results40,go_sem]) rfl ?_
 rcases HP.out with ⟨h0,hs⟩|⟨h0,pre,c,post,j,a,l,S,hcs,ht,hg,hi,hn,hS,hc1,hc2,hS0,hs⟩
 .rcases HP3.out with ⟨h1,hd⟩|⟨h1,-⟩
  .exact ⟨W,cs,q,rfl,HB1.out.step K2.out hs HB1.out.gap K3.out hd (.inl rfl),.inl ⟨h0,rfl,rfl⟩⟩
  .exact absurd h1 h0
 .rcases HP3.out with ⟨h1,-⟩|⟨h1,x,j',a',l',S',hx,hg',hi',hn',hS',hhit,q',hq',hd⟩
  .exact absurd h0 h1
  .obtain rfl:j=j':=by omega
   obtain rfl:a=a':=by omega
   obtain rfl:l=l':=by omega
   obtain rfl:S=S':=by omega
   obtain⟨y1,y2,y3,y4⟩:=hhit
   have hcx:c=x:=cell_only HB1.out.cells.tl (c:=c) (d:=x) (by rw[hcs];simp) hx (j:=j) hc1 (by omega) y2 y3
   subst hcx
   exact⟨_,_,q',rfl,HB1.out.step K2.out hs (put_gaps (hcs▸HB1.out.gap)) K3.out hd (.inr hq'),.inr ⟨h0,pre,c,post,j,a,l,S,hcs,ht,hg,hi,hn,hS,hc1,hc2,hS0,rfl,rfl⟩⟩

theorem Does_put(w0 w:World)(P:Sp)(rb q:Nat)(lv:Value)(W:Nat->Nat)(cs:List Cel)(g i n y:Int)(u:Value)(hb:Both w0 w P rb q lv W cs)(hu:∃ a l c,u=.slice a l c):
  Calls prog 40 #[.pointer (some ⟨P.s,0,none⟩),.pointer (some ⟨rb,0,none⟩),DI 0 g i n y u] w (Eo w0 P rb lv w):=
 (Does_putR w0 w P rb q lv W cs g i n y u hb hu).mono λ_ _ h=>h.weak

set_option maxRecDepth 20000 in
theorem Does_drop(w0 w:World)(P:Sp)(rb q:Nat)(lv:Value)(W:Nat->Nat)(cs:List Cel)(g i n y:Int)(u:Value)(hb:Both w0 w P rb q lv W cs)(hu:∃ a l c,u=.slice a l c):
  Calls prog 40 #[.pointer (some ⟨P.s,0,none⟩),.pointer (some ⟨rb,0,none⟩),DI 1 g i n y u] w (Eo w0 P rb lv w):=by
 obtain⟨ua,ul,uc,rfl⟩:=hu
 obtain⟨w1,hw1⟩:∃ w1,w1=w.alloc (.cells #[.int .i64 1,.int .i64 g,.int .i64 i,.int .i64 n,.int .u64 y,.slice ua ul uc] 84):=⟨_,rfl⟩
 have k1:Kp Ab w w1:=by rw[hw1];exact (Kr _ w).alloc _
 have b1:w1.heap[w.heap.size]?=some (.cells #[.int .i64 1,.int .i64 g,.int .i64 i,.int .i64 n,.int .u64 y,.slice ua ul uc] 84 (0,0)):=by rw[hw1];exact wN w _
 have hl1:=lZ b1
 obtain⟨c0,c1,c2,c3,c4,c5⟩:=cells6 b1
 have B1:=hb.Ad k1
 have HB0:=sE hb
 have HB1:=sE B1
 have hbo:¬ P.own w.heap.size:=λ h=>by have:=hb.lt _ (Sp.BH h);omega
 have hbrb:¬ w.heap.size=rb:=λ h=>by have:=hb.dc.lt;omega
 have HNO:=sE hbo
 have HNR:=sE hbrb
 clear b1 k1 B1 hb hbo hbrb
 unfold DI
 go_enter func40,ntmps40
 go_wp2_with fail
 rw[<- hw1]
 clear hw1
 try go_wp2_with fail
 refine wp_region_held_drew (S:=(λ w'=>w'.cell? ⟨w.heap.size,1,none⟩=some (.int .i64 g))) (by kernel_rfl) ?_ (λ qZ=>?_)
 .exact Ac ((Kr _ _).drew) c1
 refine Ao 0 ?_;refine Ao 1 ?_;refine Ao 2 ?_;refine Ao 4 ?_;refine Ao 5 ?_;refine Ao 6 ?_
 try simp only[Ar]
 refine AQ [3] ?_
 refine Ag rfl (λ K hK=>?_)
 go_simp
 refine(Drop_anyW g P cs _ W (HB1.out.sp.Ad ((Kr _ _).drew))).mono ?_
 rintro e w2 hp
 obtain⟨r,rfl,k2⟩:∃ r:Int,e=.returned (.int .i64 r)/\Kp P.own w1.drew w2:=by
  rcases hp with ⟨rfl,_,k⟩|⟨rfl,k,_⟩
  .exact ⟨_,rfl,k.Ak _⟩
  .exact ⟨_,rfl,k⟩
 have HP:=sE hp
 have K2:Sl (Kp P.own w1 w2):=⟨((Kr P.own w1).drew).trans k2 (λ _ _ h=>h)⟩
 have d1:=K2.out.cell c1 HNO.out
 clear hp k2
 refine hK _ _ ?_ (λ qZ=>?_)
 .exact d1
 clear hK K
 try simp only[Ar]
 refine AQ [7] ?_
 refine Ag rfl (λ K hK=>?_)
 go_simp
 have hrn:¬ P.own rb:=λ h=>HB1.out.rbn (Sp.BH h)
 have hqn:¬ P.own q:=λ h=>HB1.out.qn (Sp.BH h)
 have hkb2:=HB1.out.kb.trans K2.out (λ k hk hp=>HB1.out.own k hp)
 refine(DDrop_any P W cs rb q lv g _ (HB1.out.dc.keep K2.out hrn hqn) HB1.out.cells (HB1.out.ty.FD hkb2) HB1.out.few' HB1.out.ms).mono ?_
 rintro e w3 hp
 obtain⟨r',rfl,k3⟩:∃ r:Int,e=.returned (.int .i64 r)/\Kp (λ k=>k=rb) w2 w3:=by
  rcases hp with ⟨rfl,_,_,k⟩|⟨rfl,k,_⟩
  .exact ⟨_,rfl,k.Ak _⟩
  .exact ⟨_,rfl,k⟩
 have HP3:=sE hp
 have K3:=sE k3
 have e1:=k3.cell d1 HNR.out
 clear hp k3 hkb2 hrn hqn
 refine hK _ _ ?_ (λ qZ=>?_)
 .exact e1
 clear hK K
 try simp only[Ar]
 obtain⟨hrr,HF⟩:r=r'/\Sl (∃ W' cs' q',Both w0 w3 P rb q' lv W' cs'):=by
  rcases HP.out with ⟨h0,hno,k0⟩|⟨h0,k0,j,p1,g1,c,g2,p2,x,z,hg,hdo,hs⟩
  .rcases HP3.out with ⟨h1,hno1,hd,k4⟩|⟨h1,k4,j,p1,g1,c,g2,p2,x,z,hg,hdo,q',hq',hd⟩
   .injection h0 with h0;injection h0 with h0;injection h1 with h1;injection h1 with h1
    exact⟨by omega,⟨W,cs,q,HB1.out.step K2.out (HB1.out.sp.Ad ((Kr Ab w1).drew.then' k0)) HB1.out.gap K3.out hd (.inl rfl)⟩⟩
   .have:=start_of_drop hdo
    rw[hno j hg] at this
    cases this
  .rcases HP3.out with ⟨h1,hno1,hd,k4⟩|⟨h1,k4,j',p1',g1',c',g2',p2',x',z',hg',hdo',q',hq',hd⟩
   .have:=start_of_drop hdo
    rw[hno1 j hg] at this
    cases this
   .injection h0 with h0;injection h0 with h0;injection h1 with h1;injection h1 with h1
    obtain rfl:j=j':=by omega
    obtain⟨rfl,rfl,rfl,rfl⟩:=hdo.uniq HB1.out.cells.tl hdo'
    exact⟨by omega,⟨_,_,q',HB1.out.step K2.out hs (drop_gaps HB1.out.gap hdo) K3.out hd hq'⟩⟩
 subst hrr
 refine Ao 8 ?_;refine Ao 9 ?_
 try simp only[Ar]
 refine wpAnyH_done (by kernel_rfl) ?_ _
 go_wp2
 refine bodyPost_ret (v:=.bool true) (by simp[results,results40,go_sem]) rfl ?_
 obtain⟨W',cs',q',h⟩:=HF.out
 exact⟨W',cs',q',rfl,h⟩

theorem BA.keepN1{w w':World}{v:Value}{len:Nat}{x:Nat->Nat->Int}(h:BA 1 w v len x)(k:Kp Ab w w'):BA 1 w' v len x:=h.keep k (λ _ _ h=>h)

theorem ints_block{w:World}{v:Value}{len:Nat}{x:Nat->Nat->Int}(h:BA 1 w v len x)(h0:0<len){b:Nat}(hb:v.ownBlock=some b):b<w.heap.size:=by
 obtain⟨a,cap,rfl,hx⟩:=ints_at h
 obtain⟨g,o,rfl,hg,-⟩:=hx 0 h0
 have:g=b:=by injection hb
 omega

theorem settle_gaps{os:List Cel}{H:Nat}(hr:BI 0 os H):BS (Cn 0 os H):=λ c hc ht=>by
 rcases settleL_mem hr hc with m|⟨g,m,h0,h1,rfl⟩
 .exact absurd (hr.mem m).2.1 ht
 .exact ⟨rfl,rfl,rfl⟩

theorem slot_in{P:Sp}{W:Nat->Nat}{cs:List Cel}{c:Cel}{k wds:Int}{m j:Nat}(h:CellsAt P W cs)(hc:c∈cs)(ht:c.tag=1)(hty:typeOf P.ts (c.ty:Nat)=some ⟨k,wds,m⟩)(hj:(j:Int)<AR k wds (c.ln:Nat)):
  2*c.g<2*c.g+1+j/\2*c.g+1+j<2*c.fin/\2*c.g+1+j<P.n:=by
 obtain⟨e1,e2⟩:=(h.ok c hc).2 ht
 have hm:=h.tl.mem hc
 unfold Bq at e2
 rw[hty] at e2
 simp only[Fp] at e2
 unfold Cel.fin
 omega

theorem kind_of{P:Sp}{W:Nat->Nat}{cs:List Cel}{c:Cel}{k wds:Int}{m:Nat}(h:CellsAt P W cs)(hc:c∈cs)(ht:c.tag=1)(hty:typeOf P.ts (c.ty:Nat)=some ⟨k,wds,m⟩):AV k wds m (c.ln:Nat)=0:=by
 obtain⟨e1,e2⟩:=(h.ok c hc).2 ht
 unfold AY at e1
 rw[hty] at e1
 exact e1

theorem Both.lay{w0 w w1 w2:World}{P:Sp}{rb q q' z Y:Nat}{lv:Value}{W:Nat->Nat}{cs:List Cel}{c:Cel}(h:Both w0 w P rb q lv W cs)(k1:Kp (λ i=>i=P.a\/i=P.q) w w1)(A:ArenaAt w1 P.a P.q (BM W z Y) P.n)(hc:c∈cs)(h1:2*c.g<z)(h2:z<2*c.fin)
  (k2:Kp (λ k=>k=rb) w1 w2) (hd:DocAt w2 rb q' P.n (BM W z Y) lv) (hq:q'=q\/w1.heap.size<=q'):Both w0 w2 P rb q' lv (BM W z Y) cs:=by
 obtain⟨f,hs,hcs,hst⟩:=h.sp
 exact h.step (k1.mono (λ i _ hi=>by rcases hi with e|e;exact .inl e;exact .inr (.inl e))) ⟨f,hs.words k1 A,hcs.store hc h1 h2 Y,hst⟩ h.gap k2 hd hq

set_option maxRecDepth 20000 in
theorem Does_settle(w0 w:World)(P:Sp)(rb q:Nat)(lv:Value)(W:Nat->Nat)(cs:List Cel)(g i n y:Int)(u:Value)(hb:Both w0 w P rb q lv W cs)(hu:∃ a l c,u=.slice a l c)(m:Nat)(x:Nat->Nat->Int)(hI:BA 1 w0 u m x)(hm:m<=300):
  Calls prog 40 #[.pointer (some ⟨P.s,0,none⟩),.pointer (some ⟨rb,0,none⟩),DI 3 g i n y u] w (Eo w0 P rb lv w):=by
 have HIB:=sE hI
 have hub:0<m->u.ownBlock≠some rb:=λ h e=>by have:=ints_block hI h e;have:=hb.rb0;omega
 have hIw:BA 1 w u m x:=hI.keepB hb.kb (λ b h e=>by have:=ints_block hI h e;omega)
 have hIk:=hIw.keepN1 (w':=w.alloc (.cells #[.int .i64 3,.int .i64 g,.int .i64 i,.int .i64 n,.int .u64 y,u] 84)) ((Kr _ _).alloc _)
 obtain⟨ua,ul,uc,rfl⟩:=hu
 obtain⟨w1,hw1⟩:∃ w1,w1=w.alloc (.cells #[.int .i64 3,.int .i64 g,.int .i64 i,.int .i64 n,.int .u64 y,.slice ua ul uc] 84):=⟨_,rfl⟩
 have k1:Kp Ab w w1:=by rw[hw1];exact (Kr _ w).alloc _
 have b1:w1.heap[w.heap.size]?=some (.cells #[.int .i64 3,.int .i64 g,.int .i64 i,.int .i64 n,.int .u64 y,.slice ua ul uc] 84 (0,0)):=by rw[hw1];exact wN w _
 have hl1:=lZ b1
 obtain⟨c0,c1,c2,c3,c4,c5⟩:=cells6 b1
 have B1:=hb.Ad k1
 rw[<- hw1] at hIk
 have HI:=sE hIk
 have HUB:=sE hub
 clear hI hIw hIk hub
 have HB0:=sE hb
 have HB1:=sE B1
 have hbo:¬ P.own w.heap.size:=λ h=>by have:=hb.lt _ (Sp.BH h);omega
 have hbrb:¬ w.heap.size=rb:=λ h=>by have:=hb.dc.lt;omega
 have HNO:=sE hbo
 have HNR:=sE hbrb
 clear b1 k1 B1 hb hbo hbrb
 unfold DI
 go_enter func40,ntmps40
 go_wp2_with fail
 rw[<- hw1]
 clear hw1
 try go_wp2_with fail
 refine wp_region_held_drew (S:=(λ w'=>w'.cell? ⟨w.heap.size,5,none⟩=some (.slice ua ul uc))) (by kernel_rfl) ?_ (λ qZ=>?_)
 .exact Ac ((Kr _ _).drew) c5
 refine Ao 0 ?_;refine Ao 1 ?_;refine Ao 2 ?_;refine Ao 5 ?_;refine Ao 6 ?_;refine Ao 7 ?_
 try simp only[Ar]
 refine AQ [3] ?_
 refine Ag rfl (λ K hK=>?_)
 obtain⟨i0,hi0,hz0,hz1,hz2⟩:=info_parts Cv
 refine step_append_ints rfl _ _ 82 rfl 3 i0 AP hi0 hz0 hz1 hz2 rfl _ m x rfl (HI.out.keepN1 ((Kr _ _).drew)) (by omega) ?_
 intro v' w2 hown hgr
 clear hi0 hz0 hz1 hz2
 have kA:Kp Ab w1 w2:=((Kr Ab w1).drew).grown hgr (λ k e _=>by cases e)
 have hbd:∀ i,i<m->-9223372036854775808<=x i 0/\x i 0<=9223372036854775807:=λ i hi=>by
  obtain⟨a,cap,_,hx⟩:=ints_at HI.out
  obtain⟨_,_,_,_,_,h1,h2⟩:=hx i hi
  exact⟨h1,h2⟩
 have HI2:Sl (BA 1 w2 v' m x):=⟨BA.Br hown hbd⟩
 have HOW:Sl (∀ b,v'.ownBlock=some b->w1.heap.size<=b):=⟨λ b e=>(Af hown e).1⟩
 have KA:=sE kA
 have d5:=kA.cell c5 (λ h=>h)
 clear hown hgr hbd kA
 refine hK _ _ ?_ (λ qZ=>?_)
 .exact d5
 clear hK K
 try simp only[Ar]
 refine AQ [4] ?_
 refine Ag rfl (λ K hK=>?_)
 go_simp
 refine(SSettle_any P W cs v' m x _ (HB1.out.sp.Ad KA.out) HI2.out (by omega) (λ _ b e h=>by have:=HOW.out b e;have:=HB1.out.lt b (Sp.BH h);omega)).mono ?_
 rintro e w3 hp
 obtain⟨r,rfl,k3⟩:∃ r:Int,e=.returned (.int .i64 r)/\Kp P.own w2 w3:=by
  rcases hp with ⟨_,rfl,_,k⟩|⟨_,_,rfl,k,_⟩
  .exact ⟨_,rfl,k.Ak _⟩
  .exact ⟨_,rfl,k⟩
 have HP:=sE hp
 have K3:Sl (Kp P.own w1 w3):=⟨(KA.out.Ak _).trans k3 (λ _ _ h=>h)⟩
 have e5:=K3.out.cell c5 HNO.out
 clear hp k3
 refine hK _ _ ?_ (λ qZ=>?_)
 .exact e5
 clear hK K
 try simp only[Ar]
 refine AQ [8] ?_
 refine Ag rfl (λ K hK=>?_)
 go_simp
 have hrn:¬ P.own rb:=λ h=>HB1.out.rbn (Sp.BH h)
 have hqn:¬ P.own q:=λ h=>HB1.out.qn (Sp.BH h)
 have hkb2:=HB1.out.kb.trans K3.out (λ k hk hp=>HB1.out.own k hp)
 have hI3:=HIB.out.keepB hkb2 (λ b h e=>by have:=ints_block HIB.out h e;omega)
 refine(DSettle_any P W rb q lv _ m x _ (HB1.out.dc.keep K3.out hrn hqn) (HB1.out.ty.FD hkb2) HB1.out.few' HB1.out.ms hI3 (by omega) HUB.out).mono ?_
 rintro e w4 hp
 obtain⟨r',rfl,k4⟩:∃ r:Int,e=.returned (.int .i64 r)/\Kp (λ k=>k=rb) w3 w4:=by
  rcases hp with ⟨_,rfl,_,k⟩|⟨_,_,rfl,k,_⟩
  .exact ⟨_,rfl,k.Ak _⟩
  .exact ⟨_,rfl,k⟩
 have HP4:=sE hp
 have K4:=sE k4
 have f5:=k4.cell e5 HNR.out
 clear hp k4 hkb2 hrn hqn hI3
 refine hK _ _ ?_ (λ qZ=>?_)
 .exact f5
 clear hK K
 try simp only[Ar]
 obtain⟨hrr,HF⟩:r=r'/\Sl (∃ W' cs' q',Both w0 w4 P rb q' lv W' cs'):=by
  rcases HP.out with ⟨s0,h0,hs,k0⟩|⟨os,s0,h0,k0,hs⟩
  .rcases HP4.out with ⟨s1,h1,hd,k9⟩|⟨os',s1,h1,k9,q',hq',hd⟩
   .injection h0 with h0;injection h0 with h0;injection h1 with h1;injection h1 with h1
    exact⟨by omega,⟨W,cs,q,HB1.out.step K3.out hs HB1.out.gap K4.out hd (.inl rfl)⟩⟩
   .rw [s0] at s1;cases s1
  .rcases HP4.out with ⟨s1,h1,hd,k9⟩|⟨os',s1,h1,k9,q',hq',hd⟩
   .rw [s0] at s1;cases s1
   .rw [s0] at s1
    injection s1 with s1
    subst s1
    injection h0 with h0;injection h0 with h0;injection h1 with h1;injection h1 with h1
    exact⟨by omega,⟨_,_,q',HB1.out.step K3.out hs (settle_gaps (Da HB1.out.dc.row.fits s0 (Nat.zero_le _)).1) K4.out hd hq'⟩⟩
 subst hrr
 refine Ao 9 ?_;refine Ao 10 ?_
 try simp only[Ar]
 refine wpAnyH_done (by kernel_rfl) ?_ _
 go_wp2
 refine bodyPost_ret (v:=.bool true) (by simp[results,results40,go_sem]) rfl ?_
 obtain⟨W',cs',q',h⟩:=HF.out
 exact⟨W',cs',q',rfl,h⟩

set_option maxRecDepth 20000 in
theorem Does_else(w0 w:World)(P:Sp)(rb q:Nat)(lv:Value)(W:Nat->Nat)(cs:List Cel)(d g i n y:Int)(u:Value)(hb:Both w0 w P rb q lv W cs)(h0:¬ d=0)(h1:¬ d=1)(h2:¬ d=2)(h3:¬ d=3)(h5:¬ d=5)(hu:∃ a l c,u=.slice a l c):
  Calls prog 40 #[.pointer (some ⟨P.s,0,none⟩),.pointer (some ⟨rb,0,none⟩),DI d g i n y u] w (Eo w0 P rb lv w):=by
 obtain⟨ua,ul,uc,rfl⟩:=hu
 have p0:(d==0)=false:=by simpa using h0
 have p1:(d==1)=false:=by simpa using h1
 have p2:(d==2)=false:=by simpa using h2
 have p3:(d==3)=false:=by simpa using h3
 have p5:(d==5)=false:=by simpa using h5
 have HB0:=sE hb
 clear hb h0 h1 h2 h3 h5
 unfold DI
 go_enter func40,ntmps40
 go_wp2
 exact bodyPost_ret (v:=.bool true) (by simp[results,results40,go_sem]) rfl ⟨W,cs,q,rfl,HB0.out.Ad ((Kr _ _).alloc _)⟩

set_option maxRecDepth 20000 in
theorem Does_slot(w0 w:World)(P:Sp)(rb q:Nat)(lv:Value)(W:Nat->Nat)(cs:List Cel)(g i n y:Int)(u:Value)(hb:Both w0 w P rb q lv W cs)(hu:∃ a l c,u=.slice a l c)(hy:0<=y/\y<=18446744073709551615):
  Calls prog 40 #[.pointer (some ⟨P.s,0,none⟩),.pointer (some ⟨rb,0,none⟩),DI 2 g i n y u] w (Eo w0 P rb lv w):=by
 obtain⟨ua,ul,uc,rfl⟩:=hu
 obtain⟨w1,hw1⟩:∃ w1,w1=w.alloc (.cells #[.int .i64 2,.int .i64 g,.int .i64 i,.int .i64 n,.int .u64 y,.slice ua ul uc] 84):=⟨_,rfl⟩
 have k1:Kp Ab w w1:=by rw[hw1];exact (Kr _ w).alloc _
 have b1:w1.heap[w.heap.size]?=some (.cells #[.int .i64 2,.int .i64 g,.int .i64 i,.int .i64 n,.int .u64 y,.slice ua ul uc] 84 (0,0)):=by rw[hw1];exact wN w _
 have hl1:=lZ b1
 obtain⟨c0,c1,c2,c3,c4,c5⟩:=cells6 b1
 have B1:=hb.Ad k1
 have HB0:=sE hb
 have HB1:=sE B1
 have hbo:¬ P.own w.heap.size:=λ h=>by have:=hb.lt _ (Sp.BH h);omega
 have hbrb:¬ w.heap.size=rb:=λ h=>by have:=hb.dc.lt;omega
 have HNO:=sE hbo
 have HNR:=sE hbrb
 clear b1 k1 B1 hb hbo hbrb
 unfold DI
 obtain⟨Y,rfl⟩:=Int.eq_ofNat_of_zero_le hy.1
 have hY:Y<18446744073709551616:=by omega
 have HYb:=sE hY
 clear hY hy
 have HSl:=sE (DSl_any P W cs rb q lv g w1 HB1.out.dc HB1.out.cells HB1.out.tyAt HB1.out.few' HB1.out.ms)
 go_enter func40,ntmps40
 go_wp2_with fail
 rw[<- hw1]
 clear hw1
 try go_wp2_with fail
 refine HSl.out.mono ?_
 rintro e w2 ⟨r,rfl,k2,hcase⟩
 have K2:=sE k2
 have d1:=k2.cell c1 (λ h=>h)
 have d3:=k2.cell c3 (λ h=>h)
 have d4:=k2.cell c4 (λ h=>h)
 have hl2:w.heap.size<w2.heap.size:=Nat.lt_of_lt_of_le hl1 k2.size
 clear c0 c1 c2 c3 c4 c5 k2
 by_cases hn0:n<0
 .have p1:decide (n<0)=true:=dT hn0
  clear hcase
  go_wp2
  exact bodyPost_ret (v:=.bool true) (by simp[results,results40,go_sem]) rfl ⟨W,cs,q,rfl,HB1.out.Ad K2.out⟩
 .have p1:decide (n<0)=false:=dF hn0
  by_cases hnr:r<=n
  .have p2:decide (r<=n)=true:=dT hnr
   clear hcase
   go_wp2
   exact bodyPost_ret (v:=.bool true) (by simp[results,results40,go_sem]) rfl ⟨W,cs,q,rfl,HB1.out.Ad K2.out⟩
  .have p2:decide (r<=n)=false:=dF hnr
   rcases hcase with ⟨c,k,wds,m,hc,ht,hg,hty,hr⟩|⟨-,hr⟩
   .obtain ⟨j,rfl⟩:=Int.eq_ofNat_of_zero_le (show 0<=n by omega)
    obtain rfl:g=(c.g:Nat):=hg.symm
    have hjs:(j:Int)<AR k wds (c.ln:Nat):=by rw[<- hr];omega
    obtain⟨z1,z2,z3⟩:=slot_in HB1.out.cells hc ht hty hjs
    have hE:=kind_of HB1.out.cells hc ht hty
    have B2:=HB1.out.Ad K2.out
    obtain⟨f,hS2⟩:=B2.at_
    have HS2:=sE hS2
    have HB2:=sE B2
    have HC:=sE hc
    have HTg:=sE ht
    have HTy:=sE hty
    have HJ:=sE hjs
    have HE:=sE hE
    have HZ:Sl (2*c.g<2*c.g+1+j/\2*c.g+1+j<2*c.fin/\2*c.g+1+j<P.n):=⟨⟨z1,z2,z3⟩⟩
    have hsm:=HB1.out.small
    have hz9:2*c.g+1+j<P.n:=z3
    clear hc ht hg hty hr hjs hE hS2 B2 z1 z2 z3 hn0 hnr
    go_wp2_with fail
    refine wp_region_held_drew (S:=(λ w'=>w'.cell? ⟨w.heap.size,1,none⟩=some (.int .i64 (c.g:Nat)))) (by kernel_rfl) ?_ (λ qZ=>?_)
    .exact Ac ((Kr _ _).drew) d1
    refine Ao 0 ?_;refine Ao 2 ?_;refine Ao 4 ?_;refine Ao 5 ?_
    try simp only[Ar]
    refine AQ [1] ?_
    refine Ag rfl (λ K hK=>?_)
    go_simp
    refine(Cj P W f _ (HS2.out.Ad ((Kr _ _).drew))).mono ?_
    rintro e w3 ⟨rfl,rfl⟩
    refine hK _ _ ?_ (λ qZ=>?_)
    .exact Ac ((Kr _ _).drew) d1
    clear hK K
    try simp only[Ar]
    refine AQ [3] ?_
    refine Ag rfl (λ K hK=>?_)
    go_simp
    refine(STable_at P W f _ (HS2.out.Ad ((Kr _ _).drew))).mono ?_
    rintro e w3 ⟨rfl,rfl⟩
    refine hK _ _ ?_ (λ qZ=>?_)
    .exact Ac ((Kr _ _).drew) d1
    clear hK K
    try simp only[Ar]
    refine AQ [6] ?_
    refine Ag rfl (λ K hK=>?_)
    go_simp
    refine(SOf_any (c.g:Nat) P.a P.q P.n P.t P.tq W P.ts _ (HS2.out.Ad ((Kr _ _).drew)).fl (HS2.out.Ad ((Kr _ _).drew)).ar (HS2.out.Ad ((Kr _ _).drew)).tb).mono ?_
    intro e w3 hp
    unfold Dn at hp
    rw[HB2.out.cells.obj HC.out HTg.out] at hp
    obtain⟨vb,k',wds',m',h1,rfl,hv,hvb,k3⟩:=hp
    rw[HTy.out] at h1
    injection h1 with h1
    injection h1 with h1 h1' h1''
    subst h1 h1' h1''
    have K3:Sl (Kp Ab w2 w3):=⟨((Kr _ _).drew).then' k3⟩
    have HV:=sE hv
    have e1:=K3.out.cell d1 (λ h=>h)
    clear hv k3
    refine hK _ _ ?_ (λ qZ=>?_)
    .exact e1
    clear hK K
    try simp only[Ar]
    refine Ao 7 ?_;refine Ao 8 ?_;refine Ao 9 ?_;refine Ao 10 ?_;refine Ao 11 ?_
    try simp only[Ar]
    refine wpAnyH_done (by kernel_rfl) ?_ _
    have e3:=K3.out.cell d3 (λ h=>h)
    have e4:=K3.out.cell d4 (λ h=>h)
    have hs3:=K3.out.size
    have hl3:w.heap.size<w3.heap.size:=by omega
    have HB3:=sE (HB2.out.Ad K3.out)
    have HA3:=sE ((HS2.out.Ad K3.out).ar)
    have HSt:=sE (VStore_yes j Y vb P.a P.q P.n W c k wds m w3 HA3.out HV.out HE.out HJ.out HYb.out HZ.out.2.2)
    clear d1 d3 d4
    go_wp2_with fail
    refine HSt.out.mono ?_
    rintro e w4 ⟨rfl,k4,A4⟩
    have K4:=sE k4
    have HA4:=sE A4
    have hno:∀ b,¬ P.own b->¬ (b=P.a\/b=P.q):=λ b h e=>h (by rcases e with e|e;exact .inl e;exact .inr (.inl e))
    have f1:=k4.cell e1 (hno _ HNO.out)
    have f3:=k4.cell e3 (hno _ HNO.out)
    have f4:=k4.cell e4 (hno _ HNO.out)
    have hrn:¬ P.own rb:=λ h=>HB1.out.rbn (Sp.BH h)
    have hqn:¬ P.own q:=λ h=>HB1.out.qn (Sp.BH h)
    have D4:=HB3.out.dc.keep k4 (hno _ hrn) (hno _ hqn)
    have HD4:=sE D4
    obtain⟨cap,g0,g1⟩:=D4.head
    have hlr:=D4.lt
    have hs4:=k4.size
    have hl4:w.heap.size<w4.heap.size:=by omega
    clear e1 e3 e4 k4 A4 D4 hrn hqn hno
    go_wp2_with (at_builtin;go_loud (refine Ed rfl (.tmp 86) rfl q P.n cap W rfl HD4.out.row (by have:=HZ.out.2.2;omega) ?_;intro w5 q1 cap1 hr5 hq5 k5;have HR5:=sE hr5;have K5:=sE k5;have h1:=k5.cell f1 (λ h=>h);have h3:=k5.cell f3 (λ h=>h);have h4:=k5.cell f4 (λ h=>h);have a0:=hr5.at_ HZ.out.2.2;have a1:=hr5.free (2*c.g+1+j);have D5:=HD4.out.Ad k5;obtain ⟨cap2,b0,b1⟩:=D5.head;have b2:=D5.free 0;have hs5:=k5.size;have hl5:w.heap.size<w5.heap.size:=(by omega);have hlt5:=D5.lt;have hq5':=hr5.lt;have hne:¬ q1=rb:=(by omega);have hne':¬ rb=q1:=(by omega);have hne2:¬ q1=w.heap.size:=(by omega);have hne3:¬ w.heap.size=q1:=(by omega);have HD5:=sE D5;have hqq:¬ q=q1:=(by have:=HD4.out.row.lt;omega);clear f1 f3 f4 g0 g1 hr5 k5 D5))
    try go_wp2
    have k6:Kp (λ k=>k=q1) w5 (w5.setCell ⟨q1,2*c.g+1+j,none⟩ (.int .u64 (Y:Nat))):=(Kr (λ k=>k=q1) w5).setCell (λ _=>rfl) _
    have D6:=HD5.out.keep k6 hne' hqq
    obtain⟨cap3,hr6⟩:=D6.hr
    have k7:Kp (λ k=>k=rb) (w5.setCell ⟨q1,2*c.g+1+j,none⟩ (.int .u64 (Y:Nat))) ((w5.setCell ⟨q1,2*c.g+1+j,none⟩ (.int .u64 (Y:Nat))).setCell ⟨rb,0,none⟩ (.slice (some ⟨q1,0,none⟩) P.n cap1)):=(Kr (λ k=>k=rb) _).setCell (λ _=>rfl) _
    have D7:DocAt ((w5.setCell ⟨q1,2*c.g+1+j,none⟩ (.int .u64 (Y:Nat))).setCell ⟨rb,0,none⟩ (.slice (some ⟨q1,0,none⟩) P.n cap1)) rb q1 P.n (BM W (2*c.g+1+j) Y) lv:=
     ⟨⟨cap1,by rw[bZ hr6 _];rfl⟩,(HR5.out.store HZ.out.2.2 Y HYb.out).keep k7 hne⟩
    have kF:Kp (λ k=>k=rb) w4 ((w5.setCell ⟨q1,2*c.g+1+j,none⟩ (.int .u64 (Y:Nat))).setCell ⟨rb,0,none⟩ (.slice (some ⟨q1,0,none⟩) P.n cap1)):=
     ((K5.out.Ak _).trans k6 (λ b hb h=>by have h':b=q1:=h;omega)).trans k7 (λ _ _ h=>h)
    exact bodyPost_ret (v:=.bool true) (by simp[results,results40,go_sem]) rfl ⟨_,cs,q1,rfl,HB3.out.lay K4.out HA4.out HC.out HZ.out.1 HZ.out.2.1 kF D7 (.inr hq5)⟩
   .omega

end

end Go.Proofs.YtmfajopmppfldaaGreatDoor
