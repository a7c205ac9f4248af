/-
  Lemmas for the laws, together: PlayA.
-/
import Derived.Test.YtfkedlgpgmaemaaGreatDoorQas
import Derived.Test.YtfkedlgpgmaemaaGreatDoorQat
import Derived.Test.YtfkedlgpgmaemaaGreatDoorQam
import Derived.Test.YtfkedlgpgmaemaaGreatDoorQap
import Derived.Test.YtfkedlgpgmaemaaGreatDoorQao
import Derived.Test.YtfkedlgpgmaemaaGreatDoorQau
set_option linter.unusedVariables false
set_option maxHeartbeats 16000000
namespace Go.Proofs.YtfkedlgpgmaemaaGreatDoor
open Tryz
section
open Go.RowKit

def DMadeNew(n:Nat)(lv:Value)(w:World)(e:Ending)(w':World):Prop:=
 ∃ rb q,e=.returned (.pointer (some ⟨rb,0,none⟩))/\w.heap.size<=rb/\w.heap.size<=q/\DocAt w' rb q n (Bd (λ _=>0) 0 (n/2)) lv/\Kp Aa w w'

theorem DNew_at(n:Nat)(lv:Value)(w:World)(hlv:∃ a l c,lv=.slice a l c)(h1:1<=n)(h2:n<=65536):Calls prog 94 #[n,lv] w (DMadeNew n lv w):=by
 have hq:Sl (((n:Nat):Int)/2=((n/2:Nat):Int)):=⟨by omega⟩
 obtain⟨la,ll,lc,rfl⟩:=hlv
 go_enter func94,ntmps94
 go_wp2_with (at_make;obtain ⟨i0,hi,hz0,hz1,hz2⟩:=info_parts infoU64;go_loud (refine wpList_make_full _ rfl (.tmp 6) (.tmp 6) 49 rfl w.heap.size 79 i0 (.int .u64 0) 1 Fw hi hz0 hz1 .i64 .i64 n n n rfl rfl rfl rfl (by rw[hz2];omega) (by unfold maxLen;omega) (Nat.le_refl _) ?_);intro w1 hown hgrow;clear hi hz0 hz1 hz2)
 have hk:Kp Aa w w1:=(Kr Aa w).grown hgrow (λ _ e=>by cases e)
 obtain⟨w2,hw2⟩:∃ w2,w2=w1.alloc (.cells #[.slice (some ⟨w.heap.size,0,none⟩) n n,.slice la ll lc] 51):=⟨_,rfl⟩
 have hk2:Kp Aa w w2:=by rw[hw2];exact hk.alloc _
 have hD:DocAt w2 w1.heap.size w.heap.size n (λ _=>0) (.slice la ll lc):=by
  rw[hw2]
  rcases hown.2 with ⟨e,-⟩|⟨g,cap,cur,e,-,hheap,hnc,-,hsz,htake⟩
  .cases e
  .injection e with e1 _ e2
   injection e1 with e1
   injection e1 with e1 _
   subst e1 e2
   refine⟨⟨n,wN w1 _⟩,⟨cur,((Kr Aa w1).alloc _).at_ hheap id,by omega,λ j hj=>?_⟩,h2,λ j hj=>by omega⟩
   have h9:(cur.toList.take (n*1))[j]?=some (.int .u64 0):=by
    rw[htake,show (Value.int .u64 0).cells=#[Value.int .u64 0] from rfl,toList_madeCells_one,List.getElem?_replicate,if_pos (by omega)]
   rw[List.getElem?_take_of_lt (by omega)] at h9
   rwa [Array.getElem?_toList] at h9
 have hs1:=hk.size
 have HL:=sE (DR w1.heap.size w.heap.size n (λ _=>0) (.slice la ll lc) 0 (n/2) w2 hD (by omega))
 have HK2:=sE hk2
 clear hown hgrow hk hk2 hD
 go_wp2_with fail
 try rw[<- hw2]
 clear hw2
 try go_wp2_with fail
 try rw[hq.o]
 refine HL.o.mono ?_
 rintro e w3 ⟨rfl,q',D3,hq3,k3⟩
 have HD3:=sE D3
 have HK3:=sE k3
 have hqw:w.heap.size<=q':=by
  have:=HK2.o.size
  omega
 clear D3 hq3 k3
 go_wp2
 go_ret
 exact⟨_,q',rfl,hs1,hqw,HD3.o,HK2.o.trans HK3.o (λ i hi h=>by have h':i=w1.heap.size:=h;omega)⟩

structure Both(w0 w:World)(P:Sp)(rb q:Nat)(lv:Value)(W:Nat->Nat)(cs:List Cel):Prop where
 sp:AQ w P W cs
 dc:DocAt w rb q P.n W lv
 own:∀ k,P.own k->w0.heap.size<=k
 rb0:w0.heap.size<=rb
 rbn:¬ P.all rb
 qn:¬ P.all q
 gap:BX cs
 kb:Kp (λ k=>w0.heap.size<=k) w0 w
 ty:A8 w0 lv P.ts
 few:P.ts.length<=64
 ms:Cw P.ts

theorem A8.keepBase{w0 w:World}{v:Value}{xs:List TypR}(h:A8 w0 v xs)(k:Kp (λ k=>w0.heap.size<=k) w0 w):A8 w v xs:=by
 obtain⟨a,cap,rfl,h⟩:=h
 refine⟨a,cap,rfl,λ i x hx=>?_⟩
 obtain⟨b,o,hab,hb,c0,c1,c2⟩:=h i x hx
 have hn:¬ w0.heap.size<=b:=by omega
 exact⟨b,o,hab,Nat.lt_of_lt_of_le hb k.size,k.cell c0 hn,k.cell c1 hn,k.cell c2 hn⟩

theorem Both.tyAt{w0 w:World}{P:Sp}{rb q:Nat}{lv:Value}{W:Nat->Nat}{cs:List Cel}(h:Both w0 w P rb q lv W cs):A8 w lv P.ts:=h.ty.keepBase h.kb

theorem Both.few'{w0 w:World}{P:Sp}{rb q:Nat}{lv:Value}{W:Nat->Nat}{cs:List Cel}(h:Both w0 w P rb q lv W cs):P.ts.length<=17592186044416:=by have:=h.few;omega

theorem Both.cells{w0 w:World}{P:Sp}{rb q:Nat}{lv:Value}{W:Nat->Nat}{cs:List Cel}(h:Both w0 w P rb q lv W cs):CellsAt P W cs:=by
 obtain⟨f,_,hc,_⟩:=h.sp
 exact hc

theorem Both.at_{w0 w:World}{P:Sp}{rb q:Nat}{lv:Value}{W:Nat->Nat}{cs:List Cel}(h:Both w0 w P rb q lv W cs):∃ f,SpaceAt w P W f:=by
 obtain⟨f,hs,_⟩:=h.sp
 exact⟨f,hs⟩

theorem Both.lt{w0 w:World}{P:Sp}{rb q:Nat}{lv:Value}{W:Nat->Nat}{cs:List Cel}(h:Both w0 w P rb q lv W cs):∀ k,P.all k->k<w.heap.size:=by
 obtain⟨f,hs⟩:=h.at_
 exact hs.lt

theorem Both.small{w0 w:World}{P:Sp}{rb q:Nat}{lv:Value}{W:Nat->Nat}{cs:List Cel}(h:Both w0 w P rb q lv W cs):P.n<=65536:=h.dc.row.small

theorem Sp.Cr{P:Sp}{k:Nat}(h:P.own k):P.all k:=by
 rcases h with h|h|h <;> (unfold Sp.all;simp [h])

theorem Both.Ac{w0 w w':World}{P:Sp}{rb q:Nat}{lv:Value}{W:Nat->Nat}{cs:List Cel}(h:Both w0 w P rb q lv W cs)(k:Kp Aa w w'):Both w0 w' P rb q lv W cs:=
 ⟨h.sp.Ac k,h.dc.Ac k,h.own,h.rb0,h.rbn,h.qn,h.gap,h.kb.trans k (λ _ _ h=>h.elim),h.ty,h.few,h.ms⟩

theorem Both.size{w0 w:World}{P:Sp}{rb q:Nat}{lv:Value}{W:Nat->Nat}{cs:List Cel}(h:Both w0 w P rb q lv W cs):w0.heap.size<=w.heap.size:=h.kb.size

theorem Both.step{w0 w w1 w2:World}{P:Sp}{rb q q':Nat}{lv:Value}{W W':Nat->Nat}{cs cs':List Cel}(h:Both w0 w P rb q lv W cs)(k1:Kp P.own w w1)(hs:AQ w1 P W' cs')(hg:BX cs')(k2:Kp (λ k=>k=rb) w1 w2)
  (hd:DocAt w2 rb q' P.n W' lv) (hq:q'=q\/w1.heap.size<=q'):Both w0 w2 P rb q' lv W' cs':=
 ⟨hs.keep k2 (λ i hi e=>h.rbn (e▸hi)),hd,h.own,h.rb0,h.rbn,by
  rcases hq with e|e
  .rw [e];exact h.qn
  .exact λ ha=>by
    have:=h.lt q' ha
    have:=k1.size
    omega,hg,
  (h.kb.trans k1 (λ k hk hp=>h.own k hp)).trans k2 (λ k hk e=>by have e':k=rb:=e;rw [e'];exact h.rb0),h.ty,h.few,h.ms⟩

def Eo(w0:World)(P:Sp)(rb:Nat)(lv:Value)(w:World)(e:Ending)(w':World):Prop:=
 ∃ W' cs' q',e=.returned (.bool true)/\Both w0 w' P rb q' lv W' cs'

theorem cells6{w:World}{b:Nat}{a0 a1 a2 a3 a4 a5:Value}{T:TypeId}(hb:w.heap[b]?=some (.cells #[a0,a1,a2,a3,a4,a5] T (0,0))):
  w.cell? b=some a0/\w.cell? ⟨b,1,none⟩=some a1/\w.cell? ⟨b,2,none⟩=some a2/\w.cell? ⟨b,3,none⟩=some a3/\w.cell? ⟨b,4,none⟩=some a4/\w.cell? ⟨b,5,none⟩=some a5:=by
 refine⟨?_,?_,?_,?_,?_,?_⟩ <;> simp only[World.cell?,hb] <;> rfl

theorem start_of_drop{cs p1 g1 g2 p2:List Cel}{c:Cel}{j x y:Nat}(h:Dj cs j p1 g1 c g2 p2 x y):Ak cs j=true:=by
 obtain⟨h1,h2,h3,-⟩:=h
 unfold Ak
 rw[List.any_eq_true]
 exact⟨c,by rw[h1];simp,by simp[h2,h3]⟩

def DK(d g i n y:Int)(u:Value):Value:=.agg #[.int .i64 d,.int .i64 g,.int .i64 i,.int .i64 n,.int .u64 y,u]

def PutStep(P:Sp)(W:Nat->Nat)(cs:List Cel)(g i n:Int)(W':Nat->Nat)(cs':List Cel):Prop:=
 (¬ DW P.ts (P.n/2) cs g i n=0/\W'=W/\cs'=cs)\/
  (DW P.ts (P.n/2) cs g i n=0/\∃ (pre:List Cel) (c:Cel) (post:List Cel) (j a l S:Nat),cs=pre++c::post/\¬ c.tag=1/\g=(j:Nat)/\i=(a:Nat)/\n=(l:Nat)/\BB P.ts i n=(S:Nat)/\
   c.g<=j/\j+S<=c.fin/\0<S/\W'=putW W c j a l S/\cs'=putL pre c post j a l S)

def EP(w0:World)(P:Sp)(rb:Nat)(lv:Value)(R:(Nat->Nat)->List Cel->Prop)(w:World)(e:Ending)(w':World):Prop:=
 ∃ W' cs' q',e=.returned (.bool true)/\Both w0 w' P rb q' lv W' cs'/\R W' cs'

theorem EP.weak{w0:World}{P:Sp}{rb:Nat}{lv:Value}{R:(Nat->Nat)->List Cel->Prop}{w:World}{e:Ending}{w':World}(h:EP w0 P rb lv R w e w'):Eo w0 P rb lv w e w':=by
 obtain⟨W',cs',q',h1,h2,-⟩:=h
 exact⟨W',cs',q',h1,h2⟩

set_option maxRecDepth 20000 in
theorem Does_putR(w0 w:World)(P:Sp)(rb q:Nat)(lv:Value)(W:Nat->Nat)(cs:List Cel)(g i n y:Int)(u:Value)(hb:Both w0 w P rb q lv W cs)(hu:∃ a l c,u=.slice a l c):
  Calls prog 50 #[.pointer (some P.s),.pointer (some rb),DK 0 g i n y u] w (EP w0 P rb lv (λ W' cs'=>PutStep P W cs g i n W' cs') w):=by
 obtain⟨ua,ul,uc,rfl⟩:=hu
 obtain⟨w1,hw1⟩:∃ w1,w1=w.alloc (.cells #[(0:Int),.int .i64 g,.int .i64 i,.int .i64 n,.int .u64 y,.slice ua ul uc] 104):=⟨_,rfl⟩
 have k1:Kp Aa w w1:=by rw[hw1];exact (Kr _ w).alloc _
 have b1:w1.heap[w.heap.size]?=some (.cells #[(0:Int),.int .i64 g,.int .i64 i,.int .i64 n,.int .u64 y,.slice ua ul uc] 104 (0,0)):=by rw[hw1];exact wN w _
 have hl1:=lZ b1
 obtain⟨c0,c1,c2,c3,c4,c5⟩:=cells6 b1
 have B1:=hb.Ac k1
 have HB0:=sE hb
 have HB1:=sE B1
 have hbo:¬ P.own w.heap.size:=λ h=>by have:=hb.lt _ (Sp.Cr h);omega
 have hbrb:¬ w.heap.size=rb:=λ h=>by have:=hb.dc.lt;omega
 have HNO:=sE hbo
 have HNR:=sE hbrb
 clear b1 k1 B1 hb hbo hbrb
 unfold DK
 go_enter func50,ntmps50
 go_wp2_with fail
 rw[<- hw1]
 clear hw1
 try go_wp2_with fail
 refine wp_region_held_drew (S:=(λ w'=>w'.cell? ⟨w.heap.size,1,none⟩=some (.int .i64 g)/\w'.cell? ⟨w.heap.size,2,none⟩=some (.int .i64 i)/\w'.cell? ⟨w.heap.size,3,none⟩=some (.int .i64 n))) (by kernel_rfl) ?_ (λ qZ=>?_)
 .exact ⟨Ae ((Kr _ _).drew) c1,Ae ((Kr _ _).drew) c2,Ae ((Kr _ _).drew) c3⟩
 refine Ap 0 ?_;refine Ap 1 ?_;refine Ap 2 ?_;refine Ap 3 ?_;refine Ap 4 ?_;refine Ap 5 ?_;refine Ap 6 ?_;refine Ap 8 ?_;refine Ap 9 ?_;refine Ap 10 ?_;refine Ap 11 ?_;refine Ap 12 ?_;refine Ap 13 ?_;refine Ap 14 ?_
 try simp only[AB]
 refine Bp [7] ?_
 refine Ag rfl (λ K hK=>?_)
 go_simp
 refine(Put_anyW g i n P cs _ W (HB1.o.sp.Ac ((Kr _ _).drew))).mono ?_
 rintro e w2 ⟨rfl,k2,hp⟩
 have HP:=sE hp
 have K2:Sl (Kp P.own w1 w2):=⟨((Kr P.own w1).drew).trans k2 (λ _ _ h=>h)⟩
 have d1:=K2.o.cell c1 HNO.o
 have d2:=K2.o.cell c2 HNO.o
 have d3:=K2.o.cell c3 HNO.o
 clear hp k2
 refine hK _ _ ?_ (λ qZ=>?_)
 .exact ⟨d1,d2,d3⟩
 clear hK K
 try simp only[AB]
 refine Bp [15] ?_
 refine Ag rfl (λ K hK=>?_)
 go_simp
 have hrn:¬ P.own rb:=λ h=>HB1.o.rbn (Sp.Cr h)
 have hqn:¬ P.own q:=λ h=>HB1.o.qn (Sp.Cr h)
 have hkb2:=HB1.o.kb.trans K2.o (λ k hk hp=>HB1.o.own k hp)
 refine(DPut_any P W cs rb q lv g i n _ (HB1.o.dc.keep K2.o hrn hqn) HB1.o.cells (HB1.o.ty.keepBase hkb2) HB1.o.few HB1.o.ms).mono ?_
 rintro e w3 ⟨rfl,k3,hp⟩
 have HP3:=sE hp
 have K3:=sE k3
 have e1:=k3.cell d1 HNR.o
 have e2:=k3.cell d2 HNR.o
 have e3:=k3.cell d3 HNR.o
 clear hp k3 hkb2 hrn hqn
 refine hK _ _ ?_ (λ qZ=>?_)
 .exact ⟨e1,e2,e3⟩
 clear hK K
 try simp only[AB]
 refine Ap 16 ?_;refine Ap 17 ?_
 try simp only[AB]
 refine wpAnyH_done (by kernel_rfl) ?_ _
 go_wp2
 refine bodyPost_ret (v:=.bool true) (by simp[results,results50,go_sem]) rfl ?_
 rcases HP.o with ⟨h0,hs⟩|⟨h0,pre,c,post,j,a,l,S,hcs,ht,hg,hi,hn,hS,hc1,hc2,hS0,hs⟩
 .rcases HP3.o with ⟨h1,hd⟩|⟨h1,-⟩
  .exact ⟨W,cs,q,rfl,HB1.o.step K2.o hs HB1.o.gap K3.o hd (.inl rfl),.inl ⟨h0,rfl,rfl⟩⟩
  .exact absurd h1 h0
 .rcases HP3.o with ⟨h1,-⟩|⟨h1,x,j',a',l',S',hx,hg',hi',hn',hS',hhit,q',hq',hd⟩
  .exact absurd h0 h1
  .obtain rfl:j=j':=by omega
   obtain rfl:a=a':=by omega
   obtain rfl:l=l':=by omega
   obtain rfl:S=S':=by omega
   obtain⟨y1,y2,y3,y4⟩:=hhit
   have hcx:c=x:=cell_only HB1.o.cells.tl (c:=c) (d:=x) (by rw[hcs];simp) hx (j:=j) hc1 (by omega) y2 y3
   subst hcx
   exact⟨_,_,q',rfl,HB1.o.step K2.o hs (put_gaps (hcs▸HB1.o.gap)) K3.o hd (.inr hq'),.inr ⟨h0,pre,c,post,j,a,l,S,hcs,ht,hg,hi,hn,hS,hc1,hc2,hS0,rfl,rfl⟩⟩

theorem Does_put(w0 w:World)(P:Sp)(rb q:Nat)(lv:Value)(W:Nat->Nat)(cs:List Cel)(g i n y:Int)(u:Value)(hb:Both w0 w P rb q lv W cs)(hu:∃ a l c,u=.slice a l c):
  Calls prog 50 #[.pointer (some P.s),.pointer (some rb),DK 0 g i n y u] w (Eo w0 P rb lv w):=
 (Does_putR w0 w P rb q lv W cs g i n y u hb hu).mono λ_ _ h=>h.weak

set_option maxRecDepth 20000 in
theorem Does_drop(w0 w:World)(P:Sp)(rb q:Nat)(lv:Value)(W:Nat->Nat)(cs:List Cel)(g i n y:Int)(u:Value)(hb:Both w0 w P rb q lv W cs)(hu:∃ a l c,u=.slice a l c):
  Calls prog 50 #[.pointer (some P.s),.pointer (some rb),DK 1 g i n y u] w (Eo w0 P rb lv w):=by
 obtain⟨ua,ul,uc,rfl⟩:=hu
 obtain⟨w1,hw1⟩:∃ w1,w1=w.alloc (.cells #[(1:Int),.int .i64 g,.int .i64 i,.int .i64 n,.int .u64 y,.slice ua ul uc] 104):=⟨_,rfl⟩
 have k1:Kp Aa w w1:=by rw[hw1];exact (Kr _ w).alloc _
 have b1:w1.heap[w.heap.size]?=some (.cells #[(1:Int),.int .i64 g,.int .i64 i,.int .i64 n,.int .u64 y,.slice ua ul uc] 104 (0,0)):=by rw[hw1];exact wN w _
 have hl1:=lZ b1
 obtain⟨c0,c1,c2,c3,c4,c5⟩:=cells6 b1
 have B1:=hb.Ac k1
 have HB0:=sE hb
 have HB1:=sE B1
 have hbo:¬ P.own w.heap.size:=λ h=>by have:=hb.lt _ (Sp.Cr h);omega
 have hbrb:¬ w.heap.size=rb:=λ h=>by have:=hb.dc.lt;omega
 have HNO:=sE hbo
 have HNR:=sE hbrb
 clear b1 k1 B1 hb hbo hbrb
 unfold DK
 go_enter func50,ntmps50
 go_wp2_with fail
 rw[<- hw1]
 clear hw1
 try go_wp2_with fail
 refine wp_region_held_drew (S:=(λ w'=>w'.cell? ⟨w.heap.size,1,none⟩=some (.int .i64 g))) (by kernel_rfl) ?_ (λ qZ=>?_)
 .exact Ae ((Kr _ _).drew) c1
 refine Ap 0 ?_;refine Ap 1 ?_;refine Ap 2 ?_;refine Ap 4 ?_;refine Ap 5 ?_;refine Ap 6 ?_
 try simp only[AB]
 refine Bp [3] ?_
 refine Ag rfl (λ K hK=>?_)
 go_simp
 refine(Drop_anyW g P cs _ W (HB1.o.sp.Ac ((Kr _ _).drew))).mono ?_
 rintro e w2 hp
 obtain⟨r,rfl,k2⟩:∃ r:Int,e=.returned (.int .i64 r)/\Kp P.own w1.drew w2:=by
  rcases hp with ⟨rfl,_,k⟩|⟨rfl,k,_⟩
  .exact ⟨_,rfl,k.Aw _⟩
  .exact ⟨_,rfl,k⟩
 have HP:=sE hp
 have K2:Sl (Kp P.own w1 w2):=⟨((Kr P.own w1).drew).trans k2 (λ _ _ h=>h)⟩
 have d1:=K2.o.cell c1 HNO.o
 clear hp k2
 refine hK _ _ ?_ (λ qZ=>?_)
 .exact d1
 clear hK K
 try simp only[AB]
 refine Bp [7] ?_
 refine Ag rfl (λ K hK=>?_)
 go_simp
 have hrn:¬ P.own rb:=λ h=>HB1.o.rbn (Sp.Cr h)
 have hqn:¬ P.own q:=λ h=>HB1.o.qn (Sp.Cr h)
 have hkb2:=HB1.o.kb.trans K2.o (λ k hk hp=>HB1.o.own k hp)
 refine(DDrop_any P W cs rb q lv g _ (HB1.o.dc.keep K2.o hrn hqn) HB1.o.cells (HB1.o.ty.keepBase hkb2) HB1.o.few' HB1.o.ms).mono ?_
 rintro e w3 hp
 obtain⟨r',rfl,k3⟩:∃ r:Int,e=.returned (.int .i64 r)/\Kp (λ k=>k=rb) w2 w3:=by
  rcases hp with ⟨rfl,_,_,k⟩|⟨rfl,k,_⟩
  .exact ⟨_,rfl,k.Aw _⟩
  .exact ⟨_,rfl,k⟩
 have HP3:=sE hp
 have K3:=sE k3
 have e1:=k3.cell d1 HNR.o
 clear hp k3 hkb2 hrn hqn
 refine hK _ _ ?_ (λ qZ=>?_)
 .exact e1
 clear hK K
 try simp only[AB]
 obtain⟨hrr,HF⟩:r=r'/\Sl (∃ W' cs' q',Both w0 w3 P rb q' lv W' cs'):=by
  rcases HP.o with ⟨h0,hno,k0⟩|⟨h0,k0,j,p1,g1,c,g2,p2,x,z,hg,hdo,hs⟩
  .rcases HP3.o with ⟨h1,hno1,hd,k4⟩|⟨h1,k4,j,p1,g1,c,g2,p2,x,z,hg,hdo,q',hq',hd⟩
   .injection h0 with h0;injection h0 with h0;injection h1 with h1;injection h1 with h1
    exact⟨by omega,⟨W,cs,q,HB1.o.step K2.o (HB1.o.sp.Ac ((Kr Aa w1).drew.then' k0)) HB1.o.gap K3.o hd (.inl rfl)⟩⟩
   .have:=start_of_drop hdo
    rw[hno j hg] at this
    cases this
  .rcases HP3.o with ⟨h1,hno1,hd,k4⟩|⟨h1,k4,j',p1',g1',c',g2',p2',x',z',hg',hdo',q',hq',hd⟩
   .have:=start_of_drop hdo
    rw[hno1 j hg] at this
    cases this
   .injection h0 with h0;injection h0 with h0;injection h1 with h1;injection h1 with h1
    obtain rfl:j=j':=by omega
    obtain⟨rfl,rfl,rfl,rfl⟩:=hdo.uniq HB1.o.cells.tl hdo'
    exact⟨by omega,⟨_,_,q',HB1.o.step K2.o hs (drop_gaps HB1.o.gap hdo) K3.o hd hq'⟩⟩
 subst hrr
 refine Ap 8 ?_;refine Ap 9 ?_
 try simp only[AB]
 refine wpAnyH_done (by kernel_rfl) ?_ _
 go_wp2
 refine bodyPost_ret (v:=.bool true) (by simp[results,results50,go_sem]) rfl ?_
 obtain⟨W',cs',q',h⟩:=HF.o
 exact⟨W',cs',q',rfl,h⟩

theorem Bw.keepN1{w w':World}{v:Value}{len:Nat}{x:Nat->Nat->Int}(h:Bw 1 w v len x)(k:Kp Aa w w'):Bw 1 w' v len x:=h.keep k (λ _ _ h=>h)

theorem ints_block{w:World}{v:Value}{len:Nat}{x:Nat->Nat->Int}(h:Bw 1 w v len x)(h0:0<len){b:Nat}(hb:v.ownBlock=some b):b<w.heap.size:=by
 obtain⟨a,cap,rfl,hx⟩:=ints_at h
 obtain⟨g,o,rfl,hg,-⟩:=hx 0 h0
 have:g=b:=by injection hb
 omega

theorem settle_gaps{os:List Cel}{H:Nat}(hr:CX 0 os H):BX (Df 0 os H):=λ c hc ht=>by
 rcases settleL_mem hr hc with m|⟨g,m,h0,h1,rfl⟩
 .exact absurd (hr.mem m).2.1 ht
 .exact ⟨rfl,rfl,rfl⟩

theorem slot_in{P:Sp}{W:Nat->Nat}{cs:List Cel}{c:Cel}{k wds:Int}{m j:Nat}(h:CellsAt P W cs)(hc:c∈cs)(ht:c.tag=1)(hty:typeOf P.ts (c.ty:Nat)=some ⟨k,wds,m⟩)(hj:(j:Int)<AZ k wds (c.ln:Nat)):
  2*c.g<2*c.g+1+j/\2*c.g+1+j<2*c.fin/\2*c.g+1+j<P.n:=by
 obtain⟨e1,e2⟩:=(h.ok c hc).2 ht
 have hm:=h.tl.mem hc
 unfold BB at e2
 rw[hty] at e2
 simp only[FK] at e2
 unfold Cel.fin
 omega

theorem kind_of{P:Sp}{W:Nat->Nat}{cs:List Cel}{c:Cel}{k wds:Int}{m:Nat}(h:CellsAt P W cs)(hc:c∈cs)(ht:c.tag=1)(hty:typeOf P.ts (c.ty:Nat)=some ⟨k,wds,m⟩):AU k wds m (c.ln:Nat)=0:=by
 obtain⟨e1,e2⟩:=(h.ok c hc).2 ht
 unfold AV at e1
 rw[hty] at e1
 exact e1

theorem Both.lay{w0 w w1 w2:World}{P:Sp}{rb q q' z Y:Nat}{lv:Value}{W:Nat->Nat}{cs:List Cel}{c:Cel}(h:Both w0 w P rb q lv W cs)(k1:Kp (λ i=>i=P.a\/i=P.q) w w1)(A:ArenaAt w1 P.a P.q (DN W z Y) P.n)(hc:c∈cs)(h1:2*c.g<z)(h2:z<2*c.fin)
  (k2:Kp (λ k=>k=rb) w1 w2) (hd:DocAt w2 rb q' P.n (DN W z Y) lv) (hq:q'=q\/w1.heap.size<=q'):Both w0 w2 P rb q' lv (DN W z Y) cs:=by
 obtain⟨f,hs,hcs,hst⟩:=h.sp
 exact h.step (k1.mono (λ i _ hi=>by rcases hi with e|e;exact .inl e;exact .inr (.inl e))) ⟨f,hs.words k1 A,hcs.store hc h1 h2 Y,hst⟩ h.gap k2 hd hq

set_option maxRecDepth 20000 in
theorem Does_settle(w0 w:World)(P:Sp)(rb q:Nat)(lv:Value)(W:Nat->Nat)(cs:List Cel)(g i n y:Int)(u:Value)(hb:Both w0 w P rb q lv W cs)(hu:∃ a l c,u=.slice a l c)(m:Nat)(x:Nat->Nat->Int)(hI:Bw 1 w0 u m x)(hm:m<=300):
  Calls prog 50 #[.pointer (some P.s),.pointer (some rb),DK 3 g i n y u] w (Eo w0 P rb lv w):=by
 have HIB:=sE hI
 have hub:0<m->u.ownBlock≠some rb:=λ h e=>by have:=ints_block hI h e;have:=hb.rb0;omega
 have hIw:Bw 1 w u m x:=hI.keepB hb.kb (λ b h e=>by have:=ints_block hI h e;omega)
 have hIk:=hIw.keepN1 (w':=w.alloc (.cells #[(3:Int),.int .i64 g,.int .i64 i,.int .i64 n,.int .u64 y,u] 104)) ((Kr _ _).alloc _)
 obtain⟨ua,ul,uc,rfl⟩:=hu
 obtain⟨w1,hw1⟩:∃ w1,w1=w.alloc (.cells #[(3:Int),.int .i64 g,.int .i64 i,.int .i64 n,.int .u64 y,.slice ua ul uc] 104):=⟨_,rfl⟩
 have k1:Kp Aa w w1:=by rw[hw1];exact (Kr _ w).alloc _
 have b1:w1.heap[w.heap.size]?=some (.cells #[(3:Int),.int .i64 g,.int .i64 i,.int .i64 n,.int .u64 y,.slice ua ul uc] 104 (0,0)):=by rw[hw1];exact wN w _
 have hl1:=lZ b1
 obtain⟨c0,c1,c2,c3,c4,c5⟩:=cells6 b1
 have B1:=hb.Ac k1
 rw[<- hw1] at hIk
 have HI:=sE hIk
 have HUB:=sE hub
 clear hI hIw hIk hub
 have HB0:=sE hb
 have HB1:=sE B1
 have hbo:¬ P.own w.heap.size:=λ h=>by have:=hb.lt _ (Sp.Cr h);omega
 have hbrb:¬ w.heap.size=rb:=λ h=>by have:=hb.dc.lt;omega
 have HNO:=sE hbo
 have HNR:=sE hbrb
 clear b1 k1 B1 hb hbo hbrb
 unfold DK
 go_enter func50,ntmps50
 go_wp2_with fail
 rw[<- hw1]
 clear hw1
 try go_wp2_with fail
 refine wp_region_held_drew (S:=(λ w'=>w'.cell? ⟨w.heap.size,5,none⟩=some (.slice ua ul uc))) (by kernel_rfl) ?_ (λ qZ=>?_)
 .exact Ae ((Kr _ _).drew) c5
 refine Ap 0 ?_;refine Ap 1 ?_;refine Ap 2 ?_;refine Ap 5 ?_;refine Ap 6 ?_;refine Ap 7 ?_
 try simp only[AB]
 refine Bp [3] ?_
 refine Ag rfl (λ K hK=>?_)
 obtain⟨i0,hi0,hz0,hz1,hz2⟩:=info_parts Be
 refine step_append_ints rfl _ _ 24 rfl 3 i0 Ar hi0 hz0 hz1 hz2 rfl _ m x rfl (HI.o.keepN1 ((Kr _ _).drew)) (by omega) ?_
 intro v' w2 hown hgr
 clear hi0 hz0 hz1 hz2
 have kA:Kp Aa w1 w2:=((Kr Aa w1).drew).grown hgr (λ k e _=>by cases e)
 have hbd:∀ i,i<m->-9223372036854775808<=x i 0/\x i 0<=9223372036854775807:=λ i hi=>by
  obtain⟨a,cap,_,hx⟩:=ints_at HI.o
  obtain⟨_,_,_,_,_,h1,h2⟩:=hx i hi
  exact⟨h1,h2⟩
 have HI2:Sl (Bw 1 w2 v' m x):=⟨Bw.Bc hown hbd⟩
 have HOW:Sl (∀ b,v'.ownBlock=some b->w1.heap.size<=b):=⟨λ b e=>(Ad hown e).1⟩
 have KA:=sE kA
 have d5:=kA.cell c5 id
 clear hown hgr hbd kA
 refine hK _ _ ?_ (λ qZ=>?_)
 .exact d5
 clear hK K
 try simp only[AB]
 refine Bp [4] ?_
 refine Ag rfl (λ K hK=>?_)
 go_simp
 refine(SSettle_any P W cs v' m x _ (HB1.o.sp.Ac KA.o) HI2.o (by omega) (λ _ b e h=>by have:=HOW.o b e;have:=HB1.o.lt b (Sp.Cr h);omega)).mono ?_
 rintro e w3 hp
 obtain⟨r,rfl,k3⟩:∃ r:Int,e=.returned (.int .i64 r)/\Kp P.own w2 w3:=by
  rcases hp with ⟨_,rfl,_,k⟩|⟨_,_,rfl,k,_⟩
  .exact ⟨_,rfl,k.Aw _⟩
  .exact ⟨_,rfl,k⟩
 have HP:=sE hp
 have K3:Sl (Kp P.own w1 w3):=⟨(KA.o.Aw _).trans k3 (λ _ _ h=>h)⟩
 have e5:=K3.o.cell c5 HNO.o
 clear hp k3
 refine hK _ _ ?_ (λ qZ=>?_)
 .exact e5
 clear hK K
 try simp only[AB]
 refine Bp [8] ?_
 refine Ag rfl (λ K hK=>?_)
 go_simp
 have hrn:¬ P.own rb:=λ h=>HB1.o.rbn (Sp.Cr h)
 have hqn:¬ P.own q:=λ h=>HB1.o.qn (Sp.Cr h)
 have hkb2:=HB1.o.kb.trans K3.o (λ k hk hp=>HB1.o.own k hp)
 have hI3:=HIB.o.keepB hkb2 (λ b h e=>by have:=ints_block HIB.o h e;omega)
 refine(DSettle_any P W rb q lv _ m x _ (HB1.o.dc.keep K3.o hrn hqn) (HB1.o.ty.keepBase hkb2) HB1.o.few' HB1.o.ms hI3 (by omega) HUB.o).mono ?_
 rintro e w4 hp
 obtain⟨r',rfl,k4⟩:∃ r:Int,e=.returned (.int .i64 r)/\Kp (λ k=>k=rb) w3 w4:=by
  rcases hp with ⟨_,rfl,_,k⟩|⟨_,_,rfl,k,_⟩
  .exact ⟨_,rfl,k.Aw _⟩
  .exact ⟨_,rfl,k⟩
 have HP4:=sE hp
 have K4:=sE k4
 have f5:=k4.cell e5 HNR.o
 clear hp k4 hkb2 hrn hqn hI3
 refine hK _ _ ?_ (λ qZ=>?_)
 .exact f5
 clear hK K
 try simp only[AB]
 obtain⟨hrr,HF⟩:r=r'/\Sl (∃ W' cs' q',Both w0 w4 P rb q' lv W' cs'):=by
  rcases HP.o with ⟨s0,h0,hs,k0⟩|⟨os,s0,h0,k0,hs⟩
  .rcases HP4.o with ⟨s1,h1,hd,k9⟩|⟨os',s1,h1,k9,q',hq',hd⟩
   .injection h0 with h0;injection h0 with h0;injection h1 with h1;injection h1 with h1
    exact⟨by omega,⟨W,cs,q,HB1.o.step K3.o hs HB1.o.gap K4.o hd (.inl rfl)⟩⟩
   .rw [s0] at s1;cases s1
  .rcases HP4.o with ⟨s1,h1,hd,k9⟩|⟨os',s1,h1,k9,q',hq',hd⟩
   .rw [s0] at s1;cases s1
   .rw [s0] at s1
    injection s1 with s1
    subst s1
    injection h0 with h0;injection h0 with h0;injection h1 with h1;injection h1 with h1
    exact⟨by omega,⟨_,_,q',HB1.o.step K3.o hs (settle_gaps (C8 HB1.o.dc.row.fits s0 (Nat.zero_le _)).1) K4.o hd hq'⟩⟩
 subst hrr
 refine Ap 9 ?_;refine Ap 10 ?_
 try simp only[AB]
 refine wpAnyH_done (by kernel_rfl) ?_ _
 go_wp2
 refine bodyPost_ret (v:=.bool true) (by simp[results,results50,go_sem]) rfl ?_
 obtain⟨W',cs',q',h⟩:=HF.o
 exact⟨W',cs',q',rfl,h⟩

set_option maxRecDepth 20000 in
theorem Does_else(w0 w:World)(P:Sp)(rb q:Nat)(lv:Value)(W:Nat->Nat)(cs:List Cel)(d g i n y:Int)(u:Value)(hb:Both w0 w P rb q lv W cs)(h0:¬ d=0)(h1:¬ d=1)(h2:¬ d=2)(h3:¬ d=3)(h5:¬ d=5)(hu:∃ a l c,u=.slice a l c):
  Calls prog 50 #[.pointer (some P.s),.pointer (some rb),DK d g i n y u] w (Eo w0 P rb lv w):=by
 obtain⟨ua,ul,uc,rfl⟩:=hu
 have p0:(d==0)=false:=by simpa using h0
 have p1:(d==1)=false:=by simpa using h1
 have p2:(d==2)=false:=by simpa using h2
 have p3:(d==3)=false:=by simpa using h3
 have p5:(d==5)=false:=by simpa using h5
 have HB0:=sE hb
 clear hb h0 h1 h2 h3 h5
 unfold DK
 go_enter func50,ntmps50
 go_wp2
 exact bodyPost_ret (v:=.bool true) (by simp[results,results50,go_sem]) rfl ⟨W,cs,q,rfl,HB0.o.Ac ((Kr _ _).alloc _)⟩

set_option maxRecDepth 20000 in
theorem Does_slot(w0 w:World)(P:Sp)(rb q:Nat)(lv:Value)(W:Nat->Nat)(cs:List Cel)(g i n y:Int)(u:Value)(hb:Both w0 w P rb q lv W cs)(hu:∃ a l c,u=.slice a l c)(hy:0<=y/\y<=18446744073709551615):
  Calls prog 50 #[.pointer (some P.s),.pointer (some rb),DK 2 g i n y u] w (Eo w0 P rb lv w):=by
 obtain⟨ua,ul,uc,rfl⟩:=hu
 obtain⟨w1,hw1⟩:∃ w1,w1=w.alloc (.cells #[(2:Int),.int .i64 g,.int .i64 i,.int .i64 n,.int .u64 y,.slice ua ul uc] 104):=⟨_,rfl⟩
 have k1:Kp Aa w w1:=by rw[hw1];exact (Kr _ w).alloc _
 have b1:w1.heap[w.heap.size]?=some (.cells #[(2:Int),.int .i64 g,.int .i64 i,.int .i64 n,.int .u64 y,.slice ua ul uc] 104 (0,0)):=by rw[hw1];exact wN w _
 have hl1:=lZ b1
 obtain⟨c0,c1,c2,c3,c4,c5⟩:=cells6 b1
 have B1:=hb.Ac k1
 have HB0:=sE hb
 have HB1:=sE B1
 have hbo:¬ P.own w.heap.size:=λ h=>by have:=hb.lt _ (Sp.Cr h);omega
 have hbrb:¬ w.heap.size=rb:=λ h=>by have:=hb.dc.lt;omega
 have HNO:=sE hbo
 have HNR:=sE hbrb
 clear b1 k1 B1 hb hbo hbrb
 unfold DK
 obtain⟨Y,rfl⟩:=Int.eq_ofNat_of_zero_le hy.1
 have hY:Y<18446744073709551616:=by omega
 have HYb:=sE hY
 clear hY hy
 have HSl:=sE (DSl_any P W cs rb q lv g w1 HB1.o.dc HB1.o.cells HB1.o.tyAt HB1.o.few' HB1.o.ms)
 go_enter func50,ntmps50
 go_wp2_with fail
 rw[<- hw1]
 clear hw1
 try go_wp2_with fail
 refine HSl.o.mono ?_
 rintro e w2 ⟨r,rfl,k2,hcase⟩
 have K2:=sE k2
 have d1:=k2.cell c1 id
 have d3:=k2.cell c3 id
 have d4:=k2.cell c4 id
 have hl2:w.heap.size<w2.heap.size:=Nat.lt_of_lt_of_le hl1 k2.size
 clear c0 c1 c2 c3 c4 c5 k2
 by_cases hn0:n<0
 .have p1:decide (n<0)=true:=dT hn0
  clear hcase
  go_wp2
  exact bodyPost_ret (v:=.bool true) (by simp[results,results50,go_sem]) rfl ⟨W,cs,q,rfl,HB1.o.Ac K2.o⟩
 .have p1:decide (n<0)=false:=dF hn0
  by_cases hnr:r<=n
  .have p2:decide (r<=n)=true:=dT hnr
   clear hcase
   go_wp2
   exact bodyPost_ret (v:=.bool true) (by simp[results,results50,go_sem]) rfl ⟨W,cs,q,rfl,HB1.o.Ac K2.o⟩
  .have p2:decide (r<=n)=false:=dF hnr
   rcases hcase with ⟨c,k,wds,m,hc,ht,hg,hty,hr⟩|⟨-,hr⟩
   .obtain ⟨j,rfl⟩:=Int.eq_ofNat_of_zero_le (show 0<=n by omega)
    obtain rfl:g=(c.g:Nat):=hg.symm
    have hjs:(j:Int)<AZ k wds (c.ln:Nat):=by rw[<- hr];omega
    obtain⟨z1,z2,z3⟩:=slot_in HB1.o.cells hc ht hty hjs
    have hE:=kind_of HB1.o.cells hc ht hty
    have B2:=HB1.o.Ac K2.o
    obtain⟨f,hS2⟩:=B2.at_
    have HS2:=sE hS2
    have HB2:=sE B2
    have HC:=sE hc
    have HTg:=sE ht
    have HTy:=sE hty
    have HJ:=sE hjs
    have HE:=sE hE
    have HZ:Sl (2*c.g<2*c.g+1+j/\2*c.g+1+j<2*c.fin/\2*c.g+1+j<P.n):=⟨⟨z1,z2,z3⟩⟩
    have hsm:=HB1.o.small
    have hz9:2*c.g+1+j<P.n:=z3
    clear hc ht hg hty hr hjs hE hS2 B2 z1 z2 z3 hn0 hnr
    go_wp2_with fail
    refine wp_region_held_drew (S:=(λ w'=>w'.cell? ⟨w.heap.size,1,none⟩=some (.int .i64 c.g))) (by kernel_rfl) ?_ (λ qZ=>?_)
    .exact Ae ((Kr _ _).drew) d1
    refine Ap 0 ?_;refine Ap 2 ?_;refine Ap 4 ?_;refine Ap 5 ?_
    try simp only[AB]
    refine Bp [1] ?_
    refine Ag rfl (λ K hK=>?_)
    go_simp
    refine(FR P W f _ (HS2.o.Ac ((Kr _ _).drew))).mono ?_
    rintro e w3 ⟨rfl,rfl⟩
    refine hK _ _ ?_ (λ qZ=>?_)
    .exact Ae ((Kr _ _).drew) d1
    clear hK K
    try simp only[AB]
    refine Bp [3] ?_
    refine Ag rfl (λ K hK=>?_)
    go_simp
    refine(STable_at P W f _ (HS2.o.Ac ((Kr _ _).drew))).mono ?_
    rintro e w3 ⟨rfl,rfl⟩
    refine hK _ _ ?_ (λ qZ=>?_)
    .exact Ae ((Kr _ _).drew) d1
    clear hK K
    try simp only[AB]
    refine Bp [6] ?_
    refine Ag rfl (λ K hK=>?_)
    go_simp
    refine(SOf_any (c.g:Nat) P.a P.q P.n P.t P.tq W P.ts _ (HS2.o.Ac ((Kr _ _).drew)).fl (HS2.o.Ac ((Kr _ _).drew)).ar (HS2.o.Ac ((Kr _ _).drew)).tb).mono ?_
    intro e w3 hp
    unfold Db at hp
    rw[HB2.o.cells.obj HC.o HTg.o] at hp
    obtain⟨vb,k',wds',m',h1,rfl,hv,hvb,k3⟩:=hp
    rw[HTy.o] at h1
    injection h1 with h1
    injection h1 with h1 h1' h1''
    subst h1 h1' h1''
    have K3:Sl (Kp Aa w2 w3):=⟨((Kr _ _).drew).then' k3⟩
    have HV:=sE hv
    have e1:=K3.o.cell d1 id
    clear hv k3
    refine hK _ _ ?_ (λ qZ=>?_)
    .exact e1
    clear hK K
    try simp only[AB]
    refine Ap 7 ?_;refine Ap 8 ?_;refine Ap 9 ?_;refine Ap 10 ?_;refine Ap 11 ?_
    try simp only[AB]
    refine wpAnyH_done (by kernel_rfl) ?_ _
    have e3:=K3.o.cell d3 id
    have e4:=K3.o.cell d4 id
    have hs3:=K3.o.size
    have hl3:w.heap.size<w3.heap.size:=by omega
    have HB3:=sE (HB2.o.Ac K3.o)
    have HA3:=sE ((HS2.o.Ac K3.o).ar)
    have HSt:=sE (VStore_yes j Y vb P.a P.q P.n W c k wds m w3 HA3.o HV.o HE.o HJ.o HYb.o HZ.o.2.2)
    clear d1 d3 d4
    go_wp2_with fail
    refine HSt.o.mono ?_
    rintro e w4 ⟨rfl,k4,A4⟩
    have K4:=sE k4
    have HA4:=sE A4
    have hno:∀ b,¬ P.own b->¬ (b=P.a\/b=P.q):=λ b h e=>h (by rcases e with e|e;exact .inl e;exact .inr (.inl e))
    have f1:=k4.cell e1 (hno _ HNO.o)
    have f3:=k4.cell e3 (hno _ HNO.o)
    have f4:=k4.cell e4 (hno _ HNO.o)
    have hrn:¬ P.own rb:=λ h=>HB1.o.rbn (Sp.Cr h)
    have hqn:¬ P.own q:=λ h=>HB1.o.qn (Sp.Cr h)
    have D4:=HB3.o.dc.keep k4 (hno _ hrn) (hno _ hqn)
    have HD4:=sE D4
    obtain⟨cap,g0,g1⟩:=D4.head
    have hlr:=D4.lt
    have hs4:=k4.size
    have hl4:w.heap.size<w4.heap.size:=by omega
    clear e1 e3 e4 k4 A4 D4 hrn hqn hno
    go_wp2_with (at_builtin;go_loud (refine copy_words rfl (.tmp 86) rfl q P.n cap W rfl HD4.o.row (by have:=HZ.o.2.2;omega) ?_;intro w5 q1 cap1 hr5 hq5 k5;have HR5:=sE hr5;have K5:=sE k5;have h1:=k5.cell f1 id;have h3:=k5.cell f3 id;have h4:=k5.cell f4 id;have a0:=hr5.at_ HZ.o.2.2;have a1:=hr5.free (2*c.g+1+j);have D5:=HD4.o.Ac k5;obtain ⟨cap2,b0,b1⟩:=D5.head;have b2:=D5.free 0;have hs5:=k5.size;have hl5:w.heap.size<w5.heap.size:=(by omega);have hlt5:=D5.lt;have hq5':=hr5.lt;have hne:¬ q1=rb:=(by omega);have hne':¬ rb=q1:=(by omega);have hne2:¬ q1=w.heap.size:=(by omega);have hne3:¬ w.heap.size=q1:=(by omega);have HD5:=sE D5;have hqq:¬ q=q1:=(by have:=HD4.o.row.lt;omega);clear f1 f3 f4 g0 g1 hr5 k5 D5))
    try go_wp2
    have k6:Kp (λ k=>k=q1) w5 (w5.setCell ⟨q1,2*c.g+1+j,none⟩ (.int .u64 Y)):=(Kr (λ k=>k=q1) w5).setCell (λ _=>rfl) _
    have D6:=HD5.o.keep k6 hne' hqq
    obtain⟨cap3,hr6⟩:=D6.hr
    have k7:Kp (λ k=>k=rb) (w5.setCell ⟨q1,2*c.g+1+j,none⟩ (.int .u64 Y)) ((w5.setCell ⟨q1,2*c.g+1+j,none⟩ (.int .u64 Y)).setCell rb (.slice (some ⟨q1,0,none⟩) P.n cap1)):=(Kr (λ k=>k=rb) _).setCell (λ _=>rfl) _
    have D7:DocAt ((w5.setCell ⟨q1,2*c.g+1+j,none⟩ (.int .u64 Y)).setCell rb (.slice (some ⟨q1,0,none⟩) P.n cap1)) rb q1 P.n (DN W (2*c.g+1+j) Y) lv:=
     ⟨⟨cap1,by rw[bZ hr6 _];rfl⟩,(HR5.o.store HZ.o.2.2 Y HYb.o).keep k7 hne⟩
    have kF:Kp (λ k=>k=rb) w4 ((w5.setCell ⟨q1,2*c.g+1+j,none⟩ (.int .u64 Y)).setCell rb (.slice (some ⟨q1,0,none⟩) P.n cap1)):=
     ((K5.o.Aw _).trans k6 (λ b hb h=>by have h':b=q1:=h;omega)).trans k7 (λ _ _ h=>h)
    exact bodyPost_ret (v:=.bool true) (by simp[results,results50,go_sem]) rfl ⟨_,cs,q1,rfl,HB3.o.lay K4.o HA4.o HC.o HZ.o.1 HZ.o.2.1 kF D7 (.inr hq5)⟩
   .omega

end

end Go.Proofs.YtfkedlgpgmaemaaGreatDoor
