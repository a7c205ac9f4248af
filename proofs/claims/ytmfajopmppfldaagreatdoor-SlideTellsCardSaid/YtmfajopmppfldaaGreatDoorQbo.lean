/-
  Lemmas for the laws, together: SlideM, SlideO.
-/
import Derived.Test.YtmfajopmppfldaaGreatDoorQbi
import Derived.Test.YtmfajopmppfldaaGreatDoorQbn
import Derived.Laws.CopyRow
import Derived.Test.YtmfajopmppfldaaGreatDoorQbk
set_option linter.unusedVariables false
set_option maxHeartbeats 16000000
namespace Go.Proofs.YtmfajopmppfldaaGreatDoor
open Go.Proofs.Tryz
section
open Go.RowKit

theorem wp_copy{P:Program}{w:World}{o:Oper}{a:Act}{K:Act->World->Prop}{Q:Exit->Act->World->Prop}(d s:Operand)(dT sT:TypeId)
  (ho:o.op=.call {callee:=.builtin .copy,args:=#[d,s],argTypes:=#[dT,sT]}) (elem:TypeId) (hu:P.underlying dT=some (.slice elem)) (hsz:(P.info? elem).map (·.size)=some 1)
  (g off dLen dCap:Nat) (ad:Addr) (sLen sCap:Nat) (hd:a.eval d=.slice (some ⟨g,off,none⟩) dLen dCap) (hs:a.eval s=.slice (some ad) sLen sCap)
  (cur:Array Value) (t:TypeId) (hg:w.heap[g]?=some (.cells cur t (0,0))) (cs:List Value) (hn:cs.length=Nat.min sLen dLen)
  (hsrc:∀ j v,cs[j]?=some v->w.cell? (ad.add j)=some v) (hfit:off+cs.length<=cur.size) (h1:∀ v∈cs,v.oneCell'=true)
  (h:K (a.put o.dst (goInt cs.length)) (w.setRow g (cur.toList.take off++(cs++cur.toList.drop (off+cs.length))).toArray)):Oper.wp P o a w K Q:=by
 have hrun:=run_copy_row (P:=P) w dT sT o.type elem g off dLen dCap ad sLen sCap cur t cs hu hsz hg hn hsrc hfit h1
 unfold Oper.wp
 simp[execOp,ho,resolve,invoke,builtin,hd,hs,hrun,Result.andThen]
 exact h

theorem Kp.setRow{S:Nat->Prop}{a w:World}(h:Kp S a w){g:Nat}(hr:g<a.heap.size->S g)(cs:Array Value):Kp S a (w.setRow g cs):=
 h.trans (S':=λ k=>k=g) ⟨rfl,rfl,rfl,by simp[World.setRow],λ k _ hn=>setRow_other w g k cs hn⟩ (λ i hi e=>by subst e;exact hr hi)

def FH(W:Nat->Nat)(s k:Nat):List Value:=(List.range k).map λ j=>Value.int .u64 (W (s+j):Nat)

theorem partV_at(W:Nat->Nat)(s:Nat){k j:Nat}(hj:j<k):(FH W s k)[j]?=some (.int .u64 (W (s+j):Nat)):=by
 unfold FH
 rw[List.getElem?_map,List.getElem?_range hj]
 rfl

theorem partV_some{W:Nat->Nat}{s k j:Nat}{v:Value}(h:(FH W s k)[j]?=some v):j<k/\v=.int .u64 (W (s+j):Nat):=by
 have hj:j<k:=by
  have:=(gE.1 h).1
  simpa [FH] using this
 rw[partV_at W s hj] at h
 exact⟨hj,(Option.some.inj h).symm⟩

theorem ArenaAt.move{w:World}{a q n:Nat}{W:Nat->Nat}(h:ArenaAt w a q W n){cur:Array Value}(hc:w.heap[q]?=some (.cells cur 55 (0,0))){d s k:Nat}(hs:s+k<=n)(hd:d+k<=n):
  ArenaAt (w.setRow q (cur.toList.take d++(FH W s k++cur.toList.drop (d+(FH W s k).length))).toArray) a q (BP W d s k) n:=by
 obtain⟨cap,c,h1,hcp⟩:=h.ha
 obtain⟨cs,h2,h3,h4⟩:=h.hq
 obtain rfl:cs=cur:=by rw[h2] at hc;injection hc with hc;injection hc
 have hl:(FH W s k).length=k:=by simp[FH]
 have hcl:cs.toList.length=cs.size:=Array.length_toList
 rw[hl]
 refine⟨⟨cap,c,(setRow_other _ _ _ _ h.ne).trans h1,hcp⟩,⟨_,setRow_heap w q cs _ _ _ h2,?_,λ j hj=>?_⟩,h.small,λ i hi=>?_⟩
 .simp [hl];omega
 .rw [List.getElem?_toArray,BP]
  by_cases e1:j<d
  .rw [if_neg (by omega),List.getElem?_append_left (by rw[List.length_take,hcl];omega),List.getElem?_take_of_lt e1,Array.getElem?_toList]
   exact h4 j hj
  .rw [List.getElem?_append_right (by rw[List.length_take,hcl];omega),List.length_take,hcl,Nat.min_eq_left (by omega)]
   by_cases e2:j<d+k
   .rw [if_pos (by omega),List.getElem?_append_left (by omega),partV_at W s (by omega)]
   .rw [if_neg (by omega),List.getElem?_append_right (by omega),hl,List.getElem?_drop,Array.getElem?_toList,show d+k+(j-d-k)=j by omega]
    exact h4 j hj
 .unfold BP
  split
  .exact h.fits _ (by omega)
  .exact h.fits i hi

theorem AMove_at(d s k:Nat)(a q n:Nat)(W:Nat->Nat)(w:World)(h:ArenaAt w a q W n)(hs:s+k<=n)(hd:d+k<=n)(hk:0<k):
  Calls prog 76 #[.pointer (some ⟨a,0,none⟩),.int .i64 (d:Nat),.int .i64 (s:Nat),.int .i64 (k:Nat)] w (Stored w a q n (BP W d s k)):=by
 have hn:=h.small
 obtain⟨cap,c,h0,h1,hcap⟩:=h.headC
 have H1:=sE (Fx (s:Nat) (k:Nat) a q n W w h)
 have H2:=sE (Fx (d:Nat) (k:Nat) a q n W w h)
 have hok1:Bf n (s:Nat) (k:Nat)=true:=by unfold Bf;rw [decide_eq_true_eq];omega
 have hok2:Bf n (d:Nat) (k:Nat)=true:=by unfold Bf;rw [decide_eq_true_eq];omega
 rw[hok1] at H1
 rw[hok2] at H2
 obtain⟨cur,hcur,hsz,hat⟩:=h.hq
 have HA:=sE (And.intro h hcur)
 have HAT:=sE hat
 have hnn:(n:Int)<=(cap:Int):=by omega
 have hs1:(s:Int)+(k:Int)<=(n:Int):=by omega
 have hd1:(d:Int)+(k:Int)<=(n:Int):=by omega
 have hs2:(s:Int)+(k:Int)<=(cap:Int):=by omega
 have hd2:(d:Int)+(k:Int)<=(cap:Int):=by omega
 have hne:=h.ne
 have hE:errV true=0:=rfl
 have hwd:IntKind.i64.wrap ((d:Int)+(k:Int))=(d:Int)+(k:Int):=by rw[IntKind.wrap_i64];omega
 have hws:IntKind.i64.wrap ((s:Int)+(k:Int))=(s:Int)+(k:Int):=by rw[IntKind.wrap_i64];omega
 clear h hok1 hok2 hat
 go_enter func76,ntmps76
 go_wp2_with fail
 refine H1.out.mono ?_
 rintro e w1 ⟨rfl,rfl⟩
 go_wp2_with fail
 refine H2.out.mono ?_
 rintro e w1 ⟨rfl,rfl⟩
 go_wp2_with fail
 refine wp_region_held_drew (S:=λ w'=>w'.cell? ⟨a,0,none⟩=some (.slice (some ⟨q,0,none⟩) n cap)) (by kernel_rfl) ?_ (λ qZ=>?_)
 .exact h0
 refine Ao 0 ?_;refine Ao 1 ?_;refine Ao 2 ?_;refine Ao 3 ?_;refine Ao 4 ?_;refine Ao 5 ?_;refine Ao 6 ?_;refine Ao 7 ?_;refine Ao 8 ?_;refine Ao 9 ?_;refine Ao 10 ?_
 try simp only[Ar]
 refine Ao 11 (v:=.slice (some ⟨q,d,none⟩) k k) ?_ rfl (by
  intro w0 hSw
  try dsimp only at hSw
  go_simp
  rw[if_pos (by omega),if_pos ⟨by omega,by omega⟩,if_pos (by omega),if_neg (by omega),show ((d:Int)+(k:Int)).toNat-d=k by omega])
 refine Ao 12 ?_;refine Ao 13 ?_;refine Ao 14 ?_;refine Ao 15 ?_;refine Ao 16 ?_;refine Ao 17 ?_;refine Ao 18 ?_;refine Ao 19 ?_
 refine Ao 20 (v:=.slice (some ⟨q,s,none⟩) k (cap-s)) ?_ rfl (by
  intro w0 hSw
  try dsimp only at hSw
  go_simp
  rw[if_pos (by omega),if_pos (by omega),if_neg (by omega),show ((s:Int)+(k:Int)).toNat-s=k by omega])
 try simp only[Ar]
 refine AQ [21] ?_
 refine Ag rfl (λ K hK=>?_)
 rw[if_pos (show Region.wanted _ _=true by kernel_rfl)]
 refine wp_copy (.tmp 36) (.tmp 45) 135 135 rfl 55 CU (by kernel_rfl) q d k k ⟨q,s,none⟩ k (cap-s) ?_ ?_ cur 55 HA.out.2 (FH W s k) ?_ ?_ ?_ ?_ ?_
 .rfl
 .rfl
 .simp [FH]
 .intro j v hv
  obtain⟨hj,rfl⟩:=partV_some hv
  have hadd:(⟨q,s,none⟩:Addr).add j=⟨q,s+j,none⟩:=by unfold Addr.add;split <;> simp_all
  rw[hadd]
  exact HA.out.1.at_ (j:=s+j) (by omega)
 .simp [FH];omega
 .intro v hv
  obtain⟨j,hj,rfl⟩:=List.mem_map.1 hv
  rfl
 have HM:=sE ((HA.out.1.Ad (Kr Ab w).drew).move (w:=w.drew) HA.out.2 hs hd)
 have kM:Kp (λ b=>b=q) w (w.drew.setRow q (cur.toList.take d++(FH W s k++cur.toList.drop (d+(FH W s k).length))).toArray):=(Kr (λ b=>b=q) w).drew.setRow (λ _=>rfl) _
 refine hK _ _ ?_ (λ qZ=>?_)
 .exact kM.cell h0 hne
 clear hK K
 try simp only[Ar]
 refine wpAnyH_done (by kernel_rfl) ?_ _
 generalize w.drew.setRow q _=wM at HM kM qZ ⊢
 obtain⟨cap2,c2,h2,h3⟩:=HM.out.head
 have hfa:=HM.out.freeA 1
 have h1M:=kM.cell h1 hne
 clear h2 h3 h0 h1
 go_wp2_with fail
 exact bodyPost_ret (v:=.int .i64 0) (by simp[results,results76,go_sem]) rfl ⟨rfl,(kM.mono λ_ _ e=>.inr e).setCell (λ _=>.inl rfl) _,HM.out.count _⟩

end

section
open Go.RowKit

structure OneSt(a q n bA bW bM base:Nat)(W:Nat->Nat)(ts:List Nat)(m:Nat)(w:World):Prop where
 ar:ArenaAt w a q W n
 row:∃ v,w.heap[bA]?=some (.cells #[v] 82 (0,0))/\w.ownsRow base 3 1 v ts.length (AB ts)
 wd:w.heap[bW]?=some (.cells #[.int .i64 (m:Nat)] 3 (0,0))
 mv:w.heap[bM]?=some (.cells #[.func (.func 76) #[.pointer (some ⟨a,0,none⟩)] #[]] 149 (0,0))
 big:base<=w.heap.size

structure OneBx(a q bA bW bM base:Nat):Prop where
 aA:a<bA
 qA:q<bA
 AW:bA≠bW
 aW:a<bW
 qW:q<bW
 aM:a<bM
 qM:q<bM
 AM:bA≠bM
 WM:bW≠bM
 lA:bA<base
 lW:bW<base
 lM:bM<base

def OnePost(a q n bA bW bM base:Nat)(W:Nat->Nat)(ts:List Nat)(m:Nat)(x:Nat×Nat×Nat)(w:World)(e:Ending)(w':World):Prop:=
 e=.returned (.int .i64 0)/\OneSt a q n bA bW bM base (BP W (2*x.2.1) (2*x.1) (2*x.2.2)) (ts++[x.2.1]) (m+if x.2.1=x.1 then 0 else 2*x.2.2) w'/\Kp (λ b=>b=bA\/b=bW\/b=a\/b=q\/base<=b) w w'

set_option maxRecDepth 6000 in
theorem One_at(a q n bA bW bM base:Nat)(W:Nat->Nat)(ts:List Nat)(m:Nat)(x:Nat×Nat×Nat)(w:World)(h:OneSt a q n bA bW bM base W ts m w)(hb:OneBx a q bA bW bM base)
  (h1:2*x.1+2*x.2.2<=n) (h2:x.2.1<=x.1) (h3:0<x.2.2) (ht:ts.length<=65536) (hm:m<=65536):
  Calls prog 77 #[.agg #[.int .i64 (x.1:Nat),.int .i64 (x.2.1:Nat),.int .i64 (x.2.2:Nat)],.pointer (some ⟨bA,0,none⟩),.pointer (some ⟨bW,0,none⟩),.pointer (some ⟨bM,0,none⟩)] w (OnePost a q n bA bW bM base W ts m x w):=by
 obtain⟨fr,tt,sz⟩:=x
 dsimp only at h1 h2 h3 ⊢
 obtain⟨ar,⟨v,hA,hrow⟩,hW,hM,hbig⟩:=h
 have hn:=ar.small
 obtain⟨va,vc,hva⟩:=AA hrow
 subst hva
 obtain⟨L,hL⟩:∃ L,ts.length=L:=⟨_,rfl⟩
 rw[hL] at hrow hA ht
 have HL:=sE hL
 clear hL
 have cA:=cell_of_one hA
 have fA:=free_of_one hA
 have cW:=cell_of_one hW
 have fW:=free_of_one hW
 have cM:=cell_of_one hM
 have lA:=lZ hA
 have lW:=lZ hW
 have lM:=lZ hM
 have HAR:=sE ar
 have HA:=sE hA
 have HW:=sE hW
 have HM:=sE hM
 have HR:=sE hrow
 have HB:=sE hb
 clear ar hA hW hM hrow hb
 go_enter func77,ntmps77
 go_wp2_with (at_builtin;obtain ⟨i0,hi,hz0,hz1,hz2⟩:=info_parts Cv;go_loud (refine wpList_append_lies _ rfl (.tmp 6) (.tmp 9) 82 rfl base 3 i0 _ 1 8 AP hi hz0 hz1 hz2 rfl (by omega) (.slice va L vc) L (AB ts) rfl ((HR.out.alloc _).alloc _) ⟨w.heap.size+1,0,none⟩ 1 1 [.int .i64 (tt:Nat)] rfl rfl ?_ (by intro u hu;simp at hu;subst hu;rfl) (by omega) (by unfold maxLen;omega) (by omega) (by simp;omega) _ rfl ?_))
 .exact World.news_of_block (by simpa using wN (w.alloc (.cells #[.int .i64 (fr:Nat),.int .i64 (tt:Nat),.int .i64 (sz:Nat)] 43)) (.cells #[.int .i64 (tt:Nat)] 3))
 intro g cap w3 hown hgrow ha hg
 have k3:Kp (λ b=>base<=b) w w3:=(((Kr _ w).alloc _).alloc _).grown hgrow (λ k e hl=>by
  have:=Af HR.out e
  omega)
 have hx3:w3.heap[w.heap.size]?=some (.cells #[.int .i64 (fr:Nat),.int .i64 (tt:Nat),.int .i64 (sz:Nat)] 43 (0,0)):=by
  rw[hgrow.block _ (by simp;omega) (λ e=>by have:=Af HR.out e.symm;omega)]
  exact(Below.heap_alloc _ _ _ (by simp)).trans (wN w _)
 have hB:=HB.out
 have a3:=k3.at_ HA.out (by have:=hB.lA;omega)
 have b3:=k3.at_ HW.out (by have:=hB.lW;omega)
 have m3:=k3.at_ HM.out (by have:=hB.lM;omega)
 have l3:=k3.size
 clear hgrow ha cA fA cW fW cM lA lW lM
 have cA:=cell_of_one a3
 have fA:=free_of_one a3
 have KB:Kp (λ b=>b=bA) w3 (w3.setCell ⟨bA,0,none⟩ (.slice (some ⟨g,0,none⟩) (L+1) cap)):=(Kr (λ b=>b=bA) w3).setCell (λ _=>rfl) _
 have HA4:=sE (one_setCell (u:=.slice (some ⟨g,0,none⟩) (L+1) cap) a3)
 have hx4:=KB.at_ hx3 (by have:=hB.lA;omega)
 have b4:=KB.at_ b3 hB.AW.symm
 have m4:=KB.at_ m3 hB.AM.symm
 have hown4:=Ai hown KB (λ b hb h=>by have:=Af hown hb;have:=hB.lA;omega)
 have k4:Kp (λ b=>b=bA\/base<=b) w (w3.setCell ⟨bA,0,none⟩ (.slice (some ⟨g,0,none⟩) (L+1) cap)):=(k3.mono λ_ _ h=>.inr h).trans KB (λ b _ h=>.inl h)
 have KA4:=HAR.out.keep k4 (by have:=hB.aA;have:=hB.lA;omega) (by have:=hB.qA;have:=hB.lA;omega)
 have HX4:=sE hx4
 have HM4:=sE (And.intro b4 m4)
 have HOW4:=sE hown4
 have HK4:=sE k4
 have HAR4:=sE KA4
 have hz4:=k4.size
 obtain⟨bX,hbX⟩:∃ bX,w.heap.size=bX:=⟨_,rfl⟩
 have hbs:base<=bX:=by omega
 have hln:(ts++[tt]).length=L+1:=by rw[List.length_append,HL.out];rfl
 have hnv:AB ts++[.int .i64 (tt:Nat)]=AB (ts++[tt]):=by rw[AB,AB,List.map_append];rfl
 rw[hbX] at HX4 hz4 ⊢
 rw[hnv] at HOW4
 rw[hbX] at hx3
 have cW:=cell_of_one b3
 have fW:=free_of_one b3
 have cM:=cell_of_one m3
 have x0:w3.cell? ⟨bX,0,none⟩=some (.int .i64 (fr:Nat)):=by simp[World.cell?,hx3]
 have x1:w3.cell? ⟨bX,1,none⟩=some (.int .i64 (tt:Nat)):=by simp[World.cell?,hx3]
 have x2:w3.cell? ⟨bX,2,none⟩=some (.int .i64 (sz:Nat)):=by simp[World.cell?,hx3]
 have n1:bX≠bA:=by have:=hB.lA;omega
 have n2:bX≠bW:=by have:=hB.lW;omega
 have n3:=hB.AW
 have n3':=hB.AW.symm
 have n4:=hB.AM.symm
 have n5:=hB.WM.symm
 clear hx4 b4 m4 hown4 k4 KA4 hx3 a3 b3 m3 k3 KB hown hnv
 by_cases e:tt=fr
 .subst e
  have hmv:BP W (2*tt) (2*tt) (2*sz)=W:=moveW_same _ _ _
  go_wp2_with fail
  refine bodyPost_ret (v:=.int .i64 0) (by simp[results,results77,go_sem]) rfl ⟨rfl,⟨?_,⟨_,HA4.out,?_⟩,?_,HM4.out.2,by omega⟩,HK4.out.mono λ b _ h=>?_⟩
  .show ArenaAt _ a q (BP W (2*tt) (2*tt) (2*sz)) n
   rw[hmv]
   exact HAR4.out
  .rw [hln];exact HOW4.out
  .rw [if_pos rfl,Nat.add_zero];exact HM4.out.1
  .rcases h with h|h
   .exact .inl h
   .exact .inr (.inr (.inr (.inr h)))
 .have hWs:IntKind.i64.wrap ((m:Int)+2*(sz:Int))=(m:Int)+2*(sz:Int):=by rw[IntKind.wrap_i64];omega
  have hW1:IntKind.i64.wrap (2*(sz:Int))=2*(sz:Int):=by rw[IntKind.wrap_i64];omega
  have hW2:IntKind.i64.wrap (2*(fr:Int))=2*(fr:Int):=by rw[IntKind.wrap_i64];omega
  have hW3:IntKind.i64.wrap (2*(tt:Int))=2*(tt:Int):=by rw[IntKind.wrap_i64];omega
  go_wp2_with fail
  have H4:∀ b,b=a\/b=q->¬ b=bW:=λ b h=>by have:=hB.aW;have:=hB.qW;omega
  have KW:Kp (λ b=>b=bW) (w3.setCell ⟨bA,0,none⟩ (.slice (some ⟨g,0,none⟩) (L+1) cap)) _:=(Kr (λ b=>b=bW) (w3.setCell ⟨bA,0,none⟩ (.slice (some ⟨g,0,none⟩) (L+1) cap))).setCell (p:=⟨bW,0,none⟩) (λ _=>rfl) (.int .i64 ((m:Int)+2*(sz:Int)))
  have b5:=one_setCell (u:=.int .i64 ((m:Int)+2*(sz:Int))) HM4.out.1
  have A5:=KW.at_ HA4.out n3
  have M5:=KW.at_ HM4.out.2 n5
  have ar5:=HAR4.out.keep KW (H4 a (.inl rfl)) (H4 q (.inr rfl))
  have o5:=Ai HOW4.out KW (λ b hb h=>by have:=Af HOW4.out hb;have:=hB.lW;omega)
  have s5:=KW.size
  have HK5:Kp (λ b=>b=bA\/b=bW\/b=a\/b=q\/base<=b) w _:=(HK4.out.mono λ b _ h=>(show b=bA\/b=bW\/b=a\/b=q\/base<=b by rcases h with h|h;exact .inl h;exact .inr (.inr (.inr (.inr h))))).trans KW (λ b _ h=>.inr (.inl h))
  generalize World.setCell _ _ _=w5 at b5 A5 M5 ar5 o5 s5 HK5 ⊢
  have e1:((2*tt:Nat):Int)=2*(tt:Int):=by omega
  have e2:((2*fr:Nat):Int)=2*(fr:Int):=by omega
  have e3:((2*sz:Nat):Int)=2*(sz:Int):=by omega
  have HMV:=AMove_at (2*tt) (2*fr) (2*sz) a q n W w5 ar5 h1 (by omega) (by omega)
  rw[e1,e2,e3] at HMV
  refine HMV.mono ?_
  rintro e6 w6 ⟨rfl,k6,ar6⟩
  go_wp2_with fail
  have hn6:∀ b,(b=a\/b=q)->b≠bA/\b≠bW/\b≠bM/\b<base:=λ b h=>by have:=hB.aA;have:=hB.qA;have:=hB.aW;have:=hB.qW;have:=hB.aM;have:=hB.qM;have:=hB.lA;omega
  refine bodyPost_ret (v:=.int .i64 0) (by simp[results,results77,go_sem]) rfl ⟨rfl,⟨ar6,⟨_,k6.at_ A5 (λ h=>(hn6 _ h).1 rfl),?_⟩,?_,k6.at_ M5 (λ h=>(hn6 _ h).2.2.1 rfl),by have:=k6.size;omega⟩,HK5.trans k6 λ b _ h=>?_⟩
  .rw [hln]
   exact Ai o5 k6 (λ b hb h=>by have:=Af o5 hb;have:=(hn6 _ h).2.2.2;omega)
  .rw [if_neg e]
   have:=k6.at_ b5 (λ h=>(hn6 _ h).2.1 rfl)
   rw[this,Int.natCast_add,e3]
  .rcases h with h|h
   .exact .inr (.inr (.inl h))
   .exact .inr (.inr (.inr (.inl h)))

end

end Go.Proofs.YtmfajopmppfldaaGreatDoor
