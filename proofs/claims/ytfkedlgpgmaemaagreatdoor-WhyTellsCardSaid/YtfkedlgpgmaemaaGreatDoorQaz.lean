/-
  Lemmas for the laws, together: WalkB.
-/
import Derived.Test.YtfkedlgpgmaemaaGreatDoorQak
import Derived.Test.YtfkedlgpgmaemaaGreatDoorQaj
import Derived.Test.YtfkedlgpgmaemaaGreatDoorQaa
import Derived.Test.YtfkedlgpgmaemaaGreatDoorQal
import Derived.Test.YtfkedlgpgmaemaaGreatDoorQam
import Derived.Laws.EntriesVeiled
import Derived.Test.YtfkedlgpgmaemaaGreatDoorQan
import Derived.Test.YtfkedlgpgmaemaaGreatDoorQap
import Derived.Test.YtfkedlgpgmaemaaGreatDoorQau
set_option linter.unusedVariables false
set_option maxHeartbeats 16000000
namespace Go.Proofs.YtfkedlgpgmaemaaGreatDoor
open Tryz
section
open Go.RowKit

theorem bit_mod{v k:Nat}:v.testBit k=(v/2 ^ k%2==1):=by
 rw[Nat.testBit_eq_decide_div_mod_eq]
 rfl

theorem LRef_bit(k wds n:Int)(M s:Nat)(w:World)(hM:M<18446744073709551616)(hs:s<64)(h2:¬ k=2)(h3:¬ k=3):
  Calls prog 223 #[BU k wds (M:Nat) n,s] w (RK (.bool (M/2 ^ s%2==1)) w):=by
 unfold BU
 have b2:(k==2)=false:=by simpa using h2
 have b3:(k==3)=false:=by simpa using h3
 have HT:Sl ((bits BinOp.and IntKind.u64 ((M:Int)/2 ^ s) 1==1)=(M/2 ^ s%2==1)):=⟨by rw[bit_test M s hM,bit_mod]⟩
 go_enter func223,ntmps223
 go_wp2
 go_ret
 exact⟨by rw[<- HT.o];rfl,(Kr Aa w).alloc _⟩

theorem LRef_raw(wds n:Int)(s:Nat)(w:World)(hs:s<65536):
  Calls prog 223 #[BU 4 wds 0 n,s] w (RK (.bool false) w):=by
 unfold BU
 have HT:bits BinOp.and IntKind.u64 0 1=0:=by decide +kernel
 by_cases h:s<64
 .have HZ:(0:Int)/2 ^ s=0:=Int.zero_ediv _
  go_enter func223,ntmps223
  go_wp2
  go_ret
  exact⟨by first|rfl|simp [HT]|(rw [HT];rfl),(Kr Aa w).alloc _⟩
 .go_enter func223,ntmps223
  go_wp2
  go_ret
  exact⟨by first|rfl|simp [HT]|(rw [HT];rfl),(Kr Aa w).alloc _⟩

theorem LRef_row(wds m n:Int)(s:Nat)(w:World):
  Calls prog 223 #[BU 2 wds m n,s] w (RK (.bool true) w):=by
 unfold BU
 go_enter func223,ntmps223
 go_wp2
 go_ret
 exact⟨rfl,(Kr Aa w).alloc _⟩

theorem LRef_structs(V:Nat)(n:Int)(M s:Nat)(w:World)(hM:M<18446744073709551616)(hV0:1<=V)(hV:V<=16)(hs:s<65536):
  Calls prog 223 #[BU 3 (V:Nat) (M:Nat) n,s] w (RK (.bool (M/2 ^ (s%V)%2==1)) w):=by
 unfold BU
 have hm:((s:Nat):Int).tmod ((V:Nat):Int)=((s%V:Nat):Int):=by
  rw[Int.tmod_eq_emod_of_nonneg (by omega)]
  push_cast;rfl
 have hr16:s%V<16:=Nat.lt_of_lt_of_le (Nat.mod_lt _ (by omega)) (by omega)
 obtain⟨r,hr⟩:∃ r,s%V=r:=⟨_,rfl⟩
 rw[hr] at hm hr16 ⊢
 have hv0:¬ ((V:Nat):Int)=0:=by omega
 have hv1:(((V:Nat):Int)==0)=false:=by simp;omega
 have HT:Sl ((bits BinOp.and IntKind.u64 ((M:Int)/2 ^ r) 1==1)=(M/2 ^ r%2==1)):=⟨by rw[bit_test M r hM,bit_mod]⟩
 clear hr
 go_enter func223,ntmps223
 go_wp2
 go_ret
 exact⟨by rw[<- HT.o];rfl,(Kr Aa w).alloc _⟩

theorem LRef_any(k wds n:Int)(M s:Nat)(w:World)(hM:M<18446744073709551616)(hE:AU k wds M n=0)(hs:(s:Int)<AZ k wds n):
  Calls prog 223 #[BU k wds (M:Nat) n,s] w (RK (.bool (BO k wds M s)) w):=by
 have hs2:s<65536:=by have:=(Bj hE).2;omega
 obtain⟨z1,z2,z3,z4,z5⟩:=Ec hE
 rcases z5 with ⟨rfl,h1,h2⟩|⟨rfl,h1,h2⟩|⟨rfl|rfl,rfl⟩
 .rw [show BO 1 wds M s=(M/2 ^ s%2==1) by unfold BO;rw [if_pos rfl]]
  refine LRef_bit 1 wds n M s w hM ?_ (by omega) (by omega)
  rw[AZ,if_pos rfl] at hs
  omega
 .obtain ⟨V,rfl⟩:=Int.eq_ofNat_of_zero_le (show 0<=wds by omega)
  rw[show BO 3 (V:Nat) M s=(M/2 ^ (s%V)%2==1) by unfold BO;rw [if_neg (by omega),if_pos rfl,Int.toNat_natCast]]
  exact LRef_structs V n M s w hM (by omega) (by omega) hs2
 .rw [show BO 2 0 M s=true by unfold BO;rw [if_neg (by omega),if_neg (by omega)];rfl]
  exact LRef_row 0 _ n s w
 .rw [show BO 4 0 M s=false by unfold BO;rw [if_neg (by omega),if_neg (by omega)];rfl]
  have hM0:M=0:=by
   have:=z1
   simp[Dc] at this
   exact this
  subst hM0
  exact LRef_raw 0 n s w hs2

theorem KRefs_any(k wds:Int)(M:Nat)(n:Int)(w:World)(hM:M<18446744073709551616)(hE:AU k wds M n=0):
  Calls prog 208 #[.agg #[.int .u8 k,.int .i64 wds,.int .u64 M],.int .i64 n] w (DRefsPost k wds M n w):=by
 obtain⟨K,hK⟩:∃ K:Nat,AZ k wds n=(K:Nat):=Int.eq_ofNat_of_zero_le (Bj hE).1
 have hK2:K<=65536:=by have:=(Bj hE).2;omega
 have CO:=λ w=>Kof_any k wds M n w
 unfold AJ at CO
 have HO0:=sE CO
 have HZ:=sE hE
 have CS:=λ w=>slots_any k wds M n w hE
 rw[hK] at CS
 unfold BU at CS
 have HC:=sE CS
 have HIs:Sl (∀ (s:Nat) W',s<K->Calls prog 223 #[.agg #[.int .u8 k,.int .i64 wds,.int .u64 M,.int .i64 n],.int .i64 (s:Nat)] W' (RK (.bool (BO k wds M s)) W')):=
  ⟨λ s W' hs=>LRef_any k wds n M s W' hM hE (by rw[hK];omega)⟩
 have HR:Sl (BP k wds M n=AR k wds M K):=⟨by unfold BP;rw [hK,Int.toNat_natCast]⟩
 have kA:=(Kr Aa w).alloc (.cells #[.int .u8 k,.int .i64 wds,.int .u64 M] 106)
 clear CO CS hK hE
 go_enter func208,ntmps208
 go_wp2_with fail
 obtain⟨w1,hw1⟩:∃ w1,w1=w.alloc (.cells #[.int .u8 k,.int .i64 wds,.int .u64 M] 106):=⟨_,rfl⟩
 rw[<- hw1] at kA ⊢
 clear hw1
 refine(HO0.o w1).mono ?_
 rintro e w2 ⟨v,rfl,hv,hv0,k2⟩
 have hv2:=hv0 HZ.o
 unfold BU at hv2
 subst hv2
 rw[HZ.o]
 clear hv hv0
 obtain⟨w3,hw3⟩:∃ w3,w3=w2.alloc (.cells #[.int .u8 k,.int .i64 wds,.int .u64 M,.int .i64 n] 302):=⟨_,rfl⟩
 have k3:Kp Aa w2 w3:=by rw[hw3];exact (Kr _ w2).alloc _
 have b3:w3.heap[w2.heap.size]?=some (.cells #[.int .u8 k,.int .i64 wds,.int .u64 M,.int .i64 n] 302 (0,0)):=by rw[hw3];exact wN w2 _
 have HB3:=sE b3
 have HK3:=sE ((kA.then' k2).then' k3)
 clear kA k2 k3 b3
 go_wp2_with fail
 rw[<- hw3]
 clear hw3
 refine(HC.o w3).mono ?_
 rintro e w4 ⟨rfl,k4⟩
 have HB4:=sE (k4.at_ HB3.o id)
 have HK4:=sE (HK3.o.then' k4)
 clear k4
 obtain⟨L,hL⟩:∃ L,w2.heap.size=L:=⟨_,rfl⟩
 rw[hL] at HB4
 go_wp2_with fail
 go_loopw [4,7,19] (λ v _ y wr=>∃ j:Nat,j<=K/\y=.int .i64 j/\wr.ownsRow w4.heap.size 3 1 v (AR k wds M j).length (Az (AR k wds M j))/\Kp Aa w4 wr) (λ _ _ y _=>K-(intOf y).toNat)
 case atStart=>exact ⟨0,Nat.zero_le _,rfl,World.ownsRow_nil _ _ _ _,Kr _ _⟩
 case round=>
  obtain⟨j,hj,rfl,hown,hk⟩:=hrel
  by_cases hjl:j<K
  .have hjl':(j:Int)<(K:Int):=by omega
   obtain⟨a0,a1,a2,a3⟩:=Ay (hk.at_ HB4.o id)
   have hlen:=refsUpto_len k wds M j
   have hsz1:=hk.size
   have HK:=sE hk
   have HO:=sE hown
   have HSu:=sE (refsUpto_succ k wds M j)
   clear hk hown
   go_wp2_with fail
   refine(HIs.o j _ hjl).mono ?_
   rintro e w5 ⟨rfl,k5⟩
   have K5:=HK.o.then' k5
   have O5:w5.ownsRow w4.heap.size 3 1 u4 (AR k wds M j).length (Az (AR k wds M j)):=k5.owns HO.o (λ _ _ h=>h)
   have hs5:=k5.size
   cases hb:BO k wds M j with
   |false=>
    have HE:Sl (AR k wds M (j+1)=AR k wds M j):=⟨by rw[HSu.o,hb];simp⟩
    have HO5:=sE O5
    have HK5:=sE K5
    clear hb a0 a1 a2 a3 k5 O5 K5
    go_wp2
    exact⟨⟨j+1,by omega,by go_num,by rw[HE.o];exact HO5.o,HK5.o⟩,by simp only[intOf];omega⟩
   |true=>
    have HE:Sl (AR k wds M (j+1)=AR k wds M j++[j]):=⟨by rw[HSu.o,hb];simp⟩
    have HO5:=sE O5
    have HK5:=sE K5
    clear hb a0 a1 a2 a3 k5 O5 K5
    go_wp2_with (at_builtin;obtain ⟨i0,hi,hz0,hz1,hz2⟩:=info_parts Be;go_loud (refine wpList_append_lies _ rfl (.tmp 25) (.tmp 27) 24 rfl w4.heap.size 3 i0 _ 1 8 Ar hi hz0 hz1 hz2 rfl (by omega) u4 (AR k wds M j).length (Az (AR k wds M j)) rfl (HO5.o.alloc _) ⟨w5.heap.size,0,none⟩ 1 1 [j] rfl rfl (World.news_of_block (wN w5 _)) (by intro u hu;simp at hu;subst hu;rfl) (by omega) (by unfold maxLen;omega) (by omega) (by simp;omega) (w5.heap.size+1) (by simp) ?_);intro g cap w6 hown6 hgrow hat hlt;clear hi hz0 hz1 hz2)
    have k6:Kp Aa w4 w6:=(HK5.o.alloc _).grown hgrow (λ k e hl=>absurd (HO5.o.lt k e).1 (by omega))
    have h6:w6.ownsRow w4.heap.size 3 1 (.slice (some ⟨g,0,none⟩) ((AR k wds M j).length+1) cap) (AR k wds M (j+1)).length (Az (AR k wds M (j+1))):=by
     rw[HE.o,Az,List.map_append,List.length_append];exact hown6
    clear hown6 hgrow hat
    go_wp2
    exact⟨⟨j+1,by omega,by go_num,h6,k6⟩,by simp only[intOf];omega⟩
  .have hjl':¬ (j:Int)<(K:Int):=by omega
   have HE:Sl (BP k wds M n=AR k wds M j):=⟨by rw[HR.o,show j=K by omega]⟩
   have hz:w.heap.size<=w4.heap.size:=HK4.o.size
   go_wp2
   exact bodyPost_ret (v:=.tuple #[u4,(0:Int)]) (by simp[results,results208,go_sem]) rfl ⟨u4,rfl,by rw[HE.o];exact Cq hown hz,HK4.o.then' hk⟩

attribute [local go_sem] Oper.semAt_some

theorem vrefs_fn(b:Nat)(w:World):
  Calls prog 173 #[.pointer (some b)] w λ e w'=>
   e=.returned (.func (.func 207) #[] #[.pointer (some w.heap.size)])/\w.alloc (.cells #[.pointer (some b)] 71)=w':=by
 have hmf:∀ (fn:Fn) (first cap:Array Value) (w:World),(Instr.makeFunc fn first cap).run prog w=.ok (.func fn first cap) w:=λ _ _ _ _=>rfl
 go_enter func173,ntmps173
 go_wp2
 go_ret
 exact⟨rfl,rfl⟩

theorem refsT_mem{k wds:Int}{M:Nat}{n:Int}{s:Nat}(hE:AU k wds M n=0)(h:s∈BP k wds M n):(s:Int)<AZ k wds n:=by
 have:=refsUpto_mem h
 have:=(Bj hE).1
 omega

theorem Eh{k wds:Int}{M:Nat}{n:Int}(hE:AU k wds M n=0):(BP k wds M n).length<=65536:=by
 have:=refsUpto_len k wds M (AZ k wds n).toNat
 have:=(Bj hE).2
 unfold BP
 omega

theorem Aq{w:World}{base:Nat}{e:TypeId}{size:Nat}{v:Value}{n:Nat}{xs:List Value}(h:w.ownsRow base e size v n xs):∃ a c,v=.slice a n c:=by
 rcases h.2 with ⟨h,h0⟩|⟨g,cap,cur,h,_⟩
 .exact ⟨_,_,by rw[h,h0]⟩
 .exact ⟨_,_,h⟩

theorem Cu{w:World}{base:Nat}{e:TypeId}{a:Option Addr}{n c:Nat}{xs:List Nat}{i x:Nat}(h:w.ownsRow base e 1 (.slice a n c) n (Az xs))(hx:xs[i]?=some x):∃ b,a=some ⟨b,0,none⟩/\w.cell? ⟨b,i,none⟩=some (.int .i64 x):=by
 have hi:=(gE.1 hx).1
 have hn:xs.length=n:=by have:=h.1;simpa [Az] using this
 rcases h.2 with ⟨-,h0⟩|⟨g,cap,cur,hv,g2,g3,g4,g5,g6,g7⟩
 .omega
 .injection hv with h1 h2 h3
  refine⟨g,h1,?_⟩
  have:cur.toList[i]?=some (.int .i64 x):=by
   rw[<- List.getElem?_take_of_lt (j:=n*1) (by omega),g7,Az,List.getElem?_map,hx]
   rfl
  simp only[World.cell?,g3]
  rw[<- this]
  simp

set_option maxRecDepth 20000 in
theorem vrefs_iter4(bx b a q n:Nat)(W0:Nat->Nat)(c:Cel)(k wds:Int)(m:Nat)(w:World)(hA:ArenaAt w a q W0 n)(hV:Ce w b a c k wds m)(hE:AU k wds m (c.ln:Nat)=0)(hM:m<18446744073709551616)(hfit:2*c.g+1+AZ k wds (c.ln:Nat)<=(n:Nat))
  (hb:w.heap[bx]?=some (.cells #[.pointer (some b)] 71 (0,0))) {R:Nat->Prop} (hR:∀ i,R i->i<w.heap.size/\¬ i=bx/\¬ i=b/\¬ i=a/\¬ i=q):
  IterAt4 prog 207 #[.pointer (some bx)] (λ s=>#[.int .i64 (s:Nat),.int .u64 (W0 (2*c.g+1+s):Nat)]) (BP k wds m (c.ln:Nat)) Aa R w:=by
 intro l J Jx S0 W hW hl1 hl2 hS hJ hJx hY h0
 have lbx:=lZ hb
 have lbv:=lZ hV
 have la:=hA.lt_a
 have lq:=hA.lt_q
 have bW:=hW.at_ hb id
 have vW:=hV.Ac hW
 have aW:=hA.Ac hW
 have HVw:=sE vW
 have HAw:=sE aW
 have HBw:=sE bW
 have hlen:=Eh (M:=m) hE
 have HK:Sl (∀ W',Calls prog 208 #[.agg #[.int .u8 k,.int .i64 wds,.int .u64 m],c.ln] W' (DRefsPost k wds m (c.ln:Nat) W')):=⟨λ W'=>KRefs_any k wds m (c.ln:Nat) W' hM hE⟩
 have HLd:Sl (∀ (s:Nat) W',s∈BP k wds m (c.ln:Nat)->ArenaAt W' a q W0 n->Ce W' b a c k wds m->Calls prog 129 #[.pointer (some b),.int .i64 (s:Nat)] W' (RK (.tuple #[.int .u64 (W0 (2*c.g+1+s):Nat),(0:Int)]) W')):=⟨λ s W' hs hA' hV'=>by
  have:=refsT_mem hE hs
  exact VLoad_yes s b a q n W0 c k wds m W' hA' hV' hE this (by omega)⟩
 obtain⟨xs,hxs⟩:∃ xs,BP k wds m (c.ln:Nat)=xs:=⟨_,rfl⟩
 have HXS:=sE hxs
 have HY:=sE hY
 rw[hxs] at hlen HLd HY ⊢
 have cb:=cell_of_one bW
 obtain⟨v0,v1,v2,v3,v4,v5,v6,v7,v8⟩:=Ce.cells vW
 have z1:=hW.size
 have H0:=sE h0
 clear hY hxs vW aW hA hV hfit hM hE bW h0 hb
 refine(callsIn_wide (n:=0)).1 ?_
 refine callsIn_of_wp func207 rfl trivial ?_
 simp only[ntmps207,List.size_toArray,List.length_cons,List.length_nil,Nat.reduceAdd,Nat.reduceSub,Array.replicate_succ,Array.replicate_zero,List.push_toArray,List.append_toArray,List.nil_append,List.cons_append]
 gi_wp2_with fail
 refine wpIn_wide.2 ?_
 refine wp_region_held_drew (S:=λ w'=>w'.cell? bx=some (.pointer (some b))/\w'.cell? ⟨b,4,none⟩=some (.int .i64 c.ln)/\w'.cell? ⟨b,6,none⟩=some (.int .u8 k)/\w'.cell? ⟨b,7,none⟩=some (.int .i64 wds)/\w'.cell? ⟨b,8,none⟩=some (.int .u64 m)) (by kernel_rfl) ?_ (λ qZ=>?_)
 .exact ⟨cb,v4,v6,v7,v8⟩
 refine Ap 0 ?_;refine Ap 1 ?_;refine Ap 2 ?_;refine Ap 3 ?_;refine Ap 4 ?_;refine Ap 5 ?_;refine Ap 6 ?_;refine Ap 7 ?_;refine Ap 8 ?_
 try simp only[AB]
 refine Bp [9] ?_
 refine Ag rfl (λ K hK=>?_)
 go_simp
 go_at_call 208
 (with_reducible refine(HK.o _).mono ?_)
 rintro e w5 ⟨v,rfl,hown,k5⟩
 have K5:Kp Aa W w5:=((Kr Aa W).drew).then' k5
 refine hK _ _ ?_ (λ qZ=>?_)
 .exact ⟨Ae K5 cb,Ae K5 v4,Ae K5 v6,Ae K5 v7,Ae K5 v8⟩
 clear hK K
 try simp only[AB]
 refine Ap 10 ?_;refine Ap 11 ?_;refine Ap 12 ?_;refine Ap 13 ?_;refine Ap 14 ?_
 try simp only[AB]
 refine wpAnyH_done (by kernel_rfl) ?_ _
 rw[HXS.o] at hown
 obtain⟨va,vc,hva⟩:=Aq hown
 subst hva
 obtain⟨L,hL⟩:∃ L,xs.length=L:=⟨_,rfl⟩
 rw[hL] at hown hlen ⊢
 have HL:=sE hL
 have J5:=hJ _ _ _ _ H0.o K5
 have hown5:w5.ownsRow W.heap.size 3 1 (.slice va L vc) L (Az xs):=hown
 have hS5:∀ i,S0 i->¬ (Value.slice va L vc).ownBlock=some i:=λ i hi h=>by
  have:=(hS _ _ _ H0.o i hi).2
  have:=(Ad hown5 h).1
  omega
 have HR5:Sl (Kp (λ i=>R i\/i=l) W w5):=⟨K5.Aw _⟩
 have HJ5:=sE (And.intro J5 (And.intro hown5 hS5))
 clear hown hown5 hS5 J5 K5 k5 hL v0 v1 v2 v3 v4 v5 v6 v7 v8 cb qZ
 gi_wp2_with fail
 gi_loopw [6,7,8,26] (λ v6 v7 v8 v26 wr=>∃ (j:Nat) (S:Nat->Prop),j<=L/\v26=.int .i64 j/\J (xs.take j) S wr/\Kp (λ i=>R i\/i=l) W wr/\wr.ownsRow W.heap.size 3 1 (.slice va L vc) L (Az xs)/\(∀ i,S i->¬ (Value.slice va L vc).ownBlock=some i)) (λ v6 v7 v8 v26 wr=>L-(intOf v26).toNat)
 case atStart=>exact ⟨0,S0,Nat.zero_le _,rfl,HJ5.o.1,HR5.o,HJ5.o.2.1,HJ5.o.2.2⟩
 case round=>
  obtain⟨j,S,hj,rfl,hjJ,kr,ho,hSn⟩:=hrel
  have HJ:=sE hjJ
  have HKr:=sE kr
  have HO:=sE ho
  have HSn:=sE hSn
  by_cases hjl:j<L
  .have hjl':(j:Int)<(L:Int):=by omega
   obtain⟨x,hx⟩:∃ x,xs[j]?=some x:=⟨xs[j]'(by rw[HL.o];exact hjl),by simp⟩
   obtain⟨rb,hrb,cx⟩:=Cu ho hx
   subst hrb
   have hmem:x∈xs:=List.mem_of_getElem? hx
   have hnot:∀ i,i<w.heap.size->(i=bx\/i=b\/i=a\/i=q)->¬ (R i\/i=l):=λ i hi h hr=>by
    rcases hr with hr|hr
    .have:=hR i hr;omega
    .omega
   have br:=kr.at_ HBw.o (hnot bx lbx (.inl rfl))
   have cb:=cell_of_one br
   have HLo:=sE (HLd.o x wr hmem (HAw.o.keep kr (hnot a la (.inr (.inr (.inl rfl)))) (hnot q lq (.inr (.inr (.inr rfl))))) (HVw.o.keep kr (hnot b lbv (.inr (.inl rfl)))))
   have hsp:xs=xs.take j++x::xs.drop (j+1):=by
    obtain⟨h1,h2⟩:=gE.1 hx
    rw[<- h2,List.getElem_cons_drop h1,List.take_append_drop]
   have hst:xs.take (j+1)=xs.take j++[x]:=by rw[List.take_add_one,hx];rfl
   have HSp:=sE (And.intro hsp hst)
   clear kr ho hSn hjJ hmem hnot br hsp hst hx
   gi_wp2_with fail
   refine⟨trivial,rfl,?_⟩
   refine(callsIn_wide.2 HLo.o).mono ?_
   rintro e w6 ⟨rfl,k6⟩
   have J6:=hJ _ _ _ _ HJ.o k6
   have HY6:=sE (HY.o _ S x _ w6 HSp.o.1 J6)
   have O6:=Af HO.o k6 (λ _ _ h=>h)
   have HO6:=sE O6
   have HK6:=sE (HKr.o.trans k6 (λ _ _ h=>h.elim))
   have HS6:Sl (∀ i,S i->(R i\/W.heap.size<=i)):=⟨λ i hi=>(hS _ _ _ J6 i hi).1⟩
   have hrow6:=Ad O6 (b:=rb) rfl
   clear J6 O6 k6 cx cb
   gi_wp2_with fail
   refine En HY6.o rfl ?_
   intro b' B hB
   rcases hB with ⟨rfl,hk,S',hT,hS'⟩|⟨rfl,hE⟩
   .have hnr:∀ i,(S i\/i=l)->¬ (Value.slice (some ⟨rb,0,none⟩) L vc).ownBlock=some i:=λ i hi h=>by
     rcases hi with hi|hi
     .exact HSn.o i hi h
     .have:=(Ad HO6.o h).1;omega
    have OB:=Af HO6.o hk (λ b' hb' hs=>hnr b' hs hb')
    have KB:=HK6.o.trans hk (λ i hi h=>by
     rcases h with h|h
     .rcases HS6.o i h with h|h
      .exact .inl h
      .omega
     .exact .inr h)
    have HF:Sl _:=⟨And.intro hT (And.intro KB (And.intro OB (λ i hi h=>by
     rcases hS' i hi with h'|h'
     .exact HSn.o i h' h
     .have:=(Ad HO6.o h).2;omega:∀ i,S' i->¬ (Value.slice (some ⟨rb,0,none⟩) L vc).ownBlock=some i)))⟩
    clear hT KB OB hS' hk hnr
    gi_wp2_with fail
    exact⟨⟨j+1,S',by omega,by go_num,by rw[HSp.o.2];exact HF.o.1,HF.o.2.1,HF.o.2.2.1,HF.o.2.2.2⟩,by simp only[intOf];omega⟩
   .gi_wp2_with fail
    refine bodyPost_ret (results_none rfl _ _ _) rfl ?_
    exact⟨⟨_,rfl⟩,.inr ⟨_,⟨_,by rw[List.append_assoc];exact HSp.o.1.symm⟩,hE⟩⟩
  .have hjl':¬ (j:Int)<(L:Int):=by omega
   gi_wp2_with fail
   go_end0
   exact⟨⟨_,rfl⟩,.inl ⟨S,by have:=HJ.o;rwa [List.take_of_length_le (by rw[HL.o];omega)] at this⟩⟩

end

section
open Go.RowKit
attribute [local go_sem] Oper.semAt_some

def u64Vs(ws:List Nat):List Value:=ws.map λ x=>.int .u64 (x:Nat)

def Fz(W0:Nat->Nat)(g:Nat)(xs:List Nat):List Nat:=(xs.map λ s=>W0 (2*g+1+s)).filter λ x=>x !=0

theorem tgtL_add(W0:Nat->Nat)(g:Nat)(xs:List Nat)(s:Nat):Fz W0 g (xs++[s])=Fz W0 g xs++(if W0 (2*g+1+s)=0 then [] else [W0 (2*g+1+s)]):=by
 unfold Fz
 rw[List.map_append,List.filter_append]
 congr 1
 by_cases h:W0 (2*g+1+s)=0 <;> simp[h]

theorem tgtL_len(W0:Nat->Nat)(g:Nat)(xs:List Nat):(Fz W0 g xs).length<=xs.length:=by
 unfold Fz
 exact Nat.le_trans (List.length_filter_le _ _) (by simp)

def TgtI(W0:Nat->Nat)(g rv:Nat)(wl:World)(pre:List Nat)(S:Nat->Prop)(W':World):Prop:=
 ∃ v,W'.heap[rv]?=some (.cells #[v] 49 (0,0))/\W'.ownsRow (wl.heap.size+2) 79 1 v (Fz W0 g pre).length (u64Vs (Fz W0 g pre))/\(S=λ k=>k=rv\/v.ownBlock=some k)/\Kp (λ k=>k=rv) wl W'

set_option maxRecDepth 20000 in
theorem Targets_at(b a q n:Nat)(W0:Nat->Nat)(c:Cel)(k wds:Int)(m:Nat)(w:World)(hA:ArenaAt w a q W0 n)(hV:Ce w b a c k wds m)(hE:AU k wds m (c.ln:Nat)=0)(hM:m<18446744073709551616)(hfit:2*c.g+1+AZ k wds (c.ln:Nat)<=(n:Nat)):
  Calls prog 206 #[.pointer (some ⟨b,0,none⟩)] w λ e w'=>∃ v,e=.returned v/\w'.ownsRow w.heap.size 79 1 v (Fz W0 c.g (BP k wds m (c.ln:Nat))).length (u64Vs (Fz W0 c.g (BP k wds m (c.ln:Nat))))/\Kp Aa w w':=by
 have lbv:=lZ hV
 have la:=hA.lt_a
 have lq:=hA.lt_q
 have hlen:=Eh (M:=m) hE
 refine(callsIn_wide (n:=0)).1 ?_
 refine callsIn_of_wp_marks func206 rfl trivial ?_
 simp only[ntmps206,List.size_toArray,List.length_cons,List.length_nil,Nat.reduceAdd,Nat.reduceSub,Array.replicate_succ,Array.replicate_zero,List.push_toArray,List.append_toArray,List.nil_append,List.cons_append]
 gi_wp2_with fail
 refine⟨trivial,rfl,?_⟩
 obtain⟨w1,hw1⟩:∃ w1,w1=w.alloc (.cells #[.slice none 0 0] 49):=⟨_,rfl⟩
 rw[<- hw1]
 have k1:Kp Aa w w1:=by rw[hw1];exact (Kr _ w).alloc _
 have z1:w1.heap.size=w.heap.size+1:=by rw[hw1];simp
 have b1:w1.heap[w.heap.size]?=some (.cells #[.slice none 0 0] 49 (0,0)):=by rw[hw1];exact wN w _
 clear hw1
 refine(callsIn_wide.2 (vrefs_fn b w1)).mono ?_
 rintro e wl ⟨rfl,hwl⟩
 have hzl:wl.heap.size=w1.heap.size+1:=by rw[<- hwl];simp
 have kl:Kp Aa w1 wl:=by rw[<- hwl];exact (Kr _ w1).alloc _
 have gbx:wl.heap[w1.heap.size]?=some (.cells #[.pointer (some ⟨b,0,none⟩)] 71 (0,0)):=by rw[<- hwl];exact wN w1 _
 clear hwl
 have KL:Kp Aa w wl:=k1.then' kl
 have bl1:=kl.at_ b1 id
 rw[z1] at gbx hzl
 obtain⟨B,hB⟩:∃ B,w.heap.size=B:=⟨_,rfl⟩
 rw[hB] at gbx hzl bl1 lbv la lq z1
 gi_wp2_with fail
 refine wpIn_range4 (n:=0) (gf:=207) (lb:=#[.pointer (some ⟨B+1,0,none⟩)]) rfl (enters_of func207 (by kernel_rfl) rfl)
  (vrefs_iter4 (B+1) b a q n W0 c k wds m wl (hA.Ac KL) (hV.Ac KL) hE hM hfit gbx (R:=λ i=>i=B) (λ i hi=>by subst hi;exact ⟨by omega,by omega,by omega,by omega,by omega⟩)) (λ i hi=>hi.elim) (λ i hi=>by omega)
  (X:=λ _=>False) (λ i hi=>hi.elim) (λ _=>rfl)
  (λ pre S W'=>TgtI W0 c.g B wl pre S W') (λ c pre W'=>False) (λ i=>i=B\/(Value.slice none 0 0).ownBlock=some i) ?hS ?hI ?hIx ?h0 ?hround ?hdone ?hstop
 case hS=>
  rintro pre S A ⟨v,a1,a2,rfl,a4⟩ i hi
  rcases hi with hi|hi
  .exact ⟨.inl hi,by have:=lZ a1;omega⟩
  .have:=Ad a2 hi
   exact⟨.inr this.1,this.2⟩
 case hI=>
  rintro pre S A A' ⟨v,a1,a2,a3,a4⟩ hk
  exact⟨v,hk.at_ a1 (λ h=>by rcases h with h|h|h;exact h;omega;omega),Af a2 hk (λ b hb h=>by have:=Ad a2 hb;rcases h with h|h|h;exact h;omega;omega),a3,
   a4.trans hk (λ b hb h=>by rcases h with h|h|h;exact h.elim;omega;omega)⟩
 case hIx=>exact λ c pre A B h hk=>h
 case h0=>exact ⟨_,bl1,World.ownsRow_nil wl _ _ _,rfl,Kr _ _⟩
 case hround=>
  rintro pre S x rest W' hx ⟨v,a1,a2,a3,a4⟩ hs
  have hpl:pre.length+1<=65536:=by
   have:(BP k wds m (c.ln:Nat)).length=pre.length+(rest.length+1):=by rw[hx];simp
   omega
  have htl:=tgtL_len W0 c.g pre
  obtain⟨y,hy⟩:∃ y,W0 (2*c.g+1+x)=y:=⟨_,rfl⟩
  have HAd:Sl (Fz W0 c.g (pre++[x])=Fz W0 c.g pre++(if y=0 then [] else [y])):=⟨by rw[tgtL_add,hy]⟩
  rw[hy]
  clear hy hx hA hV hE hM hfit gbx bl1
  gi_wp2_with fail
  refine⟨Kr _ W',?_⟩
  intro W2 hc2 hf2 hk2 hs2 hr2
  have lW:=lZ a1
  have own1:(W2).ownsRow (wl.heap.size+2) 79 1 v (Fz W0 c.g pre).length (u64Vs (Fz W0 c.g pre)):=Af a2 hk2 (λ b hb h=>by have:=Ad a2 hb;omega)
  have r0:=hk2.at_ a1 (by omega)
  have c0:=cell_of_one r0
  have fr0:=free_of_one r0
  have HR0:=sE r0
  have HOW:=sE own1
  have HA4:=sE a4
  have HK2:=sE hk2
  have lrW2:B<W2.heap.size:=by omega
  have HNW:Sl (¬ v.ownBlock=some B):=⟨λ e=>by have:=Ad own1 e;omega⟩
  have HS3:=sE a3
  have hs3:wl.heap.size+2<=W2.heap.size:=by omega
  clear r0 own1 a2 a4 hc2 hf2 a1 a3 hk2 hs2
  by_cases h0:y=0
  .have p0:((y:Int) !=0)=false:=by simp[h0]
   rw[if_pos h0,List.append_nil] at HAd
   clear h0
   gi_wp2_with fail
   refine⟨Kr _ W2,S,⟨v,HR0.o,by rw[HAd.o];exact HOW.o,HS3.o,HA4.o.trans HK2.o (λ i hi h=>by omega)⟩,λ i hi=>.inl hi⟩
  .have p0:((y:Int) !=0)=true:=by simp;omega
   rw[if_neg h0] at HAd
   clear h0
   obtain⟨i0,hi,hz0,hz1,hz2⟩:=info_parts infoU64
   refine wpIn_block ?_
   refine wpIn_seq ?_
   refine wpIn_region_lit ?_
   refine Bq (λ _ _ h=>h) _ _ _ (by kernel_rfl) ?_
   go_wp2_with fail
   refine wpIn_cond_true rfl ?_
   refine wpIn_region_lit ?_
   refine Bq (λ _ _ h=>h) _ _ _ (by kernel_rfl) ?_
   go_wp2_with (at_builtin;go_loud (refine wpList_append_lies _ rfl (.tmp 11) (.tmp 13) 49 rfl (wl.heap.size+2) 79 i0 _ 1 8 Fw hi hz0 hz1 hz2 rfl (by omega) v (Fz W0 c.g pre).length (u64Vs (Fz W0 c.g pre)) rfl (HOW.o.alloc _) ⟨W2.heap.size,0,none⟩ 1 1 [.int .u64 (y:Nat)] rfl rfl (World.news_of_block (wN W2 _)) (by intro u hu;simp at hu;subst hu;rfl) (by omega) (by unfold maxLen;omega) (by omega) (by simp;omega) _ rfl ?_);intro g cap w3 hown hgrow hat hlt;have KA:Kp (λ b=>v.ownBlock=some b) W2 w3:=((Kr Aa W2).alloc _ |>.Aw _).grown hgrow (λ k e _=>e);have r3:=KA.at_ HR0.o HNW.o;have c3:=cell_of_one r3;have fr3:=free_of_one r3;have HR3:=sE r3;clear r3)
   have KB:Kp (λ b=>b=B) w3 (w3.setCell ⟨B,0,none⟩ (.slice (some ⟨g,0,none⟩) ((Fz W0 c.g pre).length+1) cap)):=(Kr (λ b=>b=B) w3).setCell (λ _=>rfl) _
   refine⟨((KA.mono λ b hb h=>by rw[HS3.o];exact .inr h).trans KB (λ b hb h=>by rw[HS3.o];exact .inl h)),_,⟨.slice (some ⟨g,0,none⟩) ((Fz W0 c.g pre).length+1) cap,one_setCell HR3.o,?_,rfl,?_⟩,?_⟩
   .rw [HAd.o,u64Vs,List.map_append,List.length_append]
    exact Af hown KB (λ b hb h=>by have:=Ad hown hb;omega)
   .exact ((HA4.o.trans HK2.o (λ b hb h=>by omega)).trans KA (λ b hb h=>by have:=Ad HOW.o h;omega)).trans KB (λ b hb h=>h)
   .rintro i (hi'|hi')
    .exact .inl (by rw[HS3.o];exact .inl hi')
    .have hg:g=i:=by simpa [Value.ownBlock] using hi'
     subst hg
     rcases hat with h|h
     .exact .inl (by rw[HS3.o];exact .inr h)
     .right
      rw[h]
      simp
 case hdone=>
  rintro S W' ⟨v,a1,a2,a3,a4⟩ hs hD
  obtain⟨va,vn,vc,hv⟩:∃ va vn vc,v=.slice va vn vc:=by
   rcases a2.2 with ⟨h,_⟩|⟨g,cap,cur,h,_⟩
   .exact ⟨_,_,_,h⟩
   .exact ⟨_,_,_,h⟩
  subst hv
  have c0:=cell_of_one a1
  have fr0:=free_of_one a1
  have HA1:=sE a1
  have HA2:=sE a2
  have HA4:=sE a4
  clear a1 a2 a3 a4
  gi_wp2_with fail
  obtain⟨w4,hw4⟩:∃ w4,w4=W'.setCell ⟨B,0,none⟩ (.slice va vn vc):=⟨_,rfl⟩
  rw[<- hw4]
  have KB:Kp (λ b=>b=B) W' w4:=by rw[hw4];exact (Kr (λ b=>b=B) W').setCell (λ _=>rfl) _
  have b4:w4.heap[B]?=some (.cells #[.slice va vn vc] 49 (0,0)):=by rw[hw4];exact one_setCell HA1.o
  clear hw4
  refine⟨by simp,.inl ⟨_,_,rfl,run_takeDeferred (KB.at_ hD (by omega)),?_⟩⟩
  have kE:Kp (λ b=>b=wl.heap.size) w4 (w4.putObj wl.heap.size (.deferred none)):=(Kr (λ b=>b=wl.heap.size) w4).putObj (λ _=>rfl) _
  have e4:=cell_of_one (kE.at_ b4 (by omega))
  refine⟨.slice va vn vc,by simp[results,results206,go_sem,e4],_,rfl,?_,?_⟩
  .refine Cq (Af (Af HA2.o KB (λ b hb h=>?_)) kE (λ b hb h=>?_)) (by omega)
   .have:=Ad HA2.o hb;omega
   .have:=Ad HA2.o hb;omega
  .exact (((KL.trans HA4.o (λ b hb h=>by omega)).trans KB (λ b hb h=>by omega)).trans kE (λ b hb h=>by omega))
 case hstop=>exact λ c pre W' hp h=>h.elim

def BQ(ts:List TypR)(c:Cel):List Nat:=match typeOf ts (c.ty:Nat) with|some x=>BP x.k x.wds x.m (c.ln:Nat)|none=>[]

end

section
open Go.RowKit
attribute [local go_sem] Oper.semAt_some

def RefI(rv:Nat)(wl:World)(pre:List Nat)(S:Nat->Prop)(W':World):Prop:=
 ∃ v,W'.heap[rv]?=some (.cells #[v] 24 (0,0))/\W'.ownsRow (wl.heap.size+2) 3 1 v (pre).length (Az (pre))/\(S=λ k=>k=rv\/v.ownBlock=some k)/\Kp (λ k=>k=rv) wl W'

set_option maxRecDepth 20000 in
theorem VRefs_at(b a q n:Nat)(W0:Nat->Nat)(c:Cel)(k wds:Int)(m:Nat)(w:World)(hA:ArenaAt w a q W0 n)(hV:Ce w b a c k wds m)(hE:AU k wds m (c.ln:Nat)=0)(hM:m<18446744073709551616)(hfit:2*c.g+1+AZ k wds (c.ln:Nat)<=(n:Nat)):
  Calls prog 128 #[.pointer (some ⟨b,0,none⟩)] w λ e w'=>∃ v,e=.returned v/\w'.ownsRow w.heap.size 3 1 v ((BP k wds m (c.ln:Nat))).length (Az ((BP k wds m (c.ln:Nat))))/\Kp Aa w w':=by
 have lbv:=lZ hV
 have la:=hA.lt_a
 have lq:=hA.lt_q
 have hlen:=Eh (M:=m) hE
 refine(callsIn_wide (n:=0)).1 ?_
 refine callsIn_of_wp_marks func128 rfl trivial ?_
 simp only[ntmps128,List.size_toArray,List.length_cons,List.length_nil,Nat.reduceAdd,Nat.reduceSub,Array.replicate_succ,Array.replicate_zero,List.push_toArray,List.append_toArray,List.nil_append,List.cons_append]
 gi_wp2_with fail
 refine⟨trivial,rfl,?_⟩
 obtain⟨w1,hw1⟩:∃ w1,w1=w.alloc (.cells #[.slice none 0 0] 24):=⟨_,rfl⟩
 rw[<- hw1]
 have k1:Kp Aa w w1:=by rw[hw1];exact (Kr _ w).alloc _
 have z1:w1.heap.size=w.heap.size+1:=by rw[hw1];simp
 have b1:w1.heap[w.heap.size]?=some (.cells #[.slice none 0 0] 24 (0,0)):=by rw[hw1];exact wN w _
 clear hw1
 refine(callsIn_wide.2 (vrefs_fn b w1)).mono ?_
 rintro e wl ⟨rfl,hwl⟩
 have hzl:wl.heap.size=w1.heap.size+1:=by rw[<- hwl];simp
 have kl:Kp Aa w1 wl:=by rw[<- hwl];exact (Kr _ w1).alloc _
 have gbx:wl.heap[w1.heap.size]?=some (.cells #[.pointer (some ⟨b,0,none⟩)] 71 (0,0)):=by rw[<- hwl];exact wN w1 _
 clear hwl
 have KL:Kp Aa w wl:=k1.then' kl
 have bl1:=kl.at_ b1 id
 rw[z1] at gbx hzl
 obtain⟨B,hB⟩:∃ B,w.heap.size=B:=⟨_,rfl⟩
 rw[hB] at gbx hzl bl1 lbv la lq z1
 gi_wp2_with fail
 refine wpIn_range4 (n:=0) (gf:=207) (lb:=#[.pointer (some ⟨B+1,0,none⟩)]) rfl (enters_of func207 (by kernel_rfl) rfl)
  (vrefs_iter4 (B+1) b a q n W0 c k wds m wl (hA.Ac KL) (hV.Ac KL) hE hM hfit gbx (R:=λ i=>i=B) (λ i hi=>by subst hi;exact ⟨by omega,by omega,by omega,by omega,by omega⟩)) (λ i hi=>hi.elim) (λ i hi=>by omega)
  (X:=λ _=>False) (λ i hi=>hi.elim) (λ _=>rfl)
  (λ pre S W'=>RefI B wl pre S W') (λ c pre W'=>False) (λ i=>i=B\/(Value.slice none 0 0).ownBlock=some i) ?hS ?hI ?hIx ?h0 ?hround ?hdone ?hstop
 case hS=>
  rintro pre S A ⟨v,a1,a2,rfl,a4⟩ i hi
  rcases hi with hi|hi
  .exact ⟨.inl hi,by have:=lZ a1;omega⟩
  .have:=Ad a2 hi
   exact⟨.inr this.1,this.2⟩
 case hI=>
  rintro pre S A A' ⟨v,a1,a2,a3,a4⟩ hk
  exact⟨v,hk.at_ a1 (λ h=>by rcases h with h|h|h;exact h;omega;omega),Af a2 hk (λ b hb h=>by have:=Ad a2 hb;rcases h with h|h|h;exact h;omega;omega),a3,
   a4.trans hk (λ b hb h=>by rcases h with h|h|h;exact h.elim;omega;omega)⟩
 case hIx=>exact λ c pre A B h hk=>h
 case h0=>exact ⟨_,bl1,World.ownsRow_nil wl _ _ _,rfl,Kr _ _⟩
 case hround=>
  rintro pre S x rest W' hx ⟨v,a1,a2,a3,a4⟩ hs
  have hpl:pre.length+1<=65536:=by
   have:(BP k wds m (c.ln:Nat)).length=pre.length+(rest.length+1):=by rw[hx];simp
   omega
  clear hx hA hV hE hM hfit gbx bl1
  gi_wp2_with fail
  refine⟨Kr _ W',?_⟩
  intro W2 hc2 hf2 hk2 hs2 hr2
  have lW:=lZ a1
  have own1:(W2).ownsRow (wl.heap.size+2) 3 1 v (pre).length (Az (pre)):=Af a2 hk2 (λ b hb h=>by have:=Ad a2 hb;omega)
  have r0:=hk2.at_ a1 (by omega)
  have c0:=cell_of_one r0
  have fr0:=free_of_one r0
  have HR0:=sE r0
  have HOW:=sE own1
  have HA4:=sE a4
  have HK2:=sE hk2
  have lrW2:B<W2.heap.size:=by omega
  have HNW:Sl (¬ v.ownBlock=some B):=⟨λ e=>by have:=Ad own1 e;omega⟩
  have HS3:=sE a3
  have hs3:wl.heap.size+2<=W2.heap.size:=by omega
  clear r0 own1 a2 a4 hc2 hf2 a1 a3 hk2 hs2
  obtain⟨i0,hi,hz0,hz1,hz2⟩:=info_parts Be
  refine wpIn_block ?_
  refine wpIn_region_lit ?_
  refine Bq (λ _ _ h=>h) _ _ _ (by kernel_rfl) ?_
  go_wp2_with (at_builtin;go_loud (refine wpList_append_lies _ rfl (.tmp 8) (.tmp 10) 24 rfl (wl.heap.size+2) 3 i0 _ 1 8 Ar hi hz0 hz1 hz2 rfl (by omega) v (pre).length (Az (pre)) rfl (HOW.o.alloc _) ⟨W2.heap.size,0,none⟩ 1 1 [x] rfl rfl (World.news_of_block (wN W2 _)) (by intro u hu;simp at hu;subst hu;rfl) (by omega) (by unfold maxLen;omega) (by omega) (by simp;omega) _ rfl ?_);intro g cap w3 hown hgrow hat hlt;have KA:Kp (λ b=>v.ownBlock=some b) W2 w3:=((Kr Aa W2).alloc _ |>.Aw _).grown hgrow (λ k e _=>e);have r3:=KA.at_ HR0.o HNW.o;have c3:=cell_of_one r3;have fr3:=free_of_one r3;have HR3:=sE r3;clear r3)
  have KB:Kp (λ b=>b=B) w3 (w3.setCell ⟨B,0,none⟩ (.slice (some ⟨g,0,none⟩) ((pre).length+1) cap)):=(Kr (λ b=>b=B) w3).setCell (λ _=>rfl) _
  refine⟨((KA.mono λ b hb h=>by rw[HS3.o];exact .inr h).trans KB (λ b hb h=>by rw[HS3.o];exact .inl h)),_,⟨.slice (some ⟨g,0,none⟩) ((pre).length+1) cap,one_setCell HR3.o,?_,rfl,?_⟩,?_⟩
  .rw [Az,List.map_append,List.length_append]
   exact Af hown KB (λ b hb h=>by have:=Ad hown hb;omega)
  .exact ((HA4.o.trans HK2.o (λ b hb h=>by omega)).trans KA (λ b hb h=>by have:=Ad HOW.o h;omega)).trans KB (λ b hb h=>h)
  .rintro i (hi'|hi')
   .exact .inl (by rw[HS3.o];exact .inl hi')
   .have hg:g=i:=by simpa [Value.ownBlock] using hi'
    subst hg
    rcases hat with h|h
    .exact .inl (by rw[HS3.o];exact .inr h)
    .right
     rw[h]
     simp
 case hdone=>
  rintro S W' ⟨v,a1,a2,a3,a4⟩ hs hD
  obtain⟨va,vn,vc,hv⟩:∃ va vn vc,v=.slice va vn vc:=by
   rcases a2.2 with ⟨h,_⟩|⟨g,cap,cur,h,_⟩
   .exact ⟨_,_,_,h⟩
   .exact ⟨_,_,_,h⟩
  subst hv
  have c0:=cell_of_one a1
  have fr0:=free_of_one a1
  have HA1:=sE a1
  have HA2:=sE a2
  have HA4:=sE a4
  clear a1 a2 a3 a4
  gi_wp2_with fail
  obtain⟨w4,hw4⟩:∃ w4,w4=W'.setCell ⟨B,0,none⟩ (.slice va vn vc):=⟨_,rfl⟩
  rw[<- hw4]
  have KB:Kp (λ b=>b=B) W' w4:=by rw[hw4];exact (Kr (λ b=>b=B) W').setCell (λ _=>rfl) _
  have b4:w4.heap[B]?=some (.cells #[.slice va vn vc] 24 (0,0)):=by rw[hw4];exact one_setCell HA1.o
  clear hw4
  refine⟨by simp,.inl ⟨_,_,rfl,run_takeDeferred (KB.at_ hD (by omega)),?_⟩⟩
  have kE:Kp (λ b=>b=wl.heap.size) w4 (w4.putObj wl.heap.size (.deferred none)):=(Kr (λ b=>b=wl.heap.size) w4).putObj (λ _=>rfl) _
  have e4:=cell_of_one (kE.at_ b4 (by omega))
  refine⟨.slice va vn vc,by simp[results,results128,go_sem,e4],_,rfl,?_,?_⟩
  .refine Cq (Af (Af HA2.o KB (λ b hb h=>?_)) kE (λ b hb h=>?_)) (by omega)
   .have:=Ad HA2.o hb;omega
   .have:=Ad HA2.o hb;omega
  .exact (((KL.trans HA4.o (λ b hb h=>by omega)).trans KB (λ b hb h=>by omega)).trans kE (λ b hb h=>by omega))
 case hstop=>exact λ c pre W' hp h=>h.elim

theorem obj_one{W:Nat->Nat}{n:Nat}{ts:List TypR}{c:Cel}(hok:Di ts c)(hW:W (2*c.g)=BA c.tag c.ty c.ln c.sz)(hfit:c.g+c.sz<=n/2)(h0:0<c.sz)(ht:c.tag=1):Cj W n ts (c.g:Nat)=some c:=by
 obtain⟨d1,d2,d3,d4,d5⟩:=dec_enc hok.1
 have hf:=fitsE_ok hok
 unfold Cj
 rw[Int.toNat_natCast,hW,d1,d2,d3,d4,d5,ht]
 rw[ht] at hf
 rw[if_pos ⟨by omega,by omega,rfl,rfl,hf,by omega⟩]
 obtain⟨g,tag,ty,ln,sz⟩:=c
 simp only at ht
 subst ht
 rfl

theorem SOf_one(c:Cel)(P:Sp)(W:Nat->Nat)(f:Nat->Bool)(w:World)(h:SpaceAt w P W f)(hok:Di P.ts c)(hW:W (2*c.g)=BA c.tag c.ty c.ln c.sz)(hfit:c.g+c.sz<=P.n/2)(h0:0<c.sz)(ht:c.tag=1)(hms:∀ x∈P.ts,x.m<18446744073709551616):
  Calls prog 30 #[.pointer (some P.a),.pointer (some P.t),c.g] w λ e w'=>
   ∃ b k wds m,((AU k wds m (c.ln:Nat)=0/\m<18446744073709551616)/\BQ P.ts c=BP k wds m (c.ln:Nat)/\2*c.g+1+AZ k wds (c.ln:Nat)<=(P.n:Nat))/\e=.returned (.tuple #[.pointer (some ⟨b,0,none⟩),(0:Int)])/\Ce w' b P.a c k wds m/\w.heap.size<=b/\Kp Aa w w':=by
 refine(SOf_any (c.g:Nat) P.a P.q P.n P.t P.tq W P.ts w h.fl h.ar h.tb).mono ?_
 intro e w' hp
 unfold Db at hp
 rw[obj_one hok hW hfit h0 ht] at hp
 obtain⟨b,k,wds,m,h1,h2,h3,h4,h5⟩:=hp
 have hk:AU k wds m (c.ln:Nat)=0:=by
  obtain⟨e1,e2⟩:=hok.2 ht
  unfold AV at e1
  rw[h1] at e1
  exact e1
 have hm:m<18446744073709551616:=by
  obtain⟨i,-,hi,-⟩:=Es h1
  exact hms _ (List.mem_of_getElem? hi)
 refine⟨b,k,wds,m,⟨⟨hk,hm⟩,by unfold BQ;rw [h1],?_⟩,h2,h3,h4,h5⟩
 have hr:=slotN_room hok h0
 unfold slotN at hr
 rw[if_pos ht,h1] at hr
 dsimp only at hr
 have:=(Bj hk).1
 omega

def Bv(ts:List TypR)(W:Nat->Nat)(os:List Cel):List (Nat×Nat×Nat):=os.flatMap λ c=>(BQ ts c).map λ s=>(c.g,s,W (2*c.g+1+s))

def edgeV(cs:List Cel)(x:Nat×Nat×Nat):Value:=.agg #[x.1,x.2.1,.int .i64 (tgt cs x.2.2)]

theorem refsW_add{ts:List TypR}{W:Nat->Nat}{xs:List Cel}{c:Cel}:Bv ts W (xs++[c])=Bv ts W xs++(BQ ts c).map λ s=>(c.g,s,W (2*c.g+1+s)):=by
 simp[Bv]

theorem refsW_at{ts:List TypR}{W:Nat->Nat}{xs:List Cel}{j i s:Nat}{c:Cel}(h:xs[j]?=some c)(hi:(BQ ts c)[i]?=some s):
  ∃ rest,Bv ts W xs=(Bv ts W (xs.take j)++((BQ ts c).take i).map λ s=>(c.g,s,W (2*c.g+1+s)))++(c.g,s,W (2*c.g+1+s))::rest:=by
 obtain⟨h1,h2⟩:=gE.1 h
 obtain⟨i1,i2⟩:=gE.1 hi
 have e1:xs=xs.take j++c::xs.drop (j+1):=by rw[<- h2,List.getElem_cons_drop h1,List.take_append_drop]
 have e2:BQ ts c=(BQ ts c).take i++s::(BQ ts c).drop (i+1):=by rw[<- i2,List.getElem_cons_drop i1,List.take_append_drop]
 refine⟨((BQ ts c).drop (i+1)).map (λ s=>(c.g,s,W (2*c.g+1+s)))++Bv ts W (xs.drop (j+1)),?_⟩
 have e3:Bv ts W (c::xs.drop (j+1))=(BQ ts c).map (λ s=>(c.g,s,W (2*c.g+1+s)))++Bv ts W (xs.drop (j+1)):=by simp[Bv]
 have e4:∀ a b:List Cel,Bv ts W (a++b)=Bv ts W a++Bv ts W b:=λ a b=>by simp[Bv]
 have e5:=congrArg (List.map λ s=>(c.g,s,W (2*c.g+1+s))) e2
 rw[List.map_append,List.map_cons] at e5
 calc Bv ts W xs=Bv ts W (xs.take j++c::xs.drop (j+1)):=by rw[<- e1]
  _=_:=by rw[e4,e3,e5];simp

theorem Da.keep{S:Nat->Prop}{w w':World}{P:Sp}{gb m base:Nat}{cs:List Cel}{e:Nat}{ov:Value}(h:Da w P gb m base cs e ov)(k:Kp S w w')(h1:¬ S gb)(h2:¬ S m)(h3:∀ b,ov.ownBlock=some b->¬ S b):Da w' P gb m base cs e ov:=by
 obtain⟨g1,⟨n,hn,g2⟩,g3,g4⟩:=h
 exact⟨k.at_ g1 h1,⟨n,hn,g2.keep k h2⟩,Af g3 k h3,g4⟩

theorem grefs_fn(gb:Nat)(w:World):
  Calls prog 75 #[.pointer (some gb)] w λ e w'=>
   e=.returned (.func (.func 127) #[] #[.pointer (some w.heap.size)])/\w.alloc (.cells #[.pointer (some gb)] 148)=w':=by
 have hmf:∀ (fn:Fn) (first cap:Array Value) (w:World),(Instr.makeFunc fn first cap).run prog w=.ok (.func fn first cap) w:=λ _ _ _ _=>rfl
 go_enter func75,ntmps75
 go_wp2
 go_ret
 exact⟨rfl,rfl⟩

set_option maxRecDepth 20000 in
theorem grefs_iter4(P:Sp)(W0:Nat->Nat)(f:Nat->Bool)(cs:List Cel)(E:Nat)(bx gb m base:Nat)(ov:Value)(w:World)(h:SpaceAt w P W0 f)(hc:CellsTo P W0 cs E)(hms:∀ x∈P.ts,x.m<18446744073709551616)(hg:Da w P gb m base cs E ov)
  (hb:w.heap[bx]?=some (.cells #[.pointer (some gb)] 148 (0,0))) {R:Nat->Prop} (hR:∀ i,R i->i<w.heap.size/\¬ i=bx/\¬ i=gb/\¬ i=m/\¬ ov.ownBlock=some i/\¬ P.all i):
  IterAt4 prog 127 #[.pointer (some bx)] (λ x=>#[edgeV cs x,.int .u64 x.2.2]) (Bv P.ts W0 (Aj cs)) Aa R w:=by
 intro l J Jx S0 W hW hl1 hl2 hS hJ hJx hY h0
 have lbx:=lZ hb
 have bW:=hW.at_ hb id
 have HBw:=sE bW
 have HSw:=sE (h.Ac hW)
 obtain⟨g1,⟨nm,hnm,g2⟩,g3,g4⟩:=hg
 have lgb:=lZ g1
 have lm:=g2.lt
 have gW1:=hW.at_ g1 id
 have HGw:Sl (Da W P gb m base cs E ov):=⟨⟨gW1,⟨nm,hnm,g2.keep hW id⟩,Af g3 hW (λ _ _ h=>h),g4⟩⟩
 have hoL:(BK cs).length<=32768:=by
  have:=obsG_len cs
  have:=BG g4
  have:=hc.le
  have:=h.ar.small
  omega
 obtain⟨oa,oc,rfl⟩:=Aq g3
 have lall:=h.lt
 have z1:=hW.size
 have cb:=cell_of_one bW
 obtain⟨e0,e1,e2,e3,e4⟩:=Cg gW1
 have H0:=sE h0
 have HCs:=sE hc
 obtain⟨L,hL⟩:∃ L,(BK cs).length=L:=⟨_,rfl⟩
 rw[hL] at e3 hoL
 have HLL:=sE hL
 have lob:∀ b,(Value.slice oa (BK cs).length oc).ownBlock=some b->b<w.heap.size:=λ b hb=>(Ad g3 hb).2
 have HNx:Sl (¬ (R bx\/bx=l)):=⟨λ h=>by
  rcases h with h|h
  .exact (hR bx h).2.1 rfl
  .omega⟩
 have HGn:Sl (∀ W',Kp (λ i=>R i\/i=l) W W'->Da W' P gb m base cs E (.slice oa (BK cs).length oc)):=⟨λ W' kk=>HGw.o.keep kk (λ h=>by
   rcases h with h|h
   .exact (hR gb h).2.2.1 rfl
   .omega) (λ h=>by
   rcases h with h|h
   .exact (hR m h).2.2.2.1 rfl
   .omega) (λ b hb h=>by
   have:=lob b hb
   rcases h with h|h
   .exact (hR b h).2.2.2.2.1 hb
   .omega)⟩
 have HGk:Sl (∀ W1 W2,Da W1 P gb m base cs E (.slice oa (BK cs).length oc)->Kp Aa W1 W2->Da W2 P gb m base cs E (.slice oa (BK cs).length oc)):=⟨λ W1 W2 hg kk=>hg.keep kk id id (λ _ _ h=>h)⟩
 have HSn:Sl (∀ W',Kp (λ i=>R i\/i=l) W W'->SpaceAt W' P W0 f):=⟨λ W' kk=>HSw.o.keep kk (λ i hi h=>by
   have:=lall i hi
   rcases h with h|h
   .exact (hR i h).2.2.2.2.2 hi
   .omega)⟩
 clear g1 g2 g3 g4 hnm h0 hL e0 e1 e2 e4 lob hc h hR gW1 bW
 refine(callsIn_wide (n:=0)).1 ?_
 refine callsIn_of_wp func127 rfl trivial ?_
 simp only[ntmps127,List.size_toArray,List.length_cons,List.length_nil,Nat.reduceAdd,Nat.reduceSub,Array.replicate_succ,Array.replicate_zero,List.push_toArray,List.append_toArray,List.nil_append,List.cons_append]
 gi_wp2_with fail
 gi_loopw [16] (λ v16 wr=>∃ (j:Nat) (S:Nat->Prop),j<=L/\v16=.int .i64 j/\J (Bv P.ts W0 ((Aj cs).take j)) S wr/\Kp (λ i=>R i\/i=l) W wr) (λ v16 wr=>L-(intOf v16).toNat)
 case atStart=>exact ⟨0,S0,Nat.zero_le _,rfl,H0.o,Kr _ _⟩
 case round=>
  obtain⟨j,S,hj,rfl,hjJ,kr⟩:=hrel
  obtain⟨wo,rfl⟩:∃ wo:World,wo=wr:=⟨_,rfl⟩
  have HJ:=sE hjJ
  have HKr:=sE kr
  by_cases hjl:j<L
  .have hjl':(j:Int)<(L:Int):=by omega
   obtain⟨c,hcj⟩:∃ c,(Aj cs)[j]?=some c:=by
    have:j<(Aj cs).length:=by have:=HLL.o;unfold BK at this;rw [List.length_map] at this;omega
    exact⟨_,List.getElem?_eq_getElem this⟩
   have hmem:=AX.1 (List.mem_of_getElem? hcj)
   have hgj:(BK cs)[j]?=some c.g:=by unfold BK;rw [List.getElem?_map,hcj];rfl
   have Gr:=HGn.o wo kr
   obtain⟨ob,hob,cx⟩:=Cu Gr.2.2.1 hgj
   subst hob
   have br:=kr.at_ HBw.o HNx.o
   have cb:=cell_of_one br
   obtain⟨e0,e1,e2,e3,e4⟩:=Cg Gr.1
   have HOf:Sl (∀ W',Kp Aa wo W'->_):=⟨λ W' kk=>SOf_one c P W0 f W' ((HSn.o wo kr).Ac kk) (HCs.o.ok c hmem.1) (HCs.o.hd c hmem.1) (by have:=(HCs.o.tl.mem hmem.1).2.1;have:=HCs.o.le;omega) (HCs.o.tl.mem hmem.1).2.2 hmem.2 hms⟩
   have hst:(Aj cs).take (j+1)=(Aj cs).take j++[c]:=by rw[List.take_add_one,hcj];rfl
   have HSt:Sl (Bv P.ts W0 ((Aj cs).take (j+1))=Bv P.ts W0 ((Aj cs).take j)++(BQ P.ts c).map λ s=>(c.g,s,W0 (2*c.g+1+s))):=⟨by rw[hst,refsW_add]⟩
   have HAll:Sl (∀ (i:Nat) (s:Nat),(BQ P.ts c)[i]?=some s->∃ rest,Bv P.ts W0 (Aj cs)=(Bv P.ts W0 ((Aj cs).take j)++((BQ P.ts c).take i).map λ s=>(c.g,s,W0 (2*c.g+1+s)))++(c.g,s,W0 (2*c.g+1+s))::rest):=⟨λ i s hi=>refsW_at hcj hi⟩
   clear Gr br hmem hgj hst hcj kr hjJ e2 e4
   gi_wp2_with fail
   refine wpIn_wide.2 ?_
   refine wp_region_held_drew (S:=λ w'=>w'.cell? bx=some (.pointer (some gb))/\w'.cell? gb=some (.pointer (some P.a))/\w'.cell? ⟨gb,1,none⟩=some (.pointer (some P.t))) (by kernel_rfl) ?_ (λ qZ=>?_)
   .exact ⟨cb,e0,e1⟩
   refine Ap 0 ?_;refine Ap 1 ?_;refine Ap 2 ?_;refine Ap 3 ?_;refine Ap 4 ?_;refine Ap 5 ?_;refine Ap 6 ?_;refine Ap 7 ?_;refine Ap 8 ?_
   try simp only[AB]
   refine Bp [9] ?_
   refine Ag rfl (λ K hK=>?_)
   go_simp
   go_at_call 30
   (with_reducible refine(HOf.o _ (Kr Aa wo).drew).mono ?_)
   rintro e w5 ⟨b,k,wds,mm,⟨⟨hk,hmm⟩,hrf,hfit⟩,rfl,hV,hbn,k5⟩
   have K5:Kp Aa wo w5:=((Kr Aa wo).drew).then' k5
   refine hK _ _ ?_ (λ qZ=>?_)
   .exact ⟨Ae K5 cb,Ae K5 e0,Ae K5 e1⟩
   clear hK K
   try simp only[AB]
   refine Ap 10 ?_;refine Ap 11 ?_;refine Ap 12 ?_;refine Ap 13 ?_;refine Ap 14 ?_
   try simp only[AB]
   refine wpAnyH_done (by kernel_rfl) ?_ _
   have HK5:=sE K5
   have HV5:=sE hV
   have HB5:Sl (wo.heap.size<=b):=⟨hbn⟩
   have HKd:=sE (And.intro hk (And.intro hmm hfit))
   have HRf:=sE (VRefs_at b P.a P.q P.n W0 c k wds mm w5 ((HSn.o wo HKr.o).Ac K5).ar hV hk hmm hfit)
   have HSz:Sl (∀ i,S i->i<wo.heap.size):=⟨λ i hi=>(hS _ _ _ HJ.o i hi).2⟩
   rw[hrf] at HSt HAll
   obtain⟨rs,hrs⟩:∃ rs,BP k wds mm (c.ln:Nat)=rs:=⟨_,rfl⟩
   have HRs:=sE hrs
   rw[hrs] at HSt HAll HRf
   clear qZ K5 k5 hV hbn hk hmm hfit hrf hrs cb cx e0 e1 e3 HOf
   gi_wp2_with fail
   refine⟨trivial,rfl,?_⟩
   refine(callsIn_wide.2 HRf.o).mono ?_
   rintro e w6 ⟨rv,rfl,hrow,k6⟩
   obtain⟨ra,rc,rfl⟩:=Aq hrow
   have HRow6:=sE hrow
   have HK6:Sl (Kp Aa wo w6):=⟨HK5.o.then' k6⟩
   have HV6:=sE (HV5.o.Ac k6)
   have hz5:b<w5.heap.size:=lZ HV5.o
   have hz56:=HK5.o.size
   have HJ6:=sE (hJ _ _ _ _ HJ.o HK6.o)
   have HN6:Sl (∀ i,S i->¬ i=b/\¬ (Value.slice ra rs.length rc).ownBlock=some i):=⟨λ i hi=>⟨by have:=HSz.o i hi;have:=HB5.o;omega,λ h=>by have:=(Ad hrow h).1;have:=HSz.o i hi;omega⟩⟩
   obtain⟨M,hM⟩:∃ M,rs.length=M:=⟨_,rfl⟩
   rw[hM] at HN6 HRow6
   have HM:=sE hM
   have hM6:M<=65536:=by rw[<- hM,<- HRs.o];exact Eh HKd.o.1
   have HKW:Sl (Kp (λ i=>R i\/i=l) W w6):=⟨HKr.o.trans HK6.o (λ _ _ h=>h.elim)⟩
   try rw[hM]
   clear hrow k6 hM
   gi_wp2_with fail
   gi_loopw [38] (λ v38 wr=>∃ (i:Nat) (S:Nat->Prop),i<=M/\v38=.int .i64 (i:Nat)/\J (Bv P.ts W0 ((Aj cs).take j)++(rs.take i).map λ s=>(c.g,s,W0 (2*c.g+1+s))) S wr/\Kp (λ i=>R i\/i=l) W wr/\(∀ i,S i->¬ i=b/\¬ (Value.slice ra M rc).ownBlock=some i)/\wr.ownsRow w5.heap.size 3 1 (.slice ra M rc) M (Az rs)/\Ce wr b P.a c k wds mm) (λ v38 wr=>M-(intOf v38).toNat)
   case atStart=>exact ⟨0,S,Nat.zero_le _,rfl,by rw[List.take_zero,List.map_nil,List.append_nil];exact HJ6.o,HKW.o,HN6.o,HRow6.o,HV6.o⟩
   case round=>
    obtain⟨i,S',hi,rfl,hjJ,kq,hN,hrow,hV⟩:=hrel
    have HJq:=sE hjJ
    have HKq:=sE kq
    have HNq:=sE hN
    have HRq:=sE hrow
    have HVq:=sE hV
    by_cases hil:i<M
    .have hil':(i:Int)<(M:Int):=by omega
     obtain⟨s,hs⟩:∃ s,rs[i]?=some s:=⟨rs[i]'(by rw[HM.o];exact hil),by simp⟩
     obtain⟨rb,hrb,cx⟩:=Cu hrow hs
     subst hrb
     have hsT:(s:Int)<AZ k wds (c.ln:Nat):=refsT_mem HKd.o.1 (by rw[HRs.o];exact List.mem_of_getElem? hs)
     have HLd:=sE (VLoad_yes s b P.a P.q P.n W0 c k wds mm wr (HSn.o wr kq).ar hV HKd.o.1 hsT (by have:=HKd.o.2.2;omega))
     obtain⟨rest,HRest⟩:∃ rest,Sl (Bv P.ts W0 (Aj cs)=(Bv P.ts W0 ((Aj cs).take j)++(rs.take i).map λ s=>(c.g,s,W0 (2*c.g+1+s)))++(c.g,s,W0 (2*c.g+1+s))::rest):=by
      obtain⟨rest,h⟩:=HAll.o i s hs
      exact⟨rest,⟨h⟩⟩
     have HTk:Sl ((Bv P.ts W0 ((Aj cs).take j)++(rs.take i).map λ s=>(c.g,s,W0 (2*c.g+1+s)))++[(c.g,s,W0 (2*c.g+1+s))]=Bv P.ts W0 ((Aj cs).take j)++(rs.take (i+1)).map λ s=>(c.g,s,W0 (2*c.g+1+s))):=⟨by
      rw[List.take_add_one,hs,List.append_assoc,List.map_append];rfl⟩
     obtain⟨y,hy⟩:∃ y,W0 (2*c.g+1+s)=y:=⟨_,rfl⟩
     have HY64:Sl (y<18446744073709551616):=⟨by rw[<- hy];exact HSw.o.ar.fits _ (by have:=HKd.o.2.2;omega)⟩
     rw[hy] at HLd HRest HTk
     have Gq:=HGn.o wr kq
     have br:=kq.at_ HBw.o HNx.o
     have cb:=cell_of_one br
     have HTg:Sl (∀ W',Kp Aa wr W'->Calls prog 130 #[.pointer (some gb),.int .u64 (y:Nat)] W' λ e' w'=>e'=.returned (.int .i64 (tgt cs y))/\w'=W'):=⟨λ W' kk=>target_at P gb m base E cs _ W' (HGk.o wr W' Gq kk) y HY64.o⟩
     clear Gq br hjJ kq hN hrow hV hs hsT hy
     gi_wp2_with fail
     refine⟨trivial,rfl,?_⟩
     refine(callsIn_wide.2 HLd.o).mono ?_
     rintro e w7 ⟨rfl,k7⟩
     have cb7:=k7.cell cb id
     clear cb cx
     gi_wp2_with fail
     refine⟨trivial,rfl,?_⟩
     refine(callsIn_wide.2 (HTg.o _ k7)).mono ?_
     rintro e w8 ⟨rfl,rfl⟩
     have J8:=hJ _ _ _ _ HJq.o k7
     have HY8:=sE (hY _ S' _ rest w8 HRest.o J8)
     have HS8:Sl (∀ i,S' i->(R i\/W.heap.size<=i)):=⟨λ i hi=>(hS _ _ _ J8 i hi).1⟩
     have HR8:=sE (Af HRq.o k7 (λ _ _ h=>h))
     have HV8:=sE (HVq.o.Ac k7)
     have HK8:=sE (HKq.o.trans k7 (λ _ _ h=>h.elim))
     clear J8 k7 cb7
     gi_wp2_with fail
     refine En HY8.o rfl ?_
     intro b' B hB
     rcases hB with ⟨rfl,hk,S'',hT,hS'⟩|⟨rfl,hE⟩
     .have hrb:=Ad HR8.o (b:=rb) rfl
      have hvb:=lZ HV8.o
      have OB:=Af HR8.o hk (λ b' hb' hs=>by
       rcases hs with hs|hs
       .exact (HNq.o _ hs).2 hb'
       .have:=(Ad HR8.o hb').1;have:=HK6.o.size;have:=HK5.o.size;have:=HKr.o.size;omega)
      have VB:=HV8.o.keep hk (λ hs=>by
       rcases hs with hs|hs
       .exact (HNq.o _ hs).1 rfl
       .have:=HB5.o;have:=HKr.o.size;omega)
      have KB:=HK8.o.trans hk (λ i hi h=>by
       rcases h with h|h
       .rcases HS8.o i h with h|h
        .exact .inl h
        .omega
       .exact .inr h)
      have NB:∀ i,S'' i->¬ i=b/\¬ (Value.slice (some ⟨rb,0,none⟩) M rc).ownBlock=some i:=λ i hi=>by
       rcases hS' i hi with h'|h'
       .exact HNq.o i h'
       .exact ⟨by omega,λ h=>by have:=(Ad HR8.o h).2;omega⟩
      have HF:=sE (And.intro hT (And.intro KB (And.intro NB (And.intro OB VB))))
      clear hT KB OB VB NB hS' hk hrb hvb
      gi_wp2_with fail
      exact⟨⟨i+1,S'',by omega,by go_num,by rw[<- HTk.o];exact HF.o.1,HF.o.2.1,HF.o.2.2.1,HF.o.2.2.2.1,HF.o.2.2.2.2⟩,by simp only[intOf];omega⟩
     .gi_wp2_with fail
      refine bodyPost_ret (results_none rfl _ _ _) rfl ?_
      exact⟨⟨_,rfl⟩,.inr ⟨_,⟨_,by rw[List.append_assoc];exact HRest.o.symm⟩,hE⟩⟩
    .have hil':¬ (i:Int)<(M:Int):=by omega
     obtain rfl:i=M:=by omega
     gi_wp2_with fail
     exact⟨⟨j+1,S',by omega,by go_num,by have:=HJq.o;rw [show rs.take i=rs from List.take_of_length_le (by have:=HM.o;omega)] at this;rw [HSt.o];exact this,HKq.o⟩,by simp only[intOf];omega⟩
  .have hjl':¬ (j:Int)<(L:Int):=by omega
   gi_wp2_with fail
   go_end0
   exact⟨⟨_,rfl⟩,.inl ⟨S,by
    have:=HJ.o
    rwa [List.take_of_length_le (by have:=HLL.o;unfold BK at this;rw [List.length_map] at this;omega)] at this⟩⟩

end

section
open Go.RowKit
attribute [local go_sem] Oper.semAt_some

def Eu(cs:List Cel)(x:Nat×Nat×Nat):List (Nat×Nat×Nat):=if 0<=tgt cs x.2.2 then [(x.1,x.2.1,(tgt cs x.2.2).toNat)] else []

def A9(cs:List Cel)(xs:List (Nat×Nat×Nat)):List (Nat×Nat×Nat):=xs.flatMap (Eu cs)

def AP(ts:List TypR)(W:Nat->Nat)(cs:List Cel):List (Nat×Nat×Nat):=A9 cs (Bv ts W (Aj cs))

def Bt(es:List (Nat×Nat×Nat)):List Value:=es.flatMap λ e=>[e.1,e.2.1,e.2.2]

theorem ER(xs ys:List (Nat×Nat×Nat)):Bt (xs++ys)=Bt xs++Bt ys:=by simp[Bt]

theorem flatE_at:∀ (xs:List (Nat×Nat×Nat)) (i:Nat) (x:Nat×Nat×Nat),xs[i]?=some x->(Bt xs)[i*3]?=some (.int .i64 x.1)/\(Bt xs)[i*3+1]?=some (.int .i64 x.2.1)/\(Bt xs)[i*3+2]?=some (.int .i64 x.2.2)
 |y::xs,0,x,h=>by
  simp at h
  subst h
  exact⟨rfl,rfl,rfl⟩
 |y::xs,i+1,x,h=>by
  have h2:xs[i]?=some x:=by simpa using h
  obtain⟨h3,h4,h5⟩:=flatE_at xs i x h2
  rw[show (i+1)*3=(i*3+1+1+1) by omega]
  exact⟨h3,h4,h5⟩

theorem edgesP_add(cs:List Cel)(xs:List (Nat×Nat×Nat))(x:Nat×Nat×Nat):A9 cs (xs++[x])=A9 cs xs++Eu cs x:=by simp[A9]

theorem Dv(cs:List Cel):∀ (xs:List (Nat×Nat×Nat)),(A9 cs xs).length<=xs.length
 |[]=>Nat.le_refl _
 |x::xs=>by
  have h:=Dv cs xs
  have e:A9 cs (x::xs)=Eu cs x++A9 cs xs:=rfl
  rw[e,List.length_append]
  have:(Eu cs x).length<=1:=by unfold Eu;split <;> simp
  simp only[List.length_cons]
  omega

theorem refsC_len{ts:List TypR}{c:Cel}(hok:Di ts c)(ht:c.tag=1):(BQ ts c).length<=65536:=by
 unfold BQ
 cases h:typeOf ts (c.ty:Nat) with
 |none=>simp
 |some x=>
  refine Eh ?_
  obtain⟨e1,e2⟩:=hok.2 ht
  unfold AV at e1
  rw[h] at e1
  exact e1

theorem refsW_len{ts:List TypR}{W:Nat->Nat}:∀ {xs:List Cel},(∀ c∈xs,Di ts c/\c.tag=1)->(Bv ts W xs).length<=xs.length*65536
 |[],_=>Nat.le_refl _
 |c::xs,h=>by
  have h1:=refsW_len (W:=W) (λ c hc=>h c (List.mem_cons_of_mem _ hc))
  have h2:=refsC_len (h c List.mem_cons_self).1 (h c List.mem_cons_self).2
  have e:Bv ts W (c::xs)=(BQ ts c).map (λ s=>(c.g,s,W (2*c.g+1+s)))++Bv ts W xs:=rfl
  rw[e,List.length_append,List.length_map]
  simp only[List.length_cons]
  omega

theorem CellsTo.F8{P:Sp}{W:Nat->Nat}{cs:List Cel}{E:Nat}(h:CellsTo P W cs E)(hn:P.n<=65536):(Bv P.ts W (Aj cs)).length<=2147483648:=by
 have h1:=refsW_len (ts:=P.ts) (W:=W) (xs:=Aj cs) (λ c hc=>⟨h.ok c (AX.1 hc).1,(AX.1 hc).2⟩)
 have h2:(Aj cs).length<=cs.length:=List.length_filter_le _ _
 have h3:=BG h.tl
 have h4:=h.le
 omega

theorem EB:prog.underlying 47=some (.slice 70):=by kernel_rfl

theorem Gu:(prog.info? 70).map (λ i=>(i.zero,i.size,i.bytes))=some (some (.agg #[(0:Int),(0:Int),(0:Int)]),3,24):=by kernel_rfl

def EdgI(cs:List Cel)(rv:Nat)(wl:World)(pre:List (Nat×Nat×Nat))(S:Nat->Prop)(W':World):Prop:=
 ∃ v,W'.heap[rv]?=some (.cells #[v] 47 (0,0))/\W'.ownsRow (wl.heap.size+2) 70 3 v (A9 cs pre).length (Bt (A9 cs pre))/\(S=λ k=>k=rv\/v.ownBlock=some k)/\Kp (λ k=>k=rv) wl W'

set_option maxRecDepth 20000 in
theorem Edges_at(P:Sp)(W:Nat->Nat)(f:Nat->Bool)(cs:List Cel)(w:World)(h:SpaceAt w P W f)(hc:CellsAt P W cs)(hms:∀ x∈P.ts,x.m<18446744073709551616):
  Calls prog 29 #[.pointer (some P.s)] w λ e w'=>∃ v,e=.returned v/\w'.ownsRow w.heap.size 70 3 v (AP P.ts W cs).length (Bt (AP P.ts W cs))/\Kp Aa w w':=by
 have HSp:=sE h
 have HCs:=sE hc.to
 have lall:=h.lt
 have hrl:=hc.to.F8 h.ar.small
 have HAr:Sl (∀ w',Kp Aa w w'->Calls prog 31 #[.pointer (some P.s)] w' λ e w''=>e=.returned (.pointer (some P.a))/\w''=w'):=⟨λ w' kk=>FR P W f w' (h.Ac kk)⟩
 have HTb:Sl (∀ w',Kp Aa w w'->Calls prog 32 #[.pointer (some P.s)] w' λ e w''=>e=.returned (.pointer (some P.t))/\w''=w'):=⟨λ w' kk=>STable_at P W f w' (h.Ac kk)⟩
 clear h hc
 refine(callsIn_wide (n:=0)).1 ?_
 refine callsIn_of_wp_marks func29 rfl trivial ?_
 simp only[ntmps29,List.size_toArray,List.length_cons,List.length_nil,Nat.reduceAdd,Nat.reduceSub,Array.replicate_succ,Array.replicate_zero,List.push_toArray,List.append_toArray,List.nil_append,List.cons_append]
 gi_wp2_with fail
 refine⟨trivial,rfl,?_⟩
 obtain⟨w1,hw1⟩:∃ w1,w1=w.alloc (.cells #[.slice none 0 0] 47):=⟨_,rfl⟩
 rw[<- hw1]
 have k1:Kp Aa w w1:=by rw[hw1];exact (Kr _ w).alloc _
 have z1:w1.heap.size=w.heap.size+1:=by rw[hw1];simp
 have b1:w1.heap[w.heap.size]?=some (.cells #[.slice none 0 0] 47 (0,0)):=by rw[hw1];exact wN w _
 clear hw1
 refine(callsIn_wide.2 (HAr.o w1 k1)).mono ?_
 rintro e w2 ⟨rfl,rfl⟩
 gi_wp2_with fail
 refine⟨trivial,rfl,?_⟩
 refine(callsIn_wide.2 (HTb.o _ k1)).mono ?_
 rintro e w2 ⟨rfl,rfl⟩
 gi_wp2_with fail
 refine⟨trivial,rfl,?_⟩
 refine(callsIn_wide.2 (through_to P W f cs (P.n/2) _ (HSp.o.Ac k1) HCs.o)).mono ?_
 rintro e w3 ⟨rfl,⟨ov,hG⟩,k3⟩
 gi_wp2_with fail
 refine⟨trivial,rfl,?_⟩
 refine(callsIn_wide.2 (grefs_fn (w.heap.size+1+1) w3)).mono ?_
 rintro e wl ⟨rfl,hwl⟩
 obtain⟨B,hB⟩:∃ B,w.heap.size=B:=⟨_,rfl⟩
 have hz3:=k3.size
 have hzl:wl.heap.size=w3.heap.size+1:=by rw[<- hwl];simp
 have kl:Kp Aa w3 wl:=by rw[<- hwl];exact (Kr _ w3).alloc _
 have gbx:wl.heap[w3.heap.size]?=some (.cells #[.pointer (some ⟨w.heap.size+1+1,0,none⟩)] 148 (0,0)):=by rw[<- hwl];exact wN w3 _
 clear hwl
 have KL:Kp Aa w wl:=(k1.then' k3).then' kl
 have bl1:=(k3.then' kl).at_ b1 id
 have lG:∀ W' n,n=w.heap.size+1->Da W' P (n+1) n n cs (P.n/2) ov->Da W' P (w.heap.size+1+1) (w.heap.size+1) (w.heap.size+1) cs (P.n/2) ov:=λ W' n hn h=>by rw[hn] at h;exact h
 replace hG:=lG _ _ z1 hG
 have GL:=hG.keep kl id id (λ _ _ h=>h)
 have lov:∀ b,ov.ownBlock=some b->w.heap.size+1<=b/\b<w3.heap.size:=λ b hb=>by
  obtain⟨-,-,g3,-⟩:=hG
  have:=Ad g3 hb
  omega
 have lg:w.heap.size+1+1<w3.heap.size:=lZ hG.1
 rw[hB] at gbx bl1 z1 lov lg GL
 clear hG b1 lG
 gi_wp2_with fail
 try rw[hB]
 obtain⟨D,hD⟩:∃ D,w3.heap.size=D:=⟨_,rfl⟩
 rw[hD] at gbx hz3 hzl lov lg ⊢
 rw[z1] at hz3
 refine wpIn_range4 (n:=0) (gf:=127) (lb:=#[.pointer (some ⟨D,0,none⟩)]) rfl (enters_of func127 (by kernel_rfl) rfl)
  (grefs_iter4 P W f cs (P.n/2) D (B+1+1) (B+1) (B+1) ov wl (HSp.o.Ac KL) HCs.o hms GL gbx (R:=λ i=>i=B) (λ i hi=>by
   subst hi
   exact⟨by omega,by omega,by omega,by omega,λ h=>by have:=lov _ h;omega,λ h=>by have:=lall _ h;omega⟩)) (λ i hi=>hi.elim) (λ i hi=>by omega)
  (X:=λ _=>False) (λ i hi=>hi.elim) (λ _=>rfl)
  (λ pre S W'=>EdgI cs B wl pre S W') (λ c pre W'=>False) (λ i=>i=B\/(Value.slice none 0 0).ownBlock=some i) ?hS ?hI ?hIx ?h0 ?hround ?hdone ?hstop
 case hS=>
  rintro pre S A ⟨v,a1,a2,rfl,a4⟩ i hi
  rcases hi with hi|hi
  .exact ⟨.inl hi,by have:=lZ a1;omega⟩
  .have:=Ad a2 hi
   exact⟨.inr this.1,this.2⟩
 case hI=>
  rintro pre S A A' ⟨v,a1,a2,a3,a4⟩ hk
  exact⟨v,hk.at_ a1 (λ h=>by rcases h with h|h|h;exact h;omega;omega),Af a2 hk (λ b hb h=>by have:=Ad a2 hb;rcases h with h|h|h;exact h;omega;omega),a3,
   a4.trans hk (λ b hb h=>by rcases h with h|h|h;exact h.elim;omega;omega)⟩
 case hIx=>exact λ c pre A B h hk=>h
 case h0=>exact ⟨_,bl1,World.ownsRow_nil wl _ _ _,rfl,Kr _ _⟩
 case hround=>
  rintro pre S x rest W' hx ⟨v,a1,a2,a3,a4⟩ hs
  have hpl:pre.length+1<=2147483648:=by
   have:(Bv P.ts W (Aj cs)).length=pre.length+(rest.length+1):=by rw[hx];simp
   omega
  have hel:(A9 cs pre).length<=pre.length:=Dv cs pre
  obtain⟨xg,xs,y⟩:=x
  obtain⟨z,hz⟩:∃ z,tgt cs y=z:=⟨_,rfl⟩
  have HAd:Sl (A9 cs (pre++[(xg,xs,y)])=A9 cs pre++(if 0<=z then [(xg,xs,z.toNat)] else [])):=⟨by rw[edgesP_add,Eu,hz]⟩
  unfold edgeV
  dsimp only
  rw[hz]
  clear hz hx gbx bl1 GL lov lg
  gi_wp2_with fail
  refine⟨((Kr Aa W').alloc _).Aw _,?_⟩
  intro W2 hc2 hf2 hk2 hs2 hr2
  have kW:Kp Aa W' (W'.alloc (.cells #[xg,xs,.int .i64 z] 70)):=(Kr _ W').alloc _
  have lW:=lZ a1
  have own1:(W2).ownsRow (wl.heap.size+2) 70 3 v (A9 cs pre).length (Bt (A9 cs pre)):=Af (Af a2 kW (λ _ _ h=>h)) hk2 (λ b hb h=>by have:=Ad a2 hb;omega)
  have r0:=hk2.at_ (kW.at_ a1 id) (by omega)
  have rc:=hk2.at_ (wN W' (.cells #[xg,xs,.int .i64 z] 70)) (by omega)
  have c0:=cell_of_one r0
  have fr0:=free_of_one r0
  obtain⟨d0,d1,d2⟩:=cells3 rc
  have HR0:=sE r0
  have HOW:=sE own1
  have HA4:=sE a4
  have HK2:Sl (Kp (λ k=>k=wl.heap.size+1) W' W2):=⟨(kW.Aw _).trans hk2 (λ b hb h=>h)⟩
  have zW2:W2.heap.size=W'.heap.size+1:=by rw[hs2];simp
  have lrW2:B<W2.heap.size:=by omega
  have HNW:Sl (¬ v.ownBlock=some B):=⟨λ e=>by have:=Ad own1 e;omega⟩
  have HS3:=sE a3
  have hs3:wl.heap.size+2<=W2.heap.size:=by omega
  have lc:W'.heap.size<W2.heap.size:=by omega
  clear r0 own1 a2 a4 hc2 hf2 a1 a3 hk2 hs2 rc kW hr2 zW2
  by_cases h0:0<=z
  .obtain ⟨n,rfl⟩:=Int.eq_ofNat_of_zero_le h0
   have p0:decide ((0:Int)<=(n:Int))=true:=dT h0
   rw[if_pos h0,Int.toNat_natCast] at HAd
   clear h0
   obtain⟨i0,hi,hz0,hz1,hz2⟩:=info_parts Gu
   refine wpIn_block ?_
   refine wpIn_seq ?_
   refine wpIn_region_lit ?_
   refine Bq (λ _ _ h=>h) _ _ _ (by kernel_rfl) ?_
   go_wp2_with fail
   refine wpIn_cond_true rfl ?_
   refine wpIn_region_lit ?_
   refine Bq (λ _ _ h=>h) _ _ _ (by kernel_rfl) ?_
   go_wp2_with (at_builtin;go_loud (refine wpList_append_lies _ rfl (.tmp 17) (.tmp 19) 47 rfl (wl.heap.size+2) 70 i0 _ 3 24 EB hi hz0 hz1 hz2 rfl (by omega) v (A9 cs pre).length (Bt (A9 cs pre)) rfl (HOW.o.alloc _) ⟨W2.heap.size,0,none⟩ 1 1 [xg,xs,.int .i64 (n:Nat)] rfl rfl (World.news_of_block (wN W2 _)) (by intro u hu;simp at hu;rcases hu with rfl|rfl|rfl <;> rfl) (by omega) (by unfold maxLen;omega) (by omega) (by simp;omega) _ rfl ?_);intro g cap w3 hown hgrow hat hlt;have KA:Kp (λ b=>v.ownBlock=some b) W2 w3:=((Kr Aa W2).alloc _ |>.Aw _).grown hgrow (λ k e _=>e);have r3:=KA.at_ HR0.o HNW.o;have c3:=cell_of_one r3;have fr3:=free_of_one r3;have HR3:=sE r3;clear r3)
   have KB:Kp (λ b=>b=B) w3 (w3.setCell ⟨B,0,none⟩ (.slice (some ⟨g,0,none⟩) ((A9 cs pre).length+1) cap)):=(Kr (λ b=>b=B) w3).setCell (λ _=>rfl) _
   have zA:=KA.size
   refine⟨((KA.mono λ b hb h=>by rw[HS3.o];exact .inr h).trans KB (λ b hb h=>by rw[HS3.o];exact .inl h)),_,⟨.slice (some ⟨g,0,none⟩) ((A9 cs pre).length+1) cap,one_setCell HR3.o,?_,rfl,?_⟩,?_⟩
   .rw [HAd.o,ER,List.length_append]
    exact Af hown KB (λ b hb h=>by have:=Ad hown hb;omega)
   .exact ((HA4.o.trans HK2.o (λ b hb h=>by omega)).trans KA (λ b hb h=>by have:=Ad HOW.o h;omega)).trans KB (λ b hb h=>h)
   .rintro i (hi'|hi')
    .exact .inl (by rw[HS3.o];exact .inl hi')
    .have hg:g=i:=by simpa [Value.ownBlock] using hi'
     subst hg
     rcases hat with h|h
     .exact .inl (by rw[HS3.o];exact .inr h)
     .right
      rw[h]
      simp
  .have p0:decide ((0:Int)<=z)=false:=dF h0
   rw[if_neg h0,List.append_nil] at HAd
   clear h0
   gi_wp2_with fail
   refine⟨Kr _ W2,S,⟨v,HR0.o,by rw[HAd.o];exact HOW.o,HS3.o,HA4.o.trans HK2.o (λ i hi h=>by omega)⟩,λ i hi=>.inl hi⟩
 case hdone=>
  rintro S W' ⟨v,a1,a2,a3,a4⟩ hs hD'
  obtain⟨va,vc,rfl⟩:=Aq a2
  have c0:=cell_of_one a1
  have fr0:=free_of_one a1
  have HA1:=sE a1
  have HA2:=sE a2
  have HA4:=sE a4
  clear a1 a2 a3 a4
  gi_wp2_with fail
  obtain⟨w4,hw4⟩:∃ w4,w4=W'.setCell ⟨B,0,none⟩ (.slice va (A9 cs (Bv P.ts W (Aj cs))).length vc):=⟨_,rfl⟩
  rw[<- hw4]
  have KB:Kp (λ b=>b=B) W' w4:=by rw[hw4];exact (Kr (λ b=>b=B) W').setCell (λ _=>rfl) _
  have b4:w4.heap[B]?=some (.cells #[.slice va (A9 cs (Bv P.ts W (Aj cs))).length vc] 47 (0,0)):=by rw[hw4];exact one_setCell HA1.o
  clear hw4
  refine⟨by simp,.inl ⟨_,_,rfl,run_takeDeferred (KB.at_ hD' (by omega)),?_⟩⟩
  have kE:Kp (λ b=>b=wl.heap.size) w4 (w4.putObj wl.heap.size (.deferred none)):=(Kr (λ b=>b=wl.heap.size) w4).putObj (λ _=>rfl) _
  have e4:=cell_of_one (kE.at_ b4 (by omega))
  refine⟨.slice va (A9 cs (Bv P.ts W (Aj cs))).length vc,by simp[results,results29,go_sem,e4],_,rfl,?_,?_⟩
  .refine Cq (Af (Af HA2.o KB (λ b hb h=>?_)) kE (λ b hb h=>?_)) (by omega)
   .have:=Ad HA2.o hb;omega
   .have:=Ad HA2.o hb;omega
  .exact (((KL.trans HA4.o (λ b hb h=>by omega)).trans KB (λ b hb h=>by omega)).trans kE (λ b hb h=>by omega))
 case hstop=>exact λ c pre W' hp h=>h.elim

end

end Go.Proofs.YtfkedlgpgmaemaaGreatDoor
