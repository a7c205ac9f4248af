/-
  Lemmas for the laws, together: WalkB.
-/
import Derived.Test.YtmfajopmppfldaaGreatDoorQak
import Derived.Test.YtmfajopmppfldaaGreatDoorQaj
import Derived.Test.YtmfajopmppfldaaGreatDoorQaa
import Derived.Test.YtmfajopmppfldaaGreatDoorQal
import Derived.Laws.EntriesVeiled
import Derived.Test.YtmfajopmppfldaaGreatDoorQam
import Derived.Test.YtmfajopmppfldaaGreatDoorQao
import Derived.Test.YtmfajopmppfldaaGreatDoorQas
set_option linter.unusedVariables false
set_option maxHeartbeats 16000000
namespace Go.Proofs.YtmfajopmppfldaaGreatDoor
open Tryz
section
open Go.RowKit

theorem bit_mod{v k:Nat}:v.testBit k=(v/2 ^ k%2==1):=by
 rw[Nat.testBit_eq_decide_div_mod_eq]
 rfl

theorem LRef_bit(k wds n:Int)(M s:Nat)(w:World)(hM:M<18446744073709551616)(hs:s<64)(h2:¬ k=2)(h3:¬ k=3):
  Calls prog 106 #[BK k wds (M:Nat) n,.int .i64 (s:Nat)] w λ e w'=>e=.returned (.bool (M/2 ^ s%2==1))/\Kp Ab w w':=by
 unfold BK
 have b2:(k==2)=false:=by simpa using h2
 have b3:(k==3)=false:=by simpa using h3
 have HT:Sl ((bits BinOp.and IntKind.u64 ((M:Int)/2 ^ s) 1==1)=(M/2 ^ s%2==1)):=⟨by rw[bit_test M s hM,bit_mod]⟩
 go_enter func106,ntmps106
 go_wp2
 go_ret
 exact⟨by rw[<- HT.out];rfl,(Kr Ab w).alloc _⟩

theorem LRef_raw(wds n:Int)(s:Nat)(w:World)(hs:s<65536):
  Calls prog 106 #[BK 4 wds 0 n,.int .i64 (s:Nat)] w λ e w'=>e=.returned (.bool false)/\Kp Ab w w':=by
 unfold BK
 have HT:bits BinOp.and IntKind.u64 0 1=0:=by decide +kernel
 by_cases h:s<64
 .have HZ:(0:Int)/2 ^ s=0:=Int.zero_ediv _
  go_enter func106,ntmps106
  go_wp2
  go_ret
  exact⟨by first|rfl|simp [HT]|(rw [HT];rfl),(Kr Ab w).alloc _⟩
 .go_enter func106,ntmps106
  go_wp2
  go_ret
  exact⟨by first|rfl|simp [HT]|(rw [HT];rfl),(Kr Ab w).alloc _⟩

theorem LRef_row(wds m n:Int)(s:Nat)(w:World):
  Calls prog 106 #[BK 2 wds m n,.int .i64 (s:Nat)] w λ e w'=>e=.returned (.bool true)/\Kp Ab w w':=by
 unfold BK
 go_enter func106,ntmps106
 go_wp2
 go_ret
 exact⟨rfl,(Kr Ab w).alloc _⟩

theorem LRef_structs(V:Nat)(n:Int)(M s:Nat)(w:World)(hM:M<18446744073709551616)(hV0:1<=V)(hV:V<=16)(hs:s<65536):
  Calls prog 106 #[BK 3 (V:Nat) (M:Nat) n,.int .i64 (s:Nat)] w λ e w'=>e=.returned (.bool (M/2 ^ (s%V)%2==1))/\Kp Ab w w':=by
 unfold BK
 have hm:((s:Nat):Int).tmod ((V:Nat):Int)=((s%V:Nat):Int):=by
  rw[Int.tmod_eq_emod_of_nonneg (by omega)]
  push_cast;rfl
 have hr16:s%V<16:=Nat.lt_of_lt_of_le (Nat.mod_lt _ (by omega)) (by omega)
 obtain⟨r,hr⟩:∃ r,s%V=r:=⟨_,rfl⟩
 rw[hr] at hm hr16 ⊢
 have hv0:¬ ((V:Nat):Int)=0:=by omega
 have hv1:(((V:Nat):Int)==0)=false:=by simp;omega
 have HT:Sl ((bits BinOp.and IntKind.u64 ((M:Int)/2 ^ r) 1==1)=(M/2 ^ r%2==1)):=⟨by rw[bit_test M r hM,bit_mod]⟩
 clear hr
 go_enter func106,ntmps106
 go_wp2
 go_ret
 exact⟨by rw[<- HT.out];rfl,(Kr Ab w).alloc _⟩

theorem LRef_any(k wds n:Int)(M s:Nat)(w:World)(hM:M<18446744073709551616)(hE:AV k wds M n=0)(hs:(s:Int)<AR k wds n):
  Calls prog 106 #[BK k wds (M:Nat) n,.int .i64 (s:Nat)] w λ e w'=>e=.returned (.bool (BB k wds M s))/\Kp Ab w w':=by
 have hs2:s<65536:=by have:=(Bi hE).2;omega
 obtain⟨z1,z2,z3,z4,z5⟩:=Ef hE
 rcases z5 with ⟨rfl,h1,h2⟩|⟨rfl,h1,h2⟩|⟨rfl|rfl,rfl⟩
 .rw [show BB 1 wds M s=(M/2 ^ s%2==1) by unfold BB;rw [if_pos rfl]]
  refine LRef_bit 1 wds n M s w hM ?_ (by omega) (by omega)
  rw[AR,if_pos rfl] at hs
  omega
 .obtain ⟨V,rfl⟩:=Int.eq_ofNat_of_zero_le (show 0<=wds by omega)
  rw[show BB 3 (V:Nat) M s=(M/2 ^ (s%V)%2==1) by unfold BB;rw [if_neg (by omega),if_pos rfl,Int.toNat_natCast]]
  exact LRef_structs V n M s w hM (by omega) (by omega) hs2
 .rw [show BB 2 0 M s=true by unfold BB;rw [if_neg (by omega),if_neg (by omega)];rfl]
  exact LRef_row 0 _ n s w
 .rw [show BB 4 0 M s=false by unfold BB;rw [if_neg (by omega),if_neg (by omega)];rfl]
  have hM0:M=0:=by
   have:=z1
   simp[Di] at this
   exact this
  subst hM0
  exact LRef_raw 0 n s w hs2

theorem KRefs_any(k wds:Int)(M:Nat)(n:Int)(w:World)(hM:M<18446744073709551616)(hE:AV k wds M n=0):
  Calls prog 182 #[.agg #[.int .u8 k,.int .i64 wds,.int .u64 (M:Nat)],.int .i64 n] w (Fy k wds M n w):=by
 obtain⟨K,hK⟩:∃ K:Nat,AR k wds n=(K:Nat):=Int.eq_ofNat_of_zero_le (Bi hE).1
 have hK2:K<=65536:=by have:=(Bi hE).2;omega
 have CO:=λ w=>Kof_any k wds M n w
 unfold AC at CO
 have HO0:=sE CO
 have HZ:=sE hE
 have CS:=λ w=>slots_any k wds M n w hE
 rw[hK] at CS
 unfold BK at CS
 have HC:=sE CS
 have HIs:Sl (∀ (s:Nat) W',s<K->Calls prog 106 #[.agg #[.int .u8 k,.int .i64 wds,.int .u64 (M:Nat),.int .i64 n],.int .i64 (s:Nat)] W' λ e w'=>e=.returned (.bool (BB k wds M s))/\Kp Ab W' w'):=
  ⟨λ s W' hs=>LRef_any k wds n M s W' hM hE (by rw[hK];omega)⟩
 have HR:Sl (Ba k wds M n=AL k wds M K):=⟨by unfold Ba;rw [hK,Int.toNat_natCast]⟩
 have kA:=(Kr Ab w).alloc (.cells #[.int .u8 k,.int .i64 wds,.int .u64 (M:Nat)] 86)
 clear CO CS hK hE
 go_enter func182,ntmps182
 go_wp2_with fail
 obtain⟨w1,hw1⟩:∃ w1,w1=w.alloc (.cells #[.int .u8 k,.int .i64 wds,.int .u64 (M:Nat)] 86):=⟨_,rfl⟩
 rw[<- hw1] at kA ⊢
 clear hw1
 refine(HO0.out w1).mono ?_
 rintro e w2 ⟨v,rfl,hv,hv0,k2⟩
 have hv2:=hv0 HZ.out
 unfold BK at hv2
 subst hv2
 rw[HZ.out]
 clear hv hv0
 obtain⟨w3,hw3⟩:∃ w3,w3=w2.alloc (.cells #[.int .u8 k,.int .i64 wds,.int .u64 (M:Nat),.int .i64 n] 187):=⟨_,rfl⟩
 have k3:Kp Ab w2 w3:=by rw[hw3];exact (Kr _ w2).alloc _
 have b3:w3.heap[w2.heap.size]?=some (.cells #[.int .u8 k,.int .i64 wds,.int .u64 (M:Nat),.int .i64 n] 187 (0,0)):=by rw[hw3];exact wN w2 _
 have HB3:=sE b3
 have HK3:=sE ((kA.then' k2).then' k3)
 clear kA k2 k3 b3
 go_wp2_with fail
 rw[<- hw3]
 clear hw3
 refine(HC.out w3).mono ?_
 rintro e w4 ⟨rfl,k4⟩
 have HB4:=sE (k4.at_ HB3.out (λ h=>h))
 have HK4:=sE (HK3.out.then' k4)
 clear k4
 obtain⟨L,hL⟩:∃ L,w2.heap.size=L:=⟨_,rfl⟩
 rw[hL] at HB4
 go_wp2_with fail
 go_loopw [4,7,19] (λ v _ y wr=>∃ j:Nat,j<=K/\y=.int .i64 (j:Nat)/\wr.ownsRow w4.heap.size 3 1 v (AL k wds M j).length (AB (AL k wds M j))/\Kp Ab w4 wr) (λ _ _ y _=>K-(intOf y).toNat)
 case atStart=>exact ⟨0,Nat.zero_le _,rfl,World.ownsRow_nil _ _ _ _,Kr _ _⟩
 case round=>
  obtain⟨j,hj,rfl,hown,hk⟩:=hrel
  by_cases hjl:j<K
  .have hjl':(j:Int)<(K:Int):=by omega
   obtain⟨a0,a1,a2,a3⟩:=Ay (hk.at_ HB4.out (λ h=>h))
   have hlen:=refsUpto_len k wds M j
   have hsz1:=hk.size
   have HK:=sE hk
   have HO:=sE hown
   have HSu:=sE (refsUpto_succ k wds M j)
   clear hk hown
   go_wp2_with fail
   refine(HIs.out j _ hjl).mono ?_
   rintro e w5 ⟨rfl,k5⟩
   have K5:=HK.out.then' k5
   have O5:w5.ownsRow w4.heap.size 3 1 u4 (AL k wds M j).length (AB (AL k wds M j)):=k5.owns HO.out (λ _ _ h=>h)
   have hs5:=k5.size
   cases hb:BB k wds M j with
   |false=>
    have HE:Sl (AL k wds M (j+1)=AL k wds M j):=⟨by rw[HSu.out,hb];simp⟩
    have HO5:=sE O5
    have HK5:=sE K5
    clear hb a0 a1 a2 a3 k5 O5 K5
    go_wp2
    exact⟨⟨j+1,by omega,by go_num,by rw[HE.out];exact HO5.out,HK5.out⟩,by simp only[intOf];omega⟩
   |true=>
    have HE:Sl (AL k wds M (j+1)=AL k wds M j++[j]):=⟨by rw[HSu.out,hb];simp⟩
    have HO5:=sE O5
    have HK5:=sE K5
    clear hb a0 a1 a2 a3 k5 O5 K5
    go_wp2_with (at_builtin;obtain ⟨i0,hi,hz0,hz1,hz2⟩:=info_parts Cv;go_loud (refine wpList_append_lies _ rfl (.tmp 25) (.tmp 27) 82 rfl w4.heap.size 3 i0 _ 1 8 AP hi hz0 hz1 hz2 rfl (by omega) u4 (AL k wds M j).length (AB (AL k wds M j)) rfl (HO5.out.alloc _) ⟨w5.heap.size,0,none⟩ 1 1 [.int .i64 (j:Nat)] rfl rfl (World.news_of_block (wN w5 _)) (by intro u hu;simp at hu;subst hu;rfl) (by omega) (by unfold maxLen;omega) (by omega) (by simp;omega) (w5.heap.size+1) (by simp) ?_);intro g cap w6 hown6 hgrow hat hlt;clear hi hz0 hz1 hz2)
    have k6:Kp Ab w4 w6:=(HK5.out.alloc _).grown hgrow (λ k e hl=>absurd (HO5.out.lt k e).1 (by omega))
    have h6:w6.ownsRow w4.heap.size 3 1 (.slice (some ⟨g,0,none⟩) ((AL k wds M j).length+1) cap) (AL k wds M (j+1)).length (AB (AL k wds M (j+1))):=by
     rw[HE.out,AB,List.map_append,List.length_append];exact hown6
    clear hown6 hgrow hat
    go_wp2
    exact⟨⟨j+1,by omega,by go_num,h6,k6⟩,by simp only[intOf];omega⟩
  .have hjl':¬ (j:Int)<(K:Int):=by omega
   have HE:Sl (Ba k wds M n=AL k wds M j):=⟨by rw[HR.out,show j=K by omega]⟩
   have hz:w.heap.size<=w4.heap.size:=HK4.out.size
   go_wp2
   exact bodyPost_ret (v:=.tuple #[u4,.int .i64 0]) (by simp[results,results182,go_sem]) rfl ⟨u4,rfl,by rw[HE.out];exact Bp hown hz,HK4.out.then' hk⟩

attribute [local go_sem] Oper.semAt_some

theorem vrefs_fn(b:Nat)(w:World):
  Calls prog 147 #[.pointer (some ⟨b,0,none⟩)] w λ e w'=>
   e=.returned (.func (.func 181) #[] #[.pointer (some ⟨w.heap.size,0,none⟩)])/\w.alloc (.cells #[.pointer (some ⟨b,0,none⟩)] 44)=w':=by
 have hmf:∀ (fn:Fn) (first cap:Array Value) (w:World),(Instr.makeFunc fn first cap).run prog w=.ok (.func fn first cap) w:=λ _ _ _ _=>rfl
 go_enter func147,ntmps147
 go_wp2
 go_ret
 exact⟨rfl,rfl⟩

theorem FK{k wds:Int}{M:Nat}{n:Int}{s:Nat}(hE:AV k wds M n=0)(h:s∈Ba k wds M n):(s:Int)<AR k wds n:=by
 have:=refsUpto_mem h
 have:=(Bi hE).1
 omega

theorem El{k wds:Int}{M:Nat}{n:Int}(hE:AV k wds M n=0):(Ba k wds M n).length<=65536:=by
 have:=refsUpto_len k wds M (AR k wds n).toNat
 have:=(Bi hE).2
 unfold Ba
 omega

theorem AA{w:World}{base:Nat}{e:TypeId}{size:Nat}{v:Value}{n:Nat}{xs:List Value}(h:w.ownsRow base e size v n xs):∃ a c,v=.slice a n c:=by
 rcases h.2 with ⟨h,h0⟩|⟨g,cap,cur,h,_⟩
 .exact ⟨_,_,by rw[h,h0]⟩
 .exact ⟨_,_,h⟩

theorem Ce{w:World}{base:Nat}{e:TypeId}{a:Option Addr}{n c:Nat}{xs:List Nat}{i x:Nat}(h:w.ownsRow base e 1 (.slice a n c) n (AB xs))(hx:xs[i]?=some x):∃ b,a=some ⟨b,0,none⟩/\w.cell? ⟨b,i,none⟩=some (.int .i64 (x:Nat)):=by
 have hi:=(gE.1 hx).1
 have hn:xs.length=n:=by have:=h.1;simpa [AB] using this
 rcases h.2 with ⟨-,h0⟩|⟨g,cap,cur,hv,g2,g3,g4,g5,g6,g7⟩
 .omega
 .injection hv with h1 h2 h3
  refine⟨g,h1,?_⟩
  have:cur.toList[i]?=some (.int .i64 (x:Nat)):=by
   rw[<- List.getElem?_take_of_lt (j:=n*1) (by omega),g7,AB,List.getElem?_map,hx]
   rfl
  simp only[World.cell?,g3]
  rw[<- this]
  simp

set_option maxRecDepth 20000 in
theorem vrefs_iter4(bx b a q n:Nat)(W0:Nat->Nat)(c:Cel)(k wds:Int)(m:Nat)(w:World)(hA:ArenaAt w a q W0 n)(hV:BJ w b a c k wds m)(hE:AV k wds m (c.ln:Nat)=0)(hM:m<18446744073709551616)(hfit:2*c.g+1+AR k wds (c.ln:Nat)<=(n:Nat))
  (hb:w.heap[bx]?=some (.cells #[.pointer (some ⟨b,0,none⟩)] 44 (0,0))) {R:Nat->Prop} (hR:∀ i,R i->i<w.heap.size/\¬ i=bx/\¬ i=b/\¬ i=a/\¬ i=q):
  IterAt4 prog 181 #[.pointer (some ⟨bx,0,none⟩)] (λ s=>#[.int .i64 (s:Nat),.int .u64 (W0 (2*c.g+1+s):Nat)]) (Ba k wds m (c.ln:Nat)) Ab R w:=by
 intro l J Jx S0 W hW hl1 hl2 hS hJ hJx hY h0
 have lbx:=lZ hb
 have lbv:=lZ hV
 have la:=hA.lt_a
 have lq:=hA.lt_q
 have bW:=hW.at_ hb (λ h=>h)
 have vW:=hV.Ad hW
 have aW:=hA.Ad hW
 have HVw:=sE vW
 have HAw:=sE aW
 have HBw:=sE bW
 have hlen:=El (M:=m) hE
 have HK:Sl (∀ W',Calls prog 182 #[.agg #[.int .u8 k,.int .i64 wds,.int .u64 (m:Nat)],.int .i64 (c.ln:Nat)] W' (Fy k wds m (c.ln:Nat) W')):=⟨λ W'=>KRefs_any k wds m (c.ln:Nat) W' hM hE⟩
 have HLd:Sl (∀ (s:Nat) W',s∈Ba k wds m (c.ln:Nat)->ArenaAt W' a q W0 n->BJ W' b a c k wds m->Calls prog 18 #[.pointer (some ⟨b,0,none⟩),.int .i64 (s:Nat)] W' λ e w'=>e=.returned (.tuple #[.int .u64 (W0 (2*c.g+1+s):Nat),.int .i64 0])/\Kp Ab W' w'):=⟨λ s W' hs hA' hV'=>by
  have:=FK hE hs
  exact VLoad_yes s b a q n W0 c k wds m W' hA' hV' hE this (by omega)⟩
 obtain⟨xs,hxs⟩:∃ xs,Ba k wds m (c.ln:Nat)=xs:=⟨_,rfl⟩
 have HXS:=sE hxs
 have HY:=sE hY
 rw[hxs] at hlen HLd HY ⊢
 have cb:=cell_of_one bW
 obtain⟨v0,v1,v2,v3,v4,v5,v6,v7,v8⟩:=BJ.cells vW
 have z1:=hW.size
 have H0:=sE h0
 clear hY hxs vW aW hA hV hfit hM hE bW h0 hb
 refine(callsIn_wide (n:=0)).1 ?_
 refine callsIn_of_wp func181 rfl trivial ?_
 simp only[ntmps181,List.size_toArray,List.length_cons,List.length_nil,Nat.reduceAdd,Nat.reduceSub,Array.replicate_succ,Array.replicate_zero,List.push_toArray,List.append_toArray,List.nil_append,List.cons_append]
 gi_wp2_with fail
 refine wpIn_wide.2 ?_
 refine wp_region_held_drew (S:=λ w'=>w'.cell? ⟨bx,0,none⟩=some (.pointer (some ⟨b,0,none⟩))/\w'.cell? ⟨b,4,none⟩=some (.int .i64 (c.ln:Nat))/\w'.cell? ⟨b,6,none⟩=some (.int .u8 k)/\w'.cell? ⟨b,7,none⟩=some (.int .i64 wds)/\w'.cell? ⟨b,8,none⟩=some (.int .u64 (m:Nat))) (by kernel_rfl) ?_ (λ qZ=>?_)
 .exact ⟨cb,v4,v6,v7,v8⟩
 refine Ao 0 ?_;refine Ao 1 ?_;refine Ao 2 ?_;refine Ao 3 ?_;refine Ao 4 ?_;refine Ao 5 ?_;refine Ao 6 ?_;refine Ao 7 ?_;refine Ao 8 ?_
 try simp only[Ar]
 refine AQ [9] ?_
 refine Ag rfl (λ K hK=>?_)
 go_simp
 go_at_call 182
 (with_reducible refine(HK.out _).mono ?_)
 rintro e w5 ⟨v,rfl,hown,k5⟩
 have K5:Kp Ab W w5:=((Kr Ab W).drew).then' k5
 refine hK _ _ ?_ (λ qZ=>?_)
 .exact ⟨Ac K5 cb,Ac K5 v4,Ac K5 v6,Ac K5 v7,Ac K5 v8⟩
 clear hK K
 try simp only[Ar]
 refine Ao 10 ?_;refine Ao 11 ?_;refine Ao 12 ?_;refine Ao 13 ?_;refine Ao 14 ?_
 try simp only[Ar]
 refine wpAnyH_done (by kernel_rfl) ?_ _
 rw[HXS.out] at hown
 obtain⟨va,vc,hva⟩:=AA hown
 subst hva
 obtain⟨L,hL⟩:∃ L,xs.length=L:=⟨_,rfl⟩
 rw[hL] at hown hlen ⊢
 have HL:=sE hL
 have J5:=hJ _ _ _ _ H0.out K5
 have hown5:w5.ownsRow W.heap.size 3 1 (.slice va L vc) L (AB xs):=hown
 have hS5:∀ i,S0 i->¬ (Value.slice va L vc).ownBlock=some i:=λ i hi h=>by
  have:=(hS _ _ _ H0.out i hi).2
  have:=(Af hown5 h).1
  omega
 have HR5:Sl (Kp (λ i=>R i\/i=l) W w5):=⟨K5.Ak _⟩
 have HJ5:=sE (And.intro J5 (And.intro hown5 hS5))
 clear hown hown5 hS5 J5 K5 k5 hL v0 v1 v2 v3 v4 v5 v6 v7 v8 cb qZ
 gi_wp2_with fail
 gi_loopw [6,7,8,26] (λ v6 v7 v8 v26 wr=>∃ (j:Nat) (S:Nat->Prop),j<=L/\v26=.int .i64 (j:Nat)/\J (xs.take j) S wr/\Kp (λ i=>R i\/i=l) W wr/\wr.ownsRow W.heap.size 3 1 (.slice va L vc) L (AB xs)/\(∀ i,S i->¬ (Value.slice va L vc).ownBlock=some i)) (λ v6 v7 v8 v26 wr=>L-(intOf v26).toNat)
 case atStart=>exact ⟨0,S0,Nat.zero_le _,rfl,HJ5.out.1,HR5.out,HJ5.out.2.1,HJ5.out.2.2⟩
 case round=>
  obtain⟨j,S,hj,rfl,hjJ,kr,ho,hSn⟩:=hrel
  have HJ:=sE hjJ
  have HKr:=sE kr
  have HO:=sE ho
  have HSn:=sE hSn
  by_cases hjl:j<L
  .have hjl':(j:Int)<(L:Int):=by omega
   obtain⟨x,hx⟩:∃ x,xs[j]?=some x:=⟨xs[j]'(by rw[HL.out];exact hjl),by simp⟩
   obtain⟨rb,hrb,cx⟩:=Ce ho hx
   subst hrb
   have hmem:x∈xs:=List.mem_of_getElem? hx
   have hnot:∀ i,i<w.heap.size->(i=bx\/i=b\/i=a\/i=q)->¬ (R i\/i=l):=λ i hi h hr=>by
    rcases hr with hr|hr
    .have:=hR i hr;omega
    .omega
   have br:=kr.at_ HBw.out (hnot bx lbx (.inl rfl))
   have cb:=cell_of_one br
   have HLo:=sE (HLd.out x wr hmem (HAw.out.keep kr (hnot a la (.inr (.inr (.inl rfl)))) (hnot q lq (.inr (.inr (.inr rfl))))) (HVw.out.keep kr (hnot b lbv (.inr (.inl rfl)))))
   have hsp:xs=xs.take j++x::xs.drop (j+1):=by
    obtain⟨h1,h2⟩:=gE.1 hx
    rw[<- h2,List.getElem_cons_drop h1,List.take_append_drop]
   have hst:xs.take (j+1)=xs.take j++[x]:=by rw[List.take_add_one,hx];rfl
   have HSp:=sE (And.intro hsp hst)
   clear kr ho hSn hjJ hmem hnot br hsp hst hx
   gi_wp2_with fail
   refine⟨trivial,rfl,?_⟩
   refine(callsIn_wide.2 HLo.out).mono ?_
   rintro e w6 ⟨rfl,k6⟩
   have J6:=hJ _ _ _ _ HJ.out k6
   have HY6:=sE (HY.out _ S x _ w6 HSp.out.1 J6)
   have O6:=Ai HO.out k6 (λ _ _ h=>h)
   have HO6:=sE O6
   have HK6:=sE (HKr.out.trans k6 (λ _ _ h=>h.elim))
   have HS6:Sl (∀ i,S i->(R i\/W.heap.size<=i)):=⟨λ i hi=>(hS _ _ _ J6 i hi).1⟩
   have hrow6:=Af O6 (b:=rb) rfl
   clear J6 O6 k6 cx cb
   gi_wp2_with fail
   refine CW HY6.out rfl ?_
   intro b' B hB
   rcases hB with ⟨rfl,hk,S',hT,hS'⟩|⟨rfl,hE⟩
   .have hnr:∀ i,(S i\/i=l)->¬ (Value.slice (some ⟨rb,0,none⟩) L vc).ownBlock=some i:=λ i hi h=>by
     rcases hi with hi|hi
     .exact HSn.out i hi h
     .have:=(Af HO6.out h).1;omega
    have OB:=Ai HO6.out hk (λ b' hb' hs=>hnr b' hs hb')
    have KB:=HK6.out.trans hk (λ i hi h=>by
     rcases h with h|h
     .rcases HS6.out i h with h|h
      .exact .inl h
      .omega
     .exact .inr h)
    have HF:Sl _:=⟨And.intro hT (And.intro KB (And.intro OB (λ i hi h=>by
     rcases hS' i hi with h'|h'
     .exact HSn.out i h' h
     .have:=(Af HO6.out h).2;omega:∀ i,S' i->¬ (Value.slice (some ⟨rb,0,none⟩) L vc).ownBlock=some i)))⟩
    clear hT KB OB hS' hk hnr
    gi_wp2_with fail
    exact⟨⟨j+1,S',by omega,by go_num,by rw[HSp.out.2];exact HF.out.1,HF.out.2.1,HF.out.2.2.1,HF.out.2.2.2⟩,by simp only[intOf];omega⟩
   .gi_wp2_with fail
    refine bodyPost_ret (results_none rfl _ _ _) rfl ?_
    exact⟨⟨_,rfl⟩,.inr ⟨_,⟨_,by rw[List.append_assoc];exact HSp.out.1.symm⟩,hE⟩⟩
  .have hjl':¬ (j:Int)<(L:Int):=by omega
   gi_wp2_with fail
   go_end0
   exact⟨⟨_,rfl⟩,.inl ⟨S,by have:=HJ.out;rwa [List.take_of_length_le (by rw[HL.out];omega)] at this⟩⟩

end

section
open Go.RowKit
attribute [local go_sem] Oper.semAt_some

def Ct(ts:List TypR)(c:Cel):List Nat:=match typeOf ts (c.ty:Nat) with|some x=>Ba x.k x.wds x.m (c.ln:Nat)|none=>[]

end

section
open Go.RowKit
attribute [local go_sem] Oper.semAt_some

def RefI(rv:Nat)(wl:World)(pre:List Nat)(S:Nat->Prop)(W':World):Prop:=
 ∃ v,W'.heap[rv]?=some (.cells #[v] 82 (0,0))/\W'.ownsRow (wl.heap.size+2) 3 1 v (pre).length (AB (pre))/\(S=λ k=>k=rv\/v.ownBlock=some k)/\Kp (λ k=>k=rv) wl W'

set_option maxRecDepth 20000 in
theorem VRefs_at(b a q n:Nat)(W0:Nat->Nat)(c:Cel)(k wds:Int)(m:Nat)(w:World)(hA:ArenaAt w a q W0 n)(hV:BJ w b a c k wds m)(hE:AV k wds m (c.ln:Nat)=0)(hM:m<18446744073709551616)(hfit:2*c.g+1+AR k wds (c.ln:Nat)<=(n:Nat)):
  Calls prog 110 #[.pointer (some ⟨b,0,none⟩)] w λ e w'=>∃ v,e=.returned v/\w'.ownsRow w.heap.size 3 1 v ((Ba k wds m (c.ln:Nat))).length (AB ((Ba k wds m (c.ln:Nat))))/\Kp Ab w w':=by
 have lbv:=lZ hV
 have la:=hA.lt_a
 have lq:=hA.lt_q
 have hlen:=El (M:=m) hE
 refine(callsIn_wide (n:=0)).1 ?_
 refine callsIn_of_wp_marks func110 rfl trivial ?_
 simp only[ntmps110,List.size_toArray,List.length_cons,List.length_nil,Nat.reduceAdd,Nat.reduceSub,Array.replicate_succ,Array.replicate_zero,List.push_toArray,List.append_toArray,List.nil_append,List.cons_append]
 gi_wp2_with fail
 refine⟨trivial,rfl,?_⟩
 obtain⟨w1,hw1⟩:∃ w1,w1=w.alloc (.cells #[.slice none 0 0] 82):=⟨_,rfl⟩
 rw[<- hw1]
 have k1:Kp Ab w w1:=by rw[hw1];exact (Kr _ w).alloc _
 have z1:w1.heap.size=w.heap.size+1:=by rw[hw1];simp
 have b1:w1.heap[w.heap.size]?=some (.cells #[.slice none 0 0] 82 (0,0)):=by rw[hw1];exact wN w _
 clear hw1
 refine(callsIn_wide.2 (vrefs_fn b w1)).mono ?_
 rintro e wl ⟨rfl,hwl⟩
 have hzl:wl.heap.size=w1.heap.size+1:=by rw[<- hwl];simp
 have kl:Kp Ab w1 wl:=by rw[<- hwl];exact (Kr _ w1).alloc _
 have gbx:wl.heap[w1.heap.size]?=some (.cells #[.pointer (some ⟨b,0,none⟩)] 44 (0,0)):=by rw[<- hwl];exact wN w1 _
 clear hwl
 have KL:Kp Ab w wl:=k1.then' kl
 have bl1:=kl.at_ b1 (λ h=>h)
 rw[z1] at gbx hzl
 obtain⟨B,hB⟩:∃ B,w.heap.size=B:=⟨_,rfl⟩
 rw[hB] at gbx hzl bl1 lbv la lq z1
 gi_wp2_with fail
 refine wpIn_range4 (n:=0) (gf:=181) (lb:=#[.pointer (some ⟨B+1,0,none⟩)]) rfl (enters_of func181 (by kernel_rfl) rfl)
  (vrefs_iter4 (B+1) b a q n W0 c k wds m wl (hA.Ad KL) (hV.Ad KL) hE hM hfit gbx (R:=λ i=>i=B) (λ i hi=>by subst hi;exact ⟨by omega,by omega,by omega,by omega,by omega⟩)) (λ i hi=>hi.elim) (λ i hi=>by omega)
  (X:=λ _=>False) (λ i hi=>hi.elim) (λ _=>rfl)
  (λ pre S W'=>RefI B wl pre S W') (λ c pre W'=>False) (λ i=>i=B\/(Value.slice none 0 0).ownBlock=some i) ?hS ?hI ?hIx ?h0 ?hround ?hdone ?hstop
 case hS=>
  rintro pre S A ⟨v,a1,a2,rfl,a4⟩ i hi
  rcases hi with hi|hi
  .exact ⟨.inl hi,by have:=lZ a1;omega⟩
  .have:=Af a2 hi
   exact⟨.inr this.1,this.2⟩
 case hI=>
  rintro pre S A A' ⟨v,a1,a2,a3,a4⟩ hk
  exact⟨v,hk.at_ a1 (λ h=>by rcases h with h|h|h;exact h;omega;omega),Ai a2 hk (λ b hb h=>by have:=Af a2 hb;rcases h with h|h|h;exact h;omega;omega),a3,
   a4.trans hk (λ b hb h=>by rcases h with h|h|h;exact h.elim;omega;omega)⟩
 case hIx=>exact λ c pre A B h hk=>h
 case h0=>exact ⟨_,bl1,World.ownsRow_nil wl _ _ _,rfl,Kr _ _⟩
 case hround=>
  rintro pre S x rest W' hx ⟨v,a1,a2,a3,a4⟩ hs
  have hpl:pre.length+1<=65536:=by
   have:(Ba k wds m (c.ln:Nat)).length=pre.length+(rest.length+1):=by rw[hx];simp
   omega
  clear hx hA hV hE hM hfit gbx bl1
  gi_wp2_with fail
  refine⟨Kr _ W',?_⟩
  intro W2 hc2 hf2 hk2 hs2 hr2
  have lW:=lZ a1
  have own1:(W2).ownsRow (wl.heap.size+2) 3 1 v (pre).length (AB (pre)):=Ai a2 hk2 (λ b hb h=>by have:=Af a2 hb;omega)
  have r0:=hk2.at_ a1 (by omega)
  have c0:=cell_of_one r0
  have fr0:=free_of_one r0
  have HR0:=sE r0
  have HOW:=sE own1
  have HA4:=sE a4
  have HK2:=sE hk2
  have lrW2:B<W2.heap.size:=by omega
  have HNW:Sl (¬ v.ownBlock=some B):=⟨λ e=>by have:=Af own1 e;omega⟩
  have HS3:=sE a3
  have hs3:wl.heap.size+2<=W2.heap.size:=by omega
  clear r0 own1 a2 a4 hc2 hf2 a1 a3 hk2 hs2
  obtain⟨i0,hi,hz0,hz1,hz2⟩:=info_parts Cv
  refine wpIn_block ?_
  refine wpIn_region_lit ?_
  refine BF (λ _ _ h=>h) _ _ _ (by kernel_rfl) ?_
  go_wp2_with (at_builtin;go_loud (refine wpList_append_lies _ rfl (.tmp 8) (.tmp 10) 82 rfl (wl.heap.size+2) 3 i0 _ 1 8 AP hi hz0 hz1 hz2 rfl (by omega) v (pre).length (AB (pre)) rfl (HOW.out.alloc _) ⟨W2.heap.size,0,none⟩ 1 1 [.int .i64 (x:Nat)] rfl rfl (World.news_of_block (wN W2 _)) (by intro u hu;simp at hu;subst hu;rfl) (by omega) (by unfold maxLen;omega) (by omega) (by simp;omega) _ rfl ?_);intro g cap w3 hown hgrow hat hlt;have KA:Kp (λ b=>v.ownBlock=some b) W2 w3:=((Kr Ab W2).alloc _ |>.Ak _).grown hgrow (λ k e _=>e);have r3:=KA.at_ HR0.out HNW.out;have c3:=cell_of_one r3;have fr3:=free_of_one r3;have HR3:=sE r3;clear r3)
  have KB:Kp (λ b=>b=B) w3 (w3.setCell ⟨B,0,none⟩ (.slice (some ⟨g,0,none⟩) ((pre).length+1) cap)):=(Kr (λ b=>b=B) w3).setCell (λ _=>rfl) _
  refine⟨((KA.mono λ b hb h=>by rw[HS3.out];exact .inr h).trans KB (λ b hb h=>by rw[HS3.out];exact .inl h)),_,⟨.slice (some ⟨g,0,none⟩) ((pre).length+1) cap,one_setCell HR3.out,?_,rfl,?_⟩,?_⟩
  .rw [AB,List.map_append,List.length_append]
   exact Ai hown KB (λ b hb h=>by have:=Af hown hb;omega)
  .exact ((HA4.out.trans HK2.out (λ b hb h=>by omega)).trans KA (λ b hb h=>by have:=Af HOW.out h;omega)).trans KB (λ b hb h=>h)
  .rintro i (hi'|hi')
   .exact .inl (by rw[HS3.out];exact .inl hi')
   .have hg:g=i:=by simpa [Value.ownBlock] using hi'
    subst hg
    rcases hat with h|h
    .exact .inl (by rw[HS3.out];exact .inr h)
    .right
     rw[h]
     simp
 case hdone=>
  rintro S W' ⟨v,a1,a2,a3,a4⟩ hs hD
  obtain⟨va,vn,vc,hv⟩:∃ va vn vc,v=.slice va vn vc:=by
   rcases a2.2 with ⟨h,_⟩|⟨g,cap,cur,h,_⟩
   .exact ⟨_,_,_,h⟩
   .exact ⟨_,_,_,h⟩
  subst hv
  have c0:=cell_of_one a1
  have fr0:=free_of_one a1
  have HA1:=sE a1
  have HA2:=sE a2
  have HA4:=sE a4
  clear a1 a2 a3 a4
  gi_wp2_with fail
  obtain⟨w4,hw4⟩:∃ w4,w4=W'.setCell ⟨B,0,none⟩ (.slice va vn vc):=⟨_,rfl⟩
  rw[<- hw4]
  have KB:Kp (λ b=>b=B) W' w4:=by rw[hw4];exact (Kr (λ b=>b=B) W').setCell (λ _=>rfl) _
  have b4:w4.heap[B]?=some (.cells #[.slice va vn vc] 82 (0,0)):=by rw[hw4];exact one_setCell HA1.out
  clear hw4
  refine⟨by simp,.inl ⟨_,_,rfl,run_takeDeferred (KB.at_ hD (by omega)),?_⟩⟩
  have kE:Kp (λ b=>b=wl.heap.size) w4 (w4.putObj wl.heap.size (.deferred none)):=(Kr (λ b=>b=wl.heap.size) w4).putObj (λ _=>rfl) _
  have e4:=cell_of_one (kE.at_ b4 (by omega))
  refine⟨.slice va vn vc,by simp[results,results110,go_sem,e4],_,rfl,?_,?_⟩
  .refine Bp (Ai (Ai HA2.out KB (λ b hb h=>?_)) kE (λ b hb h=>?_)) (by omega)
   .have:=Af HA2.out hb;omega
   .have:=Af HA2.out hb;omega
  .exact (((KL.trans HA4.out (λ b hb h=>by omega)).trans KB (λ b hb h=>by omega)).trans kE (λ b hb h=>by omega))
 case hstop=>exact λ c pre W' hp h=>h.elim

theorem obj_one{W:Nat->Nat}{n:Nat}{ts:List TypR}{c:Cel}(hok:Dh ts c)(hW:W (2*c.g)=Bo c.tag c.ty c.ln c.sz)(hfit:c.g+c.sz<=n/2)(h0:0<c.sz)(ht:c.tag=1):Cb W n ts (c.g:Nat)=some c:=by
 obtain⟨d1,d2,d3,d4,d5⟩:=dec_enc hok.1
 have hf:=fitsE_ok hok
 unfold Cb
 rw[Int.toNat_natCast,hW,d1,d2,d3,d4,d5,ht]
 rw[ht] at hf
 rw[if_pos ⟨by omega,by omega,rfl,rfl,hf,by omega⟩]
 obtain⟨g,tag,ty,ln,sz⟩:=c
 simp only at ht
 subst ht
 rfl

theorem SOf_one(c:Cel)(P:Sp)(W:Nat->Nat)(f:Nat->Bool)(w:World)(h:SpaceAt w P W f)(hok:Dh P.ts c)(hW:W (2*c.g)=Bo c.tag c.ty c.ln c.sz)(hfit:c.g+c.sz<=P.n/2)(h0:0<c.sz)(ht:c.tag=1)(hms:∀ x∈P.ts,x.m<18446744073709551616):
  Calls prog 13 #[.pointer (some ⟨P.a,0,none⟩),.pointer (some ⟨P.t,0,none⟩),.int .i64 (c.g:Nat)] w λ e w'=>
   ∃ b k wds m,((AV k wds m (c.ln:Nat)=0/\m<18446744073709551616)/\Ct P.ts c=Ba k wds m (c.ln:Nat)/\2*c.g+1+AR k wds (c.ln:Nat)<=(P.n:Nat))/\e=.returned (.tuple #[.pointer (some ⟨b,0,none⟩),.int .i64 0])/\BJ w' b P.a c k wds m/\w.heap.size<=b/\Kp Ab w w':=by
 refine(SOf_any (c.g:Nat) P.a P.q P.n P.t P.tq W P.ts w h.fl h.ar h.tb).mono ?_
 intro e w' hp
 unfold Dn at hp
 rw[obj_one hok hW hfit h0 ht] at hp
 obtain⟨b,k,wds,m,h1,h2,h3,h4,h5⟩:=hp
 have hk:AV k wds m (c.ln:Nat)=0:=by
  obtain⟨e1,e2⟩:=hok.2 ht
  unfold AY at e1
  rw[h1] at e1
  exact e1
 have hm:m<18446744073709551616:=by
  obtain⟨i,-,hi,-⟩:=Et h1
  exact hms _ (List.mem_of_getElem? hi)
 refine⟨b,k,wds,m,⟨⟨hk,hm⟩,by unfold Ct;rw [h1],?_⟩,h2,h3,h4,h5⟩
 have hr:=slotN_room hok h0
 unfold slotN at hr
 rw[if_pos ht,h1] at hr
 dsimp only at hr
 have:=(Bi hk).1
 omega

def BC(ts:List TypR)(W:Nat->Nat)(os:List Cel):List (Nat×Nat×Nat):=os.flatMap λ c=>(Ct ts c).map λ s=>(c.g,s,W (2*c.g+1+s))

def edgeV(cs:List Cel)(x:Nat×Nat×Nat):Value:=.agg #[.int .i64 (x.1:Nat),.int .i64 (x.2.1:Nat),.int .i64 (tgt cs x.2.2)]

theorem refsW_add{ts:List TypR}{W:Nat->Nat}{xs:List Cel}{c:Cel}:BC ts W (xs++[c])=BC ts W xs++(Ct ts c).map λ s=>(c.g,s,W (2*c.g+1+s)):=by
 simp[BC]

theorem refsW_at{ts:List TypR}{W:Nat->Nat}{xs:List Cel}{j i s:Nat}{c:Cel}(h:xs[j]?=some c)(hi:(Ct ts c)[i]?=some s):
  ∃ rest,BC ts W xs=(BC ts W (xs.take j)++((Ct ts c).take i).map λ s=>(c.g,s,W (2*c.g+1+s)))++(c.g,s,W (2*c.g+1+s))::rest:=by
 obtain⟨h1,h2⟩:=gE.1 h
 obtain⟨i1,i2⟩:=gE.1 hi
 have e1:xs=xs.take j++c::xs.drop (j+1):=by rw[<- h2,List.getElem_cons_drop h1,List.take_append_drop]
 have e2:Ct ts c=(Ct ts c).take i++s::(Ct ts c).drop (i+1):=by rw[<- i2,List.getElem_cons_drop i1,List.take_append_drop]
 refine⟨((Ct ts c).drop (i+1)).map (λ s=>(c.g,s,W (2*c.g+1+s)))++BC ts W (xs.drop (j+1)),?_⟩
 have e3:BC ts W (c::xs.drop (j+1))=(Ct ts c).map (λ s=>(c.g,s,W (2*c.g+1+s)))++BC ts W (xs.drop (j+1)):=by simp[BC]
 have e4:∀ a b:List Cel,BC ts W (a++b)=BC ts W a++BC ts W b:=λ a b=>by simp[BC]
 have e5:=congrArg (List.map λ s=>(c.g,s,W (2*c.g+1+s))) e2
 rw[List.map_append,List.map_cons] at e5
 calc BC ts W xs=BC ts W (xs.take j++c::xs.drop (j+1)):=by rw[<- e1]
  _=_:=by rw[e4,e3,e5];simp

theorem Dc.keep{S:Nat->Prop}{w w':World}{P:Sp}{gb m base:Nat}{cs:List Cel}{e:Nat}{ov:Value}(h:Dc w P gb m base cs e ov)(k:Kp S w w')(h1:¬ S gb)(h2:¬ S m)(h3:∀ b,ov.ownBlock=some b->¬ S b):Dc w' P gb m base cs e ov:=by
 obtain⟨g1,⟨n,hn,g2⟩,g3,g4⟩:=h
 exact⟨k.at_ g1 h1,⟨n,hn,g2.keep k h2⟩,Ai g3 k h3,g4⟩

theorem grefs_fn(gb:Nat)(w:World):
  Calls prog 60 #[.pointer (some ⟨gb,0,none⟩)] w λ e w'=>
   e=.returned (.func (.func 109) #[] #[.pointer (some ⟨w.heap.size,0,none⟩)])/\w.alloc (.cells #[.pointer (some ⟨gb,0,none⟩)] 113)=w':=by
 have hmf:∀ (fn:Fn) (first cap:Array Value) (w:World),(Instr.makeFunc fn first cap).run prog w=.ok (.func fn first cap) w:=λ _ _ _ _=>rfl
 go_enter func60,ntmps60
 go_wp2
 go_ret
 exact⟨rfl,rfl⟩

set_option maxRecDepth 20000 in
theorem grefs_iter4(P:Sp)(W0:Nat->Nat)(f:Nat->Bool)(cs:List Cel)(E:Nat)(bx gb m base:Nat)(ov:Value)(w:World)(h:SpaceAt w P W0 f)(hc:CellsTo P W0 cs E)(hms:∀ x∈P.ts,x.m<18446744073709551616)(hg:Dc w P gb m base cs E ov)
  (hb:w.heap[bx]?=some (.cells #[.pointer (some ⟨gb,0,none⟩)] 113 (0,0))) {R:Nat->Prop} (hR:∀ i,R i->i<w.heap.size/\¬ i=bx/\¬ i=gb/\¬ i=m/\¬ ov.ownBlock=some i/\¬ P.all i):
  IterAt4 prog 109 #[.pointer (some ⟨bx,0,none⟩)] (λ x=>#[edgeV cs x,.int .u64 (x.2.2:Nat)]) (BC P.ts W0 (Ap cs)) Ab R w:=by
 intro l J Jx S0 W hW hl1 hl2 hS hJ hJx hY h0
 have lbx:=lZ hb
 have bW:=hW.at_ hb (λ h=>h)
 have HBw:=sE bW
 have HSw:=sE (h.Ad hW)
 obtain⟨g1,⟨nm,hnm,g2⟩,g3,g4⟩:=hg
 have lgb:=lZ g1
 have lm:=g2.lt
 have gW1:=hW.at_ g1 (λ h=>h)
 have HGw:Sl (Dc W P gb m base cs E ov):=⟨⟨gW1,⟨nm,hnm,g2.keep hW (λ h=>h)⟩,Ai g3 hW (λ _ _ h=>h),g4⟩⟩
 have hoL:(Bu cs).length<=32768:=by
  have:=obsG_len cs
  have:=BD g4
  have:=hc.le
  have:=h.ar.small
  omega
 obtain⟨oa,oc,rfl⟩:=AA g3
 have lall:=h.lt
 have z1:=hW.size
 have cb:=cell_of_one bW
 obtain⟨e0,e1,e2,e3,e4⟩:=Cf gW1
 have H0:=sE h0
 have HCs:=sE hc
 obtain⟨L,hL⟩:∃ L,(Bu cs).length=L:=⟨_,rfl⟩
 rw[hL] at e3 hoL
 have HLL:=sE hL
 have lob:∀ b,(Value.slice oa (Bu cs).length oc).ownBlock=some b->b<w.heap.size:=λ b hb=>(Af g3 hb).2
 have HNx:Sl (¬ (R bx\/bx=l)):=⟨λ h=>by
  rcases h with h|h
  .exact (hR bx h).2.1 rfl
  .omega⟩
 have HGn:Sl (∀ W',Kp (λ i=>R i\/i=l) W W'->Dc W' P gb m base cs E (.slice oa (Bu cs).length oc)):=⟨λ W' kk=>HGw.out.keep kk (λ h=>by
   rcases h with h|h
   .exact (hR gb h).2.2.1 rfl
   .omega) (λ h=>by
   rcases h with h|h
   .exact (hR m h).2.2.2.1 rfl
   .omega) (λ b hb h=>by
   have:=lob b hb
   rcases h with h|h
   .exact (hR b h).2.2.2.2.1 hb
   .omega)⟩
 have HGk:Sl (∀ W1 W2,Dc W1 P gb m base cs E (.slice oa (Bu cs).length oc)->Kp Ab W1 W2->Dc W2 P gb m base cs E (.slice oa (Bu cs).length oc)):=⟨λ W1 W2 hg kk=>hg.keep kk (λ h=>h) (λ h=>h) (λ _ _ h=>h)⟩
 have HSn:Sl (∀ W',Kp (λ i=>R i\/i=l) W W'->SpaceAt W' P W0 f):=⟨λ W' kk=>HSw.out.keep kk (λ i hi h=>by
   have:=lall i hi
   rcases h with h|h
   .exact (hR i h).2.2.2.2.2 hi
   .omega)⟩
 clear g1 g2 g3 g4 hnm h0 hL e0 e1 e2 e4 lob hc h hR gW1 bW
 refine(callsIn_wide (n:=0)).1 ?_
 refine callsIn_of_wp func109 rfl trivial ?_
 simp only[ntmps109,List.size_toArray,List.length_cons,List.length_nil,Nat.reduceAdd,Nat.reduceSub,Array.replicate_succ,Array.replicate_zero,List.push_toArray,List.append_toArray,List.nil_append,List.cons_append]
 gi_wp2_with fail
 gi_loopw [16] (λ v16 wr=>∃ (j:Nat) (S:Nat->Prop),j<=L/\v16=.int .i64 (j:Nat)/\J (BC P.ts W0 ((Ap cs).take j)) S wr/\Kp (λ i=>R i\/i=l) W wr) (λ v16 wr=>L-(intOf v16).toNat)
 case atStart=>exact ⟨0,S0,Nat.zero_le _,rfl,H0.out,Kr _ _⟩
 case round=>
  obtain⟨j,S,hj,rfl,hjJ,kr⟩:=hrel
  obtain⟨wo,rfl⟩:∃ wo:World,wo=wr:=⟨_,rfl⟩
  have HJ:=sE hjJ
  have HKr:=sE kr
  by_cases hjl:j<L
  .have hjl':(j:Int)<(L:Int):=by omega
   obtain⟨c,hcj⟩:∃ c,(Ap cs)[j]?=some c:=by
    have:j<(Ap cs).length:=by have:=HLL.out;unfold Bu at this;rw [List.length_map] at this;omega
    exact⟨_,List.getElem?_eq_getElem this⟩
   have hmem:=Dx.1 (List.mem_of_getElem? hcj)
   have hgj:(Bu cs)[j]?=some c.g:=by unfold Bu;rw [List.getElem?_map,hcj];rfl
   have Gr:=HGn.out wo kr
   obtain⟨ob,hob,cx⟩:=Ce Gr.2.2.1 hgj
   subst hob
   have br:=kr.at_ HBw.out HNx.out
   have cb:=cell_of_one br
   obtain⟨e0,e1,e2,e3,e4⟩:=Cf Gr.1
   have HOf:Sl (∀ W',Kp Ab wo W'->_):=⟨λ W' kk=>SOf_one c P W0 f W' ((HSn.out wo kr).Ad kk) (HCs.out.ok c hmem.1) (HCs.out.hd c hmem.1) (by have:=(HCs.out.tl.mem hmem.1).2.1;have:=HCs.out.le;omega) (HCs.out.tl.mem hmem.1).2.2 hmem.2 hms⟩
   have hst:(Ap cs).take (j+1)=(Ap cs).take j++[c]:=by rw[List.take_add_one,hcj];rfl
   have HSt:Sl (BC P.ts W0 ((Ap cs).take (j+1))=BC P.ts W0 ((Ap cs).take j)++(Ct P.ts c).map λ s=>(c.g,s,W0 (2*c.g+1+s))):=⟨by rw[hst,refsW_add]⟩
   have HAll:Sl (∀ (i:Nat) (s:Nat),(Ct P.ts c)[i]?=some s->∃ rest,BC P.ts W0 (Ap cs)=(BC P.ts W0 ((Ap cs).take j)++((Ct P.ts c).take i).map λ s=>(c.g,s,W0 (2*c.g+1+s)))++(c.g,s,W0 (2*c.g+1+s))::rest):=⟨λ i s hi=>refsW_at hcj hi⟩
   clear Gr br hmem hgj hst hcj kr hjJ e2 e4
   gi_wp2_with fail
   refine wpIn_wide.2 ?_
   refine wp_region_held_drew (S:=λ w'=>w'.cell? ⟨bx,0,none⟩=some (.pointer (some ⟨gb,0,none⟩))/\w'.cell? ⟨gb,0,none⟩=some (.pointer (some ⟨P.a,0,none⟩))/\w'.cell? ⟨gb,1,none⟩=some (.pointer (some ⟨P.t,0,none⟩))) (by kernel_rfl) ?_ (λ qZ=>?_)
   .exact ⟨cb,e0,e1⟩
   refine Ao 0 ?_;refine Ao 1 ?_;refine Ao 2 ?_;refine Ao 3 ?_;refine Ao 4 ?_;refine Ao 5 ?_;refine Ao 6 ?_;refine Ao 7 ?_;refine Ao 8 ?_
   try simp only[Ar]
   refine AQ [9] ?_
   refine Ag rfl (λ K hK=>?_)
   go_simp
   go_at_call 13
   (with_reducible refine(HOf.out _ (Kr Ab wo).drew).mono ?_)
   rintro e w5 ⟨b,k,wds,mm,⟨⟨hk,hmm⟩,hrf,hfit⟩,rfl,hV,hbn,k5⟩
   have K5:Kp Ab wo w5:=((Kr Ab wo).drew).then' k5
   refine hK _ _ ?_ (λ qZ=>?_)
   .exact ⟨Ac K5 cb,Ac K5 e0,Ac K5 e1⟩
   clear hK K
   try simp only[Ar]
   refine Ao 10 ?_;refine Ao 11 ?_;refine Ao 12 ?_;refine Ao 13 ?_;refine Ao 14 ?_
   try simp only[Ar]
   refine wpAnyH_done (by kernel_rfl) ?_ _
   have HK5:=sE K5
   have HV5:=sE hV
   have HB5:Sl (wo.heap.size<=b):=⟨hbn⟩
   have HKd:=sE (And.intro hk (And.intro hmm hfit))
   have HRf:=sE (VRefs_at b P.a P.q P.n W0 c k wds mm w5 ((HSn.out wo HKr.out).Ad K5).ar hV hk hmm hfit)
   have HSz:Sl (∀ i,S i->i<wo.heap.size):=⟨λ i hi=>(hS _ _ _ HJ.out i hi).2⟩
   rw[hrf] at HSt HAll
   obtain⟨rs,hrs⟩:∃ rs,Ba k wds mm (c.ln:Nat)=rs:=⟨_,rfl⟩
   have HRs:=sE hrs
   rw[hrs] at HSt HAll HRf
   clear qZ K5 k5 hV hbn hk hmm hfit hrf hrs cb cx e0 e1 e3 HOf
   gi_wp2_with fail
   refine⟨trivial,rfl,?_⟩
   refine(callsIn_wide.2 HRf.out).mono ?_
   rintro e w6 ⟨rv,rfl,hrow,k6⟩
   obtain⟨ra,rc,rfl⟩:=AA hrow
   have HRow6:=sE hrow
   have HK6:Sl (Kp Ab wo w6):=⟨HK5.out.then' k6⟩
   have HV6:=sE (HV5.out.Ad k6)
   have hz5:b<w5.heap.size:=lZ HV5.out
   have hz56:=HK5.out.size
   have HJ6:=sE (hJ _ _ _ _ HJ.out HK6.out)
   have HN6:Sl (∀ i,S i->¬ i=b/\¬ (Value.slice ra rs.length rc).ownBlock=some i):=⟨λ i hi=>⟨by have:=HSz.out i hi;have:=HB5.out;omega,λ h=>by have:=(Af hrow h).1;have:=HSz.out i hi;omega⟩⟩
   obtain⟨M,hM⟩:∃ M,rs.length=M:=⟨_,rfl⟩
   rw[hM] at HN6 HRow6
   have HM:=sE hM
   have hM6:M<=65536:=by rw[<- hM,<- HRs.out];exact El HKd.out.1
   have HKW:Sl (Kp (λ i=>R i\/i=l) W w6):=⟨HKr.out.trans HK6.out (λ _ _ h=>h.elim)⟩
   try rw[hM]
   clear hrow k6 hM
   gi_wp2_with fail
   gi_loopw [38] (λ v38 wr=>∃ (i:Nat) (S:Nat->Prop),i<=M/\v38=.int .i64 (i:Nat)/\J (BC P.ts W0 ((Ap cs).take j)++(rs.take i).map λ s=>(c.g,s,W0 (2*c.g+1+s))) S wr/\Kp (λ i=>R i\/i=l) W wr/\(∀ i,S i->¬ i=b/\¬ (Value.slice ra M rc).ownBlock=some i)/\wr.ownsRow w5.heap.size 3 1 (.slice ra M rc) M (AB rs)/\BJ wr b P.a c k wds mm) (λ v38 wr=>M-(intOf v38).toNat)
   case atStart=>exact ⟨0,S,Nat.zero_le _,rfl,by rw[List.take_zero,List.map_nil,List.append_nil];exact HJ6.out,HKW.out,HN6.out,HRow6.out,HV6.out⟩
   case round=>
    obtain⟨i,S',hi,rfl,hjJ,kq,hN,hrow,hV⟩:=hrel
    have HJq:=sE hjJ
    have HKq:=sE kq
    have HNq:=sE hN
    have HRq:=sE hrow
    have HVq:=sE hV
    by_cases hil:i<M
    .have hil':(i:Int)<(M:Int):=by omega
     obtain⟨s,hs⟩:∃ s,rs[i]?=some s:=⟨rs[i]'(by rw[HM.out];exact hil),by simp⟩
     obtain⟨rb,hrb,cx⟩:=Ce hrow hs
     subst hrb
     have hsT:(s:Int)<AR k wds (c.ln:Nat):=FK HKd.out.1 (by rw[HRs.out];exact List.mem_of_getElem? hs)
     have HLd:=sE (VLoad_yes s b P.a P.q P.n W0 c k wds mm wr (HSn.out wr kq).ar hV HKd.out.1 hsT (by have:=HKd.out.2.2;omega))
     obtain⟨rest,HRest⟩:∃ rest,Sl (BC P.ts W0 (Ap cs)=(BC P.ts W0 ((Ap cs).take j)++(rs.take i).map λ s=>(c.g,s,W0 (2*c.g+1+s)))++(c.g,s,W0 (2*c.g+1+s))::rest):=by
      obtain⟨rest,h⟩:=HAll.out i s hs
      exact⟨rest,⟨h⟩⟩
     have HTk:Sl ((BC P.ts W0 ((Ap cs).take j)++(rs.take i).map λ s=>(c.g,s,W0 (2*c.g+1+s)))++[(c.g,s,W0 (2*c.g+1+s))]=BC P.ts W0 ((Ap cs).take j)++(rs.take (i+1)).map λ s=>(c.g,s,W0 (2*c.g+1+s))):=⟨by
      rw[List.take_add_one,hs,List.append_assoc,List.map_append];rfl⟩
     obtain⟨y,hy⟩:∃ y,W0 (2*c.g+1+s)=y:=⟨_,rfl⟩
     have HY64:Sl (y<18446744073709551616):=⟨by rw[<- hy];exact HSw.out.ar.fits _ (by have:=HKd.out.2.2;omega)⟩
     rw[hy] at HLd HRest HTk
     have Gq:=HGn.out wr kq
     have br:=kq.at_ HBw.out HNx.out
     have cb:=cell_of_one br
     have HTg:Sl (∀ W',Kp Ab wr W'->Calls prog 111 #[.pointer (some ⟨gb,0,none⟩),.int .u64 (y:Nat)] W' λ e' w'=>e'=.returned (.int .i64 (tgt cs y))/\w'=W'):=⟨λ W' kk=>target_at P gb m base E cs _ W' (HGk.out wr W' Gq kk) y HY64.out⟩
     clear Gq br hjJ kq hN hrow hV hs hsT hy
     gi_wp2_with fail
     refine⟨trivial,rfl,?_⟩
     refine(callsIn_wide.2 HLd.out).mono ?_
     rintro e w7 ⟨rfl,k7⟩
     have cb7:=k7.cell cb (λ h=>h)
     clear cb cx
     gi_wp2_with fail
     refine⟨trivial,rfl,?_⟩
     refine(callsIn_wide.2 (HTg.out _ k7)).mono ?_
     rintro e w8 ⟨rfl,rfl⟩
     have J8:=hJ _ _ _ _ HJq.out k7
     have HY8:=sE (hY _ S' _ rest w8 HRest.out J8)
     have HS8:Sl (∀ i,S' i->(R i\/W.heap.size<=i)):=⟨λ i hi=>(hS _ _ _ J8 i hi).1⟩
     have HR8:=sE (Ai HRq.out k7 (λ _ _ h=>h))
     have HV8:=sE (HVq.out.Ad k7)
     have HK8:=sE (HKq.out.trans k7 (λ _ _ h=>h.elim))
     clear J8 k7 cb7
     gi_wp2_with fail
     refine CW HY8.out rfl ?_
     intro b' B hB
     rcases hB with ⟨rfl,hk,S'',hT,hS'⟩|⟨rfl,hE⟩
     .have hrb:=Af HR8.out (b:=rb) rfl
      have hvb:=lZ HV8.out
      have OB:=Ai HR8.out hk (λ b' hb' hs=>by
       rcases hs with hs|hs
       .exact (HNq.out _ hs).2 hb'
       .have:=(Af HR8.out hb').1;have:=HK6.out.size;have:=HK5.out.size;have:=HKr.out.size;omega)
      have VB:=HV8.out.keep hk (λ hs=>by
       rcases hs with hs|hs
       .exact (HNq.out _ hs).1 rfl
       .have:=HB5.out;have:=HKr.out.size;omega)
      have KB:=HK8.out.trans hk (λ i hi h=>by
       rcases h with h|h
       .rcases HS8.out i h with h|h
        .exact .inl h
        .omega
       .exact .inr h)
      have NB:∀ i,S'' i->¬ i=b/\¬ (Value.slice (some ⟨rb,0,none⟩) M rc).ownBlock=some i:=λ i hi=>by
       rcases hS' i hi with h'|h'
       .exact HNq.out i h'
       .exact ⟨by omega,λ h=>by have:=(Af HR8.out h).2;omega⟩
      have HF:=sE (And.intro hT (And.intro KB (And.intro NB (And.intro OB VB))))
      clear hT KB OB VB NB hS' hk hrb hvb
      gi_wp2_with fail
      exact⟨⟨i+1,S'',by omega,by go_num,by rw[<- HTk.out];exact HF.out.1,HF.out.2.1,HF.out.2.2.1,HF.out.2.2.2.1,HF.out.2.2.2.2⟩,by simp only[intOf];omega⟩
     .gi_wp2_with fail
      refine bodyPost_ret (results_none rfl _ _ _) rfl ?_
      exact⟨⟨_,rfl⟩,.inr ⟨_,⟨_,by rw[List.append_assoc];exact HRest.out.symm⟩,hE⟩⟩
    .have hil':¬ (i:Int)<(M:Int):=by omega
     obtain rfl:i=M:=by omega
     gi_wp2_with fail
     exact⟨⟨j+1,S',by omega,by go_num,by have:=HJq.out;rw [show rs.take i=rs from List.take_of_length_le (by have:=HM.out;omega)] at this;rw [HSt.out];exact this,HKq.out⟩,by simp only[intOf];omega⟩
  .have hjl':¬ (j:Int)<(L:Int):=by omega
   gi_wp2_with fail
   go_end0
   exact⟨⟨_,rfl⟩,.inl ⟨S,by
    have:=HJ.out
    rwa [List.take_of_length_le (by have:=HLL.out;unfold Bu at this;rw [List.length_map] at this;omega)] at this⟩⟩

end

section
open Go.RowKit
attribute [local go_sem] Oper.semAt_some

def edgeOf(cs:List Cel)(x:Nat×Nat×Nat):List (Nat×Nat×Nat):=if 0<=tgt cs x.2.2 then [(x.1,x.2.1,(tgt cs x.2.2).toNat)] else []

def Cr(cs:List Cel)(xs:List (Nat×Nat×Nat)):List (Nat×Nat×Nat):=xs.flatMap (edgeOf cs)

def edgesL(ts:List TypR)(W:Nat->Nat)(cs:List Cel):List (Nat×Nat×Nat):=Cr cs (BC ts W (Ap cs))

def CB(es:List (Nat×Nat×Nat)):List Value:=es.flatMap λ e=>[.int .i64 (e.1:Nat),.int .i64 (e.2.1:Nat),.int .i64 (e.2.2:Nat)]

theorem flatE_app(xs ys:List (Nat×Nat×Nat)):CB (xs++ys)=CB xs++CB ys:=by simp[CB]

theorem flatE_at:∀ (xs:List (Nat×Nat×Nat)) (i:Nat) (x:Nat×Nat×Nat),xs[i]?=some x->(CB xs)[i*3]?=some (.int .i64 (x.1:Nat))/\(CB xs)[i*3+1]?=some (.int .i64 (x.2.1:Nat))/\(CB xs)[i*3+2]?=some (.int .i64 (x.2.2:Nat))
 |y::xs,0,x,h=>by
  simp at h
  subst h
  exact⟨rfl,rfl,rfl⟩
 |y::xs,i+1,x,h=>by
  have h2:xs[i]?=some x:=by simpa using h
  obtain⟨h3,h4,h5⟩:=flatE_at xs i x h2
  rw[show (i+1)*3=(i*3+1+1+1) by omega]
  exact⟨h3,h4,h5⟩

theorem edgesP_add(cs:List Cel)(xs:List (Nat×Nat×Nat))(x:Nat×Nat×Nat):Cr cs (xs++[x])=Cr cs xs++edgeOf cs x:=by simp[Cr]

theorem edgesP_len(cs:List Cel):∀ (xs:List (Nat×Nat×Nat)),(Cr cs xs).length<=xs.length
 |[]=>Nat.le_refl _
 |x::xs=>by
  have h:=edgesP_len cs xs
  have e:Cr cs (x::xs)=edgeOf cs x++Cr cs xs:=rfl
  rw[e,List.length_append]
  have:(edgeOf cs x).length<=1:=by unfold edgeOf;split <;> simp
  simp only[List.length_cons]
  omega

theorem refsC_len{ts:List TypR}{c:Cel}(hok:Dh ts c)(ht:c.tag=1):(Ct ts c).length<=65536:=by
 unfold Ct
 cases h:typeOf ts (c.ty:Nat) with
 |none=>simp
 |some x=>
  refine El ?_
  obtain⟨e1,e2⟩:=hok.2 ht
  unfold AY at e1
  rw[h] at e1
  exact e1

theorem refsW_len{ts:List TypR}{W:Nat->Nat}:∀ {xs:List Cel},(∀ c∈xs,Dh ts c/\c.tag=1)->(BC ts W xs).length<=xs.length*65536
 |[],_=>Nat.le_refl _
 |c::xs,h=>by
  have h1:=refsW_len (W:=W) (λ c hc=>h c (List.mem_cons_of_mem _ hc))
  have h2:=refsC_len (h c List.mem_cons_self).1 (h c List.mem_cons_self).2
  have e:BC ts W (c::xs)=(Ct ts c).map (λ s=>(c.g,s,W (2*c.g+1+s)))++BC ts W xs:=rfl
  rw[e,List.length_append,List.length_map]
  simp only[List.length_cons]
  omega

theorem CellsTo.refs_len{P:Sp}{W:Nat->Nat}{cs:List Cel}{E:Nat}(h:CellsTo P W cs E)(hn:P.n<=65536):(BC P.ts W (Ap cs)).length<=2147483648:=by
 have h1:=refsW_len (ts:=P.ts) (W:=W) (xs:=Ap cs) (λ c hc=>⟨h.ok c (Dx.1 hc).1,(Dx.1 hc).2⟩)
 have h2:(Ap cs).length<=cs.length:=List.length_filter_le _ _
 have h3:=BD h.tl
 have h4:=h.le
 omega

theorem underlyingEdges:prog.underlying 88=some (.slice 91):=by kernel_rfl

theorem infoEdge:(prog.info? 91).map (λ i=>(i.zero,i.size,i.bytes))=some (some (.agg #[.int .i64 0,.int .i64 0,.int .i64 0]),3,24):=by kernel_rfl

def EdgI(cs:List Cel)(rv:Nat)(wl:World)(pre:List (Nat×Nat×Nat))(S:Nat->Prop)(W':World):Prop:=
 ∃ v,W'.heap[rv]?=some (.cells #[v] 88 (0,0))/\W'.ownsRow (wl.heap.size+2) 91 3 v (Cr cs pre).length (CB (Cr cs pre))/\(S=λ k=>k=rv\/v.ownBlock=some k)/\Kp (λ k=>k=rv) wl W'

set_option maxRecDepth 20000 in
theorem Edges_at(P:Sp)(W:Nat->Nat)(f:Nat->Bool)(cs:List Cel)(w:World)(h:SpaceAt w P W f)(hc:CellsAt P W cs)(hms:∀ x∈P.ts,x.m<18446744073709551616):
  Calls prog 38 #[.pointer (some ⟨P.s,0,none⟩)] w λ e w'=>∃ v,e=.returned v/\w'.ownsRow w.heap.size 91 3 v (edgesL P.ts W cs).length (CB (edgesL P.ts W cs))/\Kp Ab w w':=by
 have HSp:=sE h
 have HCs:=sE hc.to
 have lall:=h.lt
 have hrl:=hc.to.refs_len h.ar.small
 have HAr:Sl (∀ w',Kp Ab w w'->Calls prog 14 #[.pointer (some ⟨P.s,0,none⟩)] w' λ e w''=>e=.returned (.pointer (some ⟨P.a,0,none⟩))/\w''=w'):=⟨λ w' kk=>Cj P W f w' (h.Ad kk)⟩
 have HTb:Sl (∀ w',Kp Ab w w'->Calls prog 15 #[.pointer (some ⟨P.s,0,none⟩)] w' λ e w''=>e=.returned (.pointer (some ⟨P.t,0,none⟩))/\w''=w'):=⟨λ w' kk=>STable_at P W f w' (h.Ad kk)⟩
 clear h hc
 refine(callsIn_wide (n:=0)).1 ?_
 refine callsIn_of_wp_marks func38 rfl trivial ?_
 simp only[ntmps38,List.size_toArray,List.length_cons,List.length_nil,Nat.reduceAdd,Nat.reduceSub,Array.replicate_succ,Array.replicate_zero,List.push_toArray,List.append_toArray,List.nil_append,List.cons_append]
 gi_wp2_with fail
 refine⟨trivial,rfl,?_⟩
 obtain⟨w1,hw1⟩:∃ w1,w1=w.alloc (.cells #[.slice none 0 0] 88):=⟨_,rfl⟩
 rw[<- hw1]
 have k1:Kp Ab w w1:=by rw[hw1];exact (Kr _ w).alloc _
 have z1:w1.heap.size=w.heap.size+1:=by rw[hw1];simp
 have b1:w1.heap[w.heap.size]?=some (.cells #[.slice none 0 0] 88 (0,0)):=by rw[hw1];exact wN w _
 clear hw1
 refine(callsIn_wide.2 (HAr.out w1 k1)).mono ?_
 rintro e w2 ⟨rfl,rfl⟩
 gi_wp2_with fail
 refine⟨trivial,rfl,?_⟩
 refine(callsIn_wide.2 (HTb.out _ k1)).mono ?_
 rintro e w2 ⟨rfl,rfl⟩
 gi_wp2_with fail
 refine⟨trivial,rfl,?_⟩
 refine(callsIn_wide.2 (through_to P W f cs (P.n/2) _ (HSp.out.Ad k1) HCs.out)).mono ?_
 rintro e w3 ⟨rfl,⟨ov,hG⟩,k3⟩
 gi_wp2_with fail
 refine⟨trivial,rfl,?_⟩
 refine(callsIn_wide.2 (grefs_fn (w.heap.size+1+1) w3)).mono ?_
 rintro e wl ⟨rfl,hwl⟩
 obtain⟨B,hB⟩:∃ B,w.heap.size=B:=⟨_,rfl⟩
 have hz3:=k3.size
 have hzl:wl.heap.size=w3.heap.size+1:=by rw[<- hwl];simp
 have kl:Kp Ab w3 wl:=by rw[<- hwl];exact (Kr _ w3).alloc _
 have gbx:wl.heap[w3.heap.size]?=some (.cells #[.pointer (some ⟨w.heap.size+1+1,0,none⟩)] 113 (0,0)):=by rw[<- hwl];exact wN w3 _
 clear hwl
 have KL:Kp Ab w wl:=(k1.then' k3).then' kl
 have bl1:=(k3.then' kl).at_ b1 (λ h=>h)
 have lG:∀ W' n,n=w.heap.size+1->Dc W' P (n+1) n n cs (P.n/2) ov->Dc W' P (w.heap.size+1+1) (w.heap.size+1) (w.heap.size+1) cs (P.n/2) ov:=λ W' n hn h=>by rw[hn] at h;exact h
 replace hG:=lG _ _ z1 hG
 have GL:=hG.keep kl (λ h=>h) (λ h=>h) (λ _ _ h=>h)
 have lov:∀ b,ov.ownBlock=some b->w.heap.size+1<=b/\b<w3.heap.size:=λ b hb=>by
  obtain⟨-,-,g3,-⟩:=hG
  have:=Af g3 hb
  omega
 have lg:w.heap.size+1+1<w3.heap.size:=lZ hG.1
 rw[hB] at gbx bl1 z1 lov lg GL
 clear hG b1 lG
 gi_wp2_with fail
 try rw[hB]
 obtain⟨D,hD⟩:∃ D,w3.heap.size=D:=⟨_,rfl⟩
 rw[hD] at gbx hz3 hzl lov lg ⊢
 rw[z1] at hz3
 refine wpIn_range4 (n:=0) (gf:=109) (lb:=#[.pointer (some ⟨D,0,none⟩)]) rfl (enters_of func109 (by kernel_rfl) rfl)
  (grefs_iter4 P W f cs (P.n/2) D (B+1+1) (B+1) (B+1) ov wl (HSp.out.Ad KL) HCs.out hms GL gbx (R:=λ i=>i=B) (λ i hi=>by
   subst hi
   exact⟨by omega,by omega,by omega,by omega,λ h=>by have:=lov _ h;omega,λ h=>by have:=lall _ h;omega⟩)) (λ i hi=>hi.elim) (λ i hi=>by omega)
  (X:=λ _=>False) (λ i hi=>hi.elim) (λ _=>rfl)
  (λ pre S W'=>EdgI cs B wl pre S W') (λ c pre W'=>False) (λ i=>i=B\/(Value.slice none 0 0).ownBlock=some i) ?hS ?hI ?hIx ?h0 ?hround ?hdone ?hstop
 case hS=>
  rintro pre S A ⟨v,a1,a2,rfl,a4⟩ i hi
  rcases hi with hi|hi
  .exact ⟨.inl hi,by have:=lZ a1;omega⟩
  .have:=Af a2 hi
   exact⟨.inr this.1,this.2⟩
 case hI=>
  rintro pre S A A' ⟨v,a1,a2,a3,a4⟩ hk
  exact⟨v,hk.at_ a1 (λ h=>by rcases h with h|h|h;exact h;omega;omega),Ai a2 hk (λ b hb h=>by have:=Af a2 hb;rcases h with h|h|h;exact h;omega;omega),a3,
   a4.trans hk (λ b hb h=>by rcases h with h|h|h;exact h.elim;omega;omega)⟩
 case hIx=>exact λ c pre A B h hk=>h
 case h0=>exact ⟨_,bl1,World.ownsRow_nil wl _ _ _,rfl,Kr _ _⟩
 case hround=>
  rintro pre S x rest W' hx ⟨v,a1,a2,a3,a4⟩ hs
  have hpl:pre.length+1<=2147483648:=by
   have:(BC P.ts W (Ap cs)).length=pre.length+(rest.length+1):=by rw[hx];simp
   omega
  have hel:(Cr cs pre).length<=pre.length:=edgesP_len cs pre
  obtain⟨xg,xs,y⟩:=x
  obtain⟨z,hz⟩:∃ z,tgt cs y=z:=⟨_,rfl⟩
  have HAd:Sl (Cr cs (pre++[(xg,xs,y)])=Cr cs pre++(if 0<=z then [(xg,xs,z.toNat)] else [])):=⟨by rw[edgesP_add,edgeOf,hz]⟩
  unfold edgeV
  dsimp only
  rw[hz]
  clear hz hx gbx bl1 GL lov lg
  gi_wp2_with fail
  refine⟨((Kr Ab W').alloc _).Ak _,?_⟩
  intro W2 hc2 hf2 hk2 hs2 hr2
  have kW:Kp Ab W' (W'.alloc (.cells #[.int .i64 (xg:Nat),.int .i64 (xs:Nat),.int .i64 z] 91)):=(Kr _ W').alloc _
  have lW:=lZ a1
  have own1:(W2).ownsRow (wl.heap.size+2) 91 3 v (Cr cs pre).length (CB (Cr cs pre)):=Ai (Ai a2 kW (λ _ _ h=>h)) hk2 (λ b hb h=>by have:=Af a2 hb;omega)
  have r0:=hk2.at_ (kW.at_ a1 (λ h=>h)) (by omega)
  have rc:=hk2.at_ (wN W' (.cells #[.int .i64 (xg:Nat),.int .i64 (xs:Nat),.int .i64 z] 91)) (by omega)
  have c0:=cell_of_one r0
  have fr0:=free_of_one r0
  obtain⟨d0,d1,d2⟩:=cells3 rc
  have HR0:=sE r0
  have HOW:=sE own1
  have HA4:=sE a4
  have HK2:Sl (Kp (λ k=>k=wl.heap.size+1) W' W2):=⟨(kW.Ak _).trans hk2 (λ b hb h=>h)⟩
  have zW2:W2.heap.size=W'.heap.size+1:=by rw[hs2];simp
  have lrW2:B<W2.heap.size:=by omega
  have HNW:Sl (¬ v.ownBlock=some B):=⟨λ e=>by have:=Af own1 e;omega⟩
  have HS3:=sE a3
  have hs3:wl.heap.size+2<=W2.heap.size:=by omega
  have lc:W'.heap.size<W2.heap.size:=by omega
  clear r0 own1 a2 a4 hc2 hf2 a1 a3 hk2 hs2 rc kW hr2 zW2
  by_cases h0:0<=z
  .obtain ⟨n,rfl⟩:=Int.eq_ofNat_of_zero_le h0
   have p0:decide ((0:Int)<=(n:Int))=true:=dT h0
   rw[if_pos h0,Int.toNat_natCast] at HAd
   clear h0
   obtain⟨i0,hi,hz0,hz1,hz2⟩:=info_parts infoEdge
   refine wpIn_block ?_
   refine wpIn_seq ?_
   refine wpIn_region_lit ?_
   refine BF (λ _ _ h=>h) _ _ _ (by kernel_rfl) ?_
   go_wp2_with fail
   refine wpIn_cond_true rfl ?_
   refine wpIn_region_lit ?_
   refine BF (λ _ _ h=>h) _ _ _ (by kernel_rfl) ?_
   go_wp2_with (at_builtin;go_loud (refine wpList_append_lies _ rfl (.tmp 17) (.tmp 19) 88 rfl (wl.heap.size+2) 91 i0 _ 3 24 underlyingEdges hi hz0 hz1 hz2 rfl (by omega) v (Cr cs pre).length (CB (Cr cs pre)) rfl (HOW.out.alloc _) ⟨W2.heap.size,0,none⟩ 1 1 [.int .i64 (xg:Nat),.int .i64 (xs:Nat),.int .i64 (n:Nat)] rfl rfl (World.news_of_block (wN W2 _)) (by intro u hu;simp at hu;rcases hu with rfl|rfl|rfl <;> rfl) (by omega) (by unfold maxLen;omega) (by omega) (by simp;omega) _ rfl ?_);intro g cap w3 hown hgrow hat hlt;have KA:Kp (λ b=>v.ownBlock=some b) W2 w3:=((Kr Ab W2).alloc _ |>.Ak _).grown hgrow (λ k e _=>e);have r3:=KA.at_ HR0.out HNW.out;have c3:=cell_of_one r3;have fr3:=free_of_one r3;have HR3:=sE r3;clear r3)
   have KB:Kp (λ b=>b=B) w3 (w3.setCell ⟨B,0,none⟩ (.slice (some ⟨g,0,none⟩) ((Cr cs pre).length+1) cap)):=(Kr (λ b=>b=B) w3).setCell (λ _=>rfl) _
   have zA:=KA.size
   refine⟨((KA.mono λ b hb h=>by rw[HS3.out];exact .inr h).trans KB (λ b hb h=>by rw[HS3.out];exact .inl h)),_,⟨.slice (some ⟨g,0,none⟩) ((Cr cs pre).length+1) cap,one_setCell HR3.out,?_,rfl,?_⟩,?_⟩
   .rw [HAd.out,flatE_app,List.length_append]
    exact Ai hown KB (λ b hb h=>by have:=Af hown hb;omega)
   .exact ((HA4.out.trans HK2.out (λ b hb h=>by omega)).trans KA (λ b hb h=>by have:=Af HOW.out h;omega)).trans KB (λ b hb h=>h)
   .rintro i (hi'|hi')
    .exact .inl (by rw[HS3.out];exact .inl hi')
    .have hg:g=i:=by simpa [Value.ownBlock] using hi'
     subst hg
     rcases hat with h|h
     .exact .inl (by rw[HS3.out];exact .inr h)
     .right
      rw[h]
      simp
  .have p0:decide ((0:Int)<=z)=false:=dF h0
   rw[if_neg h0,List.append_nil] at HAd
   clear h0
   gi_wp2_with fail
   refine⟨Kr _ W2,S,⟨v,HR0.out,by rw[HAd.out];exact HOW.out,HS3.out,HA4.out.trans HK2.out (λ i hi h=>by omega)⟩,λ i hi=>.inl hi⟩
 case hdone=>
  rintro S W' ⟨v,a1,a2,a3,a4⟩ hs hD'
  obtain⟨va,vc,rfl⟩:=AA a2
  have c0:=cell_of_one a1
  have fr0:=free_of_one a1
  have HA1:=sE a1
  have HA2:=sE a2
  have HA4:=sE a4
  clear a1 a2 a3 a4
  gi_wp2_with fail
  obtain⟨w4,hw4⟩:∃ w4,w4=W'.setCell ⟨B,0,none⟩ (.slice va (Cr cs (BC P.ts W (Ap cs))).length vc):=⟨_,rfl⟩
  rw[<- hw4]
  have KB:Kp (λ b=>b=B) W' w4:=by rw[hw4];exact (Kr (λ b=>b=B) W').setCell (λ _=>rfl) _
  have b4:w4.heap[B]?=some (.cells #[.slice va (Cr cs (BC P.ts W (Ap cs))).length vc] 88 (0,0)):=by rw[hw4];exact one_setCell HA1.out
  clear hw4
  refine⟨by simp,.inl ⟨_,_,rfl,run_takeDeferred (KB.at_ hD' (by omega)),?_⟩⟩
  have kE:Kp (λ b=>b=wl.heap.size) w4 (w4.putObj wl.heap.size (.deferred none)):=(Kr (λ b=>b=wl.heap.size) w4).putObj (λ _=>rfl) _
  have e4:=cell_of_one (kE.at_ b4 (by omega))
  refine⟨.slice va (Cr cs (BC P.ts W (Ap cs))).length vc,by simp[results,results38,go_sem,e4],_,rfl,?_,?_⟩
  .refine Bp (Ai (Ai HA2.out KB (λ b hb h=>?_)) kE (λ b hb h=>?_)) (by omega)
   .have:=Af HA2.out hb;omega
   .have:=Af HA2.out hb;omega
  .exact (((KL.trans HA4.out (λ b hb h=>by omega)).trans KB (λ b hb h=>by omega)).trans kE (λ b hb h=>by omega))
 case hstop=>exact λ c pre W' hp h=>h.elim

end

end Go.Proofs.YtmfajopmppfldaaGreatDoor
