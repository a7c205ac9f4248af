/-
  Lemmas for the laws, together: WalkB.
-/
import Derived.Test.YtfkedlgpgmaemaaGreatDoorQak
import Derived.Test.YtfkedlgpgmaemaaGreatDoorQaj
import Derived.Test.YtfkedlgpgmaemaaGreatDoorQaa
import Derived.Test.YtfkedlgpgmaemaaGreatDoorQal
import Derived.Test.YtfkedlgpgmaemaaGreatDoorQam
import Derived.Laws.EntriesVeiled
import Derived.Test.YtfkedlgpgmaemaaGreatDoorQan
import Derived.Test.YtfkedlgpgmaemaaGreatDoorQap
import Derived.Test.YtfkedlgpgmaemaaGreatDoorQau
set_option linter.unusedVariables false
set_option maxHeartbeats 16000000
namespace Go.Proofs.YtfkedlgpgmaemaaGreatDoor
open Tryz
section
open Go.RowKit

theorem bit_mod{v k:Nat}:v.testBit k=(v/2 ^ k%2==1):=by
 rw[Nat.testBit_eq_decide_div_mod_eq]
 rfl

theorem LRef_bit(k wds n:Int)(M s:Nat)(w:World)(d:M<18446744073709551616)(g:s<64)(b:¬ k=2)(c:¬ k=3):
  Calls prog 223 #[BU k wds (M:Nat) n,s] w (RK (.bool (M/2 ^ s%2==1)) w):=by
 unfold BU
 have e:(k==2)=false:=by simpa using b
 have f:(k==3)=false:=by simpa using c
 have a:Sl ((bits BinOp.and IntKind.u64 ((M:Int)/2 ^ s) 1==1)=(M/2 ^ s%2==1)):=⟨by rw[bit_test M s d,bit_mod]⟩
 go_enter func223,ntmps223
 go_wp2
 go_ret
 exact⟨by rw[<- a.o];rfl,(Kr Aa w).alloc _⟩

theorem LRef_raw(wds n:Int)(s:Nat)(w:World)(c:s<65536):
  Calls prog 223 #[BU 4 wds 0 n,s] w (RK (.bool false) w):=by
 unfold BU
 have a:bits BinOp.and IntKind.u64 0 1=0:=by decide +kernel
 by_cases h:s<64
 .have b:(0:Int)/2 ^ s=0:=Int.zero_ediv _
  go_enter func223,ntmps223
  go_wp2
  go_ret
  exact⟨by first|rfl|simp [a]|(rw [a];rfl),(Kr Aa w).alloc _⟩
 .go_enter func223,ntmps223
  go_wp2
  go_ret
  exact⟨by first|rfl|simp [a]|(rw [a];rfl),(Kr Aa w).alloc _⟩

theorem LRef_row(wds m n:Int)(s:Nat)(w:World):
  Calls prog 223 #[BU 2 wds m n,s] w (RK (.bool true) w):=by
 unfold BU
 go_enter func223,ntmps223
 go_wp2
 go_ret
 exact⟨rfl,(Kr Aa w).alloc _⟩

theorem LRef_structs(a:Nat)(n:Int)(M s:Nat)(w:World)(d:M<18446744073709551616)(i:1<=a)(g:a<=16)(j:s<65536):
  Calls prog 223 #[BU 3 (a:Nat) (M:Nat) n,s] w (RK (.bool (M/2 ^ (s%a)%2==1)) w):=by
 unfold BU
 have e:((s:Nat):Int).tmod ((a:Nat):Int)=((s%a:Nat):Int):=by
  rw[Int.tmod_eq_emod_of_nonneg (by omega)]
  push_cast;rfl
 have f:s%a<16:=Nat.lt_of_lt_of_le (Nat.mod_lt _ (by omega)) (by omega)
 obtain⟨r,b⟩:∃ r,s%a=r:=⟨_,rfl⟩
 rw[b] at e f ⊢
 have k:¬ ((a:Nat):Int)=0:=by omega
 have l:(((a:Nat):Int)==0)=false:=by simp;omega
 have c:Sl ((bits BinOp.and IntKind.u64 ((M:Int)/2 ^ r) 1==1)=(M/2 ^ r%2==1)):=⟨by rw[bit_test M r d,bit_mod]⟩
 clear b
 go_enter func223,ntmps223
 go_wp2
 go_ret
 exact⟨by rw[<- c.o];rfl,(Kr Aa w).alloc _⟩

theorem LRef_any(k wds n:Int)(M s:Nat)(w:World)(c:M<18446744073709551616)(b:AU k wds M n=0)(i:(s:Int)<AZ k wds n):
  Calls prog 223 #[BU k wds (M:Nat) n,s] w (RK (.bool (BO k wds M s)) w):=by
 have d:s<65536:=by have:=(Bj b).2;omega
 obtain⟨j,m,o,p,l⟩:=Ec b
 rcases l with ⟨rfl,e,f⟩|⟨rfl,e,f⟩|⟨rfl|rfl,rfl⟩
 .rw [show BO 1 wds M s=(M/2 ^ s%2==1) by unfold BO;rw [if_pos rfl]]
  refine LRef_bit 1 wds n M s w c ?_ (by omega) (by omega)
  rw[AZ,if_pos rfl] at i
  omega
 .obtain ⟨a,rfl⟩:=Int.eq_ofNat_of_zero_le (show 0<=wds by omega)
  rw[show BO 3 (a:Nat) M s=(M/2 ^ (s%a)%2==1) by unfold BO;rw [if_neg (by omega),if_pos rfl,Int.toNat_natCast]]
  exact LRef_structs a n M s w c (by omega) (by omega) d
 .rw [show BO 2 0 M s=true by unfold BO;rw [if_neg (by omega),if_neg (by omega)];rfl]
  exact LRef_row 0 _ n s w
 .rw [show BO 4 0 M s=false by unfold BO;rw [if_neg (by omega),if_neg (by omega)];rfl]
  have g:M=0:=by
   have:=j
   simp[Dc] at this
   exact this
  subst g
  exact LRef_raw 0 n s w d

theorem KRefs_any(k wds:Int)(M:Nat)(n:Int)(w:World)(b4:M<18446744073709551616)(b:AU k wds M n=0):
  Calls prog 208 #[.agg #[.int .u8 k,.int .i64 wds,.int .u64 M],.int .i64 n] w (DRefsPost k wds M n w):=by
 obtain⟨K,hK⟩:∃ K:Nat,AZ k wds n=(K:Nat):=Int.eq_ofNat_of_zero_le (Bj b).1
 have c1:K<=65536:=by have:=(Bj b).2;omega
 have z:=λ w=>Kof_any k wds M n w
 unfold AJ at z
 have a9:=sE z
 have H:=sE b
 have l:=λ w=>slots_any k wds M n w b
 rw[hK] at l
 unfold BU at l
 have a4:=sE l
 have a5:Sl (∀ (s:Nat) r,s<K->Calls prog 223 #[.agg #[.int .u8 k,.int .i64 wds,.int .u64 M,.int .i64 n],.int .i64 (s:Nat)] r (RK (.bool (BO k wds M s)) r)):=
  ⟨λ s r c6=>LRef_any k wds n M s r b4 b (by rw[hK];omega)⟩
 have b0:Sl (BP k wds M n=AR k wds M K):=⟨by unfold BP;rw [hK,Int.toNat_natCast]⟩
 have D:=(Kr Aa w).alloc (.cells #[.int .u8 k,.int .i64 wds,.int .u64 M] 106)
 clear z l hK b
 go_enter func208,ntmps208
 go_wp2_with fail
 obtain⟨w1,W⟩:∃ w1,w1=w.alloc (.cells #[.int .u8 k,.int .i64 wds,.int .u64 M] 106):=⟨_,rfl⟩
 rw[<- W] at D ⊢
 clear W
 refine(a9.o w1).mono ?_
 rintro e w2 ⟨v,rfl,b7,U,a0⟩
 have V:=U H.o
 unfold BU at V
 subst V
 rw[H.o]
 clear b7 U
 obtain⟨i,t⟩:∃ i,i=w2.alloc (.cells #[.int .u8 k,.int .i64 wds,.int .u64 M,.int .i64 n] 302):=⟨_,rfl⟩
 have a1:Kp Aa w2 i:=by rw[t];exact (Kr _ w2).alloc _
 have P:i.heap[w2.heap.size]?=some (.cells #[.int .u8 k,.int .i64 wds,.int .u64 M,.int .i64 n] 302 (0,0)):=by rw[t];exact wN w2 _
 have a3:=sE P
 have a7:=sE ((D.then' a0).then' a1)
 clear D a0 a1 P
 go_wp2_with fail
 rw[<- t]
 clear t
 refine(a4.o i).mono ?_
 rintro e a ⟨rfl,C⟩
 have E:=sE (C.at_ a3.o id)
 have F:=sE (a7.o.then' C)
 clear C
 obtain⟨L,b3⟩:∃ L,w2.heap.size=L:=⟨_,rfl⟩
 rw[b3] at E
 go_wp2_with fail
 go_loopw [4,7,19] (λ v _ y wr=>∃ j:Nat,j<=K/\y=.int .i64 j/\wr.ownsRow a.heap.size 3 1 v (AR k wds M j).length (Az (AR k wds M j))/\Kp Aa a wr) (λ _ _ y _=>K-(intOf y).toNat)
 case atStart=>exact ⟨0,Nat.zero_le _,rfl,World.ownsRow_nil _ _ _ _,Kr _ _⟩
 case round=>
  obtain⟨j,c2,rfl,B,d⟩:=hrel
  by_cases hjl:j<K
  .have b6:(j:Int)<(K:Int):=by omega
   obtain⟨I,J,N,O⟩:=Ay (d.at_ E.o id)
   have c4:=refsUpto_len k wds M j
   have c8:=d.size
   have a6:=sE d
   have a8:=sE B
   have G:=sE (refsUpto_succ k wds M j)
   clear d B
   go_wp2_with fail
   refine(a5.o j _ hjl).mono ?_
   rintro e x ⟨rfl,f⟩
   have p:=a6.o.then' f
   have q:x.ownsRow a.heap.size 3 1 u4 (AR k wds M j).length (Az (AR k wds M j)):=f.owns a8.o (λ _ _ b1=>b1)
   have c7:=f.size
   cases hb:BO k wds M j with
   |false=>
    have c:Sl (AR k wds M (j+1)=AR k wds M j):=⟨by rw[G.o,hb];simp⟩
    have m:=sE q
    have A:=sE p
    clear hb I J N O f q p
    go_wp2
    exact⟨⟨j+1,by omega,by go_num,by rw[c.o];exact m.o,A.o⟩,by simp only[intOf];omega⟩
   |true=>
    have c:Sl (AR k wds M (j+1)=AR k wds M j++[j]):=⟨by rw[G.o,hb];simp⟩
    have m:=sE q
    have A:=sE p
    clear hb I J N O f q p
    go_wp2_with (at_builtin;obtain ⟨b9,R,X,Y,Z⟩:=info_parts Be;go_loud (refine wpList_append_lies _ rfl (.tmp 25) (.tmp 27) 24 rfl a.heap.size 3 b9 _ 1 8 Ar R X Y Z rfl (by omega) u4 (AR k wds M j).length (Az (AR k wds M j)) rfl (m.o.alloc _) ⟨x.heap.size,0,none⟩ 1 1 [j] rfl rfl (World.news_of_block (wN x _)) (by intro u T;simp at T;subst T;rfl) (by omega) (by unfold maxLen;omega) (by omega) (by simp;omega) (x.heap.size+1) (by simp) ?_);intro g cap a2 S Q b5 c5;clear R X Y Z)
    have c0:Kp Aa a a2:=(A.o.alloc _).grown Q (λ k e c3=>absurd (m.o.lt k e).1 (by omega))
    have b2:a2.ownsRow a.heap.size 3 1 (.slice (some ⟨g,0,none⟩) ((AR k wds M j).length+1) cap) (AR k wds M (j+1)).length (Az (AR k wds M (j+1))):=by
     rw[c.o,Az,List.map_append,List.length_append];exact S
    clear S Q b5
    go_wp2
    exact⟨⟨j+1,by omega,by go_num,b2,c0⟩,by simp only[intOf];omega⟩
  .have b6:¬ (j:Int)<(K:Int):=by omega
   have c:Sl (BP k wds M n=AR k wds M j):=⟨by rw[b0.o,show j=K by omega]⟩
   have b8:w.heap.size<=a.heap.size:=F.o.size
   go_wp2
   exact bodyPost_ret (v:=.tuple #[u4,(0:Int)]) (by simp[results,results208,go_sem]) rfl ⟨u4,rfl,by rw[c.o];exact Cq B b8,F.o.then' d⟩

attribute [local go_sem] Oper.semAt_some

theorem vrefs_fn(b:Nat)(w:World):
  Calls prog 173 #[.pointer (some b)] w λ e w'=>
   e=.returned (.func (.func 207) #[] #[.pointer (some w.heap.size)])/\w.alloc (.cells #[.pointer (some b)] 71)=w':=by
 have a:∀ (fn:Fn) (first cap:Array Value) (w:World),(Instr.makeFunc fn first cap).run prog w=.ok (.func fn first cap) w:=λ _ _ _ _=>rfl
 go_enter func173,ntmps173
 go_wp2
 go_ret
 exact⟨rfl,rfl⟩

theorem refsT_mem{k wds:Int}{M:Nat}{n:Int}{s:Nat}(b:AU k wds M n=0)(a:s∈BP k wds M n):(s:Int)<AZ k wds n:=by
 have:=refsUpto_mem a
 have:=(Bj b).1
 omega

theorem Eh{k wds:Int}{M:Nat}{n:Int}(a:AU k wds M n=0):(BP k wds M n).length<=65536:=by
 have:=refsUpto_len k wds M (AZ k wds n).toNat
 have:=(Bj a).2
 unfold BP
 omega

theorem Aq{w:World}{base:Nat}{e:TypeId}{f:Nat}{v:Value}{n:Nat}{xs:List Value}(b:w.ownsRow base e f v n xs):∃ a c,v=.slice a n c:=by
 rcases b.2 with ⟨b,d⟩|⟨g,cap,i,b,_⟩
 .exact ⟨_,_,by rw[b,d]⟩
 .exact ⟨_,_,b⟩

theorem Cu{w:World}{base:Nat}{e:TypeId}{a:Option Addr}{n c:Nat}{xs:List Nat}{i x:Nat}(d:w.ownsRow base e 1 (.slice a n c) n (Az xs))(f:xs[i]?=some x):∃ b,a=some ⟨b,0,none⟩/\w.cell? ⟨b,i,none⟩=some (.int .i64 x):=by
 have u:=(gE.1 f).1
 have v:xs.length=n:=by have:=d.1;simpa [Az] using this
 rcases d.2 with ⟨-,t⟩|⟨g,cap,k,o,p,l,q,r,s,m⟩
 .omega
 .injection o with h1 h2 h3
  refine⟨g,h1,?_⟩
  have:k.toList[i]?=some (.int .i64 x):=by
   rw[<- List.getElem?_take_of_lt (j:=n*1) (by omega),m,Az,List.getElem?_map,f]
   rfl
  simp only[World.cell?,l]
  rw[<- this]
  simp

set_option maxRecDepth 20000 in
theorem vrefs_iter4(u b a q n:Nat)(z:Nat->Nat)(c:Cel)(k wds:Int)(m:Nat)(w:World)(J:ArenaAt w a q z n)(a1:Ce w b a c k wds m)(t:AU k wds m (c.ln:Nat)=0)(c7:m<18446744073709551616)(g3:2*c.g+1+AZ k wds (c.ln:Nat)<=(n:Nat))
  (a2:w.heap[u]?=some (.cells #[.pointer (some b)] 71 (0,0))) {R:Nat->Prop} (g0:∀ i,R i->i<w.heap.size/\¬ i=u/\¬ i=b/\¬ i=a/\¬ i=q):
  IterAt4 prog 207 #[.pointer (some u)] (λ s=>#[.int .i64 (s:Nat),.int .u64 (z (2*c.g+1+s):Nat)]) (BP k wds m (c.ln:Nat)) Aa R w:=by
 intro l f4 i6 S0 W N i9 j0 c8 c6 i7 d3 c5
 have g8:=lZ a2
 have g7:=lZ a1
 have la:=J.lt_a
 have g9:=J.lt_q
 have Z:=N.at_ a2 id
 have b1:=a1.Ac N
 have c2:=J.Ac N
 have f1:=sE b1
 have e2:=sE c2
 have e3:=sE Z
 have d5:=Eh (M:=m) t
 have e4:Sl (∀ p,Calls prog 208 #[.agg #[.int .u8 k,.int .i64 wds,.int .u64 m],c.ln] p (DRefsPost k wds m (c.ln:Nat) p)):=⟨λ p=>KRefs_any k wds m (c.ln:Nat) p c7 t⟩
 have b6:Sl (∀ (s:Nat) p,s∈BP k wds m (c.ln:Nat)->ArenaAt p a q z n->Ce p b a c k wds m->Calls prog 129 #[.pointer (some b),.int .i64 (s:Nat)] p (RK (.tuple #[.int .u64 (z (2*c.g+1+s):Nat),(0:Int)]) p)):=⟨λ s p a6 f8 g1=>by
  have:=refsT_mem t a6
  exact VLoad_yes s b a q n z c k wds m p f8 g1 t this (by omega)⟩
 obtain⟨xs,a7⟩:∃ xs,BP k wds m (c.ln:Nat)=xs:=⟨_,rfl⟩
 have f2:=sE a7
 have b8:=sE d3
 rw[a7] at d5 b6 b8 ⊢
 have A:=cell_of_one Z
 obtain⟨v0,i0,i1,i2,b0,i3,F,G,H⟩:=Ce.cells b1
 have j2:=N.size
 have b3:=sE c5
 clear d3 a7 b1 c2 J a1 g3 c7 t Z c5 a2
 refine(callsIn_wide (n:=0)).1 ?_
 refine callsIn_of_wp func207 rfl trivial ?_
 simp only[ntmps207,List.size_toArray,List.length_cons,List.length_nil,Nat.reduceAdd,Nat.reduceSub,Array.replicate_succ,Array.replicate_zero,List.push_toArray,List.append_toArray,List.nil_append,List.cons_append]
 gi_wp2_with fail
 refine wpIn_wide.2 ?_
 refine wp_region_held_drew (S:=λ w'=>w'.cell? u=some (.pointer (some b))/\w'.cell? ⟨b,4,none⟩=some (.int .i64 c.ln)/\w'.cell? ⟨b,6,none⟩=some (.int .u8 k)/\w'.cell? ⟨b,7,none⟩=some (.int .i64 wds)/\w'.cell? ⟨b,8,none⟩=some (.int .u64 m)) (by kernel_rfl) ?_ (λ e1=>?_)
 .exact ⟨A,b0,F,G,H⟩
 refine Ap 0 ?_;refine Ap 1 ?_;refine Ap 2 ?_;refine Ap 3 ?_;refine Ap 4 ?_;refine Ap 5 ?_;refine Ap 6 ?_;refine Ap 7 ?_;refine Ap 8 ?_
 try simp only[AB]
 refine Bp [9] ?_
 refine Ag rfl (λ K hK=>?_)
 go_simp
 go_at_call 208
 (with_reducible refine(e4.o _).mono ?_)
 rintro e b2 ⟨v,rfl,C,e0⟩
 have r:Kp Aa W b2:=((Kr Aa W).drew).then' e0
 refine hK _ _ ?_ (λ e1=>?_)
 .exact ⟨Ae r A,Ae r b0,Ae r F,Ae r G,Ae r H⟩
 clear hK K
 try simp only[AB]
 refine Ap 10 ?_;refine Ap 11 ?_;refine Ap 12 ?_;refine Ap 13 ?_;refine Ap 14 ?_
 try simp only[AB]
 refine wpAnyH_done (by kernel_rfl) ?_ _
 rw[f2.o] at C
 obtain⟨Q,y,g6⟩:=Aq C
 subst g6
 obtain⟨L,a0⟩:∃ L,xs.length=L:=⟨_,rfl⟩
 rw[a0] at C d5 ⊢
 have b5:=sE a0
 have b9:=c6 _ _ _ _ b3.o r
 have a5:b2.ownsRow W.heap.size 3 1 (.slice Q L y) L (Az xs):=C
 have d0:∀ i,S0 i->¬ (Value.slice Q L y).ownBlock=some i:=λ i f d=>by
  have:=(c8 _ _ _ b3.o i f).2
  have:=(Ad a5 d).1
  omega
 have e9:Sl (Kp (λ i=>R i\/i=l) W b2):=⟨r.Aw _⟩
 have T:=sE (And.intro b9 (And.intro a5 d0))
 clear C a5 d0 b9 r e0 a0 v0 i0 i1 i2 b0 i3 F G H A e1
 gi_wp2_with fail
 gi_loopw [6,7,8,26] (λ F G H a9 wr=>∃ (j:Nat) (S:Nat->Prop),j<=L/\a9=.int .i64 j/\f4 (xs.take j) S wr/\Kp (λ i=>R i\/i=l) W wr/\wr.ownsRow W.heap.size 3 1 (.slice Q L y) L (Az xs)/\(∀ i,S i->¬ (Value.slice Q L y).ownBlock=some i)) (λ F G H a9 wr=>L-(intOf a9).toNat)
 case atStart=>exact ⟨0,S0,Nat.zero_le _,rfl,T.o.1,e9.o,T.o.2.1,T.o.2.2⟩
 case round=>
  obtain⟨j,S,i8,rfl,d4,E,a4,d1⟩:=hrel
  have b4:=sE d4
  have e6:=sE E
  have e8:=sE a4
  have b7:=sE d1
  by_cases hjl:j<L
  .have g4:(j:Int)<(L:Int):=by omega
   obtain⟨x,D⟩:∃ x,xs[j]?=some x:=⟨xs[j]'(by rw[b5.o];exact hjl),by simp⟩
   obtain⟨a8,g5,f5⟩:=Cu a4 D
   subst g5
   have d6:x∈xs:=List.mem_of_getElem? D
   have B:∀ i,i<w.heap.size->(i=u\/i=b\/i=a\/i=q)->¬ (R i\/i=l):=λ i f d O=>by
    rcases O with O|O
    .have:=g0 i O;omega
    .omega
   have c4:=E.at_ e3.o (B u g8 (.inl rfl))
   have A:=cell_of_one c4
   have e7:=sE (b6.o x wr d6 (e2.o.keep E (B a la (.inr (.inr (.inl rfl)))) (B q g9 (.inr (.inr (.inr rfl))))) (f1.o.keep E (B b g7 (.inr (.inl rfl)))))
   have d8:xs=xs.take j++x::xs.drop (j+1):=by
    obtain⟨f6,f7⟩:=gE.1 D
    rw[<- f7,List.getElem_cons_drop f6,List.take_append_drop]
   have d9:xs.take (j+1)=xs.take j++[x]:=by rw[List.take_add_one,D];rfl
   have V:=sE (And.intro d8 d9)
   clear E a4 d1 d4 d6 B c4 d8 d9 D
   gi_wp2_with fail
   refine⟨trivial,rfl,?_⟩
   refine(callsIn_wide.2 e7.o).mono ?_
   rintro e i4 ⟨rfl,P⟩
   have X:=c6 _ _ _ _ b4.o P
   have f3:=sE (b8.o _ S x _ i4 V.o.1 X)
   have Y:=Af e8.o P (λ _ _ d=>d)
   have U:=sE Y
   have e5:=sE (e6.o.trans P (λ _ _ d=>d.elim))
   have f0:Sl (∀ i,S i->(R i\/W.heap.size<=i)):=⟨λ i f=>(c8 _ _ _ X i f).1⟩
   have j1:=Ad Y (b:=a8) rfl
   clear X Y P f5 A
   gi_wp2_with fail
   refine En f3.o rfl ?_
   intro c3 i5 f9
   rcases f9 with ⟨rfl,a3,S',d2,c9⟩|⟨rfl,t⟩
   .have d7:∀ i,(S i\/i=l)->¬ (Value.slice (some ⟨a8,0,none⟩) L y).ownBlock=some i:=λ i f d=>by
     rcases f with f|f
     .exact b7.o i f d
     .have:=(Ad U.o d).1;omega
    have c1:=Af U.o a3 (λ c3 g2 a6=>d7 c3 a6 g2)
    have c0:=e5.o.trans a3 (λ i f d=>by
     rcases d with d|d
     .rcases f0.o i d with d|d
      .exact .inl d
      .omega
     .exact .inr d)
    have I:Sl _:=⟨And.intro d2 (And.intro c0 (And.intro c1 (λ i f d=>by
     rcases c9 i f with h'|h'
     .exact b7.o i h' d
     .have:=(Ad U.o d).2;omega:∀ i,S' i->¬ (Value.slice (some ⟨a8,0,none⟩) L y).ownBlock=some i)))⟩
    clear d2 c0 c1 c9 a3 d7
    gi_wp2_with fail
    exact⟨⟨j+1,S',by omega,by go_num,by rw[V.o.2];exact I.o.1,I.o.2.1,I.o.2.2.1,I.o.2.2.2⟩,by simp only[intOf];omega⟩
   .gi_wp2_with fail
    refine bodyPost_ret (results_none rfl _ _ _) rfl ?_
    exact⟨⟨_,rfl⟩,.inr ⟨_,⟨_,by rw[List.append_assoc];exact V.o.1.symm⟩,t⟩⟩
  .have g4:¬ (j:Int)<(L:Int):=by omega
   gi_wp2_with fail
   go_end0
   exact⟨⟨_,rfl⟩,.inl ⟨S,by have:=b4.o;rwa [List.take_of_length_le (by rw[b5.o];omega)] at this⟩⟩

end

section
open Go.RowKit
attribute [local go_sem] Oper.semAt_some

def u64Vs(ws:List Nat):List Value:=ws.map λ x=>.int .u64 (x:Nat)

def Fz(W0:Nat->Nat)(g:Nat)(xs:List Nat):List Nat:=(xs.map λ s=>W0 (2*g+1+s)).filter λ x=>x !=0

theorem tgtL_add(a:Nat->Nat)(g:Nat)(xs:List Nat)(s:Nat):Fz a g (xs++[s])=Fz a g xs++(if a (2*g+1+s)=0 then [] else [a (2*g+1+s)]):=by
 unfold Fz
 rw[List.map_append,List.filter_append]
 congr 1
 by_cases h:a (2*g+1+s)=0 <;> simp[h]

theorem tgtL_len(a:Nat->Nat)(g:Nat)(xs:List Nat):(Fz a g xs).length<=xs.length:=by
 unfold Fz
 exact Nat.le_trans (List.length_filter_le _ _) (by simp)

def TgtI(W0:Nat->Nat)(g rv:Nat)(wl:World)(pre:List Nat)(S:Nat->Prop)(W':World):Prop:=
 ∃ v,W'.heap[rv]?=some (.cells #[v] 49 (0,0))/\W'.ownsRow (wl.heap.size+2) 79 1 v (Fz W0 g pre).length (u64Vs (Fz W0 g pre))/\(S=λ k=>k=rv\/v.ownBlock=some k)/\Kp (λ k=>k=rv) wl W'

set_option maxRecDepth 20000 in
theorem Targets_at(b a q n:Nat)(r:Nat->Nat)(c:Cel)(k wds:Int)(m:Nat)(w:World)(O:ArenaAt w a q r n)(a5:Ce w b a c k wds m)(a4:AU k wds m (c.ln:Nat)=0)(b3:m<18446744073709551616)(b4:2*c.g+1+AZ k wds (c.ln:Nat)<=(n:Nat)):
  Calls prog 206 #[.pointer (some ⟨b,0,none⟩)] w λ e w'=>∃ v,e=.returned v/\w'.ownsRow w.heap.size 79 1 v (Fz r c.g (BP k wds m (c.ln:Nat))).length (u64Vs (Fz r c.g (BP k wds m (c.ln:Nat))))/\Kp Aa w w':=by
 have e4:=lZ a5
 have la:=O.lt_a
 have e5:=O.lt_q
 have f1:=Eh (M:=m) a4
 refine(callsIn_wide (n:=0)).1 ?_
 refine callsIn_of_wp_marks func206 rfl trivial ?_
 simp only[ntmps206,List.size_toArray,List.length_cons,List.length_nil,Nat.reduceAdd,Nat.reduceSub,Array.replicate_succ,Array.replicate_zero,List.push_toArray,List.append_toArray,List.nil_append,List.cons_append]
 gi_wp2_with fail
 refine⟨trivial,rfl,?_⟩
 obtain⟨w1,G⟩:∃ w1,w1=w.alloc (.cells #[.slice none 0 0] 49):=⟨_,rfl⟩
 rw[<- G]
 have e3:Kp Aa w w1:=by rw[G];exact (Kr _ w).alloc _
 have c1:w1.heap.size=w.heap.size+1:=by rw[G];simp
 have c5:w1.heap[w.heap.size]?=some (.cells #[.slice none 0 0] 49 (0,0)):=by rw[G];exact wN w _
 clear G
 refine(callsIn_wide.2 (vrefs_fn b w1)).mono ?_
 rintro e wl ⟨rfl,U⟩
 have b8:wl.heap.size=w1.heap.size+1:=by rw[<- U];simp
 have b9:Kp Aa w1 wl:=by rw[<- U];exact (Kr _ w1).alloc _
 have N:wl.heap[w1.heap.size]?=some (.cells #[.pointer (some ⟨b,0,none⟩)] 71 (0,0)):=by rw[<- U];exact wN w1 _
 clear U
 have a2:Kp Aa w wl:=e3.then' b9
 have a3:=b9.at_ c5 id
 rw[c1] at N b8
 obtain⟨l,c9⟩:∃ l,w.heap.size=l:=⟨_,rfl⟩
 rw[c9] at N b8 a3 e4 la e5 c1
 gi_wp2_with fail
 refine wpIn_range4 (n:=0) (gf:=207) (lb:=#[.pointer (some ⟨l+1,0,none⟩)]) rfl (enters_of func207 (by kernel_rfl) rfl)
  (vrefs_iter4 (l+1) b a q n r c k wds m wl (O.Ac a2) (a5.Ac a2) a4 b3 b4 N (R:=λ i=>i=l) (λ i p=>by subst p;exact ⟨by omega,by omega,by omega,by omega,by omega⟩)) (λ i p=>p.elim) (λ i p=>by omega)
  (X:=λ _=>False) (λ i p=>p.elim) (λ _=>rfl)
  (λ j S z=>TgtI r c.g l wl j S z) (λ c j z=>False) (λ i=>i=l\/(Value.slice none 0 0).ownBlock=some i) ?hS ?hI ?hIx ?h0 ?hround ?hdone ?hstop
 case hS=>
  rintro j S b0 ⟨v,s,t,rfl,B⟩ i p
  rcases p with p|p
  .exact ⟨.inl p,by have:=lZ s;omega⟩
  .have:=Ad t p
   exact⟨.inr this.1,this.2⟩
 case hI=>
  rintro j S b0 e7 ⟨v,s,t,E,B⟩ P
  exact⟨v,P.at_ s (λ d=>by rcases d with d|d|d;exact d;omega;omega),Af t P (λ b f d=>by have:=Ad t f;rcases d with d|d|d;exact d;omega;omega),E,
   B.trans P (λ b f d=>by rcases d with d|d|d;exact d.elim;omega;omega)⟩
 case hIx=>exact λ c j b0 l d P=>d
 case h0=>exact ⟨_,a3,World.ownsRow_nil wl _ _ _,rfl,Kr _ _⟩
 case hround=>
  rintro j S x rest z b7 ⟨v,s,t,E,B⟩ d6
  have f4:j.length+1<=65536:=by
   have:(BP k wds m (c.ln:Nat)).length=j.length+(rest.length+1):=by rw[b7];simp
   omega
  have f7:=tgtL_len r c.g j
  obtain⟨y,a7⟩:∃ y,r (2*c.g+1+x)=y:=⟨_,rfl⟩
  have L:Sl (Fz r c.g (j++[x])=Fz r c.g j++(if y=0 then [] else [y])):=⟨by rw[tgtL_add,a7]⟩
  rw[a7]
  clear a7 b7 O a5 a4 b3 b4 N a3
  gi_wp2_with fail
  refine⟨Kr _ z,?_⟩
  intro A d2 d3 Q d7 f5
  have f8:=lZ s
  have a9:(A).ownsRow (wl.heap.size+2) 79 1 v (Fz r c.g j).length (u64Vs (Fz r c.g j)):=Af t Q (λ b f d=>by have:=Ad t f;omega)
  have V:=Q.at_ s (by omega)
  have c0:=cell_of_one V
  have c8:=free_of_one V
  have b2:=sE V
  have a0:=sE a9
  have K:=sE B
  have b1:=sE Q
  have f9:l<A.heap.size:=by omega
  have c3:Sl (¬ v.ownBlock=some l):=⟨λ e=>by have:=Ad a9 e;omega⟩
  have F:=sE E
  have f6:wl.heap.size+2<=A.heap.size:=by omega
  clear V a9 t B d2 d3 s E Q d7
  by_cases h0:y=0
  .have e6:((y:Int) !=0)=false:=by simp[h0]
   rw[if_pos h0,List.append_nil] at L
   clear h0
   gi_wp2_with fail
   refine⟨Kr _ A,S,⟨v,b2.o,by rw[L.o];exact a0.o,F.o,K.o.trans b1.o (λ i p d=>by omega)⟩,λ i p=>.inl p⟩
  .have e6:((y:Int) !=0)=true:=by simp;omega
   rw[if_neg h0] at L
   clear h0
   obtain⟨e2,p,d9,e0,e1⟩:=info_parts infoU64
   refine wpIn_block ?_
   refine wpIn_seq ?_
   refine wpIn_region_lit ?_
   refine Bq (λ _ _ d=>d) _ _ _ (by kernel_rfl) ?_
   go_wp2_with fail
   refine wpIn_cond_true rfl ?_
   refine wpIn_region_lit ?_
   refine Bq (λ _ _ d=>d) _ _ _ (by kernel_rfl) ?_
   go_wp2_with (at_builtin;go_loud (refine wpList_append_lies _ rfl (.tmp 11) (.tmp 13) 49 rfl (wl.heap.size+2) 79 e2 _ 1 8 Fw p d9 e0 e1 rfl (by omega) v (Fz r c.g j).length (u64Vs (Fz r c.g j)) rfl (a0.o.alloc _) ⟨A.heap.size,0,none⟩ 1 1 [.int .u64 (y:Nat)] rfl rfl (World.news_of_block (wN A _)) (by intro u b6;simp at b6;subst b6;rfl) (by omega) (by unfold maxLen;omega) (by omega) (by simp;omega) _ rfl ?_);intro g cap Y b5 d5 d1 f2;have a1:Kp (λ b=>v.ownBlock=some b) A Y:=((Kr Aa A).alloc _ |>.Aw _).grown d5 (λ k e _=>e);have W:=a1.at_ b2.o c3.o;have e8:=cell_of_one W;have f0:=free_of_one W;have c4:=sE W;clear W)
   have C:Kp (λ b=>b=l) Y (Y.setCell ⟨l,0,none⟩ (.slice (some ⟨g,0,none⟩) ((Fz r c.g j).length+1) cap)):=(Kr (λ b=>b=l) Y).setCell (λ _=>rfl) _
   refine⟨((a1.mono λ b f d=>by rw[F.o];exact .inr d).trans C (λ b f d=>by rw[F.o];exact .inl d)),_,⟨.slice (some ⟨g,0,none⟩) ((Fz r c.g j).length+1) cap,one_setCell c4.o,?_,rfl,?_⟩,?_⟩
   .rw [L.o,u64Vs,List.map_append,List.length_append]
    exact Af b5 C (λ b f d=>by have:=Ad b5 f;omega)
   .exact ((K.o.trans b1.o (λ b f d=>by omega)).trans a1 (λ b f d=>by have:=Ad a0.o d;omega)).trans C (λ b f d=>d)
   .rintro i (a6|a6)
    .exact .inl (by rw[F.o];exact .inl a6)
    .have d4:g=i:=by simpa [Value.ownBlock] using a6
     subst d4
     rcases d1 with d|d
     .exact .inl (by rw[F.o];exact .inr d)
     .right
      rw[d]
      simp
 case hdone=>
  rintro S z ⟨v,s,t,E,B⟩ d6 d0
  obtain⟨H,J,I,d8⟩:∃ H J I,v=.slice H J I:=by
   rcases t.2 with ⟨d,_⟩|⟨g,cap,e9,d,_⟩
   .exact ⟨_,_,_,d⟩
   .exact ⟨_,_,_,d⟩
  subst d8
  have c0:=cell_of_one s
  have c8:=free_of_one s
  have c2:=sE s
  have Z:=sE t
  have K:=sE B
  clear s t E B
  gi_wp2_with fail
  obtain⟨D,T⟩:∃ D,D=z.setCell ⟨l,0,none⟩ (.slice H J I):=⟨_,rfl⟩
  rw[<- T]
  have C:Kp (λ b=>b=l) z D:=by rw[T];exact (Kr (λ b=>b=l) z).setCell (λ _=>rfl) _
  have c6:D.heap[l]?=some (.cells #[.slice H J I] 49 (0,0)):=by rw[T];exact one_setCell c2.o
  clear T
  refine⟨by simp,.inl ⟨_,_,rfl,run_takeDeferred (C.at_ d0 (by omega)),?_⟩⟩
  have a8:Kp (λ b=>b=wl.heap.size) D (D.putObj wl.heap.size (.deferred none)):=(Kr (λ b=>b=wl.heap.size) D).putObj (λ _=>rfl) _
  have c7:=cell_of_one (a8.at_ c6 (by omega))
  refine⟨.slice H J I,by simp[results,results206,go_sem,c7],_,rfl,?_,?_⟩
  .refine Cq (Af (Af Z.o C (λ b f d=>?_)) a8 (λ b f d=>?_)) (by omega)
   .have:=Ad Z.o f;omega
   .have:=Ad Z.o f;omega
  .exact (((a2.trans K.o (λ b f d=>by omega)).trans C (λ b f d=>by omega)).trans a8 (λ b f d=>by omega))
 case hstop=>exact λ c j z f3 d=>d.elim

def BQ(ts:List TypR)(c:Cel):List Nat:=match typeOf ts (c.ty:Nat) with|some x=>BP x.k x.wds x.m (c.ln:Nat)|none=>[]

end

section
open Go.RowKit
attribute [local go_sem] Oper.semAt_some

def RefI(rv:Nat)(wl:World)(pre:List Nat)(S:Nat->Prop)(W':World):Prop:=
 ∃ v,W'.heap[rv]?=some (.cells #[v] 24 (0,0))/\W'.ownsRow (wl.heap.size+2) 3 1 v (pre).length (Az (pre))/\(S=λ k=>k=rv\/v.ownBlock=some k)/\Kp (λ k=>k=rv) wl W'

set_option maxRecDepth 20000 in
theorem VRefs_at(b a q n:Nat)(a7:Nat->Nat)(c:Cel)(k wds:Int)(m:Nat)(w:World)(J:ArenaAt w a q a7 n)(a1:Ce w b a c k wds m)(a0:AU k wds m (c.ln:Nat)=0)(a8:m<18446744073709551616)(a9:2*c.g+1+AZ k wds (c.ln:Nat)<=(n:Nat)):
  Calls prog 128 #[.pointer (some ⟨b,0,none⟩)] w λ e w'=>∃ v,e=.returned v/\w'.ownsRow w.heap.size 3 1 v ((BP k wds m (c.ln:Nat))).length (Az ((BP k wds m (c.ln:Nat))))/\Kp Aa w w':=by
 have e1:=lZ a1
 have la:=J.lt_a
 have e2:=J.lt_q
 have e7:=Eh (M:=m) a0
 refine(callsIn_wide (n:=0)).1 ?_
 refine callsIn_of_wp_marks func128 rfl trivial ?_
 simp only[ntmps128,List.size_toArray,List.length_cons,List.length_nil,Nat.reduceAdd,Nat.reduceSub,Array.replicate_succ,Array.replicate_zero,List.push_toArray,List.append_toArray,List.nil_append,List.cons_append]
 gi_wp2_with fail
 refine⟨trivial,rfl,?_⟩
 obtain⟨w1,D⟩:∃ w1,w1=w.alloc (.cells #[.slice none 0 0] 24):=⟨_,rfl⟩
 rw[<- D]
 have e0:Kp Aa w w1:=by rw[D];exact (Kr _ w).alloc _
 have b5:w1.heap.size=w.heap.size+1:=by rw[D];simp
 have c2:w1.heap[w.heap.size]?=some (.cells #[.slice none 0 0] 24 (0,0)):=by rw[D];exact wN w _
 clear D
 refine(callsIn_wide.2 (vrefs_fn b w1)).mono ?_
 rintro e wl ⟨rfl,O⟩
 have b3:wl.heap.size=w1.heap.size+1:=by rw[<- O];simp
 have b4:Kp Aa w1 wl:=by rw[<- O];exact (Kr _ w1).alloc _
 have I:wl.heap[w1.heap.size]?=some (.cells #[.pointer (some ⟨b,0,none⟩)] 71 (0,0)):=by rw[<- O];exact wN w1 _
 clear O
 have Y:Kp Aa w wl:=e0.then' b4
 have Z:=b4.at_ c2 id
 rw[b5] at I b3
 obtain⟨j,c6⟩:∃ j,w.heap.size=j:=⟨_,rfl⟩
 rw[c6] at I b3 Z e1 la e2 b5
 gi_wp2_with fail
 refine wpIn_range4 (n:=0) (gf:=207) (lb:=#[.pointer (some ⟨j+1,0,none⟩)]) rfl (enters_of func207 (by kernel_rfl) rfl)
  (vrefs_iter4 (j+1) b a q n a7 c k wds m wl (J.Ac Y) (a1.Ac Y) a0 a8 a9 I (R:=λ i=>i=j) (λ i p=>by subst p;exact ⟨by omega,by omega,by omega,by omega,by omega⟩)) (λ i p=>p.elim) (λ i p=>by omega)
  (X:=λ _=>False) (λ i p=>p.elim) (λ _=>rfl)
  (λ l S t=>RefI j wl l S t) (λ c l t=>False) (λ i=>i=j\/(Value.slice none 0 0).ownBlock=some i) ?hS ?hI ?hIx ?h0 ?hround ?hdone ?hstop
 case hS=>
  rintro l S a5 ⟨v,r,s,rfl,y⟩ i p
  rcases p with p|p
  .exact ⟨.inl p,by have:=lZ r;omega⟩
  .have:=Ad s p
   exact⟨.inr this.1,this.2⟩
 case hI=>
  rintro l S a5 e3 ⟨v,r,s,C,y⟩ K
  exact⟨v,K.at_ r (λ d=>by rcases d with d|d|d;exact d;omega;omega),Af s K (λ b f d=>by have:=Ad s f;rcases d with d|d|d;exact d;omega;omega),C,
   y.trans K (λ b f d=>by rcases d with d|d|d;exact d.elim;omega;omega)⟩
 case hIx=>exact λ c l a5 j d K=>d
 case h0=>exact ⟨_,Z,World.ownsRow_nil wl _ _ _,rfl,Kr _ _⟩
 case hround=>
  rintro l S x rest t b2 ⟨v,r,s,C,y⟩ d3
  have f0:l.length+1<=65536:=by
   have:(BP k wds m (c.ln:Nat)).length=l.length+(rest.length+1):=by rw[b2];simp
   omega
  clear b2 J a1 a0 a8 a9 I Z
  gi_wp2_with fail
  refine⟨Kr _ t,?_⟩
  intro A c9 d0 L d4 f1
  have f3:=lZ r
  have a4:(A).ownsRow (wl.heap.size+2) 3 1 v (l).length (Az (l)):=Af s L (λ b f d=>by have:=Ad s f;omega)
  have P:=L.at_ r (by omega)
  have c0:=cell_of_one P
  have c5:=free_of_one P
  have b9:=sE P
  have a6:=sE a4
  have V:=sE y
  have b7:=sE L
  have f4:j<A.heap.size:=by omega
  have b8:Sl (¬ v.ownBlock=some j):=⟨λ e=>by have:=Ad a4 e;omega⟩
  have H:=sE C
  have f2:wl.heap.size+2<=A.heap.size:=by omega
  clear P a4 s y c9 d0 r C L d4
  obtain⟨d9,p,d6,d7,d8⟩:=info_parts Be
  refine wpIn_block ?_
  refine wpIn_region_lit ?_
  refine Bq (λ _ _ d=>d) _ _ _ (by kernel_rfl) ?_
  go_wp2_with (at_builtin;go_loud (refine wpList_append_lies _ rfl (.tmp 8) (.tmp 10) 24 rfl (wl.heap.size+2) 3 d9 _ 1 8 Ar p d6 d7 d8 rfl (by omega) v (l).length (Az (l)) rfl (a6.o.alloc _) ⟨A.heap.size,0,none⟩ 1 1 [x] rfl rfl (World.news_of_block (wN A _)) (by intro u b1;simp at b1;subst b1;rfl) (by omega) (by unfold maxLen;omega) (by omega) (by simp;omega) _ rfl ?_);intro g cap T b0 d2 c8 e8;have W:Kp (λ b=>v.ownBlock=some b) A T:=((Kr Aa A).alloc _ |>.Aw _).grown d2 (λ k e _=>e);have Q:=W.at_ b9.o b8.o;have e4:=cell_of_one Q;have e6:=free_of_one Q;have c1:=sE Q;clear Q)
  have z:Kp (λ b=>b=j) T (T.setCell ⟨j,0,none⟩ (.slice (some ⟨g,0,none⟩) ((l).length+1) cap)):=(Kr (λ b=>b=j) T).setCell (λ _=>rfl) _
  refine⟨((W.mono λ b f d=>by rw[H.o];exact .inr d).trans z (λ b f d=>by rw[H.o];exact .inl d)),_,⟨.slice (some ⟨g,0,none⟩) ((l).length+1) cap,one_setCell c1.o,?_,rfl,?_⟩,?_⟩
  .rw [Az,List.map_append,List.length_append]
   exact Af b0 z (λ b f d=>by have:=Ad b0 f;omega)
  .exact ((V.o.trans b7.o (λ b f d=>by omega)).trans W (λ b f d=>by have:=Ad a6.o d;omega)).trans z (λ b f d=>d)
  .rintro i (a2|a2)
   .exact .inl (by rw[H.o];exact .inl a2)
   .have d1:g=i:=by simpa [Value.ownBlock] using a2
    subst d1
    rcases c8 with d|d
    .exact .inl (by rw[H.o];exact .inr d)
    .right
     rw[d]
     simp
 case hdone=>
  rintro S t ⟨v,r,s,C,y⟩ d3 c7
  obtain⟨E,G,F,d5⟩:∃ E G F,v=.slice E G F:=by
   rcases s.2 with ⟨d,_⟩|⟨g,cap,e5,d,_⟩
   .exact ⟨_,_,_,d⟩
   .exact ⟨_,_,_,d⟩
  subst d5
  have c0:=cell_of_one r
  have c5:=free_of_one r
  have b6:=sE r
  have U:=sE s
  have V:=sE y
  clear r s C y
  gi_wp2_with fail
  obtain⟨B,N⟩:∃ B,B=t.setCell ⟨j,0,none⟩ (.slice E G F):=⟨_,rfl⟩
  rw[<- N]
  have z:Kp (λ b=>b=j) t B:=by rw[N];exact (Kr (λ b=>b=j) t).setCell (λ _=>rfl) _
  have c3:B.heap[j]?=some (.cells #[.slice E G F] 24 (0,0)):=by rw[N];exact one_setCell b6.o
  clear N
  refine⟨by simp,.inl ⟨_,_,rfl,run_takeDeferred (z.at_ c7 (by omega)),?_⟩⟩
  have a3:Kp (λ b=>b=wl.heap.size) B (B.putObj wl.heap.size (.deferred none)):=(Kr (λ b=>b=wl.heap.size) B).putObj (λ _=>rfl) _
  have c4:=cell_of_one (a3.at_ c3 (by omega))
  refine⟨.slice E G F,by simp[results,results128,go_sem,c4],_,rfl,?_,?_⟩
  .refine Cq (Af (Af U.o z (λ b f d=>?_)) a3 (λ b f d=>?_)) (by omega)
   .have:=Ad U.o f;omega
   .have:=Ad U.o f;omega
  .exact (((Y.trans V.o (λ b f d=>by omega)).trans z (λ b f d=>by omega)).trans a3 (λ b f d=>by omega))
 case hstop=>exact λ c l t e9 d=>d.elim

theorem obj_one{W:Nat->Nat}{n:Nat}{ts:List TypR}{c:Cel}(d:Di ts c)(l:W (2*c.g)=BA c.tag c.ty c.ln c.sz)(o:c.g+c.sz<=n/2)(m:0<c.sz)(a:c.tag=1):Cj W n ts (c.g:Nat)=some c:=by
 obtain⟨e,f,i,j,k⟩:=dec_enc d.1
 have b:=fitsE_ok d
 unfold Cj
 rw[Int.toNat_natCast,l,e,f,i,j,k,a]
 rw[a] at b
 rw[if_pos ⟨by omega,by omega,rfl,rfl,b,by omega⟩]
 obtain⟨g,tag,ty,ln,sz⟩:=c
 simp only at a
 subst a
 rfl

theorem SOf_one(c:Cel)(P:Sp)(W:Nat->Nat)(f:Nat->Bool)(w:World)(l:SpaceAt w P W f)(o:Di P.ts c)(C:W (2*c.g)=BA c.tag c.ty c.ln c.sz)(D:c.g+c.sz<=P.n/2)(u:0<c.sz)(s:c.tag=1)(G:∀ x∈P.ts,x.m<18446744073709551616):
  Calls prog 30 #[.pointer (some P.a),.pointer (some P.t),c.g] w λ e w'=>
   ∃ b k wds m,((AU k wds m (c.ln:Nat)=0/\m<18446744073709551616)/\BQ P.ts c=BP k wds m (c.ln:Nat)/\2*c.g+1+AZ k wds (c.ln:Nat)<=(P.n:Nat))/\e=.returned (.tuple #[.pointer (some ⟨b,0,none⟩),(0:Int)])/\Ce w' b P.a c k wds m/\w.heap.size<=b/\Kp Aa w w':=by
 refine(SOf_any (c.g:Nat) P.a P.q P.n P.t P.tq W P.ts w l.fl l.ar l.tb).mono ?_
 intro e w' p
 unfold Db at p
 rw[obj_one o C D u s] at p
 obtain⟨b,k,wds,m,d,y,z,A,B⟩:=p
 have v:AU k wds m (c.ln:Nat)=0:=by
  obtain⟨j,H⟩:=o.2 s
  unfold AV at j
  rw[d] at j
  exact j
 have F:m<18446744073709551616:=by
  obtain⟨i,-,E,-⟩:=Es d
  exact G _ (List.mem_of_getElem? E)
 refine⟨b,k,wds,m,⟨⟨v,F⟩,by unfold BQ;rw [d],?_⟩,y,z,A,B⟩
 have r:=slotN_room o u
 unfold slotN at r
 rw[if_pos s,d] at r
 dsimp only at r
 have:=(Bj v).1
 omega

def Bv(ts:List TypR)(W:Nat->Nat)(os:List Cel):List (Nat×Nat×Nat):=os.flatMap λ c=>(BQ ts c).map λ s=>(c.g,s,W (2*c.g+1+s))

def edgeV(cs:List Cel)(x:Nat×Nat×Nat):Value:=.agg #[x.1,x.2.1,.int .i64 (tgt cs x.2.2)]

theorem refsW_add{ts:List TypR}{W:Nat->Nat}{xs:List Cel}{c:Cel}:Bv ts W (xs++[c])=Bv ts W xs++(BQ ts c).map λ s=>(c.g,s,W (2*c.g+1+s)):=by
 simp[Bv]

theorem refsW_at{ts:List TypR}{W:Nat->Nat}{xs:List Cel}{j i s:Nat}{c:Cel}(m:xs[j]?=some c)(p:(BQ ts c)[i]?=some s):
  ∃ rest,Bv ts W xs=(Bv ts W (xs.take j)++((BQ ts c).take i).map λ s=>(c.g,s,W (2*c.g+1+s)))++(c.g,s,W (2*c.g+1+s))::rest:=by
 obtain⟨n,o⟩:=gE.1 m
 obtain⟨q,r⟩:=gE.1 p
 have e:xs=xs.take j++c::xs.drop (j+1):=by rw[<- o,List.getElem_cons_drop n,List.take_append_drop]
 have f:BQ ts c=(BQ ts c).take i++s::(BQ ts c).drop (i+1):=by rw[<- r,List.getElem_cons_drop q,List.take_append_drop]
 refine⟨((BQ ts c).drop (i+1)).map (λ s=>(c.g,s,W (2*c.g+1+s)))++Bv ts W (xs.drop (j+1)),?_⟩
 have k:Bv ts W (c::xs.drop (j+1))=(BQ ts c).map (λ s=>(c.g,s,W (2*c.g+1+s)))++Bv ts W (xs.drop (j+1)):=by simp[Bv]
 have l:∀ a b:List Cel,Bv ts W (a++b)=Bv ts W a++Bv ts W b:=λ a b=>by simp[Bv]
 have d:=congrArg (List.map λ s=>(c.g,s,W (2*c.g+1+s))) f
 rw[List.map_append,List.map_cons] at d
 calc Bv ts W xs=Bv ts W (xs.take j++c::xs.drop (j+1)):=by rw[<- e]
  _=_:=by rw[l,k,d];simp

theorem Da.keep{S:Nat->Prop}{w w':World}{P:Sp}{a m base:Nat}{cs:List Cel}{e:Nat}{c:Value}(j:Da w P a m base cs e c)(k:Kp S w w')(l:¬ S a)(o:¬ S m)(p:∀ b,c.ownBlock=some b->¬ S b):Da w' P a m base cs e c:=by
 obtain⟨d,⟨n,q,f⟩,g,i⟩:=j
 exact⟨k.at_ d l,⟨n,q,f.keep k o⟩,Af g k p,i⟩

theorem grefs_fn(a:Nat)(w:World):
  Calls prog 75 #[.pointer (some a)] w λ e w'=>
   e=.returned (.func (.func 127) #[] #[.pointer (some w.heap.size)])/\w.alloc (.cells #[.pointer (some a)] 148)=w':=by
 have b:∀ (fn:Fn) (first cap:Array Value) (w:World),(Instr.makeFunc fn first cap).run prog w=.ok (.func fn first cap) w:=λ _ _ _ _=>rfl
 go_enter func75,ntmps75
 go_wp2
 go_ret
 exact⟨rfl,rfl⟩

set_option maxRecDepth 20000 in
theorem grefs_iter4(P:Sp)(p:Nat->Nat)(f:Nat->Bool)(cs:List Cel)(E:Nat)(F z m base:Nat)(e2:Value)(w:World)(d:SpaceAt w P p f)(d4:CellsTo P p cs E)(m0:∀ x∈P.ts,x.m<18446744073709551616)(d6:Da w P z m base cs E e2)
  (I:w.heap[F]?=some (.cells #[.pointer (some z)] 148 (0,0))) {R:Nat->Prop} (O:∀ i,R i->i<w.heap.size/\¬ i=F/\¬ i=z/\¬ i=m/\¬ e2.ownBlock=some i/\¬ P.all i):
  IterAt4 prog 127 #[.pointer (some F)] (λ x=>#[edgeV cs x,.int .u64 x.2.2]) (Bv P.ts p (Aj cs)) Aa R w:=by
 intro l g5 m8 S0 W Q n2 n3 i4 i2 m9 l7 i1
 have n6:=lZ I
 have c4:=Q.at_ I id
 have e7:=sE c4
 have g0:=sE (d.Ac Q)
 obtain⟨c9,⟨m5,j0,d0⟩,a8,d1⟩:=d6
 have n7:=lZ c9
 have n8:=d0.lt
 have d2:=Q.at_ c9 id
 have k1:Sl (Da W P z m base cs E e2):=⟨⟨d2,⟨m5,j0,d0.keep Q id⟩,Af a8 Q (λ _ _ d=>d),d1⟩⟩
 have m1:(BK cs).length<=32768:=by
  have:=obsG_len cs
  have:=BG d1
  have:=d4.le
  have:=d.ar.small
  omega
 obtain⟨a9,b0,rfl⟩:=Aq a8
 have m4:=d.lt
 have o2:=Q.size
 have G:=cell_of_one c4
 obtain⟨Z,a0,c6,c7,c8⟩:=Cg d2
 have j9:=sE i1
 have U:=sE d4
 obtain⟨L,d3⟩:∃ L,(BK cs).length=L:=⟨_,rfl⟩
 rw[d3] at c7 m1
 have f1:=sE d3
 have j5:∀ b,(Value.slice a9 (BK cs).length b0).ownBlock=some b->b<w.heap.size:=λ b I=>(Ad a8 I).2
 have f5:Sl (¬ (R F\/F=l)):=⟨λ d=>by
  rcases d with d|d
  .exact (O F d).2.1 rfl
  .omega⟩
 have e8:Sl (∀ r,Kp (λ i=>R i\/i=l) W r->Da r P z m base cs E (.slice a9 (BK cs).length b0)):=⟨λ r B=>k1.o.keep B (λ d=>by
   rcases d with d|d
   .exact (O z d).2.2.1 rfl
   .omega) (λ d=>by
   rcases d with d|d
   .exact (O m d).2.2.2.1 rfl
   .omega) (λ b I d=>by
   have:=j5 b I
   rcases d with d|d
   .exact (O b d).2.2.2.2.1 I
   .omega)⟩
 have k0:Sl (∀ c2 c3,Da c2 P z m base cs E (.slice a9 (BK cs).length b0)->Kp Aa c2 c3->Da c3 P z m base cs E (.slice a9 (BK cs).length b0)):=⟨λ c2 c3 d6 B=>d6.keep B id id (λ _ _ d=>d)⟩
 have b9:Sl (∀ r,Kp (λ i=>R i\/i=l) W r->SpaceAt r P p f):=⟨λ r B=>g0.o.keep B (λ i u d=>by
   have:=m4 i u
   rcases d with d|d
   .exact (O i d).2.2.2.2.2 u
   .omega)⟩
 clear c9 d0 a8 d1 j0 i1 d3 Z a0 c6 c8 j5 d4 d O d2 c4
 refine(callsIn_wide (n:=0)).1 ?_
 refine callsIn_of_wp func127 rfl trivial ?_
 simp only[ntmps127,List.size_toArray,List.length_cons,List.length_nil,Nat.reduceAdd,Nat.reduceSub,Array.replicate_succ,Array.replicate_zero,List.push_toArray,List.append_toArray,List.nil_append,List.cons_append]
 gi_wp2_with fail
 gi_loopw [16] (λ e3 wr=>∃ (j:Nat) (S:Nat->Prop),j<=L/\e3=.int .i64 j/\g5 (Bv P.ts p ((Aj cs).take j)) S wr/\Kp (λ i=>R i\/i=l) W wr) (λ e3 wr=>L-(intOf e3).toNat)
 case atStart=>exact ⟨0,S0,Nat.zero_le _,rfl,j9.o,Kr _ _⟩
 case round=>
  obtain⟨j,S,n1,rfl,a3,a5⟩:=hrel
  obtain⟨A,rfl⟩:∃ A:World,A=wr:=⟨_,rfl⟩
  have b4:=sE a3
  have a6:=sE a5
  by_cases hjl:j<L
  .have l9:(j:Int)<(L:Int):=by omega
   obtain⟨c,a2⟩:∃ c,(Aj cs)[j]?=some c:=by
    have:j<(Aj cs).length:=by have:=f1.o;unfold BK at this;rw [List.length_map] at this;omega
    exact⟨_,List.getElem?_eq_getElem this⟩
   have T:=AX.1 (List.mem_of_getElem? a2)
   have i9:(BK cs)[j]?=some c.g:=by unfold BK;rw [List.getElem?_map,a2];rfl
   have b2:=e8.o A a5
   obtain⟨n9,m2,c5⟩:=Cu b2.2.2.1 i9
   subst m2
   have Y:=a5.at_ e7.o f5.o
   have G:=cell_of_one Y
   obtain⟨Z,a0,c6,c7,c8⟩:=Cg b2.1
   have f6:Sl (∀ r,Kp Aa A r->_):=⟨λ r B=>SOf_one c P p f r ((b9.o A a5).Ac B) (U.o.ok c T.1) (U.o.hd c T.1) (by have:=(U.o.tl.mem T.1).2.1;have:=U.o.le;omega) (U.o.tl.mem T.1).2.2 T.2 m0⟩
   have j3:(Aj cs).take (j+1)=(Aj cs).take j++[c]:=by rw[List.take_add_one,a2];rfl
   have c0:Sl (Bv P.ts p ((Aj cs).take (j+1))=Bv P.ts p ((Aj cs).take j)++(BQ P.ts c).map λ s=>(c.g,s,p (2*c.g+1+s))):=⟨by rw[j3,refsW_add]⟩
   have b3:Sl (∀ (i:Nat) (s:Nat),(BQ P.ts c)[i]?=some s->∃ rest,Bv P.ts p (Aj cs)=(Bv P.ts p ((Aj cs).take j)++((BQ P.ts c).take i).map λ s=>(c.g,s,p (2*c.g+1+s)))++(c.g,s,p (2*c.g+1+s))::rest):=⟨λ i s u=>refsW_at a2 u⟩
   clear b2 Y T i9 j3 a2 a5 a3 c6 c8
   gi_wp2_with fail
   refine wpIn_wide.2 ?_
   refine wp_region_held_drew (S:=λ w'=>w'.cell? F=some (.pointer (some z))/\w'.cell? z=some (.pointer (some P.a))/\w'.cell? ⟨z,1,none⟩=some (.pointer (some P.t))) (by kernel_rfl) ?_ (λ j6=>?_)
   .exact ⟨G,Z,a0⟩
   refine Ap 0 ?_;refine Ap 1 ?_;refine Ap 2 ?_;refine Ap 3 ?_;refine Ap 4 ?_;refine Ap 5 ?_;refine Ap 6 ?_;refine Ap 7 ?_;refine Ap 8 ?_
   try simp only[AB]
   refine Bp [9] ?_
   refine Ag rfl (λ K hK=>?_)
   go_simp
   go_at_call 30
   (with_reducible refine(f6.o _ (Kr Aa A).drew).mono ?_)
   rintro e b1 ⟨b,k,wds,mm,⟨⟨C,d7⟩,j1,d5⟩,rfl,H,i8,j4⟩
   have N:Kp Aa A b1:=((Kr Aa A).drew).then' j4
   refine hK _ _ ?_ (λ j6=>?_)
   .exact ⟨Ae N G,Ae N Z,Ae N a0⟩
   clear hK K
   try simp only[AB]
   refine Ap 10 ?_;refine Ap 11 ?_;refine Ap 12 ?_;refine Ap 13 ?_;refine Ap 14 ?_
   try simp only[AB]
   refine wpAnyH_done (by kernel_rfl) ?_ _
   have b5:=sE N
   have g3:=sE H
   have e6:Sl (A.heap.size<=b):=⟨i8⟩
   have X:=sE (And.intro C (And.intro d7 d5))
   have f7:=sE (VRefs_at b P.a P.q P.n p c k wds mm b1 ((b9.o A a6.o).Ac N).ar H C d7 d5)
   have g1:Sl (∀ i,S i->i<A.heap.size):=⟨λ i u=>(i4 _ _ _ b4.o i u).2⟩
   rw[j1] at c0 b3
   obtain⟨rs,d9⟩:∃ rs,BP k wds mm (c.ln:Nat)=rs:=⟨_,rfl⟩
   have f9:=sE d9
   rw[d9] at c0 b3 f7
   clear j6 N j4 H i8 C d7 d5 j1 d9 G c5 Z a0 c7 f6
   gi_wp2_with fail
   refine⟨trivial,rfl,?_⟩
   refine(callsIn_wide.2 f7.o).mono ?_
   rintro e j8 ⟨o0,rfl,D,e1⟩
   obtain⟨ra,rc,rfl⟩:=Aq D
   have f8:=sE D
   have b6:Sl (Kp Aa A j8):=⟨b5.o.then' e1⟩
   have k8:=sE (g3.o.Ac e1)
   have n4:b<b1.heap.size:=lZ g3.o
   have n5:=b5.o.size
   have k2:=sE (i2 _ _ _ _ b4.o b6.o)
   have f4:Sl (∀ i,S i->¬ i=b/\¬ (Value.slice ra rs.length rc).ownBlock=some i):=⟨λ i u=>⟨by have:=g1.o i u;have:=e6.o;omega,λ d=>by have:=(Ad D d).1;have:=g1.o i u;omega⟩⟩
   obtain⟨M,a1⟩:∃ M,rs.length=M:=⟨_,rfl⟩
   rw[a1] at f4 f8
   have f3:=sE a1
   have n0:M<=65536:=by rw[<- a1,<- f9.o];exact Eh X.o.1
   have k4:Sl (Kp (λ i=>R i\/i=l) W j8):=⟨a6.o.trans b6.o (λ _ _ d=>d.elim)⟩
   try rw[a1]
   clear D e1 a1
   gi_wp2_with fail
   gi_loopw [38] (λ e4 wr=>∃ (i:Nat) (S:Nat->Prop),i<=M/\e4=.int .i64 (i:Nat)/\g5 (Bv P.ts p ((Aj cs).take j)++(rs.take i).map λ s=>(c.g,s,p (2*c.g+1+s))) S wr/\Kp (λ i=>R i\/i=l) W wr/\(∀ i,S i->¬ i=b/\¬ (Value.slice ra M rc).ownBlock=some i)/\wr.ownsRow b1.heap.size 3 1 (.slice ra M rc) M (Az rs)/\Ce wr b P.a c k wds mm) (λ e4 wr=>M-(intOf e4).toNat)
   case atStart=>exact ⟨0,S,Nat.zero_le _,rfl,by rw[List.take_zero,List.map_nil,List.append_nil];exact k2.o,k4.o,f4.o,f8.o,k8.o⟩
   case round=>
    obtain⟨i,S',u,rfl,a3,a4,i3,D,H⟩:=hrel
    have e9:=sE a3
    have f0:=sE a4
    have b7:=sE i3
    have k5:=sE D
    have k9:=sE H
    by_cases hil:i<M
    .have l8:(i:Int)<(M:Int):=by omega
     obtain⟨s,v⟩:∃ s,rs[i]?=some s:=⟨rs[i]'(by rw[f3.o];exact hil),by simp⟩
     obtain⟨j7,d8,c5⟩:=Cu D v
     subst d8
     have j2:(s:Int)<AZ k wds (c.ln:Nat):=refsT_mem X.o.1 (by rw[f9.o];exact List.mem_of_getElem? v)
     have f2:=sE (VLoad_yes s b P.a P.q P.n p c k wds mm wr (b9.o wr a4).ar H X.o.1 j2 (by have:=X.o.2.2;omega))
     obtain⟨rest,b8⟩:∃ rest,Sl (Bv P.ts p (Aj cs)=(Bv P.ts p ((Aj cs).take j)++(rs.take i).map λ s=>(c.g,s,p (2*c.g+1+s)))++(c.g,s,p (2*c.g+1+s))::rest):=by
      obtain⟨rest,d⟩:=b3.o i s v
      exact⟨rest,⟨d⟩⟩
     have g2:Sl ((Bv P.ts p ((Aj cs).take j)++(rs.take i).map λ s=>(c.g,s,p (2*c.g+1+s)))++[(c.g,s,p (2*c.g+1+s))]=Bv P.ts p ((Aj cs).take j)++(rs.take (i+1)).map λ s=>(c.g,s,p (2*c.g+1+s))):=⟨by
      rw[List.take_add_one,v,List.append_assoc,List.map_append];rfl⟩
     obtain⟨y,e0⟩:∃ y,p (2*c.g+1+s)=y:=⟨_,rfl⟩
     have l0:Sl (y<18446744073709551616):=⟨by rw[<- e0];exact g0.o.ar.fits _ (by have:=X.o.2.2;omega)⟩
     rw[e0] at f2 b8 g2
     have e5:=e8.o wr a4
     have Y:=a4.at_ e7.o f5.o
     have G:=cell_of_one Y
     have k7:Sl (∀ r,Kp Aa wr r->Calls prog 130 #[.pointer (some z),.int .u64 (y:Nat)] r λ l4 w'=>l4=.returned (.int .i64 (tgt cs y))/\w'=r):=⟨λ r B=>target_at P z m base E cs _ r (k0.o wr r e5 B) y l0.o⟩
     clear e5 Y a3 a4 i3 D H v j2 e0
     gi_wp2_with fail
     refine⟨trivial,rfl,?_⟩
     refine(callsIn_wide.2 f2.o).mono ?_
     rintro e o1 ⟨rfl,J⟩
     have l3:=J.cell G id
     clear G c5
     gi_wp2_with fail
     refine⟨trivial,rfl,?_⟩
     refine(callsIn_wide.2 (k7.o _ J)).mono ?_
     rintro e m6 ⟨rfl,rfl⟩
     have c1:=i2 _ _ _ _ e9.o J
     have l1:=sE (l7 _ S' _ rest m6 b8.o c1)
     have k6:Sl (∀ i,S' i->(R i\/W.heap.size<=i)):=⟨λ i u=>(i4 _ _ _ c1 i u).1⟩
     have a7:=sE (Af k5.o J (λ _ _ d=>d))
     have g4:=sE (k9.o.Ac J)
     have k3:=sE (f0.o.trans J (λ _ _ d=>d.elim))
     clear c1 J l3
     gi_wp2_with fail
     refine En l1.o rfl ?_
     intro l2 m7 l5
     rcases l5 with ⟨rfl,C,g9,i6,i5⟩|⟨rfl,l6⟩
     .have d8:=Ad a7.o (b:=j7) rfl
      have m3:=lZ g4.o
      have g8:=Af a7.o C (λ l2 i7 v=>by
       rcases v with v|v
       .exact (b7.o _ v).2 i7
       .have:=(Ad a7.o i7).1;have:=b6.o.size;have:=b5.o.size;have:=a6.o.size;omega)
      have i0:=g4.o.keep C (λ v=>by
       rcases v with v|v
       .exact (b7.o _ v).1 rfl
       .have:=e6.o;have:=a6.o.size;omega)
      have g6:=k3.o.trans C (λ i u d=>by
       rcases d with d|d
       .rcases k6.o i d with d|d
        .exact .inl d
        .omega
       .exact .inr d)
      have g7:∀ i,g9 i->¬ i=b/\¬ (Value.slice (some ⟨j7,0,none⟩) M rc).ownBlock=some i:=λ i u=>by
       rcases i5 i u with h'|h'
       .exact b7.o i h'
       .exact ⟨by omega,λ d=>by have:=(Ad a7.o d).2;omega⟩
      have V:=sE (And.intro i6 (And.intro g6 (And.intro g7 (And.intro g8 i0))))
      clear i6 g6 g8 i0 g7 i5 C d8 m3
      gi_wp2_with fail
      exact⟨⟨i+1,g9,by omega,by go_num,by rw[<- g2.o];exact V.o.1,V.o.2.1,V.o.2.2.1,V.o.2.2.2.1,V.o.2.2.2.2⟩,by simp only[intOf];omega⟩
     .gi_wp2_with fail
      refine bodyPost_ret (results_none rfl _ _ _) rfl ?_
      exact⟨⟨_,rfl⟩,.inr ⟨_,⟨_,by rw[List.append_assoc];exact b8.o.symm⟩,l6⟩⟩
    .have l8:¬ (i:Int)<(M:Int):=by omega
     obtain rfl:i=M:=by omega
     gi_wp2_with fail
     exact⟨⟨j+1,S',by omega,by go_num,by have:=e9.o;rw [show rs.take i=rs from List.take_of_length_le (by have:=f3.o;omega)] at this;rw [c0.o];exact this,f0.o⟩,by simp only[intOf];omega⟩
  .have l9:¬ (j:Int)<(L:Int):=by omega
   gi_wp2_with fail
   go_end0
   exact⟨⟨_,rfl⟩,.inl ⟨S,by
    have:=b4.o
    rwa [List.take_of_length_le (by have:=f1.o;unfold BK at this;rw [List.length_map] at this;omega)] at this⟩⟩

end

section
open Go.RowKit
attribute [local go_sem] Oper.semAt_some

def Eu(cs:List Cel)(x:Nat×Nat×Nat):List (Nat×Nat×Nat):=if 0<=tgt cs x.2.2 then [(x.1,x.2.1,(tgt cs x.2.2).toNat)] else []

def A9(cs:List Cel)(xs:List (Nat×Nat×Nat)):List (Nat×Nat×Nat):=xs.flatMap (Eu cs)

def AP(ts:List TypR)(W:Nat->Nat)(cs:List Cel):List (Nat×Nat×Nat):=A9 cs (Bv ts W (Aj cs))

def Bt(es:List (Nat×Nat×Nat)):List Value:=es.flatMap λ e=>[e.1,e.2.1,e.2.2]

theorem ER(xs a:List (Nat×Nat×Nat)):Bt (xs++a)=Bt xs++Bt a:=by simp[Bt]

theorem flatE_at:∀ (xs:List (Nat×Nat×Nat)) (i:Nat) (x:Nat×Nat×Nat),xs[i]?=some x->(Bt xs)[i*3]?=some (.int .i64 x.1)/\(Bt xs)[i*3+1]?=some (.int .i64 x.2.1)/\(Bt xs)[i*3+2]?=some (.int .i64 x.2.2)
 |y::xs,0,x,h=>by
  simp at h
  subst h
  exact⟨rfl,rfl,rfl⟩
 |y::xs,i+1,x,h=>by
  have a:xs[i]?=some x:=by simpa using h
  obtain⟨b,c,d⟩:=flatE_at xs i x a
  rw[show (i+1)*3=(i*3+1+1+1) by omega]
  exact⟨b,c,d⟩

theorem edgesP_add(cs:List Cel)(xs:List (Nat×Nat×Nat))(x:Nat×Nat×Nat):A9 cs (xs++[x])=A9 cs xs++Eu cs x:=by simp[A9]

theorem Dv(cs:List Cel):∀ (xs:List (Nat×Nat×Nat)),(A9 cs xs).length<=xs.length
 |[]=>Nat.le_refl _
 |x::xs=>by
  have h:=Dv cs xs
  have e:A9 cs (x::xs)=Eu cs x++A9 cs xs:=rfl
  rw[e,List.length_append]
  have:(Eu cs x).length<=1:=by unfold Eu;split <;> simp
  simp only[List.length_cons]
  omega

theorem refsC_len{ts:List TypR}{c:Cel}(b:Di ts c)(d:c.tag=1):(BQ ts c).length<=65536:=by
 unfold BQ
 cases h:typeOf ts (c.ty:Nat) with
 |none=>simp
 |some x=>
  refine Eh ?_
  obtain⟨a,e⟩:=b.2 d
  unfold AV at a
  rw[h] at a
  exact a

theorem refsW_len{ts:List TypR}{W:Nat->Nat}:∀ {xs:List Cel},(∀ c∈xs,Di ts c/\c.tag=1)->(Bv ts W xs).length<=xs.length*65536
 |[],_=>Nat.le_refl _
 |c::xs,h=>by
  have b:=refsW_len (W:=W) (λ c a=>h c (List.mem_cons_of_mem _ a))
  have d:=refsC_len (h c List.mem_cons_self).1 (h c List.mem_cons_self).2
  have e:Bv ts W (c::xs)=(BQ ts c).map (λ s=>(c.g,s,W (2*c.g+1+s)))++Bv ts W xs:=rfl
  rw[e,List.length_append,List.length_map]
  simp only[List.length_cons]
  omega

theorem CellsTo.F8{P:Sp}{W:Nat->Nat}{cs:List Cel}{d:Nat}(a:CellsTo P W cs d)(j:P.n<=65536):(Bv P.ts W (Aj cs)).length<=2147483648:=by
 have e:=refsW_len (ts:=P.ts) (W:=W) (xs:=Aj cs) (λ c b=>⟨a.ok c (AX.1 b).1,(AX.1 b).2⟩)
 have f:(Aj cs).length<=cs.length:=List.length_filter_le _ _
 have g:=BG a.tl
 have i:=a.le
 omega

theorem EB:prog.underlying 47=some (.slice 70):=by kernel_rfl

theorem infoEdge:(prog.info? 70).map (λ i=>(i.zero,i.size,i.bytes))=some (some (.agg #[(0:Int),(0:Int),(0:Int)]),3,24):=by kernel_rfl

def EdgI(cs:List Cel)(rv:Nat)(wl:World)(pre:List (Nat×Nat×Nat))(S:Nat->Prop)(W':World):Prop:=
 ∃ v,W'.heap[rv]?=some (.cells #[v] 47 (0,0))/\W'.ownsRow (wl.heap.size+2) 70 3 v (A9 cs pre).length (Bt (A9 cs pre))/\(S=λ k=>k=rv\/v.ownBlock=some k)/\Kp (λ k=>k=rv) wl W'

set_option maxRecDepth 20000 in
theorem Edges_at(P:Sp)(W:Nat->Nat)(f:Nat->Bool)(cs:List Cel)(w:World)(d:SpaceAt w P W f)(b0:CellsAt P W cs)(f4:∀ x∈P.ts,x.m<18446744073709551616):
  Calls prog 29 #[.pointer (some P.s)] w λ e w'=>∃ v,e=.returned v/\w'.ownsRow w.heap.size 70 3 v (AP P.ts W cs).length (Bt (AP P.ts W cs))/\Kp Aa w w':=by
 have c8:=sE d
 have c5:=sE b0.to
 have g3:=d.lt
 have i6:=b0.to.F8 d.ar.small
 have d9:Sl (∀ w',Kp Aa w w'->Calls prog 31 #[.pointer (some P.s)] w' λ e c2=>e=.returned (.pointer (some P.a))/\c2=w'):=⟨λ w' b5=>FR P W f w' (d.Ac b5)⟩
 have e2:Sl (∀ w',Kp Aa w w'->Calls prog 32 #[.pointer (some P.s)] w' λ e c2=>e=.returned (.pointer (some P.t))/\c2=w'):=⟨λ w' b5=>STable_at P W f w' (d.Ac b5)⟩
 clear d b0
 refine(callsIn_wide (n:=0)).1 ?_
 refine callsIn_of_wp_marks func29 rfl trivial ?_
 simp only[ntmps29,List.size_toArray,List.length_cons,List.length_nil,Nat.reduceAdd,Nat.reduceSub,Array.replicate_succ,Array.replicate_zero,List.push_toArray,List.append_toArray,List.nil_append,List.cons_append]
 gi_wp2_with fail
 refine⟨trivial,rfl,?_⟩
 obtain⟨w1,L⟩:∃ w1,w1=w.alloc (.cells #[.slice none 0 0] 47):=⟨_,rfl⟩
 rw[<- L]
 have a0:Kp Aa w w1:=by rw[L];exact (Kr _ w).alloc _
 have c3:w1.heap.size=w.heap.size+1:=by rw[L];simp
 have d0:w1.heap[w.heap.size]?=some (.cells #[.slice none 0 0] 47 (0,0)):=by rw[L];exact wN w _
 clear L
 refine(callsIn_wide.2 (d9.o w1 a0)).mono ?_
 rintro e w2 ⟨rfl,rfl⟩
 gi_wp2_with fail
 refine⟨trivial,rfl,?_⟩
 refine(callsIn_wide.2 (e2.o _ a0)).mono ?_
 rintro e w2 ⟨rfl,rfl⟩
 gi_wp2_with fail
 refine⟨trivial,rfl,?_⟩
 refine(callsIn_wide.2 (through_to P W f cs (P.n/2) _ (c8.o.Ac a0) c5.o)).mono ?_
 rintro e A ⟨rfl,⟨a3,I⟩,b3⟩
 gi_wp2_with fail
 refine⟨trivial,rfl,?_⟩
 refine(callsIn_wide.2 (grefs_fn (w.heap.size+1+1) A)).mono ?_
 rintro e wl ⟨rfl,Z⟩
 obtain⟨q,d1⟩:∃ q,w.heap.size=q:=⟨_,rfl⟩
 have d6:=b3.size
 have g1:wl.heap.size=A.heap.size+1:=by rw[<- Z];simp
 have b6:Kp Aa A wl:=by rw[<- Z];exact (Kr _ A).alloc _
 have U:wl.heap[A.heap.size]?=some (.cells #[.pointer (some ⟨w.heap.size+1+1,0,none⟩)] 148 (0,0)):=by rw[<- Z];exact wN A _
 clear Z
 have c9:Kp Aa w wl:=(a0.then' b3).then' b6
 have a9:=(b3.then' b6).at_ d0 id
 have d7:∀ l n,n=w.heap.size+1->Da l P (n+1) n n cs (P.n/2) a3->Da l P (w.heap.size+1+1) (w.heap.size+1) (w.heap.size+1) cs (P.n/2) a3:=λ l n f5 d=>by rw[f5] at d;exact d
 replace I:=d7 _ _ c3 I
 have a6:=I.keep b6 id id (λ _ _ d=>d)
 have a2:∀ b,a3.ownBlock=some b->w.heap.size+1<=b/\b<A.heap.size:=λ b j=>by
  obtain⟨-,-,e6,-⟩:=I
  have:=Ad e6 j
  omega
 have b7:w.heap.size+1+1<A.heap.size:=lZ I.1
 rw[d1] at U a9 c3 a2 b7 a6
 clear I d0 d7
 gi_wp2_with fail
 try rw[d1]
 obtain⟨N,e7⟩:∃ N,A.heap.size=N:=⟨_,rfl⟩
 rw[e7] at U d6 g1 a2 b7 ⊢
 rw[c3] at d6
 refine wpIn_range4 (n:=0) (gf:=127) (lb:=#[.pointer (some ⟨N,0,none⟩)]) rfl (enters_of func127 (by kernel_rfl) rfl)
  (grefs_iter4 P W f cs (P.n/2) N (q+1+1) (q+1) (q+1) a3 wl (c8.o.Ac c9) c5.o f4 a6 U (R:=λ i=>i=q) (λ i r=>by
   subst r
   exact⟨by omega,by omega,by omega,by omega,λ d=>by have:=a2 _ d;omega,λ d=>by have:=g3 _ d;omega⟩)) (λ i r=>r.elim) (λ i r=>by omega)
  (X:=λ _=>False) (λ i r=>r.elim) (λ _=>rfl)
  (λ p S l=>EdgI cs q wl p S l) (λ c p l=>False) (λ i=>i=q\/(Value.slice none 0 0).ownBlock=some i) ?hS ?hI ?hIx ?h0 ?hround ?hdone ?hstop
 case hS=>
  rintro p S c4 ⟨v,B,C,rfl,E⟩ i r
  rcases r with r|r
  .exact ⟨.inl r,by have:=lZ B;omega⟩
  .have:=Ad C r
   exact⟨.inr this.1,this.2⟩
 case hI=>
  rintro p S c4 g6 ⟨v,B,C,H,E⟩ V
  exact⟨v,V.at_ B (λ d=>by rcases d with d|d|d;exact d;omega;omega),Af C V (λ b j d=>by have:=Ad C j;rcases d with d|d|d;exact d;omega;omega),H,
   E.trans V (λ b j d=>by rcases d with d|d|d;exact d.elim;omega;omega)⟩
 case hIx=>exact λ c p c4 q d V=>d
 case h0=>exact ⟨_,a9,World.ownsRow_nil wl _ _ _,rfl,Kr _ _⟩
 case hround=>
  rintro p S x rest l d5 ⟨v,B,C,H,E⟩ f7
  have i5:p.length+1<=2147483648:=by
   have:(Bv P.ts W (Aj cs)).length=p.length+(rest.length+1):=by rw[d5];simp
   omega
  have i2:(A9 cs p).length<=p.length:=Dv cs p
  obtain⟨M,xs,y⟩:=x
  obtain⟨z,b2⟩:∃ z,tgt cs y=z:=⟨_,rfl⟩
  have Q:Sl (A9 cs (p++[(M,xs,y)])=A9 cs p++(if 0<=z then [(M,xs,z.toNat)] else [])):=⟨by rw[edgesP_add,Eu,b2]⟩
  unfold edgeV
  dsimp only
  rw[b2]
  clear b2 d5 U a9 a6 a2 b7
  gi_wp2_with fail
  refine⟨((Kr Aa l).alloc _).Aw _,?_⟩
  intro D f0 f1 K d3 f6
  have a1:Kp Aa l (l.alloc (.cells #[M,xs,.int .i64 z] 70)):=(Kr _ l).alloc _
  have i8:=lZ B
  have b8:(D).ownsRow (wl.heap.size+2) 70 3 v (A9 cs p).length (Bt (A9 cs p)):=Af (Af C a1 (λ _ _ d=>d)) K (λ b j d=>by have:=Ad C j;omega)
  have a4:=K.at_ (a1.at_ B id) (by omega)
  have rc:=K.at_ (wN l (.cells #[M,xs,.int .i64 z] 70)) (by omega)
  have c0:=cell_of_one a4
  have e5:=free_of_one a4
  obtain⟨g8,g9,i0⟩:=cells3 rc
  have c7:=sE a4
  have a8:=sE b8
  have O:=sE E
  have c6:Sl (Kp (λ k=>k=wl.heap.size+1) l D):=⟨(a1.Aw _).trans K (λ b j d=>d)⟩
  have g5:D.heap.size=l.heap.size+1:=by rw[d3];simp
  have i9:q<D.heap.size:=by omega
  have e0:Sl (¬ v.ownBlock=some q):=⟨λ e=>by have:=Ad b8 e;omega⟩
  have J:=sE H
  have i7:wl.heap.size+2<=D.heap.size:=by omega
  have lc:l.heap.size<D.heap.size:=by omega
  clear a4 b8 C E f0 f1 B H K d3 rc a1 f6 g5
  by_cases h0:0<=z
  .obtain ⟨n,rfl⟩:=Int.eq_ofNat_of_zero_le h0
   have g4:decide ((0:Int)<=(n:Int))=true:=dT h0
   rw[if_pos h0,Int.toNat_natCast] at Q
   clear h0
   obtain⟨g2,r,f8,f9,g0⟩:=info_parts infoEdge
   refine wpIn_block ?_
   refine wpIn_seq ?_
   refine wpIn_region_lit ?_
   refine Bq (λ _ _ d=>d) _ _ _ (by kernel_rfl) ?_
   go_wp2_with fail
   refine wpIn_cond_true rfl ?_
   refine wpIn_region_lit ?_
   refine Bq (λ _ _ d=>d) _ _ _ (by kernel_rfl) ?_
   go_wp2_with (at_builtin;go_loud (refine wpList_append_lies _ rfl (.tmp 17) (.tmp 19) 47 rfl (wl.heap.size+2) 70 g2 _ 3 24 EB r f8 f9 g0 rfl (by omega) v (A9 cs p).length (Bt (A9 cs p)) rfl (a8.o.alloc _) ⟨D.heap.size,0,none⟩ 1 1 [M,xs,.int .i64 (n:Nat)] rfl rfl (World.news_of_block (wN D _)) (by intro u d4;simp at d4;rcases d4 with rfl|rfl|rfl <;> rfl) (by omega) (by unfold maxLen;omega) (by omega) (by simp;omega) _ rfl ?_);intro g cap A d2 f3 e9 i3;have T:Kp (λ b=>v.ownBlock=some b) D A:=((Kr Aa D).alloc _ |>.Aw _).grown f3 (λ k e _=>e);have a5:=T.at_ c7.o e0.o;have g7:=cell_of_one a5;have i1:=free_of_one a5;have e1:=sE a5;clear a5)
   have F:Kp (λ b=>b=q) A (A.setCell ⟨q,0,none⟩ (.slice (some ⟨g,0,none⟩) ((A9 cs p).length+1) cap)):=(Kr (λ b=>b=q) A).setCell (λ _=>rfl) _
   have j0:=T.size
   refine⟨((T.mono λ b j d=>by rw[J.o];exact .inr d).trans F (λ b j d=>by rw[J.o];exact .inl d)),_,⟨.slice (some ⟨g,0,none⟩) ((A9 cs p).length+1) cap,one_setCell e1.o,?_,rfl,?_⟩,?_⟩
   .rw [Q.o,ER,List.length_append]
    exact Af d2 F (λ b j d=>by have:=Ad d2 j;omega)
   .exact ((O.o.trans c6.o (λ b j d=>by omega)).trans T (λ b j d=>by have:=Ad a8.o d;omega)).trans F (λ b j d=>d)
   .rintro i (b1|b1)
    .exact .inl (by rw[J.o];exact .inl b1)
    .have f2:g=i:=by simpa [Value.ownBlock] using b1
     subst f2
     rcases e9 with d|d
     .exact .inl (by rw[J.o];exact .inr d)
     .right
      rw[d]
      simp
  .have g4:decide ((0:Int)<=z)=false:=dF h0
   rw[if_neg h0,List.append_nil] at Q
   clear h0
   gi_wp2_with fail
   refine⟨Kr _ D,S,⟨v,c7.o,by rw[Q.o];exact a8.o,J.o,O.o.trans c6.o (λ i r d=>by omega)⟩,λ i r=>.inl r⟩
 case hdone=>
  rintro S l ⟨v,B,C,H,E⟩ f7 e8
  obtain⟨b9,c1,rfl⟩:=Aq C
  have c0:=cell_of_one B
  have e5:=free_of_one B
  have d8:=sE B
  have a7:=sE C
  have O:=sE E
  clear B C H E
  gi_wp2_with fail
  obtain⟨G,Y⟩:∃ G,G=l.setCell ⟨q,0,none⟩ (.slice b9 (A9 cs (Bv P.ts W (Aj cs))).length c1):=⟨_,rfl⟩
  rw[<- Y]
  have F:Kp (λ b=>b=q) l G:=by rw[Y];exact (Kr (λ b=>b=q) l).setCell (λ _=>rfl) _
  have e3:G.heap[q]?=some (.cells #[.slice b9 (A9 cs (Bv P.ts W (Aj cs))).length c1] 47 (0,0)):=by rw[Y];exact one_setCell d8.o
  clear Y
  refine⟨by simp,.inl ⟨_,_,rfl,run_takeDeferred (F.at_ e8 (by omega)),?_⟩⟩
  have b4:Kp (λ b=>b=wl.heap.size) G (G.putObj wl.heap.size (.deferred none)):=(Kr (λ b=>b=wl.heap.size) G).putObj (λ _=>rfl) _
  have e4:=cell_of_one (b4.at_ e3 (by omega))
  refine⟨.slice b9 (A9 cs (Bv P.ts W (Aj cs))).length c1,by simp[results,results29,go_sem,e4],_,rfl,?_,?_⟩
  .refine Cq (Af (Af a7.o F (λ b j d=>?_)) b4 (λ b j d=>?_)) (by omega)
   .have:=Ad a7.o j;omega
   .have:=Ad a7.o j;omega
  .exact (((c9.trans O.o (λ b j d=>by omega)).trans F (λ b j d=>by omega)).trans b4 (λ b j d=>by omega))
 case hstop=>exact λ c p l i4 d=>d.elim

end

end Go.Proofs.YtfkedlgpgmaemaaGreatDoor
