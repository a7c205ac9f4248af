/-
  Lemmas for the laws, together: Bits1.
-/
import Derived.Test.YtmfajopmppfldaaGreatDoorProg
import Derived.Test.YtmfajopmppfldaaGreatDoorQaa
set_option linter.unusedVariables false
set_option maxHeartbeats 16000000
namespace Go.Proofs.YtmfajopmppfldaaGreatDoor
open Tryz
section
open Go.RowKit
attribute [local go_sem] Oper.semAt_some

def pcsF:Nat->Nat->Nat->List (Nat×Nat×Nat)
 |0,_,_=>[]
 |f+1,i,n=>if n=0 then [] else (i/64,i%64,min n (64-i%64))::pcsF f (i+min n (64-i%64)) (n-min n (64-i%64))
def pcs(i n:Nat):List (Nat×Nat×Nat):=pcsF n i n

theorem pcsF_more:∀ (f g i n:Nat),n<=f->n<=g->pcsF f i n=pcsF g i n
 |0,0,_,_,_,_=>rfl
 |0,g+1,i,n,h,_=>by simp only[pcsF];rw [if_pos (by omega)]
 |f+1,0,i,n,_,h=>by simp only[pcsF];rw [if_pos (by omega)]
 |f+1,g+1,i,n,h,k=>by
  simp only[pcsF]
  by_cases h0:n=0
  .rw [if_pos h0,if_pos h0]
  .rw [if_neg h0,if_neg h0,pcsF_more f g _ _ (by omega) (by omega)]

theorem pcs_nil(i:Nat):pcs i 0=[]:=rfl
theorem FI(i n:Nat)(h:0<n):pcs i n=(i/64,i%64,min n (64-i%64))::pcs (i+min n (64-i%64)) (n-min n (64-i%64)):=by
 obtain⟨f,rfl⟩:∃ f,n=f+1:=⟨n-1,by omega⟩
 unfold pcs
 rw[pcsF,if_neg (by omega),pcsF_more f _ _ _ (by omega) (Nat.le_refl _)]

def pmk(b k:Nat):Nat:=(2 ^ k-1)*2 ^ b

def pieceV(x:Nat×Nat×Nat):Array Value:=#[.agg #[.int .i64 (x.1:Nat),.int .i64 (x.2.1:Nat),.int .u64 (pmk x.2.1 x.2.2:Nat)]]

theorem mask_walk{k b:Nat}(hk:k<64)(hb:b+k<=64):IntKind.u64.wrap (IntKind.u64.wrap (IntKind.u64.wrap ((2:Int) ^ k)-1)*2 ^ b)=((pmk b k:Nat):Int):=by
 have h1:=Wd.mask_lt (at_:=b) (n:=k) hb
 rw[Wd.Fu] at h1
 have h2:(2:Nat) ^ k<18446744073709551616:=by
  have:=Nat.pow_lt_pow_right (a:=2) (by decide) hk
  rwa [Wd.Fu] at this
 have h3:=Nat.two_pow_pos k
 have e1:((2:Int) ^ k)=((2 ^ k:Nat):Int):=by simp
 rw[e1,wrap_of (n:=((2 ^ k:Nat):Int)) (by omega) (by omega),wrap_of (n:=((2 ^ k:Nat):Int)-1) (by omega) (by omega)]
 have e2:(((2 ^ k:Nat):Int)-1)*2 ^ b=(((2 ^ k-1)*2 ^ b:Nat):Int):=by
  rw[Int.natCast_mul,Int.natCast_sub h3];simp
 rw[e2,wrap_of (by omega) (by omega)];rfl

theorem full_int{j:Nat}(h:j%64=0):IntKind.u64.wrap ((18446744073709551615:Int)*2 ^ (j%64))=18446744073709551615:=by
 rw[h,Int.pow_zero,Int.mul_one,wrap_of (by omega) (by omega)]

theorem full_nat{j:Nat}(h:j%64=0):((pmk (j%64) 64:Nat):Int)=18446744073709551615:=by
 rw[h];decide +kernel

theorem at_any(i:Int)(w:World)(h0:0<=i)(h1:i<9223372036854775808):
  Calls prog 108 #[.int .i64 i] w λ e w'=>e=.returned (.agg #[.int .i64 (i/64),.int .i64 (i%64)])/\w.alloc (.cells #[.int .i64 (i/64),.int .i64 (i%64)] 193)=w':=by
 go_enter func108,ntmps108
 go_wp2
 exact bodyPost_ret (v:=.agg #[.int .i64 (i/64),.int .i64 (i%64)]) (by simp[results,results108,go_sem]) rfl ⟨rfl,rfl⟩

theorem pieces_any(i n:Int)(w:World):
  Calls prog 116 #[.int .i64 i,.int .i64 n] w λ e w'=>
   e=.returned (.func (.func 150) #[] #[.pointer (some ⟨w.heap.size+1,0,none⟩),.pointer (some ⟨w.heap.size,0,none⟩)])/\
   (w.alloc (.cells #[.int .i64 i] 3)).alloc (.cells #[.int .i64 n] 3)=w':=by
 have hmf:∀ (fn:Fn) (first cap:Array Value) (w:World),(Instr.makeFunc fn first cap).run prog w=.ok (.func fn first cap) w:=λ _ _ _ _=>rfl
 go_enter func116,ntmps116
 go_wp2
 go_ret
 exact⟨rfl,rfl⟩

theorem EF{i n j m K:Nat}{pre:List (Nat×Nat×Nat)}{J:List (Nat×Nat×Nat)->World->Prop}{W wr B:World}{bn bi:Nat}{x y:Int}
  (hx:pcs i n=pre++pcs j m) (hx':pcs j m=(j/64,j%64,K)::pcs (j+K) (m-K)) (hjm:j+m=i+n) (h1:0<K) (h2:K<=m) (hne:bn≠bi) (hs:W.heap.size<=wr.heap.size) (hsB:wr.heap.size+1+1<=B.heap.size)
  (hJ:∀ (pre:List (Nat×Nat×Nat)) (A B:World),J pre A->Kp (λ k=>k=bn\/k=bi) A B->J pre B) (hT:J (pre++[(j/64,j%64,K)]) B)
  (gnB:B.heap[bn]?=some (.cells #[.int .i64 (m:Nat)] 3 (0,0))) (giB:B.heap[bi]?=some (.cells #[.int .i64 (j:Nat)] 3 (0,0))) (cn:wr.cell? ⟨bn,0,none⟩=some (.int .i64 (m:Nat)))
  (ex:x=(j:Int)+K) (ey:y=(m:Int)-K):
  (∃ (pre:List (Nat×Nat×Nat)) (j m:Nat),pcs i n=pre++pcs j m/\j+m=i+n/\J pre (((B.setCell ⟨bi,0,none⟩ (.int .i64 x)).setCell ⟨bn,0,none⟩ (.int .i64 y)).drew)/\
   (((B.setCell ⟨bi,0,none⟩ (.int .i64 x)).setCell ⟨bn,0,none⟩ (.int .i64 y)).drew).heap[bn]?=some (.cells #[.int .i64 (m:Nat)] 3 (0,0))/\
   (((B.setCell ⟨bi,0,none⟩ (.int .i64 x)).setCell ⟨bn,0,none⟩ (.int .i64 y)).drew).heap[bi]?=some (.cells #[.int .i64 (j:Nat)] 3 (0,0))/\
   W.heap.size<=(((B.setCell ⟨bi,0,none⟩ (.int .i64 x)).setCell ⟨bn,0,none⟩ (.int .i64 y)).drew).heap.size)/\
  (intOf (((((B.setCell ⟨bi,0,none⟩ (.int .i64 x)).setCell ⟨bn,0,none⟩ (.int .i64 y)).drew).cell? ⟨bn,0,none⟩).getD undef)).toNat<(intOf ((wr.cell? ⟨bn,0,none⟩).getD undef)).toNat:=by
 have en:y=((m-K:Nat):Int):=by omega
 have ei:x=((j+K:Nat):Int):=by omega
 subst en ei
 have g1:=one_setCell (u:=.int .i64 ((j+K:Nat):Int)) giB
 have g2:(B.setCell ⟨bi,0,none⟩ (.int .i64 ((j+K:Nat):Int))).heap[bn]?=some (.cells #[.int .i64 (m:Nat)] 3 (0,0)):=(Below.heap_setCell _ _ _ _ hne).trans gnB
 have g3:=one_setCell (u:=.int .i64 ((m-K:Nat):Int)) g2
 have g4:((B.setCell ⟨bi,0,none⟩ (.int .i64 ((j+K:Nat):Int))).setCell ⟨bn,0,none⟩ (.int .i64 ((m-K:Nat):Int))).heap[bi]?=some (.cells #[.int .i64 ((j+K:Nat):Int)] 3 (0,0)):=(Below.heap_setCell _ _ _ _ (λ h=>hne h.symm)).trans g1
 refine⟨⟨pre++[(j/64,j%64,K)],j+K,m-K,by rw[hx,hx',List.append_assoc];rfl,by omega,?_,g3,g4,?_⟩,?_⟩
 .exact hJ _ _ _ hT ((((Kr _ B).setCell (λ _=>.inr rfl) _).setCell (λ _=>.inl rfl) _).drew)
 .show W.heap.size<=((B.setCell _ _).setCell _ _).heap.size
  simp only[World.setCell,Array.size_modify];omega
 .rw [show ((((B.setCell ⟨bi,0,none⟩ (.int .i64 ((j+K:Nat):Int))).setCell ⟨bn,0,none⟩ (.int .i64 ((m-K:Nat):Int))).drew).cell? ⟨bn,0,none⟩)=some (.int .i64 ((m-K:Nat):Int)) from cell_of_one g3,cn]
  simp only[Option.getD_some,intOf]
  omega

theorem pieces_iter{i n:Nat}{w:World}(hi:i+n<=65536)(bn bi:Nat)(hbn:w.heap[bn]?=some (.cells #[.int .i64 (n:Nat)] 3 (0,0)))(hbi:w.heap[bi]?=some (.cells #[.int .i64 (i:Nat)] 3 (0,0)))(hne:bn≠bi)
  {R:Nat->Prop} (hR:∀ k,R k->k<w.heap.size/\k≠bn/\k≠bi):
  IterAt prog 150 #[.pointer (some ⟨bn,0,none⟩),.pointer (some ⟨bi,0,none⟩)] pieceV (pcs i n) (λ k=>k=bn\/k=bi) R w:=by
 intro l J Jx W hW hl1 hl2 hJ hJx hY h0
 have lbn:=(Array.getElem?_eq_some_iff.1 hbn).1
 have lbi:=(Array.getElem?_eq_some_iff.1 hbi).1
 have gbn:=hW.at_ hbn (λ h=>h)
 have gbi:=hW.at_ hbi (λ h=>h)
 have hsz:=hW.size
 refine(callsIn_wide (n:=0)).1 ?_
 refine callsIn_of_wp func150 rfl trivial ?_
 simp only[ntmps150,List.size_toArray,List.length_cons,List.length_nil,Nat.reduceAdd,Nat.reduceSub,Array.replicate_succ,Array.replicate_zero,List.push_toArray,List.append_toArray,List.nil_append,List.cons_append]
 gi_wp2
 gi_loopw [4,5] (λ _ _ wr=>∃ (pre:List (Nat×Nat×Nat)) (j m:Nat),pcs i n=pre++pcs j m/\j+m=i+n/\J pre wr/\
   wr.heap[bn]?=some (.cells #[.int .i64 (m:Nat)] 3 (0,0))/\wr.heap[bi]?=some (.cells #[.int .i64 (j:Nat)] 3 (0,0))/\W.heap.size<=wr.heap.size)
  (λ _ _ wr=>(intOf ((wr.cell? ⟨bn,0,none⟩).getD undef)).toNat)
 case atStart=>exact ⟨[],i,n,rfl,rfl,h0,gbn,gbi,Nat.le_refl _⟩
 case round=>
  obtain⟨pre,j,m,hx,hjm,hj,gn,gi,hs⟩:=hrel
  have cn:=cell_of_one gn
  have ci:=cell_of_one gi
  by_cases hm:m=0
  .subst hm
   gi_wp2
   go_end0
   exact⟨⟨_,rfl⟩,.inl (by rw[hx,pcs_nil,List.append_nil];exact hj)⟩
  .have hm':(0:Int)<m:=by omega
   have hj1:(j:Int)+m<=65536:=by omega
   have a0:bn<wr.heap.size:=by omega
   have a1:bn<wr.heap.size+1:=by omega
   have c0:bi<wr.heap.size:=by omega
   have c1:bi<wr.heap.size+1:=by omega
   have fn:=free_of_one gn
   have fi:=free_of_one gi
   by_cases hk:(64:Int)-(j:Int)%64<m
   .by_cases hb:(j:Int)%64=0
    .have hk':¬ (64:Int)-(j:Int)%64<64:=by omega
     gi_wp2_with fail
     refine⟨trivial,rfl,?_⟩
     refine(callsIn_wide.2 (at_any _ _ (by omega) (by omega))).mono ?_
     rintro e w' ⟨rfl,rfl⟩
     gi_wp2_with fail
     have hx':=FI j m (by omega)
     have hK:min m (64-j%64)=64:=by omega
     rw[hK] at hx'
     refine EI (hY pre _ _ _ (by rw[hx,hx']) (hJ _ _ _ hj (((Kr _ wr).alloc _).alloc _))) ?_ ?_ ?_
     .unfold pieceV
      have hb':j%64=0:=by omega
      rw[full_nat hb',show ((j%64:Nat):Int)=0 by omega];simp
     .intro B hC hT
      have gnB:=hC.at_ ((((Kr Ab wr).alloc _).alloc _).at_ gn (λ h=>h)) (λ h=>by rcases h with h|h;have:=hR _ h;omega;omega)
      have giB:=hC.at_ ((((Kr Ab wr).alloc _).alloc _).at_ gi (λ h=>h)) (λ h=>by rcases h with h|h;have:=hR _ h;omega;omega)
      have hsB:=hC.size
      simp only[World.size_alloc] at hsB
      have cnB:=cell_of_one gnB
      have ciB:=cell_of_one giB
      have fnB:=free_of_one gnB
      have fiB:=free_of_one giB
      gi_wp2_with fail
      refine wpIn_wide.2 ?_
      go_region
      all_goals
       go_wp2
       exact EF hx hx' hjm (by omega) (by omega) hne hs hsB hJ hT gnB giB cn (by omega) (by omega)
     .intro B hC hE
      gi_wp2_with fail
      refine bodyPost_ret (results_none rfl _ _ _) rfl ?_
      exact⟨⟨_,rfl⟩,.inr ⟨_,⟨_,by rw[hx,hx',List.append_assoc];rfl⟩,hE⟩⟩
    .have hk':(64:Int)-(j:Int)%64<64:=by omega
     gi_wp2_with fail
     refine⟨trivial,rfl,?_⟩
     refine(callsIn_wide.2 (at_any _ _ (by omega) (by omega))).mono ?_
     rintro e w' ⟨rfl,rfl⟩
     gi_wp2_with fail
     have hx':=FI j m (by omega)
     have hK:min m (64-j%64)=64-j%64:=by omega
     rw[hK] at hx'
     refine EI (hY pre _ _ _ (by rw[hx,hx']) (hJ _ _ _ hj (((Kr _ wr).alloc _).alloc _))) ?_ ?_ ?_
     .unfold pieceV
      rw[mask_walk (k:=64-j%64) (b:=j%64) (by omega) (by omega)];simp
     .intro B hC hT
      have gnB:=hC.at_ ((((Kr Ab wr).alloc _).alloc _).at_ gn (λ h=>h)) (λ h=>by rcases h with h|h;have:=hR _ h;omega;omega)
      have giB:=hC.at_ ((((Kr Ab wr).alloc _).alloc _).at_ gi (λ h=>h)) (λ h=>by rcases h with h|h;have:=hR _ h;omega;omega)
      have hsB:=hC.size
      simp only[World.size_alloc] at hsB
      have cnB:=cell_of_one gnB
      have ciB:=cell_of_one giB
      have fnB:=free_of_one gnB
      have fiB:=free_of_one giB
      gi_wp2_with fail
      refine wpIn_wide.2 ?_
      go_region
      all_goals
       go_wp2
       exact EF hx hx' hjm (by omega) (by omega) hne hs hsB hJ hT gnB giB cn (by omega) (by omega)
     .intro B hC hE
      gi_wp2_with fail
      refine bodyPost_ret (results_none rfl _ _ _) rfl ?_
      exact⟨⟨_,rfl⟩,.inr ⟨_,⟨_,by rw[hx,hx',List.append_assoc];rfl⟩,hE⟩⟩
   .by_cases hb:m<64
    .have hk':(m:Int)<64:=by omega
     gi_wp2_with fail
     refine⟨trivial,rfl,?_⟩
     refine(callsIn_wide.2 (at_any _ _ (by omega) (by omega))).mono ?_
     rintro e w' ⟨rfl,rfl⟩
     gi_wp2_with fail
     have hx':=FI j m (by omega)
     have hK:min m (64-j%64)=m:=by omega
     rw[hK] at hx'
     refine EI (hY pre _ _ _ (by rw[hx,hx']) (hJ _ _ _ hj (((Kr _ wr).alloc _).alloc _))) ?_ ?_ ?_
     .unfold pieceV
      rw[mask_walk (k:=m) (b:=j%64) (by omega) (by omega)];simp
     .intro B hC hT
      have gnB:=hC.at_ ((((Kr Ab wr).alloc _).alloc _).at_ gn (λ h=>h)) (λ h=>by rcases h with h|h;have:=hR _ h;omega;omega)
      have giB:=hC.at_ ((((Kr Ab wr).alloc _).alloc _).at_ gi (λ h=>h)) (λ h=>by rcases h with h|h;have:=hR _ h;omega;omega)
      have hsB:=hC.size
      simp only[World.size_alloc] at hsB
      have cnB:=cell_of_one gnB
      have ciB:=cell_of_one giB
      have fnB:=free_of_one gnB
      have fiB:=free_of_one giB
      gi_wp2_with fail
      refine wpIn_wide.2 ?_
      go_region
      all_goals
       go_wp2
       exact EF hx hx' hjm (by omega) (by omega) hne hs hsB hJ hT gnB giB cn (by omega) (by omega)
     .intro B hC hE
      gi_wp2_with fail
      refine bodyPost_ret (results_none rfl _ _ _) rfl ?_
      exact⟨⟨_,rfl⟩,.inr ⟨_,⟨_,by rw[hx,hx',List.append_assoc];rfl⟩,hE⟩⟩
    .have hk':¬ (m:Int)<64:=by omega
     gi_wp2_with fail
     refine⟨trivial,rfl,?_⟩
     refine(callsIn_wide.2 (at_any _ _ (by omega) (by omega))).mono ?_
     rintro e w' ⟨rfl,rfl⟩
     gi_wp2_with fail
     have hx':=FI j m (by omega)
     have hK:min m (64-j%64)=64:=by omega
     rw[hK] at hx'
     refine EI (hY pre _ _ _ (by rw[hx,hx']) (hJ _ _ _ hj (((Kr _ wr).alloc _).alloc _))) ?_ ?_ ?_
     .unfold pieceV
      have hb':j%64=0:=by omega
      rw[full_nat hb',full_int hb'];simp
     .intro B hC hT
      have gnB:=hC.at_ ((((Kr Ab wr).alloc _).alloc _).at_ gn (λ h=>h)) (λ h=>by rcases h with h|h;have:=hR _ h;omega;omega)
      have giB:=hC.at_ ((((Kr Ab wr).alloc _).alloc _).at_ gi (λ h=>h)) (λ h=>by rcases h with h|h;have:=hR _ h;omega;omega)
      have hsB:=hC.size
      simp only[World.size_alloc] at hsB
      have cnB:=cell_of_one gnB
      have ciB:=cell_of_one giB
      have fnB:=free_of_one gnB
      have fiB:=free_of_one giB
      gi_wp2_with fail
      refine wpIn_wide.2 ?_
      go_region
      all_goals
       go_wp2
       exact EF hx hx' hjm (by omega) (by omega) hne hs hsB hJ hT gnB giB cn (by omega) (by omega)
     .intro B hC hE
      gi_wp2_with fail
      refine bodyPost_ret (results_none rfl _ _ _) rfl ?_
      exact⟨⟨_,rfl⟩,.inr ⟨_,⟨_,by rw[hx,hx',List.append_assoc];rfl⟩,hE⟩⟩

end

section
open Go.RowKit

def bitOf(ws:List Nat)(i:Nat):Bool:=(ws.getD (i/64) 0).testBit (i%64)

structure WordsAt(w:World)(p q:Nat)(ws:List Nat)(n:Nat):Prop where
 hp:∃ cap,w.heap[p]?=some (.cells #[.slice (some ⟨q,0,none⟩) ws.length cap,.int .i64 (n:Nat)] 175 (0,0))
 hq:∃ cs,w.heap[q]?=some (.cells cs 55 (0,0))/\∀ j,j<ws.length->cs[j]?=some (.int .u64 (ws.getD j 0:Nat))
 len:ws.length=(n+63)/64
 small:n<=65536
 fits:∀ j,ws.getD j 0<18446744073709551616

def AJ(w:World)(p q:Nat)(f:Nat->Bool)(n:Nat):Prop:=∃ ws,WordsAt w p q ws n/\∀ i,i<n->bitOf ws i=f i

theorem WordsAt.keep{S:Nat->Prop}{w w':World}{p q n:Nat}{ws:List Nat}(h:WordsAt w p q ws n)(k:Kp S w w')(hp:¬ S p)(hq:¬ S q):WordsAt w' p q ws n:=by
 obtain⟨cap,h1⟩:=h.hp
 obtain⟨cs,h2,h3⟩:=h.hq
 exact⟨⟨cap,k.at_ h1 hp⟩,⟨cs,k.at_ h2 hq,h3⟩,h.len,h.small,h.fits⟩

theorem AJ.keep{S:Nat->Prop}{w w':World}{p q n:Nat}{f:Nat->Bool}(h:AJ w p q f n)(k:Kp S w w')(hp:¬ S p)(hq:¬ S q):AJ w' p q f n:=
 let ⟨ws,a,b⟩:=h;⟨ws,a.keep k hp hq,b⟩

theorem cell_of_two{w:World}{b:Nat}{u v:Value}{t:TypeId}(h:w.heap[b]?=some (.cells #[u,v] t (0,0))):w.cell? ⟨b,0,none⟩=some u/\w.cell? ⟨b,1,none⟩=some v:=by
 simp[World.cell?,h]

theorem Ae{w:World}{b:Nat}{cs:Array Value}{t:TypeId}(h:w.heap[b]?=some (.cells cs t (0,0)))(j:Nat):w.frozen? ⟨b,j,none⟩=false:=by simp[World.frozen?,h]

theorem lZ{w:World}{b:Nat}{o:Obj}(h:w.heap[b]?=some o):b<w.heap.size:=(Array.getElem?_eq_some_iff.1 h).1

theorem Bc(w:World)(o:Obj){k:Nat}(h:k=w.heap.size):(w.alloc o).heap[k]?=some o:=by subst h;exact wN w o

theorem WordsAt.lt_p{w:World}{p q n:Nat}{ws:List Nat}(h:WordsAt w p q ws n):p<w.heap.size:=by obtain⟨_,h⟩:=h.hp;exact lZ h
theorem WordsAt.lt_q{w:World}{p q n:Nat}{ws:List Nat}(h:WordsAt w p q ws n):q<w.heap.size:=by obtain⟨_,h,_⟩:=h.hq;exact lZ h
theorem WordsAt.ne{w:World}{p q n:Nat}{ws:List Nat}(h:WordsAt w p q ws n):p≠q:=by
 obtain⟨_,h1⟩:=h.hp
 obtain⟨_,h2,_⟩:=h.hq
 intro e;subst e;rw [h1] at h2;injection h2 with h2;injection h2 with _ h2 _;revert h2;decide

theorem WordsAt.reads{w:World}{p q n:Nat}{ws:List Nat}(h:WordsAt w p q ws n):
  (∃ cap,w.cell? ⟨p,0,none⟩=some (.slice (some ⟨q,0,none⟩) ws.length cap))/\w.cell? ⟨p,1,none⟩=some (.int .i64 (n:Nat))/\
  (∀ j,j<ws.length->w.cell? ⟨q,j,none⟩=some (.int .u64 (ws.getD j 0:Nat)))/\(∀ j,w.frozen? ⟨q,j,none⟩=false):=by
 obtain⟨cap,h1⟩:=h.hp
 obtain⟨cs,h2,h3⟩:=h.hq
 refine⟨⟨cap,(cell_of_two h1).1⟩,(cell_of_two h1).2,λ j hj=>?_,Ae h2⟩
 have:=h3 j hj
 simp only[World.cell?,h2];simpa using this

theorem WordsAt.word{w:World}{p q n:Nat}{ws:List Nat}(h:WordsAt w p q ws n)(j:Nat)(hj:j<ws.length):
  ∃ v:Nat,v<18446744073709551616/\w.cell? ⟨q,j,none⟩=some (.int .u64 (v:Nat))/\w.frozen? ⟨q,j,none⟩=false/\Sl (ws.getD j 0=v):=
 ⟨_,h.fits j,h.reads.2.2.1 j hj,h.reads.2.2.2 j,⟨rfl⟩⟩

theorem bZ{w:World}{b j:Nat}{cs:Array Value}{t:TypeId}(h:w.heap[b]?=some (.cells cs t (0,0)))(v:Value):(w.setCell ⟨b,j,none⟩ v).heap[b]?=some (.cells (cs.setIfInBounds j v) t (0,0)):=by
 have hlt:=lZ h
 have h':w.heap[b]=.cells cs t (0,0):=by simpa [Array.getElem?_eq_getElem hlt] using h
 show(w.heap.modify b _)[b]?=_
 rw[Array.getElem?_eq_getElem (by simpa using hlt),Array.getElem_modify_self,h']
 rfl

theorem WordsAt.store{w:World}{p q n:Nat}{ws:List Nat}(h:WordsAt w p q ws n){j v:Nat}(hj:j<ws.length)(hv:v<18446744073709551616):
  WordsAt (w.setCell ⟨q,j,none⟩ (.int .u64 (v:Nat))) p q (ws.set j v) n:=by
 obtain⟨cap,h1⟩:=h.hp
 obtain⟨cs,h2,h3⟩:=h.hq
 refine⟨⟨cap,?_⟩,⟨_,bZ h2 _,λ i hi=>?_⟩,by simpa using h.len,h.small,λ i=>?_⟩
 .rw [List.length_set];exact (Below.heap_setCell _ _ _ _ h.ne).trans h1
 .simp only[List.length_set] at hi
  rw[Array.getElem?_setIfInBounds,List.getD_eq_getElem?_getD,List.getElem?_set]
  by_cases e:j=i
  .subst e
   have hc:=h3 j hj
   have:j<cs.size:=(Array.getElem?_eq_some_iff.1 hc).1
   simp[this,hj]
  .simp only[e,if_false];rw [h3 i hi,List.getD_eq_getElem?_getD]
 .rw [List.getD_eq_getElem?_getD,List.getElem?_set]
  by_cases e:j=i
  .subst e;simp [hj,hv]
  .simp only[e,if_false];rw [<- List.getD_eq_getElem?_getD];exact h.fits i

theorem bitOf_set{ws:List Nat}{j v i:Nat}(hj:j<ws.length):bitOf (ws.set j v) i=if i/64=j then v.testBit (i%64) else bitOf ws i:=by
 unfold bitOf
 rw[List.getD_eq_getElem?_getD,List.getElem?_set]
 by_cases e:j=i/64
 .rw [if_pos e,if_pos e.symm,if_pos (by omega)];rfl
 .rw [if_neg e,if_neg (λ h=>e h.symm),<- List.getD_eq_getElem?_getD]

def inPcs(l:List (Nat×Nat×Nat))(i:Nat):Bool:=l.any λ x=>decide (x.1=i/64/\x.2.1<=i%64/\i%64<x.2.1+x.2.2)

theorem inPcs_nil(i:Nat):inPcs [] i=false:=rfl
theorem inPcs_snoc(l:List (Nat×Nat×Nat))(x:Nat×Nat×Nat)(i:Nat):inPcs (l++[x]) i=(inPcs l i||decide (x.1=i/64/\x.2.1<=i%64/\i%64<x.2.1+x.2.2)):=by
 simp[inPcs]

theorem inPcsF:∀ (f i n k:Nat),n<=f->inPcs (pcsF f i n) k=decide (i<=k/\k<i+n)
 |0,i,n,k,h=>by simp[pcsF,inPcs];omega
 |f+1,i,n,k,h=>by
  simp only[pcsF]
  by_cases h0:n=0
  .rw [if_pos h0];simp [inPcs];omega
  .rw [if_neg h0]
   have ih:=inPcsF f (i+min n (64-i%64)) (n-min n (64-i%64)) k (by omega)
   unfold inPcs at ih ⊢
   rw[List.any_cons,ih,Bool.eq_iff_iff]
   simp only[Bool.or_eq_true,decide_eq_true_eq]
   have hm:min n (64-i%64)=n\/min n (64-i%64)=64-i%64:=by omega
   rcases hm with hm|hm <;> rw[hm] <;> omega

theorem inPcs_pcs(i n k:Nat):inPcs (pcs i n) k=decide (i<=k/\k<i+n):=inPcsF n i n k (Nat.le_refl _)

theorem pcsF_mem:∀ (f i n:Nat) (x:Nat×Nat×Nat),x∈pcsF f i n->0<x.2.2/\x.2.1+x.2.2<=64/\i<=x.1*64+x.2.1/\x.1*64+x.2.1+x.2.2<=i+n
 |0,_,_,_,h=>by simp[pcsF] at h
 |f+1,i,n,x,h=>by
  simp only[pcsF] at h
  by_cases h0:n=0
  .rw [if_pos h0] at h;simp at h
  .rw [if_neg h0] at h
   rcases List.mem_cons.1 h with rfl|h
   .dsimp only;omega
   .have:=pcsF_mem f _ _ x h
    omega

theorem pcs_mem{i n:Nat}{x:Nat×Nat×Nat}(h:x∈pcs i n):0<x.2.2/\x.2.1+x.2.2<=64/\i<=x.1*64+x.2.1/\x.1*64+x.2.1+x.2.2<=i+n:=pcsF_mem n i n x h

theorem Fw(b k i:Nat):(pmk b k).testBit i=decide (b<=i/\i<b+k):=by
 unfold pmk
 rw[Nat.mul_comm,Nat.testBit_two_pow_mul,Nat.testBit_two_pow_sub_one,Bool.eq_iff_iff]
 simp only[Bool.and_eq_true,decide_eq_true_eq];omega

theorem pmask_lt{b k:Nat}(h:b+k<=64):pmk b k<18446744073709551616:=by
 unfold pmk
 have:=Wd.mask_lt (at_:=b) (n:=k) h
 rwa [Wd.Fu] at this

def Dl(g:Nat->Bool)(a:Nat):Nat->Nat
 |0=>0
 |n+1=>Dl g a n+(if g (a+n) then 1 else 0)

theorem cntB_congr{g h:Nat->Bool}{a:Nat}:∀ (n:Nat),(∀ t,a<=t->t<a+n->g t=h t)->Dl g a n=Dl h a n
 |0,_=>rfl
 |n+1,e=>by
  simp only[Dl]
  rw[cntB_congr n (λ t h1 h2=>e t h1 (by omega)),e (a+n) (by omega) (by omega)]

theorem FC(g:Nat->Bool)(a m:Nat):∀ (n:Nat),Dl g a (m+n)=Dl g a m+Dl g (a+m) n
 |0=>by simp[Dl]
 |n+1=>by
  rw[<- Nat.add_assoc]
  simp only[Dl]
  rw[FC g a m n,show a+(m+n)=a+m+n by omega];omega

theorem cntB_zero{g:Nat->Bool}{a:Nat}:∀ (n:Nat),(∀ t,a<=t->t<a+n->g t=false)->Dl g a n=0
 |0,_=>rfl
 |n+1,e=>by
  simp only[Dl]
  rw[cntB_zero n (λ t h1 h2=>e t h1 (by omega)),e (a+n) (by omega) (by omega)];rfl

theorem cntB_le(g:Nat->Bool)(a:Nat):∀ (n:Nat),Dl g a n<=n
 |0=>Nat.le_refl _
 |n+1=>by have:=cntB_le g a n;simp only[Dl];split <;> omega

theorem cntB_shift{g h:Nat->Bool}{a b:Nat}:∀ (n:Nat),(∀ t,t<n->g (a+t)=h (b+t))->Dl g a n=Dl h b n
 |0,_=>rfl
 |n+1,e=>by
  simp only[Dl]
  rw[cntB_shift n (λ t h1=>e t (by omega)),e n (by omega)]

theorem onesF_cnt(v:Nat):∀ (k:Nat),Wd.DW k v=Dl v.testBit 0 k
 |0=>rfl
 |k+1=>by
  rw[Wd.onesF_last,onesF_cnt v k]
  simp only[Dl,Nat.zero_add]
  have h:=Wd.Es v k
  rcases Nat.mod_two_eq_zero_or_one (v/2 ^ k) with e|e <;> rw[e] at h ⊢ <;> rw[h] <;> simp

theorem ones_piece(v b c:Nat)(h:b+c<=64):Wd.ones (v &&& pmk b c)=Dl v.testBit b c:=by
 unfold Wd.ones
 rw[onesF_cnt,show (64:Nat)=b+(c+(64-b-c)) by omega,FC,FC]
 have key:∀ t,(v &&& pmk b c).testBit t=(v.testBit t&&decide (b<=t/\t<b+c)):=λ t=>by rw[Nat.testBit_and,Fw]
 rw[cntB_zero b (λ t h1 h2=>by rw[key];simp;omega),cntB_zero (64-b-c) (λ t h1 h2=>by rw[key];simp;omega)]
 rw[Nat.zero_add,Nat.zero_add,Nat.add_zero]
 exact cntB_congr c (λ t h1 h2=>by rw[key];simp;omega)

def nextF(g:Nat->Bool):Nat->Nat->Option Nat
 |0,_=>none
 |f+1,i=>if g i then some i else nextF g f (i+1)
def C9(g:Nat->Bool)(n i:Nat):Option Nat:=nextF g (n-i) i

theorem nextF_some{g:Nat->Bool}:∀ (f i j:Nat),i<=j->j<i+f->g j=true->(∀ t,i<=t->t<j->g t=false)->nextF g f i=some j
 |0,i,j,h1,h2,_,_=>by omega
 |f+1,i,j,h1,h2,h3,h4=>by
  simp only[nextF]
  by_cases e:i=j
  .subst e;rw [if_pos h3]
  .rw [h4 i (Nat.le_refl _) (by omega)];simp only[Bool.false_eq_true,if_false]
   exact nextF_some f (i+1) j (by omega) (by omega) h3 (λ t ht=>h4 t (by omega))

theorem nextF_none{g:Nat->Bool}:∀ (f i:Nat),(∀ t,i<=t->t<i+f->g t=false)->nextF g f i=none
 |0,i,_=>rfl
 |f+1,i,h=>by
  simp only[nextF]
  rw[h i (Nat.le_refl _) (by omega)];simp only[Bool.false_eq_true,if_false]
  exact nextF_none f (i+1) (λ t h1 h2=>h t (by omega) (by omega))

theorem nextF_spec{g:Nat->Bool}:∀ (f i:Nat),(∃ j,nextF g f i=some j/\i<=j/\j<i+f/\g j=true/\∀ t,i<=t->t<j->g t=false)\/(nextF g f i=none/\∀ t,i<=t->t<i+f->g t=false)
 |0,i=>.inr ⟨rfl,λ t h1 h2=>by omega⟩
 |f+1,i=>by
  simp only[nextF]
  by_cases e:g i=true
  .rw [if_pos e];exact .inl ⟨i,rfl,Nat.le_refl _,by omega,e,λ t h1 h2=>by omega⟩
  .rw [if_neg e]
   have e':g i=false:=by simpa using e
   rcases nextF_spec f (i+1) (g:=g) with ⟨j,h1,h2,h3,h4,h5⟩|⟨h1,h2⟩
   .exact .inl ⟨j,h1,by omega,by omega,h4,λ t a b=>by by_cases k:t=i;subst k;exact e';exact h5 t (by omega) b⟩
   .exact .inr ⟨h1,λ t a b=>by by_cases k:t=i;subst k;exact e';exact h2 t (by omega) (by omega)⟩

theorem nextB_some{g:Nat->Bool}{n i j:Nat}(h1:i<=j)(h2:j<n)(h3:g j=true)(h4:∀ t,i<=t->t<j->g t=false):C9 g n i=some j:=
 nextF_some (n-i) i j h1 (by omega) h3 h4

theorem nextB_none{g:Nat->Bool}{n i:Nat}(h:∀ t,i<=t->t<n->g t=false):C9 g n i=none:=
 nextF_none (n-i) i (λ t h1 h2=>h t h1 (by omega))

theorem nextB_spec(g:Nat->Bool)(n i:Nat):(∃ j,C9 g n i=some j/\i<=j/\j<n/\g j=true/\∀ t,i<=t->t<j->g t=false)\/(C9 g n i=none/\∀ t,i<=t->t<n->g t=false):=by
 rcases nextF_spec (n-i) i (g:=g) with ⟨j,h1,h2,h3,h4,h5⟩|⟨h1,h2⟩
 .exact .inl ⟨j,h1,h2,by omega,h4,h5⟩
 .exact .inr ⟨h1,λ t a b=>h2 t a (by omega)⟩

end

end Go.Proofs.YtmfajopmppfldaaGreatDoor
