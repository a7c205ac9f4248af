/-
  Lemmas for the laws, together: Bits1.
-/
import Derived.Test.YtfkedlgpgmaemaaGreatDoorProg
import Derived.Test.YtfkedlgpgmaemaaGreatDoorQaa
set_option linter.unusedVariables false
set_option maxHeartbeats 16000000
namespace Go.Proofs.YtfkedlgpgmaemaaGreatDoor
open Tryz
section
open Go.RowKit
attribute [local go_sem] Oper.semAt_some

def pcsF:Nat->Nat->Nat->List (Nat×Nat×Nat)
 |0,_,_=>[]
 |f+1,i,n=>if n=0 then [] else (i/64,i%64,min n (64-i%64))::pcsF f (i+min n (64-i%64)) (n-min n (64-i%64))
def pcs(i n:Nat):List (Nat×Nat×Nat):=pcsF n i n

theorem pcsF_more:∀ (f g i n:Nat),n<=f->n<=g->pcsF f i n=pcsF g i n
 |0,0,_,_,_,_=>rfl
 |0,g+1,i,n,h,_=>by simp only[pcsF];rw [if_pos (by omega)]
 |f+1,0,i,n,_,h=>by simp only[pcsF];rw [if_pos (by omega)]
 |f+1,g+1,i,n,h,k=>by
  simp only[pcsF]
  by_cases h0:n=0
  .rw [if_pos h0,if_pos h0]
  .rw [if_neg h0,if_neg h0,pcsF_more f g _ _ (by omega) (by omega)]

theorem pcs_nil(i:Nat):pcs i 0=[]:=rfl
theorem pcs_cons(i n:Nat)(h:0<n):pcs i n=(i/64,i%64,min n (64-i%64))::pcs (i+min n (64-i%64)) (n-min n (64-i%64)):=by
 obtain⟨f,rfl⟩:∃ f,n=f+1:=⟨n-1,by omega⟩
 unfold pcs
 rw[pcsF,if_neg (by omega),pcsF_more f _ _ _ (by omega) (Nat.le_refl _)]

def pmk(b k:Nat):Nat:=(2 ^ k-1)*2 ^ b

def pieceV(x:Nat×Nat×Nat):Array Value:=#[.agg #[x.1,x.2.1,.int .u64 (pmk x.2.1 x.2.2:Nat)]]

theorem mask_walk{k b:Nat}(i:k<64)(g:b+k<=64):IntKind.u64.wrap (IntKind.u64.wrap (IntKind.u64.wrap ((2:Int) ^ k)-1)*2 ^ b)=((pmk b k:Nat):Int):=by
 have e:=Wd.mask_lt (at_:=b) (n:=k) g
 rw[Wd.FN] at e
 have j:(2:Nat) ^ k<18446744073709551616:=by
  have:=Nat.pow_lt_pow_right (a:=2) (by decide) i
  rwa [Wd.FN] at this
 have f:=Nat.two_pow_pos k
 have c:((2:Int) ^ k)=((2 ^ k:Nat):Int):=by simp
 rw[c,wrap_of (n:=((2 ^ k:Nat):Int)) (by omega) (by omega),wrap_of (n:=((2 ^ k:Nat):Int)-1) (by omega) (by omega)]
 have d:(((2 ^ k:Nat):Int)-1)*2 ^ b=(((2 ^ k-1)*2 ^ b:Nat):Int):=by
  rw[Int.natCast_mul,Int.natCast_sub f];simp
 rw[d,wrap_of (by omega) (by omega)];rfl

theorem full_int{j:Nat}(h:j%64=0):IntKind.u64.wrap ((18446744073709551615:Int)*2 ^ (j%64))=18446744073709551615:=by
 rw[h,Int.pow_zero,Int.mul_one,wrap_of (by omega) (by omega)]

theorem full_nat{j:Nat}(h:j%64=0):((pmk (j%64) 64:Nat):Int)=18446744073709551615:=by
 rw[h];decide +kernel

theorem at_any(i:Int)(w:World)(a:0<=i)(b:i<9223372036854775808):
  Calls prog 111 #[.int .i64 i] w λ e w'=>e=.returned (.agg #[.int .i64 (i/64),.int .i64 (i%64)])/\w.alloc (.cells #[.int .i64 (i/64),.int .i64 (i%64)] 198)=w':=by
 go_enter func111,ntmps111
 go_wp2
 exact bodyPost_ret (v:=.agg #[.int .i64 (i/64),.int .i64 (i%64)]) (by simp[results,results111,go_sem]) rfl ⟨rfl,rfl⟩

theorem pieces_any(i n:Int)(w:World):
  Calls prog 200 #[.int .i64 i,.int .i64 n] w λ e w'=>
   e=.returned (.func (.func 220) #[] #[.pointer (some ⟨w.heap.size+1,0,none⟩),.pointer (some w.heap.size)])/\
   (w.alloc (.cells #[.int .i64 i] 3)).alloc (.cells #[.int .i64 n] 3)=w':=by
 have a:∀ (fn:Fn) (first cap:Array Value) (w:World),(Instr.makeFunc fn first cap).run prog w=.ok (.func fn first cap) w:=λ _ _ _ _=>rfl
 go_enter func200,ntmps200
 go_wp2
 go_ret
 exact⟨rfl,rfl⟩

theorem EI{i n j m K:Nat}{d:List (Nat×Nat×Nat)}{e:List (Nat×Nat×Nat)->World->Prop}{W wr a:World}{b c:Nat}{x y:Int}
  (C:pcs i n=d++pcs j m) (D:pcs j m=(j/64,j%64,K)::pcs (j+K) (m-K)) (I:j+m=i+n) (G:0<K) (H:K<=m) (l:b≠c) (J:W.heap.size<=wr.heap.size) (L:wr.heap.size+1+1<=a.heap.size)
  (A:∀ (d:List (Nat×Nat×Nat)) (f a:World),e d f->Kp (λ k=>k=b\/k=c) f a->e d a) (B:e (d++[(j/64,j%64,K)]) a)
  (w:a.heap[b]?=some (.cells #[m] 3 (0,0))) (v:a.heap[c]?=some (.cells #[j] 3 (0,0))) (o:wr.cell? b=some (.int .i64 m))
  (E:x=(j:Int)+K) (F:y=(m:Int)-K):
  (∃ (d:List (Nat×Nat×Nat)) (j m:Nat),pcs i n=d++pcs j m/\j+m=i+n/\e d (((a.setCell c (.int .i64 x)).setCell b (.int .i64 y)).drew)/\
   (((a.setCell c (.int .i64 x)).setCell b (.int .i64 y)).drew).heap[b]?=some (.cells #[m] 3 (0,0))/\
   (((a.setCell c (.int .i64 x)).setCell b (.int .i64 y)).drew).heap[c]?=some (.cells #[j] 3 (0,0))/\
   W.heap.size<=(((a.setCell c (.int .i64 x)).setCell b (.int .i64 y)).drew).heap.size)/\
  (intOf (((((a.setCell c (.int .i64 x)).setCell b (.int .i64 y)).drew).cell? b).getD undef)).toNat<(intOf ((wr.cell? b).getD undef)).toNat:=by
 have q:y=((m-K:Nat):Int):=by omega
 have p:x=((j+K:Nat):Int):=by omega
 subst q p
 have r:=one_setCell (u:=.int .i64 ((j+K:Nat):Int)) v
 have s:(a.setCell c (.int .i64 ((j+K:Nat):Int))).heap[b]?=some (.cells #[m] 3 (0,0)):=(Below.heap_setCell _ _ _ _ l).trans w
 have g:=one_setCell (u:=.int .i64 ((m-K:Nat):Int)) s
 have t:((a.setCell c (.int .i64 ((j+K:Nat):Int))).setCell b (.int .i64 ((m-K:Nat):Int))).heap[c]?=some (.cells #[.int .i64 ((j+K:Nat):Int)] 3 (0,0)):=(Below.heap_setCell _ _ _ _ (λ z=>l z.symm)).trans r
 refine⟨⟨d++[(j/64,j%64,K)],j+K,m-K,by rw[C,D,List.append_assoc];rfl,by omega,?_,g,t,?_⟩,?_⟩
 .exact A _ _ _ B ((((Kr _ a).setCell (λ _=>.inr rfl) _).setCell (λ _=>.inl rfl) _).drew)
 .show W.heap.size<=((a.setCell _ _).setCell _ _).heap.size
  simp only[World.setCell,Array.size_modify];omega
 .rw [show ((((a.setCell c (.int .i64 ((j+K:Nat):Int))).setCell b (.int .i64 ((m-K:Nat):Int))).drew).cell? b)=some (.int .i64 ((m-K:Nat):Int)) from cell_of_one g,o]
  simp only[Option.getD_some,intOf]
  omega

theorem pieces_iter{i n:Nat}{w:World}(a3:i+n<=65536)(q r:Nat)(P:w.heap[q]?=some (.cells #[n] 3 (0,0)))(O:w.heap[r]?=some (.cells #[i] 3 (0,0)))(G:q≠r)
  {R:Nat->Prop} (t:∀ k,R k->k<w.heap.size/\k≠q/\k≠r):
  IterAt prog 220 #[.pointer (some q),.pointer (some r)] pieceV (pcs i n) (λ k=>k=q\/k=r) R w:=by
 intro l Q V W M a5 a6 s a2 D U
 have b0:=(Array.getElem?_eq_some_iff.1 P).1
 have a9:=(Array.getElem?_eq_some_iff.1 O).1
 have T:=M.at_ P id
 have S:=M.at_ O id
 have a8:=M.size
 refine(callsIn_wide (n:=0)).1 ?_
 refine callsIn_of_wp func220 rfl trivial ?_
 simp only[ntmps220,List.size_toArray,List.length_cons,List.length_nil,Nat.reduceAdd,Nat.reduceSub,Array.replicate_succ,Array.replicate_zero,List.push_toArray,List.append_toArray,List.nil_append,List.cons_append]
 gi_wp2
 gi_loopw [4,5] (λ _ _ wr=>∃ (y:List (Nat×Nat×Nat)) (j m:Nat),pcs i n=y++pcs j m/\j+m=i+n/\Q y wr/\
   wr.heap[q]?=some (.cells #[m] 3 (0,0))/\wr.heap[r]?=some (.cells #[j] 3 (0,0))/\W.heap.size<=wr.heap.size)
  (λ _ _ wr=>(intOf ((wr.cell? q).getD undef)).toNat)
 case atStart=>exact ⟨[],i,n,rfl,rfl,U,T,S,Nat.le_refl _⟩
 case round=>
  obtain⟨y,j,m,o,F,B,A,z,H⟩:=hrel
  have C:=cell_of_one A
  have a0:=cell_of_one z
  by_cases hm:m=0
  .subst hm
   gi_wp2
   go_end0
   exact⟨⟨_,rfl⟩,.inl (by rw[o,pcs_nil,List.append_nil];exact B)⟩
  .have a7:(0:Int)<m:=by omega
   have a4:(j:Int)+m<=65536:=by omega
   have X:q<wr.heap.size:=by omega
   have Y:q<wr.heap.size+1:=by omega
   have c0:r<wr.heap.size:=by omega
   have Z:r<wr.heap.size+1:=by omega
   have fn:=free_of_one A
   have a1:=free_of_one z
   by_cases hk:(64:Int)-(j:Int)%64<m
   .by_cases hb:(j:Int)%64=0
    .have N:¬ (64:Int)-(j:Int)%64<64:=by omega
     gi_wp2_with fail
     refine⟨trivial,rfl,?_⟩
     refine(callsIn_wide.2 (at_any _ _ (by omega) (by omega))).mono ?_
     rintro e w' ⟨rfl,rfl⟩
     gi_wp2_with fail
     have d:=pcs_cons j m (by omega)
     have hK:min m (64-j%64)=64:=by omega
     rw[hK] at d
     refine EK (D y _ _ _ (by rw[o,d]) (s _ _ _ B (((Kr _ wr).alloc _).alloc _))) ?_ ?_ ?_
     .unfold pieceV
      have E:j%64=0:=by omega
      rw[full_nat E,show ((j%64:Nat):Int)=0 by omega];simp
     .intro u c x
      have g:=c.at_ ((((Kr Aa wr).alloc _).alloc _).at_ A id) (λ a=>by rcases a with a|a;have:=t _ a;omega;omega)
      have f:=c.at_ ((((Kr Aa wr).alloc _).alloc _).at_ z id) (λ a=>by rcases a with a|a;have:=t _ a;omega;omega)
      have p:=c.size
      simp only[World.size_alloc] at p
      have J:=cell_of_one g
      have I:=cell_of_one f
      have L:=free_of_one g
      have K:=free_of_one f
      gi_wp2_with fail
      refine wpIn_wide.2 ?_
      go_region
      all_goals
       go_wp2
       exact EI o d F (by omega) (by omega) G H p s x g f C (by omega) (by omega)
     .intro u c v
      gi_wp2_with fail
      refine bodyPost_ret (results_none rfl _ _ _) rfl ?_
      exact⟨⟨_,rfl⟩,.inr ⟨_,⟨_,by rw[o,d,List.append_assoc];rfl⟩,v⟩⟩
    .have N:(64:Int)-(j:Int)%64<64:=by omega
     gi_wp2_with fail
     refine⟨trivial,rfl,?_⟩
     refine(callsIn_wide.2 (at_any _ _ (by omega) (by omega))).mono ?_
     rintro e w' ⟨rfl,rfl⟩
     gi_wp2_with fail
     have d:=pcs_cons j m (by omega)
     have hK:min m (64-j%64)=64-j%64:=by omega
     rw[hK] at d
     refine EK (D y _ _ _ (by rw[o,d]) (s _ _ _ B (((Kr _ wr).alloc _).alloc _))) ?_ ?_ ?_
     .unfold pieceV
      rw[mask_walk (k:=64-j%64) (b:=j%64) (by omega) (by omega)];simp
     .intro u c x
      have g:=c.at_ ((((Kr Aa wr).alloc _).alloc _).at_ A id) (λ a=>by rcases a with a|a;have:=t _ a;omega;omega)
      have f:=c.at_ ((((Kr Aa wr).alloc _).alloc _).at_ z id) (λ a=>by rcases a with a|a;have:=t _ a;omega;omega)
      have p:=c.size
      simp only[World.size_alloc] at p
      have J:=cell_of_one g
      have I:=cell_of_one f
      have L:=free_of_one g
      have K:=free_of_one f
      gi_wp2_with fail
      refine wpIn_wide.2 ?_
      go_region
      all_goals
       go_wp2
       exact EI o d F (by omega) (by omega) G H p s x g f C (by omega) (by omega)
     .intro u c v
      gi_wp2_with fail
      refine bodyPost_ret (results_none rfl _ _ _) rfl ?_
      exact⟨⟨_,rfl⟩,.inr ⟨_,⟨_,by rw[o,d,List.append_assoc];rfl⟩,v⟩⟩
   .by_cases hb:m<64
    .have N:(m:Int)<64:=by omega
     gi_wp2_with fail
     refine⟨trivial,rfl,?_⟩
     refine(callsIn_wide.2 (at_any _ _ (by omega) (by omega))).mono ?_
     rintro e w' ⟨rfl,rfl⟩
     gi_wp2_with fail
     have d:=pcs_cons j m (by omega)
     have hK:min m (64-j%64)=m:=by omega
     rw[hK] at d
     refine EK (D y _ _ _ (by rw[o,d]) (s _ _ _ B (((Kr _ wr).alloc _).alloc _))) ?_ ?_ ?_
     .unfold pieceV
      rw[mask_walk (k:=m) (b:=j%64) (by omega) (by omega)];simp
     .intro u c x
      have g:=c.at_ ((((Kr Aa wr).alloc _).alloc _).at_ A id) (λ a=>by rcases a with a|a;have:=t _ a;omega;omega)
      have f:=c.at_ ((((Kr Aa wr).alloc _).alloc _).at_ z id) (λ a=>by rcases a with a|a;have:=t _ a;omega;omega)
      have p:=c.size
      simp only[World.size_alloc] at p
      have J:=cell_of_one g
      have I:=cell_of_one f
      have L:=free_of_one g
      have K:=free_of_one f
      gi_wp2_with fail
      refine wpIn_wide.2 ?_
      go_region
      all_goals
       go_wp2
       exact EI o d F (by omega) (by omega) G H p s x g f C (by omega) (by omega)
     .intro u c v
      gi_wp2_with fail
      refine bodyPost_ret (results_none rfl _ _ _) rfl ?_
      exact⟨⟨_,rfl⟩,.inr ⟨_,⟨_,by rw[o,d,List.append_assoc];rfl⟩,v⟩⟩
    .have N:¬ (m:Int)<64:=by omega
     gi_wp2_with fail
     refine⟨trivial,rfl,?_⟩
     refine(callsIn_wide.2 (at_any _ _ (by omega) (by omega))).mono ?_
     rintro e w' ⟨rfl,rfl⟩
     gi_wp2_with fail
     have d:=pcs_cons j m (by omega)
     have hK:min m (64-j%64)=64:=by omega
     rw[hK] at d
     refine EK (D y _ _ _ (by rw[o,d]) (s _ _ _ B (((Kr _ wr).alloc _).alloc _))) ?_ ?_ ?_
     .unfold pieceV
      have E:j%64=0:=by omega
      rw[full_nat E,full_int E];simp
     .intro u c x
      have g:=c.at_ ((((Kr Aa wr).alloc _).alloc _).at_ A id) (λ a=>by rcases a with a|a;have:=t _ a;omega;omega)
      have f:=c.at_ ((((Kr Aa wr).alloc _).alloc _).at_ z id) (λ a=>by rcases a with a|a;have:=t _ a;omega;omega)
      have p:=c.size
      simp only[World.size_alloc] at p
      have J:=cell_of_one g
      have I:=cell_of_one f
      have L:=free_of_one g
      have K:=free_of_one f
      gi_wp2_with fail
      refine wpIn_wide.2 ?_
      go_region
      all_goals
       go_wp2
       exact EI o d F (by omega) (by omega) G H p s x g f C (by omega) (by omega)
     .intro u c v
      gi_wp2_with fail
      refine bodyPost_ret (results_none rfl _ _ _) rfl ?_
      exact⟨⟨_,rfl⟩,.inr ⟨_,⟨_,by rw[o,d,List.append_assoc];rfl⟩,v⟩⟩

end

section
open Go.RowKit

def bitOf(ws:List Nat)(i:Nat):Bool:=(ws.getD (i/64) 0).testBit (i%64)

structure WordsAt(w:World)(p q:Nat)(ws:List Nat)(n:Nat):Prop where
 hp:∃ cap,w.heap[p]?=some (.cells #[.slice (some ⟨q,0,none⟩) ws.length cap,n] 196 (0,0))
 hq:∃ cs,w.heap[q]?=some (.cells cs 79 (0,0))/\∀ j,j<ws.length->cs[j]?=some (.int .u64 (ws.getD j 0:Nat))
 len:ws.length=(n+63)/64
 small:n<=65536
 fits:∀ j,ws.getD j 0<18446744073709551616

def AL(w:World)(p q:Nat)(f:Nat->Bool)(n:Nat):Prop:=∃ ws,WordsAt w p q ws n/\∀ i,i<n->bitOf ws i=f i

theorem WordsAt.keep{S:Nat->Prop}{w w':World}{p q n:Nat}{ws:List Nat}(a:WordsAt w p q ws n)(k:Kp S w w')(e:¬ S p)(f:¬ S q):WordsAt w' p q ws n:=by
 obtain⟨cap,b⟩:=a.hp
 obtain⟨cs,c,d⟩:=a.hq
 exact⟨⟨cap,k.at_ b e⟩,⟨cs,k.at_ c f,d⟩,a.len,a.small,a.fits⟩

theorem AL.keep{S:Nat->Prop}{w w':World}{p q n:Nat}{f:Nat->Bool}(c:AL w p q f n)(k:Kp S w w')(d:¬ S p)(e:¬ S q):AL w' p q f n:=
 let ⟨ws,a,b⟩:=c;⟨ws,a.keep k d e,b⟩

theorem cell_of_two{w:World}{b:Nat}{u v:Value}{t:TypeId}(h:w.heap[b]?=some (.cells #[u,v] t (0,0))):w.cell? b=some u/\w.cell? ⟨b,1,none⟩=some v:=by
 simp[World.cell?,h]

theorem Ab{w:World}{b:Nat}{cs:Array Value}{t:TypeId}(h:w.heap[b]?=some (.cells cs t (0,0)))(j:Nat):w.frozen? ⟨b,j,none⟩=false:=by simp[World.frozen?,h]

theorem lZ{w:World}{b:Nat}{o:Obj}(h:w.heap[b]?=some o):b<w.heap.size:=(Array.getElem?_eq_some_iff.1 h).1

theorem BF(w:World)(o:Obj){k:Nat}(h:k=w.heap.size):(w.alloc o).heap[k]?=some o:=by subst h;exact wN w o

theorem WordsAt.lt_p{w:World}{p q n:Nat}{ws:List Nat}(a:WordsAt w p q ws n):p<w.heap.size:=by obtain⟨_,a⟩:=a.hp;exact lZ a
theorem WordsAt.lt_q{w:World}{p q n:Nat}{ws:List Nat}(a:WordsAt w p q ws n):q<w.heap.size:=by obtain⟨_,a,_⟩:=a.hq;exact lZ a
theorem WordsAt.ne{w:World}{p q n:Nat}{ws:List Nat}(a:WordsAt w p q ws n):p≠q:=by
 obtain⟨_,c⟩:=a.hp
 obtain⟨_,b,_⟩:=a.hq
 intro e;subst e;rw [c] at b;injection b with b;injection b with _ b _;revert b;decide

theorem WordsAt.reads{w:World}{p q n:Nat}{ws:List Nat}(a:WordsAt w p q ws n):
  (∃ cap,w.cell? p=some (.slice (some ⟨q,0,none⟩) ws.length cap))/\w.cell? ⟨p,1,none⟩=some (.int .i64 n)/\
  (∀ j,j<ws.length->w.cell? ⟨q,j,none⟩=some (.int .u64 (ws.getD j 0:Nat)))/\(∀ j,w.frozen? ⟨q,j,none⟩=false):=by
 obtain⟨cap,b⟩:=a.hp
 obtain⟨cs,c,d⟩:=a.hq
 refine⟨⟨cap,(cell_of_two b).1⟩,(cell_of_two b).2,λ j e=>?_,Ab c⟩
 have:=d j e
 simp only[World.cell?,c];simpa using this

theorem WordsAt.word{w:World}{p q n:Nat}{ws:List Nat}(a:WordsAt w p q ws n)(j:Nat)(b:j<ws.length):
  ∃ v:Nat,v<18446744073709551616/\w.cell? ⟨q,j,none⟩=some (.int .u64 v)/\w.frozen? ⟨q,j,none⟩=false/\Sl (ws.getD j 0=v):=
 ⟨_,a.fits j,a.reads.2.2.1 j b,a.reads.2.2.2 j,⟨rfl⟩⟩

theorem bZ{w:World}{b j:Nat}{cs:Array Value}{t:TypeId}(a:w.heap[b]?=some (.cells cs t (0,0)))(v:Value):(w.setCell ⟨b,j,none⟩ v).heap[b]?=some (.cells (cs.setIfInBounds j v) t (0,0)):=by
 have c:=lZ a
 have d:w.heap[b]=.cells cs t (0,0):=by simpa [Array.getElem?_eq_getElem c] using a
 show(w.heap.modify b _)[b]?=_
 rw[Array.getElem?_eq_getElem (by simpa using c),Array.getElem_modify_self,d]
 rfl

theorem WordsAt.store{w:World}{p q n:Nat}{ws:List Nat}(a:WordsAt w p q ws n){j v:Nat}(b:j<ws.length)(l:v<18446744073709551616):
  WordsAt (w.setCell ⟨q,j,none⟩ (.int .u64 v)) p q (ws.set j v) n:=by
 obtain⟨cap,f⟩:=a.hp
 obtain⟨cs,g,c⟩:=a.hq
 refine⟨⟨cap,?_⟩,⟨_,bZ g _,λ i d=>?_⟩,by simpa using a.len,a.small,λ i=>?_⟩
 .rw [List.length_set];exact (Below.heap_setCell _ _ _ _ a.ne).trans f
 .simp only[List.length_set] at d
  rw[Array.getElem?_setIfInBounds,List.getD_eq_getElem?_getD,List.getElem?_set]
  by_cases e:j=i
  .subst e
   have k:=c j b
   have:j<cs.size:=(Array.getElem?_eq_some_iff.1 k).1
   simp[this,b]
  .simp only[e,if_false];rw [c i d,List.getD_eq_getElem?_getD]
 .rw [List.getD_eq_getElem?_getD,List.getElem?_set]
  by_cases e:j=i
  .subst e;simp [b,l]
  .simp only[e,if_false];rw [<- List.getD_eq_getElem?_getD];exact a.fits i

theorem bitOf_set{ws:List Nat}{j v i:Nat}(b:j<ws.length):bitOf (ws.set j v) i=if i/64=j then v.testBit (i%64) else bitOf ws i:=by
 unfold bitOf
 rw[List.getD_eq_getElem?_getD,List.getElem?_set]
 by_cases e:j=i/64
 .rw [if_pos e,if_pos e.symm,if_pos (by omega)];rfl
 .rw [if_neg e,if_neg (λ a=>e a.symm),<- List.getD_eq_getElem?_getD]

def inPcs(l:List (Nat×Nat×Nat))(i:Nat):Bool:=l.any λ x=>decide (x.1=i/64/\x.2.1<=i%64/\i%64<x.2.1+x.2.2)

theorem inPcs_nil(i:Nat):inPcs [] i=false:=rfl
theorem inPcs_snoc(l:List (Nat×Nat×Nat))(x:Nat×Nat×Nat)(i:Nat):inPcs (l++[x]) i=(inPcs l i||decide (x.1=i/64/\x.2.1<=i%64/\i%64<x.2.1+x.2.2)):=by
 simp[inPcs]

theorem inPcsF:∀ (f i n k:Nat),n<=f->inPcs (pcsF f i n) k=decide (i<=k/\k<i+n)
 |0,i,n,k,h=>by simp[pcsF,inPcs];omega
 |f+1,i,n,k,h=>by
  simp only[pcsF]
  by_cases h0:n=0
  .rw [if_pos h0];simp [inPcs];omega
  .rw [if_neg h0]
   have b:=inPcsF f (i+min n (64-i%64)) (n-min n (64-i%64)) k (by omega)
   unfold inPcs at b ⊢
   rw[List.any_cons,b,Bool.eq_iff_iff]
   simp only[Bool.or_eq_true,decide_eq_true_eq]
   have a:min n (64-i%64)=n\/min n (64-i%64)=64-i%64:=by omega
   rcases a with a|a <;> rw[a] <;> omega

theorem inPcs_pcs(i n k:Nat):inPcs (pcs i n) k=decide (i<=k/\k<i+n):=inPcsF n i n k (Nat.le_refl _)

theorem pcsF_mem:∀ (f i n:Nat) (x:Nat×Nat×Nat),x∈pcsF f i n->0<x.2.2/\x.2.1+x.2.2<=64/\i<=x.1*64+x.2.1/\x.1*64+x.2.1+x.2.2<=i+n
 |0,_,_,_,h=>by simp[pcsF] at h
 |f+1,i,n,x,h=>by
  simp only[pcsF] at h
  by_cases h0:n=0
  .rw [if_pos h0] at h;simp at h
  .rw [if_neg h0] at h
   rcases List.mem_cons.1 h with rfl|h
   .dsimp only;omega
   .have:=pcsF_mem f _ _ x h
    omega

theorem pcs_mem{i n:Nat}{x:Nat×Nat×Nat}(h:x∈pcs i n):0<x.2.2/\x.2.1+x.2.2<=64/\i<=x.1*64+x.2.1/\x.1*64+x.2.1+x.2.2<=i+n:=pcsF_mem n i n x h

theorem testBit_pmask(b k i:Nat):(pmk b k).testBit i=decide (b<=i/\i<b+k):=by
 unfold pmk
 rw[Nat.mul_comm,Nat.testBit_two_pow_mul,Nat.testBit_two_pow_sub_one,Bool.eq_iff_iff]
 simp only[Bool.and_eq_true,decide_eq_true_eq];omega

theorem pmask_lt{b k:Nat}(h:b+k<=64):pmk b k<18446744073709551616:=by
 unfold pmk
 have:=Wd.mask_lt (at_:=b) (n:=k) h
 rwa [Wd.FN] at this

def nextF(g:Nat->Bool):Nat->Nat->Option Nat
 |0,_=>none
 |f+1,i=>if g i then some i else nextF g f (i+1)
def FW(g:Nat->Bool)(n i:Nat):Option Nat:=nextF g (n-i) i

theorem nextF_some{g:Nat->Bool}:∀ (f i j:Nat),i<=j->j<i+f->g j=true->(∀ t,i<=t->t<j->g t=false)->nextF g f i=some j
 |0,i,j,h1,h2,_,_=>by omega
 |f+1,i,j,h1,h2,h3,h4=>by
  simp only[nextF]
  by_cases e:i=j
  .subst e;rw [if_pos h3]
  .rw [h4 i (Nat.le_refl _) (by omega)];simp only[Bool.false_eq_true,if_false]
   exact nextF_some f (i+1) j (by omega) (by omega) h3 (λ t a=>h4 t (by omega))

theorem nextF_none{g:Nat->Bool}:∀ (f i:Nat),(∀ t,i<=t->t<i+f->g t=false)->nextF g f i=none
 |0,i,_=>rfl
 |f+1,i,h=>by
  simp only[nextF]
  rw[h i (Nat.le_refl _) (by omega)];simp only[Bool.false_eq_true,if_false]
  exact nextF_none f (i+1) (λ t a b=>h t (by omega) (by omega))

theorem nextF_spec{g:Nat->Bool}:∀ (f i:Nat),(∃ j,nextF g f i=some j/\i<=j/\j<i+f/\g j=true/\∀ t,i<=t->t<j->g t=false)\/(nextF g f i=none/\∀ t,i<=t->t<i+f->g t=false)
 |0,i=>.inr ⟨rfl,λ t c d=>by omega⟩
 |f+1,i=>by
  simp only[nextF]
  by_cases e:g i=true
  .rw [if_pos e];exact .inl ⟨i,rfl,Nat.le_refl _,by omega,e,λ t c d=>by omega⟩
  .rw [if_neg e]
   have l:g i=false:=by simpa using e
   rcases nextF_spec f (i+1) (g:=g) with ⟨j,c,d,o,m,n⟩|⟨c,d⟩
   .exact .inl ⟨j,c,by omega,by omega,m,λ t a b=>by by_cases k:t=i;subst k;exact l;exact n t (by omega) b⟩
   .exact .inr ⟨c,λ t a b=>by by_cases k:t=i;subst k;exact l;exact d t (by omega) (by omega)⟩

theorem nextB_some{g:Nat->Bool}{n i j:Nat}(a:i<=j)(d:j<n)(b:g j=true)(c:∀ t,i<=t->t<j->g t=false):FW g n i=some j:=
 nextF_some (n-i) i j a (by omega) b c

theorem nextB_none{g:Nat->Bool}{n i:Nat}(a:∀ t,i<=t->t<n->g t=false):FW g n i=none:=
 nextF_none (n-i) i (λ t b c=>a t b (by omega))

theorem nextB_spec(g:Nat->Bool)(n i:Nat):(∃ j,FW g n i=some j/\i<=j/\j<n/\g j=true/\∀ t,i<=t->t<j->g t=false)\/(FW g n i=none/\∀ t,i<=t->t<n->g t=false):=by
 rcases nextF_spec (n-i) i (g:=g) with ⟨j,c,d,k,e,f⟩|⟨c,d⟩
 .exact .inl ⟨j,c,d,by omega,e,f⟩
 .exact .inr ⟨c,λ t a b=>d t a (by omega)⟩

end

end Go.Proofs.YtfkedlgpgmaemaaGreatDoor
