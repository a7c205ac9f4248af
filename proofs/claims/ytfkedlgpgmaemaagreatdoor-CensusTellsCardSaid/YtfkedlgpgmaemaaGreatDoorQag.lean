/-
  Lemmas for the laws, together: Space1.
-/
import Derived.Test.YtfkedlgpgmaemaaGreatDoorQac
import Derived.Test.YtfkedlgpgmaemaaGreatDoorQad
import Derived.Test.YtfkedlgpgmaemaaGreatDoorQaf
import Derived.BigQuiet
import Derived.Deep.RegionHeld3
set_option linter.unusedVariables false
set_option maxHeartbeats 16000000
namespace Go.Proofs.YtfkedlgpgmaemaaGreatDoor
open Tryz
section
open Go.RowKit

structure ArenaAt(w:World)(a q:Nat)(W:Nat->Nat)(n:Nat):Prop where
 ha:∃ cap c,w.heap[a]?=some (.cells #[.slice (some ⟨q,0,none⟩) n cap,.int .u64 c] 234 (0,0))/\n<=cap
 hq:∃ cs,w.heap[q]?=some (.cells cs 79 (0,0))/\n<=cs.size/\∀ j,j<n->cs[j]?=some (.int .u64 (W j:Nat))
 small:n<=65536
 fits:∀ j,j<n->W j<18446744073709551616

theorem ArenaAt.keep{S:Nat->Prop}{w w':World}{a q n:Nat}{W:Nat->Nat}(b:ArenaAt w a q W n)(k:Kp S w w')(i:¬ S a)(l:¬ S q):ArenaAt w' a q W n:=by
 obtain⟨cap,c,d,j⟩:=b.ha
 obtain⟨cs,e,f,g⟩:=b.hq
 exact⟨⟨cap,c,k.at_ d i,j⟩,⟨cs,k.at_ e l,f,g⟩,b.small,b.fits⟩

theorem ArenaAt.Ac{w w':World}{a q n:Nat}{W:Nat->Nat}(h:ArenaAt w a q W n)(k:Kp Aa w w'):ArenaAt w' a q W n:=h.keep k id id

theorem ArenaAt.lt_a{w:World}{a q n:Nat}{W:Nat->Nat}(h:ArenaAt w a q W n):a<w.heap.size:=by obtain⟨_,_,h,_⟩:=h.ha;exact lZ h

theorem ArenaAt.lt_q{w:World}{a q n:Nat}{W:Nat->Nat}(h:ArenaAt w a q W n):q<w.heap.size:=by obtain⟨_,h,_⟩:=h.hq;exact lZ h

theorem ArenaAt.head{w:World}{a q n:Nat}{W:Nat->Nat}(d:ArenaAt w a q W n):∃ cap c,w.cell? a=some (.slice (some ⟨q,0,none⟩) n cap)/\w.cell? ⟨a,1,none⟩=some (.int .u64 c):=by
 obtain⟨cap,c,b,_⟩:=d.ha
 exact⟨cap,c,by simp[World.cell?,b],by simp[World.cell?,b]⟩

theorem ArenaAt.ne{w:World}{a q n:Nat}{W:Nat->Nat}(c:ArenaAt w a q W n):a≠q:=by
 obtain⟨_,_,d,_⟩:=c.ha
 obtain⟨_,b,_⟩:=c.hq
 intro e
 subst e
 rw[d] at b
 injection b with b
 injection b with _ h3
 exact absurd h3 (by decide)

theorem ArenaAt.at_{w:World}{a q n:Nat}{W:Nat->Nat}(b:ArenaAt w a q W n){j:Nat}(e:j<n):w.cell? ⟨q,j,none⟩=some (.int .u64 (W j:Nat)):=by
 obtain⟨cs,c,f,d⟩:=b.hq
 simp only[World.cell?,c]
 exact d j e

theorem ArenaAt.free{w:World}{a q n:Nat}{W:Nat->Nat}(b:ArenaAt w a q W n)(j:Nat):w.frozen? ⟨q,j,none⟩=false:=by
 obtain⟨cs,c,d,e⟩:=b.hq
 exact Ab c j

theorem ArenaAt.freeA{w:World}{a q n:Nat}{W:Nat->Nat}(b:ArenaAt w a q W n)(j:Nat):w.frozen? ⟨a,j,none⟩=false:=by
 obtain⟨cap,c,d,_⟩:=b.ha
 exact Ab d j

def DN(W:Nat->Nat)(j z:Nat)(i:Nat):Nat:=if i=j then z else W i

theorem ArenaAt.store{w:World}{a q n:Nat}{W:Nat->Nat}(b:ArenaAt w a q W n){j:Nat}(p:j<n)(z:Nat)(o:z<18446744073709551616):ArenaAt (w.setCell ⟨q,j,none⟩ (.int .u64 z)) a q (DN W j z) n:=by
 obtain⟨cap,c,f,m⟩:=b.ha
 obtain⟨cs,g,k,l⟩:=b.hq
 refine⟨⟨cap,c,(Below.heap_setCell _ _ _ _ b.ne).trans f,m⟩,⟨_,bZ g _,by simpa using k,λ i d=>?_⟩,b.small,λ i d=>?_⟩
 .rw [Array.getElem?_setIfInBounds,DN]
  by_cases e:j=i
  .subst e
   rw[if_pos rfl,if_pos (by omega),if_pos rfl]
  .rw [if_neg e,if_neg (by omega)]
   exact l i d
 .rw [DN];split
  .exact o
  .exact b.fits i d

theorem ArenaAt.count{w:World}{a q n:Nat}{W:Nat->Nat}(b:ArenaAt w a q W n)(z:Int):ArenaAt (w.setCell ⟨a,1,none⟩ (.int .u64 z)) a q W n:=by
 obtain⟨cap,c,d,i⟩:=b.ha
 obtain⟨cs,e,f,g⟩:=b.hq
 exact⟨⟨cap,z,by rw[bZ d _];rfl,i⟩,⟨cs,(Below.heap_setCell _ _ _ _ b.ne.symm).trans e,f,g⟩,b.small,b.fits⟩

theorem ALen_at(a q n:Nat)(W:Nat->Nat)(w:World)(b:ArenaAt w a q W n):Calls prog 136 #[.pointer (some a)] w λ e w'=>e=.returned (.int .i64 n)/\w=w':=by
 obtain⟨cap,c,d,f⟩:=b.head
 go_enter func136,ntmps136
 go_wp2
 go_ret
 exact⟨rfl,rfl⟩

theorem Ahas_any(i k:Int)(a q n:Nat)(W:Nat->Nat)(w:World)(d:ArenaAt w a q W n):
  Calls prog 138 #[.pointer (some a),.int .i64 i,.int .i64 k] w λ e w'=>e=.returned (.int .i64 (errV (Bz n i k)))/\w=w':=by
 obtain⟨cap,c,f,-⟩:=d.head
 have g:=d.small
 by_cases h1:0<=i
 .by_cases h2:0<=k
  .by_cases h3:i<=n
   .have b:Sl (Bz n i k=decide (k<=(n:Int)-i)):=⟨by simp[Bz,h1,h2,h3]⟩
    by_cases h4:k<=(n:Int)-i
    .go_enter func138,ntmps138
     go_wp2
     go_ret
     exact⟨by rw[b.o,dT h4];rfl,rfl⟩
    .go_enter func138,ntmps138
     go_wp2
     go_ret
     exact⟨by rw[b.o,dF (by omega)];rfl,rfl⟩
   .have b:Sl (Bz n i k=false):=⟨by simp[Bz,h3]⟩
    go_enter func138,ntmps138
    go_wp2
    go_ret
    exact⟨by rw[b.o];rfl,rfl⟩
  .have b:Sl (Bz n i k=false):=⟨by simp[Bz,h2]⟩
   go_enter func138,ntmps138
   go_wp2
   go_ret
   exact⟨by rw[b.o];rfl,rfl⟩
 .have b:Sl (Bz n i k=false):=⟨by simp[Bz,h1]⟩
  go_enter func138,ntmps138
  go_wp2
  go_ret
  exact⟨by rw[b.o];rfl,rfl⟩

theorem ok_one_nat{n i:Nat}(h:i<n):Bz n (i:Nat) 1=true:=by simp[Bz];omega

theorem ALoad_yes(i:Nat)(a q n:Nat)(W:Nat->Nat)(w:World)(b:ArenaAt w a q W n)(d:i<n):
  Calls prog 131 #[.pointer (some a),i] w λ e w'=>e=.returned (.tuple #[.int .u64 (W i:Nat),(0:Int)])/\w=w':=by
 obtain⟨cap,c,f,-⟩:=b.head
 have k:=b.at_ d
 have j:=b.small
 have g:(i:Int)<n:=by omega
 go_enter func131,ntmps131
 go_wp2_with fail
 refine(Ahas_any i 1 a q n W w b).mono ?_
 rintro e w' ⟨rfl,rfl⟩
 rw[ok_one_nat d]
 go_wp2
 go_ret2
 exact⟨rfl,rfl⟩

def Stored(w:World)(a q n:Nat)(W:Nat->Nat)(e:Ending)(w':World):Prop:=e=.returned (.int .i64 0)/\Kp (λ b=>b=a\/b=q) w w'/\ArenaAt w' a q W n

theorem AStore_yes(i z:Nat)(a q n:Nat)(W:Nat->Nat)(w:World)(d:ArenaAt w a q W n)(g:i<n)(m:z<18446744073709551616):
  Calls prog 81 #[.pointer (some a),i,.int .u64 z] w (Stored w a q n (DN W i z)):=by
 obtain⟨cap,c,r,l⟩:=d.head
 have C:=d.at_ g
 have x:=d.free i
 have t:=d.freeA 1
 have A:=d.small
 have y:(i:Int)<n:=by omega
 have j:=d.ne
 have B:¬ q=a:=λ e=>j e.symm
 have f:=d.store g z m
 have s:=((Kr (λ b=>b=q) w).setCell (p:=⟨q,i,none⟩) (λ _=>rfl) (.int .u64 z)).cell l j
 have u:=f.freeA 1
 have k:=sE f
 clear f
 go_enter func81,ntmps81
 go_wp2_with fail
 refine(Ahas_any i 1 a q n W w d).mono ?_
 rintro e w' ⟨rfl,rfl⟩
 rw[ok_one_nat g]
 go_wp2
 exact bodyPost_ret (v:=.int .i64 0) (by simp[results,results81,go_sem]) rfl ⟨rfl,((Kr _ w).setCell (λ _=>.inr rfl) _).setCell (λ _=>.inl rfl) _,k.o.count _⟩

def fillW(W:Nat->Nat)(i k z:Nat)(j:Nat):Nat:=if i<=j/\j<i+k then z else W j

theorem fillW_zero(W:Nat->Nat)(i z:Nat):fillW W i 0 z=W:=by funext j;rw [fillW,if_neg (by omega)]

theorem fillW_succ(W:Nat->Nat)(i k z:Nat):DN (fillW W i k z) (i+k) z=fillW W i (k+1) z:=by
 funext j
 simp only[DN,fillW]
 by_cases h:j=i+k
 .rw [if_pos h,if_pos (by omega)]
 .rw [if_neg h]
  by_cases h2:i<=j/\j<i+k
  .rw [if_pos h2,if_pos (by omega)]
  .rw [if_neg h2,if_neg (by omega)]

theorem AFill_yes(i k z:Nat)(a q n:Nat)(W:Nat->Nat)(w:World)(f:ArenaAt w a q W n)(G:i+k<=n)(r:z<18446744073709551616):
  Calls prog 195 #[.pointer (some a),i,k,.int .u64 z] w (Stored w a q n (fillW W i k z)):=by
 have I:=f.small
 have m:Bz n (i:Nat) (k:Nat)=true:=by simp[Bz];omega
 have s:=sE m
 have u:=sE r
 clear m r
 go_enter func195,ntmps195
 go_wp2_with fail
 refine(Ahas_any i k a q n W w f).mono ?_
 rintro e w' ⟨rfl,rfl⟩
 rw[s.o]
 go_wp2_with fail
 go_loopw [19] (λ y wr=>∃ j:Nat,j<=k/\y=.int .i64 j/\ArenaAt wr a q (fillW W i j z) n/\Kp (λ b=>b=a\/b=q) w wr) (λ y _=>k-(intOf y).toNat)
 case atStart=>exact ⟨0,by omega,rfl,by rw[fillW_zero];exact f,Kr _ _⟩
 case round=>
  obtain⟨j,H,rfl,d,l⟩:=hrel
  obtain⟨cap,c,C,D⟩:=d.head
  by_cases hjk:j<k
  .have A:(j:Int)<k:=by omega
   have B:=d.at_ (show i+j<n by omega)
   have F:=d.free (i+j)
   have g:=d.store (show i+j<n by omega) z u.o
   rw[fillW_succ] at g
   have t:=sE g
   obtain⟨x0,p⟩:∃ x,x=fillW W i j z (i+j):=⟨_,rfl⟩
   rw[<- p] at B
   clear g p
   go_wp2
   exact⟨⟨j+1,by omega,by go_num,t.o,l.setCell (λ _=>.inr rfl) _⟩,by simp only[intOf];omega⟩
  .have A:¬ (j:Int)<k:=by omega
   obtain rfl:j=k:=by omega
   have E:=d.freeA 1
   go_wp2
   exact bodyPost_ret (v:=.int .i64 0) (by simp[results,results195,go_sem]) rfl ⟨rfl,l.setCell (λ _=>.inl rfl) _,d.count _⟩

def MadeArena(w:World)(n:Nat)(e:Ending)(w':World):Prop:=
 ∃ a q,e=.returned (.tuple #[.pointer (some ⟨a,0,none⟩),(0:Int)])/\w.heap.size<=a/\w.heap.size<=q/\ArenaAt w' a q (λ _=>0) n/\Kp Aa w w'

def Dn(n:Int):Bool:=decide (16<=n/\n<=65536/\n%2=0)

theorem Fw:prog.underlying 49=some (.slice 79):=by kernel_rfl

theorem infoU64:(prog.info? 79).map (λ i=>(i.zero,i.size,i.bytes))=some (some (.int .u64 0),1,8):=by kernel_rfl

theorem ANew_yes(n:Nat)(w:World)(u:16<=n)(l:n<=65536)(x:n%2=0):Calls prog 146 #[n] w (MadeArena w n):=by
 have y:(n:Int)%2=0:=by omega
 go_enter func146,ntmps146
 go_wp2_with (at_make;obtain ⟨t,c,f,i,k⟩:=info_parts infoU64;go_loud (refine wpList_make_full _ rfl (.tmp 15) (.tmp 15) 49 rfl w.heap.size 79 t (.int .u64 0) 1 Fw c f i .i64 .i64 n n n rfl rfl rfl rfl (by rw[k];omega) (by unfold maxLen;omega) (Nat.le_refl _) ?_);intro w1 q m;clear c f i k)
 have d:Kp Aa w w1:=(Kr Aa w).grown m (λ _ e=>by cases e)
 have r:ArenaAt (w1.alloc (.cells #[.slice (some ⟨w.heap.size,0,none⟩) n n,.int .u64 0] 234)) w1.heap.size w.heap.size (λ _=>0) n:=by
  rcases q.2 with ⟨e,-⟩|⟨g,cap,a,e,-,o,z,-,A,s⟩
  .cases e
  .injection e with e1 _ e2
   injection e1 with e1
   injection e1 with e1 _
   subst e1 e2
   refine⟨⟨n,0,wN w1 _,Nat.le_refl _⟩,⟨a,((Kr Aa w1).alloc _).at_ o id,by omega,λ j p=>?_⟩,l,λ j p=>by omega⟩
   have b:(a.toList.take (n*1))[j]?=some (.int .u64 0):=by
    rw[s,show (Value.int .u64 0).cells=#[Value.int .u64 0] from rfl,toList_madeCells_one,List.getElem?_replicate,if_pos (by omega)]
   rw[List.getElem?_take_of_lt (by omega)] at b
   simpa using b
 exact bodyPost_ret (v:=.tuple #[.pointer (some w1.heap.size),(0:Int)]) (by simp[results,results146,go_sem]) rfl ⟨_,w.heap.size,rfl,d.size,Nat.le_refl _,r,d.alloc _⟩

theorem ANew_no(n:Int)(w:World)(a:Dn n=false):Calls prog 146 #[.int .i64 n] w λ e w'=>e=.returned (.tuple #[.pointer none,(2:Int)])/\w=w':=by
 have d:n<16\/(16<=n/\65536<n)\/(16<=n/\n<=65536/\¬ n%2=0):=by
  simp only[Dn,decide_eq_false_iff_not] at a
  omega
 clear a
 rcases d with b|⟨b,f⟩|⟨b,f,g⟩
 .go_enter func146,ntmps146
  go_wp2
  go_ret2
  exact⟨rfl,rfl⟩
 .go_enter func146,ntmps146
  go_wp2
  go_ret2
  exact⟨rfl,rfl⟩
 .obtain ⟨c,rfl⟩:=Int.eq_ofNat_of_zero_le (show 0<=n by omega)
  have i:(c:Int)%2=1:=by omega
  clear g
  go_enter func146,ntmps146
  go_wp2
  go_ret2
  exact⟨rfl,rfl⟩

theorem gran_at(a q n:Nat)(W:Nat->Nat)(w:World)(b:ArenaAt w a q W n):Calls prog 79 #[.pointer (some a)] w λ e w'=>e=.returned (.int .i64 ((n/2:Nat):Int))/\w=w':=by
 have c:=b.small
 go_enter func79,ntmps79
 go_wp2_with (go_at_call 136;refine (ALen_at a q n W _ b).mono ?_;rintro e w' ⟨rfl,rfl⟩)
 go_ret
 exact⟨by simp,rfl⟩

theorem gran_at'(a q n:Nat)(W:Nat->Nat)(w:World)(c:ArenaAt w a q W n):Calls prog 79 #[.pointer (some a)] w λ e w'=>e=.returned (.int .i64 ((n/2:Nat):Int))/\w'=w:=
 (gran_at a q n W w c).mono λ_ _ b=>⟨b.1,b.2.symm⟩

theorem SHead_at(g:Nat)(a q n:Nat)(W:Nat->Nat)(w:World)(hF:Au w)(k:ArenaAt w a q W n)(a3:g<n/2):
  Calls prog 76 #[.pointer (some a),g] w (FC (Ct (W (2*g))) (CE (W (2*g))) (EA (W (2*g))) (EX (W (2*g))) (DY (W (2*g))) w):=by
 have a5:=k.small
 have O:2*g<n:=by omega
 have a4:=k.lt_a
 obtain⟨w1,m⟩:∃ w1,w1=w.alloc (.cells #[.int .u8 0,(0:Int),(0:Int),(0:Int)] 111):=⟨_,rfl⟩
 have G:Kp Aa w w1:=by rw[m];exact (Kr _ w).alloc _
 have N:w1.heap[w.heap.size]?=some (.cells #[.int .u8 0,(0:Int),(0:Int),(0:Int)] 111 (0,0)):=by rw[m];exact wN w _
 have r:=k.Ac G
 have R:=hF.Ac G
 have a6:¬ (g:Int)<0:=by omega
 have a7:¬ ((n:Int)/2<=(g:Int)):=by omega
 have S:Sl ((2:Int)*(g:Int)=((2*g:Nat):Int)):=⟨by omega⟩
 have L:=sE (gran_at a q n W w1 r)
 have s:=sE (ALoad_yes (2*g) a q n W w1 r O)
 obtain⟨X,A⟩:∃ X,W (2*g)=X:=⟨_,rfl⟩
 have P:X<18446744073709551616:=by rw[<- A];exact k.fits _ O
 rw[A] at s ⊢
 have K:=sE (Decode_any X w1 R P)
 clear A P r
 go_enter func76,ntmps76
 go_wp2_with fail
 rw[<- m]
 clear m
 refine L.o.mono ?_
 rintro e w' ⟨rfl,rfl⟩
 go_wp2_with fail
 rw[S.o]
 refine s.o.mono ?_
 rintro e w' ⟨rfl,rfl⟩
 go_wp2_with fail
 refine K.o.mono ?_
 rintro e w2 ⟨rfl,Q⟩
 have f:=Q.at_ N id
 have Z:w2.cell? w.heap.size=some (.int .u8 0):=by simp[World.cell?,f]
 have a0:w2.cell? ⟨w.heap.size,1,none⟩=some (.int .i64 0):=by simp[World.cell?,f]
 have a1:w2.cell? ⟨w.heap.size,2,none⟩=some (.int .i64 0):=by simp[World.cell?,f]
 have a2:w2.cell? ⟨w.heap.size,3,none⟩=some (.int .i64 0):=by simp[World.cell?,f]
 have l:=Ab f
 have f00:=l 0
 have f01:=l 1
 have f02:=l 2
 have f03:=l 3
 have M:=G.then' Q
 have J:=sE f
 clear N f l L s K
 obtain⟨I,C⟩:∃ I,Ct X=I:=⟨_,rfl⟩
 have H1:=sE C
 rw[C]
 clear C
 obtain⟨p,E⟩:∃ x,CE X=x:=⟨_,rfl⟩
 obtain⟨ty,F⟩:∃ x,EA X=x:=⟨_,rfl⟩
 obtain⟨ln,B⟩:∃ x,EX X=x:=⟨_,rfl⟩
 obtain⟨sz,D⟩:∃ x,DY X=x:=⟨_,rfl⟩
 have T:=sE E
 have U:=sE F
 have T3:=sE B
 have V:=sE D
 rw[E,F,B,D]
 clear E F B D
 cases I with
 |true=>
  rw[if_pos rfl,if_pos rfl]
  dsimp only[Ao]
  go_wp2
  obtain⟨b,c⟩:∃ b,b=(((w2.setCell w.heap.size (.int .u8 p)).setCell ⟨w.heap.size,1,none⟩ (.int .i64 ty)).setCell ⟨w.heap.size,2,none⟩ (.int .i64 ln)).setCell ⟨w.heap.size,3,none⟩ (.int .i64 sz):=⟨_,rfl⟩
  rw[<- c]
  have d:b.heap[w.heap.size]?=some (.cells #[.int .u8 p,ty,ln,sz] 111 (0,0)):=by
   rw[c];exact bZ (bZ (bZ (bZ J.o (j:=0) _) (j:=1) _) (j:=2) _) (j:=3) _
  have H:Kp (λ i=>i=w.heap.size) w2 b:=by rw[c];exact ((((Kr (λ i=>i=w.heap.size) w2).setCell (λ _=>rfl) _).setCell (λ _=>rfl) _).setCell (λ _=>rfl) _).setCell (λ _=>rfl) _
  clear c
  have t:b.cell? w.heap.size=some (.int .u8 p):=by simp[World.cell?,d]
  have u:b.cell? ⟨w.heap.size,1,none⟩=some (.int .i64 ty):=by simp[World.cell?,d]
  have y:b.cell? ⟨w.heap.size,2,none⟩=some (.int .i64 ln):=by simp[World.cell?,d]
  have z:b.cell? ⟨w.heap.size,3,none⟩=some (.int .i64 sz):=by simp[World.cell?,d]
  refine bodyPost_ret (v:=.tuple #[Ao (p:Nat) (ty:Nat) (ln:Nat) (sz:Nat),(0:Int)]) (by simp[results,results76,go_sem,t,u,y,z,Ao]) rfl ⟨by rw[H1.o,T.o,U.o,T3.o,V.o];rfl,M.trans H (λ i Y k=>by omega)⟩
 |false=>
  rw[if_neg (by simp),if_neg (by simp)]
  dsimp only[Ao]
  go_wp2
  obtain⟨b,c⟩:∃ b,b=(((w2.setCell w.heap.size (.int .u8 0)).setCell ⟨w.heap.size,1,none⟩ (.int .i64 0)).setCell ⟨w.heap.size,2,none⟩ (.int .i64 0)).setCell ⟨w.heap.size,3,none⟩ (.int .i64 0):=⟨_,rfl⟩
  rw[<- c]
  have d:b.heap[w.heap.size]?=some (.cells #[.int .u8 0,(0:Int),(0:Int),(0:Int)] 111 (0,0)):=by
   rw[c];exact bZ (bZ (bZ (bZ J.o (j:=0) _) (j:=1) _) (j:=2) _) (j:=3) _
  have H:Kp (λ i=>i=w.heap.size) w2 b:=by rw[c];exact ((((Kr (λ i=>i=w.heap.size) w2).setCell (λ _=>rfl) _).setCell (λ _=>rfl) _).setCell (λ _=>rfl) _).setCell (λ _=>rfl) _
  clear c
  have t:b.cell? w.heap.size=some (.int .u8 0):=by simp[World.cell?,d]
  have u:b.cell? ⟨w.heap.size,1,none⟩=some (.int .i64 0):=by simp[World.cell?,d]
  have y:b.cell? ⟨w.heap.size,2,none⟩=some (.int .i64 0):=by simp[World.cell?,d]
  have z:b.cell? ⟨w.heap.size,3,none⟩=some (.int .i64 0):=by simp[World.cell?,d]
  refine bodyPost_ret (v:=.tuple #[Ao 0 0 0 0,(7:Int)]) (by simp[results,results76,go_sem,t,u,y,z,Ao]) rfl ⟨by rw[H1.o];rfl,M.trans H (λ i Y k=>by omega)⟩

def makeW(W:Nat->Nat)(g id ln S:Nat):Nat->Nat:=DN (fillW W (2*g) (2*S) 0) (2*g) (BA 1 id ln S)

set_option maxRecDepth 20000 in
theorem Make_yes(g c ln S:Nat)(a q n t J:Nat)(W:Nat->Nat)(ts:List TypR)(w:World)(hF:Au w)(b:ArenaAt w a q W n)(a3:TableAt w t J ts)
  (G:AV ts (c:Nat) (ln:Nat)=0) (I:BB ts (c:Nat) (ln:Nat)=(S:Nat)) (u:Am 1 (c:Nat) (ln:Nat) (S:Nat)=true) (b3:g+S<=n/2) (b2:0<S):
  Calls prog 149 #[.pointer (some a),.pointer (some t),g,c,ln] w (Stored w a q n (makeW W g c ln S)):=by
 have b5:=b.small
 have a0:Sl (Calls prog 135 #[.pointer (some t),c,ln] w (RK (.tuple #[.agg #[.int .u8 1,c,ln,S],(0:Int)]) w)):=
  ⟨(EE (c:Nat) (ln:Nat) t J ts w a3).mono λ e w' H=>by rw[BR,G,if_pos rfl,I] at H;exact H⟩
 have r:Sl (∀ j,Au j->Calls prog 193 #[.agg #[.int .u8 1,c,ln,S]] j (RK (.tuple #[.int .u64 (BA 1 c ln S:Nat),(0:Int)]) j)):=
  ⟨λ j a2=>Encode_yes 1 c ln S j a2 u⟩
 have C:Sl (BA 1 c ln S<18446744073709551616):=⟨encH_lt u⟩
 obtain⟨X,s⟩:∃ X,BA 1 c ln S=X:=⟨_,rfl⟩
 have Z:Sl (makeW W g c ln S=DN (fillW W (2*g) (2*S) 0) (2*g) X):=⟨by rw[<- s];rfl⟩
 rw[s] at r C
 have D:Sl ((2:Int)*(g:Int)=((2*g:Nat):Int)):=⟨by omega⟩
 have Y:Sl ((2:Int)*(S:Int)=((2*S:Nat):Int)):=⟨by omega⟩
 have a4:decide ((g:Int)<0)=false:=dF (by omega)
 have a5:decide ((n:Int)/2<(g:Int))=false:=dF (by omega)
 have a6:decide ((n:Int)/2-(g:Int)<(S:Int))=false:=dF (by omega)
 have b4:=b.lt_a
 clear G I u s
 go_enter func149,ntmps149
 go_wp2_with fail
 refine a0.o.mono ?_
 rintro e w2 ⟨rfl,x⟩
 have L:=b.Ac x
 have Q:=hF.Ac x
 obtain⟨d,m⟩:∃ d,d=w2.alloc (.cells #[.int .u8 1,c,ln,S] 111):=⟨_,rfl⟩
 have y:Kp Aa w2 d:=by rw[m];exact (Kr _ w2).alloc _
 have k:d.heap[w2.heap.size]?=some (.cells #[.int .u8 1,c,ln,S] 111 (0,0)):=by rw[m];exact wN w2 _
 have A:=L.Ac y
 have R:=Q.Ac y
 go_wp2_with fail
 rw[<- m]
 clear m
 have c0:d.cell? w2.heap.size=some (.int .u8 1):=by simp[World.cell?,k]
 have E:d.cell? ⟨w2.heap.size,1,none⟩=some (.int .i64 c):=by simp[World.cell?,k]
 have F:d.cell? ⟨w2.heap.size,2,none⟩=some (.int .i64 ln):=by simp[World.cell?,k]
 have l:d.cell? ⟨w2.heap.size,3,none⟩=some (.int .i64 S):=by simp[World.cell?,k]
 have i:=sE A
 go_wp2_with fail
 go_quiet ((go_at_call 79;with_reducible refine Calls.quiet_of_same (gran_at' a q n W _ ?_);(first|exact i.o|exact i.o.Ac (Kr Aa _).drew|exact i.o.Ac (Kp.Ah _)|exact i.o.Ac ((Kp.Ah _).drewN _))))
 obtain⟨p,v⟩:∃ p,p=d.drewN nq:=⟨_,rfl⟩
 rw[<- v]
 have f:Kp Aa d p:=by rw[v];exact Kp.Ah _
 clear v
 have M:=A.Ac f
 have T:=R.Ac f
 replace c0:=f.cell c0 (λ b=>b)
 replace E:=f.cell E (λ b=>b)
 replace F:=f.cell F (λ b=>b)
 replace l:=f.cell l (λ b=>b)
 clear i a4 a5 a6 k
 have B:=r.o p T
 have U:=sE B
 clear B r
 go_wp2_with fail
 refine U.o.mono ?_
 rintro e K ⟨rfl,z⟩
 have N:=M.Ac z
 have a7:2*g+2*S<=n:=by omega
 have V:=sE (AFill_yes (2*g) (2*S) 0 a q n W K N a7 (by omega))
 replace l:=z.cell l (λ b=>b)
 go_wp2_with fail
 rw[D.o,Y.o]
 refine V.o.mono ?_
 rintro e b1 ⟨rfl,a8,O⟩
 have a1:=sE (AStore_yes (2*g) X a q n _ b1 O (by omega) C.o)
 go_wp2_with fail
 rw[D.o]
 refine a1.o.mono ?_
 rintro e b6 ⟨rfl,a9,P⟩
 go_wp2
 go_ret
 refine⟨rfl,?_,by rw[Z.o];exact P⟩
 have b0:Kp Aa w K:=(((x.trans y (λ _ _ b=>b)).trans f (λ _ _ b=>b)).trans z (λ _ _ b=>b))
 exact((b0.Aw _).trans a8 (λ _ _ b=>b)).trans a9 (λ _ _ b=>b)

structure Sp where
 s:Nat
 a:Nat
 q:Nat
 t:Nat
 tq:Nat
 b:Nat
 bq:Nat
 n:Nat
 ts:List TypR

def Sp.own(P:Sp)(k:Nat):Prop:=k=P.a\/k=P.q\/k=P.bq

def Sp.all(P:Sp)(k:Nat):Prop:=k=0\/k=P.s\/k=P.a\/k=P.q\/k=P.t\/k=P.tq\/k=P.b\/k=P.bq

def Sp.apart(P:Sp):Prop:=
 (∀ k,P.own k->¬ k=0/\¬ k=P.s/\¬ k=P.t/\¬ k=P.tq/\¬ k=P.b)/\¬ P.a=P.bq/\¬ P.q=P.bq

structure SpaceAt(w:World)(P:Sp)(W:Nat->Nat)(f:Nat->Bool):Prop where
 hs:w.heap[P.s]?=some (.cells #[.pointer (some P.a),.pointer (some P.t),.pointer (some P.b)] 160 (0,0))
 ar:ArenaAt w P.a P.q W P.n
 tb:TableAt w P.t P.tq P.ts
 bt:AL w P.b P.bq f (P.n/2)
 fl:Au w
 ap:P.apart
 ev:P.n%2=0
 lt:∀ k,P.all k->k<w.heap.size

theorem SpaceAt.keep{S:Nat->Prop}{w w':World}{P:Sp}{W:Nat->Nat}{f:Nat->Bool}(a:SpaceAt w P W f)(k:Kp S w w')(b:∀ i,P.all i->¬ S i):SpaceAt w' P W f:=
 ⟨k.at_ a.hs (b _ (by simp[Sp.all])),a.ar.keep k (b _ (by simp[Sp.all])) (b _ (by simp[Sp.all])),a.tb.keep k (b _ (by simp[Sp.all])) (b _ (by simp[Sp.all])),
  a.bt.keep k (b _ (by simp[Sp.all])) (b _ (by simp[Sp.all])),a.fl.keep k (b _ (by simp[Sp.all])),a.ap,a.ev,λ i c=>Nat.lt_of_lt_of_le (a.lt i c) k.size⟩

theorem SpaceAt.Ac{w w':World}{P:Sp}{W:Nat->Nat}{f:Nat->Bool}(h:SpaceAt w P W f)(k:Kp Aa w w'):SpaceAt w' P W f:=h.keep k (λ _ _ h=>h)

theorem SpaceAt.words{w w':World}{P:Sp}{W c:Nat->Nat}{f:Nat->Bool}(b:SpaceAt w P W f)(k:Kp (λ i=>i=P.a\/i=P.q) w w')(d:ArenaAt w' P.a P.q c P.n):SpaceAt w' P c f:=by
 have l:=b.ap.1 P.a (.inl rfl)
 have m:=b.ap.1 P.q (.inr (.inl rfl))
 have g:=b.ap.2.1
 have j:=b.ap.2.2
 exact⟨k.at_ b.hs (by omega),d,b.tb.keep k (by omega) (by omega),b.bt.keep k (by omega) (by omega),b.fl.keep k (by omega),b.ap,b.ev,λ i e=>Nat.lt_of_lt_of_le (b.lt i e) k.size⟩

theorem SpaceAt.bits{w w':World}{P:Sp}{W:Nat->Nat}{f c:Nat->Bool}(a:SpaceAt w P W f)(k:Kp (λ i=>i=P.bq) w w')(d:AL w' P.b P.bq c (P.n/2)):SpaceAt w' P W c:=by
 have l:=a.ap.1 P.bq (.inr (.inr rfl))
 have g:=a.ap.2.1
 have j:=a.ap.2.2
 exact⟨k.at_ a.hs (by omega),a.ar.keep k (by omega) (by omega),a.tb.keep k (by omega) (by omega),d,a.fl.keep k (by omega),a.ap,a.ev,λ i e=>Nat.lt_of_lt_of_le (a.lt i e) k.size⟩

theorem SpaceAt.head{w:World}{P:Sp}{W:Nat->Nat}{f:Nat->Bool}(d:SpaceAt w P W f):
  w.cell? P.s=some (.pointer (some P.a))/\w.cell? ⟨P.s,1,none⟩=some (.pointer (some P.t))/\w.cell? ⟨P.s,2,none⟩=some (.pointer (some P.b)):=by
 have c:=d.hs
 exact⟨by simp[World.cell?,c],by simp[World.cell?,c],by simp[World.cell?,c]⟩

theorem FE(P:Sp)(W:Nat->Nat)(f:Nat->Bool)(w:World)(b:SpaceAt w P W f):
  Calls prog 89 #[.pointer (some P.s)] w λ e w'=>e=.returned (.int .i64 ((P.n/2:Nat):Int))/\w'=w:=by
 have i:=b.ar.small
 have c:=sE b.ar
 obtain⟨c0,d,g⟩:=b.head
 clear b
 go_enter func89,ntmps89
 go_wp2_with (go_at_call 136;refine (ALen_at P.a P.q P.n W _ c.o).mono ?_;rintro e w' ⟨rfl,rfl⟩)
 go_ret
 exact⟨by simp,rfl⟩

def Dx(m:Nat):Nat:=if m=1 then 2 else 3

def Bd(W:Nat->Nat)(g m:Nat):Nat->Nat:=if m=0 then W else DN W (2*g) (BA (Dx m) 0 0 m)

def LaidGap(P:Sp)(W:Nat->Nat)(f:Nat->Bool)(w:World)(e:Ending)(w':World):Prop:=
 e=.returned (.tuple #[])/\Kp (λ i=>i=P.a\/i=P.q) w w'/\SpaceAt w' P W f

theorem gap_one(g:Nat)(P:Sp)(W:Nat->Nat)(f:Nat->Bool)(w:World)(b:SpaceAt w P W f)(V:g+1<=P.n/2):
  Calls prog 147 #[.pointer (some P.s),g,(1:Int)] w (LaidGap P (DN W (2*g) (BA 2 0 0 1)) f w):=by
 have Y:=b.ar.small
 have l:Am 2 0 0 1=true:=by simp[Am] <;> omega
 have p:Sl (BA 2 0 0 1<18446744073709551616):=⟨encH_lt (tag:=2) (ty:=0) (ln:=0) (sz:=1) l⟩
 have k:Sl (∀ d,Au d->Calls prog 193 #[.agg #[.int .u8 2,(0:Int),(0:Int),(1:Int)]] d (RK (.tuple #[.int .u64 (BA 2 0 0 1:Nat),(0:Int)]) d)):=
  ⟨λ d G=>Encode_yes 2 0 0 1 d G l⟩
 have C:Sl (Calls prog 192 #[.int .u8 2,(1:Int)] w (RK (.tuple #[.agg #[.int .u8 2,(0:Int),(0:Int),(1:Int)],(0:Int)]) w)):=
  ⟨Gap_yes 2 1 w b.fl (by omega) (by omega) (by omega)⟩
 have D:Sl ((2:Int)*(g:Int)=((2*g:Nat):Int)):=⟨by omega⟩
 have F:2*g<P.n:=by omega
 have r:=sE b
 obtain⟨c0,M,N⟩:=b.head
 have O:¬ (1:Int)<1:=by omega
 have Q:((1:Int)==1)=true:=by simp <;> omega
 obtain⟨X,v⟩:∃ X,BA 2 0 0 1=X:=⟨_,rfl⟩
 rw[v] at p k ⊢
 clear b l v
 go_enter func147,ntmps147
 go_wp2_with fail
 refine C.o.mono ?_
 rintro e w1 ⟨rfl,H⟩
 obtain⟨w2,j⟩:∃ w2,w2=w1.alloc (.cells #[.int .u8 2,(0:Int),(0:Int),(1:Int)] 111):=⟨_,rfl⟩
 have I:Kp Aa w1 w2:=by rw[j];exact (Kr _ w1).alloc _
 have c:w2.heap[w1.heap.size]?=some (.cells #[.int .u8 2,(0:Int),(0:Int),(1:Int)] 111 (0,0)):=by rw[j];exact wN w1 _
 have u:=H.then' I
 have S2:=r.o.Ac u
 have m:=S2.fl
 have R:w2.cell? w1.heap.size=some (.int .u8 2):=by simp[World.cell?,c]
 have S:w2.cell? ⟨w1.heap.size,1,none⟩=some (.int .i64 0):=by simp[World.cell?,c]
 have T:w2.cell? ⟨w1.heap.size,2,none⟩=some (.int .i64 0):=by simp[World.cell?,c]
 have U:w2.cell? ⟨w1.heap.size,3,none⟩=some (.int .i64 1):=by simp[World.cell?,c]
 have B:=sE (k.o w2 m)
 have t:=sE S2
 clear m S2 k r c
 go_wp2_with fail
 rw[<- j]
 clear j
 go_wp2_with fail
 refine B.o.mono ?_
 rintro e J ⟨rfl,x⟩
 have i:=t.o.Ac x
 obtain⟨K,L,c⟩:=i.head
 have A:=sE (AStore_yes (2*g) X P.a P.q P.n W J i.ar F p.o)
 have E:=sE i
 clear i t
 go_wp2_with fail
 rw[D.o]
 refine A.o.mono ?_
 rintro e Z ⟨rfl,y,z⟩
 go_wp2
 go_end0
 exact⟨rfl,((u.then' x).Aw _).trans y (λ _ _ b=>b),E.o.words y z⟩

theorem gap_more(g m:Nat)(P:Sp)(W:Nat->Nat)(f:Nat->Bool)(w:World)(b:SpaceAt w P W f)(Z:1<m)(Y:g+m<=P.n/2):
  Calls prog 147 #[.pointer (some P.s),g,m] w (LaidGap P (DN W (2*g) (BA 3 0 0 m)) f w):=by
 have a0:=b.ar.small
 have l:Am 3 0 0 (m:Nat)=true:=by simp[Am] <;> omega
 have r:Sl (BA 3 0 0 m<18446744073709551616):=⟨encH_lt (tag:=3) (ty:=0) (ln:=0) (sz:=m) l⟩
 have k:Sl (∀ d,Au d->Calls prog 193 #[.agg #[.int .u8 3,(0:Int),(0:Int),m]] d (RK (.tuple #[.int .u64 (BA 3 0 0 m:Nat),(0:Int)]) d)):=
  ⟨λ d H=>Encode_yes 3 0 0 m d H l⟩
 have D:Sl (Calls prog 192 #[.int .u8 3,m] w (RK (.tuple #[.agg #[.int .u8 3,(0:Int),(0:Int),m],(0:Int)]) w)):=
  ⟨Gap_yes 3 m w b.fl (by omega) (by omega) (by omega)⟩
 have E:Sl ((2:Int)*(g:Int)=((2*g:Nat):Int)):=⟨by omega⟩
 have G:2*g<P.n:=by omega
 have t:=sE b
 obtain⟨c0,N,O⟩:=b.head
 have Q:¬ ((m:Nat):Int)<1:=by omega
 have R:(((m:Nat):Int)==1)=false:=by simp <;> omega
 obtain⟨X,x⟩:∃ X,BA 3 0 0 m=X:=⟨_,rfl⟩
 rw[x] at r k ⊢
 clear b l x
 go_enter func147,ntmps147
 go_wp2_with fail
 refine D.o.mono ?_
 rintro e w1 ⟨rfl,I⟩
 obtain⟨w2,j⟩:∃ w2,w2=w1.alloc (.cells #[.int .u8 3,(0:Int),(0:Int),m] 111):=⟨_,rfl⟩
 have J:Kp Aa w1 w2:=by rw[j];exact (Kr _ w1).alloc _
 have c:w2.heap[w1.heap.size]?=some (.cells #[.int .u8 3,(0:Int),(0:Int),m] 111 (0,0)):=by rw[j];exact wN w1 _
 have v:=I.then' J
 have S2:=t.o.Ac v
 have p:=S2.fl
 have S:w2.cell? w1.heap.size=some (.int .u8 3):=by simp[World.cell?,c]
 have T:w2.cell? ⟨w1.heap.size,1,none⟩=some (.int .i64 0):=by simp[World.cell?,c]
 have U:w2.cell? ⟨w1.heap.size,2,none⟩=some (.int .i64 0):=by simp[World.cell?,c]
 have V:w2.cell? ⟨w1.heap.size,3,none⟩=some (.int .i64 m):=by simp[World.cell?,c]
 have C:=sE (k.o w2 p)
 have u:=sE S2
 clear p S2 k t c
 go_wp2_with fail
 rw[<- j]
 clear j
 go_wp2_with fail
 refine C.o.mono ?_
 rintro e K ⟨rfl,y⟩
 have i:=u.o.Ac y
 obtain⟨L,M,c⟩:=i.head
 have B:=sE (AStore_yes (2*g) X P.a P.q P.n W K i.ar G r.o)
 have F:=sE i
 clear i u
 go_wp2_with fail
 rw[E.o]
 refine B.o.mono ?_
 rintro e a1 ⟨rfl,z,A⟩
 go_wp2
 go_end0
 exact⟨rfl,((v.then' y).Aw _).trans z (λ _ _ b=>b),F.o.words z A⟩

theorem gap_nil(g:Int)(P:Sp)(W:Nat->Nat)(f:Nat->Bool)(w:World)(a:SpaceAt w P W f):
  Calls prog 147 #[.pointer (some P.s),.int .i64 g,(0:Int)] w (LaidGap P W f w):=by
 have b:=sE a
 clear a
 go_enter func147,ntmps147
 go_wp2_with fail
 go_end0
 exact⟨rfl,Kr _ _,b.o⟩

theorem gap_any(g m:Nat)(P:Sp)(W:Nat->Nat)(f:Nat->Bool)(w:World)(a:SpaceAt w P W f)(b:g+m<=P.n/2):
  Calls prog 147 #[.pointer (some P.s),g,m] w (LaidGap P (Bd W g m) f w):=by
 by_cases h0:m=0
 .subst h0
  rw[Bd,if_pos rfl]
  exact gap_nil g P W f w a
 .rw [Bd,if_neg h0]
  by_cases h1:m=1
  .subst h1
   exact gap_one g P W f w a b
  .rw [Dx,if_neg h1]
   exact gap_more g m P W f w a (by omega) b

def Di(ts:List TypR)(c:Cel):Prop:=
 Am (c.tag:Nat) (c.ty:Nat) (c.ln:Nat) (c.sz:Nat)=true/\(c.tag=1->AV ts (c.ty:Nat) (c.ln:Nat)=0/\BB ts (c.ty:Nat) (c.ln:Nat)=(c.sz:Nat))

structure CellsAt(P:Sp)(W:Nat->Nat)(cs:List Cel):Prop where
 tl:AC 0 cs (P.n/2)
 hd:HeadsAt W cs
 ok:∀ c∈cs,Di P.ts c

theorem AC.app{xs c:List Cel}{a b d:Nat}(e:AC a xs b)(k:AC b c d):AC a (xs++c) d:=@AC.append 0 _ _ _ _ _ e k

theorem AC.uniq:∀ {xs:List Cel} {a b d:Nat},AC a xs b->AC a xs d->b=d
 |[],a,b,d,h,k=>by rw[<- show a=b from h,<- show a=d from k]
 |c::xs,a,b,d,⟨h1,h2,h3⟩,⟨k1,k2,k3⟩=>AC.uniq h3 k3

theorem AC.only:∀ {xs:List Cel} {a b:Nat} {c d:Cel},AC a xs b->c∈xs->d∈xs->c.g=d.g->c=d
 |x::xs,a,b,c,d,⟨h1,h2,h3⟩,hc,hd,e=>by
  rcases List.mem_cons.1 hc with e1|e1
  .rcases List.mem_cons.1 hd with e2|e2
   .rw [e1,e2]
   .have:=AC.mem h3 e2
    subst e1
    omega
  .rcases List.mem_cons.1 hd with e2|e2
   .have:=AC.mem h3 e1
    subst e2
    omega
   .exact AC.only h3 e1 e2 e

theorem CellsAt.swap{P:Sp}{W g:Nat->Nat}{j mid f m:List Cel}{x y:Nat}(e:CellsAt P W (j++(mid++m)))(i:AC 0 j x)(p:AC x mid y)(q:AC x f y)
  (l:∀ k,(k<x\/y<=k)->g (2*k)=W (2*k)) (o:HeadsAt g f) (r:∀ c∈f,Di P.ts c):CellsAt P g (j++(f++m)):=by
 obtain⟨b,s,t⟩:=e.tl.split
 obtain rfl:=i.uniq s
 obtain⟨d,u,n⟩:=t.split
 obtain rfl:=p.uniq u
 refine⟨i.app (q.app n),λ c a=>?_,λ c a=>?_⟩
 .rcases List.mem_append.1 a with a|a
  .have:=i.mem a
   rw[l _ (.inl (by omega))]
   exact e.hd c (List.mem_append.2 (.inl a))
  .rcases List.mem_append.1 a with a|a
   .exact o c a
   .have:=n.mem a
    rw[l _ (.inr (by omega))]
    exact e.hd c (List.mem_append.2 (.inr (List.mem_append.2 (.inr a))))
 .rcases List.mem_append.1 a with a|a
  .exact e.ok c (List.mem_append.2 (.inl a))
  .rcases List.mem_append.1 a with a|a
   .exact r c a
   .exact e.ok c (List.mem_append.2 (.inr (List.mem_append.2 (.inr a))))

theorem CQ{W:Nat->Nat}{a m k:Nat}(b:k=a->m=0):Bd W a m (2*k)=W (2*k):=by
 rw[Bd]
 split
 .rfl
 .rename_i c
  rw[DN,if_neg (λ e=>c (b (by omega)))]

theorem EW{W:Nat->Nat}{a m:Nat}(h:0<m):Bd W a m (2*a)=BA (Dx m) 0 0 m:=by
 rw[Bd,if_neg (by omega),DN,if_pos rfl]

theorem Co{g m:Nat}{c:Cel}(h:c∈gapL g m):0<m/\c=⟨g,Dx m,0,0,m⟩:=by
 rw[gapL] at h
 split at h
 .cases h
 .exact ⟨by omega,List.mem_singleton.1 h⟩

theorem gapTag_or(m:Nat):(m=1/\Dx m=2)\/(¬ m=1/\Dx m=3):=by
 rw[Dx]
 by_cases h:m=1
 .exact .inl ⟨h,by rw[if_pos h]⟩
 .exact .inr ⟨h,by rw[if_neg h]⟩

theorem gap_ok{ts:List TypR}{g m:Nat}(b:0<m)(c:m<=65536):Di ts ⟨g,Dx m,0,0,m⟩:=by
 have d:=gapTag_or m
 refine⟨?_,λ a=>?_⟩
 .simp only[Am,decide_eq_true_eq]
  omega
 .exact absurd a (by show ¬ Dx m=1;omega)

theorem makeW_at(W:Nat->Nat)(g a ln S:Nat):makeW W g a ln S (2*g)=BA 1 a ln S:=by
 rw[makeW,DN,if_pos rfl]

theorem makeW_ne{W:Nat->Nat}{g a ln S k:Nat}(c:0<S)(b:k<g\/g+S<=k):makeW W g a ln S (2*k)=W (2*k):=by
 rw[makeW,DN,if_neg (by omega),fillW,if_neg (by omega)]

def Ak(cs:List Cel)(i:Nat):Bool:=cs.any λ c=>c.tag==1&&c.g==i

theorem Ba(xs a:List Cel)(i:Nat):Ak (xs++a) i=(Ak xs i||Ak a i):=by simp[Ak]

theorem DJ(g m i:Nat):Ak (gapL g m) i=false:=by
 have b:=gapTag_or m
 rw[Ak,List.any_eq_false]
 intro c a
 obtain⟨_,rfl⟩:=Co a
 simp
 omega

theorem startOf_off{xs:List Cel}{a b i:Nat}(d:AC a xs b)(f:i<a\/b<=i):Ak xs i=false:=by
 rw[Ak,List.any_eq_false]
 intro c e
 have:=d.mem e
 simp
 omega

theorem startOf_gaps{xs:List Cel}(a:∀ c∈xs,¬ c.tag=1)(i:Nat):Ak xs i=false:=by
 rw[Ak,List.any_eq_false]
 intro c b
 have:=a c b
 simp[this]

def putL(pre:List Cel)(c:Cel)(post:List Cel)(g id ln S:Nat):List Cel:=
 pre++((gapL c.g (g-c.g)++⟨g,1,id,ln,S⟩::gapL (g+S) (c.fin-g-S))++post)

def putW(W:Nat->Nat)(c:Cel)(g id ln S:Nat):Nat->Nat:=Bd (Bd (makeW W g id ln S) c.g (g-c.g)) (g+S) (c.fin-g-S)

theorem put_cells{P:Sp}{W:Nat->Nat}{q p:List Cel}{c:Cel}{g f ln S:Nat}(C:P.n<=65536)(l:CellsAt P W (q++c::p))(r:c.g<=g)(s:g+S<=c.fin)(m:0<S)
  (t:Di P.ts ⟨g,1,f,ln,S⟩):CellsAt P (putW W c g f ln S) (putL q c p g f ln S):=by
 obtain⟨x,v,w⟩:=l.tl.split
 obtain⟨e,u,z⟩:=w
 have B:=z.le
 have o:c.fin=x+c.sz:=by rw[Cel.fin,e]
 rw[o] at s
 refine CellsAt.swap (mid:=[c]) (x:=x) (y:=x+c.sz) l v ⟨e,u,rfl⟩ ?_ ?_ ?_ ?_
 .rw [e,o]
  rw[e] at r
  have i:=Eb x (g-x)
  rw[show x+(g-x)=g by omega] at i
  have j:=Eb (g+S) (x+c.sz-g-S)
  rw[show g+S+(x+c.sz-g-S)=x+c.sz by omega] at j
  exact i.app ⟨rfl,m,j⟩
 .intro k A
  rw[putW,CQ (by omega),CQ (by omega),makeW_ne m (by omega)]
 .intro d a
  rcases List.mem_append.1 a with a|a
  .obtain ⟨b,rfl⟩:=Co a
   dsimp only
   rw[putW,CQ (by omega),EW b]
  .rcases List.mem_cons.1 a with rfl|a
   .dsimp only
    rw[putW,CQ (by omega),CQ (by omega),makeW_at]
   .obtain ⟨b,rfl⟩:=Co a
    dsimp only
    rw[putW,EW b]
 .intro d a
  rcases List.mem_append.1 a with a|a
  .obtain ⟨b,rfl⟩:=Co a
   exact gap_ok b (by omega)
  .rcases List.mem_cons.1 a with rfl|a
   .exact t
   .obtain ⟨b,rfl⟩:=Co a
    exact gap_ok b (by omega)

theorem put_starts{P:Sp}{W:Nat->Nat}{f:Nat->Bool}{d b:List Cel}{c:Cel}{g a ln S H:Nat}(m:∀ i,i<H->f i=Ak (d++c::b) i)(n:¬ c.tag=1)(o:g<H):
  ∀ i,i<H->Ex f H (g:Nat) 1 true i=Ak (putL d c b g a ln S) i:=by
 intro i k
 have l:Bz H (g:Nat) 1=true:=by simp[Bz];omega
 have j:=m i k
 rw[show d++c::b=d++([c]++b) from rfl,Ba,Ba,startOf_gaps (xs:=[c]) (by simpa using n),Bool.false_or] at j
 rw[Ex,if_pos l,putL,Ba,Ba,Ba,DJ,show (⟨g,1,a,ln,S⟩::gapL (g+S) (c.fin-g-S):List Cel)=[⟨g,1,a,ln,S⟩]++gapL (g+S) (c.fin-g-S) from rfl,Ba,DJ,Bool.false_or,Bool.or_false]
 simp only[Ck]
 by_cases e:i=g
 .subst e
  rw[if_pos (by simp)]
  simp[Ak]
 .rw [if_neg (by simp;omega),j]
  have:Ak [(⟨g,1,a,ln,S⟩:Cel)] i=false:=by simp[Ak];omega
  rw[this,Bool.false_or]

def dropL(p1 p2:List Cel)(x y:Nat):List Cel:=p1++(gapL x (y-x)++p2)

theorem drop_cells{P:Sp}{W:Nat->Nat}{c mid e:List Cel}{x y:Nat}(l:P.n<=65536)(g:CellsAt P W (c++(mid++e)))(i:AC 0 c x)(a:AC x mid y)(m:x<y)(o:y<=P.n/2):
  CellsAt P (Bd W x (y-x)) (dropL c e x y):=by
 refine CellsAt.swap (mid:=mid) (x:=x) (y:=y) g i a ?_ ?_ ?_ ?_
 .have f:=Eb x (y-x)
  rwa [show x+(y-x)=y by omega] at f
 .intro k j
  rw[CQ (by omega)]
 .intro d b
  obtain⟨a,rfl⟩:=Co b
  dsimp only
  rw[EW a]
 .intro d b
  obtain⟨a,rfl⟩:=Co b
  exact gap_ok a (by omega)

theorem drop_starts{f:Nat->Bool}{j a k b:List Cel}{c:Cel}{x y H:Nat}(r:∀ i,i<H->f i=Ak (j++(a++c::b++k)) i)(m:AC 0 (j++(a++c::b++k)) H)(n:∀ d∈a,¬ d.tag=1)(o:∀ d∈b,¬ d.tag=1):
  ∀ i,i<H->Ex f H (c.g:Nat) 1 false i=Ak (dropL j k x y) i:=by
 intro i p
 have A:=m.mem (c:=c) (by simp)
 have q:Bz H (c.g:Nat) 1=true:=by simp[Bz];omega
 obtain⟨w,s,t⟩:=m.split
 obtain⟨z,u,v⟩:=t.split
 have B:=u.mem (c:=c) (by simp)
 have l:=r i p
 rw[Ba,Ba,show a++c::b=a++([c]++b) from rfl,Ba,Ba,startOf_gaps n,startOf_gaps o,Bool.false_or,Bool.or_false] at l
 rw[Ex,if_pos q,dropL,Ba,Ba,DJ,Bool.false_or]
 simp only[Ck]
 by_cases e:i=c.g
 .subst e
  rw[if_pos (by simp),startOf_off s (by omega),startOf_off v (by omega)]
  rfl
 .rw [if_neg (by simp;omega),l]
  have:Ak [c] i=false:=by simp[Ak];omega
  rw[this,Bool.false_or]

theorem obj_ok{ts:List TypR}(o:ts.length<=64){a n:Int}(b:AV ts a n=0):
  ∃ i l S:Nat,a=(i:Nat)/\n=(l:Nat)/\BB ts a n=(S:Nat)/\0<S/\S<=65536/\Di ts ⟨0,1,i,l,S⟩:=by
 cases hx:typeOf ts a with
 |none=>rw [AV,hx] at b;cases b
 |some x=>
  have d:AV ts a n=AU x.k x.wds x.m n:=by rw[AV,hx]
  have e:BB ts a n=FK x.k x.wds n:=by rw[BB,hx]
  obtain⟨i,f,_,u⟩:=Es hx
  obtain⟨p,g,q,r,s⟩:=Ec (d.symm.trans b)
  have v:=Bj (d.symm.trans b)
  obtain⟨l,rfl⟩:=Int.eq_ofNat_of_zero_le g
  have j:0<=FK x.k x.wds (l:Nat):=by rw[FK];omega
  obtain⟨S,c⟩:=Int.eq_ofNat_of_zero_le j
  have t:(S:Int)=(AZ x.k x.wds (l:Nat)+2)/2:=c.symm
  refine⟨i+1,l,S,f,rfl,e.trans c,by omega,by omega,?_,λ _=>?_⟩
  .simp only[Am,decide_eq_true_eq]
   omega
  .dsimp only
   rw[<- f]
   exact⟨b,e.trans c⟩

theorem Di.move{ts:List TypR}{g tag ty ln sz:Nat}(b:Di ts ⟨g,tag,ty,ln,sz⟩)(a:Nat):Di ts ⟨a,tag,ty,ln,sz⟩:=b

theorem tiles_fin:∀ {xs:List Cel} {a b j:Nat},AC a xs b->(∀ d∈xs,d.fin<=j)->a<=j->b<=j
 |[],a,b,j,h,k,e=>by rw[<- show a=b from h];exact e
 |c::xs,a,b,j,⟨h1,h2,h3⟩,k,e=>tiles_fin h3 (λ d f=>k d (List.mem_cons_of_mem _ f)) (by
   have:=k c (List.mem_cons_self ..)
   rw[Cel.fin,h1] at this
   exact this)

def cellOf(cs:List Cel)(g:Int):Option Cel:=cs.find? λ c=>decide (g<(c.fin:Nat))

def DW(ts:List TypR)(H:Nat)(cs:List Cel)(g id n:Int):Int:=
 if AV ts id n≠0 then AV ts id n else if g<0\/(H:Int)<=g then 2 else
  match cellOf cs g with
  |none=>3
  |some c=>if c.tag=1\/(c.fin:Int)-g<BB ts id n then 3 else 0

theorem cellOf_at{a f:List Cel}{c:Cel}{g:Int}(b:∀ d∈a,¬ g<(d.fin:Nat))(e:g<(c.fin:Nat)):cellOf (a++c::f) g=some c:=by
 rw[cellOf,List.find?_append,List.find?_eq_none.2 (by simpa using b),Option.none_or,List.find?_cons_of_pos (by simpa using e)]

theorem cell_split{cs:List Cel}{a b g:Nat}(i:AC a cs b)(j:a<=g)(k:g<b):∃ e c f,cs=e++c::f/\c.g<=g/\g<c.fin/\(∀ d∈e,d.fin<=c.g):=by
 obtain⟨e,c,f,rfl,m,n⟩:=i.at_ j k
 refine⟨e,c,f,rfl,m,n,λ d l=>?_⟩
 obtain⟨x,o,p⟩:=i.split
 have:=o.mem l
 rw[p.1,Cel.fin]
 omega

def EndsObj(p:List Cel):Prop:=p=[]\/∃ q d,p=q++[d]/\d.tag=1

def Et(g:Nat)(pre:List Cel)(x y:Nat):Bool->Prop
 |false=>∃ p1 g1,pre=p1++g1/\(∀ d∈g1,¬ d.tag=1)/\EndsObj p1/\AC 0 p1 x/\∀ d∈pre,d.g<g
 |true=>∃ p1 g1 c g2,pre=p1++(g1++c::g2)/\c.g=g/\c.tag=1/\(∀ d∈g1,¬ d.tag=1)/\(∀ d∈g2,¬ d.tag=1)/\EndsObj p1/\AC 0 p1 x/\AC x (g1++c::g2) y

theorem FL{cs:List Cel}{g:Nat}(a:Ak cs g=true):∃ c∈cs,c.tag=1/\c.g=g:=by
 rw[Ak,List.any_eq_true] at a
 obtain⟨c,b,a⟩:=a
 simp at a
 exact⟨c,b,a.1,a.2⟩

theorem AC.fin_at{c rest:List Cel}{x:Cel}{a b:Nat}(f:AC a (c++x::rest) b):AC a (c++[x]) x.fin/\AC x.fin rest b/\AC a c x.g:=by
 obtain⟨k,d,j⟩:=f.split
 obtain⟨e,i,l⟩:=j
 subst e
 exact⟨d.app ⟨rfl,i,rfl⟩,l,d⟩

theorem drop_before{g H:Nat}{cs f rest:List Cel}{c:Cel}{x y:Nat}(j:AC 0 cs H)(B:cs=f++c::rest)(A:Ak cs g=true)(a:Et g f x y false):
  c.g<=g/\(c.tag=1->¬ c.g=g->Et g (f++[c]) c.fin y false)/\(c.tag=1->c.g=g->Et g (f++[c]) x c.fin true)/\(¬ c.tag=1->¬ c.g=g/\Et g (f++[c]) x c.fin false):=by
 obtain⟨w,r,m,s,t,n,u⟩:=a
 obtain⟨o,b,D,G⟩:=FL A
 rw[B] at j b
 obtain⟨l,z,E⟩:=j.fin_at
 have F:0<c.sz:=(j.mem (c:=c) (by simp)).2.2
 have C:c.g<=g:=by
  rcases List.mem_append.1 b with b|b
  .have:=u o b;omega
  .rcases List.mem_cons.1 b with e|b
   .rw [<- e];omega
   .have:=z.mem b
    rw[Cel.fin] at this
    omega
 have v:∀ d∈f++[c],¬ c.g=g->d.g<g:=λ d a p=>by
  rcases List.mem_append.1 a with a|a
  .exact u d a
  .rw [List.mem_singleton.1 a];omega
 refine⟨C,λ i q=>?_,λ i q=>?_,λ i=>?_⟩
 .exact ⟨f++[c],[],by simp,(λ d a=>by cases a),.inr ⟨f,c,rfl,i⟩,l,λ d a=>v d a q⟩
 .refine ⟨w,r,c,[],by rw[m,List.append_assoc],q,i,s,λ d a=>by (cases a),t,n,?_⟩
  rw[m,List.append_assoc] at l
  obtain⟨k,u1,u2⟩:=l.split
  obtain rfl:=n.uniq u1
  exact u2
 .have p:¬ c.g=g:=λ e=>by
   have:=j.only (c:=c) (d:=o) (by simp) b (by omega)
   rw[this] at i
   exact i D
  exact⟨p,w,r++[c],by rw[m,List.append_assoc],λ d a=>by
   rcases List.mem_append.1 a with a|a
   .exact s d a
   .rw [List.mem_singleton.1 a];exact i,t,n,λ d a=>v d a p⟩

theorem drop_behind{g H:Nat}{cs e rest:List Cel}{c:Cel}{x y:Nat}(j:AC 0 cs H)(u:cs=e++c::rest)(a:Et g e x y true):
  g<c.g/\(¬ c.tag=1->Et g (e++[c]) x c.fin true):=by
 obtain⟨w,m,o,n,b,p,q,r,s,t,i,A⟩:=a
 rw[u] at j
 obtain⟨f,z,l⟩:=j.fin_at
 refine⟨?_,λ v=>?_⟩
 .have:=l.mem (c:=o) (by rw[b];simp)
  omega
 .refine ⟨w,m,o,n++[c],by rw[b];simp,p,q,r,λ d a=>?_,t,i,?_⟩
  .rcases List.mem_append.1 a with a|a
   .exact s d a
   .rw [List.mem_singleton.1 a];exact v
  .rw [b,List.append_assoc] at f
   obtain⟨k,u1,u2⟩:=f.split
   obtain rfl:=i.uniq u1
   simpa using u2

def Dj(cs:List Cel)(g:Nat)(p1 g1:List Cel)(c:Cel)(g2 p2:List Cel)(x y:Nat):Prop:=
 cs=p1++(g1++c::g2++p2)/\c.g=g/\c.tag=1/\(∀ d∈g1,¬ d.tag=1)/\(∀ d∈g2,¬ d.tag=1)/\EndsObj p1/\(p2=[]\/∃ d q,p2=d::q/\d.tag=1)/\AC 0 p1 x/\AC x (g1++c::g2) y/\x<y

theorem drop_end{g H:Nat}{cs i rest:List Cel}{x y:Nat}(w:AC 0 cs H)(u:cs=i++rest)(s:Et g i x y true)(t:rest=[]\/∃ d q,rest=d::q/\d.tag=1):
  ∃ e a c b v,Dj cs g e a c b v x y:=by
 obtain⟨e,a,o,b,j,k,l,m,n,p,r,f⟩:=s
 have:=f.mem (c:=o) (by simp)
 exact⟨e,a,o,b,rest,by rw[u,j];simp,k,l,m,n,p,t,r,f,by omega⟩

theorem drop_not{g:Nat}{cs:List Cel}{x y:Nat}(d:Ak cs g=true):¬ Et g cs x y false:=by
 rintro ⟨l,f,e,i,j,k,a⟩
 obtain⟨c,b,_,m⟩:=FL d
 have:=a c b
 omega

theorem Dj.cells{P:Sp}{W:Nat->Nat}{cs l a f m:List Cel}{c:Cel}{g x y:Nat}(r:P.n<=65536)(k:CellsAt P W cs)(p:Dj cs g l a c f m x y):CellsAt P (Bd W x (y-x)) (dropL l m x y)/\y<=P.n/2:=by
 obtain⟨e,v,w,z,A,B,C,i,j,q⟩:=p
 subst e
 obtain⟨b,s,t⟩:=k.tl.split
 obtain rfl:=i.uniq s
 obtain⟨d,u,o⟩:=t.split
 obtain rfl:=j.uniq u
 exact⟨drop_cells (mid:=a++c::f) r k i j q o.le,o.le⟩

theorem Dj.starts{f:Nat->Bool}{cs a d j b:List Cel}{c:Cel}{g x y H:Nat}(o:∀ i,i<H->f i=Ak cs i)(p:AC 0 cs H)(k:Dj cs g a d c j b x y):
  ∀ i,i<H->Ex f H (g:Nat) 1 false i=Ak (dropL a b x y) i:=by
 obtain⟨e,l,q,m,n,r,s,t,u,v⟩:=k
 subst e
 subst l
 exact drop_starts o p m n

end

end Go.Proofs.YtfkedlgpgmaemaaGreatDoor
