/-
  Lemmas for the laws, together: Space1.
-/
import Derived.Test.YtmfajopmppfldaaGreatDoorQac
import Derived.Test.YtmfajopmppfldaaGreatDoorQad
import Derived.Test.YtmfajopmppfldaaGreatDoorQaf
import Derived.BigQuiet
import Derived.Deep.RegionHeld3
set_option linter.unusedVariables false
set_option maxHeartbeats 16000000
namespace Go.Proofs.YtmfajopmppfldaaGreatDoor
open Tryz
section
open Go.RowKit

structure ArenaAt(w:World)(a q:Nat)(W:Nat->Nat)(n:Nat):Prop where
 ha:∃ cap c,w.heap[a]?=some (.cells #[.slice (some ⟨q,0,none⟩) n cap,.int .u64 c] 173 (0,0))/\n<=cap
 hq:∃ cs,w.heap[q]?=some (.cells cs 55 (0,0))/\n<=cs.size/\∀ j,j<n->cs[j]?=some (.int .u64 (W j:Nat))
 small:n<=65536
 fits:∀ j,j<n->W j<18446744073709551616

theorem ArenaAt.keep{S:Nat->Prop}{w w':World}{a q n:Nat}{W:Nat->Nat}(h:ArenaAt w a q W n)(k:Kp S w w')(ha:¬ S a)(hq:¬ S q):ArenaAt w' a q W n:=by
 obtain⟨cap,c,h1,hcp⟩:=h.ha
 obtain⟨cs,h2,h3,h4⟩:=h.hq
 exact⟨⟨cap,c,k.at_ h1 ha,hcp⟩,⟨cs,k.at_ h2 hq,h3,h4⟩,h.small,h.fits⟩

theorem ArenaAt.Ad{w w':World}{a q n:Nat}{W:Nat->Nat}(h:ArenaAt w a q W n)(k:Kp Ab w w'):ArenaAt w' a q W n:=h.keep k (λ h=>h) (λ h=>h)

theorem ArenaAt.lt_a{w:World}{a q n:Nat}{W:Nat->Nat}(h:ArenaAt w a q W n):a<w.heap.size:=by obtain⟨_,_,h,_⟩:=h.ha;exact lZ h

theorem ArenaAt.lt_q{w:World}{a q n:Nat}{W:Nat->Nat}(h:ArenaAt w a q W n):q<w.heap.size:=by obtain⟨_,h,_⟩:=h.hq;exact lZ h

theorem ArenaAt.head{w:World}{a q n:Nat}{W:Nat->Nat}(h:ArenaAt w a q W n):∃ cap c,w.cell? ⟨a,0,none⟩=some (.slice (some ⟨q,0,none⟩) n cap)/\w.cell? ⟨a,1,none⟩=some (.int .u64 c):=by
 obtain⟨cap,c,h1,_⟩:=h.ha
 exact⟨cap,c,by simp[World.cell?,h1],by simp[World.cell?,h1]⟩

theorem ArenaAt.headC{w:World}{a q n:Nat}{W:Nat->Nat}(h:ArenaAt w a q W n):∃ cap c,w.cell? ⟨a,0,none⟩=some (.slice (some ⟨q,0,none⟩) n cap)/\w.cell? ⟨a,1,none⟩=some (.int .u64 c)/\n<=cap:=by
 obtain⟨cap,c,h1,h2⟩:=h.ha
 exact⟨cap,c,by simp[World.cell?,h1],by simp[World.cell?,h1],h2⟩

theorem ArenaAt.ne{w:World}{a q n:Nat}{W:Nat->Nat}(h:ArenaAt w a q W n):a≠q:=by
 obtain⟨_,_,h1,_⟩:=h.ha
 obtain⟨_,h2,_⟩:=h.hq
 intro e
 subst e
 rw[h1] at h2
 injection h2 with h2
 injection h2 with _ h3
 exact absurd h3 (by decide)

theorem ArenaAt.at_{w:World}{a q n:Nat}{W:Nat->Nat}(h:ArenaAt w a q W n){j:Nat}(hj:j<n):w.cell? ⟨q,j,none⟩=some (.int .u64 (W j:Nat)):=by
 obtain⟨cs,h2,h3,h4⟩:=h.hq
 simp only[World.cell?,h2]
 exact h4 j hj

theorem ArenaAt.free{w:World}{a q n:Nat}{W:Nat->Nat}(h:ArenaAt w a q W n)(j:Nat):w.frozen? ⟨q,j,none⟩=false:=by
 obtain⟨cs,h2,h3,h4⟩:=h.hq
 exact Ae h2 j

theorem ArenaAt.freeA{w:World}{a q n:Nat}{W:Nat->Nat}(h:ArenaAt w a q W n)(j:Nat):w.frozen? ⟨a,j,none⟩=false:=by
 obtain⟨cap,c,h1,_⟩:=h.ha
 exact Ae h1 j

def BM(W:Nat->Nat)(j z:Nat)(i:Nat):Nat:=if i=j then z else W i

theorem ArenaAt.store{w:World}{a q n:Nat}{W:Nat->Nat}(h:ArenaAt w a q W n){j:Nat}(hj:j<n)(z:Nat)(hz:z<18446744073709551616):ArenaAt (w.setCell ⟨q,j,none⟩ (.int .u64 (z:Nat))) a q (BM W j z) n:=by
 obtain⟨cap,c,h1,hcp⟩:=h.ha
 obtain⟨cs,h2,h3,h4⟩:=h.hq
 refine⟨⟨cap,c,(Below.heap_setCell _ _ _ _ h.ne).trans h1,hcp⟩,⟨_,bZ h2 _,by simpa using h3,λ i hi=>?_⟩,h.small,λ i hi=>?_⟩
 .rw [Array.getElem?_setIfInBounds,BM]
  by_cases e:j=i
  .subst e
   rw[if_pos rfl,if_pos (by omega),if_pos rfl]
  .rw [if_neg e,if_neg (by omega)]
   exact h4 i hi
 .rw [BM];split
  .exact hz
  .exact h.fits i hi

theorem ArenaAt.count{w:World}{a q n:Nat}{W:Nat->Nat}(h:ArenaAt w a q W n)(z:Int):ArenaAt (w.setCell ⟨a,1,none⟩ (.int .u64 z)) a q W n:=by
 obtain⟨cap,c,h1,hcp⟩:=h.ha
 obtain⟨cs,h2,h3,h4⟩:=h.hq
 exact⟨⟨cap,z,by rw[bZ h1 _];rfl,hcp⟩,⟨cs,(Below.heap_setCell _ _ _ _ h.ne.symm).trans h2,h3,h4⟩,h.small,h.fits⟩

theorem ALen_at(a q n:Nat)(W:Nat->Nat)(w:World)(h:ArenaAt w a q W n):Calls prog 59 #[.pointer (some ⟨a,0,none⟩)] w λ e w'=>e=.returned (.int .i64 (n:Nat))/\w=w':=by
 obtain⟨cap,c,h0,h1⟩:=h.head
 go_enter func59,ntmps59
 go_wp2
 go_ret
 exact⟨rfl,rfl⟩

theorem Fx(i k:Int)(a q n:Nat)(W:Nat->Nat)(w:World)(h:ArenaAt w a q W n):
  Calls prog 105 #[.pointer (some ⟨a,0,none⟩),.int .i64 i,.int .i64 k] w λ e w'=>e=.returned (.int .i64 (errV (Bf n i k)))/\w=w':=by
 obtain⟨cap,c,hc,-⟩:=h.head
 have hn:=h.small
 by_cases h1:0<=i
 .by_cases h2:0<=k
  .by_cases h3:i<=n
   .have hok:Sl (Bf n i k=decide (k<=(n:Int)-i)):=⟨by simp[Bf,h1,h2,h3]⟩
    by_cases h4:k<=(n:Int)-i
    .go_enter func105,ntmps105
     go_wp2
     go_ret
     exact⟨by rw[hok.out,dT h4];rfl,rfl⟩
    .go_enter func105,ntmps105
     go_wp2
     go_ret
     exact⟨by rw[hok.out,dF (by omega)];rfl,rfl⟩
   .have hok:Sl (Bf n i k=false):=⟨by simp[Bf,h3]⟩
    go_enter func105,ntmps105
    go_wp2
    go_ret
    exact⟨by rw[hok.out];rfl,rfl⟩
  .have hok:Sl (Bf n i k=false):=⟨by simp[Bf,h2]⟩
   go_enter func105,ntmps105
   go_wp2
   go_ret
   exact⟨by rw[hok.out];rfl,rfl⟩
 .have hok:Sl (Bf n i k=false):=⟨by simp[Bf,h1]⟩
  go_enter func105,ntmps105
  go_wp2
  go_ret
  exact⟨by rw[hok.out];rfl,rfl⟩

theorem ok_one_nat{n i:Nat}(h:i<n):Bf n (i:Nat) 1=true:=by simp[Bf];omega

theorem ALoad_yes(i:Nat)(a q n:Nat)(W:Nat->Nat)(w:World)(h:ArenaAt w a q W n)(hi:i<n):
  Calls prog 55 #[.pointer (some ⟨a,0,none⟩),.int .i64 (i:Nat)] w λ e w'=>e=.returned (.tuple #[.int .u64 (W i:Nat),.int .i64 0])/\w=w':=by
 obtain⟨cap,c,hc,-⟩:=h.head
 have hx:=h.at_ hi
 have hn:=h.small
 have hi':(i:Int)<n:=by omega
 go_enter func55,ntmps55
 go_wp2_with fail
 refine(Fx i 1 a q n W w h).mono ?_
 rintro e w' ⟨rfl,rfl⟩
 rw[ok_one_nat hi]
 go_wp2
 go_ret2
 exact⟨rfl,rfl⟩

def Stored(w:World)(a q n:Nat)(W:Nat->Nat)(e:Ending)(w':World):Prop:=e=.returned (.int .i64 0)/\Kp (λ b=>b=a\/b=q) w w'/\ArenaAt w' a q W n

theorem AStore_yes(i z:Nat)(a q n:Nat)(W:Nat->Nat)(w:World)(h:ArenaAt w a q W n)(hi:i<n)(hz:z<18446744073709551616):
  Calls prog 113 #[.pointer (some ⟨a,0,none⟩),.int .i64 (i:Nat),.int .u64 (z:Nat)] w (Stored w a q n (BM W i z)):=by
 obtain⟨cap,c,hc,hc1⟩:=h.head
 have hx:=h.at_ hi
 have hfr:=h.free i
 have hfa:=h.freeA 1
 have hn:=h.small
 have hi':(i:Int)<n:=by omega
 have hne:=h.ne
 have hne':¬ q=a:=λ e=>hne e.symm
 have h2:=h.store hi z hz
 have hc2:=((Kr (λ b=>b=q) w).setCell (p:=⟨q,i,none⟩) (λ _=>rfl) (.int .u64 (z:Nat))).cell hc1 hne
 have hfa2:=h2.freeA 1
 have H2:=sE h2
 clear h2
 go_enter func113,ntmps113
 go_wp2_with fail
 refine(Fx i 1 a q n W w h).mono ?_
 rintro e w' ⟨rfl,rfl⟩
 rw[ok_one_nat hi]
 go_wp2
 exact bodyPost_ret (v:=.int .i64 0) (by simp[results,results113,go_sem]) rfl ⟨rfl,((Kr _ w).setCell (λ _=>.inr rfl) _).setCell (λ _=>.inl rfl) _,H2.out.count _⟩

def fillW(W:Nat->Nat)(i k z:Nat)(j:Nat):Nat:=if i<=j/\j<i+k then z else W j

theorem fillW_zero(W:Nat->Nat)(i z:Nat):fillW W i 0 z=W:=by funext j;rw [fillW,if_neg (by omega)]

theorem fillW_succ(W:Nat->Nat)(i k z:Nat):BM (fillW W i k z) (i+k) z=fillW W i (k+1) z:=by
 funext j
 simp only[BM,fillW]
 by_cases h:j=i+k
 .rw [if_pos h,if_pos (by omega)]
 .rw [if_neg h]
  by_cases h2:i<=j/\j<i+k
  .rw [if_pos h2,if_pos (by omega)]
  .rw [if_neg h2,if_neg (by omega)]

theorem AFill_yes(i k z:Nat)(a q n:Nat)(W:Nat->Nat)(w:World)(h:ArenaAt w a q W n)(hi:i+k<=n)(hz:z<18446744073709551616):
  Calls prog 167 #[.pointer (some ⟨a,0,none⟩),.int .i64 (i:Nat),.int .i64 (k:Nat),.int .u64 (z:Nat)] w (Stored w a q n (fillW W i k z)):=by
 have hn:=h.small
 have hok:Bf n (i:Nat) (k:Nat)=true:=by simp[Bf];omega
 have HO:=sE hok
 have HZ:=sE hz
 clear hok hz
 go_enter func167,ntmps167
 go_wp2_with fail
 refine(Fx i k a q n W w h).mono ?_
 rintro e w' ⟨rfl,rfl⟩
 rw[HO.out]
 go_wp2_with fail
 go_loopw [19] (λ y wr=>∃ j:Nat,j<=k/\y=.int .i64 (j:Nat)/\ArenaAt wr a q (fillW W i j z) n/\Kp (λ b=>b=a\/b=q) w wr) (λ y _=>k-(intOf y).toNat)
 case atStart=>exact ⟨0,by omega,rfl,by rw[fillW_zero];exact h,Kr _ _⟩
 case round=>
  obtain⟨j,hj,rfl,hr,hk⟩:=hrel
  obtain⟨cap,c,hc,hc1⟩:=hr.head
  by_cases hjk:j<k
  .have hjk':(j:Int)<k:=by omega
   have hx:=hr.at_ (show i+j<n by omega)
   have hfr:=hr.free (i+j)
   have hst:=hr.store (show i+j<n by omega) z HZ.out
   rw[fillW_succ] at hst
   have HST:=sE hst
   obtain⟨x0,hx0⟩:∃ x,x=fillW W i j z (i+j):=⟨_,rfl⟩
   rw[<- hx0] at hx
   clear hst hx0
   go_wp2
   exact⟨⟨j+1,by omega,by go_num,HST.out,hk.setCell (λ _=>.inr rfl) _⟩,by simp only[intOf];omega⟩
  .have hjk':¬ (j:Int)<k:=by omega
   obtain rfl:j=k:=by omega
   have hfa:=hr.freeA 1
   go_wp2
   exact bodyPost_ret (v:=.int .i64 0) (by simp[results,results167,go_sem]) rfl ⟨rfl,hk.setCell (λ _=>.inl rfl) _,hr.count _⟩

def MadeArena(w:World)(n:Nat)(e:Ending)(w':World):Prop:=
 ∃ a q,e=.returned (.tuple #[.pointer (some ⟨a,0,none⟩),.int .i64 0])/\w.heap.size<=a/\w.heap.size<=q/\ArenaAt w' a q (λ _=>0) n/\Kp Ab w w'

def Dp(n:Int):Bool:=decide (16<=n/\n<=65536/\n%2=0)

theorem underlyingU64s:prog.underlying 135=some (.slice 55):=by kernel_rfl

theorem infoU64:(prog.info? 55).map (λ i=>(i.zero,i.size,i.bytes))=some (some (.int .u64 0),1,8):=by kernel_rfl

theorem ANew_yes(n:Nat)(w:World)(h1:16<=n)(h2:n<=65536)(h3:n%2=0):Calls prog 125 #[.int .i64 (n:Nat)] w (MadeArena w n):=by
 have h3':(n:Int)%2=0:=by omega
 go_enter func125,ntmps125
 go_wp2_with (at_make;obtain ⟨i0,hi,hz0,hz1,hz2⟩:=info_parts infoU64;go_loud (refine wpList_make_full _ rfl (.tmp 15) (.tmp 15) 135 rfl w.heap.size 55 i0 (.int .u64 0) 1 underlyingU64s hi hz0 hz1 .i64 .i64 n n n rfl rfl rfl rfl (by rw[hz2];omega) (by unfold maxLen;omega) (Nat.le_refl _) ?_);intro w1 hown hgrow;clear hi hz0 hz1 hz2)
 have hk:Kp Ab w w1:=(Kr Ab w).grown hgrow (λ _ e=>by cases e)
 have hr:ArenaAt (w1.alloc (.cells #[.slice (some ⟨w.heap.size,0,none⟩) n n,.int .u64 0] 173)) w1.heap.size w.heap.size (λ _=>0) n:=by
  rcases hown.2 with ⟨e,-⟩|⟨g,cap,cur,e,-,hheap,hnc,-,hsz,htake⟩
  .cases e
  .injection e with e1 _ e2
   injection e1 with e1
   injection e1 with e1 _
   subst e1 e2
   refine⟨⟨n,0,wN w1 _,Nat.le_refl _⟩,⟨cur,((Kr Ab w1).alloc _).at_ hheap (λ h=>h),by omega,λ j hj=>?_⟩,h2,λ j hj=>by omega⟩
   have h9:(cur.toList.take (n*1))[j]?=some (.int .u64 0):=by
    rw[htake,show (Value.int .u64 0).cells=#[Value.int .u64 0] from rfl,toList_madeCells_one,List.getElem?_replicate,if_pos (by omega)]
   rw[List.getElem?_take_of_lt (by omega)] at h9
   simpa using h9
 exact bodyPost_ret (v:=.tuple #[.pointer (some ⟨w1.heap.size,0,none⟩),.int .i64 0]) (by simp[results,results125,go_sem]) rfl ⟨_,w.heap.size,rfl,hk.size,Nat.le_refl _,hr,hk.alloc _⟩

theorem ANew_no(n:Int)(w:World)(h:Dp n=false):Calls prog 125 #[.int .i64 n] w λ e w'=>e=.returned (.tuple #[.pointer none,.int .i64 2])/\w=w':=by
 have h':n<16\/(16<=n/\65536<n)\/(16<=n/\n<=65536/\¬ n%2=0):=by
  simp only[Dp,decide_eq_false_iff_not] at h
  omega
 clear h
 rcases h' with h1|⟨h1,h2⟩|⟨h1,h2,h3⟩
 .go_enter func125,ntmps125
  go_wp2
  go_ret2
  exact⟨rfl,rfl⟩
 .go_enter func125,ntmps125
  go_wp2
  go_ret2
  exact⟨rfl,rfl⟩
 .obtain ⟨N,rfl⟩:=Int.eq_ofNat_of_zero_le (show 0<=n by omega)
  have h4:(N:Int)%2=1:=by omega
  clear h3
  go_enter func125,ntmps125
  go_wp2
  go_ret2
  exact⟨rfl,rfl⟩

theorem gran_at(a q n:Nat)(W:Nat->Nat)(w:World)(h:ArenaAt w a q W n):Calls prog 52 #[.pointer (some ⟨a,0,none⟩)] w λ e w'=>e=.returned (.int .i64 ((n/2:Nat):Int))/\w=w':=by
 have hn:=h.small
 go_enter func52,ntmps52
 go_wp2_with (go_at_call 59;refine (ALen_at a q n W _ h).mono ?_;rintro e w' ⟨rfl,rfl⟩)
 go_ret
 exact⟨by simp,rfl⟩

theorem gran_at'(a q n:Nat)(W:Nat->Nat)(w:World)(h:ArenaAt w a q W n):Calls prog 52 #[.pointer (some ⟨a,0,none⟩)] w λ e w'=>e=.returned (.int .i64 ((n/2:Nat):Int))/\w'=w:=
 (gran_at a q n W w h).mono λ_ _ hp=>⟨hp.1,hp.2.symm⟩

theorem SHead_at(g:Nat)(a q n:Nat)(W:Nat->Nat)(w:World)(hF:Av w)(h:ArenaAt w a q W n)(hg:g<n/2):
  Calls prog 49 #[.pointer (some ⟨a,0,none⟩),.int .i64 (g:Nat)] w (Fe (BO (W (2*g))) (CR (W (2*g))) (Ey (W (2*g))) (EO (W (2*g))) (DJ (W (2*g))) w):=by
 have hn:=h.small
 have h2g:2*g<n:=by omega
 have hlt:=h.lt_a
 obtain⟨w1,hw1⟩:∃ w1,w1=w.alloc (.cells #[.int .u8 0,.int .i64 0,.int .i64 0,.int .i64 0] 52):=⟨_,rfl⟩
 have kA:Kp Ab w w1:=by rw[hw1];exact (Kr _ w).alloc _
 have b0:w1.heap[w.heap.size]?=some (.cells #[.int .u8 0,.int .i64 0,.int .i64 0,.int .i64 0] 52 (0,0)):=by rw[hw1];exact wN w _
 have A1:=h.Ad kA
 have F1:=hF.Ad kA
 have t1:¬ (g:Int)<0:=by omega
 have t2:¬ ((n:Int)/2<=(g:Int)):=by omega
 have HM:Sl ((2:Int)*(g:Int)=((2*g:Nat):Int)):=⟨by omega⟩
 have HG:=sE (gran_at a q n W w1 A1)
 have HL:=sE (ALoad_yes (2*g) a q n W w1 A1 h2g)
 obtain⟨X,hX⟩:∃ X,W (2*g)=X:=⟨_,rfl⟩
 have hXl:X<18446744073709551616:=by rw[<- hX];exact h.fits _ h2g
 rw[hX] at HL ⊢
 have HD:=sE (Decode_any X w1 F1 hXl)
 clear hX hXl A1
 go_enter func49,ntmps49
 go_wp2_with fail
 rw[<- hw1]
 clear hw1
 refine HG.out.mono ?_
 rintro e w' ⟨rfl,rfl⟩
 go_wp2_with fail
 rw[HM.out]
 refine HL.out.mono ?_
 rintro e w' ⟨rfl,rfl⟩
 go_wp2_with fail
 refine HD.out.mono ?_
 rintro e w2 ⟨rfl,k2⟩
 have B0:=k2.at_ b0 (λ h=>h)
 have d0:w2.cell? ⟨w.heap.size,0,none⟩=some (.int .u8 0):=by simp[World.cell?,B0]
 have d1:w2.cell? ⟨w.heap.size,1,none⟩=some (.int .i64 0):=by simp[World.cell?,B0]
 have d2:w2.cell? ⟨w.heap.size,2,none⟩=some (.int .i64 0):=by simp[World.cell?,B0]
 have d3:w2.cell? ⟨w.heap.size,3,none⟩=some (.int .i64 0):=by simp[World.cell?,B0]
 have f0:=Ae B0
 have f00:=f0 0
 have f01:=f0 1
 have f02:=f0 2
 have f03:=f0 3
 have KW:=kA.then' k2
 have HB:=sE B0
 clear b0 B0 f0 HG HL HD
 obtain⟨ok,hok⟩:∃ ok,BO X=ok:=⟨_,rfl⟩
 have H1:=sE hok
 rw[hok]
 clear hok
 obtain⟨tg,htg⟩:∃ x,CR X=x:=⟨_,rfl⟩
 obtain⟨ty,hty⟩:∃ x,Ey X=x:=⟨_,rfl⟩
 obtain⟨ln,hln⟩:∃ x,EO X=x:=⟨_,rfl⟩
 obtain⟨sz,hsz⟩:∃ x,DJ X=x:=⟨_,rfl⟩
 have T1:=sE htg
 have T2:=sE hty
 have T3:=sE hln
 have T4:=sE hsz
 rw[htg,hty,hln,hsz]
 clear htg hty hln hsz
 cases ok with
 |true=>
  rw[if_pos rfl,if_pos rfl]
  dsimp only[Al]
  go_wp2
  obtain⟨wz,hwz⟩:∃ wz,wz=(((w2.setCell ⟨w.heap.size,0,none⟩ (.int .u8 (tg:Nat))).setCell ⟨w.heap.size,1,none⟩ (.int .i64 (ty:Nat))).setCell ⟨w.heap.size,2,none⟩ (.int .i64 (ln:Nat))).setCell ⟨w.heap.size,3,none⟩ (.int .i64 (sz:Nat)):=⟨_,rfl⟩
  rw[<- hwz]
  have tz:wz.heap[w.heap.size]?=some (.cells #[.int .u8 (tg:Nat),.int .i64 (ty:Nat),.int .i64 (ln:Nat),.int .i64 (sz:Nat)] 52 (0,0)):=by
   rw[hwz];exact bZ (bZ (bZ (bZ HB.out (j:=0) _) (j:=1) _) (j:=2) _) (j:=3) _
  have kz:Kp (λ i=>i=w.heap.size) w2 wz:=by rw[hwz];exact ((((Kr (λ i=>i=w.heap.size) w2).setCell (λ _=>rfl) _).setCell (λ _=>rfl) _).setCell (λ _=>rfl) _).setCell (λ _=>rfl) _
  clear hwz
  have e0:wz.cell? ⟨w.heap.size,0,none⟩=some (.int .u8 (tg:Nat)):=by simp[World.cell?,tz]
  have e1:wz.cell? ⟨w.heap.size,1,none⟩=some (.int .i64 (ty:Nat)):=by simp[World.cell?,tz]
  have e2:wz.cell? ⟨w.heap.size,2,none⟩=some (.int .i64 (ln:Nat)):=by simp[World.cell?,tz]
  have e3:wz.cell? ⟨w.heap.size,3,none⟩=some (.int .i64 (sz:Nat)):=by simp[World.cell?,tz]
  refine bodyPost_ret (v:=.tuple #[Al (tg:Nat) (ty:Nat) (ln:Nat) (sz:Nat),.int .i64 0]) (by simp[results,results49,go_sem,e0,e1,e2,e3,Al]) rfl ⟨by rw[H1.out,T1.out,T2.out,T3.out,T4.out];rfl,KW.trans kz (λ i hi h=>by omega)⟩
 |false=>
  rw[if_neg (by simp),if_neg (by simp)]
  dsimp only[Al]
  go_wp2
  obtain⟨wz,hwz⟩:∃ wz,wz=(((w2.setCell ⟨w.heap.size,0,none⟩ (.int .u8 0)).setCell ⟨w.heap.size,1,none⟩ (.int .i64 0)).setCell ⟨w.heap.size,2,none⟩ (.int .i64 0)).setCell ⟨w.heap.size,3,none⟩ (.int .i64 0):=⟨_,rfl⟩
  rw[<- hwz]
  have tz:wz.heap[w.heap.size]?=some (.cells #[.int .u8 0,.int .i64 0,.int .i64 0,.int .i64 0] 52 (0,0)):=by
   rw[hwz];exact bZ (bZ (bZ (bZ HB.out (j:=0) _) (j:=1) _) (j:=2) _) (j:=3) _
  have kz:Kp (λ i=>i=w.heap.size) w2 wz:=by rw[hwz];exact ((((Kr (λ i=>i=w.heap.size) w2).setCell (λ _=>rfl) _).setCell (λ _=>rfl) _).setCell (λ _=>rfl) _).setCell (λ _=>rfl) _
  clear hwz
  have e0:wz.cell? ⟨w.heap.size,0,none⟩=some (.int .u8 0):=by simp[World.cell?,tz]
  have e1:wz.cell? ⟨w.heap.size,1,none⟩=some (.int .i64 0):=by simp[World.cell?,tz]
  have e2:wz.cell? ⟨w.heap.size,2,none⟩=some (.int .i64 0):=by simp[World.cell?,tz]
  have e3:wz.cell? ⟨w.heap.size,3,none⟩=some (.int .i64 0):=by simp[World.cell?,tz]
  refine bodyPost_ret (v:=.tuple #[Al 0 0 0 0,.int .i64 7]) (by simp[results,results49,go_sem,e0,e1,e2,e3,Al]) rfl ⟨by rw[H1.out];rfl,KW.trans kz (λ i hi h=>by omega)⟩

def makeW(W:Nat->Nat)(g id ln S:Nat):Nat->Nat:=BM (fillW W (2*g) (2*S) 0) (2*g) (Bo 1 id ln S)

set_option maxRecDepth 20000 in
theorem Make_yes(g id ln S:Nat)(a q n t tq:Nat)(W:Nat->Nat)(ts:List TypR)(w:World)(hF:Av w)(h:ArenaAt w a q W n)(hT:TableAt w t tq ts)
  (he:AY ts (id:Nat) (ln:Nat)=0) (hs:Bq ts (id:Nat) (ln:Nat)=(S:Nat)) (hok:Am 1 (id:Nat) (ln:Nat) (S:Nat)=true) (hgs:g+S<=n/2) (hS:0<S):
  Calls prog 127 #[.pointer (some ⟨a,0,none⟩),.pointer (some ⟨t,0,none⟩),.int .i64 (g:Nat),.int .i64 (id:Nat),.int .i64 (ln:Nat)] w (Stored w a q n (makeW W g id ln S)):=by
 have hn:=h.small
 have HO:Sl (Calls prog 102 #[.pointer (some ⟨t,0,none⟩),.int .i64 (id:Nat),.int .i64 (ln:Nat)] w λ e w'=>e=.returned (.tuple #[.agg #[.int .u8 1,.int .i64 (id:Nat),.int .i64 (ln:Nat),.int .i64 (S:Nat)],.int .i64 0])/\Kp Ab w w'):=
  ⟨(ED (id:Nat) (ln:Nat) t tq ts w hT).mono λ e w' hp=>by rw[BG,he,if_pos rfl,hs] at hp;exact hp⟩
 have HEN:Sl (∀ W',Av W'->Calls prog 164 #[.agg #[.int .u8 1,.int .i64 (id:Nat),.int .i64 (ln:Nat),.int .i64 (S:Nat)]] W' λ e w'=>e=.returned (.tuple #[.int .u64 (Bo 1 id ln S:Nat),.int .i64 0])/\Kp Ab W' w'):=
  ⟨λ W' hF'=>Encode_yes 1 id ln S W' hF' hok⟩
 have HEL:Sl (Bo 1 id ln S<18446744073709551616):=⟨encH_lt hok⟩
 obtain⟨X,hX⟩:∃ X,Bo 1 id ln S=X:=⟨_,rfl⟩
 have HMK:Sl (makeW W g id ln S=BM (fillW W (2*g) (2*S) 0) (2*g) X):=⟨by rw[<- hX];rfl⟩
 rw[hX] at HEN HEL
 have HM1:Sl ((2:Int)*(g:Int)=((2*g:Nat):Int)):=⟨by omega⟩
 have HM2:Sl ((2:Int)*(S:Int)=((2*S:Nat):Int)):=⟨by omega⟩
 have hd1:decide ((g:Int)<0)=false:=dF (by omega)
 have hd2:decide ((n:Int)/2<(g:Int))=false:=dF (by omega)
 have hd3:decide ((n:Int)/2-(g:Int)<(S:Int))=false:=dF (by omega)
 have hlt:=h.lt_a
 clear he hs hok hX
 go_enter func127,ntmps127
 go_wp2_with fail
 refine HO.out.mono ?_
 rintro e w2 ⟨rfl,k2⟩
 have A2:=h.Ad k2
 have F2:=hF.Ad k2
 obtain⟨w3,hw3⟩:∃ w3,w3=w2.alloc (.cells #[.int .u8 1,.int .i64 (id:Nat),.int .i64 (ln:Nat),.int .i64 (S:Nat)] 52):=⟨_,rfl⟩
 have k3:Kp Ab w2 w3:=by rw[hw3];exact (Kr _ w2).alloc _
 have b3:w3.heap[w2.heap.size]?=some (.cells #[.int .u8 1,.int .i64 (id:Nat),.int .i64 (ln:Nat),.int .i64 (S:Nat)] 52 (0,0)):=by rw[hw3];exact wN w2 _
 have A3:=A2.Ad k3
 have F3:=F2.Ad k3
 go_wp2_with fail
 rw[<- hw3]
 clear hw3
 have c0:w3.cell? ⟨w2.heap.size,0,none⟩=some (.int .u8 1):=by simp[World.cell?,b3]
 have c1:w3.cell? ⟨w2.heap.size,1,none⟩=some (.int .i64 (id:Nat)):=by simp[World.cell?,b3]
 have c2:w3.cell? ⟨w2.heap.size,2,none⟩=some (.int .i64 (ln:Nat)):=by simp[World.cell?,b3]
 have c3:w3.cell? ⟨w2.heap.size,3,none⟩=some (.int .i64 (S:Nat)):=by simp[World.cell?,b3]
 have HA3:=sE A3
 go_wp2_with fail
 go_quiet ((go_at_call 52;with_reducible refine Calls.quiet_of_same (gran_at' a q n W _ ?_);(first|exact HA3.out|exact HA3.out.Ad (Kr Ab _).drew|exact HA3.out.Ad (Kp.Aj _)|exact HA3.out.Ad ((Kp.Aj _).drewN _))))
 obtain⟨w4,hw4⟩:∃ w4,w4=w3.drewN nq:=⟨_,rfl⟩
 rw[<- hw4]
 have k4:Kp Ab w3 w4:=by rw[hw4];exact Kp.Aj _
 clear hw4
 have A4:=A3.Ad k4
 have F4:=F3.Ad k4
 replace c0:=k4.cell c0 (λ h=>h)
 replace c1:=k4.cell c1 (λ h=>h)
 replace c2:=k4.cell c2 (λ h=>h)
 replace c3:=k4.cell c3 (λ h=>h)
 clear HA3 hd1 hd2 hd3 b3
 have HE4:=HEN.out w4 F4
 have HEs:=sE HE4
 clear HE4 HEN
 go_wp2_with fail
 refine HEs.out.mono ?_
 rintro e w5 ⟨rfl,k5⟩
 have A5:=A4.Ad k5
 have hf:2*g+2*S<=n:=by omega
 have HFi:=sE (AFill_yes (2*g) (2*S) 0 a q n W w5 A5 hf (by omega))
 replace c3:=k5.cell c3 (λ h=>h)
 go_wp2_with fail
 rw[HM1.out,HM2.out]
 refine HFi.out.mono ?_
 rintro e w6 ⟨rfl,k6,A6⟩
 have HSt:=sE (AStore_yes (2*g) X a q n _ w6 A6 (by omega) HEL.out)
 go_wp2_with fail
 rw[HM1.out]
 refine HSt.out.mono ?_
 rintro e w7 ⟨rfl,k7,A7⟩
 go_wp2
 go_ret
 refine⟨rfl,?_,by rw[HMK.out];exact A7⟩
 have kN:Kp Ab w w5:=(((k2.trans k3 (λ _ _ h=>h)).trans k4 (λ _ _ h=>h)).trans k5 (λ _ _ h=>h))
 exact((kN.Ak _).trans k6 (λ _ _ h=>h)).trans k7 (λ _ _ h=>h)

structure Sp where
 s:Nat
 a:Nat
 q:Nat
 t:Nat
 tq:Nat
 b:Nat
 bq:Nat
 n:Nat
 ts:List TypR

def Sp.own(P:Sp)(k:Nat):Prop:=k=P.a\/k=P.q\/k=P.bq

def Sp.all(P:Sp)(k:Nat):Prop:=k=0\/k=P.s\/k=P.a\/k=P.q\/k=P.t\/k=P.tq\/k=P.b\/k=P.bq

def Sp.apart(P:Sp):Prop:=
 (∀ k,P.own k->¬ k=0/\¬ k=P.s/\¬ k=P.t/\¬ k=P.tq/\¬ k=P.b)/\¬ P.a=P.bq/\¬ P.q=P.bq

structure SpaceAt(w:World)(P:Sp)(W:Nat->Nat)(f:Nat->Bool):Prop where
 hs:w.heap[P.s]?=some (.cells #[.pointer (some ⟨P.a,0,none⟩),.pointer (some ⟨P.t,0,none⟩),.pointer (some ⟨P.b,0,none⟩)] 99 (0,0))
 ar:ArenaAt w P.a P.q W P.n
 tb:TableAt w P.t P.tq P.ts
 bt:AJ w P.b P.bq f (P.n/2)
 fl:Av w
 ap:P.apart
 ev:P.n%2=0
 lt:∀ k,P.all k->k<w.heap.size

theorem SpaceAt.keep{S:Nat->Prop}{w w':World}{P:Sp}{W:Nat->Nat}{f:Nat->Bool}(h:SpaceAt w P W f)(k:Kp S w w')(hS:∀ i,P.all i->¬ S i):SpaceAt w' P W f:=
 ⟨k.at_ h.hs (hS _ (by simp[Sp.all])),h.ar.keep k (hS _ (by simp[Sp.all])) (hS _ (by simp[Sp.all])),h.tb.keep k (hS _ (by simp[Sp.all])) (hS _ (by simp[Sp.all])),
  h.bt.keep k (hS _ (by simp[Sp.all])) (hS _ (by simp[Sp.all])),h.fl.keep k (hS _ (by simp[Sp.all])),h.ap,h.ev,λ i hi=>Nat.lt_of_lt_of_le (h.lt i hi) k.size⟩

theorem SpaceAt.Ad{w w':World}{P:Sp}{W:Nat->Nat}{f:Nat->Bool}(h:SpaceAt w P W f)(k:Kp Ab w w'):SpaceAt w' P W f:=h.keep k (λ _ _ h=>h)

theorem SpaceAt.words{w w':World}{P:Sp}{W W':Nat->Nat}{f:Nat->Bool}(h:SpaceAt w P W f)(k:Kp (λ i=>i=P.a\/i=P.q) w w')(ar:ArenaAt w' P.a P.q W' P.n):SpaceAt w' P W' f:=by
 have hA:=h.ap.1 P.a (.inl rfl)
 have hQ:=h.ap.1 P.q (.inr (.inl rfl))
 have h1:=h.ap.2.1
 have h2:=h.ap.2.2
 exact⟨k.at_ h.hs (by omega),ar,h.tb.keep k (by omega) (by omega),h.bt.keep k (by omega) (by omega),h.fl.keep k (by omega),h.ap,h.ev,λ i hi=>Nat.lt_of_lt_of_le (h.lt i hi) k.size⟩

theorem SpaceAt.bits{w w':World}{P:Sp}{W:Nat->Nat}{f f':Nat->Bool}(h:SpaceAt w P W f)(k:Kp (λ i=>i=P.bq) w w')(bt:AJ w' P.b P.bq f' (P.n/2)):SpaceAt w' P W f':=by
 have hB:=h.ap.1 P.bq (.inr (.inr rfl))
 have h1:=h.ap.2.1
 have h2:=h.ap.2.2
 exact⟨k.at_ h.hs (by omega),h.ar.keep k (by omega) (by omega),h.tb.keep k (by omega) (by omega),bt,h.fl.keep k (by omega),h.ap,h.ev,λ i hi=>Nat.lt_of_lt_of_le (h.lt i hi) k.size⟩

theorem SpaceAt.head{w:World}{P:Sp}{W:Nat->Nat}{f:Nat->Bool}(h:SpaceAt w P W f):
  w.cell? ⟨P.s,0,none⟩=some (.pointer (some ⟨P.a,0,none⟩))/\w.cell? ⟨P.s,1,none⟩=some (.pointer (some ⟨P.t,0,none⟩))/\w.cell? ⟨P.s,2,none⟩=some (.pointer (some ⟨P.b,0,none⟩)):=by
 have h1:=h.hs
 exact⟨by simp[World.cell?,h1],by simp[World.cell?,h1],by simp[World.cell?,h1]⟩

theorem EC(P:Sp)(W:Nat->Nat)(f:Nat->Bool)(w:World)(h:SpaceAt w P W f):
  Calls prog 42 #[.pointer (some ⟨P.s,0,none⟩)] w λ e w'=>e=.returned (.int .i64 ((P.n/2:Nat):Int))/\w'=w:=by
 have hn:=h.ar.small
 have HA:=sE h.ar
 obtain⟨c0,c1,c2⟩:=h.head
 clear h
 go_enter func42,ntmps42
 go_wp2_with (go_at_call 59;refine (ALen_at P.a P.q P.n W _ HA.out).mono ?_;rintro e w' ⟨rfl,rfl⟩)
 go_ret
 exact⟨by simp,rfl⟩

def Dw(m:Nat):Nat:=if m=1 then 2 else 3

def AZ(W:Nat->Nat)(g m:Nat):Nat->Nat:=if m=0 then W else BM W (2*g) (Bo (Dw m) 0 0 m)

def LaidGap(P:Sp)(W:Nat->Nat)(f:Nat->Bool)(w:World)(e:Ending)(w':World):Prop:=
 e=.returned (.tuple #[])/\Kp (λ i=>i=P.a\/i=P.q) w w'/\SpaceAt w' P W f

theorem gap_one(g:Nat)(P:Sp)(W:Nat->Nat)(f:Nat->Bool)(w:World)(h:SpaceAt w P W f)(hg:g+1<=P.n/2):
  Calls prog 123 #[.pointer (some ⟨P.s,0,none⟩),.int .i64 (g:Nat),.int .i64 1] w (LaidGap P (BM W (2*g) (Bo 2 0 0 1)) f w):=by
 have hn:=h.ar.small
 have hok:Am 2 0 0 1=true:=by simp[Am] <;> omega
 have HE:Sl (Bo 2 0 0 1<18446744073709551616):=⟨encH_lt (tag:=2) (ty:=0) (ln:=0) (sz:=1) hok⟩
 have HEN:Sl (∀ W',Av W'->Calls prog 164 #[.agg #[.int .u8 2,.int .i64 0,.int .i64 0,.int .i64 1]] W' λ e w'=>e=.returned (.tuple #[.int .u64 (Bo 2 0 0 1:Nat),.int .i64 0])/\Kp Ab W' w'):=
  ⟨λ W' hF'=>Encode_yes 2 0 0 1 W' hF' hok⟩
 have HG:Sl (Calls prog 163 #[.int .u8 2,.int .i64 1] w λ e w'=>e=.returned (.tuple #[.agg #[.int .u8 2,.int .i64 0,.int .i64 0,.int .i64 1],.int .i64 0])/\Kp Ab w w'):=
  ⟨Gap_yes 2 1 w h.fl (by omega) (by omega) (by omega)⟩
 have HM:Sl ((2:Int)*(g:Int)=((2*g:Nat):Int)):=⟨by omega⟩
 have h2g:2*g<P.n:=by omega
 have HS:=sE h
 obtain⟨c0,c1,c2⟩:=h.head
 have d1:¬ (1:Int)<1:=by omega
 have d2:((1:Int)==1)=true:=by simp <;> omega
 obtain⟨X,hX⟩:∃ X,Bo 2 0 0 1=X:=⟨_,rfl⟩
 rw[hX] at HE HEN ⊢
 clear h hok hX
 go_enter func123,ntmps123
 go_wp2_with fail
 refine HG.out.mono ?_
 rintro e w1 ⟨rfl,k1⟩
 obtain⟨w2,hw2⟩:∃ w2,w2=w1.alloc (.cells #[.int .u8 2,.int .i64 0,.int .i64 0,.int .i64 1] 52):=⟨_,rfl⟩
 have k2:Kp Ab w1 w2:=by rw[hw2];exact (Kr _ w1).alloc _
 have b2:w2.heap[w1.heap.size]?=some (.cells #[.int .u8 2,.int .i64 0,.int .i64 0,.int .i64 1] 52 (0,0)):=by rw[hw2];exact wN w1 _
 have K2:=k1.then' k2
 have S2:=HS.out.Ad K2
 have F2:=S2.fl
 have e0:w2.cell? ⟨w1.heap.size,0,none⟩=some (.int .u8 2):=by simp[World.cell?,b2]
 have e1:w2.cell? ⟨w1.heap.size,1,none⟩=some (.int .i64 0):=by simp[World.cell?,b2]
 have e2:w2.cell? ⟨w1.heap.size,2,none⟩=some (.int .i64 0):=by simp[World.cell?,b2]
 have e3:w2.cell? ⟨w1.heap.size,3,none⟩=some (.int .i64 1):=by simp[World.cell?,b2]
 have HE2:=sE (HEN.out w2 F2)
 have HS2:=sE S2
 clear F2 S2 HEN HS b2
 go_wp2_with fail
 rw[<- hw2]
 clear hw2
 go_wp2_with fail
 refine HE2.out.mono ?_
 rintro e w3 ⟨rfl,k3⟩
 have S3:=HS2.out.Ad k3
 obtain⟨b0,b1,b2⟩:=S3.head
 have HA3:=sE (AStore_yes (2*g) X P.a P.q P.n W w3 S3.ar h2g HE.out)
 have HS3:=sE S3
 clear S3 HS2
 go_wp2_with fail
 rw[HM.out]
 refine HA3.out.mono ?_
 rintro e w4 ⟨rfl,k4,A4⟩
 go_wp2
 go_end0
 exact⟨rfl,((K2.then' k3).Ak _).trans k4 (λ _ _ h=>h),HS3.out.words k4 A4⟩

theorem gap_more(g m:Nat)(P:Sp)(W:Nat->Nat)(f:Nat->Bool)(w:World)(h:SpaceAt w P W f)(hm:1<m)(hg:g+m<=P.n/2):
  Calls prog 123 #[.pointer (some ⟨P.s,0,none⟩),.int .i64 (g:Nat),.int .i64 (m:Nat)] w (LaidGap P (BM W (2*g) (Bo 3 0 0 m)) f w):=by
 have hn:=h.ar.small
 have hok:Am 3 0 0 (m:Nat)=true:=by simp[Am] <;> omega
 have HE:Sl (Bo 3 0 0 m<18446744073709551616):=⟨encH_lt (tag:=3) (ty:=0) (ln:=0) (sz:=m) hok⟩
 have HEN:Sl (∀ W',Av W'->Calls prog 164 #[.agg #[.int .u8 3,.int .i64 0,.int .i64 0,.int .i64 (m:Nat)]] W' λ e w'=>e=.returned (.tuple #[.int .u64 (Bo 3 0 0 m:Nat),.int .i64 0])/\Kp Ab W' w'):=
  ⟨λ W' hF'=>Encode_yes 3 0 0 m W' hF' hok⟩
 have HG:Sl (Calls prog 163 #[.int .u8 3,.int .i64 (m:Nat)] w λ e w'=>e=.returned (.tuple #[.agg #[.int .u8 3,.int .i64 0,.int .i64 0,.int .i64 (m:Nat)],.int .i64 0])/\Kp Ab w w'):=
  ⟨Gap_yes 3 m w h.fl (by omega) (by omega) (by omega)⟩
 have HM:Sl ((2:Int)*(g:Int)=((2*g:Nat):Int)):=⟨by omega⟩
 have h2g:2*g<P.n:=by omega
 have HS:=sE h
 obtain⟨c0,c1,c2⟩:=h.head
 have d1:¬ ((m:Nat):Int)<1:=by omega
 have d2:(((m:Nat):Int)==1)=false:=by simp <;> omega
 obtain⟨X,hX⟩:∃ X,Bo 3 0 0 m=X:=⟨_,rfl⟩
 rw[hX] at HE HEN ⊢
 clear h hok hX
 go_enter func123,ntmps123
 go_wp2_with fail
 refine HG.out.mono ?_
 rintro e w1 ⟨rfl,k1⟩
 obtain⟨w2,hw2⟩:∃ w2,w2=w1.alloc (.cells #[.int .u8 3,.int .i64 0,.int .i64 0,.int .i64 (m:Nat)] 52):=⟨_,rfl⟩
 have k2:Kp Ab w1 w2:=by rw[hw2];exact (Kr _ w1).alloc _
 have b2:w2.heap[w1.heap.size]?=some (.cells #[.int .u8 3,.int .i64 0,.int .i64 0,.int .i64 (m:Nat)] 52 (0,0)):=by rw[hw2];exact wN w1 _
 have K2:=k1.then' k2
 have S2:=HS.out.Ad K2
 have F2:=S2.fl
 have e0:w2.cell? ⟨w1.heap.size,0,none⟩=some (.int .u8 3):=by simp[World.cell?,b2]
 have e1:w2.cell? ⟨w1.heap.size,1,none⟩=some (.int .i64 0):=by simp[World.cell?,b2]
 have e2:w2.cell? ⟨w1.heap.size,2,none⟩=some (.int .i64 0):=by simp[World.cell?,b2]
 have e3:w2.cell? ⟨w1.heap.size,3,none⟩=some (.int .i64 (m:Nat)):=by simp[World.cell?,b2]
 have HE2:=sE (HEN.out w2 F2)
 have HS2:=sE S2
 clear F2 S2 HEN HS b2
 go_wp2_with fail
 rw[<- hw2]
 clear hw2
 go_wp2_with fail
 refine HE2.out.mono ?_
 rintro e w3 ⟨rfl,k3⟩
 have S3:=HS2.out.Ad k3
 obtain⟨b0,b1,b2⟩:=S3.head
 have HA3:=sE (AStore_yes (2*g) X P.a P.q P.n W w3 S3.ar h2g HE.out)
 have HS3:=sE S3
 clear S3 HS2
 go_wp2_with fail
 rw[HM.out]
 refine HA3.out.mono ?_
 rintro e w4 ⟨rfl,k4,A4⟩
 go_wp2
 go_end0
 exact⟨rfl,((K2.then' k3).Ak _).trans k4 (λ _ _ h=>h),HS3.out.words k4 A4⟩

theorem gap_nil(g:Int)(P:Sp)(W:Nat->Nat)(f:Nat->Bool)(w:World)(h:SpaceAt w P W f):
  Calls prog 123 #[.pointer (some ⟨P.s,0,none⟩),.int .i64 g,.int .i64 0] w (LaidGap P W f w):=by
 have HS:=sE h
 clear h
 go_enter func123,ntmps123
 go_wp2_with fail
 go_end0
 exact⟨rfl,Kr _ _,HS.out⟩

theorem gap_any(g m:Nat)(P:Sp)(W:Nat->Nat)(f:Nat->Bool)(w:World)(h:SpaceAt w P W f)(hg:g+m<=P.n/2):
  Calls prog 123 #[.pointer (some ⟨P.s,0,none⟩),.int .i64 (g:Nat),.int .i64 (m:Nat)] w (LaidGap P (AZ W g m) f w):=by
 by_cases h0:m=0
 .subst h0
  rw[AZ,if_pos rfl]
  exact gap_nil g P W f w h
 .rw [AZ,if_neg h0]
  by_cases h1:m=1
  .subst h1
   exact gap_one g P W f w h hg
  .rw [Dw,if_neg h1]
   exact gap_more g m P W f w h (by omega) hg

def Dh(ts:List TypR)(c:Cel):Prop:=
 Am (c.tag:Nat) (c.ty:Nat) (c.ln:Nat) (c.sz:Nat)=true/\(c.tag=1->AY ts (c.ty:Nat) (c.ln:Nat)=0/\Bq ts (c.ty:Nat) (c.ln:Nat)=(c.sz:Nat))

structure CellsAt(P:Sp)(W:Nat->Nat)(cs:List Cel):Prop where
 tl:Au 0 cs (P.n/2)
 hd:HeadsAt W cs
 ok:∀ c∈cs,Dh P.ts c

theorem Au.app{xs ys:List Cel}{a b d:Nat}(h:Au a xs b)(k:Au b ys d):Au a (xs++ys) d:=@Au.append 0 _ _ _ _ _ h k

theorem Au.uniq:∀ {xs:List Cel} {a b b':Nat},Au a xs b->Au a xs b'->b=b'
 |[],a,b,b',h,k=>by rw[<- show a=b from h,<- show a=b' from k]
 |c::xs,a,b,b',⟨h1,h2,h3⟩,⟨k1,k2,k3⟩=>Au.uniq h3 k3

theorem Au.only:∀ {xs:List Cel} {a b:Nat} {c d:Cel},Au a xs b->c∈xs->d∈xs->c.g=d.g->c=d
 |x::xs,a,b,c,d,⟨h1,h2,h3⟩,hc,hd,e=>by
  rcases List.mem_cons.1 hc with e1|e1
  .rcases List.mem_cons.1 hd with e2|e2
   .rw [e1,e2]
   .have:=Au.mem h3 e2
    subst e1
    omega
  .rcases List.mem_cons.1 hd with e2|e2
   .have:=Au.mem h3 e1
    subst e2
    omega
   .exact Au.only h3 e1 e2 e

theorem CellsAt.swap{P:Sp}{W W':Nat->Nat}{pre mid mid' post:List Cel}{x y:Nat}(h:CellsAt P W (pre++(mid++post)))(hx:Au 0 pre x)(hm:Au x mid y)(hm':Au x mid' y)
  (hW:∀ k,(k<x\/y<=k)->W' (2*k)=W (2*k)) (hd:HeadsAt W' mid') (hok:∀ c∈mid',Dh P.ts c):CellsAt P W' (pre++(mid'++post)):=by
 obtain⟨b,t1,t2⟩:=h.tl.split
 obtain rfl:=hx.uniq t1
 obtain⟨d,t3,t4⟩:=t2.split
 obtain rfl:=hm.uniq t3
 refine⟨hx.app (hm'.app t4),λ c hc=>?_,λ c hc=>?_⟩
 .rcases List.mem_append.1 hc with hc|hc
  .have:=hx.mem hc
   rw[hW _ (.inl (by omega))]
   exact h.hd c (List.mem_append.2 (.inl hc))
  .rcases List.mem_append.1 hc with hc|hc
   .exact hd c hc
   .have:=t4.mem hc
    rw[hW _ (.inr (by omega))]
    exact h.hd c (List.mem_append.2 (.inr (List.mem_append.2 (.inr hc))))
 .rcases List.mem_append.1 hc with hc|hc
  .exact h.ok c (List.mem_append.2 (.inl hc))
  .rcases List.mem_append.1 hc with hc|hc
   .exact hok c hc
   .exact h.ok c (List.mem_append.2 (.inr (List.mem_append.2 (.inr hc))))

theorem CV{W:Nat->Nat}{a m k:Nat}(h:k=a->m=0):AZ W a m (2*k)=W (2*k):=by
 rw[AZ]
 split
 .rfl
 .rename_i h0
  rw[BM,if_neg (λ e=>h0 (h (by omega)))]

theorem EN{W:Nat->Nat}{a m:Nat}(h:0<m):AZ W a m (2*a)=Bo (Dw m) 0 0 m:=by
 rw[AZ,if_neg (by omega),BM,if_pos rfl]

theorem Ck{g m:Nat}{c:Cel}(h:c∈gapL g m):0<m/\c=⟨g,Dw m,0,0,m⟩:=by
 rw[gapL] at h
 split at h
 .cases h
 .exact ⟨by omega,List.mem_singleton.1 h⟩

theorem gapTag_or(m:Nat):(m=1/\Dw m=2)\/(¬ m=1/\Dw m=3):=by
 rw[Dw]
 by_cases h:m=1
 .exact .inl ⟨h,by rw[if_pos h]⟩
 .exact .inr ⟨h,by rw[if_neg h]⟩

theorem gap_ok{ts:List TypR}{g m:Nat}(h0:0<m)(h1:m<=65536):Dh ts ⟨g,Dw m,0,0,m⟩:=by
 have hT:=gapTag_or m
 refine⟨?_,λ h=>?_⟩
 .simp only[Am,decide_eq_true_eq]
  omega
 .exact absurd h (by show ¬ Dw m=1;omega)

theorem makeW_at(W:Nat->Nat)(g id ln S:Nat):makeW W g id ln S (2*g)=Bo 1 id ln S:=by
 rw[makeW,BM,if_pos rfl]

theorem makeW_ne{W:Nat->Nat}{g id ln S k:Nat}(h0:0<S)(h:k<g\/g+S<=k):makeW W g id ln S (2*k)=W (2*k):=by
 rw[makeW,BM,if_neg (by omega),fillW,if_neg (by omega)]

def Aq(cs:List Cel)(i:Nat):Bool:=cs.any λ c=>c.tag==1&&c.g==i

theorem A9(xs ys:List Cel)(i:Nat):Aq (xs++ys) i=(Aq xs i||Aq ys i):=by simp[Aq]

theorem DF(g m i:Nat):Aq (gapL g m) i=false:=by
 have hT:=gapTag_or m
 rw[Aq,List.any_eq_false]
 intro c hc
 obtain⟨_,rfl⟩:=Ck hc
 simp
 omega

theorem Fs{xs:List Cel}{a b i:Nat}(h:Au a xs b)(hi:i<a\/b<=i):Aq xs i=false:=by
 rw[Aq,List.any_eq_false]
 intro c hc
 have:=h.mem hc
 simp
 omega

theorem startOf_gaps{xs:List Cel}(h:∀ c∈xs,¬ c.tag=1)(i:Nat):Aq xs i=false:=by
 rw[Aq,List.any_eq_false]
 intro c hc
 have:=h c hc
 simp[this]

def putL(pre:List Cel)(c:Cel)(post:List Cel)(g id ln S:Nat):List Cel:=
 pre++((gapL c.g (g-c.g)++⟨g,1,id,ln,S⟩::gapL (g+S) (c.fin-g-S))++post)

def putW(W:Nat->Nat)(c:Cel)(g id ln S:Nat):Nat->Nat:=AZ (AZ (makeW W g id ln S) c.g (g-c.g)) (g+S) (c.fin-g-S)

theorem put_cells{P:Sp}{W:Nat->Nat}{pre post:List Cel}{c:Cel}{g id ln S:Nat}(hn:P.n<=65536)(h:CellsAt P W (pre++c::post))(h1:c.g<=g)(h2:g+S<=c.fin)(hS:0<S)
  (hok:Dh P.ts ⟨g,1,id,ln,S⟩):CellsAt P (putW W c g id ln S) (putL pre c post g id ln S):=by
 obtain⟨x,t1,t2⟩:=h.tl.split
 obtain⟨hx,hp,t3⟩:=t2
 have hle:=t3.le
 have hfin:c.fin=x+c.sz:=by rw[Cel.fin,hx]
 rw[hfin] at h2
 refine CellsAt.swap (mid:=[c]) (x:=x) (y:=x+c.sz) h t1 ⟨hx,hp,rfl⟩ ?_ ?_ ?_ ?_
 .rw [hx,hfin]
  rw[hx] at h1
  have a1:=Ee x (g-x)
  rw[show x+(g-x)=g by omega] at a1
  have a2:=Ee (g+S) (x+c.sz-g-S)
  rw[show g+S+(x+c.sz-g-S)=x+c.sz by omega] at a2
  exact a1.app ⟨rfl,hS,a2⟩
 .intro k hk
  rw[putW,CV (by omega),CV (by omega),makeW_ne hS (by omega)]
 .intro d hd
  rcases List.mem_append.1 hd with hd|hd
  .obtain ⟨hm,rfl⟩:=Ck hd
   dsimp only
   rw[putW,CV (by omega),EN hm]
  .rcases List.mem_cons.1 hd with rfl|hd
   .dsimp only
    rw[putW,CV (by omega),CV (by omega),makeW_at]
   .obtain ⟨hm,rfl⟩:=Ck hd
    dsimp only
    rw[putW,EN hm]
 .intro d hd
  rcases List.mem_append.1 hd with hd|hd
  .obtain ⟨hm,rfl⟩:=Ck hd
   exact gap_ok hm (by omega)
  .rcases List.mem_cons.1 hd with rfl|hd
   .exact hok
   .obtain ⟨hm,rfl⟩:=Ck hd
    exact gap_ok hm (by omega)

theorem put_starts{P:Sp}{W:Nat->Nat}{f:Nat->Bool}{pre post:List Cel}{c:Cel}{g id ln S H:Nat}(hst:∀ i,i<H->f i=Aq (pre++c::post) i)(ht:¬ c.tag=1)(hg:g<H):
  ∀ i,i<H->E8 f H (g:Nat) 1 true i=Aq (putL pre c post g id ln S) i:=by
 intro i hi
 have ho:Bf H (g:Nat) 1=true:=by simp[Bf];omega
 have h0:=hst i hi
 rw[show pre++c::post=pre++([c]++post) from rfl,A9,A9,startOf_gaps (xs:=[c]) (by simpa using ht),Bool.false_or] at h0
 rw[E8,if_pos ho,putL,A9,A9,A9,DF,show (⟨g,1,id,ln,S⟩::gapL (g+S) (c.fin-g-S):List Cel)=[⟨g,1,id,ln,S⟩]++gapL (g+S) (c.fin-g-S) from rfl,A9,DF,Bool.false_or,Bool.or_false]
 simp only[Em]
 by_cases e:i=g
 .subst e
  rw[if_pos (by simp)]
  simp[Aq]
 .rw [if_neg (by simp;omega),h0]
  have:Aq [(⟨g,1,id,ln,S⟩:Cel)] i=false:=by simp[Aq];omega
  rw[this,Bool.false_or]

def dropL(p1 p2:List Cel)(x y:Nat):List Cel:=p1++(gapL x (y-x)++p2)

theorem drop_cells{P:Sp}{W:Nat->Nat}{p1 mid p2:List Cel}{x y:Nat}(hn:P.n<=65536)(h:CellsAt P W (p1++(mid++p2)))(hx:Au 0 p1 x)(hm:Au x mid y)(hxy:x<y)(hy:y<=P.n/2):
  CellsAt P (AZ W x (y-x)) (dropL p1 p2 x y):=by
 refine CellsAt.swap (mid:=mid) (x:=x) (y:=y) h hx hm ?_ ?_ ?_ ?_
 .have a1:=Ee x (y-x)
  rwa [show x+(y-x)=y by omega] at a1
 .intro k hk
  rw[CV (by omega)]
 .intro d hd
  obtain⟨hm,rfl⟩:=Ck hd
  dsimp only
  rw[EN hm]
 .intro d hd
  obtain⟨hm,rfl⟩:=Ck hd
  exact gap_ok hm (by omega)

theorem drop_starts{f:Nat->Bool}{p1 g1 p2 g2:List Cel}{c:Cel}{x y H:Nat}(hst:∀ i,i<H->f i=Aq (p1++(g1++c::g2++p2)) i)(htl:Au 0 (p1++(g1++c::g2++p2)) H)(h1:∀ d∈g1,¬ d.tag=1)(h2:∀ d∈g2,¬ d.tag=1):
  ∀ i,i<H->E8 f H (c.g:Nat) 1 false i=Aq (dropL p1 p2 x y) i:=by
 intro i hi
 have hc:=htl.mem (c:=c) (by simp)
 have ho:Bf H (c.g:Nat) 1=true:=by simp[Bf];omega
 obtain⟨b1,t1,t2⟩:=htl.split
 obtain⟨b2,t3,t4⟩:=t2.split
 have hcm:=t3.mem (c:=c) (by simp)
 have h0:=hst i hi
 rw[A9,A9,show g1++c::g2=g1++([c]++g2) from rfl,A9,A9,startOf_gaps h1,startOf_gaps h2,Bool.false_or,Bool.or_false] at h0
 rw[E8,if_pos ho,dropL,A9,A9,DF,Bool.false_or]
 simp only[Em]
 by_cases e:i=c.g
 .subst e
  rw[if_pos (by simp),Fs t1 (by omega),Fs t4 (by omega)]
  rfl
 .rw [if_neg (by simp;omega),h0]
  have:Aq [c] i=false:=by simp[Aq];omega
  rw[this,Bool.false_or]

theorem obj_ok{ts:List TypR}(few:ts.length<=64){id n:Int}(h:AY ts id n=0):
  ∃ i l S:Nat,id=(i:Nat)/\n=(l:Nat)/\Bq ts id n=(S:Nat)/\0<S/\S<=65536/\Dh ts ⟨0,1,i,l,S⟩:=by
 cases hx:typeOf ts id with
 |none=>rw [AY,hx] at h;cases h
 |some x=>
  have hE:AY ts id n=AV x.k x.wds x.m n:=by rw[AY,hx]
  have hS:Bq ts id n=Fp x.k x.wds n:=by rw[Bq,hx]
  obtain⟨i,hi,_,hl⟩:=Et hx
  obtain⟨h1,h2,h3,h4,h5⟩:=Ef (hE.symm.trans h)
  have hr:=Bi (hE.symm.trans h)
  obtain⟨l,rfl⟩:=Int.eq_ofNat_of_zero_le h2
  have hpos:0<=Fp x.k x.wds (l:Nat):=by rw[Fp];omega
  obtain⟨S,hS'⟩:=Int.eq_ofNat_of_zero_le hpos
  have hS2:(S:Int)=(AR x.k x.wds (l:Nat)+2)/2:=hS'.symm
  refine⟨i+1,l,S,hi,rfl,hS.trans hS',by omega,by omega,?_,λ _=>?_⟩
  .simp only[Am,decide_eq_true_eq]
   omega
  .dsimp only
   rw[<- hi]
   exact⟨h,hS.trans hS'⟩

theorem Dh.move{ts:List TypR}{g tag ty ln sz:Nat}(h:Dh ts ⟨g,tag,ty,ln,sz⟩)(g':Nat):Dh ts ⟨g',tag,ty,ln,sz⟩:=h

theorem tiles_fin:∀ {xs:List Cel} {a b j:Nat},Au a xs b->(∀ d∈xs,d.fin<=j)->a<=j->b<=j
 |[],a,b,j,h,k,e=>by rw[<- show a=b from h];exact e
 |c::xs,a,b,j,⟨h1,h2,h3⟩,k,e=>tiles_fin h3 (λ d hd=>k d (List.mem_cons_of_mem _ hd)) (by
   have:=k c (List.mem_cons_self ..)
   rw[Cel.fin,h1] at this
   exact this)

def cellOf(cs:List Cel)(g:Int):Option Cel:=cs.find? λ c=>decide (g<(c.fin:Nat))

def DX(ts:List TypR)(H:Nat)(cs:List Cel)(g id n:Int):Int:=
 if AY ts id n≠0 then AY ts id n else if g<0\/(H:Int)<=g then 2 else
  match cellOf cs g with
  |none=>3
  |some c=>if c.tag=1\/(c.fin:Int)-g<Bq ts id n then 3 else 0

theorem cellOf_at{pre post:List Cel}{c:Cel}{g:Int}(h:∀ d∈pre,¬ g<(d.fin:Nat))(hc:g<(c.fin:Nat)):cellOf (pre++c::post) g=some c:=by
 rw[cellOf,List.find?_append,List.find?_eq_none.2 (by simpa using h),Option.none_or,List.find?_cons_of_pos (by simpa using hc)]

theorem cell_split{cs:List Cel}{a b g:Nat}(h:Au a cs b)(h1:a<=g)(h2:g<b):∃ pre c post,cs=pre++c::post/\c.g<=g/\g<c.fin/\(∀ d∈pre,d.fin<=c.g):=by
 obtain⟨pre,c,post,rfl,k1,k2⟩:=h.at_ h1 h2
 refine⟨pre,c,post,rfl,k1,k2,λ d hd=>?_⟩
 obtain⟨x,t1,t2⟩:=h.split
 have:=t1.mem hd
 rw[t2.1,Cel.fin]
 omega

def EndsObj(p:List Cel):Prop:=p=[]\/∃ q d,p=q++[d]/\d.tag=1

def Ev(g:Nat)(pre:List Cel)(x y:Nat):Bool->Prop
 |false=>∃ p1 g1,pre=p1++g1/\(∀ d∈g1,¬ d.tag=1)/\EndsObj p1/\Au 0 p1 x/\∀ d∈pre,d.g<g
 |true=>∃ p1 g1 c g2,pre=p1++(g1++c::g2)/\c.g=g/\c.tag=1/\(∀ d∈g1,¬ d.tag=1)/\(∀ d∈g2,¬ d.tag=1)/\EndsObj p1/\Au 0 p1 x/\Au x (g1++c::g2) y

theorem Fq{cs:List Cel}{g:Nat}(h:Aq cs g=true):∃ c∈cs,c.tag=1/\c.g=g:=by
 rw[Aq,List.any_eq_true] at h
 obtain⟨c,hc,h⟩:=h
 simp at h
 exact⟨c,hc,h.1,h.2⟩

theorem Au.fin_at{pre rest:List Cel}{x:Cel}{a b:Nat}(h:Au a (pre++x::rest) b):Au a (pre++[x]) x.fin/\Au x.fin rest b/\Au a pre x.g:=by
 obtain⟨k,t1,t2⟩:=h.split
 obtain⟨e,hs,t3⟩:=t2
 subst e
 exact⟨t1.app ⟨rfl,hs,rfl⟩,t3,t1⟩

theorem drop_before{g H:Nat}{cs pre rest:List Cel}{c:Cel}{x y:Nat}(htl:Au 0 cs H)(hx:cs=pre++c::rest)(hg:Aq cs g=true)(hd:Ev g pre x y false):
  c.g<=g/\(c.tag=1->¬ c.g=g->Ev g (pre++[c]) c.fin y false)/\(c.tag=1->c.g=g->Ev g (pre++[c]) x c.fin true)/\(¬ c.tag=1->¬ c.g=g/\Ev g (pre++[c]) x c.fin false):=by
 obtain⟨p1,g1,e1,h1,h2,h3,h4⟩:=hd
 obtain⟨o,ho,t1,t2⟩:=Fq hg
 rw[hx] at htl ho
 obtain⟨a1,a2,a3⟩:=htl.fin_at
 have hsz:0<c.sz:=(htl.mem (c:=c) (by simp)).2.2
 have le:c.g<=g:=by
  rcases List.mem_append.1 ho with ho|ho
  .have:=h4 o ho;omega
  .rcases List.mem_cons.1 ho with e|ho
   .rw [<- e];omega
   .have:=a2.mem ho
    rw[Cel.fin] at this
    omega
 have hcg:∀ d∈pre++[c],¬ c.g=g->d.g<g:=λ d hd hne=>by
  rcases List.mem_append.1 hd with hd|hd
  .exact h4 d hd
  .rw [List.mem_singleton.1 hd];omega
 refine⟨le,λ k1 k2=>?_,λ k1 k2=>?_,λ k1=>?_⟩
 .exact ⟨pre++[c],[],by simp,(λ d hd=>by cases hd),.inr ⟨pre,c,rfl,k1⟩,a1,λ d hd=>hcg d hd k2⟩
 .refine ⟨p1,g1,c,[],by rw[e1,List.append_assoc],k2,k1,h1,λ d hd=>by (cases hd),h2,h3,?_⟩
  rw[e1,List.append_assoc] at a1
  obtain⟨k,u1,u2⟩:=a1.split
  obtain rfl:=h3.uniq u1
  exact u2
 .have hne:¬ c.g=g:=λ e=>by
   have:=htl.only (c:=c) (d:=o) (by simp) ho (by omega)
   rw[this] at k1
   exact k1 t1
  exact⟨hne,p1,g1++[c],by rw[e1,List.append_assoc],λ d hd=>by
   rcases List.mem_append.1 hd with hd|hd
   .exact h1 d hd
   .rw [List.mem_singleton.1 hd];exact k1,h2,h3,λ d hd=>hcg d hd hne⟩

theorem drop_behind{g H:Nat}{cs pre rest:List Cel}{c:Cel}{x y:Nat}(htl:Au 0 cs H)(hx:cs=pre++c::rest)(hd:Ev g pre x y true):
  g<c.g/\(¬ c.tag=1->Ev g (pre++[c]) x c.fin true):=by
 obtain⟨p1,g1,o,g2,e1,h1,h2,h3,h4,h5,h6,h7⟩:=hd
 rw[hx] at htl
 obtain⟨a1,a2,a3⟩:=htl.fin_at
 refine⟨?_,λ k1=>?_⟩
 .have:=a3.mem (c:=o) (by rw[e1];simp)
  omega
 .refine ⟨p1,g1,o,g2++[c],by rw[e1];simp,h1,h2,h3,λ d hd=>?_,h5,h6,?_⟩
  .rcases List.mem_append.1 hd with hd|hd
   .exact h4 d hd
   .rw [List.mem_singleton.1 hd];exact k1
  .rw [e1,List.append_assoc] at a1
   obtain⟨k,u1,u2⟩:=a1.split
   obtain rfl:=h6.uniq u1
   simpa using u2

def Dj(cs:List Cel)(g:Nat)(p1 g1:List Cel)(c:Cel)(g2 p2:List Cel)(x y:Nat):Prop:=
 cs=p1++(g1++c::g2++p2)/\c.g=g/\c.tag=1/\(∀ d∈g1,¬ d.tag=1)/\(∀ d∈g2,¬ d.tag=1)/\EndsObj p1/\(p2=[]\/∃ d q,p2=d::q/\d.tag=1)/\Au 0 p1 x/\Au x (g1++c::g2) y/\x<y

theorem drop_end{g H:Nat}{cs pre rest:List Cel}{x y:Nat}(htl:Au 0 cs H)(hx:cs=pre++rest)(hd:Ev g pre x y true)(hr:rest=[]\/∃ d q,rest=d::q/\d.tag=1):
  ∃ p1 g1 c g2 p2,Dj cs g p1 g1 c g2 p2 x y:=by
 obtain⟨p1,g1,o,g2,e1,h1,h2,h3,h4,h5,h6,h7⟩:=hd
 have:=h7.mem (c:=o) (by simp)
 exact⟨p1,g1,o,g2,rest,by rw[hx,e1];simp,h1,h2,h3,h4,h5,hr,h6,h7,by omega⟩

theorem drop_not{g:Nat}{cs:List Cel}{x y:Nat}(hg:Aq cs g=true):¬ Ev g cs x y false:=by
 rintro ⟨p1,g1,e1,h1,h2,h3,h4⟩
 obtain⟨c,hc,_,t2⟩:=Fq hg
 have:=h4 c hc
 omega

theorem Dj.cells{P:Sp}{W:Nat->Nat}{cs p1 g1 g2 p2:List Cel}{c:Cel}{g x y:Nat}(hn:P.n<=65536)(hc:CellsAt P W cs)(h:Dj cs g p1 g1 c g2 p2 x y):CellsAt P (AZ W x (y-x)) (dropL p1 p2 x y)/\y<=P.n/2:=by
 obtain⟨e,h1,h2,h3,h4,h5,h6,h7,h8,h9⟩:=h
 subst e
 obtain⟨b,t1,t2⟩:=hc.tl.split
 obtain rfl:=h7.uniq t1
 obtain⟨d,t3,t4⟩:=t2.split
 obtain rfl:=h8.uniq t3
 exact⟨drop_cells (mid:=g1++c::g2) hn hc h7 h8 h9 t4.le,t4.le⟩

theorem Dj.starts{f:Nat->Bool}{cs p1 g1 g2 p2:List Cel}{c:Cel}{g x y H:Nat}(hst:∀ i,i<H->f i=Aq cs i)(htl:Au 0 cs H)(h:Dj cs g p1 g1 c g2 p2 x y):
  ∀ i,i<H->E8 f H (g:Nat) 1 false i=Aq (dropL p1 p2 x y) i:=by
 obtain⟨e,h1,h2,h3,h4,h5,h6,h7,h8,h9⟩:=h
 subst e
 subst h1
 exact drop_starts hst htl h3 h4

end

end Go.Proofs.YtmfajopmppfldaaGreatDoor
