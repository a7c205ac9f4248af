/-
  Lemmas for the laws, together: Heads.
-/
import Derived.Test.YtfkedlgpgmaemaaGreatDoorQad
import Derived.RegionTactic
import Derived.Test.YtfkedlgpgmaemaaGreatDoorQae
import Derived.Laws.StructEq
set_option linter.unusedVariables false
set_option maxHeartbeats 16000000
namespace Go.Proofs.YtfkedlgpgmaemaaGreatDoor
open Tryz
section
open Go.RowKit

theorem lay_0(b v x:Nat)(w:World)(hF:Au w)(a:w.heap[b]?=some (.cells #[.int .u64 x] 79 (0,0)))(B:v<16777216)(j:x<18446744073709551616):
  Calls prog 217 #[(0:Int),v,.pointer (some b)] w λ e w'=>
   e=.returned (.tuple #[])/\Kp (λ i=>i=b) w w'/\w'.heap[b]?=some (.cells #[.int .u64 ((x ||| v*1:Nat):Int)] 79 (0,0)):=by
 obtain⟨c0,k,l,m,n,q,r,s,t,y⟩:=hF.all
 have z:=cell_of_one a
 have A:=free_of_one a
 have d:bits .or .u64 (x:Int) ((v:Int))=((x ||| v*1:Nat):Int):=by
  have c:=u64_or_nat x (v*1) j (by omega)
  rw[show ((v*1:Nat):Int)=(v:Int) by omega] at c
  exact c
 have f:=sE a
 have g:=sE d
 clear a hF d
 go_enter func217,ntmps217
 go_wp2_with fail
 go_region
 go_end0
 rw[g.o]
 exact⟨rfl,((Kr (λ i=>i=b) w).setCell (p:=⟨b,0,none⟩) (λ _=>rfl) _).drew,one_setCell (u:=.int .u64 ((x ||| v*1:Nat):Int)) f.o⟩

theorem lay_1(b v x:Nat)(w:World)(hF:Au w)(a:w.heap[b]?=some (.cells #[.int .u64 x] 79 (0,0)))(B:v<16777216)(j:x<18446744073709551616):
  Calls prog 217 #[(1:Int),v,.pointer (some b)] w λ e w'=>
   e=.returned (.tuple #[])/\Kp (λ i=>i=b) w w'/\w'.heap[b]?=some (.cells #[.int .u64 ((x ||| v*4:Nat):Int)] 79 (0,0)):=by
 obtain⟨c0,k,l,m,n,q,r,s,t,y⟩:=hF.all
 have z:=cell_of_one a
 have A:=free_of_one a
 have d:bits .or .u64 (x:Int) ((v:Int)*4)=((x ||| v*4:Nat):Int):=by
  have c:=u64_or_nat x (v*4) j (by omega)
  rw[show ((v*4:Nat):Int)=(v:Int)*4 by omega] at c
  exact c
 have f:=sE a
 have g:=sE d
 clear a hF d
 go_enter func217,ntmps217
 go_wp2_with fail
 go_region
 go_end0
 rw[g.o]
 exact⟨rfl,((Kr (λ i=>i=b) w).setCell (p:=⟨b,0,none⟩) (λ _=>rfl) _).drew,one_setCell (u:=.int .u64 ((x ||| v*4:Nat):Int)) f.o⟩

theorem lay_3(b v x:Nat)(w:World)(hF:Au w)(a:w.heap[b]?=some (.cells #[.int .u64 x] 79 (0,0)))(B:v<16777216)(j:x<18446744073709551616):
  Calls prog 217 #[(3:Int),v,.pointer (some b)] w λ e w'=>
   e=.returned (.tuple #[])/\Kp (λ i=>i=b) w w'/\w'.heap[b]?=some (.cells #[.int .u64 ((x ||| v*65536:Nat):Int)] 79 (0,0)):=by
 obtain⟨c0,k,l,m,n,q,r,s,t,y⟩:=hF.all
 have z:=cell_of_one a
 have A:=free_of_one a
 have d:bits .or .u64 (x:Int) ((v:Int)*65536)=((x ||| v*65536:Nat):Int):=by
  have c:=u64_or_nat x (v*65536) j (by omega)
  rw[show ((v*65536:Nat):Int)=(v:Int)*65536 by omega] at c
  exact c
 have f:=sE a
 have g:=sE d
 clear a hF d
 go_enter func217,ntmps217
 go_wp2_with fail
 go_region
 go_end0
 rw[g.o]
 exact⟨rfl,((Kr (λ i=>i=b) w).setCell (p:=⟨b,0,none⟩) (λ _=>rfl) _).drew,one_setCell (u:=.int .u64 ((x ||| v*65536:Nat):Int)) f.o⟩

theorem lay_4(b v x:Nat)(w:World)(hF:Au w)(a:w.heap[b]?=some (.cells #[.int .u64 x] 79 (0,0)))(B:v<16777216)(j:x<18446744073709551616):
  Calls prog 217 #[(4:Int),v,.pointer (some b)] w λ e w'=>
   e=.returned (.tuple #[])/\Kp (λ i=>i=b) w w'/\w'.heap[b]?=some (.cells #[.int .u64 ((x ||| v*1099511627776:Nat):Int)] 79 (0,0)):=by
 obtain⟨c0,k,l,m,n,q,r,s,t,y⟩:=hF.all
 have z:=cell_of_one a
 have A:=free_of_one a
 have d:bits .or .u64 (x:Int) ((v:Int)*1099511627776)=((x ||| v*1099511627776:Nat):Int):=by
  have c:=u64_or_nat x (v*1099511627776) j (by omega)
  rw[show ((v*1099511627776:Nat):Int)=(v:Int)*1099511627776 by omega] at c
  exact c
 have f:=sE a
 have g:=sE d
 clear a hF d
 go_enter func217,ntmps217
 go_wp2_with fail
 go_region
 go_end0
 rw[g.o]
 exact⟨rfl,((Kr (λ i=>i=b) w).setCell (p:=⟨b,0,none⟩) (λ _=>rfl) _).drew,one_setCell (u:=.int .u64 ((x ||| v*1099511627776:Nat):Int)) f.o⟩

theorem Encode_yes(tag ty ln sz:Nat)(w:World)(hF:Au w)(a:Am tag ty ln sz=true):
  Calls prog 193 #[Ao tag ty ln sz] w (RK (.tuple #[.int .u64 (BA tag ty ln sz:Nat),(0:Int)]) w):=by
 have L:=wN w (.cells #[.int .u8 tag,ty,ln,sz] 111)
 have C:=(Kr Aa w).alloc (.cells #[.int .u8 tag,ty,ln,sz] 111)
 have r:=DC tag ty ln sz _ (hF.Ac C)
 rw[a] at r
 unfold Ao at r ⊢
 have H:=sE r
 have b3:tag<=3/\ty<=4095/\ln<=16777215/\sz<=16777215:=by
  simp only[Am,decide_eq_true_eq] at a
  omega
 obtain⟨c8,c9,d0,d1⟩:=b3
 have R:=sE (encH_or a)
 have c6:∀ (fn:Fn) (first cap:Array Value) (w:World),(Instr.makeFunc fn first cap).run prog w=.ok (.func fn first cap) w:=λ _ _ _ _=>rfl
 clear r a
 go_enter func193,ntmps193
 go_wp2_with fail
 refine H.o.mono ?_
 rintro e w1 ⟨rfl,s⟩
 have p:=s.at_ L id
 have b4:=s.size
 have c7:w.heap.size<w1.heap.size:=lZ p
 have u:¬ w.heap.size=w1.heap.size:=by omega
 have t:¬ (0:Nat)=w1.heap.size:=by have:=hF.1;omega
 have U:w1.cell? w.heap.size=some (.int .u8 tag):=by simp[World.cell?,p]
 have P:Kp Aa w w1:=C.trans s (λ _ _ a=>a)
 have Q:=hF.Ac P
 obtain⟨w2,b⟩:∃ w2,w2=w1.alloc (.cells #[.int .u64 0] 79):=⟨_,rfl⟩
 have B:Kp Aa w1 w2:=by rw[b];exact (Kr _ _).alloc _
 have b1:w2.heap[w1.heap.size]?=some (.cells #[.int .u64 ((0:Nat):Int)] 79 (0,0)):=by rw[b];exact wN w1 _
 have c:=B.at_ p id
 have D:=Q.Ac B
 have V:(w1.alloc (.cells #[.int .u64 0] 79)).cell? w.heap.size=some (.int .u8 tag):=by rw[<- b];simp [World.cell?,c]
 have W:(w1.alloc (.cells #[.int .u64 0] 79)).cell? ⟨w.heap.size,1,none⟩=some (.int .i64 ty):=by rw[<- b];simp [World.cell?,c]
 have X:(w1.alloc (.cells #[.int .u64 0] 79)).cell? ⟨w.heap.size,2,none⟩=some (.int .i64 ln):=by rw[<- b];simp [World.cell?,c]
 have Y:(w1.alloc (.cells #[.int .u64 0] 79)).cell? ⟨w.heap.size,3,none⟩=some (.int .i64 sz):=by rw[<- b];simp [World.cell?,c]
 have S:Sl ((0:Nat)<18446744073709551616):=⟨by omega⟩
 have J:Sl ((0 ||| tag*1)<18446744073709551616):=⟨Nat.lt_of_lt_of_eq (Nat.or_lt_two_pow (n:=64) (by omega) (by omega)) rfl⟩
 have K:Sl ((0 ||| tag*1 ||| ty*4)<18446744073709551616):=⟨Nat.lt_of_lt_of_eq (Nat.or_lt_two_pow (n:=64) J.o (by omega)) rfl⟩
 have T:Sl ((0 ||| tag*1 ||| ty*4 ||| ln*65536)<18446744073709551616):=⟨Nat.lt_of_lt_of_eq (Nat.or_lt_two_pow (n:=64) K.o (by omega)) rfl⟩
 have I:=sE b
 clear p U L C s H b4
 go_wp2_with fail
 rw[<- I.o]
 clear I b
 refine(lay_0 w1.heap.size tag 0 w2 D b1 (by omega) S.o).mono ?_
 rintro e j ⟨rfl,x,M⟩
 have E:=D.keep x t
 have d:=x.at_ c (λ e=>u e)
 have Z:j.cell? w.heap.size=some (.int .u8 tag):=by simp[World.cell?,d]
 have a0:j.cell? ⟨w.heap.size,1,none⟩=some (.int .i64 ty):=by simp[World.cell?,d]
 have a1:j.cell? ⟨w.heap.size,2,none⟩=some (.int .i64 ln):=by simp[World.cell?,d]
 have a2:j.cell? ⟨w.heap.size,3,none⟩=some (.int .i64 sz):=by simp[World.cell?,d]
 have c1:=cell_of_one M
 clear V W X Y
 go_wp2_with fail
 refine(lay_1 w1.heap.size ty (0 ||| tag*1) j E M (by omega) J.o).mono ?_
 rintro e k ⟨rfl,y,N⟩
 have F:=E.keep y t
 have f:=y.at_ d (λ e=>u e)
 have a3:k.cell? w.heap.size=some (.int .u8 tag):=by simp[World.cell?,f]
 have a4:k.cell? ⟨w.heap.size,1,none⟩=some (.int .i64 ty):=by simp[World.cell?,f]
 have a5:k.cell? ⟨w.heap.size,2,none⟩=some (.int .i64 ln):=by simp[World.cell?,f]
 have a6:k.cell? ⟨w.heap.size,3,none⟩=some (.int .i64 sz):=by simp[World.cell?,f]
 have c2:=cell_of_one N
 clear Z a0 a1 a2
 go_wp2_with fail
 refine(lay_3 w1.heap.size ln (0 ||| tag*1 ||| ty*4) k F N (by omega) K.o).mono ?_
 rintro e l ⟨rfl,z,O⟩
 have G:=F.keep z t
 have g:=z.at_ f (λ e=>u e)
 have a7:l.cell? w.heap.size=some (.int .u8 tag):=by simp[World.cell?,g]
 have a8:l.cell? ⟨w.heap.size,1,none⟩=some (.int .i64 ty):=by simp[World.cell?,g]
 have a9:l.cell? ⟨w.heap.size,2,none⟩=some (.int .i64 ln):=by simp[World.cell?,g]
 have b0:l.cell? ⟨w.heap.size,3,none⟩=some (.int .i64 sz):=by simp[World.cell?,g]
 have c3:=cell_of_one O
 clear a3 a4 a5 a6
 go_wp2_with fail
 refine(lay_4 w1.heap.size sz (0 ||| tag*1 ||| ty*4 ||| ln*65536) l G O (by omega) T.o).mono ?_
 rintro e m ⟨rfl,A,b2⟩
 have b6:=G.keep A t
 have q:=A.at_ g (λ e=>u e)
 have b7:m.cell? w.heap.size=some (.int .u8 tag):=by simp[World.cell?,q]
 have b8:m.cell? ⟨w.heap.size,1,none⟩=some (.int .i64 ty):=by simp[World.cell?,q]
 have b9:m.cell? ⟨w.heap.size,2,none⟩=some (.int .i64 ln):=by simp[World.cell?,q]
 have c0:m.cell? ⟨w.heap.size,3,none⟩=some (.int .i64 sz):=by simp[World.cell?,q]
 have c4:=cell_of_one b2
 clear a7 a8 a9 b0
 go_wp2
 have b5:Sl ((tag ||| ty*4 ||| ln*65536 ||| sz*1099511627776)=BA tag ty ln sz):=⟨by have a:=R.o;rwa [Nat.zero_or] at a⟩
 have KF:Kp (λ i=>i=w1.heap.size) w m:=(((((P.trans B (λ _ _ a=>a)).Aw _).trans x (λ _ _ a=>a)).trans y (λ _ _ a=>a)).trans z (λ _ _ a=>a)).trans A (λ _ _ a=>a)
 rw[b5.o]
 refine bodyPost_ret (v:=.tuple #[.int .u64 (BA tag ty ln sz:Nat),(0:Int)]) (by simp[results,results193,go_sem]) rfl ⟨rfl,KF.mono (λ i c5 a=>by omega)⟩

theorem and_mask{X S T:Nat}(k:Nat)(a:T=2 ^ k)(d:k<=24)(c:X<18446744073709551616):bits .and .u64 ((X/S:Nat):Int) ((T-1:Nat):Int)=((X/S%T:Nat):Int):=by
 have b:X/S<18446744073709551616:=Nat.lt_of_le_of_lt (Nat.div_le_self _ _) c
 have e:T<=16777216:=by rw[a];exact Nat.pow_le_pow_right (by decide) d
 rw[u64_and_nat _ _ b (by omega),a,Nat.and_two_pow_sub_one_eq_mod]

theorem of_0(b X:Nat)(w:World)(hF:Au w)(d:w.heap[b]?=some (.cells #[.int .u64 X] 79 (0,0)))(f:X<18446744073709551616):
  Calls prog 175 #[(0:Int),.pointer (some b)] w λ e w'=>e=.returned (.int .i64 ((X/1%4:Nat):Int))/\∃ m,w'=w.drewN m:=by
 obtain⟨c0,i,j,k,l,n,o,p,q,s⟩:=hF.all
 have t:=cell_of_one d
 have g:bits .and .u64 ((X:Int)) 3=((X/1%4:Nat):Int):=by
  have c:=and_mask (X:=X) (S:=1) (T:=4) 2 rfl (by omega) f
  rw[show ((X/1:Nat):Int)=(X:Int) by omega] at c
  exact c
 obtain⟨r,a⟩:∃ r,X/1%4=r:=⟨_,rfl⟩
 have u:r<4:=by rw[<- a];exact Nat.mod_lt _ (by omega)
 rw[a] at g ⊢
 clear a d hF
 go_enter func175,ntmps175
 go_wp2_with fail
 go_quiet (fail)
 go_wp2
 go_ret
 exact⟨rfl,_,rfl⟩

theorem of_1(b X:Nat)(w:World)(hF:Au w)(d:w.heap[b]?=some (.cells #[.int .u64 X] 79 (0,0)))(f:X<18446744073709551616):
  Calls prog 175 #[(1:Int),.pointer (some b)] w λ e w'=>e=.returned (.int .i64 ((X/4%4096:Nat):Int))/\∃ m,w'=w.drewN m:=by
 obtain⟨c0,i,j,k,l,n,o,p,q,s⟩:=hF.all
 have t:=cell_of_one d
 have g:bits .and .u64 ((X:Int)/4) 4095=((X/4%4096:Nat):Int):=by
  have c:=and_mask (X:=X) (S:=4) (T:=4096) 12 rfl (by omega) f
  rw[show ((X/4:Nat):Int)=(X:Int)/4 by omega] at c
  exact c
 obtain⟨r,a⟩:∃ r,X/4%4096=r:=⟨_,rfl⟩
 have u:r<4096:=by rw[<- a];exact Nat.mod_lt _ (by omega)
 rw[a] at g ⊢
 clear a d hF
 go_enter func175,ntmps175
 go_wp2_with fail
 go_quiet (fail)
 go_wp2
 go_ret
 exact⟨rfl,_,rfl⟩

theorem of_2(b X:Nat)(w:World)(hF:Au w)(d:w.heap[b]?=some (.cells #[.int .u64 X] 79 (0,0)))(f:X<18446744073709551616):
  Calls prog 175 #[(2:Int),.pointer (some b)] w λ e w'=>e=.returned (.int .i64 ((X/16384%4:Nat):Int))/\∃ m,w'=w.drewN m:=by
 obtain⟨c0,i,j,k,l,n,o,p,q,s⟩:=hF.all
 have t:=cell_of_one d
 have g:bits .and .u64 ((X:Int)/16384) 3=((X/16384%4:Nat):Int):=by
  have c:=and_mask (X:=X) (S:=16384) (T:=4) 2 rfl (by omega) f
  rw[show ((X/16384:Nat):Int)=(X:Int)/16384 by omega] at c
  exact c
 obtain⟨r,a⟩:∃ r,X/16384%4=r:=⟨_,rfl⟩
 have u:r<4:=by rw[<- a];exact Nat.mod_lt _ (by omega)
 rw[a] at g ⊢
 clear a d hF
 go_enter func175,ntmps175
 go_wp2_with fail
 go_quiet (fail)
 go_wp2
 go_ret
 exact⟨rfl,_,rfl⟩

theorem of_3(b X:Nat)(w:World)(hF:Au w)(d:w.heap[b]?=some (.cells #[.int .u64 X] 79 (0,0)))(f:X<18446744073709551616):
  Calls prog 175 #[(3:Int),.pointer (some b)] w λ e w'=>e=.returned (.int .i64 ((X/65536%16777216:Nat):Int))/\∃ m,w'=w.drewN m:=by
 obtain⟨c0,i,j,k,l,n,o,p,q,s⟩:=hF.all
 have t:=cell_of_one d
 have g:bits .and .u64 ((X:Int)/65536) 16777215=((X/65536%16777216:Nat):Int):=by
  have c:=and_mask (X:=X) (S:=65536) (T:=16777216) 24 rfl (by omega) f
  rw[show ((X/65536:Nat):Int)=(X:Int)/65536 by omega] at c
  exact c
 obtain⟨r,a⟩:∃ r,X/65536%16777216=r:=⟨_,rfl⟩
 have u:r<16777216:=by rw[<- a];exact Nat.mod_lt _ (by omega)
 rw[a] at g ⊢
 clear a d hF
 go_enter func175,ntmps175
 go_wp2_with fail
 go_quiet (fail)
 go_wp2
 go_ret
 exact⟨rfl,_,rfl⟩

theorem of_4(b X:Nat)(w:World)(hF:Au w)(d:w.heap[b]?=some (.cells #[.int .u64 X] 79 (0,0)))(f:X<18446744073709551616):
  Calls prog 175 #[(4:Int),.pointer (some b)] w λ e w'=>e=.returned (.int .i64 ((X/1099511627776%16777216:Nat):Int))/\∃ m,w'=w.drewN m:=by
 obtain⟨c0,i,j,k,l,n,o,p,q,s⟩:=hF.all
 have t:=cell_of_one d
 have g:bits .and .u64 ((X:Int)/1099511627776) 16777215=((X/1099511627776%16777216:Nat):Int):=by
  have c:=and_mask (X:=X) (S:=1099511627776) (T:=16777216) 24 rfl (by omega) f
  rw[show ((X/1099511627776:Nat):Int)=(X:Int)/1099511627776 by omega] at c
  exact c
 obtain⟨r,a⟩:∃ r,X/1099511627776%16777216=r:=⟨_,rfl⟩
 have u:r<16777216:=by rw[<- a];exact Nat.mod_lt _ (by omega)
 rw[a] at g ⊢
 clear a d hF
 go_enter func175,ntmps175
 go_wp2_with fail
 go_quiet (fail)
 go_wp2
 go_ret
 exact⟨rfl,_,rfl⟩

def CE(X:Nat):Nat:=X/1%4
def EA(X:Nat):Nat:=X/4%4096
def gapW(X:Nat):Nat:=X/16384%4
def EX(X:Nat):Nat:=X/65536%16777216
def DY(X:Nat):Nat:=X/1099511627776%16777216

def Ct(X:Nat):Bool:=Am (CE X:Nat) (EA X:Nat) (EX X:Nat) (DY X:Nat)&&decide (gapW X=0)

def FC(ok:Bool)(tg ty ln sz:Nat)(w:World)(e:Ending)(w':World):Prop:=
 e=.returned (.tuple #[if ok then Ao (tg:Nat) (ty:Nat) (ln:Nat) (sz:Nat) else Ao 0 0 0 0,.int .i64 (if ok then 0 else 7)])/\Kp Aa w w'

set_option maxRecDepth 20000 in
theorem Decode_any(X:Nat)(w:World)(hF:Au w)(b1:X<18446744073709551616):
  Calls prog 132 #[.int .u64 X] w (FC (Ct X) (CE X) (EA X) (EX X) (DY X) w):=by
 have e3:∀ (fn:Fn) (first cap:Array Value) (w:World),(Instr.makeFunc fn first cap).run prog w=.ok (.func fn first cap) w:=λ _ _ _ _=>rfl
 obtain⟨f,E⟩:∃ x,CE X=x:=⟨_,rfl⟩
 obtain⟨ty,F⟩:∃ x,EA X=x:=⟨_,rfl⟩
 obtain⟨r,L⟩:∃ x,gapW X=x:=⟨_,rfl⟩
 obtain⟨ln,C⟩:∃ x,EX X=x:=⟨_,rfl⟩
 obtain⟨sz,D⟩:∃ x,DY X=x:=⟨_,rfl⟩
 have c5:=sE E
 have c6:=sE F
 have c2:=sE L
 have c3:=sE C
 have c4:=sE D
 have e4:f<4:=by rw[<- E];exact Nat.mod_lt _ (by omega)
 have e5:ty<4096:=by rw[<- F];exact Nat.mod_lt _ (by omega)
 have e6:r<4:=by rw[<- L];exact Nat.mod_lt _ (by omega)
 have e7:ln<16777216:=by rw[<- C];exact Nat.mod_lt _ (by omega)
 have e8:sz<16777216:=by rw[<- D];exact Nat.mod_lt _ (by omega)
 have b2:Ct X=(Am (f:Nat) (ty:Nat) (ln:Nat) (sz:Nat)&&decide (r=0)):=by rw[Ct,E,F,C,D,L]
 rw[E,F,C,D,b2]
 have t:=sE b1
 clear E F L C D b2 b1
 obtain⟨w1,G⟩:∃ w1,w1=(w.alloc (.cells #[.int .u64 X] 79)).alloc (.cells #[.int .u8 0,(0:Int),(0:Int),(0:Int)] 111):=⟨_,rfl⟩
 have c0:Kp Aa w w1:=by rw[G];exact ((Kr _ w).alloc _).alloc _
 have R:w1.heap[w.heap.size]?=some (.cells #[.int .u64 X] 79 (0,0)):=by
  rw[G];exact ((Kr Aa _).alloc _).at_ (wN w _) id
 have a9:w1.heap[w.heap.size+1]?=some (.cells #[.int .u8 0,(0:Int),(0:Int),(0:Int)] 111 (0,0)):=by
  rw[G];have:=wN (w.alloc (.cells #[.int .u64 X] 79)) (.cells #[.int .u8 0,(0:Int),(0:Int),(0:Int)] 111);rwa [World.size_alloc] at this
 have a1:=hF.Ac c0
 go_enter func132,ntmps132
 go_wp2_with fail
 rw[<- G]
 clear G
 refine(of_0 w.heap.size X w1 a1 R t.o).mono ?_
 rintro e w2 ⟨rfl,e9,b4⟩
 have M:Kp Aa w1 w2:=by rw[b4];exact Kp.Ah _
 have d7:Sl (X/1%4=f):=⟨c5.o⟩
 rw[d7.o]
 clear b4
 have a2:=a1.Ac M
 have S:=M.at_ R id
 go_wp2_with fail
 refine(of_1 w.heap.size X w2 a2 S t.o).mono ?_
 rintro e Y ⟨rfl,f0,b5⟩
 have N:Kp Aa w2 Y:=by rw[b5];exact Kp.Ah _
 have d8:Sl (X/4%4096=ty):=⟨c6.o⟩
 rw[d8.o]
 clear b5
 have a3:=a2.Ac N
 have T:=N.at_ S id
 go_wp2_with fail
 refine(of_3 w.heap.size X Y a3 T t.o).mono ?_
 rintro e Z ⟨rfl,f1,b6⟩
 have O:Kp Aa Y Z:=by rw[b6];exact Kp.Ah _
 have d9:Sl (X/65536%16777216=ln):=⟨c3.o⟩
 rw[d9.o]
 clear b6
 have a4:=a3.Ac O
 have U:=O.at_ T id
 go_wp2_with fail
 refine(of_4 w.heap.size X Z a4 U t.o).mono ?_
 rintro e k ⟨rfl,f2,b7⟩
 have P:Kp Aa Z k:=by rw[b7];exact Kp.Ah _
 have e0:Sl (X/1099511627776%16777216=sz):=⟨c4.o⟩
 rw[e0.o]
 clear b7
 have a5:=a4.Ac P
 have a7:=P.at_ U id
 have d6:Kp Aa w k:=((((c0.trans M (λ _ _ b=>b)).trans N (λ _ _ b=>b)).trans O (λ _ _ b=>b)).trans P (λ _ _ b=>b))
 have b0:=P.at_ (O.at_ (N.at_ (M.at_ a9 id) id) id) id
 clear R a9 S T U
 go_wp2_with fail
 have a6:=a5.Ac ((Kr Aa k).alloc (.cells #[.int .u8 f,ty,ln,sz] 111))
 have Q:=DC (f:Nat) (ty:Nat) (ln:Nat) (sz:Nat) _ a6
 have a0:=wN k (.cells #[.int .u8 f,ty,ln,sz] 111)
 have b9:=(Kr Aa k).alloc (.cells #[.int .u8 f,ty,ln,sz] 111)
 unfold Ao at Q
 refine Q.mono ?_
 clear Q
 rintro e l ⟨rfl,V⟩
 have K:=b9.trans V (λ _ _ b=>b)
 have c1:=a5.Ac K
 have a8:=K.at_ a7 id
 have n:=K.at_ b0 id
 have p:=V.at_ a0 id
 have u:=d6.trans K (λ _ _ b=>b)
 clear a7 b0 a0 a6 b9 V
 cases hh:Am (f:Nat) (ty:Nat) (ln:Nat) (sz:Nat) with
 |false=>
  have J:=sE hh
  clear hh
  have c7:l.cell? ⟨w.heap.size+1,0,none⟩=some (.int .u8 0):=by simp[World.cell?,n]
  have c8:l.cell? ⟨w.heap.size+1,1,none⟩=some (.int .i64 0):=by simp[World.cell?,n]
  have c9:l.cell? ⟨w.heap.size+1,2,none⟩=some (.int .i64 0):=by simp[World.cell?,n]
  have d0:l.cell? ⟨w.heap.size+1,3,none⟩=some (.int .i64 0):=by simp[World.cell?,n]
  have d1:l.cell? k.heap.size=some (.int .u8 f):=by simp[World.cell?,p]
  have d2:l.cell? ⟨k.heap.size,1,none⟩=some (.int .i64 ty):=by simp[World.cell?,p]
  have d3:l.cell? ⟨k.heap.size,2,none⟩=some (.int .i64 ln):=by simp[World.cell?,p]
  have d4:l.cell? ⟨k.heap.size,3,none⟩=some (.int .i64 sz):=by simp[World.cell?,p]
  have m:=Ab n
  have f00:=m 0
  have f01:=m 1
  have f02:=m 2
  have f03:=m 3
  have I:=sE n
  clear m
  clear n p
  go_wp2
  obtain⟨a,d⟩:∃ a,a=(((l.setCell ⟨w.heap.size+1,0,none⟩ (.int .u8 0)).setCell ⟨w.heap.size+1,1,none⟩ (.int .i64 0)).setCell ⟨w.heap.size+1,2,none⟩ (.int .i64 0)).setCell ⟨w.heap.size+1,3,none⟩ (.int .i64 0):=⟨_,rfl⟩
  rw[<- d]
  have g:a.heap[w.heap.size+1]?=some (.cells #[.int .u8 0,(0:Int),(0:Int),(0:Int)] 111 (0,0)):=by
   rw[d];exact bZ (bZ (bZ (bZ I.o (j:=0) _) (j:=1) _) (j:=2) _) (j:=3) _
  have H:Kp (λ i=>i=w.heap.size+1) l a:=by rw[d];exact ((((Kr (λ i=>i=w.heap.size+1) l).setCell (λ _=>rfl) _).setCell (λ _=>rfl) _).setCell (λ _=>rfl) _).setCell (λ _=>rfl) _
  clear d
  have y:a.cell? ⟨w.heap.size+1,0,none⟩=some (.int .u8 0):=by simp[World.cell?,g]
  have z:a.cell? ⟨w.heap.size+1,1,none⟩=some (.int .i64 0):=by simp[World.cell?,g]
  have A:a.cell? ⟨w.heap.size+1,2,none⟩=some (.int .i64 0):=by simp[World.cell?,g]
  have B:a.cell? ⟨w.heap.size+1,3,none⟩=some (.int .i64 0):=by simp[World.cell?,g]
  refine bodyPost_ret (v:=.tuple #[Ao 0 0 0 0,(7:Int)]) ?_ rfl ⟨by rw[J.o];rfl,u.trans H (λ i b3 b=>by omega)⟩
  simp[results,results132,go_sem,y,z,A,B,Ao]
 |true=>
  have J:=sE hh
  clear hh
  go_wp2_with fail
  refine(of_2 w.heap.size X l c1 a8 t.o).mono ?_
  rintro e c ⟨rfl,f3,b8⟩
  have W:Kp Aa l c:=by rw[b8];exact Kp.Ah _
  have e1:Sl (X/16384%4=r):=⟨c2.o⟩
  rw[e1.o]
  clear b8
  have q:=W.at_ n id
  have s:=W.at_ p id
  replace u:=u.trans W (λ _ _ b=>b)
  have c7:c.cell? ⟨w.heap.size+1,0,none⟩=some (.int .u8 0):=by simp[World.cell?,q]
  have c8:c.cell? ⟨w.heap.size+1,1,none⟩=some (.int .i64 0):=by simp[World.cell?,q]
  have c9:c.cell? ⟨w.heap.size+1,2,none⟩=some (.int .i64 0):=by simp[World.cell?,q]
  have d0:c.cell? ⟨w.heap.size+1,3,none⟩=some (.int .i64 0):=by simp[World.cell?,q]
  have d1:c.cell? k.heap.size=some (.int .u8 f):=by simp[World.cell?,s]
  have d2:c.cell? ⟨k.heap.size,1,none⟩=some (.int .i64 ty):=by simp[World.cell?,s]
  have d3:c.cell? ⟨k.heap.size,2,none⟩=some (.int .i64 ln):=by simp[World.cell?,s]
  have d4:c.cell? ⟨k.heap.size,3,none⟩=some (.int .i64 sz):=by simp[World.cell?,s]
  have m:=Ab q
  have f00:=m 0
  have f01:=m 1
  have f02:=m 2
  have f03:=m 3
  have I:=sE q
  clear m
  clear q s n p a8
  by_cases hg:r=0
  .subst hg
   go_wp2
   obtain⟨a,d⟩:∃ a,a=(((c.setCell ⟨w.heap.size+1,0,none⟩ (.int .u8 f)).setCell ⟨w.heap.size+1,1,none⟩ (.int .i64 ty)).setCell ⟨w.heap.size+1,2,none⟩ (.int .i64 ln)).setCell ⟨w.heap.size+1,3,none⟩ (.int .i64 sz):=⟨_,rfl⟩
   rw[<- d]
   have g:a.heap[w.heap.size+1]?=some (.cells #[.int .u8 f,ty,ln,sz] 111 (0,0)):=by
    rw[d];exact bZ (bZ (bZ (bZ I.o (j:=0) _) (j:=1) _) (j:=2) _) (j:=3) _
   have H:Kp (λ i=>i=w.heap.size+1) c a:=by rw[d];exact ((((Kr (λ i=>i=w.heap.size+1) c).setCell (λ _=>rfl) _).setCell (λ _=>rfl) _).setCell (λ _=>rfl) _).setCell (λ _=>rfl) _
   clear d
   have y:a.cell? ⟨w.heap.size+1,0,none⟩=some (.int .u8 f):=by simp[World.cell?,g]
   have z:a.cell? ⟨w.heap.size+1,1,none⟩=some (.int .i64 ty):=by simp[World.cell?,g]
   have A:a.cell? ⟨w.heap.size+1,2,none⟩=some (.int .i64 ln):=by simp[World.cell?,g]
   have B:a.cell? ⟨w.heap.size+1,3,none⟩=some (.int .i64 sz):=by simp[World.cell?,g]
   refine bodyPost_ret (v:=.tuple #[Ao (f:Nat) (ty:Nat) (ln:Nat) (sz:Nat),(0:Int)]) ?_ rfl ⟨by rw[J.o];rfl,u.trans H (λ i b3 b=>by omega)⟩
   simp[results,results132,go_sem,y,z,A,B,Ao]
  .have e2:((r:Int) !=0)=true:=by simp only[bne_iff_ne,ne_eq];omega
   have d5:Sl (decide (r=0)=false):=⟨dF hg⟩
   clear hg
   go_wp2
   obtain⟨a,d⟩:∃ a,a=(((c.setCell ⟨w.heap.size+1,0,none⟩ (.int .u8 0)).setCell ⟨w.heap.size+1,1,none⟩ (.int .i64 0)).setCell ⟨w.heap.size+1,2,none⟩ (.int .i64 0)).setCell ⟨w.heap.size+1,3,none⟩ (.int .i64 0):=⟨_,rfl⟩
   rw[<- d]
   have g:a.heap[w.heap.size+1]?=some (.cells #[.int .u8 0,(0:Int),(0:Int),(0:Int)] 111 (0,0)):=by
    rw[d];exact bZ (bZ (bZ (bZ I.o (j:=0) _) (j:=1) _) (j:=2) _) (j:=3) _
   have H:Kp (λ i=>i=w.heap.size+1) c a:=by rw[d];exact ((((Kr (λ i=>i=w.heap.size+1) c).setCell (λ _=>rfl) _).setCell (λ _=>rfl) _).setCell (λ _=>rfl) _).setCell (λ _=>rfl) _
   clear d
   have y:a.cell? ⟨w.heap.size+1,0,none⟩=some (.int .u8 0):=by simp[World.cell?,g]
   have z:a.cell? ⟨w.heap.size+1,1,none⟩=some (.int .i64 0):=by simp[World.cell?,g]
   have A:a.cell? ⟨w.heap.size+1,2,none⟩=some (.int .i64 0):=by simp[World.cell?,g]
   have B:a.cell? ⟨w.heap.size+1,3,none⟩=some (.int .i64 0):=by simp[World.cell?,g]
   refine bodyPost_ret (v:=.tuple #[Ao 0 0 0 0,(7:Int)]) ?_ rfl ⟨by rw[J.o,d5.o];rfl,u.trans H (λ i b3 b=>by omega)⟩
   simp[results,results132,go_sem,y,z,A,B,Ao]

def AV(ts:List TypR)(id n:Int):Int:=match typeOf ts id with
 |none=>3
 |some x=>AU x.k x.wds x.m n

def BB(ts:List TypR)(id n:Int):Int:=match typeOf ts id with
 |none=>0
 |some x=>FK x.k x.wds n

def EQ(ts:List TypR)(id n:Int)(w:World)(e:Ending)(w':World):Prop:=
 e=.returned (.tuple #[.int .i64 (if AV ts id n=0 then BB ts id n else 0),.int .i64 (AV ts id n)])/\Kp Aa w w'

theorem TSize_none(a n:Int)(t q:Nat)(ts:List TypR)(w:World)(g:TableAt w t q ts)(c:typeOf ts a=none):
  Calls prog 177 #[.pointer (some t),.int .i64 a,.int .i64 n] w (EQ ts a n w):=by
 have b:=Get_any a t q ts w g
 rw[c] at b
 have d:=sE b
 have f:Sl (AV ts a n=3):=⟨by rw[AV,c]⟩
 clear b c
 go_enter func177,ntmps177
 go_wp2_with fail
 refine d.o.mono ?_
 rintro e w2 ⟨rfl,i⟩
 dsimp only[AJ,Option.isSome_some,Option.isSome_none]
 go_wp2
 exact bodyPost_ret (v:=.tuple #[(0:Int),(3:Int)]) (by simp[results,results177,go_sem]) rfl ⟨by rw[f.o];rfl,i.alloc _⟩

theorem TSize_some(a n:Int)(t q:Nat)(ts:List TypR)(k wds:Int)(m:Nat)(w:World)(u:TableAt w t q ts)(b:typeOf ts a=some ⟨k,wds,m⟩):
  Calls prog 177 #[.pointer (some t),.int .i64 a,.int .i64 n] w (EQ ts a n w):=by
 have c:=Get_any a t q ts w u
 rw[b] at c
 have l:=sE c
 have p:Sl (AV ts a n=AU k wds m n):=⟨by rw[AV,b]⟩
 have s:Sl (BB ts a n=FK k wds n):=⟨by rw[BB,b]⟩
 have d:=λ w=>KSize_any k wds m n w
 unfold AJ at d
 have r:=sE d
 clear c b d
 go_enter func177,ntmps177
 go_wp2_with fail
 refine l.o.mono ?_
 rintro e w2 ⟨rfl,x⟩
 dsimp only[AJ,Option.isSome_some,Option.isSome_none]
 go_wp2_with fail
 refine(r.o _).mono ?_
 rintro e z ⟨rfl,y⟩
 obtain⟨S,i⟩:∃ S,(if AU k wds m n=0 then FK k wds n else 0)=S:=⟨_,rfl⟩
 obtain⟨f,g⟩:∃ f,AU k wds m n=f:=⟨_,rfl⟩
 have H1:=sE i
 have j:=sE g
 rw[i,g]
 clear i g
 go_wp2
 exact bodyPost_ret (v:=.tuple #[.int .i64 S,.int .i64 f]) (by simp[results,results177,go_sem]) rfl ⟨by rw[p.o,s.o,H1.o,j.o],(x.alloc _).then' y⟩

theorem TSize_any(a n:Int)(t q:Nat)(ts:List TypR)(w:World)(b:TableAt w t q ts):
  Calls prog 177 #[.pointer (some t),.int .i64 a,.int .i64 n] w (EQ ts a n w):=by
 cases hx:typeOf ts a with
 |none=>exact TSize_none a n t q ts w b hx
 |some x=>
  obtain⟨k,wds,m⟩:=x
  exact TSize_some a n t q ts k wds m w b hx

def BR(ts:List TypR)(id n:Int)(w:World)(e:Ending)(w':World):Prop:=
 e=.returned (.tuple #[if AV ts id n=0 then Ao 1 id n (BB ts id n) else Ao 0 0 0 0,.int .i64 (AV ts id n)])/\Kp Aa w w'

theorem EE(c n:Int)(t q:Nat)(ts:List TypR)(w:World)(l:TableAt w t q ts):
  Calls prog 135 #[.pointer (some t),.int .i64 c,.int .i64 n] w (BR ts c n w):=by
 obtain⟨w1,m⟩:∃ w1,w1=w.alloc (.cells #[.int .u8 0,(0:Int),(0:Int),(0:Int)] 111):=⟨_,rfl⟩
 have F:Kp Aa w w1:=by rw[m];exact (Kr _ w).alloc _
 have D:w1.heap[w.heap.size]?=some (.cells #[.int .u8 0,(0:Int),(0:Int),(0:Int)] 111 (0,0)):=by rw[m];exact wN w _
 have B:=sE (TSize_any c n t q ts w1 (l.Ac F))
 go_enter func135,ntmps135
 go_wp2_with fail
 rw[<- m]
 clear m
 refine B.o.mono ?_
 rintro e w2 ⟨rfl,E⟩
 have f:=E.at_ D (λ l=>l)
 have J:w2.cell? w.heap.size=some (.int .u8 0):=by simp[World.cell?,f]
 have K:w2.cell? ⟨w.heap.size,1,none⟩=some (.int .i64 0):=by simp[World.cell?,f]
 have L:w2.cell? ⟨w.heap.size,2,none⟩=some (.int .i64 0):=by simp[World.cell?,f]
 have M:w2.cell? ⟨w.heap.size,3,none⟩=some (.int .i64 0):=by simp[World.cell?,f]
 have k:=Ab f
 have f00:=k 0
 have f01:=k 1
 have f02:=k 2
 have f03:=k 3
 have C:=F.then' E
 have A:=sE f
 clear D f k B
 obtain⟨g,x⟩:∃ g,AV ts c n=g:=⟨_,rfl⟩
 obtain⟨S,y⟩:∃ S,BB ts c n=S:=⟨_,rfl⟩
 have H1:=sE x
 have H:=sE y
 rw[x,y]
 clear x y
 by_cases h0:g=0
 .subst h0
  rw[if_pos rfl]
  go_wp2
  obtain⟨a,b⟩:∃ a,a=(((w2.setCell w.heap.size (.int .u8 1)).setCell ⟨w.heap.size,1,none⟩ (.int .i64 c)).setCell ⟨w.heap.size,2,none⟩ (.int .i64 n)).setCell ⟨w.heap.size,3,none⟩ (.int .i64 S):=⟨_,rfl⟩
  rw[<- b]
  have d:a.heap[w.heap.size]?=some (.cells #[.int .u8 1,.int .i64 c,.int .i64 n,.int .i64 S] 111 (0,0)):=by
   rw[b];exact bZ (bZ (bZ (bZ A.o (j:=0) _) (j:=1) _) (j:=2) _) (j:=3) _
  have z:Kp (λ i=>i=w.heap.size) w2 a:=by rw[b];exact ((((Kr (λ i=>i=w.heap.size) w2).setCell (λ _=>rfl) _).setCell (λ _=>rfl) _).setCell (λ _=>rfl) _).setCell (λ _=>rfl) _
  clear b
  have p:a.cell? w.heap.size=some (.int .u8 1):=by simp[World.cell?,d]
  have r:a.cell? ⟨w.heap.size,1,none⟩=some (.int .i64 c):=by simp[World.cell?,d]
  have s:a.cell? ⟨w.heap.size,2,none⟩=some (.int .i64 n):=by simp[World.cell?,d]
  have u:a.cell? ⟨w.heap.size,3,none⟩=some (.int .i64 S):=by simp[World.cell?,d]
  refine bodyPost_ret (v:=.tuple #[Ao 1 c n S,(0:Int)]) (by simp[results,results135,go_sem,p,r,s,u,Ao]) rfl ⟨by rw[H1.o,H.o];rfl,C.trans z (λ i I l=>by omega)⟩
 .have N:(g !=0)=true:=by simpa using h0
  rw[if_neg h0]
  have G:=sE h0
  clear h0
  go_wp2
  obtain⟨a,b⟩:∃ a,a=(((w2.setCell w.heap.size (.int .u8 0)).setCell ⟨w.heap.size,1,none⟩ (.int .i64 0)).setCell ⟨w.heap.size,2,none⟩ (.int .i64 0)).setCell ⟨w.heap.size,3,none⟩ (.int .i64 0):=⟨_,rfl⟩
  rw[<- b]
  have d:a.heap[w.heap.size]?=some (.cells #[.int .u8 0,(0:Int),(0:Int),(0:Int)] 111 (0,0)):=by
   rw[b];exact bZ (bZ (bZ (bZ A.o (j:=0) _) (j:=1) _) (j:=2) _) (j:=3) _
  have z:Kp (λ i=>i=w.heap.size) w2 a:=by rw[b];exact ((((Kr (λ i=>i=w.heap.size) w2).setCell (λ _=>rfl) _).setCell (λ _=>rfl) _).setCell (λ _=>rfl) _).setCell (λ _=>rfl) _
  clear b
  have p:a.cell? w.heap.size=some (.int .u8 0):=by simp[World.cell?,d]
  have r:a.cell? ⟨w.heap.size,1,none⟩=some (.int .i64 0):=by simp[World.cell?,d]
  have s:a.cell? ⟨w.heap.size,2,none⟩=some (.int .i64 0):=by simp[World.cell?,d]
  have u:a.cell? ⟨w.heap.size,3,none⟩=some (.int .i64 0):=by simp[World.cell?,d]
  refine bodyPost_ret (v:=.tuple #[Ao 0 0 0 0,.int .i64 g]) (by simp[results,results135,go_sem,p,r,s,u,Ao]) rfl ⟨by rw[H1.o,if_neg G.o],C.trans z (λ i I l=>by omega)⟩

theorem Gap_yes(tag:Int)(sz:Nat)(w:World)(hF:Au w)(P:tag=2\/tag=3)(M:1<=sz)(N:sz<=65536):
  Calls prog 192 #[.int .u8 tag,sz] w (RK (.tuple #[Ao tag 0 0 (sz:Nat),(0:Int)]) w):=by
 have r:Am tag 0 0 (sz:Nat)=true:=by simp[Am];omega
 have C:¬ tag=1:=by omega
 have Q:(tag==1)=false:=by simpa using C
 obtain⟨w1,f⟩:∃ w1,w1=(w.alloc (.cells #[.int .u8 0,(0:Int),(0:Int),(0:Int)] 111)).alloc (.cells #[.int .u8 tag,(0:Int),(0:Int),sz] 111):=⟨_,rfl⟩
 have s:Kp Aa w w1:=by rw[f];exact ((Kr _ w).alloc _).alloc _
 have p:w1.heap[w.heap.size]?=some (.cells #[.int .u8 0,(0:Int),(0:Int),(0:Int)] 111 (0,0)):=by
  rw[f];exact ((Kr Aa _).alloc _).at_ (wN w _) id
 have q:w1.heap[w.heap.size+1]?=some (.cells #[.int .u8 tag,(0:Int),(0:Int),sz] 111 (0,0)):=by
  rw[f];have:=wN (w.alloc (.cells #[.int .u8 0,(0:Int),(0:Int),(0:Int)] 111)) (.cells #[.int .u8 tag,(0:Int),(0:Int),sz] 111);rwa [World.size_alloc] at this
 have g:=DC tag 0 0 (sz:Nat) w1 (hF.Ac s)
 rw[r] at g
 unfold Ao at g
 have n:=sE g
 clear g r
 go_enter func192,ntmps192
 go_wp2_with fail
 rw[<- f]
 clear f
 refine n.o.mono ?_
 rintro e w2 ⟨rfl,m⟩
 rw[show errV true=0 from rfl]
 have b:=m.at_ p id
 have c:=m.at_ q id
 have D:w2.cell? w.heap.size=some (.int .u8 0):=by simp[World.cell?,b]
 have E:w2.cell? ⟨w.heap.size,1,none⟩=some (.int .i64 0):=by simp[World.cell?,b]
 have F:w2.cell? ⟨w.heap.size,2,none⟩=some (.int .i64 0):=by simp[World.cell?,b]
 have G:w2.cell? ⟨w.heap.size,3,none⟩=some (.int .i64 0):=by simp[World.cell?,b]
 have H:w2.cell? ⟨w.heap.size+1,0,none⟩=some (.int .u8 tag):=by simp[World.cell?,c]
 have I:w2.cell? ⟨w.heap.size+1,1,none⟩=some (.int .i64 0):=by simp[World.cell?,c]
 have J:w2.cell? ⟨w.heap.size+1,2,none⟩=some (.int .i64 0):=by simp[World.cell?,c]
 have K:w2.cell? ⟨w.heap.size+1,3,none⟩=some (.int .i64 sz):=by simp[World.cell?,c]
 have d:=Ab b
 have f00:=d 0
 have f01:=d 1
 have f02:=d 2
 have f03:=d 3
 have u:=s.then' m
 have t:=sE b
 clear p b d n q c
 go_wp2
 obtain⟨a,k⟩:∃ a,a=(((w2.setCell w.heap.size (.int .u8 tag)).setCell ⟨w.heap.size,1,none⟩ (.int .i64 0)).setCell ⟨w.heap.size,2,none⟩ (.int .i64 0)).setCell ⟨w.heap.size,3,none⟩ (.int .i64 sz):=⟨_,rfl⟩
 rw[<- k]
 have l:a.heap[w.heap.size]?=some (.cells #[.int .u8 tag,(0:Int),(0:Int),sz] 111 (0,0)):=by
  rw[k];exact bZ (bZ (bZ (bZ t.o (j:=0) _) (j:=1) _) (j:=2) _) (j:=3) _
 have B:Kp (λ i=>i=w.heap.size) w2 a:=by rw[k];exact ((((Kr (λ i=>i=w.heap.size) w2).setCell (λ _=>rfl) _).setCell (λ _=>rfl) _).setCell (λ _=>rfl) _).setCell (λ _=>rfl) _
 clear k
 have x:a.cell? w.heap.size=some (.int .u8 tag):=by simp[World.cell?,l]
 have y:a.cell? ⟨w.heap.size,1,none⟩=some (.int .i64 0):=by simp[World.cell?,l]
 have z:a.cell? ⟨w.heap.size,2,none⟩=some (.int .i64 0):=by simp[World.cell?,l]
 have A:a.cell? ⟨w.heap.size,3,none⟩=some (.int .i64 sz):=by simp[World.cell?,l]
 refine bodyPost_ret (v:=.tuple #[Ao tag 0 0 (sz:Nat),(0:Int)]) (by simp[results,results192,go_sem,x,y,z,A,Ao]) rfl ⟨rfl,u.trans B (λ i O L=>by omega)⟩

theorem run_eq_head(a b c d a' e f g:Int)(w:World):(Op.equalIn 10000 111 (Ao a b c d) (Ao a' e f g)).run prog w=.ok (a==a'&&(b==e&&(c==f&&d==g))) w:=by
 have u3:=underlying3
 have j:=isAgg3
 have l:=sizeOf3
 have u5:=underlying5
 have k:=isAgg5
 have m:=sizeOf5
 have i:prog.underlying 111=some (.struct (prog.fieldsOf 111)):=by kernel_rfl
 unfold Ao
 rw[show (10000:Nat)=9999+1 from rfl,run_equalIn_agg w 9999 111 _ _ i (by kernel_rfl)]
 simp only[Program.fieldsOf,underlying111]
 go_simp
 by_cases h1:a=a' <;> by_cases h2:b=e <;> by_cases h3:c=f <;> by_cases h4:d=g <;> simp[h1,h2,h3,h4]

theorem EJ(a b c d a' e f g:Int)(w:World):(binOp .neq 111 (.agg #[.int .u8 a,.int .i64 b,.int .i64 c,.int .i64 d]) (.agg #[.int .u8 a',.int .i64 e,.int .i64 f,.int .i64 g])).run prog w=.ok (.bool (!(a==a'&&(b==e&&(c==f&&d==g))))) w:=by
 have i:=run_eq_head a b c d a' e f g w
 unfold Ao at i
 rw[run_neq_struct,i];rfl

attribute [local go_sem ↓] EJ

theorem Fits_gap(tag ty ln sz:Int)(l:Value)(w:World)(hF:Au w)(f:Am tag ty ln sz=true)(k:¬ tag=1):
  Calls prog 78 #[l,Ao tag ty ln sz] w (RK (.int .i64 0) w):=by
 have i:=(Kr Aa w).alloc (.cells #[.int .u8 tag,.int .i64 ty,.int .i64 ln,.int .i64 sz] 111)
 have d:=wN w (.cells #[.int .u8 tag,.int .i64 ty,.int .i64 ln,.int .i64 sz] 111)
 have a:=DC tag ty ln sz _ (hF.Ac i)
 rw[f] at a
 unfold Ao at a ⊢
 have c:=sE a
 have n:(tag !=1)=true:=by simpa using k
 clear a f
 go_enter func78,ntmps78
 go_wp2_with fail
 refine c.o.mono ?_
 rintro e w2 ⟨rfl,g⟩
 have b:=g.at_ d id
 have m:w2.cell? w.heap.size=some (.int .u8 tag):=by simp[World.cell?,b]
 have j:=i.then' g
 clear d b c
 go_wp2
 go_ret
 exact⟨rfl,j⟩

theorem Fits_obj(ty ln sz:Int)(t q:Nat)(ts:List TypR)(w:World)(hF:Au w)(A:TableAt w t q ts)(l:Am 1 ty ln sz=true)(m:AV ts ty ln=0)(p:BB ts ty ln=sz):
  Calls prog 78 #[.pointer (some t),Ao 1 ty ln sz] w (RK (.int .i64 0) w):=by
 have u:=(Kr Aa w).alloc (.cells #[.int .u8 1,.int .i64 ty,.int .i64 ln,.int .i64 sz] 111)
 have j:=wN w (.cells #[.int .u8 1,.int .i64 ty,.int .i64 ln,.int .i64 sz] 111)
 have c:=DC 1 ty ln sz _ (hF.Ac u)
 rw[l] at c
 have f:∀ W,Kp Aa w W->Calls prog 135 #[.pointer (some t),.int .i64 ty,.int .i64 ln] W (RK (.tuple #[Ao 1 ty ln sz,(0:Int)]) W):=λ W k=>
  (EE ty ln t q ts W (A.Ac k)).mono λ e w' n=>by rw[BR,m,if_pos rfl,p] at n;exact n
 unfold Ao at c f ⊢
 have g:=sE c
 have v:=sE f
 clear c f l m p
 go_enter func78,ntmps78
 go_wp2_with fail
 refine g.o.mono ?_
 rintro e w2 ⟨rfl,r⟩
 have b:=r.at_ j id
 have x:w2.cell? w.heap.size=some (.int .u8 1):=by simp[World.cell?,b]
 have y:w2.cell? ⟨w.heap.size,1,none⟩=some (.int .i64 ty):=by simp[World.cell?,b]
 have z:w2.cell? ⟨w.heap.size,2,none⟩=some (.int .i64 ln):=by simp[World.cell?,b]
 have i:=u.then' r
 clear j g
 go_wp2_with fail
 refine(v.o _ i).mono ?_
 rintro e d ⟨rfl,s⟩
 have a:=s.at_ b id
 have E:=lZ a
 have c0:d.cell? w.heap.size=some (.int .u8 1):=by simp[World.cell?,a]
 have B:d.cell? ⟨w.heap.size,1,none⟩=some (.int .i64 ty):=by simp[World.cell?,a]
 have C:d.cell? ⟨w.heap.size,2,none⟩=some (.int .i64 ln):=by simp[World.cell?,a]
 have D:d.cell? ⟨w.heap.size,3,none⟩=some (.int .i64 sz):=by simp[World.cell?,a]
 clear x y z b a
 go_wp2
 go_ret
 exact⟨rfl,(i.then' s).alloc _⟩

end

end Go.Proofs.YtfkedlgpgmaemaaGreatDoor
