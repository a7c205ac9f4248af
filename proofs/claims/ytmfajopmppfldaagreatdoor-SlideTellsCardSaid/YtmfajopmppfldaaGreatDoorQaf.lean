/-
  Lemmas for the laws, together: Heads.
-/
import Derived.Test.YtmfajopmppfldaaGreatDoorQad
import Derived.RegionTactic
import Derived.Test.YtmfajopmppfldaaGreatDoorQae
import Derived.Laws.StructEq
set_option linter.unusedVariables false
set_option maxHeartbeats 16000000
namespace Go.Proofs.YtmfajopmppfldaaGreatDoor
open Tryz
section
open Go.RowKit

theorem lay_0(b v x:Nat)(w:World)(hF:Av w)(hb:w.heap[b]?=some (.cells #[.int .u64 (x:Nat)] 55 (0,0)))(hv:v<16777216)(hx:x<18446744073709551616):
  Calls prog 191 #[.int .i64 0,.int .i64 (v:Nat),.pointer (some ⟨b,0,none⟩)] w λ e w'=>
   e=.returned (.tuple #[])/\Kp (λ i=>i=b) w w'/\w'.heap[b]?=some (.cells #[.int .u64 ((x ||| v*1:Nat):Int)] 55 (0,0)):=by
 obtain⟨c0,c1,c2,c3,c4,c5,c6,c7,c8,c9⟩:=hF.all
 have cb:=cell_of_one hb
 have fb:=free_of_one hb
 have hor:bits .or .u64 (x:Int) ((v:Int))=((x ||| v*1:Nat):Int):=by
  have h:=u64_or_nat x (v*1) hx (by omega)
  rw[show ((v*1:Nat):Int)=(v:Int) by omega] at h
  exact h
 have HB:=sE hb
 have HO:=sE hor
 clear hb hF hor
 go_enter func191,ntmps191
 go_wp2_with fail
 go_region
 go_end0
 rw[HO.out]
 exact⟨rfl,((Kr (λ i=>i=b) w).setCell (p:=⟨b,0,none⟩) (λ _=>rfl) _).drew,one_setCell (u:=.int .u64 ((x ||| v*1:Nat):Int)) HB.out⟩

theorem lay_1(b v x:Nat)(w:World)(hF:Av w)(hb:w.heap[b]?=some (.cells #[.int .u64 (x:Nat)] 55 (0,0)))(hv:v<16777216)(hx:x<18446744073709551616):
  Calls prog 191 #[.int .i64 1,.int .i64 (v:Nat),.pointer (some ⟨b,0,none⟩)] w λ e w'=>
   e=.returned (.tuple #[])/\Kp (λ i=>i=b) w w'/\w'.heap[b]?=some (.cells #[.int .u64 ((x ||| v*4:Nat):Int)] 55 (0,0)):=by
 obtain⟨c0,c1,c2,c3,c4,c5,c6,c7,c8,c9⟩:=hF.all
 have cb:=cell_of_one hb
 have fb:=free_of_one hb
 have hor:bits .or .u64 (x:Int) ((v:Int)*4)=((x ||| v*4:Nat):Int):=by
  have h:=u64_or_nat x (v*4) hx (by omega)
  rw[show ((v*4:Nat):Int)=(v:Int)*4 by omega] at h
  exact h
 have HB:=sE hb
 have HO:=sE hor
 clear hb hF hor
 go_enter func191,ntmps191
 go_wp2_with fail
 go_region
 go_end0
 rw[HO.out]
 exact⟨rfl,((Kr (λ i=>i=b) w).setCell (p:=⟨b,0,none⟩) (λ _=>rfl) _).drew,one_setCell (u:=.int .u64 ((x ||| v*4:Nat):Int)) HB.out⟩

theorem lay_3(b v x:Nat)(w:World)(hF:Av w)(hb:w.heap[b]?=some (.cells #[.int .u64 (x:Nat)] 55 (0,0)))(hv:v<16777216)(hx:x<18446744073709551616):
  Calls prog 191 #[.int .i64 3,.int .i64 (v:Nat),.pointer (some ⟨b,0,none⟩)] w λ e w'=>
   e=.returned (.tuple #[])/\Kp (λ i=>i=b) w w'/\w'.heap[b]?=some (.cells #[.int .u64 ((x ||| v*65536:Nat):Int)] 55 (0,0)):=by
 obtain⟨c0,c1,c2,c3,c4,c5,c6,c7,c8,c9⟩:=hF.all
 have cb:=cell_of_one hb
 have fb:=free_of_one hb
 have hor:bits .or .u64 (x:Int) ((v:Int)*65536)=((x ||| v*65536:Nat):Int):=by
  have h:=u64_or_nat x (v*65536) hx (by omega)
  rw[show ((v*65536:Nat):Int)=(v:Int)*65536 by omega] at h
  exact h
 have HB:=sE hb
 have HO:=sE hor
 clear hb hF hor
 go_enter func191,ntmps191
 go_wp2_with fail
 go_region
 go_end0
 rw[HO.out]
 exact⟨rfl,((Kr (λ i=>i=b) w).setCell (p:=⟨b,0,none⟩) (λ _=>rfl) _).drew,one_setCell (u:=.int .u64 ((x ||| v*65536:Nat):Int)) HB.out⟩

theorem lay_4(b v x:Nat)(w:World)(hF:Av w)(hb:w.heap[b]?=some (.cells #[.int .u64 (x:Nat)] 55 (0,0)))(hv:v<16777216)(hx:x<18446744073709551616):
  Calls prog 191 #[.int .i64 4,.int .i64 (v:Nat),.pointer (some ⟨b,0,none⟩)] w λ e w'=>
   e=.returned (.tuple #[])/\Kp (λ i=>i=b) w w'/\w'.heap[b]?=some (.cells #[.int .u64 ((x ||| v*1099511627776:Nat):Int)] 55 (0,0)):=by
 obtain⟨c0,c1,c2,c3,c4,c5,c6,c7,c8,c9⟩:=hF.all
 have cb:=cell_of_one hb
 have fb:=free_of_one hb
 have hor:bits .or .u64 (x:Int) ((v:Int)*1099511627776)=((x ||| v*1099511627776:Nat):Int):=by
  have h:=u64_or_nat x (v*1099511627776) hx (by omega)
  rw[show ((v*1099511627776:Nat):Int)=(v:Int)*1099511627776 by omega] at h
  exact h
 have HB:=sE hb
 have HO:=sE hor
 clear hb hF hor
 go_enter func191,ntmps191
 go_wp2_with fail
 go_region
 go_end0
 rw[HO.out]
 exact⟨rfl,((Kr (λ i=>i=b) w).setCell (p:=⟨b,0,none⟩) (λ _=>rfl) _).drew,one_setCell (u:=.int .u64 ((x ||| v*1099511627776:Nat):Int)) HB.out⟩

theorem Encode_yes(tag ty ln sz:Nat)(w:World)(hF:Av w)(h:Am tag ty ln sz=true):
  Calls prog 164 #[Al tag ty ln sz] w λ e w'=>e=.returned (.tuple #[.int .u64 (Bo tag ty ln sz:Nat),.int .i64 0])/\Kp Ab w w':=by
 have b0:=wN w (.cells #[.int .u8 (tag:Nat),.int .i64 (ty:Nat),.int .i64 (ln:Nat),.int .i64 (sz:Nat)] 52)
 have kA:=(Kr Ab w).alloc (.cells #[.int .u8 (tag:Nat),.int .i64 (ty:Nat),.int .i64 (ln:Nat),.int .i64 (sz:Nat)] 52)
 have CK:=Dz tag ty ln sz _ (hF.Ad kA)
 rw[h] at CK
 unfold Al at CK ⊢
 have HC:=sE CK
 have hp:tag<=3/\ty<=4095/\ln<=16777215/\sz<=16777215:=by
  simp only[Am,decide_eq_true_eq] at h
  omega
 obtain⟨p1,p2,p3,p4⟩:=hp
 have HE:=sE (encH_or h)
 have hmf:∀ (fn:Fn) (first cap:Array Value) (w:World),(Instr.makeFunc fn first cap).run prog w=.ok (.func fn first cap) w:=λ _ _ _ _=>rfl
 clear CK h
 go_enter func164,ntmps164
 go_wp2_with fail
 refine HC.out.mono ?_
 rintro e w1 ⟨rfl,k1⟩
 have B1:=k1.at_ b0 (λ h=>h)
 have hs1:=k1.size
 have hs2:w.heap.size<w1.heap.size:=lZ B1
 have zz:¬ w.heap.size=w1.heap.size:=by omega
 have z0:¬ (0:Nat)=w1.heap.size:=by have:=hF.1;omega
 have c10:w1.cell? ⟨w.heap.size,0,none⟩=some (.int .u8 (tag:Nat)):=by simp[World.cell?,B1]
 have kw1:Kp Ab w w1:=kA.trans k1 (λ _ _ h=>h)
 have F1:=hF.Ad kw1
 obtain⟨w2,hw2⟩:∃ w2,w2=w1.alloc (.cells #[.int .u64 0] 55):=⟨_,rfl⟩
 have k2:Kp Ab w1 w2:=by rw[hw2];exact (Kr _ _).alloc _
 have g2:w2.heap[w1.heap.size]?=some (.cells #[.int .u64 ((0:Nat):Int)] 55 (0,0)):=by rw[hw2];exact wN w1 _
 have C2:=k2.at_ B1 (λ h=>h)
 have F2:=F1.Ad k2
 have c20:(w1.alloc (.cells #[.int .u64 0] 55)).cell? ⟨w.heap.size,0,none⟩=some (.int .u8 (tag:Nat)):=by rw[<- hw2];simp [World.cell?,C2]
 have c21:(w1.alloc (.cells #[.int .u64 0] 55)).cell? ⟨w.heap.size,1,none⟩=some (.int .i64 (ty:Nat)):=by rw[<- hw2];simp [World.cell?,C2]
 have c22:(w1.alloc (.cells #[.int .u64 0] 55)).cell? ⟨w.heap.size,2,none⟩=some (.int .i64 (ln:Nat)):=by rw[<- hw2];simp [World.cell?,C2]
 have c23:(w1.alloc (.cells #[.int .u64 0] 55)).cell? ⟨w.heap.size,3,none⟩=some (.int .i64 (sz:Nat)):=by rw[<- hw2];simp [World.cell?,C2]
 have HX0:Sl ((0:Nat)<18446744073709551616):=⟨by omega⟩
 have HX1:Sl ((0 ||| tag*1)<18446744073709551616):=⟨Nat.lt_of_lt_of_eq (Nat.or_lt_two_pow (n:=64) (by omega) (by omega)) rfl⟩
 have HX2:Sl ((0 ||| tag*1 ||| ty*4)<18446744073709551616):=⟨Nat.lt_of_lt_of_eq (Nat.or_lt_two_pow (n:=64) HX1.out (by omega)) rfl⟩
 have HX3:Sl ((0 ||| tag*1 ||| ty*4 ||| ln*65536)<18446744073709551616):=⟨Nat.lt_of_lt_of_eq (Nat.or_lt_two_pow (n:=64) HX2.out (by omega)) rfl⟩
 have HSW:=sE hw2
 clear B1 c10 b0 kA k1 HC hs1
 go_wp2_with fail
 rw[<- HSW.out]
 clear HSW hw2
 refine(lay_0 w1.heap.size tag 0 w2 F2 g2 (by omega) HX0.out).mono ?_
 rintro e w3 ⟨rfl,j3,g3⟩
 have F3:=F2.keep j3 z0
 have C3:=j3.at_ C2 (λ e=>zz e)
 have c30:w3.cell? ⟨w.heap.size,0,none⟩=some (.int .u8 (tag:Nat)):=by simp[World.cell?,C3]
 have c31:w3.cell? ⟨w.heap.size,1,none⟩=some (.int .i64 (ty:Nat)):=by simp[World.cell?,C3]
 have c32:w3.cell? ⟨w.heap.size,2,none⟩=some (.int .i64 (ln:Nat)):=by simp[World.cell?,C3]
 have c33:w3.cell? ⟨w.heap.size,3,none⟩=some (.int .i64 (sz:Nat)):=by simp[World.cell?,C3]
 have cx3:=cell_of_one g3
 clear c20 c21 c22 c23
 go_wp2_with fail
 refine(lay_1 w1.heap.size ty (0 ||| tag*1) w3 F3 g3 (by omega) HX1.out).mono ?_
 rintro e w4 ⟨rfl,j4,g4⟩
 have F4:=F3.keep j4 z0
 have C4:=j4.at_ C3 (λ e=>zz e)
 have c40:w4.cell? ⟨w.heap.size,0,none⟩=some (.int .u8 (tag:Nat)):=by simp[World.cell?,C4]
 have c41:w4.cell? ⟨w.heap.size,1,none⟩=some (.int .i64 (ty:Nat)):=by simp[World.cell?,C4]
 have c42:w4.cell? ⟨w.heap.size,2,none⟩=some (.int .i64 (ln:Nat)):=by simp[World.cell?,C4]
 have c43:w4.cell? ⟨w.heap.size,3,none⟩=some (.int .i64 (sz:Nat)):=by simp[World.cell?,C4]
 have cx4:=cell_of_one g4
 clear c30 c31 c32 c33
 go_wp2_with fail
 refine(lay_3 w1.heap.size ln (0 ||| tag*1 ||| ty*4) w4 F4 g4 (by omega) HX2.out).mono ?_
 rintro e w5 ⟨rfl,j5,g5⟩
 have F5:=F4.keep j5 z0
 have C5:=j5.at_ C4 (λ e=>zz e)
 have c50:w5.cell? ⟨w.heap.size,0,none⟩=some (.int .u8 (tag:Nat)):=by simp[World.cell?,C5]
 have c51:w5.cell? ⟨w.heap.size,1,none⟩=some (.int .i64 (ty:Nat)):=by simp[World.cell?,C5]
 have c52:w5.cell? ⟨w.heap.size,2,none⟩=some (.int .i64 (ln:Nat)):=by simp[World.cell?,C5]
 have c53:w5.cell? ⟨w.heap.size,3,none⟩=some (.int .i64 (sz:Nat)):=by simp[World.cell?,C5]
 have cx5:=cell_of_one g5
 clear c40 c41 c42 c43
 go_wp2_with fail
 refine(lay_4 w1.heap.size sz (0 ||| tag*1 ||| ty*4 ||| ln*65536) w5 F5 g5 (by omega) HX3.out).mono ?_
 rintro e w6 ⟨rfl,j6,g6⟩
 have F6:=F5.keep j6 z0
 have C6:=j6.at_ C5 (λ e=>zz e)
 have c60:w6.cell? ⟨w.heap.size,0,none⟩=some (.int .u8 (tag:Nat)):=by simp[World.cell?,C6]
 have c61:w6.cell? ⟨w.heap.size,1,none⟩=some (.int .i64 (ty:Nat)):=by simp[World.cell?,C6]
 have c62:w6.cell? ⟨w.heap.size,2,none⟩=some (.int .i64 (ln:Nat)):=by simp[World.cell?,C6]
 have c63:w6.cell? ⟨w.heap.size,3,none⟩=some (.int .i64 (sz:Nat)):=by simp[World.cell?,C6]
 have cx6:=cell_of_one g6
 clear c50 c51 c52 c53
 go_wp2
 have hv:Sl ((tag ||| ty*4 ||| ln*65536 ||| sz*1099511627776)=Bo tag ty ln sz):=⟨by have h:=HE.out;rwa [Nat.zero_or] at h⟩
 have KF:Kp (λ i=>i=w1.heap.size) w w6:=(((((kw1.trans k2 (λ _ _ h=>h)).Ak _).trans j3 (λ _ _ h=>h)).trans j4 (λ _ _ h=>h)).trans j5 (λ _ _ h=>h)).trans j6 (λ _ _ h=>h)
 rw[hv.out]
 refine bodyPost_ret (v:=.tuple #[.int .u64 (Bo tag ty ln sz:Nat),.int .i64 0]) (by simp[results,results164,go_sem]) rfl ⟨rfl,KF.mono (λ i hi h=>by omega)⟩

theorem and_mask{X S T:Nat}(k:Nat)(hT:T=2 ^ k)(hk:k<=24)(hX:X<18446744073709551616):bits .and .u64 ((X/S:Nat):Int) ((T-1:Nat):Int)=((X/S%T:Nat):Int):=by
 have h1:X/S<18446744073709551616:=Nat.lt_of_le_of_lt (Nat.div_le_self _ _) hX
 have h2:T<=16777216:=by rw[hT];exact Nat.pow_le_pow_right (by decide) hk
 rw[u64_and_nat _ _ h1 (by omega),hT,Nat.and_two_pow_sub_one_eq_mod]

theorem of_0(b X:Nat)(w:World)(hF:Av w)(hb:w.heap[b]?=some (.cells #[.int .u64 (X:Nat)] 55 (0,0)))(hX:X<18446744073709551616):
  Calls prog 141 #[.int .i64 0,.pointer (some ⟨b,0,none⟩)] w λ e w'=>e=.returned (.int .i64 ((X/1%4:Nat):Int))/\∃ m,w'=w.drewN m:=by
 obtain⟨c0,c1,c2,c3,c4,c5,c6,c7,c8,c9⟩:=hF.all
 have cb:=cell_of_one hb
 have hand:bits .and .u64 ((X:Int)) 3=((X/1%4:Nat):Int):=by
  have h:=and_mask (X:=X) (S:=1) (T:=4) 2 rfl (by omega) hX
  rw[show ((X/1:Nat):Int)=(X:Int) by omega] at h
  exact h
 obtain⟨r,hr⟩:∃ r,X/1%4=r:=⟨_,rfl⟩
 have hr2:r<4:=by rw[<- hr];exact Nat.mod_lt _ (by omega)
 rw[hr] at hand ⊢
 clear hr hb hF
 go_enter func141,ntmps141
 go_wp2_with fail
 go_quiet (fail)
 go_wp2
 go_ret
 exact⟨rfl,_,rfl⟩

theorem of_1(b X:Nat)(w:World)(hF:Av w)(hb:w.heap[b]?=some (.cells #[.int .u64 (X:Nat)] 55 (0,0)))(hX:X<18446744073709551616):
  Calls prog 141 #[.int .i64 1,.pointer (some ⟨b,0,none⟩)] w λ e w'=>e=.returned (.int .i64 ((X/4%4096:Nat):Int))/\∃ m,w'=w.drewN m:=by
 obtain⟨c0,c1,c2,c3,c4,c5,c6,c7,c8,c9⟩:=hF.all
 have cb:=cell_of_one hb
 have hand:bits .and .u64 ((X:Int)/4) 4095=((X/4%4096:Nat):Int):=by
  have h:=and_mask (X:=X) (S:=4) (T:=4096) 12 rfl (by omega) hX
  rw[show ((X/4:Nat):Int)=(X:Int)/4 by omega] at h
  exact h
 obtain⟨r,hr⟩:∃ r,X/4%4096=r:=⟨_,rfl⟩
 have hr2:r<4096:=by rw[<- hr];exact Nat.mod_lt _ (by omega)
 rw[hr] at hand ⊢
 clear hr hb hF
 go_enter func141,ntmps141
 go_wp2_with fail
 go_quiet (fail)
 go_wp2
 go_ret
 exact⟨rfl,_,rfl⟩

theorem of_2(b X:Nat)(w:World)(hF:Av w)(hb:w.heap[b]?=some (.cells #[.int .u64 (X:Nat)] 55 (0,0)))(hX:X<18446744073709551616):
  Calls prog 141 #[.int .i64 2,.pointer (some ⟨b,0,none⟩)] w λ e w'=>e=.returned (.int .i64 ((X/16384%4:Nat):Int))/\∃ m,w'=w.drewN m:=by
 obtain⟨c0,c1,c2,c3,c4,c5,c6,c7,c8,c9⟩:=hF.all
 have cb:=cell_of_one hb
 have hand:bits .and .u64 ((X:Int)/16384) 3=((X/16384%4:Nat):Int):=by
  have h:=and_mask (X:=X) (S:=16384) (T:=4) 2 rfl (by omega) hX
  rw[show ((X/16384:Nat):Int)=(X:Int)/16384 by omega] at h
  exact h
 obtain⟨r,hr⟩:∃ r,X/16384%4=r:=⟨_,rfl⟩
 have hr2:r<4:=by rw[<- hr];exact Nat.mod_lt _ (by omega)
 rw[hr] at hand ⊢
 clear hr hb hF
 go_enter func141,ntmps141
 go_wp2_with fail
 go_quiet (fail)
 go_wp2
 go_ret
 exact⟨rfl,_,rfl⟩

theorem of_3(b X:Nat)(w:World)(hF:Av w)(hb:w.heap[b]?=some (.cells #[.int .u64 (X:Nat)] 55 (0,0)))(hX:X<18446744073709551616):
  Calls prog 141 #[.int .i64 3,.pointer (some ⟨b,0,none⟩)] w λ e w'=>e=.returned (.int .i64 ((X/65536%16777216:Nat):Int))/\∃ m,w'=w.drewN m:=by
 obtain⟨c0,c1,c2,c3,c4,c5,c6,c7,c8,c9⟩:=hF.all
 have cb:=cell_of_one hb
 have hand:bits .and .u64 ((X:Int)/65536) 16777215=((X/65536%16777216:Nat):Int):=by
  have h:=and_mask (X:=X) (S:=65536) (T:=16777216) 24 rfl (by omega) hX
  rw[show ((X/65536:Nat):Int)=(X:Int)/65536 by omega] at h
  exact h
 obtain⟨r,hr⟩:∃ r,X/65536%16777216=r:=⟨_,rfl⟩
 have hr2:r<16777216:=by rw[<- hr];exact Nat.mod_lt _ (by omega)
 rw[hr] at hand ⊢
 clear hr hb hF
 go_enter func141,ntmps141
 go_wp2_with fail
 go_quiet (fail)
 go_wp2
 go_ret
 exact⟨rfl,_,rfl⟩

theorem of_4(b X:Nat)(w:World)(hF:Av w)(hb:w.heap[b]?=some (.cells #[.int .u64 (X:Nat)] 55 (0,0)))(hX:X<18446744073709551616):
  Calls prog 141 #[.int .i64 4,.pointer (some ⟨b,0,none⟩)] w λ e w'=>e=.returned (.int .i64 ((X/1099511627776%16777216:Nat):Int))/\∃ m,w'=w.drewN m:=by
 obtain⟨c0,c1,c2,c3,c4,c5,c6,c7,c8,c9⟩:=hF.all
 have cb:=cell_of_one hb
 have hand:bits .and .u64 ((X:Int)/1099511627776) 16777215=((X/1099511627776%16777216:Nat):Int):=by
  have h:=and_mask (X:=X) (S:=1099511627776) (T:=16777216) 24 rfl (by omega) hX
  rw[show ((X/1099511627776:Nat):Int)=(X:Int)/1099511627776 by omega] at h
  exact h
 obtain⟨r,hr⟩:∃ r,X/1099511627776%16777216=r:=⟨_,rfl⟩
 have hr2:r<16777216:=by rw[<- hr];exact Nat.mod_lt _ (by omega)
 rw[hr] at hand ⊢
 clear hr hb hF
 go_enter func141,ntmps141
 go_wp2_with fail
 go_quiet (fail)
 go_wp2
 go_ret
 exact⟨rfl,_,rfl⟩

def CR(X:Nat):Nat:=X/1%4
def Ey(X:Nat):Nat:=X/4%4096
def gapW(X:Nat):Nat:=X/16384%4
def EO(X:Nat):Nat:=X/65536%16777216
def DJ(X:Nat):Nat:=X/1099511627776%16777216

def BO(X:Nat):Bool:=Am (CR X:Nat) (Ey X:Nat) (EO X:Nat) (DJ X:Nat)&&decide (gapW X=0)

def Fe(ok:Bool)(tg ty ln sz:Nat)(w:World)(e:Ending)(w':World):Prop:=
 e=.returned (.tuple #[if ok then Al (tg:Nat) (ty:Nat) (ln:Nat) (sz:Nat) else Al 0 0 0 0,.int .i64 (if ok then 0 else 7)])/\Kp Ab w w'

set_option maxRecDepth 20000 in
theorem Decode_any(X:Nat)(w:World)(hF:Av w)(hX:X<18446744073709551616):
  Calls prog 99 #[.int .u64 (X:Nat)] w (Fe (BO X) (CR X) (Ey X) (EO X) (DJ X) w):=by
 have hmf:∀ (fn:Fn) (first cap:Array Value) (w:World),(Instr.makeFunc fn first cap).run prog w=.ok (.func fn first cap) w:=λ _ _ _ _=>rfl
 obtain⟨tg,htg⟩:∃ x,CR X=x:=⟨_,rfl⟩
 obtain⟨ty,hty⟩:∃ x,Ey X=x:=⟨_,rfl⟩
 obtain⟨gp,hgp⟩:∃ x,gapW X=x:=⟨_,rfl⟩
 obtain⟨ln,hln⟩:∃ x,EO X=x:=⟨_,rfl⟩
 obtain⟨sz,hsz⟩:∃ x,DJ X=x:=⟨_,rfl⟩
 have HTG:=sE htg
 have HTY:=sE hty
 have HGP:=sE hgp
 have HLN:=sE hln
 have HSZ:=sE hsz
 have l1:tg<4:=by rw[<- htg];exact Nat.mod_lt _ (by omega)
 have l2:ty<4096:=by rw[<- hty];exact Nat.mod_lt _ (by omega)
 have l3:gp<4:=by rw[<- hgp];exact Nat.mod_lt _ (by omega)
 have l4:ln<16777216:=by rw[<- hln];exact Nat.mod_lt _ (by omega)
 have l5:sz<16777216:=by rw[<- hsz];exact Nat.mod_lt _ (by omega)
 have hdec:BO X=(Am (tg:Nat) (ty:Nat) (ln:Nat) (sz:Nat)&&decide (gp=0)):=by rw[BO,htg,hty,hln,hsz,hgp]
 rw[htg,hty,hln,hsz,hdec]
 have HX:=sE hX
 clear htg hty hgp hln hsz hdec hX
 obtain⟨w1,hw1⟩:∃ w1,w1=(w.alloc (.cells #[.int .u64 (X:Nat)] 55)).alloc (.cells #[.int .u8 0,.int .i64 0,.int .i64 0,.int .i64 0] 52):=⟨_,rfl⟩
 have kA:Kp Ab w w1:=by rw[hw1];exact ((Kr _ w).alloc _).alloc _
 have b0:w1.heap[w.heap.size]?=some (.cells #[.int .u64 (X:Nat)] 55 (0,0)):=by
  rw[hw1];exact ((Kr Ab _).alloc _).at_ (wN w _) (λ h=>h)
 have b1:w1.heap[w.heap.size+1]?=some (.cells #[.int .u8 0,.int .i64 0,.int .i64 0,.int .i64 0] 52 (0,0)):=by
  rw[hw1];have:=wN (w.alloc (.cells #[.int .u64 (X:Nat)] 55)) (.cells #[.int .u8 0,.int .i64 0,.int .i64 0,.int .i64 0] 52);rwa [World.size_alloc] at this
 have F1:=hF.Ad kA
 go_enter func99,ntmps99
 go_wp2_with fail
 rw[<- hw1]
 clear hw1
 refine(of_0 w.heap.size X w1 F1 b0 HX.out).mono ?_
 rintro e w2 ⟨rfl,m2,hm2⟩
 have k2:Kp Ab w1 w2:=by rw[hm2];exact Kp.Aj _
 have t0:Sl (X/1%4=tg):=⟨HTG.out⟩
 rw[t0.out]
 clear hm2
 have F2:=F1.Ad k2
 have b02:=k2.at_ b0 (λ h=>h)
 go_wp2_with fail
 refine(of_1 w.heap.size X w2 F2 b02 HX.out).mono ?_
 rintro e w3 ⟨rfl,m3,hm3⟩
 have k3:Kp Ab w2 w3:=by rw[hm3];exact Kp.Aj _
 have t1:Sl (X/4%4096=ty):=⟨HTY.out⟩
 rw[t1.out]
 clear hm3
 have F3:=F2.Ad k3
 have b03:=k3.at_ b02 (λ h=>h)
 go_wp2_with fail
 refine(of_3 w.heap.size X w3 F3 b03 HX.out).mono ?_
 rintro e w4 ⟨rfl,m4,hm4⟩
 have k4:Kp Ab w3 w4:=by rw[hm4];exact Kp.Aj _
 have t3:Sl (X/65536%16777216=ln):=⟨HLN.out⟩
 rw[t3.out]
 clear hm4
 have F4:=F3.Ad k4
 have b04:=k4.at_ b03 (λ h=>h)
 go_wp2_with fail
 refine(of_4 w.heap.size X w4 F4 b04 HX.out).mono ?_
 rintro e w5 ⟨rfl,m5,hm5⟩
 have k5:Kp Ab w4 w5:=by rw[hm5];exact Kp.Aj _
 have t4:Sl (X/1099511627776%16777216=sz):=⟨HSZ.out⟩
 rw[t4.out]
 clear hm5
 have F5:=F4.Ad k5
 have b05:=k5.at_ b04 (λ h=>h)
 have kw5:Kp Ab w w5:=((((kA.trans k2 (λ _ _ h=>h)).trans k3 (λ _ _ h=>h)).trans k4 (λ _ _ h=>h)).trans k5 (λ _ _ h=>h))
 have b15:=k5.at_ (k4.at_ (k3.at_ (k2.at_ b1 (λ h=>h)) (λ h=>h)) (λ h=>h)) (λ h=>h)
 clear b0 b1 b02 b03 b04
 go_wp2_with fail
 have F6:=F5.Ad ((Kr Ab w5).alloc (.cells #[.int .u8 (tg:Nat),.int .i64 (ty:Nat),.int .i64 (ln:Nat),.int .i64 (sz:Nat)] 52))
 have CK:=Dz (tg:Nat) (ty:Nat) (ln:Nat) (sz:Nat) _ F6
 have B5:=wN w5 (.cells #[.int .u8 (tg:Nat),.int .i64 (ty:Nat),.int .i64 (ln:Nat),.int .i64 (sz:Nat)] 52)
 have k6:=(Kr Ab w5).alloc (.cells #[.int .u8 (tg:Nat),.int .i64 (ty:Nat),.int .i64 (ln:Nat),.int .i64 (sz:Nat)] 52)
 unfold Al at CK
 refine CK.mono ?_
 clear CK
 rintro e w7 ⟨rfl,k7⟩
 have K57:=k6.trans k7 (λ _ _ h=>h)
 have F7:=F5.Ad K57
 have b07:=K57.at_ b05 (λ h=>h)
 have b17:=K57.at_ b15 (λ h=>h)
 have B57:=k7.at_ B5 (λ h=>h)
 have KW:=kw5.trans K57 (λ _ _ h=>h)
 clear b05 b15 B5 F6 k6 k7
 cases hh:Am (tg:Nat) (ty:Nat) (ln:Nat) (sz:Nat) with
 |false=>
  have HH:=sE hh
  clear hh
  have d0:w7.cell? ⟨w.heap.size+1,0,none⟩=some (.int .u8 0):=by simp[World.cell?,b17]
  have d1:w7.cell? ⟨w.heap.size+1,1,none⟩=some (.int .i64 0):=by simp[World.cell?,b17]
  have d2:w7.cell? ⟨w.heap.size+1,2,none⟩=some (.int .i64 0):=by simp[World.cell?,b17]
  have d3:w7.cell? ⟨w.heap.size+1,3,none⟩=some (.int .i64 0):=by simp[World.cell?,b17]
  have g0:w7.cell? ⟨w5.heap.size,0,none⟩=some (.int .u8 (tg:Nat)):=by simp[World.cell?,B57]
  have g1:w7.cell? ⟨w5.heap.size,1,none⟩=some (.int .i64 (ty:Nat)):=by simp[World.cell?,B57]
  have g2:w7.cell? ⟨w5.heap.size,2,none⟩=some (.int .i64 (ln:Nat)):=by simp[World.cell?,B57]
  have g3:w7.cell? ⟨w5.heap.size,3,none⟩=some (.int .i64 (sz:Nat)):=by simp[World.cell?,B57]
  have f0:=Ae b17
  have f00:=f0 0
  have f01:=f0 1
  have f02:=f0 2
  have f03:=f0 3
  have HB:=sE b17
  clear f0
  clear b17 B57
  go_wp2
  obtain⟨wz,hwz⟩:∃ wz,wz=(((w7.setCell ⟨w.heap.size+1,0,none⟩ (.int .u8 0)).setCell ⟨w.heap.size+1,1,none⟩ (.int .i64 0)).setCell ⟨w.heap.size+1,2,none⟩ (.int .i64 0)).setCell ⟨w.heap.size+1,3,none⟩ (.int .i64 0):=⟨_,rfl⟩
  rw[<- hwz]
  have tz:wz.heap[w.heap.size+1]?=some (.cells #[.int .u8 0,.int .i64 0,.int .i64 0,.int .i64 0] 52 (0,0)):=by
   rw[hwz];exact bZ (bZ (bZ (bZ HB.out (j:=0) _) (j:=1) _) (j:=2) _) (j:=3) _
  have kz:Kp (λ i=>i=w.heap.size+1) w7 wz:=by rw[hwz];exact ((((Kr (λ i=>i=w.heap.size+1) w7).setCell (λ _=>rfl) _).setCell (λ _=>rfl) _).setCell (λ _=>rfl) _).setCell (λ _=>rfl) _
  clear hwz
  have e0:wz.cell? ⟨w.heap.size+1,0,none⟩=some (.int .u8 0):=by simp[World.cell?,tz]
  have e1:wz.cell? ⟨w.heap.size+1,1,none⟩=some (.int .i64 0):=by simp[World.cell?,tz]
  have e2:wz.cell? ⟨w.heap.size+1,2,none⟩=some (.int .i64 0):=by simp[World.cell?,tz]
  have e3:wz.cell? ⟨w.heap.size+1,3,none⟩=some (.int .i64 0):=by simp[World.cell?,tz]
  refine bodyPost_ret (v:=.tuple #[Al 0 0 0 0,.int .i64 7]) ?_ rfl ⟨by rw[HH.out];rfl,KW.trans kz (λ i hi h=>by omega)⟩
  simp[results,results99,go_sem,e0,e1,e2,e3,Al]
 |true=>
  have HH:=sE hh
  clear hh
  go_wp2_with fail
  refine(of_2 w.heap.size X w7 F7 b07 HX.out).mono ?_
  rintro e w8 ⟨rfl,m8,hm8⟩
  have k8:Kp Ab w7 w8:=by rw[hm8];exact Kp.Aj _
  have t8:Sl (X/16384%4=gp):=⟨HGP.out⟩
  rw[t8.out]
  clear hm8
  have b18:=k8.at_ b17 (λ h=>h)
  have B58:=k8.at_ B57 (λ h=>h)
  replace KW:=KW.trans k8 (λ _ _ h=>h)
  have d0:w8.cell? ⟨w.heap.size+1,0,none⟩=some (.int .u8 0):=by simp[World.cell?,b18]
  have d1:w8.cell? ⟨w.heap.size+1,1,none⟩=some (.int .i64 0):=by simp[World.cell?,b18]
  have d2:w8.cell? ⟨w.heap.size+1,2,none⟩=some (.int .i64 0):=by simp[World.cell?,b18]
  have d3:w8.cell? ⟨w.heap.size+1,3,none⟩=some (.int .i64 0):=by simp[World.cell?,b18]
  have g0:w8.cell? ⟨w5.heap.size,0,none⟩=some (.int .u8 (tg:Nat)):=by simp[World.cell?,B58]
  have g1:w8.cell? ⟨w5.heap.size,1,none⟩=some (.int .i64 (ty:Nat)):=by simp[World.cell?,B58]
  have g2:w8.cell? ⟨w5.heap.size,2,none⟩=some (.int .i64 (ln:Nat)):=by simp[World.cell?,B58]
  have g3:w8.cell? ⟨w5.heap.size,3,none⟩=some (.int .i64 (sz:Nat)):=by simp[World.cell?,B58]
  have f0:=Ae b18
  have f00:=f0 0
  have f01:=f0 1
  have f02:=f0 2
  have f03:=f0 3
  have HB:=sE b18
  clear f0
  clear b18 B58 b17 B57 b07
  by_cases hg:gp=0
  .subst hg
   go_wp2
   obtain⟨wz,hwz⟩:∃ wz,wz=(((w8.setCell ⟨w.heap.size+1,0,none⟩ (.int .u8 (tg:Nat))).setCell ⟨w.heap.size+1,1,none⟩ (.int .i64 (ty:Nat))).setCell ⟨w.heap.size+1,2,none⟩ (.int .i64 (ln:Nat))).setCell ⟨w.heap.size+1,3,none⟩ (.int .i64 (sz:Nat)):=⟨_,rfl⟩
   rw[<- hwz]
   have tz:wz.heap[w.heap.size+1]?=some (.cells #[.int .u8 (tg:Nat),.int .i64 (ty:Nat),.int .i64 (ln:Nat),.int .i64 (sz:Nat)] 52 (0,0)):=by
    rw[hwz];exact bZ (bZ (bZ (bZ HB.out (j:=0) _) (j:=1) _) (j:=2) _) (j:=3) _
   have kz:Kp (λ i=>i=w.heap.size+1) w8 wz:=by rw[hwz];exact ((((Kr (λ i=>i=w.heap.size+1) w8).setCell (λ _=>rfl) _).setCell (λ _=>rfl) _).setCell (λ _=>rfl) _).setCell (λ _=>rfl) _
   clear hwz
   have e0:wz.cell? ⟨w.heap.size+1,0,none⟩=some (.int .u8 (tg:Nat)):=by simp[World.cell?,tz]
   have e1:wz.cell? ⟨w.heap.size+1,1,none⟩=some (.int .i64 (ty:Nat)):=by simp[World.cell?,tz]
   have e2:wz.cell? ⟨w.heap.size+1,2,none⟩=some (.int .i64 (ln:Nat)):=by simp[World.cell?,tz]
   have e3:wz.cell? ⟨w.heap.size+1,3,none⟩=some (.int .i64 (sz:Nat)):=by simp[World.cell?,tz]
   refine bodyPost_ret (v:=.tuple #[Al (tg:Nat) (ty:Nat) (ln:Nat) (sz:Nat),.int .i64 0]) ?_ rfl ⟨by rw[HH.out];rfl,KW.trans kz (λ i hi h=>by omega)⟩
   simp[results,results99,go_sem,e0,e1,e2,e3,Al]
  .have hb:((gp:Int) !=0)=true:=by simp only[bne_iff_ne,ne_eq];omega
   have hgd:Sl (decide (gp=0)=false):=⟨dF hg⟩
   clear hg
   go_wp2
   obtain⟨wz,hwz⟩:∃ wz,wz=(((w8.setCell ⟨w.heap.size+1,0,none⟩ (.int .u8 0)).setCell ⟨w.heap.size+1,1,none⟩ (.int .i64 0)).setCell ⟨w.heap.size+1,2,none⟩ (.int .i64 0)).setCell ⟨w.heap.size+1,3,none⟩ (.int .i64 0):=⟨_,rfl⟩
   rw[<- hwz]
   have tz:wz.heap[w.heap.size+1]?=some (.cells #[.int .u8 0,.int .i64 0,.int .i64 0,.int .i64 0] 52 (0,0)):=by
    rw[hwz];exact bZ (bZ (bZ (bZ HB.out (j:=0) _) (j:=1) _) (j:=2) _) (j:=3) _
   have kz:Kp (λ i=>i=w.heap.size+1) w8 wz:=by rw[hwz];exact ((((Kr (λ i=>i=w.heap.size+1) w8).setCell (λ _=>rfl) _).setCell (λ _=>rfl) _).setCell (λ _=>rfl) _).setCell (λ _=>rfl) _
   clear hwz
   have e0:wz.cell? ⟨w.heap.size+1,0,none⟩=some (.int .u8 0):=by simp[World.cell?,tz]
   have e1:wz.cell? ⟨w.heap.size+1,1,none⟩=some (.int .i64 0):=by simp[World.cell?,tz]
   have e2:wz.cell? ⟨w.heap.size+1,2,none⟩=some (.int .i64 0):=by simp[World.cell?,tz]
   have e3:wz.cell? ⟨w.heap.size+1,3,none⟩=some (.int .i64 0):=by simp[World.cell?,tz]
   refine bodyPost_ret (v:=.tuple #[Al 0 0 0 0,.int .i64 7]) ?_ rfl ⟨by rw[HH.out,hgd.out];rfl,KW.trans kz (λ i hi h=>by omega)⟩
   simp[results,results99,go_sem,e0,e1,e2,e3,Al]

def AY(ts:List TypR)(id n:Int):Int:=match typeOf ts id with
 |none=>3
 |some x=>AV x.k x.wds x.m n

def Bq(ts:List TypR)(id n:Int):Int:=match typeOf ts id with
 |none=>0
 |some x=>Fp x.k x.wds n

def EL(ts:List TypR)(id n:Int)(w:World)(e:Ending)(w':World):Prop:=
 e=.returned (.tuple #[.int .i64 (if AY ts id n=0 then Bq ts id n else 0),.int .i64 (AY ts id n)])/\Kp Ab w w'

theorem TSize_none(id n:Int)(t q:Nat)(ts:List TypR)(w:World)(h:TableAt w t q ts)(hx:typeOf ts id=none):
  Calls prog 143 #[.pointer (some ⟨t,0,none⟩),.int .i64 id,.int .i64 n] w (EL ts id n w):=by
 have CA:=Get_any id t q ts w h
 rw[hx] at CA
 have HC:=sE CA
 have HE:Sl (AY ts id n=3):=⟨by rw[AY,hx]⟩
 clear CA hx
 go_enter func143,ntmps143
 go_wp2_with fail
 refine HC.out.mono ?_
 rintro e w2 ⟨rfl,k2⟩
 dsimp only[AC,Option.isSome_some,Option.isSome_none]
 go_wp2
 exact bodyPost_ret (v:=.tuple #[.int .i64 0,.int .i64 3]) (by simp[results,results143,go_sem]) rfl ⟨by rw[HE.out];rfl,k2.alloc _⟩

theorem TSize_some(id n:Int)(t q:Nat)(ts:List TypR)(k wds:Int)(m:Nat)(w:World)(h:TableAt w t q ts)(hx:typeOf ts id=some ⟨k,wds,m⟩):
  Calls prog 143 #[.pointer (some ⟨t,0,none⟩),.int .i64 id,.int .i64 n] w (EL ts id n w):=by
 have CA:=Get_any id t q ts w h
 rw[hx] at CA
 have HC:=sE CA
 have HE:Sl (AY ts id n=AV k wds m n):=⟨by rw[AY,hx]⟩
 have HS:Sl (Bq ts id n=Fp k wds n):=⟨by rw[Bq,hx]⟩
 have CK:=λ w=>KSize_any k wds m n w
 unfold AC at CK
 have HK:=sE CK
 clear CA hx CK
 go_enter func143,ntmps143
 go_wp2_with fail
 refine HC.out.mono ?_
 rintro e w2 ⟨rfl,k2⟩
 dsimp only[AC,Option.isSome_some,Option.isSome_none]
 go_wp2_with fail
 refine(HK.out _).mono ?_
 rintro e w3 ⟨rfl,k3⟩
 obtain⟨S,hS⟩:∃ S,(if AV k wds m n=0 then Fp k wds n else 0)=S:=⟨_,rfl⟩
 obtain⟨E,hE⟩:∃ E,AV k wds m n=E:=⟨_,rfl⟩
 have H1:=sE hS
 have H2:=sE hE
 rw[hS,hE]
 clear hS hE
 go_wp2
 exact bodyPost_ret (v:=.tuple #[.int .i64 S,.int .i64 E]) (by simp[results,results143,go_sem]) rfl ⟨by rw[HE.out,HS.out,H1.out,H2.out],(k2.alloc _).then' k3⟩

theorem TSize_any(id n:Int)(t q:Nat)(ts:List TypR)(w:World)(h:TableAt w t q ts):
  Calls prog 143 #[.pointer (some ⟨t,0,none⟩),.int .i64 id,.int .i64 n] w (EL ts id n w):=by
 cases hx:typeOf ts id with
 |none=>exact TSize_none id n t q ts w h hx
 |some x=>
  obtain⟨k,wds,m⟩:=x
  exact TSize_some id n t q ts k wds m w h hx

def BG(ts:List TypR)(id n:Int)(w:World)(e:Ending)(w':World):Prop:=
 e=.returned (.tuple #[if AY ts id n=0 then Al 1 id n (Bq ts id n) else Al 0 0 0 0,.int .i64 (AY ts id n)])/\Kp Ab w w'

theorem ED(id n:Int)(t q:Nat)(ts:List TypR)(w:World)(h:TableAt w t q ts):
  Calls prog 102 #[.pointer (some ⟨t,0,none⟩),.int .i64 id,.int .i64 n] w (BG ts id n w):=by
 obtain⟨w1,hw1⟩:∃ w1,w1=w.alloc (.cells #[.int .u8 0,.int .i64 0,.int .i64 0,.int .i64 0] 52):=⟨_,rfl⟩
 have kA:Kp Ab w w1:=by rw[hw1];exact (Kr _ w).alloc _
 have b0:w1.heap[w.heap.size]?=some (.cells #[.int .u8 0,.int .i64 0,.int .i64 0,.int .i64 0] 52 (0,0)):=by rw[hw1];exact wN w _
 have HC:=sE (TSize_any id n t q ts w1 (h.Ad kA))
 go_enter func102,ntmps102
 go_wp2_with fail
 rw[<- hw1]
 clear hw1
 refine HC.out.mono ?_
 rintro e w2 ⟨rfl,k2⟩
 have B0:=k2.at_ b0 (λ h=>h)
 have d0:w2.cell? ⟨w.heap.size,0,none⟩=some (.int .u8 0):=by simp[World.cell?,B0]
 have d1:w2.cell? ⟨w.heap.size,1,none⟩=some (.int .i64 0):=by simp[World.cell?,B0]
 have d2:w2.cell? ⟨w.heap.size,2,none⟩=some (.int .i64 0):=by simp[World.cell?,B0]
 have d3:w2.cell? ⟨w.heap.size,3,none⟩=some (.int .i64 0):=by simp[World.cell?,B0]
 have f0:=Ae B0
 have f00:=f0 0
 have f01:=f0 1
 have f02:=f0 2
 have f03:=f0 3
 have KW:=kA.then' k2
 have HB:=sE B0
 clear b0 B0 f0 HC
 obtain⟨E,hE⟩:∃ E,AY ts id n=E:=⟨_,rfl⟩
 obtain⟨S,hS⟩:∃ S,Bq ts id n=S:=⟨_,rfl⟩
 have H1:=sE hE
 have H2:=sE hS
 rw[hE,hS]
 clear hE hS
 by_cases h0:E=0
 .subst h0
  rw[if_pos rfl]
  go_wp2
  obtain⟨wz,hwz⟩:∃ wz,wz=(((w2.setCell ⟨w.heap.size,0,none⟩ (.int .u8 1)).setCell ⟨w.heap.size,1,none⟩ (.int .i64 id)).setCell ⟨w.heap.size,2,none⟩ (.int .i64 n)).setCell ⟨w.heap.size,3,none⟩ (.int .i64 S):=⟨_,rfl⟩
  rw[<- hwz]
  have tz:wz.heap[w.heap.size]?=some (.cells #[.int .u8 1,.int .i64 id,.int .i64 n,.int .i64 S] 52 (0,0)):=by
   rw[hwz];exact bZ (bZ (bZ (bZ HB.out (j:=0) _) (j:=1) _) (j:=2) _) (j:=3) _
  have kz:Kp (λ i=>i=w.heap.size) w2 wz:=by rw[hwz];exact ((((Kr (λ i=>i=w.heap.size) w2).setCell (λ _=>rfl) _).setCell (λ _=>rfl) _).setCell (λ _=>rfl) _).setCell (λ _=>rfl) _
  clear hwz
  have e0:wz.cell? ⟨w.heap.size,0,none⟩=some (.int .u8 1):=by simp[World.cell?,tz]
  have e1:wz.cell? ⟨w.heap.size,1,none⟩=some (.int .i64 id):=by simp[World.cell?,tz]
  have e2:wz.cell? ⟨w.heap.size,2,none⟩=some (.int .i64 n):=by simp[World.cell?,tz]
  have e3:wz.cell? ⟨w.heap.size,3,none⟩=some (.int .i64 S):=by simp[World.cell?,tz]
  refine bodyPost_ret (v:=.tuple #[Al 1 id n S,.int .i64 0]) (by simp[results,results102,go_sem,e0,e1,e2,e3,Al]) rfl ⟨by rw[H1.out,H2.out];rfl,KW.trans kz (λ i hi h=>by omega)⟩
 .have hb:(E !=0)=true:=by simpa using h0
  rw[if_neg h0]
  have H0:=sE h0
  clear h0
  go_wp2
  obtain⟨wz,hwz⟩:∃ wz,wz=(((w2.setCell ⟨w.heap.size,0,none⟩ (.int .u8 0)).setCell ⟨w.heap.size,1,none⟩ (.int .i64 0)).setCell ⟨w.heap.size,2,none⟩ (.int .i64 0)).setCell ⟨w.heap.size,3,none⟩ (.int .i64 0):=⟨_,rfl⟩
  rw[<- hwz]
  have tz:wz.heap[w.heap.size]?=some (.cells #[.int .u8 0,.int .i64 0,.int .i64 0,.int .i64 0] 52 (0,0)):=by
   rw[hwz];exact bZ (bZ (bZ (bZ HB.out (j:=0) _) (j:=1) _) (j:=2) _) (j:=3) _
  have kz:Kp (λ i=>i=w.heap.size) w2 wz:=by rw[hwz];exact ((((Kr (λ i=>i=w.heap.size) w2).setCell (λ _=>rfl) _).setCell (λ _=>rfl) _).setCell (λ _=>rfl) _).setCell (λ _=>rfl) _
  clear hwz
  have e0:wz.cell? ⟨w.heap.size,0,none⟩=some (.int .u8 0):=by simp[World.cell?,tz]
  have e1:wz.cell? ⟨w.heap.size,1,none⟩=some (.int .i64 0):=by simp[World.cell?,tz]
  have e2:wz.cell? ⟨w.heap.size,2,none⟩=some (.int .i64 0):=by simp[World.cell?,tz]
  have e3:wz.cell? ⟨w.heap.size,3,none⟩=some (.int .i64 0):=by simp[World.cell?,tz]
  refine bodyPost_ret (v:=.tuple #[Al 0 0 0 0,.int .i64 E]) (by simp[results,results102,go_sem,e0,e1,e2,e3,Al]) rfl ⟨by rw[H1.out,if_neg H0.out],KW.trans kz (λ i hi h=>by omega)⟩

theorem Gap_yes(tag:Int)(sz:Nat)(w:World)(hF:Av w)(ht:tag=2\/tag=3)(h1:1<=sz)(h2:sz<=65536):
  Calls prog 163 #[.int .u8 tag,.int .i64 (sz:Nat)] w λ e w'=>e=.returned (.tuple #[Al tag 0 0 (sz:Nat),.int .i64 0])/\Kp Ab w w':=by
 have hok:Am tag 0 0 (sz:Nat)=true:=by simp[Am];omega
 have t1:¬ tag=1:=by omega
 have tb:(tag==1)=false:=by simpa using t1
 obtain⟨w1,hw1⟩:∃ w1,w1=(w.alloc (.cells #[.int .u8 0,.int .i64 0,.int .i64 0,.int .i64 0] 52)).alloc (.cells #[.int .u8 tag,.int .i64 0,.int .i64 0,.int .i64 (sz:Nat)] 52):=⟨_,rfl⟩
 have kA:Kp Ab w w1:=by rw[hw1];exact ((Kr _ w).alloc _).alloc _
 have b0:w1.heap[w.heap.size]?=some (.cells #[.int .u8 0,.int .i64 0,.int .i64 0,.int .i64 0] 52 (0,0)):=by
  rw[hw1];exact ((Kr Ab _).alloc _).at_ (wN w _) (λ h=>h)
 have b1:w1.heap[w.heap.size+1]?=some (.cells #[.int .u8 tag,.int .i64 0,.int .i64 0,.int .i64 (sz:Nat)] 52 (0,0)):=by
  rw[hw1];have:=wN (w.alloc (.cells #[.int .u8 0,.int .i64 0,.int .i64 0,.int .i64 0] 52)) (.cells #[.int .u8 tag,.int .i64 0,.int .i64 0,.int .i64 (sz:Nat)] 52);rwa [World.size_alloc] at this
 have CK:=Dz tag 0 0 (sz:Nat) w1 (hF.Ad kA)
 rw[hok] at CK
 unfold Al at CK
 have HC:=sE CK
 clear CK hok
 go_enter func163,ntmps163
 go_wp2_with fail
 rw[<- hw1]
 clear hw1
 refine HC.out.mono ?_
 rintro e w2 ⟨rfl,k2⟩
 rw[show errV true=0 from rfl]
 have B0:=k2.at_ b0 (λ h=>h)
 have B1:=k2.at_ b1 (λ h=>h)
 have d0:w2.cell? ⟨w.heap.size,0,none⟩=some (.int .u8 0):=by simp[World.cell?,B0]
 have d1:w2.cell? ⟨w.heap.size,1,none⟩=some (.int .i64 0):=by simp[World.cell?,B0]
 have d2:w2.cell? ⟨w.heap.size,2,none⟩=some (.int .i64 0):=by simp[World.cell?,B0]
 have d3:w2.cell? ⟨w.heap.size,3,none⟩=some (.int .i64 0):=by simp[World.cell?,B0]
 have g0:w2.cell? ⟨w.heap.size+1,0,none⟩=some (.int .u8 tag):=by simp[World.cell?,B1]
 have g1:w2.cell? ⟨w.heap.size+1,1,none⟩=some (.int .i64 0):=by simp[World.cell?,B1]
 have g2:w2.cell? ⟨w.heap.size+1,2,none⟩=some (.int .i64 0):=by simp[World.cell?,B1]
 have g3:w2.cell? ⟨w.heap.size+1,3,none⟩=some (.int .i64 (sz:Nat)):=by simp[World.cell?,B1]
 have f0:=Ae B0
 have f00:=f0 0
 have f01:=f0 1
 have f02:=f0 2
 have f03:=f0 3
 have KW:=kA.then' k2
 have HB:=sE B0
 clear b0 B0 f0 HC b1 B1
 go_wp2
 obtain⟨wz,hwz⟩:∃ wz,wz=(((w2.setCell ⟨w.heap.size,0,none⟩ (.int .u8 tag)).setCell ⟨w.heap.size,1,none⟩ (.int .i64 0)).setCell ⟨w.heap.size,2,none⟩ (.int .i64 0)).setCell ⟨w.heap.size,3,none⟩ (.int .i64 (sz:Nat)):=⟨_,rfl⟩
 rw[<- hwz]
 have tz:wz.heap[w.heap.size]?=some (.cells #[.int .u8 tag,.int .i64 0,.int .i64 0,.int .i64 (sz:Nat)] 52 (0,0)):=by
  rw[hwz];exact bZ (bZ (bZ (bZ HB.out (j:=0) _) (j:=1) _) (j:=2) _) (j:=3) _
 have kz:Kp (λ i=>i=w.heap.size) w2 wz:=by rw[hwz];exact ((((Kr (λ i=>i=w.heap.size) w2).setCell (λ _=>rfl) _).setCell (λ _=>rfl) _).setCell (λ _=>rfl) _).setCell (λ _=>rfl) _
 clear hwz
 have e0:wz.cell? ⟨w.heap.size,0,none⟩=some (.int .u8 tag):=by simp[World.cell?,tz]
 have e1:wz.cell? ⟨w.heap.size,1,none⟩=some (.int .i64 0):=by simp[World.cell?,tz]
 have e2:wz.cell? ⟨w.heap.size,2,none⟩=some (.int .i64 0):=by simp[World.cell?,tz]
 have e3:wz.cell? ⟨w.heap.size,3,none⟩=some (.int .i64 (sz:Nat)):=by simp[World.cell?,tz]
 refine bodyPost_ret (v:=.tuple #[Al tag 0 0 (sz:Nat),.int .i64 0]) (by simp[results,results163,go_sem,e0,e1,e2,e3,Al]) rfl ⟨rfl,KW.trans kz (λ i hi h=>by omega)⟩

theorem run_eq_head(a b c d a' b' c' d':Int)(w:World):(Op.equalIn 10000 52 (Al a b c d) (Al a' b' c' d')).run prog w=.ok (a==a'&&(b==b'&&(c==c'&&d==d'))) w:=by
 have u3:=underlying3
 have a3:=isAgg3
 have z3:=sizeOf3
 have u5:=underlying5
 have a5:=isAgg5
 have z5:=sizeOf5
 have hS:prog.underlying 52=some (.struct (prog.fieldsOf 52)):=by kernel_rfl
 unfold Al
 rw[show (10000:Nat)=9999+1 from rfl,run_equalIn_agg w 9999 52 _ _ hS (by kernel_rfl)]
 simp only[Program.fieldsOf,underlying52]
 go_simp
 by_cases h1:a=a' <;> by_cases h2:b=b' <;> by_cases h3:c=c' <;> by_cases h4:d=d' <;> simp[h1,h2,h3,h4]

theorem EH(a b c d a' b' c' d':Int)(w:World):(binOp .neq 52 (.agg #[.int .u8 a,.int .i64 b,.int .i64 c,.int .i64 d]) (.agg #[.int .u8 a',.int .i64 b',.int .i64 c',.int .i64 d'])).run prog w=.ok (.bool (!(a==a'&&(b==b'&&(c==c'&&d==d'))))) w:=by
 have h:=run_eq_head a b c d a' b' c' d' w
 unfold Al at h
 rw[run_neq_struct,h];rfl

attribute [local go_sem ↓] EH

theorem Fits_gap(tag ty ln sz:Int)(tt:Value)(w:World)(hF:Av w)(h:Am tag ty ln sz=true)(ht:¬ tag=1):
  Calls prog 51 #[tt,Al tag ty ln sz] w λ e w'=>e=.returned (.int .i64 0)/\Kp Ab w w':=by
 have kA:=(Kr Ab w).alloc (.cells #[.int .u8 tag,.int .i64 ty,.int .i64 ln,.int .i64 sz] 52)
 have b0:=wN w (.cells #[.int .u8 tag,.int .i64 ty,.int .i64 ln,.int .i64 sz] 52)
 have CK:=Dz tag ty ln sz _ (hF.Ad kA)
 rw[h] at CK
 unfold Al at CK ⊢
 have HC:=sE CK
 have hb:(tag !=1)=true:=by simpa using ht
 clear CK h
 go_enter func51,ntmps51
 go_wp2_with fail
 refine HC.out.mono ?_
 rintro e w2 ⟨rfl,k2⟩
 have B0:=k2.at_ b0 (λ h=>h)
 have d0:w2.cell? ⟨w.heap.size,0,none⟩=some (.int .u8 tag):=by simp[World.cell?,B0]
 have KW:=kA.then' k2
 clear b0 B0 HC
 go_wp2
 go_ret
 exact⟨rfl,KW⟩

theorem Fits_obj(ty ln sz:Int)(t q:Nat)(ts:List TypR)(w:World)(hF:Av w)(hT:TableAt w t q ts)(h:Am 1 ty ln sz=true)(he:AY ts ty ln=0)(hs:Bq ts ty ln=sz):
  Calls prog 51 #[.pointer (some ⟨t,0,none⟩),Al 1 ty ln sz] w λ e w'=>e=.returned (.int .i64 0)/\Kp Ab w w':=by
 have kA:=(Kr Ab w).alloc (.cells #[.int .u8 1,.int .i64 ty,.int .i64 ln,.int .i64 sz] 52)
 have b0:=wN w (.cells #[.int .u8 1,.int .i64 ty,.int .i64 ln,.int .i64 sz] 52)
 have CK:=Dz 1 ty ln sz _ (hF.Ad kA)
 rw[h] at CK
 have CO:∀ W,Kp Ab w W->Calls prog 102 #[.pointer (some ⟨t,0,none⟩),.int .i64 ty,.int .i64 ln] W λ e w'=>e=.returned (.tuple #[Al 1 ty ln sz,.int .i64 0])/\Kp Ab W w':=λ W k=>
  (ED ty ln t q ts W (hT.Ad k)).mono λ e w' hp=>by rw[BG,he,if_pos rfl,hs] at hp;exact hp
 unfold Al at CK CO ⊢
 have HC:=sE CK
 have HO:=sE CO
 clear CK CO h he hs
 go_enter func51,ntmps51
 go_wp2_with fail
 refine HC.out.mono ?_
 rintro e w2 ⟨rfl,k2⟩
 have B0:=k2.at_ b0 (λ h=>h)
 have d0:w2.cell? ⟨w.heap.size,0,none⟩=some (.int .u8 1):=by simp[World.cell?,B0]
 have d1:w2.cell? ⟨w.heap.size,1,none⟩=some (.int .i64 ty):=by simp[World.cell?,B0]
 have d2:w2.cell? ⟨w.heap.size,2,none⟩=some (.int .i64 ln):=by simp[World.cell?,B0]
 have KW:=kA.then' k2
 clear b0 HC
 go_wp2_with fail
 refine(HO.out _ KW).mono ?_
 rintro e w3 ⟨rfl,k3⟩
 have B3:=k3.at_ B0 (λ h=>h)
 have hl3:=lZ B3
 have c0:w3.cell? ⟨w.heap.size,0,none⟩=some (.int .u8 1):=by simp[World.cell?,B3]
 have c1:w3.cell? ⟨w.heap.size,1,none⟩=some (.int .i64 ty):=by simp[World.cell?,B3]
 have c2:w3.cell? ⟨w.heap.size,2,none⟩=some (.int .i64 ln):=by simp[World.cell?,B3]
 have c3:w3.cell? ⟨w.heap.size,3,none⟩=some (.int .i64 sz):=by simp[World.cell?,B3]
 clear d0 d1 d2 B0 B3
 go_wp2
 go_ret
 exact⟨rfl,(KW.then' k3).alloc _⟩

end

end Go.Proofs.YtmfajopmppfldaaGreatDoor
