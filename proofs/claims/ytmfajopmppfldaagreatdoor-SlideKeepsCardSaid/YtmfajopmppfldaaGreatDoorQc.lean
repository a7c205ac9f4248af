/-
  Lemmas for the laws, together: Heads, Space1, TablesA, DocA, BlackA, ArgsA, HeadLaid.
-/
import Derived.Test.YtmfajopmppfldaaGreatDoorQb
import Derived.RegionTactic
import Derived.Laws.StructEq
import Derived.Test.YtmfajopmppfldaaGreatDoorQa
import Derived.BigQuiet
import Derived.Deep.RegionHeld3
import Derived.Deep.AppendLies
import Derived.Deep.RegionLaw
import Derived.Deep.SlicePairs
import Derived.SizedLaws
import Derived.Test.YtmfajopmppfldaaGreatDoorRows
import Derived.ProofKit
import Derived.LaidMore
import Derived.OpenShut
import Derived.Stop.Joined
set_option linter.unusedVariables false
set_option maxHeartbeats 16000000
namespace Go.Proofs.YtmfajopmppfldaaGreatDoor
open Go.Proofs.Tryz
section
open Go.RowKit

theorem lay_0(b v x:Nat)(w:World)(hF:Aq w)(hb:w.heap[b]?=some (.cells #[.int .u64 (x:Nat)] 55 (0,0)))(hv:v<16777216)(hx:x<18446744073709551616):
  Calls prog 191 #[.int .i64 0,.int .i64 (v:Nat),.pointer (some ⟨b,0,none⟩)] w λ e w'=>
   e=.returned (.tuple #[])/\Kp (λ i=>i=b) w w'/\w'.heap[b]?=some (.cells #[.int .u64 ((x ||| v*1:Nat):Int)] 55 (0,0)):=by
 obtain⟨c0,c1,c2,c3,c4,c5,c6,c7,c8,c9⟩:=hF.all
 have cb:=cell_of_one hb
 have fb:=free_of_one hb
 have hor:bits .or .u64 (x:Int) ((v:Int))=((x ||| v*1:Nat):Int):=by
  have h:=u64_or_nat x (v*1) hx (by omega)
  rw[show ((v*1:Nat):Int)=(v:Int) by omega] at h
  exact h
 have HB:=sE hb
 have HO:=sE hor
 clear hb hF hor
 go_enter func191,ntmps191
 go_wp2_with fail
 go_region
 go_end0
 rw[HO.out]
 exact⟨rfl,((Kr (λ i=>i=b) w).setCell (p:=⟨b,0,none⟩) (λ _=>rfl) _).drew,one_setCell (u:=.int .u64 ((x ||| v*1:Nat):Int)) HB.out⟩

theorem lay_1(b v x:Nat)(w:World)(hF:Aq w)(hb:w.heap[b]?=some (.cells #[.int .u64 (x:Nat)] 55 (0,0)))(hv:v<16777216)(hx:x<18446744073709551616):
  Calls prog 191 #[.int .i64 1,.int .i64 (v:Nat),.pointer (some ⟨b,0,none⟩)] w λ e w'=>
   e=.returned (.tuple #[])/\Kp (λ i=>i=b) w w'/\w'.heap[b]?=some (.cells #[.int .u64 ((x ||| v*4:Nat):Int)] 55 (0,0)):=by
 obtain⟨c0,c1,c2,c3,c4,c5,c6,c7,c8,c9⟩:=hF.all
 have cb:=cell_of_one hb
 have fb:=free_of_one hb
 have hor:bits .or .u64 (x:Int) ((v:Int)*4)=((x ||| v*4:Nat):Int):=by
  have h:=u64_or_nat x (v*4) hx (by omega)
  rw[show ((v*4:Nat):Int)=(v:Int)*4 by omega] at h
  exact h
 have HB:=sE hb
 have HO:=sE hor
 clear hb hF hor
 go_enter func191,ntmps191
 go_wp2_with fail
 go_region
 go_end0
 rw[HO.out]
 exact⟨rfl,((Kr (λ i=>i=b) w).setCell (p:=⟨b,0,none⟩) (λ _=>rfl) _).drew,one_setCell (u:=.int .u64 ((x ||| v*4:Nat):Int)) HB.out⟩

theorem lay_3(b v x:Nat)(w:World)(hF:Aq w)(hb:w.heap[b]?=some (.cells #[.int .u64 (x:Nat)] 55 (0,0)))(hv:v<16777216)(hx:x<18446744073709551616):
  Calls prog 191 #[.int .i64 3,.int .i64 (v:Nat),.pointer (some ⟨b,0,none⟩)] w λ e w'=>
   e=.returned (.tuple #[])/\Kp (λ i=>i=b) w w'/\w'.heap[b]?=some (.cells #[.int .u64 ((x ||| v*65536:Nat):Int)] 55 (0,0)):=by
 obtain⟨c0,c1,c2,c3,c4,c5,c6,c7,c8,c9⟩:=hF.all
 have cb:=cell_of_one hb
 have fb:=free_of_one hb
 have hor:bits .or .u64 (x:Int) ((v:Int)*65536)=((x ||| v*65536:Nat):Int):=by
  have h:=u64_or_nat x (v*65536) hx (by omega)
  rw[show ((v*65536:Nat):Int)=(v:Int)*65536 by omega] at h
  exact h
 have HB:=sE hb
 have HO:=sE hor
 clear hb hF hor
 go_enter func191,ntmps191
 go_wp2_with fail
 go_region
 go_end0
 rw[HO.out]
 exact⟨rfl,((Kr (λ i=>i=b) w).setCell (p:=⟨b,0,none⟩) (λ _=>rfl) _).drew,one_setCell (u:=.int .u64 ((x ||| v*65536:Nat):Int)) HB.out⟩

theorem lay_4(b v x:Nat)(w:World)(hF:Aq w)(hb:w.heap[b]?=some (.cells #[.int .u64 (x:Nat)] 55 (0,0)))(hv:v<16777216)(hx:x<18446744073709551616):
  Calls prog 191 #[.int .i64 4,.int .i64 (v:Nat),.pointer (some ⟨b,0,none⟩)] w λ e w'=>
   e=.returned (.tuple #[])/\Kp (λ i=>i=b) w w'/\w'.heap[b]?=some (.cells #[.int .u64 ((x ||| v*1099511627776:Nat):Int)] 55 (0,0)):=by
 obtain⟨c0,c1,c2,c3,c4,c5,c6,c7,c8,c9⟩:=hF.all
 have cb:=cell_of_one hb
 have fb:=free_of_one hb
 have hor:bits .or .u64 (x:Int) ((v:Int)*1099511627776)=((x ||| v*1099511627776:Nat):Int):=by
  have h:=u64_or_nat x (v*1099511627776) hx (by omega)
  rw[show ((v*1099511627776:Nat):Int)=(v:Int)*1099511627776 by omega] at h
  exact h
 have HB:=sE hb
 have HO:=sE hor
 clear hb hF hor
 go_enter func191,ntmps191
 go_wp2_with fail
 go_region
 go_end0
 rw[HO.out]
 exact⟨rfl,((Kr (λ i=>i=b) w).setCell (p:=⟨b,0,none⟩) (λ _=>rfl) _).drew,one_setCell (u:=.int .u64 ((x ||| v*1099511627776:Nat):Int)) HB.out⟩

theorem Encode_yes(tag ty ln sz:Nat)(w:World)(hF:Aq w)(h:Am tag ty ln sz=true):
  Calls prog 164 #[Ak tag ty ln sz] w λ e w'=>e=.returned (.tuple #[.int .u64 (Bl tag ty ln sz:Nat),.int .i64 0])/\Kp Ab w w':=by
 have b0:=wN w (.cells #[.int .u8 (tag:Nat),.int .i64 (ty:Nat),.int .i64 (ln:Nat),.int .i64 (sz:Nat)] 52)
 have kA:=(Kr Ab w).alloc (.cells #[.int .u8 (tag:Nat),.int .i64 (ty:Nat),.int .i64 (ln:Nat),.int .i64 (sz:Nat)] 52)
 have CK:=Dz tag ty ln sz _ (hF.Ad kA)
 rw[h] at CK
 unfold Ak at CK ⊢
 have HC:=sE CK
 have hp:tag<=3/\ty<=4095/\ln<=16777215/\sz<=16777215:=by
  simp only[Am,decide_eq_true_eq] at h
  omega
 obtain⟨p1,p2,p3,p4⟩:=hp
 have HE:=sE (encH_or h)
 have hmf:∀ (fn:Fn) (first cap:Array Value) (w:World),(Instr.makeFunc fn first cap).run prog w=.ok (.func fn first cap) w:=λ _ _ _ _=>rfl
 clear CK h
 go_enter func164,ntmps164
 go_wp2_with fail
 refine HC.out.mono ?_
 rintro e w1 ⟨rfl,k1⟩
 have B1:=k1.at_ b0 (λ h=>h)
 have hs1:=k1.size
 have hs2:w.heap.size<w1.heap.size:=lZ B1
 have zz:¬ w.heap.size=w1.heap.size:=by omega
 have z0:¬ (0:Nat)=w1.heap.size:=by have:=hF.1;omega
 have c10:w1.cell? ⟨w.heap.size,0,none⟩=some (.int .u8 (tag:Nat)):=by simp[World.cell?,B1]
 have kw1:Kp Ab w w1:=kA.trans k1 (λ _ _ h=>h)
 have F1:=hF.Ad kw1
 obtain⟨w2,hw2⟩:∃ w2,w2=w1.alloc (.cells #[.int .u64 0] 55):=⟨_,rfl⟩
 have k2:Kp Ab w1 w2:=by rw[hw2];exact (Kr _ _).alloc _
 have g2:w2.heap[w1.heap.size]?=some (.cells #[.int .u64 ((0:Nat):Int)] 55 (0,0)):=by rw[hw2];exact wN w1 _
 have C2:=k2.at_ B1 (λ h=>h)
 have F2:=F1.Ad k2
 have c20:(w1.alloc (.cells #[.int .u64 0] 55)).cell? ⟨w.heap.size,0,none⟩=some (.int .u8 (tag:Nat)):=by rw[<- hw2];simp [World.cell?,C2]
 have c21:(w1.alloc (.cells #[.int .u64 0] 55)).cell? ⟨w.heap.size,1,none⟩=some (.int .i64 (ty:Nat)):=by rw[<- hw2];simp [World.cell?,C2]
 have c22:(w1.alloc (.cells #[.int .u64 0] 55)).cell? ⟨w.heap.size,2,none⟩=some (.int .i64 (ln:Nat)):=by rw[<- hw2];simp [World.cell?,C2]
 have c23:(w1.alloc (.cells #[.int .u64 0] 55)).cell? ⟨w.heap.size,3,none⟩=some (.int .i64 (sz:Nat)):=by rw[<- hw2];simp [World.cell?,C2]
 have HX0:Sl ((0:Nat)<18446744073709551616):=⟨by omega⟩
 have HX1:Sl ((0 ||| tag*1)<18446744073709551616):=⟨Nat.lt_of_lt_of_eq (Nat.or_lt_two_pow (n:=64) (by omega) (by omega)) rfl⟩
 have HX2:Sl ((0 ||| tag*1 ||| ty*4)<18446744073709551616):=⟨Nat.lt_of_lt_of_eq (Nat.or_lt_two_pow (n:=64) HX1.out (by omega)) rfl⟩
 have HX3:Sl ((0 ||| tag*1 ||| ty*4 ||| ln*65536)<18446744073709551616):=⟨Nat.lt_of_lt_of_eq (Nat.or_lt_two_pow (n:=64) HX2.out (by omega)) rfl⟩
 have HSW:=sE hw2
 clear B1 c10 b0 kA k1 HC hs1
 go_wp2_with fail
 rw[<- HSW.out]
 clear HSW hw2
 refine(lay_0 w1.heap.size tag 0 w2 F2 g2 (by omega) HX0.out).mono ?_
 rintro e w3 ⟨rfl,j3,g3⟩
 have F3:=F2.keep j3 z0
 have C3:=j3.at_ C2 (λ e=>zz e)
 have c30:w3.cell? ⟨w.heap.size,0,none⟩=some (.int .u8 (tag:Nat)):=by simp[World.cell?,C3]
 have c31:w3.cell? ⟨w.heap.size,1,none⟩=some (.int .i64 (ty:Nat)):=by simp[World.cell?,C3]
 have c32:w3.cell? ⟨w.heap.size,2,none⟩=some (.int .i64 (ln:Nat)):=by simp[World.cell?,C3]
 have c33:w3.cell? ⟨w.heap.size,3,none⟩=some (.int .i64 (sz:Nat)):=by simp[World.cell?,C3]
 have cx3:=cell_of_one g3
 clear c20 c21 c22 c23
 go_wp2_with fail
 refine(lay_1 w1.heap.size ty (0 ||| tag*1) w3 F3 g3 (by omega) HX1.out).mono ?_
 rintro e w4 ⟨rfl,j4,g4⟩
 have F4:=F3.keep j4 z0
 have C4:=j4.at_ C3 (λ e=>zz e)
 have c40:w4.cell? ⟨w.heap.size,0,none⟩=some (.int .u8 (tag:Nat)):=by simp[World.cell?,C4]
 have c41:w4.cell? ⟨w.heap.size,1,none⟩=some (.int .i64 (ty:Nat)):=by simp[World.cell?,C4]
 have c42:w4.cell? ⟨w.heap.size,2,none⟩=some (.int .i64 (ln:Nat)):=by simp[World.cell?,C4]
 have c43:w4.cell? ⟨w.heap.size,3,none⟩=some (.int .i64 (sz:Nat)):=by simp[World.cell?,C4]
 have cx4:=cell_of_one g4
 clear c30 c31 c32 c33
 go_wp2_with fail
 refine(lay_3 w1.heap.size ln (0 ||| tag*1 ||| ty*4) w4 F4 g4 (by omega) HX2.out).mono ?_
 rintro e w5 ⟨rfl,j5,g5⟩
 have F5:=F4.keep j5 z0
 have C5:=j5.at_ C4 (λ e=>zz e)
 have c50:w5.cell? ⟨w.heap.size,0,none⟩=some (.int .u8 (tag:Nat)):=by simp[World.cell?,C5]
 have c51:w5.cell? ⟨w.heap.size,1,none⟩=some (.int .i64 (ty:Nat)):=by simp[World.cell?,C5]
 have c52:w5.cell? ⟨w.heap.size,2,none⟩=some (.int .i64 (ln:Nat)):=by simp[World.cell?,C5]
 have c53:w5.cell? ⟨w.heap.size,3,none⟩=some (.int .i64 (sz:Nat)):=by simp[World.cell?,C5]
 have cx5:=cell_of_one g5
 clear c40 c41 c42 c43
 go_wp2_with fail
 refine(lay_4 w1.heap.size sz (0 ||| tag*1 ||| ty*4 ||| ln*65536) w5 F5 g5 (by omega) HX3.out).mono ?_
 rintro e w6 ⟨rfl,j6,g6⟩
 have F6:=F5.keep j6 z0
 have C6:=j6.at_ C5 (λ e=>zz e)
 have c60:w6.cell? ⟨w.heap.size,0,none⟩=some (.int .u8 (tag:Nat)):=by simp[World.cell?,C6]
 have c61:w6.cell? ⟨w.heap.size,1,none⟩=some (.int .i64 (ty:Nat)):=by simp[World.cell?,C6]
 have c62:w6.cell? ⟨w.heap.size,2,none⟩=some (.int .i64 (ln:Nat)):=by simp[World.cell?,C6]
 have c63:w6.cell? ⟨w.heap.size,3,none⟩=some (.int .i64 (sz:Nat)):=by simp[World.cell?,C6]
 have cx6:=cell_of_one g6
 clear c50 c51 c52 c53
 go_wp2
 have hv:Sl ((tag ||| ty*4 ||| ln*65536 ||| sz*1099511627776)=Bl tag ty ln sz):=⟨by have h:=HE.out;rwa [Nat.zero_or] at h⟩
 have KF:Kp (λ i=>i=w1.heap.size) w w6:=(((((kw1.trans k2 (λ _ _ h=>h)).Al _).trans j3 (λ _ _ h=>h)).trans j4 (λ _ _ h=>h)).trans j5 (λ _ _ h=>h)).trans j6 (λ _ _ h=>h)
 rw[hv.out]
 refine bodyPost_ret (v:=.tuple #[.int .u64 (Bl tag ty ln sz:Nat),.int .i64 0]) (by simp[results,results164,go_sem]) rfl ⟨rfl,KF.mono (λ i hi h=>by omega)⟩

theorem and_mask{X S T:Nat}(k:Nat)(hT:T=2 ^ k)(hk:k<=24)(hX:X<18446744073709551616):bits .and .u64 ((X/S:Nat):Int) ((T-1:Nat):Int)=((X/S%T:Nat):Int):=by
 have h1:X/S<18446744073709551616:=Nat.lt_of_le_of_lt (Nat.div_le_self _ _) hX
 have h2:T<=16777216:=by rw[hT];exact Nat.pow_le_pow_right (by decide) hk
 rw[u64_and_nat _ _ h1 (by omega),hT,Nat.and_two_pow_sub_one_eq_mod]

theorem of_0(b X:Nat)(w:World)(hF:Aq w)(hb:w.heap[b]?=some (.cells #[.int .u64 (X:Nat)] 55 (0,0)))(hX:X<18446744073709551616):
  Calls prog 141 #[.int .i64 0,.pointer (some ⟨b,0,none⟩)] w λ e w'=>e=.returned (.int .i64 ((X/1%4:Nat):Int))/\∃ m,w'=w.drewN m:=by
 obtain⟨c0,c1,c2,c3,c4,c5,c6,c7,c8,c9⟩:=hF.all
 have cb:=cell_of_one hb
 have hand:bits .and .u64 ((X:Int)) 3=((X/1%4:Nat):Int):=by
  have h:=and_mask (X:=X) (S:=1) (T:=4) 2 rfl (by omega) hX
  rw[show ((X/1:Nat):Int)=(X:Int) by omega] at h
  exact h
 obtain⟨r,hr⟩:∃ r,X/1%4=r:=⟨_,rfl⟩
 have hr2:r<4:=by rw[<- hr];exact Nat.mod_lt _ (by omega)
 rw[hr] at hand ⊢
 clear hr hb hF
 go_enter func141,ntmps141
 go_wp2_with fail
 go_quiet (fail)
 go_wp2
 go_ret
 exact⟨rfl,_,rfl⟩

theorem of_1(b X:Nat)(w:World)(hF:Aq w)(hb:w.heap[b]?=some (.cells #[.int .u64 (X:Nat)] 55 (0,0)))(hX:X<18446744073709551616):
  Calls prog 141 #[.int .i64 1,.pointer (some ⟨b,0,none⟩)] w λ e w'=>e=.returned (.int .i64 ((X/4%4096:Nat):Int))/\∃ m,w'=w.drewN m:=by
 obtain⟨c0,c1,c2,c3,c4,c5,c6,c7,c8,c9⟩:=hF.all
 have cb:=cell_of_one hb
 have hand:bits .and .u64 ((X:Int)/4) 4095=((X/4%4096:Nat):Int):=by
  have h:=and_mask (X:=X) (S:=4) (T:=4096) 12 rfl (by omega) hX
  rw[show ((X/4:Nat):Int)=(X:Int)/4 by omega] at h
  exact h
 obtain⟨r,hr⟩:∃ r,X/4%4096=r:=⟨_,rfl⟩
 have hr2:r<4096:=by rw[<- hr];exact Nat.mod_lt _ (by omega)
 rw[hr] at hand ⊢
 clear hr hb hF
 go_enter func141,ntmps141
 go_wp2_with fail
 go_quiet (fail)
 go_wp2
 go_ret
 exact⟨rfl,_,rfl⟩

theorem of_2(b X:Nat)(w:World)(hF:Aq w)(hb:w.heap[b]?=some (.cells #[.int .u64 (X:Nat)] 55 (0,0)))(hX:X<18446744073709551616):
  Calls prog 141 #[.int .i64 2,.pointer (some ⟨b,0,none⟩)] w λ e w'=>e=.returned (.int .i64 ((X/16384%4:Nat):Int))/\∃ m,w'=w.drewN m:=by
 obtain⟨c0,c1,c2,c3,c4,c5,c6,c7,c8,c9⟩:=hF.all
 have cb:=cell_of_one hb
 have hand:bits .and .u64 ((X:Int)/16384) 3=((X/16384%4:Nat):Int):=by
  have h:=and_mask (X:=X) (S:=16384) (T:=4) 2 rfl (by omega) hX
  rw[show ((X/16384:Nat):Int)=(X:Int)/16384 by omega] at h
  exact h
 obtain⟨r,hr⟩:∃ r,X/16384%4=r:=⟨_,rfl⟩
 have hr2:r<4:=by rw[<- hr];exact Nat.mod_lt _ (by omega)
 rw[hr] at hand ⊢
 clear hr hb hF
 go_enter func141,ntmps141
 go_wp2_with fail
 go_quiet (fail)
 go_wp2
 go_ret
 exact⟨rfl,_,rfl⟩

theorem of_3(b X:Nat)(w:World)(hF:Aq w)(hb:w.heap[b]?=some (.cells #[.int .u64 (X:Nat)] 55 (0,0)))(hX:X<18446744073709551616):
  Calls prog 141 #[.int .i64 3,.pointer (some ⟨b,0,none⟩)] w λ e w'=>e=.returned (.int .i64 ((X/65536%16777216:Nat):Int))/\∃ m,w'=w.drewN m:=by
 obtain⟨c0,c1,c2,c3,c4,c5,c6,c7,c8,c9⟩:=hF.all
 have cb:=cell_of_one hb
 have hand:bits .and .u64 ((X:Int)/65536) 16777215=((X/65536%16777216:Nat):Int):=by
  have h:=and_mask (X:=X) (S:=65536) (T:=16777216) 24 rfl (by omega) hX
  rw[show ((X/65536:Nat):Int)=(X:Int)/65536 by omega] at h
  exact h
 obtain⟨r,hr⟩:∃ r,X/65536%16777216=r:=⟨_,rfl⟩
 have hr2:r<16777216:=by rw[<- hr];exact Nat.mod_lt _ (by omega)
 rw[hr] at hand ⊢
 clear hr hb hF
 go_enter func141,ntmps141
 go_wp2_with fail
 go_quiet (fail)
 go_wp2
 go_ret
 exact⟨rfl,_,rfl⟩

theorem of_4(b X:Nat)(w:World)(hF:Aq w)(hb:w.heap[b]?=some (.cells #[.int .u64 (X:Nat)] 55 (0,0)))(hX:X<18446744073709551616):
  Calls prog 141 #[.int .i64 4,.pointer (some ⟨b,0,none⟩)] w λ e w'=>e=.returned (.int .i64 ((X/1099511627776%16777216:Nat):Int))/\∃ m,w'=w.drewN m:=by
 obtain⟨c0,c1,c2,c3,c4,c5,c6,c7,c8,c9⟩:=hF.all
 have cb:=cell_of_one hb
 have hand:bits .and .u64 ((X:Int)/1099511627776) 16777215=((X/1099511627776%16777216:Nat):Int):=by
  have h:=and_mask (X:=X) (S:=1099511627776) (T:=16777216) 24 rfl (by omega) hX
  rw[show ((X/1099511627776:Nat):Int)=(X:Int)/1099511627776 by omega] at h
  exact h
 obtain⟨r,hr⟩:∃ r,X/1099511627776%16777216=r:=⟨_,rfl⟩
 have hr2:r<16777216:=by rw[<- hr];exact Nat.mod_lt _ (by omega)
 rw[hr] at hand ⊢
 clear hr hb hF
 go_enter func141,ntmps141
 go_wp2_with fail
 go_quiet (fail)
 go_wp2
 go_ret
 exact⟨rfl,_,rfl⟩

def CP(X:Nat):Nat:=X/1%4
def Ex(X:Nat):Nat:=X/4%4096
def gapW(X:Nat):Nat:=X/16384%4
def EM(X:Nat):Nat:=X/65536%16777216
def DL(X:Nat):Nat:=X/1099511627776%16777216

def BJ(X:Nat):Bool:=Am (CP X:Nat) (Ex X:Nat) (EM X:Nat) (DL X:Nat)&&decide (gapW X=0)

def Fa(ok:Bool)(tg ty ln sz:Nat)(w:World)(e:Ending)(w':World):Prop:=
 e=.returned (.tuple #[if ok then Ak (tg:Nat) (ty:Nat) (ln:Nat) (sz:Nat) else Ak 0 0 0 0,.int .i64 (if ok then 0 else 7)])/\Kp Ab w w'

set_option maxRecDepth 20000 in
theorem Decode_any(X:Nat)(w:World)(hF:Aq w)(hX:X<18446744073709551616):
  Calls prog 99 #[.int .u64 (X:Nat)] w (Fa (BJ X) (CP X) (Ex X) (EM X) (DL X) w):=by
 have hmf:∀ (fn:Fn) (first cap:Array Value) (w:World),(Instr.makeFunc fn first cap).run prog w=.ok (.func fn first cap) w:=λ _ _ _ _=>rfl
 obtain⟨tg,htg⟩:∃ x,CP X=x:=⟨_,rfl⟩
 obtain⟨ty,hty⟩:∃ x,Ex X=x:=⟨_,rfl⟩
 obtain⟨gp,hgp⟩:∃ x,gapW X=x:=⟨_,rfl⟩
 obtain⟨ln,hln⟩:∃ x,EM X=x:=⟨_,rfl⟩
 obtain⟨sz,hsz⟩:∃ x,DL X=x:=⟨_,rfl⟩
 have HTG:=sE htg
 have HTY:=sE hty
 have HGP:=sE hgp
 have HLN:=sE hln
 have HSZ:=sE hsz
 have l1:tg<4:=by rw[<- htg];exact Nat.mod_lt _ (by omega)
 have l2:ty<4096:=by rw[<- hty];exact Nat.mod_lt _ (by omega)
 have l3:gp<4:=by rw[<- hgp];exact Nat.mod_lt _ (by omega)
 have l4:ln<16777216:=by rw[<- hln];exact Nat.mod_lt _ (by omega)
 have l5:sz<16777216:=by rw[<- hsz];exact Nat.mod_lt _ (by omega)
 have hdec:BJ X=(Am (tg:Nat) (ty:Nat) (ln:Nat) (sz:Nat)&&decide (gp=0)):=by rw[BJ,htg,hty,hln,hsz,hgp]
 rw[htg,hty,hln,hsz,hdec]
 have HX:=sE hX
 clear htg hty hgp hln hsz hdec hX
 obtain⟨w1,hw1⟩:∃ w1,w1=(w.alloc (.cells #[.int .u64 (X:Nat)] 55)).alloc (.cells #[.int .u8 0,.int .i64 0,.int .i64 0,.int .i64 0] 52):=⟨_,rfl⟩
 have kA:Kp Ab w w1:=by rw[hw1];exact ((Kr _ w).alloc _).alloc _
 have b0:w1.heap[w.heap.size]?=some (.cells #[.int .u64 (X:Nat)] 55 (0,0)):=by
  rw[hw1];exact ((Kr Ab _).alloc _).at_ (wN w _) (λ h=>h)
 have b1:w1.heap[w.heap.size+1]?=some (.cells #[.int .u8 0,.int .i64 0,.int .i64 0,.int .i64 0] 52 (0,0)):=by
  rw[hw1];have:=wN (w.alloc (.cells #[.int .u64 (X:Nat)] 55)) (.cells #[.int .u8 0,.int .i64 0,.int .i64 0,.int .i64 0] 52);rwa [World.size_alloc] at this
 have F1:=hF.Ad kA
 go_enter func99,ntmps99
 go_wp2_with fail
 rw[<- hw1]
 clear hw1
 refine(of_0 w.heap.size X w1 F1 b0 HX.out).mono ?_
 rintro e w2 ⟨rfl,m2,hm2⟩
 have k2:Kp Ab w1 w2:=by rw[hm2];exact Kp.Aj _
 have t0:Sl (X/1%4=tg):=⟨HTG.out⟩
 rw[t0.out]
 clear hm2
 have F2:=F1.Ad k2
 have b02:=k2.at_ b0 (λ h=>h)
 go_wp2_with fail
 refine(of_1 w.heap.size X w2 F2 b02 HX.out).mono ?_
 rintro e w3 ⟨rfl,m3,hm3⟩
 have k3:Kp Ab w2 w3:=by rw[hm3];exact Kp.Aj _
 have t1:Sl (X/4%4096=ty):=⟨HTY.out⟩
 rw[t1.out]
 clear hm3
 have F3:=F2.Ad k3
 have b03:=k3.at_ b02 (λ h=>h)
 go_wp2_with fail
 refine(of_3 w.heap.size X w3 F3 b03 HX.out).mono ?_
 rintro e w4 ⟨rfl,m4,hm4⟩
 have k4:Kp Ab w3 w4:=by rw[hm4];exact Kp.Aj _
 have t3:Sl (X/65536%16777216=ln):=⟨HLN.out⟩
 rw[t3.out]
 clear hm4
 have F4:=F3.Ad k4
 have b04:=k4.at_ b03 (λ h=>h)
 go_wp2_with fail
 refine(of_4 w.heap.size X w4 F4 b04 HX.out).mono ?_
 rintro e w5 ⟨rfl,m5,hm5⟩
 have k5:Kp Ab w4 w5:=by rw[hm5];exact Kp.Aj _
 have t4:Sl (X/1099511627776%16777216=sz):=⟨HSZ.out⟩
 rw[t4.out]
 clear hm5
 have F5:=F4.Ad k5
 have b05:=k5.at_ b04 (λ h=>h)
 have kw5:Kp Ab w w5:=((((kA.trans k2 (λ _ _ h=>h)).trans k3 (λ _ _ h=>h)).trans k4 (λ _ _ h=>h)).trans k5 (λ _ _ h=>h))
 have b15:=k5.at_ (k4.at_ (k3.at_ (k2.at_ b1 (λ h=>h)) (λ h=>h)) (λ h=>h)) (λ h=>h)
 clear b0 b1 b02 b03 b04
 go_wp2_with fail
 have F6:=F5.Ad ((Kr Ab w5).alloc (.cells #[.int .u8 (tg:Nat),.int .i64 (ty:Nat),.int .i64 (ln:Nat),.int .i64 (sz:Nat)] 52))
 have CK:=Dz (tg:Nat) (ty:Nat) (ln:Nat) (sz:Nat) _ F6
 have B5:=wN w5 (.cells #[.int .u8 (tg:Nat),.int .i64 (ty:Nat),.int .i64 (ln:Nat),.int .i64 (sz:Nat)] 52)
 have k6:=(Kr Ab w5).alloc (.cells #[.int .u8 (tg:Nat),.int .i64 (ty:Nat),.int .i64 (ln:Nat),.int .i64 (sz:Nat)] 52)
 unfold Ak at CK
 refine CK.mono ?_
 clear CK
 rintro e w7 ⟨rfl,k7⟩
 have K57:=k6.trans k7 (λ _ _ h=>h)
 have F7:=F5.Ad K57
 have b07:=K57.at_ b05 (λ h=>h)
 have b17:=K57.at_ b15 (λ h=>h)
 have B57:=k7.at_ B5 (λ h=>h)
 have KW:=kw5.trans K57 (λ _ _ h=>h)
 clear b05 b15 B5 F6 k6 k7
 cases hh:Am (tg:Nat) (ty:Nat) (ln:Nat) (sz:Nat) with
 |false=>
  have HH:=sE hh
  clear hh
  have d0:w7.cell? ⟨w.heap.size+1,0,none⟩=some (.int .u8 0):=by simp[World.cell?,b17]
  have d1:w7.cell? ⟨w.heap.size+1,1,none⟩=some (.int .i64 0):=by simp[World.cell?,b17]
  have d2:w7.cell? ⟨w.heap.size+1,2,none⟩=some (.int .i64 0):=by simp[World.cell?,b17]
  have d3:w7.cell? ⟨w.heap.size+1,3,none⟩=some (.int .i64 0):=by simp[World.cell?,b17]
  have g0:w7.cell? ⟨w5.heap.size,0,none⟩=some (.int .u8 (tg:Nat)):=by simp[World.cell?,B57]
  have g1:w7.cell? ⟨w5.heap.size,1,none⟩=some (.int .i64 (ty:Nat)):=by simp[World.cell?,B57]
  have g2:w7.cell? ⟨w5.heap.size,2,none⟩=some (.int .i64 (ln:Nat)):=by simp[World.cell?,B57]
  have g3:w7.cell? ⟨w5.heap.size,3,none⟩=some (.int .i64 (sz:Nat)):=by simp[World.cell?,B57]
  have f0:=Ae b17
  have f00:=f0 0
  have f01:=f0 1
  have f02:=f0 2
  have f03:=f0 3
  have HB:=sE b17
  clear f0
  clear b17 B57
  go_wp2
  obtain⟨wz,hwz⟩:∃ wz,wz=(((w7.setCell ⟨w.heap.size+1,0,none⟩ (.int .u8 0)).setCell ⟨w.heap.size+1,1,none⟩ (.int .i64 0)).setCell ⟨w.heap.size+1,2,none⟩ (.int .i64 0)).setCell ⟨w.heap.size+1,3,none⟩ (.int .i64 0):=⟨_,rfl⟩
  rw[<- hwz]
  have tz:wz.heap[w.heap.size+1]?=some (.cells #[.int .u8 0,.int .i64 0,.int .i64 0,.int .i64 0] 52 (0,0)):=by
   rw[hwz];exact bZ (bZ (bZ (bZ HB.out (j:=0) _) (j:=1) _) (j:=2) _) (j:=3) _
  have kz:Kp (λ i=>i=w.heap.size+1) w7 wz:=by rw[hwz];exact ((((Kr (λ i=>i=w.heap.size+1) w7).setCell (λ _=>rfl) _).setCell (λ _=>rfl) _).setCell (λ _=>rfl) _).setCell (λ _=>rfl) _
  clear hwz
  have e0:wz.cell? ⟨w.heap.size+1,0,none⟩=some (.int .u8 0):=by simp[World.cell?,tz]
  have e1:wz.cell? ⟨w.heap.size+1,1,none⟩=some (.int .i64 0):=by simp[World.cell?,tz]
  have e2:wz.cell? ⟨w.heap.size+1,2,none⟩=some (.int .i64 0):=by simp[World.cell?,tz]
  have e3:wz.cell? ⟨w.heap.size+1,3,none⟩=some (.int .i64 0):=by simp[World.cell?,tz]
  refine bodyPost_ret (v:=.tuple #[Ak 0 0 0 0,.int .i64 7]) ?_ rfl ⟨by rw[HH.out];rfl,KW.trans kz (λ i hi h=>by omega)⟩
  simp[results,results99,go_sem,e0,e1,e2,e3,Ak]
 |true=>
  have HH:=sE hh
  clear hh
  go_wp2_with fail
  refine(of_2 w.heap.size X w7 F7 b07 HX.out).mono ?_
  rintro e w8 ⟨rfl,m8,hm8⟩
  have k8:Kp Ab w7 w8:=by rw[hm8];exact Kp.Aj _
  have t8:Sl (X/16384%4=gp):=⟨HGP.out⟩
  rw[t8.out]
  clear hm8
  have b18:=k8.at_ b17 (λ h=>h)
  have B58:=k8.at_ B57 (λ h=>h)
  replace KW:=KW.trans k8 (λ _ _ h=>h)
  have d0:w8.cell? ⟨w.heap.size+1,0,none⟩=some (.int .u8 0):=by simp[World.cell?,b18]
  have d1:w8.cell? ⟨w.heap.size+1,1,none⟩=some (.int .i64 0):=by simp[World.cell?,b18]
  have d2:w8.cell? ⟨w.heap.size+1,2,none⟩=some (.int .i64 0):=by simp[World.cell?,b18]
  have d3:w8.cell? ⟨w.heap.size+1,3,none⟩=some (.int .i64 0):=by simp[World.cell?,b18]
  have g0:w8.cell? ⟨w5.heap.size,0,none⟩=some (.int .u8 (tg:Nat)):=by simp[World.cell?,B58]
  have g1:w8.cell? ⟨w5.heap.size,1,none⟩=some (.int .i64 (ty:Nat)):=by simp[World.cell?,B58]
  have g2:w8.cell? ⟨w5.heap.size,2,none⟩=some (.int .i64 (ln:Nat)):=by simp[World.cell?,B58]
  have g3:w8.cell? ⟨w5.heap.size,3,none⟩=some (.int .i64 (sz:Nat)):=by simp[World.cell?,B58]
  have f0:=Ae b18
  have f00:=f0 0
  have f01:=f0 1
  have f02:=f0 2
  have f03:=f0 3
  have HB:=sE b18
  clear f0
  clear b18 B58 b17 B57 b07
  by_cases hg:gp=0
  .subst hg
   go_wp2
   obtain⟨wz,hwz⟩:∃ wz,wz=(((w8.setCell ⟨w.heap.size+1,0,none⟩ (.int .u8 (tg:Nat))).setCell ⟨w.heap.size+1,1,none⟩ (.int .i64 (ty:Nat))).setCell ⟨w.heap.size+1,2,none⟩ (.int .i64 (ln:Nat))).setCell ⟨w.heap.size+1,3,none⟩ (.int .i64 (sz:Nat)):=⟨_,rfl⟩
   rw[<- hwz]
   have tz:wz.heap[w.heap.size+1]?=some (.cells #[.int .u8 (tg:Nat),.int .i64 (ty:Nat),.int .i64 (ln:Nat),.int .i64 (sz:Nat)] 52 (0,0)):=by
    rw[hwz];exact bZ (bZ (bZ (bZ HB.out (j:=0) _) (j:=1) _) (j:=2) _) (j:=3) _
   have kz:Kp (λ i=>i=w.heap.size+1) w8 wz:=by rw[hwz];exact ((((Kr (λ i=>i=w.heap.size+1) w8).setCell (λ _=>rfl) _).setCell (λ _=>rfl) _).setCell (λ _=>rfl) _).setCell (λ _=>rfl) _
   clear hwz
   have e0:wz.cell? ⟨w.heap.size+1,0,none⟩=some (.int .u8 (tg:Nat)):=by simp[World.cell?,tz]
   have e1:wz.cell? ⟨w.heap.size+1,1,none⟩=some (.int .i64 (ty:Nat)):=by simp[World.cell?,tz]
   have e2:wz.cell? ⟨w.heap.size+1,2,none⟩=some (.int .i64 (ln:Nat)):=by simp[World.cell?,tz]
   have e3:wz.cell? ⟨w.heap.size+1,3,none⟩=some (.int .i64 (sz:Nat)):=by simp[World.cell?,tz]
   refine bodyPost_ret (v:=.tuple #[Ak (tg:Nat) (ty:Nat) (ln:Nat) (sz:Nat),.int .i64 0]) ?_ rfl ⟨by rw[HH.out];rfl,KW.trans kz (λ i hi h=>by omega)⟩
   simp[results,results99,go_sem,e0,e1,e2,e3,Ak]
  .have hb:((gp:Int) !=0)=true:=by simp only[bne_iff_ne,ne_eq];omega
   have hgd:Sl (decide (gp=0)=false):=⟨dF hg⟩
   clear hg
   go_wp2
   obtain⟨wz,hwz⟩:∃ wz,wz=(((w8.setCell ⟨w.heap.size+1,0,none⟩ (.int .u8 0)).setCell ⟨w.heap.size+1,1,none⟩ (.int .i64 0)).setCell ⟨w.heap.size+1,2,none⟩ (.int .i64 0)).setCell ⟨w.heap.size+1,3,none⟩ (.int .i64 0):=⟨_,rfl⟩
   rw[<- hwz]
   have tz:wz.heap[w.heap.size+1]?=some (.cells #[.int .u8 0,.int .i64 0,.int .i64 0,.int .i64 0] 52 (0,0)):=by
    rw[hwz];exact bZ (bZ (bZ (bZ HB.out (j:=0) _) (j:=1) _) (j:=2) _) (j:=3) _
   have kz:Kp (λ i=>i=w.heap.size+1) w8 wz:=by rw[hwz];exact ((((Kr (λ i=>i=w.heap.size+1) w8).setCell (λ _=>rfl) _).setCell (λ _=>rfl) _).setCell (λ _=>rfl) _).setCell (λ _=>rfl) _
   clear hwz
   have e0:wz.cell? ⟨w.heap.size+1,0,none⟩=some (.int .u8 0):=by simp[World.cell?,tz]
   have e1:wz.cell? ⟨w.heap.size+1,1,none⟩=some (.int .i64 0):=by simp[World.cell?,tz]
   have e2:wz.cell? ⟨w.heap.size+1,2,none⟩=some (.int .i64 0):=by simp[World.cell?,tz]
   have e3:wz.cell? ⟨w.heap.size+1,3,none⟩=some (.int .i64 0):=by simp[World.cell?,tz]
   refine bodyPost_ret (v:=.tuple #[Ak 0 0 0 0,.int .i64 7]) ?_ rfl ⟨by rw[HH.out,hgd.out];rfl,KW.trans kz (λ i hi h=>by omega)⟩
   simp[results,results99,go_sem,e0,e1,e2,e3,Ak]

def AQ(ts:List TypR)(id n:Int):Int:=match typeOf ts id with
 |none=>3
 |some x=>AP x.k x.wds x.m n

def Bj(ts:List TypR)(id n:Int):Int:=match typeOf ts id with
 |none=>0
 |some x=>Fj x.k x.wds n

def EJ(ts:List TypR)(id n:Int)(w:World)(e:Ending)(w':World):Prop:=
 e=.returned (.tuple #[.int .i64 (if AQ ts id n=0 then Bj ts id n else 0),.int .i64 (AQ ts id n)])/\Kp Ab w w'

theorem TSize_none(id n:Int)(t q:Nat)(ts:List TypR)(w:World)(h:TableAt w t q ts)(hx:typeOf ts id=none):
  Calls prog 143 #[.pointer (some ⟨t,0,none⟩),.int .i64 id,.int .i64 n] w (EJ ts id n w):=by
 have CA:=Get_any id t q ts w h
 rw[hx] at CA
 have HC:=sE CA
 have HE:Sl (AQ ts id n=3):=⟨by rw[AQ,hx]⟩
 clear CA hx
 go_enter func143,ntmps143
 go_wp2_with fail
 refine HC.out.mono ?_
 rintro e w2 ⟨rfl,k2⟩
 dsimp only[AB,Option.isSome_some,Option.isSome_none]
 go_wp2
 exact bodyPost_ret (v:=.tuple #[.int .i64 0,.int .i64 3]) (by simp[results,results143,go_sem]) rfl ⟨by rw[HE.out];rfl,k2.alloc _⟩

theorem TSize_some(id n:Int)(t q:Nat)(ts:List TypR)(k wds:Int)(m:Nat)(w:World)(h:TableAt w t q ts)(hx:typeOf ts id=some ⟨k,wds,m⟩):
  Calls prog 143 #[.pointer (some ⟨t,0,none⟩),.int .i64 id,.int .i64 n] w (EJ ts id n w):=by
 have CA:=Get_any id t q ts w h
 rw[hx] at CA
 have HC:=sE CA
 have HE:Sl (AQ ts id n=AP k wds m n):=⟨by rw[AQ,hx]⟩
 have HS:Sl (Bj ts id n=Fj k wds n):=⟨by rw[Bj,hx]⟩
 have CK:=λ w=>KSize_any k wds m n w
 unfold AB at CK
 have HK:=sE CK
 clear CA hx CK
 go_enter func143,ntmps143
 go_wp2_with fail
 refine HC.out.mono ?_
 rintro e w2 ⟨rfl,k2⟩
 dsimp only[AB,Option.isSome_some,Option.isSome_none]
 go_wp2_with fail
 refine(HK.out _).mono ?_
 rintro e w3 ⟨rfl,k3⟩
 obtain⟨S,hS⟩:∃ S,(if AP k wds m n=0 then Fj k wds n else 0)=S:=⟨_,rfl⟩
 obtain⟨E,hE⟩:∃ E,AP k wds m n=E:=⟨_,rfl⟩
 have H1:=sE hS
 have H2:=sE hE
 rw[hS,hE]
 clear hS hE
 go_wp2
 exact bodyPost_ret (v:=.tuple #[.int .i64 S,.int .i64 E]) (by simp[results,results143,go_sem]) rfl ⟨by rw[HE.out,HS.out,H1.out,H2.out],(k2.alloc _).then' k3⟩

theorem TSize_any(id n:Int)(t q:Nat)(ts:List TypR)(w:World)(h:TableAt w t q ts):
  Calls prog 143 #[.pointer (some ⟨t,0,none⟩),.int .i64 id,.int .i64 n] w (EJ ts id n w):=by
 cases hx:typeOf ts id with
 |none=>exact TSize_none id n t q ts w h hx
 |some x=>
  obtain⟨k,wds,m⟩:=x
  exact TSize_some id n t q ts k wds m w h hx

def BF(ts:List TypR)(id n:Int)(w:World)(e:Ending)(w':World):Prop:=
 e=.returned (.tuple #[if AQ ts id n=0 then Ak 1 id n (Bj ts id n) else Ak 0 0 0 0,.int .i64 (AQ ts id n)])/\Kp Ab w w'

theorem EB(id n:Int)(t q:Nat)(ts:List TypR)(w:World)(h:TableAt w t q ts):
  Calls prog 102 #[.pointer (some ⟨t,0,none⟩),.int .i64 id,.int .i64 n] w (BF ts id n w):=by
 obtain⟨w1,hw1⟩:∃ w1,w1=w.alloc (.cells #[.int .u8 0,.int .i64 0,.int .i64 0,.int .i64 0] 52):=⟨_,rfl⟩
 have kA:Kp Ab w w1:=by rw[hw1];exact (Kr _ w).alloc _
 have b0:w1.heap[w.heap.size]?=some (.cells #[.int .u8 0,.int .i64 0,.int .i64 0,.int .i64 0] 52 (0,0)):=by rw[hw1];exact wN w _
 have HC:=sE (TSize_any id n t q ts w1 (h.Ad kA))
 go_enter func102,ntmps102
 go_wp2_with fail
 rw[<- hw1]
 clear hw1
 refine HC.out.mono ?_
 rintro e w2 ⟨rfl,k2⟩
 have B0:=k2.at_ b0 (λ h=>h)
 have d0:w2.cell? ⟨w.heap.size,0,none⟩=some (.int .u8 0):=by simp[World.cell?,B0]
 have d1:w2.cell? ⟨w.heap.size,1,none⟩=some (.int .i64 0):=by simp[World.cell?,B0]
 have d2:w2.cell? ⟨w.heap.size,2,none⟩=some (.int .i64 0):=by simp[World.cell?,B0]
 have d3:w2.cell? ⟨w.heap.size,3,none⟩=some (.int .i64 0):=by simp[World.cell?,B0]
 have f0:=Ae B0
 have f00:=f0 0
 have f01:=f0 1
 have f02:=f0 2
 have f03:=f0 3
 have KW:=kA.then' k2
 have HB:=sE B0
 clear b0 B0 f0 HC
 obtain⟨E,hE⟩:∃ E,AQ ts id n=E:=⟨_,rfl⟩
 obtain⟨S,hS⟩:∃ S,Bj ts id n=S:=⟨_,rfl⟩
 have H1:=sE hE
 have H2:=sE hS
 rw[hE,hS]
 clear hE hS
 by_cases h0:E=0
 .subst h0
  rw[if_pos rfl]
  go_wp2
  obtain⟨wz,hwz⟩:∃ wz,wz=(((w2.setCell ⟨w.heap.size,0,none⟩ (.int .u8 1)).setCell ⟨w.heap.size,1,none⟩ (.int .i64 id)).setCell ⟨w.heap.size,2,none⟩ (.int .i64 n)).setCell ⟨w.heap.size,3,none⟩ (.int .i64 S):=⟨_,rfl⟩
  rw[<- hwz]
  have tz:wz.heap[w.heap.size]?=some (.cells #[.int .u8 1,.int .i64 id,.int .i64 n,.int .i64 S] 52 (0,0)):=by
   rw[hwz];exact bZ (bZ (bZ (bZ HB.out (j:=0) _) (j:=1) _) (j:=2) _) (j:=3) _
  have kz:Kp (λ i=>i=w.heap.size) w2 wz:=by rw[hwz];exact ((((Kr (λ i=>i=w.heap.size) w2).setCell (λ _=>rfl) _).setCell (λ _=>rfl) _).setCell (λ _=>rfl) _).setCell (λ _=>rfl) _
  clear hwz
  have e0:wz.cell? ⟨w.heap.size,0,none⟩=some (.int .u8 1):=by simp[World.cell?,tz]
  have e1:wz.cell? ⟨w.heap.size,1,none⟩=some (.int .i64 id):=by simp[World.cell?,tz]
  have e2:wz.cell? ⟨w.heap.size,2,none⟩=some (.int .i64 n):=by simp[World.cell?,tz]
  have e3:wz.cell? ⟨w.heap.size,3,none⟩=some (.int .i64 S):=by simp[World.cell?,tz]
  refine bodyPost_ret (v:=.tuple #[Ak 1 id n S,.int .i64 0]) (by simp[results,results102,go_sem,e0,e1,e2,e3,Ak]) rfl ⟨by rw[H1.out,H2.out];rfl,KW.trans kz (λ i hi h=>by omega)⟩
 .have hb:(E !=0)=true:=by simpa using h0
  rw[if_neg h0]
  have H0:=sE h0
  clear h0
  go_wp2
  obtain⟨wz,hwz⟩:∃ wz,wz=(((w2.setCell ⟨w.heap.size,0,none⟩ (.int .u8 0)).setCell ⟨w.heap.size,1,none⟩ (.int .i64 0)).setCell ⟨w.heap.size,2,none⟩ (.int .i64 0)).setCell ⟨w.heap.size,3,none⟩ (.int .i64 0):=⟨_,rfl⟩
  rw[<- hwz]
  have tz:wz.heap[w.heap.size]?=some (.cells #[.int .u8 0,.int .i64 0,.int .i64 0,.int .i64 0] 52 (0,0)):=by
   rw[hwz];exact bZ (bZ (bZ (bZ HB.out (j:=0) _) (j:=1) _) (j:=2) _) (j:=3) _
  have kz:Kp (λ i=>i=w.heap.size) w2 wz:=by rw[hwz];exact ((((Kr (λ i=>i=w.heap.size) w2).setCell (λ _=>rfl) _).setCell (λ _=>rfl) _).setCell (λ _=>rfl) _).setCell (λ _=>rfl) _
  clear hwz
  have e0:wz.cell? ⟨w.heap.size,0,none⟩=some (.int .u8 0):=by simp[World.cell?,tz]
  have e1:wz.cell? ⟨w.heap.size,1,none⟩=some (.int .i64 0):=by simp[World.cell?,tz]
  have e2:wz.cell? ⟨w.heap.size,2,none⟩=some (.int .i64 0):=by simp[World.cell?,tz]
  have e3:wz.cell? ⟨w.heap.size,3,none⟩=some (.int .i64 0):=by simp[World.cell?,tz]
  refine bodyPost_ret (v:=.tuple #[Ak 0 0 0 0,.int .i64 E]) (by simp[results,results102,go_sem,e0,e1,e2,e3,Ak]) rfl ⟨by rw[H1.out,if_neg H0.out],KW.trans kz (λ i hi h=>by omega)⟩

theorem Gap_yes(tag:Int)(sz:Nat)(w:World)(hF:Aq w)(ht:tag=2\/tag=3)(h1:1<=sz)(h2:sz<=65536):
  Calls prog 163 #[.int .u8 tag,.int .i64 (sz:Nat)] w λ e w'=>e=.returned (.tuple #[Ak tag 0 0 (sz:Nat),.int .i64 0])/\Kp Ab w w':=by
 have hok:Am tag 0 0 (sz:Nat)=true:=by simp[Am];omega
 have t1:¬ tag=1:=by omega
 have tb:(tag==1)=false:=by simpa using t1
 obtain⟨w1,hw1⟩:∃ w1,w1=(w.alloc (.cells #[.int .u8 0,.int .i64 0,.int .i64 0,.int .i64 0] 52)).alloc (.cells #[.int .u8 tag,.int .i64 0,.int .i64 0,.int .i64 (sz:Nat)] 52):=⟨_,rfl⟩
 have kA:Kp Ab w w1:=by rw[hw1];exact ((Kr _ w).alloc _).alloc _
 have b0:w1.heap[w.heap.size]?=some (.cells #[.int .u8 0,.int .i64 0,.int .i64 0,.int .i64 0] 52 (0,0)):=by
  rw[hw1];exact ((Kr Ab _).alloc _).at_ (wN w _) (λ h=>h)
 have b1:w1.heap[w.heap.size+1]?=some (.cells #[.int .u8 tag,.int .i64 0,.int .i64 0,.int .i64 (sz:Nat)] 52 (0,0)):=by
  rw[hw1];have:=wN (w.alloc (.cells #[.int .u8 0,.int .i64 0,.int .i64 0,.int .i64 0] 52)) (.cells #[.int .u8 tag,.int .i64 0,.int .i64 0,.int .i64 (sz:Nat)] 52);rwa [World.size_alloc] at this
 have CK:=Dz tag 0 0 (sz:Nat) w1 (hF.Ad kA)
 rw[hok] at CK
 unfold Ak at CK
 have HC:=sE CK
 clear CK hok
 go_enter func163,ntmps163
 go_wp2_with fail
 rw[<- hw1]
 clear hw1
 refine HC.out.mono ?_
 rintro e w2 ⟨rfl,k2⟩
 rw[show errV true=0 from rfl]
 have B0:=k2.at_ b0 (λ h=>h)
 have B1:=k2.at_ b1 (λ h=>h)
 have d0:w2.cell? ⟨w.heap.size,0,none⟩=some (.int .u8 0):=by simp[World.cell?,B0]
 have d1:w2.cell? ⟨w.heap.size,1,none⟩=some (.int .i64 0):=by simp[World.cell?,B0]
 have d2:w2.cell? ⟨w.heap.size,2,none⟩=some (.int .i64 0):=by simp[World.cell?,B0]
 have d3:w2.cell? ⟨w.heap.size,3,none⟩=some (.int .i64 0):=by simp[World.cell?,B0]
 have g0:w2.cell? ⟨w.heap.size+1,0,none⟩=some (.int .u8 tag):=by simp[World.cell?,B1]
 have g1:w2.cell? ⟨w.heap.size+1,1,none⟩=some (.int .i64 0):=by simp[World.cell?,B1]
 have g2:w2.cell? ⟨w.heap.size+1,2,none⟩=some (.int .i64 0):=by simp[World.cell?,B1]
 have g3:w2.cell? ⟨w.heap.size+1,3,none⟩=some (.int .i64 (sz:Nat)):=by simp[World.cell?,B1]
 have f0:=Ae B0
 have f00:=f0 0
 have f01:=f0 1
 have f02:=f0 2
 have f03:=f0 3
 have KW:=kA.then' k2
 have HB:=sE B0
 clear b0 B0 f0 HC b1 B1
 go_wp2
 obtain⟨wz,hwz⟩:∃ wz,wz=(((w2.setCell ⟨w.heap.size,0,none⟩ (.int .u8 tag)).setCell ⟨w.heap.size,1,none⟩ (.int .i64 0)).setCell ⟨w.heap.size,2,none⟩ (.int .i64 0)).setCell ⟨w.heap.size,3,none⟩ (.int .i64 (sz:Nat)):=⟨_,rfl⟩
 rw[<- hwz]
 have tz:wz.heap[w.heap.size]?=some (.cells #[.int .u8 tag,.int .i64 0,.int .i64 0,.int .i64 (sz:Nat)] 52 (0,0)):=by
  rw[hwz];exact bZ (bZ (bZ (bZ HB.out (j:=0) _) (j:=1) _) (j:=2) _) (j:=3) _
 have kz:Kp (λ i=>i=w.heap.size) w2 wz:=by rw[hwz];exact ((((Kr (λ i=>i=w.heap.size) w2).setCell (λ _=>rfl) _).setCell (λ _=>rfl) _).setCell (λ _=>rfl) _).setCell (λ _=>rfl) _
 clear hwz
 have e0:wz.cell? ⟨w.heap.size,0,none⟩=some (.int .u8 tag):=by simp[World.cell?,tz]
 have e1:wz.cell? ⟨w.heap.size,1,none⟩=some (.int .i64 0):=by simp[World.cell?,tz]
 have e2:wz.cell? ⟨w.heap.size,2,none⟩=some (.int .i64 0):=by simp[World.cell?,tz]
 have e3:wz.cell? ⟨w.heap.size,3,none⟩=some (.int .i64 (sz:Nat)):=by simp[World.cell?,tz]
 refine bodyPost_ret (v:=.tuple #[Ak tag 0 0 (sz:Nat),.int .i64 0]) (by simp[results,results163,go_sem,e0,e1,e2,e3,Ak]) rfl ⟨rfl,KW.trans kz (λ i hi h=>by omega)⟩

theorem run_eq_head(a b c d a' b' c' d':Int)(w:World):(Op.equalIn 10000 52 (Ak a b c d) (Ak a' b' c' d')).run prog w=.ok (a==a'&&(b==b'&&(c==c'&&d==d'))) w:=by
 have u3:=underlying3
 have a3:=isAgg3
 have z3:=sizeOf3
 have u5:=underlying5
 have a5:=isAgg5
 have z5:=sizeOf5
 have hS:prog.underlying 52=some (.struct (prog.fieldsOf 52)):=by kernel_rfl
 unfold Ak
 rw[show (10000:Nat)=9999+1 from rfl,run_equalIn_agg w 9999 52 _ _ hS (by kernel_rfl)]
 simp only[Program.fieldsOf,underlying52]
 go_simp
 by_cases h1:a=a' <;> by_cases h2:b=b' <;> by_cases h3:c=c' <;> by_cases h4:d=d' <;> simp[h1,h2,h3,h4]

theorem EF(a b c d a' b' c' d':Int)(w:World):(binOp .neq 52 (.agg #[.int .u8 a,.int .i64 b,.int .i64 c,.int .i64 d]) (.agg #[.int .u8 a',.int .i64 b',.int .i64 c',.int .i64 d'])).run prog w=.ok (.bool (!(a==a'&&(b==b'&&(c==c'&&d==d'))))) w:=by
 have h:=run_eq_head a b c d a' b' c' d' w
 unfold Ak at h
 rw[run_neq_struct,h];rfl

attribute [local go_sem ↓] EF

theorem Fits_gap(tag ty ln sz:Int)(tt:Value)(w:World)(hF:Aq w)(h:Am tag ty ln sz=true)(ht:¬ tag=1):
  Calls prog 51 #[tt,Ak tag ty ln sz] w λ e w'=>e=.returned (.int .i64 0)/\Kp Ab w w':=by
 have kA:=(Kr Ab w).alloc (.cells #[.int .u8 tag,.int .i64 ty,.int .i64 ln,.int .i64 sz] 52)
 have b0:=wN w (.cells #[.int .u8 tag,.int .i64 ty,.int .i64 ln,.int .i64 sz] 52)
 have CK:=Dz tag ty ln sz _ (hF.Ad kA)
 rw[h] at CK
 unfold Ak at CK ⊢
 have HC:=sE CK
 have hb:(tag !=1)=true:=by simpa using ht
 clear CK h
 go_enter func51,ntmps51
 go_wp2_with fail
 refine HC.out.mono ?_
 rintro e w2 ⟨rfl,k2⟩
 have B0:=k2.at_ b0 (λ h=>h)
 have d0:w2.cell? ⟨w.heap.size,0,none⟩=some (.int .u8 tag):=by simp[World.cell?,B0]
 have KW:=kA.then' k2
 clear b0 B0 HC
 go_wp2
 go_ret
 exact⟨rfl,KW⟩

theorem Fits_obj(ty ln sz:Int)(t q:Nat)(ts:List TypR)(w:World)(hF:Aq w)(hT:TableAt w t q ts)(h:Am 1 ty ln sz=true)(he:AQ ts ty ln=0)(hs:Bj ts ty ln=sz):
  Calls prog 51 #[.pointer (some ⟨t,0,none⟩),Ak 1 ty ln sz] w λ e w'=>e=.returned (.int .i64 0)/\Kp Ab w w':=by
 have kA:=(Kr Ab w).alloc (.cells #[.int .u8 1,.int .i64 ty,.int .i64 ln,.int .i64 sz] 52)
 have b0:=wN w (.cells #[.int .u8 1,.int .i64 ty,.int .i64 ln,.int .i64 sz] 52)
 have CK:=Dz 1 ty ln sz _ (hF.Ad kA)
 rw[h] at CK
 have CO:∀ W,Kp Ab w W->Calls prog 102 #[.pointer (some ⟨t,0,none⟩),.int .i64 ty,.int .i64 ln] W λ e w'=>e=.returned (.tuple #[Ak 1 ty ln sz,.int .i64 0])/\Kp Ab W w':=λ W k=>
  (EB ty ln t q ts W (hT.Ad k)).mono λ e w' hp=>by rw[BF,he,if_pos rfl,hs] at hp;exact hp
 unfold Ak at CK CO ⊢
 have HC:=sE CK
 have HO:=sE CO
 clear CK CO h he hs
 go_enter func51,ntmps51
 go_wp2_with fail
 refine HC.out.mono ?_
 rintro e w2 ⟨rfl,k2⟩
 have B0:=k2.at_ b0 (λ h=>h)
 have d0:w2.cell? ⟨w.heap.size,0,none⟩=some (.int .u8 1):=by simp[World.cell?,B0]
 have d1:w2.cell? ⟨w.heap.size,1,none⟩=some (.int .i64 ty):=by simp[World.cell?,B0]
 have d2:w2.cell? ⟨w.heap.size,2,none⟩=some (.int .i64 ln):=by simp[World.cell?,B0]
 have KW:=kA.then' k2
 clear b0 HC
 go_wp2_with fail
 refine(HO.out _ KW).mono ?_
 rintro e w3 ⟨rfl,k3⟩
 have B3:=k3.at_ B0 (λ h=>h)
 have hl3:=lZ B3
 have c0:w3.cell? ⟨w.heap.size,0,none⟩=some (.int .u8 1):=by simp[World.cell?,B3]
 have c1:w3.cell? ⟨w.heap.size,1,none⟩=some (.int .i64 ty):=by simp[World.cell?,B3]
 have c2:w3.cell? ⟨w.heap.size,2,none⟩=some (.int .i64 ln):=by simp[World.cell?,B3]
 have c3:w3.cell? ⟨w.heap.size,3,none⟩=some (.int .i64 sz):=by simp[World.cell?,B3]
 clear d0 d1 d2 B0 B3
 go_wp2
 go_ret
 exact⟨rfl,(KW.then' k3).alloc _⟩

end

section
open Go.RowKit

structure ArenaAt(w:World)(a q:Nat)(W:Nat->Nat)(n:Nat):Prop where
 ha:∃ cap c,w.heap[a]?=some (.cells #[.slice (some ⟨q,0,none⟩) n cap,.int .u64 c] 173 (0,0))/\n<=cap
 hq:∃ cs,w.heap[q]?=some (.cells cs 55 (0,0))/\n<=cs.size/\∀ j,j<n->cs[j]?=some (.int .u64 (W j:Nat))
 small:n<=65536
 fits:∀ j,j<n->W j<18446744073709551616

theorem ArenaAt.keep{S:Nat->Prop}{w w':World}{a q n:Nat}{W:Nat->Nat}(h:ArenaAt w a q W n)(k:Kp S w w')(ha:¬ S a)(hq:¬ S q):ArenaAt w' a q W n:=by
 obtain⟨cap,c,h1,hcp⟩:=h.ha
 obtain⟨cs,h2,h3,h4⟩:=h.hq
 exact⟨⟨cap,c,k.at_ h1 ha,hcp⟩,⟨cs,k.at_ h2 hq,h3,h4⟩,h.small,h.fits⟩

theorem ArenaAt.Ad{w w':World}{a q n:Nat}{W:Nat->Nat}(h:ArenaAt w a q W n)(k:Kp Ab w w'):ArenaAt w' a q W n:=h.keep k (λ h=>h) (λ h=>h)

theorem ArenaAt.lt_a{w:World}{a q n:Nat}{W:Nat->Nat}(h:ArenaAt w a q W n):a<w.heap.size:=by obtain⟨_,_,h,_⟩:=h.ha;exact lZ h

theorem ArenaAt.lt_q{w:World}{a q n:Nat}{W:Nat->Nat}(h:ArenaAt w a q W n):q<w.heap.size:=by obtain⟨_,h,_⟩:=h.hq;exact lZ h

theorem ArenaAt.head{w:World}{a q n:Nat}{W:Nat->Nat}(h:ArenaAt w a q W n):∃ cap c,w.cell? ⟨a,0,none⟩=some (.slice (some ⟨q,0,none⟩) n cap)/\w.cell? ⟨a,1,none⟩=some (.int .u64 c):=by
 obtain⟨cap,c,h1,_⟩:=h.ha
 exact⟨cap,c,by simp[World.cell?,h1],by simp[World.cell?,h1]⟩

theorem ArenaAt.headC{w:World}{a q n:Nat}{W:Nat->Nat}(h:ArenaAt w a q W n):∃ cap c,w.cell? ⟨a,0,none⟩=some (.slice (some ⟨q,0,none⟩) n cap)/\w.cell? ⟨a,1,none⟩=some (.int .u64 c)/\n<=cap:=by
 obtain⟨cap,c,h1,h2⟩:=h.ha
 exact⟨cap,c,by simp[World.cell?,h1],by simp[World.cell?,h1],h2⟩

theorem ArenaAt.ne{w:World}{a q n:Nat}{W:Nat->Nat}(h:ArenaAt w a q W n):a≠q:=by
 obtain⟨_,_,h1,_⟩:=h.ha
 obtain⟨_,h2,_⟩:=h.hq
 intro e
 subst e
 rw[h1] at h2
 injection h2 with h2
 injection h2 with _ h3
 exact absurd h3 (by decide)

theorem ArenaAt.at_{w:World}{a q n:Nat}{W:Nat->Nat}(h:ArenaAt w a q W n){j:Nat}(hj:j<n):w.cell? ⟨q,j,none⟩=some (.int .u64 (W j:Nat)):=by
 obtain⟨cs,h2,h3,h4⟩:=h.hq
 simp only[World.cell?,h2]
 exact h4 j hj

theorem ArenaAt.free{w:World}{a q n:Nat}{W:Nat->Nat}(h:ArenaAt w a q W n)(j:Nat):w.frozen? ⟨q,j,none⟩=false:=by
 obtain⟨cs,h2,h3,h4⟩:=h.hq
 exact Ae h2 j

theorem ArenaAt.freeA{w:World}{a q n:Nat}{W:Nat->Nat}(h:ArenaAt w a q W n)(j:Nat):w.frozen? ⟨a,j,none⟩=false:=by
 obtain⟨cap,c,h1,_⟩:=h.ha
 exact Ae h1 j

def Ca(W:Nat->Nat)(j z:Nat)(i:Nat):Nat:=if i=j then z else W i

theorem ArenaAt.store{w:World}{a q n:Nat}{W:Nat->Nat}(h:ArenaAt w a q W n){j:Nat}(hj:j<n)(z:Nat)(hz:z<18446744073709551616):ArenaAt (w.setCell ⟨q,j,none⟩ (.int .u64 (z:Nat))) a q (Ca W j z) n:=by
 obtain⟨cap,c,h1,hcp⟩:=h.ha
 obtain⟨cs,h2,h3,h4⟩:=h.hq
 refine⟨⟨cap,c,(Below.heap_setCell _ _ _ _ h.ne).trans h1,hcp⟩,⟨_,bZ h2 _,by simpa using h3,λ i hi=>?_⟩,h.small,λ i hi=>?_⟩
 .rw [Array.getElem?_setIfInBounds,Ca]
  by_cases e:j=i
  .subst e
   rw[if_pos rfl,if_pos (by omega),if_pos rfl]
  .rw [if_neg e,if_neg (by omega)]
   exact h4 i hi
 .rw [Ca];split
  .exact hz
  .exact h.fits i hi

theorem ArenaAt.count{w:World}{a q n:Nat}{W:Nat->Nat}(h:ArenaAt w a q W n)(z:Int):ArenaAt (w.setCell ⟨a,1,none⟩ (.int .u64 z)) a q W n:=by
 obtain⟨cap,c,h1,hcp⟩:=h.ha
 obtain⟨cs,h2,h3,h4⟩:=h.hq
 exact⟨⟨cap,z,by rw[bZ h1 _];rfl,hcp⟩,⟨cs,(Below.heap_setCell _ _ _ _ h.ne.symm).trans h2,h3,h4⟩,h.small,h.fits⟩

theorem ALen_at(a q n:Nat)(W:Nat->Nat)(w:World)(h:ArenaAt w a q W n):Calls prog 59 #[.pointer (some ⟨a,0,none⟩)] w λ e w'=>e=.returned (.int .i64 (n:Nat))/\w=w':=by
 obtain⟨cap,c,h0,h1⟩:=h.head
 go_enter func59,ntmps59
 go_wp2
 go_ret
 exact⟨rfl,rfl⟩

theorem Ahas_any(i k:Int)(a q n:Nat)(W:Nat->Nat)(w:World)(h:ArenaAt w a q W n):
  Calls prog 105 #[.pointer (some ⟨a,0,none⟩),.int .i64 i,.int .i64 k] w λ e w'=>e=.returned (.int .i64 (errV (Bq n i k)))/\w=w':=by
 obtain⟨cap,c,hc,-⟩:=h.head
 have hn:=h.small
 by_cases h1:0<=i
 .by_cases h2:0<=k
  .by_cases h3:i<=n
   .have hok:Sl (Bq n i k=decide (k<=(n:Int)-i)):=⟨by simp[Bq,h1,h2,h3]⟩
    by_cases h4:k<=(n:Int)-i
    .go_enter func105,ntmps105
     go_wp2
     go_ret
     exact⟨by rw[hok.out,dT h4];rfl,rfl⟩
    .go_enter func105,ntmps105
     go_wp2
     go_ret
     exact⟨by rw[hok.out,dF (by omega)];rfl,rfl⟩
   .have hok:Sl (Bq n i k=false):=⟨by simp[Bq,h3]⟩
    go_enter func105,ntmps105
    go_wp2
    go_ret
    exact⟨by rw[hok.out];rfl,rfl⟩
  .have hok:Sl (Bq n i k=false):=⟨by simp[Bq,h2]⟩
   go_enter func105,ntmps105
   go_wp2
   go_ret
   exact⟨by rw[hok.out];rfl,rfl⟩
 .have hok:Sl (Bq n i k=false):=⟨by simp[Bq,h1]⟩
  go_enter func105,ntmps105
  go_wp2
  go_ret
  exact⟨by rw[hok.out];rfl,rfl⟩

theorem ok_one_nat{n i:Nat}(h:i<n):Bq n (i:Nat) 1=true:=by simp[Bq];omega

theorem ALoad_yes(i:Nat)(a q n:Nat)(W:Nat->Nat)(w:World)(h:ArenaAt w a q W n)(hi:i<n):
  Calls prog 55 #[.pointer (some ⟨a,0,none⟩),.int .i64 (i:Nat)] w λ e w'=>e=.returned (.tuple #[.int .u64 (W i:Nat),.int .i64 0])/\w=w':=by
 obtain⟨cap,c,hc,-⟩:=h.head
 have hx:=h.at_ hi
 have hn:=h.small
 have hi':(i:Int)<n:=by omega
 go_enter func55,ntmps55
 go_wp2_with fail
 refine(Ahas_any i 1 a q n W w h).mono ?_
 rintro e w' ⟨rfl,rfl⟩
 rw[ok_one_nat hi]
 go_wp2
 go_ret2
 exact⟨rfl,rfl⟩

def Stored(w:World)(a q n:Nat)(W:Nat->Nat)(e:Ending)(w':World):Prop:=e=.returned (.int .i64 0)/\Kp (λ b=>b=a\/b=q) w w'/\ArenaAt w' a q W n

theorem AStore_yes(i z:Nat)(a q n:Nat)(W:Nat->Nat)(w:World)(h:ArenaAt w a q W n)(hi:i<n)(hz:z<18446744073709551616):
  Calls prog 113 #[.pointer (some ⟨a,0,none⟩),.int .i64 (i:Nat),.int .u64 (z:Nat)] w (Stored w a q n (Ca W i z)):=by
 obtain⟨cap,c,hc,hc1⟩:=h.head
 have hx:=h.at_ hi
 have hfr:=h.free i
 have hfa:=h.freeA 1
 have hn:=h.small
 have hi':(i:Int)<n:=by omega
 have hne:=h.ne
 have hne':¬ q=a:=λ e=>hne e.symm
 have h2:=h.store hi z hz
 have hc2:=((Kr (λ b=>b=q) w).setCell (p:=⟨q,i,none⟩) (λ _=>rfl) (.int .u64 (z:Nat))).cell hc1 hne
 have hfa2:=h2.freeA 1
 have H2:=sE h2
 clear h2
 go_enter func113,ntmps113
 go_wp2_with fail
 refine(Ahas_any i 1 a q n W w h).mono ?_
 rintro e w' ⟨rfl,rfl⟩
 rw[ok_one_nat hi]
 go_wp2
 exact bodyPost_ret (v:=.int .i64 0) (by simp[results,results113,go_sem]) rfl ⟨rfl,((Kr _ w).setCell (λ _=>.inr rfl) _).setCell (λ _=>.inl rfl) _,H2.out.count _⟩

def fillW(W:Nat->Nat)(i k z:Nat)(j:Nat):Nat:=if i<=j/\j<i+k then z else W j

theorem fillW_zero(W:Nat->Nat)(i z:Nat):fillW W i 0 z=W:=by funext j;rw [fillW,if_neg (by omega)]

theorem fillW_succ(W:Nat->Nat)(i k z:Nat):Ca (fillW W i k z) (i+k) z=fillW W i (k+1) z:=by
 funext j
 simp only[Ca,fillW]
 by_cases h:j=i+k
 .rw [if_pos h,if_pos (by omega)]
 .rw [if_neg h]
  by_cases h2:i<=j/\j<i+k
  .rw [if_pos h2,if_pos (by omega)]
  .rw [if_neg h2,if_neg (by omega)]

theorem AFill_yes(i k z:Nat)(a q n:Nat)(W:Nat->Nat)(w:World)(h:ArenaAt w a q W n)(hi:i+k<=n)(hz:z<18446744073709551616):
  Calls prog 167 #[.pointer (some ⟨a,0,none⟩),.int .i64 (i:Nat),.int .i64 (k:Nat),.int .u64 (z:Nat)] w (Stored w a q n (fillW W i k z)):=by
 have hn:=h.small
 have hok:Bq n (i:Nat) (k:Nat)=true:=by simp[Bq];omega
 have HO:=sE hok
 have HZ:=sE hz
 clear hok hz
 go_enter func167,ntmps167
 go_wp2_with fail
 refine(Ahas_any i k a q n W w h).mono ?_
 rintro e w' ⟨rfl,rfl⟩
 rw[HO.out]
 go_wp2_with fail
 go_loopw [19] (λ y wr=>∃ j:Nat,j<=k/\y=.int .i64 (j:Nat)/\ArenaAt wr a q (fillW W i j z) n/\Kp (λ b=>b=a\/b=q) w wr) (λ y _=>k-(intOf y).toNat)
 case atStart=>exact ⟨0,by omega,rfl,by rw[fillW_zero];exact h,Kr _ _⟩
 case round=>
  obtain⟨j,hj,rfl,hr,hk⟩:=hrel
  obtain⟨cap,c,hc,hc1⟩:=hr.head
  by_cases hjk:j<k
  .have hjk':(j:Int)<k:=by omega
   have hx:=hr.at_ (show i+j<n by omega)
   have hfr:=hr.free (i+j)
   have hst:=hr.store (show i+j<n by omega) z HZ.out
   rw[fillW_succ] at hst
   have HST:=sE hst
   obtain⟨x0,hx0⟩:∃ x,x=fillW W i j z (i+j):=⟨_,rfl⟩
   rw[<- hx0] at hx
   clear hst hx0
   go_wp2
   exact⟨⟨j+1,by omega,by go_num,HST.out,hk.setCell (λ _=>.inr rfl) _⟩,by simp only[intOf];omega⟩
  .have hjk':¬ (j:Int)<k:=by omega
   obtain rfl:j=k:=by omega
   have hfa:=hr.freeA 1
   go_wp2
   exact bodyPost_ret (v:=.int .i64 0) (by simp[results,results167,go_sem]) rfl ⟨rfl,hk.setCell (λ _=>.inl rfl) _,hr.count _⟩

def MadeArena(w:World)(n:Nat)(e:Ending)(w':World):Prop:=
 ∃ a q,e=.returned (.tuple #[.pointer (some ⟨a,0,none⟩),.int .i64 0])/\w.heap.size<=a/\w.heap.size<=q/\ArenaAt w' a q (λ _=>0) n/\Kp Ab w w'

def Du(n:Int):Bool:=decide (16<=n/\n<=65536/\n%2=0)

theorem underlyingU64s:prog.underlying 135=some (.slice 55):=by kernel_rfl

theorem infoU64:(prog.info? 55).map (λ i=>(i.zero,i.size,i.bytes))=some (some (.int .u64 0),1,8):=by kernel_rfl

theorem ANew_yes(n:Nat)(w:World)(h1:16<=n)(h2:n<=65536)(h3:n%2=0):Calls prog 125 #[.int .i64 (n:Nat)] w (MadeArena w n):=by
 have h3':(n:Int)%2=0:=by omega
 go_enter func125,ntmps125
 go_wp2_with (at_make;obtain ⟨i0,hi,hz0,hz1,hz2⟩:=info_parts infoU64;go_loud (refine wpList_make_full _ rfl (.tmp 15) (.tmp 15) 135 rfl w.heap.size 55 i0 (.int .u64 0) 1 underlyingU64s hi hz0 hz1 .i64 .i64 n n n rfl rfl rfl rfl (by rw[hz2];omega) (by unfold maxLen;omega) (Nat.le_refl _) ?_);intro w1 hown hgrow;clear hi hz0 hz1 hz2)
 have hk:Kp Ab w w1:=(Kr Ab w).grown hgrow (λ _ e=>by cases e)
 have hr:ArenaAt (w1.alloc (.cells #[.slice (some ⟨w.heap.size,0,none⟩) n n,.int .u64 0] 173)) w1.heap.size w.heap.size (λ _=>0) n:=by
  rcases hown.2 with ⟨e,-⟩|⟨g,cap,cur,e,-,hheap,hnc,-,hsz,htake⟩
  .cases e
  .injection e with e1 _ e2
   injection e1 with e1
   injection e1 with e1 _
   subst e1 e2
   refine⟨⟨n,0,wN w1 _,Nat.le_refl _⟩,⟨cur,((Kr Ab w1).alloc _).at_ hheap (λ h=>h),by omega,λ j hj=>?_⟩,h2,λ j hj=>by omega⟩
   have h9:(cur.toList.take (n*1))[j]?=some (.int .u64 0):=by
    rw[htake,show (Value.int .u64 0).cells=#[Value.int .u64 0] from rfl,toList_madeCells_one,List.getElem?_replicate,if_pos (by omega)]
   rw[List.getElem?_take_of_lt (by omega)] at h9
   simpa using h9
 exact bodyPost_ret (v:=.tuple #[.pointer (some ⟨w1.heap.size,0,none⟩),.int .i64 0]) (by simp[results,results125,go_sem]) rfl ⟨_,w.heap.size,rfl,hk.size,Nat.le_refl _,hr,hk.alloc _⟩

theorem ANew_no(n:Int)(w:World)(h:Du n=false):Calls prog 125 #[.int .i64 n] w λ e w'=>e=.returned (.tuple #[.pointer none,.int .i64 2])/\w=w':=by
 have h':n<16\/(16<=n/\65536<n)\/(16<=n/\n<=65536/\¬ n%2=0):=by
  simp only[Du,decide_eq_false_iff_not] at h
  omega
 clear h
 rcases h' with h1|⟨h1,h2⟩|⟨h1,h2,h3⟩
 .go_enter func125,ntmps125
  go_wp2
  go_ret2
  exact⟨rfl,rfl⟩
 .go_enter func125,ntmps125
  go_wp2
  go_ret2
  exact⟨rfl,rfl⟩
 .obtain ⟨N,rfl⟩:=Int.eq_ofNat_of_zero_le (show 0<=n by omega)
  have h4:(N:Int)%2=1:=by omega
  clear h3
  go_enter func125,ntmps125
  go_wp2
  go_ret2
  exact⟨rfl,rfl⟩

theorem gran_at(a q n:Nat)(W:Nat->Nat)(w:World)(h:ArenaAt w a q W n):Calls prog 52 #[.pointer (some ⟨a,0,none⟩)] w λ e w'=>e=.returned (.int .i64 ((n/2:Nat):Int))/\w=w':=by
 have hn:=h.small
 go_enter func52,ntmps52
 go_wp2_with (go_at_call 59;refine (ALen_at a q n W _ h).mono ?_;rintro e w' ⟨rfl,rfl⟩)
 go_ret
 exact⟨by simp,rfl⟩

theorem gran_at'(a q n:Nat)(W:Nat->Nat)(w:World)(h:ArenaAt w a q W n):Calls prog 52 #[.pointer (some ⟨a,0,none⟩)] w λ e w'=>e=.returned (.int .i64 ((n/2:Nat):Int))/\w'=w:=
 (gran_at a q n W w h).mono λ_ _ hp=>⟨hp.1,hp.2.symm⟩

theorem SHead_at(g:Nat)(a q n:Nat)(W:Nat->Nat)(w:World)(hF:Aq w)(h:ArenaAt w a q W n)(hg:g<n/2):
  Calls prog 49 #[.pointer (some ⟨a,0,none⟩),.int .i64 (g:Nat)] w (Fa (BJ (W (2*g))) (CP (W (2*g))) (Ex (W (2*g))) (EM (W (2*g))) (DL (W (2*g))) w):=by
 have hn:=h.small
 have h2g:2*g<n:=by omega
 have hlt:=h.lt_a
 obtain⟨w1,hw1⟩:∃ w1,w1=w.alloc (.cells #[.int .u8 0,.int .i64 0,.int .i64 0,.int .i64 0] 52):=⟨_,rfl⟩
 have kA:Kp Ab w w1:=by rw[hw1];exact (Kr _ w).alloc _
 have b0:w1.heap[w.heap.size]?=some (.cells #[.int .u8 0,.int .i64 0,.int .i64 0,.int .i64 0] 52 (0,0)):=by rw[hw1];exact wN w _
 have A1:=h.Ad kA
 have F1:=hF.Ad kA
 have t1:¬ (g:Int)<0:=by omega
 have t2:¬ ((n:Int)/2<=(g:Int)):=by omega
 have HM:Sl ((2:Int)*(g:Int)=((2*g:Nat):Int)):=⟨by omega⟩
 have HG:=sE (gran_at a q n W w1 A1)
 have HL:=sE (ALoad_yes (2*g) a q n W w1 A1 h2g)
 obtain⟨X,hX⟩:∃ X,W (2*g)=X:=⟨_,rfl⟩
 have hXl:X<18446744073709551616:=by rw[<- hX];exact h.fits _ h2g
 rw[hX] at HL ⊢
 have HD:=sE (Decode_any X w1 F1 hXl)
 clear hX hXl A1
 go_enter func49,ntmps49
 go_wp2_with fail
 rw[<- hw1]
 clear hw1
 refine HG.out.mono ?_
 rintro e w' ⟨rfl,rfl⟩
 go_wp2_with fail
 rw[HM.out]
 refine HL.out.mono ?_
 rintro e w' ⟨rfl,rfl⟩
 go_wp2_with fail
 refine HD.out.mono ?_
 rintro e w2 ⟨rfl,k2⟩
 have B0:=k2.at_ b0 (λ h=>h)
 have d0:w2.cell? ⟨w.heap.size,0,none⟩=some (.int .u8 0):=by simp[World.cell?,B0]
 have d1:w2.cell? ⟨w.heap.size,1,none⟩=some (.int .i64 0):=by simp[World.cell?,B0]
 have d2:w2.cell? ⟨w.heap.size,2,none⟩=some (.int .i64 0):=by simp[World.cell?,B0]
 have d3:w2.cell? ⟨w.heap.size,3,none⟩=some (.int .i64 0):=by simp[World.cell?,B0]
 have f0:=Ae B0
 have f00:=f0 0
 have f01:=f0 1
 have f02:=f0 2
 have f03:=f0 3
 have KW:=kA.then' k2
 have HB:=sE B0
 clear b0 B0 f0 HG HL HD
 obtain⟨ok,hok⟩:∃ ok,BJ X=ok:=⟨_,rfl⟩
 have H1:=sE hok
 rw[hok]
 clear hok
 obtain⟨tg,htg⟩:∃ x,CP X=x:=⟨_,rfl⟩
 obtain⟨ty,hty⟩:∃ x,Ex X=x:=⟨_,rfl⟩
 obtain⟨ln,hln⟩:∃ x,EM X=x:=⟨_,rfl⟩
 obtain⟨sz,hsz⟩:∃ x,DL X=x:=⟨_,rfl⟩
 have T1:=sE htg
 have T2:=sE hty
 have T3:=sE hln
 have T4:=sE hsz
 rw[htg,hty,hln,hsz]
 clear htg hty hln hsz
 cases ok with
 |true=>
  rw[if_pos rfl,if_pos rfl]
  dsimp only[Ak]
  go_wp2
  obtain⟨wz,hwz⟩:∃ wz,wz=(((w2.setCell ⟨w.heap.size,0,none⟩ (.int .u8 (tg:Nat))).setCell ⟨w.heap.size,1,none⟩ (.int .i64 (ty:Nat))).setCell ⟨w.heap.size,2,none⟩ (.int .i64 (ln:Nat))).setCell ⟨w.heap.size,3,none⟩ (.int .i64 (sz:Nat)):=⟨_,rfl⟩
  rw[<- hwz]
  have tz:wz.heap[w.heap.size]?=some (.cells #[.int .u8 (tg:Nat),.int .i64 (ty:Nat),.int .i64 (ln:Nat),.int .i64 (sz:Nat)] 52 (0,0)):=by
   rw[hwz];exact bZ (bZ (bZ (bZ HB.out (j:=0) _) (j:=1) _) (j:=2) _) (j:=3) _
  have kz:Kp (λ i=>i=w.heap.size) w2 wz:=by rw[hwz];exact ((((Kr (λ i=>i=w.heap.size) w2).setCell (λ _=>rfl) _).setCell (λ _=>rfl) _).setCell (λ _=>rfl) _).setCell (λ _=>rfl) _
  clear hwz
  have e0:wz.cell? ⟨w.heap.size,0,none⟩=some (.int .u8 (tg:Nat)):=by simp[World.cell?,tz]
  have e1:wz.cell? ⟨w.heap.size,1,none⟩=some (.int .i64 (ty:Nat)):=by simp[World.cell?,tz]
  have e2:wz.cell? ⟨w.heap.size,2,none⟩=some (.int .i64 (ln:Nat)):=by simp[World.cell?,tz]
  have e3:wz.cell? ⟨w.heap.size,3,none⟩=some (.int .i64 (sz:Nat)):=by simp[World.cell?,tz]
  refine bodyPost_ret (v:=.tuple #[Ak (tg:Nat) (ty:Nat) (ln:Nat) (sz:Nat),.int .i64 0]) (by simp[results,results49,go_sem,e0,e1,e2,e3,Ak]) rfl ⟨by rw[H1.out,T1.out,T2.out,T3.out,T4.out];rfl,KW.trans kz (λ i hi h=>by omega)⟩
 |false=>
  rw[if_neg (by simp),if_neg (by simp)]
  dsimp only[Ak]
  go_wp2
  obtain⟨wz,hwz⟩:∃ wz,wz=(((w2.setCell ⟨w.heap.size,0,none⟩ (.int .u8 0)).setCell ⟨w.heap.size,1,none⟩ (.int .i64 0)).setCell ⟨w.heap.size,2,none⟩ (.int .i64 0)).setCell ⟨w.heap.size,3,none⟩ (.int .i64 0):=⟨_,rfl⟩
  rw[<- hwz]
  have tz:wz.heap[w.heap.size]?=some (.cells #[.int .u8 0,.int .i64 0,.int .i64 0,.int .i64 0] 52 (0,0)):=by
   rw[hwz];exact bZ (bZ (bZ (bZ HB.out (j:=0) _) (j:=1) _) (j:=2) _) (j:=3) _
  have kz:Kp (λ i=>i=w.heap.size) w2 wz:=by rw[hwz];exact ((((Kr (λ i=>i=w.heap.size) w2).setCell (λ _=>rfl) _).setCell (λ _=>rfl) _).setCell (λ _=>rfl) _).setCell (λ _=>rfl) _
  clear hwz
  have e0:wz.cell? ⟨w.heap.size,0,none⟩=some (.int .u8 0):=by simp[World.cell?,tz]
  have e1:wz.cell? ⟨w.heap.size,1,none⟩=some (.int .i64 0):=by simp[World.cell?,tz]
  have e2:wz.cell? ⟨w.heap.size,2,none⟩=some (.int .i64 0):=by simp[World.cell?,tz]
  have e3:wz.cell? ⟨w.heap.size,3,none⟩=some (.int .i64 0):=by simp[World.cell?,tz]
  refine bodyPost_ret (v:=.tuple #[Ak 0 0 0 0,.int .i64 7]) (by simp[results,results49,go_sem,e0,e1,e2,e3,Ak]) rfl ⟨by rw[H1.out];rfl,KW.trans kz (λ i hi h=>by omega)⟩

def makeW(W:Nat->Nat)(g id ln S:Nat):Nat->Nat:=Ca (fillW W (2*g) (2*S) 0) (2*g) (Bl 1 id ln S)

set_option maxRecDepth 20000 in
theorem Make_yes(g id ln S:Nat)(a q n t tq:Nat)(W:Nat->Nat)(ts:List TypR)(w:World)(hF:Aq w)(h:ArenaAt w a q W n)(hT:TableAt w t tq ts)
  (he:AQ ts (id:Nat) (ln:Nat)=0) (hs:Bj ts (id:Nat) (ln:Nat)=(S:Nat)) (hok:Am 1 (id:Nat) (ln:Nat) (S:Nat)=true) (hgs:g+S<=n/2) (hS:0<S):
  Calls prog 127 #[.pointer (some ⟨a,0,none⟩),.pointer (some ⟨t,0,none⟩),.int .i64 (g:Nat),.int .i64 (id:Nat),.int .i64 (ln:Nat)] w (Stored w a q n (makeW W g id ln S)):=by
 have hn:=h.small
 have HO:Sl (Calls prog 102 #[.pointer (some ⟨t,0,none⟩),.int .i64 (id:Nat),.int .i64 (ln:Nat)] w λ e w'=>e=.returned (.tuple #[.agg #[.int .u8 1,.int .i64 (id:Nat),.int .i64 (ln:Nat),.int .i64 (S:Nat)],.int .i64 0])/\Kp Ab w w'):=
  ⟨(EB (id:Nat) (ln:Nat) t tq ts w hT).mono λ e w' hp=>by rw[BF,he,if_pos rfl,hs] at hp;exact hp⟩
 have HEN:Sl (∀ W',Aq W'->Calls prog 164 #[.agg #[.int .u8 1,.int .i64 (id:Nat),.int .i64 (ln:Nat),.int .i64 (S:Nat)]] W' λ e w'=>e=.returned (.tuple #[.int .u64 (Bl 1 id ln S:Nat),.int .i64 0])/\Kp Ab W' w'):=
  ⟨λ W' hF'=>Encode_yes 1 id ln S W' hF' hok⟩
 have HEL:Sl (Bl 1 id ln S<18446744073709551616):=⟨encH_lt hok⟩
 obtain⟨X,hX⟩:∃ X,Bl 1 id ln S=X:=⟨_,rfl⟩
 have HMK:Sl (makeW W g id ln S=Ca (fillW W (2*g) (2*S) 0) (2*g) X):=⟨by rw[<- hX];rfl⟩
 rw[hX] at HEN HEL
 have HM1:Sl ((2:Int)*(g:Int)=((2*g:Nat):Int)):=⟨by omega⟩
 have HM2:Sl ((2:Int)*(S:Int)=((2*S:Nat):Int)):=⟨by omega⟩
 have hd1:decide ((g:Int)<0)=false:=dF (by omega)
 have hd2:decide ((n:Int)/2<(g:Int))=false:=dF (by omega)
 have hd3:decide ((n:Int)/2-(g:Int)<(S:Int))=false:=dF (by omega)
 have hlt:=h.lt_a
 clear he hs hok hX
 go_enter func127,ntmps127
 go_wp2_with fail
 refine HO.out.mono ?_
 rintro e w2 ⟨rfl,k2⟩
 have A2:=h.Ad k2
 have F2:=hF.Ad k2
 obtain⟨w3,hw3⟩:∃ w3,w3=w2.alloc (.cells #[.int .u8 1,.int .i64 (id:Nat),.int .i64 (ln:Nat),.int .i64 (S:Nat)] 52):=⟨_,rfl⟩
 have k3:Kp Ab w2 w3:=by rw[hw3];exact (Kr _ w2).alloc _
 have b3:w3.heap[w2.heap.size]?=some (.cells #[.int .u8 1,.int .i64 (id:Nat),.int .i64 (ln:Nat),.int .i64 (S:Nat)] 52 (0,0)):=by rw[hw3];exact wN w2 _
 have A3:=A2.Ad k3
 have F3:=F2.Ad k3
 go_wp2_with fail
 rw[<- hw3]
 clear hw3
 have c0:w3.cell? ⟨w2.heap.size,0,none⟩=some (.int .u8 1):=by simp[World.cell?,b3]
 have c1:w3.cell? ⟨w2.heap.size,1,none⟩=some (.int .i64 (id:Nat)):=by simp[World.cell?,b3]
 have c2:w3.cell? ⟨w2.heap.size,2,none⟩=some (.int .i64 (ln:Nat)):=by simp[World.cell?,b3]
 have c3:w3.cell? ⟨w2.heap.size,3,none⟩=some (.int .i64 (S:Nat)):=by simp[World.cell?,b3]
 have HA3:=sE A3
 go_wp2_with fail
 go_quiet ((go_at_call 52;with_reducible refine Calls.quiet_of_same (gran_at' a q n W _ ?_);(first|exact HA3.out|exact HA3.out.Ad (Kr Ab _).drew|exact HA3.out.Ad (Kp.Aj _)|exact HA3.out.Ad ((Kp.Aj _).drewN _))))
 obtain⟨w4,hw4⟩:∃ w4,w4=w3.drewN nq:=⟨_,rfl⟩
 rw[<- hw4]
 have k4:Kp Ab w3 w4:=by rw[hw4];exact Kp.Aj _
 clear hw4
 have A4:=A3.Ad k4
 have F4:=F3.Ad k4
 replace c0:=k4.cell c0 (λ h=>h)
 replace c1:=k4.cell c1 (λ h=>h)
 replace c2:=k4.cell c2 (λ h=>h)
 replace c3:=k4.cell c3 (λ h=>h)
 clear HA3 hd1 hd2 hd3 b3
 have HE4:=HEN.out w4 F4
 have HEs:=sE HE4
 clear HE4 HEN
 go_wp2_with fail
 refine HEs.out.mono ?_
 rintro e w5 ⟨rfl,k5⟩
 have A5:=A4.Ad k5
 have hf:2*g+2*S<=n:=by omega
 have HFi:=sE (AFill_yes (2*g) (2*S) 0 a q n W w5 A5 hf (by omega))
 replace c3:=k5.cell c3 (λ h=>h)
 go_wp2_with fail
 rw[HM1.out,HM2.out]
 refine HFi.out.mono ?_
 rintro e w6 ⟨rfl,k6,A6⟩
 have HSt:=sE (AStore_yes (2*g) X a q n _ w6 A6 (by omega) HEL.out)
 go_wp2_with fail
 rw[HM1.out]
 refine HSt.out.mono ?_
 rintro e w7 ⟨rfl,k7,A7⟩
 go_wp2
 go_ret
 refine⟨rfl,?_,by rw[HMK.out];exact A7⟩
 have kN:Kp Ab w w5:=(((k2.trans k3 (λ _ _ h=>h)).trans k4 (λ _ _ h=>h)).trans k5 (λ _ _ h=>h))
 exact((kN.Al _).trans k6 (λ _ _ h=>h)).trans k7 (λ _ _ h=>h)

structure Sp where
 s:Nat
 a:Nat
 q:Nat
 t:Nat
 tq:Nat
 b:Nat
 bq:Nat
 n:Nat
 ts:List TypR

def Sp.own(P:Sp)(k:Nat):Prop:=k=P.a\/k=P.q\/k=P.bq

def Sp.all(P:Sp)(k:Nat):Prop:=k=0\/k=P.s\/k=P.a\/k=P.q\/k=P.t\/k=P.tq\/k=P.b\/k=P.bq

def Sp.apart(P:Sp):Prop:=
 (∀ k,P.own k->¬ k=0/\¬ k=P.s/\¬ k=P.t/\¬ k=P.tq/\¬ k=P.b)/\¬ P.a=P.bq/\¬ P.q=P.bq

structure SpaceAt(w:World)(P:Sp)(W:Nat->Nat)(f:Nat->Bool):Prop where
 hs:w.heap[P.s]?=some (.cells #[.pointer (some ⟨P.a,0,none⟩),.pointer (some ⟨P.t,0,none⟩),.pointer (some ⟨P.b,0,none⟩)] 99 (0,0))
 ar:ArenaAt w P.a P.q W P.n
 tb:TableAt w P.t P.tq P.ts
 bt:AO w P.b P.bq f (P.n/2)
 fl:Aq w
 ap:P.apart
 ev:P.n%2=0
 lt:∀ k,P.all k->k<w.heap.size

theorem SpaceAt.keep{S:Nat->Prop}{w w':World}{P:Sp}{W:Nat->Nat}{f:Nat->Bool}(h:SpaceAt w P W f)(k:Kp S w w')(hS:∀ i,P.all i->¬ S i):SpaceAt w' P W f:=
 ⟨k.at_ h.hs (hS _ (by simp[Sp.all])),h.ar.keep k (hS _ (by simp[Sp.all])) (hS _ (by simp[Sp.all])),h.tb.keep k (hS _ (by simp[Sp.all])) (hS _ (by simp[Sp.all])),
  h.bt.keep k (hS _ (by simp[Sp.all])) (hS _ (by simp[Sp.all])),h.fl.keep k (hS _ (by simp[Sp.all])),h.ap,h.ev,λ i hi=>Nat.lt_of_lt_of_le (h.lt i hi) k.size⟩

theorem SpaceAt.Ad{w w':World}{P:Sp}{W:Nat->Nat}{f:Nat->Bool}(h:SpaceAt w P W f)(k:Kp Ab w w'):SpaceAt w' P W f:=h.keep k (λ _ _ h=>h)

theorem SpaceAt.words{w w':World}{P:Sp}{W W':Nat->Nat}{f:Nat->Bool}(h:SpaceAt w P W f)(k:Kp (λ i=>i=P.a\/i=P.q) w w')(ar:ArenaAt w' P.a P.q W' P.n):SpaceAt w' P W' f:=by
 have hA:=h.ap.1 P.a (.inl rfl)
 have hQ:=h.ap.1 P.q (.inr (.inl rfl))
 have h1:=h.ap.2.1
 have h2:=h.ap.2.2
 exact⟨k.at_ h.hs (by omega),ar,h.tb.keep k (by omega) (by omega),h.bt.keep k (by omega) (by omega),h.fl.keep k (by omega),h.ap,h.ev,λ i hi=>Nat.lt_of_lt_of_le (h.lt i hi) k.size⟩

theorem SpaceAt.bits{w w':World}{P:Sp}{W:Nat->Nat}{f f':Nat->Bool}(h:SpaceAt w P W f)(k:Kp (λ i=>i=P.bq) w w')(bt:AO w' P.b P.bq f' (P.n/2)):SpaceAt w' P W f':=by
 have hB:=h.ap.1 P.bq (.inr (.inr rfl))
 have h1:=h.ap.2.1
 have h2:=h.ap.2.2
 exact⟨k.at_ h.hs (by omega),h.ar.keep k (by omega) (by omega),h.tb.keep k (by omega) (by omega),bt,h.fl.keep k (by omega),h.ap,h.ev,λ i hi=>Nat.lt_of_lt_of_le (h.lt i hi) k.size⟩

theorem SpaceAt.head{w:World}{P:Sp}{W:Nat->Nat}{f:Nat->Bool}(h:SpaceAt w P W f):
  w.cell? ⟨P.s,0,none⟩=some (.pointer (some ⟨P.a,0,none⟩))/\w.cell? ⟨P.s,1,none⟩=some (.pointer (some ⟨P.t,0,none⟩))/\w.cell? ⟨P.s,2,none⟩=some (.pointer (some ⟨P.b,0,none⟩)):=by
 have h1:=h.hs
 exact⟨by simp[World.cell?,h1],by simp[World.cell?,h1],by simp[World.cell?,h1]⟩

theorem Fe(P:Sp)(W:Nat->Nat)(f:Nat->Bool)(w:World)(h:SpaceAt w P W f):
  Calls prog 42 #[.pointer (some ⟨P.s,0,none⟩)] w λ e w'=>e=.returned (.int .i64 ((P.n/2:Nat):Int))/\w'=w:=by
 have hn:=h.ar.small
 have HA:=sE h.ar
 obtain⟨c0,c1,c2⟩:=h.head
 clear h
 go_enter func42,ntmps42
 go_wp2_with (go_at_call 59;refine (ALen_at P.a P.q P.n W _ HA.out).mono ?_;rintro e w' ⟨rfl,rfl⟩)
 go_ret
 exact⟨by simp,rfl⟩

def Dx(m:Nat):Nat:=if m=1 then 2 else 3

def AX(W:Nat->Nat)(g m:Nat):Nat->Nat:=if m=0 then W else Ca W (2*g) (Bl (Dx m) 0 0 m)

def LaidGap(P:Sp)(W:Nat->Nat)(f:Nat->Bool)(w:World)(e:Ending)(w':World):Prop:=
 e=.returned (.tuple #[])/\Kp (λ i=>i=P.a\/i=P.q) w w'/\SpaceAt w' P W f

theorem gap_one(g:Nat)(P:Sp)(W:Nat->Nat)(f:Nat->Bool)(w:World)(h:SpaceAt w P W f)(hg:g+1<=P.n/2):
  Calls prog 123 #[.pointer (some ⟨P.s,0,none⟩),.int .i64 (g:Nat),.int .i64 1] w (LaidGap P (Ca W (2*g) (Bl 2 0 0 1)) f w):=by
 have hn:=h.ar.small
 have hok:Am 2 0 0 1=true:=by simp[Am] <;> omega
 have HE:Sl (Bl 2 0 0 1<18446744073709551616):=⟨encH_lt (tag:=2) (ty:=0) (ln:=0) (sz:=1) hok⟩
 have HEN:Sl (∀ W',Aq W'->Calls prog 164 #[.agg #[.int .u8 2,.int .i64 0,.int .i64 0,.int .i64 1]] W' λ e w'=>e=.returned (.tuple #[.int .u64 (Bl 2 0 0 1:Nat),.int .i64 0])/\Kp Ab W' w'):=
  ⟨λ W' hF'=>Encode_yes 2 0 0 1 W' hF' hok⟩
 have HG:Sl (Calls prog 163 #[.int .u8 2,.int .i64 1] w λ e w'=>e=.returned (.tuple #[.agg #[.int .u8 2,.int .i64 0,.int .i64 0,.int .i64 1],.int .i64 0])/\Kp Ab w w'):=
  ⟨Gap_yes 2 1 w h.fl (by omega) (by omega) (by omega)⟩
 have HM:Sl ((2:Int)*(g:Int)=((2*g:Nat):Int)):=⟨by omega⟩
 have h2g:2*g<P.n:=by omega
 have HS:=sE h
 obtain⟨c0,c1,c2⟩:=h.head
 have d1:¬ (1:Int)<1:=by omega
 have d2:((1:Int)==1)=true:=by simp <;> omega
 obtain⟨X,hX⟩:∃ X,Bl 2 0 0 1=X:=⟨_,rfl⟩
 rw[hX] at HE HEN ⊢
 clear h hok hX
 go_enter func123,ntmps123
 go_wp2_with fail
 refine HG.out.mono ?_
 rintro e w1 ⟨rfl,k1⟩
 obtain⟨w2,hw2⟩:∃ w2,w2=w1.alloc (.cells #[.int .u8 2,.int .i64 0,.int .i64 0,.int .i64 1] 52):=⟨_,rfl⟩
 have k2:Kp Ab w1 w2:=by rw[hw2];exact (Kr _ w1).alloc _
 have b2:w2.heap[w1.heap.size]?=some (.cells #[.int .u8 2,.int .i64 0,.int .i64 0,.int .i64 1] 52 (0,0)):=by rw[hw2];exact wN w1 _
 have K2:=k1.then' k2
 have S2:=HS.out.Ad K2
 have F2:=S2.fl
 have e0:w2.cell? ⟨w1.heap.size,0,none⟩=some (.int .u8 2):=by simp[World.cell?,b2]
 have e1:w2.cell? ⟨w1.heap.size,1,none⟩=some (.int .i64 0):=by simp[World.cell?,b2]
 have e2:w2.cell? ⟨w1.heap.size,2,none⟩=some (.int .i64 0):=by simp[World.cell?,b2]
 have e3:w2.cell? ⟨w1.heap.size,3,none⟩=some (.int .i64 1):=by simp[World.cell?,b2]
 have HE2:=sE (HEN.out w2 F2)
 have HS2:=sE S2
 clear F2 S2 HEN HS b2
 go_wp2_with fail
 rw[<- hw2]
 clear hw2
 go_wp2_with fail
 refine HE2.out.mono ?_
 rintro e w3 ⟨rfl,k3⟩
 have S3:=HS2.out.Ad k3
 obtain⟨b0,b1,b2⟩:=S3.head
 have HA3:=sE (AStore_yes (2*g) X P.a P.q P.n W w3 S3.ar h2g HE.out)
 have HS3:=sE S3
 clear S3 HS2
 go_wp2_with fail
 rw[HM.out]
 refine HA3.out.mono ?_
 rintro e w4 ⟨rfl,k4,A4⟩
 go_wp2
 go_end0
 exact⟨rfl,((K2.then' k3).Al _).trans k4 (λ _ _ h=>h),HS3.out.words k4 A4⟩

theorem gap_more(g m:Nat)(P:Sp)(W:Nat->Nat)(f:Nat->Bool)(w:World)(h:SpaceAt w P W f)(hm:1<m)(hg:g+m<=P.n/2):
  Calls prog 123 #[.pointer (some ⟨P.s,0,none⟩),.int .i64 (g:Nat),.int .i64 (m:Nat)] w (LaidGap P (Ca W (2*g) (Bl 3 0 0 m)) f w):=by
 have hn:=h.ar.small
 have hok:Am 3 0 0 (m:Nat)=true:=by simp[Am] <;> omega
 have HE:Sl (Bl 3 0 0 m<18446744073709551616):=⟨encH_lt (tag:=3) (ty:=0) (ln:=0) (sz:=m) hok⟩
 have HEN:Sl (∀ W',Aq W'->Calls prog 164 #[.agg #[.int .u8 3,.int .i64 0,.int .i64 0,.int .i64 (m:Nat)]] W' λ e w'=>e=.returned (.tuple #[.int .u64 (Bl 3 0 0 m:Nat),.int .i64 0])/\Kp Ab W' w'):=
  ⟨λ W' hF'=>Encode_yes 3 0 0 m W' hF' hok⟩
 have HG:Sl (Calls prog 163 #[.int .u8 3,.int .i64 (m:Nat)] w λ e w'=>e=.returned (.tuple #[.agg #[.int .u8 3,.int .i64 0,.int .i64 0,.int .i64 (m:Nat)],.int .i64 0])/\Kp Ab w w'):=
  ⟨Gap_yes 3 m w h.fl (by omega) (by omega) (by omega)⟩
 have HM:Sl ((2:Int)*(g:Int)=((2*g:Nat):Int)):=⟨by omega⟩
 have h2g:2*g<P.n:=by omega
 have HS:=sE h
 obtain⟨c0,c1,c2⟩:=h.head
 have d1:¬ ((m:Nat):Int)<1:=by omega
 have d2:(((m:Nat):Int)==1)=false:=by simp <;> omega
 obtain⟨X,hX⟩:∃ X,Bl 3 0 0 m=X:=⟨_,rfl⟩
 rw[hX] at HE HEN ⊢
 clear h hok hX
 go_enter func123,ntmps123
 go_wp2_with fail
 refine HG.out.mono ?_
 rintro e w1 ⟨rfl,k1⟩
 obtain⟨w2,hw2⟩:∃ w2,w2=w1.alloc (.cells #[.int .u8 3,.int .i64 0,.int .i64 0,.int .i64 (m:Nat)] 52):=⟨_,rfl⟩
 have k2:Kp Ab w1 w2:=by rw[hw2];exact (Kr _ w1).alloc _
 have b2:w2.heap[w1.heap.size]?=some (.cells #[.int .u8 3,.int .i64 0,.int .i64 0,.int .i64 (m:Nat)] 52 (0,0)):=by rw[hw2];exact wN w1 _
 have K2:=k1.then' k2
 have S2:=HS.out.Ad K2
 have F2:=S2.fl
 have e0:w2.cell? ⟨w1.heap.size,0,none⟩=some (.int .u8 3):=by simp[World.cell?,b2]
 have e1:w2.cell? ⟨w1.heap.size,1,none⟩=some (.int .i64 0):=by simp[World.cell?,b2]
 have e2:w2.cell? ⟨w1.heap.size,2,none⟩=some (.int .i64 0):=by simp[World.cell?,b2]
 have e3:w2.cell? ⟨w1.heap.size,3,none⟩=some (.int .i64 (m:Nat)):=by simp[World.cell?,b2]
 have HE2:=sE (HEN.out w2 F2)
 have HS2:=sE S2
 clear F2 S2 HEN HS b2
 go_wp2_with fail
 rw[<- hw2]
 clear hw2
 go_wp2_with fail
 refine HE2.out.mono ?_
 rintro e w3 ⟨rfl,k3⟩
 have S3:=HS2.out.Ad k3
 obtain⟨b0,b1,b2⟩:=S3.head
 have HA3:=sE (AStore_yes (2*g) X P.a P.q P.n W w3 S3.ar h2g HE.out)
 have HS3:=sE S3
 clear S3 HS2
 go_wp2_with fail
 rw[HM.out]
 refine HA3.out.mono ?_
 rintro e w4 ⟨rfl,k4,A4⟩
 go_wp2
 go_end0
 exact⟨rfl,((K2.then' k3).Al _).trans k4 (λ _ _ h=>h),HS3.out.words k4 A4⟩

theorem gap_nil(g:Int)(P:Sp)(W:Nat->Nat)(f:Nat->Bool)(w:World)(h:SpaceAt w P W f):
  Calls prog 123 #[.pointer (some ⟨P.s,0,none⟩),.int .i64 g,.int .i64 0] w (LaidGap P W f w):=by
 have HS:=sE h
 clear h
 go_enter func123,ntmps123
 go_wp2_with fail
 go_end0
 exact⟨rfl,Kr _ _,HS.out⟩

theorem gap_any(g m:Nat)(P:Sp)(W:Nat->Nat)(f:Nat->Bool)(w:World)(h:SpaceAt w P W f)(hg:g+m<=P.n/2):
  Calls prog 123 #[.pointer (some ⟨P.s,0,none⟩),.int .i64 (g:Nat),.int .i64 (m:Nat)] w (LaidGap P (AX W g m) f w):=by
 by_cases h0:m=0
 .subst h0
  rw[AX,if_pos rfl]
  exact gap_nil g P W f w h
 .rw [AX,if_neg h0]
  by_cases h1:m=1
  .subst h1
   exact gap_one g P W f w h hg
  .rw [Dx,if_neg h1]
   exact gap_more g m P W f w h (by omega) hg

def C8(ts:List TypR)(c:Cel):Prop:=
 Am (c.tag:Nat) (c.ty:Nat) (c.ln:Nat) (c.sz:Nat)=true/\(c.tag=1->AQ ts (c.ty:Nat) (c.ln:Nat)=0/\Bj ts (c.ty:Nat) (c.ln:Nat)=(c.sz:Nat))

structure CellsAt(P:Sp)(W:Nat->Nat)(cs:List Cel):Prop where
 tl:Au 0 cs (P.n/2)
 hd:HeadsAt W cs
 ok:∀ c∈cs,C8 P.ts c

theorem Au.app{xs ys:List Cel}{a b d:Nat}(h:Au a xs b)(k:Au b ys d):Au a (xs++ys) d:=@Au.append 0 _ _ _ _ _ h k

theorem Au.uniq:∀ {xs:List Cel} {a b b':Nat},Au a xs b->Au a xs b'->b=b'
 |[],a,b,b',h,k=>by rw[<- show a=b from h,<- show a=b' from k]
 |c::xs,a,b,b',⟨h1,h2,h3⟩,⟨k1,k2,k3⟩=>Au.uniq h3 k3

theorem Au.only:∀ {xs:List Cel} {a b:Nat} {c d:Cel},Au a xs b->c∈xs->d∈xs->c.g=d.g->c=d
 |x::xs,a,b,c,d,⟨h1,h2,h3⟩,hc,hd,e=>by
  rcases List.mem_cons.1 hc with e1|e1
  .rcases List.mem_cons.1 hd with e2|e2
   .rw [e1,e2]
   .have:=Au.mem h3 e2
    subst e1
    omega
  .rcases List.mem_cons.1 hd with e2|e2
   .have:=Au.mem h3 e1
    subst e2
    omega
   .exact Au.only h3 e1 e2 e

theorem CellsAt.swap{P:Sp}{W W':Nat->Nat}{pre mid mid' post:List Cel}{x y:Nat}(h:CellsAt P W (pre++(mid++post)))(hx:Au 0 pre x)(hm:Au x mid y)(hm':Au x mid' y)
  (hW:∀ k,(k<x\/y<=k)->W' (2*k)=W (2*k)) (hd:HeadsAt W' mid') (hok:∀ c∈mid',C8 P.ts c):CellsAt P W' (pre++(mid'++post)):=by
 obtain⟨b,t1,t2⟩:=h.tl.split
 obtain rfl:=hx.uniq t1
 obtain⟨d,t3,t4⟩:=t2.split
 obtain rfl:=hm.uniq t3
 refine⟨hx.app (hm'.app t4),λ c hc=>?_,λ c hc=>?_⟩
 .rcases List.mem_append.1 hc with hc|hc
  .have:=hx.mem hc
   rw[hW _ (.inl (by omega))]
   exact h.hd c (List.mem_append.2 (.inl hc))
  .rcases List.mem_append.1 hc with hc|hc
   .exact hd c hc
   .have:=t4.mem hc
    rw[hW _ (.inr (by omega))]
    exact h.hd c (List.mem_append.2 (.inr (List.mem_append.2 (.inr hc))))
 .rcases List.mem_append.1 hc with hc|hc
  .exact h.ok c (List.mem_append.2 (.inl hc))
  .rcases List.mem_append.1 hc with hc|hc
   .exact hok c hc
   .exact h.ok c (List.mem_append.2 (.inr (List.mem_append.2 (.inr hc))))

theorem CR{W:Nat->Nat}{a m k:Nat}(h:k=a->m=0):AX W a m (2*k)=W (2*k):=by
 rw[AX]
 split
 .rfl
 .rename_i h0
  rw[Ca,if_neg (λ e=>h0 (h (by omega)))]

theorem EL{W:Nat->Nat}{a m:Nat}(h:0<m):AX W a m (2*a)=Bl (Dx m) 0 0 m:=by
 rw[AX,if_neg (by omega),Ca,if_pos rfl]

theorem Cm{g m:Nat}{c:Cel}(h:c∈Fx g m):0<m/\c=⟨g,Dx m,0,0,m⟩:=by
 rw[Fx] at h
 split at h
 .cases h
 .exact ⟨by omega,List.mem_singleton.1 h⟩

theorem gapTag_or(m:Nat):(m=1/\Dx m=2)\/(¬ m=1/\Dx m=3):=by
 rw[Dx]
 by_cases h:m=1
 .exact .inl ⟨h,by rw[if_pos h]⟩
 .exact .inr ⟨h,by rw[if_neg h]⟩

theorem gap_ok{ts:List TypR}{g m:Nat}(h0:0<m)(h1:m<=65536):C8 ts ⟨g,Dx m,0,0,m⟩:=by
 have hT:=gapTag_or m
 refine⟨?_,λ h=>?_⟩
 .simp only[Am,decide_eq_true_eq]
  omega
 .exact absurd h (by show ¬ Dx m=1;omega)

theorem makeW_at(W:Nat->Nat)(g id ln S:Nat):makeW W g id ln S (2*g)=Bl 1 id ln S:=by
 rw[makeW,Ca,if_pos rfl]

theorem makeW_ne{W:Nat->Nat}{g id ln S k:Nat}(h0:0<S)(h:k<g\/g+S<=k):makeW W g id ln S (2*k)=W (2*k):=by
 rw[makeW,Ca,if_neg (by omega),fillW,if_neg (by omega)]

def Ar(cs:List Cel)(i:Nat):Bool:=cs.any λ c=>c.tag==1&&c.g==i

theorem AZ(xs ys:List Cel)(i:Nat):Ar (xs++ys) i=(Ar xs i||Ar ys i):=by simp[Ar]

theorem DJ(g m i:Nat):Ar (Fx g m) i=false:=by
 have hT:=gapTag_or m
 rw[Ar,List.any_eq_false]
 intro c hc
 obtain⟨_,rfl⟩:=Cm hc
 simp
 omega

theorem startOf_off{xs:List Cel}{a b i:Nat}(h:Au a xs b)(hi:i<a\/b<=i):Ar xs i=false:=by
 rw[Ar,List.any_eq_false]
 intro c hc
 have:=h.mem hc
 simp
 omega

theorem startOf_gaps{xs:List Cel}(h:∀ c∈xs,¬ c.tag=1)(i:Nat):Ar xs i=false:=by
 rw[Ar,List.any_eq_false]
 intro c hc
 have:=h c hc
 simp[this]

def putL(pre:List Cel)(c:Cel)(post:List Cel)(g id ln S:Nat):List Cel:=
 pre++((Fx c.g (g-c.g)++⟨g,1,id,ln,S⟩::Fx (g+S) (c.fin-g-S))++post)

def putW(W:Nat->Nat)(c:Cel)(g id ln S:Nat):Nat->Nat:=AX (AX (makeW W g id ln S) c.g (g-c.g)) (g+S) (c.fin-g-S)

theorem put_cells{P:Sp}{W:Nat->Nat}{pre post:List Cel}{c:Cel}{g id ln S:Nat}(hn:P.n<=65536)(h:CellsAt P W (pre++c::post))(h1:c.g<=g)(h2:g+S<=c.fin)(hS:0<S)
  (hok:C8 P.ts ⟨g,1,id,ln,S⟩):CellsAt P (putW W c g id ln S) (putL pre c post g id ln S):=by
 obtain⟨x,t1,t2⟩:=h.tl.split
 obtain⟨hx,hp,t3⟩:=t2
 have hle:=t3.le
 have hfin:c.fin=x+c.sz:=by rw[Cel.fin,hx]
 rw[hfin] at h2
 refine CellsAt.swap (mid:=[c]) (x:=x) (y:=x+c.sz) h t1 ⟨hx,hp,rfl⟩ ?_ ?_ ?_ ?_
 .rw [hx,hfin]
  rw[hx] at h1
  have a1:=Eb x (g-x)
  rw[show x+(g-x)=g by omega] at a1
  have a2:=Eb (g+S) (x+c.sz-g-S)
  rw[show g+S+(x+c.sz-g-S)=x+c.sz by omega] at a2
  exact a1.app ⟨rfl,hS,a2⟩
 .intro k hk
  rw[putW,CR (by omega),CR (by omega),makeW_ne hS (by omega)]
 .intro d hd
  rcases List.mem_append.1 hd with hd|hd
  .obtain ⟨hm,rfl⟩:=Cm hd
   dsimp only
   rw[putW,CR (by omega),EL hm]
  .rcases List.mem_cons.1 hd with rfl|hd
   .dsimp only
    rw[putW,CR (by omega),CR (by omega),makeW_at]
   .obtain ⟨hm,rfl⟩:=Cm hd
    dsimp only
    rw[putW,EL hm]
 .intro d hd
  rcases List.mem_append.1 hd with hd|hd
  .obtain ⟨hm,rfl⟩:=Cm hd
   exact gap_ok hm (by omega)
  .rcases List.mem_cons.1 hd with rfl|hd
   .exact hok
   .obtain ⟨hm,rfl⟩:=Cm hd
    exact gap_ok hm (by omega)

theorem put_starts{P:Sp}{W:Nat->Nat}{f:Nat->Bool}{pre post:List Cel}{c:Cel}{g id ln S H:Nat}(hst:∀ i,i<H->f i=Ar (pre++c::post) i)(ht:¬ c.tag=1)(hg:g<H):
  ∀ i,i<H->FQ f H (g:Nat) 1 true i=Ar (putL pre c post g id ln S) i:=by
 intro i hi
 have ho:Bq H (g:Nat) 1=true:=by simp[Bq];omega
 have h0:=hst i hi
 rw[show pre++c::post=pre++([c]++post) from rfl,AZ,AZ,startOf_gaps (xs:=[c]) (by simpa using ht),Bool.false_or] at h0
 rw[FQ,if_pos ho,putL,AZ,AZ,AZ,DJ,show (⟨g,1,id,ln,S⟩::Fx (g+S) (c.fin-g-S):List Cel)=[⟨g,1,id,ln,S⟩]++Fx (g+S) (c.fin-g-S) from rfl,AZ,DJ,Bool.false_or,Bool.or_false]
 simp only[Ei]
 by_cases e:i=g
 .subst e
  rw[if_pos (by simp)]
  simp[Ar]
 .rw [if_neg (by simp;omega),h0]
  have:Ar [(⟨g,1,id,ln,S⟩:Cel)] i=false:=by simp[Ar];omega
  rw[this,Bool.false_or]

def dropL(p1 p2:List Cel)(x y:Nat):List Cel:=p1++(Fx x (y-x)++p2)

theorem drop_cells{P:Sp}{W:Nat->Nat}{p1 mid p2:List Cel}{x y:Nat}(hn:P.n<=65536)(h:CellsAt P W (p1++(mid++p2)))(hx:Au 0 p1 x)(hm:Au x mid y)(hxy:x<y)(hy:y<=P.n/2):
  CellsAt P (AX W x (y-x)) (dropL p1 p2 x y):=by
 refine CellsAt.swap (mid:=mid) (x:=x) (y:=y) h hx hm ?_ ?_ ?_ ?_
 .have a1:=Eb x (y-x)
  rwa [show x+(y-x)=y by omega] at a1
 .intro k hk
  rw[CR (by omega)]
 .intro d hd
  obtain⟨hm,rfl⟩:=Cm hd
  dsimp only
  rw[EL hm]
 .intro d hd
  obtain⟨hm,rfl⟩:=Cm hd
  exact gap_ok hm (by omega)

theorem drop_starts{f:Nat->Bool}{p1 g1 p2 g2:List Cel}{c:Cel}{x y H:Nat}(hst:∀ i,i<H->f i=Ar (p1++(g1++c::g2++p2)) i)(htl:Au 0 (p1++(g1++c::g2++p2)) H)(h1:∀ d∈g1,¬ d.tag=1)(h2:∀ d∈g2,¬ d.tag=1):
  ∀ i,i<H->FQ f H (c.g:Nat) 1 false i=Ar (dropL p1 p2 x y) i:=by
 intro i hi
 have hc:=htl.mem (c:=c) (by simp)
 have ho:Bq H (c.g:Nat) 1=true:=by simp[Bq];omega
 obtain⟨b1,t1,t2⟩:=htl.split
 obtain⟨b2,t3,t4⟩:=t2.split
 have hcm:=t3.mem (c:=c) (by simp)
 have h0:=hst i hi
 rw[AZ,AZ,show g1++c::g2=g1++([c]++g2) from rfl,AZ,AZ,startOf_gaps h1,startOf_gaps h2,Bool.false_or,Bool.or_false] at h0
 rw[FQ,if_pos ho,dropL,AZ,AZ,DJ,Bool.false_or]
 simp only[Ei]
 by_cases e:i=c.g
 .subst e
  rw[if_pos (by simp),startOf_off t1 (by omega),startOf_off t4 (by omega)]
  rfl
 .rw [if_neg (by simp;omega),h0]
  have:Ar [c] i=false:=by simp[Ar];omega
  rw[this,Bool.false_or]

theorem obj_ok{ts:List TypR}(few:ts.length<=64){id n:Int}(h:AQ ts id n=0):
  ∃ i l S:Nat,id=(i:Nat)/\n=(l:Nat)/\Bj ts id n=(S:Nat)/\0<S/\S<=65536/\C8 ts ⟨0,1,i,l,S⟩:=by
 cases hx:typeOf ts id with
 |none=>rw [AQ,hx] at h;cases h
 |some x=>
  have hE:AQ ts id n=AP x.k x.wds x.m n:=by rw[AQ,hx]
  have hS:Bj ts id n=Fj x.k x.wds n:=by rw[Bj,hx]
  obtain⟨i,hi,_,hl⟩:=DN hx
  obtain⟨h1,h2,h3,h4,h5⟩:=Ec (hE.symm.trans h)
  have hr:=AU (hE.symm.trans h)
  obtain⟨l,rfl⟩:=Int.eq_ofNat_of_zero_le h2
  have hpos:0<=Fj x.k x.wds (l:Nat):=by rw[Fj];omega
  obtain⟨S,hS'⟩:=Int.eq_ofNat_of_zero_le hpos
  have hS2:(S:Int)=(AL x.k x.wds (l:Nat)+2)/2:=hS'.symm
  refine⟨i+1,l,S,hi,rfl,hS.trans hS',by omega,by omega,?_,λ _=>?_⟩
  .simp only[Am,decide_eq_true_eq]
   omega
  .dsimp only
   rw[<- hi]
   exact⟨h,hS.trans hS'⟩

theorem C8.move{ts:List TypR}{g tag ty ln sz:Nat}(h:C8 ts ⟨g,tag,ty,ln,sz⟩)(g':Nat):C8 ts ⟨g',tag,ty,ln,sz⟩:=h

theorem tiles_fin:∀ {xs:List Cel} {a b j:Nat},Au a xs b->(∀ d∈xs,d.fin<=j)->a<=j->b<=j
 |[],a,b,j,h,k,e=>by rw[<- show a=b from h];exact e
 |c::xs,a,b,j,⟨h1,h2,h3⟩,k,e=>tiles_fin h3 (λ d hd=>k d (List.mem_cons_of_mem _ hd)) (by
   have:=k c (List.mem_cons_self ..)
   rw[Cel.fin,h1] at this
   exact this)

def cellOf(cs:List Cel)(g:Int):Option Cel:=cs.find? λ c=>decide (g<(c.fin:Nat))

def Dt(ts:List TypR)(H:Nat)(cs:List Cel)(g id n:Int):Int:=
 if AQ ts id n≠0 then AQ ts id n else if g<0\/(H:Int)<=g then 2 else
  match cellOf cs g with
  |none=>3
  |some c=>if c.tag=1\/(c.fin:Int)-g<Bj ts id n then 3 else 0

theorem cellOf_at{pre post:List Cel}{c:Cel}{g:Int}(h:∀ d∈pre,¬ g<(d.fin:Nat))(hc:g<(c.fin:Nat)):cellOf (pre++c::post) g=some c:=by
 rw[cellOf,List.find?_append,List.find?_eq_none.2 (by simpa using h),Option.none_or,List.find?_cons_of_pos (by simpa using hc)]

theorem cell_split{cs:List Cel}{a b g:Nat}(h:Au a cs b)(h1:a<=g)(h2:g<b):∃ pre c post,cs=pre++c::post/\c.g<=g/\g<c.fin/\(∀ d∈pre,d.fin<=c.g):=by
 obtain⟨pre,c,post,rfl,k1,k2⟩:=h.at_ h1 h2
 refine⟨pre,c,post,rfl,k1,k2,λ d hd=>?_⟩
 obtain⟨x,t1,t2⟩:=h.split
 have:=t1.mem hd
 rw[t2.1,Cel.fin]
 omega

def EndsObj(p:List Cel):Prop:=p=[]\/∃ q d,p=q++[d]/\d.tag=1

def Es(g:Nat)(pre:List Cel)(x y:Nat):Bool->Prop
 |false=>∃ p1 g1,pre=p1++g1/\(∀ d∈g1,¬ d.tag=1)/\EndsObj p1/\Au 0 p1 x/\∀ d∈pre,d.g<g
 |true=>∃ p1 g1 c g2,pre=p1++(g1++c::g2)/\c.g=g/\c.tag=1/\(∀ d∈g1,¬ d.tag=1)/\(∀ d∈g2,¬ d.tag=1)/\EndsObj p1/\Au 0 p1 x/\Au x (g1++c::g2) y

theorem Fp{cs:List Cel}{g:Nat}(h:Ar cs g=true):∃ c∈cs,c.tag=1/\c.g=g:=by
 rw[Ar,List.any_eq_true] at h
 obtain⟨c,hc,h⟩:=h
 simp at h
 exact⟨c,hc,h.1,h.2⟩

theorem Au.fin_at{pre rest:List Cel}{x:Cel}{a b:Nat}(h:Au a (pre++x::rest) b):Au a (pre++[x]) x.fin/\Au x.fin rest b/\Au a pre x.g:=by
 obtain⟨k,t1,t2⟩:=h.split
 obtain⟨e,hs,t3⟩:=t2
 subst e
 exact⟨t1.app ⟨rfl,hs,rfl⟩,t3,t1⟩

theorem drop_before{g H:Nat}{cs pre rest:List Cel}{c:Cel}{x y:Nat}(htl:Au 0 cs H)(hx:cs=pre++c::rest)(hg:Ar cs g=true)(hd:Es g pre x y false):
  c.g<=g/\(c.tag=1->¬ c.g=g->Es g (pre++[c]) c.fin y false)/\(c.tag=1->c.g=g->Es g (pre++[c]) x c.fin true)/\(¬ c.tag=1->¬ c.g=g/\Es g (pre++[c]) x c.fin false):=by
 obtain⟨p1,g1,e1,h1,h2,h3,h4⟩:=hd
 obtain⟨o,ho,t1,t2⟩:=Fp hg
 rw[hx] at htl ho
 obtain⟨a1,a2,a3⟩:=htl.fin_at
 have hsz:0<c.sz:=(htl.mem (c:=c) (by simp)).2.2
 have le:c.g<=g:=by
  rcases List.mem_append.1 ho with ho|ho
  .have:=h4 o ho;omega
  .rcases List.mem_cons.1 ho with e|ho
   .rw [<- e];omega
   .have:=a2.mem ho
    rw[Cel.fin] at this
    omega
 have hcg:∀ d∈pre++[c],¬ c.g=g->d.g<g:=λ d hd hne=>by
  rcases List.mem_append.1 hd with hd|hd
  .exact h4 d hd
  .rw [List.mem_singleton.1 hd];omega
 refine⟨le,λ k1 k2=>?_,λ k1 k2=>?_,λ k1=>?_⟩
 .exact ⟨pre++[c],[],by simp,(λ d hd=>by cases hd),.inr ⟨pre,c,rfl,k1⟩,a1,λ d hd=>hcg d hd k2⟩
 .refine ⟨p1,g1,c,[],by rw[e1,List.append_assoc],k2,k1,h1,λ d hd=>by (cases hd),h2,h3,?_⟩
  rw[e1,List.append_assoc] at a1
  obtain⟨k,u1,u2⟩:=a1.split
  obtain rfl:=h3.uniq u1
  exact u2
 .have hne:¬ c.g=g:=λ e=>by
   have:=htl.only (c:=c) (d:=o) (by simp) ho (by omega)
   rw[this] at k1
   exact k1 t1
  exact⟨hne,p1,g1++[c],by rw[e1,List.append_assoc],λ d hd=>by
   rcases List.mem_append.1 hd with hd|hd
   .exact h1 d hd
   .rw [List.mem_singleton.1 hd];exact k1,h2,h3,λ d hd=>hcg d hd hne⟩

theorem drop_behind{g H:Nat}{cs pre rest:List Cel}{c:Cel}{x y:Nat}(htl:Au 0 cs H)(hx:cs=pre++c::rest)(hd:Es g pre x y true):
  g<c.g/\(¬ c.tag=1->Es g (pre++[c]) x c.fin true):=by
 obtain⟨p1,g1,o,g2,e1,h1,h2,h3,h4,h5,h6,h7⟩:=hd
 rw[hx] at htl
 obtain⟨a1,a2,a3⟩:=htl.fin_at
 refine⟨?_,λ k1=>?_⟩
 .have:=a3.mem (c:=o) (by rw[e1];simp)
  omega
 .refine ⟨p1,g1,o,g2++[c],by rw[e1];simp,h1,h2,h3,λ d hd=>?_,h5,h6,?_⟩
  .rcases List.mem_append.1 hd with hd|hd
   .exact h4 d hd
   .rw [List.mem_singleton.1 hd];exact k1
  .rw [e1,List.append_assoc] at a1
   obtain⟨k,u1,u2⟩:=a1.split
   obtain rfl:=h6.uniq u1
   simpa using u2

def C9(cs:List Cel)(g:Nat)(p1 g1:List Cel)(c:Cel)(g2 p2:List Cel)(x y:Nat):Prop:=
 cs=p1++(g1++c::g2++p2)/\c.g=g/\c.tag=1/\(∀ d∈g1,¬ d.tag=1)/\(∀ d∈g2,¬ d.tag=1)/\EndsObj p1/\(p2=[]\/∃ d q,p2=d::q/\d.tag=1)/\Au 0 p1 x/\Au x (g1++c::g2) y/\x<y

theorem drop_end{g H:Nat}{cs pre rest:List Cel}{x y:Nat}(htl:Au 0 cs H)(hx:cs=pre++rest)(hd:Es g pre x y true)(hr:rest=[]\/∃ d q,rest=d::q/\d.tag=1):
  ∃ p1 g1 c g2 p2,C9 cs g p1 g1 c g2 p2 x y:=by
 obtain⟨p1,g1,o,g2,e1,h1,h2,h3,h4,h5,h6,h7⟩:=hd
 have:=h7.mem (c:=o) (by simp)
 exact⟨p1,g1,o,g2,rest,by rw[hx,e1];simp,h1,h2,h3,h4,h5,hr,h6,h7,by omega⟩

theorem drop_not{g:Nat}{cs:List Cel}{x y:Nat}(hg:Ar cs g=true):¬ Es g cs x y false:=by
 rintro ⟨p1,g1,e1,h1,h2,h3,h4⟩
 obtain⟨c,hc,_,t2⟩:=Fp hg
 have:=h4 c hc
 omega

theorem C9.cells{P:Sp}{W:Nat->Nat}{cs p1 g1 g2 p2:List Cel}{c:Cel}{g x y:Nat}(hn:P.n<=65536)(hc:CellsAt P W cs)(h:C9 cs g p1 g1 c g2 p2 x y):CellsAt P (AX W x (y-x)) (dropL p1 p2 x y)/\y<=P.n/2:=by
 obtain⟨e,h1,h2,h3,h4,h5,h6,h7,h8,h9⟩:=h
 subst e
 obtain⟨b,t1,t2⟩:=hc.tl.split
 obtain rfl:=h7.uniq t1
 obtain⟨d,t3,t4⟩:=t2.split
 obtain rfl:=h8.uniq t3
 exact⟨drop_cells (mid:=g1++c::g2) hn hc h7 h8 h9 t4.le,t4.le⟩

theorem C9.starts{f:Nat->Bool}{cs p1 g1 g2 p2:List Cel}{c:Cel}{g x y H:Nat}(hst:∀ i,i<H->f i=Ar cs i)(htl:Au 0 cs H)(h:C9 cs g p1 g1 c g2 p2 x y):
  ∀ i,i<H->FQ f H (g:Nat) 1 false i=Ar (dropL p1 p2 x y) i:=by
 obtain⟨e,h1,h2,h3,h4,h5,h6,h7,h8,h9⟩:=h
 subst e
 subst h1
 exact drop_starts hst htl h3 h4

end

section
open Go.RowKit

theorem Bw.keepB{w w':World}{v:Value}{len:Nat}{x:Nat->Nat->Int}(h:Bw 1 w v len x){S:Nat->Prop}(k:Kp S w w')(hs:∀ b,0<len->v.ownBlock=some b->¬ S b):Bw 1 w' v len x:=by
  obtain⟨a,cap,rfl,h⟩:=h
  refine⟨a,cap,rfl,λ i hi=>?_⟩
  obtain⟨b,o,rfl,h1,h2⟩:=h i hi
  exact⟨b,o,rfl,Nat.lt_of_lt_of_le h1 k.size,λ j hj=>⟨k.cell (h2 j hj).1 (hs b (by omega) rfl),(h2 j hj).2⟩⟩

def numVs(len:Nat)(x:Nat->Nat->Int):List Value:=(List.range len).map λ i=>.int .i64 (x i 0)

theorem numVs_at(len:Nat)(x:Nat->Nat->Int)(i:Nat)(h:i<len):(numVs len x)[i]?=some (.int .i64 (x i 0)):=by
  simp[numVs,h]

theorem numVs_len(len:Nat)(x:Nat->Nat->Int):(numVs len x).length=len:=by simp[numVs]

theorem Bw.BK{w:World}{base:Nat}{e:TypeId}{v:Value}{len:Nat}{x:Nat->Nat->Int}(h:w.ownsRow base e 1 v len (numVs len x))(hb:∀ i,i<len->-9223372036854775808<=x i 0/\x i 0<=9223372036854775807):Bw 1 w v len x:=by
  rcases h.2 with ⟨rfl,h0⟩|⟨g,cap,cur,rfl,h2,h3,h4,h5,h6,h7⟩
  . exact⟨none,0,by rw[h0],λ i hi=>by omega⟩
  . refine⟨_,cap,rfl,λ i hi=>⟨g,0,rfl,?_,λ j hj=>?_⟩⟩
    . rcases Nat.lt_or_ge g w.heap.size with hlt|hge
      . exact hlt
      . rw[Array.getElem?_eq_none hge] at h3;cases h3
    . obtain rfl:j=0:=by omega
      refine⟨?_,hb i hi⟩
      rw[Nat.zero_add,Nat.mul_one,Nat.add_zero,<- numVs_at len x i hi,<- h7,List.getElem?_take_of_lt (by omega)]
      simp[World.cell?,h3]

section
variable {P:Program}

theorem run_append_ints(w:World)(t ty e:TypeId)(i:TypeInfo)(ht:P.underlying t=some (.slice e))(hi:P.info? e=some i)(hz:i.zero=some (.int .i64 0))(hsize:i.size=1)(hby:i.bytes=8)
    (u:Value) (len:Nat) (x:Nat->Nat->Int) (hu:Bw 1 w u len x) (hle:len<=1000000):
    ∃ v' w',(Builtin.append_ #[t,t] ty #[.slice none 0 0,u]).run P w=.ok v' w'/\w'.ownsRow w.heap.size e 1 v' len (numVs len x)/\w.grownBy w' none:=by
  obtain⟨a,cap,rfl,h⟩:=hu
  cases a with
  |none=>
    have h0:len=0:=by
      rcases Nat.eq_zero_or_pos len with h0|h0
      . exact h0
      . obtain⟨b,o,e,_⟩:=h 0 h0;cases e
    subst h0
    refine⟨.slice none 0 0,w,?_,World.ownsRow_nil w _ _ _,⟨rfl,rfl,rfl,Nat.le_refl _,λ _ _ _=>rfl⟩⟩
    simp[Builtin.append_,run_underlying ht,sizeOf,typeInfo,hi,Builtin.lenOf,Builtin.firstCells]
  |some ad=>
    obtain⟨v',w',hr,h2,h3,_,h5⟩:=run_append_own_at (P:=P) w w.heap.size t ty e i (.int .i64 0) 1 8 ht hi hz hsize hby rfl (by omega) (.slice none 0 0) 0 [] (World.ownsRow_nil w _ _ _) ad len cap (numVs len x) (by rw[numVs_len];omega)
      (by
        intro j u hu
        have hj:j<len:=by have:=(gE.1 hu).1;rwa [numVs_len] at this
        obtain⟨b,o,ea,hb,hc⟩:=h j hj
        injection ea with ea
        subst ea
        rw[numVs_at len x j hj] at hu
        injection hu with hu
        subst hu
        have:=(hc 0 (by omega)).1
        rw[Nat.mul_one,Nat.add_zero] at this
        rw[Addr.add_lit]
        exact this)
      (by
        intro u hu
        obtain⟨_,_,rfl⟩:=List.mem_map.1 hu
        rfl) (by unfold maxLen;omega) (by omega) (Nat.le_refl _)
    rw[Nat.zero_add,List.nil_append] at h2
    exact⟨v',w',hr,h2,h3⟩

theorem step_append_ints{w:World}{ops:Array Oper}{o:Oper}{a:Act}{K:Act->World->Prop}{Q:Exit->Act->World->Prop}{E:Prop}(hgd:o.guard=none)(s x:Operand)(t:TypeId)
    (ho:o.op=.call {callee:=.builtin .append,args:=#[s,x],argTypes:=#[t,t]}) (e:TypeId) (i:TypeInfo) (ht:P.underlying t=some (.slice e)) (hi:P.info? e=some i) (hz:i.zero=some (.int .i64 0)) (hsize:i.size=1) (hby:i.bytes=8)
    (hs:a.eval s=.slice none 0 0) (u:Value) (len:Nat) (y:Nat->Nat->Int) (hx:a.eval x=u) (hu:Bw 1 w u len y) (hle:len<=1000000)
    (h:∀ v' w',w'.ownsRow w.heap.size e 1 v' len (numVs len y)->w.grownBy w' none->K (a.put o.dst v') w'):
    if Region.wanted o (yielded ops a.tmps)=true then Oper.wp P o a w K Q else E:=by
  have hw:Region.wanted o (yielded ops a.tmps)=true:=by simp[Region.wanted,hgd]
  rw[if_pos hw]
  obtain⟨v',w',hr,h2,h3⟩:=run_append_ints (P:=P) w t o.type e i ht hi hz hsize hby u len y hu hle
  unfold Oper.wp execOp
  simp only[ho,resolve,invoke,builtin,Sem.run_bind,Sem.run_pure,Result.andThen_ok,List.map_toArray,List.map_cons,List.map_nil,hs,hx,hr]
  exact h v' w' h2 h3

end

theorem underlyingTypes:prog.underlying 22=some (.slice 86):=by kernel_rfl

theorem infoType:(prog.info? 86).map (λ i=>(i.zero,i.size,i.bytes))=some (some (.agg #[.int .u8 0,.int .i64 0,.int .u64 0]),3,24):=by kernel_rfl

theorem TableAt.ne{w:World}{t q:Nat}{ts:List TypR}{v:Value}(h1:w.heap[t]?=some (.cells #[v] 183 (0,0)))(h2:w.ownsRow q 86 3 v ts.length (Ff ts)):v.ownBlock≠some t:=by
  intro e
  rcases h2.2 with ⟨rfl,h0⟩|⟨g,cap,cur,rfl,g2,g3,g4,g5,g6,g7⟩
  . cases e
  . obtain rfl:g=t:=by simpa [Value.ownBlock] using e
    rw[h1] at g3
    simp at g3

theorem TableAt.ne'{w:World}{t q n:Nat}{v u:Value}{xs:List Value}(h1:w.heap[t]?=some (.cells #[v] 183 (0,0)))(h2:w.ownsRow q 86 3 u n xs):u.ownBlock≠some t:=by
  intro e
  rcases h2.2 with ⟨rfl,h0⟩|⟨g,cap,cur,rfl,g2,g3,g4,g5,g6,g7⟩
  . cases e
  . obtain rfl:g=t:=by simpa [Value.ownBlock] using e
    rw[h1] at g3
    simp at g3

set_option maxRecDepth 20000 in
theorem tput_at(k wds:Int)(m:Nat)(t q:Nat)(ts:List TypR)(w:World)(h:TableAt w t q ts)(hok:Dp k wds m=true)(hl:ts.length<64)(hq:q<w.heap.size):
    Calls prog 165 #[.pointer (some ⟨t,0,none⟩),.agg #[.int .u8 k,.int .i64 wds,.int .u64 (m:Nat)]] w λ e w'=>
      e=.returned (.int .i64 ((ts.length+1:Nat):Int))/\∃ q',TableAt w' t q' (ts++[⟨k,wds,m⟩])/\(q'=q\/w.heap.size<=q')/\Kp (λ b=>b=t\/b=q) w w':=by
  have HOK:=sE hok
  have HT:=sE h
  obtain⟨v,h1,h2,h3⟩:=h.ht
  have hne:=TableAt.ne h1 h2
  have H3:=sE h3
  have HNE:=sE hne
  have c0:w.cell? ⟨t,0,none⟩=some v:=by simp[World.cell?,h1]
  have f0:w.frozen? ⟨t,0,none⟩=false:=by simp[World.frozen?,h1]
  have lt:=lZ h1
  have HB:=sE h1
  have HO:=sE h2
  clear hok h h1 h2 h3 hne
  obtain⟨w5,hw5⟩:∃ w5,w5=w.alloc (.cells #[.int .u8 k,.int .i64 wds,.int .u64 (m:Nat)] 86):=⟨_,rfl⟩
  have k5:Kp Ab w w5:=by rw[hw5];exact (Kr _ w).alloc _
  have z5:Sl (w5.heap.size=w.heap.size+1):=⟨by rw[hw5];simp⟩
  have b5:w5.heap[w.heap.size]?=some (.cells #[.int .u8 k,.int .i64 wds,.int .u64 (m:Nat)] 86 (0,0)):=by rw[hw5];exact wN w _
  have d0:w5.cell? ⟨w.heap.size,0,none⟩=some (.int .u8 k):=by simp[World.cell?,b5]
  have d1:w5.cell? ⟨w.heap.size,1,none⟩=some (.int .i64 wds):=by simp[World.cell?,b5]
  have d2:w5.cell? ⟨w.heap.size,2,none⟩=some (.int .u64 (m:Nat)):=by simp[World.cell?,b5]
  have c5:=k5.cell c0 (λ h=>h)
  have f5:w5.frozen? ⟨t,0,none⟩=false:=by simp[World.frozen?,k5.at_ HB.out (λ h=>h)]
  go_enter func165,ntmps165
  go_wp2_with fail
  try rw[<- hw5]
  clear hw5
  go_wp2_with fail
  have hfl:=flatT_length ts
  have HFL:=sE hfl
  clear hfl
  have lt5:t<w5.heap.size:=Nat.lt_of_lt_of_le lt k5.size
  have lw5:w.heap.size<w5.heap.size:=lZ b5
  go_region_law
    (first
      | (obtain⟨i0,hi,hz0,hz1,hz2⟩:=info_parts infoType
         refine step_append_lies _ rfl _ _ 22 rfl q 86 i0 (.agg #[.int .u8 0,.int .i64 0,.int .u64 0]) 3 24 underlyingTypes hi hz0 hz1 hz2 rfl (by omega) v ts.length (Ff ts) rfl (Kp.owns (S:=Ab) (a:=w) (by (repeat (first|assumption|exact Kr _ _|refine Kp.drew ?_|refine Kp.alloc ?_ _|refine Kp.Av ?_ (by omega) _))) HO.out (λ b hb h=>h)) ⟨w5.heap.size,0,none⟩ 1 1 [.int .u8 k,.int .i64 wds,.int .u64 (m:Nat)] rfl rfl (World.news_of_block (wN w5 _)) (by simp[Value.oneCell']) (by omega) (by unfold maxLen;omega) (by omega) (by have:=z5.out;simp;omega) _ rfl ?_
         intro g cap wA hown hgrow hat hlt
         have KA:Kp (λ b=>v.ownBlock=some b) w5 wA:=((by (repeat (first|assumption|exact Kr _ _|refine Kp.drew ?_|refine Kp.alloc ?_ _|refine Kp.Av ?_ (by omega) _)):Kp Ab w5 _).Al (λ b=>v.ownBlock=some b)).grown hgrow (λ k e _=>e)
         have bA:=KA.at_ (k5.at_ HB.out (λ h=>h)) HNE.out
         have fA:=free_of_one bA
         have cA:=cell_of_one bA
         have HBA:=sE bA
         clear bA
         have HNW:¬ v.ownBlock=some w.heap.size:=λ e=>by have:=H3.out _ e;omega))
  all_goals
    clear hi hz0 hz1 hz2 c5 f5 d0 d1 d2 b5 cA fA
    have hq':g=q\/w.heap.size<=g:=by
      rcases hat with hat|hat
      . exact .inl (H3.out g hat)
      . right
        simp at hat
        have:=k5.size
        omega
    have gt:¬ g=t:=by
      intro e
      subst e
      exact TableAt.ne' HBA.out hown rfl
    obtain⟨wB,hwB⟩:∃ wB,wB=wA.setCell ⟨t,0,none⟩ (.slice (some ⟨g,0,none⟩) (ts.length+1) cap):=⟨_,rfl⟩
    rw[<- hwB]
    have bB:wB.heap[t]?=some (.cells #[.slice (some ⟨g,0,none⟩) (ts.length+1) cap] 183 (0,0)):=by rw[hwB];exact one_setCell HBA.out
    have cB:=cell_of_one bB
    have kB:Kp (λ b=>b=t) wA wB:=by rw[hwB];exact (Kr (λ b=>b=t) wA).setCell (λ _=>rfl) _
    have oB:=kB.owns hown (λ b hb e=>by cases hb;exact gt e)
    have KB:Kp (λ b=>b=t\/b=q) w wB:=((k5.Al (λ b=>b=t\/b=q)).trans KA (λ b hb e=>.inr (H3.out b e))).trans kB (λ b hb e=>.inl e)
    have TB:TableAt wB t g (ts++[⟨k,wds,m⟩]):=by
      refine⟨⟨_,bB,?_,λ b hb=>by cases hb;rfl⟩,by simp;omega,λ x hx=>?_⟩
      . rw[flatT_append,List.length_append]
        obtain⟨o1,o2⟩:=oB
        rcases o2 with ⟨o2,_⟩|⟨g',cap',cur,e,o3,o4⟩
        . cases o2
        . injection e with e1 _ e3
          injection e1 with e1
          injection e1 with e1
          subst e1 e3
          exact⟨o1,.inr ⟨_,_,_,rfl,Nat.le_refl _,o4⟩⟩
      . rcases List.mem_append.1 hx with hx|hx
        . exact HT.out.ok x hx
        . rw[List.mem_singleton.1 hx];exact HOK.out
    have HTB:=sE TB
    clear hwB hown hgrow hat TB oB bB
    go_wp2
    refine bodyPost_ret (v:=.int .i64 ((ts.length+1:Nat):Int)) (by simp[results,results165,go_sem]) rfl ⟨rfl,g,HTB.out,hq',KB⟩

def addE(n:Nat)(ok:Bool):Int:=if ok=false then 2 else if 64<=n then 4 else 0

def AddPost(k wds:Int)(m:Nat)(t q:Nat)(ts:List TypR)(w:World)(e:Ending)(w':World):Prop:=
  e=.returned (.tuple #[.int .i64 (if addE ts.length (Dp k wds m)=0 then ((ts.length+1:Nat):Int) else 0),.int .i64 (addE ts.length (Dp k wds m))])/\
  (if addE ts.length (Dp k wds m)=0 then ∃ q',TableAt w' t q' (ts++[⟨k,wds,m⟩])/\(q'=q\/w.heap.size<=q')/\Kp (λ b=>b=t\/b=q) w w' else Kp Ab w w')

set_option maxRecDepth 20000 in
theorem TAdd_any(k wds:Int)(m:Nat)(t q:Nat)(ts:List TypR)(w:World)(h:TableAt w t q ts)(hq:q<w.heap.size):
    Calls prog 124 #[.pointer (some ⟨t,0,none⟩),.agg #[.int .u8 k,.int .i64 wds,.int .u64 (m:Nat)]] w (AddPost k wds m t q ts w):=by
  have HT:=sE h
  obtain⟨v,h1,-,-⟩:=h.ht
  have lt:=lZ h1
  have few:=h.few
  clear h h1 v
  have kA:Kp Ab w (w.alloc (.cells #[.int .u8 k,.int .i64 wds,.int .u64 (m:Nat)] 86)):=(Kr _ w).alloc _
  have b5:=wN w (.cells #[.int .u8 k,.int .i64 wds,.int .u64 (m:Nat)] 86)
  obtain⟨w5,hw5⟩:∃ w5,w5=w.alloc (.cells #[.int .u8 k,.int .i64 wds,.int .u64 (m:Nat)] 86):=⟨_,rfl⟩
  rw[<- hw5] at kA b5
  have HCK:Sl (Calls prog 144 #[.agg #[.int .u8 k,.int .i64 wds,.int .u64 (m:Nat)]] w5 λ e w'=>e=.returned (.int .i64 (errV (Dp k wds m)))/\Kp Ab w5 w'):=⟨Dv k wds m w5⟩
  cases hok:Dp k wds m with
  |false=>
    have hE:Sl (addE ts.length (Dp k wds m)=2):=⟨by rw[hok,addE,if_pos rfl]⟩
    rw[hok] at HCK
    clear hok
    go_enter func124,ntmps124
    go_wp2_with fail
    try rw[<- hw5]
    clear hw5
    try go_wp2_with fail
    refine HCK.out.mono ?_
    rintro e w6 ⟨rfl,k6⟩
    rw[show errV false=2 from rfl]
    go_wp2
    refine bodyPost_ret (v:=.tuple #[.int .i64 0,.int .i64 2]) (by simp[results,results124,go_sem]) rfl ⟨?_,?_⟩
    . rw[hE.out];rfl
    . rw[hE.out,if_neg (by omega)]
      exact kA.then' k6
  |true=>
    rw[hok] at HCK
    have HOK:=sE hok
    clear hok
    by_cases hl:64<=ts.length
    . have hE:Sl (addE ts.length (Dp k wds m)=4):=⟨by rw[HOK.out,addE,if_neg (by simp),if_pos hl]⟩
      have d1:decide ((64:Int)<=(ts.length:Nat))=true:=dT (by omega)
      go_enter func124,ntmps124
      go_wp2_with fail
      try rw[<- hw5]
      clear hw5
      try go_wp2_with fail
      refine HCK.out.mono ?_
      rintro e w6 ⟨rfl,k6⟩
      rw[show errV true=0 from rfl]
      obtain⟨a,cap,c0,-⟩:=(HT.out.Ad (kA.then' k6)).head
      go_wp2
      refine bodyPost_ret (v:=.tuple #[.int .i64 0,.int .i64 4]) (by simp[results,results124,go_sem]) rfl ⟨?_,?_⟩
      . rw[hE.out];rfl
      . rw[hE.out,if_neg (by omega)]
        exact kA.then' k6
    . have hE:Sl (addE ts.length (Dp k wds m)=0):=⟨by rw[HOK.out,addE,if_neg (by simp),if_neg hl]⟩
      have d1:decide ((64:Int)<=(ts.length:Nat))=false:=dF (by omega)
      go_enter func124,ntmps124
      go_wp2_with fail
      try rw[<- hw5]
      clear hw5
      try go_wp2_with fail
      refine HCK.out.mono ?_
      rintro e w6 ⟨rfl,k6⟩
      rw[show errV true=0 from rfl]
      have K6:=kA.then' k6
      obtain⟨a,cap,c0,-⟩:=(HT.out.Ad K6).head
      have b6:=k6.at_ b5 (λ h=>h)
      have e0:w6.cell? ⟨w.heap.size,0,none⟩=some (.int .u8 k):=by simp[World.cell?,b6]
      have e1:w6.cell? ⟨w.heap.size,1,none⟩=some (.int .i64 wds):=by simp[World.cell?,b6]
      have e2:w6.cell? ⟨w.heap.size,2,none⟩=some (.int .u64 (m:Nat)):=by simp[World.cell?,b6]
      have z6:=K6.size
      have HP:Sl (∀ w',Kp Ab w6 w'->Calls prog 165 #[.pointer (some ⟨t,0,none⟩),.agg #[.int .u8 k,.int .i64 wds,.int .u64 (m:Nat)]] w' λ e w''=>
          e=.returned (.int .i64 ((ts.length+1:Nat):Int))/\∃ q',TableAt w'' t q' (ts++[⟨k,wds,m⟩])/\(q'=q\/w'.heap.size<=q')/\Kp (λ b=>b=t\/b=q) w' w''):=
        ⟨λ w' hk=>tput_at k wds m t q ts w' (HT.out.Ad (K6.then' hk)) HOK.out (by omega) (by have:=hk.size;omega)⟩
      clear b5 b6
      go_wp2_with fail
      go_region_held3 (λ w'=>w'.cell? ⟨w.heap.size,0,none⟩=some (.int .u8 k)/\w'.cell? ⟨w.heap.size,1,none⟩=some (.int .i64 wds)/\w'.cell? ⟨w.heap.size,2,none⟩=some (.int .u64 (m:Nat)))
        (first|go_keep|exact ⟨k7.cell e0 (by dsimp only;omega),k7.cell e1 (by dsimp only;omega),k7.cell e2 (by dsimp only;omega)⟩)
        (first|(go_at_call 165;refine (HP.out _ (by (repeat (first|assumption|exact Kr _ _|refine Kp.drew ?_|refine Kp.alloc ?_ _|refine Kp.Av ?_ (by omega) _)))).mono ?_;rintro e w7 ⟨rfl,q',T7,hq',k7⟩))
      clear e0 e1 e2
      have KK:Kp (λ b=>b=t\/b=q) w w7:=((K6.then' (Kr Ab w6).drew).Al _).trans k7 (λ b hb h=>h)
      go_wp2
      refine bodyPost_ret (v:=.tuple #[.int .i64 ((ts.length+1:Nat):Int),.int .i64 0]) (by simp[results,results124,go_sem]) rfl ⟨?_,?_⟩
      . rw[hE.out];rfl
      . rw[hE.out,if_pos rfl]
        exact⟨q',T7,by rcases hq' with h|h;exact .inl h;exact .inr (Nat.le_trans z6 h),KK⟩

def A9(w:World)(v:Value)(xs:List TypR):Prop:=
  ∃ a cap,v=.slice a xs.length cap/\∀ i x,xs[i]?=some x->∃ b o,a=some ⟨b,o,none⟩/\b<w.heap.size/\
    w.cell? ⟨b,o+i*3,none⟩=some (.int .u8 x.k)/\w.cell? ⟨b,o+i*3+1,none⟩=some (.int .i64 x.wds)/\w.cell? ⟨b,o+i*3+2,none⟩=some (.int .u64 (x.m:Nat))

theorem A9.Ad{w w':World}{v:Value}{xs:List TypR}(h:A9 w v xs)(k:Kp Ab w w'):A9 w' v xs:=by
  obtain⟨a,cap,rfl,h⟩:=h
  refine⟨a,cap,rfl,λ i x hi=>?_⟩
  obtain⟨b,o,rfl,h1,h2,h3,h4⟩:=h i x hi
  exact⟨b,o,rfl,Nat.lt_of_lt_of_le h1 k.size,k.cell h2 (λ h=>h),k.cell h3 (λ h=>h),k.cell h4 (λ h=>h)⟩

def FR:Nat->List TypR->Int
  |_,[]=>0
  |n,x::xs=>if addE n (Dp x.k x.wds x.m)=0 then FR (n+1) xs else addE n (Dp x.k x.wds x.m)

def NewTPost(xs:List TypR)(w:World)(e:Ending)(w':World):Prop:=
  Kp Ab w w'/\((FR 0 xs=0/\∃ t q,e=.returned (.tuple #[.pointer (some ⟨t,0,none⟩),.int .i64 0])/\TableAt w' t q xs/\w.heap.size<=t/\w.heap.size<=q/\q<w'.heap.size)\/
    (¬ FR 0 xs=0/\e=.returned (.tuple #[.pointer none,.int .i64 (FR 0 xs)])))

theorem TableAt.lt_t{w:World}{t q:Nat}{ts:List TypR}(h:TableAt w t q ts):t<w.heap.size:=by
  obtain⟨v,h1,-,-⟩:=h.ht
  exact lZ h1

theorem TableAt.lt_q{w:World}{t q:Nat}{ts:List TypR}(h:TableAt w t q ts)(hp:0<ts.length):q<w.heap.size:=by
  obtain⟨v,h1,h2,h3⟩:=h.ht
  rcases h2.2 with ⟨_,h0⟩|⟨g,cap,cur,rfl,g2,g3,g4,g5,g6,g7⟩
  . omega
  . obtain rfl:=h3 g rfl
    exact lZ g3

def NewTI(xs:List TypR)(w:World)(t:Nat)(y:Value)(wr:World):Prop:=
  ∃ j q,j<=xs.length/\y=.int .i64 (j:Nat)/\TableAt wr t q (xs.take j)/\w.heap.size<=q/\q<wr.heap.size/\FR j (xs.drop j)=FR 0 xs/\Kp Ab w wr

theorem tab_next{xs:List TypR}{j:Nat}{x:TypR}(hx:xs[j]?=some x):FR j (xs.drop j)=if addE j (Dp x.k x.wds x.m)=0 then FR (j+1) (xs.drop (j+1)) else addE j (Dp x.k x.wds x.m):=by
  have hj:=(gE.1 hx).1
  have e:xs[j]=x:=(gE.1 hx).2
  rw[List.drop_eq_getElem_cons hj,e,FR]

set_option maxRecDepth 20000 in
theorem TNew_any(v:Value)(xs:List TypR)(w:World)(hv:A9 w v xs)(hlen:xs.length<=17592186044416):
    Calls prog 80 #[v] w (NewTPost xs w):=by
  have HV:=sE hv
  obtain⟨va,vc,rfl,-⟩:=hv
  obtain⟨len,hlen'⟩:∃ len,xs.length=len:=⟨_,rfl⟩
  rw[hlen'] at HV hlen ⊢
  have HL:=sE hlen'
  clear hlen'
  go_enter func80,ntmps80
  go_wp2_with fail
  obtain⟨w1,hw1⟩:∃ w1,w1=w.alloc (.cells #[.slice none 0 0] 183):=⟨_,rfl⟩
  rw[<- hw1]
  have k1:Kp Ab w w1:=by rw[hw1];exact (Kr _ w).alloc _
  have b1:w1.heap[w.heap.size]?=some (.cells #[.slice none 0 0] 183 (0,0)):=by rw[hw1];exact wN w _
  have lb1:=lZ b1
  have T1:TableAt w1 w.heap.size w.heap.size []:=⟨⟨_,b1,World.ownsRow_nil w1 _ _ _,λ b hb=>by cases hb⟩,by simp,λ x hx=>by cases hx⟩
  clear hw1 b1
  go_loopw [13] (λ y wr=>NewTI xs w w.heap.size y wr) (λ y _=>len-(intOf y).toNat)
  case atStart=>exact ⟨0,w.heap.size,Nat.zero_le _,rfl,T1,Nat.le_refl _,lb1,rfl,k1⟩
  case round=>
    obtain⟨j,q,hj,rfl,T,hq,hq2,hE,hk⟩:=hrel
    rw[HL.out] at hj
    by_cases hjl:j<len
    . have hjl':(j:Int)<len:=by omega
      obtain⟨va',vc',e,hx⟩:=HV.out
      injection e with e1 e3 e2
      clear e3
      subst e1 e2
      obtain⟨x,hxj⟩:∃ x,xs[j]?=some x:=⟨xs[j]'(by rw[HL.out];omega),List.getElem?_eq_getElem (by rw[HL.out];omega)⟩
      obtain⟨b,o,rfl,hbl,x0,x1,x2⟩:=hx j x hxj
      have hnx:=tab_next hxj
      obtain⟨k,wds,m⟩:=x
      dsimp only at x0 x1 x2 hnx
      have hbl':b<wr.heap.size:=by have:=hk.size;omega
      have y0:=hk.cell x0 (λ h=>h)
      have y1:=hk.cell x1 (λ h=>h)
      have y2:=hk.cell x2 (λ h=>h)
      have htl:(xs.take j).length=j:=by rw[List.length_take,HL.out];omega
      have hts:xs.take j++[⟨k,wds,m⟩]=xs.take (j+1):=by
        rw[List.take_add_one,hxj];rfl
      have HADD:Sl (∀ w',Kp Ab wr w'->Calls prog 124 #[.pointer (some ⟨w.heap.size,0,none⟩),.agg #[.int .u8 k,.int .i64 wds,.int .u64 (m:Nat)]] w' (AddPost k wds m w.heap.size q (xs.take j) w')):=
        ⟨λ w' h'=>TAdd_any k wds m w.heap.size q _ w' (T.Ad h') (by have:=h'.size;omega)⟩
      have kA:Kp Ab wr (wr.alloc (.cells #[.int .u8 k,.int .i64 wds,.int .u64 (m:Nat)] 86)):=(Kr _ wr).alloc _
      have HKA:=sE kA
      have HE:=sE hE
      have HNX:=sE hnx
      have HTS:=sE hts
      have HXJ:=sE hxj
      clear kA hE hnx hts hxj hx x0 x1 x2 T
      go_wp2_with fail
      refine(HADD.out _ HKA.out).mono ?_
      rintro e w2 ⟨rfl,hp⟩
      rw[htl] at hp ⊢
      have kN:=HKA.out
      clear y0 y1 y2
      by_cases hz:addE j (Dp k wds m)=0
      . rw[if_pos hz] at hp ⊢
        rw[hz]
        obtain⟨q',T',hq',k'⟩:=hp
        rw[HTS.out] at T'
        have HT':=sE T'
        have HN':Sl (FR (j+1) (xs.drop (j+1))=FR 0 xs):=⟨by have:=HNX.out;rw [if_pos hz] at this;rw [<- this];exact HE.out⟩
        have hl1:0<(xs.take (j+1)).length:=by rw[List.length_take,HL.out];omega
        have lq':=T'.lt_q hl1
        have z2:=kN.size
        have z3:=k'.size
        clear T'
        go_wp2
        refine⟨⟨j+1,q',by rw[HL.out];omega,by go_num,HT'.out,by omega,lq',HN'.out,?_⟩,by simp only[intOf];omega⟩
        exact(hk.trans kN (λ i hi h=>h)).trans k' (λ i hi h=>by omega)
      . rw[if_neg hz] at hp ⊢
        have HN':Sl (addE j (Dp k wds m)=FR 0 xs):=⟨by have:=HNX.out;rw [if_neg hz] at this;rw [<- this];exact HE.out⟩
        rw[HN'.out] at hz ⊢
        obtain⟨E,hEE⟩:∃ E,FR 0 xs=E:=⟨_,rfl⟩
        have HEE:=sE hEE
        rw[hEE] at hz ⊢
        have hb:(E !=0)=true:=by simpa using hz
        clear hEE HN'
        go_wp2
        refine bodyPost_ret (v:=.tuple #[.pointer none,.int .i64 E]) (by simp[results,results80,go_sem]) rfl ⟨(hk.trans kN (λ i hi h=>h)).trans hp (λ i hi h=>h),.inr ⟨by rw[HEE.out];exact hz,by rw[HEE.out]⟩⟩
    . have hjl':¬ (j:Int)<len:=by omega
      have hjj:j=xs.length:=by rw[HL.out];omega
      have HJ:=sE hjj
      have T2:=T
      rw[hjj,List.take_length] at T2
      have hE2:=hE
      rw[hjj,List.drop_length] at hE2
      have HT2:=sE T2
      have HE2:=sE hE2
      clear T T2 hE hE2 hjj
      go_wp2
      refine bodyPost_ret (v:=.tuple #[.pointer (some ⟨w.heap.size,0,none⟩),.int .i64 0]) (by simp[results,results80,go_sem]) rfl ⟨hk,.inl ⟨HE2.out.symm,w.heap.size,q,rfl,HT2.out,Nat.le_refl _,hq,hq2⟩⟩

section
variable {P:Program}

theorem Ch{w:World}{ops:Array Oper}{o:Oper}{a:Act}{K:Act->World->Prop}{Q:Exit->Act->World->Prop}{E:Prop}(hgd:o.guard=none){d:Tmp}(hd:o.dst=some d)(s x:Operand)(t:TypeId)
    (ho:o.op=.call {callee:=.builtin .append,args:=#[s,x],argTypes:=#[t,t]}) (base:Nat) (e:TypeId) (i:TypeInfo) (z:Value) (size bytes:Nat) (ht:P.underlying t=some (.slice e)) (hi:P.info? e=some i) (hz:i.zero=some z)
    (hsize:i.size=size) (hby:i.bytes=bytes) (hzs:z.cells.size=size) (hsz:0<size)
    (v:Value) (n:Nat) (xs:List Value) (hs:a.eval s=v) (hown:w.ownsRow base e size v n xs)
    (ad:Addr) (m c:Nat) (news:List Value) (hx:a.eval x=.slice (some ad) m c) (hl:news.length=m*size) (hnews:∀ j u,news[j]?=some u->w.cell? (ad.add j)=some u) (h1:∀ u∈news,u.oneCell'=true)
    (h63:n+m<=maxLen) (hbytes:(n+m)*bytes<=140737488355328) (hbase:base<=w.heap.size)
    (h:∀ v' w',w'.ownsRow base e size v' (n+m) (xs++news)->w.grownBy w' v.ownBlock->(v'.ownBlock=v.ownBlock\/v'.ownBlock=some w.heap.size)->K (a.put (some d) v') w'):
    if Region.wanted o (yielded ops a.tmps)=true then Oper.wp P o a w K Q else E:=by
  have hw:Region.wanted o (yielded ops a.tmps)=true:=by simp[Region.wanted,hgd]
  rw[if_pos hw]
  obtain⟨v',w',hr,h2,h3,_,h5⟩:=run_append_own_at (P:=P) w base t o.type e i z size bytes ht hi hz hsize hby hzs hsz v n xs hown ad m c news hl hnews h1 h63 hbytes hbase
  unfold Oper.wp execOp
  simp only[ho,resolve,invoke,builtin,Sem.run_bind,Sem.run_pure,Result.andThen_ok,List.map_toArray,List.map_cons,List.map_nil,hs,hx,hr]
  have:=h v' w' h2 h3 h5
  rw[<- hd] at this
  exact this

end

end

section
open Go.RowKit

theorem DD{M w:Nat}(hM:M<18446744073709551616):M/2 ^ w=0 ↔ ∀ i,w<=i->i<64->M/2 ^ i%2=0:=by
 have hbit:∀ i,(M/2 ^ i%2=0) ↔ M.testBit i=false:=λ i=>by
  rw[Nat.testBit_eq_decide_div_mod_eq]
  simp
 constructor
 .intro h i hi _
  have hp:0<2 ^ w:=Nat.two_pow_pos w
  have h1:M<2 ^ w:=by
   rcases Nat.lt_or_ge M (2 ^ w) with h1|h1
   .exact h1
   .have:=Nat.div_pos h1 hp;omega
  have h2:M<2 ^ i:=Nat.lt_of_lt_of_le h1 (Nat.pow_le_pow_right (by omega) hi)
  rw[Nat.div_eq_of_lt h2]
 .intro h
  refine Nat.eq_of_testBit_eq λ j=>?_
  rw[Nat.testBit_div_two_pow,Nat.zero_testBit]
  by_cases hj:j+w<64
  .have:=(hbit (j+w)).1 (h (j+w) (by omega) hj)
   exact this
  .refine Nat.testBit_lt_two_pow ?_
   refine Nat.lt_of_lt_of_le hM ?_
   rw[show (18446744073709551616:Nat)=2 ^ 64 from rfl]
   exact Nat.pow_le_pow_right (by omega) (by omega)

def MayI(M W:Nat)(w:World)(y:Value)(wr:World):Prop:=∃ i,W<=i/\i<=64/\y=.int .i64 (i:Nat)/\(∀ j,W<=j->j<i->M/2 ^ j%2=0)/\wr=w

theorem mod_ne{M i:Nat}(h:M/2 ^ i%2=0):((((M:Nat):Int)/2 ^ i).tmod 2==1)=false:=by
 have:(((M:Nat):Int)/2 ^ i).tmod 2=((M/2 ^ i%2:Nat):Int):=by
  rw[Int.tmod_eq_emod_of_nonneg (Int.ediv_nonneg (by omega) (Int.le_of_lt (Int.pow_pos (by omega))))]
  push_cast;rfl
 rw[this,h];rfl

theorem mod_eq{M i:Nat}(h:¬ M/2 ^ i%2=0):((((M:Nat):Int)/2 ^ i).tmod 2==1)=true:=by
 have:(((M:Nat):Int)/2 ^ i).tmod 2=((M/2 ^ i%2:Nat):Int):=by
  rw[Int.tmod_eq_emod_of_nonneg (Int.ediv_nonneg (by omega) (Int.le_of_lt (Int.pow_pos (by omega))))]
  push_cast;rfl
 rw[this,show M/2 ^ i%2=1 by omega];rfl

theorem DMay_fix(W:Nat)(M:Nat)(w:World)(hM:M<18446744073709551616)(h0:W<=64):
  Calls prog 171 #[.agg #[.int .u8 1,.int .i64 (W:Nat),.int .u64 (M:Nat)]] w λ e w'=>e=.returned (.bool (decide (M/2 ^ W=0)))/\Kp Ab w w':=by
 have d1:decide ((W:Int)<0)=false:=dF (by omega)
 have d2:decide ((64:Int)<(W:Int))=false:=dF (by omega)
 obtain⟨ok,hok⟩:∃ ok,decide (M/2 ^ W=0)=ok:=⟨_,rfl⟩
 have HOK:=sE hok
 rw[hok]
 clear hok
 go_enter func171,ntmps171
 go_wp2_with fail
 obtain⟨w1,hw1⟩:∃ w1,w1=w.alloc (.cells #[.int .u8 1,.int .i64 (W:Nat),.int .u64 (M:Nat)] 86):=⟨_,rfl⟩
 have k1:Kp Ab w w1:=by rw[hw1];exact (Kr _ w).alloc _
 have b1:w1.heap[w.heap.size]?=some (.cells #[.int .u8 1,.int .i64 (W:Nat),.int .u64 (M:Nat)] 86 (0,0)):=by rw[hw1];exact wN w _
 have c2:w1.cell? ⟨w.heap.size,2,none⟩=some (.int .u64 (M:Nat)):=by simp[World.cell?,b1]
 rw[<- hw1]
 clear hw1 b1
 go_loopw [4] (λ y wr=>MayI M W w1 y wr) (λ y _=>64-(intOf y).toNat)
 case atStart=>exact ⟨W,Nat.le_refl _,h0,rfl,λ j a b=>by omega,rfl⟩
 case round=>
  obtain⟨i,hi1,hi2,rfl,hall,rfl⟩:=hrel
  have HA:=sE hall
  clear hall
  by_cases hil:i<64
  .have hil':(i:Int)<64:=by omega
   by_cases hb:M/2 ^ i%2=0
   .have HB:=sE hb
    have t1:((((M:Nat):Int)/2 ^ i).tmod 2==1)=false:=mod_ne hb
    clear hb
    go_wp2
    refine⟨⟨i+1,by omega,by omega,by go_num,λ j a b=>?_,rfl⟩,by simp only[intOf];omega⟩
    by_cases e:j=i
    .rw [e];exact HB.out
    .exact HA.out j a (by omega)
   .have hz:decide (M/2 ^ W=0)=false:=dF (λ h=>hb ((DD hM).1 h i hi1 hil))
    have t1:((((M:Nat):Int)/2 ^ i).tmod 2==1)=true:=mod_eq hb
    have HZ:=sE (HOK.out.symm.trans hz)
    clear hb hz
    go_wp2
    go_ret
    exact⟨by rw[HZ.out];rfl,k1⟩
  .have hil':¬ (i:Int)<64:=by omega
   have hz:decide (M/2 ^ W=0)=true:=dT ((DD hM).2 λ j a b=>HA.out j a (by omega))
   have HZ:=sE (HOK.out.symm.trans hz)
   clear hz
   go_wp2
   go_ret
   exact⟨by rw[HZ.out];rfl,k1⟩

theorem DMay_structs(W:Nat)(M:Nat)(w:World)(hM:M<18446744073709551616)(h0:1<=W)(h1:W<=16):
  Calls prog 171 #[.agg #[.int .u8 3,.int .i64 (W:Nat),.int .u64 (M:Nat)]] w λ e w'=>e=.returned (.bool (decide (M/2 ^ W=0)))/\Kp Ab w w':=by
 have d1:decide ((W:Int)<1)=false:=dF (by omega)
 have d2:decide ((16:Int)<(W:Int))=false:=dF (by omega)
 obtain⟨ok,hok⟩:∃ ok,decide (M/2 ^ W=0)=ok:=⟨_,rfl⟩
 have HOK:=sE hok
 rw[hok]
 clear hok
 go_enter func171,ntmps171
 go_wp2_with fail
 obtain⟨w1,hw1⟩:∃ w1,w1=w.alloc (.cells #[.int .u8 3,.int .i64 (W:Nat),.int .u64 (M:Nat)] 86):=⟨_,rfl⟩
 have k1:Kp Ab w w1:=by rw[hw1];exact (Kr _ w).alloc _
 have b1:w1.heap[w.heap.size]?=some (.cells #[.int .u8 3,.int .i64 (W:Nat),.int .u64 (M:Nat)] 86 (0,0)):=by rw[hw1];exact wN w _
 have c2:w1.cell? ⟨w.heap.size,2,none⟩=some (.int .u64 (M:Nat)):=by simp[World.cell?,b1]
 rw[<- hw1]
 clear hw1 b1
 go_loopw [4] (λ y wr=>MayI M W w1 y wr) (λ y _=>64-(intOf y).toNat)
 case atStart=>exact ⟨W,Nat.le_refl _,(by omega),rfl,λ j a b=>by omega,rfl⟩
 case round=>
  obtain⟨i,hi1,hi2,rfl,hall,rfl⟩:=hrel
  have HA:=sE hall
  clear hall
  by_cases hil:i<64
  .have hil':(i:Int)<64:=by omega
   by_cases hb:M/2 ^ i%2=0
   .have HB:=sE hb
    have t1:((((M:Nat):Int)/2 ^ i).tmod 2==1)=false:=mod_ne hb
    clear hb
    go_wp2
    refine⟨⟨i+1,by omega,by omega,by go_num,λ j a b=>?_,rfl⟩,by simp only[intOf];omega⟩
    by_cases e:j=i
    .rw [e];exact HB.out
    .exact HA.out j a (by omega)
   .have hz:decide (M/2 ^ W=0)=false:=dF (λ h=>hb ((DD hM).1 h i hi1 hil))
    have t1:((((M:Nat):Int)/2 ^ i).tmod 2==1)=true:=mod_eq hb
    have HZ:=sE (HOK.out.symm.trans hz)
    clear hb hz
    go_wp2
    go_ret
    exact⟨by rw[HZ.out];rfl,k1⟩
  .have hil':¬ (i:Int)<64:=by omega
   have hz:decide (M/2 ^ W=0)=true:=dT ((DD hM).2 λ j a b=>HA.out j a (by omega))
   have HZ:=sE (HOK.out.symm.trans hz)
   clear hz
   go_wp2
   go_ret
   exact⟨by rw[HZ.out];rfl,k1⟩

theorem DMay_refs(M:Nat)(w:World)(hM:M<18446744073709551616):
  Calls prog 171 #[.agg #[.int .u8 2,.int .i64 0,.int .u64 (M:Nat)]] w λ e w'=>e=.returned (.bool (decide (M/2 ^ 0=0)))/\Kp Ab w w':=by
 obtain⟨ok,hok⟩:∃ ok,decide (M/2 ^ 0=0)=ok:=⟨_,rfl⟩
 have HOK:=sE hok
 rw[hok]
 clear hok
 go_enter func171,ntmps171
 go_wp2_with fail
 obtain⟨w1,hw1⟩:∃ w1,w1=w.alloc (.cells #[.int .u8 2,.int .i64 0,.int .u64 (M:Nat)] 86):=⟨_,rfl⟩
 have k1:Kp Ab w w1:=by rw[hw1];exact (Kr _ w).alloc _
 have b1:w1.heap[w.heap.size]?=some (.cells #[.int .u8 2,.int .i64 0,.int .u64 (M:Nat)] 86 (0,0)):=by rw[hw1];exact wN w _
 have c2:w1.cell? ⟨w.heap.size,2,none⟩=some (.int .u64 (M:Nat)):=by simp[World.cell?,b1]
 rw[<- hw1]
 clear hw1 b1
 go_loopw [4] (λ y wr=>MayI M 0 w1 y wr) (λ y _=>64-(intOf y).toNat)
 case atStart=>exact ⟨0,Nat.le_refl _,(by omega),rfl,λ j a b=>by omega,rfl⟩
 case round=>
  obtain⟨i,hi1,hi2,rfl,hall,rfl⟩:=hrel
  have HA:=sE hall
  clear hall
  by_cases hil:i<64
  .have hil':(i:Int)<64:=by omega
   by_cases hb:M/2 ^ i%2=0
   .have HB:=sE hb
    have t1:((((M:Nat):Int)/2 ^ i).tmod 2==1)=false:=mod_ne hb
    clear hb
    go_wp2
    refine⟨⟨i+1,by omega,by omega,by go_num,λ j a b=>?_,rfl⟩,by simp only[intOf];omega⟩
    by_cases e:j=i
    .rw [e];exact HB.out
    .exact HA.out j a (by omega)
   .have hz:decide (M/2 ^ 0=0)=false:=dF (λ h=>hb ((DD hM).1 h i hi1 hil))
    have t1:((((M:Nat):Int)/2 ^ i).tmod 2==1)=true:=mod_eq hb
    have HZ:=sE (HOK.out.symm.trans hz)
    clear hb hz
    go_wp2
    go_ret
    exact⟨by rw[HZ.out];rfl,k1⟩
  .have hil':¬ (i:Int)<64:=by omega
   have hz:decide (M/2 ^ 0=0)=true:=dT ((DD hM).2 λ j a b=>HA.out j a (by omega))
   have HZ:=sE (HOK.out.symm.trans hz)
   clear hz
   go_wp2
   go_ret
   exact⟨by rw[HZ.out];rfl,k1⟩

theorem DMay_raw(M:Nat)(w:World)(hM:M<18446744073709551616):
  Calls prog 171 #[.agg #[.int .u8 4,.int .i64 0,.int .u64 (M:Nat)]] w λ e w'=>e=.returned (.bool (decide (M/2 ^ 0=0)))/\Kp Ab w w':=by
 obtain⟨ok,hok⟩:∃ ok,decide (M/2 ^ 0=0)=ok:=⟨_,rfl⟩
 have HOK:=sE hok
 rw[hok]
 clear hok
 go_enter func171,ntmps171
 go_wp2_with fail
 obtain⟨w1,hw1⟩:∃ w1,w1=w.alloc (.cells #[.int .u8 4,.int .i64 0,.int .u64 (M:Nat)] 86):=⟨_,rfl⟩
 have k1:Kp Ab w w1:=by rw[hw1];exact (Kr _ w).alloc _
 have b1:w1.heap[w.heap.size]?=some (.cells #[.int .u8 4,.int .i64 0,.int .u64 (M:Nat)] 86 (0,0)):=by rw[hw1];exact wN w _
 have c2:w1.cell? ⟨w.heap.size,2,none⟩=some (.int .u64 (M:Nat)):=by simp[World.cell?,b1]
 rw[<- hw1]
 clear hw1 b1
 go_loopw [4] (λ y wr=>MayI M 0 w1 y wr) (λ y _=>64-(intOf y).toNat)
 case atStart=>exact ⟨0,Nat.le_refl _,(by omega),rfl,λ j a b=>by omega,rfl⟩
 case round=>
  obtain⟨i,hi1,hi2,rfl,hall,rfl⟩:=hrel
  have HA:=sE hall
  clear hall
  by_cases hil:i<64
  .have hil':(i:Int)<64:=by omega
   by_cases hb:M/2 ^ i%2=0
   .have HB:=sE hb
    have t1:((((M:Nat):Int)/2 ^ i).tmod 2==1)=false:=mod_ne hb
    clear hb
    go_wp2
    refine⟨⟨i+1,by omega,by omega,by go_num,λ j a b=>?_,rfl⟩,by simp only[intOf];omega⟩
    by_cases e:j=i
    .rw [e];exact HB.out
    .exact HA.out j a (by omega)
   .have hz:decide (M/2 ^ 0=0)=false:=dF (λ h=>hb ((DD hM).1 h i hi1 hil))
    have t1:((((M:Nat):Int)/2 ^ i).tmod 2==1)=true:=mod_eq hb
    have HZ:=sE (HOK.out.symm.trans hz)
    clear hb hz
    go_wp2
    go_ret
    exact⟨by rw[HZ.out];rfl,k1⟩
  .have hil':¬ (i:Int)<64:=by omega
   have hz:decide (M/2 ^ 0=0)=true:=dT ((DD hM).2 λ j a b=>HA.out j a (by omega))
   have HZ:=sE (HOK.out.symm.trans hz)
   clear hz
   go_wp2
   go_ret
   exact⟨by rw[HZ.out];rfl,k1⟩

theorem DMay_any(k wds:Int)(M:Nat)(w:World)(hM:M<18446744073709551616):
  Calls prog 171 #[.agg #[.int .u8 k,.int .i64 wds,.int .u64 (M:Nat)]] w λ e w'=>e=.returned (.bool (Dp k wds M))/\Kp Ab w w':=by
 have kA:=(Kr Ab w).alloc (.cells #[.int .u8 k,.int .i64 wds,.int .u64 (M:Nat)] 86)
 have loop:∀ W:Nat,W<=64->wds=(W:Nat)->((decide (64<=wds)||decide (M/2 ^ wds.toNat=0))=decide (M/2 ^ W=0)):=by
  rintro W hW rfl
  by_cases h:W=64
  .subst h
   rw[Nat.div_eq_of_lt (show M<2 ^ 64 from hM)]
   simp
  .have:¬ (64:Int)<=(W:Nat):=by omega
   simp[this]
 by_cases k1:k=1
 .subst k1
  by_cases h1:wds<0
  .have e:Dp 1 wds M=false:=by simp[Dp];omega
   have d1:decide (wds<0)=true:=dT h1
   rw[e]
   clear e loop
   go_enter func171,ntmps171
   go_wp2
   go_ret
   exact⟨rfl,kA⟩
  .by_cases h2:64<wds
   .have e:Dp 1 wds M=false:=by simp[Dp];omega
    have d1:decide (wds<0)=false:=dF h1
    have d2:decide (64<wds)=true:=dT h2
    rw[e]
    clear e loop
    go_enter func171,ntmps171
    go_wp2
    go_ret
    exact⟨rfl,kA⟩
   .obtain ⟨W,rfl⟩:=Int.eq_ofNat_of_zero_le (show 0<=wds by omega)
    have e:Dp 1 (W:Nat) M=decide (M/2 ^ W=0):=by
     rw[Dp,loop W (by omega) rfl,dT (show (1:Int)=1/\0<=((W:Nat):Int)/\((W:Nat):Int)<=64 by omega)]
     simp
    rw[e]
    exact DMay_fix W M w hM (by omega)
 by_cases k3:k=3
 .subst k3
  by_cases h1:wds<1
  .have e:Dp 3 wds M=false:=by simp[Dp];omega
   have d1:decide (wds<1)=true:=dT h1
   rw[e]
   clear e loop
   go_enter func171,ntmps171
   go_wp2
   go_ret
   exact⟨rfl,kA⟩
  .by_cases h2:16<wds
   .have e:Dp 3 wds M=false:=by simp[Dp];omega
    have d1:decide (wds<1)=false:=dF h1
    have d2:decide (16<wds)=true:=dT h2
    rw[e]
    clear e loop
    go_enter func171,ntmps171
    go_wp2
    go_ret
    exact⟨rfl,kA⟩
   .obtain ⟨W,rfl⟩:=Int.eq_ofNat_of_zero_le (show 0<=wds by omega)
    have e:Dp 3 (W:Nat) M=decide (M/2 ^ W=0):=by
     rw[Dp,loop W (by omega) rfl,dT (show (3:Int)=3/\1<=((W:Nat):Int)/\((W:Nat):Int)<=16 by omega)]
     simp
    rw[e]
    exact DMay_structs W M w hM (by omega) (by omega)
 by_cases k24:k=2\/k=4
 .by_cases h1:wds=0
  .subst h1
   have e:Dp k 0 M=decide (M/2 ^ 0=0):=by
    rw[Dp,loop 0 (by omega) rfl,dT (show (k=2\/k=4)/\(0:Int)=0 from ⟨k24,rfl⟩)]
    simp
   rw[e]
   rcases k24 with rfl|rfl
   .exact DMay_refs M w hM
   .exact DMay_raw M w hM
  .have e:Dp k wds M=false:=by simp[Dp];omega
   have d1:(wds !=0)=true:=by simpa using h1
   rw[e]
   clear e loop
   rcases k24 with rfl|rfl
   .go_enter func171,ntmps171
    go_wp2
    go_ret
    exact⟨rfl,kA⟩
   .go_enter func171,ntmps171
    go_wp2
    go_ret
    exact⟨rfl,kA⟩
 .have e:Dp k wds M=false:=by simp[Dp];omega
  have b1:(k==1)=false:=by simpa using k1
  have b2:(k==2)=false:=by simp;omega
  have b3:(k==3)=false:=by simpa using k3
  have b4:(k==4)=false:=by simp;omega
  rw[e]
  clear e loop
  go_enter func171,ntmps171
  go_wp2
  go_ret
  exact⟨rfl,kA⟩

def EQ(k wds:Int)(M:Nat)(n:Int)(w:World)(e:Ending)(w':World):Prop:=
 e=.returned (.tuple #[.int .i64 (if AP k wds M n=0 then AL k wds n else 0),.int .i64 (AP k wds M n)])/\Kp Ab w w'

theorem DSlots_any(k wds:Int)(M:Nat)(n:Int)(w:World)(hM:M<18446744073709551616):
  Calls prog 133 #[.agg #[.int .u8 k,.int .i64 wds,.int .u64 (M:Nat)],.int .i64 n] w (EQ k wds M n w):=by
 obtain⟨w1,hw1⟩:∃ w1,w1=w.alloc (.cells #[.int .u8 k,.int .i64 wds,.int .u64 (M:Nat)] 86):=⟨_,rfl⟩
 have k1:Kp Ab w w1:=by rw[hw1];exact (Kr _ w).alloc _
 have b1:w1.heap[w.heap.size]?=some (.cells #[.int .u8 k,.int .i64 wds,.int .u64 (M:Nat)] 86 (0,0)):=by rw[hw1];exact wN w _
 have HMay:=sE (DMay_any k wds M w1 hM)
 have hsm:AP k wds M n=0->0<=n/\n<=4096/\(k=1->n=0)/\(k=3->1<=wds/\wds<=16):=λ h=>by
  obtain⟨_,a2,a3,a4,a5⟩:=Ec h
  exact⟨a2,a3,a4,λ h=>by omega⟩
 have HSm:=sE hsm
 clear hsm
 have HB1:=sE b1
 clear b1
 cases hok:Dp k wds M with
 |false=>
  have e:AP k wds M n=2:=by rw[AP,hok];rfl
  have HE:=sE e
  rw[hok] at HMay
  clear e hok
  go_enter func133,ntmps133
  go_wp2_with fail
  try rw[<- hw1]
  clear hw1
  try go_wp2_with fail
  refine HMay.out.mono ?_
  rintro e w2 ⟨rfl,k2⟩
  go_wp2
  exact bodyPost_ret (v:=.tuple #[.int .i64 0,.int .i64 2]) (by simp[results,results133,go_sem]) rfl ⟨by rw[HE.out];rfl,k1.then' k2⟩
 |true=>
  have HOK:=sE hok
  rw[hok] at HMay
  clear hok
  by_cases hn:n<0
  .have HE:Sl (AP k wds M n=2):=⟨by rw[AP,HOK.out,dF (show ¬ 0<=n by omega)];rfl⟩
   have d1:decide (n<0)=true:=dT hn
   go_enter func133,ntmps133
   go_wp2_with fail
   try rw[<- hw1]
   clear hw1
   try go_wp2_with fail
   refine HMay.out.mono ?_
   rintro e w2 ⟨rfl,k2⟩
   have b2:=k2.at_ HB1.out (λ h=>h)
   have c0:w2.cell? ⟨w.heap.size,0,none⟩=some (.int .u8 k):=by simp[World.cell?,b2]
   have c1:w2.cell? ⟨w.heap.size,1,none⟩=some (.int .i64 wds):=by simp[World.cell?,b2]
   clear b2
   go_wp2
   exact bodyPost_ret (v:=.tuple #[.int .i64 0,.int .i64 2]) (by simp[results,results133,go_sem]) rfl ⟨by rw[HE.out];rfl,k1.then' k2⟩
  have d1:decide (n<0)=false:=dF hn
  by_cases hk:k=1
  .subst hk
   by_cases h0:n=0
   .subst h0
    have HE:Sl (AP 1 wds M 0=0):=⟨by rw[AP,HOK.out];rfl⟩
    have HSl:Sl (AL 1 wds 0=wds):=⟨by rw[AL,if_pos rfl]⟩
    go_enter func133,ntmps133
    go_wp2_with fail
    try rw[<- hw1]
    clear hw1
    try go_wp2_with fail
    refine HMay.out.mono ?_
    rintro e w2 ⟨rfl,k2⟩
    have b2:=k2.at_ HB1.out (λ h=>h)
    have c0:w2.cell? ⟨w.heap.size,0,none⟩=some (.int .u8 1):=by simp[World.cell?,b2]
    have c1:w2.cell? ⟨w.heap.size,1,none⟩=some (.int .i64 wds):=by simp[World.cell?,b2]
    clear b2
    go_wp2
    exact bodyPost_ret (v:=.tuple #[.int .i64 wds,.int .i64 0]) (by simp[results,results133,go_sem]) rfl ⟨by rw[HE.out];rw [if_pos rfl,HSl.out],k1.then' k2⟩
   .have HE:Sl (AP 1 wds M n=2):=⟨by rw[AP,HOK.out,dT (show 0<=n by omega),dF h0];rfl⟩
    have d2:(n !=0)=true:=by simpa using h0
    go_enter func133,ntmps133
    go_wp2_with fail
    try rw[<- hw1]
    clear hw1
    try go_wp2_with fail
    refine HMay.out.mono ?_
    rintro e w2 ⟨rfl,k2⟩
    have b2:=k2.at_ HB1.out (λ h=>h)
    have c0:w2.cell? ⟨w.heap.size,0,none⟩=some (.int .u8 1):=by simp[World.cell?,b2]
    have c1:w2.cell? ⟨w.heap.size,1,none⟩=some (.int .i64 wds):=by simp[World.cell?,b2]
    clear b2
    go_wp2
    exact bodyPost_ret (v:=.tuple #[.int .i64 0,.int .i64 2]) (by simp[results,results133,go_sem]) rfl ⟨by rw[HE.out];rfl,k1.then' k2⟩
  .have b1':(k==1)=false:=by simpa using hk
   by_cases hl:4096<n
   .have HE:Sl (AP k wds M n=5):=⟨by rw[AP,HOK.out,dT (show 0<=n by omega),dT hk,if_pos (by simp),if_pos hl]⟩
    have d2:decide (4096<n)=true:=dT hl
    go_enter func133,ntmps133
    go_wp2_with fail
    try rw[<- hw1]
    clear hw1
    try go_wp2_with fail
    refine HMay.out.mono ?_
    rintro e w2 ⟨rfl,k2⟩
    have b2:=k2.at_ HB1.out (λ h=>h)
    have c0:w2.cell? ⟨w.heap.size,0,none⟩=some (.int .u8 k):=by simp[World.cell?,b2]
    have c1:w2.cell? ⟨w.heap.size,1,none⟩=some (.int .i64 wds):=by simp[World.cell?,b2]
    clear b2
    go_wp2
    exact bodyPost_ret (v:=.tuple #[.int .i64 0,.int .i64 5]) (by simp[results,results133,go_sem]) rfl ⟨by rw[HE.out];rfl,k1.then' k2⟩
   .have HE:Sl (AP k wds M n=0):=⟨by rw[AP,HOK.out,dT (show 0<=n by omega),dT hk,if_pos (by simp),if_neg hl]⟩
    have d2:decide (4096<n)=false:=dF hl
    by_cases hk3:k=3
    .subst hk3
     have HSl:Sl (AL 3 wds n=n*wds):=⟨by rw[AL,if_neg (by omega),if_pos rfl]⟩
     obtain⟨a1,a2,a3,a4⟩:=HSm.out HE.out
     obtain⟨a5,a6⟩:=a4 rfl
     obtain⟨N,rfl⟩:=Int.eq_ofNat_of_zero_le a1
     obtain⟨V,rfl⟩:=Int.eq_ofNat_of_zero_le (show 0<=wds by omega)
     have hmul:N*V<=4096*16:=Nat.mul_le_mul (by omega) (by omega)
     have hm:((N:Nat):Int)*((V:Nat):Int)=((N*V:Nat):Int):=by push_cast;rfl
     have hwr:IntKind.i64.wrap (((N:Nat):Int)*((V:Nat):Int))=((N:Nat):Int)*((V:Nat):Int):=by rw[hm,IntKind.wrap_i64];omega
     clear a3 a4 a1 a2 hm hmul
     go_enter func133,ntmps133
     go_wp2_with fail
     try rw[<- hw1]
     clear hw1
     try go_wp2_with fail
     refine HMay.out.mono ?_
     rintro e w2 ⟨rfl,k2⟩
     have b2:=k2.at_ HB1.out (λ h=>h)
     have c0:w2.cell? ⟨w.heap.size,0,none⟩=some (.int .u8 3):=by simp[World.cell?,b2]
     have c1:w2.cell? ⟨w.heap.size,1,none⟩=some (.int .i64 (V:Nat)):=by simp[World.cell?,b2]
     clear b2
     go_wp2
     exact bodyPost_ret (v:=.tuple #[.int .i64 ((N:Int)*(V:Int)),.int .i64 0]) (by simp[results,results133,go_sem]) rfl ⟨by rw[HE.out];rw [if_pos rfl,HSl.out],k1.then' k2⟩
    .have b3:(k==3)=false:=by simpa using hk3
     have HSl:Sl (AL k wds n=n):=⟨by rw[AL,if_neg hk,if_neg hk3]⟩
     go_enter func133,ntmps133
     go_wp2_with fail
     try rw[<- hw1]
     clear hw1
     try go_wp2_with fail
     refine HMay.out.mono ?_
     rintro e w2 ⟨rfl,k2⟩
     have b2:=k2.at_ HB1.out (λ h=>h)
     have c0:w2.cell? ⟨w.heap.size,0,none⟩=some (.int .u8 k):=by simp[World.cell?,b2]
     have c1:w2.cell? ⟨w.heap.size,1,none⟩=some (.int .i64 wds):=by simp[World.cell?,b2]
     clear b2
     go_wp2
     exact bodyPost_ret (v:=.tuple #[.int .i64 n,.int .i64 0]) (by simp[results,results133,go_sem]) rfl ⟨by rw[HE.out];rw [if_pos rfl,HSl.out],k1.then' k2⟩

def DSizeI(K:Nat)(w:World)(y:Value)(wr:World):Prop:=∃ g:Nat,y=.int .i64 (g:Nat)/\(g=0\/2*(g-1)<K+1)/\wr=w

theorem DSize_any(k wds:Int)(M:Nat)(n:Int)(w:World)(hM:M<18446744073709551616):
  Calls prog 193 #[.agg #[.int .u8 k,.int .i64 wds,.int .u64 (M:Nat)],.int .i64 n] w (SizePost k wds M n w):=by
 obtain⟨w1,hw1⟩:∃ w1,w1=w.alloc (.cells #[.int .u8 k,.int .i64 wds,.int .u64 (M:Nat)] 86):=⟨_,rfl⟩
 have k1:Kp Ab w w1:=by rw[hw1];exact (Kr _ w).alloc _
 have HS:=sE (DSlots_any k wds M n w1 hM)
 by_cases h0:AP k wds M n=0
 .have hr:=AU h0
  obtain⟨K,hK⟩:=Int.eq_ofNat_of_zero_le hr.1
  have HE:=sE (And.intro h0 hK)
  have HSS:Sl (Calls prog 133 #[.agg #[.int .u8 k,.int .i64 wds,.int .u64 (M:Nat)],.int .i64 n] w1 λ e w'=>e=.returned (.tuple #[.int .i64 (K:Nat),.int .i64 0])/\Kp Ab w1 w'):=
   ⟨HS.out.mono λ e w' hp=>by rw[EQ,if_pos h0,h0,hK] at hp;exact hp⟩
  have hK2:K<=65536:=by omega
  clear h0 hr hK HS
  go_enter func193,ntmps193
  go_wp2_with fail
  try rw[<- hw1]
  clear hw1
  try go_wp2_with fail
  refine HSS.out.mono ?_
  rintro e w2 ⟨rfl,k2⟩
  go_wp2_with fail
  go_loopw [8] (λ y wr=>DSizeI K w2 y wr) (λ y _=>K+2-(intOf y).toNat)
  case atStart=>exact ⟨0,rfl,.inl rfl,rfl⟩
  case round=>
   obtain⟨g,rfl,hg,rfl⟩:=hrel
   by_cases hl:2*g<K+1
   .have hl':(g:Int)*2<(K:Int)+1:=by omega
    go_wp2
    exact⟨⟨g+1,by go_num,by omega,rfl⟩,by simp only[intOf];omega⟩
   .have hl':¬ (g:Int)*2<(K:Int)+1:=by omega
    have hg2:Fj k wds n=(g:Nat):=by rw[Fj,HE.out.2];omega
    have HG:=sE hg2
    clear hg2
    go_wp2
    exact bodyPost_ret (v:=.tuple #[.int .i64 (g:Nat),.int .i64 0]) (by simp[results,results193,go_sem]) rfl ⟨by rw[HE.out.1,if_pos rfl,HG.out],k1.then' k2⟩
 .have hb:(AP k wds M n !=0)=true:=by simpa using h0
  obtain⟨E,hE⟩:∃ E,AP k wds M n=E:=⟨_,rfl⟩
  have HE:=sE hE
  rw[hE] at h0 hb
  have HSS:Sl (Calls prog 133 #[.agg #[.int .u8 k,.int .i64 wds,.int .u64 (M:Nat)],.int .i64 n] w1 λ e w'=>e=.returned (.tuple #[.int .i64 0,.int .i64 E])/\Kp Ab w1 w'):=
   ⟨HS.out.mono λ e w' hp=>by rw[EQ,hE,if_neg h0] at hp;exact hp⟩
  clear hE HS
  go_enter func193,ntmps193
  go_wp2_with fail
  try rw[<- hw1]
  clear hw1
  try go_wp2_with fail
  refine HSS.out.mono ?_
  rintro e w2 ⟨rfl,k2⟩
  go_wp2
  exact bodyPost_ret (v:=.tuple #[.int .i64 0,.int .i64 E]) (by simp[results,results193,go_sem]) rfl ⟨by rw[HE.out,if_neg h0],k1.then' k2⟩

def Dm(ts:List TypR):Prop:=∀ x∈ts,x.m<18446744073709551616

theorem DGet_none(v:Value)(id:Int)(ts:List TypR)(w:World)(hv:A9 w v ts)(hl:ts.length<=17592186044416)(hx:typeOf ts id=none):
  Calls prog 170 #[v,.int .i64 id] w (Fb none w):=by
 obtain⟨a,cap,rfl,hr⟩:=hv
 have hc:=typeOf_none hx
 obtain⟨n,hn⟩:∃ n,ts.length=n:=⟨_,rfl⟩
 rw[hn] at hc hl ⊢
 obtain⟨d0,hd0⟩:∃ d0,decide (id<1)=d0:=⟨_,rfl⟩
 have hd1:d0=false->decide ((n:Int)<id)=true:=λ h=>by
  subst h
  have:=of_decide_eq_false hd0
  exact dT (by omega)
 clear hr hc hx hn
 obtain⟨w1,hw1⟩:∃ w1,w1=w.alloc (.cells #[.int .u8 0,.int .i64 0,.int .u64 0] 86):=⟨_,rfl⟩
 have kA:Kp Ab w w1:=by rw[hw1];exact (Kr _ w).alloc _
 have b0:w1.heap[w.heap.size]?=some (.cells #[.int .u8 0,.int .i64 0,.int .u64 0] 86 (0,0)):=by rw[hw1];exact wN w _
 have HB:=sE b0
 have f0:=Ae b0
 have f00:=f0 0
 have f01:=f0 1
 have f02:=f0 2
 have e0:w1.cell? ⟨w.heap.size,0,none⟩=some (.int .u8 0):=by simp[World.cell?,b0]
 have e1:w1.cell? ⟨w.heap.size,1,none⟩=some (.int .i64 0):=by simp[World.cell?,b0]
 have e2:w1.cell? ⟨w.heap.size,2,none⟩=some (.int .u64 0):=by simp[World.cell?,b0]
 have hs:w.heap.size<w1.heap.size:=lZ b0
 clear b0 f0
 cases d0 with
 |true=>
  clear hd1
  go_enter func170,ntmps170
  go_wp2_with fail
  rw[<- hw1]
  clear hw1
  go_wp2
  refine bodyPost_ret (v:=.tuple #[AB 0 0 0,.int .i64 3]) (by simp[results,results170,go_sem,e0,e1,e2,AB]) rfl ⟨rfl,kA⟩
 |false=>
  have hd2:=hd1 rfl
  clear hd1
  go_enter func170,ntmps170
  go_wp2_with fail
  rw[<- hw1]
  clear hw1
  go_wp2
  refine bodyPost_ret (v:=.tuple #[AB 0 0 0,.int .i64 3]) (by simp[results,results170,go_sem,e0,e1,e2,AB]) rfl ⟨rfl,kA⟩

theorem DGet_some(v:Value)(id:Int)(ts:List TypR)(k wds:Int)(m:Nat)(w:World)(hv:A9 w v ts)(hl:ts.length<=17592186044416)(hx:typeOf ts id=some ⟨k,wds,m⟩):
  Calls prog 170 #[v,.int .i64 id] w (Fb (some ⟨k,wds,m⟩) w):=by
 obtain⟨a,cap,rfl,hr⟩:=hv
 obtain⟨i,rfl,hi,hil⟩:=DN hx
 obtain⟨b,o,rfl,hb,c0,c1,c2⟩:=hr i _ hi
 dsimp only at c0 c1 c2
 obtain⟨n,hn⟩:∃ n,ts.length=n:=⟨_,rfl⟩
 rw[hn] at hil hl ⊢
 have hd0:decide (((i+1:Nat):Int)<1)=false:=dF (by omega)
 have hd1:decide ((n:Int)<((i+1:Nat):Int))=false:=dF (by omega)
 have hi1:((i+1:Nat):Int)-1=(i:Nat):=by omega
 clear hr hx hn hi
 have kA:Kp Ab w (w.alloc (.cells #[.int .u8 0,.int .i64 0,.int .u64 0] 86)):=(Kr _ w).alloc _
 replace c0:=kA.cell c0 (λ h=>h)
 replace c1:=kA.cell c1 (λ h=>h)
 replace c2:=kA.cell c2 (λ h=>h)
 have kB:Kp Ab w (w.alloc (.cells #[.int .u8 k,.int .i64 wds,.int .u64 (m:Nat)] 86)):=(Kr _ w).alloc _
 obtain⟨z0,z1,z2⟩:=new3 w (.int .u8 k) (.int .i64 wds) (.int .u64 (m:Nat)) 86
 go_enter func170,ntmps170
 go_wp2
 refine bodyPost_ret (v:=.tuple #[AB k wds (m:Nat),.int .i64 0]) (by simp[results,results170,go_sem,z0,z1,z2,AB]) rfl ⟨rfl,kB⟩

theorem DGet_any(v:Value)(id:Int)(ts:List TypR)(w:World)(hv:A9 w v ts)(hl:ts.length<=17592186044416):
  Calls prog 170 #[v,.int .i64 id] w (Fb (typeOf ts id) w):=by
 cases hx:typeOf ts id with
 |none=>exact DGet_none v id ts w hv hl hx
 |some x=>
  obtain⟨k,wds,m⟩:=x
  exact DGet_some v id ts k wds m w hv hl hx

theorem DTSize_none(v:Value)(id n:Int)(ts:List TypR)(w:World)(hv:A9 w v ts)(hl:ts.length<=17592186044416)(hx:typeOf ts id=none):
  Calls prog 168 #[v,.int .i64 id,.int .i64 n] w (EJ ts id n w):=by
 have CA:=DGet_any v id ts w hv hl
 rw[hx] at CA
 have HC:=sE CA
 have HE:Sl (AQ ts id n=3):=⟨by rw[AQ,hx]⟩
 clear CA hx hv
 go_enter func168,ntmps168
 go_wp2_with fail
 refine HC.out.mono ?_
 rintro e w2 ⟨rfl,k2⟩
 dsimp only[AB,Option.isSome_some,Option.isSome_none]
 go_wp2
 exact bodyPost_ret (v:=.tuple #[.int .i64 0,.int .i64 3]) (by simp[results,results168,go_sem]) rfl ⟨by rw[HE.out];rfl,k2.alloc _⟩

theorem DTSize_some(v:Value)(id n:Int)(ts:List TypR)(k wds:Int)(m:Nat)(w:World)(hv:A9 w v ts)(hl:ts.length<=17592186044416)(hM:m<18446744073709551616)(hx:typeOf ts id=some ⟨k,wds,m⟩):
  Calls prog 168 #[v,.int .i64 id,.int .i64 n] w (EJ ts id n w):=by
 have CA:=DGet_any v id ts w hv hl
 rw[hx] at CA
 have HC:=sE CA
 have HE:Sl (AQ ts id n=AP k wds m n):=⟨by rw[AQ,hx]⟩
 have HS:Sl (Bj ts id n=Fj k wds n):=⟨by rw[Bj,hx]⟩
 have CK:=λ w=>DSize_any k wds m n w hM
 have HK:=sE CK
 clear CA hx CK hM hv
 go_enter func168,ntmps168
 go_wp2_with fail
 refine HC.out.mono ?_
 rintro e w2 ⟨rfl,k2⟩
 dsimp only[AB,Option.isSome_some,Option.isSome_none]
 go_wp2_with fail
 refine(HK.out _).mono ?_
 rintro e w3 ⟨rfl,k3⟩
 obtain⟨S,hS⟩:∃ S,(if AP k wds m n=0 then Fj k wds n else 0)=S:=⟨_,rfl⟩
 obtain⟨E,hE⟩:∃ E,AP k wds m n=E:=⟨_,rfl⟩
 have H1:=sE hS
 have H2:=sE hE
 rw[hS,hE]
 clear hS hE
 go_wp2
 exact bodyPost_ret (v:=.tuple #[.int .i64 S,.int .i64 E]) (by simp[results,results168,go_sem]) rfl ⟨by rw[HE.out,HS.out,H1.out,H2.out],(k2.alloc _).then' k3⟩

theorem typeOf_mem{ts:List TypR}{id:Int}{x:TypR}(h:typeOf ts id=some x):x∈ts:=by
 obtain⟨i,-,hi,-⟩:=DN h
 exact List.mem_of_getElem? hi

theorem DTSize_any(v:Value)(id n:Int)(ts:List TypR)(w:World)(hv:A9 w v ts)(hl:ts.length<=17592186044416)(hM:Dm ts):
  Calls prog 168 #[v,.int .i64 id,.int .i64 n] w (EJ ts id n w):=by
 cases hx:typeOf ts id with
 |none=>exact DTSize_none v id n ts w hv hl hx
 |some x=>
  have hm:=hM x (typeOf_mem hx)
  obtain⟨k,wds,m⟩:=x
  exact DTSize_some v id n ts k wds m w hv hl hm hx

end

section
open Go.RowKit

def AC(l:List Nat):List Value:=l.map λ x=>.int .i64 (x:Nat)

theorem A8:prog.underlying 82=some (.slice 3):=by kernel_rfl

theorem Dj:(prog.info? 3).map (λ i=>(i.zero,i.size,i.bytes))=some (some (.int .i64 0),1,8):=by kernel_rfl

theorem ints_at{w:World}{v:Value}{len:Nat}{x:Nat->Nat->Int}(hv:Bw 1 w v len x):∃ a cap,v=.slice a len cap/\∀ i,i<len->∃ g o,a=some ⟨g,o,none⟩/\g<w.heap.size/\w.cell? ⟨g,o+i,none⟩=some (.int .i64 (x i 0))/\-9223372036854775808<=x i 0/\x i 0<=9223372036854775807:=by
 obtain⟨a,cap,rfl,h⟩:=hv
 refine⟨a,cap,rfl,λ i hi=>?_⟩
 obtain⟨g,o,rfl,h1,h2⟩:=h i hi
 have h3:=h2 0 (by omega)
 rw[Nat.mul_one,Nat.add_zero] at h3
 exact⟨g,o,rfl,h1,h3⟩

end

section
open Go.RowKit Go.WideShapes Go.ChangeShapes Go.Deep

section
variable {H:Type} {enc:TypeId×Value->H} {P:Program}

theorem spot_none{w:World}{a:Addr}{v:Value}(h:w.cell? (a.add 0)=some v):a.spot=none:=by
 have:=(ET h).1
 simp[Addr.add] at this
 exact this▸rfl

theorem weightsAll_mem{e:TypeId}:∀ {l:List (DataW H)} {d:DataW H},d∈l->∀ n∈d.weights P e,n∈DataW.weightsAll P e l
 |d0::l,d,hd,n,hn=>by
  simp only[DataW.weightsAll,List.mem_append]
  rcases List.mem_cons.1 hd with rfl|h
  .exact .inl hn
  .exact .inr (weightsAll_mem h n hn)

theorem open_ints{w:World}{base:Nat}{sp:Nat->Bool}{held:Bool}{t e:TypeId}{v:Value}{n:Nat}{x:DataW H×List MemPlace}(ht:P.underlying t=some (.slice e))(he:P.underlying e=some (.int .i64))(hC:P.cellsOf e=1)(hB:P.bytesOf e=8)
  (h:DataW.trod enc P w base sp held n t [v]=some x) (hw:∀ n∈x.1.weights P t,n<=reachBytes):∃ len y,Bw 1 w v len y/\len<=17592186044416:=by
 rcases open_slice1 ht hC h with ⟨h0,-⟩|⟨a',len',cap',m,n',V,D,Pl,h1,h2,h3,h4,h5,h6,h7⟩
 .injection h0 with h0
  subst h0
  exact⟨0,λ _ _=>0,⟨none,0,rfl,λ i hi=>by omega⟩,by omega⟩
 .injection h1 with h1
  subst h1
  have hlen:len'<=17592186044416:=by
   subst h6
   have:=hw _ (by simp only[DataW.weights,ht];exact List.mem_cons_self)
   rw[hB] at this
   unfold reachBytes at this
   simp only[List.length_map,List.length_range] at this
   omega
  refine⟨len',λ i j=>match w.cell? (a'.add i) with|some (.int _ z)=>z|_=>0,⟨some a',cap',rfl,λ i hi=>?_⟩,hlen⟩
  have him:i<m:=by rw[h5];split <;> omega
  obtain⟨hc,hd⟩:=h7 i him
  obtain⟨z,hz,_,hwf⟩:=DataW.trod_int he hd
  injection hz with hz
  rw[hz] at hc
  have hspot:a'.spot=none:=spot_none (h7 0 (by omega)).1
  have ha':a'=⟨a'.block,a'.off,none⟩:=by cases a';simp at hspot;simp [hspot]
  have hc':=hc
  rw[ha',Addr.add_lit] at hc'
  refine⟨a'.block,a'.off,congrArg some ha',(ET hc').2,λ j hj=>?_⟩
  simp only[hc]
  obtain rfl:j=0:=by omega
  rw[Nat.mul_one,Nat.add_zero]
  exact⟨hc',bounds_i64 hwf⟩

end

def RowsAt(k:Nat)(w:World)(v:Value)(len:Nat)(V:Nat->Nat->Value):Prop:=
 ∃ a cap,v=.slice a len cap/\∀ i,i<len->∃ b o,a=some ⟨b,o,none⟩/\b<w.heap.size/\∀ j,j<k->w.cell? ⟨b,o+(i*k+j),none⟩=some (V i j)

section
variable {H:Type} {enc:TypeId×Value->H} {P:Program}

theorem open_rows{w:World}{base:Nat}{sp:Nat->Bool}{held:Bool}{t e:TypeId}{fs:Array Field}{v:Value}{d:DataW H}{ps:List MemPlace}(ht:P.underlying t=some (.slice e))(he:P.underlying e=some (.struct fs))(hone:oneCellFields P fs=true)(hC:P.cellsOf e=fs.size)
  (hpos:0<fs.size) (hB:8<=P.bytesOf e) (hv:∃ a len cap,v=.slice a len cap) (h:DataW.Trod enc P w base sp held t v d ps) (hw:∀ n∈d.weights P t,n<=reachBytes):
  ∃ len V,RowsAt fs.size w v len V/\len<=17592186044416/\∀ i,i<len->∀ (j:Nat) (f:Field),fs[j]?=some f->∃ n y,DataW.trod enc P w base sp held n f.type [V i j]=some y/\∀ m∈y.1.weights P f.type,m<=reachBytes:=by
 obtain⟨a,len,cap,rfl⟩:=hv
 obtain⟨fuel,h⟩:=h
 have hcs:(Value.slice a len cap).cells.toList=[.slice a len cap]:=rfl
 rw[hcs] at h
 rcases open_slice ht h with ⟨h0,-⟩|⟨a',len',cap',m,n,D,Pl,h1,h2,h3,h4,h5,h6,h7⟩
 .injection h0 with h0
  injection h0 with h0 h1 h2
  subst h0 h1 h2
  exact⟨0,λ _ _=>.bool false,⟨none,0,rfl,λ i hi=>by omega⟩,by omega,λ i hi=>by omega⟩
 .injection h1 with h1
  injection h1 with e1 e2 e3
  subst e1 e2 e3
  have hd:=congrArg Prod.fst h6
  dsimp only at hd
  have hm:len<=m:=by rw[h5];split <;> omega
  have hlen:len<=17592186044416:=by
   rw[hd] at hw
   have:=hw _ (by simp only[DataW.weights,ht];exact List.mem_cons_self)
   unfold reachBytes at this
   simp only[List.length_map,List.length_range] at this
   have h8:(len+(m-len))*8<=(len+(m-len))*P.bytesOf e:=Nat.mul_le_mul_left _ hB
   omega
  have each:∀ i,i<len->∃ cs:List Value,cs.length=fs.size/\(∀ j,j<fs.size->w.cell? ((a'.add (i*fs.size)).add j)=cs[j]?)/\
    ∀ (j:Nat) (f:Field),fs[j]?=some f->∃ u n y,cs[j]?=some u/\DataW.trod enc P w base sp held n f.type [u]=some y/\∀ m∈y.1.weights P f.type,m<=reachBytes:=by
   intro i hi
   obtain⟨cs,hc,hdd⟩:=h7 i (by omega)
   rw[hC] at hc
   obtain⟨_,hcl,hat⟩:=World.cells?_some hc
   obtain⟨ys,n',_,hDi,_,hyl,hf⟩:=DataW.trod_struct he hdd
   refine⟨cs,hcl,hat,λ j f hjf=>?_⟩
   have hj:j<fs.size:=(Array.getElem?_eq_some_iff.1 hjf).1
   obtain⟨ho,hk⟩:=hone_of hone j _ hjf
   have h8:=hf j _ hjf
   rw[ho,hk] at h8
   have hjl:j<cs.length:=by omega
   have hone':(cs.drop j).take 1=[cs[j]]:=by rw[List.drop_eq_getElem_cons hjl];rfl
   rw[hone',List.getElem?_eq_getElem (by omega)] at h8
   refine⟨cs[j],n',_,List.getElem?_eq_getElem hjl,h8,λ k hk=>?_⟩
   refine hw k ?_
   rw[hd]
   simp only[DataW.weights,ht]
   refine List.mem_cons_of_mem _ (List.mem_append_left _ (weightsAll_mem (List.mem_map.2 ⟨i,List.mem_range.2 hi,rfl⟩) k ?_))
   have hDi':=congrArg Prod.fst hDi
   dsimp only at hDi'
   rw[hDi']
   simp only[DataW.weights,he]
   exact DataW.weights_mem_each (j:=j) (t:=f.type) (by simp[hjf]) (by rw[List.getElem?_map,List.getElem?_eq_getElem (by omega)];rfl) k hk
  have pick:∃ q:Nat->List Value,∀ i,i<len->(q i).length=fs.size/\(∀ j,j<fs.size->w.cell? ((a'.add (i*fs.size)).add j)=(q i)[j]?)/\
    ∀ (j:Nat) (f:Field),fs[j]?=some f->∃ u n y,(q i)[j]?=some u/\DataW.trod enc P w base sp held n f.type [u]=some y/\∀ m∈y.1.weights P f.type,m<=reachBytes:=by
   have h2:∀ i,∃ q:List Value,i<len->q.length=fs.size/\(∀ j,j<fs.size->w.cell? ((a'.add (i*fs.size)).add j)=q[j]?)/\
     ∀ (j:Nat) (f:Field),fs[j]?=some f->∃ u n y,q[j]?=some u/\DataW.trod enc P w base sp held n f.type [u]=some y/\∀ m∈y.1.weights P f.type,m<=reachBytes:=by
    intro i
    by_cases hi:i<len
    .obtain ⟨q,hq⟩:=each i hi
     exact⟨q,λ _=>hq⟩
    .exact ⟨[],λ h=>absurd h hi⟩
   exact⟨λ i=>(h2 i).choose,λ i hi=>(h2 i).choose_spec hi⟩
  obtain⟨q,hq⟩:=pick
  refine⟨len,λ i j=>(q i).getD j (.bool false),⟨some a',cap,rfl,λ i hi=>?_⟩,hlen,λ i hi j f hjf=>?_⟩
  .obtain ⟨y0,y1,y2⟩:=hq i hi
   have h00:=(hq 0 (by omega)).2.1 0 hpos
   have hl0:=(hq 0 (by omega)).1
   rw[List.getElem?_eq_getElem (by omega)] at h00
   have hspot:a'.spot=none:=by
    have:=(ET h00).1
    simp[Addr.add] at this
    exact this▸rfl
   have ha':a'=⟨a'.block,a'.off,none⟩:=by cases a';simp at hspot;simp [hspot]
   have hadd:∀ i j,(a'.add (i*fs.size)).add j=⟨a'.block,a'.off+(i*fs.size+j),none⟩:=by
    intro i j
    rw[ha',Addr.add_lit,Addr.add_lit,Nat.add_assoc]
   refine⟨a'.block,a'.off,congrArg some ha',?_,λ j hj=>?_⟩
   .have:=(ET h00).2
    rw[hadd] at this
    exact this
   .have:=y1 j hj
    rw[hadd,List.getElem?_eq_getElem (by omega)] at this
    rw[this]
    simp[y0,hj]
  .obtain ⟨y0,y1,y2⟩:=hq i hi
   obtain⟨u,n,y,hu,hy,hm⟩:=y2 j f hjf
   refine⟨n,y,?_,hm⟩
   simpa [List.getD_eq_getElem?_getD,hu] using hy

end

def FH(w:World)(v:Value)(len:Nat)(d g i n y:Nat->Int)(u:Nat->Value)(m:Nat->Nat):Prop:=
 ∃ a cap,v=.slice a len cap/\∀ j,j<len->∃ b o,a=some ⟨b,o,none⟩/\b<w.heap.size/\
  w.cell? ⟨b,o+j*6,none⟩=some (.int .i64 (d j))/\w.cell? ⟨b,o+j*6+1,none⟩=some (.int .i64 (g j))/\w.cell? ⟨b,o+j*6+2,none⟩=some (.int .i64 (i j))/\w.cell? ⟨b,o+j*6+3,none⟩=some (.int .i64 (n j))/\
  w.cell? ⟨b,o+j*6+4,none⟩=some (.int .u64 (y j))/\w.cell? ⟨b,o+j*6+5,none⟩=some (u j)/\(∃ ua uc,u j=.slice ua (m j) uc)/\m j<=17592186044416/\
  (-9223372036854775808<=g j/\g j<=9223372036854775807)/\(-9223372036854775808<=i j/\i j<=9223372036854775807)/\(-9223372036854775808<=n j/\n j<=9223372036854775807)

def AtsAt(w:World)(len:Nat)(u:Nat->Value)(m:Nat->Nat):Prop:=∀ j,j<len->∃ x,Bw 1 w (u j) (m j) x

def intV:Value->Int
 |.int _ z=>z
 |_=>0

def lenV:Value->Nat
 |.slice _ n _=>n
 |_=>0

section
variable {H:Type} {enc:TypeId×Value->H} {P:Program}

theorem open_types7{w:World}{base:Nat}{sp:Nat->Bool}{held:Bool}{t e:TypeId}{f0 f1 f2:Field}{v:Value}{d:DataW H}{ps:List MemPlace}(ht:P.underlying t=some (.slice e))(he:P.underlying e=some (.struct #[f0,f1,f2]))(hone:oneCellFields P #[f0,f1,f2]=true)(hC:P.cellsOf e=3)
  (hB:8<=P.bytesOf e) (h0:P.underlying f0.type=some (.int .u8)) (h1:P.underlying f1.type=some (.int .i64)) (h2:P.underlying f2.type=some (.int .u64)) (hv:∃ a len cap,v=.slice a len cap) (h:DataW.Trod enc P w base sp held t v d ps) (hw:∀ n∈d.weights P t,n<=reachBytes):
  ∃ xs:List TypR,A9 w v xs/\xs.length<=17592186044416/\∀ x∈xs,x.m<18446744073709551616:=by
 obtain⟨len,V,⟨a,cap,rfl,hr⟩,hl,hf⟩:=open_rows ht he hone hC (by simp) hB hv h hw
 refine⟨(List.range len).map λ i=>⟨intV (V i 0),intV (V i 1),(intV (V i 2)).toNat⟩,⟨a,cap,by simp,λ i x hx=>?_⟩,by simpa using hl,λ x hx=>?_⟩
 rotate_left
 .obtain ⟨i,hi,rfl⟩:=List.mem_map.1 hx
  have hi:i<len:=by simpa using hi
  obtain⟨n2,y2,g2,-⟩:=hf i hi 2 f2 rfl
  obtain⟨z2,e2,-,w2⟩:=DataW.trod_int h2 g2
  injection e2 with e2
  dsimp only
  rw[e2]
  have b2:=bounds_u64 w2
  show z2.toNat<18446744073709551616
  omega
 have hi:i<len:=by have:=(gE.1 hx).1;simpa using this
 have hx':x=⟨intV (V i 0),intV (V i 1),(intV (V i 2)).toNat⟩:=by simp[hi] at hx;exact hx.symm
 subst hx'
 obtain⟨b,o,rfl,hb,hc⟩:=hr i hi
 obtain⟨n0,y0,g0,-⟩:=hf i hi 0 f0 rfl
 obtain⟨n1,y1,g1,-⟩:=hf i hi 1 f1 rfl
 obtain⟨n2,y2,g2,-⟩:=hf i hi 2 f2 rfl
 obtain⟨z0,e0,-,w0⟩:=DataW.trod_int h0 g0
 obtain⟨z1,e1,-,w1⟩:=DataW.trod_int h1 g1
 obtain⟨z2,e2,-,w2⟩:=DataW.trod_int h2 g2
 injection e0 with e0
 injection e1 with e1
 injection e2 with e2
 have c0:=hc 0 (by simp)
 have c1:=hc 1 (by simp)
 have c2:=hc 2 (by simp)
 rw[e0] at c0 ⊢
 rw[e1] at c1 ⊢
 rw[e2] at c2 ⊢
 have b2:=bounds_u64 w2
 refine⟨b,o,rfl,hb,c0,by rw[Nat.add_assoc];exact c1,?_⟩
 rw[Nat.add_assoc]
 rw[show (((intV (.int .u64 z2)).toNat:Nat):Int)=z2 from Int.toNat_of_nonneg b2.1]
 exact c2

theorem open_steps7{w:World}{base:Nat}{sp:Nat->Bool}{held:Bool}{t e ei:TypeId}{f0 f1 f2 f3 f4 f5:Field}{v:Value}{d:DataW H}{ps:List MemPlace}(ht:P.underlying t=some (.slice e))(he:P.underlying e=some (.struct #[f0,f1,f2,f3,f4,f5]))(hone:oneCellFields P #[f0,f1,f2,f3,f4,f5]=true)(hC:P.cellsOf e=6)
  (hB:8<=P.bytesOf e) (h0:P.underlying f0.type=some (.int .i64)) (h1:P.underlying f1.type=some (.int .i64)) (h2:P.underlying f2.type=some (.int .i64)) (h3:P.underlying f3.type=some (.int .i64)) (h4:P.underlying f4.type=some (.int .u64)) (h5:P.underlying f5.type=some (.slice ei)) (hei:P.underlying ei=some (.int .i64)) (ci:P.cellsOf ei=1) (hBi:P.bytesOf ei=8)
  (hv:∃ a len cap,v=.slice a len cap) (h:DataW.Trod enc P w base sp held t v d ps) (hw:∀ n∈d.weights P t,n<=reachBytes):
  ∃ len dd gg ii nn yy uu mm,FH w v len dd gg ii nn yy uu mm/\len<=17592186044416/\(∀ j,j<len->0<=yy j/\yy j<=18446744073709551615)/\AtsAt w len uu mm:=by
 obtain⟨len,V,⟨a,cap,rfl,hr⟩,hl,hf⟩:=open_rows ht he hone hC (by simp) hB hv h hw
 refine⟨len,λ i=>intV (V i 0),λ i=>intV (V i 1),λ i=>intV (V i 2),λ i=>intV (V i 3),λ i=>intV (V i 4),λ i=>V i 5,λ i=>lenV (V i 5),⟨a,cap,rfl,λ i hi=>?_⟩,hl,λ i hi=>?_,λ i hi=>?_⟩
 rotate_left
 .obtain ⟨n4,y4,g4,-⟩:=hf i hi 4 f4 rfl
  obtain⟨z4,e4,-,w4⟩:=DataW.trod_int h4 g4
  injection e4 with e4
  dsimp only
  rw[e4]
  exact bounds_u64 w4
 .obtain ⟨n5,y5,g5,k5⟩:=hf i hi 5 f5 rfl
  obtain⟨l5,x5,hI,hl5⟩:=open_ints h5 hei ci hBi g5 k5
  have hI':=hI
  obtain⟨ua,uc,hu,-⟩:=hI'
  refine⟨x5,?_⟩
  dsimp only
  rw[show lenV (V i 5)=l5 by rw[hu];rfl]
  exact hI
 obtain⟨b,o,rfl,hb,hc⟩:=hr i hi
 obtain⟨n0,y0,g0,-⟩:=hf i hi 0 f0 rfl
 obtain⟨n1,y1,g1,-⟩:=hf i hi 1 f1 rfl
 obtain⟨n2,y2,g2,-⟩:=hf i hi 2 f2 rfl
 obtain⟨n3,y3,g3,-⟩:=hf i hi 3 f3 rfl
 obtain⟨n4,y4,g4,-⟩:=hf i hi 4 f4 rfl
 obtain⟨n5,y5,g5,k5⟩:=hf i hi 5 f5 rfl
 obtain⟨z0,e0,-,w0⟩:=DataW.trod_int h0 g0
 obtain⟨z1,e1,-,w1⟩:=DataW.trod_int h1 g1
 obtain⟨z2,e2,-,w2⟩:=DataW.trod_int h2 g2
 obtain⟨z3,e3,-,w3⟩:=DataW.trod_int h3 g3
 obtain⟨z4,e4,-,w4⟩:=DataW.trod_int h4 g4
 obtain⟨l5,x5,⟨ua,uc,hu,-⟩,hl5⟩:=open_ints h5 hei ci hBi g5 k5
 injection e0 with e0
 injection e1 with e1
 injection e2 with e2
 injection e3 with e3
 injection e4 with e4
 have c0:=hc 0 (by simp)
 have c1:=hc 1 (by simp)
 have c2:=hc 2 (by simp)
 have c3:=hc 3 (by simp)
 have c4:=hc 4 (by simp)
 have c5:=hc 5 (by simp)
 dsimp only
 rw[e0] at c0 ⊢
 rw[e1] at c1 ⊢
 rw[e2] at c2 ⊢
 rw[e3] at c3 ⊢
 rw[e4] at c4 ⊢
 rw[hu] at c5 ⊢
 have b1:=bounds_i64 w1
 have b2:=bounds_i64 w2
 have b3:=bounds_i64 w3
 exact⟨b,o,rfl,hb,c0,by rw[Nat.add_assoc];exact c1,by rw[Nat.add_assoc];exact c2,by rw[Nat.add_assoc];exact c3,by rw[Nat.add_assoc];exact c4,by rw[Nat.add_assoc];exact c5,⟨ua,uc,rfl⟩,hl5,b1,b2,b3⟩

end

open Go.RowKit

def Heavy9Post(n:Int)(lt len:Nat)(m:Nat->Nat)(w:World)(e:Ending)(w':World):Prop:=
 ∃ t:Bool,e=.returned (.bool t)/\w'=w/\(t=false->(n<=600\/65536<n)/\lt<=70/\len<=60/\∀ i,i<len->m i<=300)

def Heavy9I(len:Nat)(m:Nat->Nat)(w:World)(z y:Value)(wr:World):Prop:=
 ∃ j s:Nat,j<=len/\j<=100/\z=.int .i64 (s:Nat)/\y=.int .i64 (j:Nat)/\s<=j*17592186044416/\Sl (∀ i,i<j->m i<=s)/\wr=w

set_option maxRecDepth 20000 in
theorem Heavy9_any(n:Int)(v1 v2:Value)(xs:List TypR)(len:Nat)(d g i nn y:Nat->Int)(u:Nat->Value)(m:Nat->Nat)(w:World)(h1:A9 w v1 xs)(h2:FH w v2 len d g i nn y u m)(hl1:xs.length<=17592186044416)(hl2:len<=17592186044416):
  Calls prog 6 #[.int .i64 n,v1,v2] w (Heavy9Post n xs.length len m w):=by
 have HV:=sE h2
 obtain⟨va,vc,rfl,-⟩:=h2
 obtain⟨ta,tc,rfl,-⟩:=h1
 obtain⟨lt,hlt⟩:∃ lt,xs.length=lt:=⟨_,rfl⟩
 rw[hlt] at hl1 ⊢
 clear hlt
 go_enter func6,ntmps6
 go_wp2_with fail
 go_loopw [7,8] (λ z y wr=>Heavy9I len m w z y wr) (λ _ y _=>100-(intOf y).toNat)
 case atStart=>exact ⟨0,0,Nat.zero_le _,Nat.zero_le _,rfl,rfl,Nat.zero_le _,⟨λ i h=>by omega⟩,rfl⟩
 case round=>
  obtain⟨j,s,hj,hj2,rfl,rfl,hs,hsm,rfl⟩:=hrel
  by_cases hjl:j<len
  .have a1:decide ((j:Int)<(len:Int))=true:=dT (by omega)
   by_cases hj1:j<100
   .have a2:decide ((j:Int)<100)=true:=dT (by omega)
    obtain⟨va',vc',e,hx⟩:=HV.out
    injection e with e1 e3 e2
    subst e1 e2
    obtain⟨b,o,rfl,hbl,x0,x1,x2,x3,x4,x5,⟨ua,uc,hu⟩,hm,-⟩:=hx j hjl
    rw[hu] at x5
    clear hx x0 x1 x2 x3 x4 hu
    go_wp2
    exact⟨⟨j+1,s+m j,by omega,by omega,by go_num,by go_num,by omega,⟨λ i hi=>by
     rcases Nat.lt_or_ge i j with h|h
     .have:=hsm.out i h;omega
     .obtain rfl:i=j:=by omega
      omega⟩,rfl⟩,by simp only[intOf];omega⟩
   .have a2:decide ((j:Int)<100)=false:=dF (by omega)
    by_cases hA:600<n
    .by_cases hB:n<=65536
     .have c1:decide ((600:Int)<n)=true:=dT (by omega)
      have c2:decide (n<=65536)=true:=dT (by omega)
      go_wp2
      go_ret
      exact⟨true,rfl,rfl,λ h=>by cases h⟩
     .by_cases hC:70<lt
      .have c1:decide ((600:Int)<n)=true:=dT (by omega)
       have c2:decide (n<=65536)=false:=dF (by omega)
       have c3:decide ((70:Int)<(lt:Int))=true:=dT (by omega)
       go_wp2
       go_ret
       exact⟨true,rfl,rfl,λ h=>by cases h⟩
      .by_cases hD:60<len
       .have c1:decide ((600:Int)<n)=true:=dT (by omega)
        have c2:decide (n<=65536)=false:=dF (by omega)
        have c3:decide ((70:Int)<(lt:Int))=false:=dF (by omega)
        have c4:decide ((60:Int)<(len:Int))=true:=dT (by omega)
        go_wp2
        go_ret
        exact⟨true,rfl,rfl,λ h=>by cases h⟩
       .by_cases hE:300<s
        .have c1:decide ((600:Int)<n)=true:=dT (by omega)
         have c2:decide (n<=65536)=false:=dF (by omega)
         have c3:decide ((70:Int)<(lt:Int))=false:=dF (by omega)
         have c4:decide ((60:Int)<(len:Int))=false:=dF (by omega)
         have c5:decide ((300:Int)<(s:Int))=true:=dT (by omega)
         go_wp2
         go_ret
         exact⟨true,rfl,rfl,λ h=>by cases h⟩
        .have c1:decide ((600:Int)<n)=true:=dT (by omega)
         have c2:decide (n<=65536)=false:=dF (by omega)
         have c3:decide ((70:Int)<(lt:Int))=false:=dF (by omega)
         have c4:decide ((60:Int)<(len:Int))=false:=dF (by omega)
         have c5:decide ((300:Int)<(s:Int))=false:=dF (by omega)
         go_wp2
         go_ret
         exact⟨false,rfl,rfl,λ _=>⟨by omega,by omega,by omega,λ i hi=>by have:=hsm.out i (by omega);omega⟩⟩
    .by_cases hC:70<lt
     .have c1:decide ((600:Int)<n)=false:=dF (by omega)
      have c3:decide ((70:Int)<(lt:Int))=true:=dT (by omega)
      go_wp2
      go_ret
      exact⟨true,rfl,rfl,λ h=>by cases h⟩
     .by_cases hD:60<len
      .have c1:decide ((600:Int)<n)=false:=dF (by omega)
       have c3:decide ((70:Int)<(lt:Int))=false:=dF (by omega)
       have c4:decide ((60:Int)<(len:Int))=true:=dT (by omega)
       go_wp2
       go_ret
       exact⟨true,rfl,rfl,λ h=>by cases h⟩
      .by_cases hE:300<s
       .have c1:decide ((600:Int)<n)=false:=dF (by omega)
        have c3:decide ((70:Int)<(lt:Int))=false:=dF (by omega)
        have c4:decide ((60:Int)<(len:Int))=false:=dF (by omega)
        have c5:decide ((300:Int)<(s:Int))=true:=dT (by omega)
        go_wp2
        go_ret
        exact⟨true,rfl,rfl,λ h=>by cases h⟩
       .have c1:decide ((600:Int)<n)=false:=dF (by omega)
        have c3:decide ((70:Int)<(lt:Int))=false:=dF (by omega)
        have c4:decide ((60:Int)<(len:Int))=false:=dF (by omega)
        have c5:decide ((300:Int)<(s:Int))=false:=dF (by omega)
        go_wp2
        go_ret
        exact⟨false,rfl,rfl,λ _=>⟨by omega,by omega,by omega,λ i hi=>by have:=hsm.out i (by omega);omega⟩⟩
  .have a1:decide ((j:Int)<(len:Int))=false:=dF (by omega)
   by_cases hA:600<n
   .by_cases hB:n<=65536
    .have c1:decide ((600:Int)<n)=true:=dT (by omega)
     have c2:decide (n<=65536)=true:=dT (by omega)
     go_wp2
     go_ret
     exact⟨true,rfl,rfl,λ h=>by cases h⟩
    .by_cases hC:70<lt
     .have c1:decide ((600:Int)<n)=true:=dT (by omega)
      have c2:decide (n<=65536)=false:=dF (by omega)
      have c3:decide ((70:Int)<(lt:Int))=true:=dT (by omega)
      go_wp2
      go_ret
      exact⟨true,rfl,rfl,λ h=>by cases h⟩
     .by_cases hD:60<len
      .have c1:decide ((600:Int)<n)=true:=dT (by omega)
       have c2:decide (n<=65536)=false:=dF (by omega)
       have c3:decide ((70:Int)<(lt:Int))=false:=dF (by omega)
       have c4:decide ((60:Int)<(len:Int))=true:=dT (by omega)
       go_wp2
       go_ret
       exact⟨true,rfl,rfl,λ h=>by cases h⟩
      .by_cases hE:300<s
       .have c1:decide ((600:Int)<n)=true:=dT (by omega)
        have c2:decide (n<=65536)=false:=dF (by omega)
        have c3:decide ((70:Int)<(lt:Int))=false:=dF (by omega)
        have c4:decide ((60:Int)<(len:Int))=false:=dF (by omega)
        have c5:decide ((300:Int)<(s:Int))=true:=dT (by omega)
        go_wp2
        go_ret
        exact⟨true,rfl,rfl,λ h=>by cases h⟩
       .have c1:decide ((600:Int)<n)=true:=dT (by omega)
        have c2:decide (n<=65536)=false:=dF (by omega)
        have c3:decide ((70:Int)<(lt:Int))=false:=dF (by omega)
        have c4:decide ((60:Int)<(len:Int))=false:=dF (by omega)
        have c5:decide ((300:Int)<(s:Int))=false:=dF (by omega)
        go_wp2
        go_ret
        exact⟨false,rfl,rfl,λ _=>⟨by omega,by omega,by omega,λ i hi=>by have:=hsm.out i (by omega);omega⟩⟩
   .by_cases hC:70<lt
    .have c1:decide ((600:Int)<n)=false:=dF (by omega)
     have c3:decide ((70:Int)<(lt:Int))=true:=dT (by omega)
     go_wp2
     go_ret
     exact⟨true,rfl,rfl,λ h=>by cases h⟩
    .by_cases hD:60<len
     .have c1:decide ((600:Int)<n)=false:=dF (by omega)
      have c3:decide ((70:Int)<(lt:Int))=false:=dF (by omega)
      have c4:decide ((60:Int)<(len:Int))=true:=dT (by omega)
      go_wp2
      go_ret
      exact⟨true,rfl,rfl,λ h=>by cases h⟩
     .by_cases hE:300<s
      .have c1:decide ((600:Int)<n)=false:=dF (by omega)
       have c3:decide ((70:Int)<(lt:Int))=false:=dF (by omega)
       have c4:decide ((60:Int)<(len:Int))=false:=dF (by omega)
       have c5:decide ((300:Int)<(s:Int))=true:=dT (by omega)
       go_wp2
       go_ret
       exact⟨true,rfl,rfl,λ h=>by cases h⟩
      .have c1:decide ((600:Int)<n)=false:=dF (by omega)
       have c3:decide ((70:Int)<(lt:Int))=false:=dF (by omega)
       have c4:decide ((60:Int)<(len:Int))=false:=dF (by omega)
       have c5:decide ((300:Int)<(s:Int))=false:=dF (by omega)
       go_wp2
       go_ret
       exact⟨false,rfl,rfl,λ _=>⟨by omega,by omega,by omega,λ i hi=>by have:=hsm.out i (by omega);omega⟩⟩

end

section
open Go.ChangeShapes Go.WideShapes Go.ChangeAt Go.WideMaps Go.WideElems Go.RowKit

def laidL:List (String×DataW Unit):=[("skerry/head.fields",Rows.laid_skerry_head_fields)]

theorem gFields:prog.globalNamed "skerry/head.fields" =some 0:=by kernel_rfl

theorem tFields:(prog.globals[0]?).map (·.type)=some 230:=by kernel_rfl

section
variable {H:Type} {enc:TypeId×Value->H} {P:Program}

theorem pair_of_trod{w:World}{base:Nat}{sp:Nat->Bool}{held:Bool}{fuel:Nat}{e:TypeId}{f0 f1:Field}{cs:List Value}{a b:Int}{x:DataW H×List MemPlace}(he:P.underlying e=some (.struct #[f0,f1]))(ce:P.cellsOf e=2)(o0:f0.offset=0)(o1:f1.offset=1)(c0:P.cellsOf f0.type=1)(c1:P.cellsOf f1.type=1)
  (h0:P.underlying f0.type=some (.int .i64)) (h1:P.underlying f1.type=some (.int .i64)) (h:DataW.trod enc P w base sp held fuel e cs=some x) (hx:x.1=.agg [.lit (.int .i64 a),.lit (.int .i64 b)]):cs=[.int .i64 a,.int .i64 b]:=by
 obtain⟨ys,n',_,e1,hl,hyl,hf⟩:=DataW.trod_struct he h
 have g0:=hf 0 f0 rfl
 have g1:=hf 1 f1 rfl
 rw[o0,c0] at g0
 rw[o1,c1] at g1
 rw[e1] at hx
 rw[ce] at hl
 match cs,hl,ys,hyl,g0,g1,hx with
 |[u,v],_,[y0,y1],_,g0,g1,hx=>
  simp only[List.map_cons,List.map_nil,DataW.agg.injEq,List.cons.injEq] at hx
  obtain⟨z0,d0,k0,_⟩:=DataW.trod_int h0 (show DataW.trod enc P w base sp held n' f0.type [u]=some y0 from g0)
  obtain⟨z1,d1,k1,_⟩:=DataW.trod_int h1 (show DataW.trod enc P w base sp held n' f1.type [v]=some y1 from g1)
  rw[k0,k1] at hx
  simp only[DataW.lit.injEq,Lit.int.injEq,true_and,and_true] at hx
  obtain⟨rfl,rfl⟩:=hx
  injection d0 with d0
  injection d1 with d1
  rw[d0,d1]

end

set_option maxRecDepth 100000 in
theorem fields_of_laid{W:World}(h:laidMetH prog laidL W):Aq W:=by
 rw[MakeChecks.laidMetH_plain _ _ _ (by kernel_rfl)] at h
 obtain⟨ps,⟨g0,t0,cs0,f0,p0,q0,hg0,ht0,hv0,hd0,_,_⟩,_,_⟩:=h
 obtain rfl:=Option.some.inj (gFields.symm.trans hg0)
 obtain rfl:=Option.some.inj (tFields.symm.trans ht0)
 obtain⟨xs,m1,_,hx1,hlen,hn,hel⟩:=DataW.trod_array underlying230 hd0
 have ce:prog.cellsOf 229=2:=by kernel_rfl
 have ca:prog.cellsOf 230=10:=by kernel_rfl
 have c3:prog.cellsOf 3=1:=by kernel_rfl
 rw[ca] at hlen
 simp only[Prod.mk.injEq,Rows.laid_skerry_head_fields,DataW.agg.injEq] at hx1
 obtain⟨l0⟩:=cs0
 match l0,hlen,xs,hn,hx1,hel with
 |[u0,u1,u2,u3,u4,u5,u6,u7,u8,u9],_,[y0,y1,y2,y3,y4],_,hx1,hel=>
  simp only[List.map_cons,List.map_nil,List.cons.injEq] at hx1
  have P:∀ (i:Nat) (y) (a b:Int) (cs:List Value),DataW.trod (λ _=>()) prog W 0 (λ _=>true) false m1 229 cs=some y->y.1=.agg [.lit (.int .i64 a),.lit (.int .i64 b)]->cs=[.int .i64 a,.int .i64 b]:=
   λ i y a b cs h1 h2=>pair_of_trod underlying229 ce rfl rfl c3 c3 underlying3 underlying3 h1 h2
  have e0:=hel 0 (by decide)
  have e1:=hel 1 (by decide)
  have e2:=hel 2 (by decide)
  have e3:=hel 3 (by decide)
  have e4:=hel 4 (by decide)
  rw[ce] at e0 e1 e2 e3 e4
  obtain⟨⟨k0,k1,k2,k3,k4,-⟩,-⟩:=hx1
  have r0:=P 0 y0 _ _ [u0,u1] e0 k0.symm
  have r1:=P 1 y1 _ _ [u2,u3] e1 k1.symm
  have r2:=P 2 y2 _ _ [u4,u5] e2 k2.symm
  have r3:=P 3 y3 _ _ [u6,u7] e3 k3.symm
  have r4:=P 4 y4 _ _ [u8,u9] e4 k4.symm
  simp only[List.cons.injEq,and_true] at r0 r1 r2 r3 r4
  obtain⟨rfl,rfl⟩:=r0
  obtain⟨rfl,rfl⟩:=r1
  obtain⟨rfl,rfl⟩:=r2
  obtain⟨rfl,rfl⟩:=r3
  obtain⟨rfl,rfl⟩:=r4
  have cell:=World.var?_cell hg0 hv0
  refine⟨?_,λ j hj=>?_⟩
  .have:=cell 0
   simp only[List.getElem?_toArray] at this
   have h2:W.cell? ⟨0,0,none⟩=some (.int .i64 0):=by simpa using this
   unfold World.cell? at h2
   cases hh:W.heap[0]? with
   |none=>simp [hh] at h2
   |some o=>exact (Array.getElem?_eq_some_iff.1 hh).1
  .have:=cell j
   rcases j with _|_|_|_|_|_|_|_|_|_|j <;> first|omega|simpa [fieldsL] using this

end

end Go.Proofs.YtmfajopmppfldaaGreatDoor
