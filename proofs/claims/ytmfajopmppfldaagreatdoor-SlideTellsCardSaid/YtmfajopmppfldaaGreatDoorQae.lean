/-
  Lemmas for the laws, together: Kinds.
-/
import Derived.Test.YtmfajopmppfldaaGreatDoorQac
import Derived.BigQuiet
import Derived.Maps.Own
import Derived.Maps.OwnSet
import Derived.Deep.RegionHeldLaw
set_option linter.unusedVariables false
set_option maxHeartbeats 16000000
namespace Go.Proofs.YtmfajopmppfldaaGreatDoor
open Tryz
section
open Go.RowKit

def AC(k:Int)(wds:Int)(m:Int):Value:=.agg #[.int .u8 k,.int .i64 wds,.int .u64 m]

def Di(k wds:Int)(m:Nat):Bool:=
 (decide (k=1/\0<=wds/\wds<=64)||decide (k=3/\1<=wds/\wds<=16)||decide ((k=2\/k=4)/\wds=0))&&(decide (64<=wds)||decide (m/2 ^ wds.toNat=0))

theorem KCheck_else(k wds m:Int)(w:World)(h1:¬ k=1)(h2:¬ k=2)(h3:¬ k=3)(h4:¬ k=4):
  Calls prog 144 #[AC k wds m] w λ e w'=>e=.returned (.int .i64 2)/\Kp Ab w w':=by
 have kA:=(Kr Ab w).alloc (.cells #[.int .u8 k,.int .i64 wds,.int .u64 m] 86)
 unfold AC
 go_enter func144,ntmps144
 go_wp2
 go_ret
 exact⟨rfl,kA⟩

theorem div_ne{M W:Nat}(h:M/2 ^ W=0):(((M:Nat):Int)/2 ^ W !=0)=false:=by
 rw[show (((M:Nat):Int)/2 ^ W)=((M/2 ^ W:Nat):Int) by simp,h];rfl

theorem div_ne'{M W:Nat}(h:¬ M/2 ^ W=0):(((M:Nat):Int)/2 ^ W !=0)=true:=by
 rw[show (((M:Nat):Int)/2 ^ W)=((M/2 ^ W:Nat):Int) by simp];simp only[bne_iff_ne,ne_eq];omega

theorem KCheck_1ok(W M:Nat)(w:World)(h0:0<=W)(h1:W<64)(h2:M/2 ^ W=0):
  Calls prog 144 #[AC 1 W M] w λ e w'=>e=.returned (.int .i64 0)/\Kp Ab w w':=by
 have kA:=(Kr Ab w).alloc (.cells #[.int .u8 1,.int .i64 (W:Nat),.int .u64 (M:Nat)] 86)
 have hb:=div_ne h2
 have h3:¬ (W:Int)<0:=by omega
 have h4:¬ (64:Int)<W:=by omega
 have h5:(W:Int)<64:=by omega
 clear h2
 unfold AC
 go_enter func144,ntmps144
 go_wp2
 go_ret
 exact⟨rfl,kA⟩

theorem KCheck_1no(W M:Nat)(w:World)(h0:0<=W)(h1:W<64)(h2:¬ M/2 ^ W=0):
  Calls prog 144 #[AC 1 W M] w λ e w'=>e=.returned (.int .i64 2)/\Kp Ab w w':=by
 have kA:=(Kr Ab w).alloc (.cells #[.int .u8 1,.int .i64 (W:Nat),.int .u64 (M:Nat)] 86)
 have hb:=div_ne' h2
 have h3:¬ (W:Int)<0:=by omega
 have h4:¬ (64:Int)<W:=by omega
 have h5:(W:Int)<64:=by omega
 clear h2
 unfold AC
 go_enter func144,ntmps144
 go_wp2
 go_ret
 exact⟨rfl,kA⟩

theorem KCheck_1low(wds m:Int)(w:World)(h1:wds<0):
  Calls prog 144 #[AC 1 wds m] w λ e w'=>e=.returned (.int .i64 2)/\Kp Ab w w':=by
 have kA:=(Kr Ab w).alloc (.cells #[.int .u8 1,.int .i64 wds,.int .u64 m] 86)
 unfold AC
 go_enter func144,ntmps144
 go_wp2
 go_ret
 exact⟨rfl,kA⟩

theorem KCheck_1high(wds m:Int)(w:World)(h1:64<wds):
  Calls prog 144 #[AC 1 wds m] w λ e w'=>e=.returned (.int .i64 2)/\Kp Ab w w':=by
 have kA:=(Kr Ab w).alloc (.cells #[.int .u8 1,.int .i64 wds,.int .u64 m] 86)
 have h2:¬ wds<0:=by omega
 unfold AC
 go_enter func144,ntmps144
 go_wp2
 go_ret
 exact⟨rfl,kA⟩

theorem KCheck_3ok(W M:Nat)(w:World)(h0:1<=W)(h1:W<17)(h2:M/2 ^ W=0):
  Calls prog 144 #[AC 3 W M] w λ e w'=>e=.returned (.int .i64 0)/\Kp Ab w w':=by
 have kA:=(Kr Ab w).alloc (.cells #[.int .u8 3,.int .i64 (W:Nat),.int .u64 (M:Nat)] 86)
 have hb:=div_ne h2
 have h3:¬ (W:Int)<1:=by omega
 have h4:¬ (16:Int)<W:=by omega
 have h5:(W:Int)<64:=by omega
 clear h2
 unfold AC
 go_enter func144,ntmps144
 go_wp2
 go_ret
 exact⟨rfl,kA⟩

theorem KCheck_3no(W M:Nat)(w:World)(h0:1<=W)(h1:W<17)(h2:¬ M/2 ^ W=0):
  Calls prog 144 #[AC 3 W M] w λ e w'=>e=.returned (.int .i64 2)/\Kp Ab w w':=by
 have kA:=(Kr Ab w).alloc (.cells #[.int .u8 3,.int .i64 (W:Nat),.int .u64 (M:Nat)] 86)
 have hb:=div_ne' h2
 have h3:¬ (W:Int)<1:=by omega
 have h4:¬ (16:Int)<W:=by omega
 have h5:(W:Int)<64:=by omega
 clear h2
 unfold AC
 go_enter func144,ntmps144
 go_wp2
 go_ret
 exact⟨rfl,kA⟩

theorem KCheck_3low(wds m:Int)(w:World)(h1:wds<1):
  Calls prog 144 #[AC 3 wds m] w λ e w'=>e=.returned (.int .i64 2)/\Kp Ab w w':=by
 have kA:=(Kr Ab w).alloc (.cells #[.int .u8 3,.int .i64 wds,.int .u64 m] 86)
 unfold AC
 go_enter func144,ntmps144
 go_wp2
 go_ret
 exact⟨rfl,kA⟩

theorem KCheck_3high(wds m:Int)(w:World)(h1:16<wds):
  Calls prog 144 #[AC 3 wds m] w λ e w'=>e=.returned (.int .i64 2)/\Kp Ab w w':=by
 have kA:=(Kr Ab w).alloc (.cells #[.int .u8 3,.int .i64 wds,.int .u64 m] 86)
 have h2:¬ wds<1:=by omega
 unfold AC
 go_enter func144,ntmps144
 go_wp2
 go_ret
 exact⟨rfl,kA⟩

theorem KCheck_1full(m:Int)(w:World):
  Calls prog 144 #[AC 1 64 m] w λ e w'=>e=.returned (.int .i64 0)/\Kp Ab w w':=by
 have kA:=(Kr Ab w).alloc (.cells #[.int .u8 1,.int .i64 64,.int .u64 m] 86)
 unfold AC
 go_enter func144,ntmps144
 go_wp2
 go_ret
 exact⟨rfl,kA⟩

theorem KCheck_2ok(w:World):
  Calls prog 144 #[AC 2 0 0] w λ e w'=>e=.returned (.int .i64 0)/\Kp Ab w w':=by
 have kA:=(Kr Ab w).alloc (.cells #[.int .u8 2,.int .i64 0,.int .u64 0] 86)
 unfold AC
 go_enter func144,ntmps144
 go_wp2
 go_ret
 exact⟨rfl,kA⟩

theorem KCheck_2no(m:Int)(w:World)(h:¬ m=0):
  Calls prog 144 #[AC 2 0 m] w λ e w'=>e=.returned (.int .i64 2)/\Kp Ab w w':=by
 have kA:=(Kr Ab w).alloc (.cells #[.int .u8 2,.int .i64 0,.int .u64 m] 86)
 have hb:(m !=0)=true:=by simpa using h
 unfold AC
 go_enter func144,ntmps144
 go_wp2
 go_ret
 exact⟨rfl,kA⟩

theorem KCheck_2low(wds m:Int)(w:World)(h1:wds<0):
  Calls prog 144 #[AC 2 wds m] w λ e w'=>e=.returned (.int .i64 2)/\Kp Ab w w':=by
 have kA:=(Kr Ab w).alloc (.cells #[.int .u8 2,.int .i64 wds,.int .u64 m] 86)
 unfold AC
 go_enter func144,ntmps144
 go_wp2
 go_ret
 exact⟨rfl,kA⟩

theorem KCheck_2high(wds m:Int)(w:World)(h1:0<wds):
  Calls prog 144 #[AC 2 wds m] w λ e w'=>e=.returned (.int .i64 2)/\Kp Ab w w':=by
 have kA:=(Kr Ab w).alloc (.cells #[.int .u8 2,.int .i64 wds,.int .u64 m] 86)
 have h2:¬ wds<0:=by omega
 unfold AC
 go_enter func144,ntmps144
 go_wp2
 go_ret
 exact⟨rfl,kA⟩

theorem KCheck_4ok(w:World):
  Calls prog 144 #[AC 4 0 0] w λ e w'=>e=.returned (.int .i64 0)/\Kp Ab w w':=by
 have kA:=(Kr Ab w).alloc (.cells #[.int .u8 4,.int .i64 0,.int .u64 0] 86)
 unfold AC
 go_enter func144,ntmps144
 go_wp2
 go_ret
 exact⟨rfl,kA⟩

theorem KCheck_4no(m:Int)(w:World)(h:¬ m=0):
  Calls prog 144 #[AC 4 0 m] w λ e w'=>e=.returned (.int .i64 2)/\Kp Ab w w':=by
 have kA:=(Kr Ab w).alloc (.cells #[.int .u8 4,.int .i64 0,.int .u64 m] 86)
 have hb:(m !=0)=true:=by simpa using h
 unfold AC
 go_enter func144,ntmps144
 go_wp2
 go_ret
 exact⟨rfl,kA⟩

theorem KCheck_4low(wds m:Int)(w:World)(h1:wds<0):
  Calls prog 144 #[AC 4 wds m] w λ e w'=>e=.returned (.int .i64 2)/\Kp Ab w w':=by
 have kA:=(Kr Ab w).alloc (.cells #[.int .u8 4,.int .i64 wds,.int .u64 m] 86)
 unfold AC
 go_enter func144,ntmps144
 go_wp2
 go_ret
 exact⟨rfl,kA⟩

theorem KCheck_4high(wds m:Int)(w:World)(h1:0<wds):
  Calls prog 144 #[AC 4 wds m] w λ e w'=>e=.returned (.int .i64 2)/\Kp Ab w w':=by
 have kA:=(Kr Ab w).alloc (.cells #[.int .u8 4,.int .i64 wds,.int .u64 m] 86)
 have h2:¬ wds<0:=by omega
 unfold AC
 go_enter func144,ntmps144
 go_wp2
 go_ret
 exact⟨rfl,kA⟩

theorem Dt(k wds:Int)(M:Nat)(w:World):
  Calls prog 144 #[AC k wds M] w λ e w'=>e=.returned (.int .i64 (errV (Di k wds M)))/\Kp Ab w w':=by
 have yes:Di k wds M=true->errV (Di k wds M)=0:=λ h=>by rw[h];rfl
 have no:Di k wds M=false->errV (Di k wds M)=2:=λ h=>by rw[h];rfl
 by_cases k1:k=1
 .subst k1
  by_cases h1:wds<0
  .rw [no (by simp[Di];omega)];exact KCheck_1low wds M w h1
  by_cases h2:64<wds
  .rw [no (by simp[Di];omega)];exact KCheck_1high wds M w h2
  by_cases h3:wds=64
  .subst h3
   rw[yes (by simp[Di])];exact KCheck_1full M w
  obtain⟨W,rfl⟩:=Int.eq_ofNat_of_zero_le (show 0<=wds by omega)
  by_cases h4:M/2 ^ W=0
  .rw [yes (by simp[Di,h4];omega)];exact KCheck_1ok W M w (by omega) (by omega) h4
  .rw [no (by simp only[Di,Int.toNat_natCast,dF h4,Bool.or_false,dF (show ¬ (64:Int)<=W by omega),Bool.and_false])];exact KCheck_1no W M w (by omega) (by omega) h4
 by_cases k3:k=3
 .subst k3
  by_cases h1:wds<1
  .rw [no (by simp[Di];omega)];exact KCheck_3low wds M w h1
  by_cases h2:16<wds
  .rw [no (by simp[Di];omega)];exact KCheck_3high wds M w h2
  obtain⟨W,rfl⟩:=Int.eq_ofNat_of_zero_le (show 0<=wds by omega)
  by_cases h4:M/2 ^ W=0
  .rw [yes (by simp[Di,h4];omega)];exact KCheck_3ok W M w (by omega) (by omega) h4
  .rw [no (by simp only[Di,Int.toNat_natCast,dF h4,Bool.or_false,dF (show ¬ (64:Int)<=W by omega),Bool.and_false])];exact KCheck_3no W M w (by omega) (by omega) h4
 by_cases k2:k=2
 .subst k2
  by_cases h1:wds<0
  .rw [no (by simp[Di];omega)];exact KCheck_2low wds M w h1
  by_cases h2:0<wds
  .rw [no (by simp[Di];omega)];exact KCheck_2high wds M w h2
  obtain rfl:wds=0:=by omega
  by_cases h4:M=0
  .subst h4
   rw[yes (by decide)];exact KCheck_2ok w
  .rw [no (by simp[Di,h4])];exact KCheck_2no M w (by omega)
 by_cases k4:k=4
 .subst k4
  by_cases h1:wds<0
  .rw [no (by simp[Di];omega)];exact KCheck_4low wds M w h1
  by_cases h2:0<wds
  .rw [no (by simp[Di];omega)];exact KCheck_4high wds M w h2
  obtain rfl:wds=0:=by omega
  by_cases h4:M=0
  .subst h4
   rw[yes (by decide)];exact KCheck_4ok w
  .rw [no (by simp[Di,h4])];exact KCheck_4no M w (by omega)
 rw[no (by simp[Di,k1,k2,k3,k4])];exact KCheck_else k wds M w k1 k2 k3 k4

def BK(k wds m n:Int):Value:=.agg #[.int .u8 k,.int .i64 wds,.int .u64 m,.int .i64 n]

theorem Kof_ok(k wds:Int)(M:Nat)(n:Int)(w:World)(h1:Di k wds M=true)(h2:0<=n)(h3:¬ k=1)(h4:n<=4096):
  Calls prog 103 #[AC k wds M,.int .i64 n] w λ e w'=>e=.returned (.tuple #[BK k wds (M:Nat) n,.int .i64 0])/\Kp Ab w w':=by
 have CK:=λ w=>Dt k wds M w
 rw[h1] at CK
 unfold AC at CK ⊢
 have HC:=sE CK
 clear CK h1
 obtain⟨w1,hw1⟩:∃ w1,w1=(w.alloc (.cells #[.int .u8 k,.int .i64 wds,.int .u64 (M:Nat)] 86)).alloc (.cells #[.int .u8 0,.int .i64 0,.int .u64 0,.int .i64 0] 187):=⟨_,rfl⟩
 have kA:Kp Ab w w1:=by rw[hw1];exact ((Kr _ w).alloc _).alloc _
 have b0:w1.heap[w.heap.size]?=some (.cells #[.int .u8 k,.int .i64 wds,.int .u64 (M:Nat)] 86 (0,0)):=by
  rw[hw1];exact ((Kr Ab _).alloc _).at_ (wN w _) (λ h=>h)
 have b1:w1.heap[w.heap.size+1]?=some (.cells #[.int .u8 0,.int .i64 0,.int .u64 0,.int .i64 0] 187 (0,0)):=by
  rw[hw1];have:=wN (w.alloc (.cells #[.int .u8 k,.int .i64 wds,.int .u64 (M:Nat)] 86)) (.cells #[.int .u8 0,.int .i64 0,.int .u64 0,.int .i64 0] 187);rwa [World.size_alloc] at this
 go_enter func103,ntmps103
 go_wp2_with fail
 rw[<- hw1]
 clear hw1
 refine(HC.out w1).mono ?_
 rintro e w2 ⟨rfl,k2⟩
 have B0:=k2.at_ b0 (λ h=>h)
 have B1:=k2.at_ b1 (λ h=>h)
 have c0:w2.cell? ⟨w.heap.size,0,none⟩=some (.int .u8 k):=by simp[World.cell?,B0]
 have c1:w2.cell? ⟨w.heap.size,1,none⟩=some (.int .i64 wds):=by simp[World.cell?,B0]
 have c2:w2.cell? ⟨w.heap.size,2,none⟩=some (.int .u64 (M:Nat)):=by simp[World.cell?,B0]
 have d0:w2.cell? ⟨w.heap.size+1,0,none⟩=some (.int .u8 0):=by simp[World.cell?,B1]
 have d1:w2.cell? ⟨w.heap.size+1,1,none⟩=some (.int .i64 0):=by simp[World.cell?,B1]
 have d2:w2.cell? ⟨w.heap.size+1,2,none⟩=some (.int .u64 0):=by simp[World.cell?,B1]
 have d3:w2.cell? ⟨w.heap.size+1,3,none⟩=some (.int .i64 0):=by simp[World.cell?,B1]
 have f0:=Ae B1
 have f00:=f0 0
 have f01:=f0 1
 have f02:=f0 2
 have f03:=f0 3
 have kW:=kA.trans k2 (λ _ _ h=>h)
 have HB1:=sE B1
 clear b0 b1 B0 B1 f0
 go_wp2
 obtain⟨w3,hw3⟩:∃ w3,w3=((((w2.setCell ⟨w.heap.size+1,0,none⟩ (.int .u8 k)).setCell ⟨w.heap.size+1,1,none⟩ (.int .i64 wds)).setCell ⟨w.heap.size+1,2,none⟩ (.int .u64 (M:Nat))).setCell ⟨w.heap.size+1,3,none⟩ (.int .i64 n)):=⟨_,rfl⟩
 rw[<- hw3]
 have t3:w3.heap[w.heap.size+1]?=some (.cells #[.int .u8 k,.int .i64 wds,.int .u64 (M:Nat),.int .i64 n] 187 (0,0)):=by
  rw[hw3];exact bZ (bZ (bZ (bZ HB1.out (j:=0) _) (j:=1) _) (j:=2) _) (j:=3) _
 have k3:Kp (λ i=>i=w.heap.size+1) w2 w3:=by rw[hw3];exact ((((Kr (λ i=>i=w.heap.size+1) w2).setCell (λ _=>rfl) _).setCell (λ _=>rfl) _).setCell (λ _=>rfl) _).setCell (λ _=>rfl) _
 clear hw3
 have e0:w3.cell? ⟨w.heap.size+1,0,none⟩=some (.int .u8 k):=by simp[World.cell?,t3]
 have e1:w3.cell? ⟨w.heap.size+1,1,none⟩=some (.int .i64 wds):=by simp[World.cell?,t3]
 have e2:w3.cell? ⟨w.heap.size+1,2,none⟩=some (.int .u64 (M:Nat)):=by simp[World.cell?,t3]
 have e3:w3.cell? ⟨w.heap.size+1,3,none⟩=some (.int .i64 n):=by simp[World.cell?,t3]
 refine bodyPost_ret (v:=.tuple #[BK k wds (M:Nat) n,.int .i64 0]) ?_ rfl ⟨rfl,kW.trans k3 (λ i hi h=>by omega)⟩
 simp[results,results103,go_sem,e0,e1,e2,e3,BK]

theorem Kof_ok1(wds:Int)(M:Nat)(n:Int)(w:World)(h1:Di 1 wds M=true):
  Calls prog 103 #[AC 1 wds M,.int .i64 0] w λ e w'=>e=.returned (.tuple #[BK 1 wds (M:Nat) 0,.int .i64 0])/\Kp Ab w w':=by
 have CK:=λ w=>Dt 1 wds M w
 rw[h1] at CK
 unfold AC at CK ⊢
 have HC:=sE CK
 clear CK h1
 obtain⟨w1,hw1⟩:∃ w1,w1=(w.alloc (.cells #[.int .u8 1,.int .i64 wds,.int .u64 (M:Nat)] 86)).alloc (.cells #[.int .u8 0,.int .i64 0,.int .u64 0,.int .i64 0] 187):=⟨_,rfl⟩
 have kA:Kp Ab w w1:=by rw[hw1];exact ((Kr _ w).alloc _).alloc _
 have b0:w1.heap[w.heap.size]?=some (.cells #[.int .u8 1,.int .i64 wds,.int .u64 (M:Nat)] 86 (0,0)):=by
  rw[hw1];exact ((Kr Ab _).alloc _).at_ (wN w _) (λ h=>h)
 have b1:w1.heap[w.heap.size+1]?=some (.cells #[.int .u8 0,.int .i64 0,.int .u64 0,.int .i64 0] 187 (0,0)):=by
  rw[hw1];have:=wN (w.alloc (.cells #[.int .u8 1,.int .i64 wds,.int .u64 (M:Nat)] 86)) (.cells #[.int .u8 0,.int .i64 0,.int .u64 0,.int .i64 0] 187);rwa [World.size_alloc] at this
 go_enter func103,ntmps103
 go_wp2_with fail
 rw[<- hw1]
 clear hw1
 refine(HC.out w1).mono ?_
 rintro e w2 ⟨rfl,k2⟩
 have B0:=k2.at_ b0 (λ h=>h)
 have B1:=k2.at_ b1 (λ h=>h)
 have c0:w2.cell? ⟨w.heap.size,0,none⟩=some (.int .u8 1):=by simp[World.cell?,B0]
 have c1:w2.cell? ⟨w.heap.size,1,none⟩=some (.int .i64 wds):=by simp[World.cell?,B0]
 have c2:w2.cell? ⟨w.heap.size,2,none⟩=some (.int .u64 (M:Nat)):=by simp[World.cell?,B0]
 have d0:w2.cell? ⟨w.heap.size+1,0,none⟩=some (.int .u8 0):=by simp[World.cell?,B1]
 have d1:w2.cell? ⟨w.heap.size+1,1,none⟩=some (.int .i64 0):=by simp[World.cell?,B1]
 have d2:w2.cell? ⟨w.heap.size+1,2,none⟩=some (.int .u64 0):=by simp[World.cell?,B1]
 have d3:w2.cell? ⟨w.heap.size+1,3,none⟩=some (.int .i64 0):=by simp[World.cell?,B1]
 have f0:=Ae B1
 have f00:=f0 0
 have f01:=f0 1
 have f02:=f0 2
 have f03:=f0 3
 have kW:=kA.trans k2 (λ _ _ h=>h)
 have HB1:=sE B1
 clear b0 b1 B0 B1 f0
 go_wp2
 obtain⟨w3,hw3⟩:∃ w3,w3=((((w2.setCell ⟨w.heap.size+1,0,none⟩ (.int .u8 1)).setCell ⟨w.heap.size+1,1,none⟩ (.int .i64 wds)).setCell ⟨w.heap.size+1,2,none⟩ (.int .u64 (M:Nat))).setCell ⟨w.heap.size+1,3,none⟩ (.int .i64 0)):=⟨_,rfl⟩
 rw[<- hw3]
 have t3:w3.heap[w.heap.size+1]?=some (.cells #[.int .u8 1,.int .i64 wds,.int .u64 (M:Nat),.int .i64 0] 187 (0,0)):=by
  rw[hw3];exact bZ (bZ (bZ (bZ HB1.out (j:=0) _) (j:=1) _) (j:=2) _) (j:=3) _
 have k3:Kp (λ i=>i=w.heap.size+1) w2 w3:=by rw[hw3];exact ((((Kr (λ i=>i=w.heap.size+1) w2).setCell (λ _=>rfl) _).setCell (λ _=>rfl) _).setCell (λ _=>rfl) _).setCell (λ _=>rfl) _
 clear hw3
 have e0:w3.cell? ⟨w.heap.size+1,0,none⟩=some (.int .u8 1):=by simp[World.cell?,t3]
 have e1:w3.cell? ⟨w.heap.size+1,1,none⟩=some (.int .i64 wds):=by simp[World.cell?,t3]
 have e2:w3.cell? ⟨w.heap.size+1,2,none⟩=some (.int .u64 (M:Nat)):=by simp[World.cell?,t3]
 have e3:w3.cell? ⟨w.heap.size+1,3,none⟩=some (.int .i64 0):=by simp[World.cell?,t3]
 refine bodyPost_ret (v:=.tuple #[BK 1 wds (M:Nat) 0,.int .i64 0]) ?_ rfl ⟨rfl,kW.trans k3 (λ i hi h=>by omega)⟩
 simp[results,results103,go_sem,e0,e1,e2,e3,BK]

theorem Kof_bad(k wds:Int)(M:Nat)(n:Int)(w:World)(h1:Di k wds M=false):
  Calls prog 103 #[AC k wds M,.int .i64 n] w λ e w'=>e=.returned (.tuple #[BK 0 0 0 0,.int .i64 2])/\Kp Ab w w':=by
 have CK:=λ w=>Dt k wds M w
 rw[h1] at CK
 unfold AC at CK ⊢
 have HC:=sE CK
 clear CK h1
 obtain⟨w1,hw1⟩:∃ w1,w1=(w.alloc (.cells #[.int .u8 k,.int .i64 wds,.int .u64 (M:Nat)] 86)).alloc (.cells #[.int .u8 0,.int .i64 0,.int .u64 0,.int .i64 0] 187):=⟨_,rfl⟩
 have kA:Kp Ab w w1:=by rw[hw1];exact ((Kr _ w).alloc _).alloc _
 have b0:w1.heap[w.heap.size]?=some (.cells #[.int .u8 k,.int .i64 wds,.int .u64 (M:Nat)] 86 (0,0)):=by
  rw[hw1];exact ((Kr Ab _).alloc _).at_ (wN w _) (λ h=>h)
 have b1:w1.heap[w.heap.size+1]?=some (.cells #[.int .u8 0,.int .i64 0,.int .u64 0,.int .i64 0] 187 (0,0)):=by
  rw[hw1];have:=wN (w.alloc (.cells #[.int .u8 k,.int .i64 wds,.int .u64 (M:Nat)] 86)) (.cells #[.int .u8 0,.int .i64 0,.int .u64 0,.int .i64 0] 187);rwa [World.size_alloc] at this
 go_enter func103,ntmps103
 go_wp2_with fail
 rw[<- hw1]
 clear hw1
 refine(HC.out w1).mono ?_
 rintro e w2 ⟨rfl,k2⟩
 have B0:=k2.at_ b0 (λ h=>h)
 have B1:=k2.at_ b1 (λ h=>h)
 have c0:w2.cell? ⟨w.heap.size,0,none⟩=some (.int .u8 k):=by simp[World.cell?,B0]
 have c1:w2.cell? ⟨w.heap.size,1,none⟩=some (.int .i64 wds):=by simp[World.cell?,B0]
 have c2:w2.cell? ⟨w.heap.size,2,none⟩=some (.int .u64 (M:Nat)):=by simp[World.cell?,B0]
 have d0:w2.cell? ⟨w.heap.size+1,0,none⟩=some (.int .u8 0):=by simp[World.cell?,B1]
 have d1:w2.cell? ⟨w.heap.size+1,1,none⟩=some (.int .i64 0):=by simp[World.cell?,B1]
 have d2:w2.cell? ⟨w.heap.size+1,2,none⟩=some (.int .u64 0):=by simp[World.cell?,B1]
 have d3:w2.cell? ⟨w.heap.size+1,3,none⟩=some (.int .i64 0):=by simp[World.cell?,B1]
 have f0:=Ae B1
 have f00:=f0 0
 have f01:=f0 1
 have f02:=f0 2
 have f03:=f0 3
 have kW:=kA.trans k2 (λ _ _ h=>h)
 have HB1:=sE B1
 clear b0 b1 B0 B1 f0
 go_wp2
 obtain⟨w3,hw3⟩:∃ w3,w3=((((w2.setCell ⟨w.heap.size+1,0,none⟩ (.int .u8 0)).setCell ⟨w.heap.size+1,1,none⟩ (.int .i64 0)).setCell ⟨w.heap.size+1,2,none⟩ (.int .u64 0)).setCell ⟨w.heap.size+1,3,none⟩ (.int .i64 0)):=⟨_,rfl⟩
 rw[<- hw3]
 have t3:w3.heap[w.heap.size+1]?=some (.cells #[.int .u8 0,.int .i64 0,.int .u64 0,.int .i64 0] 187 (0,0)):=by
  rw[hw3];exact bZ (bZ (bZ (bZ HB1.out (j:=0) _) (j:=1) _) (j:=2) _) (j:=3) _
 have k3:Kp (λ i=>i=w.heap.size+1) w2 w3:=by rw[hw3];exact ((((Kr (λ i=>i=w.heap.size+1) w2).setCell (λ _=>rfl) _).setCell (λ _=>rfl) _).setCell (λ _=>rfl) _).setCell (λ _=>rfl) _
 clear hw3
 have e0:w3.cell? ⟨w.heap.size+1,0,none⟩=some (.int .u8 0):=by simp[World.cell?,t3]
 have e1:w3.cell? ⟨w.heap.size+1,1,none⟩=some (.int .i64 0):=by simp[World.cell?,t3]
 have e2:w3.cell? ⟨w.heap.size+1,2,none⟩=some (.int .u64 0):=by simp[World.cell?,t3]
 have e3:w3.cell? ⟨w.heap.size+1,3,none⟩=some (.int .i64 0):=by simp[World.cell?,t3]
 refine bodyPost_ret (v:=.tuple #[BK 0 0 0 0,.int .i64 2]) ?_ rfl ⟨rfl,kW.trans k3 (λ i hi h=>by omega)⟩
 simp[results,results103,go_sem,e0,e1,e2,e3,BK]

theorem Kof_neg(k wds:Int)(M:Nat)(n:Int)(w:World)(h1:Di k wds M=true)(h2:n<0):
  Calls prog 103 #[AC k wds M,.int .i64 n] w λ e w'=>e=.returned (.tuple #[BK 0 0 0 0,.int .i64 2])/\Kp Ab w w':=by
 have CK:=λ w=>Dt k wds M w
 rw[h1] at CK
 unfold AC at CK ⊢
 have HC:=sE CK
 clear CK h1
 obtain⟨w1,hw1⟩:∃ w1,w1=(w.alloc (.cells #[.int .u8 k,.int .i64 wds,.int .u64 (M:Nat)] 86)).alloc (.cells #[.int .u8 0,.int .i64 0,.int .u64 0,.int .i64 0] 187):=⟨_,rfl⟩
 have kA:Kp Ab w w1:=by rw[hw1];exact ((Kr _ w).alloc _).alloc _
 have b0:w1.heap[w.heap.size]?=some (.cells #[.int .u8 k,.int .i64 wds,.int .u64 (M:Nat)] 86 (0,0)):=by
  rw[hw1];exact ((Kr Ab _).alloc _).at_ (wN w _) (λ h=>h)
 have b1:w1.heap[w.heap.size+1]?=some (.cells #[.int .u8 0,.int .i64 0,.int .u64 0,.int .i64 0] 187 (0,0)):=by
  rw[hw1];have:=wN (w.alloc (.cells #[.int .u8 k,.int .i64 wds,.int .u64 (M:Nat)] 86)) (.cells #[.int .u8 0,.int .i64 0,.int .u64 0,.int .i64 0] 187);rwa [World.size_alloc] at this
 go_enter func103,ntmps103
 go_wp2_with fail
 rw[<- hw1]
 clear hw1
 refine(HC.out w1).mono ?_
 rintro e w2 ⟨rfl,k2⟩
 have B0:=k2.at_ b0 (λ h=>h)
 have B1:=k2.at_ b1 (λ h=>h)
 have c0:w2.cell? ⟨w.heap.size,0,none⟩=some (.int .u8 k):=by simp[World.cell?,B0]
 have c1:w2.cell? ⟨w.heap.size,1,none⟩=some (.int .i64 wds):=by simp[World.cell?,B0]
 have c2:w2.cell? ⟨w.heap.size,2,none⟩=some (.int .u64 (M:Nat)):=by simp[World.cell?,B0]
 have d0:w2.cell? ⟨w.heap.size+1,0,none⟩=some (.int .u8 0):=by simp[World.cell?,B1]
 have d1:w2.cell? ⟨w.heap.size+1,1,none⟩=some (.int .i64 0):=by simp[World.cell?,B1]
 have d2:w2.cell? ⟨w.heap.size+1,2,none⟩=some (.int .u64 0):=by simp[World.cell?,B1]
 have d3:w2.cell? ⟨w.heap.size+1,3,none⟩=some (.int .i64 0):=by simp[World.cell?,B1]
 have f0:=Ae B1
 have f00:=f0 0
 have f01:=f0 1
 have f02:=f0 2
 have f03:=f0 3
 have kW:=kA.trans k2 (λ _ _ h=>h)
 have HB1:=sE B1
 clear b0 b1 B0 B1 f0
 go_wp2
 obtain⟨w3,hw3⟩:∃ w3,w3=((((w2.setCell ⟨w.heap.size+1,0,none⟩ (.int .u8 0)).setCell ⟨w.heap.size+1,1,none⟩ (.int .i64 0)).setCell ⟨w.heap.size+1,2,none⟩ (.int .u64 0)).setCell ⟨w.heap.size+1,3,none⟩ (.int .i64 0)):=⟨_,rfl⟩
 rw[<- hw3]
 have t3:w3.heap[w.heap.size+1]?=some (.cells #[.int .u8 0,.int .i64 0,.int .u64 0,.int .i64 0] 187 (0,0)):=by
  rw[hw3];exact bZ (bZ (bZ (bZ HB1.out (j:=0) _) (j:=1) _) (j:=2) _) (j:=3) _
 have k3:Kp (λ i=>i=w.heap.size+1) w2 w3:=by rw[hw3];exact ((((Kr (λ i=>i=w.heap.size+1) w2).setCell (λ _=>rfl) _).setCell (λ _=>rfl) _).setCell (λ _=>rfl) _).setCell (λ _=>rfl) _
 clear hw3
 have e0:w3.cell? ⟨w.heap.size+1,0,none⟩=some (.int .u8 0):=by simp[World.cell?,t3]
 have e1:w3.cell? ⟨w.heap.size+1,1,none⟩=some (.int .i64 0):=by simp[World.cell?,t3]
 have e2:w3.cell? ⟨w.heap.size+1,2,none⟩=some (.int .u64 0):=by simp[World.cell?,t3]
 have e3:w3.cell? ⟨w.heap.size+1,3,none⟩=some (.int .i64 0):=by simp[World.cell?,t3]
 refine bodyPost_ret (v:=.tuple #[BK 0 0 0 0,.int .i64 2]) ?_ rfl ⟨rfl,kW.trans k3 (λ i hi h=>by omega)⟩
 simp[results,results103,go_sem,e0,e1,e2,e3,BK]

theorem Kof_fix(wds:Int)(M:Nat)(n:Int)(w:World)(h1:Di 1 wds M=true)(h2:0<=n)(h3:¬ n=0):
  Calls prog 103 #[AC 1 wds M,.int .i64 n] w λ e w'=>e=.returned (.tuple #[BK 0 0 0 0,.int .i64 2])/\Kp Ab w w':=by
 have hb:(n !=0)=true:=by simpa using h3
 have CK:=λ w=>Dt 1 wds M w
 rw[h1] at CK
 unfold AC at CK ⊢
 have HC:=sE CK
 clear CK h1
 obtain⟨w1,hw1⟩:∃ w1,w1=(w.alloc (.cells #[.int .u8 1,.int .i64 wds,.int .u64 (M:Nat)] 86)).alloc (.cells #[.int .u8 0,.int .i64 0,.int .u64 0,.int .i64 0] 187):=⟨_,rfl⟩
 have kA:Kp Ab w w1:=by rw[hw1];exact ((Kr _ w).alloc _).alloc _
 have b0:w1.heap[w.heap.size]?=some (.cells #[.int .u8 1,.int .i64 wds,.int .u64 (M:Nat)] 86 (0,0)):=by
  rw[hw1];exact ((Kr Ab _).alloc _).at_ (wN w _) (λ h=>h)
 have b1:w1.heap[w.heap.size+1]?=some (.cells #[.int .u8 0,.int .i64 0,.int .u64 0,.int .i64 0] 187 (0,0)):=by
  rw[hw1];have:=wN (w.alloc (.cells #[.int .u8 1,.int .i64 wds,.int .u64 (M:Nat)] 86)) (.cells #[.int .u8 0,.int .i64 0,.int .u64 0,.int .i64 0] 187);rwa [World.size_alloc] at this
 go_enter func103,ntmps103
 go_wp2_with fail
 rw[<- hw1]
 clear hw1
 refine(HC.out w1).mono ?_
 rintro e w2 ⟨rfl,k2⟩
 have B0:=k2.at_ b0 (λ h=>h)
 have B1:=k2.at_ b1 (λ h=>h)
 have c0:w2.cell? ⟨w.heap.size,0,none⟩=some (.int .u8 1):=by simp[World.cell?,B0]
 have c1:w2.cell? ⟨w.heap.size,1,none⟩=some (.int .i64 wds):=by simp[World.cell?,B0]
 have c2:w2.cell? ⟨w.heap.size,2,none⟩=some (.int .u64 (M:Nat)):=by simp[World.cell?,B0]
 have d0:w2.cell? ⟨w.heap.size+1,0,none⟩=some (.int .u8 0):=by simp[World.cell?,B1]
 have d1:w2.cell? ⟨w.heap.size+1,1,none⟩=some (.int .i64 0):=by simp[World.cell?,B1]
 have d2:w2.cell? ⟨w.heap.size+1,2,none⟩=some (.int .u64 0):=by simp[World.cell?,B1]
 have d3:w2.cell? ⟨w.heap.size+1,3,none⟩=some (.int .i64 0):=by simp[World.cell?,B1]
 have f0:=Ae B1
 have f00:=f0 0
 have f01:=f0 1
 have f02:=f0 2
 have f03:=f0 3
 have kW:=kA.trans k2 (λ _ _ h=>h)
 have HB1:=sE B1
 clear b0 b1 B0 B1 f0
 go_wp2
 obtain⟨w3,hw3⟩:∃ w3,w3=((((w2.setCell ⟨w.heap.size+1,0,none⟩ (.int .u8 0)).setCell ⟨w.heap.size+1,1,none⟩ (.int .i64 0)).setCell ⟨w.heap.size+1,2,none⟩ (.int .u64 0)).setCell ⟨w.heap.size+1,3,none⟩ (.int .i64 0)):=⟨_,rfl⟩
 rw[<- hw3]
 have t3:w3.heap[w.heap.size+1]?=some (.cells #[.int .u8 0,.int .i64 0,.int .u64 0,.int .i64 0] 187 (0,0)):=by
  rw[hw3];exact bZ (bZ (bZ (bZ HB1.out (j:=0) _) (j:=1) _) (j:=2) _) (j:=3) _
 have k3:Kp (λ i=>i=w.heap.size+1) w2 w3:=by rw[hw3];exact ((((Kr (λ i=>i=w.heap.size+1) w2).setCell (λ _=>rfl) _).setCell (λ _=>rfl) _).setCell (λ _=>rfl) _).setCell (λ _=>rfl) _
 clear hw3
 have e0:w3.cell? ⟨w.heap.size+1,0,none⟩=some (.int .u8 0):=by simp[World.cell?,t3]
 have e1:w3.cell? ⟨w.heap.size+1,1,none⟩=some (.int .i64 0):=by simp[World.cell?,t3]
 have e2:w3.cell? ⟨w.heap.size+1,2,none⟩=some (.int .u64 0):=by simp[World.cell?,t3]
 have e3:w3.cell? ⟨w.heap.size+1,3,none⟩=some (.int .i64 0):=by simp[World.cell?,t3]
 refine bodyPost_ret (v:=.tuple #[BK 0 0 0 0,.int .i64 2]) ?_ rfl ⟨rfl,kW.trans k3 (λ i hi h=>by omega)⟩
 simp[results,results103,go_sem,e0,e1,e2,e3,BK]

theorem Kof_long(k wds:Int)(M:Nat)(n:Int)(w:World)(h1:Di k wds M=true)(h2:0<=n)(h3:¬ k=1)(h4:4096<n):
  Calls prog 103 #[AC k wds M,.int .i64 n] w λ e w'=>e=.returned (.tuple #[BK 0 0 0 0,.int .i64 5])/\Kp Ab w w':=by
 have CK:=λ w=>Dt k wds M w
 rw[h1] at CK
 unfold AC at CK ⊢
 have HC:=sE CK
 clear CK h1
 obtain⟨w1,hw1⟩:∃ w1,w1=(w.alloc (.cells #[.int .u8 k,.int .i64 wds,.int .u64 (M:Nat)] 86)).alloc (.cells #[.int .u8 0,.int .i64 0,.int .u64 0,.int .i64 0] 187):=⟨_,rfl⟩
 have kA:Kp Ab w w1:=by rw[hw1];exact ((Kr _ w).alloc _).alloc _
 have b0:w1.heap[w.heap.size]?=some (.cells #[.int .u8 k,.int .i64 wds,.int .u64 (M:Nat)] 86 (0,0)):=by
  rw[hw1];exact ((Kr Ab _).alloc _).at_ (wN w _) (λ h=>h)
 have b1:w1.heap[w.heap.size+1]?=some (.cells #[.int .u8 0,.int .i64 0,.int .u64 0,.int .i64 0] 187 (0,0)):=by
  rw[hw1];have:=wN (w.alloc (.cells #[.int .u8 k,.int .i64 wds,.int .u64 (M:Nat)] 86)) (.cells #[.int .u8 0,.int .i64 0,.int .u64 0,.int .i64 0] 187);rwa [World.size_alloc] at this
 go_enter func103,ntmps103
 go_wp2_with fail
 rw[<- hw1]
 clear hw1
 refine(HC.out w1).mono ?_
 rintro e w2 ⟨rfl,k2⟩
 have B0:=k2.at_ b0 (λ h=>h)
 have B1:=k2.at_ b1 (λ h=>h)
 have c0:w2.cell? ⟨w.heap.size,0,none⟩=some (.int .u8 k):=by simp[World.cell?,B0]
 have c1:w2.cell? ⟨w.heap.size,1,none⟩=some (.int .i64 wds):=by simp[World.cell?,B0]
 have c2:w2.cell? ⟨w.heap.size,2,none⟩=some (.int .u64 (M:Nat)):=by simp[World.cell?,B0]
 have d0:w2.cell? ⟨w.heap.size+1,0,none⟩=some (.int .u8 0):=by simp[World.cell?,B1]
 have d1:w2.cell? ⟨w.heap.size+1,1,none⟩=some (.int .i64 0):=by simp[World.cell?,B1]
 have d2:w2.cell? ⟨w.heap.size+1,2,none⟩=some (.int .u64 0):=by simp[World.cell?,B1]
 have d3:w2.cell? ⟨w.heap.size+1,3,none⟩=some (.int .i64 0):=by simp[World.cell?,B1]
 have f0:=Ae B1
 have f00:=f0 0
 have f01:=f0 1
 have f02:=f0 2
 have f03:=f0 3
 have kW:=kA.trans k2 (λ _ _ h=>h)
 have HB1:=sE B1
 clear b0 b1 B0 B1 f0
 go_wp2
 obtain⟨w3,hw3⟩:∃ w3,w3=((((w2.setCell ⟨w.heap.size+1,0,none⟩ (.int .u8 0)).setCell ⟨w.heap.size+1,1,none⟩ (.int .i64 0)).setCell ⟨w.heap.size+1,2,none⟩ (.int .u64 0)).setCell ⟨w.heap.size+1,3,none⟩ (.int .i64 0)):=⟨_,rfl⟩
 rw[<- hw3]
 have t3:w3.heap[w.heap.size+1]?=some (.cells #[.int .u8 0,.int .i64 0,.int .u64 0,.int .i64 0] 187 (0,0)):=by
  rw[hw3];exact bZ (bZ (bZ (bZ HB1.out (j:=0) _) (j:=1) _) (j:=2) _) (j:=3) _
 have k3:Kp (λ i=>i=w.heap.size+1) w2 w3:=by rw[hw3];exact ((((Kr (λ i=>i=w.heap.size+1) w2).setCell (λ _=>rfl) _).setCell (λ _=>rfl) _).setCell (λ _=>rfl) _).setCell (λ _=>rfl) _
 clear hw3
 have e0:w3.cell? ⟨w.heap.size+1,0,none⟩=some (.int .u8 0):=by simp[World.cell?,t3]
 have e1:w3.cell? ⟨w.heap.size+1,1,none⟩=some (.int .i64 0):=by simp[World.cell?,t3]
 have e2:w3.cell? ⟨w.heap.size+1,2,none⟩=some (.int .u64 0):=by simp[World.cell?,t3]
 have e3:w3.cell? ⟨w.heap.size+1,3,none⟩=some (.int .i64 0):=by simp[World.cell?,t3]
 refine bodyPost_ret (v:=.tuple #[BK 0 0 0 0,.int .i64 5]) ?_ rfl ⟨rfl,kW.trans k3 (λ i hi h=>by omega)⟩
 simp[results,results103,go_sem,e0,e1,e2,e3,BK]

def AV(k wds:Int)(M:Nat)(n:Int):Int:=if Di k wds M&&decide (0<=n)&&(decide (¬ k=1)||decide (n=0)) then (if 4096<n then 5 else 0) else 2

def OfPost(k wds:Int)(M:Nat)(n:Int)(w:World)(e:Ending)(w':World):Prop:=
 ∃ v,e=.returned (.tuple #[v,.int .i64 (AV k wds M n)])/\(v=BK k wds M n\/v=BK 0 0 0 0)/\(AV k wds M n=0->v=BK k wds M n)/\Kp Ab w w'

theorem Kof_any(k wds:Int)(M:Nat)(n:Int)(w:World):Calls prog 103 #[AC k wds M,.int .i64 n] w (OfPost k wds M n w):=by
 have ok:AV k wds M n=0->(Calls prog 103 #[AC k wds M,.int .i64 n] w λ e w'=>e=.returned (.tuple #[BK k wds M n,.int .i64 0])/\Kp Ab w w')->Calls prog 103 #[AC k wds M,.int .i64 n] w (OfPost k wds M n w):=λ h c=>c.mono λ e w' ⟨h1,h2⟩=>⟨_,by rw[h,h1],.inl rfl,λ _=>rfl,h2⟩
 have no:∀ x:Int,x≠0->AV k wds M n=x->(Calls prog 103 #[AC k wds M,.int .i64 n] w λ e w'=>e=.returned (.tuple #[BK 0 0 0 0,.int .i64 x])/\Kp Ab w w')->Calls prog 103 #[AC k wds M,.int .i64 n] w (OfPost k wds M n w):=λ x hx h c=>c.mono λ e w' ⟨h1,h2⟩=>⟨_,by rw[h,h1],.inr rfl,λ h0=>absurd (h.symm.trans h0) hx,h2⟩
 cases h1:Di k wds M with
 |false=>exact no 2 (by decide) (by simp[AV,h1]) (Kof_bad k wds M n w h1)
 |true=>
  by_cases h2:n<0
  .exact no 2 (by decide) (by simp[AV,h1];omega) (Kof_neg k wds M n w h1 h2)
  by_cases h3:k=1
  .subst h3
   by_cases h4:n=0
   .subst h4
    exact ok (by simp[AV,h1]) (Kof_ok1 wds M 0 w h1)
   .exact no 2 (by decide) (by simp[AV,h1,h4]) (Kof_fix wds M n w h1 (by omega) h4)
  by_cases h4:4096<n
  .exact no 5 (by decide) (by simp[AV,h1,h3,h4];omega) (Kof_long k wds M n w h1 (by omega) h3 h4)
  .exact ok (by simp[AV,h1,h3,h4];omega) (Kof_ok k wds M n w h1 (by omega) h3 (by omega))

open Go.RowKit Go.Maps

def fnElem(v:Value):Option (DataW Unit×List MemPlace):=
 match v with
 |.func (.func f) a b=>if a.size=0/\b.size=0 then some (.lit (.int .i64 (f:Nat)),[]) else some (.nil,[])
 |_=>some (.nil,[])

theorem fnElem_inv{v:Value}{f:Nat}{ps:List MemPlace}(h:fnElem v=some (.lit (.int .i64 (f:Nat)),ps)):v=.func (.func f) #[] #[]:=by
 unfold fnElem at h
 split at h
 .split at h
  .rename_i g a b hs
   simp only[Option.some.injEq,Prod.mk.injEq,DataW.lit.injEq,Lit.int.injEq,true_and] at h
   have h1:=h.1
   have ha:a=#[]:=Array.eq_empty_of_size_eq_zero hs.1
   have hb:b=#[]:=Array.eq_empty_of_size_eq_zero hs.2
   subst ha hb
   rw[show g=f from Int.ofNat.inj h1]
  .injection h with h;injection h with h1 h2;cases h1
 .injection h with h;injection h with h1 h2;cases h1

theorem C8{H:Type}{P:Program}(w:World){ops:Array Oper}{rest:List Oper}{o:Oper}{a:Act}{Q:Exit->Act->World->Prop}
  (hg:o.guard=none) (m x v:Operand) (t:TypeId) (hop:o.op=Op.insert t m x v)
  (k e:TypeId) (K:Keyed P k) (ht:P.underlying t=some (.map k e)) (R:Value->Option (DataW H×List MemPlace)) (b n:Nat) (D:DataW H)
  (hm:a.eval m=.map (some b)) (hown:w.ownsMap P k R b n D) (hn:n<maxLen) (key val:Value) (kl:Lit) (hx:a.eval x=key) (hv:a.eval v=val) (hkey:keyOf P k key=some kl)
  (d:DataW H) (ps:List MemPlace) (hval:R val=some (d,ps))
  (hK:∀ w',w'.ownsMap P k R b (n+1) (D.put kl d)->w.grownBy w' (some b)->wpList P ops Q rest (a.put o.dst undef) w'):
  wpList P ops Q (o::rest) a w:=by
 refine wpList_plain hg λ K' hK'=>?_
 obtain⟨w',hrun,r1,r2⟩:=hown.update K ht hn hkey hval
 unfold Oper.wp
 simp[execOp,hop,hm,hx,hv,hrun,Result.andThen]
 exact hK' _ _ (hK w' r1 r2)

theorem keyU8:Keyed prog 5:=int_keyed underlying5

theorem Db:prog.underlying 235=some (.map 5 234):=by kernel_rfl

def waysD:DataW Unit:=((((DataW.map []).put (.int .u8 1) (.lit (.int .i64 (178:Nat)))).put (.int .u8 2) (.lit (.int .i64 (179:Nat)))).put (.int .u8 3) (.lit (.int .i64 (180:Nat)))).put (.int .u8 4) (.lit (.int .i64 (179:Nat)))

theorem key8(z:Int)(h:(Lit.int .u8 z).wf=true):keyOf prog 5 (.int .u8 z)=some (.int .u8 z):=keyOf_int_mk underlying5 h

theorem ways_any(w:World):Calls prog 145 #[] w λ e w'=>∃ b,e=.returned (.map (some b))/\w'.ownsMap prog 5 fnElem b 4 waysD/\Kp Ab w w':=by
 have hmm:=@run_makeMap prog
 have own0:=World.ownsMap_made w prog 5 fnElem
 have gr0:Kp Ab w (w.alloc (.map #[] 0)):=(Kr Ab w).alloc _
 go_enter func145,ntmps145
 go_wp2_with (first
  |(refine C8 _ rfl (.tmp 1) _ _ 235 rfl 5 234 keyU8 Db fnElem w.heap.size 0 _ rfl own0 (by unfold maxLen;omega) (.int .u8 1) (.func (.func 178) #[] #[]) (.int .u8 1) rfl rfl (key8 1 rfl) (.lit (.int .i64 (178:Nat))) [] rfl ?_;intro w1 own1 gr1)
  |(refine C8 _ rfl (.tmp 1) _ _ 235 rfl 5 234 keyU8 Db fnElem w.heap.size 1 _ rfl own1 (by unfold maxLen;omega) (.int .u8 2) (.func (.func 179) #[] #[]) (.int .u8 2) rfl rfl (key8 2 rfl) (.lit (.int .i64 (179:Nat))) [] rfl ?_;intro w2 own2 gr2)
  |(refine C8 _ rfl (.tmp 1) _ _ 235 rfl 5 234 keyU8 Db fnElem w.heap.size 2 _ rfl own2 (by unfold maxLen;omega) (.int .u8 3) (.func (.func 180) #[] #[]) (.int .u8 3) rfl rfl (key8 3 rfl) (.lit (.int .i64 (180:Nat))) [] rfl ?_;intro w3 own3 gr3)
  |(refine C8 _ rfl (.tmp 1) _ _ 235 rfl 5 234 keyU8 Db fnElem w.heap.size 3 _ rfl own3 (by unfold maxLen;omega) (.int .u8 4) (.func (.func 179) #[] #[]) (.int .u8 4) rfl rfl (key8 4 rfl) (.lit (.int .i64 (179:Nat))) [] rfl ?_;intro w4 own4 gr4))
 have hz:∀ k,some w.heap.size=some k->k<w.heap.size->Ab k:=λ k e hl=>absurd (Option.some.inj e) (by omega)
 exact bodyPost_ret (v:=.map (some w.heap.size)) (by simp[results,results145,go_sem]) rfl ⟨_,rfl,own4,(((gr0.grown gr1 hz).grown gr2 hz).grown gr3 hz).grown gr4 hz⟩

theorem zeroFn(w:World):(zeroValue 234).run prog w=.ok .nilFunc w:=by kernel_rfl

theorem ways_look(w:World)(b:Nat)(h:w.ownsMap prog 5 fnElem b 4 waysD)(k:Int)(f:Nat)(hk:(Lit.int .u8 k).wf=true)(hf:waysD.atKey (.int .u8 k) .nil=.lit (.int .i64 (f:Nat))):
  (Instr.lookup 235 (.map (some b)) (.int .u8 k) false).run prog w=.ok (.func (.func f) #[] #[]) w:=by
 obtain⟨v,ps,hrun,hv⟩:=h.lookup keyU8 Db (zeroFn w) (zd:=.nil) (zp:=[]) rfl (key8 k hk)
 rw[hf] at hv
 rw[hrun,fnElem_inv hv]

theorem waysD_1:waysD.atKey (.int .u8 1) .nil=.lit (.int .i64 (178:Nat)):=rfl

theorem waysD_2:waysD.atKey (.int .u8 2) .nil=.lit (.int .i64 (179:Nat)):=rfl

theorem waysD_3:waysD.atKey (.int .u8 3) .nil=.lit (.int .i64 (180:Nat)):=rfl

theorem waysD_4:waysD.atKey (.int .u8 4) .nil=.lit (.int .i64 (179:Nat)):=rfl

theorem Kp.then'{a b c:World}(h:Kp Ab a b)(k:Kp Ab b c):Kp Ab a c:=h.trans k (λ _ _ h=>h)

theorem fixed_any(k wds m n:Int)(w:World):Calls prog 178 #[BK k wds m n] w λ e w'=>e=.returned (.int .i64 wds)/\Kp Ab w w':=by
 have kA:=(Kr Ab w).alloc (.cells #[.int .u8 k,.int .i64 wds,.int .u64 m,.int .i64 n] 187)
 unfold BK
 go_enter func178,ntmps178
 go_wp2
 go_ret
 exact⟨rfl,kA⟩

theorem row_any(k wds m n:Int)(w:World):Calls prog 179 #[BK k wds m n] w λ e w'=>e=.returned (.int .i64 n)/\Kp Ab w w':=by
 have kA:=(Kr Ab w).alloc (.cells #[.int .u8 k,.int .i64 wds,.int .u64 m,.int .i64 n] 187)
 unfold BK
 go_enter func179,ntmps179
 go_wp2
 go_ret
 exact⟨rfl,kA⟩

theorem elems_any(k m:Int)(W n:Nat)(hW:W<=16)(hn:n<=4096)(w:World):Calls prog 180 #[BK k W m n] w λ e w'=>e=.returned (.int .i64 ((n*W:Nat):Int))/\Kp Ab w w':=by
 have kA:=(Kr Ab w).alloc (.cells #[.int .u8 k,.int .i64 (W:Nat),.int .u64 m,.int .i64 (n:Nat)] 187)
 have hb:n*W<=4096*16:=Nat.mul_le_mul hn hW
 have hb2:(n:Int)*(W:Int)<=65536:=by
  have h:((n*W:Nat):Int)<=65536:=by omega
  rwa [Int.natCast_mul] at h
 have hb3:(0:Int)<=(n:Int)*(W:Int):=by
  have h:(0:Int)<=((n*W:Nat):Int):=by omega
  rwa [Int.natCast_mul] at h
 have hwr:IntKind.i64.wrap ((n:Int)*(W:Int))=(n:Int)*(W:Int):=by rw[IntKind.wrap_i64];omega
 unfold BK
 go_enter func180,ntmps180
 go_wp2
 go_ret
 exact⟨by simp,kA⟩

theorem slots_1(wds m n:Int)(w:World):Calls prog 104 #[BK 1 wds m n] w λ e w'=>e=.returned (.int .i64 wds)/\Kp Ab w w':=by
 have b0:=wN w (.cells #[.int .u8 1,.int .i64 wds,.int .u64 m,.int .i64 n] 187)
 have kA:=(Kr Ab w).alloc (.cells #[.int .u8 1,.int .i64 wds,.int .u64 m,.int .i64 n] 187)
 have CC:=λ w=>fixed_any 1 wds m n w
 unfold BK at CC ⊢
 have HC:=sE CC
 clear CC
 go_enter func104,ntmps104
 obtain⟨w1,hw1⟩:∃ w1,w1=w.alloc (.cells #[.int .u8 1,.int .i64 wds,.int .u64 m,.int .i64 n] 187):=⟨_,rfl⟩
 go_wp2_with fail
 rw[<- hw1] at b0 kA ⊢
 have c0:w1.cell? ⟨w.heap.size,0,none⟩=some (.int .u8 1):=by simp[World.cell?,b0]
 have c1:w1.cell? ⟨w.heap.size,1,none⟩=some (.int .i64 wds):=by simp[World.cell?,b0]
 have c2:w1.cell? ⟨w.heap.size,2,none⟩=some (.int .u64 m):=by simp[World.cell?,b0]
 have c3:w1.cell? ⟨w.heap.size,3,none⟩=some (.int .i64 n):=by simp[World.cell?,b0]
 have K0:Kp Ab w1 w1:=Kr _ _
 clear hw1 b0
 go_wp2_with fail
 go_region_held_law (λ w'=>w'.cell? ⟨w.heap.size,0,none⟩=some (.int .u8 1)/\w'.cell? ⟨w.heap.size,1,none⟩=some (.int .i64 wds)/\w'.cell? ⟨w.heap.size,2,none⟩=some (.int .u64 m)/\w'.cell? ⟨w.heap.size,3,none⟩=some (.int .i64 n))
  (first|go_keep|exact ⟨K3.cell c0 (λ h=>h),K3.cell c1 (λ h=>h),K3.cell c2 (λ h=>h),K3.cell c3 (λ h=>h)⟩|exact ⟨K2.cell c0 (λ h=>h),K2.cell c1 (λ h=>h),K2.cell c2 (λ h=>h),K2.cell c3 (λ h=>h)⟩)
  (first
   |(go_simp;go_at_call 145;refine (ways_any _).mono ?_;rintro e w2 ⟨bm,rfl,hown,k2⟩;dsimp only;have K2:Kp Ab w1 w2:=(by first|exact K0.then' k2|exact K0.drew.then' k2|exact K0.drew.drew.then' k2);have hlook:=ways_look w2 bm hown 1 178 rfl waysD_1)
   |(go_simp;go_at_call 178;refine (HC.out _).mono ?_;rintro e w3 ⟨rfl,k3⟩;dsimp only;have K3:Kp Ab w1 w3:=(by first|exact K2.then' k3|exact K2.drew.then' k3|exact K2.drew.drew.then' k3)))
 go_wp2
 exact bodyPost_ret (v:=.int .i64 wds) (by simp[results,results104,go_sem]) rfl ⟨rfl,kA.trans K3 (λ _ _ h=>h)⟩

theorem slots_2(wds m n:Int)(w:World):Calls prog 104 #[BK 2 wds m n] w λ e w'=>e=.returned (.int .i64 n)/\Kp Ab w w':=by
 have b0:=wN w (.cells #[.int .u8 2,.int .i64 wds,.int .u64 m,.int .i64 n] 187)
 have kA:=(Kr Ab w).alloc (.cells #[.int .u8 2,.int .i64 wds,.int .u64 m,.int .i64 n] 187)
 have CC:=λ w=>row_any 2 wds m n w
 unfold BK at CC ⊢
 have HC:=sE CC
 clear CC
 go_enter func104,ntmps104
 obtain⟨w1,hw1⟩:∃ w1,w1=w.alloc (.cells #[.int .u8 2,.int .i64 wds,.int .u64 m,.int .i64 n] 187):=⟨_,rfl⟩
 go_wp2_with fail
 rw[<- hw1] at b0 kA ⊢
 have c0:w1.cell? ⟨w.heap.size,0,none⟩=some (.int .u8 2):=by simp[World.cell?,b0]
 have c1:w1.cell? ⟨w.heap.size,1,none⟩=some (.int .i64 wds):=by simp[World.cell?,b0]
 have c2:w1.cell? ⟨w.heap.size,2,none⟩=some (.int .u64 m):=by simp[World.cell?,b0]
 have c3:w1.cell? ⟨w.heap.size,3,none⟩=some (.int .i64 n):=by simp[World.cell?,b0]
 have K0:Kp Ab w1 w1:=Kr _ _
 clear hw1 b0
 go_wp2_with fail
 go_region_held_law (λ w'=>w'.cell? ⟨w.heap.size,0,none⟩=some (.int .u8 2)/\w'.cell? ⟨w.heap.size,1,none⟩=some (.int .i64 wds)/\w'.cell? ⟨w.heap.size,2,none⟩=some (.int .u64 m)/\w'.cell? ⟨w.heap.size,3,none⟩=some (.int .i64 n))
  (first|go_keep|exact ⟨K3.cell c0 (λ h=>h),K3.cell c1 (λ h=>h),K3.cell c2 (λ h=>h),K3.cell c3 (λ h=>h)⟩|exact ⟨K2.cell c0 (λ h=>h),K2.cell c1 (λ h=>h),K2.cell c2 (λ h=>h),K2.cell c3 (λ h=>h)⟩)
  (first
   |(go_simp;go_at_call 145;refine (ways_any _).mono ?_;rintro e w2 ⟨bm,rfl,hown,k2⟩;dsimp only;have K2:Kp Ab w1 w2:=(by first|exact K0.then' k2|exact K0.drew.then' k2|exact K0.drew.drew.then' k2);have hlook:=ways_look w2 bm hown 2 179 rfl waysD_2)
   |(go_simp;go_at_call 179;refine (HC.out _).mono ?_;rintro e w3 ⟨rfl,k3⟩;dsimp only;have K3:Kp Ab w1 w3:=(by first|exact K2.then' k3|exact K2.drew.then' k3|exact K2.drew.drew.then' k3)))
 go_wp2
 exact bodyPost_ret (v:=.int .i64 n) (by simp[results,results104,go_sem]) rfl ⟨rfl,kA.trans K3 (λ _ _ h=>h)⟩

theorem slots_4(wds m n:Int)(w:World):Calls prog 104 #[BK 4 wds m n] w λ e w'=>e=.returned (.int .i64 n)/\Kp Ab w w':=by
 have b0:=wN w (.cells #[.int .u8 4,.int .i64 wds,.int .u64 m,.int .i64 n] 187)
 have kA:=(Kr Ab w).alloc (.cells #[.int .u8 4,.int .i64 wds,.int .u64 m,.int .i64 n] 187)
 have CC:=λ w=>row_any 4 wds m n w
 unfold BK at CC ⊢
 have HC:=sE CC
 clear CC
 go_enter func104,ntmps104
 obtain⟨w1,hw1⟩:∃ w1,w1=w.alloc (.cells #[.int .u8 4,.int .i64 wds,.int .u64 m,.int .i64 n] 187):=⟨_,rfl⟩
 go_wp2_with fail
 rw[<- hw1] at b0 kA ⊢
 have c0:w1.cell? ⟨w.heap.size,0,none⟩=some (.int .u8 4):=by simp[World.cell?,b0]
 have c1:w1.cell? ⟨w.heap.size,1,none⟩=some (.int .i64 wds):=by simp[World.cell?,b0]
 have c2:w1.cell? ⟨w.heap.size,2,none⟩=some (.int .u64 m):=by simp[World.cell?,b0]
 have c3:w1.cell? ⟨w.heap.size,3,none⟩=some (.int .i64 n):=by simp[World.cell?,b0]
 have K0:Kp Ab w1 w1:=Kr _ _
 clear hw1 b0
 go_wp2_with fail
 go_region_held_law (λ w'=>w'.cell? ⟨w.heap.size,0,none⟩=some (.int .u8 4)/\w'.cell? ⟨w.heap.size,1,none⟩=some (.int .i64 wds)/\w'.cell? ⟨w.heap.size,2,none⟩=some (.int .u64 m)/\w'.cell? ⟨w.heap.size,3,none⟩=some (.int .i64 n))
  (first|go_keep|exact ⟨K3.cell c0 (λ h=>h),K3.cell c1 (λ h=>h),K3.cell c2 (λ h=>h),K3.cell c3 (λ h=>h)⟩|exact ⟨K2.cell c0 (λ h=>h),K2.cell c1 (λ h=>h),K2.cell c2 (λ h=>h),K2.cell c3 (λ h=>h)⟩)
  (first
   |(go_simp;go_at_call 145;refine (ways_any _).mono ?_;rintro e w2 ⟨bm,rfl,hown,k2⟩;dsimp only;have K2:Kp Ab w1 w2:=(by first|exact K0.then' k2|exact K0.drew.then' k2|exact K0.drew.drew.then' k2);have hlook:=ways_look w2 bm hown 4 179 rfl waysD_4)
   |(go_simp;go_at_call 179;refine (HC.out _).mono ?_;rintro e w3 ⟨rfl,k3⟩;dsimp only;have K3:Kp Ab w1 w3:=(by first|exact K2.then' k3|exact K2.drew.then' k3|exact K2.drew.drew.then' k3)))
 go_wp2
 exact bodyPost_ret (v:=.int .i64 n) (by simp[results,results104,go_sem]) rfl ⟨rfl,kA.trans K3 (λ _ _ h=>h)⟩

theorem slots_3(m:Int)(W n:Nat)(hW:W<=16)(hn:n<=4096)(w:World):Calls prog 104 #[BK 3 W m n] w λ e w'=>e=.returned (.int .i64 ((n*W:Nat):Int))/\Kp Ab w w':=by
 have b0:=wN w (.cells #[.int .u8 3,.int .i64 (W:Nat),.int .u64 m,.int .i64 (n:Nat)] 187)
 have kA:=(Kr Ab w).alloc (.cells #[.int .u8 3,.int .i64 (W:Nat),.int .u64 m,.int .i64 (n:Nat)] 187)
 have CC:=λ w=>elems_any 3 m W n hW hn w
 unfold BK at CC ⊢
 have HC:=sE CC
 clear CC
 go_enter func104,ntmps104
 obtain⟨w1,hw1⟩:∃ w1,w1=w.alloc (.cells #[.int .u8 3,.int .i64 (W:Nat),.int .u64 m,.int .i64 (n:Nat)] 187):=⟨_,rfl⟩
 go_wp2_with fail
 rw[<- hw1] at b0 kA ⊢
 have c0:w1.cell? ⟨w.heap.size,0,none⟩=some (.int .u8 3):=by simp[World.cell?,b0]
 have c1:w1.cell? ⟨w.heap.size,1,none⟩=some (.int .i64 (W:Nat)):=by simp[World.cell?,b0]
 have c2:w1.cell? ⟨w.heap.size,2,none⟩=some (.int .u64 m):=by simp[World.cell?,b0]
 have c3:w1.cell? ⟨w.heap.size,3,none⟩=some (.int .i64 (n:Nat)):=by simp[World.cell?,b0]
 have K0:Kp Ab w1 w1:=Kr _ _
 clear hw1 b0
 go_wp2_with fail
 go_region_held_law (λ w'=>w'.cell? ⟨w.heap.size,0,none⟩=some (.int .u8 3)/\w'.cell? ⟨w.heap.size,1,none⟩=some (.int .i64 (W:Nat))/\w'.cell? ⟨w.heap.size,2,none⟩=some (.int .u64 m)/\w'.cell? ⟨w.heap.size,3,none⟩=some (.int .i64 (n:Nat)))
  (first|go_keep|exact ⟨K3.cell c0 (λ h=>h),K3.cell c1 (λ h=>h),K3.cell c2 (λ h=>h),K3.cell c3 (λ h=>h)⟩|exact ⟨K2.cell c0 (λ h=>h),K2.cell c1 (λ h=>h),K2.cell c2 (λ h=>h),K2.cell c3 (λ h=>h)⟩)
  (first
   |(go_simp;go_at_call 145;refine (ways_any _).mono ?_;rintro e w2 ⟨bm,rfl,hown,k2⟩;dsimp only;have K2:Kp Ab w1 w2:=(by first|exact K0.then' k2|exact K0.drew.then' k2|exact K0.drew.drew.then' k2);have hlook:=ways_look w2 bm hown 3 180 rfl waysD_3)
   |(go_simp;go_at_call 180;refine (HC.out _).mono ?_;rintro e w3 ⟨rfl,k3⟩;dsimp only;have K3:Kp Ab w1 w3:=(by first|exact K2.then' k3|exact K2.drew.then' k3|exact K2.drew.drew.then' k3)))
 go_wp2
 exact bodyPost_ret (v:=.int .i64 ((n*W:Nat):Int)) (by simp[results,results104,go_sem]) rfl ⟨rfl,kA.trans K3 (λ _ _ h=>h)⟩

def AR(k wds n:Int):Int:=if k=1 then wds else if k=3 then n*wds else n

def Fp(k wds n:Int):Int:=(AR k wds n+2)/2

theorem Ef{k wds:Int}{M:Nat}{n:Int}(h:AV k wds M n=0):Di k wds M=true/\0<=n/\n<=4096/\(k=1->n=0)/\((k=1/\0<=wds/\wds<=64)\/(k=3/\1<=wds/\wds<=16)\/((k=2\/k=4)/\wds=0)):=by
 rw[AV] at h
 split at h
 .rename_i hc
  split at h
  .cases h
  .rename_i h4
   simp only[Bool.and_eq_true,Bool.or_eq_true,decide_eq_true_eq] at hc
   obtain⟨⟨h1,h2⟩,h3⟩:=hc
   refine⟨h1,h2,by omega,λ e=>by omega,?_⟩
   simp only[Di,Bool.and_eq_true,Bool.or_eq_true,decide_eq_true_eq] at h1
   omega
 .cases h

theorem slots_any(k wds:Int)(M:Nat)(n:Int)(w:World)(h:AV k wds M n=0):
  Calls prog 104 #[BK k wds M n] w λ e w'=>e=.returned (.int .i64 (AR k wds n))/\Kp Ab w w':=by
 obtain⟨h1,h2,h3,h4,h5⟩:=Ef h
 rcases h5 with ⟨rfl,h6,h7⟩|⟨rfl,h6,h7⟩|⟨rfl|rfl,rfl⟩
 .exact slots_1 wds M n w
 .obtain ⟨N,rfl⟩:=Int.eq_ofNat_of_zero_le h2
  obtain⟨W,rfl⟩:=Int.eq_ofNat_of_zero_le (show 0<=wds by omega)
  rw[show AR 3 (W:Nat) (N:Nat)=((N*W:Nat):Int) by simp[AR]]
  exact slots_3 M W N (by omega) (by omega) w
 .exact slots_2 0 M n w
 .exact slots_4 0 M n w

theorem Bi{k wds:Int}{M:Nat}{n:Int}(h:AV k wds M n=0):0<=AR k wds n/\AR k wds n<=65536:=by
 obtain⟨h1,h2,h3,h4,h5⟩:=Ef h
 rcases h5 with ⟨rfl,h6,h7⟩|⟨rfl,h6,h7⟩|⟨rfl|rfl,rfl⟩
 .show 0<=wds/\wds<=65536
  omega
 .show 0<=n*wds/\n*wds<=65536
  obtain⟨N,rfl⟩:=Int.eq_ofNat_of_zero_le h2
  obtain⟨W,rfl⟩:=Int.eq_ofNat_of_zero_le (show 0<=wds by omega)
  have hb:N*W<=4096*16:=Nat.mul_le_mul (by omega) (by omega)
  rw[<- Int.natCast_mul]
  omega
 .show 0<=n/\n<=65536
  omega
 .show 0<=n/\n<=65536
  omega

def SizePost(k wds:Int)(M:Nat)(n:Int)(w:World)(e:Ending)(w':World):Prop:=
 e=.returned (.tuple #[.int .i64 (if AV k wds M n=0 then Fp k wds n else 0),.int .i64 (AV k wds M n)])/\Kp Ab w w'

theorem KSize_any(k wds:Int)(M:Nat)(n:Int)(w:World):Calls prog 177 #[AC k wds M,.int .i64 n] w (SizePost k wds M n w):=by
 have CO:=λ w=>Kof_any k wds M n w
 have kA:=(Kr Ab w).alloc (.cells #[.int .u8 k,.int .i64 wds,.int .u64 (M:Nat)] 86)
 unfold AC at CO ⊢
 have HO:=sE CO
 clear CO
 go_enter func177,ntmps177
 go_wp2_with fail
 obtain⟨w1,hw1⟩:∃ w1,w1=w.alloc (.cells #[.int .u8 k,.int .i64 wds,.int .u64 (M:Nat)] 86):=⟨_,rfl⟩
 rw[<- hw1] at kA ⊢
 clear hw1
 refine(HO.out w1).mono ?_
 rintro e w2 ⟨v,rfl,hv,hv0,k2⟩
 have hv1:∃ a b c d:Int,v=.agg #[.int .u8 a,.int .i64 b,.int .u64 c,.int .i64 d]:=by
  rcases hv with rfl|rfl
  .exact ⟨_,_,_,_,rfl⟩
  .exact ⟨_,_,_,_,rfl⟩
 obtain⟨a,b,c,d,rfl⟩:=hv1
 by_cases h0:AV k wds M n=0
 .have hv2:=hv0 h0
  unfold BK at hv2
  rw[hv2]
  have HZ:=sE h0
  obtain⟨r1,r2⟩:=Bi h0
  have CS:=λ w=>slots_any k wds M n w h0
  have hsz:Sl (Fp k wds n=(AR k wds n+2)/2):=⟨rfl⟩
  rw[h0]
  obtain⟨s,hs⟩:∃ s,AR k wds n=s:=⟨_,rfl⟩
  rw[hs] at r1 r2 CS hsz
  unfold BK at CS
  have HC:=sE CS
  clear CS hv hv0 hv2 h0 hs
  obtain⟨S,rfl⟩:=Int.eq_ofNat_of_zero_le r1
  go_wp2_with fail
  refine(HC.out _).mono ?_
  rintro e w3 ⟨rfl,k3⟩
  go_wp2
  refine bodyPost_ret (v:=.tuple #[.int .i64 (((S:Int)+2)/2),.int .i64 0]) (by simp[results,results177,go_sem]) rfl ⟨by rw[HZ.out,if_pos rfl,hsz.out],((kA.then' k2).alloc _).then' k3⟩
 .have HZ:=sE h0
  obtain⟨x,hx⟩:∃ x,AV k wds M n=x:=⟨_,rfl⟩
  rw[hx]
  rw[hx] at h0
  have HX:=sE hx
  have hb:(x !=0)=true:=by simpa using h0
  clear hv hv0 hx h0
  go_wp2
  refine bodyPost_ret (v:=.tuple #[.int .i64 0,.int .i64 x]) (by simp[results,results177,go_sem]) rfl ⟨by rw[if_neg HZ.out,HX.out],(kA.then' k2).alloc _⟩

structure TypR where
 k:Int
 wds:Int
 m:Nat

def Fg:List TypR->List Value
 |[]=>[]
 |x::xs=>.int .u8 x.k::.int .i64 x.wds::.int .u64 (x.m:Nat)::Fg xs

theorem flatT_append:∀ (xs ys:List TypR),Fg (xs++ys)=Fg xs++Fg ys
 |[],ys=>rfl
 |x::xs,ys=>by simp[Fg,flatT_append xs ys]

theorem flatT_length:∀ (xs:List TypR),(Fg xs).length=xs.length*3
 |[]=>rfl
 |x::xs=>by simp[Fg,flatT_length xs];omega

theorem flatT_at:∀ (xs:List TypR) (i:Nat) (x:TypR),xs[i]?=some x->(Fg xs)[i*3]?=some (.int .u8 x.k)/\(Fg xs)[i*3+1]?=some (.int .i64 x.wds)/\(Fg xs)[i*3+2]?=some (.int .u64 (x.m:Nat))
 |y::xs,0,x,h=>by
  simp at h
  subst h
  exact⟨rfl,rfl,rfl⟩
 |y::xs,i+1,x,h=>by
  have h2:xs[i]?=some x:=by simpa using h
  obtain⟨a,b,c⟩:=flatT_at xs i x h2
  have e0:(i+1)*3=i*3+3:=by omega
  rw[e0]
  exact⟨a,b,c⟩

structure TableAt(w:World)(t q:Nat)(ts:List TypR):Prop where
 ht:∃ v,w.heap[t]?=some (.cells #[v] 183 (0,0))/\w.ownsRow q 86 3 v ts.length (Fg ts)/\(∀ b,v.ownBlock=some b->b=q)
 few:ts.length<=64
 ok:∀ x∈ts,Di x.k x.wds x.m=true

theorem TableAt.keep{S:Nat->Prop}{w w':World}{t q:Nat}{ts:List TypR}(h:TableAt w t q ts)(k:Kp S w w')(ht:¬ S t)(hq:¬ S q):TableAt w' t q ts:=by
 obtain⟨v,h1,h2,h3⟩:=h.ht
 exact⟨⟨v,k.at_ h1 ht,k.owns h2 (λ b hb hs=>hq (h3 b hb▸hs)),h3⟩,h.few,h.ok⟩

theorem TableAt.Ad{w w':World}{t q:Nat}{ts:List TypR}(h:TableAt w t q ts)(k:Kp Ab w w'):TableAt w' t q ts:=h.keep k (λ h=>h) (λ h=>h)

theorem TableAt.head{w:World}{t q:Nat}{ts:List TypR}(h:TableAt w t q ts):∃ a cap,w.cell? ⟨t,0,none⟩=some (.slice a ts.length cap)/\∀ i x,ts[i]?=some x->a=some ⟨q,0,none⟩/\q<w.heap.size/\w.cell? ⟨q,i*3,none⟩=some (.int .u8 x.k)/\w.cell? ⟨q,i*3+1,none⟩=some (.int .i64 x.wds)/\w.cell? ⟨q,i*3+2,none⟩=some (.int .u64 (x.m:Nat)):=by
 obtain⟨v,h1,h2,h3⟩:=h.ht
 rcases h2.2 with ⟨rfl,h0⟩|⟨g,cap,cur,rfl,g2,g3,g4,g5,g6,g7⟩
 .exact ⟨none,0,by rw[h0];simp [World.cell?,h1],λ i x hx=>by have:=(gE.1 hx).1;omega⟩
 .obtain rfl:=h3 g rfl
  refine⟨some ⟨g,0,none⟩,cap,by simp[World.cell?,h1],λ i x hx=>?_⟩
  have hi:=(gE.1 hx).1
  obtain⟨x0,x1,x2⟩:=flatT_at ts i x hx
  have key:∀ j,j<ts.length*3->w.cell? ⟨g,j,none⟩=(Fg ts)[j]?:=λ j hj=>by
   rw[<- g7,List.getElem?_take_of_lt hj]
   simp[World.cell?,g3]
  exact⟨rfl,lZ g3,by rw[key _ (by omega)];exact x0,by rw[key _ (by omega)];exact x1,by rw[key _ (by omega)];exact x2⟩

def typeOf(ts:List TypR)(id:Int):Option TypR:=if 1<=id then ts[(id-1).toNat]? else none

theorem typeOf_none{ts:List TypR}{id:Int}(h:typeOf ts id=none):id<1\/(1<=id/\(ts.length:Int)<id):=by
 rw[typeOf] at h
 split at h
 .rename_i h1
  have:=List.getElem?_eq_none_iff.1 h
  omega
 .omega

theorem Et{ts:List TypR}{id:Int}{x:TypR}(h:typeOf ts id=some x):∃ i:Nat,id=((i+1:Nat):Int)/\ts[i]?=some x/\i<ts.length:=by
 rw[typeOf] at h
 split at h
 .rename_i h1
  exact⟨(id-1).toNat,by omega,h,(gE.1 h).1⟩
 .cases h

def AtPost(x:Option TypR)(w:World)(e:Ending)(w':World):Prop:=
 e=.returned (.tuple #[match x with|some y=>AC y.k y.wds y.m|none=>AC 0 0 0,.bool x.isSome])/\Kp Ab w w'

theorem new3(w:World)(a b c:Value)(T:TypeId):(w.alloc (.cells #[a,b,c] T)).cell? ⟨w.heap.size,0,none⟩=some a/\(w.alloc (.cells #[a,b,c] T)).cell? ⟨w.heap.size,1,none⟩=some b/\(w.alloc (.cells #[a,b,c] T)).cell? ⟨w.heap.size,2,none⟩=some c:=by
 have B1:=wN w (.cells #[a,b,c] T)
 simp only[World.cell?,B1]
 exact⟨rfl,rfl,rfl⟩

theorem at_none(id:Int)(t q:Nat)(ts:List TypR)(w:World)(h:TableAt w t q ts)(hn:typeOf ts id=none):
  Calls prog 100 #[.pointer (some ⟨t,0,none⟩),.int .i64 id] w (AtPost none w):=by
 obtain⟨a,cap,hc,-⟩:=h.head
 have hlt:=h.ht.elim λ v hv=>lZ hv.1
 have h1:=typeOf_none hn
 have kA:=(Kr Ab w).alloc (.cells #[.int .u8 0,.int .i64 0,.int .u64 0] 86)
 obtain⟨e0,e1,e2⟩:=new3 w (.int .u8 0) (.int .i64 0) (.int .u64 0) 86
 rcases h1 with h1|⟨h1,h2⟩
 all_goals
  go_enter func100,ntmps100
  go_wp2
  refine bodyPost_ret (v:=.tuple #[AC 0 0 0,.bool false]) (by simp[results,results100,go_sem,e0,e1,e2,AC]) rfl ⟨rfl,kA⟩

theorem at_some(i:Nat)(x:TypR)(t q:Nat)(ts:List TypR)(w:World)(h:TableAt w t q ts)(hx:ts[i]?=some x):
  Calls prog 100 #[.pointer (some ⟨t,0,none⟩),.int .i64 ((i+1:Nat):Int)] w (AtPost (some x) w):=by
 obtain⟨a,cap,hc,hr⟩:=h.head
 have hlt:=h.ht.elim λ v hv=>lZ hv.1
 obtain⟨rfl,hq,c0,c1,c2⟩:=hr i x hx
 have hi:i<ts.length:=(gE.1 hx).1
 have hf:=h.few
 have kA:=(Kr Ab w).alloc (.cells #[.int .u8 x.k,.int .i64 x.wds,.int .u64 (x.m:Nat)] 86)
 obtain⟨e0,e1,e2⟩:=new3 w (.int .u8 x.k) (.int .i64 x.wds) (.int .u64 (x.m:Nat)) 86
 obtain⟨n,hn⟩:∃ n,n=ts.length:=⟨_,rfl⟩
 rw[<- hn] at hc hi hf
 have h1:¬ ((i+1:Nat):Int)<1:=by omega
 have h2:¬ (n:Int)<((i+1:Nat):Int):=by omega
 obtain⟨k,wds,m⟩:=x
 dsimp only at*
 clear hr hx h hn
 go_enter func100,ntmps100
 go_wp2
 refine bodyPost_ret (v:=.tuple #[AC k wds m,.bool true]) (by simp[results,results100,go_sem,e0,e1,e2,AC]) rfl ⟨rfl,kA⟩

theorem rowAt_any(id:Int)(t q:Nat)(ts:List TypR)(w:World)(h:TableAt w t q ts):
  Calls prog 100 #[.pointer (some ⟨t,0,none⟩),.int .i64 id] w (AtPost (typeOf ts id) w):=by
 cases hx:typeOf ts id with
 |none=>exact at_none id t q ts w h hx
 |some x=>
  obtain⟨i,rfl,h2,h3⟩:=Et hx
  exact at_some i x t q ts w h h2

def Ff(x:Option TypR)(w:World)(e:Ending)(w':World):Prop:=
 e=.returned (.tuple #[match x with|some y=>AC y.k y.wds y.m|none=>AC 0 0 0,.int .i64 (if x.isSome then 0 else 3)])/\Kp Ab w w'

theorem Get_none(id:Int)(t q:Nat)(ts:List TypR)(w:World)(h:TableAt w t q ts)(hx:typeOf ts id=none):
  Calls prog 50 #[.pointer (some ⟨t,0,none⟩),.int .i64 id] w (Ff none w):=by
 obtain⟨w1,hw1⟩:∃ w1,w1=w.alloc (.cells #[.int .u8 0,.int .i64 0,.int .u64 0] 86):=⟨_,rfl⟩
 have kA:Kp Ab w w1:=by rw[hw1];exact (Kr _ w).alloc _
 have b0:w1.heap[w.heap.size]?=some (.cells #[.int .u8 0,.int .i64 0,.int .u64 0] 86 (0,0)):=by rw[hw1];exact wN w _
 have CA:=rowAt_any id t q ts w1 (h.Ad kA)
 rw[hx] at CA
 have HC:=sE CA
 clear CA hx
 go_enter func50,ntmps50
 go_wp2_with fail
 rw[<- hw1]
 clear hw1
 refine HC.out.mono ?_
 rintro e w2 ⟨rfl,k2⟩
 have B0:=k2.at_ b0 (λ h=>h)
 have hs:=lZ B0
 have d0:w2.cell? ⟨w.heap.size,0,none⟩=some (.int .u8 0):=by simp[World.cell?,B0]
 have d1:w2.cell? ⟨w.heap.size,1,none⟩=some (.int .i64 0):=by simp[World.cell?,B0]
 have d2:w2.cell? ⟨w.heap.size,2,none⟩=some (.int .u64 0):=by simp[World.cell?,B0]
 have f0:=Ae B0
 have f00:=f0 0
 have f01:=f0 1
 have f02:=f0 2
 have KW:=kA.then' k2
 have HB:=sE B0
 have hn:¬ w.heap.size=w2.heap.size:=by omega
 clear b0 B0 f0
 dsimp only[AC,Option.isSome_some,Option.isSome_none]
 go_wp2
 obtain⟨w4,hw4⟩:∃ w4,w4=((w2.setCell ⟨w.heap.size,0,none⟩ (.int .u8 0)).setCell ⟨w.heap.size,1,none⟩ (.int .i64 0)).setCell ⟨w.heap.size,2,none⟩ (.int .u64 0):=⟨_,rfl⟩
 rw[<- hw4]
 have t4:w4.heap[w.heap.size]?=some (.cells #[.int .u8 0,.int .i64 0,.int .u64 0] 86 (0,0)):=by
  rw[hw4];exact bZ (bZ (bZ HB.out (j:=0) _) (j:=1) _) (j:=2) _
 have k4:Kp (λ i=>i=w.heap.size) w2 w4:=by rw[hw4];exact (((Kr (λ i=>i=w.heap.size) w2).setCell (λ _=>rfl) _).setCell (λ _=>rfl) _).setCell (λ _=>rfl) _
 have k5:Kp Ab w4 (w4.alloc (.cells #[.int .u8 0,.int .i64 0,.int .u64 0] 86)):=(Kr _ w4).alloc _
 have t5:=k5.at_ t4 (λ h=>h)
 have e0:(w4.alloc (.cells #[.int .u8 0,.int .i64 0,.int .u64 0] 86)).cell? ⟨w.heap.size,0,none⟩=some (.int .u8 0):=by simp[World.cell?,t5]
 have e1:(w4.alloc (.cells #[.int .u8 0,.int .i64 0,.int .u64 0] 86)).cell? ⟨w.heap.size,1,none⟩=some (.int .i64 0):=by simp[World.cell?,t5]
 have e2:(w4.alloc (.cells #[.int .u8 0,.int .i64 0,.int .u64 0] 86)).cell? ⟨w.heap.size,2,none⟩=some (.int .u64 0):=by simp[World.cell?,t5]
 refine bodyPost_ret (v:=.tuple #[AC 0 0 0,.int .i64 3]) (by simp[results,results50,go_sem,e0,e1,e2,AC]) rfl ⟨rfl,(KW.trans k4 (λ i hi h=>by omega)).then' k5⟩

theorem Get_some(id:Int)(t q:Nat)(ts:List TypR)(k wds:Int)(m:Nat)(w:World)(h:TableAt w t q ts)(hx:typeOf ts id=some ⟨k,wds,m⟩):
  Calls prog 50 #[.pointer (some ⟨t,0,none⟩),.int .i64 id] w (Ff (some ⟨k,wds,m⟩) w):=by
 obtain⟨w1,hw1⟩:∃ w1,w1=w.alloc (.cells #[.int .u8 0,.int .i64 0,.int .u64 0] 86):=⟨_,rfl⟩
 have kA:Kp Ab w w1:=by rw[hw1];exact (Kr _ w).alloc _
 have b0:w1.heap[w.heap.size]?=some (.cells #[.int .u8 0,.int .i64 0,.int .u64 0] 86 (0,0)):=by rw[hw1];exact wN w _
 have CA:=rowAt_any id t q ts w1 (h.Ad kA)
 rw[hx] at CA
 have HC:=sE CA
 clear CA hx
 go_enter func50,ntmps50
 go_wp2_with fail
 rw[<- hw1]
 clear hw1
 refine HC.out.mono ?_
 rintro e w2 ⟨rfl,k2⟩
 have B0:=k2.at_ b0 (λ h=>h)
 have hs:=lZ B0
 have d0:w2.cell? ⟨w.heap.size,0,none⟩=some (.int .u8 0):=by simp[World.cell?,B0]
 have d1:w2.cell? ⟨w.heap.size,1,none⟩=some (.int .i64 0):=by simp[World.cell?,B0]
 have d2:w2.cell? ⟨w.heap.size,2,none⟩=some (.int .u64 0):=by simp[World.cell?,B0]
 have f0:=Ae B0
 have f00:=f0 0
 have f01:=f0 1
 have f02:=f0 2
 have KW:=kA.then' k2
 have HB:=sE B0
 have hn:¬ w.heap.size=w2.heap.size:=by omega
 clear b0 B0 f0
 dsimp only[AC,Option.isSome_some,Option.isSome_none]
 go_wp2
 obtain⟨w4,hw4⟩:∃ w4,w4=((w2.setCell ⟨w.heap.size,0,none⟩ (.int .u8 k)).setCell ⟨w.heap.size,1,none⟩ (.int .i64 wds)).setCell ⟨w.heap.size,2,none⟩ (.int .u64 (m:Nat)):=⟨_,rfl⟩
 rw[<- hw4]
 have t4:w4.heap[w.heap.size]?=some (.cells #[.int .u8 k,.int .i64 wds,.int .u64 (m:Nat)] 86 (0,0)):=by
  rw[hw4];exact bZ (bZ (bZ HB.out (j:=0) _) (j:=1) _) (j:=2) _
 have k4:Kp (λ i=>i=w.heap.size) w2 w4:=by rw[hw4];exact (((Kr (λ i=>i=w.heap.size) w2).setCell (λ _=>rfl) _).setCell (λ _=>rfl) _).setCell (λ _=>rfl) _
 have k5:Kp Ab w4 (w4.alloc (.cells #[.int .u8 k,.int .i64 wds,.int .u64 (m:Nat)] 86)):=(Kr _ w4).alloc _
 have t5:=k5.at_ t4 (λ h=>h)
 have e0:(w4.alloc (.cells #[.int .u8 k,.int .i64 wds,.int .u64 (m:Nat)] 86)).cell? ⟨w.heap.size,0,none⟩=some (.int .u8 k):=by simp[World.cell?,t5]
 have e1:(w4.alloc (.cells #[.int .u8 k,.int .i64 wds,.int .u64 (m:Nat)] 86)).cell? ⟨w.heap.size,1,none⟩=some (.int .i64 wds):=by simp[World.cell?,t5]
 have e2:(w4.alloc (.cells #[.int .u8 k,.int .i64 wds,.int .u64 (m:Nat)] 86)).cell? ⟨w.heap.size,2,none⟩=some (.int .u64 (m:Nat)):=by simp[World.cell?,t5]
 refine bodyPost_ret (v:=.tuple #[AC k wds (m:Nat),.int .i64 0]) (by simp[results,results50,go_sem,e0,e1,e2,AC]) rfl ⟨rfl,(KW.trans k4 (λ i hi h=>by omega)).then' k5⟩

theorem Get_any(id:Int)(t q:Nat)(ts:List TypR)(w:World)(h:TableAt w t q ts):
  Calls prog 50 #[.pointer (some ⟨t,0,none⟩),.int .i64 id] w (Ff (typeOf ts id) w):=by
 cases hx:typeOf ts id with
 |none=>exact Get_none id t q ts w h hx
 |some x=>
  obtain⟨k,wds,m⟩:=x
  exact Get_some id t q ts k wds m w h hx

end

end Go.Proofs.YtmfajopmppfldaaGreatDoor
