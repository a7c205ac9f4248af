/-
  Lemmas for the laws, together: DocA, BlackA.
-/
import Derived.Test.YtmfajopmppfldaaGreatDoorQae
import Derived.Test.YtmfajopmppfldaaGreatDoorQah
import Derived.Test.YtmfajopmppfldaaGreatDoorQaf
import Derived.Test.YtmfajopmppfldaaGreatDoorQad
import Derived.Deep.RegionHeld3
import Derived.Test.YtmfajopmppfldaaGreatDoorQaa
set_option linter.unusedVariables false
set_option maxHeartbeats 16000000
namespace Go.Proofs.YtmfajopmppfldaaGreatDoor
open Tryz
section
open Go.RowKit

theorem DC{M w:Nat}(hM:M<18446744073709551616):M/2 ^ w=0 ↔ ∀ i,w<=i->i<64->M/2 ^ i%2=0:=by
 have hbit:∀ i,(M/2 ^ i%2=0) ↔ M.testBit i=false:=λ i=>by
  rw[Nat.testBit_eq_decide_div_mod_eq]
  simp
 constructor
 .intro h i hi _
  have hp:0<2 ^ w:=Nat.two_pow_pos w
  have h1:M<2 ^ w:=by
   rcases Nat.lt_or_ge M (2 ^ w) with h1|h1
   .exact h1
   .have:=Nat.div_pos h1 hp;omega
  have h2:M<2 ^ i:=Nat.lt_of_lt_of_le h1 (Nat.pow_le_pow_right (by omega) hi)
  rw[Nat.div_eq_of_lt h2]
 .intro h
  refine Nat.eq_of_testBit_eq λ j=>?_
  rw[Nat.testBit_div_two_pow,Nat.zero_testBit]
  by_cases hj:j+w<64
  .have:=(hbit (j+w)).1 (h (j+w) (by omega) hj)
   exact this
  .refine Nat.testBit_lt_two_pow ?_
   refine Nat.lt_of_lt_of_le hM ?_
   rw[show (18446744073709551616:Nat)=2 ^ 64 from rfl]
   exact Nat.pow_le_pow_right (by omega) (by omega)

def MayI(M W:Nat)(w:World)(y:Value)(wr:World):Prop:=∃ i,W<=i/\i<=64/\y=.int .i64 (i:Nat)/\(∀ j,W<=j->j<i->M/2 ^ j%2=0)/\wr=w

theorem mod_ne{M i:Nat}(h:M/2 ^ i%2=0):((((M:Nat):Int)/2 ^ i).tmod 2==1)=false:=by
 have:(((M:Nat):Int)/2 ^ i).tmod 2=((M/2 ^ i%2:Nat):Int):=by
  rw[Int.tmod_eq_emod_of_nonneg (Int.ediv_nonneg (by omega) (Int.le_of_lt (Int.pow_pos (by omega))))]
  push_cast;rfl
 rw[this,h];rfl

theorem mod_eq{M i:Nat}(h:¬ M/2 ^ i%2=0):((((M:Nat):Int)/2 ^ i).tmod 2==1)=true:=by
 have:(((M:Nat):Int)/2 ^ i).tmod 2=((M/2 ^ i%2:Nat):Int):=by
  rw[Int.tmod_eq_emod_of_nonneg (Int.ediv_nonneg (by omega) (Int.le_of_lt (Int.pow_pos (by omega))))]
  push_cast;rfl
 rw[this,show M/2 ^ i%2=1 by omega];rfl

theorem DMay_fix(W:Nat)(M:Nat)(w:World)(hM:M<18446744073709551616)(h0:W<=64):
  Calls prog 171 #[.agg #[.int .u8 1,.int .i64 (W:Nat),.int .u64 (M:Nat)]] w λ e w'=>e=.returned (.bool (decide (M/2 ^ W=0)))/\Kp Ab w w':=by
 have d1:decide ((W:Int)<0)=false:=dF (by omega)
 have d2:decide ((64:Int)<(W:Int))=false:=dF (by omega)
 obtain⟨ok,hok⟩:∃ ok,decide (M/2 ^ W=0)=ok:=⟨_,rfl⟩
 have HOK:=sE hok
 rw[hok]
 clear hok
 go_enter func171,ntmps171
 go_wp2_with fail
 obtain⟨w1,hw1⟩:∃ w1,w1=w.alloc (.cells #[.int .u8 1,.int .i64 (W:Nat),.int .u64 (M:Nat)] 86):=⟨_,rfl⟩
 have k1:Kp Ab w w1:=by rw[hw1];exact (Kr _ w).alloc _
 have b1:w1.heap[w.heap.size]?=some (.cells #[.int .u8 1,.int .i64 (W:Nat),.int .u64 (M:Nat)] 86 (0,0)):=by rw[hw1];exact wN w _
 have c2:w1.cell? ⟨w.heap.size,2,none⟩=some (.int .u64 (M:Nat)):=by simp[World.cell?,b1]
 rw[<- hw1]
 clear hw1 b1
 go_loopw [4] (λ y wr=>MayI M W w1 y wr) (λ y _=>64-(intOf y).toNat)
 case atStart=>exact ⟨W,Nat.le_refl _,h0,rfl,λ j a b=>by omega,rfl⟩
 case round=>
  obtain⟨i,hi1,hi2,rfl,hall,rfl⟩:=hrel
  have HA:=sE hall
  clear hall
  by_cases hil:i<64
  .have hil':(i:Int)<64:=by omega
   by_cases hb:M/2 ^ i%2=0
   .have HB:=sE hb
    have t1:((((M:Nat):Int)/2 ^ i).tmod 2==1)=false:=mod_ne hb
    clear hb
    go_wp2
    refine⟨⟨i+1,by omega,by omega,by go_num,λ j a b=>?_,rfl⟩,by simp only[intOf];omega⟩
    by_cases e:j=i
    .rw [e];exact HB.out
    .exact HA.out j a (by omega)
   .have hz:decide (M/2 ^ W=0)=false:=dF (λ h=>hb ((DC hM).1 h i hi1 hil))
    have t1:((((M:Nat):Int)/2 ^ i).tmod 2==1)=true:=mod_eq hb
    have HZ:=sE (HOK.out.symm.trans hz)
    clear hb hz
    go_wp2
    go_ret
    exact⟨by rw[HZ.out];rfl,k1⟩
  .have hil':¬ (i:Int)<64:=by omega
   have hz:decide (M/2 ^ W=0)=true:=dT ((DC hM).2 λ j a b=>HA.out j a (by omega))
   have HZ:=sE (HOK.out.symm.trans hz)
   clear hz
   go_wp2
   go_ret
   exact⟨by rw[HZ.out];rfl,k1⟩

theorem DMay_structs(W:Nat)(M:Nat)(w:World)(hM:M<18446744073709551616)(h0:1<=W)(h1:W<=16):
  Calls prog 171 #[.agg #[.int .u8 3,.int .i64 (W:Nat),.int .u64 (M:Nat)]] w λ e w'=>e=.returned (.bool (decide (M/2 ^ W=0)))/\Kp Ab w w':=by
 have d1:decide ((W:Int)<1)=false:=dF (by omega)
 have d2:decide ((16:Int)<(W:Int))=false:=dF (by omega)
 obtain⟨ok,hok⟩:∃ ok,decide (M/2 ^ W=0)=ok:=⟨_,rfl⟩
 have HOK:=sE hok
 rw[hok]
 clear hok
 go_enter func171,ntmps171
 go_wp2_with fail
 obtain⟨w1,hw1⟩:∃ w1,w1=w.alloc (.cells #[.int .u8 3,.int .i64 (W:Nat),.int .u64 (M:Nat)] 86):=⟨_,rfl⟩
 have k1:Kp Ab w w1:=by rw[hw1];exact (Kr _ w).alloc _
 have b1:w1.heap[w.heap.size]?=some (.cells #[.int .u8 3,.int .i64 (W:Nat),.int .u64 (M:Nat)] 86 (0,0)):=by rw[hw1];exact wN w _
 have c2:w1.cell? ⟨w.heap.size,2,none⟩=some (.int .u64 (M:Nat)):=by simp[World.cell?,b1]
 rw[<- hw1]
 clear hw1 b1
 go_loopw [4] (λ y wr=>MayI M W w1 y wr) (λ y _=>64-(intOf y).toNat)
 case atStart=>exact ⟨W,Nat.le_refl _,(by omega),rfl,λ j a b=>by omega,rfl⟩
 case round=>
  obtain⟨i,hi1,hi2,rfl,hall,rfl⟩:=hrel
  have HA:=sE hall
  clear hall
  by_cases hil:i<64
  .have hil':(i:Int)<64:=by omega
   by_cases hb:M/2 ^ i%2=0
   .have HB:=sE hb
    have t1:((((M:Nat):Int)/2 ^ i).tmod 2==1)=false:=mod_ne hb
    clear hb
    go_wp2
    refine⟨⟨i+1,by omega,by omega,by go_num,λ j a b=>?_,rfl⟩,by simp only[intOf];omega⟩
    by_cases e:j=i
    .rw [e];exact HB.out
    .exact HA.out j a (by omega)
   .have hz:decide (M/2 ^ W=0)=false:=dF (λ h=>hb ((DC hM).1 h i hi1 hil))
    have t1:((((M:Nat):Int)/2 ^ i).tmod 2==1)=true:=mod_eq hb
    have HZ:=sE (HOK.out.symm.trans hz)
    clear hb hz
    go_wp2
    go_ret
    exact⟨by rw[HZ.out];rfl,k1⟩
  .have hil':¬ (i:Int)<64:=by omega
   have hz:decide (M/2 ^ W=0)=true:=dT ((DC hM).2 λ j a b=>HA.out j a (by omega))
   have HZ:=sE (HOK.out.symm.trans hz)
   clear hz
   go_wp2
   go_ret
   exact⟨by rw[HZ.out];rfl,k1⟩

theorem DMay_refs(M:Nat)(w:World)(hM:M<18446744073709551616):
  Calls prog 171 #[.agg #[.int .u8 2,.int .i64 0,.int .u64 (M:Nat)]] w λ e w'=>e=.returned (.bool (decide (M/2 ^ 0=0)))/\Kp Ab w w':=by
 obtain⟨ok,hok⟩:∃ ok,decide (M/2 ^ 0=0)=ok:=⟨_,rfl⟩
 have HOK:=sE hok
 rw[hok]
 clear hok
 go_enter func171,ntmps171
 go_wp2_with fail
 obtain⟨w1,hw1⟩:∃ w1,w1=w.alloc (.cells #[.int .u8 2,.int .i64 0,.int .u64 (M:Nat)] 86):=⟨_,rfl⟩
 have k1:Kp Ab w w1:=by rw[hw1];exact (Kr _ w).alloc _
 have b1:w1.heap[w.heap.size]?=some (.cells #[.int .u8 2,.int .i64 0,.int .u64 (M:Nat)] 86 (0,0)):=by rw[hw1];exact wN w _
 have c2:w1.cell? ⟨w.heap.size,2,none⟩=some (.int .u64 (M:Nat)):=by simp[World.cell?,b1]
 rw[<- hw1]
 clear hw1 b1
 go_loopw [4] (λ y wr=>MayI M 0 w1 y wr) (λ y _=>64-(intOf y).toNat)
 case atStart=>exact ⟨0,Nat.le_refl _,(by omega),rfl,λ j a b=>by omega,rfl⟩
 case round=>
  obtain⟨i,hi1,hi2,rfl,hall,rfl⟩:=hrel
  have HA:=sE hall
  clear hall
  by_cases hil:i<64
  .have hil':(i:Int)<64:=by omega
   by_cases hb:M/2 ^ i%2=0
   .have HB:=sE hb
    have t1:((((M:Nat):Int)/2 ^ i).tmod 2==1)=false:=mod_ne hb
    clear hb
    go_wp2
    refine⟨⟨i+1,by omega,by omega,by go_num,λ j a b=>?_,rfl⟩,by simp only[intOf];omega⟩
    by_cases e:j=i
    .rw [e];exact HB.out
    .exact HA.out j a (by omega)
   .have hz:decide (M/2 ^ 0=0)=false:=dF (λ h=>hb ((DC hM).1 h i hi1 hil))
    have t1:((((M:Nat):Int)/2 ^ i).tmod 2==1)=true:=mod_eq hb
    have HZ:=sE (HOK.out.symm.trans hz)
    clear hb hz
    go_wp2
    go_ret
    exact⟨by rw[HZ.out];rfl,k1⟩
  .have hil':¬ (i:Int)<64:=by omega
   have hz:decide (M/2 ^ 0=0)=true:=dT ((DC hM).2 λ j a b=>HA.out j a (by omega))
   have HZ:=sE (HOK.out.symm.trans hz)
   clear hz
   go_wp2
   go_ret
   exact⟨by rw[HZ.out];rfl,k1⟩

theorem DMay_raw(M:Nat)(w:World)(hM:M<18446744073709551616):
  Calls prog 171 #[.agg #[.int .u8 4,.int .i64 0,.int .u64 (M:Nat)]] w λ e w'=>e=.returned (.bool (decide (M/2 ^ 0=0)))/\Kp Ab w w':=by
 obtain⟨ok,hok⟩:∃ ok,decide (M/2 ^ 0=0)=ok:=⟨_,rfl⟩
 have HOK:=sE hok
 rw[hok]
 clear hok
 go_enter func171,ntmps171
 go_wp2_with fail
 obtain⟨w1,hw1⟩:∃ w1,w1=w.alloc (.cells #[.int .u8 4,.int .i64 0,.int .u64 (M:Nat)] 86):=⟨_,rfl⟩
 have k1:Kp Ab w w1:=by rw[hw1];exact (Kr _ w).alloc _
 have b1:w1.heap[w.heap.size]?=some (.cells #[.int .u8 4,.int .i64 0,.int .u64 (M:Nat)] 86 (0,0)):=by rw[hw1];exact wN w _
 have c2:w1.cell? ⟨w.heap.size,2,none⟩=some (.int .u64 (M:Nat)):=by simp[World.cell?,b1]
 rw[<- hw1]
 clear hw1 b1
 go_loopw [4] (λ y wr=>MayI M 0 w1 y wr) (λ y _=>64-(intOf y).toNat)
 case atStart=>exact ⟨0,Nat.le_refl _,(by omega),rfl,λ j a b=>by omega,rfl⟩
 case round=>
  obtain⟨i,hi1,hi2,rfl,hall,rfl⟩:=hrel
  have HA:=sE hall
  clear hall
  by_cases hil:i<64
  .have hil':(i:Int)<64:=by omega
   by_cases hb:M/2 ^ i%2=0
   .have HB:=sE hb
    have t1:((((M:Nat):Int)/2 ^ i).tmod 2==1)=false:=mod_ne hb
    clear hb
    go_wp2
    refine⟨⟨i+1,by omega,by omega,by go_num,λ j a b=>?_,rfl⟩,by simp only[intOf];omega⟩
    by_cases e:j=i
    .rw [e];exact HB.out
    .exact HA.out j a (by omega)
   .have hz:decide (M/2 ^ 0=0)=false:=dF (λ h=>hb ((DC hM).1 h i hi1 hil))
    have t1:((((M:Nat):Int)/2 ^ i).tmod 2==1)=true:=mod_eq hb
    have HZ:=sE (HOK.out.symm.trans hz)
    clear hb hz
    go_wp2
    go_ret
    exact⟨by rw[HZ.out];rfl,k1⟩
  .have hil':¬ (i:Int)<64:=by omega
   have hz:decide (M/2 ^ 0=0)=true:=dT ((DC hM).2 λ j a b=>HA.out j a (by omega))
   have HZ:=sE (HOK.out.symm.trans hz)
   clear hz
   go_wp2
   go_ret
   exact⟨by rw[HZ.out];rfl,k1⟩

theorem DMay_any(k wds:Int)(M:Nat)(w:World)(hM:M<18446744073709551616):
  Calls prog 171 #[.agg #[.int .u8 k,.int .i64 wds,.int .u64 (M:Nat)]] w λ e w'=>e=.returned (.bool (Di k wds M))/\Kp Ab w w':=by
 have kA:=(Kr Ab w).alloc (.cells #[.int .u8 k,.int .i64 wds,.int .u64 (M:Nat)] 86)
 have loop:∀ W:Nat,W<=64->wds=(W:Nat)->((decide (64<=wds)||decide (M/2 ^ wds.toNat=0))=decide (M/2 ^ W=0)):=by
  rintro W hW rfl
  by_cases h:W=64
  .subst h
   rw[Nat.div_eq_of_lt (show M<2 ^ 64 from hM)]
   simp
  .have:¬ (64:Int)<=(W:Nat):=by omega
   simp[this]
 by_cases k1:k=1
 .subst k1
  by_cases h1:wds<0
  .have e:Di 1 wds M=false:=by simp[Di];omega
   have d1:decide (wds<0)=true:=dT h1
   rw[e]
   clear e loop
   go_enter func171,ntmps171
   go_wp2
   go_ret
   exact⟨rfl,kA⟩
  .by_cases h2:64<wds
   .have e:Di 1 wds M=false:=by simp[Di];omega
    have d1:decide (wds<0)=false:=dF h1
    have d2:decide (64<wds)=true:=dT h2
    rw[e]
    clear e loop
    go_enter func171,ntmps171
    go_wp2
    go_ret
    exact⟨rfl,kA⟩
   .obtain ⟨W,rfl⟩:=Int.eq_ofNat_of_zero_le (show 0<=wds by omega)
    have e:Di 1 (W:Nat) M=decide (M/2 ^ W=0):=by
     rw[Di,loop W (by omega) rfl,dT (show (1:Int)=1/\0<=((W:Nat):Int)/\((W:Nat):Int)<=64 by omega)]
     simp
    rw[e]
    exact DMay_fix W M w hM (by omega)
 by_cases k3:k=3
 .subst k3
  by_cases h1:wds<1
  .have e:Di 3 wds M=false:=by simp[Di];omega
   have d1:decide (wds<1)=true:=dT h1
   rw[e]
   clear e loop
   go_enter func171,ntmps171
   go_wp2
   go_ret
   exact⟨rfl,kA⟩
  .by_cases h2:16<wds
   .have e:Di 3 wds M=false:=by simp[Di];omega
    have d1:decide (wds<1)=false:=dF h1
    have d2:decide (16<wds)=true:=dT h2
    rw[e]
    clear e loop
    go_enter func171,ntmps171
    go_wp2
    go_ret
    exact⟨rfl,kA⟩
   .obtain ⟨W,rfl⟩:=Int.eq_ofNat_of_zero_le (show 0<=wds by omega)
    have e:Di 3 (W:Nat) M=decide (M/2 ^ W=0):=by
     rw[Di,loop W (by omega) rfl,dT (show (3:Int)=3/\1<=((W:Nat):Int)/\((W:Nat):Int)<=16 by omega)]
     simp
    rw[e]
    exact DMay_structs W M w hM (by omega) (by omega)
 by_cases k24:k=2\/k=4
 .by_cases h1:wds=0
  .subst h1
   have e:Di k 0 M=decide (M/2 ^ 0=0):=by
    rw[Di,loop 0 (by omega) rfl,dT (show (k=2\/k=4)/\(0:Int)=0 from ⟨k24,rfl⟩)]
    simp
   rw[e]
   rcases k24 with rfl|rfl
   .exact DMay_refs M w hM
   .exact DMay_raw M w hM
  .have e:Di k wds M=false:=by simp[Di];omega
   have d1:(wds !=0)=true:=by simpa using h1
   rw[e]
   clear e loop
   rcases k24 with rfl|rfl
   .go_enter func171,ntmps171
    go_wp2
    go_ret
    exact⟨rfl,kA⟩
   .go_enter func171,ntmps171
    go_wp2
    go_ret
    exact⟨rfl,kA⟩
 .have e:Di k wds M=false:=by simp[Di];omega
  have b1:(k==1)=false:=by simpa using k1
  have b2:(k==2)=false:=by simp;omega
  have b3:(k==3)=false:=by simpa using k3
  have b4:(k==4)=false:=by simp;omega
  rw[e]
  clear e loop
  go_enter func171,ntmps171
  go_wp2
  go_ret
  exact⟨rfl,kA⟩

def ES(k wds:Int)(M:Nat)(n:Int)(w:World)(e:Ending)(w':World):Prop:=
 e=.returned (.tuple #[.int .i64 (if AV k wds M n=0 then AR k wds n else 0),.int .i64 (AV k wds M n)])/\Kp Ab w w'

theorem DSlots_any(k wds:Int)(M:Nat)(n:Int)(w:World)(hM:M<18446744073709551616):
  Calls prog 133 #[.agg #[.int .u8 k,.int .i64 wds,.int .u64 (M:Nat)],.int .i64 n] w (ES k wds M n w):=by
 obtain⟨w1,hw1⟩:∃ w1,w1=w.alloc (.cells #[.int .u8 k,.int .i64 wds,.int .u64 (M:Nat)] 86):=⟨_,rfl⟩
 have k1:Kp Ab w w1:=by rw[hw1];exact (Kr _ w).alloc _
 have b1:w1.heap[w.heap.size]?=some (.cells #[.int .u8 k,.int .i64 wds,.int .u64 (M:Nat)] 86 (0,0)):=by rw[hw1];exact wN w _
 have HMay:=sE (DMay_any k wds M w1 hM)
 have hsm:AV k wds M n=0->0<=n/\n<=4096/\(k=1->n=0)/\(k=3->1<=wds/\wds<=16):=λ h=>by
  obtain⟨_,a2,a3,a4,a5⟩:=Ef h
  exact⟨a2,a3,a4,λ h=>by omega⟩
 have HSm:=sE hsm
 clear hsm
 have HB1:=sE b1
 clear b1
 cases hok:Di k wds M with
 |false=>
  have e:AV k wds M n=2:=by rw[AV,hok];rfl
  have HE:=sE e
  rw[hok] at HMay
  clear e hok
  go_enter func133,ntmps133
  go_wp2_with fail
  try rw[<- hw1]
  clear hw1
  try go_wp2_with fail
  refine HMay.out.mono ?_
  rintro e w2 ⟨rfl,k2⟩
  go_wp2
  exact bodyPost_ret (v:=.tuple #[.int .i64 0,.int .i64 2]) (by simp[results,results133,go_sem]) rfl ⟨by rw[HE.out];rfl,k1.then' k2⟩
 |true=>
  have HOK:=sE hok
  rw[hok] at HMay
  clear hok
  by_cases hn:n<0
  .have HE:Sl (AV k wds M n=2):=⟨by rw[AV,HOK.out,dF (show ¬ 0<=n by omega)];rfl⟩
   have d1:decide (n<0)=true:=dT hn
   go_enter func133,ntmps133
   go_wp2_with fail
   try rw[<- hw1]
   clear hw1
   try go_wp2_with fail
   refine HMay.out.mono ?_
   rintro e w2 ⟨rfl,k2⟩
   have b2:=k2.at_ HB1.out (λ h=>h)
   have c0:w2.cell? ⟨w.heap.size,0,none⟩=some (.int .u8 k):=by simp[World.cell?,b2]
   have c1:w2.cell? ⟨w.heap.size,1,none⟩=some (.int .i64 wds):=by simp[World.cell?,b2]
   clear b2
   go_wp2
   exact bodyPost_ret (v:=.tuple #[.int .i64 0,.int .i64 2]) (by simp[results,results133,go_sem]) rfl ⟨by rw[HE.out];rfl,k1.then' k2⟩
  have d1:decide (n<0)=false:=dF hn
  by_cases hk:k=1
  .subst hk
   by_cases h0:n=0
   .subst h0
    have HE:Sl (AV 1 wds M 0=0):=⟨by rw[AV,HOK.out];rfl⟩
    have HSl:Sl (AR 1 wds 0=wds):=⟨by rw[AR,if_pos rfl]⟩
    go_enter func133,ntmps133
    go_wp2_with fail
    try rw[<- hw1]
    clear hw1
    try go_wp2_with fail
    refine HMay.out.mono ?_
    rintro e w2 ⟨rfl,k2⟩
    have b2:=k2.at_ HB1.out (λ h=>h)
    have c0:w2.cell? ⟨w.heap.size,0,none⟩=some (.int .u8 1):=by simp[World.cell?,b2]
    have c1:w2.cell? ⟨w.heap.size,1,none⟩=some (.int .i64 wds):=by simp[World.cell?,b2]
    clear b2
    go_wp2
    exact bodyPost_ret (v:=.tuple #[.int .i64 wds,.int .i64 0]) (by simp[results,results133,go_sem]) rfl ⟨by rw[HE.out];rw [if_pos rfl,HSl.out],k1.then' k2⟩
   .have HE:Sl (AV 1 wds M n=2):=⟨by rw[AV,HOK.out,dT (show 0<=n by omega),dF h0];rfl⟩
    have d2:(n !=0)=true:=by simpa using h0
    go_enter func133,ntmps133
    go_wp2_with fail
    try rw[<- hw1]
    clear hw1
    try go_wp2_with fail
    refine HMay.out.mono ?_
    rintro e w2 ⟨rfl,k2⟩
    have b2:=k2.at_ HB1.out (λ h=>h)
    have c0:w2.cell? ⟨w.heap.size,0,none⟩=some (.int .u8 1):=by simp[World.cell?,b2]
    have c1:w2.cell? ⟨w.heap.size,1,none⟩=some (.int .i64 wds):=by simp[World.cell?,b2]
    clear b2
    go_wp2
    exact bodyPost_ret (v:=.tuple #[.int .i64 0,.int .i64 2]) (by simp[results,results133,go_sem]) rfl ⟨by rw[HE.out];rfl,k1.then' k2⟩
  .have b1':(k==1)=false:=by simpa using hk
   by_cases hl:4096<n
   .have HE:Sl (AV k wds M n=5):=⟨by rw[AV,HOK.out,dT (show 0<=n by omega),dT hk,if_pos (by simp),if_pos hl]⟩
    have d2:decide (4096<n)=true:=dT hl
    go_enter func133,ntmps133
    go_wp2_with fail
    try rw[<- hw1]
    clear hw1
    try go_wp2_with fail
    refine HMay.out.mono ?_
    rintro e w2 ⟨rfl,k2⟩
    have b2:=k2.at_ HB1.out (λ h=>h)
    have c0:w2.cell? ⟨w.heap.size,0,none⟩=some (.int .u8 k):=by simp[World.cell?,b2]
    have c1:w2.cell? ⟨w.heap.size,1,none⟩=some (.int .i64 wds):=by simp[World.cell?,b2]
    clear b2
    go_wp2
    exact bodyPost_ret (v:=.tuple #[.int .i64 0,.int .i64 5]) (by simp[results,results133,go_sem]) rfl ⟨by rw[HE.out];rfl,k1.then' k2⟩
   .have HE:Sl (AV k wds M n=0):=⟨by rw[AV,HOK.out,dT (show 0<=n by omega),dT hk,if_pos (by simp),if_neg hl]⟩
    have d2:decide (4096<n)=false:=dF hl
    by_cases hk3:k=3
    .subst hk3
     have HSl:Sl (AR 3 wds n=n*wds):=⟨by rw[AR,if_neg (by omega),if_pos rfl]⟩
     obtain⟨a1,a2,a3,a4⟩:=HSm.out HE.out
     obtain⟨a5,a6⟩:=a4 rfl
     obtain⟨N,rfl⟩:=Int.eq_ofNat_of_zero_le a1
     obtain⟨V,rfl⟩:=Int.eq_ofNat_of_zero_le (show 0<=wds by omega)
     have hmul:N*V<=4096*16:=Nat.mul_le_mul (by omega) (by omega)
     have hm:((N:Nat):Int)*((V:Nat):Int)=((N*V:Nat):Int):=by push_cast;rfl
     have hwr:IntKind.i64.wrap (((N:Nat):Int)*((V:Nat):Int))=((N:Nat):Int)*((V:Nat):Int):=by rw[hm,IntKind.wrap_i64];omega
     clear a3 a4 a1 a2 hm hmul
     go_enter func133,ntmps133
     go_wp2_with fail
     try rw[<- hw1]
     clear hw1
     try go_wp2_with fail
     refine HMay.out.mono ?_
     rintro e w2 ⟨rfl,k2⟩
     have b2:=k2.at_ HB1.out (λ h=>h)
     have c0:w2.cell? ⟨w.heap.size,0,none⟩=some (.int .u8 3):=by simp[World.cell?,b2]
     have c1:w2.cell? ⟨w.heap.size,1,none⟩=some (.int .i64 (V:Nat)):=by simp[World.cell?,b2]
     clear b2
     go_wp2
     exact bodyPost_ret (v:=.tuple #[.int .i64 ((N:Int)*(V:Int)),.int .i64 0]) (by simp[results,results133,go_sem]) rfl ⟨by rw[HE.out];rw [if_pos rfl,HSl.out],k1.then' k2⟩
    .have b3:(k==3)=false:=by simpa using hk3
     have HSl:Sl (AR k wds n=n):=⟨by rw[AR,if_neg hk,if_neg hk3]⟩
     go_enter func133,ntmps133
     go_wp2_with fail
     try rw[<- hw1]
     clear hw1
     try go_wp2_with fail
     refine HMay.out.mono ?_
     rintro e w2 ⟨rfl,k2⟩
     have b2:=k2.at_ HB1.out (λ h=>h)
     have c0:w2.cell? ⟨w.heap.size,0,none⟩=some (.int .u8 k):=by simp[World.cell?,b2]
     have c1:w2.cell? ⟨w.heap.size,1,none⟩=some (.int .i64 wds):=by simp[World.cell?,b2]
     clear b2
     go_wp2
     exact bodyPost_ret (v:=.tuple #[.int .i64 n,.int .i64 0]) (by simp[results,results133,go_sem]) rfl ⟨by rw[HE.out];rw [if_pos rfl,HSl.out],k1.then' k2⟩

def DSizeI(K:Nat)(w:World)(y:Value)(wr:World):Prop:=∃ g:Nat,y=.int .i64 (g:Nat)/\(g=0\/2*(g-1)<K+1)/\wr=w

theorem DSize_any(k wds:Int)(M:Nat)(n:Int)(w:World)(hM:M<18446744073709551616):
  Calls prog 193 #[.agg #[.int .u8 k,.int .i64 wds,.int .u64 (M:Nat)],.int .i64 n] w (SizePost k wds M n w):=by
 obtain⟨w1,hw1⟩:∃ w1,w1=w.alloc (.cells #[.int .u8 k,.int .i64 wds,.int .u64 (M:Nat)] 86):=⟨_,rfl⟩
 have k1:Kp Ab w w1:=by rw[hw1];exact (Kr _ w).alloc _
 have HS:=sE (DSlots_any k wds M n w1 hM)
 by_cases h0:AV k wds M n=0
 .have hr:=Bi h0
  obtain⟨K,hK⟩:=Int.eq_ofNat_of_zero_le hr.1
  have HE:=sE (And.intro h0 hK)
  have HSS:Sl (Calls prog 133 #[.agg #[.int .u8 k,.int .i64 wds,.int .u64 (M:Nat)],.int .i64 n] w1 λ e w'=>e=.returned (.tuple #[.int .i64 (K:Nat),.int .i64 0])/\Kp Ab w1 w'):=
   ⟨HS.out.mono λ e w' hp=>by rw[ES,if_pos h0,h0,hK] at hp;exact hp⟩
  have hK2:K<=65536:=by omega
  clear h0 hr hK HS
  go_enter func193,ntmps193
  go_wp2_with fail
  try rw[<- hw1]
  clear hw1
  try go_wp2_with fail
  refine HSS.out.mono ?_
  rintro e w2 ⟨rfl,k2⟩
  go_wp2_with fail
  go_loopw [8] (λ y wr=>DSizeI K w2 y wr) (λ y _=>K+2-(intOf y).toNat)
  case atStart=>exact ⟨0,rfl,.inl rfl,rfl⟩
  case round=>
   obtain⟨g,rfl,hg,rfl⟩:=hrel
   by_cases hl:2*g<K+1
   .have hl':(g:Int)*2<(K:Int)+1:=by omega
    go_wp2
    exact⟨⟨g+1,by go_num,by omega,rfl⟩,by simp only[intOf];omega⟩
   .have hl':¬ (g:Int)*2<(K:Int)+1:=by omega
    have hg2:Fp k wds n=(g:Nat):=by rw[Fp,HE.out.2];omega
    have HG:=sE hg2
    clear hg2
    go_wp2
    exact bodyPost_ret (v:=.tuple #[.int .i64 (g:Nat),.int .i64 0]) (by simp[results,results193,go_sem]) rfl ⟨by rw[HE.out.1,if_pos rfl,HG.out],k1.then' k2⟩
 .have hb:(AV k wds M n !=0)=true:=by simpa using h0
  obtain⟨E,hE⟩:∃ E,AV k wds M n=E:=⟨_,rfl⟩
  have HE:=sE hE
  rw[hE] at h0 hb
  have HSS:Sl (Calls prog 133 #[.agg #[.int .u8 k,.int .i64 wds,.int .u64 (M:Nat)],.int .i64 n] w1 λ e w'=>e=.returned (.tuple #[.int .i64 0,.int .i64 E])/\Kp Ab w1 w'):=
   ⟨HS.out.mono λ e w' hp=>by rw[ES,hE,if_neg h0] at hp;exact hp⟩
  clear hE HS
  go_enter func193,ntmps193
  go_wp2_with fail
  try rw[<- hw1]
  clear hw1
  try go_wp2_with fail
  refine HSS.out.mono ?_
  rintro e w2 ⟨rfl,k2⟩
  go_wp2
  exact bodyPost_ret (v:=.tuple #[.int .i64 0,.int .i64 E]) (by simp[results,results193,go_sem]) rfl ⟨by rw[HE.out,if_neg h0],k1.then' k2⟩

def Cg(ts:List TypR):Prop:=∀ x∈ts,x.m<18446744073709551616

theorem DGet_none(v:Value)(id:Int)(ts:List TypR)(w:World)(hv:AO w v ts)(hl:ts.length<=17592186044416)(hx:typeOf ts id=none):
  Calls prog 170 #[v,.int .i64 id] w (Ff none w):=by
 obtain⟨a,cap,rfl,hr⟩:=hv
 have hc:=typeOf_none hx
 obtain⟨n,hn⟩:∃ n,ts.length=n:=⟨_,rfl⟩
 rw[hn] at hc hl ⊢
 obtain⟨d0,hd0⟩:∃ d0,decide (id<1)=d0:=⟨_,rfl⟩
 have hd1:d0=false->decide ((n:Int)<id)=true:=λ h=>by
  subst h
  have:=of_decide_eq_false hd0
  exact dT (by omega)
 clear hr hc hx hn
 obtain⟨w1,hw1⟩:∃ w1,w1=w.alloc (.cells #[.int .u8 0,.int .i64 0,.int .u64 0] 86):=⟨_,rfl⟩
 have kA:Kp Ab w w1:=by rw[hw1];exact (Kr _ w).alloc _
 have b0:w1.heap[w.heap.size]?=some (.cells #[.int .u8 0,.int .i64 0,.int .u64 0] 86 (0,0)):=by rw[hw1];exact wN w _
 have HB:=sE b0
 have f0:=Ae b0
 have f00:=f0 0
 have f01:=f0 1
 have f02:=f0 2
 have e0:w1.cell? ⟨w.heap.size,0,none⟩=some (.int .u8 0):=by simp[World.cell?,b0]
 have e1:w1.cell? ⟨w.heap.size,1,none⟩=some (.int .i64 0):=by simp[World.cell?,b0]
 have e2:w1.cell? ⟨w.heap.size,2,none⟩=some (.int .u64 0):=by simp[World.cell?,b0]
 have hs:w.heap.size<w1.heap.size:=lZ b0
 clear b0 f0
 cases d0 with
 |true=>
  clear hd1
  go_enter func170,ntmps170
  go_wp2_with fail
  rw[<- hw1]
  clear hw1
  go_wp2
  refine bodyPost_ret (v:=.tuple #[AC 0 0 0,.int .i64 3]) (by simp[results,results170,go_sem,e0,e1,e2,AC]) rfl ⟨rfl,kA⟩
 |false=>
  have hd2:=hd1 rfl
  clear hd1
  go_enter func170,ntmps170
  go_wp2_with fail
  rw[<- hw1]
  clear hw1
  go_wp2
  refine bodyPost_ret (v:=.tuple #[AC 0 0 0,.int .i64 3]) (by simp[results,results170,go_sem,e0,e1,e2,AC]) rfl ⟨rfl,kA⟩

theorem DGet_some(v:Value)(id:Int)(ts:List TypR)(k wds:Int)(m:Nat)(w:World)(hv:AO w v ts)(hl:ts.length<=17592186044416)(hx:typeOf ts id=some ⟨k,wds,m⟩):
  Calls prog 170 #[v,.int .i64 id] w (Ff (some ⟨k,wds,m⟩) w):=by
 obtain⟨a,cap,rfl,hr⟩:=hv
 obtain⟨i,rfl,hi,hil⟩:=Et hx
 obtain⟨b,o,rfl,hb,c0,c1,c2⟩:=hr i _ hi
 dsimp only at c0 c1 c2
 obtain⟨n,hn⟩:∃ n,ts.length=n:=⟨_,rfl⟩
 rw[hn] at hil hl ⊢
 have hd0:decide (((i+1:Nat):Int)<1)=false:=dF (by omega)
 have hd1:decide ((n:Int)<((i+1:Nat):Int))=false:=dF (by omega)
 have hi1:((i+1:Nat):Int)-1=(i:Nat):=by omega
 clear hr hx hn hi
 have kA:Kp Ab w (w.alloc (.cells #[.int .u8 0,.int .i64 0,.int .u64 0] 86)):=(Kr _ w).alloc _
 replace c0:=kA.cell c0 (λ h=>h)
 replace c1:=kA.cell c1 (λ h=>h)
 replace c2:=kA.cell c2 (λ h=>h)
 have kB:Kp Ab w (w.alloc (.cells #[.int .u8 k,.int .i64 wds,.int .u64 (m:Nat)] 86)):=(Kr _ w).alloc _
 obtain⟨z0,z1,z2⟩:=new3 w (.int .u8 k) (.int .i64 wds) (.int .u64 (m:Nat)) 86
 go_enter func170,ntmps170
 go_wp2
 refine bodyPost_ret (v:=.tuple #[AC k wds (m:Nat),.int .i64 0]) (by simp[results,results170,go_sem,z0,z1,z2,AC]) rfl ⟨rfl,kB⟩

theorem DGet_any(v:Value)(id:Int)(ts:List TypR)(w:World)(hv:AO w v ts)(hl:ts.length<=17592186044416):
  Calls prog 170 #[v,.int .i64 id] w (Ff (typeOf ts id) w):=by
 cases hx:typeOf ts id with
 |none=>exact DGet_none v id ts w hv hl hx
 |some x=>
  obtain⟨k,wds,m⟩:=x
  exact DGet_some v id ts k wds m w hv hl hx

theorem DTSize_none(v:Value)(id n:Int)(ts:List TypR)(w:World)(hv:AO w v ts)(hl:ts.length<=17592186044416)(hx:typeOf ts id=none):
  Calls prog 168 #[v,.int .i64 id,.int .i64 n] w (EL ts id n w):=by
 have CA:=DGet_any v id ts w hv hl
 rw[hx] at CA
 have HC:=sE CA
 have HE:Sl (AY ts id n=3):=⟨by rw[AY,hx]⟩
 clear CA hx hv
 go_enter func168,ntmps168
 go_wp2_with fail
 refine HC.out.mono ?_
 rintro e w2 ⟨rfl,k2⟩
 dsimp only[AC,Option.isSome_some,Option.isSome_none]
 go_wp2
 exact bodyPost_ret (v:=.tuple #[.int .i64 0,.int .i64 3]) (by simp[results,results168,go_sem]) rfl ⟨by rw[HE.out];rfl,k2.alloc _⟩

theorem DTSize_some(v:Value)(id n:Int)(ts:List TypR)(k wds:Int)(m:Nat)(w:World)(hv:AO w v ts)(hl:ts.length<=17592186044416)(hM:m<18446744073709551616)(hx:typeOf ts id=some ⟨k,wds,m⟩):
  Calls prog 168 #[v,.int .i64 id,.int .i64 n] w (EL ts id n w):=by
 have CA:=DGet_any v id ts w hv hl
 rw[hx] at CA
 have HC:=sE CA
 have HE:Sl (AY ts id n=AV k wds m n):=⟨by rw[AY,hx]⟩
 have HS:Sl (Bq ts id n=Fp k wds n):=⟨by rw[Bq,hx]⟩
 have CK:=λ w=>DSize_any k wds m n w hM
 have HK:=sE CK
 clear CA hx CK hM hv
 go_enter func168,ntmps168
 go_wp2_with fail
 refine HC.out.mono ?_
 rintro e w2 ⟨rfl,k2⟩
 dsimp only[AC,Option.isSome_some,Option.isSome_none]
 go_wp2_with fail
 refine(HK.out _).mono ?_
 rintro e w3 ⟨rfl,k3⟩
 obtain⟨S,hS⟩:∃ S,(if AV k wds m n=0 then Fp k wds n else 0)=S:=⟨_,rfl⟩
 obtain⟨E,hE⟩:∃ E,AV k wds m n=E:=⟨_,rfl⟩
 have H1:=sE hS
 have H2:=sE hE
 rw[hS,hE]
 clear hS hE
 go_wp2
 exact bodyPost_ret (v:=.tuple #[.int .i64 S,.int .i64 E]) (by simp[results,results168,go_sem]) rfl ⟨by rw[HE.out,HS.out,H1.out,H2.out],(k2.alloc _).then' k3⟩

theorem typeOf_mem{ts:List TypR}{id:Int}{x:TypR}(h:typeOf ts id=some x):x∈ts:=by
 obtain⟨i,-,hi,-⟩:=Et h
 exact List.mem_of_getElem? hi

theorem DTSize_any(v:Value)(id n:Int)(ts:List TypR)(w:World)(hv:AO w v ts)(hl:ts.length<=17592186044416)(hM:Cg ts):
  Calls prog 168 #[v,.int .i64 id,.int .i64 n] w (EL ts id n w):=by
 cases hx:typeOf ts id with
 |none=>exact DTSize_none v id n ts w hv hl hx
 |some x=>
  have hm:=hM x (typeOf_mem hx)
  obtain⟨k,wds,m⟩:=x
  exact DTSize_some v id n ts k wds m w hv hl hm hx

end

section
open Go.RowKit

def AB(l:List Nat):List Value:=l.map λ x=>.int .i64 (x:Nat)

theorem AP:prog.underlying 82=some (.slice 3):=by kernel_rfl

theorem Cv:(prog.info? 3).map (λ i=>(i.zero,i.size,i.bytes))=some (some (.int .i64 0),1,8):=by kernel_rfl

theorem ints_at{w:World}{v:Value}{len:Nat}{x:Nat->Nat->Int}(hv:BA 1 w v len x):∃ a cap,v=.slice a len cap/\∀ i,i<len->∃ g o,a=some ⟨g,o,none⟩/\g<w.heap.size/\w.cell? ⟨g,o+i,none⟩=some (.int .i64 (x i 0))/\-9223372036854775808<=x i 0/\x i 0<=9223372036854775807:=by
 obtain⟨a,cap,rfl,h⟩:=hv
 refine⟨a,cap,rfl,λ i hi=>?_⟩
 obtain⟨g,o,rfl,h1,h2⟩:=h i hi
 have h3:=h2 0 (by omega)
 rw[Nat.mul_one,Nat.add_zero] at h3
 exact⟨g,o,rfl,h1,h3⟩

end

end Go.Proofs.YtmfajopmppfldaaGreatDoor
