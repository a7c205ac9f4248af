/-
  Lemmas for the laws, together: DocA, BlackA.
-/
import Derived.Test.YtfkedlgpgmaemaaGreatDoorQae
import Derived.Test.YtfkedlgpgmaemaaGreatDoorQah
import Derived.Test.YtfkedlgpgmaemaaGreatDoorQaf
import Derived.Test.YtfkedlgpgmaemaaGreatDoorQad
import Derived.Deep.RegionHeld3
import Derived.Test.YtfkedlgpgmaemaaGreatDoorQaa
set_option linter.unusedVariables false
set_option maxHeartbeats 16000000
namespace Go.Proofs.YtfkedlgpgmaemaaGreatDoor
open Tryz
section
open Go.RowKit

theorem DF{M w:Nat}(d:M<18446744073709551616):M/2 ^ w=0 ↔ ∀ i,w<=i->i<64->M/2 ^ i%2=0:=by
 have e:∀ i,(M/2 ^ i%2=0) ↔ M.testBit i=false:=λ i=>by
  rw[Nat.testBit_eq_decide_div_mod_eq]
  simp
 constructor
 .intro b i f _
  have g:0<2 ^ w:=Nat.two_pow_pos w
  have a:M<2 ^ w:=by
   rcases Nat.lt_or_ge M (2 ^ w) with a|a
   .exact a
   .have:=Nat.div_pos a g;omega
  have c:M<2 ^ i:=Nat.lt_of_lt_of_le a (Nat.pow_le_pow_right (by omega) f)
  rw[Nat.div_eq_of_lt c]
 .intro b
  refine Nat.eq_of_testBit_eq λ j=>?_
  rw[Nat.testBit_div_two_pow,Nat.zero_testBit]
  by_cases hj:j+w<64
  .have:=(e (j+w)).1 (b (j+w) (by omega) hj)
   exact this
  .refine Nat.testBit_lt_two_pow ?_
   refine Nat.lt_of_lt_of_le d ?_
   rw[show (18446744073709551616:Nat)=2 ^ 64 from rfl]
   exact Nat.pow_le_pow_right (by omega) (by omega)

def MayI(M W:Nat)(w:World)(y:Value)(wr:World):Prop:=∃ i,W<=i/\i<=64/\y=.int .i64 (i:Nat)/\(∀ j,W<=j->j<i->M/2 ^ j%2=0)/\wr=w

theorem mod_ne{M i:Nat}(h:M/2 ^ i%2=0):((((M:Nat):Int)/2 ^ i).tmod 2==1)=false:=by
 have:(((M:Nat):Int)/2 ^ i).tmod 2=((M/2 ^ i%2:Nat):Int):=by
  rw[Int.tmod_eq_emod_of_nonneg (Int.ediv_nonneg (by omega) (Int.le_of_lt (Int.pow_pos (by omega))))]
  push_cast;rfl
 rw[this,h];rfl

theorem mod_eq{M i:Nat}(h:¬ M/2 ^ i%2=0):((((M:Nat):Int)/2 ^ i).tmod 2==1)=true:=by
 have:(((M:Nat):Int)/2 ^ i).tmod 2=((M/2 ^ i%2:Nat):Int):=by
  rw[Int.tmod_eq_emod_of_nonneg (Int.ediv_nonneg (by omega) (Int.le_of_lt (Int.pow_pos (by omega))))]
  push_cast;rfl
 rw[this,show M/2 ^ i%2=1 by omega];rfl

theorem DMay_fix(W:Nat)(M:Nat)(w:World)(n:M<18446744073709551616)(u:W<=64):
  Calls prog 198 #[.agg #[.int .u8 1,W,.int .u64 M]] w (RK (.bool (decide (M/2 ^ W=0))) w):=by
 have B:decide ((W:Int)<0)=false:=dF (by omega)
 have C:decide ((64:Int)<(W:Int))=false:=dF (by omega)
 obtain⟨r,g⟩:∃ r,decide (M/2 ^ W=0)=r:=⟨_,rfl⟩
 have l:=sE g
 rw[g]
 clear g
 go_enter func198,ntmps198
 go_wp2_with fail
 obtain⟨w1,d⟩:∃ w1,w1=w.alloc (.cells #[.int .u8 1,W,.int .u64 M] 106):=⟨_,rfl⟩
 have q:Kp Aa w w1:=by rw[d];exact (Kr _ w).alloc _
 have m:w1.heap[w.heap.size]?=some (.cells #[.int .u8 1,W,.int .u64 M] 106 (0,0)):=by rw[d];exact wN w _
 have A:w1.cell? ⟨w.heap.size,2,none⟩=some (.int .u64 M):=by simp[World.cell?,m]
 rw[<- d]
 clear d m
 go_loopw [4] (λ y wr=>MayI M W w1 y wr) (λ y _=>64-(intOf y).toNat)
 case atStart=>exact ⟨W,Nat.le_refl _,u,rfl,λ j a b=>by omega,rfl⟩
 case round=>
  obtain⟨i,v,D,rfl,p,rfl⟩:=hrel
  have k:=sE p
  clear p
  by_cases hil:i<64
  .have x:(i:Int)<64:=by omega
   by_cases hb:M/2 ^ i%2=0
   .have s:=sE hb
    have z:((((M:Nat):Int)/2 ^ i).tmod 2==1)=false:=mod_ne hb
    clear hb
    go_wp2
    refine⟨⟨i+1,by omega,by omega,by go_num,λ j a b=>?_,rfl⟩,by simp only[intOf];omega⟩
    by_cases e:j=i
    .rw [e];exact s.o
    .exact k.o j a (by omega)
   .have c:decide (M/2 ^ W=0)=false:=dF (λ t=>hb ((DF n).1 t i v hil))
    have z:((((M:Nat):Int)/2 ^ i).tmod 2==1)=true:=mod_eq hb
    have f:=sE (l.o.symm.trans c)
    clear hb c
    go_wp2
    go_ret
    exact⟨by rw[f.o];rfl,q⟩
  .have x:¬ (i:Int)<64:=by omega
   have c:decide (M/2 ^ W=0)=true:=dT ((DF n).2 λ j a b=>k.o j a (by omega))
   have f:=sE (l.o.symm.trans c)
   clear c
   go_wp2
   go_ret
   exact⟨by rw[f.o];rfl,q⟩

theorem DMay_structs(W:Nat)(M:Nat)(w:World)(n:M<18446744073709551616)(C:1<=W)(D:W<=16):
  Calls prog 198 #[.agg #[.int .u8 3,W,.int .u64 M]] w (RK (.bool (decide (M/2 ^ W=0))) w):=by
 have A:decide ((W:Int)<1)=false:=dF (by omega)
 have B:decide ((16:Int)<(W:Int))=false:=dF (by omega)
 obtain⟨r,g⟩:∃ r,decide (M/2 ^ W=0)=r:=⟨_,rfl⟩
 have l:=sE g
 rw[g]
 clear g
 go_enter func198,ntmps198
 go_wp2_with fail
 obtain⟨w1,d⟩:∃ w1,w1=w.alloc (.cells #[.int .u8 3,W,.int .u64 M] 106):=⟨_,rfl⟩
 have q:Kp Aa w w1:=by rw[d];exact (Kr _ w).alloc _
 have m:w1.heap[w.heap.size]?=some (.cells #[.int .u8 3,W,.int .u64 M] 106 (0,0)):=by rw[d];exact wN w _
 have z:w1.cell? ⟨w.heap.size,2,none⟩=some (.int .u64 M):=by simp[World.cell?,m]
 rw[<- d]
 clear d m
 go_loopw [4] (λ y wr=>MayI M W w1 y wr) (λ y _=>64-(intOf y).toNat)
 case atStart=>exact ⟨W,Nat.le_refl _,(by omega),rfl,λ j a b=>by omega,rfl⟩
 case round=>
  obtain⟨i,u,E,rfl,p,rfl⟩:=hrel
  have k:=sE p
  clear p
  by_cases hil:i<64
  .have v:(i:Int)<64:=by omega
   by_cases hb:M/2 ^ i%2=0
   .have s:=sE hb
    have x:((((M:Nat):Int)/2 ^ i).tmod 2==1)=false:=mod_ne hb
    clear hb
    go_wp2
    refine⟨⟨i+1,by omega,by omega,by go_num,λ j a b=>?_,rfl⟩,by simp only[intOf];omega⟩
    by_cases e:j=i
    .rw [e];exact s.o
    .exact k.o j a (by omega)
   .have c:decide (M/2 ^ W=0)=false:=dF (λ t=>hb ((DF n).1 t i u hil))
    have x:((((M:Nat):Int)/2 ^ i).tmod 2==1)=true:=mod_eq hb
    have f:=sE (l.o.symm.trans c)
    clear hb c
    go_wp2
    go_ret
    exact⟨by rw[f.o];rfl,q⟩
  .have v:¬ (i:Int)<64:=by omega
   have c:decide (M/2 ^ W=0)=true:=dT ((DF n).2 λ j a b=>k.o j a (by omega))
   have f:=sE (l.o.symm.trans c)
   clear c
   go_wp2
   go_ret
   exact⟨by rw[f.o];rfl,q⟩

theorem DMay_refs(M:Nat)(w:World)(n:M<18446744073709551616):
  Calls prog 198 #[.agg #[.int .u8 2,(0:Int),.int .u64 M]] w (RK (.bool (decide (M/2 ^ 0=0))) w):=by
 obtain⟨r,g⟩:∃ r,decide (M/2 ^ 0=0)=r:=⟨_,rfl⟩
 have l:=sE g
 rw[g]
 clear g
 go_enter func198,ntmps198
 go_wp2_with fail
 obtain⟨w1,d⟩:∃ w1,w1=w.alloc (.cells #[.int .u8 2,(0:Int),.int .u64 M] 106):=⟨_,rfl⟩
 have q:Kp Aa w w1:=by rw[d];exact (Kr _ w).alloc _
 have m:w1.heap[w.heap.size]?=some (.cells #[.int .u8 2,(0:Int),.int .u64 M] 106 (0,0)):=by rw[d];exact wN w _
 have z:w1.cell? ⟨w.heap.size,2,none⟩=some (.int .u64 M):=by simp[World.cell?,m]
 rw[<- d]
 clear d m
 go_loopw [4] (λ y wr=>MayI M 0 w1 y wr) (λ y _=>64-(intOf y).toNat)
 case atStart=>exact ⟨0,Nat.le_refl _,(by omega),rfl,λ j a b=>by omega,rfl⟩
 case round=>
  obtain⟨i,u,A,rfl,p,rfl⟩:=hrel
  have k:=sE p
  clear p
  by_cases hil:i<64
  .have v:(i:Int)<64:=by omega
   by_cases hb:M/2 ^ i%2=0
   .have s:=sE hb
    have x:((((M:Nat):Int)/2 ^ i).tmod 2==1)=false:=mod_ne hb
    clear hb
    go_wp2
    refine⟨⟨i+1,by omega,by omega,by go_num,λ j a b=>?_,rfl⟩,by simp only[intOf];omega⟩
    by_cases e:j=i
    .rw [e];exact s.o
    .exact k.o j a (by omega)
   .have c:decide (M/2 ^ 0=0)=false:=dF (λ t=>hb ((DF n).1 t i u hil))
    have x:((((M:Nat):Int)/2 ^ i).tmod 2==1)=true:=mod_eq hb
    have f:=sE (l.o.symm.trans c)
    clear hb c
    go_wp2
    go_ret
    exact⟨by rw[f.o];rfl,q⟩
  .have v:¬ (i:Int)<64:=by omega
   have c:decide (M/2 ^ 0=0)=true:=dT ((DF n).2 λ j a b=>k.o j a (by omega))
   have f:=sE (l.o.symm.trans c)
   clear c
   go_wp2
   go_ret
   exact⟨by rw[f.o];rfl,q⟩

theorem DMay_raw(M:Nat)(w:World)(n:M<18446744073709551616):
  Calls prog 198 #[.agg #[.int .u8 4,(0:Int),.int .u64 M]] w (RK (.bool (decide (M/2 ^ 0=0))) w):=by
 obtain⟨r,g⟩:∃ r,decide (M/2 ^ 0=0)=r:=⟨_,rfl⟩
 have l:=sE g
 rw[g]
 clear g
 go_enter func198,ntmps198
 go_wp2_with fail
 obtain⟨w1,d⟩:∃ w1,w1=w.alloc (.cells #[.int .u8 4,(0:Int),.int .u64 M] 106):=⟨_,rfl⟩
 have q:Kp Aa w w1:=by rw[d];exact (Kr _ w).alloc _
 have m:w1.heap[w.heap.size]?=some (.cells #[.int .u8 4,(0:Int),.int .u64 M] 106 (0,0)):=by rw[d];exact wN w _
 have z:w1.cell? ⟨w.heap.size,2,none⟩=some (.int .u64 M):=by simp[World.cell?,m]
 rw[<- d]
 clear d m
 go_loopw [4] (λ y wr=>MayI M 0 w1 y wr) (λ y _=>64-(intOf y).toNat)
 case atStart=>exact ⟨0,Nat.le_refl _,(by omega),rfl,λ j a b=>by omega,rfl⟩
 case round=>
  obtain⟨i,u,A,rfl,p,rfl⟩:=hrel
  have k:=sE p
  clear p
  by_cases hil:i<64
  .have v:(i:Int)<64:=by omega
   by_cases hb:M/2 ^ i%2=0
   .have s:=sE hb
    have x:((((M:Nat):Int)/2 ^ i).tmod 2==1)=false:=mod_ne hb
    clear hb
    go_wp2
    refine⟨⟨i+1,by omega,by omega,by go_num,λ j a b=>?_,rfl⟩,by simp only[intOf];omega⟩
    by_cases e:j=i
    .rw [e];exact s.o
    .exact k.o j a (by omega)
   .have c:decide (M/2 ^ 0=0)=false:=dF (λ t=>hb ((DF n).1 t i u hil))
    have x:((((M:Nat):Int)/2 ^ i).tmod 2==1)=true:=mod_eq hb
    have f:=sE (l.o.symm.trans c)
    clear hb c
    go_wp2
    go_ret
    exact⟨by rw[f.o];rfl,q⟩
  .have v:¬ (i:Int)<64:=by omega
   have c:decide (M/2 ^ 0=0)=true:=dT ((DF n).2 λ j a b=>k.o j a (by omega))
   have f:=sE (l.o.symm.trans c)
   clear c
   go_wp2
   go_ret
   exact⟨by rw[f.o];rfl,q⟩

theorem DMay_any(k wds:Int)(M:Nat)(w:World)(c:M<18446744073709551616):
  Calls prog 198 #[.agg #[.int .u8 k,.int .i64 wds,.int .u64 M]] w (RK (.bool (Dc k wds M)) w):=by
 have b:=(Kr Aa w).alloc (.cells #[.int .u8 k,.int .i64 wds,.int .u64 M] 106)
 have a:∀ W:Nat,W<=64->wds=(W:Nat)->((decide (64<=wds)||decide (M/2 ^ wds.toNat=0))=decide (M/2 ^ W=0)):=by
  rintro W m rfl
  by_cases h:W=64
  .subst h
   rw[Nat.div_eq_of_lt (show M<2 ^ 64 from c)]
   simp
  .have:¬ (64:Int)<=(W:Nat):=by omega
   simp[this]
 by_cases k1:k=1
 .subst k1
  by_cases h1:wds<0
  .have e:Dc 1 wds M=false:=by simp[Dc];omega
   have d:decide (wds<0)=true:=dT h1
   rw[e]
   clear e a
   go_enter func198,ntmps198
   go_wp2
   go_ret
   exact⟨rfl,b⟩
  .by_cases h2:64<wds
   .have e:Dc 1 wds M=false:=by simp[Dc];omega
    have d:decide (wds<0)=false:=dF h1
    have f:decide (64<wds)=true:=dT h2
    rw[e]
    clear e a
    go_enter func198,ntmps198
    go_wp2
    go_ret
    exact⟨rfl,b⟩
   .obtain ⟨W,rfl⟩:=Int.eq_ofNat_of_zero_le (show 0<=wds by omega)
    have e:Dc 1 (W:Nat) M=decide (M/2 ^ W=0):=by
     rw[Dc,a W (by omega) rfl,dT (show (1:Int)=1/\0<=((W:Nat):Int)/\((W:Nat):Int)<=64 by omega)]
     simp
    rw[e]
    exact DMay_fix W M w c (by omega)
 by_cases k3:k=3
 .subst k3
  by_cases h1:wds<1
  .have e:Dc 3 wds M=false:=by simp[Dc];omega
   have d:decide (wds<1)=true:=dT h1
   rw[e]
   clear e a
   go_enter func198,ntmps198
   go_wp2
   go_ret
   exact⟨rfl,b⟩
  .by_cases h2:16<wds
   .have e:Dc 3 wds M=false:=by simp[Dc];omega
    have d:decide (wds<1)=false:=dF h1
    have f:decide (16<wds)=true:=dT h2
    rw[e]
    clear e a
    go_enter func198,ntmps198
    go_wp2
    go_ret
    exact⟨rfl,b⟩
   .obtain ⟨W,rfl⟩:=Int.eq_ofNat_of_zero_le (show 0<=wds by omega)
    have e:Dc 3 (W:Nat) M=decide (M/2 ^ W=0):=by
     rw[Dc,a W (by omega) rfl,dT (show (3:Int)=3/\1<=((W:Nat):Int)/\((W:Nat):Int)<=16 by omega)]
     simp
    rw[e]
    exact DMay_structs W M w c (by omega) (by omega)
 by_cases k24:k=2\/k=4
 .by_cases h1:wds=0
  .subst h1
   have e:Dc k 0 M=decide (M/2 ^ 0=0):=by
    rw[Dc,a 0 (by omega) rfl,dT (show (k=2\/k=4)/\(0:Int)=0 from ⟨k24,rfl⟩)]
    simp
   rw[e]
   rcases k24 with rfl|rfl
   .exact DMay_refs M w c
   .exact DMay_raw M w c
  .have e:Dc k wds M=false:=by simp[Dc];omega
   have d:(wds !=0)=true:=by simpa using h1
   rw[e]
   clear e a
   rcases k24 with rfl|rfl
   .go_enter func198,ntmps198
    go_wp2
    go_ret
    exact⟨rfl,b⟩
   .go_enter func198,ntmps198
    go_wp2
    go_ret
    exact⟨rfl,b⟩
 .have e:Dc k wds M=false:=by simp[Dc];omega
  have g:(k==1)=false:=by simpa using k1
  have i:(k==2)=false:=by simp;omega
  have j:(k==3)=false:=by simpa using k3
  have l:(k==4)=false:=by simp;omega
  rw[e]
  clear e a
  go_enter func198,ntmps198
  go_wp2
  go_ret
  exact⟨rfl,b⟩

def DZ(k wds:Int)(M:Nat)(n:Int)(w:World)(e:Ending)(w':World):Prop:=
 e=.returned (.tuple #[.int .i64 (if AU k wds M n=0 then AZ k wds n else 0),.int .i64 (AU k wds M n)])/\Kp Aa w w'

theorem DSlots_any(k wds:Int)(M:Nat)(n:Int)(w:World)(F:M<18446744073709551616):
  Calls prog 155 #[.agg #[.int .u8 k,.int .i64 wds,.int .u64 M],.int .i64 n] w (DZ k wds M n w):=by
 obtain⟨w1,c⟩:∃ w1,w1=w.alloc (.cells #[.int .u8 k,.int .i64 wds,.int .u64 M] 106):=⟨_,rfl⟩
 have i:Kp Aa w w1:=by rw[c];exact (Kr _ w).alloc _
 have x:w1.heap[w.heap.size]?=some (.cells #[.int .u8 k,.int .i64 wds,.int .u64 M] 106 (0,0)):=by rw[c];exact wN w _
 have f:=sE (DMay_any k wds M w1 F)
 have B:AU k wds M n=0->0<=n/\n<=4096/\(k=1->n=0)/\(k=3->1<=wds/\wds<=16):=λ z=>by
  obtain⟨_,s,t,r,D⟩:=Ec z
  exact⟨s,t,r,λ z=>by omega⟩
 have C:=sE B
 clear B
 have j:=sE x
 clear x
 cases hok:Dc k wds M with
 |false=>
  have e:AU k wds M n=2:=by rw[AU,hok];rfl
  have d:=sE e
  rw[hok] at f
  clear e hok
  go_enter func155,ntmps155
  go_wp2_with fail
  try rw[<- c]
  clear c
  try go_wp2_with fail
  refine f.o.mono ?_
  rintro e w2 ⟨rfl,b⟩
  go_wp2
  exact bodyPost_ret (v:=.tuple #[(0:Int),(2:Int)]) (by simp[results,results155,go_sem]) rfl ⟨by rw[d.o];rfl,i.then' b⟩
 |true=>
  have m:=sE hok
  rw[hok] at f
  clear hok
  by_cases hn:n<0
  .have d:Sl (AU k wds M n=2):=⟨by rw[AU,m.o,dF (show ¬ 0<=n by omega)];rfl⟩
   have E:decide (n<0)=true:=dT hn
   go_enter func155,ntmps155
   go_wp2_with fail
   try rw[<- c]
   clear c
   try go_wp2_with fail
   refine f.o.mono ?_
   rintro e w2 ⟨rfl,b⟩
   have a:=b.at_ j.o id
   have c0:w2.cell? w.heap.size=some (.int .u8 k):=by simp[World.cell?,a]
   have q:w2.cell? ⟨w.heap.size,1,none⟩=some (.int .i64 wds):=by simp[World.cell?,a]
   clear a
   go_wp2
   exact bodyPost_ret (v:=.tuple #[(0:Int),(2:Int)]) (by simp[results,results155,go_sem]) rfl ⟨by rw[d.o];rfl,i.then' b⟩
  have E:decide (n<0)=false:=dF hn
  by_cases hk:k=1
  .subst hk
   by_cases h0:n=0
   .subst h0
    have d:Sl (AU 1 wds M 0=0):=⟨by rw[AU,m.o];rfl⟩
    have p:Sl (AZ 1 wds 0=wds):=⟨by rw[AZ,if_pos rfl]⟩
    go_enter func155,ntmps155
    go_wp2_with fail
    try rw[<- c]
    clear c
    try go_wp2_with fail
    refine f.o.mono ?_
    rintro e w2 ⟨rfl,b⟩
    have a:=b.at_ j.o id
    have c0:w2.cell? w.heap.size=some (.int .u8 1):=by simp[World.cell?,a]
    have q:w2.cell? ⟨w.heap.size,1,none⟩=some (.int .i64 wds):=by simp[World.cell?,a]
    clear a
    go_wp2
    exact bodyPost_ret (v:=.tuple #[.int .i64 wds,(0:Int)]) (by simp[results,results155,go_sem]) rfl ⟨by rw[d.o];rw [if_pos rfl,p.o],i.then' b⟩
   .have d:Sl (AU 1 wds M n=2):=⟨by rw[AU,m.o,dT (show 0<=n by omega),dF h0];rfl⟩
    have y:(n !=0)=true:=by simpa using h0
    go_enter func155,ntmps155
    go_wp2_with fail
    try rw[<- c]
    clear c
    try go_wp2_with fail
    refine f.o.mono ?_
    rintro e w2 ⟨rfl,b⟩
    have a:=b.at_ j.o id
    have c0:w2.cell? w.heap.size=some (.int .u8 1):=by simp[World.cell?,a]
    have q:w2.cell? ⟨w.heap.size,1,none⟩=some (.int .i64 wds):=by simp[World.cell?,a]
    clear a
    go_wp2
    exact bodyPost_ret (v:=.tuple #[(0:Int),(2:Int)]) (by simp[results,results155,go_sem]) rfl ⟨by rw[d.o];rfl,i.then' b⟩
  .have I:(k==1)=false:=by simpa using hk
   by_cases hl:4096<n
   .have d:Sl (AU k wds M n=5):=⟨by rw[AU,m.o,dT (show 0<=n by omega),dT hk,if_pos (by simp),if_pos hl]⟩
    have y:decide (4096<n)=true:=dT hl
    go_enter func155,ntmps155
    go_wp2_with fail
    try rw[<- c]
    clear c
    try go_wp2_with fail
    refine f.o.mono ?_
    rintro e w2 ⟨rfl,b⟩
    have a:=b.at_ j.o id
    have c0:w2.cell? w.heap.size=some (.int .u8 k):=by simp[World.cell?,a]
    have q:w2.cell? ⟨w.heap.size,1,none⟩=some (.int .i64 wds):=by simp[World.cell?,a]
    clear a
    go_wp2
    exact bodyPost_ret (v:=.tuple #[(0:Int),(5:Int)]) (by simp[results,results155,go_sem]) rfl ⟨by rw[d.o];rfl,i.then' b⟩
   .have d:Sl (AU k wds M n=0):=⟨by rw[AU,m.o,dT (show 0<=n by omega),dT hk,if_pos (by simp),if_neg hl]⟩
    have y:decide (4096<n)=false:=dF hl
    by_cases hk3:k=3
    .subst hk3
     have p:Sl (AZ 3 wds n=n*wds):=⟨by rw[AZ,if_neg (by omega),if_pos rfl]⟩
     obtain⟨u,s,t,r⟩:=C.o d.o
     obtain⟨D,H⟩:=r rfl
     obtain⟨l,rfl⟩:=Int.eq_ofNat_of_zero_le u
     obtain⟨g,rfl⟩:=Int.eq_ofNat_of_zero_le (show 0<=wds by omega)
     have G:l*g<=4096*16:=Nat.mul_le_mul (by omega) (by omega)
     have A:((l:Nat):Int)*((g:Nat):Int)=((l*g:Nat):Int):=by push_cast;rfl
     have K:IntKind.i64.wrap (((l:Nat):Int)*((g:Nat):Int))=((l:Nat):Int)*((g:Nat):Int):=by rw[A,IntKind.wrap_i64];omega
     clear t r u s A G
     go_enter func155,ntmps155
     go_wp2_with fail
     try rw[<- c]
     clear c
     try go_wp2_with fail
     refine f.o.mono ?_
     rintro e w2 ⟨rfl,b⟩
     have a:=b.at_ j.o id
     have c0:w2.cell? w.heap.size=some (.int .u8 3):=by simp[World.cell?,a]
     have q:w2.cell? ⟨w.heap.size,1,none⟩=some (.int .i64 g):=by simp[World.cell?,a]
     clear a
     go_wp2
     exact bodyPost_ret (v:=.tuple #[.int .i64 ((l:Int)*(g:Int)),(0:Int)]) (by simp[results,results155,go_sem]) rfl ⟨by rw[d.o];rw [if_pos rfl,p.o],i.then' b⟩
    .have J:(k==3)=false:=by simpa using hk3
     have p:Sl (AZ k wds n=n):=⟨by rw[AZ,if_neg hk,if_neg hk3]⟩
     go_enter func155,ntmps155
     go_wp2_with fail
     try rw[<- c]
     clear c
     try go_wp2_with fail
     refine f.o.mono ?_
     rintro e w2 ⟨rfl,b⟩
     have a:=b.at_ j.o id
     have c0:w2.cell? w.heap.size=some (.int .u8 k):=by simp[World.cell?,a]
     have q:w2.cell? ⟨w.heap.size,1,none⟩=some (.int .i64 wds):=by simp[World.cell?,a]
     clear a
     go_wp2
     exact bodyPost_ret (v:=.tuple #[.int .i64 n,(0:Int)]) (by simp[results,results155,go_sem]) rfl ⟨by rw[d.o];rw [if_pos rfl,p.o],i.then' b⟩

def DSizeI(K:Nat)(w:World)(y:Value)(wr:World):Prop:=∃ g:Nat,y=.int .i64 g/\(g=0\/2*(g-1)<K+1)/\wr=w

theorem DSize_any(k wds:Int)(M:Nat)(n:Int)(w:World)(t:M<18446744073709551616):
  Calls prog 219 #[.agg #[.int .u8 k,.int .i64 wds,.int .u64 M],.int .i64 n] w (SizePost k wds M n w):=by
 obtain⟨w1,c⟩:∃ w1,w1=w.alloc (.cells #[.int .u8 k,.int .i64 wds,.int .u64 M] 106):=⟨_,rfl⟩
 have r:Kp Aa w w1:=by rw[c];exact (Kr _ w).alloc _
 have i:=sE (DSlots_any k wds M n w1 t)
 by_cases a:AU k wds M n=0
 .have q:=Bj a
  obtain⟨K,hK⟩:=Int.eq_ofNat_of_zero_le q.1
  have f:=sE (And.intro a hK)
  have l:Sl (Calls prog 155 #[.agg #[.int .u8 k,.int .i64 wds,.int .u64 M],.int .i64 n] w1 (RK (.tuple #[K,(0:Int)]) w1)):=
   ⟨i.o.mono λ e w' b=>by rw[DZ,if_pos a,a,hK] at b;exact b⟩
  have z:K<=65536:=by omega
  clear a q hK i
  go_enter func219,ntmps219
  go_wp2_with fail
  try rw[<- c]
  clear c
  try go_wp2_with fail
  refine l.o.mono ?_
  rintro e w2 ⟨rfl,m⟩
  go_wp2_with fail
  go_loopw [8] (λ y wr=>DSizeI K w2 y wr) (λ y _=>K+2-(intOf y).toNat)
  case atStart=>exact ⟨0,rfl,.inl rfl,rfl⟩
  case round=>
   obtain⟨g,rfl,A,rfl⟩:=hrel
   by_cases hl:2*g<K+1
   .have x:(g:Int)*2<(K:Int)+1:=by omega
    go_wp2
    exact⟨⟨g+1,by go_num,by omega,rfl⟩,by simp only[intOf];omega⟩
   .have x:¬ (g:Int)*2<(K:Int)+1:=by omega
    have p:FK k wds n=(g:Nat):=by rw[FK,f.o.2];omega
    have s:=sE p
    clear p
    go_wp2
    exact bodyPost_ret (v:=.tuple #[g,(0:Int)]) (by simp[results,results219,go_sem]) rfl ⟨by rw[f.o.1,if_pos rfl,s.o],r.then' m⟩
 .have u:(AU k wds M n !=0)=true:=by simpa using a
  obtain⟨d,j⟩:∃ d,AU k wds M n=d:=⟨_,rfl⟩
  have f:=sE j
  rw[j] at a u
  have l:Sl (Calls prog 155 #[.agg #[.int .u8 k,.int .i64 wds,.int .u64 M],.int .i64 n] w1 (RK (.tuple #[(0:Int),.int .i64 d]) w1)):=
   ⟨i.o.mono λ e w' b=>by rw[DZ,j,if_neg a] at b;exact b⟩
  clear j i
  go_enter func219,ntmps219
  go_wp2_with fail
  try rw[<- c]
  clear c
  try go_wp2_with fail
  refine l.o.mono ?_
  rintro e w2 ⟨rfl,m⟩
  go_wp2
  exact bodyPost_ret (v:=.tuple #[(0:Int),.int .i64 d]) (by simp[results,results219,go_sem]) rfl ⟨by rw[f.o,if_neg a],r.then' m⟩

def Cw(ts:List TypR):Prop:=∀ x∈ts,x.m<18446744073709551616

theorem DGet_none(v:Value)(f:Int)(ts:List TypR)(w:World)(u:A8 w v ts)(s:ts.length<=17592186044416)(o:typeOf ts f=none):
  Calls prog 115 #[v,.int .i64 f] w (FD none w):=by
 obtain⟨a,cap,rfl,t⟩:=u
 have l:=typeOf_none o
 obtain⟨n,m⟩:∃ n,ts.length=n:=⟨_,rfl⟩
 rw[m] at l s ⊢
 obtain⟨d,r⟩:∃ d,decide (f<1)=d:=⟨_,rfl⟩
 have g:d=false->decide ((n:Int)<f)=true:=λ q=>by
  subst q
  have:=of_decide_eq_false r
  exact dT (by omega)
 clear t l o m
 obtain⟨w1,c⟩:∃ w1,w1=w.alloc (.cells #[.int .u8 0,(0:Int),.int .u64 0] 106):=⟨_,rfl⟩
 have p:Kp Aa w w1:=by rw[c];exact (Kr _ w).alloc _
 have b:w1.heap[w.heap.size]?=some (.cells #[.int .u8 0,(0:Int),.int .u64 0] 106 (0,0)):=by rw[c];exact wN w _
 have x:=sE b
 have e:=Ab b
 have f00:=e 0
 have f01:=e 1
 have f02:=e 2
 have i:w1.cell? w.heap.size=some (.int .u8 0):=by simp[World.cell?,b]
 have j:w1.cell? ⟨w.heap.size,1,none⟩=some (.int .i64 0):=by simp[World.cell?,b]
 have k:w1.cell? ⟨w.heap.size,2,none⟩=some (.int .u64 0):=by simp[World.cell?,b]
 have z:w.heap.size<w1.heap.size:=lZ b
 clear b e
 cases d with
 |true=>
  clear g
  go_enter func115,ntmps115
  go_wp2_with fail
  rw[<- c]
  clear c
  go_wp2
  refine bodyPost_ret (v:=.tuple #[AJ 0 0 0,(3:Int)]) (by simp[results,results115,go_sem,i,j,k,AJ]) rfl ⟨rfl,p⟩
 |false=>
  have y:=g rfl
  clear g
  go_enter func115,ntmps115
  go_wp2_with fail
  rw[<- c]
  clear c
  go_wp2
  refine bodyPost_ret (v:=.tuple #[AJ 0 0 0,(3:Int)]) (by simp[results,results115,go_sem,i,j,k,AJ]) rfl ⟨rfl,p⟩

theorem DGet_some(v:Value)(q:Int)(ts:List TypR)(k wds:Int)(m:Nat)(w:World)(t:A8 w v ts)(s:ts.length<=17592186044416)(p:typeOf ts q=some ⟨k,wds,m⟩):
  Calls prog 115 #[v,.int .i64 q] w (FD (some ⟨k,wds,m⟩) w):=by
 obtain⟨a,cap,rfl,l⟩:=t
 obtain⟨i,rfl,g,r⟩:=Es p
 obtain⟨b,o,rfl,A,c0,d,e⟩:=l i _ g
 dsimp only at c0 d e
 obtain⟨n,j⟩:∃ n,ts.length=n:=⟨_,rfl⟩
 rw[j] at r s ⊢
 have B:decide (((i+1:Nat):Int)<1)=false:=dF (by omega)
 have C:decide ((n:Int)<((i+1:Nat):Int))=false:=dF (by omega)
 have D:((i+1:Nat):Int)-1=(i:Nat):=by omega
 clear l p j g
 have f:Kp Aa w (w.alloc (.cells #[.int .u8 0,(0:Int),.int .u64 0] 106)):=(Kr _ w).alloc _
 replace c0:=f.cell c0 (λ c=>c)
 replace d:=f.cell d (λ c=>c)
 replace e:=f.cell e (λ c=>c)
 have u:Kp Aa w (w.alloc (.cells #[.int .u8 k,.int .i64 wds,.int .u64 m] 106)):=(Kr _ w).alloc _
 obtain⟨x,y,z⟩:=new3 w (.int .u8 k) (.int .i64 wds) (.int .u64 m) 106
 go_enter func115,ntmps115
 go_wp2
 refine bodyPost_ret (v:=.tuple #[AJ k wds (m:Nat),(0:Int)]) (by simp[results,results115,go_sem,x,y,z,AJ]) rfl ⟨rfl,u⟩

theorem DGet_any(v:Value)(a:Int)(ts:List TypR)(w:World)(c:A8 w v ts)(b:ts.length<=17592186044416):
  Calls prog 115 #[v,.int .i64 a] w (FD (typeOf ts a) w):=by
 cases hx:typeOf ts a with
 |none=>exact DGet_none v a ts w c b hx
 |some x=>
  obtain⟨k,wds,m⟩:=x
  exact DGet_some v a ts k wds m w c b hx

theorem DTSize_none(v:Value)(a n:Int)(ts:List TypR)(w:World)(d:A8 w v ts)(i:ts.length<=17592186044416)(c:typeOf ts a=none):
  Calls prog 196 #[v,.int .i64 a,.int .i64 n] w (EQ ts a n w):=by
 have b:=DGet_any v a ts w d i
 rw[c] at b
 have f:=sE b
 have g:Sl (AV ts a n=3):=⟨by rw[AV,c]⟩
 clear b c d
 go_enter func196,ntmps196
 go_wp2_with fail
 refine f.o.mono ?_
 rintro e w2 ⟨rfl,j⟩
 dsimp only[AJ,Option.isSome_some,Option.isSome_none]
 go_wp2
 exact bodyPost_ret (v:=.tuple #[(0:Int),(3:Int)]) (by simp[results,results196,go_sem]) rfl ⟨by rw[g.o];rfl,j.alloc _⟩

theorem DTSize_some(v:Value)(a n:Int)(ts:List TypR)(k wds:Int)(m:Nat)(w:World)(l:A8 w v ts)(u:ts.length<=17592186044416)(j:m<18446744073709551616)(b:typeOf ts a=some ⟨k,wds,m⟩):
  Calls prog 196 #[v,.int .i64 a,.int .i64 n] w (EQ ts a n w):=by
 have c:=DGet_any v a ts w l u
 rw[b] at c
 have q:=sE c
 have r:Sl (AV ts a n=AU k wds m n):=⟨by rw[AV,b]⟩
 have t:Sl (BB ts a n=FK k wds n):=⟨by rw[BB,b]⟩
 have i:=λ w=>DSize_any k wds m n w j
 have s:=sE i
 clear c b i j l
 go_enter func196,ntmps196
 go_wp2_with fail
 refine q.o.mono ?_
 rintro e w2 ⟨rfl,x⟩
 dsimp only[AJ,Option.isSome_some,Option.isSome_none]
 go_wp2_with fail
 refine(s.o _).mono ?_
 rintro e z ⟨rfl,y⟩
 obtain⟨S,g⟩:∃ S,(if AU k wds m n=0 then FK k wds n else 0)=S:=⟨_,rfl⟩
 obtain⟨d,f⟩:∃ d,AU k wds m n=d:=⟨_,rfl⟩
 have H1:=sE g
 have p:=sE f
 rw[g,f]
 clear g f
 go_wp2
 exact bodyPost_ret (v:=.tuple #[.int .i64 S,.int .i64 d]) (by simp[results,results196,go_sem]) rfl ⟨by rw[r.o,t.o,H1.o,p.o],(x.alloc _).then' y⟩

theorem typeOf_mem{ts:List TypR}{c:Int}{x:TypR}(a:typeOf ts c=some x):x∈ts:=by
 obtain⟨i,-,b,-⟩:=Es a
 exact List.mem_of_getElem? b

theorem DTSize_any(v:Value)(a n:Int)(ts:List TypR)(w:World)(c:A8 w v ts)(b:ts.length<=17592186044416)(d:Cw ts):
  Calls prog 196 #[v,.int .i64 a,.int .i64 n] w (EQ ts a n w):=by
 cases hx:typeOf ts a with
 |none=>exact DTSize_none v a n ts w c b hx
 |some x=>
  have e:=d x (typeOf_mem hx)
  obtain⟨k,wds,m⟩:=x
  exact DTSize_some v a n ts k wds m w c b e hx

end

section
open Go.RowKit

def Az(l:List Nat):List Value:=l.map λ x=>.int .i64 (x:Nat)

theorem Ar:prog.underlying 24=some (.slice 3):=by kernel_rfl

theorem Be:(prog.info? 3).map (λ i=>(i.zero,i.size,i.bytes))=some (some (.int .i64 0),1,8):=by kernel_rfl

theorem ints_at{w:World}{v:Value}{b:Nat}{x:Nat->Nat->Int}(k:Bw 1 w v b x):∃ a cap,v=.slice a b cap/\∀ i,i<b->∃ g o,a=some ⟨g,o,none⟩/\g<w.heap.size/\w.cell? ⟨g,o+i,none⟩=some (.int .i64 (x i 0))/\-9223372036854775808<=x i 0/\x i 0<=9223372036854775807:=by
 obtain⟨a,cap,rfl,d⟩:=k
 refine⟨a,cap,rfl,λ i j=>?_⟩
 obtain⟨g,o,rfl,e,f⟩:=d i j
 have c:=f 0 (by omega)
 rw[Nat.mul_one,Nat.add_zero] at c
 exact⟨g,o,rfl,e,c⟩

end

end Go.Proofs.YtfkedlgpgmaemaaGreatDoor
