/-
  Lemmas for the laws, together: Kinds.
-/
import Derived.Test.YtfkedlgpgmaemaaGreatDoorQac
import Derived.BigQuiet
import Derived.Maps.Own
import Derived.Maps.OwnSet
import Derived.Deep.RegionHeldLaw
set_option linter.unusedVariables false
set_option maxHeartbeats 16000000
namespace Go.Proofs.YtfkedlgpgmaemaaGreatDoor
open Tryz
section
open Go.RowKit

def AJ(k:Int)(wds:Int)(m:Int):Value:=.agg #[.int .u8 k,.int .i64 wds,.int .u64 m]

def Dc(k wds:Int)(m:Nat):Bool:=
 (decide (k=1/\0<=wds/\wds<=64)||decide (k=3/\1<=wds/\wds<=16)||decide ((k=2\/k=4)/\wds=0))&&(decide (64<=wds)||decide (m/2 ^ wds.toNat=0))

theorem KCheck_else(k wds m:Int)(w:World)(b:¬ k=1)(c:¬ k=2)(d:¬ k=3)(e:¬ k=4):
  Calls prog 190 #[AJ k wds m] w (RK (.int .i64 2) w):=by
 have a:=(Kr Aa w).alloc (.cells #[.int .u8 k,.int .i64 wds,.int .u64 m] 106)
 unfold AJ
 go_enter func190,ntmps190
 go_wp2
 go_ret
 exact⟨rfl,a⟩

theorem div_ne{M W:Nat}(h:M/2 ^ W=0):(((M:Nat):Int)/2 ^ W !=0)=false:=by
 rw[show (((M:Nat):Int)/2 ^ W)=((M/2 ^ W:Nat):Int) by simp,h];rfl

theorem div_ne'{M W:Nat}(h:¬ M/2 ^ W=0):(((M:Nat):Int)/2 ^ W !=0)=true:=by
 rw[show (((M:Nat):Int)/2 ^ W)=((M/2 ^ W:Nat):Int) by simp];simp only[bne_iff_ne,ne_eq];omega

theorem KCheck_1ok(W M:Nat)(w:World)(c:0<=W)(d:W<64)(a:M/2 ^ W=0):
  Calls prog 190 #[AJ 1 W M] w (RK (.int .i64 0) w):=by
 have b:=(Kr Aa w).alloc (.cells #[.int .u8 1,W,.int .u64 M] 106)
 have i:=div_ne a
 have e:¬ (W:Int)<0:=by omega
 have f:¬ (64:Int)<W:=by omega
 have g:(W:Int)<64:=by omega
 clear a
 unfold AJ
 go_enter func190,ntmps190
 go_wp2
 go_ret
 exact⟨rfl,b⟩

theorem KCheck_1no(W M:Nat)(w:World)(c:0<=W)(d:W<64)(a:¬ M/2 ^ W=0):
  Calls prog 190 #[AJ 1 W M] w (RK (.int .i64 2) w):=by
 have b:=(Kr Aa w).alloc (.cells #[.int .u8 1,W,.int .u64 M] 106)
 have i:=div_ne' a
 have e:¬ (W:Int)<0:=by omega
 have f:¬ (64:Int)<W:=by omega
 have g:(W:Int)<64:=by omega
 clear a
 unfold AJ
 go_enter func190,ntmps190
 go_wp2
 go_ret
 exact⟨rfl,b⟩

theorem KCheck_1low(wds m:Int)(w:World)(b:wds<0):
  Calls prog 190 #[AJ 1 wds m] w (RK (.int .i64 2) w):=by
 have a:=(Kr Aa w).alloc (.cells #[.int .u8 1,.int .i64 wds,.int .u64 m] 106)
 unfold AJ
 go_enter func190,ntmps190
 go_wp2
 go_ret
 exact⟨rfl,a⟩

theorem KCheck_1high(wds m:Int)(w:World)(b:64<wds):
  Calls prog 190 #[AJ 1 wds m] w (RK (.int .i64 2) w):=by
 have a:=(Kr Aa w).alloc (.cells #[.int .u8 1,.int .i64 wds,.int .u64 m] 106)
 have c:¬ wds<0:=by omega
 unfold AJ
 go_enter func190,ntmps190
 go_wp2
 go_ret
 exact⟨rfl,a⟩

theorem KCheck_3ok(W M:Nat)(w:World)(c:1<=W)(d:W<17)(a:M/2 ^ W=0):
  Calls prog 190 #[AJ 3 W M] w (RK (.int .i64 0) w):=by
 have b:=(Kr Aa w).alloc (.cells #[.int .u8 3,W,.int .u64 M] 106)
 have i:=div_ne a
 have e:¬ (W:Int)<1:=by omega
 have f:¬ (16:Int)<W:=by omega
 have g:(W:Int)<64:=by omega
 clear a
 unfold AJ
 go_enter func190,ntmps190
 go_wp2
 go_ret
 exact⟨rfl,b⟩

theorem KCheck_3no(W M:Nat)(w:World)(c:1<=W)(d:W<17)(a:¬ M/2 ^ W=0):
  Calls prog 190 #[AJ 3 W M] w (RK (.int .i64 2) w):=by
 have b:=(Kr Aa w).alloc (.cells #[.int .u8 3,W,.int .u64 M] 106)
 have i:=div_ne' a
 have e:¬ (W:Int)<1:=by omega
 have f:¬ (16:Int)<W:=by omega
 have g:(W:Int)<64:=by omega
 clear a
 unfold AJ
 go_enter func190,ntmps190
 go_wp2
 go_ret
 exact⟨rfl,b⟩

theorem KCheck_3low(wds m:Int)(w:World)(b:wds<1):
  Calls prog 190 #[AJ 3 wds m] w (RK (.int .i64 2) w):=by
 have a:=(Kr Aa w).alloc (.cells #[.int .u8 3,.int .i64 wds,.int .u64 m] 106)
 unfold AJ
 go_enter func190,ntmps190
 go_wp2
 go_ret
 exact⟨rfl,a⟩

theorem KCheck_3high(wds m:Int)(w:World)(b:16<wds):
  Calls prog 190 #[AJ 3 wds m] w (RK (.int .i64 2) w):=by
 have a:=(Kr Aa w).alloc (.cells #[.int .u8 3,.int .i64 wds,.int .u64 m] 106)
 have c:¬ wds<1:=by omega
 unfold AJ
 go_enter func190,ntmps190
 go_wp2
 go_ret
 exact⟨rfl,a⟩

theorem KCheck_1full(m:Int)(w:World):
  Calls prog 190 #[AJ 1 64 m] w (RK (.int .i64 0) w):=by
 have a:=(Kr Aa w).alloc (.cells #[.int .u8 1,(64:Int),.int .u64 m] 106)
 unfold AJ
 go_enter func190,ntmps190
 go_wp2
 go_ret
 exact⟨rfl,a⟩

theorem KCheck_2ok(w:World):
  Calls prog 190 #[AJ 2 0 0] w (RK (.int .i64 0) w):=by
 have a:=(Kr Aa w).alloc (.cells #[.int .u8 2,(0:Int),.int .u64 0] 106)
 unfold AJ
 go_enter func190,ntmps190
 go_wp2
 go_ret
 exact⟨rfl,a⟩

theorem KCheck_2no(m:Int)(w:World)(a:¬ m=0):
  Calls prog 190 #[AJ 2 0 m] w (RK (.int .i64 2) w):=by
 have b:=(Kr Aa w).alloc (.cells #[.int .u8 2,(0:Int),.int .u64 m] 106)
 have c:(m !=0)=true:=by simpa using a
 unfold AJ
 go_enter func190,ntmps190
 go_wp2
 go_ret
 exact⟨rfl,b⟩

theorem KCheck_2low(wds m:Int)(w:World)(b:wds<0):
  Calls prog 190 #[AJ 2 wds m] w (RK (.int .i64 2) w):=by
 have a:=(Kr Aa w).alloc (.cells #[.int .u8 2,.int .i64 wds,.int .u64 m] 106)
 unfold AJ
 go_enter func190,ntmps190
 go_wp2
 go_ret
 exact⟨rfl,a⟩

theorem KCheck_2high(wds m:Int)(w:World)(b:0<wds):
  Calls prog 190 #[AJ 2 wds m] w (RK (.int .i64 2) w):=by
 have a:=(Kr Aa w).alloc (.cells #[.int .u8 2,.int .i64 wds,.int .u64 m] 106)
 have c:¬ wds<0:=by omega
 unfold AJ
 go_enter func190,ntmps190
 go_wp2
 go_ret
 exact⟨rfl,a⟩

theorem KCheck_4ok(w:World):
  Calls prog 190 #[AJ 4 0 0] w (RK (.int .i64 0) w):=by
 have a:=(Kr Aa w).alloc (.cells #[.int .u8 4,(0:Int),.int .u64 0] 106)
 unfold AJ
 go_enter func190,ntmps190
 go_wp2
 go_ret
 exact⟨rfl,a⟩

theorem KCheck_4no(m:Int)(w:World)(a:¬ m=0):
  Calls prog 190 #[AJ 4 0 m] w (RK (.int .i64 2) w):=by
 have b:=(Kr Aa w).alloc (.cells #[.int .u8 4,(0:Int),.int .u64 m] 106)
 have c:(m !=0)=true:=by simpa using a
 unfold AJ
 go_enter func190,ntmps190
 go_wp2
 go_ret
 exact⟨rfl,b⟩

theorem KCheck_4low(wds m:Int)(w:World)(b:wds<0):
  Calls prog 190 #[AJ 4 wds m] w (RK (.int .i64 2) w):=by
 have a:=(Kr Aa w).alloc (.cells #[.int .u8 4,.int .i64 wds,.int .u64 m] 106)
 unfold AJ
 go_enter func190,ntmps190
 go_wp2
 go_ret
 exact⟨rfl,a⟩

theorem KCheck_4high(wds m:Int)(w:World)(b:0<wds):
  Calls prog 190 #[AJ 4 wds m] w (RK (.int .i64 2) w):=by
 have a:=(Kr Aa w).alloc (.cells #[.int .u8 4,.int .i64 wds,.int .u64 m] 106)
 have c:¬ wds<0:=by omega
 unfold AJ
 go_enter func190,ntmps190
 go_wp2
 go_ret
 exact⟨rfl,a⟩

theorem Dt(k wds:Int)(M:Nat)(w:World):
  Calls prog 190 #[AJ k wds M] w (RK (.int .i64 (errV (Dc k wds M))) w):=by
 have b:Dc k wds M=true->errV (Dc k wds M)=0:=λ c=>by rw[c];rfl
 have a:Dc k wds M=false->errV (Dc k wds M)=2:=λ c=>by rw[c];rfl
 by_cases k1:k=1
 .subst k1
  by_cases h1:wds<0
  .rw [a (by simp[Dc];omega)];exact KCheck_1low wds M w h1
  by_cases h2:64<wds
  .rw [a (by simp[Dc];omega)];exact KCheck_1high wds M w h2
  by_cases h3:wds=64
  .subst h3
   rw[b (by simp[Dc])];exact KCheck_1full M w
  obtain⟨W,rfl⟩:=Int.eq_ofNat_of_zero_le (show 0<=wds by omega)
  by_cases h4:M/2 ^ W=0
  .rw [b (by simp[Dc,h4];omega)];exact KCheck_1ok W M w (by omega) (by omega) h4
  .rw [a (by simp only[Dc,Int.toNat_natCast,dF h4,Bool.or_false,dF (show ¬ (64:Int)<=W by omega),Bool.and_false])];exact KCheck_1no W M w (by omega) (by omega) h4
 by_cases k3:k=3
 .subst k3
  by_cases h1:wds<1
  .rw [a (by simp[Dc];omega)];exact KCheck_3low wds M w h1
  by_cases h2:16<wds
  .rw [a (by simp[Dc];omega)];exact KCheck_3high wds M w h2
  obtain⟨W,rfl⟩:=Int.eq_ofNat_of_zero_le (show 0<=wds by omega)
  by_cases h4:M/2 ^ W=0
  .rw [b (by simp[Dc,h4];omega)];exact KCheck_3ok W M w (by omega) (by omega) h4
  .rw [a (by simp only[Dc,Int.toNat_natCast,dF h4,Bool.or_false,dF (show ¬ (64:Int)<=W by omega),Bool.and_false])];exact KCheck_3no W M w (by omega) (by omega) h4
 by_cases k2:k=2
 .subst k2
  by_cases h1:wds<0
  .rw [a (by simp[Dc];omega)];exact KCheck_2low wds M w h1
  by_cases h2:0<wds
  .rw [a (by simp[Dc];omega)];exact KCheck_2high wds M w h2
  obtain rfl:wds=0:=by omega
  by_cases h4:M=0
  .subst h4
   rw[b (by decide)];exact KCheck_2ok w
  .rw [a (by simp[Dc,h4])];exact KCheck_2no M w (by omega)
 by_cases k4:k=4
 .subst k4
  by_cases h1:wds<0
  .rw [a (by simp[Dc];omega)];exact KCheck_4low wds M w h1
  by_cases h2:0<wds
  .rw [a (by simp[Dc];omega)];exact KCheck_4high wds M w h2
  obtain rfl:wds=0:=by omega
  by_cases h4:M=0
  .subst h4
   rw[b (by decide)];exact KCheck_4ok w
  .rw [a (by simp[Dc,h4])];exact KCheck_4no M w (by omega)
 rw[a (by simp[Dc,k1,k2,k3,k4])];exact KCheck_else k wds M w k1 k2 k3 k4

def BU(k wds m n:Int):Value:=.agg #[.int .u8 k,.int .i64 wds,.int .u64 m,.int .i64 n]

theorem Kof_ok(k wds:Int)(M:Nat)(n:Int)(w:World)(t:Dc k wds M=true)(L:0<=n)(N:¬ k=1)(O:n<=4096):
  Calls prog 210 #[AJ k wds M,.int .i64 n] w (RK (.tuple #[BU k wds (M:Nat) n,(0:Int)]) w):=by
 have g:=λ w=>Dt k wds M w
 rw[t] at g
 unfold AJ at g ⊢
 have x:=sE g
 clear g t
 obtain⟨w1,d⟩:∃ w1,w1=(w.alloc (.cells #[.int .u8 k,.int .i64 wds,.int .u64 M] 106)).alloc (.cells #[.int .u8 0,(0:Int),.int .u64 0,(0:Int)] 302):=⟨_,rfl⟩
 have D:Kp Aa w w1:=by rw[d];exact ((Kr _ w).alloc _).alloc _
 have q:w1.heap[w.heap.size]?=some (.cells #[.int .u8 k,.int .i64 wds,.int .u64 M] 106 (0,0)):=by
  rw[d];exact ((Kr Aa _).alloc _).at_ (wN w _) id
 have r:w1.heap[w.heap.size+1]?=some (.cells #[.int .u8 0,(0:Int),.int .u64 0,(0:Int)] 302 (0,0)):=by
  rw[d];have:=wN (w.alloc (.cells #[.int .u8 k,.int .i64 wds,.int .u64 M] 106)) (.cells #[.int .u8 0,(0:Int),.int .u64 0,(0:Int)] 302);rwa [World.size_alloc] at this
 go_enter func210,ntmps210
 go_wp2_with fail
 rw[<- d]
 clear d
 refine(x.o w1).mono ?_
 rintro e w2 ⟨rfl,p⟩
 have f:=p.at_ q id
 have b:=p.at_ r id
 have c0:w2.cell? w.heap.size=some (.int .u8 k):=by simp[World.cell?,f]
 have F:w2.cell? ⟨w.heap.size,1,none⟩=some (.int .i64 wds):=by simp[World.cell?,f]
 have G:w2.cell? ⟨w.heap.size,2,none⟩=some (.int .u64 M):=by simp[World.cell?,f]
 have H:w2.cell? ⟨w.heap.size+1,0,none⟩=some (.int .u8 0):=by simp[World.cell?,b]
 have I:w2.cell? ⟨w.heap.size+1,1,none⟩=some (.int .i64 0):=by simp[World.cell?,b]
 have J:w2.cell? ⟨w.heap.size+1,2,none⟩=some (.int .u64 0):=by simp[World.cell?,b]
 have K:w2.cell? ⟨w.heap.size+1,3,none⟩=some (.int .i64 0):=by simp[World.cell?,b]
 have c:=Ab b
 have f00:=c 0
 have f01:=c 1
 have f02:=c 2
 have f03:=c 3
 have E:=D.trans p (λ _ _ s=>s)
 have u:=sE b
 clear q r f b c
 go_wp2
 obtain⟨a,l⟩:∃ a,a=((((w2.setCell ⟨w.heap.size+1,0,none⟩ (.int .u8 k)).setCell ⟨w.heap.size+1,1,none⟩ (.int .i64 wds)).setCell ⟨w.heap.size+1,2,none⟩ (.int .u64 M)).setCell ⟨w.heap.size+1,3,none⟩ (.int .i64 n)):=⟨_,rfl⟩
 rw[<- l]
 have m:a.heap[w.heap.size+1]?=some (.cells #[.int .u8 k,.int .i64 wds,.int .u64 M,.int .i64 n] 302 (0,0)):=by
  rw[l];exact bZ (bZ (bZ (bZ u.o (j:=0) _) (j:=1) _) (j:=2) _) (j:=3) _
 have C:Kp (λ i=>i=w.heap.size+1) w2 a:=by rw[l];exact ((((Kr (λ i=>i=w.heap.size+1) w2).setCell (λ _=>rfl) _).setCell (λ _=>rfl) _).setCell (λ _=>rfl) _).setCell (λ _=>rfl) _
 clear l
 have y:a.cell? ⟨w.heap.size+1,0,none⟩=some (.int .u8 k):=by simp[World.cell?,m]
 have z:a.cell? ⟨w.heap.size+1,1,none⟩=some (.int .i64 wds):=by simp[World.cell?,m]
 have A:a.cell? ⟨w.heap.size+1,2,none⟩=some (.int .u64 M):=by simp[World.cell?,m]
 have B:a.cell? ⟨w.heap.size+1,3,none⟩=some (.int .i64 n):=by simp[World.cell?,m]
 refine bodyPost_ret (v:=.tuple #[BU k wds (M:Nat) n,(0:Int)]) ?_ rfl ⟨rfl,E.trans C (λ i P s=>by omega)⟩
 simp[results,results210,go_sem,y,z,A,B,BU]

theorem Kof_ok1(wds:Int)(M:Nat)(n:Int)(w:World)(s:Dc 1 wds M=true):
  Calls prog 210 #[AJ 1 wds M,(0:Int)] w (RK (.tuple #[BU 1 wds (M:Nat) 0,(0:Int)]) w):=by
 have g:=λ w=>Dt 1 wds M w
 rw[s] at g
 unfold AJ at g ⊢
 have u:=sE g
 clear g s
 obtain⟨w1,d⟩:∃ w1,w1=(w.alloc (.cells #[.int .u8 1,.int .i64 wds,.int .u64 M] 106)).alloc (.cells #[.int .u8 0,(0:Int),.int .u64 0,(0:Int)] 302):=⟨_,rfl⟩
 have C:Kp Aa w w1:=by rw[d];exact ((Kr _ w).alloc _).alloc _
 have p:w1.heap[w.heap.size]?=some (.cells #[.int .u8 1,.int .i64 wds,.int .u64 M] 106 (0,0)):=by
  rw[d];exact ((Kr Aa _).alloc _).at_ (wN w _) id
 have q:w1.heap[w.heap.size+1]?=some (.cells #[.int .u8 0,(0:Int),.int .u64 0,(0:Int)] 302 (0,0)):=by
  rw[d];have:=wN (w.alloc (.cells #[.int .u8 1,.int .i64 wds,.int .u64 M] 106)) (.cells #[.int .u8 0,(0:Int),.int .u64 0,(0:Int)] 302);rwa [World.size_alloc] at this
 go_enter func210,ntmps210
 go_wp2_with fail
 rw[<- d]
 clear d
 refine(u.o w1).mono ?_
 rintro e w2 ⟨rfl,m⟩
 have f:=m.at_ p id
 have b:=m.at_ q id
 have c0:w2.cell? w.heap.size=some (.int .u8 1):=by simp[World.cell?,f]
 have E:w2.cell? ⟨w.heap.size,1,none⟩=some (.int .i64 wds):=by simp[World.cell?,f]
 have F:w2.cell? ⟨w.heap.size,2,none⟩=some (.int .u64 M):=by simp[World.cell?,f]
 have G:w2.cell? ⟨w.heap.size+1,0,none⟩=some (.int .u8 0):=by simp[World.cell?,b]
 have H:w2.cell? ⟨w.heap.size+1,1,none⟩=some (.int .i64 0):=by simp[World.cell?,b]
 have I:w2.cell? ⟨w.heap.size+1,2,none⟩=some (.int .u64 0):=by simp[World.cell?,b]
 have J:w2.cell? ⟨w.heap.size+1,3,none⟩=some (.int .i64 0):=by simp[World.cell?,b]
 have c:=Ab b
 have f00:=c 0
 have f01:=c 1
 have f02:=c 2
 have f03:=c 3
 have D:=C.trans m (λ _ _ r=>r)
 have t:=sE b
 clear p q f b c
 go_wp2
 obtain⟨a,k⟩:∃ a,a=((((w2.setCell ⟨w.heap.size+1,0,none⟩ (.int .u8 1)).setCell ⟨w.heap.size+1,1,none⟩ (.int .i64 wds)).setCell ⟨w.heap.size+1,2,none⟩ (.int .u64 M)).setCell ⟨w.heap.size+1,3,none⟩ (.int .i64 0)):=⟨_,rfl⟩
 rw[<- k]
 have l:a.heap[w.heap.size+1]?=some (.cells #[.int .u8 1,.int .i64 wds,.int .u64 M,(0:Int)] 302 (0,0)):=by
  rw[k];exact bZ (bZ (bZ (bZ t.o (j:=0) _) (j:=1) _) (j:=2) _) (j:=3) _
 have B:Kp (λ i=>i=w.heap.size+1) w2 a:=by rw[k];exact ((((Kr (λ i=>i=w.heap.size+1) w2).setCell (λ _=>rfl) _).setCell (λ _=>rfl) _).setCell (λ _=>rfl) _).setCell (λ _=>rfl) _
 clear k
 have x:a.cell? ⟨w.heap.size+1,0,none⟩=some (.int .u8 1):=by simp[World.cell?,l]
 have y:a.cell? ⟨w.heap.size+1,1,none⟩=some (.int .i64 wds):=by simp[World.cell?,l]
 have z:a.cell? ⟨w.heap.size+1,2,none⟩=some (.int .u64 M):=by simp[World.cell?,l]
 have A:a.cell? ⟨w.heap.size+1,3,none⟩=some (.int .i64 0):=by simp[World.cell?,l]
 refine bodyPost_ret (v:=.tuple #[BU 1 wds (M:Nat) 0,(0:Int)]) ?_ rfl ⟨rfl,D.trans B (λ i K r=>by omega)⟩
 simp[results,results210,go_sem,x,y,z,A,BU]

theorem Kof_bad(k wds:Int)(M:Nat)(n:Int)(w:World)(t:Dc k wds M=false):
  Calls prog 210 #[AJ k wds M,.int .i64 n] w (RK (.tuple #[BU 0 0 0 0,(2:Int)]) w):=by
 have g:=λ w=>Dt k wds M w
 rw[t] at g
 unfold AJ at g ⊢
 have x:=sE g
 clear g t
 obtain⟨w1,d⟩:∃ w1,w1=(w.alloc (.cells #[.int .u8 k,.int .i64 wds,.int .u64 M] 106)).alloc (.cells #[.int .u8 0,(0:Int),.int .u64 0,(0:Int)] 302):=⟨_,rfl⟩
 have D:Kp Aa w w1:=by rw[d];exact ((Kr _ w).alloc _).alloc _
 have q:w1.heap[w.heap.size]?=some (.cells #[.int .u8 k,.int .i64 wds,.int .u64 M] 106 (0,0)):=by
  rw[d];exact ((Kr Aa _).alloc _).at_ (wN w _) id
 have r:w1.heap[w.heap.size+1]?=some (.cells #[.int .u8 0,(0:Int),.int .u64 0,(0:Int)] 302 (0,0)):=by
  rw[d];have:=wN (w.alloc (.cells #[.int .u8 k,.int .i64 wds,.int .u64 M] 106)) (.cells #[.int .u8 0,(0:Int),.int .u64 0,(0:Int)] 302);rwa [World.size_alloc] at this
 go_enter func210,ntmps210
 go_wp2_with fail
 rw[<- d]
 clear d
 refine(x.o w1).mono ?_
 rintro e w2 ⟨rfl,p⟩
 have f:=p.at_ q id
 have b:=p.at_ r id
 have c0:w2.cell? w.heap.size=some (.int .u8 k):=by simp[World.cell?,f]
 have F:w2.cell? ⟨w.heap.size,1,none⟩=some (.int .i64 wds):=by simp[World.cell?,f]
 have G:w2.cell? ⟨w.heap.size,2,none⟩=some (.int .u64 M):=by simp[World.cell?,f]
 have H:w2.cell? ⟨w.heap.size+1,0,none⟩=some (.int .u8 0):=by simp[World.cell?,b]
 have I:w2.cell? ⟨w.heap.size+1,1,none⟩=some (.int .i64 0):=by simp[World.cell?,b]
 have J:w2.cell? ⟨w.heap.size+1,2,none⟩=some (.int .u64 0):=by simp[World.cell?,b]
 have K:w2.cell? ⟨w.heap.size+1,3,none⟩=some (.int .i64 0):=by simp[World.cell?,b]
 have c:=Ab b
 have f00:=c 0
 have f01:=c 1
 have f02:=c 2
 have f03:=c 3
 have E:=D.trans p (λ _ _ s=>s)
 have u:=sE b
 clear q r f b c
 go_wp2
 obtain⟨a,l⟩:∃ a,a=((((w2.setCell ⟨w.heap.size+1,0,none⟩ (.int .u8 0)).setCell ⟨w.heap.size+1,1,none⟩ (.int .i64 0)).setCell ⟨w.heap.size+1,2,none⟩ (.int .u64 0)).setCell ⟨w.heap.size+1,3,none⟩ (.int .i64 0)):=⟨_,rfl⟩
 rw[<- l]
 have m:a.heap[w.heap.size+1]?=some (.cells #[.int .u8 0,(0:Int),.int .u64 0,(0:Int)] 302 (0,0)):=by
  rw[l];exact bZ (bZ (bZ (bZ u.o (j:=0) _) (j:=1) _) (j:=2) _) (j:=3) _
 have C:Kp (λ i=>i=w.heap.size+1) w2 a:=by rw[l];exact ((((Kr (λ i=>i=w.heap.size+1) w2).setCell (λ _=>rfl) _).setCell (λ _=>rfl) _).setCell (λ _=>rfl) _).setCell (λ _=>rfl) _
 clear l
 have y:a.cell? ⟨w.heap.size+1,0,none⟩=some (.int .u8 0):=by simp[World.cell?,m]
 have z:a.cell? ⟨w.heap.size+1,1,none⟩=some (.int .i64 0):=by simp[World.cell?,m]
 have A:a.cell? ⟨w.heap.size+1,2,none⟩=some (.int .u64 0):=by simp[World.cell?,m]
 have B:a.cell? ⟨w.heap.size+1,3,none⟩=some (.int .i64 0):=by simp[World.cell?,m]
 refine bodyPost_ret (v:=.tuple #[BU 0 0 0 0,(2:Int)]) ?_ rfl ⟨rfl,E.trans C (λ i L s=>by omega)⟩
 simp[results,results210,go_sem,y,z,A,B,BU]

theorem Kof_neg(k wds:Int)(M:Nat)(n:Int)(w:World)(t:Dc k wds M=true)(L:n<0):
  Calls prog 210 #[AJ k wds M,.int .i64 n] w (RK (.tuple #[BU 0 0 0 0,(2:Int)]) w):=by
 have g:=λ w=>Dt k wds M w
 rw[t] at g
 unfold AJ at g ⊢
 have x:=sE g
 clear g t
 obtain⟨w1,d⟩:∃ w1,w1=(w.alloc (.cells #[.int .u8 k,.int .i64 wds,.int .u64 M] 106)).alloc (.cells #[.int .u8 0,(0:Int),.int .u64 0,(0:Int)] 302):=⟨_,rfl⟩
 have D:Kp Aa w w1:=by rw[d];exact ((Kr _ w).alloc _).alloc _
 have q:w1.heap[w.heap.size]?=some (.cells #[.int .u8 k,.int .i64 wds,.int .u64 M] 106 (0,0)):=by
  rw[d];exact ((Kr Aa _).alloc _).at_ (wN w _) id
 have r:w1.heap[w.heap.size+1]?=some (.cells #[.int .u8 0,(0:Int),.int .u64 0,(0:Int)] 302 (0,0)):=by
  rw[d];have:=wN (w.alloc (.cells #[.int .u8 k,.int .i64 wds,.int .u64 M] 106)) (.cells #[.int .u8 0,(0:Int),.int .u64 0,(0:Int)] 302);rwa [World.size_alloc] at this
 go_enter func210,ntmps210
 go_wp2_with fail
 rw[<- d]
 clear d
 refine(x.o w1).mono ?_
 rintro e w2 ⟨rfl,p⟩
 have f:=p.at_ q id
 have b:=p.at_ r id
 have c0:w2.cell? w.heap.size=some (.int .u8 k):=by simp[World.cell?,f]
 have F:w2.cell? ⟨w.heap.size,1,none⟩=some (.int .i64 wds):=by simp[World.cell?,f]
 have G:w2.cell? ⟨w.heap.size,2,none⟩=some (.int .u64 M):=by simp[World.cell?,f]
 have H:w2.cell? ⟨w.heap.size+1,0,none⟩=some (.int .u8 0):=by simp[World.cell?,b]
 have I:w2.cell? ⟨w.heap.size+1,1,none⟩=some (.int .i64 0):=by simp[World.cell?,b]
 have J:w2.cell? ⟨w.heap.size+1,2,none⟩=some (.int .u64 0):=by simp[World.cell?,b]
 have K:w2.cell? ⟨w.heap.size+1,3,none⟩=some (.int .i64 0):=by simp[World.cell?,b]
 have c:=Ab b
 have f00:=c 0
 have f01:=c 1
 have f02:=c 2
 have f03:=c 3
 have E:=D.trans p (λ _ _ s=>s)
 have u:=sE b
 clear q r f b c
 go_wp2
 obtain⟨a,l⟩:∃ a,a=((((w2.setCell ⟨w.heap.size+1,0,none⟩ (.int .u8 0)).setCell ⟨w.heap.size+1,1,none⟩ (.int .i64 0)).setCell ⟨w.heap.size+1,2,none⟩ (.int .u64 0)).setCell ⟨w.heap.size+1,3,none⟩ (.int .i64 0)):=⟨_,rfl⟩
 rw[<- l]
 have m:a.heap[w.heap.size+1]?=some (.cells #[.int .u8 0,(0:Int),.int .u64 0,(0:Int)] 302 (0,0)):=by
  rw[l];exact bZ (bZ (bZ (bZ u.o (j:=0) _) (j:=1) _) (j:=2) _) (j:=3) _
 have C:Kp (λ i=>i=w.heap.size+1) w2 a:=by rw[l];exact ((((Kr (λ i=>i=w.heap.size+1) w2).setCell (λ _=>rfl) _).setCell (λ _=>rfl) _).setCell (λ _=>rfl) _).setCell (λ _=>rfl) _
 clear l
 have y:a.cell? ⟨w.heap.size+1,0,none⟩=some (.int .u8 0):=by simp[World.cell?,m]
 have z:a.cell? ⟨w.heap.size+1,1,none⟩=some (.int .i64 0):=by simp[World.cell?,m]
 have A:a.cell? ⟨w.heap.size+1,2,none⟩=some (.int .u64 0):=by simp[World.cell?,m]
 have B:a.cell? ⟨w.heap.size+1,3,none⟩=some (.int .i64 0):=by simp[World.cell?,m]
 refine bodyPost_ret (v:=.tuple #[BU 0 0 0 0,(2:Int)]) ?_ rfl ⟨rfl,E.trans C (λ i N s=>by omega)⟩
 simp[results,results210,go_sem,y,z,A,B,BU]

theorem Kof_fix(wds:Int)(M:Nat)(n:Int)(w:World)(s:Dc 1 wds M=true)(L:0<=n)(B:¬ n=0):
  Calls prog 210 #[AJ 1 wds M,.int .i64 n] w (RK (.tuple #[BU 0 0 0 0,(2:Int)]) w):=by
 have N:(n !=0)=true:=by simpa using B
 have g:=λ w=>Dt 1 wds M w
 rw[s] at g
 unfold AJ at g ⊢
 have u:=sE g
 clear g s
 obtain⟨w1,d⟩:∃ w1,w1=(w.alloc (.cells #[.int .u8 1,.int .i64 wds,.int .u64 M] 106)).alloc (.cells #[.int .u8 0,(0:Int),.int .u64 0,(0:Int)] 302):=⟨_,rfl⟩
 have D:Kp Aa w w1:=by rw[d];exact ((Kr _ w).alloc _).alloc _
 have p:w1.heap[w.heap.size]?=some (.cells #[.int .u8 1,.int .i64 wds,.int .u64 M] 106 (0,0)):=by
  rw[d];exact ((Kr Aa _).alloc _).at_ (wN w _) id
 have q:w1.heap[w.heap.size+1]?=some (.cells #[.int .u8 0,(0:Int),.int .u64 0,(0:Int)] 302 (0,0)):=by
  rw[d];have:=wN (w.alloc (.cells #[.int .u8 1,.int .i64 wds,.int .u64 M] 106)) (.cells #[.int .u8 0,(0:Int),.int .u64 0,(0:Int)] 302);rwa [World.size_alloc] at this
 go_enter func210,ntmps210
 go_wp2_with fail
 rw[<- d]
 clear d
 refine(u.o w1).mono ?_
 rintro e w2 ⟨rfl,m⟩
 have f:=m.at_ p id
 have b:=m.at_ q id
 have c0:w2.cell? w.heap.size=some (.int .u8 1):=by simp[World.cell?,f]
 have F:w2.cell? ⟨w.heap.size,1,none⟩=some (.int .i64 wds):=by simp[World.cell?,f]
 have G:w2.cell? ⟨w.heap.size,2,none⟩=some (.int .u64 M):=by simp[World.cell?,f]
 have H:w2.cell? ⟨w.heap.size+1,0,none⟩=some (.int .u8 0):=by simp[World.cell?,b]
 have I:w2.cell? ⟨w.heap.size+1,1,none⟩=some (.int .i64 0):=by simp[World.cell?,b]
 have J:w2.cell? ⟨w.heap.size+1,2,none⟩=some (.int .u64 0):=by simp[World.cell?,b]
 have K:w2.cell? ⟨w.heap.size+1,3,none⟩=some (.int .i64 0):=by simp[World.cell?,b]
 have c:=Ab b
 have f00:=c 0
 have f01:=c 1
 have f02:=c 2
 have f03:=c 3
 have E:=D.trans m (λ _ _ r=>r)
 have t:=sE b
 clear p q f b c
 go_wp2
 obtain⟨a,k⟩:∃ a,a=((((w2.setCell ⟨w.heap.size+1,0,none⟩ (.int .u8 0)).setCell ⟨w.heap.size+1,1,none⟩ (.int .i64 0)).setCell ⟨w.heap.size+1,2,none⟩ (.int .u64 0)).setCell ⟨w.heap.size+1,3,none⟩ (.int .i64 0)):=⟨_,rfl⟩
 rw[<- k]
 have l:a.heap[w.heap.size+1]?=some (.cells #[.int .u8 0,(0:Int),.int .u64 0,(0:Int)] 302 (0,0)):=by
  rw[k];exact bZ (bZ (bZ (bZ t.o (j:=0) _) (j:=1) _) (j:=2) _) (j:=3) _
 have C:Kp (λ i=>i=w.heap.size+1) w2 a:=by rw[k];exact ((((Kr (λ i=>i=w.heap.size+1) w2).setCell (λ _=>rfl) _).setCell (λ _=>rfl) _).setCell (λ _=>rfl) _).setCell (λ _=>rfl) _
 clear k
 have x:a.cell? ⟨w.heap.size+1,0,none⟩=some (.int .u8 0):=by simp[World.cell?,l]
 have y:a.cell? ⟨w.heap.size+1,1,none⟩=some (.int .i64 0):=by simp[World.cell?,l]
 have z:a.cell? ⟨w.heap.size+1,2,none⟩=some (.int .u64 0):=by simp[World.cell?,l]
 have A:a.cell? ⟨w.heap.size+1,3,none⟩=some (.int .i64 0):=by simp[World.cell?,l]
 refine bodyPost_ret (v:=.tuple #[BU 0 0 0 0,(2:Int)]) ?_ rfl ⟨rfl,E.trans C (λ i O r=>by omega)⟩
 simp[results,results210,go_sem,x,y,z,A,BU]

theorem Kof_long(k wds:Int)(M:Nat)(n:Int)(w:World)(t:Dc k wds M=true)(L:0<=n)(N:¬ k=1)(O:4096<n):
  Calls prog 210 #[AJ k wds M,.int .i64 n] w (RK (.tuple #[BU 0 0 0 0,(5:Int)]) w):=by
 have g:=λ w=>Dt k wds M w
 rw[t] at g
 unfold AJ at g ⊢
 have x:=sE g
 clear g t
 obtain⟨w1,d⟩:∃ w1,w1=(w.alloc (.cells #[.int .u8 k,.int .i64 wds,.int .u64 M] 106)).alloc (.cells #[.int .u8 0,(0:Int),.int .u64 0,(0:Int)] 302):=⟨_,rfl⟩
 have D:Kp Aa w w1:=by rw[d];exact ((Kr _ w).alloc _).alloc _
 have q:w1.heap[w.heap.size]?=some (.cells #[.int .u8 k,.int .i64 wds,.int .u64 M] 106 (0,0)):=by
  rw[d];exact ((Kr Aa _).alloc _).at_ (wN w _) id
 have r:w1.heap[w.heap.size+1]?=some (.cells #[.int .u8 0,(0:Int),.int .u64 0,(0:Int)] 302 (0,0)):=by
  rw[d];have:=wN (w.alloc (.cells #[.int .u8 k,.int .i64 wds,.int .u64 M] 106)) (.cells #[.int .u8 0,(0:Int),.int .u64 0,(0:Int)] 302);rwa [World.size_alloc] at this
 go_enter func210,ntmps210
 go_wp2_with fail
 rw[<- d]
 clear d
 refine(x.o w1).mono ?_
 rintro e w2 ⟨rfl,p⟩
 have f:=p.at_ q id
 have b:=p.at_ r id
 have c0:w2.cell? w.heap.size=some (.int .u8 k):=by simp[World.cell?,f]
 have F:w2.cell? ⟨w.heap.size,1,none⟩=some (.int .i64 wds):=by simp[World.cell?,f]
 have G:w2.cell? ⟨w.heap.size,2,none⟩=some (.int .u64 M):=by simp[World.cell?,f]
 have H:w2.cell? ⟨w.heap.size+1,0,none⟩=some (.int .u8 0):=by simp[World.cell?,b]
 have I:w2.cell? ⟨w.heap.size+1,1,none⟩=some (.int .i64 0):=by simp[World.cell?,b]
 have J:w2.cell? ⟨w.heap.size+1,2,none⟩=some (.int .u64 0):=by simp[World.cell?,b]
 have K:w2.cell? ⟨w.heap.size+1,3,none⟩=some (.int .i64 0):=by simp[World.cell?,b]
 have c:=Ab b
 have f00:=c 0
 have f01:=c 1
 have f02:=c 2
 have f03:=c 3
 have E:=D.trans p (λ _ _ s=>s)
 have u:=sE b
 clear q r f b c
 go_wp2
 obtain⟨a,l⟩:∃ a,a=((((w2.setCell ⟨w.heap.size+1,0,none⟩ (.int .u8 0)).setCell ⟨w.heap.size+1,1,none⟩ (.int .i64 0)).setCell ⟨w.heap.size+1,2,none⟩ (.int .u64 0)).setCell ⟨w.heap.size+1,3,none⟩ (.int .i64 0)):=⟨_,rfl⟩
 rw[<- l]
 have m:a.heap[w.heap.size+1]?=some (.cells #[.int .u8 0,(0:Int),.int .u64 0,(0:Int)] 302 (0,0)):=by
  rw[l];exact bZ (bZ (bZ (bZ u.o (j:=0) _) (j:=1) _) (j:=2) _) (j:=3) _
 have C:Kp (λ i=>i=w.heap.size+1) w2 a:=by rw[l];exact ((((Kr (λ i=>i=w.heap.size+1) w2).setCell (λ _=>rfl) _).setCell (λ _=>rfl) _).setCell (λ _=>rfl) _).setCell (λ _=>rfl) _
 clear l
 have y:a.cell? ⟨w.heap.size+1,0,none⟩=some (.int .u8 0):=by simp[World.cell?,m]
 have z:a.cell? ⟨w.heap.size+1,1,none⟩=some (.int .i64 0):=by simp[World.cell?,m]
 have A:a.cell? ⟨w.heap.size+1,2,none⟩=some (.int .u64 0):=by simp[World.cell?,m]
 have B:a.cell? ⟨w.heap.size+1,3,none⟩=some (.int .i64 0):=by simp[World.cell?,m]
 refine bodyPost_ret (v:=.tuple #[BU 0 0 0 0,(5:Int)]) ?_ rfl ⟨rfl,E.trans C (λ i P s=>by omega)⟩
 simp[results,results210,go_sem,y,z,A,B,BU]

def AU(k wds:Int)(M:Nat)(n:Int):Int:=if Dc k wds M&&decide (0<=n)&&(decide (¬ k=1)||decide (n=0)) then (if 4096<n then 5 else 0) else 2

def OfPost(k wds:Int)(M:Nat)(n:Int)(w:World)(e:Ending)(w':World):Prop:=
 ∃ v,e=.returned (.tuple #[v,.int .i64 (AU k wds M n)])/\(v=BU k wds M n\/v=BU 0 0 0 0)/\(AU k wds M n=0->v=BU k wds M n)/\Kp Aa w w'

theorem Kof_any(k wds:Int)(M:Nat)(n:Int)(w:World):Calls prog 210 #[AJ k wds M,.int .i64 n] w (OfPost k wds M n w):=by
 have f:AU k wds M n=0->(Calls prog 210 #[AJ k wds M,.int .i64 n] w (RK (.tuple #[BU k wds M n,(0:Int)]) w))->Calls prog 210 #[AJ k wds M,.int .i64 n] w (OfPost k wds M n w):=λ b c=>c.mono λ e w' ⟨a,h2⟩=>⟨_,by rw[b,a],.inl rfl,λ _=>rfl,h2⟩
 have d:∀ x:Int,x≠0->AU k wds M n=x->(Calls prog 210 #[AJ k wds M,.int .i64 n] w (RK (.tuple #[BU 0 0 0 0,.int .i64 x]) w))->Calls prog 210 #[AJ k wds M,.int .i64 n] w (OfPost k wds M n w):=λ x i b c=>c.mono λ e w' ⟨a,h2⟩=>⟨_,by rw[b,a],.inr rfl,λ g=>absurd (b.symm.trans g) i,h2⟩
 cases a:Dc k wds M with
 |false=>exact d 2 (by decide) (by simp[AU,a]) (Kof_bad k wds M n w a)
 |true=>
  by_cases h2:n<0
  .exact d 2 (by decide) (by simp[AU,a];omega) (Kof_neg k wds M n w a h2)
  by_cases h3:k=1
  .subst h3
   by_cases h4:n=0
   .subst h4
    exact f (by simp[AU,a]) (Kof_ok1 wds M 0 w a)
   .exact d 2 (by decide) (by simp[AU,a,h4]) (Kof_fix wds M n w a (by omega) h4)
  by_cases h4:4096<n
  .exact d 5 (by decide) (by simp[AU,a,h3,h4];omega) (Kof_long k wds M n w a (by omega) h3 h4)
  .exact f (by simp[AU,a,h3,h4];omega) (Kof_ok k wds M n w a (by omega) h3 (by omega))

open Go.RowKit Go.Maps

def fnElem(v:Value):Option (DataW Unit×List MemPlace):=
 match v with
 |.func (.func f) a b=>if a.size=0/\b.size=0 then some (.lit (.int .i64 f),[]) else some (.nil,[])
 |_=>some (.nil,[])

theorem fnElem_inv{v:Value}{f:Nat}{ps:List MemPlace}(c:fnElem v=some (.lit (.int .i64 f),ps)):v=.func (.func f) #[] #[]:=by
 unfold fnElem at c
 split at c
 .split at c
  .rename_i g a b e
   simp only[Option.some.injEq,Prod.mk.injEq,DataW.lit.injEq,Lit.int.injEq,true_and] at c
   have d:=c.1
   have i:a=#[]:=Array.eq_empty_of_size_eq_zero e.1
   have j:b=#[]:=Array.eq_empty_of_size_eq_zero e.2
   subst i j
   rw[show g=f from Int.ofNat.inj d]
  .injection c with c;injection c with d h2;cases d
 .injection c with c;injection c with d h2;cases d

theorem CW{H:Type}{P:Program}(w:World){ops:Array Oper}{rest:List Oper}{o:Oper}{a:Act}{Q:Exit->Act->World->Prop}
  (l:o.guard=none) (m x v:Operand) (t:TypeId) (s:o.op=Op.insert t m x v)
  (k e:TypeId) (K:Keyed P k) (z:P.underlying t=some (.map k e)) (R:Value->Option (DataW H×List MemPlace)) (b n:Nat) (c:DataW H)
  (q:a.eval m=.map (some b)) (u:w.ownsMap P k R b n c) (r:n<maxLen) (f i:Value) (g:Lit) (C:a.eval x=f) (A:a.eval v=i) (p:keyOf P k f=some g)
  (d:DataW H) (ps:List MemPlace) (B:R i=some (d,ps))
  (hK:∀ w',w'.ownsMap P k R b (n+1) (c.put g d)->w.grownBy w' (some b)->wpList P ops Q rest (a.put o.dst undef) w'):
  wpList P ops Q (o::rest) a w:=by
 refine wpList_plain l λ F j=>?_
 obtain⟨w',y,D,E⟩:=u.update K z r p B
 unfold Oper.wp
 simp[execOp,s,q,C,A,y,Result.andThen]
 exact j _ _ (hK w' D E)

theorem keyU8:Keyed prog 5:=int_keyed underlying5

theorem C9:prog.underlying 313=some (.map 5 312):=by kernel_rfl

def waysD:DataW Unit:=((((DataW.map []).put (.int .u8 1) (.lit (.int .i64 (228:Nat)))).put (.int .u8 2) (.lit (.int .i64 (229:Nat)))).put (.int .u8 3) (.lit (.int .i64 (230:Nat)))).put (.int .u8 4) (.lit (.int .i64 (229:Nat)))

theorem key8(z:Int)(h:(Lit.int .u8 z).wf=true):keyOf prog 5 (.int .u8 z)=some (.int .u8 z):=keyOf_int_mk underlying5 h

theorem ways_any(w:World):Calls prog 224 #[] w λ e w'=>∃ b,e=.returned (.map (some b))/\w'.ownsMap prog 5 fnElem b 4 waysD/\Kp Aa w w':=by
 have q:=@run_makeMap prog
 have j:=World.ownsMap_made w prog 5 fnElem
 have c:Kp Aa w (w.alloc (.map #[] 0)):=(Kr Aa w).alloc _
 go_enter func224,ntmps224
 go_wp2_with (first
  |(refine CW _ rfl (.tmp 1) _ _ 313 rfl 5 312 keyU8 C9 fnElem w.heap.size 0 _ rfl j (by unfold maxLen;omega) (.int .u8 1) (.func (.func 228) #[] #[]) (.int .u8 1) rfl rfl (key8 1 rfl) (.lit (.int .i64 (228:Nat))) [] rfl ?_;intro w1 l d)
  |(refine CW _ rfl (.tmp 1) _ _ 313 rfl 5 312 keyU8 C9 fnElem w.heap.size 1 _ rfl l (by unfold maxLen;omega) (.int .u8 2) (.func (.func 229) #[] #[]) (.int .u8 2) rfl rfl (key8 2 rfl) (.lit (.int .i64 (229:Nat))) [] rfl ?_;intro w2 m f)
  |(refine CW _ rfl (.tmp 1) _ _ 313 rfl 5 312 keyU8 C9 fnElem w.heap.size 2 _ rfl m (by unfold maxLen;omega) (.int .u8 3) (.func (.func 230) #[] #[]) (.int .u8 3) rfl rfl (key8 3 rfl) (.lit (.int .i64 (230:Nat))) [] rfl ?_;intro r n g)
  |(refine CW _ rfl (.tmp 1) _ _ 313 rfl 5 312 keyU8 C9 fnElem w.heap.size 3 _ rfl n (by unfold maxLen;omega) (.int .u8 4) (.func (.func 229) #[] #[]) (.int .u8 4) rfl rfl (key8 4 rfl) (.lit (.int .i64 (229:Nat))) [] rfl ?_;intro s o i))
 have a:∀ k,some w.heap.size=some k->k<w.heap.size->Aa k:=λ k e p=>absurd (Option.some.inj e) (by omega)
 exact bodyPost_ret (v:=.map (some w.heap.size)) (by simp[results,results224,go_sem]) rfl ⟨_,rfl,o,(((c.grown d a).grown f a).grown g a).grown i a⟩

theorem zeroFn(w:World):(zeroValue 312).run prog w=.ok .nilFunc w:=by kernel_rfl

theorem ways_look(w:World)(b:Nat)(c:w.ownsMap prog 5 fnElem b 4 waysD)(k:Int)(f:Nat)(e:(Lit.int .u8 k).wf=true)(d:waysD.atKey (.int .u8 k) .nil=.lit (.int .i64 f)):
  (Instr.lookup 313 (.map (some b)) (.int .u8 k) false).run prog w=.ok (.func (.func f) #[] #[]) w:=by
 obtain⟨v,ps,g,a⟩:=c.lookup keyU8 C9 (zeroFn w) (zd:=.nil) (zp:=[]) rfl (key8 k e)
 rw[d] at a
 rw[g,fnElem_inv a]

theorem waysD_1:waysD.atKey (.int .u8 1) .nil=.lit (.int .i64 (228:Nat)):=rfl

theorem waysD_2:waysD.atKey (.int .u8 2) .nil=.lit (.int .i64 (229:Nat)):=rfl

theorem waysD_3:waysD.atKey (.int .u8 3) .nil=.lit (.int .i64 (230:Nat)):=rfl

theorem waysD_4:waysD.atKey (.int .u8 4) .nil=.lit (.int .i64 (229:Nat)):=rfl

theorem Kp.then'{a b c:World}(h:Kp Aa a b)(k:Kp Aa b c):Kp Aa a c:=h.trans k (λ _ _ h=>h)

theorem fixed_any(k wds m n:Int)(w:World):Calls prog 228 #[BU k wds m n] w (RK (.int .i64 wds) w):=by
 have a:=(Kr Aa w).alloc (.cells #[.int .u8 k,.int .i64 wds,.int .u64 m,.int .i64 n] 302)
 unfold BU
 go_enter func228,ntmps228
 go_wp2
 go_ret
 exact⟨rfl,a⟩

theorem row_any(k wds m n:Int)(w:World):Calls prog 229 #[BU k wds m n] w (RK (.int .i64 n) w):=by
 have a:=(Kr Aa w).alloc (.cells #[.int .u8 k,.int .i64 wds,.int .u64 m,.int .i64 n] 302)
 unfold BU
 go_enter func229,ntmps229
 go_wp2
 go_ret
 exact⟨rfl,a⟩

theorem elems_any(k m:Int)(W n:Nat)(b:W<=16)(c:n<=4096)(w:World):Calls prog 230 #[BU k W m n] w (RK (.int .i64 ((n*W:Nat):Int)) w):=by
 have d:=(Kr Aa w).alloc (.cells #[.int .u8 k,W,.int .u64 m,n] 302)
 have e:n*W<=4096*16:=Nat.mul_le_mul c b
 have f:(n:Int)*(W:Int)<=65536:=by
  have a:((n*W:Nat):Int)<=65536:=by omega
  rwa [Int.natCast_mul] at a
 have g:(0:Int)<=(n:Int)*(W:Int):=by
  have a:(0:Int)<=((n*W:Nat):Int):=by omega
  rwa [Int.natCast_mul] at a
 have i:IntKind.i64.wrap ((n:Int)*(W:Int))=(n:Int)*(W:Int):=by rw[IntKind.wrap_i64];omega
 unfold BU
 go_enter func230,ntmps230
 go_wp2
 go_ret
 exact⟨by simp,d⟩

theorem slots_1(wds m n:Int)(w:World):Calls prog 211 #[BU 1 wds m n] w (RK (.int .i64 wds) w):=by
 have b:=wN w (.cells #[.int .u8 1,.int .i64 wds,.int .u64 m,.int .i64 n] 302)
 have q:=(Kr Aa w).alloc (.cells #[.int .u8 1,.int .i64 wds,.int .u64 m,.int .i64 n] 302)
 have d:=λ w=>fixed_any 1 wds m n w
 unfold BU at d ⊢
 have r:=sE d
 clear d
 go_enter func211,ntmps211
 obtain⟨w1,p⟩:∃ w1,w1=w.alloc (.cells #[.int .u8 1,.int .i64 wds,.int .u64 m,.int .i64 n] 302):=⟨_,rfl⟩
 go_wp2_with fail
 rw[<- p] at b q ⊢
 have c0:w1.cell? w.heap.size=some (.int .u8 1):=by simp[World.cell?,b]
 have j:w1.cell? ⟨w.heap.size,1,none⟩=some (.int .i64 wds):=by simp[World.cell?,b]
 have k:w1.cell? ⟨w.heap.size,2,none⟩=some (.int .u64 m):=by simp[World.cell?,b]
 have l:w1.cell? ⟨w.heap.size,3,none⟩=some (.int .i64 n):=by simp[World.cell?,b]
 have f:Kp Aa w1 w1:=Kr _ _
 clear p b
 go_wp2_with fail
 go_region_held_law (λ w'=>w'.cell? w.heap.size=some (.int .u8 1)/\w'.cell? ⟨w.heap.size,1,none⟩=some (.int .i64 wds)/\w'.cell? ⟨w.heap.size,2,none⟩=some (.int .u64 m)/\w'.cell? ⟨w.heap.size,3,none⟩=some (.int .i64 n))
  (first|go_keep|exact ⟨c.cell c0 id,c.cell j id,c.cell k id,c.cell l id⟩|exact ⟨a.cell c0 id,a.cell j id,a.cell k id,a.cell l id⟩)
  (first
   |(go_simp;go_at_call 224;refine (ways_any _).mono ?_;rintro e w2 ⟨s,rfl,u,g⟩;dsimp only;have a:Kp Aa w1 w2:=(by first|exact f.then' g|exact f.drew.then' g|exact f.drew.drew.then' g);have y:=ways_look w2 s u 1 228 rfl waysD_1)
   |(go_simp;go_at_call 228;refine (r.o _).mono ?_;rintro e x ⟨rfl,i⟩;dsimp only;have c:Kp Aa w1 x:=(by first|exact a.then' i|exact a.drew.then' i|exact a.drew.drew.then' i)))
 go_wp2
 exact bodyPost_ret (v:=.int .i64 wds) (by simp[results,results211,go_sem]) rfl ⟨rfl,q.trans c (λ _ _ t=>t)⟩

theorem slots_2(wds m n:Int)(w:World):Calls prog 211 #[BU 2 wds m n] w (RK (.int .i64 n) w):=by
 have b:=wN w (.cells #[.int .u8 2,.int .i64 wds,.int .u64 m,.int .i64 n] 302)
 have q:=(Kr Aa w).alloc (.cells #[.int .u8 2,.int .i64 wds,.int .u64 m,.int .i64 n] 302)
 have d:=λ w=>row_any 2 wds m n w
 unfold BU at d ⊢
 have r:=sE d
 clear d
 go_enter func211,ntmps211
 obtain⟨w1,p⟩:∃ w1,w1=w.alloc (.cells #[.int .u8 2,.int .i64 wds,.int .u64 m,.int .i64 n] 302):=⟨_,rfl⟩
 go_wp2_with fail
 rw[<- p] at b q ⊢
 have c0:w1.cell? w.heap.size=some (.int .u8 2):=by simp[World.cell?,b]
 have j:w1.cell? ⟨w.heap.size,1,none⟩=some (.int .i64 wds):=by simp[World.cell?,b]
 have k:w1.cell? ⟨w.heap.size,2,none⟩=some (.int .u64 m):=by simp[World.cell?,b]
 have l:w1.cell? ⟨w.heap.size,3,none⟩=some (.int .i64 n):=by simp[World.cell?,b]
 have f:Kp Aa w1 w1:=Kr _ _
 clear p b
 go_wp2_with fail
 go_region_held_law (λ w'=>w'.cell? w.heap.size=some (.int .u8 2)/\w'.cell? ⟨w.heap.size,1,none⟩=some (.int .i64 wds)/\w'.cell? ⟨w.heap.size,2,none⟩=some (.int .u64 m)/\w'.cell? ⟨w.heap.size,3,none⟩=some (.int .i64 n))
  (first|go_keep|exact ⟨c.cell c0 id,c.cell j id,c.cell k id,c.cell l id⟩|exact ⟨a.cell c0 id,a.cell j id,a.cell k id,a.cell l id⟩)
  (first
   |(go_simp;go_at_call 224;refine (ways_any _).mono ?_;rintro e w2 ⟨s,rfl,u,g⟩;dsimp only;have a:Kp Aa w1 w2:=(by first|exact f.then' g|exact f.drew.then' g|exact f.drew.drew.then' g);have y:=ways_look w2 s u 2 229 rfl waysD_2)
   |(go_simp;go_at_call 229;refine (r.o _).mono ?_;rintro e x ⟨rfl,i⟩;dsimp only;have c:Kp Aa w1 x:=(by first|exact a.then' i|exact a.drew.then' i|exact a.drew.drew.then' i)))
 go_wp2
 exact bodyPost_ret (v:=.int .i64 n) (by simp[results,results211,go_sem]) rfl ⟨rfl,q.trans c (λ _ _ t=>t)⟩

theorem slots_4(wds m n:Int)(w:World):Calls prog 211 #[BU 4 wds m n] w (RK (.int .i64 n) w):=by
 have b:=wN w (.cells #[.int .u8 4,.int .i64 wds,.int .u64 m,.int .i64 n] 302)
 have q:=(Kr Aa w).alloc (.cells #[.int .u8 4,.int .i64 wds,.int .u64 m,.int .i64 n] 302)
 have d:=λ w=>row_any 4 wds m n w
 unfold BU at d ⊢
 have r:=sE d
 clear d
 go_enter func211,ntmps211
 obtain⟨w1,p⟩:∃ w1,w1=w.alloc (.cells #[.int .u8 4,.int .i64 wds,.int .u64 m,.int .i64 n] 302):=⟨_,rfl⟩
 go_wp2_with fail
 rw[<- p] at b q ⊢
 have c0:w1.cell? w.heap.size=some (.int .u8 4):=by simp[World.cell?,b]
 have j:w1.cell? ⟨w.heap.size,1,none⟩=some (.int .i64 wds):=by simp[World.cell?,b]
 have k:w1.cell? ⟨w.heap.size,2,none⟩=some (.int .u64 m):=by simp[World.cell?,b]
 have l:w1.cell? ⟨w.heap.size,3,none⟩=some (.int .i64 n):=by simp[World.cell?,b]
 have f:Kp Aa w1 w1:=Kr _ _
 clear p b
 go_wp2_with fail
 go_region_held_law (λ w'=>w'.cell? w.heap.size=some (.int .u8 4)/\w'.cell? ⟨w.heap.size,1,none⟩=some (.int .i64 wds)/\w'.cell? ⟨w.heap.size,2,none⟩=some (.int .u64 m)/\w'.cell? ⟨w.heap.size,3,none⟩=some (.int .i64 n))
  (first|go_keep|exact ⟨c.cell c0 id,c.cell j id,c.cell k id,c.cell l id⟩|exact ⟨a.cell c0 id,a.cell j id,a.cell k id,a.cell l id⟩)
  (first
   |(go_simp;go_at_call 224;refine (ways_any _).mono ?_;rintro e w2 ⟨s,rfl,u,g⟩;dsimp only;have a:Kp Aa w1 w2:=(by first|exact f.then' g|exact f.drew.then' g|exact f.drew.drew.then' g);have y:=ways_look w2 s u 4 229 rfl waysD_4)
   |(go_simp;go_at_call 229;refine (r.o _).mono ?_;rintro e x ⟨rfl,i⟩;dsimp only;have c:Kp Aa w1 x:=(by first|exact a.then' i|exact a.drew.then' i|exact a.drew.drew.then' i)))
 go_wp2
 exact bodyPost_ret (v:=.int .i64 n) (by simp[results,results211,go_sem]) rfl ⟨rfl,q.trans c (λ _ _ t=>t)⟩

theorem slots_3(m:Int)(W n:Nat)(u:W<=16)(x:n<=4096)(w:World):Calls prog 211 #[BU 3 W m n] w (RK (.int .i64 ((n*W:Nat):Int)) w):=by
 have b:=wN w (.cells #[.int .u8 3,W,.int .u64 m,n] 302)
 have q:=(Kr Aa w).alloc (.cells #[.int .u8 3,W,.int .u64 m,n] 302)
 have d:=λ w=>elems_any 3 m W n u x w
 unfold BU at d ⊢
 have r:=sE d
 clear d
 go_enter func211,ntmps211
 obtain⟨w1,p⟩:∃ w1,w1=w.alloc (.cells #[.int .u8 3,W,.int .u64 m,n] 302):=⟨_,rfl⟩
 go_wp2_with fail
 rw[<- p] at b q ⊢
 have c0:w1.cell? w.heap.size=some (.int .u8 3):=by simp[World.cell?,b]
 have j:w1.cell? ⟨w.heap.size,1,none⟩=some (.int .i64 W):=by simp[World.cell?,b]
 have k:w1.cell? ⟨w.heap.size,2,none⟩=some (.int .u64 m):=by simp[World.cell?,b]
 have l:w1.cell? ⟨w.heap.size,3,none⟩=some (.int .i64 n):=by simp[World.cell?,b]
 have f:Kp Aa w1 w1:=Kr _ _
 clear p b
 go_wp2_with fail
 go_region_held_law (λ w'=>w'.cell? w.heap.size=some (.int .u8 3)/\w'.cell? ⟨w.heap.size,1,none⟩=some (.int .i64 W)/\w'.cell? ⟨w.heap.size,2,none⟩=some (.int .u64 m)/\w'.cell? ⟨w.heap.size,3,none⟩=some (.int .i64 n))
  (first|go_keep|exact ⟨c.cell c0 id,c.cell j id,c.cell k id,c.cell l id⟩|exact ⟨a.cell c0 id,a.cell j id,a.cell k id,a.cell l id⟩)
  (first
   |(go_simp;go_at_call 224;refine (ways_any _).mono ?_;rintro e w2 ⟨s,rfl,y,g⟩;dsimp only;have a:Kp Aa w1 w2:=(by first|exact f.then' g|exact f.drew.then' g|exact f.drew.drew.then' g);have A:=ways_look w2 s y 3 230 rfl waysD_3)
   |(go_simp;go_at_call 230;refine (r.o _).mono ?_;rintro e z ⟨rfl,i⟩;dsimp only;have c:Kp Aa w1 z:=(by first|exact a.then' i|exact a.drew.then' i|exact a.drew.drew.then' i)))
 go_wp2
 exact bodyPost_ret (v:=.int .i64 ((n*W:Nat):Int)) (by simp[results,results211,go_sem]) rfl ⟨rfl,q.trans c (λ _ _ t=>t)⟩

def AZ(k wds n:Int):Int:=if k=1 then wds else if k=3 then n*wds else n

def FK(k wds n:Int):Int:=(AZ k wds n+2)/2

theorem Ec{k wds:Int}{M:Nat}{n:Int}(a:AU k wds M n=0):Dc k wds M=true/\0<=n/\n<=4096/\(k=1->n=0)/\((k=1/\0<=wds/\wds<=64)\/(k=3/\1<=wds/\wds<=16)\/((k=2\/k=4)/\wds=0)):=by
 rw[AU] at a
 split at a
 .rename_i c
  split at a
  .cases a
  .rename_i g
   simp only[Bool.and_eq_true,Bool.or_eq_true,decide_eq_true_eq] at c
   obtain⟨⟨b,d⟩,f⟩:=c
   refine⟨b,d,by omega,λ e=>by omega,?_⟩
   simp only[Dc,Bool.and_eq_true,Bool.or_eq_true,decide_eq_true_eq] at b
   omega
 .cases a

theorem slots_any(k wds:Int)(M:Nat)(n:Int)(w:World)(b:AU k wds M n=0):
  Calls prog 211 #[BU k wds M n] w (RK (.int .i64 (AZ k wds n)) w):=by
 obtain⟨g,c,i,j,d⟩:=Ec b
 rcases d with ⟨rfl,e,f⟩|⟨rfl,e,f⟩|⟨rfl|rfl,rfl⟩
 .exact slots_1 wds M n w
 .obtain ⟨a,rfl⟩:=Int.eq_ofNat_of_zero_le c
  obtain⟨W,rfl⟩:=Int.eq_ofNat_of_zero_le (show 0<=wds by omega)
  rw[show AZ 3 (W:Nat) (a:Nat)=((a*W:Nat):Int) by simp[AZ]]
  exact slots_3 M W a (by omega) (by omega) w
 .exact slots_2 0 M n w
 .exact slots_4 0 M n w

theorem Bj{k wds:Int}{M:Nat}{n:Int}(b:AU k wds M n=0):0<=AZ k wds n/\AZ k wds n<=65536:=by
 obtain⟨g,c,i,j,d⟩:=Ec b
 rcases d with ⟨rfl,e,f⟩|⟨rfl,e,f⟩|⟨rfl|rfl,rfl⟩
 .show 0<=wds/\wds<=65536
  omega
 .show 0<=n*wds/\n*wds<=65536
  obtain⟨a,rfl⟩:=Int.eq_ofNat_of_zero_le c
  obtain⟨W,rfl⟩:=Int.eq_ofNat_of_zero_le (show 0<=wds by omega)
  have l:a*W<=4096*16:=Nat.mul_le_mul (by omega) (by omega)
  rw[<- Int.natCast_mul]
  omega
 .show 0<=n/\n<=65536
  omega
 .show 0<=n/\n<=65536
  omega

def SizePost(k wds:Int)(M:Nat)(n:Int)(w:World)(e:Ending)(w':World):Prop:=
 e=.returned (.tuple #[.int .i64 (if AU k wds M n=0 then FK k wds n else 0),.int .i64 (AU k wds M n)])/\Kp Aa w w'

theorem KSize_any(k wds:Int)(M:Nat)(n:Int)(w:World):Calls prog 209 #[AJ k wds M,.int .i64 n] w (SizePost k wds M n w):=by
 have i:=λ w=>Kof_any k wds M n w
 have q:=(Kr Aa w).alloc (.cells #[.int .u8 k,.int .i64 wds,.int .u64 M] 106)
 unfold AJ at i ⊢
 have B:=sE i
 clear i
 go_enter func209,ntmps209
 go_wp2_with fail
 obtain⟨w1,u⟩:∃ w1,w1=w.alloc (.cells #[.int .u8 k,.int .i64 wds,.int .u64 M] 106):=⟨_,rfl⟩
 rw[<- u] at q ⊢
 clear u
 refine(B.o w1).mono ?_
 rintro e w2 ⟨v,rfl,l,m,y⟩
 have D:∃ a b c d:Int,v=.agg #[.int .u8 a,.int .i64 b,.int .u64 c,.int .i64 d]:=by
  rcases l with rfl|rfl
  .exact ⟨_,_,_,_,rfl⟩
  .exact ⟨_,_,_,_,rfl⟩
 obtain⟨a,b,c,d,rfl⟩:=D
 by_cases h0:AU k wds M n=0
 .have p:=m h0
  unfold BU at p
  rw[p]
  have j:=sE h0
  obtain⟨z,F⟩:=Bj h0
  have f:=λ w=>slots_any k wds M n w h0
  have t:Sl (FK k wds n=(AZ k wds n+2)/2):=⟨rfl⟩
  rw[h0]
  obtain⟨s,r⟩:∃ s,AZ k wds n=s:=⟨_,rfl⟩
  rw[r] at z F f t
  unfold BU at f
  have A:=sE f
  clear f l m p h0 r
  obtain⟨S,rfl⟩:=Int.eq_ofNat_of_zero_le z
  go_wp2_with fail
  refine(A.o _).mono ?_
  rintro e H ⟨rfl,E⟩
  go_wp2
  refine bodyPost_ret (v:=.tuple #[.int .i64 (((S:Int)+2)/2),(0:Int)]) (by simp[results,results209,go_sem]) rfl ⟨by rw[j.o,if_pos rfl,t.o],((q.then' y).alloc _).then' E⟩
 .have j:=sE h0
  obtain⟨x,g⟩:∃ x,AU k wds M n=x:=⟨_,rfl⟩
  rw[g]
  rw[g] at h0
  have C:=sE g
  have G:(x !=0)=true:=by simpa using h0
  clear l m g h0
  go_wp2
  refine bodyPost_ret (v:=.tuple #[(0:Int),.int .i64 x]) (by simp[results,results209,go_sem]) rfl ⟨by rw[if_neg j.o,C.o],(q.then' y).alloc _⟩

structure TypR where
 k:Int
 wds:Int
 m:Nat

def FH:List TypR->List Value
 |[]=>[]
 |x::xs=>.int .u8 x.k::.int .i64 x.wds::.int .u64 x.m::FH xs

theorem flatT_append:∀ (xs a:List TypR),FH (xs++a)=FH xs++FH a
 |[],a=>rfl
 |x::xs,a=>by simp[FH,flatT_append xs a]

theorem flatT_length:∀ (xs:List TypR),(FH xs).length=xs.length*3
 |[]=>rfl
 |x::xs=>by simp[FH,flatT_length xs];omega

theorem flatT_at:∀ (xs:List TypR) (i:Nat) (x:TypR),xs[i]?=some x->(FH xs)[i*3]?=some (.int .u8 x.k)/\(FH xs)[i*3+1]?=some (.int .i64 x.wds)/\(FH xs)[i*3+2]?=some (.int .u64 x.m)
 |y::xs,0,x,h=>by
  simp at h
  subst h
  exact⟨rfl,rfl,rfl⟩
 |y::xs,i+1,x,h=>by
  have e:xs[i]?=some x:=by simpa using h
  obtain⟨a,b,c⟩:=flatT_at xs i x e
  have d:(i+1)*3=i*3+3:=by omega
  rw[d]
  exact⟨a,b,c⟩

structure TableAt(w:World)(t q:Nat)(ts:List TypR):Prop where
 ht:∃ v,w.heap[t]?=some (.cells #[v] 229 (0,0))/\w.ownsRow q 106 3 v ts.length (FH ts)/\(∀ b,v.ownBlock=some b->b=q)
 few:ts.length<=64
 ok:∀ x∈ts,Dc x.k x.wds x.m=true

theorem TableAt.keep{S:Nat->Prop}{w w':World}{t q:Nat}{ts:List TypR}(a:TableAt w t q ts)(k:Kp S w w')(j:¬ S t)(g:¬ S q):TableAt w' t q ts:=by
 obtain⟨v,d,e,c⟩:=a.ht
 exact⟨⟨v,k.at_ d j,k.owns e (λ b f i=>g (c b f▸i)),c⟩,a.few,a.ok⟩

theorem TableAt.Ac{w w':World}{t q:Nat}{ts:List TypR}(h:TableAt w t q ts)(k:Kp Aa w w'):TableAt w' t q ts:=h.keep k id id

theorem TableAt.head{w:World}{t q:Nat}{ts:List TypR}(l:TableAt w t q ts):∃ a cap,w.cell? t=some (.slice a ts.length cap)/\∀ i x,ts[i]?=some x->a=some ⟨q,0,none⟩/\q<w.heap.size/\w.cell? ⟨q,i*3,none⟩=some (.int .u8 x.k)/\w.cell? ⟨q,i*3+1,none⟩=some (.int .i64 x.wds)/\w.cell? ⟨q,i*3+2,none⟩=some (.int .u64 x.m):=by
 obtain⟨v,e,o,p⟩:=l.ht
 rcases o.2 with ⟨rfl,n⟩|⟨g,cap,s,rfl,u,d,y,z,A,f⟩
 .exact ⟨none,0,by rw[n];simp [World.cell?,e],λ i x b=>by have:=(gE.1 b).1;omega⟩
 .obtain rfl:=p g rfl
  refine⟨some ⟨g,0,none⟩,cap,by simp[World.cell?,e],λ i x b=>?_⟩
  have B:=(gE.1 b).1
  obtain⟨x0,x1,x2⟩:=flatT_at ts i x b
  have c:∀ j,j<ts.length*3->w.cell? ⟨g,j,none⟩=(FH ts)[j]?:=λ j r=>by
   rw[<- f,List.getElem?_take_of_lt r]
   simp[World.cell?,d]
  exact⟨rfl,lZ d,by rw[c _ (by omega)];exact x0,by rw[c _ (by omega)];exact x1,by rw[c _ (by omega)];exact x2⟩

def typeOf(ts:List TypR)(id:Int):Option TypR:=if 1<=id then ts[(id-1).toNat]? else none

theorem typeOf_none{ts:List TypR}{a:Int}(b:typeOf ts a=none):a<1\/(1<=a/\(ts.length:Int)<a):=by
 rw[typeOf] at b
 split at b
 .rename_i c
  have:=List.getElem?_eq_none_iff.1 b
  omega
 .omega

theorem Es{ts:List TypR}{b:Int}{x:TypR}(a:typeOf ts b=some x):∃ i:Nat,b=((i+1:Nat):Int)/\ts[i]?=some x/\i<ts.length:=by
 rw[typeOf] at a
 split at a
 .rename_i c
  exact⟨(b-1).toNat,by omega,a,(gE.1 a).1⟩
 .cases a

def AtPost(x:Option TypR)(w:World)(e:Ending)(w':World):Prop:=
 e=.returned (.tuple #[match x with|some y=>AJ y.k y.wds y.m|none=>AJ 0 0 0,.bool x.isSome])/\Kp Aa w w'

theorem new3(w:World)(a b c:Value)(T:TypeId):(w.alloc (.cells #[a,b,c] T)).cell? w.heap.size=some a/\(w.alloc (.cells #[a,b,c] T)).cell? ⟨w.heap.size,1,none⟩=some b/\(w.alloc (.cells #[a,b,c] T)).cell? ⟨w.heap.size,2,none⟩=some c:=by
 have d:=wN w (.cells #[a,b,c] T)
 simp only[World.cell?,d]
 exact⟨rfl,rfl,rfl⟩

theorem at_none(d:Int)(t q:Nat)(ts:List TypR)(w:World)(c:TableAt w t q ts)(i:typeOf ts d=none):
  Calls prog 133 #[.pointer (some t),.int .i64 d] w (AtPost none w):=by
 obtain⟨a,cap,m,-⟩:=c.head
 have n:=c.ht.elim λ v j=>lZ j.1
 have b:=typeOf_none i
 have k:=(Kr Aa w).alloc (.cells #[.int .u8 0,(0:Int),.int .u64 0] 106)
 obtain⟨e,f,g⟩:=new3 w (.int .u8 0) (.int .i64 0) (.int .u64 0) 106
 rcases b with b|⟨b,l⟩
 all_goals
  go_enter func133,ntmps133
  go_wp2
  refine bodyPost_ret (v:=.tuple #[AJ 0 0 0,.bool false]) (by simp[results,results133,go_sem,e,f,g,AJ]) rfl ⟨rfl,k⟩

theorem at_some(i:Nat)(x:TypR)(t q:Nat)(ts:List TypR)(w:World)(b:TableAt w t q ts)(c:ts[i]?=some x):
  Calls prog 133 #[.pointer (some t),.int .i64 ((i+1:Nat):Int)] w (AtPost (some x) w):=by
 obtain⟨a,cap,l,e⟩:=b.head
 have B:=b.ht.elim λ v r=>lZ r.1
 obtain⟨rfl,C,c0,u,y⟩:=e i x c
 have p:i<ts.length:=(gE.1 c).1
 have o:=b.few
 have s:=(Kr Aa w).alloc (.cells #[.int .u8 x.k,.int .i64 x.wds,.int .u64 x.m] 106)
 obtain⟨f,g,j⟩:=new3 w (.int .u8 x.k) (.int .i64 x.wds) (.int .u64 x.m) 106
 obtain⟨n,d⟩:∃ n,n=ts.length:=⟨_,rfl⟩
 rw[<- d] at l p o
 have z:¬ ((i+1:Nat):Int)<1:=by omega
 have A:¬ (n:Int)<((i+1:Nat):Int):=by omega
 obtain⟨k,wds,m⟩:=x
 dsimp only at*
 clear e c b d
 go_enter func133,ntmps133
 go_wp2
 refine bodyPost_ret (v:=.tuple #[AJ k wds m,.bool true]) (by simp[results,results133,go_sem,f,g,j,AJ]) rfl ⟨rfl,s⟩

theorem rowAt_any(a:Int)(t q:Nat)(ts:List TypR)(w:World)(b:TableAt w t q ts):
  Calls prog 133 #[.pointer (some t),.int .i64 a] w (AtPost (typeOf ts a) w):=by
 cases hx:typeOf ts a with
 |none=>exact at_none a t q ts w b hx
 |some x=>
  obtain⟨i,rfl,c,d⟩:=Es hx
  exact at_some i x t q ts w b c

def FD(x:Option TypR)(w:World)(e:Ending)(w':World):Prop:=
 e=.returned (.tuple #[match x with|some y=>AJ y.k y.wds y.m|none=>AJ 0 0 0,.int .i64 (if x.isSome then 0 else 3)])/\Kp Aa w w'

theorem Get_none(l:Int)(t q:Nat)(ts:List TypR)(w:World)(c:TableAt w t q ts)(p:typeOf ts l=none):
  Calls prog 77 #[.pointer (some t),.int .i64 l] w (FD none w):=by
 obtain⟨w1,f⟩:∃ w1,w1=w.alloc (.cells #[.int .u8 0,(0:Int),.int .u64 0] 106):=⟨_,rfl⟩
 have u:Kp Aa w w1:=by rw[f];exact (Kr _ w).alloc _
 have n:w1.heap[w.heap.size]?=some (.cells #[.int .u8 0,(0:Int),.int .u64 0] 106 (0,0)):=by rw[f];exact wN w _
 have g:=rowAt_any l t q ts w1 (c.Ac u)
 rw[p] at g
 have y:=sE g
 clear g p
 go_enter func77,ntmps77
 go_wp2_with fail
 rw[<- f]
 clear f
 refine y.o.mono ?_
 rintro e w2 ⟨rfl,r⟩
 have b:=r.at_ n (λ c=>c)
 have K:=lZ b
 have F:w2.cell? w.heap.size=some (.int .u8 0):=by simp[World.cell?,b]
 have G:w2.cell? ⟨w.heap.size,1,none⟩=some (.int .i64 0):=by simp[World.cell?,b]
 have H:w2.cell? ⟨w.heap.size,2,none⟩=some (.int .u64 0):=by simp[World.cell?,b]
 have d:=Ab b
 have f00:=d 0
 have f01:=d 1
 have f02:=d 2
 have z:=u.then' r
 have x:=sE b
 have J:¬ w.heap.size=w2.heap.size:=by omega
 clear n b d
 dsimp only[AJ,Option.isSome_some,Option.isSome_none]
 go_wp2
 obtain⟨a,k⟩:∃ a,a=((w2.setCell w.heap.size (.int .u8 0)).setCell ⟨w.heap.size,1,none⟩ (.int .i64 0)).setCell ⟨w.heap.size,2,none⟩ (.int .u64 0):=⟨_,rfl⟩
 rw[<- k]
 have E:a.heap[w.heap.size]?=some (.cells #[.int .u8 0,(0:Int),.int .u64 0] 106 (0,0)):=by
  rw[k];exact bZ (bZ (bZ x.o (j:=0) _) (j:=1) _) (j:=2) _
 have D:Kp (λ i=>i=w.heap.size) w2 a:=by rw[k];exact (((Kr (λ i=>i=w.heap.size) w2).setCell (λ _=>rfl) _).setCell (λ _=>rfl) _).setCell (λ _=>rfl) _
 have s:Kp Aa a (a.alloc (.cells #[.int .u8 0,(0:Int),.int .u64 0] 106)):=(Kr _ a).alloc _
 have m:=s.at_ E (λ c=>c)
 have A:(a.alloc (.cells #[.int .u8 0,(0:Int),.int .u64 0] 106)).cell? w.heap.size=some (.int .u8 0):=by simp[World.cell?,m]
 have B:(a.alloc (.cells #[.int .u8 0,(0:Int),.int .u64 0] 106)).cell? ⟨w.heap.size,1,none⟩=some (.int .i64 0):=by simp[World.cell?,m]
 have C:(a.alloc (.cells #[.int .u8 0,(0:Int),.int .u64 0] 106)).cell? ⟨w.heap.size,2,none⟩=some (.int .u64 0):=by simp[World.cell?,m]
 refine bodyPost_ret (v:=.tuple #[AJ 0 0 0,(3:Int)]) (by simp[results,results77,go_sem,A,B,C,AJ]) rfl ⟨rfl,(z.trans D (λ i I c=>by omega)).then' s⟩

theorem Get_some(n:Int)(t q:Nat)(ts:List TypR)(k wds:Int)(m:Nat)(w:World)(c:TableAt w t q ts)(s:typeOf ts n=some ⟨k,wds,m⟩):
  Calls prog 77 #[.pointer (some t),.int .i64 n] w (FD (some ⟨k,wds,m⟩) w):=by
 obtain⟨w1,f⟩:∃ w1,w1=w.alloc (.cells #[.int .u8 0,(0:Int),.int .u64 0] 106):=⟨_,rfl⟩
 have y:Kp Aa w w1:=by rw[f];exact (Kr _ w).alloc _
 have r:w1.heap[w.heap.size]?=some (.cells #[.int .u8 0,(0:Int),.int .u64 0] 106 (0,0)):=by rw[f];exact wN w _
 have g:=rowAt_any n t q ts w1 (c.Ac y)
 rw[s] at g
 have A:=sE g
 clear g s
 go_enter func77,ntmps77
 go_wp2_with fail
 rw[<- f]
 clear f
 refine A.o.mono ?_
 rintro e w2 ⟨rfl,u⟩
 have b:=u.at_ r (λ c=>c)
 have M:=lZ b
 have H:w2.cell? w.heap.size=some (.int .u8 0):=by simp[World.cell?,b]
 have I:w2.cell? ⟨w.heap.size,1,none⟩=some (.int .i64 0):=by simp[World.cell?,b]
 have J:w2.cell? ⟨w.heap.size,2,none⟩=some (.int .u64 0):=by simp[World.cell?,b]
 have d:=Ab b
 have f00:=d 0
 have f01:=d 1
 have f02:=d 2
 have B:=y.then' u
 have z:=sE b
 have L:¬ w.heap.size=w2.heap.size:=by omega
 clear r b d
 dsimp only[AJ,Option.isSome_some,Option.isSome_none]
 go_wp2
 obtain⟨a,l⟩:∃ a,a=((w2.setCell w.heap.size (.int .u8 k)).setCell ⟨w.heap.size,1,none⟩ (.int .i64 wds)).setCell ⟨w.heap.size,2,none⟩ (.int .u64 m):=⟨_,rfl⟩
 rw[<- l]
 have G:a.heap[w.heap.size]?=some (.cells #[.int .u8 k,.int .i64 wds,.int .u64 m] 106 (0,0)):=by
  rw[l];exact bZ (bZ (bZ z.o (j:=0) _) (j:=1) _) (j:=2) _
 have F:Kp (λ i=>i=w.heap.size) w2 a:=by rw[l];exact (((Kr (λ i=>i=w.heap.size) w2).setCell (λ _=>rfl) _).setCell (λ _=>rfl) _).setCell (λ _=>rfl) _
 have x:Kp Aa a (a.alloc (.cells #[.int .u8 k,.int .i64 wds,.int .u64 m] 106)):=(Kr _ a).alloc _
 have p:=x.at_ G (λ c=>c)
 have C:(a.alloc (.cells #[.int .u8 k,.int .i64 wds,.int .u64 m] 106)).cell? w.heap.size=some (.int .u8 k):=by simp[World.cell?,p]
 have D:(a.alloc (.cells #[.int .u8 k,.int .i64 wds,.int .u64 m] 106)).cell? ⟨w.heap.size,1,none⟩=some (.int .i64 wds):=by simp[World.cell?,p]
 have E:(a.alloc (.cells #[.int .u8 k,.int .i64 wds,.int .u64 m] 106)).cell? ⟨w.heap.size,2,none⟩=some (.int .u64 m):=by simp[World.cell?,p]
 refine bodyPost_ret (v:=.tuple #[AJ k wds (m:Nat),(0:Int)]) (by simp[results,results77,go_sem,C,D,E,AJ]) rfl ⟨rfl,(B.trans F (λ i K c=>by omega)).then' x⟩

theorem Get_any(a:Int)(t q:Nat)(ts:List TypR)(w:World)(b:TableAt w t q ts):
  Calls prog 77 #[.pointer (some t),.int .i64 a] w (FD (typeOf ts a) w):=by
 cases hx:typeOf ts a with
 |none=>exact Get_none a t q ts w b hx
 |some x=>
  obtain⟨k,wds,m⟩:=x
  exact Get_some a t q ts k wds m w b hx

end

end Go.Proofs.YtfkedlgpgmaemaaGreatDoor
