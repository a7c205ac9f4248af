/-
  Lemmas for the laws, together: DocB.
-/
import Derived.Test.YtfkedlgpgmaemaaGreatDoorQaf
import Derived.Test.YtfkedlgpgmaemaaGreatDoorQai
import Derived.Test.YtfkedlgpgmaemaaGreatDoorQag
set_option linter.unusedVariables false
set_option maxHeartbeats 16000000
namespace Go.Proofs.YtfkedlgpgmaemaaGreatDoor
open Tryz
section
open Go.RowKit

theorem DHMay_small(tag ty ln sz:Int)(w:World)(g:sz<1):
  Calls prog 165 #[.agg #[.int .u8 tag,.int .i64 ty,.int .i64 ln,.int .i64 sz]] w (RK (.bool false) w):=by
 have i:decide (sz<1)=true:=dT (by omega)
 have a:=wN w (.cells #[.int .u8 tag,.int .i64 ty,.int .i64 ln,.int .i64 sz] 111)
 have c:=(Kr Aa w).alloc (.cells #[.int .u8 tag,.int .i64 ty,.int .i64 ln,.int .i64 sz] 111)
 go_enter func165,ntmps165
 go_wp2_with fail
 obtain⟨w1,b⟩:∃ w1,w1=w.alloc (.cells #[.int .u8 tag,.int .i64 ty,.int .i64 ln,.int .i64 sz] 111):=⟨_,rfl⟩
 rw[<- b] at a c ⊢
 have c0:w1.cell? w.heap.size=some (.int .u8 tag):=by simp[World.cell?,a]
 have d:w1.cell? ⟨w.heap.size,1,none⟩=some (.int .i64 ty):=by simp[World.cell?,a]
 have e:w1.cell? ⟨w.heap.size,2,none⟩=some (.int .i64 ln):=by simp[World.cell?,a]
 have f:w1.cell? ⟨w.heap.size,3,none⟩=some (.int .i64 sz):=by simp[World.cell?,a]
 clear b a
 go_wp2
 go_ret
 exact⟨rfl,c⟩

theorem DHMay_big(tag ty ln sz:Int)(w:World)(g:1<=sz)(i:16777216<=sz):
  Calls prog 165 #[.agg #[.int .u8 tag,.int .i64 ty,.int .i64 ln,.int .i64 sz]] w (RK (.bool false) w):=by
 have j:decide (sz<1)=false:=dF (by omega)
 have k:decide (16777216<=sz)=true:=dT (by omega)
 have a:=wN w (.cells #[.int .u8 tag,.int .i64 ty,.int .i64 ln,.int .i64 sz] 111)
 have c:=(Kr Aa w).alloc (.cells #[.int .u8 tag,.int .i64 ty,.int .i64 ln,.int .i64 sz] 111)
 go_enter func165,ntmps165
 go_wp2_with fail
 obtain⟨w1,b⟩:∃ w1,w1=w.alloc (.cells #[.int .u8 tag,.int .i64 ty,.int .i64 ln,.int .i64 sz] 111):=⟨_,rfl⟩
 rw[<- b] at a c ⊢
 have c0:w1.cell? w.heap.size=some (.int .u8 tag):=by simp[World.cell?,a]
 have d:w1.cell? ⟨w.heap.size,1,none⟩=some (.int .i64 ty):=by simp[World.cell?,a]
 have e:w1.cell? ⟨w.heap.size,2,none⟩=some (.int .i64 ln):=by simp[World.cell?,a]
 have f:w1.cell? ⟨w.heap.size,3,none⟩=some (.int .i64 sz):=by simp[World.cell?,a]
 clear b a
 go_wp2
 go_ret
 exact⟨rfl,c⟩

theorem DHMay_low(tag ty ln sz:Int)(w:World)(g:1<=sz)(i:sz<16777216)(j:ln<0):
  Calls prog 165 #[.agg #[.int .u8 tag,.int .i64 ty,.int .i64 ln,.int .i64 sz]] w (RK (.bool false) w):=by
 have k:decide (sz<1)=false:=dF (by omega)
 have l:decide (16777216<=sz)=false:=dF (by omega)
 have m:decide (ln<0)=true:=dT (by omega)
 have a:=wN w (.cells #[.int .u8 tag,.int .i64 ty,.int .i64 ln,.int .i64 sz] 111)
 have c:=(Kr Aa w).alloc (.cells #[.int .u8 tag,.int .i64 ty,.int .i64 ln,.int .i64 sz] 111)
 go_enter func165,ntmps165
 go_wp2_with fail
 obtain⟨w1,b⟩:∃ w1,w1=w.alloc (.cells #[.int .u8 tag,.int .i64 ty,.int .i64 ln,.int .i64 sz] 111):=⟨_,rfl⟩
 rw[<- b] at a c ⊢
 have c0:w1.cell? w.heap.size=some (.int .u8 tag):=by simp[World.cell?,a]
 have d:w1.cell? ⟨w.heap.size,1,none⟩=some (.int .i64 ty):=by simp[World.cell?,a]
 have e:w1.cell? ⟨w.heap.size,2,none⟩=some (.int .i64 ln):=by simp[World.cell?,a]
 have f:w1.cell? ⟨w.heap.size,3,none⟩=some (.int .i64 sz):=by simp[World.cell?,a]
 clear b a
 go_wp2
 go_ret
 exact⟨rfl,c⟩

theorem DHMay_long(tag ty ln sz:Int)(w:World)(g:1<=sz)(i:sz<16777216)(j:0<=ln)(k:16777216<=ln):
  Calls prog 165 #[.agg #[.int .u8 tag,.int .i64 ty,.int .i64 ln,.int .i64 sz]] w (RK (.bool false) w):=by
 have l:decide (sz<1)=false:=dF (by omega)
 have m:decide (16777216<=sz)=false:=dF (by omega)
 have n:decide (ln<0)=false:=dF (by omega)
 have o:decide (16777216<=ln)=true:=dT (by omega)
 have a:=wN w (.cells #[.int .u8 tag,.int .i64 ty,.int .i64 ln,.int .i64 sz] 111)
 have c:=(Kr Aa w).alloc (.cells #[.int .u8 tag,.int .i64 ty,.int .i64 ln,.int .i64 sz] 111)
 go_enter func165,ntmps165
 go_wp2_with fail
 obtain⟨w1,b⟩:∃ w1,w1=w.alloc (.cells #[.int .u8 tag,.int .i64 ty,.int .i64 ln,.int .i64 sz] 111):=⟨_,rfl⟩
 rw[<- b] at a c ⊢
 have c0:w1.cell? w.heap.size=some (.int .u8 tag):=by simp[World.cell?,a]
 have d:w1.cell? ⟨w.heap.size,1,none⟩=some (.int .i64 ty):=by simp[World.cell?,a]
 have e:w1.cell? ⟨w.heap.size,2,none⟩=some (.int .i64 ln):=by simp[World.cell?,a]
 have f:w1.cell? ⟨w.heap.size,3,none⟩=some (.int .i64 sz):=by simp[World.cell?,a]
 clear b a
 go_wp2
 go_ret
 exact⟨rfl,c⟩

theorem DHMay_obj(ty ln sz:Int)(w:World)(g:1<=sz)(i:sz<16777216)(j:0<=ln)(k:ln<16777216)(l:1<=ty)(m:ty<=4095):
  Calls prog 165 #[.agg #[.int .u8 1,.int .i64 ty,.int .i64 ln,.int .i64 sz]] w (RK (.bool true) w):=by
 have n:decide (sz<1)=false:=dF (by omega)
 have o:decide (16777216<=sz)=false:=dF (by omega)
 have p:decide (ln<0)=false:=dF (by omega)
 have q:decide (16777216<=ln)=false:=dF (by omega)
 have r:decide (1<=ty)=true:=dT (by omega)
 have s:decide (ty<=4095)=true:=dT (by omega)
 have a:=wN w (.cells #[.int .u8 1,.int .i64 ty,.int .i64 ln,.int .i64 sz] 111)
 have c:=(Kr Aa w).alloc (.cells #[.int .u8 1,.int .i64 ty,.int .i64 ln,.int .i64 sz] 111)
 go_enter func165,ntmps165
 go_wp2_with fail
 obtain⟨w1,b⟩:∃ w1,w1=w.alloc (.cells #[.int .u8 1,.int .i64 ty,.int .i64 ln,.int .i64 sz] 111):=⟨_,rfl⟩
 rw[<- b] at a c ⊢
 have c0:w1.cell? w.heap.size=some (.int .u8 1):=by simp[World.cell?,a]
 have d:w1.cell? ⟨w.heap.size,1,none⟩=some (.int .i64 ty):=by simp[World.cell?,a]
 have e:w1.cell? ⟨w.heap.size,2,none⟩=some (.int .i64 ln):=by simp[World.cell?,a]
 have f:w1.cell? ⟨w.heap.size,3,none⟩=some (.int .i64 sz):=by simp[World.cell?,a]
 clear b a
 go_wp2
 go_ret
 exact⟨rfl,c⟩

theorem DHMay_obj0(ty ln sz:Int)(w:World)(g:1<=sz)(i:sz<16777216)(j:0<=ln)(k:ln<16777216)(l:ty<1):
  Calls prog 165 #[.agg #[.int .u8 1,.int .i64 ty,.int .i64 ln,.int .i64 sz]] w (RK (.bool false) w):=by
 have m:decide (sz<1)=false:=dF (by omega)
 have n:decide (16777216<=sz)=false:=dF (by omega)
 have o:decide (ln<0)=false:=dF (by omega)
 have p:decide (16777216<=ln)=false:=dF (by omega)
 have q:decide (1<=ty)=false:=dF (by omega)
 have a:=wN w (.cells #[.int .u8 1,.int .i64 ty,.int .i64 ln,.int .i64 sz] 111)
 have c:=(Kr Aa w).alloc (.cells #[.int .u8 1,.int .i64 ty,.int .i64 ln,.int .i64 sz] 111)
 go_enter func165,ntmps165
 go_wp2_with fail
 obtain⟨w1,b⟩:∃ w1,w1=w.alloc (.cells #[.int .u8 1,.int .i64 ty,.int .i64 ln,.int .i64 sz] 111):=⟨_,rfl⟩
 rw[<- b] at a c ⊢
 have c0:w1.cell? w.heap.size=some (.int .u8 1):=by simp[World.cell?,a]
 have d:w1.cell? ⟨w.heap.size,1,none⟩=some (.int .i64 ty):=by simp[World.cell?,a]
 have e:w1.cell? ⟨w.heap.size,2,none⟩=some (.int .i64 ln):=by simp[World.cell?,a]
 have f:w1.cell? ⟨w.heap.size,3,none⟩=some (.int .i64 sz):=by simp[World.cell?,a]
 clear b a
 go_wp2
 go_ret
 exact⟨rfl,c⟩

theorem DHMay_obj9(ty ln sz:Int)(w:World)(g:1<=sz)(i:sz<16777216)(j:0<=ln)(k:ln<16777216)(l:1<=ty)(m:4095<ty):
  Calls prog 165 #[.agg #[.int .u8 1,.int .i64 ty,.int .i64 ln,.int .i64 sz]] w (RK (.bool false) w):=by
 have n:decide (sz<1)=false:=dF (by omega)
 have o:decide (16777216<=sz)=false:=dF (by omega)
 have p:decide (ln<0)=false:=dF (by omega)
 have q:decide (16777216<=ln)=false:=dF (by omega)
 have r:decide (1<=ty)=true:=dT (by omega)
 have s:decide (ty<=4095)=false:=dF (by omega)
 have a:=wN w (.cells #[.int .u8 1,.int .i64 ty,.int .i64 ln,.int .i64 sz] 111)
 have c:=(Kr Aa w).alloc (.cells #[.int .u8 1,.int .i64 ty,.int .i64 ln,.int .i64 sz] 111)
 go_enter func165,ntmps165
 go_wp2_with fail
 obtain⟨w1,b⟩:∃ w1,w1=w.alloc (.cells #[.int .u8 1,.int .i64 ty,.int .i64 ln,.int .i64 sz] 111):=⟨_,rfl⟩
 rw[<- b] at a c ⊢
 have c0:w1.cell? w.heap.size=some (.int .u8 1):=by simp[World.cell?,a]
 have d:w1.cell? ⟨w.heap.size,1,none⟩=some (.int .i64 ty):=by simp[World.cell?,a]
 have e:w1.cell? ⟨w.heap.size,2,none⟩=some (.int .i64 ln):=by simp[World.cell?,a]
 have f:w1.cell? ⟨w.heap.size,3,none⟩=some (.int .i64 sz):=by simp[World.cell?,a]
 clear b a
 go_wp2
 go_ret
 exact⟨rfl,c⟩

theorem DHMay_fil(sz:Int)(w:World)(g:1<=sz)(i:sz<16777216):
  Calls prog 165 #[.agg #[.int .u8 2,(0:Int),(0:Int),.int .i64 sz]] w (RK (.bool true) w):=by
 have j:decide (sz<1)=false:=dF (by omega)
 have k:decide (16777216<=sz)=false:=dF (by omega)
 have a:=wN w (.cells #[.int .u8 2,(0:Int),(0:Int),.int .i64 sz] 111)
 have c:=(Kr Aa w).alloc (.cells #[.int .u8 2,(0:Int),(0:Int),.int .i64 sz] 111)
 go_enter func165,ntmps165
 go_wp2_with fail
 obtain⟨w1,b⟩:∃ w1,w1=w.alloc (.cells #[.int .u8 2,(0:Int),(0:Int),.int .i64 sz] 111):=⟨_,rfl⟩
 rw[<- b] at a c ⊢
 have c0:w1.cell? w.heap.size=some (.int .u8 2):=by simp[World.cell?,a]
 have d:w1.cell? ⟨w.heap.size,1,none⟩=some (.int .i64 0):=by simp[World.cell?,a]
 have e:w1.cell? ⟨w.heap.size,2,none⟩=some (.int .i64 0):=by simp[World.cell?,a]
 have f:w1.cell? ⟨w.heap.size,3,none⟩=some (.int .i64 sz):=by simp[World.cell?,a]
 clear b a
 go_wp2
 go_ret
 exact⟨rfl,c⟩

theorem DHMay_filT(ty ln sz:Int)(w:World)(g:1<=sz)(i:sz<16777216)(j:0<=ln)(k:ln<16777216)(l:¬ ty=0):
  Calls prog 165 #[.agg #[.int .u8 2,.int .i64 ty,.int .i64 ln,.int .i64 sz]] w (RK (.bool false) w):=by
 have m:decide (sz<1)=false:=dF (by omega)
 have n:decide (16777216<=sz)=false:=dF (by omega)
 have o:decide (ln<0)=false:=dF (by omega)
 have p:decide (16777216<=ln)=false:=dF (by omega)
 have q:(ty==0)=false:=by simp;omega
 have a:=wN w (.cells #[.int .u8 2,.int .i64 ty,.int .i64 ln,.int .i64 sz] 111)
 have c:=(Kr Aa w).alloc (.cells #[.int .u8 2,.int .i64 ty,.int .i64 ln,.int .i64 sz] 111)
 go_enter func165,ntmps165
 go_wp2_with fail
 obtain⟨w1,b⟩:∃ w1,w1=w.alloc (.cells #[.int .u8 2,.int .i64 ty,.int .i64 ln,.int .i64 sz] 111):=⟨_,rfl⟩
 rw[<- b] at a c ⊢
 have c0:w1.cell? w.heap.size=some (.int .u8 2):=by simp[World.cell?,a]
 have d:w1.cell? ⟨w.heap.size,1,none⟩=some (.int .i64 ty):=by simp[World.cell?,a]
 have e:w1.cell? ⟨w.heap.size,2,none⟩=some (.int .i64 ln):=by simp[World.cell?,a]
 have f:w1.cell? ⟨w.heap.size,3,none⟩=some (.int .i64 sz):=by simp[World.cell?,a]
 clear b a
 go_wp2
 go_ret
 exact⟨rfl,c⟩

theorem DHMay_filL(ln sz:Int)(w:World)(g:1<=sz)(i:sz<16777216)(j:0<=ln)(k:ln<16777216)(l:¬ ln=0):
  Calls prog 165 #[.agg #[.int .u8 2,(0:Int),.int .i64 ln,.int .i64 sz]] w (RK (.bool false) w):=by
 have m:decide (sz<1)=false:=dF (by omega)
 have n:decide (16777216<=sz)=false:=dF (by omega)
 have o:decide (ln<0)=false:=dF (by omega)
 have p:decide (16777216<=ln)=false:=dF (by omega)
 have q:(ln==0)=false:=by simp;omega
 have a:=wN w (.cells #[.int .u8 2,(0:Int),.int .i64 ln,.int .i64 sz] 111)
 have c:=(Kr Aa w).alloc (.cells #[.int .u8 2,(0:Int),.int .i64 ln,.int .i64 sz] 111)
 go_enter func165,ntmps165
 go_wp2_with fail
 obtain⟨w1,b⟩:∃ w1,w1=w.alloc (.cells #[.int .u8 2,(0:Int),.int .i64 ln,.int .i64 sz] 111):=⟨_,rfl⟩
 rw[<- b] at a c ⊢
 have c0:w1.cell? w.heap.size=some (.int .u8 2):=by simp[World.cell?,a]
 have d:w1.cell? ⟨w.heap.size,1,none⟩=some (.int .i64 0):=by simp[World.cell?,a]
 have e:w1.cell? ⟨w.heap.size,2,none⟩=some (.int .i64 ln):=by simp[World.cell?,a]
 have f:w1.cell? ⟨w.heap.size,3,none⟩=some (.int .i64 sz):=by simp[World.cell?,a]
 clear b a
 go_wp2
 go_ret
 exact⟨rfl,c⟩

theorem DHMay_fre(sz:Int)(w:World)(g:1<=sz)(i:sz<16777216):
  Calls prog 165 #[.agg #[.int .u8 3,(0:Int),(0:Int),.int .i64 sz]] w (RK (.bool true) w):=by
 have j:decide (sz<1)=false:=dF (by omega)
 have k:decide (16777216<=sz)=false:=dF (by omega)
 have a:=wN w (.cells #[.int .u8 3,(0:Int),(0:Int),.int .i64 sz] 111)
 have c:=(Kr Aa w).alloc (.cells #[.int .u8 3,(0:Int),(0:Int),.int .i64 sz] 111)
 go_enter func165,ntmps165
 go_wp2_with fail
 obtain⟨w1,b⟩:∃ w1,w1=w.alloc (.cells #[.int .u8 3,(0:Int),(0:Int),.int .i64 sz] 111):=⟨_,rfl⟩
 rw[<- b] at a c ⊢
 have c0:w1.cell? w.heap.size=some (.int .u8 3):=by simp[World.cell?,a]
 have d:w1.cell? ⟨w.heap.size,1,none⟩=some (.int .i64 0):=by simp[World.cell?,a]
 have e:w1.cell? ⟨w.heap.size,2,none⟩=some (.int .i64 0):=by simp[World.cell?,a]
 have f:w1.cell? ⟨w.heap.size,3,none⟩=some (.int .i64 sz):=by simp[World.cell?,a]
 clear b a
 go_wp2
 go_ret
 exact⟨rfl,c⟩

theorem DHMay_freT(ty ln sz:Int)(w:World)(g:1<=sz)(i:sz<16777216)(j:0<=ln)(k:ln<16777216)(l:¬ ty=0):
  Calls prog 165 #[.agg #[.int .u8 3,.int .i64 ty,.int .i64 ln,.int .i64 sz]] w (RK (.bool false) w):=by
 have m:decide (sz<1)=false:=dF (by omega)
 have n:decide (16777216<=sz)=false:=dF (by omega)
 have o:decide (ln<0)=false:=dF (by omega)
 have p:decide (16777216<=ln)=false:=dF (by omega)
 have q:(ty==0)=false:=by simp;omega
 have a:=wN w (.cells #[.int .u8 3,.int .i64 ty,.int .i64 ln,.int .i64 sz] 111)
 have c:=(Kr Aa w).alloc (.cells #[.int .u8 3,.int .i64 ty,.int .i64 ln,.int .i64 sz] 111)
 go_enter func165,ntmps165
 go_wp2_with fail
 obtain⟨w1,b⟩:∃ w1,w1=w.alloc (.cells #[.int .u8 3,.int .i64 ty,.int .i64 ln,.int .i64 sz] 111):=⟨_,rfl⟩
 rw[<- b] at a c ⊢
 have c0:w1.cell? w.heap.size=some (.int .u8 3):=by simp[World.cell?,a]
 have d:w1.cell? ⟨w.heap.size,1,none⟩=some (.int .i64 ty):=by simp[World.cell?,a]
 have e:w1.cell? ⟨w.heap.size,2,none⟩=some (.int .i64 ln):=by simp[World.cell?,a]
 have f:w1.cell? ⟨w.heap.size,3,none⟩=some (.int .i64 sz):=by simp[World.cell?,a]
 clear b a
 go_wp2
 go_ret
 exact⟨rfl,c⟩

theorem DHMay_freL(ln sz:Int)(w:World)(g:1<=sz)(i:sz<16777216)(j:0<=ln)(k:ln<16777216)(l:¬ ln=0):
  Calls prog 165 #[.agg #[.int .u8 3,(0:Int),.int .i64 ln,.int .i64 sz]] w (RK (.bool false) w):=by
 have m:decide (sz<1)=false:=dF (by omega)
 have n:decide (16777216<=sz)=false:=dF (by omega)
 have o:decide (ln<0)=false:=dF (by omega)
 have p:decide (16777216<=ln)=false:=dF (by omega)
 have q:(ln==0)=false:=by simp;omega
 have a:=wN w (.cells #[.int .u8 3,(0:Int),.int .i64 ln,.int .i64 sz] 111)
 have c:=(Kr Aa w).alloc (.cells #[.int .u8 3,(0:Int),.int .i64 ln,.int .i64 sz] 111)
 go_enter func165,ntmps165
 go_wp2_with fail
 obtain⟨w1,b⟩:∃ w1,w1=w.alloc (.cells #[.int .u8 3,(0:Int),.int .i64 ln,.int .i64 sz] 111):=⟨_,rfl⟩
 rw[<- b] at a c ⊢
 have c0:w1.cell? w.heap.size=some (.int .u8 3):=by simp[World.cell?,a]
 have d:w1.cell? ⟨w.heap.size,1,none⟩=some (.int .i64 0):=by simp[World.cell?,a]
 have e:w1.cell? ⟨w.heap.size,2,none⟩=some (.int .i64 ln):=by simp[World.cell?,a]
 have f:w1.cell? ⟨w.heap.size,3,none⟩=some (.int .i64 sz):=by simp[World.cell?,a]
 clear b a
 go_wp2
 go_ret
 exact⟨rfl,c⟩

theorem DHMay_else(tag ty ln sz:Int)(w:World)(g:1<=sz)(i:sz<16777216)(j:0<=ln)(k:ln<16777216)(l:¬ tag=1)(m:¬ tag=2)(n:¬ tag=3):
  Calls prog 165 #[.agg #[.int .u8 tag,.int .i64 ty,.int .i64 ln,.int .i64 sz]] w (RK (.bool false) w):=by
 have o:decide (sz<1)=false:=dF (by omega)
 have p:decide (16777216<=sz)=false:=dF (by omega)
 have q:decide (ln<0)=false:=dF (by omega)
 have r:decide (16777216<=ln)=false:=dF (by omega)
 have s:(tag==1)=false:=by simp;omega
 have t:(tag==2)=false:=by simp;omega
 have u:(tag==3)=false:=by simp;omega
 have a:=wN w (.cells #[.int .u8 tag,.int .i64 ty,.int .i64 ln,.int .i64 sz] 111)
 have c:=(Kr Aa w).alloc (.cells #[.int .u8 tag,.int .i64 ty,.int .i64 ln,.int .i64 sz] 111)
 go_enter func165,ntmps165
 go_wp2_with fail
 obtain⟨w1,b⟩:∃ w1,w1=w.alloc (.cells #[.int .u8 tag,.int .i64 ty,.int .i64 ln,.int .i64 sz] 111):=⟨_,rfl⟩
 rw[<- b] at a c ⊢
 have c0:w1.cell? w.heap.size=some (.int .u8 tag):=by simp[World.cell?,a]
 have d:w1.cell? ⟨w.heap.size,1,none⟩=some (.int .i64 ty):=by simp[World.cell?,a]
 have e:w1.cell? ⟨w.heap.size,2,none⟩=some (.int .i64 ln):=by simp[World.cell?,a]
 have f:w1.cell? ⟨w.heap.size,3,none⟩=some (.int .i64 sz):=by simp[World.cell?,a]
 clear b a
 go_wp2
 go_ret
 exact⟨rfl,c⟩

theorem EO(tag ty ln sz:Int)(w:World):
  Calls prog 165 #[.agg #[.int .u8 tag,.int .i64 ty,.int .i64 ln,.int .i64 sz]] w (RK (.bool (Am tag ty ln sz)) w):=by
 have c:∀ b,b=true->Am tag ty ln sz=b->Am tag ty ln sz=true:=λ b a k=>k.trans a
 by_cases h1:sz<1
 .rw [show Am tag ty ln sz=false by simp[Am];omega];exact DHMay_small tag ty ln sz w h1
 by_cases h2:16777216<=sz
 .rw [show Am tag ty ln sz=false by simp[Am];omega];exact DHMay_big tag ty ln sz w (by omega) h2
 by_cases h3:ln<0
 .rw [show Am tag ty ln sz=false by simp[Am];omega];exact DHMay_low tag ty ln sz w (by omega) (by omega) h3
 by_cases h4:16777216<=ln
 .rw [show Am tag ty ln sz=false by simp[Am];omega];exact DHMay_long tag ty ln sz w (by omega) (by omega) (by omega) h4
 by_cases t1:tag=1
 .subst t1
  by_cases h5:ty<1
  .rw [show Am 1 ty ln sz=false by simp[Am];omega];exact DHMay_obj0 ty ln sz w (by omega) (by omega) (by omega) (by omega) h5
  by_cases h6:4095<ty
  .rw [show Am 1 ty ln sz=false by simp[Am];omega];exact DHMay_obj9 ty ln sz w (by omega) (by omega) (by omega) (by omega) (by omega) h6
  rw[show Am 1 ty ln sz=true by simp[Am];omega];exact DHMay_obj ty ln sz w (by omega) (by omega) (by omega) (by omega) (by omega) (by omega)
 by_cases t2:tag=2
 .subst t2
  by_cases h5:ty=0
  .subst h5
   by_cases h6:ln=0
   .subst h6
    rw[show Am 2 0 0 sz=true by simp[Am];omega];exact DHMay_fil sz w (by omega) (by omega)
   rw[show Am 2 0 ln sz=false by simp[Am];omega];exact DHMay_filL ln sz w (by omega) (by omega) (by omega) (by omega) h6
  rw[show Am 2 ty ln sz=false by simp[Am];omega];exact DHMay_filT ty ln sz w (by omega) (by omega) (by omega) (by omega) h5
 by_cases t3:tag=3
 .subst t3
  by_cases h5:ty=0
  .subst h5
   by_cases h6:ln=0
   .subst h6
    rw[show Am 3 0 0 sz=true by simp[Am];omega];exact DHMay_fre sz w (by omega) (by omega)
   rw[show Am 3 0 ln sz=false by simp[Am];omega];exact DHMay_freL ln sz w (by omega) (by omega) (by omega) (by omega) h6
  rw[show Am 3 ty ln sz=false by simp[Am];omega];exact DHMay_freT ty ln sz w (by omega) (by omega) (by omega) (by omega) h5
 rw[show Am tag ty ln sz=false by simp[Am];omega];exact DHMay_else tag ty ln sz w (by omega) (by omega) (by omega) (by omega) t1 t2 t3

theorem DEncode_no(tag ty ln sz:Int)(w:World)(c:Am tag ty ln sz=false):
  Calls prog 197 #[.agg #[.int .u8 tag,.int .i64 ty,.int .i64 ln,.int .i64 sz]] w (RK (.tuple #[.int .u64 0,(2:Int)]) w):=by
 have f:=(Kr Aa w).alloc (.cells #[.int .u8 tag,.int .i64 ty,.int .i64 ln,.int .i64 sz] 111)
 have a:=EO tag ty ln sz (w.alloc (.cells #[.int .u8 tag,.int .i64 ty,.int .i64 ln,.int .i64 sz] 111))
 rw[c] at a
 have b:=sE a
 clear a c
 go_enter func197,ntmps197
 go_wp2_with fail
 refine b.o.mono ?_
 rintro e w2 ⟨rfl,d⟩
 clear b
 go_wp2
 exact bodyPost_ret (v:=.tuple #[.int .u64 0,(2:Int)]) (by simp[results,results197,go_sem]) rfl ⟨rfl,f.then' d⟩

theorem FB(tag ty ln sz:Nat)(w:World)(d:Am tag ty ln sz=true):
  Calls prog 197 #[.agg #[.int .u8 tag,ty,ln,sz]] w (RK (.tuple #[.int .u64 ((BA tag ty ln sz:Nat):Int),(0:Int)]) w):=by
 obtain⟨w1,b⟩:∃ w1,w1=w.alloc (.cells #[.int .u8 tag,ty,ln,sz] 111):=⟨_,rfl⟩
 have j:Kp Aa w w1:=by rw[b];exact (Kr _ w).alloc _
 have i:w1.heap[w.heap.size]?=some (.cells #[.int .u8 tag,ty,ln,sz] 111 (0,0)):=by rw[b];exact wN w _
 have c:=EO tag ty ln sz w1
 rw[d] at c
 have g:=sE c
 have l:tag<4/\ty<4096/\ln<16777216/\sz<16777216:=by
  simp only[Am,decide_eq_true_eq] at d
  omega
 obtain⟨m,n,p,q⟩:=l
 clear c d
 go_enter func197,ntmps197
 go_wp2_with fail
 rw[<- b]
 clear b
 refine g.o.mono ?_
 rintro e w2 ⟨rfl,f⟩
 have a:=f.at_ i id
 have c0:w2.cell? w.heap.size=some (.int .u8 tag):=by simp[World.cell?,a]
 have r:w2.cell? ⟨w.heap.size,1,none⟩=some (.int .i64 ty):=by simp[World.cell?,a]
 have s:w2.cell? ⟨w.heap.size,2,none⟩=some (.int .i64 ln):=by simp[World.cell?,a]
 have t:w2.cell? ⟨w.heap.size,3,none⟩=some (.int .i64 sz):=by simp[World.cell?,a]
 have k:=j.then' f
 clear g i a j f
 go_wp2
 refine bodyPost_ret (v:=.tuple #[.int .u64 ((BA tag ty ln sz:Nat):Int),(0:Int)]) ?_ rfl ⟨rfl,k⟩
 simp[results,results197,go_sem]
 rw[BA]
 omega

theorem enc_back{X:Nat}(a:X<18446744073709551616):BA (CE X) (EA X) (EX X) (DY X)=X ↔ gapW X=0:=by
 simp only[BA,CE,EA,EX,DY,gapW]
 omega

theorem DEncode_any(tag ty ln sz:Nat)(w:World):
  Calls prog 197 #[.agg #[.int .u8 tag,ty,ln,sz]] w (RK (.tuple #[.int .u64 (if Am tag ty ln sz then ((BA tag ty ln sz:Nat):Int) else 0),.int .i64 (if Am tag ty ln sz then 0 else 2)]) w):=by
 cases h:Am tag ty ln sz with
 |false=>exact DEncode_no tag ty ln sz w h
 |true=>exact FB tag ty ln sz w h

theorem DDecode_any(X:Nat)(w:World)(Q:X<18446744073709551616):
  Calls prog 164 #[.int .u64 X] w (FC (Ct X) (CE X) (EA X) (EX X) (DY X) w):=by
 have f:(X:Int)%4=((CE X:Nat):Int):=by rw[CE];omega
 have g:(X:Int)/4%4096=((EA X:Nat):Int):=by rw[EA];omega
 have k:(X:Int)/65536%16777216=((EX X:Nat):Int):=by rw[EX];omega
 have l:(X:Int)/1099511627776=((DY X:Nat):Int):=by rw[DY];omega
 have r:=enc_back Q
 have m:Ct X=(Am (CE X:Nat) (EA X:Nat) (EX X:Nat) (DY X:Nat)&&decide (BA (CE X) (EA X) (EX X) (DY X)=X)):=by
  rw[Ct];congr 1;exact decide_eq_decide.2 r.symm
 obtain⟨d,E⟩:∃ x,CE X=x:=⟨_,rfl⟩
 obtain⟨ty,F⟩:∃ x,EA X=x:=⟨_,rfl⟩
 obtain⟨ln,C⟩:∃ x,EX X=x:=⟨_,rfl⟩
 obtain⟨sz,D⟩:∃ x,DY X=x:=⟨_,rfl⟩
 obtain⟨z,B⟩:∃ x,Ct X=x:=⟨_,rfl⟩
 rw[B,E,F,C,D] at m
 rw[E] at f ⊢
 rw[F] at g ⊢
 rw[C] at k ⊢
 rw[D] at l ⊢
 rw[B]
 obtain⟨w1,s⟩:∃ w1,w1=(w.alloc (.cells #[.int .u8 0,(0:Int),(0:Int),(0:Int)] 111)).alloc (.cells #[.int .u8 d,ty,ln,sz] 111):=⟨_,rfl⟩
 have R:Kp Aa w w1:=by rw[s];exact ((Kr _ w).alloc _).alloc _
 have I:w1.heap[w.heap.size]?=some (.cells #[.int .u8 0,(0:Int),(0:Int),(0:Int)] 111 (0,0)):=by
  rw[s];exact ((Kr Aa _).alloc _).at_ (wN w _) id
 have J:w1.heap[w.heap.size+1]?=some (.cells #[.int .u8 d,ty,ln,sz] 111 (0,0)):=by
  rw[s];have:=wN (w.alloc (.cells #[.int .u8 0,(0:Int),(0:Int),(0:Int)] 111)) (.cells #[.int .u8 d,ty,ln,sz] 111);rwa [World.size_alloc] at this
 have H:=sE (DEncode_any d ty ln sz w1)
 have M:=sE f
 have N:=sE g
 have O:=sE k
 have P:=sE l
 clear f g k l r E F C D B
 go_enter func164,ntmps164
 go_wp2_with fail
 rw[M.o,N.o,O.o,P.o,<- s]
 clear s
 refine H.o.mono ?_
 rintro e w2 ⟨rfl,G⟩
 have n:=G.at_ I id
 have p:=G.at_ J id
 have S:w2.cell? w.heap.size=some (.int .u8 0):=by simp[World.cell?,n]
 have T:w2.cell? ⟨w.heap.size,1,none⟩=some (.int .i64 0):=by simp[World.cell?,n]
 have U:w2.cell? ⟨w.heap.size,2,none⟩=some (.int .i64 0):=by simp[World.cell?,n]
 have V:w2.cell? ⟨w.heap.size,3,none⟩=some (.int .i64 0):=by simp[World.cell?,n]
 have W:w2.cell? ⟨w.heap.size+1,0,none⟩=some (.int .u8 d):=by simp[World.cell?,p]
 have Z:w2.cell? ⟨w.heap.size+1,1,none⟩=some (.int .i64 ty):=by simp[World.cell?,p]
 have a0:w2.cell? ⟨w.heap.size+1,2,none⟩=some (.int .i64 ln):=by simp[World.cell?,p]
 have a1:w2.cell? ⟨w.heap.size+1,3,none⟩=some (.int .i64 sz):=by simp[World.cell?,p]
 have q:=Ab n
 have f00:=q 0
 have f01:=q 1
 have f02:=q 2
 have f03:=q 3
 have y:=R.then' G
 have u:=sE n
 clear I n q H J p
 cases hok:Am (d:Nat) (ty:Nat) (ln:Nat) (sz:Nat) with
 |false=>
  rw[hok] at m
  obtain rfl:z=false:=m
  clear hok
  dsimp only[Bool.false_eq_true,if_false]
  rw[if_neg (by simp),if_neg (by simp)]
  go_wp2
  obtain⟨a,b⟩:∃ a,a=(((w2.setCell w.heap.size (.int .u8 0)).setCell ⟨w.heap.size,1,none⟩ (.int .i64 0)).setCell ⟨w.heap.size,2,none⟩ (.int .i64 0)).setCell ⟨w.heap.size,3,none⟩ (.int .i64 0):=⟨_,rfl⟩
  rw[<- b]
  have c:a.heap[w.heap.size]?=some (.cells #[.int .u8 0,(0:Int),(0:Int),(0:Int)] 111 (0,0)):=by
   rw[b];exact bZ (bZ (bZ (bZ u.o (j:=0) _) (j:=1) _) (j:=2) _) (j:=3) _
  have t:Kp (λ i=>i=w.heap.size) w2 a:=by rw[b];exact ((((Kr (λ i=>i=w.heap.size) w2).setCell (λ _=>rfl) _).setCell (λ _=>rfl) _).setCell (λ _=>rfl) _).setCell (λ _=>rfl) _
  clear b
  have f:a.cell? w.heap.size=some (.int .u8 0):=by simp[World.cell?,c]
  have g:a.cell? ⟨w.heap.size,1,none⟩=some (.int .i64 0):=by simp[World.cell?,c]
  have k:a.cell? ⟨w.heap.size,2,none⟩=some (.int .i64 0):=by simp[World.cell?,c]
  have l:a.cell? ⟨w.heap.size,3,none⟩=some (.int .i64 0):=by simp[World.cell?,c]
  refine bodyPost_ret (v:=.tuple #[Ao 0 0 0 0,(7:Int)]) (by simp[results,results164,go_sem,f,g,k,l,Ao]) rfl ⟨rfl,y.trans t (λ i L K=>by omega)⟩
 |true=>
  rw[hok] at m
  rw[if_pos rfl,if_pos rfl]
  obtain⟨Y,A⟩:∃ Y,BA d ty ln sz=Y:=⟨_,rfl⟩
  rw[A] at m ⊢
  by_cases hYX:Y=X
  .obtain rfl:z=true:=by rw[m];simp [hYX]
   have r:((Y:Int) !=(X:Int))=false:=by rw[hYX];simp
   rw[hYX]
   rw[hYX] at r
   clear m hok A hYX
   go_wp2
   obtain⟨a,b⟩:∃ a,a=(((w2.setCell w.heap.size (.int .u8 d)).setCell ⟨w.heap.size,1,none⟩ (.int .i64 ty)).setCell ⟨w.heap.size,2,none⟩ (.int .i64 ln)).setCell ⟨w.heap.size,3,none⟩ (.int .i64 sz):=⟨_,rfl⟩
   rw[<- b]
   have c:a.heap[w.heap.size]?=some (.cells #[.int .u8 d,ty,ln,sz] 111 (0,0)):=by
    rw[b];exact bZ (bZ (bZ (bZ u.o (j:=0) _) (j:=1) _) (j:=2) _) (j:=3) _
   have t:Kp (λ i=>i=w.heap.size) w2 a:=by rw[b];exact ((((Kr (λ i=>i=w.heap.size) w2).setCell (λ _=>rfl) _).setCell (λ _=>rfl) _).setCell (λ _=>rfl) _).setCell (λ _=>rfl) _
   clear b
   have f:a.cell? w.heap.size=some (.int .u8 d):=by simp[World.cell?,c]
   have g:a.cell? ⟨w.heap.size,1,none⟩=some (.int .i64 ty):=by simp[World.cell?,c]
   have k:a.cell? ⟨w.heap.size,2,none⟩=some (.int .i64 ln):=by simp[World.cell?,c]
   have l:a.cell? ⟨w.heap.size,3,none⟩=some (.int .i64 sz):=by simp[World.cell?,c]
   refine bodyPost_ret (v:=.tuple #[Ao (d:Nat) (ty:Nat) (ln:Nat) (sz:Nat),(0:Int)]) (by simp[results,results164,go_sem,f,g,k,l,Ao]) rfl ⟨rfl,y.trans t (λ i L K=>by omega)⟩
  .obtain rfl:z=false:=by rw[m];simp [hYX]
   have r:((Y:Int) !=(X:Int))=true:=by simp;omega
   clear m hok A hYX
   go_wp2
   obtain⟨a,b⟩:∃ a,a=(((w2.setCell w.heap.size (.int .u8 0)).setCell ⟨w.heap.size,1,none⟩ (.int .i64 0)).setCell ⟨w.heap.size,2,none⟩ (.int .i64 0)).setCell ⟨w.heap.size,3,none⟩ (.int .i64 0):=⟨_,rfl⟩
   rw[<- b]
   have c:a.heap[w.heap.size]?=some (.cells #[.int .u8 0,(0:Int),(0:Int),(0:Int)] 111 (0,0)):=by
    rw[b];exact bZ (bZ (bZ (bZ u.o (j:=0) _) (j:=1) _) (j:=2) _) (j:=3) _
   have t:Kp (λ i=>i=w.heap.size) w2 a:=by rw[b];exact ((((Kr (λ i=>i=w.heap.size) w2).setCell (λ _=>rfl) _).setCell (λ _=>rfl) _).setCell (λ _=>rfl) _).setCell (λ _=>rfl) _
   clear b
   have f:a.cell? w.heap.size=some (.int .u8 0):=by simp[World.cell?,c]
   have g:a.cell? ⟨w.heap.size,1,none⟩=some (.int .i64 0):=by simp[World.cell?,c]
   have k:a.cell? ⟨w.heap.size,2,none⟩=some (.int .i64 0):=by simp[World.cell?,c]
   have l:a.cell? ⟨w.heap.size,3,none⟩=some (.int .i64 0):=by simp[World.cell?,c]
   refine bodyPost_ret (v:=.tuple #[Ao 0 0 0 0,(7:Int)]) (by simp[results,results164,go_sem,f,g,k,l,Ao]) rfl ⟨rfl,y.trans t (λ i L K=>by omega)⟩

theorem DGap_yes(tag:Int)(sz:Nat)(w:World)(P:tag=2\/tag=3)(M:1<=sz)(N:sz<=65536):
  Calls prog 218 #[.int .u8 tag,sz] w (RK (.tuple #[Ao tag 0 0 (sz:Nat),(0:Int)]) w):=by
 have r:Am tag 0 0 (sz:Nat)=true:=by simp[Am];omega
 have C:¬ tag=1:=by omega
 have Q:(tag==1)=false:=by simpa using C
 obtain⟨w1,f⟩:∃ w1,w1=(w.alloc (.cells #[.int .u8 0,(0:Int),(0:Int),(0:Int)] 111)).alloc (.cells #[.int .u8 tag,(0:Int),(0:Int),sz] 111):=⟨_,rfl⟩
 have A:Kp Aa w w1:=by rw[f];exact ((Kr _ w).alloc _).alloc _
 have p:w1.heap[w.heap.size]?=some (.cells #[.int .u8 0,(0:Int),(0:Int),(0:Int)] 111 (0,0)):=by
  rw[f];exact ((Kr Aa _).alloc _).at_ (wN w _) id
 have q:w1.heap[w.heap.size+1]?=some (.cells #[.int .u8 tag,(0:Int),(0:Int),sz] 111 (0,0)):=by
  rw[f];have:=wN (w.alloc (.cells #[.int .u8 0,(0:Int),(0:Int),(0:Int)] 111)) (.cells #[.int .u8 tag,(0:Int),(0:Int),sz] 111);rwa [World.size_alloc] at this
 have l:=EO tag 0 0 (sz:Nat) w1
 rw[r] at l
 have n:=sE l
 clear l r
 go_enter func218,ntmps218
 go_wp2_with fail
 rw[<- f]
 clear f
 refine n.o.mono ?_
 rintro e w2 ⟨rfl,m⟩
 have b:=m.at_ p id
 have c:=m.at_ q id
 have D:w2.cell? w.heap.size=some (.int .u8 0):=by simp[World.cell?,b]
 have E:w2.cell? ⟨w.heap.size,1,none⟩=some (.int .i64 0):=by simp[World.cell?,b]
 have F:w2.cell? ⟨w.heap.size,2,none⟩=some (.int .i64 0):=by simp[World.cell?,b]
 have G:w2.cell? ⟨w.heap.size,3,none⟩=some (.int .i64 0):=by simp[World.cell?,b]
 have H:w2.cell? ⟨w.heap.size+1,0,none⟩=some (.int .u8 tag):=by simp[World.cell?,c]
 have I:w2.cell? ⟨w.heap.size+1,1,none⟩=some (.int .i64 0):=by simp[World.cell?,c]
 have J:w2.cell? ⟨w.heap.size+1,2,none⟩=some (.int .i64 0):=by simp[World.cell?,c]
 have K:w2.cell? ⟨w.heap.size+1,3,none⟩=some (.int .i64 sz):=by simp[World.cell?,c]
 have d:=Ab b
 have f00:=d 0
 have f01:=d 1
 have f02:=d 2
 have f03:=d 3
 have t:=A.then' m
 have s:=sE b
 clear p b d n q c
 go_wp2
 obtain⟨a,g⟩:∃ a,a=(((w2.setCell w.heap.size (.int .u8 tag)).setCell ⟨w.heap.size,1,none⟩ (.int .i64 0)).setCell ⟨w.heap.size,2,none⟩ (.int .i64 0)).setCell ⟨w.heap.size,3,none⟩ (.int .i64 sz):=⟨_,rfl⟩
 rw[<- g]
 have k:a.heap[w.heap.size]?=some (.cells #[.int .u8 tag,(0:Int),(0:Int),sz] 111 (0,0)):=by
  rw[g];exact bZ (bZ (bZ (bZ s.o (j:=0) _) (j:=1) _) (j:=2) _) (j:=3) _
 have B:Kp (λ i=>i=w.heap.size) w2 a:=by rw[g];exact ((((Kr (λ i=>i=w.heap.size) w2).setCell (λ _=>rfl) _).setCell (λ _=>rfl) _).setCell (λ _=>rfl) _).setCell (λ _=>rfl) _
 clear g
 have u:a.cell? w.heap.size=some (.int .u8 tag):=by simp[World.cell?,k]
 have x:a.cell? ⟨w.heap.size,1,none⟩=some (.int .i64 0):=by simp[World.cell?,k]
 have y:a.cell? ⟨w.heap.size,2,none⟩=some (.int .i64 0):=by simp[World.cell?,k]
 have z:a.cell? ⟨w.heap.size,3,none⟩=some (.int .i64 sz):=by simp[World.cell?,k]
 refine bodyPost_ret (v:=.tuple #[Ao tag 0 0 (sz:Nat),(0:Int)]) (by simp[results,results218,go_sem,u,x,y,z,Ao]) rfl ⟨rfl,t.trans B (λ i O L=>by omega)⟩

theorem DHOf_any(v:Value)(c n:Int)(ts:List TypR)(w:World)(D:A8 w v ts)(J:ts.length<=17592186044416)(C:Cw ts):
  Calls prog 150 #[v,.int .i64 c,.int .i64 n] w (BR ts c n w):=by
 obtain⟨w1,l⟩:∃ w1,w1=w.alloc (.cells #[.int .u8 0,(0:Int),(0:Int),(0:Int)] 111):=⟨_,rfl⟩
 have F:Kp Aa w w1:=by rw[l];exact (Kr _ w).alloc _
 have B:w1.heap[w.heap.size]?=some (.cells #[.int .u8 0,(0:Int),(0:Int),(0:Int)] 111 (0,0)):=by rw[l];exact wN w _
 have z:=sE (DTSize_any v c n ts w1 (D.Ac F) J C)
 clear D C
 go_enter func150,ntmps150
 go_wp2_with fail
 rw[<- l]
 clear l
 refine z.o.mono ?_
 rintro e w2 ⟨rfl,E⟩
 have f:=E.at_ B (λ s=>s)
 have K:w2.cell? w.heap.size=some (.int .u8 0):=by simp[World.cell?,f]
 have L:w2.cell? ⟨w.heap.size,1,none⟩=some (.int .i64 0):=by simp[World.cell?,f]
 have M:w2.cell? ⟨w.heap.size,2,none⟩=some (.int .i64 0):=by simp[World.cell?,f]
 have N:w2.cell? ⟨w.heap.size,3,none⟩=some (.int .i64 0):=by simp[World.cell?,f]
 have k:=Ab f
 have f00:=k 0
 have f01:=k 1
 have f02:=k 2
 have f03:=k 3
 have A:=F.then' E
 have y:=sE f
 clear B f k z
 obtain⟨g,t⟩:∃ g,AV ts c n=g:=⟨_,rfl⟩
 obtain⟨S,u⟩:∃ S,BB ts c n=S:=⟨_,rfl⟩
 have H1:=sE t
 have H:=sE u
 rw[t,u]
 clear t u
 by_cases h0:g=0
 .subst h0
  rw[if_pos rfl]
  go_wp2
  obtain⟨a,b⟩:∃ a,a=(((w2.setCell w.heap.size (.int .u8 1)).setCell ⟨w.heap.size,1,none⟩ (.int .i64 c)).setCell ⟨w.heap.size,2,none⟩ (.int .i64 n)).setCell ⟨w.heap.size,3,none⟩ (.int .i64 S):=⟨_,rfl⟩
  rw[<- b]
  have d:a.heap[w.heap.size]?=some (.cells #[.int .u8 1,.int .i64 c,.int .i64 n,.int .i64 S] 111 (0,0)):=by
   rw[b];exact bZ (bZ (bZ (bZ y.o (j:=0) _) (j:=1) _) (j:=2) _) (j:=3) _
  have x:Kp (λ i=>i=w.heap.size) w2 a:=by rw[b];exact ((((Kr (λ i=>i=w.heap.size) w2).setCell (λ _=>rfl) _).setCell (λ _=>rfl) _).setCell (λ _=>rfl) _).setCell (λ _=>rfl) _
  clear b
  have m:a.cell? w.heap.size=some (.int .u8 1):=by simp[World.cell?,d]
  have p:a.cell? ⟨w.heap.size,1,none⟩=some (.int .i64 c):=by simp[World.cell?,d]
  have q:a.cell? ⟨w.heap.size,2,none⟩=some (.int .i64 n):=by simp[World.cell?,d]
  have r:a.cell? ⟨w.heap.size,3,none⟩=some (.int .i64 S):=by simp[World.cell?,d]
  refine bodyPost_ret (v:=.tuple #[Ao 1 c n S,(0:Int)]) (by simp[results,results150,go_sem,m,p,q,r,Ao]) rfl ⟨by rw[H1.o,H.o];rfl,A.trans x (λ i I s=>by omega)⟩
 .have O:(g !=0)=true:=by simpa using h0
  rw[if_neg h0]
  have G:=sE h0
  clear h0
  go_wp2
  obtain⟨a,b⟩:∃ a,a=(((w2.setCell w.heap.size (.int .u8 0)).setCell ⟨w.heap.size,1,none⟩ (.int .i64 0)).setCell ⟨w.heap.size,2,none⟩ (.int .i64 0)).setCell ⟨w.heap.size,3,none⟩ (.int .i64 0):=⟨_,rfl⟩
  rw[<- b]
  have d:a.heap[w.heap.size]?=some (.cells #[.int .u8 0,(0:Int),(0:Int),(0:Int)] 111 (0,0)):=by
   rw[b];exact bZ (bZ (bZ (bZ y.o (j:=0) _) (j:=1) _) (j:=2) _) (j:=3) _
  have x:Kp (λ i=>i=w.heap.size) w2 a:=by rw[b];exact ((((Kr (λ i=>i=w.heap.size) w2).setCell (λ _=>rfl) _).setCell (λ _=>rfl) _).setCell (λ _=>rfl) _).setCell (λ _=>rfl) _
  clear b
  have m:a.cell? w.heap.size=some (.int .u8 0):=by simp[World.cell?,d]
  have p:a.cell? ⟨w.heap.size,1,none⟩=some (.int .i64 0):=by simp[World.cell?,d]
  have q:a.cell? ⟨w.heap.size,2,none⟩=some (.int .i64 0):=by simp[World.cell?,d]
  have r:a.cell? ⟨w.heap.size,3,none⟩=some (.int .i64 0):=by simp[World.cell?,d]
  refine bodyPost_ret (v:=.tuple #[Ao 0 0 0 0,.int .i64 g]) (by simp[results,results150,go_sem,m,p,q,r,Ao]) rfl ⟨by rw[H1.o,if_neg G.o],A.trans x (λ i I s=>by omega)⟩

def CU(ts:List TypR)(tag ty ln sz:Int):Int:=
 if Am tag ty ln sz then (if tag=1 then (if AV ts ty ln=0/\BB ts ty ln=sz then 0 else 8) else 0) else 2

attribute [local go_sem ↓] EJ

theorem DFits_bad(v:Value)(tag ty ln sz:Int)(ts:List TypR)(w:World)(b:Am tag ty ln sz=false):
  Calls prog 114 #[v,Ao tag ty ln sz] w (RK (.int .i64 (CU ts tag ty ln sz)) w):=by
 rw[show CU ts tag ty ln sz=2 by rw[CU,if_neg (by rw[b];simp)]]
 have g:=(Kr Aa w).alloc (.cells #[.int .u8 tag,.int .i64 ty,.int .i64 ln,.int .i64 sz] 111)
 have a:=EO tag ty ln sz (w.alloc (.cells #[.int .u8 tag,.int .i64 ty,.int .i64 ln,.int .i64 sz] 111))
 rw[b] at a
 unfold Ao
 have c:=sE a
 clear a b
 go_enter func114,ntmps114
 go_wp2_with fail
 refine c.o.mono ?_
 rintro e w2 ⟨rfl,f⟩
 have d:=g.then' f
 clear c
 go_wp2
 go_ret
 exact⟨rfl,d⟩

theorem DFits_gap(v:Value)(tag ty ln sz:Int)(ts:List TypR)(w:World)(b:Am tag ty ln sz=true)(g:¬ tag=1):
  Calls prog 114 #[v,Ao tag ty ln sz] w (RK (.int .i64 (CU ts tag ty ln sz)) w):=by
 rw[show CU ts tag ty ln sz=0 by rw[CU,if_pos b,if_neg g]]
 have k:=(Kr Aa w).alloc (.cells #[.int .u8 tag,.int .i64 ty,.int .i64 ln,.int .i64 sz] 111)
 have f:=wN w (.cells #[.int .u8 tag,.int .i64 ty,.int .i64 ln,.int .i64 sz] 111)
 have a:=EO tag ty ln sz (w.alloc (.cells #[.int .u8 tag,.int .i64 ty,.int .i64 ln,.int .i64 sz] 111))
 rw[b] at a
 unfold Ao
 have d:=sE a
 have m:(tag !=1)=true:=by simpa using g
 clear a b
 go_enter func114,ntmps114
 go_wp2_with fail
 refine d.o.mono ?_
 rintro e w2 ⟨rfl,i⟩
 have c:=i.at_ f id
 have l:w2.cell? w.heap.size=some (.int .u8 tag):=by simp[World.cell?,c]
 have j:=k.then' i
 clear f c d
 go_wp2
 go_ret
 exact⟨rfl,j⟩

theorem fitsE_obj{ts:List TypR}{ty ln sz:Int}(h:Am 1 ty ln sz=true):CU ts 1 ty ln sz=if AV ts ty ln=0 then (if BB ts ty ln=sz then 0 else 8) else 8:=by
 rw[CU,if_pos h,if_pos rfl]
 by_cases h1:AV ts ty ln=0 <;> by_cases h2:BB ts ty ln=sz <;> simp[h1,h2]

theorem DFits_obj(v:Value)(ty ln sz:Int)(ts:List TypR)(w:World)(B:A8 w v ts)(I:ts.length<=17592186044416)(z:Cw ts)(x:Am 1 ty ln sz=true):
  Calls prog 114 #[v,Ao 1 ty ln sz] w (RK (.int .i64 (CU ts 1 ty ln sz)) w):=by
 rw[fitsE_obj x]
 have C:=(Kr Aa w).alloc (.cells #[.int .u8 1,.int .i64 ty,.int .i64 ln,.int .i64 sz] 111)
 have l:=wN w (.cells #[.int .u8 1,.int .i64 ty,.int .i64 ln,.int .i64 sz] 111)
 have s:=EO 1 ty ln sz (w.alloc (.cells #[.int .u8 1,.int .i64 ty,.int .i64 ln,.int .i64 sz] 111))
 rw[x] at s
 have d:∀ W,Kp Aa w W->Calls prog 150 #[v,.int .i64 ty,.int .i64 ln] W (BR ts ty ln W):=λ W k=>DHOf_any v ty ln ts W (B.Ac k) I z
 unfold BR at d
 obtain⟨t,y⟩:∃ t,AV ts ty ln=t:=⟨_,rfl⟩
 obtain⟨S,A⟩:∃ S,BB ts ty ln=S:=⟨_,rfl⟩
 rw[y,A] at d ⊢
 unfold Ao at d ⊢
 have j:=sE s
 by_cases h0:t=0
 .subst h0
  rw[if_pos rfl] at d ⊢
  have u:=sE d
  obtain⟨r,q⟩:∃ r:Int,(if S=sz then 0 else 8)=r:=⟨_,rfl⟩
  rw[q]
  clear s d x B z y A
  by_cases hz:S=sz
  .subst hz
   rw[if_pos rfl] at q
   subst q
   go_enter func114,ntmps114
   go_wp2_with fail
   refine j.o.mono ?_
   rintro e w2 ⟨rfl,g⟩
   have b:=g.at_ l id
   have m:w2.cell? w.heap.size=some (.int .u8 1):=by simp[World.cell?,b]
   have n:w2.cell? ⟨w.heap.size,1,none⟩=some (.int .i64 ty):=by simp[World.cell?,b]
   have p:w2.cell? ⟨w.heap.size,2,none⟩=some (.int .i64 ln):=by simp[World.cell?,b]
   have f:=C.then' g
   clear l j
   go_wp2_with fail
   refine(u.o _ f).mono ?_
   rintro e c ⟨rfl,i⟩
   have a:=i.at_ b id
   have G:=lZ a
   have c0:c.cell? w.heap.size=some (.int .u8 1):=by simp[World.cell?,a]
   have D:c.cell? ⟨w.heap.size,1,none⟩=some (.int .i64 ty):=by simp[World.cell?,a]
   have E:c.cell? ⟨w.heap.size,2,none⟩=some (.int .i64 ln):=by simp[World.cell?,a]
   have F:c.cell? ⟨w.heap.size,3,none⟩=some (.int .i64 S):=by simp[World.cell?,a]
   clear m n p b a
   go_wp2
   go_ret
   exact⟨rfl,(f.then' i).alloc _⟩
  .have H:(S==sz)=false:=by simpa using hz
   rw[if_neg hz] at q
   subst q
   go_enter func114,ntmps114
   go_wp2_with fail
   refine j.o.mono ?_
   rintro e w2 ⟨rfl,g⟩
   have b:=g.at_ l id
   have m:w2.cell? w.heap.size=some (.int .u8 1):=by simp[World.cell?,b]
   have n:w2.cell? ⟨w.heap.size,1,none⟩=some (.int .i64 ty):=by simp[World.cell?,b]
   have p:w2.cell? ⟨w.heap.size,2,none⟩=some (.int .i64 ln):=by simp[World.cell?,b]
   have f:=C.then' g
   clear l j
   go_wp2_with fail
   refine(u.o _ f).mono ?_
   rintro e c ⟨rfl,i⟩
   have a:=i.at_ b id
   have G:=lZ a
   have c0:c.cell? w.heap.size=some (.int .u8 1):=by simp[World.cell?,a]
   have D:c.cell? ⟨w.heap.size,1,none⟩=some (.int .i64 ty):=by simp[World.cell?,a]
   have E:c.cell? ⟨w.heap.size,2,none⟩=some (.int .i64 ln):=by simp[World.cell?,a]
   have F:c.cell? ⟨w.heap.size,3,none⟩=some (.int .i64 sz):=by simp[World.cell?,a]
   clear m n p b a hz
   go_wp2
   go_ret
   exact⟨rfl,(f.then' i).alloc _⟩
 .have H:(t !=0)=true:=by simpa using h0
  rw[if_neg h0] at d ⊢
  have u:=sE d
  clear s d x B z y A h0
  go_enter func114,ntmps114
  go_wp2_with fail
  refine j.o.mono ?_
  rintro e w2 ⟨rfl,g⟩
  have b:=g.at_ l id
  have m:w2.cell? w.heap.size=some (.int .u8 1):=by simp[World.cell?,b]
  have n:w2.cell? ⟨w.heap.size,1,none⟩=some (.int .i64 ty):=by simp[World.cell?,b]
  have p:w2.cell? ⟨w.heap.size,2,none⟩=some (.int .i64 ln):=by simp[World.cell?,b]
  have f:=C.then' g
  clear l j
  go_wp2_with fail
  refine(u.o _ f).mono ?_
  rintro e c ⟨rfl,i⟩
  have a:=i.at_ b id
  have G:=lZ a
  have c0:c.cell? w.heap.size=some (.int .u8 1):=by simp[World.cell?,a]
  have D:c.cell? ⟨w.heap.size,1,none⟩=some (.int .i64 ty):=by simp[World.cell?,a]
  have E:c.cell? ⟨w.heap.size,2,none⟩=some (.int .i64 ln):=by simp[World.cell?,a]
  have F:c.cell? ⟨w.heap.size,3,none⟩=some (.int .i64 sz):=by simp[World.cell?,a]
  clear m n p b a
  go_wp2
  go_ret
  exact⟨rfl,(f.then' i).alloc _⟩

theorem DFits_any(v:Value)(tag ty ln sz:Int)(ts:List TypR)(w:World)(c:A8 w v ts)(b:ts.length<=17592186044416)(a:Cw ts):
  Calls prog 114 #[v,Ao tag ty ln sz] w (RK (.int .i64 (CU ts tag ty ln sz)) w):=by
 cases h:Am tag ty ln sz with
 |false=>exact DFits_bad v tag ty ln sz ts w h
 |true=>
  by_cases ht:tag=1
  .subst ht;exact DFits_obj v ty ln sz ts w c b a h
  .exact DFits_gap v tag ty ln sz ts w h ht

end

section
open Go.RowKit

structure WRow(w:World)(q n:Nat)(W:Nat->Nat):Prop where
 hq:∃ cs,w.heap[q]?=some (.cells cs 79 (0,0))/\n<=cs.size/\∀ j,j<n->cs[j]?=some (.int .u64 (W j:Nat))
 small:n<=65536
 fits:∀ j,j<n->W j<18446744073709551616

theorem WRow.keep{S:Nat->Prop}{w w':World}{q n:Nat}{W:Nat->Nat}(a:WRow w q n W)(k:Kp S w w')(e:¬ S q):WRow w' q n W:=by
 obtain⟨cs,b,c,d⟩:=a.hq
 exact⟨⟨cs,k.at_ b e,c,d⟩,a.small,a.fits⟩

theorem WRow.Ac{w w':World}{q n:Nat}{W:Nat->Nat}(h:WRow w q n W)(k:Kp Aa w w'):WRow w' q n W:=h.keep k id

theorem WRow.at_{w:World}{q n:Nat}{W:Nat->Nat}(a:WRow w q n W){j:Nat}(d:j<n):w.cell? ⟨q,j,none⟩=some (.int .u64 (W j:Nat)):=by
 obtain⟨cs,b,e,c⟩:=a.hq
 simp only[World.cell?,b]
 exact c j d

theorem WRow.lt{w:World}{q n:Nat}{W:Nat->Nat}(h:WRow w q n W):q<w.heap.size:=by obtain⟨_,h,_⟩:=h.hq;exact lZ h

theorem WRow.free{w:World}{q n:Nat}{W:Nat->Nat}(a:WRow w q n W)(j:Nat):w.frozen? ⟨q,j,none⟩=false:=by
 obtain⟨cs,b,c,d⟩:=a.hq
 exact Ab b j

theorem WRow.store{w:World}{q n:Nat}{W:Nat->Nat}(a:WRow w q n W){j:Nat}(k:j<n)(z:Nat)(g:z<18446744073709551616):WRow (w.setCell ⟨q,j,none⟩ (.int .u64 z)) q n (DN W j z):=by
 obtain⟨cs,c,d,f⟩:=a.hq
 refine⟨⟨_,bZ c _,by simpa using d,λ i b=>?_⟩,a.small,λ i b=>?_⟩
 .rw [Array.getElem?_setIfInBounds,DN]
  by_cases e:j=i
  .subst e
   rw[if_pos rfl,if_pos (by omega),if_pos rfl]
  .rw [if_neg e,if_neg (by omega)]
   exact f i b
 .rw [DN];split
  .exact g
  .exact a.fits i b

structure DocAt(w:World)(rb q n:Nat)(W:Nat->Nat)(lv:Value):Prop where
 hr:∃ cap,w.heap[rb]?=some (.cells #[.slice (some ⟨q,0,none⟩) n cap,lv] 51 (0,0))
 row:WRow w q n W

theorem DocAt.keep{S:Nat->Prop}{w w':World}{a q n:Nat}{W:Nat->Nat}{c:Value}(b:DocAt w a q n W c)(k:Kp S w w')(f:¬ S a)(e:¬ S q):DocAt w' a q n W c:=by
 obtain⟨cap,d⟩:=b.hr
 exact⟨⟨cap,k.at_ d f⟩,b.row.keep k e⟩

theorem DocAt.Ac{w w':World}{b q n:Nat}{W:Nat->Nat}{a:Value}(c:DocAt w b q n W a)(k:Kp Aa w w'):DocAt w' b q n W a:=c.keep k id id

theorem DocAt.lt{w:World}{b q n:Nat}{W:Nat->Nat}{c:Value}(a:DocAt w b q n W c):b<w.heap.size:=by obtain⟨_,a⟩:=a.hr;exact lZ a

theorem DocAt.ne{w:World}{c q n:Nat}{W:Nat->Nat}{f:Value}(b:DocAt w c q n W f):¬ c=q:=by
 obtain⟨_,d⟩:=b.hr
 obtain⟨_,a,_⟩:=b.row.hq
 intro e
 subst e
 rw[d] at a
 injection a with a
 injection a with _ h3
 exact absurd h3 (by decide)

theorem DocAt.head{w:World}{a q n:Nat}{W:Nat->Nat}{c:Value}(d:DocAt w a q n W c):∃ cap,w.cell? a=some (.slice (some ⟨q,0,none⟩) n cap)/\w.cell? ⟨a,1,none⟩=some c:=by
 obtain⟨cap,b⟩:=d.hr
 exact⟨cap,by simp[World.cell?,b],by simp[World.cell?,b]⟩

theorem DocAt.free{w:World}{a q n:Nat}{W:Nat->Nat}{d:Value}(b:DocAt w a q n W d)(j:Nat):w.frozen? ⟨a,j,none⟩=false:=by
 obtain⟨_,c⟩:=b.hr
 exact Ab c j

def wordVF(W:Nat->Nat)(n:Nat):List Value:=(List.range n).map λ j=>.int .u64 (W j:Nat)

theorem wordVF_at(W:Nat->Nat)(n j:Nat)(a:j<n):(wordVF W n)[j]?=some (.int .u64 (W j:Nat)):=by
 simp[wordVF,a]

theorem info_word:∃ i,prog.info? 79=some i/\i.zero=some (.int .u64 0)/\i.size=1/\i.bytes=8:=by
 obtain⟨i,a,b,c,d⟩:=info_parts infoWord
 exact⟨i,a,b,c,d⟩

theorem copy_words{w:World}{ops:Array Oper}{rest:List Oper}{o:Oper}{a:Act}{Q:Exit->Act->World->Prop}(A:o.guard=none)(x:Operand)
  (F:o.op=.call {callee:=.builtin .append,args:=#[.const (.slice none 0 0),x],argTypes:=#[49,49]}) (q n cap:Nat) (W:Nat->Nat) (I:a.eval x=.slice (some ⟨q,0,none⟩) n cap)
  (i:WRow w q n W) (N:0<n)
  (s:∀ w' l f,WRow w' l n W->w.heap.size<=l->Kp Aa w w'->wpList prog ops Q rest (a.put o.dst (.slice (some ⟨l,0,none⟩) n f)) w'):wpList prog ops Q (o::rest) a w:=by
 obtain⟨M,C,J,K,L⟩:=info_word
 have H:=i.small
 refine wpList_append_own_at w A (.const (.slice none 0 0)) x 49 F w.heap.size 79 M _ 1 8 EC C J K L rfl (by omega) (.slice none 0 0) 0 [] rfl (World.ownsRow_nil _ _ _ _) ⟨q,0,none⟩ n cap (wordVF W n) I (by simp[wordVF]) ?_ ?_ (by unfold maxLen;omega) (by omega) (Nat.le_refl _) ?_
 .intro j u d
  have c:j<n:=by
   have:=(gE.1 d).1
   simpa [wordVF] using this
  rw[wordVF_at W n j c] at d
  rw[<- Option.some.inj d]
  rw[Addr.add_lit,Nat.zero_add]
  exact i.at_ c
 .intro u d
  obtain⟨_,_,rfl⟩:=List.mem_map.1 d
  rfl
 .intro S w' G B E P
  have D:Kp Aa w w':=(Kr Aa w).grown B (λ k e R=>by simp[Value.ownBlock] at e)
  obtain⟨-,b⟩:=G
  rcases b with ⟨b,-⟩|⟨g,f,m,b,t,v,y,O,z,p⟩
  .have:=(E.1 b).2
   omega
  .rw [Nat.zero_add,Nat.mul_one,List.nil_append] at p
   rw[Nat.zero_add] at b y
   rw[Nat.mul_one] at z
   rw[b]
   refine s w' g f ⟨⟨m,v,by omega,λ j c=>?_⟩,H,i.fits⟩ t D
   have r:(m.toList.take n)[j]?=(wordVF W n)[j]?:=by rw[p]
   rw[List.getElem?_take_of_lt c,wordVF_at W n j c] at r
   simpa using r

theorem DGapW_one(w:World):Calls prog 194 #[(1:Int)] w (RK (.int .u64 (BA 2 0 0 1:Nat)) w):=by
 have b:=sE (DGap_yes 2 1 w (by omega) (by omega) (by omega))
 have a:=sE (λ d=>FB 2 0 0 1 d (by simp[Am]))
 obtain⟨X,c⟩:∃ X,BA 2 0 0 1=X:=⟨_,rfl⟩
 rw[c] at a ⊢
 clear c
 unfold Ao at b
 go_enter func194,ntmps194
 go_wp2_with fail
 refine b.o.mono ?_
 rintro e w1 ⟨rfl,f⟩
 go_wp2_with fail
 refine(a.o _).mono ?_
 rintro e w2 ⟨rfl,g⟩
 go_wp2
 go_ret
 exact⟨rfl,(f.alloc _).then' g⟩

theorem DGapW_more(m:Nat)(w:World)(j:1<m)(k:m<=65536):Calls prog 194 #[m] w (RK (.int .u64 (BA 3 0 0 m:Nat)) w):=by
 have b:=sE (DGap_yes 3 m w (by omega) (by omega) (by omega))
 have a:=sE (λ d=>FB 3 0 0 m d (by simp[Am] <;> omega))
 obtain⟨X,c⟩:∃ X,BA 3 0 0 m=X:=⟨_,rfl⟩
 rw[c] at a ⊢
 have i:(((m:Nat):Int)==1)=false:=by simp <;> omega
 clear c
 unfold Ao at b
 go_enter func194,ntmps194
 go_wp2_with fail
 refine b.o.mono ?_
 rintro e w1 ⟨rfl,f⟩
 go_wp2_with fail
 refine(a.o _).mono ?_
 rintro e w2 ⟨rfl,g⟩
 go_wp2
 go_ret
 exact⟨rfl,(f.alloc _).then' g⟩

theorem DGapW_any(m:Nat)(w:World)(b:0<m)(a:m<=65536):Calls prog 194 #[m] w (RK (.int .u64 (BA (Dx m) 0 0 m:Nat)) w):=by
 by_cases h:m=1
 .subst h;exact DGapW_one w
 .rw [Dx,if_neg h];exact DGapW_more m w (by omega) a

def DLaid(rb q n:Nat)(W:Nat->Nat)(lv:Value)(w:World)(e:Ending)(w':World):Prop:=
 e=.returned (.tuple #[])/\∃ q',DocAt w' rb q' n W lv/\(q'=q\/w.heap.size<=q')/\Kp (λ k=>k=rb) w w'

theorem DLay_nil(a q n:Nat)(W:Nat->Nat)(c:Value)(g:Int)(w:World)(b:DocAt w a q n W c):
  Calls prog 148 #[.pointer (some a),.int .i64 g,(0:Int)] w (DLaid a q n W c w):=by
 have d:=sE b
 clear b
 go_enter func148,ntmps148
 go_wp2_with fail
 go_end0
 exact⟨rfl,q,d.o,.inl rfl,Kr _ _⟩

theorem DLay_yes(d q n:Nat)(W:Nat->Nat)(z:Value)(g m:Nat)(w:World)(c:DocAt w d q n W z)(H:0<m)(a1:g+m<=n/2):
  Calls prog 148 #[.pointer (some d),g,m] w (DLaid d q n (Bd W g m) z w):=by
 rw[Bd,if_neg (by omega)]
 have a3:=c.row.small
 have p:=sE (λ F=>DGapW_any m F H (by omega))
 have j:BA (Dx m) 0 0 m<18446744073709551616:=by
  have:=gapTag_or m
  exact encH_lt (by simp[Am] <;> omega)
 obtain⟨X,t⟩:∃ X,BA (Dx m) 0 0 m=X:=⟨_,rfl⟩
 rw[t] at p j ⊢
 have B:=sE j
 have N:Sl ((2:Int)*(g:Int)=((2*g:Nat):Int)):=⟨by omega⟩
 have s:2*g<n:=by omega
 have Z:¬ ((m:Nat):Int)<1:=by omega
 obtain⟨cap,c0,U⟩:=c.head
 have G:=c.lt
 have v:=sE c.row
 have C:=sE c
 clear c t j
 go_enter func148,ntmps148
 go_wp2_with (at_builtin;go_loud (refine copy_words rfl (.tmp 12) rfl q n cap W rfl v.o (by omega) ?_);intro w1 a r u K x)
 have D:=sE u
 clear u
 go_wp2_with fail
 refine(p.o _).mono ?_
 rintro e w2 ⟨rfl,l⟩
 have i:=D.o.Ac l
 have O:=i.at_ s
 have P:=i.free (2*g)
 have E:=sE i
 have f:=C.o.Ac (x.then' l)
 obtain⟨V,Q,R⟩:=f.head
 have S:=f.free 0
 have T:=f.ne
 have a2:=f.lt
 have a4:=i.lt
 have I:¬ a=d:=by have:=G;omega
 have J:¬ d=a:=by omega
 clear i
 go_wp2_with fail
 go_end0
 have A:=f.keep (w':=w2.setCell ⟨a,2*g,none⟩ (.int .u64 (X:Nat))) ((Kr (λ k=>k=a) w2).setCell (λ _=>rfl) _) J (by have:=v.o.lt;omega)
 obtain⟨Y,L⟩:=A.hr
 have y:Kp (λ k=>k=d) (w2.setCell ⟨a,2*g,none⟩ (.int .u64 (X:Nat))) ((w2.setCell ⟨a,2*g,none⟩ (.int .u64 (X:Nat))).setCell d (.slice (some ⟨a,0,none⟩) n r)):=(Kr (λ k=>k=d) _).setCell (λ _=>rfl) _
 have M:Kp (λ k=>k=a) w2 (w2.setCell ⟨a,2*g,none⟩ (.int .u64 (X:Nat))):=(Kr (λ k=>k=a) w2).setCell (λ _=>rfl) _
 refine⟨rfl,a,⟨⟨r,by rw[bZ L _];rfl⟩,?_⟩,.inr K,?_⟩
 .exact (E.o.store s X B.o).keep y I
 .exact (((x.then' l).Aw (λ k=>k=d)).trans M (λ b a0 c=>by omega)).trans y (λ _ _ c=>c)

theorem DR(a q n:Nat)(W:Nat->Nat)(b:Value)(g m:Nat)(w:World)(c:DocAt w a q n W b)(d:g+m<=n/2):
  Calls prog 148 #[.pointer (some a),g,m] w (DLaid a q n (Bd W g m) b w):=by
 by_cases h0:m=0
 .subst h0
  rw[Bd,if_pos rfl]
  exact DLay_nil a q n W b g w c
 .exact DLay_yes a q n W b g m w c (by omega) d

theorem BC{w:World}{b:Nat}{f g k l:Value}{T:TypeId}(m:w.heap[b]?=some (.cells #[f,g,k,l] T (0,0)))(v0 c d e:Value)(a:World)(n:a=(((w.setCell b v0).setCell ⟨b,1,none⟩ c).setCell ⟨b,2,none⟩ d).setCell ⟨b,3,none⟩ e):
  a.heap[b]?=some (.cells #[v0,c,d,e] T (0,0))/\Kp (λ i=>i=b) w a:=by
 subst n
 exact⟨bZ (bZ (bZ (bZ m (j:=0) _) (j:=1) _) (j:=2) _) (j:=3) _,
  ((((Kr (λ i=>i=b) w).setCell (λ _=>rfl) _).setCell (λ _=>rfl) _).setCell (λ _=>rfl) _).setCell (λ _=>rfl) _⟩

theorem BL{w:World}{b:Nat}{e f g:Value}{T:TypeId}(k:w.heap[b]?=some (.cells #[e,f,g] T (0,0)))(v0 c d:Value)(a:World)(l:a=((w.setCell b v0).setCell ⟨b,1,none⟩ c).setCell ⟨b,2,none⟩ d):
  a.heap[b]?=some (.cells #[v0,c,d] T (0,0))/\Kp (λ i=>i=b) w a:=by
 subst l
 exact⟨bZ (bZ (bZ k (j:=0) _) (j:=1) _) (j:=2) _,
  (((Kr (λ i=>i=b) w).setCell (λ _=>rfl) _).setCell (λ _=>rfl) _).setCell (λ _=>rfl) _⟩

theorem Ay{w:World}{b:Nat}{a c d e:Value}{T:TypeId}(f:w.heap[b]?=some (.cells #[a,c,d,e] T (0,0))):
  w.cell? b=some a/\w.cell? ⟨b,1,none⟩=some c/\w.cell? ⟨b,2,none⟩=some d/\w.cell? ⟨b,3,none⟩=some e:=by
 refine⟨?_,?_,?_,?_⟩ <;> simp[World.cell?,f]

theorem cells3{w:World}{b:Nat}{a c d:Value}{T:TypeId}(e:w.heap[b]?=some (.cells #[a,c,d] T (0,0))):
  w.cell? b=some a/\w.cell? ⟨b,1,none⟩=some c/\w.cell? ⟨b,2,none⟩=some d:=by
 refine⟨?_,?_,?_⟩ <;> simp[World.cell?,e]

theorem DHead_out(g:Int)(q n cap:Nat)(w:World)(o:n<=65536)(l:g<0\/((n/2:Nat):Int)<=g):
  Calls prog 113 #[.slice (some ⟨q,0,none⟩) n cap,.int .i64 g] w (RK (.tuple #[Ao 0 0 0 0,(2:Int)]) w):=by
 obtain⟨a,k⟩:∃ a,decide (g<0)=a:=⟨_,rfl⟩
 have b:a=false->decide ((n:Int)/2<=g)=true:=λ j=>by
  subst j
  have:=of_decide_eq_false k
  exact dT (by omega)
 have i:Kp Aa w (w.alloc (.cells #[.int .u8 0,(0:Int),(0:Int),(0:Int)] 111)):=(Kr _ w).alloc _
 obtain⟨c,d,e,f⟩:=Ay (wN w (.cells #[.int .u8 0,(0:Int),(0:Int),(0:Int)] 111))
 clear l
 cases a with
 |true=>
  clear b
  go_enter func113,ntmps113
  go_wp2
  refine bodyPost_ret (v:=.tuple #[Ao 0 0 0 0,(2:Int)]) (by simp[results,results113,go_sem,c,d,e,f,Ao]) rfl ⟨rfl,i⟩
 |false=>
  have m:=b rfl
  clear b
  go_enter func113,ntmps113
  go_wp2
  refine bodyPost_ret (v:=.tuple #[Ao 0 0 0 0,(2:Int)]) (by simp[results,results113,go_sem,c,d,e,f,Ao]) rfl ⟨rfl,i⟩

theorem DHead_in(g:Nat)(q n cap:Nat)(W:Nat->Nat)(w:World)(a:WRow w q n W)(Y:g<n/2):
  Calls prog 113 #[.slice (some ⟨q,0,none⟩) n cap,g] w (FC (Ct (W (2*g))) (CE (W (2*g))) (EA (W (2*g))) (EX (W (2*g))) (DY (W (2*g))) w):=by
 have a0:=a.small
 have I:2*g<n:=by omega
 have Z:=a.lt
 obtain⟨w1,f⟩:∃ w1,w1=w.alloc (.cells #[.int .u8 0,(0:Int),(0:Int),(0:Int)] 111):=⟨_,rfl⟩
 have A:Kp Aa w w1:=by rw[f];exact (Kr _ w).alloc _
 have H:w1.heap[w.heap.size]?=some (.cells #[.int .u8 0,(0:Int),(0:Int),(0:Int)] 111 (0,0)):=by rw[f];exact wN w _
 have a1:decide ((g:Int)<0)=false:=dF (by omega)
 have a2:decide ((n:Int)/2<=(g:Int))=false:=dF (by omega)
 have R:Sl ((2:Int)*(g:Int)=((2*g:Nat):Int)):=⟨by omega⟩
 have c0:=(a.Ac A).at_ I
 have Q:=(a.Ac A).lt
 obtain⟨X,r⟩:∃ X,W (2*g)=X:=⟨_,rfl⟩
 have J:X<18446744073709551616:=by rw[<- r];exact a.fits _ I
 rw[r] at c0 ⊢
 have F:=sE (DDecode_any X w1 J)
 clear r J a
 rw[f] at c0 Q
 go_enter func113,ntmps113
 go_wp2_with fail
 rw[<- f]
 clear f
 refine F.o.mono ?_
 rintro e w2 ⟨rfl,K⟩
 have j:=K.at_ H id
 obtain⟨S,T,U,V⟩:=Ay j
 have d:=Ab j
 have f00:=d 0
 have f01:=d 1
 have f02:=d 2
 have f03:=d 3
 have G:=A.then' K
 have E:=sE j
 clear H j d F c0
 obtain⟨C,t⟩:∃ C,Ct X=C:=⟨_,rfl⟩
 have H1:=sE t
 rw[t]
 clear t
 obtain⟨L,y⟩:∃ x,CE X=x:=⟨_,rfl⟩
 obtain⟨ty,z⟩:∃ x,EA X=x:=⟨_,rfl⟩
 obtain⟨ln,s⟩:∃ x,EX X=x:=⟨_,rfl⟩
 obtain⟨sz,u⟩:∃ x,DY X=x:=⟨_,rfl⟩
 have M:=sE y
 have N:=sE z
 have T3:=sE s
 have O:=sE u
 rw[y,z,s,u]
 clear y z s u
 cases C with
 |true=>
  rw[if_pos rfl,if_pos rfl]
  dsimp only[Ao]
  go_wp2
  obtain⟨c,b⟩:∃ c,c=(((w2.setCell w.heap.size (.int .u8 L)).setCell ⟨w.heap.size,1,none⟩ (.int .i64 ty)).setCell ⟨w.heap.size,2,none⟩ (.int .i64 ln)).setCell ⟨w.heap.size,3,none⟩ (.int .i64 sz):=⟨_,rfl⟩
  rw[<- b]
  obtain⟨D,B⟩:=BC E.o _ _ _ _ c b
  clear b
  obtain⟨k,l,m,p⟩:=Ay D
  refine bodyPost_ret (v:=.tuple #[Ao (L:Nat) (ty:Nat) (ln:Nat) (sz:Nat),(0:Int)]) (by simp[results,results113,go_sem,k,l,m,p,Ao]) rfl ⟨by rw[H1.o,M.o,N.o,T3.o,O.o];rfl,G.trans B (λ i P a=>by omega)⟩
 |false=>
  rw[if_neg (by simp),if_neg (by simp)]
  dsimp only[Ao]
  go_wp2
  obtain⟨c,b⟩:∃ c,c=(((w2.setCell w.heap.size (.int .u8 0)).setCell ⟨w.heap.size,1,none⟩ (.int .i64 0)).setCell ⟨w.heap.size,2,none⟩ (.int .i64 0)).setCell ⟨w.heap.size,3,none⟩ (.int .i64 0):=⟨_,rfl⟩
  rw[<- b]
  obtain⟨D,B⟩:=BC E.o _ _ _ _ c b
  clear b
  obtain⟨k,l,m,p⟩:=Ay D
  refine bodyPost_ret (v:=.tuple #[Ao 0 0 0 0,(7:Int)]) (by simp[results,results113,go_sem,k,l,m,p,Ao]) rfl ⟨by rw[H1.o];rfl,G.trans B (λ i P a=>by omega)⟩

def Cj(W:Nat->Nat)(n:Nat)(ts:List TypR)(g:Int):Option Cel:=
 if 0<=g/\g<(n/2:Nat)/\Ct (W (2*g.toNat))=true/\CE (W (2*g.toNat))=1/\CU ts 1 (EA (W (2*g.toNat)):Nat) (EX (W (2*g.toNat)):Nat) (DY (W (2*g.toNat)):Nat)=0/\DY (W (2*g.toNat))<=n/2-g.toNat then
  some ⟨g.toNat,1,EA (W (2*g.toNat)),EX (W (2*g.toNat)),DY (W (2*g.toNat))⟩ else none

def DOfNo(w:World)(e:Ending)(w':World):Prop:=∃ E:Int,¬ E=0/\e=.returned (.tuple #[Ao 0 0 0 0,AJ 0 0 0,.int .i64 E])/\Kp Aa w w'

def DOfYes(ts:List TypR)(c:Cel)(w:World)(e:Ending)(w':World):Prop:=
 ∃ k wds m,typeOf ts (c.ty:Nat)=some ⟨k,wds,m⟩/\e=.returned (.tuple #[Ao 1 (c.ty:Nat) (c.ln:Nat) (c.sz:Nat),AJ k wds (m:Nat),(0:Int)])/\Kp Aa w w'

theorem DOf_err(g:Int)(q n cap:Nat)(U:Value)(f:Int)(w:World)(s:¬ f=0)
  (C:∀ p,Kp Aa w p->Calls prog 113 #[.slice (some ⟨q,0,none⟩) n cap,.int .i64 g] p (RK (.tuple #[.agg #[.int .u8 0,(0:Int),(0:Int),(0:Int)],.int .i64 f]) p)):
  Calls prog 154 #[.slice (some ⟨q,0,none⟩) n cap,U,.int .i64 g] w (DOfNo w):=by
 obtain⟨w1,k⟩:∃ w1,w1=(w.alloc (.cells #[.int .u8 0,(0:Int),(0:Int),(0:Int)] 111)).alloc (.cells #[.int .u8 0,(0:Int),.int .u64 0] 106):=⟨_,rfl⟩
 have D:Kp Aa w w1:=by rw[k];exact ((Kr _ w).alloc _).alloc _
 have A:w1.heap[w.heap.size]?=some (.cells #[.int .u8 0,(0:Int),(0:Int),(0:Int)] 111 (0,0)):=by
  rw[k];exact ((Kr Aa _).alloc _).at_ (wN w _) id
 have B:w1.heap[w.heap.size+1]?=some (.cells #[.int .u8 0,(0:Int),.int .u64 0] 106 (0,0)):=by
  rw[k];have:=wN (w.alloc (.cells #[.int .u8 0,(0:Int),(0:Int),(0:Int)] 111)) (.cells #[.int .u8 0,(0:Int),.int .u64 0] 106);rwa [World.size_alloc] at this
 have z:=sE (C w1 D)
 have a1:(f !=0)=true:=by simpa using s
 have K:=sE s
 clear C s
 go_enter func154,ntmps154
 go_wp2_with fail
 rw[<- k]
 clear k
 refine z.o.mono ?_
 rintro e w2 ⟨rfl,x⟩
 have L:=D.then' x
 have c:=x.at_ A id
 have d:=x.at_ B id
 have a2:=lZ c
 have a3:=lZ d
 have a4:¬ w.heap.size=w2.heap.size:=by omega
 have a5:¬ w.heap.size+1=w2.heap.size:=by omega
 obtain⟨X,Y,Z,a0⟩:=Ay c
 obtain⟨a6,a7,a8⟩:=cells3 d
 have j:=Ab c
 have f00:=j 0
 have f01:=j 1
 have f02:=j 2
 have f03:=j 3
 have l:=Ab d
 have f10:=l 0
 have f11:=l 1
 have f12:=l 2
 have I:=sE c
 have J:=sE d
 clear A B c d j l z
 go_wp2
 obtain⟨m,t⟩:∃ m,m=(((w2.setCell w.heap.size (.int .u8 0)).setCell ⟨w.heap.size,1,none⟩ (.int .i64 0)).setCell ⟨w.heap.size,2,none⟩ (.int .i64 0)).setCell ⟨w.heap.size,3,none⟩ (.int .i64 0):=⟨_,rfl⟩
 rw[<- t]
 obtain⟨V,E⟩:=BC I.o _ _ _ _ m t
 have H:=E.at_ J.o (λ a=>by have r:w.heap.size+1=w.heap.size:=a;omega)
 clear t
 obtain⟨b,u⟩:∃ b,b=((m.setCell ⟨w.heap.size+1,0,none⟩ (.int .u8 0)).setCell ⟨w.heap.size+1,1,none⟩ (.int .i64 0)).setCell ⟨w.heap.size+1,2,none⟩ (.int .u64 0):=⟨_,rfl⟩
 rw[<- u]
 obtain⟨W,F⟩:=BL H _ _ _ b u
 have G:=F.at_ V (λ a=>by have r:w.heap.size=w.heap.size+1:=a;omega)
 clear u
 have y:Kp Aa b (b.alloc (.cells #[.int .u8 0,(0:Int),(0:Int),(0:Int)] 111)):=(Kr _ b).alloc _
 obtain⟨M,N,O,P⟩:=Ay (y.at_ G id)
 obtain⟨Q,R,S⟩:=cells3 (y.at_ W id)
 have KF:=((L.trans E (λ i T a=>by have r:i=w.heap.size:=a;omega)).trans F (λ i T a=>by have r:i=w.heap.size+1:=a;omega)).then' y
 refine bodyPost_ret (v:=.tuple #[Ao 0 0 0 0,AJ 0 0 0,.int .i64 f]) (by simp[results,results154,go_sem,M,N,O,P,Q,R,S,Ao,AJ]) rfl ⟨f,K.o,rfl,KF⟩

theorem DOf_tag(g q n cap:Nat)(T:Value)(l ty ln sz:Nat)(w:World)(S:¬ l=1)(a7:sz<16777216)(a4:n<=65536)(a1:g<n/2)
  (B:∀ p,Kp Aa w p->Calls prog 113 #[.slice (some ⟨q,0,none⟩) n cap,g] p (RK (.tuple #[.agg #[.int .u8 l,ty,ln,sz],(0:Int)]) p)):
  Calls prog 154 #[.slice (some ⟨q,0,none⟩) n cap,T,g] w (DOfNo w):=by
 obtain⟨w1,j⟩:∃ w1,w1=(w.alloc (.cells #[.int .u8 0,(0:Int),(0:Int),(0:Int)] 111)).alloc (.cells #[.int .u8 0,(0:Int),.int .u64 0] 106):=⟨_,rfl⟩
 have C:Kp Aa w w1:=by rw[j];exact ((Kr _ w).alloc _).alloc _
 have z:w1.heap[w.heap.size]?=some (.cells #[.int .u8 0,(0:Int),(0:Int),(0:Int)] 111 (0,0)):=by
  rw[j];exact ((Kr Aa _).alloc _).at_ (wN w _) id
 have A:w1.heap[w.heap.size+1]?=some (.cells #[.int .u8 0,(0:Int),.int .u64 0] 106 (0,0)):=by
  rw[j];have:=wN (w.alloc (.cells #[.int .u8 0,(0:Int),(0:Int),(0:Int)] 111)) (.cells #[.int .u8 0,(0:Int),.int .u64 0] 106);rwa [World.size_alloc] at this
 have y:=sE (B w1 C)
 have a0:((l:Int) !=1)=true:=by simp;omega
 clear B S
 go_enter func154,ntmps154
 go_wp2_with fail
 rw[<- j]
 clear j
 refine y.o.mono ?_
 rintro e w2 ⟨rfl,u⟩
 have J:=C.then' u
 have c:=u.at_ z id
 have d:=u.at_ A id
 have a2:=lZ c
 have a3:=lZ d
 have a5:¬ w.heap.size=w2.heap.size:=by omega
 have a6:¬ w.heap.size+1=w2.heap.size:=by omega
 obtain⟨W,X,Y,Z⟩:=Ay c
 obtain⟨a8,a9,b0⟩:=cells3 d
 have f:=Ab c
 have f00:=f 0
 have f01:=f 1
 have f02:=f 2
 have f03:=f 3
 have k:=Ab d
 have f10:=k 0
 have f11:=k 1
 have f12:=k 2
 have H:=sE c
 have I:=sE d
 clear z A c d f k y
 go_wp2
 obtain⟨m,s⟩:∃ m,m=(((w2.setCell w.heap.size (.int .u8 0)).setCell ⟨w.heap.size,1,none⟩ (.int .i64 0)).setCell ⟨w.heap.size,2,none⟩ (.int .i64 0)).setCell ⟨w.heap.size,3,none⟩ (.int .i64 0):=⟨_,rfl⟩
 rw[<- s]
 obtain⟨U,D⟩:=BC H.o _ _ _ _ m s
 have G:=D.at_ I.o (λ a=>by have r:w.heap.size+1=w.heap.size:=a;omega)
 clear s
 obtain⟨b,t⟩:∃ b,b=((m.setCell ⟨w.heap.size+1,0,none⟩ (.int .u8 0)).setCell ⟨w.heap.size+1,1,none⟩ (.int .i64 0)).setCell ⟨w.heap.size+1,2,none⟩ (.int .u64 0):=⟨_,rfl⟩
 rw[<- t]
 obtain⟨V,E⟩:=BL G _ _ _ b t
 have F:=E.at_ U (λ a=>by have r:w.heap.size=w.heap.size+1:=a;omega)
 clear t
 have x:Kp Aa b (b.alloc (.cells #[.int .u8 l,ty,ln,sz] 111)):=(Kr _ b).alloc _
 obtain⟨K,L,M,N⟩:=Ay (x.at_ F id)
 obtain⟨O,P,Q⟩:=cells3 (x.at_ V id)
 have KF:=((J.trans D (λ i R a=>by have r:i=w.heap.size:=a;omega)).trans E (λ i R a=>by have r:i=w.heap.size+1:=a;omega)).then' x
 refine bodyPost_ret (v:=.tuple #[Ao 0 0 0 0,AJ 0 0 0,(8:Int)]) (by simp[results,results154,go_sem,K,L,M,N,O,P,Q,Ao,AJ]) rfl ⟨8,by omega,rfl,KF⟩

theorem DOf_fit(g q n cap:Nat)(S:Value)(ty ln sz:Nat)(s:Int)(w:World)(M:¬ s=0)(c6:sz<16777216)(c0:n<=65536)(b4:g<n/2)
  (N:∀ f,Kp Aa w f->Calls prog 113 #[.slice (some ⟨q,0,none⟩) n cap,g] f (RK (.tuple #[.agg #[.int .u8 1,ty,ln,sz],(0:Int)]) f))
  (hF:∀ f,Kp Aa w f->Calls prog 114 #[S,.agg #[.int .u8 1,ty,ln,sz]] f (RK (.int .i64 s) f)):
  Calls prog 154 #[.slice (some ⟨q,0,none⟩) n cap,S,g] w (DOfNo w):=by
 obtain⟨w1,k⟩:∃ w1,w1=(w.alloc (.cells #[.int .u8 0,(0:Int),(0:Int),(0:Int)] 111)).alloc (.cells #[.int .u8 0,(0:Int),.int .u64 0] 106):=⟨_,rfl⟩
 have P:Kp Aa w w1:=by rw[k];exact ((Kr _ w).alloc _).alloc _
 have F:w1.heap[w.heap.size]?=some (.cells #[.int .u8 0,(0:Int),(0:Int),(0:Int)] 111 (0,0)):=by
  rw[k];exact ((Kr Aa _).alloc _).at_ (wN w _) id
 have G:w1.heap[w.heap.size+1]?=some (.cells #[.int .u8 0,(0:Int),.int .u64 0] 106 (0,0)):=by
  rw[k];have:=wN (w.alloc (.cells #[.int .u8 0,(0:Int),(0:Int),(0:Int)] 111)) (.cells #[.int .u8 0,(0:Int),.int .u64 0] 106);rwa [World.size_alloc] at this
 have E:=sE (N w1 P)
 have D:=sE hF
 have b3:(s !=0)=true:=by simpa using M
 clear N M hF
 go_enter func154,ntmps154
 go_wp2_with fail
 rw[<- k]
 clear k
 refine E.o.mono ?_
 rintro e w2 ⟨rfl,A⟩
 have m:=P.then' A
 have a:=A.at_ F id
 have b:=A.at_ G id
 have b5:=lZ a
 have b6:=lZ b
 have c1:¬ w.heap.size=w2.heap.size:=by omega
 have c2:¬ w.heap.size+1=w2.heap.size:=by omega
 obtain⟨I,J,K,L⟩:=Ay a
 obtain⟨T,U,V⟩:=cells3 b
 have c:=Ab a
 have f00:=c 0
 have f01:=c 1
 have f02:=c 2
 have f03:=c 3
 have d:=Ab b
 have f10:=d 0
 have f11:=d 1
 have f12:=d 2
 have t:=sE a
 have u:=sE b
 clear F G a b c d E
 go_wp2_with fail
 refine(D.o _ (m.then' ((Kr Aa w2).alloc _))).mono ?_
 rintro e p ⟨rfl,O⟩
 have H:=wN w2 (.cells #[.int .u8 1,ty,ln,sz] 111)
 have B:=((Kr Aa w2).alloc (.cells #[.int .u8 1,ty,ln,sz] 111)).then' O
 replace m:=m.then' B
 have a:=B.at_ t.o id
 have b:=B.at_ u.o id
 have l:=O.at_ H id
 have b7:=lZ a
 have b8:=lZ b
 have b9:=lZ l
 have c3:¬ w.heap.size=p.heap.size:=by omega
 have c4:¬ w.heap.size+1=p.heap.size:=by omega
 have c5:¬ w2.heap.size=p.heap.size:=by omega
 clear I J K L T U V f00 f01 f02 f03 f10 f11 f12
 obtain⟨I,J,K,L⟩:=Ay a
 obtain⟨T,U,V⟩:=cells3 b
 obtain⟨a9,b0,b1,b2⟩:=Ay l
 have c:=Ab a
 have f00:=c 0
 have f01:=c 1
 have f02:=c 2
 have f03:=c 3
 have d:=Ab b
 have f10:=d 0
 have f11:=d 1
 have f12:=d 2
 replace t:Sl _:=⟨a⟩
 replace u:Sl _:=⟨b⟩
 have a8:=sE l
 clear a b l c d D H
 go_wp2
 obtain⟨r,y⟩:∃ r,r=(((p.setCell w.heap.size (.int .u8 0)).setCell ⟨w.heap.size,1,none⟩ (.int .i64 0)).setCell ⟨w.heap.size,2,none⟩ (.int .i64 0)).setCell ⟨w.heap.size,3,none⟩ (.int .i64 0):=⟨_,rfl⟩
 rw[<- y]
 obtain⟨a6,Q⟩:=BC t.o _ _ _ _ r y
 have X:=Q.at_ u.o (λ j=>by have x:w.heap.size+1=w.heap.size:=j;omega)
 clear y
 obtain⟨C,z⟩:∃ C,C=((r.setCell ⟨w.heap.size+1,0,none⟩ (.int .u8 0)).setCell ⟨w.heap.size+1,1,none⟩ (.int .i64 0)).setCell ⟨w.heap.size+1,2,none⟩ (.int .u64 0):=⟨_,rfl⟩
 rw[<- z]
 obtain⟨a7,R⟩:=BL X _ _ _ C z
 have W:=R.at_ a6 (λ j=>by have x:w.heap.size=w.heap.size+1:=j;omega)
 clear z
 obtain⟨Y,Z,a0,a1⟩:=Ay W
 obtain⟨a2,a3,a4⟩:=cells3 a7
 have KF:=(m.trans Q (λ i a5 j=>by have x:i=w.heap.size:=j;omega)).trans R (λ i a5 j=>by have x:i=w.heap.size+1:=j;omega)
 refine bodyPost_ret (v:=.tuple #[Ao 0 0 0 0,AJ 0 0 0,(8:Int)]) (by simp[results,results154,go_sem,Y,Z,a0,a1,a2,a3,a4,Ao,AJ]) rfl ⟨8,by omega,rfl,KF⟩

theorem DOf_big(g q n cap:Nat)(Q:Value)(ty ln sz:Nat)(w:World)(c5:n/2-g<sz)(c4:sz<16777216)(b8:n<=65536)(b2:g<n/2)
  (L:∀ f,Kp Aa w f->Calls prog 113 #[.slice (some ⟨q,0,none⟩) n cap,g] f (RK (.tuple #[.agg #[.int .u8 1,ty,ln,sz],(0:Int)]) f))
  (hF:∀ f,Kp Aa w f->Calls prog 114 #[Q,.agg #[.int .u8 1,ty,ln,sz]] f (RK (.int .i64 0) f)):
  Calls prog 154 #[.slice (some ⟨q,0,none⟩) n cap,Q,g] w (DOfNo w):=by
 obtain⟨w1,k⟩:∃ w1,w1=(w.alloc (.cells #[.int .u8 0,(0:Int),(0:Int),(0:Int)] 111)).alloc (.cells #[.int .u8 0,(0:Int),.int .u64 0] 106):=⟨_,rfl⟩
 have N:Kp Aa w w1:=by rw[k];exact ((Kr _ w).alloc _).alloc _
 have E:w1.heap[w.heap.size]?=some (.cells #[.int .u8 0,(0:Int),(0:Int),(0:Int)] 111 (0,0)):=by
  rw[k];exact ((Kr Aa _).alloc _).at_ (wN w _) id
 have F:w1.heap[w.heap.size+1]?=some (.cells #[.int .u8 0,(0:Int),.int .u64 0] 106 (0,0)):=by
  rw[k];have:=wN (w.alloc (.cells #[.int .u8 0,(0:Int),(0:Int),(0:Int)] 111)) (.cells #[.int .u8 0,(0:Int),.int .u64 0] 106);rwa [World.size_alloc] at this
 have D:=sE (L w1 N)
 have C:=sE hF
 have b1:decide ((n:Int)/2-(g:Int)<(sz:Int))=true:=dT (by omega)
 clear L hF
 go_enter func154,ntmps154
 go_wp2_with fail
 rw[<- k]
 clear k
 refine D.o.mono ?_
 rintro e w2 ⟨rfl,z⟩
 have m:=N.then' z
 have a:=z.at_ E id
 have b:=z.at_ F id
 have b3:=lZ a
 have b4:=lZ b
 have b9:¬ w.heap.size=w2.heap.size:=by omega
 have c0:¬ w.heap.size+1=w2.heap.size:=by omega
 obtain⟨H,I,J,K⟩:=Ay a
 obtain⟨R,S,T⟩:=cells3 b
 have c:=Ab a
 have f00:=c 0
 have f01:=c 1
 have f02:=c 2
 have f03:=c 3
 have d:=Ab b
 have f10:=d 0
 have f11:=d 1
 have f12:=d 2
 have s:=sE a
 have t:=sE b
 clear E F a b c d D
 go_wp2_with fail
 refine(C.o _ (m.then' ((Kr Aa w2).alloc _))).mono ?_
 rintro e p ⟨rfl,M⟩
 have G:=wN w2 (.cells #[.int .u8 1,ty,ln,sz] 111)
 have A:=((Kr Aa w2).alloc (.cells #[.int .u8 1,ty,ln,sz] 111)).then' M
 replace m:=m.then' A
 have a:=A.at_ s.o id
 have b:=A.at_ t.o id
 have l:=M.at_ G id
 have b5:=lZ a
 have b6:=lZ b
 have b7:=lZ l
 have c1:¬ w.heap.size=p.heap.size:=by omega
 have c2:¬ w.heap.size+1=p.heap.size:=by omega
 have c3:¬ w2.heap.size=p.heap.size:=by omega
 clear H I J K R S T f00 f01 f02 f03 f10 f11 f12
 obtain⟨H,I,J,K⟩:=Ay a
 obtain⟨R,S,T⟩:=cells3 b
 obtain⟨a7,a8,a9,b0⟩:=Ay l
 have c:=Ab a
 have f00:=c 0
 have f01:=c 1
 have f02:=c 2
 have f03:=c 3
 have d:=Ab b
 have f10:=d 0
 have f11:=d 1
 have f12:=d 2
 replace s:Sl _:=⟨a⟩
 replace t:Sl _:=⟨b⟩
 have a6:=sE l
 clear a b l c d C G
 go_wp2
 obtain⟨r,x⟩:∃ r,r=(((p.setCell w.heap.size (.int .u8 0)).setCell ⟨w.heap.size,1,none⟩ (.int .i64 0)).setCell ⟨w.heap.size,2,none⟩ (.int .i64 0)).setCell ⟨w.heap.size,3,none⟩ (.int .i64 0):=⟨_,rfl⟩
 rw[<- x]
 obtain⟨a4,O⟩:=BC s.o _ _ _ _ r x
 have V:=O.at_ t.o (λ j=>by have u:w.heap.size+1=w.heap.size:=j;omega)
 clear x
 obtain⟨B,y⟩:∃ B,B=((r.setCell ⟨w.heap.size+1,0,none⟩ (.int .u8 0)).setCell ⟨w.heap.size+1,1,none⟩ (.int .i64 0)).setCell ⟨w.heap.size+1,2,none⟩ (.int .u64 0):=⟨_,rfl⟩
 rw[<- y]
 obtain⟨a5,P⟩:=BL V _ _ _ B y
 have U:=P.at_ a4 (λ j=>by have u:w.heap.size=w.heap.size+1:=j;omega)
 clear y
 obtain⟨W,X,Y,Z⟩:=Ay U
 obtain⟨a0,a1,a2⟩:=cells3 a5
 have KF:=(m.trans O (λ i a3 j=>by have u:i=w.heap.size:=j;omega)).trans P (λ i a3 j=>by have u:i=w.heap.size+1:=j;omega)
 refine bodyPost_ret (v:=.tuple #[Ao 0 0 0 0,AJ 0 0 0,(8:Int)]) (by simp[results,results154,go_sem,W,X,Y,Z,a0,a1,a2,Ao,AJ]) rfl ⟨8,by omega,rfl,KF⟩

theorem DOf_ok(g q n cap:Nat)(U:Value)(ty ln sz:Nat)(k wds:Int)(m:Nat)(w:World)(e2:sz<=n/2-g)(e1:sz<16777216)(c9:n<=65536)(c3:g<n/2)
  (a4:∀ l,Kp Aa w l->Calls prog 113 #[.slice (some ⟨q,0,none⟩) n cap,g] l (RK (.tuple #[.agg #[.int .u8 1,ty,ln,sz],(0:Int)]) l))
  (hF:∀ l,Kp Aa w l->Calls prog 114 #[U,.agg #[.int .u8 1,ty,ln,sz]] l (RK (.int .i64 0) l))
  (a3:∀ l,Kp Aa w l->Calls prog 115 #[U,ty] l (RK (.tuple #[.agg #[.int .u8 k,.int .i64 wds,.int .u64 m],(0:Int)]) l)):
  Calls prog 154 #[.slice (some ⟨q,0,none⟩) n cap,U,g] w (RK (.tuple #[Ao 1 (ty:Nat) (ln:Nat) (sz:Nat),AJ k wds (m:Nat),(0:Int)]) w):=by
 obtain⟨w1,E⟩:∃ w1,w1=(w.alloc (.cells #[.int .u8 0,(0:Int),(0:Int),(0:Int)] 111)).alloc (.cells #[.int .u8 0,(0:Int),.int .u64 0] 106):=⟨_,rfl⟩
 have a6:Kp Aa w w1:=by rw[E];exact ((Kr _ w).alloc _).alloc _
 have a0:w1.heap[w.heap.size]?=some (.cells #[.int .u8 0,(0:Int),(0:Int),(0:Int)] 111 (0,0)):=by
  rw[E];exact ((Kr Aa _).alloc _).at_ (wN w _) id
 have a1:w1.heap[w.heap.size+1]?=some (.cells #[.int .u8 0,(0:Int),.int .u64 0] 106 (0,0)):=by
  rw[E];have:=wN (w.alloc (.cells #[.int .u8 0,(0:Int),(0:Int),(0:Int)] 111)) (.cells #[.int .u8 0,(0:Int),.int .u64 0] 106);rwa [World.size_alloc] at this
 have Y:=sE (a4 w1 a6)
 have W:=sE hF
 have X:=sE a3
 have c2:decide ((n:Int)/2-(g:Int)<(sz:Int))=false:=dF (by omega)
 clear a4 hF a3
 go_enter func154,ntmps154
 go_wp2_with fail
 rw[<- E]
 clear E
 refine Y.o.mono ?_
 rintro e w2 ⟨rfl,R⟩
 have p:=a6.then' R
 have b:=R.at_ a0 id
 have c:=R.at_ a1 id
 have c4:=lZ b
 have c5:=lZ c
 have d0:¬ w.heap.size=w2.heap.size:=by omega
 have d1:¬ w.heap.size+1=w2.heap.size:=by omega
 obtain⟨s,t,u,x⟩:=Ay b
 obtain⟨y,z,A⟩:=cells3 c
 have a:=Ab b
 have f00:=a 0
 have f01:=a 1
 have f02:=a 2
 have f03:=a 3
 have d:=Ab c
 have f10:=d 0
 have f11:=d 1
 have f12:=d 2
 have C:=sE b
 have D:=sE c
 clear a0 a1 b c a d Y
 go_wp2_with fail
 refine(W.o _ (p.then' ((Kr Aa w2).alloc _))).mono ?_
 rintro e V ⟨rfl,a5⟩
 have a2:=wN w2 (.cells #[.int .u8 1,ty,ln,sz] 111)
 have S:=((Kr Aa w2).alloc (.cells #[.int .u8 1,ty,ln,sz] 111)).then' a5
 replace p:=p.then' S
 have b:=S.at_ C.o id
 have c:=S.at_ D.o id
 have j:=a5.at_ a2 id
 have c6:=lZ b
 have c7:=lZ c
 have c8:=lZ j
 have d5:¬ w.heap.size=V.heap.size:=by omega
 have d6:¬ w.heap.size+1=V.heap.size:=by omega
 have d7:¬ w2.heap.size=V.heap.size:=by omega
 clear s t u x y z A f00 f01 f02 f03 f10 f11 f12
 obtain⟨s,t,u,x⟩:=Ay b
 obtain⟨y,z,A⟩:=cells3 c
 obtain⟨G,H,I,J⟩:=Ay j
 have a:=Ab b
 have f00:=a 0
 have f01:=a 1
 have f02:=a 2
 have f03:=a 3
 have d:=Ab c
 have f10:=d 0
 have f11:=d 1
 have f12:=d 2
 replace C:Sl _:=⟨b⟩
 replace D:Sl _:=⟨c⟩
 have b1:=sE j
 clear b c j a d W a2
 go_wp2_with fail
 refine(X.o _ p).mono ?_
 rintro e f ⟨rfl,L⟩
 replace p:=p.then' L
 have b:=L.at_ C.o id
 have c:=L.at_ D.o id
 have j:=L.at_ b1.o id
 have d2:=lZ b
 have d3:=lZ c
 have d4:=lZ j
 have d8:¬ w.heap.size=f.heap.size:=by omega
 have d9:¬ w.heap.size+1=f.heap.size:=by omega
 have e0:¬ w2.heap.size=f.heap.size:=by omega
 clear s t u x y z A f00 f01 f02 f03 f10 f11 f12 G H I J
 obtain⟨s,t,u,x⟩:=Ay b
 obtain⟨y,z,A⟩:=cells3 c
 obtain⟨G,H,I,J⟩:=Ay j
 have a:=Ab b
 have f00:=a 0
 have f01:=a 1
 have f02:=a 2
 have f03:=a 3
 have d:=Ab c
 have f10:=d 0
 have f11:=d 1
 have f12:=d 2
 clear a d X
 go_wp2_with fail
 obtain⟨F,K⟩:∃ F,F=f.alloc (.cells #[.int .u8 k,.int .i64 wds,.int .u64 m] 106):=⟨_,rfl⟩
 rw[<- K]
 have M:Kp Aa f F:=by rw[K];exact (Kr _ f).alloc _
 have Z:F.heap[f.heap.size]?=some (.cells #[.int .u8 k,.int .i64 wds,.int .u64 m] 106 (0,0)):=by rw[K];exact wN f _
 replace p:=p.then' M
 replace b:=M.at_ b id
 replace c:=M.at_ c id
 replace j:=M.at_ j id
 clear s t u x y z A f00 f01 f02 f03 f10 f11 f12 G H I J
 obtain⟨s,t,u,x⟩:=Ay b
 obtain⟨y,z,A⟩:=cells3 c
 obtain⟨G,H,I,J⟩:=Ay j
 obtain⟨f1,f2,f3⟩:=cells3 Z
 have a:=Ab b
 have f00:=a 0
 have f01:=a 1
 have f02:=a 2
 have f03:=a 3
 have d:=Ab c
 have f10:=d 0
 have f11:=d 1
 have f12:=d 2
 have e3:¬ w.heap.size=w2.heap.size:=by omega
 have e4:¬ w.heap.size+1=w2.heap.size:=by omega
 have e5:¬ w.heap.size=f.heap.size:=by omega
 have e6:¬ w.heap.size+1=f.heap.size:=by omega
 have e7:¬ w2.heap.size=w.heap.size:=by omega
 have e8:¬ w2.heap.size=w.heap.size+1:=by omega
 have e9:¬ f.heap.size=w.heap.size:=by omega
 have f0:¬ f.heap.size=w.heap.size+1:=by omega
 replace C:Sl _:=⟨b⟩
 replace D:Sl _:=⟨c⟩
 clear b c j a d K Z
 go_region
 go_wp2
 obtain⟨N,P⟩:∃ N,N=(((F.setCell w.heap.size (.int .u8 1)).setCell ⟨w.heap.size,1,none⟩ (.int .i64 ty)).setCell ⟨w.heap.size,2,none⟩ (.int .i64 ln)).setCell ⟨w.heap.size,3,none⟩ (.int .i64 sz):=⟨_,rfl⟩
 rw[<- P]
 obtain⟨c0,a7⟩:=BC C.o _ _ _ _ N P
 have b0:=a7.at_ D.o (λ r=>by have O:w.heap.size+1=w.heap.size:=r;omega)
 clear P
 obtain⟨B,Q⟩:∃ B,B=((N.setCell ⟨w.heap.size+1,0,none⟩ (.int .u8 k)).setCell ⟨w.heap.size+1,1,none⟩ (.int .i64 wds)).setCell ⟨w.heap.size+1,2,none⟩ (.int .u64 m):=⟨_,rfl⟩
 rw[<- Q]
 obtain⟨c1,a8⟩:=BL b0 _ _ _ B Q
 have a9:=a8.at_ c0 (λ r=>by have O:w.heap.size=w.heap.size+1:=r;omega)
 clear Q
 have T:Kp Aa B B.drew:=(Kr Aa B).drew
 obtain⟨b2,b3,b4,b5⟩:=Ay (T.at_ a9 id)
 obtain⟨b6,b7,b8⟩:=cells3 (T.at_ c1 id)
 have KF:=((p.trans a7 (λ i b9 r=>by have O:i=w.heap.size:=r;omega)).trans a8 (λ i b9 r=>by have O:i=w.heap.size+1:=r;omega)).then' T
 refine bodyPost_ret (v:=.tuple #[Ao 1 (ty:Nat) (ln:Nat) (sz:Nat),AJ k wds (m:Nat),(0:Int)]) (by simp[results,results154,go_sem,b2,b3,b4,b5,b6,b7,b8,Ao,AJ]) rfl ⟨rfl,KF⟩

theorem fitsE_zero{ts:List TypR}{ty ln sz:Int}(h:CU ts 1 ty ln sz=0):Am 1 ty ln sz=true/\AV ts ty ln=0/\BB ts ty ln=sz:=by
 cases hk:Am 1 ty ln sz with
 |false=>rw [CU,hk] at h;simp at h
 |true=>
  rw[fitsE_obj hk] at h
  by_cases h1:AV ts ty ln=0
  .rw [if_pos h1] at h
   by_cases h2:BB ts ty ln=sz
   .exact ⟨rfl,h1,h2⟩
   .rw [if_neg h2] at h;omega
  .rw [if_neg h1] at h;omega

theorem Fs{ts:List TypR}{ty ln:Int}(h:AV ts ty ln=0):∃ k wds m,typeOf ts ty=some ⟨k,wds,m⟩:=by
 rw[AV] at h
 cases hx:typeOf ts ty with
 |none=>rw [hx] at h;simp at h
 |some x=>exact ⟨x.k,x.wds,x.m,rfl⟩

def El(W:Nat->Nat)(n:Nat)(ts:List TypR)(g:Int)(w:World)(e:Ending)(w':World):Prop:=
 match Cj W n ts g with
 |some c=>DOfYes ts c w e w'
 |none=>DOfNo w e w'

theorem DOf_any(g:Int)(q n cap:Nat)(W:Nat->Nat)(b:Value)(ts:List TypR)(w:World)(s:WRow w q n W)(v:A8 w b ts)(t:ts.length<=17592186044416)(z:Cw ts):
  Calls prog 154 #[.slice (some ⟨q,0,none⟩) n cap,b,.int .i64 g] w (El W n ts g w):=by
 have l:=s.small
 by_cases ho:g<0\/((n/2:Nat):Int)<=g
 .rw [show El W n ts g w=DOfNo w by funext e w';rw [El,Cj,if_neg (by omega)]]
  exact DOf_err g q n cap b 2 w (by omega) (λ a k=>DHead_out g q n cap a l ho)
 .obtain ⟨j,rfl⟩:=Int.eq_ofNat_of_zero_le (show 0<=g by omega)
  have i:j<n/2:=by omega
  have o:∀ a,Kp Aa w a->Calls prog 113 #[.slice (some ⟨q,0,none⟩) n cap,j] a (FC (Ct (W (2*j))) (CE (W (2*j))) (EA (W (2*j))) (EX (W (2*j))) (DY (W (2*j))) a):=λ a k=>DHead_in j q n cap W a (s.Ac k) i
  have f:DY (W (2*j))<16777216:=by rw[DY];omega
  have A:Cj W n ts (j:Nat)=if Ct (W (2*j))=true/\CE (W (2*j))=1/\CU ts 1 (EA (W (2*j)):Nat) (EX (W (2*j)):Nat) (DY (W (2*j)):Nat)=0/\DY (W (2*j))<=n/2-j then some ⟨j,1,EA (W (2*j)),EX (W (2*j)),DY (W (2*j))⟩ else none:=by
   rw[Cj]
   simp only[Int.toNat_natCast]
   by_cases hc:Ct (W (2*j))=true/\CE (W (2*j))=1/\CU ts 1 (EA (W (2*j)):Nat) (EX (W (2*j)):Nat) (DY (W (2*j)):Nat)=0/\DY (W (2*j))<=n/2-j
   .rw [if_pos hc,if_pos ⟨by omega,by omega,hc⟩]
   .rw [if_neg hc,if_neg (λ d=>hc d.2.2)]
  rw[show El W n ts (j:Nat) w=λ e w'=>El W n ts (j:Nat) w e w' from rfl]
  simp only[El,A]
  generalize W (2*j)=X at o f
  obtain⟨r,D⟩:∃ x,CE X=x:=⟨_,rfl⟩
  obtain⟨ty,E⟩:∃ x,EA X=x:=⟨_,rfl⟩
  obtain⟨ln,C⟩:∃ x,EX X=x:=⟨_,rfl⟩
  obtain⟨sz,u⟩:∃ x,DY X=x:=⟨_,rfl⟩
  rw[D,E,C,u] at o ⊢
  rw[u] at f
  cases hok:Ct X with
  |false=>
   simp only[Bool.false_eq_true,false_and,if_false]
   exact DOf_err (j:Nat) q n cap b 7 w (by omega) (λ a k=>(o a k).mono λ e w' c=>by
    rw[FC,hok] at c
    exact c)
  |true=>
   have p:∀ a,Kp Aa w a->Calls prog 113 #[.slice (some ⟨q,0,none⟩) n cap,j] a (RK (.tuple #[.agg #[.int .u8 r,ty,ln,sz],(0:Int)]) a):=
    λ a k=>(o a k).mono λ e w' c=>by
     rw[FC,hok] at c
     exact c
   simp only[true_and]
   by_cases ht:r=1
   .subst ht
    simp only[true_and]
    have hF:∀ a,Kp Aa w a->Calls prog 114 #[b,.agg #[.int .u8 1,ty,ln,sz]] a (RK (.int .i64 (CU ts 1 (ty:Nat) (ln:Nat) (sz:Nat))) a):=
     λ a k=>DFits_any b 1 (ty:Nat) (ln:Nat) (sz:Nat) ts a (v.Ac k) t z
    by_cases hf:CU ts 1 (ty:Nat) (ln:Nat) (sz:Nat)=0
    .rw [hf] at hF
     by_cases hz:sz<=n/2-j
     .rw [if_pos ⟨hf,hz⟩]
      obtain⟨-,B,-⟩:=fitsE_zero hf
      obtain⟨k,wds,m,y⟩:=Fs B
      exact(DOf_ok j q n cap b ty ln sz k wds m w hz f l i p hF (λ a F=>(DGet_any b (ty:Nat) ts a (v.Ac F) t).mono λ e w' c=>by
       rw[y] at c
       exact c)).mono λ e w' c=>⟨k,wds,m,y,c⟩
     .rw [if_neg (λ d=>hz d.2)]
      exact DOf_big j q n cap b ty ln sz w (by omega) f l i p hF
    .rw [if_neg (λ d=>hf d.1)]
     exact DOf_fit j q n cap b ty ln sz _ w hf f l i p hF
   .rw [if_neg (λ d=>ht d.1)]
    exact DOf_tag j q n cap b r ty ln sz w ht f l i p

def BO(k wds:Int)(M s:Nat):Bool:=
 if k=1 then M/2 ^ s%2==1 else if k=3 then M/2 ^ (s%wds.toNat)%2==1 else k==2

def AR(k wds:Int)(M j:Nat):List Nat:=(List.range j).filter λ s=>BO k wds M s

def BP(k wds:Int)(M:Nat)(n:Int):List Nat:=AR k wds M (AZ k wds n).toNat

theorem refsUpto_succ(k wds:Int)(M j:Nat):AR k wds M (j+1)=AR k wds M j++(if BO k wds M j then [j] else []):=by
 unfold AR
 rw[List.range_succ,List.filter_append]
 congr 1
 by_cases h:BO k wds M j <;> simp[h]

theorem refsUpto_len(k wds:Int)(M j:Nat):(AR k wds M j).length<=j:=by
 have:=List.length_filter_le (λ s=>BO k wds M s) (List.range j)
 simpa [AR] using this

theorem refsUpto_mem{k wds:Int}{M j s:Nat}(h:s∈AR k wds M j):s<j:=by
 have:=(List.mem_filter.1 h).1
 simpa using this

theorem DIs_any(k wds:Int)(M s:Nat)(w:World)(z:s<65536)(d:k=1->s<64)(e:k=3->1<=wds/\wds<=16):
  Calls prog 166 #[.agg #[.int .u8 k,.int .i64 wds,.int .u64 M],s] w (RK (.bool (BO k wds M s)) w):=by
 obtain⟨w1,a⟩:∃ w1,w1=w.alloc (.cells #[.int .u8 k,.int .i64 wds,.int .u64 M] 106):=⟨_,rfl⟩
 have f:Kp Aa w w1:=by rw[a];exact (Kr _ w).alloc _
 have i:w1.heap[w.heap.size]?=some (.cells #[.int .u8 k,.int .i64 wds,.int .u64 M] 106 (0,0)):=by rw[a];exact wN w _
 have A:w.heap.size<w1.heap.size:=lZ i
 obtain⟨c0,v,x⟩:=cells3 i
 clear i
 by_cases e1:k=1
 .subst e1
  have y:=d rfl
  by_cases hb:M/2 ^ s%2=0
  .have b:Sl (BO 1 wds M s=false):=⟨by unfold BO;rw [if_pos rfl,hb];rfl⟩
   have j:=mod_ne hb
   clear hb d e
   go_enter func166,ntmps166
   go_wp2_with fail
   try rw[<- a]
   clear a
   go_wp2
   go_ret
   exact⟨by rw[b.o];rfl,f⟩
  .have b:Sl (BO 1 wds M s=true):=⟨by unfold BO;rw [if_pos rfl,show M/2 ^ s%2=1 by omega];rfl⟩
   have j:=mod_eq hb
   clear hb d e
   go_enter func166,ntmps166
   go_wp2_with fail
   try rw[<- a]
   clear a
   go_wp2
   go_ret
   exact⟨by rw[b.o];rfl,f⟩
 .have t:(k==1)=false:=by simpa using e1
  by_cases e3:k=3
  .subst e3
   obtain⟨p,q⟩:=e rfl
   obtain⟨c,rfl⟩:=Int.eq_ofNat_of_zero_le (show 0<=wds by omega)
   have n:((s:Nat):Int).tmod ((c:Nat):Int)=((s%c:Nat):Int):=by
    rw[Int.tmod_eq_emod_of_nonneg (by omega)]
    push_cast;rfl
   have m:s%c<16:=Nat.lt_of_lt_of_le (Nat.mod_lt _ (by omega)) (by omega)
   obtain⟨r,g⟩:∃ r,s%c=r:=⟨_,rfl⟩
   have l:=sE g
   rw[g] at n m
   have B:¬ ((c:Nat):Int)=0:=by omega
   have C:(((c:Nat):Int)==0)=false:=by simp;omega
   by_cases hb:M/2 ^ r%2=0
   .have b:Sl (BO 3 (c:Nat) M s=false):=⟨by unfold BO;rw [if_neg (by omega),if_pos rfl,Int.toNat_natCast,l.o,hb];rfl⟩
    have j:=mod_ne hb
    clear hb d e g
    go_enter func166,ntmps166
    go_wp2_with fail
    try rw[<- a]
    clear a
    go_wp2_with fail
    go_quiet (fail)
    go_wp2
    go_ret
    exact⟨by rw[b.o];rfl,f.drewN _⟩
   .have b:Sl (BO 3 (c:Nat) M s=true):=⟨by unfold BO;rw [if_neg (by omega),if_pos rfl,Int.toNat_natCast,l.o,show M/2 ^ r%2=1 by omega];rfl⟩
    have j:=mod_eq hb
    clear hb d e g
    go_enter func166,ntmps166
    go_wp2_with fail
    try rw[<- a]
    clear a
    go_wp2_with fail
    go_quiet (fail)
    go_wp2
    go_ret
    exact⟨by rw[b.o];rfl,f.drewN _⟩
  .have u:(k==3)=false:=by simpa using e3
   have b:Sl (BO k wds M s=(k==2)):=⟨by unfold BO;rw [if_neg e1,if_neg e3]⟩
   clear d e
   go_enter func166,ntmps166
   go_wp2_with fail
   try rw[<- a]
   clear a
   go_wp2
   go_ret
   exact⟨by rw[b.o];rfl,f⟩

theorem Cq{w:World}{base f:Nat}{e:TypeId}{i:Nat}{v:Value}{n:Nat}{xs:List Value}(k:w.ownsRow base e i v n xs)(m:f<=base):w.ownsRow f e i v n xs:=by
 obtain⟨l,d⟩:=k
 refine⟨l,?_⟩
 rcases d with d|⟨g,cap,j,a,b,c⟩
 .exact .inl d
 .exact .inr ⟨g,cap,j,a,by omega,c⟩

def DRefsPost(k wds:Int)(M:Nat)(n:Int)(w:World)(e:Ending)(w':World):Prop:=
 ∃ v,e=.returned (.tuple #[v,(0:Int)])/\w'.ownsRow w.heap.size 3 1 v (BP k wds M n).length (Az (BP k wds M n))/\Kp Aa w w'

theorem DRefs_any(k wds:Int)(M:Nat)(n:Int)(w:World)(a3:M<18446744073709551616)(b:AU k wds M n=0):
  Calls prog 116 #[.agg #[.int .u8 k,.int .i64 wds,.int .u64 M],.int .i64 n] w (DRefsPost k wds M n w):=by
 obtain⟨K,hK⟩:∃ K:Nat,AZ k wds n=(K:Nat):=Int.eq_ofNat_of_zero_le (Bj b).1
 have b3:K<=65536:=by have:=(Bj b).2;omega
 obtain⟨a8,a9,b0,b1,b2⟩:=Ec b
 have H:k=1->K<=64:=λ e=>by
  rw[AZ,if_pos e] at hK
  omega
 have I:k=3->1<=wds/\wds<=16:=λ e=>by omega
 obtain⟨w1,x⟩:∃ w1,w1=w.alloc (.cells #[.int .u8 k,.int .i64 wds,.int .u64 M] 106):=⟨_,rfl⟩
 have S:Kp Aa w w1:=by rw[x];exact (Kr _ w).alloc _
 have D:w1.heap[w.heap.size]?=some (.cells #[.int .u8 k,.int .i64 wds,.int .u64 M] 106 (0,0)):=by rw[x];exact wN w _
 have c1:w.heap.size<w1.heap.size:=lZ D
 have F:=sE D
 have t:=DSlots_any k wds M n w1 a3
 unfold DZ at t
 rw[b,if_pos rfl,hK] at t
 have Z:=sE t
 have V:Sl (∀ (s:Nat) m,s<K->Calls prog 166 #[.agg #[.int .u8 k,.int .i64 wds,.int .u64 M],.int .i64 (s:Nat)] m (RK (.bool (BO k wds M s)) m)):=
  ⟨λ s m b8=>DIs_any k wds M s m (by omega) (λ e=>by have:=H e;omega) I⟩
 have Y:Sl (BP k wds M n=AR k wds M K):=⟨by unfold BP;rw [hK,Int.toNat_natCast]⟩
 clear t D hK b a8 a9 b0 b1 b2 H I
 go_enter func116,ntmps116
 go_wp2_with fail
 try rw[<- x]
 clear x
 obtain⟨p,q,r⟩:=cells3 F.o
 go_wp2_with fail
 refine Z.o.mono ?_
 rintro e w2 ⟨rfl,z⟩
 have U:=sE (z.at_ F.o id)
 have a0:Kp Aa w w2:=S.then' z
 have b9:=z.size
 clear p q r z S
 go_wp2_with fail
 go_loopw [8,9] (λ v y wr=>∃ j:Nat,j<=K/\y=.int .i64 j/\wr.ownsRow w2.heap.size 3 1 v (AR k wds M j).length (Az (AR k wds M j))/\Kp Aa w2 wr) (λ _ y _=>K-(intOf y).toNat)
 case atStart=>exact ⟨0,Nat.zero_le _,rfl,World.ownsRow_nil _ _ _ _,Kr _ _⟩
 case round=>
  obtain⟨j,b4,rfl,E,c⟩:=hrel
  by_cases hjl:j<K
  .have a5:(j:Int)<(K:Int):=by omega
   have B:=c.at_ U.o id
   obtain⟨p,q,r⟩:=cells3 B
   have c3:=lZ B
   have b6:=refsUpto_len k wds M j
   have c2:=c.size
   have W:=sE c
   have X:=sE E
   have G:=sE (refsUpto_succ k wds M j)
   clear B c E
   go_wp2_with fail
   refine(V.o j _ hjl).mono ?_
   rintro e A ⟨rfl,d⟩
   have i:=W.o.then' d
   have l:A.ownsRow w2.heap.size 3 1 u8 (AR k wds M j).length (Az (AR k wds M j)):=d.owns X.o (λ _ _ a1=>a1)
   have c0:=d.size
   cases hb:BO k wds M j with
   |false=>
    have a:Sl (AR k wds M (j+1)=AR k wds M j):=⟨by rw[G.o,hb];simp⟩
    have f:=sE l
    have C:=sE i
    clear hb p q r d l i
    go_wp2
    exact⟨⟨j+1,by omega,by go_num,by rw[a.o];exact f.o,C.o⟩,by simp only[intOf];omega⟩
   |true=>
    have a:Sl (AR k wds M (j+1)=AR k wds M j++[j]):=⟨by rw[G.o,hb];simp⟩
    have f:=sE l
    have C:=sE i
    clear hb p q r d l i
    go_wp2_with (at_builtin;obtain ⟨a6,L,P,Q,R⟩:=info_parts Be;go_loud (refine wpList_append_lies _ rfl (.tmp 27) (.tmp 29) 24 rfl w2.heap.size 3 a6 _ 1 8 Ar L P Q R rfl (by omega) u8 (AR k wds M j).length (Az (AR k wds M j)) rfl (f.o.alloc _) ⟨A.heap.size,0,none⟩ 1 1 [j] rfl rfl (World.news_of_block (wN A _)) (by intro u O;simp at O;subst O;rfl) (by omega) (by unfold maxLen;omega) (by omega) (by simp;omega) (A.heap.size+1) (by simp) ?_);intro g cap T N J a4 b7;clear L P Q R)
    have a7:Kp Aa w2 T:=(C.o.alloc _).grown J (λ k e b5=>absurd (f.o.lt k e).1 (by omega))
    have a2:T.ownsRow w2.heap.size 3 1 (.slice (some ⟨g,0,none⟩) ((AR k wds M j).length+1) cap) (AR k wds M (j+1)).length (Az (AR k wds M (j+1))):=by
     rw[a.o,Az,List.map_append,List.length_append];exact N
    clear N J a4
    go_wp2
    exact⟨⟨j+1,by omega,by go_num,a2,a7⟩,by simp only[intOf];omega⟩
  .have a5:¬ (j:Int)<(K:Int):=by omega
   have a:Sl (BP k wds M n=AR k wds M j):=⟨by rw[Y.o,show j=K by omega]⟩
   go_wp2
   exact bodyPost_ret (v:=.tuple #[u8,(0:Int)]) (by simp[results,results116,go_sem]) rfl ⟨u8,rfl,by rw[a.o];exact Cq E (by omega),a0.then' c⟩

end

end Go.Proofs.YtfkedlgpgmaemaaGreatDoor
