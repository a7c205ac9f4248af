/-
  Lemmas for the laws, together: DocB.
-/
import Derived.Test.YtmfajopmppfldaaGreatDoorQaf
import Derived.Test.YtmfajopmppfldaaGreatDoorQai
import Derived.Test.YtmfajopmppfldaaGreatDoorQag
set_option linter.unusedVariables false
set_option maxHeartbeats 16000000
namespace Go.Proofs.YtmfajopmppfldaaGreatDoor
open Tryz
section
open Go.RowKit

theorem DHMay_small(tag ty ln sz:Int)(w:World)(h0:sz<1):
  Calls prog 184 #[.agg #[.int .u8 tag,.int .i64 ty,.int .i64 ln,.int .i64 sz]] w λ e w'=>e=.returned (.bool false)/\Kp Ab w w':=by
 have hd0:decide (sz<1)=true:=dT (by omega)
 have b0:=wN w (.cells #[.int .u8 tag,.int .i64 ty,.int .i64 ln,.int .i64 sz] 52)
 have kA:=(Kr Ab w).alloc (.cells #[.int .u8 tag,.int .i64 ty,.int .i64 ln,.int .i64 sz] 52)
 go_enter func184,ntmps184
 go_wp2_with fail
 obtain⟨w1,hw1⟩:∃ w1,w1=w.alloc (.cells #[.int .u8 tag,.int .i64 ty,.int .i64 ln,.int .i64 sz] 52):=⟨_,rfl⟩
 rw[<- hw1] at b0 kA ⊢
 have c0:w1.cell? ⟨w.heap.size,0,none⟩=some (.int .u8 tag):=by simp[World.cell?,b0]
 have c1:w1.cell? ⟨w.heap.size,1,none⟩=some (.int .i64 ty):=by simp[World.cell?,b0]
 have c2:w1.cell? ⟨w.heap.size,2,none⟩=some (.int .i64 ln):=by simp[World.cell?,b0]
 have c3:w1.cell? ⟨w.heap.size,3,none⟩=some (.int .i64 sz):=by simp[World.cell?,b0]
 clear hw1 b0
 go_wp2
 go_ret
 exact⟨rfl,kA⟩

theorem DHMay_big(tag ty ln sz:Int)(w:World)(h0:1<=sz)(h1:16777216<=sz):
  Calls prog 184 #[.agg #[.int .u8 tag,.int .i64 ty,.int .i64 ln,.int .i64 sz]] w λ e w'=>e=.returned (.bool false)/\Kp Ab w w':=by
 have hd0:decide (sz<1)=false:=dF (by omega)
 have hd1:decide (16777216<=sz)=true:=dT (by omega)
 have b0:=wN w (.cells #[.int .u8 tag,.int .i64 ty,.int .i64 ln,.int .i64 sz] 52)
 have kA:=(Kr Ab w).alloc (.cells #[.int .u8 tag,.int .i64 ty,.int .i64 ln,.int .i64 sz] 52)
 go_enter func184,ntmps184
 go_wp2_with fail
 obtain⟨w1,hw1⟩:∃ w1,w1=w.alloc (.cells #[.int .u8 tag,.int .i64 ty,.int .i64 ln,.int .i64 sz] 52):=⟨_,rfl⟩
 rw[<- hw1] at b0 kA ⊢
 have c0:w1.cell? ⟨w.heap.size,0,none⟩=some (.int .u8 tag):=by simp[World.cell?,b0]
 have c1:w1.cell? ⟨w.heap.size,1,none⟩=some (.int .i64 ty):=by simp[World.cell?,b0]
 have c2:w1.cell? ⟨w.heap.size,2,none⟩=some (.int .i64 ln):=by simp[World.cell?,b0]
 have c3:w1.cell? ⟨w.heap.size,3,none⟩=some (.int .i64 sz):=by simp[World.cell?,b0]
 clear hw1 b0
 go_wp2
 go_ret
 exact⟨rfl,kA⟩

theorem DHMay_low(tag ty ln sz:Int)(w:World)(h0:1<=sz)(h1:sz<16777216)(h2:ln<0):
  Calls prog 184 #[.agg #[.int .u8 tag,.int .i64 ty,.int .i64 ln,.int .i64 sz]] w λ e w'=>e=.returned (.bool false)/\Kp Ab w w':=by
 have hd0:decide (sz<1)=false:=dF (by omega)
 have hd1:decide (16777216<=sz)=false:=dF (by omega)
 have hd2:decide (ln<0)=true:=dT (by omega)
 have b0:=wN w (.cells #[.int .u8 tag,.int .i64 ty,.int .i64 ln,.int .i64 sz] 52)
 have kA:=(Kr Ab w).alloc (.cells #[.int .u8 tag,.int .i64 ty,.int .i64 ln,.int .i64 sz] 52)
 go_enter func184,ntmps184
 go_wp2_with fail
 obtain⟨w1,hw1⟩:∃ w1,w1=w.alloc (.cells #[.int .u8 tag,.int .i64 ty,.int .i64 ln,.int .i64 sz] 52):=⟨_,rfl⟩
 rw[<- hw1] at b0 kA ⊢
 have c0:w1.cell? ⟨w.heap.size,0,none⟩=some (.int .u8 tag):=by simp[World.cell?,b0]
 have c1:w1.cell? ⟨w.heap.size,1,none⟩=some (.int .i64 ty):=by simp[World.cell?,b0]
 have c2:w1.cell? ⟨w.heap.size,2,none⟩=some (.int .i64 ln):=by simp[World.cell?,b0]
 have c3:w1.cell? ⟨w.heap.size,3,none⟩=some (.int .i64 sz):=by simp[World.cell?,b0]
 clear hw1 b0
 go_wp2
 go_ret
 exact⟨rfl,kA⟩

theorem DHMay_long(tag ty ln sz:Int)(w:World)(h0:1<=sz)(h1:sz<16777216)(h2:0<=ln)(h3:16777216<=ln):
  Calls prog 184 #[.agg #[.int .u8 tag,.int .i64 ty,.int .i64 ln,.int .i64 sz]] w λ e w'=>e=.returned (.bool false)/\Kp Ab w w':=by
 have hd0:decide (sz<1)=false:=dF (by omega)
 have hd1:decide (16777216<=sz)=false:=dF (by omega)
 have hd2:decide (ln<0)=false:=dF (by omega)
 have hd3:decide (16777216<=ln)=true:=dT (by omega)
 have b0:=wN w (.cells #[.int .u8 tag,.int .i64 ty,.int .i64 ln,.int .i64 sz] 52)
 have kA:=(Kr Ab w).alloc (.cells #[.int .u8 tag,.int .i64 ty,.int .i64 ln,.int .i64 sz] 52)
 go_enter func184,ntmps184
 go_wp2_with fail
 obtain⟨w1,hw1⟩:∃ w1,w1=w.alloc (.cells #[.int .u8 tag,.int .i64 ty,.int .i64 ln,.int .i64 sz] 52):=⟨_,rfl⟩
 rw[<- hw1] at b0 kA ⊢
 have c0:w1.cell? ⟨w.heap.size,0,none⟩=some (.int .u8 tag):=by simp[World.cell?,b0]
 have c1:w1.cell? ⟨w.heap.size,1,none⟩=some (.int .i64 ty):=by simp[World.cell?,b0]
 have c2:w1.cell? ⟨w.heap.size,2,none⟩=some (.int .i64 ln):=by simp[World.cell?,b0]
 have c3:w1.cell? ⟨w.heap.size,3,none⟩=some (.int .i64 sz):=by simp[World.cell?,b0]
 clear hw1 b0
 go_wp2
 go_ret
 exact⟨rfl,kA⟩

theorem DHMay_obj(ty ln sz:Int)(w:World)(h0:1<=sz)(h1:sz<16777216)(h2:0<=ln)(h3:ln<16777216)(h4:1<=ty)(h5:ty<=4095):
  Calls prog 184 #[.agg #[.int .u8 1,.int .i64 ty,.int .i64 ln,.int .i64 sz]] w λ e w'=>e=.returned (.bool true)/\Kp Ab w w':=by
 have hd0:decide (sz<1)=false:=dF (by omega)
 have hd1:decide (16777216<=sz)=false:=dF (by omega)
 have hd2:decide (ln<0)=false:=dF (by omega)
 have hd3:decide (16777216<=ln)=false:=dF (by omega)
 have hd4:decide (1<=ty)=true:=dT (by omega)
 have hd5:decide (ty<=4095)=true:=dT (by omega)
 have b0:=wN w (.cells #[.int .u8 1,.int .i64 ty,.int .i64 ln,.int .i64 sz] 52)
 have kA:=(Kr Ab w).alloc (.cells #[.int .u8 1,.int .i64 ty,.int .i64 ln,.int .i64 sz] 52)
 go_enter func184,ntmps184
 go_wp2_with fail
 obtain⟨w1,hw1⟩:∃ w1,w1=w.alloc (.cells #[.int .u8 1,.int .i64 ty,.int .i64 ln,.int .i64 sz] 52):=⟨_,rfl⟩
 rw[<- hw1] at b0 kA ⊢
 have c0:w1.cell? ⟨w.heap.size,0,none⟩=some (.int .u8 1):=by simp[World.cell?,b0]
 have c1:w1.cell? ⟨w.heap.size,1,none⟩=some (.int .i64 ty):=by simp[World.cell?,b0]
 have c2:w1.cell? ⟨w.heap.size,2,none⟩=some (.int .i64 ln):=by simp[World.cell?,b0]
 have c3:w1.cell? ⟨w.heap.size,3,none⟩=some (.int .i64 sz):=by simp[World.cell?,b0]
 clear hw1 b0
 go_wp2
 go_ret
 exact⟨rfl,kA⟩

theorem DHMay_obj0(ty ln sz:Int)(w:World)(h0:1<=sz)(h1:sz<16777216)(h2:0<=ln)(h3:ln<16777216)(h4:ty<1):
  Calls prog 184 #[.agg #[.int .u8 1,.int .i64 ty,.int .i64 ln,.int .i64 sz]] w λ e w'=>e=.returned (.bool false)/\Kp Ab w w':=by
 have hd0:decide (sz<1)=false:=dF (by omega)
 have hd1:decide (16777216<=sz)=false:=dF (by omega)
 have hd2:decide (ln<0)=false:=dF (by omega)
 have hd3:decide (16777216<=ln)=false:=dF (by omega)
 have hd4:decide (1<=ty)=false:=dF (by omega)
 have b0:=wN w (.cells #[.int .u8 1,.int .i64 ty,.int .i64 ln,.int .i64 sz] 52)
 have kA:=(Kr Ab w).alloc (.cells #[.int .u8 1,.int .i64 ty,.int .i64 ln,.int .i64 sz] 52)
 go_enter func184,ntmps184
 go_wp2_with fail
 obtain⟨w1,hw1⟩:∃ w1,w1=w.alloc (.cells #[.int .u8 1,.int .i64 ty,.int .i64 ln,.int .i64 sz] 52):=⟨_,rfl⟩
 rw[<- hw1] at b0 kA ⊢
 have c0:w1.cell? ⟨w.heap.size,0,none⟩=some (.int .u8 1):=by simp[World.cell?,b0]
 have c1:w1.cell? ⟨w.heap.size,1,none⟩=some (.int .i64 ty):=by simp[World.cell?,b0]
 have c2:w1.cell? ⟨w.heap.size,2,none⟩=some (.int .i64 ln):=by simp[World.cell?,b0]
 have c3:w1.cell? ⟨w.heap.size,3,none⟩=some (.int .i64 sz):=by simp[World.cell?,b0]
 clear hw1 b0
 go_wp2
 go_ret
 exact⟨rfl,kA⟩

theorem DHMay_obj9(ty ln sz:Int)(w:World)(h0:1<=sz)(h1:sz<16777216)(h2:0<=ln)(h3:ln<16777216)(h4:1<=ty)(h5:4095<ty):
  Calls prog 184 #[.agg #[.int .u8 1,.int .i64 ty,.int .i64 ln,.int .i64 sz]] w λ e w'=>e=.returned (.bool false)/\Kp Ab w w':=by
 have hd0:decide (sz<1)=false:=dF (by omega)
 have hd1:decide (16777216<=sz)=false:=dF (by omega)
 have hd2:decide (ln<0)=false:=dF (by omega)
 have hd3:decide (16777216<=ln)=false:=dF (by omega)
 have hd4:decide (1<=ty)=true:=dT (by omega)
 have hd5:decide (ty<=4095)=false:=dF (by omega)
 have b0:=wN w (.cells #[.int .u8 1,.int .i64 ty,.int .i64 ln,.int .i64 sz] 52)
 have kA:=(Kr Ab w).alloc (.cells #[.int .u8 1,.int .i64 ty,.int .i64 ln,.int .i64 sz] 52)
 go_enter func184,ntmps184
 go_wp2_with fail
 obtain⟨w1,hw1⟩:∃ w1,w1=w.alloc (.cells #[.int .u8 1,.int .i64 ty,.int .i64 ln,.int .i64 sz] 52):=⟨_,rfl⟩
 rw[<- hw1] at b0 kA ⊢
 have c0:w1.cell? ⟨w.heap.size,0,none⟩=some (.int .u8 1):=by simp[World.cell?,b0]
 have c1:w1.cell? ⟨w.heap.size,1,none⟩=some (.int .i64 ty):=by simp[World.cell?,b0]
 have c2:w1.cell? ⟨w.heap.size,2,none⟩=some (.int .i64 ln):=by simp[World.cell?,b0]
 have c3:w1.cell? ⟨w.heap.size,3,none⟩=some (.int .i64 sz):=by simp[World.cell?,b0]
 clear hw1 b0
 go_wp2
 go_ret
 exact⟨rfl,kA⟩

theorem DHMay_fil(sz:Int)(w:World)(h0:1<=sz)(h1:sz<16777216):
  Calls prog 184 #[.agg #[.int .u8 2,.int .i64 0,.int .i64 0,.int .i64 sz]] w λ e w'=>e=.returned (.bool true)/\Kp Ab w w':=by
 have hd0:decide (sz<1)=false:=dF (by omega)
 have hd1:decide (16777216<=sz)=false:=dF (by omega)
 have b0:=wN w (.cells #[.int .u8 2,.int .i64 0,.int .i64 0,.int .i64 sz] 52)
 have kA:=(Kr Ab w).alloc (.cells #[.int .u8 2,.int .i64 0,.int .i64 0,.int .i64 sz] 52)
 go_enter func184,ntmps184
 go_wp2_with fail
 obtain⟨w1,hw1⟩:∃ w1,w1=w.alloc (.cells #[.int .u8 2,.int .i64 0,.int .i64 0,.int .i64 sz] 52):=⟨_,rfl⟩
 rw[<- hw1] at b0 kA ⊢
 have c0:w1.cell? ⟨w.heap.size,0,none⟩=some (.int .u8 2):=by simp[World.cell?,b0]
 have c1:w1.cell? ⟨w.heap.size,1,none⟩=some (.int .i64 0):=by simp[World.cell?,b0]
 have c2:w1.cell? ⟨w.heap.size,2,none⟩=some (.int .i64 0):=by simp[World.cell?,b0]
 have c3:w1.cell? ⟨w.heap.size,3,none⟩=some (.int .i64 sz):=by simp[World.cell?,b0]
 clear hw1 b0
 go_wp2
 go_ret
 exact⟨rfl,kA⟩

theorem DHMay_filT(ty ln sz:Int)(w:World)(h0:1<=sz)(h1:sz<16777216)(h2:0<=ln)(h3:ln<16777216)(h4:¬ ty=0):
  Calls prog 184 #[.agg #[.int .u8 2,.int .i64 ty,.int .i64 ln,.int .i64 sz]] w λ e w'=>e=.returned (.bool false)/\Kp Ab w w':=by
 have hd0:decide (sz<1)=false:=dF (by omega)
 have hd1:decide (16777216<=sz)=false:=dF (by omega)
 have hd2:decide (ln<0)=false:=dF (by omega)
 have hd3:decide (16777216<=ln)=false:=dF (by omega)
 have hd4:(ty==0)=false:=by simp;omega
 have b0:=wN w (.cells #[.int .u8 2,.int .i64 ty,.int .i64 ln,.int .i64 sz] 52)
 have kA:=(Kr Ab w).alloc (.cells #[.int .u8 2,.int .i64 ty,.int .i64 ln,.int .i64 sz] 52)
 go_enter func184,ntmps184
 go_wp2_with fail
 obtain⟨w1,hw1⟩:∃ w1,w1=w.alloc (.cells #[.int .u8 2,.int .i64 ty,.int .i64 ln,.int .i64 sz] 52):=⟨_,rfl⟩
 rw[<- hw1] at b0 kA ⊢
 have c0:w1.cell? ⟨w.heap.size,0,none⟩=some (.int .u8 2):=by simp[World.cell?,b0]
 have c1:w1.cell? ⟨w.heap.size,1,none⟩=some (.int .i64 ty):=by simp[World.cell?,b0]
 have c2:w1.cell? ⟨w.heap.size,2,none⟩=some (.int .i64 ln):=by simp[World.cell?,b0]
 have c3:w1.cell? ⟨w.heap.size,3,none⟩=some (.int .i64 sz):=by simp[World.cell?,b0]
 clear hw1 b0
 go_wp2
 go_ret
 exact⟨rfl,kA⟩

theorem DHMay_filL(ln sz:Int)(w:World)(h0:1<=sz)(h1:sz<16777216)(h2:0<=ln)(h3:ln<16777216)(h4:¬ ln=0):
  Calls prog 184 #[.agg #[.int .u8 2,.int .i64 0,.int .i64 ln,.int .i64 sz]] w λ e w'=>e=.returned (.bool false)/\Kp Ab w w':=by
 have hd0:decide (sz<1)=false:=dF (by omega)
 have hd1:decide (16777216<=sz)=false:=dF (by omega)
 have hd2:decide (ln<0)=false:=dF (by omega)
 have hd3:decide (16777216<=ln)=false:=dF (by omega)
 have hd4:(ln==0)=false:=by simp;omega
 have b0:=wN w (.cells #[.int .u8 2,.int .i64 0,.int .i64 ln,.int .i64 sz] 52)
 have kA:=(Kr Ab w).alloc (.cells #[.int .u8 2,.int .i64 0,.int .i64 ln,.int .i64 sz] 52)
 go_enter func184,ntmps184
 go_wp2_with fail
 obtain⟨w1,hw1⟩:∃ w1,w1=w.alloc (.cells #[.int .u8 2,.int .i64 0,.int .i64 ln,.int .i64 sz] 52):=⟨_,rfl⟩
 rw[<- hw1] at b0 kA ⊢
 have c0:w1.cell? ⟨w.heap.size,0,none⟩=some (.int .u8 2):=by simp[World.cell?,b0]
 have c1:w1.cell? ⟨w.heap.size,1,none⟩=some (.int .i64 0):=by simp[World.cell?,b0]
 have c2:w1.cell? ⟨w.heap.size,2,none⟩=some (.int .i64 ln):=by simp[World.cell?,b0]
 have c3:w1.cell? ⟨w.heap.size,3,none⟩=some (.int .i64 sz):=by simp[World.cell?,b0]
 clear hw1 b0
 go_wp2
 go_ret
 exact⟨rfl,kA⟩

theorem DHMay_fre(sz:Int)(w:World)(h0:1<=sz)(h1:sz<16777216):
  Calls prog 184 #[.agg #[.int .u8 3,.int .i64 0,.int .i64 0,.int .i64 sz]] w λ e w'=>e=.returned (.bool true)/\Kp Ab w w':=by
 have hd0:decide (sz<1)=false:=dF (by omega)
 have hd1:decide (16777216<=sz)=false:=dF (by omega)
 have b0:=wN w (.cells #[.int .u8 3,.int .i64 0,.int .i64 0,.int .i64 sz] 52)
 have kA:=(Kr Ab w).alloc (.cells #[.int .u8 3,.int .i64 0,.int .i64 0,.int .i64 sz] 52)
 go_enter func184,ntmps184
 go_wp2_with fail
 obtain⟨w1,hw1⟩:∃ w1,w1=w.alloc (.cells #[.int .u8 3,.int .i64 0,.int .i64 0,.int .i64 sz] 52):=⟨_,rfl⟩
 rw[<- hw1] at b0 kA ⊢
 have c0:w1.cell? ⟨w.heap.size,0,none⟩=some (.int .u8 3):=by simp[World.cell?,b0]
 have c1:w1.cell? ⟨w.heap.size,1,none⟩=some (.int .i64 0):=by simp[World.cell?,b0]
 have c2:w1.cell? ⟨w.heap.size,2,none⟩=some (.int .i64 0):=by simp[World.cell?,b0]
 have c3:w1.cell? ⟨w.heap.size,3,none⟩=some (.int .i64 sz):=by simp[World.cell?,b0]
 clear hw1 b0
 go_wp2
 go_ret
 exact⟨rfl,kA⟩

theorem DHMay_freT(ty ln sz:Int)(w:World)(h0:1<=sz)(h1:sz<16777216)(h2:0<=ln)(h3:ln<16777216)(h4:¬ ty=0):
  Calls prog 184 #[.agg #[.int .u8 3,.int .i64 ty,.int .i64 ln,.int .i64 sz]] w λ e w'=>e=.returned (.bool false)/\Kp Ab w w':=by
 have hd0:decide (sz<1)=false:=dF (by omega)
 have hd1:decide (16777216<=sz)=false:=dF (by omega)
 have hd2:decide (ln<0)=false:=dF (by omega)
 have hd3:decide (16777216<=ln)=false:=dF (by omega)
 have hd4:(ty==0)=false:=by simp;omega
 have b0:=wN w (.cells #[.int .u8 3,.int .i64 ty,.int .i64 ln,.int .i64 sz] 52)
 have kA:=(Kr Ab w).alloc (.cells #[.int .u8 3,.int .i64 ty,.int .i64 ln,.int .i64 sz] 52)
 go_enter func184,ntmps184
 go_wp2_with fail
 obtain⟨w1,hw1⟩:∃ w1,w1=w.alloc (.cells #[.int .u8 3,.int .i64 ty,.int .i64 ln,.int .i64 sz] 52):=⟨_,rfl⟩
 rw[<- hw1] at b0 kA ⊢
 have c0:w1.cell? ⟨w.heap.size,0,none⟩=some (.int .u8 3):=by simp[World.cell?,b0]
 have c1:w1.cell? ⟨w.heap.size,1,none⟩=some (.int .i64 ty):=by simp[World.cell?,b0]
 have c2:w1.cell? ⟨w.heap.size,2,none⟩=some (.int .i64 ln):=by simp[World.cell?,b0]
 have c3:w1.cell? ⟨w.heap.size,3,none⟩=some (.int .i64 sz):=by simp[World.cell?,b0]
 clear hw1 b0
 go_wp2
 go_ret
 exact⟨rfl,kA⟩

theorem DHMay_freL(ln sz:Int)(w:World)(h0:1<=sz)(h1:sz<16777216)(h2:0<=ln)(h3:ln<16777216)(h4:¬ ln=0):
  Calls prog 184 #[.agg #[.int .u8 3,.int .i64 0,.int .i64 ln,.int .i64 sz]] w λ e w'=>e=.returned (.bool false)/\Kp Ab w w':=by
 have hd0:decide (sz<1)=false:=dF (by omega)
 have hd1:decide (16777216<=sz)=false:=dF (by omega)
 have hd2:decide (ln<0)=false:=dF (by omega)
 have hd3:decide (16777216<=ln)=false:=dF (by omega)
 have hd4:(ln==0)=false:=by simp;omega
 have b0:=wN w (.cells #[.int .u8 3,.int .i64 0,.int .i64 ln,.int .i64 sz] 52)
 have kA:=(Kr Ab w).alloc (.cells #[.int .u8 3,.int .i64 0,.int .i64 ln,.int .i64 sz] 52)
 go_enter func184,ntmps184
 go_wp2_with fail
 obtain⟨w1,hw1⟩:∃ w1,w1=w.alloc (.cells #[.int .u8 3,.int .i64 0,.int .i64 ln,.int .i64 sz] 52):=⟨_,rfl⟩
 rw[<- hw1] at b0 kA ⊢
 have c0:w1.cell? ⟨w.heap.size,0,none⟩=some (.int .u8 3):=by simp[World.cell?,b0]
 have c1:w1.cell? ⟨w.heap.size,1,none⟩=some (.int .i64 0):=by simp[World.cell?,b0]
 have c2:w1.cell? ⟨w.heap.size,2,none⟩=some (.int .i64 ln):=by simp[World.cell?,b0]
 have c3:w1.cell? ⟨w.heap.size,3,none⟩=some (.int .i64 sz):=by simp[World.cell?,b0]
 clear hw1 b0
 go_wp2
 go_ret
 exact⟨rfl,kA⟩

theorem DHMay_else(tag ty ln sz:Int)(w:World)(h0:1<=sz)(h1:sz<16777216)(h2:0<=ln)(h3:ln<16777216)(h4:¬ tag=1)(h5:¬ tag=2)(h6:¬ tag=3):
  Calls prog 184 #[.agg #[.int .u8 tag,.int .i64 ty,.int .i64 ln,.int .i64 sz]] w λ e w'=>e=.returned (.bool false)/\Kp Ab w w':=by
 have hd0:decide (sz<1)=false:=dF (by omega)
 have hd1:decide (16777216<=sz)=false:=dF (by omega)
 have hd2:decide (ln<0)=false:=dF (by omega)
 have hd3:decide (16777216<=ln)=false:=dF (by omega)
 have hd4:(tag==1)=false:=by simp;omega
 have hd5:(tag==2)=false:=by simp;omega
 have hd6:(tag==3)=false:=by simp;omega
 have b0:=wN w (.cells #[.int .u8 tag,.int .i64 ty,.int .i64 ln,.int .i64 sz] 52)
 have kA:=(Kr Ab w).alloc (.cells #[.int .u8 tag,.int .i64 ty,.int .i64 ln,.int .i64 sz] 52)
 go_enter func184,ntmps184
 go_wp2_with fail
 obtain⟨w1,hw1⟩:∃ w1,w1=w.alloc (.cells #[.int .u8 tag,.int .i64 ty,.int .i64 ln,.int .i64 sz] 52):=⟨_,rfl⟩
 rw[<- hw1] at b0 kA ⊢
 have c0:w1.cell? ⟨w.heap.size,0,none⟩=some (.int .u8 tag):=by simp[World.cell?,b0]
 have c1:w1.cell? ⟨w.heap.size,1,none⟩=some (.int .i64 ty):=by simp[World.cell?,b0]
 have c2:w1.cell? ⟨w.heap.size,2,none⟩=some (.int .i64 ln):=by simp[World.cell?,b0]
 have c3:w1.cell? ⟨w.heap.size,3,none⟩=some (.int .i64 sz):=by simp[World.cell?,b0]
 clear hw1 b0
 go_wp2
 go_ret
 exact⟨rfl,kA⟩

theorem EJ(tag ty ln sz:Int)(w:World):
  Calls prog 184 #[.agg #[.int .u8 tag,.int .i64 ty,.int .i64 ln,.int .i64 sz]] w λ e w'=>e=.returned (.bool (Am tag ty ln sz))/\Kp Ab w w':=by
 have yes:∀ b,b=true->Am tag ty ln sz=b->Am tag ty ln sz=true:=λ b h k=>k.trans h
 by_cases h1:sz<1
 .rw [show Am tag ty ln sz=false by simp[Am];omega];exact DHMay_small tag ty ln sz w h1
 by_cases h2:16777216<=sz
 .rw [show Am tag ty ln sz=false by simp[Am];omega];exact DHMay_big tag ty ln sz w (by omega) h2
 by_cases h3:ln<0
 .rw [show Am tag ty ln sz=false by simp[Am];omega];exact DHMay_low tag ty ln sz w (by omega) (by omega) h3
 by_cases h4:16777216<=ln
 .rw [show Am tag ty ln sz=false by simp[Am];omega];exact DHMay_long tag ty ln sz w (by omega) (by omega) (by omega) h4
 by_cases t1:tag=1
 .subst t1
  by_cases h5:ty<1
  .rw [show Am 1 ty ln sz=false by simp[Am];omega];exact DHMay_obj0 ty ln sz w (by omega) (by omega) (by omega) (by omega) h5
  by_cases h6:4095<ty
  .rw [show Am 1 ty ln sz=false by simp[Am];omega];exact DHMay_obj9 ty ln sz w (by omega) (by omega) (by omega) (by omega) (by omega) h6
  rw[show Am 1 ty ln sz=true by simp[Am];omega];exact DHMay_obj ty ln sz w (by omega) (by omega) (by omega) (by omega) (by omega) (by omega)
 by_cases t2:tag=2
 .subst t2
  by_cases h5:ty=0
  .subst h5
   by_cases h6:ln=0
   .subst h6
    rw[show Am 2 0 0 sz=true by simp[Am];omega];exact DHMay_fil sz w (by omega) (by omega)
   rw[show Am 2 0 ln sz=false by simp[Am];omega];exact DHMay_filL ln sz w (by omega) (by omega) (by omega) (by omega) h6
  rw[show Am 2 ty ln sz=false by simp[Am];omega];exact DHMay_filT ty ln sz w (by omega) (by omega) (by omega) (by omega) h5
 by_cases t3:tag=3
 .subst t3
  by_cases h5:ty=0
  .subst h5
   by_cases h6:ln=0
   .subst h6
    rw[show Am 3 0 0 sz=true by simp[Am];omega];exact DHMay_fre sz w (by omega) (by omega)
   rw[show Am 3 0 ln sz=false by simp[Am];omega];exact DHMay_freL ln sz w (by omega) (by omega) (by omega) (by omega) h6
  rw[show Am 3 ty ln sz=false by simp[Am];omega];exact DHMay_freT ty ln sz w (by omega) (by omega) (by omega) (by omega) h5
 rw[show Am tag ty ln sz=false by simp[Am];omega];exact DHMay_else tag ty ln sz w (by omega) (by omega) (by omega) (by omega) t1 t2 t3

theorem DEncode_no(tag ty ln sz:Int)(w:World)(h:Am tag ty ln sz=false):
  Calls prog 169 #[.agg #[.int .u8 tag,.int .i64 ty,.int .i64 ln,.int .i64 sz]] w λ e w'=>e=.returned (.tuple #[.int .u64 0,.int .i64 2])/\Kp Ab w w':=by
 have kA:=(Kr Ab w).alloc (.cells #[.int .u8 tag,.int .i64 ty,.int .i64 ln,.int .i64 sz] 52)
 have CK:=EJ tag ty ln sz (w.alloc (.cells #[.int .u8 tag,.int .i64 ty,.int .i64 ln,.int .i64 sz] 52))
 rw[h] at CK
 have HC:=sE CK
 clear CK h
 go_enter func169,ntmps169
 go_wp2_with fail
 refine HC.out.mono ?_
 rintro e w2 ⟨rfl,k2⟩
 clear HC
 go_wp2
 exact bodyPost_ret (v:=.tuple #[.int .u64 0,.int .i64 2]) (by simp[results,results169,go_sem]) rfl ⟨rfl,kA.then' k2⟩

theorem Fb(tag ty ln sz:Nat)(w:World)(h:Am tag ty ln sz=true):
  Calls prog 169 #[.agg #[.int .u8 (tag:Nat),.int .i64 (ty:Nat),.int .i64 (ln:Nat),.int .i64 (sz:Nat)]] w λ e w'=>e=.returned (.tuple #[.int .u64 ((Bo tag ty ln sz:Nat):Int),.int .i64 0])/\Kp Ab w w':=by
 obtain⟨w1,hw1⟩:∃ w1,w1=w.alloc (.cells #[.int .u8 (tag:Nat),.int .i64 (ty:Nat),.int .i64 (ln:Nat),.int .i64 (sz:Nat)] 52):=⟨_,rfl⟩
 have kA:Kp Ab w w1:=by rw[hw1];exact (Kr _ w).alloc _
 have b0:w1.heap[w.heap.size]?=some (.cells #[.int .u8 (tag:Nat),.int .i64 (ty:Nat),.int .i64 (ln:Nat),.int .i64 (sz:Nat)] 52 (0,0)):=by rw[hw1];exact wN w _
 have CK:=EJ tag ty ln sz w1
 rw[h] at CK
 have HC:=sE CK
 have hb:tag<4/\ty<4096/\ln<16777216/\sz<16777216:=by
  simp only[Am,decide_eq_true_eq] at h
  omega
 obtain⟨b1,b2,b3,b4⟩:=hb
 clear CK h
 go_enter func169,ntmps169
 go_wp2_with fail
 rw[<- hw1]
 clear hw1
 refine HC.out.mono ?_
 rintro e w2 ⟨rfl,k2⟩
 have B0:=k2.at_ b0 (λ h=>h)
 have c0:w2.cell? ⟨w.heap.size,0,none⟩=some (.int .u8 (tag:Nat)):=by simp[World.cell?,B0]
 have c1:w2.cell? ⟨w.heap.size,1,none⟩=some (.int .i64 (ty:Nat)):=by simp[World.cell?,B0]
 have c2:w2.cell? ⟨w.heap.size,2,none⟩=some (.int .i64 (ln:Nat)):=by simp[World.cell?,B0]
 have c3:w2.cell? ⟨w.heap.size,3,none⟩=some (.int .i64 (sz:Nat)):=by simp[World.cell?,B0]
 have KW:=kA.then' k2
 clear HC b0 B0 kA k2
 go_wp2
 refine bodyPost_ret (v:=.tuple #[.int .u64 ((Bo tag ty ln sz:Nat):Int),.int .i64 0]) ?_ rfl ⟨rfl,KW⟩
 simp[results,results169,go_sem]
 rw[Bo]
 omega

theorem enc_back{X:Nat}(hX:X<18446744073709551616):Bo (CR X) (Ey X) (EO X) (DJ X)=X ↔ gapW X=0:=by
 simp only[Bo,CR,Ey,EO,DJ,gapW]
 omega

theorem DEncode_any(tag ty ln sz:Nat)(w:World):
  Calls prog 169 #[.agg #[.int .u8 (tag:Nat),.int .i64 (ty:Nat),.int .i64 (ln:Nat),.int .i64 (sz:Nat)]] w λ e w'=>e=.returned (.tuple #[.int .u64 (if Am tag ty ln sz then ((Bo tag ty ln sz:Nat):Int) else 0),.int .i64 (if Am tag ty ln sz then 0 else 2)])/\Kp Ab w w':=by
 cases h:Am tag ty ln sz with
 |false=>exact DEncode_no tag ty ln sz w h
 |true=>exact Fb tag ty ln sz w h

theorem DDecode_any(X:Nat)(w:World)(hX:X<18446744073709551616):
  Calls prog 183 #[.int .u64 (X:Nat)] w (Fe (BO X) (CR X) (Ey X) (EO X) (DJ X) w):=by
 have e0:(X:Int)%4=((CR X:Nat):Int):=by rw[CR];omega
 have e1:(X:Int)/4%4096=((Ey X:Nat):Int):=by rw[Ey];omega
 have e2:(X:Int)/65536%16777216=((EO X:Nat):Int):=by rw[EO];omega
 have e3:(X:Int)/1099511627776=((DJ X:Nat):Int):=by rw[DJ];omega
 have hb:=enc_back hX
 have hdk:BO X=(Am (CR X:Nat) (Ey X:Nat) (EO X:Nat) (DJ X:Nat)&&decide (Bo (CR X) (Ey X) (EO X) (DJ X)=X)):=by
  rw[BO];congr 1;exact decide_eq_decide.2 hb.symm
 obtain⟨tg,htg⟩:∃ x,CR X=x:=⟨_,rfl⟩
 obtain⟨ty,hty⟩:∃ x,Ey X=x:=⟨_,rfl⟩
 obtain⟨ln,hln⟩:∃ x,EO X=x:=⟨_,rfl⟩
 obtain⟨sz,hsz⟩:∃ x,DJ X=x:=⟨_,rfl⟩
 obtain⟨dk,hd⟩:∃ x,BO X=x:=⟨_,rfl⟩
 rw[hd,htg,hty,hln,hsz] at hdk
 rw[htg] at e0 ⊢
 rw[hty] at e1 ⊢
 rw[hln] at e2 ⊢
 rw[hsz] at e3 ⊢
 rw[hd]
 obtain⟨w1,hw1⟩:∃ w1,w1=(w.alloc (.cells #[.int .u8 0,.int .i64 0,.int .i64 0,.int .i64 0] 52)).alloc (.cells #[.int .u8 (tg:Nat),.int .i64 (ty:Nat),.int .i64 (ln:Nat),.int .i64 (sz:Nat)] 52):=⟨_,rfl⟩
 have kA:Kp Ab w w1:=by rw[hw1];exact ((Kr _ w).alloc _).alloc _
 have b0:w1.heap[w.heap.size]?=some (.cells #[.int .u8 0,.int .i64 0,.int .i64 0,.int .i64 0] 52 (0,0)):=by
  rw[hw1];exact ((Kr Ab _).alloc _).at_ (wN w _) (λ h=>h)
 have b1:w1.heap[w.heap.size+1]?=some (.cells #[.int .u8 (tg:Nat),.int .i64 (ty:Nat),.int .i64 (ln:Nat),.int .i64 (sz:Nat)] 52 (0,0)):=by
  rw[hw1];have:=wN (w.alloc (.cells #[.int .u8 0,.int .i64 0,.int .i64 0,.int .i64 0] 52)) (.cells #[.int .u8 (tg:Nat),.int .i64 (ty:Nat),.int .i64 (ln:Nat),.int .i64 (sz:Nat)] 52);rwa [World.size_alloc] at this
 have HC:=sE (DEncode_any tg ty ln sz w1)
 have E0:=sE e0
 have E1:=sE e1
 have E2:=sE e2
 have E3:=sE e3
 clear e0 e1 e2 e3 hb htg hty hln hsz hd
 go_enter func183,ntmps183
 go_wp2_with fail
 rw[E0.out,E1.out,E2.out,E3.out,<- hw1]
 clear hw1
 refine HC.out.mono ?_
 rintro e w2 ⟨rfl,k2⟩
 have B0:=k2.at_ b0 (λ h=>h)
 have B1:=k2.at_ b1 (λ h=>h)
 have d0:w2.cell? ⟨w.heap.size,0,none⟩=some (.int .u8 0):=by simp[World.cell?,B0]
 have d1:w2.cell? ⟨w.heap.size,1,none⟩=some (.int .i64 0):=by simp[World.cell?,B0]
 have d2:w2.cell? ⟨w.heap.size,2,none⟩=some (.int .i64 0):=by simp[World.cell?,B0]
 have d3:w2.cell? ⟨w.heap.size,3,none⟩=some (.int .i64 0):=by simp[World.cell?,B0]
 have g0:w2.cell? ⟨w.heap.size+1,0,none⟩=some (.int .u8 (tg:Nat)):=by simp[World.cell?,B1]
 have g1:w2.cell? ⟨w.heap.size+1,1,none⟩=some (.int .i64 (ty:Nat)):=by simp[World.cell?,B1]
 have g2:w2.cell? ⟨w.heap.size+1,2,none⟩=some (.int .i64 (ln:Nat)):=by simp[World.cell?,B1]
 have g3:w2.cell? ⟨w.heap.size+1,3,none⟩=some (.int .i64 (sz:Nat)):=by simp[World.cell?,B1]
 have f0:=Ae B0
 have f00:=f0 0
 have f01:=f0 1
 have f02:=f0 2
 have f03:=f0 3
 have KW:=kA.then' k2
 have HB:=sE B0
 clear b0 B0 f0 HC b1 B1
 cases hok:Am (tg:Nat) (ty:Nat) (ln:Nat) (sz:Nat) with
 |false=>
  rw[hok] at hdk
  obtain rfl:dk=false:=hdk
  clear hok
  dsimp only[Bool.false_eq_true,if_false]
  rw[if_neg (by simp),if_neg (by simp)]
  go_wp2
  obtain⟨wz,hwz⟩:∃ wz,wz=(((w2.setCell ⟨w.heap.size,0,none⟩ (.int .u8 0)).setCell ⟨w.heap.size,1,none⟩ (.int .i64 0)).setCell ⟨w.heap.size,2,none⟩ (.int .i64 0)).setCell ⟨w.heap.size,3,none⟩ (.int .i64 0):=⟨_,rfl⟩
  rw[<- hwz]
  have tz:wz.heap[w.heap.size]?=some (.cells #[.int .u8 0,.int .i64 0,.int .i64 0,.int .i64 0] 52 (0,0)):=by
   rw[hwz];exact bZ (bZ (bZ (bZ HB.out (j:=0) _) (j:=1) _) (j:=2) _) (j:=3) _
  have kz:Kp (λ i=>i=w.heap.size) w2 wz:=by rw[hwz];exact ((((Kr (λ i=>i=w.heap.size) w2).setCell (λ _=>rfl) _).setCell (λ _=>rfl) _).setCell (λ _=>rfl) _).setCell (λ _=>rfl) _
  clear hwz
  have e0:wz.cell? ⟨w.heap.size,0,none⟩=some (.int .u8 0):=by simp[World.cell?,tz]
  have e1:wz.cell? ⟨w.heap.size,1,none⟩=some (.int .i64 0):=by simp[World.cell?,tz]
  have e2:wz.cell? ⟨w.heap.size,2,none⟩=some (.int .i64 0):=by simp[World.cell?,tz]
  have e3:wz.cell? ⟨w.heap.size,3,none⟩=some (.int .i64 0):=by simp[World.cell?,tz]
  refine bodyPost_ret (v:=.tuple #[Al 0 0 0 0,.int .i64 7]) (by simp[results,results183,go_sem,e0,e1,e2,e3,Al]) rfl ⟨rfl,KW.trans kz (λ i hi h=>by omega)⟩
 |true=>
  rw[hok] at hdk
  rw[if_pos rfl,if_pos rfl]
  obtain⟨Y,hY⟩:∃ Y,Bo tg ty ln sz=Y:=⟨_,rfl⟩
  rw[hY] at hdk ⊢
  by_cases hYX:Y=X
  .obtain rfl:dk=true:=by rw[hdk];simp [hYX]
   have hb:((Y:Int) !=(X:Int))=false:=by rw[hYX];simp
   rw[hYX]
   rw[hYX] at hb
   clear hdk hok hY hYX
   go_wp2
   obtain⟨wz,hwz⟩:∃ wz,wz=(((w2.setCell ⟨w.heap.size,0,none⟩ (.int .u8 (tg:Nat))).setCell ⟨w.heap.size,1,none⟩ (.int .i64 (ty:Nat))).setCell ⟨w.heap.size,2,none⟩ (.int .i64 (ln:Nat))).setCell ⟨w.heap.size,3,none⟩ (.int .i64 (sz:Nat)):=⟨_,rfl⟩
   rw[<- hwz]
   have tz:wz.heap[w.heap.size]?=some (.cells #[.int .u8 (tg:Nat),.int .i64 (ty:Nat),.int .i64 (ln:Nat),.int .i64 (sz:Nat)] 52 (0,0)):=by
    rw[hwz];exact bZ (bZ (bZ (bZ HB.out (j:=0) _) (j:=1) _) (j:=2) _) (j:=3) _
   have kz:Kp (λ i=>i=w.heap.size) w2 wz:=by rw[hwz];exact ((((Kr (λ i=>i=w.heap.size) w2).setCell (λ _=>rfl) _).setCell (λ _=>rfl) _).setCell (λ _=>rfl) _).setCell (λ _=>rfl) _
   clear hwz
   have e0:wz.cell? ⟨w.heap.size,0,none⟩=some (.int .u8 (tg:Nat)):=by simp[World.cell?,tz]
   have e1:wz.cell? ⟨w.heap.size,1,none⟩=some (.int .i64 (ty:Nat)):=by simp[World.cell?,tz]
   have e2:wz.cell? ⟨w.heap.size,2,none⟩=some (.int .i64 (ln:Nat)):=by simp[World.cell?,tz]
   have e3:wz.cell? ⟨w.heap.size,3,none⟩=some (.int .i64 (sz:Nat)):=by simp[World.cell?,tz]
   refine bodyPost_ret (v:=.tuple #[Al (tg:Nat) (ty:Nat) (ln:Nat) (sz:Nat),.int .i64 0]) (by simp[results,results183,go_sem,e0,e1,e2,e3,Al]) rfl ⟨rfl,KW.trans kz (λ i hi h=>by omega)⟩
  .obtain rfl:dk=false:=by rw[hdk];simp [hYX]
   have hb:((Y:Int) !=(X:Int))=true:=by simp;omega
   clear hdk hok hY hYX
   go_wp2
   obtain⟨wz,hwz⟩:∃ wz,wz=(((w2.setCell ⟨w.heap.size,0,none⟩ (.int .u8 0)).setCell ⟨w.heap.size,1,none⟩ (.int .i64 0)).setCell ⟨w.heap.size,2,none⟩ (.int .i64 0)).setCell ⟨w.heap.size,3,none⟩ (.int .i64 0):=⟨_,rfl⟩
   rw[<- hwz]
   have tz:wz.heap[w.heap.size]?=some (.cells #[.int .u8 0,.int .i64 0,.int .i64 0,.int .i64 0] 52 (0,0)):=by
    rw[hwz];exact bZ (bZ (bZ (bZ HB.out (j:=0) _) (j:=1) _) (j:=2) _) (j:=3) _
   have kz:Kp (λ i=>i=w.heap.size) w2 wz:=by rw[hwz];exact ((((Kr (λ i=>i=w.heap.size) w2).setCell (λ _=>rfl) _).setCell (λ _=>rfl) _).setCell (λ _=>rfl) _).setCell (λ _=>rfl) _
   clear hwz
   have e0:wz.cell? ⟨w.heap.size,0,none⟩=some (.int .u8 0):=by simp[World.cell?,tz]
   have e1:wz.cell? ⟨w.heap.size,1,none⟩=some (.int .i64 0):=by simp[World.cell?,tz]
   have e2:wz.cell? ⟨w.heap.size,2,none⟩=some (.int .i64 0):=by simp[World.cell?,tz]
   have e3:wz.cell? ⟨w.heap.size,3,none⟩=some (.int .i64 0):=by simp[World.cell?,tz]
   refine bodyPost_ret (v:=.tuple #[Al 0 0 0 0,.int .i64 7]) (by simp[results,results183,go_sem,e0,e1,e2,e3,Al]) rfl ⟨rfl,KW.trans kz (λ i hi h=>by omega)⟩

theorem DGap_yes(tag:Int)(sz:Nat)(w:World)(ht:tag=2\/tag=3)(h1:1<=sz)(h2:sz<=65536):
  Calls prog 192 #[.int .u8 tag,.int .i64 (sz:Nat)] w λ e w'=>e=.returned (.tuple #[Al tag 0 0 (sz:Nat),.int .i64 0])/\Kp Ab w w':=by
 have hok:Am tag 0 0 (sz:Nat)=true:=by simp[Am];omega
 have t1:¬ tag=1:=by omega
 have tb:(tag==1)=false:=by simpa using t1
 obtain⟨w1,hw1⟩:∃ w1,w1=(w.alloc (.cells #[.int .u8 0,.int .i64 0,.int .i64 0,.int .i64 0] 52)).alloc (.cells #[.int .u8 tag,.int .i64 0,.int .i64 0,.int .i64 (sz:Nat)] 52):=⟨_,rfl⟩
 have kA:Kp Ab w w1:=by rw[hw1];exact ((Kr _ w).alloc _).alloc _
 have b0:w1.heap[w.heap.size]?=some (.cells #[.int .u8 0,.int .i64 0,.int .i64 0,.int .i64 0] 52 (0,0)):=by
  rw[hw1];exact ((Kr Ab _).alloc _).at_ (wN w _) (λ h=>h)
 have b1:w1.heap[w.heap.size+1]?=some (.cells #[.int .u8 tag,.int .i64 0,.int .i64 0,.int .i64 (sz:Nat)] 52 (0,0)):=by
  rw[hw1];have:=wN (w.alloc (.cells #[.int .u8 0,.int .i64 0,.int .i64 0,.int .i64 0] 52)) (.cells #[.int .u8 tag,.int .i64 0,.int .i64 0,.int .i64 (sz:Nat)] 52);rwa [World.size_alloc] at this
 have CK:=EJ tag 0 0 (sz:Nat) w1
 rw[hok] at CK
 have HC:=sE CK
 clear CK hok
 go_enter func192,ntmps192
 go_wp2_with fail
 rw[<- hw1]
 clear hw1
 refine HC.out.mono ?_
 rintro e w2 ⟨rfl,k2⟩
 have B0:=k2.at_ b0 (λ h=>h)
 have B1:=k2.at_ b1 (λ h=>h)
 have d0:w2.cell? ⟨w.heap.size,0,none⟩=some (.int .u8 0):=by simp[World.cell?,B0]
 have d1:w2.cell? ⟨w.heap.size,1,none⟩=some (.int .i64 0):=by simp[World.cell?,B0]
 have d2:w2.cell? ⟨w.heap.size,2,none⟩=some (.int .i64 0):=by simp[World.cell?,B0]
 have d3:w2.cell? ⟨w.heap.size,3,none⟩=some (.int .i64 0):=by simp[World.cell?,B0]
 have g0:w2.cell? ⟨w.heap.size+1,0,none⟩=some (.int .u8 tag):=by simp[World.cell?,B1]
 have g1:w2.cell? ⟨w.heap.size+1,1,none⟩=some (.int .i64 0):=by simp[World.cell?,B1]
 have g2:w2.cell? ⟨w.heap.size+1,2,none⟩=some (.int .i64 0):=by simp[World.cell?,B1]
 have g3:w2.cell? ⟨w.heap.size+1,3,none⟩=some (.int .i64 (sz:Nat)):=by simp[World.cell?,B1]
 have f0:=Ae B0
 have f00:=f0 0
 have f01:=f0 1
 have f02:=f0 2
 have f03:=f0 3
 have KW:=kA.then' k2
 have HB:=sE B0
 clear b0 B0 f0 HC b1 B1
 go_wp2
 obtain⟨wz,hwz⟩:∃ wz,wz=(((w2.setCell ⟨w.heap.size,0,none⟩ (.int .u8 tag)).setCell ⟨w.heap.size,1,none⟩ (.int .i64 0)).setCell ⟨w.heap.size,2,none⟩ (.int .i64 0)).setCell ⟨w.heap.size,3,none⟩ (.int .i64 (sz:Nat)):=⟨_,rfl⟩
 rw[<- hwz]
 have tz:wz.heap[w.heap.size]?=some (.cells #[.int .u8 tag,.int .i64 0,.int .i64 0,.int .i64 (sz:Nat)] 52 (0,0)):=by
  rw[hwz];exact bZ (bZ (bZ (bZ HB.out (j:=0) _) (j:=1) _) (j:=2) _) (j:=3) _
 have kz:Kp (λ i=>i=w.heap.size) w2 wz:=by rw[hwz];exact ((((Kr (λ i=>i=w.heap.size) w2).setCell (λ _=>rfl) _).setCell (λ _=>rfl) _).setCell (λ _=>rfl) _).setCell (λ _=>rfl) _
 clear hwz
 have e0:wz.cell? ⟨w.heap.size,0,none⟩=some (.int .u8 tag):=by simp[World.cell?,tz]
 have e1:wz.cell? ⟨w.heap.size,1,none⟩=some (.int .i64 0):=by simp[World.cell?,tz]
 have e2:wz.cell? ⟨w.heap.size,2,none⟩=some (.int .i64 0):=by simp[World.cell?,tz]
 have e3:wz.cell? ⟨w.heap.size,3,none⟩=some (.int .i64 (sz:Nat)):=by simp[World.cell?,tz]
 refine bodyPost_ret (v:=.tuple #[Al tag 0 0 (sz:Nat),.int .i64 0]) (by simp[results,results192,go_sem,e0,e1,e2,e3,Al]) rfl ⟨rfl,KW.trans kz (λ i hi h=>by omega)⟩

theorem DHOf_any(v:Value)(id n:Int)(ts:List TypR)(w:World)(hv:AO w v ts)(hl:ts.length<=17592186044416)(hM:Cg ts):
  Calls prog 128 #[v,.int .i64 id,.int .i64 n] w (BG ts id n w):=by
 obtain⟨w1,hw1⟩:∃ w1,w1=w.alloc (.cells #[.int .u8 0,.int .i64 0,.int .i64 0,.int .i64 0] 52):=⟨_,rfl⟩
 have kA:Kp Ab w w1:=by rw[hw1];exact (Kr _ w).alloc _
 have b0:w1.heap[w.heap.size]?=some (.cells #[.int .u8 0,.int .i64 0,.int .i64 0,.int .i64 0] 52 (0,0)):=by rw[hw1];exact wN w _
 have HC:=sE (DTSize_any v id n ts w1 (hv.Ad kA) hl hM)
 clear hv hM
 go_enter func128,ntmps128
 go_wp2_with fail
 rw[<- hw1]
 clear hw1
 refine HC.out.mono ?_
 rintro e w2 ⟨rfl,k2⟩
 have B0:=k2.at_ b0 (λ h=>h)
 have d0:w2.cell? ⟨w.heap.size,0,none⟩=some (.int .u8 0):=by simp[World.cell?,B0]
 have d1:w2.cell? ⟨w.heap.size,1,none⟩=some (.int .i64 0):=by simp[World.cell?,B0]
 have d2:w2.cell? ⟨w.heap.size,2,none⟩=some (.int .i64 0):=by simp[World.cell?,B0]
 have d3:w2.cell? ⟨w.heap.size,3,none⟩=some (.int .i64 0):=by simp[World.cell?,B0]
 have f0:=Ae B0
 have f00:=f0 0
 have f01:=f0 1
 have f02:=f0 2
 have f03:=f0 3
 have KW:=kA.then' k2
 have HB:=sE B0
 clear b0 B0 f0 HC
 obtain⟨E,hE⟩:∃ E,AY ts id n=E:=⟨_,rfl⟩
 obtain⟨S,hS⟩:∃ S,Bq ts id n=S:=⟨_,rfl⟩
 have H1:=sE hE
 have H2:=sE hS
 rw[hE,hS]
 clear hE hS
 by_cases h0:E=0
 .subst h0
  rw[if_pos rfl]
  go_wp2
  obtain⟨wz,hwz⟩:∃ wz,wz=(((w2.setCell ⟨w.heap.size,0,none⟩ (.int .u8 1)).setCell ⟨w.heap.size,1,none⟩ (.int .i64 id)).setCell ⟨w.heap.size,2,none⟩ (.int .i64 n)).setCell ⟨w.heap.size,3,none⟩ (.int .i64 S):=⟨_,rfl⟩
  rw[<- hwz]
  have tz:wz.heap[w.heap.size]?=some (.cells #[.int .u8 1,.int .i64 id,.int .i64 n,.int .i64 S] 52 (0,0)):=by
   rw[hwz];exact bZ (bZ (bZ (bZ HB.out (j:=0) _) (j:=1) _) (j:=2) _) (j:=3) _
  have kz:Kp (λ i=>i=w.heap.size) w2 wz:=by rw[hwz];exact ((((Kr (λ i=>i=w.heap.size) w2).setCell (λ _=>rfl) _).setCell (λ _=>rfl) _).setCell (λ _=>rfl) _).setCell (λ _=>rfl) _
  clear hwz
  have e0:wz.cell? ⟨w.heap.size,0,none⟩=some (.int .u8 1):=by simp[World.cell?,tz]
  have e1:wz.cell? ⟨w.heap.size,1,none⟩=some (.int .i64 id):=by simp[World.cell?,tz]
  have e2:wz.cell? ⟨w.heap.size,2,none⟩=some (.int .i64 n):=by simp[World.cell?,tz]
  have e3:wz.cell? ⟨w.heap.size,3,none⟩=some (.int .i64 S):=by simp[World.cell?,tz]
  refine bodyPost_ret (v:=.tuple #[Al 1 id n S,.int .i64 0]) (by simp[results,results128,go_sem,e0,e1,e2,e3,Al]) rfl ⟨by rw[H1.out,H2.out];rfl,KW.trans kz (λ i hi h=>by omega)⟩
 .have hb:(E !=0)=true:=by simpa using h0
  rw[if_neg h0]
  have H0:=sE h0
  clear h0
  go_wp2
  obtain⟨wz,hwz⟩:∃ wz,wz=(((w2.setCell ⟨w.heap.size,0,none⟩ (.int .u8 0)).setCell ⟨w.heap.size,1,none⟩ (.int .i64 0)).setCell ⟨w.heap.size,2,none⟩ (.int .i64 0)).setCell ⟨w.heap.size,3,none⟩ (.int .i64 0):=⟨_,rfl⟩
  rw[<- hwz]
  have tz:wz.heap[w.heap.size]?=some (.cells #[.int .u8 0,.int .i64 0,.int .i64 0,.int .i64 0] 52 (0,0)):=by
   rw[hwz];exact bZ (bZ (bZ (bZ HB.out (j:=0) _) (j:=1) _) (j:=2) _) (j:=3) _
  have kz:Kp (λ i=>i=w.heap.size) w2 wz:=by rw[hwz];exact ((((Kr (λ i=>i=w.heap.size) w2).setCell (λ _=>rfl) _).setCell (λ _=>rfl) _).setCell (λ _=>rfl) _).setCell (λ _=>rfl) _
  clear hwz
  have e0:wz.cell? ⟨w.heap.size,0,none⟩=some (.int .u8 0):=by simp[World.cell?,tz]
  have e1:wz.cell? ⟨w.heap.size,1,none⟩=some (.int .i64 0):=by simp[World.cell?,tz]
  have e2:wz.cell? ⟨w.heap.size,2,none⟩=some (.int .i64 0):=by simp[World.cell?,tz]
  have e3:wz.cell? ⟨w.heap.size,3,none⟩=some (.int .i64 0):=by simp[World.cell?,tz]
  refine bodyPost_ret (v:=.tuple #[Al 0 0 0 0,.int .i64 E]) (by simp[results,results128,go_sem,e0,e1,e2,e3,Al]) rfl ⟨by rw[H1.out,if_neg H0.out],KW.trans kz (λ i hi h=>by omega)⟩

def CZ(ts:List TypR)(tag ty ln sz:Int):Int:=
 if Am tag ty ln sz then (if tag=1 then (if AY ts ty ln=0/\Bq ts ty ln=sz then 0 else 8) else 0) else 2

attribute [local go_sem ↓] EH

theorem DFits_bad(v:Value)(tag ty ln sz:Int)(ts:List TypR)(w:World)(h:Am tag ty ln sz=false):
  Calls prog 149 #[v,Al tag ty ln sz] w λ e w'=>e=.returned (.int .i64 (CZ ts tag ty ln sz))/\Kp Ab w w':=by
 rw[show CZ ts tag ty ln sz=2 by rw[CZ,if_neg (by rw[h];simp)]]
 have kA:=(Kr Ab w).alloc (.cells #[.int .u8 tag,.int .i64 ty,.int .i64 ln,.int .i64 sz] 52)
 have CK:=EJ tag ty ln sz (w.alloc (.cells #[.int .u8 tag,.int .i64 ty,.int .i64 ln,.int .i64 sz] 52))
 rw[h] at CK
 unfold Al
 have HC:=sE CK
 clear CK h
 go_enter func149,ntmps149
 go_wp2_with fail
 refine HC.out.mono ?_
 rintro e w2 ⟨rfl,k2⟩
 have KW:=kA.then' k2
 clear HC
 go_wp2
 go_ret
 exact⟨rfl,KW⟩

theorem DFits_gap(v:Value)(tag ty ln sz:Int)(ts:List TypR)(w:World)(h:Am tag ty ln sz=true)(ht:¬ tag=1):
  Calls prog 149 #[v,Al tag ty ln sz] w λ e w'=>e=.returned (.int .i64 (CZ ts tag ty ln sz))/\Kp Ab w w':=by
 rw[show CZ ts tag ty ln sz=0 by rw[CZ,if_pos h,if_neg ht]]
 have kA:=(Kr Ab w).alloc (.cells #[.int .u8 tag,.int .i64 ty,.int .i64 ln,.int .i64 sz] 52)
 have b0:=wN w (.cells #[.int .u8 tag,.int .i64 ty,.int .i64 ln,.int .i64 sz] 52)
 have CK:=EJ tag ty ln sz (w.alloc (.cells #[.int .u8 tag,.int .i64 ty,.int .i64 ln,.int .i64 sz] 52))
 rw[h] at CK
 unfold Al
 have HC:=sE CK
 have hb:(tag !=1)=true:=by simpa using ht
 clear CK h
 go_enter func149,ntmps149
 go_wp2_with fail
 refine HC.out.mono ?_
 rintro e w2 ⟨rfl,k2⟩
 have B0:=k2.at_ b0 (λ h=>h)
 have d0:w2.cell? ⟨w.heap.size,0,none⟩=some (.int .u8 tag):=by simp[World.cell?,B0]
 have KW:=kA.then' k2
 clear b0 B0 HC
 go_wp2
 go_ret
 exact⟨rfl,KW⟩

theorem fitsE_obj{ts:List TypR}{ty ln sz:Int}(h:Am 1 ty ln sz=true):CZ ts 1 ty ln sz=if AY ts ty ln=0 then (if Bq ts ty ln=sz then 0 else 8) else 8:=by
 rw[CZ,if_pos h,if_pos rfl]
 by_cases h1:AY ts ty ln=0 <;> by_cases h2:Bq ts ty ln=sz <;> simp[h1,h2]

theorem DFits_obj(v:Value)(ty ln sz:Int)(ts:List TypR)(w:World)(hv:AO w v ts)(hl:ts.length<=17592186044416)(hM:Cg ts)(h:Am 1 ty ln sz=true):
  Calls prog 149 #[v,Al 1 ty ln sz] w λ e w'=>e=.returned (.int .i64 (CZ ts 1 ty ln sz))/\Kp Ab w w':=by
 rw[fitsE_obj h]
 have kA:=(Kr Ab w).alloc (.cells #[.int .u8 1,.int .i64 ty,.int .i64 ln,.int .i64 sz] 52)
 have b0:=wN w (.cells #[.int .u8 1,.int .i64 ty,.int .i64 ln,.int .i64 sz] 52)
 have CK:=EJ 1 ty ln sz (w.alloc (.cells #[.int .u8 1,.int .i64 ty,.int .i64 ln,.int .i64 sz] 52))
 rw[h] at CK
 have CO:∀ W,Kp Ab w W->Calls prog 128 #[v,.int .i64 ty,.int .i64 ln] W (BG ts ty ln W):=λ W k=>DHOf_any v ty ln ts W (hv.Ad k) hl hM
 unfold BG at CO
 obtain⟨E,hE⟩:∃ E,AY ts ty ln=E:=⟨_,rfl⟩
 obtain⟨S,hS⟩:∃ S,Bq ts ty ln=S:=⟨_,rfl⟩
 rw[hE,hS] at CO ⊢
 unfold Al at CO ⊢
 have HC:=sE CK
 by_cases h0:E=0
 .subst h0
  rw[if_pos rfl] at CO ⊢
  have HO:=sE CO
  obtain⟨r,hr⟩:∃ r:Int,(if S=sz then 0 else 8)=r:=⟨_,rfl⟩
  rw[hr]
  clear CK CO h hv hM hE hS
  by_cases hz:S=sz
  .subst hz
   rw[if_pos rfl] at hr
   subst hr
   go_enter func149,ntmps149
   go_wp2_with fail
   refine HC.out.mono ?_
   rintro e w2 ⟨rfl,k2⟩
   have B0:=k2.at_ b0 (λ h=>h)
   have d0:w2.cell? ⟨w.heap.size,0,none⟩=some (.int .u8 1):=by simp[World.cell?,B0]
   have d1:w2.cell? ⟨w.heap.size,1,none⟩=some (.int .i64 ty):=by simp[World.cell?,B0]
   have d2:w2.cell? ⟨w.heap.size,2,none⟩=some (.int .i64 ln):=by simp[World.cell?,B0]
   have KW:=kA.then' k2
   clear b0 HC
   go_wp2_with fail
   refine(HO.out _ KW).mono ?_
   rintro e w3 ⟨rfl,k3⟩
   have B3:=k3.at_ B0 (λ h=>h)
   have hl3:=lZ B3
   have c0:w3.cell? ⟨w.heap.size,0,none⟩=some (.int .u8 1):=by simp[World.cell?,B3]
   have c1:w3.cell? ⟨w.heap.size,1,none⟩=some (.int .i64 ty):=by simp[World.cell?,B3]
   have c2:w3.cell? ⟨w.heap.size,2,none⟩=some (.int .i64 ln):=by simp[World.cell?,B3]
   have c3:w3.cell? ⟨w.heap.size,3,none⟩=some (.int .i64 S):=by simp[World.cell?,B3]
   clear d0 d1 d2 B0 B3
   go_wp2
   go_ret
   exact⟨rfl,(KW.then' k3).alloc _⟩
  .have hb:(S==sz)=false:=by simpa using hz
   rw[if_neg hz] at hr
   subst hr
   go_enter func149,ntmps149
   go_wp2_with fail
   refine HC.out.mono ?_
   rintro e w2 ⟨rfl,k2⟩
   have B0:=k2.at_ b0 (λ h=>h)
   have d0:w2.cell? ⟨w.heap.size,0,none⟩=some (.int .u8 1):=by simp[World.cell?,B0]
   have d1:w2.cell? ⟨w.heap.size,1,none⟩=some (.int .i64 ty):=by simp[World.cell?,B0]
   have d2:w2.cell? ⟨w.heap.size,2,none⟩=some (.int .i64 ln):=by simp[World.cell?,B0]
   have KW:=kA.then' k2
   clear b0 HC
   go_wp2_with fail
   refine(HO.out _ KW).mono ?_
   rintro e w3 ⟨rfl,k3⟩
   have B3:=k3.at_ B0 (λ h=>h)
   have hl3:=lZ B3
   have c0:w3.cell? ⟨w.heap.size,0,none⟩=some (.int .u8 1):=by simp[World.cell?,B3]
   have c1:w3.cell? ⟨w.heap.size,1,none⟩=some (.int .i64 ty):=by simp[World.cell?,B3]
   have c2:w3.cell? ⟨w.heap.size,2,none⟩=some (.int .i64 ln):=by simp[World.cell?,B3]
   have c3:w3.cell? ⟨w.heap.size,3,none⟩=some (.int .i64 sz):=by simp[World.cell?,B3]
   clear d0 d1 d2 B0 B3 hz
   go_wp2
   go_ret
   exact⟨rfl,(KW.then' k3).alloc _⟩
 .have hb:(E !=0)=true:=by simpa using h0
  rw[if_neg h0] at CO ⊢
  have HO:=sE CO
  clear CK CO h hv hM hE hS h0
  go_enter func149,ntmps149
  go_wp2_with fail
  refine HC.out.mono ?_
  rintro e w2 ⟨rfl,k2⟩
  have B0:=k2.at_ b0 (λ h=>h)
  have d0:w2.cell? ⟨w.heap.size,0,none⟩=some (.int .u8 1):=by simp[World.cell?,B0]
  have d1:w2.cell? ⟨w.heap.size,1,none⟩=some (.int .i64 ty):=by simp[World.cell?,B0]
  have d2:w2.cell? ⟨w.heap.size,2,none⟩=some (.int .i64 ln):=by simp[World.cell?,B0]
  have KW:=kA.then' k2
  clear b0 HC
  go_wp2_with fail
  refine(HO.out _ KW).mono ?_
  rintro e w3 ⟨rfl,k3⟩
  have B3:=k3.at_ B0 (λ h=>h)
  have hl3:=lZ B3
  have c0:w3.cell? ⟨w.heap.size,0,none⟩=some (.int .u8 1):=by simp[World.cell?,B3]
  have c1:w3.cell? ⟨w.heap.size,1,none⟩=some (.int .i64 ty):=by simp[World.cell?,B3]
  have c2:w3.cell? ⟨w.heap.size,2,none⟩=some (.int .i64 ln):=by simp[World.cell?,B3]
  have c3:w3.cell? ⟨w.heap.size,3,none⟩=some (.int .i64 sz):=by simp[World.cell?,B3]
  clear d0 d1 d2 B0 B3
  go_wp2
  go_ret
  exact⟨rfl,(KW.then' k3).alloc _⟩

theorem DFits_any(v:Value)(tag ty ln sz:Int)(ts:List TypR)(w:World)(hv:AO w v ts)(hl:ts.length<=17592186044416)(hM:Cg ts):
  Calls prog 149 #[v,Al tag ty ln sz] w λ e w'=>e=.returned (.int .i64 (CZ ts tag ty ln sz))/\Kp Ab w w':=by
 cases h:Am tag ty ln sz with
 |false=>exact DFits_bad v tag ty ln sz ts w h
 |true=>
  by_cases ht:tag=1
  .subst ht;exact DFits_obj v ty ln sz ts w hv hl hM h
  .exact DFits_gap v tag ty ln sz ts w h ht

end

section
open Go.RowKit

structure WRow(w:World)(q n:Nat)(W:Nat->Nat):Prop where
 hq:∃ cs,w.heap[q]?=some (.cells cs 55 (0,0))/\n<=cs.size/\∀ j,j<n->cs[j]?=some (.int .u64 (W j:Nat))
 small:n<=65536
 fits:∀ j,j<n->W j<18446744073709551616

theorem WRow.keep{S:Nat->Prop}{w w':World}{q n:Nat}{W:Nat->Nat}(h:WRow w q n W)(k:Kp S w w')(hq:¬ S q):WRow w' q n W:=by
 obtain⟨cs,h2,h3,h4⟩:=h.hq
 exact⟨⟨cs,k.at_ h2 hq,h3,h4⟩,h.small,h.fits⟩

theorem WRow.Ad{w w':World}{q n:Nat}{W:Nat->Nat}(h:WRow w q n W)(k:Kp Ab w w'):WRow w' q n W:=h.keep k (λ h=>h)

theorem WRow.at_{w:World}{q n:Nat}{W:Nat->Nat}(h:WRow w q n W){j:Nat}(hj:j<n):w.cell? ⟨q,j,none⟩=some (.int .u64 (W j:Nat)):=by
 obtain⟨cs,h2,h3,h4⟩:=h.hq
 simp only[World.cell?,h2]
 exact h4 j hj

theorem WRow.lt{w:World}{q n:Nat}{W:Nat->Nat}(h:WRow w q n W):q<w.heap.size:=by obtain⟨_,h,_⟩:=h.hq;exact lZ h

theorem WRow.free{w:World}{q n:Nat}{W:Nat->Nat}(h:WRow w q n W)(j:Nat):w.frozen? ⟨q,j,none⟩=false:=by
 obtain⟨cs,h2,h3,h4⟩:=h.hq
 exact Ae h2 j

theorem WRow.store{w:World}{q n:Nat}{W:Nat->Nat}(h:WRow w q n W){j:Nat}(hj:j<n)(z:Nat)(hz:z<18446744073709551616):WRow (w.setCell ⟨q,j,none⟩ (.int .u64 (z:Nat))) q n (BM W j z):=by
 obtain⟨cs,h2,h3,h4⟩:=h.hq
 refine⟨⟨_,bZ h2 _,by simpa using h3,λ i hi=>?_⟩,h.small,λ i hi=>?_⟩
 .rw [Array.getElem?_setIfInBounds,BM]
  by_cases e:j=i
  .subst e
   rw[if_pos rfl,if_pos (by omega),if_pos rfl]
  .rw [if_neg e,if_neg (by omega)]
   exact h4 i hi
 .rw [BM];split
  .exact hz
  .exact h.fits i hi

structure DocAt(w:World)(rb q n:Nat)(W:Nat->Nat)(lv:Value):Prop where
 hr:∃ cap,w.heap[rb]?=some (.cells #[.slice (some ⟨q,0,none⟩) n cap,lv] 140 (0,0))
 row:WRow w q n W

theorem DocAt.keep{S:Nat->Prop}{w w':World}{rb q n:Nat}{W:Nat->Nat}{lv:Value}(h:DocAt w rb q n W lv)(k:Kp S w w')(hr:¬ S rb)(hq:¬ S q):DocAt w' rb q n W lv:=by
 obtain⟨cap,h1⟩:=h.hr
 exact⟨⟨cap,k.at_ h1 hr⟩,h.row.keep k hq⟩

theorem DocAt.Ad{w w':World}{rb q n:Nat}{W:Nat->Nat}{lv:Value}(h:DocAt w rb q n W lv)(k:Kp Ab w w'):DocAt w' rb q n W lv:=h.keep k (λ h=>h) (λ h=>h)

theorem DocAt.lt{w:World}{rb q n:Nat}{W:Nat->Nat}{lv:Value}(h:DocAt w rb q n W lv):rb<w.heap.size:=by obtain⟨_,h⟩:=h.hr;exact lZ h

theorem DocAt.ne{w:World}{rb q n:Nat}{W:Nat->Nat}{lv:Value}(h:DocAt w rb q n W lv):¬ rb=q:=by
 obtain⟨_,h1⟩:=h.hr
 obtain⟨_,h2,_⟩:=h.row.hq
 intro e
 subst e
 rw[h1] at h2
 injection h2 with h2
 injection h2 with _ h3
 exact absurd h3 (by decide)

theorem DocAt.head{w:World}{rb q n:Nat}{W:Nat->Nat}{lv:Value}(h:DocAt w rb q n W lv):∃ cap,w.cell? ⟨rb,0,none⟩=some (.slice (some ⟨q,0,none⟩) n cap)/\w.cell? ⟨rb,1,none⟩=some lv:=by
 obtain⟨cap,h1⟩:=h.hr
 exact⟨cap,by simp[World.cell?,h1],by simp[World.cell?,h1]⟩

theorem DocAt.free{w:World}{rb q n:Nat}{W:Nat->Nat}{lv:Value}(h:DocAt w rb q n W lv)(j:Nat):w.frozen? ⟨rb,j,none⟩=false:=by
 obtain⟨_,h1⟩:=h.hr
 exact Ae h1 j

def wordVF(W:Nat->Nat)(n:Nat):List Value:=(List.range n).map λ j=>.int .u64 (W j:Nat)

theorem wordVF_at(W:Nat->Nat)(n j:Nat)(hj:j<n):(wordVF W n)[j]?=some (.int .u64 (W j:Nat)):=by
 simp[wordVF,hj]

theorem info_word:∃ i,prog.info? 55=some i/\i.zero=some (.int .u64 0)/\i.size=1/\i.bytes=8:=by
 obtain⟨i,h1,h2,h3,h4⟩:=info_parts infoWord
 exact⟨i,h1,h2,h3,h4⟩

theorem Ed{w:World}{ops:Array Oper}{rest:List Oper}{o:Oper}{a:Act}{Q:Exit->Act->World->Prop}(hgd:o.guard=none)(x:Operand)
  (ho:o.op=.call {callee:=.builtin .append,args:=#[.const (.slice none 0 0),x],argTypes:=#[135,135]}) (q n cap:Nat) (W:Nat->Nat) (hx:a.eval x=.slice (some ⟨q,0,none⟩) n cap)
  (hr:WRow w q n W) (h0:0<n)
  (h:∀ w' q' cap',WRow w' q' n W->w.heap.size<=q'->Kp Ab w w'->wpList prog ops Q rest (a.put o.dst (.slice (some ⟨q',0,none⟩) n cap')) w'):wpList prog ops Q (o::rest) a w:=by
 obtain⟨i0,hi,hz0,hz1,hz2⟩:=info_word
 have hs:=hr.small
 refine wpList_append_own_at w hgd (.const (.slice none 0 0)) x 135 ho w.heap.size 55 i0 _ 1 8 CU hi hz0 hz1 hz2 rfl (by omega) (.slice none 0 0) 0 [] rfl (World.ownsRow_nil _ _ _ _) ⟨q,0,none⟩ n cap (wordVF W n) hx (by simp[wordVF]) ?_ ?_ (by unfold maxLen;omega) (by omega) (Nat.le_refl _) ?_
 .intro j u hu
  have hj:j<n:=by
   have:=(gE.1 hu).1
   simpa [wordVF] using this
  rw[wordVF_at W n j hj] at hu
  rw[<- Option.some.inj hu]
  rw[Addr.add_lit,Nat.zero_add]
  exact hr.at_ hj
 .intro u hu
  obtain⟨_,_,rfl⟩:=List.mem_map.1 hu
  rfl
 .intro v' w' hown hgrow hnil hat
  have hk:Kp Ab w w':=(Kr Ab w).grown hgrow (λ k e hl=>by simp[Value.ownBlock] at e)
  obtain⟨-,h2⟩:=hown
  rcases h2 with ⟨h2,-⟩|⟨g,cap',cur,h2,h3,h4,h5,h6,h7,h8⟩
  .have:=(hnil.1 h2).2
   omega
  .rw [Nat.zero_add,Nat.mul_one,List.nil_append] at h8
   rw[Nat.zero_add] at h2 h5
   rw[Nat.mul_one] at h7
   rw[h2]
   refine h w' g cap' ⟨⟨cur,h4,by omega,λ j hj=>?_⟩,hs,hr.fits⟩ h3 hk
   have h9:(cur.toList.take n)[j]?=(wordVF W n)[j]?:=by rw[h8]
   rw[List.getElem?_take_of_lt hj,wordVF_at W n j hj] at h9
   simpa using h9

theorem DGapW_one(w:World):Calls prog 166 #[.int .i64 1] w λ e w'=>e=.returned (.int .u64 (Bo 2 0 0 1:Nat))/\Kp Ab w w':=by
 have HG:=sE (DGap_yes 2 1 w (by omega) (by omega) (by omega))
 have HEN:=sE (λ W'=>Fb 2 0 0 1 W' (by simp[Am]))
 obtain⟨X,hX⟩:∃ X,Bo 2 0 0 1=X:=⟨_,rfl⟩
 rw[hX] at HEN ⊢
 clear hX
 unfold Al at HG
 go_enter func166,ntmps166
 go_wp2_with fail
 refine HG.out.mono ?_
 rintro e w1 ⟨rfl,k1⟩
 go_wp2_with fail
 refine(HEN.out _).mono ?_
 rintro e w2 ⟨rfl,k2⟩
 go_wp2
 go_ret
 exact⟨rfl,(k1.alloc _).then' k2⟩

theorem DGapW_more(m:Nat)(w:World)(h1:1<m)(h2:m<=65536):Calls prog 166 #[.int .i64 (m:Nat)] w λ e w'=>e=.returned (.int .u64 (Bo 3 0 0 m:Nat))/\Kp Ab w w':=by
 have HG:=sE (DGap_yes 3 m w (by omega) (by omega) (by omega))
 have HEN:=sE (λ W'=>Fb 3 0 0 m W' (by simp[Am] <;> omega))
 obtain⟨X,hX⟩:∃ X,Bo 3 0 0 m=X:=⟨_,rfl⟩
 rw[hX] at HEN ⊢
 have d2:(((m:Nat):Int)==1)=false:=by simp <;> omega
 clear hX
 unfold Al at HG
 go_enter func166,ntmps166
 go_wp2_with fail
 refine HG.out.mono ?_
 rintro e w1 ⟨rfl,k1⟩
 go_wp2_with fail
 refine(HEN.out _).mono ?_
 rintro e w2 ⟨rfl,k2⟩
 go_wp2
 go_ret
 exact⟨rfl,(k1.alloc _).then' k2⟩

theorem DGapW_any(m:Nat)(w:World)(h1:0<m)(h2:m<=65536):Calls prog 166 #[.int .i64 (m:Nat)] w λ e w'=>e=.returned (.int .u64 (Bo (Dw m) 0 0 m:Nat))/\Kp Ab w w':=by
 by_cases h:m=1
 .subst h;exact DGapW_one w
 .rw [Dw,if_neg h];exact DGapW_more m w (by omega) h2

def DLaid(rb q n:Nat)(W:Nat->Nat)(lv:Value)(w:World)(e:Ending)(w':World):Prop:=
 e=.returned (.tuple #[])/\∃ q',DocAt w' rb q' n W lv/\(q'=q\/w.heap.size<=q')/\Kp (λ k=>k=rb) w w'

theorem DLay_nil(rb q n:Nat)(W:Nat->Nat)(lv:Value)(g:Int)(w:World)(h:DocAt w rb q n W lv):
  Calls prog 126 #[.pointer (some ⟨rb,0,none⟩),.int .i64 g,.int .i64 0] w (DLaid rb q n W lv w):=by
 have HS:=sE h
 clear h
 go_enter func126,ntmps126
 go_wp2_with fail
 go_end0
 exact⟨rfl,q,HS.out,.inl rfl,Kr _ _⟩

theorem DLay_yes(rb q n:Nat)(W:Nat->Nat)(lv:Value)(g m:Nat)(w:World)(h:DocAt w rb q n W lv)(hm:0<m)(hg:g+m<=n/2):
  Calls prog 126 #[.pointer (some ⟨rb,0,none⟩),.int .i64 (g:Nat),.int .i64 (m:Nat)] w (DLaid rb q n (AZ W g m) lv w):=by
 rw[AZ,if_neg (by omega)]
 have hn:=h.row.small
 have HEN:=sE (λ W'=>DGapW_any m W' hm (by omega))
 have hX64:Bo (Dw m) 0 0 m<18446744073709551616:=by
  have:=gapTag_or m
  exact encH_lt (by simp[Am] <;> omega)
 obtain⟨X,hX⟩:∃ X,Bo (Dw m) 0 0 m=X:=⟨_,rfl⟩
 rw[hX] at HEN hX64 ⊢
 have H64:=sE hX64
 have HM:Sl ((2:Int)*(g:Int)=((2*g:Nat):Int)):=⟨by omega⟩
 have h2g:2*g<n:=by omega
 have d1:¬ ((m:Nat):Int)<1:=by omega
 obtain⟨cap,c0,c1⟩:=h.head
 have hlt:=h.lt
 have hrow:=sE h.row
 have HD:=sE h
 clear h hX hX64
 go_enter func126,ntmps126
 go_wp2_with (at_builtin;go_loud (refine Ed rfl (.tmp 12) rfl q n cap W rfl hrow.out (by omega) ?_);intro w1 q1 cap1 hr1 hq1 k1)
 have HR1:=sE hr1
 clear hr1
 go_wp2_with fail
 refine(HEN.out _).mono ?_
 rintro e w2 ⟨rfl,k2⟩
 have R2:=HR1.out.Ad k2
 have a0:=R2.at_ h2g
 have a1:=R2.free (2*g)
 have HR2:=sE R2
 have D2:=HD.out.Ad (k1.then' k2)
 obtain⟨cap2,b0,b1⟩:=D2.head
 have b2:=D2.free 0
 have b3:=D2.ne
 have hlt2:=D2.lt
 have hq2:=R2.lt
 have hne:¬ q1=rb:=by have:=hlt;omega
 have hne':¬ rb=q1:=by omega
 clear R2
 go_wp2_with fail
 go_end0
 have D3:=D2.keep (w':=w2.setCell ⟨q1,2*g,none⟩ (.int .u64 (X:Nat))) ((Kr (λ k=>k=q1) w2).setCell (λ _=>rfl) _) hne' (by have:=hrow.out.lt;omega)
 obtain⟨cap3,hr3⟩:=D3.hr
 have k4:Kp (λ k=>k=rb) (w2.setCell ⟨q1,2*g,none⟩ (.int .u64 (X:Nat))) ((w2.setCell ⟨q1,2*g,none⟩ (.int .u64 (X:Nat))).setCell ⟨rb,0,none⟩ (.slice (some ⟨q1,0,none⟩) n cap1)):=(Kr (λ k=>k=rb) _).setCell (λ _=>rfl) _
 have k3:Kp (λ k=>k=q1) w2 (w2.setCell ⟨q1,2*g,none⟩ (.int .u64 (X:Nat))):=(Kr (λ k=>k=q1) w2).setCell (λ _=>rfl) _
 refine⟨rfl,q1,⟨⟨cap1,by rw[bZ hr3 _];rfl⟩,?_⟩,.inr hq1,?_⟩
 .exact (HR2.out.store h2g X H64.out).keep k4 hne
 .exact (((k1.then' k2).Ak (λ k=>k=rb)).trans k3 (λ b hb h=>by omega)).trans k4 (λ _ _ h=>h)

theorem DL(rb q n:Nat)(W:Nat->Nat)(lv:Value)(g m:Nat)(w:World)(h:DocAt w rb q n W lv)(hg:g+m<=n/2):
  Calls prog 126 #[.pointer (some ⟨rb,0,none⟩),.int .i64 (g:Nat),.int .i64 (m:Nat)] w (DLaid rb q n (AZ W g m) lv w):=by
 by_cases h0:m=0
 .subst h0
  rw[AZ,if_pos rfl]
  exact DLay_nil rb q n W lv g w h
 .exact DLay_yes rb q n W lv g m w h (by omega) hg

theorem Bb{w:World}{b:Nat}{a0 a1 a2 a3:Value}{T:TypeId}(hb:w.heap[b]?=some (.cells #[a0,a1,a2,a3] T (0,0)))(v0 v1 v2 v3:Value)(wz:World)(hz:wz=(((w.setCell ⟨b,0,none⟩ v0).setCell ⟨b,1,none⟩ v1).setCell ⟨b,2,none⟩ v2).setCell ⟨b,3,none⟩ v3):
  wz.heap[b]?=some (.cells #[v0,v1,v2,v3] T (0,0))/\Kp (λ i=>i=b) w wz:=by
 subst hz
 exact⟨bZ (bZ (bZ (bZ hb (j:=0) _) (j:=1) _) (j:=2) _) (j:=3) _,
  ((((Kr (λ i=>i=b) w).setCell (λ _=>rfl) _).setCell (λ _=>rfl) _).setCell (λ _=>rfl) _).setCell (λ _=>rfl) _⟩

theorem Bh{w:World}{b:Nat}{a0 a1 a2:Value}{T:TypeId}(hb:w.heap[b]?=some (.cells #[a0,a1,a2] T (0,0)))(v0 v1 v2:Value)(wz:World)(hz:wz=((w.setCell ⟨b,0,none⟩ v0).setCell ⟨b,1,none⟩ v1).setCell ⟨b,2,none⟩ v2):
  wz.heap[b]?=some (.cells #[v0,v1,v2] T (0,0))/\Kp (λ i=>i=b) w wz:=by
 subst hz
 exact⟨bZ (bZ (bZ hb (j:=0) _) (j:=1) _) (j:=2) _,
  (((Kr (λ i=>i=b) w).setCell (λ _=>rfl) _).setCell (λ _=>rfl) _).setCell (λ _=>rfl) _⟩

theorem Ay{w:World}{b:Nat}{a0 a1 a2 a3:Value}{T:TypeId}(hb:w.heap[b]?=some (.cells #[a0,a1,a2,a3] T (0,0))):
  w.cell? ⟨b,0,none⟩=some a0/\w.cell? ⟨b,1,none⟩=some a1/\w.cell? ⟨b,2,none⟩=some a2/\w.cell? ⟨b,3,none⟩=some a3:=by
 refine⟨?_,?_,?_,?_⟩ <;> simp[World.cell?,hb]

theorem cells3{w:World}{b:Nat}{a0 a1 a2:Value}{T:TypeId}(hb:w.heap[b]?=some (.cells #[a0,a1,a2] T (0,0))):
  w.cell? ⟨b,0,none⟩=some a0/\w.cell? ⟨b,1,none⟩=some a1/\w.cell? ⟨b,2,none⟩=some a2:=by
 refine⟨?_,?_,?_⟩ <;> simp[World.cell?,hb]

theorem DHead_out(g:Int)(q n cap:Nat)(w:World)(hn:n<=65536)(hg:g<0\/((n/2:Nat):Int)<=g):
  Calls prog 148 #[.slice (some ⟨q,0,none⟩) n cap,.int .i64 g] w λ e w'=>e=.returned (.tuple #[Al 0 0 0 0,.int .i64 2])/\Kp Ab w w':=by
 obtain⟨d0,hd0⟩:∃ d0,decide (g<0)=d0:=⟨_,rfl⟩
 have hd1:d0=false->decide ((n:Int)/2<=g)=true:=λ h=>by
  subst h
  have:=of_decide_eq_false hd0
  exact dT (by omega)
 have kA:Kp Ab w (w.alloc (.cells #[.int .u8 0,.int .i64 0,.int .i64 0,.int .i64 0] 52)):=(Kr _ w).alloc _
 obtain⟨e0,e1,e2,e3⟩:=Ay (wN w (.cells #[.int .u8 0,.int .i64 0,.int .i64 0,.int .i64 0] 52))
 clear hg
 cases d0 with
 |true=>
  clear hd1
  go_enter func148,ntmps148
  go_wp2
  refine bodyPost_ret (v:=.tuple #[Al 0 0 0 0,.int .i64 2]) (by simp[results,results148,go_sem,e0,e1,e2,e3,Al]) rfl ⟨rfl,kA⟩
 |false=>
  have hd2:=hd1 rfl
  clear hd1
  go_enter func148,ntmps148
  go_wp2
  refine bodyPost_ret (v:=.tuple #[Al 0 0 0 0,.int .i64 2]) (by simp[results,results148,go_sem,e0,e1,e2,e3,Al]) rfl ⟨rfl,kA⟩

theorem DHead_in(g:Nat)(q n cap:Nat)(W:Nat->Nat)(w:World)(h:WRow w q n W)(hg:g<n/2):
  Calls prog 148 #[.slice (some ⟨q,0,none⟩) n cap,.int .i64 (g:Nat)] w (Fe (BO (W (2*g))) (CR (W (2*g))) (Ey (W (2*g))) (EO (W (2*g))) (DJ (W (2*g))) w):=by
 have hn:=h.small
 have h2g:2*g<n:=by omega
 have hlt:=h.lt
 obtain⟨w1,hw1⟩:∃ w1,w1=w.alloc (.cells #[.int .u8 0,.int .i64 0,.int .i64 0,.int .i64 0] 52):=⟨_,rfl⟩
 have kA:Kp Ab w w1:=by rw[hw1];exact (Kr _ w).alloc _
 have b0:w1.heap[w.heap.size]?=some (.cells #[.int .u8 0,.int .i64 0,.int .i64 0,.int .i64 0] 52 (0,0)):=by rw[hw1];exact wN w _
 have t1:decide ((g:Int)<0)=false:=dF (by omega)
 have t2:decide ((n:Int)/2<=(g:Int))=false:=dF (by omega)
 have HM:Sl ((2:Int)*(g:Int)=((2*g:Nat):Int)):=⟨by omega⟩
 have c0:=(h.Ad kA).at_ h2g
 have hlt1:=(h.Ad kA).lt
 obtain⟨X,hX⟩:∃ X,W (2*g)=X:=⟨_,rfl⟩
 have hXl:X<18446744073709551616:=by rw[<- hX];exact h.fits _ h2g
 rw[hX] at c0 ⊢
 have HD:=sE (DDecode_any X w1 hXl)
 clear hX hXl h
 rw[hw1] at c0 hlt1
 go_enter func148,ntmps148
 go_wp2_with fail
 rw[<- hw1]
 clear hw1
 refine HD.out.mono ?_
 rintro e w2 ⟨rfl,k2⟩
 have B0:=k2.at_ b0 (λ h=>h)
 obtain⟨d0,d1,d2,d3⟩:=Ay B0
 have f0:=Ae B0
 have f00:=f0 0
 have f01:=f0 1
 have f02:=f0 2
 have f03:=f0 3
 have KW:=kA.then' k2
 have HB:=sE B0
 clear b0 B0 f0 HD c0
 obtain⟨ok,hok⟩:∃ ok,BO X=ok:=⟨_,rfl⟩
 have H1:=sE hok
 rw[hok]
 clear hok
 obtain⟨tg,htg⟩:∃ x,CR X=x:=⟨_,rfl⟩
 obtain⟨ty,hty⟩:∃ x,Ey X=x:=⟨_,rfl⟩
 obtain⟨ln,hln⟩:∃ x,EO X=x:=⟨_,rfl⟩
 obtain⟨sz,hsz⟩:∃ x,DJ X=x:=⟨_,rfl⟩
 have T1:=sE htg
 have T2:=sE hty
 have T3:=sE hln
 have T4:=sE hsz
 rw[htg,hty,hln,hsz]
 clear htg hty hln hsz
 cases ok with
 |true=>
  rw[if_pos rfl,if_pos rfl]
  dsimp only[Al]
  go_wp2
  obtain⟨wz,hwz⟩:∃ wz,wz=(((w2.setCell ⟨w.heap.size,0,none⟩ (.int .u8 (tg:Nat))).setCell ⟨w.heap.size,1,none⟩ (.int .i64 (ty:Nat))).setCell ⟨w.heap.size,2,none⟩ (.int .i64 (ln:Nat))).setCell ⟨w.heap.size,3,none⟩ (.int .i64 (sz:Nat)):=⟨_,rfl⟩
  rw[<- hwz]
  obtain⟨tz,kz⟩:=Bb HB.out _ _ _ _ wz hwz
  clear hwz
  obtain⟨e0,e1,e2,e3⟩:=Ay tz
  refine bodyPost_ret (v:=.tuple #[Al (tg:Nat) (ty:Nat) (ln:Nat) (sz:Nat),.int .i64 0]) (by simp[results,results148,go_sem,e0,e1,e2,e3,Al]) rfl ⟨by rw[H1.out,T1.out,T2.out,T3.out,T4.out];rfl,KW.trans kz (λ i hi h=>by omega)⟩
 |false=>
  rw[if_neg (by simp),if_neg (by simp)]
  dsimp only[Al]
  go_wp2
  obtain⟨wz,hwz⟩:∃ wz,wz=(((w2.setCell ⟨w.heap.size,0,none⟩ (.int .u8 0)).setCell ⟨w.heap.size,1,none⟩ (.int .i64 0)).setCell ⟨w.heap.size,2,none⟩ (.int .i64 0)).setCell ⟨w.heap.size,3,none⟩ (.int .i64 0):=⟨_,rfl⟩
  rw[<- hwz]
  obtain⟨tz,kz⟩:=Bb HB.out _ _ _ _ wz hwz
  clear hwz
  obtain⟨e0,e1,e2,e3⟩:=Ay tz
  refine bodyPost_ret (v:=.tuple #[Al 0 0 0 0,.int .i64 7]) (by simp[results,results148,go_sem,e0,e1,e2,e3,Al]) rfl ⟨by rw[H1.out];rfl,KW.trans kz (λ i hi h=>by omega)⟩

def Cb(W:Nat->Nat)(n:Nat)(ts:List TypR)(g:Int):Option Cel:=
 if 0<=g/\g<(n/2:Nat)/\BO (W (2*g.toNat))=true/\CR (W (2*g.toNat))=1/\CZ ts 1 (Ey (W (2*g.toNat)):Nat) (EO (W (2*g.toNat)):Nat) (DJ (W (2*g.toNat)):Nat)=0/\DJ (W (2*g.toNat))<=n/2-g.toNat then
  some ⟨g.toNat,1,Ey (W (2*g.toNat)),EO (W (2*g.toNat)),DJ (W (2*g.toNat))⟩ else none

def DOfNo(w:World)(e:Ending)(w':World):Prop:=∃ E:Int,¬ E=0/\e=.returned (.tuple #[Al 0 0 0 0,AC 0 0 0,.int .i64 E])/\Kp Ab w w'

def DOfYes(ts:List TypR)(c:Cel)(w:World)(e:Ending)(w':World):Prop:=
 ∃ k wds m,typeOf ts (c.ty:Nat)=some ⟨k,wds,m⟩/\e=.returned (.tuple #[Al 1 (c.ty:Nat) (c.ln:Nat) (c.sz:Nat),AC k wds (m:Nat),.int .i64 0])/\Kp Ab w w'

theorem DOf_err(g:Int)(q n cap:Nat)(lv:Value)(E:Int)(w:World)(hE:¬ E=0)
  (hH:∀ W',Kp Ab w W'->Calls prog 148 #[.slice (some ⟨q,0,none⟩) n cap,.int .i64 g] W' λ e w'=>e=.returned (.tuple #[.agg #[.int .u8 0,.int .i64 0,.int .i64 0,.int .i64 0],.int .i64 E])/\Kp Ab W' w'):
  Calls prog 132 #[.slice (some ⟨q,0,none⟩) n cap,lv,.int .i64 g] w (DOfNo w):=by
 obtain⟨w1,hw1⟩:∃ w1,w1=(w.alloc (.cells #[.int .u8 0,.int .i64 0,.int .i64 0,.int .i64 0] 52)).alloc (.cells #[.int .u8 0,.int .i64 0,.int .u64 0] 86):=⟨_,rfl⟩
 have kA:Kp Ab w w1:=by rw[hw1];exact ((Kr _ w).alloc _).alloc _
 have b6:w1.heap[w.heap.size]?=some (.cells #[.int .u8 0,.int .i64 0,.int .i64 0,.int .i64 0] 52 (0,0)):=by
  rw[hw1];exact ((Kr Ab _).alloc _).at_ (wN w _) (λ h=>h)
 have b7:w1.heap[w.heap.size+1]?=some (.cells #[.int .u8 0,.int .i64 0,.int .u64 0] 86 (0,0)):=by
  rw[hw1];have:=wN (w.alloc (.cells #[.int .u8 0,.int .i64 0,.int .i64 0,.int .i64 0] 52)) (.cells #[.int .u8 0,.int .i64 0,.int .u64 0] 86);rwa [World.size_alloc] at this
 have HH:=sE (hH w1 kA)
 have hb:(E !=0)=true:=by simpa using hE
 have HE:=sE hE
 clear hH hE
 go_enter func132,ntmps132
 go_wp2_with fail
 rw[<- hw1]
 clear hw1
 refine HH.out.mono ?_
 rintro e w2 ⟨rfl,k2⟩
 have KW:=kA.then' k2
 have B6:=k2.at_ b6 (λ h=>h)
 have B7:=k2.at_ b7 (λ h=>h)
 have hl6:=lZ B6
 have hl7:=lZ B7
 have hn6:¬ w.heap.size=w2.heap.size:=by omega
 have hn7:¬ w.heap.size+1=w2.heap.size:=by omega
 obtain⟨d0,d1,d2,d3⟩:=Ay B6
 obtain⟨t0,t1,t2⟩:=cells3 B7
 have f0:=Ae B6
 have f00:=f0 0
 have f01:=f0 1
 have f02:=f0 2
 have f03:=f0 3
 have f1:=Ae B7
 have f10:=f1 0
 have f11:=f1 1
 have f12:=f1 2
 have HB6:=sE B6
 have HB7:=sE B7
 clear b6 b7 B6 B7 f0 f1 HH
 go_wp2
 obtain⟨wy,hwy⟩:∃ wy,wy=(((w2.setCell ⟨w.heap.size,0,none⟩ (.int .u8 0)).setCell ⟨w.heap.size,1,none⟩ (.int .i64 0)).setCell ⟨w.heap.size,2,none⟩ (.int .i64 0)).setCell ⟨w.heap.size,3,none⟩ (.int .i64 0):=⟨_,rfl⟩
 rw[<- hwy]
 obtain⟨ty6,ky⟩:=Bb HB6.out _ _ _ _ wy hwy
 have B7y:=ky.at_ HB7.out (λ h=>by have h':w.heap.size+1=w.heap.size:=h;omega)
 clear hwy
 obtain⟨wz,hwz⟩:∃ wz,wz=((wy.setCell ⟨w.heap.size+1,0,none⟩ (.int .u8 0)).setCell ⟨w.heap.size+1,1,none⟩ (.int .i64 0)).setCell ⟨w.heap.size+1,2,none⟩ (.int .u64 0):=⟨_,rfl⟩
 rw[<- hwz]
 obtain⟨tz7,kz⟩:=Bh B7y _ _ _ wz hwz
 have B6z:=kz.at_ ty6 (λ h=>by have h':w.heap.size=w.heap.size+1:=h;omega)
 clear hwz
 have kx:Kp Ab wz (wz.alloc (.cells #[.int .u8 0,.int .i64 0,.int .i64 0,.int .i64 0] 52)):=(Kr _ wz).alloc _
 obtain⟨e0,e1,e2,e3⟩:=Ay (kx.at_ B6z (λ h=>h))
 obtain⟨e4,e5,e6⟩:=cells3 (kx.at_ tz7 (λ h=>h))
 have KF:=((KW.trans ky (λ i hi h=>by have h':i=w.heap.size:=h;omega)).trans kz (λ i hi h=>by have h':i=w.heap.size+1:=h;omega)).then' kx
 refine bodyPost_ret (v:=.tuple #[Al 0 0 0 0,AC 0 0 0,.int .i64 E]) (by simp[results,results132,go_sem,e0,e1,e2,e3,e4,e5,e6,Al,AC]) rfl ⟨E,HE.out,rfl,KF⟩

theorem DOf_tag(g q n cap:Nat)(lv:Value)(tg ty ln sz:Nat)(w:World)(ht:¬ tg=1)(hs:sz<16777216)(hn:n<=65536)(hg:g<n/2)
  (hH:∀ W',Kp Ab w W'->Calls prog 148 #[.slice (some ⟨q,0,none⟩) n cap,.int .i64 (g:Nat)] W' λ e w'=>e=.returned (.tuple #[.agg #[.int .u8 (tg:Nat),.int .i64 (ty:Nat),.int .i64 (ln:Nat),.int .i64 (sz:Nat)],.int .i64 0])/\Kp Ab W' w'):
  Calls prog 132 #[.slice (some ⟨q,0,none⟩) n cap,lv,.int .i64 (g:Nat)] w (DOfNo w):=by
 obtain⟨w1,hw1⟩:∃ w1,w1=(w.alloc (.cells #[.int .u8 0,.int .i64 0,.int .i64 0,.int .i64 0] 52)).alloc (.cells #[.int .u8 0,.int .i64 0,.int .u64 0] 86):=⟨_,rfl⟩
 have kA:Kp Ab w w1:=by rw[hw1];exact ((Kr _ w).alloc _).alloc _
 have b6:w1.heap[w.heap.size]?=some (.cells #[.int .u8 0,.int .i64 0,.int .i64 0,.int .i64 0] 52 (0,0)):=by
  rw[hw1];exact ((Kr Ab _).alloc _).at_ (wN w _) (λ h=>h)
 have b7:w1.heap[w.heap.size+1]?=some (.cells #[.int .u8 0,.int .i64 0,.int .u64 0] 86 (0,0)):=by
  rw[hw1];have:=wN (w.alloc (.cells #[.int .u8 0,.int .i64 0,.int .i64 0,.int .i64 0] 52)) (.cells #[.int .u8 0,.int .i64 0,.int .u64 0] 86);rwa [World.size_alloc] at this
 have HH:=sE (hH w1 kA)
 have hb:((tg:Int) !=1)=true:=by simp;omega
 clear hH ht
 go_enter func132,ntmps132
 go_wp2_with fail
 rw[<- hw1]
 clear hw1
 refine HH.out.mono ?_
 rintro e w2 ⟨rfl,k2⟩
 have KW:=kA.then' k2
 have B6:=k2.at_ b6 (λ h=>h)
 have B7:=k2.at_ b7 (λ h=>h)
 have hl6:=lZ B6
 have hl7:=lZ B7
 have hn6:¬ w.heap.size=w2.heap.size:=by omega
 have hn7:¬ w.heap.size+1=w2.heap.size:=by omega
 obtain⟨d0,d1,d2,d3⟩:=Ay B6
 obtain⟨t0,t1,t2⟩:=cells3 B7
 have f0:=Ae B6
 have f00:=f0 0
 have f01:=f0 1
 have f02:=f0 2
 have f03:=f0 3
 have f1:=Ae B7
 have f10:=f1 0
 have f11:=f1 1
 have f12:=f1 2
 have HB6:=sE B6
 have HB7:=sE B7
 clear b6 b7 B6 B7 f0 f1 HH
 go_wp2
 obtain⟨wy,hwy⟩:∃ wy,wy=(((w2.setCell ⟨w.heap.size,0,none⟩ (.int .u8 0)).setCell ⟨w.heap.size,1,none⟩ (.int .i64 0)).setCell ⟨w.heap.size,2,none⟩ (.int .i64 0)).setCell ⟨w.heap.size,3,none⟩ (.int .i64 0):=⟨_,rfl⟩
 rw[<- hwy]
 obtain⟨ty6,ky⟩:=Bb HB6.out _ _ _ _ wy hwy
 have B7y:=ky.at_ HB7.out (λ h=>by have h':w.heap.size+1=w.heap.size:=h;omega)
 clear hwy
 obtain⟨wz,hwz⟩:∃ wz,wz=((wy.setCell ⟨w.heap.size+1,0,none⟩ (.int .u8 0)).setCell ⟨w.heap.size+1,1,none⟩ (.int .i64 0)).setCell ⟨w.heap.size+1,2,none⟩ (.int .u64 0):=⟨_,rfl⟩
 rw[<- hwz]
 obtain⟨tz7,kz⟩:=Bh B7y _ _ _ wz hwz
 have B6z:=kz.at_ ty6 (λ h=>by have h':w.heap.size=w.heap.size+1:=h;omega)
 clear hwz
 have kx:Kp Ab wz (wz.alloc (.cells #[.int .u8 (tg:Nat),.int .i64 (ty:Nat),.int .i64 (ln:Nat),.int .i64 (sz:Nat)] 52)):=(Kr _ wz).alloc _
 obtain⟨e0,e1,e2,e3⟩:=Ay (kx.at_ B6z (λ h=>h))
 obtain⟨e4,e5,e6⟩:=cells3 (kx.at_ tz7 (λ h=>h))
 have KF:=((KW.trans ky (λ i hi h=>by have h':i=w.heap.size:=h;omega)).trans kz (λ i hi h=>by have h':i=w.heap.size+1:=h;omega)).then' kx
 refine bodyPost_ret (v:=.tuple #[Al 0 0 0 0,AC 0 0 0,.int .i64 8]) (by simp[results,results132,go_sem,e0,e1,e2,e3,e4,e5,e6,Al,AC]) rfl ⟨8,by omega,rfl,KF⟩

theorem DOf_fit(g q n cap:Nat)(lv:Value)(ty ln sz:Nat)(E:Int)(w:World)(hE:¬ E=0)(hs:sz<16777216)(hn:n<=65536)(hg:g<n/2)
  (hH:∀ W',Kp Ab w W'->Calls prog 148 #[.slice (some ⟨q,0,none⟩) n cap,.int .i64 (g:Nat)] W' λ e w'=>e=.returned (.tuple #[.agg #[.int .u8 1,.int .i64 (ty:Nat),.int .i64 (ln:Nat),.int .i64 (sz:Nat)],.int .i64 0])/\Kp Ab W' w')
  (hF:∀ W',Kp Ab w W'->Calls prog 149 #[lv,.agg #[.int .u8 1,.int .i64 (ty:Nat),.int .i64 (ln:Nat),.int .i64 (sz:Nat)]] W' λ e w'=>e=.returned (.int .i64 E)/\Kp Ab W' w'):
  Calls prog 132 #[.slice (some ⟨q,0,none⟩) n cap,lv,.int .i64 (g:Nat)] w (DOfNo w):=by
 obtain⟨w1,hw1⟩:∃ w1,w1=(w.alloc (.cells #[.int .u8 0,.int .i64 0,.int .i64 0,.int .i64 0] 52)).alloc (.cells #[.int .u8 0,.int .i64 0,.int .u64 0] 86):=⟨_,rfl⟩
 have kA:Kp Ab w w1:=by rw[hw1];exact ((Kr _ w).alloc _).alloc _
 have b6:w1.heap[w.heap.size]?=some (.cells #[.int .u8 0,.int .i64 0,.int .i64 0,.int .i64 0] 52 (0,0)):=by
  rw[hw1];exact ((Kr Ab _).alloc _).at_ (wN w _) (λ h=>h)
 have b7:w1.heap[w.heap.size+1]?=some (.cells #[.int .u8 0,.int .i64 0,.int .u64 0] 86 (0,0)):=by
  rw[hw1];have:=wN (w.alloc (.cells #[.int .u8 0,.int .i64 0,.int .i64 0,.int .i64 0] 52)) (.cells #[.int .u8 0,.int .i64 0,.int .u64 0] 86);rwa [World.size_alloc] at this
 have HH:=sE (hH w1 kA)
 have HF:=sE hF
 have hb:(E !=0)=true:=by simpa using hE
 clear hH hE hF
 go_enter func132,ntmps132
 go_wp2_with fail
 rw[<- hw1]
 clear hw1
 refine HH.out.mono ?_
 rintro e w2 ⟨rfl,k2⟩
 have KW:=kA.then' k2
 have B6:=k2.at_ b6 (λ h=>h)
 have B7:=k2.at_ b7 (λ h=>h)
 have hl6:=lZ B6
 have hl7:=lZ B7
 have hn6:¬ w.heap.size=w2.heap.size:=by omega
 have hn7:¬ w.heap.size+1=w2.heap.size:=by omega
 obtain⟨d0,d1,d2,d3⟩:=Ay B6
 obtain⟨t0,t1,t2⟩:=cells3 B7
 have f0:=Ae B6
 have f00:=f0 0
 have f01:=f0 1
 have f02:=f0 2
 have f03:=f0 3
 have f1:=Ae B7
 have f10:=f1 0
 have f11:=f1 1
 have f12:=f1 2
 have HB6:=sE B6
 have HB7:=sE B7
 clear b6 b7 B6 B7 f0 f1 HH
 go_wp2_with fail
 refine(HF.out _ (KW.then' ((Kr Ab w2).alloc _))).mono ?_
 rintro e w3 ⟨rfl,k3⟩
 have b9:=wN w2 (.cells #[.int .u8 1,.int .i64 (ty:Nat),.int .i64 (ln:Nat),.int .i64 (sz:Nat)] 52)
 have k23:=((Kr Ab w2).alloc (.cells #[.int .u8 1,.int .i64 (ty:Nat),.int .i64 (ln:Nat),.int .i64 (sz:Nat)] 52)).then' k3
 replace KW:=KW.then' k23
 have B6:=k23.at_ HB6.out (λ h=>h)
 have B7:=k23.at_ HB7.out (λ h=>h)
 have B9:=k3.at_ b9 (λ h=>h)
 have hm6:=lZ B6
 have hm7:=lZ B7
 have hm9:=lZ B9
 have hp6:¬ w.heap.size=w3.heap.size:=by omega
 have hp7:¬ w.heap.size+1=w3.heap.size:=by omega
 have hp9:¬ w2.heap.size=w3.heap.size:=by omega
 clear d0 d1 d2 d3 t0 t1 t2 f00 f01 f02 f03 f10 f11 f12
 obtain⟨d0,d1,d2,d3⟩:=Ay B6
 obtain⟨t0,t1,t2⟩:=cells3 B7
 obtain⟨h0,h1,h2,h3⟩:=Ay B9
 have f0:=Ae B6
 have f00:=f0 0
 have f01:=f0 1
 have f02:=f0 2
 have f03:=f0 3
 have f1:=Ae B7
 have f10:=f1 0
 have f11:=f1 1
 have f12:=f1 2
 replace HB6:Sl _:=⟨B6⟩
 replace HB7:Sl _:=⟨B7⟩
 have HB9:=sE B9
 clear B6 B7 B9 f0 f1 HF b9
 go_wp2
 obtain⟨wy,hwy⟩:∃ wy,wy=(((w3.setCell ⟨w.heap.size,0,none⟩ (.int .u8 0)).setCell ⟨w.heap.size,1,none⟩ (.int .i64 0)).setCell ⟨w.heap.size,2,none⟩ (.int .i64 0)).setCell ⟨w.heap.size,3,none⟩ (.int .i64 0):=⟨_,rfl⟩
 rw[<- hwy]
 obtain⟨ty6,ky⟩:=Bb HB6.out _ _ _ _ wy hwy
 have B7y:=ky.at_ HB7.out (λ h=>by have h':w.heap.size+1=w.heap.size:=h;omega)
 clear hwy
 obtain⟨wz,hwz⟩:∃ wz,wz=((wy.setCell ⟨w.heap.size+1,0,none⟩ (.int .u8 0)).setCell ⟨w.heap.size+1,1,none⟩ (.int .i64 0)).setCell ⟨w.heap.size+1,2,none⟩ (.int .u64 0):=⟨_,rfl⟩
 rw[<- hwz]
 obtain⟨tz7,kz⟩:=Bh B7y _ _ _ wz hwz
 have B6z:=kz.at_ ty6 (λ h=>by have h':w.heap.size=w.heap.size+1:=h;omega)
 clear hwz
 obtain⟨e0,e1,e2,e3⟩:=Ay B6z
 obtain⟨e4,e5,e6⟩:=cells3 tz7
 have KF:=(KW.trans ky (λ i hi h=>by have h':i=w.heap.size:=h;omega)).trans kz (λ i hi h=>by have h':i=w.heap.size+1:=h;omega)
 refine bodyPost_ret (v:=.tuple #[Al 0 0 0 0,AC 0 0 0,.int .i64 8]) (by simp[results,results132,go_sem,e0,e1,e2,e3,e4,e5,e6,Al,AC]) rfl ⟨8,by omega,rfl,KF⟩

theorem DOf_big(g q n cap:Nat)(lv:Value)(ty ln sz:Nat)(w:World)(hz:n/2-g<sz)(hs:sz<16777216)(hn:n<=65536)(hg:g<n/2)
  (hH:∀ W',Kp Ab w W'->Calls prog 148 #[.slice (some ⟨q,0,none⟩) n cap,.int .i64 (g:Nat)] W' λ e w'=>e=.returned (.tuple #[.agg #[.int .u8 1,.int .i64 (ty:Nat),.int .i64 (ln:Nat),.int .i64 (sz:Nat)],.int .i64 0])/\Kp Ab W' w')
  (hF:∀ W',Kp Ab w W'->Calls prog 149 #[lv,.agg #[.int .u8 1,.int .i64 (ty:Nat),.int .i64 (ln:Nat),.int .i64 (sz:Nat)]] W' λ e w'=>e=.returned (.int .i64 0)/\Kp Ab W' w'):
  Calls prog 132 #[.slice (some ⟨q,0,none⟩) n cap,lv,.int .i64 (g:Nat)] w (DOfNo w):=by
 obtain⟨w1,hw1⟩:∃ w1,w1=(w.alloc (.cells #[.int .u8 0,.int .i64 0,.int .i64 0,.int .i64 0] 52)).alloc (.cells #[.int .u8 0,.int .i64 0,.int .u64 0] 86):=⟨_,rfl⟩
 have kA:Kp Ab w w1:=by rw[hw1];exact ((Kr _ w).alloc _).alloc _
 have b6:w1.heap[w.heap.size]?=some (.cells #[.int .u8 0,.int .i64 0,.int .i64 0,.int .i64 0] 52 (0,0)):=by
  rw[hw1];exact ((Kr Ab _).alloc _).at_ (wN w _) (λ h=>h)
 have b7:w1.heap[w.heap.size+1]?=some (.cells #[.int .u8 0,.int .i64 0,.int .u64 0] 86 (0,0)):=by
  rw[hw1];have:=wN (w.alloc (.cells #[.int .u8 0,.int .i64 0,.int .i64 0,.int .i64 0] 52)) (.cells #[.int .u8 0,.int .i64 0,.int .u64 0] 86);rwa [World.size_alloc] at this
 have HH:=sE (hH w1 kA)
 have HF:=sE hF
 have hb:decide ((n:Int)/2-(g:Int)<(sz:Int))=true:=dT (by omega)
 clear hH hF
 go_enter func132,ntmps132
 go_wp2_with fail
 rw[<- hw1]
 clear hw1
 refine HH.out.mono ?_
 rintro e w2 ⟨rfl,k2⟩
 have KW:=kA.then' k2
 have B6:=k2.at_ b6 (λ h=>h)
 have B7:=k2.at_ b7 (λ h=>h)
 have hl6:=lZ B6
 have hl7:=lZ B7
 have hn6:¬ w.heap.size=w2.heap.size:=by omega
 have hn7:¬ w.heap.size+1=w2.heap.size:=by omega
 obtain⟨d0,d1,d2,d3⟩:=Ay B6
 obtain⟨t0,t1,t2⟩:=cells3 B7
 have f0:=Ae B6
 have f00:=f0 0
 have f01:=f0 1
 have f02:=f0 2
 have f03:=f0 3
 have f1:=Ae B7
 have f10:=f1 0
 have f11:=f1 1
 have f12:=f1 2
 have HB6:=sE B6
 have HB7:=sE B7
 clear b6 b7 B6 B7 f0 f1 HH
 go_wp2_with fail
 refine(HF.out _ (KW.then' ((Kr Ab w2).alloc _))).mono ?_
 rintro e w3 ⟨rfl,k3⟩
 have b9:=wN w2 (.cells #[.int .u8 1,.int .i64 (ty:Nat),.int .i64 (ln:Nat),.int .i64 (sz:Nat)] 52)
 have k23:=((Kr Ab w2).alloc (.cells #[.int .u8 1,.int .i64 (ty:Nat),.int .i64 (ln:Nat),.int .i64 (sz:Nat)] 52)).then' k3
 replace KW:=KW.then' k23
 have B6:=k23.at_ HB6.out (λ h=>h)
 have B7:=k23.at_ HB7.out (λ h=>h)
 have B9:=k3.at_ b9 (λ h=>h)
 have hm6:=lZ B6
 have hm7:=lZ B7
 have hm9:=lZ B9
 have hp6:¬ w.heap.size=w3.heap.size:=by omega
 have hp7:¬ w.heap.size+1=w3.heap.size:=by omega
 have hp9:¬ w2.heap.size=w3.heap.size:=by omega
 clear d0 d1 d2 d3 t0 t1 t2 f00 f01 f02 f03 f10 f11 f12
 obtain⟨d0,d1,d2,d3⟩:=Ay B6
 obtain⟨t0,t1,t2⟩:=cells3 B7
 obtain⟨h0,h1,h2,h3⟩:=Ay B9
 have f0:=Ae B6
 have f00:=f0 0
 have f01:=f0 1
 have f02:=f0 2
 have f03:=f0 3
 have f1:=Ae B7
 have f10:=f1 0
 have f11:=f1 1
 have f12:=f1 2
 replace HB6:Sl _:=⟨B6⟩
 replace HB7:Sl _:=⟨B7⟩
 have HB9:=sE B9
 clear B6 B7 B9 f0 f1 HF b9
 go_wp2
 obtain⟨wy,hwy⟩:∃ wy,wy=(((w3.setCell ⟨w.heap.size,0,none⟩ (.int .u8 0)).setCell ⟨w.heap.size,1,none⟩ (.int .i64 0)).setCell ⟨w.heap.size,2,none⟩ (.int .i64 0)).setCell ⟨w.heap.size,3,none⟩ (.int .i64 0):=⟨_,rfl⟩
 rw[<- hwy]
 obtain⟨ty6,ky⟩:=Bb HB6.out _ _ _ _ wy hwy
 have B7y:=ky.at_ HB7.out (λ h=>by have h':w.heap.size+1=w.heap.size:=h;omega)
 clear hwy
 obtain⟨wz,hwz⟩:∃ wz,wz=((wy.setCell ⟨w.heap.size+1,0,none⟩ (.int .u8 0)).setCell ⟨w.heap.size+1,1,none⟩ (.int .i64 0)).setCell ⟨w.heap.size+1,2,none⟩ (.int .u64 0):=⟨_,rfl⟩
 rw[<- hwz]
 obtain⟨tz7,kz⟩:=Bh B7y _ _ _ wz hwz
 have B6z:=kz.at_ ty6 (λ h=>by have h':w.heap.size=w.heap.size+1:=h;omega)
 clear hwz
 obtain⟨e0,e1,e2,e3⟩:=Ay B6z
 obtain⟨e4,e5,e6⟩:=cells3 tz7
 have KF:=(KW.trans ky (λ i hi h=>by have h':i=w.heap.size:=h;omega)).trans kz (λ i hi h=>by have h':i=w.heap.size+1:=h;omega)
 refine bodyPost_ret (v:=.tuple #[Al 0 0 0 0,AC 0 0 0,.int .i64 8]) (by simp[results,results132,go_sem,e0,e1,e2,e3,e4,e5,e6,Al,AC]) rfl ⟨8,by omega,rfl,KF⟩

theorem DOf_ok(g q n cap:Nat)(lv:Value)(ty ln sz:Nat)(k wds:Int)(m:Nat)(w:World)(hz:sz<=n/2-g)(hs:sz<16777216)(hn:n<=65536)(hg:g<n/2)
  (hH:∀ W',Kp Ab w W'->Calls prog 148 #[.slice (some ⟨q,0,none⟩) n cap,.int .i64 (g:Nat)] W' λ e w'=>e=.returned (.tuple #[.agg #[.int .u8 1,.int .i64 (ty:Nat),.int .i64 (ln:Nat),.int .i64 (sz:Nat)],.int .i64 0])/\Kp Ab W' w')
  (hF:∀ W',Kp Ab w W'->Calls prog 149 #[lv,.agg #[.int .u8 1,.int .i64 (ty:Nat),.int .i64 (ln:Nat),.int .i64 (sz:Nat)]] W' λ e w'=>e=.returned (.int .i64 0)/\Kp Ab W' w')
  (hG:∀ W',Kp Ab w W'->Calls prog 170 #[lv,.int .i64 (ty:Nat)] W' λ e w'=>e=.returned (.tuple #[.agg #[.int .u8 k,.int .i64 wds,.int .u64 (m:Nat)],.int .i64 0])/\Kp Ab W' w'):
  Calls prog 132 #[.slice (some ⟨q,0,none⟩) n cap,lv,.int .i64 (g:Nat)] w (λ e w'=>e=.returned (.tuple #[Al 1 (ty:Nat) (ln:Nat) (sz:Nat),AC k wds (m:Nat),.int .i64 0])/\Kp Ab w w'):=by
 obtain⟨w1,hw1⟩:∃ w1,w1=(w.alloc (.cells #[.int .u8 0,.int .i64 0,.int .i64 0,.int .i64 0] 52)).alloc (.cells #[.int .u8 0,.int .i64 0,.int .u64 0] 86):=⟨_,rfl⟩
 have kA:Kp Ab w w1:=by rw[hw1];exact ((Kr _ w).alloc _).alloc _
 have b6:w1.heap[w.heap.size]?=some (.cells #[.int .u8 0,.int .i64 0,.int .i64 0,.int .i64 0] 52 (0,0)):=by
  rw[hw1];exact ((Kr Ab _).alloc _).at_ (wN w _) (λ h=>h)
 have b7:w1.heap[w.heap.size+1]?=some (.cells #[.int .u8 0,.int .i64 0,.int .u64 0] 86 (0,0)):=by
  rw[hw1];have:=wN (w.alloc (.cells #[.int .u8 0,.int .i64 0,.int .i64 0,.int .i64 0] 52)) (.cells #[.int .u8 0,.int .i64 0,.int .u64 0] 86);rwa [World.size_alloc] at this
 have HH:=sE (hH w1 kA)
 have HF:=sE hF
 have HG:=sE hG
 have hb:decide ((n:Int)/2-(g:Int)<(sz:Int))=false:=dF (by omega)
 clear hH hF hG
 go_enter func132,ntmps132
 go_wp2_with fail
 rw[<- hw1]
 clear hw1
 refine HH.out.mono ?_
 rintro e w2 ⟨rfl,k2⟩
 have KW:=kA.then' k2
 have B6:=k2.at_ b6 (λ h=>h)
 have B7:=k2.at_ b7 (λ h=>h)
 have hl6:=lZ B6
 have hl7:=lZ B7
 have hn6:¬ w.heap.size=w2.heap.size:=by omega
 have hn7:¬ w.heap.size+1=w2.heap.size:=by omega
 obtain⟨d0,d1,d2,d3⟩:=Ay B6
 obtain⟨t0,t1,t2⟩:=cells3 B7
 have f0:=Ae B6
 have f00:=f0 0
 have f01:=f0 1
 have f02:=f0 2
 have f03:=f0 3
 have f1:=Ae B7
 have f10:=f1 0
 have f11:=f1 1
 have f12:=f1 2
 have HB6:=sE B6
 have HB7:=sE B7
 clear b6 b7 B6 B7 f0 f1 HH
 go_wp2_with fail
 refine(HF.out _ (KW.then' ((Kr Ab w2).alloc _))).mono ?_
 rintro e w3 ⟨rfl,k3⟩
 have b9:=wN w2 (.cells #[.int .u8 1,.int .i64 (ty:Nat),.int .i64 (ln:Nat),.int .i64 (sz:Nat)] 52)
 have k23:=((Kr Ab w2).alloc (.cells #[.int .u8 1,.int .i64 (ty:Nat),.int .i64 (ln:Nat),.int .i64 (sz:Nat)] 52)).then' k3
 replace KW:=KW.then' k23
 have B6:=k23.at_ HB6.out (λ h=>h)
 have B7:=k23.at_ HB7.out (λ h=>h)
 have B9:=k3.at_ b9 (λ h=>h)
 have hm6:=lZ B6
 have hm7:=lZ B7
 have hm9:=lZ B9
 have hp6:¬ w.heap.size=w3.heap.size:=by omega
 have hp7:¬ w.heap.size+1=w3.heap.size:=by omega
 have hp9:¬ w2.heap.size=w3.heap.size:=by omega
 clear d0 d1 d2 d3 t0 t1 t2 f00 f01 f02 f03 f10 f11 f12
 obtain⟨d0,d1,d2,d3⟩:=Ay B6
 obtain⟨t0,t1,t2⟩:=cells3 B7
 obtain⟨h0,h1,h2,h3⟩:=Ay B9
 have f0:=Ae B6
 have f00:=f0 0
 have f01:=f0 1
 have f02:=f0 2
 have f03:=f0 3
 have f1:=Ae B7
 have f10:=f1 0
 have f11:=f1 1
 have f12:=f1 2
 replace HB6:Sl _:=⟨B6⟩
 replace HB7:Sl _:=⟨B7⟩
 have HB9:=sE B9
 clear B6 B7 B9 f0 f1 HF b9
 go_wp2_with fail
 refine(HG.out _ KW).mono ?_
 rintro e w4 ⟨rfl,k4⟩
 replace KW:=KW.then' k4
 have B6:=k4.at_ HB6.out (λ h=>h)
 have B7:=k4.at_ HB7.out (λ h=>h)
 have B9:=k4.at_ HB9.out (λ h=>h)
 have ho6:=lZ B6
 have ho7:=lZ B7
 have ho9:=lZ B9
 have hr6:¬ w.heap.size=w4.heap.size:=by omega
 have hr7:¬ w.heap.size+1=w4.heap.size:=by omega
 have hr9:¬ w2.heap.size=w4.heap.size:=by omega
 clear d0 d1 d2 d3 t0 t1 t2 f00 f01 f02 f03 f10 f11 f12 h0 h1 h2 h3
 obtain⟨d0,d1,d2,d3⟩:=Ay B6
 obtain⟨t0,t1,t2⟩:=cells3 B7
 obtain⟨h0,h1,h2,h3⟩:=Ay B9
 have f0:=Ae B6
 have f00:=f0 0
 have f01:=f0 1
 have f02:=f0 2
 have f03:=f0 3
 have f1:=Ae B7
 have f10:=f1 0
 have f11:=f1 1
 have f12:=f1 2
 clear f0 f1 HG
 go_wp2_with fail
 obtain⟨w5,hw5⟩:∃ w5,w5=w4.alloc (.cells #[.int .u8 k,.int .i64 wds,.int .u64 (m:Nat)] 86):=⟨_,rfl⟩
 rw[<- hw5]
 have k5:Kp Ab w4 w5:=by rw[hw5];exact (Kr _ w4).alloc _
 have b11:w5.heap[w4.heap.size]?=some (.cells #[.int .u8 k,.int .i64 wds,.int .u64 (m:Nat)] 86 (0,0)):=by rw[hw5];exact wN w4 _
 replace KW:=KW.then' k5
 replace B6:=k5.at_ B6 (λ h=>h)
 replace B7:=k5.at_ B7 (λ h=>h)
 replace B9:=k5.at_ B9 (λ h=>h)
 clear d0 d1 d2 d3 t0 t1 t2 f00 f01 f02 f03 f10 f11 f12 h0 h1 h2 h3
 obtain⟨d0,d1,d2,d3⟩:=Ay B6
 obtain⟨t0,t1,t2⟩:=cells3 B7
 obtain⟨h0,h1,h2,h3⟩:=Ay B9
 obtain⟨y0,y1,y2⟩:=cells3 b11
 have f0:=Ae B6
 have f00:=f0 0
 have f01:=f0 1
 have f02:=f0 2
 have f03:=f0 3
 have f1:=Ae B7
 have f10:=f1 0
 have f11:=f1 1
 have f12:=f1 2
 have ne1:¬ w.heap.size=w2.heap.size:=by omega
 have ne2:¬ w.heap.size+1=w2.heap.size:=by omega
 have ne3:¬ w.heap.size=w4.heap.size:=by omega
 have ne4:¬ w.heap.size+1=w4.heap.size:=by omega
 have ne5:¬ w2.heap.size=w.heap.size:=by omega
 have ne6:¬ w2.heap.size=w.heap.size+1:=by omega
 have ne7:¬ w4.heap.size=w.heap.size:=by omega
 have ne8:¬ w4.heap.size=w.heap.size+1:=by omega
 replace HB6:Sl _:=⟨B6⟩
 replace HB7:Sl _:=⟨B7⟩
 clear B6 B7 B9 f0 f1 hw5 b11
 go_region
 go_wp2
 obtain⟨wy,hwy⟩:∃ wy,wy=(((w5.setCell ⟨w.heap.size,0,none⟩ (.int .u8 1)).setCell ⟨w.heap.size,1,none⟩ (.int .i64 (ty:Nat))).setCell ⟨w.heap.size,2,none⟩ (.int .i64 (ln:Nat))).setCell ⟨w.heap.size,3,none⟩ (.int .i64 (sz:Nat)):=⟨_,rfl⟩
 rw[<- hwy]
 obtain⟨ty6,ky⟩:=Bb HB6.out _ _ _ _ wy hwy
 have B7y:=ky.at_ HB7.out (λ h=>by have h':w.heap.size+1=w.heap.size:=h;omega)
 clear hwy
 obtain⟨wz,hwz⟩:∃ wz,wz=((wy.setCell ⟨w.heap.size+1,0,none⟩ (.int .u8 k)).setCell ⟨w.heap.size+1,1,none⟩ (.int .i64 wds)).setCell ⟨w.heap.size+1,2,none⟩ (.int .u64 (m:Nat)):=⟨_,rfl⟩
 rw[<- hwz]
 obtain⟨tz7,kz⟩:=Bh B7y _ _ _ wz hwz
 have B6z:=kz.at_ ty6 (λ h=>by have h':w.heap.size=w.heap.size+1:=h;omega)
 clear hwz
 have kx:Kp Ab wz wz.drew:=(Kr Ab wz).drew
 obtain⟨e0,e1,e2,e3⟩:=Ay (kx.at_ B6z (λ h=>h))
 obtain⟨e4,e5,e6⟩:=cells3 (kx.at_ tz7 (λ h=>h))
 have KF:=((KW.trans ky (λ i hi h=>by have h':i=w.heap.size:=h;omega)).trans kz (λ i hi h=>by have h':i=w.heap.size+1:=h;omega)).then' kx
 refine bodyPost_ret (v:=.tuple #[Al 1 (ty:Nat) (ln:Nat) (sz:Nat),AC k wds (m:Nat),.int .i64 0]) (by simp[results,results132,go_sem,e0,e1,e2,e3,e4,e5,e6,Al,AC]) rfl ⟨rfl,KF⟩

theorem fitsE_zero{ts:List TypR}{ty ln sz:Int}(h:CZ ts 1 ty ln sz=0):Am 1 ty ln sz=true/\AY ts ty ln=0/\Bq ts ty ln=sz:=by
 cases hk:Am 1 ty ln sz with
 |false=>rw [CZ,hk] at h;simp at h
 |true=>
  rw[fitsE_obj hk] at h
  by_cases h1:AY ts ty ln=0
  .rw [if_pos h1] at h
   by_cases h2:Bq ts ty ln=sz
   .exact ⟨rfl,h1,h2⟩
   .rw [if_neg h2] at h;omega
  .rw [if_neg h1] at h;omega

theorem En{ts:List TypR}{ty ln:Int}(h:AY ts ty ln=0):∃ k wds m,typeOf ts ty=some ⟨k,wds,m⟩:=by
 rw[AY] at h
 cases hx:typeOf ts ty with
 |none=>rw [hx] at h;simp at h
 |some x=>exact ⟨x.k,x.wds,x.m,rfl⟩

def DN(W:Nat->Nat)(n:Nat)(ts:List TypR)(g:Int)(w:World)(e:Ending)(w':World):Prop:=
 match Cb W n ts g with
 |some c=>DOfYes ts c w e w'
 |none=>DOfNo w e w'

theorem DOf_any(g:Int)(q n cap:Nat)(W:Nat->Nat)(lv:Value)(ts:List TypR)(w:World)(h:WRow w q n W)(hv:AO w lv ts)(hl:ts.length<=17592186044416)(hM:Cg ts):
  Calls prog 132 #[.slice (some ⟨q,0,none⟩) n cap,lv,.int .i64 g] w (DN W n ts g w):=by
 have hn:=h.small
 by_cases ho:g<0\/((n/2:Nat):Int)<=g
 .rw [show DN W n ts g w=DOfNo w by funext e w';rw [DN,Cb,if_neg (by omega)]]
  exact DOf_err g q n cap lv 2 w (by omega) (λ W' k=>DHead_out g q n cap W' hn ho)
 .obtain ⟨j,rfl⟩:=Int.eq_ofNat_of_zero_le (show 0<=g by omega)
  have hj:j<n/2:=by omega
  have hD:∀ W',Kp Ab w W'->Calls prog 148 #[.slice (some ⟨q,0,none⟩) n cap,.int .i64 (j:Nat)] W' (Fe (BO (W (2*j))) (CR (W (2*j))) (Ey (W (2*j))) (EO (W (2*j))) (DJ (W (2*j))) W'):=λ W' k=>DHead_in j q n cap W W' (h.Ad k) hj
  have hsz:DJ (W (2*j))<16777216:=by rw[DJ];omega
  have hO:Cb W n ts (j:Nat)=if BO (W (2*j))=true/\CR (W (2*j))=1/\CZ ts 1 (Ey (W (2*j)):Nat) (EO (W (2*j)):Nat) (DJ (W (2*j)):Nat)=0/\DJ (W (2*j))<=n/2-j then some ⟨j,1,Ey (W (2*j)),EO (W (2*j)),DJ (W (2*j))⟩ else none:=by
   rw[Cb]
   simp only[Int.toNat_natCast]
   by_cases hc:BO (W (2*j))=true/\CR (W (2*j))=1/\CZ ts 1 (Ey (W (2*j)):Nat) (EO (W (2*j)):Nat) (DJ (W (2*j)):Nat)=0/\DJ (W (2*j))<=n/2-j
   .rw [if_pos hc,if_pos ⟨by omega,by omega,hc⟩]
   .rw [if_neg hc,if_neg (λ hh=>hc hh.2.2)]
  rw[show DN W n ts (j:Nat) w=λ e w'=>DN W n ts (j:Nat) w e w' from rfl]
  simp only[DN,hO]
  generalize W (2*j)=X at hD hsz
  obtain⟨tg,htg⟩:∃ x,CR X=x:=⟨_,rfl⟩
  obtain⟨ty,hty⟩:∃ x,Ey X=x:=⟨_,rfl⟩
  obtain⟨ln,hln⟩:∃ x,EO X=x:=⟨_,rfl⟩
  obtain⟨sz,hsz'⟩:∃ x,DJ X=x:=⟨_,rfl⟩
  rw[htg,hty,hln,hsz'] at hD ⊢
  rw[hsz'] at hsz
  cases hok:BO X with
  |false=>
   simp only[Bool.false_eq_true,false_and,if_false]
   exact DOf_err (j:Nat) q n cap lv 7 w (by omega) (λ W' k=>(hD W' k).mono λ e w' hp=>by
    rw[Fe,hok] at hp
    exact hp)
  |true=>
   have hD1:∀ W',Kp Ab w W'->Calls prog 148 #[.slice (some ⟨q,0,none⟩) n cap,.int .i64 (j:Nat)] W' λ e w'=>e=.returned (.tuple #[.agg #[.int .u8 (tg:Nat),.int .i64 (ty:Nat),.int .i64 (ln:Nat),.int .i64 (sz:Nat)],.int .i64 0])/\Kp Ab W' w':=
    λ W' k=>(hD W' k).mono λ e w' hp=>by
     rw[Fe,hok] at hp
     exact hp
   simp only[true_and]
   by_cases ht:tg=1
   .subst ht
    simp only[true_and]
    have hF:∀ W',Kp Ab w W'->Calls prog 149 #[lv,.agg #[.int .u8 1,.int .i64 (ty:Nat),.int .i64 (ln:Nat),.int .i64 (sz:Nat)]] W' λ e w'=>e=.returned (.int .i64 (CZ ts 1 (ty:Nat) (ln:Nat) (sz:Nat)))/\Kp Ab W' w':=
     λ W' k=>DFits_any lv 1 (ty:Nat) (ln:Nat) (sz:Nat) ts W' (hv.Ad k) hl hM
    by_cases hf:CZ ts 1 (ty:Nat) (ln:Nat) (sz:Nat)=0
    .rw [hf] at hF
     by_cases hz:sz<=n/2-j
     .rw [if_pos ⟨hf,hz⟩]
      obtain⟨-,he,-⟩:=fitsE_zero hf
      obtain⟨k,wds,m,hx⟩:=En he
      exact(DOf_ok j q n cap lv ty ln sz k wds m w hz hsz hn hj hD1 hF (λ W' kk=>(DGet_any lv (ty:Nat) ts W' (hv.Ad kk) hl).mono λ e w' hp=>by
       rw[hx] at hp
       exact hp)).mono λ e w' hp=>⟨k,wds,m,hx,hp⟩
     .rw [if_neg (λ hh=>hz hh.2)]
      exact DOf_big j q n cap lv ty ln sz w (by omega) hsz hn hj hD1 hF
    .rw [if_neg (λ hh=>hf hh.1)]
     exact DOf_fit j q n cap lv ty ln sz _ w hf hsz hn hj hD1 hF
   .rw [if_neg (λ hh=>ht hh.1)]
    exact DOf_tag j q n cap lv tg ty ln sz w ht hsz hn hj hD1

def BB(k wds:Int)(M s:Nat):Bool:=
 if k=1 then M/2 ^ s%2==1 else if k=3 then M/2 ^ (s%wds.toNat)%2==1 else k==2

def AL(k wds:Int)(M j:Nat):List Nat:=(List.range j).filter λ s=>BB k wds M s

def Ba(k wds:Int)(M:Nat)(n:Int):List Nat:=AL k wds M (AR k wds n).toNat

theorem refsUpto_succ(k wds:Int)(M j:Nat):AL k wds M (j+1)=AL k wds M j++(if BB k wds M j then [j] else []):=by
 unfold AL
 rw[List.range_succ,List.filter_append]
 congr 1
 by_cases h:BB k wds M j <;> simp[h]

theorem refsUpto_len(k wds:Int)(M j:Nat):(AL k wds M j).length<=j:=by
 have:=List.length_filter_le (λ s=>BB k wds M s) (List.range j)
 simpa [AL] using this

theorem refsUpto_mem{k wds:Int}{M j s:Nat}(h:s∈AL k wds M j):s<j:=by
 have:=(List.mem_filter.1 h).1
 simpa using this

theorem DIs_any(k wds:Int)(M s:Nat)(w:World)(hs:s<65536)(h1:k=1->s<64)(h3:k=3->1<=wds/\wds<=16):
  Calls prog 172 #[.agg #[.int .u8 k,.int .i64 wds,.int .u64 (M:Nat)],.int .i64 (s:Nat)] w λ e w'=>e=.returned (.bool (BB k wds M s))/\Kp Ab w w':=by
 obtain⟨w1,hw1⟩:∃ w1,w1=w.alloc (.cells #[.int .u8 k,.int .i64 wds,.int .u64 (M:Nat)] 86):=⟨_,rfl⟩
 have k1:Kp Ab w w1:=by rw[hw1];exact (Kr _ w).alloc _
 have b1:w1.heap[w.heap.size]?=some (.cells #[.int .u8 k,.int .i64 wds,.int .u64 (M:Nat)] 86 (0,0)):=by rw[hw1];exact wN w _
 have hsz:w.heap.size<w1.heap.size:=lZ b1
 obtain⟨c0,c1,c2⟩:=cells3 b1
 clear b1
 by_cases e1:k=1
 .subst e1
  have hlt:=h1 rfl
  by_cases hb:M/2 ^ s%2=0
  .have HZ:Sl (BB 1 wds M s=false):=⟨by unfold BB;rw [if_pos rfl,hb];rfl⟩
   have t1:=mod_ne hb
   clear hb h1 h3
   go_enter func172,ntmps172
   go_wp2_with fail
   try rw[<- hw1]
   clear hw1
   go_wp2
   go_ret
   exact⟨by rw[HZ.out];rfl,k1⟩
  .have HZ:Sl (BB 1 wds M s=true):=⟨by unfold BB;rw [if_pos rfl,show M/2 ^ s%2=1 by omega];rfl⟩
   have t1:=mod_eq hb
   clear hb h1 h3
   go_enter func172,ntmps172
   go_wp2_with fail
   try rw[<- hw1]
   clear hw1
   go_wp2
   go_ret
   exact⟨by rw[HZ.out];rfl,k1⟩
 .have b1':(k==1)=false:=by simpa using e1
  by_cases e3:k=3
  .subst e3
   obtain⟨a1,a2⟩:=h3 rfl
   obtain⟨V,rfl⟩:=Int.eq_ofNat_of_zero_le (show 0<=wds by omega)
   have hm:((s:Nat):Int).tmod ((V:Nat):Int)=((s%V:Nat):Int):=by
    rw[Int.tmod_eq_emod_of_nonneg (by omega)]
    push_cast;rfl
   have hV:s%V<16:=Nat.lt_of_lt_of_le (Nat.mod_lt _ (by omega)) (by omega)
   obtain⟨r,hr⟩:∃ r,s%V=r:=⟨_,rfl⟩
   have HR:=sE hr
   rw[hr] at hm hV
   have hv0:¬ ((V:Nat):Int)=0:=by omega
   have hv1:(((V:Nat):Int)==0)=false:=by simp;omega
   by_cases hb:M/2 ^ r%2=0
   .have HZ:Sl (BB 3 (V:Nat) M s=false):=⟨by unfold BB;rw [if_neg (by omega),if_pos rfl,Int.toNat_natCast,HR.out,hb];rfl⟩
    have t1:=mod_ne hb
    clear hb h1 h3 hr
    go_enter func172,ntmps172
    go_wp2_with fail
    try rw[<- hw1]
    clear hw1
    go_wp2_with fail
    go_quiet (fail)
    go_wp2
    go_ret
    exact⟨by rw[HZ.out];rfl,k1.drewN _⟩
   .have HZ:Sl (BB 3 (V:Nat) M s=true):=⟨by unfold BB;rw [if_neg (by omega),if_pos rfl,Int.toNat_natCast,HR.out,show M/2 ^ r%2=1 by omega];rfl⟩
    have t1:=mod_eq hb
    clear hb h1 h3 hr
    go_enter func172,ntmps172
    go_wp2_with fail
    try rw[<- hw1]
    clear hw1
    go_wp2_with fail
    go_quiet (fail)
    go_wp2
    go_ret
    exact⟨by rw[HZ.out];rfl,k1.drewN _⟩
  .have b3':(k==3)=false:=by simpa using e3
   have HZ:Sl (BB k wds M s=(k==2)):=⟨by unfold BB;rw [if_neg e1,if_neg e3]⟩
   clear h1 h3
   go_enter func172,ntmps172
   go_wp2_with fail
   try rw[<- hw1]
   clear hw1
   go_wp2
   go_ret
   exact⟨by rw[HZ.out];rfl,k1⟩

theorem Bp{w:World}{base base':Nat}{e:TypeId}{size:Nat}{v:Value}{n:Nat}{xs:List Value}(h:w.ownsRow base e size v n xs)(hb:base'<=base):w.ownsRow base' e size v n xs:=by
 obtain⟨h1,h2⟩:=h
 refine⟨h1,?_⟩
 rcases h2 with h2|⟨g,cap,cur,a,b,c⟩
 .exact .inl h2
 .exact .inr ⟨g,cap,cur,a,by omega,c⟩

def Fy(k wds:Int)(M:Nat)(n:Int)(w:World)(e:Ending)(w':World):Prop:=
 ∃ v,e=.returned (.tuple #[v,.int .i64 0])/\w'.ownsRow w.heap.size 3 1 v (Ba k wds M n).length (AB (Ba k wds M n))/\Kp Ab w w'

theorem DRefs_any(k wds:Int)(M:Nat)(n:Int)(w:World)(hM:M<18446744073709551616)(hE:AV k wds M n=0):
  Calls prog 135 #[.agg #[.int .u8 k,.int .i64 wds,.int .u64 (M:Nat)],.int .i64 n] w (Fy k wds M n w):=by
 obtain⟨K,hK⟩:∃ K:Nat,AR k wds n=(K:Nat):=Int.eq_ofNat_of_zero_le (Bi hE).1
 have hK2:K<=65536:=by have:=(Bi hE).2;omega
 obtain⟨z1,z2,z3,z4,z5⟩:=Ef hE
 have h1:k=1->K<=64:=λ e=>by
  rw[AR,if_pos e] at hK
  omega
 have h3:k=3->1<=wds/\wds<=16:=λ e=>by omega
 obtain⟨w1,hw1⟩:∃ w1,w1=w.alloc (.cells #[.int .u8 k,.int .i64 wds,.int .u64 (M:Nat)] 86):=⟨_,rfl⟩
 have k1:Kp Ab w w1:=by rw[hw1];exact (Kr _ w).alloc _
 have b1:w1.heap[w.heap.size]?=some (.cells #[.int .u8 k,.int .i64 wds,.int .u64 (M:Nat)] 86 (0,0)):=by rw[hw1];exact wN w _
 have hsz:w.heap.size<w1.heap.size:=lZ b1
 have HB1:=sE b1
 have hS:=DSlots_any k wds M n w1 hM
 unfold ES at hS
 rw[hE,if_pos rfl,hK] at hS
 have HS:=sE hS
 have HIs:Sl (∀ (s:Nat) W',s<K->Calls prog 172 #[.agg #[.int .u8 k,.int .i64 wds,.int .u64 (M:Nat)],.int .i64 (s:Nat)] W' λ e w'=>e=.returned (.bool (BB k wds M s))/\Kp Ab W' w'):=
  ⟨λ s W' hs=>DIs_any k wds M s W' (by omega) (λ e=>by have:=h1 e;omega) h3⟩
 have HR:Sl (Ba k wds M n=AL k wds M K):=⟨by unfold Ba;rw [hK,Int.toNat_natCast]⟩
 clear hS b1 hK hE z1 z2 z3 z4 z5 h1 h3
 go_enter func135,ntmps135
 go_wp2_with fail
 try rw[<- hw1]
 clear hw1
 obtain⟨a0,a1,a2⟩:=cells3 HB1.out
 go_wp2_with fail
 refine HS.out.mono ?_
 rintro e w2 ⟨rfl,k2⟩
 have HB2:=sE (k2.at_ HB1.out (λ h=>h))
 have K2:Kp Ab w w2:=k1.then' k2
 have hs2:=k2.size
 clear a0 a1 a2 k2 k1
 go_wp2_with fail
 go_loopw [8,9] (λ v y wr=>∃ j:Nat,j<=K/\y=.int .i64 (j:Nat)/\wr.ownsRow w2.heap.size 3 1 v (AL k wds M j).length (AB (AL k wds M j))/\Kp Ab w2 wr) (λ _ y _=>K-(intOf y).toNat)
 case atStart=>exact ⟨0,Nat.zero_le _,rfl,World.ownsRow_nil _ _ _ _,Kr _ _⟩
 case round=>
  obtain⟨j,hj,rfl,hown,hk⟩:=hrel
  by_cases hjl:j<K
  .have hjl':(j:Int)<(K:Int):=by omega
   have HB3:=hk.at_ HB2.out (λ h=>h)
   obtain⟨a0,a1,a2⟩:=cells3 HB3
   have hwr:=lZ HB3
   have hlen:=refsUpto_len k wds M j
   have hsz1:=hk.size
   have HK:=sE hk
   have HO:=sE hown
   have HSu:=sE (refsUpto_succ k wds M j)
   clear HB3 hk hown
   go_wp2_with fail
   refine(HIs.out j _ hjl).mono ?_
   rintro e w4 ⟨rfl,k4⟩
   have K4:=HK.out.then' k4
   have O4:w4.ownsRow w2.heap.size 3 1 u8 (AL k wds M j).length (AB (AL k wds M j)):=k4.owns HO.out (λ _ _ h=>h)
   have hs4:=k4.size
   cases hb:BB k wds M j with
   |false=>
    have HE:Sl (AL k wds M (j+1)=AL k wds M j):=⟨by rw[HSu.out,hb];simp⟩
    have HO4:=sE O4
    have HK4:=sE K4
    clear hb a0 a1 a2 k4 O4 K4
    go_wp2
    exact⟨⟨j+1,by omega,by go_num,by rw[HE.out];exact HO4.out,HK4.out⟩,by simp only[intOf];omega⟩
   |true=>
    have HE:Sl (AL k wds M (j+1)=AL k wds M j++[j]):=⟨by rw[HSu.out,hb];simp⟩
    have HO4:=sE O4
    have HK4:=sE K4
    clear hb a0 a1 a2 k4 O4 K4
    go_wp2_with (at_builtin;obtain ⟨i0,hi,hz0,hz1,hz2⟩:=info_parts Cv;go_loud (refine wpList_append_lies _ rfl (.tmp 27) (.tmp 29) 82 rfl w2.heap.size 3 i0 _ 1 8 AP hi hz0 hz1 hz2 rfl (by omega) u8 (AL k wds M j).length (AB (AL k wds M j)) rfl (HO4.out.alloc _) ⟨w4.heap.size,0,none⟩ 1 1 [.int .i64 (j:Nat)] rfl rfl (World.news_of_block (wN w4 _)) (by intro u hu;simp at hu;subst hu;rfl) (by omega) (by unfold maxLen;omega) (by omega) (by simp;omega) (w4.heap.size+1) (by simp) ?_);intro g cap w5 hown5 hgrow hat hlt;clear hi hz0 hz1 hz2)
    have k5:Kp Ab w2 w5:=(HK4.out.alloc _).grown hgrow (λ k e hl=>absurd (HO4.out.lt k e).1 (by omega))
    have h5:w5.ownsRow w2.heap.size 3 1 (.slice (some ⟨g,0,none⟩) ((AL k wds M j).length+1) cap) (AL k wds M (j+1)).length (AB (AL k wds M (j+1))):=by
     rw[HE.out,AB,List.map_append,List.length_append];exact hown5
    clear hown5 hgrow hat
    go_wp2
    exact⟨⟨j+1,by omega,by go_num,h5,k5⟩,by simp only[intOf];omega⟩
  .have hjl':¬ (j:Int)<(K:Int):=by omega
   have HE:Sl (Ba k wds M n=AL k wds M j):=⟨by rw[HR.out,show j=K by omega]⟩
   go_wp2
   exact bodyPost_ret (v:=.tuple #[u8,.int .i64 0]) (by simp[results,results135,go_sem]) rfl ⟨u8,rfl,by rw[HE.out];exact Bp hown (by omega),K2.then' hk⟩

end

end Go.Proofs.YtmfajopmppfldaaGreatDoor
