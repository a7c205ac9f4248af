/-
  Lemmas for the laws, together: HeadA.
-/
import Derived.Test.YtmfajopmppfldaaGreatDoorQaa
import Derived.Test.YtmfajopmppfldaaGreatDoorQac
import Derived.BigQuiet
set_option linter.unusedVariables false
set_option maxHeartbeats 16000000
namespace Go.Proofs.YtmfajopmppfldaaGreatDoor
open Tryz
section

structure Cel where
 g:Nat
 tag:Nat
 ty:Nat
 ln:Nat
 sz:Nat
 deriving DecidableEq

def Am(tag ty ln sz:Int):Bool:=
 decide (1<=sz/\sz<=16777215/\0<=ln/\ln<=16777215/\((tag=1/\1<=ty/\ty<=4095)\/((tag=2\/tag=3)/\ty=0/\ln=0)))

def Bo(tag ty ln sz:Nat):Nat:=tag+ty*4+ln*65536+sz*1099511627776

theorem encH_lt{tag ty ln sz:Nat}(h:Am tag ty ln sz=true):Bo tag ty ln sz<18446744073709551616:=by
 simp only[Am,decide_eq_true_eq] at h
 unfold Bo
 omega

theorem encH_tag{tag ty ln sz:Nat}(h:Am tag ty ln sz=true):Bo tag ty ln sz%4=tag:=by
 simp only[Am,decide_eq_true_eq] at h
 unfold Bo
 omega

theorem encH_ty{tag ty ln sz:Nat}(h:Am tag ty ln sz=true):Bo tag ty ln sz/4%4096=ty:=by
 simp only[Am,decide_eq_true_eq] at h
 unfold Bo
 omega

theorem encH_gap{tag ty ln sz:Nat}(h:Am tag ty ln sz=true):Bo tag ty ln sz/16384%4=0:=by
 simp only[Am,decide_eq_true_eq] at h
 unfold Bo
 omega

theorem encH_ln{tag ty ln sz:Nat}(h:Am tag ty ln sz=true):Bo tag ty ln sz/65536%16777216=ln:=by
 simp only[Am,decide_eq_true_eq] at h
 unfold Bo
 omega

theorem encH_sz{tag ty ln sz:Nat}(h:Am tag ty ln sz=true):Bo tag ty ln sz/1099511627776%16777216=sz:=by
 simp only[Am,decide_eq_true_eq] at h
 unfold Bo
 omega

theorem encH_or{tag ty ln sz:Nat}(h:Am tag ty ln sz=true):((0 ||| tag) ||| (ty*4)) ||| (ln*65536) ||| (sz*1099511627776)=Bo tag ty ln sz:=by
 simp only[Am,decide_eq_true_eq] at h
 have t0:(0 ||| tag)=tag:=by simp
 have t1:tag ||| ty*4=tag+ty*4:=by
  have:=Nat.two_pow_add_eq_or_of_lt (i:=2) (b:=tag) (by omega) ty
  rw[show (2:Nat) ^ 2=4 from rfl] at this
  rw[Nat.or_comm,Nat.mul_comm ty 4]
  omega
 have t2:(tag+ty*4) ||| ln*65536=tag+ty*4+ln*65536:=by
  have:=Nat.two_pow_add_eq_or_of_lt (i:=16) (b:=tag+ty*4) (by omega) ln
  rw[show (2:Nat) ^ 16=65536 from rfl] at this
  rw[Nat.or_comm,Nat.mul_comm ln 65536]
  omega
 have t3:(tag+ty*4+ln*65536) ||| sz*1099511627776=tag+ty*4+ln*65536+sz*1099511627776:=by
  have:=Nat.two_pow_add_eq_or_of_lt (i:=40) (b:=tag+ty*4+ln*65536) (by omega) sz
  rw[show (2:Nat) ^ 40=1099511627776 from rfl] at this
  rw[Nat.or_comm,Nat.mul_comm sz 1099511627776]
  omega
 rw[t0,t1,t2,t3]
 rfl

def Au:Nat->List Cel->Nat->Prop
 |a,[],b=>a=b
 |a,c::cs,b=>c.g=a/\0<c.sz/\Au (a+c.sz) cs b

theorem Au.append{a b d:Nat}:∀ {xs ys:List Cel} {a:Nat},Au a xs b->Au b ys d->Au a (xs++ys) d
 |[],ys,a,h,k=>by rw[show a=b from h];exact k
 |c::xs,ys,a,⟨h1,h2,h3⟩,k=>⟨h1,h2,Au.append (a:=a) h3 k⟩

theorem Au.split:∀ {xs ys:List Cel} {a d:Nat},Au a (xs++ys) d->∃ b,Au a xs b/\Au b ys d
 |[],ys,a,d,h=>⟨a,rfl,h⟩
 |c::xs,ys,a,d,⟨h1,h2,h3⟩=>by
  obtain⟨b,k1,k2⟩:=Au.split h3
  exact⟨b,⟨h1,h2,k1⟩,k2⟩

theorem Au.le:∀ {xs:List Cel} {a b:Nat},Au a xs b->a<=b
 |[],a,b,h=>Nat.le_of_eq h
 |c::xs,a,b,⟨h1,h2,h3⟩=>by have:=Au.le h3;omega

theorem Au.mem:∀ {xs:List Cel} {a b:Nat} {c:Cel},Au a xs b->c∈xs->a<=c.g/\c.g+c.sz<=b/\0<c.sz
 |d::xs,a,b,c,⟨h1,h2,h3⟩,hc=>by
  have h4:=Au.le h3
  rcases List.mem_cons.1 hc with rfl|hc
  .omega
  .have:=Au.mem h3 hc;omega

theorem Au.at_:∀ {xs:List Cel} {a b g:Nat},Au a xs b->a<=g->g<b->∃ pre c post,xs=pre++c::post/\c.g<=g/\g<c.g+c.sz
 |[],a,b,g,h,h1,h2=>by have:a=b:=h;omega
 |d::xs,a,b,g,⟨h1,h2,h3⟩,k1,k2=>by
  by_cases e:g<a+d.sz
  .exact ⟨[],d,xs,rfl,by omega,by omega⟩
  .obtain ⟨pre,c,post,rfl,u,v⟩:=Au.at_ h3 (by omega) k2
   exact⟨d::pre,c,post,rfl,u,v⟩

def gapL(g n:Nat):List Cel:=if n=0 then [] else [⟨g,if n=1 then 2 else 3,0,0,n⟩]

theorem Ee(g n:Nat):Au g (gapL g n) (g+n):=by
 rw[gapL]
 by_cases h:n=0
 .subst h;exact rfl
 .rw [if_neg h];exact ⟨rfl,by show 0<n;omega,rfl⟩

def Cel.fin(c:Cel):Nat:=c.g+c.sz

def HeadsAt(W:Nat->Nat)(cs:List Cel):Prop:=∀ c∈cs,W (2*c.g)=Bo c.tag c.ty c.ln c.sz

open Go.RowKit

def fieldsL:List Int:=[0,2,2,12,14,2,16,24,40,24]

def Av(w:World):Prop:=0<w.heap.size/\∀ j,j<10->w.cell? ⟨0,j,none⟩=some (.int .i64 (fieldsL.getD j 0))

theorem Av.keep{S:Nat->Prop}{w w':World}(h:Av w)(k:Kp S w w')(hs:¬ S 0):Av w':=
 ⟨Nat.lt_of_lt_of_le h.1 k.size,λ j hj=>k.cell (h.2 j hj) hs⟩

theorem Av.Ad{w w':World}(h:Av w)(k:Kp Ab w w'):Av w':=h.keep k (λ h=>h)

theorem Av.all{w:World}(h:Av w):w.cell? ⟨0,0,none⟩=some (.int .i64 0)/\w.cell? ⟨0,1,none⟩=some (.int .i64 2)/\w.cell? ⟨0,2,none⟩=some (.int .i64 2)/\w.cell? ⟨0,3,none⟩=some (.int .i64 12)/\
  w.cell? ⟨0,4,none⟩=some (.int .i64 14)/\w.cell? ⟨0,5,none⟩=some (.int .i64 2)/\w.cell? ⟨0,6,none⟩=some (.int .i64 16)/\w.cell? ⟨0,7,none⟩=some (.int .i64 24)/\w.cell? ⟨0,8,none⟩=some (.int .i64 40)/\w.cell? ⟨0,9,none⟩=some (.int .i64 24):=
 ⟨h.2 0 (by omega),h.2 1 (by omega),h.2 2 (by omega),h.2 3 (by omega),h.2 4 (by omega),h.2 5 (by omega),h.2 6 (by omega),h.2 7 (by omega),h.2 8 (by omega),h.2 9 (by omega)⟩

theorem most_1(w:World)(h:Av w):Calls prog 142 #[.int .i64 1] w λ e w'=>e=.returned (.int .i64 4095)/\w'=w:=by
 obtain⟨c0,c1,c2,c3,c4,c5,c6,c7,c8,c9⟩:=h.all
 clear h
 go_enter func142,ntmps142
 go_wp2
 go_ret
 exact⟨rfl,rfl⟩

theorem Eh(w:World)(h:Av w):Calls prog 142 #[.int .i64 3] w λ e w'=>e=.returned (.int .i64 16777215)/\w'=w:=by
 obtain⟨c0,c1,c2,c3,c4,c5,c6,c7,c8,c9⟩:=h.all
 clear h
 go_enter func142,ntmps142
 go_wp2
 go_ret
 exact⟨rfl,rfl⟩

theorem Ei(w:World)(h:Av w):Calls prog 142 #[.int .i64 4] w λ e w'=>e=.returned (.int .i64 16777215)/\w'=w:=by
 obtain⟨c0,c1,c2,c3,c4,c5,c6,c7,c8,c9⟩:=h.all
 clear h
 go_enter func142,ntmps142
 go_wp2
 go_ret
 exact⟨rfl,rfl⟩

def Al(tag ty ln sz:Int):Value:=.agg #[.int .u8 tag,.int .i64 ty,.int .i64 ln,.int .i64 sz]

theorem Check_small(tag ty ln sz:Int)(w:World)(hF:Av w)(h:sz<1):
  Calls prog 101 #[Al tag ty ln sz] w λ e w'=>e=.returned (.int .i64 2)/\Kp Ab w w':=by
 have hd0:decide (sz<1)=true:=dT (by omega)
 have b0:=wN w (.cells #[.int .u8 tag,.int .i64 ty,.int .i64 ln,.int .i64 sz] 52)
 have kA:=(Kr Ab w).alloc (.cells #[.int .u8 tag,.int .i64 ty,.int .i64 ln,.int .i64 sz] 52)
 unfold Al
 go_enter func101,ntmps101
 go_wp2_with fail
 obtain⟨w1,hw1⟩:∃ w1,w1=w.alloc (.cells #[.int .u8 tag,.int .i64 ty,.int .i64 ln,.int .i64 sz] 52):=⟨_,rfl⟩
 rw[<- hw1] at b0 kA ⊢
 have hF1:=hF.Ad kA
 have c0:w1.cell? ⟨w.heap.size,0,none⟩=some (.int .u8 tag):=by simp[World.cell?,b0]
 have c1:w1.cell? ⟨w.heap.size,1,none⟩=some (.int .i64 ty):=by simp[World.cell?,b0]
 have c2:w1.cell? ⟨w.heap.size,2,none⟩=some (.int .i64 ln):=by simp[World.cell?,b0]
 have c3:w1.cell? ⟨w.heap.size,3,none⟩=some (.int .i64 sz):=by simp[World.cell?,b0]
 have HB:=sE hF1
 clear hw1 b0 hF1
 go_wp2_with fail
 go_quiet (fail)
 go_wp2
 go_ret
 exact⟨rfl,kA.drewN _⟩

theorem Check_big(tag ty ln sz:Int)(w:World)(hF:Av w)(h1:1<=sz)(h2:16777215<sz):
  Calls prog 101 #[Al tag ty ln sz] w λ e w'=>e=.returned (.int .i64 2)/\Kp Ab w w':=by
 have hd0:decide (sz<1)=false:=dF (by omega)
 have hd1:decide (16777215<sz)=true:=dT (by omega)
 have b0:=wN w (.cells #[.int .u8 tag,.int .i64 ty,.int .i64 ln,.int .i64 sz] 52)
 have kA:=(Kr Ab w).alloc (.cells #[.int .u8 tag,.int .i64 ty,.int .i64 ln,.int .i64 sz] 52)
 unfold Al
 go_enter func101,ntmps101
 go_wp2_with fail
 obtain⟨w1,hw1⟩:∃ w1,w1=w.alloc (.cells #[.int .u8 tag,.int .i64 ty,.int .i64 ln,.int .i64 sz] 52):=⟨_,rfl⟩
 rw[<- hw1] at b0 kA ⊢
 have hF1:=hF.Ad kA
 have c0:w1.cell? ⟨w.heap.size,0,none⟩=some (.int .u8 tag):=by simp[World.cell?,b0]
 have c1:w1.cell? ⟨w.heap.size,1,none⟩=some (.int .i64 ty):=by simp[World.cell?,b0]
 have c2:w1.cell? ⟨w.heap.size,2,none⟩=some (.int .i64 ln):=by simp[World.cell?,b0]
 have c3:w1.cell? ⟨w.heap.size,3,none⟩=some (.int .i64 sz):=by simp[World.cell?,b0]
 have HB:=sE hF1
 clear hw1 b0 hF1
 go_wp2_with fail
 go_quiet (first|(go_at_call 142;with_reducible refine Calls.quiet_of_same (Ei _ ?_);(first|exact HB.out|exact HB.out.Ad (Kr Ab _).drew|exact HB.out.Ad (Kp.Aj _)|exact HB.out.Ad ((Kp.Aj _).drewN _)))|(go_at_call 142;with_reducible refine Calls.quiet_of_same (Eh _ ?_);(first|exact HB.out|exact HB.out.Ad (Kr Ab _).drew|exact HB.out.Ad (Kp.Aj _)|exact HB.out.Ad ((Kp.Aj _).drewN _))))
 go_wp2
 go_ret
 exact⟨rfl,kA.drewN _⟩

theorem Check_low(tag ty ln sz:Int)(w:World)(hF:Av w)(h1:1<=sz)(h2:sz<=16777215)(h3:ln<0):
  Calls prog 101 #[Al tag ty ln sz] w λ e w'=>e=.returned (.int .i64 2)/\Kp Ab w w':=by
 have hd0:decide (sz<1)=false:=dF (by omega)
 have hd1:decide (16777215<sz)=false:=dF (by omega)
 have hd2:decide (ln<0)=true:=dT (by omega)
 have b0:=wN w (.cells #[.int .u8 tag,.int .i64 ty,.int .i64 ln,.int .i64 sz] 52)
 have kA:=(Kr Ab w).alloc (.cells #[.int .u8 tag,.int .i64 ty,.int .i64 ln,.int .i64 sz] 52)
 unfold Al
 go_enter func101,ntmps101
 go_wp2_with fail
 obtain⟨w1,hw1⟩:∃ w1,w1=w.alloc (.cells #[.int .u8 tag,.int .i64 ty,.int .i64 ln,.int .i64 sz] 52):=⟨_,rfl⟩
 rw[<- hw1] at b0 kA ⊢
 have hF1:=hF.Ad kA
 have c0:w1.cell? ⟨w.heap.size,0,none⟩=some (.int .u8 tag):=by simp[World.cell?,b0]
 have c1:w1.cell? ⟨w.heap.size,1,none⟩=some (.int .i64 ty):=by simp[World.cell?,b0]
 have c2:w1.cell? ⟨w.heap.size,2,none⟩=some (.int .i64 ln):=by simp[World.cell?,b0]
 have c3:w1.cell? ⟨w.heap.size,3,none⟩=some (.int .i64 sz):=by simp[World.cell?,b0]
 have HB:=sE hF1
 clear hw1 b0 hF1
 go_wp2_with fail
 go_quiet (first|(go_at_call 142;with_reducible refine Calls.quiet_of_same (Ei _ ?_);(first|exact HB.out|exact HB.out.Ad (Kr Ab _).drew|exact HB.out.Ad (Kp.Aj _)|exact HB.out.Ad ((Kp.Aj _).drewN _)))|(go_at_call 142;with_reducible refine Calls.quiet_of_same (Eh _ ?_);(first|exact HB.out|exact HB.out.Ad (Kr Ab _).drew|exact HB.out.Ad (Kp.Aj _)|exact HB.out.Ad ((Kp.Aj _).drewN _))))
 go_wp2
 go_ret
 exact⟨rfl,kA.drewN _⟩

theorem Check_long(tag ty ln sz:Int)(w:World)(hF:Av w)(h1:1<=sz)(h2:sz<=16777215)(h3:0<=ln)(h4:16777215<ln):
  Calls prog 101 #[Al tag ty ln sz] w λ e w'=>e=.returned (.int .i64 2)/\Kp Ab w w':=by
 have hd0:decide (sz<1)=false:=dF (by omega)
 have hd1:decide (16777215<sz)=false:=dF (by omega)
 have hd2:decide (ln<0)=false:=dF (by omega)
 have hd3:decide (16777215<ln)=true:=dT (by omega)
 have b0:=wN w (.cells #[.int .u8 tag,.int .i64 ty,.int .i64 ln,.int .i64 sz] 52)
 have kA:=(Kr Ab w).alloc (.cells #[.int .u8 tag,.int .i64 ty,.int .i64 ln,.int .i64 sz] 52)
 unfold Al
 go_enter func101,ntmps101
 go_wp2_with fail
 obtain⟨w1,hw1⟩:∃ w1,w1=w.alloc (.cells #[.int .u8 tag,.int .i64 ty,.int .i64 ln,.int .i64 sz] 52):=⟨_,rfl⟩
 rw[<- hw1] at b0 kA ⊢
 have hF1:=hF.Ad kA
 have c0:w1.cell? ⟨w.heap.size,0,none⟩=some (.int .u8 tag):=by simp[World.cell?,b0]
 have c1:w1.cell? ⟨w.heap.size,1,none⟩=some (.int .i64 ty):=by simp[World.cell?,b0]
 have c2:w1.cell? ⟨w.heap.size,2,none⟩=some (.int .i64 ln):=by simp[World.cell?,b0]
 have c3:w1.cell? ⟨w.heap.size,3,none⟩=some (.int .i64 sz):=by simp[World.cell?,b0]
 have HB:=sE hF1
 clear hw1 b0 hF1
 go_wp2_with fail
 go_quiet (first|(go_at_call 142;with_reducible refine Calls.quiet_of_same (Ei _ ?_);(first|exact HB.out|exact HB.out.Ad (Kr Ab _).drew|exact HB.out.Ad (Kp.Aj _)|exact HB.out.Ad ((Kp.Aj _).drewN _)))|(go_at_call 142;with_reducible refine Calls.quiet_of_same (Eh _ ?_);(first|exact HB.out|exact HB.out.Ad (Kr Ab _).drew|exact HB.out.Ad (Kp.Aj _)|exact HB.out.Ad ((Kp.Aj _).drewN _))))
 go_wp2
 go_ret
 exact⟨rfl,kA.drewN _⟩

theorem Check_obj(tag ty ln sz:Int)(w:World)(hF:Av w)(h1:1<=sz)(h2:sz<=16777215)(h3:0<=ln)(h4:ln<=16777215)(h5:tag=1)(h6:1<=ty)(h7:ty<=4095):
  Calls prog 101 #[Al tag ty ln sz] w λ e w'=>e=.returned (.int .i64 0)/\Kp Ab w w':=by
 subst h5
 have hd0:decide (sz<1)=false:=dF (by omega)
 have hd1:decide (16777215<sz)=false:=dF (by omega)
 have hd2:decide (ln<0)=false:=dF (by omega)
 have hd3:decide (16777215<ln)=false:=dF (by omega)
 have hd4:decide (1<=ty)=true:=dT (by omega)
 have hd5:decide (ty<=4095)=true:=dT (by omega)
 have b0:=wN w (.cells #[.int .u8 1,.int .i64 ty,.int .i64 ln,.int .i64 sz] 52)
 have kA:=(Kr Ab w).alloc (.cells #[.int .u8 1,.int .i64 ty,.int .i64 ln,.int .i64 sz] 52)
 unfold Al
 go_enter func101,ntmps101
 go_wp2_with fail
 obtain⟨w1,hw1⟩:∃ w1,w1=w.alloc (.cells #[.int .u8 1,.int .i64 ty,.int .i64 ln,.int .i64 sz] 52):=⟨_,rfl⟩
 rw[<- hw1] at b0 kA ⊢
 have hF1:=hF.Ad kA
 have c0:w1.cell? ⟨w.heap.size,0,none⟩=some (.int .u8 1):=by simp[World.cell?,b0]
 have c1:w1.cell? ⟨w.heap.size,1,none⟩=some (.int .i64 ty):=by simp[World.cell?,b0]
 have c2:w1.cell? ⟨w.heap.size,2,none⟩=some (.int .i64 ln):=by simp[World.cell?,b0]
 have c3:w1.cell? ⟨w.heap.size,3,none⟩=some (.int .i64 sz):=by simp[World.cell?,b0]
 have HB:=sE hF1
 clear hw1 b0 hF1
 go_wp2_with fail
 go_quiet (first|(go_at_call 142;with_reducible refine Calls.quiet_of_same (Ei _ ?_);(first|exact HB.out|exact HB.out.Ad (Kr Ab _).drew|exact HB.out.Ad (Kp.Aj _)|exact HB.out.Ad ((Kp.Aj _).drewN _)))|(go_at_call 142;with_reducible refine Calls.quiet_of_same (Eh _ ?_);(first|exact HB.out|exact HB.out.Ad (Kr Ab _).drew|exact HB.out.Ad (Kp.Aj _)|exact HB.out.Ad ((Kp.Aj _).drewN _))))
 obtain⟨w2,hw2⟩:∃ w2,w2=w1.drewN nq:=⟨_,rfl⟩
 rw[<- hw2]
 have kD:Kp Ab w1 w2:=by rw[hw2];exact Kp.Aj _
 have kB:Kp Ab w w2:=kA.trans kD (λ _ _ h=>h)
 replace c0:=kD.cell c0 (λ h=>h)
 replace c1:=kD.cell c1 (λ h=>h)
 replace c2:=kD.cell c2 (λ h=>h)
 replace c3:=kD.cell c3 (λ h=>h)
 replace HB:Sl _:=⟨HB.out.Ad kD⟩
 clear hw2
 go_wp2_with fail
 go_quiet ((go_at_call 142;with_reducible refine Calls.quiet_of_same (most_1 _ ?_);(first|exact HB.out|exact HB.out.Ad (Kr Ab _).drew|exact HB.out.Ad (Kp.Aj _)|exact HB.out.Ad ((Kp.Aj _).drewN _))))
 go_wp2
 go_ret
 exact⟨rfl,kB.drewN _⟩

theorem Check_obj0(tag ty ln sz:Int)(w:World)(hF:Av w)(h1:1<=sz)(h2:sz<=16777215)(h3:0<=ln)(h4:ln<=16777215)(h5:tag=1)(h6:ty<1):
  Calls prog 101 #[Al tag ty ln sz] w λ e w'=>e=.returned (.int .i64 2)/\Kp Ab w w':=by
 subst h5
 have hd0:decide (sz<1)=false:=dF (by omega)
 have hd1:decide (16777215<sz)=false:=dF (by omega)
 have hd2:decide (ln<0)=false:=dF (by omega)
 have hd3:decide (16777215<ln)=false:=dF (by omega)
 have hd4:decide (1<=ty)=false:=dF (by omega)
 have b0:=wN w (.cells #[.int .u8 1,.int .i64 ty,.int .i64 ln,.int .i64 sz] 52)
 have kA:=(Kr Ab w).alloc (.cells #[.int .u8 1,.int .i64 ty,.int .i64 ln,.int .i64 sz] 52)
 unfold Al
 go_enter func101,ntmps101
 go_wp2_with fail
 obtain⟨w1,hw1⟩:∃ w1,w1=w.alloc (.cells #[.int .u8 1,.int .i64 ty,.int .i64 ln,.int .i64 sz] 52):=⟨_,rfl⟩
 rw[<- hw1] at b0 kA ⊢
 have hF1:=hF.Ad kA
 have c0:w1.cell? ⟨w.heap.size,0,none⟩=some (.int .u8 1):=by simp[World.cell?,b0]
 have c1:w1.cell? ⟨w.heap.size,1,none⟩=some (.int .i64 ty):=by simp[World.cell?,b0]
 have c2:w1.cell? ⟨w.heap.size,2,none⟩=some (.int .i64 ln):=by simp[World.cell?,b0]
 have c3:w1.cell? ⟨w.heap.size,3,none⟩=some (.int .i64 sz):=by simp[World.cell?,b0]
 have HB:=sE hF1
 clear hw1 b0 hF1
 go_wp2_with fail
 go_quiet (first|(go_at_call 142;with_reducible refine Calls.quiet_of_same (Ei _ ?_);(first|exact HB.out|exact HB.out.Ad (Kr Ab _).drew|exact HB.out.Ad (Kp.Aj _)|exact HB.out.Ad ((Kp.Aj _).drewN _)))|(go_at_call 142;with_reducible refine Calls.quiet_of_same (Eh _ ?_);(first|exact HB.out|exact HB.out.Ad (Kr Ab _).drew|exact HB.out.Ad (Kp.Aj _)|exact HB.out.Ad ((Kp.Aj _).drewN _))))
 obtain⟨w2,hw2⟩:∃ w2,w2=w1.drewN nq:=⟨_,rfl⟩
 rw[<- hw2]
 have kD:Kp Ab w1 w2:=by rw[hw2];exact Kp.Aj _
 have kB:Kp Ab w w2:=kA.trans kD (λ _ _ h=>h)
 replace c0:=kD.cell c0 (λ h=>h)
 replace c1:=kD.cell c1 (λ h=>h)
 replace c2:=kD.cell c2 (λ h=>h)
 replace c3:=kD.cell c3 (λ h=>h)
 replace HB:Sl _:=⟨HB.out.Ad kD⟩
 clear hw2
 go_wp2_with fail
 go_quiet ((go_at_call 142;with_reducible refine Calls.quiet_of_same (most_1 _ ?_);(first|exact HB.out|exact HB.out.Ad (Kr Ab _).drew|exact HB.out.Ad (Kp.Aj _)|exact HB.out.Ad ((Kp.Aj _).drewN _))))
 go_wp2
 go_ret
 exact⟨rfl,kB.drewN _⟩

theorem Check_obj9(tag ty ln sz:Int)(w:World)(hF:Av w)(h1:1<=sz)(h2:sz<=16777215)(h3:0<=ln)(h4:ln<=16777215)(h5:tag=1)(h6:1<=ty)(h7:4095<ty):
  Calls prog 101 #[Al tag ty ln sz] w λ e w'=>e=.returned (.int .i64 2)/\Kp Ab w w':=by
 subst h5
 have hd0:decide (sz<1)=false:=dF (by omega)
 have hd1:decide (16777215<sz)=false:=dF (by omega)
 have hd2:decide (ln<0)=false:=dF (by omega)
 have hd3:decide (16777215<ln)=false:=dF (by omega)
 have hd4:decide (1<=ty)=true:=dT (by omega)
 have hd5:decide (ty<=4095)=false:=dF (by omega)
 have b0:=wN w (.cells #[.int .u8 1,.int .i64 ty,.int .i64 ln,.int .i64 sz] 52)
 have kA:=(Kr Ab w).alloc (.cells #[.int .u8 1,.int .i64 ty,.int .i64 ln,.int .i64 sz] 52)
 unfold Al
 go_enter func101,ntmps101
 go_wp2_with fail
 obtain⟨w1,hw1⟩:∃ w1,w1=w.alloc (.cells #[.int .u8 1,.int .i64 ty,.int .i64 ln,.int .i64 sz] 52):=⟨_,rfl⟩
 rw[<- hw1] at b0 kA ⊢
 have hF1:=hF.Ad kA
 have c0:w1.cell? ⟨w.heap.size,0,none⟩=some (.int .u8 1):=by simp[World.cell?,b0]
 have c1:w1.cell? ⟨w.heap.size,1,none⟩=some (.int .i64 ty):=by simp[World.cell?,b0]
 have c2:w1.cell? ⟨w.heap.size,2,none⟩=some (.int .i64 ln):=by simp[World.cell?,b0]
 have c3:w1.cell? ⟨w.heap.size,3,none⟩=some (.int .i64 sz):=by simp[World.cell?,b0]
 have HB:=sE hF1
 clear hw1 b0 hF1
 go_wp2_with fail
 go_quiet (first|(go_at_call 142;with_reducible refine Calls.quiet_of_same (Ei _ ?_);(first|exact HB.out|exact HB.out.Ad (Kr Ab _).drew|exact HB.out.Ad (Kp.Aj _)|exact HB.out.Ad ((Kp.Aj _).drewN _)))|(go_at_call 142;with_reducible refine Calls.quiet_of_same (Eh _ ?_);(first|exact HB.out|exact HB.out.Ad (Kr Ab _).drew|exact HB.out.Ad (Kp.Aj _)|exact HB.out.Ad ((Kp.Aj _).drewN _))))
 obtain⟨w2,hw2⟩:∃ w2,w2=w1.drewN nq:=⟨_,rfl⟩
 rw[<- hw2]
 have kD:Kp Ab w1 w2:=by rw[hw2];exact Kp.Aj _
 have kB:Kp Ab w w2:=kA.trans kD (λ _ _ h=>h)
 replace c0:=kD.cell c0 (λ h=>h)
 replace c1:=kD.cell c1 (λ h=>h)
 replace c2:=kD.cell c2 (λ h=>h)
 replace c3:=kD.cell c3 (λ h=>h)
 replace HB:Sl _:=⟨HB.out.Ad kD⟩
 clear hw2
 go_wp2_with fail
 go_quiet ((go_at_call 142;with_reducible refine Calls.quiet_of_same (most_1 _ ?_);(first|exact HB.out|exact HB.out.Ad (Kr Ab _).drew|exact HB.out.Ad (Kp.Aj _)|exact HB.out.Ad ((Kp.Aj _).drewN _))))
 go_wp2
 go_ret
 exact⟨rfl,kB.drewN _⟩

theorem Check_fil(tag ty ln sz:Int)(w:World)(hF:Av w)(h1:1<=sz)(h2:sz<=16777215)(h3:0<=ln)(h4:ln<=16777215)(h5:tag=2)(h6:ty=0)(h7:ln=0):
  Calls prog 101 #[Al tag ty ln sz] w λ e w'=>e=.returned (.int .i64 0)/\Kp Ab w w':=by
 subst h5 h6 h7
 have hd0:decide (sz<1)=false:=dF (by omega)
 have hd1:decide (16777215<sz)=false:=dF (by omega)
 have b0:=wN w (.cells #[.int .u8 2,.int .i64 0,.int .i64 0,.int .i64 sz] 52)
 have kA:=(Kr Ab w).alloc (.cells #[.int .u8 2,.int .i64 0,.int .i64 0,.int .i64 sz] 52)
 unfold Al
 go_enter func101,ntmps101
 go_wp2_with fail
 obtain⟨w1,hw1⟩:∃ w1,w1=w.alloc (.cells #[.int .u8 2,.int .i64 0,.int .i64 0,.int .i64 sz] 52):=⟨_,rfl⟩
 rw[<- hw1] at b0 kA ⊢
 have hF1:=hF.Ad kA
 have c0:w1.cell? ⟨w.heap.size,0,none⟩=some (.int .u8 2):=by simp[World.cell?,b0]
 have c1:w1.cell? ⟨w.heap.size,1,none⟩=some (.int .i64 0):=by simp[World.cell?,b0]
 have c2:w1.cell? ⟨w.heap.size,2,none⟩=some (.int .i64 0):=by simp[World.cell?,b0]
 have c3:w1.cell? ⟨w.heap.size,3,none⟩=some (.int .i64 sz):=by simp[World.cell?,b0]
 have HB:=sE hF1
 clear hw1 b0 hF1
 go_wp2_with fail
 go_quiet (first|(go_at_call 142;with_reducible refine Calls.quiet_of_same (Ei _ ?_);(first|exact HB.out|exact HB.out.Ad (Kr Ab _).drew|exact HB.out.Ad (Kp.Aj _)|exact HB.out.Ad ((Kp.Aj _).drewN _)))|(go_at_call 142;with_reducible refine Calls.quiet_of_same (Eh _ ?_);(first|exact HB.out|exact HB.out.Ad (Kr Ab _).drew|exact HB.out.Ad (Kp.Aj _)|exact HB.out.Ad ((Kp.Aj _).drewN _))))
 go_wp2_with fail
 go_quiet (fail)
 go_wp2
 go_ret
 exact⟨rfl,kA.drewN _⟩

theorem Check_filT(tag ty ln sz:Int)(w:World)(hF:Av w)(h1:1<=sz)(h2:sz<=16777215)(h3:0<=ln)(h4:ln<=16777215)(h5:tag=2)(h6:¬ ty=0):
  Calls prog 101 #[Al tag ty ln sz] w λ e w'=>e=.returned (.int .i64 2)/\Kp Ab w w':=by
 subst h5
 have hd0:decide (sz<1)=false:=dF (by omega)
 have hd1:decide (16777215<sz)=false:=dF (by omega)
 have hd2:decide (ln<0)=false:=dF (by omega)
 have hd3:decide (16777215<ln)=false:=dF (by omega)
 have b0:=wN w (.cells #[.int .u8 2,.int .i64 ty,.int .i64 ln,.int .i64 sz] 52)
 have kA:=(Kr Ab w).alloc (.cells #[.int .u8 2,.int .i64 ty,.int .i64 ln,.int .i64 sz] 52)
 unfold Al
 go_enter func101,ntmps101
 go_wp2_with fail
 obtain⟨w1,hw1⟩:∃ w1,w1=w.alloc (.cells #[.int .u8 2,.int .i64 ty,.int .i64 ln,.int .i64 sz] 52):=⟨_,rfl⟩
 rw[<- hw1] at b0 kA ⊢
 have hF1:=hF.Ad kA
 have c0:w1.cell? ⟨w.heap.size,0,none⟩=some (.int .u8 2):=by simp[World.cell?,b0]
 have c1:w1.cell? ⟨w.heap.size,1,none⟩=some (.int .i64 ty):=by simp[World.cell?,b0]
 have c2:w1.cell? ⟨w.heap.size,2,none⟩=some (.int .i64 ln):=by simp[World.cell?,b0]
 have c3:w1.cell? ⟨w.heap.size,3,none⟩=some (.int .i64 sz):=by simp[World.cell?,b0]
 have HB:=sE hF1
 clear hw1 b0 hF1
 go_wp2_with fail
 go_quiet (first|(go_at_call 142;with_reducible refine Calls.quiet_of_same (Ei _ ?_);(first|exact HB.out|exact HB.out.Ad (Kr Ab _).drew|exact HB.out.Ad (Kp.Aj _)|exact HB.out.Ad ((Kp.Aj _).drewN _)))|(go_at_call 142;with_reducible refine Calls.quiet_of_same (Eh _ ?_);(first|exact HB.out|exact HB.out.Ad (Kr Ab _).drew|exact HB.out.Ad (Kp.Aj _)|exact HB.out.Ad ((Kp.Aj _).drewN _))))
 go_wp2_with fail
 go_quiet (fail)
 go_wp2
 go_ret
 exact⟨rfl,kA.drewN _⟩

theorem Check_filL(tag ty ln sz:Int)(w:World)(hF:Av w)(h1:1<=sz)(h2:sz<=16777215)(h3:0<=ln)(h4:ln<=16777215)(h5:tag=2)(h6:ty=0)(h7:¬ ln=0):
  Calls prog 101 #[Al tag ty ln sz] w λ e w'=>e=.returned (.int .i64 2)/\Kp Ab w w':=by
 subst h5 h6
 have hd0:decide (sz<1)=false:=dF (by omega)
 have hd1:decide (16777215<sz)=false:=dF (by omega)
 have hd2:decide (ln<0)=false:=dF (by omega)
 have hd3:decide (16777215<ln)=false:=dF (by omega)
 have b0:=wN w (.cells #[.int .u8 2,.int .i64 0,.int .i64 ln,.int .i64 sz] 52)
 have kA:=(Kr Ab w).alloc (.cells #[.int .u8 2,.int .i64 0,.int .i64 ln,.int .i64 sz] 52)
 unfold Al
 go_enter func101,ntmps101
 go_wp2_with fail
 obtain⟨w1,hw1⟩:∃ w1,w1=w.alloc (.cells #[.int .u8 2,.int .i64 0,.int .i64 ln,.int .i64 sz] 52):=⟨_,rfl⟩
 rw[<- hw1] at b0 kA ⊢
 have hF1:=hF.Ad kA
 have c0:w1.cell? ⟨w.heap.size,0,none⟩=some (.int .u8 2):=by simp[World.cell?,b0]
 have c1:w1.cell? ⟨w.heap.size,1,none⟩=some (.int .i64 0):=by simp[World.cell?,b0]
 have c2:w1.cell? ⟨w.heap.size,2,none⟩=some (.int .i64 ln):=by simp[World.cell?,b0]
 have c3:w1.cell? ⟨w.heap.size,3,none⟩=some (.int .i64 sz):=by simp[World.cell?,b0]
 have HB:=sE hF1
 clear hw1 b0 hF1
 go_wp2_with fail
 go_quiet (first|(go_at_call 142;with_reducible refine Calls.quiet_of_same (Ei _ ?_);(first|exact HB.out|exact HB.out.Ad (Kr Ab _).drew|exact HB.out.Ad (Kp.Aj _)|exact HB.out.Ad ((Kp.Aj _).drewN _)))|(go_at_call 142;with_reducible refine Calls.quiet_of_same (Eh _ ?_);(first|exact HB.out|exact HB.out.Ad (Kr Ab _).drew|exact HB.out.Ad (Kp.Aj _)|exact HB.out.Ad ((Kp.Aj _).drewN _))))
 go_wp2_with fail
 go_quiet (fail)
 go_wp2
 go_ret
 exact⟨rfl,kA.drewN _⟩

theorem Check_fre(tag ty ln sz:Int)(w:World)(hF:Av w)(h1:1<=sz)(h2:sz<=16777215)(h3:0<=ln)(h4:ln<=16777215)(h5:tag=3)(h6:ty=0)(h7:ln=0):
  Calls prog 101 #[Al tag ty ln sz] w λ e w'=>e=.returned (.int .i64 0)/\Kp Ab w w':=by
 subst h5 h6 h7
 have hd0:decide (sz<1)=false:=dF (by omega)
 have hd1:decide (16777215<sz)=false:=dF (by omega)
 have b0:=wN w (.cells #[.int .u8 3,.int .i64 0,.int .i64 0,.int .i64 sz] 52)
 have kA:=(Kr Ab w).alloc (.cells #[.int .u8 3,.int .i64 0,.int .i64 0,.int .i64 sz] 52)
 unfold Al
 go_enter func101,ntmps101
 go_wp2_with fail
 obtain⟨w1,hw1⟩:∃ w1,w1=w.alloc (.cells #[.int .u8 3,.int .i64 0,.int .i64 0,.int .i64 sz] 52):=⟨_,rfl⟩
 rw[<- hw1] at b0 kA ⊢
 have hF1:=hF.Ad kA
 have c0:w1.cell? ⟨w.heap.size,0,none⟩=some (.int .u8 3):=by simp[World.cell?,b0]
 have c1:w1.cell? ⟨w.heap.size,1,none⟩=some (.int .i64 0):=by simp[World.cell?,b0]
 have c2:w1.cell? ⟨w.heap.size,2,none⟩=some (.int .i64 0):=by simp[World.cell?,b0]
 have c3:w1.cell? ⟨w.heap.size,3,none⟩=some (.int .i64 sz):=by simp[World.cell?,b0]
 have HB:=sE hF1
 clear hw1 b0 hF1
 go_wp2_with fail
 go_quiet (first|(go_at_call 142;with_reducible refine Calls.quiet_of_same (Ei _ ?_);(first|exact HB.out|exact HB.out.Ad (Kr Ab _).drew|exact HB.out.Ad (Kp.Aj _)|exact HB.out.Ad ((Kp.Aj _).drewN _)))|(go_at_call 142;with_reducible refine Calls.quiet_of_same (Eh _ ?_);(first|exact HB.out|exact HB.out.Ad (Kr Ab _).drew|exact HB.out.Ad (Kp.Aj _)|exact HB.out.Ad ((Kp.Aj _).drewN _))))
 go_wp2_with fail
 go_quiet (fail)
 go_wp2
 go_ret
 exact⟨rfl,kA.drewN _⟩

theorem Check_freT(tag ty ln sz:Int)(w:World)(hF:Av w)(h1:1<=sz)(h2:sz<=16777215)(h3:0<=ln)(h4:ln<=16777215)(h5:tag=3)(h6:¬ ty=0):
  Calls prog 101 #[Al tag ty ln sz] w λ e w'=>e=.returned (.int .i64 2)/\Kp Ab w w':=by
 subst h5
 have hd0:decide (sz<1)=false:=dF (by omega)
 have hd1:decide (16777215<sz)=false:=dF (by omega)
 have hd2:decide (ln<0)=false:=dF (by omega)
 have hd3:decide (16777215<ln)=false:=dF (by omega)
 have b0:=wN w (.cells #[.int .u8 3,.int .i64 ty,.int .i64 ln,.int .i64 sz] 52)
 have kA:=(Kr Ab w).alloc (.cells #[.int .u8 3,.int .i64 ty,.int .i64 ln,.int .i64 sz] 52)
 unfold Al
 go_enter func101,ntmps101
 go_wp2_with fail
 obtain⟨w1,hw1⟩:∃ w1,w1=w.alloc (.cells #[.int .u8 3,.int .i64 ty,.int .i64 ln,.int .i64 sz] 52):=⟨_,rfl⟩
 rw[<- hw1] at b0 kA ⊢
 have hF1:=hF.Ad kA
 have c0:w1.cell? ⟨w.heap.size,0,none⟩=some (.int .u8 3):=by simp[World.cell?,b0]
 have c1:w1.cell? ⟨w.heap.size,1,none⟩=some (.int .i64 ty):=by simp[World.cell?,b0]
 have c2:w1.cell? ⟨w.heap.size,2,none⟩=some (.int .i64 ln):=by simp[World.cell?,b0]
 have c3:w1.cell? ⟨w.heap.size,3,none⟩=some (.int .i64 sz):=by simp[World.cell?,b0]
 have HB:=sE hF1
 clear hw1 b0 hF1
 go_wp2_with fail
 go_quiet (first|(go_at_call 142;with_reducible refine Calls.quiet_of_same (Ei _ ?_);(first|exact HB.out|exact HB.out.Ad (Kr Ab _).drew|exact HB.out.Ad (Kp.Aj _)|exact HB.out.Ad ((Kp.Aj _).drewN _)))|(go_at_call 142;with_reducible refine Calls.quiet_of_same (Eh _ ?_);(first|exact HB.out|exact HB.out.Ad (Kr Ab _).drew|exact HB.out.Ad (Kp.Aj _)|exact HB.out.Ad ((Kp.Aj _).drewN _))))
 go_wp2_with fail
 go_quiet (fail)
 go_wp2
 go_ret
 exact⟨rfl,kA.drewN _⟩

theorem Check_freL(tag ty ln sz:Int)(w:World)(hF:Av w)(h1:1<=sz)(h2:sz<=16777215)(h3:0<=ln)(h4:ln<=16777215)(h5:tag=3)(h6:ty=0)(h7:¬ ln=0):
  Calls prog 101 #[Al tag ty ln sz] w λ e w'=>e=.returned (.int .i64 2)/\Kp Ab w w':=by
 subst h5 h6
 have hd0:decide (sz<1)=false:=dF (by omega)
 have hd1:decide (16777215<sz)=false:=dF (by omega)
 have hd2:decide (ln<0)=false:=dF (by omega)
 have hd3:decide (16777215<ln)=false:=dF (by omega)
 have b0:=wN w (.cells #[.int .u8 3,.int .i64 0,.int .i64 ln,.int .i64 sz] 52)
 have kA:=(Kr Ab w).alloc (.cells #[.int .u8 3,.int .i64 0,.int .i64 ln,.int .i64 sz] 52)
 unfold Al
 go_enter func101,ntmps101
 go_wp2_with fail
 obtain⟨w1,hw1⟩:∃ w1,w1=w.alloc (.cells #[.int .u8 3,.int .i64 0,.int .i64 ln,.int .i64 sz] 52):=⟨_,rfl⟩
 rw[<- hw1] at b0 kA ⊢
 have hF1:=hF.Ad kA
 have c0:w1.cell? ⟨w.heap.size,0,none⟩=some (.int .u8 3):=by simp[World.cell?,b0]
 have c1:w1.cell? ⟨w.heap.size,1,none⟩=some (.int .i64 0):=by simp[World.cell?,b0]
 have c2:w1.cell? ⟨w.heap.size,2,none⟩=some (.int .i64 ln):=by simp[World.cell?,b0]
 have c3:w1.cell? ⟨w.heap.size,3,none⟩=some (.int .i64 sz):=by simp[World.cell?,b0]
 have HB:=sE hF1
 clear hw1 b0 hF1
 go_wp2_with fail
 go_quiet (first|(go_at_call 142;with_reducible refine Calls.quiet_of_same (Ei _ ?_);(first|exact HB.out|exact HB.out.Ad (Kr Ab _).drew|exact HB.out.Ad (Kp.Aj _)|exact HB.out.Ad ((Kp.Aj _).drewN _)))|(go_at_call 142;with_reducible refine Calls.quiet_of_same (Eh _ ?_);(first|exact HB.out|exact HB.out.Ad (Kr Ab _).drew|exact HB.out.Ad (Kp.Aj _)|exact HB.out.Ad ((Kp.Aj _).drewN _))))
 go_wp2_with fail
 go_quiet (fail)
 go_wp2
 go_ret
 exact⟨rfl,kA.drewN _⟩

theorem Check_else(tag ty ln sz:Int)(w:World)(hF:Av w)(h1:1<=sz)(h2:sz<=16777215)(h3:0<=ln)(h4:ln<=16777215)(h5:¬ tag=1)(h6:¬ tag=2)(h7:¬ tag=3):
  Calls prog 101 #[Al tag ty ln sz] w λ e w'=>e=.returned (.int .i64 2)/\Kp Ab w w':=by
 have hd0:decide (sz<1)=false:=dF (by omega)
 have hd1:decide (16777215<sz)=false:=dF (by omega)
 have hd2:decide (ln<0)=false:=dF (by omega)
 have hd3:decide (16777215<ln)=false:=dF (by omega)
 have he1:(tag==1)=false:=by simpa using h5
 have b0:=wN w (.cells #[.int .u8 tag,.int .i64 ty,.int .i64 ln,.int .i64 sz] 52)
 have kA:=(Kr Ab w).alloc (.cells #[.int .u8 tag,.int .i64 ty,.int .i64 ln,.int .i64 sz] 52)
 unfold Al
 go_enter func101,ntmps101
 go_wp2_with fail
 obtain⟨w1,hw1⟩:∃ w1,w1=w.alloc (.cells #[.int .u8 tag,.int .i64 ty,.int .i64 ln,.int .i64 sz] 52):=⟨_,rfl⟩
 rw[<- hw1] at b0 kA ⊢
 have hF1:=hF.Ad kA
 have c0:w1.cell? ⟨w.heap.size,0,none⟩=some (.int .u8 tag):=by simp[World.cell?,b0]
 have c1:w1.cell? ⟨w.heap.size,1,none⟩=some (.int .i64 ty):=by simp[World.cell?,b0]
 have c2:w1.cell? ⟨w.heap.size,2,none⟩=some (.int .i64 ln):=by simp[World.cell?,b0]
 have c3:w1.cell? ⟨w.heap.size,3,none⟩=some (.int .i64 sz):=by simp[World.cell?,b0]
 have HB:=sE hF1
 clear hw1 b0 hF1
 go_wp2_with fail
 go_quiet (first|(go_at_call 142;with_reducible refine Calls.quiet_of_same (Ei _ ?_);(first|exact HB.out|exact HB.out.Ad (Kr Ab _).drew|exact HB.out.Ad (Kp.Aj _)|exact HB.out.Ad ((Kp.Aj _).drewN _)))|(go_at_call 142;with_reducible refine Calls.quiet_of_same (Eh _ ?_);(first|exact HB.out|exact HB.out.Ad (Kr Ab _).drew|exact HB.out.Ad (Kp.Aj _)|exact HB.out.Ad ((Kp.Aj _).drewN _))))
 go_wp2_with fail
 go_quiet (fail)
 go_wp2
 go_ret
 exact⟨rfl,kA.drewN _⟩

theorem Dz(tag ty ln sz:Int)(w:World)(hF:Av w):
  Calls prog 101 #[Al tag ty ln sz] w λ e w'=>e=.returned (.int .i64 (errV (Am tag ty ln sz)))/\Kp Ab w w':=by
 have yes:Am tag ty ln sz=true->errV (Am tag ty ln sz)=0:=λ h=>by rw[h];rfl
 have no:Am tag ty ln sz=false->errV (Am tag ty ln sz)=2:=λ h=>by rw[h];rfl
 by_cases h1:sz<1
 .rw [no (by simp[Am];omega)];exact Check_small tag ty ln sz w hF h1
 by_cases h2:16777215<sz
 .rw [no (by simp[Am];omega)];exact Check_big tag ty ln sz w hF (by omega) h2
 by_cases h3:ln<0
 .rw [no (by simp[Am];omega)];exact Check_low tag ty ln sz w hF (by omega) (by omega) h3
 by_cases h4:16777215<ln
 .rw [no (by simp[Am];omega)];exact Check_long tag ty ln sz w hF (by omega) (by omega) (by omega) h4
 by_cases t1:tag=1
 .by_cases h5:ty<1
  .rw [no (by simp[Am];omega)];exact Check_obj0 tag ty ln sz w hF (by omega) (by omega) (by omega) (by omega) t1 h5
  by_cases h6:4095<ty
  .rw [no (by simp[Am];omega)];exact Check_obj9 tag ty ln sz w hF (by omega) (by omega) (by omega) (by omega) t1 (by omega) h6
  rw[yes (by simp[Am];omega)];exact Check_obj tag ty ln sz w hF (by omega) (by omega) (by omega) (by omega) t1 (by omega) (by omega)
 by_cases t2:tag=2
 .by_cases h5:ty=0
  .by_cases h6:ln=0
   .rw [yes (by simp[Am];omega)];exact Check_fil tag ty ln sz w hF (by omega) (by omega) (by omega) (by omega) t2 h5 h6
   rw[no (by simp[Am];omega)];exact Check_filL tag ty ln sz w hF (by omega) (by omega) (by omega) (by omega) t2 h5 h6
  rw[no (by simp[Am];omega)];exact Check_filT tag ty ln sz w hF (by omega) (by omega) (by omega) (by omega) t2 h5
 by_cases t3:tag=3
 .by_cases h5:ty=0
  .by_cases h6:ln=0
   .rw [yes (by simp[Am];omega)];exact Check_fre tag ty ln sz w hF (by omega) (by omega) (by omega) (by omega) t3 h5 h6
   rw[no (by simp[Am];omega)];exact Check_freL tag ty ln sz w hF (by omega) (by omega) (by omega) (by omega) t3 h5 h6
  rw[no (by simp[Am];omega)];exact Check_freT tag ty ln sz w hF (by omega) (by omega) (by omega) (by omega) t3 h5
 rw[no (by simp[Am];omega)];exact Check_else tag ty ln sz w hF (by omega) (by omega) (by omega) (by omega) t1 t2 t3

end

end Go.Proofs.YtmfajopmppfldaaGreatDoor
