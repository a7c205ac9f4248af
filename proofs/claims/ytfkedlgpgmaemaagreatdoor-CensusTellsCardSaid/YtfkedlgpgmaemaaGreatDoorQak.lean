/-
  Lemmas for the laws, together: View.
-/
import Derived.Test.YtfkedlgpgmaemaaGreatDoorQag
import Derived.Test.YtfkedlgpgmaemaaGreatDoorQaj
import Derived.Deep.RegionHeld3
set_option linter.unusedVariables false
set_option maxHeartbeats 16000000
namespace Go.Proofs.YtfkedlgpgmaemaaGreatDoor
open Tryz
section
open Go.RowKit
attribute [local go_sem ↓] EJ

section
variable {P:Program} {md:Region.Mode} {Q:Exit->Act->World->Prop} {S:World->Prop}

theorem take_held{l:List Oper}{i:Nat}{d:Oper}{v:Value}{e:Nat}{b:Array Bool}{a:Act}{w:World}(m:l[i]?=some d)
    (o:Region.noSelect l.toArray=true) (k:Region.free md l.toArray b i=true) (n:(Region.ready md l.toArray b).contains i=true)
    (g:∀ c a w,Q (.panic c) (a.put d.dst v) w->Q (.panic c) a w) (p:YieldsIf P l.toArray S d v a) (j:S w)
    (f:wpAnyH P md l.toArray Q S e (b.setIfInBounds i true) (a.put d.dst v) w):wpAnyH P md l.toArray Q S (e+1) b a w:=
  wpAnyH_take (by simpa using m) o k n g p j f

theorem Ap{l:List Oper}(i:Nat){b:Oper}{v:Value}{f:Nat}{d:Array Bool}{a:Act}{w:World}(e:wpAnyH P md l.toArray Q S f (d.setIfInBounds i true) (a.put b.dst v) w)(n:l[i]?=some b:=by rfl)
    (r:∀ w,S w->(execOp a.eval b).run P w=.ok (.value v) w:=by ((intro w0 k);(try dsimp only at k);go_simp;(try with_reducible rfl))) (j:S w:=by assumption) (p:Region.noSelect l.toArray=true:=by kernel_rfl) (m:Region.free md l.toArray d i=true:=by kernel_rfl)
    (o:(Region.ready md l.toArray d).contains i=true:=by kernel_rfl) (g:∀ c a w,Q (.panic c) (a.put b.dst v) w->Q (.panic c) a w:=by exact λ_ _ _ e=>e) (q:Region.wanted b (yielded l.toArray a.tmps)=true:=by kernel_rfl):wpAnyH P md l.toArray Q S (f+1) d a w:=
  take_held n p m o g (.inl ⟨q,r⟩) j e

theorem AB:(∀ (a:Act) (d:Nat) (v:Value),a.put (some d) v={a with tmps:=a.tmps.setIfInBounds d v})/\(∀ (a:Act) (v:Value),a.put none v=a)/\(∀ (l:List Value) (i:Nat) (x:Value),l.toArray.setIfInBounds i x=(l.set i x).toArray)/\(∀ (x y:Value) (l:List Value),(x::l).set 0 y=y::l)/\(∀ (x y:Value) (l:List Value) (i:Nat),(x::l).set (i+1) y=x::l.set i y):=
  ⟨λ _ _ _=>rfl,λ _ _=>rfl,λ _ _ _=>List.setIfInBounds_toArray ..,λ _ _ _=>rfl,λ _ _ _ _=>rfl⟩

theorem Bp(rs:List Nat){l:List Oper}{c:Nat}{b:Array Bool}{a:Act}{w:World}(d:AllReadyH P md l.toArray Q S c b a w rs)(f:Region.ready md l.toArray b=rs:=by kernel_rfl)(e:rs≠[]:=by simp):wpAnyH P md l.toArray Q S (c+1) b a w:=
  wpAnyH_ready f e d

theorem sk{l:List Oper}(i:Nat){d:Oper}{f:Nat}{b:Array Bool}{a:Act}{w:World}(m:l[i]?=some d)
    (e:wpAnyH P md l.toArray Q S f (b.setIfInBounds i true) (a.put d.dst undef) w) (j:S w:=by assumption) (o:Region.noSelect l.toArray=true:=by kernel_rfl) (k:Region.free md l.toArray b i=true:=by kernel_rfl)
    (n:(Region.ready md l.toArray b).contains i=true:=by kernel_rfl) (g:∀ c a w,Q (.panic c) (a.put d.dst undef) w->Q (.panic c) a w:=by exact λ_ _ _ e=>e) (p:Region.wanted d (yielded l.toArray a.tmps)=false:=by kernel_rfl):wpAnyH P md l.toArray Q S (f+1) b a w:=
  take_held m o k n g (.inr ⟨p,rfl⟩) j e

theorem Ag{l:List Oper}{c:Nat}{d:Array Bool}{a:Act}{w:World}{i:Nat}{o:Oper}(f:l[i]?=some o)
    (e:∀ b:Act->World->Prop,Shut (∀ a w,S w->(S w->wpAnyH P md l.toArray Q S c (d.setIfInBounds i true) a w)->b a w)->if Region.wanted o (yielded l.toArray a.tmps)=true then Oper.wp P o a w b Q else b (a.put o.dst undef) w):AllReadyH P md l.toArray Q S c d a w [i]:=
  AllReadyH.cons (by simpa using f) e AllReadyH.nil

theorem Ai{l:List Oper}{c:Nat}{d:Array Bool}{a:Act}{w:World}{i:Nat}{o:Oper}{rs:List Nat}(f:l[i]?=some o)
    (e:∀ b:Act->World->Prop,Shut (∀ a w,S w->(S w->wpAnyH P md l.toArray Q S c (d.setIfInBounds i true) a w)->b a w)->if Region.wanted o (yielded l.toArray a.tmps)=true then Oper.wp P o a w b Q else b (a.put o.dst undef) w)
    (g:AllReadyH P md l.toArray Q S c d a w rs):AllReadyH P md l.toArray Q S c d a w (i::rs):=
  AllReadyH.cons (by simpa using f) e g
end

theorem Ae{w w':World}{p:Addr}{v:Value}(h:Kp Aa w w')(c:w.cell? p=some v):w'.cell? p=some v:=h.cell c id

theorem Kz{w w':World}{p:Addr}{v:Value}(c:w.cell? p=some v)(h:Kp Aa w w':=by assumption):w'.cell? p=some v:=Ae h c

theorem Fits_type(ty ln sz:Int)(t q:Nat)(ts:List TypR)(w:World)(hF:Au w)(B:TableAt w t q ts)(n:Am 1 ty ln sz=true)(c:¬ AV ts ty ln=0):
    Calls prog 78 #[.pointer (some t),Ao 1 ty ln sz] w (RK (.int .i64 8) w):=by
  have u:=(Kr Aa w).alloc (.cells #[.int .u8 1,.int .i64 ty,.int .i64 ln,.int .i64 sz] 111)
  have m:=wN w (.cells #[.int .u8 1,.int .i64 ty,.int .i64 ln,.int .i64 sz] 111)
  have a:=DC 1 ty ln sz _ (hF.Ac u)
  rw[n] at a
  obtain⟨b,i⟩:∃ b,AV ts ty ln=b:=⟨_,rfl⟩
  have g:∀ W,Kp Aa w W->Calls prog 135 #[.pointer (some t),.int .i64 ty,.int .i64 ln] W (RK (.tuple #[Ao 0 0 0 0,.int .i64 b]) W):=λ W k=>
    (EE ty ln t q ts W (B.Ac k)).mono λ e w' p=>by rw[BR,if_neg c,i] at p;exact p
  rw[i] at c
  have F:(b !=0)=true:=by simpa using c
  unfold Ao at a g ⊢
  have j:=sE a
  have v:=sE g
  clear a g n c i
  go_enter func78,ntmps78
  go_wp2_with fail
  refine j.o.mono ?_
  rintro e w2 ⟨rfl,r⟩
  have d:=r.at_ m id
  obtain⟨x,y,z,A⟩:=Ay d
  have l:=u.then' r
  clear m j
  go_wp2_with fail
  refine(v.o _ l).mono ?_
  rintro e H ⟨rfl,s⟩
  have f:=s.at_ d id
  have G:=lZ f
  clear x y z A
  obtain⟨c0,C,D,E⟩:=Ay f
  clear d f
  go_wp2
  go_ret
  exact⟨rfl,(l.then' s).alloc _⟩

theorem Fits_size(ty ln sz:Int)(t q:Nat)(ts:List TypR)(w:World)(hF:Au w)(B:TableAt w t q ts)(m:Am 1 ty ln sz=true)(n:AV ts ty ln=0)(g:¬ BB ts ty ln=sz):
    Calls prog 78 #[.pointer (some t),Ao 1 ty ln sz] w (RK (.int .i64 8) w):=by
  have u:=(Kr Aa w).alloc (.cells #[.int .u8 1,.int .i64 ty,.int .i64 ln,.int .i64 sz] 111)
  have l:=wN w (.cells #[.int .u8 1,.int .i64 ty,.int .i64 ln,.int .i64 sz] 111)
  have a:=DC 1 ty ln sz _ (hF.Ac u)
  rw[m] at a
  obtain⟨S,f⟩:∃ S,BB ts ty ln=S:=⟨_,rfl⟩
  have d:∀ W,Kp Aa w W->Calls prog 135 #[.pointer (some t),.int .i64 ty,.int .i64 ln] W (RK (.tuple #[Ao 1 ty ln S,(0:Int)]) W):=λ W k=>
    (EE ty ln t q ts W (B.Ac k)).mono λ e w' p=>by rw[BR,n,if_pos rfl,f] at p;exact p
  rw[f] at g
  have F:(S==sz)=false:=by simpa using g
  unfold Ao at a d ⊢
  have i:=sE a
  have v:=sE d
  clear a d m n g f
  go_enter func78,ntmps78
  go_wp2_with fail
  refine i.o.mono ?_
  rintro e w2 ⟨rfl,r⟩
  have b:=r.at_ l id
  obtain⟨x,y,z,A⟩:=Ay b
  have j:=u.then' r
  clear l i
  go_wp2_with fail
  refine(v.o _ j).mono ?_
  rintro e H ⟨rfl,s⟩
  have c:=s.at_ b id
  have G:=lZ c
  clear x y z A
  obtain⟨c0,C,D,E⟩:=Ay c
  clear b c
  go_wp2
  go_ret
  exact⟨rfl,(j.then' s).alloc _⟩

theorem Fits_one(ty ln sz:Int)(t q:Nat)(ts:List TypR)(w:World)(hF:Au w)(b:TableAt w t q ts)(a:Am 1 ty ln sz=true):
    Calls prog 78 #[.pointer (some t),Ao 1 ty ln sz] w (RK (.int .i64 (CU ts 1 ty ln sz)) w):=by
  rw[fitsE_obj a]
  by_cases he:AV ts ty ln=0
  . rw[if_pos he]
    by_cases hs:BB ts ty ln=sz
    . rw[if_pos hs];exact Fits_obj ty ln sz t q ts w hF b a he hs
    . rw[if_neg hs];exact Fits_size ty ln sz t q ts w hF b a he hs
  . rw[if_neg he];exact Fits_type ty ln sz t q ts w hF b a he

theorem SHead_out(g:Int)(a q n:Nat)(W:Nat->Nat)(w:World)(d:ArenaAt w a q W n)(E:g<0\/((n/2:Nat):Int)<=g):
    Calls prog 76 #[.pointer (some a),.int .i64 g] w (RK (.tuple #[Ao 0 0 0 0,(2:Int)]) w):=by
  obtain⟨w1,f⟩:∃ w1,w1=w.alloc (.cells #[.int .u8 0,(0:Int),(0:Int),(0:Int)] 111):=⟨_,rfl⟩
  have k:Kp Aa w w1:=by rw[f];exact (Kr _ w).alloc _
  have b:w1.heap[w.heap.size]?=some (.cells #[.int .u8 0,(0:Int),(0:Int),(0:Int)] 111 (0,0)):=by rw[f];exact wN w _
  have N:=lZ b
  have m:=d.Ac k
  have F:=d.small
  obtain⟨G,p⟩:∃ G,n/2=G:=⟨_,rfl⟩
  have j:=gran_at a q n W w1 m
  rw[p] at j E
  have t:=sE j
  have K:G<=32768:=by omega
  obtain⟨u,x,y,z⟩:=Ay b
  have c:=Ab b
  have f00:=c 0
  have f01:=c 1
  have f02:=c 2
  have f03:=c 3
  have s:=sE b
  clear b c j p m d F
  by_cases h0:g<0
  all_goals
    go_enter func76,ntmps76
    go_wp2_with fail
    rw[<- f]
    clear f
    try (refine t.o.mono ?_;rintro e w' ⟨rfl,rfl⟩)
    try (have L:(G:Int)<=g:=by omega)
    go_wp2
    first
      |exact bodyPost_ret (v:=.tuple #[Ao 0 0 0 0,(2:Int)]) (by simp[results,results76,go_sem,u,x,y,z,Ao]) rfl ⟨rfl,k⟩
      | (obtain⟨l,r⟩:∃ l,l=(((w1.setCell w.heap.size (.int .u8 0)).setCell ⟨w.heap.size,1,none⟩ (.int .i64 0)).setCell ⟨w.heap.size,2,none⟩ (.int .i64 0)).setCell ⟨w.heap.size,3,none⟩ (.int .i64 0):=⟨_,rfl⟩
         rw[<- r]
         obtain⟨I,H⟩:=BC s.o _ _ _ _ l r
         obtain⟨A,B,C,D⟩:=Ay I
         exact bodyPost_ret (v:=.tuple #[Ao 0 0 0 0,(2:Int)]) (by simp[results,results76,go_sem,A,B,C,D,Ao]) rfl ⟨rfl,k.trans H (λ i M d=>by have J:i=w.heap.size:=d;omega)⟩)

def Ce(w:World)(b a:Nat)(c:Cel)(k wds:Int)(m:Nat):Prop:=
  w.heap[b]?=some (.cells #[.pointer (some a),c.g,.int .u8 c.tag,c.ty,c.ln,c.sz,.int .u8 k,.int .i64 wds,.int .u64 m] 158 (0,0))

def SOfNo(w:World)(e:Ending)(w':World):Prop:=∃ E:Int,¬ E=0/\e=.returned (.tuple #[.pointer none,.int .i64 E])/\Kp Aa w w'

def SOfYes(a:Nat)(ts:List TypR)(c:Cel)(w:World)(e:Ending)(w':World):Prop:=
  ∃ b k wds m,typeOf ts (c.ty:Nat)=some ⟨k,wds,m⟩/\e=.returned (.tuple #[.pointer (some ⟨b,0,none⟩),(0:Int)])/\Ce w' b a c k wds m/\w.heap.size<=b/\Kp Aa w w'

theorem SOf_err(g:Int)(a:Nat)(l:Value)(b:Int)(w:World)(d:¬ b=0)
    (f:∀ c,Kp Aa w c->Calls prog 76 #[.pointer (some a),.int .i64 g] c (RK (.tuple #[.agg #[.int .u8 0,(0:Int),(0:Int),(0:Int)],.int .i64 b]) c)):
    Calls prog 30 #[.pointer (some a),l,.int .i64 g] w (SOfNo w):=by
  have j:=sE f
  have m:(b !=0)=true:=by simpa using d
  have i:=sE d
  clear f d
  go_enter func30,ntmps30
  go_wp2_with fail
  refine(j.o _ (Kr _ _)).mono ?_
  rintro e w2 ⟨rfl,k⟩
  go_wp2
  exact bodyPost_ret (v:=.tuple #[.pointer none,.int .i64 b]) (by simp[results,results30,go_sem]) rfl ⟨b,i.o,rfl,k.alloc _⟩

theorem SOf_tag0(g a n:Nat)(r:Nat)(ty ln sz:Nat)(k wds:Int)(m:Nat)(G:Int)(F:Int)(w:World)(W:sz<16777216)(V:n<=65536)(O:g<n/2)
    (D:∀ b,Kp Aa w b->Calls prog 76 #[.pointer (some a),g] b (RK (.tuple #[.agg #[.int .u8 0,ty,ln,sz],(0:Int)]) b))
    (C:∀ b,Kp Aa w b->Calls prog 77 #[.pointer (some r),ty] b (RK (.tuple #[.agg #[.int .u8 k,.int .i64 wds,.int .u64 m],.int .i64 G]) b))
    (hF:∀ b,Kp Aa w b->Calls prog 78 #[.pointer (some r),.agg #[.int .u8 0,ty,ln,sz]] b (RK (.int .i64 F) b))
    (l:∀ b,Kp Aa w b->Calls prog 79 #[.pointer (some a)] b λ e w'=>e=.returned (.int .i64 ((n/2:Nat):Int))/\w'=b):
    Calls prog 30 #[.pointer (some a),.pointer (some r),g] w (SOfNo w):=by
  have L:=sE D
  have K:=sE C
  have P:=sE hF
  obtain⟨H,N⟩:∃ H,n/2=H:=⟨_,rfl⟩
  rw[N] at l O
  have R:H<=32768:=by omega
  have Q:=sE l

  clear D C hF l
  go_enter func30,ntmps30
  go_wp2_with fail
  refine(L.o _ (Kr _ _)).mono ?_
  rintro e w2 ⟨rfl,E⟩
  have c:=wN w2 (.cells #[.int .u8 0,ty,ln,sz] 111)
  obtain⟨s,d⟩:∃ s,s=w2.alloc (.cells #[.int .u8 0,ty,ln,sz] 111):=⟨_,rfl⟩
  rw[<- d] at c
  have I:Kp Aa w s:=by rw[d];exact E.alloc _
  obtain⟨c0,z,A,B⟩:=Ay c
  have J:=sE c
  clear c
  go_wp2_with fail
  try rw[<- d]
  clear d
  try go_wp2_with fail
  refine(K.o _ I).mono ?_
  rintro e t ⟨rfl,p⟩
  have j:=p.at_ J.o id
  have U:=lZ j
  have i:=wN t (.cells #[.int .u8 k,.int .i64 wds,.int .u64 m] 106)
  obtain⟨u,f⟩:∃ u,u=t.alloc (.cells #[.int .u8 k,.int .i64 wds,.int .u64 m] 106):=⟨_,rfl⟩
  rw[<- f] at i
  have q:Kp Aa t u:=by rw[f];exact (Kr _ _).alloc _
  have M:=(I.then' p).then' q
  have y:=sE (q.at_ j id)
  have x:=sE i
  clear c0 z A B j i
  obtain⟨c0,z,A,B⟩:=Ay y.o
  obtain⟨Y,Z,a0⟩:=cells3 x.o
  have S:=lZ y.o
  have T:=lZ x.o
  have X:=E.size
  go_wp2_with fail
  try rw[<- f]
  clear f p q
  try go_wp2_with fail
  go_quiet (fail)
  go_wp2
  exact bodyPost_ret (v:=.tuple #[.pointer none,(8:Int)]) (by simp[results,results30,go_sem]) rfl ⟨8,by omega,rfl,M.then' (by first|exact (Kr _ _).drewN _|(repeat (first|assumption|exact Kr _ _|refine Kp.drew ?_|refine Kp.alloc ?_ _|refine Kp.Av ?_ (by omega) _)))⟩

theorem SOf_tag2(g a n:Nat)(r:Nat)(ty ln sz:Nat)(k wds:Int)(m:Nat)(G:Int)(F:Int)(w:World)(W:sz<16777216)(V:n<=65536)(O:g<n/2)
    (D:∀ b,Kp Aa w b->Calls prog 76 #[.pointer (some a),g] b (RK (.tuple #[.agg #[.int .u8 2,ty,ln,sz],(0:Int)]) b))
    (C:∀ b,Kp Aa w b->Calls prog 77 #[.pointer (some r),ty] b (RK (.tuple #[.agg #[.int .u8 k,.int .i64 wds,.int .u64 m],.int .i64 G]) b))
    (hF:∀ b,Kp Aa w b->Calls prog 78 #[.pointer (some r),.agg #[.int .u8 2,ty,ln,sz]] b (RK (.int .i64 F) b))
    (l:∀ b,Kp Aa w b->Calls prog 79 #[.pointer (some a)] b λ e w'=>e=.returned (.int .i64 ((n/2:Nat):Int))/\w'=b):
    Calls prog 30 #[.pointer (some a),.pointer (some r),g] w (SOfNo w):=by
  have L:=sE D
  have K:=sE C
  have P:=sE hF
  obtain⟨H,N⟩:∃ H,n/2=H:=⟨_,rfl⟩
  rw[N] at l O
  have R:H<=32768:=by omega
  have Q:=sE l

  clear D C hF l
  go_enter func30,ntmps30
  go_wp2_with fail
  refine(L.o _ (Kr _ _)).mono ?_
  rintro e w2 ⟨rfl,E⟩
  have c:=wN w2 (.cells #[.int .u8 2,ty,ln,sz] 111)
  obtain⟨s,d⟩:∃ s,s=w2.alloc (.cells #[.int .u8 2,ty,ln,sz] 111):=⟨_,rfl⟩
  rw[<- d] at c
  have I:Kp Aa w s:=by rw[d];exact E.alloc _
  obtain⟨c0,z,A,B⟩:=Ay c
  have J:=sE c
  clear c
  go_wp2_with fail
  try rw[<- d]
  clear d
  try go_wp2_with fail
  refine(K.o _ I).mono ?_
  rintro e t ⟨rfl,p⟩
  have j:=p.at_ J.o id
  have U:=lZ j
  have i:=wN t (.cells #[.int .u8 k,.int .i64 wds,.int .u64 m] 106)
  obtain⟨u,f⟩:∃ u,u=t.alloc (.cells #[.int .u8 k,.int .i64 wds,.int .u64 m] 106):=⟨_,rfl⟩
  rw[<- f] at i
  have q:Kp Aa t u:=by rw[f];exact (Kr _ _).alloc _
  have M:=(I.then' p).then' q
  have y:=sE (q.at_ j id)
  have x:=sE i
  clear c0 z A B j i
  obtain⟨c0,z,A,B⟩:=Ay y.o
  obtain⟨Y,Z,a0⟩:=cells3 x.o
  have S:=lZ y.o
  have T:=lZ x.o
  have X:=E.size
  go_wp2_with fail
  try rw[<- f]
  clear f p q
  try go_wp2_with fail
  go_quiet (fail)
  go_wp2
  exact bodyPost_ret (v:=.tuple #[.pointer none,(8:Int)]) (by simp[results,results30,go_sem]) rfl ⟨8,by omega,rfl,M.then' (by first|exact (Kr _ _).drewN _|(repeat (first|assumption|exact Kr _ _|refine Kp.drew ?_|refine Kp.alloc ?_ _|refine Kp.Av ?_ (by omega) _)))⟩

theorem SOf_tag3(g a n:Nat)(r:Nat)(ty ln sz:Nat)(k wds:Int)(m:Nat)(G:Int)(F:Int)(w:World)(W:sz<16777216)(V:n<=65536)(O:g<n/2)
    (D:∀ b,Kp Aa w b->Calls prog 76 #[.pointer (some a),g] b (RK (.tuple #[.agg #[.int .u8 3,ty,ln,sz],(0:Int)]) b))
    (C:∀ b,Kp Aa w b->Calls prog 77 #[.pointer (some r),ty] b (RK (.tuple #[.agg #[.int .u8 k,.int .i64 wds,.int .u64 m],.int .i64 G]) b))
    (hF:∀ b,Kp Aa w b->Calls prog 78 #[.pointer (some r),.agg #[.int .u8 3,ty,ln,sz]] b (RK (.int .i64 F) b))
    (l:∀ b,Kp Aa w b->Calls prog 79 #[.pointer (some a)] b λ e w'=>e=.returned (.int .i64 ((n/2:Nat):Int))/\w'=b):
    Calls prog 30 #[.pointer (some a),.pointer (some r),g] w (SOfNo w):=by
  have L:=sE D
  have K:=sE C
  have P:=sE hF
  obtain⟨H,N⟩:∃ H,n/2=H:=⟨_,rfl⟩
  rw[N] at l O
  have R:H<=32768:=by omega
  have Q:=sE l

  clear D C hF l
  go_enter func30,ntmps30
  go_wp2_with fail
  refine(L.o _ (Kr _ _)).mono ?_
  rintro e w2 ⟨rfl,E⟩
  have c:=wN w2 (.cells #[.int .u8 3,ty,ln,sz] 111)
  obtain⟨s,d⟩:∃ s,s=w2.alloc (.cells #[.int .u8 3,ty,ln,sz] 111):=⟨_,rfl⟩
  rw[<- d] at c
  have I:Kp Aa w s:=by rw[d];exact E.alloc _
  obtain⟨c0,z,A,B⟩:=Ay c
  have J:=sE c
  clear c
  go_wp2_with fail
  try rw[<- d]
  clear d
  try go_wp2_with fail
  refine(K.o _ I).mono ?_
  rintro e t ⟨rfl,p⟩
  have j:=p.at_ J.o id
  have U:=lZ j
  have i:=wN t (.cells #[.int .u8 k,.int .i64 wds,.int .u64 m] 106)
  obtain⟨u,f⟩:∃ u,u=t.alloc (.cells #[.int .u8 k,.int .i64 wds,.int .u64 m] 106):=⟨_,rfl⟩
  rw[<- f] at i
  have q:Kp Aa t u:=by rw[f];exact (Kr _ _).alloc _
  have M:=(I.then' p).then' q
  have y:=sE (q.at_ j id)
  have x:=sE i
  clear c0 z A B j i
  obtain⟨c0,z,A,B⟩:=Ay y.o
  obtain⟨Y,Z,a0⟩:=cells3 x.o
  have S:=lZ y.o
  have T:=lZ x.o
  have X:=E.size
  go_wp2_with fail
  try rw[<- f]
  clear f p q
  try go_wp2_with fail
  go_quiet (fail)
  go_wp2
  exact bodyPost_ret (v:=.tuple #[.pointer none,(8:Int)]) (by simp[results,results30,go_sem]) rfl ⟨8,by omega,rfl,M.then' (by first|exact (Kr _ _).drewN _|(repeat (first|assumption|exact Kr _ _|refine Kp.drew ?_|refine Kp.alloc ?_ _|refine Kp.Av ?_ (by omega) _)))⟩

theorem SOf_fit(g a n:Nat)(x:Nat)(ty ln sz:Nat)(k wds:Int)(m:Nat)(G:Int)(F:Int)(w:World)(P:F=8)(a3:sz<16777216)(a2:n<=65536)(R:g<n/2)
    (E:∀ b,Kp Aa w b->Calls prog 76 #[.pointer (some a),g] b (RK (.tuple #[.agg #[.int .u8 1,ty,ln,sz],(0:Int)]) b))
    (D:∀ b,Kp Aa w b->Calls prog 77 #[.pointer (some x),ty] b (RK (.tuple #[.agg #[.int .u8 k,.int .i64 wds,.int .u64 m],.int .i64 G]) b))
    (hF:∀ b,Kp Aa w b->Calls prog 78 #[.pointer (some x),.agg #[.int .u8 1,ty,ln,sz]] b (RK (.int .i64 F) b))
    (s:∀ b,Kp Aa w b->Calls prog 79 #[.pointer (some a)] b λ e w'=>e=.returned (.int .i64 ((n/2:Nat):Int))/\w'=b):
    Calls prog 30 #[.pointer (some a),.pointer (some x),g] w (SOfNo w):=by
  have O:=sE E
  have N:=sE D
  have M:=sE hF
  obtain⟨H,Q⟩:∃ H,n/2=H:=⟨_,rfl⟩
  rw[Q] at s R
  have Y:H<=32768:=by omega
  have W:=sE s
  subst P
  clear E D hF s
  go_enter func30,ntmps30
  go_wp2_with fail
  refine(O.o _ (Kr _ _)).mono ?_
  rintro e w2 ⟨rfl,I⟩
  have c:=wN w2 (.cells #[.int .u8 1,ty,ln,sz] 111)
  obtain⟨y,j⟩:∃ y,y=w2.alloc (.cells #[.int .u8 1,ty,ln,sz] 111):=⟨_,rfl⟩
  rw[<- j] at c
  have J:Kp Aa w y:=by rw[j];exact I.alloc _
  obtain⟨c0,d,f,i⟩:=Ay c
  have L:=sE c
  clear c
  go_wp2_with fail
  try rw[<- j]
  clear j
  try go_wp2_with fail
  refine(N.o _ J).mono ?_
  rintro e z ⟨rfl,t⟩
  have r:=t.at_ L.o id
  have a1:=lZ r
  have q:=wN z (.cells #[.int .u8 k,.int .i64 wds,.int .u64 m] 106)
  obtain⟨p,l⟩:∃ p,p=z.alloc (.cells #[.int .u8 k,.int .i64 wds,.int .u64 m] 106):=⟨_,rfl⟩
  rw[<- l] at q
  have u:Kp Aa z p:=by rw[l];exact (Kr _ _).alloc _
  have C:=(J.then' t).then' u
  have B:=sE (u.at_ r id)
  have A:=sE q
  clear c0 d f i r q
  obtain⟨c0,d,f,i⟩:=Ay B.o
  obtain⟨a5,a6,a7⟩:=cells3 A.o
  have Z:=lZ B.o
  have a0:=lZ A.o
  have a4:=I.size
  go_wp2_with fail
  try rw[<- l]
  clear l t u
  try go_wp2_with fail
  refine wp_region_held_drew (S:=(λ w'=>w'.cell? w2.heap.size=some (.int .u8 1)/\w'.cell? ⟨w2.heap.size,1,none⟩=some (.int .i64 ty)/\w'.cell? ⟨w2.heap.size,2,none⟩=some (.int .i64 ln)/\w'.cell? ⟨w2.heap.size,3,none⟩=some (.int .i64 sz))) (by kernel_rfl) ?_ (λ U=>?_)
  . (try dsimp only);(exact ⟨Ae (by (repeat (first|assumption|exact Kr _ _|refine Kp.drew ?_|refine Kp.alloc ?_ _|refine Kp.Av ?_ (by omega) _))) c0,Ae (by (repeat (first|assumption|exact Kr _ _|refine Kp.drew ?_|refine Kp.alloc ?_ _|refine Kp.Av ?_ (by omega) _))) d,Ae (by (repeat (first|assumption|exact Kr _ _|refine Kp.drew ?_|refine Kp.alloc ?_ _|refine Kp.Av ?_ (by omega) _))) f,Ae (by (repeat (first|assumption|exact Kr _ _|refine Kp.drew ?_|refine Kp.alloc ?_ _|refine Kp.Av ?_ (by omega) _))) i⟩)
  refine Ap 0 ?_;refine Ap 1 ?_;refine Ap 2 ?_;refine Ap 3 ?_;refine Ap 4 ?_;refine Ap 5 ?_
  try simp only[AB]
  refine Bp [6] ?_
  refine Ag rfl (λ K hK=>?_)
  go_simp
  go_at_call 78
  with_reducible refine(M.o _ (C.then' ?hkk)).mono ?_
  case hkk=>(repeat (first|assumption|exact Kr _ _|refine Kp.drew ?_|refine Kp.alloc ?_ _|refine Kp.Av ?_ (by omega) _))
  rintro e V ⟨rfl,T⟩
  have X:Kp Aa p V:=Kp.then' (by (repeat (first|assumption|exact Kr _ _|refine Kp.drew ?_|refine Kp.alloc ?_ _|refine Kp.Av ?_ (by omega) _))) T
  refine hK _ _ ?_ (λ U=>?_)
  . (try dsimp only);(exact ⟨Ae (by (repeat (first|assumption|exact Kr _ _|refine Kp.drew ?_|refine Kp.alloc ?_ _|refine Kp.Av ?_ (by omega) _))) c0,Ae (by (repeat (first|assumption|exact Kr _ _|refine Kp.drew ?_|refine Kp.alloc ?_ _|refine Kp.Av ?_ (by omega) _))) d,Ae (by (repeat (first|assumption|exact Kr _ _|refine Kp.drew ?_|refine Kp.alloc ?_ _|refine Kp.Av ?_ (by omega) _))) f,Ae (by (repeat (first|assumption|exact Kr _ _|refine Kp.drew ?_|refine Kp.alloc ?_ _|refine Kp.Av ?_ (by omega) _))) i⟩)
  clear hK K
  try simp only[AB]
  refine Ap 7 ?_;refine Ap 8 ?_;refine Ap 9 ?_
  try simp only[AB]
  refine sk 10 rfl ?_
  try simp only[AB]
  refine sk 11 rfl ?_
  try simp only[AB]
  refine sk 12 rfl ?_
  try simp only[AB]
  refine sk 13 rfl ?_
  try simp only[AB]
  refine sk 14 rfl ?_
  try simp only[AB]
  refine sk 15 rfl ?_
  try simp only[AB]
  refine sk 16 rfl ?_
  try simp only[AB]
  refine Ap 17 ?_
  try simp only[AB]
  refine wpAnyH_done (by kernel_rfl) ?_ _
  go_wp2
  exact bodyPost_ret (v:=.tuple #[.pointer none,(8:Int)]) (by simp[results,results30,go_sem]) rfl ⟨8,by omega,rfl,C.then' (by first|exact (Kr _ _).drewN _|(repeat (first|assumption|exact Kr _ _|refine Kp.drew ?_|refine Kp.alloc ?_ _|refine Kp.Av ?_ (by omega) _)))⟩

theorem SOf_big(g a n:Nat)(y:Nat)(ty ln sz:Nat)(k wds:Int)(m:Nat)(G:Int)(F:Int)(w:World)(P:F=0)(a4:n/2-g<sz)(a1:sz<16777216)(a0:n<=65536)(R:g<n/2)
    (E:∀ b,Kp Aa w b->Calls prog 76 #[.pointer (some a),g] b (RK (.tuple #[.agg #[.int .u8 1,ty,ln,sz],(0:Int)]) b))
    (D:∀ b,Kp Aa w b->Calls prog 77 #[.pointer (some y),ty] b (RK (.tuple #[.agg #[.int .u8 k,.int .i64 wds,.int .u64 m],.int .i64 G]) b))
    (hF:∀ b,Kp Aa w b->Calls prog 78 #[.pointer (some y),.agg #[.int .u8 1,ty,ln,sz]] b (RK (.int .i64 F) b))
    (t:∀ b,Kp Aa w b->Calls prog 79 #[.pointer (some a)] b λ e w'=>e=.returned (.int .i64 ((n/2:Nat):Int))/\w'=b):
    Calls prog 30 #[.pointer (some a),.pointer (some y),g] w (SOfNo w):=by
  have N:=sE E
  have M:=sE D
  have L:=sE hF
  obtain⟨H,Q⟩:∃ H,n/2=H:=⟨_,rfl⟩
  rw[Q] at t R
  have V:H<=32768:=by omega
  have O:=sE t
  subst P
  have a2:IntKind.i64.wrap ((H:Int)-(g:Int))=((H-g:Nat):Int):=by rw[IntKind.wrap_i64];omega
  have W:decide (((H-g:Nat):Int)<(sz:Int))=true:=dT (by omega)
  clear E D hF t
  go_enter func30,ntmps30
  go_wp2_with fail
  refine(N.o _ (Kr _ _)).mono ?_
  rintro e w2 ⟨rfl,I⟩
  have c:=wN w2 (.cells #[.int .u8 1,ty,ln,sz] 111)
  obtain⟨z,d⟩:∃ z,z=w2.alloc (.cells #[.int .u8 1,ty,ln,sz] 111):=⟨_,rfl⟩
  rw[<- d] at c
  have J:Kp Aa w z:=by rw[d];exact I.alloc _
  obtain⟨c0,q,r,s⟩:=Ay c
  have K:=sE c
  clear c
  go_wp2_with fail
  try rw[<- d]
  clear d
  try go_wp2_with fail
  refine(M.o _ J).mono ?_
  rintro e A ⟨rfl,u⟩
  have p:=u.at_ K.o id
  have Z:=lZ p
  have l:=wN A (.cells #[.int .u8 k,.int .i64 wds,.int .u64 m] 106)
  obtain⟨i,f⟩:∃ i,i=A.alloc (.cells #[.int .u8 k,.int .i64 wds,.int .u64 m] 106):=⟨_,rfl⟩
  rw[<- f] at l
  have x:Kp Aa A i:=by rw[f];exact (Kr _ _).alloc _
  have j:=(J.then' u).then' x
  have C:=sE (x.at_ p id)
  have B:=sE l
  clear c0 q r s p l
  obtain⟨c0,q,r,s⟩:=Ay C.o
  obtain⟨a5,a6,a7⟩:=cells3 B.o
  have X:=lZ C.o
  have Y:=lZ B.o
  have a3:=I.size
  go_wp2_with fail
  try rw[<- f]
  clear f u x
  try go_wp2_with fail
  go_region_held3 (λ w'=>w'.cell? w2.heap.size=some (.int .u8 1)/\w'.cell? ⟨w2.heap.size,1,none⟩=some (.int .i64 ty)/\w'.cell? ⟨w2.heap.size,2,none⟩=some (.int .i64 ln)/\w'.cell? ⟨w2.heap.size,3,none⟩=some (.int .i64 sz))
    (exact ⟨Ae (by (repeat (first|assumption|exact Kr _ _|refine Kp.drew ?_|refine Kp.alloc ?_ _|refine Kp.Av ?_ (by omega) _))) c0,Ae (by (repeat (first|assumption|exact Kr _ _|refine Kp.drew ?_|refine Kp.alloc ?_ _|refine Kp.Av ?_ (by omega) _))) q,Ae (by (repeat (first|assumption|exact Kr _ _|refine Kp.drew ?_|refine Kp.alloc ?_ _|refine Kp.Av ?_ (by omega) _))) r,Ae (by (repeat (first|assumption|exact Kr _ _|refine Kp.drew ?_|refine Kp.alloc ?_ _|refine Kp.Av ?_ (by omega) _))) s⟩)
    (first
      |(go_at_call 78;with_reducible refine(L.o _ (j.then' (by (repeat (first|assumption|exact Kr _ _|refine Kp.drew ?_|refine Kp.alloc ?_ _|refine Kp.Av ?_ (by omega) _))))).mono ?_;rintro e T ⟨rfl,S⟩;have U:Kp Aa i T:=Kp.then' (by (repeat (first|assumption|exact Kr _ _|refine Kp.drew ?_|refine Kp.alloc ?_ _|refine Kp.Av ?_ (by omega) _))) S)
      |(go_at_call 79;with_reducible refine(O.o _ (j.then' (by (repeat (first|assumption|exact Kr _ _|refine Kp.drew ?_|refine Kp.alloc ?_ _|refine Kp.Av ?_ (by omega) _))))).mono ?_;rintro e a8 ⟨rfl,rfl⟩))
  go_wp2
  exact bodyPost_ret (v:=.tuple #[.pointer none,(8:Int)]) (by simp[results,results30,go_sem]) rfl ⟨8,by omega,rfl,j.then' (by first|exact (Kr _ _).drewN _|(repeat (first|assumption|exact Kr _ _|refine Kp.drew ?_|refine Kp.alloc ?_ _|refine Kp.Av ?_ (by omega) _)))⟩

theorem SOf_ok(g a n:Nat)(E:Nat)(ty ln sz:Nat)(k wds:Int)(m:Nat)(G:Int)(F:Int)(w:World)(X:F=0)(b4:sz<=n/2-g)(a9:sz<16777216)(a8:n<=65536)(Z:g<n/2)
    (M:∀ c,Kp Aa w c->Calls prog 76 #[.pointer (some a),g] c (RK (.tuple #[.agg #[.int .u8 1,ty,ln,sz],(0:Int)]) c))
    (L:∀ c,Kp Aa w c->Calls prog 77 #[.pointer (some E),ty] c (RK (.tuple #[.agg #[.int .u8 k,.int .i64 wds,.int .u64 m],.int .i64 G]) c))
    (hF:∀ c,Kp Aa w c->Calls prog 78 #[.pointer (some E),.agg #[.int .u8 1,ty,ln,sz]] c (RK (.int .i64 F) c))
    (B:∀ c,Kp Aa w c->Calls prog 79 #[.pointer (some a)] c λ e w'=>e=.returned (.int .i64 ((n/2:Nat):Int))/\w'=c):
    Calls prog 30 #[.pointer (some a),.pointer (some E),g] w (λ e w'=>∃ b,e=.returned (.tuple #[.pointer (some ⟨b,0,none⟩),(0:Int)])/\Ce w' b a ⟨g,1,ty,ln,sz⟩ k wds m/\w.heap.size<=b/\Kp Aa w w'):=by
  have V:=sE M
  have U:=sE L
  have T:=sE hF
  obtain⟨H,Y⟩:∃ H,n/2=H:=⟨_,rfl⟩
  rw[Y] at B Z
  have a4:H<=32768:=by omega
  have W:=sE B
  subst X
  have b2:IntKind.i64.wrap ((H:Int)-(g:Int))=((H-g:Nat):Int):=by rw[IntKind.wrap_i64];omega
  have a5:decide (((H-g:Nat):Int)<(sz:Int))=false:=dF (by omega)
  clear M L hF B
  go_enter func30,ntmps30
  go_wp2_with fail
  refine(V.o _ (Kr _ _)).mono ?_
  rintro e w2 ⟨rfl,N⟩
  have p:=wN w2 (.cells #[.int .u8 1,ty,ln,sz] 111)
  obtain⟨I,q⟩:∃ I,I=w2.alloc (.cells #[.int .u8 1,ty,ln,sz] 111):=⟨_,rfl⟩
  rw[<- q] at p
  have O:Kp Aa w I:=by rw[q];exact N.alloc _
  obtain⟨c0,d,f,i⟩:=Ay p
  have S:=sE p
  clear p
  go_wp2_with fail
  try rw[<- q]
  clear q
  try go_wp2_with fail
  refine(U.o _ O).mono ?_
  rintro e J ⟨rfl,C⟩
  have z:=C.at_ S.o id
  have a7:=lZ z
  have x:=wN J (.cells #[.int .u8 k,.int .i64 wds,.int .u64 m] 106)
  obtain⟨s,r⟩:∃ s,s=J.alloc (.cells #[.int .u8 k,.int .i64 wds,.int .u64 m] 106):=⟨_,rfl⟩
  rw[<- r] at x
  have D:Kp Aa J s:=by rw[r];exact (Kr _ _).alloc _
  have j:=(O.then' C).then' D
  have u:=sE (D.at_ z id)
  have t:=sE x
  clear c0 d f i z x
  obtain⟨c0,d,f,i⟩:=Ay u.o
  obtain⟨P,Q,R⟩:=cells3 t.o
  have a6:=lZ u.o
  have a0:=lZ t.o
  have b3:=N.size
  go_wp2_with fail
  try rw[<- r]
  clear r C D
  try go_wp2_with fail
  go_region_held3 (λ w'=>w'.cell? w2.heap.size=some (.int .u8 1)/\w'.cell? ⟨w2.heap.size,1,none⟩=some (.int .i64 ty)/\w'.cell? ⟨w2.heap.size,2,none⟩=some (.int .i64 ln)/\w'.cell? ⟨w2.heap.size,3,none⟩=some (.int .i64 sz))
    (exact ⟨Ae (by (repeat (first|assumption|exact Kr _ _|refine Kp.drew ?_|refine Kp.alloc ?_ _|refine Kp.Av ?_ (by omega) _))) c0,Ae (by (repeat (first|assumption|exact Kr _ _|refine Kp.drew ?_|refine Kp.alloc ?_ _|refine Kp.Av ?_ (by omega) _))) d,Ae (by (repeat (first|assumption|exact Kr _ _|refine Kp.drew ?_|refine Kp.alloc ?_ _|refine Kp.Av ?_ (by omega) _))) f,Ae (by (repeat (first|assumption|exact Kr _ _|refine Kp.drew ?_|refine Kp.alloc ?_ _|refine Kp.Av ?_ (by omega) _))) i⟩)
    (first
      |(go_at_call 78;with_reducible refine(T.o _ (j.then' (by (repeat (first|assumption|exact Kr _ _|refine Kp.drew ?_|refine Kp.alloc ?_ _|refine Kp.Av ?_ (by omega) _))))).mono ?_;rintro e a2 ⟨rfl,a1⟩;have l:Kp Aa s a2:=Kp.then' (by (repeat (first|assumption|exact Kr _ _|refine Kp.drew ?_|refine Kp.alloc ?_ _|refine Kp.Av ?_ (by omega) _))) a1)
      |(go_at_call 79;with_reducible refine(W.o _ (j.then' (by (repeat (first|assumption|exact Kr _ _|refine Kp.drew ?_|refine Kp.alloc ?_ _|refine Kp.Av ?_ (by omega) _))))).mono ?_;rintro e K ⟨rfl,rfl⟩))
  have A:=l.at_ u.o id
  have y:=l.at_ t.o id
  clear c0 d f i P Q R
  obtain⟨c0,d,f,i⟩:=Ay A
  obtain⟨P,Q,R⟩:=cells3 y
  have a0:=lZ y
  have b1:=l.size
  have b0:=j.size
  have a3:=sE A
  clear A y
  go_wp2
  exact bodyPost_ret (v:=.tuple #[.pointer (some K.heap.size),(0:Int)]) (by simp[results,results30,go_sem]) rfl ⟨K.heap.size,rfl,wN K _,by omega,(j.then' l).alloc _⟩

def Db(a:Nat)(W:Nat->Nat)(n:Nat)(ts:List TypR)(g:Int)(w:World)(e:Ending)(w':World):Prop:=
  match Cj W n ts g with
  |some c=>SOfYes a ts c w e w'
  |none=>SOfNo w e w'

theorem tagW_lt(X:Nat):CE X=0\/CE X=1\/CE X=2\/CE X=3:=by unfold CE;omega

theorem SOf_any(g:Int)(a q n t E:Nat)(W:Nat->Nat)(ts:List TypR)(w:World)(hF:Au w)(C:ArenaAt w a q W n)(G:TableAt w t E ts):
    Calls prog 30 #[.pointer (some a),.pointer (some t),.int .i64 g] w (Db a W n ts g w):=by
  have z:=C.small
  by_cases hg:0<=g/\g<((n/2:Nat):Int)
  . obtain⟨j,rfl⟩:=Int.eq_ofNat_of_zero_le hg.1
    have s:j<n/2:=by omega
    have D:∀ d,Kp Aa w d->Calls prog 76 #[.pointer (some a),j] d (FC (Ct (W (2*j))) (CE (W (2*j))) (EA (W (2*j))) (EX (W (2*j))) (DY (W (2*j))) d):=
      λ d k=>SHead_at j a q n W d (hF.Ac k) (C.Ac k) s
    by_cases hd:Ct (W (2*j))=true
    . rw[hd] at D
      have i:∀ d,Kp Aa w d->Calls prog 76 #[.pointer (some a),j] d (RK (.tuple #[.agg #[.int .u8 (CE (W (2*j)):Nat),.int .i64 (EA (W (2*j)):Nat),.int .i64 (EX (W (2*j)):Nat),.int .i64 (DY (W (2*j)):Nat)],(0:Int)]) d):=
        λ d k=>(D d k).mono λ_ _ f=>f
      have u:DY (W (2*j))<16777216:=by unfold DY;omega
      have A:Am (CE (W (2*j)):Nat) (EA (W (2*j)):Nat) (EX (W (2*j)):Nat) (DY (W (2*j)):Nat)=true:=by
        have:=hd
        unfold Ct at this
        simp only[Bool.and_eq_true] at this
        exact this.1
      have y:∀ d,Kp Aa w d->Calls prog 79 #[.pointer (some a)] d λ e w'=>e=.returned (.int .i64 ((n/2:Nat):Int))/\w'=d:=λ d k=>gran_at' a q n W d (C.Ac k)
      obtain⟨k,wds,m,l,K,p⟩:∃ (k wds:Int) (m:Nat) (l:Int),(∀ x,typeOf ts (EA (W (2*j)):Nat)=some x->x=⟨k,wds,m⟩)/\∀ d,Kp Aa w d->Calls prog 77 #[.pointer (some t),.int .i64 (EA (W (2*j)):Nat)] d (RK (.tuple #[.agg #[.int .u8 k,.int .i64 wds,.int .u64 m],.int .i64 l]) d):=by
        cases ht:typeOf ts (EA (W (2*j)):Nat) with
        |none=>exact ⟨0,0,0,3,(λ x B=>(by cases B)),λ d o=>(Get_any _ t E ts d (G.Ac o)).mono λ_ _ f=>by unfold FD at f;rw [ht] at f;exact f⟩
        |some x=>
          obtain⟨k,wds,m⟩:=x
          exact⟨k,wds,m,0,λ x B=>by injection B with B;exact B.symm,λ d o=>(Get_any _ t E ts d (G.Ac o)).mono λ_ _ f=>by unfold FD at f;rw [ht] at f;exact f⟩
      obtain⟨X,H⟩:∃ X,W (2*j)=X:=⟨_,rfl⟩
      have I:¬ (CE X=1/\CU ts 1 (EA X:Nat) (EX X:Nat) (DY X:Nat)=0/\DY X<=n/2-j)->Cj W n ts (j:Nat)=none:=by
        intro P
        unfold Cj
        rw[if_neg]
        rw[Int.toNat_natCast,H]
        exact λ⟨_,_,_,c4,c5,c6⟩=>P ⟨c4,c5,c6⟩
      rw[H] at i p u A K hd
      by_cases h1:CE X=1
      . rw[h1] at i A
        have F:∀ d,Kp Aa w d->Calls prog 78 #[.pointer (some t),.agg #[.int .u8 1,.int .i64 (EA X:Nat),.int .i64 (EX X:Nat),.int .i64 (DY X:Nat)]] d (RK (.int .i64 (CU ts 1 (EA X:Nat) (EX X:Nat) (DY X:Nat))) d):=
          λ d o=>Fits_one (EA X:Nat) (EX X:Nat) (DY X:Nat) t E ts d (hF.Ac o) (G.Ac o) A
        by_cases hf:CU ts 1 (EA X:Nat) (EX X:Nat) (DY X:Nat)=0
        . by_cases hz:DY X<=n/2-j
          . have R:Cj W n ts (j:Nat)=some ⟨j,1,EA X,EX X,DY X⟩:=by
              unfold Cj
              rw[Int.toNat_natCast,H,if_pos ⟨hg.1,hg.2,hd,h1,hf,hz⟩]
            obtain⟨S,M,T⟩:=fitsE_zero hf
            obtain⟨U,V,m',J⟩:=Fs M
            have Q:=K _ J
            injection Q with q1 q2 q3
            refine(SOf_ok j a n t (EA X) (EX X) (DY X) k wds m l _ w hf hz u z s i p F y).mono λ e w' ⟨b,he,hv,hb,hk⟩=>?_
            unfold Db
            rw[R]
            exact⟨b,k,wds,m,by rw[J,q1,q2,q3],he,hv,hb,hk⟩
          . refine(SOf_big j a n t (EA X) (EX X) (DY X) k wds m l _ w hf (by omega) u z s i p F y).mono λ e w' f=>?_
            unfold Db
            rw[I (λ ⟨_,_,c⟩=>hz c)]
            exact f
        . have O:CU ts 1 (EA X:Nat) (EX X:Nat) (DY X:Nat)=8:=by
            rw[fitsE_obj A] at hf ⊢
            split at hf
            . split at hf
              . exact absurd rfl hf
              . rename_i a b;rw [if_pos a,if_neg b]
            . rename_i a;rw [if_neg a]
          refine(SOf_fit j a n t (EA X) (EX X) (DY X) k wds m l _ w O u z s i p F y).mono λ e w' f=>?_
          unfold Db
          rw[I (λ ⟨_,c,_⟩=>hf c)]
          exact f
      . have v:∀ d,Kp Aa w d->Calls prog 78 #[.pointer (some t),.agg #[.int .u8 (CE X:Nat),.int .i64 (EA X:Nat),.int .i64 (EX X:Nat),.int .i64 (DY X:Nat)]] d (RK (.int .i64 0) d):=
          λ d o=>Fits_gap (CE X:Nat) (EA X:Nat) (EX X:Nat) (DY X:Nat) _ d (hF.Ac o) A (by omega)
        unfold Db
        rw[I (λ ⟨c,_⟩=>h1 c)]
        rcases tagW_lt X with r|r|r|r
        . rw[r] at i v
          exact SOf_tag0 j a n t (EA X) (EX X) (DY X) k wds m l _ w u z s i p v y
        . exact absurd r h1
        . rw[r] at i v
          exact SOf_tag2 j a n t (EA X) (EX X) (DY X) k wds m l _ w u z s i p v y
        . rw[r] at i v
          exact SOf_tag3 j a n t (EA X) (EX X) (DY X) k wds m l _ w u z s i p v y
    . have N:Ct (W (2*j))=false:=by simpa using hd
      rw[N] at D
      unfold Db
      rw[show Cj W n ts (j:Nat)=none by unfold Cj;rw [if_neg];rw [Int.toNat_natCast];exact λ⟨_,_,c,_⟩=>hd c]
      exact SOf_err (j:Nat) a _ 7 w (by omega) λ d k=>(D d k).mono λ_ _ f=>f
  . unfold Db
    rw[show Cj W n ts g=none by unfold Cj;rw [if_neg];exact λ⟨L,c2,_⟩=>hg ⟨L,c2⟩]
    exact SOf_err g a _ 2 w (by omega) λ d k=>SHead_out g a q n W d (C.Ac k) (by omega)

end

section
open Go.RowKit

theorem KSlots_ok(k wds:Int)(M:Nat)(n:Int)(w:World)(c:AU k wds M n=0):Calls prog 178 #[.agg #[.int .u8 k,.int .i64 wds,.int .u64 M],.int .i64 n] w (RK (.tuple #[.int .i64 (AZ k wds n),(0:Int)]) w):=by
  have b:=λ w=>Kof_any k wds M n w
  have l:=(Kr Aa w).alloc (.cells #[.int .u8 k,.int .i64 wds,.int .u64 M] 106)
  unfold AJ at b
  have p:=sE b
  have d:=sE c
  have a:=λ w=>slots_any k wds M n w c
  obtain⟨s,f⟩:∃ s,AZ k wds n=s:=⟨_,rfl⟩
  rw[f] at a ⊢
  unfold BU at a
  have m:=sE a
  clear b a f c
  go_enter func178,ntmps178
  go_wp2_with fail
  obtain⟨w1,j⟩:∃ w1,w1=w.alloc (.cells #[.int .u8 k,.int .i64 wds,.int .u64 M] 106):=⟨_,rfl⟩
  rw[<- j] at l ⊢
  clear j
  refine(p.o w1).mono ?_
  rintro e w2 ⟨v,rfl,q,g,r⟩
  have i:=g d.o
  unfold BU at i
  subst i
  rw[d.o]
  clear q g
  go_wp2_with fail
  refine(m.o _).mono ?_
  rintro e u ⟨rfl,t⟩
  go_wp2
  exact bodyPost_ret (v:=.tuple #[.int .i64 s,(0:Int)]) (by simp[results,results178,go_sem]) rfl ⟨rfl,((l.then' r).alloc _).then' t⟩

theorem Ce.keep{S:Nat->Prop}{w w':World}{b a:Nat}{c:Cel}{k wds:Int}{m:Nat}(d:Ce w b a c k wds m)(f:Kp S w w')(e:¬ S b):Ce w' b a c k wds m:=f.at_ d e

theorem Ce.Ac{w w':World}{b a:Nat}{c:Cel}{k wds:Int}{m:Nat}(d:Ce w b a c k wds m)(e:Kp Aa w w'):Ce w' b a c k wds m:=d.keep e id

theorem Ce.cells{w:World}{b a:Nat}{c:Cel}{k wds:Int}{m:Nat}(h:Ce w b a c k wds m):
    w.cell? b=some (.pointer (some a))/\w.cell? ⟨b,1,none⟩=some (.int .i64 c.g)/\w.cell? ⟨b,2,none⟩=some (.int .u8 c.tag)/\w.cell? ⟨b,3,none⟩=some (.int .i64 c.ty)/\w.cell? ⟨b,4,none⟩=some (.int .i64 c.ln)/\w.cell? ⟨b,5,none⟩=some (.int .i64 c.sz)/\
      w.cell? ⟨b,6,none⟩=some (.int .u8 k)/\w.cell? ⟨b,7,none⟩=some (.int .i64 wds)/\w.cell? ⟨b,8,none⟩=some (.int .u64 m):=by
  refine⟨?_,?_,?_,?_,?_,?_,?_,?_,?_⟩ <;> simp only[World.cell?,show w.heap[b]?=_ from h] <;> rfl

theorem VSlots_at(b a:Nat)(c:Cel)(k wds:Int)(m:Nat)(w:World)(g:Ce w b a c k wds m)(i:AU k wds m (c.ln:Nat)=0):
    Calls prog 137 #[.pointer (some b)] w (RK (.int .i64 (AZ k wds (c.ln:Nat))) w):=by
  have f:Sl (∀ d,Calls prog 178 #[.agg #[.int .u8 k,.int .i64 wds,.int .u64 m],c.ln] d (RK (.tuple #[.int .i64 (AZ k wds (c.ln:Nat)),(0:Int)]) d)):=⟨λ d=>KSlots_ok k wds m (c.ln:Nat) d i⟩
  obtain⟨s,l⟩:∃ s,AZ k wds (c.ln:Nat)=s:=⟨_,rfl⟩
  rw[l] at f ⊢
  obtain⟨v0,r,t,u,n,v,x,y,z⟩:=g.cells
  have A:=lZ g
  obtain⟨ln,j⟩:∃ ln,c.ln=ln:=⟨_,rfl⟩
  rw[j] at f n
  clear l g i v0 r t u v j
  go_enter func137,ntmps137
  go_wp2_with fail
  go_region_held3 (λ w'=>w'.cell? ⟨b,4,none⟩=some (.int .i64 (ln:Nat))/\w'.cell? ⟨b,6,none⟩=some (.int .u8 k)/\w'.cell? ⟨b,7,none⟩=some (.int .i64 wds)/\w'.cell? ⟨b,8,none⟩=some (.int .u64 m))
    (exact ⟨Ae (by (repeat (first|assumption|exact Kr _ _|refine Kp.drew ?_|refine Kp.alloc ?_ _|refine Kp.Av ?_ (by omega) _))) n,Ae (by (repeat (first|assumption|exact Kr _ _|refine Kp.drew ?_|refine Kp.alloc ?_ _|refine Kp.Av ?_ (by omega) _))) x,Ae (by (repeat (first|assumption|exact Kr _ _|refine Kp.drew ?_|refine Kp.alloc ?_ _|refine Kp.Av ?_ (by omega) _))) y,Ae (by (repeat (first|assumption|exact Kr _ _|refine Kp.drew ?_|refine Kp.alloc ?_ _|refine Kp.Av ?_ (by omega) _))) z⟩)
    (first | (go_at_call 178;with_reducible refine(f.o _).mono ?_;rintro e w2 ⟨rfl,q⟩
              have p:Kp Aa w w2:=Kp.then' (by (repeat (first|assumption|exact Kr _ _|refine Kp.drew ?_|refine Kp.alloc ?_ _|refine Kp.Av ?_ (by omega) _))) q))
  go_wp2
  go_ret
  exact⟨rfl,p.then' (by (repeat (first|assumption|exact Kr _ _|refine Kp.drew ?_|refine Kp.alloc ?_ _|refine Kp.Av ?_ (by omega) _)))⟩

theorem VWord_yes(j b a:Nat)(c:Cel)(k wds:Int)(m:Nat)(w:World)(f:Ce w b a c k wds m)(d:AU k wds m (c.ln:Nat)=0)(q:(j:Int)<AZ k wds (c.ln:Nat))(u:c.g<=65536):
    Calls prog 80 #[.pointer (some b),j] w (RK (.tuple #[.int .i64 ((2*c.g+1+j:Nat):Int),(0:Int)]) w):=by
  have i:=sE (VSlots_at b a c k wds m w f d)
  have r:=(Bj d).2
  obtain⟨s,l⟩:∃ s,AZ k wds (c.ln:Nat)=s:=⟨_,rfl⟩
  rw[l] at i r q
  have t:¬ s<=(j:Int):=by omega
  have p:=sE f
  clear l f d
  go_enter func80,ntmps80
  go_wp2_with fail
  refine i.o.mono ?_
  rintro e w2 ⟨rfl,n⟩
  obtain⟨v0,x,-⟩:=(p.o.Ac n).cells
  go_wp2
  exact bodyPost_ret (v:=.tuple #[.int .i64 ((2*c.g+1+j:Nat):Int),(0:Int)]) (by simp[results,results80,go_sem]) rfl ⟨rfl,n⟩

theorem VStore_yes(j x b a q n:Nat)(W:Nat->Nat)(c:Cel)(k wds:Int)(m:Nat)(w:World)(f:ArenaAt w a q W n)(i:Ce w b a c k wds m)(s:AU k wds m (c.ln:Nat)=0)(t:(j:Int)<AZ k wds (c.ln:Nat))(v:x<18446744073709551616)(u:2*c.g+1+j<n):
    Calls prog 33 #[.pointer (some ⟨b,0,none⟩),j,.int .u64 x] w (Stored w a q n (DN W (2*c.g+1+j) x)):=by
  have E:=f.small
  have r:=sE (VWord_yes j b a c k wds m w i s t (by omega))
  have I:=sE f
  have B:=sE i
  have p:Sl (∀ d,Kp Aa w d->Calls prog 81 #[.pointer (some a),.int .i64 ((2*c.g+1+j:Nat):Int),.int .u64 x] d (Stored d a q n (DN W (2*c.g+1+j) x))):=
    ⟨λ d G=>AStore_yes (2*c.g+1+j) x a q n W d (f.Ac G) u v⟩
  obtain⟨z,y⟩:∃ z,2*c.g+1+j=z:=⟨_,rfl⟩
  rw[y] at r p ⊢
  clear E f i s t v u y
  go_enter func33,ntmps33
  go_wp2_with fail
  refine r.o.mono ?_
  rintro e w2 ⟨rfl,l⟩
  obtain⟨v0,-⟩:=(B.o.Ac l).cells
  go_wp2_with fail
  refine(p.o _ l).mono ?_
  rintro e H ⟨rfl,F,A⟩
  have C:Kp (λ b=>b=a\/b=q) w H:=(l.Aw _).trans F (λ _ _ D=>D)
  go_wp2
  go_ret
  exact⟨rfl,C,A⟩

theorem VLoad_yes(j b a q n:Nat)(W:Nat->Nat)(c:Cel)(k wds:Int)(m:Nat)(w:World)(i:ArenaAt w a q W n)(l:Ce w b a c k wds m)(s:AU k wds m (c.ln:Nat)=0)(t:(j:Int)<AZ k wds (c.ln:Nat))(u:2*c.g+1+j<n):
    Calls prog 129 #[.pointer (some b),j] w (RK (.tuple #[.int .u64 (W (2*c.g+1+j):Nat),(0:Int)]) w):=by
  have C:=i.small
  have r:=sE (VWord_yes j b a c k wds m w l s t (by omega))
  have B:=sE l
  have f:Sl (∀ d,Kp Aa w d->Calls prog 131 #[.pointer (some a),.int .i64 ((2*c.g+1+j:Nat):Int)] d (λ e w'=>e=.returned (.tuple #[.int .u64 (W (2*c.g+1+j):Nat),(0:Int)])/\d=w')):=
    ⟨λ d D=>ALoad_yes (2*c.g+1+j) a q n W d (i.Ac D) u⟩
  obtain⟨z,A⟩:∃ z,2*c.g+1+j=z:=⟨_,rfl⟩
  rw[A] at r f ⊢
  obtain⟨y,x⟩:∃ y,W z=y:=⟨_,rfl⟩
  rw[x] at f ⊢
  clear C i l s t u A x
  go_enter func129,ntmps129
  go_wp2_with fail
  refine r.o.mono ?_
  rintro e w2 ⟨rfl,p⟩
  obtain⟨v0,-⟩:=(B.o.Ac p).cells
  go_wp2_with fail
  refine(f.o _ p).mono ?_
  rintro e E ⟨rfl,rfl⟩
  go_wp2
  exact bodyPost_ret (v:=.tuple #[.int .u64 (y:Nat),(0:Int)]) (by simp[results,results129,go_sem]) rfl ⟨rfl,p⟩

theorem FR(P:Sp)(W:Nat->Nat)(f:Nat->Bool)(w:World)(b:SpaceAt w P W f):
    Calls prog 31 #[.pointer (some P.s)] w λ e w'=>e=.returned (.pointer (some P.a))/\w'=w:=by
  obtain⟨c0,c,d⟩:=b.head
  clear b c d
  go_enter func31,ntmps31
  go_wp2
  go_ret
  exact⟨rfl,rfl⟩

end

end Go.Proofs.YtfkedlgpgmaemaaGreatDoor
