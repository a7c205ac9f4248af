/-
  Lemmas for the laws, together: View.
-/
import Derived.Test.YtfkedlgpgmaemaaGreatDoorQag
import Derived.Test.YtfkedlgpgmaemaaGreatDoorQaj
import Derived.Deep.RegionHeld3
set_option linter.unusedVariables false
set_option maxHeartbeats 16000000
namespace Go.Proofs.YtfkedlgpgmaemaaGreatDoor
open Tryz
section
open Go.RowKit
attribute [local go_sem ↓] EJ

section
variable {P:Program} {md:Region.Mode} {Q:Exit->Act->World->Prop} {S:World->Prop}

theorem take_held{l:List Oper}{i:Nat}{oi:Oper}{v:Value}{fuel:Nat}{listed:Array Bool}{a:Act}{w:World}(hi:l[i]?=some oi)
    (hs:Region.noSelect l.toArray=true) (hf:Region.free md l.toArray listed i=true) (hr:(Region.ready md l.toArray listed).contains i=true)
    (hQ:∀ c a w,Q (.panic c) (a.put oi.dst v) w->Q (.panic c) a w) (hy:YieldsIf P l.toArray S oi v a) (hS:S w)
    (h:wpAnyH P md l.toArray Q S fuel (listed.setIfInBounds i true) (a.put oi.dst v) w):wpAnyH P md l.toArray Q S (fuel+1) listed a w:=
  wpAnyH_take (by simpa using hi) hs hf hr hQ hy hS h

theorem Ap{l:List Oper}(i:Nat){oi:Oper}{v:Value}{fuel:Nat}{listed:Array Bool}{a:Act}{w:World}(h:wpAnyH P md l.toArray Q S fuel (listed.setIfInBounds i true) (a.put oi.dst v) w)(hi:l[i]?=some oi:=by rfl)
    (hy:∀ w,S w->(execOp a.eval oi).run P w=.ok (.value v) w:=by ((intro w0 hSw);(try dsimp only at hSw);go_simp;(try with_reducible rfl))) (hS:S w:=by assumption) (hs:Region.noSelect l.toArray=true:=by kernel_rfl) (hf:Region.free md l.toArray listed i=true:=by kernel_rfl)
    (hr:(Region.ready md l.toArray listed).contains i=true:=by kernel_rfl) (hQ:∀ c a w,Q (.panic c) (a.put oi.dst v) w->Q (.panic c) a w:=by exact λ_ _ _ h=>h) (hw:Region.wanted oi (yielded l.toArray a.tmps)=true:=by kernel_rfl):wpAnyH P md l.toArray Q S (fuel+1) listed a w:=
  take_held hi hs hf hr hQ (.inl ⟨hw,hy⟩) hS h

theorem AB:(∀ (a:Act) (d:Nat) (v:Value),a.put (some d) v={a with tmps:=a.tmps.setIfInBounds d v})/\(∀ (a:Act) (v:Value),a.put none v=a)/\(∀ (l:List Value) (i:Nat) (x:Value),l.toArray.setIfInBounds i x=(l.set i x).toArray)/\(∀ (x y:Value) (l:List Value),(x::l).set 0 y=y::l)/\(∀ (x y:Value) (l:List Value) (i:Nat),(x::l).set (i+1) y=x::l.set i y):=
  ⟨λ _ _ _=>rfl,λ _ _=>rfl,λ _ _ _=>List.setIfInBounds_toArray ..,λ _ _ _=>rfl,λ _ _ _ _=>rfl⟩

theorem Bp(rs:List Nat){l:List Oper}{fuel:Nat}{listed:Array Bool}{a:Act}{w:World}(h:AllReadyH P md l.toArray Q S fuel listed a w rs)(hr:Region.ready md l.toArray listed=rs:=by kernel_rfl)(hne:rs≠[]:=by simp):wpAnyH P md l.toArray Q S (fuel+1) listed a w:=
  wpAnyH_ready hr hne h

theorem sk{l:List Oper}(i:Nat){oi:Oper}{fuel:Nat}{listed:Array Bool}{a:Act}{w:World}(hi:l[i]?=some oi)
    (h:wpAnyH P md l.toArray Q S fuel (listed.setIfInBounds i true) (a.put oi.dst undef) w) (hS:S w:=by assumption) (hs:Region.noSelect l.toArray=true:=by kernel_rfl) (hf:Region.free md l.toArray listed i=true:=by kernel_rfl)
    (hr:(Region.ready md l.toArray listed).contains i=true:=by kernel_rfl) (hQ:∀ c a w,Q (.panic c) (a.put oi.dst undef) w->Q (.panic c) a w:=by exact λ_ _ _ h=>h) (hw:Region.wanted oi (yielded l.toArray a.tmps)=false:=by kernel_rfl):wpAnyH P md l.toArray Q S (fuel+1) listed a w:=
  take_held hi hs hf hr hQ (.inr ⟨hw,rfl⟩) hS h

theorem Ag{l:List Oper}{fuel:Nat}{listed:Array Bool}{a:Act}{w:World}{i:Nat}{o:Oper}(ho:l[i]?=some o)
    (h:∀ K':Act->World->Prop,Shut (∀ a w,S w->(S w->wpAnyH P md l.toArray Q S fuel (listed.setIfInBounds i true) a w)->K' a w)->if Region.wanted o (yielded l.toArray a.tmps)=true then Oper.wp P o a w K' Q else K' (a.put o.dst undef) w):AllReadyH P md l.toArray Q S fuel listed a w [i]:=
  AllReadyH.cons (by simpa using ho) h AllReadyH.nil

theorem Ai{l:List Oper}{fuel:Nat}{listed:Array Bool}{a:Act}{w:World}{i:Nat}{o:Oper}{rs:List Nat}(ho:l[i]?=some o)
    (h:∀ K':Act->World->Prop,Shut (∀ a w,S w->(S w->wpAnyH P md l.toArray Q S fuel (listed.setIfInBounds i true) a w)->K' a w)->if Region.wanted o (yielded l.toArray a.tmps)=true then Oper.wp P o a w K' Q else K' (a.put o.dst undef) w)
    (hs:AllReadyH P md l.toArray Q S fuel listed a w rs):AllReadyH P md l.toArray Q S fuel listed a w (i::rs):=
  AllReadyH.cons (by simpa using ho) h hs
end

theorem Ae{w w':World}{p:Addr}{v:Value}(h:Kp Aa w w')(c:w.cell? p=some v):w'.cell? p=some v:=h.cell c id

theorem Kz{w w':World}{p:Addr}{v:Value}(c:w.cell? p=some v)(h:Kp Aa w w':=by assumption):w'.cell? p=some v:=Ae h c

theorem Fits_type(ty ln sz:Int)(t q:Nat)(ts:List TypR)(w:World)(hF:Au w)(hT:TableAt w t q ts)(h:Am 1 ty ln sz=true)(he:¬ AV ts ty ln=0):
    Calls prog 78 #[.pointer (some t),Ao 1 ty ln sz] w (RK (.int .i64 8) w):=by
  have kA:=(Kr Aa w).alloc (.cells #[.int .u8 1,.int .i64 ty,.int .i64 ln,.int .i64 sz] 111)
  have b0:=wN w (.cells #[.int .u8 1,.int .i64 ty,.int .i64 ln,.int .i64 sz] 111)
  have CK:=DC 1 ty ln sz _ (hF.Ac kA)
  rw[h] at CK
  obtain⟨E,hE⟩:∃ E,AV ts ty ln=E:=⟨_,rfl⟩
  have CO:∀ W,Kp Aa w W->Calls prog 135 #[.pointer (some t),.int .i64 ty,.int .i64 ln] W (RK (.tuple #[Ao 0 0 0 0,.int .i64 E]) W):=λ W k=>
    (EE ty ln t q ts W (hT.Ac k)).mono λ e w' hp=>by rw[BR,if_neg he,hE] at hp;exact hp
  rw[hE] at he
  have hb:(E !=0)=true:=by simpa using he
  unfold Ao at CK CO ⊢
  have HC:=sE CK
  have HO:=sE CO
  clear CK CO h he hE
  go_enter func78,ntmps78
  go_wp2_with fail
  refine HC.o.mono ?_
  rintro e w2 ⟨rfl,k2⟩
  have B0:=k2.at_ b0 id
  obtain⟨d0,d1,d2,d3⟩:=Ay B0
  have KW:=kA.then' k2
  clear b0 HC
  go_wp2_with fail
  refine(HO.o _ KW).mono ?_
  rintro e w3 ⟨rfl,k3⟩
  have B3:=k3.at_ B0 id
  have hl3:=lZ B3
  clear d0 d1 d2 d3
  obtain⟨c0,c1,c2,c3⟩:=Ay B3
  clear B0 B3
  go_wp2
  go_ret
  exact⟨rfl,(KW.then' k3).alloc _⟩

theorem Fits_size(ty ln sz:Int)(t q:Nat)(ts:List TypR)(w:World)(hF:Au w)(hT:TableAt w t q ts)(h:Am 1 ty ln sz=true)(he:AV ts ty ln=0)(hs:¬ BB ts ty ln=sz):
    Calls prog 78 #[.pointer (some t),Ao 1 ty ln sz] w (RK (.int .i64 8) w):=by
  have kA:=(Kr Aa w).alloc (.cells #[.int .u8 1,.int .i64 ty,.int .i64 ln,.int .i64 sz] 111)
  have b0:=wN w (.cells #[.int .u8 1,.int .i64 ty,.int .i64 ln,.int .i64 sz] 111)
  have CK:=DC 1 ty ln sz _ (hF.Ac kA)
  rw[h] at CK
  obtain⟨S,hS⟩:∃ S,BB ts ty ln=S:=⟨_,rfl⟩
  have CO:∀ W,Kp Aa w W->Calls prog 135 #[.pointer (some t),.int .i64 ty,.int .i64 ln] W (RK (.tuple #[Ao 1 ty ln S,(0:Int)]) W):=λ W k=>
    (EE ty ln t q ts W (hT.Ac k)).mono λ e w' hp=>by rw[BR,he,if_pos rfl,hS] at hp;exact hp
  rw[hS] at hs
  have hb:(S==sz)=false:=by simpa using hs
  unfold Ao at CK CO ⊢
  have HC:=sE CK
  have HO:=sE CO
  clear CK CO h he hs hS
  go_enter func78,ntmps78
  go_wp2_with fail
  refine HC.o.mono ?_
  rintro e w2 ⟨rfl,k2⟩
  have B0:=k2.at_ b0 id
  obtain⟨d0,d1,d2,d3⟩:=Ay B0
  have KW:=kA.then' k2
  clear b0 HC
  go_wp2_with fail
  refine(HO.o _ KW).mono ?_
  rintro e w3 ⟨rfl,k3⟩
  have B3:=k3.at_ B0 id
  have hl3:=lZ B3
  clear d0 d1 d2 d3
  obtain⟨c0,c1,c2,c3⟩:=Ay B3
  clear B0 B3
  go_wp2
  go_ret
  exact⟨rfl,(KW.then' k3).alloc _⟩

theorem Fits_one(ty ln sz:Int)(t q:Nat)(ts:List TypR)(w:World)(hF:Au w)(hT:TableAt w t q ts)(h:Am 1 ty ln sz=true):
    Calls prog 78 #[.pointer (some t),Ao 1 ty ln sz] w (RK (.int .i64 (CU ts 1 ty ln sz)) w):=by
  rw[fitsE_obj h]
  by_cases he:AV ts ty ln=0
  . rw[if_pos he]
    by_cases hs:BB ts ty ln=sz
    . rw[if_pos hs];exact Fits_obj ty ln sz t q ts w hF hT h he hs
    . rw[if_neg hs];exact Fits_size ty ln sz t q ts w hF hT h he hs
  . rw[if_neg he];exact Fits_type ty ln sz t q ts w hF hT h he

theorem SHead_out(g:Int)(a q n:Nat)(W:Nat->Nat)(w:World)(h:ArenaAt w a q W n)(hg:g<0\/((n/2:Nat):Int)<=g):
    Calls prog 76 #[.pointer (some a),.int .i64 g] w (RK (.tuple #[Ao 0 0 0 0,(2:Int)]) w):=by
  obtain⟨w1,hw1⟩:∃ w1,w1=w.alloc (.cells #[.int .u8 0,(0:Int),(0:Int),(0:Int)] 111):=⟨_,rfl⟩
  have kA:Kp Aa w w1:=by rw[hw1];exact (Kr _ w).alloc _
  have b0:w1.heap[w.heap.size]?=some (.cells #[.int .u8 0,(0:Int),(0:Int),(0:Int)] 111 (0,0)):=by rw[hw1];exact wN w _
  have hl:=lZ b0
  have A1:=h.Ac kA
  have hn:=h.small
  obtain⟨G,hG⟩:∃ G,n/2=G:=⟨_,rfl⟩
  have HG:=gran_at a q n W w1 A1
  rw[hG] at HG hg
  have HGr:=sE HG
  have hGb:G<=32768:=by omega
  obtain⟨d0,d1,d2,d3⟩:=Ay b0
  have f0:=Ab b0
  have f00:=f0 0
  have f01:=f0 1
  have f02:=f0 2
  have f03:=f0 3
  have HB:=sE b0
  clear b0 f0 HG hG A1 h hn
  by_cases h0:g<0
  all_goals
    go_enter func76,ntmps76
    go_wp2_with fail
    rw[<- hw1]
    clear hw1
    try (refine HGr.o.mono ?_;rintro e w' ⟨rfl,rfl⟩)
    try (have hge:(G:Int)<=g:=by omega)
    go_wp2
    first
      |exact bodyPost_ret (v:=.tuple #[Ao 0 0 0 0,(2:Int)]) (by simp[results,results76,go_sem,d0,d1,d2,d3,Ao]) rfl ⟨rfl,kA⟩
      | (obtain⟨wz,hwz⟩:∃ wz,wz=(((w1.setCell w.heap.size (.int .u8 0)).setCell ⟨w.heap.size,1,none⟩ (.int .i64 0)).setCell ⟨w.heap.size,2,none⟩ (.int .i64 0)).setCell ⟨w.heap.size,3,none⟩ (.int .i64 0):=⟨_,rfl⟩
         rw[<- hwz]
         obtain⟨tz,kz⟩:=BC HB.o _ _ _ _ wz hwz
         obtain⟨e0,e1,e2,e3⟩:=Ay tz
         exact bodyPost_ret (v:=.tuple #[Ao 0 0 0 0,(2:Int)]) (by simp[results,results76,go_sem,e0,e1,e2,e3,Ao]) rfl ⟨rfl,kA.trans kz (λ i hi h=>by have h':i=w.heap.size:=h;omega)⟩)

def Ce(w:World)(b a:Nat)(c:Cel)(k wds:Int)(m:Nat):Prop:=
  w.heap[b]?=some (.cells #[.pointer (some a),c.g,.int .u8 c.tag,c.ty,c.ln,c.sz,.int .u8 k,.int .i64 wds,.int .u64 m] 158 (0,0))

def SOfNo(w:World)(e:Ending)(w':World):Prop:=∃ E:Int,¬ E=0/\e=.returned (.tuple #[.pointer none,.int .i64 E])/\Kp Aa w w'

def SOfYes(a:Nat)(ts:List TypR)(c:Cel)(w:World)(e:Ending)(w':World):Prop:=
  ∃ b k wds m,typeOf ts (c.ty:Nat)=some ⟨k,wds,m⟩/\e=.returned (.tuple #[.pointer (some ⟨b,0,none⟩),(0:Int)])/\Ce w' b a c k wds m/\w.heap.size<=b/\Kp Aa w w'

theorem SOf_err(g:Int)(a:Nat)(tv:Value)(E:Int)(w:World)(hE:¬ E=0)
    (hH:∀ W',Kp Aa w W'->Calls prog 76 #[.pointer (some a),.int .i64 g] W' (RK (.tuple #[.agg #[.int .u8 0,(0:Int),(0:Int),(0:Int)],.int .i64 E]) W')):
    Calls prog 30 #[.pointer (some a),tv,.int .i64 g] w (SOfNo w):=by
  have HH:=sE hH
  have hb:(E !=0)=true:=by simpa using hE
  have HE:=sE hE
  clear hH hE
  go_enter func30,ntmps30
  go_wp2_with fail
  refine(HH.o _ (Kr _ _)).mono ?_
  rintro e w2 ⟨rfl,k2⟩
  go_wp2
  exact bodyPost_ret (v:=.tuple #[.pointer none,.int .i64 E]) (by simp[results,results30,go_sem]) rfl ⟨E,HE.o,rfl,k2.alloc _⟩

theorem SOf_tag0(g a n:Nat)(tq:Nat)(ty ln sz:Nat)(k wds:Int)(m:Nat)(G:Int)(F:Int)(w:World)(hs:sz<16777216)(hn:n<=65536)(hg:g<n/2)
    (hH:∀ W',Kp Aa w W'->Calls prog 76 #[.pointer (some a),g] W' (RK (.tuple #[.agg #[.int .u8 0,ty,ln,sz],(0:Int)]) W'))
    (hG:∀ W',Kp Aa w W'->Calls prog 77 #[.pointer (some tq),ty] W' (RK (.tuple #[.agg #[.int .u8 k,.int .i64 wds,.int .u64 m],.int .i64 G]) W'))
    (hF:∀ W',Kp Aa w W'->Calls prog 78 #[.pointer (some tq),.agg #[.int .u8 0,ty,ln,sz]] W' (RK (.int .i64 F) W'))
    (hR:∀ W',Kp Aa w W'->Calls prog 79 #[.pointer (some a)] W' λ e w'=>e=.returned (.int .i64 ((n/2:Nat):Int))/\w'=W'):
    Calls prog 30 #[.pointer (some a),.pointer (some tq),g] w (SOfNo w):=by
  have HH:=sE hH
  have HG:=sE hG
  have HF:=sE hF
  obtain⟨H,hHn⟩:∃ H,n/2=H:=⟨_,rfl⟩
  rw[hHn] at hR hg
  have hHb:H<=32768:=by omega
  have HR:=sE hR

  clear hH hG hF hR
  go_enter func30,ntmps30
  go_wp2_with fail
  refine(HH.o _ (Kr _ _)).mono ?_
  rintro e w2 ⟨rfl,k2⟩
  have b9:=wN w2 (.cells #[.int .u8 0,ty,ln,sz] 111)
  obtain⟨w3,hw3⟩:∃ w3,w3=w2.alloc (.cells #[.int .u8 0,ty,ln,sz] 111):=⟨_,rfl⟩
  rw[<- hw3] at b9
  have k3:Kp Aa w w3:=by rw[hw3];exact k2.alloc _
  obtain⟨c0,c1,c2,c3⟩:=Ay b9
  have HB9:=sE b9
  clear b9
  go_wp2_with fail
  try rw[<- hw3]
  clear hw3
  try go_wp2_with fail
  refine(HG.o _ k3).mono ?_
  rintro e w4 ⟨rfl,k4⟩
  have b94:=k4.at_ HB9.o id
  have hl94:=lZ b94
  have b10:=wN w4 (.cells #[.int .u8 k,.int .i64 wds,.int .u64 m] 106)
  obtain⟨w5,hw5⟩:∃ w5,w5=w4.alloc (.cells #[.int .u8 k,.int .i64 wds,.int .u64 m] 106):=⟨_,rfl⟩
  rw[<- hw5] at b10
  have k5:Kp Aa w4 w5:=by rw[hw5];exact (Kr _ _).alloc _
  have K5:=(k3.then' k4).then' k5
  have HB9':=sE (k5.at_ b94 id)
  have HB10:=sE b10
  clear c0 c1 c2 c3 b94 b10
  obtain⟨c0,c1,c2,c3⟩:=Ay HB9'.o
  obtain⟨t0,t1,t2⟩:=cells3 HB10.o
  have hl5:=lZ HB9'.o
  have hl6:=lZ HB10.o
  have hsz2:=k2.size
  go_wp2_with fail
  try rw[<- hw5]
  clear hw5 k4 k5
  try go_wp2_with fail
  go_quiet (fail)
  go_wp2
  exact bodyPost_ret (v:=.tuple #[.pointer none,(8:Int)]) (by simp[results,results30,go_sem]) rfl ⟨8,by omega,rfl,K5.then' (by first|exact (Kr _ _).drewN _|(repeat (first|assumption|exact Kr _ _|refine Kp.drew ?_|refine Kp.alloc ?_ _|refine Kp.Av ?_ (by omega) _)))⟩

theorem SOf_tag2(g a n:Nat)(tq:Nat)(ty ln sz:Nat)(k wds:Int)(m:Nat)(G:Int)(F:Int)(w:World)(hs:sz<16777216)(hn:n<=65536)(hg:g<n/2)
    (hH:∀ W',Kp Aa w W'->Calls prog 76 #[.pointer (some a),g] W' (RK (.tuple #[.agg #[.int .u8 2,ty,ln,sz],(0:Int)]) W'))
    (hG:∀ W',Kp Aa w W'->Calls prog 77 #[.pointer (some tq),ty] W' (RK (.tuple #[.agg #[.int .u8 k,.int .i64 wds,.int .u64 m],.int .i64 G]) W'))
    (hF:∀ W',Kp Aa w W'->Calls prog 78 #[.pointer (some tq),.agg #[.int .u8 2,ty,ln,sz]] W' (RK (.int .i64 F) W'))
    (hR:∀ W',Kp Aa w W'->Calls prog 79 #[.pointer (some a)] W' λ e w'=>e=.returned (.int .i64 ((n/2:Nat):Int))/\w'=W'):
    Calls prog 30 #[.pointer (some a),.pointer (some tq),g] w (SOfNo w):=by
  have HH:=sE hH
  have HG:=sE hG
  have HF:=sE hF
  obtain⟨H,hHn⟩:∃ H,n/2=H:=⟨_,rfl⟩
  rw[hHn] at hR hg
  have hHb:H<=32768:=by omega
  have HR:=sE hR

  clear hH hG hF hR
  go_enter func30,ntmps30
  go_wp2_with fail
  refine(HH.o _ (Kr _ _)).mono ?_
  rintro e w2 ⟨rfl,k2⟩
  have b9:=wN w2 (.cells #[.int .u8 2,ty,ln,sz] 111)
  obtain⟨w3,hw3⟩:∃ w3,w3=w2.alloc (.cells #[.int .u8 2,ty,ln,sz] 111):=⟨_,rfl⟩
  rw[<- hw3] at b9
  have k3:Kp Aa w w3:=by rw[hw3];exact k2.alloc _
  obtain⟨c0,c1,c2,c3⟩:=Ay b9
  have HB9:=sE b9
  clear b9
  go_wp2_with fail
  try rw[<- hw3]
  clear hw3
  try go_wp2_with fail
  refine(HG.o _ k3).mono ?_
  rintro e w4 ⟨rfl,k4⟩
  have b94:=k4.at_ HB9.o id
  have hl94:=lZ b94
  have b10:=wN w4 (.cells #[.int .u8 k,.int .i64 wds,.int .u64 m] 106)
  obtain⟨w5,hw5⟩:∃ w5,w5=w4.alloc (.cells #[.int .u8 k,.int .i64 wds,.int .u64 m] 106):=⟨_,rfl⟩
  rw[<- hw5] at b10
  have k5:Kp Aa w4 w5:=by rw[hw5];exact (Kr _ _).alloc _
  have K5:=(k3.then' k4).then' k5
  have HB9':=sE (k5.at_ b94 id)
  have HB10:=sE b10
  clear c0 c1 c2 c3 b94 b10
  obtain⟨c0,c1,c2,c3⟩:=Ay HB9'.o
  obtain⟨t0,t1,t2⟩:=cells3 HB10.o
  have hl5:=lZ HB9'.o
  have hl6:=lZ HB10.o
  have hsz2:=k2.size
  go_wp2_with fail
  try rw[<- hw5]
  clear hw5 k4 k5
  try go_wp2_with fail
  go_quiet (fail)
  go_wp2
  exact bodyPost_ret (v:=.tuple #[.pointer none,(8:Int)]) (by simp[results,results30,go_sem]) rfl ⟨8,by omega,rfl,K5.then' (by first|exact (Kr _ _).drewN _|(repeat (first|assumption|exact Kr _ _|refine Kp.drew ?_|refine Kp.alloc ?_ _|refine Kp.Av ?_ (by omega) _)))⟩

theorem SOf_tag3(g a n:Nat)(tq:Nat)(ty ln sz:Nat)(k wds:Int)(m:Nat)(G:Int)(F:Int)(w:World)(hs:sz<16777216)(hn:n<=65536)(hg:g<n/2)
    (hH:∀ W',Kp Aa w W'->Calls prog 76 #[.pointer (some a),g] W' (RK (.tuple #[.agg #[.int .u8 3,ty,ln,sz],(0:Int)]) W'))
    (hG:∀ W',Kp Aa w W'->Calls prog 77 #[.pointer (some tq),ty] W' (RK (.tuple #[.agg #[.int .u8 k,.int .i64 wds,.int .u64 m],.int .i64 G]) W'))
    (hF:∀ W',Kp Aa w W'->Calls prog 78 #[.pointer (some tq),.agg #[.int .u8 3,ty,ln,sz]] W' (RK (.int .i64 F) W'))
    (hR:∀ W',Kp Aa w W'->Calls prog 79 #[.pointer (some a)] W' λ e w'=>e=.returned (.int .i64 ((n/2:Nat):Int))/\w'=W'):
    Calls prog 30 #[.pointer (some a),.pointer (some tq),g] w (SOfNo w):=by
  have HH:=sE hH
  have HG:=sE hG
  have HF:=sE hF
  obtain⟨H,hHn⟩:∃ H,n/2=H:=⟨_,rfl⟩
  rw[hHn] at hR hg
  have hHb:H<=32768:=by omega
  have HR:=sE hR

  clear hH hG hF hR
  go_enter func30,ntmps30
  go_wp2_with fail
  refine(HH.o _ (Kr _ _)).mono ?_
  rintro e w2 ⟨rfl,k2⟩
  have b9:=wN w2 (.cells #[.int .u8 3,ty,ln,sz] 111)
  obtain⟨w3,hw3⟩:∃ w3,w3=w2.alloc (.cells #[.int .u8 3,ty,ln,sz] 111):=⟨_,rfl⟩
  rw[<- hw3] at b9
  have k3:Kp Aa w w3:=by rw[hw3];exact k2.alloc _
  obtain⟨c0,c1,c2,c3⟩:=Ay b9
  have HB9:=sE b9
  clear b9
  go_wp2_with fail
  try rw[<- hw3]
  clear hw3
  try go_wp2_with fail
  refine(HG.o _ k3).mono ?_
  rintro e w4 ⟨rfl,k4⟩
  have b94:=k4.at_ HB9.o id
  have hl94:=lZ b94
  have b10:=wN w4 (.cells #[.int .u8 k,.int .i64 wds,.int .u64 m] 106)
  obtain⟨w5,hw5⟩:∃ w5,w5=w4.alloc (.cells #[.int .u8 k,.int .i64 wds,.int .u64 m] 106):=⟨_,rfl⟩
  rw[<- hw5] at b10
  have k5:Kp Aa w4 w5:=by rw[hw5];exact (Kr _ _).alloc _
  have K5:=(k3.then' k4).then' k5
  have HB9':=sE (k5.at_ b94 id)
  have HB10:=sE b10
  clear c0 c1 c2 c3 b94 b10
  obtain⟨c0,c1,c2,c3⟩:=Ay HB9'.o
  obtain⟨t0,t1,t2⟩:=cells3 HB10.o
  have hl5:=lZ HB9'.o
  have hl6:=lZ HB10.o
  have hsz2:=k2.size
  go_wp2_with fail
  try rw[<- hw5]
  clear hw5 k4 k5
  try go_wp2_with fail
  go_quiet (fail)
  go_wp2
  exact bodyPost_ret (v:=.tuple #[.pointer none,(8:Int)]) (by simp[results,results30,go_sem]) rfl ⟨8,by omega,rfl,K5.then' (by first|exact (Kr _ _).drewN _|(repeat (first|assumption|exact Kr _ _|refine Kp.drew ?_|refine Kp.alloc ?_ _|refine Kp.Av ?_ (by omega) _)))⟩

theorem SOf_fit(g a n:Nat)(tq:Nat)(ty ln sz:Nat)(k wds:Int)(m:Nat)(G:Int)(F:Int)(w:World)(hF0:F=8)(hs:sz<16777216)(hn:n<=65536)(hg:g<n/2)
    (hH:∀ W',Kp Aa w W'->Calls prog 76 #[.pointer (some a),g] W' (RK (.tuple #[.agg #[.int .u8 1,ty,ln,sz],(0:Int)]) W'))
    (hG:∀ W',Kp Aa w W'->Calls prog 77 #[.pointer (some tq),ty] W' (RK (.tuple #[.agg #[.int .u8 k,.int .i64 wds,.int .u64 m],.int .i64 G]) W'))
    (hF:∀ W',Kp Aa w W'->Calls prog 78 #[.pointer (some tq),.agg #[.int .u8 1,ty,ln,sz]] W' (RK (.int .i64 F) W'))
    (hR:∀ W',Kp Aa w W'->Calls prog 79 #[.pointer (some a)] W' λ e w'=>e=.returned (.int .i64 ((n/2:Nat):Int))/\w'=W'):
    Calls prog 30 #[.pointer (some a),.pointer (some tq),g] w (SOfNo w):=by
  have HH:=sE hH
  have HG:=sE hG
  have HF:=sE hF
  obtain⟨H,hHn⟩:∃ H,n/2=H:=⟨_,rfl⟩
  rw[hHn] at hR hg
  have hHb:H<=32768:=by omega
  have HR:=sE hR
  subst hF0
  clear hH hG hF hR
  go_enter func30,ntmps30
  go_wp2_with fail
  refine(HH.o _ (Kr _ _)).mono ?_
  rintro e w2 ⟨rfl,k2⟩
  have b9:=wN w2 (.cells #[.int .u8 1,ty,ln,sz] 111)
  obtain⟨w3,hw3⟩:∃ w3,w3=w2.alloc (.cells #[.int .u8 1,ty,ln,sz] 111):=⟨_,rfl⟩
  rw[<- hw3] at b9
  have k3:Kp Aa w w3:=by rw[hw3];exact k2.alloc _
  obtain⟨c0,c1,c2,c3⟩:=Ay b9
  have HB9:=sE b9
  clear b9
  go_wp2_with fail
  try rw[<- hw3]
  clear hw3
  try go_wp2_with fail
  refine(HG.o _ k3).mono ?_
  rintro e w4 ⟨rfl,k4⟩
  have b94:=k4.at_ HB9.o id
  have hl94:=lZ b94
  have b10:=wN w4 (.cells #[.int .u8 k,.int .i64 wds,.int .u64 m] 106)
  obtain⟨w5,hw5⟩:∃ w5,w5=w4.alloc (.cells #[.int .u8 k,.int .i64 wds,.int .u64 m] 106):=⟨_,rfl⟩
  rw[<- hw5] at b10
  have k5:Kp Aa w4 w5:=by rw[hw5];exact (Kr _ _).alloc _
  have K5:=(k3.then' k4).then' k5
  have HB9':=sE (k5.at_ b94 id)
  have HB10:=sE b10
  clear c0 c1 c2 c3 b94 b10
  obtain⟨c0,c1,c2,c3⟩:=Ay HB9'.o
  obtain⟨t0,t1,t2⟩:=cells3 HB10.o
  have hl5:=lZ HB9'.o
  have hl6:=lZ HB10.o
  have hsz2:=k2.size
  go_wp2_with fail
  try rw[<- hw5]
  clear hw5 k4 k5
  try go_wp2_with fail
  refine wp_region_held_drew (S:=(λ w'=>w'.cell? w2.heap.size=some (.int .u8 1)/\w'.cell? ⟨w2.heap.size,1,none⟩=some (.int .i64 ty)/\w'.cell? ⟨w2.heap.size,2,none⟩=some (.int .i64 ln)/\w'.cell? ⟨w2.heap.size,3,none⟩=some (.int .i64 sz))) (by kernel_rfl) ?_ (λ qZ=>?_)
  . (try dsimp only);(exact ⟨Ae (by (repeat (first|assumption|exact Kr _ _|refine Kp.drew ?_|refine Kp.alloc ?_ _|refine Kp.Av ?_ (by omega) _))) c0,Ae (by (repeat (first|assumption|exact Kr _ _|refine Kp.drew ?_|refine Kp.alloc ?_ _|refine Kp.Av ?_ (by omega) _))) c1,Ae (by (repeat (first|assumption|exact Kr _ _|refine Kp.drew ?_|refine Kp.alloc ?_ _|refine Kp.Av ?_ (by omega) _))) c2,Ae (by (repeat (first|assumption|exact Kr _ _|refine Kp.drew ?_|refine Kp.alloc ?_ _|refine Kp.Av ?_ (by omega) _))) c3⟩)
  refine Ap 0 ?_;refine Ap 1 ?_;refine Ap 2 ?_;refine Ap 3 ?_;refine Ap 4 ?_;refine Ap 5 ?_
  try simp only[AB]
  refine Bp [6] ?_
  refine Ag rfl (λ K hK=>?_)
  go_simp
  go_at_call 78
  with_reducible refine(HF.o _ (K5.then' ?hkk)).mono ?_
  case hkk=>(repeat (first|assumption|exact Kr _ _|refine Kp.drew ?_|refine Kp.alloc ?_ _|refine Kp.Av ?_ (by omega) _))
  rintro e w6 ⟨rfl,k6⟩
  have K6:Kp Aa w5 w6:=Kp.then' (by (repeat (first|assumption|exact Kr _ _|refine Kp.drew ?_|refine Kp.alloc ?_ _|refine Kp.Av ?_ (by omega) _))) k6
  refine hK _ _ ?_ (λ qZ=>?_)
  . (try dsimp only);(exact ⟨Ae (by (repeat (first|assumption|exact Kr _ _|refine Kp.drew ?_|refine Kp.alloc ?_ _|refine Kp.Av ?_ (by omega) _))) c0,Ae (by (repeat (first|assumption|exact Kr _ _|refine Kp.drew ?_|refine Kp.alloc ?_ _|refine Kp.Av ?_ (by omega) _))) c1,Ae (by (repeat (first|assumption|exact Kr _ _|refine Kp.drew ?_|refine Kp.alloc ?_ _|refine Kp.Av ?_ (by omega) _))) c2,Ae (by (repeat (first|assumption|exact Kr _ _|refine Kp.drew ?_|refine Kp.alloc ?_ _|refine Kp.Av ?_ (by omega) _))) c3⟩)
  clear hK K
  try simp only[AB]
  refine Ap 7 ?_;refine Ap 8 ?_;refine Ap 9 ?_
  try simp only[AB]
  refine sk 10 rfl ?_
  try simp only[AB]
  refine sk 11 rfl ?_
  try simp only[AB]
  refine sk 12 rfl ?_
  try simp only[AB]
  refine sk 13 rfl ?_
  try simp only[AB]
  refine sk 14 rfl ?_
  try simp only[AB]
  refine sk 15 rfl ?_
  try simp only[AB]
  refine sk 16 rfl ?_
  try simp only[AB]
  refine Ap 17 ?_
  try simp only[AB]
  refine wpAnyH_done (by kernel_rfl) ?_ _
  go_wp2
  exact bodyPost_ret (v:=.tuple #[.pointer none,(8:Int)]) (by simp[results,results30,go_sem]) rfl ⟨8,by omega,rfl,K5.then' (by first|exact (Kr _ _).drewN _|(repeat (first|assumption|exact Kr _ _|refine Kp.drew ?_|refine Kp.alloc ?_ _|refine Kp.Av ?_ (by omega) _)))⟩

theorem SOf_big(g a n:Nat)(tq:Nat)(ty ln sz:Nat)(k wds:Int)(m:Nat)(G:Int)(F:Int)(w:World)(hF0:F=0)(hz:n/2-g<sz)(hs:sz<16777216)(hn:n<=65536)(hg:g<n/2)
    (hH:∀ W',Kp Aa w W'->Calls prog 76 #[.pointer (some a),g] W' (RK (.tuple #[.agg #[.int .u8 1,ty,ln,sz],(0:Int)]) W'))
    (hG:∀ W',Kp Aa w W'->Calls prog 77 #[.pointer (some tq),ty] W' (RK (.tuple #[.agg #[.int .u8 k,.int .i64 wds,.int .u64 m],.int .i64 G]) W'))
    (hF:∀ W',Kp Aa w W'->Calls prog 78 #[.pointer (some tq),.agg #[.int .u8 1,ty,ln,sz]] W' (RK (.int .i64 F) W'))
    (hR:∀ W',Kp Aa w W'->Calls prog 79 #[.pointer (some a)] W' λ e w'=>e=.returned (.int .i64 ((n/2:Nat):Int))/\w'=W'):
    Calls prog 30 #[.pointer (some a),.pointer (some tq),g] w (SOfNo w):=by
  have HH:=sE hH
  have HG:=sE hG
  have HF:=sE hF
  obtain⟨H,hHn⟩:∃ H,n/2=H:=⟨_,rfl⟩
  rw[hHn] at hR hg
  have hHb:H<=32768:=by omega
  have HR:=sE hR
  subst hF0
  have hsub:IntKind.i64.wrap ((H:Int)-(g:Int))=((H-g:Nat):Int):=by rw[IntKind.wrap_i64];omega
  have hd:decide (((H-g:Nat):Int)<(sz:Int))=true:=dT (by omega)
  clear hH hG hF hR
  go_enter func30,ntmps30
  go_wp2_with fail
  refine(HH.o _ (Kr _ _)).mono ?_
  rintro e w2 ⟨rfl,k2⟩
  have b9:=wN w2 (.cells #[.int .u8 1,ty,ln,sz] 111)
  obtain⟨w3,hw3⟩:∃ w3,w3=w2.alloc (.cells #[.int .u8 1,ty,ln,sz] 111):=⟨_,rfl⟩
  rw[<- hw3] at b9
  have k3:Kp Aa w w3:=by rw[hw3];exact k2.alloc _
  obtain⟨c0,c1,c2,c3⟩:=Ay b9
  have HB9:=sE b9
  clear b9
  go_wp2_with fail
  try rw[<- hw3]
  clear hw3
  try go_wp2_with fail
  refine(HG.o _ k3).mono ?_
  rintro e w4 ⟨rfl,k4⟩
  have b94:=k4.at_ HB9.o id
  have hl94:=lZ b94
  have b10:=wN w4 (.cells #[.int .u8 k,.int .i64 wds,.int .u64 m] 106)
  obtain⟨w5,hw5⟩:∃ w5,w5=w4.alloc (.cells #[.int .u8 k,.int .i64 wds,.int .u64 m] 106):=⟨_,rfl⟩
  rw[<- hw5] at b10
  have k5:Kp Aa w4 w5:=by rw[hw5];exact (Kr _ _).alloc _
  have K5:=(k3.then' k4).then' k5
  have HB9':=sE (k5.at_ b94 id)
  have HB10:=sE b10
  clear c0 c1 c2 c3 b94 b10
  obtain⟨c0,c1,c2,c3⟩:=Ay HB9'.o
  obtain⟨t0,t1,t2⟩:=cells3 HB10.o
  have hl5:=lZ HB9'.o
  have hl6:=lZ HB10.o
  have hsz2:=k2.size
  go_wp2_with fail
  try rw[<- hw5]
  clear hw5 k4 k5
  try go_wp2_with fail
  go_region_held3 (λ w'=>w'.cell? w2.heap.size=some (.int .u8 1)/\w'.cell? ⟨w2.heap.size,1,none⟩=some (.int .i64 ty)/\w'.cell? ⟨w2.heap.size,2,none⟩=some (.int .i64 ln)/\w'.cell? ⟨w2.heap.size,3,none⟩=some (.int .i64 sz))
    (exact ⟨Ae (by (repeat (first|assumption|exact Kr _ _|refine Kp.drew ?_|refine Kp.alloc ?_ _|refine Kp.Av ?_ (by omega) _))) c0,Ae (by (repeat (first|assumption|exact Kr _ _|refine Kp.drew ?_|refine Kp.alloc ?_ _|refine Kp.Av ?_ (by omega) _))) c1,Ae (by (repeat (first|assumption|exact Kr _ _|refine Kp.drew ?_|refine Kp.alloc ?_ _|refine Kp.Av ?_ (by omega) _))) c2,Ae (by (repeat (first|assumption|exact Kr _ _|refine Kp.drew ?_|refine Kp.alloc ?_ _|refine Kp.Av ?_ (by omega) _))) c3⟩)
    (first
      |(go_at_call 78;with_reducible refine(HF.o _ (K5.then' (by (repeat (first|assumption|exact Kr _ _|refine Kp.drew ?_|refine Kp.alloc ?_ _|refine Kp.Av ?_ (by omega) _))))).mono ?_;rintro e w6 ⟨rfl,k6⟩;have K6:Kp Aa w5 w6:=Kp.then' (by (repeat (first|assumption|exact Kr _ _|refine Kp.drew ?_|refine Kp.alloc ?_ _|refine Kp.Av ?_ (by omega) _))) k6)
      |(go_at_call 79;with_reducible refine(HR.o _ (K5.then' (by (repeat (first|assumption|exact Kr _ _|refine Kp.drew ?_|refine Kp.alloc ?_ _|refine Kp.Av ?_ (by omega) _))))).mono ?_;rintro e w7 ⟨rfl,rfl⟩))
  go_wp2
  exact bodyPost_ret (v:=.tuple #[.pointer none,(8:Int)]) (by simp[results,results30,go_sem]) rfl ⟨8,by omega,rfl,K5.then' (by first|exact (Kr _ _).drewN _|(repeat (first|assumption|exact Kr _ _|refine Kp.drew ?_|refine Kp.alloc ?_ _|refine Kp.Av ?_ (by omega) _)))⟩

theorem SOf_ok(g a n:Nat)(tq:Nat)(ty ln sz:Nat)(k wds:Int)(m:Nat)(G:Int)(F:Int)(w:World)(hF0:F=0)(hz:sz<=n/2-g)(hs:sz<16777216)(hn:n<=65536)(hg:g<n/2)
    (hH:∀ W',Kp Aa w W'->Calls prog 76 #[.pointer (some a),g] W' (RK (.tuple #[.agg #[.int .u8 1,ty,ln,sz],(0:Int)]) W'))
    (hG:∀ W',Kp Aa w W'->Calls prog 77 #[.pointer (some tq),ty] W' (RK (.tuple #[.agg #[.int .u8 k,.int .i64 wds,.int .u64 m],.int .i64 G]) W'))
    (hF:∀ W',Kp Aa w W'->Calls prog 78 #[.pointer (some tq),.agg #[.int .u8 1,ty,ln,sz]] W' (RK (.int .i64 F) W'))
    (hR:∀ W',Kp Aa w W'->Calls prog 79 #[.pointer (some a)] W' λ e w'=>e=.returned (.int .i64 ((n/2:Nat):Int))/\w'=W'):
    Calls prog 30 #[.pointer (some a),.pointer (some tq),g] w (λ e w'=>∃ b,e=.returned (.tuple #[.pointer (some ⟨b,0,none⟩),(0:Int)])/\Ce w' b a ⟨g,1,ty,ln,sz⟩ k wds m/\w.heap.size<=b/\Kp Aa w w'):=by
  have HH:=sE hH
  have HG:=sE hG
  have HF:=sE hF
  obtain⟨H,hHn⟩:∃ H,n/2=H:=⟨_,rfl⟩
  rw[hHn] at hR hg
  have hHb:H<=32768:=by omega
  have HR:=sE hR
  subst hF0
  have hsub:IntKind.i64.wrap ((H:Int)-(g:Int))=((H-g:Nat):Int):=by rw[IntKind.wrap_i64];omega
  have hd:decide (((H-g:Nat):Int)<(sz:Int))=false:=dF (by omega)
  clear hH hG hF hR
  go_enter func30,ntmps30
  go_wp2_with fail
  refine(HH.o _ (Kr _ _)).mono ?_
  rintro e w2 ⟨rfl,k2⟩
  have b9:=wN w2 (.cells #[.int .u8 1,ty,ln,sz] 111)
  obtain⟨w3,hw3⟩:∃ w3,w3=w2.alloc (.cells #[.int .u8 1,ty,ln,sz] 111):=⟨_,rfl⟩
  rw[<- hw3] at b9
  have k3:Kp Aa w w3:=by rw[hw3];exact k2.alloc _
  obtain⟨c0,c1,c2,c3⟩:=Ay b9
  have HB9:=sE b9
  clear b9
  go_wp2_with fail
  try rw[<- hw3]
  clear hw3
  try go_wp2_with fail
  refine(HG.o _ k3).mono ?_
  rintro e w4 ⟨rfl,k4⟩
  have b94:=k4.at_ HB9.o id
  have hl94:=lZ b94
  have b10:=wN w4 (.cells #[.int .u8 k,.int .i64 wds,.int .u64 m] 106)
  obtain⟨w5,hw5⟩:∃ w5,w5=w4.alloc (.cells #[.int .u8 k,.int .i64 wds,.int .u64 m] 106):=⟨_,rfl⟩
  rw[<- hw5] at b10
  have k5:Kp Aa w4 w5:=by rw[hw5];exact (Kr _ _).alloc _
  have K5:=(k3.then' k4).then' k5
  have HB9':=sE (k5.at_ b94 id)
  have HB10:=sE b10
  clear c0 c1 c2 c3 b94 b10
  obtain⟨c0,c1,c2,c3⟩:=Ay HB9'.o
  obtain⟨t0,t1,t2⟩:=cells3 HB10.o
  have hl5:=lZ HB9'.o
  have hl6:=lZ HB10.o
  have hsz2:=k2.size
  go_wp2_with fail
  try rw[<- hw5]
  clear hw5 k4 k5
  try go_wp2_with fail
  go_region_held3 (λ w'=>w'.cell? w2.heap.size=some (.int .u8 1)/\w'.cell? ⟨w2.heap.size,1,none⟩=some (.int .i64 ty)/\w'.cell? ⟨w2.heap.size,2,none⟩=some (.int .i64 ln)/\w'.cell? ⟨w2.heap.size,3,none⟩=some (.int .i64 sz))
    (exact ⟨Ae (by (repeat (first|assumption|exact Kr _ _|refine Kp.drew ?_|refine Kp.alloc ?_ _|refine Kp.Av ?_ (by omega) _))) c0,Ae (by (repeat (first|assumption|exact Kr _ _|refine Kp.drew ?_|refine Kp.alloc ?_ _|refine Kp.Av ?_ (by omega) _))) c1,Ae (by (repeat (first|assumption|exact Kr _ _|refine Kp.drew ?_|refine Kp.alloc ?_ _|refine Kp.Av ?_ (by omega) _))) c2,Ae (by (repeat (first|assumption|exact Kr _ _|refine Kp.drew ?_|refine Kp.alloc ?_ _|refine Kp.Av ?_ (by omega) _))) c3⟩)
    (first
      |(go_at_call 78;with_reducible refine(HF.o _ (K5.then' (by (repeat (first|assumption|exact Kr _ _|refine Kp.drew ?_|refine Kp.alloc ?_ _|refine Kp.Av ?_ (by omega) _))))).mono ?_;rintro e w6 ⟨rfl,k6⟩;have K6:Kp Aa w5 w6:=Kp.then' (by (repeat (first|assumption|exact Kr _ _|refine Kp.drew ?_|refine Kp.alloc ?_ _|refine Kp.Av ?_ (by omega) _))) k6)
      |(go_at_call 79;with_reducible refine(HR.o _ (K5.then' (by (repeat (first|assumption|exact Kr _ _|refine Kp.drew ?_|refine Kp.alloc ?_ _|refine Kp.Av ?_ (by omega) _))))).mono ?_;rintro e w7 ⟨rfl,rfl⟩))
  have b9f:=K6.at_ HB9'.o id
  have b10f:=K6.at_ HB10.o id
  clear c0 c1 c2 c3 t0 t1 t2
  obtain⟨c0,c1,c2,c3⟩:=Ay b9f
  obtain⟨t0,t1,t2⟩:=cells3 b10f
  have hl6:=lZ b10f
  have hs6:=K6.size
  have hs5:=K5.size
  have HB9f:=sE b9f
  clear b9f b10f
  go_wp2
  exact bodyPost_ret (v:=.tuple #[.pointer (some w7.heap.size),(0:Int)]) (by simp[results,results30,go_sem]) rfl ⟨w7.heap.size,rfl,wN w7 _,by omega,(K5.then' K6).alloc _⟩

def Db(a:Nat)(W:Nat->Nat)(n:Nat)(ts:List TypR)(g:Int)(w:World)(e:Ending)(w':World):Prop:=
  match Cj W n ts g with
  |some c=>SOfYes a ts c w e w'
  |none=>SOfNo w e w'

theorem tagW_lt(X:Nat):CE X=0\/CE X=1\/CE X=2\/CE X=3:=by unfold CE;omega

theorem SOf_any(g:Int)(a q n t tq:Nat)(W:Nat->Nat)(ts:List TypR)(w:World)(hF:Au w)(h:ArenaAt w a q W n)(hT:TableAt w t tq ts):
    Calls prog 30 #[.pointer (some a),.pointer (some t),.int .i64 g] w (Db a W n ts g w):=by
  have hn:=h.small
  by_cases hg:0<=g/\g<((n/2:Nat):Int)
  . obtain⟨j,rfl⟩:=Int.eq_ofNat_of_zero_le hg.1
    have hj:j<n/2:=by omega
    have hH:∀ W',Kp Aa w W'->Calls prog 76 #[.pointer (some a),j] W' (FC (Ct (W (2*j))) (CE (W (2*j))) (EA (W (2*j))) (EX (W (2*j))) (DY (W (2*j))) W'):=
      λ W' k=>SHead_at j a q n W W' (hF.Ac k) (h.Ac k) hj
    by_cases hd:Ct (W (2*j))=true
    . rw[hd] at hH
      have hH2:∀ W',Kp Aa w W'->Calls prog 76 #[.pointer (some a),j] W' (RK (.tuple #[.agg #[.int .u8 (CE (W (2*j)):Nat),.int .i64 (EA (W (2*j)):Nat),.int .i64 (EX (W (2*j)):Nat),.int .i64 (DY (W (2*j)):Nat)],(0:Int)]) W'):=
        λ W' k=>(hH W' k).mono λ_ _ hp=>hp
      have hsz:DY (W (2*j))<16777216:=by unfold DY;omega
      have hok:Am (CE (W (2*j)):Nat) (EA (W (2*j)):Nat) (EX (W (2*j)):Nat) (DY (W (2*j)):Nat)=true:=by
        have:=hd
        unfold Ct at this
        simp only[Bool.and_eq_true] at this
        exact this.1
      have hR:∀ W',Kp Aa w W'->Calls prog 79 #[.pointer (some a)] W' λ e w'=>e=.returned (.int .i64 ((n/2:Nat):Int))/\w'=W':=λ W' k=>gran_at' a q n W W' (h.Ac k)
      obtain⟨k,wds,m,E,hty,hG⟩:∃ (k wds:Int) (m:Nat) (E:Int),(∀ x,typeOf ts (EA (W (2*j)):Nat)=some x->x=⟨k,wds,m⟩)/\∀ W',Kp Aa w W'->Calls prog 77 #[.pointer (some t),.int .i64 (EA (W (2*j)):Nat)] W' (RK (.tuple #[.agg #[.int .u8 k,.int .i64 wds,.int .u64 m],.int .i64 E]) W'):=by
        cases ht:typeOf ts (EA (W (2*j)):Nat) with
        |none=>exact ⟨0,0,0,3,(λ x hx=>(by cases hx)),λ W' kk=>(Get_any _ t tq ts W' (hT.Ac kk)).mono λ_ _ hp=>by unfold FD at hp;rw [ht] at hp;exact hp⟩
        |some x=>
          obtain⟨k,wds,m⟩:=x
          exact⟨k,wds,m,0,λ x hx=>by injection hx with hx;exact hx.symm,λ W' kk=>(Get_any _ t tq ts W' (hT.Ac kk)).mono λ_ _ hp=>by unfold FD at hp;rw [ht] at hp;exact hp⟩
      obtain⟨X,hX⟩:∃ X,W (2*j)=X:=⟨_,rfl⟩
      have hno:¬ (CE X=1/\CU ts 1 (EA X:Nat) (EX X:Nat) (DY X:Nat)=0/\DY X<=n/2-j)->Cj W n ts (j:Nat)=none:=by
        intro hh
        unfold Cj
        rw[if_neg]
        rw[Int.toNat_natCast,hX]
        exact λ⟨_,_,_,c4,c5,c6⟩=>hh ⟨c4,c5,c6⟩
      rw[hX] at hH2 hG hsz hok hty hd
      by_cases h1:CE X=1
      . rw[h1] at hH2 hok
        have hF1:∀ W',Kp Aa w W'->Calls prog 78 #[.pointer (some t),.agg #[.int .u8 1,.int .i64 (EA X:Nat),.int .i64 (EX X:Nat),.int .i64 (DY X:Nat)]] W' (RK (.int .i64 (CU ts 1 (EA X:Nat) (EX X:Nat) (DY X:Nat))) W'):=
          λ W' kk=>Fits_one (EA X:Nat) (EX X:Nat) (DY X:Nat) t tq ts W' (hF.Ac kk) (hT.Ac kk) hok
        by_cases hf:CU ts 1 (EA X:Nat) (EX X:Nat) (DY X:Nat)=0
        . by_cases hz:DY X<=n/2-j
          . have hsome:Cj W n ts (j:Nat)=some ⟨j,1,EA X,EX X,DY X⟩:=by
              unfold Cj
              rw[Int.toNat_natCast,hX,if_pos ⟨hg.1,hg.2,hd,h1,hf,hz⟩]
            obtain⟨e1,e2,e3⟩:=fitsE_zero hf
            obtain⟨k',wds',m',ht'⟩:=Fs e2
            have hkk:=hty _ ht'
            injection hkk with q1 q2 q3
            refine(SOf_ok j a n t (EA X) (EX X) (DY X) k wds m E _ w hf hz hsz hn hj hH2 hG hF1 hR).mono λ e w' ⟨b,he,hv,hb,hk⟩=>?_
            unfold Db
            rw[hsome]
            exact⟨b,k,wds,m,by rw[ht',q1,q2,q3],he,hv,hb,hk⟩
          . refine(SOf_big j a n t (EA X) (EX X) (DY X) k wds m E _ w hf (by omega) hsz hn hj hH2 hG hF1 hR).mono λ e w' hp=>?_
            unfold Db
            rw[hno (λ ⟨_,_,c⟩=>hz c)]
            exact hp
        . have hf8:CU ts 1 (EA X:Nat) (EX X:Nat) (DY X:Nat)=8:=by
            rw[fitsE_obj hok] at hf ⊢
            split at hf
            . split at hf
              . exact absurd rfl hf
              . rename_i a b;rw [if_pos a,if_neg b]
            . rename_i a;rw [if_neg a]
          refine(SOf_fit j a n t (EA X) (EX X) (DY X) k wds m E _ w hf8 hsz hn hj hH2 hG hF1 hR).mono λ e w' hp=>?_
          unfold Db
          rw[hno (λ ⟨_,c,_⟩=>hf c)]
          exact hp
      . have hF0:∀ W',Kp Aa w W'->Calls prog 78 #[.pointer (some t),.agg #[.int .u8 (CE X:Nat),.int .i64 (EA X:Nat),.int .i64 (EX X:Nat),.int .i64 (DY X:Nat)]] W' (RK (.int .i64 0) W'):=
          λ W' kk=>Fits_gap (CE X:Nat) (EA X:Nat) (EX X:Nat) (DY X:Nat) _ W' (hF.Ac kk) hok (by omega)
        unfold Db
        rw[hno (λ ⟨c,_⟩=>h1 c)]
        rcases tagW_lt X with r|r|r|r
        . rw[r] at hH2 hF0
          exact SOf_tag0 j a n t (EA X) (EX X) (DY X) k wds m E _ w hsz hn hj hH2 hG hF0 hR
        . exact absurd r h1
        . rw[r] at hH2 hF0
          exact SOf_tag2 j a n t (EA X) (EX X) (DY X) k wds m E _ w hsz hn hj hH2 hG hF0 hR
        . rw[r] at hH2 hF0
          exact SOf_tag3 j a n t (EA X) (EX X) (DY X) k wds m E _ w hsz hn hj hH2 hG hF0 hR
    . have hd':Ct (W (2*j))=false:=by simpa using hd
      rw[hd'] at hH
      unfold Db
      rw[show Cj W n ts (j:Nat)=none by unfold Cj;rw [if_neg];rw [Int.toNat_natCast];exact λ⟨_,_,c,_⟩=>hd c]
      exact SOf_err (j:Nat) a _ 7 w (by omega) λ W' k=>(hH W' k).mono λ_ _ hp=>hp
  . unfold Db
    rw[show Cj W n ts g=none by unfold Cj;rw [if_neg];exact λ⟨c1,c2,_⟩=>hg ⟨c1,c2⟩]
    exact SOf_err g a _ 2 w (by omega) λ W' k=>SHead_out g a q n W W' (h.Ac k) (by omega)

end

section
open Go.RowKit

theorem KSlots_ok(k wds:Int)(M:Nat)(n:Int)(w:World)(h0:AU k wds M n=0):Calls prog 178 #[.agg #[.int .u8 k,.int .i64 wds,.int .u64 M],.int .i64 n] w (RK (.tuple #[.int .i64 (AZ k wds n),(0:Int)]) w):=by
  have CO:=λ w=>Kof_any k wds M n w
  have kA:=(Kr Aa w).alloc (.cells #[.int .u8 k,.int .i64 wds,.int .u64 M] 106)
  unfold AJ at CO
  have HO:=sE CO
  have HZ:=sE h0
  have CS:=λ w=>slots_any k wds M n w h0
  obtain⟨s,hs⟩:∃ s,AZ k wds n=s:=⟨_,rfl⟩
  rw[hs] at CS ⊢
  unfold BU at CS
  have HC:=sE CS
  clear CO CS hs h0
  go_enter func178,ntmps178
  go_wp2_with fail
  obtain⟨w1,hw1⟩:∃ w1,w1=w.alloc (.cells #[.int .u8 k,.int .i64 wds,.int .u64 M] 106):=⟨_,rfl⟩
  rw[<- hw1] at kA ⊢
  clear hw1
  refine(HO.o w1).mono ?_
  rintro e w2 ⟨v,rfl,hv,hv0,k2⟩
  have hv2:=hv0 HZ.o
  unfold BU at hv2
  subst hv2
  rw[HZ.o]
  clear hv hv0
  go_wp2_with fail
  refine(HC.o _).mono ?_
  rintro e w3 ⟨rfl,k3⟩
  go_wp2
  exact bodyPost_ret (v:=.tuple #[.int .i64 s,(0:Int)]) (by simp[results,results178,go_sem]) rfl ⟨rfl,((kA.then' k2).alloc _).then' k3⟩

theorem Ce.keep{S:Nat->Prop}{w w':World}{b a:Nat}{c:Cel}{k wds:Int}{m:Nat}(h:Ce w b a c k wds m)(kp:Kp S w w')(hs:¬ S b):Ce w' b a c k wds m:=kp.at_ h hs

theorem Ce.Ac{w w':World}{b a:Nat}{c:Cel}{k wds:Int}{m:Nat}(h:Ce w b a c k wds m)(kp:Kp Aa w w'):Ce w' b a c k wds m:=h.keep kp id

theorem Ce.cells{w:World}{b a:Nat}{c:Cel}{k wds:Int}{m:Nat}(h:Ce w b a c k wds m):
    w.cell? b=some (.pointer (some a))/\w.cell? ⟨b,1,none⟩=some (.int .i64 c.g)/\w.cell? ⟨b,2,none⟩=some (.int .u8 c.tag)/\w.cell? ⟨b,3,none⟩=some (.int .i64 c.ty)/\w.cell? ⟨b,4,none⟩=some (.int .i64 c.ln)/\w.cell? ⟨b,5,none⟩=some (.int .i64 c.sz)/\
      w.cell? ⟨b,6,none⟩=some (.int .u8 k)/\w.cell? ⟨b,7,none⟩=some (.int .i64 wds)/\w.cell? ⟨b,8,none⟩=some (.int .u64 m):=by
  refine⟨?_,?_,?_,?_,?_,?_,?_,?_,?_⟩ <;> simp only[World.cell?,show w.heap[b]?=_ from h] <;> rfl

theorem VSlots_at(b a:Nat)(c:Cel)(k wds:Int)(m:Nat)(w:World)(hV:Ce w b a c k wds m)(hE:AU k wds m (c.ln:Nat)=0):
    Calls prog 137 #[.pointer (some b)] w (RK (.int .i64 (AZ k wds (c.ln:Nat))) w):=by
  have HK:Sl (∀ W',Calls prog 178 #[.agg #[.int .u8 k,.int .i64 wds,.int .u64 m],c.ln] W' (RK (.tuple #[.int .i64 (AZ k wds (c.ln:Nat)),(0:Int)]) W')):=⟨λ W'=>KSlots_ok k wds m (c.ln:Nat) W' hE⟩
  obtain⟨s,hs⟩:∃ s,AZ k wds (c.ln:Nat)=s:=⟨_,rfl⟩
  rw[hs] at HK ⊢
  obtain⟨v0,v1,v2,v3,v4,v5,v6,v7,v8⟩:=hV.cells
  have hlt:=lZ hV
  obtain⟨ln,hln⟩:∃ ln,c.ln=ln:=⟨_,rfl⟩
  rw[hln] at HK v4
  clear hs hV hE v0 v1 v2 v3 v5 hln
  go_enter func137,ntmps137
  go_wp2_with fail
  go_region_held3 (λ w'=>w'.cell? ⟨b,4,none⟩=some (.int .i64 (ln:Nat))/\w'.cell? ⟨b,6,none⟩=some (.int .u8 k)/\w'.cell? ⟨b,7,none⟩=some (.int .i64 wds)/\w'.cell? ⟨b,8,none⟩=some (.int .u64 m))
    (exact ⟨Ae (by (repeat (first|assumption|exact Kr _ _|refine Kp.drew ?_|refine Kp.alloc ?_ _|refine Kp.Av ?_ (by omega) _))) v4,Ae (by (repeat (first|assumption|exact Kr _ _|refine Kp.drew ?_|refine Kp.alloc ?_ _|refine Kp.Av ?_ (by omega) _))) v6,Ae (by (repeat (first|assumption|exact Kr _ _|refine Kp.drew ?_|refine Kp.alloc ?_ _|refine Kp.Av ?_ (by omega) _))) v7,Ae (by (repeat (first|assumption|exact Kr _ _|refine Kp.drew ?_|refine Kp.alloc ?_ _|refine Kp.Av ?_ (by omega) _))) v8⟩)
    (first | (go_at_call 178;with_reducible refine(HK.o _).mono ?_;rintro e w2 ⟨rfl,hk⟩
              have KK:Kp Aa w w2:=Kp.then' (by (repeat (first|assumption|exact Kr _ _|refine Kp.drew ?_|refine Kp.alloc ?_ _|refine Kp.Av ?_ (by omega) _))) hk))
  go_wp2
  go_ret
  exact⟨rfl,KK.then' (by (repeat (first|assumption|exact Kr _ _|refine Kp.drew ?_|refine Kp.alloc ?_ _|refine Kp.Av ?_ (by omega) _)))⟩

theorem VWord_yes(j b a:Nat)(c:Cel)(k wds:Int)(m:Nat)(w:World)(hV:Ce w b a c k wds m)(hE:AU k wds m (c.ln:Nat)=0)(hj:(j:Int)<AZ k wds (c.ln:Nat))(hg:c.g<=65536):
    Calls prog 80 #[.pointer (some b),j] w (RK (.tuple #[.int .i64 ((2*c.g+1+j:Nat):Int),(0:Int)]) w):=by
  have HS:=sE (VSlots_at b a c k wds m w hV hE)
  have hr:=(Bj hE).2
  obtain⟨s,hs⟩:∃ s,AZ k wds (c.ln:Nat)=s:=⟨_,rfl⟩
  rw[hs] at HS hr hj
  have hd:¬ s<=(j:Int):=by omega
  have HV:=sE hV
  clear hs hV hE
  go_enter func80,ntmps80
  go_wp2_with fail
  refine HS.o.mono ?_
  rintro e w2 ⟨rfl,k2⟩
  obtain⟨v0,v1,-⟩:=(HV.o.Ac k2).cells
  go_wp2
  exact bodyPost_ret (v:=.tuple #[.int .i64 ((2*c.g+1+j:Nat):Int),(0:Int)]) (by simp[results,results80,go_sem]) rfl ⟨rfl,k2⟩

theorem VStore_yes(j x b a q n:Nat)(W:Nat->Nat)(c:Cel)(k wds:Int)(m:Nat)(w:World)(hA:ArenaAt w a q W n)(hV:Ce w b a c k wds m)(hE:AU k wds m (c.ln:Nat)=0)(hj:(j:Int)<AZ k wds (c.ln:Nat))(hx:x<18446744073709551616)(hn:2*c.g+1+j<n):
    Calls prog 33 #[.pointer (some ⟨b,0,none⟩),j,.int .u64 x] w (Stored w a q n (DN W (2*c.g+1+j) x)):=by
  have hs:=hA.small
  have HW:=sE (VWord_yes j b a c k wds m w hV hE hj (by omega))
  have HA:=sE hA
  have HV:=sE hV
  have HS:Sl (∀ W',Kp Aa w W'->Calls prog 81 #[.pointer (some a),.int .i64 ((2*c.g+1+j:Nat):Int),.int .u64 x] W' (Stored W' a q n (DN W (2*c.g+1+j) x))):=
    ⟨λ W' kk=>AStore_yes (2*c.g+1+j) x a q n W W' (hA.Ac kk) hn hx⟩
  obtain⟨z,hz⟩:∃ z,2*c.g+1+j=z:=⟨_,rfl⟩
  rw[hz] at HW HS ⊢
  clear hs hA hV hE hj hx hn hz
  go_enter func33,ntmps33
  go_wp2_with fail
  refine HW.o.mono ?_
  rintro e w2 ⟨rfl,k2⟩
  obtain⟨v0,-⟩:=(HV.o.Ac k2).cells
  go_wp2_with fail
  refine(HS.o _ k2).mono ?_
  rintro e w3 ⟨rfl,k3,A3⟩
  have K3:Kp (λ b=>b=a\/b=q) w w3:=(k2.Aw _).trans k3 (λ _ _ h=>h)
  go_wp2
  go_ret
  exact⟨rfl,K3,A3⟩

theorem VLoad_yes(j b a q n:Nat)(W:Nat->Nat)(c:Cel)(k wds:Int)(m:Nat)(w:World)(hA:ArenaAt w a q W n)(hV:Ce w b a c k wds m)(hE:AU k wds m (c.ln:Nat)=0)(hj:(j:Int)<AZ k wds (c.ln:Nat))(hn:2*c.g+1+j<n):
    Calls prog 129 #[.pointer (some b),j] w (RK (.tuple #[.int .u64 (W (2*c.g+1+j):Nat),(0:Int)]) w):=by
  have hs:=hA.small
  have HW:=sE (VWord_yes j b a c k wds m w hV hE hj (by omega))
  have HV:=sE hV
  have HS:Sl (∀ W',Kp Aa w W'->Calls prog 131 #[.pointer (some a),.int .i64 ((2*c.g+1+j:Nat):Int)] W' (λ e w'=>e=.returned (.tuple #[.int .u64 (W (2*c.g+1+j):Nat),(0:Int)])/\W'=w')):=
    ⟨λ W' kk=>ALoad_yes (2*c.g+1+j) a q n W W' (hA.Ac kk) hn⟩
  obtain⟨z,hz⟩:∃ z,2*c.g+1+j=z:=⟨_,rfl⟩
  rw[hz] at HW HS ⊢
  obtain⟨y,hy⟩:∃ y,W z=y:=⟨_,rfl⟩
  rw[hy] at HS ⊢
  clear hs hA hV hE hj hn hz hy
  go_enter func129,ntmps129
  go_wp2_with fail
  refine HW.o.mono ?_
  rintro e w2 ⟨rfl,k2⟩
  obtain⟨v0,-⟩:=(HV.o.Ac k2).cells
  go_wp2_with fail
  refine(HS.o _ k2).mono ?_
  rintro e w3 ⟨rfl,rfl⟩
  go_wp2
  exact bodyPost_ret (v:=.tuple #[.int .u64 (y:Nat),(0:Int)]) (by simp[results,results129,go_sem]) rfl ⟨rfl,k2⟩

theorem FR(P:Sp)(W:Nat->Nat)(f:Nat->Bool)(w:World)(h:SpaceAt w P W f):
    Calls prog 31 #[.pointer (some P.s)] w λ e w'=>e=.returned (.pointer (some P.a))/\w'=w:=by
  obtain⟨c0,c1,c2⟩:=h.head
  clear h c1 c2
  go_enter func31,ntmps31
  go_wp2
  go_ret
  exact⟨rfl,rfl⟩

end

end Go.Proofs.YtfkedlgpgmaemaaGreatDoor
