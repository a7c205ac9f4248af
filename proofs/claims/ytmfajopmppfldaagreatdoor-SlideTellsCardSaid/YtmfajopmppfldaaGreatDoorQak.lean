/-
  Lemmas for the laws, together: View.
-/
import Derived.Test.YtmfajopmppfldaaGreatDoorQag
import Derived.Test.YtmfajopmppfldaaGreatDoorQaj
import Derived.Deep.RegionHeld3
set_option linter.unusedVariables false
set_option maxHeartbeats 16000000
namespace Go.Proofs.YtmfajopmppfldaaGreatDoor
open Tryz
section
open Go.RowKit
attribute [local go_sem ↓] EH

section
variable {P:Program} {md:Region.Mode} {Q:Exit->Act->World->Prop} {S:World->Prop}

theorem take_held{l:List Oper}{i:Nat}{oi:Oper}{v:Value}{fuel:Nat}{listed:Array Bool}{a:Act}{w:World}(hi:l[i]?=some oi)
    (hs:Region.noSelect l.toArray=true) (hf:Region.free md l.toArray listed i=true) (hr:(Region.ready md l.toArray listed).contains i=true)
    (hQ:∀ c a w,Q (.panic c) (a.put oi.dst v) w->Q (.panic c) a w) (hy:YieldsIf P l.toArray S oi v a) (hS:S w)
    (h:wpAnyH P md l.toArray Q S fuel (listed.setIfInBounds i true) (a.put oi.dst v) w):wpAnyH P md l.toArray Q S (fuel+1) listed a w:=
  wpAnyH_take (by simpa using hi) hs hf hr hQ hy hS h

theorem tk{l:List Oper}(i:Nat){oi:Oper}{v:Value}{fuel:Nat}{listed:Array Bool}{a:Act}{w:World}(hi:l[i]?=some oi)(hy:∀ w,S w->(execOp a.eval oi).run P w=.ok (.value v) w)
    (h:wpAnyH P md l.toArray Q S fuel (listed.setIfInBounds i true) (a.put oi.dst v) w) (hS:S w:=by assumption) (hs:Region.noSelect l.toArray=true:=by kernel_rfl) (hf:Region.free md l.toArray listed i=true:=by kernel_rfl)
    (hr:(Region.ready md l.toArray listed).contains i=true:=by kernel_rfl) (hQ:∀ c a w,Q (.panic c) (a.put oi.dst v) w->Q (.panic c) a w:=by exact λ_ _ _ h=>h) (hw:Region.wanted oi (yielded l.toArray a.tmps)=true:=by kernel_rfl):wpAnyH P md l.toArray Q S (fuel+1) listed a w:=
  take_held hi hs hf hr hQ (.inl ⟨hw,hy⟩) hS h

theorem Ao{l:List Oper}(i:Nat){oi:Oper}{v:Value}{fuel:Nat}{listed:Array Bool}{a:Act}{w:World}(h:wpAnyH P md l.toArray Q S fuel (listed.setIfInBounds i true) (a.put oi.dst v) w)(hi:l[i]?=some oi:=by rfl)
    (hy:∀ w,S w->(execOp a.eval oi).run P w=.ok (.value v) w:=by ((intro w0 hSw);(try dsimp only at hSw);go_simp;(try with_reducible rfl))) (hS:S w:=by assumption) (hs:Region.noSelect l.toArray=true:=by kernel_rfl) (hf:Region.free md l.toArray listed i=true:=by kernel_rfl)
    (hr:(Region.ready md l.toArray listed).contains i=true:=by kernel_rfl) (hQ:∀ c a w,Q (.panic c) (a.put oi.dst v) w->Q (.panic c) a w:=by exact λ_ _ _ h=>h) (hw:Region.wanted oi (yielded l.toArray a.tmps)=true:=by kernel_rfl):wpAnyH P md l.toArray Q S (fuel+1) listed a w:=
  take_held hi hs hf hr hQ (.inl ⟨hw,hy⟩) hS h

theorem Ar:(∀ (a:Act) (d:Nat) (v:Value),a.put (some d) v={a with tmps:=a.tmps.setIfInBounds d v})/\(∀ (a:Act) (v:Value),a.put none v=a)/\(∀ (l:List Value) (i:Nat) (x:Value),l.toArray.setIfInBounds i x=(l.set i x).toArray)/\(∀ (x y:Value) (l:List Value),(x::l).set 0 y=y::l)/\(∀ (x y:Value) (l:List Value) (i:Nat),(x::l).set (i+1) y=x::l.set i y):=
  ⟨λ _ _ _=>rfl,λ _ _=>rfl,λ _ _ _=>List.setIfInBounds_toArray ..,λ _ _ _=>rfl,λ _ _ _ _=>rfl⟩

theorem AQ(rs:List Nat){l:List Oper}{fuel:Nat}{listed:Array Bool}{a:Act}{w:World}(h:AllReadyH P md l.toArray Q S fuel listed a w rs)(hr:Region.ready md l.toArray listed=rs:=by kernel_rfl)(hne:rs≠[]:=by simp):wpAnyH P md l.toArray Q S (fuel+1) listed a w:=
  wpAnyH_ready hr hne h

theorem sk{l:List Oper}(i:Nat){oi:Oper}{fuel:Nat}{listed:Array Bool}{a:Act}{w:World}(hi:l[i]?=some oi)
    (h:wpAnyH P md l.toArray Q S fuel (listed.setIfInBounds i true) (a.put oi.dst undef) w) (hS:S w:=by assumption) (hs:Region.noSelect l.toArray=true:=by kernel_rfl) (hf:Region.free md l.toArray listed i=true:=by kernel_rfl)
    (hr:(Region.ready md l.toArray listed).contains i=true:=by kernel_rfl) (hQ:∀ c a w,Q (.panic c) (a.put oi.dst undef) w->Q (.panic c) a w:=by exact λ_ _ _ h=>h) (hw:Region.wanted oi (yielded l.toArray a.tmps)=false:=by kernel_rfl):wpAnyH P md l.toArray Q S (fuel+1) listed a w:=
  take_held hi hs hf hr hQ (.inr ⟨hw,rfl⟩) hS h

theorem Ag{l:List Oper}{fuel:Nat}{listed:Array Bool}{a:Act}{w:World}{i:Nat}{o:Oper}(ho:l[i]?=some o)
    (h:∀ K':Act->World->Prop,Shut (∀ a w,S w->(S w->wpAnyH P md l.toArray Q S fuel (listed.setIfInBounds i true) a w)->K' a w)->if Region.wanted o (yielded l.toArray a.tmps)=true then Oper.wp P o a w K' Q else K' (a.put o.dst undef) w):AllReadyH P md l.toArray Q S fuel listed a w [i]:=
  AllReadyH.cons (by simpa using ho) h AllReadyH.nil

theorem Ah{l:List Oper}{fuel:Nat}{listed:Array Bool}{a:Act}{w:World}{i:Nat}{o:Oper}{rs:List Nat}(ho:l[i]?=some o)
    (h:∀ K':Act->World->Prop,Shut (∀ a w,S w->(S w->wpAnyH P md l.toArray Q S fuel (listed.setIfInBounds i true) a w)->K' a w)->if Region.wanted o (yielded l.toArray a.tmps)=true then Oper.wp P o a w K' Q else K' (a.put o.dst undef) w)
    (hs:AllReadyH P md l.toArray Q S fuel listed a w rs):AllReadyH P md l.toArray Q S fuel listed a w (i::rs):=
  AllReadyH.cons (by simpa using ho) h hs
end

theorem Ac{w w':World}{p:Addr}{v:Value}(h:Kp Ab w w')(c:w.cell? p=some v):w'.cell? p=some v:=h.cell c (λ h=>h)

theorem Kz{w w':World}{p:Addr}{v:Value}(c:w.cell? p=some v)(h:Kp Ab w w':=by assumption):w'.cell? p=some v:=Ac h c

theorem Fits_type(ty ln sz:Int)(t q:Nat)(ts:List TypR)(w:World)(hF:Av w)(hT:TableAt w t q ts)(h:Am 1 ty ln sz=true)(he:¬ AY ts ty ln=0):
    Calls prog 51 #[.pointer (some ⟨t,0,none⟩),Al 1 ty ln sz] w λ e w'=>e=.returned (.int .i64 8)/\Kp Ab w w':=by
  have kA:=(Kr Ab w).alloc (.cells #[.int .u8 1,.int .i64 ty,.int .i64 ln,.int .i64 sz] 52)
  have b0:=wN w (.cells #[.int .u8 1,.int .i64 ty,.int .i64 ln,.int .i64 sz] 52)
  have CK:=Dz 1 ty ln sz _ (hF.Ad kA)
  rw[h] at CK
  obtain⟨E,hE⟩:∃ E,AY ts ty ln=E:=⟨_,rfl⟩
  have CO:∀ W,Kp Ab w W->Calls prog 102 #[.pointer (some ⟨t,0,none⟩),.int .i64 ty,.int .i64 ln] W λ e w'=>e=.returned (.tuple #[Al 0 0 0 0,.int .i64 E])/\Kp Ab W w':=λ W k=>
    (ED ty ln t q ts W (hT.Ad k)).mono λ e w' hp=>by rw[BG,if_neg he,hE] at hp;exact hp
  rw[hE] at he
  have hb:(E !=0)=true:=by simpa using he
  unfold Al at CK CO ⊢
  have HC:=sE CK
  have HO:=sE CO
  clear CK CO h he hE
  go_enter func51,ntmps51
  go_wp2_with fail
  refine HC.out.mono ?_
  rintro e w2 ⟨rfl,k2⟩
  have B0:=k2.at_ b0 (λ h=>h)
  obtain⟨d0,d1,d2,d3⟩:=Ay B0
  have KW:=kA.then' k2
  clear b0 HC
  go_wp2_with fail
  refine(HO.out _ KW).mono ?_
  rintro e w3 ⟨rfl,k3⟩
  have B3:=k3.at_ B0 (λ h=>h)
  have hl3:=lZ B3
  clear d0 d1 d2 d3
  obtain⟨c0,c1,c2,c3⟩:=Ay B3
  clear B0 B3
  go_wp2
  go_ret
  exact⟨rfl,(KW.then' k3).alloc _⟩

theorem Fits_size(ty ln sz:Int)(t q:Nat)(ts:List TypR)(w:World)(hF:Av w)(hT:TableAt w t q ts)(h:Am 1 ty ln sz=true)(he:AY ts ty ln=0)(hs:¬ Bq ts ty ln=sz):
    Calls prog 51 #[.pointer (some ⟨t,0,none⟩),Al 1 ty ln sz] w λ e w'=>e=.returned (.int .i64 8)/\Kp Ab w w':=by
  have kA:=(Kr Ab w).alloc (.cells #[.int .u8 1,.int .i64 ty,.int .i64 ln,.int .i64 sz] 52)
  have b0:=wN w (.cells #[.int .u8 1,.int .i64 ty,.int .i64 ln,.int .i64 sz] 52)
  have CK:=Dz 1 ty ln sz _ (hF.Ad kA)
  rw[h] at CK
  obtain⟨S,hS⟩:∃ S,Bq ts ty ln=S:=⟨_,rfl⟩
  have CO:∀ W,Kp Ab w W->Calls prog 102 #[.pointer (some ⟨t,0,none⟩),.int .i64 ty,.int .i64 ln] W λ e w'=>e=.returned (.tuple #[Al 1 ty ln S,.int .i64 0])/\Kp Ab W w':=λ W k=>
    (ED ty ln t q ts W (hT.Ad k)).mono λ e w' hp=>by rw[BG,he,if_pos rfl,hS] at hp;exact hp
  rw[hS] at hs
  have hb:(S==sz)=false:=by simpa using hs
  unfold Al at CK CO ⊢
  have HC:=sE CK
  have HO:=sE CO
  clear CK CO h he hs hS
  go_enter func51,ntmps51
  go_wp2_with fail
  refine HC.out.mono ?_
  rintro e w2 ⟨rfl,k2⟩
  have B0:=k2.at_ b0 (λ h=>h)
  obtain⟨d0,d1,d2,d3⟩:=Ay B0
  have KW:=kA.then' k2
  clear b0 HC
  go_wp2_with fail
  refine(HO.out _ KW).mono ?_
  rintro e w3 ⟨rfl,k3⟩
  have B3:=k3.at_ B0 (λ h=>h)
  have hl3:=lZ B3
  clear d0 d1 d2 d3
  obtain⟨c0,c1,c2,c3⟩:=Ay B3
  clear B0 B3
  go_wp2
  go_ret
  exact⟨rfl,(KW.then' k3).alloc _⟩

theorem Fits_one(ty ln sz:Int)(t q:Nat)(ts:List TypR)(w:World)(hF:Av w)(hT:TableAt w t q ts)(h:Am 1 ty ln sz=true):
    Calls prog 51 #[.pointer (some ⟨t,0,none⟩),Al 1 ty ln sz] w λ e w'=>e=.returned (.int .i64 (CZ ts 1 ty ln sz))/\Kp Ab w w':=by
  rw[fitsE_obj h]
  by_cases he:AY ts ty ln=0
  . rw[if_pos he]
    by_cases hs:Bq ts ty ln=sz
    . rw[if_pos hs];exact Fits_obj ty ln sz t q ts w hF hT h he hs
    . rw[if_neg hs];exact Fits_size ty ln sz t q ts w hF hT h he hs
  . rw[if_neg he];exact Fits_type ty ln sz t q ts w hF hT h he

theorem SHead_out(g:Int)(a q n:Nat)(W:Nat->Nat)(w:World)(h:ArenaAt w a q W n)(hg:g<0\/((n/2:Nat):Int)<=g):
    Calls prog 49 #[.pointer (some ⟨a,0,none⟩),.int .i64 g] w λ e w'=>e=.returned (.tuple #[Al 0 0 0 0,.int .i64 2])/\Kp Ab w w':=by
  obtain⟨w1,hw1⟩:∃ w1,w1=w.alloc (.cells #[.int .u8 0,.int .i64 0,.int .i64 0,.int .i64 0] 52):=⟨_,rfl⟩
  have kA:Kp Ab w w1:=by rw[hw1];exact (Kr _ w).alloc _
  have b0:w1.heap[w.heap.size]?=some (.cells #[.int .u8 0,.int .i64 0,.int .i64 0,.int .i64 0] 52 (0,0)):=by rw[hw1];exact wN w _
  have hl:=lZ b0
  have A1:=h.Ad kA
  have hn:=h.small
  obtain⟨G,hG⟩:∃ G,n/2=G:=⟨_,rfl⟩
  have HG:=gran_at a q n W w1 A1
  rw[hG] at HG hg
  have HGr:=sE HG
  have hGb:G<=32768:=by omega
  obtain⟨d0,d1,d2,d3⟩:=Ay b0
  have f0:=Ae b0
  have f00:=f0 0
  have f01:=f0 1
  have f02:=f0 2
  have f03:=f0 3
  have HB:=sE b0
  clear b0 f0 HG hG A1 h hn
  by_cases h0:g<0
  all_goals
    go_enter func49,ntmps49
    go_wp2_with fail
    rw[<- hw1]
    clear hw1
    try (refine HGr.out.mono ?_;rintro e w' ⟨rfl,rfl⟩)
    try (have hge:(G:Int)<=g:=by omega)
    go_wp2
    first
      |exact bodyPost_ret (v:=.tuple #[Al 0 0 0 0,.int .i64 2]) (by simp[results,results49,go_sem,d0,d1,d2,d3,Al]) rfl ⟨rfl,kA⟩
      | (obtain⟨wz,hwz⟩:∃ wz,wz=(((w1.setCell ⟨w.heap.size,0,none⟩ (.int .u8 0)).setCell ⟨w.heap.size,1,none⟩ (.int .i64 0)).setCell ⟨w.heap.size,2,none⟩ (.int .i64 0)).setCell ⟨w.heap.size,3,none⟩ (.int .i64 0):=⟨_,rfl⟩
         rw[<- hwz]
         obtain⟨tz,kz⟩:=Bb HB.out _ _ _ _ wz hwz
         obtain⟨e0,e1,e2,e3⟩:=Ay tz
         exact bodyPost_ret (v:=.tuple #[Al 0 0 0 0,.int .i64 2]) (by simp[results,results49,go_sem,e0,e1,e2,e3,Al]) rfl ⟨rfl,kA.trans kz (λ i hi h=>by have h':i=w.heap.size:=h;omega)⟩)

def BJ(w:World)(b a:Nat)(c:Cel)(k wds:Int)(m:Nat):Prop:=
  w.heap[b]?=some (.cells #[.pointer (some ⟨a,0,none⟩),.int .i64 (c.g:Nat),.int .u8 (c.tag:Nat),.int .i64 (c.ty:Nat),.int .i64 (c.ln:Nat),.int .i64 (c.sz:Nat),.int .u8 k,.int .i64 wds,.int .u64 (m:Nat)] 109 (0,0))

def SOfNo(w:World)(e:Ending)(w':World):Prop:=∃ E:Int,¬ E=0/\e=.returned (.tuple #[.pointer none,.int .i64 E])/\Kp Ab w w'

def SOfYes(a:Nat)(ts:List TypR)(c:Cel)(w:World)(e:Ending)(w':World):Prop:=
  ∃ b k wds m,typeOf ts (c.ty:Nat)=some ⟨k,wds,m⟩/\e=.returned (.tuple #[.pointer (some ⟨b,0,none⟩),.int .i64 0])/\BJ w' b a c k wds m/\w.heap.size<=b/\Kp Ab w w'

theorem SOf_err(g:Int)(a:Nat)(tv:Value)(E:Int)(w:World)(hE:¬ E=0)
    (hH:∀ W',Kp Ab w W'->Calls prog 49 #[.pointer (some ⟨a,0,none⟩),.int .i64 g] W' λ e w'=>e=.returned (.tuple #[.agg #[.int .u8 0,.int .i64 0,.int .i64 0,.int .i64 0],.int .i64 E])/\Kp Ab W' w'):
    Calls prog 13 #[.pointer (some ⟨a,0,none⟩),tv,.int .i64 g] w (SOfNo w):=by
  have HH:=sE hH
  have hb:(E !=0)=true:=by simpa using hE
  have HE:=sE hE
  clear hH hE
  go_enter func13,ntmps13
  go_wp2_with fail
  refine(HH.out _ (Kr _ _)).mono ?_
  rintro e w2 ⟨rfl,k2⟩
  go_wp2
  exact bodyPost_ret (v:=.tuple #[.pointer none,.int .i64 E]) (by simp[results,results13,go_sem]) rfl ⟨E,HE.out,rfl,k2.alloc _⟩

theorem SOf_tag0(g a n:Nat)(tq:Nat)(ty ln sz:Nat)(k wds:Int)(m:Nat)(G:Int)(F:Int)(w:World)(hs:sz<16777216)(hn:n<=65536)(hg:g<n/2)
    (hH:∀ W',Kp Ab w W'->Calls prog 49 #[.pointer (some ⟨a,0,none⟩),.int .i64 (g:Nat)] W' λ e w'=>e=.returned (.tuple #[.agg #[.int .u8 0,.int .i64 (ty:Nat),.int .i64 (ln:Nat),.int .i64 (sz:Nat)],.int .i64 0])/\Kp Ab W' w')
    (hG:∀ W',Kp Ab w W'->Calls prog 50 #[.pointer (some ⟨tq,0,none⟩),.int .i64 (ty:Nat)] W' λ e w'=>e=.returned (.tuple #[.agg #[.int .u8 k,.int .i64 wds,.int .u64 (m:Nat)],.int .i64 G])/\Kp Ab W' w')
    (hF:∀ W',Kp Ab w W'->Calls prog 51 #[.pointer (some ⟨tq,0,none⟩),.agg #[.int .u8 0,.int .i64 (ty:Nat),.int .i64 (ln:Nat),.int .i64 (sz:Nat)]] W' λ e w'=>e=.returned (.int .i64 F)/\Kp Ab W' w')
    (hR:∀ W',Kp Ab w W'->Calls prog 52 #[.pointer (some ⟨a,0,none⟩)] W' λ e w'=>e=.returned (.int .i64 ((n/2:Nat):Int))/\w'=W'):
    Calls prog 13 #[.pointer (some ⟨a,0,none⟩),.pointer (some ⟨tq,0,none⟩),.int .i64 (g:Nat)] w (SOfNo w):=by
  have HH:=sE hH
  have HG:=sE hG
  have HF:=sE hF
  obtain⟨H,hHn⟩:∃ H,n/2=H:=⟨_,rfl⟩
  rw[hHn] at hR hg
  have hHb:H<=32768:=by omega
  have HR:=sE hR

  clear hH hG hF hR
  go_enter func13,ntmps13
  go_wp2_with fail
  refine(HH.out _ (Kr _ _)).mono ?_
  rintro e w2 ⟨rfl,k2⟩
  have b9:=wN w2 (.cells #[.int .u8 0,.int .i64 (ty:Nat),.int .i64 (ln:Nat),.int .i64 (sz:Nat)] 52)
  obtain⟨w3,hw3⟩:∃ w3,w3=w2.alloc (.cells #[.int .u8 0,.int .i64 (ty:Nat),.int .i64 (ln:Nat),.int .i64 (sz:Nat)] 52):=⟨_,rfl⟩
  rw[<- hw3] at b9
  have k3:Kp Ab w w3:=by rw[hw3];exact k2.alloc _
  obtain⟨c0,c1,c2,c3⟩:=Ay b9
  have HB9:=sE b9
  clear b9
  go_wp2_with fail
  try rw[<- hw3]
  clear hw3
  try go_wp2_with fail
  refine(HG.out _ k3).mono ?_
  rintro e w4 ⟨rfl,k4⟩
  have b94:=k4.at_ HB9.out (λ h=>h)
  have hl94:=lZ b94
  have b10:=wN w4 (.cells #[.int .u8 k,.int .i64 wds,.int .u64 (m:Nat)] 86)
  obtain⟨w5,hw5⟩:∃ w5,w5=w4.alloc (.cells #[.int .u8 k,.int .i64 wds,.int .u64 (m:Nat)] 86):=⟨_,rfl⟩
  rw[<- hw5] at b10
  have k5:Kp Ab w4 w5:=by rw[hw5];exact (Kr _ _).alloc _
  have K5:=(k3.then' k4).then' k5
  have HB9':=sE (k5.at_ b94 (λ h=>h))
  have HB10:=sE b10
  clear c0 c1 c2 c3 b94 b10
  obtain⟨c0,c1,c2,c3⟩:=Ay HB9'.out
  obtain⟨t0,t1,t2⟩:=cells3 HB10.out
  have hl5:=lZ HB9'.out
  have hl6:=lZ HB10.out
  have hsz2:=k2.size
  go_wp2_with fail
  try rw[<- hw5]
  clear hw5 k4 k5
  try go_wp2_with fail
  go_quiet (fail)
  go_wp2
  exact bodyPost_ret (v:=.tuple #[.pointer none,.int .i64 8]) (by simp[results,results13,go_sem]) rfl ⟨8,by omega,rfl,K5.then' (by first|exact (Kr _ _).drewN _|(repeat (first|assumption|exact Kr _ _|refine Kp.drew ?_|refine Kp.alloc ?_ _|refine Kp.Az ?_ (by omega) _)))⟩

theorem SOf_tag2(g a n:Nat)(tq:Nat)(ty ln sz:Nat)(k wds:Int)(m:Nat)(G:Int)(F:Int)(w:World)(hs:sz<16777216)(hn:n<=65536)(hg:g<n/2)
    (hH:∀ W',Kp Ab w W'->Calls prog 49 #[.pointer (some ⟨a,0,none⟩),.int .i64 (g:Nat)] W' λ e w'=>e=.returned (.tuple #[.agg #[.int .u8 2,.int .i64 (ty:Nat),.int .i64 (ln:Nat),.int .i64 (sz:Nat)],.int .i64 0])/\Kp Ab W' w')
    (hG:∀ W',Kp Ab w W'->Calls prog 50 #[.pointer (some ⟨tq,0,none⟩),.int .i64 (ty:Nat)] W' λ e w'=>e=.returned (.tuple #[.agg #[.int .u8 k,.int .i64 wds,.int .u64 (m:Nat)],.int .i64 G])/\Kp Ab W' w')
    (hF:∀ W',Kp Ab w W'->Calls prog 51 #[.pointer (some ⟨tq,0,none⟩),.agg #[.int .u8 2,.int .i64 (ty:Nat),.int .i64 (ln:Nat),.int .i64 (sz:Nat)]] W' λ e w'=>e=.returned (.int .i64 F)/\Kp Ab W' w')
    (hR:∀ W',Kp Ab w W'->Calls prog 52 #[.pointer (some ⟨a,0,none⟩)] W' λ e w'=>e=.returned (.int .i64 ((n/2:Nat):Int))/\w'=W'):
    Calls prog 13 #[.pointer (some ⟨a,0,none⟩),.pointer (some ⟨tq,0,none⟩),.int .i64 (g:Nat)] w (SOfNo w):=by
  have HH:=sE hH
  have HG:=sE hG
  have HF:=sE hF
  obtain⟨H,hHn⟩:∃ H,n/2=H:=⟨_,rfl⟩
  rw[hHn] at hR hg
  have hHb:H<=32768:=by omega
  have HR:=sE hR

  clear hH hG hF hR
  go_enter func13,ntmps13
  go_wp2_with fail
  refine(HH.out _ (Kr _ _)).mono ?_
  rintro e w2 ⟨rfl,k2⟩
  have b9:=wN w2 (.cells #[.int .u8 2,.int .i64 (ty:Nat),.int .i64 (ln:Nat),.int .i64 (sz:Nat)] 52)
  obtain⟨w3,hw3⟩:∃ w3,w3=w2.alloc (.cells #[.int .u8 2,.int .i64 (ty:Nat),.int .i64 (ln:Nat),.int .i64 (sz:Nat)] 52):=⟨_,rfl⟩
  rw[<- hw3] at b9
  have k3:Kp Ab w w3:=by rw[hw3];exact k2.alloc _
  obtain⟨c0,c1,c2,c3⟩:=Ay b9
  have HB9:=sE b9
  clear b9
  go_wp2_with fail
  try rw[<- hw3]
  clear hw3
  try go_wp2_with fail
  refine(HG.out _ k3).mono ?_
  rintro e w4 ⟨rfl,k4⟩
  have b94:=k4.at_ HB9.out (λ h=>h)
  have hl94:=lZ b94
  have b10:=wN w4 (.cells #[.int .u8 k,.int .i64 wds,.int .u64 (m:Nat)] 86)
  obtain⟨w5,hw5⟩:∃ w5,w5=w4.alloc (.cells #[.int .u8 k,.int .i64 wds,.int .u64 (m:Nat)] 86):=⟨_,rfl⟩
  rw[<- hw5] at b10
  have k5:Kp Ab w4 w5:=by rw[hw5];exact (Kr _ _).alloc _
  have K5:=(k3.then' k4).then' k5
  have HB9':=sE (k5.at_ b94 (λ h=>h))
  have HB10:=sE b10
  clear c0 c1 c2 c3 b94 b10
  obtain⟨c0,c1,c2,c3⟩:=Ay HB9'.out
  obtain⟨t0,t1,t2⟩:=cells3 HB10.out
  have hl5:=lZ HB9'.out
  have hl6:=lZ HB10.out
  have hsz2:=k2.size
  go_wp2_with fail
  try rw[<- hw5]
  clear hw5 k4 k5
  try go_wp2_with fail
  go_quiet (fail)
  go_wp2
  exact bodyPost_ret (v:=.tuple #[.pointer none,.int .i64 8]) (by simp[results,results13,go_sem]) rfl ⟨8,by omega,rfl,K5.then' (by first|exact (Kr _ _).drewN _|(repeat (first|assumption|exact Kr _ _|refine Kp.drew ?_|refine Kp.alloc ?_ _|refine Kp.Az ?_ (by omega) _)))⟩

theorem SOf_tag3(g a n:Nat)(tq:Nat)(ty ln sz:Nat)(k wds:Int)(m:Nat)(G:Int)(F:Int)(w:World)(hs:sz<16777216)(hn:n<=65536)(hg:g<n/2)
    (hH:∀ W',Kp Ab w W'->Calls prog 49 #[.pointer (some ⟨a,0,none⟩),.int .i64 (g:Nat)] W' λ e w'=>e=.returned (.tuple #[.agg #[.int .u8 3,.int .i64 (ty:Nat),.int .i64 (ln:Nat),.int .i64 (sz:Nat)],.int .i64 0])/\Kp Ab W' w')
    (hG:∀ W',Kp Ab w W'->Calls prog 50 #[.pointer (some ⟨tq,0,none⟩),.int .i64 (ty:Nat)] W' λ e w'=>e=.returned (.tuple #[.agg #[.int .u8 k,.int .i64 wds,.int .u64 (m:Nat)],.int .i64 G])/\Kp Ab W' w')
    (hF:∀ W',Kp Ab w W'->Calls prog 51 #[.pointer (some ⟨tq,0,none⟩),.agg #[.int .u8 3,.int .i64 (ty:Nat),.int .i64 (ln:Nat),.int .i64 (sz:Nat)]] W' λ e w'=>e=.returned (.int .i64 F)/\Kp Ab W' w')
    (hR:∀ W',Kp Ab w W'->Calls prog 52 #[.pointer (some ⟨a,0,none⟩)] W' λ e w'=>e=.returned (.int .i64 ((n/2:Nat):Int))/\w'=W'):
    Calls prog 13 #[.pointer (some ⟨a,0,none⟩),.pointer (some ⟨tq,0,none⟩),.int .i64 (g:Nat)] w (SOfNo w):=by
  have HH:=sE hH
  have HG:=sE hG
  have HF:=sE hF
  obtain⟨H,hHn⟩:∃ H,n/2=H:=⟨_,rfl⟩
  rw[hHn] at hR hg
  have hHb:H<=32768:=by omega
  have HR:=sE hR

  clear hH hG hF hR
  go_enter func13,ntmps13
  go_wp2_with fail
  refine(HH.out _ (Kr _ _)).mono ?_
  rintro e w2 ⟨rfl,k2⟩
  have b9:=wN w2 (.cells #[.int .u8 3,.int .i64 (ty:Nat),.int .i64 (ln:Nat),.int .i64 (sz:Nat)] 52)
  obtain⟨w3,hw3⟩:∃ w3,w3=w2.alloc (.cells #[.int .u8 3,.int .i64 (ty:Nat),.int .i64 (ln:Nat),.int .i64 (sz:Nat)] 52):=⟨_,rfl⟩
  rw[<- hw3] at b9
  have k3:Kp Ab w w3:=by rw[hw3];exact k2.alloc _
  obtain⟨c0,c1,c2,c3⟩:=Ay b9
  have HB9:=sE b9
  clear b9
  go_wp2_with fail
  try rw[<- hw3]
  clear hw3
  try go_wp2_with fail
  refine(HG.out _ k3).mono ?_
  rintro e w4 ⟨rfl,k4⟩
  have b94:=k4.at_ HB9.out (λ h=>h)
  have hl94:=lZ b94
  have b10:=wN w4 (.cells #[.int .u8 k,.int .i64 wds,.int .u64 (m:Nat)] 86)
  obtain⟨w5,hw5⟩:∃ w5,w5=w4.alloc (.cells #[.int .u8 k,.int .i64 wds,.int .u64 (m:Nat)] 86):=⟨_,rfl⟩
  rw[<- hw5] at b10
  have k5:Kp Ab w4 w5:=by rw[hw5];exact (Kr _ _).alloc _
  have K5:=(k3.then' k4).then' k5
  have HB9':=sE (k5.at_ b94 (λ h=>h))
  have HB10:=sE b10
  clear c0 c1 c2 c3 b94 b10
  obtain⟨c0,c1,c2,c3⟩:=Ay HB9'.out
  obtain⟨t0,t1,t2⟩:=cells3 HB10.out
  have hl5:=lZ HB9'.out
  have hl6:=lZ HB10.out
  have hsz2:=k2.size
  go_wp2_with fail
  try rw[<- hw5]
  clear hw5 k4 k5
  try go_wp2_with fail
  go_quiet (fail)
  go_wp2
  exact bodyPost_ret (v:=.tuple #[.pointer none,.int .i64 8]) (by simp[results,results13,go_sem]) rfl ⟨8,by omega,rfl,K5.then' (by first|exact (Kr _ _).drewN _|(repeat (first|assumption|exact Kr _ _|refine Kp.drew ?_|refine Kp.alloc ?_ _|refine Kp.Az ?_ (by omega) _)))⟩

theorem SOf_fit(g a n:Nat)(tq:Nat)(ty ln sz:Nat)(k wds:Int)(m:Nat)(G:Int)(F:Int)(w:World)(hF0:F=8)(hs:sz<16777216)(hn:n<=65536)(hg:g<n/2)
    (hH:∀ W',Kp Ab w W'->Calls prog 49 #[.pointer (some ⟨a,0,none⟩),.int .i64 (g:Nat)] W' λ e w'=>e=.returned (.tuple #[.agg #[.int .u8 1,.int .i64 (ty:Nat),.int .i64 (ln:Nat),.int .i64 (sz:Nat)],.int .i64 0])/\Kp Ab W' w')
    (hG:∀ W',Kp Ab w W'->Calls prog 50 #[.pointer (some ⟨tq,0,none⟩),.int .i64 (ty:Nat)] W' λ e w'=>e=.returned (.tuple #[.agg #[.int .u8 k,.int .i64 wds,.int .u64 (m:Nat)],.int .i64 G])/\Kp Ab W' w')
    (hF:∀ W',Kp Ab w W'->Calls prog 51 #[.pointer (some ⟨tq,0,none⟩),.agg #[.int .u8 1,.int .i64 (ty:Nat),.int .i64 (ln:Nat),.int .i64 (sz:Nat)]] W' λ e w'=>e=.returned (.int .i64 F)/\Kp Ab W' w')
    (hR:∀ W',Kp Ab w W'->Calls prog 52 #[.pointer (some ⟨a,0,none⟩)] W' λ e w'=>e=.returned (.int .i64 ((n/2:Nat):Int))/\w'=W'):
    Calls prog 13 #[.pointer (some ⟨a,0,none⟩),.pointer (some ⟨tq,0,none⟩),.int .i64 (g:Nat)] w (SOfNo w):=by
  have HH:=sE hH
  have HG:=sE hG
  have HF:=sE hF
  obtain⟨H,hHn⟩:∃ H,n/2=H:=⟨_,rfl⟩
  rw[hHn] at hR hg
  have hHb:H<=32768:=by omega
  have HR:=sE hR
  subst hF0
  clear hH hG hF hR
  go_enter func13,ntmps13
  go_wp2_with fail
  refine(HH.out _ (Kr _ _)).mono ?_
  rintro e w2 ⟨rfl,k2⟩
  have b9:=wN w2 (.cells #[.int .u8 1,.int .i64 (ty:Nat),.int .i64 (ln:Nat),.int .i64 (sz:Nat)] 52)
  obtain⟨w3,hw3⟩:∃ w3,w3=w2.alloc (.cells #[.int .u8 1,.int .i64 (ty:Nat),.int .i64 (ln:Nat),.int .i64 (sz:Nat)] 52):=⟨_,rfl⟩
  rw[<- hw3] at b9
  have k3:Kp Ab w w3:=by rw[hw3];exact k2.alloc _
  obtain⟨c0,c1,c2,c3⟩:=Ay b9
  have HB9:=sE b9
  clear b9
  go_wp2_with fail
  try rw[<- hw3]
  clear hw3
  try go_wp2_with fail
  refine(HG.out _ k3).mono ?_
  rintro e w4 ⟨rfl,k4⟩
  have b94:=k4.at_ HB9.out (λ h=>h)
  have hl94:=lZ b94
  have b10:=wN w4 (.cells #[.int .u8 k,.int .i64 wds,.int .u64 (m:Nat)] 86)
  obtain⟨w5,hw5⟩:∃ w5,w5=w4.alloc (.cells #[.int .u8 k,.int .i64 wds,.int .u64 (m:Nat)] 86):=⟨_,rfl⟩
  rw[<- hw5] at b10
  have k5:Kp Ab w4 w5:=by rw[hw5];exact (Kr _ _).alloc _
  have K5:=(k3.then' k4).then' k5
  have HB9':=sE (k5.at_ b94 (λ h=>h))
  have HB10:=sE b10
  clear c0 c1 c2 c3 b94 b10
  obtain⟨c0,c1,c2,c3⟩:=Ay HB9'.out
  obtain⟨t0,t1,t2⟩:=cells3 HB10.out
  have hl5:=lZ HB9'.out
  have hl6:=lZ HB10.out
  have hsz2:=k2.size
  go_wp2_with fail
  try rw[<- hw5]
  clear hw5 k4 k5
  try go_wp2_with fail
  refine wp_region_held_drew (S:=(λ w'=>w'.cell? ⟨w2.heap.size,0,none⟩=some (.int .u8 1)/\w'.cell? ⟨w2.heap.size,1,none⟩=some (.int .i64 (ty:Nat))/\w'.cell? ⟨w2.heap.size,2,none⟩=some (.int .i64 (ln:Nat))/\w'.cell? ⟨w2.heap.size,3,none⟩=some (.int .i64 (sz:Nat)))) (by kernel_rfl) ?_ (λ qZ=>?_)
  . (try dsimp only);(exact ⟨Ac (by (repeat (first|assumption|exact Kr _ _|refine Kp.drew ?_|refine Kp.alloc ?_ _|refine Kp.Az ?_ (by omega) _))) c0,Ac (by (repeat (first|assumption|exact Kr _ _|refine Kp.drew ?_|refine Kp.alloc ?_ _|refine Kp.Az ?_ (by omega) _))) c1,Ac (by (repeat (first|assumption|exact Kr _ _|refine Kp.drew ?_|refine Kp.alloc ?_ _|refine Kp.Az ?_ (by omega) _))) c2,Ac (by (repeat (first|assumption|exact Kr _ _|refine Kp.drew ?_|refine Kp.alloc ?_ _|refine Kp.Az ?_ (by omega) _))) c3⟩)
  refine Ao 0 ?_;refine Ao 1 ?_;refine Ao 2 ?_;refine Ao 3 ?_;refine Ao 4 ?_;refine Ao 5 ?_
  try simp only[Ar]
  refine AQ [6] ?_
  refine Ag rfl (λ K hK=>?_)
  go_simp
  go_at_call 51
  with_reducible refine(HF.out _ (K5.then' ?hkk)).mono ?_
  case hkk=>(repeat (first|assumption|exact Kr _ _|refine Kp.drew ?_|refine Kp.alloc ?_ _|refine Kp.Az ?_ (by omega) _))
  rintro e w6 ⟨rfl,k6⟩
  have K6:Kp Ab w5 w6:=Kp.then' (by (repeat (first|assumption|exact Kr _ _|refine Kp.drew ?_|refine Kp.alloc ?_ _|refine Kp.Az ?_ (by omega) _))) k6
  refine hK _ _ ?_ (λ qZ=>?_)
  . (try dsimp only);(exact ⟨Ac (by (repeat (first|assumption|exact Kr _ _|refine Kp.drew ?_|refine Kp.alloc ?_ _|refine Kp.Az ?_ (by omega) _))) c0,Ac (by (repeat (first|assumption|exact Kr _ _|refine Kp.drew ?_|refine Kp.alloc ?_ _|refine Kp.Az ?_ (by omega) _))) c1,Ac (by (repeat (first|assumption|exact Kr _ _|refine Kp.drew ?_|refine Kp.alloc ?_ _|refine Kp.Az ?_ (by omega) _))) c2,Ac (by (repeat (first|assumption|exact Kr _ _|refine Kp.drew ?_|refine Kp.alloc ?_ _|refine Kp.Az ?_ (by omega) _))) c3⟩)
  clear hK K
  try simp only[Ar]
  refine Ao 7 ?_;refine Ao 8 ?_;refine Ao 9 ?_
  try simp only[Ar]
  refine sk 10 rfl ?_
  try simp only[Ar]
  refine sk 11 rfl ?_
  try simp only[Ar]
  refine sk 12 rfl ?_
  try simp only[Ar]
  refine sk 13 rfl ?_
  try simp only[Ar]
  refine sk 14 rfl ?_
  try simp only[Ar]
  refine sk 15 rfl ?_
  try simp only[Ar]
  refine sk 16 rfl ?_
  try simp only[Ar]
  refine Ao 17 ?_
  try simp only[Ar]
  refine wpAnyH_done (by kernel_rfl) ?_ _
  go_wp2
  exact bodyPost_ret (v:=.tuple #[.pointer none,.int .i64 8]) (by simp[results,results13,go_sem]) rfl ⟨8,by omega,rfl,K5.then' (by first|exact (Kr _ _).drewN _|(repeat (first|assumption|exact Kr _ _|refine Kp.drew ?_|refine Kp.alloc ?_ _|refine Kp.Az ?_ (by omega) _)))⟩

theorem SOf_big(g a n:Nat)(tq:Nat)(ty ln sz:Nat)(k wds:Int)(m:Nat)(G:Int)(F:Int)(w:World)(hF0:F=0)(hz:n/2-g<sz)(hs:sz<16777216)(hn:n<=65536)(hg:g<n/2)
    (hH:∀ W',Kp Ab w W'->Calls prog 49 #[.pointer (some ⟨a,0,none⟩),.int .i64 (g:Nat)] W' λ e w'=>e=.returned (.tuple #[.agg #[.int .u8 1,.int .i64 (ty:Nat),.int .i64 (ln:Nat),.int .i64 (sz:Nat)],.int .i64 0])/\Kp Ab W' w')
    (hG:∀ W',Kp Ab w W'->Calls prog 50 #[.pointer (some ⟨tq,0,none⟩),.int .i64 (ty:Nat)] W' λ e w'=>e=.returned (.tuple #[.agg #[.int .u8 k,.int .i64 wds,.int .u64 (m:Nat)],.int .i64 G])/\Kp Ab W' w')
    (hF:∀ W',Kp Ab w W'->Calls prog 51 #[.pointer (some ⟨tq,0,none⟩),.agg #[.int .u8 1,.int .i64 (ty:Nat),.int .i64 (ln:Nat),.int .i64 (sz:Nat)]] W' λ e w'=>e=.returned (.int .i64 F)/\Kp Ab W' w')
    (hR:∀ W',Kp Ab w W'->Calls prog 52 #[.pointer (some ⟨a,0,none⟩)] W' λ e w'=>e=.returned (.int .i64 ((n/2:Nat):Int))/\w'=W'):
    Calls prog 13 #[.pointer (some ⟨a,0,none⟩),.pointer (some ⟨tq,0,none⟩),.int .i64 (g:Nat)] w (SOfNo w):=by
  have HH:=sE hH
  have HG:=sE hG
  have HF:=sE hF
  obtain⟨H,hHn⟩:∃ H,n/2=H:=⟨_,rfl⟩
  rw[hHn] at hR hg
  have hHb:H<=32768:=by omega
  have HR:=sE hR
  subst hF0
  have hsub:IntKind.i64.wrap ((H:Int)-(g:Int))=((H-g:Nat):Int):=by rw[IntKind.wrap_i64];omega
  have hd:decide (((H-g:Nat):Int)<(sz:Int))=true:=dT (by omega)
  clear hH hG hF hR
  go_enter func13,ntmps13
  go_wp2_with fail
  refine(HH.out _ (Kr _ _)).mono ?_
  rintro e w2 ⟨rfl,k2⟩
  have b9:=wN w2 (.cells #[.int .u8 1,.int .i64 (ty:Nat),.int .i64 (ln:Nat),.int .i64 (sz:Nat)] 52)
  obtain⟨w3,hw3⟩:∃ w3,w3=w2.alloc (.cells #[.int .u8 1,.int .i64 (ty:Nat),.int .i64 (ln:Nat),.int .i64 (sz:Nat)] 52):=⟨_,rfl⟩
  rw[<- hw3] at b9
  have k3:Kp Ab w w3:=by rw[hw3];exact k2.alloc _
  obtain⟨c0,c1,c2,c3⟩:=Ay b9
  have HB9:=sE b9
  clear b9
  go_wp2_with fail
  try rw[<- hw3]
  clear hw3
  try go_wp2_with fail
  refine(HG.out _ k3).mono ?_
  rintro e w4 ⟨rfl,k4⟩
  have b94:=k4.at_ HB9.out (λ h=>h)
  have hl94:=lZ b94
  have b10:=wN w4 (.cells #[.int .u8 k,.int .i64 wds,.int .u64 (m:Nat)] 86)
  obtain⟨w5,hw5⟩:∃ w5,w5=w4.alloc (.cells #[.int .u8 k,.int .i64 wds,.int .u64 (m:Nat)] 86):=⟨_,rfl⟩
  rw[<- hw5] at b10
  have k5:Kp Ab w4 w5:=by rw[hw5];exact (Kr _ _).alloc _
  have K5:=(k3.then' k4).then' k5
  have HB9':=sE (k5.at_ b94 (λ h=>h))
  have HB10:=sE b10
  clear c0 c1 c2 c3 b94 b10
  obtain⟨c0,c1,c2,c3⟩:=Ay HB9'.out
  obtain⟨t0,t1,t2⟩:=cells3 HB10.out
  have hl5:=lZ HB9'.out
  have hl6:=lZ HB10.out
  have hsz2:=k2.size
  go_wp2_with fail
  try rw[<- hw5]
  clear hw5 k4 k5
  try go_wp2_with fail
  go_region_held3 (λ w'=>w'.cell? ⟨w2.heap.size,0,none⟩=some (.int .u8 1)/\w'.cell? ⟨w2.heap.size,1,none⟩=some (.int .i64 (ty:Nat))/\w'.cell? ⟨w2.heap.size,2,none⟩=some (.int .i64 (ln:Nat))/\w'.cell? ⟨w2.heap.size,3,none⟩=some (.int .i64 (sz:Nat)))
    (exact ⟨Ac (by (repeat (first|assumption|exact Kr _ _|refine Kp.drew ?_|refine Kp.alloc ?_ _|refine Kp.Az ?_ (by omega) _))) c0,Ac (by (repeat (first|assumption|exact Kr _ _|refine Kp.drew ?_|refine Kp.alloc ?_ _|refine Kp.Az ?_ (by omega) _))) c1,Ac (by (repeat (first|assumption|exact Kr _ _|refine Kp.drew ?_|refine Kp.alloc ?_ _|refine Kp.Az ?_ (by omega) _))) c2,Ac (by (repeat (first|assumption|exact Kr _ _|refine Kp.drew ?_|refine Kp.alloc ?_ _|refine Kp.Az ?_ (by omega) _))) c3⟩)
    (first
      |(go_at_call 51;with_reducible refine(HF.out _ (K5.then' (by (repeat (first|assumption|exact Kr _ _|refine Kp.drew ?_|refine Kp.alloc ?_ _|refine Kp.Az ?_ (by omega) _))))).mono ?_;rintro e w6 ⟨rfl,k6⟩;have K6:Kp Ab w5 w6:=Kp.then' (by (repeat (first|assumption|exact Kr _ _|refine Kp.drew ?_|refine Kp.alloc ?_ _|refine Kp.Az ?_ (by omega) _))) k6)
      |(go_at_call 52;with_reducible refine(HR.out _ (K5.then' (by (repeat (first|assumption|exact Kr _ _|refine Kp.drew ?_|refine Kp.alloc ?_ _|refine Kp.Az ?_ (by omega) _))))).mono ?_;rintro e w7 ⟨rfl,rfl⟩))
  go_wp2
  exact bodyPost_ret (v:=.tuple #[.pointer none,.int .i64 8]) (by simp[results,results13,go_sem]) rfl ⟨8,by omega,rfl,K5.then' (by first|exact (Kr _ _).drewN _|(repeat (first|assumption|exact Kr _ _|refine Kp.drew ?_|refine Kp.alloc ?_ _|refine Kp.Az ?_ (by omega) _)))⟩

theorem SOf_ok(g a n:Nat)(tq:Nat)(ty ln sz:Nat)(k wds:Int)(m:Nat)(G:Int)(F:Int)(w:World)(hF0:F=0)(hz:sz<=n/2-g)(hs:sz<16777216)(hn:n<=65536)(hg:g<n/2)
    (hH:∀ W',Kp Ab w W'->Calls prog 49 #[.pointer (some ⟨a,0,none⟩),.int .i64 (g:Nat)] W' λ e w'=>e=.returned (.tuple #[.agg #[.int .u8 1,.int .i64 (ty:Nat),.int .i64 (ln:Nat),.int .i64 (sz:Nat)],.int .i64 0])/\Kp Ab W' w')
    (hG:∀ W',Kp Ab w W'->Calls prog 50 #[.pointer (some ⟨tq,0,none⟩),.int .i64 (ty:Nat)] W' λ e w'=>e=.returned (.tuple #[.agg #[.int .u8 k,.int .i64 wds,.int .u64 (m:Nat)],.int .i64 G])/\Kp Ab W' w')
    (hF:∀ W',Kp Ab w W'->Calls prog 51 #[.pointer (some ⟨tq,0,none⟩),.agg #[.int .u8 1,.int .i64 (ty:Nat),.int .i64 (ln:Nat),.int .i64 (sz:Nat)]] W' λ e w'=>e=.returned (.int .i64 F)/\Kp Ab W' w')
    (hR:∀ W',Kp Ab w W'->Calls prog 52 #[.pointer (some ⟨a,0,none⟩)] W' λ e w'=>e=.returned (.int .i64 ((n/2:Nat):Int))/\w'=W'):
    Calls prog 13 #[.pointer (some ⟨a,0,none⟩),.pointer (some ⟨tq,0,none⟩),.int .i64 (g:Nat)] w (λ e w'=>∃ b,e=.returned (.tuple #[.pointer (some ⟨b,0,none⟩),.int .i64 0])/\BJ w' b a ⟨g,1,ty,ln,sz⟩ k wds m/\w.heap.size<=b/\Kp Ab w w'):=by
  have HH:=sE hH
  have HG:=sE hG
  have HF:=sE hF
  obtain⟨H,hHn⟩:∃ H,n/2=H:=⟨_,rfl⟩
  rw[hHn] at hR hg
  have hHb:H<=32768:=by omega
  have HR:=sE hR
  subst hF0
  have hsub:IntKind.i64.wrap ((H:Int)-(g:Int))=((H-g:Nat):Int):=by rw[IntKind.wrap_i64];omega
  have hd:decide (((H-g:Nat):Int)<(sz:Int))=false:=dF (by omega)
  clear hH hG hF hR
  go_enter func13,ntmps13
  go_wp2_with fail
  refine(HH.out _ (Kr _ _)).mono ?_
  rintro e w2 ⟨rfl,k2⟩
  have b9:=wN w2 (.cells #[.int .u8 1,.int .i64 (ty:Nat),.int .i64 (ln:Nat),.int .i64 (sz:Nat)] 52)
  obtain⟨w3,hw3⟩:∃ w3,w3=w2.alloc (.cells #[.int .u8 1,.int .i64 (ty:Nat),.int .i64 (ln:Nat),.int .i64 (sz:Nat)] 52):=⟨_,rfl⟩
  rw[<- hw3] at b9
  have k3:Kp Ab w w3:=by rw[hw3];exact k2.alloc _
  obtain⟨c0,c1,c2,c3⟩:=Ay b9
  have HB9:=sE b9
  clear b9
  go_wp2_with fail
  try rw[<- hw3]
  clear hw3
  try go_wp2_with fail
  refine(HG.out _ k3).mono ?_
  rintro e w4 ⟨rfl,k4⟩
  have b94:=k4.at_ HB9.out (λ h=>h)
  have hl94:=lZ b94
  have b10:=wN w4 (.cells #[.int .u8 k,.int .i64 wds,.int .u64 (m:Nat)] 86)
  obtain⟨w5,hw5⟩:∃ w5,w5=w4.alloc (.cells #[.int .u8 k,.int .i64 wds,.int .u64 (m:Nat)] 86):=⟨_,rfl⟩
  rw[<- hw5] at b10
  have k5:Kp Ab w4 w5:=by rw[hw5];exact (Kr _ _).alloc _
  have K5:=(k3.then' k4).then' k5
  have HB9':=sE (k5.at_ b94 (λ h=>h))
  have HB10:=sE b10
  clear c0 c1 c2 c3 b94 b10
  obtain⟨c0,c1,c2,c3⟩:=Ay HB9'.out
  obtain⟨t0,t1,t2⟩:=cells3 HB10.out
  have hl5:=lZ HB9'.out
  have hl6:=lZ HB10.out
  have hsz2:=k2.size
  go_wp2_with fail
  try rw[<- hw5]
  clear hw5 k4 k5
  try go_wp2_with fail
  go_region_held3 (λ w'=>w'.cell? ⟨w2.heap.size,0,none⟩=some (.int .u8 1)/\w'.cell? ⟨w2.heap.size,1,none⟩=some (.int .i64 (ty:Nat))/\w'.cell? ⟨w2.heap.size,2,none⟩=some (.int .i64 (ln:Nat))/\w'.cell? ⟨w2.heap.size,3,none⟩=some (.int .i64 (sz:Nat)))
    (exact ⟨Ac (by (repeat (first|assumption|exact Kr _ _|refine Kp.drew ?_|refine Kp.alloc ?_ _|refine Kp.Az ?_ (by omega) _))) c0,Ac (by (repeat (first|assumption|exact Kr _ _|refine Kp.drew ?_|refine Kp.alloc ?_ _|refine Kp.Az ?_ (by omega) _))) c1,Ac (by (repeat (first|assumption|exact Kr _ _|refine Kp.drew ?_|refine Kp.alloc ?_ _|refine Kp.Az ?_ (by omega) _))) c2,Ac (by (repeat (first|assumption|exact Kr _ _|refine Kp.drew ?_|refine Kp.alloc ?_ _|refine Kp.Az ?_ (by omega) _))) c3⟩)
    (first
      |(go_at_call 51;with_reducible refine(HF.out _ (K5.then' (by (repeat (first|assumption|exact Kr _ _|refine Kp.drew ?_|refine Kp.alloc ?_ _|refine Kp.Az ?_ (by omega) _))))).mono ?_;rintro e w6 ⟨rfl,k6⟩;have K6:Kp Ab w5 w6:=Kp.then' (by (repeat (first|assumption|exact Kr _ _|refine Kp.drew ?_|refine Kp.alloc ?_ _|refine Kp.Az ?_ (by omega) _))) k6)
      |(go_at_call 52;with_reducible refine(HR.out _ (K5.then' (by (repeat (first|assumption|exact Kr _ _|refine Kp.drew ?_|refine Kp.alloc ?_ _|refine Kp.Az ?_ (by omega) _))))).mono ?_;rintro e w7 ⟨rfl,rfl⟩))
  have b9f:=K6.at_ HB9'.out (λ h=>h)
  have b10f:=K6.at_ HB10.out (λ h=>h)
  clear c0 c1 c2 c3 t0 t1 t2
  obtain⟨c0,c1,c2,c3⟩:=Ay b9f
  obtain⟨t0,t1,t2⟩:=cells3 b10f
  have hl6:=lZ b10f
  have hs6:=K6.size
  have hs5:=K5.size
  have HB9f:=sE b9f
  clear b9f b10f
  go_wp2
  exact bodyPost_ret (v:=.tuple #[.pointer (some ⟨w7.heap.size,0,none⟩),.int .i64 0]) (by simp[results,results13,go_sem]) rfl ⟨w7.heap.size,rfl,wN w7 _,by omega,(K5.then' K6).alloc _⟩

def Dn(a:Nat)(W:Nat->Nat)(n:Nat)(ts:List TypR)(g:Int)(w:World)(e:Ending)(w':World):Prop:=
  match Cb W n ts g with
  |some c=>SOfYes a ts c w e w'
  |none=>SOfNo w e w'

theorem tagW_lt(X:Nat):CR X=0\/CR X=1\/CR X=2\/CR X=3:=by unfold CR;omega

theorem SOf_any(g:Int)(a q n t tq:Nat)(W:Nat->Nat)(ts:List TypR)(w:World)(hF:Av w)(h:ArenaAt w a q W n)(hT:TableAt w t tq ts):
    Calls prog 13 #[.pointer (some ⟨a,0,none⟩),.pointer (some ⟨t,0,none⟩),.int .i64 g] w (Dn a W n ts g w):=by
  have hn:=h.small
  by_cases hg:0<=g/\g<((n/2:Nat):Int)
  . obtain⟨j,rfl⟩:=Int.eq_ofNat_of_zero_le hg.1
    have hj:j<n/2:=by omega
    have hH:∀ W',Kp Ab w W'->Calls prog 49 #[.pointer (some ⟨a,0,none⟩),.int .i64 (j:Nat)] W' (Fe (BO (W (2*j))) (CR (W (2*j))) (Ey (W (2*j))) (EO (W (2*j))) (DJ (W (2*j))) W'):=
      λ W' k=>SHead_at j a q n W W' (hF.Ad k) (h.Ad k) hj
    by_cases hd:BO (W (2*j))=true
    . rw[hd] at hH
      have hH2:∀ W',Kp Ab w W'->Calls prog 49 #[.pointer (some ⟨a,0,none⟩),.int .i64 (j:Nat)] W' λ e w'=>e=.returned (.tuple #[.agg #[.int .u8 (CR (W (2*j)):Nat),.int .i64 (Ey (W (2*j)):Nat),.int .i64 (EO (W (2*j)):Nat),.int .i64 (DJ (W (2*j)):Nat)],.int .i64 0])/\Kp Ab W' w':=
        λ W' k=>(hH W' k).mono λ_ _ hp=>hp
      have hsz:DJ (W (2*j))<16777216:=by unfold DJ;omega
      have hok:Am (CR (W (2*j)):Nat) (Ey (W (2*j)):Nat) (EO (W (2*j)):Nat) (DJ (W (2*j)):Nat)=true:=by
        have:=hd
        unfold BO at this
        simp only[Bool.and_eq_true] at this
        exact this.1
      have hR:∀ W',Kp Ab w W'->Calls prog 52 #[.pointer (some ⟨a,0,none⟩)] W' λ e w'=>e=.returned (.int .i64 ((n/2:Nat):Int))/\w'=W':=λ W' k=>gran_at' a q n W W' (h.Ad k)
      obtain⟨k,wds,m,E,hty,hG⟩:∃ (k wds:Int) (m:Nat) (E:Int),(∀ x,typeOf ts (Ey (W (2*j)):Nat)=some x->x=⟨k,wds,m⟩)/\∀ W',Kp Ab w W'->Calls prog 50 #[.pointer (some ⟨t,0,none⟩),.int .i64 (Ey (W (2*j)):Nat)] W' λ e w'=>e=.returned (.tuple #[.agg #[.int .u8 k,.int .i64 wds,.int .u64 (m:Nat)],.int .i64 E])/\Kp Ab W' w':=by
        cases ht:typeOf ts (Ey (W (2*j)):Nat) with
        |none=>exact ⟨0,0,0,3,(λ x hx=>(by cases hx)),λ W' kk=>(Get_any _ t tq ts W' (hT.Ad kk)).mono λ_ _ hp=>by unfold Ff at hp;rw [ht] at hp;exact hp⟩
        |some x=>
          obtain⟨k,wds,m⟩:=x
          exact⟨k,wds,m,0,λ x hx=>by injection hx with hx;exact hx.symm,λ W' kk=>(Get_any _ t tq ts W' (hT.Ad kk)).mono λ_ _ hp=>by unfold Ff at hp;rw [ht] at hp;exact hp⟩
      obtain⟨X,hX⟩:∃ X,W (2*j)=X:=⟨_,rfl⟩
      have hno:¬ (CR X=1/\CZ ts 1 (Ey X:Nat) (EO X:Nat) (DJ X:Nat)=0/\DJ X<=n/2-j)->Cb W n ts (j:Nat)=none:=by
        intro hh
        unfold Cb
        rw[if_neg]
        rw[Int.toNat_natCast,hX]
        exact λ⟨_,_,_,c4,c5,c6⟩=>hh ⟨c4,c5,c6⟩
      rw[hX] at hH2 hG hsz hok hty hd
      by_cases h1:CR X=1
      . rw[h1] at hH2 hok
        have hF1:∀ W',Kp Ab w W'->Calls prog 51 #[.pointer (some ⟨t,0,none⟩),.agg #[.int .u8 1,.int .i64 (Ey X:Nat),.int .i64 (EO X:Nat),.int .i64 (DJ X:Nat)]] W' λ e w'=>e=.returned (.int .i64 (CZ ts 1 (Ey X:Nat) (EO X:Nat) (DJ X:Nat)))/\Kp Ab W' w':=
          λ W' kk=>Fits_one (Ey X:Nat) (EO X:Nat) (DJ X:Nat) t tq ts W' (hF.Ad kk) (hT.Ad kk) hok
        by_cases hf:CZ ts 1 (Ey X:Nat) (EO X:Nat) (DJ X:Nat)=0
        . by_cases hz:DJ X<=n/2-j
          . have hsome:Cb W n ts (j:Nat)=some ⟨j,1,Ey X,EO X,DJ X⟩:=by
              unfold Cb
              rw[Int.toNat_natCast,hX,if_pos ⟨hg.1,hg.2,hd,h1,hf,hz⟩]
            obtain⟨e1,e2,e3⟩:=fitsE_zero hf
            obtain⟨k',wds',m',ht'⟩:=En e2
            have hkk:=hty _ ht'
            injection hkk with q1 q2 q3
            refine(SOf_ok j a n t (Ey X) (EO X) (DJ X) k wds m E _ w hf hz hsz hn hj hH2 hG hF1 hR).mono λ e w' ⟨b,he,hv,hb,hk⟩=>?_
            unfold Dn
            rw[hsome]
            exact⟨b,k,wds,m,by rw[ht',q1,q2,q3],he,hv,hb,hk⟩
          . refine(SOf_big j a n t (Ey X) (EO X) (DJ X) k wds m E _ w hf (by omega) hsz hn hj hH2 hG hF1 hR).mono λ e w' hp=>?_
            unfold Dn
            rw[hno (λ ⟨_,_,c⟩=>hz c)]
            exact hp
        . have hf8:CZ ts 1 (Ey X:Nat) (EO X:Nat) (DJ X:Nat)=8:=by
            rw[fitsE_obj hok] at hf ⊢
            split at hf
            . split at hf
              . exact absurd rfl hf
              . rename_i a b;rw [if_pos a,if_neg b]
            . rename_i a;rw [if_neg a]
          refine(SOf_fit j a n t (Ey X) (EO X) (DJ X) k wds m E _ w hf8 hsz hn hj hH2 hG hF1 hR).mono λ e w' hp=>?_
          unfold Dn
          rw[hno (λ ⟨_,c,_⟩=>hf c)]
          exact hp
      . have hF0:∀ W',Kp Ab w W'->Calls prog 51 #[.pointer (some ⟨t,0,none⟩),.agg #[.int .u8 (CR X:Nat),.int .i64 (Ey X:Nat),.int .i64 (EO X:Nat),.int .i64 (DJ X:Nat)]] W' λ e w'=>e=.returned (.int .i64 0)/\Kp Ab W' w':=
          λ W' kk=>Fits_gap (CR X:Nat) (Ey X:Nat) (EO X:Nat) (DJ X:Nat) _ W' (hF.Ad kk) hok (by omega)
        unfold Dn
        rw[hno (λ ⟨c,_⟩=>h1 c)]
        rcases tagW_lt X with r|r|r|r
        . rw[r] at hH2 hF0
          exact SOf_tag0 j a n t (Ey X) (EO X) (DJ X) k wds m E _ w hsz hn hj hH2 hG hF0 hR
        . exact absurd r h1
        . rw[r] at hH2 hF0
          exact SOf_tag2 j a n t (Ey X) (EO X) (DJ X) k wds m E _ w hsz hn hj hH2 hG hF0 hR
        . rw[r] at hH2 hF0
          exact SOf_tag3 j a n t (Ey X) (EO X) (DJ X) k wds m E _ w hsz hn hj hH2 hG hF0 hR
    . have hd':BO (W (2*j))=false:=by simpa using hd
      rw[hd'] at hH
      unfold Dn
      rw[show Cb W n ts (j:Nat)=none by unfold Cb;rw [if_neg];rw [Int.toNat_natCast];exact λ⟨_,_,c,_⟩=>hd c]
      exact SOf_err (j:Nat) a _ 7 w (by omega) λ W' k=>(hH W' k).mono λ_ _ hp=>hp
  . unfold Dn
    rw[show Cb W n ts g=none by unfold Cb;rw [if_neg];exact λ⟨c1,c2,_⟩=>hg ⟨c1,c2⟩]
    exact SOf_err g a _ 2 w (by omega) λ W' k=>SHead_out g a q n W W' (h.Ad k) (by omega)

end

section
open Go.RowKit

theorem KSlots_ok(k wds:Int)(M:Nat)(n:Int)(w:World)(h0:AV k wds M n=0):Calls prog 53 #[.agg #[.int .u8 k,.int .i64 wds,.int .u64 (M:Nat)],.int .i64 n] w λ e w'=>e=.returned (.tuple #[.int .i64 (AR k wds n),.int .i64 0])/\Kp Ab w w':=by
  have CO:=λ w=>Kof_any k wds M n w
  have kA:=(Kr Ab w).alloc (.cells #[.int .u8 k,.int .i64 wds,.int .u64 (M:Nat)] 86)
  unfold AC at CO
  have HO:=sE CO
  have HZ:=sE h0
  have CS:=λ w=>slots_any k wds M n w h0
  obtain⟨s,hs⟩:∃ s,AR k wds n=s:=⟨_,rfl⟩
  rw[hs] at CS ⊢
  unfold BK at CS
  have HC:=sE CS
  clear CO CS hs h0
  go_enter func53,ntmps53
  go_wp2_with fail
  obtain⟨w1,hw1⟩:∃ w1,w1=w.alloc (.cells #[.int .u8 k,.int .i64 wds,.int .u64 (M:Nat)] 86):=⟨_,rfl⟩
  rw[<- hw1] at kA ⊢
  clear hw1
  refine(HO.out w1).mono ?_
  rintro e w2 ⟨v,rfl,hv,hv0,k2⟩
  have hv2:=hv0 HZ.out
  unfold BK at hv2
  subst hv2
  rw[HZ.out]
  clear hv hv0
  go_wp2_with fail
  refine(HC.out _).mono ?_
  rintro e w3 ⟨rfl,k3⟩
  go_wp2
  exact bodyPost_ret (v:=.tuple #[.int .i64 s,.int .i64 0]) (by simp[results,results53,go_sem]) rfl ⟨rfl,((kA.then' k2).alloc _).then' k3⟩

theorem BJ.keep{S:Nat->Prop}{w w':World}{b a:Nat}{c:Cel}{k wds:Int}{m:Nat}(h:BJ w b a c k wds m)(kp:Kp S w w')(hs:¬ S b):BJ w' b a c k wds m:=kp.at_ h hs

theorem BJ.Ad{w w':World}{b a:Nat}{c:Cel}{k wds:Int}{m:Nat}(h:BJ w b a c k wds m)(kp:Kp Ab w w'):BJ w' b a c k wds m:=h.keep kp (λ h=>h)

theorem BJ.cells{w:World}{b a:Nat}{c:Cel}{k wds:Int}{m:Nat}(h:BJ w b a c k wds m):
    w.cell? ⟨b,0,none⟩=some (.pointer (some ⟨a,0,none⟩))/\w.cell? ⟨b,1,none⟩=some (.int .i64 (c.g:Nat))/\w.cell? ⟨b,2,none⟩=some (.int .u8 (c.tag:Nat))/\w.cell? ⟨b,3,none⟩=some (.int .i64 (c.ty:Nat))/\w.cell? ⟨b,4,none⟩=some (.int .i64 (c.ln:Nat))/\w.cell? ⟨b,5,none⟩=some (.int .i64 (c.sz:Nat))/\
      w.cell? ⟨b,6,none⟩=some (.int .u8 k)/\w.cell? ⟨b,7,none⟩=some (.int .i64 wds)/\w.cell? ⟨b,8,none⟩=some (.int .u64 (m:Nat)):=by
  refine⟨?_,?_,?_,?_,?_,?_,?_,?_,?_⟩ <;> simp only[World.cell?,show w.heap[b]?=_ from h] <;> rfl

theorem VSlots_at(b a:Nat)(c:Cel)(k wds:Int)(m:Nat)(w:World)(hV:BJ w b a c k wds m)(hE:AV k wds m (c.ln:Nat)=0):
    Calls prog 17 #[.pointer (some ⟨b,0,none⟩)] w λ e w'=>e=.returned (.int .i64 (AR k wds (c.ln:Nat)))/\Kp Ab w w':=by
  have HK:Sl (∀ W',Calls prog 53 #[.agg #[.int .u8 k,.int .i64 wds,.int .u64 (m:Nat)],.int .i64 (c.ln:Nat)] W' λ e w'=>e=.returned (.tuple #[.int .i64 (AR k wds (c.ln:Nat)),.int .i64 0])/\Kp Ab W' w'):=⟨λ W'=>KSlots_ok k wds m (c.ln:Nat) W' hE⟩
  obtain⟨s,hs⟩:∃ s,AR k wds (c.ln:Nat)=s:=⟨_,rfl⟩
  rw[hs] at HK ⊢
  obtain⟨v0,v1,v2,v3,v4,v5,v6,v7,v8⟩:=hV.cells
  have hlt:=lZ hV
  obtain⟨ln,hln⟩:∃ ln,c.ln=ln:=⟨_,rfl⟩
  rw[hln] at HK v4
  clear hs hV hE v0 v1 v2 v3 v5 hln
  go_enter func17,ntmps17
  go_wp2_with fail
  go_region_held3 (λ w'=>w'.cell? ⟨b,4,none⟩=some (.int .i64 (ln:Nat))/\w'.cell? ⟨b,6,none⟩=some (.int .u8 k)/\w'.cell? ⟨b,7,none⟩=some (.int .i64 wds)/\w'.cell? ⟨b,8,none⟩=some (.int .u64 (m:Nat)))
    (exact ⟨Ac (by (repeat (first|assumption|exact Kr _ _|refine Kp.drew ?_|refine Kp.alloc ?_ _|refine Kp.Az ?_ (by omega) _))) v4,Ac (by (repeat (first|assumption|exact Kr _ _|refine Kp.drew ?_|refine Kp.alloc ?_ _|refine Kp.Az ?_ (by omega) _))) v6,Ac (by (repeat (first|assumption|exact Kr _ _|refine Kp.drew ?_|refine Kp.alloc ?_ _|refine Kp.Az ?_ (by omega) _))) v7,Ac (by (repeat (first|assumption|exact Kr _ _|refine Kp.drew ?_|refine Kp.alloc ?_ _|refine Kp.Az ?_ (by omega) _))) v8⟩)
    (first | (go_at_call 53;with_reducible refine(HK.out _).mono ?_;rintro e w2 ⟨rfl,hk⟩
              have KK:Kp Ab w w2:=Kp.then' (by (repeat (first|assumption|exact Kr _ _|refine Kp.drew ?_|refine Kp.alloc ?_ _|refine Kp.Az ?_ (by omega) _))) hk))
  go_wp2
  go_ret
  exact⟨rfl,KK.then' (by (repeat (first|assumption|exact Kr _ _|refine Kp.drew ?_|refine Kp.alloc ?_ _|refine Kp.Az ?_ (by omega) _)))⟩

theorem VWord_yes(j b a:Nat)(c:Cel)(k wds:Int)(m:Nat)(w:World)(hV:BJ w b a c k wds m)(hE:AV k wds m (c.ln:Nat)=0)(hj:(j:Int)<AR k wds (c.ln:Nat))(hg:c.g<=65536):
    Calls prog 54 #[.pointer (some ⟨b,0,none⟩),.int .i64 (j:Nat)] w λ e w'=>e=.returned (.tuple #[.int .i64 ((2*c.g+1+j:Nat):Int),.int .i64 0])/\Kp Ab w w':=by
  have HS:=sE (VSlots_at b a c k wds m w hV hE)
  have hr:=(Bi hE).2
  obtain⟨s,hs⟩:∃ s,AR k wds (c.ln:Nat)=s:=⟨_,rfl⟩
  rw[hs] at HS hr hj
  have hd:¬ s<=(j:Int):=by omega
  have HV:=sE hV
  clear hs hV hE
  go_enter func54,ntmps54
  go_wp2_with fail
  refine HS.out.mono ?_
  rintro e w2 ⟨rfl,k2⟩
  obtain⟨v0,v1,-⟩:=(HV.out.Ad k2).cells
  go_wp2
  exact bodyPost_ret (v:=.tuple #[.int .i64 ((2*c.g+1+j:Nat):Int),.int .i64 0]) (by simp[results,results54,go_sem]) rfl ⟨rfl,k2⟩

theorem VStore_yes(j x b a q n:Nat)(W:Nat->Nat)(c:Cel)(k wds:Int)(m:Nat)(w:World)(hA:ArenaAt w a q W n)(hV:BJ w b a c k wds m)(hE:AV k wds m (c.ln:Nat)=0)(hj:(j:Int)<AR k wds (c.ln:Nat))(hx:x<18446744073709551616)(hn:2*c.g+1+j<n):
    Calls prog 65 #[.pointer (some ⟨b,0,none⟩),.int .i64 (j:Nat),.int .u64 (x:Nat)] w (Stored w a q n (BM W (2*c.g+1+j) x)):=by
  have hs:=hA.small
  have HW:=sE (VWord_yes j b a c k wds m w hV hE hj (by omega))
  have HA:=sE hA
  have HV:=sE hV
  have HS:Sl (∀ W',Kp Ab w W'->Calls prog 113 #[.pointer (some ⟨a,0,none⟩),.int .i64 ((2*c.g+1+j:Nat):Int),.int .u64 (x:Nat)] W' (Stored W' a q n (BM W (2*c.g+1+j) x))):=
    ⟨λ W' kk=>AStore_yes (2*c.g+1+j) x a q n W W' (hA.Ad kk) hn hx⟩
  obtain⟨z,hz⟩:∃ z,2*c.g+1+j=z:=⟨_,rfl⟩
  rw[hz] at HW HS ⊢
  clear hs hA hV hE hj hx hn hz
  go_enter func65,ntmps65
  go_wp2_with fail
  refine HW.out.mono ?_
  rintro e w2 ⟨rfl,k2⟩
  obtain⟨v0,-⟩:=(HV.out.Ad k2).cells
  go_wp2_with fail
  refine(HS.out _ k2).mono ?_
  rintro e w3 ⟨rfl,k3,A3⟩
  have K3:Kp (λ b=>b=a\/b=q) w w3:=(k2.Ak _).trans k3 (λ _ _ h=>h)
  go_wp2
  go_ret
  exact⟨rfl,K3,A3⟩

theorem VLoad_yes(j b a q n:Nat)(W:Nat->Nat)(c:Cel)(k wds:Int)(m:Nat)(w:World)(hA:ArenaAt w a q W n)(hV:BJ w b a c k wds m)(hE:AV k wds m (c.ln:Nat)=0)(hj:(j:Int)<AR k wds (c.ln:Nat))(hn:2*c.g+1+j<n):
    Calls prog 18 #[.pointer (some ⟨b,0,none⟩),.int .i64 (j:Nat)] w λ e w'=>e=.returned (.tuple #[.int .u64 (W (2*c.g+1+j):Nat),.int .i64 0])/\Kp Ab w w':=by
  have hs:=hA.small
  have HW:=sE (VWord_yes j b a c k wds m w hV hE hj (by omega))
  have HV:=sE hV
  have HS:Sl (∀ W',Kp Ab w W'->Calls prog 55 #[.pointer (some ⟨a,0,none⟩),.int .i64 ((2*c.g+1+j:Nat):Int)] W' (λ e w'=>e=.returned (.tuple #[.int .u64 (W (2*c.g+1+j):Nat),.int .i64 0])/\W'=w')):=
    ⟨λ W' kk=>ALoad_yes (2*c.g+1+j) a q n W W' (hA.Ad kk) hn⟩
  obtain⟨z,hz⟩:∃ z,2*c.g+1+j=z:=⟨_,rfl⟩
  rw[hz] at HW HS ⊢
  obtain⟨y,hy⟩:∃ y,W z=y:=⟨_,rfl⟩
  rw[hy] at HS ⊢
  clear hs hA hV hE hj hn hz hy
  go_enter func18,ntmps18
  go_wp2_with fail
  refine HW.out.mono ?_
  rintro e w2 ⟨rfl,k2⟩
  obtain⟨v0,-⟩:=(HV.out.Ad k2).cells
  go_wp2_with fail
  refine(HS.out _ k2).mono ?_
  rintro e w3 ⟨rfl,rfl⟩
  go_wp2
  exact bodyPost_ret (v:=.tuple #[.int .u64 (y:Nat),.int .i64 0]) (by simp[results,results18,go_sem]) rfl ⟨rfl,k2⟩

theorem Cj(P:Sp)(W:Nat->Nat)(f:Nat->Bool)(w:World)(h:SpaceAt w P W f):
    Calls prog 14 #[.pointer (some ⟨P.s,0,none⟩)] w λ e w'=>e=.returned (.pointer (some ⟨P.a,0,none⟩))/\w'=w:=by
  obtain⟨c0,c1,c2⟩:=h.head
  clear h c1 c2
  go_enter func14,ntmps14
  go_wp2
  go_ret
  exact⟨rfl,rfl⟩

end

end Go.Proofs.YtmfajopmppfldaaGreatDoor
