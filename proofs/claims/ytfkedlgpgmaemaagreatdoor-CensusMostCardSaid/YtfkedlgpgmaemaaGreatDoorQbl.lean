/-
  Lemmas for the laws, together: CenT.
-/
import Derived.Test.YtfkedlgpgmaemaaGreatDoorQbk
import Derived.Maps.RangeWalk
set_option linter.unusedVariables false
set_option maxHeartbeats 16000000
namespace Go.Proofs.YtfkedlgpgmaemaaGreatDoor
open Tryz
section
open Go.RowKit Go.Maps

def EM(os:List Cel)(l:List Nat)(t:Nat):List Nat:=l.filter λ x=>(BK os x).ty==t

def rowS(os:List Cel)(l:List Nat)(t:Nat):Nat×Nat×Nat:=(t,(EM os l t).length,Bc os (EM os l t))

def valS(r:Nat×Nat×Nat):Value:=.agg #[.int .i64 (r.1:Nat),.int .i64 (r.2.1:Nat),.int .i64 (r.2.2:Nat)]

def Eb(os:List Cel)(l:List Nat)(t:Nat):Option Value:=if (EM os l t).isEmpty=true then none else some (valS (rowS os l t))

theorem ofTy_step{os:List Cel}{l:List Nat}{x:Nat}(t:Nat):EM os (l++[x]) t=EM os l t++if (BK os x).ty=t then [x] else []:=by
 unfold EM
 rw[List.filter_append]
 congr 1
 by_cases h:(BK os x).ty=t <;> simp[h]

theorem shareF_get(os:List Cel)(l:List Nat)(t:Nat):(Eb os l t).getD (.agg #[.int .i64 0,.int .i64 0,.int .i64 0])=.agg #[.int .i64 (if (EM os l t).isEmpty=true then 0 else t:Nat),.int .i64 ((EM os l t).length:Nat),.int .i64 (Bc os (EM os l t):Nat)]:=by
 unfold Eb
 by_cases h:(EM os l t).isEmpty=true
 .rw [if_pos h,if_pos h,List.isEmpty_iff.1 h]
  rfl
 .rw [if_neg h,if_neg h]
  rfl

theorem shareF_step(os:List Cel)(l:List Nat)(x:Nat):(λ t=>if t=(BK os x).ty then some (valS ((BK os x).ty,(EM os l (BK os x).ty).length+1,Bc os (EM os l (BK os x).ty)+(BK os x).sz)) else Eb os l t)=Eb os (l++[x]):=by
 funext t
 unfold Eb rowS
 rw[ofTy_step]
 by_cases h:t=(BK os x).ty
 .subst h
  rw[if_pos rfl,if_pos rfl,if_neg (by simp),List.length_append,sizeL_app]
  rfl
 .have h':¬ (BK os x).ty=t:=λ e=>h e.symm
  rw[if_neg h,if_neg h',List.append_nil]

theorem shareF_none(os:List Cel):Eb os []=λ _=>none:=by
 funext t
 rfl

def SortsS(n:Nat):Prop:=∀ (w:World) (base:Nat) (v:Value) (L:List (Nat×Nat×Nat)),w.ownsRow base 82 3 v L.length (BZ L)->L.length<=n->
 Calls prog 55 #[v,.func (.func 56) #[] #[]] w λ e w'=>e=.returned v/\∃ M:List (Nat×Nat×Nat),M.Perm L/\M.Pairwise (λ a b=>a.1<=b.1)/\w'.ownsRow base 82 3 v L.length (BZ M)/\Kp (λ b=>v.ownBlock=some b) w w'

theorem infoShare:(prog.info? 82).map (λ i=>(i.zero,i.size,i.bytes))=some (some (.agg #[.int .i64 0,.int .i64 0,.int .i64 0]),3,24):=by kernel_rfl

theorem underlyingShares:prog.underlying 38=some (.slice 82):=by kernel_rfl

theorem Dk:prog.underlying 124=some (.map 3 82):=by kernel_rfl

theorem zeroShare(w:World):(zeroValue 82).run prog w=.ok (.agg #[.int .i64 0,.int .i64 0,.int .i64 0]) w:=by kernel_rfl

def TypesPost(os:List Cel)(es:List (Nat×Nat×Nat))(H:Nat)(xs:List Nat)(w:World)(e:Ending)(w':World):Prop:=
 ∃ (fm:Nat->Bool) (v:Value) (ss:List Nat) (M:List (Nat×Nat×Nat)),(∀ g,fm g=true ↔ AA es xs g)/\e=.returned (.tuple #[v,.int .i64 0])/\ss.Nodup/\(∀ t,t∈ss ↔ ∃ x∈Bb fm H,(BK os x).ty=t)/\M.Perm (ss.map (rowS os (Bb fm H)))/\M.Pairwise (λ a b=>a.1<=b.1)/\w'.ownsRow w.heap.size 82 3 v M.length (BZ M)/\Kp Aa w w'

set_option maxRecDepth 20000 in
theorem CTypes_at(P:Sp)(W:Nat->Nat)(f:Nat->Bool)(w:World)(cs:List Cel)(hsp:SpaceAt w P W f)(hc:CellsAt P W cs)(hne:cs≠[])(hst:∀ i,i<P.n/2->f i=Ap cs i)(hms:∀ x∈P.ts,x.m<18446744073709551616)(v:Value)(xs:List Nat)(hx:Bz w v xs)(hxo:∀ g∈xs,De cs g)(hxl:xs.length<=65536)
  (hty:∀ c∈Ak cs,c.ty<65536) (n0:Nat) (hS:SortsS n0) (hn0:∀ ss:List Nat,ss.Nodup->(∀ t∈ss,∃ x,AA (AP P.ts W cs) xs x/\(BK (Ak cs) x).ty=t)->ss.length<=n0):
  Calls prog 14 #[.pointer (some ⟨P.s,0,none⟩),v] w (TypesPost (Ak cs) (AP P.ts W cs) (P.n/2) xs w):=by
 obtain⟨va,vc,rfl,-⟩:=id hx
 have HOf:=sE (COf_at P W f w cs hsp hc hne hst hms _ xs hx hxo hxl)
 have hH65:P.n/2<=65536:=hsp.bt.small'
 have HSz:Sl (∀ c∈Ak cs,c.sz<=65536):=⟨λ c hcc=>by
  have:=hc.tl.mem (AR.1 hcc).1
  omega⟩
 have HTy:Sl (∀ x,(BK (Ak cs) x).ty<65536):=⟨λ x=>by
  rcases celN_mem (os:=Ak cs) (x:=x) with ⟨h1,-⟩|⟨h1,-⟩
  .exact hty _ h1
  .rw [h1];decide⟩
 have HS:=sE hS
 obtain⟨H,hH⟩:∃ H,P.n/2=H:=⟨_,rfl⟩
 obtain⟨es,hes⟩:∃ es,AP P.ts W cs=es:=⟨_,rfl⟩
 obtain⟨os,hos⟩:∃ os,Ak cs=os:=⟨_,rfl⟩
 obtain⟨L,hL⟩:∃ L,xs.length=L:=⟨_,rfl⟩
 rw[hes,hos,hH] at HOf
 rw[hes,hos] at hn0
 have HN0:=sE hn0
 rw[hos] at HSz HTy
 rw[hH] at hH65
 rw[hes,hos,hH]
 rw[hL] at HOf ⊢
 clear hsp hc hst hms hx hxo hxl hne hty hS hn0 hH hes hos hL
 go_enter func14,ntmps14
 go_wp2_with fail
 refine HOf.out.mono ?_
 rintro e w1 ⟨b,mp,mq,fm,rfl,hp1,hfm,k1⟩
 have HP1:=sE hp1
 have HK1:=sE k1
 have HFm:=sE hfm
 clear k1 hfm HOf hp1
 have hmm:=@run_makeMap prog
 go_wp2_with fail
 obtain⟨w2,hw2⟩:∃ w2,w2=w1.alloc (.map #[] 0):=⟨_,rfl⟩
 have k2:Kp Aa w1 w2:=by rw[hw2];exact (Kr _ w1).alloc _
 have m2:Bu w2 w1.heap.size 0 (λ _=>none):=by rw[hw2];exact Bu.made w1
 rw[<- hw2]
 clear hw2 hmm
 obtain⟨mb,hmb⟩:∃ m,w1.heap.size=m:=⟨_,rfl⟩
 rw[hmb] at m2 ⊢
 have HMb:Sl (w1.heap.size=mb):=⟨hmb⟩
 have HM2:=sE m2
 have HK12:=sE k2
 have hmb2:=m2.lt
 clear k2 m2 hmb
 refine(CAll_at w2 b P.s _ os es mp mq H fm (HP1.out.Ad HK12.out) hH65).mono ?_
 rintro e w3 ⟨qa,qc,rfl,ho3,k3⟩
 have hQH:(Bb fm H).length<=65536:=Nat.le_trans (setL_len fm H) hH65
 have HQlt:Sl (∀ y∈Bb fm H,y<H):=⟨λ y hy=>setL_lt y hy⟩
 obtain⟨Q,hQ⟩:∃ Q,Bb fm H=Q:=⟨_,rfl⟩
 have HQ:=sE hQ
 rw[hQ] at ho3 hQH HQlt ⊢
 obtain⟨M,hM⟩:∃ M,Q.length=M:=⟨_,rfl⟩
 rw[hM] at ho3 hQH ⊢
 have HM:=sE hM
 have HO3:=sE ho3
 have HM3:=sE (HM2.out.keep k3 (λ h=>h))
 have HK13:Sl (Kp Aa w1 w3):=⟨HK12.out.then' k3⟩
 obtain⟨mc,mo,n,co,F,hgp,hmc,hF,-,-⟩:=HP1.out
 have HG:=sE hgp
 have HLk:Sl (∀ W' (x:Nat),Kp Aa w1 W'->x<65536->(Instr.lookup 118 (.map (some mc)) (.int .i64 (x:Nat)) false).run prog W'=.ok (cellW (BK os x)) W'):=⟨λ W' x kk hx=>by
  have:=(hmc.keep kk (λ h=>h)).look (g:=x) (by omega) Ci (zeroCell _)
  rwa [hF.get] at this⟩
 clear ho3 k3 hM hQ hgp hmc hF HM2
 go_wp2_with fail
 go_loopw [27] (λ x27 wr=>∃ (j:Nat),x27=.int .i64 (j:Nat)/\j<=M/\Bu wr mb j (Eb os (Q.take j))/\Kp (λ k=>k=mb) w3 wr) (λ x27 _=>M-(intOf x27).toNat)
 case atStart=>exact ⟨0,rfl,Nat.zero_le _,by rw[List.take_zero,shareF_none];exact HM3.out,Kr _ _⟩
 case round=>
  obtain⟨j,rfl,hj,hm,hk⟩:=hrel
  have HMj:=sE hm
  have HKj:=sE hk
  have K1r:Kp Aa w1 wr:=HK13.out.trans hk (λ k hk h=>by have h':k=mb:=h;have:=HMb.out;omega)
  have HK1r:=sE K1r
  by_cases hjl:j<M
  .have hjl':(j:Int)<(M:Int):=by omega
   obtain⟨y,hy⟩:∃ y,Q[j]?=some y:=⟨_,List.getElem?_eq_getElem (by rw[HM.out];exact hjl)⟩
   obtain⟨bb,hbb,x0⟩:=Cw (Ag HO3.out hk (λ k hk h=>by have h':k=mb:=h;have:=(Ae HO3.out hk).1;omega)) hy
   subst hbb
   have hyH:=HQlt.out y (List.mem_of_getElem? hy)
   have hlk:=HLk.out wr y K1r (by omega)
   obtain⟨-,-,g2,-,-⟩:=Dj (K1r.at_ HG.out (λ h=>h))
   have hSt:=shareF_step os (Q.take j) y
   have hlen:(EM os (Q.take j) (BK os y).ty).length<=65536:=Nat.le_trans (List.length_filter_le _ _) (by rw[List.length_take];omega)
   have hsz:=Nat.le_trans (sizeL_le HSz.out (EM os (Q.take j) (BK os y).ty)) (Nat.mul_le_mul_right _ hlen)
   have hcl:=celN_le HSz.out y
   have htl:=HTy.out y
   obtain⟨cy,hcy⟩:∃ c,BK os y=c:=⟨_,rfl⟩
   rw[hcy] at hlk hSt hlen hsz hcl htl
   have hlk':(Instr.lookup 118 (.map (some mc)) (.int .i64 (y:Nat)) false).run prog wr=.ok (.agg #[.int .i64 (cy.g:Nat),.int .u8 (cy.tag:Nat),.int .i64 (cy.ty:Nat),.int .i64 (cy.ln:Nat),.int .i64 (cy.sz:Nat)]) wr:=hlk
   obtain⟨wA,hwA⟩:∃ wA,wA=wr.alloc (.cells #[.int .i64 (cy.g:Nat),.int .u8 (cy.tag:Nat),.int .i64 (cy.ty:Nat),.int .i64 (cy.ln:Nat),.int .i64 (cy.sz:Nat)] 113):=⟨_,rfl⟩
   have kA:Kp Aa wr wA:=by rw[hwA];exact (Kr _ wr).alloc _
   have hlm:=(hm.keep kA (λ h=>h)).look (g:=cy.ty) (by omega) Dk (zeroShare _)
   rw[shareF_get] at hlm
   obtain⟨T1,hT1⟩:∃ n,(if (EM os (Q.take j) cy.ty).isEmpty=true then 0 else cy.ty)=n:=⟨_,rfl⟩
   obtain⟨N1,hN1⟩:∃ n,(EM os (Q.take j) cy.ty).length=n:=⟨_,rfl⟩
   obtain⟨N2,hN2⟩:∃ n,Bc os (EM os (Q.take j) cy.ty)=n:=⟨_,rfl⟩
   rw[hT1,hN1,hN2] at hlm
   rw[hN1,hN2] at hSt
   rw[hN1] at hlen
   rw[hN2] at hsz
   rw[hwA] at hlm
   have u1:IntKind.i64.wrap ((N1:Int)+1)=(N1:Int)+1:=by rw[IntKind.wrap_i64];omega
   have u2:IntKind.i64.wrap ((N2:Int)+(cy.sz:Int))=(N2:Int)+(cy.sz:Int):=by rw[IntKind.wrap_i64];omega
   have HTk:Sl (Q.take (j+1)=Q.take j++[y]):=⟨by rw[List.take_add_one,hy];rfl⟩
   obtain⟨wB,hwB⟩:∃ wB,wB=wA.alloc (.cells #[.int .i64 (T1:Nat),.int .i64 (N1:Nat),.int .i64 (N2:Nat)] 82):=⟨_,rfl⟩
   have kB:Kp Aa wr wB:=by rw[hwB];exact kA.alloc _
   obtain⟨w5,hput,m5,k5,z5⟩:=(hm.keep kB (λ h=>h)).put (by unfold maxLen;omega) (g:=cy.ty) (by omega) (valS (cy.ty,N1+1,N2+cy.sz)) Dk
   rw[hSt] at m5
   rw[hwB,hwA] at hput
   have hput':(Instr.mapUpdate 124 (.map (some mb)) (.int .i64 (cy.ty:Nat)) (.agg #[.int .i64 (cy.ty:Nat),.int .i64 ((N1:Int)+1),.int .i64 ((N2:Int)+(cy.sz:Int))])).run prog _=.ok () w5:=hput
   have HM5:=sE m5
   have HK5:Sl (Kp (λ k=>k=mb) w3 w5):=⟨(hk.trans kB (λ _ _ h=>h.elim)).trans k5 (λ _ _ h=>h)⟩
   clear hm hk K1r hlk hSt hy hput m5 k5 z5 hcy hT1 hN1 hN2 kA kB hwA hwB
   go_wp2
   refine⟨⟨j+1,by go_num,by omega,by rw[HTk.out];exact HM5.out,HK5.out⟩,by simp only[intOf];omega⟩
  .obtain rfl:j=M:=by omega
   have hjl':¬ (j:Int)<(j:Int):=by omega
   rw[List.take_of_length_le (by rw[HM.out];omega)] at hm
   obtain⟨w4,rfl⟩:∃ w4:World,w4=wr:=⟨_,rfl⟩
   have hmf:=hm.lt
   obtain⟨Dm,hown,hD,hneg⟩:=hm
   have HD:=sE (And.intro hD hneg)
   have HSs:Sl (∀ t,(Eb os Q t).isSome=true ↔ ∃ x∈Q,(BK os x).ty=t):=⟨λ t=>by
    have hof:(EM os Q t).isEmpty=true ↔ ¬ ∃ x∈Q,(BK os x).ty=t:=by
     rw[List.isEmpty_iff]
     unfold EM
     rw[List.filter_eq_nil_iff]
     simp
    unfold Eb
    by_cases h:(EM os Q t).isEmpty=true
    .rw [if_pos h]
     simp only[Option.isSome_none]
     exact⟨λ h=>(by cases h),λ q=>absurd q (hof.1 h)⟩
    .rw [if_neg h]
     simp only[Option.isSome_some]
     exact⟨λ _=>Classical.byContradiction λ q=>h (hof.2 q),λ _=>trivial⟩⟩
   clear HMj hD hneg hj hk K1r
   go_wp2_with (first|(at_range;go_loud (refine wpList_range_own _ rfl _ 124 rfl 3 82 (int_keyed underlying3) Dk _ mb j _ rfl hown ?_);intro w0 hrg0 hg0 hs0))
   try go_frame
   obtain⟨rb,hrb⟩:∃ b,w4.heap.size=b:=⟨_,rfl⟩
   have K0:Kp Aa w4 w0:=(Kr Aa w4).grown hg0 (λ k e _=>by cases e)
   rw[hrb] at hrg0 hs0 hmf ⊢
   have HK0:Sl (Kp Aa w w0):=⟨HK1.out.then' (HK1r.out.then' K0)⟩
   have HRb:Sl (w.heap.size<=rb):=⟨by have:=(HK1.out.then' HK1r.out).size;omega⟩
   have HTl:Sl (∀ t,(Eb os Q t).isSome=true->t<65536):=⟨λ t ht=>by
    obtain⟨x,-,rfl⟩:=(HSs.out t).1 ht
    exact HTy.out x⟩
   clear hown hg0 K0 hrb
   go_loopw [4] (λ x4 wr=>∃ (left:Lit->Bool) (cnt:Nat) (ss:List Nat),wr.ranges prog 3 heldE mb rb j Dm left cnt/\CollI Dm left ss/\wr.ownsRow (rb+1) 82 3 x4 ss.length (BZ (ss.map (rowS os Q)))/\Kp (λ k=>k=rb\/rb+1<=k) w0 wr) (λ _ wr=>wr.rangeLeft mb rb)
   case atStart=>exact ⟨_,_,[],hrg0,CollI.start Dm,World.ownsRow_nil _ _ _ _,Kr _ _⟩
   case round=>
    obtain⟨left,cnt,ss,hrg,hC,hro,hkk⟩:=hrel
    obtain⟨ra,rc,rfl⟩:=AJ hro
    have HC:=sE hC
    have HRo:=sE hro
    have HKK:=sE hkk
    have hzr:=hkk.size
    have hss:∀ g∈ss,(Eb os Q g).isSome=true:=λ g hg=>by
     have h1:=(hC.2 g).1 hg
     have h2:=h1.2.1
     rwa [Bu.has_eqP HD.out.1 h1.1] at h2
    have HSl:Sl (ss.length<=65536):=⟨nodup_lt 65536 ss hC.1 (λ g hg=>HTl.out g (hss g hg))⟩
    have HSl0:Sl (ss.length<=n0):=⟨HN0.out ss hC.1 (λ t ht=>by
     obtain⟨x,hx,e⟩:=(HSs.out t).1 (hss t ht)
     rw[<- HQ.out] at hx
     exact⟨x,(HFm.out x).1 (setL_mem.1 hx).2,e⟩)⟩
    clear hC hro hkk hrg0
    go_wp2_with (first|(at_next;refine wpList_next_ranges _ rfl _ rfl 3 (int_keyed underlying3) heldE (Value.int .i64) id (λ key kl hk=>by obtain⟨x,hx,_⟩:=Maps.keyOf_int_inv underlying3 hk;exact ⟨x,hx⟩) (λ v _ _=>⟨v,rfl⟩) mb rb j _ _ _ rfl hrg ?_ ?_))
    .intro hc0 hl0
     have HSf:Sl (∀ g,g∈ss ↔ ∃ x∈Q,(BK os x).ty=g):=⟨λ g=>by
      rw[HC.out.2 g,hl0,<- HSs.out g]
      constructor
      .rintro ⟨h1,h2,-⟩
       rwa [Bu.has_eqP HD.out.1 h1] at h2
      .intro h
       have:=HTl.out g h
       exact⟨by omega,by rw[Bu.has_eqP HD.out.1 (by omega)];exact h,rfl⟩⟩
     have HSo:=sE (HS.out wr (rb+1) (.slice ra ss.length rc) (ss.map (rowS os Q)) (by rw[List.length_map];exact HRo.out) (by rw[List.length_map];exact HSl0.out))
     clear hl0 hrg hss
     go_wp2_with fail
     refine HSo.out.mono ?_
     rintro e w6 ⟨rfl,N,hp,hpw,ho,k6⟩
     have hnl:N.length=ss.length:=by rw[hp.length_eq,List.length_map]
     rw[List.length_map] at ho
     have HK6:Sl (Kp Aa w w6):=⟨(HK0.out.trans HKK.out (λ b hb h=>by have:=HRb.out;omega)).trans k6 (λ b hb h=>by have:=(Ae HRo.out h).1;have:=HRb.out;omega)⟩
     have HP:=sE (And.intro hp hpw)
     have HO6:=sE ho
     have HNl:=sE hnl
     clear hp hpw ho k6 hnl
     go_wp2
     go_ret2
     refine⟨fm,.slice ra ss.length rc,ss,N,HFm.out,rfl,HC.out.1,?_,?_,HP.out.2,?_,HK6.out⟩
     .rw [HQ.out];exact HSf.out
     .rw [HQ.out];exact HP.out.1
     .rw [HNl.out]
      exact Cu HO6.out (by have:=HRb.out;omega)
    .intro x e kl yd yp w2 cnt2 hkey hlk hv hat hrg2 hlt hg2 hs2 hen
     obtain⟨x',ex,rfl,hwf⟩:=Maps.keyOf_int_inv underlying3 hkey
     obtain rfl:x=x':=by simpa using ex
     obtain⟨g,rfl,hg,hfg⟩:=Bu.entry HD.out.1 HD.out.2 hwf hv (λ zd=>hat zd)
     obtain⟨N1,hN1⟩:∃ n,(EM os Q g).length=n:=⟨_,rfl⟩
     obtain⟨N2,hN2⟩:∃ n,Bc os (EM os Q g)=n:=⟨_,rfl⟩
     have HRw:Sl (rowS os Q g=(g,N1,N2)):=⟨by unfold rowS;rw [hN1,hN2]⟩
     obtain rfl:e=.agg #[.int .i64 (g:Nat),.int .i64 (N1:Nat),.int .i64 (N2:Nat)]:=by
      unfold Eb at hfg
      split at hfg
      .cases hfg
      .rw [HRw.out] at hfg
       injection hfg with hfg
       exact hfg.symm
     have HC2:=sE (HC.out.step hg hlk hat)
     have k2:Kp (λ k=>k=rb) wr w2:=(Kr _ wr).grown hg2 (λ k e _=>by injection e with e;exact e.symm)
     have HRg:=sE hrg2
     have HLt:Sl (cnt2<wr.rangeLeft mb rb):=⟨by rw[hrg.left_eq];exact hlt⟩
     have HR2:=sE (Ag HRo.out k2 (λ b hb h=>by have:=(Ae HRo.out hb).1;omega))
     have hz2:=k2.size
     have HK2:=sE (HKK.out.trans k2 (λ b hb h=>.inl h))
     have hsl:=HSl.out
     have hsz2:rb+1<=w2.heap.size:=by omega
     have HNB:Sl (((w2.alloc (.cells #[.int .i64 (g:Nat),.int .i64 (N1:Nat),.int .i64 (N2:Nat)] 82)).alloc (.cells #[.int .i64 (g:Nat),.int .i64 (N1:Nat),.int .i64 (N2:Nat)] 82)).heap[w2.heap.size+1]?=some (.cells #[.int .i64 (g:Nat),.int .i64 (N1:Nat),.int .i64 (N2:Nat)] 82 (0,0))):=⟨by
      have:=wN (w2.alloc (.cells #[.int .i64 (g:Nat),.int .i64 (N1:Nat),.int .i64 (N2:Nat)] 82)) (.cells #[.int .i64 (g:Nat),.int .i64 (N1:Nat),.int .i64 (N2:Nat)] 82)
      rwa [show (w2.alloc (.cells #[.int .i64 (g:Nat),.int .i64 (N1:Nat),.int .i64 (N2:Nat)] 82)).heap.size=w2.heap.size+1 by simp] at this⟩
     have K2A:Sl (Kp Aa w2 ((w2.alloc (.cells #[.int .i64 (g:Nat),.int .i64 (N1:Nat),.int .i64 (N2:Nat)] 82)).alloc (.cells #[.int .i64 (g:Nat),.int .i64 (N1:Nat),.int .i64 (N2:Nat)] 82))):=⟨((Kr _ w2).alloc _).alloc _⟩
     have HRA:=sE (Ag HR2.out K2A.out (λ _ _ h=>h))
     have hzA:=K2A.out.size
     clear hs2 hkey hlk hv hat hrg2 hrg hlt hg2 hwf ex hfg k2 hss hg hN1 hN2
     go_wp2_with (at_builtin;obtain ⟨i0,hi,hz0,hz1,hz2⟩:=info_parts infoShare;go_loud (refine wpList_append_own_at _ rfl (.tmp 66) (.tmp 68) 38 rfl (rb+1) 82 i0 _ 3 24 underlyingShares hi hz0 hz1 hz2 rfl (by omega) (.slice ra ss.length rc) ss.length (BZ (ss.map (rowS os Q))) rfl HRA.out ⟨w2.heap.size+1,0,none⟩ 1 1 [.int .i64 (g:Nat),.int .i64 (N1:Nat),.int .i64 (N2:Nat)] rfl rfl (World.news_of_block HNB.out) (by intro u hu;simp at hu;rcases hu with rfl|rfl|rfl <;> rfl) (by unfold maxLen;omega) (by omega) (by simp;omega) ?_);intro v' w3x hown3 hgrow hnl hat3;obtain ⟨na,nc,rfl⟩:=AJ hown3;clear hi hz0 hz1 hz2)
     have KA:Kp (λ k=>(Value.slice ra ss.length rc).ownBlock=some k) w2 w3x:=(K2A.out.Ar _).grown hgrow (λ k e _=>e)
     have hb1:∀ k,(Value.slice ra ss.length rc).ownBlock=some k->rb+1<=k:=λ k hk=>(Ae HR2.out hk).1
     have hrg3:=ranges_keepI HRg.out KA (λ h=>by have:=hb1 _ h;omega) (λ h=>by have:=hb1 _ h;omega)
     have HR3:Sl (w3x.ownsRow (rb+1) 82 3 (.slice na (ss.length+1) nc) (ss++[g]).length (BZ ((ss++[g]).map (rowS os Q)))):=⟨by
      have e1:BZ ((ss++[g]).map (rowS os Q))=BZ (ss.map (rowS os Q))++[.int .i64 (g:Nat),.int .i64 (N1:Nat),.int .i64 (N2:Nat)]:=by
       rw[List.map_append,flatE_app]
       show _++BZ [rowS os Q g]=_
       rw[HRw.out]
       rfl
      rw[e1,List.length_append]
      exact hown3⟩
     have HRg3:=sE hrg3
     have HK3:=sE (HK2.out.trans KA (λ b hb h=>.inr (hb1 b h)))
     clear hown3 hgrow hnl hat3 KA hb1 hrg3
     go_wp2
     exact⟨⟨_,cnt2,ss++[g],HRg3.out,HC2.out,HR3.out,HK3.out⟩,by rw[HRg3.out.left_eq];exact HLt.out⟩

end

end Go.Proofs.YtfkedlgpgmaemaaGreatDoor
