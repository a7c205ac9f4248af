/-
  Lemmas for the laws, together: DocV.
-/
import Derived.Test.YtfkedlgpgmaemaaGreatDoorQbp
set_option linter.unusedVariables false
set_option maxHeartbeats 16000000
namespace Go.Proofs.YtfkedlgpgmaemaaGreatDoor
open Tryz
section
open Go.RowKit

def DFarPost(es:List (Nat×Nat×Nat))(rs:List Nat)(D:Nat->Option Nat)(w:World)(e:Ending)(w':World):Prop:=
 ∃ (v:Value) (m:List Nat),m.Pairwise (· <·)/\(∀ z,z∈m ↔ AA es rs z)/\e=.returned v/\RowD w' v (m.map (mkD D))/\Kp Aa w w'

theorem reachT_lt{es:List (Nat×Nat×Nat)}{rs:List Nat}{K z:Nat}(hrs:∀ r∈rs,r<K)(hes:∀ e∈es,e.2.2<K)(h:AA es rs z):z<K:=by
 obtain⟨n,h⟩:=h
 induction h with
 |root h=>exact hrs _ h
 |step _ he _=>exact hes _ he

theorem flatD_snoc(L:List Gl)(x:Gl):Gj (L++[x])=Gj L++[.int .i64 x.1.val,.int .i64 x.2]:=by
 unfold Gj
 rw[List.flatMap_append]
 rfl

set_option maxRecDepth 20000 in
theorem DFar40_at(w:World)(ea:Option Addr)(ec:Nat)(es:List (Nat×Nat×Nat))(ra:Option Addr)(rc:Nat)(rs:List Nat)(K:Nat)(D:Nat->Option Nat)
  (he:Dl w (.slice ea es.length ec) es) (hr:AO w (.slice ra rs.length rc) rs) (hK:K<=65536) (hrs:∀ r∈rs,r<K) (hes:∀ e∈es,e.2.2<K) (hel:es.length<=2147483648) (hrl:rs.length<=65536) (hD:Gg es rs D):
  Calls prog 45 #[.slice ea es.length ec,.slice ra rs.length rc] w (DFarPost es rs D w):=by
 have HA:=sE (DReached_at w ea ec es ra rc rs K he hr hK hrs hes hel hrl)
 have HRS:=sE hrs
 have HES:=sE hes
 have HD:=sE hD
 have HEw:=sE he
 have HRw:=sE hr
 obtain⟨n,hn⟩:∃ n,rs.length=n:=⟨_,rfl⟩
 obtain⟨E,hE⟩:∃ E,es.length=E:=⟨_,rfl⟩
 have HN:=sE hn
 have HEl:=sE hE
 rw[hn,hE] at HA
 rw[hn] at HRw hrl
 rw[hE] at HEw hel
 rw[hn,hE]
 clear he hr hrs hes hn hE hD
 go_enter func45,ntmps45
 go_wp2_with fail
 refine HA.o.mono ?_
 rintro e w1 ⟨v1,m,rfl,a1,a2,a3,a4,k1⟩
 obtain⟨b1,c1,rfl,-⟩:=id a1
 have HX:=sE a1
 have HS1:=sE a2
 have HM1:=sE a3
 have hl1:m.length<=65536:=Nat.le_trans (Cm a2 (λ z hz=>reachT_lt HRS.o HES.o ((a3 z).1 hz))) hK
 have HK1:=sE k1
 have HE1:=sE (HEw.o.Ac k1)
 have HR1:=sE (HRw.o.Ac k1)
 obtain⟨M,hM⟩:∃ M,m.length=M:=⟨_,rfl⟩
 have HMl:=sE hM
 rw[hM] at HX hl1
 rw[hM]
 clear a1 a2 a3 a4 k1 HA hM HEw HRw
 obtain⟨w2,hmk,hN2,k2⟩:=MakeNumsI w1 M hl1
 obtain⟨sb,hsb⟩:∃ b,w1.heap.size=b:=⟨_,rfl⟩
 rw[hsb] at hmk hN2
 have HSb:=sE hsb
 have HN2:=sE hN2
 have HK2:Sl (Kp (λ b=>b=sb) w1 w2):=⟨k2.Aw _⟩
 clear hN2 k2 hsb
 go_wp2_with fail
 clear hmk
 go_loopw [7,8] (λ x7 _ wr=>∃ i:Nat,x7=.int .i64 i/\i<=M/\Sl (GH wr sb M (λ j=>if j<i then (if m.getD j 0∈rs then 0 else -1) else 0))/\Sl (Kp (λ b=>b=sb) w1 wr)) (λ x7 _ _=>M-(intOf x7).toNat)
 case atStart=>exact ⟨0,rfl,Nat.zero_le _,⟨HN2.o.congr λ j _=>by simp⟩,HK2⟩
 case round=>
  obtain⟨i,rfl,hi,HF,HK⟩:=hrel
  by_cases hil:i<M
  .have hil':(i:Int)<(M:Int):=by omega
   obtain⟨z,hz⟩:∃ z,m[i]?=some z:=⟨m[i]'(by rw[HMl.o];exact hil),by simp⟩
   have HZ:=sE hz
   have hzd:m.getD i 0=z:=by rw[List.getD_eq_getElem?_getD,hz];rfl
   have HZd:=sE hzd
   obtain⟨x0,f0⟩:=HF.o.cell hil
   have hst:=HF.o.store hil (-1)
   obtain⟨ws,hws⟩:∃ ws,ws=wr.setCell ⟨sb,i,none⟩ (.int .i64 (-1)):=⟨_,rfl⟩
   rw[<- hws] at hst
   have HSt:Sl (GH ws sb M (λ j=>if j=i then (if z∈rs.take 0 then 0 else -1) else if j<i then (if m.getD j 0∈rs then 0 else -1) else 0)):=⟨hst.congr λ j _=>by simp⟩
   have HKs:Sl (Kp (λ b=>b=sb) w1 ws):=⟨by rw[hws];exact HK.o.setCell (λ _=>rfl) _⟩
   clear hz hzd hst
   go_wp2_with fail
   try rw[<- hws]
   clear hws x0 f0
   go_loopw [8] (λ x8 w3=>∃ k:Nat,x8=.int .i64 (k:Nat)/\k<=n/\Sl (GH w3 sb M (λ j=>if j=i then (if z∈rs.take k then 0 else -1) else if j<i then (if m.getD j 0∈rs then 0 else -1) else 0))/\Sl (Kp (λ b=>b=sb) w1 w3)) (λ x8 _=>n-(intOf x8).toNat)
   case atStart=>exact ⟨0,rfl,Nat.zero_le _,HSt,HKs⟩
   case round=>
    obtain⟨k,rfl,hk,HG,HKg⟩:=hrel
    obtain⟨wq,rfl⟩:∃ wq,wq=wr:=⟨_,rfl⟩
    by_cases hkl:k<n
    .have hkl':(k:Int)<(n:Int):=by omega
     obtain⟨r,hr⟩:∃ r,rs[k]?=some r:=⟨rs[k]'(by rw[HN.o];exact hkl),by simp⟩
     have HRk:=sE hr
     obtain⟨ra',rc',er,hrc⟩:=HR1.o.keepB HKg.o (λ b hb h=>by have:=HSb.o;have h':b=sb:=h;omega)
     obtain⟨rb,ro,hrb,r0⟩:=hrc k r hr
     have hra:ra=some ⟨rb,ro,none⟩:=by injection er with h1;rw [h1];exact hrb
     subst hra
     obtain⟨xa',xc',ex,hxc⟩:=HX.o.keepB HKg.o (λ b hb h=>by have:=HSb.o;have h':b=sb:=h;omega)
     obtain⟨xb,xo,hxb,z0⟩:=hxc i z HZ.o
     have hxa:b1=some ⟨xb,xo,none⟩:=by injection ex with h1;rw [h1];exact hxb
     subst hxa
     clear er hrc hrb ex hxc hxb hr
     go_wp2_with fail
     refine wp_region_held_drew (S:=λ w'=>w'.cell? ⟨rb,ro+k,none⟩=some (.int .i64 (r:Nat))/\w'.cell? ⟨xb,xo+i,none⟩=some (.int .i64 (z:Nat))) (by kernel_rfl) ?_ (λ qZ=>?_)
     .exact ⟨r0,z0⟩
     refine Ap 0 ?_;refine Ap 1 ?_;refine Ap 2 ?_;refine Ap 3 ?_;refine Ap 4 ?_;refine Ap 5 ?_;refine Ap 6 ?_;refine Ap 7 ?_;refine Ap 8 ?_
     try simp only[AB]
     refine wpAnyH_done (by kernel_rfl) ?_ _
     obtain⟨wd,hwd⟩:∃ wd,wd=wq.drew:=⟨_,rfl⟩
     have kd:Kp Aa wq wd:=by rw[hwd];exact (Kr _ _).drew
     try rw[<- hwd]
     have HG2:=sE (HG.o.Ac kd)
     have HK4:Sl (Kp (λ b=>b=sb) w1 wd):=⟨HKg.o.trans (kd.Aw (λ b=>b=sb)) (λ _ _ h=>h)⟩
     clear hwd kd r0 z0 qZ
     by_cases hrz:r=z
     .have e1:((r:Int)==(z:Int))=true:=by rw[hrz];simp
      obtain⟨x0,f0⟩:=HG2.o.cell hil
      have hst:=HG2.o.store hil 0
      obtain⟨wt,hwt⟩:∃ wt,wt=wd.setCell ⟨sb,i,none⟩ (.int .i64 0):=⟨_,rfl⟩
      rw[<- hwt] at hst
      have hin:z∈rs.take (k+1):=by rw[List.take_add_one,HRk.o,List.mem_append];exact .inr (by simp[hrz])
      have HSt2:Sl (GH wt sb M (λ j=>if j=i then (if z∈rs.take (k+1) then 0 else -1) else if j<i then (if m.getD j 0∈rs then 0 else -1) else 0)):=⟨hst.congr λ j _=>by
       by_cases h:j=i
       .rw [if_pos h,if_pos h,if_pos hin]
       .rw [if_neg h,if_neg h,if_neg h]⟩
      have HKt:Sl (Kp (λ b=>b=sb) w1 wt):=⟨by rw[hwt];exact HK4.o.setCell (λ _=>rfl) _⟩
      clear hst hin hrz
      go_wp2_with fail
      try rw[<- hwt]
      exact⟨⟨k+1,by go_num,by omega,HSt2,HKt⟩,by simp only[intOf];omega⟩
     .have e1:((r:Int)==(z:Int))=false:=by rw[beq_eq_false_iff_ne];omega
      have HSt2:Sl (GH wd sb M (λ j=>if j=i then (if z∈rs.take (k+1) then 0 else -1) else if j<i then (if m.getD j 0∈rs then 0 else -1) else 0)):=⟨HG2.o.congr λ j _=>by
       have h2:z∈rs.take (k+1) ↔ z∈rs.take k:=by
        rw[List.take_add_one,HRk.o,List.mem_append]
        exact⟨λ h=>h.elim id λ h=>absurd (by simpa using h:z=r).symm hrz,.inl⟩
       simp only[h2]⟩
      clear hrz
      go_wp2_with fail
      exact⟨⟨k+1,by go_num,by omega,HSt2,HK4⟩,by simp only[intOf];omega⟩
    .have hkl':¬ (k:Int)<(n:Int):=by omega
     have HSt2:Sl (GH wq sb M (λ j=>if j<i+1 then (if m.getD j 0∈rs then 0 else -1) else 0)):=⟨HG.o.congr λ j _=>by
      by_cases h:j=i
      .rw [if_pos h,if_pos (show j<i+1 by omega),h,HZd.o,List.take_of_length_le (by rw[HN.o];omega)]
      .rw [if_neg h]
       by_cases h2:j<i
       .rw [if_pos h2,if_pos (show j<i+1 by omega)]
       .rw [if_neg h2,if_neg (show ¬ j<i+1 by omega)]⟩
     go_wp2_with fail
     exact⟨⟨i+1,by go_num,by omega,HSt2,HKg⟩,by simp only[intOf];omega⟩
  .have hil':¬ (i:Int)<(M:Int):=by omega
   obtain rfl:M=i:=by omega
   have HF2:Sl (GH wr sb M (λ j=>stF es D 0 0 (m.getD j 0))):=⟨HF.o.congr λ j hj=>by rw[if_pos hj,stF_zero HD.o]⟩
   obtain⟨w5,rfl⟩:∃ w5,w5=wr:=⟨_,rfl⟩
   clear HF hi hil HN2 HK2
   go_wp2_with fail
   go_loopw [9,10,11,12] (λ x9 _ _ _ wr=>∃ r:Nat,x9=.int .i64 (r:Nat)/\r<=M/\Sl (GH wr sb M (λ j=>stF es D r 0 (m.getD j 0)))/\Sl (Kp (λ b=>b=sb) w1 wr)) (λ x9 _ _ _ _=>M-(intOf x9).toNat)
   case atStart=>exact ⟨0,rfl,Nat.zero_le _,HF2,HK⟩
   case round=>
    obtain⟨r,rfl,hr,HF,HKr⟩:=hrel
    clear HK HF2
    by_cases hrl2:r<M
    .have hrl':(r:Int)<(M:Int):=by omega
     go_wp2_with fail
     go_loopw [10,11,12] (λ x10 _ _ w3=>∃ k:Nat,x10=.int .i64 (k:Nat)/\k<=E/\Sl (GH w3 sb M (λ j=>stF es D r k (m.getD j 0)))/\Sl (Kp (λ b=>b=sb) w1 w3)) (λ x10 _ _ _=>E-(intOf x10).toNat)
     case atStart=>exact ⟨0,rfl,Nat.zero_le _,HF,HKr⟩
     case round=>
      obtain⟨k,rfl,hk,HG,HKg⟩:=hrel
      clear HF HKr
      obtain⟨wq,rfl⟩:∃ wq,wq=wr:=⟨_,rfl⟩
      by_cases hkl:k<E
      .have hkl':(k:Int)<(E:Int):=by omega
       obtain⟨x,hx⟩:∃ x,es[k]?=some x:=⟨es[k]'(by rw[HEl.o];exact hkl),by simp⟩
       have HXk:=sE hx
       obtain⟨ea',ec',ee,hec⟩:=HE1.o.keepB HKg.o (λ b hb h=>by have:=HSb.o;have h':b=sb:=h;omega)
       obtain⟨eb,heb,-,y0,y1,y2⟩:=hec k x hx
       have hea:ea=some ⟨eb,0,none⟩:=by injection ee with h1;rw [h1];exact heb
       subst hea
       have HAt:Sl (∀ W' y,Kp Aa wq W'->Calls prog 90 #[.slice b1 M c1,.int .i64 (y:Nat)] W' λ e w'=>∃ p:Int,e=.returned (.int .i64 p)/\AtIs m y p/\W'=w'):=⟨λ W' y kk=>by
        have h1:=(HX.o.keepB HKg.o (λ b hb h=>by have:=HSb.o;have h':b=sb:=h;omega)).Ac kk
        rw[<- HMl.o] at h1 ⊢
        exact DAt40_at W' b1 c1 m y h1 (by rw[HMl.o];exact hl1)⟩
       clear ee hec heb hx y1
       go_wp2_with fail
       refine wp_region_held_drew (S:=λ w'=>w'.cell? ⟨eb,k*3,none⟩=some (.int .i64 x.1)/\w'.cell? ⟨eb,k*3+2,none⟩=some (.int .i64 x.2.2)) (by kernel_rfl) ?_ (λ qZ=>?_)
       .exact ⟨y0,y2⟩
       refine Ap 0 ?_;refine Ap 1 ?_;refine Ap 2 ?_;refine Ap 3 ?_;refine Ap 4 ?_;refine Ap 5 ?_;refine Ap 7 ?_;refine Ap 8 ?_;refine Ap 9 ?_
       try simp only[AB]
       refine Ap 10 ?_;refine Ap 11 ?_;refine Ap 12 ?_
       try simp only[AB]
       have kd:Kp Aa wq wq.drew:=(Kr _ _).drew
       refine Bp [6] ?_
       refine Ag rfl (λ K hK=>?_)
       go_simp
       go_at_call 90
       (with_reducible refine(HAt.o _ x.1 kd).mono ?_)
       rintro e w6 ⟨pa,rfl,hpa,rfl⟩
       refine hK _ _ ?_ (λ qZ=>?_)
       .exact ⟨Ae kd y0,Ae kd y2⟩
       clear hK K
       try simp only[AB]
       refine Bp [13] ?_
       refine Ag rfl (λ K hK=>?_)
       go_simp
       go_at_call 90
       (with_reducible refine(HAt.o _ x.2.2 kd).mono ?_)
       rintro e w6 ⟨pb,rfl,hpb,rfl⟩
       refine hK _ _ ?_ (λ qZ=>?_)
       .exact ⟨Ae kd y0,Ae kd y2⟩
       clear hK K
       try simp only[AB]
       refine Ap 14 ?_;refine Ap 15 ?_
       try simp only[AB]
       refine wpAnyH_done (by kernel_rfl) ?_ _
       obtain⟨wd,hwd⟩:∃ wd,wd=wq.drew:=⟨_,rfl⟩
       try rw[<- hwd] at kd ⊢
       have HG2:=sE (HG.o.Ac kd)
       have HK4:Sl (Kp (λ b=>b=sb) w1 wd):=⟨HKg.o.trans (kd.Aw (λ b=>b=sb)) (λ _ _ h=>h)⟩
       clear hwd kd y0 y2 qZ HAt HG HKg
       have SAME:Sl ((¬ (D x.1=some r/\stF es D r k x.2.2<0))->GH wd sb M (λ j=>stF es D r (k+1) (m.getD j 0))):=⟨λ h=>HG2.o.congr λ j _=>(stF_same HXk.o h _).symm⟩
       have HIn:Sl (∀ z d,D z=some d->z∈m):=⟨λ z d h=>(HM1.o z).2 (HD.o.reach.1 (by rw[h];rfl))⟩
       rcases hpa with ⟨ia,rfl,hia⟩|⟨rfl,hia⟩
       .have hal:ia<M:=by rw[<- HMl.o];exact (gE.1 hia).1
        have hag:m.getD ia 0=x.1:=by rw[List.getD_eq_getElem?_getD,hia];rfl
        rcases hpb with ⟨ib,rfl,hib⟩|⟨rfl,hib⟩
        .have hbl:ib<M:=by rw[<- HMl.o];exact (gE.1 hib).1
         have hbg:m.getD ib 0=x.2.2:=by rw[List.getD_eq_getElem?_getD,hib];rfl
         obtain⟨ca,-⟩:=HG2.o.cell hal
         obtain⟨cb,fb⟩:=HG2.o.cell hbl
         rw[hag] at ca
         rw[hbg] at cb
         have HIb:=sE hib
         have HBg:=sE hbg
         obtain⟨sa,hsa⟩:∃ s,stF es D r k x.1=s:=⟨_,rfl⟩
         obtain⟨sy,hsy⟩:∃ s,stF es D r k x.2.2=s:=⟨_,rfl⟩
         have HSa:=sE hsa
         have HSy:=sE hsy
         rw[hsa] at ca
         rw[hsy] at cb
         have g1:(0:Int)<=(ia:Int):=by omega
         have g2:(0:Int)<=(ib:Int):=by omega
         clear hia hib hag hbg hsa hsy
         by_cases h1:sa=(r:Int)
         .have e1:(sa==(r:Int))=true:=by rw[h1];simp
          have HDa:Sl (D x.1=some r):=⟨stF_eq.1 (by rw[HSa.o];exact h1)⟩
          by_cases h2:sy<0
          .have hst:=HG2.o.store hbl ((r:Int)+1)
           obtain⟨wt,hwt⟩:∃ wt,wt=wd.setCell ⟨sb,ib,none⟩ (.int .i64 ((r:Int)+1)):=⟨_,rfl⟩
           rw[<- hwt] at hst
           have HSt2:Sl (GH wt sb M (λ j=>stF es D r (k+1) (m.getD j 0))):=⟨hst.congr λ j hj=>by
            rw[stF_new HD.o HXk.o HDa.o (by rw[HSy.o];exact h2)]
            by_cases h:j=ib
            .rw [if_pos h,h,if_pos HBg.o]
             omega
            .rw [if_neg h,if_neg]
             intro q
             refine h ?_
             have q1:m[j]?=some x.2.2:=by
              rw[<- q,List.getD_eq_getElem?_getD,List.getElem?_eq_getElem (by rw[HMl.o];exact hj)]
              rfl
             exact(List.getElem?_inj (by rw[HMl.o];exact hj) (HS1.o.imp (λ {a b} h=>Nat.ne_of_lt h))).1 (q1.trans HIb.o.symm)⟩
           have HKt:Sl (Kp (λ b=>b=sb) w1 wt):=⟨by rw[hwt];exact HK4.o.setCell (λ _=>rfl) _⟩
           clear hst SAME h1
           go_wp2_with fail
           try rw[<- hwt]
           exact⟨⟨k+1,by go_num,by omega,HSt2,HKt⟩,by simp only[intOf];omega⟩
          .have HSt2:=sE (SAME.o λ q=>h2 (by rw[<- HSy.o];exact q.2))
           clear SAME h1
           go_wp2_with fail
           exact⟨⟨k+1,by go_num,by omega,HSt2,HK4⟩,by simp only[intOf];omega⟩
         .have e1:(sa==(r:Int))=false:=by rw[beq_eq_false_iff_ne];exact h1
          have HSt2:=sE (SAME.o λ q=>h1 (by rw[<- HSa.o];exact stF_eq.2 q.1))
          clear SAME h1
          go_wp2_with fail
          exact⟨⟨k+1,by go_num,by omega,HSt2,HK4⟩,by simp only[intOf];omega⟩
        .have HSt2:Sl _:=⟨SAME.o λ q=>by
          obtain⟨d,q1,-⟩:=HD.o.near (List.mem_of_getElem? HXk.o) q.1
          exact hib (HIn.o _ _ q1)⟩
         have g1:(0:Int)<=(ia:Int):=by omega
         clear SAME hia hib hag
         go_wp2_with fail
         exact⟨⟨k+1,by go_num,by omega,HSt2,HK4⟩,by simp only[intOf];omega⟩
       .have HSt2:=sE (SAME.o λ q=>hia (HIn.o _ _ q.1))
        clear SAME hia hpb
        go_wp2_with fail
        exact⟨⟨k+1,by go_num,by omega,HSt2,HK4⟩,by simp only[intOf];omega⟩
      .have hkl':¬ (k:Int)<(E:Int):=by omega
       obtain rfl:E=k:=by omega
       have HG2:Sl (GH wq sb M (λ j=>stF es D (r+1) 0 (m.getD j 0))):=⟨HG.o.congr λ j _=>by
        have:=stF_round (es:=es) HD.o r (m.getD j 0)
        rwa [HEl.o] at this⟩
       go_wp2_with fail
       exact⟨⟨r+1,by go_num,by omega,HG2,HKg⟩,by simp only[intOf];omega⟩
    .have hrl':¬ (r:Int)<(M:Int):=by omega
     obtain rfl:M=r:=by omega
     have HF2:Sl (∀ j z,m[j]?=some z->stF es D M 0 (m.getD j 0)=((mkD D z).2:Nat)):=⟨λ j z hz=>by
      have hzd:m.getD j 0=z:=by rw[List.getD_eq_getElem?_getD,hz];rfl
      have h1:=HD.o.reach.2 ((HM1.o z).1 (List.mem_of_getElem? hz))
      obtain⟨d,hd⟩:=Option.isSome_iff_exists.1 h1
      have h2:=dist_lt HD.o (m:=m) (λ y hy=>(HM1.o y).2 (HD.o.reach.1 hy)) hd
      rw[HMl.o] at h2
      rw[hzd,stF_yes hd (by omega)]
      unfold mkD
      rw[hd]
      rfl⟩
     have HZv:Sl (∀ z∈m,(mkD D z).1.val=z):=⟨λ z hz=>by
      have:=reachT_lt HRS.o HES.o ((HM1.o z).1 hz)
      exact Nat.mod_eq_of_lt (by omega)⟩
     obtain⟨w6,rfl⟩:∃ w6,w6=wr:=⟨_,rfl⟩
     obtain⟨B,hB⟩:∃ B,w6.heap.size=B:=⟨_,rfl⟩
     have HBs:=sE hB
     clear hB hr hrl2
     go_wp2_with fail
     go_loopw [13,14] (λ x13 x14 wr=>∃ i:Nat,x14=.int .i64 i/\i<=M/\Sl (wr.ownsRow B 99 2 x13 i (Gj ((m.take i).map (mkD D))))/\Kp Aa w6 wr) (λ _ x14 _=>M-(intOf x14).toNat)
     case atStart=>exact ⟨0,rfl,Nat.zero_le _,⟨World.ownsRow_nil _ _ _ _⟩,Kr _ _⟩
     case round=>
      obtain⟨i,rfl,hi,HO,hk⟩:=hrel
      obtain⟨wq,rfl⟩:∃ wq,wq=wr:=⟨_,rfl⟩
      obtain⟨b8,c8,h8⟩:=Aq HO.o
      subst h8
      by_cases hil:i<M
      .have hil':(i:Int)<(M:Int):=by omega
       obtain⟨z,hz⟩:∃ z,m[i]?=some z:=⟨m[i]'(by rw[HMl.o];exact hil),by simp⟩
       obtain⟨xa',xc',ex,hxc⟩:=HX.o.keepB HKr.o (λ b hb h=>by have:=HSb.o;have h':b=sb:=h;omega)
       obtain⟨xb,xo,hxb,z0⟩:=hxc i z hz
       have hxa:b1=some ⟨xb,xo,none⟩:=by injection ex with h1;rw [h1];exact hxb
       subst hxa
       obtain⟨s0,-⟩:=HF.o.cell hil
       rw[HF2.o i z hz] at s0
       have HSn:Sl (Gj ((m.take (i+1)).map (mkD D))=Gj ((m.take i).map (mkD D))++[.int .i64 (z:Nat),.int .i64 ((mkD D z).2:Nat)]):=⟨by
        rw[List.take_add_one,hz,List.map_append]
        show Gj (_++[mkD D z])=_
        rw[flatD_snoc,HZv.o z (List.mem_of_getElem? hz)]⟩
       obtain⟨R,hR⟩:∃ R,Gj ((m.take i).map (mkD D))=R:=⟨_,rfl⟩
       obtain⟨d,hd⟩:∃ d,(mkD D z).2=d:=⟨_,rfl⟩
       rw[hR] at HO HSn
       rw[hd] at s0 HSn
       have HZ6:=sE z0
       have HS6:=sE s0
       replace z0:=Ae hk z0
       replace s0:=Ae hk s0
       have hzq:=hk.size
       rw[HBs.o] at hzq
       clear ex hxc hxb hz hR hd
       go_wp2_with fail
       refine wp_region_held_drew (S:=λ w'=>w'.cell? ⟨xb,xo+i,none⟩=some (.int .i64 (z:Nat))/\w'.cell? ⟨sb,i,none⟩=some (.int .i64 (d:Nat))) (by kernel_rfl) ?_ (λ qZ=>?_)
       .exact ⟨z0,s0⟩
       refine Ap 0 ?_;refine Ap 1 ?_;refine Ap 2 ?_;refine Ap 3 ?_;refine Ap 4 ?_;refine Ap 5 ?_;refine Ap 6 ?_;refine Ap 7 ?_;refine Ap 8 ?_
       try simp only[AB]
       refine Ap 9 ?_
       try simp only[AB]
       refine Bp [10] ?_
       refine Ag rfl (λ K hK=>?_)
       go_simp
       obtain⟨w7,hw7⟩:∃ w7,w7=(wq.alloc (.cells #[.int .i64 (z:Nat),.int .i64 (d:Nat)] 99)).drew:=⟨_,rfl⟩
       have k7:Kp Aa wq w7:=by rw[hw7];exact ((Kr _ wq).alloc _).drew
       have bn:w7.heap[wq.heap.size]?=some (.cells #[.int .i64 (z:Nat),.int .i64 (d:Nat)] 99 (0,0)):=by rw[hw7];exact wN wq _
       try rw[<- hw7]
       clear hw7
       have HO7:=sE (Af HO.o k7 (λ _ _ h=>h))
       have hB7:B<=w7.heap.size:=Nat.le_trans hzq k7.size
       refine hK _ _ ?_ (λ qZ=>?_)
       .exact ⟨Ae k7 z0,Ae k7 s0⟩
       clear hK K
       try simp only[AB]
       obtain⟨i0,hi0,hz0,hz1,hz2⟩:=info_parts infoDist
       refine Bp [11] ?_
       refine Ag rfl (λ K hK=>?_)
       refine CP rfl rfl (.tmp 106) (.tmp 116) 88 rfl B 99 i0 _ 2 16 underlyingDists hi0 hz0 hz1 hz2 rfl (by omega) (.slice b8 i c8) i R rfl HO7.o ⟨wq.heap.size,0,none⟩ 1 _ [.int .i64 (z:Nat),.int .i64 (d:Nat)] rfl rfl (World.news_of_block bn) (by intro u hu;simp at hu;rcases hu with rfl|rfl <;> rfl) (by unfold maxLen;omega) (by omega) (by omega) ?_
       intro nv w8 hown hgrow hblk
       clear hi0 hz0 hz1 hz2
       have k8:Kp Aa w6 w8:=(hk.then' k7).grown hgrow (λ k e hk=>by have:=(Ad HO7.o e).1;have:=HBs.o;omega)
       have HO8:Sl (w8.ownsRow B 99 2 nv (i+1) (Gj ((m.take (i+1)).map (mkD D)))):=⟨by
        rw[HSn.o]
        exact hown⟩
       refine hK _ _ ?_ (λ qZ=>?_)
       .exact ⟨k8.cell HZ6.o (λ h=>h),k8.cell HS6.o (λ h=>h)⟩
       clear hK K
       try simp only[AB]
       refine Ap 12 ?_
       try simp only[AB]
       refine wpAnyH_done (by kernel_rfl) ?_ _
       clear qZ hown hgrow hblk k7 bn z0 s0
       go_wp2_with fail
       exact⟨⟨i+1,by go_num,by omega,HO8,k8⟩,by simp only[intOf];omega⟩
      .have hil':¬ (i:Int)<(M:Int):=by omega
       have HT:Sl (m.take i=m):=⟨List.take_of_length_le (by rw[HMl.o];omega)⟩
       rw[HT.o] at HO
       obtain rfl:i=M:=by omega
       have HP:Sl (DFarPost es rs D w (.returned (.slice b8 i c8)) wq):=⟨_,m,HS1.o,HM1.o,rfl,RowD.Bc (base:=B) (by rw[List.length_map,HMl.o];exact HO.o),HK1.o.trans (HKr.o.trans (hk.Aw _) (λ _ _ h=>h)) (λ b hb h=>by have:=HSb.o;have:=HK1.o.size;have h':b=sb:=h;omega)⟩
       clear HO HT
       go_wp2_with fail
       go_ret
       exact HP.o

end

end Go.Proofs.YtfkedlgpgmaemaaGreatDoor
