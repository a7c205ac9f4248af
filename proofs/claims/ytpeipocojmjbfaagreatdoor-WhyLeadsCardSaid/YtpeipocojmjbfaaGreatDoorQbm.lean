/-
  Lemmas for the laws, together: WhyWay.
-/
import Derived.Test.YtpeipocojmjbfaaGreatDoorQbl
set_option linter.unusedVariables false
set_option maxHeartbeats 16000000
namespace Go.Proofs.YtpeipocojmjbfaaGreatDoor
open Tryz
section
open Go.RowKit

theorem WHas_at(P:Sp)(W:Nat->Nat)(f:Nat->Bool)(w:World)(hsp:SpaceAt w P W f)(i:Int):
  Calls prog 98 #[.pointer (some ⟨P.s,0,none⟩),.int .i64 i] w λ e w'=>e=.returned (.bool (CZ f (P.n/2) i))/\Kp Ag w w':=by
 have HS:=sE (Starts_at P W f w hsp)
 clear hsp
 go_enter func98,ntmps98
 go_wp2_with fail
 refine HS.out.mono ?_
 rintro e w1 ⟨p,q,rfl,-,-,hb,k1⟩
 have HH:=sE (Has_int i (P.n/2) p q f w1 hb)
 have HK:=sE k1
 clear hb k1
 go_wp2_with fail
 refine HH.out.mono ?_
 rintro e w2 ⟨rfl,k2⟩
 go_wp2
 go_ret
 exact⟨rfl,HK.out.then' k2⟩

theorem hasI_obj{P:Sp}{W:Nat->Nat}{f:Nat->Bool}{cs:List Cel}(hc:CellsAt P W cs)(hst:∀ i,i<P.n/2->f i=Av cs i)(i:Int):CZ f (P.n/2) i=true ↔ ∃ g:Nat,i=(g:Int)/\BJ cs g:=by
 unfold CZ
 rw[Bool.and_eq_true,decide_eq_true_eq]
 constructor
 .rintro ⟨⟨h1,h2⟩,h3⟩
  refine⟨i.toNat,by omega,?_⟩
  rw[hst _ (by omega)] at h3
  exact Cy.2 h3
 .rintro ⟨g,rfl,h⟩
  have:=Cs hc h
  refine⟨by omega,?_⟩
  rw[Int.toNat_natCast,hst _ this]
  exact Cy.1 h

theorem Cw.chain{es:List (Nat×Nat×Nat)}{ns:List Nat}{D:Nat->Option Nat}(h:Cw es ns D):∀ (n g:Nat),D g=some n->∀ k,k<=n->∃ x,D x=some k
 |0,g,hg,k,hk=>⟨g,by
  obtain rfl:k=0:=by omega
  exact hg⟩
 |n+1,g,hg,k,hk=>by
  by_cases e:k=n+1
  .exact ⟨g,by rw[hg,e]⟩
  .obtain ⟨h1,h2⟩:=(h g (n+1)).1 hg
   generalize h0:n+1=m at h1
   cases h1 with
   |root h=>omega
   |@step j x hs he=>
    obtain rfl:n=j:=by omega
    exact h.chain n x.1 ((h _ _).2 ⟨hs,λ m hm=>by have:=h2 (m+1) (.step hm he);omega⟩) k (by omega)

theorem distN_lt{es:List (Nat×Nat×Nat)}{ns:List Nat}{D:Nat->Option Nat}{H:Nat}(h:Cw es ns D)(hn:∀ g∈ns,g<H)(he:∀ x∈es,x.2.2<H){g n:Nat}(hg:D g=some n):n<H:=by
 have hlt:∀ x,(D x).isSome=true->x<H:=λ x hx=>h.to (T:=λ x=>x<H) hn he hx
 have hc:∀ k,∃ x,k<=n->D x=some k:=λ k=>by
  by_cases hk:k<=n
  .obtain ⟨x,hx⟩:=h.chain n g hg k hk
   exact⟨x,λ _=>hx⟩
  .exact ⟨0,λ h=>absurd h hk⟩
 let F:Nat->Nat:=λ k=>(hc k).choose
 have hF:∀ k,k<=n->D (F k)=some k:=λ k=>(hc k).choose_spec
 have h1:=nodup_lt H ((List.range (n+1)).map F) (by
  refine List.pairwise_map.2 (List.nodup_range.imp_of_mem λ {a b} ha hb hab e=>hab ?_)
  have h1:=hF a (by have:=List.mem_range.1 ha;omega)
  have h2:=hF b (by have:=List.mem_range.1 hb;omega)
  rw[e,h2] at h1
  injection h1 with h1
  exact h1.symm) (λ x hx=>by
  obtain⟨k,hk,rfl⟩:=List.mem_map.1 hx
  exact hlt _ (by rw[hF k (by have:=List.mem_range.1 hk;omega)];rfl))
 simp at h1
 omega

theorem find_ix{α:Type}{p:α->Bool}{l:List α}{i:Nat}{y:α}(h:l[i]?=some y)(hn:∀ e∈l.take i,p e=false)(hy:p y=true):l.find? p=some y:=by
 have hi:=(gE.1 h).1
 have e1:l=l.take i++y::l.drop (i+1):=by
  rw[List.getElem?_eq_getElem hi] at h
  injection h with h
  rw[<- h,<- List.drop_eq_getElem_cons hi,List.take_append_drop]
 rw[e1,List.find?_append,List.find?_eq_none.2 (λ e he=>by rw[hn e he];simp)]
 simp[hy]

theorem wayL_len(es:List (Nat×Nat×Nat))(D:Nat->Option Nat):∀ (n g:Nat),(E5 es D n g).length<=n
 |0,g=>Nat.le_refl _
 |n+1,g=>by
  unfold E5
  split
  .rename_i e _
   rw[List.length_append]
   have:=wayL_len es D n e.1
   simpa using this
  .simp

def WayEnv(w:World)(bg bw gb:Nat)(es:List (Nat×Nat×Nat))(D:Nat->Option Nat):Prop:=
 w.heap[bg]?=some (.cells #[.pointer (some ⟨gb,0,none⟩)] 177 (0,0))/\w.heap[bw]?=some (.cells #[.func (.func 99) #[] #[.pointer (some ⟨bg,0,none⟩),.pointer (some ⟨bw,0,none⟩)]] 194 (0,0))/\GraphAt w gb es D

theorem WayEnv.Am{w w':World}{bg bw gb:Nat}{es:List (Nat×Nat×Nat)}{D:Nat->Option Nat}(h:WayEnv w bg bw gb es D)(k:Kp Ag w w'):WayEnv w' bg bw gb es D:=⟨k.at_ h.1 (λ h=>h),k.at_ h.2.1 (λ h=>h),h.2.2.Am k⟩

set_option maxRecDepth 20000 in
theorem WWay1_at(es:List (Nat×Nat×Nat))(D:Nat->Option Nat)(bg bw gb:Nat)(hE:∀ x∈es,x.1<65536)(hEl:es.length<=2147483648):∀ (n g:Nat) (w:World),WayEnv w bg bw gb es D->D g=some n->g<65536->n<65536->
  Calls prog 99 #[.int .i64 (g:Nat),.pointer (some ⟨bg,0,none⟩),.pointer (some ⟨bw,0,none⟩)] w λ e w'=>∃ v,e=.returned v/\w'.ownsRow w.heap.size 70 3 v (E5 es D n g).length (Cq (E5 es D n g))/\Kp Ag w w'
 |0,g,w,hV,hD,hg,hn=>by
  obtain⟨h1,-,h3⟩:=hV
  obtain⟨mo,mi,mf,n,co,ci,hgb,-,-,hm⟩:=h3
  obtain⟨gc0,gc1,gc2⟩:=Dl hgb
  have c0:=cell_of_one h1
  have hlk:=hm.look (g:=g) (by omega) Bb (zeroFar _)
  have hfv:Cu D g=some (.int .i64 ((0:Nat):Int)):=by unfold Cu;rw [hD];rfl
  rw[hfv] at hlk
  have hlk':(Instr.lookup 181 (.map (some mf)) (.int .i64 (g:Nat)) false).run prog w=.ok (.int .i64 0) w:=hlk
  clear h1 hgb hm hlk hfv
  go_enter func99,ntmps99
  go_wp2
  go_ret
  exact⟨_,rfl,World.ownsRow_nil _ _ _ _,Kr _ _⟩
 |n+1,g,w,hV,hD,hg,hn=>by
  have HIH:=sE (λ (g':Nat) (w':World) (h1:WayEnv w' bg bw gb es D) (h2:D g'=some n) (h3:g'<65536)=>WWay1_at es D bg bw gb hE hEl n g' w' h1 h2 h3 (by omega))
  have HV:=sE hV
  obtain⟨h1,h2,h3⟩:=hV
  obtain⟨mo,mi,mf,nn,co,ci,hgb,-,⟨hmi,hri⟩,hm⟩:=h3
  obtain⟨gc0,gc1,gc2⟩:=Dl hgb
  have c0:=cell_of_one h1
  have hlx:∀ W',Kp Ag w W'->(Instr.lookup 181 (.map (some mf)) (.int .i64 (g:Nat)) false).run prog W'=.ok (.int .i64 ((n:Int)+1)) W':=λ W' kk=>by
   have:=(hm.keep kk (λ h=>h)).look (g:=g) (by omega) Bb (zeroFar _)
   have hfv:Cu D g=some (.int .i64 ((n:Int)+1)):=by unfold Cu;rw [hD];rfl
   rwa [hfv] at this
  have hl0:=hlx w (Kr _ _)
  have hli:=hmi.look (g:=g) (by omega) Bh (EZ _)
  have hR:=hri g
  obtain⟨rv,hrv⟩:∃ v,(ci g).getD (.slice none 0 0)=v:=⟨_,rfl⟩
  rw[hrv] at hli hR
  obtain⟨ra,rc,rfl,hcells⟩:=hR
  obtain⟨N,hN⟩:∃ N,(inE es g).length=N:=⟨_,rfl⟩
  have hNl:N<=2147483648:=by
   have h2:(inE es g).length<=es.length:=List.length_filter_le _ _
   omega
  rw[hN] at hli
  have HN:=sE hN
  have HCe:=sE hcells
  have HM:=sE hm
  have HGb:=sE hgb
  have HB1:=sE h1
  have HB2:=sE h2
  have HLx:=sE hlx
  have e0:(((n:Int)+1)==0)=false:=by rw[beq_eq_false_iff_ne];omega
  clear h1 h2 hgb hm hlx hmi hri hcells hrv hN hD
  go_enter func99,ntmps99
  go_wp2_with fail
  go_loopw [23] (λ x23 wr=>∃ i:Nat,i<=N/\x23=.int .i64 (i:Nat)/\(∀ e∈(inE es g).take i,¬ D e.1=some n)/\Kp Ag w wr) (λ x23 _=>N-(intOf x23).toNat)
  case atStart=>exact ⟨0,Nat.zero_le _,rfl,λ e he=>by simp at he,Kr _ _⟩
  case round=>
   obtain⟨i,hi,rfl,hno,hkk⟩:=hrel
   have HNo:=sE hno
   have HKK:=sE hkk
   by_cases hil:i<N
   .have hil':(i:Int)<(N:Int):=by omega
    obtain⟨y,hy⟩:∃ y,(inE es g)[i]?=some y:=⟨(inE es g)[i]'(by rw[HN.out];exact hil),by simp⟩
    have hym:=mem_inE.1 (List.mem_of_getElem? hy)
    have hyH:=hE y hym.1
    obtain⟨eb,heb,heb0,y0,y1,y2⟩:=HCe.out i y hy
    subst heb
    have y0:=hkk.cell y0 (λ h=>h)
    have y1:=hkk.cell y1 (λ h=>h)
    have y2:=hkk.cell y2 (λ h=>h)
    have HY:=sE (And.intro hy hym)
    clear hno hkk hy hym gc0 gc1 gc2 c0
    go_wp2_with fail
    obtain⟨wA,hwA⟩:∃ wA,wA=wr.alloc (.cells #[.int .i64 (y.1:Nat),.int .i64 (y.2.1:Nat),.int .i64 (y.2.2:Nat)] 70):=⟨_,rfl⟩
    have kA:Kp Ag wr wA:=by rw[hwA];exact (Kr _ wr).alloc _
    have bA:wA.heap[wr.heap.size]?=some (.cells #[.int .i64 (y.1:Nat),.int .i64 (y.2.1:Nat),.int .i64 (y.2.2:Nat)] 70 (0,0)):=by rw[hwA];exact wN wr _
    rw[<- hwA]
    obtain⟨xb,hxb⟩:∃ b,wr.heap.size=b:=⟨_,rfl⟩
    rw[hxb] at bA ⊢
    have KA:Kp Ag w wA:=HKK.out.then' kA
    obtain⟨g0,g1,g2⟩:=Dl (KA.at_ HGb.out (λ h=>h))
    have cb:=cell_of_one (KA.at_ HB1.out (λ h=>h))
    have cw:=cell_of_one (KA.at_ HB2.out (λ h=>h))
    obtain⟨e0',e1',e2'⟩:=cells3 bA
    have HKA:=sE KA
    have hlk:∀ nq,(Instr.lookup 181 (.map (some mf)) (.int .i64 (y.1:Nat)) true).run prog (wA.drewN nq)=.ok (.tuple #[(Cu D y.1).getD (.int .i64 0),.bool (Cu D y.1).isSome]) (wA.drewN nq):=λ nq=>(HM.out.keep (S:=Ag) (KA.then' (Kp.Ap nq)) (λ h=>h)).lookOk (g:=y.1) (by omega) Bb (zeroFar _)
    have hl2:∀ nq,(Instr.lookup 181 (.map (some mf)) (.int .i64 (g:Nat)) false).run prog (wA.drewN nq)=.ok (.int .i64 ((n:Int)+1)) (wA.drewN nq):=λ nq=>HLx.out _ (KA.then' (Kp.Ap nq))
    have wr1:IntKind.i64.wrap ((n:Int)+1-1)=(n:Int):=by rw[IntKind.wrap_i64];omega
    clear hwA bA y0 y1 y2 KA kA
    cases hD:D y.1 with
    |none=>
     have hfv:Cu D y.1=none:=by unfold Cu;rw [hD];rfl
     rw[hfv] at hlk
     simp only[Option.getD_none,Option.isSome_none] at hlk
     have HNx:Sl (∀ e∈(inE es g).take (i+1),¬ D e.1=some n):=⟨λ e he=>by
      rw[List.take_add_one,HY.out.1,List.mem_append] at he
      rcases he with he|he
      .exact HNo.out e he
      .simp at he
       rw[he,hD]
       simp⟩
     clear hD hfv
     go_quiet (fail)
     go_wp2
     exact⟨⟨i+1,by omega,by go_num,HNx.out,HKA.out.then' (Kp.Ap _)⟩,by simp only[intOf];omega⟩
    |some k=>
     have hfv:Cu D y.1=some (.int .i64 (k:Nat)):=by unfold Cu;rw [hD];rfl
     rw[hfv] at hlk
     simp only[Option.getD_some,Option.isSome_some] at hlk
     by_cases hkn:k=n
     .subst hkn
      have HD:=sE hD
      have HWy:Sl (E5 es D (k+1) g=E5 es D k y.1++[y]):=⟨by
       have hf:(inE es g).find? (λ e=>D e.1==some k)=some y:=find_ix HY.out.1 (λ e he=>by
        have:=HNo.out e he
        simpa using this) (by rw[hD];simp)
       show (match (inE es g).find? (λ e=>D e.1==some k) with
        |some e=>E5 es D k e.1++[e]
        |none=>[])=_
       rw[hf]⟩
      have hkk2:((k:Int)==(k:Int))=true:=by simp
      clear hD hfv
      go_quiet (fail)
      go_wp2_with fail
      obtain⟨wB,hwB⟩:∃ wB,wB=wA.drewN nq:=⟨_,rfl⟩
      have kB:Kp Ag wA wB:=by rw[hwB];exact Kp.Ap _
      rw[<- hwB]
      have cw:=Al kB cw
      have e0':=Al kB e0'
      have e1':=Al kB e1'
      have e2':=Al kB e2'
      have KB:Kp Ag w wB:=HKA.out.then' kB
      have HKB:=sE KB
      have hzw:=KB.size
      have hxz:=lt_of_cell e0'
      have hbw:=lZ HB2.out
      clear hwB kB hlk hl2 KB g0 g1 g2 cb
      refine wp_region_held_drew (S:=λ w'=>w'.cell? ⟨bw,0,none⟩=some (.func (.func 99) #[] #[.pointer (some ⟨bg,0,none⟩),.pointer (some ⟨bw,0,none⟩)])/\w'.cell? ⟨xb,0,none⟩=some (.int .i64 (y.1:Nat))/\w'.cell? ⟨xb,1,none⟩=some (.int .i64 (y.2.1:Nat))/\w'.cell? ⟨xb,2,none⟩=some (.int .i64 (y.2.2:Nat))) (by kernel_rfl) ?_ (λ qZ=>?_)
      .exact ⟨cw,e0',e1',e2'⟩
      refine AB 0 ?_;refine AB 1 ?_;refine AB 2 ?_;refine AB 4 ?_
      try simp only[AJ]
      have kd:Kp Ag wB wB.drew:=(Kr _ _).drew
      refine Bj [3,5] ?_
      refine Aq rfl (λ K hK=>?_) (Ao rfl (λ K hK=>?_))
      go_simp
      go_at_call 99
      (with_reducible refine(HIH.out y.1 _ (HV.out.Am (HKB.out.then' kd)) HD.out (by omega)).mono ?_)
      rintro e w3 ⟨v,rfl,ho,k3⟩
      have K3:Kp Ag wB w3:=kd.then' k3
      refine hK _ _ ?_ (λ qZ=>?_)
      .exact ⟨Al K3 cw,Al K3 e0',Al K3 e1',Al K3 e2'⟩
      clear hK K
      try simp only[AJ]
      refine Bj [5] ?_
      refine Ao rfl (λ K hK=>?_)
      go_simp
      obtain⟨w6,hw6⟩:∃ w6,w6=w3.alloc (.cells #[.int .i64 (y.1:Nat),.int .i64 (y.2.1:Nat),.int .i64 (y.2.2:Nat)] 70):=⟨_,rfl⟩
      obtain⟨nb,hnb⟩:∃ b,w3.heap.size=b:=⟨_,rfl⟩
      have k36:Kp Ag w3 w6:=by rw[hw6];exact (Kr _ w3).alloc _
      have bn:w6.heap[nb]?=some (.cells #[.int .i64 (y.1:Nat),.int .i64 (y.2.1:Nat),.int .i64 (y.2.2:Nat)] 70 (0,0)):=by rw[hw6,<- hnb];exact wN w3 _
      rw[<- hw6]
      try rw[hnb]
      have K6:Kp Ag wB w6:=K3.then' k36
      have hnx:¬ v.ownBlock=some xb:=λ h=>by have:=(Ab ho h).1;have:=kd.size;omega
      have ho6:=Ec (Ac ho k36 (λ _ _ h=>h)) (base':=w.heap.size) (by have:=kd.size;omega)
      refine hK _ _ ?_ (λ qZ=>?_)
      .exact ⟨Al K6 cw,Al K6 e0',Al K6 e1',Al K6 e2'⟩
      clear hK K
      try simp only[AJ]
      clear hw6 hnb k36 K3 k3 ho
      rotate_left
      go_simp
      obtain⟨w2,hw2⟩:∃ w2,w2=(wB.alloc (.cells #[.int .i64 (y.1:Nat),.int .i64 (y.2.1:Nat),.int .i64 (y.2.2:Nat)] 70)).drew:=⟨_,rfl⟩
      obtain⟨nb,hnb⟩:∃ b,wB.heap.size=b:=⟨_,rfl⟩
      have k2:Kp Ag wB w2:=by rw[hw2];exact ((Kr _ wB).alloc _).drew
      have bn2:w2.heap[nb]?=some (.cells #[.int .i64 (y.1:Nat),.int .i64 (y.2.1:Nat),.int .i64 (y.2.2:Nat)] 70 (0,0)):=by rw[hw2,<- hnb];exact wN wB _
      try rw[<- hw2]
      try rw[hnb]
      refine hK _ _ ?_ (λ qZ=>?_)
      .exact ⟨Al k2 cw,Al k2 e0',Al k2 e1',Al k2 e2'⟩
      clear hK K
      try simp only[AJ]
      refine Bj [3] ?_
      refine Ao rfl (λ K hK=>?_)
      go_simp
      try rw[<- hw2]
      go_at_call 99
      (with_reducible refine(HIH.out y.1 _ (HV.out.Am (HKB.out.then' k2)) HD.out (by omega)).mono ?_)
      rintro e w6 ⟨v,rfl,ho,k3⟩
      have K6:Kp Ag wB w6:=k2.then' k3
      have bn:=k3.at_ bn2 (λ h=>h)
      have hnx:¬ v.ownBlock=some xb:=λ h=>by have:=(Ab ho h).1;have:=k2.size;omega
      have ho6:=Ec ho (base':=w.heap.size) (by have:=k2.size;omega)
      refine hK _ _ ?_ (λ qZ=>?_)
      .exact ⟨Al K6 cw,Al K6 e0',Al K6 e1',Al K6 e2'⟩
      clear hK K
      try simp only[AJ]
      clear hw2 hnb k2 bn2 k3 ho
      all_goals
       obtain⟨va,vc,rfl⟩:=Ba ho6
       have hwl:=wayL_len es D k y.1
       have hz6:=K6.size
       obtain⟨M,hM⟩:∃ M,(E5 es D k y.1).length=M:=⟨_,rfl⟩
       rw[hM] at ho6 hwl hnx ⊢
       obtain⟨i0,hi0,hz0,hz1,hz2⟩:=info_parts infoEdge
       refine Bj [6] ?_
       refine Ao rfl (λ K hK=>?_)
       refine Cj rfl rfl (.tmp 52) (.tmp 54) 47 rfl w.heap.size 70 i0 _ 3 24 Ck hi0 hz0 hz1 hz2 rfl (by omega) (.slice va M vc) M _ rfl ho6 ⟨nb,0,none⟩ 1 _ [.int .i64 (y.1:Nat),.int .i64 (y.2.1:Nat),.int .i64 (y.2.2:Nat)] rfl rfl (World.news_of_block bn) (by intro u hu;simp at hu;rcases hu with rfl|rfl|rfl <;> rfl) (by unfold maxLen;omega) (by omega) (by omega) ?_
       intro nv w7 hown7 hgrow hblk
       obtain⟨na,nc,rfl⟩:=Ba hown7
       clear hi0 hz0 hz1 hz2
       have KA:Kp (λ b=>(Value.slice va M vc).ownBlock=some b) w6 w7:=(Kr _ w6).grown hgrow (λ k e _=>e)
       have nw:¬ (Value.slice va M vc).ownBlock=some bw:=λ h=>by have:=(Ab ho6 h).1;omega
       have K7:Kp Ag w w7:=(HKB.out.then' K6).trans KA (λ b hb h=>by have:=(Ab ho6 h).1;omega)
       have HO7:Sl (w7.ownsRow w.heap.size 70 3 (.slice na (M+1) nc) (E5 es D (k+1) g).length (Cq (E5 es D (k+1) g))):=⟨by
        rw[HWy.out,flatE_app,List.length_append,hM]
        exact hown7⟩
       have a1:=KA.cell (Al K6 cw) nw
       have a2:=KA.cell (Al K6 e0') hnx
       have a3:=KA.cell (Al K6 e1') hnx
       have a4:=KA.cell (Al K6 e2') hnx
       refine hK _ _ ?_ (λ qZ=>?_)
       .exact ⟨a1,a2,a3,a4⟩
       clear hK K
       try simp only[AJ]
       refine AB 7 ?_
       try simp only[AJ]
       refine wpAnyH_done (by kernel_rfl) ?_ _
       have HK7:=sE K7
       clear KA nw K7 a1 a2 a3 a4 hown7 hgrow hblk ho6 qZ bn K6 hnx
       go_wp2
       go_ret
       exact⟨_,rfl,HO7.out,HK7.out⟩
     .have hkn':((k:Int)==(n:Int))=false:=by rw[beq_eq_false_iff_ne];omega
      have HNx:Sl (∀ e∈(inE es g).take (i+1),¬ D e.1=some n):=⟨λ e he=>by
       rw[List.take_add_one,HY.out.1,List.mem_append] at he
       rcases he with he|he
       .exact HNo.out e he
       .simp at he
        rw[he,hD]
        simpa using hkn⟩
      clear hD hfv
      go_quiet (fail)
      go_wp2
      exact⟨⟨i+1,by omega,by go_num,HNx.out,HKA.out.then' (Kp.Ap _)⟩,by simp only[intOf];omega⟩
   .have hil':¬ (i:Int)<(N:Int):=by omega
    obtain rfl:i=N:=by omega
    have HWy:Sl (E5 es D (n+1) g=[]):=⟨by
     have hf:(inE es g).find? (λ e=>D e.1==some n)=none:=List.find?_eq_none.2 λ e he=>by
      have:=hno e (by rw[List.take_of_length_le (by rw[HN.out];omega)];exact he)
      simpa using this
     show (match (inE es g).find? (λ e=>D e.1==some n) with
      |some e=>E5 es D n e.1++[e]
      |none=>[])=_
     rw[hf]⟩
    clear hno hkk
    go_wp2
    go_ret
    exact⟨_,rfl,by rw[HWy.out];exact World.ownsRow_nil _ _ _ _,HKK.out⟩

end

end Go.Proofs.YtpeipocojmjbfaaGreatDoor
