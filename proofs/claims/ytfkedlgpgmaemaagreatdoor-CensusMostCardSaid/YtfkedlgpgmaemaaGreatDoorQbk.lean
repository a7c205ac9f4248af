/-
  Lemmas for the laws, together: CenQ, CenV, CenW.
-/
import Derived.Test.YtfkedlgpgmaemaaGreatDoorQbj
import Derived.Test.YtfkedlgpgmaemaaGreatDoorQbf
import Derived.Maps.RangeWalk
set_option linter.unusedVariables false
set_option maxHeartbeats 16000000
namespace Go.Proofs.YtfkedlgpgmaemaaGreatDoor
open Tryz
section
open Go.RowKit

def BK(os:List Cel)(x:Nat):Cel:=(os.find? λ c=>c.g==x).getD ⟨0,0,0,0,0⟩

theorem celN_mem{os:List Cel}{x:Nat}:(BK os x∈os/\(BK os x).g=x)\/(BK os x=⟨0,0,0,0,0⟩/\∀ c∈os,¬ c.g=x):=by
 unfold BK
 cases e:os.find? λ c=>c.g==x with
 |some c=>exact .inl ⟨List.mem_of_find?_eq_some e,by simpa using List.find?_some e⟩
 |none=>exact .inr ⟨rfl,λ c hc=>by have:=List.find?_eq_none.1 e c hc;simpa using this⟩

theorem CellF.get{os:List Cel}{F:Nat->Option Value}(h:CellF os F)(x:Nat):(F x).getD (.agg #[.int .i64 0,.int .u8 0,.int .i64 0,.int .i64 0,.int .i64 0])=cellW (BK os x):=by
 rcases celN_mem (os:=os) (x:=x) with ⟨h1,h2⟩|⟨h1,h2⟩
 .have:=h.1 _ h1
  rw[h2] at this
  rw[this]
  rfl
 .rw [h.2 x h2,h1]
  rfl

def Bc(os:List Cel):List Nat->Nat
 |[]=>0
 |x::l=>(BK os x).sz+Bc os l

theorem sizeL_app(os:List Cel):∀ (l m:List Nat),Bc os (l++m)=Bc os l+Bc os m
 |[],m=>by simp[Bc]
 |x::l,m=>by
  show(BK os x).sz+Bc os (l++m)=(BK os x).sz+Bc os l+Bc os m
  rw[sizeL_app os l m]
  omega

theorem celN_le{os:List Cel}{K:Nat}(h:∀ c∈os,c.sz<=K)(x:Nat):(BK os x).sz<=K:=by
 rcases celN_mem (os:=os) (x:=x) with ⟨h1,-⟩|⟨h1,-⟩
 .exact h _ h1
 .rw [h1]
  exact Nat.zero_le _

theorem sizeL_le{os:List Cel}{K:Nat}(h:∀ c∈os,c.sz<=K):∀ l:List Nat,Bc os l<=l.length*K
 |[]=>by simp[Bc]
 |x::l=>by
  have h1:=celN_le h x
  have h2:=sizeL_le h l
  show(BK os x).sz+Bc os l<=(l.length+1)*K
  rw[Nat.add_mul]
  omega

noncomputable def keepsL (os:List Cel) (es:List (Nat×Nat×Nat)) (xs rs l:List Nat):List (Nat×Nat×Nat):=l.map λ g=>(g,(BK os g).sz,Bc os (keptL es xs rs g))

theorem run_field_head(a:Int)(b c d e:Int)(w:World):(Instr.field 113 (.agg #[.int .i64 a,.int .u8 b,.int .i64 c,.int .i64 d,.int .i64 e]) 1).run prog w=.ok (.agg #[.int .u8 b,.int .i64 c,.int .i64 d,.int .i64 e]) w:=by kernel_rfl

theorem run_field_sizeC(a b c d:Int)(w:World):(Instr.field 111 (.agg #[.int .u8 a,.int .i64 b,.int .i64 c,.int .i64 d]) 3).run prog w=.ok (.int .i64 d) w:=by kernel_rfl

theorem set3_2{w:World}{b:Nat}{a0 a1 a2:Value}{T:TypeId}(hb:w.heap[b]?=some (.cells #[a0,a1,a2] T (0,0)))(v:Value):(w.setCell ⟨b,2,none⟩ v).heap[b]?=some (.cells #[a0,a1,v] T (0,0)):=by
 rw[bZ hb]
 rfl

theorem FU:(prog.info? 67).map (λ i=>(i.zero,i.size,i.bytes))=some (some (.agg #[.int .i64 0,.int .i64 0,.int .i64 0]),3,24):=by kernel_rfl

theorem Eg:prog.underlying 34=some (.slice 67):=by kernel_rfl

def KeepsPost(os:List Cel)(es:List (Nat×Nat×Nat))(H:Nat)(xs:List Nat)(w:World)(e:Ending)(w':World):Prop:=
 ∃ fm v,(∀ g,fm g=true ↔ AA es xs g)/\e=.returned (.tuple #[v,.int .i64 0])/\w'.ownsRow w.heap.size 67 3 v (keepsL os es xs (Bb fm H) (Bb fm H)).length (BZ (keepsL os es xs (Bb fm H) (Bb fm H)))/\Kp Aa w w'

set_option maxRecDepth 20000 in
theorem CKeeps_at(P:Sp)(W:Nat->Nat)(f:Nat->Bool)(w:World)(cs:List Cel)(hsp:SpaceAt w P W f)(hc:CellsAt P W cs)(hne:cs≠[])(hst:∀ i,i<P.n/2->f i=Ap cs i)(hms:∀ x∈P.ts,x.m<18446744073709551616)(v:Value)(xs:List Nat)(hx:Bz w v xs)(hxo:∀ g∈xs,De cs g)(hxl:xs.length<=65536):
  Calls prog 13 #[.pointer (some ⟨P.s,0,none⟩),v] w (KeepsPost (Ak cs) (AP P.ts W cs) (P.n/2) xs w):=by
 obtain⟨va,vc,rfl,-⟩:=id hx
 have HOf:=sE (COf_at P W f w cs hsp hc hne hst hms _ xs hx hxo hxl)
 have hH65:P.n/2<=65536:=hsp.bt.small'
 have HKp:Sl (∀ b fm mp mq W',Kp Aa w W'->E8 W' b P.s (.slice va xs.length vc) (Ak cs) (AP P.ts W cs) mp mq (P.n/2) fm->∀ g,g<65536->Calls prog 54 #[.pointer (some ⟨b,0,none⟩),.int .i64 (g:Nat)] W' (AllPost (keptL (AP P.ts W cs) xs (Bb fm (P.n/2)) g) W')):=⟨λ b fm mp mq W' kk hp g hg=>CKept_at W' b P.s _ _ _ mp mq _ fm xs hp hH65 (λ e he=>DV hc (EF hc hst he).2.1) (Nat.le_trans (DC cs _) (hc.to.refs_len hsp.ar.small)) (hx.Ad kk) (λ x hx=>DV hc (hxo x hx)) hxl g hg (λ W'' k2=>EU P W f W'' (hsp.Ad (kk.then' k2)))⟩
 have HSz:Sl (∀ c∈Ak cs,c.sz<=65536):=⟨λ c hcc=>by
  have:=hc.tl.mem (AR.1 hcc).1
  omega⟩
 obtain⟨H,hH⟩:∃ H,P.n/2=H:=⟨_,rfl⟩
 obtain⟨es,hes⟩:∃ es,AP P.ts W cs=es:=⟨_,rfl⟩
 obtain⟨os,hos⟩:∃ os,Ak cs=os:=⟨_,rfl⟩
 obtain⟨L,hL⟩:∃ L,xs.length=L:=⟨_,rfl⟩
 rw[hes,hos,hH] at HOf HKp
 rw[hos] at HSz
 rw[hH] at hH65
 rw[hes,hos,hH]
 rw[hL] at HOf HKp ⊢
 clear hsp hc hst hms hx hxo hxl hne hH hes hos hL
 go_enter func13,ntmps13
 go_wp2_with fail
 refine HOf.out.mono ?_
 rintro e w1 ⟨b,mp,mq,fm,rfl,hp1,hfm,k1⟩
 have HP1:=sE hp1
 have HK1:=sE k1
 have HFm:=sE hfm
 clear hp1 k1 hfm
 have HAll:=sE (CAll_at w1 b P.s _ os es mp mq H fm HP1.out hH65)
 go_wp2_with fail
 refine HAll.out.mono ?_
 rintro e w2 ⟨qa,qc,rfl,ho2,k2⟩
 have hQH:(Bb fm H).length<=65536:=Nat.le_trans (setL_len fm H) hH65
 have HQlt:Sl (∀ y∈Bb fm H,y<H):=⟨λ y hy=>setL_lt y hy⟩
 have HLn:Sl (∀ y,(keptL es xs (Bb fm H) y).length<=65536):=⟨λ y=>Nat.le_trans (List.length_filter_le _ _) hQH⟩
 obtain⟨Q,hQ⟩:∃ Q,Bb fm H=Q:=⟨_,rfl⟩
 have HQ:=sE hQ
 rw[hQ] at ho2 hQH HQlt HLn ⊢
 have HKp2:Sl (∀ W',Kp Aa w1 W'->∀ g,g<65536->Calls prog 54 #[.pointer (some ⟨b,0,none⟩),.int .i64 (g:Nat)] W' (AllPost (keptL es xs Q g) W')):=⟨λ W' kk g hg=>by
  rw[<- HQ.out]
  exact HKp.out b fm mp mq W' (HK1.out.then' kk) (HP1.out.Ad kk) g hg⟩
 obtain⟨M,hM⟩:∃ M,Q.length=M:=⟨_,rfl⟩
 rw[hM] at ho2 hQH ⊢
 have HM:=sE hM
 have HO2:=sE ho2
 have HK12:=sE k2
 obtain⟨B,hB⟩:∃ B,w2.heap.size=B:=⟨_,rfl⟩
 have HBs:Sl (w2.heap.size=B):=⟨hB⟩
 have hwB:w.heap.size<=B:=by have:=HK1.out.size;have:=k2.size;omega
 obtain⟨mc,mo,n,co,F,hgp,hmc,hF,-,-⟩:=HP1.out
 have HG:=sE hgp
 have HLk:Sl (∀ W' (x:Nat),Kp Aa w1 W'->x<65536->(Instr.lookup 118 (.map (some mc)) (.int .i64 (x:Nat)) false).run prog W'=.ok (cellW (BK os x)) W'):=⟨λ W' x kk hx=>by
  have:=(hmc.keep kk (λ h=>h)).look (g:=x) (by omega) Ci (zeroCell _)
  rwa [hF.get] at this⟩
 clear ho2 k2 hM hQ hB HAll HOf HKp hgp hmc hF
 go_wp2_with fail
 go_loopw [4,24] (λ x4 x24 wr=>∃ (j:Nat),x24=.int .i64 (j:Nat)/\j<=M/\wr.ownsRow B 67 3 x4 j (BZ (keepsL os es xs Q (Q.take j)))/\Kp Aa w2 wr) (λ _ x24 _=>M-(intOf x24).toNat)
 case atStart=>exact ⟨0,rfl,Nat.zero_le _,World.ownsRow_nil _ _ _ _,Kr _ _⟩
 case round=>
  obtain⟨j,rfl,hj,ho,hk⟩:=hrel
  obtain⟨wo,rfl⟩:∃ wo:World,wo=wr:=⟨_,rfl⟩
  have HOj:=sE ho
  have HKj:=sE hk
  have hzj:=hk.size
  rw[HBs.out] at hzj
  obtain⟨ra,rc,rfl⟩:=AJ ho
  by_cases hjl:j<M
  .have hjl':(j:Int)<(M:Int):=by omega
   obtain⟨y,hy⟩:∃ y,Q[j]?=some y:=⟨_,List.getElem?_eq_getElem (by rw[HM.out];exact hjl)⟩
   obtain⟨bb,hbb,x0⟩:=Cw (Ag HO2.out hk (λ _ _ h=>h)) hy
   subst hbb
   have hyH:=HQlt.out y (List.mem_of_getElem? hy)
   have K1r:Kp Aa w1 wo:=HK12.out.then' hk
   have HK1r:=sE K1r
   have hlk:=HLk.out wo y K1r (by omega)
   obtain⟨-,-,g2,-,-⟩:=Dj (K1r.at_ HG.out (λ h=>h))
   have hfd:=run_field_head
   have hfs:=run_field_sizeC
   obtain⟨cy,hcy⟩:∃ c,BK os y=c:=⟨_,rfl⟩
   rw[hcy] at hlk
   have hlk':(Instr.lookup 118 (.map (some mc)) (.int .i64 (y:Nat)) false).run prog wo=.ok (.agg #[.int .i64 (cy.g:Nat),.int .u8 (cy.tag:Nat),.int .i64 (cy.ty:Nat),.int .i64 (cy.ln:Nat),.int .i64 (cy.sz:Nat)]) wo:=hlk
   have HY:=sE hy
   have HCy:=sE hcy
   clear ho hk hy K1r hlk hcy
   obtain⟨wA,hwA⟩:∃ wA,wA=wo.alloc (.cells #[.int .i64 (y:Nat),.int .i64 (cy.sz:Nat),.int .i64 0] 67):=⟨_,rfl⟩
   have kA:Kp Aa wo wA:=by rw[hwA];exact (Kr _ wo).alloc _
   obtain⟨kb,hkb⟩:∃ m,wo.heap.size=m:=⟨_,rfl⟩
   have bA:wA.heap[kb]?=some (.cells #[.int .i64 (y:Nat),.int .i64 (cy.sz:Nat),.int .i64 0] 67 (0,0)):=by rw[hwA,<- hkb];exact wN wo _
   have HKA:=sE kA
   have HBA:=sE bA
   have hzA:=lZ bA
   have HCal:=sE (HKp2.out wA (HK1r.out.then' kA) y (by omega))
   clear kA bA
   go_wp2_with fail
   try rw[<- hwA]
   try rw[hkb]
   clear hwA hlk' g2 hfd
   refine HCal.out.mono ?_
   rintro e w4 ⟨ka,kc,rfl,ho4,k4⟩
   have HSl:=HLn.out y
   obtain⟨K,hK⟩:∃ K,keptL es xs Q y=K:=⟨_,rfl⟩
   rw[hK] at ho4 HSl ⊢
   obtain⟨N,hN⟩:∃ N,K.length=N:=⟨_,rfl⟩
   rw[hN] at ho4 HSl ⊢
   have HN:=sE hN
   have HKe:=sE hK
   have HKm:Sl (∀ x∈K,x<65536):=⟨λ x hx=>by
    rw[<- hK] at hx
    have:=HQlt.out x (mem_keptL.1 hx).1
    omega⟩
   have HO4:=sE ho4
   have K14:Sl (Kp Aa w1 w4):=⟨HK1r.out.then' (HKA.out.then' k4)⟩
   have Kr4:Sl (Kp Aa wo w4):=⟨HKA.out.then' k4⟩
   have HB4:=sE (k4.at_ HBA.out (λ h=>h))
   have hz4:=k4.size
   clear ho4 k4 hK hN
   go_wp2_with fail
   go_loopw [42] (λ x42 wi=>∃ (i:Nat),x42=.int .i64 (i:Nat)/\i<=N/\wi.heap[kb]?=some (.cells #[.int .i64 (y:Nat),.int .i64 (cy.sz:Nat),.int .i64 ((Bc os (K.take i):Nat):Int)] 67 (0,0))/\Kp (λ k=>k=kb) w4 wi) (λ x42 _=>N-(intOf x42).toNat)
   case atStart=>exact ⟨0,rfl,Nat.zero_le _,HB4.out,Kr _ _⟩
   case round=>
    obtain⟨i,rfl,hi,hb,hki⟩:=hrel
    have HBi:=sE hb
    have HKi:=sE hki
    obtain⟨c0,c1,c2⟩:=cells3 hb
    have K1i:Kp Aa w1 wr:=K14.out.trans hki (λ k hk h=>by have h':k=kb:=h;have:=HK1r.out.size;omega)
    by_cases hil:i<N
    .have hil':(i:Int)<(N:Int):=by omega
     obtain⟨z,hz⟩:∃ z,K[i]?=some z:=⟨_,List.getElem?_eq_getElem (by rw[HN.out];exact hil)⟩
     obtain⟨zb,hzb,z0⟩:=Cw (Ag HO4.out hki (λ k hk h=>by have h':k=kb:=h;have:=(Ae HO4.out hk).1;omega)) hz
     subst hzb
     have hzK:=HKm.out z (List.mem_of_getElem? hz)
     obtain⟨cz,hcz⟩:∃ c,BK os z=c:=⟨_,rfl⟩
     have hlk:∀ nq,(Instr.lookup 118 (.map (some mc)) (.int .i64 (z:Nat)) false).run prog (wr.drewN nq)=.ok (.agg #[.int .i64 (cz.g:Nat),.int .u8 (cz.tag:Nat),.int .i64 (cz.ty:Nat),.int .i64 (cz.ln:Nat),.int .i64 (cz.sz:Nat)]) (wr.drewN nq):=λ nq=>by
      have:=HLk.out (wr.drewN nq) z (K1i.then' (Kp.Ah nq)) hzK
      rw[hcz] at this
      exact this
     obtain⟨-,-,g2,-,-⟩:=Dj (K1i.at_ HG.out (λ h=>h))
     have hfd:=run_field_head
     have hfz:=Ab hb 2
     have hsz:=sizeL_le HSz.out (K.take i)
     have hcl:=celN_le HSz.out z
     rw[hcz] at hcl
     have hSe:Bc os (K.take (i+1))=Bc os (K.take i)+cz.sz:=by
      rw[List.take_add_one,hz,sizeL_app]
      show _+((BK os z).sz+0)=_
      rw[hcz]
      rfl
     have hsz2:Bc os (K.take i)<=65536*65536:=Nat.le_trans hsz (Nat.mul_le_mul_right _ (by rw[List.length_take];omega))
     obtain⟨S,hS⟩:∃ S,Bc os (K.take i)=S:=⟨_,rfl⟩
     rw[hS] at c2 hSe hsz2
     have HSe:=sE hSe
     have hwr:IntKind.i64.wrap ((S:Int)+(cz.sz:Int))=((S+cz.sz:Nat):Int):=by rw[IntKind.wrap_i64];omega
     clear hb hki K1i hz hcz hsz hSe
     go_wp2_with fail
     refine Bj 12 (by kernel_rfl) (by kernel_rfl) ?_
     simp only[List.take_succ_cons,List.take_zero,List.drop_succ_cons,List.drop_zero]
     repeat (go_big_quiet_step (fail))
     refine wpQuiet_nil ?_
     intro _ hw'
     obtain⟨nq,hw''⟩:=hw'
     subst hw''
     go_wp2_with fail
     have kq:Kp (λ k=>k=kb) wr ((wr.drewN nq).setCell ⟨kb,2,none⟩ (.int .i64 ((S+cz.sz:Nat):Int))):=((Kr (λ k=>k=kb) wr).drewN _).setCell (λ _=>rfl) _
     refine⟨⟨i+1,by go_num,by omega,?_,HKi.out.trans kq (λ _ _ h=>h)⟩,by simp only[intOf];omega⟩
     rw[HSe.out]
     exact set3_2 (w:=wr.drewN nq) HBi.out _
    .obtain rfl:i=N:=by omega
     have hil':¬ (i:Int)<(i:Int):=by omega
     have hSe:Bc os (K.take i)=Bc os K:=by rw[List.take_of_length_le (by rw[HN.out];omega)]
     rw[hSe] at c2 hb
     have hwK:Kp Aa wo wr:=Kr4.out.trans hki (λ k hk h=>by have h':k=kb:=h;omega)
     have HwK:=sE hwK
     have HOk:=sE (Ag HOj.out hwK (λ _ _ h=>h))
     have hzk:=hwK.size
     have HTk:Sl (keepsL os es xs Q (Q.take (j+1))=keepsL os es xs Q (Q.take j)++[(y,cy.sz,Bc os K)]):=⟨by
      rw[List.take_add_one,HY.out]
      unfold keepsL
      rw[List.map_append]
      show _++[(y,(BK os y).sz,Bc os (keptL es xs Q y))]=_
      rw[HCy.out,HKe.out]⟩
     obtain⟨S,hS⟩:∃ S,Bc os K=S:=⟨_,rfl⟩
     rw[hS] at c2 HTk
     clear hb hki K1i hSe hwK hS
     go_wp2_with (at_builtin;obtain ⟨i0,hi0,hz0,hz1,hz2⟩:=info_parts FU;go_loud (refine wpList_append_lies _ rfl (.tmp 59) (.tmp 61) 34 rfl B 67 i0 _ 3 24 Eg hi0 hz0 hz1 hz2 rfl (by omega) (.slice ra j rc) j _ rfl (HOk.out.alloc _) ⟨wr.heap.size,0,none⟩ 1 1 [.int .i64 (y:Nat),.int .i64 (cy.sz:Nat),.int .i64 (S:Nat)] rfl rfl (World.news_of_block (wN wr _)) (by intro u hu;simp at hu;rcases hu with rfl|rfl|rfl <;> rfl) (by omega) (by unfold maxLen;omega) (by omega) (by first|(simp;done)|(simp;omega)) (wr.heap.size+1) (by simp) ?_);intro gn capn w9 hown9 hgrow hat hlt;clear hi0 hz0 hz1 hz2;have HGw:=sE hgrow;have HR9:=sE hown9;clear hown9 hgrow hat hlt)
     have k9:Kp Aa w2 w9:=(HKj.out.then' (HwK.out.alloc _)).grown HGw.out (λ k e hk=>by have:=(Ae HOk.out e).1;have:=HBs.out;omega)
     refine⟨⟨j+1,by go_num,by omega,?_,k9⟩,by simp only[intOf];omega⟩
     rw[HTk.out,flatE_app]
     exact HR9.out
  .obtain rfl:j=M:=by omega
   have hjl':¬ (j:Int)<(j:Int):=by omega
   have hTk:Q.take j=Q:=List.take_of_length_le (by rw[HM.out];omega)
   rw[hTk] at HOj
   have hln:(keepsL os es xs Q Q).length=j:=by unfold keepsL;rw [List.length_map,HM.out]
   have HLe:=sE hln
   clear ho hk hTk hln
   go_wp2
   go_ret2
   refine⟨fm,.slice ra j rc,HFm.out,rfl,?_,HK1.out.then' (HK12.out.then' HKj.out)⟩
   rw[HQ.out,HLe.out]
   exact Cu HOj.out hwB

end

section
open Go.RowKit

theorem Index_nats(w:World)(a:Option Addr)(c:Nat)(l:List Nat)(x:Nat)(hx:Bz w (.slice a l.length c) l)(hl:l.length<=65536):
  Calls prog 112 #[.slice a l.length c,.int .i64 (x:Nat)] w λ e w'=>∃ i:Int,e=.returned (.int .i64 i)/\(0<=i ↔ x∈l)/\Kp Aa w w':=by
 obtain⟨a',c',hac,hcells⟩:=hx
 obtain rfl:a=a':=by injection hac
 obtain⟨N,hN⟩:∃ N,l.length=N:=⟨_,rfl⟩
 have HN:=sE hN
 have HC:=sE hcells
 rw[hN] at hl ⊢
 clear hac hcells hN
 go_enter func112,ntmps112
 go_wp2_with fail
 go_loopw [8] (λ z wr=>∃ j:Nat,j<=N/\z=.int .i64 (j:Nat)/\(∀ y∈l.take j,¬ x=y)/\Kp Aa w wr) (λ z _=>N-(intOf z).toNat)
 case atStart=>exact ⟨0,Nat.zero_le _,rfl,λ y hy=>by simp at hy,Kr _ _⟩
 case round=>
  obtain⟨j,hj,rfl,hne,hk⟩:=hrel
  have HNe:=sE hne
  have HK:=sE hk
  by_cases hjl:j<N
  .have hjl':(j:Int)<(N:Int):=by omega
   obtain⟨y,hy⟩:∃ y,l[j]?=some y:=⟨_,List.getElem?_eq_getElem (by rw[HN.out];exact hjl)⟩
   obtain⟨b,o,hbo,cy⟩:=HC.out j y hy
   subst hbo
   have cy:=Ac hk cy
   have HY:=sE hy
   by_cases e:x=y
   .have e1:((x:Int)==(y:Int))=true:=by simp[e]
    have HE:Sl (x∈l):=⟨by rw[e];exact List.mem_of_getElem? hy⟩
    clear hne hk hy e
    go_wp2
    go_ret
    exact⟨(j:Nat),rfl,⟨λ _=>HE.out,λ _=>by omega⟩,HK.out⟩
   .have e1:((x:Int)==(y:Int))=false:=by simp;omega
    clear hne hk hy
    go_wp2
    refine⟨⟨j+1,by omega,by go_num,λ z hz=>?_,HK.out⟩,by simp only[intOf];omega⟩
    rw[List.take_add_one,HY.out,List.mem_append] at hz
    rcases hz with hz|hz
    .exact HNe.out z hz
    .simp at hz
     rw[hz]
     exact e
  .obtain rfl:j=N:=by omega
   have hjl':¬ (j:Int)<(j:Int):=by omega
   clear hne hk
   go_wp2
   go_ret
   exact⟨-1,rfl,⟨λ h=>by omega,λ h=>absurd rfl (HNe.out x (by rw[List.take_of_length_le (by rw[HN.out];omega)];exact h))⟩,HK.out⟩

theorem Contains_nats(w:World)(a:Option Addr)(c:Nat)(l:List Nat)(x:Nat)(hx:Bz w (.slice a l.length c) l)(hl:l.length<=65536):
  Calls prog 59 #[.slice a l.length c,.int .i64 (x:Nat)] w λ e w'=>e=.returned (.bool (decide (x∈l)))/\Kp Aa w w':=by
 have HI:=sE (Index_nats w a c l x hx hl)
 obtain⟨N,hN⟩:∃ N,l.length=N:=⟨_,rfl⟩
 rw[hN] at HI ⊢
 clear hx hN
 go_enter func59,ntmps59
 go_wp2_with fail
 refine HI.out.mono ?_
 rintro e w1 ⟨i,rfl,hi,k1⟩
 have hd:decide (0<=i)=decide (x∈l):=by
  by_cases h:x∈l
  .rw [dT h,dT (hi.2 h)]
  .rw [dF h,dF (λ q=>h (hi.1 q))]
 have HD:=sE hd
 clear hi hd
 go_wp2
 go_ret
 refine⟨?_,k1⟩
 first
  |(rw [<- HD.out];rfl)
  |(rw [<- HD.out];simp)

noncomputable def overL (es:List (Nat×Nat×Nat)) (xs Q:List Nat) (g:Nat) (l:List Nat):List Nat:=l.filter λ x=> !(x==g)&&decide (g∈keptL es xs Q x)

def OverPost(os:List Cel)(es:List (Nat×Nat×Nat))(H:Nat)(xs:List Nat)(g:Nat)(w:World)(e:Ending)(w':World):Prop:=
 ((¬ ∃ c∈os,c.g=g)/\e=.returned (.tuple #[.slice none 0 0,.int .i64 2])\/
  (∃ c∈os,c.g=g)/\∃ fm a c,(∀ g,fm g=true ↔ AA es xs g)/\e=.returned (.tuple #[.slice a (overL es xs (Bb fm H) g (Bb fm H)).length c,.int .i64 0])/\w'.ownsRow w.heap.size 3 1 (.slice a (overL es xs (Bb fm H) g (Bb fm H)).length c) (overL es xs (Bb fm H) g (Bb fm H)).length (Az (overL es xs (Bb fm H) g (Bb fm H))))/\Kp Aa w w'

set_option maxRecDepth 20000 in
theorem COver_at(P:Sp)(W:Nat->Nat)(f:Nat->Bool)(w:World)(cs:List Cel)(hsp:SpaceAt w P W f)(hc:CellsAt P W cs)(hne:cs≠[])(hst:∀ i,i<P.n/2->f i=Ap cs i)(hms:∀ x∈P.ts,x.m<18446744073709551616)(g:Nat)(hg:g<65536)(v:Value)(xs:List Nat)(hx:Bz w v xs)(hxo:∀ g∈xs,De cs g)(hxl:xs.length<=65536):
  Calls prog 16 #[.pointer (some ⟨P.s,0,none⟩),.int .i64 (g:Nat),v] w (OverPost (Ak cs) (AP P.ts W cs) (P.n/2) xs g w):=by
 obtain⟨va,vc,rfl,-⟩:=id hx
 have HOf:=sE (COf_at P W f w cs hsp hc hne hst hms _ xs hx hxo hxl)
 have hH65:P.n/2<=65536:=hsp.bt.small'
 have HKp:Sl (∀ b fm mp mq W',Kp Aa w W'->E8 W' b P.s (.slice va xs.length vc) (Ak cs) (AP P.ts W cs) mp mq (P.n/2) fm->∀ g,g<65536->Calls prog 54 #[.pointer (some ⟨b,0,none⟩),.int .i64 (g:Nat)] W' (AllPost (keptL (AP P.ts W cs) xs (Bb fm (P.n/2)) g) W')):=⟨λ b fm mp mq W' kk hp g hg=>CKept_at W' b P.s _ _ _ mp mq _ fm xs hp hH65 (λ e he=>DV hc (EF hc hst he).2.1) (Nat.le_trans (DC cs _) (hc.to.refs_len hsp.ar.small)) (hx.Ad kk) (λ x hx=>DV hc (hxo x hx)) hxl g hg (λ W'' k2=>EU P W f W'' (hsp.Ad (kk.then' k2)))⟩
 obtain⟨H,hH⟩:∃ H,P.n/2=H:=⟨_,rfl⟩
 obtain⟨es,hes⟩:∃ es,AP P.ts W cs=es:=⟨_,rfl⟩
 obtain⟨os,hos⟩:∃ os,Ak cs=os:=⟨_,rfl⟩
 obtain⟨L,hL⟩:∃ L,xs.length=L:=⟨_,rfl⟩
 rw[hes,hos,hH] at HOf HKp
 rw[hH] at hH65
 rw[hes,hos,hH]
 rw[hL] at HOf HKp ⊢
 clear hsp hc hst hms hx hxo hxl hne hH hes hos hL
 go_enter func16,ntmps16
 go_wp2_with fail
 refine HOf.out.mono ?_
 rintro e w1 ⟨b,mp,mq,fm,rfl,hp1,hfm,k1⟩
 have HP1:=sE hp1
 have HK1:=sE k1
 have HFm:=sE hfm
 clear hp1 k1 hfm
 obtain⟨mc,mo,n,co,F,hgp,hmc,hF,-,-⟩:=HP1.out
 have HG:=sE hgp
 obtain⟨-,-,g2,-,-⟩:=Dj hgp
 have hlk:=hmc.lookOk (g:=g) (by omega) Ci (zeroCell _)
 rw[hF.get] at hlk
 obtain⟨cg,hcg⟩:∃ c,BK os g=c:=⟨_,rfl⟩
 rw[hcg] at hlk
 have hsome:∀ v,F g=v->((∃ u,v=some u)/\∃ c∈os,c.g=g)\/(v=none/\¬ ∃ c∈os,c.g=g):=λ v hv=>by
  rcases celN_mem (os:=os) (x:=g) with ⟨h1,h2⟩|⟨h1,h2⟩
  .have:=hF.1 _ h1
   rw[h2,hv] at this
   exact .inl ⟨⟨_,this⟩,⟨_,h1,h2⟩⟩
  .have:=hF.2 g h2
   rw[hv] at this
   exact .inr ⟨this,λ ⟨c,hc,e⟩=>h2 c hc e⟩
 obtain⟨fg,hfg⟩:∃ v,F g=v:=⟨_,rfl⟩
 have hsg:=hsome fg hfg
 rw[hfg] at hlk
 have hlk':(Instr.lookup 118 (.map (some mc)) (.int .i64 (g:Nat)) true).run prog w1=.ok (.tuple #[.agg #[.int .i64 (cg.g:Nat),.int .u8 (cg.tag:Nat),.int .i64 (cg.ty:Nat),.int .i64 (cg.ln:Nat),.int .i64 (cg.sz:Nat)],.bool fg.isSome]) w1:=hlk
 clear hlk hsome hF hmc hgp hfg hcg
 rcases hsg with ⟨⟨u,rfl⟩,hin⟩|⟨rfl,hno⟩
 case inr=>
  have HNo:=sE hno
  simp only[Option.isSome_none] at hlk'
  clear hno
  go_wp2
  go_ret2
  exact⟨.inl ⟨HNo.out,rfl⟩,HK1.out.alloc _⟩
 simp only[Option.isSome_some] at hlk'
 have HIn:=sE hin
 have HAll:Sl (∀ W',Kp Aa w1 W'->_):=⟨λ W' kk=>CAll_at W' b P.s _ os es mp mq H fm (HP1.out.Ad kk) hH65⟩
 clear hin
 obtain⟨wA,hwA⟩:∃ wA,wA=w1.alloc (.cells #[.int .i64 (cg.g:Nat),.int .u8 (cg.tag:Nat),.int .i64 (cg.ty:Nat),.int .i64 (cg.ln:Nat),.int .i64 (cg.sz:Nat)] 113):=⟨_,rfl⟩
 have kA:Kp Aa w1 wA:=by rw[hwA];exact (Kr _ w1).alloc _
 have HKA:=sE kA
 clear kA
 go_wp2_with fail
 try rw[<- hwA]
 clear hwA hlk' g2
 refine(HAll.out wA HKA.out).mono ?_
 rintro e w2 ⟨qa,qc,rfl,ho2,k2⟩
 have hQH:(Bb fm H).length<=65536:=Nat.le_trans (setL_len fm H) hH65
 have HQlt:Sl (∀ y∈Bb fm H,y<H):=⟨λ y hy=>setL_lt y hy⟩
 have HLn:Sl (∀ y,(keptL es xs (Bb fm H) y).length<=65536):=⟨λ y=>Nat.le_trans (List.length_filter_le _ _) hQH⟩
 obtain⟨Q,hQ⟩:∃ Q,Bb fm H=Q:=⟨_,rfl⟩
 have HQ:=sE hQ
 rw[hQ] at ho2 hQH HQlt HLn ⊢
 have HKp2:Sl (∀ W',Kp Aa w1 W'->∀ g,g<65536->Calls prog 54 #[.pointer (some ⟨b,0,none⟩),.int .i64 (g:Nat)] W' (AllPost (keptL es xs Q g) W')):=⟨λ W' kk g hg=>by
  rw[<- HQ.out]
  exact HKp.out b fm mp mq W' (HK1.out.then' kk) (HP1.out.Ad kk) g hg⟩
 obtain⟨M,hM⟩:∃ M,Q.length=M:=⟨_,rfl⟩
 rw[hM] at ho2 hQH ⊢
 have HM:=sE hM
 have HO2:=sE ho2
 have HK12:Sl (Kp Aa w1 w2):=⟨HKA.out.then' k2⟩
 obtain⟨B,hB⟩:∃ B,w2.heap.size=B:=⟨_,rfl⟩
 have HBs:Sl (w2.heap.size=B):=⟨hB⟩
 have hwB:w.heap.size<=B:=by have:=HK1.out.size;have:=HK12.out.size;omega
 clear ho2 k2 hM hQ hB HAll HOf HKp
 go_wp2_with fail
 go_loopw [6,36] (λ x6 x36 wr=>∃ (j:Nat),x36=.int .i64 (j:Nat)/\j<=M/\wr.ownsRow B 3 1 x6 (overL es xs Q g (Q.take j)).length (Az (overL es xs Q g (Q.take j)))/\Kp Aa w2 wr) (λ _ x36 _=>M-(intOf x36).toNat)
 case atStart=>exact ⟨0,rfl,Nat.zero_le _,World.ownsRow_nil _ _ _ _,Kr _ _⟩
 case round=>
  obtain⟨j,rfl,hj,ho,hk⟩:=hrel
  have HOj:=sE ho
  have HKj:=sE hk
  have hzj:=hk.size
  rw[HBs.out] at hzj
  obtain⟨R,hR⟩:∃ R,overL es xs Q g (Q.take j)=R:=⟨_,rfl⟩
  have hRl:R.length<=M:=by
   rw[<- hR]
   exact Nat.le_trans (List.length_filter_le _ _) (by rw[List.length_take];omega)
  rw[hR] at HOj
  obtain⟨rl,hrl⟩:∃ n,R.length=n:=⟨_,rfl⟩
  rw[hrl] at HOj hRl
  have HRl:=sE hrl
  have HR:=sE hR
  obtain⟨ra,rc,rfl⟩:=AJ HOj.out
  by_cases hjl:j<M
  .have hjl':(j:Int)<(M:Int):=by omega
   obtain⟨y,hy⟩:∃ y,Q[j]?=some y:=⟨_,List.getElem?_eq_getElem (by rw[HM.out];exact hjl)⟩
   obtain⟨bb,hbb,x0⟩:=Cw (Ag HO2.out hk (λ _ _ h=>h)) hy
   subst hbb
   have hyH:=HQlt.out y (List.mem_of_getElem? hy)
   have HK1r:Sl (Kp Aa w1 wr):=⟨HK12.out.then' hk⟩
   have HCal:=sE (HKp2.out wr HK1r.out y (by omega))
   have HSt:=sE (filter_step (p:=λ x=> !(x==g)&&decide (g∈keptL es xs Q x)) hy)
   clear ho hk hrl hR hy
   by_cases hyg:y=g
   .have e1:((y:Int) !=(g:Int))=false:=by simp[hyg]
    have HSe:Sl (overL es xs Q g (Q.take (j+1))=R):=⟨by unfold overL;rw [HSt.out,<- HR.out];simp [hyg,overL]⟩
    clear hyg
    go_wp2
    refine⟨⟨j+1,by go_num,by omega,?_,HKj.out⟩,by simp only[intOf];omega⟩
    rw[HSe.out,HRl.out]
    exact HOj.out
   .have e1:((y:Int) !=(g:Int))=true:=by simp;omega
    have e2:(y==g)=false:=by simp;omega
    go_wp2_with fail
    refine HCal.out.mono ?_
    rintro e w4 ⟨ka,kc,rfl,ho4,k4⟩
    have HSl:=HLn.out y
    have HCt:=sE (Contains_nats w4 ka kc (keptL es xs Q y) g (Bz.Be ho4) HSl)
    obtain⟨K,hK⟩:∃ K,keptL es xs Q y=K:=⟨_,rfl⟩
    rw[hK] at HSl HCt HSt ⊢
    obtain⟨N,hN⟩:∃ N,K.length=N:=⟨_,rfl⟩
    rw[hN] at HSl HCt ⊢
    have HK4:=sE (HKj.out.then' k4)
    have HO4:=sE (Ag HOj.out k4 (λ _ _ h=>h))
    have hz4:=k4.size
    clear ho4 k4 hK hN
    go_wp2_with fail
    refine HCt.out.mono ?_
    rintro e w5 ⟨rfl,k5⟩
    have HK5:=sE (HK4.out.then' k5)
    have HO5:=sE (Ag HO4.out k5 (λ _ _ h=>h))
    have hz5:=k5.size
    clear k5
    obtain⟨d,hd⟩:∃ d,decide (g∈K)=d:=⟨_,rfl⟩
    rw[hd] at HSt ⊢
    cases d with
    |false=>
     have HSe:Sl (overL es xs Q g (Q.take (j+1))=R):=⟨by unfold overL;rw [HSt.out,<- HR.out];simp [overL]⟩
     clear hd
     go_wp2
     refine⟨⟨j+1,by go_num,by omega,?_,HK5.out⟩,by simp only[intOf];omega⟩
     rw[HSe.out,HRl.out]
     exact HO5.out
    |true=>
     have HSe:Sl (overL es xs Q g (Q.take (j+1))=R++[y]):=⟨by unfold overL;rw [HSt.out,<- HR.out];simp [overL,e2]⟩
     clear hd
     go_wp2_with (at_builtin;obtain ⟨i0,hi,hz0,hz1,hz2⟩:=info_parts Ch;go_loud (refine wpList_append_lies _ rfl (.tmp 50) (.tmp 52) 24 rfl B 3 i0 _ 1 8 AU hi hz0 hz1 hz2 rfl (by omega) (.slice ra rl rc) rl (Az R) rfl (HO5.out.alloc _) ⟨w5.heap.size,0,none⟩ 1 1 [.int .i64 (y:Nat)] rfl rfl (World.news_of_block (wN w5 _)) (by intro u hu;simp at hu;subst hu;rfl) (by omega) (by unfold maxLen;omega) (by omega) (by first|(simp;done)|(simp;omega)) (w5.heap.size+1) (by simp) ?_);intro gn capn w9 hown9 hgrow hat hlt;clear hi hz0 hz1 hz2;have HGw:=sE hgrow;have HR9:=sE hown9;clear hown9 hgrow hat hlt)
     have k9:Kp Aa w2 w9:=(HK5.out.alloc _).grown HGw.out (λ k e hk=>by have:=(Ae HO5.out e).1;have:=HBs.out;omega)
     refine⟨⟨j+1,by go_num,by omega,?_,k9⟩,by simp only[intOf];omega⟩
     rw[HSe.out,Az,List.map_append,List.length_append,HRl.out]
     exact HR9.out
  .obtain rfl:j=M:=by omega
   have hjl':¬ (j:Int)<(j:Int):=by omega
   have HRe:Sl (overL es xs Q g Q=R):=⟨by rw[<- HR.out,List.take_of_length_le (by rw[HM.out];omega)]⟩
   clear ho hk hrl hR
   go_wp2
   go_ret2
   refine⟨.inr ⟨HIn.out,fm,ra,rc,HFm.out,?_,?_⟩,HK1.out.then' (HK12.out.then' HKj.out)⟩
   .rw [HQ.out,HRe.out,HRl.out];rfl
   .rw [HQ.out,HRe.out,HRl.out]
    exact Cu HOj.out hwB

end

section
open Go.RowKit Go.Maps

theorem sizeL_perm{os:List Cel}{l m:List Nat}(h:l.Perm m):Bc os l=Bc os m:=by
 induction h with
 |nil=>rfl
 |cons x _ ih=>
  show _+_=_+_
  rw[ih]
 |swap x y l=>
  show(BK os y).sz+((BK os x).sz+Bc os l)=(BK os x).sz+((BK os y).sz+Bc os l)
  omega
 |trans _ _ h1 h2=>exact h1.trans h2

theorem tiles_up:∀ {cs:List Cel} {a b:Nat},AB a cs b->cs.Pairwise λ c d=>c.g<d.g
 |[],a,b,h=>List.Pairwise.nil
 |c::cs,a,b,⟨h1,h2,h3⟩=>List.Pairwise.cons (λ d hd=>by have:=AB.mem h3 hd;omega) (tiles_up h3)

def lostL(os:List Cel)(fm:Nat->Bool):List Nat:=(os.map Cel.g).filter λ x=> !fm x

def LostPost(os:List Cel)(es:List (Nat×Nat×Nat))(xs:List Nat)(w:World)(e:Ending)(w':World):Prop:=
 ∃ fm:Nat->Bool,(∀ g,fm g=true ↔ AA es xs g)/\e=.returned (.tuple #[.int .i64 ((lostL os fm).length:Nat),.int .i64 (Bc os (lostL os fm):Nat),.int .i64 0])/\Kp Aa w w'

set_option maxRecDepth 20000 in
theorem CLost_at(P:Sp)(W:Nat->Nat)(f:Nat->Bool)(w:World)(cs:List Cel)(hsp:SpaceAt w P W f)(hc:CellsAt P W cs)(hne:cs≠[])(hst:∀ i,i<P.n/2->f i=Ap cs i)(hms:∀ x∈P.ts,x.m<18446744073709551616)(v:Value)(xs:List Nat)(hx:Bz w v xs)(hxo:∀ g∈xs,De cs g)(hxl:xs.length<=65536):
  Calls prog 15 #[.pointer (some ⟨P.s,0,none⟩),v] w (LostPost (Ak cs) (AP P.ts W cs) xs w):=by
 obtain⟨va,vc,rfl,-⟩:=id hx
 have HOf:=sE (COf_at P W f w cs hsp hc hne hst hms _ xs hx hxo hxl)
 have hH65:P.n/2<=65536:=hsp.bt.small'
 have HOs:Sl ((∀ c∈Ak cs,c.g<P.n/2)/\(∀ c∈Ak cs,c.sz<=65536)/\((Ak cs).map Cel.g).Nodup):=⟨by
  refine⟨λ c hcc=>DV hc ⟨c,(AR.1 hcc).1,(AR.1 hcc).2,rfl⟩,λ c hcc=>?_,?_⟩
  .have:=hc.tl.mem (AR.1 hcc).1
   omega
  .exact List.pairwise_map.2 ((List.Pairwise.filter _ (tiles_up hc.tl)).imp λ h e=>by omega)⟩
 obtain⟨H,hH⟩:∃ H,P.n/2=H:=⟨_,rfl⟩
 obtain⟨es,hes⟩:∃ es,AP P.ts W cs=es:=⟨_,rfl⟩
 obtain⟨os,hos⟩:∃ os,Ak cs=os:=⟨_,rfl⟩
 obtain⟨L,hL⟩:∃ L,xs.length=L:=⟨_,rfl⟩
 rw[hes,hos,hH] at HOf
 rw[hos,hH] at HOs
 rw[hH] at hH65
 rw[hes,hos]
 rw[hL] at HOf ⊢
 clear hsp hc hst hms hx hxo hxl hne hH hes hos hL
 go_enter func15,ntmps15
 go_wp2_with fail
 refine HOf.out.mono ?_
 rintro e w1 ⟨b,mp,mq,fm,rfl,hp1,hfm,k1⟩
 have HK1:=sE k1
 have HFm:=sE hfm
 obtain⟨mc,mo,n,co,F,hgp,hm,hF,-,hb⟩:=hp1
 have HG:=sE hgp
 have HF:=sE hF
 have HB:=sE hb
 obtain⟨-,-,g2,-,g4⟩:=Dj hgp
 have hmf:=hm.lt
 obtain⟨Dm,hown,hD,hneg⟩:=hm
 have HD:=sE (And.intro hD hneg)
 have HFs:Sl (∀ g,(F g).isSome=true ↔ g∈os.map Cel.g):=⟨λ g=>by
  rw[List.mem_map]
  constructor
  .intro h
   rcases celN_mem (os:=os) (x:=g) with ⟨h1,h2⟩|⟨h1,h2⟩
   .exact ⟨_,h1,h2⟩
   .rw [hF.2 g h2] at h;cases h
  .rintro ⟨c,h1,rfl⟩
   rw[hF.1 c h1];rfl⟩
 have HHas:Sl (∀ W' x,Kp Aa w1 W'->x<H->Calls prog 58 #[.pointer (some ⟨mp,0,none⟩),.int .i64 (x:Nat)] W' λ e w'=>e=.returned (.bool (fm x))/\Kp Aa W' w'):=⟨λ W' x kk hx=>Has_in x H mp mq fm W' (HB.out.keep kk (λ h=>h) (λ h=>h)) hx⟩
 clear k1 hfm hgp hF hb hD hneg HOf
 go_wp2_with (first|(at_range;go_loud (refine wpList_range_own _ rfl _ 118 rfl 3 113 (int_keyed underlying3) Ci _ mc n _ rfl hown ?_);intro w0 hrg0 hg0 hs0))
 go_frame
 obtain⟨rb,hrb⟩:∃ b,w1.heap.size=b:=⟨_,rfl⟩
 have K0:Kp Aa w1 w0:=(Kr Aa w1).grown hg0 (λ k e _=>by cases e)
 rw[hrb] at hrg0 hs0 hmf ⊢
 have HK0:=sE K0
 have HRb:Sl (w1.heap.size=rb):=⟨hrb⟩
 clear hown hg0 K0 hrb g2 g4
 go_loopw [4,5] (λ x4 x5 wr=>∃ (left:Lit->Bool) (cnt:Nat) (ss:List Nat),wr.ranges prog 3 heldE mc rb n Dm left cnt/\CollI Dm left ss/\x4=.int .i64 ((ss.filter λ x=> !fm x).length:Nat)/\x5=.int .i64 (Bc os (ss.filter λ x=> !fm x):Nat)/\Kp (λ k=>k=rb) w0 wr) (λ _ _ wr=>wr.rangeLeft mc rb)
 case atStart=>exact ⟨_,_,[],hrg0,CollI.start Dm,rfl,rfl,Kr _ _⟩
 case round=>
  obtain⟨left,cnt,ss,hrg,hC,rfl,rfl,hkk⟩:=hrel
  have HC:=sE hC
  have HKK:=sE hkk
  have hzr:=hkk.size
  have K1r:Kp Aa w1 wr:=HK0.out.trans hkk (λ k hk h=>by have h':k=rb:=h;have:=HRb.out;omega)
  have HK1r:=sE K1r
  have hss:∀ g∈ss,g∈os.map Cel.g:=λ g hg=>by
   have h1:=(hC.2 g).1 hg
   have h2:=h1.2.1
   rw[Bu.has_eqP HD.out.1 h1.1] at h2
   exact(HFs.out g).1 h2
  have hssl:ss.length<=H:=nodup_lt H ss hC.1 (λ g hg=>by
   obtain⟨c,h1,rfl⟩:=List.mem_map.1 (hss g hg)
   exact HOs.out.1 c h1)
  have hfl:(ss.filter λ x=> !fm x).length<=65536:=Nat.le_trans (List.length_filter_le _ _) (by omega)
  have hsl:Bc os (ss.filter λ x=> !fm x)<=65536*65536:=Nat.le_trans (sizeL_le HOs.out.2.1 _) (Nat.mul_le_mul_right _ hfl)
  clear hC hkk hrg0 K1r
  go_wp2_with (first|(at_next;refine wpList_next_ranges _ rfl _ rfl 3 (int_keyed underlying3) heldE (Value.int .i64) id (λ key kl hk=>by obtain⟨x,hx,_⟩:=Maps.keyOf_int_inv underlying3 hk;exact ⟨x,hx⟩) (λ v _ _=>⟨v,rfl⟩) mc rb n _ _ _ rfl hrg ?_ ?_))
  .intro hc0 hl0
   have HPm:Sl ((ss.filter λ x=> !fm x).Perm (lostL os fm)):=⟨by
    unfold lostL
    refine List.Perm.filter _ ((List.perm_ext_iff_of_nodup HC.out.1 HOs.out.2.2).2 λ g=>?_)
    rw[HC.out.2 g,hl0,<- HFs.out g]
    constructor
    .rintro ⟨h1,h2,-⟩
     rwa [Bu.has_eqP HD.out.1 h1] at h2
    .intro h
     have hg:g<H:=by
      obtain⟨c,h1,rfl⟩:=List.mem_map.1 ((HFs.out g).1 h)
      exact HOs.out.1 c h1
     exact⟨by omega,by rw[Bu.has_eqP HD.out.1 (by omega)];exact h,rfl⟩⟩
   obtain⟨N1,hN1⟩:∃ n,(ss.filter λ x=> !fm x).length=n:=⟨_,rfl⟩
   obtain⟨N2,hN2⟩:∃ n,Bc os (ss.filter λ x=> !fm x)=n:=⟨_,rfl⟩
   have HE1:Sl ((lostL os fm).length=N1):=⟨by rw[<- HPm.out.length_eq,hN1]⟩
   have HE2:Sl (Bc os (lostL os fm)=N2):=⟨by rw[<- sizeL_perm HPm.out,hN2]⟩
   rw[hN1,hN2]
   clear hl0 hrg hss hN1 hN2 hfl hsl
   go_wp2
   go_ret3
   refine⟨fm,HFm.out,?_,HK1.out.then' HK1r.out⟩
   rw[HE1.out,HE2.out]
   rfl
  .intro x e kl yd yp w2 cnt2 hkey hlk hv hat hrg2 hlt hg2 hs2 hen
   obtain⟨x',ex,rfl,hwf⟩:=Maps.keyOf_int_inv underlying3 hkey
   obtain rfl:x=x':=by simpa using ex
   obtain⟨g,rfl,hg,hfg⟩:=Bu.entry HD.out.1 HD.out.2 hwf hv (λ zd=>hat zd)
   have hgm:g∈os.map Cel.g:=(HFs.out g).1 (by rw[hfg];rfl)
   have hgH:g<H:=by
    obtain⟨c,h1,rfl⟩:=List.mem_map.1 hgm
    exact HOs.out.1 c h1
   obtain⟨cg,hcg⟩:∃ c,BK os g=c:=⟨_,rfl⟩
   have hfe:=HF.out.get g
   rw[hfg,hcg] at hfe
   obtain rfl:e=.agg #[.int .i64 (cg.g:Nat),.int .u8 (cg.tag:Nat),.int .i64 (cg.ty:Nat),.int .i64 (cg.ln:Nat),.int .i64 (cg.sz:Nat)]:=hfe
   have hcl:=celN_le HOs.out.2.1 g
   rw[hcg] at hcl
   have HCg:=sE hcg
   have HC2:=sE (HC.out.step hg hlk hat)
   have k2:Kp (λ k=>k=rb) wr w2:=(Kr _ wr).grown hg2 (λ k e _=>by injection e with e;exact e.symm)
   have HRg:=sE hrg2
   have HLt:Sl (cnt2<wr.rangeLeft mc rb):=⟨by rw[hrg.left_eq];exact hlt⟩
   have HK2:=sE k2
   have K12:Sl (Kp Aa w1 w2):=⟨HK1r.out.trans k2 (λ k hk h=>by have h':k=rb:=h;have:=HRb.out;omega)⟩
   have hz2:=k2.size
   have hsz2:rb+1<=w2.heap.size:=by omega
   obtain⟨-,-,-,-,g4⟩:=Dj (K12.out.at_ HG.out (λ h=>h))
   have HK12:=sE K12.out
   obtain⟨N1,hN1⟩:∃ n,(ss.filter λ x=> !fm x).length=n:=⟨_,rfl⟩
   obtain⟨N2,hN2⟩:∃ n,Bc os (ss.filter λ x=> !fm x)=n:=⟨_,rfl⟩
   have HN:=sE (And.intro hN1 hN2)
   rw[hN1] at hfl ⊢
   rw[hN2] at hsl ⊢
   clear hs2 hkey hlk hv hat hrg2 hrg hlt hg2 hwf ex hfg k2 hss hg K12 hcg hgm hN1 hN2
   obtain⟨wA,hwA⟩:∃ wA,wA=w2.alloc (.cells #[.int .i64 (cg.g:Nat),.int .u8 (cg.tag:Nat),.int .i64 (cg.ty:Nat),.int .i64 (cg.ln:Nat),.int .i64 (cg.sz:Nat)] 113):=⟨_,rfl⟩
   have kA:Kp Aa w2 wA:=by rw[hwA];exact (Kr _ w2).alloc _
   obtain⟨xb,hxb⟩:∃ m,w2.heap.size=m:=⟨_,rfl⟩
   have bA:wA.heap[xb]?=some (.cells #[.int .i64 (cg.g:Nat),.int .u8 (cg.tag:Nat),.int .i64 (cg.ty:Nat),.int .i64 (cg.ln:Nat),.int .i64 (cg.sz:Nat)] 113 (0,0)):=by rw[hwA,<- hxb];exact wN w2 _
   have HKA:=sE kA
   have HBA:=sE bA
   have g4:=Ac kA g4
   rw[hwA] at g4
   clear kA bA
   go_wp2_with fail
   try rw[<- hwA]
   clear hwA g4
   refine(HHas.out wA g (HK12.out.then' HKA.out) hgH).mono ?_
   rintro e w4 ⟨rfl,k4⟩
   have kw4:Kp Aa w2 w4:=HKA.out.then' k4
   have HRg4:=sE (ranges_keepI HRg.out kw4 (λ h=>h) (λ h=>h))
   have HK4:Sl (Kp (λ k=>k=rb) w0 w4):=⟨(HKK.out.trans HK2.out (λ b hb h=>h)).trans kw4 (λ _ _ h=>h.elim)⟩
   have hB4:=k4.at_ HBA.out (λ h=>h)
   obtain⟨c0,c1,c2,c3,c4⟩:=cells5' hB4
   have HSt:Sl ((ss++[g]).filter (λ x=> !fm x)=(ss.filter λ x=> !fm x)++(if fm g=true then [] else [g])):=⟨by
    rw[List.filter_append]
    congr 1
    cases e:fm g <;> simp[e]⟩
   clear k4 kw4 hB4
   cases hfg:fm g with
   |true=>
    rw[hfg,if_pos rfl,List.append_nil] at HSt
    clear hfg
    go_wp2
    refine⟨⟨_,cnt2,ss++[g],HRg4.out,HC2.out,?_,?_,HK4.out⟩,by rw[HRg4.out.left_eq];exact HLt.out⟩
    .rw [HSt.out,HN.out.1]
    .rw [HSt.out,HN.out.2]
   |false=>
    rw[hfg,if_neg (by simp)] at HSt
    have e1:IntKind.i64.wrap ((N1:Int)+1)=((N1+1:Nat):Int):=by rw[IntKind.wrap_i64];omega
    have e2:IntKind.i64.wrap ((N2:Int)+(cg.sz:Int))=((N2+cg.sz:Nat):Int):=by rw[IntKind.wrap_i64];omega
    clear hfg
    go_wp2
    refine⟨⟨_,cnt2,ss++[g],HRg4.out,HC2.out,?_,?_,HK4.out⟩,by rw[HRg4.out.left_eq];exact HLt.out⟩
    .rw [HSt.out,List.length_append,HN.out.1]
     rfl
    .rw [HSt.out,sizeL_app,HN.out.2]
     show _=Value.int .i64 ((N2+((BK os g).sz+0):Nat):Int)
     rw[HCg.out]
     rfl

end

end Go.Proofs.YtfkedlgpgmaemaaGreatDoor
