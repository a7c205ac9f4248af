/-
  Lemmas for the laws, together: WalkA, FindPA.
-/
import Derived.Test.YtmfajopmppfldaaGreatDoorQal
import Derived.Maps.Own
import Derived.Maps.OwnSet
import Derived.Test.YtmfajopmppfldaaGreatDoorQak
import Derived.Test.YtmfajopmppfldaaGreatDoorQai
import Derived.Test.YtmfajopmppfldaaGreatDoorQah
set_option linter.unusedVariables false
set_option maxHeartbeats 16000000
namespace Go.Proofs.YtmfajopmppfldaaGreatDoor
open Tryz
section
open Go.RowKit

def StopW(ts:List TypR)(H:Nat)(W:Nat->Nat)(g:Nat):Prop:=
 BO (W (2*g))=false\/(CR (W (2*g))=1/\¬ (AY ts (Ey (W (2*g)):Nat) (EO (W (2*g)):Nat)=0/\Bq ts (Ey (W (2*g)):Nat) (EO (W (2*g)):Nat)=(DJ (W (2*g)):Nat)))\/H-g<DJ (W (2*g))

structure CellsTo(P:Sp)(W:Nat->Nat)(cs:List Cel)(e:Nat):Prop where
 tl:Au 0 cs e
 le:e<=P.n/2
 hd:HeadsAt W cs
 ok:∀ c∈cs,Dh P.ts c
 stop:e=P.n/2\/StopW P.ts (P.n/2) W e

theorem CellsAt.to{P:Sp}{W:Nat->Nat}{cs:List Cel}(h:CellsAt P W cs):CellsTo P W cs (P.n/2):=⟨h.tl,Nat.le_refl _,h.hd,h.ok,.inl rfl⟩

theorem decOk_head{X:Nat}(h:BO X=true):Am (CR X:Nat) (Ey X:Nat) (EO X:Nat) (DJ X:Nat)=true:=by
 unfold BO at h
 rw[Bool.and_eq_true] at h
 exact h.1

theorem Fits_obj_no(ty ln sz:Int)(t q:Nat)(ts:List TypR)(w:World)(hF:Av w)(hT:TableAt w t q ts)(h:Am 1 ty ln sz=true)(hn:¬ (AY ts ty ln=0/\Bq ts ty ln=sz)):
  Calls prog 51 #[.pointer (some ⟨t,0,none⟩),Al 1 ty ln sz] w λ e w'=>e=.returned (.int .i64 8)/\Kp Ab w w':=by
 have kA:=(Kr Ab w).alloc (.cells #[.int .u8 1,.int .i64 ty,.int .i64 ln,.int .i64 sz] 52)
 have b0:=wN w (.cells #[.int .u8 1,.int .i64 ty,.int .i64 ln,.int .i64 sz] 52)
 have CK:=Dz 1 ty ln sz _ (hF.Ad kA)
 rw[h] at CK
 by_cases he:AY ts ty ln=0
 .obtain ⟨S,hS⟩:∃ S,Bq ts ty ln=S:=⟨_,rfl⟩
  have hne:(S==sz)=false:=by
   rw[beq_eq_false_iff_ne]
   exact λ q=>hn ⟨he,hS.trans q⟩
  have CO:∀ W,Kp Ab w W->Calls prog 102 #[.pointer (some ⟨t,0,none⟩),.int .i64 ty,.int .i64 ln] W λ e w'=>e=.returned (.tuple #[Al 1 ty ln S,.int .i64 0])/\Kp Ab W w':=λ W k=>
   (ED ty ln t q ts W (hT.Ad k)).mono λ e w' hp=>by rw[BG,he,if_pos rfl,hS] at hp;exact hp
  unfold Al at CK CO ⊢
  have HC:=sE CK
  have HO:=sE CO
  have hrn:∀ w,(binOp .neq 52 (.agg #[.int .u8 1,.int .i64 ty,.int .i64 ln,.int .i64 S]) (.agg #[.int .u8 1,.int .i64 ty,.int .i64 ln,.int .i64 sz])).run prog w=.ok (.bool true) w:=λ w=>by
   rw[EH,hne]
   simp
  clear CK CO h he hS hn
  go_enter func51,ntmps51
  go_wp2_with fail
  refine HC.out.mono ?_
  rintro e w2 ⟨rfl,k2⟩
  have B0:=k2.at_ b0 (λ h=>h)
  have d0:w2.cell? ⟨w.heap.size,0,none⟩=some (.int .u8 1):=by simp[World.cell?,B0]
  have d1:w2.cell? ⟨w.heap.size,1,none⟩=some (.int .i64 ty):=by simp[World.cell?,B0]
  have d2:w2.cell? ⟨w.heap.size,2,none⟩=some (.int .i64 ln):=by simp[World.cell?,B0]
  have KW:=kA.then' k2
  clear b0 HC
  go_wp2_with fail
  refine(HO.out _ KW).mono ?_
  rintro e w3 ⟨rfl,k3⟩
  have B3:=k3.at_ B0 (λ h=>h)
  have hl3:=lZ B3
  have c0:w3.cell? ⟨w.heap.size,0,none⟩=some (.int .u8 1):=by simp[World.cell?,B3]
  have c1:w3.cell? ⟨w.heap.size,1,none⟩=some (.int .i64 ty):=by simp[World.cell?,B3]
  have c2:w3.cell? ⟨w.heap.size,2,none⟩=some (.int .i64 ln):=by simp[World.cell?,B3]
  have c3:w3.cell? ⟨w.heap.size,3,none⟩=some (.int .i64 sz):=by simp[World.cell?,B3]
  clear d0 d1 d2 B0 B3 hne
  go_wp2
  go_ret
  exact⟨rfl,(KW.then' k3).alloc _⟩
 .obtain ⟨E,hE⟩:∃ E,AY ts ty ln=E:=⟨_,rfl⟩
  rw[hE] at he
  have hne:(E !=0)=true:=by simpa using he
  have CO:∀ W,Kp Ab w W->Calls prog 102 #[.pointer (some ⟨t,0,none⟩),.int .i64 ty,.int .i64 ln] W λ e w'=>e=.returned (.tuple #[Al 0 0 0 0,.int .i64 E])/\Kp Ab W w':=λ W k=>
   (ED ty ln t q ts W (hT.Ad k)).mono λ e w' hp=>by rw[BG,hE,if_neg he] at hp;exact hp
  unfold Al at CK CO ⊢
  have HC:=sE CK
  have HO:=sE CO
  clear CK CO h he hE hn
  go_enter func51,ntmps51
  go_wp2_with fail
  refine HC.out.mono ?_
  rintro e w2 ⟨rfl,k2⟩
  have B0:=k2.at_ b0 (λ h=>h)
  have d0:w2.cell? ⟨w.heap.size,0,none⟩=some (.int .u8 1):=by simp[World.cell?,B0]
  have d1:w2.cell? ⟨w.heap.size,1,none⟩=some (.int .i64 ty):=by simp[World.cell?,B0]
  have d2:w2.cell? ⟨w.heap.size,2,none⟩=some (.int .i64 ln):=by simp[World.cell?,B0]
  have KW:=kA.then' k2
  clear b0 HC
  go_wp2_with fail
  refine(HO.out _ KW).mono ?_
  rintro e w3 ⟨rfl,k3⟩
  have hl3:=lZ (k3.at_ B0 (λ h=>h))
  clear d0 d1 d2 B0
  go_wp2
  go_ret
  exact⟨rfl,(KW.then' k3).alloc _⟩

theorem stop_at(P:Sp)(W:Nat->Nat)(f:Nat->Bool)(g:Nat)(w:World)(h:SpaceAt w P W f)(hg:g<P.n/2)(hs:StopW P.ts (P.n/2) W g):
  Calls prog 49 #[.pointer (some ⟨P.a,0,none⟩),.int .i64 (g:Nat)] w (λ e w'=>e=.returned (.tuple #[Al 0 0 0 0,.int .i64 7])/\Kp Ab w w')\/
  ∃ tag ty ln sz:Nat,Calls prog 49 #[.pointer (some ⟨P.a,0,none⟩),.int .i64 (g:Nat)] w (λ e w'=>e=.returned (.tuple #[Al (tag:Nat) (ty:Nat) (ln:Nat) (sz:Nat),.int .i64 0])/\Kp Ab w w')/\
   ((∀ w',Kp Ab w w'->Calls prog 51 #[.pointer (some ⟨P.t,0,none⟩),Al (tag:Nat) (ty:Nat) (ln:Nat) (sz:Nat)] w' λ e w''=>e=.returned (.int .i64 8)/\Kp Ab w' w'')\/
    ((∀ w',Kp Ab w w'->Calls prog 51 #[.pointer (some ⟨P.t,0,none⟩),Al (tag:Nat) (ty:Nat) (ln:Nat) (sz:Nat)] w' λ e w''=>e=.returned (.int .i64 0)/\Kp Ab w' w'')/\P.n/2-g<sz)):=by
 have hh:=SHead_at g P.a P.q P.n W w h.fl h.ar hg
 obtain⟨X,hX⟩:∃ X,W (2*g)=X:=⟨_,rfl⟩
 unfold StopW at hs
 rw[hX] at hs hh
 cases hd:BO X with
 |false=>
  rw[hd] at hh
  exact .inl (hh.mono λ_ _ hp=>hp)
 |true=>
  rw[hd] at hh
  have hk:=decOk_head hd
  refine .inr ⟨CR X,Ey X,EO X,DJ X,hh.mono λ_ _ hp=>hp,?_⟩
  by_cases ht:CR X=1
  .rw [ht] at hk ⊢
   by_cases hf:AY P.ts (Ey X:Nat) (EO X:Nat)=0/\Bq P.ts (Ey X:Nat) (EO X:Nat)=(DJ X:Nat)
   .refine .inr ⟨λ w' kk=>Fits_obj _ _ _ P.t P.tq P.ts w' (h.Ad kk).fl (h.Ad kk).tb hk hf.1 hf.2,?_⟩
    rcases hs with hs|hs|hs
    .rw [hd] at hs
     cases hs
    .exact absurd hf hs.2
    .exact hs
   .exact .inl λ w' kk=>Fits_obj_no _ _ _ P.t P.tq P.ts w' (h.Ad kk).fl (h.Ad kk).tb hk hf
  .refine .inr ⟨λ w' kk=>Fits_gap _ _ _ _ _ w' (h.Ad kk).fl hk (by omega),?_⟩
   rcases hs with hs|hs|hs
   .rw [hd] at hs
    cases hs
   .exact absurd hs.1 ht
   .exact hs

attribute [local go_sem] Oper.semAt_some

theorem wcells_fn(P:Sp)(w:World):
  Calls prog 107 #[.pointer (some ⟨P.a,0,none⟩),.pointer (some ⟨P.t,0,none⟩)] w λ e w'=>
   e=.returned (.func (.func 146) #[] #[.pointer (some ⟨w.heap.size,0,none⟩),.pointer (some ⟨w.heap.size+1,0,none⟩)])/\(w.alloc (.cells #[.pointer (some ⟨P.a,0,none⟩)] 47)).alloc (.cells #[.pointer (some ⟨P.t,0,none⟩)] 49)=w':=by
 have hmf:∀ (fn:Fn) (first cap:Array Value) (w:World),(Instr.makeFunc fn first cap).run prog w=.ok (.func fn first cap) w:=λ _ _ _ _=>rfl
 go_enter func107,ntmps107
 go_wp2
 go_ret
 exact⟨rfl,rfl⟩

set_option maxRecDepth 20000 in
theorem wcells_iter3(P:Sp)(W0:Nat->Nat)(f:Nat->Bool)(cs:List Cel)(E:Nat)(w:World)(b1 b2:Nat)(h:SpaceAt w P W0 f)(hc:CellsTo P W0 cs E)(hb1:w.heap[b1]?=some (.cells #[.pointer (some ⟨P.a,0,none⟩)] 47 (0,0)))(hb2:w.heap[b2]?=some (.cells #[.pointer (some ⟨P.t,0,none⟩)] 49 (0,0)))
  {R:Nat->Prop} (hR:∀ k,R k->k<w.heap.size/\¬ k=b1/\¬ k=b2/\¬ P.all k):
  IterAt3 prog 146 #[.pointer (some ⟨b1,0,none⟩),.pointer (some ⟨b2,0,none⟩)] (λ c=>#[cellV c]) cs Ab R w:=by
 intro l J Jx S0 W hW hl1 hl2 hS hJ hJx hY h0
 have SW:=h.Ad hW
 have bW1:=hW.at_ hb1 (λ h=>h)
 have bW2:=hW.at_ hb2 (λ h=>h)
 have lb1:=lZ hb1
 have lb2:=lZ hb2
 have lall:=h.lt
 have hn:=h.ar.small
 obtain⟨H,hH⟩:∃ H,P.n/2=H:=⟨_,rfl⟩
 have tl:=hc.tl
 have hEl:=hc.le
 have HStop:Sl (∀ w',SpaceAt w' P W0 f->E<H->_):=⟨λ w' h' hlt=>stop_at P W0 f E w' h' (by omega) (hc.stop.resolve_left (by omega))⟩
 have HG:Sl (Calls prog 59 #[.pointer (some ⟨P.a,0,none⟩)] W λ e w''=>e=.returned (.int .i64 (P.n:Nat))/\W=w''):=⟨ALen_at P.a P.q P.n W0 W SW.ar⟩
 have HHd:Sl (∀ w',SpaceAt w' P W0 f->∀ c∈cs,c.g<H->Calls prog 49 #[.pointer (some ⟨P.a,0,none⟩),.int .i64 (c.g:Nat)] w' λ e w''=>e=.returned (.tuple #[Al (c.tag:Nat) (c.ty:Nat) (c.ln:Nat) (c.sz:Nat),.int .i64 0])/\Kp Ab w' w''):=
  ⟨λ w' h' c hm hg=>ET c P W0 f w' h' (by omega) (hc.hd c hm) (hc.ok c hm)⟩
 have HFt:Sl (∀ w',SpaceAt w' P W0 f->∀ c∈cs,Calls prog 51 #[.pointer (some ⟨P.t,0,none⟩),Al (c.tag:Nat) (c.ty:Nat) (c.ln:Nat) (c.sz:Nat)] w' λ e w''=>e=.returned (.int .i64 0)/\Kp Ab w' w''):=
  ⟨λ w' h' c hm=>Fits_cell c P W0 f w' h' (hc.ok c hm)⟩
 rw[hH] at hEl HStop
 have hH2:H<=32768:=by omega
 have hPn:(P.n:Int)/2=(H:Int):=by omega
 have cb1:=cell_of_one bW1
 clear hc hn
 refine(callsIn_wide (n:=0)).1 ?_
 refine callsIn_of_wp func146 rfl trivial ?_
 simp only[ntmps146,List.size_toArray,List.length_cons,List.length_nil,Nat.reduceAdd,Nat.reduceSub,Array.replicate_succ,Array.replicate_zero,List.push_toArray,List.append_toArray,List.nil_append,List.cons_append]
 gi_wp2_with fail
 refine⟨trivial,rfl,?_⟩
 refine(callsIn_wide.2 HG.out).mono ?_
 rintro e w' ⟨rfl,rfl⟩
 gi_wp2_with fail
 clear hPn
 gi_loopw [5,6,7] (λ v5 v6 v7 wr=>∃ (pre rest:List Cel) (g:Nat) (S:Nat->Prop),v5=.int .i64 (g:Nat)/\cs=pre++rest/\Au g rest E/\J pre S wr/\Kp (λ k=>R k\/k=l) W wr)
  (λ v5 v6 v7 wr=>H-(intOf v5).toNat)
 case atStart=>exact ⟨[],cs,0,S0,rfl,rfl,tl,h0,Kr _ _⟩
 case round=>
  obtain⟨pre,rest,g,S,rfl,hcs,ht,hj,kr⟩:=hrel
  have Sr:SpaceAt wr P W0 f:=SW.keep kr (λ i hi hs=>by
   have:=lall i hi
   rcases hs with hs|hs
   .exact (hR i hs).2.2.2 hi
   .omega)
  have br1:=kr.at_ bW1 (λ hs=>by
   rcases hs with hs|hs
   .exact (hR b1 hs).2.1 rfl
   .omega)
  have br2:=kr.at_ bW2 (λ hs=>by
   rcases hs with hs|hs
   .exact (hR b2 hs).2.2.1 rfl
   .omega)
  have cb:=cell_of_one br1
  have cc:=cell_of_one br2
  have HS:=sE Sr
  cases rest with
  |nil=>
   obtain rfl:g=E:=ht
   by_cases hgH:g=H
   .subst hgH
    gi_wp2_with fail
    go_end0
    exact⟨⟨_,rfl⟩,.inl ⟨S,by rw[hcs,List.append_nil];exact hj⟩⟩
   .have hg1:(g:Int)<(H:Int):=by omega
    have HJ:=sE (And.intro hj hcs)
    have HEnd:Sl (∀ B,Kp Ab wr B->∃ S,J cs S B):=⟨λ B kk=>⟨S,by rw[HJ.out.2,List.append_nil];exact hJ _ _ _ _ HJ.out.1 kk⟩⟩
    have hd1:∀ sz:Nat,H-g<sz->decide ((H:Int)-(g:Int)<(sz:Int))=true:=λ sz h=>dT (by omega)
    have hwr:IntKind.i64.wrap ((H:Int)-(g:Int))=(H:Int)-(g:Int):=by rw[IntKind.wrap_i64];omega
    have HSt:=HStop.out wr Sr (by omega)
    clear hj hcs hgH HS
    rcases HSt with HN|⟨tag,ty,ln,sz,HN,HF|⟨HF,hlt⟩⟩
    .have CHd:=sE HN
     clear HN
     gi_wp2_with fail
     refine⟨trivial,rfl,?_⟩
     refine(callsIn_wide.2 CHd.out).mono ?_
     rintro e w1 ⟨rfl,k1⟩
     unfold Al
     gi_wp2_with fail
     refine⟨?_,?_⟩
     .first|trivial|(intro _ _;trivial)
     gi_wp2_with fail
     refine⟨?_,?_⟩
     .first|trivial|(intro _ _;trivial)
     gi_wp2_with fail
     refine bodyPost_ret (results_none rfl _ _ _) rfl ?_
     exact⟨⟨_,rfl⟩,.inl (HEnd.out _ (k1.alloc _))⟩
    .have CHd:=sE HN
     have CF:=sE HF
     clear HN HF
     gi_wp2_with fail
     refine⟨trivial,rfl,?_⟩
     refine(callsIn_wide.2 CHd.out).mono ?_
     rintro e w1 ⟨rfl,k1⟩
     unfold Al
     obtain⟨w2,hw2⟩:∃ w2,w2=w1.alloc (.cells #[.int .u8 (tag:Nat),.int .i64 (ty:Nat),.int .i64 (ln:Nat),.int .i64 (sz:Nat)] 52):=⟨_,rfl⟩
     have k2:Kp Ab w1 w2:=by rw[hw2];exact (Kr _ w1).alloc _
     have hD:w2.heap[w1.heap.size]?=some (.cells #[.int .u8 (tag:Nat),.int .i64 (ty:Nat),.int .i64 (ln:Nat),.int .i64 (sz:Nat)] 52 (0,0)):=by rw[hw2];exact wN w1 _
     have KD:Kp Ab wr w2:=k1.then' k2
     have cc2:=k1.cell cc (λ h=>h)
     have lb3:b2<w1.heap.size:=by have:=k1.size;have:=kr.size;have:=hW.size;omega
     have e0:w2.cell? ⟨w1.heap.size,0,none⟩=some (.int .u8 (tag:Nat)):=by simp[World.cell?,hD]
     have e1:w2.cell? ⟨w1.heap.size,1,none⟩=some (.int .i64 (ty:Nat)):=by simp[World.cell?,hD]
     have e2:w2.cell? ⟨w1.heap.size,2,none⟩=some (.int .i64 (ln:Nat)):=by simp[World.cell?,hD]
     have e3:w2.cell? ⟨w1.heap.size,3,none⟩=some (.int .i64 (sz:Nat)):=by simp[World.cell?,hD]
     have CFx:=CF.out w2 KD
     unfold Al at CFx
     have CFs:=sE CFx
     clear CFx hD CHd CF
     gi_wp2_with fail
     rw[<- hw2]
     clear hw2
     refine⟨trivial,rfl,?_⟩
     refine(callsIn_wide.2 CFs.out).mono ?_
     rintro e w3 ⟨rfl,k3⟩
     gi_wp2_with fail
     refine⟨?_,?_⟩
     .first|trivial|(intro _ _;trivial)
     gi_wp2_with fail
     refine bodyPost_ret (results_none rfl _ _ _) rfl ?_
     exact⟨⟨_,rfl⟩,.inl (HEnd.out _ (KD.then' k3))⟩
    .have CHd:=sE HN
     have CF:=sE HF
     replace hd1:=hd1 sz hlt
     clear HN HF
     gi_wp2_with fail
     refine⟨trivial,rfl,?_⟩
     refine(callsIn_wide.2 CHd.out).mono ?_
     rintro e w1 ⟨rfl,k1⟩
     unfold Al
     obtain⟨w2,hw2⟩:∃ w2,w2=w1.alloc (.cells #[.int .u8 (tag:Nat),.int .i64 (ty:Nat),.int .i64 (ln:Nat),.int .i64 (sz:Nat)] 52):=⟨_,rfl⟩
     have k2:Kp Ab w1 w2:=by rw[hw2];exact (Kr _ w1).alloc _
     have hD:w2.heap[w1.heap.size]?=some (.cells #[.int .u8 (tag:Nat),.int .i64 (ty:Nat),.int .i64 (ln:Nat),.int .i64 (sz:Nat)] 52 (0,0)):=by rw[hw2];exact wN w1 _
     have KD:Kp Ab wr w2:=k1.then' k2
     have cc2:=k1.cell cc (λ h=>h)
     have lb3:b2<w1.heap.size:=by have:=k1.size;have:=kr.size;have:=hW.size;omega
     have e0:w2.cell? ⟨w1.heap.size,0,none⟩=some (.int .u8 (tag:Nat)):=by simp[World.cell?,hD]
     have e1:w2.cell? ⟨w1.heap.size,1,none⟩=some (.int .i64 (ty:Nat)):=by simp[World.cell?,hD]
     have e2:w2.cell? ⟨w1.heap.size,2,none⟩=some (.int .i64 (ln:Nat)):=by simp[World.cell?,hD]
     have e3:w2.cell? ⟨w1.heap.size,3,none⟩=some (.int .i64 (sz:Nat)):=by simp[World.cell?,hD]
     have CFx:=CF.out w2 KD
     unfold Al at CFx
     have CFs:=sE CFx
     have HhD:=sE hD
     clear CFx hD CHd CF hlt
     gi_wp2_with fail
     rw[<- hw2]
     clear hw2
     refine⟨trivial,rfl,?_⟩
     refine(callsIn_wide.2 CFs.out).mono ?_
     rintro e w3 ⟨rfl,k3⟩
     have e3':=k3.cell e3 (λ h=>h)
     gi_wp2_with fail
     refine⟨?_,?_⟩
     .first|trivial|(intro _ _;trivial)
     gi_wp2_with fail
     refine bodyPost_ret (results_none rfl _ _ _) rfl ?_
     exact⟨⟨_,rfl⟩,.inl (HEnd.out _ (KD.then' k3))⟩
  |cons c rest=>
   obtain⟨rfl,hcp,ht'⟩:=ht
   have hle:=ht'.le
   have hmem:c∈cs:=by rw[hcs];simp
   have hg1:(c.g:Int)<(H:Int):=by omega
   have CHd:=sE (HHd.out wr Sr c hmem (by omega))
   gi_wp2_with fail
   refine⟨trivial,rfl,?_⟩
   refine(callsIn_wide.2 CHd.out).mono ?_
   rintro e w1 ⟨rfl,k1⟩
   unfold Al
   obtain⟨w2,hw2⟩:∃ w2,w2=w1.alloc (.cells #[.int .u8 (c.tag:Nat),.int .i64 (c.ty:Nat),.int .i64 (c.ln:Nat),.int .i64 (c.sz:Nat)] 52):=⟨_,rfl⟩
   have k2:Kp Ab w1 w2:=by rw[hw2];exact (Kr _ w1).alloc _
   have hD:w2.heap[w1.heap.size]?=some (.cells #[.int .u8 (c.tag:Nat),.int .i64 (c.ty:Nat),.int .i64 (c.ln:Nat),.int .i64 (c.sz:Nat)] 52 (0,0)):=by rw[hw2];exact wN w1 _
   have KD:Kp Ab wr w2:=k1.then' k2
   have SD:=Sr.Ad KD
   have cc2:=k1.cell cc (λ h=>h)
   have lb3:b2<w1.heap.size:=by have:=k1.size;have:=kr.size;have:=hW.size;omega
   have e0:w2.cell? ⟨w1.heap.size,0,none⟩=some (.int .u8 (c.tag:Nat)):=by simp[World.cell?,hD]
   have e1:w2.cell? ⟨w1.heap.size,1,none⟩=some (.int .i64 (c.ty:Nat)):=by simp[World.cell?,hD]
   have e2:w2.cell? ⟨w1.heap.size,2,none⟩=some (.int .i64 (c.ln:Nat)):=by simp[World.cell?,hD]
   have e3:w2.cell? ⟨w1.heap.size,3,none⟩=some (.int .i64 (c.sz:Nat)):=by simp[World.cell?,hD]
   have CF:=HFt.out w2 SD c hmem
   unfold Al at CF
   have CFs:=sE CF
   have HhD:=sE hD
   have hd1:decide ((H:Int)-(c.g:Int)<(c.sz:Int))=false:=dF (by omega)
   have hwr:IntKind.i64.wrap ((H:Int)-(c.g:Int))=(H:Int)-(c.g:Int):=by rw[IntKind.wrap_i64];omega
   have hneR:∀ k,S k\/k=l->¬ k=w1.heap.size:=by
    intro k hk
    have z1:=hW.size
    have z2:=kr.size
    have z3:=k1.size
    rcases hk with hk|hk
    .have:=(hS pre S _ hj k hk).2
     omega
    .omega
   have hSR:∀ i,i<W.heap.size->(S i\/i=l)->(R i\/i=l):=by
    intro i hi h
    rcases h with h|h
    .rcases (hS pre S _ hj i h).1 with h|h
     .exact .inl h
     .omega
    .exact .inr h
   clear CF SD hD CHd HS
   gi_wp2_with fail
   rw[<- hw2]
   clear hw2
   refine⟨trivial,rfl,?_⟩
   refine(callsIn_wide.2 CFs.out).mono ?_
   rintro e w3 ⟨rfl,k3⟩
   have h3:=k3.at_ HhD.out (λ h=>h)
   have e0':=k3.cell e0 (λ h=>h)
   have e1':=k3.cell e1 (λ h=>h)
   have e2':=k3.cell e2 (λ h=>h)
   have e3':=k3.cell e3 (λ h=>h)
   have J3:=hJ _ _ _ _ hj (KD.then' k3)
   have HY3:=sE (hY pre S c rest w3 hcs J3)
   have Hh3:=sE h3
   clear h3 J3
   gi_wp2_with fail
   refine CW HY3.out rfl ?_
   intro b B hB
   rcases hB with ⟨rfl,hk,S',hT⟩|⟨rfl,hE⟩
   .have hB3:=hk.at_ Hh3.out (λ hs=>hneR _ hs rfl)
    have d3:B.cell? ⟨w1.heap.size,3,none⟩=some (.int .i64 (c.sz:Nat)):=by simp[World.cell?,hB3]
    have KB:=(kr.trans KD (λ _ _ h=>h.elim)).trans k3 (λ _ _ h=>h.elim)
    have KB2:=KB.trans hk hSR
    gi_wp2_with fail
    exact⟨⟨pre++[c],rest,c.g+c.sz,S',by simp,by rw[hcs,List.append_assoc];rfl,ht',hT,KB2⟩,by simp only[intOf];omega⟩
   .gi_wp2_with fail
    refine bodyPost_ret (results_none rfl _ _ _) rfl ?_
    exact⟨⟨_,rfl⟩,.inr ⟨_,⟨_,by rw[hcs,List.append_assoc];rfl⟩,hE⟩⟩

end

section
open Go.RowKit Go.Maps

theorem zeroBool10(w:World):(zeroValue 4).run prog w=.ok (.bool false) w:=by kernel_rfl

section
variable {P:Program} {k e t:TypeId}

theorem plainElem_bool_inv(he:P.underlying e=some .bool){v:Value}{z:DataW Unit×List MemPlace}(h:plainElem P e v=some z):∃ x,v=.bool x/\z=(.lit (.bool x),[]):=by
 unfold plainElem at h
 rw[he] at h
 cases v <;> simp at h
 exact⟨_,rfl,h.symm⟩

def SetIn(P:Program)(k e:TypeId)(w:World)(b n:Nat)(f:Int->Bool):Prop:=
 ∃ D:DataW Unit,w.ownsMap P k (plainElem P e) b n D/\∀ g:Int,(Lit.int .i64 g).wf=true->D.atKey (.int .i64 g) (.lit (.bool false))=.lit (.bool (f g))

theorem SetIn.look{w:World}{b n:Nat}{f:Int->Bool}(h:SetIn P k e w b n f)(hk:P.underlying k=some (.int .i64))(he:P.underlying e=some .bool)(ht:P.underlying t=some (.map k e))(hz:(zeroValue e).run P w=.ok (.bool false) w){g:Int}(hg:(Lit.int .i64 g).wf=true):
  (Instr.lookup t (.map (some b)) (.int .i64 g) false).run P w=.ok (.bool (f g)) w:=by
 obtain⟨D,h1,h2⟩:=h
 obtain⟨v,ps,hrun,hv⟩:=h1.lookup (int_keyed hk) ht hz (plainElem_bool he false) (keyOf_int_mk hk hg)
 rw[h2 g hg] at hv
 obtain⟨x,rfl,hx⟩:=plainElem_bool_inv he hv
 simp only[Prod.mk.injEq] at hx
 have:f g=x:=by have:=hx.1;injection this with this;injection this
 rw[hrun,this]

theorem SetIn.put{w:World}{b n:Nat}{f:Int->Bool}(h:SetIn P k e w b n f)(hk:P.underlying k=some (.int .i64))(he:P.underlying e=some .bool)(ht:P.underlying t=some (.map k e))(hn:n<maxLen){g:Int}(hg:(Lit.int .i64 g).wf=true):
  ∃ w',(Instr.mapUpdate t (.map (some b)) (.int .i64 g) (.bool true)).run P w=.ok () w'/\SetIn P k e w' b (n+1) (λ x=>f x||x==g)/\Kp (λ k=>k=b) w w':=by
 obtain⟨D,h1,h2⟩:=h
 have hkk:=keyOf_int_mk hk hg
 obtain⟨w',hrun,ho,hgr⟩:=h1.update (int_keyed hk) ht hn hkk (plainElem_bool he true)
 refine⟨w',hrun,⟨_,ho,λ x hx=>?_⟩,(Kr _ w).grown hgr (λ k e _=>by injection e with e;exact e.symm)⟩
 by_cases ex:x=g
 .subst ex
  rw[Maps.atKey_put_same h1.isMap ((int_keyed hk).key hkk)]
  simp
 .rw [Maps.atKey_put_other (by intro h;injection h with _ h;exact ex h),h2 x hx]
  simp[ex]

end

def EU(w:World)(b n:Nat)(f:Int->Bool):Prop:=SetIn prog 3 4 w b n f

theorem EU.made(w:World):EU (w.alloc (.map #[] 0)) w.heap.size 0 (λ _=>false):=
 ⟨.map [],World.ownsMap_made w _ _ _,λ g _=>rfl⟩

theorem EU.lt{w:World}{b n:Nat}{f:Int->Bool}(h:EU w b n f):b<w.heap.size:=by
 obtain⟨D,h1,-⟩:=h
 exact h1.lt

theorem EU.keep{S:Nat->Prop}{w w':World}{b n:Nat}{f:Int->Bool}(h:EU w b n f)(k:Kp S w w')(hb:¬ S b):EU w' b n f:=by
 obtain⟨D,⟨es,clock,h1,h2⟩,h3⟩:=h
 exact⟨D,⟨es,clock,k.at_ h1 hb,h2⟩,h3⟩

theorem EU.look{w:World}{b n:Nat}{f:Int->Bool}(h:EU w b n f){g:Int}(hg:(Lit.int .i64 g).wf=true):
  (Instr.lookup 115 (.map (some b)) (.int .i64 g) false).run prog w=.ok (.bool (f g)) w:=
 SetIn.look h underlying3 underlying4 underlying115 (zeroBool10 w) hg

theorem EU.put{w:World}{b n:Nat}{f:Int->Bool}(h:EU w b n f)(hn:n<maxLen){g:Int}(hg:(Lit.int .i64 g).wf=true):
  ∃ w',(Instr.mapUpdate 115 (.map (some b)) (.int .i64 g) (.bool true)).run prog w=.ok () w'/\EU w' b (n+1) (λ x=>f x||x==g)/\Kp (λ k=>k=b) w w':=
 SetIn.put h underlying3 underlying4 underlying115 hn hg

theorem FN{g:Nat}(h:g<=9223372036854775807):(Lit.int .i64 (g:Int)).wf=true:=by
 have h1:IntKind.i64.min=-9223372036854775808:=by decide
 have h2:IntKind.i64.max=9223372036854775807:=by decide
 simp only[Lit.wf,h1,h2,Bool.and_eq_true,decide_eq_true_eq]
 omega

open Go.RowKit
attribute [local go_sem] Oper.semAt_some

def Ex(cs:List Cel)(g:Int):Bool:=cs.any λ c=>c.tag==1&&(c.g:Int)==g

theorem startI_add(cs:List Cel)(x:Cel)(g:Int):Ex (cs++[x]) g=(Ex cs g||(x.tag==1&&(x.g:Int)==g)):=by simp[Ex]

theorem startI_nat(cs:List Cel)(g:Nat):Ex cs (g:Nat)=Aq cs g:=by
 have e:∀ c:Cel,(c.tag==1&&(c.g:Int)==(g:Nat))=(c.tag==1&&c.g==g):=λ c=>by
  have:((c.g:Int)==((g:Nat):Int))=(c.g==g):=by
   rw[Bool.eq_iff_iff,beq_iff_eq,beq_iff_eq]
   omega
  rw[this]
 simp only[Ex,Aq,e]

theorem obsG_add(cs:List Cel)(x:Cel):Bu (cs++[x])=Bu cs++(if x.tag=1 then [x.g] else []):=by
 unfold Bu Ap
 rw[List.filter_append,List.map_append]
 congr 1
 by_cases h:x.tag=1 <;> simp[h]

theorem tiles_same:∀ {cs:List Cel} {a x y:Nat},Au a cs x->Au a cs y->x=y
 |[],a,x,y,h,k=>(show a=x from h).symm.trans k
 |c::cs,a,x,y,⟨_,_,h⟩,⟨_,_,k⟩=>tiles_same h k

theorem Cf{w:World}{b:Nat}{a0 a1 a2 a3 a4:Value}{T:TypeId}(hb:w.heap[b]?=some (.cells #[a0,a1,a2,a3,a4] T (0,0))):
  w.cell? ⟨b,0,none⟩=some a0/\w.cell? ⟨b,1,none⟩=some a1/\w.cell? ⟨b,2,none⟩=some a2/\w.cell? ⟨b,3,none⟩=some a3/\w.cell? ⟨b,4,none⟩=some a4:=by
 refine⟨?_,?_,?_,?_,?_⟩ <;> simp only[World.cell?,hb] <;> rfl

theorem set5_3{w:World}{b:Nat}{a0 a1 a2 a3 a4:Value}{T:TypeId}(hb:w.heap[b]?=some (.cells #[a0,a1,a2,a3,a4] T (0,0)))(v:Value):(w.setCell ⟨b,3,none⟩ v).heap[b]?=some (.cells #[a0,a1,a2,v,a4] T (0,0)):=by
 rw[bZ hb]
 rfl

theorem set5_4{w:World}{b:Nat}{a0 a1 a2 a3 a4:Value}{T:TypeId}(hb:w.heap[b]?=some (.cells #[a0,a1,a2,a3,a4] T (0,0)))(v:Value):(w.setCell ⟨b,4,none⟩ v).heap[b]?=some (.cells #[a0,a1,a2,a3,v] T (0,0)):=by
 rw[bZ hb]
 rfl

theorem Ea{P:Program}{Q:Exit->Act->World->Prop}{S:World->Prop}{l:List Oper}{id n lo:Nat}{a:Act}{w:World}(hm:P.follows .mixedOrders=true)(hd:DV l.toArray=true)(hq:∀ a w,¬ Q .outgrown a w)(hS:S w.drew)
  (h:S w.drew->wpAnyH P .any l.toArray Q S l.toArray.size (Array.replicate l.toArray.size false) a w.drew):(Code.region id l.toArray true).wpIn (Fence.wide.inRound lo) n P Q a w:=
 wpIn_region_any hm hd hq (wpAny_of_held _ _ _ _ (h hS))

def Dc(w:World)(P:Sp)(gb m base:Nat)(cs:List Cel)(e:Nat)(ov:Value):Prop:=
 w.heap[gb]?=some (.cells #[.pointer (some ⟨P.a,0,none⟩),.pointer (some ⟨P.t,0,none⟩),.map (some m),ov,.int .i64 (e:Nat)] 117 (0,0))/\
  (∃ n,n<=cs.length/\EU w m n (Ex cs))/\w.ownsRow base 3 1 ov (Bu cs).length (AB (Bu cs))/\Au 0 cs e

def ThruI(P:Sp)(gb m gv:Nat)(wl:World)(pre:List Cel)(S:Nat->Prop)(W':World):Prop:=
 ∃ ov e,Dc W' P gb m (wl.heap.size+2) pre e ov/\W'.heap[gv]?=some (.cells #[.pointer (some ⟨gb,0,none⟩)] 113 (0,0))/\(S=λ k=>k=m\/k=gb\/ov.ownBlock=some k)/\Kp (λ k=>k=m\/k=gb) wl W'

set_option maxRecDepth 20000 in
theorem through_to(P:Sp)(W:Nat->Nat)(f:Nat->Bool)(cs:List Cel)(E:Nat)(w:World)(hs:SpaceAt w P W f)(hc:CellsTo P W cs E):
  Calls prog 57 #[.pointer (some ⟨P.a,0,none⟩),.pointer (some ⟨P.t,0,none⟩)] w λ e w'=>e=.returned (.pointer (some ⟨w.heap.size+1,0,none⟩))/\(∃ ov,Dc w' P (w.heap.size+1) w.heap.size w.heap.size cs E ov)/\Kp Ab w w':=by
 have HSs:=sE hs
 have HCs:=sE hc
 have lw:=hs.lt
 have hn:=hs.ar.small
 have htl:=hc.tl
 have hEl:=hc.le
 have hlen:cs.length<=32768:=by
  have:=BD htl
  omega
 clear hs hc
 refine(callsIn_wide (n:=0)).1 ?_
 refine callsIn_of_wp_marks func57 rfl trivial ?_
 simp only[ntmps57,List.size_toArray,List.length_cons,List.length_nil,Nat.reduceAdd,Nat.reduceSub,Array.replicate_succ,Array.replicate_zero,List.push_toArray,List.append_toArray,List.nil_append,List.cons_append]
 have hmm:=@run_makeMap prog
 gi_wp2_with fail
 refine⟨trivial,rfl,?_⟩
 obtain⟨w3,hw3⟩:∃ w3,w3=((w.alloc (.map #[] 0)).alloc (.cells #[.pointer (some ⟨P.a,0,none⟩),.pointer (some ⟨P.t,0,none⟩),.map (some w.heap.size),.slice none 0 0,.int .i64 0] 117)).alloc (.cells #[.pointer (some ⟨w.heap.size+1,0,none⟩)] 113):=⟨_,rfl⟩
 rw[<- hw3]
 have k3:Kp Ab w w3:=by rw[hw3];exact (((Kr _ w).alloc _).alloc _).alloc _
 have z3:w3.heap.size=w.heap.size+3:=by rw[hw3];simp
 have m3:EU w3 w.heap.size 0 (λ _=>false):=by
  rw[hw3]
  exact(EU.made w).keep (((Kr Ab _).alloc _).alloc _) (λ h=>h)
 have g3:w3.heap[w.heap.size+1]?=some (.cells #[.pointer (some ⟨P.a,0,none⟩),.pointer (some ⟨P.t,0,none⟩),.map (some w.heap.size),.slice none 0 0,.int .i64 0] 117 (0,0)):=by
  rw[hw3]
  have:=wN (w.alloc (.map #[] 0)) (.cells #[.pointer (some ⟨P.a,0,none⟩),.pointer (some ⟨P.t,0,none⟩),.map (some w.heap.size),.slice none 0 0,.int .i64 0] 117)
  rw[show (w.alloc (.map #[] 0)).heap.size=w.heap.size+1 by simp] at this
  exact((Kr Ab _).alloc _).at_ this (λ h=>h)
 have v3:w3.heap[w.heap.size+1+1]?=some (.cells #[.pointer (some ⟨w.heap.size+1,0,none⟩)] 113 (0,0)):=by
  rw[hw3]
  have:=wN ((w.alloc (.map #[] 0)).alloc (.cells #[.pointer (some ⟨P.a,0,none⟩),.pointer (some ⟨P.t,0,none⟩),.map (some w.heap.size),.slice none 0 0,.int .i64 0] 117)) (.cells #[.pointer (some ⟨w.heap.size+1,0,none⟩)] 113)
  rw[show ((w.alloc (.map #[] 0)).alloc (.cells #[.pointer (some ⟨P.a,0,none⟩),.pointer (some ⟨P.t,0,none⟩),.map (some w.heap.size),.slice none 0 0,.int .i64 0] 117)).heap.size=w.heap.size+1+1 by simp] at this
  exact this
 clear hw3
 refine(callsIn_wide.2 (wcells_fn P w3)).mono ?_
 rintro e wl ⟨rfl,hwl⟩
 have zl:wl.heap.size=w3.heap.size+2:=by rw[<- hwl];simp
 have kl:Kp Ab w3 wl:=by rw[<- hwl];exact ((Kr _ w3).alloc _).alloc _
 have gb1:wl.heap[w3.heap.size]?=some (.cells #[.pointer (some ⟨P.a,0,none⟩)] 47 (0,0)):=by rw[<- hwl];exact ((Kr Ab _).alloc _).at_ (wN w3 _) (λ h=>h)
 have gb2:wl.heap[w3.heap.size+1]?=some (.cells #[.pointer (some ⟨P.t,0,none⟩)] 49 (0,0)):=by
  rw[<- hwl]
  have:=wN (w3.alloc (.cells #[.pointer (some ⟨P.a,0,none⟩)] 47)) (.cells #[.pointer (some ⟨P.t,0,none⟩)] 49)
  rwa [show (w3.alloc (.cells #[.pointer (some ⟨P.a,0,none⟩)] 47)).heap.size=w3.heap.size+1 by simp] at this
 clear hwl
 have KL:Kp Ab w wl:=k3.then' kl
 have SL:=HSs.out.Ad KL
 have ml:=m3.keep kl (λ h=>h)
 have gl:=kl.at_ g3 (λ h=>h)
 have vl:=kl.at_ v3 (λ h=>h)
 rw[z3] at gb1 gb2 zl
 clear m3 g3 v3 k3 hmm
 gi_wp2_with fail
 try rw[z3]
 clear kl z3
 obtain⟨B,hB⟩:∃ B,w.heap.size=B:=⟨_,rfl⟩
 rw[hB] at zl gb1 gb2 ml gl vl lw ⊢
 refine wpIn_range3 (n:=0) (gf:=146) (lb:=#[.pointer (some ⟨B+3,0,none⟩),.pointer (some ⟨B+3+1,0,none⟩)]) rfl (enters_of func146 (by kernel_rfl) rfl)
  (wcells_iter3 P W f cs E wl (B+3) (B+3+1) SL HCs.out gb1 gb2 (R:=λ k=>k=B\/k=B+1) (λ k hk=>⟨by omega,by omega,by omega,λ h=>by have:=lw _ h;omega⟩)) (λ k hk=>hk.elim) (λ k hk=>by omega)
  (X:=λ _=>False) (λ k hk=>hk.elim) (λ _=>rfl)
  (λ pre S W'=>ThruI P (B+1) B (B+1+1) wl pre S W') (λ c pre W'=>False) (λ k=>k=B\/k=B+1\/(Value.slice none 0 0).ownBlock=some k) ?hS ?hI ?hIx ?h0 ?hround ?hdone ?hstop
 case hS=>
  rintro pre S A ⟨ov,e,⟨a1,⟨n,hn',a2⟩,a3,a4⟩,a5,rfl,a6⟩ k hk
  rcases hk with hk|hk|hk
  .exact ⟨.inl (.inl hk),by have:=lZ a1;omega⟩
  .exact ⟨.inl (.inr hk),by have:=lZ a1;omega⟩
  .have:=Af a3 hk
   exact⟨.inr this.1,this.2⟩
 case hI=>
  rintro pre S A A' ⟨ov,e,⟨a1,⟨n,hn',a2⟩,a3,a4⟩,a5,a6,a7⟩ hk
  exact⟨ov,e,⟨hk.at_ a1 (λ h=>by rcases h with h|h|h;exact h;omega;omega),⟨n,hn',a2.keep hk (λ h=>by rcases h with h|h|h;exact h;omega;omega)⟩,
   Ai a3 hk (λ b hb h=>by have:=Af a3 hb;rcases h with h|h|h;exact h;omega;omega),a4⟩,hk.at_ a5 (λ h=>by rcases h with h|h|h;exact h;omega;omega),a6,
   a7.trans hk (λ b hb h=>by rcases h with h|h|h;exact h.elim;omega;omega)⟩
 case hIx=>exact λ c pre A B h hk=>h
 case h0=>exact ⟨_,0,⟨gl,⟨0,Nat.le_refl _,ml⟩,World.ownsRow_nil wl _ _ _,rfl⟩,vl,rfl,Kr _ _⟩
 case hround=>
  rintro pre S x rest W' hx ⟨ov,e,⟨a1,⟨n,hn',a2⟩,a3,a4⟩,a5,hSe,a6⟩ hs
  have hpl:pre.length+1<=cs.length:=by rw[hx];simp
  have hxt:=htl
  rw[hx] at hxt
  obtain⟨e',t1,t2,t3,t4⟩:=hxt.split
  obtain rfl:e'=e:=tiles_same t1 a4
  have HXg:Sl (x.g=e'):=⟨t2⟩
  have hxs:=t4.le
  have hg0:x.g<=32768:=by omega
  have hs0:x.g+x.sz<=32768:=by omega
  have HT2:Sl (Au 0 (pre++[x]) (e'+x.sz)):=⟨Au.append (a:=0) a4 ⟨t2,t3,rfl⟩⟩
  clear t1 t2 t4 hxt hxs
  unfold cellV
  gi_wp2_with fail
  refine⟨(Kr _ W').alloc _,?_⟩
  intro W2 hc2 hf2 hk2 hs2 hr2
  have kW:Kp Ab W' (W'.alloc (.cells #[.int .i64 (x.g:Nat),.int .u8 (x.tag:Nat),.int .i64 (x.ty:Nat),.int .i64 (x.ln:Nat),.int .i64 (x.sz:Nat)] 71)):=(Kr _ W').alloc _
  have bc:=hk2.at_ (wN W' (.cells #[.int .i64 (x.g:Nat),.int .u8 (x.tag:Nat),.int .i64 (x.ty:Nat),.int .i64 (x.ln:Nat),.int .i64 (x.sz:Nat)] 71)) (by omega)
  have zW2:W2.heap.size=W'.heap.size+1:=by rw[hs2];simp
  have lg:=lZ a1
  have lv:=lZ a5
  have lm:=a2.lt
  have HnC:Sl (¬ ov.ownBlock=some W'.heap.size):=⟨λ h=>by have:=Af a3 h;omega⟩
  have o2:(W2).ownsRow (wl.heap.size+2) 3 1 ov (Bu pre).length (AB (Bu pre)):=Ai (Ai a3 kW (λ b hb h=>h)) hk2 (λ b hb h=>by have:=Af a3 hb;omega)
  have g2:=hk2.at_ (kW.at_ a1 (λ h=>h)) (by omega)
  have v2:=hk2.at_ (kW.at_ a5 (λ h=>h)) (by omega)
  have m2:=(a2.keep kW (λ h=>h)).keep hk2 (by omega)
  have kk2:Kp (λ k=>k=wl.heap.size+1) W' W2:=(kW.Ak _).trans hk2 (λ b hb h=>h)
  obtain⟨d0,d1,d2,d3,d4⟩:=Cf bc
  have c0:=cell_of_one v2
  have Hbc:=sE bc
  have HV2:=sE v2
  have HO2:=sE o2
  have HM2:=sE m2
  have HA6:=sE a6
  have HK2:=sE kk2
  have HSe:=sE hSe
  have HG2:=sE g2
  have lc:W'.heap.size<W2.heap.size:=by omega
  have hgm:wl.heap.size+2<=W'.heap.size:=hs
  clear a1 a2 a3 a4 a5 a6 o2 m2 kk2 kW hk2 hc2 hf2 hr2 hs2 gl vl ml gb1 gb2 v2 bc hSe KL SL
  by_cases ht:x.tag=1
  .have t1:((x.tag:Int)==1)=true:=by simp[ht]
   have hol:(Bu pre).length<=32768:=by have:=obsG_len pre;omega
   obtain⟨e0,e1,e2,e3,e4⟩:=Cf g2
   clear g2 e0 e1 e4 d2 d3
   gi_wp2_with fail
   refine Bj 6 (by kernel_rfl) (by kernel_rfl) (by kernel_rfl) (λ _ _ h=>h) ?_
   simp only[List.take_succ_cons,List.take_zero,List.drop_succ_cons,List.drop_zero]
   repeat (go_big_quiet_step (fail))
   refine wpQuiet_nil ?_
   intro _ hw'
   obtain⟨nq,hw''⟩:=hw'
   subst hw''
   have kq:Kp Ab W2 (W2.drewN nq):=Kp.Aj _
   obtain⟨w5,hrun,m5,k5⟩:=(HM2.out.keep kq (λ h=>h)).put (by unfold maxLen;omega) (FN (g:=x.g) (by omega))
   go_wp2_with fail
   have K5:Kp (λ k=>k=B) W2 w5:=(kq.Ak _).trans k5 (λ b hb h=>h)
   clear hrun kq k5
   have o5:=Ai HO2.out K5 (λ b hb h=>by have:=Af HO2.out hb;omega)
   have g5:=K5.at_ HG2.out (by omega)
   have v5:=K5.at_ HV2.out (by omega)
   have b5:=K5.at_ Hbc.out (by omega)
   have z5:=K5.size
   obtain⟨d0,d1,d2,d3,d4⟩:=Cf b5
   obtain⟨e0,e1,e2,e3,e4⟩:=Cf g5
   have c0:=cell_of_one v5
   have HO5:=sE o5
   have HG5:=sE g5
   have HV5:=sE v5
   have Hb5:=sE b5
   have HM5:=sE m5
   have HK5:=sE K5
   clear o5 g5 v5 b5 m5 K5 d1 d2 d3 e0 e1 e2 e4
   refine Ea (S:=λ w'=>w'.cell? ⟨B+1+1,0,none⟩=some (.pointer (some ⟨B+1,0,none⟩))/\w'.cell? ⟨W'.heap.size,0,none⟩=some (.int .i64 (x.g:Nat))) (by kernel_rfl) (by kernel_rfl) (λ _ _ h=>h) ⟨c0,d0⟩ (λ qZ=>?_)
   refine Ao 0 ?_;refine Ao 1 ?_;refine Ao 2 ?_;refine Ao 3 ?_;refine Ao 5 ?_;refine Ao 6 ?_
   try simp only[Ar]
   refine AQ [4,7] ?_
   refine Ah rfl (λ K hK=>?_) (Ag rfl (λ K hK=>?_))
   .go_simp
    refine hK _ _ ?_ (λ hHeld2=>?_)
    .exact qZ
    clear hK K
    try simp only[Ar]
    refine AQ [7] ?_
    refine Ag rfl (λ K hK=>?_)
    go_simp
    refine hK _ _ ?_ (λ hHeld2=>?_)
    .exact ⟨((Kr Ab _).alloc _).cell qZ.1 (λ h=>h),((Kr Ab _).alloc _).cell qZ.2 (λ h=>h)⟩
    clear hK K
    try simp only[Ar]
    obtain⟨w6,hw6⟩:∃ w6,w6=(w5.alloc (.cells #[.int .i64 (x.g:Nat)] 3)).drew:=⟨_,rfl⟩
    have k6:Kp Ab w5 w6:=by rw[hw6];exact ((Kr _ w5).alloc _).drew
    have bn:w6.heap[w5.heap.size]?=some (.cells #[.int .i64 (x.g:Nat)] 3 (0,0)):=by rw[hw6];exact wN w5 _
    rw[<- hw6]
    clear hw6 hHeld2
    have o6:=Ai HO5.out k6 (λ b hb h=>h)
    have g6:=k6.at_ HG5.out (λ h=>h)
    have v6:=k6.at_ HV5.out (λ h=>h)
    have b6:=k6.at_ Hb5.out (λ h=>h)
    have z6:=k6.size
    have HM6:=sE (HM5.out.keep k6 (λ h=>h))
    have HK6:Sl (Kp (λ k=>k=B) W2 w6):=⟨HK5.out.trans k6 (λ b hb h=>h.elim)⟩
    have HnG:¬ ov.ownBlock=some (B+1):=λ h=>by have:=Af o6 h;omega
    have HnV:¬ ov.ownBlock=some (B+1+1):=λ h=>by have:=Af o6 h;omega
    have HnM:Sl (¬ ov.ownBlock=some B):=⟨λ h=>by have:=Af o6 h;omega⟩
    obtain⟨i0,hi,hz0,hz1,hz2⟩:=info_parts Cv
    refine AQ [8] ?_
    refine Ag rfl (λ K hK=>?_)
    refine Dq rfl rfl (.tmp 30) (.tmp 33) 82 rfl (wl.heap.size+2) 3 i0 (.int .i64 0) 1 8 AP hi hz0 hz1 hz2 rfl (by omega) ov (Bu pre).length (AB (Bu pre)) rfl o6 ⟨w5.heap.size,0,none⟩ 1 _ [.int .i64 (x.g:Nat)] rfl rfl (World.news_of_block bn) (by intro u hu;simp at hu;subst hu;rfl) (by unfold maxLen;omega) (by omega) (by omega) ?_
    intro nv w7 hown7 hgrow hblk
    obtain⟨na,nn,nc,hnv⟩:∃ a n c,nv=.slice a n c:=by
     rcases hown7.2 with ⟨h,_⟩|⟨g,cap,cur,h,_⟩
     .exact ⟨_,_,_,h⟩
     .exact ⟨_,_,_,h⟩
    subst hnv
    clear hi hz0 hz1 hz2
    have KA:Kp (λ b=>ov.ownBlock=some b) w6 w7:=(Kr _ w6).grown hgrow (λ k e _=>e)
    have g7:=KA.at_ g6 HnG
    have v7:=KA.at_ v6 HnV
    have b7:=KA.at_ b6 HnC.out
    have f7:=Ae g7 3
    have e73:=(Cf g7).2.2.2.1
    refine hK _ _ ?_ (λ hHeld4=>?_)
    .exact ⟨cell_of_one v7,(Cf b7).1⟩
    clear hK K
    try simp only[Ar]
    refine Ao 9 ?_;refine Ao 10 ?_
    try simp only[Ar]
    refine AQ [11] ?_
    refine Ag rfl (λ K hK=>?_)
    go_simp
    refine hK _ _ ?_ (λ hHeld5=>?_)
    .exact ⟨cell_of_one (((Kr (λ k=>k=B+1) w7).setCell (λ _=>rfl) _).at_ v7 (by omega)),(Cf (((Kr (λ k=>k=B+1) w7).setCell (λ _=>rfl) _).at_ b7 (by omega))).1⟩
    clear hK K
    try simp only[Ar]
    refine wpAnyH_done (by kernel_rfl) ?_ _
    have HG7:=sE g7
    have HO7:=sE hown7
    have HKA:=sE KA
    have hgn:∀ b,(Value.slice na nn nc).ownBlock=some b->wl.heap.size+2<=b:=λ b hb=>(Af hown7 hb).1
    have HGN:=sE hgn
    clear hown7 hgrow hblk f7 e73 hHeld4 hHeld5 o6 g6 v6 b6 bn k6 hgn
    obtain⟨w8,hw8⟩:∃ w8,w8=w7.setCell ⟨B+1,3,none⟩ (Value.slice na nn nc):=⟨_,rfl⟩
    rw[<- hw8]
    have k8:Kp (λ k=>k=B+1) w7 w8:=by rw[hw8];exact (Kr (λ k=>k=B+1) w7).setCell (λ _=>rfl) _
    have g8:=set5_3 HG7.out (Value.slice na nn nc)
    rw[<- hw8] at g8
    clear hw8
    have v8:=k8.at_ v7 (by omega)
    have b8:=k8.at_ b7 (by omega)
    obtain⟨d0,d1,d2,d3,d4⟩:=Cf b8
    have c0:=cell_of_one v8
    have e84:=(Cf g8).2.2.2.2
    have f84:=Ae g8 4
    have HV8:=sE v8
    have HG8:=sE g8
    have HK8:=sE k8
    clear g7 v7 b7 v8 b8 g8 k8 KA d1 d2 d3
    gi_wp2_with fail
    have KB:Kp (λ k=>k=B+1) w8 (w8.setCell ⟨B+1,4,none⟩ (.int .i64 ((x.g:Int)+(x.sz:Int)))):=(Kr (λ k=>k=B+1) w8).setCell (λ _=>rfl) _
    have hG:=set5_4 HG8.out (.int .i64 ((x.g:Int)+(x.sz:Int)))
    rw[show (x.g:Int)+(x.sz:Int)=((e'+x.sz:Nat):Int) by have:=HXg.out;omega] at hG KB ⊢
    have KK:Kp (λ k=>k=B\/k=B+1\/ov.ownBlock=some k) W2 (w8.setCell ⟨B+1,4,none⟩ (.int .i64 ((e'+x.sz:Nat):Int))):=
     (((HK6.out.mono λ b hb h=>.inl h).trans HKA.out (λ b hb h=>.inr (.inr h))).trans HK8.out (λ b hb h=>.inr (.inl h))).trans KB (λ b hb h=>.inr (.inl h))
    have K79:Kp (λ k=>k=B+1) w7 (w8.setCell ⟨B+1,4,none⟩ (.int .i64 ((e'+x.sz:Nat):Int))):=HK8.out.trans KB (λ b hb h=>h)
    refine⟨KK.mono λ b hb h=>by rw[HSe.out];exact h,_,(Value.slice na nn nc),e'+x.sz,⟨hG,⟨n+1,by simp;omega,?_⟩,?_,HT2.out⟩,KB.at_ HV8.out (by omega),rfl,?_⟩
    .rw [show Ex (pre++[x])=(λ g=>Ex pre g||g==(x.g:Int)) from funext λ g=>by
      rw[startI_add]
      have:((x.g:Int)==g)=(g==(x.g:Int)):=by rw[Bool.eq_iff_iff,beq_iff_eq,beq_iff_eq];exact eq_comm
      simp[ht,this]]
     exact(HM6.out.keep HKA.out HnM.out).keep K79 (by omega)
    .rw [obsG_add,if_pos ht,AB,List.map_append,List.length_append]
     exact Ai HO7.out K79 (λ b hb h=>by have:=HGN.out b hb;omega)
    .exact (HA6.out.trans HK2.out (λ b hb h=>by omega)).trans KK (λ b hb h=>by
      rcases h with h|h|h
      .exact .inl h
      .exact .inr h
      .have:=Af HO2.out h;omega)
   .go_simp
    refine hK _ _ ?_ (λ hHeld2=>?_)
    .exact ⟨((Kr Ab _).alloc _).cell qZ.1 (λ h=>h),((Kr Ab _).alloc _).cell qZ.2 (λ h=>h)⟩
    clear hK K
    try simp only[Ar]
    have e3':(w5.alloc (.cells #[.int .i64 (x.g:Nat)] 3)).drew.cell? ⟨B+1,3,none⟩=some ov:=(((Kr Ab w5).alloc _).drew).cell e3 (λ h=>h)
    refine AQ [4] ?_
    refine Ag rfl (λ K hK=>?_)
    go_simp
    refine hK _ _ ?_ (λ hHeld3=>?_)
    .exact hHeld2
    clear hK K
    try simp only[Ar]
    obtain⟨w6,hw6⟩:∃ w6,w6=(w5.alloc (.cells #[.int .i64 (x.g:Nat)] 3)).drew:=⟨_,rfl⟩
    have k6:Kp Ab w5 w6:=by rw[hw6];exact ((Kr _ w5).alloc _).drew
    have bn:w6.heap[w5.heap.size]?=some (.cells #[.int .i64 (x.g:Nat)] 3 (0,0)):=by rw[hw6];exact wN w5 _
    rw[<- hw6]
    clear hw6 hHeld2
    have o6:=Ai HO5.out k6 (λ b hb h=>h)
    have g6:=k6.at_ HG5.out (λ h=>h)
    have v6:=k6.at_ HV5.out (λ h=>h)
    have b6:=k6.at_ Hb5.out (λ h=>h)
    have z6:=k6.size
    have HM6:=sE (HM5.out.keep k6 (λ h=>h))
    have HK6:Sl (Kp (λ k=>k=B) W2 w6):=⟨HK5.out.trans k6 (λ b hb h=>h.elim)⟩
    have HnG:¬ ov.ownBlock=some (B+1):=λ h=>by have:=Af o6 h;omega
    have HnV:¬ ov.ownBlock=some (B+1+1):=λ h=>by have:=Af o6 h;omega
    have HnM:Sl (¬ ov.ownBlock=some B):=⟨λ h=>by have:=Af o6 h;omega⟩
    obtain⟨i0,hi,hz0,hz1,hz2⟩:=info_parts Cv
    refine AQ [8] ?_
    refine Ag rfl (λ K hK=>?_)
    refine Dq rfl rfl (.tmp 30) (.tmp 33) 82 rfl (wl.heap.size+2) 3 i0 (.int .i64 0) 1 8 AP hi hz0 hz1 hz2 rfl (by omega) ov (Bu pre).length (AB (Bu pre)) rfl o6 ⟨w5.heap.size,0,none⟩ 1 _ [.int .i64 (x.g:Nat)] rfl rfl (World.news_of_block bn) (by intro u hu;simp at hu;subst hu;rfl) (by unfold maxLen;omega) (by omega) (by omega) ?_
    intro nv w7 hown7 hgrow hblk
    obtain⟨na,nn,nc,hnv⟩:∃ a n c,nv=.slice a n c:=by
     rcases hown7.2 with ⟨h,_⟩|⟨g,cap,cur,h,_⟩
     .exact ⟨_,_,_,h⟩
     .exact ⟨_,_,_,h⟩
    subst hnv
    clear hi hz0 hz1 hz2
    have KA:Kp (λ b=>ov.ownBlock=some b) w6 w7:=(Kr _ w6).grown hgrow (λ k e _=>e)
    have g7:=KA.at_ g6 HnG
    have v7:=KA.at_ v6 HnV
    have b7:=KA.at_ b6 HnC.out
    have f7:=Ae g7 3
    have e73:=(Cf g7).2.2.2.1
    refine hK _ _ ?_ (λ hHeld4=>?_)
    .exact ⟨cell_of_one v7,(Cf b7).1⟩
    clear hK K
    try simp only[Ar]
    refine Ao 9 ?_;refine Ao 10 ?_
    try simp only[Ar]
    refine AQ [11] ?_
    refine Ag rfl (λ K hK=>?_)
    go_simp
    refine hK _ _ ?_ (λ hHeld5=>?_)
    .exact ⟨cell_of_one (((Kr (λ k=>k=B+1) w7).setCell (λ _=>rfl) _).at_ v7 (by omega)),(Cf (((Kr (λ k=>k=B+1) w7).setCell (λ _=>rfl) _).at_ b7 (by omega))).1⟩
    clear hK K
    try simp only[Ar]
    refine wpAnyH_done (by kernel_rfl) ?_ _
    have HG7:=sE g7
    have HO7:=sE hown7
    have HKA:=sE KA
    have hgn:∀ b,(Value.slice na nn nc).ownBlock=some b->wl.heap.size+2<=b:=λ b hb=>(Af hown7 hb).1
    have HGN:=sE hgn
    clear hown7 hgrow hblk f7 e73 hHeld4 hHeld5 o6 g6 v6 b6 bn k6 hgn
    obtain⟨w8,hw8⟩:∃ w8,w8=w7.setCell ⟨B+1,3,none⟩ (Value.slice na nn nc):=⟨_,rfl⟩
    rw[<- hw8]
    have k8:Kp (λ k=>k=B+1) w7 w8:=by rw[hw8];exact (Kr (λ k=>k=B+1) w7).setCell (λ _=>rfl) _
    have g8:=set5_3 HG7.out (Value.slice na nn nc)
    rw[<- hw8] at g8
    clear hw8
    have v8:=k8.at_ v7 (by omega)
    have b8:=k8.at_ b7 (by omega)
    obtain⟨d0,d1,d2,d3,d4⟩:=Cf b8
    have c0:=cell_of_one v8
    have e84:=(Cf g8).2.2.2.2
    have f84:=Ae g8 4
    have HV8:=sE v8
    have HG8:=sE g8
    have HK8:=sE k8
    clear g7 v7 b7 v8 b8 g8 k8 KA d1 d2 d3
    gi_wp2_with fail
    have KB:Kp (λ k=>k=B+1) w8 (w8.setCell ⟨B+1,4,none⟩ (.int .i64 ((x.g:Int)+(x.sz:Int)))):=(Kr (λ k=>k=B+1) w8).setCell (λ _=>rfl) _
    have hG:=set5_4 HG8.out (.int .i64 ((x.g:Int)+(x.sz:Int)))
    rw[show (x.g:Int)+(x.sz:Int)=((e'+x.sz:Nat):Int) by have:=HXg.out;omega] at hG KB ⊢
    have KK:Kp (λ k=>k=B\/k=B+1\/ov.ownBlock=some k) W2 (w8.setCell ⟨B+1,4,none⟩ (.int .i64 ((e'+x.sz:Nat):Int))):=
     (((HK6.out.mono λ b hb h=>.inl h).trans HKA.out (λ b hb h=>.inr (.inr h))).trans HK8.out (λ b hb h=>.inr (.inl h))).trans KB (λ b hb h=>.inr (.inl h))
    have K79:Kp (λ k=>k=B+1) w7 (w8.setCell ⟨B+1,4,none⟩ (.int .i64 ((e'+x.sz:Nat):Int))):=HK8.out.trans KB (λ b hb h=>h)
    refine⟨KK.mono λ b hb h=>by rw[HSe.out];exact h,_,(Value.slice na nn nc),e'+x.sz,⟨hG,⟨n+1,by simp;omega,?_⟩,?_,HT2.out⟩,KB.at_ HV8.out (by omega),rfl,?_⟩
    .rw [show Ex (pre++[x])=(λ g=>Ex pre g||g==(x.g:Int)) from funext λ g=>by
      rw[startI_add]
      have:((x.g:Int)==g)=(g==(x.g:Int)):=by rw[Bool.eq_iff_iff,beq_iff_eq,beq_iff_eq];exact eq_comm
      simp[ht,this]]
     exact(HM6.out.keep HKA.out HnM.out).keep K79 (by omega)
    .rw [obsG_add,if_pos ht,AB,List.map_append,List.length_append]
     exact Ai HO7.out K79 (λ b hb h=>by have:=HGN.out b hb;omega)
    .exact (HA6.out.trans HK2.out (λ b hb h=>by omega)).trans KK (λ b hb h=>by
      rcases h with h|h|h
      .exact .inl h
      .exact .inr h
      .have:=Af HO2.out h;omega)
  .have t1:((x.tag:Int)==1)=false:=by simp;omega
   obtain⟨e0,e1,e2,e3,e4⟩:=Cf g2
   have f4:=Ae g2 4
   clear g2 e0 e1 e2 e3 d2 d3
   gi_wp2_with fail
   have KB:Kp (λ k=>k=B+1) W2 (W2.setCell ⟨B+1,4,none⟩ (.int .i64 ((x.g:Int)+(x.sz:Int)))):=(Kr (λ k=>k=B+1) W2).setCell (λ _=>rfl) _
   have hG:=set5_4 HG2.out (.int .i64 ((x.g:Int)+(x.sz:Int)))
   rw[show (x.g:Int)+(x.sz:Int)=((e'+x.sz:Nat):Int) by have:=HXg.out;omega] at hG KB ⊢
   refine⟨KB.mono λ b hb h=>by rw[HSe.out];exact .inr (.inl h),_,ov,e'+x.sz,⟨hG,⟨n,by simp;omega,?_⟩,?_,HT2.out⟩,KB.at_ HV2.out (by omega),rfl,?_⟩
   .rw [show Ex (pre++[x])=Ex pre from funext λ g=>by rw[startI_add];simp [ht]]
    exact HM2.out.keep KB (by omega)
   .rw [obsG_add,if_neg ht,List.append_nil]
    exact Ai HO2.out KB (λ b hb h=>by have:=Af HO2.out hb;omega)
   .exact (HA6.out.trans HK2.out (λ b hb h=>by omega)).trans KB (λ b hb h=>.inr h)
 case hdone=>
  rintro S W' ⟨ov,e,⟨a1,⟨n,hn',a2⟩,a3,a4⟩,a5,-,a6⟩ hs hD
  obtain rfl:e=E:=tiles_same a4 htl
  have c0:=cell_of_one a5
  have HA1:=sE a1
  have HA2:=sE a2
  have HA3:=sE a3
  have HA4:=sE a4
  have HA6:=sE a6
  clear a1 a2 a3 a4 a6 gl vl ml gb1 gb2
  gi_wp2_with fail
  refine⟨by simp,.inl ⟨_,_,rfl,run_takeDeferred hD,?_⟩⟩
  have kE:Kp (λ b=>b=wl.heap.size) W' (W'.putObj wl.heap.size (.deferred none)):=(Kr (λ b=>b=wl.heap.size) W').putObj (λ _=>rfl) _
  refine⟨.pointer (some ⟨B+1,0,none⟩),by simp[results,results57,go_sem],by rw[hB],⟨ov,by rw[hB];exact ⟨kE.at_ HA1.out (by omega),⟨n,hn',HA2.out.keep kE (by omega)⟩,ownsRow_less (Ai HA3.out kE (λ b hb h=>by have:=Af HA3.out hb;omega)) (by omega),HA4.out⟩⟩,?_⟩
  exact(KL.trans HA6.out (λ b hb h=>by omega)).trans kE (λ b hb h=>by omega)
 case hstop=>exact λ c pre W' hp h=>h.elim

end

section
open Go.RowKit

theorem SWord_no(y:Nat)(w:World)(h:y<1048576\/1114112<=y)(hy:y<18446744073709551616):Calls prog 63 #[.int .u64 (y:Nat)] w λ e w'=>e=.returned (.tuple #[.int .i64 0,.bool false])/\w'=w:=by
 by_cases h1:y<1048576
 .have d1:decide ((y:Int)<1048576)=true:=dT (by omega)
  clear h
  go_enter func63,ntmps63
  go_wp2
  go_ret2
  exact⟨rfl,rfl⟩
 .have d1:decide ((y:Int)<1048576)=false:=dF (by omega)
  have d2:decide ((65536:Int)<=(y:Int)-1048576)=true:=dT (by omega)
  have d3:IntKind.u64.wrap ((y:Int)-1048576)=(y:Int)-1048576:=by rw[IntKind.wrap_u64];omega
  clear h
  go_enter func63,ntmps63
  go_wp2
  go_ret2
  exact⟨rfl,rfl⟩

theorem SWord_yes(n:Nat)(w:World)(h:n<65536):Calls prog 63 #[.int .u64 ((1048576+n:Nat):Int)] w λ e w'=>e=.returned (.tuple #[.int .i64 (n:Nat),.bool true])/\w'=w:=by
 obtain⟨y,hy⟩:∃ y,y=1048576+n:=⟨_,rfl⟩
 rw[<- hy]
 have HY:Sl ((y:Int)-1048576=(n:Nat)):=⟨by omega⟩
 have d1:decide ((y:Int)<1048576)=false:=dF (by omega)
 have d2:decide ((65536:Int)<=(y:Int)-1048576)=false:=dF (by omega)
 have d3:IntKind.u64.wrap ((y:Int)-1048576)=(y:Int)-1048576:=by rw[IntKind.wrap_u64];omega
 have d4:IntKind.i64.wrap ((y:Int)-1048576)=(y:Int)-1048576:=by rw[IntKind.wrap_i64];omega
 clear hy
 go_enter func63,ntmps63
 go_wp2
 go_ret2
 exact⟨by rw[HY.out];rfl,rfl⟩

def tgt(cs:List Cel)(y:Nat):Int:=if 1048576<=y/\y<1114112/\(y-1048576)%2=0/\Aq cs ((y-1048576)/2)=true then (((y-1048576)/2:Nat):Int) else -1

theorem target_at(P:Sp)(gb m base e:Nat)(cs:List Cel)(ov:Value)(w:World)(hg:Dc w P gb m base cs e ov)(y:Nat)(hy:y<18446744073709551616):
  Calls prog 111 #[.pointer (some ⟨gb,0,none⟩),.int .u64 (y:Nat)] w λ e' w'=>e'=.returned (.int .i64 (tgt cs y))/\w'=w:=by
 obtain⟨g1,⟨n,hn,m1⟩,-,-⟩:=hg
 obtain⟨e0,e1,e2,e3,e4⟩:=Cf g1
 clear e0 e1 e3 e4 g1
 by_cases hb:1048576<=y/\y<1114112
 .obtain ⟨k,rfl⟩:∃ k,y=1048576+k:=⟨y-1048576,by omega⟩
  have hk:k<65536:=by omega
  have HW:=sE (SWord_yes k w hk)
  have ht:tgt cs (1048576+k)=if k%2=0/\Aq cs (k/2)=true then ((k/2:Nat):Int) else -1:=by
   unfold tgt
   rw[show 1048576+k-1048576=k by omega]
   by_cases q:k%2=0/\Aq cs (k/2)=true
   .rw [if_pos q,if_pos ⟨by omega,by omega,q.1,q.2⟩]
   .rw [if_neg q,if_neg (λ h=>q ⟨h.2.2.1,h.2.2.2⟩)]
  rw[ht]
  have HD:Sl ((k:Int)/2=((k/2:Nat):Int)):=⟨by omega⟩
  have hlook:=m1.look (FN (g:=k/2) (by omega))
  rw[startI_nat,<- HD.out] at hlook
  clear ht hb hy
  by_cases q1:k%2=0
  .have p1:((k:Int)%2 !=0)=false:=by simp;omega
   cases q2:Aq cs (k/2) with
   |true=>
    rw[q2] at hlook
    rw[if_pos ⟨q1,rfl⟩,<- HD.out]
    clear q1 q2
    go_enter func111,ntmps111
    go_wp2_with fail
    refine HW.out.mono ?_
    rintro e w' ⟨rfl,rfl⟩
    go_wp2
    go_ret
    exact⟨rfl,rfl⟩
   |false=>
    rw[q2] at hlook
    rw[if_neg (by simp)]
    clear q1 q2
    go_enter func111,ntmps111
    go_wp2_with fail
    refine HW.out.mono ?_
    rintro e w' ⟨rfl,rfl⟩
    go_wp2
    go_ret
    exact⟨rfl,rfl⟩
  .have p1:((k:Int)%2 !=0)=true:=by simp;omega
   rw[if_neg (λ h=>q1 h.1)]
   clear q1 hlook
   go_enter func111,ntmps111
   go_wp2_with fail
   refine HW.out.mono ?_
   rintro e w' ⟨rfl,rfl⟩
   go_wp2
   go_ret
   exact⟨rfl,rfl⟩
 .have HW:=sE (SWord_no y w (by omega) hy)
  have ht:tgt cs y=-1:=by unfold tgt;rw [if_neg (λ h=>hb ⟨h.1,h.2.1⟩)]
  rw[ht]
  clear ht hb hy
  go_enter func111,ntmps111
  go_wp2_with fail
  refine HW.out.mono ?_
  rintro e w' ⟨rfl,rfl⟩
  go_wp2
  go_ret
  exact⟨rfl,rfl⟩

end

section
open Go.RowKit

def slotN(ts:List TypR)(c:Cel):Nat:=if c.tag=1 then (match typeOf ts (c.ty:Nat) with|some x=>(AR x.k x.wds (c.ln:Nat)).toNat|none=>0) else 0

theorem slotN_room{ts:List TypR}{c:Cel}(hok:Dh ts c)(hs:0<c.sz):slotN ts c+1<=2*c.sz:=by
 unfold slotN
 split
 .rename_i ht
  obtain⟨e1,e2⟩:=hok.2 ht
  split
  .rename_i x hx
   unfold Bq at e2
   rw[hx] at e2
   simp only[Fp] at e2
   omega
  .omega
 .omega

def cnt(p:Nat->Bool):Nat->Nat
 |0=>0
 |k+1=>cnt p k+(if p k then 1 else 0)

end

end Go.Proofs.YtmfajopmppfldaaGreatDoor
