/-
  Lemmas for the laws, together: WalkA, WalkB, WalkCheck.
-/
import Derived.Test.YtmfajopmppfldaaGreatDoorQe
import Derived.Maps.Own
import Derived.Maps.OwnSet
import Derived.Test.YtmfajopmppfldaaGreatDoorQd
import Derived.Test.YtmfajopmppfldaaGreatDoorQc
import Derived.Test.YtmfajopmppfldaaGreatDoorQa
import Derived.Laws.EntriesVeiled
import Derived.Test.YtmfajopmppfldaaGreatDoorQf
import Derived.Maps.OwnIn
import Derived.Sort.CutIn
set_option linter.unusedVariables false
set_option maxHeartbeats 16000000
namespace Go.Proofs.YtmfajopmppfldaaGreatDoor
open Go.Proofs.Tryz
section
open Go.RowKit

def StopW(ts:List TypR)(H:Nat)(W:Nat->Nat)(g:Nat):Prop:=
 BJ (W (2*g))=false\/(CP (W (2*g))=1/\¬ (AQ ts (Ex (W (2*g)):Nat) (EM (W (2*g)):Nat)=0/\Bj ts (Ex (W (2*g)):Nat) (EM (W (2*g)):Nat)=(DL (W (2*g)):Nat)))\/H-g<DL (W (2*g))

structure CellsTo(P:Sp)(W:Nat->Nat)(cs:List Cel)(e:Nat):Prop where
 tl:Au 0 cs e
 le:e<=P.n/2
 hd:HeadsAt W cs
 ok:∀ c∈cs,C8 P.ts c
 stop:e=P.n/2\/StopW P.ts (P.n/2) W e

theorem CellsAt.to{P:Sp}{W:Nat->Nat}{cs:List Cel}(h:CellsAt P W cs):CellsTo P W cs (P.n/2):=⟨h.tl,Nat.le_refl _,h.hd,h.ok,.inl rfl⟩

theorem CellsTo.at_{P:Sp}{W:Nat->Nat}{cs:List Cel}(h:CellsTo P W cs (P.n/2)):CellsAt P W cs:=⟨h.tl,h.hd,h.ok⟩

theorem decOk_head{X:Nat}(h:BJ X=true):Am (CP X:Nat) (Ex X:Nat) (EM X:Nat) (DL X:Nat)=true:=by
 unfold BJ at h
 rw[Bool.and_eq_true] at h
 exact h.1

theorem Fits_obj_no(ty ln sz:Int)(t q:Nat)(ts:List TypR)(w:World)(hF:Aq w)(hT:TableAt w t q ts)(h:Am 1 ty ln sz=true)(hn:¬ (AQ ts ty ln=0/\Bj ts ty ln=sz)):
  Calls prog 51 #[.pointer (some ⟨t,0,none⟩),Ak 1 ty ln sz] w λ e w'=>e=.returned (.int .i64 8)/\Kp Ab w w':=by
 have kA:=(Kr Ab w).alloc (.cells #[.int .u8 1,.int .i64 ty,.int .i64 ln,.int .i64 sz] 52)
 have b0:=wN w (.cells #[.int .u8 1,.int .i64 ty,.int .i64 ln,.int .i64 sz] 52)
 have CK:=Dz 1 ty ln sz _ (hF.Ad kA)
 rw[h] at CK
 by_cases he:AQ ts ty ln=0
 .obtain ⟨S,hS⟩:∃ S,Bj ts ty ln=S:=⟨_,rfl⟩
  have hne:(S==sz)=false:=by
   rw[beq_eq_false_iff_ne]
   exact λ q=>hn ⟨he,hS.trans q⟩
  have CO:∀ W,Kp Ab w W->Calls prog 102 #[.pointer (some ⟨t,0,none⟩),.int .i64 ty,.int .i64 ln] W λ e w'=>e=.returned (.tuple #[Ak 1 ty ln S,.int .i64 0])/\Kp Ab W w':=λ W k=>
   (EB ty ln t q ts W (hT.Ad k)).mono λ e w' hp=>by rw[BF,he,if_pos rfl,hS] at hp;exact hp
  unfold Ak at CK CO ⊢
  have HC:=sE CK
  have HO:=sE CO
  have hrn:∀ w,(binOp .neq 52 (.agg #[.int .u8 1,.int .i64 ty,.int .i64 ln,.int .i64 S]) (.agg #[.int .u8 1,.int .i64 ty,.int .i64 ln,.int .i64 sz])).run prog w=.ok (.bool true) w:=λ w=>by
   rw[EF,hne]
   simp
  clear CK CO h he hS hn
  go_enter func51,ntmps51
  go_wp2_with fail
  refine HC.out.mono ?_
  rintro e w2 ⟨rfl,k2⟩
  have B0:=k2.at_ b0 (λ h=>h)
  have d0:w2.cell? ⟨w.heap.size,0,none⟩=some (.int .u8 1):=by simp[World.cell?,B0]
  have d1:w2.cell? ⟨w.heap.size,1,none⟩=some (.int .i64 ty):=by simp[World.cell?,B0]
  have d2:w2.cell? ⟨w.heap.size,2,none⟩=some (.int .i64 ln):=by simp[World.cell?,B0]
  have KW:=kA.then' k2
  clear b0 HC
  go_wp2_with fail
  refine(HO.out _ KW).mono ?_
  rintro e w3 ⟨rfl,k3⟩
  have B3:=k3.at_ B0 (λ h=>h)
  have hl3:=lZ B3
  have c0:w3.cell? ⟨w.heap.size,0,none⟩=some (.int .u8 1):=by simp[World.cell?,B3]
  have c1:w3.cell? ⟨w.heap.size,1,none⟩=some (.int .i64 ty):=by simp[World.cell?,B3]
  have c2:w3.cell? ⟨w.heap.size,2,none⟩=some (.int .i64 ln):=by simp[World.cell?,B3]
  have c3:w3.cell? ⟨w.heap.size,3,none⟩=some (.int .i64 sz):=by simp[World.cell?,B3]
  clear d0 d1 d2 B0 B3 hne
  go_wp2
  go_ret
  exact⟨rfl,(KW.then' k3).alloc _⟩
 .obtain ⟨E,hE⟩:∃ E,AQ ts ty ln=E:=⟨_,rfl⟩
  rw[hE] at he
  have hne:(E !=0)=true:=by simpa using he
  have CO:∀ W,Kp Ab w W->Calls prog 102 #[.pointer (some ⟨t,0,none⟩),.int .i64 ty,.int .i64 ln] W λ e w'=>e=.returned (.tuple #[Ak 0 0 0 0,.int .i64 E])/\Kp Ab W w':=λ W k=>
   (EB ty ln t q ts W (hT.Ad k)).mono λ e w' hp=>by rw[BF,hE,if_neg he] at hp;exact hp
  unfold Ak at CK CO ⊢
  have HC:=sE CK
  have HO:=sE CO
  clear CK CO h he hE hn
  go_enter func51,ntmps51
  go_wp2_with fail
  refine HC.out.mono ?_
  rintro e w2 ⟨rfl,k2⟩
  have B0:=k2.at_ b0 (λ h=>h)
  have d0:w2.cell? ⟨w.heap.size,0,none⟩=some (.int .u8 1):=by simp[World.cell?,B0]
  have d1:w2.cell? ⟨w.heap.size,1,none⟩=some (.int .i64 ty):=by simp[World.cell?,B0]
  have d2:w2.cell? ⟨w.heap.size,2,none⟩=some (.int .i64 ln):=by simp[World.cell?,B0]
  have KW:=kA.then' k2
  clear b0 HC
  go_wp2_with fail
  refine(HO.out _ KW).mono ?_
  rintro e w3 ⟨rfl,k3⟩
  have hl3:=lZ (k3.at_ B0 (λ h=>h))
  clear d0 d1 d2 B0
  go_wp2
  go_ret
  exact⟨rfl,(KW.then' k3).alloc _⟩

theorem stop_at(P:Sp)(W:Nat->Nat)(f:Nat->Bool)(g:Nat)(w:World)(h:SpaceAt w P W f)(hg:g<P.n/2)(hs:StopW P.ts (P.n/2) W g):
  Calls prog 49 #[.pointer (some ⟨P.a,0,none⟩),.int .i64 (g:Nat)] w (λ e w'=>e=.returned (.tuple #[Ak 0 0 0 0,.int .i64 7])/\Kp Ab w w')\/
  ∃ tag ty ln sz:Nat,Calls prog 49 #[.pointer (some ⟨P.a,0,none⟩),.int .i64 (g:Nat)] w (λ e w'=>e=.returned (.tuple #[Ak (tag:Nat) (ty:Nat) (ln:Nat) (sz:Nat),.int .i64 0])/\Kp Ab w w')/\
   ((∀ w',Kp Ab w w'->Calls prog 51 #[.pointer (some ⟨P.t,0,none⟩),Ak (tag:Nat) (ty:Nat) (ln:Nat) (sz:Nat)] w' λ e w''=>e=.returned (.int .i64 8)/\Kp Ab w' w'')\/
    ((∀ w',Kp Ab w w'->Calls prog 51 #[.pointer (some ⟨P.t,0,none⟩),Ak (tag:Nat) (ty:Nat) (ln:Nat) (sz:Nat)] w' λ e w''=>e=.returned (.int .i64 0)/\Kp Ab w' w'')/\P.n/2-g<sz)):=by
 have hh:=SHead_at g P.a P.q P.n W w h.fl h.ar hg
 obtain⟨X,hX⟩:∃ X,W (2*g)=X:=⟨_,rfl⟩
 unfold StopW at hs
 rw[hX] at hs hh
 cases hd:BJ X with
 |false=>
  rw[hd] at hh
  exact .inl (hh.mono λ_ _ hp=>hp)
 |true=>
  rw[hd] at hh
  have hk:=decOk_head hd
  refine .inr ⟨CP X,Ex X,EM X,DL X,hh.mono λ_ _ hp=>hp,?_⟩
  by_cases ht:CP X=1
  .rw [ht] at hk ⊢
   by_cases hf:AQ P.ts (Ex X:Nat) (EM X:Nat)=0/\Bj P.ts (Ex X:Nat) (EM X:Nat)=(DL X:Nat)
   .refine .inr ⟨λ w' kk=>Fits_obj _ _ _ P.t P.tq P.ts w' (h.Ad kk).fl (h.Ad kk).tb hk hf.1 hf.2,?_⟩
    rcases hs with hs|hs|hs
    .rw [hd] at hs
     cases hs
    .exact absurd hf hs.2
    .exact hs
   .exact .inl λ w' kk=>Fits_obj_no _ _ _ P.t P.tq P.ts w' (h.Ad kk).fl (h.Ad kk).tb hk hf
  .refine .inr ⟨λ w' kk=>Fits_gap _ _ _ _ _ w' (h.Ad kk).fl hk (by omega),?_⟩
   rcases hs with hs|hs|hs
   .rw [hd] at hs
    cases hs
   .exact absurd hs.1 ht
   .exact hs

attribute [local go_sem] Oper.semAt_some

theorem wcells_fn(P:Sp)(w:World):
  Calls prog 107 #[.pointer (some ⟨P.a,0,none⟩),.pointer (some ⟨P.t,0,none⟩)] w λ e w'=>
   e=.returned (.func (.func 146) #[] #[.pointer (some ⟨w.heap.size,0,none⟩),.pointer (some ⟨w.heap.size+1,0,none⟩)])/\(w.alloc (.cells #[.pointer (some ⟨P.a,0,none⟩)] 47)).alloc (.cells #[.pointer (some ⟨P.t,0,none⟩)] 49)=w':=by
 have hmf:∀ (fn:Fn) (first cap:Array Value) (w:World),(Instr.makeFunc fn first cap).run prog w=.ok (.func fn first cap) w:=λ _ _ _ _=>rfl
 go_enter func107,ntmps107
 go_wp2
 go_ret
 exact⟨rfl,rfl⟩

set_option maxRecDepth 20000 in
theorem wcells_iter3(P:Sp)(W0:Nat->Nat)(f:Nat->Bool)(cs:List Cel)(E:Nat)(w:World)(b1 b2:Nat)(h:SpaceAt w P W0 f)(hc:CellsTo P W0 cs E)(hb1:w.heap[b1]?=some (.cells #[.pointer (some ⟨P.a,0,none⟩)] 47 (0,0)))(hb2:w.heap[b2]?=some (.cells #[.pointer (some ⟨P.t,0,none⟩)] 49 (0,0)))
  {R:Nat->Prop} (hR:∀ k,R k->k<w.heap.size/\¬ k=b1/\¬ k=b2/\¬ P.all k):
  IterAt3 prog 146 #[.pointer (some ⟨b1,0,none⟩),.pointer (some ⟨b2,0,none⟩)] (λ c=>#[cellV c]) cs Ab R w:=by
 intro l J Jx S0 W hW hl1 hl2 hS hJ hJx hY h0
 have SW:=h.Ad hW
 have bW1:=hW.at_ hb1 (λ h=>h)
 have bW2:=hW.at_ hb2 (λ h=>h)
 have lb1:=lZ hb1
 have lb2:=lZ hb2
 have lall:=h.lt
 have hn:=h.ar.small
 obtain⟨H,hH⟩:∃ H,P.n/2=H:=⟨_,rfl⟩
 have tl:=hc.tl
 have hEl:=hc.le
 have HStop:Sl (∀ w',SpaceAt w' P W0 f->E<H->_):=⟨λ w' h' hlt=>stop_at P W0 f E w' h' (by omega) (hc.stop.resolve_left (by omega))⟩
 have HG:Sl (Calls prog 59 #[.pointer (some ⟨P.a,0,none⟩)] W λ e w''=>e=.returned (.int .i64 (P.n:Nat))/\W=w''):=⟨ALen_at P.a P.q P.n W0 W SW.ar⟩
 have HHd:Sl (∀ w',SpaceAt w' P W0 f->∀ c∈cs,c.g<H->Calls prog 49 #[.pointer (some ⟨P.a,0,none⟩),.int .i64 (c.g:Nat)] w' λ e w''=>e=.returned (.tuple #[Ak (c.tag:Nat) (c.ty:Nat) (c.ln:Nat) (c.sz:Nat),.int .i64 0])/\Kp Ab w' w''):=
  ⟨λ w' h' c hm hg=>ER c P W0 f w' h' (by omega) (hc.hd c hm) (hc.ok c hm)⟩
 have HFt:Sl (∀ w',SpaceAt w' P W0 f->∀ c∈cs,Calls prog 51 #[.pointer (some ⟨P.t,0,none⟩),Ak (c.tag:Nat) (c.ty:Nat) (c.ln:Nat) (c.sz:Nat)] w' λ e w''=>e=.returned (.int .i64 0)/\Kp Ab w' w''):=
  ⟨λ w' h' c hm=>Fits_cell c P W0 f w' h' (hc.ok c hm)⟩
 rw[hH] at hEl HStop
 have hH2:H<=32768:=by omega
 have hPn:(P.n:Int)/2=(H:Int):=by omega
 have cb1:=cell_of_one bW1
 clear hc hn
 refine(callsIn_wide (n:=0)).1 ?_
 refine callsIn_of_wp func146 rfl trivial ?_
 simp only[ntmps146,List.size_toArray,List.length_cons,List.length_nil,Nat.reduceAdd,Nat.reduceSub,Array.replicate_succ,Array.replicate_zero,List.push_toArray,List.append_toArray,List.nil_append,List.cons_append]
 gi_wp2_with fail
 refine⟨trivial,rfl,?_⟩
 refine(callsIn_wide.2 HG.out).mono ?_
 rintro e w' ⟨rfl,rfl⟩
 gi_wp2_with fail
 clear hPn
 gi_loopw [5,6,7] (λ v5 v6 v7 wr=>∃ (pre rest:List Cel) (g:Nat) (S:Nat->Prop),v5=.int .i64 (g:Nat)/\cs=pre++rest/\Au g rest E/\J pre S wr/\Kp (λ k=>R k\/k=l) W wr)
  (λ v5 v6 v7 wr=>H-(intOf v5).toNat)
 case atStart=>exact ⟨[],cs,0,S0,rfl,rfl,tl,h0,Kr _ _⟩
 case round=>
  obtain⟨pre,rest,g,S,rfl,hcs,ht,hj,kr⟩:=hrel
  have Sr:SpaceAt wr P W0 f:=SW.keep kr (λ i hi hs=>by
   have:=lall i hi
   rcases hs with hs|hs
   .exact (hR i hs).2.2.2 hi
   .omega)
  have br1:=kr.at_ bW1 (λ hs=>by
   rcases hs with hs|hs
   .exact (hR b1 hs).2.1 rfl
   .omega)
  have br2:=kr.at_ bW2 (λ hs=>by
   rcases hs with hs|hs
   .exact (hR b2 hs).2.2.1 rfl
   .omega)
  have cb:=cell_of_one br1
  have cc:=cell_of_one br2
  have HS:=sE Sr
  cases rest with
  |nil=>
   obtain rfl:g=E:=ht
   by_cases hgH:g=H
   .subst hgH
    gi_wp2_with fail
    go_end0
    exact⟨⟨_,rfl⟩,.inl ⟨S,by rw[hcs,List.append_nil];exact hj⟩⟩
   .have hg1:(g:Int)<(H:Int):=by omega
    have HJ:=sE (And.intro hj hcs)
    have HEnd:Sl (∀ B,Kp Ab wr B->∃ S,J cs S B):=⟨λ B kk=>⟨S,by rw[HJ.out.2,List.append_nil];exact hJ _ _ _ _ HJ.out.1 kk⟩⟩
    have hd1:∀ sz:Nat,H-g<sz->decide ((H:Int)-(g:Int)<(sz:Int))=true:=λ sz h=>dT (by omega)
    have hwr:IntKind.i64.wrap ((H:Int)-(g:Int))=(H:Int)-(g:Int):=by rw[IntKind.wrap_i64];omega
    have HSt:=HStop.out wr Sr (by omega)
    clear hj hcs hgH HS
    rcases HSt with HN|⟨tag,ty,ln,sz,HN,HF|⟨HF,hlt⟩⟩
    .have CHd:=sE HN
     clear HN
     gi_wp2_with fail
     refine⟨trivial,rfl,?_⟩
     refine(callsIn_wide.2 CHd.out).mono ?_
     rintro e w1 ⟨rfl,k1⟩
     unfold Ak
     gi_wp2_with fail
     refine⟨?_,?_⟩
     .first|trivial|(intro _ _;trivial)
     gi_wp2_with fail
     refine⟨?_,?_⟩
     .first|trivial|(intro _ _;trivial)
     gi_wp2_with fail
     refine bodyPost_ret (results_none rfl _ _ _) rfl ?_
     exact⟨⟨_,rfl⟩,.inl (HEnd.out _ (k1.alloc _))⟩
    .have CHd:=sE HN
     have CF:=sE HF
     clear HN HF
     gi_wp2_with fail
     refine⟨trivial,rfl,?_⟩
     refine(callsIn_wide.2 CHd.out).mono ?_
     rintro e w1 ⟨rfl,k1⟩
     unfold Ak
     obtain⟨w2,hw2⟩:∃ w2,w2=w1.alloc (.cells #[.int .u8 (tag:Nat),.int .i64 (ty:Nat),.int .i64 (ln:Nat),.int .i64 (sz:Nat)] 52):=⟨_,rfl⟩
     have k2:Kp Ab w1 w2:=by rw[hw2];exact (Kr _ w1).alloc _
     have hD:w2.heap[w1.heap.size]?=some (.cells #[.int .u8 (tag:Nat),.int .i64 (ty:Nat),.int .i64 (ln:Nat),.int .i64 (sz:Nat)] 52 (0,0)):=by rw[hw2];exact wN w1 _
     have KD:Kp Ab wr w2:=k1.then' k2
     have cc2:=k1.cell cc (λ h=>h)
     have lb3:b2<w1.heap.size:=by have:=k1.size;have:=kr.size;have:=hW.size;omega
     have e0:w2.cell? ⟨w1.heap.size,0,none⟩=some (.int .u8 (tag:Nat)):=by simp[World.cell?,hD]
     have e1:w2.cell? ⟨w1.heap.size,1,none⟩=some (.int .i64 (ty:Nat)):=by simp[World.cell?,hD]
     have e2:w2.cell? ⟨w1.heap.size,2,none⟩=some (.int .i64 (ln:Nat)):=by simp[World.cell?,hD]
     have e3:w2.cell? ⟨w1.heap.size,3,none⟩=some (.int .i64 (sz:Nat)):=by simp[World.cell?,hD]
     have CFx:=CF.out w2 KD
     unfold Ak at CFx
     have CFs:=sE CFx
     clear CFx hD CHd CF
     gi_wp2_with fail
     rw[<- hw2]
     clear hw2
     refine⟨trivial,rfl,?_⟩
     refine(callsIn_wide.2 CFs.out).mono ?_
     rintro e w3 ⟨rfl,k3⟩
     gi_wp2_with fail
     refine⟨?_,?_⟩
     .first|trivial|(intro _ _;trivial)
     gi_wp2_with fail
     refine bodyPost_ret (results_none rfl _ _ _) rfl ?_
     exact⟨⟨_,rfl⟩,.inl (HEnd.out _ (KD.then' k3))⟩
    .have CHd:=sE HN
     have CF:=sE HF
     replace hd1:=hd1 sz hlt
     clear HN HF
     gi_wp2_with fail
     refine⟨trivial,rfl,?_⟩
     refine(callsIn_wide.2 CHd.out).mono ?_
     rintro e w1 ⟨rfl,k1⟩
     unfold Ak
     obtain⟨w2,hw2⟩:∃ w2,w2=w1.alloc (.cells #[.int .u8 (tag:Nat),.int .i64 (ty:Nat),.int .i64 (ln:Nat),.int .i64 (sz:Nat)] 52):=⟨_,rfl⟩
     have k2:Kp Ab w1 w2:=by rw[hw2];exact (Kr _ w1).alloc _
     have hD:w2.heap[w1.heap.size]?=some (.cells #[.int .u8 (tag:Nat),.int .i64 (ty:Nat),.int .i64 (ln:Nat),.int .i64 (sz:Nat)] 52 (0,0)):=by rw[hw2];exact wN w1 _
     have KD:Kp Ab wr w2:=k1.then' k2
     have cc2:=k1.cell cc (λ h=>h)
     have lb3:b2<w1.heap.size:=by have:=k1.size;have:=kr.size;have:=hW.size;omega
     have e0:w2.cell? ⟨w1.heap.size,0,none⟩=some (.int .u8 (tag:Nat)):=by simp[World.cell?,hD]
     have e1:w2.cell? ⟨w1.heap.size,1,none⟩=some (.int .i64 (ty:Nat)):=by simp[World.cell?,hD]
     have e2:w2.cell? ⟨w1.heap.size,2,none⟩=some (.int .i64 (ln:Nat)):=by simp[World.cell?,hD]
     have e3:w2.cell? ⟨w1.heap.size,3,none⟩=some (.int .i64 (sz:Nat)):=by simp[World.cell?,hD]
     have CFx:=CF.out w2 KD
     unfold Ak at CFx
     have CFs:=sE CFx
     have HhD:=sE hD
     clear CFx hD CHd CF hlt
     gi_wp2_with fail
     rw[<- hw2]
     clear hw2
     refine⟨trivial,rfl,?_⟩
     refine(callsIn_wide.2 CFs.out).mono ?_
     rintro e w3 ⟨rfl,k3⟩
     have e3':=k3.cell e3 (λ h=>h)
     gi_wp2_with fail
     refine⟨?_,?_⟩
     .first|trivial|(intro _ _;trivial)
     gi_wp2_with fail
     refine bodyPost_ret (results_none rfl _ _ _) rfl ?_
     exact⟨⟨_,rfl⟩,.inl (HEnd.out _ (KD.then' k3))⟩
  |cons c rest=>
   obtain⟨rfl,hcp,ht'⟩:=ht
   have hle:=ht'.le
   have hmem:c∈cs:=by rw[hcs];simp
   have hg1:(c.g:Int)<(H:Int):=by omega
   have CHd:=sE (HHd.out wr Sr c hmem (by omega))
   gi_wp2_with fail
   refine⟨trivial,rfl,?_⟩
   refine(callsIn_wide.2 CHd.out).mono ?_
   rintro e w1 ⟨rfl,k1⟩
   unfold Ak
   obtain⟨w2,hw2⟩:∃ w2,w2=w1.alloc (.cells #[.int .u8 (c.tag:Nat),.int .i64 (c.ty:Nat),.int .i64 (c.ln:Nat),.int .i64 (c.sz:Nat)] 52):=⟨_,rfl⟩
   have k2:Kp Ab w1 w2:=by rw[hw2];exact (Kr _ w1).alloc _
   have hD:w2.heap[w1.heap.size]?=some (.cells #[.int .u8 (c.tag:Nat),.int .i64 (c.ty:Nat),.int .i64 (c.ln:Nat),.int .i64 (c.sz:Nat)] 52 (0,0)):=by rw[hw2];exact wN w1 _
   have KD:Kp Ab wr w2:=k1.then' k2
   have SD:=Sr.Ad KD
   have cc2:=k1.cell cc (λ h=>h)
   have lb3:b2<w1.heap.size:=by have:=k1.size;have:=kr.size;have:=hW.size;omega
   have e0:w2.cell? ⟨w1.heap.size,0,none⟩=some (.int .u8 (c.tag:Nat)):=by simp[World.cell?,hD]
   have e1:w2.cell? ⟨w1.heap.size,1,none⟩=some (.int .i64 (c.ty:Nat)):=by simp[World.cell?,hD]
   have e2:w2.cell? ⟨w1.heap.size,2,none⟩=some (.int .i64 (c.ln:Nat)):=by simp[World.cell?,hD]
   have e3:w2.cell? ⟨w1.heap.size,3,none⟩=some (.int .i64 (c.sz:Nat)):=by simp[World.cell?,hD]
   have CF:=HFt.out w2 SD c hmem
   unfold Ak at CF
   have CFs:=sE CF
   have HhD:=sE hD
   have hd1:decide ((H:Int)-(c.g:Int)<(c.sz:Int))=false:=dF (by omega)
   have hwr:IntKind.i64.wrap ((H:Int)-(c.g:Int))=(H:Int)-(c.g:Int):=by rw[IntKind.wrap_i64];omega
   have hneR:∀ k,S k\/k=l->¬ k=w1.heap.size:=by
    intro k hk
    have z1:=hW.size
    have z2:=kr.size
    have z3:=k1.size
    rcases hk with hk|hk
    .have:=(hS pre S _ hj k hk).2
     omega
    .omega
   have hSR:∀ i,i<W.heap.size->(S i\/i=l)->(R i\/i=l):=by
    intro i hi h
    rcases h with h|h
    .rcases (hS pre S _ hj i h).1 with h|h
     .exact .inl h
     .omega
    .exact .inr h
   clear CF SD hD CHd HS
   gi_wp2_with fail
   rw[<- hw2]
   clear hw2
   refine⟨trivial,rfl,?_⟩
   refine(callsIn_wide.2 CFs.out).mono ?_
   rintro e w3 ⟨rfl,k3⟩
   have h3:=k3.at_ HhD.out (λ h=>h)
   have e0':=k3.cell e0 (λ h=>h)
   have e1':=k3.cell e1 (λ h=>h)
   have e2':=k3.cell e2 (λ h=>h)
   have e3':=k3.cell e3 (λ h=>h)
   have J3:=hJ _ _ _ _ hj (KD.then' k3)
   have HY3:=sE (hY pre S c rest w3 hcs J3)
   have Hh3:=sE h3
   clear h3 J3
   gi_wp2_with fail
   refine CU HY3.out rfl ?_
   intro b B hB
   rcases hB with ⟨rfl,hk,S',hT⟩|⟨rfl,hE⟩
   .have hB3:=hk.at_ Hh3.out (λ hs=>hneR _ hs rfl)
    have d3:B.cell? ⟨w1.heap.size,3,none⟩=some (.int .i64 (c.sz:Nat)):=by simp[World.cell?,hB3]
    have KB:=(kr.trans KD (λ _ _ h=>h.elim)).trans k3 (λ _ _ h=>h.elim)
    have KB2:=KB.trans hk hSR
    gi_wp2_with fail
    exact⟨⟨pre++[c],rest,c.g+c.sz,S',by simp,by rw[hcs,List.append_assoc];rfl,ht',hT,KB2⟩,by simp only[intOf];omega⟩
   .gi_wp2_with fail
    refine bodyPost_ret (results_none rfl _ _ _) rfl ?_
    exact⟨⟨_,rfl⟩,.inr ⟨_,⟨_,by rw[hcs,List.append_assoc];rfl⟩,hE⟩⟩

end

section
open Go.RowKit Go.Maps

theorem zeroBool10(w:World):(zeroValue 4).run prog w=.ok (.bool false) w:=by kernel_rfl

section
variable {P:Program} {k e t:TypeId}

theorem plainElem_bool_inv(he:P.underlying e=some .bool){v:Value}{z:DataW Unit×List MemPlace}(h:plainElem P e v=some z):∃ x,v=.bool x/\z=(.lit (.bool x),[]):=by
 unfold plainElem at h
 rw[he] at h
 cases v <;> simp at h
 exact⟨_,rfl,h.symm⟩

def SetIn(P:Program)(k e:TypeId)(w:World)(b n:Nat)(f:Int->Bool):Prop:=
 ∃ D:DataW Unit,w.ownsMap P k (plainElem P e) b n D/\∀ g:Int,(Lit.int .i64 g).wf=true->D.atKey (.int .i64 g) (.lit (.bool false))=.lit (.bool (f g))

theorem SetIn.look{w:World}{b n:Nat}{f:Int->Bool}(h:SetIn P k e w b n f)(hk:P.underlying k=some (.int .i64))(he:P.underlying e=some .bool)(ht:P.underlying t=some (.map k e))(hz:(zeroValue e).run P w=.ok (.bool false) w){g:Int}(hg:(Lit.int .i64 g).wf=true):
  (Instr.lookup t (.map (some b)) (.int .i64 g) false).run P w=.ok (.bool (f g)) w:=by
 obtain⟨D,h1,h2⟩:=h
 obtain⟨v,ps,hrun,hv⟩:=h1.lookup (int_keyed hk) ht hz (plainElem_bool he false) (keyOf_int_mk hk hg)
 rw[h2 g hg] at hv
 obtain⟨x,rfl,hx⟩:=plainElem_bool_inv he hv
 simp only[Prod.mk.injEq] at hx
 have:f g=x:=by have:=hx.1;injection this with this;injection this
 rw[hrun,this]

theorem SetIn.put{w:World}{b n:Nat}{f:Int->Bool}(h:SetIn P k e w b n f)(hk:P.underlying k=some (.int .i64))(he:P.underlying e=some .bool)(ht:P.underlying t=some (.map k e))(hn:n<maxLen){g:Int}(hg:(Lit.int .i64 g).wf=true):
  ∃ w',(Instr.mapUpdate t (.map (some b)) (.int .i64 g) (.bool true)).run P w=.ok () w'/\SetIn P k e w' b (n+1) (λ x=>f x||x==g)/\Kp (λ k=>k=b) w w':=by
 obtain⟨D,h1,h2⟩:=h
 have hkk:=keyOf_int_mk hk hg
 obtain⟨w',hrun,ho,hgr⟩:=h1.update (int_keyed hk) ht hn hkk (plainElem_bool he true)
 refine⟨w',hrun,⟨_,ho,λ x hx=>?_⟩,(Kr _ w).grown hgr (λ k e _=>by injection e with e;exact e.symm)⟩
 by_cases ex:x=g
 .subst ex
  rw[Maps.atKey_put_same h1.isMap ((int_keyed hk).key hkk)]
  simp
 .rw [Maps.atKey_put_other (by intro h;injection h with _ h;exact ex h),h2 x hx]
  simp[ex]

end

def ES(w:World)(b n:Nat)(f:Int->Bool):Prop:=SetIn prog 3 4 w b n f

theorem ES.made(w:World):ES (w.alloc (.map #[] 0)) w.heap.size 0 (λ _=>false):=
 ⟨.map [],World.ownsMap_made w _ _ _,λ g _=>rfl⟩

theorem ES.lt{w:World}{b n:Nat}{f:Int->Bool}(h:ES w b n f):b<w.heap.size:=by
 obtain⟨D,h1,-⟩:=h
 exact h1.lt

theorem ES.keep{S:Nat->Prop}{w w':World}{b n:Nat}{f:Int->Bool}(h:ES w b n f)(k:Kp S w w')(hb:¬ S b):ES w' b n f:=by
 obtain⟨D,⟨es,clock,h1,h2⟩,h3⟩:=h
 exact⟨D,⟨es,clock,k.at_ h1 hb,h2⟩,h3⟩

theorem ES.look{w:World}{b n:Nat}{f:Int->Bool}(h:ES w b n f){g:Int}(hg:(Lit.int .i64 g).wf=true):
  (Instr.lookup 115 (.map (some b)) (.int .i64 g) false).run prog w=.ok (.bool (f g)) w:=
 SetIn.look h underlying3 underlying4 underlying115 (zeroBool10 w) hg

theorem ES.put{w:World}{b n:Nat}{f:Int->Bool}(h:ES w b n f)(hn:n<maxLen){g:Int}(hg:(Lit.int .i64 g).wf=true):
  ∃ w',(Instr.mapUpdate 115 (.map (some b)) (.int .i64 g) (.bool true)).run prog w=.ok () w'/\ES w' b (n+1) (λ x=>f x||x==g)/\Kp (λ k=>k=b) w w':=
 SetIn.put h underlying3 underlying4 underlying115 hn hg

theorem E5{g:Nat}(h:g<=9223372036854775807):(Lit.int .i64 (g:Int)).wf=true:=by
 have h1:IntKind.i64.min=-9223372036854775808:=by decide
 have h2:IntKind.i64.max=9223372036854775807:=by decide
 simp only[Lit.wf,h1,h2,Bool.and_eq_true,decide_eq_true_eq]
 omega

open Go.RowKit
attribute [local go_sem] Oper.semAt_some

def Ew(cs:List Cel)(g:Int):Bool:=cs.any λ c=>c.tag==1&&(c.g:Int)==g

theorem startI_add(cs:List Cel)(x:Cel)(g:Int):Ew (cs++[x]) g=(Ew cs g||(x.tag==1&&(x.g:Int)==g)):=by simp[Ew]

theorem startI_nat(cs:List Cel)(g:Nat):Ew cs (g:Nat)=Ar cs g:=by
 have e:∀ c:Cel,(c.tag==1&&(c.g:Int)==(g:Nat))=(c.tag==1&&c.g==g):=λ c=>by
  have:((c.g:Int)==((g:Nat):Int))=(c.g==g):=by
   rw[Bool.eq_iff_iff,beq_iff_eq,beq_iff_eq]
   omega
  rw[this]
 simp only[Ew,Ar,e]

theorem obsG_add(cs:List Cel)(x:Cel):Bu (cs++[x])=Bu cs++(if x.tag=1 then [x.g] else []):=by
 unfold Bu Ap
 rw[List.filter_append,List.map_append]
 congr 1
 by_cases h:x.tag=1 <;> simp[h]

theorem tiles_same:∀ {cs:List Cel} {a x y:Nat},Au a cs x->Au a cs y->x=y
 |[],a,x,y,h,k=>(show a=x from h).symm.trans k
 |c::cs,a,x,y,⟨_,_,h⟩,⟨_,_,k⟩=>tiles_same h k

theorem BG{w:World}{b:Nat}{a0 a1 a2 a3 a4:Value}{T:TypeId}(hb:w.heap[b]?=some (.cells #[a0,a1,a2,a3,a4] T (0,0))):
  w.cell? ⟨b,0,none⟩=some a0/\w.cell? ⟨b,1,none⟩=some a1/\w.cell? ⟨b,2,none⟩=some a2/\w.cell? ⟨b,3,none⟩=some a3/\w.cell? ⟨b,4,none⟩=some a4:=by
 refine⟨?_,?_,?_,?_,?_⟩ <;> simp only[World.cell?,hb] <;> rfl

theorem set5_3{w:World}{b:Nat}{a0 a1 a2 a3 a4:Value}{T:TypeId}(hb:w.heap[b]?=some (.cells #[a0,a1,a2,a3,a4] T (0,0)))(v:Value):(w.setCell ⟨b,3,none⟩ v).heap[b]?=some (.cells #[a0,a1,a2,v,a4] T (0,0)):=by
 rw[bZ hb]
 rfl

theorem set5_4{w:World}{b:Nat}{a0 a1 a2 a3 a4:Value}{T:TypeId}(hb:w.heap[b]?=some (.cells #[a0,a1,a2,a3,a4] T (0,0)))(v:Value):(w.setCell ⟨b,4,none⟩ v).heap[b]?=some (.cells #[a0,a1,a2,a3,v] T (0,0)):=by
 rw[bZ hb]
 rfl

theorem DY{P:Program}{Q:Exit->Act->World->Prop}{S:World->Prop}{l:List Oper}{id n lo:Nat}{a:Act}{w:World}(hm:P.follows .mixedOrders=true)(hd:DV l.toArray=true)(hq:∀ a w,¬ Q .outgrown a w)(hS:S w.drew)
  (h:S w.drew->wpAnyH P .any l.toArray Q S l.toArray.size (Array.replicate l.toArray.size false) a w.drew):(Code.region id l.toArray true).wpIn (Fence.wide.inRound lo) n P Q a w:=
 wpIn_region_any hm hd hq (wpAny_of_held _ _ _ _ (h hS))

def Df(w:World)(P:Sp)(gb m base:Nat)(cs:List Cel)(e:Nat)(ov:Value):Prop:=
 w.heap[gb]?=some (.cells #[.pointer (some ⟨P.a,0,none⟩),.pointer (some ⟨P.t,0,none⟩),.map (some m),ov,.int .i64 (e:Nat)] 117 (0,0))/\
  (∃ n,n<=cs.length/\ES w m n (Ew cs))/\w.ownsRow base 3 1 ov (Bu cs).length (AC (Bu cs))/\Au 0 cs e

def ThruI(P:Sp)(gb m gv:Nat)(wl:World)(pre:List Cel)(S:Nat->Prop)(W':World):Prop:=
 ∃ ov e,Df W' P gb m (wl.heap.size+2) pre e ov/\W'.heap[gv]?=some (.cells #[.pointer (some ⟨gb,0,none⟩)] 113 (0,0))/\(S=λ k=>k=m\/k=gb\/ov.ownBlock=some k)/\Kp (λ k=>k=m\/k=gb) wl W'

set_option maxRecDepth 20000 in
theorem through_to(P:Sp)(W:Nat->Nat)(f:Nat->Bool)(cs:List Cel)(E:Nat)(w:World)(hs:SpaceAt w P W f)(hc:CellsTo P W cs E):
  Calls prog 57 #[.pointer (some ⟨P.a,0,none⟩),.pointer (some ⟨P.t,0,none⟩)] w λ e w'=>e=.returned (.pointer (some ⟨w.heap.size+1,0,none⟩))/\(∃ ov,Df w' P (w.heap.size+1) w.heap.size w.heap.size cs E ov)/\Kp Ab w w':=by
 have HSs:=sE hs
 have HCs:=sE hc
 have lw:=hs.lt
 have hn:=hs.ar.small
 have htl:=hc.tl
 have hEl:=hc.le
 have hlen:cs.length<=32768:=by
  have:=Ci htl
  omega
 clear hs hc
 refine(callsIn_wide (n:=0)).1 ?_
 refine callsIn_of_wp_marks func57 rfl trivial ?_
 simp only[ntmps57,List.size_toArray,List.length_cons,List.length_nil,Nat.reduceAdd,Nat.reduceSub,Array.replicate_succ,Array.replicate_zero,List.push_toArray,List.append_toArray,List.nil_append,List.cons_append]
 have hmm:=@run_makeMap prog
 gi_wp2_with fail
 refine⟨trivial,rfl,?_⟩
 obtain⟨w3,hw3⟩:∃ w3,w3=((w.alloc (.map #[] 0)).alloc (.cells #[.pointer (some ⟨P.a,0,none⟩),.pointer (some ⟨P.t,0,none⟩),.map (some w.heap.size),.slice none 0 0,.int .i64 0] 117)).alloc (.cells #[.pointer (some ⟨w.heap.size+1,0,none⟩)] 113):=⟨_,rfl⟩
 rw[<- hw3]
 have k3:Kp Ab w w3:=by rw[hw3];exact (((Kr _ w).alloc _).alloc _).alloc _
 have z3:w3.heap.size=w.heap.size+3:=by rw[hw3];simp
 have m3:ES w3 w.heap.size 0 (λ _=>false):=by
  rw[hw3]
  exact(ES.made w).keep (((Kr Ab _).alloc _).alloc _) (λ h=>h)
 have g3:w3.heap[w.heap.size+1]?=some (.cells #[.pointer (some ⟨P.a,0,none⟩),.pointer (some ⟨P.t,0,none⟩),.map (some w.heap.size),.slice none 0 0,.int .i64 0] 117 (0,0)):=by
  rw[hw3]
  have:=wN (w.alloc (.map #[] 0)) (.cells #[.pointer (some ⟨P.a,0,none⟩),.pointer (some ⟨P.t,0,none⟩),.map (some w.heap.size),.slice none 0 0,.int .i64 0] 117)
  rw[show (w.alloc (.map #[] 0)).heap.size=w.heap.size+1 by simp] at this
  exact((Kr Ab _).alloc _).at_ this (λ h=>h)
 have v3:w3.heap[w.heap.size+1+1]?=some (.cells #[.pointer (some ⟨w.heap.size+1,0,none⟩)] 113 (0,0)):=by
  rw[hw3]
  have:=wN ((w.alloc (.map #[] 0)).alloc (.cells #[.pointer (some ⟨P.a,0,none⟩),.pointer (some ⟨P.t,0,none⟩),.map (some w.heap.size),.slice none 0 0,.int .i64 0] 117)) (.cells #[.pointer (some ⟨w.heap.size+1,0,none⟩)] 113)
  rw[show ((w.alloc (.map #[] 0)).alloc (.cells #[.pointer (some ⟨P.a,0,none⟩),.pointer (some ⟨P.t,0,none⟩),.map (some w.heap.size),.slice none 0 0,.int .i64 0] 117)).heap.size=w.heap.size+1+1 by simp] at this
  exact this
 clear hw3
 refine(callsIn_wide.2 (wcells_fn P w3)).mono ?_
 rintro e wl ⟨rfl,hwl⟩
 have zl:wl.heap.size=w3.heap.size+2:=by rw[<- hwl];simp
 have kl:Kp Ab w3 wl:=by rw[<- hwl];exact ((Kr _ w3).alloc _).alloc _
 have gb1:wl.heap[w3.heap.size]?=some (.cells #[.pointer (some ⟨P.a,0,none⟩)] 47 (0,0)):=by rw[<- hwl];exact ((Kr Ab _).alloc _).at_ (wN w3 _) (λ h=>h)
 have gb2:wl.heap[w3.heap.size+1]?=some (.cells #[.pointer (some ⟨P.t,0,none⟩)] 49 (0,0)):=by
  rw[<- hwl]
  have:=wN (w3.alloc (.cells #[.pointer (some ⟨P.a,0,none⟩)] 47)) (.cells #[.pointer (some ⟨P.t,0,none⟩)] 49)
  rwa [show (w3.alloc (.cells #[.pointer (some ⟨P.a,0,none⟩)] 47)).heap.size=w3.heap.size+1 by simp] at this
 clear hwl
 have KL:Kp Ab w wl:=k3.then' kl
 have SL:=HSs.out.Ad KL
 have ml:=m3.keep kl (λ h=>h)
 have gl:=kl.at_ g3 (λ h=>h)
 have vl:=kl.at_ v3 (λ h=>h)
 rw[z3] at gb1 gb2 zl
 clear m3 g3 v3 k3 hmm
 gi_wp2_with fail
 try rw[z3]
 clear kl z3
 obtain⟨B,hB⟩:∃ B,w.heap.size=B:=⟨_,rfl⟩
 rw[hB] at zl gb1 gb2 ml gl vl lw ⊢
 refine wpIn_range3 (n:=0) (gf:=146) (lb:=#[.pointer (some ⟨B+3,0,none⟩),.pointer (some ⟨B+3+1,0,none⟩)]) rfl (enters_of func146 (by kernel_rfl) rfl)
  (wcells_iter3 P W f cs E wl (B+3) (B+3+1) SL HCs.out gb1 gb2 (R:=λ k=>k=B\/k=B+1) (λ k hk=>⟨by omega,by omega,by omega,λ h=>by have:=lw _ h;omega⟩)) (λ k hk=>hk.elim) (λ k hk=>by omega)
  (X:=λ _=>False) (λ k hk=>hk.elim) (λ _=>rfl)
  (λ pre S W'=>ThruI P (B+1) B (B+1+1) wl pre S W') (λ c pre W'=>False) (λ k=>k=B\/k=B+1\/(Value.slice none 0 0).ownBlock=some k) ?hS ?hI ?hIx ?h0 ?hround ?hdone ?hstop
 case hS=>
  rintro pre S A ⟨ov,e,⟨a1,⟨n,hn',a2⟩,a3,a4⟩,a5,rfl,a6⟩ k hk
  rcases hk with hk|hk|hk
  .exact ⟨.inl (.inl hk),by have:=lZ a1;omega⟩
  .exact ⟨.inl (.inr hk),by have:=lZ a1;omega⟩
  .have:=Af a3 hk
   exact⟨.inr this.1,this.2⟩
 case hI=>
  rintro pre S A A' ⟨ov,e,⟨a1,⟨n,hn',a2⟩,a3,a4⟩,a5,a6,a7⟩ hk
  exact⟨ov,e,⟨hk.at_ a1 (λ h=>by rcases h with h|h|h;exact h;omega;omega),⟨n,hn',a2.keep hk (λ h=>by rcases h with h|h|h;exact h;omega;omega)⟩,
   Ah a3 hk (λ b hb h=>by have:=Af a3 hb;rcases h with h|h|h;exact h;omega;omega),a4⟩,hk.at_ a5 (λ h=>by rcases h with h|h|h;exact h;omega;omega),a6,
   a7.trans hk (λ b hb h=>by rcases h with h|h|h;exact h.elim;omega;omega)⟩
 case hIx=>exact λ c pre A B h hk=>h
 case h0=>exact ⟨_,0,⟨gl,⟨0,Nat.le_refl _,ml⟩,World.ownsRow_nil wl _ _ _,rfl⟩,vl,rfl,Kr _ _⟩
 case hround=>
  rintro pre S x rest W' hx ⟨ov,e,⟨a1,⟨n,hn',a2⟩,a3,a4⟩,a5,hSe,a6⟩ hs
  have hpl:pre.length+1<=cs.length:=by rw[hx];simp
  have hxt:=htl
  rw[hx] at hxt
  obtain⟨e',t1,t2,t3,t4⟩:=hxt.split
  obtain rfl:e'=e:=tiles_same t1 a4
  have HXg:Sl (x.g=e'):=⟨t2⟩
  have hxs:=t4.le
  have hg0:x.g<=32768:=by omega
  have hs0:x.g+x.sz<=32768:=by omega
  have HT2:Sl (Au 0 (pre++[x]) (e'+x.sz)):=⟨Au.append (a:=0) a4 ⟨t2,t3,rfl⟩⟩
  clear t1 t2 t4 hxt hxs
  unfold cellV
  gi_wp2_with fail
  refine⟨(Kr _ W').alloc _,?_⟩
  intro W2 hc2 hf2 hk2 hs2 hr2
  have kW:Kp Ab W' (W'.alloc (.cells #[.int .i64 (x.g:Nat),.int .u8 (x.tag:Nat),.int .i64 (x.ty:Nat),.int .i64 (x.ln:Nat),.int .i64 (x.sz:Nat)] 71)):=(Kr _ W').alloc _
  have bc:=hk2.at_ (wN W' (.cells #[.int .i64 (x.g:Nat),.int .u8 (x.tag:Nat),.int .i64 (x.ty:Nat),.int .i64 (x.ln:Nat),.int .i64 (x.sz:Nat)] 71)) (by omega)
  have zW2:W2.heap.size=W'.heap.size+1:=by rw[hs2];simp
  have lg:=lZ a1
  have lv:=lZ a5
  have lm:=a2.lt
  have HnC:Sl (¬ ov.ownBlock=some W'.heap.size):=⟨λ h=>by have:=Af a3 h;omega⟩
  have o2:(W2).ownsRow (wl.heap.size+2) 3 1 ov (Bu pre).length (AC (Bu pre)):=Ah (Ah a3 kW (λ b hb h=>h)) hk2 (λ b hb h=>by have:=Af a3 hb;omega)
  have g2:=hk2.at_ (kW.at_ a1 (λ h=>h)) (by omega)
  have v2:=hk2.at_ (kW.at_ a5 (λ h=>h)) (by omega)
  have m2:=(a2.keep kW (λ h=>h)).keep hk2 (by omega)
  have kk2:Kp (λ k=>k=wl.heap.size+1) W' W2:=(kW.Al _).trans hk2 (λ b hb h=>h)
  obtain⟨d0,d1,d2,d3,d4⟩:=BG bc
  have c0:=cell_of_one v2
  have Hbc:=sE bc
  have HV2:=sE v2
  have HO2:=sE o2
  have HM2:=sE m2
  have HA6:=sE a6
  have HK2:=sE kk2
  have HSe:=sE hSe
  have HG2:=sE g2
  have lc:W'.heap.size<W2.heap.size:=by omega
  have hgm:wl.heap.size+2<=W'.heap.size:=hs
  clear a1 a2 a3 a4 a5 a6 o2 m2 kk2 kW hk2 hc2 hf2 hr2 hs2 gl vl ml gb1 gb2 v2 bc hSe KL SL
  by_cases ht:x.tag=1
  .have t1:((x.tag:Int)==1)=true:=by simp[ht]
   have hol:(Bu pre).length<=32768:=by have:=obsG_len pre;omega
   obtain⟨e0,e1,e2,e3,e4⟩:=BG g2
   clear g2 e0 e1 e4 d2 d3
   gi_wp2_with fail
   refine BA 6 (by kernel_rfl) (by kernel_rfl) (by kernel_rfl) (λ _ _ h=>h) ?_
   simp only[List.take_succ_cons,List.take_zero,List.drop_succ_cons,List.drop_zero]
   repeat (go_big_quiet_step (fail))
   refine wpQuiet_nil ?_
   intro _ hw'
   obtain⟨nq,hw''⟩:=hw'
   subst hw''
   have kq:Kp Ab W2 (W2.drewN nq):=Kp.Aj _
   obtain⟨w5,hrun,m5,k5⟩:=(HM2.out.keep kq (λ h=>h)).put (by unfold maxLen;omega) (E5 (g:=x.g) (by omega))
   go_wp2_with fail
   have K5:Kp (λ k=>k=B) W2 w5:=(kq.Al _).trans k5 (λ b hb h=>h)
   clear hrun kq k5
   have o5:=Ah HO2.out K5 (λ b hb h=>by have:=Af HO2.out hb;omega)
   have g5:=K5.at_ HG2.out (by omega)
   have v5:=K5.at_ HV2.out (by omega)
   have b5:=K5.at_ Hbc.out (by omega)
   have z5:=K5.size
   obtain⟨d0,d1,d2,d3,d4⟩:=BG b5
   obtain⟨e0,e1,e2,e3,e4⟩:=BG g5
   have c0:=cell_of_one v5
   have HO5:=sE o5
   have HG5:=sE g5
   have HV5:=sE v5
   have Hb5:=sE b5
   have HM5:=sE m5
   have HK5:=sE K5
   clear o5 g5 v5 b5 m5 K5 d1 d2 d3 e0 e1 e2 e4
   refine DY (S:=λ w'=>w'.cell? ⟨B+1+1,0,none⟩=some (.pointer (some ⟨B+1,0,none⟩))/\w'.cell? ⟨W'.heap.size,0,none⟩=some (.int .i64 (x.g:Nat))) (by kernel_rfl) (by kernel_rfl) (λ _ _ h=>h) ⟨c0,d0⟩ (λ qZ=>?_)
   refine Ao 0 ?_;refine Ao 1 ?_;refine Ao 2 ?_;refine Ao 3 ?_;refine Ao 5 ?_;refine Ao 6 ?_
   try simp only[Aw]
   refine AV [4,7] ?_
   refine Ai rfl (λ K hK=>?_) (Ag rfl (λ K hK=>?_))
   .go_simp
    refine hK _ _ ?_ (λ hHeld2=>?_)
    .exact qZ
    clear hK K
    try simp only[Aw]
    refine AV [7] ?_
    refine Ag rfl (λ K hK=>?_)
    go_simp
    refine hK _ _ ?_ (λ hHeld2=>?_)
    .exact ⟨((Kr Ab _).alloc _).cell qZ.1 (λ h=>h),((Kr Ab _).alloc _).cell qZ.2 (λ h=>h)⟩
    clear hK K
    try simp only[Aw]
    obtain⟨w6,hw6⟩:∃ w6,w6=(w5.alloc (.cells #[.int .i64 (x.g:Nat)] 3)).drew:=⟨_,rfl⟩
    have k6:Kp Ab w5 w6:=by rw[hw6];exact ((Kr _ w5).alloc _).drew
    have bn:w6.heap[w5.heap.size]?=some (.cells #[.int .i64 (x.g:Nat)] 3 (0,0)):=by rw[hw6];exact wN w5 _
    rw[<- hw6]
    clear hw6 hHeld2
    have o6:=Ah HO5.out k6 (λ b hb h=>h)
    have g6:=k6.at_ HG5.out (λ h=>h)
    have v6:=k6.at_ HV5.out (λ h=>h)
    have b6:=k6.at_ Hb5.out (λ h=>h)
    have z6:=k6.size
    have HM6:=sE (HM5.out.keep k6 (λ h=>h))
    have HK6:Sl (Kp (λ k=>k=B) W2 w6):=⟨HK5.out.trans k6 (λ b hb h=>h.elim)⟩
    have HnG:¬ ov.ownBlock=some (B+1):=λ h=>by have:=Af o6 h;omega
    have HnV:¬ ov.ownBlock=some (B+1+1):=λ h=>by have:=Af o6 h;omega
    have HnM:Sl (¬ ov.ownBlock=some B):=⟨λ h=>by have:=Af o6 h;omega⟩
    obtain⟨i0,hi,hz0,hz1,hz2⟩:=info_parts Dj
    refine AV [8] ?_
    refine Ag rfl (λ K hK=>?_)
    refine Ch rfl rfl (.tmp 30) (.tmp 33) 82 rfl (wl.heap.size+2) 3 i0 (.int .i64 0) 1 8 A8 hi hz0 hz1 hz2 rfl (by omega) ov (Bu pre).length (AC (Bu pre)) rfl o6 ⟨w5.heap.size,0,none⟩ 1 _ [.int .i64 (x.g:Nat)] rfl rfl (World.news_of_block bn) (by intro u hu;simp at hu;subst hu;rfl) (by unfold maxLen;omega) (by omega) (by omega) ?_
    intro nv w7 hown7 hgrow hblk
    obtain⟨na,nn,nc,hnv⟩:∃ a n c,nv=.slice a n c:=by
     rcases hown7.2 with ⟨h,_⟩|⟨g,cap,cur,h,_⟩
     .exact ⟨_,_,_,h⟩
     .exact ⟨_,_,_,h⟩
    subst hnv
    clear hi hz0 hz1 hz2
    have KA:Kp (λ b=>ov.ownBlock=some b) w6 w7:=(Kr _ w6).grown hgrow (λ k e _=>e)
    have g7:=KA.at_ g6 HnG
    have v7:=KA.at_ v6 HnV
    have b7:=KA.at_ b6 HnC.out
    have f7:=Ae g7 3
    have e73:=(BG g7).2.2.2.1
    refine hK _ _ ?_ (λ hHeld4=>?_)
    .exact ⟨cell_of_one v7,(BG b7).1⟩
    clear hK K
    try simp only[Aw]
    refine Ao 9 ?_;refine Ao 10 ?_
    try simp only[Aw]
    refine AV [11] ?_
    refine Ag rfl (λ K hK=>?_)
    go_simp
    refine hK _ _ ?_ (λ hHeld5=>?_)
    .exact ⟨cell_of_one (((Kr (λ k=>k=B+1) w7).setCell (λ _=>rfl) _).at_ v7 (by omega)),(BG (((Kr (λ k=>k=B+1) w7).setCell (λ _=>rfl) _).at_ b7 (by omega))).1⟩
    clear hK K
    try simp only[Aw]
    refine wpAnyH_done (by kernel_rfl) ?_ _
    have HG7:=sE g7
    have HO7:=sE hown7
    have HKA:=sE KA
    have hgn:∀ b,(Value.slice na nn nc).ownBlock=some b->wl.heap.size+2<=b:=λ b hb=>(Af hown7 hb).1
    have HGN:=sE hgn
    clear hown7 hgrow hblk f7 e73 hHeld4 hHeld5 o6 g6 v6 b6 bn k6 hgn
    obtain⟨w8,hw8⟩:∃ w8,w8=w7.setCell ⟨B+1,3,none⟩ (Value.slice na nn nc):=⟨_,rfl⟩
    rw[<- hw8]
    have k8:Kp (λ k=>k=B+1) w7 w8:=by rw[hw8];exact (Kr (λ k=>k=B+1) w7).setCell (λ _=>rfl) _
    have g8:=set5_3 HG7.out (Value.slice na nn nc)
    rw[<- hw8] at g8
    clear hw8
    have v8:=k8.at_ v7 (by omega)
    have b8:=k8.at_ b7 (by omega)
    obtain⟨d0,d1,d2,d3,d4⟩:=BG b8
    have c0:=cell_of_one v8
    have e84:=(BG g8).2.2.2.2
    have f84:=Ae g8 4
    have HV8:=sE v8
    have HG8:=sE g8
    have HK8:=sE k8
    clear g7 v7 b7 v8 b8 g8 k8 KA d1 d2 d3
    gi_wp2_with fail
    have KB:Kp (λ k=>k=B+1) w8 (w8.setCell ⟨B+1,4,none⟩ (.int .i64 ((x.g:Int)+(x.sz:Int)))):=(Kr (λ k=>k=B+1) w8).setCell (λ _=>rfl) _
    have hG:=set5_4 HG8.out (.int .i64 ((x.g:Int)+(x.sz:Int)))
    rw[show (x.g:Int)+(x.sz:Int)=((e'+x.sz:Nat):Int) by have:=HXg.out;omega] at hG KB ⊢
    have KK:Kp (λ k=>k=B\/k=B+1\/ov.ownBlock=some k) W2 (w8.setCell ⟨B+1,4,none⟩ (.int .i64 ((e'+x.sz:Nat):Int))):=
     (((HK6.out.mono λ b hb h=>.inl h).trans HKA.out (λ b hb h=>.inr (.inr h))).trans HK8.out (λ b hb h=>.inr (.inl h))).trans KB (λ b hb h=>.inr (.inl h))
    have K79:Kp (λ k=>k=B+1) w7 (w8.setCell ⟨B+1,4,none⟩ (.int .i64 ((e'+x.sz:Nat):Int))):=HK8.out.trans KB (λ b hb h=>h)
    refine⟨KK.mono λ b hb h=>by rw[HSe.out];exact h,_,(Value.slice na nn nc),e'+x.sz,⟨hG,⟨n+1,by simp;omega,?_⟩,?_,HT2.out⟩,KB.at_ HV8.out (by omega),rfl,?_⟩
    .rw [show Ew (pre++[x])=(λ g=>Ew pre g||g==(x.g:Int)) from funext λ g=>by
      rw[startI_add]
      have:((x.g:Int)==g)=(g==(x.g:Int)):=by rw[Bool.eq_iff_iff,beq_iff_eq,beq_iff_eq];exact eq_comm
      simp[ht,this]]
     exact(HM6.out.keep HKA.out HnM.out).keep K79 (by omega)
    .rw [obsG_add,if_pos ht,AC,List.map_append,List.length_append]
     exact Ah HO7.out K79 (λ b hb h=>by have:=HGN.out b hb;omega)
    .exact (HA6.out.trans HK2.out (λ b hb h=>by omega)).trans KK (λ b hb h=>by
      rcases h with h|h|h
      .exact .inl h
      .exact .inr h
      .have:=Af HO2.out h;omega)
   .go_simp
    refine hK _ _ ?_ (λ hHeld2=>?_)
    .exact ⟨((Kr Ab _).alloc _).cell qZ.1 (λ h=>h),((Kr Ab _).alloc _).cell qZ.2 (λ h=>h)⟩
    clear hK K
    try simp only[Aw]
    have e3':(w5.alloc (.cells #[.int .i64 (x.g:Nat)] 3)).drew.cell? ⟨B+1,3,none⟩=some ov:=(((Kr Ab w5).alloc _).drew).cell e3 (λ h=>h)
    refine AV [4] ?_
    refine Ag rfl (λ K hK=>?_)
    go_simp
    refine hK _ _ ?_ (λ hHeld3=>?_)
    .exact hHeld2
    clear hK K
    try simp only[Aw]
    obtain⟨w6,hw6⟩:∃ w6,w6=(w5.alloc (.cells #[.int .i64 (x.g:Nat)] 3)).drew:=⟨_,rfl⟩
    have k6:Kp Ab w5 w6:=by rw[hw6];exact ((Kr _ w5).alloc _).drew
    have bn:w6.heap[w5.heap.size]?=some (.cells #[.int .i64 (x.g:Nat)] 3 (0,0)):=by rw[hw6];exact wN w5 _
    rw[<- hw6]
    clear hw6 hHeld2
    have o6:=Ah HO5.out k6 (λ b hb h=>h)
    have g6:=k6.at_ HG5.out (λ h=>h)
    have v6:=k6.at_ HV5.out (λ h=>h)
    have b6:=k6.at_ Hb5.out (λ h=>h)
    have z6:=k6.size
    have HM6:=sE (HM5.out.keep k6 (λ h=>h))
    have HK6:Sl (Kp (λ k=>k=B) W2 w6):=⟨HK5.out.trans k6 (λ b hb h=>h.elim)⟩
    have HnG:¬ ov.ownBlock=some (B+1):=λ h=>by have:=Af o6 h;omega
    have HnV:¬ ov.ownBlock=some (B+1+1):=λ h=>by have:=Af o6 h;omega
    have HnM:Sl (¬ ov.ownBlock=some B):=⟨λ h=>by have:=Af o6 h;omega⟩
    obtain⟨i0,hi,hz0,hz1,hz2⟩:=info_parts Dj
    refine AV [8] ?_
    refine Ag rfl (λ K hK=>?_)
    refine Ch rfl rfl (.tmp 30) (.tmp 33) 82 rfl (wl.heap.size+2) 3 i0 (.int .i64 0) 1 8 A8 hi hz0 hz1 hz2 rfl (by omega) ov (Bu pre).length (AC (Bu pre)) rfl o6 ⟨w5.heap.size,0,none⟩ 1 _ [.int .i64 (x.g:Nat)] rfl rfl (World.news_of_block bn) (by intro u hu;simp at hu;subst hu;rfl) (by unfold maxLen;omega) (by omega) (by omega) ?_
    intro nv w7 hown7 hgrow hblk
    obtain⟨na,nn,nc,hnv⟩:∃ a n c,nv=.slice a n c:=by
     rcases hown7.2 with ⟨h,_⟩|⟨g,cap,cur,h,_⟩
     .exact ⟨_,_,_,h⟩
     .exact ⟨_,_,_,h⟩
    subst hnv
    clear hi hz0 hz1 hz2
    have KA:Kp (λ b=>ov.ownBlock=some b) w6 w7:=(Kr _ w6).grown hgrow (λ k e _=>e)
    have g7:=KA.at_ g6 HnG
    have v7:=KA.at_ v6 HnV
    have b7:=KA.at_ b6 HnC.out
    have f7:=Ae g7 3
    have e73:=(BG g7).2.2.2.1
    refine hK _ _ ?_ (λ hHeld4=>?_)
    .exact ⟨cell_of_one v7,(BG b7).1⟩
    clear hK K
    try simp only[Aw]
    refine Ao 9 ?_;refine Ao 10 ?_
    try simp only[Aw]
    refine AV [11] ?_
    refine Ag rfl (λ K hK=>?_)
    go_simp
    refine hK _ _ ?_ (λ hHeld5=>?_)
    .exact ⟨cell_of_one (((Kr (λ k=>k=B+1) w7).setCell (λ _=>rfl) _).at_ v7 (by omega)),(BG (((Kr (λ k=>k=B+1) w7).setCell (λ _=>rfl) _).at_ b7 (by omega))).1⟩
    clear hK K
    try simp only[Aw]
    refine wpAnyH_done (by kernel_rfl) ?_ _
    have HG7:=sE g7
    have HO7:=sE hown7
    have HKA:=sE KA
    have hgn:∀ b,(Value.slice na nn nc).ownBlock=some b->wl.heap.size+2<=b:=λ b hb=>(Af hown7 hb).1
    have HGN:=sE hgn
    clear hown7 hgrow hblk f7 e73 hHeld4 hHeld5 o6 g6 v6 b6 bn k6 hgn
    obtain⟨w8,hw8⟩:∃ w8,w8=w7.setCell ⟨B+1,3,none⟩ (Value.slice na nn nc):=⟨_,rfl⟩
    rw[<- hw8]
    have k8:Kp (λ k=>k=B+1) w7 w8:=by rw[hw8];exact (Kr (λ k=>k=B+1) w7).setCell (λ _=>rfl) _
    have g8:=set5_3 HG7.out (Value.slice na nn nc)
    rw[<- hw8] at g8
    clear hw8
    have v8:=k8.at_ v7 (by omega)
    have b8:=k8.at_ b7 (by omega)
    obtain⟨d0,d1,d2,d3,d4⟩:=BG b8
    have c0:=cell_of_one v8
    have e84:=(BG g8).2.2.2.2
    have f84:=Ae g8 4
    have HV8:=sE v8
    have HG8:=sE g8
    have HK8:=sE k8
    clear g7 v7 b7 v8 b8 g8 k8 KA d1 d2 d3
    gi_wp2_with fail
    have KB:Kp (λ k=>k=B+1) w8 (w8.setCell ⟨B+1,4,none⟩ (.int .i64 ((x.g:Int)+(x.sz:Int)))):=(Kr (λ k=>k=B+1) w8).setCell (λ _=>rfl) _
    have hG:=set5_4 HG8.out (.int .i64 ((x.g:Int)+(x.sz:Int)))
    rw[show (x.g:Int)+(x.sz:Int)=((e'+x.sz:Nat):Int) by have:=HXg.out;omega] at hG KB ⊢
    have KK:Kp (λ k=>k=B\/k=B+1\/ov.ownBlock=some k) W2 (w8.setCell ⟨B+1,4,none⟩ (.int .i64 ((e'+x.sz:Nat):Int))):=
     (((HK6.out.mono λ b hb h=>.inl h).trans HKA.out (λ b hb h=>.inr (.inr h))).trans HK8.out (λ b hb h=>.inr (.inl h))).trans KB (λ b hb h=>.inr (.inl h))
    have K79:Kp (λ k=>k=B+1) w7 (w8.setCell ⟨B+1,4,none⟩ (.int .i64 ((e'+x.sz:Nat):Int))):=HK8.out.trans KB (λ b hb h=>h)
    refine⟨KK.mono λ b hb h=>by rw[HSe.out];exact h,_,(Value.slice na nn nc),e'+x.sz,⟨hG,⟨n+1,by simp;omega,?_⟩,?_,HT2.out⟩,KB.at_ HV8.out (by omega),rfl,?_⟩
    .rw [show Ew (pre++[x])=(λ g=>Ew pre g||g==(x.g:Int)) from funext λ g=>by
      rw[startI_add]
      have:((x.g:Int)==g)=(g==(x.g:Int)):=by rw[Bool.eq_iff_iff,beq_iff_eq,beq_iff_eq];exact eq_comm
      simp[ht,this]]
     exact(HM6.out.keep HKA.out HnM.out).keep K79 (by omega)
    .rw [obsG_add,if_pos ht,AC,List.map_append,List.length_append]
     exact Ah HO7.out K79 (λ b hb h=>by have:=HGN.out b hb;omega)
    .exact (HA6.out.trans HK2.out (λ b hb h=>by omega)).trans KK (λ b hb h=>by
      rcases h with h|h|h
      .exact .inl h
      .exact .inr h
      .have:=Af HO2.out h;omega)
  .have t1:((x.tag:Int)==1)=false:=by simp;omega
   obtain⟨e0,e1,e2,e3,e4⟩:=BG g2
   have f4:=Ae g2 4
   clear g2 e0 e1 e2 e3 d2 d3
   gi_wp2_with fail
   have KB:Kp (λ k=>k=B+1) W2 (W2.setCell ⟨B+1,4,none⟩ (.int .i64 ((x.g:Int)+(x.sz:Int)))):=(Kr (λ k=>k=B+1) W2).setCell (λ _=>rfl) _
   have hG:=set5_4 HG2.out (.int .i64 ((x.g:Int)+(x.sz:Int)))
   rw[show (x.g:Int)+(x.sz:Int)=((e'+x.sz:Nat):Int) by have:=HXg.out;omega] at hG KB ⊢
   refine⟨KB.mono λ b hb h=>by rw[HSe.out];exact .inr (.inl h),_,ov,e'+x.sz,⟨hG,⟨n,by simp;omega,?_⟩,?_,HT2.out⟩,KB.at_ HV2.out (by omega),rfl,?_⟩
   .rw [show Ew (pre++[x])=Ew pre from funext λ g=>by rw[startI_add];simp [ht]]
    exact HM2.out.keep KB (by omega)
   .rw [obsG_add,if_neg ht,List.append_nil]
    exact Ah HO2.out KB (λ b hb h=>by have:=Af HO2.out hb;omega)
   .exact (HA6.out.trans HK2.out (λ b hb h=>by omega)).trans KB (λ b hb h=>.inr h)
 case hdone=>
  rintro S W' ⟨ov,e,⟨a1,⟨n,hn',a2⟩,a3,a4⟩,a5,-,a6⟩ hs hD
  obtain rfl:e=E:=tiles_same a4 htl
  have c0:=cell_of_one a5
  have HA1:=sE a1
  have HA2:=sE a2
  have HA3:=sE a3
  have HA4:=sE a4
  have HA6:=sE a6
  clear a1 a2 a3 a4 a6 gl vl ml gb1 gb2
  gi_wp2_with fail
  refine⟨by simp,.inl ⟨_,_,rfl,run_takeDeferred hD,?_⟩⟩
  have kE:Kp (λ b=>b=wl.heap.size) W' (W'.putObj wl.heap.size (.deferred none)):=(Kr (λ b=>b=wl.heap.size) W').putObj (λ _=>rfl) _
  refine⟨.pointer (some ⟨B+1,0,none⟩),by simp[results,results57,go_sem],by rw[hB],⟨ov,by rw[hB];exact ⟨kE.at_ HA1.out (by omega),⟨n,hn',HA2.out.keep kE (by omega)⟩,ownsRow_less (Ah HA3.out kE (λ b hb h=>by have:=Af HA3.out hb;omega)) (by omega),HA4.out⟩⟩,?_⟩
  exact(KL.trans HA6.out (λ b hb h=>by omega)).trans kE (λ b hb h=>by omega)
 case hstop=>exact λ c pre W' hp h=>h.elim

end

section
open Go.RowKit

def tgt(cs:List Cel)(y:Nat):Int:=if 1048576<=y/\y<1114112/\(y-1048576)%2=0/\Ar cs ((y-1048576)/2)=true then (((y-1048576)/2:Nat):Int) else -1

theorem target_at(P:Sp)(gb m base e:Nat)(cs:List Cel)(ov:Value)(w:World)(hg:Df w P gb m base cs e ov)(y:Nat)(hy:y<18446744073709551616):
  Calls prog 111 #[.pointer (some ⟨gb,0,none⟩),.int .u64 (y:Nat)] w λ e' w'=>e'=.returned (.int .i64 (tgt cs y))/\w'=w:=by
 obtain⟨g1,⟨n,hn,m1⟩,-,-⟩:=hg
 obtain⟨e0,e1,e2,e3,e4⟩:=BG g1
 clear e0 e1 e3 e4 g1
 by_cases hb:1048576<=y/\y<1114112
 .obtain ⟨k,rfl⟩:∃ k,y=1048576+k:=⟨y-1048576,by omega⟩
  have hk:k<65536:=by omega
  have HW:=sE (SWord_yes k w hk)
  have ht:tgt cs (1048576+k)=if k%2=0/\Ar cs (k/2)=true then ((k/2:Nat):Int) else -1:=by
   unfold tgt
   rw[show 1048576+k-1048576=k by omega]
   by_cases q:k%2=0/\Ar cs (k/2)=true
   .rw [if_pos q,if_pos ⟨by omega,by omega,q.1,q.2⟩]
   .rw [if_neg q,if_neg (λ h=>q ⟨h.2.2.1,h.2.2.2⟩)]
  rw[ht]
  have HD:Sl ((k:Int)/2=((k/2:Nat):Int)):=⟨by omega⟩
  have hlook:=m1.look (E5 (g:=k/2) (by omega))
  rw[startI_nat,<- HD.out] at hlook
  clear ht hb hy
  by_cases q1:k%2=0
  .have p1:((k:Int)%2 !=0)=false:=by simp;omega
   cases q2:Ar cs (k/2) with
   |true=>
    rw[q2] at hlook
    rw[if_pos ⟨q1,rfl⟩,<- HD.out]
    clear q1 q2
    go_enter func111,ntmps111
    go_wp2_with fail
    refine HW.out.mono ?_
    rintro e w' ⟨rfl,rfl⟩
    go_wp2
    go_ret
    exact⟨rfl,rfl⟩
   |false=>
    rw[q2] at hlook
    rw[if_neg (by simp)]
    clear q1 q2
    go_enter func111,ntmps111
    go_wp2_with fail
    refine HW.out.mono ?_
    rintro e w' ⟨rfl,rfl⟩
    go_wp2
    go_ret
    exact⟨rfl,rfl⟩
  .have p1:((k:Int)%2 !=0)=true:=by simp;omega
   rw[if_neg (λ h=>q1 h.1)]
   clear q1 hlook
   go_enter func111,ntmps111
   go_wp2_with fail
   refine HW.out.mono ?_
   rintro e w' ⟨rfl,rfl⟩
   go_wp2
   go_ret
   exact⟨rfl,rfl⟩
 .have HW:=sE (SWord_no y w (by omega) hy)
  have ht:tgt cs y=-1:=by unfold tgt;rw [if_neg (λ h=>hb ⟨h.1,h.2.1⟩)]
  rw[ht]
  clear ht hb hy
  go_enter func111,ntmps111
  go_wp2_with fail
  refine HW.out.mono ?_
  rintro e w' ⟨rfl,rfl⟩
  go_wp2
  go_ret
  exact⟨rfl,rfl⟩

end

section
open Go.RowKit

theorem bit_mod{v k:Nat}:v.testBit k=(v/2 ^ k%2==1):=by
 rw[Nat.testBit_eq_decide_div_mod_eq]
 rfl

theorem LRef_bit(k wds n:Int)(M s:Nat)(w:World)(hM:M<18446744073709551616)(hs:s<64)(h2:¬ k=2)(h3:¬ k=3):
  Calls prog 106 #[BC k wds (M:Nat) n,.int .i64 (s:Nat)] w λ e w'=>e=.returned (.bool (M/2 ^ s%2==1))/\Kp Ab w w':=by
 unfold BC
 have b2:(k==2)=false:=by simpa using h2
 have b3:(k==3)=false:=by simpa using h3
 have HT:Sl ((bits BinOp.and IntKind.u64 ((M:Int)/2 ^ s) 1==1)=(M/2 ^ s%2==1)):=⟨by rw[bit_test M s hM,bit_mod]⟩
 go_enter func106,ntmps106
 go_wp2
 go_ret
 exact⟨by rw[<- HT.out];rfl,(Kr Ab w).alloc _⟩

theorem LRef_raw(wds n:Int)(s:Nat)(w:World)(hs:s<65536):
  Calls prog 106 #[BC 4 wds 0 n,.int .i64 (s:Nat)] w λ e w'=>e=.returned (.bool false)/\Kp Ab w w':=by
 unfold BC
 have HT:bits BinOp.and IntKind.u64 0 1=0:=by decide +kernel
 by_cases h:s<64
 .have HZ:(0:Int)/2 ^ s=0:=Int.zero_ediv _
  go_enter func106,ntmps106
  go_wp2
  go_ret
  exact⟨by first|rfl|simp [HT]|(rw [HT];rfl),(Kr Ab w).alloc _⟩
 .go_enter func106,ntmps106
  go_wp2
  go_ret
  exact⟨by first|rfl|simp [HT]|(rw [HT];rfl),(Kr Ab w).alloc _⟩

theorem LRef_row(wds m n:Int)(s:Nat)(w:World):
  Calls prog 106 #[BC 2 wds m n,.int .i64 (s:Nat)] w λ e w'=>e=.returned (.bool true)/\Kp Ab w w':=by
 unfold BC
 go_enter func106,ntmps106
 go_wp2
 go_ret
 exact⟨rfl,(Kr Ab w).alloc _⟩

theorem LRef_structs(V:Nat)(n:Int)(M s:Nat)(w:World)(hM:M<18446744073709551616)(hV0:1<=V)(hV:V<=16)(hs:s<65536):
  Calls prog 106 #[BC 3 (V:Nat) (M:Nat) n,.int .i64 (s:Nat)] w λ e w'=>e=.returned (.bool (M/2 ^ (s%V)%2==1))/\Kp Ab w w':=by
 unfold BC
 have hm:((s:Nat):Int).tmod ((V:Nat):Int)=((s%V:Nat):Int):=by
  rw[Int.tmod_eq_emod_of_nonneg (by omega)]
  push_cast;rfl
 have hr16:s%V<16:=Nat.lt_of_lt_of_le (Nat.mod_lt _ (by omega)) (by omega)
 obtain⟨r,hr⟩:∃ r,s%V=r:=⟨_,rfl⟩
 rw[hr] at hm hr16 ⊢
 have hv0:¬ ((V:Nat):Int)=0:=by omega
 have hv1:(((V:Nat):Int)==0)=false:=by simp;omega
 have HT:Sl ((bits BinOp.and IntKind.u64 ((M:Int)/2 ^ r) 1==1)=(M/2 ^ r%2==1)):=⟨by rw[bit_test M r hM,bit_mod]⟩
 clear hr
 go_enter func106,ntmps106
 go_wp2
 go_ret
 exact⟨by rw[<- HT.out];rfl,(Kr Ab w).alloc _⟩

theorem LRef_any(k wds n:Int)(M s:Nat)(w:World)(hM:M<18446744073709551616)(hE:AP k wds M n=0)(hs:(s:Int)<AL k wds n):
  Calls prog 106 #[BC k wds (M:Nat) n,.int .i64 (s:Nat)] w λ e w'=>e=.returned (.bool (Ba k wds M s))/\Kp Ab w w':=by
 have hs2:s<65536:=by have:=(AU hE).2;omega
 obtain⟨z1,z2,z3,z4,z5⟩:=Ec hE
 rcases z5 with ⟨rfl,h1,h2⟩|⟨rfl,h1,h2⟩|⟨rfl|rfl,rfl⟩
 .rw [show Ba 1 wds M s=(M/2 ^ s%2==1) by unfold Ba;rw [if_pos rfl]]
  refine LRef_bit 1 wds n M s w hM ?_ (by omega) (by omega)
  rw[AL,if_pos rfl] at hs
  omega
 .obtain ⟨V,rfl⟩:=Int.eq_ofNat_of_zero_le (show 0<=wds by omega)
  rw[show Ba 3 (V:Nat) M s=(M/2 ^ (s%V)%2==1) by unfold Ba;rw [if_neg (by omega),if_pos rfl,Int.toNat_natCast]]
  exact LRef_structs V n M s w hM (by omega) (by omega) hs2
 .rw [show Ba 2 0 M s=true by unfold Ba;rw [if_neg (by omega),if_neg (by omega)];rfl]
  exact LRef_row 0 _ n s w
 .rw [show Ba 4 0 M s=false by unfold Ba;rw [if_neg (by omega),if_neg (by omega)];rfl]
  have hM0:M=0:=by
   have:=z1
   simp[Dp] at this
   exact this
  subst hM0
  exact LRef_raw 0 n s w hs2

theorem KRefs_any(k wds:Int)(M:Nat)(n:Int)(w:World)(hM:M<18446744073709551616)(hE:AP k wds M n=0):
  Calls prog 182 #[.agg #[.int .u8 k,.int .i64 wds,.int .u64 (M:Nat)],.int .i64 n] w (DRefsPost k wds M n w):=by
 obtain⟨K,hK⟩:∃ K:Nat,AL k wds n=(K:Nat):=Int.eq_ofNat_of_zero_le (AU hE).1
 have hK2:K<=65536:=by have:=(AU hE).2;omega
 have CO:=λ w=>Kof_any k wds M n w
 unfold AB at CO
 have HO0:=sE CO
 have HZ:=sE hE
 have CS:=λ w=>slots_any k wds M n w hE
 rw[hK] at CS
 unfold BC at CS
 have HC:=sE CS
 have HIs:Sl (∀ (s:Nat) W',s<K->Calls prog 106 #[.agg #[.int .u8 k,.int .i64 wds,.int .u64 (M:Nat),.int .i64 n],.int .i64 (s:Nat)] W' λ e w'=>e=.returned (.bool (Ba k wds M s))/\Kp Ab W' w'):=
  ⟨λ s W' hs=>LRef_any k wds n M s W' hM hE (by rw[hK];omega)⟩
 have HR:Sl (Bc k wds M n=AJ k wds M K):=⟨by unfold Bc;rw [hK,Int.toNat_natCast]⟩
 have kA:=(Kr Ab w).alloc (.cells #[.int .u8 k,.int .i64 wds,.int .u64 (M:Nat)] 86)
 clear CO CS hK hE
 go_enter func182,ntmps182
 go_wp2_with fail
 obtain⟨w1,hw1⟩:∃ w1,w1=w.alloc (.cells #[.int .u8 k,.int .i64 wds,.int .u64 (M:Nat)] 86):=⟨_,rfl⟩
 rw[<- hw1] at kA ⊢
 clear hw1
 refine(HO0.out w1).mono ?_
 rintro e w2 ⟨v,rfl,hv,hv0,k2⟩
 have hv2:=hv0 HZ.out
 unfold BC at hv2
 subst hv2
 rw[HZ.out]
 clear hv hv0
 obtain⟨w3,hw3⟩:∃ w3,w3=w2.alloc (.cells #[.int .u8 k,.int .i64 wds,.int .u64 (M:Nat),.int .i64 n] 187):=⟨_,rfl⟩
 have k3:Kp Ab w2 w3:=by rw[hw3];exact (Kr _ w2).alloc _
 have b3:w3.heap[w2.heap.size]?=some (.cells #[.int .u8 k,.int .i64 wds,.int .u64 (M:Nat),.int .i64 n] 187 (0,0)):=by rw[hw3];exact wN w2 _
 have HB3:=sE b3
 have HK3:=sE ((kA.then' k2).then' k3)
 clear kA k2 k3 b3
 go_wp2_with fail
 rw[<- hw3]
 clear hw3
 refine(HC.out w3).mono ?_
 rintro e w4 ⟨rfl,k4⟩
 have HB4:=sE (k4.at_ HB3.out (λ h=>h))
 have HK4:=sE (HK3.out.then' k4)
 clear k4
 obtain⟨L,hL⟩:∃ L,w2.heap.size=L:=⟨_,rfl⟩
 rw[hL] at HB4
 go_wp2_with fail
 go_loopw [4,7,19] (λ v _ y wr=>∃ j:Nat,j<=K/\y=.int .i64 (j:Nat)/\wr.ownsRow w4.heap.size 3 1 v (AJ k wds M j).length (AC (AJ k wds M j))/\Kp Ab w4 wr) (λ _ _ y _=>K-(intOf y).toNat)
 case atStart=>exact ⟨0,Nat.zero_le _,rfl,World.ownsRow_nil _ _ _ _,Kr _ _⟩
 case round=>
  obtain⟨j,hj,rfl,hown,hk⟩:=hrel
  by_cases hjl:j<K
  .have hjl':(j:Int)<(K:Int):=by omega
   obtain⟨a0,a1,a2,a3⟩:=Ay (hk.at_ HB4.out (λ h=>h))
   have hlen:=refsUpto_len k wds M j
   have hsz1:=hk.size
   have HK:=sE hk
   have HO:=sE hown
   have HSu:=sE (refsUpto_succ k wds M j)
   clear hk hown
   go_wp2_with fail
   refine(HIs.out j _ hjl).mono ?_
   rintro e w5 ⟨rfl,k5⟩
   have K5:=HK.out.then' k5
   have O5:w5.ownsRow w4.heap.size 3 1 u4 (AJ k wds M j).length (AC (AJ k wds M j)):=k5.owns HO.out (λ _ _ h=>h)
   have hs5:=k5.size
   cases hb:Ba k wds M j with
   |false=>
    have HE:Sl (AJ k wds M (j+1)=AJ k wds M j):=⟨by rw[HSu.out,hb];simp⟩
    have HO5:=sE O5
    have HK5:=sE K5
    clear hb a0 a1 a2 a3 k5 O5 K5
    go_wp2
    exact⟨⟨j+1,by omega,by go_num,by rw[HE.out];exact HO5.out,HK5.out⟩,by simp only[intOf];omega⟩
   |true=>
    have HE:Sl (AJ k wds M (j+1)=AJ k wds M j++[j]):=⟨by rw[HSu.out,hb];simp⟩
    have HO5:=sE O5
    have HK5:=sE K5
    clear hb a0 a1 a2 a3 k5 O5 K5
    go_wp2_with (at_builtin;obtain ⟨i0,hi,hz0,hz1,hz2⟩:=info_parts Dj;go_loud (refine wpList_append_lies _ rfl (.tmp 25) (.tmp 27) 82 rfl w4.heap.size 3 i0 _ 1 8 A8 hi hz0 hz1 hz2 rfl (by omega) u4 (AJ k wds M j).length (AC (AJ k wds M j)) rfl (HO5.out.alloc _) ⟨w5.heap.size,0,none⟩ 1 1 [.int .i64 (j:Nat)] rfl rfl (World.news_of_block (wN w5 _)) (by intro u hu;simp at hu;subst hu;rfl) (by omega) (by unfold maxLen;omega) (by omega) (by simp;omega) (w5.heap.size+1) (by simp) ?_);intro g cap w6 hown6 hgrow hat hlt;clear hi hz0 hz1 hz2)
    have k6:Kp Ab w4 w6:=(HK5.out.alloc _).grown hgrow (λ k e hl=>absurd (HO5.out.lt k e).1 (by omega))
    have h6:w6.ownsRow w4.heap.size 3 1 (.slice (some ⟨g,0,none⟩) ((AJ k wds M j).length+1) cap) (AJ k wds M (j+1)).length (AC (AJ k wds M (j+1))):=by
     rw[HE.out,AC,List.map_append,List.length_append];exact hown6
    clear hown6 hgrow hat
    go_wp2
    exact⟨⟨j+1,by omega,by go_num,h6,k6⟩,by simp only[intOf];omega⟩
  .have hjl':¬ (j:Int)<(K:Int):=by omega
   have HE:Sl (Bc k wds M n=AJ k wds M j):=⟨by rw[HR.out,show j=K by omega]⟩
   have hz:w.heap.size<=w4.heap.size:=HK4.out.size
   go_wp2
   exact bodyPost_ret (v:=.tuple #[u4,.int .i64 0]) (by simp[results,results182,go_sem]) rfl ⟨u4,rfl,by rw[HE.out];exact Bi hown hz,HK4.out.then' hk⟩

attribute [local go_sem] Oper.semAt_some

theorem vrefs_fn(b:Nat)(w:World):
  Calls prog 147 #[.pointer (some ⟨b,0,none⟩)] w λ e w'=>
   e=.returned (.func (.func 181) #[] #[.pointer (some ⟨w.heap.size,0,none⟩)])/\w.alloc (.cells #[.pointer (some ⟨b,0,none⟩)] 44)=w':=by
 have hmf:∀ (fn:Fn) (first cap:Array Value) (w:World),(Instr.makeFunc fn first cap).run prog w=.ok (.func fn first cap) w:=λ _ _ _ _=>rfl
 go_enter func147,ntmps147
 go_wp2
 go_ret
 exact⟨rfl,rfl⟩

theorem FO{k wds:Int}{M:Nat}{n:Int}{s:Nat}(hE:AP k wds M n=0)(h:s∈Bc k wds M n):(s:Int)<AL k wds n:=by
 have:=refsUpto_mem h
 have:=(AU hE).1
 omega

theorem Eh{k wds:Int}{M:Nat}{n:Int}(hE:AP k wds M n=0):(Bc k wds M n).length<=65536:=by
 have:=refsUpto_len k wds M (AL k wds n).toNat
 have:=(AU hE).2
 unfold Bc
 omega

theorem AA{w:World}{base:Nat}{e:TypeId}{size:Nat}{v:Value}{n:Nat}{xs:List Value}(h:w.ownsRow base e size v n xs):∃ a c,v=.slice a n c:=by
 rcases h.2 with ⟨h,h0⟩|⟨g,cap,cur,h,_⟩
 .exact ⟨_,_,by rw[h,h0]⟩
 .exact ⟨_,_,h⟩

theorem Db{w:World}{base:Nat}{e:TypeId}{a:Option Addr}{n c:Nat}{xs:List Nat}{i x:Nat}(h:w.ownsRow base e 1 (.slice a n c) n (AC xs))(hx:xs[i]?=some x):∃ b,a=some ⟨b,0,none⟩/\w.cell? ⟨b,i,none⟩=some (.int .i64 (x:Nat)):=by
 have hi:=(gE.1 hx).1
 have hn:xs.length=n:=by have:=h.1;simpa [AC] using this
 rcases h.2 with ⟨-,h0⟩|⟨g,cap,cur,hv,g2,g3,g4,g5,g6,g7⟩
 .omega
 .injection hv with h1 h2 h3
  refine⟨g,h1,?_⟩
  have:cur.toList[i]?=some (.int .i64 (x:Nat)):=by
   rw[<- List.getElem?_take_of_lt (j:=n*1) (by omega),g7,AC,List.getElem?_map,hx]
   rfl
  simp only[World.cell?,g3]
  rw[<- this]
  simp

set_option maxRecDepth 20000 in
theorem vrefs_iter4(bx b a q n:Nat)(W0:Nat->Nat)(c:Cel)(k wds:Int)(m:Nat)(w:World)(hA:ArenaAt w a q W0 n)(hV:Bt w b a c k wds m)(hE:AP k wds m (c.ln:Nat)=0)(hM:m<18446744073709551616)(hfit:2*c.g+1+AL k wds (c.ln:Nat)<=(n:Nat))
  (hb:w.heap[bx]?=some (.cells #[.pointer (some ⟨b,0,none⟩)] 44 (0,0))) {R:Nat->Prop} (hR:∀ i,R i->i<w.heap.size/\¬ i=bx/\¬ i=b/\¬ i=a/\¬ i=q):
  IterAt4 prog 181 #[.pointer (some ⟨bx,0,none⟩)] (λ s=>#[.int .i64 (s:Nat),.int .u64 (W0 (2*c.g+1+s):Nat)]) (Bc k wds m (c.ln:Nat)) Ab R w:=by
 intro l J Jx S0 W hW hl1 hl2 hS hJ hJx hY h0
 have lbx:=lZ hb
 have lbv:=lZ hV
 have la:=hA.lt_a
 have lq:=hA.lt_q
 have bW:=hW.at_ hb (λ h=>h)
 have vW:=hV.Ad hW
 have aW:=hA.Ad hW
 have HVw:=sE vW
 have HAw:=sE aW
 have HBw:=sE bW
 have hlen:=Eh (M:=m) hE
 have HK:Sl (∀ W',Calls prog 182 #[.agg #[.int .u8 k,.int .i64 wds,.int .u64 (m:Nat)],.int .i64 (c.ln:Nat)] W' (DRefsPost k wds m (c.ln:Nat) W')):=⟨λ W'=>KRefs_any k wds m (c.ln:Nat) W' hM hE⟩
 have HLd:Sl (∀ (s:Nat) W',s∈Bc k wds m (c.ln:Nat)->ArenaAt W' a q W0 n->Bt W' b a c k wds m->Calls prog 18 #[.pointer (some ⟨b,0,none⟩),.int .i64 (s:Nat)] W' λ e w'=>e=.returned (.tuple #[.int .u64 (W0 (2*c.g+1+s):Nat),.int .i64 0])/\Kp Ab W' w'):=⟨λ s W' hs hA' hV'=>by
  have:=FO hE hs
  exact FI s b a q n W0 c k wds m W' hA' hV' hE this (by omega)⟩
 obtain⟨xs,hxs⟩:∃ xs,Bc k wds m (c.ln:Nat)=xs:=⟨_,rfl⟩
 have HXS:=sE hxs
 have HY:=sE hY
 rw[hxs] at hlen HLd HY ⊢
 have cb:=cell_of_one bW
 obtain⟨v0,v1,v2,v3,v4,v5,v6,v7,v8⟩:=Bt.cells vW
 have z1:=hW.size
 have H0:=sE h0
 clear hY hxs vW aW hA hV hfit hM hE bW h0 hb
 refine(callsIn_wide (n:=0)).1 ?_
 refine callsIn_of_wp func181 rfl trivial ?_
 simp only[ntmps181,List.size_toArray,List.length_cons,List.length_nil,Nat.reduceAdd,Nat.reduceSub,Array.replicate_succ,Array.replicate_zero,List.push_toArray,List.append_toArray,List.nil_append,List.cons_append]
 gi_wp2_with fail
 refine wpIn_wide.2 ?_
 refine wp_region_held_drew (S:=λ w'=>w'.cell? ⟨bx,0,none⟩=some (.pointer (some ⟨b,0,none⟩))/\w'.cell? ⟨b,4,none⟩=some (.int .i64 (c.ln:Nat))/\w'.cell? ⟨b,6,none⟩=some (.int .u8 k)/\w'.cell? ⟨b,7,none⟩=some (.int .i64 wds)/\w'.cell? ⟨b,8,none⟩=some (.int .u64 (m:Nat))) (by kernel_rfl) ?_ (λ qZ=>?_)
 .exact ⟨cb,v4,v6,v7,v8⟩
 refine Ao 0 ?_;refine Ao 1 ?_;refine Ao 2 ?_;refine Ao 3 ?_;refine Ao 4 ?_;refine Ao 5 ?_;refine Ao 6 ?_;refine Ao 7 ?_;refine Ao 8 ?_
 try simp only[Aw]
 refine AV [9] ?_
 refine Ag rfl (λ K hK=>?_)
 go_simp
 go_at_call 182
 (with_reducible refine(HK.out _).mono ?_)
 rintro e w5 ⟨v,rfl,hown,k5⟩
 have K5:Kp Ab W w5:=((Kr Ab W).drew).then' k5
 refine hK _ _ ?_ (λ qZ=>?_)
 .exact ⟨Ac K5 cb,Ac K5 v4,Ac K5 v6,Ac K5 v7,Ac K5 v8⟩
 clear hK K
 try simp only[Aw]
 refine Ao 10 ?_;refine Ao 11 ?_;refine Ao 12 ?_;refine Ao 13 ?_;refine Ao 14 ?_
 try simp only[Aw]
 refine wpAnyH_done (by kernel_rfl) ?_ _
 rw[HXS.out] at hown
 obtain⟨va,vc,hva⟩:=AA hown
 subst hva
 obtain⟨L,hL⟩:∃ L,xs.length=L:=⟨_,rfl⟩
 rw[hL] at hown hlen ⊢
 have HL:=sE hL
 have J5:=hJ _ _ _ _ H0.out K5
 have hown5:w5.ownsRow W.heap.size 3 1 (.slice va L vc) L (AC xs):=hown
 have hS5:∀ i,S0 i->¬ (Value.slice va L vc).ownBlock=some i:=λ i hi h=>by
  have:=(hS _ _ _ H0.out i hi).2
  have:=(Af hown5 h).1
  omega
 have HR5:Sl (Kp (λ i=>R i\/i=l) W w5):=⟨K5.Al _⟩
 have HJ5:=sE (And.intro J5 (And.intro hown5 hS5))
 clear hown hown5 hS5 J5 K5 k5 hL v0 v1 v2 v3 v4 v5 v6 v7 v8 cb qZ
 gi_wp2_with fail
 gi_loopw [6,7,8,26] (λ v6 v7 v8 v26 wr=>∃ (j:Nat) (S:Nat->Prop),j<=L/\v26=.int .i64 (j:Nat)/\J (xs.take j) S wr/\Kp (λ i=>R i\/i=l) W wr/\wr.ownsRow W.heap.size 3 1 (.slice va L vc) L (AC xs)/\(∀ i,S i->¬ (Value.slice va L vc).ownBlock=some i)) (λ v6 v7 v8 v26 wr=>L-(intOf v26).toNat)
 case atStart=>exact ⟨0,S0,Nat.zero_le _,rfl,HJ5.out.1,HR5.out,HJ5.out.2.1,HJ5.out.2.2⟩
 case round=>
  obtain⟨j,S,hj,rfl,hjJ,kr,ho,hSn⟩:=hrel
  have HJ:=sE hjJ
  have HKr:=sE kr
  have HO:=sE ho
  have HSn:=sE hSn
  by_cases hjl:j<L
  .have hjl':(j:Int)<(L:Int):=by omega
   obtain⟨x,hx⟩:∃ x,xs[j]?=some x:=⟨xs[j]'(by rw[HL.out];exact hjl),by simp⟩
   obtain⟨rb,hrb,cx⟩:=Db ho hx
   subst hrb
   have hmem:x∈xs:=List.mem_of_getElem? hx
   have hnot:∀ i,i<w.heap.size->(i=bx\/i=b\/i=a\/i=q)->¬ (R i\/i=l):=λ i hi h hr=>by
    rcases hr with hr|hr
    .have:=hR i hr;omega
    .omega
   have br:=kr.at_ HBw.out (hnot bx lbx (.inl rfl))
   have cb:=cell_of_one br
   have HLo:=sE (HLd.out x wr hmem (HAw.out.keep kr (hnot a la (.inr (.inr (.inl rfl)))) (hnot q lq (.inr (.inr (.inr rfl))))) (HVw.out.keep kr (hnot b lbv (.inr (.inl rfl)))))
   have hsp:xs=xs.take j++x::xs.drop (j+1):=by
    obtain⟨h1,h2⟩:=gE.1 hx
    rw[<- h2,List.getElem_cons_drop h1,List.take_append_drop]
   have hst:xs.take (j+1)=xs.take j++[x]:=by rw[List.take_add_one,hx];rfl
   have HSp:=sE (And.intro hsp hst)
   clear kr ho hSn hjJ hmem hnot br hsp hst hx
   gi_wp2_with fail
   refine⟨trivial,rfl,?_⟩
   refine(callsIn_wide.2 HLo.out).mono ?_
   rintro e w6 ⟨rfl,k6⟩
   have J6:=hJ _ _ _ _ HJ.out k6
   have HY6:=sE (HY.out _ S x _ w6 HSp.out.1 J6)
   have O6:=Ah HO.out k6 (λ _ _ h=>h)
   have HO6:=sE O6
   have HK6:=sE (HKr.out.trans k6 (λ _ _ h=>h.elim))
   have HS6:Sl (∀ i,S i->(R i\/W.heap.size<=i)):=⟨λ i hi=>(hS _ _ _ J6 i hi).1⟩
   have hrow6:=Af O6 (b:=rb) rfl
   clear J6 O6 k6 cx cb
   gi_wp2_with fail
   refine CU HY6.out rfl ?_
   intro b' B hB
   rcases hB with ⟨rfl,hk,S',hT,hS'⟩|⟨rfl,hE⟩
   .have hnr:∀ i,(S i\/i=l)->¬ (Value.slice (some ⟨rb,0,none⟩) L vc).ownBlock=some i:=λ i hi h=>by
     rcases hi with hi|hi
     .exact HSn.out i hi h
     .have:=(Af HO6.out h).1;omega
    have OB:=Ah HO6.out hk (λ b' hb' hs=>hnr b' hs hb')
    have KB:=HK6.out.trans hk (λ i hi h=>by
     rcases h with h|h
     .rcases HS6.out i h with h|h
      .exact .inl h
      .omega
     .exact .inr h)
    have HF:Sl _:=⟨And.intro hT (And.intro KB (And.intro OB (λ i hi h=>by
     rcases hS' i hi with h'|h'
     .exact HSn.out i h' h
     .have:=(Af HO6.out h).2;omega:∀ i,S' i->¬ (Value.slice (some ⟨rb,0,none⟩) L vc).ownBlock=some i)))⟩
    clear hT KB OB hS' hk hnr
    gi_wp2_with fail
    exact⟨⟨j+1,S',by omega,by go_num,by rw[HSp.out.2];exact HF.out.1,HF.out.2.1,HF.out.2.2.1,HF.out.2.2.2⟩,by simp only[intOf];omega⟩
   .gi_wp2_with fail
    refine bodyPost_ret (results_none rfl _ _ _) rfl ?_
    exact⟨⟨_,rfl⟩,.inr ⟨_,⟨_,by rw[List.append_assoc];exact HSp.out.1.symm⟩,hE⟩⟩
  .have hjl':¬ (j:Int)<(L:Int):=by omega
   gi_wp2_with fail
   go_end0
   exact⟨⟨_,rfl⟩,.inl ⟨S,by have:=HJ.out;rwa [List.take_of_length_le (by rw[HL.out];omega)] at this⟩⟩

end

section
open Go.RowKit
attribute [local go_sem] Oper.semAt_some

def BP(ts:List TypR)(c:Cel):List Nat:=match typeOf ts (c.ty:Nat) with|some x=>Bc x.k x.wds x.m (c.ln:Nat)|none=>[]

end

section
open Go.RowKit
attribute [local go_sem] Oper.semAt_some

def RefI(rv:Nat)(wl:World)(pre:List Nat)(S:Nat->Prop)(W':World):Prop:=
 ∃ v,W'.heap[rv]?=some (.cells #[v] 82 (0,0))/\W'.ownsRow (wl.heap.size+2) 3 1 v (pre).length (AC (pre))/\(S=λ k=>k=rv\/v.ownBlock=some k)/\Kp (λ k=>k=rv) wl W'

set_option maxRecDepth 20000 in
theorem VRefs_at(b a q n:Nat)(W0:Nat->Nat)(c:Cel)(k wds:Int)(m:Nat)(w:World)(hA:ArenaAt w a q W0 n)(hV:Bt w b a c k wds m)(hE:AP k wds m (c.ln:Nat)=0)(hM:m<18446744073709551616)(hfit:2*c.g+1+AL k wds (c.ln:Nat)<=(n:Nat)):
  Calls prog 110 #[.pointer (some ⟨b,0,none⟩)] w λ e w'=>∃ v,e=.returned v/\w'.ownsRow w.heap.size 3 1 v ((Bc k wds m (c.ln:Nat))).length (AC ((Bc k wds m (c.ln:Nat))))/\Kp Ab w w':=by
 have lbv:=lZ hV
 have la:=hA.lt_a
 have lq:=hA.lt_q
 have hlen:=Eh (M:=m) hE
 refine(callsIn_wide (n:=0)).1 ?_
 refine callsIn_of_wp_marks func110 rfl trivial ?_
 simp only[ntmps110,List.size_toArray,List.length_cons,List.length_nil,Nat.reduceAdd,Nat.reduceSub,Array.replicate_succ,Array.replicate_zero,List.push_toArray,List.append_toArray,List.nil_append,List.cons_append]
 gi_wp2_with fail
 refine⟨trivial,rfl,?_⟩
 obtain⟨w1,hw1⟩:∃ w1,w1=w.alloc (.cells #[.slice none 0 0] 82):=⟨_,rfl⟩
 rw[<- hw1]
 have k1:Kp Ab w w1:=by rw[hw1];exact (Kr _ w).alloc _
 have z1:w1.heap.size=w.heap.size+1:=by rw[hw1];simp
 have b1:w1.heap[w.heap.size]?=some (.cells #[.slice none 0 0] 82 (0,0)):=by rw[hw1];exact wN w _
 clear hw1
 refine(callsIn_wide.2 (vrefs_fn b w1)).mono ?_
 rintro e wl ⟨rfl,hwl⟩
 have hzl:wl.heap.size=w1.heap.size+1:=by rw[<- hwl];simp
 have kl:Kp Ab w1 wl:=by rw[<- hwl];exact (Kr _ w1).alloc _
 have gbx:wl.heap[w1.heap.size]?=some (.cells #[.pointer (some ⟨b,0,none⟩)] 44 (0,0)):=by rw[<- hwl];exact wN w1 _
 clear hwl
 have KL:Kp Ab w wl:=k1.then' kl
 have bl1:=kl.at_ b1 (λ h=>h)
 rw[z1] at gbx hzl
 obtain⟨B,hB⟩:∃ B,w.heap.size=B:=⟨_,rfl⟩
 rw[hB] at gbx hzl bl1 lbv la lq z1
 gi_wp2_with fail
 refine Fu (n:=0) (gf:=181) (lb:=#[.pointer (some ⟨B+1,0,none⟩)]) rfl (enters_of func181 (by kernel_rfl) rfl)
  (vrefs_iter4 (B+1) b a q n W0 c k wds m wl (hA.Ad KL) (hV.Ad KL) hE hM hfit gbx (R:=λ i=>i=B) (λ i hi=>by subst hi;exact ⟨by omega,by omega,by omega,by omega,by omega⟩)) (λ i hi=>hi.elim) (λ i hi=>by omega)
  (X:=λ _=>False) (λ i hi=>hi.elim) (λ _=>rfl)
  (λ pre S W'=>RefI B wl pre S W') (λ c pre W'=>False) (λ i=>i=B\/(Value.slice none 0 0).ownBlock=some i) ?hS ?hI ?hIx ?h0 ?hround ?hdone ?hstop
 case hS=>
  rintro pre S A ⟨v,a1,a2,rfl,a4⟩ i hi
  rcases hi with hi|hi
  .exact ⟨.inl hi,by have:=lZ a1;omega⟩
  .have:=Af a2 hi
   exact⟨.inr this.1,this.2⟩
 case hI=>
  rintro pre S A A' ⟨v,a1,a2,a3,a4⟩ hk
  exact⟨v,hk.at_ a1 (λ h=>by rcases h with h|h|h;exact h;omega;omega),Ah a2 hk (λ b hb h=>by have:=Af a2 hb;rcases h with h|h|h;exact h;omega;omega),a3,
   a4.trans hk (λ b hb h=>by rcases h with h|h|h;exact h.elim;omega;omega)⟩
 case hIx=>exact λ c pre A B h hk=>h
 case h0=>exact ⟨_,bl1,World.ownsRow_nil wl _ _ _,rfl,Kr _ _⟩
 case hround=>
  rintro pre S x rest W' hx ⟨v,a1,a2,a3,a4⟩ hs
  have hpl:pre.length+1<=65536:=by
   have:(Bc k wds m (c.ln:Nat)).length=pre.length+(rest.length+1):=by rw[hx];simp
   omega
  clear hx hA hV hE hM hfit gbx bl1
  gi_wp2_with fail
  refine⟨Kr _ W',?_⟩
  intro W2 hc2 hf2 hk2 hs2 hr2
  have lW:=lZ a1
  have own1:(W2).ownsRow (wl.heap.size+2) 3 1 v (pre).length (AC (pre)):=Ah a2 hk2 (λ b hb h=>by have:=Af a2 hb;omega)
  have r0:=hk2.at_ a1 (by omega)
  have c0:=cell_of_one r0
  have fr0:=free_of_one r0
  have HR0:=sE r0
  have HOW:=sE own1
  have HA4:=sE a4
  have HK2:=sE hk2
  have lrW2:B<W2.heap.size:=by omega
  have HNW:Sl (¬ v.ownBlock=some B):=⟨λ e=>by have:=Af own1 e;omega⟩
  have HS3:=sE a3
  have hs3:wl.heap.size+2<=W2.heap.size:=by omega
  clear r0 own1 a2 a4 hc2 hf2 a1 a3 hk2 hs2
  obtain⟨i0,hi,hz0,hz1,hz2⟩:=info_parts Dj
  refine wpIn_block ?_
  refine wpIn_region_lit ?_
  refine BD (λ _ _ h=>h) _ _ _ (by kernel_rfl) ?_
  go_wp2_with (at_builtin;go_loud (refine wpList_append_lies _ rfl (.tmp 8) (.tmp 10) 82 rfl (wl.heap.size+2) 3 i0 _ 1 8 A8 hi hz0 hz1 hz2 rfl (by omega) v (pre).length (AC (pre)) rfl (HOW.out.alloc _) ⟨W2.heap.size,0,none⟩ 1 1 [.int .i64 (x:Nat)] rfl rfl (World.news_of_block (wN W2 _)) (by intro u hu;simp at hu;subst hu;rfl) (by omega) (by unfold maxLen;omega) (by omega) (by simp;omega) _ rfl ?_);intro g cap w3 hown hgrow hat hlt;have KA:Kp (λ b=>v.ownBlock=some b) W2 w3:=((Kr Ab W2).alloc _ |>.Al _).grown hgrow (λ k e _=>e);have r3:=KA.at_ HR0.out HNW.out;have c3:=cell_of_one r3;have fr3:=free_of_one r3;have HR3:=sE r3;clear r3)
  have KB:Kp (λ b=>b=B) w3 (w3.setCell ⟨B,0,none⟩ (.slice (some ⟨g,0,none⟩) ((pre).length+1) cap)):=(Kr (λ b=>b=B) w3).setCell (λ _=>rfl) _
  refine⟨((KA.mono λ b hb h=>by rw[HS3.out];exact .inr h).trans KB (λ b hb h=>by rw[HS3.out];exact .inl h)),_,⟨.slice (some ⟨g,0,none⟩) ((pre).length+1) cap,one_setCell HR3.out,?_,rfl,?_⟩,?_⟩
  .rw [AC,List.map_append,List.length_append]
   exact Ah hown KB (λ b hb h=>by have:=Af hown hb;omega)
  .exact ((HA4.out.trans HK2.out (λ b hb h=>by omega)).trans KA (λ b hb h=>by have:=Af HOW.out h;omega)).trans KB (λ b hb h=>h)
  .rintro i (hi'|hi')
   .exact .inl (by rw[HS3.out];exact .inl hi')
   .have hg:g=i:=by simpa [Value.ownBlock] using hi'
    subst hg
    rcases hat with h|h
    .exact .inl (by rw[HS3.out];exact .inr h)
    .right
     rw[h]
     simp
 case hdone=>
  rintro S W' ⟨v,a1,a2,a3,a4⟩ hs hD
  obtain⟨va,vn,vc,hv⟩:∃ va vn vc,v=.slice va vn vc:=by
   rcases a2.2 with ⟨h,_⟩|⟨g,cap,cur,h,_⟩
   .exact ⟨_,_,_,h⟩
   .exact ⟨_,_,_,h⟩
  subst hv
  have c0:=cell_of_one a1
  have fr0:=free_of_one a1
  have HA1:=sE a1
  have HA2:=sE a2
  have HA4:=sE a4
  clear a1 a2 a3 a4
  gi_wp2_with fail
  obtain⟨w4,hw4⟩:∃ w4,w4=W'.setCell ⟨B,0,none⟩ (.slice va vn vc):=⟨_,rfl⟩
  rw[<- hw4]
  have KB:Kp (λ b=>b=B) W' w4:=by rw[hw4];exact (Kr (λ b=>b=B) W').setCell (λ _=>rfl) _
  have b4:w4.heap[B]?=some (.cells #[.slice va vn vc] 82 (0,0)):=by rw[hw4];exact one_setCell HA1.out
  clear hw4
  refine⟨by simp,.inl ⟨_,_,rfl,run_takeDeferred (KB.at_ hD (by omega)),?_⟩⟩
  have kE:Kp (λ b=>b=wl.heap.size) w4 (w4.putObj wl.heap.size (.deferred none)):=(Kr (λ b=>b=wl.heap.size) w4).putObj (λ _=>rfl) _
  have e4:=cell_of_one (kE.at_ b4 (by omega))
  refine⟨.slice va vn vc,by simp[results,results110,go_sem,e4],_,rfl,?_,?_⟩
  .refine Bi (Ah (Ah HA2.out KB (λ b hb h=>?_)) kE (λ b hb h=>?_)) (by omega)
   .have:=Af HA2.out hb;omega
   .have:=Af HA2.out hb;omega
  .exact (((KL.trans HA4.out (λ b hb h=>by omega)).trans KB (λ b hb h=>by omega)).trans kE (λ b hb h=>by omega))
 case hstop=>exact λ c pre W' hp h=>h.elim

theorem obj_one{W:Nat->Nat}{n:Nat}{ts:List TypR}{c:Cel}(hok:C8 ts c)(hW:W (2*c.g)=Bl c.tag c.ty c.ln c.sz)(hfit:c.g+c.sz<=n/2)(h0:0<c.sz)(ht:c.tag=1):BO W n ts (c.g:Nat)=some c:=by
 obtain⟨d1,d2,d3,d4,d5⟩:=dec_enc hok.1
 have hf:=fitsE_ok hok
 unfold BO
 rw[Int.toNat_natCast,hW,d1,d2,d3,d4,d5,ht]
 rw[ht] at hf
 rw[if_pos ⟨by omega,by omega,rfl,rfl,hf,by omega⟩]
 obtain⟨g,tag,ty,ln,sz⟩:=c
 simp only at ht
 subst ht
 rfl

theorem SOf_one(c:Cel)(P:Sp)(W:Nat->Nat)(f:Nat->Bool)(w:World)(h:SpaceAt w P W f)(hok:C8 P.ts c)(hW:W (2*c.g)=Bl c.tag c.ty c.ln c.sz)(hfit:c.g+c.sz<=P.n/2)(h0:0<c.sz)(ht:c.tag=1)(hms:∀ x∈P.ts,x.m<18446744073709551616):
  Calls prog 13 #[.pointer (some ⟨P.a,0,none⟩),.pointer (some ⟨P.t,0,none⟩),.int .i64 (c.g:Nat)] w λ e w'=>
   ∃ b k wds m,((AP k wds m (c.ln:Nat)=0/\m<18446744073709551616)/\BP P.ts c=Bc k wds m (c.ln:Nat)/\2*c.g+1+AL k wds (c.ln:Nat)<=(P.n:Nat))/\e=.returned (.tuple #[.pointer (some ⟨b,0,none⟩),.int .i64 0])/\Bt w' b P.a c k wds m/\w.heap.size<=b/\Kp Ab w w':=by
 refine(SOf_any (c.g:Nat) P.a P.q P.n P.t P.tq W P.ts w h.fl h.ar h.tb).mono ?_
 intro e w' hp
 unfold Dh at hp
 rw[obj_one hok hW hfit h0 ht] at hp
 obtain⟨b,k,wds,m,h1,h2,h3,h4,h5⟩:=hp
 have hk:AP k wds m (c.ln:Nat)=0:=by
  obtain⟨e1,e2⟩:=hok.2 ht
  unfold AQ at e1
  rw[h1] at e1
  exact e1
 have hm:m<18446744073709551616:=by
  obtain⟨i,-,hi,-⟩:=DN h1
  exact hms _ (List.mem_of_getElem? hi)
 refine⟨b,k,wds,m,⟨⟨hk,hm⟩,by unfold BP;rw [h1],?_⟩,h2,h3,h4,h5⟩
 have hr:=slotN_room hok h0
 unfold slotN at hr
 rw[if_pos ht,h1] at hr
 dsimp only at hr
 have:=(AU hk).1
 omega

def Br(ts:List TypR)(W:Nat->Nat)(os:List Cel):List (Nat×Nat×Nat):=os.flatMap λ c=>(BP ts c).map λ s=>(c.g,s,W (2*c.g+1+s))

def edgeV(cs:List Cel)(x:Nat×Nat×Nat):Value:=.agg #[.int .i64 (x.1:Nat),.int .i64 (x.2.1:Nat),.int .i64 (tgt cs x.2.2)]

theorem refsW_add{ts:List TypR}{W:Nat->Nat}{xs:List Cel}{c:Cel}:Br ts W (xs++[c])=Br ts W xs++(BP ts c).map λ s=>(c.g,s,W (2*c.g+1+s)):=by
 simp[Br]

theorem refsW_at{ts:List TypR}{W:Nat->Nat}{xs:List Cel}{j i s:Nat}{c:Cel}(h:xs[j]?=some c)(hi:(BP ts c)[i]?=some s):
  ∃ rest,Br ts W xs=(Br ts W (xs.take j)++((BP ts c).take i).map λ s=>(c.g,s,W (2*c.g+1+s)))++(c.g,s,W (2*c.g+1+s))::rest:=by
 obtain⟨h1,h2⟩:=gE.1 h
 obtain⟨i1,i2⟩:=gE.1 hi
 have e1:xs=xs.take j++c::xs.drop (j+1):=by rw[<- h2,List.getElem_cons_drop h1,List.take_append_drop]
 have e2:BP ts c=(BP ts c).take i++s::(BP ts c).drop (i+1):=by rw[<- i2,List.getElem_cons_drop i1,List.take_append_drop]
 refine⟨((BP ts c).drop (i+1)).map (λ s=>(c.g,s,W (2*c.g+1+s)))++Br ts W (xs.drop (j+1)),?_⟩
 have e3:Br ts W (c::xs.drop (j+1))=(BP ts c).map (λ s=>(c.g,s,W (2*c.g+1+s)))++Br ts W (xs.drop (j+1)):=by simp[Br]
 have e4:∀ a b:List Cel,Br ts W (a++b)=Br ts W a++Br ts W b:=λ a b=>by simp[Br]
 have e5:=congrArg (List.map λ s=>(c.g,s,W (2*c.g+1+s))) e2
 rw[List.map_append,List.map_cons] at e5
 calc Br ts W xs=Br ts W (xs.take j++c::xs.drop (j+1)):=by rw[<- e1]
  _=_:=by rw[e4,e3,e5];simp

theorem Df.keep{S:Nat->Prop}{w w':World}{P:Sp}{gb m base:Nat}{cs:List Cel}{e:Nat}{ov:Value}(h:Df w P gb m base cs e ov)(k:Kp S w w')(h1:¬ S gb)(h2:¬ S m)(h3:∀ b,ov.ownBlock=some b->¬ S b):Df w' P gb m base cs e ov:=by
 obtain⟨g1,⟨n,hn,g2⟩,g3,g4⟩:=h
 exact⟨k.at_ g1 h1,⟨n,hn,g2.keep k h2⟩,Ah g3 k h3,g4⟩

theorem grefs_fn(gb:Nat)(w:World):
  Calls prog 60 #[.pointer (some ⟨gb,0,none⟩)] w λ e w'=>
   e=.returned (.func (.func 109) #[] #[.pointer (some ⟨w.heap.size,0,none⟩)])/\w.alloc (.cells #[.pointer (some ⟨gb,0,none⟩)] 113)=w':=by
 have hmf:∀ (fn:Fn) (first cap:Array Value) (w:World),(Instr.makeFunc fn first cap).run prog w=.ok (.func fn first cap) w:=λ _ _ _ _=>rfl
 go_enter func60,ntmps60
 go_wp2
 go_ret
 exact⟨rfl,rfl⟩

set_option maxRecDepth 20000 in
theorem grefs_iter4(P:Sp)(W0:Nat->Nat)(f:Nat->Bool)(cs:List Cel)(E:Nat)(bx gb m base:Nat)(ov:Value)(w:World)(h:SpaceAt w P W0 f)(hc:CellsTo P W0 cs E)(hms:∀ x∈P.ts,x.m<18446744073709551616)(hg:Df w P gb m base cs E ov)
  (hb:w.heap[bx]?=some (.cells #[.pointer (some ⟨gb,0,none⟩)] 113 (0,0))) {R:Nat->Prop} (hR:∀ i,R i->i<w.heap.size/\¬ i=bx/\¬ i=gb/\¬ i=m/\¬ ov.ownBlock=some i/\¬ P.all i):
  IterAt4 prog 109 #[.pointer (some ⟨bx,0,none⟩)] (λ x=>#[edgeV cs x,.int .u64 (x.2.2:Nat)]) (Br P.ts W0 (Ap cs)) Ab R w:=by
 intro l J Jx S0 W hW hl1 hl2 hS hJ hJx hY h0
 have lbx:=lZ hb
 have bW:=hW.at_ hb (λ h=>h)
 have HBw:=sE bW
 have HSw:=sE (h.Ad hW)
 obtain⟨g1,⟨nm,hnm,g2⟩,g3,g4⟩:=hg
 have lgb:=lZ g1
 have lm:=g2.lt
 have gW1:=hW.at_ g1 (λ h=>h)
 have HGw:Sl (Df W P gb m base cs E ov):=⟨⟨gW1,⟨nm,hnm,g2.keep hW (λ h=>h)⟩,Ah g3 hW (λ _ _ h=>h),g4⟩⟩
 have hoL:(Bu cs).length<=32768:=by
  have:=obsG_len cs
  have:=Ci g4
  have:=hc.le
  have:=h.ar.small
  omega
 obtain⟨oa,oc,rfl⟩:=AA g3
 have lall:=h.lt
 have z1:=hW.size
 have cb:=cell_of_one bW
 obtain⟨e0,e1,e2,e3,e4⟩:=BG gW1
 have H0:=sE h0
 have HCs:=sE hc
 obtain⟨L,hL⟩:∃ L,(Bu cs).length=L:=⟨_,rfl⟩
 rw[hL] at e3 hoL
 have HLL:=sE hL
 have lob:∀ b,(Value.slice oa (Bu cs).length oc).ownBlock=some b->b<w.heap.size:=λ b hb=>(Af g3 hb).2
 have HNx:Sl (¬ (R bx\/bx=l)):=⟨λ h=>by
  rcases h with h|h
  .exact (hR bx h).2.1 rfl
  .omega⟩
 have HGn:Sl (∀ W',Kp (λ i=>R i\/i=l) W W'->Df W' P gb m base cs E (.slice oa (Bu cs).length oc)):=⟨λ W' kk=>HGw.out.keep kk (λ h=>by
   rcases h with h|h
   .exact (hR gb h).2.2.1 rfl
   .omega) (λ h=>by
   rcases h with h|h
   .exact (hR m h).2.2.2.1 rfl
   .omega) (λ b hb h=>by
   have:=lob b hb
   rcases h with h|h
   .exact (hR b h).2.2.2.2.1 hb
   .omega)⟩
 have HGk:Sl (∀ W1 W2,Df W1 P gb m base cs E (.slice oa (Bu cs).length oc)->Kp Ab W1 W2->Df W2 P gb m base cs E (.slice oa (Bu cs).length oc)):=⟨λ W1 W2 hg kk=>hg.keep kk (λ h=>h) (λ h=>h) (λ _ _ h=>h)⟩
 have HSn:Sl (∀ W',Kp (λ i=>R i\/i=l) W W'->SpaceAt W' P W0 f):=⟨λ W' kk=>HSw.out.keep kk (λ i hi h=>by
   have:=lall i hi
   rcases h with h|h
   .exact (hR i h).2.2.2.2.2 hi
   .omega)⟩
 clear g1 g2 g3 g4 hnm h0 hL e0 e1 e2 e4 lob hc h hR gW1 bW
 refine(callsIn_wide (n:=0)).1 ?_
 refine callsIn_of_wp func109 rfl trivial ?_
 simp only[ntmps109,List.size_toArray,List.length_cons,List.length_nil,Nat.reduceAdd,Nat.reduceSub,Array.replicate_succ,Array.replicate_zero,List.push_toArray,List.append_toArray,List.nil_append,List.cons_append]
 gi_wp2_with fail
 gi_loopw [16] (λ v16 wr=>∃ (j:Nat) (S:Nat->Prop),j<=L/\v16=.int .i64 (j:Nat)/\J (Br P.ts W0 ((Ap cs).take j)) S wr/\Kp (λ i=>R i\/i=l) W wr) (λ v16 wr=>L-(intOf v16).toNat)
 case atStart=>exact ⟨0,S0,Nat.zero_le _,rfl,H0.out,Kr _ _⟩
 case round=>
  obtain⟨j,S,hj,rfl,hjJ,kr⟩:=hrel
  obtain⟨wo,rfl⟩:∃ wo:World,wo=wr:=⟨_,rfl⟩
  have HJ:=sE hjJ
  have HKr:=sE kr
  by_cases hjl:j<L
  .have hjl':(j:Int)<(L:Int):=by omega
   obtain⟨c,hcj⟩:∃ c,(Ap cs)[j]?=some c:=by
    have:j<(Ap cs).length:=by have:=HLL.out;unfold Bu at this;rw [List.length_map] at this;omega
    exact⟨_,List.getElem?_eq_getElem this⟩
   have hmem:=Dy.1 (List.mem_of_getElem? hcj)
   have hgj:(Bu cs)[j]?=some c.g:=by unfold Bu;rw [List.getElem?_map,hcj];rfl
   have Gr:=HGn.out wo kr
   obtain⟨ob,hob,cx⟩:=Db Gr.2.2.1 hgj
   subst hob
   have br:=kr.at_ HBw.out HNx.out
   have cb:=cell_of_one br
   obtain⟨e0,e1,e2,e3,e4⟩:=BG Gr.1
   have HOf:Sl (∀ W',Kp Ab wo W'->_):=⟨λ W' kk=>SOf_one c P W0 f W' ((HSn.out wo kr).Ad kk) (HCs.out.ok c hmem.1) (HCs.out.hd c hmem.1) (by have:=(HCs.out.tl.mem hmem.1).2.1;have:=HCs.out.le;omega) (HCs.out.tl.mem hmem.1).2.2 hmem.2 hms⟩
   have hst:(Ap cs).take (j+1)=(Ap cs).take j++[c]:=by rw[List.take_add_one,hcj];rfl
   have HSt:Sl (Br P.ts W0 ((Ap cs).take (j+1))=Br P.ts W0 ((Ap cs).take j)++(BP P.ts c).map λ s=>(c.g,s,W0 (2*c.g+1+s))):=⟨by rw[hst,refsW_add]⟩
   have HAll:Sl (∀ (i:Nat) (s:Nat),(BP P.ts c)[i]?=some s->∃ rest,Br P.ts W0 (Ap cs)=(Br P.ts W0 ((Ap cs).take j)++((BP P.ts c).take i).map λ s=>(c.g,s,W0 (2*c.g+1+s)))++(c.g,s,W0 (2*c.g+1+s))::rest):=⟨λ i s hi=>refsW_at hcj hi⟩
   clear Gr br hmem hgj hst hcj kr hjJ e2 e4
   gi_wp2_with fail
   refine wpIn_wide.2 ?_
   refine wp_region_held_drew (S:=λ w'=>w'.cell? ⟨bx,0,none⟩=some (.pointer (some ⟨gb,0,none⟩))/\w'.cell? ⟨gb,0,none⟩=some (.pointer (some ⟨P.a,0,none⟩))/\w'.cell? ⟨gb,1,none⟩=some (.pointer (some ⟨P.t,0,none⟩))) (by kernel_rfl) ?_ (λ qZ=>?_)
   .exact ⟨cb,e0,e1⟩
   refine Ao 0 ?_;refine Ao 1 ?_;refine Ao 2 ?_;refine Ao 3 ?_;refine Ao 4 ?_;refine Ao 5 ?_;refine Ao 6 ?_;refine Ao 7 ?_;refine Ao 8 ?_
   try simp only[Aw]
   refine AV [9] ?_
   refine Ag rfl (λ K hK=>?_)
   go_simp
   go_at_call 13
   (with_reducible refine(HOf.out _ (Kr Ab wo).drew).mono ?_)
   rintro e w5 ⟨b,k,wds,mm,⟨⟨hk,hmm⟩,hrf,hfit⟩,rfl,hV,hbn,k5⟩
   have K5:Kp Ab wo w5:=((Kr Ab wo).drew).then' k5
   refine hK _ _ ?_ (λ qZ=>?_)
   .exact ⟨Ac K5 cb,Ac K5 e0,Ac K5 e1⟩
   clear hK K
   try simp only[Aw]
   refine Ao 10 ?_;refine Ao 11 ?_;refine Ao 12 ?_;refine Ao 13 ?_;refine Ao 14 ?_
   try simp only[Aw]
   refine wpAnyH_done (by kernel_rfl) ?_ _
   have HK5:=sE K5
   have HV5:=sE hV
   have HB5:Sl (wo.heap.size<=b):=⟨hbn⟩
   have HKd:=sE (And.intro hk (And.intro hmm hfit))
   have HRf:=sE (VRefs_at b P.a P.q P.n W0 c k wds mm w5 ((HSn.out wo HKr.out).Ad K5).ar hV hk hmm hfit)
   have HSz:Sl (∀ i,S i->i<wo.heap.size):=⟨λ i hi=>(hS _ _ _ HJ.out i hi).2⟩
   rw[hrf] at HSt HAll
   obtain⟨rs,hrs⟩:∃ rs,Bc k wds mm (c.ln:Nat)=rs:=⟨_,rfl⟩
   have HRs:=sE hrs
   rw[hrs] at HSt HAll HRf
   clear qZ K5 k5 hV hbn hk hmm hfit hrf hrs cb cx e0 e1 e3 HOf
   gi_wp2_with fail
   refine⟨trivial,rfl,?_⟩
   refine(callsIn_wide.2 HRf.out).mono ?_
   rintro e w6 ⟨rv,rfl,hrow,k6⟩
   obtain⟨ra,rc,rfl⟩:=AA hrow
   have HRow6:=sE hrow
   have HK6:Sl (Kp Ab wo w6):=⟨HK5.out.then' k6⟩
   have HV6:=sE (HV5.out.Ad k6)
   have hz5:b<w5.heap.size:=lZ HV5.out
   have hz56:=HK5.out.size
   have HJ6:=sE (hJ _ _ _ _ HJ.out HK6.out)
   have HN6:Sl (∀ i,S i->¬ i=b/\¬ (Value.slice ra rs.length rc).ownBlock=some i):=⟨λ i hi=>⟨by have:=HSz.out i hi;have:=HB5.out;omega,λ h=>by have:=(Af hrow h).1;have:=HSz.out i hi;omega⟩⟩
   obtain⟨M,hM⟩:∃ M,rs.length=M:=⟨_,rfl⟩
   rw[hM] at HN6 HRow6
   have HM:=sE hM
   have hM6:M<=65536:=by rw[<- hM,<- HRs.out];exact Eh HKd.out.1
   have HKW:Sl (Kp (λ i=>R i\/i=l) W w6):=⟨HKr.out.trans HK6.out (λ _ _ h=>h.elim)⟩
   try rw[hM]
   clear hrow k6 hM
   gi_wp2_with fail
   gi_loopw [38] (λ v38 wr=>∃ (i:Nat) (S:Nat->Prop),i<=M/\v38=.int .i64 (i:Nat)/\J (Br P.ts W0 ((Ap cs).take j)++(rs.take i).map λ s=>(c.g,s,W0 (2*c.g+1+s))) S wr/\Kp (λ i=>R i\/i=l) W wr/\(∀ i,S i->¬ i=b/\¬ (Value.slice ra M rc).ownBlock=some i)/\wr.ownsRow w5.heap.size 3 1 (.slice ra M rc) M (AC rs)/\Bt wr b P.a c k wds mm) (λ v38 wr=>M-(intOf v38).toNat)
   case atStart=>exact ⟨0,S,Nat.zero_le _,rfl,by rw[List.take_zero,List.map_nil,List.append_nil];exact HJ6.out,HKW.out,HN6.out,HRow6.out,HV6.out⟩
   case round=>
    obtain⟨i,S',hi,rfl,hjJ,kq,hN,hrow,hV⟩:=hrel
    have HJq:=sE hjJ
    have HKq:=sE kq
    have HNq:=sE hN
    have HRq:=sE hrow
    have HVq:=sE hV
    by_cases hil:i<M
    .have hil':(i:Int)<(M:Int):=by omega
     obtain⟨s,hs⟩:∃ s,rs[i]?=some s:=⟨rs[i]'(by rw[HM.out];exact hil),by simp⟩
     obtain⟨rb,hrb,cx⟩:=Db hrow hs
     subst hrb
     have hsT:(s:Int)<AL k wds (c.ln:Nat):=FO HKd.out.1 (by rw[HRs.out];exact List.mem_of_getElem? hs)
     have HLd:=sE (FI s b P.a P.q P.n W0 c k wds mm wr (HSn.out wr kq).ar hV HKd.out.1 hsT (by have:=HKd.out.2.2;omega))
     obtain⟨rest,HRest⟩:∃ rest,Sl (Br P.ts W0 (Ap cs)=(Br P.ts W0 ((Ap cs).take j)++(rs.take i).map λ s=>(c.g,s,W0 (2*c.g+1+s)))++(c.g,s,W0 (2*c.g+1+s))::rest):=by
      obtain⟨rest,h⟩:=HAll.out i s hs
      exact⟨rest,⟨h⟩⟩
     have HTk:Sl ((Br P.ts W0 ((Ap cs).take j)++(rs.take i).map λ s=>(c.g,s,W0 (2*c.g+1+s)))++[(c.g,s,W0 (2*c.g+1+s))]=Br P.ts W0 ((Ap cs).take j)++(rs.take (i+1)).map λ s=>(c.g,s,W0 (2*c.g+1+s))):=⟨by
      rw[List.take_add_one,hs,List.append_assoc,List.map_append];rfl⟩
     obtain⟨y,hy⟩:∃ y,W0 (2*c.g+1+s)=y:=⟨_,rfl⟩
     have HY64:Sl (y<18446744073709551616):=⟨by rw[<- hy];exact HSw.out.ar.fits _ (by have:=HKd.out.2.2;omega)⟩
     rw[hy] at HLd HRest HTk
     have Gq:=HGn.out wr kq
     have br:=kq.at_ HBw.out HNx.out
     have cb:=cell_of_one br
     have HTg:Sl (∀ W',Kp Ab wr W'->Calls prog 111 #[.pointer (some ⟨gb,0,none⟩),.int .u64 (y:Nat)] W' λ e' w'=>e'=.returned (.int .i64 (tgt cs y))/\w'=W'):=⟨λ W' kk=>target_at P gb m base E cs _ W' (HGk.out wr W' Gq kk) y HY64.out⟩
     clear Gq br hjJ kq hN hrow hV hs hsT hy
     gi_wp2_with fail
     refine⟨trivial,rfl,?_⟩
     refine(callsIn_wide.2 HLd.out).mono ?_
     rintro e w7 ⟨rfl,k7⟩
     have cb7:=k7.cell cb (λ h=>h)
     clear cb cx
     gi_wp2_with fail
     refine⟨trivial,rfl,?_⟩
     refine(callsIn_wide.2 (HTg.out _ k7)).mono ?_
     rintro e w8 ⟨rfl,rfl⟩
     have J8:=hJ _ _ _ _ HJq.out k7
     have HY8:=sE (hY _ S' _ rest w8 HRest.out J8)
     have HS8:Sl (∀ i,S' i->(R i\/W.heap.size<=i)):=⟨λ i hi=>(hS _ _ _ J8 i hi).1⟩
     have HR8:=sE (Ah HRq.out k7 (λ _ _ h=>h))
     have HV8:=sE (HVq.out.Ad k7)
     have HK8:=sE (HKq.out.trans k7 (λ _ _ h=>h.elim))
     clear J8 k7 cb7
     gi_wp2_with fail
     refine CU HY8.out rfl ?_
     intro b' B hB
     rcases hB with ⟨rfl,hk,S'',hT,hS'⟩|⟨rfl,hE⟩
     .have hrb:=Af HR8.out (b:=rb) rfl
      have hvb:=lZ HV8.out
      have OB:=Ah HR8.out hk (λ b' hb' hs=>by
       rcases hs with hs|hs
       .exact (HNq.out _ hs).2 hb'
       .have:=(Af HR8.out hb').1;have:=HK6.out.size;have:=HK5.out.size;have:=HKr.out.size;omega)
      have VB:=HV8.out.keep hk (λ hs=>by
       rcases hs with hs|hs
       .exact (HNq.out _ hs).1 rfl
       .have:=HB5.out;have:=HKr.out.size;omega)
      have KB:=HK8.out.trans hk (λ i hi h=>by
       rcases h with h|h
       .rcases HS8.out i h with h|h
        .exact .inl h
        .omega
       .exact .inr h)
      have NB:∀ i,S'' i->¬ i=b/\¬ (Value.slice (some ⟨rb,0,none⟩) M rc).ownBlock=some i:=λ i hi=>by
       rcases hS' i hi with h'|h'
       .exact HNq.out i h'
       .exact ⟨by omega,λ h=>by have:=(Af HR8.out h).2;omega⟩
      have HF:=sE (And.intro hT (And.intro KB (And.intro NB (And.intro OB VB))))
      clear hT KB OB VB NB hS' hk hrb hvb
      gi_wp2_with fail
      exact⟨⟨i+1,S'',by omega,by go_num,by rw[<- HTk.out];exact HF.out.1,HF.out.2.1,HF.out.2.2.1,HF.out.2.2.2.1,HF.out.2.2.2.2⟩,by simp only[intOf];omega⟩
     .gi_wp2_with fail
      refine bodyPost_ret (results_none rfl _ _ _) rfl ?_
      exact⟨⟨_,rfl⟩,.inr ⟨_,⟨_,by rw[List.append_assoc];exact HRest.out.symm⟩,hE⟩⟩
    .have hil':¬ (i:Int)<(M:Int):=by omega
     obtain rfl:i=M:=by omega
     gi_wp2_with fail
     exact⟨⟨j+1,S',by omega,by go_num,by have:=HJq.out;rw [show rs.take i=rs from List.take_of_length_le (by have:=HM.out;omega)] at this;rw [HSt.out];exact this,HKq.out⟩,by simp only[intOf];omega⟩
  .have hjl':¬ (j:Int)<(L:Int):=by omega
   gi_wp2_with fail
   go_end0
   exact⟨⟨_,rfl⟩,.inl ⟨S,by
    have:=HJ.out
    rwa [List.take_of_length_le (by have:=HLL.out;unfold Bu at this;rw [List.length_map] at this;omega)] at this⟩⟩

end

section
open Go.RowKit
attribute [local go_sem] Oper.semAt_some

def edgeOf(cs:List Cel)(x:Nat×Nat×Nat):List (Nat×Nat×Nat):=if 0<=tgt cs x.2.2 then [(x.1,x.2.1,(tgt cs x.2.2).toNat)] else []

def Cq(cs:List Cel)(xs:List (Nat×Nat×Nat)):List (Nat×Nat×Nat):=xs.flatMap (edgeOf cs)

def edgesL(ts:List TypR)(W:Nat->Nat)(cs:List Cel):List (Nat×Nat×Nat):=Cq cs (Br ts W (Ap cs))

def BB(es:List (Nat×Nat×Nat)):List Value:=es.flatMap λ e=>[.int .i64 (e.1:Nat),.int .i64 (e.2.1:Nat),.int .i64 (e.2.2:Nat)]

theorem flatE_app(xs ys:List (Nat×Nat×Nat)):BB (xs++ys)=BB xs++BB ys:=by simp[BB]

theorem flatE_at:∀ (xs:List (Nat×Nat×Nat)) (i:Nat) (x:Nat×Nat×Nat),xs[i]?=some x->(BB xs)[i*3]?=some (.int .i64 (x.1:Nat))/\(BB xs)[i*3+1]?=some (.int .i64 (x.2.1:Nat))/\(BB xs)[i*3+2]?=some (.int .i64 (x.2.2:Nat))
 |y::xs,0,x,h=>by
  simp at h
  subst h
  exact⟨rfl,rfl,rfl⟩
 |y::xs,i+1,x,h=>by
  have h2:xs[i]?=some x:=by simpa using h
  obtain⟨h3,h4,h5⟩:=flatE_at xs i x h2
  rw[show (i+1)*3=(i*3+1+1+1) by omega]
  exact⟨h3,h4,h5⟩

theorem edgesP_add(cs:List Cel)(xs:List (Nat×Nat×Nat))(x:Nat×Nat×Nat):Cq cs (xs++[x])=Cq cs xs++edgeOf cs x:=by simp[Cq]

theorem edgesP_len(cs:List Cel):∀ (xs:List (Nat×Nat×Nat)),(Cq cs xs).length<=xs.length
 |[]=>Nat.le_refl _
 |x::xs=>by
  have h:=edgesP_len cs xs
  have e:Cq cs (x::xs)=edgeOf cs x++Cq cs xs:=rfl
  rw[e,List.length_append]
  have:(edgeOf cs x).length<=1:=by unfold edgeOf;split <;> simp
  simp only[List.length_cons]
  omega

theorem refsC_len{ts:List TypR}{c:Cel}(hok:C8 ts c)(ht:c.tag=1):(BP ts c).length<=65536:=by
 unfold BP
 cases h:typeOf ts (c.ty:Nat) with
 |none=>simp
 |some x=>
  refine Eh ?_
  obtain⟨e1,e2⟩:=hok.2 ht
  unfold AQ at e1
  rw[h] at e1
  exact e1

theorem refsW_len{ts:List TypR}{W:Nat->Nat}:∀ {xs:List Cel},(∀ c∈xs,C8 ts c/\c.tag=1)->(Br ts W xs).length<=xs.length*65536
 |[],_=>Nat.le_refl _
 |c::xs,h=>by
  have h1:=refsW_len (W:=W) (λ c hc=>h c (List.mem_cons_of_mem _ hc))
  have h2:=refsC_len (h c List.mem_cons_self).1 (h c List.mem_cons_self).2
  have e:Br ts W (c::xs)=(BP ts c).map (λ s=>(c.g,s,W (2*c.g+1+s)))++Br ts W xs:=rfl
  rw[e,List.length_append,List.length_map]
  simp only[List.length_cons]
  omega

theorem CellsTo.refs_len{P:Sp}{W:Nat->Nat}{cs:List Cel}{E:Nat}(h:CellsTo P W cs E)(hn:P.n<=65536):(Br P.ts W (Ap cs)).length<=2147483648:=by
 have h1:=refsW_len (ts:=P.ts) (W:=W) (xs:=Ap cs) (λ c hc=>⟨h.ok c (Dy.1 hc).1,(Dy.1 hc).2⟩)
 have h2:(Ap cs).length<=cs.length:=List.length_filter_le _ _
 have h3:=Ci h.tl
 have h4:=h.le
 omega

theorem underlyingEdges:prog.underlying 88=some (.slice 91):=by kernel_rfl

theorem infoEdge:(prog.info? 91).map (λ i=>(i.zero,i.size,i.bytes))=some (some (.agg #[.int .i64 0,.int .i64 0,.int .i64 0]),3,24):=by kernel_rfl

def EdgI(cs:List Cel)(rv:Nat)(wl:World)(pre:List (Nat×Nat×Nat))(S:Nat->Prop)(W':World):Prop:=
 ∃ v,W'.heap[rv]?=some (.cells #[v] 88 (0,0))/\W'.ownsRow (wl.heap.size+2) 91 3 v (Cq cs pre).length (BB (Cq cs pre))/\(S=λ k=>k=rv\/v.ownBlock=some k)/\Kp (λ k=>k=rv) wl W'

set_option maxRecDepth 20000 in
theorem Edges_at(P:Sp)(W:Nat->Nat)(f:Nat->Bool)(cs:List Cel)(w:World)(h:SpaceAt w P W f)(hc:CellsAt P W cs)(hms:∀ x∈P.ts,x.m<18446744073709551616):
  Calls prog 38 #[.pointer (some ⟨P.s,0,none⟩)] w λ e w'=>∃ v,e=.returned v/\w'.ownsRow w.heap.size 91 3 v (edgesL P.ts W cs).length (BB (edgesL P.ts W cs))/\Kp Ab w w':=by
 have HSp:=sE h
 have HCs:=sE hc.to
 have lall:=h.lt
 have hrl:=hc.to.refs_len h.ar.small
 have HAr:Sl (∀ w',Kp Ab w w'->Calls prog 14 #[.pointer (some ⟨P.s,0,none⟩)] w' λ e w''=>e=.returned (.pointer (some ⟨P.a,0,none⟩))/\w''=w'):=⟨λ w' kk=>BV P W f w' (h.Ad kk)⟩
 have HTb:Sl (∀ w',Kp Ab w w'->Calls prog 15 #[.pointer (some ⟨P.s,0,none⟩)] w' λ e w''=>e=.returned (.pointer (some ⟨P.t,0,none⟩))/\w''=w'):=⟨λ w' kk=>Ea P W f w' (h.Ad kk)⟩
 clear h hc
 refine(callsIn_wide (n:=0)).1 ?_
 refine callsIn_of_wp_marks func38 rfl trivial ?_
 simp only[ntmps38,List.size_toArray,List.length_cons,List.length_nil,Nat.reduceAdd,Nat.reduceSub,Array.replicate_succ,Array.replicate_zero,List.push_toArray,List.append_toArray,List.nil_append,List.cons_append]
 gi_wp2_with fail
 refine⟨trivial,rfl,?_⟩
 obtain⟨w1,hw1⟩:∃ w1,w1=w.alloc (.cells #[.slice none 0 0] 88):=⟨_,rfl⟩
 rw[<- hw1]
 have k1:Kp Ab w w1:=by rw[hw1];exact (Kr _ w).alloc _
 have z1:w1.heap.size=w.heap.size+1:=by rw[hw1];simp
 have b1:w1.heap[w.heap.size]?=some (.cells #[.slice none 0 0] 88 (0,0)):=by rw[hw1];exact wN w _
 clear hw1
 refine(callsIn_wide.2 (HAr.out w1 k1)).mono ?_
 rintro e w2 ⟨rfl,rfl⟩
 gi_wp2_with fail
 refine⟨trivial,rfl,?_⟩
 refine(callsIn_wide.2 (HTb.out _ k1)).mono ?_
 rintro e w2 ⟨rfl,rfl⟩
 gi_wp2_with fail
 refine⟨trivial,rfl,?_⟩
 refine(callsIn_wide.2 (through_to P W f cs (P.n/2) _ (HSp.out.Ad k1) HCs.out)).mono ?_
 rintro e w3 ⟨rfl,⟨ov,hG⟩,k3⟩
 gi_wp2_with fail
 refine⟨trivial,rfl,?_⟩
 refine(callsIn_wide.2 (grefs_fn (w.heap.size+1+1) w3)).mono ?_
 rintro e wl ⟨rfl,hwl⟩
 obtain⟨B,hB⟩:∃ B,w.heap.size=B:=⟨_,rfl⟩
 have hz3:=k3.size
 have hzl:wl.heap.size=w3.heap.size+1:=by rw[<- hwl];simp
 have kl:Kp Ab w3 wl:=by rw[<- hwl];exact (Kr _ w3).alloc _
 have gbx:wl.heap[w3.heap.size]?=some (.cells #[.pointer (some ⟨w.heap.size+1+1,0,none⟩)] 113 (0,0)):=by rw[<- hwl];exact wN w3 _
 clear hwl
 have KL:Kp Ab w wl:=(k1.then' k3).then' kl
 have bl1:=(k3.then' kl).at_ b1 (λ h=>h)
 have lG:∀ W' n,n=w.heap.size+1->Df W' P (n+1) n n cs (P.n/2) ov->Df W' P (w.heap.size+1+1) (w.heap.size+1) (w.heap.size+1) cs (P.n/2) ov:=λ W' n hn h=>by rw[hn] at h;exact h
 replace hG:=lG _ _ z1 hG
 have GL:=hG.keep kl (λ h=>h) (λ h=>h) (λ _ _ h=>h)
 have lov:∀ b,ov.ownBlock=some b->w.heap.size+1<=b/\b<w3.heap.size:=λ b hb=>by
  obtain⟨-,-,g3,-⟩:=hG
  have:=Af g3 hb
  omega
 have lg:w.heap.size+1+1<w3.heap.size:=lZ hG.1
 rw[hB] at gbx bl1 z1 lov lg GL
 clear hG b1 lG
 gi_wp2_with fail
 try rw[hB]
 obtain⟨D,hD⟩:∃ D,w3.heap.size=D:=⟨_,rfl⟩
 rw[hD] at gbx hz3 hzl lov lg ⊢
 rw[z1] at hz3
 refine Fu (n:=0) (gf:=109) (lb:=#[.pointer (some ⟨D,0,none⟩)]) rfl (enters_of func109 (by kernel_rfl) rfl)
  (grefs_iter4 P W f cs (P.n/2) D (B+1+1) (B+1) (B+1) ov wl (HSp.out.Ad KL) HCs.out hms GL gbx (R:=λ i=>i=B) (λ i hi=>by
   subst hi
   exact⟨by omega,by omega,by omega,by omega,λ h=>by have:=lov _ h;omega,λ h=>by have:=lall _ h;omega⟩)) (λ i hi=>hi.elim) (λ i hi=>by omega)
  (X:=λ _=>False) (λ i hi=>hi.elim) (λ _=>rfl)
  (λ pre S W'=>EdgI cs B wl pre S W') (λ c pre W'=>False) (λ i=>i=B\/(Value.slice none 0 0).ownBlock=some i) ?hS ?hI ?hIx ?h0 ?hround ?hdone ?hstop
 case hS=>
  rintro pre S A ⟨v,a1,a2,rfl,a4⟩ i hi
  rcases hi with hi|hi
  .exact ⟨.inl hi,by have:=lZ a1;omega⟩
  .have:=Af a2 hi
   exact⟨.inr this.1,this.2⟩
 case hI=>
  rintro pre S A A' ⟨v,a1,a2,a3,a4⟩ hk
  exact⟨v,hk.at_ a1 (λ h=>by rcases h with h|h|h;exact h;omega;omega),Ah a2 hk (λ b hb h=>by have:=Af a2 hb;rcases h with h|h|h;exact h;omega;omega),a3,
   a4.trans hk (λ b hb h=>by rcases h with h|h|h;exact h.elim;omega;omega)⟩
 case hIx=>exact λ c pre A B h hk=>h
 case h0=>exact ⟨_,bl1,World.ownsRow_nil wl _ _ _,rfl,Kr _ _⟩
 case hround=>
  rintro pre S x rest W' hx ⟨v,a1,a2,a3,a4⟩ hs
  have hpl:pre.length+1<=2147483648:=by
   have:(Br P.ts W (Ap cs)).length=pre.length+(rest.length+1):=by rw[hx];simp
   omega
  have hel:(Cq cs pre).length<=pre.length:=edgesP_len cs pre
  obtain⟨xg,xs,y⟩:=x
  obtain⟨z,hz⟩:∃ z,tgt cs y=z:=⟨_,rfl⟩
  have HAd:Sl (Cq cs (pre++[(xg,xs,y)])=Cq cs pre++(if 0<=z then [(xg,xs,z.toNat)] else [])):=⟨by rw[edgesP_add,edgeOf,hz]⟩
  unfold edgeV
  dsimp only
  rw[hz]
  clear hz hx gbx bl1 GL lov lg
  gi_wp2_with fail
  refine⟨((Kr Ab W').alloc _).Al _,?_⟩
  intro W2 hc2 hf2 hk2 hs2 hr2
  have kW:Kp Ab W' (W'.alloc (.cells #[.int .i64 (xg:Nat),.int .i64 (xs:Nat),.int .i64 z] 91)):=(Kr _ W').alloc _
  have lW:=lZ a1
  have own1:(W2).ownsRow (wl.heap.size+2) 91 3 v (Cq cs pre).length (BB (Cq cs pre)):=Ah (Ah a2 kW (λ _ _ h=>h)) hk2 (λ b hb h=>by have:=Af a2 hb;omega)
  have r0:=hk2.at_ (kW.at_ a1 (λ h=>h)) (by omega)
  have rc:=hk2.at_ (wN W' (.cells #[.int .i64 (xg:Nat),.int .i64 (xs:Nat),.int .i64 z] 91)) (by omega)
  have c0:=cell_of_one r0
  have fr0:=free_of_one r0
  obtain⟨d0,d1,d2⟩:=cells3 rc
  have HR0:=sE r0
  have HOW:=sE own1
  have HA4:=sE a4
  have HK2:Sl (Kp (λ k=>k=wl.heap.size+1) W' W2):=⟨(kW.Al _).trans hk2 (λ b hb h=>h)⟩
  have zW2:W2.heap.size=W'.heap.size+1:=by rw[hs2];simp
  have lrW2:B<W2.heap.size:=by omega
  have HNW:Sl (¬ v.ownBlock=some B):=⟨λ e=>by have:=Af own1 e;omega⟩
  have HS3:=sE a3
  have hs3:wl.heap.size+2<=W2.heap.size:=by omega
  have lc:W'.heap.size<W2.heap.size:=by omega
  clear r0 own1 a2 a4 hc2 hf2 a1 a3 hk2 hs2 rc kW hr2 zW2
  by_cases h0:0<=z
  .obtain ⟨n,rfl⟩:=Int.eq_ofNat_of_zero_le h0
   have p0:decide ((0:Int)<=(n:Int))=true:=dT h0
   rw[if_pos h0,Int.toNat_natCast] at HAd
   clear h0
   obtain⟨i0,hi,hz0,hz1,hz2⟩:=info_parts infoEdge
   refine wpIn_block ?_
   refine wpIn_seq ?_
   refine wpIn_region_lit ?_
   refine BD (λ _ _ h=>h) _ _ _ (by kernel_rfl) ?_
   go_wp2_with fail
   refine wpIn_cond_true rfl ?_
   refine wpIn_region_lit ?_
   refine BD (λ _ _ h=>h) _ _ _ (by kernel_rfl) ?_
   go_wp2_with (at_builtin;go_loud (refine wpList_append_lies _ rfl (.tmp 17) (.tmp 19) 88 rfl (wl.heap.size+2) 91 i0 _ 3 24 underlyingEdges hi hz0 hz1 hz2 rfl (by omega) v (Cq cs pre).length (BB (Cq cs pre)) rfl (HOW.out.alloc _) ⟨W2.heap.size,0,none⟩ 1 1 [.int .i64 (xg:Nat),.int .i64 (xs:Nat),.int .i64 (n:Nat)] rfl rfl (World.news_of_block (wN W2 _)) (by intro u hu;simp at hu;rcases hu with rfl|rfl|rfl <;> rfl) (by omega) (by unfold maxLen;omega) (by omega) (by simp;omega) _ rfl ?_);intro g cap w3 hown hgrow hat hlt;have KA:Kp (λ b=>v.ownBlock=some b) W2 w3:=((Kr Ab W2).alloc _ |>.Al _).grown hgrow (λ k e _=>e);have r3:=KA.at_ HR0.out HNW.out;have c3:=cell_of_one r3;have fr3:=free_of_one r3;have HR3:=sE r3;clear r3)
   have KB:Kp (λ b=>b=B) w3 (w3.setCell ⟨B,0,none⟩ (.slice (some ⟨g,0,none⟩) ((Cq cs pre).length+1) cap)):=(Kr (λ b=>b=B) w3).setCell (λ _=>rfl) _
   have zA:=KA.size
   refine⟨((KA.mono λ b hb h=>by rw[HS3.out];exact .inr h).trans KB (λ b hb h=>by rw[HS3.out];exact .inl h)),_,⟨.slice (some ⟨g,0,none⟩) ((Cq cs pre).length+1) cap,one_setCell HR3.out,?_,rfl,?_⟩,?_⟩
   .rw [HAd.out,flatE_app,List.length_append]
    exact Ah hown KB (λ b hb h=>by have:=Af hown hb;omega)
   .exact ((HA4.out.trans HK2.out (λ b hb h=>by omega)).trans KA (λ b hb h=>by have:=Af HOW.out h;omega)).trans KB (λ b hb h=>h)
   .rintro i (hi'|hi')
    .exact .inl (by rw[HS3.out];exact .inl hi')
    .have hg:g=i:=by simpa [Value.ownBlock] using hi'
     subst hg
     rcases hat with h|h
     .exact .inl (by rw[HS3.out];exact .inr h)
     .right
      rw[h]
      simp
  .have p0:decide ((0:Int)<=z)=false:=dF h0
   rw[if_neg h0,List.append_nil] at HAd
   clear h0
   gi_wp2_with fail
   refine⟨Kr _ W2,S,⟨v,HR0.out,by rw[HAd.out];exact HOW.out,HS3.out,HA4.out.trans HK2.out (λ i hi h=>by omega)⟩,λ i hi=>.inl hi⟩
 case hdone=>
  rintro S W' ⟨v,a1,a2,a3,a4⟩ hs hD'
  obtain⟨va,vc,rfl⟩:=AA a2
  have c0:=cell_of_one a1
  have fr0:=free_of_one a1
  have HA1:=sE a1
  have HA2:=sE a2
  have HA4:=sE a4
  clear a1 a2 a3 a4
  gi_wp2_with fail
  obtain⟨w4,hw4⟩:∃ w4,w4=W'.setCell ⟨B,0,none⟩ (.slice va (Cq cs (Br P.ts W (Ap cs))).length vc):=⟨_,rfl⟩
  rw[<- hw4]
  have KB:Kp (λ b=>b=B) W' w4:=by rw[hw4];exact (Kr (λ b=>b=B) W').setCell (λ _=>rfl) _
  have b4:w4.heap[B]?=some (.cells #[.slice va (Cq cs (Br P.ts W (Ap cs))).length vc] 88 (0,0)):=by rw[hw4];exact one_setCell HA1.out
  clear hw4
  refine⟨by simp,.inl ⟨_,_,rfl,run_takeDeferred (KB.at_ hD' (by omega)),?_⟩⟩
  have kE:Kp (λ b=>b=wl.heap.size) w4 (w4.putObj wl.heap.size (.deferred none)):=(Kr (λ b=>b=wl.heap.size) w4).putObj (λ _=>rfl) _
  have e4:=cell_of_one (kE.at_ b4 (by omega))
  refine⟨.slice va (Cq cs (Br P.ts W (Ap cs))).length vc,by simp[results,results38,go_sem,e4],_,rfl,?_,?_⟩
  .refine Bi (Ah (Ah HA2.out KB (λ b hb h=>?_)) kE (λ b hb h=>?_)) (by omega)
   .have:=Af HA2.out hb;omega
   .have:=Af HA2.out hb;omega
  .exact (((KL.trans HA4.out (λ b hb h=>by omega)).trans KB (λ b hb h=>by omega)).trans kE (λ b hb h=>by omega))
 case hstop=>exact λ c pre W' hp h=>h.elim

end

section
open Go.RowKit
attribute [local go_sem] Oper.semAt_some

def faultS(st:Nat->Bool)(cs:List Cel)(at_:Nat):List (Nat×Nat×Nat):=
 if st at_=true then (if Ar cs at_=true then [] else [(at_,0,9)]) else (if Ar cs at_=true then [(at_,0,3)] else [])

def Bb(st:Nat->Bool)(cs:List Cel)(j:Nat):List (Nat×Nat×Nat):=(List.range j).flatMap (faultS st cs)

theorem faultsS_succ(st:Nat->Bool)(cs:List Cel)(j:Nat):Bb st cs (j+1)=Bb st cs j++faultS st cs j:=by
 unfold Bb
 rw[List.range_succ,List.flatMap_append]
 simp

theorem faultS_len(st:Nat->Bool)(cs:List Cel)(j:Nat):(faultS st cs j).length<=1:=by
 unfold faultS
 split <;> split <;> simp

theorem faultsS_len(st:Nat->Bool)(cs:List Cel):∀ j,(Bb st cs j).length<=j
 |0=>by simp[Bb]
 |j+1=>by
  rw[faultsS_succ,List.length_append]
  have:=faultsS_len st cs j
  have:=faultS_len st cs j
  omega

def El(H E:Nat):List (Nat×Nat×Nat):=if E<H then [(E,0,7)] else []

def faultR(cs:List Cel)(x:Nat×Nat×Nat):List (Nat×Nat×Nat):=if ¬ x.2.2=0/\tgt cs x.2.2<0 then [(x.1,x.2.1,8)] else []

def CE(cs:List Cel)(xs:List (Nat×Nat×Nat)):List (Nat×Nat×Nat):=xs.flatMap (faultR cs)

theorem faultsR_add(cs:List Cel)(xs:List (Nat×Nat×Nat))(x:Nat×Nat×Nat):CE cs (xs++[x])=CE cs xs++faultR cs x:=by simp[CE]

theorem faultsR_len(cs:List Cel):∀ (xs:List (Nat×Nat×Nat)),(CE cs xs).length<=xs.length
 |[]=>Nat.le_refl _
 |x::xs=>by
  have h:=faultsR_len cs xs
  have e:CE cs (x::xs)=faultR cs x++CE cs xs:=rfl
  rw[e,List.length_append]
  have:(faultR cs x).length<=1:=by unfold faultR;split <;> simp
  simp only[List.length_cons]
  omega

def faultsL(ts:List TypR)(H:Nat)(W:Nat->Nat)(st:Nat->Bool)(cs:List Cel)(E:Nat):List (Nat×Nat×Nat):=Bb st cs E++El H E++CE cs (Br ts W (Ap cs))

theorem Cw:prog.underlying 61=some (.slice 120):=by kernel_rfl

theorem FJ:(prog.info? 120).map (λ i=>(i.zero,i.size,i.bytes))=some (some (.agg #[.int .i64 0,.int .i64 0,.int .i64 0]),3,24):=by kernel_rfl

theorem wpIn_only{F:Fence}{n:Nat}{P:Program}{c:Code}{K:Act->World->Prop}{Q:Exit->Act->World->Prop}{a:Act}{w:World}(h:c.wpIn F n P (Exit.then K λ_ _ _=>False) a w):c.wpIn F n P (Exit.then K Q) a w:=by
 refine wpIn_mono h ?_
 intro e a' w' hq
 cases e with
 |normal=>exact hq
 |exit id=>exact hq.elim
 |goto l=>exact hq.elim
 |ret=>exact hq.elim
 |panic ch=>exact hq.elim
 |outgrown=>exact hq.elim

def BoxE(w:World)(bx base:Nat)(v:Value)(es:List (Nat×Nat×Nat)):Prop:=
 w.heap[bx]?=some (.cells #[v] 61 (0,0))/\w.ownsRow base 120 3 v es.length (BB es)

theorem BoxE.keep{S:Nat->Prop}{w w':World}{bx base:Nat}{v:Value}{es:List (Nat×Nat×Nat)}(h:BoxE w bx base v es)(k:Kp S w w')(h1:¬ S bx)(h2:∀ b,base<=b->b<w.heap.size->¬ S b):BoxE w' bx base v es:=
 ⟨k.at_ h.1 h1,Ah h.2 k (λ b hb=>by have:=Af h.2 hb;exact h2 b this.1 this.2)⟩

theorem BoxE.put'{w w5:World}{bx base:Nat}{v v':Value}{es:List (Nat×Nat×Nat)}{e:Nat×Nat×Nat}{xs:List Value}(h:BoxE w bx base v es)(hlt:bx<base)(hown:w5.ownsRow base 120 3 v' (es.length+1) (BB es++xs))(hx:xs=BB [e])(hg:w.grownBy w5 v.ownBlock):
  BoxE (w5.setCell ⟨bx,0,none⟩ v') bx base v' (es++[e])/\Kp (λ k=>k=bx\/v.ownBlock=some k) w (w5.setCell ⟨bx,0,none⟩ v'):=by
 subst hx
 have hnb:¬ v.ownBlock=some bx:=λ e=>by have:=Af h.2 e;omega
 have KA:Kp (λ k=>v.ownBlock=some k) w w5:=(Kr _ w).grown hg (λ k e _=>e)
 have b5:=KA.at_ h.1 hnb
 have KB:Kp (λ k=>k=bx) w5 (w5.setCell ⟨bx,0,none⟩ v'):=(Kr (λ k=>k=bx) w5).setCell (λ _=>rfl) _
 refine⟨⟨one_setCell b5,?_⟩,(KA.mono λ i _ h=>.inr h).trans KB (λ i _ h=>.inl h)⟩
 rw[flatE_app,List.length_append]
 exact Ah hown KB (λ b hb h=>by have:=Af hown hb;omega)

theorem BoxE.put{w w5:World}{bx base:Nat}{v v':Value}{es:List (Nat×Nat×Nat)}{o:Obj}{e:Nat×Nat×Nat}{xs:List Value}(h:BoxE w bx base v es)(hlt:bx<base)(hown:w5.ownsRow base 120 3 v' (es.length+1) (BB es++xs))(hx:xs=BB [e])(hg:(w.alloc o).grownBy w5 v.ownBlock):
  BoxE (w5.setCell ⟨bx,0,none⟩ v') bx base v' (es++[e])/\Kp (λ k=>k=bx\/v.ownBlock=some k) w (w5.setCell ⟨bx,0,none⟩ v'):=by
 have kA:Kp Ab w (w.alloc o):=(Kr _ w).alloc _
 obtain⟨h1,h2⟩:=(h.keep kA (λ h=>h) (λ _ _ _ h=>h)).put' hlt hown hx hg
 exact⟨h1,(kA.Al _).trans h2 (λ _ _ h=>h)⟩

def ChkI(st:Nat->Bool)(cs:List Cel)(bx base:Nat)(wl:World)(j:Nat)(wr:World):Prop:=
 ∃ v,BoxE wr bx base v (Bb st cs j)/\Kp (λ k=>k=bx) wl wr

def FltI(cs:List Cel)(bx base:Nat)(v0:Value)(F0:List (Nat×Nat×Nat))(wl:World)(pre:List (Nat×Nat×Nat))(S:Nat->Prop)(W':World):Prop:=
 ∃ v,BoxE W' bx base v (F0++CE cs pre)/\(S=λ k=>k=bx\/v.ownBlock=some k)/\Kp (λ k=>k=bx\/v0.ownBlock=some k) wl W'/\∀ b,v.ownBlock=some b->v0.ownBlock=some b\/wl.heap.size+2<=b

set_option maxRecDepth 20000 in
theorem Check_to(P:Sp)(W:Nat->Nat)(f:Nat->Bool)(cs:List Cel)(E:Nat)(sp sq:Nat)(st:Nat->Bool)(w:World)(h:SpaceAt w P W f)(hc:CellsTo P W cs E)(hms:∀ x∈P.ts,x.m<18446744073709551616)(hb:AO w sp sq st (P.n/2)):
  Calls prog 21 #[.pointer (some ⟨P.a,0,none⟩),.pointer (some ⟨P.t,0,none⟩),.pointer (some ⟨sp,0,none⟩)] w λ e w'=>∃ v,e=.returned (.tuple #[v,.int .i64 0])/\w'.ownsRow w.heap.size 120 3 v (faultsL P.ts (P.n/2) W st cs E).length (BB (faultsL P.ts (P.n/2) W st cs E))/\Kp Ab w w':=by
 have HSp:=sE h
 have HCs:=sE hc
 have HBt:=sE hb
 have lall:=h.lt
 have hrl:=hc.refs_len h.ar.small
 have hn:=h.ar.small
 have hEl:=hc.le
 have hev:=h.ev
 obtain⟨H,hH⟩:∃ H,P.n/2=H:=⟨_,rfl⟩
 rw[hH] at HBt hEl ⊢
 have hH2:H<=32768:=by omega
 have HH':=sE hH
 clear h hc hb hH
 refine(callsIn_wide (n:=0)).1 ?_
 refine callsIn_of_wp_marks func21 rfl trivial ?_
 simp only[ntmps21,List.size_toArray,List.length_cons,List.length_nil,Nat.reduceAdd,Nat.reduceSub,Array.replicate_succ,Array.replicate_zero,List.push_toArray,List.append_toArray,List.nil_append,List.cons_append]
 gi_wp2_with fail
 refine⟨trivial,rfl,?_⟩
 refine(callsIn_wide.2 (through_to P W f cs E _ HSp.out HCs.out)).mono ?_
 rintro e w1 ⟨rfl,⟨ov,hG⟩,k1⟩
 obtain⟨B,hB⟩:∃ B,w.heap.size=B:=⟨_,rfl⟩
 have lov:∀ b,ov.ownBlock=some b->B<=b/\b<w1.heap.size:=λ b hb=>by
  obtain⟨-,-,g3,-⟩:=hG
  have:=Af g3 hb
  omega
 have lg:w.heap.size+1<w1.heap.size:=lZ hG.1
 have HG1:=sE hG
 rw[hB] at HG1 lg
 have HK1:=sE k1
 obtain⟨w2,hw2⟩:∃ w2,w2=w1.alloc (.cells #[.slice none 0 0] 61):=⟨_,rfl⟩
 have k2:Kp Ab w1 w2:=by rw[hw2];exact (Kr _ w1).alloc _
 have b2:w2.heap[w1.heap.size]?=some (.cells #[.slice none 0 0] 61 (0,0)):=by rw[hw2];exact wN w1 _
 have z2:w2.heap.size=w1.heap.size+1:=by rw[hw2];simp
 have HG2:=sE (HG1.out.keep k2 (λ h=>h) (λ h=>h) (λ _ _ h=>h))
 obtain⟨D,hD⟩:∃ D,w1.heap.size=D:=⟨_,rfl⟩
 rw[hD] at b2 z2 lg lov
 have hx2:BoxE w2 D (D+1) (.slice none 0 0) (Bb st cs 0):=⟨b2,World.ownsRow_nil _ _ _ _⟩
 have HX2:=sE hx2
 have HK2:Sl (Kp Ab w w2):=⟨HK1.out.then' k2⟩
 obtain⟨e0,e1,e2,e3,e4⟩:=BG HG2.out.1
 have HZ2:=sE z2
 rw[hw2] at e4
 clear hG k1 k2 b2 hx2 e0 e1 e2 e3 z2
 gi_wp2_with fail
 try rw[hD]
 rw[<- hw2]
 clear hw2 hD e4
 have lsp:sp<w.heap.size/\sq<w.heap.size:=⟨HBt.out.lt_p',HBt.out.lt_q'⟩
 have hBD:=HK1.out.size
 rw[hB] at lsp hBD
 have hBD2:B<=D:=by omega
 gi_loopw [31] (λ v31 wr=>∃ j:Nat,j<=E/\v31=.int .i64 (j:Nat)/\ChkI st cs D (D+1) w2 j wr) (λ v31 wr=>E-(intOf v31).toNat)
 case atStart=>exact ⟨0,Nat.zero_le _,rfl,_,HX2.out,Kr _ _⟩
 case round=>
  obtain⟨j,hj,rfl,v,hx,hkk⟩:=hrel
  have HKK:=sE hkk
  have HX:=sE hx
  have Gr:=HG2.out.keep hkk (by omega) (by omega) (λ b hb h=>by have:=lov b hb;omega)
  by_cases hjl:j<E
  .have hjl':(j:Int)<(E:Int):=by omega
   have HHs:=sE (Has_in j H sp sq st wr ((HBt.out.keep HK2.out (λ h=>h) (λ h=>h)).keep hkk (by omega) (by omega)) (by omega))
   have HGr:=sE Gr
   have hfl:=faultsS_len st cs j
   have HAd:=faultsS_succ st cs j
   have hzr:=hkk.size
   clear Gr hkk
   gi_wp2_with fail
   refine⟨trivial,rfl,?_⟩
   refine(callsIn_wide.2 HHs.out).mono ?_
   rintro e w3 ⟨rfl,k3⟩
   have G3:=HGr.out.keep k3 (λ h=>h) (λ h=>h) (λ _ _ h=>h)
   obtain⟨g1,⟨nm,hnm,m1⟩,-,-⟩:=G3
   have hlook:=m1.look (E5 (g:=j) (by omega))
   rw[startI_nat] at hlook
   obtain⟨e0,e1,e2,e3,e4⟩:=BG g1
   have X3:=HX.out.keep k3 (λ h=>h) (λ _ _ _ h=>h)
   have HX3:=sE X3
   have c3:=cell_of_one X3.1
   have f3:=free_of_one X3.1
   have HK3:=sE (HKK.out.trans k3 (λ _ _ h=>h.elim))
   have hz3:=k3.size
   have lD3:=lZ X3.1
   have HNv:Sl (¬ v.ownBlock=some D):=⟨λ h=>by have:=Af X3.2 h;omega⟩
   unfold faultS at HAd
   have HA:=sE HAd
   clear g1 m1 hnm e0 e1 e3 e4 X3 k3 HAd
   cases h1:st j with
   |true=>
    cases h2:Ar cs j with
    |true=>
     rw[h1,h2,if_pos rfl,if_pos rfl,List.append_nil] at HA
     rw[h2] at hlook
     clear h1 h2 c3 f3
     gi_wp2_with fail
     exact⟨⟨j+1,by omega,by go_num,_,by rw[HA.out];exact HX3.out,HK3.out⟩,by simp only[intOf];omega⟩
    |false=>
     rw[h1,h2,if_pos rfl,if_neg (by simp)] at HA
     rw[h2] at hlook
     clear h1 h2
     gi_wp2_with (gi_at_builtin;obtain ⟨i0,hi,hz0,hz1,hz2⟩:=info_parts FJ;go_loud (refine wpListIn_append_own_at _ rfl (.tmp 48) (.tmp 51) 61 rfl (D+1) 120 i0 _ 3 24 Cw hi hz0 hz1 hz2 rfl (by omega) v (Bb st cs j).length (BB (Bb st cs j)) rfl (HX3.out.2.alloc _) ⟨w3.heap.size,0,none⟩ 1 1 [.int .i64 (j:Nat),.int .i64 0,.int .i64 9] rfl rfl (World.news_of_block (wN w3 _)) (by intro u hu;simp at hu;rcases hu with rfl|rfl|rfl <;> rfl) (by unfold maxLen;omega) (by omega) (by simp;omega) ?_);intro v5 w5 hown5 hgrow5 _ _;obtain ⟨a5,cp5,rfl⟩:=AA hown5;have H5:=sE (HX3.out.put (e:=(j,0,9)) (by omega) hown5 rfl hgrow5);have KA:Kp (λ b=>v.ownBlock=some b) w3 w5:=((Kr Ab w3).alloc _ |>.Al _).grown hgrow5 (λ k e _=>e);have r5:=KA.at_ HX3.out.1 HNv.out;have c5:=cell_of_one r5;have f5:=free_of_one r5;clear hi hz0 hz1 hz2 hown5 hgrow5 KA r5)
     exact⟨⟨j+1,by omega,by go_num,_,by rw[HA.out];exact H5.out.1,HK3.out.trans H5.out.2 (λ i hi h=>by rcases h with h|h;exact h;have:=(Af HX3.out.2 h).1;have:=HZ2.out;omega)⟩,by simp only[intOf];omega⟩
   |false=>
    cases h2:Ar cs j with
    |true=>
     rw[h1,h2,if_neg (by simp),if_pos rfl] at HA
     rw[h2] at hlook
     clear h1 h2
     gi_wp2_with (gi_at_builtin;obtain ⟨i0,hi,hz0,hz1,hz2⟩:=info_parts FJ;go_loud (refine wpListIn_append_own_at _ rfl (.tmp 64) (.tmp 67) 61 rfl (D+1) 120 i0 _ 3 24 Cw hi hz0 hz1 hz2 rfl (by omega) v (Bb st cs j).length (BB (Bb st cs j)) rfl (HX3.out.2.alloc _) ⟨w3.heap.size,0,none⟩ 1 1 [.int .i64 (j:Nat),.int .i64 0,.int .i64 3] rfl rfl (World.news_of_block (wN w3 _)) (by intro u hu;simp at hu;rcases hu with rfl|rfl|rfl <;> rfl) (by unfold maxLen;omega) (by omega) (by simp;omega) ?_);intro v5 w5 hown5 hgrow5 _ _;obtain ⟨a5,cp5,rfl⟩:=AA hown5;have H5:=sE (HX3.out.put (e:=(j,0,3)) (by omega) hown5 rfl hgrow5);have KA:Kp (λ b=>v.ownBlock=some b) w3 w5:=((Kr Ab w3).alloc _ |>.Al _).grown hgrow5 (λ k e _=>e);have r5:=KA.at_ HX3.out.1 HNv.out;have c5:=cell_of_one r5;have f5:=free_of_one r5;clear hi hz0 hz1 hz2 hown5 hgrow5 KA r5)
     exact⟨⟨j+1,by omega,by go_num,_,by rw[HA.out];exact H5.out.1,HK3.out.trans H5.out.2 (λ i hi h=>by rcases h with h|h;exact h;have:=(Af HX3.out.2 h).1;have:=HZ2.out;omega)⟩,by simp only[intOf];omega⟩
    |false=>
     rw[h1,h2,if_neg (by simp),if_neg (by simp),List.append_nil] at HA
     rw[h2] at hlook
     clear h1 h2 c3 f3
     gi_wp2_with fail
     exact⟨⟨j+1,by omega,by go_num,_,by rw[HA.out];exact HX3.out,HK3.out⟩,by simp only[intOf];omega⟩
  .have hjl':¬ (j:Int)<(E:Int):=by omega
   obtain rfl:j=E:=by omega
   obtain⟨va,vc,rfl⟩:=AA hx.2
   have lD:=lZ hx.1
   obtain⟨e0,e1,e2,e3,e4⟩:=BG Gr.1
   have HGr:=sE Gr
   have HLn:Sl (∀ W',Kp Ab wr W'->_):=⟨λ W' kk=>ALen_at P.a P.q P.n W W' ((HSp.out.Ad HK2.out).keep hkk (λ i hi h=>by have:=lall i hi;omega) |>.Ad kk).ar⟩
   have hPn:(P.n:Int)/2=(H:Int):=by have:=HH'.out;omega
   have hwH:IntKind.i64.wrap (H:Int)=(H:Int):=by rw[IntKind.wrap_i64];omega
   clear Gr hkk e0 e1 e2 e3
   gi_wp2_with fail
   refine wpIn_only ?_
   refine wpIn_wide.2 ?_
   refine wp_region_held_drew (S:=λ w'=>w'.cell? ⟨B+1,4,none⟩=some (.int .i64 (j:Nat))) (by kernel_rfl) ?_ (λ qZ=>?_)
   .exact e4
   refine Ao 0 ?_;refine Ao 1 ?_;refine Ao 2 ?_;refine Ao 3 ?_;refine Ao 4 ?_
   try simp only[Aw]
   refine AV [5] ?_
   refine Ag rfl (λ K hK=>?_)
   go_simp
   go_at_call 59
   (with_reducible refine(HLn.out _ (Kr _ _).drew).mono ?_)
   rintro e w9 ⟨rfl,rfl⟩
   refine hK _ _ ?_ (λ qZ=>?_)
   .exact qZ
   clear hK K
   try simp only[Aw]
   refine Ao 6 ?_;refine Ao 7 ?_
   try simp only[Aw]
   refine wpAnyH_done (by kernel_rfl) ?_ _
   obtain⟨wd,hwd⟩:∃ wd,wd=wr.drew:=⟨_,rfl⟩
   rw[<- hwd]
   have kd:Kp Ab wr wd:=by rw[hwd];exact (Kr _ wr).drew
   clear hwd
   have HX9:=sE (hx.keep kd (λ h=>h) (λ _ _ _ h=>h))
   have HK9:=sE (HKK.out.trans kd (λ _ _ h=>h.elim))
   have HG9:=sE (HGr.out.keep kd (λ h=>h) (λ h=>h) (λ _ _ h=>h))
   replace e4:=kd.cell e4 (λ h=>h)
   have lDd:D<wd.heap.size:=by have:=kd.size;omega
   clear hwH hPn
   have hfl:=faultsS_len st cs j
   clear hx HKK HGr kd HLn
   gi_upto_if 77 with fail
   gi_cut [] from 77 (λ wx=>∃ v,BoxE wx D (D+1) v (Bb st cs j++El H j)/\Kp (λ k=>k=D) w2 wx)
   case first=>
    by_cases hEH:j<H
    .have d7:decide (j<H)=true:=dT hEH
     have HFe:Sl (Bb st cs j++El H j=Bb st cs j++[(j,0,7)]):=⟨by rw[El,if_pos hEH]⟩
     gi_wp2_with fail
     refine wpIn_only ?_
     refine wpIn_wide.2 ?_
     refine wp_region_held_drew (S:=λ w'=>w'.cell? ⟨B+1,4,none⟩=some (.int .i64 (j:Nat))) (by kernel_rfl) ?_ (λ qZ=>?_)
     .exact e4
     refine Ao 1 ?_;refine Ao 2 ?_;refine Ao 3 ?_;refine Ao 4 ?_;refine Ao 5 ?_
     try simp only[Aw]
     refine AV [0,6] ?_
     refine Ai rfl (λ K hK=>?_) (Ag rfl (λ K hK=>?_))
     .have c0:=cell_of_one HX9.out.1
      go_simp
      refine hK _ _ ?_ (λ qZ=>?_)
      .exact qZ
      clear hK K
      try simp only[Aw]
      refine AV [6] ?_
      refine Ag rfl (λ K hK=>?_)
      go_simp
      refine hK _ _ ?_ (λ qZ=>?_)
      .exact ((Kr Ab wd).alloc _).drew.cell e4 (λ h=>h)
      clear hK K
      try simp only[Aw]
      obtain⟨w6,hw6⟩:∃ w6,w6=(wd.alloc (.cells #[.int .i64 (j:Nat),.int .i64 0,.int .i64 7] 120)).drew:=⟨_,rfl⟩
      have k6:Kp Ab wd w6:=by rw[hw6];exact ((Kr _ wd).alloc _).drew
      have bn:w6.heap[wd.heap.size]?=some (.cells #[.int .i64 (j:Nat),.int .i64 0,.int .i64 7] 120 (0,0)):=by rw[hw6];exact wN wd _
      rw[<- hw6]
      clear hw6
      have X6:=HX9.out.keep k6 (λ h=>h) (λ _ _ _ h=>h)
      have z6:=k6.size
      obtain⟨i0,hi,hz0,hz1,hz2⟩:=info_parts FJ
      refine AV [7] ?_
      refine Ag rfl (λ K hK=>?_)
      refine Ch rfl rfl (.tmp 78) (.tmp 84) 61 rfl (D+1) 120 i0 _ 3 24 Cw hi hz0 hz1 hz2 rfl (by omega) (.slice va _ vc) (Bb st cs j).length (BB (Bb st cs j)) rfl X6.2 ⟨wd.heap.size,0,none⟩ 1 _ [.int .i64 (j:Nat),.int .i64 0,.int .i64 7] rfl rfl (World.news_of_block bn) (by intro u hu;simp at hu;rcases hu with rfl|rfl|rfl <;> rfl) (by unfold maxLen;omega) (by omega) (by omega) ?_
      intro nv w7 hown7 hgrow hblk
      obtain⟨na,nc,rfl⟩:=AA hown7
      clear hi hz0 hz1 hz2
      have H7:=X6.put' (e:=(j,0,7)) (by omega) hown7 rfl hgrow
      have KA:Kp (λ b=>(Value.slice va (Bb st cs j).length vc).ownBlock=some b) w6 w7:=(Kr _ w6).grown hgrow (λ k e _=>e)
      have hnD:¬ (Value.slice va (Bb st cs j).length vc).ownBlock=some D:=λ h=>by have:=Af X6.2 h;omega
      have b7:=KA.at_ X6.1 hnD
      have c7:=cell_of_one b7
      have f7:=free_of_one b7
      have hb1:¬ (Value.slice va (Bb st cs j).length vc).ownBlock=some (B+1):=λ h=>by have:=Af X6.2 h;omega
      have e47:=KA.cell (k6.cell e4 (λ h=>h)) hb1
      refine hK _ _ ?_ (λ qZ=>?_)
      .exact e47
      clear hK K
      try simp only[Aw]
      refine AV [8] ?_
      refine Ag rfl (λ K hK=>?_)
      go_simp
      refine hK _ _ ?_ (λ qZ=>?_)
      .exact ((Kr (λ k=>k=D) w7).setCell (λ _=>rfl) _).cell e47 (by intro h;have h':B+1=D:=h;omega)
      clear hK K
      try simp only[Aw]
      refine wpAnyH_done (by kernel_rfl) ?_ _
      gi_wp2_with fail
      gi_meet
      refine⟨_,by rw[HFe.out];exact H7.1,((HK9.out.trans k6 (λ _ _ h=>h.elim)).trans H7.2 (λ i hi h=>?_))⟩
      rcases h with h|h
      .exact h
      .have:=(Af X6.2 h).1;have:=HZ2.out;omega
     .go_simp
      refine hK _ _ ?_ (λ qZ=>?_)
      .exact ((Kr Ab wd).alloc _).drew.cell e4 (λ h=>h)
      clear hK K
      try simp only[Aw]
      have c0:(wd.alloc (.cells #[.int .i64 (j:Nat),.int .i64 0,.int .i64 7] 120)).drew.cell? ⟨D,0,none⟩=some (.slice va (Bb st cs j).length vc):=((Kr Ab wd).alloc _).drew.cell (cell_of_one HX9.out.1) (λ h=>h)
      refine AV [0] ?_
      refine Ag rfl (λ K hK=>?_)
      go_simp
      refine hK _ _ ?_ (λ qZ=>?_)
      .exact ((Kr Ab wd).alloc _).drew.cell e4 (λ h=>h)
      clear hK K
      try simp only[Aw]
      clear c0
      obtain⟨w6,hw6⟩:∃ w6,w6=(wd.alloc (.cells #[.int .i64 (j:Nat),.int .i64 0,.int .i64 7] 120)).drew:=⟨_,rfl⟩
      have k6:Kp Ab wd w6:=by rw[hw6];exact ((Kr _ wd).alloc _).drew
      have bn:w6.heap[wd.heap.size]?=some (.cells #[.int .i64 (j:Nat),.int .i64 0,.int .i64 7] 120 (0,0)):=by rw[hw6];exact wN wd _
      rw[<- hw6]
      clear hw6
      have X6:=HX9.out.keep k6 (λ h=>h) (λ _ _ _ h=>h)
      have z6:=k6.size
      obtain⟨i0,hi,hz0,hz1,hz2⟩:=info_parts FJ
      refine AV [7] ?_
      refine Ag rfl (λ K hK=>?_)
      refine Ch rfl rfl (.tmp 78) (.tmp 84) 61 rfl (D+1) 120 i0 _ 3 24 Cw hi hz0 hz1 hz2 rfl (by omega) (.slice va _ vc) (Bb st cs j).length (BB (Bb st cs j)) rfl X6.2 ⟨wd.heap.size,0,none⟩ 1 _ [.int .i64 (j:Nat),.int .i64 0,.int .i64 7] rfl rfl (World.news_of_block bn) (by intro u hu;simp at hu;rcases hu with rfl|rfl|rfl <;> rfl) (by unfold maxLen;omega) (by omega) (by omega) ?_
      intro nv w7 hown7 hgrow hblk
      obtain⟨na,nc,rfl⟩:=AA hown7
      clear hi hz0 hz1 hz2
      have H7:=X6.put' (e:=(j,0,7)) (by omega) hown7 rfl hgrow
      have KA:Kp (λ b=>(Value.slice va (Bb st cs j).length vc).ownBlock=some b) w6 w7:=(Kr _ w6).grown hgrow (λ k e _=>e)
      have hnD:¬ (Value.slice va (Bb st cs j).length vc).ownBlock=some D:=λ h=>by have:=Af X6.2 h;omega
      have b7:=KA.at_ X6.1 hnD
      have c7:=cell_of_one b7
      have f7:=free_of_one b7
      have hb1:¬ (Value.slice va (Bb st cs j).length vc).ownBlock=some (B+1):=λ h=>by have:=Af X6.2 h;omega
      have e47:=KA.cell (k6.cell e4 (λ h=>h)) hb1
      refine hK _ _ ?_ (λ qZ=>?_)
      .exact e47
      clear hK K
      try simp only[Aw]
      refine AV [8] ?_
      refine Ag rfl (λ K hK=>?_)
      go_simp
      refine hK _ _ ?_ (λ qZ=>?_)
      .exact ((Kr (λ k=>k=D) w7).setCell (λ _=>rfl) _).cell e47 (by intro h;have h':B+1=D:=h;omega)
      clear hK K
      try simp only[Aw]
      refine wpAnyH_done (by kernel_rfl) ?_ _
      gi_wp2_with fail
      gi_meet
      refine⟨_,by rw[HFe.out];exact H7.1,((HK9.out.trans k6 (λ _ _ h=>h.elim)).trans H7.2 (λ i hi h=>?_))⟩
      rcases h with h|h
      .exact h
      .have:=(Af X6.2 h).1;have:=HZ2.out;omega
    .have d7:decide (j<H)=false:=dF hEH
     have HFe:Sl (Bb st cs j++El H j=Bb st cs j):=⟨by rw[El,if_neg hEH,List.append_nil]⟩
     gi_wp2_with fail
     gi_meet
     exact⟨_,by rw[HFe.out];exact HX9.out,HK9.out⟩
   case rest=>
    obtain⟨v0,hx0,hk0⟩:=hcut
    have G0:=HG2.out.keep hk0 (by omega) (by omega) (λ b hb h=>by have:=lov b hb;omega)
    have HK0:=sE (HK2.out.Al (λ k=>k=D) |>.trans hk0 (λ _ _ h=>h))
    obtain⟨F0,hF0⟩:∃ F,Bb st cs j++El H j=F:=⟨_,rfl⟩
    have hFl:F0.length<=65537:=by
     rw[<- hF0,List.length_append]
     have:(El H j).length<=1:=by unfold El;split <;> simp
     omega
    rw[hF0] at hx0
    have HF0:=sE hF0
    have lDc:=lZ hx0.1
    have hv0:∀ b,v0.ownBlock=some b->D+1<=b/\b<wc.heap.size:=λ b hb=>Af hx0.2 hb
    clear hF0 HX9 HK9 HG9 e4 lDd hk0 hjl' hjl hj HX HG1 HX2 HBt
    gi_wp2_with fail
    refine⟨trivial,rfl,?_⟩
    refine(callsIn_wide.2 (grefs_fn (B+1) wc)).mono ?_
    rintro e wl ⟨rfl,hwl⟩
    have hzl:wl.heap.size=wc.heap.size+1:=by rw[<- hwl];simp
    have kl:Kp Ab wc wl:=by rw[<- hwl];exact (Kr _ wc).alloc _
    have gbx:wl.heap[wc.heap.size]?=some (.cells #[.pointer (some ⟨B+1,0,none⟩)] 113 (0,0)):=by rw[<- hwl];exact wN wc _
    clear hwl
    have XL:=hx0.keep kl (λ h=>h) (λ _ _ _ h=>h)
    have GL:=G0.keep kl (λ h=>h) (λ h=>h) (λ _ _ h=>h)
    have HKL:Sl (Kp (λ k=>k=D) w wl):=⟨HK0.out.trans kl (λ _ _ h=>h.elim)⟩
    have SL:=HSp.out.keep HKL.out (λ i hi h=>by have:=lall i hi;omega)
    obtain⟨C,hC⟩:∃ C,wc.heap.size=C:=⟨_,rfl⟩
    rw[hC] at gbx hzl hv0 lDc
    have HXL:=sE XL
    clear G0 hx0 kl XL
    gi_wp2_with fail
    try rw[hC]
    clear hC
    refine Fu (n:=0) (gf:=109) (lb:=#[.pointer (some ⟨C,0,none⟩)]) rfl (enters_of func109 (by kernel_rfl) rfl)
     (grefs_iter4 P W f cs j C (B+1) B B ov wl SL HCs.out hms GL gbx (R:=λ i=>i=D\/v0.ownBlock=some i) (λ i hi=>by
      rcases hi with hi|hi
      .subst hi
       exact⟨by omega,by omega,by omega,by omega,λ h=>by have:=lov _ h;omega,λ h=>by have:=lall _ h;omega⟩
      .have:=hv0 i hi
       exact⟨by omega,by omega,by omega,by omega,λ h=>by have:=lov _ h;omega,λ h=>by have:=lall _ h;omega⟩)) (λ i hi=>hi.elim) (λ i hi=>by
      rcases hi with hi|hi
      .omega
      .have:=hv0 i hi
       omega)
     (X:=λ _=>False) (λ i hi=>hi.elim) (λ _=>rfl)
     (λ pre S W'=>FltI cs D (D+1) v0 F0 wl pre S W') (λ c pre W'=>False) (λ i=>i=D\/v0.ownBlock=some i) ?hS ?hI ?hIx ?h0 ?hround ?hdone ?hstop
    case hS=>
     rintro pre S A ⟨v,a1,rfl,a3,a4⟩ i hi
     rcases hi with hi|hi
     .exact ⟨.inl (.inl hi),by have:=lZ a1.1;omega⟩
     .have h2:=Af a1.2 hi
      rcases a4 i hi with h|h
      .exact ⟨.inl (.inr h),h2.2⟩
      .exact ⟨.inr h,h2.2⟩
    case hI=>
     rintro pre S A A' ⟨v,a1,a2,a3,a4⟩ hk
     have nD:∀ k,(Ab k\/k=wl.heap.size\/k=wl.heap.size+1)->¬ k=D:=λ k h=>by rcases h with h|h|h;exact h.elim;omega;omega
     refine⟨v,⟨hk.at_ a1.1 (λ h=>nD _ h rfl),Ah a1.2 hk (λ b hb h=>?_)⟩,a2,a3.trans hk (λ b hb h=>by rcases h with h|h|h;exact h.elim;omega;omega),a4⟩
     rcases a4 b hb with h'|h'
     .have:=hv0 b h'
      rcases h with h|h|h
      .exact h
      .omega
      .omega
     .rcases h with h|h|h
      .exact h
      .omega
      .omega
    case hIx=>exact λ c pre A B h hk=>h
    case h0=>exact ⟨v0,by rw[show CE cs []=[] from rfl,List.append_nil];exact HXL.out,rfl,Kr _ _,λ b hb=>.inl hb⟩
    case hround=>
     rintro pre S x rest W' hx ⟨v,a1,a2,a3,a4⟩ hs
     have hpl:pre.length+1<=2147483648:=by
      have:(Br P.ts W (Ap cs)).length=pre.length+(rest.length+1):=by rw[hx];simp
      omega
     have hel:(F0++CE cs pre).length<=65537+pre.length:=by have:=faultsR_len cs pre;rw [List.length_append];omega
     obtain⟨xg,xs,y⟩:=x
     obtain⟨z,hz⟩:∃ z,tgt cs y=z:=⟨_,rfl⟩
     have HAd:Sl (F0++CE cs (pre++[(xg,xs,y)])=(F0++CE cs pre)++(if ¬ y=0/\z<0 then [(xg,xs,8)] else [])):=⟨by rw[faultsR_add,faultR,hz,List.append_assoc]⟩
     obtain⟨F1,hF1⟩:∃ F,F0++CE cs pre=F:=⟨_,rfl⟩
     rw[hF1] at a1 hel HAd
     unfold edgeV
     dsimp only
     rw[hz]
     clear hz hx gbx GL hF1
     gi_wp2_with fail
     refine⟨((Kr Ab W').alloc _).Al _,?_⟩
     intro W2 hc2 hf2 hk2 hs2 hr2
     have kW:Kp Ab W' (W'.alloc (.cells #[.int .i64 (xg:Nat),.int .i64 (xs:Nat),.int .i64 z] 91)):=(Kr _ W').alloc _
     have lW:=lZ a1.1
     have own1:BoxE W2 D (D+1) v F1:=⟨hk2.at_ (kW.at_ a1.1 (λ h=>h)) (by omega),Ah (Ah a1.2 kW (λ _ _ h=>h)) hk2 (λ b hb h=>by
      rcases a4 b hb with h'|h'
      .have:=hv0 b h';omega
      .omega)⟩
     have rc:=hk2.at_ (wN W' (.cells #[.int .i64 (xg:Nat),.int .i64 (xs:Nat),.int .i64 z] 91)) (by omega)
     have c0:=cell_of_one own1.1
     have fr0:=free_of_one own1.1
     obtain⟨d0,d1,d2⟩:=cells3 rc
     have HOW:=sE own1
     have HK2x:Sl (Kp (λ k=>k=wl.heap.size+1) W' W2):=⟨(kW.Al _).trans hk2 (λ b hb h=>h)⟩
     have HA3:=sE a3
     have HA4:=sE a4
     have zW2:W2.heap.size=W'.heap.size+1:=by rw[hs2];simp
     have lrW2:D<W2.heap.size:=by omega
     have HNW:Sl (¬ v.ownBlock=some D):=⟨λ e=>by have:=Af own1.2 e;omega⟩
     have HS3:=sE a2
     have hs3:wl.heap.size+2<=W2.heap.size:=by omega
     have lc:W'.heap.size<W2.heap.size:=by omega
     have hbase:D+1<=W2.heap.size:=by omega
     clear own1 a1 a2 a3 a4 hc2 hf2 hk2 hs2 rc kW hr2 zW2
     by_cases hcond:¬ y=0/\z<0
     .have p0:((y:Int) !=0)=true:=by rw[bne_iff_ne];omega
      have p1:decide (z<0)=true:=dT hcond.2
      rw[if_pos hcond] at HAd
      clear hcond
      gi_wp2_with (gi_at_builtin;obtain ⟨i0,hi,hz0,hz1,hz2⟩:=info_parts FJ;go_loud (refine wpListIn_append_own_at _ rfl (.tmp 97) (.tmp 103) 61 rfl (D+1) 120 i0 _ 3 24 Cw hi hz0 hz1 hz2 rfl (by omega) v F1.length (BB F1) rfl (HOW.out.2.alloc _) ⟨W2.heap.size,0,none⟩ 1 1 [.int .i64 (xg:Nat),.int .i64 (xs:Nat),.int .i64 8] rfl rfl (World.news_of_block (wN W2 _)) (by intro u hu;simp at hu;rcases hu with rfl|rfl|rfl <;> rfl) (by unfold maxLen;omega) (by omega) (by simp;omega) ?_);intro v5 w5 hown5 hgrow5 _ hat;obtain ⟨a5,cp5,rfl⟩:=AA hown5;have H5:=sE (HOW.out.put (e:=(xg,xs,8)) (by omega) hown5 rfl hgrow5);have KA:Kp (λ b=>v.ownBlock=some b) W2 w5:=((Kr Ab W2).alloc _ |>.Al _).grown hgrow5 (λ k e _=>e);have r5:=KA.at_ HOW.out.1 HNW.out;have c5:=cell_of_one r5;have f5:=free_of_one r5;have HAt:=sE hat;clear hi hz0 hz1 hz2 hown5 hgrow5 KA r5 hat)
      have hat:∀ b,(Value.slice a5 (F1.length+1) cp5).ownBlock=some b->v.ownBlock=some b\/W2.heap.size<=b:=λ b hb=>by
       rcases HAt.out with h|h
       .exact .inl (by rw[<- h];exact hb)
       .right
        rw[hb] at h
        injection h with h
        rw[h]
        simp
      refine⟨H5.out.2.mono λ b hb h=>by rw[HS3.out];exact h,_,⟨_,by rw[HAd.out];exact H5.out.1,rfl,?_,?_⟩,?_⟩
      .refine (HA3.out.trans HK2x.out (λ b hb h=>by omega)).trans H5.out.2 (λ b hb h=>?_)
       rcases h with h|h
       .exact .inl h
       .rcases HA4.out b h with h'|h'
        .exact .inr h'
        .omega
      .intro b hb
       rcases hat b hb with h|h
       .exact HA4.out b h
       .exact .inr (by omega)
      .rintro i (hi'|hi')
       .exact .inl (by rw[HS3.out];exact .inl hi')
       .rcases hat i hi' with h|h
        .exact .inl (by rw[HS3.out];exact .inr h)
        .exact .inr h
     .rw [if_neg hcond,List.append_nil] at HAd
      have fin:FltI cs D (D+1) v0 F0 wl (pre++[(xg,xs,y)]) S W2:=⟨v,by rw[HAd.out];exact HOW.out,HS3.out,HA3.out.trans HK2x.out (λ b hb h=>by omega),HA4.out⟩
      have HFin:=sE fin
      clear fin
      by_cases hy0:y=0
      .have p0:((y:Int) !=0)=false:=by rw[hy0];rfl
       clear hcond hy0
       gi_wp2_with fail
       exact⟨Kr _ W2,S,HFin.out,λ i hi=>.inl hi⟩
      .have p0:((y:Int) !=0)=true:=by rw[bne_iff_ne];omega
       have p1:decide (z<0)=false:=dF (λ h=>hcond ⟨hy0,h⟩)
       clear hcond hy0
       gi_wp2_with fail
       exact⟨Kr _ W2,S,HFin.out,λ i hi=>.inl hi⟩
    case hdone=>
     rintro S W' ⟨v,a1,a2,a3,a4⟩ hs hD'
     obtain⟨va',vc',rfl⟩:=AA a1.2
     have c0:=cell_of_one a1.1
     have HA1:=sE a1
     have HA3:=sE a3
     have HA4:=sE a4
     have HDd:=sE hD'
     clear a1 a2 a3 a4 hD' gbx GL
     gi_wp2_with fail
     refine⟨by simp,.inl ⟨_,_,rfl,run_takeDeferred HDd.out,?_⟩⟩
     have kE:Kp (λ b=>b=wl.heap.size) W' (W'.putObj wl.heap.size (.deferred none)):=(Kr (λ b=>b=wl.heap.size) W').putObj (λ _=>rfl) _
     refine⟨.tuple #[.slice va' (F0++CE cs (Br P.ts W (Ap cs))).length vc',.int .i64 0],by simp[results,results21,go_sem],_,rfl,?_,?_⟩
     .unfold faultsL
      rw[HF0.out]
      refine Bi (Ah HA1.out.2 kE (λ b hb h=>?_)) (by omega)
      rcases HA4.out b hb with h'|h'
      .have:=hv0 b h';omega
      .omega
     .refine (HKL.out.trans (HA3.out.trans kE (λ b hb h=>by omega)) (λ b hb h=>?_)).mono (λ b hb h=>by omega)
      rcases h with h|h
      .exact h
      .have:=hv0 b h;omega
    case hstop=>exact λ c pre W' hp h=>h.elim

end

section
open Go.RowKit

theorem run_eq_fault(a b c a' b' c':Int)(w:World):(Op.equalIn 10000 120 (.agg #[.int .i64 a,.int .i64 b,.int .i64 c]) (.agg #[.int .i64 a',.int .i64 b',.int .i64 c'])).run prog w=.ok (a==a'&&(b==b'&&c==c')) w:=by
 have u3:=underlying3
 have a3:=isAgg3
 have z3:=sizeOf3
 have uE:=underlying37
 have aE:=isAgg37
 have zE:=sizeOf37
 have hS:prog.underlying 120=some (.struct (prog.fieldsOf 120)):=by kernel_rfl
 rw[show (10000:Nat)=9999+1 from rfl,run_equalIn_agg w 9999 120 _ _ hS (by kernel_rfl)]
 simp only[Program.fieldsOf,underlying120]
 go_simp
 by_cases h0:a=a' <;> by_cases h1:b=b' <;> by_cases h2:c=c' <;> simp[h0,h1,h2]

theorem run_neq_fault(a b c a' b' c':Int)(w:World):(binOp .neq 120 (.agg #[.int .i64 a,.int .i64 b,.int .i64 c]) (.agg #[.int .i64 a',.int .i64 b',.int .i64 c'])).run prog w=.ok (.bool (!(a==a'&&(b==b'&&c==c')))) w:=by
 rw[run_neq_struct,run_eq_fault];rfl

theorem run_eq_edge(a b c a' b' c':Int)(w:World):(Op.equalIn 10000 91 (.agg #[.int .i64 a,.int .i64 b,.int .i64 c]) (.agg #[.int .i64 a',.int .i64 b',.int .i64 c'])).run prog w=.ok (a==a'&&(b==b'&&c==c')) w:=by
 have u3:=underlying3
 have a3:=isAgg3
 have z3:=sizeOf3
 have hS:prog.underlying 91=some (.struct (prog.fieldsOf 91)):=by kernel_rfl
 rw[show (10000:Nat)=9999+1 from rfl,run_equalIn_agg w 9999 91 _ _ hS (by kernel_rfl)]
 simp only[Program.fieldsOf,underlying91]
 go_simp
 by_cases h0:a=a' <;> by_cases h1:b=b' <;> by_cases h2:c=c' <;> simp[h0,h1,h2]

theorem run_neq_edge(a b c a' b' c':Int)(w:World):(binOp .neq 91 (.agg #[.int .i64 a,.int .i64 b,.int .i64 c]) (.agg #[.int .i64 a',.int .i64 b',.int .i64 c'])).run prog w=.ok (.bool (!(a==a'&&(b==b'&&c==c')))) w:=by
 rw[run_neq_struct,run_eq_edge];rfl

def Et(w:World)(v:Value)(es:List (Nat×Nat×Nat)):Prop:=
 ∃ a cap,v=.slice a es.length cap/\∀ i x,es[i]?=some x->∃ b o,a=some ⟨b,o,none⟩/\b<w.heap.size/\
  w.cell? ⟨b,o+i*3,none⟩=some (.int .i64 (x.1:Nat))/\w.cell? ⟨b,o+i*3+1,none⟩=some (.int .i64 (x.2.1:Nat))/\w.cell? ⟨b,o+i*3+2,none⟩=some (.int .i64 (x.2.2:Nat))

theorem Et.BK{T:TypeId}{w:World}{base:Nat}{v:Value}{es:List (Nat×Nat×Nat)}(h:w.ownsRow base T 3 v es.length (BB es)):Et w v es:=by
 rcases h.2 with ⟨rfl,h0⟩|⟨g,cap,cur,rfl,g2,g3,g4,g5,g6,g7⟩
 .exact ⟨none,0,by rw[h0],λ i x hx=>by have:=(gE.1 hx).1;omega⟩
 .refine ⟨some ⟨g,0,none⟩,cap,rfl,λ i x hx=>?_⟩
  have hi:=(gE.1 hx).1
  obtain⟨x0,x1,x2⟩:=flatE_at es i x hx
  have key:∀ j,j<es.length*3->w.cell? ⟨g,j,none⟩=(BB es)[j]?:=λ j hj=>by
   rw[<- g7,List.getElem?_take_of_lt hj]
   simp[World.cell?,g3]
  exact⟨g,0,rfl,lZ g3,by rw[Nat.zero_add,key _ (by omega)];exact x0,by rw[Nat.zero_add,key _ (by omega)];exact x1,by rw[Nat.zero_add,key _ (by omega)];exact x2⟩

theorem Et.Ad{w w':World}{v:Value}{es:List (Nat×Nat×Nat)}(h:Et w v es)(k:Kp Ab w w'):Et w' v es:=by
 obtain⟨a,cap,rfl,h⟩:=h
 refine⟨a,cap,rfl,λ i x hi=>?_⟩
 obtain⟨b,o,rfl,h1,h2,h3,h4⟩:=h i x hi
 exact⟨b,o,rfl,Nat.lt_of_lt_of_le h1 k.size,k.cell h2 (λ h=>h),k.cell h3 (λ h=>h),k.cell h4 (λ h=>h)⟩

section

attribute [local go_sem ↓] run_neq_fault

end

section

attribute [local go_sem ↓] run_neq_edge

theorem SameEdges_yes(cs:List (Nat×Nat×Nat))(v u:Value)(w:World)(hv:Et w v cs)(hu:Et w u cs)(hlen:cs.length<=9223372036854775806):
  Calls prog 37 #[v,u] w λ e w'=>e=.returned (.bool true)/\Kp Ab w w':=by
 have HV:=sE hv
 have HU:=sE hu
 obtain⟨va,vc,rfl,-⟩:=hv
 obtain⟨ua,uc,rfl,-⟩:=hu
 obtain⟨len,hlen'⟩:∃ len,cs.length=len:=⟨_,rfl⟩
 rw[hlen'] at HV HU hlen ⊢
 have HL:=sE hlen'
 clear hlen'
 go_enter func37,ntmps37
 go_wp2_with fail
 go_loopw [5] (λ y wr=>∃ j:Nat,j<=len/\y=.int .i64 (j:Nat)/\Kp Ab w wr) (λ y _=>len-(intOf y).toNat)
 case atStart=>exact ⟨0,Nat.zero_le _,rfl,Kr _ _⟩
 case round=>
  obtain⟨j,hj,rfl,hk⟩:=hrel
  by_cases hjl:j<len
  .have hjl':(j:Int)<len:=by omega
   obtain⟨va',vc',e,hx⟩:=HV.out
   injection e with e1 e3 e2
   clear e3
   subst e1 e2
   obtain⟨ua',uc',e,hy⟩:=HU.out
   injection e with e1 e3 e2
   clear e3
   subst e1 e2
   obtain⟨x,hxj⟩:∃ x,cs[j]?=some x:=⟨cs[j]'(by rw[HL.out];omega),List.getElem?_eq_getElem (by rw[HL.out];omega)⟩
   obtain⟨b,o,rfl,hbl,x0,x1,x2⟩:=hx j x hxj
   obtain⟨b',o',rfl,hbl',y0,y1,y2⟩:=hy j x hxj
   clear hx hy hxj
   replace x0:=hk.cell x0 (λ h=>h)
   replace x1:=hk.cell x1 (λ h=>h)
   replace x2:=hk.cell x2 (λ h=>h)
   replace y0:=hk.cell y0 (λ h=>h)
   replace y1:=hk.cell y1 (λ h=>h)
   replace y2:=hk.cell y2 (λ h=>h)
   go_wp2_with fail
   go_quiet (fail)
   go_wp2
   refine⟨⟨j+1,by omega,by go_num,hk.then' (Kp.Aj _)⟩,by simp only[intOf];omega⟩
  .have hjl':¬ (j:Int)<len:=by omega
   go_wp2
   go_ret
   exact⟨rfl,hk⟩

end

end

section
open Go.RowKit

def cN(t:Nat):List Cel->Nat
 |[]=>0
 |c::cs=>(if c.tag=t then 1 else 0)+cN t cs

def cS(t:Nat):List Cel->Nat
 |[]=>0
 |c::cs=>(if c.tag=t then c.sz else 0)+cS t cs

theorem Kp.newW{w w':World}(h:Kp (λ k=>w.heap.size<=k) w w'):Kp Ab w w':=h.mono (λ i hi hp=>by omega)

end

end Go.Proofs.YtmfajopmppfldaaGreatDoor
