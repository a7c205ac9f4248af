/-
  Lemmas for the laws, together: SpacePuts.
-/
import Derived.Test.YtmfajopmppfldaaGreatDoorQal
import Derived.Test.YtmfajopmppfldaaGreatDoorQad
import Derived.Test.YtmfajopmppfldaaGreatDoorQae
import Derived.Test.YtmfajopmppfldaaGreatDoorQag
import Derived.Laws.EntriesVeiled
set_option linter.unusedVariables false
set_option maxHeartbeats 16000000
namespace Go.Proofs.YtmfajopmppfldaaGreatDoor
open Tryz
section
open Go.RowKit
attribute [local go_sem] Oper.semAt_some

set_option maxRecDepth 20000 in
theorem Put_out(g:Int)(i l S:Nat)(P:Sp)(cs:List Cel)(w:World)(W:Nat->Nat)(h:Aw w P W cs)(he:AY P.ts (i:Nat) (l:Nat)=0)(hS:Bq P.ts (i:Nat) (l:Nat)=(S:Nat))(ho:g<0\/((P.n/2:Nat):Int)<=g):
    Calls prog 83 #[.pointer (some ⟨P.s,0,none⟩),.int .i64 g,.int .i64 (i:Nat),.int .i64 (l:Nat)] w (PutPostW P cs W g (i:Nat) (l:Nat) w):=by
  have hR:Sl (DX P.ts (P.n/2) cs g (i:Nat) (l:Nat)=2):=⟨by rw[DX,if_neg (by simpa using he),if_pos ho]⟩
  have HO:Sl (∀ W' W0 f0,SpaceAt W' P W0 f0->Calls prog 102 #[.pointer (some ⟨P.t,0,none⟩),.int .i64 (i:Nat),.int .i64 (l:Nat)] W' λ e w'=>e=.returned (.tuple #[.agg #[.int .u8 1,.int .i64 (i:Nat),.int .i64 (l:Nat),.int .i64 (S:Nat)],.int .i64 0])/\Kp Ab W' w'):=
    ⟨λ W' _ _ h'=>(ED (i:Nat) (l:Nat) P.t P.tq P.ts W' h'.tb).mono λ e w' hp=>by rw[BG,he,if_pos rfl,hS] at hp;exact hp⟩
  obtain⟨H,hH⟩:∃ H,P.n/2=H:=⟨_,rfl⟩
  have HG:Sl (∀ W' W0 f0,SpaceAt W' P W0 f0->Calls prog 42 #[.pointer (some ⟨P.s,0,none⟩)] W' λ e w''=>e=.returned (.int .i64 (H:Nat))/\w''=W'):=⟨λ w' W0 f0 h'=>by rw[<- hH];exact EC P W0 f0 w' h'⟩
  rw[hH] at ho
  clear he hS hH
  obtain⟨f,hs,hc,hst⟩:=h
  have HSs:=sE hs
  have HCs:=sE hc
  have HSt:=sE hst
  obtain⟨w5,hw5⟩:∃ w5,w5=((((w.alloc (.cells #[.pointer (some ⟨P.s,0,none⟩)] 27)).alloc (.cells #[.int .i64 g] 3)).alloc (.cells #[.int .i64 (i:Nat)] 3)).alloc (.cells #[.int .i64 (l:Nat)] 3)).alloc (.cells #[.int .i64 0] 37):=⟨_,rfl⟩
  have k5:Kp Ab w w5:=by rw[hw5];exact (((((Kr _ w).alloc _).alloc _).alloc _).alloc _).alloc _
  have z5:Sl (w5.heap.size=w.heap.size+1+1+1+1+1):=⟨by rw[hw5];simp⟩
  have g0:w5.heap[w.heap.size]?=some (.cells #[.pointer (some ⟨P.s,0,none⟩)] 27 (0,0)):=by
    rw[hw5];exact ((((Kr Ab _).alloc _).alloc _).alloc _ |>.alloc _).at_ (wN w _) (λ h=>h)
  have g1:w5.heap[w.heap.size+1]?=some (.cells #[.int .i64 g] 3 (0,0)):=by
    rw[hw5];exact (((Kr Ab _).alloc _).alloc _ |>.alloc _).at_ (Bc _ _ (by simp)) (λ h=>h)
  have g2:w5.heap[w.heap.size+1+1]?=some (.cells #[.int .i64 (i:Nat)] 3 (0,0)):=by
    rw[hw5];exact ((Kr Ab _).alloc _ |>.alloc _).at_ (Bc _ _ (by simp)) (λ h=>h)
  have g3:w5.heap[w.heap.size+1+1+1]?=some (.cells #[.int .i64 (l:Nat)] 3 (0,0)):=by
    rw[hw5];exact ((Kr Ab _).alloc _).at_ (Bc _ _ (by simp)) (λ h=>h)
  have g4:w5.heap[w.heap.size+1+1+1+1]?=some (.cells #[.int .i64 0] 37 (0,0)):=by
    rw[hw5];exact Bc _ _ (by simp)
  have S5:=hs.Ad k5
  have HB:=sE (And.intro g0 (And.intro g1 (And.intro g2 (And.intro g3 g4))))
  have c0:=cell_of_one g0
  have c1:=cell_of_one g1
  have c2:=cell_of_one g2
  have c3:=cell_of_one g3
  have c4:=cell_of_one g4
  have f4:=free_of_one g4
  obtain⟨s0,s1,s2⟩:=S5.head
  have HS5:=sE S5
  have lts:=hs.lt P.s (by simp[Sp.all])
  clear hs hc hst S5 g0 g1 g2 g3 g4
  refine(callsIn_wide (n:=0)).1 ?_
  refine callsIn_of_wp_marks func83 rfl trivial ?_
  simp only[ntmps83,List.size_toArray,List.length_cons,List.length_nil,Nat.reduceAdd,Nat.reduceSub,Array.replicate_succ,Array.replicate_zero,List.push_toArray,List.append_toArray,List.nil_append,List.cons_append]
  gi_wp2_with fail
  try rw[<- hw5]
  clear hw5
  gi_wp2_with fail
  refine wpIn_wide.2 ?_
  go_region_held3 (λ w'=>w'.cell? ⟨w.heap.size,0,none⟩=some (.pointer (some ⟨P.s,0,none⟩))/\w'.cell? ⟨w.heap.size+1+1,0,none⟩=some (.int .i64 (i:Nat))/\w'.cell? ⟨w.heap.size+1+1+1,0,none⟩=some (.int .i64 (l:Nat))/\w'.cell? ⟨P.s,1,none⟩=some (.pointer (some ⟨P.t,0,none⟩)))
    (exact ⟨Be KU c0,Be KU c2,Be KU c3,Be KU s1⟩)
    (first
      | (go_at_call 102;with_reducible refine(HO.out w5.drew W f (HS5.out.Ad (Kr Ab _).drew)).mono ?_;rintro e w6 ⟨rfl,k6⟩
         have KK:Kp Ab w5 w6:=(Kr Ab w5).drew.then' k6
         have KS:=KK.size)
      | (go_at_call 102;with_reducible refine(HO.out (w5.alloc (.cells #[.int .u8 0,.int .i64 0,.int .i64 0,.int .i64 0] 52)).drew W f (HS5.out.Ad ((Kr Ab _).alloc _).drew)).mono ?_;rintro e w6 ⟨rfl,k6⟩
         have KK:Kp Ab w5 w6:=((Kr Ab w5).alloc _).drew.then' k6
         have KS:=KK.size
         have B6:=k6.at_ (show (w5.alloc (.cells #[.int .u8 0,.int .i64 0,.int .i64 0,.int .i64 0] 52)).drew.heap[w5.heap.size]?=_ from wN w5 _) (λ h=>h)
         have fb0:=Ae B6 0
         have fb1:=Ae B6 1
         have fb2:=Ae B6 2
         have fb3:=Ae B6 3
         have db0:w6.cell? ⟨w5.heap.size,0,none⟩=some (.int .u8 0):=by simp[World.cell?,B6]
         have db1:w6.cell? ⟨w5.heap.size,1,none⟩=some (.int .i64 0):=by simp[World.cell?,B6]
         have db2:w6.cell? ⟨w5.heap.size,2,none⟩=some (.int .i64 0):=by simp[World.cell?,B6]
         have db3:w6.cell? ⟨w5.heap.size,3,none⟩=some (.int .i64 0):=by simp[World.cell?,B6]
         have HB6:=sE B6
         clear B6))
  all_goals
    first
      | (generalize hwz:World.setCell _ _ _=wz
         have kz:Kp Ab w5 wz:=by rw[<- hwz];(repeat (first|assumption|exact Kr _ _|refine Kp.drew ?_|refine Kp.alloc ?_ _|refine Kp.Az ?_ (by omega) _))
         have bz:wz.heap[w5.heap.size]?=some (.cells #[.int .u8 1,.int .i64 (i:Nat),.int .i64 (l:Nat),.int .i64 (S:Nat)] 52 (0,0)):=by
           rw[<- hwz];exact bZ (bZ (bZ (bZ HB6.out (j:=0) _) (j:=1) _) (j:=2) _) (j:=3) _
         have lb9:w5.heap.size<wz.heap.size:=lZ bz
         have lb9':w5.heap.size<=w5.heap.size:=Nat.le_refl _
         generalize hb9:w5.heap.size=b9 at bz lb9 lb9' ⊢
         replace lb9':w5.heap.size<=b9:=by omega
         clear hwz)
      | (generalize hwz:World.alloc _ _=wz
         have kz:Kp Ab w5 wz:=by rw[<- hwz];(repeat (first|assumption|exact Kr _ _|refine Kp.drew ?_|refine Kp.alloc ?_ _|refine Kp.Az ?_ (by omega) _))
         have bz:wz.heap[w6.heap.size]?=some (.cells #[.int .u8 1,.int .i64 (i:Nat),.int .i64 (l:Nat),.int .i64 (S:Nat)] 52 (0,0)):=by
           rw[<- hwz];exact wN w6 _
         have lb9:w6.heap.size<wz.heap.size:=lZ bz
         have lb9':w5.heap.size<=w6.heap.size:=KS
         generalize hb9:w6.heap.size=b9 at bz lb9 lb9' ⊢
         clear hwz)
    clear hb9
    replace c0:=kz.cell c0 (λ h=>h)
    replace c1:=kz.cell c1 (λ h=>h)
    replace c4:=kz.cell c4 (λ h=>h)
    have f4:=free_of_one (kz.at_ HB.out.2.2.2.2 (λ h=>h))
    have SZ:=HS5.out.Ad kz
    have HSZ:=sE SZ
    clear SZ
    gi_wp2_with fail
    rcases ho with ho|ho
    . have hd0:decide (g<0)=true:=dT ho
      refine wpIn_wide.2 ?_
      go_quiet (first|(go_at_call 42;with_reducible refine Calls.quiet_of_same (HG.out _ W f ?_);(first|exact HSZ.out|exact HSZ.out.Ad (Kr Ab _).drew|exact HSZ.out.Ad (Kp.Aj _)|exact HSZ.out.Ad ((Kp.Aj _).drewN _))))
      gi_wp2_with fail
      have kw:Kp Ab w (wz.drewN nq):=(k5.then' kz).drewN nq
      have B4:(wz.drewN nq).heap[w.heap.size+1+1+1+1]?=some (.cells #[.int .i64 0] 37 (0,0)):=kz.at_ HB.out.2.2.2.2 (λ h=>h)
      have kq:Kp (λ i=>i=w.heap.size+1+1+1+1) (wz.drewN nq) ((wz.drewN nq).setCell ⟨w.heap.size+1+1+1+1,0,none⟩ (.int .i64 2)):=(Kr (λ i=>i=w.heap.size+1+1+1+1) (wz.drewN nq)).setCell (λ _=>rfl) _
      have e4:=cell_of_one (one_setCell (u:=.int .i64 2) B4)
      refine⟨.int .i64 2,by simp[results,results83,go_sem,e4],by rw[hR.out],(kw.Ak P.own).trans kq (λ i hi h=>by omega),.inl ⟨by rw[hR.out];omega,?_⟩⟩
      refine Aw.keep ⟨f,HSs.out.Ad kw,HCs.out,HSt.out⟩ kq (λ i hi h=>by have:=HSs.out.lt i hi;omega)
    . have hd0:decide (g<0)=false:=dF (by omega)
      have hd1:decide ((H:Int)<=g)=true:=dT ho
      refine wpIn_wide.2 ?_
      go_quiet (first|(go_at_call 42;with_reducible refine Calls.quiet_of_same (HG.out _ W f ?_);(first|exact HSZ.out|exact HSZ.out.Ad (Kr Ab _).drew|exact HSZ.out.Ad (Kp.Aj _)|exact HSZ.out.Ad ((Kp.Aj _).drewN _))))
      gi_wp2_with fail
      have kw:Kp Ab w (wz.drewN nq):=(k5.then' kz).drewN nq
      have B4:(wz.drewN nq).heap[w.heap.size+1+1+1+1]?=some (.cells #[.int .i64 0] 37 (0,0)):=kz.at_ HB.out.2.2.2.2 (λ h=>h)
      have kq:Kp (λ i=>i=w.heap.size+1+1+1+1) (wz.drewN nq) ((wz.drewN nq).setCell ⟨w.heap.size+1+1+1+1,0,none⟩ (.int .i64 2)):=(Kr (λ i=>i=w.heap.size+1+1+1+1) (wz.drewN nq)).setCell (λ _=>rfl) _
      have e4:=cell_of_one (one_setCell (u:=.int .i64 2) B4)
      refine⟨.int .i64 2,by simp[results,results83,go_sem,e4],by rw[hR.out],(kw.Ak P.own).trans kq (λ i hi h=>by omega),.inl ⟨by rw[hR.out];omega,?_⟩⟩
      refine Aw.keep ⟨f,HSs.out.Ad kw,HCs.out,HSt.out⟩ kq (λ i hi h=>by have:=HSs.out.lt i hi;omega)

end

section
open Go.RowKit
attribute [local go_sem] Oper.semAt_some

theorem Ca{Pr:Program}{l n:Nat}{f:FuncId}{args:Array Value}{w:World}{R:Ending->World->Prop}(h:Calls Pr f args w R):CallsIn (Fence.wide.inRound l) n Pr f args w R:=
  (callsIn_wide (n:=n)).2 h

structure PutHeld(P:Sp)(z j S b9 bc:Nat)(i l:Nat)(x:Cel)(A:World):Prop where
  h0:A.heap[z]?=some (.cells #[.pointer (some ⟨P.s,0,none⟩)] 27 (0,0))
  h1:A.heap[z+1]?=some (.cells #[.int .i64 (j:Nat)] 3 (0,0))
  h4:A.heap[z+1+1+1+1]?=some (.cells #[.int .i64 0] 37 (0,0))
  h9:A.heap[b9]?=some (.cells #[.int .u8 1,.int .i64 (i:Nat),.int .i64 (l:Nat),.int .i64 (S:Nat)] 52 (0,0))
  hc:A.heap[bc]?=some (.cells #[.int .i64 (x.g:Nat),.int .u8 (x.tag:Nat),.int .i64 (x.ty:Nat),.int .i64 (x.ln:Nat),.int .i64 (x.sz:Nat)] 71 (0,0))

theorem PutHeld.keep{P:Sp}{z j S b9 bc i l:Nat}{x:Cel}{A B:World}{T:Nat->Prop}(h:PutHeld P z j S b9 bc i l x A)(k:Kp T A B)(hT:∀ b,T b->b<z)(h9:z<=b9)(hc:z<=bc):PutHeld P z j S b9 bc i l x B:=
  ⟨k.at_ h.h0 (λ e=>by have:=hT _ e;omega),k.at_ h.h1 (λ e=>by have:=hT _ e;omega),k.at_ h.h4 (λ e=>by have:=hT _ e;omega),k.at_ h.h9 (λ e=>by have:=hT _ e;omega),k.at_ h.hc (λ e=>by have:=hT _ e;omega)⟩

theorem PutHeld.cells{P:Sp}{z j S b9 bc i l:Nat}{x:Cel}{A:World}(h:PutHeld P z j S b9 bc i l x A):
    A.cell? ⟨z,0,none⟩=some (.pointer (some ⟨P.s,0,none⟩))/\A.cell? ⟨z+1,0,none⟩=some (.int .i64 (j:Nat))/\A.cell? ⟨b9,3,none⟩=some (.int .i64 (S:Nat))/\A.cell? ⟨bc,0,none⟩=some (.int .i64 (x.g:Nat))/\
      A.cell? ⟨z+1+1+1+1,0,none⟩=some (.int .i64 0)/\A.frozen? ⟨z+1+1+1+1,0,none⟩=false:=by
  have a:=h.h9
  have b:=h.hc
  exact⟨cell_of_one h.h0,cell_of_one h.h1,by simp[World.cell?,a],by simp[World.cell?,b],cell_of_one h.h4,free_of_one h.h4⟩

def PutIx(P:Sp)(cs:List Cel)(V:Nat->Nat)(g id n:Int)(wl:World)(res:Nat)(c:Code)(W:World):Prop:=
  c=.ret/\W.heap[res]?=some (.cells #[.int .i64 (DX P.ts (P.n/2) cs g id n)] 37 (0,0))/\Kp (λ k=>P.own k\/k=res) wl W/\
    ((¬ DX P.ts (P.n/2) cs g id n=0/\Aw W P V cs)\/
     (DX P.ts (P.n/2) cs g id n=0/\∃ (pre:List Cel) (c:Cel) (post:List Cel) (j i l S:Nat),cs=pre++c::post/\¬ c.tag=1/\g=(j:Nat)/\id=(i:Nat)/\n=(l:Nat)/\Bq P.ts id n=(S:Nat)/\
        c.g<=j/\j+S<=c.fin/\0<S/\Aw W P (putW V c j i l S) (putL pre c post j i l S)))

set_option maxRecDepth 20000 in
theorem Put_in(j i l S:Nat)(P:Sp)(cs:List Cel)(w:World)(W:Nat->Nat)(h:Aw w P W cs)(he:AY P.ts (i:Nat) (l:Nat)=0)(hS:Bq P.ts (i:Nat) (l:Nat)=(S:Nat))(hS0:0<S)(hok:Dh P.ts ⟨0,1,i,l,S⟩)(hj:j<P.n/2):
    Calls prog 83 #[.pointer (some ⟨P.s,0,none⟩),.int .i64 (j:Nat),.int .i64 (i:Nat),.int .i64 (l:Nat)] w (PutPostW P cs W (j:Nat) (i:Nat) (l:Nat) w):=by
  have hcell:∃ p0 c0' q0,cs=p0++c0'::q0/\c0'.g<=j/\j<c0'.fin/\∀ d∈p0,d.fin<=c0'.g:=by
    obtain⟨_,_,hc,_⟩:=h
    exact cell_split hc.tl (Nat.zero_le _) hj
  obtain⟨p0,c0',q0,hcs,hc1,hc2,hc3⟩:=hcell
  have hm0:c0'∈cs:=by rw[hcs];simp
  clear hcs hc3
  have hR:Sl (∀ pre c post,cs=pre++c::post->(∀ d∈pre,d.fin<=j)->j<c.fin->DX P.ts (P.n/2) cs (j:Nat) (i:Nat) (l:Nat)=if c.tag=1\/(c.fin:Int)-(j:Nat)<(S:Nat) then 3 else 0):=⟨by
    intro pre c post e1 e2 e3
    rw[DX,if_neg (by simpa using he),if_neg (by omega),e1,cellOf_at (g:=(j:Nat)) (λ d hd=>by have:=e2 d hd;omega) (by omega),hS]⟩
  have HO:Sl (∀ W' W0 f0,SpaceAt W' P W0 f0->Calls prog 102 #[.pointer (some ⟨P.t,0,none⟩),.int .i64 (i:Nat),.int .i64 (l:Nat)] W' λ e w'=>e=.returned (.tuple #[.agg #[.int .u8 1,.int .i64 (i:Nat),.int .i64 (l:Nat),.int .i64 (S:Nat)],.int .i64 0])/\Kp Ab W' w'):=
    ⟨λ W' _ _ h'=>(ED (i:Nat) (l:Nat) P.t P.tq P.ts W' h'.tb).mono λ e w' hp=>by rw[BG,he,if_pos rfl,hS] at hp;exact hp⟩
  have hn:P.n<=65536:=by obtain⟨_,hs,_⟩:=h;exact hs.ar.small
  have HCell:Sl (∀ W pre c post,CellsAt P W cs->cs=pre++c::post->(∀ d∈pre,d.fin<=j)->c.g<=j/\c.g+c.sz<=P.n/2/\Dh P.ts c):=⟨by
    intro W pre c post hc e1 e2
    have hm:=hc.tl.mem (c:=c) (by rw[e1];simp)
    refine⟨?_,hm.2.1,hc.ok c (by rw[e1];simp)⟩
    have ht:=hc.tl
    rw[e1] at ht
    obtain⟨x,t1,t2⟩:=ht.split
    rw[t2.1]
    exact tiles_fin t1 e2 (Nat.zero_le _)⟩
  have HSz:Sl (Bq P.ts (i:Nat) (l:Nat)=(S:Nat)/\AY P.ts (i:Nat) (l:Nat)=0/\Dh P.ts ⟨0,1,i,l,S⟩):=⟨⟨hS,he,hok⟩⟩
  obtain⟨H,hH⟩:∃ H,P.n/2=H:=⟨_,rfl⟩
  have HG:Sl (∀ W' W0 f0,SpaceAt W' P W0 f0->Calls prog 42 #[.pointer (some ⟨P.s,0,none⟩)] W' λ e w''=>e=.returned (.int .i64 (H:Nat))/\w''=W'):=⟨λ w' W0 f0 h'=>by rw[<- hH];exact EC P W0 f0 w' h'⟩
  have HH:Sl (P.n/2=H):=⟨hH⟩
  rw[hH] at hj
  have hH2:H<=32768:=by omega
  clear he hS hH hok hn
  obtain⟨f,hs,hc,hst⟩:=h
  have HSs:=sE hs
  have HCs:=sE hc
  have HSt:=sE hst
  obtain⟨w5,hw5⟩:∃ w5,w5=((((w.alloc (.cells #[.pointer (some ⟨P.s,0,none⟩)] 27)).alloc (.cells #[.int .i64 (j:Nat)] 3)).alloc (.cells #[.int .i64 (i:Nat)] 3)).alloc (.cells #[.int .i64 (l:Nat)] 3)).alloc (.cells #[.int .i64 0] 37):=⟨_,rfl⟩
  have k5:Kp Ab w w5:=by rw[hw5];exact (((((Kr _ w).alloc _).alloc _).alloc _).alloc _).alloc _
  have z5:Sl (w5.heap.size=w.heap.size+1+1+1+1+1):=⟨by rw[hw5];simp⟩
  have g0:w5.heap[w.heap.size]?=some (.cells #[.pointer (some ⟨P.s,0,none⟩)] 27 (0,0)):=by
    rw[hw5];exact ((((Kr Ab _).alloc _).alloc _).alloc _ |>.alloc _).at_ (wN w _) (λ h=>h)
  have g1:w5.heap[w.heap.size+1]?=some (.cells #[.int .i64 (j:Nat)] 3 (0,0)):=by
    rw[hw5];exact (((Kr Ab _).alloc _).alloc _ |>.alloc _).at_ (Bc _ _ (by simp)) (λ h=>h)
  have g2:w5.heap[w.heap.size+1+1]?=some (.cells #[.int .i64 (i:Nat)] 3 (0,0)):=by
    rw[hw5];exact ((Kr Ab _).alloc _ |>.alloc _).at_ (Bc _ _ (by simp)) (λ h=>h)
  have g3:w5.heap[w.heap.size+1+1+1]?=some (.cells #[.int .i64 (l:Nat)] 3 (0,0)):=by
    rw[hw5];exact ((Kr Ab _).alloc _).at_ (Bc _ _ (by simp)) (λ h=>h)
  have g4:w5.heap[w.heap.size+1+1+1+1]?=some (.cells #[.int .i64 0] 37 (0,0)):=by
    rw[hw5];exact Bc _ _ (by simp)
  have S5:=hs.Ad k5
  have HB:=sE (And.intro g0 (And.intro g1 (And.intro g2 (And.intro g3 g4))))
  have c0:=cell_of_one g0
  have c1:=cell_of_one g1
  have c2:=cell_of_one g2
  have c3:=cell_of_one g3
  have c4:=cell_of_one g4
  have f4:=free_of_one g4
  obtain⟨s0,s1,s2⟩:=S5.head
  have HS5:=sE S5
  have lts:=hs.lt P.s (by simp[Sp.all])
  clear hs hc hst S5 g0 g1 g2 g3 g4
  refine(callsIn_wide (n:=0)).1 ?_
  refine callsIn_of_wp_marks func83 rfl trivial ?_
  simp only[ntmps83,List.size_toArray,List.length_cons,List.length_nil,Nat.reduceAdd,Nat.reduceSub,Array.replicate_succ,Array.replicate_zero,List.push_toArray,List.append_toArray,List.nil_append,List.cons_append]
  gi_wp2_with fail
  try rw[<- hw5]
  clear hw5
  gi_wp2_with fail
  refine wpIn_wide.2 ?_
  go_region_held3 (λ w'=>w'.cell? ⟨w.heap.size,0,none⟩=some (.pointer (some ⟨P.s,0,none⟩))/\w'.cell? ⟨w.heap.size+1+1,0,none⟩=some (.int .i64 (i:Nat))/\w'.cell? ⟨w.heap.size+1+1+1,0,none⟩=some (.int .i64 (l:Nat))/\w'.cell? ⟨P.s,1,none⟩=some (.pointer (some ⟨P.t,0,none⟩)))
    (exact ⟨Be KU c0,Be KU c2,Be KU c3,Be KU s1⟩)
    (first
      | (go_at_call 102;with_reducible refine(HO.out w5.drew W f (HS5.out.Ad (Kr Ab _).drew)).mono ?_;rintro e w6 ⟨rfl,k6⟩
         have KK:Kp Ab w5 w6:=(Kr Ab w5).drew.then' k6
         have KS:=KK.size)
      | (go_at_call 102;with_reducible refine(HO.out (w5.alloc (.cells #[.int .u8 0,.int .i64 0,.int .i64 0,.int .i64 0] 52)).drew W f (HS5.out.Ad ((Kr Ab _).alloc _).drew)).mono ?_;rintro e w6 ⟨rfl,k6⟩
         have KK:Kp Ab w5 w6:=((Kr Ab w5).alloc _).drew.then' k6
         have KS:=KK.size
         have B6:=k6.at_ (show (w5.alloc (.cells #[.int .u8 0,.int .i64 0,.int .i64 0,.int .i64 0] 52)).drew.heap[w5.heap.size]?=_ from wN w5 _) (λ h=>h)
         have fb0:=Ae B6 0
         have fb1:=Ae B6 1
         have fb2:=Ae B6 2
         have fb3:=Ae B6 3
         have db0:w6.cell? ⟨w5.heap.size,0,none⟩=some (.int .u8 0):=by simp[World.cell?,B6]
         have db1:w6.cell? ⟨w5.heap.size,1,none⟩=some (.int .i64 0):=by simp[World.cell?,B6]
         have db2:w6.cell? ⟨w5.heap.size,2,none⟩=some (.int .i64 0):=by simp[World.cell?,B6]
         have db3:w6.cell? ⟨w5.heap.size,3,none⟩=some (.int .i64 0):=by simp[World.cell?,B6]
         have HB6:=sE B6
         clear B6))
  all_goals
    first
      | (generalize hwz:World.setCell _ _ _=wz
         have kz:Kp Ab w5 wz:=by rw[<- hwz];(repeat (first|assumption|exact Kr _ _|refine Kp.drew ?_|refine Kp.alloc ?_ _|refine Kp.Az ?_ (by omega) _))
         have bz:wz.heap[w5.heap.size]?=some (.cells #[.int .u8 1,.int .i64 (i:Nat),.int .i64 (l:Nat),.int .i64 (S:Nat)] 52 (0,0)):=by
           rw[<- hwz];exact bZ (bZ (bZ (bZ HB6.out (j:=0) _) (j:=1) _) (j:=2) _) (j:=3) _
         have lb9:w5.heap.size<wz.heap.size:=lZ bz
         have lb9':w5.heap.size<=w5.heap.size:=Nat.le_refl _
         generalize hb9:w5.heap.size=b9 at bz lb9 lb9' ⊢
         replace lb9':w5.heap.size<=b9:=by omega
         clear hwz)
      | (generalize hwz:World.alloc _ _=wz
         have kz:Kp Ab w5 wz:=by rw[<- hwz];(repeat (first|assumption|exact Kr _ _|refine Kp.drew ?_|refine Kp.alloc ?_ _|refine Kp.Az ?_ (by omega) _))
         have bz:wz.heap[w6.heap.size]?=some (.cells #[.int .u8 1,.int .i64 (i:Nat),.int .i64 (l:Nat),.int .i64 (S:Nat)] 52 (0,0)):=by
           rw[<- hwz];exact wN w6 _
         have lb9:w6.heap.size<wz.heap.size:=lZ bz
         have lb9':w5.heap.size<=w6.heap.size:=KS
         generalize hb9:w6.heap.size=b9 at bz lb9 lb9' ⊢
         clear hwz)
    clear hb9
    replace c0:=kz.cell c0 (λ h=>h)
    replace c1:=kz.cell c1 (λ h=>h)
    replace c4:=kz.cell c4 (λ h=>h)
    have f4:=free_of_one (kz.at_ HB.out.2.2.2.2 (λ h=>h))
    have SZ:=HS5.out.Ad kz
    have HSZ:=sE SZ
    clear SZ
    gi_wp2_with fail
    have hd0:decide ((j:Int)<0)=false:=dF (by omega)
    have hd1:decide ((H:Int)<=(j:Int))=false:=dF (by omega)
    refine wpIn_wide.2 ?_
    go_quiet (first|(go_at_call 42;with_reducible refine Calls.quiet_of_same (HG.out _ W f ?_);(first|exact HSZ.out|exact HSZ.out.Ad (Kr Ab _).drew|exact HSZ.out.Ad (Kp.Aj _)|exact HSZ.out.Ad ((Kp.Aj _).drewN _))))
    obtain⟨wq,hwq⟩:∃ wq,wq=wz.drewN nq:=⟨_,rfl⟩
    rw[<- hwq]
    have kq:Kp Ab wz wq:=by rw[hwq];exact Kp.Aj _
    clear hwq hd0 hd1
    have K0:Kp Ab w wq:=(k5.then' kz).then' kq
    have bq9:=kq.at_ bz (λ h=>h)
    have lbq:b9<wq.heap.size:=lZ bq9
    replace c0:=kq.cell c0 (λ h=>h)
    obtain⟨hz5⟩:=z5
    gi_wp2_with fail
    refine⟨trivial,rfl,?_⟩
    refine(callsIn_wide.2 (cells_fn P wq)).mono ?_
    rintro e wl ⟨rfl,hwl⟩
    have hzl:wl.heap.size=wq.heap.size+1:=by rw[<- hwl];simp
    have kl:Kp Ab wq wl:=by rw[<- hwl];exact (Kr _ wq).alloc _
    have gbx:wl.heap[wq.heap.size]?=some (.cells #[.pointer (some ⟨P.s,0,none⟩)] 27 (0,0)):=by rw[<- hwl];exact wN wq _
    clear hwl
    have KL:Kp Ab w wl:=K0.then' kl
    have K5L:Kp Ab w5 wl:=(kz.then' kq).then' kl
    have SL:=HSs.out.Ad KL
    have hsz:=KL.size
    have bl9:=kl.at_ bq9 (λ h=>h)
    have r0:=K5L.at_ HB.out.1 (λ h=>h)
    have r1:=K5L.at_ HB.out.2.1 (λ h=>h)
    have r2:=K5L.at_ HB.out.2.2.1 (λ h=>h)
    have r3:=K5L.at_ HB.out.2.2.2.1 (λ h=>h)
    have r4:=K5L.at_ HB.out.2.2.2.2 (λ h=>h)
    have l4:=lZ r4
    have HRL:=sE (And.intro r0 (And.intro r1 (And.intro r2 (And.intro r3 (And.intro r4 bl9)))))
    have HSL:=sE SL
    have lall:=SL.lt
    have lw:∀ k,P.all k->k<w.heap.size:=HSs.out.lt
    have lown:∀ k,P.own k->P.all k:=λ k hk=>by simp only[Sp.own] at hk;simp only[Sp.all];omega
    clear r0 r1 r2 r3 r4 c0 c1 c4 f4 HSZ
    gi_wp2_with fail
    refine wpIn_range2 (n:=0) (gf:=118) (lb:=#[.pointer (some ⟨wq.heap.size,0,none⟩)]) rfl (enters_of func118 (by kernel_rfl) rfl)
      (cells_iter P W f cs wl wq.heap.size SL HCs.out gbx (R:=Ab) (X:=λ k=>P.own k\/k=w.heap.size+1+1+1+1) (λ k hk=>hk.elim)) (λ k hk=>hk.elim) (λ k hk=>hk.elim)
      (λ k hk=>by rcases hk with hk|hk;exact lall k (lown k hk);omega) (λ k hk=>hk.elim) (λ _=>rfl)
      (λ pre W'=>Kp Ab wl W'/\∀ d∈pre,d.fin<=j) (λ c pre W'=>PutIx P cs W (j:Nat) (i:Nat) (l:Nat) wl (w.heap.size+1+1+1+1) c W') ?hI ?hIx ?h0 ?hround ?hdone ?hstop
    case hI=>
      rintro pre A B ⟨a1,a2⟩ hk
      exact⟨a1.trans hk (λ b hb h=>by rcases h with h|h|h;exact h;omega;omega),a2⟩
    case hIx=>
      rintro c pre A B ⟨a1,a2,a3,a4⟩ hk
      have hks:∀ b,P.all b->¬ ((Ab b)\/b=wl.heap.size\/b=wl.heap.size+1):=λ b hb h=>by have:=lall b hb;rcases h with h|h|h;exact h;omega;omega
      refine⟨a1,hk.at_ a2 (λ h=>by rcases h with h|h|h;exact h;omega;omega),a3.trans hk (λ b hb h=>by rcases h with h|h|h;exact h.elim;omega;omega),?_⟩
      rcases a4 with ⟨a5,a6⟩|⟨a5,p,d,q,j',i',l',S',b1,b2,b3,b4,b5,b6,b7,b8,b9,a6⟩
      . exact .inl ⟨a5,a6.keep hk hks⟩
      . exact .inr ⟨a5,p,d,q,j',i',l',S',b1,b2,b3,b4,b5,b6,b7,b8,b9,a6.keep hk hks⟩
    case h0=>exact ⟨Kr _ _,λ d hd=>by cases hd⟩
    case hround=>
      rintro pre x rest W' hx ⟨hK,hfin⟩ hs
      obtain⟨x1,x2,x3⟩:=HCell.out W pre x rest HCs.out hx hfin
      have hxf:x.fin=x.g+x.sz:=rfl
      have HX:=sE hx
      clear hx
      rw[HH.out] at x2
      unfold cellV
      gi_wp2_with fail
      refine⟨(Kr _ W').alloc _,?_⟩
      intro W2 hc2 hf2 hk2 hs2 hr2
      have kW:Kp Ab W' (W'.alloc (.cells #[.int .i64 (x.g:Nat),.int .u8 (x.tag:Nat),.int .i64 (x.ty:Nat),.int .i64 (x.ln:Nat),.int .i64 (x.sz:Nat)] 71)):=(Kr _ W').alloc _
      have bc:=hk2.at_ (wN W' (.cells #[.int .i64 (x.g:Nat),.int .u8 (x.tag:Nat),.int .i64 (x.ty:Nat),.int .i64 (x.ln:Nat),.int .i64 (x.sz:Nat)] 71)) (by omega)
      have hzW:=hK.size
      have N2:Kp Ab wl W2:=((hK.then' kW).Ak (λ k=>k=wl.heap.size+1)).trans hk2 (λ _ _ h=>h) |>.mono (λ b hb h=>by omega)
      have r0:=cell_of_one (N2.at_ HRL.out.1 (λ h=>h))
      have r1:=cell_of_one (N2.at_ HRL.out.2.1 (λ h=>h))
      have r2:=cell_of_one (N2.at_ HRL.out.2.2.1 (λ h=>h))
      have r3:=cell_of_one (N2.at_ HRL.out.2.2.2.1 (λ h=>h))
      have B4:=N2.at_ HRL.out.2.2.2.2.1 (λ h=>h)
      have r4:=cell_of_one B4
      have f4:=free_of_one B4
      have HB4:=sE B4
      have B9:=N2.at_ HRL.out.2.2.2.2.2 (λ h=>h)
      have e9:W2.cell? ⟨b9,3,none⟩=some (.int .i64 (S:Nat)):=by simp[World.cell?,B9]
      have d0:W2.cell? ⟨W'.heap.size,0,none⟩=some (.int .i64 (x.g:Nat)):=by simp[World.cell?,bc]
      have d1:W2.cell? ⟨W'.heap.size,1,none⟩=some (.int .u8 (x.tag:Nat)):=by simp[World.cell?,bc]
      have d4:W2.cell? ⟨W'.heap.size,4,none⟩=some (.int .i64 (x.sz:Nat)):=by simp[World.cell?,bc]
      have S2:=HSL.out.Ad N2
      obtain⟨s0,s1,s2⟩:=S2.head
      have HS2:=sE S2
      have HBc:=sE bc
      have HB9:=sE B9
      clear B4 B9 S2 bc hc2 hf2
      by_cases hcase:x.fin<=j
      . have q1:(x.g:Int)+(x.sz:Int)<=(j:Int):=by omega
        gi_wp2_with fail
        exact⟨Kr _ _,N2,λ d hd=>by
          rcases List.mem_append.1 hd with hd|hd
          . exact hfin d hd
          . rw[List.mem_singleton.1 hd];exact hcase⟩
      . have q1:¬ (x.g:Int)+(x.sz:Int)<=(j:Int):=by omega
        have hRv:=hR.out pre x rest HX.out hfin (by omega)
        have K3:∀ v,Kp (λ k=>P.own k\/k=w.heap.size+1+1+1+1) W2 (W2.setCell ⟨w.heap.size+1+1+1+1,0,none⟩ v):=λ v=>(Kr (λ k=>P.own k\/k=w.heap.size+1+1+1+1) W2).setCell (λ _=>.inr rfl) v
        by_cases ht:x.tag=1
        . rw[if_pos (.inl ht)] at hRv
          have t1:((x.tag:Int)==1)=true:=by simp;omega
          have HRv:=sE hRv
          clear hRv
          gi_wp2_with fail
          refine⟨K3 _,rfl,?_,(N2.Ak _).trans (K3 _) (λ _ _ h=>h),.inl ⟨by rw[HRv.out];omega,?_⟩⟩
          . rw[HRv.out];exact one_setCell (u:=.int .i64 3) HB4.out
          . exact Aw.keep ⟨f,HS2.out,HCs.out,HSt.out⟩ ((Kr (λ k=>k=w.heap.size+1+1+1+1) W2).setCell (λ _=>rfl) _) (λ b hb h=>by have:=lw b hb;omega)
        . have t1:((x.tag:Int)==1)=false:=by simp;omega
          by_cases hbig:(x.fin:Int)-(j:Nat)<(S:Nat)
          . rw[if_pos (.inr hbig)] at hRv
            have HRv:=sE hRv
            have q2:decide ((x.g:Int)+(x.sz:Int)-(j:Int)<(S:Int))=true:=dT (by omega)
            clear hRv
            gi_wp2_with fail
            refine⟨K3 _,rfl,?_,(N2.Ak _).trans (K3 _) (λ _ _ h=>h),.inl ⟨by rw[HRv.out];omega,?_⟩⟩
            . rw[HRv.out];exact one_setCell (u:=.int .i64 3) HB4.out
            . exact Aw.keep ⟨f,HS2.out,HCs.out,HSt.out⟩ ((Kr (λ k=>k=w.heap.size+1+1+1+1) W2).setCell (λ _=>rfl) _) (λ b hb h=>by have:=lw b hb;omega)
          . rw[if_neg (by omega)] at hRv
            have HRv:=sE hRv
            have q2:decide ((x.g:Int)+(x.sz:Int)-(j:Int)<(S:Int))=false:=dF (by omega)
            clear hRv
            obtain⟨z1,z2,z3⟩:=HSz.out
            have hgs:j+S<=P.n/2:=by rw[HH.out];omega
            have HMk:Sl (∀ k,Calls prog 127 #[.pointer (some ⟨P.a,0,none⟩),.pointer (some ⟨P.t,0,none⟩),.int .i64 (j:Nat),.int .i64 (i:Nat),.int .i64 (l:Nat)] (W2.drewN k) (Stored (W2.drewN k) P.a P.q P.n (makeW W j i l S))):=
              ⟨λ k=>by
                have hk:=HS2.out.Ad (Kp.Aj k)
                exact Make_yes j i l S P.a P.q P.n P.t P.tq W P.ts _ hk.fl hk.ar hk.tb z2 z1 z3.1 hgs hS0⟩
            have PH2:PutHeld P w.heap.size j S b9 W'.heap.size i l x W2:=⟨N2.at_ HRL.out.1 (λ h=>h),N2.at_ HRL.out.2.1 (λ h=>h),HB4.out,HB9.out,HBc.out⟩
            have HPH:=sE PH2
            have lb9z:w.heap.size<=b9:=by omega
            have lbcz:w.heap.size<=W'.heap.size:=by omega
            have la:=lw P.a (by simp[Sp.all])
            have lq:=lw P.q (by simp[Sp.all])
            have lbq:=lw P.bq (by simp[Sp.all])
            clear PH2 z1 z2 z3 hgs
            gi_wp2_with fail
            refine Bj 11 (by kernel_rfl) (by kernel_rfl) (by kernel_rfl) (λ _ _ h=>h) ?_
            simp only[List.take_succ_cons,List.take_zero,List.drop_succ_cons,List.drop_zero]
            repeat (go_big_quiet_step (fail))
            refine wpQuiet_nil ?_
            intro _ hw'
            obtain⟨nq,hw''⟩:=hw'
            subst hw''
            go_wp2_with fail
            refine(HMk.out nq).mono ?_
            rintro e w3 ⟨rfl,k3,A3⟩
            have KD:Kp Ab W2 (W2.drewN nq):=Kp.Aj _
            have S3:=(HS2.out.Ad KD).words k3 A3
            have PH3:=(HPH.out.keep KD (λ b hb=>hb.elim) lb9z lbcz).keep k3 (λ b hb=>by omega) lb9z lbcz
            have KO3:Kp P.own W2 w3:=(KD.Ak P.own).trans k3 (λ b hb h=>by rcases h with h|h;exact .inl h;exact .inr (.inl h))
            clear A3 KD k3 r0 r1 r4 f4 e9 d0 d1 d4 s0 s1 s2
            obtain⟨v0,v1,v2,v3,v4,v5⟩:=PH3.cells
            obtain⟨s0,s1,s2⟩:=S3.head
            have HS3:=sE S3
            have HPH3:=sE PH3
            clear S3 PH3 HMk
            go_wp2
            gi_wp2_with fail
            refine Bj 5 (by kernel_rfl) (by kernel_rfl) (by kernel_rfl) (λ _ _ h=>h) ?_
            simp only[List.take_succ_cons,List.take_zero,List.drop_succ_cons,List.drop_zero]
            repeat (go_big_quiet_step (fail))
            refine wpQuiet_nil ?_
            intro _ hw'
            obtain⟨nq,hw''⟩:=hw'
            subst hw''
            obtain⟨w4,hw4⟩:∃ w4,w4=w3.drewN nq:=⟨_,rfl⟩
            rw[<- hw4]
            have k4:Kp Ab w3 w4:=by rw[hw4];exact Kp.Aj _
            clear hw4
            have S4:=HS3.out.Ad k4
            have PH4:=HPH3.out.keep k4 (λ b hb=>hb.elim) lb9z lbcz
            have KO4:=KO3.trans k4 (λ b hb h=>h.elim)
            obtain⟨s0,s1,s2⟩:=S4.head
            have HSet:=sE (Set_int (j:Nat) (P.n/2) P.b P.bq f w4 S4.bt)
            have HS4:=sE S4
            have HPH4:=sE PH4
            clear S4 PH4 HS3 HPH3 v0 v1 v2 v3 v4 v5
            go_wp2_with fail
            refine HSet.out.mono ?_
            rintro e w5' ⟨rfl,k5',B5'⟩
            have S5':=HS4.out.bits k5' B5'
            have PH5:=HPH4.out.keep k5' (λ b hb=>by omega) lb9z lbcz
            have KO5:=KO4.trans k5' (λ b hb h=>.inr (.inr h))
            obtain⟨v0,v1,v2,v3,v4,v5⟩:=PH5.cells
            have HM1:Sl ((j:Int)-(x.g:Int)=((j-x.g:Nat):Int)):=⟨by omega⟩
            have HM2:Sl ((j:Int)+(S:Int)=((j+S:Nat):Int)):=⟨by omega⟩
            have HM3:Sl ((x.g:Int)+(x.sz:Int)-(j:Int)-(S:Int)=((x.fin-j-S:Nat):Int)):=⟨by omega⟩
            have HG1:=sE (gap_any x.g (j-x.g) P _ _ w5' S5' (by rw[HH.out];omega))
            have HPH5:=sE PH5
            clear S5' PH5 HS4 HPH4 HSet B5' s0 s1 s2
            go_wp2
            gi_wp2_with fail
            refine⟨trivial,rfl,?_⟩
            rw[HM1.out]
            refine(Ca HG1.out).mono ?_
            rintro e w6' ⟨rfl,k6',S6'⟩
            have PH6:=HPH5.out.keep k6' (λ b hb=>by omega) lb9z lbcz
            have KO6:=KO5.trans k6' (λ b hb h=>by rcases h with h|h;exact .inl h;exact .inr (.inl h))
            clear v0 v1 v2 v3 v4 v5
            obtain⟨v0,v1,v2,v3,v4,v5⟩:=PH6.cells
            have HG2:=sE (gap_any (j+S) (x.fin-j-S) P _ _ w6' S6' (by rw[HH.out];omega))
            have HPH6:=sE PH6
            clear PH6 HPH5 HG1 S6'
            gi_wp2_with fail
            refine⟨trivial,rfl,?_⟩
            rw[HM2.out,HM3.out]
            refine(Ca HG2.out).mono ?_
            rintro e w7 ⟨rfl,k7,S7⟩
            have PH7:=HPH6.out.keep k7 (λ b hb=>by omega) lb9z lbcz
            have KO7:=KO6.trans k7 (λ b hb h=>by rcases h with h|h;exact .inl h;exact .inr (.inl h))
            clear v0 v1 v2 v3 v4 v5
            obtain⟨v0,v1,v2,v3,v4,v5⟩:=PH7.cells
            have HS7:=sE S7
            have HPH7:=sE PH7
            clear PH7 HPH6 HG2 S7
            gi_wp2_with fail
            have hcs7:CellsAt P (putW W x j i l S) (putL pre x rest j i l S):=by
              have h7:=HCs.out
              rw[HX.out] at h7
              exact put_cells HSs.out.ar.small h7 x1 (by omega) hS0 (HSz.out.2.2.move j)
            have hst7:∀ b,b<P.n/2->E8 f (P.n/2) (j:Nat) 1 true b=Aq (putL pre x rest j i l S) b:=by
              have h8:=HSt.out
              rw[HX.out] at h8
              exact put_starts (P:=P) (W:=W) h8 ht (by rw[HH.out];omega)
            have kz7:Kp (λ k=>k=w.heap.size+1+1+1+1) w7 (w7.setCell ⟨w.heap.size+1+1+1+1,0,none⟩ (.int .i64 0)):=(Kr (λ k=>k=w.heap.size+1+1+1+1) w7).setCell (λ _=>rfl) _
            have KX:Kp (λ k=>P.own k\/k=w.heap.size+1+1+1+1) W2 (w7.setCell ⟨w.heap.size+1+1+1+1,0,none⟩ (.int .i64 0)):=(KO7.mono (λ _ _ h=>.inl h)).trans kz7 (λ _ _ h=>.inr h)
            refine⟨KX,rfl,?_,(N2.Ak _).trans KX (λ _ _ h=>h),.inr ⟨HRv.out,pre,x,rest,j,i,l,S,HX.out,ht,rfl,rfl,rfl,HSz.out.1,x1,by omega,hS0,?_⟩⟩
            . rw[HRv.out];exact one_setCell (u:=.int .i64 0) HPH7.out.h4
            . refine Aw.keep ⟨_,HS7.out,hcs7,hst7⟩ kz7 (λ b hb h=>by have:=lw b hb;omega)
    case hdone=>
      rintro W' ⟨a1,a2⟩ hs hD
      exact absurd (a2 c0' hm0) (by omega)
    case hstop=>
      rintro c pre W' hp ⟨a1,a2,a3,a4⟩ hs hD
      subst a1
      gi_wp2_with fail
      refine⟨by simp,.inl ⟨_,_,rfl,run_takeDeferred hD,?_⟩⟩
      have kE:Kp (λ b=>b=wl.heap.size) W' (W'.putObj wl.heap.size (.deferred none)):=(Kr (λ b=>b=wl.heap.size) W').putObj (λ _=>rfl) _
      have e4:=cell_of_one (kE.at_ a2 (by omega))
      have hks:∀ b,P.all b->¬ b=wl.heap.size:=λ b hb h=>by have:=lall b hb;omega
      refine⟨.int .i64 (DX P.ts (P.n/2) cs (j:Nat) (i:Nat) (l:Nat)),by simp[results,results83,go_sem,e4],rfl,((KL.Ak P.own).trans a3 (λ b hb h=>by rcases h with h|h;exact h;omega)).trans kE (λ b hb h=>by omega),?_⟩
      rcases a4 with ⟨a5,a6⟩|⟨a5,p,d,q,j',i',l',S',b1,b2,b3,b4,b5,b6,b7,b8,b9,a6⟩
      . exact .inl ⟨a5,a6.keep kE hks⟩
      . exact .inr ⟨a5,p,d,q,j',i',l',S',b1,b2,b3,b4,b5,b6,b7,b8,b9,a6.keep kE hks⟩

end

section
open Go.RowKit

theorem Put_anyW(g id n:Int)(P:Sp)(cs:List Cel)(w:World)(W:Nat->Nat)(h:Aw w P W cs):
    Calls prog 83 #[.pointer (some ⟨P.s,0,none⟩),.int .i64 g,.int .i64 id,.int .i64 n] w (PutPostW P cs W g id n w):=by
  by_cases he:AY P.ts id n=0
  . have few:P.ts.length<=64:=by obtain⟨_,hs,_⟩:=h;exact hs.tb.few
    obtain⟨i,l,S,rfl,rfl,hS,h0,h1,hok⟩:=obj_ok few he
    by_cases ho:g<0\/((P.n/2:Nat):Int)<=g
    . exact Put_out g i l S P cs w W h he hS ho
    . obtain⟨j,rfl⟩:=Int.eq_ofNat_of_zero_le (show 0<=g by omega)
      exact Put_in j i l S P cs w W h he hS h0 hok (by omega)
  . exact Put_err g id n P cs w W h he

def growX(c:Cel)(g x:Nat)(over:Bool):Nat:=if c.tag=1/\¬ c.g=g/\over=false then c.fin else x
def growY(c:Cel)(g y:Nat):Nat:=if c.tag=1/\¬ c.g=g then y else c.fin

def GrowPost(c:Cel)(fb tb g x y:Nat)(over:Bool)(w:World)(e:Ending)(w':World):Prop:=
  e=.returned (.tuple #[])/\Kp (λ b=>b=fb\/b=tb) w w'/\w'.heap[fb]?=some (.cells #[.int .i64 (growX c g x over:Nat)] 3 (0,0))/\w'.heap[tb]?=some (.cells #[.int .i64 (growY c g y:Nat)] 3 (0,0))

theorem Grow_at(c:Cel)(gb ob fb tb g x y:Nat)(over:Bool)(w:World)(hfin:c.g+c.sz<=65536)(hft:¬ fb=tb)
    (h0:w.heap[gb]?=some (.cells #[.int .i64 (g:Nat)] 3 (0,0))) (h1:w.heap[ob]?=some (.cells #[.bool over] 4 (0,0)))
    (h2:w.heap[fb]?=some (.cells #[.int .i64 (x:Nat)] 3 (0,0))) (h3:w.heap[tb]?=some (.cells #[.int .i64 (y:Nat)] 3 (0,0))):
    Calls prog 131 #[.agg #[.int .i64 (c.g:Nat),.int .u8 (c.tag:Nat),.int .i64 (c.ty:Nat),.int .i64 (c.ln:Nat),.int .i64 (c.sz:Nat)],.pointer (some ⟨gb,0,none⟩),.pointer (some ⟨ob,0,none⟩),.pointer (some ⟨fb,0,none⟩),.pointer (some ⟨tb,0,none⟩)] w (GrowPost c fb tb g x y over w):=by
  have k5:Kp Ab w (w.alloc (.cells #[.int .i64 (c.g:Nat),.int .u8 (c.tag:Nat),.int .i64 (c.ty:Nat),.int .i64 (c.ln:Nat),.int .i64 (c.sz:Nat)] 71)):=(Kr _ w).alloc _
  have g0:=cell_of_one h0
  have g1:=cell_of_one h1
  have g2:=cell_of_one h2
  have g3:=cell_of_one h3
  have f2:=free_of_one h2
  have f3:=free_of_one h3
  have l0:=lZ h0
  have l1:=lZ h1
  have l2:=lZ h2
  have l3:=lZ h3
  have hcf:c.fin=c.g+c.sz:=rfl
  have HK:=sE (k5.Ak (λ b=>b=fb\/b=tb))
  have HBB:=sE (And.intro h2 h3)
  have hft2:Sl (¬ fb=tb):=⟨hft⟩
  clear h0 h1 h2 h3 k5 hft
  by_cases ht:c.tag=1
  . have t1:((c.tag:Int)==1)=true:=by simp;omega
    by_cases hg:c.g=g
    . have t2:((c.g:Int) !=(g:Int))=false:=by simp;omega
      have e1:growX c g x over=x:=if_neg (λ h=>h.2.1 hg)
      have e2:growY c g y=c.fin:=if_neg (λ h=>h.2 hg)
      have HE:=sE (And.intro e1 e2)
      clear e1 e2 hg ht
      go_enter func131,ntmps131
      go_wp2_with fail
      go_end0
      refine⟨rfl,((Kr _ w).setCell (λ _=>.inr rfl) _).alloc _,?_,?_⟩
      . rw[HE.out.1];exact ((Kr Ab _).alloc _).at_ ((Below.heap_setCell _ _ _ _ (by have:=hft2.out;dsimp only;omega)).trans HBB.out.1) (λ h=>h)
      . rw[HE.out.2,hcf];exact ((Kr Ab _).alloc _).at_ (one_setCell HBB.out.2) (λ h=>h)
    . have t2:((c.g:Int) !=(g:Int))=true:=by simp;omega
      cases over with
      |true=>
        have e1:growX c g x true=x:=if_neg (λ h=>by cases h.2.2)
        have e2:growY c g y=y:=if_pos ⟨ht,hg⟩
        have HE:=sE (And.intro e1 e2)
        clear e1 e2 hg ht
        go_enter func131,ntmps131
        go_wp2_with fail
        go_end0
        refine⟨rfl,HK.out,?_,?_⟩
        . rw[HE.out.1];exact ((Kr Ab _).alloc _).at_ (HBB.out.1) (λ h=>h)
        . rw[HE.out.2];exact ((Kr Ab _).alloc _).at_ (HBB.out.2) (λ h=>h)
      |false=>
        have e1:growX c g x false=c.fin:=if_pos ⟨ht,hg,rfl⟩
        have e2:growY c g y=y:=if_pos ⟨ht,hg⟩
        have HE:=sE (And.intro e1 e2)
        clear e1 e2 hg ht
        go_enter func131,ntmps131
        go_wp2_with fail
        go_end0
        refine⟨rfl,((Kr _ w).setCell (λ _=>.inl rfl) _).alloc _,?_,?_⟩
        . rw[HE.out.1,hcf];exact ((Kr Ab _).alloc _).at_ (one_setCell HBB.out.1) (λ h=>h)
        . rw[HE.out.2];exact ((Kr Ab _).alloc _).at_ ((Below.heap_setCell _ _ _ _ (by have:=hft2.out;dsimp only;omega)).trans HBB.out.2) (λ h=>h)
  . have t1:((c.tag:Int)==1)=false:=by simp;omega
    have e1:growX c g x over=x:=if_neg (λ h=>ht h.1)
    have e2:growY c g y=c.fin:=if_neg (λ h=>ht h.1)
    have HE:=sE (And.intro e1 e2)
    clear e1 e2 ht
    go_enter func131,ntmps131
    go_wp2_with fail
    go_end0
    refine⟨rfl,((Kr _ w).setCell (λ _=>.inr rfl) _).alloc _,?_,?_⟩
    . rw[HE.out.1];exact ((Kr Ab _).alloc _).at_ ((Below.heap_setCell _ _ _ _ (by have:=hft2.out;dsimp only;omega)).trans HBB.out.1) (λ h=>h)
    . rw[HE.out.2,hcf];exact ((Kr Ab _).alloc _).at_ (one_setCell HBB.out.2) (λ h=>h)

attribute [local go_sem] Oper.semAt_some

def DropPostW(P:Sp)(cs:List Cel)(W:Nat->Nat)(g:Int)(w:World)(e:Ending)(w':World):Prop:=
  (e=.returned (.int .i64 3)/\(∀ j:Nat,g=(j:Nat)->Aq cs j=false)/\Kp Ab w w')\/
  (e=.returned (.int .i64 0)/\Kp P.own w w'/\∃ (j:Nat) (p1 g1:List Cel) (c:Cel) (g2 p2:List Cel) (x y:Nat),g=(j:Nat)/\Dj cs j p1 g1 c g2 p2 x y/\Aw w' P (AZ W x (y-x)) (dropL p1 p2 x y))

set_option maxRecDepth 20000 in
theorem Drop_no(g:Int)(P:Sp)(cs:List Cel)(w:World)(W:Nat->Nat)(h:Aw w P W cs)(hno:∀ j:Nat,g=(j:Nat)->Aq cs j=false):
    Calls prog 85 #[.pointer (some ⟨P.s,0,none⟩),.int .i64 g] w (DropPostW P cs W g w):=by
  obtain⟨f,hs,hc,hst⟩:=h
  have hI:hasI f (P.n/2) g=false:=by
    simp only[hasI]
    by_cases hb:0<=g/\g<(P.n/2:Nat)
    . obtain⟨j,rfl⟩:=Int.eq_ofNat_of_zero_le hb.1
      have h1:=hno j rfl
      have h2:=hst j (by omega)
      rw[h1] at h2
      simp[h2]
    . rw[dF hb];rfl
  have HNO:=sE hno
  clear hno
  have k5:Kp Ab w (w.alloc (.cells #[.int .i64 g] 3)):=(Kr _ w).alloc _
  have b5:=wN w (.cells #[.int .i64 g] 3)
  obtain⟨w5,hw5⟩:∃ w5,w5=w.alloc (.cells #[.int .i64 g] 3):=⟨_,rfl⟩
  rw[<- hw5] at k5 b5
  have S5:=hs.Ad k5
  have HH:Sl (∀ w',Kp Ab w5 w'->Calls prog 58 #[.pointer (some ⟨P.b,0,none⟩),.int .i64 g] w' λ e w''=>e=.returned (.bool false)/\Kp Ab w' w''):=
    ⟨λ w' hk=>by have:=Has_int g (P.n/2) P.b P.bq f w' (S5.Ad hk).bt;rw [hI] at this;exact this⟩
  have c0:=cell_of_one b5
  obtain⟨s0,s1,s2⟩:=S5.head
  have lts:=hs.lt P.s (by simp[Sp.all])
  have HK5:=sE k5
  clear hs hc hst S5 hI b5 k5
  refine(callsIn_wide (n:=0)).1 ?_
  refine callsIn_of_wp_marks func85 rfl trivial ?_
  simp only[ntmps85,List.size_toArray,List.length_cons,List.length_nil,Nat.reduceAdd,Nat.reduceSub,Array.replicate_succ,Array.replicate_zero,List.push_toArray,List.append_toArray,List.nil_append,List.cons_append]
  gi_wp2_with fail
  try rw[<- hw5]
  clear hw5
  gi_wp2_with fail
  refine wpIn_wide.2 ?_
  go_region_held3 (λ w'=>w'.cell? ⟨w.heap.size,0,none⟩=some (.int .i64 g)/\w'.cell? ⟨P.s,2,none⟩=some (.pointer (some ⟨P.b,0,none⟩)))
    (exact ⟨Be KU c0,Be KU s2⟩)
    (first | (go_at_call 58;with_reducible refine(HH.out _ KU).mono ?_;rintro e w6 ⟨rfl,k6⟩
              have KK:Kp Ab w5 w6:=(Kr Ab w5).drew.then' k6))
  have kw:Kp Ab w w6:=HK5.out.then' KK
  gi_wp2_with fail
  refine⟨.int .i64 3,by simp[results,results85,go_sem],.inl ⟨rfl,HNO.out,kw⟩⟩

structure DropHeld(m x y:Nat)(over:Bool)(wl W':World):Prop where
  h0:W'.heap[m]?=some (.cells #[.int .i64 (x:Nat)] 3 (0,0))
  h1:W'.heap[m+1]?=some (.cells #[.int .i64 (y:Nat)] 3 (0,0))
  h2:W'.heap[m+1+1]?=some (.cells #[.bool over] 4 (0,0))
  hk:Kp (λ k=>k=m\/k=m+1\/k=m+1+1) wl W'

def DropI(j m:Nat)(wl:World)(pre:List Cel)(W':World):Prop:=∃ x y over,DropHeld m x y over wl W'/\Ev j pre x y over

def DropIx(j m:Nat)(wl:World)(c:Code)(pre:List Cel)(W':World):Prop:=c=.exit 0/\∃ p d x y,pre=p++[d]/\d.tag=1/\DropHeld m x y true wl W'/\Ev j p x y true

theorem DropHeld.keep{S:Nat->Prop}{m x y:Nat}{over:Bool}{wl A B:World}(h:DropHeld m x y over wl A)(k:Kp S A B)(hm:m+1+1<wl.heap.size)(hs:∀ b,b<wl.heap.size->¬ S b):DropHeld m x y over wl B:=
  ⟨k.at_ h.h0 (hs _ (by omega)),k.at_ h.h1 (hs _ (by omega)),k.at_ h.h2 (hs _ (by omega)),h.hk.trans k (λ b hb hS=>absurd hS (hs b hb))⟩

set_option maxRecDepth 20000 in
theorem Drop_yes(j:Nat)(P:Sp)(cs:List Cel)(w:World)(W:Nat->Nat)(h:Aw w P W cs)(hyes:Aq cs j=true):
    Calls prog 85 #[.pointer (some ⟨P.s,0,none⟩),.int .i64 (j:Nat)] w (DropPostW P cs W (j:Nat) w):=by
  obtain⟨f,hs,hc,hst⟩:=h
  have hn:=hs.ar.small
  have hj:j<P.n/2:=by
    obtain⟨c,h1,h2,h3⟩:=Fq hyes
    have:=hc.tl.mem h1
    omega
  have hI:hasI f (P.n/2) (j:Nat)=true:=by
    simp only[hasI]
    rw[dT (show (0:Int)<=(j:Nat)/\((j:Nat):Int)<(P.n/2:Nat) by omega)]
    simp[hst j hj,hyes]
  have k5:Kp Ab w (w.alloc (.cells #[.int .i64 (j:Nat)] 3)):=(Kr _ w).alloc _
  have b5:=wN w (.cells #[.int .i64 (j:Nat)] 3)
  obtain⟨w5,hw5⟩:∃ w5,w5=w.alloc (.cells #[.int .i64 (j:Nat)] 3):=⟨_,rfl⟩
  rw[<- hw5] at k5 b5
  have S5:=hs.Ad k5
  have HH:Sl (∀ w',Kp Ab w5 w'->Calls prog 58 #[.pointer (some ⟨P.b,0,none⟩),.int .i64 (j:Nat)] w' λ e w''=>e=.returned (.bool true)/\Kp Ab w' w''):=
    ⟨λ w' hk=>by have:=Has_int (j:Nat) (P.n/2) P.b P.bq f w' (S5.Ad hk).bt;rw [hI] at this;exact this⟩
  have HCl:Sl (∀ w',Kp Ab w5 w'->Calls prog 130 #[.pointer (some ⟨P.b,0,none⟩),.int .i64 (j:Nat)] w' λ e w''=>e=.returned (.int .i64 0)/\Kp (λ b=>b=P.bq) w' w''/\AJ w'' P.b P.bq (E8 f (P.n/2) (j:Nat) 1 false) (P.n/2)):=
    ⟨λ w' hk=>by
      have:=Clear_int (j:Nat) (P.n/2) P.b P.bq f w' (S5.Ad hk).bt
      rw[show Bf (P.n/2) (j:Nat) 1=true by simp[Bf];omega] at this
      exact this⟩
  have c0:=cell_of_one b5
  obtain⟨s0,s1,s2⟩:=S5.head
  have lts:=hs.lt P.s (by simp[Sp.all])
  have HK5:=sE k5
  have HB5:=sE b5
  have HSs:=sE hs
  have HS5:=sE S5
  have HCs:=sE hc
  have HSt:=sE hst
  have HYes:=sE hyes
  have hc0:=sE hc.tl
  clear hs hc hst S5 hI b5 k5 hyes
  refine(callsIn_wide (n:=0)).1 ?_
  refine callsIn_of_wp_marks func85 rfl trivial ?_
  simp only[ntmps85,List.size_toArray,List.length_cons,List.length_nil,Nat.reduceAdd,Nat.reduceSub,Array.replicate_succ,Array.replicate_zero,List.push_toArray,List.append_toArray,List.nil_append,List.cons_append]
  gi_wp2_with fail
  try rw[<- hw5]
  clear hw5
  gi_wp2_with fail
  refine wpIn_wide.2 ?_
  go_region_held3 (λ w'=>w'.cell? ⟨w.heap.size,0,none⟩=some (.int .i64 (j:Nat))/\w'.cell? ⟨P.s,2,none⟩=some (.pointer (some ⟨P.b,0,none⟩)))
    (exact ⟨Be KU c0,Be KU s2⟩)
    (first | (go_at_call 58;with_reducible refine(HH.out _ KU).mono ?_;rintro e w6 ⟨rfl,k6⟩
              have KK:Kp Ab w5 w6:=(Kr Ab w5).drew.then' k6))
  replace c0:=KK.cell c0 (λ h=>h)
  replace s2:=KK.cell s2 (λ h=>h)
  gi_wp2_with fail
  refine wpIn_wide.2 ?_
  refine Co 5 (by kernel_rfl) (by kernel_rfl) ?_
  simp only[List.take_succ_cons,List.take_zero,List.drop_succ_cons,List.drop_zero]
  repeat (go_big_quiet_step (fail))
  refine wpQuiet_nil ?_
  intro _ hw'
  obtain⟨nq,hw''⟩:=hw'
  subst hw''
  have K6:Kp Ab w5 (w6.drewN nq):=KK.then' (Kp.Aj _)
  go_wp2_with fail
  refine(HCl.out _ K6).mono ?_
  rintro e w7 ⟨rfl,k7,B7⟩
  have S7:=(HS5.out.Ad K6).bits k7 B7
  have K7:Kp P.own w w7:=((HK5.out.then' K6).Ak P.own).trans k7 (λ b hb h=>.inr (.inr h))
  have z7:w.heap.size<w7.heap.size:=by
    have h1:=lZ HB5.out
    have h2:=K6.size
    have h3:=k7.size
    omega
  have hbq:¬ w.heap.size=P.bq:=by have:=HSs.out.lt P.bq (by simp[Sp.all]);omega
  have r7:=k7.at_ (K6.at_ HB5.out (λ h=>h)) hbq
  have HS7:=sE S7
  have HK7:=sE K7
  have HR7:=sE r7
  clear B7 S7 K7 c0 s0 s1 s2 HH HCl k6 r7
  go_wp2
  gi_wp2_with fail
  obtain⟨m,hm⟩:∃ m,w7.heap.size=m:=⟨_,rfl⟩
  obtain⟨w8,hw8⟩:∃ w8,w8=(((w7.alloc (.cells #[.int .i64 0] 3)).alloc (.cells #[.int .i64 0] 3)).alloc (.cells #[.bool false] 4)).alloc (.cells #[.func (.func 131) #[] #[.pointer (some ⟨w.heap.size,0,none⟩),.pointer (some ⟨m+1+1,0,none⟩),.pointer (some ⟨m,0,none⟩),.pointer (some ⟨m+1,0,none⟩)]] 219):=⟨_,rfl⟩
  rw[hm,<- hw8]
  have k8:Kp Ab w7 w8:=by rw[hw8];exact ((((Kr _ w7).alloc _).alloc _).alloc _).alloc _
  have z8:w8.heap.size=m+1+1+1+1:=by rw[hw8,<- hm];simp
  have q0:w8.heap[m]?=some (.cells #[.int .i64 0] 3 (0,0)):=by
    rw[hw8,<- hm];exact (((Kr Ab _).alloc _).alloc _ |>.alloc _).at_ (wN w7 _) (λ h=>h)
  have q1:w8.heap[m+1]?=some (.cells #[.int .i64 0] 3 (0,0)):=by
    rw[hw8,<- hm];exact ((Kr Ab _).alloc _ |>.alloc _).at_ (Bc _ _ (by simp)) (λ h=>h)
  have q2:w8.heap[m+1+1]?=some (.cells #[.bool false] 4 (0,0)):=by
    rw[hw8,<- hm];exact ((Kr Ab _).alloc _).at_ (Bc _ _ (by simp)) (λ h=>h)
  have q3:w8.heap[m+1+1+1]?=some (.cells #[.func (.func 131) #[] #[.pointer (some ⟨w.heap.size,0,none⟩),.pointer (some ⟨m+1+1,0,none⟩),.pointer (some ⟨m,0,none⟩),.pointer (some ⟨m+1,0,none⟩)]] 219 (0,0)):=by
    rw[hw8,<- hm];exact Bc _ _ (by simp)
  clear hw8
  refine⟨trivial,rfl,?_⟩
  refine(callsIn_wide.2 (cells_fn P w8)).mono ?_
  rintro e wl ⟨rfl,hwl⟩
  have hzl:wl.heap.size=w8.heap.size+1:=by rw[<- hwl];simp
  have kl:Kp Ab w8 wl:=by rw[<- hwl];exact (Kr _ w8).alloc _
  have gbx:wl.heap[w8.heap.size]?=some (.cells #[.pointer (some ⟨P.s,0,none⟩)] 27 (0,0)):=by rw[<- hwl];exact wN w8 _
  clear hwl
  rw[z8] at gbx hzl
  rw[z8]
  clear z8
  rw[hm] at z7
  have K7L:Kp Ab w7 wl:=k8.then' kl
  have SL:=HS7.out.Ad K7L
  have rg:=K7L.at_ HR7.out (λ h=>h)
  have rc:=kl.at_ q3 (λ h=>h)
  have HL0:=sE (DropHeld.mk (wl:=wl) (kl.at_ q0 (λ h=>h)) (kl.at_ q1 (λ h=>h)) (kl.at_ q2 (λ h=>h)) (Kr _ wl))
  have lw:∀ k,P.all k->k<w.heap.size:=HSs.out.lt
  have HRG:=sE (And.intro rg rc)
  have HSL:=sE SL
  have HKL:=sE (HK7.out.trans K7L (λ b hb h=>h.elim))
  clear q0 q1 q2 q3 rg rc K7L k8 kl hm
  gi_wp2_with fail
  refine wpIn_range2 (n:=0) (gf:=118) (lb:=#[.pointer (some ⟨m+1+1+1+1,0,none⟩)]) rfl (enters_of func118 (by kernel_rfl) rfl)
    (cells_iter P W _ cs wl (m+1+1+1+1) HSL.out HCs.out gbx (R:=λ k=>k=m\/k=m+1\/k=m+1+1) (X:=λ k=>k=m\/k=m+1\/k=m+1+1)
      (λ k hk=>⟨by omega,by omega,λ h=>by have:=lw k h;omega⟩)) (λ k hk=>hk.elim) (λ k hk=>by omega)
    (λ k hk=>by omega) (λ k hk=>hk) (λ _=>rfl)
    (λ pre W'=>DropI j m wl pre W') (λ c pre W'=>DropIx j m wl c pre W') ?hI ?hIx ?h0 ?hround ?hdone ?hstop
  case hI=>
    rintro pre A B ⟨x,y,o,a1,a2⟩ hk
    exact⟨x,y,o,a1.keep hk (by omega) (λ b hb h=>by rcases h with h|h|h;exact h;omega;omega),a2⟩
  case hIx=>
    rintro c pre A B ⟨a0,p,d,x,y,e1,e2,a1,a2⟩ hk
    exact⟨a0,p,d,x,y,e1,e2,a1.keep hk (by omega) (λ b hb h=>by rcases h with h|h|h;exact h;omega;omega),a2⟩
  case h0=>exact ⟨0,0,false,HL0.out,[],[],rfl,(λ d hd=>by cases hd),.inl rfl,rfl,(λ d hd=>by cases hd)⟩
  case hround=>
    rintro pre x rest W' hx ⟨X,Y,o,hH,hD⟩ hs
    have hxf:x.fin=x.g+x.sz:=rfl
    have hxm:=hc0.out.mem (c:=x) (by rw[hx];simp)
    unfold cellV
    gi_wp2_with fail
    refine⟨(Kr _ W').alloc _,?_⟩
    intro W2 hc2 hf2 hk2 hs2 hr2
    have kW:Kp Ab W' (W'.alloc (.cells #[.int .i64 (x.g:Nat),.int .u8 (x.tag:Nat),.int .i64 (x.ty:Nat),.int .i64 (x.ln:Nat),.int .i64 (x.sz:Nat)] 71)):=(Kr _ W').alloc _
    have bc:=hk2.at_ (wN W' (.cells #[.int .i64 (x.g:Nat),.int .u8 (x.tag:Nat),.int .i64 (x.ty:Nat),.int .i64 (x.ln:Nat),.int .i64 (x.sz:Nat)] 71)) (by omega)
    have H2:=(hH.keep kW (by omega) (λ b hb h=>h)).keep hk2 (by omega) (λ b hb h=>by omega)
    have G2:=H2.hk.at_ HRG.out.1 (by omega)
    have C2:=H2.hk.at_ HRG.out.2 (by omega)
    have n0:=cell_of_one H2.h0
    have n1:=cell_of_one H2.h1
    have n2:=cell_of_one H2.h2
    have ng:=cell_of_one G2
    have nc:=cell_of_one C2
    have d0:W2.cell? ⟨W'.heap.size,0,none⟩=some (.int .i64 (x.g:Nat)):=by simp[World.cell?,bc]
    have d1:W2.cell? ⟨W'.heap.size,1,none⟩=some (.int .u8 (x.tag:Nat)):=by simp[World.cell?,bc]
    have d2:W2.cell? ⟨W'.heap.size,2,none⟩=some (.int .i64 (x.ty:Nat)):=by simp[World.cell?,bc]
    have d3:W2.cell? ⟨W'.heap.size,3,none⟩=some (.int .i64 (x.ln:Nat)):=by simp[World.cell?,bc]
    have d4:W2.cell? ⟨W'.heap.size,4,none⟩=some (.int .i64 (x.sz:Nat)):=by simp[World.cell?,bc]
    have HGr:=sE (Grow_at x w.heap.size (m+1+1) m (m+1) j X Y o W2 (by omega) (by omega) G2 H2.h2 H2.h0 H2.h1)
    have HH2:=sE H2
    have HG2:=sE G2
    have HBC:=sE bc
    have hWz:m+1+1+1+1+1<W'.heap.size:=by omega
    have HX:=sE hx
    clear hc2 hf2 hs2 kW H2 G2 C2 bc hH hx
    cases o with
    |false=>
      obtain⟨le,e1,e2,e3⟩:=drop_before hc0.out HX.out HYes.out hD
      have t1:decide ((j:Int)<(x.g:Int))=false:=dF (by omega)
      have key:∃ o' X' Y',Ev j (pre++[x]) X' Y' o'/\growX x j X false=X'/\growY x j Y=Y'/\(((x.g:Int)==(j:Int))=o'):=by
        by_cases ht:x.tag=1
        . by_cases hg:x.g=j
          . exact⟨true,X,x.fin,e2 ht hg,if_neg (λ h=>h.2.1 hg),if_neg (λ h=>h.2 hg),by simp;omega⟩
          . exact⟨false,x.fin,Y,e1 ht hg,if_pos ⟨ht,hg,rfl⟩,if_pos ⟨ht,hg⟩,by simp;omega⟩
        . exact⟨false,X,x.fin,(e3 ht).2,if_neg (λ h=>ht h.1),if_neg (λ h=>ht h.1),by simp;have:=(e3 ht).1;omega⟩
      obtain⟨o',X',Y',hD',gx,gy,ho⟩:=key
      have HD':=sE hD'
      clear hD e1 e2 e3 hD'
      gi_wp2_with fail
      refine⟨trivial,rfl,?_⟩
      refine(Ca HGr.out).mono ?_
      rintro e w3 ⟨rfl,k3,b30,b31⟩
      rw[gx] at b30
      rw[gy] at b31
      have b32:=k3.at_ HH2.out.h2 (by omega)
      have l0:=cell_of_one (k3.at_ HG2.out (by omega))
      have l1:w3.cell? ⟨W'.heap.size,0,none⟩=some (.int .i64 (x.g:Nat)):=k3.cell d0 (by dsimp only;omega)
      have l2:=cell_of_one b32
      have lf:=free_of_one b32
      have HB:=sE (And.intro b30 (And.intro b31 b32))
      have HK3:=sE k3
      clear n0 n1 n2 ng nc d0 d1 d2 d3 d4 b30 b31 b32 gx gy k3
      gi_wp2_with fail
      have KB:Kp (λ b=>b=m+1+1) w3 (w3.setCell ⟨m+1+1,0,none⟩ (.bool o')):=(Kr (λ b=>b=m+1+1) w3).setCell (λ _=>rfl) _
      refine⟨(HK3.out.mono λ b hb h=>by omega).trans KB (λ b hb h=>by omega),X',Y',o',⟨KB.at_ HB.out.1 (by omega),KB.at_ HB.out.2.1 (by omega),one_setCell HB.out.2.2,?_⟩,HD'.out⟩
      exact(HH2.out.hk.trans HK3.out (λ b hb h=>by omega)).trans KB (λ b hb h=>by omega)
    |true=>
      obtain⟨lt,e1⟩:=drop_behind hc0.out HX.out hD
      have t1:decide ((j:Int)<(x.g:Int))=true:=dT (by omega)
      by_cases ht:x.tag=1
      . have t2:((x.tag:Int)==1)=true:=by simp;omega
        have HD':=sE hD
        clear hD
        gi_wp2_with fail
        exact⟨Kr _ _,rfl,pre,x,X,Y,rfl,ht,HH2.out,HD'.out⟩
      . have t2:((x.tag:Int)==1)=false:=by simp;omega
        obtain⟨X',Y',hD',gx,gy⟩:∃ X' Y',Ev j (pre++[x]) X' Y' true/\growX x j X true=X'/\growY x j Y=Y':=⟨X,x.fin,e1 ht,if_neg (λ h=>ht h.1),if_neg (λ h=>ht h.1)⟩
        have HD':=sE hD'
        clear hD e1 hD'
        gi_wp2_with fail
        refine⟨trivial,rfl,?_⟩
        refine(Ca HGr.out).mono ?_
        rintro e w3 ⟨rfl,k3,b30,b31⟩
        rw[gx] at b30
        rw[gy] at b31
        have b32:=k3.at_ HH2.out.h2 (by omega)
        have l0:=cell_of_one (k3.at_ HG2.out (by omega))
        have l1:w3.cell? ⟨W'.heap.size,0,none⟩=some (.int .i64 (x.g:Nat)):=k3.cell d0 (by dsimp only;omega)
        have l2:=cell_of_one b32
        have lf:=free_of_one b32
        have HB:=sE (And.intro b30 (And.intro b31 b32))
        have HK3:=sE k3
        clear n0 n1 n2 ng nc d0 d1 d2 d3 d4 b30 b31 b32 gx gy k3
        gi_wp2_with fail
        have KB:Kp (λ b=>b=m+1+1) w3 (w3.setCell ⟨m+1+1,0,none⟩ (.bool true)):=(Kr (λ b=>b=m+1+1) w3).setCell (λ _=>rfl) _
        refine⟨(HK3.out.mono λ b hb h=>by omega).trans KB (λ b hb h=>by omega),X',Y',true,⟨KB.at_ HB.out.1 (by omega),KB.at_ HB.out.2.1 (by omega),one_setCell HB.out.2.2,?_⟩,HD'.out⟩
        exact(HH2.out.hk.trans HK3.out (λ b hb h=>by omega)).trans KB (λ b hb h=>by omega)
  case hdone=>
    rintro W' ⟨X,Y,o,hH,hD⟩ hs hDf
    cases o with
    |false=>exact absurd hD (drop_not HYes.out)
    |true=>
      obtain⟨p1,g1,c,g2,p2,hDO⟩:=drop_end hc0.out (List.append_nil cs).symm hD (.inl rfl)
      obtain⟨hcel,hyle⟩:=hDO.cells hn HCs.out
      have hxy:X<=Y:=by obtain⟨-,-,-,-,-,-,-,-,-,h⟩:=hDO;omega
      have hDO':=sE hDO
      have hcel':=sE hcel
      have SW:=HSL.out.keep hH.hk (λ k hk h=>by have:=lw k hk;omega)
      have HM1:Sl ((Y:Int)-(X:Int)=((Y-X:Nat):Int)):=⟨by omega⟩
      have HG:=sE (gap_any X (Y-X) P W _ W' SW (by omega))
      have n0:=cell_of_one hH.h0
      have n1:=cell_of_one hH.h1
      have hH':=sE hH
      clear hDO hcel SW hH hD
      gi_wp2_with fail
      rw[HM1.out]
      refine⟨trivial,rfl,?_⟩
      refine(callsIn_wide.2 HG.out).mono ?_
      rintro e w9 ⟨rfl,k9,S9⟩
      have HS9:=sE S9
      have HK9:=sE k9
      have hDf9:=k9.at_ hDf (λ h=>by have h1:=lw P.a (by simp[Sp.all]);have h2:=lw P.q (by simp[Sp.all]);omega)
      clear S9 k9 n0 n1
      gi_wp2_with fail
      refine⟨by simp,.inl ⟨_,_,rfl,run_takeDeferred (hzl▸hDf9),?_⟩⟩
      have kE:Kp (λ b=>b=(m+1+1+1+1+1)) w9 (w9.putObj (m+1+1+1+1+1) (.deferred none)):=(Kr (λ b=>b=(m+1+1+1+1+1)) w9).putObj (λ _=>rfl) _
      have hks:∀ b,P.all b->¬ b=(m+1+1+1+1+1):=λ b hb h=>by have:=lw b hb;omega
      refine⟨.int .i64 0,by simp[results,results85,go_sem],.inr ⟨rfl,?_,j,p1,g1,c,g2,p2,X,Y,rfl,hDO'.out,⟨_,HS9.out.keep kE hks,hcel'.out,hDO'.out.starts HSt.out hc0.out⟩⟩⟩
      exact((HKL.out.trans hH'.out.hk (λ b hb h=>by omega)).trans HK9.out (λ b hb h=>by rcases h with h|h;exact .inl h;exact .inr (.inl h))).trans kE (λ b hb h=>by omega)
  case hstop=>
    rintro c pre W' hp ⟨rfl,p,d,X,Y,e1,e2,hH,hD⟩ hs hDf
    obtain⟨rest,hrest⟩:=hp
    rw[e1] at hrest
    have hrest':cs=p++(d::rest):=by rw[<- hrest];simp
    have HRest:=sE hrest'
    clear hrest hrest' e1
    obtain⟨p1,g1,c,g2,p2,hDO⟩:=drop_end hc0.out HRest.out hD (.inr ⟨_,_,rfl,e2⟩)
    obtain⟨hcel,hyle⟩:=hDO.cells hn HCs.out
    have hxy:X<=Y:=by obtain⟨-,-,-,-,-,-,-,-,-,h⟩:=hDO;omega
    have hDO':=sE hDO
    have hcel':=sE hcel
    have SW:=HSL.out.keep hH.hk (λ k hk h=>by have:=lw k hk;omega)
    have HM1:Sl ((Y:Int)-(X:Int)=((Y-X:Nat):Int)):=⟨by omega⟩
    have HG:=sE (gap_any X (Y-X) P W _ W' SW (by omega))
    have n0:=cell_of_one hH.h0
    have n1:=cell_of_one hH.h1
    have hH':=sE hH
    clear hDO hcel SW hH hD
    gi_wp2_with fail
    rw[HM1.out]
    refine⟨trivial,rfl,?_⟩
    refine(callsIn_wide.2 HG.out).mono ?_
    rintro e w9 ⟨rfl,k9,S9⟩
    have HS9:=sE S9
    have HK9:=sE k9
    have hDf9:=k9.at_ hDf (λ h=>by have h1:=lw P.a (by simp[Sp.all]);have h2:=lw P.q (by simp[Sp.all]);omega)
    clear S9 k9 n0 n1
    gi_wp2_with fail
    refine⟨by simp,.inl ⟨_,_,rfl,run_takeDeferred (hzl▸hDf9),?_⟩⟩
    have kE:Kp (λ b=>b=(m+1+1+1+1+1)) w9 (w9.putObj (m+1+1+1+1+1) (.deferred none)):=(Kr (λ b=>b=(m+1+1+1+1+1)) w9).putObj (λ _=>rfl) _
    have hks:∀ b,P.all b->¬ b=(m+1+1+1+1+1):=λ b hb h=>by have:=lw b hb;omega
    refine⟨.int .i64 0,by simp[results,results85,go_sem],.inr ⟨rfl,?_,j,p1,g1,c,g2,p2,X,Y,rfl,hDO'.out,⟨_,HS9.out.keep kE hks,hcel'.out,hDO'.out.starts HSt.out hc0.out⟩⟩⟩
    exact((HKL.out.trans hH'.out.hk (λ b hb h=>by omega)).trans HK9.out (λ b hb h=>by rcases h with h|h;exact .inl h;exact .inr (.inl h))).trans kE (λ b hb h=>by omega)

theorem Drop_anyW(g:Int)(P:Sp)(cs:List Cel)(w:World)(W:Nat->Nat)(h:Aw w P W cs):
    Calls prog 85 #[.pointer (some ⟨P.s,0,none⟩),.int .i64 g] w (DropPostW P cs W g w):=by
  by_cases hno:∀ j:Nat,g=(j:Nat)->Aq cs j=false
  . exact Drop_no g P cs w W h hno
  . simp only[Classical.not_forall] at hno
    obtain⟨j,rfl,hj⟩:=hno
    exact Drop_yes j P cs w W h (by simpa using hj)

end

end Go.Proofs.YtmfajopmppfldaaGreatDoor
