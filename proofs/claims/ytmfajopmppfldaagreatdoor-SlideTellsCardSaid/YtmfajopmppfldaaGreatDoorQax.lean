/-
  Lemmas for the laws, together: Objects.
-/
import Derived.Test.YtmfajopmppfldaaGreatDoorQal
import Derived.Lib.SliceRun
import Derived.Laws.EntriesVeiled
set_option linter.unusedVariables false
set_option maxHeartbeats 16000000
namespace Go.Proofs.YtmfajopmppfldaaGreatDoor
open Tryz
section
open Go.RowKit

structure RowF(w:World)(g cap n:Nat)(f:Nat->Cel):Prop where
 blk:∃ cur,w.heap[g]?=some (.cells cur 71 (0,0))/\cur.size=cap*5/\∀ p,p<n->cur[p*5]?=some (.int .i64 ((f p).g:Nat))/\cur[p*5+1]?=some (.int .u8 ((f p).tag:Nat))/\cur[p*5+2]?=some (.int .i64 ((f p).ty:Nat))/\cur[p*5+3]?=some (.int .i64 ((f p).ln:Nat))/\cur[p*5+4]?=some (.int .i64 ((f p).sz:Nat))
 le:n<=cap
 cap_le:cap<=maxLen

theorem RowF.keep{S:Nat->Prop}{w w':World}{g cap n:Nat}{f:Nat->Cel}(h:RowF w g cap n f)(k:Kp S w w')(hs:¬ S g):RowF w' g cap n f:=by
 obtain⟨cur,h1,h2⟩:=h.blk
 exact⟨⟨cur,k.at_ h1 hs,h2⟩,h.le,h.cap_le⟩

theorem RowF.cells{w:World}{g cap n p:Nat}{f:Nat->Cel}(h:RowF w g cap n f)(hp:p<n):w.cell? ⟨g,p*5,none⟩=some (.int .i64 ((f p).g:Nat))/\w.cell? ⟨g,p*5+1,none⟩=some (.int .u8 ((f p).tag:Nat))/\w.cell? ⟨g,p*5+2,none⟩=some (.int .i64 ((f p).ty:Nat))/\
  w.cell? ⟨g,p*5+3,none⟩=some (.int .i64 ((f p).ln:Nat))/\w.cell? ⟨g,p*5+4,none⟩=some (.int .i64 ((f p).sz:Nat)):=by
 obtain⟨cur,h1,h2,h3⟩:=h.blk
 obtain⟨a0,a1,a2,a3,a4⟩:=h3 p hp
 simp only[World.cell?,h1]
 exact⟨by simpa using a0,by simpa using a1,by simpa using a2,by simpa using a3,by simpa using a4⟩

theorem RowF.free{w:World}{g cap n:Nat}{f:Nat->Cel}(h:RowF w g cap n f)(j:Nat):w.frozen? ⟨g,j,none⟩=false:=by
 obtain⟨cur,h1,-⟩:=h.blk
 exact Ae h1 j

theorem RowF.lt{w:World}{g cap n:Nat}{f:Nat->Cel}(h:RowF w g cap n f):g<w.heap.size:=by
 obtain⟨cur,h1,-⟩:=h.blk
 exact lZ h1

theorem RowF.isCell{w:World}{g cap n q:Nat}{f:Nat->Cel}(h:RowF w g cap n f)(hq:q<cap*5):(w.cell? ⟨g,q,none⟩).isSome=true:=by
 obtain⟨cur,h1,h2,-⟩:=h.blk
 simp only[World.cell?,h1]
 rw[<- h2] at hq
 simp[hq]

def updF(f:Nat->Cel)(p:Nat)(x:Cel)(i:Nat):Cel:=if i=p then x else f i

theorem RowF.store{w:World}{g cap n p:Nat}{f:Nat->Cel}(h:RowF w g cap n f)(hp:p<n)(x:Cel):
  RowF (((((w.setCell ⟨g,p*5,none⟩ (.int .i64 (x.g:Nat))).setCell ⟨g,p*5+1,none⟩ (.int .u8 (x.tag:Nat))).setCell ⟨g,p*5+2,none⟩ (.int .i64 (x.ty:Nat))).setCell ⟨g,p*5+3,none⟩ (.int .i64 (x.ln:Nat))).setCell ⟨g,p*5+4,none⟩ (.int .i64 (x.sz:Nat))) g cap n (updF f p x):=by
 obtain⟨cur,h1,h2,h3⟩:=h.blk
 have hle:=h.le
 refine⟨⟨_,bZ (bZ (bZ (bZ (bZ h1 _) _) _) _) _,by simp[h2],λ i hi=>?_⟩,h.le,h.cap_le⟩
 have hsz:p*5+4<cur.size:=by omega
 obtain⟨a0,a1,a2,a3,a4⟩:=h3 i hi
 by_cases e:i=p
 .subst e
  unfold updF
  rw[if_pos rfl]
  simp only[Array.getElem?_setIfInBounds]
  refine⟨?_,?_,?_,?_,?_⟩ <;> (simp;omega)
 .unfold updF
  rw[if_neg e]
  simp only[Array.getElem?_setIfInBounds]
  refine⟨?_,?_,?_,?_,?_⟩ <;> (rw [if_neg (by omega),if_neg (by omega),if_neg (by omega),if_neg (by omega),if_neg (by omega)];assumption)

theorem Obj1_at(x:Cel)(w:World):Calls prog 48 #[cellV x] w λ e w'=>e=.returned (.bool ((x.tag:Int) !=1))/\Kp Ab w w':=by
 unfold cellV
 go_enter func48,ntmps48
 go_wp2
 go_ret
 exact⟨rfl,(Kr Ab w).alloc _⟩

def IdxPost(n:Nat)(f:Nat->Cel)(w:World)(e:Ending)(w':World):Prop:=
 Kp Ab w w'/\((∃ i,i<n/\¬ (f i).tag=1/\(∀ p,p<i->(f p).tag=1)/\e=.returned (.int .i64 (i:Nat)))\/((∀ p,p<n->(f p).tag=1)/\e=.returned (.int .i64 (-1))))

theorem IndexFunc_at(g cap n:Nat)(f:Nat->Cel)(w:World)(h:RowF w g cap n f)(hn:n<=65536):
  Calls prog 98 #[.slice (some ⟨g,0,none⟩) n cap,.func (.func 48) #[] #[]] w (IdxPost n f w):=by
 have HR:=sE h
 have HO:Sl (∀ (x:Cel) W',Calls prog 48 #[.agg #[.int .i64 (x.g:Nat),.int .u8 (x.tag:Nat),.int .i64 (x.ty:Nat),.int .i64 (x.ln:Nat),.int .i64 (x.sz:Nat)]] W' λ e w'=>e=.returned (.bool ((x.tag:Int) !=1))/\Kp Ab W' w'):=⟨λ x W'=>Obj1_at x W'⟩
 clear h
 go_enter func98,ntmps98
 go_wp2_with fail
 go_loopw [5,8] (λ _ y wr=>∃ j:Nat,j<=n/\y=.int .i64 (j:Nat)/\Sl (∀ p,p<j->(f p).tag=1)/\Kp Ab w wr) (λ _ y _=>n-(intOf y).toNat)
 case atStart=>exact ⟨0,Nat.zero_le _,rfl,⟨λ p hp=>by omega⟩,Kr _ _⟩
 case round=>
  obtain⟨j,hj,rfl,HA,hk⟩:=hrel
  have HK:=sE hk
  by_cases hjl:j<n
  .have hjl':(j:Int)<(n:Int):=by omega
   obtain⟨c0,c1,c2,c3,c4⟩:=(HR.out.keep hk (λ h=>h)).cells hjl
   obtain⟨x,hx⟩:∃ x,f j=x:=⟨_,rfl⟩
   have HX:=sE hx
   rw[hx] at c0 c1 c2 c3 c4
   have HC:=HO.out x wr
   clear hk hx
   by_cases ht:x.tag=1
   .rw [show ((x.tag:Int) !=1)=false by simp[ht]] at HC
    have HCs:=sE HC
    have HA2:Sl (∀ p,p<j+1->(f p).tag=1):=⟨λ p hp=>by
     by_cases e:p=j
     .rw [e,HX.out,ht]
     .exact HA.out p (by omega)⟩
    clear HC ht
    go_wp2_with fail
    refine HCs.out.mono ?_
    rintro e w1 ⟨rfl,k1⟩
    have HK1:=sE (HK.out.then' k1)
    clear k1
    go_wp2
    exact⟨⟨j+1,by omega,by go_num,HA2,HK1.out⟩,by simp only[intOf];omega⟩
   .rw [show ((x.tag:Int) !=1)=true by simp;omega] at HC
    have HCs:=sE HC
    have HF:Sl (¬ (f j).tag=1):=⟨by rw[HX.out];exact ht⟩
    clear HC ht
    go_wp2_with fail
    refine HCs.out.mono ?_
    rintro e w1 ⟨rfl,k1⟩
    have HK1:=sE (HK.out.then' k1)
    clear k1
    go_wp2
    go_ret
    exact⟨HK1.out,.inl ⟨j,hjl,HF.out,HA.out,rfl⟩⟩
  .have hjl':¬ (j:Int)<(n:Int):=by omega
   clear hk
   go_wp2
   go_ret
   exact⟨HK.out,.inr ⟨λ p hp=>HA.out p (by omega),rfl⟩⟩

theorem zeroCell10(w:World):(zeroValue 71).run prog w=.ok (.agg #[.int .i64 0,.int .u8 0,.int .i64 0,.int .i64 0,.int .i64 0]) w:=by kernel_rfl

theorem E5(b:Nat)(T:TypeId):∀ (vs:List Value) (o:Nat) (w:World) (cur:Array Value),w.heap[b]?=some (.cells cur T (0,0))->
  ∃ cur',(w.setCells b o vs).heap[b]?=some (.cells cur' T (0,0))/\cur'.size=cur.size/\(∀ j,j<o->cur'[j]?=cur[j]?)/\Kp (λ k=>k=b) w (w.setCells b o vs)
 |[],o,w,cur,h=>⟨cur,h,rfl,λ _ _=>rfl,Kr _ _⟩
 |v::r,o,w,cur,h=>by
  obtain⟨cur',h1,h2,h3,h4⟩:=E5 b T r (o+1) _ _ (bZ h (j:=o) v)
  refine⟨cur',h1,by rw[h2];simp,λ j hj=>?_,((Kr (λ k=>k=b) w).setCell (λ _=>rfl) _).trans h4 (λ _ _ h=>h)⟩
  rw[h3 j (by omega),Array.getElem?_setIfInBounds,if_neg (by omega)]

theorem run_clear_cells{Pr:Program}(w:World)(t e ty:TypeId)(z:Value)(k:Nat)(ht:Pr.underlying t=some (.slice e))(hv:∀ w,(zeroValue e).run Pr w=.ok z w)(hz:z.cells.size=k)(h1:∀ u∈z.cells.toList,u.oneCell'=true)(h0:0<k)(b o n c:Nat)(hn:0<n)
  (hc:∀ j,j<n*k->(w.cell? ⟨b,o+j,none⟩).isSome=true) (hf:∀ j,j<n*k->w.frozen? ⟨b,o+j,none⟩=false):
  (Builtin.clear_ #[t] ty #[.slice (some ⟨b,o,none⟩) n c]).run Pr w=.ok (.tuple #[]) (w.setCells b o (Builtin.zeroCells z.cells n).toList):=by
 have hl:(Builtin.zeroCells z.cells n).toList.length=n*k:=by simp[Builtin.zeroCells,hz]
 have hst:=run_storeCells_cells (P:=Pr) b o (Builtin.zeroCells z.cells n).toList 0 w (by rw[hl];simpa using hc) (by rw[hl];simpa using hf) (by
  intro u hu
  simp only[Builtin.zeroCells,Array.toList_map,List.mem_map] at hu
  obtain⟨i,-,rfl⟩:=hu
  have:i%z.cells.size<z.cells.size:=Nat.mod_lt _ (by omega)
  rw[getElem!_pos z.cells _ this]
  exact h1 _ (by simp))
 simp only[Nat.add_zero] at hst
 obtain⟨m,rfl⟩:∃ m,n=m+1:=⟨n-1,by omega⟩
 simp[Builtin.clear_,run_underlying ht,hv,hst]

theorem cells5'{w:World}{b:Nat}{a0 a1 a2 a3 a4:Value}{T:TypeId}(hb:w.heap[b]?=some (.cells #[a0,a1,a2,a3,a4] T (0,0))):
  w.cell? ⟨b,0,none⟩=some a0/\w.cell? ⟨b,1,none⟩=some a1/\w.cell? ⟨b,2,none⟩=some a2/\w.cell? ⟨b,3,none⟩=some a3/\w.cell? ⟨b,4,none⟩=some a4:=by
 refine⟨?_,?_,?_,?_,?_⟩ <;> simp only[World.cell?,hb] <;> rfl

def DelPost(cs:List Cel)(g cap:Nat)(w:World)(e:Ending)(w':World):Prop:=
 e=.returned (.slice (some ⟨g,0,none⟩) (Ap cs).length cap)/\Kp (λ k=>k=g) w w'/\∃ f,RowF w' g cap (Ap cs).length f/\∀ p x,(Ap cs)[p]?=some x->f p=x

theorem objsOf_all{cs:List Cel}(h:∀ x∈cs,x.tag=1):Ap cs=cs:=List.filter_eq_self.2 λ x hx=>by simp[h x hx]

theorem objsOf_succ{cs:List Cel}{j:Nat}{x:Cel}(h:cs[j]?=some x):Ap (cs.take (j+1))=Ap (cs.take j)++(if x.tag=1 then [x] else []):=by
 rw[List.take_add_one,h,objsOf_append]
 congr 1
 by_cases ht:x.tag=1 <;> simp[Ap,ht]

set_option maxRecDepth 20000 in
theorem DeleteFunc_at(cs:List Cel)(g cap n:Nat)(f0:Nat->Cel)(w:World)(h:RowF w g cap n f0)(hl:cs.length=n)(hf:∀ p x,cs[p]?=some x->f0 p=x)(hn:n<=65536)(hcap:cap<=9223372036854775807):
  Calls prog 47 #[.slice (some ⟨g,0,none⟩) n cap,.func (.func 48) #[] #[]] w (DelPost cs g cap w):=by
 have HR:=sE h
 have HI:=sE (IndexFunc_at g cap n f0 w h hn)
 have HO:Sl (∀ (x:Cel) W',Calls prog 48 #[.agg #[.int .i64 (x.g:Nat),.int .u8 (x.tag:Nat),.int .i64 (x.ty:Nat),.int .i64 (x.ln:Nat),.int .i64 (x.sz:Nat)]] W' λ e w'=>e=.returned (.bool ((x.tag:Int) !=1))/\Kp Ab W' w'):=⟨λ x W'=>Obj1_at x W'⟩
 have HF:Sl (∀ p,p<n->cs[p]?=some (f0 p)):=⟨λ p hp=>by
  obtain⟨x,hx⟩:∃ x,cs[p]?=some x:=⟨_,List.getElem?_eq_getElem (by omega)⟩
  rw[hx,hf p x hx]⟩
 have hnc:=h.le
 have HL:=sE hl
 clear h hf hl
 go_enter func47,ntmps47
 go_wp2_with fail
 refine HI.out.mono ?_
 rintro e w1 ⟨k1,⟨i,hi,ht,hpre,rfl⟩|⟨hall,rfl⟩⟩
 .have HK1:=sE k1
  have HT0:Sl (Ap (cs.take (i+1))=cs.take i):=⟨by
   rw[objsOf_succ (HF.out i hi),if_neg ht,List.append_nil]
   refine objsOf_all λ x hx=>?_
   obtain⟨p,hp,rfl⟩:=List.getElem_of_mem hx
   have hp':p<i:=by simp at hp;omega
   have:=HF.out p (by omega)
   rw[List.getElem_take]
   have h2:=(gE.1 this).2
   rw[h2]
   exact hpre p hp'⟩
  have HR1:=sE (HR.out.keep k1 (λ h=>h))
  have b0:((i:Int)==-1)=false:=by simp
  clear k1 ht hpre
  go_wp2_with fail
  go_loopw [5,6,7] (λ x5 x6 _ wr=>∃ (j c:Nat) (f:Nat->Cel),j<=n/\x6=.int .i64 (j:Nat)/\x5=.int .i64 (c:Nat)/\c<j/\Sl (c=(Ap (cs.take j)).length)/\RowF wr g cap n f/\Sl (∀ p,p<c->(Ap (cs.take j))[p]?=some (f p))/\Sl (∀ p,j<=p->p<n->f p=f0 p)/\Kp (λ k=>k=g) w1 wr) (λ _ x6 _ _=>n-(intOf x6).toNat)
  case atStart=>
   refine⟨i+1,i,f0,by omega,by go_num,rfl,by omega,⟨?_⟩,HR1.out,⟨λ p hp=>?_⟩,⟨λ p _ _=>rfl⟩,Kr _ _⟩
   .rw [HT0.out,List.length_take,HL.out];omega
   .rw [HT0.out,List.getElem?_take_of_lt hp]
    exact HF.out p (by omega)
  case round=>
   obtain⟨j,c,f,hj,rfl,rfl,hcj,HC,hr,HA,HB,hk⟩:=hrel
   have HK:=sE hk
   have HRr:=sE hr
   by_cases hjl:j<n
   .have hjl':(j:Int)<(n:Int):=by omega
    obtain⟨c0,c1,c2,c3,c4⟩:=hr.cells hjl
    obtain⟨x,hx⟩:∃ x,f j=x:=⟨_,rfl⟩
    have HX:Sl (cs[j]?=some x):=⟨by rw[HF.out j hjl,<- HB.out j (Nat.le_refl _) hjl,hx]⟩
    rw[hx] at c0 c1 c2 c3 c4
    have HCl:=HO.out x
    have lg:=hr.lt
    have k2:Kp Ab wr (wr.alloc (.cells #[.int .i64 (x.g:Nat),.int .u8 (x.tag:Nat),.int .i64 (x.ty:Nat),.int .i64 (x.ln:Nat),.int .i64 (x.sz:Nat)] 71)):=(Kr _ wr).alloc _
    have HB2:=sE (wN wr (.cells #[.int .i64 (x.g:Nat),.int .u8 (x.tag:Nat),.int .i64 (x.ty:Nat),.int .i64 (x.ln:Nat),.int .i64 (x.sz:Nat)] 71))
    have HK2:=sE k2
    have HSu:=sE (objsOf_succ HX.out)
    clear hk hr hx k2
    by_cases ht:x.tag=1
    .rw [show ((x.tag:Int) !=1)=false by simp[ht]] at HCl
     have HCs:=sE HCl
     rw[if_pos ht] at HSu
     clear HCl ht
     go_wp2_with fail
     refine(HCs.out _).mono ?_
     rintro e w3 ⟨rfl,k3⟩
     obtain⟨d0,d1,d2,d3,d4⟩:=cells5' (k3.at_ HB2.out (λ h=>h))
     have hr3:=(HRr.out.keep HK2.out (λ h=>h)).keep k3 (λ h=>h)
     have hcn:c<n:=by omega
     have hcn':(c:Int)<(n:Int):=by omega
     obtain⟨e0,e1,e2,e3,e4⟩:=hr3.cells hcn
     have hfz:=hr3.free
     have HR3:=sE hr3
     have HK3:=sE (HK2.out.then' k3)
     clear c0 c1 c2 c3 c4 k3 hr3
     go_wp2
     have hrs:=HR3.out.store hcn x
     have ks:Kp (λ k=>k=g) w3 (((((w3.setCell ⟨g,c*5,none⟩ (.int .i64 (x.g:Nat))).setCell ⟨g,c*5+1,none⟩ (.int .u8 (x.tag:Nat))).setCell ⟨g,c*5+2,none⟩ (.int .i64 (x.ty:Nat))).setCell ⟨g,c*5+3,none⟩ (.int .i64 (x.ln:Nat))).setCell ⟨g,c*5+4,none⟩ (.int .i64 (x.sz:Nat))):=
      (((((Kr (λ k=>k=g) w3).setCell (λ _=>rfl) _).setCell (λ _=>rfl) _).setCell (λ _=>rfl) _).setCell (λ _=>rfl) _).setCell (λ _=>rfl) _
     refine⟨⟨j+1,c+1,updF f c x,by omega,by go_num,by go_num,by omega,⟨?_⟩,hrs,⟨λ p hp=>?_⟩,⟨λ p h1 h2=>?_⟩,(HK.out.trans HK3.out (λ _ _ h=>h.elim)).trans ks (λ _ _ h=>h)⟩,by simp only[intOf];omega⟩
     .rw [HSu.out,List.length_append,<- HC.out]
      rfl
     .rw [HSu.out]
      by_cases e:p=c
      .subst e
       rw[List.getElem?_append_right (by rw[<- HC.out];exact Nat.le_refl _),<- HC.out,Nat.sub_self]
       simp[updF]
      .rw [List.getElem?_append_left (by rw[<- HC.out];omega),HA.out p (by omega)]
       simp[updF,e]
     .rw [<- HB.out p (by omega) h2]
      unfold updF
      rw[if_neg (by omega)]
    .rw [show ((x.tag:Int) !=1)=true by simp;omega] at HCl
     have HCs:=sE HCl
     rw[if_neg ht,List.append_nil] at HSu
     clear HCl ht
     go_wp2_with fail
     refine(HCs.out _).mono ?_
     rintro e w3 ⟨rfl,k3⟩
     have HR3:=sE ((HRr.out.keep HK2.out (λ h=>h)).keep k3 (λ h=>h))
     have HK3:=sE (HK2.out.then' k3)
     clear c0 c1 c2 c3 c4 k3
     go_wp2
     exact⟨⟨j+1,c,f,by omega,by go_num,rfl,by omega,⟨by rw[HSu.out];exact HC.out⟩,HR3.out,⟨λ p hp=>by rw[HSu.out];exact HA.out p hp⟩,⟨λ p h1 h2=>HB.out p (by omega) h2⟩,HK.out.trans HK3.out (λ _ _ h=>h.elim)⟩,by simp only[intOf];omega⟩
   .obtain rfl:j=n:=by omega
    have hjl':¬ (j:Int)<(j:Int):=by omega
    have hcj':(c:Int)<(j:Int):=by omega
    obtain⟨vs,hvs⟩:∃ vs,(Builtin.zeroCells (Value.cells (.agg #[.int .i64 0,.int .u8 0,.int .i64 0,.int .i64 0,.int .i64 0])) (j-c)).toList=vs:=⟨_,rfl⟩
    have hcl:∀ ty,(Builtin.clear_ #[40] ty #[.slice (some ⟨g,c*5,none⟩) (j-c) (cap-c)]).run prog wr=.ok (.tuple #[]) (wr.setCells g (c*5) vs):=λ ty=>by
     rw[<- hvs]
     exact run_clear_cells wr _ 71 ty _ 5 Ez zeroCell10 rfl (by intro u hu;simp [Value.cells] at hu;rcases hu with rfl|rfl|rfl|rfl|rfl <;> rfl) (by omega) g (c*5) (j-c) _ (by omega)
      (λ q hq=>hr.isCell (by have:=hr.le;omega)) (λ q hq=>hr.free _)
    have hcc:c<=cap:=by omega
    have hcc':(c:Int)<=(cap:Int):=by omega
    have HVs:=sE hvs
    clear hk hr hvs
    go_wp2
    go_ret
    obtain⟨cur,e1,e2,e3⟩:=HRr.out.blk
    obtain⟨cur',d1,d2,d3,d4⟩:=E5 g 71 vs (c*5) wr cur e1
    have hall:Ap (cs.take j)=Ap cs:=by rw[List.take_of_length_le (by rw[HL.out];omega)]
    have hcL:c=(Ap cs).length:=by rw[<- hall];exact HC.out
    refine⟨by rw[<- hcL];rfl,((HK1.out.Ak (λ k=>k=g)).trans HK.out (λ _ _ h=>h)).trans d4 (λ _ _ h=>h),f,⟨⟨cur',d1,by rw[d2,e2],λ p hp=>?_⟩,by omega,HRr.out.cap_le⟩,λ p x hx=>?_⟩
    .rw [<- hcL] at hp
     rw[d3 _ (by omega),d3 _ (by omega),d3 _ (by omega),d3 _ (by omega),d3 _ (by omega)]
     exact e3 p (by omega)
    .have hp:=(gE.1 hx).1
     have:=HA.out p (by omega)
     rw[hall,hx] at this
     injection this with this
     exact this.symm
 .have HE:Sl (Ap cs=cs):=⟨objsOf_all λ x hx=>by
   obtain⟨p,hp,rfl⟩:=List.getElem_of_mem hx
   have hp2:p<n:=by have:=HL.out;omega
   have h1:=HF.out p hp2
   have h2:=(gE.1 h1).2
   rw[h2]
   exact hall p hp2⟩
  have HK1:=sE k1
  clear hall k1
  go_wp2
  go_ret
  refine⟨by rw[HE.out,HL.out];rfl,HK1.out.Ak _,f0,by rw[HE.out,HL.out];exact HR.out.keep HK1.out (λ h=>h),λ p x hx=>?_⟩
  rw[HE.out] at hx
  have hp:=(gE.1 hx).1
  have:=HF.out p (by have:=HL.out;omega)
  rw[hx] at this
  injection this with this
  exact this.symm

theorem RowF.Br{w:World}{base:Nat}{v:Value}{cs:List Cel}(h:w.ownsRow base 71 5 v cs.length (BV cs))(hne:cs≠[]):∃ g cap,v=.slice (some ⟨g,0,none⟩) cs.length cap/\base<=g/\RowF w g cap cs.length (λ p=>(cs[p]?).getD ⟨0,0,0,0,0⟩):=by
 rcases h.2 with ⟨-,h0⟩|⟨g,cap,cur,hv,g2,g3,g4,g5,g6,g7⟩
 .exact absurd (List.length_eq_zero_iff.1 h0) hne
 .refine ⟨g,cap,hv,g2,⟨cur,g3,g6,λ p hp=>?_⟩,g4,g5⟩
  have hx:cs[p]?=some cs[p]:=List.getElem?_eq_getElem hp
  obtain⟨x0,x1,x2,x3,x4⟩:=flatC_at cs p _ hx
  have key:∀ j,j<cs.length*5->cur[j]?=(BV cs)[j]?:=λ j hj=>by
   rw[<- g7,List.getElem?_take_of_lt hj]
   simp
  rw[hx]
  exact⟨by rw[key _ (by omega)];exact x0,by rw[key _ (by omega)];exact x1,by rw[key _ (by omega)];exact x2,by rw[key _ (by omega)];exact x3,by rw[key _ (by omega)];exact x4⟩

theorem E9.of_rowF{w:World}{g cap:Nat}{f:Nat->Cel}{xs:List Cel}(h:RowF w g cap xs.length f)(hf:∀ p x,xs[p]?=some x->f p=x):E9 w (.slice (some ⟨g,0,none⟩) xs.length cap) xs:=by
 refine⟨_,_,rfl,λ i x hx=>?_⟩
 have hi:=(gE.1 hx).1
 have hc:=h.cells hi
 rw[hf i x hx] at hc
 exact⟨g,rfl,h.lt,hc⟩

theorem Objects_at(P:Sp)(cs:List Cel)(w:World)(h:SpaceHas w P cs)(hne:cs≠[]):
  Calls prog 12 #[.pointer (some ⟨P.s,0,none⟩)] w λ e w'=>∃ a cap,e=.returned (.slice a (Ap cs).length cap)/\E9 w' (.slice a (Ap cs).length cap) (Ap cs)/\Kp Ab w w':=by
 have hlen:cs.length<=65536:=by
  obtain⟨W,f,hs,hc,-⟩:=h
  have:=BD hc.tl
  have:=hs.ar.small
  omega
 have HC:=sE (Cells_at P cs w h)
 clear h
 go_enter func12,ntmps12
 go_wp2_with fail
 refine HC.out.mono ?_
 rintro e w1 ⟨v,rfl,hown,k1⟩
 obtain⟨g,cap,rfl,hg,hr⟩:=RowF.Br hown hne
 obtain⟨n,hn⟩:∃ n,cs.length=n:=⟨_,rfl⟩
 have HD:=sE (DeleteFunc_at cs g cap cs.length _ w1 hr rfl (λ p x hx=>by rw[hx];rfl) hlen (by have:=hr.cap_le;unfold maxLen at this;omega))
 rw[hn] at HD ⊢
 have HK1:=sE k1
 clear hown hr k1 hn
 go_wp2_with fail
 refine HD.out.mono ?_
 rintro e w2 ⟨rfl,k2,f,hf,hfx⟩
 have HR:=sE (E9.of_rowF hf hfx)
 have HK2:Sl (Kp Ab w w2):=⟨((HK1.out.Ak (λ k=>w.heap.size<=k)).trans k2 (λ i _ h=>by omega)).mono (λ i hi h=>by omega)⟩
 obtain⟨m,hm⟩:∃ m,(Ap cs).length=m:=⟨_,rfl⟩
 rw[hm] at HR
 have HM:=sE hm
 rw[hm]
 clear k2 hf hfx hm
 go_wp2
 go_ret
 rw[HM.out]
 exact⟨_,_,rfl,HR.out,HK2.out⟩

end

end Go.Proofs.YtmfajopmppfldaaGreatDoor
