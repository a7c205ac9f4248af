/-
  Lemmas for the laws, together: MarkA, MarkC.
-/
import Derived.Test.YtmfajopmppfldaaGreatDoorQaa
import Derived.Conc.LoneSelect
import Derived.Test.YtmfajopmppfldaaGreatDoorQal
import Derived.Test.YtmfajopmppfldaaGreatDoorQai
import Derived.Deep.RegionHeld3
import Derived.Deep.RegionHeldLaw
import Derived.Test.YtmfajopmppfldaaGreatDoorQak
import Derived.Test.YtmfajopmppfldaaGreatDoorQac
import Derived.Test.YtmfajopmppfldaaGreatDoorQav
import Derived.Test.YtmfajopmppfldaaGreatDoorQaw
import Derived.Conc.SmallLaws
import Derived.Test.YtmfajopmppfldaaGreatDoorQax
import Derived.Test.YtmfajopmppfldaaGreatDoorQah
set_option linter.unusedVariables false
set_option maxHeartbeats 16000000
namespace Go.Proofs.YtmfajopmppfldaaGreatDoor
open Go.Proofs.Tryz
section
open Go.RowKit Go.Conc

section
variable {P:Program} {Q:Exit->Act->World->Prop} {a:Act} {w:World}

end

structure MS where
 f:Nat->Bool
 full:Bool
 n:Nat
 stk:List Nat
 deep:Nat

open Go.RowKit

inductive MReach (KF:Nat->List Nat) (rs:Nat->Prop):Nat->Prop
 |root {g:Nat}:rs g->MReach KF rs g
 |step {g k:Nat}:MReach KF rs g->k∈KF g->MReach KF rs k

structure MInv(KF:Nat->List Nat)(T rs:Nat->Prop)(cap:Nat)(X:Nat->Prop)(S:MS):Prop where
 re:∀ g,S.f g=true->T g/\MReach KF rs g
 st:∀ g∈S.stk,S.f g=true
 ln:S.stk.length<=S.n
 fl:S.full=true->cap<S.n
 cl:S.full=false->∀ g,S.f g=true->g∈S.stk\/X g\/∀ k∈KF g,S.f k=true

structure MExt(S S':MS):Prop where
 f:∀ g,S.f g=true->S'.f g=true
 n:S.n<=S'.n
 up:S.full=true->S'.full=true
 dn:S'.full=true->S.full=true\/S.n<S'.n
 mu:S'.stk.length+2*S.n<=S.stk.length+2*S'.n

attribute [local go_sem] Oper.semAt_some

end

section
open Go.RowKit Go.Conc

section
variable {KF:Nat->List Nat} {T rs:Nat->Prop} {mb c cap base:Nat} {v0:Value} {sp sq mp mq H:Nat} {fs:Nat->Bool} {I:World->Prop} {X Y:Nat->Prop} {w0 w1 w2:World} {lv0 lv1 lv2:Value} {S0 S1 S2:MS}

end

section
variable {KF:Nat->List Nat} {T rs:Nat->Prop} {mb c cap base:Nat} {v0:Value} {sp sq mp mq H:Nat} {fs:Nat->Bool} {I:World->Prop} {X Y:Nat->Prop} {w0 w1 w2:World} {lv0 lv1 lv2:Value} {S0 S1 S2:MS}

end

end

section
open Go.RowKit Go.Conc

def Bw(w:World)(v:Value)(xs:List Nat):Prop:=
 ∃ a cap,v=.slice a xs.length cap/\∀ i x,xs[i]?=some x->∃ b o,a=some ⟨b,o,none⟩/\w.cell? ⟨b,o+i,none⟩=some (.int .i64 (x:Nat))

theorem Bw.Ad{w w':World}{v:Value}{xs:List Nat}(h:Bw w v xs)(k:Kp Ab w w'):Bw w' v xs:=by
 obtain⟨a,cap,hv,h⟩:=h
 exact⟨a,cap,hv,λ i x hx=>by
  obtain⟨b,o,h1,h2⟩:=h i x hx
  exact⟨b,o,h1,k.cell h2 (λ h=>h)⟩⟩

def CX(cs:List Cel)(g:Nat):Prop:=∃ c∈cs,c.tag=1/\c.g=g

theorem objG_find{cs:List Cel}{g:Nat}(h:CX cs g):∃ c,cs.find? (λ c=>c.tag==1&&c.g==g)=some c/\c∈cs/\c.tag=1/\c.g=g:=by
 obtain⟨c,h1,h2,h3⟩:=h
 cases hf:cs.find? (λ c=>c.tag==1&&c.g==g) with
 |none=>
  have:=List.find?_eq_none.1 hf c h1
  simp[h2,h3] at this
 |some x=>
  have h4:=List.find?_some hf
  simp only[Bool.and_eq_true,beq_iff_eq] at h4
  exact⟨x,rfl,List.mem_of_find?_eq_some hf,h4.1,h4.2⟩

theorem objG_start{cs:List Cel}{g:Nat}:CX cs g ↔ Aq cs g=true:=by
 unfold CX Aq
 simp

open Go.RowKit

def DZ(f:Nat->Bool)(j:Nat):List Nat:=(List.range j).filter f

theorem setL_succ(f:Nat->Bool)(j:Nat):DZ f (j+1)=DZ f j++(if f j=true then [j] else []):=by
 unfold DZ
 rw[List.range_succ,List.filter_append]
 congr 1
 by_cases h:f j=true <;> simp[h]

theorem setL_len(f:Nat->Bool)(j:Nat):(DZ f j).length<=j:=by
 unfold DZ
 exact Nat.le_trans (List.length_filter_le _ _) (by simp)

def BytesIn(w:World)(v:Value)(n:Nat)(ys:Nat->Nat):Prop:=
 ∃ a cap,v=.slice a n cap/\∀ i,i<n->∃ b o,a=some ⟨b,o,none⟩/\w.cell? ⟨b,o+i,none⟩=some (.int .u8 (ys i:Nat))/\ys i<256

theorem BytesIn.Ad{w w':World}{v:Value}{n:Nat}{ys:Nat->Nat}(h:BytesIn w v n ys)(k:Kp Ab w w'):BytesIn w' v n ys:=by
 obtain⟨a,cap,hv,h⟩:=h
 exact⟨a,cap,hv,λ i hi=>by
  obtain⟨b,o,h1,h2,h3⟩:=h i hi
  exact⟨b,o,h1,k.cell h2 (λ h=>h),h3⟩⟩

def CY(os:List Cel)(ys:Nat->Nat)(j:Nat):List Nat:=(List.range j).map λ i=>(os[ys i%os.length]?.map Cel.g).getD 0

theorem rootsL_succ{os:List Cel}{ys:Nat->Nat}{j:Nat}{x:Cel}(h:os[ys j%os.length]?=some x):CY os ys (j+1)=CY os ys j++[x.g]:=by
 unfold CY
 rw[List.range_succ,List.map_append,List.map_singleton,h]
 rfl

theorem rootsL_len(os:List Cel)(ys:Nat->Nat)(j:Nat):(CY os ys j).length=j:=by simp[CY]

def A8(os:List Cel)(ys:Nat->Nat)(n:Nat):List Nat:=if os=[] then [] else CY os ys n

theorem Roots20_at(P:Sp)(cs:List Cel)(w:World)(h:SpaceHas w P cs)(hne:cs≠[])(v:Value)(n:Nat)(ys:Nat->Nat)(hn:n<=65536)(hv:BytesIn w v n ys):
  Calls prog 43 #[.pointer (some ⟨P.s,0,none⟩),v] w λ e w'=>∃ a c,e=.returned (.slice a (A8 (Ap cs) ys n).length c)/\w'.ownsRow w.heap.size 3 1 (.slice a (A8 (Ap cs) ys n).length c) (A8 (Ap cs) ys n).length (AB (A8 (Ap cs) ys n))/\Kp Ab w w':=by
 have HOb:=sE (Objects_at P cs w h hne)
 have holen:(Ap cs).length<=65536:=by
  obtain⟨W,f,hs,hc,-⟩:=h
  have:=BD hc.tl
  have:=hs.ar.small
  have:(Ap cs).length<=cs.length:=List.length_filter_le _ _
  omega
 obtain⟨va,vc,rfl,hb⟩:=hv
 have HB:=sE hb
 obtain⟨os,hos⟩:∃ os,Ap cs=os:=⟨_,rfl⟩
 rw[hos] at HOb holen ⊢
 clear h hne hb hos
 go_enter func43,ntmps43
 go_wp2_with fail
 refine HOb.out.mono ?_
 rintro e w1 ⟨oa,oc,rfl,hrow,k1⟩
 have HRow:=sE hrow
 have HK1:=sE k1
 have z1:=k1.size
 clear hrow k1 HOb
 obtain⟨B,hB⟩:∃ B,w1.heap.size=B:=⟨_,rfl⟩
 have HBw:=sE hB
 obtain⟨L,hL⟩:∃ L,os.length=L:=⟨_,rfl⟩
 have HL:=sE hL
 rw[hL] at HRow holen
 rw[hB] at z1
 simp only[hL]
 by_cases hos:os=[]
 .have hL0:L=0:=by rw[<- hL,hos];rfl
  subst hL0
  have HRo:Sl (A8 os ys n=[]):=⟨by unfold A8;rw [if_pos hos]⟩
  clear hL hos hB
  go_wp2_with fail
  go_loopw [6,7] (λ x6 x7 wr=>x6=.slice none 0 0/\x7=.int .i64 0/\wr=w1) (λ _ _ _=>0)
  case atStart=>exact ⟨rfl,rfl,rfl⟩
  case round=>
   obtain⟨rfl,rfl,rfl⟩:=hrel
   have hend:∃ a c,(Value.slice none 0 0)=.slice a (A8 os ys n).length c/\wr.ownsRow w.heap.size 3 1 (.slice a (A8 os ys n).length c) (A8 os ys n).length (AB (A8 os ys n)):=by
    rw[HRo.out]
    exact⟨none,0,rfl,World.ownsRow_nil _ _ _ _⟩
   have HEnd:=sE hend
   clear hend
   clear HB
   go_wp2_with fail
   all_goals go_ret
   all_goals (obtain ⟨a,c,h1,h2⟩:=HEnd.out;exact ⟨a,c,congrArg Ending.returned h1,h2,HK1.out⟩)
 .have hL0:0<L:=by
   rw[<- hL]
   exact List.length_pos_iff.2 hos
  have d0:decide ((0:Int)<(L:Int))=true:=dT (by omega)
  have HRo:Sl (A8 os ys n=CY os ys n):=⟨by unfold A8;rw [if_neg hos]⟩
  clear hL hos hB
  go_wp2_with fail
  go_loopw [6,7] (λ x6 x7 wr=>∃ j:Nat,j<=n/\x7=.int .i64 (j:Nat)/\(∃ a m c,x6=.slice a m c)/\wr.ownsRow B 3 1 x6 (CY os ys j).length (AB (CY os ys j))/\Kp Ab w1 wr/\B<=wr.heap.size) (λ _ x7 _=>n-(intOf x7).toNat)
  case atStart=>exact ⟨0,Nat.zero_le _,rfl,⟨_,_,_,rfl⟩,World.ownsRow_nil _ _ _ _,Kr _ _,by have:=HBw.out;omega⟩
  case round=>
   obtain⟨j,hj,rfl,⟨la,ln,lc,rfl⟩,ho,hk,hsz⟩:=hrel
   have HO:=sE ho
   have HK:=sE hk
   by_cases hjl:j<n
   .have hjl':(j:Int)<(n:Int):=by omega
    obtain⟨yb,yo,rfl,hyc,hy⟩:=HB.out j hjl
    have hmod:ys j%L<L:=Nat.mod_lt _ hL0
    have hox:os[ys j%L]?=some (os[ys j%L]'(by rw[HL.out];exact hmod)):=List.getElem?_eq_getElem _
    obtain⟨x,hx⟩:∃ x,os[ys j%L]'(by rw[HL.out];exact hmod)=x:=⟨_,rfl⟩
    rw[hx] at hox
    obtain⟨ra,rcap,hra,hrc⟩:=HRow.out
    injection hra with r1 r2 r3
    subst r1
    obtain⟨rb,rfl,hrl,hcg,-,-,-,-⟩:=hrc _ _ hox
    have HAd:Sl (CY os ys (j+1)=CY os ys j++[x.g]):=⟨rootsL_succ (by rw[HL.out];exact hox)⟩
    have HLn:Sl ((CY os ys j).length<=65536):=⟨by rw[rootsL_len];omega⟩
    replace hyc:=(HK1.out.then' hk).cell hyc (λ h=>h)
    replace hcg:=hk.cell hcg (λ h=>h)
    obtain⟨y,hyq⟩:∃ y,ys j=y:=⟨_,rfl⟩
    rw[hyq] at hyc hy hmod hcg
    have hrem:(y:Int)%(L:Int)=((y%L:Nat):Int):=by omega
    have hi1:((y%L:Nat):Int)<(L:Int):=by omega
    have hne0:¬ (L:Int)=0:=by omega
    obtain⟨t,ht⟩:∃ t,y%L=t:=⟨_,rfl⟩
    rw[ht] at hrem hi1 hcg hmod
    clear ho hk hox hx hyq ht hrc r2 r3 hrl
    go_wp2_with (at_builtin;obtain ⟨i0,hi,hz0,hz1,hz2⟩:=info_parts Cv;go_loud (refine wpList_append_lies _ rfl (.tmp 21) (.tmp 34) 82 rfl B 3 i0 _ 1 8 AP hi hz0 hz1 hz2 rfl (by omega) (.slice la ln lc) (CY os ys j).length (AB (CY os ys j)) rfl (HO.out.alloc _) ⟨wr.heap.size,0,none⟩ 1 1 [.int .i64 (x.g:Nat)] rfl rfl (World.news_of_block (wN wr _)) (by intro u hu;simp at hu;subst hu;rfl) (by omega) (by have:=HLn.out;unfold maxLen;omega) (by have:=HLn.out;omega) (by simp;omega) (wr.heap.size+1) (by simp) ?_);intro gn capn w5 hown5 hgrow hat hlt;clear hi hz0 hz1 hz2;have HGr:=sE hgrow;have HR5:=sE hown5;clear hown5 hgrow hat)
    have k5:Kp (λ k=>B<=k) wr w5:=((Kr Ab wr).alloc (.cells #[.int .i64 (x.g:Nat)] 3) |>.Ak _).grown HGr.out (λ k e _=>(Af HO.out e).1)
    have hR:w5.ownsRow B 3 1 (.slice (some ⟨gn,0,none⟩) ((CY os ys j).length+1) capn) (CY os ys (j+1)).length (AB (CY os ys (j+1))):=by
     have:=HR5.out
     rw[HAd.out,AB,List.map_append,List.length_append]
     exact this
    have hz5:=k5.size
    exact⟨⟨j+1,by omega,by go_num,⟨_,_,_,rfl⟩,hR,((HK.out.Ak (λ k=>B<=k)).trans k5 (λ _ _ h=>h)).mono (λ i hi h=>by have:=HBw.out;omega),by omega⟩,by simp only[intOf];omega⟩
   .obtain rfl:j=n:=by omega
    go_wp2_with fail
    go_ret
    obtain⟨a',c',hv⟩:=AA HO.out
    injection hv with v1 v2 v3
    have:=Bp HO.out z1
    rw[HRo.out]
    rw[v2] at this ⊢
    exact⟨la,lc,rfl,this,HK1.out.then' HK.out⟩

theorem Bw.Br{w:World}{base:Nat}{e:TypeId}{a:Option Addr}{n c:Nat}{xs:List Nat}(h:w.ownsRow base e 1 (.slice a n c) n (AB xs)):Bw w (.slice a n c) xs:=by
 have hn:xs.length=n:=by have:=h.1;simpa [AB] using this
 subst hn
 refine⟨a,c,rfl,λ i x hx=>?_⟩
 obtain⟨b,hb,hc⟩:=Ce h hx
 exact⟨b,0,hb,by rw[Nat.zero_add];exact hc⟩

theorem roots_obj{cs:List Cel}{ys:Nat->Nat}{n:Nat}:∀ g∈A8 (Ap cs) ys n,CX cs g:=by
 intro g hg
 unfold A8 at hg
 by_cases h0:Ap cs=[]
 .rw [if_pos h0] at hg
  cases hg
 .rw [if_neg h0] at hg
  unfold CY at hg
  obtain⟨i,-,hi⟩:=List.mem_map.1 hg
  have hlt:ys i%(Ap cs).length<(Ap cs).length:=Nat.mod_lt _ (List.length_pos_iff.2 h0)
  rw[List.getElem?_eq_getElem hlt] at hi
  have hm:=Dx.1 (List.getElem_mem hlt)
  exact⟨_,hm.1,hm.2,hi⟩

theorem Fj(os:List Cel)(ys:Nat->Nat)(n:Nat):(A8 os ys n).length<=n:=by
 unfold A8
 by_cases h:os=[]
 .rw [if_pos h]
  exact Nat.zero_le _
 .rw [if_neg h,rootsL_len]
  exact Nat.le_refl _

section
variable {P:Program}

theorem run_append_none(w:World)(t ty e:TypeId)(i:TypeInfo)(ht:P.underlying t=some (.slice e))(hi:P.info? e=some i)(base size:Nat)(v:Value)(n:Nat)(xs:List Value)(hown:w.ownsRow base e size v n xs)(c:Nat):
  (Builtin.append_ #[t,t] ty #[v,.slice none 0 c]).run P w=.ok v w:=by
 rcases hown.2 with ⟨rfl,rfl⟩|⟨g,cap,cur,rfl,hbg,hg,hnc,hcm,hcs,htake⟩
 .simp [Builtin.append_,run_underlying ht,sizeOf,typeInfo,hi,Builtin.lenOf,Builtin.firstCells]
 .simp [Builtin.append_,run_underlying ht,sizeOf,typeInfo,hi,Builtin.lenOf,Builtin.firstCells,hnc,storeCells]

theorem run_append_nats(w:World)(t ty e:TypeId)(i:TypeInfo)(ht:P.underlying t=some (.slice e))(hi:P.info? e=some i)(hz:i.zero=some (.int .i64 0))(hsize:i.size=1)(hby:i.bytes=8)
  (base:Nat) (v:Value) (n:Nat) (xs:List Nat) (hown:w.ownsRow base e 1 v n (AB xs)) (u:Value) (ys:List Nat) (hu:Bw w u ys) (hle:n+ys.length<=1000000) (hbase:base<=w.heap.size):
  ∃ v' w',(Builtin.append_ #[t,t] ty #[v,u]).run P w=.ok v' w'/\w'.ownsRow base e 1 v' (n+ys.length) (AB (xs++ys))/\w.grownBy w' v.ownBlock:=by
 obtain⟨a,cap,rfl,hy⟩:=hu
 cases a with
 |none=>
  have h0:ys=[]:=by
   cases ys with
   |nil=>rfl
   |cons y ys=>
    obtain⟨b,o,e,-⟩:=hy 0 y rfl
    cases e
  subst h0
  refine⟨v,w,run_append_none w t ty e i ht hi base 1 v n _ hown cap,?_,⟨rfl,rfl,rfl,Nat.le_refl _,λ _ _ _=>rfl⟩⟩
  rw[List.append_nil]
  exact hown
 |some ad=>
  obtain⟨v',w',hr,h2,h3,_,h5⟩:=run_append_own_at (P:=P) w base t ty e i (.int .i64 0) 1 8 ht hi hz hsize hby rfl (by omega) v n (AB xs) hown ad ys.length cap (AB ys) (by simp[AB])
   (by
    intro j u hj
    unfold AB at hj
    rw[List.getElem?_map] at hj
    obtain⟨y,hyj,rfl⟩:=Option.map_eq_some_iff.1 hj
    obtain⟨b,o,ea,hc⟩:=hy j y hyj
    injection ea with ea
    subst ea
    rw[Addr.add_lit]
    exact hc)
   (by
    intro u hu
    obtain⟨_,_,rfl⟩:=List.mem_map.1 hu
    rfl) (by unfold maxLen;omega) (by omega) hbase
  refine⟨v',w',hr,?_,h3⟩
  rw[AB,List.map_append]
  exact h2

theorem Dy(w:World){ops:Array Oper}{rest:List Oper}{o:Oper}{a:Act}{Q:Exit->Act->World->Prop}(hgd:o.guard=none)(s x:Operand)(t:TypeId)
  (ho:o.op=.call {callee:=.builtin .append,args:=#[s,x],argTypes:=#[t,t]}) (e:TypeId) (i:TypeInfo) (ht:P.underlying t=some (.slice e)) (hi:P.info? e=some i) (hz:i.zero=some (.int .i64 0)) (hsize:i.size=1) (hby:i.bytes=8)
  (base:Nat) (v:Value) (n:Nat) (xs:List Nat) (hs:a.eval s=v) (hown:w.ownsRow base e 1 v n (AB xs)) (u:Value) (ys:List Nat) (hx:a.eval x=u) (hu:Bw w u ys) (hle:n+ys.length<=1000000) (hbase:base<=w.heap.size)
  (h:∀ v' w',w'.ownsRow base e 1 v' (n+ys.length) (AB (xs++ys))->w.grownBy w' v.ownBlock->wpList P ops Q rest (a.put o.dst v') w'):wpList P ops Q (o::rest) a w:=by
 refine wpList_plain hgd λ K hK=>?_
 obtain⟨v',w',hr,h2,h3⟩:=run_append_nats (P:=P) w t o.type e i ht hi hz hsize hby base v n xs hown u ys hu hle hbase
 unfold Oper.wp execOp
 simp only[ho,resolve,invoke,builtin,Sem.run_bind,Sem.run_pure,Result.andThen_ok,List.map_toArray,List.map_cons,List.map_nil,hs,hx,hr]
 exact hK _ _ (h v' w' h2 h3)

theorem step_append_nats{w:World}{ops:Array Oper}{o:Oper}{a:Act}{K:Act->World->Prop}{Q:Exit->Act->World->Prop}{E:Prop}(hgd:o.guard=none){d:Tmp}(hd:o.dst=some d)(s x:Operand)(t:TypeId)
  (ho:o.op=.call {callee:=.builtin .append,args:=#[s,x],argTypes:=#[t,t]}) (e:TypeId) (i:TypeInfo) (ht:P.underlying t=some (.slice e)) (hi:P.info? e=some i) (hz:i.zero=some (.int .i64 0)) (hsize:i.size=1) (hby:i.bytes=8)
  (base:Nat) (v:Value) (n:Nat) (xs:List Nat) (hs:a.eval s=v) (hown:w.ownsRow base e 1 v n (AB xs)) (u:Value) (ys:List Nat) (hx:a.eval x=u) (hu:Bw w u ys) (hle:n+ys.length<=1000000) (hbase:base<=w.heap.size)
  (h:∀ v' w',w'.ownsRow base e 1 v' (n+ys.length) (AB (xs++ys))->w.grownBy w' v.ownBlock->K (a.put (some d) v') w'):
  if Region.wanted o (yielded ops a.tmps)=true then Oper.wp P o a w K Q else E:=by
 have hw:Region.wanted o (yielded ops a.tmps)=true:=by simp[Region.wanted,hgd]
 rw[if_pos hw]
 obtain⟨v',w',hr,h2,h3⟩:=run_append_nats (P:=P) w t o.type e i ht hi hz hsize hby base v n xs hown u ys hu hle hbase
 unfold Oper.wp execOp
 simp only[ho,resolve,invoke,builtin,Sem.run_bind,Sem.run_pure,Result.andThen_ok,List.map_toArray,List.map_cons,List.map_nil,hs,hx,hr]
 have:=h v' w' h2 h3
 rw[<- hd] at this
 exact this

end

section
variable {H:Type} {enc:TypeId×Value->H} {P:Program}

theorem u8_wf{n:Int}(h:(Lit.int .u8 n).wf=true):0<=n/\n<256:=by
 have h1:IntKind.u8.min=0:=by decide
 have h2:IntKind.u8.max=255:=by decide
 simp only[Lit.wf,h1,h2,Bool.and_eq_true,decide_eq_true_eq] at h
 omega

theorem open_bytes8{w:World}{base:Nat}{held:Bool}{t e:TypeId}{v:Value}{d:DataW H}{ps:List MemPlace}(ht:P.underlying t=some (.slice e))(he:P.underlying e=some (.int .u8))(hc:P.cellsOf e=1)(hv:∃ a len cap,v=.slice a len cap)
  (h:DataW.Trod enc P w base (λ _=>true) held t v d ps):∃ (len:Nat) (f:Nat->Nat),BytesIn w v len f:=by
 obtain⟨fuel,hf⟩:=h
 obtain⟨a0,len0,cap0,rfl⟩:=hv
 rcases Go.ChangeShapes.open_ints ht he hc hf with ⟨hcs,-⟩|⟨a,len,cap,zs,hcs,-,hl,hm,hz,-,hcell,hwz⟩
 .simp only[Value.cells,List.cons.injEq,and_true] at hcs
  injection hcs with h1 h2 h3
  subst h1
  subst h2
  exact⟨0,λ _=>0,none,cap0,rfl,λ i hi=>by omega⟩
 .simp only[Value.cells,List.cons.injEq,and_true] at hcs
  injection hcs with h1 h2 h3
  subst h1
  subst h2
  rw[if_pos rfl] at hz
  refine⟨len0,λ i=>(zs.getD i 0).toNat,some a,cap0,rfl,λ i hi=>?_⟩
  have hi':i<zs.length:=by omega
  have hc:=hcell i hi'
  have hw:=u8_wf (hwz (zs.getD i 0) (by rw[List.getD_eq_getElem?_getD,List.getElem?_eq_getElem hi'];exact List.getElem_mem hi'))
  obtain⟨e1,-⟩:=EW (hcell 0 (by omega))
  have e2:a=⟨a.block,a.off,none⟩:=by
   obtain⟨b,o,p⟩:=a
   cases p with
   |none=>rfl
   |some q=>simp [Addr.add] at e1
  refine⟨a.block,a.off,by rw[<- e2],?_,by dsimp only;omega⟩
  rw[e2,Addr.add_lit] at hc
  rw[hc,Int.toNat_of_nonneg hw.1]

end

end

end Go.Proofs.YtmfajopmppfldaaGreatDoor
