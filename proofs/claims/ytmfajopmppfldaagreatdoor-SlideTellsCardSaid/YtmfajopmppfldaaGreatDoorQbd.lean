/-
  Lemmas for the laws, together: PlanPut.
-/
import Derived.Test.YtmfajopmppfldaaGreatDoorQba
import Derived.Test.YtmfajopmppfldaaGreatDoorQaw
import Derived.Test.YtmfajopmppfldaaGreatDoorQaa
import Derived.Test.YtmfajopmppfldaaGreatDoorQam
import Derived.Maps.Own
import Derived.Maps.OwnSet
import Derived.Test.YtmfajopmppfldaaGreatDoorQbc
import Derived.Test.YtmfajopmppfldaaGreatDoorQay
import Derived.Deep.DeepCutAuto
import Derived.Deep.CutBlock
set_option linter.unusedVariables false
set_option maxHeartbeats 16000000
namespace Go.Proofs.YtmfajopmppfldaaGreatDoor
open Go.Proofs.Tryz
section
open Go.RowKit

theorem runs_fn(a:Option Addr)(n c:Nat)(w:World):
  Calls prog 96 #[.slice a n c] w λ e w'=>
   e=.returned (.func (.func 140) #[] #[.pointer (some ⟨w.heap.size,0,none⟩)])/\w.alloc (.cells #[.slice a n c] 163)=w':=by
 have hmf:∀ (fn:Fn) (first cap:Array Value) (w:World),(Instr.makeFunc fn first cap).run prog w=.ok (.func fn first cap) w:=λ _ _ _ _=>rfl
 go_enter func96,ntmps96
 go_wp2
 go_ret
 exact⟨rfl,rfl⟩

set_option maxRecDepth 20000 in
theorem runs_iter4(bx base:Nat)(v:Value)(xs:List (Nat×Nat))(w:World)(hb:w.heap[bx]?=some (.cells #[v] 163 (0,0)))(ho:w.ownsRow base 225 2 v xs.length (Bt xs))(hl:xs.length<=65536)(hf:∀ x∈xs,x.1+x.2<=65536){R:Nat->Prop}(hR:∀ i,R i->i<w.heap.size/\¬ i=bx/\¬ v.ownBlock=some i):
  IterAt4 prog 140 #[.pointer (some ⟨bx,0,none⟩)] (λ x=>#[.int .i64 (x.1:Nat),.int .i64 ((x.1:Int)+(x.2:Int))]) xs Ab R w:=by
 intro l J Jx S0 W hW hl1 hl2 hS hJ hJx hY h0
 have lbx:=lZ hb
 have bW:=hW.at_ hb (λ h=>h)
 have oW:=Ai ho hW (λ _ _ h=>h)
 have hob:∀ b,v.ownBlock=some b->b<w.heap.size:=λ b h=>(Af ho h).2
 have HBw:=sE bW
 have HOw:=sE oW
 have HY:=sE hY
 have cb:=cell_of_one bW
 have z1:=hW.size
 have H0:=sE h0
 have HFt:=sE hf
 have HR':Sl (∀ W',Kp (λ i=>R i\/i=l) W W'->W'.ownsRow base 225 2 v xs.length (Bt xs)):=⟨λ W' k=>Ai oW k (λ b hb' h=>by
  rcases h with h|h
  .exact (hR b h).2.2 hb'
  .have:=hob b hb';omega)⟩
 obtain⟨va,vc,rfl⟩:=AA oW
 obtain⟨L,hL⟩:∃ L,xs.length=L:=⟨_,rfl⟩
 have HL:=sE hL
 rw[hL] at cb hl
 clear hY bW oW h0 hb ho hf hob hL
 refine(callsIn_wide (n:=0)).1 ?_
 refine callsIn_of_wp func140 rfl trivial ?_
 simp only[ntmps140,List.size_toArray,List.length_cons,List.length_nil,Nat.reduceAdd,Nat.reduceSub,Array.replicate_succ,Array.replicate_zero,List.push_toArray,List.append_toArray,List.nil_append,List.cons_append]
 gi_wp2_with fail
 gi_loopw [4,7] (λ v4 v7 wr=>∃ (j:Nat) (S:Nat->Prop),j<=L/\v7=.int .i64 (j:Nat)/\J (xs.take j) S wr/\Kp (λ i=>R i\/i=l) W wr) (λ v4 v7 wr=>L-(intOf v7).toNat)
 case atStart=>exact ⟨0,S0,Nat.zero_le _,rfl,H0.out,Kr _ _⟩
 case round=>
  obtain⟨j,S,hj,rfl,hjJ,kr⟩:=hrel
  have HJ:=sE hjJ
  have HKr:=sE kr
  by_cases hjl:j<L
  .have hjl':(j:Int)<(L:Int):=by omega
   obtain⟨x,hx⟩:∃ x,xs[j]?=some x:=⟨_,List.getElem?_eq_getElem (by rw[HL.out];exact hjl)⟩
   have hxf:=HFt.out x (List.mem_of_getElem? hx)
   have hrow:=RowR.Br (HR'.out wr kr)
   obtain⟨ma,mc,hv,hmx⟩:=hrow
   injection hv with q1 q2 q3
   subst q1
   obtain⟨bb,o,rfl,hb0,x0,x1⟩:=hmx j x hx
   have hsp:xs=xs.take j++x::xs.drop (j+1):=by
    obtain⟨h1,h2⟩:=gE.1 hx
    rw[<- h2,List.getElem_cons_drop h1,List.take_append_drop]
   have hst:xs.take (j+1)=xs.take j++[x]:=by rw[List.take_add_one,hx];rfl
   have HSp:=sE (And.intro hsp hst)
   have u1:IntKind.i64.wrap ((x.1:Int)+(x.2:Int))=(x.1:Int)+(x.2:Int):=by rw[IntKind.wrap_i64];omega
   have hA:(wr.alloc (.cells #[.int .i64 (x.1:Nat),.int .i64 (x.2:Nat)] 225)).heap[wr.heap.size]?=some (.cells #[.int .i64 (x.1:Nat),.int .i64 (x.2:Nat)] 225 (0,0)):=wN wr _
   have z0:(wr.alloc (.cells #[.int .i64 (x.1:Nat),.int .i64 (x.2:Nat)] 225)).cell? ⟨wr.heap.size,0,none⟩=some (.int .i64 (x.1:Nat)):=by simp only[World.cell?,hA];rfl
   have zz1:(wr.alloc (.cells #[.int .i64 (x.1:Nat),.int .i64 (x.2:Nat)] 225)).cell? ⟨wr.heap.size,1,none⟩=some (.int .i64 (x.2:Nat)):=by simp only[World.cell?,hA];rfl
   have ka:Kp Ab wr (wr.alloc (.cells #[.int .i64 (x.1:Nat),.int .i64 (x.2:Nat)] 225)):=(Kr _ wr).alloc _
   have J6:=hJ _ _ _ _ hjJ ka
   have HY6:=sE (HY.out _ S x _ _ hsp J6)
   have HKa:=sE (kr.trans ka (λ _ _ h=>h.elim))
   have HS6:Sl (∀ i,S i->(R i\/W.heap.size<=i)):=⟨λ i hi=>(hS _ _ _ J6 i hi).1⟩
   clear hx hmx q2 q3 hb0 hsp hst hA ka J6 kr hjJ
   gi_wp2_with fail
   refine CW HY6.out rfl ?_
   intro b' B hB
   rcases hB with ⟨rfl,hk,S',hT,hS'⟩|⟨rfl,hE⟩
   .have KB:=HKa.out.trans hk (λ i hi h=>by
     rcases h with h|h
     .rcases HS6.out i h with h|h
      .exact .inl h
      .omega
     .exact .inr h)
    have HF:=sE (And.intro hT KB)
    clear hT KB hS' hk
    gi_wp2_with fail
    exact⟨⟨j+1,S',by omega,by go_num,by rw[HSp.out.2];exact HF.out.1,HF.out.2⟩,by simp only[intOf];omega⟩
   .gi_wp2_with fail
    refine bodyPost_ret (results_none rfl _ _ _) rfl ?_
    exact⟨⟨_,rfl⟩,.inr ⟨_,⟨_,by rw[List.append_assoc];exact HSp.out.1.symm⟩,hE⟩⟩
  .have hjl':¬ (j:Int)<(L:Int):=by omega
   gi_wp2_with fail
   go_end0
   exact⟨⟨_,rfl⟩,.inl ⟨S,by have:=HJ.out;rwa [List.take_of_length_le (by rw[HL.out];omega)] at this⟩⟩

open Go.RowKit Go.Maps

section

variable {P:Program} {k e t:TypeId}

def Fa(P:Program)(k e:TypeId)(w:World)(b n:Nat)(f:Int->Int):Prop:=
 ∃ D:DataW Unit,w.ownsMap P k (plainElem P e) b n D/\∀ g:Int,(Lit.int .i64 g).wf=true->D.atKey (.int .i64 g) (.lit (.int .i64 0))=.lit (.int .i64 (f g))

theorem Fa.look{w:World}{b n:Nat}{f:Int->Int}(h:Fa P k e w b n f)(hk:P.underlying k=some (.int .i64))(he:P.underlying e=some (.int .i64))(ht:P.underlying t=some (.map k e))(hz:(zeroValue e).run P w=.ok (.int .i64 0) w){g:Int}(hg:(Lit.int .i64 g).wf=true):
  (Instr.lookup t (.map (some b)) (.int .i64 g) false).run P w=.ok (.int .i64 (f g)) w:=by
 obtain⟨D,h1,h2⟩:=h
 obtain⟨c,hrun,hat,-⟩:=h1.lookup_int (int_keyed hk) ht he hz (keyOf_int_mk hk hg)
 rw[h2 g hg] at hat
 have:f g=c:=by injection hat with hat;injection hat
 rw[hrun,this]

theorem Fa.put{w:World}{b n:Nat}{f:Int->Int}(h:Fa P k e w b n f)(hk:P.underlying k=some (.int .i64))(he:P.underlying e=some (.int .i64))(ht:P.underlying t=some (.map k e))(hn:n<maxLen){g c:Int}(hg:(Lit.int .i64 g).wf=true)(hc:(Lit.int .i64 c).wf=true):
  ∃ w',(Instr.mapUpdate t (.map (some b)) (.int .i64 g) (.int .i64 c)).run P w=.ok () w'/\Fa P k e w' b (n+1) (λ x=>if x=g then c else f x)/\Kp (λ k=>k=b) w w':=by
 obtain⟨D,h1,h2⟩:=h
 have hkk:=keyOf_int_mk hk hg
 obtain⟨w',hrun,ho,hgr⟩:=h1.update (int_keyed hk) ht hn hkk (plainElem_int he hc)
 refine⟨w',hrun,⟨_,ho,λ x hx=>?_⟩,(Kr _ w).grown hgr (λ k e _=>by injection e with e;exact e.symm)⟩
 by_cases ex:x=g
 .subst ex
  rw[Maps.atKey_put_same h1.isMap ((int_keyed hk).key hkk)]
  simp
 .rw [Maps.atKey_put_other (by intro h;injection h with _ h;exact ex h),h2 x hx]
  simp[ex]

end

def CL(w:World)(b n:Nat)(f:Int->Int):Prop:=Fa prog 3 3 w b n f

theorem zeroInt22(w:World):(zeroValue 3).run prog w=.ok (.int .i64 0) w:=by kernel_rfl

theorem CL.made(w:World):CL (w.alloc (.map #[] 0)) w.heap.size 0 (λ _=>0):=
 ⟨.map [],World.ownsMap_made w _ _ _,λ g _=>rfl⟩

theorem CL.keep{S:Nat->Prop}{w w':World}{b n:Nat}{f:Int->Int}(h:CL w b n f)(k:Kp S w w')(hb:¬ S b):CL w' b n f:=by
 obtain⟨D,⟨es,clock,h1,h2⟩,h3⟩:=h
 exact⟨D,⟨es,clock,k.at_ h1 hb,h2⟩,h3⟩

theorem CL.look{w:World}{b n:Nat}{f:Int->Int}(h:CL w b n f){g:Int}(hg:(Lit.int .i64 g).wf=true):
  (Instr.lookup 168 (.map (some b)) (.int .i64 g) false).run prog w=.ok (.int .i64 (f g)) w:=
 Fa.look h underlying3 underlying3 underlying168 (zeroInt22 w) hg

theorem CL.put{w:World}{b n:Nat}{f:Int->Int}(h:CL w b n f)(hn:n<maxLen){g c:Int}(hg:(Lit.int .i64 g).wf=true)(hc:(Lit.int .i64 c).wf=true):
  ∃ w',(Instr.mapUpdate 168 (.map (some b)) (.int .i64 g) (.int .i64 c)).run prog w=.ok () w'/\CL w' b (n+1) (λ x=>if x=g then c else f x)/\Kp (λ k=>k=b) w w':=
 Fa.put h underlying3 underlying3 underlying168 hn hg hc

theorem FM:prog.underlying 31=some (.slice 43):=by kernel_rfl

theorem infoShift:(prog.info? 43).map (λ i=>(i.zero,i.size,i.bytes))=some (some (.agg #[.int .i64 0,.int .i64 0,.int .i64 0]),3,24):=by kernel_rfl

theorem Cm(w:World)(g:Nat)(cs:Array Value):Kp (λ k=>k=g) w (w.setRow g cs):=
 ⟨rfl,rfl,rfl,by simp[World.setRow],λ k hk hn=>by
  show(w.heap.modify g _)[k]?=w.heap[k]?
  rw[Array.getElem?_modify,if_neg (λ e=>hn e.symm)]⟩

structure PlBox where
 s:Nat
 p:Nat
 l:Nat
 m:Nat
 k:Nat
 n:Nat
 f:Nat

structure PlSt(w0 w:World)(b:PlBox)(P:Sp)(lv:Value)(l:List Nat)(base i:Nat)(v:Value)(out:List (Nat×Nat×Nat)):Prop where
 kb:Kp Ab w0 w
 hs:w.heap[b.s]?=some (.cells #[.pointer (some ⟨P.s,0,none⟩)] 27 (0,0))
 hp:w.heap[b.p]?=some (.cells #[v] 33 (0,0))
 hl:w.heap[b.l]?=some (.cells #[lv] 82 (0,0))
 hn:w.heap[b.n]?=some (.cells #[.int .i64 (i:Nat)] 3 (0,0))
 own:w.ownsRow base 43 3 v out.length (CB out)
 row:w.ownsRow w0.heap.size 3 1 lv l.length (AB l)
 ne:¬ b.s=b.p/\¬ b.s=b.n/\¬ b.l=b.p/\¬ b.l=b.n/\¬ b.p=b.n
 lt:b.s<base/\b.p<base/\b.l<base/\b.n<base/\base<=w.heap.size
 nw:w0.heap.size<=b.p/\w0.heap.size<=b.n
 lk:∀ c,lv.ownBlock=some c->c<base/\¬ c=b.p/\¬ c=b.n
 cn:out.length=i

theorem PlSt.Ad{w0 w w':World}{b:PlBox}{P:Sp}{lv:Value}{l:List Nat}{base i:Nat}{v:Value}{out:List (Nat×Nat×Nat)}(h:PlSt w0 w b P lv l base i v out)(k:Kp Ab w w'):PlSt w0 w' b P lv l base i v out:=
 ⟨h.kb.then' k,k.at_ h.hs (λ h=>h),k.at_ h.hp (λ h=>h),k.at_ h.hl (λ h=>h),k.at_ h.hn (λ h=>h),Ai h.own k (λ _ _ h=>h),Ai h.row k (λ _ _ h=>h),h.ne,⟨h.lt.1,h.lt.2.1,h.lt.2.2.1,h.lt.2.2.2.1,Nat.le_trans h.lt.2.2.2.2 k.size⟩,h.nw,h.lk,h.cn⟩

def EG(b:PlBox)(v:Value)(k:Nat):Prop:=k=b.n\/k=b.p\/v.ownBlock=some k

theorem PlSt.turn{w0 w w':World}{b:PlBox}{P:Sp}{lv:Value}{l:List Nat}{base i i':Nat}{v v':Value}{out out':List (Nat×Nat×Nat)}(h:PlSt w0 w b P lv l base i v out)(k:Kp (EG b v) w w')(hp:w'.heap[b.p]?=some (.cells #[v'] 33 (0,0)))(hn:w'.heap[b.n]?=some (.cells #[.int .i64 (i':Nat)] 3 (0,0)))
  (own:w'.ownsRow base 43 3 v' out'.length (CB out')) (cn:out'.length=i'):PlSt w0 w' b P lv l base i' v' out':=by
 have hb:∀ c,c<base->¬ c=b.p->¬ c=b.n->¬ EG b v c:=λ c h1 h2 h3 hk=>by
  rcases hk with hk|hk|hk
  .exact h3 hk
  .exact h2 hk
  .have:=(Af h.own hk).1
   omega
 obtain⟨n1,n2,n3,n4,n5⟩:=h.ne
 obtain⟨l1,l2,l3,l4,l5⟩:=h.lt
 refine⟨((h.kb.Ak _).trans k (λ _ _ h=>h)).mono (λ c hc hk=>?_),k.at_ h.hs (hb _ l1 n1 n2),hp,k.at_ h.hl (hb _ l3 n3 n4),hn,own,Ai h.row k (λ c hc=>by
  obtain⟨a1,a2,a3⟩:=h.lk c hc
  exact hb c a1 a2 a3),h.ne,⟨l1,l2,l3,l4,Nat.le_trans l5 k.size⟩,h.nw,h.lk,cn⟩
 obtain⟨m1,m2⟩:=h.nw
 rcases hk with hk|hk|hk
 .omega
 .omega
 .have:=(Af h.own hk).1
  omega

def PutPlan(w0:World)(b:PlBox)(P:Sp)(lv:Value)(l:List Nat)(base i:Nat)(v:Value)(out:List (Nat×Nat×Nat))(x:Nat×Nat×Nat)(w:World)(e:Ending)(w':World):Prop:=
 e=.returned (.bool true)/\∃ v',PlSt w0 w' b P lv l base (i+1) v' (out++[x])/\Kp (EG b v) w w'/\∀ k,v'.ownBlock=some k->v.ownBlock=some k\/w.heap.size<=k

def PutCut(z:Nat)(w:World)(x:Value)(wx:World):Prop:=
 ∃ hb ty ln:Nat,x=.pointer (some ⟨hb,0,none⟩)/\wx.heap[hb]?=some (.cells #[.int .u8 1,.int .i64 (ty:Nat),.int .i64 (ln:Nat),.int .i64 (z:Nat)] 52 (0,0))/\Kp Ab w wx

def PutCut2(b:PlBox)(base:Nat)(v:Value)(n:Nat)(out:List (Nat×Nat×Nat))(x:Nat×Nat×Nat)(w wx:World):Prop:=
 ∃ v',wx.heap[b.p]?=some (.cells #[v'] 33 (0,0))/\wx.ownsRow base 43 3 v' (n+1) (CB (out++[x]))/\Kp (λ k=>k=b.p\/v.ownBlock=some k) w wx/\∀ k,v'.ownBlock=some k->v.ownBlock=some k\/w.heap.size<=k

set_option maxRecDepth 20000 in
theorem Put_at(w0 w:World)(b:PlBox)(P:Sp)(W:Nat->Nat)(f:Nat->Bool)(cs:List Cel)(lv:Value)(l:List Nat)(base i:Nat)(v:Value)(out:List (Nat×Nat×Nat))(g dt:Nat)(hsp:SpaceAt w0 P W f)(hc:CellsAt P W cs)(h:PlSt w0 w b P lv l base i v out)(hg:l[i]?=some g)(ho:CX cs g)(hl:l.length<=65536)(hto:dt<=65536):
  Calls prog 94 #[.int .i64 (dt:Nat),.pointer (some ⟨b.s,0,none⟩),.pointer (some ⟨b.l,0,none⟩),.pointer (some ⟨b.n,0,none⟩),.pointer (some ⟨b.p,0,none⟩)] w (PutPlan w0 b P lv l base i v out (g,dt,Cu cs g) w):=by
 have hsm:=hsp.ar.small
 obtain⟨z,hz⟩:∃ z,Cu cs g=z:=⟨_,rfl⟩
 have HAr:Sl (∀ W',Kp Ab w W'->Calls prog 14 #[.pointer (some ⟨P.s,0,none⟩)] W' λ e w'=>e=.returned (.pointer (some ⟨P.a,0,none⟩))/\w'=W'):=⟨λ W' k=>Cj P W f W' (hsp.Ad (h.kb.then' k))⟩
 have HHd:Sl (∀ W',Kp Ab w W'->∃ ty ln:Nat,Calls prog 49 #[.pointer (some ⟨P.a,0,none⟩),.int .i64 (g:Nat)] W' λ e w'=>e=.returned (.tuple #[Al 1 (ty:Nat) (ln:Nat) (z:Nat),.int .i64 0])/\Kp Ab W' w'):=⟨λ W' k=>by
  obtain⟨c,hm,h1,rfl⟩:=ho
  have hlt:=hc.tl.mem hm
  have:=ET c P W f W' (hsp.Ad (h.kb.then' k)) (by omega) (hc.hd c hm) (hc.ok c hm)
  rw[h1] at this
  rw[<- hz,Cy hc.tl hm h1]
  exact⟨c.ty,c.ln,this⟩⟩
 have hgz:g+z<=65536/\0<z:=by
  obtain⟨c,hm,h1,rfl⟩:=ho
  have hlt:=hc.tl.mem hm
  rw[<- hz,Cy hc.tl hm h1]
  omega
 rw[hz]
 have HH:=sE h
 have hil:=(gE.1 hg).1
 have hro:=h.row
 obtain⟨la,lc,rfl⟩:=AA hro
 obtain⟨lk,rfl,hgc⟩:=Ce hro hg
 obtain⟨ll,hll⟩:∃ ll,l.length=ll:=⟨_,rfl⟩
 have HLl:=sE hll
 have c0:=cell_of_one h.hs
 have c1:=cell_of_one h.hl
 have c2:=cell_of_one h.hn
 have c3:=hgc
 rw[hll] at c1 hil hl
 have hi1:(i:Int)<(ll:Int):=by omega
 clear hsp hc h hg ho hro hgc hz hsm hll
 go_enter func94,ntmps94
 go_upto_region 1 with fail
 go_cut [7,8] from 9 to 18 (λ x7 x8 wx=>PutCut z w x7 wx)
 case first=>
  have kk0:Kp Ab w w.drew:=(Kr _ _).drew
  refine wp_region_held_drew (S:=λ w'=>w'.cell? ⟨b.s,0,none⟩=some (.pointer (some ⟨P.s,0,none⟩))/\w'.cell? ⟨b.l,0,none⟩=some (.slice (some ⟨lk,0,none⟩) ll lc)/\w'.cell? ⟨b.n,0,none⟩=some (.int .i64 (i:Nat))/\w'.cell? ⟨lk,i,none⟩=some (.int .i64 (g:Nat))) (by kernel_rfl) ?_ (λ qZ=>?_)
  .exact ⟨c0,c1,c2,c3⟩
  refine Ao 0 ?_;refine Ao 2 ?_;refine Ao 3 ?_;refine Ao 4 ?_;refine Ao 5 ?_
  try simp only[Ar]
  refine AQ [1,10] ?_
  refine Ah rfl (λ K hK=>?_) ?_
  .skip
   go_simp
   with_reducible refine(HAr.out _ kk0).mono ?_
   rintro e wz ⟨rfl,rfl⟩
   refine hK _ _ ?_ (λ qZ=>?_)
   .exact ⟨Ac kk0 c0,Ac kk0 c1,Ac kk0 c2,Ac kk0 c3⟩
   clear hK K
   try simp only[Ar]
   refine AQ [6,10] ?_
   refine Ah rfl (λ K hK=>?_) ?_
   .skip
    go_simp
    obtain⟨ty,ln,hd⟩:=HHd.out _ kk0
    with_reducible refine hd.mono ?_
    rintro e wh2 ⟨rfl,kh1x⟩
    have kh1:=kk0.then' kh1x
    clear hd
    obtain⟨ha,hha⟩:∃ ha:Array Value,Al 1 (ty:Nat) (ln:Nat) (z:Nat)=.agg ha:=⟨_,rfl⟩
    rw[hha]
    refine hK _ _ ?_ (λ qZ=>?_)
    .exact ⟨Ac kh1 c0,Ac kh1 c1,Ac kh1 c2,Ac kh1 c3⟩
    clear hK K
    try simp only[Ar]
    refine Ao 7 ?_;refine Ao 8 ?_;refine Ao 9 ?_
    try simp only[Ar]
    refine AQ [10] ?_
    refine Ag rfl (λ K hK=>?_)
    go_simp
    obtain⟨wa4,hwa4⟩:∃ wa4,wa4=World.alloc wh2 (.cells #[.int .u8 0,.int .i64 0,.int .i64 0,.int .i64 0] 52):=⟨_,rfl⟩
    rw[<- hwa4]
    have ka3x:Kp Ab wh2 wa4:=by rw[hwa4];exact (Kr Ab wh2).alloc _
    have ka3b:wa4.heap[wh2.heap.size]?=some (.cells #[.int .u8 0,.int .i64 0,.int .i64 0,.int .i64 0] 52 (0,0)):=by rw[hwa4];exact wN wh2 _
    have ka3:Kp Ab w wa4:=kh1.then' ka3x
    clear hwa4
    refine hK _ _ ?_ (λ qZ=>?_)
    .exact ⟨Ac ka3 c0,Ac ka3 c1,Ac ka3 c2,Ac ka3 c3⟩
    clear hK K
    try simp only[Ar]
    refine AQ [11] ?_
    refine Ag rfl (λ K hK=>?_)
    have HAE:Sl (ha.toList=[.int .u8 1,.int .i64 (ty:Nat),.int .i64 (ln:Nat),.int .i64 (z:Nat)]):=⟨by unfold Al at hha;injection hha with h;rw [<- h]⟩
    have hsz4:ha.size=4:=by have:=congrArg List.length HAE.out;simpa using this
    have HST:=sE (run_storeCells_at (P:=prog) (wh2.heap.size) 0 52 ha.toList 0 _ _ ka3b (by rw[HAE.out];exact Nat.le_refl _) (by rw[HAE.out];intro v hv;simp at hv;rcases hv with rfl|rfl|rfl|rfl <;> rfl))
    clear hha
    go_simp
    rw[HST.out]
    have hnb:=setRow_heap _ (wh2.heap.size) _ [.int .u8 1,.int .i64 (ty:Nat),.int .i64 (ln:Nat),.int .i64 (z:Nat)].toArray _ _ ka3b
    rw[HAE.out]
    go_simp
    obtain⟨wn,hwn⟩:∃ wn:World,wn=World.setRow wa4 (wh2.heap.size) #[.int .u8 1,.int .i64 (ty:Nat),.int .i64 (ln:Nat),.int .i64 (z:Nat)]:=⟨_,rfl⟩
    have kn:Kp Ab w wn:=by rw[hwn];exact ((ka3.Ak _).trans (Cm _ _ _) (λ _ _ h=>h)).mono (λ k hk h=>by have h1:k=wh2.heap.size:=h;have h2:=(kh1).size;omega)
    have hbn:wn.heap[wh2.heap.size]?=some (.cells #[.int .u8 1,.int .i64 (ty:Nat),.int .i64 (ln:Nat),.int .i64 (z:Nat)] 52 (0,0)):=by rw[hwn];exact hnb
    rw[<- hwn]
    clear hwn hnb HST
    refine hK _ _ ?_ (λ qZ=>?_)
    .exact ⟨Ac kn c0,Ac kn c1,Ac kn c2,Ac kn c3⟩
    clear hK K
    try simp only[Ar]
    refine Ao 12 ?_
    try simp only[Ar]
    refine wpAnyH_done (by kernel_rfl) ?_ _
    go_wp2_with fail
    go_meet
    exact⟨_,ty,ln,rfl,hbn,kn⟩
   .refine Ah rfl (λ K hK=>?_) AllReadyH.nil
    go_simp
    obtain⟨wa6,hwa6⟩:∃ wa6,wa6=(World.alloc w (.cells #[.int .u8 0,.int .i64 0,.int .i64 0,.int .i64 0] 52)).drew:=⟨_,rfl⟩
    rw[<- hwa6]
    have ka5x:Kp Ab w wa6:=by rw[hwa6];exact ((Kr Ab w).alloc _).drew
    have ka5b:wa6.heap[w.heap.size]?=some (.cells #[.int .u8 0,.int .i64 0,.int .i64 0,.int .i64 0] 52 (0,0)):=by rw[hwa6];exact wN w _
    have ka5:Kp Ab w wa6:=ka5x
    clear hwa6
    refine hK _ _ ?_ (λ qZ=>?_)
    .exact ⟨Ac ka5 c0,Ac ka5 c1,Ac ka5 c2,Ac ka5 c3⟩
    clear hK K
    try simp only[Ar]
    refine AQ [6] ?_
    refine Ag rfl (λ K hK=>?_)
    go_simp
    obtain⟨ty,ln,hd⟩:=HHd.out _ ka5
    with_reducible refine hd.mono ?_
    rintro e wh8 ⟨rfl,kh7x⟩
    have kh7:=ka5.then' kh7x
    have kh7b:=kh7x.at_ ka5b (λ h=>h)
    clear hd
    obtain⟨ha,hha⟩:∃ ha:Array Value,Al 1 (ty:Nat) (ln:Nat) (z:Nat)=.agg ha:=⟨_,rfl⟩
    rw[hha]
    refine hK _ _ ?_ (λ qZ=>?_)
    .exact ⟨Ac kh7 c0,Ac kh7 c1,Ac kh7 c2,Ac kh7 c3⟩
    clear hK K
    try simp only[Ar]
    refine Ao 7 ?_;refine Ao 8 ?_;refine Ao 9 ?_
    try simp only[Ar]
    refine AQ [11] ?_
    refine Ag rfl (λ K hK=>?_)
    have HAE:Sl (ha.toList=[.int .u8 1,.int .i64 (ty:Nat),.int .i64 (ln:Nat),.int .i64 (z:Nat)]):=⟨by unfold Al at hha;injection hha with h;rw [<- h]⟩
    have hsz4:ha.size=4:=by have:=congrArg List.length HAE.out;simpa using this
    have HST:=sE (run_storeCells_at (P:=prog) (w.heap.size) 0 52 ha.toList 0 _ _ kh7b (by rw[HAE.out];exact Nat.le_refl _) (by rw[HAE.out];intro v hv;simp at hv;rcases hv with rfl|rfl|rfl|rfl <;> rfl))
    clear hha
    go_simp
    rw[HST.out]
    have hnb:=setRow_heap _ (w.heap.size) _ [.int .u8 1,.int .i64 (ty:Nat),.int .i64 (ln:Nat),.int .i64 (z:Nat)].toArray _ _ kh7b
    rw[HAE.out]
    go_simp
    obtain⟨wn,hwn⟩:∃ wn:World,wn=World.setRow wh8 (w.heap.size) #[.int .u8 1,.int .i64 (ty:Nat),.int .i64 (ln:Nat),.int .i64 (z:Nat)]:=⟨_,rfl⟩
    have kn:Kp Ab w wn:=by rw[hwn];exact ((kh7.Ak _).trans (Cm _ _ _) (λ _ _ h=>h)).mono (λ k hk h=>by have h1:k=w.heap.size:=h;have h2:=(Kr Ab w).size;omega)
    have hbn:wn.heap[w.heap.size]?=some (.cells #[.int .u8 1,.int .i64 (ty:Nat),.int .i64 (ln:Nat),.int .i64 (z:Nat)] 52 (0,0)):=by rw[hwn];exact hnb
    rw[<- hwn]
    clear hwn hnb HST
    refine hK _ _ ?_ (λ qZ=>?_)
    .exact ⟨Ac kn c0,Ac kn c1,Ac kn c2,Ac kn c3⟩
    clear hK K
    try simp only[Ar]
    refine Ao 12 ?_
    try simp only[Ar]
    refine wpAnyH_done (by kernel_rfl) ?_ _
    go_wp2_with fail
    go_meet
    exact⟨_,ty,ln,rfl,hbn,kn⟩
  .refine Ah rfl (λ K hK=>?_) AllReadyH.nil
   go_simp
   obtain⟨wa10,hwa10⟩:∃ wa10,wa10=(World.alloc w (.cells #[.int .u8 0,.int .i64 0,.int .i64 0,.int .i64 0] 52)).drew:=⟨_,rfl⟩
   rw[<- hwa10]
   have ka9x:Kp Ab w wa10:=by rw[hwa10];exact ((Kr Ab w).alloc _).drew
   have ka9b:wa10.heap[w.heap.size]?=some (.cells #[.int .u8 0,.int .i64 0,.int .i64 0,.int .i64 0] 52 (0,0)):=by rw[hwa10];exact wN w _
   have ka9:Kp Ab w wa10:=ka9x
   clear hwa10
   refine hK _ _ ?_ (λ qZ=>?_)
   .exact ⟨Ac ka9 c0,Ac ka9 c1,Ac ka9 c2,Ac ka9 c3⟩
   clear hK K
   try simp only[Ar]
   refine AQ [1] ?_
   refine Ag rfl (λ K hK=>?_)
   go_simp
   with_reducible refine(HAr.out _ ka9).mono ?_
   rintro e wz ⟨rfl,rfl⟩
   refine hK _ _ ?_ (λ qZ=>?_)
   .exact ⟨Ac ka9 c0,Ac ka9 c1,Ac ka9 c2,Ac ka9 c3⟩
   clear hK K
   try simp only[Ar]
   refine AQ [6] ?_
   refine Ag rfl (λ K hK=>?_)
   go_simp
   obtain⟨ty,ln,hd⟩:=HHd.out _ ka9
   with_reducible refine hd.mono ?_
   rintro e wh12 ⟨rfl,kh11x⟩
   have kh11:=ka9.then' kh11x
   have kh11b:=kh11x.at_ ka9b (λ h=>h)
   clear hd
   obtain⟨ha,hha⟩:∃ ha:Array Value,Al 1 (ty:Nat) (ln:Nat) (z:Nat)=.agg ha:=⟨_,rfl⟩
   rw[hha]
   refine hK _ _ ?_ (λ qZ=>?_)
   .exact ⟨Ac kh11 c0,Ac kh11 c1,Ac kh11 c2,Ac kh11 c3⟩
   clear hK K
   try simp only[Ar]
   refine Ao 7 ?_;refine Ao 8 ?_;refine Ao 9 ?_
   try simp only[Ar]
   refine AQ [11] ?_
   refine Ag rfl (λ K hK=>?_)
   have HAE:Sl (ha.toList=[.int .u8 1,.int .i64 (ty:Nat),.int .i64 (ln:Nat),.int .i64 (z:Nat)]):=⟨by unfold Al at hha;injection hha with h;rw [<- h]⟩
   have hsz4:ha.size=4:=by have:=congrArg List.length HAE.out;simpa using this
   have HST:=sE (run_storeCells_at (P:=prog) (w.heap.size) 0 52 ha.toList 0 _ _ kh11b (by rw[HAE.out];exact Nat.le_refl _) (by rw[HAE.out];intro v hv;simp at hv;rcases hv with rfl|rfl|rfl|rfl <;> rfl))
   clear hha
   go_simp
   rw[HST.out]
   have hnb:=setRow_heap _ (w.heap.size) _ [.int .u8 1,.int .i64 (ty:Nat),.int .i64 (ln:Nat),.int .i64 (z:Nat)].toArray _ _ kh11b
   rw[HAE.out]
   go_simp
   obtain⟨wn,hwn⟩:∃ wn:World,wn=World.setRow wh12 (w.heap.size) #[.int .u8 1,.int .i64 (ty:Nat),.int .i64 (ln:Nat),.int .i64 (z:Nat)]:=⟨_,rfl⟩
   have kn:Kp Ab w wn:=by rw[hwn];exact ((kh11.Ak _).trans (Cm _ _ _) (λ _ _ h=>h)).mono (λ k hk h=>by have h1:k=w.heap.size:=h;have h2:=(Kr Ab w).size;omega)
   have hbn:wn.heap[w.heap.size]?=some (.cells #[.int .u8 1,.int .i64 (ty:Nat),.int .i64 (ln:Nat),.int .i64 (z:Nat)] 52 (0,0)):=by rw[hwn];exact hnb
   rw[<- hwn]
   clear hwn hnb HST
   refine hK _ _ ?_ (λ qZ=>?_)
   .exact ⟨Ac kn c0,Ac kn c1,Ac kn c2,Ac kn c3⟩
   clear hK K
   try simp only[Ar]
   refine Ao 12 ?_
   try simp only[Ar]
   refine wpAnyH_done (by kernel_rfl) ?_ _
   go_wp2_with fail
   go_meet
   exact⟨_,ty,ln,rfl,hbn,kn⟩
 case rest=>
  obtain⟨wo,rfl⟩:∃ wo:World,wo=wc:=⟨_,rfl⟩
  obtain⟨hb,ty,ln,rfl,hbk,hk⟩:=hcut
  have hS:=HH.out.Ad hk
  have HS:=sE hS
  have d0:=cell_of_one hS.hl
  have d1:=cell_of_one hS.hn
  have d2:=cell_of_one hS.hp
  have d3:=hk.cell c3 (λ h=>h)
  have d4:wo.cell? ⟨hb,3,none⟩=some (.int .i64 (z:Nat)):=by simp only[World.cell?,hbk];rfl
  rw[HLl.out] at d0
  obtain⟨va,vc,rfl⟩:=AA hS.own
  have hlt:=hS.lt
  have hcn:=hS.cn
  have HK:=sE hk
  have HNp:Sl (¬ hb=b.p):=⟨λ e=>by
   have h1:=hS.hp
   rw[<- e,hbk] at h1
   injection h1 with h1
   injection h1 with _ h1 _
   cases h1⟩
  have HNh:Sl (¬ (Value.slice va out.length vc).ownBlock=some hb):=⟨λ e=>by
   have h1:=Af hS.own e
   rcases hS.own.2 with ⟨h,-⟩|⟨g',cap',cur',hv,g2,g3,-⟩
   .rw [h] at e;cases e
   .rw [hv] at e
    obtain rfl:g'=hb:=by simpa [Value.ownBlock] using e
    rw[g3] at hbk
    injection hbk with hbk
    injection hbk with _ hbk _
    cases hbk⟩
  obtain⟨on,hon⟩:∃ on,out.length=on:=⟨_,rfl⟩
  have HOn:=sE hon
  have HR:Sl (wo.ownsRow base 43 3 (.slice va on vc) on (CB out)):=⟨by rw[<- hon];exact hS.own⟩
  rw[hon] at d2 hcn HNh
  have hon2:on<=65536:=by omega
  have HCn:=sE hcn
  clear hS hbk hk c0 c1 c2 c3 hon hcn
  go_upto_region 2 with fail
  go_cut [30] from 19 to 31 (λ _ wx=>PutCut2 b base (.slice va on vc) on out (g,dt,z) wo wx)
  case first=>
   refine wp_region_held_drew (S:=λ w'=>w'.cell? ⟨b.l,0,none⟩=some (.slice (some ⟨lk,0,none⟩) ll lc)/\w'.cell? ⟨b.n,0,none⟩=some (.int .i64 (i:Nat))/\w'.cell? ⟨lk,i,none⟩=some (.int .i64 (g:Nat))/\w'.cell? ⟨hb,3,none⟩=some (.int .i64 (z:Nat))) (by kernel_rfl) ?_ (λ qZ=>?_)
   .exact ⟨d0,d1,d3,d4⟩
   refine Ao 0 ?_;refine Ao 2 ?_;refine Ao 3 ?_;refine Ao 4 ?_;refine Ao 5 ?_;refine Ao 6 ?_;refine Ao 7 ?_;refine Ao 8 ?_;refine Ao 9 ?_
   try simp only[Ar]
   have kk:Kp Ab wo wo.drew:=(Kr _ _).drew
   have k5:Kp Ab wo (wo.alloc (.cells #[.int .i64 (g:Nat),.int .i64 (dt:Nat),.int .i64 (z:Nat)] 43)).drew:=((Kr _ wo).alloc _).drew
   refine AQ [1,10] ?_
   refine Ah rfl (λ K hK=>?_) (Ag rfl (λ K hK=>?_))
   .have d2':=Ac kk d2
    go_simp
    refine hK _ _ ?_ (λ qZ=>?_)
    .exact ⟨Ac kk d0,Ac kk d1,Ac kk d3,Ac kk d4⟩
    clear hK K
    try simp only[Ar]
    refine AQ [10] ?_
    refine Ag rfl (λ K hK=>?_)
    go_simp
    refine hK _ _ ?_ (λ qZ=>?_)
    .exact ⟨Ac k5 d0,Ac k5 d1,Ac k5 d3,Ac k5 d4⟩
    clear hK K
    try simp only[Ar]
    obtain⟨w5,hw5⟩:∃ w5,w5=(wo.alloc (.cells #[.int .i64 (g:Nat),.int .i64 (dt:Nat),.int .i64 (z:Nat)] 43)).drew:=⟨_,rfl⟩
    rw[<- hw5] at k5 ⊢
    have bn:w5.heap[wo.heap.size]?=some (.cells #[.int .i64 (g:Nat),.int .i64 (dt:Nat),.int .i64 (z:Nat)] 43 (0,0)):=by rw[hw5];exact wN wo _
    clear hw5
    have hS5:=HS.out.Ad k5
    have o5:=Ai HR.out k5 (λ _ _ h=>h)
    have z5:=k5.size
    have hlt5:=hS5.lt
    obtain⟨i0,hi,hz0,hz1,hz2⟩:=info_parts infoShift
    refine AQ [11] ?_
    refine Ag rfl (λ K hK=>?_)
    refine Dq rfl rfl (.tmp 20) (.tmp 29) 31 rfl base 43 i0 _ 3 24 FM hi hz0 hz1 hz2 rfl (by omega) (.slice va on vc) on (CB out) rfl o5 ⟨wo.heap.size,0,none⟩ 1 _ [.int .i64 (g:Nat),.int .i64 (dt:Nat),.int .i64 (z:Nat)] rfl rfl (World.news_of_block bn) (by intro u hu;simp at hu;rcases hu with rfl|rfl|rfl <;> rfl) (by unfold maxLen;omega) (by omega) (by omega) ?_
    intro nv w6 hown6 hgrow hblk
    obtain⟨na,nc,rfl⟩:=AA hown6
    clear hi hz0 hz1 hz2
    have k6:Kp (λ k=>(Value.slice va on vc).ownBlock=some k) w5 w6:=(Kr _ w5).grown hgrow (λ k e _=>e)
    have hnb:∀ c,c<base->¬ (Value.slice va on vc).ownBlock=some c:=λ c h1 h2=>by have:=(Af o5 h2).1;omega
    have e0:=k6.at_ hS5.hl (hnb _ hlt5.2.2.1)
    have e1:=k6.at_ hS5.hn (hnb _ hlt5.2.2.2.1)
    have e2:=k6.at_ hS5.hp (hnb _ hlt5.2.1)
    have e3:w6.cell? ⟨lk,i,none⟩=some (.int .i64 (g:Nat)):=k6.cell (k5.cell d3 (λ h=>h)) (λ h=>hnb lk (HS.out.lk lk rfl).1 h)
    have e4:w6.cell? ⟨hb,3,none⟩=some (.int .i64 (z:Nat)):=k6.cell (k5.cell d4 (λ h=>h)) HNh.out
    have c0:=cell_of_one e2
    have c1:=cell_of_one e0
    have c2:=cell_of_one e1
    have f0:=free_of_one e2
    rw[HLl.out] at c1
    rw[HOn.out] at c0
    refine hK _ _ ?_ (λ qZ=>?_)
    .exact ⟨c1,c2,e3,e4⟩
    clear hK K
    try simp only[Ar]
    refine Ao 12 ?_
    try simp only[Ar]
    refine AQ [13] ?_
    refine Ag rfl (λ K hK=>?_)
    go_simp
    have k7:Kp (λ k=>k=b.p) w6 (w6.setCell ⟨b.p,0,none⟩ (.slice na (on+1) nc)):=(Kr (λ k=>k=b.p) w6).setCell (λ _=>rfl) _
    refine hK _ _ ?_ (λ qZ=>?_)
    .exact ⟨k7.cell c1 HS.out.ne.2.2.1,k7.cell c2 (λ h=>HS.out.ne.2.2.2.2 h.symm),k7.cell e3 (HS.out.lk lk rfl).2.1,k7.cell e4 HNp.out⟩
    clear hK K
    try simp only[Ar]
    refine wpAnyH_done (by kernel_rfl) ?_ _
    go_wp2_with fail
    go_meet
    refine⟨_,by rw[bZ e2];rfl,?_,((k5.Ak _).trans (k6.mono λ_ _ h=>.inr h) (λ _ _ h=>h)).trans k7 (λ _ _ h=>.inl h),λ k hk=>?_⟩
    .have hfl:CB (out++[(g,dt,z)])=CB out++[.int .i64 (g:Nat),.int .i64 (dt:Nat),.int .i64 (z:Nat)]:=by rw[flatE_app];rfl
     rw[hfl]
     exact Ai hown6 k7 (λ c hc e=>by have h1:=(Af hown6 hc).1;omega)
    .rcases hblk with h|h
     .exact .inl (h▸hk)
     .rw [h] at hk
      injection hk with hk
      exact .inr (by omega)
   .go_simp
    refine hK _ _ ?_ (λ qZ=>?_)
    .exact ⟨Ac k5 d0,Ac k5 d1,Ac k5 d3,Ac k5 d4⟩
    clear hK K
    try simp only[Ar]
    have d2':=Ac k5 d2
    refine AQ [1] ?_
    refine Ag rfl (λ K hK=>?_)
    go_simp
    refine hK _ _ ?_ (λ qZ=>?_)
    .exact ⟨Ac k5 d0,Ac k5 d1,Ac k5 d3,Ac k5 d4⟩
    clear hK K
    try simp only[Ar]
    obtain⟨w5,hw5⟩:∃ w5,w5=(wo.alloc (.cells #[.int .i64 (g:Nat),.int .i64 (dt:Nat),.int .i64 (z:Nat)] 43)).drew:=⟨_,rfl⟩
    rw[<- hw5] at k5 ⊢
    have bn:w5.heap[wo.heap.size]?=some (.cells #[.int .i64 (g:Nat),.int .i64 (dt:Nat),.int .i64 (z:Nat)] 43 (0,0)):=by rw[hw5];exact wN wo _
    clear hw5
    have hS5:=HS.out.Ad k5
    have o5:=Ai HR.out k5 (λ _ _ h=>h)
    have z5:=k5.size
    have hlt5:=hS5.lt
    obtain⟨i0,hi,hz0,hz1,hz2⟩:=info_parts infoShift
    refine AQ [11] ?_
    refine Ag rfl (λ K hK=>?_)
    refine Dq rfl rfl (.tmp 20) (.tmp 29) 31 rfl base 43 i0 _ 3 24 FM hi hz0 hz1 hz2 rfl (by omega) (.slice va on vc) on (CB out) rfl o5 ⟨wo.heap.size,0,none⟩ 1 _ [.int .i64 (g:Nat),.int .i64 (dt:Nat),.int .i64 (z:Nat)] rfl rfl (World.news_of_block bn) (by intro u hu;simp at hu;rcases hu with rfl|rfl|rfl <;> rfl) (by unfold maxLen;omega) (by omega) (by omega) ?_
    intro nv w6 hown6 hgrow hblk
    obtain⟨na,nc,rfl⟩:=AA hown6
    clear hi hz0 hz1 hz2
    have k6:Kp (λ k=>(Value.slice va on vc).ownBlock=some k) w5 w6:=(Kr _ w5).grown hgrow (λ k e _=>e)
    have hnb:∀ c,c<base->¬ (Value.slice va on vc).ownBlock=some c:=λ c h1 h2=>by have:=(Af o5 h2).1;omega
    have e0:=k6.at_ hS5.hl (hnb _ hlt5.2.2.1)
    have e1:=k6.at_ hS5.hn (hnb _ hlt5.2.2.2.1)
    have e2:=k6.at_ hS5.hp (hnb _ hlt5.2.1)
    have e3:w6.cell? ⟨lk,i,none⟩=some (.int .i64 (g:Nat)):=k6.cell (k5.cell d3 (λ h=>h)) (λ h=>hnb lk (HS.out.lk lk rfl).1 h)
    have e4:w6.cell? ⟨hb,3,none⟩=some (.int .i64 (z:Nat)):=k6.cell (k5.cell d4 (λ h=>h)) HNh.out
    have c0:=cell_of_one e2
    have c1:=cell_of_one e0
    have c2:=cell_of_one e1
    have f0:=free_of_one e2
    rw[HLl.out] at c1
    rw[HOn.out] at c0
    refine hK _ _ ?_ (λ qZ=>?_)
    .exact ⟨c1,c2,e3,e4⟩
    clear hK K
    try simp only[Ar]
    refine Ao 12 ?_
    try simp only[Ar]
    refine AQ [13] ?_
    refine Ag rfl (λ K hK=>?_)
    go_simp
    have k7:Kp (λ k=>k=b.p) w6 (w6.setCell ⟨b.p,0,none⟩ (.slice na (on+1) nc)):=(Kr (λ k=>k=b.p) w6).setCell (λ _=>rfl) _
    refine hK _ _ ?_ (λ qZ=>?_)
    .exact ⟨k7.cell c1 HS.out.ne.2.2.1,k7.cell c2 (λ h=>HS.out.ne.2.2.2.2 h.symm),k7.cell e3 (HS.out.lk lk rfl).2.1,k7.cell e4 HNp.out⟩
    clear hK K
    try simp only[Ar]
    refine wpAnyH_done (by kernel_rfl) ?_ _
    go_wp2_with fail
    go_meet
    refine⟨_,by rw[bZ e2];rfl,?_,((k5.Ak _).trans (k6.mono λ_ _ h=>.inr h) (λ _ _ h=>h)).trans k7 (λ _ _ h=>.inl h),λ k hk=>?_⟩
    .have hfl:CB (out++[(g,dt,z)])=CB out++[.int .i64 (g:Nat),.int .i64 (dt:Nat),.int .i64 (z:Nat)]:=by rw[flatE_app];rfl
     rw[hfl]
     exact Ai hown6 k7 (λ c hc e=>by have h1:=(Af hown6 hc).1;omega)
    .rcases hblk with h|h
     .exact .inl (h▸hk)
     .rw [h] at hk
      injection hk with hk
      exact .inr (by omega)
  case rest=>
   obtain⟨v',b6,o6,k6,htr⟩:=hcut
   have e1:=k6.at_ HS.out.hn (λ h=>by
    rcases h with h|h
    .exact HS.out.ne.2.2.2.2 h.symm
    .have:=(Af HR.out h).1
     omega)
   have c2:=cell_of_one e1
   have f2:=free_of_one e1
   have u1:IntKind.i64.wrap ((i:Int)+1)=((i+1:Nat):Int):=by rw[IntKind.wrap_i64];omega
   have k7:Kp (λ k=>k=b.n) wc (wc.setCell ⟨b.n,0,none⟩ (.int .i64 ((i+1:Nat):Int))):=(Kr (λ k=>k=b.n) wc).setCell (λ _=>rfl) _
   have kt:Kp (EG b (.slice va on vc)) wo (wc.setCell ⟨b.n,0,none⟩ (.int .i64 ((i+1:Nat):Int))):=(k6.mono λ_ _ h=>.inr h).trans k7 (λ _ _ h=>.inl h)
   have b7:=k7.at_ b6 (λ h=>HS.out.ne.2.2.2.2 h)
   have o7:=Ai o6 k7 (λ c hc e=>by have h1:=(Af o6 hc).1;omega)
   have hlen:(out++[(g,dt,z)]).length=on+1:=by rw[List.length_append,HOn.out];rfl
   have n7:(wc.setCell ⟨b.n,0,none⟩ (.int .i64 ((i+1:Nat):Int))).heap[b.n]?=some (.cells #[.int .i64 ((i+1:Nat):Int)] 3 (0,0)):=by rw[bZ e1];rfl
   have hS0:=HS.out
   rw[HOn.out] at hS0
   have hE:=hS0.turn kt b7 n7 (by rw[hlen];exact o7) (by rw[hlen,HCn.out])
   have hzz:=HK.out.size
   have HE:=sE hE
   have HT:=sE (((HK.out.Ak _).trans kt (λ _ _ h=>h):Kp (EG b (.slice va on vc)) w _))
   have HX:=sE htr
   clear b6 o6 k6 htr e1 k7 kt b7 o7 n7 hS0 hE hlen
   go_wp2_with fail
   go_ret
   unfold PutPlan
   rw[HOn.out]
   refine⟨rfl,v',HE.out,HT.out,λ k hk=>?_⟩
   rcases HX.out k hk with h|h
   .exact .inl h
   .exact .inr (by omega)

structure RsSt(w0 w:World)(b:PlBox)(P:Sp)(lv:Value)(l:List Nat)(base i:Nat)(v:Value)(out:List (Nat×Nat×Nat))(kn:Nat)(cnt:Int->Int):Prop where
 st:PlSt w0 w b P lv l base i v out
 hm:w.heap[b.m]?=some (.cells #[.map (some b.k)] 168 (0,0))
 mp:CL w b.k kn cnt
 hf:w.heap[b.f]?=some (.cells #[.func (.func 94) #[] #[.pointer (some ⟨b.s,0,none⟩),.pointer (some ⟨b.l,0,none⟩),.pointer (some ⟨b.n,0,none⟩),.pointer (some ⟨b.p,0,none⟩)]] 118 (0,0))
 ne2:¬ b.m=b.p/\¬ b.m=b.n/\¬ b.k=b.p/\¬ b.k=b.n/\¬ b.f=b.p/\¬ b.f=b.n
 lt2:b.m<base/\b.k<base/\b.f<base

theorem RsSt.Ad{w0 w w':World}{b:PlBox}{P:Sp}{lv:Value}{l:List Nat}{base i:Nat}{v:Value}{out:List (Nat×Nat×Nat)}{kn:Nat}{cnt:Int->Int}(h:RsSt w0 w b P lv l base i v out kn cnt)(k:Kp Ab w w'):RsSt w0 w' b P lv l base i v out kn cnt:=
 ⟨h.st.Ad k,k.at_ h.hm (λ h=>h),h.mp.keep k (λ h=>h),k.at_ h.hf (λ h=>h),h.ne2,h.lt2⟩

theorem RsSt.put{w0 w w':World}{b:PlBox}{P:Sp}{lv:Value}{l:List Nat}{base i i':Nat}{v v':Value}{out out':List (Nat×Nat×Nat)}{kn:Nat}{cnt:Int->Int}(h:RsSt w0 w b P lv l base i v out kn cnt)(h':PlSt w0 w' b P lv l base i' v' out')(k:Kp (EG b v) w w'):RsSt w0 w' b P lv l base i' v' out' kn cnt:=by
 have hb:∀ c,c<base->¬ c=b.p->¬ c=b.n->¬ EG b v c:=λ c h1 h2 h3 hk=>by
  rcases hk with hk|hk|hk
  .exact h3 hk
  .exact h2 hk
  .have:=(Af h.st.own hk).1
   omega
 obtain⟨n1,n2,n3,n4,n5,n6⟩:=h.ne2
 obtain⟨l1,l2,l3⟩:=h.lt2
 exact⟨h',k.at_ h.hm (hb _ l1 n1 n2),h.mp.keep k (hb _ l2 n3 n4),k.at_ h.hf (hb _ l3 n5 n6),h.ne2,h.lt2⟩

def nextOf(w:World)(n:Nat):Nat:=
 match w.cell? ⟨n,0,none⟩ with
 |some x=>(intOf x).toNat
 |none=>0

theorem PlSt.next{w0 w:World}{b:PlBox}{P:Sp}{lv:Value}{l:List Nat}{base i:Nat}{v:Value}{out:List (Nat×Nat×Nat)}(h:PlSt w0 w b P lv l base i v out):nextOf w b.n=i:=by
 unfold nextOf
 rw[cell_of_one h.hn]
 simp[intOf]

def Ep(w0:World)(b:PlBox)(P:Sp)(lv:Value)(l:List Nat)(base i:Nat)(v:Value)(out:List (Nat×Nat×Nat))(kn:Nat)(cnt:Int->Int)(pin:Nat->Bool)(sz:Nat->Nat)(w w':World):Prop:=
 ∃ i' v' out',RsSt w0 w' b P lv l base i' v' out' kn cnt/\i<=i'/\l.drop i'=(l.drop i).dropWhile pin/\out'=out++stayL sz ((l.drop i).takeWhile pin)/\Kp (EG b v) w w'/\∀ k,v'.ownBlock=some k->v.ownBlock=some k\/w.heap.size<=k

theorem Ep.Ad{w0:World}{b:PlBox}{P:Sp}{lv:Value}{l:List Nat}{base i:Nat}{v:Value}{out:List (Nat×Nat×Nat)}{kn:Nat}{cnt:Int->Int}{pin:Nat->Bool}{sz:Nat->Nat}{w w1 w2:World}(h:Ep w0 b P lv l base i v out kn cnt pin sz w w1)(k:Kp Ab w1 w2):Ep w0 b P lv l base i v out kn cnt pin sz w w2:=by
 obtain⟨i',v',out',h1,h2,h3,h4,h5,h6⟩:=h
 exact⟨i',v',out',h1.Ad k,h2,h3,h4,h5.trans k (λ _ _ h=>h.elim),h6⟩

theorem putK_trans{b:PlBox}{v v1:Value}{w w1 w2:World}(k1:Kp (EG b v) w w1)(k2:Kp (EG b v1) w1 w2)(h:∀ k,v1.ownBlock=some k->v.ownBlock=some k\/w.heap.size<=k):Kp (EG b v) w w2:=by
 refine(k1.mono (S':=λ k=>EG b v k\/w.heap.size<=k) (λ i hi h=>.inl h) |>.trans k2 (λ k _ hk=>?_)).mono λ i hi hk=>?_
 .rcases hk with hk|hk|hk
  .exact .inl (.inl hk)
  .exact .inl (.inr (.inl hk))
  .rcases h k hk with h|h
   .exact .inl (.inr (.inr h))
   .exact .inr h
 .rcases hk with hk|hk
  .exact hk
  .omega

set_option maxRecDepth 20000 in
theorem Rest_at(w0 w:World)(b:PlBox)(P:Sp)(W:Nat->Nat)(f:Nat->Bool)(cs:List Cel)(lv:Value)(l:List Nat)(base i:Nat)(v:Value)(out:List (Nat×Nat×Nat))(kn:Nat)(cnt:Int->Int)(pin:Nat->Bool)(hsp:SpaceAt w0 P W f)(hc:CellsAt P W cs)(h:RsSt w0 w b P lv l base i v out kn cnt)(ho:∀ g∈l,CX cs g)(hl:l.length<=65536)(hp:∀ g∈l,decide (0<cnt (g:Nat))=pin g):
  Calls prog 95 #[.pointer (some ⟨b.n,0,none⟩),.pointer (some ⟨b.l,0,none⟩),.pointer (some ⟨b.m,0,none⟩),.pointer (some ⟨b.f,0,none⟩)] w λ e w'=>e=.returned (.tuple #[])/\Ep w0 b P lv l base i v out kn cnt pin (Cu cs) w w':=by
 have hsm:=hsp.ar.small
 have HPut:Sl (∀ W' i' v' out' g dt,RsSt w0 W' b P lv l base i' v' out' kn cnt->l[i']?=some g->dt<=65536->Calls prog 94 #[.int .i64 (dt:Nat),.pointer (some ⟨b.s,0,none⟩),.pointer (some ⟨b.l,0,none⟩),.pointer (some ⟨b.n,0,none⟩),.pointer (some ⟨b.p,0,none⟩)] W' (PutPlan w0 b P lv l base i' v' out' (g,dt,Cu cs g) W')):=⟨λ W' i' v' out' g dt hst hg ht=>Put_at w0 W' b P W f cs lv l base i' v' out' g dt hsp hc hst.st hg (ho g (List.mem_of_getElem? hg)) hl ht⟩
 have HLt:Sl (∀ g∈l,g<=65536):=⟨λ g hg=>by
  obtain⟨c,hm,h1,rfl⟩:=ho g hg
  have:=hc.tl.mem hm
  omega⟩
 have HP:=sE hp
 have HH:=sE h
 have hro:=h.st.row
 obtain⟨la,lc,rfl⟩:=AA hro
 obtain⟨ll,hll⟩:∃ ll,l.length=ll:=⟨_,rfl⟩
 have HLl:=sE hll
 rw[hll] at hl
 clear hsp hc h ho hp hro hll hsm
 go_enter func95,ntmps95
 go_wp2_with fail
 go_loopw [17] (λ x17 wr=>∃ i' v' out',RsSt w0 wr b P (.slice la l.length lc) l base i' v' out' kn cnt/\i<=i'/\(l.drop i').dropWhile pin=(l.drop i).dropWhile pin/\out'++stayL (Cu cs) ((l.drop i').takeWhile pin)=out++stayL (Cu cs) ((l.drop i).takeWhile pin)/\Kp (EG b v) w wr/\∀ k,v'.ownBlock=some k->v.ownBlock=some k\/w.heap.size<=k) (λ _ wr=>l.length-nextOf wr b.n)
 case atStart=>exact ⟨i,v,out,HH.out,Nat.le_refl _,rfl,rfl,Kr _ _,λ k h=>.inl h⟩
 case round=>
  obtain⟨j,v1,o1,hR,hij,hd,ho1,hk,htr⟩:=hrel
  have HR:=sE hR
  have HK:=sE hk
  have HT:=sE htr
  have HD:=sE hd
  have HO1:=sE ho1
  have c0:=cell_of_one hR.st.hn
  have c1:=cell_of_one hR.st.hl
  have c2:=cell_of_one hR.hm
  have c3:=cell_of_one hR.hf
  rw[HLl.out] at c1
  clear hk htr hd ho1
  by_cases hjl:j<ll
  .have hjl':(j:Int)<(ll:Int):=by omega
   obtain⟨g,hg⟩:∃ g,l[j]?=some g:=⟨_,List.getElem?_eq_getElem (by rw[HLl.out];exact hjl)⟩
   obtain⟨lk,hlk,c4⟩:=Ce hR.st.row hg
   subst hlk
   have hg2:=HLt.out g (List.mem_of_getElem? hg)
   have hlook:∀ nq,(Instr.lookup 168 (.map (some b.k)) (.int .i64 (g:Nat)) false).run prog (wr.drewN nq)=.ok (.int .i64 (cnt (g:Nat))) (wr.drewN nq):=λ nq=>(hR.mp.keep (Kp.Aj (S:=Ab) (w:=wr) nq) (λ h=>h)).look (FN (g:=g) (by omega))
   have hpg:=HP.out g (List.mem_of_getElem? hg)
   have HG:=sE hg
   have hdrop:l.drop j=g::l.drop (j+1):=by
    obtain⟨h1,h2⟩:=gE.1 hg
    rw[List.drop_eq_getElem_cons h1,h2]
   have HDr:=sE hdrop
   obtain⟨c,hc⟩:∃ c,cnt (g:Nat)=c:=⟨_,rfl⟩
   rw[hc] at hlook hpg
   clear hc hdrop hR
   cases hp:pin g with
   |true=>
    rw[hp] at hpg
    have HPu:Sl (∀ W',Kp Ab wr W'->_):=⟨λ W' kk=>HPut.out W' j v1 o1 g g (HR.out.Ad kk) hg hg2⟩
    have HPn:Sl (pin g=true):=⟨hp⟩
    clear hg hp
    go_wp2_with fail
    go_quiet (fail)
    go_wp2_with fail
    obtain⟨wq,hwq⟩:∃ wq,wq=wr.drewN nq:=⟨_,rfl⟩
    have kq:Kp Ab wr wq:=by rw[hwq];exact Kp.Aj _
    rw[<- hwq]
    clear hwq hlook
    have e0:=kq.cell c0 (λ h=>h)
    have e1:=kq.cell c1 (λ h=>h)
    have e3:=kq.cell c3 (λ h=>h)
    have e4:=kq.cell c4 (λ h=>h)
    have kd:Kp Ab wq wq.drew:=(Kr _ _).drew
    have d0:=kd.cell e0 (λ h=>h)
    refine wp_region_held_drew (S:=λ w'=>w'.cell? ⟨b.l,0,none⟩=some (.slice (some ⟨lk,0,none⟩) ll lc)/\w'.cell? ⟨b.f,0,none⟩=some (.func (.func 94) #[] #[.pointer (some ⟨b.s,0,none⟩),.pointer (some ⟨b.l,0,none⟩),.pointer (some ⟨b.n,0,none⟩),.pointer (some ⟨b.p,0,none⟩)])/\w'.cell? ⟨lk,j,none⟩=some (.int .i64 (g:Nat))) (by kernel_rfl) ?_ (λ qZ=>?_)
    .exact ⟨e1,e3,e4⟩
    refine Ao 0 ?_;refine Ao 1 ?_
    try simp only[Ar]
    refine AQ [2] ?_
    refine Ag rfl (λ K hK=>?_)
    go_simp
    refine hK _ _ ?_ (λ qZ=>?_)
    .exact ⟨Ac kd e1,Ac kd e3,Ac kd e4⟩
    clear hK K
    try simp only[Ar]
    refine Ao 3 ?_;refine Ao 4 ?_
    try simp only[Ar]
    refine AQ [5] ?_
    refine Ag rfl (λ K hK=>?_)
    go_simp
    go_at_call 94
    (with_reducible refine(HPu.out _ (kq.then' kd)).mono ?_)
    rintro e w5 ⟨rfl,v5,hS5,hk5,ht5⟩
    have hR5:=(HR.out.Ad (kq.then' kd)).put hS5 hk5
    have f1:=cell_of_one hR5.st.hl
    have f3:=cell_of_one hR5.hf
    obtain⟨lk',hlk',f4⟩:=Ce hR5.st.row HG.out
    injection hlk' with hlk'
    injection hlk' with hlk'
    subst hlk'
    rw[HLl.out] at f1
    refine hK _ _ ?_ (λ qZ=>?_)
    .exact ⟨f1,f3,f4⟩
    clear hK K
    try simp only[Ar]
    refine wpAnyH_done (by kernel_rfl) ?_ _
    have HR5:=sE hR5
    have K5:Sl (Kp (EG b v) w w5):=⟨putK_trans HK.out (((kq.then' kd).Ak _).trans hk5 (λ _ _ h=>h)) HT.out⟩
    have hz:=(kq.then' kd).size
    have hz2:=HK.out.size
    have HT5:Sl (∀ k,v5.ownBlock=some k->v.ownBlock=some k\/w.heap.size<=k):=⟨λ k hk=>by
     rcases ht5 k hk with h|h
     .exact HT.out k h
     .exact .inr (by omega)⟩
    have hm1:nextOf wr b.n=j:=HR.out.st.next
    have hm5:nextOf w5 b.n=j+1:=hR5.st.next
    have hll:l.length=ll:=HLl.out
    clear hS5 hk5 ht5 hR5 f1 f3 f4 c0 c1 c2 c3 c4 e0 e1 e3 e4 d0 kq kd
    go_wp2_with fail
    refine⟨⟨j+1,v5,o1++[(g,g,Cu cs g)],HR5.out,by omega,?_,?_,K5.out,HT5.out⟩,by omega⟩
    .rw [<- HD.out,HDr.out,List.dropWhile_cons_of_pos HPn.out]
    .rw [<- HO1.out,HDr.out,List.takeWhile_cons_of_pos HPn.out,List.append_assoc]
     rfl
   |false=>
    rw[hp] at hpg
    have HPn:Sl (pin g=false):=⟨hp⟩
    clear hg hp
    have hE:Ep w0 b P (.slice (some ⟨lk,0,none⟩) l.length lc) l base i v out kn cnt pin (Cu cs) w wr:=⟨j,v1,o1,HR.out,hij,by rw[<- HD.out,HDr.out,List.dropWhile_cons_of_neg (by rw[HPn.out];simp)],by
     have:=HO1.out
     rw[HDr.out,List.takeWhile_cons_of_neg (by rw[HPn.out];simp)] at this
     rw[<- this]
     exact(List.append_nil _).symm,HK.out,HT.out⟩
    have HE:=sE hE
    clear hE
    go_wp2_with fail
    go_quiet (fail)
    go_wp2_with fail
    go_end0
    exact⟨rfl,HE.out.Ad (Kp.Aj _)⟩
  .have hnil:l.drop j=[]:=List.drop_eq_nil_of_le (by rw[HLl.out];omega)
   have hE:Ep w0 b P (.slice la l.length lc) l base i v out kn cnt pin (Cu cs) w wr:=⟨j,v1,o1,HR.out,hij,by rw[<- HD.out,hnil];rfl,by
    have:=HO1.out
    rw[hnil] at this
    rw[<- this]
    exact(List.append_nil _).symm,HK.out,HT.out⟩
   have HE:=sE hE
   clear hE hnil hR
   go_wp2_with fail
   go_quiet (fail)
   go_wp2_with fail
   go_end0
   exact⟨rfl,HE.out.Ad (Kp.Aj _)⟩

end

end Go.Proofs.YtmfajopmppfldaaGreatDoor
