/-
  Lemmas for the laws, together: CenP, CenM, CenO.
-/
import Derived.Test.YtfkedlgpgmaemaaGreatDoorQbf
set_option linter.unusedVariables false
set_option maxHeartbeats 16000000
namespace Go.Proofs.YtfkedlgpgmaemaaGreatDoor
open Tryz
section
open Go.RowKit

def woE(es:List (Nat×Nat×Nat))(g:Nat):List (Nat×Nat×Nat):=es.filter λ e=>e.1 !=g&&e.2.2 !=g

def woR(rs:List Nat)(g:Nat):List Nat:=rs.filter λ r=>r !=g

theorem mem_woE{es:List (Nat×Nat×Nat)}{g:Nat}{e:Nat×Nat×Nat}:e∈woE es g ↔ e∈es/\¬ e.1=g/\¬ e.2.2=g:=by
 unfold woE
 rw[List.mem_filter,Bool.and_eq_true,bne_iff_ne,bne_iff_ne]

theorem mem_woR{rs:List Nat}{g r:Nat}:r∈woR rs g ↔ r∈rs/\¬ r=g:=by
 unfold woR
 rw[List.mem_filter,bne_iff_ne]

def AQ(es:List (Nat×Nat×Nat))(rs:List Nat)(g x:Nat):Prop:=AA (woE es g) (woR rs g) x

section

variable {es:List (Nat×Nat×Nat)} {rs:List Nat}

theorem AA.root'{x:Nat}(h:x∈rs):AA es rs x:=⟨0,.root h⟩

theorem AA.step'{e:Nat×Nat×Nat}(h:AA es rs e.1)(he:e∈es):AA es rs e.2.2:=by
 obtain⟨n,hn⟩:=h
 exact⟨n+1,.step hn he⟩

theorem AA.rec'{p:Nat->Prop}(h0:∀ x∈rs,p x)(h1:∀ e∈es,AA es rs e.1->p e.1->p e.2.2){x:Nat}(h:AA es rs x):p x:=by
 obtain⟨n,hn⟩:=h
 induction hn with
 |root h=>exact h0 _ h
 |@step n e hs he ih=>exact h1 e he ⟨n,hs⟩ ih

theorem AQ.root{g x:Nat}(h:x∈rs)(hx:¬ x=g):AQ es rs g x:=AA.root' (mem_woR.2 ⟨h,hx⟩)

theorem AQ.ne{g x:Nat}(h:AQ es rs g x):¬ x=g:=AA.rec' (p:=λ x=>¬ x=g) (λ x hx=>(mem_woR.1 hx).2) (λ e he _ _=>(mem_woE.1 he).2.2) h

theorem AQ.step{g:Nat}{e:Nat×Nat×Nat}(h:AQ es rs g e.1)(he:e∈es)(hx:¬ e.2.2=g):AQ es rs g e.2.2:=AA.step' h (mem_woE.2 ⟨he,h.ne,hx⟩)

end

structure Visit(es:List (Nat×Nat×Nat))(g:Nat)(at_:Nat->Prop)(f f':Nat->Bool):Prop where
 up:∀ x,f x=true->f' x=true
 new:∀ x,f' x=true->f x=true\/∃ r,at_ r/\AQ es [r] g x
 cl:∀ e∈es,f' e.1=true->f e.1=true\/e.2.2=g\/f' e.2.2=true

theorem Visit.refl(es:List (Nat×Nat×Nat))(g:Nat)(at_:Nat->Prop)(f:Nat->Bool):Visit es g at_ f f:=⟨λ x h=>h,λ x h=>.inl h,λ e he h=>.inl h⟩

theorem Visit.trans{es:List (Nat×Nat×Nat)}{g:Nat}{a b:Nat->Prop}{f f' f'':Nat->Bool}(h:Visit es g a f f')(k:Visit es g b f' f'')(hab:∀ x,a x->b x):Visit es g b f f'':=by
 refine⟨λ x hx=>k.up x (h.up x hx),λ x hx=>?_,λ e he hx=>?_⟩
 .rcases k.new x hx with q|q
  .rcases h.new x q with q|⟨r,hr,q⟩
   .exact .inl q
   .exact .inr ⟨r,hab r hr,q⟩
  .exact .inr q
 .rcases k.cl e he hx with q|q|q
  .rcases h.cl e he q with q|q|q
   .exact .inl q
   .exact .inr (.inl q)
   .exact .inr (.inr (k.up _ q))
  .exact .inr (.inl q)
  .exact .inr (.inr q)

theorem AQ.mono{es:List (Nat×Nat×Nat)}{rs rs':List Nat}{g x:Nat}(h:AQ es rs g x)(hr:∀ r∈rs,¬ r=g->AQ es rs' g r):AQ es rs' g x:=
 AA.rec' (es:=woE es g) (rs:=woR rs g) (p:=λ x=>AQ es rs' g x) (λ x hx=>hr x (mem_woR.1 hx).1 (mem_woR.1 hx).2) (λ e he _ ih=>ih.step (mem_woE.1 he).1 (mem_woE.1 he).2.2) h

theorem Visit.node{es:List (Nat×Nat×Nat)}{g at_:Nat}{f f':Nat->Bool}(hg:¬ at_=g)(k:Visit es g (λ y=>∃ e∈es,e.1=at_/\e.2.2=y) (updB f at_) f')(hall:∀ e∈es,e.1=at_->e.2.2=g\/f' e.2.2=true):Visit es g (λ y=>y=at_) f f':=by
 have h0:AQ es [at_] g at_:=AQ.root (by simp) hg
 refine⟨λ x hx=>k.up x (updB_true.2 (.inr hx)),λ x hx=>?_,λ e he hx=>?_⟩
 .rcases k.new x hx with q|⟨r,⟨e,he,e1,e2⟩,q⟩
  .rcases updB_true.1 q with rfl|q
   .exact .inr ⟨x,rfl,h0⟩
   .exact .inl q
  .refine .inr ⟨at_,rfl,q.mono λ r' hr' hne=>?_⟩
   obtain rfl:=List.mem_singleton.1 hr'
   rw[<- e2] at hne ⊢
   exact AQ.step (e:=e) (by rw[e1];exact h0) he hne
 .rcases k.cl e he hx with q|q|q
  .rcases updB_true.1 q with q|q
   .exact .inr (hall e he q)
   .exact .inl q
  .exact .inr (.inl q)
  .exact .inr (.inr q)

theorem Visit.all{es:List (Nat×Nat×Nat)}{rs:List Nat}{g:Nat}{f:Nat->Bool}(h:Visit es g (λ y=>y∈rs) (λ _=>false) f)(hr:∀ r∈rs,r=g\/f r=true)(x:Nat):f x=true ↔ AQ es rs g x:=by
 constructor
 .intro hx
  rcases h.new x hx with q|⟨r,hr,q⟩
  .cases q
  .exact q.mono λ r' hr' hne=>by
    obtain rfl:=List.mem_singleton.1 hr'
    exact AQ.root hr hne
 .intro k
  exact AA.rec' (es:=woE es g) (rs:=woR rs g) (p:=λ x=>f x=true) (λ x hx=>by
   have:=mem_woR.1 hx
   exact(hr x this.1).resolve_left this.2) (λ e he _ ih=>by
   have:=mem_woE.1 he
   rcases h.cl e this.1 ih with q|q|q
   .cases q
   .exact absurd q this.2.2
   .exact q) k

end

section
open Go.RowKit

structure Grq(w:World)(c0:Nat)(mo:Nat)(vs:Nat->Value)(ls:Nat->List Nat)(n:Nat):Prop where
 mp:∃ c,Bu w mo n c/\∀ k,(c k).getD (.slice none 0 0)=vs k
 row:∀ k,w.ownsRow c0 3 1 (vs k) (ls k).length (Az (ls k))
 ap:∀ k k' b,(vs k).ownBlock=some b->(vs k').ownBlock=some b->k=k'
 lt:mo<c0

def updN{β:Type}(f:Nat->β)(k:Nat)(x:β):Nat->β:=λ k'=>if k'=k then x else f k'

theorem Grq.keep{w w':World}{c0 n mo:Nat}{vs:Nat->Value}{ls:Nat->List Nat}(h:Grq w c0 mo vs ls n){S:Nat->Prop}(k:Kp S w w')(h1:¬ S mo)(h2:∀ b,c0<=b->b<w.heap.size->¬ S b):Grq w' c0 mo vs ls n:=by
 obtain⟨c,q1,q2⟩:=h.mp
 exact⟨⟨c,q1.keep k h1,q2⟩,λ j=>Ag (h.row j) k (λ b hb hs=>by have:=Ae (h.row j) hb;exact h2 b this.1 this.2 hs),h.ap,h.lt⟩

theorem Grq.look{w:World}{c0 n mo:Nat}{vs:Nat->Value}{ls:Nat->List Nat}(h:Grq w c0 mo vs ls n){k:Nat}(hk:k<9223372036854775808){t e:TypeId}(ht:prog.underlying t=some (.map 3 e))(hz:(zeroValue e).run prog w=.ok (.slice none 0 0) w):
  (Instr.lookup t (.map (some mo)) (.int .i64 (k:Nat)) false).run prog w=.ok (vs k) w:=by
 obtain⟨c,q1,q2⟩:=h.mp
 rw[q1.look hk ht hz,q2]

theorem Grq.put{w:World}{c0 n mo:Nat}{vs:Nat->Value}{ls:Nat->List Nat}(h:Grq w c0 mo vs ls n)(hn:n<maxLen){k:Nat}(hk:k<9223372036854775808){t e:TypeId}(ht:prog.underlying t=some (.map 3 e)){w0 w1:World}{v':Value}{x:Nat}
  (k0:Kp Aa w w0) (ho:w1.ownsRow c0 3 1 v' ((ls k).length+1) (Az (ls k++[x]))) (hg:w0.grownBy w1 (vs k).ownBlock) (hl:v'.ownBlock=(vs k).ownBlock\/v'.ownBlock=some w0.heap.size):
  ∃ w2,(Instr.mapUpdate t (.map (some mo)) (.int .i64 (k:Nat)) v').run prog w1=.ok () w2/\Grq w2 c0 mo (updN vs k v') (updN ls k (ls k++[x])) (n+1)/\Kp (λ b=>b=mo) w1 w2/\Kp (λ b=>b=mo\/(vs k).ownBlock=some b) w w2:=by
 have hsz:=k0.size
 have KA:Kp (λ b=>(vs k).ownBlock=some b) w w1:=(k0.Ar _).grown hg (λ b e _=>e)
 have hmm:¬ (vs k).ownBlock=some mo:=λ e=>by
  have:=Ae (h.row k) e
  have:=h.lt
  omega
 obtain⟨c,q1,q2⟩:=h.mp
 obtain⟨w2,r1,r2,r3,r4⟩:=(q1.keep KA hmm).put hn hk v' ht
 have hv1:=λ b (hb:v'.ownBlock=some b)=>Ae ho hb
 have hs:=h.lt
 have K2:Kp (λ b=>b=mo\/(vs k).ownBlock=some b) w w2:=(KA.mono λ b _ e=>.inr e).trans r3 (λ b _ e=>.inl e)
 refine⟨w2,r1,⟨⟨_,r2,λ k'=>?_⟩,λ k'=>?_,λ k1 k2 b e1 e2=>?_,h.lt⟩,r3,K2⟩
 .unfold updN
  by_cases e2:k'=k
  .simp [e2]
  .rw [if_neg e2,if_neg e2,q2]
 .unfold updN
  by_cases e:k'=k
  .subst e
   rw[if_pos rfl,if_pos rfl,List.length_append]
   exact Ag ho r3 (λ b hb e=>by have:=(hv1 b hb).1;omega)
  .rw [if_neg e,if_neg e]
   exact Ag (h.row k') K2 (λ b hb q=>by
    have:=Ae (h.row k') hb
    rcases q with q|q
    .omega
    .exact e (h.ap _ _ _ hb q))
 .have key:∀ k' b,(updN vs k v' k').ownBlock=some b->(k'=k/\v'.ownBlock=some b)\/(¬ k'=k/\(vs k').ownBlock=some b):=λ k' b q=>by
   unfold updN at q
   by_cases e:k'=k
   .rw [if_pos e] at q
    exact .inl ⟨e,q⟩
   .rw [if_neg e] at q
    exact .inr ⟨e,q⟩
  have clash:∀ k',¬ k'=k->(vs k').ownBlock=some b->v'.ownBlock=some b->False:=λ k' hne q1 q2=>by
   rcases hl with hl|hl
   .rw [hl] at q2
    exact hne (h.ap _ _ _ q1 q2)
   .rw [hl] at q2
    injection q2 with q2
    have:=Ae (h.row k') q1
    omega
  rcases key k1 b e1 with ⟨rfl,p1⟩|⟨p0,p1⟩ <;> rcases key k2 b e2 with ⟨q,p2⟩|⟨p3,p2⟩
  .exact q.symm
  .exact (clash _ p3 p2 p1).elim
  .subst q
   exact(clash _ p0 p1 p2).elim
  .exact h.ap _ _ _ p1 p2

def cellW(c:Cel):Value:=.agg #[.int .i64 (c.g:Nat),.int .u8 (c.tag:Nat),.int .i64 (c.ty:Nat),.int .i64 (c.ln:Nat),.int .i64 (c.sz:Nat)]

def CellF(L:List Cel)(F:Nat->Option Value):Prop:=(∀ c∈L,F c.g=some (cellW c))/\∀ g,(∀ c∈L,¬ c.g=g)->F g=none

theorem CellF.nil:CellF [] (λ _=>none):=⟨λ c h=>by simp at h,λ g _=>rfl⟩

theorem CellF.step{L:List Cel}{F:Nat->Option Value}(h:CellF L F){c:Cel}(hu:∀ d∈L,d.g=c.g->d=c):CellF (L++[c]) (λ g=>if g=c.g then some (cellW c) else F g):=by
 refine⟨λ d hd=>?_,λ g hg=>?_⟩
 .dsimp only
  rcases List.mem_append.1 hd with hd|hd
  .by_cases e:d.g=c.g
   .rw [if_pos e,hu d hd e]
   .rw [if_neg e]
    exact h.1 d hd
  .rw [List.mem_singleton.1 hd,if_pos rfl]
 .dsimp only
  rw[if_neg (λ e=>hg c (by simp) e.symm)]
  exact h.2 g λ d hd=>hg d (by simp[hd])

def EN(es:List (Nat×Nat×Nat))(x:Nat):List Nat:=(outE es x).map λ e=>e.2.2

theorem outN_add(es:List (Nat×Nat×Nat))(x:Nat×Nat×Nat):updN (EN es) x.1 (EN es x.1++[x.2.2])=EN (es++[x]):=by
 funext k
 unfold updN EN outE
 by_cases e:k=x.1
 .subst e
  rw[if_pos rfl]
  simp
 .rw [if_neg e]
  have:¬ x.1=k:=λ h=>e h.symm
  simp[this]

def E8(w:World)(b s:Nat)(v:Value)(os:List Cel)(es:List (Nat×Nat×Nat))(mp mq H:Nat)(fm:Nat->Bool):Prop:=
 ∃ mc mo n co F,w.heap[b]?=some (.cells #[.pointer (some ⟨s,0,none⟩),v,.map (some mc),.map (some mo),.pointer (some ⟨mp,0,none⟩)] 122 (0,0))/\
  Bu w mc n F/\CellF os F/\(Bu w mo n co/\∀ k,Bz w ((co k).getD (.slice none 0 0)) (EN es k))/\AC w mp mq fm H

theorem E8.Ad{w w':World}{b s:Nat}{v:Value}{os:List Cel}{es:List (Nat×Nat×Nat)}{mp mq H:Nat}{fm:Nat->Bool}(h:E8 w b s v os es mp mq H fm)(k:Kp Aa w w'):E8 w' b s v os es mp mq H fm:=by
 obtain⟨mc,mo,n,co,F,h1,h2,h3,⟨h4,h5⟩,h6⟩:=h
 exact⟨mc,mo,n,co,F,k.at_ h1 (λ h=>h),h2.keep k (λ h=>h),h3,⟨h4.keep k (λ h=>h),λ j=>(h5 j).Ad k⟩,h6.keep k (λ h=>h) (λ h=>h)⟩

theorem Ci:prog.underlying 118=some (.map 3 113):=by kernel_rfl

theorem DN:prog.underlying 119=some (.map 3 24):=by kernel_rfl

theorem zeroInts(w:World):(zeroValue 24).run prog w=.ok (.slice none 0 0) w:=by kernel_rfl

theorem zeroCell(w:World):(zeroValue 113).run prog w=.ok (.agg #[.int .i64 0,.int .u8 0,.int .i64 0,.int .i64 0,.int .i64 0]) w:=by kernel_rfl

end

section
open Go.RowKit

theorem Bu.blk{w:World}{b n:Nat}{c:Nat->Option Value}(h:Bu w b n c):∃ es k,w.heap[b]?=some (.map es k):=by
 obtain⟨D,⟨es,clock,h1,-⟩,-⟩:=h
 exact⟨_,_,h1⟩

theorem Bu.noCell{w:World}{b n o:Nat}{c:Nat->Option Value}{v:Value}{b':Nat}(h:Bu w b n c)(hc:w.cell? ⟨b',o,none⟩=some v):¬ b'=b:=by
 rintro rfl
 obtain⟨es,k,h1⟩:=h.blk
 simp[World.cell?,h1] at hc

theorem RowC.keepM{w w':World}{v:Value}{cs:List Cel}{b n:Nat}{c:Nat->Option Value}(h:RowC w v cs)(hm:Bu w b n c)(k:Kp (λ i=>i=b) w w'):RowC w' v cs:=by
 obtain⟨a,cap,rfl,h⟩:=h
 refine⟨a,cap,rfl,λ i x hi=>?_⟩
 obtain⟨b',rfl,h1,h2,h3,h4,h5,h6⟩:=h i x hi
 exact⟨b',rfl,Nat.lt_of_lt_of_le h1 k.size,k.cell h2 (hm.noCell h2),k.cell h3 (hm.noCell h3),k.cell h4 (hm.noCell h4),k.cell h5 (hm.noCell h5),k.cell h6 (hm.noCell h6)⟩

theorem Dj{w:World}{b mc mo s mp:Nat}{v:Value}(h:w.heap[b]?=some (.cells #[.pointer (some ⟨s,0,none⟩),v,.map (some mc),.map (some mo),.pointer (some ⟨mp,0,none⟩)] 122 (0,0))):
  w.cell? ⟨b,0,none⟩=some (.pointer (some ⟨s,0,none⟩))/\w.cell? ⟨b,1,none⟩=some v/\w.cell? ⟨b,2,none⟩=some (.map (some mc))/\w.cell? ⟨b,3,none⟩=some (.map (some mo))/\w.cell? ⟨b,4,none⟩=some (.pointer (some ⟨mp,0,none⟩)):=by
 refine⟨?_,?_,?_,?_,?_⟩ <;> simp[World.cell?,h]

theorem poll_new(w1:World)(s mp:Nat)(v:Value):∃ w4,w4=(((w1.alloc (.map #[] 0)).alloc (.map #[] 0)).alloc (.cells #[.pointer (some ⟨s,0,none⟩),v,.map (some w1.heap.size),.map (some (w1.heap.size+1)),.pointer (some ⟨mp,0,none⟩)] 122))/\
  (Bu w4 w1.heap.size 0 (λ _=>none)/\Bu w4 (w1.heap.size+1) 0 (λ _=>none))/\
  w4.heap[w1.heap.size+1+1]?=some (.cells #[.pointer (some ⟨s,0,none⟩),v,.map (some w1.heap.size),.map (some (w1.heap.size+1)),.pointer (some ⟨mp,0,none⟩)] 122 (0,0))/\w4.heap.size=w1.heap.size+3/\Kp Aa w1 w4:=by
 refine⟨_,rfl,⟨?_,?_⟩,?_,by simp,((Kr _ w1).alloc _).alloc _ |>.alloc _⟩
 .exact (Bu.made w1).keep (S:=Aa) (((Kr _ _).alloc _).alloc _) (λ h=>h)
 .have:=(Bu.made (w1.alloc (.map #[] 0))).keep (S:=Aa) ((Kr _ _).alloc (.cells #[.pointer (some ⟨s,0,none⟩),v,.map (some w1.heap.size),.map (some (w1.heap.size+1)),.pointer (some ⟨mp,0,none⟩)] 122)) (λ h=>h)
  rwa [show (w1.alloc (.map #[] 0)).heap.size=w1.heap.size+1 by simp] at this
 .have:=wN ((w1.alloc (.map #[] 0)).alloc (.map #[] 0)) (.cells #[.pointer (some ⟨s,0,none⟩),v,.map (some w1.heap.size),.map (some (w1.heap.size+1)),.pointer (some ⟨mp,0,none⟩)] 122)
  rwa [show ((w1.alloc (.map #[] 0)).alloc (.map #[] 0)).heap.size=w1.heap.size+1+1 by simp] at this

theorem Grq.nil{w:World}{c0 mo:Nat}(h:Bu w mo 0 (λ _=>none))(hl:mo<c0):Grq w c0 mo (λ _=>.slice none 0 0) (EN []) 0:=
 ⟨⟨_,h,λ k=>rfl⟩,λ k=>World.ownsRow_nil _ _ _ _,λ k k' b h=>(by cases h),hl⟩

def ObLoop(w5:World)(mc:Nat)(os:List Cel)(x:Value)(j:Nat)(wr:World):Prop:=
 x=.int .i64 (j:Nat)/\j<=os.length/\(∃ F,Bu wr mc j F/\CellF (os.take j) F)/\Kp (λ b=>b=mc) w5 wr

def OuLoop(w5:World)(mo c0:Nat)(es:List (Nat×Nat×Nat))(x:Value)(j:Nat)(wr:World):Prop:=
 x=.int .i64 (j:Nat)/\j<=es.length/\(∃ vs n,n<=j/\Grq wr c0 mo vs (EN (es.take j)) n)/\Kp (λ b=>b=mo\/c0<=b) w5 wr

def COfPost(s:Nat)(os:List Cel)(es:List (Nat×Nat×Nat))(H:Nat)(v:Value)(xs:List Nat)(w:World)(e:Ending)(w':World):Prop:=
 ∃ b mp mq fm,e=.returned (.tuple #[.pointer (some ⟨b,0,none⟩),.int .i64 0])/\E8 w' b s v os es mp mq H fm/\(∀ g,fm g=true ↔ AA es xs g)/\Kp Aa w w'

set_option maxRecDepth 20000 in
theorem COf_at(P:Sp)(W:Nat->Nat)(f:Nat->Bool)(w:World)(cs:List Cel)(hsp:SpaceAt w P W f)(hc:CellsAt P W cs)(hne:cs≠[])(hst:∀ i,i<P.n/2->f i=Ap cs i)(hms:∀ x∈P.ts,x.m<18446744073709551616)(v:Value)(xs:List Nat)(hx:Bz w v xs)(hxo:∀ g∈xs,De cs g)(hxl:xs.length<=65536):
  Calls prog 52 #[.pointer (some ⟨P.s,0,none⟩),v] w (COfPost P.s (Ak cs) (AP P.ts W cs) (P.n/2) v xs w):=by
 obtain⟨va,vc,rfl,-⟩:=id hx
 obtain⟨H,hH⟩:∃ H,P.n/2=H:=⟨_,rfl⟩
 have hH65:H<=65536:=by have:=hsp.bt.small';omega
 have HMk:=sE (MarkOf_at P W f 4096 w cs hsp hc hst hms (by omega) (by omega) _ xs hx hxo hxl)
 have HEd:Sl (∀ W',Kp Aa w W'->_):=⟨λ W' kk=>Edges_at P W f cs W' (hsp.Ad kk) hc hms⟩
 have HObj:Sl (∀ W',Kp Aa w W'->_):=⟨λ W' kk=>Objects_at P cs W' ⟨W,f,hsp.Ad kk,hc,hst⟩ hne⟩
 have HRe:Sl (∀ g,MReach (Du f (P.n/2) P.ts W cs) (λ g=>g∈xs) g ↔ AA (AP P.ts W cs) xs g):=⟨λ g=>reach_marks hc hst hxo g⟩
 have HEl:Sl ((AP P.ts W cs).length<=2147483648/\∀ x∈AP P.ts W cs,x.1<P.n/2/\x.2.2<P.n/2):=⟨Nat.le_trans (DC cs _) (hc.to.refs_len hsp.ar.small),λ x hx=>⟨DV hc (EF hc hst hx).1,DV hc (EF hc hst hx).2.1⟩⟩
 have HOl:Sl ((Ak cs).length<=65536/\(∀ c∈Ak cs,c.g<P.n/2)/\∀ c∈Ak cs,∀ d∈Ak cs,d.g=c.g->d=c):=⟨by
  refine⟨?_,λ c hcc=>DV hc ⟨c,(AR.1 hcc).1,(AR.1 hcc).2,rfl⟩,λ c hcc d hd e=>?_⟩
  .have h1:(Ak cs).length<=cs.length:=List.length_filter_le _ _
   have h2:=BP hc.tl
   omega
  .exact hc.tl.only (AR.1 hd).1 (AR.1 hcc).1 e⟩
 obtain⟨KF,hKF⟩:∃ KF,Du f (P.n/2) P.ts W cs=KF:=⟨_,rfl⟩
 obtain⟨es,hes⟩:∃ es,AP P.ts W cs=es:=⟨_,rfl⟩
 obtain⟨os,hos⟩:∃ os,Ak cs=os:=⟨_,rfl⟩
 rw[hKF] at HMk HRe
 rw[hes] at HEd HEl HRe ⊢
 rw[hos] at HObj HOl ⊢
 rw[hH] at HMk HEl HOl ⊢
 obtain⟨L,hL⟩:∃ L,xs.length=L:=⟨_,rfl⟩
 rw[hL] at HMk ⊢
 clear hsp hc hst hms hx hxo hxl hne hH hKF hes hos hL
 go_enter func52,ntmps52
 go_wp2_with fail
 refine HMk.out.mono ?_
 rintro e w1 ⟨mp,mq,fm,n1,dp,ag,rfl,hb1,-,-,-,hr1,-,-,-,k1⟩
 have HB1:=sE hb1
 have HK1:=sE k1
 have HFm:Sl (∀ g,fm g=true ↔ AA es xs g):=⟨λ g=>(hr1 g).trans (HRe.out g)⟩
 clear hb1 k1 hr1 HRe HMk
 obtain⟨w2,hw2⟩:∃ w2,w2=w1.alloc (.cells #[.int .i64 (n1:Nat),.int .i64 (dp:Nat),.int .i64 (ag:Nat)] 144):=⟨_,rfl⟩
 have hz2:w2.heap.size=w1.heap.size+1:=by rw[hw2];simp
 have k2:Kp Aa w1 w2:=by rw[hw2];exact (Kr _ w1).alloc _
 have HB2:Sl (AC w2 mp mq fm H):=⟨HB1.out.keep k2 (λ h=>h) (λ h=>h)⟩
 have HK2:Sl (Kp Aa w w2):=⟨HK1.out.then' k2⟩
 have hmm:=@run_makeMap prog
 go_wp2_with fail
 try rw[<- hw2]
 clear hw2 k2 HB1 HK1
 obtain⟨w4,hw4,⟨hm0,hm1⟩,hg4,hz4,k4⟩:=poll_new w2 P.s mp (.slice va L vc)
 rw[hz2] at hw4 hm0 hm1 hg4 hz4
 rw[<- hw4]
 clear hw4 hmm
 obtain⟨mc,hmc⟩:∃ m,w1.heap.size+1=m:=⟨_,rfl⟩
 have hw2z:=HK2.out.size
 have hp2:=HB2.out.lt_p'
 have hq2:=HB2.out.lt_q'
 rw[hz2] at hw2z hp2 hq2
 rw[hmc] at hm0 hm1 hg4 hz4 hp2 hq2 hw2z ⊢
 obtain⟨mo,hmo⟩:∃ m,mc+1=m:=⟨_,rfl⟩
 rw[hmo] at hm1 hg4 ⊢
 obtain⟨pb,hpb⟩:∃ m,mo+1=m:=⟨_,rfl⟩
 rw[hpb] at hg4 ⊢
 have K4:Sl (Kp Aa w w4):=⟨HK2.out.then' k4⟩
 have HB4:Sl (AC w4 mp mq fm H):=⟨HB2.out.keep k4 (λ h=>h) (λ h=>h)⟩
 refine(HObj.out w4 K4.out).mono ?_
 rintro e w5 ⟨oa,oc,rfl,hr5,k5⟩
 obtain⟨N,hN⟩:∃ n,os.length=n:=⟨_,rfl⟩
 rw[hN] at hr5 ⊢
 have hN65:N<=65536:=by have:=HOl.out.1;omega
 have HN:Sl (os.length=N):=⟨hN⟩
 have hz5:=k5.size
 have HR5:Sl (RowC w5 (.slice oa N oc) os):=⟨hr5⟩
 have HG5:Sl (w5.heap[pb]?=some (.cells #[.pointer (some ⟨P.s,0,none⟩),.slice va L vc,.map (some mc),.map (some mo),.pointer (some ⟨mp,0,none⟩)] 122 (0,0))):=⟨k5.at_ hg4 (λ h=>h)⟩
 have HM5:Sl (Bu w5 mc 0 (λ _=>none)):=⟨hm0.keep k5 (λ h=>h)⟩
 have HO5:Sl (Bu w5 mo 0 (λ _=>none)):=⟨hm1.keep k5 (λ h=>h)⟩
 have HB5:Sl (AC w5 mp mq fm H):=⟨HB4.out.keep k5 (λ h=>h) (λ h=>h)⟩
 have HK5:Sl (Kp Aa w w5):=⟨K4.out.then' k5⟩
 have HZ:Sl (w.heap.size<=mc/\mp<mc/\mq<mc/\mo=mc+1/\pb=mc+2/\mc+3<=w5.heap.size):=⟨by omega⟩
 clear hz2 hr5 hN hg4 hm0 hm1 k5 k4 hz5 hz4 hp2 hq2 hw2z hmc hmo hpb HB4 K4 HB2 HK2
 go_wp2_with fail
 go_loopw [34] (λ x34 wr=>∃ j,ObLoop w5 mc os x34 j wr) (λ x34 wr=>N-(intOf x34).toNat)
 case atStart=>exact ⟨0,rfl,Nat.zero_le _,⟨_,HM5.out,CellF.nil⟩,Kr _ _⟩
 case round=>
  obtain⟨j,rfl,hj,⟨F,hF1,hF2⟩,hkk⟩:=hrel
  rw[HN.out] at hj
  have HKK:=sE hkk
  have hrr:=HR5.out.keepM HM5.out hkk
  have hgr:=hkk.at_ HG5.out (λ h=>by have:=HZ.out;have h':pb=mc:=h;omega)
  obtain⟨gc0,gc1,gc2,gc3,gc4⟩:=Dj hgr
  by_cases hjl:j<N
  .have hjl':(j:Int)<(N:Int):=by omega
   obtain⟨c,hc⟩:∃ c,os[j]?=some c:=⟨os[j]'(by rw[HN.out];exact hjl),by simp⟩
   have hcm:=List.mem_of_getElem? hc
   have HCm:Sl (c∈os):=⟨hcm⟩
   have hcH:=HOl.out.2.1 c hcm
   have HTk:Sl (os.take (j+1)=os.take j++[c]):=⟨by rw[List.take_add_one,hc];rfl⟩
   obtain⟨oa',oc',hoa,hcells⟩:=id hrr
   obtain⟨ob,hob,hob0,x0,x1,x2,x3,x4⟩:=hcells j c hc
   have hoa2:oa=some ⟨ob,0,none⟩:=by injection hoa with h1;rw [h1];exact hob
   subst hoa2
   clear hcells hoa hob hkk hc hcm
   go_wp2_with fail
   obtain⟨wA,hwA⟩:∃ wA,wA=wr.alloc (.cells #[.int .i64 (c.g:Nat),.int .u8 (c.tag:Nat),.int .i64 (c.ty:Nat),.int .i64 (c.ln:Nat),.int .i64 (c.sz:Nat)] 113):=⟨_,rfl⟩
   have kA:Kp Aa wr wA:=by rw[hwA];exact (Kr _ wr).alloc _
   have bA:wA.heap[wr.heap.size]?=some (.cells #[.int .i64 (c.g:Nat),.int .u8 (c.tag:Nat),.int .i64 (c.ty:Nat),.int .i64 (c.ln:Nat),.int .i64 (c.sz:Nat)] 113 (0,0)):=by rw[hwA];exact wN wr _
   rw[<- hwA]
   obtain⟨xb,hxb⟩:∃ b,wr.heap.size=b:=⟨_,rfl⟩
   rw[hxb] at bA ⊢
   have hgA:=kA.at_ hgr (λ h=>h)
   obtain⟨g0,g1,g2,g3,g4⟩:=Dj hgA
   obtain⟨e0,e1,e2,e3,e4⟩:=cells5' bA
   have HFA:Sl (Bu wA mc j F):=⟨hF1.keep kA (λ h=>h)⟩
   have HKA:=sE kA
   clear hwA bA x0 x1 x2 x3 x4 gc0 gc1 gc2 gc3 gc4 hgr hgA hrr hF1 kA
   refine Bj 7 (by kernel_rfl) (by kernel_rfl) ?_
   simp only[List.take_succ_cons,List.take_zero,List.drop_succ_cons,List.drop_zero]
   repeat (go_big_quiet_step (fail))
   refine wpQuiet_nil ?_
   intro _ hw'
   obtain⟨nq,hw''⟩:=hw'
   subst hw''
   have kd:Kp Aa wA (wA.drewN nq):=Kp.Ah nq
   obtain⟨wp,hput,hF3,kp,zp⟩:=(HFA.out.keep kd (λ h=>h)).put (by unfold maxLen;omega) (g:=c.g) (by omega) (.agg #[.int .i64 (c.g:Nat),.int .u8 (c.tag:Nat),.int .i64 (c.ty:Nat),.int .i64 (c.ln:Nat),.int .i64 (c.sz:Nat)]) Ci
   have HFp:=sE hF3
   have HKp:Sl (Kp (λ b=>b=mc) wr wp):=⟨((HKA.out.trans kd (λ _ _ h=>h)).Ar _).trans kp (λ _ _ h=>h)⟩
   have HCF:Sl (CellF (os.take (j+1)) _):=⟨by rw[HTk.out];exact hF2.step λ d hd e=>HOl.out.2.2 c HCm.out d (List.mem_of_mem_take hd) e⟩
   clear hF3 kp zp kd hF2 g0 g1 g2 g3 g4 e0 e1 e2 e3 e4
   go_wp2
   exact⟨⟨j+1,by go_num,by rw[HN.out];omega,⟨_,HFp.out,HCF.out⟩,HKK.out.trans HKp.out (λ b _ h=>h)⟩,by simp only[intOf];omega⟩
  .have hjl':¬ (j:Int)<(N:Int):=by omega
   obtain rfl:j=N:=by omega
   have HCF:Sl (CellF os F):=⟨by
    rw[List.take_of_length_le (by rw[HN.out];omega)] at hF2
    exact hF2⟩
   have hz:=HZ.out
   have HF6:Sl (Bu wr mc j F):=⟨hF1⟩
   have HO6:Sl (Bu wr mo 0 (λ _=>none)):=⟨HO5.out.keep hkk (λ h=>by have h':mo=mc:=h;omega)⟩
   have HB6:Sl (AC wr mp mq fm H):=⟨HB5.out.keep hkk (λ h=>by have h':mp=mc:=h;omega) (λ h=>by have h':mq=mc:=h;omega)⟩
   have HG6:=sE hgr
   have HK6:Sl (Kp Aa w wr):=⟨HK5.out.trans hkk (λ b hb h=>by have h':b=mc:=h;omega)⟩
   have HZ6:Sl (w.heap.size<=mc/\mp<mc/\mq<mc/\mo=mc+1/\pb=mc+2/\mc+3<=wr.heap.size):=⟨by have:=hkk.size;omega⟩
   obtain⟨w6,rfl⟩:∃ w6,w6=wr:=⟨_,rfl⟩
   clear hgr gc0 gc1 gc2 gc3 gc4 hrr hkk hF1 hF2 HR5 HG5 HM5 HO5 HB5 HK5 HKK HZ hz hj hjl
   go_wp2_with fail
   refine(HEd.out w6 HK6.out).mono ?_
   rintro e w7 ⟨ev,rfl,he,k7⟩
   obtain⟨ea,ec,rfl⟩:=AJ he
   obtain⟨EL,hEL⟩:∃ n,es.length=n:=⟨_,rfl⟩
   rw[hEL] at he ⊢
   have hEL2:EL<=2147483648:=by have:=HEl.out.1;omega
   have hz7:=k7.size
   obtain⟨c0,hc0⟩:∃ c,w7.heap.size=c:=⟨_,rfl⟩
   rw[hc0] at hz7
   have HE7:Sl (w7.ownsRow w6.heap.size 70 3 (.slice ea EL ec) EL (BZ es)):=⟨he⟩
   have HEL:Sl (es.length=EL):=⟨hEL⟩
   have HC7:Sl (w7.heap.size=c0):=⟨hc0⟩
   have HF7:Sl (Bu w7 mc j F):=⟨HF6.out.keep k7 (λ h=>h)⟩
   have HO7:Sl (Bu w7 mo 0 (λ _=>none)):=⟨HO6.out.keep k7 (λ h=>h)⟩
   have HB7:Sl (AC w7 mp mq fm H):=⟨HB6.out.keep k7 (λ h=>h) (λ h=>h)⟩
   have HG7:=sE (k7.at_ HG6.out (λ h=>h))
   have HK7:Sl (Kp Aa w w7):=⟨HK6.out.then' k7⟩
   have HZ7:Sl (w.heap.size<=mc/\mp<mc/\mq<mc/\mo=mc+1/\pb=mc+2/\mc+3<=w6.heap.size/\w6.heap.size<=c0):=⟨by have:=HZ6.out;omega⟩
   have hj65:j<=65536:=hN65
   clear he hEL k7 hc0 HF6 HO6 HB6 HG6 HK6 HZ6
   go_wp2_with fail
   go_loopw [49] (λ x49 wr=>∃ i,OuLoop w7 mo c0 es x49 i wr) (λ x49 wr=>EL-(intOf x49).toNat)
   case atStart=>exact ⟨0,rfl,Nat.zero_le _,⟨_,0,Nat.le_refl _,Grq.nil HO7.out (by have:=HZ7.out;omega)⟩,Kr _ _⟩
   case round=>
    obtain⟨i,rfl,hi,⟨vs,n,hn,hGr⟩,hkk⟩:=hrel
    rw[HEL.out] at hi
    have HKK:=sE hkk
    have hzr:=hkk.size
    rw[HC7.out] at hzr
    have hrow:=Ag HE7.out hkk (λ b hb h=>by have:=Ae HE7.out hb;have:=HZ7.out;have:=HC7.out;omega)
    have hgr:=hkk.at_ HG7.out (λ h=>by have:=HZ7.out;omega)
    obtain⟨gc0,gc1,gc2,gc3,gc4⟩:=Dj hgr
    by_cases hil:i<EL
    .have hil':(i:Int)<(EL:Int):=by omega
     obtain⟨x,hx⟩:∃ x,es[i]?=some x:=⟨es[i]'(by rw[HEL.out];exact hil),by simp⟩
     have hrowE:RowE wr (.slice ea EL ec) es:=RowE.Be (base:=w6.heap.size) (by rw[HEL.out];exact hrow)
     obtain⟨ea',ec',hea,hcells⟩:=hrowE
     obtain⟨eb,heb,heb0,x0,x1,x2⟩:=hcells i x hx
     have hea2:ea=some ⟨eb,0,none⟩:=by injection hea with h1;rw [h1];exact heb
     subst hea2
     have hxl:=HEl.out.2 x (List.mem_of_getElem? hx)
     have HTk:Sl (es.take (i+1)=es.take i++[x]):=⟨by rw[List.take_add_one,hx];rfl⟩
     have htl:(es.take i).length=i:=by rw[List.length_take,HEL.out];omega
     clear hcells hea heb hrow hkk hx
     go_wp2_with fail
     obtain⟨wA,hwA⟩:∃ wA,wA=wr.alloc (.cells #[.int .i64 (x.1:Nat),.int .i64 (x.2.1:Nat),.int .i64 (x.2.2:Nat)] 70):=⟨_,rfl⟩
     have kA:Kp Aa wr wA:=by rw[hwA];exact (Kr _ wr).alloc _
     have bA:wA.heap[wr.heap.size]?=some (.cells #[.int .i64 (x.1:Nat),.int .i64 (x.2.1:Nat),.int .i64 (x.2.2:Nat)] 70 (0,0)):=by rw[hwA];exact wN wr _
     have zA:=kA.size
     rw[<- hwA]
     obtain⟨xb,hxb⟩:∃ b,wr.heap.size=b:=⟨_,rfl⟩
     rw[hxb] at bA zA hzr ⊢
     have hgA:=kA.at_ hgr (λ h=>h)
     obtain⟨-,-,-,g3,-⟩:=Dj hgA
     obtain⟨e0,-,e2⟩:=cells3 bA
     have hGA:=hGr.keep kA (λ h=>h) (λ _ _ _ h=>h)
     have hpz:pb<c0:=by have:=HZ7.out;omega
     have hmoz:mo<c0:=by have:=HZ7.out;omega
     have hpm:¬ pb=mo:=by have:=HZ7.out;omega
     clear hwA bA x0 x1 x2 gc0 gc1 gc2 gc3 gc4 hgr hgA
     obtain⟨va1,vc1,hv1⟩:=AJ (hGA.row x.1)
     have hl1:∀ W',Kp Aa wA W'->(Instr.lookup 119 (.map (some mo)) (.int .i64 (x.1:Nat)) false).run prog W'=.ok (.slice va1 (EN (es.take i) x.1).length vc1) W':=λ W' kk=>by
      rw[<- hv1]
      exact(hGA.keep kk (λ h=>h) (λ _ _ _ h=>h)).look (by omega) DN (zeroInts _)
     obtain⟨M,hM⟩:∃ M,(EN (es.take i) x.1).length=M:=⟨_,rfl⟩
     have hMl:M<=EL:=by
      rw[<- hM]
      have h1:(EN (es.take i) x.1).length<=(es.take i).length:=by
       unfold EN outE
       rw[List.length_map]
       exact List.length_filter_le _ _
      omega
     rw[hM] at hl1 hv1
     refine wp_region_held_drew (S:=λ w'=>w'.cell? ⟨pb,3,none⟩=some (.map (some mo))/\w'.cell? ⟨xb,0,none⟩=some (.int .i64 (x.1:Nat))/\w'.cell? ⟨xb,2,none⟩=some (.int .i64 (x.2.2:Nat))) (by kernel_rfl) ?_ (λ qZ=>?_)
     .exact ⟨g3,e0,e2⟩
     refine Ao 0 ?_;refine Ao 1 ?_;refine Ao 2 ?_;refine Ao 3 ?_;refine Ao 4 ?_;refine Ao 5 ?_;refine Ao 6 ?_;refine Ao 7 ?_;refine Ao 8 ?_
     try simp only[Ay]
     refine Ao 9 ?_;refine Ao 10 ?_;refine Ao 11 ?_;refine Ao 13 ?_;refine Ao 14 ?_
     try simp only[Ay]
     have kd:Kp Aa wA wA.drew:=(Kr _ _).drew
     have ke:Kp Aa wA (wA.alloc (.cells #[.int .i64 (x.2.2:Nat)] 3)).drew:=((Kr _ _).alloc _).drew
     have l0:=hl1 _ kd
     have l1:=hl1 _ ke
     refine Bl [12,15] ?_
     refine Aj rfl (λ K hK=>?_) (Af rfl (λ K hK=>?_))
     go_simp
     refine hK _ _ ?_ (λ qZ=>?_)
     .exact ⟨Ac kd g3,Ac kd e0,Ac kd e2⟩
     clear hK K
     try simp only[Ay]
     refine Bl [15] ?_
     refine Af rfl (λ K hK=>?_)
     go_simp
     refine hK _ _ ?_ (λ qZ=>?_)
     .exact ⟨Ac ke g3,Ac ke e0,Ac ke e2⟩
     clear hK K
     try simp only[Ay]
     rotate_left
     go_simp
     refine hK _ _ ?_ (λ qZ=>?_)
     .exact ⟨Ac ke g3,Ac ke e0,Ac ke e2⟩
     clear hK K
     try simp only[Ay]
     refine Bl [12] ?_
     refine Af rfl (λ K hK=>?_)
     go_simp
     refine hK _ _ ?_ (λ qZ=>?_)
     .exact ⟨Ac ke g3,Ac ke e0,Ac ke e2⟩
     clear hK K
     try simp only[Ay]
     all_goals
      clear l0 l1 kd
      obtain⟨wB,hwB⟩:∃ w6,w6=(wA.alloc (.cells #[.int .i64 (x.2.2:Nat)] 3)).drew:=⟨_,rfl⟩
      rw[<- hwB] at ke ⊢
      have bn:wB.heap[wA.heap.size]?=some (.cells #[.int .i64 (x.2.2:Nat)] 3 (0,0)):=by rw[hwB];exact wN wA _
      clear hwB
      have o6:=Ag (hGA.row x.1) ke (λ _ _ h=>h)
      rw[hv1,hM] at o6
      have hz6:=ke.size
      obtain⟨i0,hi0,hz0,hz1,hz2⟩:=info_parts Ch
      refine Bl [16] ?_
      refine Af rfl (λ K hK=>?_)
      refine Ed rfl rfl (.tmp 65) (.tmp 68) 24 rfl c0 3 i0 (.int .i64 0) 1 8 AU hi0 hz0 hz1 hz2 rfl (by omega) (.slice va1 M vc1) M _ rfl o6 ⟨wA.heap.size,0,none⟩ 1 _ [.int .i64 (x.2.2:Nat)] rfl rfl (World.news_of_block bn) (by intro u hu;simp at hu;subst hu;rfl) (by unfold maxLen;omega) (by omega) (by omega) ?_
      intro nv w8 hown7 hgrow hblk
      obtain⟨na,nc,rfl⟩:=AJ hown7
      clear hi0 hz0 hz1 hz2
      have hrb:∀ b,(Value.slice va1 M vc1).ownBlock=some b->c0<=b/\b<xb:=λ b hb=>⟨(Ae o6 hb).1,by have:=(Ae (hGr.row x.1) (b:=b) (by rw[hv1];exact hb)).2;omega⟩
      have KA:Kp (λ b=>(Value.slice va1 M vc1).ownBlock=some b) wB w8:=(Kr _ wB).grown hgrow (λ k e _=>e)
      obtain⟨w9,hput,hG9,k89,k9⟩:=hGA.put (by unfold maxLen;omega) (k:=x.1) (by omega) DN (x:=x.2.2) ke (by rw[hM];simpa [Az] using hown7) (by rw[hv1];exact hgrow) (by rw[hv1];exact hblk)
      have ng:¬ (Value.slice va1 M vc1).ownBlock=some pb:=λ h=>by have:=hrb _ h;omega
      have nx:¬ (Value.slice va1 M vc1).ownBlock=some xb:=λ h=>by have:=hrb _ h;omega
      have ag3:=KA.cell (Ac ke g3) ng
      have ae0:=KA.cell (Ac ke e0) nx
      have ae2:=KA.cell (Ac ke e2) nx
      refine hK _ _ ?_ (λ qZ=>?_)
      .exact ⟨ag3,ae0,ae2⟩
      clear hK K
      try simp only[Ay]
      have hput':(Instr.mapUpdate 119 (.map (some mo)) (.int .i64 (x.1:Nat)) (.slice na (M+1) nc)).run prog w8=.ok () w9:=hput
      refine Bl [17] ?_
      refine Af rfl (λ K hK=>?_)
      go_simp
      have bg3:=k89.cell ag3 (by intro h;have h':pb=mo:=h;omega)
      have be0:=k89.cell ae0 (by intro h;have h':xb=mo:=h;omega)
      have be2:=k89.cell ae2 (by intro h;have h':xb=mo:=h;omega)
      refine hK _ _ ?_ (λ qZ=>?_)
      .exact ⟨bg3,be0,be2⟩
      clear hK K
      try simp only[Ay]
      refine wpAnyH_done (by kernel_rfl) ?_ _
      have KK9:Sl (Kp (λ b=>b=mo\/c0<=b) wr w9):=⟨(kA.Ar _).trans k9 (λ b hb h=>by
       rcases h with h|h
       .exact .inl h
       .rw [hv1] at h;exact .inr (hrb b h).1)⟩
      have HG9:Sl (∃ vs n,n<=i+1/\Grq w9 c0 mo vs (EN (es.take (i+1))) n):=⟨⟨_,n+1,by omega,by rw[HTk.out,<- outN_add];exact hG9⟩⟩
      clear ag3 ae0 ae2 bg3 be0 be2 hput hput' k89 k9 KA ng nx hrb hown7 hgrow hblk bn o6 ke hz6 qZ i0 g3 e0 e2 hG9 hGA hGr
      go_wp2
      exact⟨⟨i+1,by go_num,by rw[HEL.out];omega,HG9.out,HKK.out.trans KK9.out (λ b _ h=>h)⟩,by simp only[intOf];omega⟩
    .have hil':¬ (i:Int)<(EL:Int):=by omega
     obtain rfl:i=EL:=by omega
     have hz:=HZ7.out
     have HGE:Sl (Grq wr c0 mo vs (EN es) n):=⟨by
      have:=hGr
      rwa [List.take_of_length_le (by rw[HEL.out];omega)] at this⟩
     have HFE:Sl (Bu wr mc j F):=⟨HF7.out.keep hkk (λ h=>by have:=HC7.out;omega)⟩
     have HBE:Sl (AC wr mp mq fm H):=⟨HB7.out.keep hkk (λ h=>by omega) (λ h=>by omega)⟩
     have HKE:Sl (Kp Aa w wr):=⟨HK7.out.trans hkk (λ b hb h=>by have:=HC7.out;omega)⟩
     have HGr:=sE hgr
     clear hz hgr gc0 gc1 gc2 gc3 gc4 hrow hkk hGr
     go_wp2
     go_ret2
     obtain⟨co,q1,q2⟩:=HGE.out.mp
     refine⟨pb,mp,mq,fm,rfl,⟨mc,mo,max j n,co,F,HGr.out,HFE.out.mono (Nat.le_max_left _ _),HCF.out,⟨q1.mono (Nat.le_max_right _ _),λ k=>?_⟩,HBE.out⟩,HFm.out,HKE.out⟩
     .rw [q2]
      have hrk:=HGE.out.row k
      obtain⟨a,c,hv⟩:=AJ hrk
      rw[hv] at hrk ⊢
      exact Bz.Be hrk

end

end Go.Proofs.YtfkedlgpgmaemaaGreatDoor
