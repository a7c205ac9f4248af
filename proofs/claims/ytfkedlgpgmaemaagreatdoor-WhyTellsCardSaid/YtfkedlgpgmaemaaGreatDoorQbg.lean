/-
  Lemmas for the laws, together: Grp, WhyQ, WhyG.
-/
import Derived.Test.YtfkedlgpgmaemaaGreatDoorQbf
import Derived.Test.YtfkedlgpgmaemaaGreatDoorQbd
import Derived.Test.YtfkedlgpgmaemaaGreatDoorQai
set_option linter.unusedVariables false
set_option maxHeartbeats 16000000
namespace Go.Proofs.YtfkedlgpgmaemaaGreatDoor
open Tryz
section
open Go.RowKit

structure Grp{α:Type}(T:TypeId)(sz:Nat)(enc:α->List Value)(w:World)(c0:Nat)(mm:Bool->Nat)(vs:Bool->Nat->Value)(ls:Bool->Nat->List α)(n:Nat):Prop where
 mp:∀ s,∃ c,BS w (mm s) n c/\∀ k,(c k).getD (.slice none 0 0)=vs s k
 row:∀ s k,w.ownsRow c0 T sz (vs s k) (ls s k).length ((ls s k).flatMap enc)
 ap:∀ s k s' k' b,(vs s k).ownBlock=some b->(vs s' k').ownBlock=some b->s=s'/\k=k'
 ne:¬ mm true=mm false
 lt:∀ s,mm s<c0

def updG{β:Type}(f:Bool->Nat->β)(s:Bool)(k:Nat)(x:β):Bool->Nat->β:=λ s' k'=>if s'=s/\k'=k then x else f s' k'

theorem GJ{β:Type}(f:Bool->Nat->β)(s:Bool)(k:Nat)(x:β):updG f s k x s k=x:=if_pos ⟨rfl,rfl⟩

theorem Gi{β:Type}(f:Bool->Nat->β){s s':Bool}{k k':Nat}(x:β)(h:¬ (s'=s/\k'=k)):updG f s k x s' k'=f s' k':=if_neg h

section

variable {α:Type} {T:TypeId} {sz:Nat} {enc:α->List Value} {w:World} {c0 n:Nat} {mm:Bool->Nat} {vs:Bool->Nat->Value} {ls:Bool->Nat->List α}

theorem Grp.keep(h:Grp T sz enc w c0 mm vs ls n){S:Nat->Prop}{w':World}(k:Kp S w w')(h1:∀ s,¬ S (mm s))(h2:∀ b,c0<=b->b<w.heap.size->¬ S b):Grp T sz enc w' c0 mm vs ls n:=by
 refine⟨λ s=>?_,λ s j=>?_,h.ap,h.ne,h.lt⟩
 .obtain ⟨c,q1,q2⟩:=h.mp s
  exact⟨c,q1.keep k (h1 s),q2⟩
 .exact Af (h.row s j) k (λ b hb hs=>by have:=Ad (h.row s j) hb;exact h2 b this.1 this.2 hs)

theorem Grp.look(h:Grp T sz enc w c0 mm vs ls n)(s:Bool){k:Nat}(hk:k<9223372036854775808){t e:TypeId}(ht:prog.underlying t=some (.map 3 e))(hz:(zeroValue e).run prog w=.ok (.slice none 0 0) w):
  (Instr.lookup t (.map (some (mm s))) (.int .i64 k) false).run prog w=.ok (vs s k) w:=by
 obtain⟨c,q1,q2⟩:=h.mp s
 rw[q1.look hk ht hz,q2]

theorem Grp.put(h:Grp T sz enc w c0 mm vs ls n)(hn:n<maxLen)(s:Bool){k:Nat}(hk:k<9223372036854775808){t e:TypeId}(ht:prog.underlying t=some (.map 3 e)){w0 w1:World}{v':Value}{x:α}
  (k0:Kp Aa w w0) (ho:w1.ownsRow c0 T sz v' ((ls s k).length+1) ((ls s k).flatMap enc++enc x)) (hg:w0.grownBy w1 (vs s k).ownBlock) (hl:v'.ownBlock=(vs s k).ownBlock\/v'.ownBlock=some w0.heap.size):
  ∃ w2,(Instr.mapUpdate t (.map (some (mm s))) (.int .i64 k) v').run prog w1=.ok () w2/\Grp T sz enc w2 c0 mm (updG vs s k v') (updG ls s k (ls s k++[x])) (n+1)/\Kp (λ b=>b=mm s) w1 w2/\Kp (λ b=>b=mm s\/(vs s k).ownBlock=some b) w w2:=by
 have hsz:=k0.size
 have KA:Kp (λ b=>(vs s k).ownBlock=some b) w w1:=(k0.Aw _).grown hg (λ b e _=>e)
 have hmm:∀ s',¬ (vs s k).ownBlock=some (mm s'):=λ s' e=>by
  have:=Ad (h.row s k) e
  have:=h.lt s'
  omega
 obtain⟨c,q1,q2⟩:=h.mp s
 obtain⟨w2,r1,r2,r3,r4⟩:=(q1.keep KA (hmm s)).put hn hk v' ht
 have hv1:=λ b (hb:v'.ownBlock=some b)=>Ad ho hb
 have hs:=h.lt s
 have K2:Kp (λ b=>b=mm s\/(vs s k).ownBlock=some b) w w2:=(KA.mono λ b _ e=>.inr e).trans r3 (λ b _ e=>.inl e)
 refine⟨w2,r1,⟨λ s'=>?_,λ s' k'=>?_,λ s1 k1 s2 k2 b e1 e2=>?_,h.ne,h.lt⟩,r3,K2⟩
 .by_cases e:s'=s
  .subst e
   refine⟨_,r2,λ k'=>?_⟩
   by_cases e2:k'=k
   .subst e2
    rw[GJ]
    simp
   .rw [Gi _ _ (λ q=>e2 q.2),if_neg e2,q2]
  .obtain ⟨c',p1,p2⟩:=h.mp s'
   have hne:¬ mm s'=mm s:=λ q=>by
    have:=h.ne
    cases s <;> cases s' <;> first|exact e rfl|exact this q|exact this q.symm
   refine⟨c',(p1.keep K2 (λ q=>q.elim hne (hmm s'))).mono (by omega),λ k'=>?_⟩
   rw[Gi _ _ (λ q=>e q.1),p2]
 .by_cases e:s'=s/\k'=k
  .obtain ⟨rfl,rfl⟩:=e
   rw[GJ,GJ,List.length_append,List.flatMap_append]
   have:w1.ownsRow c0 T sz v' ((ls s' k').length+[x].length) ((ls s' k').flatMap enc++[x].flatMap enc):=by simpa using ho
   exact Af this r3 (λ b hb e=>by have:=(hv1 b hb).1;omega)
  .rw [Gi _ _ e,Gi _ _ e]
   exact Af (h.row s' k') K2 (λ b hb q=>by
    have:=Ad (h.row s' k') hb
    rcases q with q|q
    .omega
    .exact e (h.ap _ _ _ _ _ hb q))
 .have key:∀ s' k' b,(updG vs s k v' s' k').ownBlock=some b->(s'=s/\k'=k/\v'.ownBlock=some b)\/(¬ (s'=s/\k'=k)/\(vs s' k').ownBlock=some b):=λ s' k' b q=>by
   by_cases e:s'=s/\k'=k
   .obtain ⟨rfl,rfl⟩:=e
    rw[GJ] at q
    exact .inl ⟨rfl,rfl,q⟩
   .rw [Gi _ _ e] at q
    exact .inr ⟨e,q⟩
  have clash:∀ s' k',¬ (s'=s/\k'=k)->(vs s' k').ownBlock=some b->v'.ownBlock=some b->False:=λ s' k' hne q1 q2=>by
   rcases hl with hl|hl
   .rw [hl] at q2
    exact hne (h.ap _ _ _ _ _ q1 q2)
   .rw [hl] at q2
    injection q2 with q2
    have:=Ad (h.row s' k') q1
    omega
  rcases key s1 k1 b e1 with ⟨rfl,rfl,p1⟩|⟨p0,p1⟩ <;> rcases key s2 k2 b e2 with ⟨rfl,rfl,p2⟩|⟨p3,p2⟩
  .exact ⟨rfl,rfl⟩
  .exact (clash _ _ p3 p2 p1).elim
  .exact (clash _ _ p0 p1 p2).elim
  .exact h.ap _ _ _ _ _ p1 p2

end

end

section
open Go.RowKit

def QAt(w:World)(b c0:Nat)(xs:List Nat):Prop:=b<c0/\∃ v,w.heap[b]?=some (.cells #[v] 237 (0,0))/\QRow 3 w c0 v xs

theorem QAt.keep{w w':World}{b c0:Nat}{xs:List Nat}(h:QAt w b c0 xs){S:Nat->Prop}(k:Kp S w w')(h1:¬ S b)(h2:∀ i,c0<=i->i<w.heap.size->¬ S i):QAt w' b c0 xs:=by
 obtain⟨h0,v,q1,q2⟩:=h
 exact⟨h0,v,k.at_ q1 h1,q2.keep k (λ i hi=>by have:=q2.lt hi;exact h2 i this.1 this.2)⟩

theorem QAt.Ac{w w':World}{b c0:Nat}{xs:List Nat}(h:QAt w b c0 xs)(k:Kp Aa w w'):QAt w' b c0 xs:=h.keep k id (λ _ _ _ h=>h)

theorem QAt.new(w:World)(c0:Nat)(hc:w.heap.size<c0):QAt (w.alloc (.cells #[.slice none 0 0] 237)) w.heap.size c0 []:=⟨hc,_,wN w _,.inl ⟨rfl,rfl⟩⟩

theorem QPush_at(b c0 x:Nat)(xs:List Nat)(w:World)(h:QAt w b c0 xs)(hl:xs.length<=1000000)(hc:c0<=w.heap.size):
  Calls prog 140 #[.pointer (some b),x] w λ e w'=>e=.returned (.tuple #[])/\QAt w' b c0 (xs++[x])/\Kp (λ k=>k=b\/c0<=k) w w':=by
 obtain⟨h0,v,hb,hq⟩:=h
 obtain⟨va,vc,rfl⟩:=hq.shape
 have hvb:∀ k,(Value.slice va xs.length vc).ownBlock=some k->c0<=k/\k<w.heap.size:=λ k hk=>hq.lt hk
 have cb:=cell_of_one hb
 have fb:=free_of_one hb
 have HB:=sE hb
 have HQ:=sE hq
 have lb:=lZ hb
 clear hb hq
 go_enter func140,ntmps140
 go_wp2_with (at_builtin;obtain ⟨i0,hi,hz0,hz1,hz2⟩:=info_parts Be;go_loud (refine wpList_append_q _ rfl (.tmp 8) (.tmp 10) 24 rfl c0 3 i0 Ar hi hz0 hz1 hz2 (.slice va xs.length vc) xs rfl (HQ.o.keep ((Kr Aa w).alloc _) (λ _ _ h=>h)) ⟨w.heap.size,0,none⟩ 1 x rfl (cell_of_one (wN w _)) hl (by simp;omega) ?_);intro a' c' w3 hq3 hg hown;clear hi hz0 hz1 hz2;have KA:Kp (λ k=>(Value.slice va xs.length vc).ownBlock=some k) w w3:=(((Kr Aa w).alloc _).Aw _).grown hg (λ k e _=>e);have nb:¬ (Value.slice va xs.length vc).ownBlock=some b:=(λ e=>by have:=hvb _ e;omega);have b3:=KA.at_ HB.o nb;have c3:=cell_of_one b3;have fr3:=free_of_one b3;have HB3:=sE b3;have HQ3:=sE hq3;have HOw:=sE hown;clear b3 hq3 hown cb fb hg nb)
 go_end0
 have KB:Kp (λ k=>k=b) w3 (w3.setCell b (.slice a' (xs.length+1) c')):=(Kr (λ k=>k=b) w3).setCell (λ _=>rfl) _
 have nb3:∀ k,(Value.slice a' (xs.length+1) c').ownBlock=some k->¬ k=b:=λ k hk e=>by have:=HQ3.o.lt hk;omega
 refine⟨rfl,⟨h0,_,one_setCell HB3.o,HQ3.o.keep KB nb3⟩,?_⟩
 exact(KA.mono λ k hk e=>.inr (hvb k e).1).trans KB (λ k _ e=>.inl e)

theorem QPop_none(b c0:Nat)(w:World)(h:QAt w b c0 []):
  Calls prog 141 #[.pointer (some b)] w (RK (.tuple #[(0:Int),.bool false]) w):=by
 obtain⟨h0,v,hb,hq⟩:=h
 obtain⟨va,vc,rfl⟩:=hq.shape
 have cb:=cell_of_one hb
 simp only[List.length_nil] at cb
 clear hb hq
 go_enter func141,ntmps141
 go_wp2
 go_ret2
 exact⟨rfl,Kr _ _⟩

theorem QPop_some(b c0 x:Nat)(xs:List Nat)(w:World)(h:QAt w b c0 (x::xs)):
  Calls prog 141 #[.pointer (some b)] w λ e w'=>e=.returned (.tuple #[x,.bool true])/\QAt w' b c0 xs/\Kp (λ k=>k=b) w w':=by
 obtain⟨h0,v,hb,hq⟩:=h
 obtain⟨g,o,cap,rfl,cx,hl,hcap,hq0,hq1⟩:=hq.pop
 have hgb:=hq.lt (b:=g) rfl
 have cb:=cell_of_one hb
 have fb:=free_of_one hb
 obtain⟨n,hn⟩:∃ n,xs.length=n:=⟨_,rfl⟩
 rw[hn] at cb hl hq0 hq1
 have HN:=sE hn
 have HB:=sE hb
 have HQ0:=sE hq0
 have HQ1:=sE hq1
 have e1:(((n+1:Nat):Int)==0)=false:=by rw[beq_eq_false_iff_ne];omega
 clear hb hq hq0 hq1 hn
 have p2:(1:Int)<=(n:Int)+1:=by omega
 have p4:((n+1:Nat):Int).toNat=n+1:=by omega
 by_cases hc:cap=0
 .obtain rfl:n=0:=by omega
  subst hc
  go_enter func141,ntmps141
  go_wp2_with fail
  refine Br 15 (by kernel_rfl) (by kernel_rfl) ?_
  simp only[List.take_succ_cons,List.take_zero,List.drop_succ_cons,List.drop_zero]
  repeat (go_big_quiet_step (fail))
  refine wpQuiet_nil ?_
  intro _ hw'
  obtain⟨nq,hw''⟩:=hw'
  subst hw''
  go_wp2
  go_ret2
  have KB:Kp (λ k=>k=b) (w.drewN nq) ((w.drewN nq).setCell b (.slice (some ⟨g,o,none⟩) 0 0)):=(Kr (λ k=>k=b) _).setCell (λ _=>rfl) _
  refine⟨rfl,⟨h0,_,one_setCell HB.o,?_⟩,((Kr _ w).drewN nq).trans KB (λ _ _ h=>h)⟩
  exact((HQ0.o trivial).keep (Kp.Ah (S:=Aa) nq) (λ _ _ h=>h)).keep KB (λ k hk e=>by have hk':g=k:=(by simpa [Value.ownBlock] using hk);omega)
 .go_enter func141,ntmps141
  go_wp2_with fail
  refine Br 15 (by kernel_rfl) (by kernel_rfl) ?_
  simp only[List.take_succ_cons,List.take_zero,List.drop_succ_cons,List.drop_zero]
  repeat (go_big_quiet_step (fail))
  refine wpQuiet_nil ?_
  intro _ hw'
  obtain⟨nq,hw''⟩:=hw'
  subst hw''
  go_wp2
  go_ret2
  have KB:Kp (λ k=>k=b) (w.drewN nq) ((w.drewN nq).setCell b (.slice (some ⟨g,o+1,none⟩) n cap)):=(Kr (λ k=>k=b) _).setCell (λ _=>rfl) _
  refine⟨rfl,⟨h0,_,one_setCell HB.o,?_⟩,((Kr _ w).drewN nq).trans KB (λ _ _ h=>h)⟩
  exact(HQ1.o.keep (Kp.Ah (S:=Aa) nq) (λ _ _ h=>h)).keep KB (λ k hk e=>by have hk':g=k:=(by simpa [Value.ownBlock] using hk);omega)

end

section
open Go.RowKit

def Gn(D:Nat->Option Nat):Nat->Option Value:=λ g=>(D g).map λ d=>.int .i64 (d:Nat)

def GraphAt(w:World)(b:Nat)(es:List (Nat×Nat×Nat))(D:Nat->Option Nat):Prop:=
 ∃ mo mi mf n co ci,w.heap[b]?=some (.cells #[.map (some mo),.map (some mi),.map (some mf)] 169 (0,0))/\
  (BS w mo n co/\∀ k,Dl w ((co k).getD (.slice none 0 0)) (Gw es k))/\(BS w mi n ci/\∀ k,Dl w ((ci k).getD (.slice none 0 0)) (GD es k))/\BS w mf n (Gn D)

theorem GraphAt.Ac{w w':World}{b:Nat}{es:List (Nat×Nat×Nat)}{D:Nat->Option Nat}(h:GraphAt w b es D)(k:Kp Aa w w'):GraphAt w' b es D:=by
 obtain⟨mo,mi,mf,n,co,ci,h1,⟨h2,h3⟩,⟨h4,h5⟩,h6⟩:=h
 exact⟨mo,mi,mf,n,co,ci,k.at_ h1 id,⟨h2.keep k id,λ j=>(h3 j).Ac k⟩,⟨h4.keep k id,λ j=>(h5 j).Ac k⟩,h6.keep k id⟩

theorem Gf:prog.underlying 166=some (.map 3 47):=by kernel_rfl

theorem Gd:prog.underlying 167=some (.map 3 3):=by kernel_rfl

theorem Gp(w:World):(zeroValue 47).run prog w=.ok (.slice none 0 0) w:=by kernel_rfl

theorem zeroFar(w:World):(zeroValue 3).run prog w=.ok (.int .i64 0) w:=by kernel_rfl

def cntN(D:Nat->Option Nat)(H:Nat):Nat:=(List.range H).countP λ g=>(D g).isNone

theorem cntN_le(D:Nat->Option Nat)(H:Nat):cntN D H<=H:=by
 unfold cntN
 have:=List.countP_le_length (p:=λ g=>(D g).isNone) (l:=List.range H)
 rwa [List.length_range] at this

theorem cntN_upd{D:Nat->Option Nat}{g d:Nat}(hg:D g=none):∀ {H:Nat},g<H->cntN (GG D g d) H+1=cntN D H
 |0,h=>by omega
 |H+1,h=>by
  unfold cntN
  rw[List.range_succ,List.countP_append,List.countP_append]
  have hother:∀ H',H'<=g->(List.range H').countP (λ x=>(GG D g d x).isNone)=(List.range H').countP λ x=>(D x).isNone:=λ H' hH=>by
   refine List.countP_congr λ x hx=>?_
   have:=List.mem_range.1 hx
   unfold GG
   rw[if_neg (by omega)]
  by_cases e:g=H
  .subst e
   rw[hother g (Nat.le_refl _)]
   simp[GG,hg]
  .have ih:=cntN_upd (d:=d) hg (H:=H) (by omega)
   unfold cntN at ih
   have:GG D g d H=D H:=by unfold GG;rw [if_neg (by omega)]
   simp only[List.countP_singleton,this]
   omega

theorem farV_upd(D:Nat->Option Nat)(g d:Nat):Gn (GG D g d)=λ x=>if x=g then some (.int .i64 d) else Gn D x:=by
 funext x
 unfold Gn GG
 by_cases e:x=g <;> simp[e]

end

end Go.Proofs.YtfkedlgpgmaemaaGreatDoor
