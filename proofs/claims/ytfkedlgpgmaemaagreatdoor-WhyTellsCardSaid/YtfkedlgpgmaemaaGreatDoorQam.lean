/-
  Lemmas for the laws, together: RowsA.
-/
import Derived.Test.YtfkedlgpgmaemaaGreatDoorQal
import Derived.Deep.AppendLies
import Derived.BigQuiet
import Derived.Laws.StructEq
import Derived.Test.YtfkedlgpgmaemaaGreatDoorQag
set_option linter.unusedVariables false
set_option maxHeartbeats 16000000
namespace Go.Proofs.YtfkedlgpgmaemaaGreatDoor
open Tryz
section
open Go.RowKit
attribute [local go_sem] Oper.semAt_some

def Ci:List Cel->List Value
 |[]=>[]
 |c::cs=>.int .i64 c.g::.int .u8 c.tag::.int .i64 c.ty::.int .i64 c.ln::.int .i64 c.sz::Ci cs

theorem EG:∀ (xs ys:List Cel),Ci (xs++ys)=Ci xs++Ci ys
 |[],ys=>rfl
 |x::xs,ys=>by simp[Ci,EG xs ys]

theorem BG:∀ {xs:List Cel} {a b:Nat},AC a xs b->xs.length<=b-a
 |[],a,b,h=>Nat.zero_le _
 |c::xs,a,b,⟨h1,h2,h3⟩=>by
  have:=BG h3
  have:=h3.le
  simp only[List.length_cons]
  omega

theorem Dp:prog.underlying 45=some (.slice 113):=by kernel_rfl

theorem infoCell:(prog.info? 113).map (λ i=>(i.zero,i.size,i.bytes))=some (some (.agg #[(0:Int),.int .u8 0,(0:Int),(0:Int),(0:Int)]),5,40):=by kernel_rfl

variable {Pr:Program}

theorem Bq{ops:Array Oper}{Q:Exit->Act->World->Prop}{n r:Nat}(hq:∀ a w,¬ Q .outgrown a w):∀ (l:List Oper) (a:Act) (w:World),DV l.toArray=true->wpList Pr ops Q l a w->wpListIn (Fence.wide.inRound r) n Pr ops Q l a w
 |[],_,_,_,h=>h
 |o::l,a,w,hd,h=>by
  have hdo:∀ c,o.op≠.defer c:=noDefers_spec (ops:=(o::l).toArray) hd (i:=0) (o:=o) (by simp)
  have hdl:DV l.toArray=true:=by
   simp only[DV,List.all_toArray,List.all_cons,Bool.and_eq_true] at hd ⊢
   exact hd.2
  simp only[wpList] at h
  simp only[wpListIn]
  split
  .rename_i hw
   simp only[hw,if_true] at h
   rcases h with h|⟨_,a',w',h⟩
   .exact Oper.wpIn_of_wp hdo (Oper.wp_mono (λ a' w'=>Bq hq l a' w' hdl) h)
   .exact (hq _ _ h).elim
  .rename_i hw
   simp only[hw] at h
   exact⟨λ _ _=>trivial,Bq hq l _ w hdl h⟩

theorem Af{S:Nat->Prop}{w w':World}{base:Nat}{e:TypeId}{size:Nat}{v:Value}{n:Nat}{xs:List Value}(h:w.ownsRow base e size v n xs)(k:Kp S w w')(hs:∀ b,v.ownBlock=some b->¬ S b):w'.ownsRow base e size v n xs:=by
 obtain⟨h1,h⟩:=h
 refine⟨h1,?_⟩
 rcases h with h|⟨g,cap,cur,rfl,h2,h3,h4⟩
 .exact .inl h
 .exact .inr ⟨g,cap,cur,rfl,h2,k.at_ h3 (hs g rfl),h4⟩

theorem Ad{w:World}{base:Nat}{e:TypeId}{size:Nat}{v:Value}{n:Nat}{xs:List Value}(h:w.ownsRow base e size v n xs){b:Nat}(hb:v.ownBlock=some b):base<=b/\b<w.heap.size:=by
 obtain⟨h1,h⟩:=h
 rcases h with ⟨rfl,_⟩|⟨g,cap,cur,rfl,h2,h3,h4⟩
 .cases hb
 .obtain rfl:g=b:=by simpa [Value.ownBlock] using hb
  exact⟨h2,lZ h3⟩

theorem BZ{w:World}{base base':Nat}{e:TypeId}{size:Nat}{v:Value}{n:Nat}{xs:List Value}(h:w.ownsRow base e size v n xs)(hb:base'<=base):w.ownsRow base' e size v n xs:=by
 obtain⟨h1,h⟩:=h
 refine⟨h1,?_⟩
 rcases h with h|⟨g,cap,cur,rfl,h2,h3⟩
 .exact .inl h
 .exact .inr ⟨g,cap,cur,rfl,Nat.le_trans hb h2,h3⟩

def CellsI(b:Nat)(wl:World)(pre:List Cel)(S:Nat->Prop)(W':World):Prop:=
 ∃ v,W'.heap[b]?=some (.cells #[v] 45 (0,0))/\W'.ownsRow (wl.heap.size+2) 113 5 v pre.length (Ci pre)/\S=(λ k=>k=b\/v.ownBlock=some k)/\Kp (λ k=>k=b) wl W'

set_option maxRecDepth 20000 in
theorem Cells_at(P:Sp)(cs:List Cel)(w:World)(h:SpaceHas w P cs):
  Calls prog 82 #[.pointer (some P.s)] w λ e w'=>∃ v,e=.returned v/\w'.ownsRow w.heap.size 113 5 v cs.length (Ci cs)/\Kp Aa w w':=by
 obtain⟨W,f,hs,hc,hst⟩:=h
 have HSs:=sE hs
 have HCs:=sE hc
 have lts:=hs.lt P.s (by simp[Sp.all])
 have lw:=hs.lt
 have hlen:cs.length<=32768:=by
  have:=BG hc.tl
  have:=hs.ar.small
  omega
 clear hs hc hst
 refine(callsIn_wide (n:=0)).1 ?_
 refine callsIn_of_wp_marks func82 rfl trivial ?_
 simp only[ntmps82,List.size_toArray,List.length_cons,List.length_nil,Nat.reduceAdd,Nat.reduceSub,Array.replicate_succ,Array.replicate_zero,List.push_toArray,List.append_toArray,List.nil_append,List.cons_append]
 gi_wp2_with fail
 refine⟨trivial,rfl,?_⟩
 obtain⟨w1,hw1⟩:∃ w1,w1=w.alloc (.cells #[.slice none 0 0] 45):=⟨_,rfl⟩
 rw[<- hw1]
 have k1:Kp Aa w w1:=by rw[hw1];exact (Kr _ w).alloc _
 have z1:w1.heap.size=w.heap.size+1:=by rw[hw1];simp
 have b1:w1.heap[w.heap.size]?=some (.cells #[.slice none 0 0] 45 (0,0)):=by rw[hw1];exact wN w _
 clear hw1
 refine(callsIn_wide.2 (cells_fn P w1)).mono ?_
 rintro e wl ⟨rfl,hwl⟩
 have hzl:wl.heap.size=w1.heap.size+1:=by rw[<- hwl];simp
 have kl:Kp Aa w1 wl:=by rw[<- hwl];exact (Kr _ w1).alloc _
 have gbx:wl.heap[w1.heap.size]?=some (.cells #[.pointer (some P.s)] 28 (0,0)):=by rw[<- hwl];exact wN w1 _
 clear hwl
 have KL:Kp Aa w wl:=k1.then' kl
 have SL:=HSs.o.Ac KL
 have bl1:=kl.at_ b1 id
 rw[z1] at gbx hzl
 gi_wp2_with fail
 refine wpIn_range3 (n:=0) (gf:=179) (lb:=#[.pointer (some ⟨w.heap.size+1,0,none⟩)]) rfl (enters_of func179 (by kernel_rfl) rfl)
  (cells_iter3 P W f cs wl (w.heap.size+1) SL HCs.o gbx (R:=λ k=>k=w.heap.size) (λ k hk=>by subst hk;exact ⟨by omega,by omega,λ h=>by have:=lw _ h;omega⟩)) (λ k hk=>hk.elim) (λ k hk=>by omega)
  (X:=λ _=>False) (λ k hk=>hk.elim) (λ _=>rfl)
  (λ pre S W'=>CellsI w.heap.size wl pre S W') (λ c pre W'=>False) (λ k=>k=w.heap.size\/(Value.slice none 0 0).ownBlock=some k) ?hS ?hI ?hIx ?h0 ?hround ?hdone ?hstop
 case hS=>
  rintro pre S A ⟨v,a1,a2,rfl,a4⟩ k hk
  rcases hk with hk|hk
  .exact ⟨.inl hk,by have:=lZ a1;omega⟩
  .have:=Ad a2 hk
   exact⟨.inr this.1,this.2⟩
 case hI=>
  rintro pre S A B ⟨v,a1,a2,a3,a4⟩ hk
  exact⟨v,hk.at_ a1 (λ h=>by rcases h with h|h|h;exact h;omega;omega),Af a2 hk (λ b hb h=>by have:=Ad a2 hb;rcases h with h|h|h;exact h;omega;omega),a3,
   a4.trans hk (λ b hb h=>by rcases h with h|h|h;exact h.elim;omega;omega)⟩
 case hIx=>exact λ c pre A B h hk=>h
 case h0=>exact ⟨_,bl1,World.ownsRow_nil wl _ _ _,rfl,Kr _ _⟩
 case hround=>
  rintro pre S x rest W' hx ⟨v,a1,a2,a3,a4⟩ hs
  have hpl:pre.length+1<=cs.length:=by rw[hx];simp
  unfold cellV
  gi_wp2_with fail
  refine⟨(Kr _ W').alloc _,?_⟩
  intro W2 hc2 hf2 hk2 hs2 hr2
  have kW:Kp Aa W' (W'.alloc (.cells #[x.g,.int .u8 x.tag,x.ty,x.ln,x.sz] 113)):=(Kr _ W').alloc _
  have bc:=hk2.at_ (wN W' (.cells #[x.g,.int .u8 x.tag,x.ty,x.ln,x.sz] 113)) (by omega)
  have lW:=lZ a1
  have zW2:W2.heap.size=W'.heap.size+1:=by rw[hs2];simp
  have own1:(W2).ownsRow (wl.heap.size+2) 113 5 v pre.length (Ci pre):=Af (Af a2 kW (λ b hb h=>h)) hk2 (λ b hb h=>by have:=Ad a2 hb;omega)
  have r0:=hk2.at_ (kW.at_ a1 id) (by omega)
  have c0:=cell_of_one r0
  have fr0:=free_of_one r0
  have d0:W2.cell? W'.heap.size=some (.int .i64 x.g):=by simp[World.cell?,bc]
  have d1:W2.cell? ⟨W'.heap.size,1,none⟩=some (.int .u8 x.tag):=by simp[World.cell?,bc]
  have d2:W2.cell? ⟨W'.heap.size,2,none⟩=some (.int .i64 x.ty):=by simp[World.cell?,bc]
  have d3:W2.cell? ⟨W'.heap.size,3,none⟩=some (.int .i64 x.ln):=by simp[World.cell?,bc]
  have d4:W2.cell? ⟨W'.heap.size,4,none⟩=some (.int .i64 x.sz):=by simp[World.cell?,bc]
  have HR0:=sE r0
  have HOW:=sE own1
  have HA2:=sE a2
  have HA4:=sE a4
  have HZ2:=sE zW2
  have lbW2:W'.heap.size<W2.heap.size:=by omega
  have lrW2:w.heap.size<W2.heap.size:=by omega
  obtain⟨i0,hi,hz0,hz1,hz2⟩:=info_parts infoCell
  have HNW:Sl (¬ v.ownBlock=some w.heap.size):=⟨λ e=>by have:=Ad own1 e;omega⟩
  clear r0 own1 a2 a4 zW2 bc hs2 hc2 hf2 a1
  refine wpIn_block ?_
  refine wpIn_region_lit ?_
  refine Bq (λ _ _ h=>h) _ _ _ (by kernel_rfl) ?_
  go_wp2_with (at_builtin;go_loud (refine wpList_append_lies _ rfl (.tmp 9) (.tmp 11) 45 rfl (wl.heap.size+2) 113 i0 (.agg #[(0:Int),.int .u8 0,(0:Int),(0:Int),(0:Int)]) 5 40 Dp hi hz0 hz1 hz2 rfl (by omega) v pre.length (Ci pre) rfl (Kp.owns (S:=Aa) (a:=W2) KU HOW.o (λ b hb h=>h)) ⟨W2.heap.size,0,none⟩ 1 1 [x.g,.int .u8 x.tag,x.ty,x.ln,x.sz] rfl rfl (World.news_of_block (wN W2 _)) (by simp[Value.oneCell']) (by omega) (by unfold maxLen;omega) (by omega) (by simp;omega) _ rfl ?_);intro g cap w3 hown hgrow hat hlt;have KA:Kp (λ b=>v.ownBlock=some b) W2 w3:=((by (repeat (first|assumption|exact Kr _ _|refine Kp.drew ?_|refine Kp.alloc ?_ _|refine Kp.Av ?_ (by omega) _)):Kp Aa W2 _).Aw (λ b=>v.ownBlock=some b)).grown hgrow (λ k e _=>e);have r3:=KA.at_ HR0.o HNW.o;have c3:=cell_of_one r3;have fr3:=free_of_one r3;have HR3:=sE r3;clear r3)
  subst a3
  have KB:Kp (λ b=>b=w.heap.size) w3 (w3.setCell w.heap.size (.slice (some ⟨g,0,none⟩) (pre.length+1) cap)):=(Kr (λ b=>b=w.heap.size) w3).setCell (λ _=>rfl) _
  refine⟨(KA.mono λ b hb h=>.inr h).trans KB (λ b hb h=>.inl h),_,.slice (some ⟨g,0,none⟩) (pre.length+1) cap,one_setCell HR3.o,?_,rfl,?_⟩
  .rw [EG,List.length_append]
   exact Af hown KB (λ b hb h=>by have:=Ad hown hb;omega)
  .exact (((HA4.o.trans kW (λ b hb h=>h.elim)).trans hk2 (λ b hb h=>by omega)).trans KA (λ b hb h=>by have:=Ad HOW.o h;omega)).trans KB (λ b hb h=>h)
 case hdone=>
  rintro S W' ⟨v,a1,a2,a3,a4⟩ hs hD
  obtain⟨va,vn,vc,hv⟩:∃ va vn vc,v=.slice va vn vc:=by
   rcases a2.2 with ⟨h,_⟩|⟨g,cap,cur,h,_⟩
   .exact ⟨_,_,_,h⟩
   .exact ⟨_,_,_,h⟩
  subst hv
  have c0:=cell_of_one a1
  have fr0:=free_of_one a1
  have HA1:=sE a1
  have HA2:=sE a2
  have HA4:=sE a4
  clear a1 a2 a3 a4
  gi_wp2_with fail
  obtain⟨w4,hw4⟩:∃ w4,w4=W'.setCell w.heap.size (.slice va vn vc):=⟨_,rfl⟩
  rw[<- hw4]
  have KB:Kp (λ b=>b=w.heap.size) W' w4:=by rw[hw4];exact (Kr (λ b=>b=w.heap.size) W').setCell (λ _=>rfl) _
  have b4:w4.heap[w.heap.size]?=some (.cells #[.slice va vn vc] 45 (0,0)):=by rw[hw4];exact one_setCell HA1.o
  clear hw4
  refine⟨by simp,.inl ⟨_,_,rfl,run_takeDeferred (KB.at_ hD (by omega)),?_⟩⟩
  have kE:Kp (λ b=>b=wl.heap.size) w4 (w4.putObj wl.heap.size (.deferred none)):=(Kr (λ b=>b=wl.heap.size) w4).putObj (λ _=>rfl) _
  have e4:=cell_of_one (kE.at_ b4 (by omega))
  refine⟨.slice va vn vc,by simp[results,results82,go_sem,e4],_,rfl,?_,?_⟩
  .refine BZ (Af (Af HA2.o KB (λ b hb h=>?_)) kE (λ b hb h=>?_)) (by omega)
   .have:=Ad HA2.o hb;omega
   .have:=Ad HA2.o hb;omega
  .exact (((KL.trans HA4.o (λ b hb h=>by omega)).trans KB (λ b hb h=>by omega)).trans kE (λ b hb h=>by omega))
 case hstop=>exact λ c pre W' hp h=>h.elim

end

section
open Go.RowKit

theorem Starts_at(P:Sp)(W:Nat->Nat)(f:Nat->Bool)(w:World)(h:SpaceAt w P W f):
  Calls prog 122 #[.pointer (some P.s)] w λ e w'=>
   ∃ p q,e=.returned (.pointer (some ⟨p,0,none⟩))/\w.heap.size<=p/\w.heap.size<=q/\AL w' p q f (P.n/2)/\Kp Aa w w':=by
 obtain⟨c0,c1,c2⟩:=h.head
 have hb:=h.bt
 generalize P.n/2=H at hb
 clear h
 go_enter func122,ntmps122
 go_wp2_with fail
 refine(Copy_at H P.b P.bq f w hb).mono ?_
 rintro e w1 ⟨p,q,rfl,hp,hq,b1,k1⟩
 go_wp2
 go_ret
 exact⟨p,q,rfl,hp,hq,b1,k1⟩

theorem AL.ne'{w:World}{p q n:Nat}{f:Nat->Bool}(h:AL w p q f n):¬ p=q:=by
 obtain⟨ws,hw,_⟩:=h;exact hw.ne

def MadeSpaceW(w:World)(t tq n:Nat)(ts:List TypR)(e:Ending)(w':World):Prop:=
 ∃ P:Sp,P.t=t/\P.tq=tq/\P.ts=ts/\P.n=n/\e=.returned (.tuple #[.pointer (some P.s),(0:Int)])/\AQ w' P (Bd (λ _=>0) 0 (n/2)) (gapL 0 (n/2))/\(∀ k,P.own k->w.heap.size<=k)/\w.heap.size<=P.s/\w.heap.size<=P.b/\Kp Aa w w'

theorem ArenaAt.ne_'{w:World}{a q n:Nat}{W:Nat->Nat}(h:ArenaAt w a q W n):¬ a=q:=h.ne

theorem SNew_yesW(n t tq:Nat)(ts:List TypR)(w:World)(hT:TableAt w t tq ts)(hF:Au w)(ht:t<w.heap.size)(htq:tq<w.heap.size)(h1:16<=n)(h2:n<=65536)(h3:n%2=0):
  Calls prog 93 #[n,.pointer (some t)] w (MadeSpaceW w t tq n ts):=by
 have hq:Sl (((n:Nat):Int)/2=((n/2:Nat):Int)):=⟨by omega⟩
 have hq':Sl (((n:Nat):Int).tdiv 2=((n/2:Nat):Int)):=⟨by rw[Int.tdiv_eq_ediv_of_nonneg (by omega)];omega⟩
 have HTT:=sE hT
 have HFF:=sE hF
 have hF0:=hF.1
 clear hT hF
 have HN3:=sE h3
 clear h3
 go_enter func93,ntmps93
 go_wp2_with fail
 refine(ANew_yes n w h1 h2 HN3.o).mono ?_
 rintro e w1 ⟨a,q,rfl,ha,hq1,ar1,k1⟩
 go_wp2_with fail
 try rw[hq.o]
 try rw[hq'.o]
 refine(New_yes (n/2) w1 (by omega)).mono ?_
 rintro e w2 ⟨b,bq,rfl,hb,hbq,bt2,k2⟩
 have HAR:=sE ar1
 have HBT:=sE bt2
 have la:=ar1.lt_a
 have lq:=ar1.lt_q
 have naq:=ar1.ne_'
 have lb:=bt2.lt_p'
 have lbq:=bt2.lt_q'
 have nbq:=bt2.ne'
 have z1:=k1.size
 have z2:=k2.size
 clear ar1 bt2 hq hq'
 go_wp2_with fail
 obtain⟨w3,hw3⟩:∃ w3,w3=w2.alloc (.cells #[.pointer (some a),.pointer (some t),.pointer (some b)] 160):=⟨_,rfl⟩
 rw[<- hw3]
 have k3:Kp Aa w2 w3:=by rw[hw3];exact (Kr _ w2).alloc _
 have b3:w3.heap[w2.heap.size]?=some (.cells #[.pointer (some a),.pointer (some t),.pointer (some b)] 160 (0,0)):=by rw[hw3];exact wN w2 _
 have z3:w3.heap.size=w2.heap.size+1:=by rw[hw3];simp
 clear hw3
 have K3:=(k1.then' k2).then' k3
 obtain⟨P,hP⟩:∃ P:Sp,P=⟨w2.heap.size,a,q,t,tq,b,bq,n,ts⟩:=⟨_,rfl⟩
 have S3:SpaceAt w3 P (λ _=>0) (λ _=>false):=by
  subst hP
  refine⟨b3,HAR.o.Ac (k2.then' k3),HTT.o.Ac K3,HBT.o.keep k3 id id,HFF.o.Ac K3,⟨?_,?_,?_⟩,HN3.o,?_⟩
  .intro k hk
   simp only[Sp.own] at hk
   dsimp only
   omega
  .dsimp only;omega
  .dsimp only;omega
  .intro k hk
   simp only[Sp.all] at hk
   omega
 have hPs:P.s=w2.heap.size:=by rw[hP]
 have hPn:P.n/2=n/2:=by rw[hP]
 have HS3:=sE S3
 have HG:=Gran_at P _ _ w3 S3
 have HGp:Sl (Calls prog 147 #[.pointer (some P.s),(0:Int),.int .i64 ((n/2:Nat):Int)] w3 (LaidGap P (Bd (λ _=>0) 0 (n/2)) (λ _=>false) w3)):=⟨gap_any 0 (n/2) P _ _ w3 S3 (by rw[hPn];omega)⟩
 rw[hPn,hPs] at HG
 rw[hPs] at HGp
 have HGr:=sE HG
 have HPP:=sE hP
 have HZZ:=sE z3
 clear S3 HG hP z3 hPs hPn b3
 try go_wp2_with fail
 refine HGr.o.mono ?_
 rintro e w4 ⟨rfl,rfl⟩
 go_wp2_with fail
 refine HGp.o.mono ?_
 rintro e w5 ⟨rfl,k5,S5⟩
 have HS5:=sE S5
 clear S5
 go_wp2
 have hP:=HPP.o
 have z3:=HZZ.o
 refine bodyPost_ret (v:=.tuple #[.pointer (some w2.heap.size),(0:Int)]) (by simp[results,results93,go_sem]) rfl ⟨P,by rw[hP],by rw[hP],by rw[hP],by rw[hP],by rw[hP],⟨_,HS5.o,⟨?_,?_,?_⟩,?_⟩,?_,by rw[hP];dsimp only;omega,by rw[hP];dsimp only;omega,?_⟩
 .have:=Eb 0 (n/2)
  rw[hP]
  rwa [Nat.zero_add] at this
 .intro c hc
  obtain⟨h0,rfl⟩:=Co hc
  exact EW h0
 .intro c hc
  obtain⟨h0,rfl⟩:=Co hc
  exact gap_ok h0 (by omega)
 .intro i hi
  exact(DJ 0 (n/2) i).symm
 .intro k hk
  rw[hP] at hk
  simp only[Sp.own] at hk
  omega
 .refine K3.trans k5 (λ i hi h=>?_)
  rw[hP] at h
  dsimp only at h
  omega

theorem SNew_no(n:Int)(t:Nat)(w:World)(h:Dn n=false):Calls prog 93 #[.int .i64 n,.pointer (some t)] w λ e w'=>e=.returned (.tuple #[.pointer none,(2:Int)])/\w'=w:=by
 have HA:=sE (ANew_no n w h)
 clear h
 go_enter func93,ntmps93
 go_wp2_with fail
 refine HA.o.mono ?_
 rintro e w' ⟨rfl,rfl⟩
 go_wp2
 exact bodyPost_ret (v:=.tuple #[.pointer none,(2:Int)]) (by simp[results,results93,go_sem]) rfl ⟨rfl,rfl⟩

def Du(w:World)(v:Value)(cs:List Cel):Prop:=
 ∃ a cap,v=.slice a cs.length cap/\∀ i x,cs[i]?=some x->∃ b,a=some ⟨b,0,none⟩/\b<w.heap.size/\
  w.cell? ⟨b,i*5,none⟩=some (.int .i64 x.g)/\w.cell? ⟨b,i*5+1,none⟩=some (.int .u8 x.tag)/\w.cell? ⟨b,i*5+2,none⟩=some (.int .i64 x.ty)/\
  w.cell? ⟨b,i*5+3,none⟩=some (.int .i64 x.ln)/\w.cell? ⟨b,i*5+4,none⟩=some (.int .i64 x.sz)

theorem flatC_at:∀ (xs:List Cel) (i:Nat) (x:Cel),xs[i]?=some x->(Ci xs)[i*5]?=some (.int .i64 x.g)/\(Ci xs)[i*5+1]?=some (.int .u8 x.tag)/\(Ci xs)[i*5+2]?=some (.int .i64 x.ty)/\(Ci xs)[i*5+3]?=some (.int .i64 x.ln)/\(Ci xs)[i*5+4]?=some (.int .i64 x.sz)
 |y::xs,0,x,h=>by
  simp at h
  subst h
  exact⟨rfl,rfl,rfl,rfl,rfl⟩
 |y::xs,i+1,x,h=>by
  have h2:xs[i]?=some x:=by simpa using h
  obtain⟨a,b,c,d,e⟩:=flatC_at xs i x h2
  have e0:(i+1)*5=i*5+5:=by omega
  rw[e0]
  exact⟨a,b,c,d,e⟩

theorem Du.Bc{w:World}{base:Nat}{v:Value}{cs:List Cel}(h:w.ownsRow base 113 5 v cs.length (Ci cs)):Du w v cs:=by
 rcases h.2 with ⟨rfl,h0⟩|⟨g,cap,cur,rfl,g2,g3,g4,g5,g6,g7⟩
 .exact ⟨none,0,by rw[h0],λ i x hx=>by have:=(gE.1 hx).1;omega⟩
 .refine ⟨some ⟨g,0,none⟩,cap,rfl,λ i x hx=>?_⟩
  have hi:=(gE.1 hx).1
  obtain⟨x0,x1,x2,x3,x4⟩:=flatC_at cs i x hx
  have key:∀ j,j<cs.length*5->w.cell? ⟨g,j,none⟩=(Ci cs)[j]?:=λ j hj=>by
   rw[<- g7,List.getElem?_take_of_lt hj]
   simp[World.cell?,g3]
  exact⟨g,rfl,lZ g3,by rw[key _ (by omega)];exact x0,by rw[key _ (by omega)];exact x1,by rw[key _ (by omega)];exact x2,by rw[key _ (by omega)];exact x3,by rw[key _ (by omega)];exact x4⟩

theorem Du.Ac{w w':World}{v:Value}{cs:List Cel}(h:Du w v cs)(k:Kp Aa w w'):Du w' v cs:=by
 obtain⟨a,cap,rfl,h⟩:=h
 refine⟨a,cap,rfl,λ i x hi=>?_⟩
 obtain⟨b,rfl,h1,h2,h3,h4,h5,h6⟩:=h i x hi
 exact⟨b,rfl,Nat.lt_of_lt_of_le h1 k.size,k.cell h2 id,k.cell h3 id,k.cell h4 id,k.cell h5 id,k.cell h6 id⟩

theorem run_eq_head9(a b c d a' b' c' d':Int)(w:World):(Op.equalIn 9999 111 (.agg #[.int .u8 a,.int .i64 b,.int .i64 c,.int .i64 d]) (.agg #[.int .u8 a',.int .i64 b',.int .i64 c',.int .i64 d'])).run prog w=.ok (a==a'&&(b==b'&&(c==c'&&d==d'))) w:=by
 have u3:=underlying3
 have a3:=isAgg3
 have z3:=sizeOf3
 have u5:=underlying5
 have a5:=isAgg5
 have z5:=sizeOf5
 have hS:prog.underlying 111=some (.struct (prog.fieldsOf 111)):=by kernel_rfl
 rw[show (9999:Nat)=9998+1 from rfl,run_equalIn_agg w 9998 111 _ _ hS (by kernel_rfl)]
 simp only[Program.fieldsOf,underlying111]
 go_simp
 by_cases h1:a=a' <;> by_cases h2:b=b' <;> by_cases h3:c=c' <;> by_cases h4:d=d' <;> simp[h1,h2,h3,h4]

theorem run_eq_cell(g a b c d g' a' b' c' d':Int)(w:World):(Op.equalIn 10000 113 (.agg #[.int .i64 g,.int .u8 a,.int .i64 b,.int .i64 c,.int .i64 d]) (.agg #[.int .i64 g',.int .u8 a',.int .i64 b',.int .i64 c',.int .i64 d'])).run prog w=.ok (g==g'&&(a==a'&&(b==b'&&(c==c'&&d==d')))) w:=by
 have u3:=underlying3
 have a3:=isAgg3
 have z3:=sizeOf3
 have aH:=isAgg111
 have zH:=sizeOf111
 have hS:prog.underlying 113=some (.struct (prog.fieldsOf 113)):=by kernel_rfl
 have hE:=λ (w:World)=>run_eq_head9 a b c d a' b' c' d' w
 rw[show (10000:Nat)=9999+1 from rfl,run_equalIn_agg w 9999 113 _ _ hS (by kernel_rfl)]
 simp only[Program.fieldsOf,underlying113]
 go_simp
 by_cases h0:g=g' <;> by_cases h1:a=a' <;> by_cases h2:b=b' <;> by_cases h3:c=c' <;> by_cases h4:d=d' <;> simp[h0,h1,h2,h3,h4]

theorem run_neq_cell(g a b c d g' a' b' c' d':Int)(w:World):(binOp .neq 113 (.agg #[.int .i64 g,.int .u8 a,.int .i64 b,.int .i64 c,.int .i64 d]) (.agg #[.int .i64 g',.int .u8 a',.int .i64 b',.int .i64 c',.int .i64 d'])).run prog w=.ok (.bool (!(g==g'&&(a==a'&&(b==b'&&(c==c'&&d==d')))))) w:=by
 rw[run_neq_struct,run_eq_cell];rfl

theorem run_eql_cell(g a b c d g' a' b' c' d':Int)(w:World):(binOp .eql 113 (.agg #[.int .i64 g,.int .u8 a,.int .i64 b,.int .i64 c,.int .i64 d]) (.agg #[.int .i64 g',.int .u8 a',.int .i64 b',.int .i64 c',.int .i64 d'])).run prog w=.ok (.bool (g==g'&&(a==a'&&(b==b'&&(c==c'&&d==d'))))) w:=by
 rw[run_eql_struct,run_eq_cell];rfl

attribute [local go_sem ↓] run_neq_cell

end

section
open Go.RowKit
attribute [local go_sem ↓] run_neq_cell

def Aj(cs:List Cel):List Cel:=cs.filter λ c=>c.tag==1

def BK(cs:List Cel):List Nat:=(Aj cs).map Cel.g

theorem obsG_len(cs:List Cel):(BK cs).length<=cs.length:=by
 unfold BK Aj
 rw[List.length_map]
 exact List.length_filter_le _ _

theorem objsOf_append(xs ys:List Cel):Aj (xs++ys)=Aj xs++Aj ys:=List.filter_append ..

def BX(cs:List Cel):Prop:=∀ c∈cs,¬ c.tag=1->c.tag=Dx c.sz/\c.ty=0/\c.ln=0

end

section
open Go.RowKit

theorem AX{c:Cel}{xs:List Cel}:c∈Aj xs ↔ c∈xs/\c.tag=1:=by
 rw[Aj,List.mem_filter];simp

theorem BX.gap(g m:Nat):BX (gapL g m):=by
 intro c hc _
 obtain⟨_,rfl⟩:=Co hc
 exact⟨rfl,rfl,rfl⟩

theorem BX.append{xs ys:List Cel}(h:BX xs)(k:BX ys):BX (xs++ys):=by
 intro c hc
 rcases List.mem_append.1 hc with hc|hc
 .exact h c hc
 .exact k c hc

theorem BX.left{xs ys:List Cel}(h:BX (xs++ys)):BX xs:=λ c hc=>h c (List.mem_append_left _ hc)

theorem BX.right{xs ys:List Cel}(h:BX (xs++ys)):BX ys:=λ c hc=>h c (List.mem_append_right _ hc)

theorem put_gaps{pre post:List Cel}{c:Cel}{j i l S:Nat}(h:BX (pre++c::post)):BX (putL pre c post j i l S):=by
 have h2:BX post:=λ d hd=>h d (List.mem_append_right _ (List.mem_cons_of_mem _ hd))
 refine h.left.append (((BX.gap _ _).append ?_).append h2)
 refine BX.append (xs:=[_]) (λ d hd ht=>?_) (BX.gap _ _)
 rw[List.mem_singleton.1 hd] at ht
 exact absurd rfl ht

theorem drop_gaps{cs p1 g1 g2 p2:List Cel}{c:Cel}{g x y:Nat}(h:BX cs)(hd:Dj cs g p1 g1 c g2 p2 x y):BX (dropL p1 p2 x y):=by
 obtain⟨e,-⟩:=hd
 subst e
 exact h.left.append ((BX.gap _ _).append h.right.right)

end

end Go.Proofs.YtfkedlgpgmaemaaGreatDoor
