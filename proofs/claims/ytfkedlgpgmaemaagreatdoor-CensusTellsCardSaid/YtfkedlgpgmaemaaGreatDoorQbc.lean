/-
  Lemmas for the laws, together: MarkC.
-/
import Derived.Test.YtfkedlgpgmaemaaGreatDoorQbb
import Derived.Test.YtfkedlgpgmaemaaGreatDoorQam
import Derived.Conc.SmallLaws
import Derived.Test.YtfkedlgpgmaemaaGreatDoorQba
import Derived.Test.YtfkedlgpgmaemaaGreatDoorQah
import Derived.Test.YtfkedlgpgmaemaaGreatDoorQax
set_option linter.unusedVariables false
set_option maxHeartbeats 16000000
namespace Go.Proofs.YtfkedlgpgmaemaaGreatDoor
open Tryz
section
open Go.RowKit Go.Conc

def AO(w:World)(v:Value)(xs:List Nat):Prop:=
 ∃ a cap,v=.slice a xs.length cap/\∀ i x,xs[i]?=some x->∃ b o,a=some ⟨b,o,none⟩/\w.cell? ⟨b,o+i,none⟩=some (.int .i64 (x:Nat))

theorem AO.Ac{w w':World}{v:Value}{xs:List Nat}(c:AO w v xs)(k:Kp Aa w w'):AO w' v xs:=by
 obtain⟨a,cap,f,c⟩:=c
 exact⟨a,cap,f,λ i x g=>by
  obtain⟨b,o,d,e⟩:=c i x g
  exact⟨b,o,d,k.cell e id⟩⟩

def OfCut(w:World)(s mp lim H:Nat)(fs:Nat->Bool)(v:Value)(wx:World):Prop:=
 ∃ mb c sp sq,v=.pointer (some ⟨mb,0,none⟩)/\wx.heap[mb]?=some (.cells #[.pointer (some s),.pointer (some ⟨sp,0,none⟩),.pointer (some mp),.chan (some c),.slice none 0 0,(0:Int),.bool false,(0:Int)] 213 (0,0))/\
  wx.heap[c]?=some (.chan lim #[] false 0 0 false)/\AL wx sp sq fs H/\(w.heap.size<=mb/\w.heap.size<=c/\w.heap.size<=sp/\w.heap.size<=sq)/\(¬ mb=c/\¬ mb=sp/\¬ mb=sq/\¬ c=sp/\¬ c=sq)/\Kp Aa w wx

def DU(f:Nat->Bool)(H:Nat)(ts:List TypR)(W:Nat->Nat)(cs:List Cel)(g:Nat):List Nat:=
 match cs.find? (λ c=>c.tag==1&&c.g==g) with
 |some c=>Fx f H (tgtsC ts W c) (tgtsC ts W c).length
 |none=>[]

def CL(cs:List Cel)(g:Nat):Prop:=∃ c∈cs,c.tag=1/\c.g=g

theorem objG_find{cs:List Cel}{g:Nat}(b:CL cs g):∃ c,cs.find? (λ c=>c.tag==1&&c.g==g)=some c/\c∈cs/\c.tag=1/\c.g=g:=by
 obtain⟨c,d,e,f⟩:=b
 cases hf:cs.find? (λ c=>c.tag==1&&c.g==g) with
 |none=>
  have:=List.find?_eq_none.1 hf c d
  simp[e,f] at this
 |some x=>
  have a:=List.find?_some hf
  simp only[Bool.and_eq_true,beq_iff_eq] at a
  exact⟨x,rfl,List.mem_of_find?_eq_some hf,a.1,a.2⟩

theorem Fj{cs:List Cel}{g:Nat}:CL cs g ↔ Ak cs g=true:=by
 unfold CL Ak
 simp

theorem kidOf_mem{f:Nat->Bool}{H y k:Nat}(a:k∈kidOf f H y):k<H/\f k=true:=by
 unfold kidOf at a
 obtain⟨z,d⟩:∃ z,(y-1048576)/2=z:=⟨_,rfl⟩
 rw[d] at a
 by_cases hcnd:1048576<=y/\y<1114112/\(y-1048576)%2=0/\EH f H (z:Nat)=true
 .rw [if_pos hcnd] at a
  have b:=hcnd.2.2.2
  unfold EH at b
  rw[Bool.and_eq_true,decide_eq_true_eq,Int.toNat_natCast] at b
  have c:=List.mem_singleton.1 a
  rw[c]
  exact⟨by omega,b.2⟩
 .rw [if_neg hcnd] at a
  cases a

theorem tgtsC_len{P:Sp}{W:Nat->Nat}{cs:List Cel}{c:Cel}(d:CellsAt P W cs)(e:c∈cs)(f:c.tag=1):(tgtsC P.ts W c).length<=65536:=by
 unfold tgtsC
 refine Nat.le_trans (tgtL_len _ _ _) ?_
 have b:∀ o:Option TypR,typeOf P.ts (c.ty:Nat)=o->(match o with|some x=>BP x.k x.wds x.m (c.ln:Nat)|none=>[]).length<=65536:=by
  intro o a
  cases o with
  |none=>exact Nat.zero_le _
  |some x=>exact Nat.le_trans (Eh (M:=x.m) (kind_of (k:=x.k) (wds:=x.wds) (m:=x.m) d e f a)) (by omega)
 exact b _ rfl

theorem markCtx{P:Sp}{W:Nat->Nat}{f:Nat->Bool}{cs:List Cel}{w:World}(E:SpaceAt w P W f)(p:CellsAt P W cs)(F:∀ i,i<P.n/2->f i=Ak cs i)(D:∀ x∈P.ts,x.m<18446744073709551616)(rs:Nat->Prop){mb c cap base sp sq mp mq:Nat}(r:w.heap.size<=mb)(t:w.heap.size<=c)(u:w.heap.size<=mq)(I:w.heap.size<=base):
  MCtx (DU f (P.n/2) P.ts W cs) (CL cs) rs mb c cap base (.pointer (some P.s)) sp sq mp mq (P.n/2) f (λ w'=>SpaceAt w' P W f):=by
 have C:∀ g,CL cs g->g<P.n/2:=λ g ⟨x,r,t,u⟩=>by
  have:=p.tl.mem r
  unfold Cel.fin at this
  omega
 refine⟨λ w1 w2 q k=>q.keep k (λ i B e=>?_),λ g b w' H S q A=>?_,C,λ g b k l=>?_,λ g b=>?_⟩
 .have:=E.lt i B
  omega
 .obtain ⟨x,a,d,j,o⟩:=objG_find b
  have:=Kids_at P W f cs x mb c cap base sp sq mp mq (P.n/2) f H S w' q p d j D A
  unfold DU
  rw[a]
  rw[o] at this
  exact this
 .obtain ⟨x,a,d,j,o⟩:=objG_find b
  unfold DU at l
  rw[a] at l
  unfold Fx at l
  obtain⟨y,-,G⟩:=List.mem_flatMap.1 l
  obtain⟨v,z⟩:=kidOf_mem G
  rw[Fj,<- F _ v]
  exact z
 .obtain ⟨x,a,d,j,o⟩:=objG_find b
  unfold DU
  rw[a]
  exact Nat.le_trans (kidL_len _ _ _ _) (tgtsC_len p d j)

def MarkOfPost(KF:Nat->List Nat)(T:Nat->Prop)(xs:List Nat)(lim H:Nat)(w:World)(e:Ending)(w':World):Prop:=
 ∃ (mp mq:Nat) (fm:Nat->Bool) (n dp ag:Nat),e=.returned (.tuple #[.pointer (some mp),.agg #[n,dp,ag],(0:Int)])/\
  AL w' mp mq fm H/\n=(List.range H).countP fm/\dp<=lim/\(0<ag->lim<n)/\(∀ g,fm g=true ↔ MReach KF (λ g=>g∈xs) g)/\(∀ g,fm g=true->T g)/\w.heap.size<=mp/\w.heap.size<=mq/\Kp Aa w w'

def muF(mb H:Nat)(w:World):Nat:=
 match w.cell? ⟨mb,6,none⟩,w.cell? ⟨mb,7,none⟩ with
 |some (.bool true),some (.int _ n)=>H+1-n.toNat
 |_,_=>0

theorem muF_at{w:World}{mb c cap base:Nat}{v0:Value}{sp sq mp mq H:Nat}{fs:Nat->Bool}{e:Value}{S:MS}(d:MarkAt w mb c cap base v0 sp sq mp mq H fs e S):muF mb H w=if S.full=true then H+1-S.n else 0:=by
 obtain⟨-,-,-,-,-,-,a,b⟩:=Cs d.st.blk
 unfold muF
 rw[a,b]
 cases S.full <;> simp

theorem cell_in{w:World}{b j:Nat}{v:Value}(h:w.cell? ⟨b,j,none⟩=some v):b<w.heap.size:=by
 by_cases hb:b<w.heap.size
 .exact hb
 .simp [World.cell?,Array.getElem?_eq_none (Nat.le_of_not_lt hb)] at h

theorem MarkAt.other{w w':World}{x mb c cap base:Nat}{v0:Value}{sp sq mp mq H:Nat}{fs:Nat->Bool}{f:Value}{S:MS}(d:MarkAt w mb c cap base v0 sp sq mp mq H fs f S)(k:Kp (λ k=>k=x) w w')(m:base<=x)(j:∀ b,f.ownBlock=some b->¬ b=x):MarkAt w' mb c cap base v0 sp sq mp mq H fs f S:=by
 have a:=d.ap
 have n:=d.st.mb_lt
 have o:=d.st.c_lt
 obtain⟨buf,s,r,i,l⟩:=d.st.ch
 exact⟨⟨k.at_ d.st.blk (by omega),⟨buf,s,r,k.at_ i (by omega),l⟩,Af d.st.row k (λ b g e=>j b g e),d.st.le,d.st.cap_le,d.st.deep_le,d.st.mb_lt,d.st.c_lt,d.st.ne⟩,
  d.sb.keep k (by omega) (by omega),d.mbits.keep k (by omega) (by omega),d.cnt,d.ap,d.ne,Nat.le_trans d.bz k.size⟩

structure OfLoop(KF:Nat->List Nat)(T:Nat->Prop)(xs:List Nat)(mb c lim base:Nat)(v0:Value)(sp sq mp mq H:Nat)(f:Nat->Bool)(I:World->Prop)(w:World)(xb:Nat)(a:Nat)(lv:Value)(S:MS)(wr:World):Prop where
 at_:MarkAt wr mb c lim base v0 sp sq mp mq H f lv S
 inv:MInv KF T (λ g=>g∈xs) lim (λ _=>False) S
 stk:S.stk=[]
 hi:I wr
 own:∀ b,lv.ownBlock=some b->¬ b=xb
 rt:∀ g∈xs,S.f g=true
 kp:Kp Aa w wr
 rc:wr.heap[w.heap.size]?=some (.cells #[(0:Int),(0:Int),(0:Int)] 144 (0,0))
 x:wr.heap[xb]?=some (.cells #[(0:Int),(0:Int),a] 144 (0,0))
 le:S.full=true->a<=S.n
 le1:a<=S.n+1
 gt:0<a->lim<S.n

theorem MInv.init(KF:Nat->List Nat)(T rs:Nat->Prop)(cap:Nat):MInv KF T rs cap (λ _=>False) ⟨λ _=>false,false,0,[],0⟩:=by
 refine⟨?_,?_,Nat.le_refl _,?_,?_⟩
 .intro g e
  cases e
 .intro g e
  cases e
 .intro e
  cases e
 .intro _ g e
  cases e

theorem MInv.all{KF:Nat->List Nat}{T rs:Nat->Prop}{cap:Nat}{S:MS}(a:MInv KF T rs cap (λ _=>False) S)(b:S.stk=[])(c:S.full=false)(d:∀ g,rs g->S.f g=true)(g:Nat):S.f g=true ↔ MReach KF rs g:=by
 refine⟨λ e=>(a.re g e).2,λ e=>?_⟩
 induction e with
 |root hg=>exact d _ hg
 |step _ hk ih=>
  rcases a.cl c _ ih with e|e|e
  .rw [b] at e
   cases e
  .exact e.elim
  .exact e _ hk

def MarkAnyPost(KF:Nat->List Nat)(T:Nat->Prop)(zs:List Int)(lim H:Nat)(w:World)(e:Ending)(w':World):Prop:=
 (∃ xs:List Nat,zs=xs.map (λ g:Nat=>(g:Int))/\(∀ g∈xs,T g)/\MarkOfPost KF T xs lim H w e w')\/
 (∃ z∈zs,∀ g:Nat,z=(g:Int)->¬ T g)/\e=.returned (.tuple #[.pointer none,.agg #[(0:Int),(0:Int),(0:Int)],(2:Int)])/\Kp Aa w w'

theorem CB{w:World}{v:Value}{xs:List Int}{ns:List Nat}(e:IntsIn w v xs)(m:xs=ns.map (λ g:Nat=>(g:Int))):AO w v ns:=by
 subst m
 obtain⟨a,cap,rfl,k⟩:=e
 refine⟨a,cap,by rw[List.length_map],λ i x d=>?_⟩
 have l:=(gE.1 d).1
 obtain⟨b,o,f,n,j⟩:=k i (by rw[List.length_map];exact l)
 have c:=(j 0 (by omega)).1
 dsimp only at c
 rw[List.getD_eq_getElem?_getD,List.getElem?_map,d] at c
 exact⟨b,o,f,by rw[show o+i=o+(i*1+0) by omega];exact c⟩

theorem Fe{w:World}{v:Value}{xs:List Nat}(k:AO w v xs)(p:∀ x∈xs,x<65536):IntsIn w v (xs.map λ g:Nat=>(g:Int)):=by
 obtain⟨a,c,rfl,m⟩:=k
 refine⟨a,c,by rw[List.length_map],λ i f=>?_⟩
 rw[List.length_map] at f
 have d:xs[i]?=some xs[i]:=List.getElem?_eq_getElem f
 obtain⟨b,o,l,e⟩:=m i _ d
 have q:=p _ (List.mem_of_getElem? d)
 refine⟨b,o,l,cell_in e,λ j r=>?_⟩
 have n:(xs.map λ g:Nat=>(g:Int)).getD i 0=((xs[i]:Nat):Int):=by
  rw[List.getD_eq_getElem?_getD,List.getElem?_map,d];rfl
 dsimp only
 rw[show o+(i*1+j)=o+i by omega,n]
 exact⟨e,by omega,by omega⟩

theorem nat_row{T:Nat->Prop}:∀ {zs:List Int},(∀ z∈zs,∃ g:Nat,z=(g:Int)/\T g)->∃ xs:List Nat,zs=xs.map (λ g:Nat=>(g:Int))/\∀ g∈xs,T g
 |[],_=>⟨[],rfl,λ _ a=>(by cases a)⟩
 |z::zs,a=>by
  obtain⟨xs,rfl,b⟩:=nat_row (λ z f=>a z (List.mem_cons_of_mem _ f))
  obtain⟨g,rfl,c⟩:=a z (List.mem_cons_self ..)
  exact⟨g::xs,rfl,λ x d=>(List.mem_cons.1 d).elim (λ e=>e▸c) (b x)⟩

theorem mkchan(a:Nat)(e:a<=4096)(w:World):(Instr.makeChan 209 (.int .i64 a)).run prog w=.ok (.chan (some w.heap.size)) (w.alloc (.chan a #[] false 0 0 false)):=by
 have b:(prog.info? 298).map (·.bytes)=some 0:=by kernel_rfl
 obtain⟨i,d,c⟩:=Option.map_eq_some_iff.1 b
 exact run_makeChan (P:=prog) (w:=w) (t:=209) (dir:=.both) (by kernel_rfl) d .i64 a (by omega) (by rw[c];omega)

set_option maxRecDepth 20000 in
theorem MarkOf_any(P:Sp)(W:Nat->Nat)(f:Nat->Bool)(u:Nat)(w:World)(cs:List Cel)(a2:SpaceAt w P W f)(g9:CellsAt P W cs)(d9:∀ i,i<P.n/2->f i=Ak cs i)(l8:∀ x∈P.ts,x.m<18446744073709551616)(g4:1<=u)(d0:u<=4096)(v:Value)(zs:List Int)(m1:IntsIn w v zs)(s2:zs.length<=65536):
  Calls prog 73 #[.pointer (some P.s),u,v] w (MarkAnyPost (DU f (P.n/2) P.ts W cs) (CL cs) zs u (P.n/2) w):=by
 have r9:=a2.ar.small
 obtain⟨H,d2⟩:∃ H,P.n/2=H:=⟨_,rfl⟩
 have f0:=sE (λ (xs:List Nat) mb c base sp sq mp mq=>markCtx a2 g9 d9 l8 (λ g=>g∈xs) (mb:=mb) (c:=c) (cap:=u) (base:=base) (sp:=sp) (sq:=sq) (mp:=mp) (mq:=mq))
 have a8:Sl (∀ i:Int,EH f (P.n/2) i=true ↔ ∃ g:Nat,i=(g:Int)/\CL cs g):=⟨λ i=>by
  unfold EH
  rw[Bool.and_eq_true,decide_eq_true_eq]
  constructor
  .rintro ⟨⟨g4,d0⟩,k6⟩
   refine⟨i.toNat,by omega,?_⟩
   rw[d9 _ (by omega)] at k6
   exact Fj.2 k6
  .rintro ⟨g,rfl,d⟩
   have q9:g<P.n/2:=by
    obtain⟨x,b9,t8,t9⟩:=d
    have:=g9.tl.mem b9
    unfold Cel.fin at this
    omega
   refine⟨by omega,?_⟩
   rw[Int.toNat_natCast,d9 _ q9]
   exact Fj.1 d⟩
 have o6:Sl (u<=4096/\1<=u):=⟨d0,g4⟩
 obtain⟨KF,k8⟩:∃ KF,DU f (P.n/2) P.ts W cs=KF:=⟨_,rfl⟩
 obtain⟨T,g6⟩:∃ T,CL cs=T:=⟨_,rfl⟩
 rw[k8,g6] at f0 ⊢
 rw[g6] at a8
 rw[d2] at f0 a8 ⊢
 have j5:=sE a2
 have f8:=sE m1
 have o2:Sl (∀ l,Kp Aa w l->Calls prog 89 #[.pointer (some P.s)] l λ e w'=>e=.returned (.int .i64 (H:Nat))/\w'=l):=⟨λ l c2=>by
  have:=FE P W f l (a2.Ac c2)
  rwa [d2] at this⟩
 have p2:Sl (∀ l,Calls prog 106 #[.int .i64 (H:Nat)] l λ e w'=>∃ p q,e=.returned (.tuple #[.pointer (some ⟨p,0,none⟩),(0:Int)])/\l.heap.size<=p/\l.heap.size<=q/\AL w' p q (λ _=>false) H/\Kp Aa l w'):=⟨λ l=>New_yes H l (by omega)⟩
 have j6:Sl (∀ l,Kp Aa w l->Calls prog 122 #[.pointer (some P.s)] l λ e w'=>∃ p q,e=.returned (.pointer (some ⟨p,0,none⟩))/\l.heap.size<=p/\l.heap.size<=q/\AL w' p q f H/\Kp Aa l w'):=⟨λ l c2=>by
  have:=Starts_at P W f l (a2.Ac c2)
  rwa [d2] at this⟩
 have f6:∀ l,(Instr.makeChan 209 (.int .i64 u)).run prog l=.ok (.chan (some l.heap.size)) (l.alloc (.chan u #[] false 0 0 false)):=λ l=>mkchan u d0 l
 have t6:decide ((u:Int)<1)=false:=dF (by omega)
 have t7:decide ((4096:Int)<(u:Int))=false:=dF (by omega)
 obtain⟨w1,e0⟩:∃ w1,w1=w.alloc (.cells #[(0:Int),(0:Int),(0:Int)] 144):=⟨_,rfl⟩
 have m5:Kp Aa w w1:=by rw[e0];exact (Kr _ w).alloc _
 have j9:w1.heap[w.heap.size]?=some (.cells #[(0:Int),(0:Int),(0:Int)] 144 (0,0)):=by rw[e0];exact wN w _
 have f2:=sE m5
 have j1:=sE j9
 clear a2 m1 d2 r9 g4 d0 m5 j9 g9 d9 l8 k8 g6
 obtain⟨s9,w9,rfl,m4⟩:=id f8.o
 have q2:=sE m4
 clear m4
 obtain⟨L,r⟩:∃ L,zs.length=L:=⟨_,rfl⟩
 rw[r] at f8 s2 ⊢
 have Q:=sE r
 clear r
 go_enter func73,ntmps73
 go_wp2_with fail
 rw[<- e0]
 clear e0
 refine(o2.o _ f2.o).mono ?_
 rintro e w2 ⟨rfl,rfl⟩
 go_wp2_with fail
 refine(p2.o _).mono ?_
 rintro e D ⟨mp,mq,rfl,l7,i4,l6,i6⟩
 have c8:=sE (f2.o.then' i6)
 have f5:=sE l6
 have n6:=sE (i6.at_ j1.o (λ d=>d))
 clear l6 i6
 go_upto_region 8 with fail
 go_cut [11] from 37 to 46 (λ z t3=>OfCut D P.s mp u H f z t3)
 case first=>
  have e7:Kp Aa D D.drew:=(Kr _ _).drew
  refine wp_region_held_drew (S:=(λ _=>True)) (by kernel_rfl) ?_ (λ b7=>?_)
  .trivial
  refine Ap 0 ?_;refine Ap 1 ?_;refine Ap 3 ?_;refine Ap 4 ?_
  try simp only[AB]
  refine Bp [2,5] ?_
  refine Ai rfl (λ K hK=>?_) ?_
  .go_simp
   with_reducible refine(j6.o _ (c8.o.then' e7)).mono ?_
   rintro e G ⟨sp,sq,rfl,a2,s0,F,b5⟩
   have b6:=e7.then' b5
   refine hK _ _ ?_ (λ b7=>?_)
   .trivial
   clear hK K
   try simp only[AB]
   refine Bp [5] ?_
   refine Ag rfl (λ K hK=>?_)
   go_simp
   obtain⟨E,M⟩:∃ E,E=G.alloc (.chan u #[] false 0 0 false):=⟨_,rfl⟩
   rw[<- M]
   have a9:Kp Aa G E:=by rw[M];exact (Kr _ _).alloc _
   have g7:E.heap[G.heap.size]?=some (.chan u #[] false 0 0 false):=by rw[M];exact wN _ _
   have g0:Sl (E.heap.size=G.heap.size+1):=⟨by rw[M];simp⟩
   clear M
   refine hK _ _ ?_ (λ b7=>?_)
   .trivial
   clear hK K
   try simp only[AB]
   refine Ap 6 ?_;refine Ap 7 ?_
   try simp only[AB]
   refine Bp [8] ?_
   refine Ag rfl (λ K hK=>?_)
   go_simp
   obtain⟨a0,Y⟩:∃ a0,a0=World.alloc E (.cells #[.pointer (some P.s),.pointer (some sp),.pointer (some mp),.chan (some G.heap.size),.slice none 0 0,(0:Int),.bool false,(0:Int)] 213):=⟨_,rfl⟩
   rw[<- Y]
   have b0:Kp Aa E a0:=by rw[Y];exact (Kr _ _).alloc _
   have g8:a0.heap[E.heap.size]?=some (.cells #[.pointer (some P.s),.pointer (some sp),.pointer (some mp),.chan (some G.heap.size),.slice none 0 0,(0:Int),.bool false,(0:Int)] 213 (0,0)):=by rw[Y];exact wN _ _
   clear Y
   refine hK _ _ ?_ (λ b7=>?_)
   .trivial
   clear hK K
   try simp only[AB]
   refine Ap 9 ?_
   try simp only[AB]
   refine wpAnyH_done (by kernel_rfl) ?_ _
   go_wp2_with fail
   go_meet
   have b2:=b6.size
   have t4:=g0.o
   have c5:=b5.size
   have zs:=F.lt_p'
   have t5:=F.lt_q'
   have i9:=e7.size
   exact⟨E.heap.size,G.heap.size,sp,sq,rfl,g8,b0.at_ g7 (λ d=>d),(F.keep a9 (λ d=>d) (λ d=>d)).keep b0 (λ d=>d) (λ d=>d),⟨by omega,by omega,by omega,by omega⟩,⟨by omega,by omega,by omega,by omega,by omega⟩,(b6.then' a9).then' b0⟩
  .refine Ai rfl (λ K hK=>?_) AllReadyH.nil
   go_simp
   obtain⟨E,M⟩:∃ E,E=(D.alloc (.chan u #[] false 0 0 false)).drew:=⟨_,rfl⟩
   rw[<- M]
   have b6:Kp Aa D E:=by rw[M];exact ((Kr _ _).alloc _).drew
   have g7:E.heap[D.heap.size]?=some (.chan u #[] false 0 0 false):=by rw[M];exact wN D _
   have g0:Sl (E.heap.size=D.heap.size+1):=⟨by rw[M];simp⟩
   clear M
   refine hK _ _ ?_ (λ b7=>?_)
   .trivial
   clear hK K
   try simp only[AB]
   refine Ap 6 ?_
   try simp only[AB]
   refine Bp [2] ?_
   refine Ag rfl (λ K hK=>?_)
   go_simp
   with_reducible refine(j6.o _ (c8.o.then' b6)).mono ?_
   rintro e G ⟨sp,sq,rfl,a2,s0,F,b5⟩
   have s7:=b6.then' b5
   refine hK _ _ ?_ (λ b7=>?_)
   .trivial
   clear hK K
   try simp only[AB]
   refine Ap 7 ?_
   try simp only[AB]
   refine Bp [8] ?_
   refine Ag rfl (λ K hK=>?_)
   go_simp
   obtain⟨a0,Y⟩:∃ a0,a0=World.alloc G (.cells #[.pointer (some P.s),.pointer (some sp),.pointer (some mp),.chan (some D.heap.size),.slice none 0 0,(0:Int),.bool false,(0:Int)] 213):=⟨_,rfl⟩
   rw[<- Y]
   have b0:Kp Aa G a0:=by rw[Y];exact (Kr _ _).alloc _
   have g8:a0.heap[G.heap.size]?=some (.cells #[.pointer (some P.s),.pointer (some sp),.pointer (some mp),.chan (some D.heap.size),.slice none 0 0,(0:Int),.bool false,(0:Int)] 213 (0,0)):=by rw[Y];exact wN _ _
   clear Y
   refine hK _ _ ?_ (λ b7=>?_)
   .trivial
   clear hK K
   try simp only[AB]
   refine Ap 9 ?_
   try simp only[AB]
   refine wpAnyH_done (by kernel_rfl) ?_ _
   go_wp2_with fail
   go_meet
   have b2:=b6.size
   have t4:=g0.o
   have c5:=b5.size
   have zs:=F.lt_p'
   have t5:=F.lt_q'
   have i9:=e7.size
   exact⟨G.heap.size,D.heap.size,sp,sq,rfl,g8,b0.at_ (b5.at_ g7 (λ d=>d)) (λ d=>d),F.keep b0 (λ d=>d) (λ d=>d),⟨by omega,by omega,by omega,by omega⟩,⟨by omega,by omega,by omega,by omega,by omega⟩,s7.then' b0⟩
 case rest=>
  obtain⟨mb,c,sp,sq,rfl,d5,i0,F,i2,b4,e8⟩:=hcut
  have g1:Kp Aa w wc:=c8.o.then' e8
  have i9:=c8.o.size
  have b2:=f2.o.size
  have l5:=lZ d5
  have l4:=lZ i0
  have d3:=f5.o.keep e8 (λ d=>d) (λ d=>d)
  have n8:=sE (λ xs=>f0.o xs mb c wc.heap.size sp sq mp mq (by omega) (by omega) (by omega) (by omega))
  have r4:=f5.o.lt_p'
  have r5:=f5.o.lt_q'
  have j8:MarkAt wc mb c u wc.heap.size (.pointer (some P.s)) sp sq mp mq H f (.slice none 0 0) ⟨λ _=>false,false,0,[],0⟩:=
   ⟨⟨d5,⟨_,_,_,i0,rfl⟩,World.ownsRow_nil _ _ _ _,Nat.zero_le _,by have:=o6.o;omega,Nat.zero_le _,l5,l4,b4.1⟩,F,d3,by simp,⟨F.lt_p',F.lt_q',d3.lt_p',d3.lt_q'⟩,
    ⟨b4.2.1,b4.2.2.1,by omega,by omega,b4.2.2.2.1,b4.2.2.2.2,by omega,by omega,by omega,by omega⟩,Nat.le_refl _⟩
  have o4:=sE (j5.o.Ac g1)
  have o9:=sE j8
  have b8:=sE g1
  have f7:=sE (e8.at_ n6.o (λ d=>d))
  have a6:Sl (w.heap.size<w2.heap.size/\w2.heap.size<=D.heap.size/\D.heap.size<=mb/\D.heap.size<=c/\w2.heap.size<=mp/\w2.heap.size<=mq):=⟨⟨lZ j1.o,by omega,i2.1,i2.2.1,l7,i4⟩⟩
  have o3:Sl (∀ (i:Int) l,Kp Aa wc l->Calls prog 58 #[.pointer (some sp),.int .i64 i] l (RK (.bool (EH f H i)) l)):=⟨λ i l c2=>Has_int i H sp sq f l (F.keep c2 (λ e=>e) (λ e=>e))⟩
  obtain⟨-,b9,-,-,-,-,-,-⟩:=Cs d5
  have o0:=sE b9
  clear i0 F i2 b4 e8 g1 i9 b2 l5 l4 d3 r4 r5 j8 l7 i4 d5 b9
  go_wp2_with fail
  go_loopw [13,48] (λ _ x48 wr=>∃ j:Nat,j<=L/\x48=.int .i64 (j:Nat)/\Sl (∀ z∈zs.take j,EH f H z=true)/\Kp Aa wc wr) (λ _ x48 _=>L-(intOf x48).toNat)
  case atStart=>exact ⟨0,Nat.zero_le _,rfl,⟨λ z O=>by simp at O⟩,Kr _ _⟩
  case round=>
   obtain⟨j,w0,rfl,j0,B⟩:=hrel
   have a7:=sE B
   by_cases hjl:j<L
   .have w3:(j:Int)<(L:Int):=by omega
    obtain⟨g,C⟩:∃ x,zs.getD j 0=x:=⟨_,rfl⟩
    have a3:zs[j]?=some g:=by
     rw[List.getD_eq_getElem?_getD,List.getElem?_eq_getElem (by rw[Q.o];exact hjl)] at C
     rw[List.getElem?_eq_getElem (by rw[Q.o];exact hjl),<- C];rfl
    obtain⟨a9,o,rfl,-,U⟩:=q2.o j (by rw[Q.o];exact hjl)
    replace U:=(U 0 (by omega)).1
    rw[show o+(j*1+0)=o+j by omega,C] at U
    replace U:=(b8.o.then' B).cell U (λ d=>d)
    have b9:=B.cell o0.o (λ d=>d)
    have c7:=sE (o3.o g _ B)
    have j7:=sE a3
    clear B a3 C
    cases hyes:EH f H g with
    |true=>
     rw[hyes] at c7
     have n3:Sl (∀ z∈zs.take (j+1),EH f H z=true):=⟨λ z O=>by
      rw[List.take_add_one,j7.o] at O
      rcases List.mem_append.1 O with O|O
      .exact j0.o z O
      .obtain rfl:z=g:=by simpa using O
       exact hyes⟩
     clear hyes
     go_wp2_with fail
     refine c7.o.mono ?_
     rintro e c3 ⟨rfl,c1⟩
     have c9:=sE (a7.o.then' c1)
     clear c1
     go_wp2
     exact⟨⟨j+1,by omega,by go_num,n3,c9.o⟩,by simp only[intOf];omega⟩
    |false=>
     rw[hyes] at c7
     have p3:Sl (∃ z∈zs,∀ g:Nat,z=(g:Int)->¬ T g):=⟨g,List.mem_of_getElem? j7.o,λ y e s1=>by
      have:=(a8.o g).2 ⟨y,e,s1⟩
      rw[hyes] at this
      cases this⟩
     clear hyes
     go_wp2_with fail
     refine c7.o.mono ?_
     rintro e c3 ⟨rfl,c1⟩
     have c9:Sl (Kp Aa wc c3):=⟨a7.o.then' c1⟩
     clear c1
     have d7:=c9.o.at_ f7.o (λ d=>d)
     have p4:=sE d7
     obtain⟨m9,n0,n1⟩:=cells3 d7
     have R:=Ab d7
     have k3:=R 0
     have k4:=R 1
     have k5:=R 2
     clear R d7
     go_wp2_with fail
     obtain⟨Z,V⟩:∃ Z,Z=((c3.setCell w.heap.size (.int .i64 0)).setCell ⟨w.heap.size,1,none⟩ (.int .i64 0)).setCell ⟨w.heap.size,2,none⟩ (.int .i64 0):=⟨_,rfl⟩
     have e6:Kp (λ k=>k=w.heap.size) c3 Z:=by rw[V];exact (((Kr (λ k=>k=w.heap.size) c3).setCell (λ _=>rfl) _).setCell (λ _=>rfl) _).setCell (λ _=>rfl) _
     have bZ:Z.heap[w.heap.size]?=some (.cells #[(0:Int),(0:Int),(0:Int)] 144 (0,0)):=by
      rw[V,bZ (bZ (bZ p4.o _) _) _]
      rfl
     rw[<- V]
     clear V
     obtain⟨i8,b2,c5⟩:=cells3 bZ
     refine bodyPost_ret (v:=.tuple #[.pointer none,.agg #[(0:Int),(0:Int),(0:Int)],(2:Int)]) (by simp[results,results73,go_sem,i8,b2,c5]) rfl ?_
     exact Or.inr ⟨p3.o,rfl,(b8.o.then' c9.o).trans e6 (λ i N e=>absurd (show i=w.heap.size from e) (by omega))⟩
   .obtain rfl:j=L:=by omega
    obtain⟨xs,e4,m2⟩:=nat_row (T:=T) (zs:=zs) λ z O=>(a8.o z).1 (j0.o z (by rw[List.take_of_length_le (by rw[Q.o];omega)];exact O))
    have q1:=sE e4
    have a8:=sE m2
    have s3:=CB f8.o e4
    obtain⟨t0,y0,m0,m3⟩:=s3
    obtain rfl:s9=t0:=by injection m0
    have q0:=sE m3
    have Q:Sl (xs.length=j):=⟨by rw[<- Q.o,e4,List.length_map]⟩
    have c6:=sE (n8.o xs)
    clear e4 m2 m0 m3
    have o8:=sE (MSt.refl (o9.o.keep B (λ b e=>e.elim)) (KF:=KF) (T:=T) (rs:=λ g=>g∈xs) (X:=λ _=>False) (I:=λ w'=>SpaceAt w' P W f) (MInv.init KF T (λ g=>g∈xs) u) (o4.o.Ac B))
    clear B hjl
    go_wp2_with fail
    go_loopw [15,63] (λ _ x63 t2=>∃ (i:Nat) (a4:Value) (S:MS),i<=j/\x63=.int .i64 (i:Nat)/\MSt KF T (λ g=>g∈xs) mb c u wc.heap.size (.pointer (some P.s)) sp sq mp mq H f (λ w'=>SpaceAt w' P W f) (λ _=>False) wr (.slice none 0 0) ⟨λ _=>false,false,0,[],0⟩ t2 a4 S/\(∀ k∈xs.take i,S.f k=true)) (λ _ x63 _=>j-(intOf x63).toNat)
    case atStart=>exact ⟨0,_,_,Nat.zero_le _,rfl,o8.o,λ k B=>by simp at B⟩
    case round=>
     obtain⟨i,a4,S,N,rfl,a1,d1⟩:=hrel
     have f6:=sE a1
     have n4:=sE d1
     by_cases hil:i<j
     .have v9:(i:Int)<(j:Int):=by omega
      have a3:xs[i]?=some (xs[i]'(by rw[Q.o];exact hil)):=List.getElem?_eq_getElem _
      obtain⟨g,C⟩:∃ x,xs[i]'(by rw[Q.o];exact hil)=x:=⟨_,rfl⟩
      rw[C] at a3
      obtain⟨a9,o,rfl,U⟩:=q0.o i g a3
      have r6:=cell_in U
      have i3:=List.mem_of_getElem? a3
      replace U:=a1.kp.cell ((b8.o.then' a7.o).cell U (λ d=>d)) (λ e=>by
       have:=a6.o
       rcases e with e|e|e|e
       .exact absurd (show a9=mb from e) (by omega)
       .exact absurd (show a9=c from e) (by omega)
       .exact absurd (show a9=mq from e) (by omega)
       .cases e)
      have p0:=sE (a1.mark c6.o (a8.o g i3) (MReach.root i3))
      have p9:Sl (xs.take (i+1)=xs.take i++[g]):=⟨by rw[List.take_add_one,a3];rfl⟩
      clear a1 d1 C a3 i3 r6
      go_wp2_with fail
      refine p0.o.mono ?_
      rintro e D ⟨rfl,s8,q3,k9,l3⟩
      have j4:=sE k9
      have o1:=sE l3
      clear k9 l3
      go_wp2_with fail
      exact⟨⟨i+1,s8,q3,by omega,by go_num,f6.o.trans j4.o,λ k B=>by
       rw[p9.o] at B
       rcases List.mem_append.1 B with B|B
       .exact j4.o.ext.f k (n4.o k B)
       .obtain rfl:k=g:=by simpa using B
        exact o1.o⟩,by simp only[intOf];omega⟩
     .obtain rfl:i=j:=by omega
      have n9:=sE (Drain_at c6.o _ a1.at_ a1.inv a1.hi)
      have p7:Sl (∀ g∈xs,S.f g=true):=⟨λ g C=>d1 g (by rw[<- Q.o,List.take_length];exact C)⟩
      clear a1 d1 hil
      go_wp2_with fail
      refine n9.o.mono ?_
      rintro e e9 ⟨rfl,m8,g2,g5,l9⟩
      have f4:=sE (f6.o.trans g5)
      have p5:Sl (∀ g∈xs,g2.f g=true):=⟨λ g C=>g5.ext.f g (p7.o g C)⟩
      have p8:=sE l9
      clear g5 l9
      go_wp2_with fail
      obtain⟨t,i5⟩:∃ t,e9.heap.size=t:=⟨_,rfl⟩
      obtain⟨c4,e1⟩:∃ c4,c4=e9.alloc (.cells #[(0:Int),(0:Int),(0:Int)] 144):=⟨_,rfl⟩
      have m6:Kp Aa e9 c4:=by rw[e1];exact (Kr _ _).alloc _
      have k0:c4.heap[t]?=some (.cells #[(0:Int),(0:Int),(0:Int)] 144 (0,0)):=by rw[e1,<- i5];exact wN e9 _
      rw[<- e1,i5]
      have s5:=(b8.o.then' a7.o).size
      have s4:=a7.o.size
      have s6:=f4.o.kp.size
      have l1:wc.heap.size<=t:=by omega
      have r7:w.heap.size<wc.heap.size:=by have:=a6.o;have:=lZ f7.o;omega
      have o7:Sl (OfLoop KF T xs mb c u wc.heap.size (.pointer (some P.s)) sp sq mp mq H f (λ w'=>SpaceAt w' P W f) w t 0 m8 g2 c4):=⟨by
       have c0:=f4.o.new c6.o m6
       refine⟨c0.at_,c0.inv,p8.o,c0.hi,λ b d4 e=>?_,p5.o,?_,?_,k0,λ _=>Nat.zero_le _,Nat.zero_le _,λ e=>absurd e (Nat.lt_irrefl 0)⟩
       .have:=(Ad f4.o.at_.st.row d4).2
        omega
       .refine (b8.o.then' a7.o).trans c0.kp (λ i N e=>?_)
        have:=a6.o
        rcases e with e|e|e|e
        .exact absurd e (by omega)
        .exact absurd e (by omega)
        .exact absurd e (by omega)
        .cases e
       .refine c0.kp.at_ (a7.o.at_ f7.o (λ d=>d)) (λ e=>?_)
        have:=a6.o
        rcases e with e|e|e|e
        .omega
        .omega
        .omega
        .cases e⟩
      have f9:=sE l1
      have b3:Sl (w.heap.size<t):=⟨by omega⟩
      clear e1 m6 k0 i5 s5 s4 s6 l1 r7
      go_loopw [77] (λ _ wl=>∃ (a:Nat) (a4:Value) (S:MS),OfLoop KF T xs mb c u wc.heap.size (.pointer (some P.s)) sp sq mp mq H f (λ w'=>SpaceAt w' P W f) w t a a4 S wl) (λ _ wl=>muF mb H wl)
      case atStart=>exact ⟨0,m8,g2,o7.o⟩
      case round=>
       obtain⟨a,a4,S,r⟩:=hrel
       have A:=sE r
       obtain⟨-,-,-,-,-,q4,g3,q5⟩:=Cs r.at_.st.blk
       obtain⟨x0,x1,x2⟩:=cells3 r.x
       have q6:=Ab r.x 2
       have w4:=r.at_.n_le
       have v1:=r.at_.mbits.FQ
       have v5:=r.le1
       have d6:=muF_at r.at_
       have p1:=sE d6
       clear d6
       cases hfl:S.full with
       |true=>
        have v4:=r.le hfl
        have f1:=sE hfl
        obtain⟨b1,e2⟩:∃ b1,b1=wr.setCell ⟨t,2,none⟩ (.int .i64 ((a:Int)+1)):=⟨_,rfl⟩
        have e5:Kp (λ k=>k=t) wr b1:=by rw[e2];exact (Kr (λ k=>k=t) wr).setCell (λ _=>rfl) _
        have k1:b1.heap[t]?=some (.cells #[(0:Int),(0:Int),.int .i64 ((a+1:Nat):Int)] 144 (0,0)):=by
         rw[e2,bZ r.x]
         rfl
        have l0:=r.at_.other e5 f9.o r.own
        have k7:SpaceAt b1 P W f:=r.hi.keep e5 (λ i N e=>by
         have:=j5.o.lt i N
         have:=b3.o
         omega)
        have n2:=sE (Again_at c6.o b1 l0 r.inv k7 r.stk)
        have n7:=sE k1
        have f3:=sE e5
        rw[hfl] at g3
        clear hfl r e5 k1 l0 k7
        go_wp2_with fail
        rw[<- e2]
        clear e2
        have o5:Sl (Kp Aa w b1):=⟨A.o.kp.trans f3.o (λ i N e=>absurd (show i=t from e) (by have:=b3.o;omega))⟩
        refine n2.o.mono ?_
        rintro e t1 ⟨rfl,m7,S',J,r8⟩
        have w8:=f3.o.size
        have w7:=lZ A.o.x
        have d4:=A.o.at_.st.mb_lt
        have v7:=A.o.at_.st.c_lt
        have i4:=A.o.at_.ap.2.2.2
        have r3:¬ MarkS mb c mq a4 t:=λ e=>by
         have:=f9.o
         rcases e with e|e|e|e
         .omega
         .omega
         .omega
         .exact A.o.own t e rfl
        have r2:¬ MarkS mb c mq a4 w.heap.size:=λ e=>by
         have:=a6.o
         rcases e with e|e|e|e
         .omega
         .omega
         .omega
         .have:=A.o.at_.ge e
          have:=b3.o
          have:=J.at_.st.mb_lt
          omega
        have r1:∀ i,i<w.heap.size->¬ MarkS mb c mq a4 i:=λ i N e=>by
         have:=a6.o
         rcases e with e|e|e|e
         .omega
         .omega
         .omega
         .have:=A.o.at_.ge e
          omega
        have i1:=J.ext
        have w6:S.n<=S'.n:=i1.n
        have l2:S'.full=true->S.n<S'.n:=λ e=>by
         rcases i1.dn e with d|d
         .cases d
         .exact d
        have v8:=A.o.inv.fl f1.o
        have r0:OfLoop KF T xs mb c u wc.heap.size (.pointer (some P.s)) sp sq mp mq H f (λ w'=>SpaceAt w' P W f) w t (a+1) m7 S' t1:=by
         refine⟨J.at_,J.inv,r8,J.hi,λ b d4 e=>?_,λ g C=>i1.f g (A.o.rt g C),o5.o.trans J.kp (λ i N e=>absurd e (r1 i N)),?_,J.kp.at_ n7.o r3,λ e=>?_,?_,λ _=>?_⟩
         .rcases J.own b d4 with d|d
          .exact A.o.own b d e
          .omega
         .exact J.kp.at_ (f3.o.at_ A.o.rc (λ e=>absurd (show w.heap.size=t from e) (by have:=b3.o;omega))) r2
         .have:=l2 e
          omega
         .omega
         .omega
        have d6:=muF_at J.at_
        have w5:=J.at_.n_le
        go_wp2_with fail
        refine⟨⟨a+1,m7,S',r0⟩,?_⟩
        rw[d6,p1.o,f1.o]
        by_cases hf':S'.full=true
        .have:=l2 hf'
         rw[if_pos hf',if_pos rfl]
         omega
        .rw [if_neg hf',if_pos rfl]
         omega
       |false=>
        rw[hfl] at g3
        have f1:=sE hfl
        have n5:=sE (r.inv.all r.stk hfl r.rt)
        have q7:=Ab r.x 0
        have q8:=Ab r.x 1
        clear r hfl
        go_wp2_with fail
        go_region
        obtain⟨a5,e3⟩:∃ a5,a5=((wr.setCell ⟨t,0,none⟩ (.int .i64 S.n)).setCell ⟨t,1,none⟩ (.int .i64 S.deep)).drew:=⟨_,rfl⟩
        have i7:Kp (λ k=>k=t) wr a5:=by rw[e3];exact (((Kr (λ k=>k=t) wr).setCell (λ _=>rfl) _).setCell (λ _=>rfl) _).drew
        have k2:a5.heap[t]?=some (.cells #[S.n,S.deep,a] 144 (0,0)):=by
         rw[e3]
         show((wr.setCell ⟨t,0,none⟩ (.int .i64 S.n)).setCell ⟨t,1,none⟩ (.int .i64 S.deep)).heap[t]?=_
         rw[bZ (bZ A.o.x _) _]
         rfl
        rw[<- e3]
        have d8:=i7.at_ A.o.rc (λ e=>absurd (show w.heap.size=t from e) (by have:=b3.o;omega))
        clear e3 x0 x1 x2 q4 g3 q5 q6 q7 q8
        obtain⟨x0,x1,x2⟩:=cells3 k2
        obtain⟨m9,n0,n1⟩:=cells3 d8
        have p6:=sE d8
        have j2:=sE i7
        have R:=Ab d8
        have k3:=R 0
        have k4:=R 1
        have k5:=R 2
        clear R k2 d8 i7
        go_wp2_with fail
        go_region
        obtain⟨Z,V⟩:∃ Z,Z=(((a5.setCell w.heap.size (.int .i64 S.n)).setCell ⟨w.heap.size,1,none⟩ (.int .i64 S.deep)).setCell ⟨w.heap.size,2,none⟩ (.int .i64 a)).drew:=⟨_,rfl⟩
        have e6:Kp (λ k=>k=w.heap.size) a5 Z:=by rw[V];exact ((((Kr (λ k=>k=w.heap.size) a5).setCell (λ _=>rfl) _).setCell (λ _=>rfl) _).setCell (λ _=>rfl) _).drew
        have bZ:Z.heap[w.heap.size]?=some (.cells #[S.n,S.deep,a] 144 (0,0)):=by
         rw[V]
         show(((a5.setCell w.heap.size (.int .i64 S.n)).setCell ⟨w.heap.size,1,none⟩ (.int .i64 S.deep)).setCell ⟨w.heap.size,2,none⟩ (.int .i64 a)).heap[w.heap.size]?=_
         rw[bZ (bZ (bZ p6.o _) _) _]
         rfl
        rw[<- V]
        clear V m9 n0 n1 x0 x1 x2 k3 k4 k5
        obtain⟨i8,b2,c5⟩:=cells3 bZ
        have v0:=a6.o
        have v2:=f9.o
        have v3:=b3.o
        have v6:=A.o.at_.ap
        have j3:=sE e6
        clear e6 bZ
        go_wp2_with fail
        refine bodyPost_ret (v:=.tuple #[.pointer (some mp),.agg #[S.n,S.deep,a],(0:Int)]) (by simp[results,results73,go_sem,i8,b2,c5]) rfl ?_
        refine .inl ⟨xs,q1.o,a8.o,?_⟩
        refine⟨mp,mq,S.f,S.n,S.deep,a,rfl,?_,A.o.at_.cnt,A.o.at_.st.deep_le,A.o.gt,n5.o,λ g C=>(A.o.inv.re g C).1,by omega,by omega,?_⟩
        .exact (A.o.at_.mbits.keep j2.o (by omega) (by omega)).keep j3.o (by omega) (by omega)
        .exact (A.o.kp.trans j2.o (λ i N e=>absurd (show i=t from e) (by omega))).trans j3.o (λ i N e=>absurd (show i=w.heap.size from e) (by omega))

theorem MarkOf_at(P:Sp)(W:Nat->Nat)(f:Nat->Bool)(a:Nat)(w:World)(cs:List Cel)(j:SpaceAt w P W f)(d:CellsAt P W cs)(y:∀ i,i<P.n/2->f i=Ak cs i)(u:∀ x∈P.ts,x.m<18446744073709551616)(p:1<=a)(q:a<=4096)(v:Value)(xs:List Nat)(A:AO w v xs)(k:∀ g∈xs,CL cs g)(B:xs.length<=65536):
  Calls prog 73 #[.pointer (some P.s),a,v] w (MarkOfPost (DU f (P.n/2) P.ts W cs) (CL cs) xs a (P.n/2) w):=by
 have G:=j.bt.FQ
 have t:∀ g∈xs,g<65536:=λ g c=>by
  obtain⟨x,l,E,F⟩:=k g c
  have:=d.tl.mem l
  unfold Cel.fin at this
  omega
 refine(MarkOf_any P W f a w cs j d y u p q v _ (Fe A t) (by rw[List.length_map];exact B)).mono ?_
 rintro e w' (⟨D,b,-,r⟩|⟨⟨z,C,b⟩,-⟩)
 .obtain rfl:xs=D:=(List.map_inj_right (λ _ _ o=>Int.ofNat.inj o)).1 b
  exact r
 .obtain ⟨g,c,rfl⟩:=List.mem_map.1 C
  exact absurd (k g c) (b g rfl)

theorem MarkOf_no(P:Sp)(W:Nat->Nat)(f:Nat->Bool)(a:Nat)(w:World)(cs:List Cel)(q:SpaceAt w P W f)(k:CellsAt P W cs)(r:∀ i,i<P.n/2->f i=Ak cs i)(o:∀ x∈P.ts,x.m<18446744073709551616)(d:1<=a)(j:a<=4096)(v:Value)(zs:List Int)(t:IntsIn w v zs)(c:∃ z∈zs,∀ g:Nat,z=(g:Int)->¬ CL cs g)(u:zs.length<=65536):
  Calls prog 73 #[.pointer (some P.s),a,v] w (RK (.tuple #[.pointer none,.agg #[(0:Int),(0:Int),(0:Int)],(2:Int)]) w):=by
 refine(MarkOf_any P W f a w cs q k r o d j v zs t u).mono ?_
 rintro e w' (⟨y,rfl,p,-⟩|⟨-,b⟩)
 .obtain ⟨z,c,b⟩:=c
  obtain⟨g,l,rfl⟩:=List.mem_map.1 c
  exact absurd (p g l) (b g rfl)
 .exact b

open Go.RowKit

def Bo(f:Nat->Bool)(j:Nat):List Nat:=(List.range j).filter f

theorem setL_succ(f:Nat->Bool)(j:Nat):Bo f (j+1)=Bo f j++(if f j=true then [j] else []):=by
 unfold Bo
 rw[List.range_succ,List.filter_append]
 congr 1
 by_cases h:f j=true <;> simp[h]

theorem Fq(f:Nat->Bool)(j:Nat):(Bo f j).length<=j:=by
 unfold Bo
 exact Nat.le_trans (List.length_filter_le _ _) (by simp)

def BytesIn(w:World)(v:Value)(n:Nat)(ys:Nat->Nat):Prop:=
 ∃ a cap,v=.slice a n cap/\∀ i,i<n->∃ b o,a=some ⟨b,o,none⟩/\w.cell? ⟨b,o+i,none⟩=some (.int .u8 (ys i:Nat))/\ys i<256

theorem BytesIn.Ac{w w':World}{v:Value}{n:Nat}{d:Nat->Nat}(c:BytesIn w v n d)(k:Kp Aa w w'):BytesIn w' v n d:=by
 obtain⟨a,cap,l,c⟩:=c
 exact⟨a,cap,l,λ i j=>by
  obtain⟨b,o,e,f,g⟩:=c i j
  exact⟨b,o,e,k.cell f id,g⟩⟩

def CR(os:List Cel)(ys:Nat->Nat)(j:Nat):List Nat:=(List.range j).map λ i=>(os[ys i%os.length]?.map Cel.g).getD 0

theorem rootsL_succ{os:List Cel}{a:Nat->Nat}{j:Nat}{x:Cel}(b:os[a j%os.length]?=some x):CR os a (j+1)=CR os a j++[x.g]:=by
 unfold CR
 rw[List.range_succ,List.map_append,List.map_singleton,b]
 rfl

theorem rootsL_len(os:List Cel)(a:Nat->Nat)(j:Nat):(CR os a j).length=j:=by simp[CR]

def BD(os:List Cel)(ys:Nat->Nat)(n:Nat):List Nat:=if os=[] then [] else CR os ys n

theorem Roots20_at(P:Sp)(cs:List Cel)(w:World)(q:SpaceHas w P cs)(Y:cs≠[])(v:Value)(n:Nat)(b:Nat->Nat)(d7:n<=65536)(K:BytesIn w v n b):
  Calls prog 11 #[.pointer (some P.s),v] w λ e w'=>∃ a c,e=.returned (.slice a (BD (Aj cs) b n).length c)/\w'.ownsRow w.heap.size 3 1 (.slice a (BD (Aj cs) b n).length c) (BD (Aj cs) b n).length (Az (BD (Aj cs) b n))/\Kp Aa w w':=by
 have G:=sE (Objects_at P cs w q Y)
 have a0:(Aj cs).length<=65536:=by
  obtain⟨W,f,c9,c4,-⟩:=q
  have:=BG c4.tl
  have:=c9.ar.small
  have:(Aj cs).length<=cs.length:=List.length_filter_le _ _
  omega
 obtain⟨e5,e6,rfl,U⟩:=K
 have O:=sE U
 obtain⟨os,d⟩:∃ os,Aj cs=os:=⟨_,rfl⟩
 rw[d] at G a0 ⊢
 clear q Y U d
 go_enter func11,ntmps11
 go_wp2_with fail
 refine G.o.mono ?_
 rintro e w1 ⟨e1,e2,rfl,a3,N⟩
 have T:=sE a3
 have E:=sE N
 have b3:=N.size
 clear a3 N G
 obtain⟨l,z⟩:∃ l,w1.heap.size=l:=⟨_,rfl⟩
 have Q:=sE z
 obtain⟨L,p⟩:∃ L,os.length=L:=⟨_,rfl⟩
 have F:=sE p
 rw[p] at T a0
 rw[z] at b3
 simp only[p]
 by_cases d:os=[]
 .have I:L=0:=by rw[<- p,d];rfl
  subst I
  have H:Sl (BD os b n=[]):=⟨by unfold BD;rw [if_pos d]⟩
  clear p d z
  go_wp2_with fail
  go_loopw [6,7] (λ x6 x7 wr=>x6=.slice none 0 0/\x7=.int .i64 0/\wr=w1) (λ _ _ _=>0)
  case atStart=>exact ⟨rfl,rfl,rfl⟩
  case round=>
   obtain⟨rfl,rfl,rfl⟩:=hrel
   have V:∃ a c,(Value.slice none 0 0)=.slice a (BD os b n).length c/\wr.ownsRow w.heap.size 3 1 (.slice a (BD os b n).length c) (BD os b n).length (Az (BD os b n)):=by
    rw[H.o]
    exact⟨none,0,rfl,World.ownsRow_nil _ _ _ _⟩
   have b5:=sE V
   clear V
   clear O
   go_wp2_with fail
   all_goals go_ret
   all_goals (obtain ⟨a,c,c0,c1⟩:=b5.o;exact ⟨a,c,congrArg Ending.returned c0,c1,E.o⟩)
 .have I:0<L:=by
   rw[<- p]
   exact List.length_pos_iff.2 d
  have d3:decide ((0:Int)<(L:Int))=true:=dT (by omega)
  have H:Sl (BD os b n=CR os b n):=⟨by unfold BD;rw [if_neg d]⟩
  clear p d z
  go_wp2_with fail
  go_loopw [6,7] (λ x6 x7 wr=>∃ j:Nat,j<=n/\x7=.int .i64 j/\(∃ a m c,x6=.slice a m c)/\wr.ownsRow l 3 1 x6 (CR os b j).length (Az (CR os b j))/\Kp Aa w1 wr/\l<=wr.heap.size) (λ _ x7 _=>n-(intOf x7).toNat)
  case atStart=>exact ⟨0,Nat.zero_le _,rfl,⟨_,_,_,rfl⟩,World.ownsRow_nil _ _ _ _,Kr _ _,by have:=Q.o;omega⟩
  case round=>
   obtain⟨j,d4,rfl,⟨la,ln,lc,rfl⟩,Z,B,d9⟩:=hrel
   have r:=sE Z
   have R:=sE B
   by_cases hjl:j<n
   .have d5:(j:Int)<(n:Int):=by omega
    obtain⟨e7,e8,rfl,M,d0⟩:=O.o j hjl
    have C:b j%L<L:=Nat.mod_lt _ I
    have D:os[b j%L]?=some (os[b j%L]'(by rw[F.o];exact C)):=List.getElem?_eq_getElem _
    obtain⟨x,a6⟩:∃ x,os[b j%L]'(by rw[F.o];exact C)=x:=⟨_,rfl⟩
    rw[a6] at D
    obtain⟨ra,e4,c6,a2⟩:=T.o
    injection c6 with r1 r2 r3
    subst r1
    obtain⟨e3,rfl,c8,A,-,-,-,-⟩:=a2 _ _ D
    have b4:Sl (CR os b (j+1)=CR os b j++[x.g]):=⟨rootsL_succ (by rw[F.o];exact D)⟩
    have S:Sl ((CR os b j).length<=65536):=⟨by rw[rootsL_len];omega⟩
    replace M:=(E.o.then' B).cell M id
    replace A:=B.cell A id
    obtain⟨y,a7⟩:∃ y,b j=y:=⟨_,rfl⟩
    rw[a7] at M d0 C A
    have c7:(y:Int)%(L:Int)=((y%L:Nat):Int):=by omega
    have c5:((y%L:Nat):Int)<(L:Int):=by omega
    have d8:¬ (L:Int)=0:=by omega
    obtain⟨t,a4⟩:∃ t,y%L=t:=⟨_,rfl⟩
    rw[a4] at c7 c5 A C
    clear Z B D a6 a7 a4 a2 r2 r3 c8
    go_wp2_with (at_builtin;obtain ⟨d1,J,a8,a9,b0⟩:=info_parts Be;go_loud (refine wpList_append_lies _ rfl (.tmp 21) (.tmp 34) 24 rfl l 3 d1 _ 1 8 Ar J a8 a9 b0 rfl (by omega) (.slice la ln lc) (CR os b j).length (Az (CR os b j)) rfl (r.o.alloc _) ⟨wr.heap.size,0,none⟩ 1 1 [x.g] rfl rfl (World.news_of_block (wN wr _)) (by intro u a5;simp at a5;subst a5;rfl) (by omega) (by have:=S.o;unfold maxLen;omega) (by have:=S.o;omega) (by simp;omega) (wr.heap.size+1) (by simp) ?_);intro b9 b8 b2 a1 X c3 d6;clear J a8 a9 b0;have b6:=sE X;have b7:=sE a1;clear a1 X c3)
    have b1:Kp (λ k=>l<=k) wr b2:=((Kr Aa wr).alloc (.cells #[x.g] 3) |>.Aw _).grown b6.o (λ k e _=>(Ad r.o e).1)
    have c2:b2.ownsRow l 3 1 (.slice (some ⟨b9,0,none⟩) ((CR os b j).length+1) b8) (CR os b (j+1)).length (Az (CR os b (j+1))):=by
     have:=b7.o
     rw[b4.o,Az,List.map_append,List.length_append]
     exact this
    have e0:=b1.size
    exact⟨⟨j+1,by omega,by go_num,⟨_,_,_,rfl⟩,c2,((R.o.Aw (λ k=>l<=k)).trans b1 (λ _ _ q=>q)).mono (λ i J q=>by have:=Q.o;omega),by omega⟩,by simp only[intOf];omega⟩
   .obtain rfl:j=n:=by omega
    go_wp2_with fail
    go_ret
    obtain⟨a',d2,K⟩:=Aq r.o
    injection K with v1 v2 v3
    have:=Cq r.o b3
    rw[H.o]
    rw[v2] at this ⊢
    exact⟨la,lc,rfl,this,E.o.then' R.o⟩

def OfNo(c:Nat)(w:World)(e:Ending)(w':World):Prop:=
 e=.returned (.tuple #[.pointer none,.agg #[(0:Int),(0:Int),(0:Int)],c])/\Kp Aa w w'

set_option maxRecDepth 20000 in
theorem MarkOf_nil(d:Int)(v:Value)(w:World):Calls prog 73 #[.pointer none,.int .i64 d,v] w (OfNo 1 w):=by
 obtain⟨w1,a⟩:∃ w1,w1=w.alloc (.cells #[(0:Int),(0:Int),(0:Int)] 144):=⟨_,rfl⟩
 have c:Kp Aa w w1:=by rw[a];exact (Kr _ w).alloc _
 have b:w1.heap[w.heap.size]?=some (.cells #[(0:Int),(0:Int),(0:Int)] 144 (0,0)):=by rw[a];exact wN w _
 go_enter func73,ntmps73
 go_wp2_with fail
 rw[<- a]
 obtain⟨e,f,g⟩:=cells3 b
 exact bodyPost_ret (v:=.tuple #[.pointer none,.agg #[(0:Int),(0:Int),(0:Int)],(1:Int)]) (by simp[results,results73,go_sem,e,f,g]) rfl ⟨rfl,c⟩

theorem setL_congr{f g:Nat->Bool}{n:Nat}(a:∀ i,i<n->f i=g i):Bo f n=Bo g n:=by
 unfold Bo
 refine List.filter_congr (λ i b=>a i (List.mem_range.1 b))

theorem AO.Bc{w:World}{base:Nat}{e:TypeId}{a:Option Addr}{n c:Nat}{xs:List Nat}(d:w.ownsRow base e 1 (.slice a n c) n (Az xs)):AO w (.slice a n c) xs:=by
 have j:xs.length=n:=by have:=d.1;simpa [Az] using this
 subst j
 refine⟨a,c,rfl,λ i x k=>?_⟩
 obtain⟨b,f,g⟩:=Cu d k
 exact⟨b,0,f,by rw[Nat.zero_add];exact g⟩

theorem roots_obj{cs:List Cel}{e:Nat->Nat}{n:Nat}:∀ g∈BD (Aj cs) e n,CL cs g:=by
 intro g a
 unfold BD at a
 by_cases h0:Aj cs=[]
 .rw [if_pos h0] at a
  cases a
 .rw [if_neg h0] at a
  unfold CR at a
  obtain⟨i,-,b⟩:=List.mem_map.1 a
  have c:e i%(Aj cs).length<(Aj cs).length:=Nat.mod_lt _ (List.length_pos_iff.2 h0)
  rw[List.getElem?_eq_getElem c] at b
  have d:=AX.1 (List.getElem_mem c)
  exact⟨_,d.1,d.2,b⟩

theorem rootsOf_len(os:List Cel)(a:Nat->Nat)(n:Nat):(BD os a n).length<=n:=by
 unfold BD
 by_cases h:os=[]
 .rw [if_pos h]
  exact Nat.zero_le _
 .rw [if_neg h,rootsL_len]
  exact Nat.le_refl _

section
variable {P:Program}

theorem Ew(w:World)(t ty e:TypeId)(i:TypeInfo)(b:P.underlying t=some (.slice e))(a:P.info? e=some i)(base j:Nat)(v:Value)(n:Nat)(xs:List Value)(f:w.ownsRow base e j v n xs)(c:Nat):
  (Builtin.append_ #[t,t] ty #[v,.slice none 0 c]).run P w=.ok v w:=by
 rcases f.2 with ⟨rfl,rfl⟩|⟨g,cap,k,rfl,l,p,d,m,o,q⟩
 .simp [Builtin.append_,run_underlying b,sizeOf,typeInfo,a,Builtin.lenOf,Builtin.firstCells]
 .simp [Builtin.append_,run_underlying b,sizeOf,typeInfo,a,Builtin.lenOf,Builtin.firstCells,d,storeCells]

theorem run_append_nats(w:World)(t ty e:TypeId)(i:TypeInfo)(m:P.underlying t=some (.slice e))(l:P.info? e=some i)(E:i.zero=some (.int .i64 0))(C:i.size=1)(z:i.bytes=8)
  (base:Nat) (v:Value) (n:Nat) (xs:List Nat) (g:w.ownsRow base e 1 v n (Az xs)) (u:Value) (c:List Nat) (k:AO w u c) (G:n+c.length<=1000000) (x:base<=w.heap.size):
  ∃ d w',(Builtin.append_ #[t,t] ty #[v,u]).run P w=.ok d w'/\w'.ownsRow base e 1 d (n+c.length) (Az (xs++c))/\w.grownBy w' v.ownBlock:=by
 obtain⟨a,cap,rfl,p⟩:=k
 cases a with
 |none=>
  have q:c=[]:=by
   cases c with
   |nil=>rfl
   |cons y c=>
    obtain⟨b,o,e,-⟩:=p 0 y rfl
    cases e
  subst q
  refine⟨v,w,Ew w t ty e i m l base 1 v n _ g cap,?_,⟨rfl,rfl,rfl,Nat.le_refl _,λ _ _ _=>rfl⟩⟩
  rw[List.append_nil]
  exact g
 |some ad=>
  obtain⟨d,w',B,r,s,_,F⟩:=run_append_own_at (P:=P) w base t ty e i (.int .i64 0) 1 8 m l E C z rfl (by omega) v n (Az xs) g ad c.length cap (Az c) (by simp[Az])
   (by
    intro j u f
    unfold Az at f
    rw[List.getElem?_map] at f
    obtain⟨y,D,rfl⟩:=Option.map_eq_some_iff.1 f
    obtain⟨b,o,ea,A⟩:=p j y D
    injection ea with ea
    subst ea
    rw[Addr.add_lit]
    exact A)
   (by
    intro u k
    obtain⟨_,_,rfl⟩:=List.mem_map.1 k
    rfl) (by unfold maxLen;omega) (by omega) x
  refine⟨d,w',B,?_,s⟩
  rw[Az,List.map_append]
  exact r

theorem AY(w:World){ops:Array Oper}{rest:List Oper}{o:Oper}{a:Act}{Q:Exit->Act->World->Prop}(l:o.guard=none)(s x:Operand)(t:TypeId)
  (q:o.op=.call {callee:=.builtin .append,args:=#[s,x],argTypes:=#[t,t]}) (e:TypeId) (i:TypeInfo) (B:P.underlying t=some (.slice e)) (m:P.info? e=some i) (E:i.zero=some (.int .i64 0)) (A:i.size=1) (k:i.bytes=8)
  (base:Nat) (v:Value) (n:Nat) (xs:List Nat) (z:a.eval s=v) (r:w.ownsRow base e 1 v n (Az xs)) (u:Value) (b:List Nat) (D:a.eval x=u) (C:AO w u b) (p:n+b.length<=1000000) (j:base<=w.heap.size)
  (d:∀ c w',w'.ownsRow base e 1 c (n+b.length) (Az (xs++b))->w.grownBy w' v.ownBlock->wpList P ops Q rest (a.put o.dst c) w'):wpList P ops Q (o::rest) a w:=by
 refine wpList_plain l λ K hK=>?_
 obtain⟨c,w',y,f,g⟩:=run_append_nats (P:=P) w t o.type e i B m E A k base v n xs r u b C p j
 unfold Oper.wp execOp
 simp only[q,resolve,invoke,builtin,Sem.run_bind,Sem.run_pure,Result.andThen_ok,List.map_toArray,List.map_cons,List.map_nil,z,D,y]
 exact hK _ _ (d c w' f g)

end

theorem natVs_int(xs:List Nat):Az xs=Fb (xs.map λ x:Nat=>(x:Int)):=by simp[Az,Fb]

theorem setL_lt{f:Nat->Bool}{H:Nat}:∀ x∈Bo f H,x<H:=λ x a=>by
 unfold Bo at a
 exact List.mem_range.1 (List.mem_filter.1 a).1

section
variable {H:Type} {enc:TypeId×Value->H} {P:Program}

theorem u8_wf{n:Int}(a:(Lit.int .u8 n).wf=true):0<=n/\n<256:=by
 have b:IntKind.u8.min=0:=by decide
 have c:IntKind.u8.max=255:=by decide
 simp only[Lit.wf,b,c,Bool.and_eq_true,decide_eq_true_eq] at a
 omega

theorem u8_nat{n:Int}(h:(Lit.int .u8 n).wf=true):∃ k:Nat,n=(k:Nat)/\k<256:=by
 have:=u8_wf h
 exact⟨n.toNat,by omega,by omega⟩

theorem open_bytes8{w:World}{base:Nat}{x:Bool}{t e:TypeId}{v:Value}{d:DataW H}{ps:List MemPlace}(A:P.underlying t=some (.slice e))(u:P.underlying e=some (.int .u8))(g:P.cellsOf e=1)(B:∃ a j cap,v=.slice a j cap)
  (s:DataW.Trod enc P w base (λ _=>true) x t v d ps):∃ (j:Nat) (f:Nat->Nat),BytesIn w v j f:=by
 obtain⟨I,y⟩:=s
 obtain⟨G,F,l,rfl⟩:=B
 rcases Go.ChangeShapes.open_ints A u g y with ⟨c,-⟩|⟨a,j,cap,zs,c,-,J,K,E,-,n,D⟩
 .simp only[Value.cells,List.cons.injEq,and_true] at c
  injection c with h1 h2 h3
  subst h1
  subst h2
  exact⟨0,λ _=>0,none,l,rfl,λ i z=>by omega⟩
 .simp only[Value.cells,List.cons.injEq,and_true] at c
  injection c with h1 h2 h3
  subst h1
  subst h2
  rw[if_pos rfl] at E
  refine⟨F,λ i=>(zs.getD i 0).toNat,some a,l,rfl,λ i z=>?_⟩
  have k:i<zs.length:=by omega
  have g:=n i k
  have C:=u8_wf (D (zs.getD i 0) (by rw[List.getD_eq_getElem?_getD,List.getElem?_eq_getElem k];exact List.getElem_mem k))
  obtain⟨r,-⟩:=E9 (n 0 (by omega))
  have m:a=⟨a.block,a.off,none⟩:=by
   obtain⟨b,o,p⟩:=a
   cases p with
   |none=>rfl
   |some q=>simp [Addr.add] at r
  refine⟨a.block,a.off,by rw[<- m],?_,by dsimp only;omega⟩
  rw[m,Addr.add_lit] at g
  rw[g,Int.toNat_of_nonneg C.1]

end

end

end Go.Proofs.YtfkedlgpgmaemaaGreatDoor
