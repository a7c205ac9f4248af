/-
  Lemmas for the laws, together: TablesA.
-/
import Derived.Test.YtfkedlgpgmaemaaGreatDoorQaa
import Derived.Deep.AppendLies
import Derived.Test.YtfkedlgpgmaemaaGreatDoorQaf
import Derived.Deep.RegionLaw
set_option linter.unusedVariables false
set_option maxHeartbeats 16000000
namespace Go.Proofs.YtfkedlgpgmaemaaGreatDoor
open Tryz
section
open Go.RowKit

theorem Bw.keepB{w w':World}{v:Value}{d:Nat}{x:Nat->Nat->Int}(c:Bw 1 w v d x){S:Nat->Prop}(k:Kp S w w')(m:∀ b,0<d->v.ownBlock=some b->¬ S b):Bw 1 w' v d x:=by
  obtain⟨a,cap,rfl,c⟩:=c
  refine⟨a,cap,rfl,λ i l=>?_⟩
  obtain⟨b,o,rfl,g,e⟩:=c i l
  exact⟨b,o,rfl,Nat.lt_of_lt_of_le g k.size,λ j f=>⟨k.cell (e j f).1 (m b (by omega) rfl),(e j f).2⟩⟩

def numVs(len:Nat)(x:Nat->Nat->Int):List Value:=(List.range len).map λ i=>.int .i64 (x i 0)

theorem numVs_at(a:Nat)(x:Nat->Nat->Int)(i:Nat)(b:i<a):(numVs a x)[i]?=some (.int .i64 (x i 0)):=by
  simp[numVs,b]

theorem numVs_len(a:Nat)(x:Nat->Nat->Int):(numVs a x).length=a:=by simp[numVs]

theorem Bw.Bc{w:World}{base:Nat}{e:TypeId}{v:Value}{a:Nat}{x:Nat->Nat->Int}(d:w.ownsRow base e 1 v a (numVs a x))(l:∀ i,i<a->-9223372036854775808<=x i 0/\x i 0<=9223372036854775807):Bw 1 w v a x:=by
  rcases d.2 with ⟨rfl,f⟩|⟨g,cap,m,rfl,n,b,o,p,q,k⟩
  . exact⟨none,0,by rw[f],λ i c=>by omega⟩
  . refine⟨_,cap,rfl,λ i c=>⟨g,0,rfl,?_,λ j r=>?_⟩⟩
    . rcases Nat.lt_or_ge g w.heap.size with hlt|hge
      . exact hlt
      . rw[Array.getElem?_eq_none hge] at b;cases b
    . obtain rfl:j=0:=by omega
      refine⟨?_,l i c⟩
      rw[Nat.zero_add,Nat.mul_one,Nat.add_zero,<- numVs_at a x i c,<- k,List.getElem?_take_of_lt (by omega)]
      simp[World.cell?,b]

section
variable {P:Program}

theorem run_append_ints(w:World)(t ty e:TypeId)(i:TypeInfo)(p:P.underlying t=some (.slice e))(m:P.info? e=some i)(z:i.zero=some (.int .i64 0))(y:i.size=1)(r:i.bytes=8)
    (u:Value) (c:Nat) (x:Nat->Nat->Int) (d:Bw 1 w u c x) (C:c<=1000000):
    ∃ g w',(Builtin.append_ #[t,t] ty #[.slice none 0 0,u]).run P w=.ok g w'/\w'.ownsRow w.heap.size e 1 g c (numVs c x)/\w.grownBy w' none:=by
  obtain⟨a,cap,rfl,k⟩:=d
  cases a with
  |none=>
    have f:c=0:=by
      rcases Nat.eq_zero_or_pos c with f|f
      . exact f
      . obtain⟨b,o,e,_⟩:=k 0 f;cases e
    subst f
    refine⟨.slice none 0 0,w,?_,World.ownsRow_nil w _ _ _,⟨rfl,rfl,rfl,Nat.le_refl _,λ _ _ _=>rfl⟩⟩
    simp[Builtin.append_,run_underlying p,sizeOf,typeInfo,m,Builtin.lenOf,Builtin.firstCells]
  |some ad=>
    obtain⟨g,w',v,l,q,_,A⟩:=run_append_own_at (P:=P) w w.heap.size t ty e i (.int .i64 0) 1 8 p m z y r rfl (by omega) (.slice none 0 0) 0 [] (World.ownsRow_nil w _ _ _) ad c cap (numVs c x) (by rw[numVs_len];omega)
      (by
        intro j u d
        have n:j<c:=by have:=(gE.1 d).1;rwa [numVs_len] at this
        obtain⟨b,o,ea,B,s⟩:=k j n
        injection ea with ea
        subst ea
        rw[numVs_at c x j n] at d
        injection d with d
        subst d
        have:=(s 0 (by omega)).1
        rw[Nat.mul_one,Nat.add_zero] at this
        rw[Addr.add_lit]
        exact this)
      (by
        intro u d
        obtain⟨_,_,rfl⟩:=List.mem_map.1 d
        rfl) (by unfold maxLen;omega) (by omega) (Nat.le_refl _)
    rw[Nat.zero_add,List.nil_append] at l
    exact⟨g,w',v,l,q⟩

theorem step_append_ints{w:World}{ops:Array Oper}{o:Oper}{a:Act}{K:Act->World->Prop}{Q:Exit->Act->World->Prop}{d:Prop}(l:o.guard=none)(s x:Operand)(t:TypeId)
    (p:o.op=.call {callee:=.builtin .append,args:=#[s,x],argTypes:=#[t,t]}) (e:TypeId) (i:TypeInfo) (z:P.underlying t=some (.slice e)) (m:P.info? e=some i) (D:i.zero=some (.int .i64 0)) (v:i.size=1) (k:i.bytes=8)
    (r:a.eval s=.slice none 0 0) (u:Value) (b:Nat) (y:Nat->Nat->Int) (C:a.eval x=u) (A:Bw 1 w u b y) (n:b<=1000000)
    (f:∀ c w',w'.ownsRow w.heap.size e 1 c b (numVs b y)->w.grownBy w' none->K (a.put o.dst c) w'):
    if Region.wanted o (yielded ops a.tmps)=true then Oper.wp P o a w K Q else d:=by
  have B:Region.wanted o (yielded ops a.tmps)=true:=by simp[Region.wanted,l]
  rw[if_pos B]
  obtain⟨c,w',q,g,j⟩:=run_append_ints (P:=P) w t o.type e i z m D v k u b y A n
  unfold Oper.wp execOp
  simp only[p,resolve,invoke,builtin,Sem.run_bind,Sem.run_pure,Result.andThen_ok,List.map_toArray,List.map_cons,List.map_nil,r,C,q]
  exact f c w' g j

end

theorem underlyingTypes:prog.underlying 22=some (.slice 106):=by kernel_rfl

theorem infoType:(prog.info? 106).map (λ i=>(i.zero,i.size,i.bytes))=some (some (.agg #[.int .u8 0,(0:Int),.int .u64 0]),3,24):=by kernel_rfl

theorem TableAt.ne{w:World}{t q:Nat}{ts:List TypR}{v:Value}(b:w.heap[t]?=some (.cells #[v] 229 (0,0)))(c:w.ownsRow q 106 3 v ts.length (FH ts)):v.ownBlock≠some t:=by
  intro e
  rcases c.2 with ⟨rfl,m⟩|⟨g,cap,d,rfl,f,a,i,j,k,l⟩
  . cases e
  . obtain rfl:g=t:=by simpa [Value.ownBlock] using e
    rw[b] at a
    simp at a

theorem TableAt.ne'{w:World}{t q n:Nat}{v u:Value}{xs:List Value}(b:w.heap[t]?=some (.cells #[v] 229 (0,0)))(c:w.ownsRow q 106 3 u n xs):u.ownBlock≠some t:=by
  intro e
  rcases c.2 with ⟨rfl,m⟩|⟨g,cap,d,rfl,f,a,i,j,k,l⟩
  . cases e
  . obtain rfl:g=t:=by simpa [Value.ownBlock] using e
    rw[b] at a
    simp at a

set_option maxRecDepth 20000 in
theorem tput_at(k wds:Int)(m:Nat)(t q:Nat)(ts:List TypR)(w:World)(p:TableAt w t q ts)(P:Dc k wds m=true)(c3:ts.length<64)(c5:q<w.heap.size):
    Calls prog 191 #[.pointer (some t),.agg #[.int .u8 k,.int .i64 wds,.int .u64 m]] w λ e w'=>
      e=.returned (.int .i64 ((ts.length+1:Nat):Int))/\∃ F,TableAt w' t F (ts++[⟨k,wds,m⟩])/\(F=q\/w.heap.size<=F)/\Kp (λ b=>b=t\/b=q) w w':=by
  have Y:=sE P
  have Z:=sE p
  obtain⟨v,d,C,K⟩:=p.ht
  have O:=TableAt.ne d C
  have A:=sE K
  have W:=sE O
  have c0:w.cell? t=some v:=by simp[World.cell?,d]
  have c1:w.frozen? t=false:=by simp[World.frozen?,d]
  have b1:=lZ d
  have G:=sE d
  have X:=sE C
  clear P p d C K O
  obtain⟨c,r⟩:∃ c,c=w.alloc (.cells #[.int .u8 k,.int .i64 wds,.int .u64 m] 106):=⟨_,rfl⟩
  have j:Kp Aa w c:=by rw[r];exact (Kr _ w).alloc _
  have b4:Sl (c.heap.size=w.heap.size+1):=⟨by rw[r];simp⟩
  have n:c.heap[w.heap.size]?=some (.cells #[.int .u8 k,.int .i64 wds,.int .u64 m] 106 (0,0)):=by rw[r];exact wN w _
  have a3:c.cell? w.heap.size=some (.int .u8 k):=by simp[World.cell?,n]
  have a4:c.cell? ⟨w.heap.size,1,none⟩=some (.int .i64 wds):=by simp[World.cell?,n]
  have a5:c.cell? ⟨w.heap.size,2,none⟩=some (.int .u64 m):=by simp[World.cell?,n]
  have a2:=j.cell c0 id
  have a6:c.frozen? t=false:=by simp[World.frozen?,j.at_ G.o id]
  go_enter func191,ntmps191
  go_wp2_with fail
  try rw[<- r]
  clear r
  go_wp2_with fail
  have L:=flatT_length ts
  have b5:=sE L
  clear L
  have c6:t<c.heap.size:=Nat.lt_of_lt_of_le b1 j.size
  have c7:w.heap.size<c.heap.size:=lZ n
  go_region_law
    (first
      | (obtain⟨b0,N,Q,R,T⟩:=info_parts infoType
         refine step_append_lies _ rfl _ _ 22 rfl q 106 b0 (.agg #[.int .u8 0,(0:Int),.int .u64 0]) 3 24 underlyingTypes N Q R T rfl (by omega) v ts.length (FH ts) rfl (Kp.owns (S:=Aa) (a:=w) (by (repeat (first|assumption|exact Kr _ _|refine Kp.drew ?_|refine Kp.alloc ?_ _|refine Kp.Av ?_ (by omega) _))) X.o (λ b i p=>p)) ⟨c.heap.size,0,none⟩ 1 1 [.int .u8 k,.int .i64 wds,.int .u64 m] rfl rfl (World.news_of_block (wN c _)) (by simp[Value.oneCell']) (by omega) (by unfold maxLen;omega) (by omega) (by have:=b4.o;simp;omega) _ rfl ?_
         intro g cap z D M f c4
         have I:Kp (λ b=>v.ownBlock=some b) c z:=((by (repeat (first|assumption|exact Kr _ _|refine Kp.drew ?_|refine Kp.alloc ?_ _|refine Kp.Av ?_ (by omega) _)):Kp Aa c _).Aw (λ b=>v.ownBlock=some b)).grown M (λ k e _=>e)
         have u:=I.at_ (j.at_ G.o id) W.o
         have a7:=free_of_one u
         have cA:=cell_of_one u
         have H:=sE u
         clear u
         have b6:¬ v.ownBlock=some w.heap.size:=λ e=>by have:=A.o _ e;omega))
  all_goals
    clear N Q R T a2 a6 a3 a4 a5 n cA a7
    have a9:g=q\/w.heap.size<=g:=by
      rcases f with f|f
      . exact .inl (A.o g f)
      . right
        simp at f
        have:=j.size
        omega
    have a8:¬ g=t:=by
      intro e
      subst e
      exact TableAt.ne' H.o D rfl
    obtain⟨l,y⟩:∃ l,l=z.setCell t (.slice (some ⟨g,0,none⟩) (ts.length+1) cap):=⟨_,rfl⟩
    rw[<- y]
    have B:l.heap[t]?=some (.cells #[.slice (some ⟨g,0,none⟩) (ts.length+1) cap] 229 (0,0)):=by rw[y];exact one_setCell H.o
    have b7:=cell_of_one B
    have U:Kp (λ b=>b=t) z l:=by rw[y];exact (Kr (λ b=>b=t) z).setCell (λ _=>rfl) _
    have V:=U.owns D (λ b i e=>by cases i;exact a8 e)
    have a1:Kp (λ b=>b=t\/b=q) w l:=((j.Aw (λ b=>b=t\/b=q)).trans I (λ b i e=>.inr (A.o b e))).trans U (λ b i e=>.inl e)
    have J:TableAt l t g (ts++[⟨k,wds,m⟩]):=by
      refine⟨⟨_,B,?_,λ b i=>by cases i;rfl⟩,by simp;omega,λ x s=>?_⟩
      . rw[flatT_append,List.length_append]
        obtain⟨b2,E⟩:=V
        rcases E with ⟨E,_⟩|⟨c2,b8,b9,e,c8,b3⟩
        . cases E
        . injection e with e1 _ e3
          injection e1 with e1
          injection e1 with e1
          subst e1 e3
          exact⟨b2,.inr ⟨_,_,_,rfl,Nat.le_refl _,b3⟩⟩
      . rcases List.mem_append.1 s with s|s
        . exact Z.o.ok x s
        . rw[List.mem_singleton.1 s];exact Y.o
    have a0:=sE J
    clear y D M f J V B
    go_wp2
    refine bodyPost_ret (v:=.int .i64 ((ts.length+1:Nat):Int)) (by simp[results,results191,go_sem]) rfl ⟨rfl,g,a0.o,a9,a1⟩

def addE(n:Nat)(ok:Bool):Int:=if ok=false then 2 else if 64<=n then 4 else 0

def AddPost(k wds:Int)(m:Nat)(t q:Nat)(ts:List TypR)(w:World)(e:Ending)(w':World):Prop:=
  e=.returned (.tuple #[.int .i64 (if addE ts.length (Dc k wds m)=0 then ((ts.length+1:Nat):Int) else 0),.int .i64 (addE ts.length (Dc k wds m))])/\
  (if addE ts.length (Dc k wds m)=0 then ∃ q',TableAt w' t q' (ts++[⟨k,wds,m⟩])/\(q'=q\/w.heap.size<=q')/\Kp (λ b=>b=t\/b=q) w w' else Kp Aa w w')

set_option maxRecDepth 20000 in
theorem TAdd_any(k wds:Int)(m:Nat)(t q:Nat)(ts:List TypR)(w:World)(c:TableAt w t q ts)(P:q<w.heap.size):
    Calls prog 145 #[.pointer (some t),.agg #[.int .u8 k,.int .i64 wds,.int .u64 m]] w (AddPost k wds m t q ts w):=by
  have y:=sE c
  obtain⟨v,D,-,-⟩:=c.ht
  have Q:=lZ D
  have N:=c.few
  clear c D v
  have l:Kp Aa w (w.alloc (.cells #[.int .u8 k,.int .i64 wds,.int .u64 m] 106)):=(Kr _ w).alloc _
  have z:=wN w (.cells #[.int .u8 k,.int .i64 wds,.int .u64 m] 106)
  obtain⟨p,f⟩:∃ p,p=w.alloc (.cells #[.int .u8 k,.int .i64 wds,.int .u64 m] 106):=⟨_,rfl⟩
  rw[<- f] at l z
  have j:Sl (Calls prog 190 #[.agg #[.int .u8 k,.int .i64 wds,.int .u64 m]] p (RK (.int .i64 (errV (Dc k wds m))) p)):=⟨Dt k wds m p⟩
  cases hok:Dc k wds m with
  |false=>
    have d:Sl (addE ts.length (Dc k wds m)=2):=⟨by rw[hok,addE,if_pos rfl]⟩
    rw[hok] at j
    clear hok
    go_enter func145,ntmps145
    go_wp2_with fail
    try rw[<- f]
    clear f
    try go_wp2_with fail
    refine j.o.mono ?_
    rintro e i ⟨rfl,g⟩
    rw[show errV false=2 from rfl]
    go_wp2
    refine bodyPost_ret (v:=.tuple #[(0:Int),(2:Int)]) (by simp[results,results145,go_sem]) rfl ⟨?_,?_⟩
    . rw[d.o];rfl
    . rw[d.o,if_neg (by omega)]
      exact l.then' g
  |true=>
    rw[hok] at j
    have x:=sE hok
    clear hok
    by_cases hl:64<=ts.length
    . have d:Sl (addE ts.length (Dc k wds m)=4):=⟨by rw[x.o,addE,if_neg (by simp),if_pos hl]⟩
      have J:decide ((64:Int)<=(ts.length:Nat))=true:=dT (by omega)
      go_enter func145,ntmps145
      go_wp2_with fail
      try rw[<- f]
      clear f
      try go_wp2_with fail
      refine j.o.mono ?_
      rintro e i ⟨rfl,g⟩
      rw[show errV true=0 from rfl]
      obtain⟨a,cap,c0,-⟩:=(y.o.Ac (l.then' g)).head
      go_wp2
      refine bodyPost_ret (v:=.tuple #[(0:Int),(4:Int)]) (by simp[results,results145,go_sem]) rfl ⟨?_,?_⟩
      . rw[d.o];rfl
      . rw[d.o,if_neg (by omega)]
        exact l.then' g
    . have d:Sl (addE ts.length (Dc k wds m)=0):=⟨by rw[x.o,addE,if_neg (by simp),if_neg hl]⟩
      have J:decide ((64:Int)<=(ts.length:Nat))=false:=dF (by omega)
      go_enter func145,ntmps145
      go_wp2_with fail
      try rw[<- f]
      clear f
      try go_wp2_with fail
      refine j.o.mono ?_
      rintro e i ⟨rfl,g⟩
      rw[show errV true=0 from rfl]
      have r:=l.then' g
      obtain⟨a,cap,c0,-⟩:=(y.o.Ac r).head
      have s:=g.at_ z id
      have A:i.cell? w.heap.size=some (.int .u8 k):=by simp[World.cell?,s]
      have B:i.cell? ⟨w.heap.size,1,none⟩=some (.int .i64 wds):=by simp[World.cell?,s]
      have C:i.cell? ⟨w.heap.size,2,none⟩=some (.int .u64 m):=by simp[World.cell?,s]
      have M:=r.size
      have G:Sl (∀ w',Kp Aa i w'->Calls prog 191 #[.pointer (some t),.agg #[.int .u8 k,.int .i64 wds,.int .u64 m]] w' λ e F=>
          e=.returned (.int .i64 ((ts.length+1:Nat):Int))/\∃ n,TableAt F t n (ts++[⟨k,wds,m⟩])/\(n=q\/w'.heap.size<=n)/\Kp (λ b=>b=t\/b=q) w' F):=
        ⟨λ w' E=>tput_at k wds m t q ts w' (y.o.Ac (r.then' E)) x.o (by omega) (by have:=E.size;omega)⟩
      clear z s
      go_wp2_with fail
      go_region_held3 (λ w'=>w'.cell? w.heap.size=some (.int .u8 k)/\w'.cell? ⟨w.heap.size,1,none⟩=some (.int .i64 wds)/\w'.cell? ⟨w.heap.size,2,none⟩=some (.int .u64 m))
        (first|go_keep|exact ⟨u.cell A (by dsimp only;omega),u.cell B (by dsimp only;omega),u.cell C (by dsimp only;omega)⟩)
        (first|(go_at_call 191;refine (G.o _ (by (repeat (first|assumption|exact Kr _ _|refine Kp.drew ?_|refine Kp.alloc ?_ _|refine Kp.Av ?_ (by omega) _)))).mono ?_;rintro e L ⟨rfl,n,I,K,u⟩))
      clear A B C
      have H:Kp (λ b=>b=t\/b=q) w L:=((r.then' (Kr Aa i).drew).Aw _).trans u (λ b O c=>c)
      go_wp2
      refine bodyPost_ret (v:=.tuple #[.int .i64 ((ts.length+1:Nat):Int),(0:Int)]) (by simp[results,results145,go_sem]) rfl ⟨?_,?_⟩
      . rw[d.o];rfl
      . rw[d.o,if_pos rfl]
        exact⟨n,I,by rcases K with c|c;exact .inl c;exact .inr (Nat.le_trans M c),H⟩

def A8(w:World)(v:Value)(xs:List TypR):Prop:=
  ∃ a cap,v=.slice a xs.length cap/\∀ i x,xs[i]?=some x->∃ b o,a=some ⟨b,o,none⟩/\b<w.heap.size/\
    w.cell? ⟨b,o+i*3,none⟩=some (.int .u8 x.k)/\w.cell? ⟨b,o+i*3+1,none⟩=some (.int .i64 x.wds)/\w.cell? ⟨b,o+i*3+2,none⟩=some (.int .u64 x.m)

theorem A8.Ac{w w':World}{v:Value}{xs:List TypR}(c:A8 w v xs)(k:Kp Aa w w'):A8 w' v xs:=by
  obtain⟨a,cap,rfl,c⟩:=c
  refine⟨a,cap,rfl,λ i x j=>?_⟩
  obtain⟨b,o,rfl,d,e,f,g⟩:=c i x j
  exact⟨b,o,rfl,Nat.lt_of_lt_of_le d k.size,k.cell e id,k.cell f id,k.cell g id⟩

def Ga:Nat->List TypR->Int
  |_,[]=>0
  |n,x::xs=>if addE n (Dc x.k x.wds x.m)=0 then Ga (n+1) xs else addE n (Dc x.k x.wds x.m)

def NewTPost(xs:List TypR)(w:World)(e:Ending)(w':World):Prop:=
  Kp Aa w w'/\((Ga 0 xs=0/\∃ t q,e=.returned (.tuple #[.pointer (some ⟨t,0,none⟩),(0:Int)])/\TableAt w' t q xs/\w.heap.size<=t/\w.heap.size<=q/\q<w'.heap.size)\/
    (¬ Ga 0 xs=0/\e=.returned (.tuple #[.pointer none,.int .i64 (Ga 0 xs)])))

theorem TableAt.lt_t{w:World}{t q:Nat}{ts:List TypR}(a:TableAt w t q ts):t<w.heap.size:=by
  obtain⟨v,b,-,-⟩:=a.ht
  exact lZ b

theorem TableAt.lt_q{w:World}{t q:Nat}{ts:List TypR}(b:TableAt w t q ts)(o:0<ts.length):q<w.heap.size:=by
  obtain⟨v,n,c,d⟩:=b.ht
  rcases c.2 with ⟨_,m⟩|⟨g,cap,e,rfl,f,a,i,j,k,l⟩
  . omega
  . obtain rfl:=d g rfl
    exact lZ a

def NewTI(xs:List TypR)(w:World)(t:Nat)(y:Value)(wr:World):Prop:=
  ∃ j q,j<=xs.length/\y=.int .i64 (j:Nat)/\TableAt wr t q (xs.take j)/\w.heap.size<=q/\q<wr.heap.size/\Ga j (xs.drop j)=Ga 0 xs/\Kp Aa w wr

theorem tab_next{xs:List TypR}{j:Nat}{x:TypR}(a:xs[j]?=some x):Ga j (xs.drop j)=if addE j (Dc x.k x.wds x.m)=0 then Ga (j+1) (xs.drop (j+1)) else addE j (Dc x.k x.wds x.m):=by
  have b:=(gE.1 a).1
  have e:xs[j]=x:=(gE.1 a).2
  rw[List.drop_eq_getElem_cons b,e,Ga]

set_option maxRecDepth 20000 in
theorem TNew_any(v:Value)(xs:List TypR)(w:World)(Q:A8 w v xs)(a3:xs.length<=17592186044416):
    Calls prog 92 #[v] w (NewTPost xs w):=by
  have M:=sE Q
  obtain⟨b9,c1,rfl,-⟩:=Q
  obtain⟨f,F⟩:∃ f,xs.length=f:=⟨_,rfl⟩
  rw[F] at M a3 ⊢
  have a:=sE F
  clear F
  go_enter func92,ntmps92
  go_wp2_with fail
  obtain⟨w1,u⟩:∃ w1,w1=w.alloc (.cells #[.slice none 0 0] 229):=⟨_,rfl⟩
  rw[<- u]
  have a7:Kp Aa w w1:=by rw[u];exact (Kr _ w).alloc _
  have B:w1.heap[w.heap.size]?=some (.cells #[.slice none 0 0] 229 (0,0)):=by rw[u];exact wN w _
  have a8:=lZ B
  have Z:TableAt w1 w.heap.size w.heap.size []:=⟨⟨_,B,World.ownsRow_nil w1 _ _ _,λ b O=>by cases O⟩,by simp,λ x z=>by cases z⟩
  clear u B
  go_loopw [13] (λ y wr=>NewTI xs w w.heap.size y wr) (λ y _=>f-(intOf y).toNat)
  case atStart=>exact ⟨0,w.heap.size,Nat.zero_le _,rfl,Z,Nat.le_refl _,a8,rfl,a7⟩
  case round=>
    obtain⟨j,q,a0,rfl,T,a4,a5,s,c⟩:=hrel
    rw[a.o] at a0
    by_cases hjl:j<f
    . have a1:(j:Int)<f:=by omega
      obtain⟨c0,c2,e,z⟩:=M.o
      injection e with e1 e3 e2
      clear e3
      subst e1 e2
      obtain⟨x,l⟩:∃ x,xs[j]?=some x:=⟨xs[j]'(by rw[a.o];omega),List.getElem?_eq_getElem (by rw[a.o];omega)⟩
      obtain⟨b,o,rfl,b6,x0,x1,x2⟩:=z j x l
      have G:=tab_next l
      obtain⟨k,wds,m⟩:=x
      dsimp only at x0 x1 x2 G
      have b7:b<wr.heap.size:=by have:=c.size;omega
      have b1:=c.cell x0 id
      have b2:=c.cell x1 id
      have b3:=c.cell x2 id
      have a6:(xs.take j).length=j:=by rw[List.length_take,a.o];omega
      have P:xs.take j++[⟨k,wds,m⟩]=xs.take (j+1):=by
        rw[List.take_add_one,l];rfl
      have U:Sl (∀ w',Kp Aa wr w'->Calls prog 145 #[.pointer (some w.heap.size),.agg #[.int .u8 k,.int .i64 wds,.int .u64 m]] w' (AddPost k wds m w.heap.size q (xs.take j) w')):=
        ⟨λ w' N=>TAdd_any k wds m w.heap.size q _ w' (T.Ac N) (by have:=N.size;omega)⟩
      have S:Kp Aa wr (wr.alloc (.cells #[.int .u8 k,.int .i64 wds,.int .u64 m] 106)):=(Kr _ wr).alloc _
      have K:=sE S
      have I:=sE s
      have L:=sE G
      have Y:=sE P
      have b5:=sE l
      clear S s G P l z x0 x1 x2 T
      go_wp2_with fail
      refine(U.o _ K.o).mono ?_
      rintro e w2 ⟨rfl,g⟩
      rw[a6] at g ⊢
      have H:=K.o
      clear b1 b2 b3
      by_cases hz:addE j (Dc k wds m)=0
      . rw[if_pos hz] at g ⊢
        rw[hz]
        obtain⟨b0,r,b8,R⟩:=g
        rw[Y.o] at r
        have W:=sE r
        have p:Sl (Ga (j+1) (xs.drop (j+1))=Ga 0 xs):=⟨by have:=L.o;rw [if_pos hz] at this;rw [<- this];exact I.o⟩
        have a2:0<(xs.take (j+1)).length:=by rw[List.length_take,a.o];omega
        have a9:=r.lt_q a2
        have c3:=H.size
        have c4:=R.size
        clear r
        go_wp2
        refine⟨⟨j+1,b0,by rw[a.o];omega,by go_num,W.o,by omega,a9,p.o,?_⟩,by simp only[intOf];omega⟩
        exact(c.trans H (λ i E d=>d)).trans R (λ i E d=>by omega)
      . rw[if_neg hz] at g ⊢
        have p:Sl (addE j (Dc k wds m)=Ga 0 xs):=⟨by have:=L.o;rw [if_neg hz] at this;rw [<- this];exact I.o⟩
        rw[p.o] at hz ⊢
        obtain⟨n,D⟩:∃ n,Ga 0 xs=n:=⟨_,rfl⟩
        have J:=sE D
        rw[D] at hz ⊢
        have O:(n !=0)=true:=by simpa using hz
        clear D p
        go_wp2
        refine bodyPost_ret (v:=.tuple #[.pointer none,.int .i64 n]) (by simp[results,results92,go_sem]) rfl ⟨(c.trans H (λ i E d=>d)).trans g (λ i E d=>d),.inr ⟨by rw[J.o];exact hz,by rw[J.o]⟩⟩
    . have a1:¬ (j:Int)<f:=by omega
      have t:j=xs.length:=by rw[a.o];omega
      have b4:=sE t
      have A:=T
      rw[t,List.take_length] at A
      have C:=s
      rw[t,List.drop_length] at C
      have X:=sE A
      have V:=sE C
      clear T A s C t
      go_wp2
      refine bodyPost_ret (v:=.tuple #[.pointer (some w.heap.size),(0:Int)]) (by simp[results,results92,go_sem]) rfl ⟨c,.inl ⟨V.o.symm,w.heap.size,q,rfl,X.o,Nat.le_refl _,a4,a5⟩⟩

section
variable {P:Program}

theorem CP{w:World}{ops:Array Oper}{o:Oper}{a:Act}{K:Act->World->Prop}{Q:Exit->Act->World->Prop}{p:Prop}(H:o.guard=none){d:Tmp}(G:o.dst=some d)(s x:Operand)(t:TypeId)
    (M:o.op=.call {callee:=.builtin .append,args:=#[s,x],argTypes:=#[t,t]}) (base:Nat) (e:TypeId) (i:TypeInfo) (z:Value) (b l:Nat) (U:P.underlying t=some (.slice e)) (I:P.info? e=some i) (X:i.zero=some z)
    (S:i.size=b) (E:i.bytes=l) (Y:z.cells.size=b) (T:0<b)
    (v:Value) (n:Nat) (xs:List Value) (R:a.eval s=v) (N:w.ownsRow base e b v n xs)
    (k:Addr) (m c:Nat) (g:List Value) (W:a.eval x=.slice (some k) m c) (J:g.length=m*b) (L:∀ j u,g[j]?=some u->w.cell? (k.add j)=some u) (r:∀ u∈g,u.oneCell'=true)
    (C:n+m<=maxLen) (F:(n+m)*l<=140737488355328) (D:base<=w.heap.size)
    (q:∀ f w',w'.ownsRow base e b f (n+m) (xs++g)->w.grownBy w' v.ownBlock->(f.ownBlock=v.ownBlock\/f.ownBlock=some w.heap.size)->K (a.put (some d) f) w'):
    if Region.wanted o (yielded ops a.tmps)=true then Oper.wp P o a w K Q else p:=by
  have V:Region.wanted o (yielded ops a.tmps)=true:=by simp[Region.wanted,H]
  rw[if_pos V]
  obtain⟨f,w',O,y,A,_,B⟩:=run_append_own_at (P:=P) w base t o.type e i z b l U I X S E Y T v n xs N k m c g J L r C F D
  unfold Oper.wp execOp
  simp only[M,resolve,invoke,builtin,Sem.run_bind,Sem.run_pure,Result.andThen_ok,List.map_toArray,List.map_cons,List.map_nil,R,W,O]
  have:=q f w' y A B
  rw[<- G] at this
  exact this

end

end

end Go.Proofs.YtfkedlgpgmaemaaGreatDoor
