/-
  Lemmas for the laws, together: DocC.
-/
import Derived.Test.YtfkedlgpgmaemaaGreatDoorQaj
import Derived.Test.YtfkedlgpgmaemaaGreatDoorQam
import Derived.Test.YtfkedlgpgmaemaaGreatDoorQao
set_option linter.unusedVariables false
set_option maxHeartbeats 16000000
namespace Go.Proofs.YtfkedlgpgmaemaaGreatDoor
open Tryz
section
open Go.RowKit

theorem fitsE_ok{ts:List TypR}{c:Cel}(a:Di ts c):CU ts (c.tag:Nat) (c.ty:Nat) (c.ln:Nat) (c.sz:Nat)=0:=by
  obtain⟨b,d⟩:=a
  rw[CU,if_pos b]
  by_cases ht:c.tag=1
  . rw[if_pos (by omega),if_pos (d ht)]
  . rw[if_neg (by omega)]

set_option maxRecDepth 20000 in
theorem DCells_at(P:Sp)(W:Nat->Nat)(cs:List Cel)(q cap:Nat)(t:Value)(w:World)(E:WRow w q P.n W)(A:CellsAt P W cs)(T:A8 w t P.ts)(B:P.ts.length<=17592186044416)(O:Cw P.ts):
    Calls prog 60 #[.slice (some ⟨q,0,none⟩) P.n cap,t] w λ e w'=>∃ v,e=.returned (.tuple #[v,.bool true])/\w'.ownsRow w.heap.size 113 5 v cs.length (Ci cs)/\Kp Aa w w':=by
  have e4:=E.small
  have e1:cs.length<=32768:=by
    have:=BG A.tl
    omega
  have a4:=sE E
  have l:=sE A
  have a6:=sE T
  have a2:=sE O
  have a1:=sE B
  clear E A T O B
  go_enter func60,ntmps60
  go_wp2_with fail
  go_loopw [6,7] (λ v y wr=>∃ (a rest:List Cel) (g:Nat),cs=a++rest/\y=.int .i64 g/\Sl (AC 0 a g)/\wr.ownsRow w.heap.size 113 5 v a.length (Ci a)/\Kp Aa w wr) (λ _ y _=>P.n/2-(intOf y).toNat)
  case atStart=>exact ⟨[],cs,0,rfl,rfl,⟨rfl⟩,World.ownsRow_nil _ _ _ _,Kr _ _⟩
  case round=>
    obtain⟨a,rest,g,c,rfl,G,D,d⟩:=hrel
    have a7:=sE c
    have r:=l.o.tl
    rw[c] at r
    have F:AC g rest (P.n/2):=by
      obtain⟨x,c8,c9⟩:=r.split
      rw[G.o.uniq c8];exact c9
    cases rest with
    |nil=>
      have d9:g=P.n/2:=F
      have e0:¬ (g:Int)<(P.n:Int)/2:=by omega
      rw[List.append_nil] at c
      subst c
      clear r F
      go_wp2
      refine bodyPost_ret (v:=.tuple #[u6,.bool true]) (by simp[results,results60,go_sem]) rfl ⟨u6,rfl,D,d⟩
    |cons x rest'=>
      obtain⟨c2,c3,c1⟩:=F
      have p:x∈cs:=by rw[c];simp
      have d8:=(l.o.tl.mem p).2.1
      have C:=l.o.ok x p
      have Q:=l.o.hd x p
      have b8:x.g<P.n/2:=by omega
      have e9:x.sz<16777216:=by omega
      have e5:a.length+1<=cs.length:=by rw[c];simp
      subst c2
      have a5:Sl (AC 0 (a++[x]) (x.g+x.sz)):=⟨by
        refine G.o.app ⟨rfl,c3,rfl⟩⟩
      have K:Sl (Calls prog 113 #[.slice (some ⟨q,0,none⟩) P.n cap,x.g] wr (RK (.tuple #[.agg #[.int .u8 x.tag,x.ty,x.ln,x.sz],(0:Int)]) wr)):=⟨by
        have j:=DHead_in x.g q P.n cap W wr (a4.o.Ac d) b8
        obtain⟨a8,a9,b0,b1,b2⟩:=dec_enc C.1
        rw[Q,a8,a9,b0,b1,b2] at j
        exact j.mono λ_ _ c0=>c0⟩
      have J:Sl (∀ i,Kp Aa wr i->Calls prog 114 #[t,.agg #[.int .u8 x.tag,x.ty,x.ln,x.sz]] i (RK (.int .i64 0) i)):=⟨λ i c7=>by
        have j:=DFits_any t (x.tag:Nat) (x.ty:Nat) (x.ln:Nat) (x.sz:Nat) P.ts i (a6.o.Ac (d.then' c7)) a1.o a2.o
        rw[fitsE_ok C] at j
        exact j⟩
      have d1:(x.g:Int)<(P.n:Int)/2:=by omega
      have d2:decide ((P.n:Int)/2-(x.g:Int)<(x.sz:Int))=false:=dF (by omega)
      have e6:=d.size
      have Z:=sE d
      have d0:=sE G
      have z:=sE D
      obtain⟨c4,S,U,V,X⟩:=info_parts infoCell
      clear r c1 C Q p c D d
      go_wp2_with fail
      refine K.o.mono ?_
      rintro e w2 ⟨rfl,s⟩
      have N:=wN w2 (.cells #[.int .u8 x.tag,x.ty,x.ln,x.sz] 111)
      have H:=(Kr Aa w2).alloc (.cells #[.int .u8 x.tag,x.ty,x.ln,x.sz] 111)
      go_wp2_with fail
      refine(J.o _ (s.then' H)).mono ?_
      rintro e f ⟨rfl,I⟩
      have u:=I.at_ N id
      obtain⟨b4,b5,b6,b7⟩:=Ay u
      have e3:=lZ u
      have m:=(s.then' H).then' I
      have M:f.ownsRow w.heap.size 113 5 u6 a.length (Ci a):=Af z.o m (λ b d7 b3=>b3)
      have L:=sE M
      have a0:=sE m
      have e8:=m.size
      have e7:=s.size
      have a3:Sl (¬ u6.ownBlock=some w2.heap.size):=⟨λ e=>by have:=Ad z.o e;omega⟩
      clear N H I s u J K z M m
      go_wp2_with (at_builtin;go_loud (refine wpList_append_lies _ rfl (.tmp 39) (.tmp 43) 45 rfl w.heap.size 113 c4 (.agg #[(0:Int),.int .u8 0,(0:Int),(0:Int),(0:Int)]) 5 40 Dp S U V X rfl (by omega) u6 a.length (Ci a) rfl (L.o.alloc _) ⟨f.heap.size,0,none⟩ 1 1 [x.g,.int .u8 x.tag,x.ty,x.ln,x.sz] rfl rfl (World.news_of_block (wN f _)) (by simp[Value.oneCell']) (by omega) (by unfold maxLen;omega) (by omega) (by simp;omega) (f.heap.size+1) (by simp) ?_);intro d4 d3 Y b9 R d6 e2;have c5:Kp Aa w Y:=((Z.o.then' a0.o).alloc _).grown R (λ k e B=>absurd (Ad L.o e).1 (by omega));have c6:Kp (λ b=>u6.ownBlock=some b) f Y:=(((Kr Aa f).alloc _).Aw (λ b=>u6.ownBlock=some b)).grown R (λ k e _=>e);have d5:=c6.cell b7 a3.o;clear S U V X b4 b5 b6)
      refine⟨⟨a++[x],rest',x.g+x.sz,by rw[a7.o];simp,by go_num,a5,?_,c5⟩,by simp only[intOf];omega⟩
      rw[EG,List.length_append]
      exact b9

theorem DAll_at(P:Sp)(W:Nat->Nat)(cs:List Cel)(d q:Nat)(b:Value)(w:World)(c:DocAt w d q P.n W b)(g:CellsAt P W cs)(j:A8 w b P.ts)(i:P.ts.length<=17592186044416)(f:Cw P.ts):
    Calls prog 17 #[.pointer (some d)] w λ e w'=>∃ v,e=.returned v/\w'.ownsRow w.heap.size 113 5 v cs.length (Ci cs)/\Kp Aa w w':=by
  obtain⟨cap,c0,p⟩:=c.head
  have u:=c.lt
  have l:Sl (∀ a,Kp Aa w a->Calls prog 60 #[.slice (some ⟨q,0,none⟩) P.n cap,b] a λ e w'=>∃ v,e=.returned (.tuple #[v,.bool true])/\w'.ownsRow a.heap.size 113 5 v cs.length (Ci cs)/\Kp Aa a w'):=
    ⟨λ a k=>DCells_at P W cs q cap b a (c.row.Ac k) g (j.Ac k) i f⟩
  clear c g j f i
  go_enter func17,ntmps17
  go_wp2_with fail
  go_region_held3 (λ w'=>w'.cell? d=some (.slice (some ⟨q,0,none⟩) P.n cap)/\w'.cell? ⟨d,1,none⟩=some b) (exact ⟨Bl KU c0,Bl KU p⟩)
    (first | (go_at_call 60;with_reducible refine(l.o _ KU).mono ?_;rintro e w2 ⟨v,rfl,r,t⟩
              have m:Kp Aa w w2:=(Kr Aa w).drew.then' t))
  have s:w2.ownsRow w.heap.size 113 5 v cs.length (Ci cs):=r
  go_wp2
  refine bodyPost_ret (v:=v) (by simp[results,results17,go_sem]) rfl ⟨v,rfl,s,m⟩

def DMade(q n:Nat)(W:Nat->Nat)(w:World)(e:Ending)(w':World):Prop:=
  ∃ q' cap',e=.returned (.tuple #[.slice (some ⟨q',0,none⟩) n cap',(0:Int)])/\WRow w' q' n W/\w.heap.size<=q'/\Kp Aa w w'

set_option maxRecDepth 20000 in
theorem DMake_yes(g a ln S q n cap:Nat)(W:Nat->Nat)(B:Value)(ts:List TypR)(w:World)(u:WRow w q n W)(P:A8 w B ts)(N:ts.length<=17592186044416)(J:Cw ts)
    (M:AV ts (a:Nat) (ln:Nat)=0) (K:BB ts (a:Nat) (ln:Nat)=(S:Nat)) (b1:0<S) (s:Am 1 (a:Nat) (ln:Nat) (S:Nat)=true) (b6:g+S<=n/2):
    Calls prog 151 #[.slice (some ⟨q,0,none⟩) n cap,B,g,a,ln] w (DMade q n (makeW W g a ln S) w):=by
  have c2:=u.small
  have F:Sl _:=⟨(DHOf_any B (a:Nat) (ln:Nat) ts w P N J).mono λ e w' (O:BR ts (a:Nat) (ln:Nat) w e w')=>show e=.returned (.tuple #[.agg #[.int .u8 1,a,ln,S],(0:Int)])/\Kp Aa w w' by
    rw[BR,M,if_pos rfl,K] at O;exact O⟩
  have D:Sl (∀ m,Calls prog 197 #[.agg #[.int .u8 1,a,ln,S]] m (RK (.tuple #[.int .u64 ((BA 1 a ln S:Nat):Int),(0:Int)]) m)):=
    ⟨λ m=>FB 1 a ln S m s⟩
  have C:=sE (encH_lt (tag:=1) (ty:=a) (ln:=ln) (sz:=S) s)
  unfold makeW
  obtain⟨X,L⟩:∃ X,BA 1 a ln S=X:=⟨_,rfl⟩
  rw[L] at D C ⊢
  have G:=sE u
  have a8:decide ((g:Int)<0)=false:=dF (by omega)
  have a9:decide ((n:Int)/2<(g:Int))=false:=dF (by omega)
  have b0:decide ((n:Int)/2-(g:Int)<(S:Int))=false:=dF (by omega)
  have a7:Sl ((2:Int)*(g:Int)=((2*g:Nat):Int)):=⟨by omega⟩
  clear u P J N M K s L
  go_enter func151,ntmps151
  go_wp2_with fail
  refine F.o.mono ?_
  rintro e w2 ⟨rfl,A⟩
  have c3:=A.size
  go_wp2_with (at_builtin;go_loud (refine copy_words rfl (.tmp 47) rfl q n cap W rfl (G.o.Ac (A.then' ((Kr Aa w2).alloc _))) (by omega) ?_);intro a5 c I x t z)
  have H:=z.at_ (wN w2 (.cells #[.int .u8 1,a,ln,S] 111)) (λ d=>d)
  have V:=(A.then' ((Kr Aa w2).alloc _)).then' z
  have c0:=x.lt
  have a3:¬ w2.heap.size=c:=by
    have:w2.heap.size+1<=c:=by simpa using t
    omega
  have a4:w.heap.size<=c:=by
    have:w2.heap.size+1<=c:=by simpa using t
    omega
  have R:=sE H
  have T:=sE x
  clear H x F G t z
  go_wp2_with fail
  go_loopw [15] (λ y wr=>∃ k:Nat,y=.int .i64 ((2*g+k:Nat):Int)/\k<=2*S/\WRow wr c n (fillW W (2*g) k 0)/\Kp (λ b=>b=c) a5 wr) (λ y _=>2*(g+S)-(intOf y).toNat)
  case atStart=>exact ⟨0,by go_num,by omega,by rw[fillW_zero];exact T.o,Kr _ _⟩
  case round=>
    obtain⟨k,rfl,b7,f,p⟩:=hrel
    have l:=p.at_ R.o a3
    obtain⟨b2,b3,b4,b5⟩:=Ay l
    have b9:=lZ l
    have c1:=f.lt
    have r:=sE f
    have E:=sE p
    by_cases hlast:k<2*S
    . have a2:((2*g+k:Nat):Int)<2*((g:Int)+(S:Int)):=by omega
      have j:2*g+k<n:=by omega
      have Y:=f.at_ j
      have Z:=f.free (2*g+k)
      clear l f p
      go_wp2
      refine⟨⟨k+1,by go_num,by omega,?_,?_⟩,by simp only[intOf];omega⟩
      . rw[<- fillW_succ]
        exact r.o.store j 0 (by omega)
      . exact E.o.trans ((Kr (λ b=>b=c) wr).setCell (λ _=>rfl) _) (λ _ _ d=>d)
    . have a2:¬ ((2*g+k:Nat):Int)<2*((g:Int)+(S:Int)):=by omega
      obtain rfl:k=2*S:=by omega
      clear l f p
      go_wp2_with fail
      refine(D.o _).mono ?_
      rintro e a6 ⟨rfl,Q⟩
      have i:=r.o.Ac Q
      have j:2*g<n:=by omega
      have Y:=i.at_ j
      have Z:=i.free (2*g)
      have b8:=i.lt
      have U:=sE i
      clear i r
      go_wp2
      refine bodyPost_ret (v:=.tuple #[.slice (some ⟨c,0,none⟩) n I,(0:Int)]) (by simp[results,results151,go_sem]) rfl ⟨c,I,rfl,U.o.store j X C.o,a4,?_⟩
      exact((V.trans E.o (λ b a1 d=>by have a0:b=c:=d;omega)).then' Q).trans ((Kr (λ b=>b=c) a6).setCell (λ _=>rfl) _) (λ b a1 d=>by have a0:b=c:=d;omega)

def Hit(x:Cel)(j S:Nat):Prop:=¬ x.tag=1/\x.g<=j/\j<x.fin/\j+S<=x.fin

def DPutPost(P:Sp)(cs:List Cel)(W:Nat->Nat)(rb q:Nat)(lv:Value)(g id n:Int)(w:World)(e:Ending)(w':World):Prop:=
  e=.returned (.int .i64 (DW P.ts (P.n/2) cs g id n))/\Kp (λ k=>k=rb) w w'/\
    ((¬ DW P.ts (P.n/2) cs g id n=0/\DocAt w' rb q P.n W lv)\/
     (DW P.ts (P.n/2) cs g id n=0/\∃ (x:Cel) (j i l S:Nat),x∈cs/\g=(j:Nat)/\id=(i:Nat)/\n=(l:Nat)/\BB P.ts id n=(S:Nat)/\Hit x j S/\∃ q',w.heap.size<=q'/\DocAt w' rb q' P.n (putW W x j i l S) lv))

theorem putR_none{ts:List TypR}{H j i l S:Nat}{cs:List Cel}(a:AC 0 cs H)(m:AV ts (i:Nat) (l:Nat)=0)(f:BB ts (i:Nat) (l:Nat)=(S:Nat))(n:j<H)(b:∀ x∈cs,¬ Hit x j S):DW ts H cs (j:Nat) (i:Nat) (l:Nat)=3:=by
  obtain⟨r,c,q,rfl,o,p,e⟩:=cell_split a (Nat.zero_le _) n
  rw[DW,if_neg (by simpa using m),if_neg (by omega),cellOf_at (g:=(j:Nat)) (λ d k=>by have:=e d k;omega) (by omega),f]
  have:=b c (by simp)
  simp only[Hit] at this
  dsimp only
  rw[if_pos]
  by_cases a:c.tag=1
  . exact .inl a
  . exact .inr (by omega)

theorem putR_hit{ts:List TypR}{H j i l S:Nat}{cs:List Cel}{x:Cel}(f:AC 0 cs H)(r:AV ts (i:Nat) (l:Nat)=0)(o:BB ts (i:Nat) (l:Nat)=(S:Nat))(b:x∈cs)(m:Hit x j S):DW ts H cs (j:Nat) (i:Nat) (l:Nat)=0:=by
  have B:=f.mem b
  obtain⟨t,C,u,D⟩:=m
  have s:j<H:=by rw[Cel.fin] at u;omega
  obtain⟨F,c,E,rfl,y,n,k⟩:=cell_split f (Nat.zero_le _) s
  have p:c=x:=by
    obtain⟨a,G,v⟩:=f.split
    obtain⟨A,z,w⟩:=v
    rcases List.mem_append.1 b with b|b
    . have:=k x b;omega
    . rcases List.mem_cons.1 b with b|b
      . exact b.symm
      . have:=w.mem b;rw [Cel.fin] at n;omega
  subst p
  rw[DW,if_neg (by simpa using r),if_neg (by omega),cellOf_at (g:=(j:Nat)) (λ d q=>by have:=k d q;omega) (by omega),o]
  dsimp only
  rw[if_neg]
  intro e
  rcases e with e|e
  . exact t e
  . omega

set_option maxRecDepth 20000 in
theorem DPut_err(P:Sp)(W:Nat->Nat)(cs:List Cel)(j q:Nat)(f:Value)(g a n:Int)(w:World)(d:DocAt w j q P.n W f)(t:A8 w f P.ts)(r:P.ts.length<=17592186044416)(p:Cw P.ts)(b:¬ AV P.ts a n=0):
    Calls prog 96 #[.pointer (some j),.int .i64 g,.int .i64 a,.int .i64 n] w (DPutPost P cs W j q f g a n w):=by
  have i:Sl (DW P.ts (P.n/2) cs g a n=AV P.ts a n):=⟨by rw[DW,if_pos b]⟩
  have k:Sl _:=⟨(DHOf_any f a n P.ts w t r p).mono λ e w' (s:BR P.ts a n w e w')=>show e=.returned (.tuple #[.agg #[.int .u8 0,(0:Int),(0:Int),(0:Int)],.int .i64 (AV P.ts a n)])/\Kp Aa w w' by
    rw[BR,if_neg b] at s;exact s⟩
  obtain⟨c,m⟩:∃ c,AV P.ts a n=c:=⟨_,rfl⟩
  rw[m] at k i b
  obtain⟨cap,c0,z⟩:=d.head
  have B:=d.lt
  have u:=sE d
  have A:(c !=0)=true:=by simpa using b
  have x:=sE b
  clear m b d t p r
  go_enter func96,ntmps96
  go_wp2_with fail
  refine k.o.mono ?_
  rintro e w2 ⟨rfl,y⟩
  go_wp2
  have l:Kp Aa w (w2.alloc (.cells #[.int .u8 0,(0:Int),(0:Int),(0:Int)] 111)):=y.alloc _
  exact bodyPost_ret (v:=.int .i64 c) (by simp[results,results96,go_sem]) rfl ⟨by rw[i.o],l.Aw _,.inl ⟨by rw[i.o];exact x.o,u.o.Ac l⟩⟩

set_option maxRecDepth 20000 in
theorem DPut_out(P:Sp)(W:Nat->Nat)(cs:List Cel)(r q:Nat)(k:Value)(g:Int)(i l S:Nat)(w:World)(c:DocAt w r q P.n W k)(B:A8 w k P.ts)(y:P.ts.length<=17592186044416)(u:Cw P.ts)(p:AV P.ts (i:Nat) (l:Nat)=0)(x:BB P.ts (i:Nat) (l:Nat)=(S:Nat))(z:g<0\/((P.n/2:Nat):Int)<=g):
    Calls prog 96 #[.pointer (some r),.int .i64 g,i,l] w (DPutPost P cs W r q k g (i:Nat) (l:Nat) w):=by
  have j:Sl (DW P.ts (P.n/2) cs g (i:Nat) (l:Nat)=2):=⟨by rw[DW,if_neg (by simpa using p),if_pos z]⟩
  have t:Sl _:=⟨(DHOf_any k (i:Nat) (l:Nat) P.ts w B y u).mono λ e w' (A:BR P.ts (i:Nat) (l:Nat) w e w')=>show e=.returned (.tuple #[.agg #[.int .u8 1,i,l,S],(0:Int)])/\Kp Aa w w' by
    rw[BR,p,if_pos rfl,x] at A;exact A⟩
  obtain⟨cap,c0,d⟩:=c.head
  have E:=c.lt
  have H:=c.row.small
  have s:=sE c
  obtain⟨f,D⟩:∃ f,decide (g<0)=f:=⟨_,rfl⟩
  have m:f=false->decide ((P.n:Int)/2<=g)=true:=λ C=>by
    subst C
    have:=of_decide_eq_false D
    exact dT (by omega)
  clear p x c B u y z
  cases f with
  |true=>
    clear m
    go_enter func96,ntmps96
    go_wp2_with fail
    refine t.o.mono ?_
    rintro e w2 ⟨rfl,a⟩
    replace c0:=a.cell c0 id
    replace d:=a.cell d id
    go_wp2
    have b:Kp Aa w (w2.alloc (.cells #[.int .u8 1,i,l,S] 111)):=a.alloc _
    exact bodyPost_ret (v:=.int .i64 2) (by simp[results,results96,go_sem]) rfl ⟨by rw[j.o],b.Aw _,.inl ⟨by rw[j.o];omega,s.o.Ac b⟩⟩
  |false=>
    have F:=m rfl
    clear m
    go_enter func96,ntmps96
    go_wp2_with fail
    refine t.o.mono ?_
    rintro e w2 ⟨rfl,a⟩
    replace c0:=a.cell c0 id
    replace d:=a.cell d id
    have G:=Nat.lt_of_lt_of_le E a.size
    go_wp2
    have b:Kp Aa w (w2.alloc (.cells #[.int .u8 1,i,l,S] 111)):=a.alloc _
    exact bodyPost_ret (v:=.int .i64 2) (by simp[results,results96,go_sem]) rfl ⟨by rw[j.o],b.Aw _,.inl ⟨by rw[j.o];omega,s.o.Ac b⟩⟩

set_option maxRecDepth 20000 in
theorem DPut_in(P:Sp)(W:Nat->Nat)(cs:List Cel)(f q:Nat)(r:Value)(j i l S:Nat)(w:World)(u:DocAt w f q P.n W r)(G:CellsAt P W cs)(a6:A8 w r P.ts)(a5:P.ts.length<=17592186044416)(a4:Cw P.ts)(R:AV P.ts (i:Nat) (l:Nat)=0)(F:BB P.ts (i:Nat) (l:Nat)=(S:Nat))(i2:0<S)(e9:Am 1 (i:Nat) (l:Nat) (S:Nat)=true)(i4:j<P.n/2):
    Calls prog 96 #[.pointer (some f),j,i,l] w (DPutPost P cs W f q r (j:Nat) (i:Nat) (l:Nat) w):=by
  have g7:Sl ((∀ x∈cs,¬ Hit x j S)->DW P.ts (P.n/2) cs (j:Nat) (i:Nat) (l:Nat)=3):=⟨putR_none G.tl R F i4⟩
  have f9:Sl (∀ x∈cs,Hit x j S->DW P.ts (P.n/2) cs (j:Nat) (i:Nat) (l:Nat)=0):=⟨λ x z a=>putR_hit G.tl R F z a⟩
  have d7:Sl _:=⟨(DHOf_any r (i:Nat) (l:Nat) P.ts w a6 a5 a4).mono λ e w' (f1:BR P.ts (i:Nat) (l:Nat) w e w')=>show e=.returned (.tuple #[.agg #[.int .u8 1,i,l,S],(0:Int)])/\Kp Aa w w' by
    rw[BR,R,if_pos rfl,F] at f1;exact f1⟩
  have i7:cs.length<=32768:=by
    have:=BG G.tl
    have:=u.row.small
    omega
  have g6:Sl (∀ p cap,Kp Aa w p->j+S<=P.n/2->Calls prog 151 #[.slice (some ⟨q,0,none⟩) P.n cap,r,j,i,l] p λ e w'=>∃ c4 e4,e=.returned (.tuple #[.slice (some ⟨c4,0,none⟩) P.n e4,(0:Int)])/\WRow w' c4 P.n (makeW W j i l S)/\p.heap.size<=c4/\Kp Aa p w'):=
    ⟨λ p cap k i5=>DMake_yes j i l S q P.n cap W r P.ts p (u.row.Ac k) (a6.Ac k) a5 a4 R F i2 e9 i5⟩
  have d1:Sl (∀ p,Kp Aa w p->Calls prog 17 #[.pointer (some f)] p λ e w'=>∃ v,e=.returned v/\w'.ownsRow p.heap.size 113 5 v cs.length (Ci cs)/\Kp Aa p w'):=
    ⟨λ p k=>DAll_at P W cs f q r p (u.Ac k) G (a6.Ac k) a5 a4⟩
  obtain⟨cap,c0,t⟩:=u.head
  have i8:=u.lt
  have l6:=u.row.small
  have b0:=sE u
  have g9:=sE F
  have i0:=sE G.tl
  have k7:decide ((j:Int)<0)=false:=dF (by omega)
  have k8:decide ((P.n:Int)/2<=(j:Int))=false:=dF (by omega)
  clear R F u a6 a4 a5 G e9
  go_enter func96,ntmps96
  go_wp2_with fail
  refine d7.o.mono ?_
  rintro e w2 ⟨rfl,U⟩
  have e3:=wN w2 (.cells #[.int .u8 1,i,l,S] 111)
  have c1:Kp Aa w (w2.alloc (.cells #[.int .u8 1,i,l,S] 111)):=U.alloc _
  replace c0:=U.cell c0 id
  replace t:=U.cell t id
  have i9:=Nat.lt_of_lt_of_le i8 U.size
  go_wp2_with fail
  refine(d1.o _ c1).mono ?_
  rintro e wl ⟨v,rfl,f0,c3⟩
  have d2:=sE (c3.at_ e3 id)
  have b1:=sE (c1.then' c3)
  have b2:=sE (Du.Bc f0)
  obtain⟨k4,m6,b8,-⟩:=b2.o
  subst b8
  obtain⟨E,b7⟩:∃ E,cs.length=E:=⟨_,rfl⟩
  rw[b7] at b2 i7 ⊢
  have d6:=sE b7
  clear f0 e3 c1 c3 U d7 d1 c0 t b7
  go_wp2_with fail
  go_loopw [12] (λ y wr=>∃ k:Nat,k<=E/\y=.int .i64 (k:Nat)/\Kp Aa wl wr/\Sl (∀ m x,m<k->cs[m]?=some x->¬ Hit x j S)) (λ y _=>E-(intOf y).toNat)
  case atStart=>exact ⟨0,Nat.zero_le _,rfl,Kr _ _,⟨λ m x a=>by omega⟩⟩
  case round=>
    obtain⟨k,k9,rfl,H,T⟩:=hrel
    have A:=sE H
    have a3:=b0.o.Ac (b1.o.then' H)
    obtain⟨e6,c0,t⟩:=a3.head
    have j0:=a3.lt
    have s:=H.at_ d2.o id
    obtain⟨N,C,O,Q⟩:=Ay s
    have l3:=lZ s
    by_cases hkl:k<E
    . have i6:(k:Int)<(E:Int):=by omega
      obtain⟨x,z⟩:∃ x,cs[k]?=some x:=⟨cs[k]'(by rw[d6.o];exact hkl),by simp⟩
      obtain⟨a',e4,e7,f3⟩:=b2.o.Ac H
      obtain⟨b,e8,k6,j9,k0,k1,k2,k3⟩:=f3 k x z
      have b8:k4=some ⟨b,0,none⟩:=by injection e7 with C;rw [C];exact e8
      subst b8
      have b9:x∈cs:=List.mem_of_getElem? z
      have f4:=i0.o.mem b9
      have m5:=f4.2.1
      have a0:=sE z
      have e0:=sE b9
      clear z b9 f3 e7 e8 a3 s H f4
      by_cases q1:x.tag=1
      . have j3:((x.tag:Int)==1)=true:=by simp;omega
        have B:Sl (∀ m y,m<k+1->cs[m]?=some y->¬ Hit y j S):=⟨λ m y I d=>by
          by_cases e:m=k
          . subst e;rw [a0.o] at d;injection d with d;subst d;exact λ a=>a.1 q1
          . exact T.o m y (by omega) d⟩
        clear q1
        have D:Kp Aa wr (wr.alloc (.cells #[x.g,.int .u8 x.tag,x.ty,x.ln,x.sz] 113)):=(Kr _ wr).alloc _
        go_wp2
        exact⟨⟨k+1,by omega,by go_num,A.o.then' D,B⟩,by simp only[intOf];omega⟩
      have j3:((x.tag:Int)==1)=false:=by simp;omega
      by_cases q2:j<x.g
      . have j4:decide ((j:Int)<(x.g:Int))=true:=dT (by omega)
        have B:Sl (∀ m y,m<k+1->cs[m]?=some y->¬ Hit y j S):=⟨λ m y I d=>by
          by_cases e:m=k
          . subst e;rw [a0.o] at d;injection d with d;subst d;exact λ a=>by have:=a.2.1;omega
          . exact T.o m y (by omega) d⟩
        have D:Kp Aa wr (wr.alloc (.cells #[x.g,.int .u8 x.tag,x.ty,x.ln,x.sz] 113)):=(Kr _ wr).alloc _
        go_wp2
        exact⟨⟨k+1,by omega,by go_num,A.o.then' D,B⟩,by simp only[intOf];omega⟩
      have j4:decide ((j:Int)<(x.g:Int))=false:=dF (by omega)
      by_cases q3:x.g+x.sz<=j
      . have j5:decide ((x.g:Int)+(x.sz:Int)<=(j:Int))=true:=dT (by omega)
        have B:Sl (∀ m y,m<k+1->cs[m]?=some y->¬ Hit y j S):=⟨λ m y I d=>by
          by_cases e:m=k
          . subst e;rw [a0.o] at d;injection d with d;subst d;exact λ a=>by have:=a.2.2.1;rw [Cel.fin] at this;omega
          . exact T.o m y (by omega) d⟩
        have D:Kp Aa wr (wr.alloc (.cells #[x.g,.int .u8 x.tag,x.ty,x.ln,x.sz] 113)):=(Kr _ wr).alloc _
        go_wp2
        exact⟨⟨k+1,by omega,by go_num,A.o.then' D,B⟩,by simp only[intOf];omega⟩
      have j5:decide ((x.g:Int)+(x.sz:Int)<=(j:Int))=false:=dF (by omega)
      by_cases q4:x.g+x.sz<j+S
      . have j6:decide ((x.g:Int)+(x.sz:Int)-(j:Int)<(S:Int))=true:=dT (by omega)
        have B:Sl (∀ m y,m<k+1->cs[m]?=some y->¬ Hit y j S):=⟨λ m y I d=>by
          by_cases e:m=k
          . subst e;rw [a0.o] at d;injection d with d;subst d;exact λ a=>by have:=a.2.2.2;rw [Cel.fin] at this;omega
          . exact T.o m y (by omega) d⟩
        have D:Kp Aa wr (wr.alloc (.cells #[x.g,.int .u8 x.tag,x.ty,x.ln,x.sz] 113)):=(Kr _ wr).alloc _
        go_wp2
        exact⟨⟨k+1,by omega,by go_num,A.o.then' D,B⟩,by simp only[intOf];omega⟩
      have j6:decide ((x.g:Int)+(x.sz:Int)-(j:Int)<(S:Int))=false:=dF (by omega)
      have b6:Hit x j S:=⟨q1,by omega,by rw[Cel.fin];omega,by rw[Cel.fin];omega⟩
      have f8:=sE b6
      have d8:=sE (f9.o x e0.o b6)
      clear b6
      have e1:=b1.o.then' A.o
      have M:=sE e1
      clear e1
      go_wp2_with fail
      go_region_held3 (λ w'=>w'.cell? f=some (.slice (some ⟨q,0,none⟩) P.n e6)/\w'.cell? ⟨f,1,none⟩=some r) (exact ⟨Bl KU c0,Bl KU t⟩)
        (first | (go_at_call 151;with_reducible refine(g6.o (wr.alloc (.cells #[x.g,.int .u8 x.tag,x.ty,x.ln,x.sz] 113)).drew e6 (M.o.then' ((Kr Aa _).alloc _).drew) (by omega)).mono ?_;rintro e K ⟨X,e5,rfl,e2,f2,c2⟩
                  have b3:=c2.at_ (show (wr.alloc (.cells #[x.g,.int .u8 x.tag,x.ty,x.ln,x.sz] 113)).drew.heap[wr.heap.size]?=_ from wN wr _) id
                  have a1:Kp Aa wr K:=((Kr Aa wr).alloc _).drew.then' c2))
      have l7:wr.heap.size+1<=X:=by have a:=f2;rw [World.size_drew,World.size_alloc] at a;exact a
      have L:=b0.o.Ac (M.o.then' a1)
      have l4:=L.lt
      have i1:=L.free 0
      have i3:=L.head
      clear c0 t j0
      obtain⟨k5,c0,t⟩:=i3
      have a9:=sE b3
      have f6:=sE L
      have g8:=sE e2
      have d3:=sE a1
      have l0:=lZ b3
      have m0:=a1.size
      have m4:=M.o.size
      clear L e2 a1 c2 b3 N C O Q j9 k0 k1 k2 k3 f2
      have s:=d3.o.at_ (A.o.at_ d2.o id) id
      obtain⟨N,C,O,Q⟩:=Ay s
      have b4:K.cell? wr.heap.size=some (.int .i64 x.g):=by simp[World.cell?,a9.o]
      have b5:K.cell? ⟨wr.heap.size,4,none⟩=some (.int .i64 x.sz):=by simp[World.cell?,a9.o]
      go_wp2_with fail
      obtain⟨Y,a7⟩:∃ Y,Y=K.setCell f (.slice (some ⟨X,0,none⟩) P.n e5):=⟨_,rfl⟩
      rw[<- a7]
      have J:Kp (λ b=>b=f) K Y:=by rw[a7];exact (Kr (λ b=>b=f) K).setCell (λ _=>rfl) _
      have l5:=M.o.size
      have c8:DocAt Y f X P.n (makeW W j i l S) r:=by
        obtain⟨c,j2⟩:=f6.o.hr
        exact⟨⟨e5,by rw[a7,bZ j2 _];rfl⟩,g8.o.keep J (λ a=>by have a2:X=f:=a;omega)⟩
      have g3:Sl ((j:Int)-(x.g:Int)=((j-x.g:Nat):Int)):=⟨by omega⟩
      have g4:Sl ((x.g:Int)+(x.sz:Int)-(j:Int)-(S:Int)=((x.fin-j-S:Nat):Int)):=⟨by rw[Cel.fin];omega⟩
      have g5:Sl ((j:Int)+(S:Int)=((j+S:Nat):Int)):=⟨by omega⟩
      have m3:f<w2.heap.size:=i9
      have c6:=J.at_ a9.o (λ a=>by have a2:wr.heap.size=f:=a;omega)
      have c7:=J.at_ s (λ a=>by have a2:w2.heap.size=f:=a;omega)
      have d4:=sE (DR f X P.n _ r x.g (j-x.g) Y c8 (by omega))
      have m1:=J.size
      have g0:=sE J
      clear b4 b5 N C O Q s a7 c8 J c0 t i1
      rw[g3.o]
      refine d4.o.mono ?_
      rintro e c5 ⟨rfl,j7,c9,l8,V⟩
      have Z:=V.at_ c6 (λ a=>by have a2:wr.heap.size=f:=a;omega)
      have a8:=V.at_ c7 (λ a=>by have a2:w2.heap.size=f:=a;omega)
      have b4:c5.cell? wr.heap.size=some (.int .i64 x.g):=by simp[World.cell?,Z]
      have b5:c5.cell? ⟨wr.heap.size,4,none⟩=some (.int .i64 x.sz):=by simp[World.cell?,Z]
      obtain⟨N,C,O,Q⟩:=Ay a8
      have l1:=lZ Z
      have l2:=lZ a8
      have d5:=sE (DR f j7 P.n _ r (j+S) (x.fin-j-S) c5 c9 (by rw[Cel.fin];omega))
      have m2:=V.size
      have g1:=sE V
      clear c6 c7 Z a8 c9 V d4
      go_wp2_with fail
      rw[g4.o,g5.o]
      refine d5.o.mono ?_
      rintro e m7 ⟨rfl,j8,d0,l9,f5⟩
      have f7:=sE d0
      have g2:=sE f5
      clear b4 b5 N C O Q d0 f5 d5
      go_wp2
      refine bodyPost_ret (v:=.int .i64 0) (by simp[results,results96,go_sem]) rfl ⟨by rw[d8.o],?_,.inr ⟨d8.o,x,j,i,l,S,e0.o,rfl,rfl,rfl,g9.o,f8.o,j8,?_,f7.o⟩⟩
      . exact((((M.o.then' d3.o).Aw (λ b=>b=f)).trans g0.o (λ _ _ a=>a)).trans g1.o (λ _ _ a=>a)).trans g2.o (λ _ _ a=>a)
      . omega
    . have i6:¬ (k:Int)<(E:Int):=by omega
      have d9:Sl _:=⟨g7.o (λ x z=>by
        obtain⟨m,I⟩:=List.getElem?_of_mem z
        have j1:=(gE.1 I).1
        rw[d6.o] at j1
        exact T.o m x (by omega) I)⟩
      clear a3 s H
      go_wp2
      have KF:=b1.o.then' A.o
      exact bodyPost_ret (v:=.int .i64 3) (by simp[results,results96,go_sem]) rfl ⟨by rw[d9.o],KF.Aw _,.inl ⟨by rw[d9.o];omega,b0.o.Ac KF⟩⟩

theorem DPut_any(P:Sp)(W:Nat->Nat)(cs:List Cel)(b q:Nat)(a:Value)(g c n:Int)(w:World)(e:DocAt w b q P.n W a)(p:CellsAt P W cs)(f:A8 w a P.ts)(m:P.ts.length<=64)(d:Cw P.ts):
    Calls prog 96 #[.pointer (some b),.int .i64 g,.int .i64 c,.int .i64 n] w (DPutPost P cs W b q a g c n w):=by
  by_cases he:AV P.ts c n=0
  . obtain⟨i,l,S,rfl,rfl,k,o,s,r⟩:=obj_ok m he
    by_cases ho:g<0\/((P.n/2:Nat):Int)<=g
    . exact DPut_out P W cs b q a g i l S w e f (by omega) d he k ho
    . obtain⟨j,rfl⟩:=Int.eq_ofNat_of_zero_le (show 0<=g by omega)
      exact DPut_in P W cs b q a j i l S w e p f (by omega) d he k o r.1 (by omega)
  . exact DPut_err P W cs b q a g c n w e f (by omega) d he

def DDropPost(P:Sp)(cs:List Cel)(W:Nat->Nat)(rb q:Nat)(lv:Value)(g:Int)(w:World)(e:Ending)(w':World):Prop:=
  (e=.returned (.int .i64 3)/\(∀ j:Nat,g=(j:Nat)->Ak cs j=false)/\DocAt w' rb q P.n W lv/\Kp Aa w w')\/
  (e=.returned (.int .i64 0)/\Kp (λ k=>k=rb) w w'/\∃ (j:Nat) (p1 g1:List Cel) (c:Cel) (g2 p2:List Cel) (x y:Nat),g=(j:Nat)/\Dj cs j p1 g1 c g2 p2 x y/\∃ q',(q'=q\/w.heap.size<=q')/\DocAt w' rb q' P.n (Bd W x (y-x)) lv)

theorem snoc_or(a:List Cel):a=[]\/∃ a' d,a=a'++[d]:=by
  rcases List.eq_nil_or_concat a with h|⟨a',d,h⟩
  . exact .inl h
  . exact .inr ⟨a',d,by rw[h];simp⟩

set_option maxRecDepth 20000 in
theorem DDrop_any(P:Sp)(W:Nat->Nat)(cs:List Cel)(J q:Nat)(U:Value)(g:Int)(w:World)(B:DocAt w J q P.n W U)(c2:CellsAt P W cs)(g6:A8 w U P.ts)(g3:P.ts.length<=17592186044416)(g0:Cw P.ts):
    Calls prog 98 #[.pointer (some J),.int .i64 g] w (DDropPost P cs W J q U g w):=by
  have i7:cs.length<=32768:=by
    have:=BG c2.tl
    have:=B.row.small
    omega
  have f7:=sE (DAll_at P W cs J q U w B c2 g6 g3 g0)
  have k2:=B.lt
  have k3:=B.row.small
  have c3:=sE B
  have c8:=sE c2.tl
  clear B g6 g0 g3 c2
  go_enter func98,ntmps98
  go_wp2_with fail
  refine f7.o.mono ?_
  rintro e wl ⟨v,rfl,g4,g9⟩
  have a5:=sE g9
  have d8:=sE (Du.Bc g4)
  obtain⟨j7,l3,f1,-⟩:=d8.o
  subst f1
  obtain⟨C,e8⟩:∃ C,cs.length=C:=⟨_,rfl⟩
  rw[e8] at d8 i7 ⊢
  have d5:=sE e8
  clear g4 g9 f7 e8
  go_wp2_with fail
  go_loopw [6] (λ y wr=>∃ k:Nat,k<=C/\y=.int .i64 k/\Kp Aa wl wr/\Sl (∀ m x,m<k->cs[m]?=some x->¬ (x.tag=1/\(x.g:Int)=g))) (λ y _=>C-(intOf y).toNat)
  case atStart=>exact ⟨0,Nat.zero_le _,rfl,Kr _ _,⟨λ m x i=>by omega⟩⟩
  case round=>
    obtain⟨k,k1,rfl,e0,e9⟩:=hrel
    have d4:=sE e0
    by_cases hkl:k<C
    . have i6:(k:Int)<(C:Int):=by omega
      obtain⟨x,e1⟩:∃ x,cs[k]?=some x:=⟨cs[k]'(by rw[d5.o];exact hkl),by simp⟩
      obtain⟨a',j8,g1,g5⟩:=d8.o.Ac e0
      obtain⟨b,H,k0,j6,k7,k8,k9,l0⟩:=g5 k x e1
      have f1:j7=some ⟨b,0,none⟩:=by injection g1 with s;rw [s];exact H
      subst f1
      have g8:x∈cs:=List.mem_of_getElem? e1
      have k5:=(c8.o.mem g8).2.1
      have e4:=sE e1
      have e3:Sl (∀ m d,cs[m]?=some d->b<wl.heap.size/\
          wl.cell? ⟨b,m*5,none⟩=some (.int .i64 d.g)/\wl.cell? ⟨b,m*5+1,none⟩=some (.int .u8 d.tag)/\wl.cell? ⟨b,m*5+4,none⟩=some (.int .i64 d.sz)):=⟨λ m d a8=>by
        obtain⟨r,j9,i3,j1⟩:=d8.o
        obtain⟨b0,G,i4,a3,a4,l1,l2,a9⟩:=j1 m d a8
        injection i3 with s
        rw[<- s] at G
        injection G with h2
        injection h2 with h3
        subst h3
        exact⟨i4,a3,a4,a9⟩⟩
      clear e1 g8 g5 g1 H
      by_cases q1:(x.g:Int)=g
      . by_cases q2:x.tag=1
        . have i0:((x.g:Int) !=g)=false:=by simp[q1]
          have j4:((x.tag:Int) !=1)=false:=by simp;omega
          obtain⟨I,a1,d9,i9⟩:∃ I a1,cs=I++x::a1/\I.length=k:=by
            have F:k<cs.length:=by rw[d5.o];exact hkl
            refine⟨cs.take k,cs.drop (k+1),?_,by simp;omega⟩
            have:=gE.1 e4.o
            obtain⟨_,i⟩:=this
            rw[<- i,<- List.drop_eq_getElem_cons F,List.take_append_drop]
          have b3:=sE d9
          have O:Sl (AC 0 I x.g/\AC x.fin a1 (P.n/2)):=⟨by
            have i:=c8.o
            rw[d9] at i
            exact⟨i.fin_at.2.2,i.fin_at.2.1⟩⟩
          have d6:Sl (I.length+1+a1.length=C):=⟨by
            have:=d5.o
            rw[d9] at this
            simp at this
            omega⟩
          subst i9
          have i1:Sl (∀ (a c:List Cel) (d:Cel),I=a++d::c->cs[a.length]?=some d):=⟨λ a c d i=>by rw[b3.o,i];simp⟩
          have f8:Sl (∀ (a c:List Cel) (d:Cel),a1=a++d::c->cs[I.length+1+a.length]?=some d):=⟨λ a c d i=>by
            rw[b3.o,i,List.getElem?_append_right (by omega)]
            rw[show I.length+1+a.length-I.length=a.length+1 by omega]
            simp⟩
          obtain⟨j,d0⟩:∃ j,x.g=j:=⟨_,rfl⟩
          rw[d0] at q1 O j6
          subst q1
          have k6:(j:Int)+(x.sz:Int)=((x.fin:Nat):Int):=by rw[Cel.fin,d0];omega
          have N:=sE d0
          have d7:=sE q2
          have a6:Sl (0<x.sz/\x.fin<=P.n/2):=⟨by
            have:=c8.o.mem (c:=x) (by rw[b3.o];simp)
            exact⟨this.2.2,this.2.1⟩⟩
          have g7:x.fin<=32768:=by have:=a6.o;omega
          clear d9 e0 d0 q2
          go_wp2_with fail
          go_region
          go_wp2_with fail
          go_loopw [7,9] (λ f y w'=>∃ (a L:List Cel) (z:Nat) (d3:Int),I=a++L/\f=.int .i64 z/\y=.int .i64 d3/\d3=(a.length:Int)-1/\Sl (AC 0 a z/\∀ d∈L,¬ d.tag=1)/\Kp Aa wl w') (λ _ y _=>(intOf y+1).toNat)
          case atStart=>exact ⟨I,[],j,(I.length:Int)-1,by simp,rfl,rfl,rfl,⟨O.o.1,λ d B=>by cases B⟩,d4.o.then' (Kr Aa _).drew⟩
          case round=>
            obtain⟨a,L,z,d3,b2,rfl,rfl,e2,H,b8⟩:=hrel
            rcases snoc_or a with e5|⟨a',d,e5⟩
            . subst e5
              obtain rfl:d3=-1:=by rw[e2];rfl
              clear e2
              have R:Sl (I=[]++L):=⟨b2⟩
              have c4:=sE b8
              have j2:x.fin<=32768:=g7
              clear b2
              go_wp2_with fail
              go_loopw [8,10] (λ t y w'=>∃ (r b0:List Cel) (l A:Nat),Sl (a1=r++b0)/\t=.int .i64 l/\y=.int .i64 A/\A=I.length+1+r.length/\Sl (AC x.fin r l/\∀ d∈r,¬ d.tag=1)/\A<=C/\Kp Aa wl w') (λ _ y _=>C-(intOf y).toNat)
              case atStart=>exact ⟨[],a1,x.fin,I.length+1,⟨rfl⟩,rfl,by go_num,rfl,⟨rfl,λ d B=>by cases B⟩,by omega,c4.o⟩
              case round=>
                obtain⟨r,b0,l,A,K,rfl,rfl,S,G,j3,F⟩:=hrel
                rcases b0 with _|⟨p,T⟩
                . have d1:A=C:=by
                    have:=K.o
                    rw[List.append_nil] at this
                    rw[S,<- this];exact d6.o
                  have f4:decide ((A:Int)<(C:Int))=false:=dF (by omega)
                  have f5:¬ (A:Int)<(C:Int):=by omega
                  have c9:=sE S
                  clear d1 S
                  have X:Sl (Dj cs j [] L x r [] z l):=⟨by
                    refine⟨?_,N.o,d7.o,H.o.2,G.o.2,.inl rfl,.inl rfl,H.o.1,?_,?_⟩
                    . rw[b3.o,R.o,K.o];simp
                    . have s:=O.o.1
                      rw[R.o] at s
                      obtain⟨a2,u,D⟩:=s.split
                      obtain rfl:=H.o.1.uniq u
                      exact D.app ⟨N.o,a6.o.1,by have Z:=G.o.1;rw [Cel.fin,N.o] at Z;exact Z⟩
                    . have s:=O.o.1
                      rw[R.o] at s
                      obtain⟨a2,u,D⟩:=s.split
                      obtain rfl:=H.o.1.uniq u
                      have:=D.le
                      have:=G.o.1.le
                      have:=a6.o.1
                      rw[Cel.fin] at*
                      have:=N.o
                      omega⟩
                  have f3:z<l:=X.o.2.2.2.2.2.2.2.2.2
                  have f2:l<=P.n/2:=by
                    have i:=O.o.2
                    rw[K.o] at i
                    obtain⟨a2,u,D⟩:=i.split
                    obtain rfl:=G.o.1.uniq u
                    exact D.le
                  have b7:Sl ((l:Int)-(z:Int)=((l-z:Nat):Int)):=⟨by omega⟩
                  have b6:Sl (∀ E,Kp Aa wl E->Calls prog 148 #[.pointer (some J),z,.int .i64 ((l-z:Nat):Int)] E (DLaid J q P.n (Bd W z (l-z)) U E)):=
                    ⟨λ E c0=>DR J q P.n W U z (l-z) E (c3.o.Ac (a5.o.then' c0)) (by omega)⟩
                  have Q:=sE F
                  clear F
                  go_wp2_with fail
                  rw[b7.o]
                  refine(b6.o _ Q.o).mono ?_
                  rintro e f6 ⟨rfl,c1,V,b9,a0⟩
                  have b4:=sE V
                  have b5:=sE a0
                  have Y:=a5.o.then' Q.o
                  have f0:=Y.size
                  clear V a0
                  go_wp2
                  exact bodyPost_ret (v:=.int .i64 0) (by simp[results,results98,go_sem]) rfl (.inr ⟨rfl,(Y.Aw (λ b=>b=J)).trans b5.o (λ _ _ i=>i),j,[],L,x,r,[],z,l,rfl,X.o,c1,by rcases b9 with i|i;exact .inl i;exact .inr (by omega),b4.o⟩)
                . have d1:A<C:=by
                    have j0:=d6.o
                    have:=congrArg List.length K.o
                    simp at this
                    omega
                  have f4:decide ((A:Int)<(C:Int))=true:=dT (by omega)
                  have f5:(A:Int)<(C:Int):=by omega
                  have a7:=f8.o r T p K.o
                  rw[<- S] at a7
                  have c9:=sE S
                  clear S
                  obtain⟨b1,a3,a4,a9⟩:=e3.o A p a7
                  have g2:=Nat.lt_of_lt_of_le b1 F.size
                  replace a3:=F.cell a3 id
                  replace a4:=F.cell a4 id
                  replace a9:=F.cell a9 id
                  have e7:=c8.o.mem (List.mem_of_getElem? a7)
                  clear a7 b1
                  by_cases q5:p.tag=1
                  . have d2:((p.tag:Int) !=1)=false:=by simp;omega
                    have X:Sl (Dj cs j [] L x r (p::T) z l):=⟨by
                      refine⟨?_,N.o,d7.o,H.o.2,G.o.2,.inl rfl,.inr ⟨p,T,rfl,q5⟩,H.o.1,?_,?_⟩
                      . rw[b3.o,R.o,K.o];simp
                      . have s:=O.o.1
                        rw[R.o] at s
                        obtain⟨a2,u,D⟩:=s.split
                        obtain rfl:=H.o.1.uniq u
                        exact D.app ⟨N.o,a6.o.1,by have Z:=G.o.1;rw [Cel.fin,N.o] at Z;exact Z⟩
                      . have s:=O.o.1
                        rw[R.o] at s
                        obtain⟨a2,u,D⟩:=s.split
                        obtain rfl:=H.o.1.uniq u
                        have:=D.le
                        have:=G.o.1.le
                        have:=a6.o.1
                        rw[Cel.fin] at*
                        have:=N.o
                        omega⟩
                    have f3:z<l:=X.o.2.2.2.2.2.2.2.2.2
                    have f2:l<=P.n/2:=by
                      have i:=O.o.2
                      rw[K.o] at i
                      obtain⟨a2,u,D⟩:=i.split
                      obtain rfl:=G.o.1.uniq u
                      exact D.le
                    have b7:Sl ((l:Int)-(z:Int)=((l-z:Nat):Int)):=⟨by omega⟩
                    have b6:Sl (∀ E,Kp Aa wl E->Calls prog 148 #[.pointer (some J),z,.int .i64 ((l-z:Nat):Int)] E (DLaid J q P.n (Bd W z (l-z)) U E)):=
                      ⟨λ E c0=>DR J q P.n W U z (l-z) E (c3.o.Ac (a5.o.then' c0)) (by omega)⟩
                    have Q:=sE F
                    clear F
                    go_wp2_with fail
                    rw[b7.o]
                    refine(b6.o _ Q.o).mono ?_
                    rintro e f6 ⟨rfl,c1,V,b9,a0⟩
                    have b4:=sE V
                    have b5:=sE a0
                    have Y:=a5.o.then' Q.o
                    have f0:=Y.size
                    clear V a0
                    go_wp2
                    exact bodyPost_ret (v:=.int .i64 0) (by simp[results,results98,go_sem]) rfl (.inr ⟨rfl,(Y.Aw (λ b=>b=J)).trans b5.o (λ _ _ i=>i),j,[],L,x,r,(p::T),z,l,rfl,X.o,c1,by rcases b9 with i|i;exact .inl i;exact .inr (by omega),b4.o⟩)
                  . have d2:((p.tag:Int) !=1)=true:=by simp;omega
                    have j5:(p.g:Int)+(p.sz:Int)=((p.fin:Nat):Int):=by rw[Cel.fin];omega
                    have i5:p.fin<=32768:=by rw[Cel.fin];omega
                    have c5:Sl (a1=(r++[p])++T):=⟨by rw[K.o];simp⟩
                    have c7:Sl (AC x.fin (r++[p]) p.fin/\∀ d∈r++[p],¬ d.tag=1):=⟨by
                      have i:=O.o.2
                      rw[K.o] at i
                      refine⟨i.fin_at.1,λ d B=>?_⟩
                      rcases List.mem_append.1 B with B|B
                      . exact G.o.2 d B
                      . rw[List.mem_singleton.1 B];exact q5⟩
                    have Q:=sE F
                    clear F e7
                    go_wp2_with fail
                    go_region
                    go_wp2
                    exact⟨⟨r++[p],T,p.fin,A+1,c5,rfl,by go_num,by have i2:=c9.o;simp;omega,c7,by omega,Q.o.then' (Kr Aa _).drew⟩,by simp only[intOf];omega⟩
            . subst e5
              obtain⟨m,a8⟩:∃ m,a'.length=m:=⟨_,rfl⟩
              obtain rfl:d3=(m:Int):=by rw[e2];simp;omega
              have k4:m<I.length:=by rw[b2];simp;omega
              have e6:=i1.o a' L d (by rw[b2];simp)
              rw[a8] at e6
              obtain⟨b1,a3,a4,a9⟩:=e3.o m d e6
              have g2:=Nat.lt_of_lt_of_le b1 b8.size
              replace a3:=b8.cell a3 id
              replace a4:=b8.cell a4 id
              clear e6 b1 a9 e2
              by_cases q5:d.tag=1
              . have d2:((d.tag:Int) !=1)=false:=by simp;omega
                have f9:=sE q5
                clear q5
                have R:Sl (I=(a'++[d])++L):=⟨b2⟩
                have c4:=sE b8
                have j2:x.fin<=32768:=g7
                clear b2
                go_wp2_with fail
                go_loopw [8,10] (λ t y w'=>∃ (r b0:List Cel) (l A:Nat),Sl (a1=r++b0)/\t=.int .i64 l/\y=.int .i64 A/\A=I.length+1+r.length/\Sl (AC x.fin r l/\∀ d∈r,¬ d.tag=1)/\A<=C/\Kp Aa wl w') (λ _ y _=>C-(intOf y).toNat)
                case atStart=>exact ⟨[],a1,x.fin,I.length+1,⟨rfl⟩,rfl,by go_num,rfl,⟨rfl,λ d B=>by cases B⟩,by omega,c4.o⟩
                case round=>
                  obtain⟨r,b0,l,A,K,rfl,rfl,S,G,j3,F⟩:=hrel
                  rcases b0 with _|⟨p,T⟩
                  . have d1:A=C:=by
                      have:=K.o
                      rw[List.append_nil] at this
                      rw[S,<- this];exact d6.o
                    have f4:decide ((A:Int)<(C:Int))=false:=dF (by omega)
                    have f5:¬ (A:Int)<(C:Int):=by omega
                    have c9:=sE S
                    clear d1 S
                    have X:Sl (Dj cs j (a'++[d]) L x r [] z l):=⟨by
                      refine⟨?_,N.o,d7.o,H.o.2,G.o.2,.inr ⟨a',d,rfl,f9.o⟩,.inl rfl,H.o.1,?_,?_⟩
                      . rw[b3.o,R.o,K.o];simp
                      . have s:=O.o.1
                        rw[R.o] at s
                        obtain⟨a2,u,D⟩:=s.split
                        obtain rfl:=H.o.1.uniq u
                        exact D.app ⟨N.o,a6.o.1,by have Z:=G.o.1;rw [Cel.fin,N.o] at Z;exact Z⟩
                      . have s:=O.o.1
                        rw[R.o] at s
                        obtain⟨a2,u,D⟩:=s.split
                        obtain rfl:=H.o.1.uniq u
                        have:=D.le
                        have:=G.o.1.le
                        have:=a6.o.1
                        rw[Cel.fin] at*
                        have:=N.o
                        omega⟩
                    have f3:z<l:=X.o.2.2.2.2.2.2.2.2.2
                    have f2:l<=P.n/2:=by
                      have i:=O.o.2
                      rw[K.o] at i
                      obtain⟨a2,u,D⟩:=i.split
                      obtain rfl:=G.o.1.uniq u
                      exact D.le
                    have b7:Sl ((l:Int)-(z:Int)=((l-z:Nat):Int)):=⟨by omega⟩
                    have b6:Sl (∀ E,Kp Aa wl E->Calls prog 148 #[.pointer (some J),z,.int .i64 ((l-z:Nat):Int)] E (DLaid J q P.n (Bd W z (l-z)) U E)):=
                      ⟨λ E c0=>DR J q P.n W U z (l-z) E (c3.o.Ac (a5.o.then' c0)) (by omega)⟩
                    have Q:=sE F
                    clear F
                    go_wp2_with fail
                    rw[b7.o]
                    refine(b6.o _ Q.o).mono ?_
                    rintro e f6 ⟨rfl,c1,V,b9,a0⟩
                    have b4:=sE V
                    have b5:=sE a0
                    have Y:=a5.o.then' Q.o
                    have f0:=Y.size
                    clear V a0
                    go_wp2
                    exact bodyPost_ret (v:=.int .i64 0) (by simp[results,results98,go_sem]) rfl (.inr ⟨rfl,(Y.Aw (λ b=>b=J)).trans b5.o (λ _ _ i=>i),j,(a'++[d]),L,x,r,[],z,l,rfl,X.o,c1,by rcases b9 with i|i;exact .inl i;exact .inr (by omega),b4.o⟩)
                  . have d1:A<C:=by
                      have j0:=d6.o
                      have:=congrArg List.length K.o
                      simp at this
                      omega
                    have f4:decide ((A:Int)<(C:Int))=true:=dT (by omega)
                    have f5:(A:Int)<(C:Int):=by omega
                    have a7:=f8.o r T p K.o
                    rw[<- S] at a7
                    have c9:=sE S
                    clear S
                    obtain⟨b1,a3,a4,a9⟩:=e3.o A p a7
                    have g2:=Nat.lt_of_lt_of_le b1 F.size
                    replace a3:=F.cell a3 id
                    replace a4:=F.cell a4 id
                    replace a9:=F.cell a9 id
                    have e7:=c8.o.mem (List.mem_of_getElem? a7)
                    clear a7 b1
                    by_cases q5:p.tag=1
                    . have d2:((p.tag:Int) !=1)=false:=by simp;omega
                      have X:Sl (Dj cs j (a'++[d]) L x r (p::T) z l):=⟨by
                        refine⟨?_,N.o,d7.o,H.o.2,G.o.2,.inr ⟨a',d,rfl,f9.o⟩,.inr ⟨p,T,rfl,q5⟩,H.o.1,?_,?_⟩
                        . rw[b3.o,R.o,K.o];simp
                        . have s:=O.o.1
                          rw[R.o] at s
                          obtain⟨a2,u,D⟩:=s.split
                          obtain rfl:=H.o.1.uniq u
                          exact D.app ⟨N.o,a6.o.1,by have Z:=G.o.1;rw [Cel.fin,N.o] at Z;exact Z⟩
                        . have s:=O.o.1
                          rw[R.o] at s
                          obtain⟨a2,u,D⟩:=s.split
                          obtain rfl:=H.o.1.uniq u
                          have:=D.le
                          have:=G.o.1.le
                          have:=a6.o.1
                          rw[Cel.fin] at*
                          have:=N.o
                          omega⟩
                      have f3:z<l:=X.o.2.2.2.2.2.2.2.2.2
                      have f2:l<=P.n/2:=by
                        have i:=O.o.2
                        rw[K.o] at i
                        obtain⟨a2,u,D⟩:=i.split
                        obtain rfl:=G.o.1.uniq u
                        exact D.le
                      have b7:Sl ((l:Int)-(z:Int)=((l-z:Nat):Int)):=⟨by omega⟩
                      have b6:Sl (∀ E,Kp Aa wl E->Calls prog 148 #[.pointer (some J),z,.int .i64 ((l-z:Nat):Int)] E (DLaid J q P.n (Bd W z (l-z)) U E)):=
                        ⟨λ E c0=>DR J q P.n W U z (l-z) E (c3.o.Ac (a5.o.then' c0)) (by omega)⟩
                      have Q:=sE F
                      clear F
                      go_wp2_with fail
                      rw[b7.o]
                      refine(b6.o _ Q.o).mono ?_
                      rintro e f6 ⟨rfl,c1,V,b9,a0⟩
                      have b4:=sE V
                      have b5:=sE a0
                      have Y:=a5.o.then' Q.o
                      have f0:=Y.size
                      clear V a0
                      go_wp2
                      exact bodyPost_ret (v:=.int .i64 0) (by simp[results,results98,go_sem]) rfl (.inr ⟨rfl,(Y.Aw (λ b=>b=J)).trans b5.o (λ _ _ i=>i),j,(a'++[d]),L,x,r,(p::T),z,l,rfl,X.o,c1,by rcases b9 with i|i;exact .inl i;exact .inr (by omega),b4.o⟩)
                    . have d2:((p.tag:Int) !=1)=true:=by simp;omega
                      have j5:(p.g:Int)+(p.sz:Int)=((p.fin:Nat):Int):=by rw[Cel.fin];omega
                      have i5:p.fin<=32768:=by rw[Cel.fin];omega
                      have c5:Sl (a1=(r++[p])++T):=⟨by rw[K.o];simp⟩
                      have c7:Sl (AC x.fin (r++[p]) p.fin/\∀ d∈r++[p],¬ d.tag=1):=⟨by
                        have i:=O.o.2
                        rw[K.o] at i
                        refine⟨i.fin_at.1,λ d B=>?_⟩
                        rcases List.mem_append.1 B with B|B
                        . exact G.o.2 d B
                        . rw[List.mem_singleton.1 B];exact q5⟩
                      have Q:=sE F
                      clear F e7
                      go_wp2_with fail
                      go_region
                      go_wp2
                      exact⟨⟨r++[p],T,p.fin,A+1,c5,rfl,by go_num,by have i2:=c9.o;simp;omega,c7,by omega,Q.o.then' (Kr Aa _).drew⟩,by simp only[intOf];omega⟩
              . have d2:((d.tag:Int) !=1)=true:=by simp;omega
                have c5:Sl (I=a'++(d::L)):=⟨by rw[b2];simp⟩
                have c7:Sl (AC 0 a' d.g/\∀ y∈d::L,¬ y.tag=1):=⟨by
                  refine⟨(AC.fin_at (rest:=[]) H.o.1).2.2,λ y M=>?_⟩
                  rcases List.mem_cons.1 M with M|M
                  . rw[M];exact q5
                  . exact H.o.2 y M⟩
                have c4:=sE b8
                clear b8 b2
                go_wp2
                exact⟨⟨a',d::L,d.g,(m:Int)-1,c5.o,rfl,by go_num,by rw[a8],c7,c4.o⟩,by simp only[intOf];omega⟩
        . have i0:((x.g:Int) !=g)=false:=by simp[q1]
          have j4:((x.tag:Int) !=1)=true:=by simp;omega
          have c6:Sl (∀ m y,m<k+1->cs[m]?=some y->¬ (y.tag=1/\(y.g:Int)=g)):=⟨λ m y a8 M=>by
            by_cases e:m=k
            . subst e;rw [e4.o] at M;injection M with M;subst M;exact λ i=>q2 i.1
            . exact e9.o m y (by omega) M⟩
          go_wp2
          exact⟨⟨k+1,by omega,by go_num,d4.o,c6⟩,by simp only[intOf];omega⟩
      . have i0:((x.g:Int) !=g)=true:=by simp;omega
        have c6:Sl (∀ m y,m<k+1->cs[m]?=some y->¬ (y.tag=1/\(y.g:Int)=g)):=⟨λ m y a8 M=>by
          by_cases e:m=k
          . subst e;rw [e4.o] at M;injection M with M;subst M;exact λ i=>q1 i.2
          . exact e9.o m y (by omega) M⟩
        go_wp2
        exact⟨⟨k+1,by omega,by go_num,d4.o,c6⟩,by simp only[intOf];omega⟩
    . have i6:¬ (k:Int)<(C:Int):=by omega
      have c6:Sl (∀ j:Nat,g=(j:Nat)->Ak cs j=false):=⟨λ j d0=>by
        rw[Bool.eq_false_iff]
        intro i
        obtain⟨c,c2,u,D⟩:=FL i
        obtain⟨m,a8⟩:=List.getElem?_of_mem c2
        have i8:=(gE.1 a8).1
        rw[d5.o] at i8
        exact e9.o m c (by omega) a8 ⟨u,by omega⟩⟩
      clear e0
      go_wp2
      have KF:=a5.o.then' d4.o
      exact bodyPost_ret (v:=.int .i64 3) (by simp[results,results98,go_sem]) rfl (.inl ⟨rfl,c6.o,c3.o.Ac KF,KF⟩)

end

end Go.Proofs.YtfkedlgpgmaemaaGreatDoor
