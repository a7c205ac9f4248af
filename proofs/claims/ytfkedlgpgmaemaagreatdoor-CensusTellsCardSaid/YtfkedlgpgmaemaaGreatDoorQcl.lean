/-
  Lemmas for the laws, together: DocE, DocF, DocG, DocH.
-/
import Derived.Test.YtfkedlgpgmaemaaGreatDoorQap
import Derived.Test.YtfkedlgpgmaemaaGreatDoorQaz
import Derived.Test.YtfkedlgpgmaemaaGreatDoorQan
import Derived.Test.YtfkedlgpgmaemaaGreatDoorQba
import Derived.Test.YtfkedlgpgmaemaaGreatDoorQbd
import Derived.Test.YtfkedlgpgmaemaaGreatDoorQbg
import Derived.Test.YtfkedlgpgmaemaaGreatDoorQbc
import Derived.Test.YtfkedlgpgmaemaaGreatDoorQbh
import Derived.Test.YtfkedlgpgmaemaaGreatDoorQbt
set_option linter.unusedVariables false
set_option maxHeartbeats 16000000
namespace Go.Proofs.YtfkedlgpgmaemaaGreatDoor
open Tryz
section
open Go.RowKit

set_option maxRecDepth 20000 in
theorem DCells10_at(P:Sp)(W:Nat->Nat)(cs:List Cel)(q cap:Nat)(t:Value)(w:World)(E:WRow w q P.n W)(A:CellsAt P W cs)(T:A8 w t P.ts)(B:P.ts.length<=17592186044416)(O:Cw P.ts):
  Calls prog 61 #[.slice (some ⟨q,0,none⟩) P.n cap,t] w λ e w'=>∃ v,e=.returned (.tuple #[v,.int .i64 ((P.n/2:Nat):Int)])/\w'.ownsRow w.heap.size 113 5 v cs.length (Ci cs)/\Kp Aa w w':=by
 have e4:=E.small
 have e1:cs.length<=32768:=by
  have:=BG A.tl
  omega
 have a4:=sE E
 have l:=sE A
 have a6:=sE T
 have a2:=sE O
 have a1:=sE B
 clear E A T O B
 go_enter func61,ntmps61
 go_wp2_with fail
 go_loopw [6,7] (λ v y wr=>∃ (a rest:List Cel) (g:Nat),cs=a++rest/\y=.int .i64 g/\Sl (AC 0 a g)/\wr.ownsRow w.heap.size 113 5 v a.length (Ci a)/\Kp Aa w wr) (λ _ y _=>P.n/2-(intOf y).toNat)
 case atStart=>exact ⟨[],cs,0,rfl,rfl,⟨rfl⟩,World.ownsRow_nil _ _ _ _,Kr _ _⟩
 case round=>
  obtain⟨a,rest,g,c,rfl,G,D,d⟩:=hrel
  have a7:=sE c
  have r:=l.o.tl
  rw[c] at r
  have F:AC g rest (P.n/2):=by
   obtain⟨x,c8,c9⟩:=r.split
   rw[G.o.uniq c8];exact c9
  cases rest with
  |nil=>
   have d9:g=P.n/2:=F
   have e0:¬ (g:Int)<(P.n:Int)/2:=by omega
   rw[List.append_nil] at c
   subst c
   clear r F
   go_wp2
   go_ret2
   exact⟨u6,rfl,D,d⟩
  |cons x rest'=>
   obtain⟨c2,c3,c1⟩:=F
   have p:x∈cs:=by rw[c];simp
   have d8:=(l.o.tl.mem p).2.1
   have C:=l.o.ok x p
   have Q:=l.o.hd x p
   have b8:x.g<P.n/2:=by omega
   have e9:x.sz<16777216:=by omega
   have e5:a.length+1<=cs.length:=by rw[c];simp
   subst c2
   have a5:Sl (AC 0 (a++[x]) (x.g+x.sz)):=⟨by
    refine G.o.app ⟨rfl,c3,rfl⟩⟩
   have K:Sl (Calls prog 113 #[.slice (some ⟨q,0,none⟩) P.n cap,x.g] wr (RK (.tuple #[.agg #[.int .u8 x.tag,x.ty,x.ln,x.sz],(0:Int)]) wr)):=⟨by
    have j:=DHead_in x.g q P.n cap W wr (a4.o.Ac d) b8
    obtain⟨a8,a9,b0,b1,b2⟩:=dec_enc C.1
    rw[Q,a8,a9,b0,b1,b2] at j
    exact j.mono λ_ _ c0=>c0⟩
   have J:Sl (∀ i,Kp Aa wr i->Calls prog 114 #[t,.agg #[.int .u8 x.tag,x.ty,x.ln,x.sz]] i (RK (.int .i64 0) i)):=⟨λ i c7=>by
    have j:=DFits_any t (x.tag:Nat) (x.ty:Nat) (x.ln:Nat) (x.sz:Nat) P.ts i (a6.o.Ac (d.then' c7)) a1.o a2.o
    rw[fitsE_ok C] at j
    exact j⟩
   have d1:(x.g:Int)<(P.n:Int)/2:=by omega
   have d2:decide ((P.n:Int)/2-(x.g:Int)<(x.sz:Int))=false:=dF (by omega)
   have e6:=d.size
   have Z:=sE d
   have d0:=sE G
   have z:=sE D
   obtain⟨c4,S,U,V,X⟩:=info_parts infoCell
   clear r c1 C Q p c D d
   go_wp2_with fail
   refine K.o.mono ?_
   rintro e w2 ⟨rfl,s⟩
   have N:=wN w2 (.cells #[.int .u8 x.tag,x.ty,x.ln,x.sz] 111)
   have H:=(Kr Aa w2).alloc (.cells #[.int .u8 x.tag,x.ty,x.ln,x.sz] 111)
   go_wp2_with fail
   refine(J.o _ (s.then' H)).mono ?_
   rintro e f ⟨rfl,I⟩
   have u:=I.at_ N id
   obtain⟨b4,b5,b6,b7⟩:=Ay u
   have e3:=lZ u
   have m:=(s.then' H).then' I
   have M:f.ownsRow w.heap.size 113 5 u6 a.length (Ci a):=Af z.o m (λ b d7 b3=>b3)
   have L:=sE M
   have a0:=sE m
   have e8:=m.size
   have e7:=s.size
   have a3:Sl (¬ u6.ownBlock=some w2.heap.size):=⟨λ e=>by have:=Ad z.o e;omega⟩
   clear N H I s u J K z M m
   go_wp2_with (at_builtin;go_loud (refine wpList_append_lies _ rfl (.tmp 41) (.tmp 45) 45 rfl w.heap.size 113 c4 (.agg #[(0:Int),.int .u8 0,(0:Int),(0:Int),(0:Int)]) 5 40 Dp S U V X rfl (by omega) u6 a.length (Ci a) rfl (L.o.alloc _) ⟨f.heap.size,0,none⟩ 1 1 [x.g,.int .u8 x.tag,x.ty,x.ln,x.sz] rfl rfl (World.news_of_block (wN f _)) (by simp[Value.oneCell']) (by omega) (by unfold maxLen;omega) (by omega) (by simp;omega) (f.heap.size+1) (by simp) ?_);intro d4 d3 Y b9 R d6 e2;have c5:Kp Aa w Y:=((Z.o.then' a0.o).alloc _).grown R (λ k e B=>absurd (Ad L.o e).1 (by omega));have c6:Kp (λ b=>u6.ownBlock=some b) f Y:=(((Kr Aa f).alloc _).Aw (λ b=>u6.ownBlock=some b)).grown R (λ k e _=>e);have d5:=c6.cell b7 a3.o;clear S U V X b4 b5 b6)
   refine⟨⟨a++[x],rest',x.g+x.sz,by rw[a7.o];simp,by go_num,a5,?_,c5⟩,by simp only[intOf];omega⟩
   rw[EG,List.length_append]
   exact b9

theorem DWord_no(y:Nat)(w:World)(a:y<1048576\/1114112<=y):Calls prog 117 #[.int .u64 y] w λ e w'=>e=.returned (.tuple #[(0:Int),.bool false])/\w'=w:=by
 by_cases h1:y<1048576
 .have b:decide ((y:Int)<1048576)=true:=dT (by omega)
  clear a
  go_enter func117,ntmps117
  go_wp2
  go_ret2
  exact⟨rfl,rfl⟩
 .have b:decide ((y:Int)<1048576)=false:=dF (by omega)
  have c:decide ((1114112:Int)<=(y:Int))=true:=dT (by omega)
  clear a
  go_enter func117,ntmps117
  go_wp2
  go_ret2
  exact⟨rfl,rfl⟩

theorem DWord_yes(y n:Nat)(w:World)(b:y=1048576+n)(i:n<65536):Calls prog 117 #[.int .u64 y] w λ e w'=>e=.returned (.tuple #[n,.bool true])/\w'=w:=by
 have a:Sl ((y:Int)-1048576=(n:Nat)):=⟨by omega⟩
 have c:decide ((y:Int)<1048576)=false:=dF (by omega)
 have d:decide ((1114112:Int)<=(y:Int))=false:=dF (by omega)
 have f:IntKind.u64.wrap ((y:Int)-1048576)=(y:Int)-1048576:=by rw[IntKind.wrap_u64];omega
 have g:IntKind.i64.wrap ((y:Int)-1048576)=(y:Int)-1048576:=by rw[IntKind.wrap_i64];omega
 clear b
 go_enter func117,ntmps117
 go_wp2
 go_ret2
 exact⟨by rw[<- a.o];rfl,rfl⟩

theorem startOf_take{cs:List Cel}{j g:Nat}{c:Cel}(a:cs[j]?=some c):Ak (cs.take (j+1)) g=(Ak (cs.take j) g||(c.tag==1&&c.g==g)):=by
 unfold Ak
 rw[List.take_add_one,a,List.any_append]
 simp

theorem DBegins_at(w:World)(v:Value)(cs:List Cel)(g:Nat)(u:Du w v cs)(D:cs.length<=65536):
  Calls prog 118 #[v,g] w (RK (.bool (Ak cs g)) w):=by
 have r:=sE u
 obtain⟨a,c,rfl,-⟩:=u
 obtain⟨n,m⟩:∃ n,cs.length=n:=⟨_,rfl⟩
 have p:=sE m
 rw[m] at r D ⊢
 clear m
 go_enter func118,ntmps118
 go_wp2_with fail
 go_loopw [5] (λ x5 wr=>∃ j:Nat,x5=.int .i64 j/\j<=n/\Sl (Ak (cs.take j) g=false)/\Kp Aa w wr) (λ x5 _=>n-(intOf x5).toNat)
 case atStart=>exact ⟨0,rfl,Nat.zero_le _,⟨rfl⟩,Kr _ _⟩
 case round=>
  obtain⟨j,rfl,F,l,i⟩:=hrel
  by_cases hjl:j<n
  .have C:(j:Int)<(n:Int):=by omega
   obtain⟨d,k⟩:∃ x,cs[j]?=some x:=⟨cs[j]'(by rw[p.o];exact hjl),by simp⟩
   obtain⟨a',E,e,t⟩:=r.o.Ac i
   obtain⟨b,s,-,G,H,-⟩:=t j d k
   have B:a=some ⟨b,0,none⟩:=by injection e with h1;rw [h1];exact s
   subst B
   have q:=sE (startOf_take (g:=g) k)
   have y:=sE (List.mem_of_getElem? k)
   clear e t s k
   by_cases h1:d.g=g
   .have z:((d.g:Int)==(g:Int))=true:=by rw[h1];simp
    by_cases h2:d.tag=1
    .have A:((d.tag:Int)==1)=true:=by rw[h2];rfl
     have f:Sl (Ak cs g=true):=⟨by
      unfold Ak
      rw[List.any_eq_true]
      exact⟨d,y.o,by simp[h1,h2]⟩⟩
     clear h1 h2
     go_wp2
     go_ret
     exact⟨by rw[f.o];rfl,i⟩
    .have A:((d.tag:Int)==1)=false:=by rw[beq_eq_false_iff_ne];omega
     have f:Sl (Ak (cs.take (j+1)) g=false):=⟨by rw[q.o,l.o];simp [h2]⟩
     clear h1 h2
     go_wp2
     exact⟨⟨j+1,by go_num,by omega,f,i⟩,by simp only[intOf];omega⟩
   .have z:((d.g:Int)==(g:Int))=false:=by rw[beq_eq_false_iff_ne];omega
    have f:Sl (Ak (cs.take (j+1)) g=false):=⟨by rw[q.o,l.o];simp [h1]⟩
    clear h1
    go_wp2
    exact⟨⟨j+1,by go_num,by omega,f,i⟩,by simp only[intOf];omega⟩
  .have C:¬ (j:Int)<(n:Int):=by omega
   have f:Sl (Ak cs g=false):=⟨by
    have:=l.o
    rwa [List.take_of_length_le (by rw[p.o];omega)] at this⟩
   go_wp2
   go_ret
   exact⟨by rw[f.o];rfl,i⟩

theorem DTarget_at(w:World)(v:Value)(cs:List Cel)(y:Nat)(u:Du w v cs)(r:cs.length<=65536):
  Calls prog 63 #[v,.int .u64 y] w (RK (.int .i64 (tgt cs y)) w):=by
 have p:=sE u
 obtain⟨a,c,rfl,-⟩:=u
 obtain⟨n,k⟩:∃ n,cs.length=n:=⟨_,rfl⟩
 have z:=sE k
 rw[k] at p r ⊢
 clear k
 by_cases h:y<1048576\/1114112<=y
 .have b:Sl (tgt cs y=-1):=⟨by unfold tgt;rw [if_neg (by omega)]⟩
  have f:=sE (DWord_no y w h)
  clear h
  go_enter func63,ntmps63
  go_wp2_with fail
  refine f.o.mono ?_
  rintro e w1 ⟨rfl,rfl⟩
  go_wp2
  go_ret
  exact⟨by rw[b.o];rfl,Kr _ _⟩
 .obtain ⟨m,i⟩:∃ m,y=1048576+m:=⟨y-1048576,by omega⟩
  have j:m<65536:=by omega
  have f:=sE (DWord_yes y m w i j)
  have g:y-1048576=m:=by omega
  have d:=sE (DBegins_at w (.slice a n c) cs (m/2) p.o (by rw[z.o];exact r))
  by_cases h2:m%2=0
  .obtain ⟨t,l⟩:∃ t,Ak cs (m/2)=t:=⟨_,rfl⟩
   have b:Sl (tgt cs y=if t=true then ((m/2:Nat):Int) else -1):=⟨by
    unfold tgt
    rw[g,l]
    by_cases e:t=true
    .rw [if_pos e,if_pos ⟨by omega,by omega,h2,e⟩]
    .rw [if_neg e,if_neg (λ q=>e q.2.2.2)]⟩
   rw[l] at d
   obtain⟨q,C,s⟩:∃ q:Nat,((m/2:Nat):Int)=(q:Int)/\m/2=q:=⟨m/2,rfl,rfl⟩
   rw[s] at b d
   have A:((m:Int).tmod 2 !=0)=false:=by
    have:(m:Int).tmod 2=0:=by
     rw[Int.tmod_eq_emod_of_nonneg (by omega)]
     omega
    rw[this]
    rfl
   have D:(m:Int).tdiv 2=(q:Int):=by rw[Int.tdiv_eq_ediv_of_nonneg (by omega)];omega
   have E:(m:Int)/2=(q:Int):=by omega
   have B:((m:Int)%2 !=0)=false:=by
    have:(m:Int)%2=0:=by omega
    rw[this]
    rfl
   have G:(q:Int)<=65536:=by omega
   have F:IntKind.i64.wrap (q:Int)=(q:Int):=by rw[IntKind.wrap_i64];omega
   clear h i j g h2 C s l
   go_enter func63,ntmps63
   go_wp2_with fail
   refine f.o.mono ?_
   rintro e w1 ⟨rfl,rfl⟩
   go_wp2_with fail
   refine d.o.mono ?_
   rintro e w2 ⟨rfl,x⟩
   cases t with
   |true=>
    rw[if_pos rfl] at b
    go_wp2
    go_ret
    exact⟨by rw[b.o];rfl,x⟩
   |false=>
    rw[if_neg (by simp)] at b
    go_wp2
    go_ret
    exact⟨by rw[b.o];rfl,x⟩
  .have b:Sl (tgt cs y=-1):=⟨by unfold tgt;rw [g,if_neg (λ q=>h2 q.2.2.1)]⟩
   have A:((m:Int).tmod 2 !=0)=true:=by
    have:¬ (m:Int).tmod 2=0:=by
     rw[Int.tmod_eq_emod_of_nonneg (by omega)]
     omega
    simpa using this
   have B:((m:Int)%2 !=0)=true:=by
    have:¬ (m:Int)%2=0:=by omega
    simpa using this
   clear h i j g h2 d
   go_enter func63,ntmps63
   go_wp2_with fail
   refine f.o.mono ?_
   rintro e w1 ⟨rfl,rfl⟩
   go_wp2
   go_ret
   exact⟨by rw[b.o];rfl,Kr _ _⟩

theorem DRefs_no(k wds:Int)(M:Nat)(n:Int)(w:World)(l:M<18446744073709551616)(b:¬ AU k wds M n=0):
  Calls prog 116 #[.agg #[.int .u8 k,.int .i64 wds,.int .u64 M],.int .i64 n] w λ e w'=>(∃ j,e=.returned (.tuple #[.slice none 0 0,.int .i64 j]))/\Kp Aa w w':=by
 obtain⟨w1,c⟩:∃ w1,w1=w.alloc (.cells #[.int .u8 k,.int .i64 wds,.int .u64 M] 106):=⟨_,rfl⟩
 have m:Kp Aa w w1:=by rw[c];exact (Kr _ w).alloc _
 have f:w1.heap[w.heap.size]?=some (.cells #[.int .u8 k,.int .i64 wds,.int .u64 M] 106 (0,0)):=by rw[c];exact wN w _
 have a:=DSlots_any k wds M n w1 l
 unfold DZ at a
 obtain⟨d,g⟩:∃ d,AU k wds M n=d:=⟨_,rfl⟩
 rw[g] at b a
 rw[if_neg b] at a
 have i:=sE a
 have t:(d !=0)=true:=by simpa using b
 obtain⟨q,r,s⟩:=cells3 f
 clear a f g b
 go_enter func116,ntmps116
 go_wp2_with fail
 try rw[<- c]
 clear c
 go_wp2_with fail
 refine i.o.mono ?_
 rintro e w2 ⟨rfl,p⟩
 go_wp2
 go_ret2
 exact⟨⟨_,rfl⟩,m.then' p⟩

theorem kind_ofE{P:Sp}{W:Nat->Nat}{cs:List Cel}{c:Cel}{k wds:Int}{m:Nat}(b:CellsAt P W cs)(d:c∈cs)(e:c.tag=1)(f:typeOf P.ts (c.ty:Nat)=some ⟨k,wds,m⟩):AU k wds m (c.ln:Nat)=0:=by
 obtain⟨a,g⟩:=(b.ok c d).2 e
 unfold AV at a
 rw[f] at a
 exact a

def DRefs10Post(ts:List TypR)(c:Cel)(w:World)(e:Ending)(w':World):Prop:=
 ∃ a n cap,e=.returned (.slice a n cap)/\(c.tag=1->n=(BQ ts c).length/\w'.ownsRow w.heap.size 3 1 (.slice a n cap) n (Az (BQ ts c)))/\Kp Aa w w'

theorem DRefs10_at(P:Sp)(W:Nat->Nat)(cs:List Cel)(U:Value)(w:World)(B:CellsAt P W cs)(D:A8 w U P.ts)(L:P.ts.length<=17592186044416)(K:Cw P.ts)(c:Cel)(C:c∈cs):
  Calls prog 62 #[U,.agg #[c.g,.int .u8 c.tag,c.ty,c.ln,c.sz]] w (DRefs10Post P.ts c w):=by
 obtain⟨la,lc,rfl,-⟩:=id D
 obtain⟨w1,q⟩:∃ w1,w1=w.alloc (.cells #[c.g,.int .u8 c.tag,c.ty,c.ln,c.sz] 113):=⟨_,rfl⟩
 have N:Kp Aa w w1:=by rw[q];exact (Kr _ w).alloc _
 have A:w1.heap[w.heap.size]?=some (.cells #[c.g,.int .u8 c.tag,c.ty,c.ln,c.sz] 113 (0,0)):=by rw[q];exact wN w _
 have u:=sE (DGet_any _ (c.ty:Nat) P.ts w1 (D.Ac N) L)
 have Q:=sE A
 obtain⟨-,-,S,j,-⟩:=DT A
 cases hx:typeOf P.ts (c.ty:Nat) with
 |none=>
  rw[hx] at u
  have J:Sl (Calls prog 115 #[.slice la P.ts.length lc,c.ty] w1 (RK (.tuple #[.agg #[.int .u8 0,(0:Int),.int .u64 0],(3:Int)]) w1)):=⟨u.o⟩
  have I:Sl (∀ f,Calls prog 116 #[.agg #[.int .u8 0,(0:Int),.int .u64 0],c.ln] f λ e w'=>(∃ p,e=.returned (.tuple #[.slice none 0 0,.int .i64 p]))/\Kp Aa f w'):=⟨λ f=>DRefs_no 0 0 0 (c.ln:Nat) f (by decide) (by simp[AU,Dc])⟩
  have X:Sl (¬ c.tag=1):=⟨λ b=>by
   have:=((B.ok c C).2 b).1
   unfold AV at this
   rw[hx] at this
   simp at this⟩
  clear B D L K hx A C
  go_enter func62,ntmps62
  go_wp2_with fail
  try rw[<- q]
  clear q
  go_wp2_with fail
  refine J.o.mono ?_
  rintro e w2 ⟨rfl,l⟩
  have s:=sE (l.at_ Q.o (λ b=>b))
  have z:Sl (Kp Aa w w2):=⟨N.then' l⟩
  clear S j l
  obtain⟨d,i⟩:∃ d,d=w2.alloc (.cells #[.int .u8 0,(0:Int),.int .u64 0] 106):=⟨_,rfl⟩
  have r:Kp Aa w2 d:=by rw[i];exact (Kr _ w2).alloc _
  have t:Sl (d.heap[w2.heap.size]?=some (.cells #[.int .u8 0,(0:Int),.int .u64 0] 106 (0,0))):=⟨by rw[i];exact wN w2 _⟩
  obtain⟨-,-,-,j,-⟩:=DT (r.at_ s.o (λ b=>b))
  obtain⟨F,G,H⟩:=cells3 t.o
  rw[i] at j F G H
  clear i r t s d
  go_wp2_with fail
  refine(I.o _).mono ?_
  rintro e Z ⟨⟨p,rfl⟩,E⟩
  go_wp2
  go_ret
  exact⟨_,_,_,rfl,λ b=>absurd b X.o,z.o.then' (((Kr _ w2).alloc _).then' E)⟩
 |some x=>
  obtain⟨k,wds,m⟩:=x
  rw[hx] at u
  have J:Sl (Calls prog 115 #[.slice la P.ts.length lc,c.ty] w1 (RK (.tuple #[.agg #[.int .u8 k,.int .i64 wds,.int .u64 m],(0:Int)]) w1)):=⟨u.o⟩
  have M:m<18446744073709551616:=K _ (typeOf_mem hx)
  have I:Sl (∀ f,Calls prog 116 #[.agg #[.int .u8 k,.int .i64 wds,.int .u64 m],c.ln] f λ e w'=>∃ a n cap p,e=.returned (.tuple #[.slice a n cap,.int .i64 p])/\(c.tag=1->n=(BQ P.ts c).length/\w'.ownsRow f.heap.size 3 1 (.slice a n cap) n (Az (BQ P.ts c)))/\Kp Aa f w'):=⟨λ f=>by
   have Y:BQ P.ts c=BP k wds m (c.ln:Nat):=by unfold BQ;rw [hx]
   by_cases hE:AU k wds m (c.ln:Nat)=0
   .refine (DRefs_any k wds m (c.ln:Nat) f M hE).mono ?_
    rintro e w' ⟨v,rfl,y,O⟩
    obtain⟨a0,a1,rfl⟩:=Aq y
    rw[Y]
    exact⟨_,_,_,_,rfl,λ _=>⟨rfl,y⟩,O⟩
   .refine (DRefs_no k wds m (c.ln:Nat) f M hE).mono ?_
    rintro e w' ⟨⟨p,rfl⟩,O⟩
    exact⟨_,_,_,_,rfl,λ b=>absurd (kind_ofE B C b hx) hE,O⟩⟩
  clear B D L K hx A C u M
  go_enter func62,ntmps62
  go_wp2_with fail
  try rw[<- q]
  clear q
  go_wp2_with fail
  refine J.o.mono ?_
  rintro e w2 ⟨rfl,l⟩
  have s:=sE (l.at_ Q.o (λ b=>b))
  have z:Sl (Kp Aa w w2):=⟨N.then' l⟩
  clear S j l
  obtain⟨d,i⟩:∃ d,d=w2.alloc (.cells #[.int .u8 k,.int .i64 wds,.int .u64 m] 106):=⟨_,rfl⟩
  have r:Kp Aa w2 d:=by rw[i];exact (Kr _ w2).alloc _
  have t:Sl (d.heap[w2.heap.size]?=some (.cells #[.int .u8 k,.int .i64 wds,.int .u64 m] 106 (0,0))):=⟨by rw[i];exact wN w2 _⟩
  obtain⟨-,-,-,j,-⟩:=DT (r.at_ s.o (λ b=>b))
  obtain⟨F,G,H⟩:=cells3 t.o
  rw[i] at j F G H
  have T:w.heap.size<=d.heap.size:=(z.o.then' r).size
  rw[i] at T
  clear i r t s d
  go_wp2_with fail
  refine(I.o _).mono ?_
  rintro e Z ⟨a,n,cap,p,rfl,y,E⟩
  have R:=sE y
  have V:=sE E
  clear y E F G H j
  go_wp2
  go_ret
  exact⟨_,_,_,rfl,λ b=>⟨(R.o b).1,BZ (R.o b).2 T⟩,z.o.then' (((Kr _ w2).alloc _).then' V.o)⟩

end

section
open Go.RowKit

def DI(ts:List TypR)(W:Nat->Nat)(c:Cel):List (Nat×Nat×Nat):=(BQ ts c).map λ s=>(c.g,s,W (2*c.g+1+s))

def edT(ts:List TypR)(W:Nat->Nat)(cs:List Cel)(j:Nat):List (Nat×Nat×Nat):=A9 cs (Bv ts W (Aj (cs.take j)))

theorem edgesP_app(cs:List Cel)(xs a:List (Nat×Nat×Nat)):A9 cs (xs++a)=A9 cs xs++A9 cs a:=List.flatMap_append ..

theorem edT_step{ts:List TypR}{W:Nat->Nat}{cs:List Cel}{j:Nat}{c:Cel}(h:cs[j]?=some c):edT ts W cs (j+1)=edT ts W cs j++if c.tag=1 then A9 cs (DI ts W c) else []:=by
 unfold edT
 rw[objsOf_succ h]
 unfold Bv
 rw[List.flatMap_append,edgesP_app]
 congr 1
 by_cases e:c.tag=1
 .rw [if_pos e,if_pos e]
  simp[DI]
 .rw [if_neg e,if_neg e]
  rfl

theorem edT_le{ts:List TypR}{W:Nat->Nat}{cs:List Cel}(j:Nat):(edT ts W cs j).length<=(AP ts W cs).length:=by
 have b:AP ts W cs=edT ts W cs j++A9 cs (Bv ts W (Aj (cs.drop j))):=by
  unfold AP edT
  have e:Aj cs=Aj (cs.take j)++Aj (cs.drop j):=by rw[<- objsOf_append,List.take_append_drop]
  have a:Bv ts W (Aj cs)=Bv ts W (Aj (cs.take j))++Bv ts W (Aj (cs.drop j)):=by
   rw[e]
   exact List.flatMap_append ..
  rw[a,edgesP_app]
 rw[b,List.length_append]
 omega

theorem edK_step{ts:List TypR}{W:Nat->Nat}{cs:List Cel}{c:Cel}{k s:Nat}(a:(BQ ts c)[k]?=some s):A9 cs ((DI ts W c).take (k+1))=A9 cs ((DI ts W c).take k)++Eu cs (c.g,s,W (2*c.g+1+s)):=by
 have b:(DI ts W c)[k]?=some (c.g,s,W (2*c.g+1+s)):=by
  unfold DI
  rw[List.getElem?_map,a]
  rfl
 rw[List.take_add_one,b]
 exact edgesP_add ..

theorem edK_le{ts:List TypR}{W:Nat->Nat}{cs:List Cel}{c:Cel}(k:Nat):(A9 cs ((DI ts W c).take k)).length<=(A9 cs (DI ts W c)).length:=by
 have h:A9 cs (DI ts W c)=A9 cs ((DI ts W c).take k)++A9 cs ((DI ts W c).drop k):=by rw[<- edgesP_app,List.take_append_drop]
 rw[h,List.length_append]
 omega

set_option maxRecDepth 20000 in
theorem DEdges_at(P:Sp)(W:Nat->Nat)(cs:List Cel)(q cap:Nat)(j9:Value)(w:World)(c3:WRow w q P.n W)(U:CellsAt P W cs)(c5:A8 w j9 P.ts)(e3:P.ts.length<=17592186044416)(e2:Cw P.ts):
  Calls prog 18 #[.slice (some ⟨q,0,none⟩) P.n cap,j9] w λ e w'=>∃ v,e=.returned v/\w'.ownsRow w.heap.size 70 3 v (AP P.ts W cs).length (Bt (AP P.ts W cs))/\Kp Aa w w':=by
 obtain⟨la,lc,rfl,-⟩:=id c5
 have d0:=sE (DCells10_at P W cs q cap _ w c3 U c5 e3 e2)
 have f9:Sl (∀ D c,Kp Aa w D->c∈cs->_):=⟨λ D c f0 J=>DRefs10_at P W cs _ D U (c5.Ac f0) e3 e2 c J⟩
 have n2:=c3.small
 have i5:cs.length<=65536:=by
  have:=BG U.tl
  omega
 have l6:Sl (∀ c∈cs,c.tag=1->∀ s∈BQ P.ts c,2*c.g+1+s<P.n):=⟨λ c J f s a0=>(refsC_in U J f a0).2.2⟩
 have l5:Sl (∀ c∈cs,c.tag=1->(BQ P.ts c).length<=65536):=⟨λ c J f=>refsC_len (U.ok c J) f⟩
 have g4:=sE c3
 have f5:Sl ((AP P.ts W cs).length<=2147483648):=⟨Nat.le_trans (Dv cs _) (U.to.F8 n2)⟩
 obtain⟨n,c0⟩:∃ n,cs.length=n:=⟨_,rfl⟩
 obtain⟨L,g8⟩:∃ L,P.ts.length=L:=⟨_,rfl⟩
 have b3:=sE c0
 rw[c0] at i5
 rw[g8] at d0 f9 ⊢
 clear c3 U c5 e3 e2 g8
 go_enter func18,ntmps18
 go_wp2_with fail
 refine d0.o.mono ?_
 rintro e w1 ⟨p5,rfl,c2,e8⟩
 obtain⟨m0,g6,rfl⟩:=Aq c2
 have f3:=sE (Du.Bc c2)
 have c9:=sE c2
 have d2:=sE e8
 rw[c0] at f3 c9 ⊢
 obtain⟨l,e1⟩:∃ l,w1.heap.size=l:=⟨_,rfl⟩
 have b2:=sE e1
 have m2:w.heap.size<=l:=by rw[<- e1];exact e8.size
 clear c2 e8 d0 c0 e1
 go_wp2_with fail
 go_loopw [7,8,9,10,11,12] (λ x7 x8 _ _ _ _ wr=>∃ i:Nat,x8=.int .i64 i/\i<=n/\wr.ownsRow l 70 3 x7 (edT P.ts W cs i).length (Bt (edT P.ts W cs i))/\Kp Aa w1 wr) (λ _ x8 _ _ _ _ _=>n-(intOf x8).toNat)
 case atStart=>exact ⟨0,rfl,Nat.zero_le _,World.ownsRow_nil _ _ _ _,Kr _ _⟩
 case round=>
  obtain⟨i,rfl,o7,a6,a5⟩:=hrel
  have a4:=sE a6
  have F:=sE a5
  by_cases hil:i<n
  .have m8:(i:Int)<(n:Int):=by omega
   obtain⟨c,b9⟩:∃ x,cs[i]?=some x:=⟨cs[i]'(by rw[b3.o];exact hil),by simp⟩
   have J:=List.mem_of_getElem? b9
   obtain⟨a',o5,e,i1⟩:=f3.o.Ac a5
   obtain⟨b,d,-,O,n9,o0,o1,o2⟩:=i1 i c b9
   have m6:m0=some ⟨b,0,none⟩:=by injection e with j;rw [j];exact d
   subst m6
   have b5:=sE (edT_step (ts:=P.ts) (W:=W) b9)
   have d1:Sl (c∈cs):=⟨J⟩
   obtain⟨k1,k2,rfl⟩:=Aq a6
   clear e i1 d b9 J a6
   obtain⟨w2,a8⟩:∃ w2,w2=wr.alloc (.cells #[c.g,.int .u8 c.tag,c.ty,c.ln,c.sz] 113):=⟨_,rfl⟩
   have j8:Kp Aa wr w2:=by rw[a8];exact (Kr _ wr).alloc _
   have e0:w2.heap[wr.heap.size]?=some (.cells #[c.g,.int .u8 c.tag,c.ty,c.ln,c.sz] 113 (0,0)):=by rw[a8];exact wN wr _
   have c7:=sE e0
   have d3:=sE j8
   obtain⟨k5,f2,k6,k7,k8⟩:=DT e0
   rw[a8] at k5 f2 k6 k7 k8
   obtain⟨m,b7⟩:∃ m,edT P.ts W cs i=m:=⟨_,rfl⟩
   rw[b7] at a4 b5 ⊢
   have m4:m.length<=2147483648:=by rw[<- b7];exact Nat.le_trans (edT_le i) f5.o
   obtain⟨b0,c1⟩:∃ b0,m.length=b0:=⟨_,rfl⟩
   have b4:=sE c1
   rw[c1] at a4 m4 ⊢
   have l8:Sl (c.tag=1->b0+(A9 cs (DI P.ts W c)).length<=2147483648):=⟨λ a=>by
    have j:=edT_le (ts:=P.ts) (W:=W) (cs:=cs) (i+1)
    rw[b5.o,if_pos a,List.length_append,c1] at j
    exact Nat.le_trans j f5.o⟩
   have o3:=sE b7
   clear e0 j8 a5 b7 c1
   go_wp2_with fail
   try rw[<- a8]
   clear a8 O n9 o0 o1 o2 k5 f2 k6 k7 k8
   refine(f9.o w2 c (d2.o.then' (F.o.then' d3.o)) d1.o).mono ?_
   rintro e p ⟨ra,C,rc,rfl,a7,c6⟩
   have g2:=sE a7
   have Q:Sl (Kp Aa wr p):=⟨d3.o.then' c6⟩
   have n3:wr.heap.size<w2.heap.size:=lZ c7.o
   have o9:w2.heap.size<=p.heap.size:=c6.size
   have f8:Sl (∀ b,(Value.slice k1 b0 k2).ownBlock=some b->l<=b/\b<wr.heap.size):=⟨λ b d=>Ad a4.o d⟩
   have m3:l<=wr.heap.size:=by rw[<- b2.o];exact F.o.size
   have c8:=sE (c6.at_ c7.o (λ a=>a))
   have d5:=sE (Af a4.o Q.o (λ _ _ a=>a))
   obtain⟨z,j1⟩:∃ z,wr.heap.size=z:=⟨_,rfl⟩
   rw[j1] at c8 f8 n3 m3 ⊢
   clear a7 c6 c7 d3 a4 j1
   by_cases f:c.tag=1
   case neg=>
    have m1:((c.tag:Int)==1)=false:=by rw[beq_eq_false_iff_ne];omega
    have f4:Sl (edT P.ts W cs (i+1)=m):=⟨by rw[b5.o,if_neg f,List.append_nil]⟩
    obtain⟨-,f2,-,-,-⟩:=DT c8.o
    clear f
    go_wp2_with fail
    go_loopw [7,11,12] (λ x7 x11 _ r=>x7=.slice k1 b0 k2/\x11=.int .i64 0/\r=p) (λ _ _ _ _=>0)
    case atStart=>exact ⟨rfl,rfl,rfl⟩
    case round=>
     obtain⟨rfl,rfl,rfl⟩:=hrel
     by_cases c4:0<C
     .have n1:(0:Int)<(C:Int):=by omega
      go_wp2
      refine⟨⟨i+1,by go_num,by omega,?_,F.o.then' Q.o⟩,by simp only[intOf];omega⟩
      rw[f4.o,b4.o]
      exact d5.o
     .have n1:¬ (0:Int)<(C:Int):=by omega
      go_wp2
      refine⟨⟨i+1,by go_num,by omega,?_,F.o.then' Q.o⟩,by simp only[intOf];omega⟩
      rw[f4.o,b4.o]
      exact d5.o
   case pos=>
    have d9:Sl (c.tag=1):=⟨f⟩
    obtain⟨c4,i9⟩:=g2.o f
    have d6:=sE i9
    have g1:=sE c4
    have o8:C<=65536:=by rw[c4];exact l5.o c d1.o f
    have m1:((c.tag:Int)==1)=true:=by rw[f];rfl
    have o6:l<=p.heap.size:=by rw[<- b2.o];exact (F.o.then' Q.o).size
    clear f c4 i9 g2
    go_wp2_with fail
    go_loopw [7,11,12] (λ x7 x11 _ r=>∃ k:Nat,x11=.int .i64 (k:Nat)/\k<=C/\r.ownsRow l 70 3 x7 (m++A9 cs ((DI P.ts W c).take k)).length (Bt (m++A9 cs ((DI P.ts W c).take k)))/\(∀ b,x7.ownBlock=some b->b<z\/p.heap.size<=b)/\Kp (λ b=>(l<=b/\b<z)\/p.heap.size<=b) p r) (λ _ x11 _ _=>C-(intOf x11).toNat)
    case atStart=>
     refine⟨0,rfl,Nat.zero_le _,?_,λ b d=>.inl ?_,Kr _ _⟩
     .rw [List.take_zero]
      show p.ownsRow l _ 3 _ (m++[]).length (Bt (m++[]))
      rw[List.append_nil,b4.o]
      exact d5.o
     .exact (f8.o b d).2
    case round=>
     obtain⟨k,rfl,a5,e4,i7,M⟩:=hrel
     obtain⟨r,rfl⟩:∃ r,r=wr:=⟨_,rfl⟩
     obtain⟨ea,ec,rfl⟩:=Aq e4
     have a3:=sE e4
     have T:=sE i7
     have l1:=sE M
     have p1:=M.size
     by_cases hkl:k<C
     .have m9:(k:Int)<(C:Int):=by omega
      obtain⟨s,a0⟩:∃ s,(BQ P.ts c)[k]?=some s:=⟨(BQ P.ts c)[k]'(by rw[<- g1.o];exact hkl),by simp⟩
      have e6:=l6.o c d1.o d9.o s (List.mem_of_getElem? a0)
      obtain⟨b1,n0,E⟩:=Cu (Af d6.o M (λ b d a=>by have j:=Ad d6.o d;omega)) a0
      subst n0
      obtain⟨x0,p6,-,-,-⟩:=DT (M.at_ c8.o (λ a=>by omega))
      have p0:=g4.o.lt
      have e7:WRow r q P.n W:=(g4.o.Ac (d2.o.then' (F.o.then' Q.o))).keep M (λ a=>by omega)
      have O:=e7.at_ e6
      have n4:=e7.fits _ e6
      have g9:Du r (.slice (some ⟨b,0,none⟩) n g6) cs:=Du.Bc (by
       rw[b3.o]
       exact Af (Af c9.o (F.o.then' Q.o) (λ _ _ a=>a)) M (λ b d a=>by have j:=Ad c9.o d;have Z:=b2.o;omega))
      have l7:Sl (∀ D y,Kp Aa r D->Calls prog 63 #[.slice (some ⟨b,0,none⟩) n g6,.int .u64 (y:Nat)] D (RK (.int .i64 (tgt cs y)) D)):=⟨λ D y f0=>DTarget_at D _ cs y (g9.Ac f0) (by rw[b3.o];exact i5)⟩
      have d7:=sE (edK_step (W:=W) (cs:=cs) a0)
      obtain⟨y,j3⟩:∃ y,W (2*c.g+1+s)=y:=⟨_,rfl⟩
      rw[j3] at O n4 d7
      obtain⟨G,j,n6⟩:∃ G:Nat,(2:Int)*(c.g:Int)=(G:Int)/\G=2*c.g:=⟨2*c.g,by omega,rfl⟩
      obtain⟨H,Z,n7⟩:∃ H:Nat,(G:Int)+1=(H:Int)/\H=G+1:=⟨G+1,by omega,rfl⟩
      obtain⟨I,g7,n8⟩:∃ I:Nat,(H:Int)+(s:Int)=(I:Int)/\I=H+s:=⟨H+s,by omega,rfl⟩
      have k4:2*c.g+1+s=I:=by omega
      rw[k4] at O e6
      have u1:IntKind.i64.wrap (G:Int)=(G:Int):=by rw[IntKind.wrap_i64];omega
      have u2:IntKind.i64.wrap (H:Int)=(H:Int):=by rw[IntKind.wrap_i64];omega
      have u3:IntKind.i64.wrap (I:Int)=(I:Int):=by rw[IntKind.wrap_i64];omega
      have k3:(I:Int)<(P.n:Int):=by omega
      obtain⟨R,b8⟩:∃ R,m++A9 cs ((DI P.ts W c).take k)=R:=⟨_,rfl⟩
      have m5:R.length<=2147483648:=by
       rw[<- b8,List.length_append,b4.o]
       exact Nat.le_trans (Nat.add_le_add_left (edK_le k) _) (l8.o d9.o)
      have g3:Sl (m++A9 cs ((DI P.ts W c).take (k+1))=R++Eu cs (c.g,s,y)):=⟨by rw[d7.o,<- List.append_assoc,b8]⟩
      rw[b8] at a3 T ⊢
      obtain⟨N,e5⟩:∃ N,R.length=N:=⟨_,rfl⟩
      have g0:=sE e5
      rw[e5] at a3 T m5 ⊢
      have a1:Kp Aa r r.drew:=(Kr _ _).drew
      clear n6 n7 n8 k4 a0 e7 g9 j3 b8 e5 e4 i7 M d7
      go_wp2_with fail
      refine wp_region_held_drew (S:=λ w'=>w'.cell? ⟨z,0,none⟩=some (.int .i64 c.g)/\w'.cell? ⟨b1,k,none⟩=some (.int .i64 (s:Nat))/\w'.cell? ⟨q,I,none⟩=some (.int .u64 (y:Nat))) (by kernel_rfl) ?_ (λ X=>?_)
      .exact ⟨x0,E,O⟩
      refine Ap 0 ?_;refine Ap 1 ?_;refine Ap 2 ?_;refine Ap 3 ?_;refine Ap 4 ?_
      try simp only[AB]
      refine Ap 5 ?_;refine Ap 6 ?_;refine Ap 7 ?_;refine Ap 8 ?_;refine Ap 9 ?_
      try simp only[AB]
      refine Ap 10 ?_;refine Ap 11 ?_;refine Ap 12 ?_
      try simp only[AB]
      refine Bp [13] ?_
      refine Ag rfl (λ K hK=>?_)
      go_simp
      go_at_call 63
      (with_reducible refine(l7.o _ y a1).mono ?_)
      rintro e A ⟨rfl,e9⟩
      have B:Kp Aa r A:=a1.then' e9
      refine hK _ _ ?_ (λ X=>?_)
      .exact ⟨Ae B x0,Ae B E,Ae B O⟩
      clear hK K
      try simp only[AB]
      refine Ap 14 ?_
      try simp only[AB]
      refine wpAnyH_done (by kernel_rfl) ?_ _
      have o4:=sE B
      replace x0:=Ae B x0
      replace E:=Ae B E
      have f6:=sE (Af a3.o B (λ _ _ a=>a))
      have d4:Sl (Kp (λ b=>(l<=b/\b<z)\/p.heap.size<=b) p A):=⟨l1.o.trans B (λ _ _ a=>a.elim)⟩
      obtain⟨t,f⟩:∃ t,tgt cs y=t:=⟨_,rfl⟩
      rw[f]
      by_cases ht0:0<=t
      .obtain ⟨a2,rfl⟩:=Int.eq_ofNat_of_zero_le ht0
       have d8:Sl (m++A9 cs ((DI P.ts W c).take (k+1))=R++[(c.g,s,a2)]):=⟨by
        rw[g3.o]
        unfold Eu
        dsimp only
        rw[f,if_pos (by omega),Int.toNat_natCast]⟩
       clear X e9 B a1 ht0 f O j Z g7 u1 u2 u3 k3
       have p2:=d4.o.size
       have a1:Kp Aa A A.drew:=(Kr _ _).drew
       go_wp2_with fail
       refine wp_region_held_drew (S:=λ w'=>w'.cell? ⟨z,0,none⟩=some (.int .i64 c.g)/\w'.cell? ⟨b1,k,none⟩=some (.int .i64 (s:Nat))) (by kernel_rfl) ?_ (λ X=>?_)
       .exact ⟨x0,E⟩
       refine Ap 0 ?_;refine Ap 1 ?_;refine Ap 2 ?_;refine Ap 3 ?_;refine Ap 4 ?_
       try simp only[AB]
       refine Ap 5 ?_;refine Ap 6 ?_;refine Ap 7 ?_;refine Ap 8 ?_
       try simp only[AB]
       refine Bp [9] ?_
       refine Ag rfl (λ K hK=>?_)
       go_simp
       obtain⟨Y,a9⟩:∃ Y,Y=(A.alloc (.cells #[c.g,.int .i64 (s:Nat),a2] 70)).drew:=⟨_,rfl⟩
       have V:Kp Aa A Y:=by rw[a9];exact ((Kr _ A).alloc _).drew
       have g5:Y.heap[A.heap.size]?=some (.cells #[c.g,.int .i64 (s:Nat),a2] 70 (0,0)):=by rw[a9];exact wN A _
       have j7:Y.heap.size=A.heap.size+1:=by rw[a9];simp
       have l9:=sE j7
       rw[<- a9]
       clear a9
       have l3:=sE (Af f6.o V (λ _ _ a=>a))
       refine hK _ _ ?_ (λ X=>?_)
       .exact ⟨Ae V x0,Ae V E⟩
       clear hK K
       try simp only[AB]
       obtain⟨n5,i3,j4,j5,j6⟩:=info_parts infoEdge
       refine Bp [10] ?_
       refine Ag rfl (λ K hK=>?_)
       refine CP rfl rfl (.tmp 60) (.tmp 69) 47 rfl l 70 n5 _ 3 24 EB i3 j4 j5 j6 rfl (by omega) (.slice ea N ec) N (Bt R) rfl l3.o ⟨A.heap.size,0,none⟩ 1 _ [c.g,.int .i64 (s:Nat),a2] rfl rfl (World.news_of_block g5) (by intro u j0;simp at j0;rcases j0 with rfl|rfl|rfl <;> rfl) (by unfold maxLen;omega) (by omega) (by omega) ?_
       intro k0 f1 i8 i2 i0
       clear i3 j4 j5 j6
       have b6:Kp (λ b=>(Value.slice ea N ec).ownBlock=some b) Y f1:=(Kr _ Y).grown i2 (λ k e _=>e)
       have i6:∀ b,(Value.slice ea N ec).ownBlock=some b->(l<=b/\b<z)\/p.heap.size<=b:=λ b d=>by
        have j:=T.o b d
        have Z:=(Ad a3.o d).1
        rcases j with j|j
        .exact .inl ⟨Z,j⟩
        .exact .inr j
       have l0:Sl (Kp (λ b=>(l<=b/\b<z)\/p.heap.size<=b) p f1):=⟨(d4.o.trans V (λ _ _ a=>a.elim)).trans b6 (λ b d a=>i6 b a)⟩
       have f7:Sl (f1.ownsRow l 70 3 k0 (R++[(c.g,s,a2)]).length (Bt (R++[(c.g,s,a2)]))):=⟨by
        rw[ER,List.length_append,g0.o]
        exact i8⟩
       have l4:Sl (∀ b,k0.ownBlock=some b->b<z\/p.heap.size<=b):=⟨λ b d=>by
        rcases i0 with a|a
        .rw [a] at d
         exact T.o b d
        .rw [a] at d
         injection d with d
         have:=l9.o
         exact .inr (by omega)⟩
       have j2:¬ (Value.slice ea N ec).ownBlock=some z:=λ a=>by have:=T.o z a;omega
       have a7:¬ (Value.slice ea N ec).ownBlock=some b1:=λ a=>by
        have j:=T.o b1 a
        have Z:=Ad d6.o (b:=b1) rfl
        omega
       obtain⟨p3,p4,rfl⟩:=Aq f7.o
       refine hK _ _ ?_ (λ X=>?_)
       .exact ⟨b6.cell (Ae V x0) j2,b6.cell (Ae V E) a7⟩
       clear hK K
       try simp only[AB]
       refine Ap 11 ?_
       try simp only[AB]
       refine wpAnyH_done (by kernel_rfl) ?_ _
       clear X i8 i2 i0 b6 V g5 a1 j2 a7 i6 x0 E j7
       go_wp2
       refine⟨⟨k+1,by go_num,by omega,?_,?_,l0.o⟩,by simp only[intOf];omega⟩
       .have a:=f7.o
        rw[d8.o]
        rw[List.length_append,List.length_singleton] at a ⊢
        exact a
       .have a:=l4.o
        rw[List.length_append,List.length_singleton] at a
        exact a
      .have d8:Sl (m++A9 cs ((DI P.ts W c).take (k+1))=R):=⟨by
        rw[g3.o]
        unfold Eu
        dsimp only
        rw[f,if_neg ht0,List.append_nil]⟩
       clear X e9 B a1 f O j Z g7 u1 u2 u3 k3 x0 E
       go_wp2
       refine⟨⟨k+1,by go_num,by omega,?_,T.o,d4.o⟩,by simp only[intOf];omega⟩
       rw[d8.o,g0.o]
       exact f6.o
     .have m9:¬ (k:Int)<(C:Int):=by omega
      obtain rfl:k=C:=by omega
      have i4:m++A9 cs ((DI P.ts W c).take k)=edT P.ts W cs (i+1):=by
       rw[b5.o,if_pos d9.o,List.take_of_length_le (by unfold DI;rw [List.length_map,g1.o];exact Nat.le_refl _)]
      have l2:=sE i4
      have k9:Sl (Kp Aa w1 r):=⟨(F.o.then' Q.o).trans M (λ b d a=>by have:=b2.o;omega)⟩
      clear i4
      go_wp2
      refine⟨⟨i+1,by go_num,by omega,?_,k9.o⟩,by simp only[intOf];omega⟩
      rw[<- l2.o]
      exact a3.o
  .have m8:¬ (i:Int)<(n:Int):=by omega
   obtain rfl:i=n:=by omega
   have m7:edT P.ts W cs i=AP P.ts W cs:=by
    unfold edT AP
    rw[List.take_of_length_le (by rw[b3.o];exact Nat.le_refl _)]
   rw[m7] at a6
   go_wp2
   go_ret
   exact⟨_,rfl,BZ a6 m2,d2.o.then' a5⟩

end

section
open Go.RowKit

theorem nats_take{w:World}{a:Option Addr}{n c:Nat}{l:List Nat}(d:AO w (.slice a n c) l){k:Nat}(m:k<=n):AO w (.slice a k c) (l.take k):=by
 obtain⟨a',j,e,g⟩:=d
 injection e with e1 e2 e3
 subst e1 e3
 refine⟨a,c,by rw[List.length_take,Nat.min_eq_left (by omega)],λ i x b=>?_⟩
 have f:=(gE.1 b).1
 rw[List.length_take] at f
 rw[List.getElem?_take_of_lt (by omega)] at b
 exact g i x b

theorem nats_drop{w:World}{b o n c:Nat}{l:List Nat}(d:AO w (.slice (some ⟨b,o,none⟩) n c) l){k:Nat}(s:k<=n)(r:n<=c):AO w (.slice (if c=k then some ⟨b,o,none⟩ else some ⟨b,o+k,none⟩) (n-k) (c-k)) (l.drop k):=by
 obtain⟨a',m,e,g⟩:=d
 injection e with e1 e2 e3
 subst e1 e3
 refine⟨_,c-k,by rw[List.length_drop];congr 1;omega,λ i x a=>?_⟩
 rw[List.getElem?_drop] at a
 have p:=(gE.1 a).1
 obtain⟨j,t,q,f⟩:=g _ x a
 injection q with q
 injection q with q1 q2
 subst q1 q2
 refine⟨b,o+k,by rw[if_neg (by omega)],?_⟩
 rw[Nat.add_assoc]
 exact f

theorem nats_lit(w:World)(k:Nat)(T:TypeId):AO (w.alloc (.cells #[k] T)) (.slice (some ⟨w.heap.size,0,none⟩) 1 1) [k]:=⟨_,_,rfl,λ i x a=>⟨w.heap.size,0,rfl,by
 have b:i=0:=by
  have:=(gE.1 a).1
  simp at this
  omega
 subst b
 have:x=k:=by simpa using a.symm
 subst this
 simp only[World.cell?,wN w _]
 rfl⟩⟩

def RowForm(v:Value):Prop:=v=.slice none 0 0\/∃ b o n c,v=.slice (some ⟨b,o,none⟩) n c/\n<=c

theorem owns_form{w:World}{base:Nat}{e:TypeId}{v:Value}{n:Nat}{xs:List Value}(a:w.ownsRow base e 1 v n xs):RowForm v:=by
 rcases a.2 with ⟨a,l⟩|⟨g,cap,b,a,c,d,f,i,j,k⟩
 .exact .inl a
 .exact .inr ⟨g,0,n,cap,a,by omega⟩

def PutNPost(l:List Nat)(x:Nat)(w:World)(e:Ending)(w':World):Prop:=
 ∃ (v':Value) (m:List Nat),e=.returned v'/\AO w' v' m/\m.Pairwise (· <·)/\(∀ z,z∈m ↔ z∈l\/z=x)/\RowForm v'/\Kp Aa w w'

theorem put_sorted{l:List Nat}{x i:Nat}(d:l.Pairwise (· <·))(o:∀ t y,t<i->l[t]?=some y->y<x)(p:∀ y,l[i]?=some y->x<y):(l.take i++x::l.drop i).Pairwise (· <·):=by
 have m:∀ y∈l.drop i,x<y:=λ y g=>by
  obtain⟨t,e⟩:=List.mem_iff_getElem?.1 g
  rw[List.getElem?_drop] at e
  have q:=(gE.1 e).1
  obtain⟨z,j⟩:∃ z,l[i]?=some z:=⟨_,List.getElem?_eq_getElem (by omega)⟩
  have u:=p z j
  by_cases f:t=0
  .subst f
   rw[Nat.add_zero,j] at e
   injection e with e
   omega
  .have:=List.pairwise_iff_getElem.1 d i (i+t) (by omega) q (by omega)
   have r:=(gE.1 j).2
   have s:=(gE.1 e).2
   omega
 have n:∀ y∈l.take i,y<x:=λ y g=>by
  obtain⟨t,e⟩:=List.mem_iff_getElem?.1 g
  have f:=(gE.1 e).1
  rw[List.length_take] at f
  rw[List.getElem?_take_of_lt (by omega)] at e
  exact o t y (by omega) e
 refine List.pairwise_append.2 ⟨d.sublist (List.take_sublist _ _),List.Pairwise.cons m (d.sublist (List.drop_sublist _ _)),λ a k b c=>?_⟩
 rcases List.mem_cons.1 c with rfl|c
 .exact n a k
 .have:=n a k
  have:=m b c
  omega

theorem nats_none(w:World)(a:Option Addr)(c:Nat):AO w (.slice a 0 c) []:=⟨a,c,rfl,λ i x h=>by simp at h⟩

theorem put_mem{l:List Nat}{i x:Nat}(z:Nat):z∈(l.take i++[x])++l.drop i ↔ z∈l\/z=x:=by
 have h:z∈l ↔ z∈l.take i\/z∈l.drop i:=by rw[<- List.mem_append,List.take_append_drop]
 rw[List.mem_append,List.mem_append,List.mem_singleton,h]
 constructor
 .rintro ((h|h)|h)
  .exact .inl (.inl h)
  .exact .inr h
  .exact .inl (.inr h)
 .rintro ((h|h)|h)
  .exact .inl (.inl h)
  .exact .inr h
  .exact .inl (.inr h)

set_option maxRecDepth 20000 in
theorem DPut18_at(w:World)(v:Value)(l:List Nat)(x:Nat)(b7:AO w v l)(N:RowForm v)(b6:l.Pairwise (· <·))(c8:l.length<=65536):
  Calls prog 68 #[v,x] w (PutNPost l x w):=by
 have M:=sE b7
 obtain⟨a,c,rfl,-⟩:=b7
 have a4:l.length<=c:=by
  rcases N with e|⟨b,o,d0,a9,e,c4⟩ <;> injection e with _ Z e2 <;> omega
 replace N:(a=none/\c=0/\l.length=0)\/∃ b o,a=some ⟨b,o,none⟩:=by
  rcases N with e|⟨b,o,d0,a9,e,c4⟩ <;> injection e with e0 Z e2
  .exact .inl ⟨e0,e2,Z⟩
  .exact .inr ⟨b,o,e0⟩
 obtain⟨n,a6⟩:∃ n,l.length=n:=⟨_,rfl⟩
 have P:=sE a6
 have a2:=sE b6
 rw[a6] at M c8 a4 N ⊢
 clear a6 b6
 go_enter func68,ntmps68
 go_wp2_with fail
 go_loopw [5] (λ x5 wr=>∃ i:Nat,x5=.int .i64 i/\i<=n/\Sl (∀ t y,t<i->l[t]?=some y->y<x)/\wr=w) (λ x5 _=>n-(intOf x5).toNat)
 case atStart=>exact ⟨0,rfl,Nat.zero_le _,⟨λ t y B=>by omega⟩,rfl⟩
 case round=>
  obtain⟨i,rfl,f,a1,rfl⟩:=hrel
  by_cases hil:i<n
  .have c7:(i:Int)<(n:Int):=by omega
   obtain⟨y,a7⟩:∃ y,l[i]?=some y:=⟨l[i]'(by rw[P.o];exact hil),by simp⟩
   obtain⟨a',a9,e,b4⟩:=M.o
   obtain⟨b,o,b3,d3⟩:=b4 i y a7
   have c3:a=some ⟨b,o,none⟩:=by injection e with h1;rw [h1];exact b3
   subst c3
   clear N
   have a3:=sE a7
   clear e b4 b3 a7
   by_cases hyx:y<x
   .have c9:(y:Int)<(x:Int):=by omega
    have c1:Sl (∀ t y,t<i+1->l[t]?=some y->y<x):=⟨λ t z d2 A=>by
     by_cases e:t=i
     .subst e
      rw[a3.o] at A
      injection A with A
      omega
     .exact a1.o t z (by omega) A⟩
    go_wp2
    exact⟨⟨i+1,by go_num,by omega,c1,trivial⟩,by simp only[intOf];omega⟩
   .have c9:¬ (y:Int)<(x:Int):=by omega
    by_cases heq:y=x
    .have Z:((y:Int)==(x:Int))=true:=by rw[heq];simp
     have c2:Sl (x∈l):=⟨by rw[<- heq];exact List.mem_of_getElem? a3.o⟩
     clear heq
     go_wp2
     go_ret
     exact⟨_,l,rfl,M.o,a2.o,λ z=>⟨.inl,λ B=>B.elim id λ B=>B▸c2.o⟩,.inr ⟨b,o,n,c,rfl,a4⟩,Kr _ _⟩
    .have Z:((y:Int)==(x:Int))=false:=by rw[beq_eq_false_iff_ne];omega
     have Y:Sl ((l.take i++x::l.drop i).Pairwise (· <·)):=⟨put_sorted a2.o a1.o (λ z A=>by
      rw[a3.o] at A
      injection A with A
      omega)⟩
     have c6:(i:Int)<=(c:Int):=by omega
     have a5:(i:Int)<=(n:Int):=by omega
     clear heq
     have K:Sl ((l.take i).length=i):=⟨by rw[List.length_take,P.o];omega⟩
     obtain⟨d,L⟩:∃ d,(l.drop i).length=d:=⟨_,rfl⟩
     have J:Sl ((l.drop i).length=d):=⟨L⟩
     have c5:d<=65536:=by rw[List.length_drop,P.o] at L;omega
     clear L
     have V:Sl (AO wr (.slice (some ⟨b,o,none⟩) i c) (l.take i)):=⟨nats_take M.o (by omega)⟩
     have a0:Sl (AO wr (.slice (some ⟨b,o+i,none⟩) (n-i) (c-i)) (l.drop i)):=⟨by
      have:=nats_drop M.o (k:=i) (by omega) a4
      rw[if_neg (by omega)] at this
      exact this⟩
     go_wp2_with (first|(at_builtin;obtain ⟨p,f,g,j,m⟩:=info_parts Be;refine AY _ rfl (.const (.slice none 0 0)) (.tmp 36) 24 rfl 3 p Ar f g j m wr.heap.size (.slice none 0 0) 0 [] rfl (World.ownsRow_nil _ _ _ _) (.slice (some ⟨b,o,none⟩) i c) (l.take i) rfl V.o (by rw[K.o];omega) (Nat.le_refl _) ?_;intro b8 w1 q G;rw [Nat.zero_add,List.nil_append,K.o] at q;obtain ⟨R,T,rfl⟩:=Aq q;have C:=sE q;have F:Sl (Kp Aa wr w1):=⟨(Kr Aa wr).grown G (λ k e _=>by cases e)⟩;clear q G;clear f g j m)|(at_builtin;obtain ⟨p,f,g,j,m⟩:=info_parts Be;refine AY _ rfl (.tmp 38) (.tmp 40) 24 rfl 3 p Ar f g j m wr.heap.size (.slice R i T) i (l.take i) rfl (Af C.o ((Kr Aa w1).alloc _) (λ _ _ B=>B)) (.slice (some ⟨w1.heap.size,0,none⟩) 1 1) [x] rfl (nats_lit w1 x _) (by simp only[List.length_singleton];omega) (Nat.le_trans F.o.size ((Kr Aa w1).alloc _).size) ?_;intro b9 w2 r H;rw [List.length_singleton] at r;obtain ⟨S,U,rfl⟩:=Aq r;have u:Sl (Kp Aa wr w2):=⟨(F.o.then' ((Kr Aa w1).alloc _)).grown H (λ k e W=>by have:=(Ad C.o e).1;omega)⟩;have D:=sE r;have O:=sE (a0.o.Ac u.o);clear r H;clear f g j m)|(at_builtin;obtain ⟨p,f,g,j,m⟩:=info_parts Be;refine AY _ rfl (.tmp 42) (.tmp 45) 24 rfl 3 p Ar f g j m wr.heap.size (.slice S (i+1) U) (i+1) (l.take i++[x]) rfl D.o (.slice (some ⟨b,o+i,none⟩) (n-i) (c-i)) (l.drop i) rfl O.o (by rw[J.o];omega) u.o.size ?_;intro c0 X s I;rw [J.o] at s;have Q:Sl (Kp Aa wr X):=⟨u.o.grown I (λ k e W=>by have:=(Ad D.o e).1;omega)⟩;obtain ⟨a8,b0,rfl⟩:=Aq s;have E:=sE s;clear s I;clear f g j m))
     all_goals (go_ret;exact ⟨_,(l.take i++[x])++l.drop i,rfl,AO.Bc E.o,by rw[List.append_assoc];exact Y.o,λ z=>put_mem z,owns_form E.o,Q.o⟩)
  .have c7:¬ (i:Int)<(n:Int):=by omega
   have a5:i=n:=by omega
   have c6:(i:Int)<=(c:Int):=by omega
   have d1:(i:Int)<=(n:Int):=by omega
   have b5:l.length=i:=by rw[a5];exact P.o
   have Y:Sl ((l.take i++x::l.drop i).Pairwise (· <·)):=⟨put_sorted a2.o a1.o (λ z A=>by
    rw[List.getElem?_eq_none (by omega)] at A
    cases A)⟩
   have K:Sl ((l.take i).length=i):=⟨by rw[List.length_take,b5];omega⟩
   have b1:l.drop i=[]:=List.drop_eq_nil_of_le (by omega)
   have a0:Sl (∀ a c,AO wr (.slice a 0 c) (l.drop i)):=⟨λ a c=>by rw[b1];exact nats_none wr a c⟩
   obtain⟨d,L⟩:∃ d,(l.drop i).length=d:=⟨_,rfl⟩
   have J:Sl ((l.drop i).length=d):=⟨L⟩
   have c5:d<=65536:=by rw[List.length_drop,P.o] at L;omega
   clear L
   clear b1 b5
   subst a5
   rcases N with ⟨rfl,rfl,rfl⟩|⟨b,o,rfl⟩
   .have b2:l.take 0=[]:=rfl
    have V:Sl (∀ a c,AO wr (.slice a 0 c) (l.take 0)):=⟨λ a c=>by rw[b2];exact nats_none wr a c⟩
    clear b2
    go_wp2_with (first|(at_builtin;obtain ⟨p,f,g,j,m⟩:=info_parts Be;refine AY _ rfl (.const (.slice none 0 0)) (.tmp 36) 24 rfl 3 p Ar f g j m wr.heap.size (.slice none 0 0) 0 [] rfl (World.ownsRow_nil _ _ _ _) _ (l.take 0) rfl (V.o _ _) (by rw[K.o];omega) (Nat.le_refl _) ?_;intro b8 w1 q G;rw [Nat.zero_add,List.nil_append,K.o] at q;obtain ⟨R,T,rfl⟩:=Aq q;have C:=sE q;have F:Sl (Kp Aa wr w1):=⟨(Kr Aa wr).grown G (λ k e _=>by cases e)⟩;clear q G;clear f g j m)|(at_builtin;obtain ⟨p,f,g,j,m⟩:=info_parts Be;refine AY _ rfl (.tmp 38) (.tmp 40) 24 rfl 3 p Ar f g j m wr.heap.size (.slice R 0 T) 0 (l.take 0) rfl (Af C.o ((Kr Aa w1).alloc _) (λ _ _ B=>B)) (.slice (some ⟨w1.heap.size,0,none⟩) 1 1) [x] rfl (nats_lit w1 x _) (by simp only[List.length_singleton];omega) (Nat.le_trans F.o.size ((Kr Aa w1).alloc _).size) ?_;intro b9 w2 r H;rw [List.length_singleton] at r;obtain ⟨S,U,rfl⟩:=Aq r;have u:Sl (Kp Aa wr w2):=⟨(F.o.then' ((Kr Aa w1).alloc _)).grown H (λ k e W=>by have:=(Ad C.o e).1;omega)⟩;have D:=sE r;have O:=sE (λ a c=>(a0.o a c).Ac u.o);clear r H;clear f g j m)|(at_builtin;obtain ⟨p,f,g,j,m⟩:=info_parts Be;refine AY _ rfl (.tmp 42) (.tmp 45) 24 rfl 3 p Ar f g j m wr.heap.size (.slice S (0+1) U) (0+1) (l.take 0++[x]) rfl D.o _ (l.drop 0) rfl (O.o _ _) (by rw[J.o];omega) u.o.size ?_;intro c0 X s I;rw [J.o] at s;have Q:Sl (Kp Aa wr X):=⟨u.o.grown I (λ k e W=>by have:=(Ad D.o e).1;omega)⟩;obtain ⟨a8,b0,rfl⟩:=Aq s;have E:=sE s;clear s I;clear f g j m))
    all_goals (go_ret;exact ⟨_,(l.take 0++[x])++l.drop 0,rfl,AO.Bc E.o,by rw[List.append_assoc];exact Y.o,λ z=>put_mem z,owns_form E.o,Q.o⟩)
   .have V:Sl (AO wr (.slice (some ⟨b,o,none⟩) i c) (l.take i)):=⟨nats_take M.o (Nat.le_refl _)⟩
    go_wp2_with (first|(at_builtin;obtain ⟨p,f,g,j,m⟩:=info_parts Be;refine AY _ rfl (.const (.slice none 0 0)) (.tmp 36) 24 rfl 3 p Ar f g j m wr.heap.size (.slice none 0 0) 0 [] rfl (World.ownsRow_nil _ _ _ _) _ (l.take i) rfl V.o (by rw[K.o];omega) (Nat.le_refl _) ?_;intro b8 w1 q G;rw [Nat.zero_add,List.nil_append,K.o] at q;obtain ⟨R,T,rfl⟩:=Aq q;have C:=sE q;have F:Sl (Kp Aa wr w1):=⟨(Kr Aa wr).grown G (λ k e _=>by cases e)⟩;clear q G;clear f g j m)|(at_builtin;obtain ⟨p,f,g,j,m⟩:=info_parts Be;refine AY _ rfl (.tmp 38) (.tmp 40) 24 rfl 3 p Ar f g j m wr.heap.size (.slice R i T) i (l.take i) rfl (Af C.o ((Kr Aa w1).alloc _) (λ _ _ B=>B)) (.slice (some ⟨w1.heap.size,0,none⟩) 1 1) [x] rfl (nats_lit w1 x _) (by simp only[List.length_singleton];omega) (Nat.le_trans F.o.size ((Kr Aa w1).alloc _).size) ?_;intro b9 w2 r H;rw [List.length_singleton] at r;obtain ⟨S,U,rfl⟩:=Aq r;have u:Sl (Kp Aa wr w2):=⟨(F.o.then' ((Kr Aa w1).alloc _)).grown H (λ k e W=>by have:=(Ad C.o e).1;omega)⟩;have D:=sE r;have O:=sE (λ a c=>(a0.o a c).Ac u.o);clear r H;clear f g j m)|(at_builtin;obtain ⟨p,f,g,j,m⟩:=info_parts Be;refine AY _ rfl (.tmp 42) (.tmp 45) 24 rfl 3 p Ar f g j m wr.heap.size (.slice S (i+1) U) (i+1) (l.take i++[x]) rfl D.o _ (l.drop i) rfl (O.o _ _) (by rw[J.o];omega) u.o.size ?_;intro c0 X s I;rw [J.o] at s;have Q:Sl (Kp Aa wr X):=⟨u.o.grown I (λ k e W=>by have:=(Ad D.o e).1;omega)⟩;obtain ⟨a8,b0,rfl⟩:=Aq s;have E:=sE s;clear s I;clear f g j m))
    all_goals (go_ret;exact ⟨_,(l.take i++[x])++l.drop i,rfl,AO.Bc E.o,by rw[List.append_assoc];exact Y.o,λ z=>put_mem z,owns_form E.o,Q.o⟩)

end

section
open Go.RowKit

theorem sorted_len{K:Nat}:∀ {m:List Nat} {b:Nat},m.Pairwise (· <·)->(∀ z∈m,b<=z/\z<K)->m.length+b<=K\/m=[]
 |[],b,_,_=>.inr rfl
 |x::t,b,h,hb=>by
  have d:=hb x (List.mem_cons_self ..)
  have a:=List.pairwise_cons.1 h
  rcases sorted_len (b:=x+1) a.2 (λ z c=>⟨a.1 z c,(hb z (List.mem_cons_of_mem _ c)).2⟩) with h3|h3
  .exact .inl (by rw[List.length_cons];omega)
  .subst h3
   exact .inl (by rw[List.length_singleton];omega)

theorem Cm{K:Nat}{m:List Nat}(a:m.Pairwise (· <·))(hK:∀ z∈m,z<K):m.length<=K:=by
 rcases sorted_len (b:=0) a (λ z c=>⟨Nat.zero_le _,hK z c⟩) with a|a
 .omega
 .subst a
  exact Nat.zero_le _

theorem sorted_sub{m m':List Nat}{x:Nat}(a:m.Pairwise (· <·))(b:m'.Pairwise (· <·))(c:∀ z,z∈m' ↔ z∈m\/z=x)(d:¬ x∈m):m'.length=m.length+1:=by
 have e:m.Nodup:=a.imp (λ a=>Nat.ne_of_lt a)
 have f:m'.Nodup:=b.imp (λ a=>Nat.ne_of_lt a)
 have g:(x::m).Nodup:=List.nodup_cons.2 ⟨d,e⟩
 have:m'.Perm (x::m):=(List.perm_ext_iff_of_nodup f g).2 (λ z=>by rw[c,List.mem_cons];exact Or.comm)
 rw[this.length_eq,List.length_cons]

set_option maxRecDepth 20000 in
theorem DHas20_at(w:World)(a:Option Addr)(c:Nat)(l:List Nat)(x:Nat)(u:AO w (.slice a l.length c) l)(D:l.length<=65536):
  Calls prog 119 #[.slice a l.length c,x] w (RK (.bool (decide (x∈l))) w):=by
 have q:=sE u
 obtain⟨n,i⟩:∃ n,l.length=n:=⟨_,rfl⟩
 have m:=sE i
 rw[i] at q D ⊢
 clear u i
 go_enter func119,ntmps119
 go_wp2_with fail
 go_loopw [5] (λ x5 wr=>∃ j:Nat,x5=.int .i64 j/\j<=n/\Sl (¬ x∈l.take j)/\Kp Aa w wr) (λ x5 _=>n-(intOf x5).toNat)
 case atStart=>exact ⟨0,rfl,Nat.zero_le _,⟨by simp⟩,Kr _ _⟩
 case round=>
  obtain⟨j,rfl,F,p,d⟩:=hrel
  by_cases hjl:j<n
  .have C:(j:Int)<(n:Int):=by omega
   obtain⟨y,k⟩:∃ y,l[j]?=some y:=⟨l[j]'(by rw[m.o];exact hjl),by simp⟩
   obtain⟨a',E,e,t⟩:=q.o.Ac d
   obtain⟨b,o,s,G⟩:=t j y k
   have B:a=some ⟨b,o,none⟩:=by injection e with h1;rw [h1];exact s
   subst B
   have r:=sE k
   clear e t s k
   by_cases hyx:y=x
   .have z:((y:Int)==(x:Int))=true:=by rw[hyx];simp
    have f:Sl (decide (x∈l)=true):=⟨dT (by rw[<- hyx];exact List.mem_of_getElem? r.o)⟩
    clear hyx
    go_wp2
    go_ret
    exact⟨by rw[f.o];rfl,d⟩
   .have z:((y:Int)==(x:Int))=false:=by rw[beq_eq_false_iff_ne];omega
    have v:Sl (¬ x∈l.take (j+1)):=⟨by
     rw[List.take_add_one,r.o,List.mem_append]
     rintro (g|g)
     .exact p.o g
     .have A:x=y:=by simpa using g
      exact hyx A.symm⟩
    clear hyx
    go_wp2
    exact⟨⟨j+1,by go_num,by omega,v,d⟩,by simp only[intOf];omega⟩
  .have C:¬ (j:Int)<(n:Int):=by omega
   have f:Sl (decide (x∈l)=false):=⟨dF (by
    have:=p.o
    rwa [List.take_of_length_le (by rw[m.o];omega)] at this)⟩
   go_wp2
   go_ret
   exact⟨by rw[f.o];rfl,d⟩

def ReachPost(es:List (Nat×Nat×Nat))(rs:List Nat)(w:World)(e:Ending)(w':World):Prop:=
 ∃ (v:Value) (m:List Nat),e=.returned v/\AO w' v m/\m.Pairwise (· <·)/\(∀ z,z∈m ↔ AA es rs z)/\RowForm v/\Kp Aa w w'

def lnV:Value->Nat
 |.slice _ n _=>n
 |_=>0

def boN:Value->Nat
 |.bool true=>1
 |_=>0

def OutR(w:World)(v:Value)(m:List Nat):Prop:=AO w v m/\m.Pairwise (· <·)/\RowForm v

theorem OutR.len{w:World}{v:Value}{m:List Nat}(h:OutR w v m):lnV v=m.length:=by
 obtain⟨⟨a,c,rfl,-⟩,-⟩:=h
 rfl

theorem OutR.Ac{w w':World}{v:Value}{m:List Nat}(h:OutR w v m)(k:Kp Aa w w'):OutR w' v m:=⟨h.1.Ac k,h.2⟩

set_option maxRecDepth 20000 in
theorem DD(w:World)(ea:Option Addr)(ec:Nat)(es:List (Nat×Nat×Nat))(ra:Option Addr)(rc:Nat)(rs:List Nat)(K:Nat)
  (a:Dl w (.slice ea es.length ec) es) (d5:AO w (.slice ra rs.length rc) rs) (hK:K<=65536) (d6:∀ r∈rs,r<K) (d4:∀ e∈es,e.2.2<K) (f9:es.length<=2147483648) (g2:rs.length<=65536):
  Calls prog 64 #[.slice ea es.length ec,.slice ra rs.length rc] w (ReachPost es rs w):=by
 have b6:=sE a
 have c1:=sE d5
 have a6:=sE d6
 have e2:=sE d4
 obtain⟨n,b1⟩:∃ n,rs.length=n:=⟨_,rfl⟩
 obtain⟨C,a7⟩:∃ C,es.length=C:=⟨_,rfl⟩
 have c0:=sE b1
 have b7:=sE a7
 rw[b1] at c1 g2 ⊢
 rw[a7] at b6 f9 ⊢
 clear a d5 d6 d4 b1 a7
 go_enter func64,ntmps64
 go_wp2_with fail
 go_loopw [5,6] (λ x5 x6 wr=>∃ (i:Nat) (m:List Nat),x6=.int .i64 (i:Nat)/\i<=n/\Sl (OutR wr x5 m)/\Sl (∀ z,z∈m ↔ z∈rs.take i)/\Kp Aa w wr) (λ _ x6 _=>n-(intOf x6).toNat)
 case atStart=>exact ⟨0,[],rfl,Nat.zero_le _,⟨nats_none _ _ _,List.Pairwise.nil,.inl rfl⟩,⟨λ z=>by simp⟩,Kr _ _⟩
 case round=>
  obtain⟨i,m,rfl,g0,j,U,s⟩:=hrel
  by_cases hil:i<n
  .have a9:(i:Int)<(n:Int):=by omega
   obtain⟨y,b2⟩:∃ y,rs[i]?=some y:=⟨rs[i]'(by rw[c0.o];exact hil),by simp⟩
   obtain⟨a',i0,e,d0⟩:=c1.o.Ac s
   obtain⟨b,o,c9,g8⟩:=d0 i y b2
   have f7:ra=some ⟨b,o,none⟩:=by injection e with f;rw [f];exact c9
   subst f7
   have f3:=sE b2
   clear e d0 c9 b2
   go_wp2_with fail
   refine(DPut18_at wr _ m y j.o.1 j.o.2.2 j.o.2.1 ?_).mono ?_
   .have:=Cm j.o.2.1 (λ z g=>a6.o z (List.mem_of_mem_take ((U.o z).1 g)))
    omega
   rintro e w2 ⟨g5,b3,rfl,f,q,c7,c8,l⟩
   have e9:Sl (OutR w2 g5 b3):=⟨f,q,c8⟩
   have e7:Sl (∀ z,z∈b3 ↔ z∈rs.take (i+1)):=⟨λ z=>by
    rw[c7,U.o,List.take_add_one,f3.o,List.mem_append]
    simp⟩
   have f4:Kp Aa w w2:=s.then' l
   clear f q c7 c8 l s g8
   go_wp2_with fail
   exact⟨⟨i+1,b3,by go_num,by omega,e9,e7,f4⟩,by simp only[intOf];omega⟩
  .have a9:¬ (i:Int)<(n:Int):=by omega
   have V:Sl (∀ z,z∈m ↔ z∈rs):=⟨λ z=>by rw[U.o,List.take_of_length_le (by rw[c0.o];omega)]⟩
   have Q:Sl (∀ z∈m,AA es rs z):=⟨λ z g=>AA.root' ((V.o z).1 g)⟩
   have R:Sl (∀ z∈rs,z∈m):=⟨λ z g=>(V.o z).2 g⟩
   have a0:m.length<=K:=Cm j.o.2.1 (λ z g=>a6.o z ((V.o z).1 g))
   clear U V
   go_wp2_with fail
   go_loopw [5,7] (λ x5 x7 wr=>∃ (m:List Nat) (d:Bool),x7=.bool d/\Sl (OutR wr x5 m)/\Sl (∀ z∈m,AA es rs z)/\Sl (∀ z∈rs,z∈m)/\Sl (d=false->∀ e∈es,e.1∈m->e.2.2∈m)/\m.length<=K/\Kp Aa w wr) (λ x5 x7 _=>2*(K-lnV x5)+boN x7)
   case atStart=>exact ⟨m,true,rfl,j,Q,R,⟨λ c=>by cases c⟩,a0,s⟩
   case round=>
    obtain⟨m,d,rfl,j,Q,R,b5,a0,s⟩:=hrel
    cases d with
    |false=>
     go_wp2_with fail
     go_ret
     exact⟨_,m,rfl,j.o.1,j.o.2.1,λ z=>⟨Q.o z,λ c=>AA.rec' (p:=λ z=>z∈m) R.o (λ e a _ c=>b5.o trivial e a c) c⟩,j.o.2.2,s⟩
    |true=>
     have a4:=j.o.len
     obtain⟨D,b0⟩:∃ D,m.length=D:=⟨_,rfl⟩
     have b9:=sE b0
     rw[b0] at a4 a0
     have e5:=sE a4
     clear b5 b0 a4
     go_wp2_with fail
     go_loopw [5,7,8] (λ x5 x7 x8 wr=>∃ (i:Nat) (m':List Nat) (d:Bool),x8=.int .i64 (i:Nat)/\i<=C/\x7=.bool d/\Sl (OutR wr x5 m')/\Sl (∀ z∈m',AA es rs z)/\Sl (∀ z∈rs,z∈m')/\Sl (d=false->m'.length=D/\∀ e∈es.take i,e.1∈m'->e.2.2∈m')/\Sl (d=true->D<m'.length)/\m'.length<=K/\Kp Aa w wr) (λ _ _ x8 _=>C-(intOf x8).toNat)
     case atStart=>exact ⟨0,m,false,rfl,Nat.zero_le _,rfl,j,Q,R,⟨λ _=>⟨b9.o,λ e a=>by cases a⟩⟩,⟨λ c=>by cases c⟩,by rw[b9.o];exact a0,s⟩
     case round=>
      obtain⟨i,m',d,rfl,g0,rfl,v,H,S,t,I,a1,F⟩:=hrel
      by_cases hil:i<C
      .have a9:(i:Int)<(C:Int):=by omega
       obtain⟨x,a2⟩:∃ x,es[i]?=some x:=⟨es[i]'(by rw[b7.o];exact hil),by simp⟩
       obtain⟨i1,i2,d2,d1⟩:=b6.o.Ac F
       obtain⟨f5,d3,i3,x0,-,x2⟩:=d1 i x a2
       have f8:ea=some ⟨f5,0,none⟩:=by injection d2 with f;rw [f];exact d3
       subst f8
       have f2:Sl (x∈es):=⟨List.mem_of_getElem? a2⟩
       have c2:Sl (es.take (i+1)=es.take i++[x]):=⟨by rw[List.take_add_one,a2];rfl⟩
       obtain⟨⟨c3,c4,g3,-⟩,-⟩:=id v.o
       subst g3
       have J:Sl (∀ N z,Kp Aa wr N->Calls prog 119 #[.slice c3 m'.length c4,.int .i64 (z:Nat)] N (RK (.bool (decide (z∈m'))) N)):=⟨λ N z g4=>DHas20_at N c3 c4 m' z (v.o.1.Ac g4) (by omega)⟩
       obtain⟨M,a8⟩:∃ M,m'.length=M:=⟨_,rfl⟩
       have u:=sE a8
       rw[a8] at v t I J a1 ⊢
       clear d2 d1 d3 a2 a8
       by_cases f:x.1∈m'
       .have O:decide (x.1∈m')=true:=dT f
        go_wp2_with fail
        refine(J.o _ x.1 (Kr _ _)).mono ?_
        rintro e w2 ⟨a,l⟩
        rw[O] at a
        subst a
        have b4:=l.cell x2 (λ c=>c)
        have G:=F.then' l
        have T:=sE l
        have e3:=sE f
        clear O f x0 x2 l F
        by_cases q:x.2.2∈m'
        .have P:decide (x.2.2∈m')=true:=dT q
         go_wp2_with fail
         refine(J.o w2 x.2.2 T.o).mono ?_
         rintro e d8 ⟨a,B⟩
         rw[P] at a
         subst a
         have L:=T.o.then' B
         have Y:=G.then' B
         have A:=sE (v.o.Ac L)
         have a3:Sl (d=false->M=D/\∀ e∈es.take (i+1),e.1∈m'->e.2.2∈m'):=⟨λ c=>⟨(t.o c).1,λ e a Z=>by
          rw[c2.o,List.mem_append,List.mem_singleton] at a
          rcases a with a|rfl
          .exact (t.o c).2 e a Z
          .exact q⟩⟩
         clear P q b4 G B L
         go_wp2_with fail
         refine⟨⟨i+1,m',d,by go_num,by omega,rfl,A,H,S,?_,?_,?_,Y⟩,by simp only[intOf];omega⟩
         .rw [u.o];exact a3
         .rw [u.o];exact I
         .rw [u.o];exact a1
        .have P:decide (x.2.2∈m')=false:=dF q
         go_wp2_with fail
         refine(J.o w2 x.2.2 T.o).mono ?_
         rintro e d8 ⟨a,B⟩
         rw[P] at a
         subst a
         have g9:=B.cell b4 (λ c=>c)
         have L:=T.o.then' B
         have Y:=G.then' B
         have A:=sE (v.o.Ac L)
         have e8:=sE q
         clear P q b4 G B L
         go_wp2_with fail
         refine(DPut18_at d8 _ m' x.2.2 A.o.1 A.o.2.2 A.o.2.1 (by rw[u.o];omega)).mono ?_
         rintro e g7 ⟨g6,E,rfl,c5,W,X,c6,d7⟩
         have f0:Sl (OutR g7 g6 E):=⟨c5,W,c6⟩
         have e4:Sl (E.length=M+1):=⟨by rw[<- u.o];exact sorted_sub A.o.2.1 W X e8.o⟩
         have a5:∀ z∈E,AA es rs z:=λ z g=>by
          rcases (X z).1 g with c|rfl
          .exact H.o z c
          .exact AA.step' (H.o _ e3.o) f2.o
         have d9:=sE a5
         have e0:Sl (∀ z∈rs,z∈E):=⟨λ z g=>(X z).2 (.inl (S.o z g))⟩
         have f6:E.length<=K:=Cm W (λ z g=>by
          obtain⟨k,s⟩:=a5 z g
          cases s with
          |root c=>exact a6.o _ c
          |step _ a=>exact e2.o _ a)
         have e1:Sl (D<E.length):=⟨by
          rw[e4.o]
          cases d with
          |false=>have:=(t.o rfl).1;omega
          |true=>have:=I.o rfl;omega⟩
         have g1:=Y.then' d7
         clear c5 W X c6 a5 Y d7 g9
         go_wp2_with fail
         exact⟨⟨i+1,E,true,by go_num,by omega,rfl,f0,d9,e0,⟨λ c=>by cases c⟩,⟨λ _=>e1.o⟩,f6,g1⟩,by simp only[intOf];omega⟩
       .have O:decide (x.1∈m')=false:=dF f
        go_wp2_with fail
        refine(J.o _ x.1 (Kr _ _)).mono ?_
        rintro e w2 ⟨a,l⟩
        rw[O] at a
        subst a
        have G:=F.then' l
        have A:=sE (v.o.Ac l)
        have a3:Sl (d=false->M=D/\∀ e∈es.take (i+1),e.1∈m'->e.2.2∈m'):=⟨λ c=>⟨(t.o c).1,λ e a Z=>by
         rw[c2.o,List.mem_append,List.mem_singleton] at a
         rcases a with a|rfl
         .exact (t.o c).2 e a Z
         .exact absurd Z f⟩⟩
        clear O f x0 x2 l F
        go_wp2_with fail
        refine⟨⟨i+1,m',d,by go_num,by omega,rfl,A,H,S,?_,?_,?_,G⟩,by simp only[intOf];omega⟩
        .rw [u.o];exact a3
        .rw [u.o];exact I
        .rw [u.o];exact a1
      .have a9:¬ (i:Int)<(C:Int):=by omega
       have b8:=v.o.len
       have f1:Sl (es.take i=es):=⟨List.take_of_length_le (by rw[b7.o];omega)⟩
       have e6:=sE b8
       clear b8
       go_wp2_with fail
       refine⟨⟨m',d,rfl,v,H,S,⟨λ c=>by have:=(t.o c).2;rwa [f1.o] at this⟩,a1,F⟩,?_⟩
       rw[e6.o,e5.o]
       cases d with
       |false=>
        have:=(t.o rfl).1
        simp only[boN]
        omega
       |true=>
        have:=I.o rfl
        simp only[boN]
        omega

end

end Go.Proofs.YtfkedlgpgmaemaaGreatDoor
