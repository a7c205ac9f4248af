/-
  Lemmas for the laws, together: WhyAl, WhyAlive.
-/
import Derived.Test.YtfkedlgpgmaemaaGreatDoorQbl
import Derived.Test.YtfkedlgpgmaemaaGreatDoorQbd
set_option linter.unusedVariables false
set_option maxHeartbeats 16000000
namespace Go.Proofs.YtfkedlgpgmaemaaGreatDoor
open Tryz
section
open Go.RowKit

def Dw:List (Nat×Nat×Nat):=[(0,0,1),(1,0,2)]

theorem edges20{W:Nat->Nat}(h1:W 1=1048578)(h3:W 3=1048580)(h5:W 5=0):AP alT W CZ=Dw:=by
 have ho:Aj CZ=[⟨0,1,1,1,1⟩,⟨1,1,1,1,1⟩,⟨2,1,1,1,1⟩]:=by decide +kernel
 have r:∀ g,BQ alT ⟨g,1,1,1,1⟩=[0]:=λ g=>by
  show BP 2 0 0 ((1:Nat):Int)=[0]
  decide +kernel
 have hr:Bv alT W (Aj CZ)=[(0,0,1048578),(1,0,1048580),(2,0,0)]:=by
  rw[ho]
  unfold Bv
  simp[r,h1,h3,h5]
 unfold AP
 rw[hr]
 decide +kernel

def d40:Nat->Option Nat:=λ g=>if g<3 then some g else none

theorem steps40{n g:Nat}:StepsN Dw [0] n g ↔ n=g/\g<3:=by
 constructor
 .intro h
  induction h with
  |root h=>
   have:=List.mem_singleton.1 h
   omega
  |@step n e _ he ih=>
   have:e=(0,0,1)\/e=(1,0,2):=by simpa [Dw] using he
   rcases this with rfl|rfl
   .have:n=0/\(0:Nat)<3:=ih
    exact⟨by rw[this.1],by decide⟩
   .have:n=1/\(1:Nat)<3:=ih
    exact⟨by rw[this.1],by decide⟩
 .rintro ⟨rfl,h⟩
  have s0:StepsN Dw [0] 0 0:=.root (by simp)
  have s1:StepsN Dw [0] 1 1:=.step (e:=(0,0,1)) s0 (by simp[Dw])
  have s2:StepsN Dw [0] 2 2:=.step (e:=(1,0,2)) s1 (by simp[Dw])
  have:n=0\/n=1\/n=2:=by omega
  rcases this with rfl|rfl|rfl
  .exact s0
  .exact s1
  .exact s2

theorem dist40:Gg Dw [0] d40:=λ g n=>by
 rw[steps40]
 unfold d40
 by_cases h:g<3
 .rw [if_pos h]
  constructor
  .intro e
   injection e with e
   exact⟨⟨e.symm,h⟩,λ m hm=>by have:=(steps40.1 hm).1;omega⟩
  .rintro ⟨⟨rfl,_⟩,_⟩
   rfl
 .rw [if_neg h]
  constructor
  .intro e
   cases e
  .rintro ⟨⟨_,h2⟩,_⟩
   exact absurd h2 h

theorem less40{g:Nat}(h:AA (Gm Dw (1,0,2)) [0] g):g<2:=by
 obtain⟨n,hs⟩:=h
 induction hs with
 |root h=>
  have:=List.mem_singleton.1 h
  omega
 |@step n e _ he ih=>
  have h1:=GA.1 he
  have:e=(0,0,1)\/e=(1,0,2):=by simpa [Dw] using h1.1
  rcases this with rfl|rfl
  .decide
  .exact absurd rfl h1.2

theorem only40:onlyL Dw [0] 2=[(1,0,2)]:=by
 have h:GD Dw 2=[(1,0,2)]:=by decide
 unfold onlyL
 rw[h]
 have:¬ AA (Gm Dw (1,0,2)) [0] 2:=λ h=>by have:=less40 h;omega
 simp[this]

theorem not40:¬ AA Dw [1] 0:=by
 have key:∀ n g,StepsN Dw [1] n g->0<g:=by
  intro n g h
  cases h with
  |root h=>
   have:=List.mem_singleton.1 h
   omega
  |@step n e _ he=>
   have:e=(0,0,1)\/e=(1,0,2):=by simpa [Dw] using he
   rcases this with rfl|rfl <;> decide
 rintro ⟨n,hs⟩
 have:=key n 0 hs
 omega

theorem Gx{w:World}{v:Value}{es:List (Nat×Nat×Nat)}(h:Dl w v es):RowO w v es:=by
 obtain⟨a,cap,rfl,h⟩:=h
 refine⟨a,cap,rfl,λ i x hi=>?_⟩
 obtain⟨b,rfl,h1,h2,h3,h4⟩:=h i x hi
 exact⟨b,0,rfl,h1,by rw[Nat.zero_add];exact h2,by rw[Nat.zero_add];exact h3,by rw[Nat.zero_add];exact h4⟩

def RowP(w:World)(v:Value)(L:List (Nat×Nat)):Prop:=
 ∃ a cap,v=.slice a L.length cap/\∀ i x,L[i]?=some x->∃ b,a=some ⟨b,0,none⟩/\w.cell? ⟨b,i*2,none⟩=some (.int .i64 x.1)/\w.cell? ⟨b,i*2+1,none⟩=some (.int .i64 x.2)

theorem RowP.Ac{w w':World}{v:Value}{L:List (Nat×Nat)}(h:RowP w v L)(k:Kp Aa w w'):RowP w' v L:=by
 obtain⟨a,cap,rfl,h⟩:=h
 refine⟨a,cap,rfl,λ i x hi=>?_⟩
 obtain⟨b,rfl,h1,h2⟩:=h i x hi
 exact⟨b,rfl,k.cell h1 id,k.cell h2 id⟩

theorem RowD.toP{w:World}{v:Value}{L:List Gl}(h:RowD w v L):RowP w v (L.map λ x=>(x.1.val,x.2)):=by
 obtain⟨a,cap,rfl,h⟩:=h
 refine⟨a,cap,by rw[List.length_map],λ i x hi=>?_⟩
 rw[List.getElem?_map] at hi
 cases e:L[i]? with
 |none=>rw [e] at hi;cases hi
 |some y=>
  rw[e] at hi
  injection hi with hi
  subst hi
  obtain⟨b,rfl,_,h2,h3⟩:=h i y e
  exact⟨b,rfl,h2,h3⟩

theorem run_eq_dist(a b c d:Int)(w:World):(Op.equalIn 10000 99 (.agg #[.int .i64 a,.int .i64 b]) (.agg #[.int .i64 c,.int .i64 d])).run prog w=.ok (a==c&&b==d) w:=by
 have u3:=underlying3
 have a3:=isAgg3
 have z3:=sizeOf3
 have hS:prog.underlying 99=some (.struct (prog.fieldsOf 99)):=by kernel_rfl
 rw[show (10000:Nat)=9999+1 from rfl,run_equalIn_agg w 9999 99 _ _ hS (by kernel_rfl)]
 simp only[Program.fieldsOf,underlying99]
 go_simp
 by_cases h1:a=c <;> by_cases h2:b=d <;> simp[h1,h2]

theorem run_neq_dist(a b c d:Int)(w:World):(binOp .neq 99 (.agg #[.int .i64 a,.int .i64 b]) (.agg #[.int .i64 c,.int .i64 d])).run prog w=.ok (.bool (!(a==c&&b==d))) w:=by
 rw[run_neq_struct,run_eq_dist];rfl

section
attribute [local go_sem ↓] run_neq_dist

theorem Same40_yes(L:List (Nat×Nat))(v u:Value)(w:World)(hv:RowP w v L)(hu:RowP w u L)(hlen:L.length<=9223372036854775806):
  Calls prog 46 #[v,u] w (RK (.bool true) w):=by
 have HV:=sE hv
 have HU:=sE hu
 obtain⟨va,vc,rfl,-⟩:=hv
 obtain⟨ua,uc,rfl,-⟩:=hu
 obtain⟨len,hlen'⟩:∃ len,L.length=len:=⟨_,rfl⟩
 rw[hlen'] at HV HU hlen ⊢
 have HL:=sE hlen'
 clear hlen'
 go_enter func46,ntmps46
 go_wp2_with fail
 go_loopw [5] (λ y wr=>∃ j:Nat,j<=len/\y=.int .i64 j/\Kp Aa w wr) (λ y _=>len-(intOf y).toNat)
 case atStart=>exact ⟨0,Nat.zero_le _,rfl,Kr _ _⟩
 case round=>
  obtain⟨j,hj,rfl,hk⟩:=hrel
  by_cases hjl:j<len
  .have hjl':(j:Int)<len:=by omega
   obtain⟨va',vc',e,hx⟩:=HV.o
   injection e with e1 e3 e2
   clear e3
   subst e1 e2
   obtain⟨ua',uc',e,hy⟩:=HU.o
   injection e with e1 e3 e2
   clear e3
   subst e1 e2
   obtain⟨x,hxj⟩:∃ x,L[j]?=some x:=⟨L[j]'(by rw[HL.o];omega),List.getElem?_eq_getElem (by rw[HL.o];omega)⟩
   obtain⟨b,rfl,x0,x1⟩:=hx j x hxj
   obtain⟨b',rfl,y0,y1⟩:=hy j x hxj
   clear hx hy hxj
   replace x0:=hk.cell x0 id
   replace x1:=hk.cell x1 id
   replace y0:=hk.cell y0 id
   replace y1:=hk.cell y1 id
   go_wp2_with fail
   go_quiet (fail)
   go_wp2
   refine⟨⟨j+1,by omega,by go_num,hk.then' (Kp.Ah _)⟩,by simp only[intOf];omega⟩
  .have hjl':¬ (j:Int)<len:=by omega
   go_wp2
   go_ret
   exact⟨rfl,hk⟩

end

end

section
open Go.RowKit

theorem ns_one{k:Nat}{ns:List Nat}(h:[(k:Int)]=ns.map (λ g:Nat=>(g:Int))):ns=[k]:=by
 cases ns with
 |nil=>simp at h
 |cons a ns=>
  cases ns with
  |nil=>
   simp at h
   rw[show a=k by omega]
  |cons b ns=>simp at h

theorem objG40{g:Nat}(h:g<3):CL CZ g:=by
 have:g=0\/g=1\/g=2:=by omega
 rcases this with rfl|rfl|rfl
 .exact ⟨⟨0,1,1,1,1⟩,by simp[CZ],rfl,rfl⟩
 .exact ⟨⟨1,1,1,1,1⟩,by simp[CZ],rfl,rfl⟩
 .exact ⟨⟨2,1,1,1,1⟩,by simp[CZ],rfl,rfl⟩

theorem rootsOk40{k:Nat}(h:k<3):GI (CL CZ) [(k:Int)] [k]:=⟨rfl,λ g hg=>by rw[List.mem_singleton.1 hg];exact objG40 h⟩

def Ex40(w:World)(P:Sp)(W:Nat->Nat)(f:Nat->Bool):Prop:=SpaceAt w P W f/\CellsAt P W CZ/\(∀ i,i<P.n/2->f i=Ak CZ i)/\(∀ x∈P.ts,x.m<18446744073709551616)/\AP P.ts W CZ=Dw/\P.n=40

theorem Ex40.Ac{w w':World}{P:Sp}{W:Nat->Nat}{f:Nat->Bool}(h:Ex40 w P W f)(k:Kp Aa w w'):Ex40 w' P W f:=⟨h.1.Ac k,h.2⟩

theorem way40{w:World}{P:Sp}{W:Nat->Nat}{f:Nat->Bool}(h:Ex40 w P W f)(v:Value)(hx:IntsIn w v [((0:Nat):Int)]):
  Calls prog 40 #[.pointer (some P.s),(2:Int),v] w λ e w'=>∃ a c,e=.returned (.tuple #[.slice a 2 c,(0:Int)])/\RowO w' (.slice a 2 c) Dw/\Kp Aa w w':=by
 obtain⟨h1,h2,h3,h4,h5,h6⟩:=h
 refine(WWay_at P W f w CZ h1 h2 h3 h4 ((2:Nat):Int) v _ hx (by simp)).mono ?_
 rw[h5]
 rintro e w' ⟨(⟨ns,D,hr,hd,g,hg,hT,hc⟩|⟨hno,-⟩),k⟩
 .obtain rfl:=ns_one hr.1
  obtain rfl:=hd.uniq dist40
  obtain rfl:g=2:=by omega
  rcases hc with ⟨n,v',hn,rfl,hrow⟩|⟨hn,-⟩
  .have:n=2:=by
    have h0:d40 2=some 2:=rfl
    rw[h0] at hn
    injection hn with hn
    exact hn.symm
   subst this
   rw[show Gz Dw d40 2 2=Dw by decide] at hrow
   obtain⟨a,c,rfl,hcl⟩:=id hrow
   exact⟨a,c,rfl,Gx hrow,k⟩
  .cases hn
 .rcases hno with hno|hno
  .exact absurd ⟨[0],rootsOk40 (by omega)⟩ hno
  .exact absurd ⟨2,rfl,objG40 (by omega)⟩ hno

theorem wayno40{w:World}{P:Sp}{W:Nat->Nat}{f:Nat->Bool}(h:Ex40 w P W f)(v:Value)(hx:IntsIn w v [((1:Nat):Int)]):
  Calls prog 40 #[.pointer (some P.s),(0:Int),v] w (RK (.tuple #[.slice none 0 0,(3:Int)]) w):=by
 obtain⟨h1,h2,h3,h4,h5,h6⟩:=h
 refine(WWay_at P W f w CZ h1 h2 h3 h4 ((0:Nat):Int) v _ hx (by simp)).mono ?_
 rw[h5]
 rintro e w' ⟨(⟨ns,D,hr,hd,g,hg,hT,hc⟩|⟨hno,-⟩),k⟩
 .obtain rfl:=ns_one hr.1
  obtain rfl:g=0:=by omega
  rcases hc with ⟨n,v',hn,rfl,hrow⟩|⟨hn,rfl⟩
  .exact absurd (hd.reach.1 (by rw[hn];rfl)) not40
  .exact ⟨rfl,k⟩
 .rcases hno with hno|hno
  .exact absurd ⟨[1],rootsOk40 (by omega)⟩ hno
  .exact absurd ⟨0,rfl,objG40 (by omega)⟩ hno

theorem waynil40(w:World):Calls prog 40 #[.pointer none,(0:Int),.slice none 0 0] w (RK (.tuple #[.slice none 0 0,(1:Int)]) w):=by
 have HN:=sE (WOf_nil (.slice none 0 0) w)
 go_enter func40,ntmps40
 go_wp2_with fail
 refine HN.o.mono ?_
 rintro e w1 ⟨rfl,k1⟩
 go_wp2
 go_ret2
 exact⟨rfl,k1.alloc _⟩

theorem only40_at{w:World}{P:Sp}{W:Nat->Nat}{f:Nat->Bool}(h:Ex40 w P W f)(v:Value)(hx:IntsIn w v [((0:Nat):Int)]):
  Calls prog 41 #[.pointer (some P.s),(2:Int),v] w λ e w'=>∃ a c,e=.returned (.tuple #[.slice a 1 c,(0:Int)])/\RowO w' (.slice a 1 c) [(1,0,2)]/\Kp Aa w w':=by
 obtain⟨h1,h2,h3,h4,h5,h6⟩:=h
 refine(WOnly_at P W f w CZ h1 h2 h3 h4 ((2:Nat):Int) v _ hx (by simp)).mono ?_
 rw[h5]
 rintro e w' ⟨(⟨ns,hr,g,hg,hT,hc⟩|⟨hno,-⟩),k⟩
 .obtain rfl:=ns_one hr.1
  obtain rfl:g=2:=by omega
  rcases hc with ⟨_,v',rfl,hrow⟩|⟨hn,-⟩
  .rw [only40] at hrow
   obtain⟨a,c,rfl,hcl⟩:=id hrow
   exact⟨a,c,rfl,Gx hrow,k⟩
  .exact absurd ⟨2,steps40.2 ⟨rfl,by omega⟩⟩ hn
 .rcases hno with hno|hno
  .exact absurd ⟨[0],rootsOk40 (by omega)⟩ hno
  .exact absurd ⟨2,rfl,objG40 (by omega)⟩ hno

theorem far40{w:World}{P:Sp}{W:Nat->Nat}{f:Nat->Bool}(h:Ex40 w P W f)(v:Value)(hx:IntsIn w v [((0:Nat):Int)]):
  Calls prog 39 #[.pointer (some P.s),v] w λ e w'=>∃ a c,e=.returned (.tuple #[.slice a 3 c,(0:Int)])/\RowP w' (.slice a 3 c) [(0,0),(1,1),(2,2)]/\Kp Aa w w':=by
 obtain⟨h1,h2,h3,h4,h5,h6⟩:=h
 refine(WFar_at P W f w CZ h1 h2 h3 h4 v _ hx (by simp)).mono ?_
 rw[h5,h6]
 rintro e w' ⟨(⟨ns,hr,hT,v',D,rfl,hd,hrow⟩|⟨hno,-⟩),k⟩
 .obtain rfl:=ns_one hr
  obtain rfl:=hd.uniq dist40
  have hp:=hrow.toP
  rw[show (distL d40 (40/2)).map (λ x=>(x.1.val,x.2))=[(0,0),(1,1),(2,2)] by decide +kernel] at hp
  obtain⟨a,c,rfl,hcl⟩:=id hp
  exact⟨a,c,rfl,hp,k⟩
 .exact absurd ⟨[0],rootsOk40 (by omega)⟩ hno

theorem ints40(w:World)(k:Nat)(hk:k<3)(T:TypeId)(hT:T=3):IntsIn (w.alloc (.cells #[k] T)) (.slice (some ⟨w.heap.size,0,none⟩) 1 1) [(k:Int)]:=by
 subst hT
 exact ints_one (wN w _) (by omega)

theorem rowO40(w:World)(T:TypeId):RowO (w.alloc (.cells #[(0:Int),(0:Int),(1:Int),(1:Int),(0:Int),(2:Int)] T)) (.slice (some ⟨w.heap.size,0,none⟩) 2 2) Dw:=⟨_,_,rfl,λ i x hi=>⟨w.heap.size,0,rfl,lZ (wN w _),by
 have h1:i=0\/i=1:=by
  have:=(gE.1 hi).1
  simp[Dw] at this
  omega
 rcases h1 with rfl|rfl
 .have:x=(0,0,1):=by simpa [Dw] using hi.symm
  subst this
  (simp only[World.cell?,wN w _];exact ⟨rfl,rfl,rfl⟩)
 .have:x=(1,0,2):=by simpa [Dw] using hi.symm
  subst this
  (simp only[World.cell?,wN w _];exact ⟨rfl,rfl,rfl⟩)⟩⟩

theorem rowO41(w:World)(T:TypeId):RowO (w.alloc (.cells #[(1:Int),(0:Int),(2:Int)] T)) (.slice (some ⟨w.heap.size,0,none⟩) 1 1) [(1,0,2)]:=⟨_,_,rfl,λ i x hi=>⟨w.heap.size,0,rfl,lZ (wN w _),by
 have h1:i=0:=by
  have:=(gE.1 hi).1
  simp at this
  omega
 subst h1
 have:x=(1,0,2):=by simpa using hi.symm
 subst this
 (simp only[World.cell?,wN w _];exact ⟨rfl,rfl,rfl⟩)⟩⟩

theorem rowP40(w:World)(T:TypeId):RowP (w.alloc (.cells #[(0:Int),(0:Int),(1:Int),(1:Int),(2:Int),(2:Int)] T)) (.slice (some ⟨w.heap.size,0,none⟩) 3 3) [(0,0),(1,1),(2,2)]:=⟨_,_,rfl,λ i x hi=>⟨w.heap.size,rfl,by
 have h1:i=0\/i=1\/i=2:=by
  have:=(gE.1 hi).1
  simp at this
  omega
 rcases h1 with rfl|rfl|rfl
 .have:x=(0,0):=by simpa using hi.symm
  subst this
  (simp only[World.cell?,wN w _];exact ⟨rfl,rfl⟩)
 .have:x=(1,1):=by simpa using hi.symm
  subst this
  (simp only[World.cell?,wN w _];exact ⟨rfl,rfl⟩)
 .have:x=(2,2):=by simpa using hi.symm
  subst this
  (simp only[World.cell?,wN w _];exact ⟨rfl,rfl⟩)⟩⟩

set_option maxRecDepth 20000 in
theorem alive40(w:World)(hF:Au w):Calls prog 37 #[] w (RK (.bool true) w):=by
 have HF:=sE hF
 clear hF
 go_enter func37,ntmps37
 go_wp2_with fail
 obtain⟨wp,hwp⟩:∃ wp,wp=(w.alloc (.cells steps20 104)).alloc (.cells #[.int .u8 2,(0:Int),.int .u64 0] 106):=⟨_,rfl⟩
 have kp:Kp Aa w wp:=by rw[hwp];exact ((Kr _ w).alloc _).alloc _
 have hb1:wp.heap[w.heap.size]?=some (.cells steps20 104 (0,0)):=by rw[hwp];exact ((Kr Aa _).alloc _).at_ (wN w _) id
 have hb2:wp.heap[w.heap.size+1]?=some (.cells #[.int .u8 2,(0:Int),.int .u64 0] 106 (0,0)):=by
  rw[hwp]
  have:=wN (w.alloc (.cells steps20 104)) (.cells #[.int .u8 2,(0:Int),.int .u64 0] 106)
  rwa [show (w.alloc (.cells steps20 104)).heap.size=w.heap.size+1 by simp] at this
 have HP:=sE (played20 wp (HF.o.Ac kp) w.heap.size (w.heap.size+1) _ _ hb1 hb2)
 have HKp:=sE kp
 unfold steps20 at hwp
 rw[<- hwp]
 clear hwp hb1 hb2 kp
 refine HP.o.mono ?_
 rintro e w1 ⟨P,rb,W,f,rfl,⟨ht,hn⟩,hs,hc,hst,⟨r1,r3,r5⟩,k1⟩
 have HK1:=sE (HKp.o.then' k1)
 have HX:Sl (Ex40 w1 P W f):=⟨⟨hs,hc,hst,by rw[ht];intro x hx;have:=List.mem_singleton.1 hx;subst this;decide,by rw[ht];exact edges20 r1 r3 r5,hn⟩⟩
 have HI:Sl (∀ (W':World) (k:Nat),k<3->IntsIn (W'.alloc (.cells #[.int .i64 (k:Nat)] 3)) (.slice (some ⟨W'.heap.size,0,none⟩) 1 1) [(k:Int)]):=⟨λ W' k hk=>ints40 W' k hk _ rfl⟩
 clear ht hn hs hc hst r1 r3 r5 k1 HP HKp
 go_wp2_with fail
 refine(way40 (HX.o.Ac ((Kr _ _).alloc _)) _ (HI.o w1 0 (by omega))).mono ?_
 rintro e w2 ⟨a2,c2,rfl,hr2,k2⟩
 have K2:Sl (Kp Aa w1 w2):=⟨((Kr _ _).alloc _).then' k2⟩
 have HR2:=sE hr2
 clear hr2 k2
 go_wp2_with fail
 refine(only40_at (HX.o.Ac (K2.o.alloc _)) _ (HI.o w2 0 (by omega))).mono ?_
 rintro e w3 ⟨a3,c3,rfl,hr3,k3⟩
 have K3:Sl (Kp Aa w2 w3):=⟨((Kr _ _).alloc _).then' k3⟩
 have HR3:=sE hr3
 clear hr3 k3
 go_wp2_with fail
 refine(far40 (HX.o.Ac ((K2.o.then' K3.o).alloc _)) _ (HI.o w3 0 (by omega))).mono ?_
 rintro e w4 ⟨a4,c4,rfl,hr4,k4⟩
 have K4:Sl (Kp Aa w3 w4):=⟨((Kr _ _).alloc _).then' k4⟩
 have HR4:=sE hr4
 clear hr4 k4
 go_wp2_with fail
 refine(wayno40 (HX.o.Ac (((K2.o.then' K3.o).then' K4.o).alloc _)) _ (HI.o w4 1 (by omega))).mono ?_
 rintro e w5 ⟨rfl,k5⟩
 have K5:Sl (Kp Aa w4 w5):=⟨((Kr _ _).alloc _).then' k5⟩
 clear k5
 go_wp2_with fail
 refine(waynil40 w5).mono ?_
 rintro e w6 ⟨rfl,k6⟩
 have K6:Sl (Kp Aa w5 w6):=⟨k6⟩
 clear k6
 have HS2:Sl (Calls prog 43 #[.slice a2 2 c2,.slice (some ⟨w6.heap.size,0,none⟩) 2 2] (w6.alloc (.cells #[(0:Int),(0:Int),(1:Int),(1:Int),(0:Int),(2:Int)] 70)) λ e w'=>e=.returned (.bool true)/\Kp Aa (w6.alloc (.cells #[(0:Int),(0:Int),(1:Int),(1:Int),(0:Int),(2:Int)] 70)) w'):=⟨Gt Dw _ _ _ (HR2.o.Ac ((K3.o.then' (K4.o.then' (K5.o.then' K6.o))).alloc _)) (rowO40 w6 _) (by decide)⟩
 go_wp2_with fail
 refine HS2.o.mono ?_
 rintro e w7 ⟨rfl,k7⟩
 have K7:Sl (Kp Aa w6 w7):=⟨((Kr _ _).alloc _).then' k7⟩
 clear k7
 have HS3:Sl (Calls prog 43 #[.slice a3 1 c3,.slice (some ⟨w7.heap.size,0,none⟩) 1 1] (w7.alloc (.cells #[(1:Int),(0:Int),(2:Int)] 70)) λ e w'=>e=.returned (.bool true)/\Kp Aa (w7.alloc (.cells #[(1:Int),(0:Int),(2:Int)] 70)) w'):=⟨Gt [(1,0,2)] _ _ _ (HR3.o.Ac ((K4.o.then' (K5.o.then' (K6.o.then' K7.o))).alloc _)) (rowO41 w7 _) (by simp)⟩
 go_wp2_with fail
 refine HS3.o.mono ?_
 rintro e w8 ⟨rfl,k8⟩
 have K8:Sl (Kp Aa w7 w8):=⟨((Kr _ _).alloc _).then' k8⟩
 clear k8
 have HS4:Sl (Calls prog 46 #[.slice a4 3 c4,.slice (some ⟨w8.heap.size,0,none⟩) 3 3] (w8.alloc (.cells #[(0:Int),(0:Int),(1:Int),(1:Int),(2:Int),(2:Int)] 99)) λ e w'=>e=.returned (.bool true)/\Kp Aa (w8.alloc (.cells #[(0:Int),(0:Int),(1:Int),(1:Int),(2:Int),(2:Int)] 99)) w'):=⟨Same40_yes [(0,0),(1,1),(2,2)] _ _ _ (HR4.o.Ac ((K5.o.then' (K6.o.then' (K7.o.then' K8.o))).alloc _)) (rowP40 w8 _) (by simp)⟩
 go_wp2_with fail
 refine HS4.o.mono ?_
 rintro e w9 ⟨rfl,k9⟩
 have K9:Sl (Kp Aa w8 w9):=⟨((Kr _ _).alloc _).then' k9⟩
 clear k9
 go_wp2
 go_ret
 exact⟨rfl,HK1.o.then' (K2.o.then' (K3.o.then' (K4.o.then' (K5.o.then' (K6.o.then' (K7.o.then' (K8.o.then' K9.o)))))))⟩

end

end Go.Proofs.YtfkedlgpgmaemaaGreatDoor
