/-
  Lemmas for the laws, together: SpacePut, RowsA.
-/
import Derived.Test.YtmfajopmppfldaaGreatDoorQag
import Derived.Test.YtmfajopmppfldaaGreatDoorQaa
import Derived.Stop.RegionWithIn
import Derived.Deep.AppendLies
import Derived.BigQuiet
import Derived.Laws.StructEq
set_option linter.unusedVariables false
set_option maxHeartbeats 16000000
namespace Go.Proofs.YtmfajopmppfldaaGreatDoor
open Tryz
section
open Go.RowKit
attribute [local go_sem] Oper.semAt_some

def cellV(c:Cel):Value:=.agg #[.int .i64 (c.g:Nat),.int .u8 (c.tag:Nat),.int .i64 (c.ty:Nat),.int .i64 (c.ln:Nat),.int .i64 (c.sz:Nat)]

theorem dec_enc{tag ty ln sz:Nat}(h:Am tag ty ln sz=true):CR (Bo tag ty ln sz)=tag/\Ey (Bo tag ty ln sz)=ty/\EO (Bo tag ty ln sz)=ln/\DJ (Bo tag ty ln sz)=sz/\BO (Bo tag ty ln sz)=true:=by
  have h1:CR (Bo tag ty ln sz)=tag:=by rw[CR,Nat.div_one];exact encH_tag h
  have h2:Ey (Bo tag ty ln sz)=ty:=encH_ty h
  have h3:EO (Bo tag ty ln sz)=ln:=encH_ln h
  have h4:DJ (Bo tag ty ln sz)=sz:=encH_sz h
  have h5:gapW (Bo tag ty ln sz)=0:=encH_gap h
  refine⟨h1,h2,h3,h4,?_⟩
  rw[BO,h1,h2,h3,h4,h5,h];rfl

theorem ET(c:Cel)(P:Sp)(W:Nat->Nat)(f:Nat->Bool)(w:World)(h:SpaceAt w P W f)(hg:c.g<P.n/2)(hW:W (2*c.g)=Bo c.tag c.ty c.ln c.sz)(hok:Dh P.ts c):
    Calls prog 49 #[.pointer (some ⟨P.a,0,none⟩),.int .i64 (c.g:Nat)] w λ e w'=>e=.returned (.tuple #[Al (c.tag:Nat) (c.ty:Nat) (c.ln:Nat) (c.sz:Nat),.int .i64 0])/\Kp Ab w w':=by
  have hh:=SHead_at c.g P.a P.q P.n W w h.fl h.ar hg
  obtain⟨d1,d2,d3,d4,d5⟩:=dec_enc hok.1
  rw[hW,d1,d2,d3,d4,d5] at hh
  exact hh.mono λ_ _ hp=>hp

theorem Fits_cell(c:Cel)(P:Sp)(W:Nat->Nat)(f:Nat->Bool)(w:World)(h:SpaceAt w P W f)(hok:Dh P.ts c):
    Calls prog 51 #[.pointer (some ⟨P.t,0,none⟩),Al (c.tag:Nat) (c.ty:Nat) (c.ln:Nat) (c.sz:Nat)] w λ e w'=>e=.returned (.int .i64 0)/\Kp Ab w w':=by
  obtain⟨h1,h2⟩:=hok
  by_cases ht:c.tag=1
  . obtain⟨h3,h4⟩:=h2 ht
    rw[ht] at h1 ⊢
    exact Fits_obj c.ty c.ln c.sz P.t P.tq P.ts w h.fl h.tb h1 h3 h4
  . exact Fits_gap c.tag c.ty c.ln c.sz _ w h.fl h1 (by omega)

theorem cells_fn(P:Sp)(w:World):
    Calls prog 72 #[.pointer (some ⟨P.s,0,none⟩)] w λ e w'=>
      e=.returned (.func (.func 118) #[] #[.pointer (some ⟨w.heap.size,0,none⟩)])/\w.alloc (.cells #[.pointer (some ⟨P.s,0,none⟩)] 27)=w':=by
  have hmf:∀ (fn:Fn) (first cap:Array Value) (w:World),(Instr.makeFunc fn first cap).run prog w=.ok (.func fn first cap) w:=λ _ _ _ _=>rfl
  go_enter func72,ntmps72
  go_wp2
  go_ret
  exact⟨rfl,rfl⟩

variable {Pr:Program} {n:Nat}

theorem CW{o:Oper}{a:Act}{K:Act->World->Prop}{Q:Exit->Act->World->Prop}{l:Nat}{args args':Array Value}{W:World}{T E:World->Prop}
    (h:YieldAt Fence.wide 0 Pr l args W λ e B=>(e=.returned (.bool true)/\T B)\/(e=.returned (.bool false)/\E B)) (e:args'=args)
    (hk:∀ (b:Bool) (B:World),(b=true/\T B)\/(b=false/\E B)->K (a.put o.dst (.bool b)) B):o.uponIn Fence.wide n Pr a K Q ((Instr.yield l args').run Pr W):=
  uponIn_yield2 h e (λ B hB=>hk true B (.inl ⟨rfl,hB⟩)) (λ B hB=>hk false B (.inr ⟨rfl,hB⟩))

set_option maxRecDepth 20000 in
theorem cells_iter3(P:Sp)(W0:Nat->Nat)(f:Nat->Bool)(cs:List Cel)(w:World)(box:Nat)(h:SpaceAt w P W0 f)(hc:CellsAt P W0 cs)(hb:w.heap[box]?=some (.cells #[.pointer (some ⟨P.s,0,none⟩)] 27 (0,0)))
    {R:Nat->Prop} (hR:∀ k,R k->k<w.heap.size/\¬ k=box/\¬ P.all k):
    IterAt3 prog 118 #[.pointer (some ⟨box,0,none⟩)] (λ c=>#[cellV c]) cs Ab R w:=by
  intro l J Jx S0 W hW hl1 hl2 hS hJ hJx hY h0
  have SW:=h.Ad hW
  have bW:=hW.at_ hb (λ h=>h)
  have lb:=lZ hb
  have lall:=h.lt
  have hn:=h.ar.small
  obtain⟨H,hH⟩:∃ H,P.n/2=H:=⟨_,rfl⟩
  have tl:=hc.tl
  have HG:Sl (∀ w',SpaceAt w' P W0 f->Calls prog 42 #[.pointer (some ⟨P.s,0,none⟩)] w' λ e w''=>e=.returned (.int .i64 (H:Nat))/\w''=w'):=⟨λ w' h'=>by rw[<- hH];exact EC P W0 f w' h'⟩
  have HHd:Sl (∀ w',SpaceAt w' P W0 f->∀ c∈cs,c.g<H->Calls prog 49 #[.pointer (some ⟨P.a,0,none⟩),.int .i64 (c.g:Nat)] w' λ e w''=>e=.returned (.tuple #[Al (c.tag:Nat) (c.ty:Nat) (c.ln:Nat) (c.sz:Nat),.int .i64 0])/\Kp Ab w' w''):=
    ⟨λ w' h' c hm hg=>ET c P W0 f w' h' (by omega) (hc.hd c hm) (hc.ok c hm)⟩
  have HFt:Sl (∀ w',SpaceAt w' P W0 f->∀ c∈cs,Calls prog 51 #[.pointer (some ⟨P.t,0,none⟩),Al (c.tag:Nat) (c.ty:Nat) (c.ln:Nat) (c.sz:Nat)] w' λ e w''=>e=.returned (.int .i64 0)/\Kp Ab w' w''):=
    ⟨λ w' h' c hm=>Fits_cell c P W0 f w' h' (hc.ok c hm)⟩
  rw[hH] at tl
  have hH2:H<=32768:=by omega
  clear hH hc hn
  refine(callsIn_wide (n:=0)).1 ?_
  refine callsIn_of_wp func118 rfl trivial ?_
  simp only[ntmps118,List.size_toArray,List.length_cons,List.length_nil,Nat.reduceAdd,Nat.reduceSub,Array.replicate_succ,Array.replicate_zero,List.push_toArray,List.append_toArray,List.nil_append,List.cons_append]
  gi_wp2
  gi_loopw [3,4,5] (λ v3 v4 v5 wr=>∃ (pre rest:List Cel) (g:Nat) (S:Nat->Prop),v3=.int .i64 (g:Nat)/\cs=pre++rest/\Au g rest H/\J pre S wr/\Kp (λ k=>R k\/k=l) W wr)
    (λ v3 v4 v5 wr=>H-(intOf v3).toNat)
  case atStart=>exact ⟨[],cs,0,S0,rfl,rfl,tl,h0,Kr _ _⟩
  case round=>
    obtain⟨pre,rest,g,S,rfl,hcs,ht,hj,kr⟩:=hrel
    have Sr:SpaceAt wr P W0 f:=SW.keep kr (λ i hi hs=>by
      have:=lall i hi
      rcases hs with hs|hs
      . exact(hR i hs).2.2 hi
      . omega)
    have br:wr.heap[box]?=some (.cells #[.pointer (some ⟨P.s,0,none⟩)] 27 (0,0)):=kr.at_ bW (λ hs=>by
      rcases hs with hs|hs
      . exact(hR box hs).2.1 rfl
      . omega)
    have cb:=cell_of_one br
    have HS:=sE Sr
    have CG:=sE (HG.out wr Sr)
    cases rest with
    |nil=>
      obtain rfl:g=H:=ht
      gi_wp2_with fail
      refine⟨trivial,rfl,?_⟩
      refine(callsIn_wide.2 CG.out).mono ?_
      rintro e w' ⟨rfl,rfl⟩
      gi_wp2_with fail
      go_end0
      exact⟨⟨_,rfl⟩,.inl ⟨S,by rw[hcs,List.append_nil];exact hj⟩⟩
    |cons c rest=>
      obtain⟨rfl,hcp,ht'⟩:=ht
      have hle:=ht'.le
      have hmem:c∈cs:=by rw[hcs];simp
      have hg1:(c.g:Int)<(H:Int):=by omega
      obtain⟨s0,s1,s2⟩:=Sr.head
      have CHd:=sE (HHd.out wr Sr c hmem (by omega))
      gi_wp2_with fail
      refine⟨trivial,rfl,?_⟩
      refine(callsIn_wide.2 CG.out).mono ?_
      rintro e w' ⟨rfl,rfl⟩
      gi_wp2_with fail
      refine⟨trivial,rfl,?_⟩
      refine(callsIn_wide.2 CHd.out).mono ?_
      rintro e w1 ⟨rfl,k1⟩
      unfold Al
      obtain⟨w2,hw2⟩:∃ w2,w2=w1.alloc (.cells #[.int .u8 (c.tag:Nat),.int .i64 (c.ty:Nat),.int .i64 (c.ln:Nat),.int .i64 (c.sz:Nat)] 52):=⟨_,rfl⟩
      have k2:Kp Ab w1 w2:=by rw[hw2];exact (Kr _ w1).alloc _
      have b2:w2.heap[w1.heap.size]?=some (.cells #[.int .u8 (c.tag:Nat),.int .i64 (c.ty:Nat),.int .i64 (c.ln:Nat),.int .i64 (c.sz:Nat)] 52 (0,0)):=by rw[hw2];exact wN w1 _
      gi_wp2_with fail
      rw[<- hw2]
      clear hw2
      have KD:Kp Ab w' w2.drew:=(k1.then' k2).drew
      have SD:=Sr.Ad KD
      have bD:=KD.at_ br (λ h=>h)
      have hD:w2.drew.heap[w1.heap.size]?=some (.cells #[.int .u8 (c.tag:Nat),.int .i64 (c.ty:Nat),.int .i64 (c.ln:Nat),.int .i64 (c.sz:Nat)] 52 (0,0)):=b2
      obtain⟨s0,s1,s2⟩:=SD.head
      have cb2:=cell_of_one bD
      have e0:w2.drew.cell? ⟨w1.heap.size,0,none⟩=some (.int .u8 (c.tag:Nat)):=by simp[World.cell?,hD]
      have e1:w2.drew.cell? ⟨w1.heap.size,1,none⟩=some (.int .i64 (c.ty:Nat)):=by simp[World.cell?,hD]
      have e2:w2.drew.cell? ⟨w1.heap.size,2,none⟩=some (.int .i64 (c.ln:Nat)):=by simp[World.cell?,hD]
      have e3:w2.drew.cell? ⟨w1.heap.size,3,none⟩=some (.int .i64 (c.sz:Nat)):=by simp[World.cell?,hD]
      have CF:=HFt.out w2.drew SD c hmem
      unfold Al at CF
      have CFs:=sE CF
      have HSD:=sE SD
      have HhD:=sE hD
      clear CF SD hD b2 CG CHd HS
      have hd1:decide ((H:Int)-(c.g:Int)<(c.sz:Int))=false:=dF (by omega)
      have hwr:IntKind.i64.wrap ((H:Int)-(c.g:Int))=(H:Int)-(c.g:Int):=by rw[IntKind.wrap_i64];omega
      have hneR:∀ k,S k\/k=l->¬ k=w1.heap.size:=by
        intro k hk
        have z1:=hW.size
        have z2:=kr.size
        have z3:=k1.size
        rcases hk with hk|hk
        . have:=(hS pre S _ hj k hk).2
          omega
        . omega
      have hSR:∀ i,i<W.heap.size->(S i\/i=l)->(R i\/i=l):=by
        intro i hi h
        rcases h with h|h
        . rcases (hS pre S _ hj i h).1 with h|h
          . exact .inl h
          . omega
        . exact .inr h
      gi_region_with (first
        |(refine ⟨trivial,rfl,?_⟩)
        | (gi_at_call 51;refine (callsIn_wide.2 CFs.out).mono ?_;rintro e w3 ⟨rfl,k3⟩
           have S3:=HSD.out.Ad k3
           have h3:=k3.at_ HhD.out (λ h=>h)
           obtain⟨s0',s1',s2'⟩:=S3.head
           have cb3:=k3.cell cb2 (λ h=>h)
           have e0':=k3.cell e0 (λ h=>h)
           have e1':=k3.cell e1 (λ h=>h)
           have e2':=k3.cell e2 (λ h=>h)
           have e3':=k3.cell e3 (λ h=>h)
           have CG3:=sE (HG.out w3 S3)
           have J3:=hJ _ _ _ _ hj (KD.then' k3)
           have HY3:=sE (hY pre S c rest w3 hcs J3)
           have Hh3:=sE h3
           clear S3 h3 J3)
        |(gi_at_call 42;refine (callsIn_wide.2 CG3.out).mono ?_;rintro e w' ⟨rfl,rfl⟩)
        |(refine CW HY3.out rfl ?_;intro b B hB))
      all_goals
        rcases hB with ⟨rfl,hk,S',hT⟩|⟨rfl,hE⟩
        . have hB3:=hk.at_ Hh3.out (λ hs=>hneR _ hs rfl)
          have d3:B.cell? ⟨w1.heap.size,3,none⟩=some (.int .i64 (c.sz:Nat)):=by simp[World.cell?,hB3]
          have KB:=(kr.trans KD (λ _ _ h=>h.elim)).trans k3 (λ _ _ h=>h.elim)
          have KB2:=KB.trans hk hSR
          gi_wp2_with fail
          exact⟨⟨pre++[c],rest,c.g+c.sz,S',by simp,by rw[hcs,List.append_assoc];rfl,ht',hT,KB2⟩,by simp only[intOf];omega⟩
        . gi_wp2_with fail
          refine bodyPost_ret (results_none rfl _ _ _) rfl ?_
          exact⟨⟨_,rfl⟩,.inr ⟨_,⟨_,by rw[hcs,List.append_assoc];rfl⟩,hE⟩⟩

theorem cells_iter(P:Sp)(W0:Nat->Nat)(f:Nat->Bool)(cs:List Cel)(w:World)(box:Nat)(h:SpaceAt w P W0 f)(hc:CellsAt P W0 cs)(hb:w.heap[box]?=some (.cells #[.pointer (some ⟨P.s,0,none⟩)] 27 (0,0)))
    {R X:Nat->Prop} (hR:∀ k,R k->k<w.heap.size/\¬ k=box/\¬ P.all k):
    IterAt2 prog 118 #[.pointer (some ⟨box,0,none⟩)] (λ c=>#[cellV c]) cs Ab R X w:=
  (cells_iter3 P W0 f cs w box h hc hb hR).two (λ k hk=>(hR k hk).1)

end

section
open Go.RowKit
attribute [local go_sem] Oper.semAt_some

def Aw(w:World)(P:Sp)(W:Nat->Nat)(cs:List Cel):Prop:=∃ f,SpaceAt w P W f/\CellsAt P W cs/\∀ i,i<P.n/2->f i=Aq cs i

def SpaceHas(w:World)(P:Sp)(cs:List Cel):Prop:=∃ W,Aw w P W cs

theorem Aw.keep{S:Nat->Prop}{w w':World}{P:Sp}{W:Nat->Nat}{cs:List Cel}(h:Aw w P W cs)(k:Kp S w w')(hS:∀ i,P.all i->¬ S i):Aw w' P W cs:=
  let ⟨f,a,b,c⟩:=h;⟨f,a.keep k hS,b,c⟩

theorem Aw.Ad{w w':World}{P:Sp}{W:Nat->Nat}{cs:List Cel}(h:Aw w P W cs)(k:Kp Ab w w'):Aw w' P W cs:=h.keep k (λ _ _ h=>h)

theorem Be{w w':World}{p:Addr}{v:Value}(h:Kp Ab w w')(c:w.cell? p=some v):w'.cell? p=some v:=h.cell c (λ h=>h)

theorem Kp.Az{w w':World}(h:Kp Ab w w'){b j:Nat}(hb:w.heap.size<=b)(v:Value):Kp Ab w (w'.setCell ⟨b,j,none⟩ v):=
  h.setCell (λ hlt=>by have:b<w.heap.size:=hlt;omega) v

theorem KU{w w':World}(h:Kp Ab w w':=by repeat (first|assumption|exact Kr _ _|refine Kp.drew ?_|refine Kp.alloc ?_ _|refine Kp.Az ?_ (by omega) _)):Kp Ab w w':=h

def PutPostW(P:Sp)(cs:List Cel)(W:Nat->Nat)(g id n:Int)(w:World)(e:Ending)(w':World):Prop:=
  e=.returned (.int .i64 (DX P.ts (P.n/2) cs g id n))/\Kp P.own w w'/\
    ((¬ DX P.ts (P.n/2) cs g id n=0/\Aw w' P W cs)\/
     (DX P.ts (P.n/2) cs g id n=0/\∃ (pre:List Cel) (c:Cel) (post:List Cel) (j i l S:Nat),cs=pre++c::post/\¬ c.tag=1/\g=(j:Nat)/\id=(i:Nat)/\n=(l:Nat)/\Bq P.ts id n=(S:Nat)/\
        c.g<=j/\j+S<=c.fin/\0<S/\Aw w' P (putW W c j i l S) (putL pre c post j i l S)))

set_option maxRecDepth 20000 in
theorem Put_err(g id n:Int)(P:Sp)(cs:List Cel)(w:World)(W:Nat->Nat)(h:Aw w P W cs)(he:¬ AY P.ts id n=0):
    Calls prog 83 #[.pointer (some ⟨P.s,0,none⟩),.int .i64 g,.int .i64 id,.int .i64 n] w (PutPostW P cs W g id n w):=by
  have hR:Sl (DX P.ts (P.n/2) cs g id n=AY P.ts id n):=⟨by rw[DX,if_pos he]⟩
  have HO:Sl (∀ W' W0 f0,SpaceAt W' P W0 f0->Calls prog 102 #[.pointer (some ⟨P.t,0,none⟩),.int .i64 id,.int .i64 n] W' λ e w'=>e=.returned (.tuple #[.agg #[.int .u8 0,.int .i64 0,.int .i64 0,.int .i64 0],.int .i64 (AY P.ts id n)])/\Kp Ab W' w'):=
    ⟨λ W' _ _ h'=>(ED id n P.t P.tq P.ts W' h'.tb).mono λ e w' hp=>by rw[BG,if_neg he] at hp;exact hp⟩
  obtain⟨E,hE⟩:∃ E,AY P.ts id n=E:=⟨_,rfl⟩
  rw[hE] at HO hR
  have he':¬ E=0:=by rw[<- hE];exact he
  have hb:(E !=0)=true:=by simpa using he'
  clear he hE
  obtain⟨f,hs,hc,hst⟩:=h
  have HSs:=sE hs
  have HCs:=sE hc
  have HSt:=sE hst
  obtain⟨w5,hw5⟩:∃ w5,w5=((((w.alloc (.cells #[.pointer (some ⟨P.s,0,none⟩)] 27)).alloc (.cells #[.int .i64 g] 3)).alloc (.cells #[.int .i64 id] 3)).alloc (.cells #[.int .i64 n] 3)).alloc (.cells #[.int .i64 0] 37):=⟨_,rfl⟩
  have k5:Kp Ab w w5:=by rw[hw5];exact (((((Kr _ w).alloc _).alloc _).alloc _).alloc _).alloc _
  have z5:Sl (w5.heap.size=w.heap.size+1+1+1+1+1):=⟨by rw[hw5];simp⟩
  have g0:w5.heap[w.heap.size]?=some (.cells #[.pointer (some ⟨P.s,0,none⟩)] 27 (0,0)):=by
    rw[hw5];exact ((((Kr Ab _).alloc _).alloc _).alloc _ |>.alloc _).at_ (wN w _) (λ h=>h)
  have g1:w5.heap[w.heap.size+1]?=some (.cells #[.int .i64 g] 3 (0,0)):=by
    rw[hw5];exact (((Kr Ab _).alloc _).alloc _ |>.alloc _).at_ (Bc _ _ (by simp)) (λ h=>h)
  have g2:w5.heap[w.heap.size+1+1]?=some (.cells #[.int .i64 id] 3 (0,0)):=by
    rw[hw5];exact ((Kr Ab _).alloc _ |>.alloc _).at_ (Bc _ _ (by simp)) (λ h=>h)
  have g3:w5.heap[w.heap.size+1+1+1]?=some (.cells #[.int .i64 n] 3 (0,0)):=by
    rw[hw5];exact ((Kr Ab _).alloc _).at_ (Bc _ _ (by simp)) (λ h=>h)
  have g4:w5.heap[w.heap.size+1+1+1+1]?=some (.cells #[.int .i64 0] 37 (0,0)):=by
    rw[hw5];exact Bc _ _ (by simp)
  have S5:=hs.Ad k5
  have HB:=sE (And.intro g0 (And.intro g1 (And.intro g2 (And.intro g3 g4))))
  have c0:=cell_of_one g0
  have c1:=cell_of_one g1
  have c2:=cell_of_one g2
  have c3:=cell_of_one g3
  have c4:=cell_of_one g4
  have f4:=free_of_one g4
  obtain⟨s0,s1,s2⟩:=S5.head
  have HS5:=sE S5
  have lts:=hs.lt P.s (by simp[Sp.all])
  clear hs hc hst S5 g0 g1 g2 g3 g4
  refine(callsIn_wide (n:=0)).1 ?_
  refine callsIn_of_wp_marks func83 rfl trivial ?_
  simp only[ntmps83,List.size_toArray,List.length_cons,List.length_nil,Nat.reduceAdd,Nat.reduceSub,Array.replicate_succ,Array.replicate_zero,List.push_toArray,List.append_toArray,List.nil_append,List.cons_append]
  gi_wp2_with fail
  try rw[<- hw5]
  clear hw5
  gi_wp2_with fail
  refine wpIn_wide.2 ?_
  go_region_held3 (λ w'=>w'.cell? ⟨w.heap.size,0,none⟩=some (.pointer (some ⟨P.s,0,none⟩))/\w'.cell? ⟨w.heap.size+1+1,0,none⟩=some (.int .i64 id)/\w'.cell? ⟨w.heap.size+1+1+1,0,none⟩=some (.int .i64 n)/\w'.cell? ⟨P.s,1,none⟩=some (.pointer (some ⟨P.t,0,none⟩)))
    (exact ⟨Be KU c0,Be KU c2,Be KU c3,Be KU s1⟩)
    (first
      | (go_at_call 102;with_reducible refine(HO.out w5.drew W f (HS5.out.Ad (Kr Ab _).drew)).mono ?_;rintro e w6 ⟨rfl,k6⟩
         have KK:Kp Ab w5 w6:=(Kr Ab w5).drew.then' k6
         have KS:=KK.size)
      | (go_at_call 102;with_reducible refine(HO.out (w5.alloc (.cells #[.int .u8 0,.int .i64 0,.int .i64 0,.int .i64 0] 52)).drew W f (HS5.out.Ad ((Kr Ab _).alloc _).drew)).mono ?_;rintro e w6 ⟨rfl,k6⟩
         have KK:Kp Ab w5 w6:=((Kr Ab w5).alloc _).drew.then' k6
         have KS:=KK.size
         have B6:=k6.at_ (show (w5.alloc (.cells #[.int .u8 0,.int .i64 0,.int .i64 0,.int .i64 0] 52)).drew.heap[w5.heap.size]?=_ from wN w5 _) (λ h=>h)
         have fb0:=Ae B6 0
         have fb1:=Ae B6 1
         have fb2:=Ae B6 2
         have fb3:=Ae B6 3
         have db0:w6.cell? ⟨w5.heap.size,0,none⟩=some (.int .u8 0):=by simp[World.cell?,B6]
         have db1:w6.cell? ⟨w5.heap.size,1,none⟩=some (.int .i64 0):=by simp[World.cell?,B6]
         have db2:w6.cell? ⟨w5.heap.size,2,none⟩=some (.int .i64 0):=by simp[World.cell?,B6]
         have db3:w6.cell? ⟨w5.heap.size,3,none⟩=some (.int .i64 0):=by simp[World.cell?,B6]
         have HB6:=sE B6
         clear B6))
  all_goals
    first
      | (generalize hwz:World.setCell _ _ _=wz
         have kz:Kp Ab w5 wz:=by rw[<- hwz];(repeat (first|assumption|exact Kr _ _|refine Kp.drew ?_|refine Kp.alloc ?_ _|refine Kp.Az ?_ (by omega) _))
         clear hwz)
      | (generalize hwz:World.alloc _ _=wz
         have kz:Kp Ab w5 wz:=by rw[<- hwz];(repeat (first|assumption|exact Kr _ _|refine Kp.drew ?_|refine Kp.alloc ?_ _|refine Kp.Az ?_ (by omega) _))
         clear hwz)
    replace c4:=kz.cell c4 (λ h=>h)
    have f4:=free_of_one (kz.at_ HB.out.2.2.2.2 (λ h=>h))
    gi_wp2_with fail
    have kq:Kp (λ i=>i=w.heap.size+1+1+1+1) wz (wz.setCell ⟨w.heap.size+1+1+1+1,0,none⟩ (.int .i64 E)):=(Kr (λ i=>i=w.heap.size+1+1+1+1) wz).setCell (λ _=>rfl) _
    have e4:=cell_of_one (one_setCell (u:=.int .i64 E) (kz.at_ HB.out.2.2.2.2 (λ h=>h)))
    have kk:Kp Ab w wz:=k5.then' kz
    refine⟨.int .i64 E,by simp[results,results83,go_sem,e4],by rw[hR.out],(kk.Ak P.own).trans kq (λ i hi h=>by omega),.inl ⟨by rw[hR.out];exact he',?_⟩⟩
    refine Aw.keep ⟨f,HSs.out.Ad kk,HCs.out,HSt.out⟩ kq (λ i hi h=>by have:=HSs.out.lt i hi;omega)

end

section
open Go.RowKit
attribute [local go_sem] Oper.semAt_some

def BV:List Cel->List Value
 |[]=>[]
 |c::cs=>.int .i64 (c.g:Nat)::.int .u8 (c.tag:Nat)::.int .i64 (c.ty:Nat)::.int .i64 (c.ln:Nat)::.int .i64 (c.sz:Nat)::BV cs

theorem flatC_append:∀ (xs ys:List Cel),BV (xs++ys)=BV xs++BV ys
 |[],ys=>rfl
 |x::xs,ys=>by simp[BV,flatC_append xs ys]

theorem BD:∀ {xs:List Cel} {a b:Nat},Au a xs b->xs.length<=b-a
 |[],a,b,h=>Nat.zero_le _
 |c::xs,a,b,⟨h1,h2,h3⟩=>by
  have:=BD h3
  have:=h3.le
  simp only[List.length_cons]
  omega

theorem Ez:prog.underlying 40=some (.slice 71):=by kernel_rfl

theorem infoCell:(prog.info? 71).map (λ i=>(i.zero,i.size,i.bytes))=some (some (.agg #[.int .i64 0,.int .u8 0,.int .i64 0,.int .i64 0,.int .i64 0]),5,40):=by kernel_rfl

variable {Pr:Program}

theorem BF{ops:Array Oper}{Q:Exit->Act->World->Prop}{n r:Nat}(hq:∀ a w,¬ Q .outgrown a w):∀ (l:List Oper) (a:Act) (w:World),DV l.toArray=true->wpList Pr ops Q l a w->wpListIn (Fence.wide.inRound r) n Pr ops Q l a w
 |[],_,_,_,h=>h
 |o::l,a,w,hd,h=>by
  have hdo:∀ c,o.op≠.defer c:=noDefers_spec (ops:=(o::l).toArray) hd (i:=0) (o:=o) (by simp)
  have hdl:DV l.toArray=true:=by
   simp only[DV,List.all_toArray,List.all_cons,Bool.and_eq_true] at hd ⊢
   exact hd.2
  simp only[wpList] at h
  simp only[wpListIn]
  split
  .rename_i hw
   simp only[hw,if_true] at h
   rcases h with h|⟨_,a',w',h⟩
   .exact Oper.wpIn_of_wp hdo (Oper.wp_mono (λ a' w'=>BF hq l a' w' hdl) h)
   .exact (hq _ _ h).elim
  .rename_i hw
   simp only[hw] at h
   exact⟨λ _ _=>trivial,BF hq l _ w hdl h⟩

theorem Ai{S:Nat->Prop}{w w':World}{base:Nat}{e:TypeId}{size:Nat}{v:Value}{n:Nat}{xs:List Value}(h:w.ownsRow base e size v n xs)(k:Kp S w w')(hs:∀ b,v.ownBlock=some b->¬ S b):w'.ownsRow base e size v n xs:=by
 obtain⟨h1,h⟩:=h
 refine⟨h1,?_⟩
 rcases h with h|⟨g,cap,cur,rfl,h2,h3,h4⟩
 .exact .inl h
 .exact .inr ⟨g,cap,cur,rfl,h2,k.at_ h3 (hs g rfl),h4⟩

theorem Af{w:World}{base:Nat}{e:TypeId}{size:Nat}{v:Value}{n:Nat}{xs:List Value}(h:w.ownsRow base e size v n xs){b:Nat}(hb:v.ownBlock=some b):base<=b/\b<w.heap.size:=by
 obtain⟨h1,h⟩:=h
 rcases h with ⟨rfl,_⟩|⟨g,cap,cur,rfl,h2,h3,h4⟩
 .cases hb
 .obtain rfl:g=b:=by simpa [Value.ownBlock] using hb
  exact⟨h2,lZ h3⟩

theorem ownsRow_less{w:World}{base base':Nat}{e:TypeId}{size:Nat}{v:Value}{n:Nat}{xs:List Value}(h:w.ownsRow base e size v n xs)(hb:base'<=base):w.ownsRow base' e size v n xs:=by
 obtain⟨h1,h⟩:=h
 refine⟨h1,?_⟩
 rcases h with h|⟨g,cap,cur,rfl,h2,h3⟩
 .exact .inl h
 .exact .inr ⟨g,cap,cur,rfl,Nat.le_trans hb h2,h3⟩

def CellsI(b:Nat)(wl:World)(pre:List Cel)(S:Nat->Prop)(W':World):Prop:=
 ∃ v,W'.heap[b]?=some (.cells #[v] 40 (0,0))/\W'.ownsRow (wl.heap.size+2) 71 5 v pre.length (BV pre)/\S=(λ k=>k=b\/v.ownBlock=some k)/\Kp (λ k=>k=b) wl W'

set_option maxRecDepth 20000 in
theorem Cells_at(P:Sp)(cs:List Cel)(w:World)(h:SpaceHas w P cs):
  Calls prog 32 #[.pointer (some ⟨P.s,0,none⟩)] w λ e w'=>∃ v,e=.returned v/\w'.ownsRow w.heap.size 71 5 v cs.length (BV cs)/\Kp Ab w w':=by
 obtain⟨W,f,hs,hc,hst⟩:=h
 have HSs:=sE hs
 have HCs:=sE hc
 have lts:=hs.lt P.s (by simp[Sp.all])
 have lw:=hs.lt
 have hlen:cs.length<=32768:=by
  have:=BD hc.tl
  have:=hs.ar.small
  omega
 clear hs hc hst
 refine(callsIn_wide (n:=0)).1 ?_
 refine callsIn_of_wp_marks func32 rfl trivial ?_
 simp only[ntmps32,List.size_toArray,List.length_cons,List.length_nil,Nat.reduceAdd,Nat.reduceSub,Array.replicate_succ,Array.replicate_zero,List.push_toArray,List.append_toArray,List.nil_append,List.cons_append]
 gi_wp2_with fail
 refine⟨trivial,rfl,?_⟩
 obtain⟨w1,hw1⟩:∃ w1,w1=w.alloc (.cells #[.slice none 0 0] 40):=⟨_,rfl⟩
 rw[<- hw1]
 have k1:Kp Ab w w1:=by rw[hw1];exact (Kr _ w).alloc _
 have z1:w1.heap.size=w.heap.size+1:=by rw[hw1];simp
 have b1:w1.heap[w.heap.size]?=some (.cells #[.slice none 0 0] 40 (0,0)):=by rw[hw1];exact wN w _
 clear hw1
 refine(callsIn_wide.2 (cells_fn P w1)).mono ?_
 rintro e wl ⟨rfl,hwl⟩
 have hzl:wl.heap.size=w1.heap.size+1:=by rw[<- hwl];simp
 have kl:Kp Ab w1 wl:=by rw[<- hwl];exact (Kr _ w1).alloc _
 have gbx:wl.heap[w1.heap.size]?=some (.cells #[.pointer (some ⟨P.s,0,none⟩)] 27 (0,0)):=by rw[<- hwl];exact wN w1 _
 clear hwl
 have KL:Kp Ab w wl:=k1.then' kl
 have SL:=HSs.out.Ad KL
 have bl1:=kl.at_ b1 (λ h=>h)
 rw[z1] at gbx hzl
 gi_wp2_with fail
 refine wpIn_range3 (n:=0) (gf:=118) (lb:=#[.pointer (some ⟨w.heap.size+1,0,none⟩)]) rfl (enters_of func118 (by kernel_rfl) rfl)
  (cells_iter3 P W f cs wl (w.heap.size+1) SL HCs.out gbx (R:=λ k=>k=w.heap.size) (λ k hk=>by subst hk;exact ⟨by omega,by omega,λ h=>by have:=lw _ h;omega⟩)) (λ k hk=>hk.elim) (λ k hk=>by omega)
  (X:=λ _=>False) (λ k hk=>hk.elim) (λ _=>rfl)
  (λ pre S W'=>CellsI w.heap.size wl pre S W') (λ c pre W'=>False) (λ k=>k=w.heap.size\/(Value.slice none 0 0).ownBlock=some k) ?hS ?hI ?hIx ?h0 ?hround ?hdone ?hstop
 case hS=>
  rintro pre S A ⟨v,a1,a2,rfl,a4⟩ k hk
  rcases hk with hk|hk
  .exact ⟨.inl hk,by have:=lZ a1;omega⟩
  .have:=Af a2 hk
   exact⟨.inr this.1,this.2⟩
 case hI=>
  rintro pre S A B ⟨v,a1,a2,a3,a4⟩ hk
  exact⟨v,hk.at_ a1 (λ h=>by rcases h with h|h|h;exact h;omega;omega),Ai a2 hk (λ b hb h=>by have:=Af a2 hb;rcases h with h|h|h;exact h;omega;omega),a3,
   a4.trans hk (λ b hb h=>by rcases h with h|h|h;exact h.elim;omega;omega)⟩
 case hIx=>exact λ c pre A B h hk=>h
 case h0=>exact ⟨_,bl1,World.ownsRow_nil wl _ _ _,rfl,Kr _ _⟩
 case hround=>
  rintro pre S x rest W' hx ⟨v,a1,a2,a3,a4⟩ hs
  have hpl:pre.length+1<=cs.length:=by rw[hx];simp
  unfold cellV
  gi_wp2_with fail
  refine⟨(Kr _ W').alloc _,?_⟩
  intro W2 hc2 hf2 hk2 hs2 hr2
  have kW:Kp Ab W' (W'.alloc (.cells #[.int .i64 (x.g:Nat),.int .u8 (x.tag:Nat),.int .i64 (x.ty:Nat),.int .i64 (x.ln:Nat),.int .i64 (x.sz:Nat)] 71)):=(Kr _ W').alloc _
  have bc:=hk2.at_ (wN W' (.cells #[.int .i64 (x.g:Nat),.int .u8 (x.tag:Nat),.int .i64 (x.ty:Nat),.int .i64 (x.ln:Nat),.int .i64 (x.sz:Nat)] 71)) (by omega)
  have lW:=lZ a1
  have zW2:W2.heap.size=W'.heap.size+1:=by rw[hs2];simp
  have own1:(W2).ownsRow (wl.heap.size+2) 71 5 v pre.length (BV pre):=Ai (Ai a2 kW (λ b hb h=>h)) hk2 (λ b hb h=>by have:=Af a2 hb;omega)
  have r0:=hk2.at_ (kW.at_ a1 (λ h=>h)) (by omega)
  have c0:=cell_of_one r0
  have fr0:=free_of_one r0
  have d0:W2.cell? ⟨W'.heap.size,0,none⟩=some (.int .i64 (x.g:Nat)):=by simp[World.cell?,bc]
  have d1:W2.cell? ⟨W'.heap.size,1,none⟩=some (.int .u8 (x.tag:Nat)):=by simp[World.cell?,bc]
  have d2:W2.cell? ⟨W'.heap.size,2,none⟩=some (.int .i64 (x.ty:Nat)):=by simp[World.cell?,bc]
  have d3:W2.cell? ⟨W'.heap.size,3,none⟩=some (.int .i64 (x.ln:Nat)):=by simp[World.cell?,bc]
  have d4:W2.cell? ⟨W'.heap.size,4,none⟩=some (.int .i64 (x.sz:Nat)):=by simp[World.cell?,bc]
  have HR0:=sE r0
  have HOW:=sE own1
  have HA2:=sE a2
  have HA4:=sE a4
  have HZ2:=sE zW2
  have lbW2:W'.heap.size<W2.heap.size:=by omega
  have lrW2:w.heap.size<W2.heap.size:=by omega
  obtain⟨i0,hi,hz0,hz1,hz2⟩:=info_parts infoCell
  have HNW:Sl (¬ v.ownBlock=some w.heap.size):=⟨λ e=>by have:=Af own1 e;omega⟩
  clear r0 own1 a2 a4 zW2 bc hs2 hc2 hf2 a1
  refine wpIn_block ?_
  refine wpIn_region_lit ?_
  refine BF (λ _ _ h=>h) _ _ _ (by kernel_rfl) ?_
  go_wp2_with (at_builtin;go_loud (refine wpList_append_lies _ rfl (.tmp 9) (.tmp 11) 40 rfl (wl.heap.size+2) 71 i0 (.agg #[.int .i64 0,.int .u8 0,.int .i64 0,.int .i64 0,.int .i64 0]) 5 40 Ez hi hz0 hz1 hz2 rfl (by omega) v pre.length (BV pre) rfl (Kp.owns (S:=Ab) (a:=W2) KU HOW.out (λ b hb h=>h)) ⟨W2.heap.size,0,none⟩ 1 1 [.int .i64 (x.g:Nat),.int .u8 (x.tag:Nat),.int .i64 (x.ty:Nat),.int .i64 (x.ln:Nat),.int .i64 (x.sz:Nat)] rfl rfl (World.news_of_block (wN W2 _)) (by simp[Value.oneCell']) (by omega) (by unfold maxLen;omega) (by omega) (by simp;omega) _ rfl ?_);intro g cap w3 hown hgrow hat hlt;have KA:Kp (λ b=>v.ownBlock=some b) W2 w3:=((by (repeat (first|assumption|exact Kr _ _|refine Kp.drew ?_|refine Kp.alloc ?_ _|refine Kp.Az ?_ (by omega) _)):Kp Ab W2 _).Ak (λ b=>v.ownBlock=some b)).grown hgrow (λ k e _=>e);have r3:=KA.at_ HR0.out HNW.out;have c3:=cell_of_one r3;have fr3:=free_of_one r3;have HR3:=sE r3;clear r3)
  subst a3
  have KB:Kp (λ b=>b=w.heap.size) w3 (w3.setCell ⟨w.heap.size,0,none⟩ (.slice (some ⟨g,0,none⟩) (pre.length+1) cap)):=(Kr (λ b=>b=w.heap.size) w3).setCell (λ _=>rfl) _
  refine⟨(KA.mono λ b hb h=>.inr h).trans KB (λ b hb h=>.inl h),_,.slice (some ⟨g,0,none⟩) (pre.length+1) cap,one_setCell HR3.out,?_,rfl,?_⟩
  .rw [flatC_append,List.length_append]
   exact Ai hown KB (λ b hb h=>by have:=Af hown hb;omega)
  .exact (((HA4.out.trans kW (λ b hb h=>h.elim)).trans hk2 (λ b hb h=>by omega)).trans KA (λ b hb h=>by have:=Af HOW.out h;omega)).trans KB (λ b hb h=>h)
 case hdone=>
  rintro S W' ⟨v,a1,a2,a3,a4⟩ hs hD
  obtain⟨va,vn,vc,hv⟩:∃ va vn vc,v=.slice va vn vc:=by
   rcases a2.2 with ⟨h,_⟩|⟨g,cap,cur,h,_⟩
   .exact ⟨_,_,_,h⟩
   .exact ⟨_,_,_,h⟩
  subst hv
  have c0:=cell_of_one a1
  have fr0:=free_of_one a1
  have HA1:=sE a1
  have HA2:=sE a2
  have HA4:=sE a4
  clear a1 a2 a3 a4
  gi_wp2_with fail
  obtain⟨w4,hw4⟩:∃ w4,w4=W'.setCell ⟨w.heap.size,0,none⟩ (.slice va vn vc):=⟨_,rfl⟩
  rw[<- hw4]
  have KB:Kp (λ b=>b=w.heap.size) W' w4:=by rw[hw4];exact (Kr (λ b=>b=w.heap.size) W').setCell (λ _=>rfl) _
  have b4:w4.heap[w.heap.size]?=some (.cells #[.slice va vn vc] 40 (0,0)):=by rw[hw4];exact one_setCell HA1.out
  clear hw4
  refine⟨by simp,.inl ⟨_,_,rfl,run_takeDeferred (KB.at_ hD (by omega)),?_⟩⟩
  have kE:Kp (λ b=>b=wl.heap.size) w4 (w4.putObj wl.heap.size (.deferred none)):=(Kr (λ b=>b=wl.heap.size) w4).putObj (λ _=>rfl) _
  have e4:=cell_of_one (kE.at_ b4 (by omega))
  refine⟨.slice va vn vc,by simp[results,results32,go_sem,e4],_,rfl,?_,?_⟩
  .refine ownsRow_less (Ai (Ai HA2.out KB (λ b hb h=>?_)) kE (λ b hb h=>?_)) (by omega)
   .have:=Af HA2.out hb;omega
   .have:=Af HA2.out hb;omega
  .exact (((KL.trans HA4.out (λ b hb h=>by omega)).trans KB (λ b hb h=>by omega)).trans kE (λ b hb h=>by omega))
 case hstop=>exact λ c pre W' hp h=>h.elim

end

section
open Go.RowKit

theorem Fz(P:Sp)(W:Nat->Nat)(f:Nat->Bool)(w:World)(h:SpaceAt w P W f):
  Calls prog 22 #[.pointer (some ⟨P.s,0,none⟩)] w λ e w'=>
   ∃ p q,e=.returned (.pointer (some ⟨p,0,none⟩))/\w.heap.size<=p/\w.heap.size<=q/\AJ w' p q f (P.n/2)/\Kp Ab w w':=by
 obtain⟨c0,c1,c2⟩:=h.head
 have hb:=h.bt
 generalize P.n/2=H at hb
 clear h
 go_enter func22,ntmps22
 go_wp2_with fail
 refine(Copy_at H P.b P.bq f w hb).mono ?_
 rintro e w1 ⟨p,q,rfl,hp,hq,b1,k1⟩
 go_wp2
 go_ret
 exact⟨p,q,rfl,hp,hq,b1,k1⟩

theorem AJ.ne'{w:World}{p q n:Nat}{f:Nat->Bool}(h:AJ w p q f n):¬ p=q:=by
 obtain⟨ws,hw,_⟩:=h;exact hw.ne

def MadeSpaceW(w:World)(t tq n:Nat)(ts:List TypR)(e:Ending)(w':World):Prop:=
 ∃ P:Sp,P.t=t/\P.tq=tq/\P.ts=ts/\P.n=n/\e=.returned (.tuple #[.pointer (some ⟨P.s,0,none⟩),.int .i64 0])/\Aw w' P (AZ (λ _=>0) 0 (n/2)) (gapL 0 (n/2))/\(∀ k,P.own k->w.heap.size<=k)/\w.heap.size<=P.s/\w.heap.size<=P.b/\Kp Ab w w'

theorem ArenaAt.ne_'{w:World}{a q n:Nat}{W:Nat->Nat}(h:ArenaAt w a q W n):¬ a=q:=h.ne

theorem SNew_yesW(n t tq:Nat)(ts:List TypR)(w:World)(hT:TableAt w t tq ts)(hF:Av w)(ht:t<w.heap.size)(htq:tq<w.heap.size)(h1:16<=n)(h2:n<=65536)(h3:n%2=0):
  Calls prog 81 #[.int .i64 (n:Nat),.pointer (some ⟨t,0,none⟩)] w (MadeSpaceW w t tq n ts):=by
 have hq:Sl (((n:Nat):Int)/2=((n/2:Nat):Int)):=⟨by omega⟩
 have hq':Sl (((n:Nat):Int).tdiv 2=((n/2:Nat):Int)):=⟨by rw[Int.tdiv_eq_ediv_of_nonneg (by omega)];omega⟩
 have HTT:=sE hT
 have HFF:=sE hF
 have hF0:=hF.1
 clear hT hF
 have HN3:=sE h3
 clear h3
 go_enter func81,ntmps81
 go_wp2_with fail
 refine(ANew_yes n w h1 h2 HN3.out).mono ?_
 rintro e w1 ⟨a,q,rfl,ha,hq1,ar1,k1⟩
 go_wp2_with fail
 try rw[hq.out]
 try rw[hq'.out]
 refine(New_yes (n/2) w1 (by omega)).mono ?_
 rintro e w2 ⟨b,bq,rfl,hb,hbq,bt2,k2⟩
 have HAR:=sE ar1
 have HBT:=sE bt2
 have la:=ar1.lt_a
 have lq:=ar1.lt_q
 have naq:=ar1.ne_'
 have lb:=bt2.lt_p'
 have lbq:=bt2.lt_q'
 have nbq:=bt2.ne'
 have z1:=k1.size
 have z2:=k2.size
 clear ar1 bt2 hq hq'
 go_wp2_with fail
 obtain⟨w3,hw3⟩:∃ w3,w3=w2.alloc (.cells #[.pointer (some ⟨a,0,none⟩),.pointer (some ⟨t,0,none⟩),.pointer (some ⟨b,0,none⟩)] 99):=⟨_,rfl⟩
 rw[<- hw3]
 have k3:Kp Ab w2 w3:=by rw[hw3];exact (Kr _ w2).alloc _
 have b3:w3.heap[w2.heap.size]?=some (.cells #[.pointer (some ⟨a,0,none⟩),.pointer (some ⟨t,0,none⟩),.pointer (some ⟨b,0,none⟩)] 99 (0,0)):=by rw[hw3];exact wN w2 _
 have z3:w3.heap.size=w2.heap.size+1:=by rw[hw3];simp
 clear hw3
 have K3:=(k1.then' k2).then' k3
 obtain⟨P,hP⟩:∃ P:Sp,P=⟨w2.heap.size,a,q,t,tq,b,bq,n,ts⟩:=⟨_,rfl⟩
 have S3:SpaceAt w3 P (λ _=>0) (λ _=>false):=by
  subst hP
  refine⟨b3,HAR.out.Ad (k2.then' k3),HTT.out.Ad K3,HBT.out.keep k3 (λ h=>h) (λ h=>h),HFF.out.Ad K3,⟨?_,?_,?_⟩,HN3.out,?_⟩
  .intro k hk
   simp only[Sp.own] at hk
   dsimp only
   omega
  .dsimp only;omega
  .dsimp only;omega
  .intro k hk
   simp only[Sp.all] at hk
   omega
 have hPs:P.s=w2.heap.size:=by rw[hP]
 have hPn:P.n/2=n/2:=by rw[hP]
 have HS3:=sE S3
 have HG:=EC P _ _ w3 S3
 have HGp:Sl (Calls prog 123 #[.pointer (some ⟨P.s,0,none⟩),.int .i64 0,.int .i64 ((n/2:Nat):Int)] w3 (LaidGap P (AZ (λ _=>0) 0 (n/2)) (λ _=>false) w3)):=⟨gap_any 0 (n/2) P _ _ w3 S3 (by rw[hPn];omega)⟩
 rw[hPn,hPs] at HG
 rw[hPs] at HGp
 have HGr:=sE HG
 have HPP:=sE hP
 have HZZ:=sE z3
 clear S3 HG hP z3 hPs hPn b3
 try go_wp2_with fail
 refine HGr.out.mono ?_
 rintro e w4 ⟨rfl,rfl⟩
 go_wp2_with fail
 refine HGp.out.mono ?_
 rintro e w5 ⟨rfl,k5,S5⟩
 have HS5:=sE S5
 clear S5
 go_wp2
 have hP:=HPP.out
 have z3:=HZZ.out
 refine bodyPost_ret (v:=.tuple #[.pointer (some ⟨w2.heap.size,0,none⟩),.int .i64 0]) (by simp[results,results81,go_sem]) rfl ⟨P,by rw[hP],by rw[hP],by rw[hP],by rw[hP],by rw[hP],⟨_,HS5.out,⟨?_,?_,?_⟩,?_⟩,?_,by rw[hP];dsimp only;omega,by rw[hP];dsimp only;omega,?_⟩
 .have:=Ee 0 (n/2)
  rw[hP]
  rwa [Nat.zero_add] at this
 .intro c hc
  obtain⟨h0,rfl⟩:=Ck hc
  exact EN h0
 .intro c hc
  obtain⟨h0,rfl⟩:=Ck hc
  exact gap_ok h0 (by omega)
 .intro i hi
  exact(DF 0 (n/2) i).symm
 .intro k hk
  rw[hP] at hk
  simp only[Sp.own] at hk
  omega
 .refine K3.trans k5 (λ i hi h=>?_)
  rw[hP] at h
  dsimp only at h
  omega

theorem SNew_no(n:Int)(t:Nat)(w:World)(h:Dp n=false):Calls prog 81 #[.int .i64 n,.pointer (some ⟨t,0,none⟩)] w λ e w'=>e=.returned (.tuple #[.pointer none,.int .i64 2])/\w'=w:=by
 have HA:=sE (ANew_no n w h)
 clear h
 go_enter func81,ntmps81
 go_wp2_with fail
 refine HA.out.mono ?_
 rintro e w' ⟨rfl,rfl⟩
 go_wp2
 exact bodyPost_ret (v:=.tuple #[.pointer none,.int .i64 2]) (by simp[results,results81,go_sem]) rfl ⟨rfl,rfl⟩

def E9(w:World)(v:Value)(cs:List Cel):Prop:=
 ∃ a cap,v=.slice a cs.length cap/\∀ i x,cs[i]?=some x->∃ b,a=some ⟨b,0,none⟩/\b<w.heap.size/\
  w.cell? ⟨b,i*5,none⟩=some (.int .i64 (x.g:Nat))/\w.cell? ⟨b,i*5+1,none⟩=some (.int .u8 (x.tag:Nat))/\w.cell? ⟨b,i*5+2,none⟩=some (.int .i64 (x.ty:Nat))/\
  w.cell? ⟨b,i*5+3,none⟩=some (.int .i64 (x.ln:Nat))/\w.cell? ⟨b,i*5+4,none⟩=some (.int .i64 (x.sz:Nat))

theorem flatC_at:∀ (xs:List Cel) (i:Nat) (x:Cel),xs[i]?=some x->(BV xs)[i*5]?=some (.int .i64 (x.g:Nat))/\(BV xs)[i*5+1]?=some (.int .u8 (x.tag:Nat))/\(BV xs)[i*5+2]?=some (.int .i64 (x.ty:Nat))/\(BV xs)[i*5+3]?=some (.int .i64 (x.ln:Nat))/\(BV xs)[i*5+4]?=some (.int .i64 (x.sz:Nat))
 |y::xs,0,x,h=>by
  simp at h
  subst h
  exact⟨rfl,rfl,rfl,rfl,rfl⟩
 |y::xs,i+1,x,h=>by
  have h2:xs[i]?=some x:=by simpa using h
  obtain⟨a,b,c,d,e⟩:=flatC_at xs i x h2
  have e0:(i+1)*5=i*5+5:=by omega
  rw[e0]
  exact⟨a,b,c,d,e⟩

theorem E9.Br{w:World}{base:Nat}{v:Value}{cs:List Cel}(h:w.ownsRow base 71 5 v cs.length (BV cs)):E9 w v cs:=by
 rcases h.2 with ⟨rfl,h0⟩|⟨g,cap,cur,rfl,g2,g3,g4,g5,g6,g7⟩
 .exact ⟨none,0,by rw[h0],λ i x hx=>by have:=(gE.1 hx).1;omega⟩
 .refine ⟨some ⟨g,0,none⟩,cap,rfl,λ i x hx=>?_⟩
  have hi:=(gE.1 hx).1
  obtain⟨x0,x1,x2,x3,x4⟩:=flatC_at cs i x hx
  have key:∀ j,j<cs.length*5->w.cell? ⟨g,j,none⟩=(BV cs)[j]?:=λ j hj=>by
   rw[<- g7,List.getElem?_take_of_lt hj]
   simp[World.cell?,g3]
  exact⟨g,rfl,lZ g3,by rw[key _ (by omega)];exact x0,by rw[key _ (by omega)];exact x1,by rw[key _ (by omega)];exact x2,by rw[key _ (by omega)];exact x3,by rw[key _ (by omega)];exact x4⟩

theorem E9.Ad{w w':World}{v:Value}{cs:List Cel}(h:E9 w v cs)(k:Kp Ab w w'):E9 w' v cs:=by
 obtain⟨a,cap,rfl,h⟩:=h
 refine⟨a,cap,rfl,λ i x hi=>?_⟩
 obtain⟨b,rfl,h1,h2,h3,h4,h5,h6⟩:=h i x hi
 exact⟨b,rfl,Nat.lt_of_lt_of_le h1 k.size,k.cell h2 (λ h=>h),k.cell h3 (λ h=>h),k.cell h4 (λ h=>h),k.cell h5 (λ h=>h),k.cell h6 (λ h=>h)⟩

theorem run_eq_head9(a b c d a' b' c' d':Int)(w:World):(Op.equalIn 9999 52 (.agg #[.int .u8 a,.int .i64 b,.int .i64 c,.int .i64 d]) (.agg #[.int .u8 a',.int .i64 b',.int .i64 c',.int .i64 d'])).run prog w=.ok (a==a'&&(b==b'&&(c==c'&&d==d'))) w:=by
 have u3:=underlying3
 have a3:=isAgg3
 have z3:=sizeOf3
 have u5:=underlying5
 have a5:=isAgg5
 have z5:=sizeOf5
 have hS:prog.underlying 52=some (.struct (prog.fieldsOf 52)):=by kernel_rfl
 rw[show (9999:Nat)=9998+1 from rfl,run_equalIn_agg w 9998 52 _ _ hS (by kernel_rfl)]
 simp only[Program.fieldsOf,underlying52]
 go_simp
 by_cases h1:a=a' <;> by_cases h2:b=b' <;> by_cases h3:c=c' <;> by_cases h4:d=d' <;> simp[h1,h2,h3,h4]

theorem run_eq_cell(g a b c d g' a' b' c' d':Int)(w:World):(Op.equalIn 10000 71 (.agg #[.int .i64 g,.int .u8 a,.int .i64 b,.int .i64 c,.int .i64 d]) (.agg #[.int .i64 g',.int .u8 a',.int .i64 b',.int .i64 c',.int .i64 d'])).run prog w=.ok (g==g'&&(a==a'&&(b==b'&&(c==c'&&d==d')))) w:=by
 have u3:=underlying3
 have a3:=isAgg3
 have z3:=sizeOf3
 have aH:=isAgg52
 have zH:=sizeOf52
 have hS:prog.underlying 71=some (.struct (prog.fieldsOf 71)):=by kernel_rfl
 have hE:=λ (w:World)=>run_eq_head9 a b c d a' b' c' d' w
 rw[show (10000:Nat)=9999+1 from rfl,run_equalIn_agg w 9999 71 _ _ hS (by kernel_rfl)]
 simp only[Program.fieldsOf,underlying71]
 go_simp
 by_cases h0:g=g' <;> by_cases h1:a=a' <;> by_cases h2:b=b' <;> by_cases h3:c=c' <;> by_cases h4:d=d' <;> simp[h0,h1,h2,h3,h4]

theorem run_neq_cell(g a b c d g' a' b' c' d':Int)(w:World):(binOp .neq 71 (.agg #[.int .i64 g,.int .u8 a,.int .i64 b,.int .i64 c,.int .i64 d]) (.agg #[.int .i64 g',.int .u8 a',.int .i64 b',.int .i64 c',.int .i64 d'])).run prog w=.ok (.bool (!(g==g'&&(a==a'&&(b==b'&&(c==c'&&d==d')))))) w:=by
 rw[run_neq_struct,run_eq_cell];rfl

theorem run_eql_cell(g a b c d g' a' b' c' d':Int)(w:World):(binOp .eql 71 (.agg #[.int .i64 g,.int .u8 a,.int .i64 b,.int .i64 c,.int .i64 d]) (.agg #[.int .i64 g',.int .u8 a',.int .i64 b',.int .i64 c',.int .i64 d'])).run prog w=.ok (.bool (g==g'&&(a==a'&&(b==b'&&(c==c'&&d==d'))))) w:=by
 rw[run_eql_struct,run_eq_cell];rfl

attribute [local go_sem ↓] run_neq_cell

def SameI(cs:List Cel)(w:World)(y:Value)(wr:World):Prop:=∃ j,j<=cs.length/\y=.int .i64 (j:Nat)/\Kp Ab w wr

theorem SameC_at(cs:List Cel)(v u:Value)(w:World)(hv:E9 w v cs)(hu:E9 w u cs)(hlen:cs.length<=9223372036854775806):
  Calls prog 69 #[v,u] w λ e w'=>e=.returned (.bool true)/\Kp Ab w w':=by
 have HV:=sE hv
 have HU:=sE hu
 obtain⟨va,vc,rfl,-⟩:=hv
 obtain⟨ua,uc,rfl,-⟩:=hu
 obtain⟨len,hlen'⟩:∃ len,cs.length=len:=⟨_,rfl⟩
 rw[hlen'] at HV HU hlen ⊢
 have HL:=sE hlen'
 clear hlen'
 go_enter func69,ntmps69
 go_wp2_with fail
 go_loopw [5] (λ y wr=>SameI cs w y wr) (λ y _=>len-(intOf y).toNat)
 case atStart=>exact ⟨0,Nat.zero_le _,rfl,Kr _ _⟩
 case round=>
  obtain⟨j,hj,rfl,hk⟩:=hrel
  rw[HL.out] at hj
  by_cases hjl:j<len
  .have hjl':(j:Int)<len:=by omega
   obtain⟨va',vc',e,hx⟩:=HV.out
   injection e with e1 e3 e2
   clear e3
   subst e1 e2
   obtain⟨ua',uc',e,hy⟩:=HU.out
   injection e with e1 e3 e2
   clear e3
   subst e1 e2
   obtain⟨x,hxj⟩:∃ x,cs[j]?=some x:=⟨cs[j]'(by rw[HL.out];omega),List.getElem?_eq_getElem (by rw[HL.out];omega)⟩
   obtain⟨b,rfl,hbl,x0,x1,x2,x3,x4⟩:=hx j x hxj
   obtain⟨b',rfl,hbl',y0,y1,y2,y3,y4⟩:=hy j x hxj
   clear hx hy hxj
   replace x0:=hk.cell x0 (λ h=>h)
   replace x1:=hk.cell x1 (λ h=>h)
   replace x2:=hk.cell x2 (λ h=>h)
   replace x3:=hk.cell x3 (λ h=>h)
   replace x4:=hk.cell x4 (λ h=>h)
   replace y0:=hk.cell y0 (λ h=>h)
   replace y1:=hk.cell y1 (λ h=>h)
   replace y2:=hk.cell y2 (λ h=>h)
   replace y3:=hk.cell y3 (λ h=>h)
   replace y4:=hk.cell y4 (λ h=>h)
   go_wp2_with fail
   go_quiet (fail)
   go_wp2
   refine⟨⟨j+1,by rw[HL.out];omega,by go_num,hk.then' (Kp.Aj _)⟩,by simp only[intOf];omega⟩
  .have hjl':¬ (j:Int)<len:=by omega
   go_wp2
   go_ret
   exact⟨rfl,hk⟩

end

section
open Go.RowKit
attribute [local go_sem ↓] run_neq_cell

def Ap(cs:List Cel):List Cel:=cs.filter λ c=>c.tag==1

def Bu(cs:List Cel):List Nat:=(Ap cs).map Cel.g

theorem obsG_len(cs:List Cel):(Bu cs).length<=cs.length:=by
 unfold Bu Ap
 rw[List.length_map]
 exact List.length_filter_le _ _

theorem objsOf_append(xs ys:List Cel):Ap (xs++ys)=Ap xs++Ap ys:=List.filter_append ..

theorem objsOf_take{cs:List Cel}{j:Nat}{x:Cel}(h:cs[j]?=some x):(Ap (cs.take (j+1))).length=(Ap (cs.take j)).length+(if x.tag=1 then 1 else 0):=by
 rw[List.take_add_one,h,objsOf_append,List.length_append]
 by_cases ht:x.tag=1 <;> simp[Ap,ht]

def BS(cs:List Cel):Prop:=∀ c∈cs,¬ c.tag=1->c.tag=Dw c.sz/\c.ty=0/\c.ln=0

end

section
open Go.RowKit

theorem Dx{c:Cel}{xs:List Cel}:c∈Ap xs ↔ c∈xs/\c.tag=1:=by
 rw[Ap,List.mem_filter];simp

theorem BS.gap(g m:Nat):BS (gapL g m):=by
 intro c hc _
 obtain⟨_,rfl⟩:=Ck hc
 exact⟨rfl,rfl,rfl⟩

theorem BS.append{xs ys:List Cel}(h:BS xs)(k:BS ys):BS (xs++ys):=by
 intro c hc
 rcases List.mem_append.1 hc with hc|hc
 .exact h c hc
 .exact k c hc

theorem BS.left{xs ys:List Cel}(h:BS (xs++ys)):BS xs:=λ c hc=>h c (List.mem_append_left _ hc)

theorem BS.right{xs ys:List Cel}(h:BS (xs++ys)):BS ys:=λ c hc=>h c (List.mem_append_right _ hc)

theorem put_gaps{pre post:List Cel}{c:Cel}{j i l S:Nat}(h:BS (pre++c::post)):BS (putL pre c post j i l S):=by
 have h2:BS post:=λ d hd=>h d (List.mem_append_right _ (List.mem_cons_of_mem _ hd))
 refine h.left.append (((BS.gap _ _).append ?_).append h2)
 refine BS.append (xs:=[_]) (λ d hd ht=>?_) (BS.gap _ _)
 rw[List.mem_singleton.1 hd] at ht
 exact absurd rfl ht

theorem drop_gaps{cs p1 g1 g2 p2:List Cel}{c:Cel}{g x y:Nat}(h:BS cs)(hd:Dj cs g p1 g1 c g2 p2 x y):BS (dropL p1 p2 x y):=by
 obtain⟨e,-⟩:=hd
 subst e
 exact h.left.append ((BS.gap _ _).append h.right.right)

end

end Go.Proofs.YtmfajopmppfldaaGreatDoor
