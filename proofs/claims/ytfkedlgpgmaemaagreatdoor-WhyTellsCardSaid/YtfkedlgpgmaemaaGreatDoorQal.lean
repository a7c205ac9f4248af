/-
  Lemmas for the laws, together: SpacePut.
-/
import Derived.Test.YtfkedlgpgmaemaaGreatDoorQag
import Derived.Test.YtfkedlgpgmaemaaGreatDoorQaa
import Derived.Stop.RegionWithIn
set_option linter.unusedVariables false
set_option maxHeartbeats 16000000
namespace Go.Proofs.YtfkedlgpgmaemaaGreatDoor
open Tryz
section
open Go.RowKit
attribute [local go_sem] Oper.semAt_some

def cellV(c:Cel):Value:=.agg #[c.g,.int .u8 c.tag,c.ty,c.ln,c.sz]

theorem dec_enc{tag ty ln sz:Nat}(h:Am tag ty ln sz=true):CE (BA tag ty ln sz)=tag/\EA (BA tag ty ln sz)=ty/\EX (BA tag ty ln sz)=ln/\DY (BA tag ty ln sz)=sz/\Ct (BA tag ty ln sz)=true:=by
  have h1:CE (BA tag ty ln sz)=tag:=by rw[CE,Nat.div_one];exact encH_tag h
  have h2:EA (BA tag ty ln sz)=ty:=encH_ty h
  have h3:EX (BA tag ty ln sz)=ln:=encH_ln h
  have h4:DY (BA tag ty ln sz)=sz:=encH_sz h
  have h5:gapW (BA tag ty ln sz)=0:=encH_gap h
  refine⟨h1,h2,h3,h4,?_⟩
  rw[Ct,h1,h2,h3,h4,h5,h];rfl

theorem SHead_cell(c:Cel)(P:Sp)(W:Nat->Nat)(f:Nat->Bool)(w:World)(h:SpaceAt w P W f)(hg:c.g<P.n/2)(hW:W (2*c.g)=BA c.tag c.ty c.ln c.sz)(hok:Di P.ts c):
    Calls prog 76 #[.pointer (some P.a),c.g] w (RK (.tuple #[Ao (c.tag:Nat) (c.ty:Nat) (c.ln:Nat) (c.sz:Nat),(0:Int)]) w):=by
  have hh:=SHead_at c.g P.a P.q P.n W w h.fl h.ar hg
  obtain⟨d1,d2,d3,d4,d5⟩:=dec_enc hok.1
  rw[hW,d1,d2,d3,d4,d5] at hh
  exact hh.mono λ_ _ hp=>hp

theorem Fits_cell(c:Cel)(P:Sp)(W:Nat->Nat)(f:Nat->Bool)(w:World)(h:SpaceAt w P W f)(hok:Di P.ts c):
    Calls prog 78 #[.pointer (some P.t),Ao (c.tag:Nat) (c.ty:Nat) (c.ln:Nat) (c.sz:Nat)] w (RK (.int .i64 0) w):=by
  obtain⟨h1,h2⟩:=hok
  by_cases ht:c.tag=1
  . obtain⟨h3,h4⟩:=h2 ht
    rw[ht] at h1 ⊢
    exact Fits_obj c.ty c.ln c.sz P.t P.tq P.ts w h.fl h.tb h1 h3 h4
  . exact Fits_gap c.tag c.ty c.ln c.sz _ w h.fl h1 (by omega)

theorem cells_fn(P:Sp)(w:World):
    Calls prog 139 #[.pointer (some P.s)] w λ e w'=>
      e=.returned (.func (.func 179) #[] #[.pointer (some w.heap.size)])/\w.alloc (.cells #[.pointer (some P.s)] 28)=w':=by
  have hmf:∀ (fn:Fn) (first cap:Array Value) (w:World),(Instr.makeFunc fn first cap).run prog w=.ok (.func fn first cap) w:=λ _ _ _ _=>rfl
  go_enter func139,ntmps139
  go_wp2
  go_ret
  exact⟨rfl,rfl⟩

variable {Pr:Program} {n:Nat}

theorem En{o:Oper}{a:Act}{K:Act->World->Prop}{Q:Exit->Act->World->Prop}{l:Nat}{args args':Array Value}{W:World}{T E:World->Prop}
    (h:YieldAt Fence.wide 0 Pr l args W λ e B=>(e=.returned (.bool true)/\T B)\/(e=.returned (.bool false)/\E B)) (e:args'=args)
    (hk:∀ (b:Bool) (B:World),(b=true/\T B)\/(b=false/\E B)->K (a.put o.dst (.bool b)) B):o.uponIn Fence.wide n Pr a K Q ((Instr.yield l args').run Pr W):=
  uponIn_yield2 h e (λ B hB=>hk true B (.inl ⟨rfl,hB⟩)) (λ B hB=>hk false B (.inr ⟨rfl,hB⟩))

set_option maxRecDepth 20000 in
theorem cells_iter3(P:Sp)(W0:Nat->Nat)(f:Nat->Bool)(cs:List Cel)(w:World)(box:Nat)(h:SpaceAt w P W0 f)(hc:CellsAt P W0 cs)(hb:w.heap[box]?=some (.cells #[.pointer (some P.s)] 28 (0,0)))
    {R:Nat->Prop} (hR:∀ k,R k->k<w.heap.size/\¬ k=box/\¬ P.all k):
    IterAt3 prog 179 #[.pointer (some box)] (λ c=>#[cellV c]) cs Aa R w:=by
  intro l J Jx S0 W hW hl1 hl2 hS hJ hJx hY h0
  have SW:=h.Ac hW
  have bW:=hW.at_ hb id
  have lb:=lZ hb
  have lall:=h.lt
  have hn:=h.ar.small
  obtain⟨H,hH⟩:∃ H,P.n/2=H:=⟨_,rfl⟩
  have tl:=hc.tl
  have HG:Sl (∀ w',SpaceAt w' P W0 f->Calls prog 89 #[.pointer (some P.s)] w' λ e w''=>e=.returned (.int .i64 (H:Nat))/\w''=w'):=⟨λ w' h'=>by rw[<- hH];exact Gran_at P W0 f w' h'⟩
  have HHd:Sl (∀ w',SpaceAt w' P W0 f->∀ c∈cs,c.g<H->Calls prog 76 #[.pointer (some P.a),c.g] w' λ e w''=>e=.returned (.tuple #[Ao (c.tag:Nat) (c.ty:Nat) (c.ln:Nat) (c.sz:Nat),(0:Int)])/\Kp Aa w' w''):=
    ⟨λ w' h' c hm hg=>SHead_cell c P W0 f w' h' (by omega) (hc.hd c hm) (hc.ok c hm)⟩
  have HFt:Sl (∀ w',SpaceAt w' P W0 f->∀ c∈cs,Calls prog 78 #[.pointer (some P.t),Ao (c.tag:Nat) (c.ty:Nat) (c.ln:Nat) (c.sz:Nat)] w' λ e w''=>e=.returned (.int .i64 0)/\Kp Aa w' w''):=
    ⟨λ w' h' c hm=>Fits_cell c P W0 f w' h' (hc.ok c hm)⟩
  rw[hH] at tl
  have hH2:H<=32768:=by omega
  clear hH hc hn
  refine(callsIn_wide (n:=0)).1 ?_
  refine callsIn_of_wp func179 rfl trivial ?_
  simp only[ntmps179,List.size_toArray,List.length_cons,List.length_nil,Nat.reduceAdd,Nat.reduceSub,Array.replicate_succ,Array.replicate_zero,List.push_toArray,List.append_toArray,List.nil_append,List.cons_append]
  gi_wp2
  gi_loopw [3,4,5] (λ v3 v4 v5 wr=>∃ (pre rest:List Cel) (g:Nat) (S:Nat->Prop),v3=.int .i64 g/\cs=pre++rest/\AC g rest H/\J pre S wr/\Kp (λ k=>R k\/k=l) W wr)
    (λ v3 v4 v5 wr=>H-(intOf v3).toNat)
  case atStart=>exact ⟨[],cs,0,S0,rfl,rfl,tl,h0,Kr _ _⟩
  case round=>
    obtain⟨pre,rest,g,S,rfl,hcs,ht,hj,kr⟩:=hrel
    have Sr:SpaceAt wr P W0 f:=SW.keep kr (λ i hi hs=>by
      have:=lall i hi
      rcases hs with hs|hs
      . exact(hR i hs).2.2 hi
      . omega)
    have br:wr.heap[box]?=some (.cells #[.pointer (some P.s)] 28 (0,0)):=kr.at_ bW (λ hs=>by
      rcases hs with hs|hs
      . exact(hR box hs).2.1 rfl
      . omega)
    have cb:=cell_of_one br
    have HS:=sE Sr
    have CG:=sE (HG.o wr Sr)
    cases rest with
    |nil=>
      obtain rfl:g=H:=ht
      gi_wp2_with fail
      refine⟨trivial,rfl,?_⟩
      refine(callsIn_wide.2 CG.o).mono ?_
      rintro e w' ⟨rfl,rfl⟩
      gi_wp2_with fail
      go_end0
      exact⟨⟨_,rfl⟩,.inl ⟨S,by rw[hcs,List.append_nil];exact hj⟩⟩
    |cons c rest=>
      obtain⟨rfl,hcp,ht'⟩:=ht
      have hle:=ht'.le
      have hmem:c∈cs:=by rw[hcs];simp
      have hg1:(c.g:Int)<(H:Int):=by omega
      obtain⟨s0,s1,s2⟩:=Sr.head
      have CHd:=sE (HHd.o wr Sr c hmem (by omega))
      gi_wp2_with fail
      refine⟨trivial,rfl,?_⟩
      refine(callsIn_wide.2 CG.o).mono ?_
      rintro e w' ⟨rfl,rfl⟩
      gi_wp2_with fail
      refine⟨trivial,rfl,?_⟩
      refine(callsIn_wide.2 CHd.o).mono ?_
      rintro e w1 ⟨rfl,k1⟩
      unfold Ao
      obtain⟨w2,hw2⟩:∃ w2,w2=w1.alloc (.cells #[.int .u8 c.tag,c.ty,c.ln,c.sz] 111):=⟨_,rfl⟩
      have k2:Kp Aa w1 w2:=by rw[hw2];exact (Kr _ w1).alloc _
      have b2:w2.heap[w1.heap.size]?=some (.cells #[.int .u8 c.tag,c.ty,c.ln,c.sz] 111 (0,0)):=by rw[hw2];exact wN w1 _
      gi_wp2_with fail
      rw[<- hw2]
      clear hw2
      have KD:Kp Aa w' w2.drew:=(k1.then' k2).drew
      have SD:=Sr.Ac KD
      have bD:=KD.at_ br id
      have hD:w2.drew.heap[w1.heap.size]?=some (.cells #[.int .u8 c.tag,c.ty,c.ln,c.sz] 111 (0,0)):=b2
      obtain⟨s0,s1,s2⟩:=SD.head
      have cb2:=cell_of_one bD
      have e0:w2.drew.cell? w1.heap.size=some (.int .u8 c.tag):=by simp[World.cell?,hD]
      have e1:w2.drew.cell? ⟨w1.heap.size,1,none⟩=some (.int .i64 c.ty):=by simp[World.cell?,hD]
      have e2:w2.drew.cell? ⟨w1.heap.size,2,none⟩=some (.int .i64 c.ln):=by simp[World.cell?,hD]
      have e3:w2.drew.cell? ⟨w1.heap.size,3,none⟩=some (.int .i64 c.sz):=by simp[World.cell?,hD]
      have CF:=HFt.o w2.drew SD c hmem
      unfold Ao at CF
      have CFs:=sE CF
      have HSD:=sE SD
      have HhD:=sE hD
      clear CF SD hD b2 CG CHd HS
      have hd1:decide ((H:Int)-(c.g:Int)<(c.sz:Int))=false:=dF (by omega)
      have hwr:IntKind.i64.wrap ((H:Int)-(c.g:Int))=(H:Int)-(c.g:Int):=by rw[IntKind.wrap_i64];omega
      have hneR:∀ k,S k\/k=l->¬ k=w1.heap.size:=by
        intro k hk
        have z1:=hW.size
        have z2:=kr.size
        have z3:=k1.size
        rcases hk with hk|hk
        . have:=(hS pre S _ hj k hk).2
          omega
        . omega
      have hSR:∀ i,i<W.heap.size->(S i\/i=l)->(R i\/i=l):=by
        intro i hi h
        rcases h with h|h
        . rcases (hS pre S _ hj i h).1 with h|h
          . exact .inl h
          . omega
        . exact .inr h
      gi_region_with (first
        |(refine ⟨trivial,rfl,?_⟩)
        | (gi_at_call 78;refine (callsIn_wide.2 CFs.o).mono ?_;rintro e w3 ⟨rfl,k3⟩
           have S3:=HSD.o.Ac k3
           have h3:=k3.at_ HhD.o id
           obtain⟨s0',s1',s2'⟩:=S3.head
           have cb3:=k3.cell cb2 id
           have e0':=k3.cell e0 id
           have e1':=k3.cell e1 id
           have e2':=k3.cell e2 id
           have e3':=k3.cell e3 id
           have CG3:=sE (HG.o w3 S3)
           have J3:=hJ _ _ _ _ hj (KD.then' k3)
           have HY3:=sE (hY pre S c rest w3 hcs J3)
           have Hh3:=sE h3
           clear S3 h3 J3)
        |(gi_at_call 89;refine (callsIn_wide.2 CG3.o).mono ?_;rintro e w' ⟨rfl,rfl⟩)
        |(refine En HY3.o rfl ?_;intro b B hB))
      all_goals
        rcases hB with ⟨rfl,hk,S',hT⟩|⟨rfl,hE⟩
        . have hB3:=hk.at_ Hh3.o (λ hs=>hneR _ hs rfl)
          have d3:B.cell? ⟨w1.heap.size,3,none⟩=some (.int .i64 c.sz):=by simp[World.cell?,hB3]
          have KB:=(kr.trans KD (λ _ _ h=>h.elim)).trans k3 (λ _ _ h=>h.elim)
          have KB2:=KB.trans hk hSR
          gi_wp2_with fail
          exact⟨⟨pre++[c],rest,c.g+c.sz,S',by simp,by rw[hcs,List.append_assoc];rfl,ht',hT,KB2⟩,by simp only[intOf];omega⟩
        . gi_wp2_with fail
          refine bodyPost_ret (results_none rfl _ _ _) rfl ?_
          exact⟨⟨_,rfl⟩,.inr ⟨_,⟨_,by rw[hcs,List.append_assoc];rfl⟩,hE⟩⟩

theorem cells_iter(P:Sp)(W0:Nat->Nat)(f:Nat->Bool)(cs:List Cel)(w:World)(box:Nat)(h:SpaceAt w P W0 f)(hc:CellsAt P W0 cs)(hb:w.heap[box]?=some (.cells #[.pointer (some P.s)] 28 (0,0)))
    {R X:Nat->Prop} (hR:∀ k,R k->k<w.heap.size/\¬ k=box/\¬ P.all k):
    IterAt2 prog 179 #[.pointer (some box)] (λ c=>#[cellV c]) cs Aa R X w:=
  (cells_iter3 P W0 f cs w box h hc hb hR).two (λ k hk=>(hR k hk).1)

end

section
open Go.RowKit
attribute [local go_sem] Oper.semAt_some

def AQ(w:World)(P:Sp)(W:Nat->Nat)(cs:List Cel):Prop:=∃ f,SpaceAt w P W f/\CellsAt P W cs/\∀ i,i<P.n/2->f i=Ak cs i

def SpaceHas(w:World)(P:Sp)(cs:List Cel):Prop:=∃ W,AQ w P W cs

theorem AQ.keep{S:Nat->Prop}{w w':World}{P:Sp}{W:Nat->Nat}{cs:List Cel}(h:AQ w P W cs)(k:Kp S w w')(hS:∀ i,P.all i->¬ S i):AQ w' P W cs:=
  let ⟨f,a,b,c⟩:=h;⟨f,a.keep k hS,b,c⟩

theorem AQ.Ac{w w':World}{P:Sp}{W:Nat->Nat}{cs:List Cel}(h:AQ w P W cs)(k:Kp Aa w w'):AQ w' P W cs:=h.keep k (λ _ _ h=>h)

theorem Bl{w w':World}{p:Addr}{v:Value}(h:Kp Aa w w')(c:w.cell? p=some v):w'.cell? p=some v:=h.cell c id

theorem Kp.Av{w w':World}(h:Kp Aa w w'){b j:Nat}(hb:w.heap.size<=b)(v:Value):Kp Aa w (w'.setCell ⟨b,j,none⟩ v):=
  h.setCell (λ hlt=>by have:b<w.heap.size:=hlt;omega) v

theorem KU{w w':World}(h:Kp Aa w w':=by repeat (first|assumption|exact Kr _ _|refine Kp.drew ?_|refine Kp.alloc ?_ _|refine Kp.Av ?_ (by omega) _)):Kp Aa w w':=h

def PutPostW(P:Sp)(cs:List Cel)(W:Nat->Nat)(g id n:Int)(w:World)(e:Ending)(w':World):Prop:=
  e=.returned (.int .i64 (DW P.ts (P.n/2) cs g id n))/\Kp P.own w w'/\
    ((¬ DW P.ts (P.n/2) cs g id n=0/\AQ w' P W cs)\/
     (DW P.ts (P.n/2) cs g id n=0/\∃ (pre:List Cel) (c:Cel) (post:List Cel) (j i l S:Nat),cs=pre++c::post/\¬ c.tag=1/\g=(j:Nat)/\id=(i:Nat)/\n=(l:Nat)/\BB P.ts id n=(S:Nat)/\
        c.g<=j/\j+S<=c.fin/\0<S/\AQ w' P (putW W c j i l S) (putL pre c post j i l S)))

set_option maxRecDepth 20000 in
theorem Put_err(g id n:Int)(P:Sp)(cs:List Cel)(w:World)(W:Nat->Nat)(h:AQ w P W cs)(he:¬ AV P.ts id n=0):
    Calls prog 95 #[.pointer (some P.s),.int .i64 g,.int .i64 id,.int .i64 n] w (PutPostW P cs W g id n w):=by
  have hR:Sl (DW P.ts (P.n/2) cs g id n=AV P.ts id n):=⟨by rw[DW,if_pos he]⟩
  have HO:Sl (∀ W' W0 f0,SpaceAt W' P W0 f0->Calls prog 135 #[.pointer (some P.t),.int .i64 id,.int .i64 n] W' (RK (.tuple #[.agg #[.int .u8 0,(0:Int),(0:Int),(0:Int)],.int .i64 (AV P.ts id n)]) W')):=
    ⟨λ W' _ _ h'=>(EE id n P.t P.tq P.ts W' h'.tb).mono λ e w' hp=>by rw[BR,if_neg he] at hp;exact hp⟩
  obtain⟨E,hE⟩:∃ E,AV P.ts id n=E:=⟨_,rfl⟩
  rw[hE] at HO hR
  have he':¬ E=0:=by rw[<- hE];exact he
  have hb:(E !=0)=true:=by simpa using he'
  clear he hE
  obtain⟨f,hs,hc,hst⟩:=h
  have HSs:=sE hs
  have HCs:=sE hc
  have HSt:=sE hst
  obtain⟨w5,hw5⟩:∃ w5,w5=((((w.alloc (.cells #[.pointer (some P.s)] 28)).alloc (.cells #[.int .i64 g] 3)).alloc (.cells #[.int .i64 id] 3)).alloc (.cells #[.int .i64 n] 3)).alloc (.cells #[(0:Int)] 35):=⟨_,rfl⟩
  have k5:Kp Aa w w5:=by rw[hw5];exact (((((Kr _ w).alloc _).alloc _).alloc _).alloc _).alloc _
  have z5:Sl (w5.heap.size=w.heap.size+1+1+1+1+1):=⟨by rw[hw5];simp⟩
  have g0:w5.heap[w.heap.size]?=some (.cells #[.pointer (some P.s)] 28 (0,0)):=by
    rw[hw5];exact ((((Kr Aa _).alloc _).alloc _).alloc _ |>.alloc _).at_ (wN w _) (λ h=>h)
  have g1:w5.heap[w.heap.size+1]?=some (.cells #[.int .i64 g] 3 (0,0)):=by
    rw[hw5];exact (((Kr Aa _).alloc _).alloc _ |>.alloc _).at_ (BF _ _ (by simp)) (λ h=>h)
  have g2:w5.heap[w.heap.size+1+1]?=some (.cells #[.int .i64 id] 3 (0,0)):=by
    rw[hw5];exact ((Kr Aa _).alloc _ |>.alloc _).at_ (BF _ _ (by simp)) (λ h=>h)
  have g3:w5.heap[w.heap.size+1+1+1]?=some (.cells #[.int .i64 n] 3 (0,0)):=by
    rw[hw5];exact ((Kr Aa _).alloc _).at_ (BF _ _ (by simp)) (λ h=>h)
  have g4:w5.heap[w.heap.size+1+1+1+1]?=some (.cells #[(0:Int)] 35 (0,0)):=by
    rw[hw5];exact BF _ _ (by simp)
  have S5:=hs.Ac k5
  have HB:=sE (And.intro g0 (And.intro g1 (And.intro g2 (And.intro g3 g4))))
  have c0:=cell_of_one g0
  have c1:=cell_of_one g1
  have c2:=cell_of_one g2
  have c3:=cell_of_one g3
  have c4:=cell_of_one g4
  have f4:=free_of_one g4
  obtain⟨s0,s1,s2⟩:=S5.head
  have HS5:=sE S5
  have lts:=hs.lt P.s (by simp[Sp.all])
  clear hs hc hst S5 g0 g1 g2 g3 g4
  refine(callsIn_wide (n:=0)).1 ?_
  refine callsIn_of_wp_marks func95 rfl trivial ?_
  simp only[ntmps95,List.size_toArray,List.length_cons,List.length_nil,Nat.reduceAdd,Nat.reduceSub,Array.replicate_succ,Array.replicate_zero,List.push_toArray,List.append_toArray,List.nil_append,List.cons_append]
  gi_wp2_with fail
  try rw[<- hw5]
  clear hw5
  gi_wp2_with fail
  refine wpIn_wide.2 ?_
  go_region_held3 (λ w'=>w'.cell? w.heap.size=some (.pointer (some P.s))/\w'.cell? ⟨w.heap.size+1+1,0,none⟩=some (.int .i64 id)/\w'.cell? ⟨w.heap.size+1+1+1,0,none⟩=some (.int .i64 n)/\w'.cell? ⟨P.s,1,none⟩=some (.pointer (some P.t)))
    (exact ⟨Bl KU c0,Bl KU c2,Bl KU c3,Bl KU s1⟩)
    (first
      | (go_at_call 135;with_reducible refine(HO.o w5.drew W f (HS5.o.Ac (Kr Aa _).drew)).mono ?_;rintro e w6 ⟨rfl,k6⟩
         have KK:Kp Aa w5 w6:=(Kr Aa w5).drew.then' k6
         have KS:=KK.size)
      | (go_at_call 135;with_reducible refine(HO.o (w5.alloc (.cells #[.int .u8 0,(0:Int),(0:Int),(0:Int)] 111)).drew W f (HS5.o.Ac ((Kr Aa _).alloc _).drew)).mono ?_;rintro e w6 ⟨rfl,k6⟩
         have KK:Kp Aa w5 w6:=((Kr Aa w5).alloc _).drew.then' k6
         have KS:=KK.size
         have B6:=k6.at_ (show (w5.alloc (.cells #[.int .u8 0,(0:Int),(0:Int),(0:Int)] 111)).drew.heap[w5.heap.size]?=_ from wN w5 _) (λ h=>h)
         have fb0:=Ab B6 0
         have fb1:=Ab B6 1
         have fb2:=Ab B6 2
         have fb3:=Ab B6 3
         have db0:w6.cell? w5.heap.size=some (.int .u8 0):=by simp[World.cell?,B6]
         have db1:w6.cell? ⟨w5.heap.size,1,none⟩=some (.int .i64 0):=by simp[World.cell?,B6]
         have db2:w6.cell? ⟨w5.heap.size,2,none⟩=some (.int .i64 0):=by simp[World.cell?,B6]
         have db3:w6.cell? ⟨w5.heap.size,3,none⟩=some (.int .i64 0):=by simp[World.cell?,B6]
         have HB6:=sE B6
         clear B6))
  all_goals
    first
      | (generalize hwz:World.setCell _ _ _=wz
         have kz:Kp Aa w5 wz:=by rw[<- hwz];(repeat (first|assumption|exact Kr _ _|refine Kp.drew ?_|refine Kp.alloc ?_ _|refine Kp.Av ?_ (by omega) _))
         clear hwz)
      | (generalize hwz:World.alloc _ _=wz
         have kz:Kp Aa w5 wz:=by rw[<- hwz];(repeat (first|assumption|exact Kr _ _|refine Kp.drew ?_|refine Kp.alloc ?_ _|refine Kp.Av ?_ (by omega) _))
         clear hwz)
    replace c4:=kz.cell c4 (λ h=>h)
    have f4:=free_of_one (kz.at_ HB.o.2.2.2.2 (λ h=>h))
    gi_wp2_with fail
    have kq:Kp (λ i=>i=w.heap.size+1+1+1+1) wz (wz.setCell ⟨w.heap.size+1+1+1+1,0,none⟩ (.int .i64 E)):=(Kr (λ i=>i=w.heap.size+1+1+1+1) wz).setCell (λ _=>rfl) _
    have e4:=cell_of_one (one_setCell (u:=.int .i64 E) (kz.at_ HB.o.2.2.2.2 (λ h=>h)))
    have kk:Kp Aa w wz:=k5.then' kz
    refine⟨.int .i64 E,by simp[results,results95,go_sem,e4],by rw[hR.o],(kk.Aw P.own).trans kq (λ i hi h=>by omega),.inl ⟨by rw[hR.o];exact he',?_⟩⟩
    refine AQ.keep ⟨f,HSs.o.Ac kk,HCs.o,HSt.o⟩ kq (λ i hi h=>by have:=HSs.o.lt i hi;omega)

end

end Go.Proofs.YtfkedlgpgmaemaaGreatDoor
