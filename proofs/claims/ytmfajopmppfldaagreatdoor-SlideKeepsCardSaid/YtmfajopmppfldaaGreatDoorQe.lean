/-
  Lemmas for the laws, together: SpacePut, RowsA, FindPA, SpacePuts, SpaceAl, Objects.
-/
import Derived.Test.YtmfajopmppfldaaGreatDoorQc
import Derived.Test.YtmfajopmppfldaaGreatDoorQa
import Derived.Stop.RegionWithIn
import Derived.Deep.AppendLies
import Derived.BigQuiet
import Derived.Laws.StructEq
import Derived.Test.YtmfajopmppfldaaGreatDoorQd
import Derived.Test.YtmfajopmppfldaaGreatDoorQb
import Derived.Laws.EntriesVeiled
import Derived.Lib.SliceRun
set_option linter.unusedVariables false
set_option maxHeartbeats 16000000
namespace Go.Proofs.YtmfajopmppfldaaGreatDoor
open Go.Proofs.Tryz
section
open Go.RowKit
attribute [local go_sem] Oper.semAt_some

def cellV(c:Cel):Value:=.agg #[.int .i64 (c.g:Nat),.int .u8 (c.tag:Nat),.int .i64 (c.ty:Nat),.int .i64 (c.ln:Nat),.int .i64 (c.sz:Nat)]

theorem dec_enc{tag ty ln sz:Nat}(h:Am tag ty ln sz=true):CP (Bl tag ty ln sz)=tag/\Ex (Bl tag ty ln sz)=ty/\EM (Bl tag ty ln sz)=ln/\DL (Bl tag ty ln sz)=sz/\BJ (Bl tag ty ln sz)=true:=by
  have h1:CP (Bl tag ty ln sz)=tag:=by rw[CP,Nat.div_one];exact encH_tag h
  have h2:Ex (Bl tag ty ln sz)=ty:=encH_ty h
  have h3:EM (Bl tag ty ln sz)=ln:=encH_ln h
  have h4:DL (Bl tag ty ln sz)=sz:=encH_sz h
  have h5:gapW (Bl tag ty ln sz)=0:=encH_gap h
  refine⟨h1,h2,h3,h4,?_⟩
  rw[BJ,h1,h2,h3,h4,h5,h];rfl

theorem ER(c:Cel)(P:Sp)(W:Nat->Nat)(f:Nat->Bool)(w:World)(h:SpaceAt w P W f)(hg:c.g<P.n/2)(hW:W (2*c.g)=Bl c.tag c.ty c.ln c.sz)(hok:C8 P.ts c):
    Calls prog 49 #[.pointer (some ⟨P.a,0,none⟩),.int .i64 (c.g:Nat)] w λ e w'=>e=.returned (.tuple #[Ak (c.tag:Nat) (c.ty:Nat) (c.ln:Nat) (c.sz:Nat),.int .i64 0])/\Kp Ab w w':=by
  have hh:=SHead_at c.g P.a P.q P.n W w h.fl h.ar hg
  obtain⟨d1,d2,d3,d4,d5⟩:=dec_enc hok.1
  rw[hW,d1,d2,d3,d4,d5] at hh
  exact hh.mono λ_ _ hp=>hp

theorem Fits_cell(c:Cel)(P:Sp)(W:Nat->Nat)(f:Nat->Bool)(w:World)(h:SpaceAt w P W f)(hok:C8 P.ts c):
    Calls prog 51 #[.pointer (some ⟨P.t,0,none⟩),Ak (c.tag:Nat) (c.ty:Nat) (c.ln:Nat) (c.sz:Nat)] w λ e w'=>e=.returned (.int .i64 0)/\Kp Ab w w':=by
  obtain⟨h1,h2⟩:=hok
  by_cases ht:c.tag=1
  . obtain⟨h3,h4⟩:=h2 ht
    rw[ht] at h1 ⊢
    exact Fits_obj c.ty c.ln c.sz P.t P.tq P.ts w h.fl h.tb h1 h3 h4
  . exact Fits_gap c.tag c.ty c.ln c.sz _ w h.fl h1 (by omega)

theorem cells_fn(P:Sp)(w:World):
    Calls prog 72 #[.pointer (some ⟨P.s,0,none⟩)] w λ e w'=>
      e=.returned (.func (.func 118) #[] #[.pointer (some ⟨w.heap.size,0,none⟩)])/\w.alloc (.cells #[.pointer (some ⟨P.s,0,none⟩)] 27)=w':=by
  have hmf:∀ (fn:Fn) (first cap:Array Value) (w:World),(Instr.makeFunc fn first cap).run prog w=.ok (.func fn first cap) w:=λ _ _ _ _=>rfl
  go_enter func72,ntmps72
  go_wp2
  go_ret
  exact⟨rfl,rfl⟩

variable {Pr:Program} {n:Nat}

theorem CU{o:Oper}{a:Act}{K:Act->World->Prop}{Q:Exit->Act->World->Prop}{l:Nat}{args args':Array Value}{W:World}{T E:World->Prop}
    (h:YieldAt Fence.wide 0 Pr l args W λ e B=>(e=.returned (.bool true)/\T B)\/(e=.returned (.bool false)/\E B)) (e:args'=args)
    (hk:∀ (b:Bool) (B:World),(b=true/\T B)\/(b=false/\E B)->K (a.put o.dst (.bool b)) B):o.uponIn Fence.wide n Pr a K Q ((Instr.yield l args').run Pr W):=
  uponIn_yield2 h e (λ B hB=>hk true B (.inl ⟨rfl,hB⟩)) (λ B hB=>hk false B (.inr ⟨rfl,hB⟩))

set_option maxRecDepth 20000 in
theorem cells_iter3(P:Sp)(W0:Nat->Nat)(f:Nat->Bool)(cs:List Cel)(w:World)(box:Nat)(h:SpaceAt w P W0 f)(hc:CellsAt P W0 cs)(hb:w.heap[box]?=some (.cells #[.pointer (some ⟨P.s,0,none⟩)] 27 (0,0)))
    {R:Nat->Prop} (hR:∀ k,R k->k<w.heap.size/\¬ k=box/\¬ P.all k):
    IterAt3 prog 118 #[.pointer (some ⟨box,0,none⟩)] (λ c=>#[cellV c]) cs Ab R w:=by
  intro l J Jx S0 W hW hl1 hl2 hS hJ hJx hY h0
  have SW:=h.Ad hW
  have bW:=hW.at_ hb (λ h=>h)
  have lb:=lZ hb
  have lall:=h.lt
  have hn:=h.ar.small
  obtain⟨H,hH⟩:∃ H,P.n/2=H:=⟨_,rfl⟩
  have tl:=hc.tl
  have HG:Sl (∀ w',SpaceAt w' P W0 f->Calls prog 42 #[.pointer (some ⟨P.s,0,none⟩)] w' λ e w''=>e=.returned (.int .i64 (H:Nat))/\w''=w'):=⟨λ w' h'=>by rw[<- hH];exact Fe P W0 f w' h'⟩
  have HHd:Sl (∀ w',SpaceAt w' P W0 f->∀ c∈cs,c.g<H->Calls prog 49 #[.pointer (some ⟨P.a,0,none⟩),.int .i64 (c.g:Nat)] w' λ e w''=>e=.returned (.tuple #[Ak (c.tag:Nat) (c.ty:Nat) (c.ln:Nat) (c.sz:Nat),.int .i64 0])/\Kp Ab w' w''):=
    ⟨λ w' h' c hm hg=>ER c P W0 f w' h' (by omega) (hc.hd c hm) (hc.ok c hm)⟩
  have HFt:Sl (∀ w',SpaceAt w' P W0 f->∀ c∈cs,Calls prog 51 #[.pointer (some ⟨P.t,0,none⟩),Ak (c.tag:Nat) (c.ty:Nat) (c.ln:Nat) (c.sz:Nat)] w' λ e w''=>e=.returned (.int .i64 0)/\Kp Ab w' w''):=
    ⟨λ w' h' c hm=>Fits_cell c P W0 f w' h' (hc.ok c hm)⟩
  rw[hH] at tl
  have hH2:H<=32768:=by omega
  clear hH hc hn
  refine(callsIn_wide (n:=0)).1 ?_
  refine callsIn_of_wp func118 rfl trivial ?_
  simp only[ntmps118,List.size_toArray,List.length_cons,List.length_nil,Nat.reduceAdd,Nat.reduceSub,Array.replicate_succ,Array.replicate_zero,List.push_toArray,List.append_toArray,List.nil_append,List.cons_append]
  gi_wp2
  gi_loopw [3,4,5] (λ v3 v4 v5 wr=>∃ (pre rest:List Cel) (g:Nat) (S:Nat->Prop),v3=.int .i64 (g:Nat)/\cs=pre++rest/\Au g rest H/\J pre S wr/\Kp (λ k=>R k\/k=l) W wr)
    (λ v3 v4 v5 wr=>H-(intOf v3).toNat)
  case atStart=>exact ⟨[],cs,0,S0,rfl,rfl,tl,h0,Kr _ _⟩
  case round=>
    obtain⟨pre,rest,g,S,rfl,hcs,ht,hj,kr⟩:=hrel
    have Sr:SpaceAt wr P W0 f:=SW.keep kr (λ i hi hs=>by
      have:=lall i hi
      rcases hs with hs|hs
      . exact(hR i hs).2.2 hi
      . omega)
    have br:wr.heap[box]?=some (.cells #[.pointer (some ⟨P.s,0,none⟩)] 27 (0,0)):=kr.at_ bW (λ hs=>by
      rcases hs with hs|hs
      . exact(hR box hs).2.1 rfl
      . omega)
    have cb:=cell_of_one br
    have HS:=sE Sr
    have CG:=sE (HG.out wr Sr)
    cases rest with
    |nil=>
      obtain rfl:g=H:=ht
      gi_wp2_with fail
      refine⟨trivial,rfl,?_⟩
      refine(callsIn_wide.2 CG.out).mono ?_
      rintro e w' ⟨rfl,rfl⟩
      gi_wp2_with fail
      go_end0
      exact⟨⟨_,rfl⟩,.inl ⟨S,by rw[hcs,List.append_nil];exact hj⟩⟩
    |cons c rest=>
      obtain⟨rfl,hcp,ht'⟩:=ht
      have hle:=ht'.le
      have hmem:c∈cs:=by rw[hcs];simp
      have hg1:(c.g:Int)<(H:Int):=by omega
      obtain⟨s0,s1,s2⟩:=Sr.head
      have CHd:=sE (HHd.out wr Sr c hmem (by omega))
      gi_wp2_with fail
      refine⟨trivial,rfl,?_⟩
      refine(callsIn_wide.2 CG.out).mono ?_
      rintro e w' ⟨rfl,rfl⟩
      gi_wp2_with fail
      refine⟨trivial,rfl,?_⟩
      refine(callsIn_wide.2 CHd.out).mono ?_
      rintro e w1 ⟨rfl,k1⟩
      unfold Ak
      obtain⟨w2,hw2⟩:∃ w2,w2=w1.alloc (.cells #[.int .u8 (c.tag:Nat),.int .i64 (c.ty:Nat),.int .i64 (c.ln:Nat),.int .i64 (c.sz:Nat)] 52):=⟨_,rfl⟩
      have k2:Kp Ab w1 w2:=by rw[hw2];exact (Kr _ w1).alloc _
      have b2:w2.heap[w1.heap.size]?=some (.cells #[.int .u8 (c.tag:Nat),.int .i64 (c.ty:Nat),.int .i64 (c.ln:Nat),.int .i64 (c.sz:Nat)] 52 (0,0)):=by rw[hw2];exact wN w1 _
      gi_wp2_with fail
      rw[<- hw2]
      clear hw2
      have KD:Kp Ab w' w2.drew:=(k1.then' k2).drew
      have SD:=Sr.Ad KD
      have bD:=KD.at_ br (λ h=>h)
      have hD:w2.drew.heap[w1.heap.size]?=some (.cells #[.int .u8 (c.tag:Nat),.int .i64 (c.ty:Nat),.int .i64 (c.ln:Nat),.int .i64 (c.sz:Nat)] 52 (0,0)):=b2
      obtain⟨s0,s1,s2⟩:=SD.head
      have cb2:=cell_of_one bD
      have e0:w2.drew.cell? ⟨w1.heap.size,0,none⟩=some (.int .u8 (c.tag:Nat)):=by simp[World.cell?,hD]
      have e1:w2.drew.cell? ⟨w1.heap.size,1,none⟩=some (.int .i64 (c.ty:Nat)):=by simp[World.cell?,hD]
      have e2:w2.drew.cell? ⟨w1.heap.size,2,none⟩=some (.int .i64 (c.ln:Nat)):=by simp[World.cell?,hD]
      have e3:w2.drew.cell? ⟨w1.heap.size,3,none⟩=some (.int .i64 (c.sz:Nat)):=by simp[World.cell?,hD]
      have CF:=HFt.out w2.drew SD c hmem
      unfold Ak at CF
      have CFs:=sE CF
      have HSD:=sE SD
      have HhD:=sE hD
      clear CF SD hD b2 CG CHd HS
      have hd1:decide ((H:Int)-(c.g:Int)<(c.sz:Int))=false:=dF (by omega)
      have hwr:IntKind.i64.wrap ((H:Int)-(c.g:Int))=(H:Int)-(c.g:Int):=by rw[IntKind.wrap_i64];omega
      have hneR:∀ k,S k\/k=l->¬ k=w1.heap.size:=by
        intro k hk
        have z1:=hW.size
        have z2:=kr.size
        have z3:=k1.size
        rcases hk with hk|hk
        . have:=(hS pre S _ hj k hk).2
          omega
        . omega
      have hSR:∀ i,i<W.heap.size->(S i\/i=l)->(R i\/i=l):=by
        intro i hi h
        rcases h with h|h
        . rcases (hS pre S _ hj i h).1 with h|h
          . exact .inl h
          . omega
        . exact .inr h
      gi_region_with (first
        |(refine ⟨trivial,rfl,?_⟩)
        | (gi_at_call 51;refine (callsIn_wide.2 CFs.out).mono ?_;rintro e w3 ⟨rfl,k3⟩
           have S3:=HSD.out.Ad k3
           have h3:=k3.at_ HhD.out (λ h=>h)
           obtain⟨s0',s1',s2'⟩:=S3.head
           have cb3:=k3.cell cb2 (λ h=>h)
           have e0':=k3.cell e0 (λ h=>h)
           have e1':=k3.cell e1 (λ h=>h)
           have e2':=k3.cell e2 (λ h=>h)
           have e3':=k3.cell e3 (λ h=>h)
           have CG3:=sE (HG.out w3 S3)
           have J3:=hJ _ _ _ _ hj (KD.then' k3)
           have HY3:=sE (hY pre S c rest w3 hcs J3)
           have Hh3:=sE h3
           clear S3 h3 J3)
        |(gi_at_call 42;refine (callsIn_wide.2 CG3.out).mono ?_;rintro e w' ⟨rfl,rfl⟩)
        |(refine CU HY3.out rfl ?_;intro b B hB))
      all_goals
        rcases hB with ⟨rfl,hk,S',hT⟩|⟨rfl,hE⟩
        . have hB3:=hk.at_ Hh3.out (λ hs=>hneR _ hs rfl)
          have d3:B.cell? ⟨w1.heap.size,3,none⟩=some (.int .i64 (c.sz:Nat)):=by simp[World.cell?,hB3]
          have KB:=(kr.trans KD (λ _ _ h=>h.elim)).trans k3 (λ _ _ h=>h.elim)
          have KB2:=KB.trans hk hSR
          gi_wp2_with fail
          exact⟨⟨pre++[c],rest,c.g+c.sz,S',by simp,by rw[hcs,List.append_assoc];rfl,ht',hT,KB2⟩,by simp only[intOf];omega⟩
        . gi_wp2_with fail
          refine bodyPost_ret (results_none rfl _ _ _) rfl ?_
          exact⟨⟨_,rfl⟩,.inr ⟨_,⟨_,by rw[hcs,List.append_assoc];rfl⟩,hE⟩⟩

theorem cells_iter(P:Sp)(W0:Nat->Nat)(f:Nat->Bool)(cs:List Cel)(w:World)(box:Nat)(h:SpaceAt w P W0 f)(hc:CellsAt P W0 cs)(hb:w.heap[box]?=some (.cells #[.pointer (some ⟨P.s,0,none⟩)] 27 (0,0)))
    {R X:Nat->Prop} (hR:∀ k,R k->k<w.heap.size/\¬ k=box/\¬ P.all k):
    IterAt2 prog 118 #[.pointer (some ⟨box,0,none⟩)] (λ c=>#[cellV c]) cs Ab R X w:=
  (cells_iter3 P W0 f cs w box h hc hb hR).two (λ k hk=>(hR k hk).1)

end

section
open Go.RowKit
attribute [local go_sem] Oper.semAt_some

def Az(w:World)(P:Sp)(W:Nat->Nat)(cs:List Cel):Prop:=∃ f,SpaceAt w P W f/\CellsAt P W cs/\∀ i,i<P.n/2->f i=Ar cs i

def Ck(w:World)(P:Sp)(cs:List Cel):Prop:=∃ W,Az w P W cs

theorem Az.keep{S:Nat->Prop}{w w':World}{P:Sp}{W:Nat->Nat}{cs:List Cel}(h:Az w P W cs)(k:Kp S w w')(hS:∀ i,P.all i->¬ S i):Az w' P W cs:=
  let ⟨f,a,b,c⟩:=h;⟨f,a.keep k hS,b,c⟩

theorem Az.Ad{w w':World}{P:Sp}{W:Nat->Nat}{cs:List Cel}(h:Az w P W cs)(k:Kp Ab w w'):Az w' P W cs:=h.keep k (λ _ _ h=>h)

theorem Ck.keep{S:Nat->Prop}{w w':World}{P:Sp}{cs:List Cel}(h:Ck w P cs)(k:Kp S w w')(hS:∀ i,P.all i->¬ S i):Ck w' P cs:=
  let ⟨W,a⟩:=h;⟨W,a.keep k hS⟩

theorem Ck.Ad{w w':World}{P:Sp}{cs:List Cel}(h:Ck w P cs)(k:Kp Ab w w'):Ck w' P cs:=h.keep k (λ _ _ h=>h)

theorem Bf{w w':World}{p:Addr}{v:Value}(h:Kp Ab w w')(c:w.cell? p=some v):w'.cell? p=some v:=h.cell c (λ h=>h)

theorem Kp.Av{w w':World}(h:Kp Ab w w'){b j:Nat}(hb:w.heap.size<=b)(v:Value):Kp Ab w (w'.setCell ⟨b,j,none⟩ v):=
  h.setCell (λ hlt=>by have:b<w.heap.size:=hlt;omega) v

theorem KU{w w':World}(h:Kp Ab w w':=by repeat (first|assumption|exact Kr _ _|refine Kp.drew ?_|refine Kp.alloc ?_ _|refine Kp.Av ?_ (by omega) _)):Kp Ab w w':=h

def PutPost(P:Sp)(cs:List Cel)(g id n:Int)(w:World)(e:Ending)(w':World):Prop:=
  e=.returned (.int .i64 (Dt P.ts (P.n/2) cs g id n))/\Kp P.own w w'/\
    ((¬ Dt P.ts (P.n/2) cs g id n=0/\Ck w' P cs)\/
     (Dt P.ts (P.n/2) cs g id n=0/\∃ (pre:List Cel) (c:Cel) (post:List Cel) (j i l S:Nat),cs=pre++c::post/\¬ c.tag=1/\g=(j:Nat)/\id=(i:Nat)/\n=(l:Nat)/\Bj P.ts id n=(S:Nat)/\
        c.g<=j/\j+S<=c.fin/\0<S/\Ck w' P (putL pre c post j i l S)))

def FD(P:Sp)(cs:List Cel)(W:Nat->Nat)(g id n:Int)(w:World)(e:Ending)(w':World):Prop:=
  e=.returned (.int .i64 (Dt P.ts (P.n/2) cs g id n))/\Kp P.own w w'/\
    ((¬ Dt P.ts (P.n/2) cs g id n=0/\Az w' P W cs)\/
     (Dt P.ts (P.n/2) cs g id n=0/\∃ (pre:List Cel) (c:Cel) (post:List Cel) (j i l S:Nat),cs=pre++c::post/\¬ c.tag=1/\g=(j:Nat)/\id=(i:Nat)/\n=(l:Nat)/\Bj P.ts id n=(S:Nat)/\
        c.g<=j/\j+S<=c.fin/\0<S/\Az w' P (putW W c j i l S) (putL pre c post j i l S)))

theorem FD.weak{P:Sp}{cs:List Cel}{W:Nat->Nat}{g id n:Int}{w w':World}{e:Ending}(h:FD P cs W g id n w e w'):PutPost P cs g id n w e w':=by
  obtain⟨h1,h2,h3⟩:=h
  refine⟨h1,h2,?_⟩
  rcases h3 with ⟨a,b⟩|⟨a,pre,c,post,j,i,l,S,b1,b2,b3,b4,b5,b6,b7,b8,b9,b10⟩
  . exact .inl ⟨a,_,b⟩
  . exact .inr ⟨a,pre,c,post,j,i,l,S,b1,b2,b3,b4,b5,b6,b7,b8,b9,_,b10⟩

set_option maxRecDepth 20000 in
theorem Put_err(g id n:Int)(P:Sp)(cs:List Cel)(w:World)(W:Nat->Nat)(h:Az w P W cs)(he:¬ AQ P.ts id n=0):
    Calls prog 83 #[.pointer (some ⟨P.s,0,none⟩),.int .i64 g,.int .i64 id,.int .i64 n] w (FD P cs W g id n w):=by
  have hR:Sl (Dt P.ts (P.n/2) cs g id n=AQ P.ts id n):=⟨by rw[Dt,if_pos he]⟩
  have HO:Sl (∀ W' W0 f0,SpaceAt W' P W0 f0->Calls prog 102 #[.pointer (some ⟨P.t,0,none⟩),.int .i64 id,.int .i64 n] W' λ e w'=>e=.returned (.tuple #[.agg #[.int .u8 0,.int .i64 0,.int .i64 0,.int .i64 0],.int .i64 (AQ P.ts id n)])/\Kp Ab W' w'):=
    ⟨λ W' _ _ h'=>(EB id n P.t P.tq P.ts W' h'.tb).mono λ e w' hp=>by rw[BF,if_neg he] at hp;exact hp⟩
  obtain⟨E,hE⟩:∃ E,AQ P.ts id n=E:=⟨_,rfl⟩
  rw[hE] at HO hR
  have he':¬ E=0:=by rw[<- hE];exact he
  have hb:(E !=0)=true:=by simpa using he'
  clear he hE
  obtain⟨f,hs,hc,hst⟩:=h
  have HSs:=sE hs
  have HCs:=sE hc
  have HSt:=sE hst
  obtain⟨w5,hw5⟩:∃ w5,w5=((((w.alloc (.cells #[.pointer (some ⟨P.s,0,none⟩)] 27)).alloc (.cells #[.int .i64 g] 3)).alloc (.cells #[.int .i64 id] 3)).alloc (.cells #[.int .i64 n] 3)).alloc (.cells #[.int .i64 0] 37):=⟨_,rfl⟩
  have k5:Kp Ab w w5:=by rw[hw5];exact (((((Kr _ w).alloc _).alloc _).alloc _).alloc _).alloc _
  have z5:Sl (w5.heap.size=w.heap.size+1+1+1+1+1):=⟨by rw[hw5];simp⟩
  have g0:w5.heap[w.heap.size]?=some (.cells #[.pointer (some ⟨P.s,0,none⟩)] 27 (0,0)):=by
    rw[hw5];exact ((((Kr Ab _).alloc _).alloc _).alloc _ |>.alloc _).at_ (wN w _) (λ h=>h)
  have g1:w5.heap[w.heap.size+1]?=some (.cells #[.int .i64 g] 3 (0,0)):=by
    rw[hw5];exact (((Kr Ab _).alloc _).alloc _ |>.alloc _).at_ (Bp _ _ (by simp)) (λ h=>h)
  have g2:w5.heap[w.heap.size+1+1]?=some (.cells #[.int .i64 id] 3 (0,0)):=by
    rw[hw5];exact ((Kr Ab _).alloc _ |>.alloc _).at_ (Bp _ _ (by simp)) (λ h=>h)
  have g3:w5.heap[w.heap.size+1+1+1]?=some (.cells #[.int .i64 n] 3 (0,0)):=by
    rw[hw5];exact ((Kr Ab _).alloc _).at_ (Bp _ _ (by simp)) (λ h=>h)
  have g4:w5.heap[w.heap.size+1+1+1+1]?=some (.cells #[.int .i64 0] 37 (0,0)):=by
    rw[hw5];exact Bp _ _ (by simp)
  have S5:=hs.Ad k5
  have HB:=sE (And.intro g0 (And.intro g1 (And.intro g2 (And.intro g3 g4))))
  have c0:=cell_of_one g0
  have c1:=cell_of_one g1
  have c2:=cell_of_one g2
  have c3:=cell_of_one g3
  have c4:=cell_of_one g4
  have f4:=free_of_one g4
  obtain⟨s0,s1,s2⟩:=S5.head
  have HS5:=sE S5
  have lts:=hs.lt P.s (by simp[Sp.all])
  clear hs hc hst S5 g0 g1 g2 g3 g4
  refine(callsIn_wide (n:=0)).1 ?_
  refine callsIn_of_wp_marks func83 rfl trivial ?_
  simp only[ntmps83,List.size_toArray,List.length_cons,List.length_nil,Nat.reduceAdd,Nat.reduceSub,Array.replicate_succ,Array.replicate_zero,List.push_toArray,List.append_toArray,List.nil_append,List.cons_append]
  gi_wp2_with fail
  try rw[<- hw5]
  clear hw5
  gi_wp2_with fail
  refine wpIn_wide.2 ?_
  go_region_held3 (λ w'=>w'.cell? ⟨w.heap.size,0,none⟩=some (.pointer (some ⟨P.s,0,none⟩))/\w'.cell? ⟨w.heap.size+1+1,0,none⟩=some (.int .i64 id)/\w'.cell? ⟨w.heap.size+1+1+1,0,none⟩=some (.int .i64 n)/\w'.cell? ⟨P.s,1,none⟩=some (.pointer (some ⟨P.t,0,none⟩)))
    (exact ⟨Bf KU c0,Bf KU c2,Bf KU c3,Bf KU s1⟩)
    (first
      | (go_at_call 102;with_reducible refine(HO.out w5.drew W f (HS5.out.Ad (Kr Ab _).drew)).mono ?_;rintro e w6 ⟨rfl,k6⟩
         have KK:Kp Ab w5 w6:=(Kr Ab w5).drew.then' k6
         have KS:=KK.size)
      | (go_at_call 102;with_reducible refine(HO.out (w5.alloc (.cells #[.int .u8 0,.int .i64 0,.int .i64 0,.int .i64 0] 52)).drew W f (HS5.out.Ad ((Kr Ab _).alloc _).drew)).mono ?_;rintro e w6 ⟨rfl,k6⟩
         have KK:Kp Ab w5 w6:=((Kr Ab w5).alloc _).drew.then' k6
         have KS:=KK.size
         have B6:=k6.at_ (show (w5.alloc (.cells #[.int .u8 0,.int .i64 0,.int .i64 0,.int .i64 0] 52)).drew.heap[w5.heap.size]?=_ from wN w5 _) (λ h=>h)
         have fb0:=Ae B6 0
         have fb1:=Ae B6 1
         have fb2:=Ae B6 2
         have fb3:=Ae B6 3
         have db0:w6.cell? ⟨w5.heap.size,0,none⟩=some (.int .u8 0):=by simp[World.cell?,B6]
         have db1:w6.cell? ⟨w5.heap.size,1,none⟩=some (.int .i64 0):=by simp[World.cell?,B6]
         have db2:w6.cell? ⟨w5.heap.size,2,none⟩=some (.int .i64 0):=by simp[World.cell?,B6]
         have db3:w6.cell? ⟨w5.heap.size,3,none⟩=some (.int .i64 0):=by simp[World.cell?,B6]
         have HB6:=sE B6
         clear B6))
  all_goals
    first
      | (generalize hwz:World.setCell _ _ _=wz
         have kz:Kp Ab w5 wz:=by rw[<- hwz];(repeat (first|assumption|exact Kr _ _|refine Kp.drew ?_|refine Kp.alloc ?_ _|refine Kp.Av ?_ (by omega) _))
         clear hwz)
      | (generalize hwz:World.alloc _ _=wz
         have kz:Kp Ab w5 wz:=by rw[<- hwz];(repeat (first|assumption|exact Kr _ _|refine Kp.drew ?_|refine Kp.alloc ?_ _|refine Kp.Av ?_ (by omega) _))
         clear hwz)
    replace c4:=kz.cell c4 (λ h=>h)
    have f4:=free_of_one (kz.at_ HB.out.2.2.2.2 (λ h=>h))
    gi_wp2_with fail
    have kq:Kp (λ i=>i=w.heap.size+1+1+1+1) wz (wz.setCell ⟨w.heap.size+1+1+1+1,0,none⟩ (.int .i64 E)):=(Kr (λ i=>i=w.heap.size+1+1+1+1) wz).setCell (λ _=>rfl) _
    have e4:=cell_of_one (one_setCell (u:=.int .i64 E) (kz.at_ HB.out.2.2.2.2 (λ h=>h)))
    have kk:Kp Ab w wz:=k5.then' kz
    refine⟨.int .i64 E,by simp[results,results83,go_sem,e4],by rw[hR.out],(kk.Al P.own).trans kq (λ i hi h=>by omega),.inl ⟨by rw[hR.out];exact he',?_⟩⟩
    refine Az.keep ⟨f,HSs.out.Ad kk,HCs.out,HSt.out⟩ kq (λ i hi h=>by have:=HSs.out.lt i hi;omega)

end

section
open Go.RowKit
attribute [local go_sem] Oper.semAt_some

def Cr:List Cel->List Value
 |[]=>[]
 |c::cs=>.int .i64 (c.g:Nat)::.int .u8 (c.tag:Nat)::.int .i64 (c.ty:Nat)::.int .i64 (c.ln:Nat)::.int .i64 (c.sz:Nat)::Cr cs

theorem flatC_append:∀ (xs ys:List Cel),Cr (xs++ys)=Cr xs++Cr ys
 |[],ys=>rfl
 |x::xs,ys=>by simp[Cr,flatC_append xs ys]

theorem Ci:∀ {xs:List Cel} {a b:Nat},Au a xs b->xs.length<=b-a
 |[],a,b,h=>Nat.zero_le _
 |c::xs,a,b,⟨h1,h2,h3⟩=>by
  have:=Ci h3
  have:=h3.le
  simp only[List.length_cons]
  omega

theorem Ey:prog.underlying 40=some (.slice 71):=by kernel_rfl

theorem infoCell:(prog.info? 71).map (λ i=>(i.zero,i.size,i.bytes))=some (some (.agg #[.int .i64 0,.int .u8 0,.int .i64 0,.int .i64 0,.int .i64 0]),5,40):=by kernel_rfl

variable {Pr:Program}

theorem BD{ops:Array Oper}{Q:Exit->Act->World->Prop}{n r:Nat}(hq:∀ a w,¬ Q .outgrown a w):∀ (l:List Oper) (a:Act) (w:World),DV l.toArray=true->wpList Pr ops Q l a w->wpListIn (Fence.wide.inRound r) n Pr ops Q l a w
 |[],_,_,_,h=>h
 |o::l,a,w,hd,h=>by
  have hdo:∀ c,o.op≠.defer c:=noDefers_spec (ops:=(o::l).toArray) hd (i:=0) (o:=o) (by simp)
  have hdl:DV l.toArray=true:=by
   simp only[DV,List.all_toArray,List.all_cons,Bool.and_eq_true] at hd ⊢
   exact hd.2
  simp only[wpList] at h
  simp only[wpListIn]
  split
  .rename_i hw
   simp only[hw,if_true] at h
   rcases h with h|⟨_,a',w',h⟩
   .exact Oper.wpIn_of_wp hdo (Oper.wp_mono (λ a' w'=>BD hq l a' w' hdl) h)
   .exact (hq _ _ h).elim
  .rename_i hw
   simp only[hw] at h
   exact⟨λ _ _=>trivial,BD hq l _ w hdl h⟩

theorem Ah{S:Nat->Prop}{w w':World}{base:Nat}{e:TypeId}{size:Nat}{v:Value}{n:Nat}{xs:List Value}(h:w.ownsRow base e size v n xs)(k:Kp S w w')(hs:∀ b,v.ownBlock=some b->¬ S b):w'.ownsRow base e size v n xs:=by
 obtain⟨h1,h⟩:=h
 refine⟨h1,?_⟩
 rcases h with h|⟨g,cap,cur,rfl,h2,h3,h4⟩
 .exact .inl h
 .exact .inr ⟨g,cap,cur,rfl,h2,k.at_ h3 (hs g rfl),h4⟩

theorem Af{w:World}{base:Nat}{e:TypeId}{size:Nat}{v:Value}{n:Nat}{xs:List Value}(h:w.ownsRow base e size v n xs){b:Nat}(hb:v.ownBlock=some b):base<=b/\b<w.heap.size:=by
 obtain⟨h1,h⟩:=h
 rcases h with ⟨rfl,_⟩|⟨g,cap,cur,rfl,h2,h3,h4⟩
 .cases hb
 .obtain rfl:g=b:=by simpa [Value.ownBlock] using hb
  exact⟨h2,lZ h3⟩

theorem ownsRow_less{w:World}{base base':Nat}{e:TypeId}{size:Nat}{v:Value}{n:Nat}{xs:List Value}(h:w.ownsRow base e size v n xs)(hb:base'<=base):w.ownsRow base' e size v n xs:=by
 obtain⟨h1,h⟩:=h
 refine⟨h1,?_⟩
 rcases h with h|⟨g,cap,cur,rfl,h2,h3⟩
 .exact .inl h
 .exact .inr ⟨g,cap,cur,rfl,Nat.le_trans hb h2,h3⟩

def CellsI(b:Nat)(wl:World)(pre:List Cel)(S:Nat->Prop)(W':World):Prop:=
 ∃ v,W'.heap[b]?=some (.cells #[v] 40 (0,0))/\W'.ownsRow (wl.heap.size+2) 71 5 v pre.length (Cr pre)/\S=(λ k=>k=b\/v.ownBlock=some k)/\Kp (λ k=>k=b) wl W'

set_option maxRecDepth 20000 in
theorem Cells_at(P:Sp)(cs:List Cel)(w:World)(h:Ck w P cs):
  Calls prog 32 #[.pointer (some ⟨P.s,0,none⟩)] w λ e w'=>∃ v,e=.returned v/\w'.ownsRow w.heap.size 71 5 v cs.length (Cr cs)/\Kp Ab w w':=by
 obtain⟨W,f,hs,hc,hst⟩:=h
 have HSs:=sE hs
 have HCs:=sE hc
 have lts:=hs.lt P.s (by simp[Sp.all])
 have lw:=hs.lt
 have hlen:cs.length<=32768:=by
  have:=Ci hc.tl
  have:=hs.ar.small
  omega
 clear hs hc hst
 refine(callsIn_wide (n:=0)).1 ?_
 refine callsIn_of_wp_marks func32 rfl trivial ?_
 simp only[ntmps32,List.size_toArray,List.length_cons,List.length_nil,Nat.reduceAdd,Nat.reduceSub,Array.replicate_succ,Array.replicate_zero,List.push_toArray,List.append_toArray,List.nil_append,List.cons_append]
 gi_wp2_with fail
 refine⟨trivial,rfl,?_⟩
 obtain⟨w1,hw1⟩:∃ w1,w1=w.alloc (.cells #[.slice none 0 0] 40):=⟨_,rfl⟩
 rw[<- hw1]
 have k1:Kp Ab w w1:=by rw[hw1];exact (Kr _ w).alloc _
 have z1:w1.heap.size=w.heap.size+1:=by rw[hw1];simp
 have b1:w1.heap[w.heap.size]?=some (.cells #[.slice none 0 0] 40 (0,0)):=by rw[hw1];exact wN w _
 clear hw1
 refine(callsIn_wide.2 (cells_fn P w1)).mono ?_
 rintro e wl ⟨rfl,hwl⟩
 have hzl:wl.heap.size=w1.heap.size+1:=by rw[<- hwl];simp
 have kl:Kp Ab w1 wl:=by rw[<- hwl];exact (Kr _ w1).alloc _
 have gbx:wl.heap[w1.heap.size]?=some (.cells #[.pointer (some ⟨P.s,0,none⟩)] 27 (0,0)):=by rw[<- hwl];exact wN w1 _
 clear hwl
 have KL:Kp Ab w wl:=k1.then' kl
 have SL:=HSs.out.Ad KL
 have bl1:=kl.at_ b1 (λ h=>h)
 rw[z1] at gbx hzl
 gi_wp2_with fail
 refine wpIn_range3 (n:=0) (gf:=118) (lb:=#[.pointer (some ⟨w.heap.size+1,0,none⟩)]) rfl (enters_of func118 (by kernel_rfl) rfl)
  (cells_iter3 P W f cs wl (w.heap.size+1) SL HCs.out gbx (R:=λ k=>k=w.heap.size) (λ k hk=>by subst hk;exact ⟨by omega,by omega,λ h=>by have:=lw _ h;omega⟩)) (λ k hk=>hk.elim) (λ k hk=>by omega)
  (X:=λ _=>False) (λ k hk=>hk.elim) (λ _=>rfl)
  (λ pre S W'=>CellsI w.heap.size wl pre S W') (λ c pre W'=>False) (λ k=>k=w.heap.size\/(Value.slice none 0 0).ownBlock=some k) ?hS ?hI ?hIx ?h0 ?hround ?hdone ?hstop
 case hS=>
  rintro pre S A ⟨v,a1,a2,rfl,a4⟩ k hk
  rcases hk with hk|hk
  .exact ⟨.inl hk,by have:=lZ a1;omega⟩
  .have:=Af a2 hk
   exact⟨.inr this.1,this.2⟩
 case hI=>
  rintro pre S A B ⟨v,a1,a2,a3,a4⟩ hk
  exact⟨v,hk.at_ a1 (λ h=>by rcases h with h|h|h;exact h;omega;omega),Ah a2 hk (λ b hb h=>by have:=Af a2 hb;rcases h with h|h|h;exact h;omega;omega),a3,
   a4.trans hk (λ b hb h=>by rcases h with h|h|h;exact h.elim;omega;omega)⟩
 case hIx=>exact λ c pre A B h hk=>h
 case h0=>exact ⟨_,bl1,World.ownsRow_nil wl _ _ _,rfl,Kr _ _⟩
 case hround=>
  rintro pre S x rest W' hx ⟨v,a1,a2,a3,a4⟩ hs
  have hpl:pre.length+1<=cs.length:=by rw[hx];simp
  unfold cellV
  gi_wp2_with fail
  refine⟨(Kr _ W').alloc _,?_⟩
  intro W2 hc2 hf2 hk2 hs2 hr2
  have kW:Kp Ab W' (W'.alloc (.cells #[.int .i64 (x.g:Nat),.int .u8 (x.tag:Nat),.int .i64 (x.ty:Nat),.int .i64 (x.ln:Nat),.int .i64 (x.sz:Nat)] 71)):=(Kr _ W').alloc _
  have bc:=hk2.at_ (wN W' (.cells #[.int .i64 (x.g:Nat),.int .u8 (x.tag:Nat),.int .i64 (x.ty:Nat),.int .i64 (x.ln:Nat),.int .i64 (x.sz:Nat)] 71)) (by omega)
  have lW:=lZ a1
  have zW2:W2.heap.size=W'.heap.size+1:=by rw[hs2];simp
  have own1:(W2).ownsRow (wl.heap.size+2) 71 5 v pre.length (Cr pre):=Ah (Ah a2 kW (λ b hb h=>h)) hk2 (λ b hb h=>by have:=Af a2 hb;omega)
  have r0:=hk2.at_ (kW.at_ a1 (λ h=>h)) (by omega)
  have c0:=cell_of_one r0
  have fr0:=free_of_one r0
  have d0:W2.cell? ⟨W'.heap.size,0,none⟩=some (.int .i64 (x.g:Nat)):=by simp[World.cell?,bc]
  have d1:W2.cell? ⟨W'.heap.size,1,none⟩=some (.int .u8 (x.tag:Nat)):=by simp[World.cell?,bc]
  have d2:W2.cell? ⟨W'.heap.size,2,none⟩=some (.int .i64 (x.ty:Nat)):=by simp[World.cell?,bc]
  have d3:W2.cell? ⟨W'.heap.size,3,none⟩=some (.int .i64 (x.ln:Nat)):=by simp[World.cell?,bc]
  have d4:W2.cell? ⟨W'.heap.size,4,none⟩=some (.int .i64 (x.sz:Nat)):=by simp[World.cell?,bc]
  have HR0:=sE r0
  have HOW:=sE own1
  have HA2:=sE a2
  have HA4:=sE a4
  have HZ2:=sE zW2
  have lbW2:W'.heap.size<W2.heap.size:=by omega
  have lrW2:w.heap.size<W2.heap.size:=by omega
  obtain⟨i0,hi,hz0,hz1,hz2⟩:=info_parts infoCell
  have HNW:Sl (¬ v.ownBlock=some w.heap.size):=⟨λ e=>by have:=Af own1 e;omega⟩
  clear r0 own1 a2 a4 zW2 bc hs2 hc2 hf2 a1
  refine wpIn_block ?_
  refine wpIn_region_lit ?_
  refine BD (λ _ _ h=>h) _ _ _ (by kernel_rfl) ?_
  go_wp2_with (at_builtin;go_loud (refine wpList_append_lies _ rfl (.tmp 9) (.tmp 11) 40 rfl (wl.heap.size+2) 71 i0 (.agg #[.int .i64 0,.int .u8 0,.int .i64 0,.int .i64 0,.int .i64 0]) 5 40 Ey hi hz0 hz1 hz2 rfl (by omega) v pre.length (Cr pre) rfl (Kp.owns (S:=Ab) (a:=W2) KU HOW.out (λ b hb h=>h)) ⟨W2.heap.size,0,none⟩ 1 1 [.int .i64 (x.g:Nat),.int .u8 (x.tag:Nat),.int .i64 (x.ty:Nat),.int .i64 (x.ln:Nat),.int .i64 (x.sz:Nat)] rfl rfl (World.news_of_block (wN W2 _)) (by simp[Value.oneCell']) (by omega) (by unfold maxLen;omega) (by omega) (by simp;omega) _ rfl ?_);intro g cap w3 hown hgrow hat hlt;have KA:Kp (λ b=>v.ownBlock=some b) W2 w3:=((by (repeat (first|assumption|exact Kr _ _|refine Kp.drew ?_|refine Kp.alloc ?_ _|refine Kp.Av ?_ (by omega) _)):Kp Ab W2 _).Al (λ b=>v.ownBlock=some b)).grown hgrow (λ k e _=>e);have r3:=KA.at_ HR0.out HNW.out;have c3:=cell_of_one r3;have fr3:=free_of_one r3;have HR3:=sE r3;clear r3)
  subst a3
  have KB:Kp (λ b=>b=w.heap.size) w3 (w3.setCell ⟨w.heap.size,0,none⟩ (.slice (some ⟨g,0,none⟩) (pre.length+1) cap)):=(Kr (λ b=>b=w.heap.size) w3).setCell (λ _=>rfl) _
  refine⟨(KA.mono λ b hb h=>.inr h).trans KB (λ b hb h=>.inl h),_,.slice (some ⟨g,0,none⟩) (pre.length+1) cap,one_setCell HR3.out,?_,rfl,?_⟩
  .rw [flatC_append,List.length_append]
   exact Ah hown KB (λ b hb h=>by have:=Af hown hb;omega)
  .exact (((HA4.out.trans kW (λ b hb h=>h.elim)).trans hk2 (λ b hb h=>by omega)).trans KA (λ b hb h=>by have:=Af HOW.out h;omega)).trans KB (λ b hb h=>h)
 case hdone=>
  rintro S W' ⟨v,a1,a2,a3,a4⟩ hs hD
  obtain⟨va,vn,vc,hv⟩:∃ va vn vc,v=.slice va vn vc:=by
   rcases a2.2 with ⟨h,_⟩|⟨g,cap,cur,h,_⟩
   .exact ⟨_,_,_,h⟩
   .exact ⟨_,_,_,h⟩
  subst hv
  have c0:=cell_of_one a1
  have fr0:=free_of_one a1
  have HA1:=sE a1
  have HA2:=sE a2
  have HA4:=sE a4
  clear a1 a2 a3 a4
  gi_wp2_with fail
  obtain⟨w4,hw4⟩:∃ w4,w4=W'.setCell ⟨w.heap.size,0,none⟩ (.slice va vn vc):=⟨_,rfl⟩
  rw[<- hw4]
  have KB:Kp (λ b=>b=w.heap.size) W' w4:=by rw[hw4];exact (Kr (λ b=>b=w.heap.size) W').setCell (λ _=>rfl) _
  have b4:w4.heap[w.heap.size]?=some (.cells #[.slice va vn vc] 40 (0,0)):=by rw[hw4];exact one_setCell HA1.out
  clear hw4
  refine⟨by simp,.inl ⟨_,_,rfl,run_takeDeferred (KB.at_ hD (by omega)),?_⟩⟩
  have kE:Kp (λ b=>b=wl.heap.size) w4 (w4.putObj wl.heap.size (.deferred none)):=(Kr (λ b=>b=wl.heap.size) w4).putObj (λ _=>rfl) _
  have e4:=cell_of_one (kE.at_ b4 (by omega))
  refine⟨.slice va vn vc,by simp[results,results32,go_sem,e4],_,rfl,?_,?_⟩
  .refine ownsRow_less (Ah (Ah HA2.out KB (λ b hb h=>?_)) kE (λ b hb h=>?_)) (by omega)
   .have:=Af HA2.out hb;omega
   .have:=Af HA2.out hb;omega
  .exact (((KL.trans HA4.out (λ b hb h=>by omega)).trans KB (λ b hb h=>by omega)).trans kE (λ b hb h=>by omega))
 case hstop=>exact λ c pre W' hp h=>h.elim

end

section
open Go.RowKit

theorem Starts_at(P:Sp)(W:Nat->Nat)(f:Nat->Bool)(w:World)(h:SpaceAt w P W f):
  Calls prog 22 #[.pointer (some ⟨P.s,0,none⟩)] w λ e w'=>
   ∃ p q,e=.returned (.pointer (some ⟨p,0,none⟩))/\w.heap.size<=p/\w.heap.size<=q/\AO w' p q f (P.n/2)/\Kp Ab w w':=by
 obtain⟨c0,c1,c2⟩:=h.head
 have hb:=h.bt
 generalize P.n/2=H at hb
 clear h
 go_enter func22,ntmps22
 go_wp2_with fail
 refine(Copy_at H P.b P.bq f w hb).mono ?_
 rintro e w1 ⟨p,q,rfl,hp,hq,b1,k1⟩
 go_wp2
 go_ret
 exact⟨p,q,rfl,hp,hq,b1,k1⟩

theorem AO.ne'{w:World}{p q n:Nat}{f:Nat->Bool}(h:AO w p q f n):¬ p=q:=by
 obtain⟨ws,hw,_⟩:=h;exact hw.ne

def MadeSpaceW(w:World)(t tq n:Nat)(ts:List TypR)(e:Ending)(w':World):Prop:=
 ∃ P:Sp,P.t=t/\P.tq=tq/\P.ts=ts/\P.n=n/\e=.returned (.tuple #[.pointer (some ⟨P.s,0,none⟩),.int .i64 0])/\Az w' P (AX (λ _=>0) 0 (n/2)) (Fx 0 (n/2))/\(∀ k,P.own k->w.heap.size<=k)/\w.heap.size<=P.s/\w.heap.size<=P.b/\Kp Ab w w'

theorem ArenaAt.ne_'{w:World}{a q n:Nat}{W:Nat->Nat}(h:ArenaAt w a q W n):¬ a=q:=h.ne

theorem SNew_yesW(n t tq:Nat)(ts:List TypR)(w:World)(hT:TableAt w t tq ts)(hF:Aq w)(ht:t<w.heap.size)(htq:tq<w.heap.size)(h1:16<=n)(h2:n<=65536)(h3:n%2=0):
  Calls prog 81 #[.int .i64 (n:Nat),.pointer (some ⟨t,0,none⟩)] w (MadeSpaceW w t tq n ts):=by
 have hq:Sl (((n:Nat):Int)/2=((n/2:Nat):Int)):=⟨by omega⟩
 have hq':Sl (((n:Nat):Int).tdiv 2=((n/2:Nat):Int)):=⟨by rw[Int.tdiv_eq_ediv_of_nonneg (by omega)];omega⟩
 have HTT:=sE hT
 have HFF:=sE hF
 have hF0:=hF.1
 clear hT hF
 have HN3:=sE h3
 clear h3
 go_enter func81,ntmps81
 go_wp2_with fail
 refine(ANew_yes n w h1 h2 HN3.out).mono ?_
 rintro e w1 ⟨a,q,rfl,ha,hq1,ar1,k1⟩
 go_wp2_with fail
 try rw[hq.out]
 try rw[hq'.out]
 refine(New_yes (n/2) w1 (by omega)).mono ?_
 rintro e w2 ⟨b,bq,rfl,hb,hbq,bt2,k2⟩
 have HAR:=sE ar1
 have HBT:=sE bt2
 have la:=ar1.lt_a
 have lq:=ar1.lt_q
 have naq:=ar1.ne_'
 have lb:=bt2.lt_p'
 have lbq:=bt2.lt_q'
 have nbq:=bt2.ne'
 have z1:=k1.size
 have z2:=k2.size
 clear ar1 bt2 hq hq'
 go_wp2_with fail
 obtain⟨w3,hw3⟩:∃ w3,w3=w2.alloc (.cells #[.pointer (some ⟨a,0,none⟩),.pointer (some ⟨t,0,none⟩),.pointer (some ⟨b,0,none⟩)] 99):=⟨_,rfl⟩
 rw[<- hw3]
 have k3:Kp Ab w2 w3:=by rw[hw3];exact (Kr _ w2).alloc _
 have b3:w3.heap[w2.heap.size]?=some (.cells #[.pointer (some ⟨a,0,none⟩),.pointer (some ⟨t,0,none⟩),.pointer (some ⟨b,0,none⟩)] 99 (0,0)):=by rw[hw3];exact wN w2 _
 have z3:w3.heap.size=w2.heap.size+1:=by rw[hw3];simp
 clear hw3
 have K3:=(k1.then' k2).then' k3
 obtain⟨P,hP⟩:∃ P:Sp,P=⟨w2.heap.size,a,q,t,tq,b,bq,n,ts⟩:=⟨_,rfl⟩
 have S3:SpaceAt w3 P (λ _=>0) (λ _=>false):=by
  subst hP
  refine⟨b3,HAR.out.Ad (k2.then' k3),HTT.out.Ad K3,HBT.out.keep k3 (λ h=>h) (λ h=>h),HFF.out.Ad K3,⟨?_,?_,?_⟩,HN3.out,?_⟩
  .intro k hk
   simp only[Sp.own] at hk
   dsimp only
   omega
  .dsimp only;omega
  .dsimp only;omega
  .intro k hk
   simp only[Sp.all] at hk
   omega
 have hPs:P.s=w2.heap.size:=by rw[hP]
 have hPn:P.n/2=n/2:=by rw[hP]
 have HS3:=sE S3
 have HG:=Fe P _ _ w3 S3
 have HGp:Sl (Calls prog 123 #[.pointer (some ⟨P.s,0,none⟩),.int .i64 0,.int .i64 ((n/2:Nat):Int)] w3 (LaidGap P (AX (λ _=>0) 0 (n/2)) (λ _=>false) w3)):=⟨gap_any 0 (n/2) P _ _ w3 S3 (by rw[hPn];omega)⟩
 rw[hPn,hPs] at HG
 rw[hPs] at HGp
 have HGr:=sE HG
 have HPP:=sE hP
 have HZZ:=sE z3
 clear S3 HG hP z3 hPs hPn b3
 try go_wp2_with fail
 refine HGr.out.mono ?_
 rintro e w4 ⟨rfl,rfl⟩
 go_wp2_with fail
 refine HGp.out.mono ?_
 rintro e w5 ⟨rfl,k5,S5⟩
 have HS5:=sE S5
 clear S5
 go_wp2
 have hP:=HPP.out
 have z3:=HZZ.out
 refine bodyPost_ret (v:=.tuple #[.pointer (some ⟨w2.heap.size,0,none⟩),.int .i64 0]) (by simp[results,results81,go_sem]) rfl ⟨P,by rw[hP],by rw[hP],by rw[hP],by rw[hP],by rw[hP],⟨_,HS5.out,⟨?_,?_,?_⟩,?_⟩,?_,by rw[hP];dsimp only;omega,by rw[hP];dsimp only;omega,?_⟩
 .have:=Eb 0 (n/2)
  rw[hP]
  rwa [Nat.zero_add] at this
 .intro c hc
  obtain⟨h0,rfl⟩:=Cm hc
  exact EL h0
 .intro c hc
  obtain⟨h0,rfl⟩:=Cm hc
  exact gap_ok h0 (by omega)
 .intro i hi
  exact(DJ 0 (n/2) i).symm
 .intro k hk
  rw[hP] at hk
  simp only[Sp.own] at hk
  omega
 .refine K3.trans k5 (λ i hi h=>?_)
  rw[hP] at h
  dsimp only at h
  omega

theorem SNew_no(n:Int)(t:Nat)(w:World)(h:Du n=false):Calls prog 81 #[.int .i64 n,.pointer (some ⟨t,0,none⟩)] w λ e w'=>e=.returned (.tuple #[.pointer none,.int .i64 2])/\w'=w:=by
 have HA:=sE (ANew_no n w h)
 clear h
 go_enter func81,ntmps81
 go_wp2_with fail
 refine HA.out.mono ?_
 rintro e w' ⟨rfl,rfl⟩
 go_wp2
 exact bodyPost_ret (v:=.tuple #[.pointer none,.int .i64 2]) (by simp[results,results81,go_sem]) rfl ⟨rfl,rfl⟩

def RowC(w:World)(v:Value)(cs:List Cel):Prop:=
 ∃ a cap,v=.slice a cs.length cap/\∀ i x,cs[i]?=some x->∃ b,a=some ⟨b,0,none⟩/\b<w.heap.size/\
  w.cell? ⟨b,i*5,none⟩=some (.int .i64 (x.g:Nat))/\w.cell? ⟨b,i*5+1,none⟩=some (.int .u8 (x.tag:Nat))/\w.cell? ⟨b,i*5+2,none⟩=some (.int .i64 (x.ty:Nat))/\
  w.cell? ⟨b,i*5+3,none⟩=some (.int .i64 (x.ln:Nat))/\w.cell? ⟨b,i*5+4,none⟩=some (.int .i64 (x.sz:Nat))

theorem flatC_at:∀ (xs:List Cel) (i:Nat) (x:Cel),xs[i]?=some x->(Cr xs)[i*5]?=some (.int .i64 (x.g:Nat))/\(Cr xs)[i*5+1]?=some (.int .u8 (x.tag:Nat))/\(Cr xs)[i*5+2]?=some (.int .i64 (x.ty:Nat))/\(Cr xs)[i*5+3]?=some (.int .i64 (x.ln:Nat))/\(Cr xs)[i*5+4]?=some (.int .i64 (x.sz:Nat))
 |y::xs,0,x,h=>by
  simp at h
  subst h
  exact⟨rfl,rfl,rfl,rfl,rfl⟩
 |y::xs,i+1,x,h=>by
  have h2:xs[i]?=some x:=by simpa using h
  obtain⟨a,b,c,d,e⟩:=flatC_at xs i x h2
  have e0:(i+1)*5=i*5+5:=by omega
  rw[e0]
  exact⟨a,b,c,d,e⟩

theorem RowC.BK{w:World}{base:Nat}{v:Value}{cs:List Cel}(h:w.ownsRow base 71 5 v cs.length (Cr cs)):RowC w v cs:=by
 rcases h.2 with ⟨rfl,h0⟩|⟨g,cap,cur,rfl,g2,g3,g4,g5,g6,g7⟩
 .exact ⟨none,0,by rw[h0],λ i x hx=>by have:=(gE.1 hx).1;omega⟩
 .refine ⟨some ⟨g,0,none⟩,cap,rfl,λ i x hx=>?_⟩
  have hi:=(gE.1 hx).1
  obtain⟨x0,x1,x2,x3,x4⟩:=flatC_at cs i x hx
  have key:∀ j,j<cs.length*5->w.cell? ⟨g,j,none⟩=(Cr cs)[j]?:=λ j hj=>by
   rw[<- g7,List.getElem?_take_of_lt hj]
   simp[World.cell?,g3]
  exact⟨g,rfl,lZ g3,by rw[key _ (by omega)];exact x0,by rw[key _ (by omega)];exact x1,by rw[key _ (by omega)];exact x2,by rw[key _ (by omega)];exact x3,by rw[key _ (by omega)];exact x4⟩

theorem RowC.Ad{w w':World}{v:Value}{cs:List Cel}(h:RowC w v cs)(k:Kp Ab w w'):RowC w' v cs:=by
 obtain⟨a,cap,rfl,h⟩:=h
 refine⟨a,cap,rfl,λ i x hi=>?_⟩
 obtain⟨b,rfl,h1,h2,h3,h4,h5,h6⟩:=h i x hi
 exact⟨b,rfl,Nat.lt_of_lt_of_le h1 k.size,k.cell h2 (λ h=>h),k.cell h3 (λ h=>h),k.cell h4 (λ h=>h),k.cell h5 (λ h=>h),k.cell h6 (λ h=>h)⟩

theorem run_eq_head9(a b c d a' b' c' d':Int)(w:World):(Op.equalIn 9999 52 (.agg #[.int .u8 a,.int .i64 b,.int .i64 c,.int .i64 d]) (.agg #[.int .u8 a',.int .i64 b',.int .i64 c',.int .i64 d'])).run prog w=.ok (a==a'&&(b==b'&&(c==c'&&d==d'))) w:=by
 have u3:=underlying3
 have a3:=isAgg3
 have z3:=sizeOf3
 have u5:=underlying5
 have a5:=isAgg5
 have z5:=sizeOf5
 have hS:prog.underlying 52=some (.struct (prog.fieldsOf 52)):=by kernel_rfl
 rw[show (9999:Nat)=9998+1 from rfl,run_equalIn_agg w 9998 52 _ _ hS (by kernel_rfl)]
 simp only[Program.fieldsOf,underlying52]
 go_simp
 by_cases h1:a=a' <;> by_cases h2:b=b' <;> by_cases h3:c=c' <;> by_cases h4:d=d' <;> simp[h1,h2,h3,h4]

theorem run_eq_cell(g a b c d g' a' b' c' d':Int)(w:World):(Op.equalIn 10000 71 (.agg #[.int .i64 g,.int .u8 a,.int .i64 b,.int .i64 c,.int .i64 d]) (.agg #[.int .i64 g',.int .u8 a',.int .i64 b',.int .i64 c',.int .i64 d'])).run prog w=.ok (g==g'&&(a==a'&&(b==b'&&(c==c'&&d==d')))) w:=by
 have u3:=underlying3
 have a3:=isAgg3
 have z3:=sizeOf3
 have aH:=isAgg52
 have zH:=sizeOf52
 have hS:prog.underlying 71=some (.struct (prog.fieldsOf 71)):=by kernel_rfl
 have hE:=λ (w:World)=>run_eq_head9 a b c d a' b' c' d' w
 rw[show (10000:Nat)=9999+1 from rfl,run_equalIn_agg w 9999 71 _ _ hS (by kernel_rfl)]
 simp only[Program.fieldsOf,underlying71]
 go_simp
 by_cases h0:g=g' <;> by_cases h1:a=a' <;> by_cases h2:b=b' <;> by_cases h3:c=c' <;> by_cases h4:d=d' <;> simp[h0,h1,h2,h3,h4]

theorem run_neq_cell(g a b c d g' a' b' c' d':Int)(w:World):(binOp .neq 71 (.agg #[.int .i64 g,.int .u8 a,.int .i64 b,.int .i64 c,.int .i64 d]) (.agg #[.int .i64 g',.int .u8 a',.int .i64 b',.int .i64 c',.int .i64 d'])).run prog w=.ok (.bool (!(g==g'&&(a==a'&&(b==b'&&(c==c'&&d==d')))))) w:=by
 rw[run_neq_struct,run_eq_cell];rfl

theorem run_eql_cell(g a b c d g' a' b' c' d':Int)(w:World):(binOp .eql 71 (.agg #[.int .i64 g,.int .u8 a,.int .i64 b,.int .i64 c,.int .i64 d]) (.agg #[.int .i64 g',.int .u8 a',.int .i64 b',.int .i64 c',.int .i64 d'])).run prog w=.ok (.bool (g==g'&&(a==a'&&(b==b'&&(c==c'&&d==d'))))) w:=by
 rw[run_eql_struct,run_eq_cell];rfl

attribute [local go_sem ↓] run_neq_cell

end

section
open Go.RowKit
attribute [local go_sem ↓] run_neq_cell

def Ap(cs:List Cel):List Cel:=cs.filter λ c=>c.tag==1

def Bu(cs:List Cel):List Nat:=(Ap cs).map Cel.g

theorem obsG_len(cs:List Cel):(Bu cs).length<=cs.length:=by
 unfold Bu Ap
 rw[List.length_map]
 exact List.length_filter_le _ _

theorem objsOf_append(xs ys:List Cel):Ap (xs++ys)=Ap xs++Ap ys:=List.filter_append ..

def BM(cs:List Cel):Prop:=∀ c∈cs,¬ c.tag=1->c.tag=Dx c.sz/\c.ty=0/\c.ln=0

end

section
open Go.RowKit

theorem Dy{c:Cel}{xs:List Cel}:c∈Ap xs ↔ c∈xs/\c.tag=1:=by
 rw[Ap,List.mem_filter];simp

theorem BM.gap(g m:Nat):BM (Fx g m):=by
 intro c hc _
 obtain⟨_,rfl⟩:=Cm hc
 exact⟨rfl,rfl,rfl⟩

theorem BM.append{xs ys:List Cel}(h:BM xs)(k:BM ys):BM (xs++ys):=by
 intro c hc
 rcases List.mem_append.1 hc with hc|hc
 .exact h c hc
 .exact k c hc

theorem BM.left{xs ys:List Cel}(h:BM (xs++ys)):BM xs:=λ c hc=>h c (List.mem_append_left _ hc)

theorem BM.right{xs ys:List Cel}(h:BM (xs++ys)):BM ys:=λ c hc=>h c (List.mem_append_right _ hc)

theorem put_gaps{pre post:List Cel}{c:Cel}{j i l S:Nat}(h:BM (pre++c::post)):BM (putL pre c post j i l S):=by
 have h2:BM post:=λ d hd=>h d (List.mem_append_right _ (List.mem_cons_of_mem _ hd))
 refine h.left.append (((BM.gap _ _).append ?_).append h2)
 refine BM.append (xs:=[_]) (λ d hd ht=>?_) (BM.gap _ _)
 rw[List.mem_singleton.1 hd] at ht
 exact absurd rfl ht

theorem drop_gaps{cs p1 g1 g2 p2:List Cel}{c:Cel}{g x y:Nat}(h:BM cs)(hd:C9 cs g p1 g1 c g2 p2 x y):BM (dropL p1 p2 x y):=by
 obtain⟨e,-⟩:=hd
 subst e
 exact h.left.append ((BM.gap _ _).append h.right.right)

end

section
open Go.RowKit

def slotN(ts:List TypR)(c:Cel):Nat:=if c.tag=1 then (match typeOf ts (c.ty:Nat) with|some x=>(AL x.k x.wds (c.ln:Nat)).toNat|none=>0) else 0

theorem slotN_room{ts:List TypR}{c:Cel}(hok:C8 ts c)(hs:0<c.sz):slotN ts c+1<=2*c.sz:=by
 unfold slotN
 split
 .rename_i ht
  obtain⟨e1,e2⟩:=hok.2 ht
  split
  .rename_i x hx
   unfold Bj at e2
   rw[hx] at e2
   simp only[Fj] at e2
   omega
  .omega
 .omega

def cnt(p:Nat->Bool):Nat->Nat
 |0=>0
 |k+1=>cnt p k+(if p k then 1 else 0)

theorem SWord_no(y:Nat)(w:World)(h:y<1048576\/1114112<=y)(hy:y<18446744073709551616):Calls prog 63 #[.int .u64 (y:Nat)] w λ e w'=>e=.returned (.tuple #[.int .i64 0,.bool false])/\w'=w:=by
 by_cases h1:y<1048576
 .have d1:decide ((y:Int)<1048576)=true:=dT (by omega)
  clear h
  go_enter func63,ntmps63
  go_wp2
  go_ret2
  exact⟨rfl,rfl⟩
 .have d1:decide ((y:Int)<1048576)=false:=dF (by omega)
  have d2:decide ((65536:Int)<=(y:Int)-1048576)=true:=dT (by omega)
  have d3:IntKind.u64.wrap ((y:Int)-1048576)=(y:Int)-1048576:=by rw[IntKind.wrap_u64];omega
  clear h
  go_enter func63,ntmps63
  go_wp2
  go_ret2
  exact⟨rfl,rfl⟩

theorem SWord_yes(n:Nat)(w:World)(h:n<65536):Calls prog 63 #[.int .u64 ((1048576+n:Nat):Int)] w λ e w'=>e=.returned (.tuple #[.int .i64 (n:Nat),.bool true])/\w'=w:=by
 obtain⟨y,hy⟩:∃ y,y=1048576+n:=⟨_,rfl⟩
 rw[<- hy]
 have HY:Sl ((y:Int)-1048576=(n:Nat)):=⟨by omega⟩
 have d1:decide ((y:Int)<1048576)=false:=dF (by omega)
 have d2:decide ((65536:Int)<=(y:Int)-1048576)=false:=dF (by omega)
 have d3:IntKind.u64.wrap ((y:Int)-1048576)=(y:Int)-1048576:=by rw[IntKind.wrap_u64];omega
 have d4:IntKind.i64.wrap ((y:Int)-1048576)=(y:Int)-1048576:=by rw[IntKind.wrap_i64];omega
 clear hy
 go_enter func63,ntmps63
 go_wp2
 go_ret2
 exact⟨by rw[HY.out];rfl,rfl⟩

end

section
open Go.RowKit
attribute [local go_sem] Oper.semAt_some

set_option maxRecDepth 20000 in
theorem Put_out(g:Int)(i l S:Nat)(P:Sp)(cs:List Cel)(w:World)(W:Nat->Nat)(h:Az w P W cs)(he:AQ P.ts (i:Nat) (l:Nat)=0)(hS:Bj P.ts (i:Nat) (l:Nat)=(S:Nat))(ho:g<0\/((P.n/2:Nat):Int)<=g):
    Calls prog 83 #[.pointer (some ⟨P.s,0,none⟩),.int .i64 g,.int .i64 (i:Nat),.int .i64 (l:Nat)] w (FD P cs W g (i:Nat) (l:Nat) w):=by
  have hR:Sl (Dt P.ts (P.n/2) cs g (i:Nat) (l:Nat)=2):=⟨by rw[Dt,if_neg (by simpa using he),if_pos ho]⟩
  have HO:Sl (∀ W' W0 f0,SpaceAt W' P W0 f0->Calls prog 102 #[.pointer (some ⟨P.t,0,none⟩),.int .i64 (i:Nat),.int .i64 (l:Nat)] W' λ e w'=>e=.returned (.tuple #[.agg #[.int .u8 1,.int .i64 (i:Nat),.int .i64 (l:Nat),.int .i64 (S:Nat)],.int .i64 0])/\Kp Ab W' w'):=
    ⟨λ W' _ _ h'=>(EB (i:Nat) (l:Nat) P.t P.tq P.ts W' h'.tb).mono λ e w' hp=>by rw[BF,he,if_pos rfl,hS] at hp;exact hp⟩
  obtain⟨H,hH⟩:∃ H,P.n/2=H:=⟨_,rfl⟩
  have HG:Sl (∀ W' W0 f0,SpaceAt W' P W0 f0->Calls prog 42 #[.pointer (some ⟨P.s,0,none⟩)] W' λ e w''=>e=.returned (.int .i64 (H:Nat))/\w''=W'):=⟨λ w' W0 f0 h'=>by rw[<- hH];exact Fe P W0 f0 w' h'⟩
  rw[hH] at ho
  clear he hS hH
  obtain⟨f,hs,hc,hst⟩:=h
  have HSs:=sE hs
  have HCs:=sE hc
  have HSt:=sE hst
  obtain⟨w5,hw5⟩:∃ w5,w5=((((w.alloc (.cells #[.pointer (some ⟨P.s,0,none⟩)] 27)).alloc (.cells #[.int .i64 g] 3)).alloc (.cells #[.int .i64 (i:Nat)] 3)).alloc (.cells #[.int .i64 (l:Nat)] 3)).alloc (.cells #[.int .i64 0] 37):=⟨_,rfl⟩
  have k5:Kp Ab w w5:=by rw[hw5];exact (((((Kr _ w).alloc _).alloc _).alloc _).alloc _).alloc _
  have z5:Sl (w5.heap.size=w.heap.size+1+1+1+1+1):=⟨by rw[hw5];simp⟩
  have g0:w5.heap[w.heap.size]?=some (.cells #[.pointer (some ⟨P.s,0,none⟩)] 27 (0,0)):=by
    rw[hw5];exact ((((Kr Ab _).alloc _).alloc _).alloc _ |>.alloc _).at_ (wN w _) (λ h=>h)
  have g1:w5.heap[w.heap.size+1]?=some (.cells #[.int .i64 g] 3 (0,0)):=by
    rw[hw5];exact (((Kr Ab _).alloc _).alloc _ |>.alloc _).at_ (Bp _ _ (by simp)) (λ h=>h)
  have g2:w5.heap[w.heap.size+1+1]?=some (.cells #[.int .i64 (i:Nat)] 3 (0,0)):=by
    rw[hw5];exact ((Kr Ab _).alloc _ |>.alloc _).at_ (Bp _ _ (by simp)) (λ h=>h)
  have g3:w5.heap[w.heap.size+1+1+1]?=some (.cells #[.int .i64 (l:Nat)] 3 (0,0)):=by
    rw[hw5];exact ((Kr Ab _).alloc _).at_ (Bp _ _ (by simp)) (λ h=>h)
  have g4:w5.heap[w.heap.size+1+1+1+1]?=some (.cells #[.int .i64 0] 37 (0,0)):=by
    rw[hw5];exact Bp _ _ (by simp)
  have S5:=hs.Ad k5
  have HB:=sE (And.intro g0 (And.intro g1 (And.intro g2 (And.intro g3 g4))))
  have c0:=cell_of_one g0
  have c1:=cell_of_one g1
  have c2:=cell_of_one g2
  have c3:=cell_of_one g3
  have c4:=cell_of_one g4
  have f4:=free_of_one g4
  obtain⟨s0,s1,s2⟩:=S5.head
  have HS5:=sE S5
  have lts:=hs.lt P.s (by simp[Sp.all])
  clear hs hc hst S5 g0 g1 g2 g3 g4
  refine(callsIn_wide (n:=0)).1 ?_
  refine callsIn_of_wp_marks func83 rfl trivial ?_
  simp only[ntmps83,List.size_toArray,List.length_cons,List.length_nil,Nat.reduceAdd,Nat.reduceSub,Array.replicate_succ,Array.replicate_zero,List.push_toArray,List.append_toArray,List.nil_append,List.cons_append]
  gi_wp2_with fail
  try rw[<- hw5]
  clear hw5
  gi_wp2_with fail
  refine wpIn_wide.2 ?_
  go_region_held3 (λ w'=>w'.cell? ⟨w.heap.size,0,none⟩=some (.pointer (some ⟨P.s,0,none⟩))/\w'.cell? ⟨w.heap.size+1+1,0,none⟩=some (.int .i64 (i:Nat))/\w'.cell? ⟨w.heap.size+1+1+1,0,none⟩=some (.int .i64 (l:Nat))/\w'.cell? ⟨P.s,1,none⟩=some (.pointer (some ⟨P.t,0,none⟩)))
    (exact ⟨Bf KU c0,Bf KU c2,Bf KU c3,Bf KU s1⟩)
    (first
      | (go_at_call 102;with_reducible refine(HO.out w5.drew W f (HS5.out.Ad (Kr Ab _).drew)).mono ?_;rintro e w6 ⟨rfl,k6⟩
         have KK:Kp Ab w5 w6:=(Kr Ab w5).drew.then' k6
         have KS:=KK.size)
      | (go_at_call 102;with_reducible refine(HO.out (w5.alloc (.cells #[.int .u8 0,.int .i64 0,.int .i64 0,.int .i64 0] 52)).drew W f (HS5.out.Ad ((Kr Ab _).alloc _).drew)).mono ?_;rintro e w6 ⟨rfl,k6⟩
         have KK:Kp Ab w5 w6:=((Kr Ab w5).alloc _).drew.then' k6
         have KS:=KK.size
         have B6:=k6.at_ (show (w5.alloc (.cells #[.int .u8 0,.int .i64 0,.int .i64 0,.int .i64 0] 52)).drew.heap[w5.heap.size]?=_ from wN w5 _) (λ h=>h)
         have fb0:=Ae B6 0
         have fb1:=Ae B6 1
         have fb2:=Ae B6 2
         have fb3:=Ae B6 3
         have db0:w6.cell? ⟨w5.heap.size,0,none⟩=some (.int .u8 0):=by simp[World.cell?,B6]
         have db1:w6.cell? ⟨w5.heap.size,1,none⟩=some (.int .i64 0):=by simp[World.cell?,B6]
         have db2:w6.cell? ⟨w5.heap.size,2,none⟩=some (.int .i64 0):=by simp[World.cell?,B6]
         have db3:w6.cell? ⟨w5.heap.size,3,none⟩=some (.int .i64 0):=by simp[World.cell?,B6]
         have HB6:=sE B6
         clear B6))
  all_goals
    first
      | (generalize hwz:World.setCell _ _ _=wz
         have kz:Kp Ab w5 wz:=by rw[<- hwz];(repeat (first|assumption|exact Kr _ _|refine Kp.drew ?_|refine Kp.alloc ?_ _|refine Kp.Av ?_ (by omega) _))
         have bz:wz.heap[w5.heap.size]?=some (.cells #[.int .u8 1,.int .i64 (i:Nat),.int .i64 (l:Nat),.int .i64 (S:Nat)] 52 (0,0)):=by
           rw[<- hwz];exact bZ (bZ (bZ (bZ HB6.out (j:=0) _) (j:=1) _) (j:=2) _) (j:=3) _
         have lb9:w5.heap.size<wz.heap.size:=lZ bz
         have lb9':w5.heap.size<=w5.heap.size:=Nat.le_refl _
         generalize hb9:w5.heap.size=b9 at bz lb9 lb9' ⊢
         replace lb9':w5.heap.size<=b9:=by omega
         clear hwz)
      | (generalize hwz:World.alloc _ _=wz
         have kz:Kp Ab w5 wz:=by rw[<- hwz];(repeat (first|assumption|exact Kr _ _|refine Kp.drew ?_|refine Kp.alloc ?_ _|refine Kp.Av ?_ (by omega) _))
         have bz:wz.heap[w6.heap.size]?=some (.cells #[.int .u8 1,.int .i64 (i:Nat),.int .i64 (l:Nat),.int .i64 (S:Nat)] 52 (0,0)):=by
           rw[<- hwz];exact wN w6 _
         have lb9:w6.heap.size<wz.heap.size:=lZ bz
         have lb9':w5.heap.size<=w6.heap.size:=KS
         generalize hb9:w6.heap.size=b9 at bz lb9 lb9' ⊢
         clear hwz)
    clear hb9
    replace c0:=kz.cell c0 (λ h=>h)
    replace c1:=kz.cell c1 (λ h=>h)
    replace c4:=kz.cell c4 (λ h=>h)
    have f4:=free_of_one (kz.at_ HB.out.2.2.2.2 (λ h=>h))
    have SZ:=HS5.out.Ad kz
    have HSZ:=sE SZ
    clear SZ
    gi_wp2_with fail
    rcases ho with ho|ho
    . have hd0:decide (g<0)=true:=dT ho
      refine wpIn_wide.2 ?_
      go_quiet (first|(go_at_call 42;with_reducible refine Calls.quiet_of_same (HG.out _ W f ?_);(first|exact HSZ.out|exact HSZ.out.Ad (Kr Ab _).drew|exact HSZ.out.Ad (Kp.Aj _)|exact HSZ.out.Ad ((Kp.Aj _).drewN _))))
      gi_wp2_with fail
      have kw:Kp Ab w (wz.drewN nq):=(k5.then' kz).drewN nq
      have B4:(wz.drewN nq).heap[w.heap.size+1+1+1+1]?=some (.cells #[.int .i64 0] 37 (0,0)):=kz.at_ HB.out.2.2.2.2 (λ h=>h)
      have kq:Kp (λ i=>i=w.heap.size+1+1+1+1) (wz.drewN nq) ((wz.drewN nq).setCell ⟨w.heap.size+1+1+1+1,0,none⟩ (.int .i64 2)):=(Kr (λ i=>i=w.heap.size+1+1+1+1) (wz.drewN nq)).setCell (λ _=>rfl) _
      have e4:=cell_of_one (one_setCell (u:=.int .i64 2) B4)
      refine⟨.int .i64 2,by simp[results,results83,go_sem,e4],by rw[hR.out],(kw.Al P.own).trans kq (λ i hi h=>by omega),.inl ⟨by rw[hR.out];omega,?_⟩⟩
      refine Az.keep ⟨f,HSs.out.Ad kw,HCs.out,HSt.out⟩ kq (λ i hi h=>by have:=HSs.out.lt i hi;omega)
    . have hd0:decide (g<0)=false:=dF (by omega)
      have hd1:decide ((H:Int)<=g)=true:=dT ho
      refine wpIn_wide.2 ?_
      go_quiet (first|(go_at_call 42;with_reducible refine Calls.quiet_of_same (HG.out _ W f ?_);(first|exact HSZ.out|exact HSZ.out.Ad (Kr Ab _).drew|exact HSZ.out.Ad (Kp.Aj _)|exact HSZ.out.Ad ((Kp.Aj _).drewN _))))
      gi_wp2_with fail
      have kw:Kp Ab w (wz.drewN nq):=(k5.then' kz).drewN nq
      have B4:(wz.drewN nq).heap[w.heap.size+1+1+1+1]?=some (.cells #[.int .i64 0] 37 (0,0)):=kz.at_ HB.out.2.2.2.2 (λ h=>h)
      have kq:Kp (λ i=>i=w.heap.size+1+1+1+1) (wz.drewN nq) ((wz.drewN nq).setCell ⟨w.heap.size+1+1+1+1,0,none⟩ (.int .i64 2)):=(Kr (λ i=>i=w.heap.size+1+1+1+1) (wz.drewN nq)).setCell (λ _=>rfl) _
      have e4:=cell_of_one (one_setCell (u:=.int .i64 2) B4)
      refine⟨.int .i64 2,by simp[results,results83,go_sem,e4],by rw[hR.out],(kw.Al P.own).trans kq (λ i hi h=>by omega),.inl ⟨by rw[hR.out];omega,?_⟩⟩
      refine Az.keep ⟨f,HSs.out.Ad kw,HCs.out,HSt.out⟩ kq (λ i hi h=>by have:=HSs.out.lt i hi;omega)

end

section
open Go.RowKit
attribute [local go_sem] Oper.semAt_some

theorem BR{Pr:Program}{l n:Nat}{f:FuncId}{args:Array Value}{w:World}{R:Ending->World->Prop}(h:Calls Pr f args w R):CallsIn (Fence.wide.inRound l) n Pr f args w R:=
  (callsIn_wide (n:=n)).2 h

structure PutHeld(P:Sp)(z j S b9 bc:Nat)(i l:Nat)(x:Cel)(A:World):Prop where
  h0:A.heap[z]?=some (.cells #[.pointer (some ⟨P.s,0,none⟩)] 27 (0,0))
  h1:A.heap[z+1]?=some (.cells #[.int .i64 (j:Nat)] 3 (0,0))
  h4:A.heap[z+1+1+1+1]?=some (.cells #[.int .i64 0] 37 (0,0))
  h9:A.heap[b9]?=some (.cells #[.int .u8 1,.int .i64 (i:Nat),.int .i64 (l:Nat),.int .i64 (S:Nat)] 52 (0,0))
  hc:A.heap[bc]?=some (.cells #[.int .i64 (x.g:Nat),.int .u8 (x.tag:Nat),.int .i64 (x.ty:Nat),.int .i64 (x.ln:Nat),.int .i64 (x.sz:Nat)] 71 (0,0))

theorem PutHeld.keep{P:Sp}{z j S b9 bc i l:Nat}{x:Cel}{A B:World}{T:Nat->Prop}(h:PutHeld P z j S b9 bc i l x A)(k:Kp T A B)(hT:∀ b,T b->b<z)(h9:z<=b9)(hc:z<=bc):PutHeld P z j S b9 bc i l x B:=
  ⟨k.at_ h.h0 (λ e=>by have:=hT _ e;omega),k.at_ h.h1 (λ e=>by have:=hT _ e;omega),k.at_ h.h4 (λ e=>by have:=hT _ e;omega),k.at_ h.h9 (λ e=>by have:=hT _ e;omega),k.at_ h.hc (λ e=>by have:=hT _ e;omega)⟩

theorem PutHeld.cells{P:Sp}{z j S b9 bc i l:Nat}{x:Cel}{A:World}(h:PutHeld P z j S b9 bc i l x A):
    A.cell? ⟨z,0,none⟩=some (.pointer (some ⟨P.s,0,none⟩))/\A.cell? ⟨z+1,0,none⟩=some (.int .i64 (j:Nat))/\A.cell? ⟨b9,3,none⟩=some (.int .i64 (S:Nat))/\A.cell? ⟨bc,0,none⟩=some (.int .i64 (x.g:Nat))/\
      A.cell? ⟨z+1+1+1+1,0,none⟩=some (.int .i64 0)/\A.frozen? ⟨z+1+1+1+1,0,none⟩=false:=by
  have a:=h.h9
  have b:=h.hc
  exact⟨cell_of_one h.h0,cell_of_one h.h1,by simp[World.cell?,a],by simp[World.cell?,b],cell_of_one h.h4,free_of_one h.h4⟩

def PutIx(P:Sp)(cs:List Cel)(V:Nat->Nat)(g id n:Int)(wl:World)(res:Nat)(c:Code)(W:World):Prop:=
  c=.ret/\W.heap[res]?=some (.cells #[.int .i64 (Dt P.ts (P.n/2) cs g id n)] 37 (0,0))/\Kp (λ k=>P.own k\/k=res) wl W/\
    ((¬ Dt P.ts (P.n/2) cs g id n=0/\Az W P V cs)\/
     (Dt P.ts (P.n/2) cs g id n=0/\∃ (pre:List Cel) (c:Cel) (post:List Cel) (j i l S:Nat),cs=pre++c::post/\¬ c.tag=1/\g=(j:Nat)/\id=(i:Nat)/\n=(l:Nat)/\Bj P.ts id n=(S:Nat)/\
        c.g<=j/\j+S<=c.fin/\0<S/\Az W P (putW V c j i l S) (putL pre c post j i l S)))

set_option maxRecDepth 20000 in
theorem Put_in(j i l S:Nat)(P:Sp)(cs:List Cel)(w:World)(W:Nat->Nat)(h:Az w P W cs)(he:AQ P.ts (i:Nat) (l:Nat)=0)(hS:Bj P.ts (i:Nat) (l:Nat)=(S:Nat))(hS0:0<S)(hok:C8 P.ts ⟨0,1,i,l,S⟩)(hj:j<P.n/2):
    Calls prog 83 #[.pointer (some ⟨P.s,0,none⟩),.int .i64 (j:Nat),.int .i64 (i:Nat),.int .i64 (l:Nat)] w (FD P cs W (j:Nat) (i:Nat) (l:Nat) w):=by
  have hcell:∃ p0 c0' q0,cs=p0++c0'::q0/\c0'.g<=j/\j<c0'.fin/\∀ d∈p0,d.fin<=c0'.g:=by
    obtain⟨_,_,hc,_⟩:=h
    exact cell_split hc.tl (Nat.zero_le _) hj
  obtain⟨p0,c0',q0,hcs,hc1,hc2,hc3⟩:=hcell
  have hm0:c0'∈cs:=by rw[hcs];simp
  clear hcs hc3
  have hR:Sl (∀ pre c post,cs=pre++c::post->(∀ d∈pre,d.fin<=j)->j<c.fin->Dt P.ts (P.n/2) cs (j:Nat) (i:Nat) (l:Nat)=if c.tag=1\/(c.fin:Int)-(j:Nat)<(S:Nat) then 3 else 0):=⟨by
    intro pre c post e1 e2 e3
    rw[Dt,if_neg (by simpa using he),if_neg (by omega),e1,cellOf_at (g:=(j:Nat)) (λ d hd=>by have:=e2 d hd;omega) (by omega),hS]⟩
  have HO:Sl (∀ W' W0 f0,SpaceAt W' P W0 f0->Calls prog 102 #[.pointer (some ⟨P.t,0,none⟩),.int .i64 (i:Nat),.int .i64 (l:Nat)] W' λ e w'=>e=.returned (.tuple #[.agg #[.int .u8 1,.int .i64 (i:Nat),.int .i64 (l:Nat),.int .i64 (S:Nat)],.int .i64 0])/\Kp Ab W' w'):=
    ⟨λ W' _ _ h'=>(EB (i:Nat) (l:Nat) P.t P.tq P.ts W' h'.tb).mono λ e w' hp=>by rw[BF,he,if_pos rfl,hS] at hp;exact hp⟩
  have hn:P.n<=65536:=by obtain⟨_,hs,_⟩:=h;exact hs.ar.small
  have HCell:Sl (∀ W pre c post,CellsAt P W cs->cs=pre++c::post->(∀ d∈pre,d.fin<=j)->c.g<=j/\c.g+c.sz<=P.n/2/\C8 P.ts c):=⟨by
    intro W pre c post hc e1 e2
    have hm:=hc.tl.mem (c:=c) (by rw[e1];simp)
    refine⟨?_,hm.2.1,hc.ok c (by rw[e1];simp)⟩
    have ht:=hc.tl
    rw[e1] at ht
    obtain⟨x,t1,t2⟩:=ht.split
    rw[t2.1]
    exact tiles_fin t1 e2 (Nat.zero_le _)⟩
  have HSz:Sl (Bj P.ts (i:Nat) (l:Nat)=(S:Nat)/\AQ P.ts (i:Nat) (l:Nat)=0/\C8 P.ts ⟨0,1,i,l,S⟩):=⟨⟨hS,he,hok⟩⟩
  obtain⟨H,hH⟩:∃ H,P.n/2=H:=⟨_,rfl⟩
  have HG:Sl (∀ W' W0 f0,SpaceAt W' P W0 f0->Calls prog 42 #[.pointer (some ⟨P.s,0,none⟩)] W' λ e w''=>e=.returned (.int .i64 (H:Nat))/\w''=W'):=⟨λ w' W0 f0 h'=>by rw[<- hH];exact Fe P W0 f0 w' h'⟩
  have HH:Sl (P.n/2=H):=⟨hH⟩
  rw[hH] at hj
  have hH2:H<=32768:=by omega
  clear he hS hH hok hn
  obtain⟨f,hs,hc,hst⟩:=h
  have HSs:=sE hs
  have HCs:=sE hc
  have HSt:=sE hst
  obtain⟨w5,hw5⟩:∃ w5,w5=((((w.alloc (.cells #[.pointer (some ⟨P.s,0,none⟩)] 27)).alloc (.cells #[.int .i64 (j:Nat)] 3)).alloc (.cells #[.int .i64 (i:Nat)] 3)).alloc (.cells #[.int .i64 (l:Nat)] 3)).alloc (.cells #[.int .i64 0] 37):=⟨_,rfl⟩
  have k5:Kp Ab w w5:=by rw[hw5];exact (((((Kr _ w).alloc _).alloc _).alloc _).alloc _).alloc _
  have z5:Sl (w5.heap.size=w.heap.size+1+1+1+1+1):=⟨by rw[hw5];simp⟩
  have g0:w5.heap[w.heap.size]?=some (.cells #[.pointer (some ⟨P.s,0,none⟩)] 27 (0,0)):=by
    rw[hw5];exact ((((Kr Ab _).alloc _).alloc _).alloc _ |>.alloc _).at_ (wN w _) (λ h=>h)
  have g1:w5.heap[w.heap.size+1]?=some (.cells #[.int .i64 (j:Nat)] 3 (0,0)):=by
    rw[hw5];exact (((Kr Ab _).alloc _).alloc _ |>.alloc _).at_ (Bp _ _ (by simp)) (λ h=>h)
  have g2:w5.heap[w.heap.size+1+1]?=some (.cells #[.int .i64 (i:Nat)] 3 (0,0)):=by
    rw[hw5];exact ((Kr Ab _).alloc _ |>.alloc _).at_ (Bp _ _ (by simp)) (λ h=>h)
  have g3:w5.heap[w.heap.size+1+1+1]?=some (.cells #[.int .i64 (l:Nat)] 3 (0,0)):=by
    rw[hw5];exact ((Kr Ab _).alloc _).at_ (Bp _ _ (by simp)) (λ h=>h)
  have g4:w5.heap[w.heap.size+1+1+1+1]?=some (.cells #[.int .i64 0] 37 (0,0)):=by
    rw[hw5];exact Bp _ _ (by simp)
  have S5:=hs.Ad k5
  have HB:=sE (And.intro g0 (And.intro g1 (And.intro g2 (And.intro g3 g4))))
  have c0:=cell_of_one g0
  have c1:=cell_of_one g1
  have c2:=cell_of_one g2
  have c3:=cell_of_one g3
  have c4:=cell_of_one g4
  have f4:=free_of_one g4
  obtain⟨s0,s1,s2⟩:=S5.head
  have HS5:=sE S5
  have lts:=hs.lt P.s (by simp[Sp.all])
  clear hs hc hst S5 g0 g1 g2 g3 g4
  refine(callsIn_wide (n:=0)).1 ?_
  refine callsIn_of_wp_marks func83 rfl trivial ?_
  simp only[ntmps83,List.size_toArray,List.length_cons,List.length_nil,Nat.reduceAdd,Nat.reduceSub,Array.replicate_succ,Array.replicate_zero,List.push_toArray,List.append_toArray,List.nil_append,List.cons_append]
  gi_wp2_with fail
  try rw[<- hw5]
  clear hw5
  gi_wp2_with fail
  refine wpIn_wide.2 ?_
  go_region_held3 (λ w'=>w'.cell? ⟨w.heap.size,0,none⟩=some (.pointer (some ⟨P.s,0,none⟩))/\w'.cell? ⟨w.heap.size+1+1,0,none⟩=some (.int .i64 (i:Nat))/\w'.cell? ⟨w.heap.size+1+1+1,0,none⟩=some (.int .i64 (l:Nat))/\w'.cell? ⟨P.s,1,none⟩=some (.pointer (some ⟨P.t,0,none⟩)))
    (exact ⟨Bf KU c0,Bf KU c2,Bf KU c3,Bf KU s1⟩)
    (first
      | (go_at_call 102;with_reducible refine(HO.out w5.drew W f (HS5.out.Ad (Kr Ab _).drew)).mono ?_;rintro e w6 ⟨rfl,k6⟩
         have KK:Kp Ab w5 w6:=(Kr Ab w5).drew.then' k6
         have KS:=KK.size)
      | (go_at_call 102;with_reducible refine(HO.out (w5.alloc (.cells #[.int .u8 0,.int .i64 0,.int .i64 0,.int .i64 0] 52)).drew W f (HS5.out.Ad ((Kr Ab _).alloc _).drew)).mono ?_;rintro e w6 ⟨rfl,k6⟩
         have KK:Kp Ab w5 w6:=((Kr Ab w5).alloc _).drew.then' k6
         have KS:=KK.size
         have B6:=k6.at_ (show (w5.alloc (.cells #[.int .u8 0,.int .i64 0,.int .i64 0,.int .i64 0] 52)).drew.heap[w5.heap.size]?=_ from wN w5 _) (λ h=>h)
         have fb0:=Ae B6 0
         have fb1:=Ae B6 1
         have fb2:=Ae B6 2
         have fb3:=Ae B6 3
         have db0:w6.cell? ⟨w5.heap.size,0,none⟩=some (.int .u8 0):=by simp[World.cell?,B6]
         have db1:w6.cell? ⟨w5.heap.size,1,none⟩=some (.int .i64 0):=by simp[World.cell?,B6]
         have db2:w6.cell? ⟨w5.heap.size,2,none⟩=some (.int .i64 0):=by simp[World.cell?,B6]
         have db3:w6.cell? ⟨w5.heap.size,3,none⟩=some (.int .i64 0):=by simp[World.cell?,B6]
         have HB6:=sE B6
         clear B6))
  all_goals
    first
      | (generalize hwz:World.setCell _ _ _=wz
         have kz:Kp Ab w5 wz:=by rw[<- hwz];(repeat (first|assumption|exact Kr _ _|refine Kp.drew ?_|refine Kp.alloc ?_ _|refine Kp.Av ?_ (by omega) _))
         have bz:wz.heap[w5.heap.size]?=some (.cells #[.int .u8 1,.int .i64 (i:Nat),.int .i64 (l:Nat),.int .i64 (S:Nat)] 52 (0,0)):=by
           rw[<- hwz];exact bZ (bZ (bZ (bZ HB6.out (j:=0) _) (j:=1) _) (j:=2) _) (j:=3) _
         have lb9:w5.heap.size<wz.heap.size:=lZ bz
         have lb9':w5.heap.size<=w5.heap.size:=Nat.le_refl _
         generalize hb9:w5.heap.size=b9 at bz lb9 lb9' ⊢
         replace lb9':w5.heap.size<=b9:=by omega
         clear hwz)
      | (generalize hwz:World.alloc _ _=wz
         have kz:Kp Ab w5 wz:=by rw[<- hwz];(repeat (first|assumption|exact Kr _ _|refine Kp.drew ?_|refine Kp.alloc ?_ _|refine Kp.Av ?_ (by omega) _))
         have bz:wz.heap[w6.heap.size]?=some (.cells #[.int .u8 1,.int .i64 (i:Nat),.int .i64 (l:Nat),.int .i64 (S:Nat)] 52 (0,0)):=by
           rw[<- hwz];exact wN w6 _
         have lb9:w6.heap.size<wz.heap.size:=lZ bz
         have lb9':w5.heap.size<=w6.heap.size:=KS
         generalize hb9:w6.heap.size=b9 at bz lb9 lb9' ⊢
         clear hwz)
    clear hb9
    replace c0:=kz.cell c0 (λ h=>h)
    replace c1:=kz.cell c1 (λ h=>h)
    replace c4:=kz.cell c4 (λ h=>h)
    have f4:=free_of_one (kz.at_ HB.out.2.2.2.2 (λ h=>h))
    have SZ:=HS5.out.Ad kz
    have HSZ:=sE SZ
    clear SZ
    gi_wp2_with fail
    have hd0:decide ((j:Int)<0)=false:=dF (by omega)
    have hd1:decide ((H:Int)<=(j:Int))=false:=dF (by omega)
    refine wpIn_wide.2 ?_
    go_quiet (first|(go_at_call 42;with_reducible refine Calls.quiet_of_same (HG.out _ W f ?_);(first|exact HSZ.out|exact HSZ.out.Ad (Kr Ab _).drew|exact HSZ.out.Ad (Kp.Aj _)|exact HSZ.out.Ad ((Kp.Aj _).drewN _))))
    obtain⟨wq,hwq⟩:∃ wq,wq=wz.drewN nq:=⟨_,rfl⟩
    rw[<- hwq]
    have kq:Kp Ab wz wq:=by rw[hwq];exact Kp.Aj _
    clear hwq hd0 hd1
    have K0:Kp Ab w wq:=(k5.then' kz).then' kq
    have bq9:=kq.at_ bz (λ h=>h)
    have lbq:b9<wq.heap.size:=lZ bq9
    replace c0:=kq.cell c0 (λ h=>h)
    obtain⟨hz5⟩:=z5
    gi_wp2_with fail
    refine⟨trivial,rfl,?_⟩
    refine(callsIn_wide.2 (cells_fn P wq)).mono ?_
    rintro e wl ⟨rfl,hwl⟩
    have hzl:wl.heap.size=wq.heap.size+1:=by rw[<- hwl];simp
    have kl:Kp Ab wq wl:=by rw[<- hwl];exact (Kr _ wq).alloc _
    have gbx:wl.heap[wq.heap.size]?=some (.cells #[.pointer (some ⟨P.s,0,none⟩)] 27 (0,0)):=by rw[<- hwl];exact wN wq _
    clear hwl
    have KL:Kp Ab w wl:=K0.then' kl
    have K5L:Kp Ab w5 wl:=(kz.then' kq).then' kl
    have SL:=HSs.out.Ad KL
    have hsz:=KL.size
    have bl9:=kl.at_ bq9 (λ h=>h)
    have r0:=K5L.at_ HB.out.1 (λ h=>h)
    have r1:=K5L.at_ HB.out.2.1 (λ h=>h)
    have r2:=K5L.at_ HB.out.2.2.1 (λ h=>h)
    have r3:=K5L.at_ HB.out.2.2.2.1 (λ h=>h)
    have r4:=K5L.at_ HB.out.2.2.2.2 (λ h=>h)
    have l4:=lZ r4
    have HRL:=sE (And.intro r0 (And.intro r1 (And.intro r2 (And.intro r3 (And.intro r4 bl9)))))
    have HSL:=sE SL
    have lall:=SL.lt
    have lw:∀ k,P.all k->k<w.heap.size:=HSs.out.lt
    have lown:∀ k,P.own k->P.all k:=λ k hk=>by simp only[Sp.own] at hk;simp only[Sp.all];omega
    clear r0 r1 r2 r3 r4 c0 c1 c4 f4 HSZ
    gi_wp2_with fail
    refine wpIn_range2 (n:=0) (gf:=118) (lb:=#[.pointer (some ⟨wq.heap.size,0,none⟩)]) rfl (enters_of func118 (by kernel_rfl) rfl)
      (cells_iter P W f cs wl wq.heap.size SL HCs.out gbx (R:=Ab) (X:=λ k=>P.own k\/k=w.heap.size+1+1+1+1) (λ k hk=>hk.elim)) (λ k hk=>hk.elim) (λ k hk=>hk.elim)
      (λ k hk=>by rcases hk with hk|hk;exact lall k (lown k hk);omega) (λ k hk=>hk.elim) (λ _=>rfl)
      (λ pre W'=>Kp Ab wl W'/\∀ d∈pre,d.fin<=j) (λ c pre W'=>PutIx P cs W (j:Nat) (i:Nat) (l:Nat) wl (w.heap.size+1+1+1+1) c W') ?hI ?hIx ?h0 ?hround ?hdone ?hstop
    case hI=>
      rintro pre A B ⟨a1,a2⟩ hk
      exact⟨a1.trans hk (λ b hb h=>by rcases h with h|h|h;exact h;omega;omega),a2⟩
    case hIx=>
      rintro c pre A B ⟨a1,a2,a3,a4⟩ hk
      have hks:∀ b,P.all b->¬ ((Ab b)\/b=wl.heap.size\/b=wl.heap.size+1):=λ b hb h=>by have:=lall b hb;rcases h with h|h|h;exact h;omega;omega
      refine⟨a1,hk.at_ a2 (λ h=>by rcases h with h|h|h;exact h;omega;omega),a3.trans hk (λ b hb h=>by rcases h with h|h|h;exact h.elim;omega;omega),?_⟩
      rcases a4 with ⟨a5,a6⟩|⟨a5,p,d,q,j',i',l',S',b1,b2,b3,b4,b5,b6,b7,b8,b9,a6⟩
      . exact .inl ⟨a5,a6.keep hk hks⟩
      . exact .inr ⟨a5,p,d,q,j',i',l',S',b1,b2,b3,b4,b5,b6,b7,b8,b9,a6.keep hk hks⟩
    case h0=>exact ⟨Kr _ _,λ d hd=>by cases hd⟩
    case hround=>
      rintro pre x rest W' hx ⟨hK,hfin⟩ hs
      obtain⟨x1,x2,x3⟩:=HCell.out W pre x rest HCs.out hx hfin
      have hxf:x.fin=x.g+x.sz:=rfl
      have HX:=sE hx
      clear hx
      rw[HH.out] at x2
      unfold cellV
      gi_wp2_with fail
      refine⟨(Kr _ W').alloc _,?_⟩
      intro W2 hc2 hf2 hk2 hs2 hr2
      have kW:Kp Ab W' (W'.alloc (.cells #[.int .i64 (x.g:Nat),.int .u8 (x.tag:Nat),.int .i64 (x.ty:Nat),.int .i64 (x.ln:Nat),.int .i64 (x.sz:Nat)] 71)):=(Kr _ W').alloc _
      have bc:=hk2.at_ (wN W' (.cells #[.int .i64 (x.g:Nat),.int .u8 (x.tag:Nat),.int .i64 (x.ty:Nat),.int .i64 (x.ln:Nat),.int .i64 (x.sz:Nat)] 71)) (by omega)
      have hzW:=hK.size
      have N2:Kp Ab wl W2:=((hK.then' kW).Al (λ k=>k=wl.heap.size+1)).trans hk2 (λ _ _ h=>h) |>.mono (λ b hb h=>by omega)
      have r0:=cell_of_one (N2.at_ HRL.out.1 (λ h=>h))
      have r1:=cell_of_one (N2.at_ HRL.out.2.1 (λ h=>h))
      have r2:=cell_of_one (N2.at_ HRL.out.2.2.1 (λ h=>h))
      have r3:=cell_of_one (N2.at_ HRL.out.2.2.2.1 (λ h=>h))
      have B4:=N2.at_ HRL.out.2.2.2.2.1 (λ h=>h)
      have r4:=cell_of_one B4
      have f4:=free_of_one B4
      have HB4:=sE B4
      have B9:=N2.at_ HRL.out.2.2.2.2.2 (λ h=>h)
      have e9:W2.cell? ⟨b9,3,none⟩=some (.int .i64 (S:Nat)):=by simp[World.cell?,B9]
      have d0:W2.cell? ⟨W'.heap.size,0,none⟩=some (.int .i64 (x.g:Nat)):=by simp[World.cell?,bc]
      have d1:W2.cell? ⟨W'.heap.size,1,none⟩=some (.int .u8 (x.tag:Nat)):=by simp[World.cell?,bc]
      have d4:W2.cell? ⟨W'.heap.size,4,none⟩=some (.int .i64 (x.sz:Nat)):=by simp[World.cell?,bc]
      have S2:=HSL.out.Ad N2
      obtain⟨s0,s1,s2⟩:=S2.head
      have HS2:=sE S2
      have HBc:=sE bc
      have HB9:=sE B9
      clear B4 B9 S2 bc hc2 hf2
      by_cases hcase:x.fin<=j
      . have q1:(x.g:Int)+(x.sz:Int)<=(j:Int):=by omega
        gi_wp2_with fail
        exact⟨Kr _ _,N2,λ d hd=>by
          rcases List.mem_append.1 hd with hd|hd
          . exact hfin d hd
          . rw[List.mem_singleton.1 hd];exact hcase⟩
      . have q1:¬ (x.g:Int)+(x.sz:Int)<=(j:Int):=by omega
        have hRv:=hR.out pre x rest HX.out hfin (by omega)
        have K3:∀ v,Kp (λ k=>P.own k\/k=w.heap.size+1+1+1+1) W2 (W2.setCell ⟨w.heap.size+1+1+1+1,0,none⟩ v):=λ v=>(Kr (λ k=>P.own k\/k=w.heap.size+1+1+1+1) W2).setCell (λ _=>.inr rfl) v
        by_cases ht:x.tag=1
        . rw[if_pos (.inl ht)] at hRv
          have t1:((x.tag:Int)==1)=true:=by simp;omega
          have HRv:=sE hRv
          clear hRv
          gi_wp2_with fail
          refine⟨K3 _,rfl,?_,(N2.Al _).trans (K3 _) (λ _ _ h=>h),.inl ⟨by rw[HRv.out];omega,?_⟩⟩
          . rw[HRv.out];exact one_setCell (u:=.int .i64 3) HB4.out
          . exact Az.keep ⟨f,HS2.out,HCs.out,HSt.out⟩ ((Kr (λ k=>k=w.heap.size+1+1+1+1) W2).setCell (λ _=>rfl) _) (λ b hb h=>by have:=lw b hb;omega)
        . have t1:((x.tag:Int)==1)=false:=by simp;omega
          by_cases hbig:(x.fin:Int)-(j:Nat)<(S:Nat)
          . rw[if_pos (.inr hbig)] at hRv
            have HRv:=sE hRv
            have q2:decide ((x.g:Int)+(x.sz:Int)-(j:Int)<(S:Int))=true:=dT (by omega)
            clear hRv
            gi_wp2_with fail
            refine⟨K3 _,rfl,?_,(N2.Al _).trans (K3 _) (λ _ _ h=>h),.inl ⟨by rw[HRv.out];omega,?_⟩⟩
            . rw[HRv.out];exact one_setCell (u:=.int .i64 3) HB4.out
            . exact Az.keep ⟨f,HS2.out,HCs.out,HSt.out⟩ ((Kr (λ k=>k=w.heap.size+1+1+1+1) W2).setCell (λ _=>rfl) _) (λ b hb h=>by have:=lw b hb;omega)
          . rw[if_neg (by omega)] at hRv
            have HRv:=sE hRv
            have q2:decide ((x.g:Int)+(x.sz:Int)-(j:Int)<(S:Int))=false:=dF (by omega)
            clear hRv
            obtain⟨z1,z2,z3⟩:=HSz.out
            have hgs:j+S<=P.n/2:=by rw[HH.out];omega
            have HMk:Sl (∀ k,Calls prog 127 #[.pointer (some ⟨P.a,0,none⟩),.pointer (some ⟨P.t,0,none⟩),.int .i64 (j:Nat),.int .i64 (i:Nat),.int .i64 (l:Nat)] (W2.drewN k) (Stored (W2.drewN k) P.a P.q P.n (makeW W j i l S))):=
              ⟨λ k=>by
                have hk:=HS2.out.Ad (Kp.Aj k)
                exact Make_yes j i l S P.a P.q P.n P.t P.tq W P.ts _ hk.fl hk.ar hk.tb z2 z1 z3.1 hgs hS0⟩
            have PH2:PutHeld P w.heap.size j S b9 W'.heap.size i l x W2:=⟨N2.at_ HRL.out.1 (λ h=>h),N2.at_ HRL.out.2.1 (λ h=>h),HB4.out,HB9.out,HBc.out⟩
            have HPH:=sE PH2
            have lb9z:w.heap.size<=b9:=by omega
            have lbcz:w.heap.size<=W'.heap.size:=by omega
            have la:=lw P.a (by simp[Sp.all])
            have lq:=lw P.q (by simp[Sp.all])
            have lbq:=lw P.bq (by simp[Sp.all])
            clear PH2 z1 z2 z3 hgs
            gi_wp2_with fail
            refine BA 11 (by kernel_rfl) (by kernel_rfl) (by kernel_rfl) (λ _ _ h=>h) ?_
            simp only[List.take_succ_cons,List.take_zero,List.drop_succ_cons,List.drop_zero]
            repeat (go_big_quiet_step (fail))
            refine wpQuiet_nil ?_
            intro _ hw'
            obtain⟨nq,hw''⟩:=hw'
            subst hw''
            go_wp2_with fail
            refine(HMk.out nq).mono ?_
            rintro e w3 ⟨rfl,k3,A3⟩
            have KD:Kp Ab W2 (W2.drewN nq):=Kp.Aj _
            have S3:=(HS2.out.Ad KD).words k3 A3
            have PH3:=(HPH.out.keep KD (λ b hb=>hb.elim) lb9z lbcz).keep k3 (λ b hb=>by omega) lb9z lbcz
            have KO3:Kp P.own W2 w3:=(KD.Al P.own).trans k3 (λ b hb h=>by rcases h with h|h;exact .inl h;exact .inr (.inl h))
            clear A3 KD k3 r0 r1 r4 f4 e9 d0 d1 d4 s0 s1 s2
            obtain⟨v0,v1,v2,v3,v4,v5⟩:=PH3.cells
            obtain⟨s0,s1,s2⟩:=S3.head
            have HS3:=sE S3
            have HPH3:=sE PH3
            clear S3 PH3 HMk
            go_wp2
            gi_wp2_with fail
            refine BA 5 (by kernel_rfl) (by kernel_rfl) (by kernel_rfl) (λ _ _ h=>h) ?_
            simp only[List.take_succ_cons,List.take_zero,List.drop_succ_cons,List.drop_zero]
            repeat (go_big_quiet_step (fail))
            refine wpQuiet_nil ?_
            intro _ hw'
            obtain⟨nq,hw''⟩:=hw'
            subst hw''
            obtain⟨w4,hw4⟩:∃ w4,w4=w3.drewN nq:=⟨_,rfl⟩
            rw[<- hw4]
            have k4:Kp Ab w3 w4:=by rw[hw4];exact Kp.Aj _
            clear hw4
            have S4:=HS3.out.Ad k4
            have PH4:=HPH3.out.keep k4 (λ b hb=>hb.elim) lb9z lbcz
            have KO4:=KO3.trans k4 (λ b hb h=>h.elim)
            obtain⟨s0,s1,s2⟩:=S4.head
            have HSet:=sE (Set_int (j:Nat) (P.n/2) P.b P.bq f w4 S4.bt)
            have HS4:=sE S4
            have HPH4:=sE PH4
            clear S4 PH4 HS3 HPH3 v0 v1 v2 v3 v4 v5
            go_wp2_with fail
            refine HSet.out.mono ?_
            rintro e w5' ⟨rfl,k5',B5'⟩
            have S5':=HS4.out.bits k5' B5'
            have PH5:=HPH4.out.keep k5' (λ b hb=>by omega) lb9z lbcz
            have KO5:=KO4.trans k5' (λ b hb h=>.inr (.inr h))
            obtain⟨v0,v1,v2,v3,v4,v5⟩:=PH5.cells
            have HM1:Sl ((j:Int)-(x.g:Int)=((j-x.g:Nat):Int)):=⟨by omega⟩
            have HM2:Sl ((j:Int)+(S:Int)=((j+S:Nat):Int)):=⟨by omega⟩
            have HM3:Sl ((x.g:Int)+(x.sz:Int)-(j:Int)-(S:Int)=((x.fin-j-S:Nat):Int)):=⟨by omega⟩
            have HG1:=sE (gap_any x.g (j-x.g) P _ _ w5' S5' (by rw[HH.out];omega))
            have HPH5:=sE PH5
            clear S5' PH5 HS4 HPH4 HSet B5' s0 s1 s2
            go_wp2
            gi_wp2_with fail
            refine⟨trivial,rfl,?_⟩
            rw[HM1.out]
            refine(BR HG1.out).mono ?_
            rintro e w6' ⟨rfl,k6',S6'⟩
            have PH6:=HPH5.out.keep k6' (λ b hb=>by omega) lb9z lbcz
            have KO6:=KO5.trans k6' (λ b hb h=>by rcases h with h|h;exact .inl h;exact .inr (.inl h))
            clear v0 v1 v2 v3 v4 v5
            obtain⟨v0,v1,v2,v3,v4,v5⟩:=PH6.cells
            have HG2:=sE (gap_any (j+S) (x.fin-j-S) P _ _ w6' S6' (by rw[HH.out];omega))
            have HPH6:=sE PH6
            clear PH6 HPH5 HG1 S6'
            gi_wp2_with fail
            refine⟨trivial,rfl,?_⟩
            rw[HM2.out,HM3.out]
            refine(BR HG2.out).mono ?_
            rintro e w7 ⟨rfl,k7,S7⟩
            have PH7:=HPH6.out.keep k7 (λ b hb=>by omega) lb9z lbcz
            have KO7:=KO6.trans k7 (λ b hb h=>by rcases h with h|h;exact .inl h;exact .inr (.inl h))
            clear v0 v1 v2 v3 v4 v5
            obtain⟨v0,v1,v2,v3,v4,v5⟩:=PH7.cells
            have HS7:=sE S7
            have HPH7:=sE PH7
            clear PH7 HPH6 HG2 S7
            gi_wp2_with fail
            have hcs7:CellsAt P (putW W x j i l S) (putL pre x rest j i l S):=by
              have h7:=HCs.out
              rw[HX.out] at h7
              exact put_cells HSs.out.ar.small h7 x1 (by omega) hS0 (HSz.out.2.2.move j)
            have hst7:∀ b,b<P.n/2->FQ f (P.n/2) (j:Nat) 1 true b=Ar (putL pre x rest j i l S) b:=by
              have h8:=HSt.out
              rw[HX.out] at h8
              exact put_starts (P:=P) (W:=W) h8 ht (by rw[HH.out];omega)
            have kz7:Kp (λ k=>k=w.heap.size+1+1+1+1) w7 (w7.setCell ⟨w.heap.size+1+1+1+1,0,none⟩ (.int .i64 0)):=(Kr (λ k=>k=w.heap.size+1+1+1+1) w7).setCell (λ _=>rfl) _
            have KX:Kp (λ k=>P.own k\/k=w.heap.size+1+1+1+1) W2 (w7.setCell ⟨w.heap.size+1+1+1+1,0,none⟩ (.int .i64 0)):=(KO7.mono (λ _ _ h=>.inl h)).trans kz7 (λ _ _ h=>.inr h)
            refine⟨KX,rfl,?_,(N2.Al _).trans KX (λ _ _ h=>h),.inr ⟨HRv.out,pre,x,rest,j,i,l,S,HX.out,ht,rfl,rfl,rfl,HSz.out.1,x1,by omega,hS0,?_⟩⟩
            . rw[HRv.out];exact one_setCell (u:=.int .i64 0) HPH7.out.h4
            . refine Az.keep ⟨_,HS7.out,hcs7,hst7⟩ kz7 (λ b hb h=>by have:=lw b hb;omega)
    case hdone=>
      rintro W' ⟨a1,a2⟩ hs hD
      exact absurd (a2 c0' hm0) (by omega)
    case hstop=>
      rintro c pre W' hp ⟨a1,a2,a3,a4⟩ hs hD
      subst a1
      gi_wp2_with fail
      refine⟨by simp,.inl ⟨_,_,rfl,run_takeDeferred hD,?_⟩⟩
      have kE:Kp (λ b=>b=wl.heap.size) W' (W'.putObj wl.heap.size (.deferred none)):=(Kr (λ b=>b=wl.heap.size) W').putObj (λ _=>rfl) _
      have e4:=cell_of_one (kE.at_ a2 (by omega))
      have hks:∀ b,P.all b->¬ b=wl.heap.size:=λ b hb h=>by have:=lall b hb;omega
      refine⟨.int .i64 (Dt P.ts (P.n/2) cs (j:Nat) (i:Nat) (l:Nat)),by simp[results,results83,go_sem,e4],rfl,((KL.Al P.own).trans a3 (λ b hb h=>by rcases h with h|h;exact h;omega)).trans kE (λ b hb h=>by omega),?_⟩
      rcases a4 with ⟨a5,a6⟩|⟨a5,p,d,q,j',i',l',S',b1,b2,b3,b4,b5,b6,b7,b8,b9,a6⟩
      . exact .inl ⟨a5,a6.keep kE hks⟩
      . exact .inr ⟨a5,p,d,q,j',i',l',S',b1,b2,b3,b4,b5,b6,b7,b8,b9,a6.keep kE hks⟩

end

section
open Go.RowKit

theorem Put_anyW(g id n:Int)(P:Sp)(cs:List Cel)(w:World)(W:Nat->Nat)(h:Az w P W cs):
    Calls prog 83 #[.pointer (some ⟨P.s,0,none⟩),.int .i64 g,.int .i64 id,.int .i64 n] w (FD P cs W g id n w):=by
  by_cases he:AQ P.ts id n=0
  . have few:P.ts.length<=64:=by obtain⟨_,hs,_⟩:=h;exact hs.tb.few
    obtain⟨i,l,S,rfl,rfl,hS,h0,h1,hok⟩:=obj_ok few he
    by_cases ho:g<0\/((P.n/2:Nat):Int)<=g
    . exact Put_out g i l S P cs w W h he hS ho
    . obtain⟨j,rfl⟩:=Int.eq_ofNat_of_zero_le (show 0<=g by omega)
      exact Put_in j i l S P cs w W h he hS h0 hok (by omega)
  . exact Put_err g id n P cs w W h he

def growX(c:Cel)(g x:Nat)(over:Bool):Nat:=if c.tag=1/\¬ c.g=g/\over=false then c.fin else x
def growY(c:Cel)(g y:Nat):Nat:=if c.tag=1/\¬ c.g=g then y else c.fin

def GrowPost(c:Cel)(fb tb g x y:Nat)(over:Bool)(w:World)(e:Ending)(w':World):Prop:=
  e=.returned (.tuple #[])/\Kp (λ b=>b=fb\/b=tb) w w'/\w'.heap[fb]?=some (.cells #[.int .i64 (growX c g x over:Nat)] 3 (0,0))/\w'.heap[tb]?=some (.cells #[.int .i64 (growY c g y:Nat)] 3 (0,0))

theorem Grow_at(c:Cel)(gb ob fb tb g x y:Nat)(over:Bool)(w:World)(hfin:c.g+c.sz<=65536)(hft:¬ fb=tb)
    (h0:w.heap[gb]?=some (.cells #[.int .i64 (g:Nat)] 3 (0,0))) (h1:w.heap[ob]?=some (.cells #[.bool over] 4 (0,0)))
    (h2:w.heap[fb]?=some (.cells #[.int .i64 (x:Nat)] 3 (0,0))) (h3:w.heap[tb]?=some (.cells #[.int .i64 (y:Nat)] 3 (0,0))):
    Calls prog 131 #[.agg #[.int .i64 (c.g:Nat),.int .u8 (c.tag:Nat),.int .i64 (c.ty:Nat),.int .i64 (c.ln:Nat),.int .i64 (c.sz:Nat)],.pointer (some ⟨gb,0,none⟩),.pointer (some ⟨ob,0,none⟩),.pointer (some ⟨fb,0,none⟩),.pointer (some ⟨tb,0,none⟩)] w (GrowPost c fb tb g x y over w):=by
  have k5:Kp Ab w (w.alloc (.cells #[.int .i64 (c.g:Nat),.int .u8 (c.tag:Nat),.int .i64 (c.ty:Nat),.int .i64 (c.ln:Nat),.int .i64 (c.sz:Nat)] 71)):=(Kr _ w).alloc _
  have g0:=cell_of_one h0
  have g1:=cell_of_one h1
  have g2:=cell_of_one h2
  have g3:=cell_of_one h3
  have f2:=free_of_one h2
  have f3:=free_of_one h3
  have l0:=lZ h0
  have l1:=lZ h1
  have l2:=lZ h2
  have l3:=lZ h3
  have hcf:c.fin=c.g+c.sz:=rfl
  have HK:=sE (k5.Al (λ b=>b=fb\/b=tb))
  have HBB:=sE (And.intro h2 h3)
  have hft2:Sl (¬ fb=tb):=⟨hft⟩
  clear h0 h1 h2 h3 k5 hft
  by_cases ht:c.tag=1
  . have t1:((c.tag:Int)==1)=true:=by simp;omega
    by_cases hg:c.g=g
    . have t2:((c.g:Int) !=(g:Int))=false:=by simp;omega
      have e1:growX c g x over=x:=if_neg (λ h=>h.2.1 hg)
      have e2:growY c g y=c.fin:=if_neg (λ h=>h.2 hg)
      have HE:=sE (And.intro e1 e2)
      clear e1 e2 hg ht
      go_enter func131,ntmps131
      go_wp2_with fail
      go_end0
      refine⟨rfl,((Kr _ w).setCell (λ _=>.inr rfl) _).alloc _,?_,?_⟩
      . rw[HE.out.1];exact ((Kr Ab _).alloc _).at_ ((Below.heap_setCell _ _ _ _ (by have:=hft2.out;dsimp only;omega)).trans HBB.out.1) (λ h=>h)
      . rw[HE.out.2,hcf];exact ((Kr Ab _).alloc _).at_ (one_setCell HBB.out.2) (λ h=>h)
    . have t2:((c.g:Int) !=(g:Int))=true:=by simp;omega
      cases over with
      |true=>
        have e1:growX c g x true=x:=if_neg (λ h=>by cases h.2.2)
        have e2:growY c g y=y:=if_pos ⟨ht,hg⟩
        have HE:=sE (And.intro e1 e2)
        clear e1 e2 hg ht
        go_enter func131,ntmps131
        go_wp2_with fail
        go_end0
        refine⟨rfl,HK.out,?_,?_⟩
        . rw[HE.out.1];exact ((Kr Ab _).alloc _).at_ (HBB.out.1) (λ h=>h)
        . rw[HE.out.2];exact ((Kr Ab _).alloc _).at_ (HBB.out.2) (λ h=>h)
      |false=>
        have e1:growX c g x false=c.fin:=if_pos ⟨ht,hg,rfl⟩
        have e2:growY c g y=y:=if_pos ⟨ht,hg⟩
        have HE:=sE (And.intro e1 e2)
        clear e1 e2 hg ht
        go_enter func131,ntmps131
        go_wp2_with fail
        go_end0
        refine⟨rfl,((Kr _ w).setCell (λ _=>.inl rfl) _).alloc _,?_,?_⟩
        . rw[HE.out.1,hcf];exact ((Kr Ab _).alloc _).at_ (one_setCell HBB.out.1) (λ h=>h)
        . rw[HE.out.2];exact ((Kr Ab _).alloc _).at_ ((Below.heap_setCell _ _ _ _ (by have:=hft2.out;dsimp only;omega)).trans HBB.out.2) (λ h=>h)
  . have t1:((c.tag:Int)==1)=false:=by simp;omega
    have e1:growX c g x over=x:=if_neg (λ h=>ht h.1)
    have e2:growY c g y=c.fin:=if_neg (λ h=>ht h.1)
    have HE:=sE (And.intro e1 e2)
    clear e1 e2 ht
    go_enter func131,ntmps131
    go_wp2_with fail
    go_end0
    refine⟨rfl,((Kr _ w).setCell (λ _=>.inr rfl) _).alloc _,?_,?_⟩
    . rw[HE.out.1];exact ((Kr Ab _).alloc _).at_ ((Below.heap_setCell _ _ _ _ (by have:=hft2.out;dsimp only;omega)).trans HBB.out.1) (λ h=>h)
    . rw[HE.out.2,hcf];exact ((Kr Ab _).alloc _).at_ (one_setCell HBB.out.2) (λ h=>h)

attribute [local go_sem] Oper.semAt_some

def DropPost(P:Sp)(cs:List Cel)(g:Int)(w:World)(e:Ending)(w':World):Prop:=
  (e=.returned (.int .i64 3)/\(∀ j:Nat,g=(j:Nat)->Ar cs j=false)/\Kp Ab w w')\/
  (e=.returned (.int .i64 0)/\Kp P.own w w'/\∃ (j:Nat) (p1 g1:List Cel) (c:Cel) (g2 p2:List Cel) (x y:Nat),g=(j:Nat)/\C9 cs j p1 g1 c g2 p2 x y/\Ck w' P (dropL p1 p2 x y))

def FB(P:Sp)(cs:List Cel)(W:Nat->Nat)(g:Int)(w:World)(e:Ending)(w':World):Prop:=
  (e=.returned (.int .i64 3)/\(∀ j:Nat,g=(j:Nat)->Ar cs j=false)/\Kp Ab w w')\/
  (e=.returned (.int .i64 0)/\Kp P.own w w'/\∃ (j:Nat) (p1 g1:List Cel) (c:Cel) (g2 p2:List Cel) (x y:Nat),g=(j:Nat)/\C9 cs j p1 g1 c g2 p2 x y/\Az w' P (AX W x (y-x)) (dropL p1 p2 x y))

theorem FB.weak{P:Sp}{cs:List Cel}{W:Nat->Nat}{g:Int}{w w':World}{e:Ending}(h:FB P cs W g w e w'):DropPost P cs g w e w':=by
  rcases h with h|⟨h1,h2,j,p1,g1,c,g2,p2,x,y,h3,h4,h5⟩
  . exact .inl h
  . exact .inr ⟨h1,h2,j,p1,g1,c,g2,p2,x,y,h3,h4,_,h5⟩

set_option maxRecDepth 20000 in
theorem Drop_no(g:Int)(P:Sp)(cs:List Cel)(w:World)(W:Nat->Nat)(h:Az w P W cs)(hno:∀ j:Nat,g=(j:Nat)->Ar cs j=false):
    Calls prog 85 #[.pointer (some ⟨P.s,0,none⟩),.int .i64 g] w (FB P cs W g w):=by
  obtain⟨f,hs,hc,hst⟩:=h
  have hI:hasI f (P.n/2) g=false:=by
    simp only[hasI]
    by_cases hb:0<=g/\g<(P.n/2:Nat)
    . obtain⟨j,rfl⟩:=Int.eq_ofNat_of_zero_le hb.1
      have h1:=hno j rfl
      have h2:=hst j (by omega)
      rw[h1] at h2
      simp[h2]
    . rw[dF hb];rfl
  have HNO:=sE hno
  clear hno
  have k5:Kp Ab w (w.alloc (.cells #[.int .i64 g] 3)):=(Kr _ w).alloc _
  have b5:=wN w (.cells #[.int .i64 g] 3)
  obtain⟨w5,hw5⟩:∃ w5,w5=w.alloc (.cells #[.int .i64 g] 3):=⟨_,rfl⟩
  rw[<- hw5] at k5 b5
  have S5:=hs.Ad k5
  have HH:Sl (∀ w',Kp Ab w5 w'->Calls prog 58 #[.pointer (some ⟨P.b,0,none⟩),.int .i64 g] w' λ e w''=>e=.returned (.bool false)/\Kp Ab w' w''):=
    ⟨λ w' hk=>by have:=Has_int g (P.n/2) P.b P.bq f w' (S5.Ad hk).bt;rw [hI] at this;exact this⟩
  have c0:=cell_of_one b5
  obtain⟨s0,s1,s2⟩:=S5.head
  have lts:=hs.lt P.s (by simp[Sp.all])
  have HK5:=sE k5
  clear hs hc hst S5 hI b5 k5
  refine(callsIn_wide (n:=0)).1 ?_
  refine callsIn_of_wp_marks func85 rfl trivial ?_
  simp only[ntmps85,List.size_toArray,List.length_cons,List.length_nil,Nat.reduceAdd,Nat.reduceSub,Array.replicate_succ,Array.replicate_zero,List.push_toArray,List.append_toArray,List.nil_append,List.cons_append]
  gi_wp2_with fail
  try rw[<- hw5]
  clear hw5
  gi_wp2_with fail
  refine wpIn_wide.2 ?_
  go_region_held3 (λ w'=>w'.cell? ⟨w.heap.size,0,none⟩=some (.int .i64 g)/\w'.cell? ⟨P.s,2,none⟩=some (.pointer (some ⟨P.b,0,none⟩)))
    (exact ⟨Bf KU c0,Bf KU s2⟩)
    (first | (go_at_call 58;with_reducible refine(HH.out _ KU).mono ?_;rintro e w6 ⟨rfl,k6⟩
              have KK:Kp Ab w5 w6:=(Kr Ab w5).drew.then' k6))
  have kw:Kp Ab w w6:=HK5.out.then' KK
  gi_wp2_with fail
  refine⟨.int .i64 3,by simp[results,results85,go_sem],.inl ⟨rfl,HNO.out,kw⟩⟩

structure DropHeld(m x y:Nat)(over:Bool)(wl W':World):Prop where
  h0:W'.heap[m]?=some (.cells #[.int .i64 (x:Nat)] 3 (0,0))
  h1:W'.heap[m+1]?=some (.cells #[.int .i64 (y:Nat)] 3 (0,0))
  h2:W'.heap[m+1+1]?=some (.cells #[.bool over] 4 (0,0))
  hk:Kp (λ k=>k=m\/k=m+1\/k=m+1+1) wl W'

def DropI(j m:Nat)(wl:World)(pre:List Cel)(W':World):Prop:=∃ x y over,DropHeld m x y over wl W'/\Es j pre x y over

def DropIx(j m:Nat)(wl:World)(c:Code)(pre:List Cel)(W':World):Prop:=c=.exit 0/\∃ p d x y,pre=p++[d]/\d.tag=1/\DropHeld m x y true wl W'/\Es j p x y true

theorem DropHeld.keep{S:Nat->Prop}{m x y:Nat}{over:Bool}{wl A B:World}(h:DropHeld m x y over wl A)(k:Kp S A B)(hm:m+1+1<wl.heap.size)(hs:∀ b,b<wl.heap.size->¬ S b):DropHeld m x y over wl B:=
  ⟨k.at_ h.h0 (hs _ (by omega)),k.at_ h.h1 (hs _ (by omega)),k.at_ h.h2 (hs _ (by omega)),h.hk.trans k (λ b hb hS=>absurd hS (hs b hb))⟩

set_option maxRecDepth 20000 in
theorem Drop_yes(j:Nat)(P:Sp)(cs:List Cel)(w:World)(W:Nat->Nat)(h:Az w P W cs)(hyes:Ar cs j=true):
    Calls prog 85 #[.pointer (some ⟨P.s,0,none⟩),.int .i64 (j:Nat)] w (FB P cs W (j:Nat) w):=by
  obtain⟨f,hs,hc,hst⟩:=h
  have hn:=hs.ar.small
  have hj:j<P.n/2:=by
    obtain⟨c,h1,h2,h3⟩:=Fp hyes
    have:=hc.tl.mem h1
    omega
  have hI:hasI f (P.n/2) (j:Nat)=true:=by
    simp only[hasI]
    rw[dT (show (0:Int)<=(j:Nat)/\((j:Nat):Int)<(P.n/2:Nat) by omega)]
    simp[hst j hj,hyes]
  have k5:Kp Ab w (w.alloc (.cells #[.int .i64 (j:Nat)] 3)):=(Kr _ w).alloc _
  have b5:=wN w (.cells #[.int .i64 (j:Nat)] 3)
  obtain⟨w5,hw5⟩:∃ w5,w5=w.alloc (.cells #[.int .i64 (j:Nat)] 3):=⟨_,rfl⟩
  rw[<- hw5] at k5 b5
  have S5:=hs.Ad k5
  have HH:Sl (∀ w',Kp Ab w5 w'->Calls prog 58 #[.pointer (some ⟨P.b,0,none⟩),.int .i64 (j:Nat)] w' λ e w''=>e=.returned (.bool true)/\Kp Ab w' w''):=
    ⟨λ w' hk=>by have:=Has_int (j:Nat) (P.n/2) P.b P.bq f w' (S5.Ad hk).bt;rw [hI] at this;exact this⟩
  have HCl:Sl (∀ w',Kp Ab w5 w'->Calls prog 130 #[.pointer (some ⟨P.b,0,none⟩),.int .i64 (j:Nat)] w' λ e w''=>e=.returned (.int .i64 0)/\Kp (λ b=>b=P.bq) w' w''/\AO w'' P.b P.bq (FQ f (P.n/2) (j:Nat) 1 false) (P.n/2)):=
    ⟨λ w' hk=>by
      have:=Clear_int (j:Nat) (P.n/2) P.b P.bq f w' (S5.Ad hk).bt
      rw[show Bq (P.n/2) (j:Nat) 1=true by simp[Bq];omega] at this
      exact this⟩
  have c0:=cell_of_one b5
  obtain⟨s0,s1,s2⟩:=S5.head
  have lts:=hs.lt P.s (by simp[Sp.all])
  have HK5:=sE k5
  have HB5:=sE b5
  have HSs:=sE hs
  have HS5:=sE S5
  have HCs:=sE hc
  have HSt:=sE hst
  have HYes:=sE hyes
  have hc0:=sE hc.tl
  clear hs hc hst S5 hI b5 k5 hyes
  refine(callsIn_wide (n:=0)).1 ?_
  refine callsIn_of_wp_marks func85 rfl trivial ?_
  simp only[ntmps85,List.size_toArray,List.length_cons,List.length_nil,Nat.reduceAdd,Nat.reduceSub,Array.replicate_succ,Array.replicate_zero,List.push_toArray,List.append_toArray,List.nil_append,List.cons_append]
  gi_wp2_with fail
  try rw[<- hw5]
  clear hw5
  gi_wp2_with fail
  refine wpIn_wide.2 ?_
  go_region_held3 (λ w'=>w'.cell? ⟨w.heap.size,0,none⟩=some (.int .i64 (j:Nat))/\w'.cell? ⟨P.s,2,none⟩=some (.pointer (some ⟨P.b,0,none⟩)))
    (exact ⟨Bf KU c0,Bf KU s2⟩)
    (first | (go_at_call 58;with_reducible refine(HH.out _ KU).mono ?_;rintro e w6 ⟨rfl,k6⟩
              have KK:Kp Ab w5 w6:=(Kr Ab w5).drew.then' k6))
  replace c0:=KK.cell c0 (λ h=>h)
  replace s2:=KK.cell s2 (λ h=>h)
  gi_wp2_with fail
  refine wpIn_wide.2 ?_
  refine Co 5 (by kernel_rfl) (by kernel_rfl) ?_
  simp only[List.take_succ_cons,List.take_zero,List.drop_succ_cons,List.drop_zero]
  repeat (go_big_quiet_step (fail))
  refine wpQuiet_nil ?_
  intro _ hw'
  obtain⟨nq,hw''⟩:=hw'
  subst hw''
  have K6:Kp Ab w5 (w6.drewN nq):=KK.then' (Kp.Aj _)
  go_wp2_with fail
  refine(HCl.out _ K6).mono ?_
  rintro e w7 ⟨rfl,k7,B7⟩
  have S7:=(HS5.out.Ad K6).bits k7 B7
  have K7:Kp P.own w w7:=((HK5.out.then' K6).Al P.own).trans k7 (λ b hb h=>.inr (.inr h))
  have z7:w.heap.size<w7.heap.size:=by
    have h1:=lZ HB5.out
    have h2:=K6.size
    have h3:=k7.size
    omega
  have hbq:¬ w.heap.size=P.bq:=by have:=HSs.out.lt P.bq (by simp[Sp.all]);omega
  have r7:=k7.at_ (K6.at_ HB5.out (λ h=>h)) hbq
  have HS7:=sE S7
  have HK7:=sE K7
  have HR7:=sE r7
  clear B7 S7 K7 c0 s0 s1 s2 HH HCl k6 r7
  go_wp2
  gi_wp2_with fail
  obtain⟨m,hm⟩:∃ m,w7.heap.size=m:=⟨_,rfl⟩
  obtain⟨w8,hw8⟩:∃ w8,w8=(((w7.alloc (.cells #[.int .i64 0] 3)).alloc (.cells #[.int .i64 0] 3)).alloc (.cells #[.bool false] 4)).alloc (.cells #[.func (.func 131) #[] #[.pointer (some ⟨w.heap.size,0,none⟩),.pointer (some ⟨m+1+1,0,none⟩),.pointer (some ⟨m,0,none⟩),.pointer (some ⟨m+1,0,none⟩)]] 219):=⟨_,rfl⟩
  rw[hm,<- hw8]
  have k8:Kp Ab w7 w8:=by rw[hw8];exact ((((Kr _ w7).alloc _).alloc _).alloc _).alloc _
  have z8:w8.heap.size=m+1+1+1+1:=by rw[hw8,<- hm];simp
  have q0:w8.heap[m]?=some (.cells #[.int .i64 0] 3 (0,0)):=by
    rw[hw8,<- hm];exact (((Kr Ab _).alloc _).alloc _ |>.alloc _).at_ (wN w7 _) (λ h=>h)
  have q1:w8.heap[m+1]?=some (.cells #[.int .i64 0] 3 (0,0)):=by
    rw[hw8,<- hm];exact ((Kr Ab _).alloc _ |>.alloc _).at_ (Bp _ _ (by simp)) (λ h=>h)
  have q2:w8.heap[m+1+1]?=some (.cells #[.bool false] 4 (0,0)):=by
    rw[hw8,<- hm];exact ((Kr Ab _).alloc _).at_ (Bp _ _ (by simp)) (λ h=>h)
  have q3:w8.heap[m+1+1+1]?=some (.cells #[.func (.func 131) #[] #[.pointer (some ⟨w.heap.size,0,none⟩),.pointer (some ⟨m+1+1,0,none⟩),.pointer (some ⟨m,0,none⟩),.pointer (some ⟨m+1,0,none⟩)]] 219 (0,0)):=by
    rw[hw8,<- hm];exact Bp _ _ (by simp)
  clear hw8
  refine⟨trivial,rfl,?_⟩
  refine(callsIn_wide.2 (cells_fn P w8)).mono ?_
  rintro e wl ⟨rfl,hwl⟩
  have hzl:wl.heap.size=w8.heap.size+1:=by rw[<- hwl];simp
  have kl:Kp Ab w8 wl:=by rw[<- hwl];exact (Kr _ w8).alloc _
  have gbx:wl.heap[w8.heap.size]?=some (.cells #[.pointer (some ⟨P.s,0,none⟩)] 27 (0,0)):=by rw[<- hwl];exact wN w8 _
  clear hwl
  rw[z8] at gbx hzl
  rw[z8]
  clear z8
  rw[hm] at z7
  have K7L:Kp Ab w7 wl:=k8.then' kl
  have SL:=HS7.out.Ad K7L
  have rg:=K7L.at_ HR7.out (λ h=>h)
  have rc:=kl.at_ q3 (λ h=>h)
  have HL0:=sE (DropHeld.mk (wl:=wl) (kl.at_ q0 (λ h=>h)) (kl.at_ q1 (λ h=>h)) (kl.at_ q2 (λ h=>h)) (Kr _ wl))
  have lw:∀ k,P.all k->k<w.heap.size:=HSs.out.lt
  have HRG:=sE (And.intro rg rc)
  have HSL:=sE SL
  have HKL:=sE (HK7.out.trans K7L (λ b hb h=>h.elim))
  clear q0 q1 q2 q3 rg rc K7L k8 kl hm
  gi_wp2_with fail
  refine wpIn_range2 (n:=0) (gf:=118) (lb:=#[.pointer (some ⟨m+1+1+1+1,0,none⟩)]) rfl (enters_of func118 (by kernel_rfl) rfl)
    (cells_iter P W _ cs wl (m+1+1+1+1) HSL.out HCs.out gbx (R:=λ k=>k=m\/k=m+1\/k=m+1+1) (X:=λ k=>k=m\/k=m+1\/k=m+1+1)
      (λ k hk=>⟨by omega,by omega,λ h=>by have:=lw k h;omega⟩)) (λ k hk=>hk.elim) (λ k hk=>by omega)
    (λ k hk=>by omega) (λ k hk=>hk) (λ _=>rfl)
    (λ pre W'=>DropI j m wl pre W') (λ c pre W'=>DropIx j m wl c pre W') ?hI ?hIx ?h0 ?hround ?hdone ?hstop
  case hI=>
    rintro pre A B ⟨x,y,o,a1,a2⟩ hk
    exact⟨x,y,o,a1.keep hk (by omega) (λ b hb h=>by rcases h with h|h|h;exact h;omega;omega),a2⟩
  case hIx=>
    rintro c pre A B ⟨a0,p,d,x,y,e1,e2,a1,a2⟩ hk
    exact⟨a0,p,d,x,y,e1,e2,a1.keep hk (by omega) (λ b hb h=>by rcases h with h|h|h;exact h;omega;omega),a2⟩
  case h0=>exact ⟨0,0,false,HL0.out,[],[],rfl,(λ d hd=>by cases hd),.inl rfl,rfl,(λ d hd=>by cases hd)⟩
  case hround=>
    rintro pre x rest W' hx ⟨X,Y,o,hH,hD⟩ hs
    have hxf:x.fin=x.g+x.sz:=rfl
    have hxm:=hc0.out.mem (c:=x) (by rw[hx];simp)
    unfold cellV
    gi_wp2_with fail
    refine⟨(Kr _ W').alloc _,?_⟩
    intro W2 hc2 hf2 hk2 hs2 hr2
    have kW:Kp Ab W' (W'.alloc (.cells #[.int .i64 (x.g:Nat),.int .u8 (x.tag:Nat),.int .i64 (x.ty:Nat),.int .i64 (x.ln:Nat),.int .i64 (x.sz:Nat)] 71)):=(Kr _ W').alloc _
    have bc:=hk2.at_ (wN W' (.cells #[.int .i64 (x.g:Nat),.int .u8 (x.tag:Nat),.int .i64 (x.ty:Nat),.int .i64 (x.ln:Nat),.int .i64 (x.sz:Nat)] 71)) (by omega)
    have H2:=(hH.keep kW (by omega) (λ b hb h=>h)).keep hk2 (by omega) (λ b hb h=>by omega)
    have G2:=H2.hk.at_ HRG.out.1 (by omega)
    have C2:=H2.hk.at_ HRG.out.2 (by omega)
    have n0:=cell_of_one H2.h0
    have n1:=cell_of_one H2.h1
    have n2:=cell_of_one H2.h2
    have ng:=cell_of_one G2
    have nc:=cell_of_one C2
    have d0:W2.cell? ⟨W'.heap.size,0,none⟩=some (.int .i64 (x.g:Nat)):=by simp[World.cell?,bc]
    have d1:W2.cell? ⟨W'.heap.size,1,none⟩=some (.int .u8 (x.tag:Nat)):=by simp[World.cell?,bc]
    have d2:W2.cell? ⟨W'.heap.size,2,none⟩=some (.int .i64 (x.ty:Nat)):=by simp[World.cell?,bc]
    have d3:W2.cell? ⟨W'.heap.size,3,none⟩=some (.int .i64 (x.ln:Nat)):=by simp[World.cell?,bc]
    have d4:W2.cell? ⟨W'.heap.size,4,none⟩=some (.int .i64 (x.sz:Nat)):=by simp[World.cell?,bc]
    have HGr:=sE (Grow_at x w.heap.size (m+1+1) m (m+1) j X Y o W2 (by omega) (by omega) G2 H2.h2 H2.h0 H2.h1)
    have HH2:=sE H2
    have HG2:=sE G2
    have HBC:=sE bc
    have hWz:m+1+1+1+1+1<W'.heap.size:=by omega
    have HX:=sE hx
    clear hc2 hf2 hs2 kW H2 G2 C2 bc hH hx
    cases o with
    |false=>
      obtain⟨le,e1,e2,e3⟩:=drop_before hc0.out HX.out HYes.out hD
      have t1:decide ((j:Int)<(x.g:Int))=false:=dF (by omega)
      have key:∃ o' X' Y',Es j (pre++[x]) X' Y' o'/\growX x j X false=X'/\growY x j Y=Y'/\(((x.g:Int)==(j:Int))=o'):=by
        by_cases ht:x.tag=1
        . by_cases hg:x.g=j
          . exact⟨true,X,x.fin,e2 ht hg,if_neg (λ h=>h.2.1 hg),if_neg (λ h=>h.2 hg),by simp;omega⟩
          . exact⟨false,x.fin,Y,e1 ht hg,if_pos ⟨ht,hg,rfl⟩,if_pos ⟨ht,hg⟩,by simp;omega⟩
        . exact⟨false,X,x.fin,(e3 ht).2,if_neg (λ h=>ht h.1),if_neg (λ h=>ht h.1),by simp;have:=(e3 ht).1;omega⟩
      obtain⟨o',X',Y',hD',gx,gy,ho⟩:=key
      have HD':=sE hD'
      clear hD e1 e2 e3 hD'
      gi_wp2_with fail
      refine⟨trivial,rfl,?_⟩
      refine(BR HGr.out).mono ?_
      rintro e w3 ⟨rfl,k3,b30,b31⟩
      rw[gx] at b30
      rw[gy] at b31
      have b32:=k3.at_ HH2.out.h2 (by omega)
      have l0:=cell_of_one (k3.at_ HG2.out (by omega))
      have l1:w3.cell? ⟨W'.heap.size,0,none⟩=some (.int .i64 (x.g:Nat)):=k3.cell d0 (by dsimp only;omega)
      have l2:=cell_of_one b32
      have lf:=free_of_one b32
      have HB:=sE (And.intro b30 (And.intro b31 b32))
      have HK3:=sE k3
      clear n0 n1 n2 ng nc d0 d1 d2 d3 d4 b30 b31 b32 gx gy k3
      gi_wp2_with fail
      have KB:Kp (λ b=>b=m+1+1) w3 (w3.setCell ⟨m+1+1,0,none⟩ (.bool o')):=(Kr (λ b=>b=m+1+1) w3).setCell (λ _=>rfl) _
      refine⟨(HK3.out.mono λ b hb h=>by omega).trans KB (λ b hb h=>by omega),X',Y',o',⟨KB.at_ HB.out.1 (by omega),KB.at_ HB.out.2.1 (by omega),one_setCell HB.out.2.2,?_⟩,HD'.out⟩
      exact(HH2.out.hk.trans HK3.out (λ b hb h=>by omega)).trans KB (λ b hb h=>by omega)
    |true=>
      obtain⟨lt,e1⟩:=drop_behind hc0.out HX.out hD
      have t1:decide ((j:Int)<(x.g:Int))=true:=dT (by omega)
      by_cases ht:x.tag=1
      . have t2:((x.tag:Int)==1)=true:=by simp;omega
        have HD':=sE hD
        clear hD
        gi_wp2_with fail
        exact⟨Kr _ _,rfl,pre,x,X,Y,rfl,ht,HH2.out,HD'.out⟩
      . have t2:((x.tag:Int)==1)=false:=by simp;omega
        obtain⟨X',Y',hD',gx,gy⟩:∃ X' Y',Es j (pre++[x]) X' Y' true/\growX x j X true=X'/\growY x j Y=Y':=⟨X,x.fin,e1 ht,if_neg (λ h=>ht h.1),if_neg (λ h=>ht h.1)⟩
        have HD':=sE hD'
        clear hD e1 hD'
        gi_wp2_with fail
        refine⟨trivial,rfl,?_⟩
        refine(BR HGr.out).mono ?_
        rintro e w3 ⟨rfl,k3,b30,b31⟩
        rw[gx] at b30
        rw[gy] at b31
        have b32:=k3.at_ HH2.out.h2 (by omega)
        have l0:=cell_of_one (k3.at_ HG2.out (by omega))
        have l1:w3.cell? ⟨W'.heap.size,0,none⟩=some (.int .i64 (x.g:Nat)):=k3.cell d0 (by dsimp only;omega)
        have l2:=cell_of_one b32
        have lf:=free_of_one b32
        have HB:=sE (And.intro b30 (And.intro b31 b32))
        have HK3:=sE k3
        clear n0 n1 n2 ng nc d0 d1 d2 d3 d4 b30 b31 b32 gx gy k3
        gi_wp2_with fail
        have KB:Kp (λ b=>b=m+1+1) w3 (w3.setCell ⟨m+1+1,0,none⟩ (.bool true)):=(Kr (λ b=>b=m+1+1) w3).setCell (λ _=>rfl) _
        refine⟨(HK3.out.mono λ b hb h=>by omega).trans KB (λ b hb h=>by omega),X',Y',true,⟨KB.at_ HB.out.1 (by omega),KB.at_ HB.out.2.1 (by omega),one_setCell HB.out.2.2,?_⟩,HD'.out⟩
        exact(HH2.out.hk.trans HK3.out (λ b hb h=>by omega)).trans KB (λ b hb h=>by omega)
  case hdone=>
    rintro W' ⟨X,Y,o,hH,hD⟩ hs hDf
    cases o with
    |false=>exact absurd hD (drop_not HYes.out)
    |true=>
      obtain⟨p1,g1,c,g2,p2,hDO⟩:=drop_end hc0.out (List.append_nil cs).symm hD (.inl rfl)
      obtain⟨hcel,hyle⟩:=hDO.cells hn HCs.out
      have hxy:X<=Y:=by obtain⟨-,-,-,-,-,-,-,-,-,h⟩:=hDO;omega
      have hDO':=sE hDO
      have hcel':=sE hcel
      have SW:=HSL.out.keep hH.hk (λ k hk h=>by have:=lw k hk;omega)
      have HM1:Sl ((Y:Int)-(X:Int)=((Y-X:Nat):Int)):=⟨by omega⟩
      have HG:=sE (gap_any X (Y-X) P W _ W' SW (by omega))
      have n0:=cell_of_one hH.h0
      have n1:=cell_of_one hH.h1
      have hH':=sE hH
      clear hDO hcel SW hH hD
      gi_wp2_with fail
      rw[HM1.out]
      refine⟨trivial,rfl,?_⟩
      refine(callsIn_wide.2 HG.out).mono ?_
      rintro e w9 ⟨rfl,k9,S9⟩
      have HS9:=sE S9
      have HK9:=sE k9
      have hDf9:=k9.at_ hDf (λ h=>by have h1:=lw P.a (by simp[Sp.all]);have h2:=lw P.q (by simp[Sp.all]);omega)
      clear S9 k9 n0 n1
      gi_wp2_with fail
      refine⟨by simp,.inl ⟨_,_,rfl,run_takeDeferred (hzl▸hDf9),?_⟩⟩
      have kE:Kp (λ b=>b=(m+1+1+1+1+1)) w9 (w9.putObj (m+1+1+1+1+1) (.deferred none)):=(Kr (λ b=>b=(m+1+1+1+1+1)) w9).putObj (λ _=>rfl) _
      have hks:∀ b,P.all b->¬ b=(m+1+1+1+1+1):=λ b hb h=>by have:=lw b hb;omega
      refine⟨.int .i64 0,by simp[results,results85,go_sem],.inr ⟨rfl,?_,j,p1,g1,c,g2,p2,X,Y,rfl,hDO'.out,⟨_,HS9.out.keep kE hks,hcel'.out,hDO'.out.starts HSt.out hc0.out⟩⟩⟩
      exact((HKL.out.trans hH'.out.hk (λ b hb h=>by omega)).trans HK9.out (λ b hb h=>by rcases h with h|h;exact .inl h;exact .inr (.inl h))).trans kE (λ b hb h=>by omega)
  case hstop=>
    rintro c pre W' hp ⟨rfl,p,d,X,Y,e1,e2,hH,hD⟩ hs hDf
    obtain⟨rest,hrest⟩:=hp
    rw[e1] at hrest
    have hrest':cs=p++(d::rest):=by rw[<- hrest];simp
    have HRest:=sE hrest'
    clear hrest hrest' e1
    obtain⟨p1,g1,c,g2,p2,hDO⟩:=drop_end hc0.out HRest.out hD (.inr ⟨_,_,rfl,e2⟩)
    obtain⟨hcel,hyle⟩:=hDO.cells hn HCs.out
    have hxy:X<=Y:=by obtain⟨-,-,-,-,-,-,-,-,-,h⟩:=hDO;omega
    have hDO':=sE hDO
    have hcel':=sE hcel
    have SW:=HSL.out.keep hH.hk (λ k hk h=>by have:=lw k hk;omega)
    have HM1:Sl ((Y:Int)-(X:Int)=((Y-X:Nat):Int)):=⟨by omega⟩
    have HG:=sE (gap_any X (Y-X) P W _ W' SW (by omega))
    have n0:=cell_of_one hH.h0
    have n1:=cell_of_one hH.h1
    have hH':=sE hH
    clear hDO hcel SW hH hD
    gi_wp2_with fail
    rw[HM1.out]
    refine⟨trivial,rfl,?_⟩
    refine(callsIn_wide.2 HG.out).mono ?_
    rintro e w9 ⟨rfl,k9,S9⟩
    have HS9:=sE S9
    have HK9:=sE k9
    have hDf9:=k9.at_ hDf (λ h=>by have h1:=lw P.a (by simp[Sp.all]);have h2:=lw P.q (by simp[Sp.all]);omega)
    clear S9 k9 n0 n1
    gi_wp2_with fail
    refine⟨by simp,.inl ⟨_,_,rfl,run_takeDeferred (hzl▸hDf9),?_⟩⟩
    have kE:Kp (λ b=>b=(m+1+1+1+1+1)) w9 (w9.putObj (m+1+1+1+1+1) (.deferred none)):=(Kr (λ b=>b=(m+1+1+1+1+1)) w9).putObj (λ _=>rfl) _
    have hks:∀ b,P.all b->¬ b=(m+1+1+1+1+1):=λ b hb h=>by have:=lw b hb;omega
    refine⟨.int .i64 0,by simp[results,results85,go_sem],.inr ⟨rfl,?_,j,p1,g1,c,g2,p2,X,Y,rfl,hDO'.out,⟨_,HS9.out.keep kE hks,hcel'.out,hDO'.out.starts HSt.out hc0.out⟩⟩⟩
    exact((HKL.out.trans hH'.out.hk (λ b hb h=>by omega)).trans HK9.out (λ b hb h=>by rcases h with h|h;exact .inl h;exact .inr (.inl h))).trans kE (λ b hb h=>by omega)

theorem Drop_anyW(g:Int)(P:Sp)(cs:List Cel)(w:World)(W:Nat->Nat)(h:Az w P W cs):
    Calls prog 85 #[.pointer (some ⟨P.s,0,none⟩),.int .i64 g] w (FB P cs W g w):=by
  by_cases hno:∀ j:Nat,g=(j:Nat)->Ar cs j=false
  . exact Drop_no g P cs w W h hno
  . simp only[Classical.not_forall] at hno
    obtain⟨j,rfl,hj⟩:=hno
    exact Drop_yes j P cs w W h (by simpa using hj)

end

section
open Go.RowKit

def alT:List TypR:=[⟨2,0,0⟩]
def alA:List Cel:=[⟨0,3,0,0,8⟩]
def alB:List Cel:=[⟨0,2,0,0,1⟩,⟨1,1,1,3,2⟩,⟨3,3,0,0,5⟩]

attribute [local go_sem ↓] run_eql_cell

theorem Ck.lt{w:World}{P:Sp}{cs:List Cel}(h:Ck w P cs):∀ k,P.all k->k<w.heap.size:=by
 obtain⟨W,f,h,_⟩:=h;exact h.lt

end

section
open Go.RowKit

structure RowF(w:World)(g cap n:Nat)(f:Nat->Cel):Prop where
 blk:∃ cur,w.heap[g]?=some (.cells cur 71 (0,0))/\cur.size=cap*5/\∀ p,p<n->cur[p*5]?=some (.int .i64 ((f p).g:Nat))/\cur[p*5+1]?=some (.int .u8 ((f p).tag:Nat))/\cur[p*5+2]?=some (.int .i64 ((f p).ty:Nat))/\cur[p*5+3]?=some (.int .i64 ((f p).ln:Nat))/\cur[p*5+4]?=some (.int .i64 ((f p).sz:Nat))
 le:n<=cap
 cap_le:cap<=maxLen

theorem RowF.keep{S:Nat->Prop}{w w':World}{g cap n:Nat}{f:Nat->Cel}(h:RowF w g cap n f)(k:Kp S w w')(hs:¬ S g):RowF w' g cap n f:=by
 obtain⟨cur,h1,h2⟩:=h.blk
 exact⟨⟨cur,k.at_ h1 hs,h2⟩,h.le,h.cap_le⟩

theorem RowF.cells{w:World}{g cap n p:Nat}{f:Nat->Cel}(h:RowF w g cap n f)(hp:p<n):w.cell? ⟨g,p*5,none⟩=some (.int .i64 ((f p).g:Nat))/\w.cell? ⟨g,p*5+1,none⟩=some (.int .u8 ((f p).tag:Nat))/\w.cell? ⟨g,p*5+2,none⟩=some (.int .i64 ((f p).ty:Nat))/\
  w.cell? ⟨g,p*5+3,none⟩=some (.int .i64 ((f p).ln:Nat))/\w.cell? ⟨g,p*5+4,none⟩=some (.int .i64 ((f p).sz:Nat)):=by
 obtain⟨cur,h1,h2,h3⟩:=h.blk
 obtain⟨a0,a1,a2,a3,a4⟩:=h3 p hp
 simp only[World.cell?,h1]
 exact⟨by simpa using a0,by simpa using a1,by simpa using a2,by simpa using a3,by simpa using a4⟩

theorem RowF.free{w:World}{g cap n:Nat}{f:Nat->Cel}(h:RowF w g cap n f)(j:Nat):w.frozen? ⟨g,j,none⟩=false:=by
 obtain⟨cur,h1,-⟩:=h.blk
 exact Ae h1 j

theorem RowF.lt{w:World}{g cap n:Nat}{f:Nat->Cel}(h:RowF w g cap n f):g<w.heap.size:=by
 obtain⟨cur,h1,-⟩:=h.blk
 exact lZ h1

theorem RowF.isCell{w:World}{g cap n q:Nat}{f:Nat->Cel}(h:RowF w g cap n f)(hq:q<cap*5):(w.cell? ⟨g,q,none⟩).isSome=true:=by
 obtain⟨cur,h1,h2,-⟩:=h.blk
 simp only[World.cell?,h1]
 rw[<- h2] at hq
 simp[hq]

def updF(f:Nat->Cel)(p:Nat)(x:Cel)(i:Nat):Cel:=if i=p then x else f i

theorem RowF.store{w:World}{g cap n p:Nat}{f:Nat->Cel}(h:RowF w g cap n f)(hp:p<n)(x:Cel):
  RowF (((((w.setCell ⟨g,p*5,none⟩ (.int .i64 (x.g:Nat))).setCell ⟨g,p*5+1,none⟩ (.int .u8 (x.tag:Nat))).setCell ⟨g,p*5+2,none⟩ (.int .i64 (x.ty:Nat))).setCell ⟨g,p*5+3,none⟩ (.int .i64 (x.ln:Nat))).setCell ⟨g,p*5+4,none⟩ (.int .i64 (x.sz:Nat))) g cap n (updF f p x):=by
 obtain⟨cur,h1,h2,h3⟩:=h.blk
 have hle:=h.le
 refine⟨⟨_,bZ (bZ (bZ (bZ (bZ h1 _) _) _) _) _,by simp[h2],λ i hi=>?_⟩,h.le,h.cap_le⟩
 have hsz:p*5+4<cur.size:=by omega
 obtain⟨a0,a1,a2,a3,a4⟩:=h3 i hi
 by_cases e:i=p
 .subst e
  unfold updF
  rw[if_pos rfl]
  simp only[Array.getElem?_setIfInBounds]
  refine⟨?_,?_,?_,?_,?_⟩ <;> (simp;omega)
 .unfold updF
  rw[if_neg e]
  simp only[Array.getElem?_setIfInBounds]
  refine⟨?_,?_,?_,?_,?_⟩ <;> (rw [if_neg (by omega),if_neg (by omega),if_neg (by omega),if_neg (by omega),if_neg (by omega)];assumption)

theorem Obj1_at(x:Cel)(w:World):Calls prog 48 #[cellV x] w λ e w'=>e=.returned (.bool ((x.tag:Int) !=1))/\Kp Ab w w':=by
 unfold cellV
 go_enter func48,ntmps48
 go_wp2
 go_ret
 exact⟨rfl,(Kr Ab w).alloc _⟩

def IdxPost(n:Nat)(f:Nat->Cel)(w:World)(e:Ending)(w':World):Prop:=
 Kp Ab w w'/\((∃ i,i<n/\¬ (f i).tag=1/\(∀ p,p<i->(f p).tag=1)/\e=.returned (.int .i64 (i:Nat)))\/((∀ p,p<n->(f p).tag=1)/\e=.returned (.int .i64 (-1))))

theorem IndexFunc_at(g cap n:Nat)(f:Nat->Cel)(w:World)(h:RowF w g cap n f)(hn:n<=65536):
  Calls prog 98 #[.slice (some ⟨g,0,none⟩) n cap,.func (.func 48) #[] #[]] w (IdxPost n f w):=by
 have HR:=sE h
 have HO:Sl (∀ (x:Cel) W',Calls prog 48 #[.agg #[.int .i64 (x.g:Nat),.int .u8 (x.tag:Nat),.int .i64 (x.ty:Nat),.int .i64 (x.ln:Nat),.int .i64 (x.sz:Nat)]] W' λ e w'=>e=.returned (.bool ((x.tag:Int) !=1))/\Kp Ab W' w'):=⟨λ x W'=>Obj1_at x W'⟩
 clear h
 go_enter func98,ntmps98
 go_wp2_with fail
 go_loopw [5,8] (λ _ y wr=>∃ j:Nat,j<=n/\y=.int .i64 (j:Nat)/\Sl (∀ p,p<j->(f p).tag=1)/\Kp Ab w wr) (λ _ y _=>n-(intOf y).toNat)
 case atStart=>exact ⟨0,Nat.zero_le _,rfl,⟨λ p hp=>by omega⟩,Kr _ _⟩
 case round=>
  obtain⟨j,hj,rfl,HA,hk⟩:=hrel
  have HK:=sE hk
  by_cases hjl:j<n
  .have hjl':(j:Int)<(n:Int):=by omega
   obtain⟨c0,c1,c2,c3,c4⟩:=(HR.out.keep hk (λ h=>h)).cells hjl
   obtain⟨x,hx⟩:∃ x,f j=x:=⟨_,rfl⟩
   have HX:=sE hx
   rw[hx] at c0 c1 c2 c3 c4
   have HC:=HO.out x wr
   clear hk hx
   by_cases ht:x.tag=1
   .rw [show ((x.tag:Int) !=1)=false by simp[ht]] at HC
    have HCs:=sE HC
    have HA2:Sl (∀ p,p<j+1->(f p).tag=1):=⟨λ p hp=>by
     by_cases e:p=j
     .rw [e,HX.out,ht]
     .exact HA.out p (by omega)⟩
    clear HC ht
    go_wp2_with fail
    refine HCs.out.mono ?_
    rintro e w1 ⟨rfl,k1⟩
    have HK1:=sE (HK.out.then' k1)
    clear k1
    go_wp2
    exact⟨⟨j+1,by omega,by go_num,HA2,HK1.out⟩,by simp only[intOf];omega⟩
   .rw [show ((x.tag:Int) !=1)=true by simp;omega] at HC
    have HCs:=sE HC
    have HF:Sl (¬ (f j).tag=1):=⟨by rw[HX.out];exact ht⟩
    clear HC ht
    go_wp2_with fail
    refine HCs.out.mono ?_
    rintro e w1 ⟨rfl,k1⟩
    have HK1:=sE (HK.out.then' k1)
    clear k1
    go_wp2
    go_ret
    exact⟨HK1.out,.inl ⟨j,hjl,HF.out,HA.out,rfl⟩⟩
  .have hjl':¬ (j:Int)<(n:Int):=by omega
   clear hk
   go_wp2
   go_ret
   exact⟨HK.out,.inr ⟨λ p hp=>HA.out p (by omega),rfl⟩⟩

theorem zeroCell10(w:World):(zeroValue 71).run prog w=.ok (.agg #[.int .i64 0,.int .u8 0,.int .i64 0,.int .i64 0,.int .i64 0]) w:=by kernel_rfl

theorem EY(b:Nat)(T:TypeId):∀ (vs:List Value) (o:Nat) (w:World) (cur:Array Value),w.heap[b]?=some (.cells cur T (0,0))->
  ∃ cur',(w.setCells b o vs).heap[b]?=some (.cells cur' T (0,0))/\cur'.size=cur.size/\(∀ j,j<o->cur'[j]?=cur[j]?)/\Kp (λ k=>k=b) w (w.setCells b o vs)
 |[],o,w,cur,h=>⟨cur,h,rfl,λ _ _=>rfl,Kr _ _⟩
 |v::r,o,w,cur,h=>by
  obtain⟨cur',h1,h2,h3,h4⟩:=EY b T r (o+1) _ _ (bZ h (j:=o) v)
  refine⟨cur',h1,by rw[h2];simp,λ j hj=>?_,((Kr (λ k=>k=b) w).setCell (λ _=>rfl) _).trans h4 (λ _ _ h=>h)⟩
  rw[h3 j (by omega),Array.getElem?_setIfInBounds,if_neg (by omega)]

theorem run_clear_cells{Pr:Program}(w:World)(t e ty:TypeId)(z:Value)(k:Nat)(ht:Pr.underlying t=some (.slice e))(hv:∀ w,(zeroValue e).run Pr w=.ok z w)(hz:z.cells.size=k)(h1:∀ u∈z.cells.toList,u.oneCell'=true)(h0:0<k)(b o n c:Nat)(hn:0<n)
  (hc:∀ j,j<n*k->(w.cell? ⟨b,o+j,none⟩).isSome=true) (hf:∀ j,j<n*k->w.frozen? ⟨b,o+j,none⟩=false):
  (Builtin.clear_ #[t] ty #[.slice (some ⟨b,o,none⟩) n c]).run Pr w=.ok (.tuple #[]) (w.setCells b o (Builtin.zeroCells z.cells n).toList):=by
 have hl:(Builtin.zeroCells z.cells n).toList.length=n*k:=by simp[Builtin.zeroCells,hz]
 have hst:=run_storeCells_cells (P:=Pr) b o (Builtin.zeroCells z.cells n).toList 0 w (by rw[hl];simpa using hc) (by rw[hl];simpa using hf) (by
  intro u hu
  simp only[Builtin.zeroCells,Array.toList_map,List.mem_map] at hu
  obtain⟨i,-,rfl⟩:=hu
  have:i%z.cells.size<z.cells.size:=Nat.mod_lt _ (by omega)
  rw[getElem!_pos z.cells _ this]
  exact h1 _ (by simp))
 simp only[Nat.add_zero] at hst
 obtain⟨m,rfl⟩:∃ m,n=m+1:=⟨n-1,by omega⟩
 simp[Builtin.clear_,run_underlying ht,hv,hst]

theorem cells5'{w:World}{b:Nat}{a0 a1 a2 a3 a4:Value}{T:TypeId}(hb:w.heap[b]?=some (.cells #[a0,a1,a2,a3,a4] T (0,0))):
  w.cell? ⟨b,0,none⟩=some a0/\w.cell? ⟨b,1,none⟩=some a1/\w.cell? ⟨b,2,none⟩=some a2/\w.cell? ⟨b,3,none⟩=some a3/\w.cell? ⟨b,4,none⟩=some a4:=by
 refine⟨?_,?_,?_,?_,?_⟩ <;> simp only[World.cell?,hb] <;> rfl

def DelPost(cs:List Cel)(g cap:Nat)(w:World)(e:Ending)(w':World):Prop:=
 e=.returned (.slice (some ⟨g,0,none⟩) (Ap cs).length cap)/\Kp (λ k=>k=g) w w'/\∃ f,RowF w' g cap (Ap cs).length f/\∀ p x,(Ap cs)[p]?=some x->f p=x

theorem objsOf_all{cs:List Cel}(h:∀ x∈cs,x.tag=1):Ap cs=cs:=List.filter_eq_self.2 λ x hx=>by simp[h x hx]

theorem objsOf_succ{cs:List Cel}{j:Nat}{x:Cel}(h:cs[j]?=some x):Ap (cs.take (j+1))=Ap (cs.take j)++(if x.tag=1 then [x] else []):=by
 rw[List.take_add_one,h,objsOf_append]
 congr 1
 by_cases ht:x.tag=1 <;> simp[Ap,ht]

set_option maxRecDepth 20000 in
theorem DeleteFunc_at(cs:List Cel)(g cap n:Nat)(f0:Nat->Cel)(w:World)(h:RowF w g cap n f0)(hl:cs.length=n)(hf:∀ p x,cs[p]?=some x->f0 p=x)(hn:n<=65536)(hcap:cap<=9223372036854775807):
  Calls prog 47 #[.slice (some ⟨g,0,none⟩) n cap,.func (.func 48) #[] #[]] w (DelPost cs g cap w):=by
 have HR:=sE h
 have HI:=sE (IndexFunc_at g cap n f0 w h hn)
 have HO:Sl (∀ (x:Cel) W',Calls prog 48 #[.agg #[.int .i64 (x.g:Nat),.int .u8 (x.tag:Nat),.int .i64 (x.ty:Nat),.int .i64 (x.ln:Nat),.int .i64 (x.sz:Nat)]] W' λ e w'=>e=.returned (.bool ((x.tag:Int) !=1))/\Kp Ab W' w'):=⟨λ x W'=>Obj1_at x W'⟩
 have HF:Sl (∀ p,p<n->cs[p]?=some (f0 p)):=⟨λ p hp=>by
  obtain⟨x,hx⟩:∃ x,cs[p]?=some x:=⟨_,List.getElem?_eq_getElem (by omega)⟩
  rw[hx,hf p x hx]⟩
 have hnc:=h.le
 have HL:=sE hl
 clear h hf hl
 go_enter func47,ntmps47
 go_wp2_with fail
 refine HI.out.mono ?_
 rintro e w1 ⟨k1,⟨i,hi,ht,hpre,rfl⟩|⟨hall,rfl⟩⟩
 .have HK1:=sE k1
  have HT0:Sl (Ap (cs.take (i+1))=cs.take i):=⟨by
   rw[objsOf_succ (HF.out i hi),if_neg ht,List.append_nil]
   refine objsOf_all λ x hx=>?_
   obtain⟨p,hp,rfl⟩:=List.getElem_of_mem hx
   have hp':p<i:=by simp at hp;omega
   have:=HF.out p (by omega)
   rw[List.getElem_take]
   have h2:=(gE.1 this).2
   rw[h2]
   exact hpre p hp'⟩
  have HR1:=sE (HR.out.keep k1 (λ h=>h))
  have b0:((i:Int)==-1)=false:=by simp
  clear k1 ht hpre
  go_wp2_with fail
  go_loopw [5,6,7] (λ x5 x6 _ wr=>∃ (j c:Nat) (f:Nat->Cel),j<=n/\x6=.int .i64 (j:Nat)/\x5=.int .i64 (c:Nat)/\c<j/\Sl (c=(Ap (cs.take j)).length)/\RowF wr g cap n f/\Sl (∀ p,p<c->(Ap (cs.take j))[p]?=some (f p))/\Sl (∀ p,j<=p->p<n->f p=f0 p)/\Kp (λ k=>k=g) w1 wr) (λ _ x6 _ _=>n-(intOf x6).toNat)
  case atStart=>
   refine⟨i+1,i,f0,by omega,by go_num,rfl,by omega,⟨?_⟩,HR1.out,⟨λ p hp=>?_⟩,⟨λ p _ _=>rfl⟩,Kr _ _⟩
   .rw [HT0.out,List.length_take,HL.out];omega
   .rw [HT0.out,List.getElem?_take_of_lt hp]
    exact HF.out p (by omega)
  case round=>
   obtain⟨j,c,f,hj,rfl,rfl,hcj,HC,hr,HA,HB,hk⟩:=hrel
   have HK:=sE hk
   have HRr:=sE hr
   by_cases hjl:j<n
   .have hjl':(j:Int)<(n:Int):=by omega
    obtain⟨c0,c1,c2,c3,c4⟩:=hr.cells hjl
    obtain⟨x,hx⟩:∃ x,f j=x:=⟨_,rfl⟩
    have HX:Sl (cs[j]?=some x):=⟨by rw[HF.out j hjl,<- HB.out j (Nat.le_refl _) hjl,hx]⟩
    rw[hx] at c0 c1 c2 c3 c4
    have HCl:=HO.out x
    have lg:=hr.lt
    have k2:Kp Ab wr (wr.alloc (.cells #[.int .i64 (x.g:Nat),.int .u8 (x.tag:Nat),.int .i64 (x.ty:Nat),.int .i64 (x.ln:Nat),.int .i64 (x.sz:Nat)] 71)):=(Kr _ wr).alloc _
    have HB2:=sE (wN wr (.cells #[.int .i64 (x.g:Nat),.int .u8 (x.tag:Nat),.int .i64 (x.ty:Nat),.int .i64 (x.ln:Nat),.int .i64 (x.sz:Nat)] 71))
    have HK2:=sE k2
    have HSu:=sE (objsOf_succ HX.out)
    clear hk hr hx k2
    by_cases ht:x.tag=1
    .rw [show ((x.tag:Int) !=1)=false by simp[ht]] at HCl
     have HCs:=sE HCl
     rw[if_pos ht] at HSu
     clear HCl ht
     go_wp2_with fail
     refine(HCs.out _).mono ?_
     rintro e w3 ⟨rfl,k3⟩
     obtain⟨d0,d1,d2,d3,d4⟩:=cells5' (k3.at_ HB2.out (λ h=>h))
     have hr3:=(HRr.out.keep HK2.out (λ h=>h)).keep k3 (λ h=>h)
     have hcn:c<n:=by omega
     have hcn':(c:Int)<(n:Int):=by omega
     obtain⟨e0,e1,e2,e3,e4⟩:=hr3.cells hcn
     have hfz:=hr3.free
     have HR3:=sE hr3
     have HK3:=sE (HK2.out.then' k3)
     clear c0 c1 c2 c3 c4 k3 hr3
     go_wp2
     have hrs:=HR3.out.store hcn x
     have ks:Kp (λ k=>k=g) w3 (((((w3.setCell ⟨g,c*5,none⟩ (.int .i64 (x.g:Nat))).setCell ⟨g,c*5+1,none⟩ (.int .u8 (x.tag:Nat))).setCell ⟨g,c*5+2,none⟩ (.int .i64 (x.ty:Nat))).setCell ⟨g,c*5+3,none⟩ (.int .i64 (x.ln:Nat))).setCell ⟨g,c*5+4,none⟩ (.int .i64 (x.sz:Nat))):=
      (((((Kr (λ k=>k=g) w3).setCell (λ _=>rfl) _).setCell (λ _=>rfl) _).setCell (λ _=>rfl) _).setCell (λ _=>rfl) _).setCell (λ _=>rfl) _
     refine⟨⟨j+1,c+1,updF f c x,by omega,by go_num,by go_num,by omega,⟨?_⟩,hrs,⟨λ p hp=>?_⟩,⟨λ p h1 h2=>?_⟩,(HK.out.trans HK3.out (λ _ _ h=>h.elim)).trans ks (λ _ _ h=>h)⟩,by simp only[intOf];omega⟩
     .rw [HSu.out,List.length_append,<- HC.out]
      rfl
     .rw [HSu.out]
      by_cases e:p=c
      .subst e
       rw[List.getElem?_append_right (by rw[<- HC.out];exact Nat.le_refl _),<- HC.out,Nat.sub_self]
       simp[updF]
      .rw [List.getElem?_append_left (by rw[<- HC.out];omega),HA.out p (by omega)]
       simp[updF,e]
     .rw [<- HB.out p (by omega) h2]
      unfold updF
      rw[if_neg (by omega)]
    .rw [show ((x.tag:Int) !=1)=true by simp;omega] at HCl
     have HCs:=sE HCl
     rw[if_neg ht,List.append_nil] at HSu
     clear HCl ht
     go_wp2_with fail
     refine(HCs.out _).mono ?_
     rintro e w3 ⟨rfl,k3⟩
     have HR3:=sE ((HRr.out.keep HK2.out (λ h=>h)).keep k3 (λ h=>h))
     have HK3:=sE (HK2.out.then' k3)
     clear c0 c1 c2 c3 c4 k3
     go_wp2
     exact⟨⟨j+1,c,f,by omega,by go_num,rfl,by omega,⟨by rw[HSu.out];exact HC.out⟩,HR3.out,⟨λ p hp=>by rw[HSu.out];exact HA.out p hp⟩,⟨λ p h1 h2=>HB.out p (by omega) h2⟩,HK.out.trans HK3.out (λ _ _ h=>h.elim)⟩,by simp only[intOf];omega⟩
   .obtain rfl:j=n:=by omega
    have hjl':¬ (j:Int)<(j:Int):=by omega
    have hcj':(c:Int)<(j:Int):=by omega
    obtain⟨vs,hvs⟩:∃ vs,(Builtin.zeroCells (Value.cells (.agg #[.int .i64 0,.int .u8 0,.int .i64 0,.int .i64 0,.int .i64 0])) (j-c)).toList=vs:=⟨_,rfl⟩
    have hcl:∀ ty,(Builtin.clear_ #[40] ty #[.slice (some ⟨g,c*5,none⟩) (j-c) (cap-c)]).run prog wr=.ok (.tuple #[]) (wr.setCells g (c*5) vs):=λ ty=>by
     rw[<- hvs]
     exact run_clear_cells wr _ 71 ty _ 5 Ey zeroCell10 rfl (by intro u hu;simp [Value.cells] at hu;rcases hu with rfl|rfl|rfl|rfl|rfl <;> rfl) (by omega) g (c*5) (j-c) _ (by omega)
      (λ q hq=>hr.isCell (by have:=hr.le;omega)) (λ q hq=>hr.free _)
    have hcc:c<=cap:=by omega
    have hcc':(c:Int)<=(cap:Int):=by omega
    have HVs:=sE hvs
    clear hk hr hvs
    go_wp2
    go_ret
    obtain⟨cur,e1,e2,e3⟩:=HRr.out.blk
    obtain⟨cur',d1,d2,d3,d4⟩:=EY g 71 vs (c*5) wr cur e1
    have hall:Ap (cs.take j)=Ap cs:=by rw[List.take_of_length_le (by rw[HL.out];omega)]
    have hcL:c=(Ap cs).length:=by rw[<- hall];exact HC.out
    refine⟨by rw[<- hcL];rfl,((HK1.out.Al (λ k=>k=g)).trans HK.out (λ _ _ h=>h)).trans d4 (λ _ _ h=>h),f,⟨⟨cur',d1,by rw[d2,e2],λ p hp=>?_⟩,by omega,HRr.out.cap_le⟩,λ p x hx=>?_⟩
    .rw [<- hcL] at hp
     rw[d3 _ (by omega),d3 _ (by omega),d3 _ (by omega),d3 _ (by omega),d3 _ (by omega)]
     exact e3 p (by omega)
    .have hp:=(gE.1 hx).1
     have:=HA.out p (by omega)
     rw[hall,hx] at this
     injection this with this
     exact this.symm
 .have HE:Sl (Ap cs=cs):=⟨objsOf_all λ x hx=>by
   obtain⟨p,hp,rfl⟩:=List.getElem_of_mem hx
   have hp2:p<n:=by have:=HL.out;omega
   have h1:=HF.out p hp2
   have h2:=(gE.1 h1).2
   rw[h2]
   exact hall p hp2⟩
  have HK1:=sE k1
  clear hall k1
  go_wp2
  go_ret
  refine⟨by rw[HE.out,HL.out];rfl,HK1.out.Al _,f0,by rw[HE.out,HL.out];exact HR.out.keep HK1.out (λ h=>h),λ p x hx=>?_⟩
  rw[HE.out] at hx
  have hp:=(gE.1 hx).1
  have:=HF.out p (by have:=HL.out;omega)
  rw[hx] at this
  injection this with this
  exact this.symm

theorem RowF.BK{w:World}{base:Nat}{v:Value}{cs:List Cel}(h:w.ownsRow base 71 5 v cs.length (Cr cs))(hne:cs≠[]):∃ g cap,v=.slice (some ⟨g,0,none⟩) cs.length cap/\base<=g/\RowF w g cap cs.length (λ p=>(cs[p]?).getD ⟨0,0,0,0,0⟩):=by
 rcases h.2 with ⟨-,h0⟩|⟨g,cap,cur,hv,g2,g3,g4,g5,g6,g7⟩
 .exact absurd (List.length_eq_zero_iff.1 h0) hne
 .refine ⟨g,cap,hv,g2,⟨cur,g3,g6,λ p hp=>?_⟩,g4,g5⟩
  have hx:cs[p]?=some cs[p]:=List.getElem?_eq_getElem hp
  obtain⟨x0,x1,x2,x3,x4⟩:=flatC_at cs p _ hx
  have key:∀ j,j<cs.length*5->cur[j]?=(Cr cs)[j]?:=λ j hj=>by
   rw[<- g7,List.getElem?_take_of_lt hj]
   simp
  rw[hx]
  exact⟨by rw[key _ (by omega)];exact x0,by rw[key _ (by omega)];exact x1,by rw[key _ (by omega)];exact x2,by rw[key _ (by omega)];exact x3,by rw[key _ (by omega)];exact x4⟩

theorem RowC.of_rowF{w:World}{g cap:Nat}{f:Nat->Cel}{xs:List Cel}(h:RowF w g cap xs.length f)(hf:∀ p x,xs[p]?=some x->f p=x):RowC w (.slice (some ⟨g,0,none⟩) xs.length cap) xs:=by
 refine⟨_,_,rfl,λ i x hx=>?_⟩
 have hi:=(gE.1 hx).1
 have hc:=h.cells hi
 rw[hf i x hx] at hc
 exact⟨g,rfl,h.lt,hc⟩

theorem Objects_at(P:Sp)(cs:List Cel)(w:World)(h:Ck w P cs)(hne:cs≠[]):
  Calls prog 12 #[.pointer (some ⟨P.s,0,none⟩)] w λ e w'=>∃ a cap,e=.returned (.slice a (Ap cs).length cap)/\RowC w' (.slice a (Ap cs).length cap) (Ap cs)/\Kp Ab w w':=by
 have hlen:cs.length<=65536:=by
  obtain⟨W,f,hs,hc,-⟩:=h
  have:=Ci hc.tl
  have:=hs.ar.small
  omega
 have HC:=sE (Cells_at P cs w h)
 clear h
 go_enter func12,ntmps12
 go_wp2_with fail
 refine HC.out.mono ?_
 rintro e w1 ⟨v,rfl,hown,k1⟩
 obtain⟨g,cap,rfl,hg,hr⟩:=RowF.BK hown hne
 obtain⟨n,hn⟩:∃ n,cs.length=n:=⟨_,rfl⟩
 have HD:=sE (DeleteFunc_at cs g cap cs.length _ w1 hr rfl (λ p x hx=>by rw[hx];rfl) hlen (by have:=hr.cap_le;unfold maxLen at this;omega))
 rw[hn] at HD ⊢
 have HK1:=sE k1
 clear hown hr k1 hn
 go_wp2_with fail
 refine HD.out.mono ?_
 rintro e w2 ⟨rfl,k2,f,hf,hfx⟩
 have HR:=sE (RowC.of_rowF hf hfx)
 have HK2:Sl (Kp Ab w w2):=⟨((HK1.out.Al (λ k=>w.heap.size<=k)).trans k2 (λ i _ h=>by omega)).mono (λ i hi h=>by omega)⟩
 obtain⟨m,hm⟩:∃ m,(Ap cs).length=m:=⟨_,rfl⟩
 rw[hm] at HR
 have HM:=sE hm
 rw[hm]
 clear k2 hf hfx hm
 go_wp2
 go_ret
 rw[HM.out]
 exact⟨_,_,rfl,HR.out,HK2.out⟩

end

end Go.Proofs.YtmfajopmppfldaaGreatDoor
