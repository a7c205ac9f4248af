/-
  Lemmas for the laws, together: TurnAl, TurnPl.
-/
import Derived.Test.YtmfajopmppfldaaGreatDoorQbb
import Derived.Test.YtmfajopmppfldaaGreatDoorQbi
import Derived.Test.YtmfajopmppfldaaGreatDoorQbl
import Derived.Test.YtmfajopmppfldaaGreatDoorQbg
import Derived.Test.YtmfajopmppfldaaGreatDoorQbj
set_option linter.unusedVariables false
set_option maxHeartbeats 16000000
namespace Go.Proofs.YtmfajopmppfldaaGreatDoor
open Go.Proofs.Tryz
section
open Go.RowKit

theorem join23{P:Sp}(ht:P.ts=alT){W W':Nat->Nat}{cs':List Cel}(h:JoinStep P W Dv 0 2 0 W' cs'):cs'=Dv/\W'=BM W 3 1048588:=by
 obtain⟨rfl,h⟩:=h
 refine⟨rfl,?_⟩
 have ho:Bu Dv=[1,3,6]:=by decide +kernel
 have hz:bits .and .i64 0 65535=0:=by decide +kernel
 have h2:bits .and .i64 2 65535=2:=by decide +kernel
 rcases h with ⟨h,-⟩|⟨G1,G2,G3,c,g2,k,wds,m,⟨a1,a2,a3⟩,⟨hc,htg⟩,x1,x2,hty,hr⟩
 .rw [ho] at h
  cases h
 .rw [hz] at a1 a3
  rw[h2] at a2
  obtain rfl:G1=0:=by omega
  obtain rfl:G2=2:=by omega
  obtain rfl:G3=0:=by omega
  rw[ho] at x1 x2
  have e1:some 1=some c.g:=x1
  have e2:some 6=some g2:=x2
  injection e1 with e1
  injection e2 with e2
  have hcc:c.ty=1/\c.ln=3:=by
   have:c=⟨0,2,0,0,1⟩\/c=⟨1,1,1,3,2⟩\/c=⟨3,1,1,3,2⟩\/c=⟨5,2,0,0,1⟩\/c=⟨6,1,1,3,2⟩:=by simpa [Dv] using hc
   rcases this with rfl|rfl|rfl|rfl|rfl
   .exact absurd htg (by decide)
   .exact ⟨rfl,rfl⟩
   .exact ⟨rfl,rfl⟩
   .exact absurd htg (by decide)
   .exact ⟨rfl,rfl⟩
  rw[ht,hcc.1] at hty
  have hty2:some (⟨2,0,0⟩:TypR)=some ⟨k,wds,m⟩:=(show typeOf alT ((1:Nat):Int)=some ⟨2,0,0⟩ from by rfl).symm.trans hty
  injection hty2 with hty2
  injection hty2 with q1 q2 q3
  subst q1 q2 q3
  rw[hcc.2,show Ba 2 0 0 ((3:Nat):Int)=[0,1,2] by decide +kernel] at hr
  rcases hr with ⟨hr,-⟩|⟨s,Y,hs,hY,hW⟩
  .cases hr
  .have hs0:s=0:=by
    have:some (0:Nat)=some s:=hs
    injection this with this
    exact this.symm
   rw[hW,hs0,hY (by omega),<- e1,<- e2]

def al23d(j:Nat):Int:=[0,0,0,5].getD j 0
def al23g(j:Nat):Int:=[1,3,6,0].getD j 0
def al23i(j:Nat):Int:=[1,1,1,2].getD j 0
def al23n(j:Nat):Int:=[3,3,3,0].getD j 0

theorem run23{P:Sp}(ht:P.ts=alT)(hn:P.n=16){W:Nat->Nat}{cs:List Cel}(h:RunR P al23d al23g al23i al23n (AZ (λ _=>0) 0 (16/2)) (gapL 0 (16/2)) 4 W cs):cs=Dv/\W 3=1048588/\∀ k∈[4,5,7,8,9,13,14,15],W k=0:=by
 obtain⟨W3,cs3,h3,s3⟩:=h.back1
 obtain⟨rfl,-,-,hz⟩:=puts21 (dd:=al23d) (ii:=al23i) (nn:=al23n) (gg:=al23g) ht hn ⟨rfl,rfl,rfl⟩ ⟨rfl,rfl,rfl⟩ ⟨rfl,rfl,rfl⟩ ⟨rfl,rfl,rfl⟩ h3
 obtain⟨rfl,rfl⟩:=join23 ht (s3.2 rfl)
 refine⟨rfl,by simp[BM],λ k hk=>?_⟩
 have h3:¬ k=3:=by rintro rfl;simp at hk
 rw[BM,if_neg h3]
 exact hz k (by simp only[List.mem_cons,List.not_mem_nil,or_false] at hk ⊢;omega)

def steps23:Array Value:=#[.int .i64 0,.int .i64 1,.int .i64 1,.int .i64 3,.int .u64 0,.slice none 0 0,.int .i64 0,.int .i64 3,.int .i64 1,.int .i64 3,.int .u64 0,.slice none 0 0,.int .i64 0,.int .i64 6,.int .i64 1,.int .i64 3,.int .u64 0,.slice none 0 0,.int .i64 5,.int .i64 0,.int .i64 2,.int .i64 0,.int .u64 0,.slice none 0 0]

def Played23(w:World)(e:Ending)(w':World):Prop:=
 ∃ (P:Sp) (rb:Nat) (W:Nat->Nat),e=.returned (.tuple #[.pointer (some ⟨P.s,0,none⟩),.pointer (some ⟨rb,0,none⟩),.bool true])/\(P.ts=alT/\P.n=16)/\Aw w' P W Dv/\(W 3=1048588/\∀ k∈[4,5,7,8,9,13,14,15],W k=0)/\(∀ k,P.own k->w.heap.size<=k)/\Kp Ab w w'

theorem played23(w:World)(hF:Av w)(bs bt:Nat)(T1 T2:TypeId)(h1:w.heap[bs]?=some (.cells steps23 T1 (0,0)))(h2:w.heap[bt]?=some (.cells #[.int .u8 2,.int .i64 0,.int .u64 0] T2 (0,0))):
  Calls prog 8 #[.int .i64 16,.slice (some ⟨bt,0,none⟩) 1 1,.slice (some ⟨bs,0,none⟩) 4 4] w (Played23 w):=by
 have hts:AO w (.slice (some ⟨bt,0,none⟩) 1 1) alT:=⟨_,_,rfl,λ i x hi=>by
  cases i with
  |succ i=>simp [alT] at hi
  |zero=>
   have:x=⟨2,0,0⟩:=by simpa [alT] using hi.symm
   subst this
   refine⟨bt,0,rfl,lZ h2,?_,?_,?_⟩ <;> simp only[World.cell?,h2] <;> rfl⟩
 have hst:DR w (.slice (some ⟨bs,0,none⟩) 4 4) 4 al23d al23g al23i al23n (λ _=>0) (λ _=>.slice none 0 0) (λ _=>0):=⟨_,_,rfl,λ j hj=>⟨bs,0,rfl,lZ h1,by
  have:j=0\/j=1\/j=2\/j=3:=by omega
  rcases this with rfl|rfl|rfl|rfl <;> (simp only[World.cell?,h1];refine ⟨rfl,rfl,rfl,rfl,rfl,rfl,⟨_,_,rfl⟩,by omega,?_,?_,?_⟩ <;> decide +kernel)⟩⟩
 refine(Played_run 16 _ _ alT 4 al23d al23g al23i al23n (λ _=>0) (λ _=>.slice none 0 0) (λ _=>0) w hF hts (by decide) (λ x hx=>by have:=List.mem_singleton.1 hx;subst this;decide) (by decide +kernel) (by decide +kernel) hst (by omega) (λ j hj=>by decide) (λ j hj=>⟨λ _ _=>0,⟨none,0,rfl,λ i hi=>absurd (show i<0 from hi) (by omega)⟩⟩) (λ j hj=>by omega)).mono ?_
 rintro e w' ⟨P,rb,q,W,cs,rfl,hB,hn,ht,hr⟩
 obtain⟨rfl,r3,hz⟩:=run23 ht hn hr
 exact⟨P,rb,W,rfl,⟨ht,hn⟩,hB.sp,⟨r3,hz⟩,hB.own,hB.kb.new'⟩

def Cx:List (Nat×Nat×Nat):=[(1,0,2),(3,3,2),(6,5,2)]

theorem good23:GoodP Dv Cx:=by
 refine⟨?_,?_,?_,?_⟩
 .intro x hx
  have:x=(1,0,2)\/x=(3,3,2)\/x=(6,5,2):=by simpa [Cx] using hx
  rcases this with rfl|rfl|rfl
  .exact ⟨⟨1,1,1,3,2⟩,by simp[Dv],rfl,rfl,rfl⟩
  .exact ⟨⟨3,1,1,3,2⟩,by simp[Dv],rfl,rfl,rfl⟩
  .exact ⟨⟨6,1,1,3,2⟩,by simp[Dv],rfl,rfl,rfl⟩
 .decide
 .simp [Cx]
 .simp [Cx]

theorem rf23(g:Nat)(h:g=1\/g=3\/g=6):Eu alT Dv g=[0,1,2]:=by
 rcases h with rfl|rfl|rfl <;> decide +kernel

theorem cnt23{W:Nat->Nat}(h3:W 3=1048588)(hz:∀ k∈[4,5,7,8,9,13,14,15],W k=0):DK Cx (Eu alT Dv) Cx W=1/\BL Cx (Eu alT Dv) Cx W 3=1048586:=by
 have h4:=hz 4 (by simp)
 have h5:=hz 5 (by simp)
 have h7:=hz 7 (by simp)
 have h8:=hz 8 (by simp)
 have h9:=hz 9 (by simp)
 have h13:=hz 13 (by simp)
 have h14:=hz 14 (by simp)
 have h15:=hz 15 (by simp)
 have t1:toA Cx 1048588=1048586:=by decide +kernel
 have t0:toA Cx 0=0:=by decide +kernel
 have hp:Cx=[(1,0,2),(3,3,2),(6,5,2)]:=rfl
 have hx:∀ es W,DK es (Eu alT Dv) [(1,0,2),(3,3,2),(6,5,2)] W=DK es (Eu alT Dv) Cx W:=λ _ _=>rfl
 constructor
 .rw [<- hx]
  simp only[DK,rf23 1 (.inl rfl),rf23 3 (.inr (.inl rfl)),rf23 6 (.inr (.inr rfl)),Ec,Bv,BM]
  simp[h3,h4,h5,h7,h8,h9,h13,h14,h15,t1,t0]
 .show BL Cx (Eu alT Dv) [(1,0,2),(3,3,2),(6,5,2)] W 3=1048586
  simp only[BL,rf23 1 (.inl rfl),rf23 3 (.inr (.inl rfl)),rf23 6 (.inr (.inr rfl)),Bv,BM]
  simp[h3,t1]

end

section
open Go.RowKit

def Planned23Post(L:List (Nat×Nat×Nat))(w:World)(e:Ending)(w':World):Prop:=
 ∃ pv,e=.returned (.tuple #[.agg #[pv],.bool true])/\w'.ownsRow w.heap.size 43 3 pv L.length (CB L)/\Kp Ab w w'

set_option maxRecDepth 20000 in
theorem Planned23_at(P:Sp)(W:Nat->Nat)(f:Nat->Bool)(cs:List Cel)(w:World)(v1 v2:Value)(n1 n2:Nat)(y1 y2:Nat->Nat)(hsp:SpaceAt w P W f)(hc:CellsAt P W cs)(hst:∀ i,i<P.n/2->f i=Aq cs i)(hne:cs≠[])(h1:BytesIn w v1 n1 y1)(h2:BytesIn w v2 n2 y2)(hl1:n1<=65536)(hl2:n2<=65536):
  Calls prog 9 #[.pointer (some ⟨P.s,0,none⟩),v1,v2] w (Planned23Post (BU cs (A8 (Ap cs) y2 n2) (BQ (A8 (Ap cs) y1 n1++A8 (Ap cs) y2 n2)) (P.n/2)) w):=by
 have hsm:=hsp.ar.small
 have HRt:Sl (∀ W' v n ys,Kp Ab w W'->n<=65536->BytesIn W' v n ys->Calls prog 43 #[.pointer (some ⟨P.s,0,none⟩),v] W' λ e w'=>∃ a c,e=.returned (.slice a (A8 (Ap cs) ys n).length c)/\w'.ownsRow W'.heap.size 3 1 (.slice a (A8 (Ap cs) ys n).length c) (A8 (Ap cs) ys n).length (AB (A8 (Ap cs) ys n))/\Kp Ab W' w'):=⟨λ W' v n ys kk hn hv=>Roots20_at P cs W' ⟨W,f,hsp.Ad kk,hc,hst⟩ hne v n ys hn hv⟩
 have hro:∀ (ys:Nat->Nat) (n:Nat),∀ g∈A8 (Ap cs) ys n,CX cs g:=λ ys n=>roots_obj
 obtain⟨H,hH⟩:∃ H,P.n/2=H:=⟨_,rfl⟩
 have hH2:H<=32768:=by omega
 have HGr:Sl (∀ W',Kp Ab w W'->Calls prog 42 #[.pointer (some ⟨P.s,0,none⟩)] W' λ e w''=>e=.returned (.int .i64 (H:Nat))/\w''=W'):=⟨λ W' kk=>by
  rw[<- hH]
  exact EC P W f W' (hsp.Ad kk)⟩
 have HOb:Sl (∀ g,CX cs g->g<H):=⟨λ g ho=>by
  obtain⟨c,hm,h1,rfl⟩:=ho
  have hlt:=hc.tl.mem hm
  omega⟩
 have HOf:Sl (∀ W' mp mq fm pins v,Kp Ab w W'->AJ W' mp mq fm H->(∀ g,g<H->fm g=true->CX cs g)->Bw W' v pins->(∀ g∈pins,CX cs g)->pins.length<=65536->Calls prog 44 #[.pointer (some ⟨P.s,0,none⟩),.pointer (some ⟨mp,0,none⟩),v] W' (PlanPost (BU cs pins (BQ (DZ fm H++pins)) H) W')):=⟨λ W' mp mq fm pins v kk hb hm hv ho hl=>by
  have:=PlanOf_at P W f cs W' mp mq fm pins v (hsp.Ad kk) hc hst (by rw[hH];exact hb) (by rw[hH];exact hm) (hv.Ad (Kr _ _)) ho hl
  rwa [hH] at this⟩
 rw[hH]
 have H1:=sE h1
 have H2:=sE h2
 obtain⟨a1,c1,rfl,-⟩:=h1
 obtain⟨a2,c2,rfl,-⟩:=h2
 obtain⟨ms,hms⟩:∃ ms,A8 (Ap cs) y1 n1=ms:=⟨_,rfl⟩
 obtain⟨ps,hps⟩:∃ ps,A8 (Ap cs) y2 n2=ps:=⟨_,rfl⟩
 have HM:Sl (A8 (Ap cs) y1 n1=ms):=⟨hms⟩
 have HP:Sl (A8 (Ap cs) y2 n2=ps):=⟨hps⟩
 have HMo:Sl (∀ g∈ms,CX cs g):=⟨by rw[<- hms];exact hro y1 n1⟩
 have HPo:Sl (∀ g∈ps,CX cs g):=⟨by rw[<- hps];exact hro y2 n2⟩
 have hml:ms.length<=65536:=by rw[<- hms];have:=Fj (Ap cs) y1 n1;omega
 have hpl:ps.length<=65536:=by rw[<- hps];have:=Fj (Ap cs) y2 n2;omega
 rw[hms,hps]
 obtain⟨L,hL⟩:∃ L,BU cs ps (BQ (ms++ps)) H=L:=⟨_,rfl⟩
 have HL:=sE hL
 rw[hL]
 obtain⟨w1,hw1⟩:∃ w1,w1=w.alloc (.cells #[.slice none 0 0] 33):=⟨_,rfl⟩
 have k1:Kp Ab w w1:=by rw[hw1];exact (Kr _ w).alloc _
 have b1:w1.heap[w.heap.size]?=some (.cells #[.slice none 0 0] 33 (0,0)):=by rw[hw1];exact wN w _
 have HK1:=sE k1
 have HB1:=sE b1
 clear hsp hc hst hne hro hH hsm hms hps k1 b1 hL
 go_enter func9,ntmps9
 go_wp2_with fail
 rw[<- hw1]
 clear hw1
 refine(HGr.out w1 HK1.out).mono ?_
 rintro e w2 ⟨rfl,rfl⟩
 have hz1:w.heap.size<w2.heap.size:=lZ HB1.out
 have HR2:=sE (HRt.out w2 _ n1 y1 HK1.out hl1 (H1.out.Ad HK1.out))
 rw[HM.out] at HR2
 go_wp2_with fail
 refine HR2.out.mono ?_
 rintro e w4 ⟨ma,mc,rfl,ho4,k4⟩
 have HN4:Sl (Bw w4 (.slice ma ms.length mc) ms):=⟨Bw.Br ho4⟩
 have HK4:Sl (Kp Ab w w4):=⟨HK1.out.then' k4⟩
 have HB4:=sE (k4.at_ HB1.out (λ h=>h))
 have HBi:=sE (Bits22_at ms _ H w4 HN4.out hml (by omega) (λ x hx=>HOb.out x (HMo.out x hx)))
 clear ho4 k4 HR2 HB1
 go_wp2_with fail
 refine HBi.out.mono ?_
 rintro e w5 ⟨p,q,fm,rfl,hb5,hf5,-,-,k5⟩
 have HK5:Sl (Kp Ab w w5):=⟨HK4.out.then' k5⟩
 have HBp:=sE (k5.at_ HB4.out (λ h=>h))
 have HBt5:=sE hb5
 have HF5:=sE hf5
 have HR1:=sE (HRt.out w5 _ n2 y2 HK5.out hl2 (H2.out.Ad HK5.out))
 rw[HP.out] at HR1
 clear hb5 hf5 k5 HBi HB4
 go_wp2_with fail
 refine HR1.out.mono ?_
 rintro e w9 ⟨ra,rc,rfl,ho9,k9⟩
 have HP9:=sE ho9
 have HK9:Sl (Kp Ab w w9):=⟨HK5.out.then' k9⟩
 have HB9:=sE (k9.at_ HBp.out (λ h=>h))
 have HE:Sl (BQ (DZ fm H++ps)=BQ (ms++ps)):=⟨riseN_ext λ g=>by
  rw[List.mem_append,List.mem_append,mem_setL]
  constructor
  .rintro (⟨a,b⟩|h)
   .rw [HF5.out g a] at b
    exact .inl (DU.1 b)
   .exact .inr h
  .rintro (h|h)
   .have:=HOb.out g (HMo.out g h)
    exact .inl ⟨this,by rw[HF5.out g this];exact DU.2 h⟩
   .exact .inr h⟩
 have HO:=sE (HOf.out w9 p q fm ps _ HK9.out (HBt5.out.keep k9 (λ h=>h) (λ h=>h)) (λ g a b=>by rw[HF5.out g a] at b;exact HMo.out g (DU.1 b)) (Bw.Br HP9.out) HPo.out hpl)
 rw[HE.out,HL.out] at HO
 clear k9 ho9 HBp HR1
 go_wp2_with fail
 refine HO.out.mono ?_
 rintro e w6 ⟨pv,rfl,ho6,k6⟩
 obtain⟨pa,pc,rfl⟩:=AA ho6
 obtain⟨w7,hw7⟩:∃ w7,w7=w6.alloc (.cells #[.slice pa L.length pc] 33):=⟨_,rfl⟩
 have k7:Kp Ab w6 w7:=by rw[hw7];exact (Kr _ w6).alloc _
 have b7:w7.heap[w6.heap.size]?=some (.cells #[.slice pa L.length pc] 33 (0,0)):=by rw[hw7];exact wN w6 _
 have c7:=cell_of_one b7
 have b8:=(k6.then' k7).at_ HB9.out (λ h=>h)
 have f8:=free_of_one b8
 have c8:=cell_of_one b8
 have HO6:=sE (Ai ho6 k7 (λ _ _ h=>h))
 have HK7:Sl (Kp Ab w w7):=⟨HK9.out.then' (k6.then' k7)⟩
 have HB8:=sE b8
 have zw:=HK9.out.size
 have z5:w.heap.size<w9.heap.size:=lZ HB9.out
 clear ho6 k6 k7 b7 b8 HO
 subst hw7
 go_wp2_with fail
 have KS:Kp (λ k=>k=w.heap.size) (w6.alloc (.cells #[.slice pa L.length pc] 33)) ((w6.alloc (.cells #[.slice pa L.length pc] 33)).setCell ⟨w.heap.size,0,none⟩ (.slice pa L.length pc)):=(Kr (λ k=>k=w.heap.size) _).setCell (λ _=>rfl) _
 have c9:=cell_of_one (one_setCell (u:=.slice pa L.length pc) HB8.out)
 refine bodyPost_ret (v:=.tuple #[.agg #[.slice pa L.length pc],.bool true]) (by simp[results,results9,go_sem,c9]) rfl ⟨_,rfl,?_,?_⟩
 .exact Bp (Ai HO6.out KS (λ b hb h=>by have:=(Af HO6.out hb).1;omega)) (by omega)
 .exact (HK7.out.Ak (λ k=>k=w.heap.size)).trans KS (λ _ _ h=>h) |>.mono (λ i hi h=>by omega)

theorem TCheck_nil(v:Value)(w:World):Calls prog 61 #[.pointer none,.agg #[v]] w λ e w'=>e=.returned (.int .i64 1)/\Kp Ab w w':=by
 go_enter func61,ntmps61
 go_wp2_with fail
 exact bodyPost_ret (v:=.int .i64 1) (by simp[results,results61,go_sem]) rfl ⟨rfl,(Kr _ _).alloc _⟩

theorem rowo23(w:World)(T:TypeId):Du (w.alloc (.cells #[.int .i64 1,.int .i64 0,.int .i64 2,.int .i64 3,.int .i64 3,.int .i64 2,.int .i64 6,.int .i64 5,.int .i64 2] T)) (.slice (some ⟨w.heap.size,0,none⟩) 3 3) Cx:=rowoA w T

end

end Go.Proofs.YtmfajopmppfldaaGreatDoor
