/-
  Lemmas for the laws, together: PlanOf.
-/
import Derived.Test.YtmfajopmppfldaaGreatDoorQbd
import Derived.Test.YtmfajopmppfldaaGreatDoorQbe
import Derived.Maps.OwnIn
import Derived.Sort.CutIn
set_option linter.unusedVariables false
set_option maxHeartbeats 16000000
namespace Go.Proofs.YtmfajopmppfldaaGreatDoor
open Go.Proofs.Tryz
section
open Go.RowKit
attribute [local go_sem] Oper.semAt_some

def EX(xs:List Nat)(x:Int):Int:=((xs.countP λ(g:Nat)=>(g:Int)==x):Nat)

theorem cntP_take{xs:List Nat}{j g:Nat}(h:xs[j]?=some g):(λ x=>if x=(g:Int) then EX (xs.take j) (g:Nat)+1 else EX (xs.take j) x)=EX (xs.take (j+1)):=by
 funext x
 unfold EX
 rw[List.take_add_one,h,List.countP_append]
 by_cases hx:x=(g:Int)
 .subst hx
  simp
 .have:¬ (g:Int)=x:=λ e=>hx e.symm
  simp[hx,this]

theorem cntP_le(xs:List Nat)(x:Int):0<=EX xs x/\EX xs x<=xs.length:=by
 unfold EX
 have:=List.countP_le_length (p:=λ g:Nat=>(g:Int)==x) (l:=xs)
 omega

theorem cntP_in(xs:List Nat)(g:Nat):decide (0<EX xs (g:Nat))=De xs g:=by
 unfold EX
 rw[Bool.eq_iff_iff,decide_eq_true_eq,DU]
 constructor
 .intro h
  obtain⟨a,ha,hb⟩:=List.countP_pos_iff.1 (show 0<xs.countP λ(a:Nat)=>(a:Int)==(g:Int) by omega)
  have hb2:(a:Int)=(g:Int):=by simpa using hb
  have:a=g:=by omega
  rwa [<- this]
 .intro h
  have:0<xs.countP λ(a:Nat)=>(a:Int)==(g:Int):=List.countP_pos_iff.2 ⟨g,h,by simp⟩
  omega

theorem RsSt.keepS{S:Nat->Prop}{w0 w w':World}{b:PlBox}{P:Sp}{lv:Value}{l:List Nat}{base i:Nat}{v:Value}{out:List (Nat×Nat×Nat)}{kn:Nat}{cnt:Int->Int}(h:RsSt w0 w b P lv l base i v out kn cnt)(k:Kp S w w')(hS:∀ x,S x->base<=x/\¬ v.ownBlock=some x):RsSt w0 w' b P lv l base i v out kn cnt:=by
 have hn:∀ x,x<base->¬ S x:=λ x hx hs=>by have:=(hS x hs).1;omega
 obtain⟨l1,l2,l3,l4,l5⟩:=h.st.lt
 obtain⟨m1,m2,m3⟩:=h.lt2
 have hw:=h.st.nw
 have hz:=k.size
 refine⟨⟨h.st.kb.trans k (λ x hx hs=>by have:=(hS x hs).1;omega),k.at_ h.st.hs (hn _ l1),k.at_ h.st.hp (hn _ l2),k.at_ h.st.hl (hn _ l3),k.at_ h.st.hn (hn _ l4),Ai h.st.own k (λ x hx hs=>(hS x hs).2 hx),Ai h.st.row k (λ x hx hs=>hn _ (h.st.lk x hx).1 hs),h.st.ne,⟨l1,l2,l3,l4,by omega⟩,h.st.nw,h.st.lk,h.st.cn⟩,
  k.at_ h.hm (hn _ m1),h.mp.keep k (hn _ m2),k.at_ h.hf (hn _ m3),h.ne2,h.lt2⟩

def FillI(w:World)(b:PlBox)(P:Sp)(lv:Value)(X:List Nat)(base n:Nat)(cnt:Int->Int)(pin:Nat->Bool)(sz:Nat->Nat)(t:Nat)(v0:Value)(W2:World)(Z:List (Nat×Nat×Nat)×List Nat)(fr:Nat)(wr:World):Prop:=
 ∃ i v out,RsSt w wr b P lv X base i v out n cnt/\fr<=t/\(X.drop i).takeWhile pin=[]/\out++(Ch pin sz (X.drop i) fr t).1=Z.1/\(Ch pin sz (X.drop i) fr t).2=Z.2/\Kp (EG b v0) W2 wr/\∀ k,v.ownBlock=some k->v0.ownBlock=some k\/W2.heap.size<=k

theorem take_dropW{α:Type}{p:α->Bool}:∀ (l:List α),(l.dropWhile p).takeWhile p=[]
 |[]=>rfl
 |x::l=>by
  by_cases h:p x=true
  .rw [List.dropWhile_cons_of_pos h]
   exact take_dropW l
  .rw [List.dropWhile_cons_of_neg h,List.takeWhile_cons_of_neg h]

theorem FillI.of_rest{w:World}{b:PlBox}{P:Sp}{lv:Value}{X:List Nat}{base n:Nat}{cnt:Int->Int}{pin:Nat->Bool}{sz:Nat->Nat}{t:Nat}{v0 v:Value}{W2 wr w':World}{Z:List (Nat×Nat×Nat)×List Nat}{fr i:Nat}{out:List (Nat×Nat×Nat)}(h:Ep w b P lv X base i v out n cnt pin sz wr w')(hf:fr<=t)(h1:out++(Ch pin sz (X.drop i) fr t).1=Z.1)(h2:(Ch pin sz (X.drop i) fr t).2=Z.2)(hk:Kp (EG b v0) W2 wr)(ho:∀ k,v.ownBlock=some k->v0.ownBlock=some k\/W2.heap.size<=k):FillI w b P lv X base n cnt pin sz t v0 W2 Z fr w':=by
 obtain⟨i',v',out',r1,-,r3,r4,r5,r6⟩:=h
 have hz:=hk.size
 refine⟨i',v',out',r1,hf,by rw[r3];exact take_dropW _,?_,?_,putK_trans hk r5 ho,λ k hk'=>?_⟩
 .rw [r3,r4,List.append_assoc,<- h1,fillL_rest pin sz fr t (X.drop i)]
 .rw [r3,<- h2,fillL_rest pin sz fr t (X.drop i)]
 .rcases r6 k hk' with h|h
  .exact ho k h
  .exact .inr (by omega)

theorem FillI.done{w:World}{b:PlBox}{P:Sp}{lv:Value}{X:List Nat}{base n:Nat}{cnt:Int->Int}{pin:Nat->Bool}{sz:Nat->Nat}{t fr i:Nat}{v:Value}{wr:World}{Z:List (Nat×Nat×Nat)×List Nat}{out:List (Nat×Nat×Nat)}(hd:X.drop i=[]\/∃ u us,X.drop i=u::us/\pin u=false/\t-fr<sz u)(h1:out++(Ch pin sz (X.drop i) fr t).1=Z.1)(h2:(Ch pin sz (X.drop i) fr t).2=Z.2):out=Z.1/\X.drop i=Z.2:=by
 rcases hd with h|⟨u,us,h,hp,hs⟩
 .rw [h] at h1 h2
  rw[h]
  exact⟨by rw[<- h1];exact (List.append_nil _).symm,by rw[<- h2];rfl⟩
 .rw [h] at h1 h2
  simp only[Ch,hp,hs,Bool.false_eq_true,if_false,if_true] at h1 h2
  rw[h]
  exact⟨by rw[<- h1];exact (List.append_nil _).symm,h2⟩

theorem head_of{P:Sp}{W:Nat->Nat}{f:Nat->Bool}{cs:List Cel}{w:World}{g:Nat}(hsp:SpaceAt w P W f)(hc:CellsAt P W cs)(ho:CX cs g):∀ W',Kp Ab w W'->∃ ty ln:Nat,Calls prog 49 #[.pointer (some ⟨P.a,0,none⟩),.int .i64 (g:Nat)] W' λ e w'=>e=.returned (.tuple #[Al 1 (ty:Nat) (ln:Nat) (Cu cs g:Nat),.int .i64 0])/\Kp Ab W' w':=λ W' k=>by
 have hsm:=hsp.ar.small
 obtain⟨c,hm,h1,rfl⟩:=ho
 have hlt:=hc.tl.mem hm
 have:=ET c P W f W' (hsp.Ad k) (by omega) (hc.hd c hm) (hc.ok c hm)
 rw[h1] at this
 rw[Cy hc.tl hm h1]
 exact⟨c.ty,c.ln,this⟩

def PlanPost(L:List (Nat×Nat×Nat))(w:World)(e:Ending)(w':World):Prop:=
 ∃ v,e=.returned (.tuple #[.agg #[v],.int .i64 0])/\w'.ownsRow w.heap.size 43 3 v L.length (CB L)/\Kp Ab w w'

def OfI(w:World)(b:PlBox)(P:Sp)(lv:Value)(X:List Nat)(base n:Nat)(cnt:Int->Int)(pin:Nat->Bool)(sz:Nat->Nat)(R pre:List (Nat×Nat))(S:Nat->Prop)(W':World):Prop:=
 ∃ i v out,RsSt w W' b P lv X base i v out n cnt/\S=EG b v/\(∀ k,v.ownBlock=some k->base+2<=k)/\∀ rest,R=pre++rest->out++planL pin sz rest (X.drop i)=planL pin sz R X

set_option maxRecDepth 20000 in
theorem PlanOf_at(P:Sp)(W:Nat->Nat)(f:Nat->Bool)(cs:List Cel)(w:World)(mp mq:Nat)(fm:Nat->Bool)(pins:List Nat)(v:Value)(hsp:SpaceAt w P W f)(hc:CellsAt P W cs)(hst:∀ i,i<P.n/2->f i=Aq cs i)(hb:AJ w mp mq fm (P.n/2))(hm:∀ g,g<P.n/2->fm g=true->CX cs g)(hv:Bw w v pins)(ho:∀ g∈pins,CX cs g)(hl:pins.length<=65536):
  Calls prog 44 #[.pointer (some ⟨P.s,0,none⟩),.pointer (some ⟨mp,0,none⟩),v] w (PlanPost (BU cs pins (BQ (DZ fm (P.n/2)++pins)) (P.n/2)) w):=by
 have hsm:=hsp.ar.small
 have HWt:Sl (∀ W',Kp Ab w W'->Calls prog 92 #[.pointer (some ⟨P.s,0,none⟩),v] W' (IslePost W'.heap.size (BZ 0 (BX cs (De pins)) (P.n/2)) W')):=⟨λ W' k=>IsleWater_at P W f cs W' pins v (hsp.Ad k) hc hst (hv.Ad k) ho hl⟩
 have HSv:Sl (∀ W',Kp Ab w W'->Calls prog 93 #[.pointer (some ⟨P.s,0,none⟩),.pointer (some ⟨mp,0,none⟩),v] W' (SurvPost (DZ fm (P.n/2)++pins) W')):=⟨λ W' k=>Surv_at P W f cs W' mp mq fm pins v (hsp.Ad k) hc hst (hb.keep k (λ h=>h) (λ h=>h)) hm (hv.Ad k) ho hl⟩
 obtain⟨H,hH⟩:∃ H,P.n/2=H:=⟨_,rfl⟩
 have HLo:Sl (∀ g∈BQ (DZ fm H++pins),CX cs g):=⟨λ g hg=>by
  rcases List.mem_append.1 (Eg.1 hg) with h|h
  .obtain ⟨a,b⟩:=mem_setL.1 h
   exact hm g (by omega) b
  .exact ho g h⟩
 have HLl:Sl ((BQ (DZ fm H++pins)).length<=32768):=⟨by
  have:=up_len (e:=0) (H:=H) (EZ (DZ fm H++pins)) λ g hg=>⟨Nat.zero_le _,by
   obtain⟨c,hcm,h1,rfl⟩:=HLo.out g hg
   have:=hc.tl.mem hcm
   omega⟩
  omega⟩
 rw[hH] at HWt HSv ⊢
 have hrise:BN 0 (BZ 0 (BX cs (De pins)) H) H:=water_rise (EE (by rw[<- hH];exact hc.tl)).rise
 have hH2:H<=32768:=by omega
 have HRs:Sl ((BZ 0 (BX cs (De pins)) H).length<=32768/\∀ x∈BZ 0 (BX cs (De pins)) H,x.1+x.2<=32768):=⟨⟨by have:=hrise.len;omega,λ x hx=>by have:=hrise.fits x hx;omega⟩⟩
 have HV:=sE hv
 have HSp:=sE hsp
 have HPl:Sl (∀ g∈pins,g<=65536):=⟨λ g hg=>by
  obtain⟨c,hcm,h1,rfl⟩:=ho g hg
  have:=hc.tl.mem hcm
  omega⟩
 have HCs:=sE hc
 obtain⟨va,vc,rfl,-⟩:=hv
 obtain⟨X,hX⟩:∃ X,BQ (DZ fm H++pins)=X:=⟨_,rfl⟩
 have HX:=sE hX
 rw[hX] at HLo HLl ⊢
 obtain⟨R,hR⟩:∃ R,BZ 0 (BX cs (De pins)) H=R:=⟨_,rfl⟩
 have HRe:Sl (BU cs pins X H=planL (De pins) (Cu cs) R X):=⟨by rw[<- hR];rfl⟩
 rw[HRe.out]
 rw[hR] at HWt HRs
 obtain⟨n,hn⟩:∃ n,pins.length=n:=⟨_,rfl⟩
 rw[hn] at HWt HSv HV hl ⊢
 have HN:=sE hn
 clear hsp hc hst hb hm ho hX hR hn hrise hsm hH
 refine(callsIn_wide (n:=0)).1 ?_
 refine callsIn_of_wp_marks func44 rfl trivial ?_
 simp only[ntmps44,List.size_toArray,List.length_cons,List.length_nil,Nat.reduceAdd,Nat.reduceSub,Array.replicate_succ,Array.replicate_zero,List.push_toArray,List.append_toArray,List.nil_append,List.cons_append]
 have hmm:=@run_makeMap prog
 have hmf:∀ (fn:Fn) (first cap:Array Value) (w:World),(Instr.makeFunc fn first cap).run prog w=.ok (.func fn first cap) w:=λ _ _ _ _=>rfl
 gi_wp2_with fail
 refine⟨trivial,rfl,?_⟩
 obtain⟨w1,hw1⟩:∃ w1,w1=(w.alloc (.cells #[.pointer (some ⟨P.s,0,none⟩)] 27)).alloc (.cells #[.slice none 0 0] 33):=⟨_,rfl⟩
 rw[<- hw1]
 have k1:Kp Ab w w1:=by rw[hw1];exact ((Kr _ w).alloc _).alloc _
 have z1:w1.heap.size=w.heap.size+2:=by rw[hw1];simp
 have s1:w1.heap[w.heap.size]?=some (.cells #[.pointer (some ⟨P.s,0,none⟩)] 27 (0,0)):=by rw[hw1];exact ((Kr Ab _).alloc _).at_ (wN w _) (λ h=>h)
 have p1:w1.heap[w.heap.size+1]?=some (.cells #[.slice none 0 0] 33 (0,0)):=by
  rw[hw1]
  have:=wN (w.alloc (.cells #[.pointer (some ⟨P.s,0,none⟩)] 27)) (.cells #[.slice none 0 0] 33)
  rwa [show (w.alloc (.cells #[.pointer (some ⟨P.s,0,none⟩)] 27)).heap.size=w.heap.size+1 by simp] at this
 clear hw1
 refine(callsIn_wide.2 (HWt.out w1 k1)).mono ?_
 rintro e w2 ⟨ra,rc,rfl,ho2,k2⟩
 have K2:Kp Ab w w2:=k1.then' k2
 have s2:=k2.at_ s1 (λ h=>h)
 have p2:=k2.at_ p1 (λ h=>h)
 have c0:=cell_of_one s2
 have z2:=k2.size
 have HO2:=sE ho2
 have HC2:=sE (HSv.out w2 K2)
 clear s1 p1 ho2 k2 HWt HSv
 gi_wp2_with fail
 refine⟨trivial,rfl,?_⟩
 refine(callsIn_wide.2 HC2.out).mono ?_
 rintro e w3 ⟨la,lc,rfl,ho3,k3⟩
 rw[HX.out] at ho3 ⊢
 have K3:Kp Ab w w3:=K2.then' k3
 have HO3:=sE ho3
 have HR3:=sE (Ai HO2.out k3 (λ _ _ h=>h))
 have s3:=k3.at_ s2 (λ h=>h)
 have p3:=k3.at_ p2 (λ h=>h)
 have z3:=k3.size
 clear s2 p2 c0 ho3 k3 HC2 HO2 K2 k1
 gi_wp2_with fail
 obtain⟨w4,hw4⟩:∃ w4,w4=((w3.alloc (.cells #[.slice la X.length lc] 82)).alloc (.map #[] 0)).alloc (.cells #[.map (some (w3.heap.size+1))] 168):=⟨_,rfl⟩
 rw[<- hw4]
 have k4:Kp Ab w3 w4:=by rw[hw4];exact (((Kr _ w3).alloc _).alloc _).alloc _
 have z4:w4.heap.size=w3.heap.size+3:=by rw[hw4];simp
 have hs1:(w3.alloc (.cells #[.slice la X.length lc] 82)).heap.size=w3.heap.size+1:=by simp
 have l4:w4.heap[w3.heap.size]?=some (.cells #[.slice la X.length lc] 82 (0,0)):=by rw[hw4];exact (((Kr Ab _).alloc _).alloc _).at_ (wN w3 _) (λ h=>h)
 have m4:CL w4 (w3.heap.size+1) 0 (λ _=>0):=by
  have:=CL.made (w3.alloc (.cells #[.slice la X.length lc] 82))
  rw[hs1] at this
  rw[hw4]
  exact this.keep ((Kr Ab _).alloc _) (λ h=>h)
 have b4:w4.heap[w3.heap.size+1+1]?=some (.cells #[.map (some (w3.heap.size+1))] 168 (0,0)):=by
  rw[hw4]
  have:=wN ((w3.alloc (.cells #[.slice la X.length lc] 82)).alloc (.map #[] 0)) (.cells #[.map (some (w3.heap.size+1))] 168)
  rwa [show ((w3.alloc (.cells #[.slice la X.length lc] 82)).alloc (.map #[] 0)).heap.size=w3.heap.size+1+1 by simp] at this
 clear hw4 hs1
 have K4:Kp Ab w w4:=K3.then' k4
 have s4:=k4.at_ s3 (λ h=>h)
 have p4:=k4.at_ p3 (λ h=>h)
 have HR4:=sE (Ai HR3.out k4 (λ _ _ h=>h))
 have HRb:Sl (∀ c,(Value.slice ra R.length rc).ownBlock=some c->w.heap.size+2<=c/\c<w3.heap.size):=⟨λ c hc=>by have:=Af HR3.out hc;omega⟩
 have HO4:Sl (w4.ownsRow w.heap.size 3 1 (.slice la X.length lc) X.length (AB X)):=⟨Bp (Ai HO3.out k4 (λ _ _ h=>h)) (by omega)⟩
 have HOl:Sl (∀ c,(Value.slice la X.length lc).ownBlock=some c->w.heap.size+2<=c/\c<w3.heap.size):=⟨λ c hc=>by have:=Af HO3.out hc;omega⟩
 have HK4:=sE K4
 have HS4:=sE (And.intro s4 (And.intro p4 (And.intro l4 b4)))
 have HM4:=sE m4
 obtain⟨m,hm⟩:∃ m,w3.heap.size=m:=⟨_,rfl⟩
 rw[hm] at z3 z4 HS4 HM4 HOl HRb ⊢
 have HMe:=sE hm
 clear s3 p3 K3 k4 K4 s4 p4 l4 m4 b4 HR3 HO3 hmm
 gi_loopw [12,51] (λ _ x51 wr=>∃ j:Nat,j<=n/\x51=.int .i64 (j:Nat)/\CL wr (m+1) j (EX (pins.take j))/\Kp (λ k=>k=m+1) w4 wr) (λ _ x51 _=>n-(intOf x51).toNat)
 case atStart=>exact ⟨0,Nat.zero_le _,rfl,HM4.out,Kr _ _⟩
 case round=>
  obtain⟨j,hj,rfl,hc,hk⟩:=hrel
  have HC:=sE hc
  have HK:=sE hk
  by_cases hjl:j<n
  .have hjl':(j:Int)<(n:Int):=by omega
   have KN:Kp Ab w wr:=(HK4.out.Ak _).trans hk (λ _ _ h=>h) |>.mono (λ k h1 h2=>by have h2':k=m+1:=h2;omega)
   obtain⟨va',vc',e,hx⟩:=HV.out
   injection e with e1 e3 e2
   clear e3
   subst e1 e2
   obtain⟨x,hxj⟩:∃ x,pins[j]?=some x:=⟨_,List.getElem?_eq_getElem (by rw[HN.out];exact hjl)⟩
   obtain⟨bb,o,rfl,x0⟩:=hx j x hxj
   replace x0:=KN.cell x0 (λ h=>h)
   have hx6:x<=65536:=HPl.out x (List.mem_of_getElem? hxj)
   have c10:=cell_of_one (hk.at_ HS4.out.2.2.2 (by omega))
   have hlook:=hc.look (FN (g:=x) (by omega))
   have hT:=cntP_take hxj
   have hcl:=cntP_le (pins.take j) (x:Nat)
   have hlt:(pins.take j).length<=j:=by rw[List.length_take];omega
   obtain⟨q,hq⟩:∃ q,EX (pins.take j) (x:Nat)=q:=⟨_,rfl⟩
   rw[hq] at hlook hT hcl
   have hq1:(Lit.int .i64 (q+1)).wf=true:=by
    obtain⟨u,rfl⟩:=Int.eq_ofNat_of_zero_le hcl.1
    have e:((u+1:Nat):Int)=(u:Int)+1:=by omega
    rw[<- e]
    exact FN (by omega)
   obtain⟨w5,hrun,hc5,k5⟩:=hc.put (by unfold maxLen;omega) (FN (g:=x) (by omega)) (c:=q+1) hq1
   rw[hT] at hc5
   have u1:IntKind.i64.wrap (q+1)=q+1:=by rw[IntKind.wrap_i64];omega
   have HC5:=sE hc5
   have HK5:=sE (hk.trans k5 (λ _ _ h=>h))
   clear hx hxj hT hcl hlt hq hc5 k5 hc hk KN
   gi_wp2_with fail
   exact⟨⟨j+1,by omega,by go_num,HC5.out,HK5.out⟩,by simp only[intOf];omega⟩
  .have hjl':¬ (j:Int)<(n:Int):=by omega
   have hce:CL wr (m+1) n (EX pins):=by
    have:=hc
    rw[List.take_of_length_le (by rw[HN.out];omega)] at this
    obtain rfl:j=n:=by omega
    exact this
   have HCe:=sE hce
   have KN:Kp Ab w wr:=(HK4.out.Ak _).trans hk (λ _ _ h=>h) |>.mono (λ k h1 h2=>by have h2':k=m+1:=h2;omega)
   have zr:=hk.size
   have HSr:=sE (And.intro (hk.at_ HS4.out.1 (by omega)) (And.intro (hk.at_ HS4.out.2.1 (by omega)) (And.intro (hk.at_ HS4.out.2.2.1 (by omega)) (hk.at_ HS4.out.2.2.2 (by omega)))))
   have HRr:=sE (Ai HR4.out hk (λ c hc h=>by have:=HRb.out c hc;omega))
   have HOr:=sE (Ai HO4.out hk (λ c hc h=>by have:=HOl.out c hc;omega))
   have HKr:=sE KN
   clear hc hk hce KN HC HK HM4 HS4 HR4 HO4 HK4
   gi_wp2_with fail
   refine⟨trivial,rfl,?_⟩
   obtain⟨D,hD⟩:∃ D,wr.heap.size=D:=⟨_,rfl⟩
   obtain⟨A,hA⟩:∃ A,w.heap.size=A:=⟨_,rfl⟩
   obtain⟨w6,hw6⟩:∃ w6,w6=((wr.alloc (.cells #[.int .i64 0] 3)).alloc (.cells #[.func (.func 94) #[] #[.pointer (some ⟨w.heap.size,0,none⟩),.pointer (some ⟨m,0,none⟩),.pointer (some ⟨wr.heap.size,0,none⟩),.pointer (some ⟨w.heap.size+1,0,none⟩)]] 118)).alloc (.cells #[.func (.func 95) #[] #[.pointer (some ⟨wr.heap.size,0,none⟩),.pointer (some ⟨m,0,none⟩),.pointer (some ⟨m+1+1,0,none⟩),.pointer (some ⟨wr.heap.size+1,0,none⟩)]] 1):=⟨_,rfl⟩
   rw[<- hw6]
   have k6:Kp Ab wr w6:=by rw[hw6];exact (((Kr _ wr).alloc _).alloc _).alloc _
   have z6:w6.heap.size=D+3:=by rw[hw6];simp [hD]
   have hs1:(wr.alloc (.cells #[.int .i64 0] 3)).heap.size=wr.heap.size+1:=by simp
   have n6:w6.heap[D]?=some (.cells #[.int .i64 0] 3 (0,0)):=by rw[hw6,<- hD];exact (((Kr Ab _).alloc _).alloc _).at_ (wN wr _) (λ h=>h)
   have f6:w6.heap[D+1]?=some (.cells #[.func (.func 94) #[] #[.pointer (some ⟨A,0,none⟩),.pointer (some ⟨m,0,none⟩),.pointer (some ⟨D,0,none⟩),.pointer (some ⟨A+1,0,none⟩)]] 118 (0,0)):=by
    rw[hw6,<- hA,<- hD]
    have:=wN (wr.alloc (.cells #[.int .i64 0] 3)) (.cells #[.func (.func 94) #[] #[.pointer (some ⟨w.heap.size,0,none⟩),.pointer (some ⟨m,0,none⟩),.pointer (some ⟨wr.heap.size,0,none⟩),.pointer (some ⟨w.heap.size+1,0,none⟩)]] 118)
    rw[hs1] at this
    exact((Kr Ab _).alloc _).at_ this (λ h=>h)
   have r6:w6.heap[D+1+1]?=some (.cells #[.func (.func 95) #[] #[.pointer (some ⟨D,0,none⟩),.pointer (some ⟨m,0,none⟩),.pointer (some ⟨m+1+1,0,none⟩),.pointer (some ⟨D+1,0,none⟩)]] 1 (0,0)):=by
    rw[hw6,<- hD]
    have:=wN ((wr.alloc (.cells #[.int .i64 0] 3)).alloc (.cells #[.func (.func 94) #[] #[.pointer (some ⟨w.heap.size,0,none⟩),.pointer (some ⟨m,0,none⟩),.pointer (some ⟨wr.heap.size,0,none⟩),.pointer (some ⟨w.heap.size+1,0,none⟩)]] 118)) (.cells #[.func (.func 95) #[] #[.pointer (some ⟨wr.heap.size,0,none⟩),.pointer (some ⟨m,0,none⟩),.pointer (some ⟨m+1+1,0,none⟩),.pointer (some ⟨wr.heap.size+1,0,none⟩)]] 1)
    rwa [show ((wr.alloc (.cells #[.int .i64 0] 3)).alloc (.cells #[.func (.func 94) #[] #[.pointer (some ⟨w.heap.size,0,none⟩),.pointer (some ⟨m,0,none⟩),.pointer (some ⟨wr.heap.size,0,none⟩),.pointer (some ⟨w.heap.size+1,0,none⟩)]] 118)).heap.size=wr.heap.size+1+1 by simp] at this
   clear hw6 hs1
   rw[hD] at zr
   have hAm:A+2<=m:=by omega
   have hKA:Kp Ab w w6:=HKr.out.then' k6
   refine(callsIn_wide.2 (runs_fn ra R.length rc w6)).mono ?_
   rintro e wl ⟨rfl,hwl⟩
   have kl:Kp Ab w6 wl:=by rw[<- hwl];exact (Kr _ w6).alloc _
   have zl:wl.heap.size=D+4:=by rw[<- hwl];simp [z6]
   have gbx:wl.heap[D+3]?=some (.cells #[.slice ra R.length rc] 163 (0,0)):=by rw[<- hwl,<- z6];exact wN w6 _
   clear hwl
   have k7:Kp Ab wr wl:=k6.then' kl
   have hst0:RsSt w wl ⟨A,A+1,m,m+1+1,m+1,D,D+1⟩ P (.slice la X.length lc) X (D+4) 0 (.slice none 0 0) [] n (EX pins):=
    ⟨⟨hKA.then' kl,by rw[<- hA];exact k7.at_ HSr.out.1 (λ h=>h),by rw[<- hA];exact k7.at_ HSr.out.2.1 (λ h=>h),k7.at_ HSr.out.2.2.1 (λ h=>h),kl.at_ n6 (λ h=>h),World.ownsRow_nil wl _ _ _,Ai HOr.out k7 (λ _ _ h=>h),
     by dsimp only;omega,by dsimp only;omega,by dsimp only;omega,λ c hc=>by have:=HOl.out c hc;dsimp only;omega,rfl⟩,
     k7.at_ HSr.out.2.2.2 (λ h=>h),HCe.out.keep k7 (λ h=>h),kl.at_ f6 (λ h=>h),by dsimp only;omega,by dsimp only;omega⟩
   have HS0:=sE hst0
   have r7:=kl.at_ r6 (λ h=>h)
   have HR7:=sE (Ai HRr.out k7 (λ _ _ h=>h))
   clear hst0 r6 n6 f6 kl k6 k7 hKA HSr HCe HOr HRr HKr
   gi_wp2_with fail
   have hAD:¬ A+1=D:=by omega
   have HRst:Sl (∀ W' i v out,RsSt w W' ⟨A,A+1,m,m+1+1,m+1,D,D+1⟩ P (.slice la X.length lc) X (D+4) i v out n (EX pins)->Calls prog 95 #[.pointer (some ⟨D,0,none⟩),.pointer (some ⟨m,0,none⟩),.pointer (some ⟨m+1+1,0,none⟩),.pointer (some ⟨D+1,0,none⟩)] W' λ e w'=>e=.returned (.tuple #[])/\Ep w ⟨A,A+1,m,m+1+1,m+1,D,D+1⟩ P (.slice la X.length lc) X (D+4) i v out n (EX pins) (De pins) (Cu cs) W' w'):=⟨λ W' i v out h=>Rest_at w W' ⟨A,A+1,m,m+1+1,m+1,D,D+1⟩ P W f cs (.slice la X.length lc) X (D+4) i v out n (EX pins) (De pins) HSp.out HCs.out h HLo.out (by have:=HLl.out;omega) (λ g hg=>cntP_in pins g)⟩
   have HPut:Sl (∀ W' i v out g dt,RsSt w W' ⟨A,A+1,m,m+1+1,m+1,D,D+1⟩ P (.slice la X.length lc) X (D+4) i v out n (EX pins)->X[i]?=some g->dt<=65536->Calls prog 94 #[.int .i64 (dt:Nat),.pointer (some ⟨A,0,none⟩),.pointer (some ⟨m,0,none⟩),.pointer (some ⟨D,0,none⟩),.pointer (some ⟨A+1,0,none⟩)] W' (PutPlan w ⟨A,A+1,m,m+1+1,m+1,D,D+1⟩ P (.slice la X.length lc) X (D+4) i v out (g,dt,Cu cs g) W')):=⟨λ W' i v out g dt h hg ht=>Put_at w W' ⟨A,A+1,m,m+1+1,m+1,D,D+1⟩ P W f cs (.slice la X.length lc) X (D+4) i v out g dt HSp.out HCs.out h.st hg (HLo.out g (List.mem_of_getElem? hg)) (by have:=HLl.out;omega) ht⟩
   have HHd2:Sl (∀ g∈X,∀ W',Kp Ab w W'->∃ ty ln:Nat,Calls prog 49 #[.pointer (some ⟨P.a,0,none⟩),.int .i64 (g:Nat)] W' λ e w'=>e=.returned (.tuple #[Al 1 (ty:Nat) (ln:Nat) (Cu cs g:Nat),.int .i64 0])/\Kp Ab W' w'):=⟨λ g hg=>head_of HSp.out HCs.out (HLo.out g hg)⟩
   have HAr2:Sl (∀ W',Kp Ab w W'->Calls prog 14 #[.pointer (some ⟨P.s,0,none⟩)] W' λ e w'=>e=.returned (.pointer (some ⟨P.a,0,none⟩))/\w'=W'):=⟨λ W' k=>Cj P W f W' (HSp.out.Ad k)⟩
   have HSz:Sl (∀ g∈X,Cu cs g<=65536/\0<Cu cs g):=⟨λ g hg=>by
    have hsm:=HSp.out.ar.small
    obtain⟨c,hm,h1,rfl⟩:=HLo.out g hg
    have hlt:=HCs.out.tl.mem hm
    rw[Cy HCs.out.tl hm h1]
    omega⟩
   refine wpIn_range4 (n:=0) (gf:=140) (lb:=#[.pointer (some ⟨D+3,0,none⟩)]) rfl (enters_of func140 (by kernel_rfl) rfl)
    (runs_iter4 (D+3) w1.heap.size (.slice ra R.length rc) R wl gbx HR7.out (by have:=HRs.out.1;omega) (λ x hx=>by have:=HRs.out.2 x hx;omega) (R:=λ i=>i=D\/i=A+1) (λ i hi=>⟨by omega,by omega,λ h=>by have:=HRb.out _ h;omega⟩)) (λ i hi=>hi.elim) (λ i hi=>by omega)
    (X:=λ _=>False) (λ i hi=>hi.elim) (λ _=>rfl)
    (λ pre S W'=>OfI w ⟨A,A+1,m,m+1+1,m+1,D,D+1⟩ P (.slice la X.length lc) X (D+4) n (EX pins) (De pins) (Cu cs) R pre S W'/\W'.heap[D+1+1]?=some (.cells #[.func (.func 95) #[] #[.pointer (some ⟨D,0,none⟩),.pointer (some ⟨m,0,none⟩),.pointer (some ⟨m+1+1,0,none⟩),.pointer (some ⟨D+1,0,none⟩)]] 1 (0,0))) (λ c pre W'=>False) (EG ⟨A,A+1,m,m+1+1,m+1,D,D+1⟩ (.slice none 0 0)) ?hS ?hI ?hIx ?h0 ?hround ?hdone ?hstop
   case hS=>
    rintro pre S W' ⟨⟨i,v,out,a1,rfl,a3,a4⟩,-⟩ k hk
    have hl5:=a1.st.lt
    dsimp only at hl5
    rcases hk with hk|hk|hk
    .exact ⟨.inl (.inl hk),by dsimp only at hk;omega⟩
    .exact ⟨.inl (.inr hk),by dsimp only at hk;omega⟩
    .exact ⟨.inr (by have:=a3 k hk;omega),(Af a1.st.own hk).2⟩
   case hI=>
    rintro pre S W' W'' ⟨⟨i,v,out,a1,rfl,a3,a4⟩,a5⟩ hk
    exact⟨⟨i,v,out,a1.keepS hk (λ x hx=>by
     rcases hx with h|h|h
     .exact h.elim
     .exact ⟨by omega,λ e=>by have:=a3 x e;omega⟩
     .exact ⟨by omega,λ e=>by have:=a3 x e;omega⟩),rfl,a3,a4⟩,hk.at_ a5 (λ h=>by rcases h with h|h|h;exact h;omega;omega)⟩
   case hIx=>exact λ c pre W' W'' h hk=>h
   case h0=>exact ⟨⟨0,_,_,HS0.out,rfl,λ k h=>(by cases h),λ rest h=>(by rw[h];rfl)⟩,r7⟩
   case hround=>
    rintro pre S x rest W' hx ⟨⟨i0,v0,out0,a1,rfl,a3,a4⟩,a5⟩ hs
    have hxR:x∈R:=by rw[hx];exact List.mem_append_right _ List.mem_cons_self
    have hxf:=HRs.out.2 x hxR
    have HA4:=sE a4
    have HA3:=sE a3
    have HX2:=sE hx
    clear a4 hx hxR gbx r7
    obtain⟨xa,xn⟩:=x
    dsimp only at hxf ⊢
    gi_wp2_with fail
    refine⟨Kr _ W',?_⟩
    intro W2 hc2 hf2 hk2 hs2 hr2
    have st2:=a1.keepS hk2 (λ y hy=>⟨by omega,λ e=>by have:=a3 y e;omega⟩)
    have r2:=hk2.at_ a5 (by omega)
    have HS2:=sE st2
    have HR2:=sE r2
    have c15:=cell_of_one r2
    have HK2:=sE hk2
    clear a1 a5 a3 hc2 hf2 hr2 hk2 st2 r2
    gi_wp2_with fail
    refine⟨trivial,rfl,?_⟩
    refine(Ca (HRst.out W2 _ _ _ HS2.out)).mono ?_
    rintro e w5 ⟨rfl,hP⟩
    obtain⟨Z,hZ⟩:∃ Z,(out0++(Ch (De pins) (Cu cs) (X.drop i0) xa (xa+xn)).1,(Ch (De pins) (Cu cs) (X.drop i0) xa (xa+xn)).2)=Z:=⟨_,rfl⟩
    have hF0:FillI w ⟨A,A+1,m,m+1+1,m+1,D,D+1⟩ P (.slice la X.length lc) X (D+4) n (EX pins) (De pins) (Cu cs) (xa+xn) v0 W2 Z xa w5:=FillI.of_rest hP (by omega) (by rw[<- hZ]) (by rw[<- hZ]) (Kr _ _) (λ k h=>.inl h)
    have HZ:Sl (∀ i o,o=Z.1->X.drop i=Z.2->∀ rest,R=pre++[(xa,xn)]++rest->o++planL (De pins) (Cu cs) rest (X.drop i)=planL (De pins) (Cu cs) R X):=⟨λ i o h1 h2 rest h3=>by
     rw[<- hZ] at h1 h2
     have h4:=HA4.out ((xa,xn)::rest) (by rw[h3];simp)
     rw[<- h4,h1,h2,List.append_assoc]
     rfl⟩
    have HF0:=sE hF0
    have hz2:=HK2.out.size
    clear hP hF0 hZ HA4 c15 HS2
    gi_wp2_with fail
    gi_loopw [16,18,19] (λ x16 _ _ wr=>∃ fr:Nat,x16=.int .i64 (fr:Nat)/\FillI w ⟨A,A+1,m,m+1+1,m+1,D,D+1⟩ P (.slice la X.length lc) X (D+4) n (EX pins) (De pins) (Cu cs) (xa+xn) v0 W2 Z fr wr) (λ _ _ _ wr=>X.length-nextOf wr D)
    case atStart=>exact ⟨xa,rfl,HF0.out⟩
    case round=>
     obtain⟨fr,rfl,i,v,out,hR,hfr,htk,h1,h2,hk,ho⟩:=hrel
     have HR:=sE hR
     have HK:=sE hk
     have HOw:=sE ho
     have H12:=sE (And.intro h1 h2)
     have hn1:nextOf wr D=i:=hR.st.next
     have c0:=cell_of_one hR.st.hs
     have c1:=cell_of_one hR.st.hl
     have c2:=cell_of_one hR.st.hn
     have hzr:=hk.size
     dsimp only at c0 c1 c2
     obtain⟨ll,hll⟩:∃ ll,X.length=ll:=⟨_,rfl⟩
     have HLL:=sE hll
     rw[hll] at c1
     clear hll
     have hdone:X.drop i=[]\/(∃ u us,X.drop i=u::us/\De pins u=false/\(xa+xn)-fr<Cu cs u)->∀ W3,Kp Ab wr W3->roundEnd4 (EG ⟨A,A+1,m,m+1+1,m+1,D,D+1⟩ v0) (λ _=>False) (λ pre S W'=>OfI w ⟨A,A+1,m,m+1+1,m+1,D,D+1⟩ P (.slice la X.length lc) X (D+4) n (EX pins) (De pins) (Cu cs) R pre S W'/\W'.heap[D+1+1]?=some (.cells #[.func (.func 95) #[] #[.pointer (some ⟨D,0,none⟩),.pointer (some ⟨m,0,none⟩),.pointer (some ⟨m+1+1,0,none⟩),.pointer (some ⟨D+1,0,none⟩)]] 1 (0,0))) (λ c pre W'=>False) (pre++[(xa,xn)]) W2 .normal ⟨#[],[]⟩ W3:=λ hd W3 k3=>by
      obtain⟨e1,e2⟩:=FillI.done (w:=w) (b:=⟨A,A+1,m,m+1+1,m+1,D,D+1⟩) (P:=P) (lv:=.slice la X.length lc) (base:=D) (n:=n) (cnt:=EX pins) (v:=v) (wr:=wr) hd h1 h2
      refine⟨hk.trans k3 (λ _ _ h=>h.elim),EG ⟨A,A+1,m,m+1+1,m+1,D,D+1⟩ v,⟨⟨i,v,out,hR.Ad k3,rfl,λ k h=>?_,HZ.out i out e1 e2⟩,?_⟩,λ k h=>?_⟩
      .rcases ho k h with h|h
       .exact HA3.out k h
       .omega
      .refine (hk.trans k3 (λ _ _ h=>h.elim)).at_ HR2.out (λ h=>?_)
       rcases h with h|h|h
       .dsimp only at h;omega
       .dsimp only at h;omega
       .have:=HA3.out _ h;omega
      .rcases h with h|h|h
       .exact .inl (.inl h)
       .exact .inl (.inr (.inl h))
       .rcases ho k h with h|h
        .exact .inl (.inr (.inr h))
        .exact .inr h
     have HD:=sE hdone
     clear h1 h2 ho hdone
     by_cases hil:i<ll
     .have hil':(i:Int)<(ll:Int):=by omega
      obtain⟨g,hg⟩:∃ g,X[i]?=some g:=⟨_,List.getElem?_eq_getElem (by rw[HLL.out];exact hil)⟩
      obtain⟨lk,hlk,c3⟩:=Ce hR.st.row hg
      subst hlk
      have hgX:=List.mem_of_getElem? hg
      have hgz:=HSz.out g hgX
      have hdr:X.drop i=g::X.drop (i+1):=by
       obtain⟨q1,q2⟩:=gE.1 hg
       rw[List.drop_eq_getElem_cons q1,q2]
      have hpg:De pins g=false:=by
       rw[hdr] at htk
       cases hp:De pins g with
       |false=>rfl
       |true=>
        rw[List.takeWhile_cons_of_pos hp] at htk
        cases htk
      have HDr:=sE (And.intro hdr hpg)
      have HG:=sE hg
      have HHd1:=sE (HHd2.out g hgX)
      have hnx:Sl (∀ dt,dt<=65536->∀ W3,Kp Ab wr W3->_):=⟨λ dt hdt W3 k3=>HPut.out W3 i v out g dt (HR.out.Ad k3) hg hdt⟩
      obtain⟨z,hz⟩:∃ z,Cu cs g=z:=⟨_,rfl⟩
      rw[hz] at HHd1 hgz hnx
      have HZe:=sE hz
      have HHd:Sl (∀ W',Kp Ab wr W'->∃ ty ln:Nat,Calls prog 49 #[.pointer (some ⟨P.a,0,none⟩),.int .i64 (g:Nat)] W' λ e w'=>e=.returned (.tuple #[Al 1 (ty:Nat) (ln:Nat) (z:Nat),.int .i64 0])/\Kp Ab W' w'):=⟨λ W' kk=>HHd1.out W' (HR.out.st.kb.then' kk)⟩
      have HAr:Sl (∀ W',Kp Ab wr W'->Calls prog 14 #[.pointer (some ⟨P.s,0,none⟩)] W' λ e w'=>e=.returned (.pointer (some ⟨P.a,0,none⟩))/\w'=W'):=⟨λ W' kk=>HAr2.out W' (HR.out.st.kb.then' kk)⟩
      clear hR hk htk hg hgX hdr hpg hz HHd1 HF0
      gi_upto_region 24 with fail
      gi_cut [18,19,97,98,99] from 74 (λ x18 x19 x97 x98 x99 wx=>x97=undef/\x98=undef/\x99=undef/\PutCut z wr x18 wx)
      case first=>
       have kk0:Kp Ab wr wr.drew:=(Kr _ _).drew
       refine Ea (S:=λ w'=>w'.cell? ⟨A,0,none⟩=some (.pointer (some ⟨P.s,0,none⟩))/\w'.cell? ⟨m,0,none⟩=some (.slice (some ⟨lk,0,none⟩) ll lc)/\w'.cell? ⟨D,0,none⟩=some (.int .i64 (i:Nat))/\w'.cell? ⟨lk,i,none⟩=some (.int .i64 (g:Nat))) (by kernel_rfl) (by kernel_rfl) (λ _ _ h=>h) ⟨c0,c1,c2,c3⟩ (λ qZ=>?_)
       refine Ao 0 ?_;refine Ao 2 ?_;refine Ao 3 ?_;refine Ao 4 ?_;refine Ao 5 ?_
       try simp only[Ar]
       refine AQ [1,10] ?_
       refine Ah rfl (λ K hK=>?_) ?_
       .skip
        go_simp
        with_reducible refine(HAr.out _ kk0).mono ?_
        rintro e wz ⟨rfl,rfl⟩
        refine hK _ _ ?_ (λ qZ=>?_)
        .exact ⟨Ac kk0 c0,Ac kk0 c1,Ac kk0 c2,Ac kk0 c3⟩
        clear hK K
        try simp only[Ar]
        refine AQ [6,10] ?_
        refine Ah rfl (λ K hK=>?_) ?_
        .skip
         go_simp
         obtain⟨ty,ln,hd⟩:=HHd.out _ kk0
         with_reducible refine hd.mono ?_
         rintro e wh2 ⟨rfl,kh1x⟩
         have kh1:=kk0.then' kh1x
         clear hd
         obtain⟨ha,hha⟩:∃ ha:Array Value,Al 1 (ty:Nat) (ln:Nat) (z:Nat)=.agg ha:=⟨_,rfl⟩
         rw[hha]
         refine hK _ _ ?_ (λ qZ=>?_)
         .exact ⟨Ac kh1 c0,Ac kh1 c1,Ac kh1 c2,Ac kh1 c3⟩
         clear hK K
         try simp only[Ar]
         refine Ao 7 ?_;refine Ao 8 ?_;refine Ao 9 ?_
         try simp only[Ar]
         refine AQ [10] ?_
         refine Ag rfl (λ K hK=>?_)
         go_simp
         obtain⟨wa4,hwa4⟩:∃ wa4,wa4=World.alloc wh2 (.cells #[.int .u8 0,.int .i64 0,.int .i64 0,.int .i64 0] 52):=⟨_,rfl⟩
         rw[<- hwa4]
         have ka3x:Kp Ab wh2 wa4:=by rw[hwa4];exact (Kr Ab wh2).alloc _
         have ka3b:wa4.heap[wh2.heap.size]?=some (.cells #[.int .u8 0,.int .i64 0,.int .i64 0,.int .i64 0] 52 (0,0)):=by rw[hwa4];exact wN wh2 _
         have ka3:Kp Ab wr wa4:=kh1.then' ka3x
         clear hwa4
         refine hK _ _ ?_ (λ qZ=>?_)
         .exact ⟨Ac ka3 c0,Ac ka3 c1,Ac ka3 c2,Ac ka3 c3⟩
         clear hK K
         try simp only[Ar]
         refine AQ [11] ?_
         refine Ag rfl (λ K hK=>?_)
         have HAE:Sl (ha.toList=[.int .u8 1,.int .i64 (ty:Nat),.int .i64 (ln:Nat),.int .i64 (z:Nat)]):=⟨by unfold Al at hha;injection hha with h;rw [<- h]⟩
         have hsz4:ha.size=4:=by have:=congrArg List.length HAE.out;simpa using this
         have HST:=sE (run_storeCells_at (P:=prog) (wh2.heap.size) 0 52 ha.toList 0 _ _ ka3b (by rw[HAE.out];exact Nat.le_refl _) (by rw[HAE.out];intro v hv;simp at hv;rcases hv with rfl|rfl|rfl|rfl <;> rfl))
         clear hha
         go_simp
         rw[HST.out]
         have hnb:=setRow_heap _ (wh2.heap.size) _ [.int .u8 1,.int .i64 (ty:Nat),.int .i64 (ln:Nat),.int .i64 (z:Nat)].toArray _ _ ka3b
         rw[HAE.out]
         go_simp
         obtain⟨wn,hwn⟩:∃ wn:World,wn=World.setRow wa4 (wh2.heap.size) #[.int .u8 1,.int .i64 (ty:Nat),.int .i64 (ln:Nat),.int .i64 (z:Nat)]:=⟨_,rfl⟩
         have kn:Kp Ab wr wn:=by rw[hwn];exact ((ka3.Ak _).trans (Cm _ _ _) (λ _ _ h=>h)).mono (λ k hk h=>by have h1:k=wh2.heap.size:=h;have h2:=(kh1).size;omega)
         have hbn:wn.heap[wh2.heap.size]?=some (.cells #[.int .u8 1,.int .i64 (ty:Nat),.int .i64 (ln:Nat),.int .i64 (z:Nat)] 52 (0,0)):=by rw[hwn];exact hnb
         rw[<- hwn]
         clear hwn hnb HST
         refine hK _ _ ?_ (λ qZ=>?_)
         .exact ⟨Ac kn c0,Ac kn c1,Ac kn c2,Ac kn c3⟩
         clear hK K
         try simp only[Ar]
         refine Ao 12 ?_
         try simp only[Ar]
         refine wpAnyH_done (by kernel_rfl) ?_ _
         gi_wp2_with fail
         gi_meet
         exact⟨rfl,rfl,rfl,_,ty,ln,rfl,hbn,kn⟩
        .refine Ah rfl (λ K hK=>?_) AllReadyH.nil
         go_simp
         obtain⟨wa6,hwa6⟩:∃ wa6,wa6=(World.alloc wr (.cells #[.int .u8 0,.int .i64 0,.int .i64 0,.int .i64 0] 52)).drew:=⟨_,rfl⟩
         rw[<- hwa6]
         have ka5x:Kp Ab wr wa6:=by rw[hwa6];exact ((Kr Ab wr).alloc _).drew
         have ka5b:wa6.heap[wr.heap.size]?=some (.cells #[.int .u8 0,.int .i64 0,.int .i64 0,.int .i64 0] 52 (0,0)):=by rw[hwa6];exact wN wr _
         have ka5:Kp Ab wr wa6:=ka5x
         clear hwa6
         refine hK _ _ ?_ (λ qZ=>?_)
         .exact ⟨Ac ka5 c0,Ac ka5 c1,Ac ka5 c2,Ac ka5 c3⟩
         clear hK K
         try simp only[Ar]
         refine AQ [6] ?_
         refine Ag rfl (λ K hK=>?_)
         go_simp
         obtain⟨ty,ln,hd⟩:=HHd.out _ ka5
         with_reducible refine hd.mono ?_
         rintro e wh8 ⟨rfl,kh7x⟩
         have kh7:=ka5.then' kh7x
         have kh7b:=kh7x.at_ ka5b (λ h=>h)
         clear hd
         obtain⟨ha,hha⟩:∃ ha:Array Value,Al 1 (ty:Nat) (ln:Nat) (z:Nat)=.agg ha:=⟨_,rfl⟩
         rw[hha]
         refine hK _ _ ?_ (λ qZ=>?_)
         .exact ⟨Ac kh7 c0,Ac kh7 c1,Ac kh7 c2,Ac kh7 c3⟩
         clear hK K
         try simp only[Ar]
         refine Ao 7 ?_;refine Ao 8 ?_;refine Ao 9 ?_
         try simp only[Ar]
         refine AQ [11] ?_
         refine Ag rfl (λ K hK=>?_)
         have HAE:Sl (ha.toList=[.int .u8 1,.int .i64 (ty:Nat),.int .i64 (ln:Nat),.int .i64 (z:Nat)]):=⟨by unfold Al at hha;injection hha with h;rw [<- h]⟩
         have hsz4:ha.size=4:=by have:=congrArg List.length HAE.out;simpa using this
         have HST:=sE (run_storeCells_at (P:=prog) (wr.heap.size) 0 52 ha.toList 0 _ _ kh7b (by rw[HAE.out];exact Nat.le_refl _) (by rw[HAE.out];intro v hv;simp at hv;rcases hv with rfl|rfl|rfl|rfl <;> rfl))
         clear hha
         go_simp
         rw[HST.out]
         have hnb:=setRow_heap _ (wr.heap.size) _ [.int .u8 1,.int .i64 (ty:Nat),.int .i64 (ln:Nat),.int .i64 (z:Nat)].toArray _ _ kh7b
         rw[HAE.out]
         go_simp
         obtain⟨wn,hwn⟩:∃ wn:World,wn=World.setRow wh8 (wr.heap.size) #[.int .u8 1,.int .i64 (ty:Nat),.int .i64 (ln:Nat),.int .i64 (z:Nat)]:=⟨_,rfl⟩
         have kn:Kp Ab wr wn:=by rw[hwn];exact ((kh7.Ak _).trans (Cm _ _ _) (λ _ _ h=>h)).mono (λ k hk h=>by have h1:k=wr.heap.size:=h;have h2:=(Kr Ab wr).size;omega)
         have hbn:wn.heap[wr.heap.size]?=some (.cells #[.int .u8 1,.int .i64 (ty:Nat),.int .i64 (ln:Nat),.int .i64 (z:Nat)] 52 (0,0)):=by rw[hwn];exact hnb
         rw[<- hwn]
         clear hwn hnb HST
         refine hK _ _ ?_ (λ qZ=>?_)
         .exact ⟨Ac kn c0,Ac kn c1,Ac kn c2,Ac kn c3⟩
         clear hK K
         try simp only[Ar]
         refine Ao 12 ?_
         try simp only[Ar]
         refine wpAnyH_done (by kernel_rfl) ?_ _
         gi_wp2_with fail
         gi_meet
         exact⟨rfl,rfl,rfl,_,ty,ln,rfl,hbn,kn⟩
       .refine Ah rfl (λ K hK=>?_) AllReadyH.nil
        go_simp
        obtain⟨wa10,hwa10⟩:∃ wa10,wa10=(World.alloc wr (.cells #[.int .u8 0,.int .i64 0,.int .i64 0,.int .i64 0] 52)).drew:=⟨_,rfl⟩
        rw[<- hwa10]
        have ka9x:Kp Ab wr wa10:=by rw[hwa10];exact ((Kr Ab wr).alloc _).drew
        have ka9b:wa10.heap[wr.heap.size]?=some (.cells #[.int .u8 0,.int .i64 0,.int .i64 0,.int .i64 0] 52 (0,0)):=by rw[hwa10];exact wN wr _
        have ka9:Kp Ab wr wa10:=ka9x
        clear hwa10
        refine hK _ _ ?_ (λ qZ=>?_)
        .exact ⟨Ac ka9 c0,Ac ka9 c1,Ac ka9 c2,Ac ka9 c3⟩
        clear hK K
        try simp only[Ar]
        refine AQ [1] ?_
        refine Ag rfl (λ K hK=>?_)
        go_simp
        with_reducible refine(HAr.out _ ka9).mono ?_
        rintro e wz ⟨rfl,rfl⟩
        refine hK _ _ ?_ (λ qZ=>?_)
        .exact ⟨Ac ka9 c0,Ac ka9 c1,Ac ka9 c2,Ac ka9 c3⟩
        clear hK K
        try simp only[Ar]
        refine AQ [6] ?_
        refine Ag rfl (λ K hK=>?_)
        go_simp
        obtain⟨ty,ln,hd⟩:=HHd.out _ ka9
        with_reducible refine hd.mono ?_
        rintro e wh12 ⟨rfl,kh11x⟩
        have kh11:=ka9.then' kh11x
        have kh11b:=kh11x.at_ ka9b (λ h=>h)
        clear hd
        obtain⟨ha,hha⟩:∃ ha:Array Value,Al 1 (ty:Nat) (ln:Nat) (z:Nat)=.agg ha:=⟨_,rfl⟩
        rw[hha]
        refine hK _ _ ?_ (λ qZ=>?_)
        .exact ⟨Ac kh11 c0,Ac kh11 c1,Ac kh11 c2,Ac kh11 c3⟩
        clear hK K
        try simp only[Ar]
        refine Ao 7 ?_;refine Ao 8 ?_;refine Ao 9 ?_
        try simp only[Ar]
        refine AQ [11] ?_
        refine Ag rfl (λ K hK=>?_)
        have HAE:Sl (ha.toList=[.int .u8 1,.int .i64 (ty:Nat),.int .i64 (ln:Nat),.int .i64 (z:Nat)]):=⟨by unfold Al at hha;injection hha with h;rw [<- h]⟩
        have hsz4:ha.size=4:=by have:=congrArg List.length HAE.out;simpa using this
        have HST:=sE (run_storeCells_at (P:=prog) (wr.heap.size) 0 52 ha.toList 0 _ _ kh11b (by rw[HAE.out];exact Nat.le_refl _) (by rw[HAE.out];intro v hv;simp at hv;rcases hv with rfl|rfl|rfl|rfl <;> rfl))
        clear hha
        go_simp
        rw[HST.out]
        have hnb:=setRow_heap _ (wr.heap.size) _ [.int .u8 1,.int .i64 (ty:Nat),.int .i64 (ln:Nat),.int .i64 (z:Nat)].toArray _ _ kh11b
        rw[HAE.out]
        go_simp
        obtain⟨wn,hwn⟩:∃ wn:World,wn=World.setRow wh12 (wr.heap.size) #[.int .u8 1,.int .i64 (ty:Nat),.int .i64 (ln:Nat),.int .i64 (z:Nat)]:=⟨_,rfl⟩
        have kn:Kp Ab wr wn:=by rw[hwn];exact ((kh11.Ak _).trans (Cm _ _ _) (λ _ _ h=>h)).mono (λ k hk h=>by have h1:k=wr.heap.size:=h;have h2:=(Kr Ab wr).size;omega)
        have hbn:wn.heap[wr.heap.size]?=some (.cells #[.int .u8 1,.int .i64 (ty:Nat),.int .i64 (ln:Nat),.int .i64 (z:Nat)] 52 (0,0)):=by rw[hwn];exact hnb
        rw[<- hwn]
        clear hwn hnb HST
        refine hK _ _ ?_ (λ qZ=>?_)
        .exact ⟨Ac kn c0,Ac kn c1,Ac kn c2,Ac kn c3⟩
        clear hK K
        try simp only[Ar]
        refine Ao 12 ?_
        try simp only[Ar]
        refine wpAnyH_done (by kernel_rfl) ?_ _
        gi_wp2_with fail
        gi_meet
        exact⟨rfl,rfl,rfl,_,ty,ln,rfl,hbn,kn⟩
      case rest=>
       obtain⟨rfl,rfl,rfl,hb,ty,ln,rfl,hbh,kx⟩:=hcut
       have hRc:=HR.out.Ad kx
       have hbD:¬ hb=D:=λ h=>by
        have h1:=hRc.st.hn
        rw[<- h] at h1
        rw[hbh] at h1
        simp at h1
       have hbA:¬ hb=A+1:=λ h=>by
        have h1:=hRc.st.hp
        dsimp only at h1
        rw[<- h,hbh] at h1
        simp at h1
       have hbv:¬ v.ownBlock=some hb:=λ h=>by
        rcases hRc.st.own.2 with ⟨e,-⟩|⟨g',cap',cur',e,-,e3,-⟩
        .rw [e] at h
         cases h
        .rw [e] at h
         have:g'=hb:=by simpa [Value.ownBlock] using h
         subst this
         rw[hbh] at e3
         simp at e3
       have hbx:¬ EG ⟨A,A+1,m,m+1+1,m+1,D,D+1⟩ v hb:=λ h=>by
        rcases h with h|h|h
        .exact hbD h
        .exact hbA h
        .exact hbv h
       have hrx:¬ EG ⟨A,A+1,m,m+1+1,m+1,D,D+1⟩ v (D+1+1):=λ h=>by
        rcases h with h|h|h
        .dsimp only at h;omega
        .dsimp only at h;omega
        .rcases HOw.out _ h with h|h
         .have:=HA3.out _ h;omega
         .omega
       have hr0:¬ EG ⟨A,A+1,m,m+1+1,m+1,D,D+1⟩ v0 (D+1+1):=λ h=>by
        rcases h with h|h|h
        .dsimp only at h;omega
        .dsimp only at h;omega
        .have:=HA3.out _ h;omega
       have rc:=(HK.out.trans kx (λ _ _ h=>h.elim)).at_ HR2.out hr0
       obtain⟨d0,d1,d2,d3⟩:=Ay hbh
       have c14:=cell_of_one hRc.hf
       dsimp only at c14
       have HBh:=sE hbh
       have HRc:=sE hRc
       have Hkx:=sE kx
       have HRx:=sE rc
       have HNx:=sE (And.intro hbx hrx)
       have zkx:=kx.size
       have u0:IntKind.i64.wrap ((xa:Int)+(xn:Int)-(fr:Int))=(xa:Int)+(xn:Int)-(fr:Int):=by rw[IntKind.wrap_i64];omega
       clear hbh hRc hbD hbA hbv hbx hrx hr0 kx rc c0 c1 c2 c3 d0 d1 d2
       by_cases hs:(xa+xn)-fr<z
       .have p1:(xa:Int)+(xn:Int)-(fr:Int)<(z:Int):=by omega
        have HE:=sE (HD.out (.inr ⟨g,_,HDr.out.1,HDr.out.2,by rw[HZe.out];exact hs⟩) wc Hkx.out)
        clear hs HD
        gi_wp2_with fail
        exact HE.out
       .have p1:¬ (xa:Int)+(xn:Int)-(fr:Int)<(z:Int):=by omega
        have hP1:=hnx.out fr (by omega) wc Hkx.out
        have HP1:=sE hP1
        have hft:fr+z<=xa+xn:=by omega
        have HNs:Sl (¬ (xa+xn)-fr<z):=⟨hs⟩
        clear hs HD hP1
        gi_wp2_with fail
        refine⟨trivial,rfl,?_⟩
        refine(Ca HP1.out).mono ?_
        rintro e w6 ⟨rfl,v6,hS6,hk6,ho6⟩
        have hR6:=HRc.out.put hS6 hk6
        have HR6:=sE hR6
        have HK6:Sl (Kp (EG ⟨A,A+1,m,m+1+1,m+1,D,D+1⟩ v0) W2 w6):=⟨putK_trans HK.out (((Hkx.out).Ak _).trans hk6 (λ _ _ h=>h)) HOw.out⟩
        have d36:=(Ay (hk6.at_ HBh.out HNx.out.1)).2.2.2
        have r6:=cell_of_one (hk6.at_ HRx.out HNx.out.2)
        have HO6:Sl (∀ k,v6.ownBlock=some k->v0.ownBlock=some k\/W2.heap.size<=k):=⟨λ k h=>by
         rcases ho6 k h with h|h
         .exact HOw.out k h
         .exact .inr (by omega)⟩
        have u1:IntKind.i64.wrap ((fr:Int)+(z:Int))=(fr:Int)+(z:Int):=by rw[IntKind.wrap_i64];omega
        have hC:=HRst.out w6 _ _ _ hR6
        have HC:=sE hC
        clear hS6 hk6 ho6 hR6 hC d3 c14
        gi_wp2_with fail
        refine⟨trivial,rfl,?_⟩
        refine(Ca HC.out).mono ?_
        rintro e w7 ⟨rfl,hP7⟩
        have hm7:i+1<=nextOf w7 D:=by
         obtain⟨i',v',out',q1,q2,-⟩:=hP7
         rw[show nextOf w7 D=i' from q1.st.next]
         exact q2
        have hF7:FillI w ⟨A,A+1,m,m+1+1,m+1,D,D+1⟩ P (.slice (some ⟨lk,0,none⟩) X.length lc) X (D+4) n (EX pins) (De pins) (Cu cs) (xa+xn) v0 W2 Z (fr+z) w7:=FillI.of_rest hP7 hft (by
         rw[<- H12.out.1,HDr.out.1]
         simp only[Ch,HDr.out.2,HZe.out,HNs.out,Bool.false_eq_true,if_false]
         rw[List.append_assoc]
         rfl) (by
         rw[<- H12.out.2,HDr.out.1]
         simp only[Ch,HDr.out.2,HZe.out,HNs.out,Bool.false_eq_true,if_false]) HK6.out HO6.out
        have HF7:=sE hF7
        clear hP7 hF7
        gi_wp2_with fail
        exact⟨⟨fr+z,by simp,HF7.out⟩,by have:=HLL.out;omega⟩
     .have hil':¬ (i:Int)<(ll:Int):=by omega
      have hE:=HD.out (.inl (List.drop_eq_nil_of_le (by rw[HLL.out];omega))) wr (Kr _ _)
      have HE:=sE hE
      clear hE HD hR hk htk
      gi_wp2_with fail
      exact HE.out
   case hdone=>
    rintro S W' ⟨⟨i,v,out,a1,rfl,a3,a4⟩,a5⟩ hs hD'
    have hpl:=a4 [] (by simp)
    have c15:=cell_of_one a5
    have HRu:=sE (HRst.out W' i v out a1)
    have HA1:=sE a1
    have HA3:=sE a3
    have HPl2:=sE hpl
    have HD':=sE hD'
    clear a1 a3 a4 a5 hpl hD'
    gi_wp2_with fail
    refine⟨trivial,rfl,?_⟩
    refine(callsIn_wide.2 HRu.out).mono ?_
    rintro e w5 ⟨rfl,i',v',out',q1,q2,q3,q4,q5,q6⟩
    have hpe:out'=planL (De pins) (Cu cs) R X:=by rw[q4,<- HPl2.out];rfl
    obtain⟨pa,pc,rfl⟩:=AA q1.st.own
    have hD5:=q5.at_ HD'.out (λ h=>by
     rcases h with h|h|h
     .dsimp only at h;omega
     .dsimp only at h;omega
     .have:=HA3.out _ h;omega)
    have c6:=cell_of_one q1.st.hp
    have fr6:=free_of_one q1.st.hp
    dsimp only at c6 fr6
    have HQ:=sE q1
    rw[zl] at hD5
    have HD5:=sE hD5
    have HPe:=sE hpe
    have HQo:=sE q6
    clear q1 q2 q3 q4 q5 q6 hD5 hpe c15
    gi_wp2_with fail
    obtain⟨w6,hw6⟩:∃ w6,w6=w5.setCell ⟨A+1,0,none⟩ (.slice pa out'.length pc):=⟨_,rfl⟩
    rw[<- hw6]
    have KB:Kp (λ b=>b=A+1) w5 w6:=by rw[hw6];exact (Kr (λ b=>b=A+1) w5).setCell (λ _=>rfl) _
    have b6:w6.heap[A+1]?=some (.cells #[.slice pa out'.length pc] 33 (0,0)):=by rw[hw6];exact one_setCell HQ.out.st.hp
    clear hw6
    refine⟨by simp,.inl ⟨_,_,rfl,run_takeDeferred (KB.at_ HD5.out (by omega)),?_⟩⟩
    have kE:Kp (λ b=>b=D+4) w6 (w6.putObj (D+4) (.deferred none)):=(Kr (λ b=>b=D+4) w6).putObj (λ _=>rfl) _
    have e6:=cell_of_one (kE.at_ b6 (by omega))
    have hob:∀ b,(Value.slice pa out'.length pc).ownBlock=some b->D+4<=b:=λ b hb=>(Af HQ.out.st.own hb).1
    have hoD:¬ (Value.slice pa out'.length pc).ownBlock=some (D+4):=λ h=>by
     rcases HQo.out _ h with h|h
     .have:=HA3.out _ h;omega
     .omega
    refine⟨.tuple #[.agg #[.slice pa out'.length pc],.int .i64 0],by simp[results,results44,go_sem,e6],.slice pa out'.length pc,rfl,?_,?_⟩
    .rw [<- HPe.out]
     refine Bp (Ai (Ai HQ.out.st.own KB (λ b hb h=>?_)) kE (λ b hb h=>?_)) (by omega)
     .have:=hob b hb;omega
     .rw [h] at hb;exact hoD hb
    .exact ((HQ.out.st.kb.trans KB (λ b hb h=>by omega)).trans kE (λ b hb h=>by omega))
   case hstop=>exact λ c pre W' hp h=>h.elim

end

end Go.Proofs.YtmfajopmppfldaaGreatDoor
