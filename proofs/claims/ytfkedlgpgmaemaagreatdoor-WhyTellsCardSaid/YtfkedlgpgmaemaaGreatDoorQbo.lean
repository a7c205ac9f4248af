/-
  Lemmas for the laws, together: DocE, DocF, DocG, DocH.
-/
import Derived.Test.YtfkedlgpgmaemaaGreatDoorQap
import Derived.Test.YtfkedlgpgmaemaaGreatDoorQaz
import Derived.Test.YtfkedlgpgmaemaaGreatDoorQan
import Derived.Test.YtfkedlgpgmaemaaGreatDoorQba
import Derived.Test.YtfkedlgpgmaemaaGreatDoorQbd
import Derived.Test.YtfkedlgpgmaemaaGreatDoorQbn
import Derived.Test.YtfkedlgpgmaemaaGreatDoorQbc
set_option linter.unusedVariables false
set_option maxHeartbeats 16000000
namespace Go.Proofs.YtfkedlgpgmaemaaGreatDoor
open Tryz
section
open Go.RowKit

set_option maxRecDepth 20000 in
theorem DCells10_at(P:Sp)(W:Nat->Nat)(cs:List Cel)(q cap:Nat)(lv:Value)(w:World)(hr:WRow w q P.n W)(hc:CellsAt P W cs)(hv:A8 w lv P.ts)(hl:P.ts.length<=17592186044416)(hM:Cw P.ts):
  Calls prog 61 #[.slice (some ⟨q,0,none⟩) P.n cap,lv] w λ e w'=>∃ v,e=.returned (.tuple #[v,.int .i64 ((P.n/2:Nat):Int)])/\w'.ownsRow w.heap.size 113 5 v cs.length (Ci cs)/\Kp Aa w w':=by
 have hn:=hr.small
 have hlen:cs.length<=32768:=by
  have:=BG hc.tl
  omega
 have HR:=sE hr
 have HC:=sE hc
 have HV:=sE hv
 have HMs:=sE hM
 have HLl:=sE hl
 clear hr hc hv hM hl
 go_enter func61,ntmps61
 go_wp2_with fail
 go_loopw [6,7] (λ v y wr=>∃ (pre rest:List Cel) (g:Nat),cs=pre++rest/\y=.int .i64 g/\Sl (AC 0 pre g)/\wr.ownsRow w.heap.size 113 5 v pre.length (Ci pre)/\Kp Aa w wr) (λ _ y _=>P.n/2-(intOf y).toNat)
 case atStart=>exact ⟨[],cs,0,rfl,rfl,⟨rfl⟩,World.ownsRow_nil _ _ _ _,Kr _ _⟩
 case round=>
  obtain⟨pre,rest,g,hcs,rfl,ht,hown,hk⟩:=hrel
  have HX:=sE hcs
  have htl:=HC.o.tl
  rw[hcs] at htl
  have hsp:AC g rest (P.n/2):=by
   obtain⟨x,t1,t2⟩:=htl.split
   rw[ht.o.uniq t1];exact t2
  cases rest with
  |nil=>
   have hg:g=P.n/2:=hsp
   have hg':¬ (g:Int)<(P.n:Int)/2:=by omega
   rw[List.append_nil] at hcs
   subst hcs
   clear htl hsp
   go_wp2
   go_ret2
   exact⟨u6,rfl,hown,hk⟩
  |cons x rest'=>
   obtain⟨hxg,hxs,hrest⟩:=hsp
   have hmem:x∈cs:=by rw[hcs];simp
   have hfin:=(HC.o.tl.mem hmem).2.1
   have hok:=HC.o.ok x hmem
   have hW:=HC.o.hd x hmem
   have hgb:x.g<P.n/2:=by omega
   have hszb:x.sz<16777216:=by omega
   have hpl:pre.length+1<=cs.length:=by rw[hcs];simp
   subst hxg
   have HT2:Sl (AC 0 (pre++[x]) (x.g+x.sz)):=⟨by
    refine ht.o.app ⟨rfl,hxs,rfl⟩⟩
   have HH:Sl (Calls prog 113 #[.slice (some ⟨q,0,none⟩) P.n cap,x.g] wr (RK (.tuple #[.agg #[.int .u8 x.tag,x.ty,x.ln,x.sz],(0:Int)]) wr)):=⟨by
    have hh:=DHead_in x.g q P.n cap W wr (HR.o.Ac hk) hgb
    obtain⟨d1,d2,d3,d4,d5⟩:=dec_enc hok.1
    rw[hW,d1,d2,d3,d4,d5] at hh
    exact hh.mono λ_ _ hp=>hp⟩
   have HF:Sl (∀ W',Kp Aa wr W'->Calls prog 114 #[lv,.agg #[.int .u8 x.tag,x.ty,x.ln,x.sz]] W' (RK (.int .i64 0) W')):=⟨λ W' kk=>by
    have hh:=DFits_any lv (x.tag:Nat) (x.ty:Nat) (x.ln:Nat) (x.sz:Nat) P.ts W' (HV.o.Ac (hk.then' kk)) HLl.o HMs.o
    rw[fitsE_ok hok] at hh
    exact hh⟩
   have b1:(x.g:Int)<(P.n:Int)/2:=by omega
   have b2:decide ((P.n:Int)/2-(x.g:Int)<(x.sz:Int))=false:=dF (by omega)
   have hs1:=hk.size
   have HHk:=sE hk
   have HTy:=sE ht
   have HO:=sE hown
   obtain⟨i0,hi,hz0,hz1,hz2⟩:=info_parts infoCell
   clear htl hrest hok hW hmem hcs hown hk
   go_wp2_with fail
   refine HH.o.mono ?_
   rintro e w2 ⟨rfl,k2⟩
   have b9:=wN w2 (.cells #[.int .u8 x.tag,x.ty,x.ln,x.sz] 111)
   have k23:=(Kr Aa w2).alloc (.cells #[.int .u8 x.tag,x.ty,x.ln,x.sz] 111)
   go_wp2_with fail
   refine(HF.o _ (k2.then' k23)).mono ?_
   rintro e w3 ⟨rfl,k3⟩
   have B9:=k3.at_ b9 id
   obtain⟨h0,h1,h2,h3⟩:=Ay B9
   have hm9:=lZ B9
   have K3:=(k2.then' k23).then' k3
   have O3:w3.ownsRow w.heap.size 113 5 u6 pre.length (Ci pre):=Af HO.o K3 (λ b hb h=>h)
   have HO3:=sE O3
   have HK3:=sE K3
   have hs3:=K3.size
   have hs2:=k2.size
   have HO9:Sl (¬ u6.ownBlock=some w2.heap.size):=⟨λ e=>by have:=Ad HO.o e;omega⟩
   clear b9 k23 k3 k2 B9 HF HH HO O3 K3
   go_wp2_with (at_builtin;go_loud (refine wpList_append_lies _ rfl (.tmp 41) (.tmp 45) 45 rfl w.heap.size 113 i0 (.agg #[(0:Int),.int .u8 0,(0:Int),(0:Int),(0:Int)]) 5 40 Dp hi hz0 hz1 hz2 rfl (by omega) u6 pre.length (Ci pre) rfl (HO3.o.alloc _) ⟨w3.heap.size,0,none⟩ 1 1 [x.g,.int .u8 x.tag,x.ty,x.ln,x.sz] rfl rfl (World.news_of_block (wN w3 _)) (by simp[Value.oneCell']) (by omega) (by unfold maxLen;omega) (by omega) (by simp;omega) (w3.heap.size+1) (by simp) ?_);intro g2 cap2 w4 hown4 hgrow hat hlt;have k4:Kp Aa w w4:=((HHk.o.then' HK3.o).alloc _).grown hgrow (λ k e hl=>absurd (Ad HO3.o e).1 (by omega));have kX:Kp (λ b=>u6.ownBlock=some b) w3 w4:=(((Kr Aa w3).alloc _).Aw (λ b=>u6.ownBlock=some b)).grown hgrow (λ k e _=>e);have h3':=kX.cell h3 HO9.o;clear hi hz0 hz1 hz2 h0 h1 h2)
   refine⟨⟨pre++[x],rest',x.g+x.sz,by rw[HX.o];simp,by go_num,HT2,?_,k4⟩,by simp only[intOf];omega⟩
   rw[EG,List.length_append]
   exact hown4

theorem DWord_no(y:Nat)(w:World)(h:y<1048576\/1114112<=y):Calls prog 117 #[.int .u64 y] w λ e w'=>e=.returned (.tuple #[(0:Int),.bool false])/\w'=w:=by
 by_cases h1:y<1048576
 .have d1:decide ((y:Int)<1048576)=true:=dT (by omega)
  clear h
  go_enter func117,ntmps117
  go_wp2
  go_ret2
  exact⟨rfl,rfl⟩
 .have d1:decide ((y:Int)<1048576)=false:=dF (by omega)
  have d2:decide ((1114112:Int)<=(y:Int))=true:=dT (by omega)
  clear h
  go_enter func117,ntmps117
  go_wp2
  go_ret2
  exact⟨rfl,rfl⟩

theorem DWord_yes(y n:Nat)(w:World)(hy:y=1048576+n)(h:n<65536):Calls prog 117 #[.int .u64 y] w λ e w'=>e=.returned (.tuple #[n,.bool true])/\w'=w:=by
 have HY:Sl ((y:Int)-1048576=(n:Nat)):=⟨by omega⟩
 have d1:decide ((y:Int)<1048576)=false:=dF (by omega)
 have d2:decide ((1114112:Int)<=(y:Int))=false:=dF (by omega)
 have d3:IntKind.u64.wrap ((y:Int)-1048576)=(y:Int)-1048576:=by rw[IntKind.wrap_u64];omega
 have d4:IntKind.i64.wrap ((y:Int)-1048576)=(y:Int)-1048576:=by rw[IntKind.wrap_i64];omega
 clear hy
 go_enter func117,ntmps117
 go_wp2
 go_ret2
 exact⟨by rw[<- HY.o];rfl,rfl⟩

theorem startOf_take{cs:List Cel}{j g:Nat}{c:Cel}(hc:cs[j]?=some c):Ak (cs.take (j+1)) g=(Ak (cs.take j) g||(c.tag==1&&c.g==g)):=by
 unfold Ak
 rw[List.take_add_one,hc,List.any_append]
 simp

theorem DBegins_at(w:World)(v:Value)(cs:List Cel)(g:Nat)(hv:Du w v cs)(hl:cs.length<=65536):
  Calls prog 118 #[v,g] w (RK (.bool (Ak cs g)) w):=by
 have HV:=sE hv
 obtain⟨a,c,rfl,-⟩:=hv
 obtain⟨n,hn⟩:∃ n,cs.length=n:=⟨_,rfl⟩
 have HN:=sE hn
 rw[hn] at HV hl ⊢
 clear hn
 go_enter func118,ntmps118
 go_wp2_with fail
 go_loopw [5] (λ x5 wr=>∃ j:Nat,x5=.int .i64 j/\j<=n/\Sl (Ak (cs.take j) g=false)/\Kp Aa w wr) (λ x5 _=>n-(intOf x5).toNat)
 case atStart=>exact ⟨0,rfl,Nat.zero_le _,⟨rfl⟩,Kr _ _⟩
 case round=>
  obtain⟨j,rfl,hj,HNo,hk⟩:=hrel
  by_cases hjl:j<n
  .have hjl':(j:Int)<(n:Int):=by omega
   obtain⟨c1,hc1⟩:∃ x,cs[j]?=some x:=⟨cs[j]'(by rw[HN.o];exact hjl),by simp⟩
   obtain⟨a',c',e,hcell⟩:=HV.o.Ac hk
   obtain⟨b,hb,-,y0,y1,-⟩:=hcell j c1 hc1
   have ha:a=some ⟨b,0,none⟩:=by injection e with h1;rw [h1];exact hb
   subst ha
   have HS:=sE (startOf_take (g:=g) hc1)
   have HM:=sE (List.mem_of_getElem? hc1)
   clear e hcell hb hc1
   by_cases h1:c1.g=g
   .have e1:((c1.g:Int)==(g:Int))=true:=by rw[h1];simp
    by_cases h2:c1.tag=1
    .have e2:((c1.tag:Int)==1)=true:=by rw[h2];rfl
     have HD:Sl (Ak cs g=true):=⟨by
      unfold Ak
      rw[List.any_eq_true]
      exact⟨c1,HM.o,by simp[h1,h2]⟩⟩
     clear h1 h2
     go_wp2
     go_ret
     exact⟨by rw[HD.o];rfl,hk⟩
    .have e2:((c1.tag:Int)==1)=false:=by rw[beq_eq_false_iff_ne];omega
     have HD:Sl (Ak (cs.take (j+1)) g=false):=⟨by rw[HS.o,HNo.o];simp [h2]⟩
     clear h1 h2
     go_wp2
     exact⟨⟨j+1,by go_num,by omega,HD,hk⟩,by simp only[intOf];omega⟩
   .have e1:((c1.g:Int)==(g:Int))=false:=by rw[beq_eq_false_iff_ne];omega
    have HD:Sl (Ak (cs.take (j+1)) g=false):=⟨by rw[HS.o,HNo.o];simp [h1]⟩
    clear h1
    go_wp2
    exact⟨⟨j+1,by go_num,by omega,HD,hk⟩,by simp only[intOf];omega⟩
  .have hjl':¬ (j:Int)<(n:Int):=by omega
   have HD:Sl (Ak cs g=false):=⟨by
    have:=HNo.o
    rwa [List.take_of_length_le (by rw[HN.o];omega)] at this⟩
   go_wp2
   go_ret
   exact⟨by rw[HD.o];rfl,hk⟩

theorem DTarget_at(w:World)(v:Value)(cs:List Cel)(y:Nat)(hv:Du w v cs)(hl:cs.length<=65536):
  Calls prog 63 #[v,.int .u64 y] w (RK (.int .i64 (tgt cs y)) w):=by
 have HV:=sE hv
 obtain⟨a,c,rfl,-⟩:=hv
 obtain⟨n,hn⟩:∃ n,cs.length=n:=⟨_,rfl⟩
 have HN:=sE hn
 rw[hn] at HV hl ⊢
 clear hn
 by_cases h:y<1048576\/1114112<=y
 .have HT:Sl (tgt cs y=-1):=⟨by unfold tgt;rw [if_neg (by omega)]⟩
  have HW:=sE (DWord_no y w h)
  clear h
  go_enter func63,ntmps63
  go_wp2_with fail
  refine HW.o.mono ?_
  rintro e w1 ⟨rfl,rfl⟩
  go_wp2
  go_ret
  exact⟨by rw[HT.o];rfl,Kr _ _⟩
 .obtain ⟨m,hm⟩:∃ m,y=1048576+m:=⟨y-1048576,by omega⟩
  have hm2:m<65536:=by omega
  have HW:=sE (DWord_yes y m w hm hm2)
  have hym:y-1048576=m:=by omega
  have HB:=sE (DBegins_at w (.slice a n c) cs (m/2) HV.o (by rw[HN.o];exact hl))
  by_cases h2:m%2=0
  .obtain ⟨t,ht⟩:∃ t,Ak cs (m/2)=t:=⟨_,rfl⟩
   have HT:Sl (tgt cs y=if t=true then ((m/2:Nat):Int) else -1):=⟨by
    unfold tgt
    rw[hym,ht]
    by_cases e:t=true
    .rw [if_pos e,if_pos ⟨by omega,by omega,h2,e⟩]
    .rw [if_neg e,if_neg (λ q=>e q.2.2.2)]⟩
   rw[ht] at HB
   obtain⟨q,hq,hq2⟩:∃ q:Nat,((m/2:Nat):Int)=(q:Int)/\m/2=q:=⟨m/2,rfl,rfl⟩
   rw[hq2] at HT HB
   have e1:((m:Int).tmod 2 !=0)=false:=by
    have:(m:Int).tmod 2=0:=by
     rw[Int.tmod_eq_emod_of_nonneg (by omega)]
     omega
    rw[this]
    rfl
   have e2:(m:Int).tdiv 2=(q:Int):=by rw[Int.tdiv_eq_ediv_of_nonneg (by omega)];omega
   have e3:(m:Int)/2=(q:Int):=by omega
   have e4:((m:Int)%2 !=0)=false:=by
    have:(m:Int)%2=0:=by omega
    rw[this]
    rfl
   have hq3:(q:Int)<=65536:=by omega
   have e5:IntKind.i64.wrap (q:Int)=(q:Int):=by rw[IntKind.wrap_i64];omega
   clear h hm hm2 hym h2 hq hq2 ht
   go_enter func63,ntmps63
   go_wp2_with fail
   refine HW.o.mono ?_
   rintro e w1 ⟨rfl,rfl⟩
   go_wp2_with fail
   refine HB.o.mono ?_
   rintro e w2 ⟨rfl,k2⟩
   cases t with
   |true=>
    rw[if_pos rfl] at HT
    go_wp2
    go_ret
    exact⟨by rw[HT.o];rfl,k2⟩
   |false=>
    rw[if_neg (by simp)] at HT
    go_wp2
    go_ret
    exact⟨by rw[HT.o];rfl,k2⟩
  .have HT:Sl (tgt cs y=-1):=⟨by unfold tgt;rw [hym,if_neg (λ q=>h2 q.2.2.1)]⟩
   have e1:((m:Int).tmod 2 !=0)=true:=by
    have:¬ (m:Int).tmod 2=0:=by
     rw[Int.tmod_eq_emod_of_nonneg (by omega)]
     omega
    simpa using this
   have e4:((m:Int)%2 !=0)=true:=by
    have:¬ (m:Int)%2=0:=by omega
    simpa using this
   clear h hm hm2 hym h2 HB
   go_enter func63,ntmps63
   go_wp2_with fail
   refine HW.o.mono ?_
   rintro e w1 ⟨rfl,rfl⟩
   go_wp2
   go_ret
   exact⟨by rw[HT.o];rfl,Kr _ _⟩

theorem DRefs_no(k wds:Int)(M:Nat)(n:Int)(w:World)(hM:M<18446744073709551616)(hE:¬ AU k wds M n=0):
  Calls prog 116 #[.agg #[.int .u8 k,.int .i64 wds,.int .u64 M],.int .i64 n] w λ e w'=>(∃ e',e=.returned (.tuple #[.slice none 0 0,.int .i64 e']))/\Kp Aa w w':=by
 obtain⟨w1,hw1⟩:∃ w1,w1=w.alloc (.cells #[.int .u8 k,.int .i64 wds,.int .u64 M] 106):=⟨_,rfl⟩
 have k1:Kp Aa w w1:=by rw[hw1];exact (Kr _ w).alloc _
 have b1:w1.heap[w.heap.size]?=some (.cells #[.int .u8 k,.int .i64 wds,.int .u64 M] 106 (0,0)):=by rw[hw1];exact wN w _
 have hS:=DSlots_any k wds M n w1 hM
 unfold DZ at hS
 obtain⟨E,hEE⟩:∃ E,AU k wds M n=E:=⟨_,rfl⟩
 rw[hEE] at hE hS
 rw[if_neg hE] at hS
 have HS:=sE hS
 have hne:(E !=0)=true:=by simpa using hE
 obtain⟨a0,a1,a2⟩:=cells3 b1
 clear hS b1 hEE hE
 go_enter func116,ntmps116
 go_wp2_with fail
 try rw[<- hw1]
 clear hw1
 go_wp2_with fail
 refine HS.o.mono ?_
 rintro e w2 ⟨rfl,k2⟩
 go_wp2
 go_ret2
 exact⟨⟨_,rfl⟩,k1.then' k2⟩

theorem kind_ofE{P:Sp}{W:Nat->Nat}{cs:List Cel}{c:Cel}{k wds:Int}{m:Nat}(h:CellsAt P W cs)(hc:c∈cs)(ht:c.tag=1)(hty:typeOf P.ts (c.ty:Nat)=some ⟨k,wds,m⟩):AU k wds m (c.ln:Nat)=0:=by
 obtain⟨e1,e2⟩:=(h.ok c hc).2 ht
 unfold AV at e1
 rw[hty] at e1
 exact e1

def DRefs10Post(ts:List TypR)(c:Cel)(w:World)(e:Ending)(w':World):Prop:=
 ∃ a n cap,e=.returned (.slice a n cap)/\(c.tag=1->n=(BQ ts c).length/\w'.ownsRow w.heap.size 3 1 (.slice a n cap) n (Az (BQ ts c)))/\Kp Aa w w'

theorem DRefs10_at(P:Sp)(W:Nat->Nat)(cs:List Cel)(lv:Value)(w:World)(hc:CellsAt P W cs)(hv:A8 w lv P.ts)(hl:P.ts.length<=17592186044416)(hM:Cw P.ts)(c:Cel)(hcm:c∈cs):
  Calls prog 62 #[lv,.agg #[c.g,.int .u8 c.tag,c.ty,c.ln,c.sz]] w (DRefs10Post P.ts c w):=by
 obtain⟨la,lc,rfl,-⟩:=id hv
 obtain⟨w1,hw1⟩:∃ w1,w1=w.alloc (.cells #[c.g,.int .u8 c.tag,c.ty,c.ln,c.sz] 113):=⟨_,rfl⟩
 have k1:Kp Aa w w1:=by rw[hw1];exact (Kr _ w).alloc _
 have b1:w1.heap[w.heap.size]?=some (.cells #[c.g,.int .u8 c.tag,c.ty,c.ln,c.sz] 113 (0,0)):=by rw[hw1];exact wN w _
 have HG:=sE (DGet_any _ (c.ty:Nat) P.ts w1 (hv.Ac k1) hl)
 have HB1:=sE b1
 obtain⟨-,-,a2,a3,-⟩:=cells5' b1
 cases hx:typeOf P.ts (c.ty:Nat) with
 |none=>
  rw[hx] at HG
  have HG2:Sl (Calls prog 115 #[.slice la P.ts.length lc,c.ty] w1 (RK (.tuple #[.agg #[.int .u8 0,(0:Int),.int .u64 0],(3:Int)]) w1)):=⟨HG.o⟩
  have HE:Sl (∀ W',Calls prog 116 #[.agg #[.int .u8 0,(0:Int),.int .u64 0],c.ln] W' λ e w'=>(∃ e',e=.returned (.tuple #[.slice none 0 0,.int .i64 e']))/\Kp Aa W' w'):=⟨λ W'=>DRefs_no 0 0 0 (c.ln:Nat) W' (by decide) (by simp[AU,Dc])⟩
  have HNo:Sl (¬ c.tag=1):=⟨λ h=>by
   have:=((hc.ok c hcm).2 h).1
   unfold AV at this
   rw[hx] at this
   simp at this⟩
  clear hc hv hl hM hx b1 hcm
  go_enter func62,ntmps62
  go_wp2_with fail
  try rw[<- hw1]
  clear hw1
  go_wp2_with fail
  refine HG2.o.mono ?_
  rintro e w2 ⟨rfl,k2⟩
  have HB2:=sE (k2.at_ HB1.o (λ h=>h))
  have HK2:Sl (Kp Aa w w2):=⟨k1.then' k2⟩
  clear a2 a3 k2
  obtain⟨wt,hwt⟩:∃ wt,wt=w2.alloc (.cells #[.int .u8 0,(0:Int),.int .u64 0] 106):=⟨_,rfl⟩
  have kt:Kp Aa w2 wt:=by rw[hwt];exact (Kr _ w2).alloc _
  have HBt:Sl (wt.heap[w2.heap.size]?=some (.cells #[.int .u8 0,(0:Int),.int .u64 0] 106 (0,0))):=⟨by rw[hwt];exact wN w2 _⟩
  obtain⟨-,-,-,a3,-⟩:=cells5' (kt.at_ HB2.o (λ h=>h))
  obtain⟨t0,t1,t2⟩:=cells3 HBt.o
  rw[hwt] at a3 t0 t1 t2
  clear hwt kt HBt HB2 wt
  go_wp2_with fail
  refine(HE.o _).mono ?_
  rintro e w3 ⟨⟨e',rfl⟩,k3⟩
  go_wp2
  go_ret
  exact⟨_,_,_,rfl,λ h=>absurd h HNo.o,HK2.o.then' (((Kr _ w2).alloc _).then' k3)⟩
 |some x=>
  obtain⟨k,wds,m⟩:=x
  rw[hx] at HG
  have HG2:Sl (Calls prog 115 #[.slice la P.ts.length lc,c.ty] w1 (RK (.tuple #[.agg #[.int .u8 k,.int .i64 wds,.int .u64 m],(0:Int)]) w1)):=⟨HG.o⟩
  have hm:m<18446744073709551616:=hM _ (typeOf_mem hx)
  have HE:Sl (∀ W',Calls prog 116 #[.agg #[.int .u8 k,.int .i64 wds,.int .u64 m],c.ln] W' λ e w'=>∃ a n cap e',e=.returned (.tuple #[.slice a n cap,.int .i64 e'])/\(c.tag=1->n=(BQ P.ts c).length/\w'.ownsRow W'.heap.size 3 1 (.slice a n cap) n (Az (BQ P.ts c)))/\Kp Aa W' w'):=⟨λ W'=>by
   have hrf:BQ P.ts c=BP k wds m (c.ln:Nat):=by unfold BQ;rw [hx]
   by_cases hE:AU k wds m (c.ln:Nat)=0
   .refine (DRefs_any k wds m (c.ln:Nat) W' hm hE).mono ?_
    rintro e w' ⟨v,rfl,ho,kk⟩
    obtain⟨va,vc,rfl⟩:=Aq ho
    rw[hrf]
    exact⟨_,_,_,_,rfl,λ _=>⟨rfl,ho⟩,kk⟩
   .refine (DRefs_no k wds m (c.ln:Nat) W' hm hE).mono ?_
    rintro e w' ⟨⟨e',rfl⟩,kk⟩
    exact⟨_,_,_,_,rfl,λ h=>absurd (kind_ofE hc hcm h hx) hE,kk⟩⟩
  clear hc hv hl hM hx b1 hcm HG hm
  go_enter func62,ntmps62
  go_wp2_with fail
  try rw[<- hw1]
  clear hw1
  go_wp2_with fail
  refine HG2.o.mono ?_
  rintro e w2 ⟨rfl,k2⟩
  have HB2:=sE (k2.at_ HB1.o (λ h=>h))
  have HK2:Sl (Kp Aa w w2):=⟨k1.then' k2⟩
  clear a2 a3 k2
  obtain⟨wt,hwt⟩:∃ wt,wt=w2.alloc (.cells #[.int .u8 k,.int .i64 wds,.int .u64 m] 106):=⟨_,rfl⟩
  have kt:Kp Aa w2 wt:=by rw[hwt];exact (Kr _ w2).alloc _
  have HBt:Sl (wt.heap[w2.heap.size]?=some (.cells #[.int .u8 k,.int .i64 wds,.int .u64 m] 106 (0,0))):=⟨by rw[hwt];exact wN w2 _⟩
  obtain⟨-,-,-,a3,-⟩:=cells5' (kt.at_ HB2.o (λ h=>h))
  obtain⟨t0,t1,t2⟩:=cells3 HBt.o
  rw[hwt] at a3 t0 t1 t2
  have hws:w.heap.size<=wt.heap.size:=(HK2.o.then' kt).size
  rw[hwt] at hws
  clear hwt kt HBt HB2 wt
  go_wp2_with fail
  refine(HE.o _).mono ?_
  rintro e w3 ⟨a,n,cap,e',rfl,ho,k3⟩
  have HO:=sE ho
  have HK3:=sE k3
  clear ho k3 t0 t1 t2 a3
  go_wp2
  go_ret
  exact⟨_,_,_,rfl,λ h=>⟨(HO.o h).1,BZ (HO.o h).2 hws⟩,HK2.o.then' (((Kr _ w2).alloc _).then' HK3.o)⟩

end

section
open Go.RowKit

def DI(ts:List TypR)(W:Nat->Nat)(c:Cel):List (Nat×Nat×Nat):=(BQ ts c).map λ s=>(c.g,s,W (2*c.g+1+s))

def edT(ts:List TypR)(W:Nat->Nat)(cs:List Cel)(j:Nat):List (Nat×Nat×Nat):=A9 cs (Bv ts W (Aj (cs.take j)))

theorem edgesP_app(cs:List Cel)(xs ys:List (Nat×Nat×Nat)):A9 cs (xs++ys)=A9 cs xs++A9 cs ys:=List.flatMap_append ..

theorem edT_step{ts:List TypR}{W:Nat->Nat}{cs:List Cel}{j:Nat}{c:Cel}(h:cs[j]?=some c):edT ts W cs (j+1)=edT ts W cs j++if c.tag=1 then A9 cs (DI ts W c) else []:=by
 unfold edT
 rw[objsOf_succ h]
 unfold Bv
 rw[List.flatMap_append,edgesP_app]
 congr 1
 by_cases e:c.tag=1
 .rw [if_pos e,if_pos e]
  simp[DI]
 .rw [if_neg e,if_neg e]
  rfl

theorem edT_le{ts:List TypR}{W:Nat->Nat}{cs:List Cel}(j:Nat):(edT ts W cs j).length<=(AP ts W cs).length:=by
 have h:AP ts W cs=edT ts W cs j++A9 cs (Bv ts W (Aj (cs.drop j))):=by
  unfold AP edT
  have e:Aj cs=Aj (cs.take j)++Aj (cs.drop j):=by rw[<- objsOf_append,List.take_append_drop]
  have e2:Bv ts W (Aj cs)=Bv ts W (Aj (cs.take j))++Bv ts W (Aj (cs.drop j)):=by
   rw[e]
   exact List.flatMap_append ..
  rw[e2,edgesP_app]
 rw[h,List.length_append]
 omega

theorem edK_step{ts:List TypR}{W:Nat->Nat}{cs:List Cel}{c:Cel}{k s:Nat}(h:(BQ ts c)[k]?=some s):A9 cs ((DI ts W c).take (k+1))=A9 cs ((DI ts W c).take k)++Eu cs (c.g,s,W (2*c.g+1+s)):=by
 have h1:(DI ts W c)[k]?=some (c.g,s,W (2*c.g+1+s)):=by
  unfold DI
  rw[List.getElem?_map,h]
  rfl
 rw[List.take_add_one,h1]
 exact edgesP_add ..

theorem edK_le{ts:List TypR}{W:Nat->Nat}{cs:List Cel}{c:Cel}(k:Nat):(A9 cs ((DI ts W c).take k)).length<=(A9 cs (DI ts W c)).length:=by
 have h:A9 cs (DI ts W c)=A9 cs ((DI ts W c).take k)++A9 cs ((DI ts W c).drop k):=by rw[<- edgesP_app,List.take_append_drop]
 rw[h,List.length_append]
 omega

set_option maxRecDepth 20000 in
theorem DEdges_at(P:Sp)(W:Nat->Nat)(cs:List Cel)(q cap:Nat)(lv:Value)(w:World)(hr:WRow w q P.n W)(hc:CellsAt P W cs)(hv:A8 w lv P.ts)(hl:P.ts.length<=17592186044416)(hM:Cw P.ts):
  Calls prog 18 #[.slice (some ⟨q,0,none⟩) P.n cap,lv] w λ e w'=>∃ v,e=.returned v/\w'.ownsRow w.heap.size 70 3 v (AP P.ts W cs).length (Bt (AP P.ts W cs))/\Kp Aa w w':=by
 obtain⟨la,lc,rfl,-⟩:=id hv
 have HCe:=sE (DCells10_at P W cs q cap _ w hr hc hv hl hM)
 have HRf:Sl (∀ W' c,Kp Aa w W'->c∈cs->_):=⟨λ W' c kk hcm=>DRefs10_at P W cs _ W' hc (hv.Ac kk) hl hM c hcm⟩
 have hsm:=hr.small
 have hlen:cs.length<=65536:=by
  have:=BG hc.tl
  omega
 have HSl:Sl (∀ c∈cs,c.tag=1->∀ s∈BQ P.ts c,2*c.g+1+s<P.n):=⟨λ c hcm ht s hs=>(refsC_in hc hcm ht hs).2.2⟩
 have HRl:Sl (∀ c∈cs,c.tag=1->(BQ P.ts c).length<=65536):=⟨λ c hcm ht=>refsC_len (hc.ok c hcm) ht⟩
 have HWr:=sE hr
 have HEl:Sl ((AP P.ts W cs).length<=2147483648):=⟨Nat.le_trans (Dv cs _) (hc.to.F8 hsm)⟩
 obtain⟨n,hn⟩:∃ n,cs.length=n:=⟨_,rfl⟩
 obtain⟨L,hL⟩:∃ L,P.ts.length=L:=⟨_,rfl⟩
 have HN:=sE hn
 rw[hn] at hlen
 rw[hL] at HCe HRf ⊢
 clear hr hc hv hl hM hL
 go_enter func18,ntmps18
 go_wp2_with fail
 refine HCe.o.mono ?_
 rintro e w1 ⟨v1,rfl,ho1,k1⟩
 obtain⟨ca,cc,rfl⟩:=Aq ho1
 have HCv:=sE (Du.Bc ho1)
 have HC1:=sE ho1
 have HK1:=sE k1
 rw[hn] at HCv HC1 ⊢
 obtain⟨B,hB⟩:∃ B,w1.heap.size=B:=⟨_,rfl⟩
 have HB:=sE hB
 have hBw:w.heap.size<=B:=by rw[<- hB];exact k1.size
 clear ho1 k1 HCe hn hB
 go_wp2_with fail
 go_loopw [7,8,9,10,11,12] (λ x7 x8 _ _ _ _ wr=>∃ i:Nat,x8=.int .i64 i/\i<=n/\wr.ownsRow B 70 3 x7 (edT P.ts W cs i).length (Bt (edT P.ts W cs i))/\Kp Aa w1 wr) (λ _ x8 _ _ _ _ _=>n-(intOf x8).toNat)
 case atStart=>exact ⟨0,rfl,Nat.zero_le _,World.ownsRow_nil _ _ _ _,Kr _ _⟩
 case round=>
  obtain⟨i,rfl,hi,hro,hk⟩:=hrel
  have HRo:=sE hro
  have HKi:=sE hk
  by_cases hil:i<n
  .have hil':(i:Int)<(n:Int):=by omega
   obtain⟨c,hci⟩:∃ x,cs[i]?=some x:=⟨cs[i]'(by rw[HN.o];exact hil),by simp⟩
   have hcm:=List.mem_of_getElem? hci
   obtain⟨a',c',e,hcell⟩:=HCv.o.Ac hk
   obtain⟨b,hb,-,y0,y1,y2,y3,y4⟩:=hcell i c hci
   have ha:ca=some ⟨b,0,none⟩:=by injection e with h1;rw [h1];exact hb
   subst ha
   have HSt:=sE (edT_step (ts:=P.ts) (W:=W) hci)
   have HCm:Sl (c∈cs):=⟨hcm⟩
   obtain⟨oa,oc,rfl⟩:=Aq hro
   clear e hcell hb hci hcm hro
   obtain⟨w2,hw2⟩:∃ w2,w2=wr.alloc (.cells #[c.g,.int .u8 c.tag,c.ty,c.ln,c.sz] 113):=⟨_,rfl⟩
   have k2:Kp Aa wr w2:=by rw[hw2];exact (Kr _ wr).alloc _
   have b2:w2.heap[wr.heap.size]?=some (.cells #[c.g,.int .u8 c.tag,c.ty,c.ln,c.sz] 113 (0,0)):=by rw[hw2];exact wN wr _
   have HB2:=sE b2
   have HK2:=sE k2
   obtain⟨z0,z1,z2,z3,z4⟩:=cells5' b2
   rw[hw2] at z0 z1 z2 z3 z4
   obtain⟨E0,hE0⟩:∃ E0,edT P.ts W cs i=E0:=⟨_,rfl⟩
   rw[hE0] at HRo HSt ⊢
   have hE0l:E0.length<=2147483648:=by rw[<- hE0];exact Nat.le_trans (edT_le i) HEl.o
   obtain⟨n0,hn0⟩:∃ n0,E0.length=n0:=⟨_,rfl⟩
   have HN0:=sE hn0
   rw[hn0] at HRo hE0l ⊢
   have HTot:Sl (c.tag=1->n0+(A9 cs (DI P.ts W c)).length<=2147483648):=⟨λ h=>by
    have h1:=edT_le (ts:=P.ts) (W:=W) (cs:=cs) (i+1)
    rw[HSt.o,if_pos h,List.length_append,hn0] at h1
    exact Nat.le_trans h1 HEl.o⟩
   have HE0:=sE hE0
   clear b2 k2 hk hE0 hn0
   go_wp2_with fail
   try rw[<- hw2]
   clear hw2 y0 y1 y2 y3 y4 z0 z1 z2 z3 z4
   refine(HRf.o w2 c (HK1.o.then' (HKi.o.then' HK2.o)) HCm.o).mono ?_
   rintro e w3 ⟨ra,rn,rc,rfl,hrr,k3⟩
   have HRr:=sE hrr
   have HKr3:Sl (Kp Aa wr w3):=⟨HK2.o.then' k3⟩
   have hw2s:wr.heap.size<w2.heap.size:=lZ HB2.o
   have hw3s:w2.heap.size<=w3.heap.size:=k3.size
   have HOb:Sl (∀ b,(Value.slice oa n0 oc).ownBlock=some b->B<=b/\b<wr.heap.size):=⟨λ b hb=>Ad HRo.o hb⟩
   have hBx:B<=wr.heap.size:=by rw[<- HB.o];exact HKi.o.size
   have HB3:=sE (k3.at_ HB2.o (λ h=>h))
   have HRo3:=sE (Af HRo.o HKr3.o (λ _ _ h=>h))
   obtain⟨xb,hxb⟩:∃ xb,wr.heap.size=xb:=⟨_,rfl⟩
   rw[hxb] at HB3 HOb hw2s hBx ⊢
   clear hrr k3 HB2 HK2 HRo hxb
   by_cases ht:c.tag=1
   case neg=>
    have e1:((c.tag:Int)==1)=false:=by rw[beq_eq_false_iff_ne];omega
    have HE1:Sl (edT P.ts W cs (i+1)=E0):=⟨by rw[HSt.o,if_neg ht,List.append_nil]⟩
    obtain⟨-,z1,-,-,-⟩:=cells5' HB3.o
    clear ht
    go_wp2_with fail
    go_loopw [7,11,12] (λ x7 x11 _ w4=>x7=.slice oa n0 oc/\x11=.int .i64 0/\w4=w3) (λ _ _ _ _=>0)
    case atStart=>exact ⟨rfl,rfl,rfl⟩
    case round=>
     obtain⟨rfl,rfl,rfl⟩:=hrel
     by_cases hrn:0<rn
     .have hrn':(0:Int)<(rn:Int):=by omega
      go_wp2
      refine⟨⟨i+1,by go_num,by omega,?_,HKi.o.then' HKr3.o⟩,by simp only[intOf];omega⟩
      rw[HE1.o,HN0.o]
      exact HRo3.o
     .have hrn':¬ (0:Int)<(rn:Int):=by omega
      go_wp2
      refine⟨⟨i+1,by go_num,by omega,?_,HKi.o.then' HKr3.o⟩,by simp only[intOf];omega⟩
      rw[HE1.o,HN0.o]
      exact HRo3.o
   case pos=>
    have HTag:Sl (c.tag=1):=⟨ht⟩
    obtain⟨hrn,hrow⟩:=HRr.o ht
    have HRw:=sE hrow
    have HRn:=sE hrn
    have hrnl:rn<=65536:=by rw[hrn];exact HRl.o c HCm.o ht
    have e1:((c.tag:Int)==1)=true:=by rw[ht];rfl
    have hB3:B<=w3.heap.size:=by rw[<- HB.o];exact (HKi.o.then' HKr3.o).size
    clear ht hrn hrow HRr
    go_wp2_with fail
    go_loopw [7,11,12] (λ x7 x11 _ w4=>∃ k:Nat,x11=.int .i64 (k:Nat)/\k<=rn/\w4.ownsRow B 70 3 x7 (E0++A9 cs ((DI P.ts W c).take k)).length (Bt (E0++A9 cs ((DI P.ts W c).take k)))/\(∀ b,x7.ownBlock=some b->b<xb\/w3.heap.size<=b)/\Kp (λ b=>(B<=b/\b<xb)\/w3.heap.size<=b) w3 w4) (λ _ x11 _ _=>rn-(intOf x11).toNat)
    case atStart=>
     refine⟨0,rfl,Nat.zero_le _,?_,λ b hb=>.inl ?_,Kr _ _⟩
     .rw [List.take_zero]
      show w3.ownsRow B _ 3 _ (E0++[]).length (Bt (E0++[]))
      rw[List.append_nil,HN0.o]
      exact HRo3.o
     .exact (HOb.o b hb).2
    case round=>
     obtain⟨k,rfl,hk,ho,hob,hkk⟩:=hrel
     obtain⟨w4,rfl⟩:∃ w4,w4=wr:=⟨_,rfl⟩
     obtain⟨ea,ec,rfl⟩:=Aq ho
     have HO4:=sE ho
     have HOb4:=sE hob
     have HK4:=sE hkk
     have hz4:=hkk.size
     by_cases hkl:k<rn
     .have hkl':(k:Int)<(rn:Int):=by omega
      obtain⟨s,hs⟩:∃ s,(BQ P.ts c)[k]?=some s:=⟨(BQ P.ts c)[k]'(by rw[<- HRn.o];exact hkl),by simp⟩
      have hsl:=HSl.o c HCm.o HTag.o s (List.mem_of_getElem? hs)
      obtain⟨rb,hrb,r0⟩:=Cu (Af HRw.o hkk (λ b hb h=>by have h1:=Ad HRw.o hb;omega)) hs
      subst hrb
      obtain⟨x0,xt,-,-,-⟩:=cells5' (hkk.at_ HB3.o (λ h=>by omega))
      have hwq:=HWr.o.lt
      have hwr4:WRow w4 q P.n W:=(HWr.o.Ac (HK1.o.then' (HKi.o.then' HKr3.o))).keep hkk (λ h=>by omega)
      have y0:=hwr4.at_ hsl
      have hyl:=hwr4.fits _ hsl
      have hRC:Du w4 (.slice (some ⟨b,0,none⟩) n cc) cs:=Du.Bc (by
       rw[HN.o]
       exact Af (Af HC1.o (HKi.o.then' HKr3.o) (λ _ _ h=>h)) hkk (λ b hb h=>by have h1:=Ad HC1.o hb;have h2:=HB.o;omega))
      have HTa:Sl (∀ W' y,Kp Aa w4 W'->Calls prog 63 #[.slice (some ⟨b,0,none⟩) n cc,.int .u64 (y:Nat)] W' (RK (.int .i64 (tgt cs y)) W')):=⟨λ W' y kk=>DTarget_at W' _ cs y (hRC.Ac kk) (by rw[HN.o];exact hlen)⟩
      have HSk:=sE (edK_step (W:=W) (cs:=cs) hs)
      obtain⟨y,hy⟩:∃ y,W (2*c.g+1+s)=y:=⟨_,rfl⟩
      rw[hy] at y0 hyl HSk
      obtain⟨g2,h1,q1⟩:∃ g2:Nat,(2:Int)*(c.g:Int)=(g2:Int)/\g2=2*c.g:=⟨2*c.g,by omega,rfl⟩
      obtain⟨g3,h2,q2⟩:∃ g3:Nat,(g2:Int)+1=(g3:Int)/\g3=g2+1:=⟨g2+1,by omega,rfl⟩
      obtain⟨g4,h3,q3⟩:∃ g4:Nat,(g3:Int)+(s:Int)=(g4:Int)/\g4=g3+s:=⟨g3+s,by omega,rfl⟩
      have q4:2*c.g+1+s=g4:=by omega
      rw[q4] at y0 hsl
      have u1:IntKind.i64.wrap (g2:Int)=(g2:Int):=by rw[IntKind.wrap_i64];omega
      have u2:IntKind.i64.wrap (g3:Int)=(g3:Int):=by rw[IntKind.wrap_i64];omega
      have u3:IntKind.i64.wrap (g4:Int)=(g4:Int):=by rw[IntKind.wrap_i64];omega
      have p1:(g4:Int)<(P.n:Int):=by omega
      obtain⟨R,hR⟩:∃ R,E0++A9 cs ((DI P.ts W c).take k)=R:=⟨_,rfl⟩
      have hRl:R.length<=2147483648:=by
       rw[<- hR,List.length_append,HN0.o]
       exact Nat.le_trans (Nat.add_le_add_left (edK_le k) _) (HTot.o HTag.o)
      have HSt2:Sl (E0++A9 cs ((DI P.ts W c).take (k+1))=R++Eu cs (c.g,s,y)):=⟨by rw[HSk.o,<- List.append_assoc,hR]⟩
      rw[hR] at HO4 HOb4 ⊢
      obtain⟨rl,hrl⟩:∃ rl,R.length=rl:=⟨_,rfl⟩
      have HRl2:=sE hrl
      rw[hrl] at HO4 HOb4 hRl ⊢
      have kd:Kp Aa w4 w4.drew:=(Kr _ _).drew
      clear q1 q2 q3 q4 hs hwr4 hRC hy hR hrl ho hob hkk HSk
      go_wp2_with fail
      refine wp_region_held_drew (S:=λ w'=>w'.cell? ⟨xb,0,none⟩=some (.int .i64 c.g)/\w'.cell? ⟨rb,k,none⟩=some (.int .i64 (s:Nat))/\w'.cell? ⟨q,g4,none⟩=some (.int .u64 (y:Nat))) (by kernel_rfl) ?_ (λ qZ=>?_)
      .exact ⟨x0,r0,y0⟩
      refine Ap 0 ?_;refine Ap 1 ?_;refine Ap 2 ?_;refine Ap 3 ?_;refine Ap 4 ?_
      try simp only[AB]
      refine Ap 5 ?_;refine Ap 6 ?_;refine Ap 7 ?_;refine Ap 8 ?_;refine Ap 9 ?_
      try simp only[AB]
      refine Ap 10 ?_;refine Ap 11 ?_;refine Ap 12 ?_
      try simp only[AB]
      refine Bp [13] ?_
      refine Ag rfl (λ K hK=>?_)
      go_simp
      go_at_call 63
      (with_reducible refine(HTa.o _ y kd).mono ?_)
      rintro e w5 ⟨rfl,k5⟩
      have k45:Kp Aa w4 w5:=kd.then' k5
      refine hK _ _ ?_ (λ qZ=>?_)
      .exact ⟨Ae k45 x0,Ae k45 r0,Ae k45 y0⟩
      clear hK K
      try simp only[AB]
      refine Ap 14 ?_
      try simp only[AB]
      refine wpAnyH_done (by kernel_rfl) ?_ _
      have HK45:=sE k45
      replace x0:=Ae k45 x0
      replace r0:=Ae k45 r0
      have HO5:=sE (Af HO4.o k45 (λ _ _ h=>h))
      have HK35:Sl (Kp (λ b=>(B<=b/\b<xb)\/w3.heap.size<=b) w3 w5):=⟨HK4.o.trans k45 (λ _ _ h=>h.elim)⟩
      obtain⟨t,ht⟩:∃ t,tgt cs y=t:=⟨_,rfl⟩
      rw[ht]
      by_cases ht0:0<=t
      .obtain ⟨tn,rfl⟩:=Int.eq_ofNat_of_zero_le ht0
       have HSt3:Sl (E0++A9 cs ((DI P.ts W c).take (k+1))=R++[(c.g,s,tn)]):=⟨by
        rw[HSt2.o]
        unfold Eu
        dsimp only
        rw[ht,if_pos (by omega),Int.toNat_natCast]⟩
       clear qZ k5 k45 kd ht0 ht y0 h1 h2 h3 u1 u2 u3 p1
       have hz5:=HK35.o.size
       have kd:Kp Aa w5 w5.drew:=(Kr _ _).drew
       go_wp2_with fail
       refine wp_region_held_drew (S:=λ w'=>w'.cell? ⟨xb,0,none⟩=some (.int .i64 c.g)/\w'.cell? ⟨rb,k,none⟩=some (.int .i64 (s:Nat))) (by kernel_rfl) ?_ (λ qZ=>?_)
       .exact ⟨x0,r0⟩
       refine Ap 0 ?_;refine Ap 1 ?_;refine Ap 2 ?_;refine Ap 3 ?_;refine Ap 4 ?_
       try simp only[AB]
       refine Ap 5 ?_;refine Ap 6 ?_;refine Ap 7 ?_;refine Ap 8 ?_
       try simp only[AB]
       refine Bp [9] ?_
       refine Ag rfl (λ K hK=>?_)
       go_simp
       obtain⟨w6,hw6⟩:∃ w6,w6=(w5.alloc (.cells #[c.g,.int .i64 (s:Nat),tn] 70)).drew:=⟨_,rfl⟩
       have k6:Kp Aa w5 w6:=by rw[hw6];exact ((Kr _ w5).alloc _).drew
       have bn:w6.heap[w5.heap.size]?=some (.cells #[c.g,.int .i64 (s:Nat),tn] 70 (0,0)):=by rw[hw6];exact wN w5 _
       have hz6:w6.heap.size=w5.heap.size+1:=by rw[hw6];simp
       have HZ6:=sE hz6
       rw[<- hw6]
       clear hw6
       have HO6:=sE (Af HO5.o k6 (λ _ _ h=>h))
       refine hK _ _ ?_ (λ qZ=>?_)
       .exact ⟨Ae k6 x0,Ae k6 r0⟩
       clear hK K
       try simp only[AB]
       obtain⟨i0,hi0,hz0,hz1,hz2⟩:=info_parts Gu
       refine Bp [10] ?_
       refine Ag rfl (λ K hK=>?_)
       refine CP rfl rfl (.tmp 60) (.tmp 69) 47 rfl B 70 i0 _ 3 24 EB hi0 hz0 hz1 hz2 rfl (by omega) (.slice ea rl ec) rl (Bt R) rfl HO6.o ⟨w5.heap.size,0,none⟩ 1 _ [c.g,.int .i64 (s:Nat),tn] rfl rfl (World.news_of_block bn) (by intro u hu;simp at hu;rcases hu with rfl|rfl|rfl <;> rfl) (by unfold maxLen;omega) (by omega) (by omega) ?_
       intro nv w7 hown7 hgrow hblk
       clear hi0 hz0 hz1 hz2
       have K7:Kp (λ b=>(Value.slice ea rl ec).ownBlock=some b) w6 w7:=(Kr _ w6).grown hgrow (λ k e _=>e)
       have hnb:∀ b,(Value.slice ea rl ec).ownBlock=some b->(B<=b/\b<xb)\/w3.heap.size<=b:=λ b hb=>by
        have h1:=HOb4.o b hb
        have h2:=(Ad HO4.o hb).1
        rcases h1 with h1|h1
        .exact .inl ⟨h2,h1⟩
        .exact .inr h1
       have HK37:Sl (Kp (λ b=>(B<=b/\b<xb)\/w3.heap.size<=b) w3 w7):=⟨(HK35.o.trans k6 (λ _ _ h=>h.elim)).trans K7 (λ b hb h=>hnb b h)⟩
       have HO7:Sl (w7.ownsRow B 70 3 nv (R++[(c.g,s,tn)]).length (Bt (R++[(c.g,s,tn)]))):=⟨by
        rw[ER,List.length_append,HRl2.o]
        exact hown7⟩
       have HOb7:Sl (∀ b,nv.ownBlock=some b->b<xb\/w3.heap.size<=b):=⟨λ b hb=>by
        rcases hblk with h|h
        .rw [h] at hb
         exact HOb4.o b hb
        .rw [h] at hb
         injection hb with hb
         have:=HZ6.o
         exact .inr (by omega)⟩
       have hxx:¬ (Value.slice ea rl ec).ownBlock=some xb:=λ h=>by have:=HOb4.o xb h;omega
       have hrr:¬ (Value.slice ea rl ec).ownBlock=some rb:=λ h=>by
        have h1:=HOb4.o rb h
        have h2:=Ad HRw.o (b:=rb) rfl
        omega
       obtain⟨na,nc,rfl⟩:=Aq HO7.o
       refine hK _ _ ?_ (λ qZ=>?_)
       .exact ⟨K7.cell (Ae k6 x0) hxx,K7.cell (Ae k6 r0) hrr⟩
       clear hK K
       try simp only[AB]
       refine Ap 11 ?_
       try simp only[AB]
       refine wpAnyH_done (by kernel_rfl) ?_ _
       clear qZ hown7 hgrow hblk K7 k6 bn kd hxx hrr hnb x0 r0 hz6
       go_wp2
       refine⟨⟨k+1,by go_num,by omega,?_,?_,HK37.o⟩,by simp only[intOf];omega⟩
       .have h:=HO7.o
        rw[HSt3.o]
        rw[List.length_append,List.length_singleton] at h ⊢
        exact h
       .have h:=HOb7.o
        rw[List.length_append,List.length_singleton] at h
        exact h
      .have HSt3:Sl (E0++A9 cs ((DI P.ts W c).take (k+1))=R):=⟨by
        rw[HSt2.o]
        unfold Eu
        dsimp only
        rw[ht,if_neg ht0,List.append_nil]⟩
       clear qZ k5 k45 kd ht y0 h1 h2 h3 u1 u2 u3 p1 x0 r0
       go_wp2
       refine⟨⟨k+1,by go_num,by omega,?_,HOb4.o,HK35.o⟩,by simp only[intOf];omega⟩
       rw[HSt3.o,HRl2.o]
       exact HO5.o
     .have hkl':¬ (k:Int)<(rn:Int):=by omega
      obtain rfl:k=rn:=by omega
      have hlast:E0++A9 cs ((DI P.ts W c).take k)=edT P.ts W cs (i+1):=by
       rw[HSt.o,if_pos HTag.o,List.take_of_length_le (by unfold DI;rw [List.length_map,HRn.o];exact Nat.le_refl _)]
      have HLa:=sE hlast
      have HK14:Sl (Kp Aa w1 w4):=⟨(HKi.o.then' HKr3.o).trans hkk (λ b hb h=>by have:=HB.o;omega)⟩
      clear hlast
      go_wp2
      refine⟨⟨i+1,by go_num,by omega,?_,HK14.o⟩,by simp only[intOf];omega⟩
      rw[<- HLa.o]
      exact HO4.o
  .have hil':¬ (i:Int)<(n:Int):=by omega
   obtain rfl:i=n:=by omega
   have hfin:edT P.ts W cs i=AP P.ts W cs:=by
    unfold edT AP
    rw[List.take_of_length_le (by rw[HN.o];exact Nat.le_refl _)]
   rw[hfin] at hro
   go_wp2
   go_ret
   exact⟨_,rfl,BZ hro hBw,HK1.o.then' hk⟩

end

section
open Go.RowKit

theorem nats_take{w:World}{a:Option Addr}{n c:Nat}{l:List Nat}(h:AO w (.slice a n c) l){k:Nat}(hk:k<=n):AO w (.slice a k c) (l.take k):=by
 obtain⟨a',c',e,hx⟩:=h
 injection e with e1 e2 e3
 subst e1 e3
 refine⟨a,c,by rw[List.length_take,Nat.min_eq_left (by omega)],λ i x hi=>?_⟩
 have h1:=(gE.1 hi).1
 rw[List.length_take] at h1
 rw[List.getElem?_take_of_lt (by omega)] at hi
 exact hx i x hi

theorem nats_drop{w:World}{b o n c:Nat}{l:List Nat}(h:AO w (.slice (some ⟨b,o,none⟩) n c) l){k:Nat}(hk:k<=n)(hc:n<=c):AO w (.slice (if c=k then some ⟨b,o,none⟩ else some ⟨b,o+k,none⟩) (n-k) (c-k)) (l.drop k):=by
 obtain⟨a',c',e,hx⟩:=h
 injection e with e1 e2 e3
 subst e1 e3
 refine⟨_,c-k,by rw[List.length_drop];congr 1;omega,λ i x hi=>?_⟩
 rw[List.getElem?_drop] at hi
 have h1:=(gE.1 hi).1
 obtain⟨b',o',q,hc'⟩:=hx _ x hi
 injection q with q
 injection q with q1 q2
 subst q1 q2
 refine⟨b,o+k,by rw[if_neg (by omega)],?_⟩
 rw[Nat.add_assoc]
 exact hc'

theorem nats_lit(w:World)(k:Nat)(T:TypeId):AO (w.alloc (.cells #[k] T)) (.slice (some ⟨w.heap.size,0,none⟩) 1 1) [k]:=⟨_,_,rfl,λ i x hi=>⟨w.heap.size,0,rfl,by
 have h1:i=0:=by
  have:=(gE.1 hi).1
  simp at this
  omega
 subst h1
 have:x=k:=by simpa using hi.symm
 subst this
 simp only[World.cell?,wN w _]
 rfl⟩⟩

def RowForm(v:Value):Prop:=v=.slice none 0 0\/∃ b o n c,v=.slice (some ⟨b,o,none⟩) n c/\n<=c

theorem owns_form{w:World}{base:Nat}{e:TypeId}{v:Value}{n:Nat}{xs:List Value}(h:w.ownsRow base e 1 v n xs):RowForm v:=by
 rcases h.2 with ⟨h,h0⟩|⟨g,cap,cur,h,g2,g3,g4,g5,g6,g7⟩
 .exact .inl h
 .exact .inr ⟨g,0,n,cap,h,by omega⟩

def PutNPost(l:List Nat)(x:Nat)(w:World)(e:Ending)(w':World):Prop:=
 ∃ (v':Value) (m:List Nat),e=.returned v'/\AO w' v' m/\m.Pairwise (· <·)/\(∀ z,z∈m ↔ z∈l\/z=x)/\RowForm v'/\Kp Aa w w'

theorem put_sorted{l:List Nat}{x i:Nat}(hs:l.Pairwise (· <·))(h1:∀ t y,t<i->l[t]?=some y->y<x)(h2:∀ y,l[i]?=some y->x<y):(l.take i++x::l.drop i).Pairwise (· <·):=by
 have hge:∀ y∈l.drop i,x<y:=λ y hy=>by
  obtain⟨t,e⟩:=List.mem_iff_getElem?.1 hy
  rw[List.getElem?_drop] at e
  have hti:=(gE.1 e).1
  obtain⟨z,hz⟩:∃ z,l[i]?=some z:=⟨_,List.getElem?_eq_getElem (by omega)⟩
  have hxz:=h2 z hz
  by_cases ht:t=0
  .subst ht
   rw[Nat.add_zero,hz] at e
   injection e with e
   omega
  .have:=List.pairwise_iff_getElem.1 hs i (i+t) (by omega) hti (by omega)
   have e1:=(gE.1 hz).2
   have e2:=(gE.1 e).2
   omega
 have hlt:∀ y∈l.take i,y<x:=λ y hy=>by
  obtain⟨t,e⟩:=List.mem_iff_getElem?.1 hy
  have ht:=(gE.1 e).1
  rw[List.length_take] at ht
  rw[List.getElem?_take_of_lt (by omega)] at e
  exact h1 t y (by omega) e
 refine List.pairwise_append.2 ⟨hs.sublist (List.take_sublist _ _),List.Pairwise.cons hge (hs.sublist (List.drop_sublist _ _)),λ a ha b hb=>?_⟩
 rcases List.mem_cons.1 hb with rfl|hb
 .exact hlt a ha
 .have:=hlt a ha
  have:=hge b hb
  omega

theorem nats_none(w:World)(a:Option Addr)(c:Nat):AO w (.slice a 0 c) []:=⟨a,c,rfl,λ i x h=>by simp at h⟩

theorem put_mem{l:List Nat}{i x:Nat}(z:Nat):z∈(l.take i++[x])++l.drop i ↔ z∈l\/z=x:=by
 have h:z∈l ↔ z∈l.take i\/z∈l.drop i:=by rw[<- List.mem_append,List.take_append_drop]
 rw[List.mem_append,List.mem_append,List.mem_singleton,h]
 constructor
 .rintro ((h|h)|h)
  .exact .inl (.inl h)
  .exact .inr h
  .exact .inl (.inr h)
 .rintro ((h|h)|h)
  .exact .inl (.inl h)
  .exact .inr h
  .exact .inl (.inr h)

set_option maxRecDepth 20000 in
theorem DPut18_at(w:World)(v:Value)(l:List Nat)(x:Nat)(hv:AO w v l)(hvc:RowForm v)(hs:l.Pairwise (· <·))(hl:l.length<=65536):
  Calls prog 68 #[v,x] w (PutNPost l x w):=by
 have HV:=sE hv
 obtain⟨a,c,rfl,-⟩:=hv
 have hcap:l.length<=c:=by
  rcases hvc with e|⟨b,o,n',c',e,hc⟩ <;> injection e with _ e1 e2 <;> omega
 replace hvc:(a=none/\c=0/\l.length=0)\/∃ b o,a=some ⟨b,o,none⟩:=by
  rcases hvc with e|⟨b,o,n',c',e,hc⟩ <;> injection e with e0 e1 e2
  .exact .inl ⟨e0,e2,e1⟩
  .exact .inr ⟨b,o,e0⟩
 obtain⟨n,hn⟩:∃ n,l.length=n:=⟨_,rfl⟩
 have HN:=sE hn
 have HS:=sE hs
 rw[hn] at HV hl hcap hvc ⊢
 clear hn hs
 go_enter func68,ntmps68
 go_wp2_with fail
 go_loopw [5] (λ x5 wr=>∃ i:Nat,x5=.int .i64 i/\i<=n/\Sl (∀ t y,t<i->l[t]?=some y->y<x)/\wr=w) (λ x5 _=>n-(intOf x5).toNat)
 case atStart=>exact ⟨0,rfl,Nat.zero_le _,⟨λ t y h=>by omega⟩,rfl⟩
 case round=>
  obtain⟨i,rfl,hi,HLt,rfl⟩:=hrel
  by_cases hil:i<n
  .have hil':(i:Int)<(n:Int):=by omega
   obtain⟨y,hy⟩:∃ y,l[i]?=some y:=⟨l[i]'(by rw[HN.o];exact hil),by simp⟩
   obtain⟨a',c',e,hcell⟩:=HV.o
   obtain⟨b,o,hb,y0⟩:=hcell i y hy
   have ha:a=some ⟨b,o,none⟩:=by injection e with h1;rw [h1];exact hb
   subst ha
   clear hvc
   have HY:=sE hy
   clear e hcell hb hy
   by_cases hyx:y<x
   .have hyx':(y:Int)<(x:Int):=by omega
    have HL2:Sl (∀ t y,t<i+1->l[t]?=some y->y<x):=⟨λ t z ht hz=>by
     by_cases e:t=i
     .subst e
      rw[HY.o] at hz
      injection hz with hz
      omega
     .exact HLt.o t z (by omega) hz⟩
    go_wp2
    exact⟨⟨i+1,by go_num,by omega,HL2,trivial⟩,by simp only[intOf];omega⟩
   .have hyx':¬ (y:Int)<(x:Int):=by omega
    by_cases heq:y=x
    .have e1:((y:Int)==(x:Int))=true:=by rw[heq];simp
     have HM:Sl (x∈l):=⟨by rw[<- heq];exact List.mem_of_getElem? HY.o⟩
     clear heq
     go_wp2
     go_ret
     exact⟨_,l,rfl,HV.o,HS.o,λ z=>⟨.inl,λ h=>h.elim id λ h=>h▸HM.o⟩,.inr ⟨b,o,n,c,rfl,hcap⟩,Kr _ _⟩
    .have e1:((y:Int)==(x:Int))=false:=by rw[beq_eq_false_iff_ne];omega
     have HP:Sl ((l.take i++x::l.drop i).Pairwise (· <·)):=⟨put_sorted HS.o HLt.o (λ z hz=>by
      rw[HY.o] at hz
      injection hz with hz
      omega)⟩
     have hic:(i:Int)<=(c:Int):=by omega
     have hin:(i:Int)<=(n:Int):=by omega
     clear heq
     have hTL:Sl ((l.take i).length=i):=⟨by rw[List.length_take,HN.o];omega⟩
     obtain⟨d,hd⟩:∃ d,(l.drop i).length=d:=⟨_,rfl⟩
     have hDL:Sl ((l.drop i).length=d):=⟨hd⟩
     have hdn:d<=65536:=by rw[List.length_drop,HN.o] at hd;omega
     clear hd
     have hNT:Sl (AO wr (.slice (some ⟨b,o,none⟩) i c) (l.take i)):=⟨nats_take HV.o (by omega)⟩
     have hND:Sl (AO wr (.slice (some ⟨b,o+i,none⟩) (n-i) (c-i)) (l.drop i)):=⟨by
      have:=nats_drop HV.o (k:=i) (by omega) hcap
      rw[if_neg (by omega)] at this
      exact this⟩
     go_wp2_with (first|(at_builtin;obtain ⟨i0,hi,hz0,hz1,hz2⟩:=info_parts Be;refine AY _ rfl (.const (.slice none 0 0)) (.tmp 36) 24 rfl 3 i0 Ar hi hz0 hz1 hz2 wr.heap.size (.slice none 0 0) 0 [] rfl (World.ownsRow_nil _ _ _ _) (.slice (some ⟨b,o,none⟩) i c) (l.take i) rfl hNT.o (by rw[hTL.o];omega) (Nat.le_refl _) ?_;intro v1 w1 hown1 hgrow1;rw [Nat.zero_add,List.nil_append,hTL.o] at hown1;obtain ⟨a1,c1,rfl⟩:=Aq hown1;have HO1:=sE hown1;have K1:Sl (Kp Aa wr w1):=⟨(Kr Aa wr).grown hgrow1 (λ k e _=>by cases e)⟩;clear hown1 hgrow1;clear hi hz0 hz1 hz2)|(at_builtin;obtain ⟨i0,hi,hz0,hz1,hz2⟩:=info_parts Be;refine AY _ rfl (.tmp 38) (.tmp 40) 24 rfl 3 i0 Ar hi hz0 hz1 hz2 wr.heap.size (.slice a1 i c1) i (l.take i) rfl (Af HO1.o ((Kr Aa w1).alloc _) (λ _ _ h=>h)) (.slice (some ⟨w1.heap.size,0,none⟩) 1 1) [x] rfl (nats_lit w1 x _) (by simp only[List.length_singleton];omega) (Nat.le_trans K1.o.size ((Kr Aa w1).alloc _).size) ?_;intro v2 w2 hown2 hgrow2;rw [List.length_singleton] at hown2;obtain ⟨a2,c2,rfl⟩:=Aq hown2;have K2:Sl (Kp Aa wr w2):=⟨(K1.o.then' ((Kr Aa w1).alloc _)).grown hgrow2 (λ k e hk=>by have:=(Ad HO1.o e).1;omega)⟩;have HO2:=sE hown2;have HD2:=sE (hND.o.Ac K2.o);clear hown2 hgrow2;clear hi hz0 hz1 hz2)|(at_builtin;obtain ⟨i0,hi,hz0,hz1,hz2⟩:=info_parts Be;refine AY _ rfl (.tmp 42) (.tmp 45) 24 rfl 3 i0 Ar hi hz0 hz1 hz2 wr.heap.size (.slice a2 (i+1) c2) (i+1) (l.take i++[x]) rfl HO2.o (.slice (some ⟨b,o+i,none⟩) (n-i) (c-i)) (l.drop i) rfl HD2.o (by rw[hDL.o];omega) K2.o.size ?_;intro v3 w3 hown3 hgrow3;rw [hDL.o] at hown3;have K3:Sl (Kp Aa wr w3):=⟨K2.o.grown hgrow3 (λ k e hk=>by have:=(Ad HO2.o e).1;omega)⟩;obtain ⟨a3,c3,rfl⟩:=Aq hown3;have HO3:=sE hown3;clear hown3 hgrow3;clear hi hz0 hz1 hz2))
     all_goals (go_ret;exact ⟨_,(l.take i++[x])++l.drop i,rfl,AO.Bc HO3.o,by rw[List.append_assoc];exact HP.o,λ z=>put_mem z,owns_form HO3.o,K3.o⟩)
  .have hil':¬ (i:Int)<(n:Int):=by omega
   have hin:i=n:=by omega
   have hic:(i:Int)<=(c:Int):=by omega
   have hin':(i:Int)<=(n:Int):=by omega
   have hlen:l.length=i:=by rw[hin];exact HN.o
   have HP:Sl ((l.take i++x::l.drop i).Pairwise (· <·)):=⟨put_sorted HS.o HLt.o (λ z hz=>by
    rw[List.getElem?_eq_none (by omega)] at hz
    cases hz)⟩
   have hTL:Sl ((l.take i).length=i):=⟨by rw[List.length_take,hlen];omega⟩
   have hD:l.drop i=[]:=List.drop_eq_nil_of_le (by omega)
   have hND:Sl (∀ a c,AO wr (.slice a 0 c) (l.drop i)):=⟨λ a c=>by rw[hD];exact nats_none wr a c⟩
   obtain⟨d,hd⟩:∃ d,(l.drop i).length=d:=⟨_,rfl⟩
   have hDL:Sl ((l.drop i).length=d):=⟨hd⟩
   have hdn:d<=65536:=by rw[List.length_drop,HN.o] at hd;omega
   clear hd
   clear hD hlen
   subst hin
   rcases hvc with ⟨rfl,rfl,rfl⟩|⟨b,o,rfl⟩
   .have hT:l.take 0=[]:=rfl
    have hNT:Sl (∀ a c,AO wr (.slice a 0 c) (l.take 0)):=⟨λ a c=>by rw[hT];exact nats_none wr a c⟩
    clear hT
    go_wp2_with (first|(at_builtin;obtain ⟨i0,hi,hz0,hz1,hz2⟩:=info_parts Be;refine AY _ rfl (.const (.slice none 0 0)) (.tmp 36) 24 rfl 3 i0 Ar hi hz0 hz1 hz2 wr.heap.size (.slice none 0 0) 0 [] rfl (World.ownsRow_nil _ _ _ _) _ (l.take 0) rfl (hNT.o _ _) (by rw[hTL.o];omega) (Nat.le_refl _) ?_;intro v1 w1 hown1 hgrow1;rw [Nat.zero_add,List.nil_append,hTL.o] at hown1;obtain ⟨a1,c1,rfl⟩:=Aq hown1;have HO1:=sE hown1;have K1:Sl (Kp Aa wr w1):=⟨(Kr Aa wr).grown hgrow1 (λ k e _=>by cases e)⟩;clear hown1 hgrow1;clear hi hz0 hz1 hz2)|(at_builtin;obtain ⟨i0,hi,hz0,hz1,hz2⟩:=info_parts Be;refine AY _ rfl (.tmp 38) (.tmp 40) 24 rfl 3 i0 Ar hi hz0 hz1 hz2 wr.heap.size (.slice a1 0 c1) 0 (l.take 0) rfl (Af HO1.o ((Kr Aa w1).alloc _) (λ _ _ h=>h)) (.slice (some ⟨w1.heap.size,0,none⟩) 1 1) [x] rfl (nats_lit w1 x _) (by simp only[List.length_singleton];omega) (Nat.le_trans K1.o.size ((Kr Aa w1).alloc _).size) ?_;intro v2 w2 hown2 hgrow2;rw [List.length_singleton] at hown2;obtain ⟨a2,c2,rfl⟩:=Aq hown2;have K2:Sl (Kp Aa wr w2):=⟨(K1.o.then' ((Kr Aa w1).alloc _)).grown hgrow2 (λ k e hk=>by have:=(Ad HO1.o e).1;omega)⟩;have HO2:=sE hown2;have HD2:=sE (λ a c=>(hND.o a c).Ac K2.o);clear hown2 hgrow2;clear hi hz0 hz1 hz2)|(at_builtin;obtain ⟨i0,hi,hz0,hz1,hz2⟩:=info_parts Be;refine AY _ rfl (.tmp 42) (.tmp 45) 24 rfl 3 i0 Ar hi hz0 hz1 hz2 wr.heap.size (.slice a2 (0+1) c2) (0+1) (l.take 0++[x]) rfl HO2.o _ (l.drop 0) rfl (HD2.o _ _) (by rw[hDL.o];omega) K2.o.size ?_;intro v3 w3 hown3 hgrow3;rw [hDL.o] at hown3;have K3:Sl (Kp Aa wr w3):=⟨K2.o.grown hgrow3 (λ k e hk=>by have:=(Ad HO2.o e).1;omega)⟩;obtain ⟨a3,c3,rfl⟩:=Aq hown3;have HO3:=sE hown3;clear hown3 hgrow3;clear hi hz0 hz1 hz2))
    all_goals (go_ret;exact ⟨_,(l.take 0++[x])++l.drop 0,rfl,AO.Bc HO3.o,by rw[List.append_assoc];exact HP.o,λ z=>put_mem z,owns_form HO3.o,K3.o⟩)
   .have hNT:Sl (AO wr (.slice (some ⟨b,o,none⟩) i c) (l.take i)):=⟨nats_take HV.o (Nat.le_refl _)⟩
    go_wp2_with (first|(at_builtin;obtain ⟨i0,hi,hz0,hz1,hz2⟩:=info_parts Be;refine AY _ rfl (.const (.slice none 0 0)) (.tmp 36) 24 rfl 3 i0 Ar hi hz0 hz1 hz2 wr.heap.size (.slice none 0 0) 0 [] rfl (World.ownsRow_nil _ _ _ _) _ (l.take i) rfl hNT.o (by rw[hTL.o];omega) (Nat.le_refl _) ?_;intro v1 w1 hown1 hgrow1;rw [Nat.zero_add,List.nil_append,hTL.o] at hown1;obtain ⟨a1,c1,rfl⟩:=Aq hown1;have HO1:=sE hown1;have K1:Sl (Kp Aa wr w1):=⟨(Kr Aa wr).grown hgrow1 (λ k e _=>by cases e)⟩;clear hown1 hgrow1;clear hi hz0 hz1 hz2)|(at_builtin;obtain ⟨i0,hi,hz0,hz1,hz2⟩:=info_parts Be;refine AY _ rfl (.tmp 38) (.tmp 40) 24 rfl 3 i0 Ar hi hz0 hz1 hz2 wr.heap.size (.slice a1 i c1) i (l.take i) rfl (Af HO1.o ((Kr Aa w1).alloc _) (λ _ _ h=>h)) (.slice (some ⟨w1.heap.size,0,none⟩) 1 1) [x] rfl (nats_lit w1 x _) (by simp only[List.length_singleton];omega) (Nat.le_trans K1.o.size ((Kr Aa w1).alloc _).size) ?_;intro v2 w2 hown2 hgrow2;rw [List.length_singleton] at hown2;obtain ⟨a2,c2,rfl⟩:=Aq hown2;have K2:Sl (Kp Aa wr w2):=⟨(K1.o.then' ((Kr Aa w1).alloc _)).grown hgrow2 (λ k e hk=>by have:=(Ad HO1.o e).1;omega)⟩;have HO2:=sE hown2;have HD2:=sE (λ a c=>(hND.o a c).Ac K2.o);clear hown2 hgrow2;clear hi hz0 hz1 hz2)|(at_builtin;obtain ⟨i0,hi,hz0,hz1,hz2⟩:=info_parts Be;refine AY _ rfl (.tmp 42) (.tmp 45) 24 rfl 3 i0 Ar hi hz0 hz1 hz2 wr.heap.size (.slice a2 (i+1) c2) (i+1) (l.take i++[x]) rfl HO2.o _ (l.drop i) rfl (HD2.o _ _) (by rw[hDL.o];omega) K2.o.size ?_;intro v3 w3 hown3 hgrow3;rw [hDL.o] at hown3;have K3:Sl (Kp Aa wr w3):=⟨K2.o.grown hgrow3 (λ k e hk=>by have:=(Ad HO2.o e).1;omega)⟩;obtain ⟨a3,c3,rfl⟩:=Aq hown3;have HO3:=sE hown3;clear hown3 hgrow3;clear hi hz0 hz1 hz2))
    all_goals (go_ret;exact ⟨_,(l.take i++[x])++l.drop i,rfl,AO.Bc HO3.o,by rw[List.append_assoc];exact HP.o,λ z=>put_mem z,owns_form HO3.o,K3.o⟩)

end

section
open Go.RowKit

theorem sorted_len{K:Nat}:∀ {m:List Nat} {b:Nat},m.Pairwise (· <·)->(∀ z∈m,b<=z/\z<K)->m.length+b<=K\/m=[]
 |[],b,_,_=>.inr rfl
 |x::t,b,h,hb=>by
  have h1:=hb x (List.mem_cons_self ..)
  have h2:=List.pairwise_cons.1 h
  rcases sorted_len (b:=x+1) h2.2 (λ z hz=>⟨h2.1 z hz,(hb z (List.mem_cons_of_mem _ hz)).2⟩) with h3|h3
  .exact .inl (by rw[List.length_cons];omega)
  .subst h3
   exact .inl (by rw[List.length_singleton];omega)

theorem Cm{K:Nat}{m:List Nat}(h:m.Pairwise (· <·))(hK:∀ z∈m,z<K):m.length<=K:=by
 rcases sorted_len (b:=0) h (λ z hz=>⟨Nat.zero_le _,hK z hz⟩) with h|h
 .omega
 .subst h
  exact Nat.zero_le _

theorem sorted_sub{m m':List Nat}{x:Nat}(h:m.Pairwise (· <·))(h':m'.Pairwise (· <·))(hm:∀ z,z∈m' ↔ z∈m\/z=x)(hx:¬ x∈m):m'.length=m.length+1:=by
 have n1:m.Nodup:=h.imp (λ h=>Nat.ne_of_lt h)
 have n2:m'.Nodup:=h'.imp (λ h=>Nat.ne_of_lt h)
 have n3:(x::m).Nodup:=List.nodup_cons.2 ⟨hx,n1⟩
 have:m'.Perm (x::m):=(List.perm_ext_iff_of_nodup n2 n3).2 (λ z=>by rw[hm,List.mem_cons];exact Or.comm)
 rw[this.length_eq,List.length_cons]

set_option maxRecDepth 20000 in
theorem DHas20_at(w:World)(a:Option Addr)(c:Nat)(l:List Nat)(x:Nat)(hx:AO w (.slice a l.length c) l)(hl:l.length<=65536):
  Calls prog 119 #[.slice a l.length c,x] w (RK (.bool (decide (x∈l))) w):=by
 have HX:=sE hx
 obtain⟨n,hn⟩:∃ n,l.length=n:=⟨_,rfl⟩
 have HN:=sE hn
 rw[hn] at HX hl ⊢
 clear hx hn
 go_enter func119,ntmps119
 go_wp2_with fail
 go_loopw [5] (λ x5 wr=>∃ j:Nat,x5=.int .i64 j/\j<=n/\Sl (¬ x∈l.take j)/\Kp Aa w wr) (λ x5 _=>n-(intOf x5).toNat)
 case atStart=>exact ⟨0,rfl,Nat.zero_le _,⟨by simp⟩,Kr _ _⟩
 case round=>
  obtain⟨j,rfl,hj,HNo,hk⟩:=hrel
  by_cases hjl:j<n
  .have hjl':(j:Int)<(n:Int):=by omega
   obtain⟨y,hy⟩:∃ y,l[j]?=some y:=⟨l[j]'(by rw[HN.o];exact hjl),by simp⟩
   obtain⟨a',c',e,hcell⟩:=HX.o.Ac hk
   obtain⟨b,o,hb,y0⟩:=hcell j y hy
   have ha:a=some ⟨b,o,none⟩:=by injection e with h1;rw [h1];exact hb
   subst ha
   have HY:=sE hy
   clear e hcell hb hy
   by_cases hyx:y=x
   .have e1:((y:Int)==(x:Int))=true:=by rw[hyx];simp
    have HD:Sl (decide (x∈l)=true):=⟨dT (by rw[<- hyx];exact List.mem_of_getElem? HY.o)⟩
    clear hyx
    go_wp2
    go_ret
    exact⟨by rw[HD.o];rfl,hk⟩
   .have e1:((y:Int)==(x:Int))=false:=by rw[beq_eq_false_iff_ne];omega
    have HNo2:Sl (¬ x∈l.take (j+1)):=⟨by
     rw[List.take_add_one,HY.o,List.mem_append]
     rintro (h|h)
     .exact HNo.o h
     .have h2:x=y:=by simpa using h
      exact hyx h2.symm⟩
    clear hyx
    go_wp2
    exact⟨⟨j+1,by go_num,by omega,HNo2,hk⟩,by simp only[intOf];omega⟩
  .have hjl':¬ (j:Int)<(n:Int):=by omega
   have HD:Sl (decide (x∈l)=false):=⟨dF (by
    have:=HNo.o
    rwa [List.take_of_length_le (by rw[HN.o];omega)] at this)⟩
   go_wp2
   go_ret
   exact⟨by rw[HD.o];rfl,hk⟩

def ReachPost(es:List (Nat×Nat×Nat))(rs:List Nat)(w:World)(e:Ending)(w':World):Prop:=
 ∃ (v:Value) (m:List Nat),e=.returned v/\AO w' v m/\m.Pairwise (· <·)/\(∀ z,z∈m ↔ AA es rs z)/\RowForm v/\Kp Aa w w'

def lnV:Value->Nat
 |.slice _ n _=>n
 |_=>0

def boN:Value->Nat
 |.bool true=>1
 |_=>0

def OutR(w:World)(v:Value)(m:List Nat):Prop:=AO w v m/\m.Pairwise (· <·)/\RowForm v

theorem OutR.len{w:World}{v:Value}{m:List Nat}(h:OutR w v m):lnV v=m.length:=by
 obtain⟨⟨a,c,rfl,-⟩,-⟩:=h
 rfl

theorem OutR.Ac{w w':World}{v:Value}{m:List Nat}(h:OutR w v m)(k:Kp Aa w w'):OutR w' v m:=⟨h.1.Ac k,h.2⟩

set_option maxRecDepth 20000 in
theorem DReached_at(w:World)(ea:Option Addr)(ec:Nat)(es:List (Nat×Nat×Nat))(ra:Option Addr)(rc:Nat)(rs:List Nat)(K:Nat)
  (he:Dl w (.slice ea es.length ec) es) (hr:AO w (.slice ra rs.length rc) rs) (hK:K<=65536) (hrs:∀ r∈rs,r<K) (hes:∀ e∈es,e.2.2<K) (hel:es.length<=2147483648) (hrl:rs.length<=65536):
  Calls prog 64 #[.slice ea es.length ec,.slice ra rs.length rc] w (ReachPost es rs w):=by
 have HE:=sE he
 have HR:=sE hr
 have HRS:=sE hrs
 have HES:=sE hes
 obtain⟨n,hn⟩:∃ n,rs.length=n:=⟨_,rfl⟩
 obtain⟨E,hE⟩:∃ E,es.length=E:=⟨_,rfl⟩
 have HN:=sE hn
 have HEL:=sE hE
 rw[hn] at HR hrl ⊢
 rw[hE] at HE hel ⊢
 clear he hr hrs hes hn hE
 go_enter func64,ntmps64
 go_wp2_with fail
 go_loopw [5,6] (λ x5 x6 wr=>∃ (i:Nat) (m:List Nat),x6=.int .i64 (i:Nat)/\i<=n/\Sl (OutR wr x5 m)/\Sl (∀ z,z∈m ↔ z∈rs.take i)/\Kp Aa w wr) (λ _ x6 _=>n-(intOf x6).toNat)
 case atStart=>exact ⟨0,[],rfl,Nat.zero_le _,⟨nats_none _ _ _,List.Pairwise.nil,.inl rfl⟩,⟨λ z=>by simp⟩,Kr _ _⟩
 case round=>
  obtain⟨i,m,rfl,hi,HO,HM,hk⟩:=hrel
  by_cases hil:i<n
  .have hil':(i:Int)<(n:Int):=by omega
   obtain⟨y,hy⟩:∃ y,rs[i]?=some y:=⟨rs[i]'(by rw[HN.o];exact hil),by simp⟩
   obtain⟨a',c',e,hcell⟩:=HR.o.Ac hk
   obtain⟨b,o,hb,y0⟩:=hcell i y hy
   have ha:ra=some ⟨b,o,none⟩:=by injection e with h1;rw [h1];exact hb
   subst ha
   have HY:=sE hy
   clear e hcell hb hy
   go_wp2_with fail
   refine(DPut18_at wr _ m y HO.o.1 HO.o.2.2 HO.o.2.1 ?_).mono ?_
   .have:=Cm HO.o.2.1 (λ z hz=>HRS.o z (List.mem_of_mem_take ((HM.o z).1 hz)))
    omega
   rintro e w2 ⟨v2,m2,rfl,h1,h2,h3,h4,k2⟩
   have HO2:Sl (OutR w2 v2 m2):=⟨h1,h2,h4⟩
   have HM2:Sl (∀ z,z∈m2 ↔ z∈rs.take (i+1)):=⟨λ z=>by
    rw[h3,HM.o,List.take_add_one,HY.o,List.mem_append]
    simp⟩
   have K2:Kp Aa w w2:=hk.then' k2
   clear h1 h2 h3 h4 k2 hk y0
   go_wp2_with fail
   exact⟨⟨i+1,m2,by go_num,by omega,HO2,HM2,K2⟩,by simp only[intOf];omega⟩
  .have hil':¬ (i:Int)<(n:Int):=by omega
   have HM0:Sl (∀ z,z∈m ↔ z∈rs):=⟨λ z=>by rw[HM.o,List.take_of_length_le (by rw[HN.o];omega)]⟩
   have HA:Sl (∀ z∈m,AA es rs z):=⟨λ z hz=>AA.root' ((HM0.o z).1 hz)⟩
   have HB:Sl (∀ z∈rs,z∈m):=⟨λ z hz=>(HM0.o z).2 hz⟩
   have hmK:m.length<=K:=Cm HO.o.2.1 (λ z hz=>HRS.o z ((HM0.o z).1 hz))
   clear HM HM0
   go_wp2_with fail
   go_loopw [5,7] (λ x5 x7 wr=>∃ (m:List Nat) (more:Bool),x7=.bool more/\Sl (OutR wr x5 m)/\Sl (∀ z∈m,AA es rs z)/\Sl (∀ z∈rs,z∈m)/\Sl (more=false->∀ e∈es,e.1∈m->e.2.2∈m)/\m.length<=K/\Kp Aa w wr) (λ x5 x7 _=>2*(K-lnV x5)+boN x7)
   case atStart=>exact ⟨m,true,rfl,HO,HA,HB,⟨λ h=>by cases h⟩,hmK,hk⟩
   case round=>
    obtain⟨m,more,rfl,HO,HA,HB,HC,hmK,hk⟩:=hrel
    cases more with
    |false=>
     go_wp2_with fail
     go_ret
     exact⟨_,m,rfl,HO.o.1,HO.o.2.1,λ z=>⟨HA.o z,λ h=>AA.rec' (p:=λ z=>z∈m) HB.o (λ e he _ h=>HC.o trivial e he h) h⟩,HO.o.2.2,hk⟩
    |true=>
     have HLe:=HO.o.len
     obtain⟨len,hlen⟩:∃ len,m.length=len:=⟨_,rfl⟩
     have HLm:=sE hlen
     rw[hlen] at HLe hmK
     have HLs:=sE HLe
     clear HC hlen HLe
     go_wp2_with fail
     go_loopw [5,7,8] (λ x5 x7 x8 wr=>∃ (i:Nat) (m':List Nat) (more:Bool),x8=.int .i64 (i:Nat)/\i<=E/\x7=.bool more/\Sl (OutR wr x5 m')/\Sl (∀ z∈m',AA es rs z)/\Sl (∀ z∈rs,z∈m')/\Sl (more=false->m'.length=len/\∀ e∈es.take i,e.1∈m'->e.2.2∈m')/\Sl (more=true->len<m'.length)/\m'.length<=K/\Kp Aa w wr) (λ _ _ x8 _=>E-(intOf x8).toNat)
     case atStart=>exact ⟨0,m,false,rfl,Nat.zero_le _,rfl,HO,HA,HB,⟨λ _=>⟨HLm.o,λ e he=>by cases he⟩⟩,⟨λ h=>by cases h⟩,by rw[HLm.o];exact hmK,hk⟩
     case round=>
      obtain⟨i,m',more,rfl,hi,rfl,HO1,HA1,HB1,HC1,HD1,hmK1,hk1⟩:=hrel
      by_cases hil:i<E
      .have hil':(i:Int)<(E:Int):=by omega
       obtain⟨x,hx⟩:∃ x,es[i]?=some x:=⟨es[i]'(by rw[HEL.o];exact hil),by simp⟩
       obtain⟨ea',ec',hea,hcells⟩:=HE.o.Ac hk1
       obtain⟨eb,heb,heb0,x0,-,x2⟩:=hcells i x hx
       have hea2:ea=some ⟨eb,0,none⟩:=by injection hea with h1;rw [h1];exact heb
       subst hea2
       have HX:Sl (x∈es):=⟨List.mem_of_getElem? hx⟩
       have HTk:Sl (es.take (i+1)=es.take i++[x]):=⟨by rw[List.take_add_one,hx];rfl⟩
       obtain⟨⟨a5,c5,hv5,-⟩,-⟩:=id HO1.o
       subst hv5
       have HH:Sl (∀ W' z,Kp Aa wr W'->Calls prog 119 #[.slice a5 m'.length c5,.int .i64 (z:Nat)] W' (RK (.bool (decide (z∈m'))) W')):=⟨λ W' z kk=>DHas20_at W' a5 c5 m' z (HO1.o.1.Ac kk) (by omega)⟩
       obtain⟨M,hM⟩:∃ M,m'.length=M:=⟨_,rfl⟩
       have HMl:=sE hM
       rw[hM] at HO1 HC1 HD1 HH hmK1 ⊢
       clear hea hcells heb hx hM
       by_cases h1:x.1∈m'
       .have d1:decide (x.1∈m')=true:=dT h1
        go_wp2_with fail
        refine(HH.o _ x.1 (Kr _ _)).mono ?_
        rintro e w2 ⟨he,k2⟩
        rw[d1] at he
        subst he
        have y2:=k2.cell x2 (λ h=>h)
        have hk2:=hk1.then' k2
        have HK2:=sE k2
        have HI:=sE h1
        clear d1 h1 x0 x2 k2 hk1
        by_cases h2:x.2.2∈m'
        .have d2:decide (x.2.2∈m')=true:=dT h2
         go_wp2_with fail
         refine(HH.o w2 x.2.2 HK2.o).mono ?_
         rintro e w3 ⟨he,k3⟩
         rw[d2] at he
         subst he
         have K3:=HK2.o.then' k3
         have hk3:=hk2.then' k3
         have HO3:=sE (HO1.o.Ac K3)
         have HC3:Sl (more=false->M=len/\∀ e∈es.take (i+1),e.1∈m'->e.2.2∈m'):=⟨λ h=>⟨(HC1.o h).1,λ e he hm=>by
          rw[HTk.o,List.mem_append,List.mem_singleton] at he
          rcases he with he|rfl
          .exact (HC1.o h).2 e he hm
          .exact h2⟩⟩
         clear d2 h2 y2 hk2 k3 K3
         go_wp2_with fail
         refine⟨⟨i+1,m',more,by go_num,by omega,rfl,HO3,HA1,HB1,?_,?_,?_,hk3⟩,by simp only[intOf];omega⟩
         .rw [HMl.o];exact HC3
         .rw [HMl.o];exact HD1
         .rw [HMl.o];exact hmK1
        .have d2:decide (x.2.2∈m')=false:=dF h2
         go_wp2_with fail
         refine(HH.o w2 x.2.2 HK2.o).mono ?_
         rintro e w3 ⟨he,k3⟩
         rw[d2] at he
         subst he
         have y3:=k3.cell y2 (λ h=>h)
         have K3:=HK2.o.then' k3
         have hk3:=hk2.then' k3
         have HO3:=sE (HO1.o.Ac K3)
         have HN2:=sE h2
         clear d2 h2 y2 hk2 k3 K3
         go_wp2_with fail
         refine(DPut18_at w3 _ m' x.2.2 HO3.o.1 HO3.o.2.2 HO3.o.2.1 (by rw[HMl.o];omega)).mono ?_
         rintro e w4 ⟨v4,m4,rfl,g1,g2,g3,g4,k4⟩
         have HO4:Sl (OutR w4 v4 m4):=⟨g1,g2,g4⟩
         have HL4:Sl (m4.length=M+1):=⟨by rw[<- HMl.o];exact sorted_sub HO3.o.2.1 g2 g3 HN2.o⟩
         have HR4:∀ z∈m4,AA es rs z:=λ z hz=>by
          rcases (g3 z).1 hz with h|rfl
          .exact HA1.o z h
          .exact AA.step' (HA1.o _ HI.o) HX.o
         have HA4:=sE HR4
         have HB4:Sl (∀ z∈rs,z∈m4):=⟨λ z hz=>(g3 z).2 (.inl (HB1.o z hz))⟩
         have hK4:m4.length<=K:=Cm g2 (λ z hz=>by
          obtain⟨k,hk⟩:=HR4 z hz
          cases hk with
          |root h=>exact HRS.o _ h
          |step _ he=>exact HES.o _ he)
         have HD4:Sl (len<m4.length):=⟨by
          rw[HL4.o]
          cases more with
          |false=>have:=(HC1.o rfl).1;omega
          |true=>have:=HD1.o rfl;omega⟩
         have hk4:=hk3.then' k4
         clear g1 g2 g3 g4 HR4 hk3 k4 y3
         go_wp2_with fail
         exact⟨⟨i+1,m4,true,by go_num,by omega,rfl,HO4,HA4,HB4,⟨λ h=>by cases h⟩,⟨λ _=>HD4.o⟩,hK4,hk4⟩,by simp only[intOf];omega⟩
       .have d1:decide (x.1∈m')=false:=dF h1
        go_wp2_with fail
        refine(HH.o _ x.1 (Kr _ _)).mono ?_
        rintro e w2 ⟨he,k2⟩
        rw[d1] at he
        subst he
        have hk2:=hk1.then' k2
        have HO3:=sE (HO1.o.Ac k2)
        have HC3:Sl (more=false->M=len/\∀ e∈es.take (i+1),e.1∈m'->e.2.2∈m'):=⟨λ h=>⟨(HC1.o h).1,λ e he hm=>by
         rw[HTk.o,List.mem_append,List.mem_singleton] at he
         rcases he with he|rfl
         .exact (HC1.o h).2 e he hm
         .exact absurd hm h1⟩⟩
        clear d1 h1 x0 x2 k2 hk1
        go_wp2_with fail
        refine⟨⟨i+1,m',more,by go_num,by omega,rfl,HO3,HA1,HB1,?_,?_,?_,hk2⟩,by simp only[intOf];omega⟩
        .rw [HMl.o];exact HC3
        .rw [HMl.o];exact HD1
        .rw [HMl.o];exact hmK1
      .have hil':¬ (i:Int)<(E:Int):=by omega
       have HL1:=HO1.o.len
       have HT:Sl (es.take i=es):=⟨List.take_of_length_le (by rw[HEL.o];omega)⟩
       have HLs1:=sE HL1
       clear HL1
       go_wp2_with fail
       refine⟨⟨m',more,rfl,HO1,HA1,HB1,⟨λ h=>by have:=(HC1.o h).2;rwa [HT.o] at this⟩,hmK1,hk1⟩,?_⟩
       rw[HLs1.o,HLs.o]
       cases more with
       |false=>
        have:=(HC1.o rfl).1
        simp only[boN]
        omega
       |true=>
        have:=HD1.o rfl
        simp only[boN]
        omega

end

end Go.Proofs.YtfkedlgpgmaemaaGreatDoor
