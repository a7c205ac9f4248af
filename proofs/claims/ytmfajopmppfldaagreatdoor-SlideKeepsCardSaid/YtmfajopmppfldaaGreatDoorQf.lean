/-
  Lemmas for the laws, together: DocC, FitA, SettleA, Play3.
-/
import Derived.Test.YtmfajopmppfldaaGreatDoorQd
import Derived.Test.YtmfajopmppfldaaGreatDoorQe
import Derived.Test.YtmfajopmppfldaaGreatDoorQc
import Derived.Deep.DeepCutAuto
import Derived.Deep.CutBlock
set_option linter.unusedVariables false
set_option maxHeartbeats 16000000
namespace Go.Proofs.YtmfajopmppfldaaGreatDoor
open Go.Proofs.Tryz
section
open Go.RowKit

theorem fitsE_ok{ts:List TypR}{c:Cel}(h:C8 ts c):CY ts (c.tag:Nat) (c.ty:Nat) (c.ln:Nat) (c.sz:Nat)=0:=by
  obtain⟨h1,h2⟩:=h
  rw[CY,if_pos h1]
  by_cases ht:c.tag=1
  . rw[if_pos (by omega),if_pos (h2 ht)]
  . rw[if_neg (by omega)]

set_option maxRecDepth 20000 in
theorem DCells_at(P:Sp)(W:Nat->Nat)(cs:List Cel)(q cap:Nat)(lv:Value)(w:World)(hr:WRow w q P.n W)(hc:CellsAt P W cs)(hv:A9 w lv P.ts)(hl:P.ts.length<=17592186044416)(hM:Dm P.ts):
    Calls prog 114 #[.slice (some ⟨q,0,none⟩) P.n cap,lv] w λ e w'=>∃ v,e=.returned (.tuple #[v,.bool true])/\w'.ownsRow w.heap.size 71 5 v cs.length (Cr cs)/\Kp Ab w w':=by
  have hn:=hr.small
  have hlen:cs.length<=32768:=by
    have:=Ci hc.tl
    omega
  have HR:=sE hr
  have HC:=sE hc
  have HV:=sE hv
  have HMs:=sE hM
  have HLl:=sE hl
  clear hr hc hv hM hl
  go_enter func114,ntmps114
  go_wp2_with fail
  go_loopw [6,7] (λ v y wr=>∃ (pre rest:List Cel) (g:Nat),cs=pre++rest/\y=.int .i64 (g:Nat)/\Sl (Au 0 pre g)/\wr.ownsRow w.heap.size 71 5 v pre.length (Cr pre)/\Kp Ab w wr) (λ _ y _=>P.n/2-(intOf y).toNat)
  case atStart=>exact ⟨[],cs,0,rfl,rfl,⟨rfl⟩,World.ownsRow_nil _ _ _ _,Kr _ _⟩
  case round=>
    obtain⟨pre,rest,g,hcs,rfl,ht,hown,hk⟩:=hrel
    have HX:=sE hcs
    have htl:=HC.out.tl
    rw[hcs] at htl
    have hsp:Au g rest (P.n/2):=by
      obtain⟨x,t1,t2⟩:=htl.split
      rw[ht.out.uniq t1];exact t2
    cases rest with
    |nil=>
      have hg:g=P.n/2:=hsp
      have hg':¬ (g:Int)<(P.n:Int)/2:=by omega
      rw[List.append_nil] at hcs
      subst hcs
      clear htl hsp
      go_wp2
      refine bodyPost_ret (v:=.tuple #[u6,.bool true]) (by simp[results,results114,go_sem]) rfl ⟨u6,rfl,hown,hk⟩
    |cons x rest'=>
      obtain⟨hxg,hxs,hrest⟩:=hsp
      have hmem:x∈cs:=by rw[hcs];simp
      have hfin:=(HC.out.tl.mem hmem).2.1
      have hok:=HC.out.ok x hmem
      have hW:=HC.out.hd x hmem
      have hgb:x.g<P.n/2:=by omega
      have hszb:x.sz<16777216:=by omega
      have hpl:pre.length+1<=cs.length:=by rw[hcs];simp
      subst hxg
      have HT2:Sl (Au 0 (pre++[x]) (x.g+x.sz)):=⟨by
        refine ht.out.app ⟨rfl,hxs,rfl⟩⟩
      have HH:Sl (Calls prog 148 #[.slice (some ⟨q,0,none⟩) P.n cap,.int .i64 (x.g:Nat)] wr λ e w'=>e=.returned (.tuple #[.agg #[.int .u8 (x.tag:Nat),.int .i64 (x.ty:Nat),.int .i64 (x.ln:Nat),.int .i64 (x.sz:Nat)],.int .i64 0])/\Kp Ab wr w'):=⟨by
        have hh:=DHead_in x.g q P.n cap W wr (HR.out.Ad hk) hgb
        obtain⟨d1,d2,d3,d4,d5⟩:=dec_enc hok.1
        rw[hW,d1,d2,d3,d4,d5] at hh
        exact hh.mono λ_ _ hp=>hp⟩
      have HF:Sl (∀ W',Kp Ab wr W'->Calls prog 149 #[lv,.agg #[.int .u8 (x.tag:Nat),.int .i64 (x.ty:Nat),.int .i64 (x.ln:Nat),.int .i64 (x.sz:Nat)]] W' λ e w'=>e=.returned (.int .i64 0)/\Kp Ab W' w'):=⟨λ W' kk=>by
        have hh:=DFits_any lv (x.tag:Nat) (x.ty:Nat) (x.ln:Nat) (x.sz:Nat) P.ts W' (HV.out.Ad (hk.then' kk)) HLl.out HMs.out
        rw[fitsE_ok hok] at hh
        exact hh⟩
      have b1:(x.g:Int)<(P.n:Int)/2:=by omega
      have b2:decide ((P.n:Int)/2-(x.g:Int)<(x.sz:Int))=false:=dF (by omega)
      have hs1:=hk.size
      have HHk:=sE hk
      have HTy:=sE ht
      have HO:=sE hown
      obtain⟨i0,hi,hz0,hz1,hz2⟩:=info_parts infoCell
      clear htl hrest hok hW hmem hcs hown hk
      go_wp2_with fail
      refine HH.out.mono ?_
      rintro e w2 ⟨rfl,k2⟩
      have b9:=wN w2 (.cells #[.int .u8 (x.tag:Nat),.int .i64 (x.ty:Nat),.int .i64 (x.ln:Nat),.int .i64 (x.sz:Nat)] 52)
      have k23:=(Kr Ab w2).alloc (.cells #[.int .u8 (x.tag:Nat),.int .i64 (x.ty:Nat),.int .i64 (x.ln:Nat),.int .i64 (x.sz:Nat)] 52)
      go_wp2_with fail
      refine(HF.out _ (k2.then' k23)).mono ?_
      rintro e w3 ⟨rfl,k3⟩
      have B9:=k3.at_ b9 (λ h=>h)
      obtain⟨h0,h1,h2,h3⟩:=Ay B9
      have hm9:=lZ B9
      have K3:=(k2.then' k23).then' k3
      have O3:w3.ownsRow w.heap.size 71 5 u6 pre.length (Cr pre):=Ah HO.out K3 (λ b hb h=>h)
      have HO3:=sE O3
      have HK3:=sE K3
      have hs3:=K3.size
      have hs2:=k2.size
      have HO9:Sl (¬ u6.ownBlock=some w2.heap.size):=⟨λ e=>by have:=Af HO.out e;omega⟩
      clear b9 k23 k3 k2 B9 HF HH HO O3 K3
      go_wp2_with (at_builtin;go_loud (refine wpList_append_lies _ rfl (.tmp 39) (.tmp 43) 40 rfl w.heap.size 71 i0 (.agg #[.int .i64 0,.int .u8 0,.int .i64 0,.int .i64 0,.int .i64 0]) 5 40 Ey hi hz0 hz1 hz2 rfl (by omega) u6 pre.length (Cr pre) rfl (HO3.out.alloc _) ⟨w3.heap.size,0,none⟩ 1 1 [.int .i64 (x.g:Nat),.int .u8 (x.tag:Nat),.int .i64 (x.ty:Nat),.int .i64 (x.ln:Nat),.int .i64 (x.sz:Nat)] rfl rfl (World.news_of_block (wN w3 _)) (by simp[Value.oneCell']) (by omega) (by unfold maxLen;omega) (by omega) (by simp;omega) (w3.heap.size+1) (by simp) ?_);intro g2 cap2 w4 hown4 hgrow hat hlt;have k4:Kp Ab w w4:=((HHk.out.then' HK3.out).alloc _).grown hgrow (λ k e hl=>absurd (Af HO3.out e).1 (by omega));have kX:Kp (λ b=>u6.ownBlock=some b) w3 w4:=(((Kr Ab w3).alloc _).Al (λ b=>u6.ownBlock=some b)).grown hgrow (λ k e _=>e);have h3':=kX.cell h3 HO9.out;clear hi hz0 hz1 hz2 h0 h1 h2)
      refine⟨⟨pre++[x],rest',x.g+x.sz,by rw[HX.out];simp,by go_num,HT2,?_,k4⟩,by simp only[intOf];omega⟩
      rw[flatC_append,List.length_append]
      exact hown4

theorem DAll_at(P:Sp)(W:Nat->Nat)(cs:List Cel)(rb q:Nat)(lv:Value)(w:World)(hd:DocAt w rb q P.n W lv)(hc:CellsAt P W cs)(hv:A9 w lv P.ts)(hl:P.ts.length<=17592186044416)(hM:Dm P.ts):
    Calls prog 67 #[.pointer (some ⟨rb,0,none⟩)] w λ e w'=>∃ v,e=.returned v/\w'.ownsRow w.heap.size 71 5 v cs.length (Cr cs)/\Kp Ab w w':=by
  obtain⟨cap,c0,c1⟩:=hd.head
  have hlt:=hd.lt
  have HA:Sl (∀ W',Kp Ab w W'->Calls prog 114 #[.slice (some ⟨q,0,none⟩) P.n cap,lv] W' λ e w'=>∃ v,e=.returned (.tuple #[v,.bool true])/\w'.ownsRow W'.heap.size 71 5 v cs.length (Cr cs)/\Kp Ab W' w'):=
    ⟨λ W' k=>DCells_at P W cs q cap lv W' (hd.row.Ad k) hc (hv.Ad k) hl hM⟩
  clear hd hc hv hM hl
  go_enter func67,ntmps67
  go_wp2_with fail
  go_region_held3 (λ w'=>w'.cell? ⟨rb,0,none⟩=some (.slice (some ⟨q,0,none⟩) P.n cap)/\w'.cell? ⟨rb,1,none⟩=some lv) (exact ⟨Bf KU c0,Bf KU c1⟩)
    (first | (go_at_call 114;with_reducible refine(HA.out _ KU).mono ?_;rintro e w2 ⟨v,rfl,hg,hk⟩
              have KK:Kp Ab w w2:=(Kr Ab w).drew.then' hk))
  have hg2:w2.ownsRow w.heap.size 71 5 v cs.length (Cr cs):=hg
  go_wp2
  refine bodyPost_ret (v:=v) (by simp[results,results67,go_sem]) rfl ⟨v,rfl,hg2,KK⟩

def DMade(q n:Nat)(W:Nat->Nat)(w:World)(e:Ending)(w':World):Prop:=
  ∃ q' cap',e=.returned (.tuple #[.slice (some ⟨q',0,none⟩) n cap',.int .i64 0])/\WRow w' q' n W/\w.heap.size<=q'/\Kp Ab w w'

set_option maxRecDepth 20000 in
theorem DMake_yes(g id ln S q n cap:Nat)(W:Nat->Nat)(lv:Value)(ts:List TypR)(w:World)(hr:WRow w q n W)(hv:A9 w lv ts)(hl:ts.length<=17592186044416)(hM:Dm ts)
    (he:AQ ts (id:Nat) (ln:Nat)=0) (hS:Bj ts (id:Nat) (ln:Nat)=(S:Nat)) (h0:0<S) (hok:Am 1 (id:Nat) (ln:Nat) (S:Nat)=true) (hg:g+S<=n/2):
    Calls prog 129 #[.slice (some ⟨q,0,none⟩) n cap,lv,.int .i64 (g:Nat),.int .i64 (id:Nat),.int .i64 (ln:Nat)] w (DMade q n (makeW W g id ln S) w):=by
  have hn:=hr.small
  have HO:Sl _:=⟨(DHOf_any lv (id:Nat) (ln:Nat) ts w hv hl hM).mono λ e w' (hp:BF ts (id:Nat) (ln:Nat) w e w')=>show e=.returned (.tuple #[.agg #[.int .u8 1,.int .i64 (id:Nat),.int .i64 (ln:Nat),.int .i64 (S:Nat)],.int .i64 0])/\Kp Ab w w' by
    rw[BF,he,if_pos rfl,hS] at hp;exact hp⟩
  have HE:Sl (∀ W',Calls prog 169 #[.agg #[.int .u8 1,.int .i64 (id:Nat),.int .i64 (ln:Nat),.int .i64 (S:Nat)]] W' λ e w'=>e=.returned (.tuple #[.int .u64 ((Bl 1 id ln S:Nat):Int),.int .i64 0])/\Kp Ab W' w'):=
    ⟨λ W'=>E9 1 id ln S W' hok⟩
  have H64:=sE (encH_lt (tag:=1) (ty:=id) (ln:=ln) (sz:=S) hok)
  unfold makeW
  obtain⟨X,hX⟩:∃ X,Bl 1 id ln S=X:=⟨_,rfl⟩
  rw[hX] at HE H64 ⊢
  have HR:=sE hr
  have c1:decide ((g:Int)<0)=false:=dF (by omega)
  have c2:decide ((n:Int)/2<(g:Int))=false:=dF (by omega)
  have c3:decide ((n:Int)/2-(g:Int)<(S:Int))=false:=dF (by omega)
  have HM:Sl ((2:Int)*(g:Int)=((2*g:Nat):Int)):=⟨by omega⟩
  clear hr hv hM hl he hS hok hX
  go_enter func129,ntmps129
  go_wp2_with fail
  refine HO.out.mono ?_
  rintro e w2 ⟨rfl,k2⟩
  have hs2:=k2.size
  go_wp2_with (at_builtin;go_loud (refine copy_words rfl (.tmp 47) rfl q n cap W rfl (HR.out.Ad (k2.then' ((Kr Ab w2).alloc _))) (by omega) ?_);intro w4 q1 cap1 hr1 hq1 k1)
  have b9:=k1.at_ (wN w2 (.cells #[.int .u8 1,.int .i64 (id:Nat),.int .i64 (ln:Nat),.int .i64 (S:Nat)] 52)) (λ h=>h)
  have KW:=(k2.then' ((Kr Ab w2).alloc _)).then' k1
  have hlq:=hr1.lt
  have hne:¬ w2.heap.size=q1:=by
    have:w2.heap.size+1<=q1:=by simpa using hq1
    omega
  have hq1':w.heap.size<=q1:=by
    have:w2.heap.size+1<=q1:=by simpa using hq1
    omega
  have HB:=sE b9
  have HR1:=sE hr1
  clear b9 hr1 HO HR hq1 k1
  go_wp2_with fail
  go_loopw [15] (λ y wr=>∃ k:Nat,y=.int .i64 ((2*g+k:Nat):Int)/\k<=2*S/\WRow wr q1 n (fillW W (2*g) k 0)/\Kp (λ b=>b=q1) w4 wr) (λ y _=>2*(g+S)-(intOf y).toNat)
  case atStart=>exact ⟨0,by go_num,by omega,by rw[fillW_zero];exact HR1.out,Kr _ _⟩
  case round=>
    obtain⟨k,rfl,hk,hrow,hkk⟩:=hrel
    have B9:=hkk.at_ HB.out hne
    obtain⟨h0',h1',h2',h3'⟩:=Ay B9
    have hl9:=lZ B9
    have hlr:=hrow.lt
    have HHR:=sE hrow
    have HKK:=sE hkk
    by_cases hlast:k<2*S
    . have hc:((2*g+k:Nat):Int)<2*((g:Int)+(S:Int)):=by omega
      have hj:2*g+k<n:=by omega
      have a0:=hrow.at_ hj
      have a1:=hrow.free (2*g+k)
      clear B9 hrow hkk
      go_wp2
      refine⟨⟨k+1,by go_num,by omega,?_,?_⟩,by simp only[intOf];omega⟩
      . rw[<- fillW_succ]
        exact HHR.out.store hj 0 (by omega)
      . exact HKK.out.trans ((Kr (λ b=>b=q1) wr).setCell (λ _=>rfl) _) (λ _ _ h=>h)
    . have hc:¬ ((2*g+k:Nat):Int)<2*((g:Int)+(S:Int)):=by omega
      obtain rfl:k=2*S:=by omega
      clear B9 hrow hkk
      go_wp2_with fail
      refine(HE.out _).mono ?_
      rintro e w6 ⟨rfl,k6⟩
      have R6:=HHR.out.Ad k6
      have hj:2*g<n:=by omega
      have a0:=R6.at_ hj
      have a1:=R6.free (2*g)
      have hl6:=R6.lt
      have HR6:=sE R6
      clear R6 HHR
      go_wp2
      refine bodyPost_ret (v:=.tuple #[.slice (some ⟨q1,0,none⟩) n cap1,.int .i64 0]) (by simp[results,results129,go_sem]) rfl ⟨q1,cap1,rfl,HR6.out.store hj X H64.out,hq1',?_⟩
      exact((KW.trans HKK.out (λ b hb h=>by have h':b=q1:=h;omega)).then' k6).trans ((Kr (λ b=>b=q1) w6).setCell (λ _=>rfl) _) (λ b hb h=>by have h':b=q1:=h;omega)

def Hit(x:Cel)(j S:Nat):Prop:=¬ x.tag=1/\x.g<=j/\j<x.fin/\j+S<=x.fin

def DPutPost(P:Sp)(cs:List Cel)(W:Nat->Nat)(rb q:Nat)(lv:Value)(g id n:Int)(w:World)(e:Ending)(w':World):Prop:=
  e=.returned (.int .i64 (Dt P.ts (P.n/2) cs g id n))/\Kp (λ k=>k=rb) w w'/\
    ((¬ Dt P.ts (P.n/2) cs g id n=0/\DocAt w' rb q P.n W lv)\/
     (Dt P.ts (P.n/2) cs g id n=0/\∃ (x:Cel) (j i l S:Nat),x∈cs/\g=(j:Nat)/\id=(i:Nat)/\n=(l:Nat)/\Bj P.ts id n=(S:Nat)/\Hit x j S/\∃ q',w.heap.size<=q'/\DocAt w' rb q' P.n (putW W x j i l S) lv))

theorem putR_none{ts:List TypR}{H j i l S:Nat}{cs:List Cel}(ht:Au 0 cs H)(he:AQ ts (i:Nat) (l:Nat)=0)(hS:Bj ts (i:Nat) (l:Nat)=(S:Nat))(hj:j<H)(h:∀ x∈cs,¬ Hit x j S):Dt ts H cs (j:Nat) (i:Nat) (l:Nat)=3:=by
  obtain⟨pre,c,post,rfl,h1,h2,h3⟩:=cell_split ht (Nat.zero_le _) hj
  rw[Dt,if_neg (by simpa using he),if_neg (by omega),cellOf_at (g:=(j:Nat)) (λ d hd=>by have:=h3 d hd;omega) (by omega),hS]
  have:=h c (by simp)
  simp only[Hit] at this
  dsimp only
  rw[if_pos]
  by_cases ht:c.tag=1
  . exact .inl ht
  . exact .inr (by omega)

theorem putR_hit{ts:List TypR}{H j i l S:Nat}{cs:List Cel}{x:Cel}(ht:Au 0 cs H)(he:AQ ts (i:Nat) (l:Nat)=0)(hS:Bj ts (i:Nat) (l:Nat)=(S:Nat))(hx:x∈cs)(h:Hit x j S):Dt ts H cs (j:Nat) (i:Nat) (l:Nat)=0:=by
  have hm:=ht.mem hx
  obtain⟨k1,k2,k3,k4⟩:=h
  have hj:j<H:=by rw[Cel.fin] at k3;omega
  obtain⟨pre,c,post,rfl,h1,h2,h3⟩:=cell_split ht (Nat.zero_le _) hj
  have hcx:c=x:=by
    obtain⟨a,t1,t2⟩:=ht.split
    obtain⟨hcg,hc0,t3⟩:=t2
    rcases List.mem_append.1 hx with hx|hx
    . have:=h3 x hx;omega
    . rcases List.mem_cons.1 hx with hx|hx
      . exact hx.symm
      . have:=t3.mem hx;rw [Cel.fin] at h2;omega
  subst hcx
  rw[Dt,if_neg (by simpa using he),if_neg (by omega),cellOf_at (g:=(j:Nat)) (λ d hd=>by have:=h3 d hd;omega) (by omega),hS]
  dsimp only
  rw[if_neg]
  intro hh
  rcases hh with hh|hh
  . exact k1 hh
  . omega

set_option maxRecDepth 20000 in
theorem DPut_err(P:Sp)(W:Nat->Nat)(cs:List Cel)(rb q:Nat)(lv:Value)(g id n:Int)(w:World)(hd:DocAt w rb q P.n W lv)(hv:A9 w lv P.ts)(hl:P.ts.length<=17592186044416)(hM:Dm P.ts)(he:¬ AQ P.ts id n=0):
    Calls prog 84 #[.pointer (some ⟨rb,0,none⟩),.int .i64 g,.int .i64 id,.int .i64 n] w (DPutPost P cs W rb q lv g id n w):=by
  have hR:Sl (Dt P.ts (P.n/2) cs g id n=AQ P.ts id n):=⟨by rw[Dt,if_pos he]⟩
  have HO:Sl _:=⟨(DHOf_any lv id n P.ts w hv hl hM).mono λ e w' (hp:BF P.ts id n w e w')=>show e=.returned (.tuple #[.agg #[.int .u8 0,.int .i64 0,.int .i64 0,.int .i64 0],.int .i64 (AQ P.ts id n)])/\Kp Ab w w' by
    rw[BF,if_neg he] at hp;exact hp⟩
  obtain⟨E,hE⟩:∃ E,AQ P.ts id n=E:=⟨_,rfl⟩
  rw[hE] at HO hR he
  obtain⟨cap,c0,c1⟩:=hd.head
  have hlt:=hd.lt
  have HD:=sE hd
  have hb:(E !=0)=true:=by simpa using he
  have HE:=sE he
  clear hE he hd hv hM hl
  go_enter func84,ntmps84
  go_wp2_with fail
  refine HO.out.mono ?_
  rintro e w2 ⟨rfl,k2⟩
  go_wp2
  have KK:Kp Ab w (w2.alloc (.cells #[.int .u8 0,.int .i64 0,.int .i64 0,.int .i64 0] 52)):=k2.alloc _
  exact bodyPost_ret (v:=.int .i64 E) (by simp[results,results84,go_sem]) rfl ⟨by rw[hR.out],KK.Al _,.inl ⟨by rw[hR.out];exact HE.out,HD.out.Ad KK⟩⟩

set_option maxRecDepth 20000 in
theorem DPut_out(P:Sp)(W:Nat->Nat)(cs:List Cel)(rb q:Nat)(lv:Value)(g:Int)(i l S:Nat)(w:World)(hd:DocAt w rb q P.n W lv)(hv:A9 w lv P.ts)(hl:P.ts.length<=17592186044416)(hM:Dm P.ts)(he:AQ P.ts (i:Nat) (l:Nat)=0)(hS:Bj P.ts (i:Nat) (l:Nat)=(S:Nat))(ho:g<0\/((P.n/2:Nat):Int)<=g):
    Calls prog 84 #[.pointer (some ⟨rb,0,none⟩),.int .i64 g,.int .i64 (i:Nat),.int .i64 (l:Nat)] w (DPutPost P cs W rb q lv g (i:Nat) (l:Nat) w):=by
  have hR:Sl (Dt P.ts (P.n/2) cs g (i:Nat) (l:Nat)=2):=⟨by rw[Dt,if_neg (by simpa using he),if_pos ho]⟩
  have HO:Sl _:=⟨(DHOf_any lv (i:Nat) (l:Nat) P.ts w hv hl hM).mono λ e w' (hp:BF P.ts (i:Nat) (l:Nat) w e w')=>show e=.returned (.tuple #[.agg #[.int .u8 1,.int .i64 (i:Nat),.int .i64 (l:Nat),.int .i64 (S:Nat)],.int .i64 0])/\Kp Ab w w' by
    rw[BF,he,if_pos rfl,hS] at hp;exact hp⟩
  obtain⟨cap,c0,c1⟩:=hd.head
  have hlt:=hd.lt
  have hn:=hd.row.small
  have HD:=sE hd
  obtain⟨d0,hd0⟩:∃ d0,decide (g<0)=d0:=⟨_,rfl⟩
  have hd1:d0=false->decide ((P.n:Int)/2<=g)=true:=λ h=>by
    subst h
    have:=of_decide_eq_false hd0
    exact dT (by omega)
  clear he hS hd hv hM hl ho
  cases d0 with
  |true=>
    clear hd1
    go_enter func84,ntmps84
    go_wp2_with fail
    refine HO.out.mono ?_
    rintro e w2 ⟨rfl,k2⟩
    replace c0:=k2.cell c0 (λ h=>h)
    replace c1:=k2.cell c1 (λ h=>h)
    go_wp2
    have KK:Kp Ab w (w2.alloc (.cells #[.int .u8 1,.int .i64 (i:Nat),.int .i64 (l:Nat),.int .i64 (S:Nat)] 52)):=k2.alloc _
    exact bodyPost_ret (v:=.int .i64 2) (by simp[results,results84,go_sem]) rfl ⟨by rw[hR.out],KK.Al _,.inl ⟨by rw[hR.out];omega,HD.out.Ad KK⟩⟩
  |false=>
    have hd2:=hd1 rfl
    clear hd1
    go_enter func84,ntmps84
    go_wp2_with fail
    refine HO.out.mono ?_
    rintro e w2 ⟨rfl,k2⟩
    replace c0:=k2.cell c0 (λ h=>h)
    replace c1:=k2.cell c1 (λ h=>h)
    have hlt2:=Nat.lt_of_lt_of_le hlt k2.size
    go_wp2
    have KK:Kp Ab w (w2.alloc (.cells #[.int .u8 1,.int .i64 (i:Nat),.int .i64 (l:Nat),.int .i64 (S:Nat)] 52)):=k2.alloc _
    exact bodyPost_ret (v:=.int .i64 2) (by simp[results,results84,go_sem]) rfl ⟨by rw[hR.out],KK.Al _,.inl ⟨by rw[hR.out];omega,HD.out.Ad KK⟩⟩

set_option maxRecDepth 20000 in
theorem DPut_in(P:Sp)(W:Nat->Nat)(cs:List Cel)(rb q:Nat)(lv:Value)(j i l S:Nat)(w:World)(hd:DocAt w rb q P.n W lv)(hc:CellsAt P W cs)(hv:A9 w lv P.ts)(hl:P.ts.length<=17592186044416)(hM:Dm P.ts)(he:AQ P.ts (i:Nat) (l:Nat)=0)(hS:Bj P.ts (i:Nat) (l:Nat)=(S:Nat))(hS0:0<S)(hok:Am 1 (i:Nat) (l:Nat) (S:Nat)=true)(hj:j<P.n/2):
    Calls prog 84 #[.pointer (some ⟨rb,0,none⟩),.int .i64 (j:Nat),.int .i64 (i:Nat),.int .i64 (l:Nat)] w (DPutPost P cs W rb q lv (j:Nat) (i:Nat) (l:Nat) w):=by
  have HNo:Sl ((∀ x∈cs,¬ Hit x j S)->Dt P.ts (P.n/2) cs (j:Nat) (i:Nat) (l:Nat)=3):=⟨putR_none hc.tl he hS hj⟩
  have HHit:Sl (∀ x∈cs,Hit x j S->Dt P.ts (P.n/2) cs (j:Nat) (i:Nat) (l:Nat)=0):=⟨λ x hx h=>putR_hit hc.tl he hS hx h⟩
  have HO:Sl _:=⟨(DHOf_any lv (i:Nat) (l:Nat) P.ts w hv hl hM).mono λ e w' (hp:BF P.ts (i:Nat) (l:Nat) w e w')=>show e=.returned (.tuple #[.agg #[.int .u8 1,.int .i64 (i:Nat),.int .i64 (l:Nat),.int .i64 (S:Nat)],.int .i64 0])/\Kp Ab w w' by
    rw[BF,he,if_pos rfl,hS] at hp;exact hp⟩
  have hlen:cs.length<=32768:=by
    have:=Ci hc.tl
    have:=hd.row.small
    omega
  have HMake:Sl (∀ W' cap,Kp Ab w W'->j+S<=P.n/2->Calls prog 129 #[.slice (some ⟨q,0,none⟩) P.n cap,lv,.int .i64 (j:Nat),.int .i64 (i:Nat),.int .i64 (l:Nat)] W' λ e w'=>∃ q' cap',e=.returned (.tuple #[.slice (some ⟨q',0,none⟩) P.n cap',.int .i64 0])/\WRow w' q' P.n (makeW W j i l S)/\W'.heap.size<=q'/\Kp Ab W' w'):=
    ⟨λ W' cap k hjs=>DMake_yes j i l S q P.n cap W lv P.ts W' (hd.row.Ad k) (hv.Ad k) hl hM he hS hS0 hok hjs⟩
  have HAll:Sl (∀ W',Kp Ab w W'->Calls prog 67 #[.pointer (some ⟨rb,0,none⟩)] W' λ e w'=>∃ v,e=.returned v/\w'.ownsRow W'.heap.size 71 5 v cs.length (Cr cs)/\Kp Ab W' w'):=
    ⟨λ W' k=>DAll_at P W cs rb q lv W' (hd.Ad k) hc (hv.Ad k) hl hM⟩
  obtain⟨cap,c0,c1⟩:=hd.head
  have hlt:=hd.lt
  have hn:=hd.row.small
  have HD:=sE hd
  have HSS:=sE hS
  have HTl:=sE hc.tl
  have hd0:decide ((j:Int)<0)=false:=dF (by omega)
  have hd1:decide ((P.n:Int)/2<=(j:Int))=false:=dF (by omega)
  clear he hS hd hv hM hl hc hok
  go_enter func84,ntmps84
  go_wp2_with fail
  refine HO.out.mono ?_
  rintro e w2 ⟨rfl,k2⟩
  have b9:=wN w2 (.cells #[.int .u8 1,.int .i64 (i:Nat),.int .i64 (l:Nat),.int .i64 (S:Nat)] 52)
  have k3:Kp Ab w (w2.alloc (.cells #[.int .u8 1,.int .i64 (i:Nat),.int .i64 (l:Nat),.int .i64 (S:Nat)] 52)):=k2.alloc _
  replace c0:=k2.cell c0 (λ h=>h)
  replace c1:=k2.cell c1 (λ h=>h)
  have hlt2:=Nat.lt_of_lt_of_le hlt k2.size
  go_wp2_with fail
  refine(HAll.out _ k3).mono ?_
  rintro e wl ⟨v,rfl,hown,kl⟩
  have HB9:=sE (kl.at_ b9 (λ h=>h))
  have HKL:=sE (k3.then' kl)
  have HRow:=sE (RowC.BK hown)
  obtain⟨va,vc,hva,-⟩:=HRow.out
  subst hva
  obtain⟨len,hlen'⟩:∃ len,cs.length=len:=⟨_,rfl⟩
  rw[hlen'] at HRow hlen ⊢
  have HLen:=sE hlen'
  clear hown b9 k3 kl k2 HO HAll c0 c1 hlen'
  go_wp2_with fail
  go_loopw [12] (λ y wr=>∃ k:Nat,k<=len/\y=.int .i64 (k:Nat)/\Kp Ab wl wr/\Sl (∀ m x,m<k->cs[m]?=some x->¬ Hit x j S)) (λ y _=>len-(intOf y).toNat)
  case atStart=>exact ⟨0,Nat.zero_le _,rfl,Kr _ _,⟨λ m x h=>by omega⟩⟩
  case round=>
    obtain⟨k,hk,rfl,hkk,hno⟩:=hrel
    have HKK:=sE hkk
    have hDr:=HD.out.Ad (HKL.out.then' hkk)
    obtain⟨capr,c0,c1⟩:=hDr.head
    have hltr:=hDr.lt
    have B9:=hkk.at_ HB9.out (λ h=>h)
    obtain⟨h0,h1,h2,h3⟩:=Ay B9
    have hl9:=lZ B9
    by_cases hkl:k<len
    . have hkl':(k:Int)<(len:Int):=by omega
      obtain⟨x,hx⟩:∃ x,cs[k]?=some x:=⟨cs[k]'(by rw[HLen.out];exact hkl),by simp⟩
      obtain⟨a',cap',ha',hrow⟩:=HRow.out.Ad hkk
      obtain⟨b,hab,hb0,r0,r1,r2,r3,r4⟩:=hrow k x hx
      have hva:va=some ⟨b,0,none⟩:=by injection ha' with h1;rw [h1];exact hab
      subst hva
      have hxm:x∈cs:=List.mem_of_getElem? hx
      have hxf:=HTl.out.mem hxm
      have hxs:=hxf.2.1
      have HX:=sE hx
      have HXm:=sE hxm
      clear hx hxm hrow ha' hab hDr B9 hkk hxf
      by_cases q1:x.tag=1
      . have p1:((x.tag:Int)==1)=true:=by simp;omega
        have HNN:Sl (∀ m y,m<k+1->cs[m]?=some y->¬ Hit y j S):=⟨λ m y hm hy=>by
          by_cases e:m=k
          . subst e;rw [HX.out] at hy;injection hy with hy;subst hy;exact λ h=>h.1 q1
          . exact hno.out m y (by omega) hy⟩
        clear q1
        have kx:Kp Ab wr (wr.alloc (.cells #[.int .i64 (x.g:Nat),.int .u8 (x.tag:Nat),.int .i64 (x.ty:Nat),.int .i64 (x.ln:Nat),.int .i64 (x.sz:Nat)] 71)):=(Kr _ wr).alloc _
        go_wp2
        exact⟨⟨k+1,by omega,by go_num,HKK.out.then' kx,HNN⟩,by simp only[intOf];omega⟩
      have p1:((x.tag:Int)==1)=false:=by simp;omega
      by_cases q2:j<x.g
      . have p2:decide ((j:Int)<(x.g:Int))=true:=dT (by omega)
        have HNN:Sl (∀ m y,m<k+1->cs[m]?=some y->¬ Hit y j S):=⟨λ m y hm hy=>by
          by_cases e:m=k
          . subst e;rw [HX.out] at hy;injection hy with hy;subst hy;exact λ h=>by have:=h.2.1;omega
          . exact hno.out m y (by omega) hy⟩
        have kx:Kp Ab wr (wr.alloc (.cells #[.int .i64 (x.g:Nat),.int .u8 (x.tag:Nat),.int .i64 (x.ty:Nat),.int .i64 (x.ln:Nat),.int .i64 (x.sz:Nat)] 71)):=(Kr _ wr).alloc _
        go_wp2
        exact⟨⟨k+1,by omega,by go_num,HKK.out.then' kx,HNN⟩,by simp only[intOf];omega⟩
      have p2:decide ((j:Int)<(x.g:Int))=false:=dF (by omega)
      by_cases q3:x.g+x.sz<=j
      . have p3:decide ((x.g:Int)+(x.sz:Int)<=(j:Int))=true:=dT (by omega)
        have HNN:Sl (∀ m y,m<k+1->cs[m]?=some y->¬ Hit y j S):=⟨λ m y hm hy=>by
          by_cases e:m=k
          . subst e;rw [HX.out] at hy;injection hy with hy;subst hy;exact λ h=>by have:=h.2.2.1;rw [Cel.fin] at this;omega
          . exact hno.out m y (by omega) hy⟩
        have kx:Kp Ab wr (wr.alloc (.cells #[.int .i64 (x.g:Nat),.int .u8 (x.tag:Nat),.int .i64 (x.ty:Nat),.int .i64 (x.ln:Nat),.int .i64 (x.sz:Nat)] 71)):=(Kr _ wr).alloc _
        go_wp2
        exact⟨⟨k+1,by omega,by go_num,HKK.out.then' kx,HNN⟩,by simp only[intOf];omega⟩
      have p3:decide ((x.g:Int)+(x.sz:Int)<=(j:Int))=false:=dF (by omega)
      by_cases q4:x.g+x.sz<j+S
      . have p4:decide ((x.g:Int)+(x.sz:Int)-(j:Int)<(S:Int))=true:=dT (by omega)
        have HNN:Sl (∀ m y,m<k+1->cs[m]?=some y->¬ Hit y j S):=⟨λ m y hm hy=>by
          by_cases e:m=k
          . subst e;rw [HX.out] at hy;injection hy with hy;subst hy;exact λ h=>by have:=h.2.2.2;rw [Cel.fin] at this;omega
          . exact hno.out m y (by omega) hy⟩
        have kx:Kp Ab wr (wr.alloc (.cells #[.int .i64 (x.g:Nat),.int .u8 (x.tag:Nat),.int .i64 (x.ty:Nat),.int .i64 (x.ln:Nat),.int .i64 (x.sz:Nat)] 71)):=(Kr _ wr).alloc _
        go_wp2
        exact⟨⟨k+1,by omega,by go_num,HKK.out.then' kx,HNN⟩,by simp only[intOf];omega⟩
      have p4:decide ((x.g:Int)+(x.sz:Int)-(j:Int)<(S:Int))=false:=dF (by omega)
      have hhit:Hit x j S:=⟨q1,by omega,by rw[Cel.fin];omega,by rw[Cel.fin];omega⟩
      have HH:=sE hhit
      have HR0:=sE (HHit.out x HXm.out hhit)
      clear hhit
      have KWr:=HKL.out.then' HKK.out
      have HKWr:=sE KWr
      clear KWr
      go_wp2_with fail
      go_region_held3 (λ w'=>w'.cell? ⟨rb,0,none⟩=some (.slice (some ⟨q,0,none⟩) P.n capr)/\w'.cell? ⟨rb,1,none⟩=some lv) (exact ⟨Bf KU c0,Bf KU c1⟩)
        (first | (go_at_call 129;with_reducible refine(HMake.out (wr.alloc (.cells #[.int .i64 (x.g:Nat),.int .u8 (x.tag:Nat),.int .i64 (x.ty:Nat),.int .i64 (x.ln:Nat),.int .i64 (x.sz:Nat)] 71)).drew capr (HKWr.out.then' ((Kr Ab _).alloc _).drew) (by omega)).mono ?_;rintro e w5 ⟨q5,cap5,rfl,R5,hq5,k5⟩
                  have b13:=k5.at_ (show (wr.alloc (.cells #[.int .i64 (x.g:Nat),.int .u8 (x.tag:Nat),.int .i64 (x.ty:Nat),.int .i64 (x.ln:Nat),.int .i64 (x.sz:Nat)] 71)).drew.heap[wr.heap.size]?=_ from wN wr _) (λ h=>h)
                  have K5:Kp Ab wr w5:=((Kr Ab wr).alloc _).drew.then' k5))
      have hq5':wr.heap.size+1<=q5:=by have h:=hq5;rw [World.size_drew,World.size_alloc] at h;exact h
      have D5:=HD.out.Ad (HKWr.out.then' K5)
      have hlt5:=D5.lt
      have f5:=D5.free 0
      have hc5:=D5.head
      clear c0 c1 hltr
      obtain⟨cap6,c0,c1⟩:=hc5
      have HB13:=sE b13
      have HD5:=sE D5
      have HR5:=sE R5
      have HK5:=sE K5
      have hl13:=lZ b13
      have hs5:=K5.size
      have hsw:=HKWr.out.size
      clear D5 R5 K5 k5 b13 h0 h1 h2 h3 r0 r1 r2 r3 r4 hq5
      have B9:=HK5.out.at_ (HKK.out.at_ HB9.out (λ h=>h)) (λ h=>h)
      obtain⟨h0,h1,h2,h3⟩:=Ay B9
      have e0:w5.cell? ⟨wr.heap.size,0,none⟩=some (.int .i64 (x.g:Nat)):=by simp[World.cell?,HB13.out]
      have e4:w5.cell? ⟨wr.heap.size,4,none⟩=some (.int .i64 (x.sz:Nat)):=by simp[World.cell?,HB13.out]
      go_wp2_with fail
      obtain⟨w6,hw6⟩:∃ w6,w6=w5.setCell ⟨rb,0,none⟩ (.slice (some ⟨q5,0,none⟩) P.n cap5):=⟨_,rfl⟩
      rw[<- hw6]
      have k6:Kp (λ b=>b=rb) w5 w6:=by rw[hw6];exact (Kr (λ b=>b=rb) w5).setCell (λ _=>rfl) _
      have hltw:=HKWr.out.size
      have D6:DocAt w6 rb q5 P.n (makeW W j i l S) lv:=by
        obtain⟨c,hr⟩:=HD5.out.hr
        exact⟨⟨cap5,by rw[hw6,bZ hr _];rfl⟩,HR5.out.keep k6 (λ h=>by have h':q5=rb:=h;omega)⟩
      have HM1:Sl ((j:Int)-(x.g:Int)=((j-x.g:Nat):Int)):=⟨by omega⟩
      have HM2:Sl ((x.g:Int)+(x.sz:Int)-(j:Int)-(S:Int)=((x.fin-j-S:Nat):Int)):=⟨by rw[Cel.fin];omega⟩
      have HM3:Sl ((j:Int)+(S:Int)=((j+S:Nat):Int)):=⟨by omega⟩
      have hs9:rb<w2.heap.size:=hlt2
      have B6:=k6.at_ HB13.out (λ h=>by have h':wr.heap.size=rb:=h;omega)
      have B69:=k6.at_ B9 (λ h=>by have h':w2.heap.size=rb:=h;omega)
      have HL1:=sE (DR rb q5 P.n _ lv x.g (j-x.g) w6 D6 (by omega))
      have hs6:=k6.size
      have HK6:=sE k6
      clear e0 e4 h0 h1 h2 h3 B9 hw6 D6 k6 c0 c1 f5
      rw[HM1.out]
      refine HL1.out.mono ?_
      rintro e w7 ⟨rfl,q7,D7,hq7,k7⟩
      have B7:=k7.at_ B6 (λ h=>by have h':wr.heap.size=rb:=h;omega)
      have B79:=k7.at_ B69 (λ h=>by have h':w2.heap.size=rb:=h;omega)
      have e0:w7.cell? ⟨wr.heap.size,0,none⟩=some (.int .i64 (x.g:Nat)):=by simp[World.cell?,B7]
      have e4:w7.cell? ⟨wr.heap.size,4,none⟩=some (.int .i64 (x.sz:Nat)):=by simp[World.cell?,B7]
      obtain⟨h0,h1,h2,h3⟩:=Ay B79
      have hl7:=lZ B7
      have hl79:=lZ B79
      have HL2:=sE (DR rb q7 P.n _ lv (j+S) (x.fin-j-S) w7 D7 (by rw[Cel.fin];omega))
      have hs7:=k7.size
      have HK7:=sE k7
      clear B6 B69 B7 B79 D7 k7 HL1
      go_wp2_with fail
      rw[HM2.out,HM3.out]
      refine HL2.out.mono ?_
      rintro e w8 ⟨rfl,q8,D8,hq8,k8⟩
      have HD8:=sE D8
      have HK8:=sE k8
      clear e0 e4 h0 h1 h2 h3 D8 k8 HL2
      go_wp2
      refine bodyPost_ret (v:=.int .i64 0) (by simp[results,results84,go_sem]) rfl ⟨by rw[HR0.out],?_,.inr ⟨HR0.out,x,j,i,l,S,HXm.out,rfl,rfl,rfl,HSS.out,HH.out,q8,?_,HD8.out⟩⟩
      . exact((((HKWr.out.then' HK5.out).Al (λ b=>b=rb)).trans HK6.out (λ _ _ h=>h)).trans HK7.out (λ _ _ h=>h)).trans HK8.out (λ _ _ h=>h)
      . omega
    . have hkl':¬ (k:Int)<(len:Int):=by omega
      have HR3:Sl _:=⟨HNo.out (λ x hx=>by
        obtain⟨m,hm⟩:=List.getElem?_of_mem hx
        have hml:=(gE.1 hm).1
        rw[HLen.out] at hml
        exact hno.out m x (by omega) hm)⟩
      clear hDr B9 hkk
      go_wp2
      have KF:=HKL.out.then' HKK.out
      exact bodyPost_ret (v:=.int .i64 3) (by simp[results,results84,go_sem]) rfl ⟨by rw[HR3.out],KF.Al _,.inl ⟨by rw[HR3.out];omega,HD.out.Ad KF⟩⟩

theorem DPut_any(P:Sp)(W:Nat->Nat)(cs:List Cel)(rb q:Nat)(lv:Value)(g id n:Int)(w:World)(hd:DocAt w rb q P.n W lv)(hc:CellsAt P W cs)(hv:A9 w lv P.ts)(few:P.ts.length<=64)(hM:Dm P.ts):
    Calls prog 84 #[.pointer (some ⟨rb,0,none⟩),.int .i64 g,.int .i64 id,.int .i64 n] w (DPutPost P cs W rb q lv g id n w):=by
  by_cases he:AQ P.ts id n=0
  . obtain⟨i,l,S,rfl,rfl,hS,h0,h1,hok⟩:=obj_ok few he
    by_cases ho:g<0\/((P.n/2:Nat):Int)<=g
    . exact DPut_out P W cs rb q lv g i l S w hd hv (by omega) hM he hS ho
    . obtain⟨j,rfl⟩:=Int.eq_ofNat_of_zero_le (show 0<=g by omega)
      exact DPut_in P W cs rb q lv j i l S w hd hc hv (by omega) hM he hS h0 hok.1 (by omega)
  . exact DPut_err P W cs rb q lv g id n w hd hv (by omega) hM he

def DDropPost(P:Sp)(cs:List Cel)(W:Nat->Nat)(rb q:Nat)(lv:Value)(g:Int)(w:World)(e:Ending)(w':World):Prop:=
  (e=.returned (.int .i64 3)/\(∀ j:Nat,g=(j:Nat)->Ar cs j=false)/\DocAt w' rb q P.n W lv/\Kp Ab w w')\/
  (e=.returned (.int .i64 0)/\Kp (λ k=>k=rb) w w'/\∃ (j:Nat) (p1 g1:List Cel) (c:Cel) (g2 p2:List Cel) (x y:Nat),g=(j:Nat)/\C9 cs j p1 g1 c g2 p2 x y/\∃ q',(q'=q\/w.heap.size<=q')/\DocAt w' rb q' P.n (AX W x (y-x)) lv)

theorem snoc_or(a:List Cel):a=[]\/∃ a' d,a=a'++[d]:=by
  rcases List.eq_nil_or_concat a with h|⟨a',d,h⟩
  . exact .inl h
  . exact .inr ⟨a',d,by rw[h];simp⟩

set_option maxRecDepth 20000 in
theorem DDrop_any(P:Sp)(W:Nat->Nat)(cs:List Cel)(rb q:Nat)(lv:Value)(g:Int)(w:World)(hd:DocAt w rb q P.n W lv)(hc:CellsAt P W cs)(hv:A9 w lv P.ts)(hl:P.ts.length<=17592186044416)(hM:Dm P.ts):
    Calls prog 86 #[.pointer (some ⟨rb,0,none⟩),.int .i64 g] w (DDropPost P cs W rb q lv g w):=by
  have hlen:cs.length<=32768:=by
    have:=Ci hc.tl
    have:=hd.row.small
    omega
  have HAll:=sE (DAll_at P W cs rb q lv w hd hc hv hl hM)
  have hlt:=hd.lt
  have hn:=hd.row.small
  have HD:=sE hd
  have HTl:=sE hc.tl
  clear hd hv hM hl hc
  go_enter func86,ntmps86
  go_wp2_with fail
  refine HAll.out.mono ?_
  rintro e wl ⟨v,rfl,hown,kl⟩
  have HKL:=sE kl
  have HRow:=sE (RowC.BK hown)
  obtain⟨va,vc,hva,-⟩:=HRow.out
  subst hva
  obtain⟨len,hlen'⟩:∃ len,cs.length=len:=⟨_,rfl⟩
  rw[hlen'] at HRow hlen ⊢
  have HLen:=sE hlen'
  clear hown kl HAll hlen'
  go_wp2_with fail
  go_loopw [6] (λ y wr=>∃ k:Nat,k<=len/\y=.int .i64 (k:Nat)/\Kp Ab wl wr/\Sl (∀ m x,m<k->cs[m]?=some x->¬ (x.tag=1/\(x.g:Int)=g))) (λ y _=>len-(intOf y).toNat)
  case atStart=>exact ⟨0,Nat.zero_le _,rfl,Kr _ _,⟨λ m x h=>by omega⟩⟩
  case round=>
    obtain⟨k,hk,rfl,hkk,hno⟩:=hrel
    have HKK:=sE hkk
    by_cases hkl:k<len
    . have hkl':(k:Int)<(len:Int):=by omega
      obtain⟨x,hx⟩:∃ x,cs[k]?=some x:=⟨cs[k]'(by rw[HLen.out];exact hkl),by simp⟩
      obtain⟨a',cap',ha',hrow⟩:=HRow.out.Ad hkk
      obtain⟨b,hab,hb0,r0,r1,r2,r3,r4⟩:=hrow k x hx
      have hva:va=some ⟨b,0,none⟩:=by injection ha' with h1;rw [h1];exact hab
      subst hva
      have hxm:x∈cs:=List.mem_of_getElem? hx
      have hxf:=(HTl.out.mem hxm).2.1
      have HX:=sE hx
      have HRow2:Sl (∀ m d,cs[m]?=some d->b<wl.heap.size/\
          wl.cell? ⟨b,m*5,none⟩=some (.int .i64 (d.g:Nat))/\wl.cell? ⟨b,m*5+1,none⟩=some (.int .u8 (d.tag:Nat))/\wl.cell? ⟨b,m*5+4,none⟩=some (.int .i64 (d.sz:Nat))):=⟨λ m d hm=>by
        obtain⟨a2,cap2,ha2,hrow2⟩:=HRow.out
        obtain⟨b2,hab2,hb2,s0,s1,s2,s3,s4⟩:=hrow2 m d hm
        injection ha2 with h1
        rw[<- h1] at hab2
        injection hab2 with h2
        injection h2 with h3
        subst h3
        exact⟨hb2,s0,s1,s4⟩⟩
      clear hx hxm hrow ha' hab
      by_cases q1:(x.g:Int)=g
      . by_cases q2:x.tag=1
        . have p1:((x.g:Int) !=g)=false:=by simp[q1]
          have p2:((x.tag:Int) !=1)=false:=by simp;omega
          obtain⟨pre,post,hcs,hpl⟩:∃ pre post,cs=pre++x::post/\pre.length=k:=by
            have hk2:k<cs.length:=by rw[HLen.out];exact hkl
            refine⟨cs.take k,cs.drop (k+1),?_,by simp;omega⟩
            have:=gE.1 HX.out
            obtain⟨_,h⟩:=this
            rw[<- h,<- List.drop_eq_getElem_cons hk2,List.take_append_drop]
          have HCs:=sE hcs
          have HTP:Sl (Au 0 pre x.g/\Au x.fin post (P.n/2)):=⟨by
            have h:=HTl.out
            rw[hcs] at h
            exact⟨h.fin_at.2.2,h.fin_at.2.1⟩⟩
          have HPl:Sl (pre.length+1+post.length=len):=⟨by
            have:=HLen.out
            rw[hcs] at this
            simp at this
            omega⟩
          subst hpl
          have HPre:Sl (∀ (a c:List Cel) (d:Cel),pre=a++d::c->cs[a.length]?=some d):=⟨λ a c d h=>by rw[HCs.out,h];simp⟩
          have HPost:Sl (∀ (a c:List Cel) (d:Cel),post=a++d::c->cs[pre.length+1+a.length]?=some d):=⟨λ a c d h=>by
            rw[HCs.out,h,List.getElem?_append_right (by omega)]
            rw[show pre.length+1+a.length-pre.length=a.length+1 by omega]
            simp⟩
          obtain⟨j,hj⟩:∃ j,x.g=j:=⟨_,rfl⟩
          rw[hj] at q1 HTP r0
          subst q1
          have q3:(j:Int)+(x.sz:Int)=((x.fin:Nat):Int):=by rw[Cel.fin,hj];omega
          have HJ:=sE hj
          have HQ2:=sE q2
          have HX0:Sl (0<x.sz/\x.fin<=P.n/2):=⟨by
            have:=HTl.out.mem (c:=x) (by rw[HCs.out];simp)
            exact⟨this.2.2,this.2.1⟩⟩
          have hxb:x.fin<=32768:=by have:=HX0.out;omega
          clear hcs hkk hj q2
          go_wp2_with fail
          go_region
          go_wp2_with fail
          go_loopw [7,9] (λ f y w'=>∃ (a b0:List Cel) (z:Nat) (zi:Int),pre=a++b0/\f=.int .i64 (z:Nat)/\y=.int .i64 zi/\zi=(a.length:Int)-1/\Sl (Au 0 a z/\∀ d∈b0,¬ d.tag=1)/\Kp Ab wl w') (λ _ y _=>(intOf y+1).toNat)
          case atStart=>exact ⟨pre,[],j,(pre.length:Int)-1,by simp,rfl,rfl,rfl,⟨HTP.out.1,λ d hd=>by cases hd⟩,HKK.out.then' (Kr Ab _).drew⟩
          case round=>
            obtain⟨a,b0,z,zi,hpre,rfl,rfl,hzi,hab,hkb⟩:=hrel
            rcases snoc_or a with ha|⟨a',d,ha⟩
            . subst ha
              obtain rfl:zi=-1:=by rw[hzi];rfl
              clear hzi
              have HPs:Sl (pre=[]++b0):=⟨hpre⟩
              have HKb:=sE hkb
              have hxb':x.fin<=32768:=hxb
              clear hpre
              go_wp2_with fail
              go_loopw [8,10] (λ t y w'=>∃ (a2 b2:List Cel) (z2 yi:Nat),Sl (post=a2++b2)/\t=.int .i64 (z2:Nat)/\y=.int .i64 (yi:Nat)/\yi=pre.length+1+a2.length/\Sl (Au x.fin a2 z2/\∀ d∈a2,¬ d.tag=1)/\yi<=len/\Kp Ab wl w') (λ _ y _=>len-(intOf y).toNat)
              case atStart=>exact ⟨[],post,x.fin,pre.length+1,⟨rfl⟩,rfl,by go_num,rfl,⟨rfl,λ d hd=>by cases hd⟩,by omega,HKb.out⟩
              case round=>
                obtain⟨a2,b2,z2,yi,HPt,rfl,rfl,hyi,hab2,hyl,hk2⟩:=hrel
                rcases b2 with _|⟨d2,r2'⟩
                . have hyn:yi=len:=by
                    have:=HPt.out
                    rw[List.append_nil] at this
                    rw[hyi,<- this];exact HPl.out
                  have p4:decide ((yi:Int)<(len:Int))=false:=dF (by omega)
                  have p4n:¬ (yi:Int)<(len:Int):=by omega
                  have HYI:=sE hyi
                  clear hyn hyi
                  have HDr:Sl (C9 cs j [] b0 x a2 [] z z2):=⟨by
                    refine⟨?_,HJ.out,HQ2.out,hab.out.2,hab2.out.2,.inl rfl,.inl rfl,hab.out.1,?_,?_⟩
                    . rw[HCs.out,HPs.out,HPt.out];simp
                    . have h1:=HTP.out.1
                      rw[HPs.out] at h1
                      obtain⟨zz,t1,t2⟩:=h1.split
                      obtain rfl:=hab.out.1.uniq t1
                      exact t2.app ⟨HJ.out,HX0.out.1,by have h9:=hab2.out.1;rw [Cel.fin,HJ.out] at h9;exact h9⟩
                    . have h1:=HTP.out.1
                      rw[HPs.out] at h1
                      obtain⟨zz,t1,t2⟩:=h1.split
                      obtain rfl:=hab.out.1.uniq t1
                      have:=t2.le
                      have:=hab2.out.1.le
                      have:=HX0.out.1
                      rw[Cel.fin] at*
                      have:=HJ.out
                      omega⟩
                  have hzz:z<z2:=HDr.out.2.2.2.2.2.2.2.2.2
                  have hz2n:z2<=P.n/2:=by
                    have h:=HTP.out.2
                    rw[HPt.out] at h
                    obtain⟨zz,t1,t2⟩:=h.split
                    obtain rfl:=hab2.out.1.uniq t1
                    exact t2.le
                  have HM:Sl ((z2:Int)-(z:Int)=((z2-z:Nat):Int)):=⟨by omega⟩
                  have HL:Sl (∀ W',Kp Ab wl W'->Calls prog 126 #[.pointer (some ⟨rb,0,none⟩),.int .i64 (z:Nat),.int .i64 ((z2-z:Nat):Int)] W' (DLaid rb q P.n (AX W z (z2-z)) lv W')):=
                    ⟨λ W' kk=>DR rb q P.n W lv z (z2-z) W' (HD.out.Ad (HKL.out.then' kk)) (by omega)⟩
                  have HK2:=sE hk2
                  clear hk2
                  go_wp2_with fail
                  rw[HM.out]
                  refine(HL.out _ HK2.out).mono ?_
                  rintro e wz ⟨rfl,q',D',hq',k'⟩
                  have HD':=sE D'
                  have HK':=sE k'
                  have KB:=HKL.out.then' HK2.out
                  have hsB:=KB.size
                  clear D' k'
                  go_wp2
                  exact bodyPost_ret (v:=.int .i64 0) (by simp[results,results86,go_sem]) rfl (.inr ⟨rfl,(KB.Al (λ b=>b=rb)).trans HK'.out (λ _ _ h=>h),j,[],b0,x,a2,[],z,z2,rfl,HDr.out,q',by rcases hq' with h|h;exact .inl h;exact .inr (by omega),HD'.out⟩)
                . have hyn:yi<len:=by
                    have hpl9:=HPl.out
                    have:=congrArg List.length HPt.out
                    simp at this
                    omega
                  have p4:decide ((yi:Int)<(len:Int))=true:=dT (by omega)
                  have p4n:(yi:Int)<(len:Int):=by omega
                  have hd2:=HPost.out a2 r2' d2 HPt.out
                  rw[<- hyi] at hd2
                  have HYI:=sE hyi
                  clear hyi
                  obtain⟨hbs,s0,s1,s4⟩:=HRow2.out yi d2 hd2
                  have hbs2:=Nat.lt_of_lt_of_le hbs hk2.size
                  replace s0:=hk2.cell s0 (λ h=>h)
                  replace s1:=hk2.cell s1 (λ h=>h)
                  replace s4:=hk2.cell s4 (λ h=>h)
                  have hdf:=HTl.out.mem (List.mem_of_getElem? hd2)
                  clear hd2 hbs
                  by_cases q5:d2.tag=1
                  . have p5:((d2.tag:Int) !=1)=false:=by simp;omega
                    have HDr:Sl (C9 cs j [] b0 x a2 (d2::r2') z z2):=⟨by
                      refine⟨?_,HJ.out,HQ2.out,hab.out.2,hab2.out.2,.inl rfl,.inr ⟨d2,r2',rfl,q5⟩,hab.out.1,?_,?_⟩
                      . rw[HCs.out,HPs.out,HPt.out];simp
                      . have h1:=HTP.out.1
                        rw[HPs.out] at h1
                        obtain⟨zz,t1,t2⟩:=h1.split
                        obtain rfl:=hab.out.1.uniq t1
                        exact t2.app ⟨HJ.out,HX0.out.1,by have h9:=hab2.out.1;rw [Cel.fin,HJ.out] at h9;exact h9⟩
                      . have h1:=HTP.out.1
                        rw[HPs.out] at h1
                        obtain⟨zz,t1,t2⟩:=h1.split
                        obtain rfl:=hab.out.1.uniq t1
                        have:=t2.le
                        have:=hab2.out.1.le
                        have:=HX0.out.1
                        rw[Cel.fin] at*
                        have:=HJ.out
                        omega⟩
                    have hzz:z<z2:=HDr.out.2.2.2.2.2.2.2.2.2
                    have hz2n:z2<=P.n/2:=by
                      have h:=HTP.out.2
                      rw[HPt.out] at h
                      obtain⟨zz,t1,t2⟩:=h.split
                      obtain rfl:=hab2.out.1.uniq t1
                      exact t2.le
                    have HM:Sl ((z2:Int)-(z:Int)=((z2-z:Nat):Int)):=⟨by omega⟩
                    have HL:Sl (∀ W',Kp Ab wl W'->Calls prog 126 #[.pointer (some ⟨rb,0,none⟩),.int .i64 (z:Nat),.int .i64 ((z2-z:Nat):Int)] W' (DLaid rb q P.n (AX W z (z2-z)) lv W')):=
                      ⟨λ W' kk=>DR rb q P.n W lv z (z2-z) W' (HD.out.Ad (HKL.out.then' kk)) (by omega)⟩
                    have HK2:=sE hk2
                    clear hk2
                    go_wp2_with fail
                    rw[HM.out]
                    refine(HL.out _ HK2.out).mono ?_
                    rintro e wz ⟨rfl,q',D',hq',k'⟩
                    have HD':=sE D'
                    have HK':=sE k'
                    have KB:=HKL.out.then' HK2.out
                    have hsB:=KB.size
                    clear D' k'
                    go_wp2
                    exact bodyPost_ret (v:=.int .i64 0) (by simp[results,results86,go_sem]) rfl (.inr ⟨rfl,(KB.Al (λ b=>b=rb)).trans HK'.out (λ _ _ h=>h),j,[],b0,x,a2,(d2::r2'),z,z2,rfl,HDr.out,q',by rcases hq' with h|h;exact .inl h;exact .inr (by omega),HD'.out⟩)
                  . have p5:((d2.tag:Int) !=1)=true:=by simp;omega
                    have q6:(d2.g:Int)+(d2.sz:Int)=((d2.fin:Nat):Int):=by rw[Cel.fin];omega
                    have hfb:d2.fin<=32768:=by rw[Cel.fin];omega
                    have HN:Sl (post=(a2++[d2])++r2'):=⟨by rw[HPt.out];simp⟩
                    have HT:Sl (Au x.fin (a2++[d2]) d2.fin/\∀ d∈a2++[d2],¬ d.tag=1):=⟨by
                      have h:=HTP.out.2
                      rw[HPt.out] at h
                      refine⟨h.fin_at.1,λ d hd=>?_⟩
                      rcases List.mem_append.1 hd with hd|hd
                      . exact hab2.out.2 d hd
                      . rw[List.mem_singleton.1 hd];exact q5⟩
                    have HK2:=sE hk2
                    clear hk2 hdf
                    go_wp2_with fail
                    go_region
                    go_wp2
                    exact⟨⟨a2++[d2],r2',d2.fin,yi+1,HN,rfl,by go_num,by have h8:=HYI.out;simp;omega,HT,by omega,HK2.out.then' (Kr Ab _).drew⟩,by simp only[intOf];omega⟩
            . subst ha
              obtain⟨m,hm⟩:∃ m,a'.length=m:=⟨_,rfl⟩
              obtain rfl:zi=(m:Int):=by rw[hzi];simp;omega
              have hpl':m<pre.length:=by rw[hpre];simp;omega
              have hdd:=HPre.out a' b0 d (by rw[hpre];simp)
              rw[hm] at hdd
              obtain⟨hbs,s0,s1,s4⟩:=HRow2.out m d hdd
              have hbs2:=Nat.lt_of_lt_of_le hbs hkb.size
              replace s0:=hkb.cell s0 (λ h=>h)
              replace s1:=hkb.cell s1 (λ h=>h)
              clear hdd hbs s4 hzi
              by_cases q5:d.tag=1
              . have p5:((d.tag:Int) !=1)=false:=by simp;omega
                have HQ5:=sE q5
                clear q5
                have HPs:Sl (pre=(a'++[d])++b0):=⟨hpre⟩
                have HKb:=sE hkb
                have hxb':x.fin<=32768:=hxb
                clear hpre
                go_wp2_with fail
                go_loopw [8,10] (λ t y w'=>∃ (a2 b2:List Cel) (z2 yi:Nat),Sl (post=a2++b2)/\t=.int .i64 (z2:Nat)/\y=.int .i64 (yi:Nat)/\yi=pre.length+1+a2.length/\Sl (Au x.fin a2 z2/\∀ d∈a2,¬ d.tag=1)/\yi<=len/\Kp Ab wl w') (λ _ y _=>len-(intOf y).toNat)
                case atStart=>exact ⟨[],post,x.fin,pre.length+1,⟨rfl⟩,rfl,by go_num,rfl,⟨rfl,λ d hd=>by cases hd⟩,by omega,HKb.out⟩
                case round=>
                  obtain⟨a2,b2,z2,yi,HPt,rfl,rfl,hyi,hab2,hyl,hk2⟩:=hrel
                  rcases b2 with _|⟨d2,r2'⟩
                  . have hyn:yi=len:=by
                      have:=HPt.out
                      rw[List.append_nil] at this
                      rw[hyi,<- this];exact HPl.out
                    have p4:decide ((yi:Int)<(len:Int))=false:=dF (by omega)
                    have p4n:¬ (yi:Int)<(len:Int):=by omega
                    have HYI:=sE hyi
                    clear hyn hyi
                    have HDr:Sl (C9 cs j (a'++[d]) b0 x a2 [] z z2):=⟨by
                      refine⟨?_,HJ.out,HQ2.out,hab.out.2,hab2.out.2,.inr ⟨a',d,rfl,HQ5.out⟩,.inl rfl,hab.out.1,?_,?_⟩
                      . rw[HCs.out,HPs.out,HPt.out];simp
                      . have h1:=HTP.out.1
                        rw[HPs.out] at h1
                        obtain⟨zz,t1,t2⟩:=h1.split
                        obtain rfl:=hab.out.1.uniq t1
                        exact t2.app ⟨HJ.out,HX0.out.1,by have h9:=hab2.out.1;rw [Cel.fin,HJ.out] at h9;exact h9⟩
                      . have h1:=HTP.out.1
                        rw[HPs.out] at h1
                        obtain⟨zz,t1,t2⟩:=h1.split
                        obtain rfl:=hab.out.1.uniq t1
                        have:=t2.le
                        have:=hab2.out.1.le
                        have:=HX0.out.1
                        rw[Cel.fin] at*
                        have:=HJ.out
                        omega⟩
                    have hzz:z<z2:=HDr.out.2.2.2.2.2.2.2.2.2
                    have hz2n:z2<=P.n/2:=by
                      have h:=HTP.out.2
                      rw[HPt.out] at h
                      obtain⟨zz,t1,t2⟩:=h.split
                      obtain rfl:=hab2.out.1.uniq t1
                      exact t2.le
                    have HM:Sl ((z2:Int)-(z:Int)=((z2-z:Nat):Int)):=⟨by omega⟩
                    have HL:Sl (∀ W',Kp Ab wl W'->Calls prog 126 #[.pointer (some ⟨rb,0,none⟩),.int .i64 (z:Nat),.int .i64 ((z2-z:Nat):Int)] W' (DLaid rb q P.n (AX W z (z2-z)) lv W')):=
                      ⟨λ W' kk=>DR rb q P.n W lv z (z2-z) W' (HD.out.Ad (HKL.out.then' kk)) (by omega)⟩
                    have HK2:=sE hk2
                    clear hk2
                    go_wp2_with fail
                    rw[HM.out]
                    refine(HL.out _ HK2.out).mono ?_
                    rintro e wz ⟨rfl,q',D',hq',k'⟩
                    have HD':=sE D'
                    have HK':=sE k'
                    have KB:=HKL.out.then' HK2.out
                    have hsB:=KB.size
                    clear D' k'
                    go_wp2
                    exact bodyPost_ret (v:=.int .i64 0) (by simp[results,results86,go_sem]) rfl (.inr ⟨rfl,(KB.Al (λ b=>b=rb)).trans HK'.out (λ _ _ h=>h),j,(a'++[d]),b0,x,a2,[],z,z2,rfl,HDr.out,q',by rcases hq' with h|h;exact .inl h;exact .inr (by omega),HD'.out⟩)
                  . have hyn:yi<len:=by
                      have hpl9:=HPl.out
                      have:=congrArg List.length HPt.out
                      simp at this
                      omega
                    have p4:decide ((yi:Int)<(len:Int))=true:=dT (by omega)
                    have p4n:(yi:Int)<(len:Int):=by omega
                    have hd2:=HPost.out a2 r2' d2 HPt.out
                    rw[<- hyi] at hd2
                    have HYI:=sE hyi
                    clear hyi
                    obtain⟨hbs,s0,s1,s4⟩:=HRow2.out yi d2 hd2
                    have hbs2:=Nat.lt_of_lt_of_le hbs hk2.size
                    replace s0:=hk2.cell s0 (λ h=>h)
                    replace s1:=hk2.cell s1 (λ h=>h)
                    replace s4:=hk2.cell s4 (λ h=>h)
                    have hdf:=HTl.out.mem (List.mem_of_getElem? hd2)
                    clear hd2 hbs
                    by_cases q5:d2.tag=1
                    . have p5:((d2.tag:Int) !=1)=false:=by simp;omega
                      have HDr:Sl (C9 cs j (a'++[d]) b0 x a2 (d2::r2') z z2):=⟨by
                        refine⟨?_,HJ.out,HQ2.out,hab.out.2,hab2.out.2,.inr ⟨a',d,rfl,HQ5.out⟩,.inr ⟨d2,r2',rfl,q5⟩,hab.out.1,?_,?_⟩
                        . rw[HCs.out,HPs.out,HPt.out];simp
                        . have h1:=HTP.out.1
                          rw[HPs.out] at h1
                          obtain⟨zz,t1,t2⟩:=h1.split
                          obtain rfl:=hab.out.1.uniq t1
                          exact t2.app ⟨HJ.out,HX0.out.1,by have h9:=hab2.out.1;rw [Cel.fin,HJ.out] at h9;exact h9⟩
                        . have h1:=HTP.out.1
                          rw[HPs.out] at h1
                          obtain⟨zz,t1,t2⟩:=h1.split
                          obtain rfl:=hab.out.1.uniq t1
                          have:=t2.le
                          have:=hab2.out.1.le
                          have:=HX0.out.1
                          rw[Cel.fin] at*
                          have:=HJ.out
                          omega⟩
                      have hzz:z<z2:=HDr.out.2.2.2.2.2.2.2.2.2
                      have hz2n:z2<=P.n/2:=by
                        have h:=HTP.out.2
                        rw[HPt.out] at h
                        obtain⟨zz,t1,t2⟩:=h.split
                        obtain rfl:=hab2.out.1.uniq t1
                        exact t2.le
                      have HM:Sl ((z2:Int)-(z:Int)=((z2-z:Nat):Int)):=⟨by omega⟩
                      have HL:Sl (∀ W',Kp Ab wl W'->Calls prog 126 #[.pointer (some ⟨rb,0,none⟩),.int .i64 (z:Nat),.int .i64 ((z2-z:Nat):Int)] W' (DLaid rb q P.n (AX W z (z2-z)) lv W')):=
                        ⟨λ W' kk=>DR rb q P.n W lv z (z2-z) W' (HD.out.Ad (HKL.out.then' kk)) (by omega)⟩
                      have HK2:=sE hk2
                      clear hk2
                      go_wp2_with fail
                      rw[HM.out]
                      refine(HL.out _ HK2.out).mono ?_
                      rintro e wz ⟨rfl,q',D',hq',k'⟩
                      have HD':=sE D'
                      have HK':=sE k'
                      have KB:=HKL.out.then' HK2.out
                      have hsB:=KB.size
                      clear D' k'
                      go_wp2
                      exact bodyPost_ret (v:=.int .i64 0) (by simp[results,results86,go_sem]) rfl (.inr ⟨rfl,(KB.Al (λ b=>b=rb)).trans HK'.out (λ _ _ h=>h),j,(a'++[d]),b0,x,a2,(d2::r2'),z,z2,rfl,HDr.out,q',by rcases hq' with h|h;exact .inl h;exact .inr (by omega),HD'.out⟩)
                    . have p5:((d2.tag:Int) !=1)=true:=by simp;omega
                      have q6:(d2.g:Int)+(d2.sz:Int)=((d2.fin:Nat):Int):=by rw[Cel.fin];omega
                      have hfb:d2.fin<=32768:=by rw[Cel.fin];omega
                      have HN:Sl (post=(a2++[d2])++r2'):=⟨by rw[HPt.out];simp⟩
                      have HT:Sl (Au x.fin (a2++[d2]) d2.fin/\∀ d∈a2++[d2],¬ d.tag=1):=⟨by
                        have h:=HTP.out.2
                        rw[HPt.out] at h
                        refine⟨h.fin_at.1,λ d hd=>?_⟩
                        rcases List.mem_append.1 hd with hd|hd
                        . exact hab2.out.2 d hd
                        . rw[List.mem_singleton.1 hd];exact q5⟩
                      have HK2:=sE hk2
                      clear hk2 hdf
                      go_wp2_with fail
                      go_region
                      go_wp2
                      exact⟨⟨a2++[d2],r2',d2.fin,yi+1,HN,rfl,by go_num,by have h8:=HYI.out;simp;omega,HT,by omega,HK2.out.then' (Kr Ab _).drew⟩,by simp only[intOf];omega⟩
              . have p5:((d.tag:Int) !=1)=true:=by simp;omega
                have HN:Sl (pre=a'++(d::b0)):=⟨by rw[hpre];simp⟩
                have HT:Sl (Au 0 a' d.g/\∀ y∈d::b0,¬ y.tag=1):=⟨by
                  refine⟨(Au.fin_at (rest:=[]) hab.out.1).2.2,λ y hy=>?_⟩
                  rcases List.mem_cons.1 hy with hy|hy
                  . rw[hy];exact q5
                  . exact hab.out.2 y hy⟩
                have HKb:=sE hkb
                clear hkb hpre
                go_wp2
                exact⟨⟨a',d::b0,d.g,(m:Int)-1,HN.out,rfl,by go_num,by rw[hm],HT,HKb.out⟩,by simp only[intOf];omega⟩
        . have p1:((x.g:Int) !=g)=false:=by simp[q1]
          have p2:((x.tag:Int) !=1)=true:=by simp;omega
          have HNN:Sl (∀ m y,m<k+1->cs[m]?=some y->¬ (y.tag=1/\(y.g:Int)=g)):=⟨λ m y hm hy=>by
            by_cases e:m=k
            . subst e;rw [HX.out] at hy;injection hy with hy;subst hy;exact λ h=>q2 h.1
            . exact hno.out m y (by omega) hy⟩
          go_wp2
          exact⟨⟨k+1,by omega,by go_num,HKK.out,HNN⟩,by simp only[intOf];omega⟩
      . have p1:((x.g:Int) !=g)=true:=by simp;omega
        have HNN:Sl (∀ m y,m<k+1->cs[m]?=some y->¬ (y.tag=1/\(y.g:Int)=g)):=⟨λ m y hm hy=>by
          by_cases e:m=k
          . subst e;rw [HX.out] at hy;injection hy with hy;subst hy;exact λ h=>q1 h.2
          . exact hno.out m y (by omega) hy⟩
        go_wp2
        exact⟨⟨k+1,by omega,by go_num,HKK.out,HNN⟩,by simp only[intOf];omega⟩
    . have hkl':¬ (k:Int)<(len:Int):=by omega
      have HNN:Sl (∀ j:Nat,g=(j:Nat)->Ar cs j=false):=⟨λ j hj=>by
        rw[Bool.eq_false_iff]
        intro h
        obtain⟨c,hc,t1,t2⟩:=Fp h
        obtain⟨m,hm⟩:=List.getElem?_of_mem hc
        have hml:=(gE.1 hm).1
        rw[HLen.out] at hml
        exact hno.out m c (by omega) hm ⟨t1,by omega⟩⟩
      clear hkk
      go_wp2
      have KF:=HKL.out.then' HKK.out
      exact bodyPost_ret (v:=.int .i64 3) (by simp[results,results86,go_sem]) rfl (.inl ⟨rfl,HNN.out,HD.out.Ad KF,KF⟩)

end

section
open Go.RowKit
attribute [local go_sem] Oper.semAt_some

theorem Ea(P:Sp)(W:Nat->Nat)(f:Nat->Bool)(w:World)(h:SpaceAt w P W f):
  Calls prog 15 #[.pointer (some ⟨P.s,0,none⟩)] w λ e w'=>e=.returned (.pointer (some ⟨P.t,0,none⟩))/\w'=w:=by
 obtain⟨c0,c1,c2⟩:=h.head
 clear h
 go_enter func15,ntmps15
 go_wp2
 go_ret
 exact⟨rfl,rfl⟩

end

section
open Go.RowKit
attribute [local go_sem] Oper.semAt_some

end

section
open Go.RowKit
attribute [local go_sem] Oper.semAt_some

end

section
open Go.RowKit
attribute [local go_sem] Oper.semAt_some

end

section
open Go.RowKit
attribute [local go_sem] Oper.semAt_some

end

section
open Go.RowKit

end

section
open Go.RowKit

theorem cell_only{cs:List Cel}{a H:Nat}(ht:Au a cs H){c d:Cel}(hc:c∈cs)(hd:d∈cs){j:Nat}(h1:c.g<=j)(h2:j<c.fin)(h3:d.g<=j)(h4:j<d.fin):c=d:=by
 obtain⟨pre,post,rfl⟩:=List.append_of_mem hc
 have t:=ht.fin_at
 rcases List.mem_append.1 hd with m|m
 .have:=t.2.2.mem m
  unfold Cel.fin at*
  omega
 .rcases List.mem_cons.1 m with m|m
  .exact m.symm
  .have:=t.2.1.mem m
   unfold Cel.fin at*
   omega

theorem cut_uniq:∀ {A A' B B':List Cel} {c c':Cel} {a H:Nat},Au a (A++c::B) H->A++c::B=A'++c'::B'->c.g=c'.g->A=A'/\c=c'/\B=B'
 |[],[],B,B',c,c',a,H,ht,he,hg=>by
  injection he with h1 h2
  exact⟨rfl,h1,h2⟩
 |[],d::A',B,B',c,c',a,H,ht,he,hg=>by
  injection he with h1 h2
  subst h1 h2
  have t1:c.g=a:=ht.1
  have t2:0<c.sz:=ht.2.1
  have:=Au.mem (c:=c') ht.2.2 (by simp)
  omega
 |d::A,[],B,B',c,c',a,H,ht,he,hg=>by
  injection he with h1 h2
  subst h1
  have t1:d.g=a:=ht.1
  have t2:0<d.sz:=ht.2.1
  have:=Au.mem (c:=c) ht.2.2 (by simp)
  omega
 |d::A,d'::A',B,B',c,c',a,H,ht,he,hg=>by
  injection he with h1 h2
  obtain⟨e1,e2,e3⟩:=cut_uniq (a:=a+d.sz) ht.2.2 h2 hg
  exact⟨by rw[h1,e1],e2,e3⟩

theorem ends_uniq{p p' g g':List Cel}(h:p++g=p'++g')(h1:EndsObj p)(h2:EndsObj p')(k1:∀ d∈g,¬ d.tag=1)(k2:∀ d∈g',¬ d.tag=1):p=p'/\g=g':=by
 have key:∀ {p p' g g' t:List Cel},p'=p++t->g=t++g'->EndsObj p'->(∀ d∈g,¬ d.tag=1)->t=[]:=by
  intro p p' g g' t e1 e2 h2 k1
  rcases List.eq_nil_or_concat t with ht|⟨t',z,ht⟩
  .exact ht
  .rw [List.concat_eq_append] at ht
   subst ht
   rcases h2 with h2|⟨q,d,h2,hd⟩
   .rw [h2] at e1
    have:=congrArg List.length e1
    simp at this
   .rw [h2,<- List.append_assoc] at e1
    have:=(List.append_inj' e1 rfl).2
    injection this with this
    subst this
    exact absurd hd (k1 d (by rw[e2];simp))
 rcases List.append_eq_append_iff.1 h with ⟨t,e1,e2⟩|⟨t,e1,e2⟩
 .have:=key e1 e2 h2 k1
  subst this
  exact⟨by simpa using e1.symm,by simpa using e2⟩
 .have:=key e1 e2 h1 k2
  subst this
  exact⟨by simpa using e1,by simpa using e2.symm⟩

theorem starts_uniq{p p' g g':List Cel}(h:g++p=g'++p')(h1:p=[]\/∃ d q,p=d::q/\d.tag=1)(h2:p'=[]\/∃ d q,p'=d::q/\d.tag=1)(k1:∀ d∈g,¬ d.tag=1)(k2:∀ d∈g',¬ d.tag=1):p=p'/\g=g':=by
 have key:∀ {p p' g g' t:List Cel},p=t++p'->g'=g++t->(p=[]\/∃ d q,p=d::q/\d.tag=1)->(∀ d∈g',¬ d.tag=1)->t=[]:=by
  intro p p' g g' t e1 e2 h1 k2
  rcases t with _|⟨z,t⟩
  .rfl
  .rcases h1 with h1|⟨d,q,h1,hd⟩
   .rw [h1] at e1
    simp at e1
   .rw [h1] at e1
    injection e1 with e1 _
    subst e1
    exact absurd hd (k2 d (by rw[e2];simp))
 rcases List.append_eq_append_iff.1 h with ⟨t,e1,e2⟩|⟨t,e1,e2⟩
 .have:=key e2 e1 h1 k2
  subst this
  exact⟨by simpa using e2,by simpa using e1.symm⟩
 .have:=key e2 e1 h2 k1
  subst this
  exact⟨by simpa using e2.symm,by simpa using e1⟩

theorem C9.uniq{cs p1 g1 g2 p2 q1 h1 h2 q2:List Cel}{c d:Cel}{j x y x' y' H:Nat}(ht:Au 0 cs H)(a:C9 cs j p1 g1 c g2 p2 x y)(b:C9 cs j q1 h1 d h2 q2 x' y'):x=x'/\y=y'/\p1=q1/\p2=q2:=by
 obtain⟨a1,a2,a3,a4,a5,a6,a7,a8,a9,a10⟩:=a
 obtain⟨b1,b2,b3,b4,b5,b6,b7,b8,b9,b10⟩:=b
 have e:(p1++g1)++c::(g2++p2)=(q1++h1)++d::(h2++q2):=by
  have:p1++(g1++c::g2++p2)=q1++(h1++d::h2++q2):=a1.symm.trans b1
  simpa using this
 have t:Au 0 ((p1++g1)++c::(g2++p2)) H:=by
  have:=ht
  rw[a1] at this
  simpa using this
 obtain⟨e1,e2,e3⟩:=cut_uniq t e (a2.trans b2.symm)
 obtain⟨f1,f2⟩:=ends_uniq e1 a6 b6 a4 b4
 obtain⟨f3,f4⟩:=starts_uniq e3 a7 b7 a5 b5
 subst f1 f2 f3 f4 e2
 have:=a8.uniq b8
 subst this
 exact⟨rfl,a9.uniq b9,rfl,rfl⟩

theorem CellsAt.store{P:Sp}{W:Nat->Nat}{cs:List Cel}(h:CellsAt P W cs){c:Cel}(hc:c∈cs){k:Nat}(h1:2*c.g<k)(h2:k<2*c.fin)(z:Nat):CellsAt P (Ca W k z) cs:=
 ⟨h.tl,λ d hd=>by
  have hm:=h.tl.mem hd
  rw[Ca,if_neg]
  .exact h.hd d hd
  .intro e
   have:=cell_only h.tl hc hd (j:=d.g) (by omega) (by omega) (Nat.le_refl _) (by unfold Cel.fin;omega)
   subst this
   omega,h.ok⟩

def BH:Nat->List Cel->Nat->Prop
 |e,[],H=>e<=H
 |e,o::os,H=>e<=o.g/\o.tag=1/\0<o.sz/\BH o.fin os H

def AR(W:Nat->Nat):Nat->List Cel->Nat->(Nat->Nat)
 |e,[],H=>AX W e (H-e)
 |e,o::os,H=>AR (AX W e (o.g-e)) o.fin os H
def Bd:Nat->List Cel->Nat->List Cel
 |e,[],H=>Fx e (H-e)
 |e,o::os,H=>Fx e (o.g-e)++o::Bd o.fin os H

theorem BH.le:∀ {os:List Cel} {e H:Nat},BH e os H->e<=H
 |[],e,H,h=>h
 |o::os,e,H,⟨h1,h2,h3,h4⟩=>by have:=h4.le;unfold Cel.fin at this;omega

theorem BH.mem:∀ {os:List Cel} {e H:Nat} {o:Cel},BH e os H->o∈os->e<=o.g/\o.tag=1/\0<o.sz/\o.fin<=H
 |o::os,e,H,x,⟨h1,h2,h3,h4⟩,hx=>by
  rcases List.mem_cons.1 hx with r|r
  .subst r;exact ⟨h1,h2,h3,h4.le⟩
  .have:=BH.mem h4 r
   unfold Cel.fin at*
   exact⟨by omega,this.2.1,this.2.2.1,by omega⟩

theorem Fy:∀ {os:List Cel} {e H:Nat},BH e os H->Au e (Bd e os H) H
 |[],e,H,h=>by
  have:=Eb e (H-e)
  rwa [show e+(H-e)=H by have:e<=H:=h;omega] at this
 |o::os,e,H,⟨h1,h2,h3,h4⟩=>by
  have t:=Eb e (o.g-e)
  rw[show e+(o.g-e)=o.g by omega] at t
  exact t.app ⟨rfl,h3,Fy h4⟩

theorem settleW_low:∀ {os:List Cel} {W:Nat->Nat} {e H k:Nat},BH e os H->k<e->AR W e os H (2*k)=W (2*k)
 |[],W,e,H,k,h,hk=>CR (by intro;omega)
 |o::os,W,e,H,k,⟨h1,h2,h3,h4⟩,hk=>by
  unfold AR
  rw[settleW_low h4 (by unfold Cel.fin;omega)]
  exact CR (by intro;omega)

theorem settleW_heads:∀ {os:List Cel} {W:Nat->Nat} {e H:Nat} {ts:List TypR},BH e os H->H<=65536->(∀ o∈os,W (2*o.g)=Bl o.tag o.ty o.ln o.sz)->HeadsAt (AR W e os H) (Bd e os H)
 |[],W,e,H,ts,h,hH,hw=>λ c hc=>by
  obtain⟨h0,rfl⟩:=Cm hc
  unfold AR
  rw[EL h0]
 |o::os,W,e,H,ts,⟨h1,h2,h3,h4⟩,hH,hw=>λ c hc=>by
  have hlow:∀ k,k<o.fin->AR (AX W e (o.g-e)) o.fin os H (2*k)=AX W e (o.g-e) (2*k):=λ k hk=>settleW_low h4 hk
  unfold AR
  rcases List.mem_append.1 hc with m|m
  .obtain ⟨h0,rfl⟩:=Cm m
   rw[hlow e (by unfold Cel.fin;omega),EL h0]
  .rcases List.mem_cons.1 m with m|m
   .subst m
    rw[hlow c.g (by unfold Cel.fin;omega),CR (by intro;omega)]
    exact hw c (List.mem_cons_self ..)
   .refine settleW_heads (ts:=ts) h4 hH (λ x hx=>?_) c m
    have:=h4.mem hx
    rw[CR (by unfold Cel.fin at *;intro;omega)]
    exact hw x (List.mem_cons_of_mem _ hx)

theorem settleL_mem:∀ {os:List Cel} {e H:Nat} {c:Cel},BH e os H->c∈Bd e os H->c∈os\/∃ g m,0<m/\m<=H/\c=⟨g,Dx m,0,0,m⟩
 |[],e,H,c,hr,h=>by
  obtain⟨h0,rfl⟩:=Cm h
  exact .inr ⟨e,H-e,h0,by omega,rfl⟩
 |o::os,e,H,c,⟨h1,h2,h3,h4⟩,h=>by
  have hl:=h4.le
  unfold Cel.fin at hl
  rcases List.mem_append.1 h with m|m
  .obtain ⟨h0,rfl⟩:=Cm m
   exact .inr ⟨e,o.g-e,h0,by omega,rfl⟩
  .rcases List.mem_cons.1 m with m|m
   .exact .inl (by rw[m];exact List.mem_cons_self ..)
   .rcases settleL_mem h4 m with k|k
    .exact .inl (List.mem_cons_of_mem _ k)
    .exact .inr k

theorem Fz:∀ {os:List Cel} {e H:Nat} (i:Nat),Ar (Bd e os H) i=Ar os i
 |[],e,H,i=>DJ e (H-e) i
 |o::os,e,H,i=>by
  unfold Bd
  rw[AZ,DJ,Bool.false_or]
  show((o.tag==1&&o.g==i)||Ar (Bd o.fin os H) i)=((o.tag==1&&o.g==i)||Ar os i)
  rw[Fz i]

theorem settle_cells{P:Sp}{W:Nat->Nat}{os:List Cel}(hn:P.n<=65536)(hr:BH 0 os (P.n/2))(hw:∀ o∈os,W (2*o.g)=Bl o.tag o.ty o.ln o.sz)(hok:∀ o∈os,C8 P.ts o):CellsAt P (AR W 0 os (P.n/2)) (Bd 0 os (P.n/2)):=
 ⟨Fy hr,settleW_heads (ts:=P.ts) hr (by omega) hw,λ c hc=>by
  rcases settleL_mem hr hc with m|⟨g,m,h0,h1,rfl⟩
  .exact hok c m
  .exact gap_ok h0 (by omega)⟩

theorem Eg{W:Nat->Nat}{n:Nat}{ts:List TypR}{g:Int}{c:Cel}(h:BO W n ts g=some c)(hf:∀ j,j<n->W j<18446744073709551616):
  g=(c.g:Nat)/\c.tag=1/\0<c.sz/\c.fin<=n/2/\W (2*c.g)=Bl c.tag c.ty c.ln c.sz/\C8 ts c:=by
 unfold BO at h
 split at h
 .rename_i hh
  obtain⟨h0,h1,h2,h3,h4,h5⟩:=hh
  injection h with h
  subst h
  obtain⟨e1,e2,e3⟩:=fitsE_zero h4
  have hd:=h2
  unfold BJ at hd
  simp only[Bool.and_eq_true,decide_eq_true_eq] at hd
  have hk:=hd.1
  have hW:W (2*g.toNat)<18446744073709551616:=hf _ (by omega)
  have he:=(enc_back hW).2 hd.2
  rw[h3] at he
  have h1s:1<=DL (W (2*g.toNat)):=by
   unfold Am at hk
   have:=of_decide_eq_true hk
   omega
  refine⟨(Int.toNat_of_nonneg h0).symm,rfl,h1s,by unfold Cel.fin;simp only;omega,he.symm,?_⟩
  exact⟨e1,λ _=>⟨e2,e3⟩⟩
 .cases h

def Be(W:Nat->Nat)(n:Nat)(ts:List TypR)(x:Nat->Int):Nat->Nat->Nat->Option (List Cel)
 |i,0,e=>some []
 |i,k+1,e=>match BO W n ts (x i) with
  |none=>none
  |some c=>if x i<(e:Int) then none else match Be W n ts x (i+1) k c.fin with
   |none=>none
   |some os=>some (c::os)

theorem settleR_none{W:Nat->Nat}{n:Nat}{ts:List TypR}{x:Nat->Int}{i k e:Nat}(h:BO W n ts (x i)=none):Be W n ts x i (k+1) e=none:=by
 rw[Be,h]

theorem settleR_low{W:Nat->Nat}{n:Nat}{ts:List TypR}{x:Nat->Int}{i k e:Nat}{c:Cel}(h:BO W n ts (x i)=some c)(hl:x i<(e:Int)):Be W n ts x i (k+1) e=none:=by
 rw[Be,h];simp only;rw [if_pos hl]

theorem settleR_some{W:Nat->Nat}{n:Nat}{ts:List TypR}{x:Nat->Int}{i k e:Nat}{c:Cel}(h:BO W n ts (x i)=some c)(hl:¬ x i<(e:Int)):Be W n ts x i (k+1) e=(Be W n ts x (i+1) k c.fin).map (c::·):=by
 rw[Be,h];simp only;rw [if_neg hl]
 cases Be W n ts x (i+1) k c.fin <;> rfl

theorem Dc{W:Nat->Nat}{n:Nat}{ts:List TypR}{x:Nat->Int}(hf:∀ j,j<n->W j<18446744073709551616):∀ {k i e:Nat} {os:List Cel},Be W n ts x i k e=some os->e<=n/2->
  BH e os (n/2)/\os.length=k/\(∀ j o,os[j]?=some o->x (i+j)=(o.g:Nat))/\∀ o∈os,BO W n ts (o.g:Nat)=some o
 |0,i,e,os,h,he=>by
  injection h with h
  subst h
  exact⟨he,rfl,λ j o h=>by simp at h,λ o h=>by cases h⟩
 |k+1,i,e,os,h,he=>by
  cases hc:BO W n ts (x i) with
  |none=>rw [settleR_none hc] at h;cases h
  |some c=>
   by_cases hl:x i<(e:Int)
   .rw [settleR_low hc hl] at h;cases h
   .rw [settleR_some hc hl] at h
    cases hr:Be W n ts x (i+1) k c.fin with
    |none=>rw [hr] at h;cases h
    |some os'=>
     rw[hr] at h
     injection h with h
     subst h
     obtain⟨h1,h2,h3,h4,h5,h6⟩:=Eg hc hf
     obtain⟨r1,r2,r3,r4⟩:=Dc hf hr h4
     refine⟨⟨by omega,h2,h3,r1⟩,by simp[r2],λ j o ho=>?_,λ o ho=>?_⟩
     .cases j with
      |zero=>simp at ho;subst ho;exact h1
      |succ j=>
       have:=r3 j o (by simpa using ho)
       rw[<- this];congr 1;omega
     .rcases List.mem_cons.1 ho with m|m
      .rw [m,<- h1];exact hc
      .exact r4 o m

theorem settleR_cells{P:Sp}{W:Nat->Nat}{x:Nat->Int}{len:Nat}{os:List Cel}(hn:P.n<=65536)(hf:∀ j,j<P.n->W j<18446744073709551616)(h:Be W P.n P.ts x 0 len 0=some os):
  CellsAt P (AR W 0 os (P.n/2)) (Bd 0 os (P.n/2)):=by
 obtain⟨r1,-,-,r4⟩:=Dc hf h (Nat.zero_le _)
 exact settle_cells hn r1 (λ o ho=>(Eg (r4 o ho) hf).2.2.2.2.1) (λ o ho=>(Eg (r4 o ho) hf).2.2.2.2.2)

def BX(W:Nat->Nat)(n:Nat)(ts:List TypR)(x:Nat->Int)(len i:Nat)(os:List Cel)(e:Nat):Prop:=
 Be W n ts x 0 len 0=(Be W n ts x i (len-i) e).map (os++·)/\os.length=i/\e<=n/2/\(∀ j o,os[j]?=some o->x j=(o.g:Nat))/\e=(os.getLast?.map Cel.fin).getD 0

theorem BX.start(W:Nat->Nat)(n:Nat)(ts:List TypR)(x:Nat->Int)(len:Nat):BX W n ts x len 0 [] 0:=
 ⟨by simp,rfl,Nat.zero_le _,λ j o h=>by simp at h,rfl⟩

theorem BX.fails{W:Nat->Nat}{n:Nat}{ts:List TypR}{x:Nat->Int}{len i e:Nat}{os:List Cel}(h:BX W n ts x len i os e)(hi:i<len)(ho:BO W n ts (x i)=none\/x i<(e:Int)):Be W n ts x 0 len 0=none:=by
 rw[h.1,show len-i=(len-i-1)+1 by omega]
 rcases ho with ho|ho
 .rw [settleR_none ho];rfl
 .cases hc:BO W n ts (x i) with
  |none=>rw [settleR_none hc];rfl
  |some c=>rw [settleR_low hc ho];rfl

theorem BX.next{W:Nat->Nat}{n:Nat}{ts:List TypR}{x:Nat->Int}{len i e:Nat}{os:List Cel}{c:Cel}(h:BX W n ts x len i os e)(hi:i<len)(hf:∀ j,j<n->W j<18446744073709551616)(hc:BO W n ts (x i)=some c)(hl:¬ x i<(e:Int)):BX W n ts x len (i+1) (os++[c]) c.fin:=by
 obtain⟨h1,h2,h3,h4,h5,h6⟩:=Eg hc hf
 refine⟨?_,by simp[h.2.1],h4,λ j o ho=>?_,by simp⟩
 .rw [h.1,show len-i=(len-(i+1))+1 by omega,settleR_some hc hl,Option.map_map]
  congr 1
  funext l
  simp
 .rcases Nat.lt_or_ge j os.length with hj|hj
  .exact h.2.2.2.1 j o (by rwa [List.getElem?_append_left hj] at ho)
  .rw [List.getElem?_append_right hj] at ho
   have hj2:j=os.length:=by
    rcases Nat.eq_or_lt_of_le hj with r|r
    .exact r.symm
    .have:j-os.length≠0:=by omega
     rw[List.getElem?_cons,if_neg this] at ho
     simp at ho
   subst hj2
   simp at ho
   subst ho
   rw[h.2.1];exact h1

theorem BX.done{W:Nat->Nat}{n:Nat}{ts:List TypR}{x:Nat->Int}{len e:Nat}{os:List Cel}(h:BX W n ts x len len os e):Be W n ts x 0 len 0=some os:=by
 rw[h.1,Nat.sub_self];simp [Be]

theorem settle_step{W:Nat->Nat}{e H j:Nat}{os:List Cel}{o:Cel}(h:os[j]?=some o):AR W e (os.drop j) H=AR (AX W e (o.g-e)) o.fin (os.drop (j+1)) H:=by
 have hj:=(gE.1 h).1
 rw[List.drop_eq_getElem_cons hj,(gE.1 h).2]
 rfl

theorem rising_step{e H j:Nat}{os:List Cel}{o:Cel}(h:os[j]?=some o)(hr:BH e (os.drop j) H):e<=o.g/\0<o.sz/\o.fin<=H/\BH o.fin (os.drop (j+1)) H:=by
 have hj:=(gE.1 h).1
 rw[List.drop_eq_getElem_cons hj,(gE.1 h).2] at hr
 exact⟨hr.1,hr.2.2.1,hr.2.2.2.le,hr.2.2.2⟩

end

section
open Go.RowKit

theorem CellsAt.obj{P:Sp}{W:Nat->Nat}{cs:List Cel}(h:CellsAt P W cs){c:Cel}(hc:c∈cs)(ht:c.tag=1):BO W P.n P.ts (c.g:Nat)=some c:=by
 have hok:=h.ok c hc
 have hm:=h.tl.mem hc
 obtain⟨d1,d2,d3,d4,d5⟩:=dec_enc hok.1
 have hW:=h.hd c hc
 have hf:=fitsE_ok hok
 unfold BO
 rw[Int.toNat_natCast,hW,d1,d2,d3,d4,d5,ht]
 rw[ht] at hf
 rw[if_pos ⟨by omega,by omega,rfl,rfl,hf,by omega⟩]
 obtain⟨g,tag,ty,ln,sz⟩:=c
 simp only at ht
 subst ht
 rfl

def SlotsPost(P:Sp)(cs:List Cel)(g:Int)(w:World)(e:Ending)(w':World):Prop:=
 ∃ r:Int,e=.returned (.int .i64 r)/\Kp Ab w w'/\((∃ c k wds m,c∈cs/\c.tag=1/\(c.g:Int)=g/\typeOf P.ts (c.ty:Nat)=some ⟨k,wds,m⟩/\r=AL k wds (c.ln:Nat))\/((∀ c∈cs,c.tag=1->¬ (c.g:Int)=g)/\r=0))

def SlotsCut(x:Cel)(k wds:Int)(m:Nat)(w:World)(a b e:Value)(wx:World):Prop:=
 ∃ b1 b2,a=.pointer (some ⟨b1,0,none⟩)/\b=.pointer (some ⟨b2,0,none⟩)/\e=.int .i64 0/\wx.heap[b1]?=some (.cells #[.int .u8 1,.int .i64 (x.ty:Nat),.int .i64 (x.ln:Nat),.int .i64 (x.sz:Nat)] 52 (0,0))/\
  wx.heap[b2]?=some (.cells #[.int .u8 k,.int .i64 wds,.int .u64 (m:Nat)] 86 (0,0))/\Kp Ab w wx

set_option maxRecDepth 20000 in
theorem DSl_any(P:Sp)(W:Nat->Nat)(cs:List Cel)(rb q:Nat)(lv:Value)(g:Int)(w:World)(hd:DocAt w rb q P.n W lv)(hc:CellsAt P W cs)(hv:A9 w lv P.ts)(hl:P.ts.length<=17592186044416)(hM:Dm P.ts):
  Calls prog 87 #[.pointer (some ⟨rb,0,none⟩),.int .i64 g] w (SlotsPost P cs g w):=by
 have hlen:cs.length<=32768:=by
  have:=Ci hc.tl
  have:=hd.row.small
  omega
 have HAll:=sE (DAll_at P W cs rb q lv w hd hc hv hl hM)
 have hlt:=hd.lt
 have hn:=hd.row.small
 have HD:=sE hd
 have HC:=sE hc
 have HV:=sE hv
 have HMs:=sE hM
 have HLl:=sE hl
 clear hd hv hM hl hc
 go_enter func87,ntmps87
 go_wp2_with fail
 refine HAll.out.mono ?_
 rintro e wl ⟨v,rfl,hown,kl⟩
 have HKL:=sE kl
 have HRow:=sE (RowC.BK hown)
 obtain⟨va,vc,hva,-⟩:=HRow.out
 subst hva
 obtain⟨len,hlen'⟩:∃ len,cs.length=len:=⟨_,rfl⟩
 rw[hlen'] at HRow hlen ⊢
 have HLen:=sE hlen'
 clear hown kl HAll hlen'
 go_wp2_with fail
 go_loopw [6] (λ y wr=>∃ j:Nat,j<=len/\y=.int .i64 (j:Nat)/\Kp Ab w wr/\Kp Ab wl wr/\Sl (∀ m x,m<j->cs[m]?=some x->¬ (x.tag=1/\(x.g:Int)=g))) (λ y _=>len-(intOf y).toNat)
 case atStart=>exact ⟨0,Nat.zero_le _,rfl,HKL.out,Kr _ _,⟨λ m x h=>by omega⟩⟩
 case round=>
  obtain⟨j,hj,rfl,hkw,hkk,hno⟩:=hrel
  have HKK:=sE hkk
  have HKW:=sE hkw
  by_cases hjl:j<len
  .have hjl':(j:Int)<(len:Int):=by omega
   obtain⟨x,hx⟩:∃ x,cs[j]?=some x:=⟨cs[j]'(by rw[HLen.out];exact hjl),by simp⟩
   obtain⟨a',cap',ha',hrow⟩:=HRow.out.Ad hkk
   obtain⟨b,hab,hb0,r0,r1,r2,r3,r4⟩:=hrow j x hx
   have hva:va=some ⟨b,0,none⟩:=by injection ha' with h1;rw [h1];exact hab
   subst hva
   have hxm:x∈cs:=List.mem_of_getElem? hx
   have HX:=sE hx
   have HXm:=sE hxm
   clear hx hxm hrow ha' hab hkk hkw
   by_cases q1:(x.g:Int)=g/\x.tag=1
   .obtain ⟨q1,q2⟩:=q1
    have p1:((x.g:Int)==g)=true:=by simp[q1]
    have p2:((x.tag:Int)==1)=true:=by simp[q2]
    have hok:=HC.out.ok x HXm.out
    obtain⟨e1,e2⟩:=hok.2 q2
    obtain⟨k,wds,m,hty⟩:=EZ e1
    obtain⟨capr,c0,c1⟩:=(HD.out.Ad HKW.out).head
    have hE:AP k wds m (x.ln:Nat)=0:=by unfold AQ at e1;rw [hty] at e1;exact e1
    have hMm:m<18446744073709551616:=HMs.out _ (typeOf_mem hty)
    have HSlot:Sl (∀ W',Calls prog 133 #[.agg #[.int .u8 k,.int .i64 wds,.int .u64 (m:Nat)],.int .i64 (x.ln:Nat)] W' λ e w'=>e=.returned (.tuple #[.int .i64 (AL k wds (x.ln:Nat)),.int .i64 0])/\Kp Ab W' w'):=⟨λ W'=>by
     have hh:=DSlots_any k wds m (x.ln:Nat) W' hMm
     unfold EQ at hh
     rw[hE,if_pos rfl] at hh
     exact hh⟩
    obtain⟨S,hS⟩:∃ S,AL k wds (x.ln:Nat)=S:=⟨_,rfl⟩
    have HS:=sE hS
    rw[hS] at HSlot
    have HT:=sE hty
    have HOf:Sl (∀ W',Kp Ab wr W'->Calls prog 132 #[.slice (some ⟨q,0,none⟩) P.n capr,lv,.int .i64 g] W' λ e w'=>e=.returned (.tuple #[.agg #[.int .u8 1,.int .i64 (x.ty:Nat),.int .i64 (x.ln:Nat),.int .i64 (x.sz:Nat)],.agg #[.int .u8 k,.int .i64 wds,.int .u64 (m:Nat)],.int .i64 0])/\Kp Ab W' w'):=⟨λ W' kk=>by
     refine(DOf_any g q P.n capr W lv P.ts W' (HD.out.row.Ad (HKW.out.then' kk)) (HV.out.Ad (HKW.out.then' kk)) HLl.out HMs.out).mono λ e w' hp=>?_
     unfold Ej at hp
     rw[<- q1,HC.out.obj HXm.out q2] at hp
     obtain⟨k',wds',m',h1,h2,h3⟩:=hp
     rw[HT.out] at h1
     injection h1 with h1
     injection h1 with h1 h1' h1''
     subst h1 h1' h1''
     exact⟨h2,h3⟩⟩
    have HQ1:=sE q1
    have HQ2:=sE q2
    have hrb:rb<wr.heap.size:=Nat.lt_of_lt_of_le hlt HKW.out.size
    have r4':=r3
    clear q1 q2 hok e1 e2 hty hE hMm hS
    go_upto_region 6 with fail
    go_cut [7,8,9] from 36 to 49 (λ a b e wx=>SlotsCut x k wds m wr a b e wx)
    case first=>
     have kk0:Kp Ab wr wr.drew:=(Kr _ _).drew
     refine wp_region_held_drew (S:=(λ w'=>w'.cell? ⟨rb,0,none⟩=some (.slice (some ⟨q,0,none⟩) P.n capr)/\w'.cell? ⟨rb,1,none⟩=some lv)) (by kernel_rfl) ?_ (λ qZ=>?_)
     .exact ⟨Kz c0,Kz c1⟩
     refine Ao 0 ?_;refine Ao 1 ?_;refine Ao 2 ?_;refine Ao 3 ?_;refine Ao 4 ?_;refine Ao 5 ?_;refine Ao 6 ?_;refine Ao 7 ?_;refine Ao 8 ?_
     try simp only[Aw]
     refine AV [9,14,15] ?_
     refine Ai rfl (λ K hK=>?_) ?_
     .go_simp
      with_reducible refine(HOf.out _ kk0).mono ?_
      rintro e wc1 ⟨rfl,kc2⟩
      have kk3:=kk0.then' kc2
      refine hK _ _ ?_ (λ qZ=>?_)
      .exact ⟨Kz c0,Kz c1⟩
      clear hK K
      try simp only[Aw]
      refine Ao 10 ?_;refine Ao 11 ?_;refine Ao 12 ?_;refine Ao 13 ?_
      try simp only[Aw]
      refine AV [14,15] ?_
      refine Ai rfl (λ K hK=>?_) ?_
      .go_simp
       obtain⟨wa4,hw5⟩:∃ wa4,wa4=World.alloc wc1 (.cells #[.int .u8 0,.int .i64 0,.int .i64 0,.int .i64 0] 52):=⟨_,rfl⟩
       rw[<- hw5]
       have ka6:Kp Ab wc1 wa4:=by rw[hw5];exact ((Kr _ _).alloc _)
       have hge8:wr.heap.size<=wc1.heap.size:=kk3.size
       have hb7:wa4.heap[wc1.heap.size]?=some (.cells #[.int .u8 0,.int .i64 0,.int .i64 0,.int .i64 0] 52 (0,0)):=by rw[hw5];exact wN _ _
       have hl9:wc1.heap.size<wa4.heap.size:=lZ hb7
       have kk10:=kk3.then' ka6
       have HW11:=sE hw5
       clear hw5
       refine hK _ _ ?_ (λ qZ=>?_)
       .exact ⟨Kz c0,Kz c1⟩
       clear hK K
       try simp only[Aw]
       refine AV [15] ?_
       refine Ai rfl (λ K hK=>?_) ?_
       .go_simp
        obtain⟨wa12,hw13⟩:∃ wa12,wa12=World.alloc wa4 (.cells #[.int .u8 0,.int .i64 0,.int .u64 0] 86):=⟨_,rfl⟩
        rw[<- hw13]
        have ka14:Kp Ab wa4 wa12:=by rw[hw13];exact ((Kr _ _).alloc _)
        have hge16:wr.heap.size<=wa4.heap.size:=kk10.size
        have hb15:wa12.heap[wa4.heap.size]?=some (.cells #[.int .u8 0,.int .i64 0,.int .u64 0] 86 (0,0)):=by rw[hw13];exact wN _ _
        have hl17:wa4.heap.size<wa12.heap.size:=lZ hb15
        have hx18:=lZ hb7
        have hb19:=ka14.at_ hb7 (λ h=>h)
        have kk20:=kk10.then' ka14
        have HW21:=sE hw13
        clear hw13
        refine hK _ _ ?_ (λ qZ=>?_)
        .exact ⟨Kz c0,Kz c1⟩
        clear hK K
        try simp only[Aw]
        have hsz:=lZ hb19
        obtain⟨d0,d1,d2,d3⟩:=Ay hb19
        have f0:=Ae hb19;have f00:=f0 0;have f01:=f0 1;have f02:=f0 2;have f03:=f0 3
        refine AV [16] ?_
        refine Ag rfl (λ K hK=>?_)
        clear f0
        go_simp
        obtain⟨wz22,hz23⟩:∃ wz22,wz22=World.setCell (World.setCell (World.setCell (World.setCell (wa12) ⟨wc1.heap.size,0,none⟩ (.int .u8 1)) ⟨wc1.heap.size,1,none⟩ (.int .i64 (x.ty:Nat))) ⟨wc1.heap.size,2,none⟩ (.int .i64 (x.ln:Nat))) ⟨wc1.heap.size,3,none⟩ (.int .i64 (x.sz:Nat)):=⟨_,rfl⟩
        rw[<- hz23]
        obtain⟨tz24,kz25⟩:=Bn hb19 _ _ _ _ wz22 hz23
        have hb26:=kz25.at_ hb15 (λ h=>by have h':wa4.heap.size=wc1.heap.size:=h;omega)
        have kk27:Kp Ab wr wz22:=kk20.trans kz25 (λ i hi h=>by have h':i=wc1.heap.size:=h;(try have hq:=Nat.le_of_eq h');(first|omega|(simp only[World.size_drew] at *;omega)))
        clear hz23 d0 f00 d1 f01 d2 f02 d3 f03
        refine hK _ _ ?_ (λ qZ=>?_)
        .exact ⟨Kz c0,Kz c1⟩
        clear hK K
        try simp only[Aw]
        have hsz:=lZ hb26
        obtain⟨d0,d1,d2⟩:=cells3 hb26
        have f0:=Ae hb26;have f00:=f0 0;have f01:=f0 1;have f02:=f0 2
        refine AV [17] ?_
        refine Ag rfl (λ K hK=>?_)
        clear f0
        go_simp
        obtain⟨wz28,hz29⟩:∃ wz28,wz28=World.setCell (World.setCell (World.setCell (wz22) ⟨wa4.heap.size,0,none⟩ (.int .u8 k)) ⟨wa4.heap.size,1,none⟩ (.int .i64 wds)) ⟨wa4.heap.size,2,none⟩ (.int .u64 (m:Nat)):=⟨_,rfl⟩
        rw[<- hz29]
        obtain⟨tz30,kz31⟩:=Bz hb26 _ _ _ wz28 hz29
        have hb32:=kz31.at_ tz24 (λ h=>by have h':wc1.heap.size=wa4.heap.size:=h;omega)
        have kk33:Kp Ab wr wz28:=kk27.trans kz31 (λ i hi h=>by have h':i=wa4.heap.size:=h;(try have hq:=Nat.le_of_eq h');(first|omega|(simp only[World.size_drew] at *;omega)))
        clear hz29 d0 f00 d1 f01 d2 f02
        refine hK _ _ ?_ (λ qZ=>?_)
        .exact ⟨Kz c0,Kz c1⟩
        clear hK K
        try simp only[Aw]
        refine Ao 18 ?_
        try simp only[Aw]
        refine wpAnyH_done (by kernel_rfl) ?_ _
        go_wp2_with fail
        go_meet
        exact⟨_,_,rfl,rfl,rfl,hb32,tz30,kk33⟩
       exact AllReadyH.nil
      refine Ai rfl (λ K hK=>?_) ?_
      .go_simp
       obtain⟨wa34,hw35⟩:∃ wa34,wa34=World.alloc wc1 (.cells #[.int .u8 0,.int .i64 0,.int .u64 0] 86):=⟨_,rfl⟩
       rw[<- hw35]
       have ka36:Kp Ab wc1 wa34:=by rw[hw35];exact ((Kr _ _).alloc _)
       have hge38:wr.heap.size<=wc1.heap.size:=kk3.size
       have hb37:wa34.heap[wc1.heap.size]?=some (.cells #[.int .u8 0,.int .i64 0,.int .u64 0] 86 (0,0)):=by rw[hw35];exact wN _ _
       have hl39:wc1.heap.size<wa34.heap.size:=lZ hb37
       have kk40:=kk3.then' ka36
       have HW41:=sE hw35
       clear hw35
       refine hK _ _ ?_ (λ qZ=>?_)
       .exact ⟨Kz c0,Kz c1⟩
       clear hK K
       try simp only[Aw]
       refine AV [14] ?_
       refine Ai rfl (λ K hK=>?_) ?_
       .go_simp
        obtain⟨wa42,hw43⟩:∃ wa42,wa42=World.alloc wa34 (.cells #[.int .u8 0,.int .i64 0,.int .i64 0,.int .i64 0] 52):=⟨_,rfl⟩
        rw[<- hw43]
        have ka44:Kp Ab wa34 wa42:=by rw[hw43];exact ((Kr _ _).alloc _)
        have hge46:wr.heap.size<=wa34.heap.size:=kk40.size
        have hb45:wa42.heap[wa34.heap.size]?=some (.cells #[.int .u8 0,.int .i64 0,.int .i64 0,.int .i64 0] 52 (0,0)):=by rw[hw43];exact wN _ _
        have hl47:wa34.heap.size<wa42.heap.size:=lZ hb45
        have hx48:=lZ hb37
        have hb49:=ka44.at_ hb37 (λ h=>h)
        have kk50:=kk40.then' ka44
        have HW51:=sE hw43
        clear hw43
        refine hK _ _ ?_ (λ qZ=>?_)
        .exact ⟨Kz c0,Kz c1⟩
        clear hK K
        try simp only[Aw]
        have hsz:=lZ hb45
        obtain⟨d0,d1,d2,d3⟩:=Ay hb45
        have f0:=Ae hb45;have f00:=f0 0;have f01:=f0 1;have f02:=f0 2;have f03:=f0 3
        refine AV [16] ?_
        refine Ag rfl (λ K hK=>?_)
        clear f0
        go_simp
        obtain⟨wz52,hz53⟩:∃ wz52,wz52=World.setCell (World.setCell (World.setCell (World.setCell (wa42) ⟨wa34.heap.size,0,none⟩ (.int .u8 1)) ⟨wa34.heap.size,1,none⟩ (.int .i64 (x.ty:Nat))) ⟨wa34.heap.size,2,none⟩ (.int .i64 (x.ln:Nat))) ⟨wa34.heap.size,3,none⟩ (.int .i64 (x.sz:Nat)):=⟨_,rfl⟩
        rw[<- hz53]
        obtain⟨tz54,kz55⟩:=Bn hb45 _ _ _ _ wz52 hz53
        have hb56:=kz55.at_ hb49 (λ h=>by have h':wc1.heap.size=wa34.heap.size:=h;omega)
        have kk57:Kp Ab wr wz52:=kk50.trans kz55 (λ i hi h=>by have h':i=wa34.heap.size:=h;(try have hq:=Nat.le_of_eq h');(first|omega|(simp only[World.size_drew] at *;omega)))
        clear hz53 d0 f00 d1 f01 d2 f02 d3 f03
        refine hK _ _ ?_ (λ qZ=>?_)
        .exact ⟨Kz c0,Kz c1⟩
        clear hK K
        try simp only[Aw]
        have hsz:=lZ hb56
        obtain⟨d0,d1,d2⟩:=cells3 hb56
        have f0:=Ae hb56;have f00:=f0 0;have f01:=f0 1;have f02:=f0 2
        refine AV [17] ?_
        refine Ag rfl (λ K hK=>?_)
        clear f0
        go_simp
        obtain⟨wz58,hz59⟩:∃ wz58,wz58=World.setCell (World.setCell (World.setCell (wz52) ⟨wc1.heap.size,0,none⟩ (.int .u8 k)) ⟨wc1.heap.size,1,none⟩ (.int .i64 wds)) ⟨wc1.heap.size,2,none⟩ (.int .u64 (m:Nat)):=⟨_,rfl⟩
        rw[<- hz59]
        obtain⟨tz60,kz61⟩:=Bz hb56 _ _ _ wz58 hz59
        have hb62:=kz61.at_ tz54 (λ h=>by have h':wa34.heap.size=wc1.heap.size:=h;omega)
        have kk63:Kp Ab wr wz58:=kk57.trans kz61 (λ i hi h=>by have h':i=wc1.heap.size:=h;(try have hq:=Nat.le_of_eq h');(first|omega|(simp only[World.size_drew] at *;omega)))
        clear hz59 d0 f00 d1 f01 d2 f02
        refine hK _ _ ?_ (λ qZ=>?_)
        .exact ⟨Kz c0,Kz c1⟩
        clear hK K
        try simp only[Aw]
        refine Ao 18 ?_
        try simp only[Aw]
        refine wpAnyH_done (by kernel_rfl) ?_ _
        go_wp2_with fail
        go_meet
        exact⟨_,_,rfl,rfl,rfl,hb62,tz60,kk63⟩
       exact AllReadyH.nil
      exact AllReadyH.nil
     refine Ai rfl (λ K hK=>?_) ?_
     .go_simp
      obtain⟨wa64,hw65⟩:∃ wa64,wa64=World.drew (World.alloc wr (.cells #[.int .u8 0,.int .i64 0,.int .i64 0,.int .i64 0] 52)):=⟨_,rfl⟩
      rw[<- hw65]
      have ka66:Kp Ab wr wa64:=by rw[hw65];exact ((Kr _ _).alloc _).drew
      have hge68:wr.heap.size<=wr.heap.size:=kk0.size
      have hb67:wa64.heap[wr.heap.size]?=some (.cells #[.int .u8 0,.int .i64 0,.int .i64 0,.int .i64 0] 52 (0,0)):=by rw[hw65];exact wN _ _
      have hl69:wr.heap.size<wa64.heap.size:=lZ hb67
      have kk70:=ka66
      have HW71:=sE hw65
      clear hw65
      refine hK _ _ ?_ (λ qZ=>?_)
      .exact ⟨Kz c0,Kz c1⟩
      clear hK K
      try simp only[Aw]
      refine AV [9,15] ?_
      refine Ai rfl (λ K hK=>?_) ?_
      .go_simp
       with_reducible refine(HOf.out _ kk70).mono ?_
       rintro e wc72 ⟨rfl,kc73⟩
       have hb74:=kc73.at_ hb67 (λ h=>h)
       have kk75:=kk70.then' kc73
       refine hK _ _ ?_ (λ qZ=>?_)
       .exact ⟨Kz c0,Kz c1⟩
       clear hK K
       try simp only[Aw]
       refine Ao 10 ?_;refine Ao 11 ?_;refine Ao 12 ?_;refine Ao 13 ?_
       try simp only[Aw]
       refine AV [15] ?_
       refine Ai rfl (λ K hK=>?_) ?_
       .go_simp
        obtain⟨wa76,hw77⟩:∃ wa76,wa76=World.alloc wc72 (.cells #[.int .u8 0,.int .i64 0,.int .u64 0] 86):=⟨_,rfl⟩
        rw[<- hw77]
        have ka78:Kp Ab wc72 wa76:=by rw[hw77];exact ((Kr _ _).alloc _)
        have hge80:wr.heap.size<=wc72.heap.size:=kk75.size
        have hb79:wa76.heap[wc72.heap.size]?=some (.cells #[.int .u8 0,.int .i64 0,.int .u64 0] 86 (0,0)):=by rw[hw77];exact wN _ _
        have hl81:wc72.heap.size<wa76.heap.size:=lZ hb79
        have hx82:=lZ hb74
        have hb83:=ka78.at_ hb74 (λ h=>h)
        have kk84:=kk75.then' ka78
        have HW85:=sE hw77
        clear hw77
        refine hK _ _ ?_ (λ qZ=>?_)
        .exact ⟨Kz c0,Kz c1⟩
        clear hK K
        try simp only[Aw]
        have hsz:=lZ hb83
        obtain⟨d0,d1,d2,d3⟩:=Ay hb83
        have f0:=Ae hb83;have f00:=f0 0;have f01:=f0 1;have f02:=f0 2;have f03:=f0 3
        refine AV [16] ?_
        refine Ag rfl (λ K hK=>?_)
        clear f0
        go_simp
        obtain⟨wz86,hz87⟩:∃ wz86,wz86=World.setCell (World.setCell (World.setCell (World.setCell (wa76) ⟨wr.heap.size,0,none⟩ (.int .u8 1)) ⟨wr.heap.size,1,none⟩ (.int .i64 (x.ty:Nat))) ⟨wr.heap.size,2,none⟩ (.int .i64 (x.ln:Nat))) ⟨wr.heap.size,3,none⟩ (.int .i64 (x.sz:Nat)):=⟨_,rfl⟩
        rw[<- hz87]
        obtain⟨tz88,kz89⟩:=Bn hb83 _ _ _ _ wz86 hz87
        have hb90:=kz89.at_ hb79 (λ h=>by have h':wc72.heap.size=wr.heap.size:=h;omega)
        have kk91:Kp Ab wr wz86:=kk84.trans kz89 (λ i hi h=>by have h':i=wr.heap.size:=h;(try have hq:=Nat.le_of_eq h');(first|omega|(simp only[World.size_drew] at *;omega)))
        clear hz87 d0 f00 d1 f01 d2 f02 d3 f03
        refine hK _ _ ?_ (λ qZ=>?_)
        .exact ⟨Kz c0,Kz c1⟩
        clear hK K
        try simp only[Aw]
        have hsz:=lZ hb90
        obtain⟨d0,d1,d2⟩:=cells3 hb90
        have f0:=Ae hb90;have f00:=f0 0;have f01:=f0 1;have f02:=f0 2
        refine AV [17] ?_
        refine Ag rfl (λ K hK=>?_)
        clear f0
        go_simp
        obtain⟨wz92,hz93⟩:∃ wz92,wz92=World.setCell (World.setCell (World.setCell (wz86) ⟨wc72.heap.size,0,none⟩ (.int .u8 k)) ⟨wc72.heap.size,1,none⟩ (.int .i64 wds)) ⟨wc72.heap.size,2,none⟩ (.int .u64 (m:Nat)):=⟨_,rfl⟩
        rw[<- hz93]
        obtain⟨tz94,kz95⟩:=Bz hb90 _ _ _ wz92 hz93
        have hb96:=kz95.at_ tz88 (λ h=>by have h':wr.heap.size=wc72.heap.size:=h;omega)
        have kk97:Kp Ab wr wz92:=kk91.trans kz95 (λ i hi h=>by have h':i=wc72.heap.size:=h;(try have hq:=Nat.le_of_eq h');(first|omega|(simp only[World.size_drew] at *;omega)))
        clear hz93 d0 f00 d1 f01 d2 f02
        refine hK _ _ ?_ (λ qZ=>?_)
        .exact ⟨Kz c0,Kz c1⟩
        clear hK K
        try simp only[Aw]
        refine Ao 18 ?_
        try simp only[Aw]
        refine wpAnyH_done (by kernel_rfl) ?_ _
        go_wp2_with fail
        go_meet
        exact⟨_,_,rfl,rfl,rfl,hb96,tz94,kk97⟩
       exact AllReadyH.nil
      refine Ai rfl (λ K hK=>?_) ?_
      .go_simp
       obtain⟨wa98,hw99⟩:∃ wa98,wa98=World.alloc wa64 (.cells #[.int .u8 0,.int .i64 0,.int .u64 0] 86):=⟨_,rfl⟩
       rw[<- hw99]
       have ka100:Kp Ab wa64 wa98:=by rw[hw99];exact ((Kr _ _).alloc _)
       have hge102:wr.heap.size<=wa64.heap.size:=kk70.size
       have hb101:wa98.heap[wa64.heap.size]?=some (.cells #[.int .u8 0,.int .i64 0,.int .u64 0] 86 (0,0)):=by rw[hw99];exact wN _ _
       have hl103:wa64.heap.size<wa98.heap.size:=lZ hb101
       have hx104:=lZ hb67
       have hb105:=ka100.at_ hb67 (λ h=>h)
       have kk106:=kk70.then' ka100
       have HW107:=sE hw99
       clear hw99
       refine hK _ _ ?_ (λ qZ=>?_)
       .exact ⟨Kz c0,Kz c1⟩
       clear hK K
       try simp only[Aw]
       refine AV [9] ?_
       refine Ai rfl (λ K hK=>?_) ?_
       .go_simp
        with_reducible refine(HOf.out _ kk106).mono ?_
        rintro e wc108 ⟨rfl,kc109⟩
        have hb110:=kc109.at_ hb105 (λ h=>h)
        have hb111:=kc109.at_ hb101 (λ h=>h)
        have kk112:=kk106.then' kc109
        refine hK _ _ ?_ (λ qZ=>?_)
        .exact ⟨Kz c0,Kz c1⟩
        clear hK K
        try simp only[Aw]
        refine Ao 10 ?_;refine Ao 11 ?_;refine Ao 12 ?_;refine Ao 13 ?_
        try simp only[Aw]
        have hsz:=lZ hb110
        obtain⟨d0,d1,d2,d3⟩:=Ay hb110
        have f0:=Ae hb110;have f00:=f0 0;have f01:=f0 1;have f02:=f0 2;have f03:=f0 3
        refine AV [16] ?_
        refine Ag rfl (λ K hK=>?_)
        clear f0
        go_simp
        obtain⟨wz113,hz114⟩:∃ wz113,wz113=World.setCell (World.setCell (World.setCell (World.setCell (wc108) ⟨wr.heap.size,0,none⟩ (.int .u8 1)) ⟨wr.heap.size,1,none⟩ (.int .i64 (x.ty:Nat))) ⟨wr.heap.size,2,none⟩ (.int .i64 (x.ln:Nat))) ⟨wr.heap.size,3,none⟩ (.int .i64 (x.sz:Nat)):=⟨_,rfl⟩
        rw[<- hz114]
        obtain⟨tz115,kz116⟩:=Bn hb110 _ _ _ _ wz113 hz114
        have hb117:=kz116.at_ hb111 (λ h=>by have h':wa64.heap.size=wr.heap.size:=h;omega)
        have kk118:Kp Ab wr wz113:=kk112.trans kz116 (λ i hi h=>by have h':i=wr.heap.size:=h;(try have hq:=Nat.le_of_eq h');(first|omega|(simp only[World.size_drew] at *;omega)))
        clear hz114 d0 f00 d1 f01 d2 f02 d3 f03
        refine hK _ _ ?_ (λ qZ=>?_)
        .exact ⟨Kz c0,Kz c1⟩
        clear hK K
        try simp only[Aw]
        have hsz:=lZ hb117
        obtain⟨d0,d1,d2⟩:=cells3 hb117
        have f0:=Ae hb117;have f00:=f0 0;have f01:=f0 1;have f02:=f0 2
        refine AV [17] ?_
        refine Ag rfl (λ K hK=>?_)
        clear f0
        go_simp
        obtain⟨wz119,hz120⟩:∃ wz119,wz119=World.setCell (World.setCell (World.setCell (wz113) ⟨wa64.heap.size,0,none⟩ (.int .u8 k)) ⟨wa64.heap.size,1,none⟩ (.int .i64 wds)) ⟨wa64.heap.size,2,none⟩ (.int .u64 (m:Nat)):=⟨_,rfl⟩
        rw[<- hz120]
        obtain⟨tz121,kz122⟩:=Bz hb117 _ _ _ wz119 hz120
        have hb123:=kz122.at_ tz115 (λ h=>by have h':wr.heap.size=wa64.heap.size:=h;omega)
        have kk124:Kp Ab wr wz119:=kk118.trans kz122 (λ i hi h=>by have h':i=wa64.heap.size:=h;(try have hq:=Nat.le_of_eq h');(first|omega|(simp only[World.size_drew] at *;omega)))
        clear hz120 d0 f00 d1 f01 d2 f02
        refine hK _ _ ?_ (λ qZ=>?_)
        .exact ⟨Kz c0,Kz c1⟩
        clear hK K
        try simp only[Aw]
        refine Ao 18 ?_
        try simp only[Aw]
        refine wpAnyH_done (by kernel_rfl) ?_ _
        go_wp2_with fail
        go_meet
        exact⟨_,_,rfl,rfl,rfl,hb123,tz121,kk124⟩
       exact AllReadyH.nil
      exact AllReadyH.nil
     refine Ai rfl (λ K hK=>?_) ?_
     .go_simp
      obtain⟨wa125,hw126⟩:∃ wa125,wa125=World.drew (World.alloc wr (.cells #[.int .u8 0,.int .i64 0,.int .u64 0] 86)):=⟨_,rfl⟩
      rw[<- hw126]
      have ka127:Kp Ab wr wa125:=by rw[hw126];exact ((Kr _ _).alloc _).drew
      have hge129:wr.heap.size<=wr.heap.size:=kk0.size
      have hb128:wa125.heap[wr.heap.size]?=some (.cells #[.int .u8 0,.int .i64 0,.int .u64 0] 86 (0,0)):=by rw[hw126];exact wN _ _
      have hl130:wr.heap.size<wa125.heap.size:=lZ hb128
      have kk131:=ka127
      have HW132:=sE hw126
      clear hw126
      refine hK _ _ ?_ (λ qZ=>?_)
      .exact ⟨Kz c0,Kz c1⟩
      clear hK K
      try simp only[Aw]
      refine AV [9,14] ?_
      refine Ai rfl (λ K hK=>?_) ?_
      .go_simp
       with_reducible refine(HOf.out _ kk131).mono ?_
       rintro e wc133 ⟨rfl,kc134⟩
       have hb135:=kc134.at_ hb128 (λ h=>h)
       have kk136:=kk131.then' kc134
       refine hK _ _ ?_ (λ qZ=>?_)
       .exact ⟨Kz c0,Kz c1⟩
       clear hK K
       try simp only[Aw]
       refine Ao 10 ?_;refine Ao 11 ?_;refine Ao 12 ?_;refine Ao 13 ?_
       try simp only[Aw]
       refine AV [14] ?_
       refine Ai rfl (λ K hK=>?_) ?_
       .go_simp
        obtain⟨wa137,hw138⟩:∃ wa137,wa137=World.alloc wc133 (.cells #[.int .u8 0,.int .i64 0,.int .i64 0,.int .i64 0] 52):=⟨_,rfl⟩
        rw[<- hw138]
        have ka139:Kp Ab wc133 wa137:=by rw[hw138];exact ((Kr _ _).alloc _)
        have hge141:wr.heap.size<=wc133.heap.size:=kk136.size
        have hb140:wa137.heap[wc133.heap.size]?=some (.cells #[.int .u8 0,.int .i64 0,.int .i64 0,.int .i64 0] 52 (0,0)):=by rw[hw138];exact wN _ _
        have hl142:wc133.heap.size<wa137.heap.size:=lZ hb140
        have hx143:=lZ hb135
        have hb144:=ka139.at_ hb135 (λ h=>h)
        have kk145:=kk136.then' ka139
        have HW146:=sE hw138
        clear hw138
        refine hK _ _ ?_ (λ qZ=>?_)
        .exact ⟨Kz c0,Kz c1⟩
        clear hK K
        try simp only[Aw]
        have hsz:=lZ hb140
        obtain⟨d0,d1,d2,d3⟩:=Ay hb140
        have f0:=Ae hb140;have f00:=f0 0;have f01:=f0 1;have f02:=f0 2;have f03:=f0 3
        refine AV [16] ?_
        refine Ag rfl (λ K hK=>?_)
        clear f0
        go_simp
        obtain⟨wz147,hz148⟩:∃ wz147,wz147=World.setCell (World.setCell (World.setCell (World.setCell (wa137) ⟨wc133.heap.size,0,none⟩ (.int .u8 1)) ⟨wc133.heap.size,1,none⟩ (.int .i64 (x.ty:Nat))) ⟨wc133.heap.size,2,none⟩ (.int .i64 (x.ln:Nat))) ⟨wc133.heap.size,3,none⟩ (.int .i64 (x.sz:Nat)):=⟨_,rfl⟩
        rw[<- hz148]
        obtain⟨tz149,kz150⟩:=Bn hb140 _ _ _ _ wz147 hz148
        have hb151:=kz150.at_ hb144 (λ h=>by have h':wr.heap.size=wc133.heap.size:=h;omega)
        have kk152:Kp Ab wr wz147:=kk145.trans kz150 (λ i hi h=>by have h':i=wc133.heap.size:=h;(try have hq:=Nat.le_of_eq h');(first|omega|(simp only[World.size_drew] at *;omega)))
        clear hz148 d0 f00 d1 f01 d2 f02 d3 f03
        refine hK _ _ ?_ (λ qZ=>?_)
        .exact ⟨Kz c0,Kz c1⟩
        clear hK K
        try simp only[Aw]
        have hsz:=lZ hb151
        obtain⟨d0,d1,d2⟩:=cells3 hb151
        have f0:=Ae hb151;have f00:=f0 0;have f01:=f0 1;have f02:=f0 2
        refine AV [17] ?_
        refine Ag rfl (λ K hK=>?_)
        clear f0
        go_simp
        obtain⟨wz153,hz154⟩:∃ wz153,wz153=World.setCell (World.setCell (World.setCell (wz147) ⟨wr.heap.size,0,none⟩ (.int .u8 k)) ⟨wr.heap.size,1,none⟩ (.int .i64 wds)) ⟨wr.heap.size,2,none⟩ (.int .u64 (m:Nat)):=⟨_,rfl⟩
        rw[<- hz154]
        obtain⟨tz155,kz156⟩:=Bz hb151 _ _ _ wz153 hz154
        have hb157:=kz156.at_ tz149 (λ h=>by have h':wc133.heap.size=wr.heap.size:=h;omega)
        have kk158:Kp Ab wr wz153:=kk152.trans kz156 (λ i hi h=>by have h':i=wr.heap.size:=h;(try have hq:=Nat.le_of_eq h');(first|omega|(simp only[World.size_drew] at *;omega)))
        clear hz154 d0 f00 d1 f01 d2 f02
        refine hK _ _ ?_ (λ qZ=>?_)
        .exact ⟨Kz c0,Kz c1⟩
        clear hK K
        try simp only[Aw]
        refine Ao 18 ?_
        try simp only[Aw]
        refine wpAnyH_done (by kernel_rfl) ?_ _
        go_wp2_with fail
        go_meet
        exact⟨_,_,rfl,rfl,rfl,hb157,tz155,kk158⟩
       exact AllReadyH.nil
      refine Ai rfl (λ K hK=>?_) ?_
      .go_simp
       obtain⟨wa159,hw160⟩:∃ wa159,wa159=World.alloc wa125 (.cells #[.int .u8 0,.int .i64 0,.int .i64 0,.int .i64 0] 52):=⟨_,rfl⟩
       rw[<- hw160]
       have ka161:Kp Ab wa125 wa159:=by rw[hw160];exact ((Kr _ _).alloc _)
       have hge163:wr.heap.size<=wa125.heap.size:=kk131.size
       have hb162:wa159.heap[wa125.heap.size]?=some (.cells #[.int .u8 0,.int .i64 0,.int .i64 0,.int .i64 0] 52 (0,0)):=by rw[hw160];exact wN _ _
       have hl164:wa125.heap.size<wa159.heap.size:=lZ hb162
       have hx165:=lZ hb128
       have hb166:=ka161.at_ hb128 (λ h=>h)
       have kk167:=kk131.then' ka161
       have HW168:=sE hw160
       clear hw160
       refine hK _ _ ?_ (λ qZ=>?_)
       .exact ⟨Kz c0,Kz c1⟩
       clear hK K
       try simp only[Aw]
       refine AV [9] ?_
       refine Ai rfl (λ K hK=>?_) ?_
       .go_simp
        with_reducible refine(HOf.out _ kk167).mono ?_
        rintro e wc169 ⟨rfl,kc170⟩
        have hb171:=kc170.at_ hb166 (λ h=>h)
        have hb172:=kc170.at_ hb162 (λ h=>h)
        have kk173:=kk167.then' kc170
        refine hK _ _ ?_ (λ qZ=>?_)
        .exact ⟨Kz c0,Kz c1⟩
        clear hK K
        try simp only[Aw]
        refine Ao 10 ?_;refine Ao 11 ?_;refine Ao 12 ?_;refine Ao 13 ?_
        try simp only[Aw]
        have hsz:=lZ hb172
        obtain⟨d0,d1,d2,d3⟩:=Ay hb172
        have f0:=Ae hb172;have f00:=f0 0;have f01:=f0 1;have f02:=f0 2;have f03:=f0 3
        refine AV [16] ?_
        refine Ag rfl (λ K hK=>?_)
        clear f0
        go_simp
        obtain⟨wz174,hz175⟩:∃ wz174,wz174=World.setCell (World.setCell (World.setCell (World.setCell (wc169) ⟨wa125.heap.size,0,none⟩ (.int .u8 1)) ⟨wa125.heap.size,1,none⟩ (.int .i64 (x.ty:Nat))) ⟨wa125.heap.size,2,none⟩ (.int .i64 (x.ln:Nat))) ⟨wa125.heap.size,3,none⟩ (.int .i64 (x.sz:Nat)):=⟨_,rfl⟩
        rw[<- hz175]
        obtain⟨tz176,kz177⟩:=Bn hb172 _ _ _ _ wz174 hz175
        have hb178:=kz177.at_ hb171 (λ h=>by have h':wr.heap.size=wa125.heap.size:=h;omega)
        have kk179:Kp Ab wr wz174:=kk173.trans kz177 (λ i hi h=>by have h':i=wa125.heap.size:=h;(try have hq:=Nat.le_of_eq h');(first|omega|(simp only[World.size_drew] at *;omega)))
        clear hz175 d0 f00 d1 f01 d2 f02 d3 f03
        refine hK _ _ ?_ (λ qZ=>?_)
        .exact ⟨Kz c0,Kz c1⟩
        clear hK K
        try simp only[Aw]
        have hsz:=lZ hb178
        obtain⟨d0,d1,d2⟩:=cells3 hb178
        have f0:=Ae hb178;have f00:=f0 0;have f01:=f0 1;have f02:=f0 2
        refine AV [17] ?_
        refine Ag rfl (λ K hK=>?_)
        clear f0
        go_simp
        obtain⟨wz180,hz181⟩:∃ wz180,wz180=World.setCell (World.setCell (World.setCell (wz174) ⟨wr.heap.size,0,none⟩ (.int .u8 k)) ⟨wr.heap.size,1,none⟩ (.int .i64 wds)) ⟨wr.heap.size,2,none⟩ (.int .u64 (m:Nat)):=⟨_,rfl⟩
        rw[<- hz181]
        obtain⟨tz182,kz183⟩:=Bz hb178 _ _ _ wz180 hz181
        have hb184:=kz183.at_ tz176 (λ h=>by have h':wa125.heap.size=wr.heap.size:=h;omega)
        have kk185:Kp Ab wr wz180:=kk179.trans kz183 (λ i hi h=>by have h':i=wr.heap.size:=h;(try have hq:=Nat.le_of_eq h');(first|omega|(simp only[World.size_drew] at *;omega)))
        clear hz181 d0 f00 d1 f01 d2 f02
        refine hK _ _ ?_ (λ qZ=>?_)
        .exact ⟨Kz c0,Kz c1⟩
        clear hK K
        try simp only[Aw]
        refine Ao 18 ?_
        try simp only[Aw]
        refine wpAnyH_done (by kernel_rfl) ?_ _
        go_wp2_with fail
        go_meet
        exact⟨_,_,rfl,rfl,rfl,hb184,tz182,kk185⟩
       exact AllReadyH.nil
      exact AllReadyH.nil
     exact AllReadyH.nil
    case rest=>
     obtain⟨b1,b2,rfl,rfl,rfl,hb1,hb2,kx⟩:=hcut
     have b1x:=cells3 hb2
     obtain⟨t0,t1,t2⟩:=b1x
     have hlx:=lZ hb2
     have hbx:b<wc.heap.size:=Nat.lt_of_lt_of_le hb0 kx.size
     have r3x:=kx.cell r3 (λ h=>h)
     clear r0 r1 r2 r3 r4 r4' hb1 c0 c1
     go_wp2_with fail
     go_region_held3 (λ w'=>w'.cell? ⟨b,j*5+3,none⟩=some (.int .i64 (x.ln:Nat))/\w'.cell? ⟨b2,0,none⟩=some (.int .u8 k)/\w'.cell? ⟨b2,1,none⟩=some (.int .i64 wds)/\w'.cell? ⟨b2,2,none⟩=some (.int .u64 (m:Nat)))
      (exact ⟨Ac KU r3x,Ac KU t0,Ac KU t1,Ac KU t2⟩)
      (first|(go_at_call 133;with_reducible refine(HSlot.out _).mono ?_;rintro e w9 ⟨rfl,k9⟩;have K9:Kp Ab wc w9:=Kp.then' KU k9))
     go_wp2
     exact bodyPost_ret (v:=.int .i64 S) (by simp[results,results87,go_sem]) rfl ⟨S,rfl,(HKW.out.then' kx).then' K9,.inl ⟨x,k,wds,m,HXm.out,HQ2.out,HQ1.out,HT.out,HS.out.symm⟩⟩
   .have HNN:Sl (∀ m y,m<j+1->cs[m]?=some y->¬ (y.tag=1/\(y.g:Int)=g)):=⟨λ m y hm hy=>by
     by_cases e:m=j
     .subst e;rw [HX.out] at hy;injection hy with hy;subst hy;exact λ h=>q1 ⟨h.2,h.1⟩
     .exact hno.out m y (by omega) hy⟩
    by_cases q3:(x.g:Int)=g
    .have p1:((x.g:Int)==g)=true:=by simp[q3]
     have p2:((x.tag:Int)==1)=false:=by
      have:¬ x.tag=1:=λ h=>q1 ⟨q3,h⟩
      simp;omega
     clear q1 q3
     go_wp2
     exact⟨⟨j+1,by omega,by go_num,HKW.out,HKK.out,HNN⟩,by simp only[intOf];omega⟩
    .have p1:((x.g:Int)==g)=false:=by simp[q3]
     clear q1
     go_wp2
     exact⟨⟨j+1,by omega,by go_num,HKW.out,HKK.out,HNN⟩,by simp only[intOf];omega⟩
  .have hjl':¬ (j:Int)<(len:Int):=by omega
   have HNN:Sl (∀ c∈cs,c.tag=1->¬ (c.g:Int)=g):=⟨λ c hc ht hg=>by
    obtain⟨m,hm⟩:=List.getElem?_of_mem hc
    have hml:=(gE.1 hm).1
    rw[HLen.out] at hml
    exact hno.out m c (by omega) hm ⟨ht,hg⟩⟩
   clear hkk hkw
   go_wp2
   exact bodyPost_ret (v:=.int .i64 0) (by simp[results,results87,go_sem]) rfl ⟨0,rfl,HKW.out,.inr ⟨HNN.out,rfl⟩⟩

end

end Go.Proofs.YtmfajopmppfldaaGreatDoor
