/-
  Lemmas for the laws, together: DocC.
-/
import Derived.Test.YtmfajopmppfldaaGreatDoorQaj
import Derived.Test.YtmfajopmppfldaaGreatDoorQal
import Derived.Test.YtmfajopmppfldaaGreatDoorQan
set_option linter.unusedVariables false
set_option maxHeartbeats 16000000
namespace Go.Proofs.YtmfajopmppfldaaGreatDoor
open Tryz
section
open Go.RowKit

theorem fitsE_ok{ts:List TypR}{c:Cel}(h:Dh ts c):CZ ts (c.tag:Nat) (c.ty:Nat) (c.ln:Nat) (c.sz:Nat)=0:=by
  obtain⟨h1,h2⟩:=h
  rw[CZ,if_pos h1]
  by_cases ht:c.tag=1
  . rw[if_pos (by omega),if_pos (h2 ht)]
  . rw[if_neg (by omega)]

set_option maxRecDepth 20000 in
theorem DCells_at(P:Sp)(W:Nat->Nat)(cs:List Cel)(q cap:Nat)(lv:Value)(w:World)(hr:WRow w q P.n W)(hc:CellsAt P W cs)(hv:AO w lv P.ts)(hl:P.ts.length<=17592186044416)(hM:Cg P.ts):
    Calls prog 114 #[.slice (some ⟨q,0,none⟩) P.n cap,lv] w λ e w'=>∃ v,e=.returned (.tuple #[v,.bool true])/\w'.ownsRow w.heap.size 71 5 v cs.length (BV cs)/\Kp Ab w w':=by
  have hn:=hr.small
  have hlen:cs.length<=32768:=by
    have:=BD hc.tl
    omega
  have HR:=sE hr
  have HC:=sE hc
  have HV:=sE hv
  have HMs:=sE hM
  have HLl:=sE hl
  clear hr hc hv hM hl
  go_enter func114,ntmps114
  go_wp2_with fail
  go_loopw [6,7] (λ v y wr=>∃ (pre rest:List Cel) (g:Nat),cs=pre++rest/\y=.int .i64 (g:Nat)/\Sl (Au 0 pre g)/\wr.ownsRow w.heap.size 71 5 v pre.length (BV pre)/\Kp Ab w wr) (λ _ y _=>P.n/2-(intOf y).toNat)
  case atStart=>exact ⟨[],cs,0,rfl,rfl,⟨rfl⟩,World.ownsRow_nil _ _ _ _,Kr _ _⟩
  case round=>
    obtain⟨pre,rest,g,hcs,rfl,ht,hown,hk⟩:=hrel
    have HX:=sE hcs
    have htl:=HC.out.tl
    rw[hcs] at htl
    have hsp:Au g rest (P.n/2):=by
      obtain⟨x,t1,t2⟩:=htl.split
      rw[ht.out.uniq t1];exact t2
    cases rest with
    |nil=>
      have hg:g=P.n/2:=hsp
      have hg':¬ (g:Int)<(P.n:Int)/2:=by omega
      rw[List.append_nil] at hcs
      subst hcs
      clear htl hsp
      go_wp2
      refine bodyPost_ret (v:=.tuple #[u6,.bool true]) (by simp[results,results114,go_sem]) rfl ⟨u6,rfl,hown,hk⟩
    |cons x rest'=>
      obtain⟨hxg,hxs,hrest⟩:=hsp
      have hmem:x∈cs:=by rw[hcs];simp
      have hfin:=(HC.out.tl.mem hmem).2.1
      have hok:=HC.out.ok x hmem
      have hW:=HC.out.hd x hmem
      have hgb:x.g<P.n/2:=by omega
      have hszb:x.sz<16777216:=by omega
      have hpl:pre.length+1<=cs.length:=by rw[hcs];simp
      subst hxg
      have HT2:Sl (Au 0 (pre++[x]) (x.g+x.sz)):=⟨by
        refine ht.out.app ⟨rfl,hxs,rfl⟩⟩
      have HH:Sl (Calls prog 148 #[.slice (some ⟨q,0,none⟩) P.n cap,.int .i64 (x.g:Nat)] wr λ e w'=>e=.returned (.tuple #[.agg #[.int .u8 (x.tag:Nat),.int .i64 (x.ty:Nat),.int .i64 (x.ln:Nat),.int .i64 (x.sz:Nat)],.int .i64 0])/\Kp Ab wr w'):=⟨by
        have hh:=DHead_in x.g q P.n cap W wr (HR.out.Ad hk) hgb
        obtain⟨d1,d2,d3,d4,d5⟩:=dec_enc hok.1
        rw[hW,d1,d2,d3,d4,d5] at hh
        exact hh.mono λ_ _ hp=>hp⟩
      have HF:Sl (∀ W',Kp Ab wr W'->Calls prog 149 #[lv,.agg #[.int .u8 (x.tag:Nat),.int .i64 (x.ty:Nat),.int .i64 (x.ln:Nat),.int .i64 (x.sz:Nat)]] W' λ e w'=>e=.returned (.int .i64 0)/\Kp Ab W' w'):=⟨λ W' kk=>by
        have hh:=DFits_any lv (x.tag:Nat) (x.ty:Nat) (x.ln:Nat) (x.sz:Nat) P.ts W' (HV.out.Ad (hk.then' kk)) HLl.out HMs.out
        rw[fitsE_ok hok] at hh
        exact hh⟩
      have b1:(x.g:Int)<(P.n:Int)/2:=by omega
      have b2:decide ((P.n:Int)/2-(x.g:Int)<(x.sz:Int))=false:=dF (by omega)
      have hs1:=hk.size
      have HHk:=sE hk
      have HTy:=sE ht
      have HO:=sE hown
      obtain⟨i0,hi,hz0,hz1,hz2⟩:=info_parts infoCell
      clear htl hrest hok hW hmem hcs hown hk
      go_wp2_with fail
      refine HH.out.mono ?_
      rintro e w2 ⟨rfl,k2⟩
      have b9:=wN w2 (.cells #[.int .u8 (x.tag:Nat),.int .i64 (x.ty:Nat),.int .i64 (x.ln:Nat),.int .i64 (x.sz:Nat)] 52)
      have k23:=(Kr Ab w2).alloc (.cells #[.int .u8 (x.tag:Nat),.int .i64 (x.ty:Nat),.int .i64 (x.ln:Nat),.int .i64 (x.sz:Nat)] 52)
      go_wp2_with fail
      refine(HF.out _ (k2.then' k23)).mono ?_
      rintro e w3 ⟨rfl,k3⟩
      have B9:=k3.at_ b9 (λ h=>h)
      obtain⟨h0,h1,h2,h3⟩:=Ay B9
      have hm9:=lZ B9
      have K3:=(k2.then' k23).then' k3
      have O3:w3.ownsRow w.heap.size 71 5 u6 pre.length (BV pre):=Ai HO.out K3 (λ b hb h=>h)
      have HO3:=sE O3
      have HK3:=sE K3
      have hs3:=K3.size
      have hs2:=k2.size
      have HO9:Sl (¬ u6.ownBlock=some w2.heap.size):=⟨λ e=>by have:=Af HO.out e;omega⟩
      clear b9 k23 k3 k2 B9 HF HH HO O3 K3
      go_wp2_with (at_builtin;go_loud (refine wpList_append_lies _ rfl (.tmp 39) (.tmp 43) 40 rfl w.heap.size 71 i0 (.agg #[.int .i64 0,.int .u8 0,.int .i64 0,.int .i64 0,.int .i64 0]) 5 40 Ez hi hz0 hz1 hz2 rfl (by omega) u6 pre.length (BV pre) rfl (HO3.out.alloc _) ⟨w3.heap.size,0,none⟩ 1 1 [.int .i64 (x.g:Nat),.int .u8 (x.tag:Nat),.int .i64 (x.ty:Nat),.int .i64 (x.ln:Nat),.int .i64 (x.sz:Nat)] rfl rfl (World.news_of_block (wN w3 _)) (by simp[Value.oneCell']) (by omega) (by unfold maxLen;omega) (by omega) (by simp;omega) (w3.heap.size+1) (by simp) ?_);intro g2 cap2 w4 hown4 hgrow hat hlt;have k4:Kp Ab w w4:=((HHk.out.then' HK3.out).alloc _).grown hgrow (λ k e hl=>absurd (Af HO3.out e).1 (by omega));have kX:Kp (λ b=>u6.ownBlock=some b) w3 w4:=(((Kr Ab w3).alloc _).Ak (λ b=>u6.ownBlock=some b)).grown hgrow (λ k e _=>e);have h3':=kX.cell h3 HO9.out;clear hi hz0 hz1 hz2 h0 h1 h2)
      refine⟨⟨pre++[x],rest',x.g+x.sz,by rw[HX.out];simp,by go_num,HT2,?_,k4⟩,by simp only[intOf];omega⟩
      rw[flatC_append,List.length_append]
      exact hown4

theorem DAll_at(P:Sp)(W:Nat->Nat)(cs:List Cel)(rb q:Nat)(lv:Value)(w:World)(hd:DocAt w rb q P.n W lv)(hc:CellsAt P W cs)(hv:AO w lv P.ts)(hl:P.ts.length<=17592186044416)(hM:Cg P.ts):
    Calls prog 67 #[.pointer (some ⟨rb,0,none⟩)] w λ e w'=>∃ v,e=.returned v/\w'.ownsRow w.heap.size 71 5 v cs.length (BV cs)/\Kp Ab w w':=by
  obtain⟨cap,c0,c1⟩:=hd.head
  have hlt:=hd.lt
  have HA:Sl (∀ W',Kp Ab w W'->Calls prog 114 #[.slice (some ⟨q,0,none⟩) P.n cap,lv] W' λ e w'=>∃ v,e=.returned (.tuple #[v,.bool true])/\w'.ownsRow W'.heap.size 71 5 v cs.length (BV cs)/\Kp Ab W' w'):=
    ⟨λ W' k=>DCells_at P W cs q cap lv W' (hd.row.Ad k) hc (hv.Ad k) hl hM⟩
  clear hd hc hv hM hl
  go_enter func67,ntmps67
  go_wp2_with fail
  go_region_held3 (λ w'=>w'.cell? ⟨rb,0,none⟩=some (.slice (some ⟨q,0,none⟩) P.n cap)/\w'.cell? ⟨rb,1,none⟩=some lv) (exact ⟨Be KU c0,Be KU c1⟩)
    (first | (go_at_call 114;with_reducible refine(HA.out _ KU).mono ?_;rintro e w2 ⟨v,rfl,hg,hk⟩
              have KK:Kp Ab w w2:=(Kr Ab w).drew.then' hk))
  have hg2:w2.ownsRow w.heap.size 71 5 v cs.length (BV cs):=hg
  go_wp2
  refine bodyPost_ret (v:=v) (by simp[results,results67,go_sem]) rfl ⟨v,rfl,hg2,KK⟩

def DMade(q n:Nat)(W:Nat->Nat)(w:World)(e:Ending)(w':World):Prop:=
  ∃ q' cap',e=.returned (.tuple #[.slice (some ⟨q',0,none⟩) n cap',.int .i64 0])/\WRow w' q' n W/\w.heap.size<=q'/\Kp Ab w w'

set_option maxRecDepth 20000 in
theorem DMake_yes(g id ln S q n cap:Nat)(W:Nat->Nat)(lv:Value)(ts:List TypR)(w:World)(hr:WRow w q n W)(hv:AO w lv ts)(hl:ts.length<=17592186044416)(hM:Cg ts)
    (he:AY ts (id:Nat) (ln:Nat)=0) (hS:Bq ts (id:Nat) (ln:Nat)=(S:Nat)) (h0:0<S) (hok:Am 1 (id:Nat) (ln:Nat) (S:Nat)=true) (hg:g+S<=n/2):
    Calls prog 129 #[.slice (some ⟨q,0,none⟩) n cap,lv,.int .i64 (g:Nat),.int .i64 (id:Nat),.int .i64 (ln:Nat)] w (DMade q n (makeW W g id ln S) w):=by
  have hn:=hr.small
  have HO:Sl _:=⟨(DHOf_any lv (id:Nat) (ln:Nat) ts w hv hl hM).mono λ e w' (hp:BG ts (id:Nat) (ln:Nat) w e w')=>show e=.returned (.tuple #[.agg #[.int .u8 1,.int .i64 (id:Nat),.int .i64 (ln:Nat),.int .i64 (S:Nat)],.int .i64 0])/\Kp Ab w w' by
    rw[BG,he,if_pos rfl,hS] at hp;exact hp⟩
  have HE:Sl (∀ W',Calls prog 169 #[.agg #[.int .u8 1,.int .i64 (id:Nat),.int .i64 (ln:Nat),.int .i64 (S:Nat)]] W' λ e w'=>e=.returned (.tuple #[.int .u64 ((Bo 1 id ln S:Nat):Int),.int .i64 0])/\Kp Ab W' w'):=
    ⟨λ W'=>Fb 1 id ln S W' hok⟩
  have H64:=sE (encH_lt (tag:=1) (ty:=id) (ln:=ln) (sz:=S) hok)
  unfold makeW
  obtain⟨X,hX⟩:∃ X,Bo 1 id ln S=X:=⟨_,rfl⟩
  rw[hX] at HE H64 ⊢
  have HR:=sE hr
  have c1:decide ((g:Int)<0)=false:=dF (by omega)
  have c2:decide ((n:Int)/2<(g:Int))=false:=dF (by omega)
  have c3:decide ((n:Int)/2-(g:Int)<(S:Int))=false:=dF (by omega)
  have HM:Sl ((2:Int)*(g:Int)=((2*g:Nat):Int)):=⟨by omega⟩
  clear hr hv hM hl he hS hok hX
  go_enter func129,ntmps129
  go_wp2_with fail
  refine HO.out.mono ?_
  rintro e w2 ⟨rfl,k2⟩
  have hs2:=k2.size
  go_wp2_with (at_builtin;go_loud (refine Ed rfl (.tmp 47) rfl q n cap W rfl (HR.out.Ad (k2.then' ((Kr Ab w2).alloc _))) (by omega) ?_);intro w4 q1 cap1 hr1 hq1 k1)
  have b9:=k1.at_ (wN w2 (.cells #[.int .u8 1,.int .i64 (id:Nat),.int .i64 (ln:Nat),.int .i64 (S:Nat)] 52)) (λ h=>h)
  have KW:=(k2.then' ((Kr Ab w2).alloc _)).then' k1
  have hlq:=hr1.lt
  have hne:¬ w2.heap.size=q1:=by
    have:w2.heap.size+1<=q1:=by simpa using hq1
    omega
  have hq1':w.heap.size<=q1:=by
    have:w2.heap.size+1<=q1:=by simpa using hq1
    omega
  have HB:=sE b9
  have HR1:=sE hr1
  clear b9 hr1 HO HR hq1 k1
  go_wp2_with fail
  go_loopw [15] (λ y wr=>∃ k:Nat,y=.int .i64 ((2*g+k:Nat):Int)/\k<=2*S/\WRow wr q1 n (fillW W (2*g) k 0)/\Kp (λ b=>b=q1) w4 wr) (λ y _=>2*(g+S)-(intOf y).toNat)
  case atStart=>exact ⟨0,by go_num,by omega,by rw[fillW_zero];exact HR1.out,Kr _ _⟩
  case round=>
    obtain⟨k,rfl,hk,hrow,hkk⟩:=hrel
    have B9:=hkk.at_ HB.out hne
    obtain⟨h0',h1',h2',h3'⟩:=Ay B9
    have hl9:=lZ B9
    have hlr:=hrow.lt
    have HHR:=sE hrow
    have HKK:=sE hkk
    by_cases hlast:k<2*S
    . have hc:((2*g+k:Nat):Int)<2*((g:Int)+(S:Int)):=by omega
      have hj:2*g+k<n:=by omega
      have a0:=hrow.at_ hj
      have a1:=hrow.free (2*g+k)
      clear B9 hrow hkk
      go_wp2
      refine⟨⟨k+1,by go_num,by omega,?_,?_⟩,by simp only[intOf];omega⟩
      . rw[<- fillW_succ]
        exact HHR.out.store hj 0 (by omega)
      . exact HKK.out.trans ((Kr (λ b=>b=q1) wr).setCell (λ _=>rfl) _) (λ _ _ h=>h)
    . have hc:¬ ((2*g+k:Nat):Int)<2*((g:Int)+(S:Int)):=by omega
      obtain rfl:k=2*S:=by omega
      clear B9 hrow hkk
      go_wp2_with fail
      refine(HE.out _).mono ?_
      rintro e w6 ⟨rfl,k6⟩
      have R6:=HHR.out.Ad k6
      have hj:2*g<n:=by omega
      have a0:=R6.at_ hj
      have a1:=R6.free (2*g)
      have hl6:=R6.lt
      have HR6:=sE R6
      clear R6 HHR
      go_wp2
      refine bodyPost_ret (v:=.tuple #[.slice (some ⟨q1,0,none⟩) n cap1,.int .i64 0]) (by simp[results,results129,go_sem]) rfl ⟨q1,cap1,rfl,HR6.out.store hj X H64.out,hq1',?_⟩
      exact((KW.trans HKK.out (λ b hb h=>by have h':b=q1:=h;omega)).then' k6).trans ((Kr (λ b=>b=q1) w6).setCell (λ _=>rfl) _) (λ b hb h=>by have h':b=q1:=h;omega)

def Hit(x:Cel)(j S:Nat):Prop:=¬ x.tag=1/\x.g<=j/\j<x.fin/\j+S<=x.fin

def DPutPost(P:Sp)(cs:List Cel)(W:Nat->Nat)(rb q:Nat)(lv:Value)(g id n:Int)(w:World)(e:Ending)(w':World):Prop:=
  e=.returned (.int .i64 (DX P.ts (P.n/2) cs g id n))/\Kp (λ k=>k=rb) w w'/\
    ((¬ DX P.ts (P.n/2) cs g id n=0/\DocAt w' rb q P.n W lv)\/
     (DX P.ts (P.n/2) cs g id n=0/\∃ (x:Cel) (j i l S:Nat),x∈cs/\g=(j:Nat)/\id=(i:Nat)/\n=(l:Nat)/\Bq P.ts id n=(S:Nat)/\Hit x j S/\∃ q',w.heap.size<=q'/\DocAt w' rb q' P.n (putW W x j i l S) lv))

theorem putR_none{ts:List TypR}{H j i l S:Nat}{cs:List Cel}(ht:Au 0 cs H)(he:AY ts (i:Nat) (l:Nat)=0)(hS:Bq ts (i:Nat) (l:Nat)=(S:Nat))(hj:j<H)(h:∀ x∈cs,¬ Hit x j S):DX ts H cs (j:Nat) (i:Nat) (l:Nat)=3:=by
  obtain⟨pre,c,post,rfl,h1,h2,h3⟩:=cell_split ht (Nat.zero_le _) hj
  rw[DX,if_neg (by simpa using he),if_neg (by omega),cellOf_at (g:=(j:Nat)) (λ d hd=>by have:=h3 d hd;omega) (by omega),hS]
  have:=h c (by simp)
  simp only[Hit] at this
  dsimp only
  rw[if_pos]
  by_cases ht:c.tag=1
  . exact .inl ht
  . exact .inr (by omega)

theorem putR_hit{ts:List TypR}{H j i l S:Nat}{cs:List Cel}{x:Cel}(ht:Au 0 cs H)(he:AY ts (i:Nat) (l:Nat)=0)(hS:Bq ts (i:Nat) (l:Nat)=(S:Nat))(hx:x∈cs)(h:Hit x j S):DX ts H cs (j:Nat) (i:Nat) (l:Nat)=0:=by
  have hm:=ht.mem hx
  obtain⟨k1,k2,k3,k4⟩:=h
  have hj:j<H:=by rw[Cel.fin] at k3;omega
  obtain⟨pre,c,post,rfl,h1,h2,h3⟩:=cell_split ht (Nat.zero_le _) hj
  have hcx:c=x:=by
    obtain⟨a,t1,t2⟩:=ht.split
    obtain⟨hcg,hc0,t3⟩:=t2
    rcases List.mem_append.1 hx with hx|hx
    . have:=h3 x hx;omega
    . rcases List.mem_cons.1 hx with hx|hx
      . exact hx.symm
      . have:=t3.mem hx;rw [Cel.fin] at h2;omega
  subst hcx
  rw[DX,if_neg (by simpa using he),if_neg (by omega),cellOf_at (g:=(j:Nat)) (λ d hd=>by have:=h3 d hd;omega) (by omega),hS]
  dsimp only
  rw[if_neg]
  intro hh
  rcases hh with hh|hh
  . exact k1 hh
  . omega

set_option maxRecDepth 20000 in
theorem DPut_err(P:Sp)(W:Nat->Nat)(cs:List Cel)(rb q:Nat)(lv:Value)(g id n:Int)(w:World)(hd:DocAt w rb q P.n W lv)(hv:AO w lv P.ts)(hl:P.ts.length<=17592186044416)(hM:Cg P.ts)(he:¬ AY P.ts id n=0):
    Calls prog 84 #[.pointer (some ⟨rb,0,none⟩),.int .i64 g,.int .i64 id,.int .i64 n] w (DPutPost P cs W rb q lv g id n w):=by
  have hR:Sl (DX P.ts (P.n/2) cs g id n=AY P.ts id n):=⟨by rw[DX,if_pos he]⟩
  have HO:Sl _:=⟨(DHOf_any lv id n P.ts w hv hl hM).mono λ e w' (hp:BG P.ts id n w e w')=>show e=.returned (.tuple #[.agg #[.int .u8 0,.int .i64 0,.int .i64 0,.int .i64 0],.int .i64 (AY P.ts id n)])/\Kp Ab w w' by
    rw[BG,if_neg he] at hp;exact hp⟩
  obtain⟨E,hE⟩:∃ E,AY P.ts id n=E:=⟨_,rfl⟩
  rw[hE] at HO hR he
  obtain⟨cap,c0,c1⟩:=hd.head
  have hlt:=hd.lt
  have HD:=sE hd
  have hb:(E !=0)=true:=by simpa using he
  have HE:=sE he
  clear hE he hd hv hM hl
  go_enter func84,ntmps84
  go_wp2_with fail
  refine HO.out.mono ?_
  rintro e w2 ⟨rfl,k2⟩
  go_wp2
  have KK:Kp Ab w (w2.alloc (.cells #[.int .u8 0,.int .i64 0,.int .i64 0,.int .i64 0] 52)):=k2.alloc _
  exact bodyPost_ret (v:=.int .i64 E) (by simp[results,results84,go_sem]) rfl ⟨by rw[hR.out],KK.Ak _,.inl ⟨by rw[hR.out];exact HE.out,HD.out.Ad KK⟩⟩

set_option maxRecDepth 20000 in
theorem DPut_out(P:Sp)(W:Nat->Nat)(cs:List Cel)(rb q:Nat)(lv:Value)(g:Int)(i l S:Nat)(w:World)(hd:DocAt w rb q P.n W lv)(hv:AO w lv P.ts)(hl:P.ts.length<=17592186044416)(hM:Cg P.ts)(he:AY P.ts (i:Nat) (l:Nat)=0)(hS:Bq P.ts (i:Nat) (l:Nat)=(S:Nat))(ho:g<0\/((P.n/2:Nat):Int)<=g):
    Calls prog 84 #[.pointer (some ⟨rb,0,none⟩),.int .i64 g,.int .i64 (i:Nat),.int .i64 (l:Nat)] w (DPutPost P cs W rb q lv g (i:Nat) (l:Nat) w):=by
  have hR:Sl (DX P.ts (P.n/2) cs g (i:Nat) (l:Nat)=2):=⟨by rw[DX,if_neg (by simpa using he),if_pos ho]⟩
  have HO:Sl _:=⟨(DHOf_any lv (i:Nat) (l:Nat) P.ts w hv hl hM).mono λ e w' (hp:BG P.ts (i:Nat) (l:Nat) w e w')=>show e=.returned (.tuple #[.agg #[.int .u8 1,.int .i64 (i:Nat),.int .i64 (l:Nat),.int .i64 (S:Nat)],.int .i64 0])/\Kp Ab w w' by
    rw[BG,he,if_pos rfl,hS] at hp;exact hp⟩
  obtain⟨cap,c0,c1⟩:=hd.head
  have hlt:=hd.lt
  have hn:=hd.row.small
  have HD:=sE hd
  obtain⟨d0,hd0⟩:∃ d0,decide (g<0)=d0:=⟨_,rfl⟩
  have hd1:d0=false->decide ((P.n:Int)/2<=g)=true:=λ h=>by
    subst h
    have:=of_decide_eq_false hd0
    exact dT (by omega)
  clear he hS hd hv hM hl ho
  cases d0 with
  |true=>
    clear hd1
    go_enter func84,ntmps84
    go_wp2_with fail
    refine HO.out.mono ?_
    rintro e w2 ⟨rfl,k2⟩
    replace c0:=k2.cell c0 (λ h=>h)
    replace c1:=k2.cell c1 (λ h=>h)
    go_wp2
    have KK:Kp Ab w (w2.alloc (.cells #[.int .u8 1,.int .i64 (i:Nat),.int .i64 (l:Nat),.int .i64 (S:Nat)] 52)):=k2.alloc _
    exact bodyPost_ret (v:=.int .i64 2) (by simp[results,results84,go_sem]) rfl ⟨by rw[hR.out],KK.Ak _,.inl ⟨by rw[hR.out];omega,HD.out.Ad KK⟩⟩
  |false=>
    have hd2:=hd1 rfl
    clear hd1
    go_enter func84,ntmps84
    go_wp2_with fail
    refine HO.out.mono ?_
    rintro e w2 ⟨rfl,k2⟩
    replace c0:=k2.cell c0 (λ h=>h)
    replace c1:=k2.cell c1 (λ h=>h)
    have hlt2:=Nat.lt_of_lt_of_le hlt k2.size
    go_wp2
    have KK:Kp Ab w (w2.alloc (.cells #[.int .u8 1,.int .i64 (i:Nat),.int .i64 (l:Nat),.int .i64 (S:Nat)] 52)):=k2.alloc _
    exact bodyPost_ret (v:=.int .i64 2) (by simp[results,results84,go_sem]) rfl ⟨by rw[hR.out],KK.Ak _,.inl ⟨by rw[hR.out];omega,HD.out.Ad KK⟩⟩

set_option maxRecDepth 20000 in
theorem DPut_in(P:Sp)(W:Nat->Nat)(cs:List Cel)(rb q:Nat)(lv:Value)(j i l S:Nat)(w:World)(hd:DocAt w rb q P.n W lv)(hc:CellsAt P W cs)(hv:AO w lv P.ts)(hl:P.ts.length<=17592186044416)(hM:Cg P.ts)(he:AY P.ts (i:Nat) (l:Nat)=0)(hS:Bq P.ts (i:Nat) (l:Nat)=(S:Nat))(hS0:0<S)(hok:Am 1 (i:Nat) (l:Nat) (S:Nat)=true)(hj:j<P.n/2):
    Calls prog 84 #[.pointer (some ⟨rb,0,none⟩),.int .i64 (j:Nat),.int .i64 (i:Nat),.int .i64 (l:Nat)] w (DPutPost P cs W rb q lv (j:Nat) (i:Nat) (l:Nat) w):=by
  have HNo:Sl ((∀ x∈cs,¬ Hit x j S)->DX P.ts (P.n/2) cs (j:Nat) (i:Nat) (l:Nat)=3):=⟨putR_none hc.tl he hS hj⟩
  have HHit:Sl (∀ x∈cs,Hit x j S->DX P.ts (P.n/2) cs (j:Nat) (i:Nat) (l:Nat)=0):=⟨λ x hx h=>putR_hit hc.tl he hS hx h⟩
  have HO:Sl _:=⟨(DHOf_any lv (i:Nat) (l:Nat) P.ts w hv hl hM).mono λ e w' (hp:BG P.ts (i:Nat) (l:Nat) w e w')=>show e=.returned (.tuple #[.agg #[.int .u8 1,.int .i64 (i:Nat),.int .i64 (l:Nat),.int .i64 (S:Nat)],.int .i64 0])/\Kp Ab w w' by
    rw[BG,he,if_pos rfl,hS] at hp;exact hp⟩
  have hlen:cs.length<=32768:=by
    have:=BD hc.tl
    have:=hd.row.small
    omega
  have HMake:Sl (∀ W' cap,Kp Ab w W'->j+S<=P.n/2->Calls prog 129 #[.slice (some ⟨q,0,none⟩) P.n cap,lv,.int .i64 (j:Nat),.int .i64 (i:Nat),.int .i64 (l:Nat)] W' λ e w'=>∃ q' cap',e=.returned (.tuple #[.slice (some ⟨q',0,none⟩) P.n cap',.int .i64 0])/\WRow w' q' P.n (makeW W j i l S)/\W'.heap.size<=q'/\Kp Ab W' w'):=
    ⟨λ W' cap k hjs=>DMake_yes j i l S q P.n cap W lv P.ts W' (hd.row.Ad k) (hv.Ad k) hl hM he hS hS0 hok hjs⟩
  have HAll:Sl (∀ W',Kp Ab w W'->Calls prog 67 #[.pointer (some ⟨rb,0,none⟩)] W' λ e w'=>∃ v,e=.returned v/\w'.ownsRow W'.heap.size 71 5 v cs.length (BV cs)/\Kp Ab W' w'):=
    ⟨λ W' k=>DAll_at P W cs rb q lv W' (hd.Ad k) hc (hv.Ad k) hl hM⟩
  obtain⟨cap,c0,c1⟩:=hd.head
  have hlt:=hd.lt
  have hn:=hd.row.small
  have HD:=sE hd
  have HSS:=sE hS
  have HTl:=sE hc.tl
  have hd0:decide ((j:Int)<0)=false:=dF (by omega)
  have hd1:decide ((P.n:Int)/2<=(j:Int))=false:=dF (by omega)
  clear he hS hd hv hM hl hc hok
  go_enter func84,ntmps84
  go_wp2_with fail
  refine HO.out.mono ?_
  rintro e w2 ⟨rfl,k2⟩
  have b9:=wN w2 (.cells #[.int .u8 1,.int .i64 (i:Nat),.int .i64 (l:Nat),.int .i64 (S:Nat)] 52)
  have k3:Kp Ab w (w2.alloc (.cells #[.int .u8 1,.int .i64 (i:Nat),.int .i64 (l:Nat),.int .i64 (S:Nat)] 52)):=k2.alloc _
  replace c0:=k2.cell c0 (λ h=>h)
  replace c1:=k2.cell c1 (λ h=>h)
  have hlt2:=Nat.lt_of_lt_of_le hlt k2.size
  go_wp2_with fail
  refine(HAll.out _ k3).mono ?_
  rintro e wl ⟨v,rfl,hown,kl⟩
  have HB9:=sE (kl.at_ b9 (λ h=>h))
  have HKL:=sE (k3.then' kl)
  have HRow:=sE (E9.Br hown)
  obtain⟨va,vc,hva,-⟩:=HRow.out
  subst hva
  obtain⟨len,hlen'⟩:∃ len,cs.length=len:=⟨_,rfl⟩
  rw[hlen'] at HRow hlen ⊢
  have HLen:=sE hlen'
  clear hown b9 k3 kl k2 HO HAll c0 c1 hlen'
  go_wp2_with fail
  go_loopw [12] (λ y wr=>∃ k:Nat,k<=len/\y=.int .i64 (k:Nat)/\Kp Ab wl wr/\Sl (∀ m x,m<k->cs[m]?=some x->¬ Hit x j S)) (λ y _=>len-(intOf y).toNat)
  case atStart=>exact ⟨0,Nat.zero_le _,rfl,Kr _ _,⟨λ m x h=>by omega⟩⟩
  case round=>
    obtain⟨k,hk,rfl,hkk,hno⟩:=hrel
    have HKK:=sE hkk
    have hDr:=HD.out.Ad (HKL.out.then' hkk)
    obtain⟨capr,c0,c1⟩:=hDr.head
    have hltr:=hDr.lt
    have B9:=hkk.at_ HB9.out (λ h=>h)
    obtain⟨h0,h1,h2,h3⟩:=Ay B9
    have hl9:=lZ B9
    by_cases hkl:k<len
    . have hkl':(k:Int)<(len:Int):=by omega
      obtain⟨x,hx⟩:∃ x,cs[k]?=some x:=⟨cs[k]'(by rw[HLen.out];exact hkl),by simp⟩
      obtain⟨a',cap',ha',hrow⟩:=HRow.out.Ad hkk
      obtain⟨b,hab,hb0,r0,r1,r2,r3,r4⟩:=hrow k x hx
      have hva:va=some ⟨b,0,none⟩:=by injection ha' with h1;rw [h1];exact hab
      subst hva
      have hxm:x∈cs:=List.mem_of_getElem? hx
      have hxf:=HTl.out.mem hxm
      have hxs:=hxf.2.1
      have HX:=sE hx
      have HXm:=sE hxm
      clear hx hxm hrow ha' hab hDr B9 hkk hxf
      by_cases q1:x.tag=1
      . have p1:((x.tag:Int)==1)=true:=by simp;omega
        have HNN:Sl (∀ m y,m<k+1->cs[m]?=some y->¬ Hit y j S):=⟨λ m y hm hy=>by
          by_cases e:m=k
          . subst e;rw [HX.out] at hy;injection hy with hy;subst hy;exact λ h=>h.1 q1
          . exact hno.out m y (by omega) hy⟩
        clear q1
        have kx:Kp Ab wr (wr.alloc (.cells #[.int .i64 (x.g:Nat),.int .u8 (x.tag:Nat),.int .i64 (x.ty:Nat),.int .i64 (x.ln:Nat),.int .i64 (x.sz:Nat)] 71)):=(Kr _ wr).alloc _
        go_wp2
        exact⟨⟨k+1,by omega,by go_num,HKK.out.then' kx,HNN⟩,by simp only[intOf];omega⟩
      have p1:((x.tag:Int)==1)=false:=by simp;omega
      by_cases q2:j<x.g
      . have p2:decide ((j:Int)<(x.g:Int))=true:=dT (by omega)
        have HNN:Sl (∀ m y,m<k+1->cs[m]?=some y->¬ Hit y j S):=⟨λ m y hm hy=>by
          by_cases e:m=k
          . subst e;rw [HX.out] at hy;injection hy with hy;subst hy;exact λ h=>by have:=h.2.1;omega
          . exact hno.out m y (by omega) hy⟩
        have kx:Kp Ab wr (wr.alloc (.cells #[.int .i64 (x.g:Nat),.int .u8 (x.tag:Nat),.int .i64 (x.ty:Nat),.int .i64 (x.ln:Nat),.int .i64 (x.sz:Nat)] 71)):=(Kr _ wr).alloc _
        go_wp2
        exact⟨⟨k+1,by omega,by go_num,HKK.out.then' kx,HNN⟩,by simp only[intOf];omega⟩
      have p2:decide ((j:Int)<(x.g:Int))=false:=dF (by omega)
      by_cases q3:x.g+x.sz<=j
      . have p3:decide ((x.g:Int)+(x.sz:Int)<=(j:Int))=true:=dT (by omega)
        have HNN:Sl (∀ m y,m<k+1->cs[m]?=some y->¬ Hit y j S):=⟨λ m y hm hy=>by
          by_cases e:m=k
          . subst e;rw [HX.out] at hy;injection hy with hy;subst hy;exact λ h=>by have:=h.2.2.1;rw [Cel.fin] at this;omega
          . exact hno.out m y (by omega) hy⟩
        have kx:Kp Ab wr (wr.alloc (.cells #[.int .i64 (x.g:Nat),.int .u8 (x.tag:Nat),.int .i64 (x.ty:Nat),.int .i64 (x.ln:Nat),.int .i64 (x.sz:Nat)] 71)):=(Kr _ wr).alloc _
        go_wp2
        exact⟨⟨k+1,by omega,by go_num,HKK.out.then' kx,HNN⟩,by simp only[intOf];omega⟩
      have p3:decide ((x.g:Int)+(x.sz:Int)<=(j:Int))=false:=dF (by omega)
      by_cases q4:x.g+x.sz<j+S
      . have p4:decide ((x.g:Int)+(x.sz:Int)-(j:Int)<(S:Int))=true:=dT (by omega)
        have HNN:Sl (∀ m y,m<k+1->cs[m]?=some y->¬ Hit y j S):=⟨λ m y hm hy=>by
          by_cases e:m=k
          . subst e;rw [HX.out] at hy;injection hy with hy;subst hy;exact λ h=>by have:=h.2.2.2;rw [Cel.fin] at this;omega
          . exact hno.out m y (by omega) hy⟩
        have kx:Kp Ab wr (wr.alloc (.cells #[.int .i64 (x.g:Nat),.int .u8 (x.tag:Nat),.int .i64 (x.ty:Nat),.int .i64 (x.ln:Nat),.int .i64 (x.sz:Nat)] 71)):=(Kr _ wr).alloc _
        go_wp2
        exact⟨⟨k+1,by omega,by go_num,HKK.out.then' kx,HNN⟩,by simp only[intOf];omega⟩
      have p4:decide ((x.g:Int)+(x.sz:Int)-(j:Int)<(S:Int))=false:=dF (by omega)
      have hhit:Hit x j S:=⟨q1,by omega,by rw[Cel.fin];omega,by rw[Cel.fin];omega⟩
      have HH:=sE hhit
      have HR0:=sE (HHit.out x HXm.out hhit)
      clear hhit
      have KWr:=HKL.out.then' HKK.out
      have HKWr:=sE KWr
      clear KWr
      go_wp2_with fail
      go_region_held3 (λ w'=>w'.cell? ⟨rb,0,none⟩=some (.slice (some ⟨q,0,none⟩) P.n capr)/\w'.cell? ⟨rb,1,none⟩=some lv) (exact ⟨Be KU c0,Be KU c1⟩)
        (first | (go_at_call 129;with_reducible refine(HMake.out (wr.alloc (.cells #[.int .i64 (x.g:Nat),.int .u8 (x.tag:Nat),.int .i64 (x.ty:Nat),.int .i64 (x.ln:Nat),.int .i64 (x.sz:Nat)] 71)).drew capr (HKWr.out.then' ((Kr Ab _).alloc _).drew) (by omega)).mono ?_;rintro e w5 ⟨q5,cap5,rfl,R5,hq5,k5⟩
                  have b13:=k5.at_ (show (wr.alloc (.cells #[.int .i64 (x.g:Nat),.int .u8 (x.tag:Nat),.int .i64 (x.ty:Nat),.int .i64 (x.ln:Nat),.int .i64 (x.sz:Nat)] 71)).drew.heap[wr.heap.size]?=_ from wN wr _) (λ h=>h)
                  have K5:Kp Ab wr w5:=((Kr Ab wr).alloc _).drew.then' k5))
      have hq5':wr.heap.size+1<=q5:=by have h:=hq5;rw [World.size_drew,World.size_alloc] at h;exact h
      have D5:=HD.out.Ad (HKWr.out.then' K5)
      have hlt5:=D5.lt
      have f5:=D5.free 0
      have hc5:=D5.head
      clear c0 c1 hltr
      obtain⟨cap6,c0,c1⟩:=hc5
      have HB13:=sE b13
      have HD5:=sE D5
      have HR5:=sE R5
      have HK5:=sE K5
      have hl13:=lZ b13
      have hs5:=K5.size
      have hsw:=HKWr.out.size
      clear D5 R5 K5 k5 b13 h0 h1 h2 h3 r0 r1 r2 r3 r4 hq5
      have B9:=HK5.out.at_ (HKK.out.at_ HB9.out (λ h=>h)) (λ h=>h)
      obtain⟨h0,h1,h2,h3⟩:=Ay B9
      have e0:w5.cell? ⟨wr.heap.size,0,none⟩=some (.int .i64 (x.g:Nat)):=by simp[World.cell?,HB13.out]
      have e4:w5.cell? ⟨wr.heap.size,4,none⟩=some (.int .i64 (x.sz:Nat)):=by simp[World.cell?,HB13.out]
      go_wp2_with fail
      obtain⟨w6,hw6⟩:∃ w6,w6=w5.setCell ⟨rb,0,none⟩ (.slice (some ⟨q5,0,none⟩) P.n cap5):=⟨_,rfl⟩
      rw[<- hw6]
      have k6:Kp (λ b=>b=rb) w5 w6:=by rw[hw6];exact (Kr (λ b=>b=rb) w5).setCell (λ _=>rfl) _
      have hltw:=HKWr.out.size
      have D6:DocAt w6 rb q5 P.n (makeW W j i l S) lv:=by
        obtain⟨c,hr⟩:=HD5.out.hr
        exact⟨⟨cap5,by rw[hw6,bZ hr _];rfl⟩,HR5.out.keep k6 (λ h=>by have h':q5=rb:=h;omega)⟩
      have HM1:Sl ((j:Int)-(x.g:Int)=((j-x.g:Nat):Int)):=⟨by omega⟩
      have HM2:Sl ((x.g:Int)+(x.sz:Int)-(j:Int)-(S:Int)=((x.fin-j-S:Nat):Int)):=⟨by rw[Cel.fin];omega⟩
      have HM3:Sl ((j:Int)+(S:Int)=((j+S:Nat):Int)):=⟨by omega⟩
      have hs9:rb<w2.heap.size:=hlt2
      have B6:=k6.at_ HB13.out (λ h=>by have h':wr.heap.size=rb:=h;omega)
      have B69:=k6.at_ B9 (λ h=>by have h':w2.heap.size=rb:=h;omega)
      have HL1:=sE (DL rb q5 P.n _ lv x.g (j-x.g) w6 D6 (by omega))
      have hs6:=k6.size
      have HK6:=sE k6
      clear e0 e4 h0 h1 h2 h3 B9 hw6 D6 k6 c0 c1 f5
      rw[HM1.out]
      refine HL1.out.mono ?_
      rintro e w7 ⟨rfl,q7,D7,hq7,k7⟩
      have B7:=k7.at_ B6 (λ h=>by have h':wr.heap.size=rb:=h;omega)
      have B79:=k7.at_ B69 (λ h=>by have h':w2.heap.size=rb:=h;omega)
      have e0:w7.cell? ⟨wr.heap.size,0,none⟩=some (.int .i64 (x.g:Nat)):=by simp[World.cell?,B7]
      have e4:w7.cell? ⟨wr.heap.size,4,none⟩=some (.int .i64 (x.sz:Nat)):=by simp[World.cell?,B7]
      obtain⟨h0,h1,h2,h3⟩:=Ay B79
      have hl7:=lZ B7
      have hl79:=lZ B79
      have HL2:=sE (DL rb q7 P.n _ lv (j+S) (x.fin-j-S) w7 D7 (by rw[Cel.fin];omega))
      have hs7:=k7.size
      have HK7:=sE k7
      clear B6 B69 B7 B79 D7 k7 HL1
      go_wp2_with fail
      rw[HM2.out,HM3.out]
      refine HL2.out.mono ?_
      rintro e w8 ⟨rfl,q8,D8,hq8,k8⟩
      have HD8:=sE D8
      have HK8:=sE k8
      clear e0 e4 h0 h1 h2 h3 D8 k8 HL2
      go_wp2
      refine bodyPost_ret (v:=.int .i64 0) (by simp[results,results84,go_sem]) rfl ⟨by rw[HR0.out],?_,.inr ⟨HR0.out,x,j,i,l,S,HXm.out,rfl,rfl,rfl,HSS.out,HH.out,q8,?_,HD8.out⟩⟩
      . exact((((HKWr.out.then' HK5.out).Ak (λ b=>b=rb)).trans HK6.out (λ _ _ h=>h)).trans HK7.out (λ _ _ h=>h)).trans HK8.out (λ _ _ h=>h)
      . omega
    . have hkl':¬ (k:Int)<(len:Int):=by omega
      have HR3:Sl _:=⟨HNo.out (λ x hx=>by
        obtain⟨m,hm⟩:=List.getElem?_of_mem hx
        have hml:=(gE.1 hm).1
        rw[HLen.out] at hml
        exact hno.out m x (by omega) hm)⟩
      clear hDr B9 hkk
      go_wp2
      have KF:=HKL.out.then' HKK.out
      exact bodyPost_ret (v:=.int .i64 3) (by simp[results,results84,go_sem]) rfl ⟨by rw[HR3.out],KF.Ak _,.inl ⟨by rw[HR3.out];omega,HD.out.Ad KF⟩⟩

theorem DPut_any(P:Sp)(W:Nat->Nat)(cs:List Cel)(rb q:Nat)(lv:Value)(g id n:Int)(w:World)(hd:DocAt w rb q P.n W lv)(hc:CellsAt P W cs)(hv:AO w lv P.ts)(few:P.ts.length<=64)(hM:Cg P.ts):
    Calls prog 84 #[.pointer (some ⟨rb,0,none⟩),.int .i64 g,.int .i64 id,.int .i64 n] w (DPutPost P cs W rb q lv g id n w):=by
  by_cases he:AY P.ts id n=0
  . obtain⟨i,l,S,rfl,rfl,hS,h0,h1,hok⟩:=obj_ok few he
    by_cases ho:g<0\/((P.n/2:Nat):Int)<=g
    . exact DPut_out P W cs rb q lv g i l S w hd hv (by omega) hM he hS ho
    . obtain⟨j,rfl⟩:=Int.eq_ofNat_of_zero_le (show 0<=g by omega)
      exact DPut_in P W cs rb q lv j i l S w hd hc hv (by omega) hM he hS h0 hok.1 (by omega)
  . exact DPut_err P W cs rb q lv g id n w hd hv (by omega) hM he

def DDropPost(P:Sp)(cs:List Cel)(W:Nat->Nat)(rb q:Nat)(lv:Value)(g:Int)(w:World)(e:Ending)(w':World):Prop:=
  (e=.returned (.int .i64 3)/\(∀ j:Nat,g=(j:Nat)->Aq cs j=false)/\DocAt w' rb q P.n W lv/\Kp Ab w w')\/
  (e=.returned (.int .i64 0)/\Kp (λ k=>k=rb) w w'/\∃ (j:Nat) (p1 g1:List Cel) (c:Cel) (g2 p2:List Cel) (x y:Nat),g=(j:Nat)/\Dj cs j p1 g1 c g2 p2 x y/\∃ q',(q'=q\/w.heap.size<=q')/\DocAt w' rb q' P.n (AZ W x (y-x)) lv)

theorem snoc_or(a:List Cel):a=[]\/∃ a' d,a=a'++[d]:=by
  rcases List.eq_nil_or_concat a with h|⟨a',d,h⟩
  . exact .inl h
  . exact .inr ⟨a',d,by rw[h];simp⟩

set_option maxRecDepth 20000 in
theorem DDrop_any(P:Sp)(W:Nat->Nat)(cs:List Cel)(rb q:Nat)(lv:Value)(g:Int)(w:World)(hd:DocAt w rb q P.n W lv)(hc:CellsAt P W cs)(hv:AO w lv P.ts)(hl:P.ts.length<=17592186044416)(hM:Cg P.ts):
    Calls prog 86 #[.pointer (some ⟨rb,0,none⟩),.int .i64 g] w (DDropPost P cs W rb q lv g w):=by
  have hlen:cs.length<=32768:=by
    have:=BD hc.tl
    have:=hd.row.small
    omega
  have HAll:=sE (DAll_at P W cs rb q lv w hd hc hv hl hM)
  have hlt:=hd.lt
  have hn:=hd.row.small
  have HD:=sE hd
  have HTl:=sE hc.tl
  clear hd hv hM hl hc
  go_enter func86,ntmps86
  go_wp2_with fail
  refine HAll.out.mono ?_
  rintro e wl ⟨v,rfl,hown,kl⟩
  have HKL:=sE kl
  have HRow:=sE (E9.Br hown)
  obtain⟨va,vc,hva,-⟩:=HRow.out
  subst hva
  obtain⟨len,hlen'⟩:∃ len,cs.length=len:=⟨_,rfl⟩
  rw[hlen'] at HRow hlen ⊢
  have HLen:=sE hlen'
  clear hown kl HAll hlen'
  go_wp2_with fail
  go_loopw [6] (λ y wr=>∃ k:Nat,k<=len/\y=.int .i64 (k:Nat)/\Kp Ab wl wr/\Sl (∀ m x,m<k->cs[m]?=some x->¬ (x.tag=1/\(x.g:Int)=g))) (λ y _=>len-(intOf y).toNat)
  case atStart=>exact ⟨0,Nat.zero_le _,rfl,Kr _ _,⟨λ m x h=>by omega⟩⟩
  case round=>
    obtain⟨k,hk,rfl,hkk,hno⟩:=hrel
    have HKK:=sE hkk
    by_cases hkl:k<len
    . have hkl':(k:Int)<(len:Int):=by omega
      obtain⟨x,hx⟩:∃ x,cs[k]?=some x:=⟨cs[k]'(by rw[HLen.out];exact hkl),by simp⟩
      obtain⟨a',cap',ha',hrow⟩:=HRow.out.Ad hkk
      obtain⟨b,hab,hb0,r0,r1,r2,r3,r4⟩:=hrow k x hx
      have hva:va=some ⟨b,0,none⟩:=by injection ha' with h1;rw [h1];exact hab
      subst hva
      have hxm:x∈cs:=List.mem_of_getElem? hx
      have hxf:=(HTl.out.mem hxm).2.1
      have HX:=sE hx
      have HRow2:Sl (∀ m d,cs[m]?=some d->b<wl.heap.size/\
          wl.cell? ⟨b,m*5,none⟩=some (.int .i64 (d.g:Nat))/\wl.cell? ⟨b,m*5+1,none⟩=some (.int .u8 (d.tag:Nat))/\wl.cell? ⟨b,m*5+4,none⟩=some (.int .i64 (d.sz:Nat))):=⟨λ m d hm=>by
        obtain⟨a2,cap2,ha2,hrow2⟩:=HRow.out
        obtain⟨b2,hab2,hb2,s0,s1,s2,s3,s4⟩:=hrow2 m d hm
        injection ha2 with h1
        rw[<- h1] at hab2
        injection hab2 with h2
        injection h2 with h3
        subst h3
        exact⟨hb2,s0,s1,s4⟩⟩
      clear hx hxm hrow ha' hab
      by_cases q1:(x.g:Int)=g
      . by_cases q2:x.tag=1
        . have p1:((x.g:Int) !=g)=false:=by simp[q1]
          have p2:((x.tag:Int) !=1)=false:=by simp;omega
          obtain⟨pre,post,hcs,hpl⟩:∃ pre post,cs=pre++x::post/\pre.length=k:=by
            have hk2:k<cs.length:=by rw[HLen.out];exact hkl
            refine⟨cs.take k,cs.drop (k+1),?_,by simp;omega⟩
            have:=gE.1 HX.out
            obtain⟨_,h⟩:=this
            rw[<- h,<- List.drop_eq_getElem_cons hk2,List.take_append_drop]
          have HCs:=sE hcs
          have HTP:Sl (Au 0 pre x.g/\Au x.fin post (P.n/2)):=⟨by
            have h:=HTl.out
            rw[hcs] at h
            exact⟨h.fin_at.2.2,h.fin_at.2.1⟩⟩
          have HPl:Sl (pre.length+1+post.length=len):=⟨by
            have:=HLen.out
            rw[hcs] at this
            simp at this
            omega⟩
          subst hpl
          have HPre:Sl (∀ (a c:List Cel) (d:Cel),pre=a++d::c->cs[a.length]?=some d):=⟨λ a c d h=>by rw[HCs.out,h];simp⟩
          have HPost:Sl (∀ (a c:List Cel) (d:Cel),post=a++d::c->cs[pre.length+1+a.length]?=some d):=⟨λ a c d h=>by
            rw[HCs.out,h,List.getElem?_append_right (by omega)]
            rw[show pre.length+1+a.length-pre.length=a.length+1 by omega]
            simp⟩
          obtain⟨j,hj⟩:∃ j,x.g=j:=⟨_,rfl⟩
          rw[hj] at q1 HTP r0
          subst q1
          have q3:(j:Int)+(x.sz:Int)=((x.fin:Nat):Int):=by rw[Cel.fin,hj];omega
          have HJ:=sE hj
          have HQ2:=sE q2
          have HX0:Sl (0<x.sz/\x.fin<=P.n/2):=⟨by
            have:=HTl.out.mem (c:=x) (by rw[HCs.out];simp)
            exact⟨this.2.2,this.2.1⟩⟩
          have hxb:x.fin<=32768:=by have:=HX0.out;omega
          clear hcs hkk hj q2
          go_wp2_with fail
          go_region
          go_wp2_with fail
          go_loopw [7,9] (λ f y w'=>∃ (a b0:List Cel) (z:Nat) (zi:Int),pre=a++b0/\f=.int .i64 (z:Nat)/\y=.int .i64 zi/\zi=(a.length:Int)-1/\Sl (Au 0 a z/\∀ d∈b0,¬ d.tag=1)/\Kp Ab wl w') (λ _ y _=>(intOf y+1).toNat)
          case atStart=>exact ⟨pre,[],j,(pre.length:Int)-1,by simp,rfl,rfl,rfl,⟨HTP.out.1,λ d hd=>by cases hd⟩,HKK.out.then' (Kr Ab _).drew⟩
          case round=>
            obtain⟨a,b0,z,zi,hpre,rfl,rfl,hzi,hab,hkb⟩:=hrel
            rcases snoc_or a with ha|⟨a',d,ha⟩
            . subst ha
              obtain rfl:zi=-1:=by rw[hzi];rfl
              clear hzi
              have HPs:Sl (pre=[]++b0):=⟨hpre⟩
              have HKb:=sE hkb
              have hxb':x.fin<=32768:=hxb
              clear hpre
              go_wp2_with fail
              go_loopw [8,10] (λ t y w'=>∃ (a2 b2:List Cel) (z2 yi:Nat),Sl (post=a2++b2)/\t=.int .i64 (z2:Nat)/\y=.int .i64 (yi:Nat)/\yi=pre.length+1+a2.length/\Sl (Au x.fin a2 z2/\∀ d∈a2,¬ d.tag=1)/\yi<=len/\Kp Ab wl w') (λ _ y _=>len-(intOf y).toNat)
              case atStart=>exact ⟨[],post,x.fin,pre.length+1,⟨rfl⟩,rfl,by go_num,rfl,⟨rfl,λ d hd=>by cases hd⟩,by omega,HKb.out⟩
              case round=>
                obtain⟨a2,b2,z2,yi,HPt,rfl,rfl,hyi,hab2,hyl,hk2⟩:=hrel
                rcases b2 with _|⟨d2,r2'⟩
                . have hyn:yi=len:=by
                    have:=HPt.out
                    rw[List.append_nil] at this
                    rw[hyi,<- this];exact HPl.out
                  have p4:decide ((yi:Int)<(len:Int))=false:=dF (by omega)
                  have p4n:¬ (yi:Int)<(len:Int):=by omega
                  have HYI:=sE hyi
                  clear hyn hyi
                  have HDr:Sl (Dj cs j [] b0 x a2 [] z z2):=⟨by
                    refine⟨?_,HJ.out,HQ2.out,hab.out.2,hab2.out.2,.inl rfl,.inl rfl,hab.out.1,?_,?_⟩
                    . rw[HCs.out,HPs.out,HPt.out];simp
                    . have h1:=HTP.out.1
                      rw[HPs.out] at h1
                      obtain⟨zz,t1,t2⟩:=h1.split
                      obtain rfl:=hab.out.1.uniq t1
                      exact t2.app ⟨HJ.out,HX0.out.1,by have h9:=hab2.out.1;rw [Cel.fin,HJ.out] at h9;exact h9⟩
                    . have h1:=HTP.out.1
                      rw[HPs.out] at h1
                      obtain⟨zz,t1,t2⟩:=h1.split
                      obtain rfl:=hab.out.1.uniq t1
                      have:=t2.le
                      have:=hab2.out.1.le
                      have:=HX0.out.1
                      rw[Cel.fin] at*
                      have:=HJ.out
                      omega⟩
                  have hzz:z<z2:=HDr.out.2.2.2.2.2.2.2.2.2
                  have hz2n:z2<=P.n/2:=by
                    have h:=HTP.out.2
                    rw[HPt.out] at h
                    obtain⟨zz,t1,t2⟩:=h.split
                    obtain rfl:=hab2.out.1.uniq t1
                    exact t2.le
                  have HM:Sl ((z2:Int)-(z:Int)=((z2-z:Nat):Int)):=⟨by omega⟩
                  have HL:Sl (∀ W',Kp Ab wl W'->Calls prog 126 #[.pointer (some ⟨rb,0,none⟩),.int .i64 (z:Nat),.int .i64 ((z2-z:Nat):Int)] W' (DLaid rb q P.n (AZ W z (z2-z)) lv W')):=
                    ⟨λ W' kk=>DL rb q P.n W lv z (z2-z) W' (HD.out.Ad (HKL.out.then' kk)) (by omega)⟩
                  have HK2:=sE hk2
                  clear hk2
                  go_wp2_with fail
                  rw[HM.out]
                  refine(HL.out _ HK2.out).mono ?_
                  rintro e wz ⟨rfl,q',D',hq',k'⟩
                  have HD':=sE D'
                  have HK':=sE k'
                  have KB:=HKL.out.then' HK2.out
                  have hsB:=KB.size
                  clear D' k'
                  go_wp2
                  exact bodyPost_ret (v:=.int .i64 0) (by simp[results,results86,go_sem]) rfl (.inr ⟨rfl,(KB.Ak (λ b=>b=rb)).trans HK'.out (λ _ _ h=>h),j,[],b0,x,a2,[],z,z2,rfl,HDr.out,q',by rcases hq' with h|h;exact .inl h;exact .inr (by omega),HD'.out⟩)
                . have hyn:yi<len:=by
                    have hpl9:=HPl.out
                    have:=congrArg List.length HPt.out
                    simp at this
                    omega
                  have p4:decide ((yi:Int)<(len:Int))=true:=dT (by omega)
                  have p4n:(yi:Int)<(len:Int):=by omega
                  have hd2:=HPost.out a2 r2' d2 HPt.out
                  rw[<- hyi] at hd2
                  have HYI:=sE hyi
                  clear hyi
                  obtain⟨hbs,s0,s1,s4⟩:=HRow2.out yi d2 hd2
                  have hbs2:=Nat.lt_of_lt_of_le hbs hk2.size
                  replace s0:=hk2.cell s0 (λ h=>h)
                  replace s1:=hk2.cell s1 (λ h=>h)
                  replace s4:=hk2.cell s4 (λ h=>h)
                  have hdf:=HTl.out.mem (List.mem_of_getElem? hd2)
                  clear hd2 hbs
                  by_cases q5:d2.tag=1
                  . have p5:((d2.tag:Int) !=1)=false:=by simp;omega
                    have HDr:Sl (Dj cs j [] b0 x a2 (d2::r2') z z2):=⟨by
                      refine⟨?_,HJ.out,HQ2.out,hab.out.2,hab2.out.2,.inl rfl,.inr ⟨d2,r2',rfl,q5⟩,hab.out.1,?_,?_⟩
                      . rw[HCs.out,HPs.out,HPt.out];simp
                      . have h1:=HTP.out.1
                        rw[HPs.out] at h1
                        obtain⟨zz,t1,t2⟩:=h1.split
                        obtain rfl:=hab.out.1.uniq t1
                        exact t2.app ⟨HJ.out,HX0.out.1,by have h9:=hab2.out.1;rw [Cel.fin,HJ.out] at h9;exact h9⟩
                      . have h1:=HTP.out.1
                        rw[HPs.out] at h1
                        obtain⟨zz,t1,t2⟩:=h1.split
                        obtain rfl:=hab.out.1.uniq t1
                        have:=t2.le
                        have:=hab2.out.1.le
                        have:=HX0.out.1
                        rw[Cel.fin] at*
                        have:=HJ.out
                        omega⟩
                    have hzz:z<z2:=HDr.out.2.2.2.2.2.2.2.2.2
                    have hz2n:z2<=P.n/2:=by
                      have h:=HTP.out.2
                      rw[HPt.out] at h
                      obtain⟨zz,t1,t2⟩:=h.split
                      obtain rfl:=hab2.out.1.uniq t1
                      exact t2.le
                    have HM:Sl ((z2:Int)-(z:Int)=((z2-z:Nat):Int)):=⟨by omega⟩
                    have HL:Sl (∀ W',Kp Ab wl W'->Calls prog 126 #[.pointer (some ⟨rb,0,none⟩),.int .i64 (z:Nat),.int .i64 ((z2-z:Nat):Int)] W' (DLaid rb q P.n (AZ W z (z2-z)) lv W')):=
                      ⟨λ W' kk=>DL rb q P.n W lv z (z2-z) W' (HD.out.Ad (HKL.out.then' kk)) (by omega)⟩
                    have HK2:=sE hk2
                    clear hk2
                    go_wp2_with fail
                    rw[HM.out]
                    refine(HL.out _ HK2.out).mono ?_
                    rintro e wz ⟨rfl,q',D',hq',k'⟩
                    have HD':=sE D'
                    have HK':=sE k'
                    have KB:=HKL.out.then' HK2.out
                    have hsB:=KB.size
                    clear D' k'
                    go_wp2
                    exact bodyPost_ret (v:=.int .i64 0) (by simp[results,results86,go_sem]) rfl (.inr ⟨rfl,(KB.Ak (λ b=>b=rb)).trans HK'.out (λ _ _ h=>h),j,[],b0,x,a2,(d2::r2'),z,z2,rfl,HDr.out,q',by rcases hq' with h|h;exact .inl h;exact .inr (by omega),HD'.out⟩)
                  . have p5:((d2.tag:Int) !=1)=true:=by simp;omega
                    have q6:(d2.g:Int)+(d2.sz:Int)=((d2.fin:Nat):Int):=by rw[Cel.fin];omega
                    have hfb:d2.fin<=32768:=by rw[Cel.fin];omega
                    have HN:Sl (post=(a2++[d2])++r2'):=⟨by rw[HPt.out];simp⟩
                    have HT:Sl (Au x.fin (a2++[d2]) d2.fin/\∀ d∈a2++[d2],¬ d.tag=1):=⟨by
                      have h:=HTP.out.2
                      rw[HPt.out] at h
                      refine⟨h.fin_at.1,λ d hd=>?_⟩
                      rcases List.mem_append.1 hd with hd|hd
                      . exact hab2.out.2 d hd
                      . rw[List.mem_singleton.1 hd];exact q5⟩
                    have HK2:=sE hk2
                    clear hk2 hdf
                    go_wp2_with fail
                    go_region
                    go_wp2
                    exact⟨⟨a2++[d2],r2',d2.fin,yi+1,HN,rfl,by go_num,by have h8:=HYI.out;simp;omega,HT,by omega,HK2.out.then' (Kr Ab _).drew⟩,by simp only[intOf];omega⟩
            . subst ha
              obtain⟨m,hm⟩:∃ m,a'.length=m:=⟨_,rfl⟩
              obtain rfl:zi=(m:Int):=by rw[hzi];simp;omega
              have hpl':m<pre.length:=by rw[hpre];simp;omega
              have hdd:=HPre.out a' b0 d (by rw[hpre];simp)
              rw[hm] at hdd
              obtain⟨hbs,s0,s1,s4⟩:=HRow2.out m d hdd
              have hbs2:=Nat.lt_of_lt_of_le hbs hkb.size
              replace s0:=hkb.cell s0 (λ h=>h)
              replace s1:=hkb.cell s1 (λ h=>h)
              clear hdd hbs s4 hzi
              by_cases q5:d.tag=1
              . have p5:((d.tag:Int) !=1)=false:=by simp;omega
                have HQ5:=sE q5
                clear q5
                have HPs:Sl (pre=(a'++[d])++b0):=⟨hpre⟩
                have HKb:=sE hkb
                have hxb':x.fin<=32768:=hxb
                clear hpre
                go_wp2_with fail
                go_loopw [8,10] (λ t y w'=>∃ (a2 b2:List Cel) (z2 yi:Nat),Sl (post=a2++b2)/\t=.int .i64 (z2:Nat)/\y=.int .i64 (yi:Nat)/\yi=pre.length+1+a2.length/\Sl (Au x.fin a2 z2/\∀ d∈a2,¬ d.tag=1)/\yi<=len/\Kp Ab wl w') (λ _ y _=>len-(intOf y).toNat)
                case atStart=>exact ⟨[],post,x.fin,pre.length+1,⟨rfl⟩,rfl,by go_num,rfl,⟨rfl,λ d hd=>by cases hd⟩,by omega,HKb.out⟩
                case round=>
                  obtain⟨a2,b2,z2,yi,HPt,rfl,rfl,hyi,hab2,hyl,hk2⟩:=hrel
                  rcases b2 with _|⟨d2,r2'⟩
                  . have hyn:yi=len:=by
                      have:=HPt.out
                      rw[List.append_nil] at this
                      rw[hyi,<- this];exact HPl.out
                    have p4:decide ((yi:Int)<(len:Int))=false:=dF (by omega)
                    have p4n:¬ (yi:Int)<(len:Int):=by omega
                    have HYI:=sE hyi
                    clear hyn hyi
                    have HDr:Sl (Dj cs j (a'++[d]) b0 x a2 [] z z2):=⟨by
                      refine⟨?_,HJ.out,HQ2.out,hab.out.2,hab2.out.2,.inr ⟨a',d,rfl,HQ5.out⟩,.inl rfl,hab.out.1,?_,?_⟩
                      . rw[HCs.out,HPs.out,HPt.out];simp
                      . have h1:=HTP.out.1
                        rw[HPs.out] at h1
                        obtain⟨zz,t1,t2⟩:=h1.split
                        obtain rfl:=hab.out.1.uniq t1
                        exact t2.app ⟨HJ.out,HX0.out.1,by have h9:=hab2.out.1;rw [Cel.fin,HJ.out] at h9;exact h9⟩
                      . have h1:=HTP.out.1
                        rw[HPs.out] at h1
                        obtain⟨zz,t1,t2⟩:=h1.split
                        obtain rfl:=hab.out.1.uniq t1
                        have:=t2.le
                        have:=hab2.out.1.le
                        have:=HX0.out.1
                        rw[Cel.fin] at*
                        have:=HJ.out
                        omega⟩
                    have hzz:z<z2:=HDr.out.2.2.2.2.2.2.2.2.2
                    have hz2n:z2<=P.n/2:=by
                      have h:=HTP.out.2
                      rw[HPt.out] at h
                      obtain⟨zz,t1,t2⟩:=h.split
                      obtain rfl:=hab2.out.1.uniq t1
                      exact t2.le
                    have HM:Sl ((z2:Int)-(z:Int)=((z2-z:Nat):Int)):=⟨by omega⟩
                    have HL:Sl (∀ W',Kp Ab wl W'->Calls prog 126 #[.pointer (some ⟨rb,0,none⟩),.int .i64 (z:Nat),.int .i64 ((z2-z:Nat):Int)] W' (DLaid rb q P.n (AZ W z (z2-z)) lv W')):=
                      ⟨λ W' kk=>DL rb q P.n W lv z (z2-z) W' (HD.out.Ad (HKL.out.then' kk)) (by omega)⟩
                    have HK2:=sE hk2
                    clear hk2
                    go_wp2_with fail
                    rw[HM.out]
                    refine(HL.out _ HK2.out).mono ?_
                    rintro e wz ⟨rfl,q',D',hq',k'⟩
                    have HD':=sE D'
                    have HK':=sE k'
                    have KB:=HKL.out.then' HK2.out
                    have hsB:=KB.size
                    clear D' k'
                    go_wp2
                    exact bodyPost_ret (v:=.int .i64 0) (by simp[results,results86,go_sem]) rfl (.inr ⟨rfl,(KB.Ak (λ b=>b=rb)).trans HK'.out (λ _ _ h=>h),j,(a'++[d]),b0,x,a2,[],z,z2,rfl,HDr.out,q',by rcases hq' with h|h;exact .inl h;exact .inr (by omega),HD'.out⟩)
                  . have hyn:yi<len:=by
                      have hpl9:=HPl.out
                      have:=congrArg List.length HPt.out
                      simp at this
                      omega
                    have p4:decide ((yi:Int)<(len:Int))=true:=dT (by omega)
                    have p4n:(yi:Int)<(len:Int):=by omega
                    have hd2:=HPost.out a2 r2' d2 HPt.out
                    rw[<- hyi] at hd2
                    have HYI:=sE hyi
                    clear hyi
                    obtain⟨hbs,s0,s1,s4⟩:=HRow2.out yi d2 hd2
                    have hbs2:=Nat.lt_of_lt_of_le hbs hk2.size
                    replace s0:=hk2.cell s0 (λ h=>h)
                    replace s1:=hk2.cell s1 (λ h=>h)
                    replace s4:=hk2.cell s4 (λ h=>h)
                    have hdf:=HTl.out.mem (List.mem_of_getElem? hd2)
                    clear hd2 hbs
                    by_cases q5:d2.tag=1
                    . have p5:((d2.tag:Int) !=1)=false:=by simp;omega
                      have HDr:Sl (Dj cs j (a'++[d]) b0 x a2 (d2::r2') z z2):=⟨by
                        refine⟨?_,HJ.out,HQ2.out,hab.out.2,hab2.out.2,.inr ⟨a',d,rfl,HQ5.out⟩,.inr ⟨d2,r2',rfl,q5⟩,hab.out.1,?_,?_⟩
                        . rw[HCs.out,HPs.out,HPt.out];simp
                        . have h1:=HTP.out.1
                          rw[HPs.out] at h1
                          obtain⟨zz,t1,t2⟩:=h1.split
                          obtain rfl:=hab.out.1.uniq t1
                          exact t2.app ⟨HJ.out,HX0.out.1,by have h9:=hab2.out.1;rw [Cel.fin,HJ.out] at h9;exact h9⟩
                        . have h1:=HTP.out.1
                          rw[HPs.out] at h1
                          obtain⟨zz,t1,t2⟩:=h1.split
                          obtain rfl:=hab.out.1.uniq t1
                          have:=t2.le
                          have:=hab2.out.1.le
                          have:=HX0.out.1
                          rw[Cel.fin] at*
                          have:=HJ.out
                          omega⟩
                      have hzz:z<z2:=HDr.out.2.2.2.2.2.2.2.2.2
                      have hz2n:z2<=P.n/2:=by
                        have h:=HTP.out.2
                        rw[HPt.out] at h
                        obtain⟨zz,t1,t2⟩:=h.split
                        obtain rfl:=hab2.out.1.uniq t1
                        exact t2.le
                      have HM:Sl ((z2:Int)-(z:Int)=((z2-z:Nat):Int)):=⟨by omega⟩
                      have HL:Sl (∀ W',Kp Ab wl W'->Calls prog 126 #[.pointer (some ⟨rb,0,none⟩),.int .i64 (z:Nat),.int .i64 ((z2-z:Nat):Int)] W' (DLaid rb q P.n (AZ W z (z2-z)) lv W')):=
                        ⟨λ W' kk=>DL rb q P.n W lv z (z2-z) W' (HD.out.Ad (HKL.out.then' kk)) (by omega)⟩
                      have HK2:=sE hk2
                      clear hk2
                      go_wp2_with fail
                      rw[HM.out]
                      refine(HL.out _ HK2.out).mono ?_
                      rintro e wz ⟨rfl,q',D',hq',k'⟩
                      have HD':=sE D'
                      have HK':=sE k'
                      have KB:=HKL.out.then' HK2.out
                      have hsB:=KB.size
                      clear D' k'
                      go_wp2
                      exact bodyPost_ret (v:=.int .i64 0) (by simp[results,results86,go_sem]) rfl (.inr ⟨rfl,(KB.Ak (λ b=>b=rb)).trans HK'.out (λ _ _ h=>h),j,(a'++[d]),b0,x,a2,(d2::r2'),z,z2,rfl,HDr.out,q',by rcases hq' with h|h;exact .inl h;exact .inr (by omega),HD'.out⟩)
                    . have p5:((d2.tag:Int) !=1)=true:=by simp;omega
                      have q6:(d2.g:Int)+(d2.sz:Int)=((d2.fin:Nat):Int):=by rw[Cel.fin];omega
                      have hfb:d2.fin<=32768:=by rw[Cel.fin];omega
                      have HN:Sl (post=(a2++[d2])++r2'):=⟨by rw[HPt.out];simp⟩
                      have HT:Sl (Au x.fin (a2++[d2]) d2.fin/\∀ d∈a2++[d2],¬ d.tag=1):=⟨by
                        have h:=HTP.out.2
                        rw[HPt.out] at h
                        refine⟨h.fin_at.1,λ d hd=>?_⟩
                        rcases List.mem_append.1 hd with hd|hd
                        . exact hab2.out.2 d hd
                        . rw[List.mem_singleton.1 hd];exact q5⟩
                      have HK2:=sE hk2
                      clear hk2 hdf
                      go_wp2_with fail
                      go_region
                      go_wp2
                      exact⟨⟨a2++[d2],r2',d2.fin,yi+1,HN,rfl,by go_num,by have h8:=HYI.out;simp;omega,HT,by omega,HK2.out.then' (Kr Ab _).drew⟩,by simp only[intOf];omega⟩
              . have p5:((d.tag:Int) !=1)=true:=by simp;omega
                have HN:Sl (pre=a'++(d::b0)):=⟨by rw[hpre];simp⟩
                have HT:Sl (Au 0 a' d.g/\∀ y∈d::b0,¬ y.tag=1):=⟨by
                  refine⟨(Au.fin_at (rest:=[]) hab.out.1).2.2,λ y hy=>?_⟩
                  rcases List.mem_cons.1 hy with hy|hy
                  . rw[hy];exact q5
                  . exact hab.out.2 y hy⟩
                have HKb:=sE hkb
                clear hkb hpre
                go_wp2
                exact⟨⟨a',d::b0,d.g,(m:Int)-1,HN.out,rfl,by go_num,by rw[hm],HT,HKb.out⟩,by simp only[intOf];omega⟩
        . have p1:((x.g:Int) !=g)=false:=by simp[q1]
          have p2:((x.tag:Int) !=1)=true:=by simp;omega
          have HNN:Sl (∀ m y,m<k+1->cs[m]?=some y->¬ (y.tag=1/\(y.g:Int)=g)):=⟨λ m y hm hy=>by
            by_cases e:m=k
            . subst e;rw [HX.out] at hy;injection hy with hy;subst hy;exact λ h=>q2 h.1
            . exact hno.out m y (by omega) hy⟩
          go_wp2
          exact⟨⟨k+1,by omega,by go_num,HKK.out,HNN⟩,by simp only[intOf];omega⟩
      . have p1:((x.g:Int) !=g)=true:=by simp;omega
        have HNN:Sl (∀ m y,m<k+1->cs[m]?=some y->¬ (y.tag=1/\(y.g:Int)=g)):=⟨λ m y hm hy=>by
          by_cases e:m=k
          . subst e;rw [HX.out] at hy;injection hy with hy;subst hy;exact λ h=>q1 h.2
          . exact hno.out m y (by omega) hy⟩
        go_wp2
        exact⟨⟨k+1,by omega,by go_num,HKK.out,HNN⟩,by simp only[intOf];omega⟩
    . have hkl':¬ (k:Int)<(len:Int):=by omega
      have HNN:Sl (∀ j:Nat,g=(j:Nat)->Aq cs j=false):=⟨λ j hj=>by
        rw[Bool.eq_false_iff]
        intro h
        obtain⟨c,hc,t1,t2⟩:=Fq h
        obtain⟨m,hm⟩:=List.getElem?_of_mem hc
        have hml:=(gE.1 hm).1
        rw[HLen.out] at hml
        exact hno.out m c (by omega) hm ⟨t1,by omega⟩⟩
      clear hkk
      go_wp2
      have KF:=HKL.out.then' HKK.out
      exact bodyPost_ret (v:=.int .i64 3) (by simp[results,results86,go_sem]) rfl (.inl ⟨rfl,HNN.out,HD.out.Ad KF,KF⟩)

end

end Go.Proofs.YtmfajopmppfldaaGreatDoor
