/-
  Lemmas for the laws, together: Same09, TellsS.
-/
import Derived.Test.YtmfajopmppfldaaGreatDoorQat
import Derived.Test.YtmfajopmppfldaaGreatDoorQaz
import Derived.Deep.DeepCutAuto
import Derived.Deep.CutBlock
set_option linter.unusedVariables false
set_option maxHeartbeats 16000000
namespace Go.Proofs.YtmfajopmppfldaaGreatDoor
open Tryz
section
open Go.RowKit

section
attribute [local go_sem ↓] run_eql_slice_nil

theorem Clone_many(b len cap:Nat)(ws:List Nat)(w:World)(hl:ws.length=len)(hc:∀ j,j<len->w.cell? ⟨b,j,none⟩=some (.int .u64 (ws.getD j 0:Nat)))(hle:len<=65536):
  Calls prog 97 #[.slice (some ⟨b,0,none⟩) len cap] w λ e w'=>
   ∃ g cap',e=.returned (.slice (some ⟨g,0,none⟩) len cap')/\w.heap.size<=g/\len<=cap'/\(∃ cs,w'.heap[g]?=some (.cells cs 55 (0,0))/\len<=cs.size/\∀ j,j<len->cs[j]?=some (.int .u64 (ws.getD j 0:Nat)))/\Kp Ab w w':=by
 have HC:=sE hc
 have HL:=sE hl
 clear hc hl
 go_enter func97,ntmps97
 go_wp2_with (at_builtin;obtain ⟨i0,hi,hz0,hz1,hz2⟩:=info_parts infoWord;go_loud (refine wpList_append_own_at _ rfl (.tmp 5) (.tmp 6) 135 rfl w.heap.size 55 i0 _ 1 8 CU hi hz0 hz1 hz2 rfl (by omega) (.slice (some ⟨w.heap.size,0,none⟩) 0 0) 0 [] rfl (World.ownsRow_lit w #[] 0 (Nat.le_refl _) (by unfold maxLen;omega) rfl) ⟨b,0,none⟩ len cap (EA ws) rfl (by rw[EA,List.length_map,HL.out];omega) (by intro j u hu;exact clone_cells HC.out HL.out hu) (by intro u hu;exact words_oneCell ws u hu) (by unfold maxLen;omega) (by omega) (by simp) ?_);intro v' w1 hown hgrow hnil hat;clear hi hz0 hz1 hz2)
 have hk:Kp Ab w w1:=((Kr Ab w).alloc _).grown hgrow (λ k e hl=>by simp[Value.ownBlock] at e;omega)
 obtain⟨-,h2⟩:=hown
 rcases h2 with ⟨h2,-⟩|⟨g,cap',cur,h2,h3,h4,h5,h6,h7,h8⟩
 .have:=hnil.1 h2
  simp at this
 .rw [Nat.zero_add,Nat.mul_one,List.nil_append] at h8
  refine bodyPost_ret (v:=v') (by simp[results,results97,go_sem]) rfl ⟨g,cap',by rw[h2,Nat.zero_add],h3,by omega,⟨cur,h4,?_,λ j hj=>?_⟩,hk⟩
  .have h9:=congrArg List.length h8
   rw[List.length_take,EA,List.length_map,HL.out] at h9
   simp at h9
   omega
  .have h9:(cur.toList.take len)[j]?=(EA ws)[j]?:=by rw[h8]
   rw[List.getElem?_take_of_lt hj,wordVs_at ws j (by rw[HL.out];exact hj)] at h9
   simpa using h9

end

theorem range_getD(W:Nat->Nat){n j:Nat}(hj:j<n):((List.range n).map W).getD j 0=W j:=by
 simp[List.getD,List.getElem?_map,List.getElem?_range hj]

def AWordsPost(n:Nat)(W:Nat->Nat)(w:World)(e:Ending)(w':World):Prop:=
 ∃ g cap,e=.returned (.tuple #[.slice (some ⟨g,0,none⟩) n cap,.int .i64 0])/\w.heap.size<=g/\(∀ j,j<n->w'.cell? ⟨g,j,none⟩=some (.int .u64 (W j:Nat)))/\Kp Ab w w'

theorem AWords_at(a q n:Nat)(W:Nat->Nat)(w:World)(h:ArenaAt w a q W n):
  Calls prog 66 #[.pointer (some ⟨a,0,none⟩),.int .i64 0,.int .i64 (n:Nat)] w (AWordsPost n W w):=by
 have hn:=h.small
 obtain⟨cap,c,h0,h1,hcap⟩:=h.headC
 have HH:=sE (Fx 0 (n:Nat) a q n W w h)
 have hok:Bf n 0 (n:Nat)=true:=by unfold Bf;rw [decide_eq_true_eq];omega
 rw[hok] at HH
 have HC:=sE (Clone_many q n cap ((List.range n).map W) w (by simp) (λ j hj=>by rw[range_getD W hj];exact h.at_ hj) hn)
 have lq:=h.lt_q
 clear h hok
 go_enter func66,ntmps66
 go_wp2_with fail
 refine HH.out.mono ?_
 rintro e w1 ⟨rfl,rfl⟩
 have hc0:(n:Int)<=(cap:Int):=by omega
 have hE:errV true=0:=rfl
 rw[hE]
 go_wp2_with fail
 refine HC.out.mono ?_
 rintro e w2 ⟨g,cap',rfl,hg,-,⟨cs',h2,h3,h4⟩,k2⟩
 go_wp2_with fail
 refine bodyPost_ret (v:=.tuple #[.slice (some ⟨g,0,none⟩) n cap',.int .i64 0]) (by simp[results,results66,go_sem]) rfl ⟨g,cap',rfl,hg,λ j hj=>?_,k2⟩
 have:=h4 j hj
 rw[range_getD W hj] at this
 simp only[World.cell?,h2]
 exact this

theorem SameWords_yes(g g' n cap cap':Nat)(W:Nat->Nat)(w:World)(h1:∀ j,j<n->w.cell? ⟨g,j,none⟩=some (.int .u64 (W j:Nat)))(h2:∀ j,j<n->w.cell? ⟨g',j,none⟩=some (.int .u64 (W j:Nat)))(hn:n<=65536):
  Calls prog 68 #[.slice (some ⟨g,0,none⟩) n cap,.slice (some ⟨g',0,none⟩) n cap'] w λ e w'=>e=.returned (.bool true)/\Kp Ab w w':=by
 have H1:=sE h1
 have H2:=sE h2
 clear h1 h2
 go_enter func68,ntmps68
 go_wp2_with fail
 go_loopw [5] (λ x5 wr=>∃ j:Nat,j<=n/\x5=.int .i64 (j:Nat)/\Kp Ab w wr) (λ x5 _=>n-(intOf x5).toNat)
 case atStart=>exact ⟨0,Nat.zero_le _,rfl,Kr _ _⟩
 case round=>
  obtain⟨j,hj,rfl,hk⟩:=hrel
  have HK:=sE hk
  by_cases hjl:j<n
  .have hjl':(j:Int)<(n:Int):=by omega
   have x1:=hk.cell (H1.out j hjl) (λ h=>h)
   have x2:=hk.cell (H2.out j hjl) (λ h=>h)
   obtain⟨y,hy⟩:∃ y,W j=y:=⟨_,rfl⟩
   rw[hy] at x1 x2
   clear hk hy
   go_wp2_with fail
   go_quiet (fail)
   go_wp2
   exact⟨⟨j+1,by omega,by go_num,HK.out.then' (Kp.Aj _)⟩,by simp only[intOf];omega⟩
  .have hjl':¬ (j:Int)<(n:Int):=by omega
   clear hk
   go_wp2_with fail
   exact bodyPost_ret (v:=.bool true) (by simp[results,results68,go_sem]) rfl ⟨rfl,HK.out⟩

theorem cnt_starts:∀ {cs:List Cel} {a b:Nat},Au a cs b->Dl (Aq cs) a (b-a)=(Ap cs).length
 |[],a,b,h=>by
  have:a=b:=h
  subst this
  rw[Nat.sub_self]
  rfl
 |c::cs,a,b,⟨h1,h2,h3⟩=>by
  have hle:=h3.le
  have ih:=cnt_starts h3
  rw[show b-a=c.sz+(b-(a+c.sz)) by omega,FC]
  have e2:Dl (Aq (c::cs)) (a+c.sz) (b-(a+c.sz))=Dl (Aq cs) (a+c.sz) (b-(a+c.sz)):=cntB_congr _ λ t t1 t2=>by
   show((c.tag==1&&c.g==t)||Aq cs t)=Aq cs t
   have:¬ c.g=t:=by omega
   simp[this]
  rw[e2,ih,show c.sz=1+(c.sz-1) by omega,FC]
  have e3:Dl (Aq (c::cs)) (a+1) (c.sz-1)=0:=cntB_zero _ λ t t1 t2=>by
   show((c.tag==1&&c.g==t)||Aq cs t)=false
   have h4:¬ c.g=t:=by omega
   rw[Fs h3 (.inl (by omega))]
   simp[h4]
  have e1:Dl (Aq (c::cs)) a 1=if c.tag=1 then 1 else 0:=by
   show 0+(if Aq (c::cs) (a+0)=true then 1 else 0)=_
   have:Aq (c::cs) (a+0)=(c.tag==1):=by
    show((c.tag==1&&c.g==a+0)||Aq cs (a+0))=(c.tag==1)
    rw[Fs h3 (.inl (by omega))]
    simp[h1]
   rw[this,Nat.zero_add]
   by_cases ht:c.tag=1 <;> simp[ht]
  rw[e1,e3]
  unfold Ap
  by_cases ht:c.tag=1
  .rw [List.filter_cons_of_pos (by simp[ht])]
   simp only[ht,if_true,List.length_cons]
   omega
  .rw [List.filter_cons_of_neg (by simp[ht])]
   simp only[ht,if_false]
   omega

set_option maxRecDepth 20000 in
theorem Same09_at(P:Sp)(W:Nat->Nat)(cs:List Cel)(rb q:Nat)(lv:Value)(w:World)(hs:Aw w P W cs)(hd:DocAt w rb q P.n W lv)(hv:AO w lv P.ts)(hl:P.ts.length<=17592186044416)(hM:Cg P.ts):
  Calls prog 29 #[.pointer (some ⟨P.s,0,none⟩),.pointer (some ⟨rb,0,none⟩)] w λ e w'=>e=.returned (.bool true)/\Kp Ab w w':=by
 obtain⟨f,hsp,hc,hst⟩:=hs
 have hsm:=hsp.ar.small
 obtain⟨H,hH⟩:∃ H,P.n/2=H:=⟨_,rfl⟩
 have hev:=hsp.ev
 have HAr:Sl (∀ W',Kp Ab w W'->Calls prog 14 #[.pointer (some ⟨P.s,0,none⟩)] W' λ e w'=>e=.returned (.pointer (some ⟨P.a,0,none⟩))/\w'=W'):=⟨λ W' k=>Cj P W f W' (hsp.Ad k)⟩
 have HStt:Sl (∀ W',Kp Ab w W'->Calls prog 22 #[.pointer (some ⟨P.s,0,none⟩)] W' λ e w'=>∃ p q,e=.returned (.pointer (some ⟨p,0,none⟩))/\W'.heap.size<=p/\W'.heap.size<=q/\AJ w' p q f H/\Kp Ab W' w'):=⟨λ W' k=>by rw[<- hH];exact Fz P W f W' (hsp.Ad k)⟩
 have HGr:Sl (∀ W',Kp Ab w W'->Calls prog 42 #[.pointer (some ⟨P.s,0,none⟩)] W' λ e w'=>e=.returned (.int .i64 (H:Nat))/\w'=W'):=⟨λ W' k=>by rw[<- hH];exact EC P W f W' (hsp.Ad k)⟩
 have HLen:Sl (∀ W',Kp Ab w W'->Calls prog 59 #[.pointer (some ⟨P.a,0,none⟩)] W' λ e w'=>e=.returned (.int .i64 (P.n:Nat))/\W'=w'):=⟨λ W' k=>ALen_at P.a P.q P.n W W' (hsp.Ad k).ar⟩
 have HWd:Sl (∀ W',Kp Ab w W'->Calls prog 66 #[.pointer (some ⟨P.a,0,none⟩),.int .i64 0,.int .i64 (P.n:Nat)] W' (AWordsPost P.n W W')):=⟨λ W' k=>AWords_at P.a P.q P.n W W' (hsp.Ad k).ar⟩
 have HCl:Sl (∀ W',Kp Ab w W'->Calls prog 32 #[.pointer (some ⟨P.s,0,none⟩)] W' λ e w'=>∃ v,e=.returned v/\w'.ownsRow W'.heap.size 71 5 v cs.length (BV cs)/\Kp Ab W' w'):=⟨λ W' kk=>Cells_at P cs W' ⟨W,f,hsp.Ad kk,hc,hst⟩⟩
 have HAll:Sl (∀ W',Kp Ab w W'->Calls prog 67 #[.pointer (some ⟨rb,0,none⟩)] W' λ e w'=>∃ v,e=.returned v/\w'.ownsRow W'.heap.size 71 5 v cs.length (BV cs)/\Kp Ab W' w'):=⟨λ W' kk=>DAll_at P W cs rb q lv W' (hd.Ad kk) hc (hv.Ad kk) hl hM⟩
 obtain⟨cap,d0,d1⟩:=hd.head
 have HRow:Sl (∀ W',Kp Ab w W'->∀ j,j<P.n->W'.cell? ⟨q,j,none⟩=some (.int .u64 (W j:Nat))):=⟨λ W' kk j hj=>kk.cell (hd.row.at_ hj) (λ h=>h)⟩
 have HD0:=sE d0
 have HCn:Sl (Dl f 0 H=(Ap cs).length):=⟨by
  have h1:=cnt_starts hc.tl
  rw[hH,Nat.sub_zero] at h1
  rw[<- h1]
  exact cntB_congr _ λ t _ t2=>hst t (by omega)⟩
 have HSf:Sl (∀ c∈cs,c.tag=1->c.g<H/\f c.g=true):=⟨λ c hcm h1=>by
  have:=hc.tl.mem hcm
  refine⟨by omega,?_⟩
  rw[hst _ (by omega)]
  unfold Aq
  rw[List.any_eq_true]
  exact⟨c,hcm,by simp[h1]⟩⟩
 have hcl:cs.length<=32768:=by have:=BD hc.tl;omega
 obtain⟨n,hn⟩:∃ n,cs.length=n:=⟨_,rfl⟩
 have HN:=sE hn
 have hPn:(P.n:Int)/2=(H:Int):=by omega
 have hwH:IntKind.i64.wrap (H:Int)=(H:Int):=by rw[IntKind.wrap_i64];omega
 have lrb:=hd.lt
 clear hsp hc hst hd hv hl hM d0 d1 hn
 go_enter func29,ntmps29
 go_wp2_with fail
 refine(HAr.out w (Kr _ _)).mono ?_
 rintro e w1 ⟨rfl,rfl⟩
 go_wp2_with fail
 refine(HStt.out w1 (Kr _ _)).mono ?_
 rintro e w2 ⟨p0,q0,rfl,-,-,-,k2⟩
 have HK2:=sE k2
 clear k2
 go_wp2_with fail
 refine(HAr.out w2 HK2.out).mono ?_
 rintro e w3 ⟨rfl,rfl⟩
 go_wp2_with fail
 refine(HAr.out w3 HK2.out).mono ?_
 rintro e w4 ⟨rfl,rfl⟩
 go_wp2_with fail
 refine(HLen.out w4 HK2.out).mono ?_
 rintro e w5 ⟨rfl,rfl⟩
 go_wp2_with fail
 refine(HWd.out w4 HK2.out).mono ?_
 rintro e w5 ⟨g,gc,rfl,hg,hgw,k5⟩
 have HK5:=sE (HK2.out.then' k5)
 have HG5:=sE hgw
 clear hgw k5
 go_wp2_with fail
 refine(HAll.out w5 HK5.out).mono ?_
 rintro e w6 ⟨v,rfl,hrow,k6⟩
 have HK6:=sE (HK5.out.then' k6)
 have HK56:=sE k6
 have HR6:=sE (E9.Br hrow)
 obtain⟨va,vc,rfl⟩:=AA hrow
 have cd:=HK6.out.cell HD0.out (λ h=>h)
 rw[HN.out] at HR6 hcl ⊢
 clear k6 hrow
 go_wp2_with fail
 have kk0:Kp Ab w1 w6.drew:=HK6.out.drew
 refine wp_region_held_drew (S:=λ w'=>w'.cell? ⟨rb,0,none⟩=some (.slice (some ⟨q,0,none⟩) P.n cap)) (by kernel_rfl) ?_ (λ qZ=>?_)
 .exact cd
 refine Ao 0 ?_;refine Ao 1 ?_;refine Ao 2 ?_;refine Ao 3 ?_;refine Ao 4 ?_;refine Ao 5 ?_;refine Ao 6 ?_;refine Ao 7 ?_
 try simp only[Ar]
 refine AQ [8] ?_
 refine Ag rfl (λ K hK=>?_)
 go_simp
 go_at_call 68
 (with_reducible refine(SameWords_yes g q P.n gc cap W _ (λ j hj=>((HK56.out.drew).cell (HG5.out j hj) (λ h=>h))) (HRow.out _ kk0) hsm).mono ?_)
 rintro e w7 ⟨rfl,k7⟩
 have K7:Kp Ab w1 w7:=kk0.then' k7
 have K67:Kp Ab w6 w7:=((Kr Ab w6).drew).then' k7
 refine hK _ _ ?_ (λ qZ=>?_)
 .exact Ac K67 cd
 clear hK K
 try simp only[Ar]
 refine Ao 9 ?_;refine Ao 10 ?_;refine Ao 11 ?_;refine Ao 12 ?_;refine Ao 14 ?_
 try simp only[Ar]
 refine AQ [13] ?_
 refine Ag rfl (λ K hK=>?_)
 go_simp
 go_at_call 32
 (with_reducible refine(HCl.out _ K7).mono ?_)
 rintro e w8 ⟨cv,rfl,hrow8,k8⟩
 have K8:Kp Ab w1 w8:=K7.then' k8
 have K68:Kp Ab w6 w8:=K67.then' k8
 have HC8:=sE (E9.Br hrow8)
 clear hrow8
 refine hK _ _ ?_ (λ qZ=>?_)
 .exact Ac K68 cd
 clear hK K
 try simp only[Ar]
 refine AQ [15] ?_
 refine Ag rfl (λ K hK=>?_)
 go_simp
 go_at_call 69
 (with_reducible refine(SameC_at cs _ _ _ HC8.out (by rw[<- HN.out];exact (by rw[HN.out];exact HR6.out.Ad K68)) (by rw[HN.out];omega)).mono ?_)
 rintro e w9 ⟨rfl,k9⟩
 have K9:Kp Ab w1 w9:=K8.then' k9
 have K69:Kp Ab w6 w9:=K68.then' k9
 refine hK _ _ ?_ (λ qZ=>?_)
 .exact Ac K69 cd
 clear hK K
 try simp only[Ar]
 refine Ao 16 ?_;refine Ao 17 ?_;refine Ao 18 ?_;refine Ao 19 ?_;refine Ao 21 ?_;refine Ao 22 ?_;refine Ao 23 ?_;refine Ao 24 ?_;refine Ao 25 ?_;refine Ao 26 ?_
 try simp only[Ar]
 refine AQ [20] ?_
 refine Ag rfl (λ K hK=>?_)
 go_simp
 go_at_call 42
 (with_reducible refine(HGr.out _ K9).mono ?_)
 rintro e wz ⟨rfl,rfl⟩
 refine hK _ _ ?_ (λ qZ=>?_)
 .exact Ac K69 cd
 clear hK K
 try simp only[Ar]
 refine Ao 27 ?_;refine Ao 28 ?_;refine Ao 29 ?_;refine Ao 30 ?_;refine Ao 33 ?_
 try simp only[Ar]
 refine AQ [31] ?_
 refine Ag rfl (λ K hK=>?_)
 go_simp
 go_at_call 22
 (with_reducible refine(HStt.out _ K9).mono ?_)
 rintro e wa ⟨p1,q1,rfl,-,-,b1,ka⟩
 have Ka:Kp Ab w1 wa:=K9.then' ka
 have K6a:Kp Ab w6 wa:=K69.then' ka
 refine hK _ _ ?_ (λ qZ=>?_)
 .exact Ac K6a cd
 clear hK K
 try simp only[Ar]
 refine AQ [32] ?_
 refine Ag rfl (λ K hK=>?_)
 go_simp
 go_at_call 70
 (with_reducible refine(Len_at H p1 q1 f _ b1).mono ?_)
 rintro e wz ⟨rfl,rfl⟩
 refine hK _ _ ?_ (λ qZ=>?_)
 .exact Ac K6a cd
 clear hK K
 try simp only[Ar]
 refine AQ [34] ?_
 refine Ag rfl (λ K hK=>?_)
 go_simp
 go_at_call 42
 (with_reducible refine(HGr.out _ Ka).mono ?_)
 rintro e wz ⟨rfl,rfl⟩
 refine hK _ _ ?_ (λ qZ=>?_)
 .exact Ac K6a cd
 clear hK K
 try simp only[Ar]
 refine Ao 35 ?_;refine Ao 36 ?_
 try simp only[Ar]
 refine wpAnyH_done (by kernel_rfl) ?_ _
 have HKa:=sE Ka
 have HK6a:=sE K6a
 clear cd qZ K7 K67 K8 K68 K9 K69 Ka K6a b1 ka k7 k8 k9 kk0 hPn hwH
 go_wp2_with fail
 go_loopw [8,9] (λ x8 x9 wr=>∃ j:Nat,j<=n/\x9=.int .i64 (j:Nat)/\x8=.int .i64 ((Ap (cs.take j)).length:Nat)/\Kp Ab w6 wr) (λ _ x9 _=>n-(intOf x9).toNat)
 case atStart=>exact ⟨0,Nat.zero_le _,rfl,rfl,HK6a.out⟩
 case round=>
  obtain⟨j,hj,rfl,rfl,hk⟩:=hrel
  have HK:=sE hk
  have hol:(Ap (cs.take j)).length<=j:=by
   have h1:(Ap (cs.take j)).length<=(cs.take j).length:=List.length_filter_le _ _
   have h2:=List.length_take_le j cs
   omega
  by_cases hjl:j<n
  .have hjl':(j:Int)<(n:Int):=by omega
   obtain⟨x,hxj⟩:∃ x,cs[j]?=some x:=⟨_,List.getElem?_eq_getElem (by rw[HN.out];exact hjl)⟩
   have hta:=objsOf_take hxj
   have HSx:Sl (x.tag=1->x.g<H/\f x.g=true):=⟨HSf.out x (List.mem_of_getElem? hxj)⟩
   obtain⟨va',vc',e,hx⟩:=HR6.out
   injection e with e1 e3 e2
   clear e3
   subst e1 e2
   obtain⟨bb,rfl,hbb,x0,x1,-,-,-⟩:=hx j x hxj
   replace x0:=hk.cell x0 (λ h=>h)
   replace x1:=hk.cell x1 (λ h=>h)
   have HX0:=sE x0
   obtain⟨m,hm⟩:∃ m,(Ap (cs.take j)).length=m:=⟨_,rfl⟩
   rw[hm] at hta hol ⊢
   clear hx hxj hk hm
   by_cases ht:x.tag=1
   .have t1:((x.tag:Int)==1)=true:=by simp[ht]
    have hw1:IntKind.i64.wrap ((m:Int)+1)=(m:Int)+1:=by rw[IntKind.wrap_i64];omega
    rw[if_pos ht] at hta
    have HTa:=sE hta
    obtain⟨hxg,hxf⟩:=HSx.out ht
    have K1r:Kp Ab w1 wr:=HK6.out.then' HK.out
    clear ht hta HSx
    go_wp2_with fail
    refine wp_region_held_drew (S:=λ w'=>w'.cell? ⟨bb,j*5,none⟩=some (.int .i64 (x.g:Nat))) (by kernel_rfl) ?_ (λ qZ=>?_)
    .exact HX0.out
    refine Ao 0 ?_;refine Ao 2 ?_;refine Ao 3 ?_;refine Ao 4 ?_;refine Ao 5 ?_;refine Ao 6 ?_
    try simp only[Ar]
    refine AQ [1] ?_
    refine Ag rfl (λ K hK=>?_)
    go_simp
    go_at_call 22
    (with_reducible refine(HStt.out _ K1r.drew).mono ?_)
    rintro e wb ⟨p2,q2,rfl,-,-,b2,kb⟩
    have Kb:Kp Ab wr wb:=((Kr Ab wr).drew).then' kb
    refine hK _ _ ?_ (λ qZ=>?_)
    .exact Ac Kb HX0.out
    clear hK K
    try simp only[Ar]
    refine AQ [7] ?_
    refine Ag rfl (λ K hK=>?_)
    go_simp
    go_at_call 58
    (with_reducible refine(Has_in x.g H p2 q2 f _ b2 hxg).mono ?_)
    rintro e wc ⟨rfl,kc⟩
    rw[hxf]
    have Kc:Kp Ab wr wc:=Kb.then' kc
    refine hK _ _ ?_ (λ qZ=>?_)
    .exact Ac Kc HX0.out
    clear hK K
    try simp only[Ar]
    refine Ao 8 ?_
    try simp only[Ar]
    refine wpAnyH_done (by kernel_rfl) ?_ _
    have HKc:=sE Kc
    clear qZ Kc kc Kb kb b2 K1r x0 x1 hxf
    go_wp2_with fail
    exact⟨⟨j+1,by omega,by go_num,by rw[HTa.out];go_num,HK.out.then' HKc.out⟩,by simp only[intOf];omega⟩
   .have t1:((x.tag:Int)==1)=false:=by rw[beq_eq_false_iff_ne];omega
    rw[if_neg ht,Nat.add_zero] at hta
    have HTa:=sE hta
    clear ht hta
    go_wp2_with fail
    exact⟨⟨j+1,by omega,by go_num,by rw[HTa.out];rfl,HK.out⟩,by simp only[intOf];omega⟩
  .have hjl':¬ (j:Int)<(n:Int):=by omega
   have K1r:Kp Ab w1 wr:=HK6.out.then' HK.out
   have HK1r:=sE K1r
   have HOb:Sl ((Ap (cs.take j)).length=Dl f 0 H):=⟨by rw[List.take_of_length_le (by rw[HN.out];omega),HCn.out]⟩
   rw[HOb.out]
   clear hk K1r hol
   go_wp2_with fail
   refine(HStt.out _ HK1r.out).mono ?_
   rintro e wb ⟨p2,q2,rfl,-,-,b2,kb⟩
   have HB2:=sE b2
   have HKb:=sE (HK1r.out.then' kb)
   clear b2 kb
   go_wp2_with fail
   refine(HGr.out _ HKb.out).mono ?_
   rintro e wc ⟨rfl,rfl⟩
   go_wp2_with fail
   refine(Count_yes 0 H H p2 q2 f _ HB2.out (by omega)).mono ?_
   rintro e wd ⟨rfl,kd⟩
   have HKd:=sE (HKb.out.then' kd)
   clear kd
   go_wp2_with fail
   go_ret
   exact⟨rfl,HKd.out⟩

end

section
open Go.RowKit

set_option maxRecDepth 20000 in
theorem Same24_at(P:Sp)(W:Nat->Nat)(cs:List Cel)(rb q:Nat)(lv:Value)(w:World)(hs:Aw w P W cs)(hd:DocAt w rb q P.n W lv)(hv:AO w lv P.ts)(hl:P.ts.length<=17592186044416)(hM:Cg P.ts):
  Calls prog 75 #[.pointer (some ⟨P.s,0,none⟩),.pointer (some ⟨rb,0,none⟩)] w λ e w'=>e=.returned (.bool true)/\Kp Ab w w':=by
 obtain⟨f,hsp,hc,hst⟩:=hs
 have hsm:=hsp.ar.small
 obtain⟨H,hH⟩:∃ H,P.n/2=H:=⟨_,rfl⟩
 have HAr:Sl (∀ W',Kp Ab w W'->Calls prog 14 #[.pointer (some ⟨P.s,0,none⟩)] W' λ e w'=>e=.returned (.pointer (some ⟨P.a,0,none⟩))/\w'=W'):=⟨λ W' k=>Cj P W f W' (hsp.Ad k)⟩
 have HStt:Sl (∀ W',Kp Ab w W'->Calls prog 22 #[.pointer (some ⟨P.s,0,none⟩)] W' λ e w'=>∃ p q,e=.returned (.pointer (some ⟨p,0,none⟩))/\W'.heap.size<=p/\W'.heap.size<=q/\AJ w' p q f H/\Kp Ab W' w'):=⟨λ W' k=>by rw[<- hH];exact Fz P W f W' (hsp.Ad k)⟩
 have HLen:Sl (∀ W',Kp Ab w W'->Calls prog 59 #[.pointer (some ⟨P.a,0,none⟩)] W' λ e w'=>e=.returned (.int .i64 (P.n:Nat))/\W'=w'):=⟨λ W' k=>ALen_at P.a P.q P.n W W' (hsp.Ad k).ar⟩
 have HWd:Sl (∀ W',Kp Ab w W'->Calls prog 66 #[.pointer (some ⟨P.a,0,none⟩),.int .i64 0,.int .i64 (P.n:Nat)] W' (AWordsPost P.n W W')):=⟨λ W' k=>AWords_at P.a P.q P.n W W' (hsp.Ad k).ar⟩
 have HCl:Sl (∀ W',Kp Ab w W'->Calls prog 32 #[.pointer (some ⟨P.s,0,none⟩)] W' λ e w'=>∃ v,e=.returned v/\w'.ownsRow W'.heap.size 71 5 v cs.length (BV cs)/\Kp Ab W' w'):=⟨λ W' kk=>Cells_at P cs W' ⟨W,f,hsp.Ad kk,hc,hst⟩⟩
 have HAll:Sl (∀ W',Kp Ab w W'->Calls prog 67 #[.pointer (some ⟨rb,0,none⟩)] W' λ e w'=>∃ v,e=.returned v/\w'.ownsRow W'.heap.size 71 5 v cs.length (BV cs)/\Kp Ab W' w'):=⟨λ W' kk=>DAll_at P W cs rb q lv W' (hd.Ad kk) hc (hv.Ad kk) hl hM⟩
 obtain⟨cap,d0,d1⟩:=hd.head
 have HRow:Sl (∀ W',Kp Ab w W'->∀ j,j<P.n->W'.cell? ⟨q,j,none⟩=some (.int .u64 (W j:Nat))):=⟨λ W' kk j hj=>kk.cell (hd.row.at_ hj) (λ h=>h)⟩
 have HD0:=sE d0
 have HSf:Sl (∀ c∈cs,2*(c.g+c.sz)<=P.n/\c.g<H/\f c.g=decide (c.tag=1)):=⟨λ c hcm=>by
  have h0:=hc.tl.mem hcm
  refine⟨by omega,by omega,?_⟩
  rw[hst _ (by omega)]
  unfold Aq
  by_cases ht:c.tag=1
  .rw [dT ht,List.any_eq_true]
   exact⟨c,hcm,by simp[ht]⟩
  .rw [dF ht,List.any_eq_false]
   intro d hdm hdd
   simp only[Bool.and_eq_true,beq_iff_eq] at hdd
   exact ht (by rw[<- hc.tl.only hdm hcm hdd.2];exact hdd.1)⟩
 have hcl:cs.length<=32768:=by have:=BD hc.tl;omega
 obtain⟨n,hn⟩:∃ n,cs.length=n:=⟨_,rfl⟩
 have HN:=sE hn
 have lrb:=hd.lt
 clear hsp hc hst hd hv hl hM d0 d1 hn
 go_enter func75,ntmps75
 go_wp2_with fail
 refine(HAll.out w (Kr _ _)).mono ?_
 rintro e w1 ⟨v,rfl,hrow,k1⟩
 have HK1:=sE k1
 have HR1:=sE (E9.Br hrow)
 obtain⟨va,vc,rfl⟩:=AA hrow
 rw[HN.out] at HR1 hcl ⊢
 clear k1 hrow
 go_wp2_with fail
 refine(HCl.out w1 HK1.out).mono ?_
 rintro e w2 ⟨cv,rfl,hrow,k2⟩
 have HK2:Sl (Kp Ab w w2):=⟨HK1.out.then' k2⟩
 have HK12:=sE k2
 have HC2:=sE (E9.Br hrow)
 have HR2:Sl (E9 w2 (.slice va cs.length vc) cs):=⟨by rw[HN.out];exact HR1.out.Ad k2⟩
 have HSC:=sE (SameC_at cs _ _ _ HC2.out HR2.out (by rw[HN.out];omega))
 rw[HN.out] at HSC
 obtain⟨ca,cc,rfl⟩:=AA hrow
 rw[HN.out] at HSC ⊢
 clear k2 hrow
 go_wp2_with fail
 refine HSC.out.mono ?_
 rintro e w3 ⟨rfl,k3⟩
 have HK3:Sl (Kp Ab w w3):=⟨HK2.out.then' k3⟩
 have HK13:Sl (Kp Ab w1 w3):=⟨HK12.out.then' k3⟩
 clear k3
 go_wp2_with fail
 refine(HStt.out w3 HK3.out).mono ?_
 rintro e w4 ⟨p0,q0,rfl,-,-,-,k4⟩
 have HK4:Sl (Kp Ab w w4):=⟨HK3.out.then' k4⟩
 have HK34:=sE k4
 clear k4
 go_wp2_with fail
 refine(HAr.out w4 HK4.out).mono ?_
 rintro e wz ⟨rfl,rfl⟩
 go_wp2_with fail
 refine(HAr.out _ HK4.out).mono ?_
 rintro e wz ⟨rfl,rfl⟩
 go_wp2_with fail
 refine(HLen.out _ HK4.out).mono ?_
 rintro e wz ⟨rfl,rfl⟩
 go_wp2_with fail
 refine(HWd.out _ HK4.out).mono ?_
 rintro e w5 ⟨g,gc,rfl,hg,hgw,k5⟩
 have HK5:Sl (Kp Ab w w5):=⟨HK4.out.then' k5⟩
 have HG5:=sE hgw
 have cd:=HK5.out.cell HD0.out (λ h=>h)
 have lrb5:rb<w5.heap.size:=Nat.lt_of_lt_of_le lrb HK5.out.size
 have HR5:Sl (E9 w5 (.slice va n vc) cs):=⟨HR1.out.Ad (HK13.out.then' (HK34.out.then' k5))⟩
 clear hgw k5 lrb
 go_wp2_with fail
 go_loopw [8,9] (λ x8 _ wr=>∃ j:Nat,j<=n/\x8=.int .i64 (j:Nat)/\Kp Ab w5 wr) (λ x8 _ _=>n-(intOf x8).toNat)
 case atStart=>exact ⟨0,Nat.zero_le _,rfl,Kr _ _⟩
 case round=>
  obtain⟨j,hj,rfl,hk⟩:=hrel
  have HK:=sE hk
  by_cases hjl:j<n
  .have hjl':(j:Int)<(n:Int):=by omega
   obtain⟨x,hxj⟩:∃ x,cs[j]?=some x:=⟨_,List.getElem?_eq_getElem (by rw[HN.out];exact hjl)⟩
   obtain⟨hx2,hxg,hxf⟩:=HSf.out x (List.mem_of_getElem? hxj)
   obtain⟨va',vc',e,hx⟩:=HR5.out
   injection e with e1 e3 e2
   clear e3
   subst e1 e2
   obtain⟨bb,rfl,hbb,x0,x1,-,-,x4⟩:=hx j x hxj
   have HX0:=sE x0
   have HX1:=sE x1
   have HX4:=sE x4
   replace x0:=hk.cell x0 (λ h=>h)
   replace x1:=hk.cell x1 (λ h=>h)
   obtain⟨xg,tg,ty,ln,sz⟩:=x
   dsimp only at*
   have K1r:Kp Ab w wr:=HK5.out.then' HK.out
   clear hx hxj hk
   go_wp2_with fail
   refine wp_region_held_drew (S:=λ w'=>w'.cell? ⟨bb,j*5,none⟩=some (.int .i64 (xg:Nat))/\w'.cell? ⟨bb,j*5+1,none⟩=some (.int .u8 (tg:Nat))) (by kernel_rfl) ?_ (λ qZ=>?_)
   .exact ⟨x0,x1⟩
   refine Ao 0 ?_;refine Ao 2 ?_;refine Ao 3 ?_;refine Ao 4 ?_;refine Ao 5 ?_;refine Ao 6 ?_;refine Ao 8 ?_;refine Ao 9 ?_;refine Ao 10 ?_;refine Ao 11 ?_;refine Ao 12 ?_;refine Ao 13 ?_;refine Ao 14 ?_
   try simp only[Ar]
   refine AQ [1] ?_
   refine Ag rfl (λ K hK=>?_)
   go_simp
   go_at_call 22
   (with_reducible refine(HStt.out _ K1r.drew).mono ?_)
   rintro e wb ⟨p2,q2,rfl,-,-,b2,kb⟩
   have Kb:Kp Ab wr wb:=((Kr Ab wr).drew).then' kb
   refine hK _ _ ?_ (λ qZ=>?_)
   .exact ⟨Ac Kb x0,Ac Kb x1⟩
   clear hK K
   try simp only[Ar]
   refine AQ [7] ?_
   refine Ag rfl (λ K hK=>?_)
   go_simp
   go_at_call 58
   (with_reducible refine(Has_in xg H p2 q2 f _ b2 hxg).mono ?_)
   rintro e wc ⟨rfl,kc⟩
   rw[hxf]
   have Kc:Kp Ab wr wc:=Kb.then' kc
   have HKc:Sl (Kp Ab w5 wc):=⟨HK.out.then' Kc⟩
   refine hK _ _ ?_ (λ qZ=>?_)
   .exact ⟨Ac Kc x0,Ac Kc x1⟩
   clear hK K
   try simp only[Ar]
   refine Ao 15 ?_
   try simp only[Ar]
   refine wpAnyH_done (by kernel_rfl) ?_ _
   replace x0:=HKc.out.cell HX0.out (λ h=>h)
   clear qZ Kc kc Kb kb b2 K1r x1 hxf
   have hg2:IntKind.i64.wrap (2*(xg:Int))=((2*xg:Nat):Int):=by rw[IntKind.wrap_i64];omega
   obtain⟨S,hS⟩:∃ S,2*xg=S:=⟨_,rfl⟩
   obtain⟨E,hE⟩:∃ E,2*(xg+sz)=E:=⟨_,rfl⟩
   have he1:IntKind.i64.wrap ((xg:Int)+(sz:Int))=((xg+sz:Nat):Int):=by rw[IntKind.wrap_i64];omega
   have he2:IntKind.i64.wrap (2*((xg+sz:Nat):Int))=(E:Int):=by rw[IntKind.wrap_i64];omega
   obtain⟨E1,hE1⟩:∃ E1,xg+sz=E1:=⟨_,rfl⟩
   rw[hS] at hg2
   rw[hE1] at he1 he2
   have hSE:S<=E:=by omega
   have hEn:E<=P.n:=by omega
   clear hE hE1 hS hx2 hxg
   go_wp2_with fail
   .rename_i hh
    exfalso
    by_cases ht:tg=1
    .simp [ht] at hh
    .have:((tg:Int)==1)=false:=by rw[beq_eq_false_iff_ne];omega
     simp[ht,this] at hh
   go_loopw [9] (λ x9 wq=>∃ k:Nat,S<=k/\k<=E/\x9=.int .i64 (k:Nat)/\Kp Ab w5 wq) (λ x9 _=>E-(intOf x9).toNat)
   case atStart=>exact ⟨S,Nat.le_refl _,hSE,rfl,HKc.out⟩
   case round=>
    obtain⟨k,hk1,hk2,rfl,hkq⟩:=hrel
    have HKq:=sE hkq
    replace x0:=hkq.cell HX0.out (λ h=>h)
    have x1:=hkq.cell HX1.out (λ h=>h)
    have x4:=hkq.cell HX4.out (λ h=>h)
    by_cases hkE:k<E
    .have hkE':(k:Int)<(E:Int):=by omega
     by_cases ht:tg=1
     .have t1:((tg:Int)==1)=true:=by simp[ht]
      have hkn:(k:Int)<(P.n:Int):=by omega
      have cd:=hkq.cell (HK5.out.cell HD0.out (λ h=>h)) (λ h=>h)
      have z1:=hkq.cell (HG5.out k (by omega)) (λ h=>h)
      have z2:=HRow.out _ (HK5.out.then' hkq) k (by omega)
      have z3:((W k:Int) !=(W k:Int))=false:=by simp
      have lr:=Nat.lt_of_lt_of_le lrb5 hkq.size
      clear hkq ht
      go_wp2_with fail
      go_quiet (fail)
      go_wp2_with fail
      go_quiet (fail)
      go_wp2
      exact⟨⟨k+1,by omega,by omega,by go_num,HKq.out.drewN _⟩,by simp only[intOf];omega⟩
     .have t1:((tg:Int)==1)=false:=by rw[beq_eq_false_iff_ne];omega
      clear hkq ht
      go_wp2_with fail
      go_quiet (fail)
      go_wp2_with fail
      go_quiet (fail)
      go_wp2
      exact⟨⟨k+1,by omega,by omega,by go_num,HKq.out.drewN _⟩,by simp only[intOf];omega⟩
    .have hkE':¬ (k:Int)<(E:Int):=by omega
     clear hkq
     go_wp2_with fail
     go_quiet (fail)
     go_wp2
     exact⟨⟨j+1,by omega,by go_num,HKq.out.drewN _⟩,by simp only[intOf];omega⟩
  .have hjl':¬ (j:Int)<(n:Int):=by omega
   have HKz:Sl (Kp Ab w wr):=⟨HK5.out.then' HK.out⟩
   clear hk
   go_wp2_with fail
   go_ret
   exact⟨rfl,HKz.out⟩

end

end Go.Proofs.YtmfajopmppfldaaGreatDoor
