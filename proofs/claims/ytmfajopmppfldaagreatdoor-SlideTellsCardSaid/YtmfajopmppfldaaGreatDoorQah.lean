/-
  Lemmas for the laws, together: TablesA.
-/
import Derived.Test.YtmfajopmppfldaaGreatDoorQaa
import Derived.Deep.AppendLies
import Derived.Test.YtmfajopmppfldaaGreatDoorQaf
import Derived.Deep.RegionLaw
set_option linter.unusedVariables false
set_option maxHeartbeats 16000000
namespace Go.Proofs.YtmfajopmppfldaaGreatDoor
open Tryz
section
open Go.RowKit

theorem BA.keepB{w w':World}{v:Value}{len:Nat}{x:Nat->Nat->Int}(h:BA 1 w v len x){S:Nat->Prop}(k:Kp S w w')(hs:∀ b,0<len->v.ownBlock=some b->¬ S b):BA 1 w' v len x:=by
  obtain⟨a,cap,rfl,h⟩:=h
  refine⟨a,cap,rfl,λ i hi=>?_⟩
  obtain⟨b,o,rfl,h1,h2⟩:=h i hi
  exact⟨b,o,rfl,Nat.lt_of_lt_of_le h1 k.size,λ j hj=>⟨k.cell (h2 j hj).1 (hs b (by omega) rfl),(h2 j hj).2⟩⟩

def numVs(len:Nat)(x:Nat->Nat->Int):List Value:=(List.range len).map λ i=>.int .i64 (x i 0)

theorem numVs_at(len:Nat)(x:Nat->Nat->Int)(i:Nat)(h:i<len):(numVs len x)[i]?=some (.int .i64 (x i 0)):=by
  simp[numVs,h]

theorem numVs_len(len:Nat)(x:Nat->Nat->Int):(numVs len x).length=len:=by simp[numVs]

theorem BA.Br{w:World}{base:Nat}{e:TypeId}{v:Value}{len:Nat}{x:Nat->Nat->Int}(h:w.ownsRow base e 1 v len (numVs len x))(hb:∀ i,i<len->-9223372036854775808<=x i 0/\x i 0<=9223372036854775807):BA 1 w v len x:=by
  rcases h.2 with ⟨rfl,h0⟩|⟨g,cap,cur,rfl,h2,h3,h4,h5,h6,h7⟩
  . exact⟨none,0,by rw[h0],λ i hi=>by omega⟩
  . refine⟨_,cap,rfl,λ i hi=>⟨g,0,rfl,?_,λ j hj=>?_⟩⟩
    . rcases Nat.lt_or_ge g w.heap.size with hlt|hge
      . exact hlt
      . rw[Array.getElem?_eq_none hge] at h3;cases h3
    . obtain rfl:j=0:=by omega
      refine⟨?_,hb i hi⟩
      rw[Nat.zero_add,Nat.mul_one,Nat.add_zero,<- numVs_at len x i hi,<- h7,List.getElem?_take_of_lt (by omega)]
      simp[World.cell?,h3]

section
variable {P:Program}

theorem run_append_ints(w:World)(t ty e:TypeId)(i:TypeInfo)(ht:P.underlying t=some (.slice e))(hi:P.info? e=some i)(hz:i.zero=some (.int .i64 0))(hsize:i.size=1)(hby:i.bytes=8)
    (u:Value) (len:Nat) (x:Nat->Nat->Int) (hu:BA 1 w u len x) (hle:len<=1000000):
    ∃ v' w',(Builtin.append_ #[t,t] ty #[.slice none 0 0,u]).run P w=.ok v' w'/\w'.ownsRow w.heap.size e 1 v' len (numVs len x)/\w.grownBy w' none:=by
  obtain⟨a,cap,rfl,h⟩:=hu
  cases a with
  |none=>
    have h0:len=0:=by
      rcases Nat.eq_zero_or_pos len with h0|h0
      . exact h0
      . obtain⟨b,o,e,_⟩:=h 0 h0;cases e
    subst h0
    refine⟨.slice none 0 0,w,?_,World.ownsRow_nil w _ _ _,⟨rfl,rfl,rfl,Nat.le_refl _,λ _ _ _=>rfl⟩⟩
    simp[Builtin.append_,run_underlying ht,sizeOf,typeInfo,hi,Builtin.lenOf,Builtin.firstCells]
  |some ad=>
    obtain⟨v',w',hr,h2,h3,_,h5⟩:=run_append_own_at (P:=P) w w.heap.size t ty e i (.int .i64 0) 1 8 ht hi hz hsize hby rfl (by omega) (.slice none 0 0) 0 [] (World.ownsRow_nil w _ _ _) ad len cap (numVs len x) (by rw[numVs_len];omega)
      (by
        intro j u hu
        have hj:j<len:=by have:=(gE.1 hu).1;rwa [numVs_len] at this
        obtain⟨b,o,ea,hb,hc⟩:=h j hj
        injection ea with ea
        subst ea
        rw[numVs_at len x j hj] at hu
        injection hu with hu
        subst hu
        have:=(hc 0 (by omega)).1
        rw[Nat.mul_one,Nat.add_zero] at this
        rw[Addr.add_lit]
        exact this)
      (by
        intro u hu
        obtain⟨_,_,rfl⟩:=List.mem_map.1 hu
        rfl) (by unfold maxLen;omega) (by omega) (Nat.le_refl _)
    rw[Nat.zero_add,List.nil_append] at h2
    exact⟨v',w',hr,h2,h3⟩

theorem step_append_ints{w:World}{ops:Array Oper}{o:Oper}{a:Act}{K:Act->World->Prop}{Q:Exit->Act->World->Prop}{E:Prop}(hgd:o.guard=none)(s x:Operand)(t:TypeId)
    (ho:o.op=.call {callee:=.builtin .append,args:=#[s,x],argTypes:=#[t,t]}) (e:TypeId) (i:TypeInfo) (ht:P.underlying t=some (.slice e)) (hi:P.info? e=some i) (hz:i.zero=some (.int .i64 0)) (hsize:i.size=1) (hby:i.bytes=8)
    (hs:a.eval s=.slice none 0 0) (u:Value) (len:Nat) (y:Nat->Nat->Int) (hx:a.eval x=u) (hu:BA 1 w u len y) (hle:len<=1000000)
    (h:∀ v' w',w'.ownsRow w.heap.size e 1 v' len (numVs len y)->w.grownBy w' none->K (a.put o.dst v') w'):
    if Region.wanted o (yielded ops a.tmps)=true then Oper.wp P o a w K Q else E:=by
  have hw:Region.wanted o (yielded ops a.tmps)=true:=by simp[Region.wanted,hgd]
  rw[if_pos hw]
  obtain⟨v',w',hr,h2,h3⟩:=run_append_ints (P:=P) w t o.type e i ht hi hz hsize hby u len y hu hle
  unfold Oper.wp execOp
  simp only[ho,resolve,invoke,builtin,Sem.run_bind,Sem.run_pure,Result.andThen_ok,List.map_toArray,List.map_cons,List.map_nil,hs,hx,hr]
  exact h v' w' h2 h3

end

theorem underlyingTypes:prog.underlying 22=some (.slice 86):=by kernel_rfl

theorem infoType:(prog.info? 86).map (λ i=>(i.zero,i.size,i.bytes))=some (some (.agg #[.int .u8 0,.int .i64 0,.int .u64 0]),3,24):=by kernel_rfl

theorem TableAt.ne{w:World}{t q:Nat}{ts:List TypR}{v:Value}(h1:w.heap[t]?=some (.cells #[v] 183 (0,0)))(h2:w.ownsRow q 86 3 v ts.length (Fg ts)):v.ownBlock≠some t:=by
  intro e
  rcases h2.2 with ⟨rfl,h0⟩|⟨g,cap,cur,rfl,g2,g3,g4,g5,g6,g7⟩
  . cases e
  . obtain rfl:g=t:=by simpa [Value.ownBlock] using e
    rw[h1] at g3
    simp at g3

theorem TableAt.ne'{w:World}{t q n:Nat}{v u:Value}{xs:List Value}(h1:w.heap[t]?=some (.cells #[v] 183 (0,0)))(h2:w.ownsRow q 86 3 u n xs):u.ownBlock≠some t:=by
  intro e
  rcases h2.2 with ⟨rfl,h0⟩|⟨g,cap,cur,rfl,g2,g3,g4,g5,g6,g7⟩
  . cases e
  . obtain rfl:g=t:=by simpa [Value.ownBlock] using e
    rw[h1] at g3
    simp at g3

set_option maxRecDepth 20000 in
theorem tput_at(k wds:Int)(m:Nat)(t q:Nat)(ts:List TypR)(w:World)(h:TableAt w t q ts)(hok:Di k wds m=true)(hl:ts.length<64)(hq:q<w.heap.size):
    Calls prog 165 #[.pointer (some ⟨t,0,none⟩),.agg #[.int .u8 k,.int .i64 wds,.int .u64 (m:Nat)]] w λ e w'=>
      e=.returned (.int .i64 ((ts.length+1:Nat):Int))/\∃ q',TableAt w' t q' (ts++[⟨k,wds,m⟩])/\(q'=q\/w.heap.size<=q')/\Kp (λ b=>b=t\/b=q) w w':=by
  have HOK:=sE hok
  have HT:=sE h
  obtain⟨v,h1,h2,h3⟩:=h.ht
  have hne:=TableAt.ne h1 h2
  have H3:=sE h3
  have HNE:=sE hne
  have c0:w.cell? ⟨t,0,none⟩=some v:=by simp[World.cell?,h1]
  have f0:w.frozen? ⟨t,0,none⟩=false:=by simp[World.frozen?,h1]
  have lt:=lZ h1
  have HB:=sE h1
  have HO:=sE h2
  clear hok h h1 h2 h3 hne
  obtain⟨w5,hw5⟩:∃ w5,w5=w.alloc (.cells #[.int .u8 k,.int .i64 wds,.int .u64 (m:Nat)] 86):=⟨_,rfl⟩
  have k5:Kp Ab w w5:=by rw[hw5];exact (Kr _ w).alloc _
  have z5:Sl (w5.heap.size=w.heap.size+1):=⟨by rw[hw5];simp⟩
  have b5:w5.heap[w.heap.size]?=some (.cells #[.int .u8 k,.int .i64 wds,.int .u64 (m:Nat)] 86 (0,0)):=by rw[hw5];exact wN w _
  have d0:w5.cell? ⟨w.heap.size,0,none⟩=some (.int .u8 k):=by simp[World.cell?,b5]
  have d1:w5.cell? ⟨w.heap.size,1,none⟩=some (.int .i64 wds):=by simp[World.cell?,b5]
  have d2:w5.cell? ⟨w.heap.size,2,none⟩=some (.int .u64 (m:Nat)):=by simp[World.cell?,b5]
  have c5:=k5.cell c0 (λ h=>h)
  have f5:w5.frozen? ⟨t,0,none⟩=false:=by simp[World.frozen?,k5.at_ HB.out (λ h=>h)]
  go_enter func165,ntmps165
  go_wp2_with fail
  try rw[<- hw5]
  clear hw5
  go_wp2_with fail
  have hfl:=flatT_length ts
  have HFL:=sE hfl
  clear hfl
  have lt5:t<w5.heap.size:=Nat.lt_of_lt_of_le lt k5.size
  have lw5:w.heap.size<w5.heap.size:=lZ b5
  go_region_law
    (first
      | (obtain⟨i0,hi,hz0,hz1,hz2⟩:=info_parts infoType
         refine step_append_lies _ rfl _ _ 22 rfl q 86 i0 (.agg #[.int .u8 0,.int .i64 0,.int .u64 0]) 3 24 underlyingTypes hi hz0 hz1 hz2 rfl (by omega) v ts.length (Fg ts) rfl (Kp.owns (S:=Ab) (a:=w) (by (repeat (first|assumption|exact Kr _ _|refine Kp.drew ?_|refine Kp.alloc ?_ _|refine Kp.Az ?_ (by omega) _))) HO.out (λ b hb h=>h)) ⟨w5.heap.size,0,none⟩ 1 1 [.int .u8 k,.int .i64 wds,.int .u64 (m:Nat)] rfl rfl (World.news_of_block (wN w5 _)) (by simp[Value.oneCell']) (by omega) (by unfold maxLen;omega) (by omega) (by have:=z5.out;simp;omega) _ rfl ?_
         intro g cap wA hown hgrow hat hlt
         have KA:Kp (λ b=>v.ownBlock=some b) w5 wA:=((by (repeat (first|assumption|exact Kr _ _|refine Kp.drew ?_|refine Kp.alloc ?_ _|refine Kp.Az ?_ (by omega) _)):Kp Ab w5 _).Ak (λ b=>v.ownBlock=some b)).grown hgrow (λ k e _=>e)
         have bA:=KA.at_ (k5.at_ HB.out (λ h=>h)) HNE.out
         have fA:=free_of_one bA
         have cA:=cell_of_one bA
         have HBA:=sE bA
         clear bA
         have HNW:¬ v.ownBlock=some w.heap.size:=λ e=>by have:=H3.out _ e;omega))
  all_goals
    clear hi hz0 hz1 hz2 c5 f5 d0 d1 d2 b5 cA fA
    have hq':g=q\/w.heap.size<=g:=by
      rcases hat with hat|hat
      . exact .inl (H3.out g hat)
      . right
        simp at hat
        have:=k5.size
        omega
    have gt:¬ g=t:=by
      intro e
      subst e
      exact TableAt.ne' HBA.out hown rfl
    obtain⟨wB,hwB⟩:∃ wB,wB=wA.setCell ⟨t,0,none⟩ (.slice (some ⟨g,0,none⟩) (ts.length+1) cap):=⟨_,rfl⟩
    rw[<- hwB]
    have bB:wB.heap[t]?=some (.cells #[.slice (some ⟨g,0,none⟩) (ts.length+1) cap] 183 (0,0)):=by rw[hwB];exact one_setCell HBA.out
    have cB:=cell_of_one bB
    have kB:Kp (λ b=>b=t) wA wB:=by rw[hwB];exact (Kr (λ b=>b=t) wA).setCell (λ _=>rfl) _
    have oB:=kB.owns hown (λ b hb e=>by cases hb;exact gt e)
    have KB:Kp (λ b=>b=t\/b=q) w wB:=((k5.Ak (λ b=>b=t\/b=q)).trans KA (λ b hb e=>.inr (H3.out b e))).trans kB (λ b hb e=>.inl e)
    have TB:TableAt wB t g (ts++[⟨k,wds,m⟩]):=by
      refine⟨⟨_,bB,?_,λ b hb=>by cases hb;rfl⟩,by simp;omega,λ x hx=>?_⟩
      . rw[flatT_append,List.length_append]
        obtain⟨o1,o2⟩:=oB
        rcases o2 with ⟨o2,_⟩|⟨g',cap',cur,e,o3,o4⟩
        . cases o2
        . injection e with e1 _ e3
          injection e1 with e1
          injection e1 with e1
          subst e1 e3
          exact⟨o1,.inr ⟨_,_,_,rfl,Nat.le_refl _,o4⟩⟩
      . rcases List.mem_append.1 hx with hx|hx
        . exact HT.out.ok x hx
        . rw[List.mem_singleton.1 hx];exact HOK.out
    have HTB:=sE TB
    clear hwB hown hgrow hat TB oB bB
    go_wp2
    refine bodyPost_ret (v:=.int .i64 ((ts.length+1:Nat):Int)) (by simp[results,results165,go_sem]) rfl ⟨rfl,g,HTB.out,hq',KB⟩

def addE(n:Nat)(ok:Bool):Int:=if ok=false then 2 else if 64<=n then 4 else 0

def AddPost(k wds:Int)(m:Nat)(t q:Nat)(ts:List TypR)(w:World)(e:Ending)(w':World):Prop:=
  e=.returned (.tuple #[.int .i64 (if addE ts.length (Di k wds m)=0 then ((ts.length+1:Nat):Int) else 0),.int .i64 (addE ts.length (Di k wds m))])/\
  (if addE ts.length (Di k wds m)=0 then ∃ q',TableAt w' t q' (ts++[⟨k,wds,m⟩])/\(q'=q\/w.heap.size<=q')/\Kp (λ b=>b=t\/b=q) w w' else Kp Ab w w')

set_option maxRecDepth 20000 in
theorem TAdd_any(k wds:Int)(m:Nat)(t q:Nat)(ts:List TypR)(w:World)(h:TableAt w t q ts)(hq:q<w.heap.size):
    Calls prog 124 #[.pointer (some ⟨t,0,none⟩),.agg #[.int .u8 k,.int .i64 wds,.int .u64 (m:Nat)]] w (AddPost k wds m t q ts w):=by
  have HT:=sE h
  obtain⟨v,h1,-,-⟩:=h.ht
  have lt:=lZ h1
  have few:=h.few
  clear h h1 v
  have kA:Kp Ab w (w.alloc (.cells #[.int .u8 k,.int .i64 wds,.int .u64 (m:Nat)] 86)):=(Kr _ w).alloc _
  have b5:=wN w (.cells #[.int .u8 k,.int .i64 wds,.int .u64 (m:Nat)] 86)
  obtain⟨w5,hw5⟩:∃ w5,w5=w.alloc (.cells #[.int .u8 k,.int .i64 wds,.int .u64 (m:Nat)] 86):=⟨_,rfl⟩
  rw[<- hw5] at kA b5
  have HCK:Sl (Calls prog 144 #[.agg #[.int .u8 k,.int .i64 wds,.int .u64 (m:Nat)]] w5 λ e w'=>e=.returned (.int .i64 (errV (Di k wds m)))/\Kp Ab w5 w'):=⟨Dt k wds m w5⟩
  cases hok:Di k wds m with
  |false=>
    have hE:Sl (addE ts.length (Di k wds m)=2):=⟨by rw[hok,addE,if_pos rfl]⟩
    rw[hok] at HCK
    clear hok
    go_enter func124,ntmps124
    go_wp2_with fail
    try rw[<- hw5]
    clear hw5
    try go_wp2_with fail
    refine HCK.out.mono ?_
    rintro e w6 ⟨rfl,k6⟩
    rw[show errV false=2 from rfl]
    go_wp2
    refine bodyPost_ret (v:=.tuple #[.int .i64 0,.int .i64 2]) (by simp[results,results124,go_sem]) rfl ⟨?_,?_⟩
    . rw[hE.out];rfl
    . rw[hE.out,if_neg (by omega)]
      exact kA.then' k6
  |true=>
    rw[hok] at HCK
    have HOK:=sE hok
    clear hok
    by_cases hl:64<=ts.length
    . have hE:Sl (addE ts.length (Di k wds m)=4):=⟨by rw[HOK.out,addE,if_neg (by simp),if_pos hl]⟩
      have d1:decide ((64:Int)<=(ts.length:Nat))=true:=dT (by omega)
      go_enter func124,ntmps124
      go_wp2_with fail
      try rw[<- hw5]
      clear hw5
      try go_wp2_with fail
      refine HCK.out.mono ?_
      rintro e w6 ⟨rfl,k6⟩
      rw[show errV true=0 from rfl]
      obtain⟨a,cap,c0,-⟩:=(HT.out.Ad (kA.then' k6)).head
      go_wp2
      refine bodyPost_ret (v:=.tuple #[.int .i64 0,.int .i64 4]) (by simp[results,results124,go_sem]) rfl ⟨?_,?_⟩
      . rw[hE.out];rfl
      . rw[hE.out,if_neg (by omega)]
        exact kA.then' k6
    . have hE:Sl (addE ts.length (Di k wds m)=0):=⟨by rw[HOK.out,addE,if_neg (by simp),if_neg hl]⟩
      have d1:decide ((64:Int)<=(ts.length:Nat))=false:=dF (by omega)
      go_enter func124,ntmps124
      go_wp2_with fail
      try rw[<- hw5]
      clear hw5
      try go_wp2_with fail
      refine HCK.out.mono ?_
      rintro e w6 ⟨rfl,k6⟩
      rw[show errV true=0 from rfl]
      have K6:=kA.then' k6
      obtain⟨a,cap,c0,-⟩:=(HT.out.Ad K6).head
      have b6:=k6.at_ b5 (λ h=>h)
      have e0:w6.cell? ⟨w.heap.size,0,none⟩=some (.int .u8 k):=by simp[World.cell?,b6]
      have e1:w6.cell? ⟨w.heap.size,1,none⟩=some (.int .i64 wds):=by simp[World.cell?,b6]
      have e2:w6.cell? ⟨w.heap.size,2,none⟩=some (.int .u64 (m:Nat)):=by simp[World.cell?,b6]
      have z6:=K6.size
      have HP:Sl (∀ w',Kp Ab w6 w'->Calls prog 165 #[.pointer (some ⟨t,0,none⟩),.agg #[.int .u8 k,.int .i64 wds,.int .u64 (m:Nat)]] w' λ e w''=>
          e=.returned (.int .i64 ((ts.length+1:Nat):Int))/\∃ q',TableAt w'' t q' (ts++[⟨k,wds,m⟩])/\(q'=q\/w'.heap.size<=q')/\Kp (λ b=>b=t\/b=q) w' w''):=
        ⟨λ w' hk=>tput_at k wds m t q ts w' (HT.out.Ad (K6.then' hk)) HOK.out (by omega) (by have:=hk.size;omega)⟩
      clear b5 b6
      go_wp2_with fail
      go_region_held3 (λ w'=>w'.cell? ⟨w.heap.size,0,none⟩=some (.int .u8 k)/\w'.cell? ⟨w.heap.size,1,none⟩=some (.int .i64 wds)/\w'.cell? ⟨w.heap.size,2,none⟩=some (.int .u64 (m:Nat)))
        (first|go_keep|exact ⟨k7.cell e0 (by dsimp only;omega),k7.cell e1 (by dsimp only;omega),k7.cell e2 (by dsimp only;omega)⟩)
        (first|(go_at_call 165;refine (HP.out _ (by (repeat (first|assumption|exact Kr _ _|refine Kp.drew ?_|refine Kp.alloc ?_ _|refine Kp.Az ?_ (by omega) _)))).mono ?_;rintro e w7 ⟨rfl,q',T7,hq',k7⟩))
      clear e0 e1 e2
      have KK:Kp (λ b=>b=t\/b=q) w w7:=((K6.then' (Kr Ab w6).drew).Ak _).trans k7 (λ b hb h=>h)
      go_wp2
      refine bodyPost_ret (v:=.tuple #[.int .i64 ((ts.length+1:Nat):Int),.int .i64 0]) (by simp[results,results124,go_sem]) rfl ⟨?_,?_⟩
      . rw[hE.out];rfl
      . rw[hE.out,if_pos rfl]
        exact⟨q',T7,by rcases hq' with h|h;exact .inl h;exact .inr (Nat.le_trans z6 h),KK⟩

def AO(w:World)(v:Value)(xs:List TypR):Prop:=
  ∃ a cap,v=.slice a xs.length cap/\∀ i x,xs[i]?=some x->∃ b o,a=some ⟨b,o,none⟩/\b<w.heap.size/\
    w.cell? ⟨b,o+i*3,none⟩=some (.int .u8 x.k)/\w.cell? ⟨b,o+i*3+1,none⟩=some (.int .i64 x.wds)/\w.cell? ⟨b,o+i*3+2,none⟩=some (.int .u64 (x.m:Nat))

theorem AO.Ad{w w':World}{v:Value}{xs:List TypR}(h:AO w v xs)(k:Kp Ab w w'):AO w' v xs:=by
  obtain⟨a,cap,rfl,h⟩:=h
  refine⟨a,cap,rfl,λ i x hi=>?_⟩
  obtain⟨b,o,rfl,h1,h2,h3,h4⟩:=h i x hi
  exact⟨b,o,rfl,Nat.lt_of_lt_of_le h1 k.size,k.cell h2 (λ h=>h),k.cell h3 (λ h=>h),k.cell h4 (λ h=>h)⟩

def FL:Nat->List TypR->Int
  |_,[]=>0
  |n,x::xs=>if addE n (Di x.k x.wds x.m)=0 then FL (n+1) xs else addE n (Di x.k x.wds x.m)

def NewTPost(xs:List TypR)(w:World)(e:Ending)(w':World):Prop:=
  Kp Ab w w'/\((FL 0 xs=0/\∃ t q,e=.returned (.tuple #[.pointer (some ⟨t,0,none⟩),.int .i64 0])/\TableAt w' t q xs/\w.heap.size<=t/\w.heap.size<=q/\q<w'.heap.size)\/
    (¬ FL 0 xs=0/\e=.returned (.tuple #[.pointer none,.int .i64 (FL 0 xs)])))

theorem TableAt.lt_t{w:World}{t q:Nat}{ts:List TypR}(h:TableAt w t q ts):t<w.heap.size:=by
  obtain⟨v,h1,-,-⟩:=h.ht
  exact lZ h1

theorem TableAt.lt_q{w:World}{t q:Nat}{ts:List TypR}(h:TableAt w t q ts)(hp:0<ts.length):q<w.heap.size:=by
  obtain⟨v,h1,h2,h3⟩:=h.ht
  rcases h2.2 with ⟨_,h0⟩|⟨g,cap,cur,rfl,g2,g3,g4,g5,g6,g7⟩
  . omega
  . obtain rfl:=h3 g rfl
    exact lZ g3

def NewTI(xs:List TypR)(w:World)(t:Nat)(y:Value)(wr:World):Prop:=
  ∃ j q,j<=xs.length/\y=.int .i64 (j:Nat)/\TableAt wr t q (xs.take j)/\w.heap.size<=q/\q<wr.heap.size/\FL j (xs.drop j)=FL 0 xs/\Kp Ab w wr

theorem tab_next{xs:List TypR}{j:Nat}{x:TypR}(hx:xs[j]?=some x):FL j (xs.drop j)=if addE j (Di x.k x.wds x.m)=0 then FL (j+1) (xs.drop (j+1)) else addE j (Di x.k x.wds x.m):=by
  have hj:=(gE.1 hx).1
  have e:xs[j]=x:=(gE.1 hx).2
  rw[List.drop_eq_getElem_cons hj,e,FL]

set_option maxRecDepth 20000 in
theorem TNew_any(v:Value)(xs:List TypR)(w:World)(hv:AO w v xs)(hlen:xs.length<=17592186044416):
    Calls prog 80 #[v] w (NewTPost xs w):=by
  have HV:=sE hv
  obtain⟨va,vc,rfl,-⟩:=hv
  obtain⟨len,hlen'⟩:∃ len,xs.length=len:=⟨_,rfl⟩
  rw[hlen'] at HV hlen ⊢
  have HL:=sE hlen'
  clear hlen'
  go_enter func80,ntmps80
  go_wp2_with fail
  obtain⟨w1,hw1⟩:∃ w1,w1=w.alloc (.cells #[.slice none 0 0] 183):=⟨_,rfl⟩
  rw[<- hw1]
  have k1:Kp Ab w w1:=by rw[hw1];exact (Kr _ w).alloc _
  have b1:w1.heap[w.heap.size]?=some (.cells #[.slice none 0 0] 183 (0,0)):=by rw[hw1];exact wN w _
  have lb1:=lZ b1
  have T1:TableAt w1 w.heap.size w.heap.size []:=⟨⟨_,b1,World.ownsRow_nil w1 _ _ _,λ b hb=>by cases hb⟩,by simp,λ x hx=>by cases hx⟩
  clear hw1 b1
  go_loopw [13] (λ y wr=>NewTI xs w w.heap.size y wr) (λ y _=>len-(intOf y).toNat)
  case atStart=>exact ⟨0,w.heap.size,Nat.zero_le _,rfl,T1,Nat.le_refl _,lb1,rfl,k1⟩
  case round=>
    obtain⟨j,q,hj,rfl,T,hq,hq2,hE,hk⟩:=hrel
    rw[HL.out] at hj
    by_cases hjl:j<len
    . have hjl':(j:Int)<len:=by omega
      obtain⟨va',vc',e,hx⟩:=HV.out
      injection e with e1 e3 e2
      clear e3
      subst e1 e2
      obtain⟨x,hxj⟩:∃ x,xs[j]?=some x:=⟨xs[j]'(by rw[HL.out];omega),List.getElem?_eq_getElem (by rw[HL.out];omega)⟩
      obtain⟨b,o,rfl,hbl,x0,x1,x2⟩:=hx j x hxj
      have hnx:=tab_next hxj
      obtain⟨k,wds,m⟩:=x
      dsimp only at x0 x1 x2 hnx
      have hbl':b<wr.heap.size:=by have:=hk.size;omega
      have y0:=hk.cell x0 (λ h=>h)
      have y1:=hk.cell x1 (λ h=>h)
      have y2:=hk.cell x2 (λ h=>h)
      have htl:(xs.take j).length=j:=by rw[List.length_take,HL.out];omega
      have hts:xs.take j++[⟨k,wds,m⟩]=xs.take (j+1):=by
        rw[List.take_add_one,hxj];rfl
      have HADD:Sl (∀ w',Kp Ab wr w'->Calls prog 124 #[.pointer (some ⟨w.heap.size,0,none⟩),.agg #[.int .u8 k,.int .i64 wds,.int .u64 (m:Nat)]] w' (AddPost k wds m w.heap.size q (xs.take j) w')):=
        ⟨λ w' h'=>TAdd_any k wds m w.heap.size q _ w' (T.Ad h') (by have:=h'.size;omega)⟩
      have kA:Kp Ab wr (wr.alloc (.cells #[.int .u8 k,.int .i64 wds,.int .u64 (m:Nat)] 86)):=(Kr _ wr).alloc _
      have HKA:=sE kA
      have HE:=sE hE
      have HNX:=sE hnx
      have HTS:=sE hts
      have HXJ:=sE hxj
      clear kA hE hnx hts hxj hx x0 x1 x2 T
      go_wp2_with fail
      refine(HADD.out _ HKA.out).mono ?_
      rintro e w2 ⟨rfl,hp⟩
      rw[htl] at hp ⊢
      have kN:=HKA.out
      clear y0 y1 y2
      by_cases hz:addE j (Di k wds m)=0
      . rw[if_pos hz] at hp ⊢
        rw[hz]
        obtain⟨q',T',hq',k'⟩:=hp
        rw[HTS.out] at T'
        have HT':=sE T'
        have HN':Sl (FL (j+1) (xs.drop (j+1))=FL 0 xs):=⟨by have:=HNX.out;rw [if_pos hz] at this;rw [<- this];exact HE.out⟩
        have hl1:0<(xs.take (j+1)).length:=by rw[List.length_take,HL.out];omega
        have lq':=T'.lt_q hl1
        have z2:=kN.size
        have z3:=k'.size
        clear T'
        go_wp2
        refine⟨⟨j+1,q',by rw[HL.out];omega,by go_num,HT'.out,by omega,lq',HN'.out,?_⟩,by simp only[intOf];omega⟩
        exact(hk.trans kN (λ i hi h=>h)).trans k' (λ i hi h=>by omega)
      . rw[if_neg hz] at hp ⊢
        have HN':Sl (addE j (Di k wds m)=FL 0 xs):=⟨by have:=HNX.out;rw [if_neg hz] at this;rw [<- this];exact HE.out⟩
        rw[HN'.out] at hz ⊢
        obtain⟨E,hEE⟩:∃ E,FL 0 xs=E:=⟨_,rfl⟩
        have HEE:=sE hEE
        rw[hEE] at hz ⊢
        have hb:(E !=0)=true:=by simpa using hz
        clear hEE HN'
        go_wp2
        refine bodyPost_ret (v:=.tuple #[.pointer none,.int .i64 E]) (by simp[results,results80,go_sem]) rfl ⟨(hk.trans kN (λ i hi h=>h)).trans hp (λ i hi h=>h),.inr ⟨by rw[HEE.out];exact hz,by rw[HEE.out]⟩⟩
    . have hjl':¬ (j:Int)<len:=by omega
      have hjj:j=xs.length:=by rw[HL.out];omega
      have HJ:=sE hjj
      have T2:=T
      rw[hjj,List.take_length] at T2
      have hE2:=hE
      rw[hjj,List.drop_length] at hE2
      have HT2:=sE T2
      have HE2:=sE hE2
      clear T T2 hE hE2 hjj
      go_wp2
      refine bodyPost_ret (v:=.tuple #[.pointer (some ⟨w.heap.size,0,none⟩),.int .i64 0]) (by simp[results,results80,go_sem]) rfl ⟨hk,.inl ⟨HE2.out.symm,w.heap.size,q,rfl,HT2.out,Nat.le_refl _,hq,hq2⟩⟩

section
variable {P:Program}

theorem Dq{w:World}{ops:Array Oper}{o:Oper}{a:Act}{K:Act->World->Prop}{Q:Exit->Act->World->Prop}{E:Prop}(hgd:o.guard=none){d:Tmp}(hd:o.dst=some d)(s x:Operand)(t:TypeId)
    (ho:o.op=.call {callee:=.builtin .append,args:=#[s,x],argTypes:=#[t,t]}) (base:Nat) (e:TypeId) (i:TypeInfo) (z:Value) (size bytes:Nat) (ht:P.underlying t=some (.slice e)) (hi:P.info? e=some i) (hz:i.zero=some z)
    (hsize:i.size=size) (hby:i.bytes=bytes) (hzs:z.cells.size=size) (hsz:0<size)
    (v:Value) (n:Nat) (xs:List Value) (hs:a.eval s=v) (hown:w.ownsRow base e size v n xs)
    (ad:Addr) (m c:Nat) (news:List Value) (hx:a.eval x=.slice (some ad) m c) (hl:news.length=m*size) (hnews:∀ j u,news[j]?=some u->w.cell? (ad.add j)=some u) (h1:∀ u∈news,u.oneCell'=true)
    (h63:n+m<=maxLen) (hbytes:(n+m)*bytes<=140737488355328) (hbase:base<=w.heap.size)
    (h:∀ v' w',w'.ownsRow base e size v' (n+m) (xs++news)->w.grownBy w' v.ownBlock->(v'.ownBlock=v.ownBlock\/v'.ownBlock=some w.heap.size)->K (a.put (some d) v') w'):
    if Region.wanted o (yielded ops a.tmps)=true then Oper.wp P o a w K Q else E:=by
  have hw:Region.wanted o (yielded ops a.tmps)=true:=by simp[Region.wanted,hgd]
  rw[if_pos hw]
  obtain⟨v',w',hr,h2,h3,_,h5⟩:=run_append_own_at (P:=P) w base t o.type e i z size bytes ht hi hz hsize hby hzs hsz v n xs hown ad m c news hl hnews h1 h63 hbytes hbase
  unfold Oper.wp execOp
  simp only[ho,resolve,invoke,builtin,Sem.run_bind,Sem.run_pure,Result.andThen_ok,List.map_toArray,List.map_cons,List.map_nil,hs,hx,hr]
  have:=h v' w' h2 h3 h5
  rw[<- hd] at this
  exact this

end

end

end Go.Proofs.YtmfajopmppfldaaGreatDoor
