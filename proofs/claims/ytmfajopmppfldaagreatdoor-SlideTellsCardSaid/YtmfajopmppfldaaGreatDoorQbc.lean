/-
  Lemmas for the laws, together: PlanP.
-/
import Derived.Test.YtmfajopmppfldaaGreatDoorQba
import Derived.Test.YtmfajopmppfldaaGreatDoorQbb
set_option linter.unusedVariables false
set_option maxHeartbeats 16000000
namespace Go.Proofs.YtmfajopmppfldaaGreatDoor
open Go.Proofs.Tryz
section

def Ch(pin:Nat->Bool)(sz:Nat->Nat):List Nat->Nat->Nat->List (Nat×Nat×Nat)×List Nat
 |[],f,t=>([],[])
 |u::us,f,t=>
  if pin u=true then ((u,u,sz u)::(Ch pin sz us f t).1,(Ch pin sz us f t).2)
  else if t-f<sz u then ([],u::us)
  else ((u,f,sz u)::(Ch pin sz us (f+sz u) t).1,(Ch pin sz us (f+sz u) t).2)

def stayL(sz:Nat->Nat)(l:List Nat):List (Nat×Nat×Nat):=l.map λ g=>(g,g,sz g)

def planL(pin:Nat->Bool)(sz:Nat->Nat):List (Nat×Nat)->List Nat->List (Nat×Nat×Nat)
 |[],l=>stayL sz (l.takeWhile pin)
 |r::rs,l=>(Ch pin sz l r.1 (r.1+r.2)).1++planL pin sz rs (Ch pin sz l r.1 (r.1+r.2)).2

theorem fillL_rest(pin:Nat->Bool)(sz:Nat->Nat)(f t:Nat):∀ (l:List Nat),Ch pin sz l f t=(stayL sz (l.takeWhile pin)++(Ch pin sz (l.dropWhile pin) f t).1,(Ch pin sz (l.dropWhile pin) f t).2)
 |[]=>rfl
 |u::us=>by
  cases h:pin u with
  |true=>
   rw[List.takeWhile_cons_of_pos h,List.dropWhile_cons_of_pos h]
   have ih:=fillL_rest pin sz f t us
   simp only[Ch,h,if_true]
   rw[ih]
   rfl
  |false=>
   rw[List.takeWhile_cons_of_neg (by simp[h]),List.dropWhile_cons_of_neg (by simp[h])]
   rfl

def RowS(sz:Nat->Nat):Nat->List Nat->Nat->Prop
 |e,[],H=>e<=H
 |e,u::us,H=>e<=u/\0<sz u/\RowS sz (u+sz u) us H

theorem RowS.le{sz:Nat->Nat}:∀ {l:List Nat} {e H:Nat},RowS sz e l H->e<=H
 |[],e,H,h=>h
 |u::us,e,H,⟨h1,h2,h3⟩=>by have:=h3.le;omega

theorem RowS.mem{sz:Nat->Nat}:∀ {l:List Nat} {e H g:Nat},RowS sz e l H->g∈l->e<=g/\g+sz g<=H/\0<sz g
 |[],e,H,g,h,hg=>by cases hg
 |u::us,e,H,g,⟨h1,h2,h3⟩,hg=>by
  rcases List.mem_cons.1 hg with rfl|hg
  .exact ⟨h1,h3.le,h2⟩
  .obtain ⟨a,b,c⟩:=h3.mem hg
   exact⟨by omega,b,c⟩

structure PlanOk(pin:Nat->Bool)(sz:Nat->Nat)(R:List (Nat×Nat))(e:Nat)(out:List (Nat×Nat×Nat)):Prop where
 each:∀ x∈out,x.2.2=sz x.1/\(pin x.1=true->x.2.1=x.1)/\(pin x.1=false->e<=x.2.1/\x.2.1<=x.1/\∃ r∈R,r.1<=x.2.1/\x.2.1+x.2.2<=r.1+r.2)
 pw:out.Pairwise λ x y=>pin x.1=false->pin y.1=false->x.2.1+x.2.2<=y.2.1

theorem takeW_all{α:Type}{p:α->Bool}:∀ {l:List α},(∀ g∈l,p g=true)->l.takeWhile p=l
 |[],_=>rfl
 |x::l,h=>by
  rw[List.takeWhile_cons_of_pos (h x List.mem_cons_self),takeW_all λ g hg=>h g (List.mem_cons_of_mem _ hg)]

theorem stay_fst(sz:Nat->Nat)(l:List Nat):(stayL sz l).map (·.1)=l:=by
 unfold stayL
 rw[List.map_map]
 exact List.map_id' l

theorem stay_ok{pin:Nat->Bool}{sz:Nat->Nat}{R:List (Nat×Nat)}{e:Nat}{l:List Nat}(h:∀ g∈l,pin g=true):PlanOk pin sz R e (stayL sz l):=by
 have hp:∀ x∈stayL sz l,x.2.2=sz x.1/\x.2.1=x.1/\pin x.1=true:=λ x hx=>by
  unfold stayL at hx
  obtain⟨g,hg,rfl⟩:=List.mem_map.1 hx
  exact⟨rfl,rfl,h g hg⟩
 refine⟨λ x hx=>?_,?_⟩
 .obtain ⟨a,b,c⟩:=hp x hx
  exact⟨a,λ _=>b,λ h=>by rw[c] at h;cases h⟩
 .refine List.Pairwise.imp_of_mem (R:=λ _ _=>True) (λ {x y} hx _ _ hp1=>?_) (List.pairwise_of_forall (λ _ _=>trivial))
  obtain⟨-,-,c⟩:=hp x hx
  rw[c] at hp1
  cases hp1

theorem fill_ok{pin:Nat->Bool}{sz:Nat->Nat}{r:Nat×Nat}:∀ {l:List Nat} {e f H:Nat},RowS sz e l H->r.1<=f->f<=r.1+r.2->(∀ u∈l,pin u=false->f<=u)->
  (Ch pin sz l f (r.1+r.2)).1.map (·.1)++(Ch pin sz l f (r.1+r.2)).2=l/\PlanOk pin sz [r] f (Ch pin sz l f (r.1+r.2)).1/\(∀ u∈(Ch pin sz l f (r.1+r.2)).2,pin u=false->r.1+r.2<u+sz u)/\(∃ e',e<=e'/\RowS sz e' (Ch pin sz l f (r.1+r.2)).2 H)
 |[],e,f,H,hr,h1,h2,h3=>⟨rfl,⟨λ x hx=>(by cases hx),List.Pairwise.nil⟩,λ u hu=>(by cases hu),e,Nat.le_refl _,hr⟩
 |u::us,e,f,H,⟨r1,r2,r3⟩,h1,h2,h3=>by
  cases hp:pin u with
  |true=>
   obtain⟨a,b,c,e',d1,d2⟩:=fill_ok (r:=r) (l:=us) r3 h1 h2 (λ v hv=>h3 v (List.mem_cons_of_mem _ hv))
   simp only[Ch,hp,if_true]
   refine⟨by rw[List.map_cons,List.cons_append,a],⟨λ x hx=>?_,?_⟩,c,e',by omega,d2⟩
   .rcases List.mem_cons.1 hx with rfl|hx
    .exact ⟨rfl,λ _=>rfl,λ h=>by rw[hp] at h;cases h⟩
    .exact b.each x hx
   .exact List.pairwise_cons.2 ⟨λ y hy h=>(by rw[hp] at h;cases h),b.pw⟩
  |false=>
   have hfu:=h3 u List.mem_cons_self hp
   by_cases hs:r.1+r.2-f<sz u
   .simp only[Ch,hp,hs,if_true,Bool.false_eq_true,if_false]
    refine⟨rfl,⟨λ x hx=>(by cases hx),List.Pairwise.nil⟩,λ v hv hpv=>?_,e,Nat.le_refl _,r1,r2,r3⟩
    rcases List.mem_cons.1 hv with rfl|hv
    .omega
    .have:=r3.mem hv
     omega
   .obtain ⟨a,b,c,e',d1,d2⟩:=fill_ok (r:=r) (l:=us) (f:=f+sz u) r3 (by omega) (by omega) (λ v hv hpv=>by have:=r3.mem hv;omega)
    simp only[Ch,hp,hs,Bool.false_eq_true,if_false]
    refine⟨by rw[List.map_cons,List.cons_append,a],⟨λ x hx=>?_,?_⟩,c,e',by omega,d2⟩
    .rcases List.mem_cons.1 hx with rfl|hx
     .exact ⟨rfl,λ h=>(by rw[hp] at h;cases h),λ _=>⟨Nat.le_refl _,hfu,r,List.mem_singleton.2 rfl,h1,by simp only;omega⟩⟩
     .obtain ⟨a1,a2,a3⟩:=b.each x hx
      exact⟨a1,a2,λ h=>⟨by have:=(a3 h).1;omega,(a3 h).2⟩⟩
    .refine List.pairwise_cons.2 ⟨λ y hy _ hq=>?_,b.pw⟩
     have:=((b.each y hy).2.2 hq).1
     simp only
     omega

theorem plan_ok{pin:Nat->Bool}{sz:Nat->Nat}:∀ {R:List (Nat×Nat)} {l:List Nat} {e e2 H H2:Nat},RowS sz e l H->BN e2 R H2->(∀ u∈l,pin u=false->∃ r∈R,r.1<=u/\u+sz u<=r.1+r.2)->
  (planL pin sz R l).map (·.1)=l/\PlanOk pin sz R e2 (planL pin sz R l)
 |[],l,e,e2,H,H2,hl,hR,hw=>by
  have hall:∀ g∈l,pin g=true:=λ g hg=>by
   cases hp:pin g with
   |true=>rfl
   |false=>
    obtain⟨r,hr,-⟩:=hw g hg hp
    cases hr
  have htk:l.takeWhile pin=l:=takeW_all hall
  simp only[planL,htk]
  exact⟨stay_fst sz l,stay_ok hall⟩
 |r::rs,l,e,e2,H,H2,hl,⟨R1,R2,R3⟩,hw=>by
  have hge:∀ u∈l,pin u=false->r.1<=u:=λ u hu hp=>by
   obtain⟨r',hr',a,b⟩:=hw u hu hp
   rcases List.mem_cons.1 hr' with rfl|hr'
   .exact a
   .have:=(R3.up.2 r' hr')
    omega
  obtain⟨a,b,c,e',d1,d2⟩:=fill_ok (r:=r) hl (Nat.le_refl _) (by omega) hge
  obtain⟨p,q⟩:=plan_ok (R:=rs) (l:=(Ch pin sz l r.1 (r.1+r.2)).2) d2 R3 (λ u hu hp=>by
   have hul:u∈l:=by rw[<- a];exact List.mem_append_right _ hu
   obtain⟨r',hr',x,y⟩:=hw u hul hp
   rcases List.mem_cons.1 hr' with rfl|hr'
   .have:=c u hu hp
    omega
   .exact ⟨r',hr',x,y⟩)
  simp only[planL]
  refine⟨by rw[List.map_append,p,a],⟨λ x hx=>?_,?_⟩⟩
  .rcases List.mem_append.1 hx with hx|hx
   .obtain ⟨a1,a2,a3⟩:=b.each x hx
    refine⟨a1,a2,λ h=>?_⟩
    obtain⟨z1,z2,r',hr',z3⟩:=a3 h
    have:=List.mem_singleton.1 hr'
    subst this
    exact⟨by omega,z2,r',List.mem_cons_self,z3⟩
   .obtain ⟨a1,a2,a3⟩:=q.each x hx
    refine⟨a1,a2,λ h=>?_⟩
    obtain⟨z1,z2,r',hr',z3⟩:=a3 h
    exact⟨by omega,z2,r',List.mem_cons_of_mem _ hr',z3⟩
  .refine List.pairwise_append.2 ⟨b.pw,q.pw,λ x hx y hy hpx hpy=>?_⟩
   obtain⟨-,-,r',hr',z3,z4⟩:=(b.each x hx).2.2 hpx
   have:=List.mem_singleton.1 hr'
   subst this
   have:=((q.each y hy).2.2 hpy).1
   omega

theorem water_one:∀ {L:List (Nat×Nat)} {e H a b:Nat},BN e L H->a<b->(∀ q,a<=q->q<b->e<=q/\q<H/\cov L q=false)->∃ r∈BZ e L H,r.1<=a/\b<=r.1+r.2
 |[],e,H,a,b,h,hab,hq=>by
  have h1:=hq a (Nat.le_refl _) hab
  have h2:=hq (b-1) (by omega) (by omega)
  unfold BZ
  rw[if_pos (by omega)]
  exact⟨(e,H-e),List.mem_singleton.2 rfl,h1.1,by simp only;omega⟩
 |r::L,e,H,a,b,⟨h1,h2,h3⟩,hab,hq=>by
  have hn:∀ q,a<=q->q<b->¬ (r.1<=q/\q<r.1+r.2):=λ q q1 q2 hc=>by
   have:=(hq q q1 q2).2.2
   rw[Er,Bool.or_eq_false_iff,decide_eq_false_iff_not] at this
   exact this.1 hc
  have ha:=hq a (Nat.le_refl _) hab
  unfold BZ
  by_cases hlt:a<r.1
  .have hb:b<=r.1:=by
    by_cases h:b<=r.1
    .exact h
    .exact absurd ⟨Nat.le_refl _,by omega⟩ (hn r.1 (by omega) (by omega))
   rw[if_pos (by omega)]
   exact⟨(e,r.1-e),List.mem_append_left _ (List.mem_singleton.2 rfl),ha.1,by simp only;omega⟩
  .have hge:r.1+r.2<=a:=by
    by_cases h:r.1+r.2<=a
    .exact h
    .exact absurd ⟨by omega,by omega⟩ (hn a (Nat.le_refl _) hab)
   obtain⟨x,hx,x1,x2⟩:=water_one (L:=L) h3 hab (λ q q1 q2=>by
    obtain⟨y1,y2,y3⟩:=hq q q1 q2
    rw[Er,Bool.or_eq_false_iff] at y3
    exact⟨by omega,y2,y3.2⟩)
   exact⟨x,List.mem_append_right _ hx,x1,x2⟩

theorem water_rise:∀ {L:List (Nat×Nat)} {e H:Nat},BN e L H->BN e (BZ e L H) H
 |[],e,H,h=>by
  unfold BZ
  by_cases hl:e<H
  .rw [if_pos hl]
   exact⟨Nat.le_refl _,by simp only;omega,by show e+(H-e)<=H;omega⟩
  .rw [if_neg hl]
   exact h
 |r::L,e,H,⟨h1,h2,h3⟩=>by
  have ih:=water_rise h3
  unfold BZ
  by_cases hl:e<r.1
  .rw [if_pos hl]
   refine⟨Nat.le_refl _,by simp only;omega,?_⟩
   exact BN.mono ih (by simp only;omega)
  .rw [if_neg hl]
   exact BN.mono ih (by omega)

theorem BN.rowS{sz:Nat->Nat}:∀ {P:List (Nat×Nat)} {e H:Nat},BN e P H->(∀ r∈P,r.2=sz r.1)->RowS sz e (P.map (·.1)) H
 |[],e,H,h,_=>h
 |r::P,e,H,⟨h1,h2,h3⟩,hs=>by
  have hr:=hs r List.mem_cons_self
  exact⟨h1,by rw[<- hr];exact h2,by rw[<- hr];exact h3.rowS λ x hx=>hs x (List.mem_cons_of_mem _ hx)⟩

theorem rowS_of{cs:List Cel}{l:List Nat}{H:Nat}(ht:Au 0 cs H)(hl:l.Pairwise (· <·))(ho:∀ g∈l,CX cs g):RowS (Cu cs) 0 l H:=by
 have hu:UpR (Ci cs l):=by
  unfold UpR Ci
  rw[List.pairwise_map]
  exact hl
 have he:=pins_pinL (M:=Ci cs l) (gs:=l) hu (λ r=>Iff.rfl) ho ht
 have hr:=EP (p:=De l) ht
 rw[<- he] at hr
 have:=hr.rowS (sz:=Cu cs) (λ r hr=>by
  unfold Ci at hr
  obtain⟨g,-,rfl⟩:=List.mem_map.1 hr
  rfl)
 rw[show (Ci cs l).map (·.1)=l by unfold Ci;rw [List.map_map];exact List.map_id' l] at this
 exact this

theorem RowS.pw{sz:Nat->Nat}:∀ {l:List Nat} {e H:Nat},RowS sz e l H->l.Pairwise λ a b=>a+sz a<=b
 |[],e,H,h=>List.Pairwise.nil
 |u::us,e,H,⟨h1,h2,h3⟩=>List.pairwise_cons.2 ⟨λ v hv=>(h3.mem hv).1,h3.pw⟩

def BU(cs:List Cel)(pins l:List Nat)(H:Nat):List (Nat×Nat×Nat):=planL (De pins) (Cu cs) (BZ 0 (BX cs (De pins)) H) l

theorem FJ{cs:List Cel}{pins l:List Nat}{H:Nat}(ht:Au 0 cs H)(hl:l.Pairwise (· <·))(ho:∀ g∈l,CX cs g):
  (BU cs pins l H).map (·.1)=l/\PlanOk (De pins) (Cu cs) (BZ 0 (BX cs (De pins)) H) 0 (BU cs pins l H):=by
 have hr:=rowS_of ht hl ho
 have ha:=(EE (p:=De pins) ht).rise
 refine plan_ok hr (water_rise ha) λ u hu hp=>?_
 obtain⟨c,hc,h1,rfl⟩:=ho u hu
 have hz:=Cy ht hc h1
 have hm:=hr.mem hu
 refine water_one ha (by omega) λ q q1 q2=>⟨Nat.zero_le _,by omega,?_⟩
 rw[islesL_cov ht hc q1 (by unfold Cel.fin;omega),hp,Bool.and_false]

def fullF(out:List (Nat×Nat×Nat))(q:Nat):Bool:=out.any λ x=>decide (x.2.1<=q/\q<x.2.1+x.2.2)

theorem plan_apart{cs:List Cel}{pins l:List Nat}{H:Nat}{j q:Nat}{x:Nat×Nat×Nat}(ht:Au 0 cs H)(hl:l.Pairwise (· <·))(ho:∀ g∈l,CX cs g)(hpo:∀ g∈pins,CX cs g)(hx:(BU cs pins l H)[j]?=some x)(h1:x.2.1<=q)(h2:q<x.2.1+x.2.2):fullF ((BU cs pins l H).take j) q=false:=by
 obtain⟨hf,hk⟩:=FJ (pins:=pins) ht hl ho
 have hr:=rowS_of ht hl ho
 have ha:=(EE (p:=De pins) ht).rise
 have hland:∀ y:Nat×Nat×Nat,y∈BU cs pins l H->De pins y.1=true->y.2.1<=q->q<y.2.1+y.2.2->cov (BX cs (De pins)) q=true:=λ y hy hp y1 y2=>by
  obtain⟨e1,e2,-⟩:=hk.each y hy
  rw[e2 hp] at y1 y2
  obtain⟨c,hc,c1,c2⟩:=hpo y.1 (DU.1 hp)
  have hz:=Cy ht hc c1
  rw[c2] at hz
  rw[islesL_cov ht hc (by omega) (by unfold Cel.fin;omega),c1,c2,hp]
  rfl
 have hsea:∀ y:Nat×Nat×Nat,y∈BU cs pins l H->De pins y.1=false->y.2.1<=q->q<y.2.1+y.2.2->cov (BX cs (De pins)) q=false:=λ y hy hp y1 y2=>by
  obtain⟨-,-,e3⟩:=hk.each y hy
  obtain⟨-,-,r,hrm,r1,r2⟩:=e3 hp
  have hc:cov (BZ 0 (BX cs (De pins)) H) q=true:=cov_mem.2 ⟨r,hrm,by omega,by omega⟩
  rw[water_cov ha q,Bool.and_eq_true] at hc
  simpa using hc.2
 have hxm:x∈BU cs pins l H:=List.mem_of_getElem? hx
 obtain⟨hjl,hjx⟩:=gE.1 hx
 cases hff:fullF ((BU cs pins l H).take j) q with
 |false=>rfl
 |true=>
  exfalso
  unfold fullF at hff
  rw[List.any_eq_true] at hff
  obtain⟨y,hy,hyq⟩:=hff
  rw[decide_eq_true_eq] at hyq
  obtain⟨i,hi⟩:=List.mem_iff_getElem?.1 hy
  obtain⟨hil,hiy⟩:=gE.1 hi
  rw[List.length_take] at hil
  rw[List.getElem_take] at hiy
  have hym:y∈BU cs pins l H:=List.mem_of_mem_take hy
  cases hp1:De pins y.1 with
  |true=>
   have g1:=hland y hym hp1 hyq.1 hyq.2
   cases hp2:De pins x.1 with
   |false=>
    rw[hsea x hxm hp2 h1 h2] at g1
    cases g1
   |true=>
    obtain⟨a1,a2,-⟩:=hk.each y hym
    obtain⟨b1,b2,-⟩:=hk.each x hxm
    rw[a2 hp1] at hyq
    rw[b2 hp2] at h1
    have hpw:(BU cs pins l H).Pairwise λ a b=>a.1+Cu cs a.1<=b.1:=by
     have:=hr.pw
     rw[<- hf,List.pairwise_map] at this
     exact this
    have:=List.pairwise_iff_getElem.1 hpw i j (by omega) hjl (by omega)
    rw[hiy,hjx] at this
    omega
  |false=>
   have g1:=hsea y hym hp1 hyq.1 hyq.2
   cases hp2:De pins x.1 with
   |true=>
    rw[hland x hxm hp2 h1 h2] at g1
    cases g1
   |false=>
    have:=List.pairwise_iff_getElem.1 hk.pw i j (by omega) hjl (by omega)
    rw[hiy,hjx] at this
    have:=this hp1 hp2
    omega

def LastIs(pin:Nat->Bool)(out:List (Nat×Nat×Nat))(j:Nat)(last:Int):Prop:=
 last=-1\/∃ i y,i<j/\out[i]?=some y/\pin y.1=false/\last=(y.2.1:Int)

theorem LastIs.lt{cs:List Cel}{pins l:List Nat}{H:Nat}{j:Nat}{x:Nat×Nat×Nat}{last:Int}(h:LastIs (De pins) (BU cs pins l H) j last)(ht:Au 0 cs H)(hl:l.Pairwise (· <·))(ho:∀ g∈l,CX cs g)(hx:(BU cs pins l H)[j]?=some x)(hp:De pins x.1=false):last<(x.2.1:Int):=by
 rcases h with rfl|⟨i,y,hij,hy,hpy,rfl⟩
 .omega
 .obtain ⟨hf,hk⟩:=FJ (pins:=pins) ht hl ho
  obtain⟨hjl,hjx⟩:=gE.1 hx
  obtain⟨hil,hiy⟩:=gE.1 hy
  have:=List.pairwise_iff_getElem.1 hk.pw i j hil hjl hij
  rw[hiy,hjx] at this
  have h2:=this hpy hp
  have hs:=hk.each y (List.mem_of_getElem? hy)
  have hm:y.1∈l:=by
   rw[<- hf]
   exact List.mem_map.2 ⟨y,List.mem_of_getElem? hy,rfl⟩
  have:=((rowS_of ht hl ho).mem hm).2.2
  rw[<- hs.1] at this
  omega

end

end Go.Proofs.YtmfajopmppfldaaGreatDoor
