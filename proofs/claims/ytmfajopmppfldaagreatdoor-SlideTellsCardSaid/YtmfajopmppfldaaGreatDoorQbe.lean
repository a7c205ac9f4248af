/-
  Lemmas for the laws, together: Rise, PlanSurv.
-/
import Derived.Lib.SlicesCompact
import Derived.Test.YtmfajopmppfldaaGreatDoorQav
import Derived.Test.YtmfajopmppfldaaGreatDoorQaa
import Derived.Test.YtmfajopmppfldaaGreatDoorShelf
import Derived.Sort.OwnSortedInts
import Derived.Test.YtmfajopmppfldaaGreatDoorQbc
import Derived.Test.YtmfajopmppfldaaGreatDoorQay
set_option linter.unusedVariables false
set_option maxHeartbeats 16000000
namespace Go.Proofs.YtmfajopmppfldaaGreatDoor
open Go.Proofs.Tryz
section
open Go.Lib

theorem EY(s:Array Int)(hs:∀ a b,a<=b->b<s.size->s[a]! <=s[b]!):∀ m,m<=s.size->
  (compactUpTo s m).Pairwise (· <·)/\(∀ x∈compactUpTo s m,∃ j,j<m/\s[j]! =x)/\(∀ j,j<m->s[j]! ∈compactUpTo s m)
 |0,_=>⟨by simp[compactUpTo],by simp[compactUpTo],λ j hj=>by omega⟩
 |m+1,hm=>by
  obtain⟨h1,h2,h3⟩:=EY s hs m (by omega)
  rw[compactUpTo_succ]
  cases hk:keeps s m with
  |false=>
   simp only[Bool.false_eq_true,if_false,List.append_nil]
   refine⟨h1,λ x hx=>?_,λ j hj=>?_⟩
   .obtain ⟨j,a,b⟩:=h2 x hx
    exact⟨j,by omega,b⟩
   .by_cases e:j=m
    .subst e
     have:¬ (j=0\/s[j]! ≠s[j-1]!):=by simpa [keeps] using hk
     have h0:¬ j=0:=λ h=>this (.inl h)
     have he:s[j]! =s[j-1]! :=by
      by_cases h:s[j]! =s[j-1]!
      .exact h
      .exact absurd (.inr h) this
     rw[he]
     exact h3 _ (by omega)
    .exact h3 j (by omega)
  |true=>
   simp only[if_true]
   refine⟨?_,λ x hx=>?_,λ j hj=>?_⟩
   .rw [List.pairwise_append]
    refine⟨h1,by simp,λ x hx y hy=>?_⟩
    simp at hy
    subst hy
    obtain⟨j,a,b⟩:=h2 x hx
    have hk':m=0\/s[m]! ≠s[m-1]! :=by simpa [keeps] using hk
    have h0:¬ m=0:=by omega
    have hne:s[m]! ≠s[m-1]! :=by rcases hk' with h|h;exact absurd h h0;exact h
    have e1:=hs j (m-1) (by omega) (by omega)
    have e2:=hs (m-1) m (by omega) (by omega)
    omega
   .rcases List.mem_append.1 hx with h|h
    .obtain ⟨j,a,b⟩:=h2 x h
     exact⟨j,by omega,b⟩
    .simp at h
     exact⟨m,by omega,h.symm⟩
   .by_cases e:j=m
    .subst e;simp
    .exact List.mem_append_left _ (h3 j (by omega))

def riseL(zs:List Int):List Int:=compact (zs.mergeSort λ x y=>decide (x<=y))

theorem riseL_spec(zs:List Int):(riseL zs).Pairwise (· <·)/\∀ x,x∈riseL zs ↔ x∈zs:=by
 have hp:=List.pairwise_mergeSort (le:=λ x y:Int=>decide (x<=y)) (λ a b c=>by simp;omega) (λ a b=>by simp;omega) zs
 have hperm:=List.mergeSort_perm zs (λ x y:Int=>decide (x<=y))
 unfold riseL
 obtain⟨s,hs⟩:∃ s,zs.mergeSort (λ x y=>decide (x<=y))=s:=⟨_,rfl⟩
 rw[hs] at hp hperm ⊢
 have hm:∀ a b,a<=b->b<s.toArray.size->s.toArray[a]! <=s.toArray[b]! :=λ a b hab hb=>by
  have hb':b<s.length:=by simpa using hb
  rw[getElem!_pos s.toArray a (by simp;omega),getElem!_pos s.toArray b hb]
  by_cases e:a=b
  .subst e;exact Int.le_refl _
  .have:=List.pairwise_iff_getElem.1 hp a b (by omega) hb' (by omega)
   simpa using this
 obtain⟨h1,h2,h3⟩:=EY s.toArray hm s.length (by simp)
 refine⟨h1,λ x=>?_⟩
 rw[<- hperm.mem_iff]
 constructor
 .intro hx
  obtain⟨j,a,b⟩:=h2 x hx
  rw[getElem!_pos s.toArray j (by simpa using a)] at b
  rw[<- b]
  simp
 .intro hx
  obtain⟨j,a,b⟩:=List.getElem_of_mem hx
  have:=h3 j a
  rw[getElem!_pos s.toArray j (by simpa using a)] at this
  rw[<- b]
  exact this

theorem riseL_len(zs:List Int):(riseL zs).length<=zs.length:=by
 have h:(riseL zs).length<=(zs.mergeSort λ x y=>decide (x<=y)).length:=by
  unfold riseL compact compactUpTo
  rw[List.length_map]
  exact Nat.le_trans (List.length_filter_le _ _) (by simp)
 simpa using h

open Go.RowKit Go.Sort

theorem Kp.of_grownBy{w w':World}{b:Nat}(h:w.grownBy w' (some b)):Kp (λ k=>k=b) w w':=
 (Kr (λ k=>k=b) w).grown h (λ k e _=>by injection e with e;exact e.symm)

theorem Sort_row(base:Nat)(v:Value)(zs:List Int)(w:World)(ho:w.ownsRow base 3 1 v zs.length (intVs zs))(hl:zs.length<=4611686018427387903):
  Calls prog 78 #[v] w λ e w'=>e=.returned (.tuple #[])/\w'.ownsRow base 3 1 v zs.length (intVs (zs.mergeSort λ x y=>decide (x<=y)))/\Kp (λ k=>v.ownBlock=some k) w w':=by
 rcases ho.2 with ⟨rfl,h0⟩|⟨b,cap,cur,rfl,h2,h3,h4,h5,h6,h7⟩
 .rw [h0]
  refine(slices_Sort_int_none none 0 w).mono ?_
  rintro e w' ⟨rfl,rfl⟩
  obtain rfl:zs=[]:=List.length_eq_zero_iff.1 h0
  exact⟨rfl,⟨by simp[intVs],.inl ⟨rfl,rfl⟩⟩,Kr _ _⟩
 .rw [Nat.mul_one] at h7
  refine(slices_Sort_int b 0 cap zs w (holds_of_blockI h3 h7) (Array.getElem?_eq_some_iff.1 h3).1 (by omega)).mono ?_
  rintro e w' ⟨rfl,n,os,rfl⟩
  refine⟨rfl,ownsRow_sortedI (by simp) h2 h3 h4 h5 h6,(Kp.of_grownBy (grownBy_sortedI _)).mono λ i _ h=>by subst h;rfl⟩

theorem Compact_row(base:Nat)(v:Value)(zs:List Int)(w:World)(ho:w.ownsRow base 3 1 v zs.length (intVs zs))(hl:zs.length<=4611686018427387903):
  Calls prog 139 #[v] w λ e w'=>∃ v',e=.returned v'/\w'.ownsRow base 3 1 v' (Lib.compact zs).length (intVs (Lib.compact zs))/\v'.ownBlock=v.ownBlock/\Kp (λ k=>v.ownBlock=some k) w w':=by
 rcases ho.2 with ⟨rfl,h0⟩|⟨b,cap,cur,rfl,h2,h3,h4,h5,h6,h7⟩
 .refine (slices_Compact_int_empty none 0 w).mono ?_
  rintro e w' ⟨rfl,rfl⟩
  obtain rfl:zs=[]:=List.length_eq_zero_iff.1 h0
  exact⟨_,rfl,⟨by simp[intVs],.inl ⟨rfl,rfl⟩⟩,rfl,Kr _ _⟩
 .rw [Nat.mul_one] at h7
  have hc:(Lib.compact zs).length<=zs.length:=by
   unfold Lib.compact Lib.compactUpTo
   rw[List.length_map]
   exact Nat.le_trans (List.length_filter_le _ _) (by simp)
  refine(slices_Compact_int b 0 cap zs w (holds_of_blockI h3 h7) (by omega) h4).mono ?_
  rintro e w' ⟨rfl,q,rfl⟩
  obtain⟨ts,hts⟩:∃ ts,Lib.compact zs++List.replicate (zs.length-(Lib.compact zs).length) 0=ts:=⟨_,rfl⟩
  have hlt:ts.length=zs.length:=by rw[<- hts];simp;omega
  rw[hts]
  have hg:=heap_sortedI (n:=q) (os:=#[]) ts.toArray h3
  have hgb:=grownBy_sortedI (w:=w) (g:=b) (n:=q) (os:=#[]) ts.toArray
  rw[grow_empty] at hg hgb
  refine⟨_,rfl,⟨by simp[intVs],.inr ⟨b,cap,_,rfl,h2,hg,by omega,h5,by simp[putCells,h6],?_⟩⟩,rfl,(Kp.of_grownBy hgb).mono λ i _ h=>by subst h;rfl⟩
  have ht:=take_putCellsI cur ts (by omega)
  have h8:=congrArg (List.take (Lib.compact zs).length) ht
  rw[List.take_take,Nat.min_eq_left (by omega),<- List.map_take,<- hts,List.take_left' rfl] at h8
  rw[Nat.mul_one,hts] at*
  rw[<- hts] at h8 ⊢
  exact h8

end

section
open Go.RowKit

def BQ(xs:List Nat):List Nat:=(riseL (xs.map λ(n:Nat)=>(n:Int))).map Int.toNat

theorem riseN_cast(xs:List Nat):(BQ xs).map (λ (n:Nat)=>(n:Int))=riseL (xs.map λ(n:Nat)=>(n:Int)):=by
 unfold BQ
 rw[List.map_map]
 refine(List.map_congr_left λ x hx=>?_).trans (List.map_id _)
 obtain⟨n,-,rfl⟩:=List.mem_map.1 (((riseL_spec _).2 x).1 hx)
 rfl

theorem natVs_cast(xs:List Nat):AB xs=intVs (xs.map λ(n:Nat)=>(n:Int)):=by
 unfold AB intVs
 rw[List.map_map]
 rfl

theorem EZ(xs:List Nat):(BQ xs).Pairwise (· <·):=by
 have h:=(riseL_spec (xs.map λ(n:Nat)=>(n:Int))).1
 rw[<- riseN_cast,List.pairwise_map] at h
 exact h.imp λ h=>by omega

theorem Eg{xs:List Nat}{g:Nat}:g∈BQ xs ↔ g∈xs:=by
 have h:=(riseL_spec (xs.map λ(n:Nat)=>(n:Int))).2 (g:Int)
 rw[<- riseN_cast] at h
 constructor
 .intro hg
  obtain⟨n,hn,e⟩:=List.mem_map.1 (h.1 (List.mem_map.2 ⟨g,hg,rfl⟩))
  have:n=g:=by omega
  rw[<- this]
  exact hn
 .intro hg
  obtain⟨n,hn,e⟩:=List.mem_map.1 (h.2 (List.mem_map.2 ⟨g,hg,rfl⟩))
  have:n=g:=by omega
  rw[<- this]
  exact hn

theorem up_len:∀ {l:List Nat} {e H:Nat},l.Pairwise (· <·)->(∀ g∈l,e<=g/\g<H)->l.length<=H-e
 |[],e,H,_,_=>Nat.zero_le _
 |u::us,e,H,hp,h=>by
  obtain⟨p1,p2⟩:=List.pairwise_cons.1 hp
  have h1:=h u List.mem_cons_self
  have:=up_len (e:=u+1) (H:=H) p2 λ g hg=>⟨p1 g hg,(h g (List.mem_cons_of_mem _ hg)).2⟩
  simp only[List.length_cons]
  omega

theorem setL_next{f:Nat->Bool}{j:Nat}:∀ {k:Nat},j<=k->(∀ t,j<=t->t<k->f t=false)->DZ f k=DZ f j
 |0,h,_=>by rw[Nat.le_zero.1 h]
 |k+1,h,hf=>by
  by_cases e:j=k+1
  .rw [e]
  .rw [setL_succ,hf k (by omega) (by omega),if_neg (by simp),List.append_nil]
   exact setL_next (by omega) λ t h1 h2=>hf t h1 (by omega)

theorem mem_setL{f:Nat->Bool}{n g:Nat}:g∈DZ f n ↔ g<n/\f g=true:=by
 unfold DZ
 rw[List.mem_filter,List.mem_range]

def leftB(n:Nat)(a b:Value):Nat:=
 match b with
 |.bool true=>n+1-(intOf a).toNat
 |_=>0

def SurvPost(xs:List Nat)(w:World)(e:Ending)(w':World):Prop:=
 ∃ a c,e=.returned (.tuple #[.slice a (BQ xs).length c,.int .i64 0])/\w'.ownsRow w.heap.size 3 1 (.slice a (BQ xs).length c) (BQ xs).length (AB (BQ xs))/\Kp Ab w w'

set_option maxRecDepth 20000 in
theorem Surv_at(P:Sp)(W:Nat->Nat)(f:Nat->Bool)(cs:List Cel)(w:World)(mp mq:Nat)(fm:Nat->Bool)(pins:List Nat)(v:Value)(hsp:SpaceAt w P W f)(hc:CellsAt P W cs)(hst:∀ i,i<P.n/2->f i=Aq cs i)(hb:AJ w mp mq fm (P.n/2))(hm:∀ g,g<P.n/2->fm g=true->CX cs g)(hv:Bw w v pins)(ho:∀ g∈pins,CX cs g)(hl:pins.length<=65536):
  Calls prog 93 #[.pointer (some ⟨P.s,0,none⟩),.pointer (some ⟨mp,0,none⟩),v] w (SurvPost (DZ fm (P.n/2)++pins) w):=by
 have hsm:=hsp.ar.small
 have HSt:=sE (Fz P W f w hsp)
 obtain⟨H,hH⟩:∃ H,P.n/2=H:=⟨_,rfl⟩
 rw[hH] at hb hm HSt hst ⊢
 have HHs:Sl (∀ W' p q g,AJ W' p q f H->CX cs g->Calls prog 58 #[.pointer (some ⟨p,0,none⟩),.int .i64 (g:Nat)] W' λ e w'=>e=.returned (.bool true)/\Kp Ab W' w'):=⟨λ W' p q g hb' ho'=>by
  obtain⟨c,hcm,h1,rfl⟩:=ho'
  have hlt:=hc.tl.mem hcm
  have:=Has_in c.g H p q f W' hb' (by omega)
  rw[hst c.g (by omega),objG_start.1 ⟨c,hcm,h1,rfl⟩] at this
  exact this⟩
 have HO:Sl (∀ g∈DZ fm H++pins,CX cs g):=⟨λ g hg=>by
  rcases List.mem_append.1 hg with h|h
  .obtain ⟨a,b⟩:=mem_setL.1 h
   exact hm g a b
  .exact ho g h⟩
 have HNx:Sl (∀ W' (i:Nat),Kp Ab w W'->Calls prog 138 #[.pointer (some ⟨mp,0,none⟩),.int .i64 (i:Nat)] W' λ e w'=>e=.returned (optV (C9 fm H i))/\Kp Ab W' w'):=⟨λ W' i kk=>by
  have:=Next_at (i:Int) H mp mq fm W' (hb.keep kk (λ h=>h) (λ h=>h))
  rw[Int.toNat_natCast] at this
  exact this⟩
 have HV:=sE hv
 obtain⟨va,vc,rfl,-⟩:=hv
 obtain⟨X,hX⟩:∃ X,DZ fm H++pins=X:=⟨_,rfl⟩
 have HX:=sE hX
 rw[hX] at HO ⊢
 clear hX
 obtain⟨n,hn⟩:∃ n,pins.length=n:=⟨_,rfl⟩
 rw[hn] at HV hl ⊢
 have HN:=sE hn
 have hH2:H<=32768:=by omega
 clear hsp hc hst hb hm ho hH hn hsm
 go_enter func93,ntmps93
 go_wp2_with fail
 refine HSt.out.mono ?_
 rintro e w2 ⟨p,q,rfl,hp,hq,hbits,k2⟩
 have HB2:=sE hbits
 have HK2:=sE k2
 clear hbits k2 HSt hp hq
 go_wp2_with fail
 refine(HNx.out w2 0 HK2.out).mono ?_
 rintro e w3 ⟨rfl,k3⟩
 have HK3:Sl (Kp Ab w w3):=⟨HK2.out.then' k3⟩
 have HB3:Sl (AJ w3 p q f H):=⟨HB2.out.keep k3 (λ h=>h) (λ h=>h)⟩
 clear k3
 have hzw:=HK3.out.size
 have HNb:Sl (∀ j,(∃ k,C9 fm H j=some k/\j<=k/\k<H/\fm k=true/\∀ t,j<=t->t<k->fm t=false)\/(C9 fm H j=none/\∀ t,j<=t->t<H->fm t=false)):=⟨λ j=>nextB_spec fm H j⟩
 obtain⟨y9,y10,hy,hyv⟩:∃ y9 y10:Value,optV (C9 fm H 0)=.tuple #[y9,y10]/\((∃ k,C9 fm H 0=some k/\y9=.int .i64 (k:Nat)/\y10=.bool true)\/(C9 fm H 0=none/\y9=.int .i64 0/\y10=.bool false)):=by
  cases C9 fm H 0 with
  |none=>exact ⟨_,_,rfl,.inr ⟨rfl,rfl,rfl⟩⟩
  |some k=>exact ⟨_,_,rfl,.inl ⟨k,rfl,rfl,rfl⟩⟩
 rw[hy]
 have HYv:=sE hyv
 clear hy hyv
 go_wp2_with fail
 go_loopw [6,9,10] (λ x6 x9 x10 wr=>∃ j:Nat,j<=H/\((∃ k,C9 fm H j=some k/\x9=.int .i64 (k:Nat)/\x10=.bool true)\/(C9 fm H j=none/\x9=.int .i64 0/\x10=.bool false))/\wr.ownsRow w3.heap.size 3 1 x6 (DZ fm j).length (AB (DZ fm j))/\Kp Ab w3 wr) (λ _ x9 x10 _=>leftB H x9 x10)
 case atStart=>exact ⟨0,Nat.zero_le _,HYv.out,World.ownsRow_nil _ _ _ _,Kr _ _⟩
 case round=>
  obtain⟨j,hj,hy,ho,hk⟩:=hrel
  have HO1:=sE ho
  have HK:=sE hk
  have hzr:=hk.size
  have hsl:=setL_len fm j
  clear ho hk
  rcases hy with ⟨k,hn,rfl,rfl⟩|⟨hn,rfl,rfl⟩
  .rcases HNb.out j with ⟨k',e1,hjk,hkH,hfk,hno⟩|⟨e1,-⟩
   .rw [hn] at e1
    injection e1 with e1
    subst e1
    have hSe:DZ fm (k+1)=DZ fm j++[k]:=by rw[setL_succ,if_pos hfk,setL_next hjk hno]
    have HSe:=sE hSe
    obtain⟨Q,hQ⟩:∃ Q,DZ fm j=Q:=⟨_,rfl⟩
    obtain⟨ql,hql⟩:∃ ql,Q.length=ql:=⟨_,rfl⟩
    rw[hQ] at HSe HO1 hsl
    rw[hql] at HO1 hsl
    have HQl:=sE hql
    obtain⟨qa,qc,rfl⟩:=AA HO1.out
    have u1:IntKind.i64.wrap ((k:Int)+1)=((k+1:Nat):Int):=by rw[IntKind.wrap_i64];omega
    clear hn hno hfk hSe hQ hql
    go_wp2_with (at_builtin;obtain ⟨i0,hi,hz0,hz1,hz2⟩:=info_parts Cv;go_loud (refine wpList_append_lies _ rfl (.tmp 28) (.tmp 30) 82 rfl w3.heap.size 3 i0 _ 1 8 AP hi hz0 hz1 hz2 rfl (by omega) (.slice qa ql qc) ql (AB Q) rfl (HO1.out.alloc _) ⟨wr.heap.size,0,none⟩ 1 1 [.int .i64 (k:Nat)] rfl rfl (World.news_of_block (wN wr _)) (by intro u hu;simp at hu;subst hu;rfl) (by omega) (by unfold maxLen;omega) (by omega) (by first|(simp;done)|(simp;omega)) (wr.heap.size+1) (by simp) ?_);intro gn capn w5 hown5 hgrow hat hlt;clear hi hz0 hz1 hz2;have HGw:=sE hgrow;have HR5:=sE hown5;clear hown5 hgrow hat hlt)
    have k5:Kp Ab w3 w5:=(HK.out.alloc _).grown HGw.out (λ k e hk=>by have:=(Af HO1.out e).1;omega)
    have HK5:=sE k5
    clear k5
    refine(HNx.out w5 (k+1) (HK3.out.then' HK5.out)).mono ?_
    rintro e w6 ⟨rfl,k6⟩
    have HK6:=sE (HK5.out.then' k6)
    have HR6:=sE (Ai HR5.out k6 (λ _ _ h=>h))
    clear k6
    have hlb:∀ (x y:Value),((∃ k',C9 fm H (k+1)=some k'/\x=.int .i64 (k':Nat)/\y=.bool true)\/(C9 fm H (k+1)=none/\x=.int .i64 0/\y=.bool false))->leftB H x y<leftB H (.int .i64 (k:Nat)) (.bool true):=λ x y h=>by
     rcases h with ⟨k',h1,rfl,rfl⟩|⟨h1,rfl,rfl⟩
     .rcases HNb.out (k+1) with ⟨k2,e1,h3,h4,-⟩|⟨e1,-⟩
      .rw [h1] at e1
       injection e1 with e1
       subst e1
       simp only[leftB,intOf]
       omega
      .rw [h1] at e1
       cases e1
     .simp only[leftB,intOf]
      omega
    obtain⟨y9',y10',hy',hyv'⟩:∃ y9 y10:Value,optV (C9 fm H (k+1))=.tuple #[y9,y10]/\((∃ k',C9 fm H (k+1)=some k'/\y9=.int .i64 (k':Nat)/\y10=.bool true)\/(C9 fm H (k+1)=none/\y9=.int .i64 0/\y10=.bool false)):=by
     cases C9 fm H (k+1) with
     |none=>exact ⟨_,_,rfl,.inr ⟨rfl,rfl,rfl⟩⟩
     |some k=>exact ⟨_,_,rfl,.inl ⟨k,rfl,rfl,rfl⟩⟩
    rw[hy']
    have HYv':=sE hyv'
    have HLb:=sE (hlb _ _ hyv')
    clear hy' hyv' hlb
    go_wp2_with fail
    refine⟨⟨k+1,by omega,HYv'.out,?_,HK6.out⟩,HLb.out⟩
    rw[HSe.out,AB,List.map_append,List.length_append,HQl.out]
    exact HR6.out
   .rw [hn] at e1
    cases e1
  .have hSe:DZ fm H=DZ fm j:=by
    rcases HNb.out j with ⟨k',e1,-⟩|⟨-,e2⟩
    .rw [hn] at e1
     cases e1
    .exact setL_next hj e2
   have HSe:=sE hSe
   obtain⟨Q,hQ⟩:∃ Q,DZ fm H=Q:=⟨_,rfl⟩
   have hQl:Q.length<=32768:=by
    rw[<- hQ]
    have:=setL_len fm H
    omega
   rw[hQ] at HX HSe
   rw[<- HSe.out] at HO1
   obtain⟨ql,hql⟩:∃ ql,Q.length=ql:=⟨_,rfl⟩
   rw[hql] at HO1 hQl
   have HQl:=sE hql
   obtain⟨qa,qc,rfl⟩:=AA HO1.out
   have HVr:=sE (HV.out.Ad (HK3.out.then' HK.out))
   clear hn hSe hQ hql HNb HYv HNx hsl
   go_wp2_with (at_builtin;obtain ⟨i0,hi,hz0,hz1,hz2⟩:=info_parts Cv;go_loud (refine Dy _ rfl (.tmp 32) (.tmp 33) 82 rfl 3 i0 AP hi hz0 hz1 hz2 w3.heap.size (.slice qa ql qc) ql Q rfl HO1.out (.slice va n vc) pins rfl HVr.out (by rw[HN.out];omega) hzr ?_);intro v11 w11 hown11 hgrow11;obtain ⟨tot,htot⟩:∃ tot,ql+pins.length=tot:=⟨_,rfl⟩;rw [htot] at hown11;obtain ⟨a11,c11,rfl⟩:=AA hown11;have HTot:=sE htot;clear htot;have HO11:=sE hown11;have HG11:=sE hgrow11;clear hi hz0 hz1 hz2 hown11 hgrow11)
   have k11:Kp Ab w3 w11:=HK.out.grown HG11.out (λ k e hk=>by have:=(Af HO1.out e).1;omega)
   have HK11:=sE k11
   have HB11:Sl (AJ w11 p q f H):=⟨HB3.out.keep k11 (λ h=>h) (λ h=>h)⟩
   have htb:tot<=98304:=by have:=HTot.out;rw [HN.out] at this;omega
   have hXl:X.length=tot:=by rw[<- HX.out,List.length_append,HQl.out,HTot.out]
   have HXl:=sE hXl
   rw[HX.out] at HO11
   clear k11 hXl HG11 HO1 HVr HB3
   go_wp2_with fail
   go_loopw [6,37] (λ x6 x37 wr=>∃ i:Nat,i<=tot/\x37=.int .i64 (i:Nat)/\x6=.slice a11 tot c11/\Kp Ab w11 wr) (λ _ x37 _=>tot-(intOf x37).toNat)
   case atStart=>exact ⟨0,Nat.zero_le _,rfl,rfl,Kr _ _⟩
   case round=>
    obtain⟨i,hi,rfl,rfl,hk⟩:=hrel
    have HKi:=sE hk
    have HOi:=sE (Ai HO11.out hk (λ _ _ h=>h))
    have HHi:Sl (∀ g∈X,Calls prog 58 #[.pointer (some ⟨p,0,none⟩),.int .i64 (g:Nat)] wr λ e w'=>e=.returned (.bool true)/\Kp Ab wr w'):=⟨λ g hg=>HHs.out wr p q g (HB11.out.keep hk (λ h=>h) (λ h=>h)) (HO.out g hg)⟩
    clear hk
    by_cases hil:i<tot
    .have hil':(i:Int)<(tot:Int):=by omega
     obtain⟨g,hg⟩:∃ g,X[i]?=some g:=⟨_,List.getElem?_eq_getElem (by rw[HXl.out];exact hil)⟩
     obtain⟨bb,hbb,x0⟩:=Ce HOi.out hg
     subst hbb
     have HHg:=sE (HHi.out g (List.mem_of_getElem? hg))
     clear hg HHi
     go_wp2_with fail
     refine HHg.out.mono ?_
     rintro e w12 ⟨rfl,k12⟩
     have HK12:=sE (HKi.out.then' k12)
     clear k12
     go_wp2_with fail
     exact⟨⟨i+1,by omega,by go_num,rfl,HK12.out⟩,by simp only[intOf];omega⟩
    .have hcl:(X.map λ(n:Nat)=>(n:Int)).length=tot:=by rw[List.length_map,HXl.out]
     have HSo:=sE (Sort_row w3.heap.size (.slice a11 tot c11) (X.map λ(n:Nat)=>(n:Int)) wr (by rw[hcl,<- natVs_cast];exact HOi.out) (by rw[hcl];omega))
     rw[hcl] at HSo
     have hob:∀ b,(Value.slice a11 tot c11).ownBlock=some b->w3.heap.size<=b:=λ b h=>(Af HOi.out h).1
     have HOb:=sE hob
     clear hcl hob HHi
     go_wp2_with fail
     with_reducible refine HSo.out.mono ?_
     rintro e w13 ⟨rfl,o13,k13⟩
     have HCo:=sE (Compact_row w3.heap.size (.slice a11 tot c11) _ w13 (by rw[List.length_mergeSort,List.length_map,HXl.out];exact o13) (by rw[List.length_mergeSort,List.length_map,HXl.out];omega))
     have HK13:=sE k13
     clear o13 k13 HSo
     go_wp2_with fail
     with_reducible refine HCo.out.mono ?_
     rintro e w14 ⟨v',rfl,o14,-,k14⟩
     have hre:Lib.compact ((X.map λ(n:Nat)=>(n:Int)).mergeSort λ x y=>decide (x<=y))=(BQ X).map (λ (n:Nat)=>(n:Int)):=(riseN_cast X).symm
     rw[hre,List.length_map,<- natVs_cast] at o14
     obtain⟨ra,rc,rfl⟩:=AA o14
     have hend:Kp Ab w w14:=(((((HK3.out.then' HK11.out).then' HKi.out).Ak _).trans HK13.out (λ _ _ h=>h)).trans k14 (λ _ _ h=>h)).mono (λ c hc h=>by have:=HOb.out c h;omega)
     have HE:=sE hend
     have HOe:=sE (Bp o14 (base':=w.heap.size) (by omega))
     clear hre o14 k14 hend HCo
     go_wp2_with fail
     exact bodyPost_ret (v:=.tuple #[.slice ra (BQ X).length rc,.int .i64 0]) (by simp[results,results93,go_sem]) rfl ⟨ra,rc,rfl,HOe.out,HE.out⟩

end

end Go.Proofs.YtmfajopmppfldaaGreatDoor
