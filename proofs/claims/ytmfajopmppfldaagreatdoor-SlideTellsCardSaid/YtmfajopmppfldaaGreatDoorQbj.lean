/-
  Lemmas for the laws, together: TurnOf, TurnAdr.
-/
import Derived.Test.YtmfajopmppfldaaGreatDoorQaz
import Derived.Test.YtmfajopmppfldaaGreatDoorQbh
import Derived.Test.YtmfajopmppfldaaGreatDoorQba
import Derived.Test.YtmfajopmppfldaaGreatDoorQbi
import Derived.Test.YtmfajopmppfldaaGreatDoorQbd
set_option linter.unusedVariables false
set_option maxHeartbeats 16000000
namespace Go.Proofs.YtmfajopmppfldaaGreatDoor
open Go.Proofs.Tryz
section
open Go.RowKit

theorem SAddrT_at(g:Nat)(w:World)(hg:g<=65536):Calls prog 25 #[.int .i64 (g:Nat)] w λ e w'=>e=.returned (.int .u64 (Dk g:Nat))/\w'=w:=by
 have h0:¬ (g:Int)<0:=by omega
 have hw1:IntKind.u64.wrap (g:Int)=(g:Int):=by rw[IntKind.wrap_u64];omega
 have hw2:IntKind.u64.wrap (2*(g:Int))=2*(g:Int):=by rw[IntKind.wrap_u64];omega
 have hw3:IntKind.u64.wrap (1048576+2*(g:Int))=1048576+2*(g:Int):=by rw[IntKind.wrap_u64];omega
 go_enter func25,ntmps25
 go_wp2
 go_ret
 unfold Dk
 exact⟨by go_num,rfl⟩

def mapA(es:List (Nat×Nat×Nat))(y:Nat):Option Nat:=(es.find? (λ x=>Dk x.1==y)).map λ x=>Dk x.2.1

theorem toA_map(es:List (Nat×Nat×Nat))(y:Nat):(mapA es y).getD 0=toA es y:=by
 unfold toA mapA
 cases es.find? (λ x=>Dk x.1==y) <;> rfl

theorem mapA_snoc(es:List (Nat×Nat×Nat))(x:Nat×Nat×Nat):mapA (es++[x])=if (mapA es (Dk x.1)).isSome then mapA es else λ y=>if y=Dk x.1 then some (Dk x.2.1) else mapA es y:=by
 have hs:∀ y,mapA (es++[x]) y=(mapA es y).or (if y=Dk x.1 then some (Dk x.2.1) else none):=λ y=>by
  unfold mapA
  rw[List.find?_append]
  cases h:es.find? (λ z=>Dk z.1==y) with
  |some z=>rfl
  |none=>
   by_cases e:y=Dk x.1
   .subst e
    simp
   .have:¬ Dk x.1=y:=λ h=>e h.symm
    simp[e,this]
 funext y
 rw[hs y]
 by_cases h:(mapA es (Dk x.1)).isSome
 .rw [if_pos h]
  by_cases e:y=Dk x.1
  .subst e
   obtain⟨z,hz⟩:=Option.isSome_iff_exists.1 h
   rw[hz]
   rfl
  .rw [if_neg e]
   cases mapA es y <;> rfl
 .rw [if_neg h]
  by_cases e:y=Dk x.1
  .subst e
   rw[if_pos rfl,if_pos rfl]
   cases h2:mapA es (Dk x.1) with
   |some z=>rw [h2] at h;exact absurd rfl h
   |none=>rfl
  .rw [if_neg e,if_neg e]
   cases mapA es y <;> rfl

def TOfPost(es:List (Nat×Nat×Nat))(w:World)(e:Ending)(w':World):Prop:=
 ∃ mb n,e=.returned (.agg #[.map (some mb)])/\CJ w' mb n (mapA es)/\w.heap.size<=mb/\Kp Ab w w'

theorem TOf_at(es:List (Nat×Nat×Nat))(v:Value)(w:World)(h:Du w v es)(hl:es.length<=65536)(hs:∀ x∈es,x.1<=65536/\x.2.1<=65536):
  Calls prog 62 #[.agg #[v]] w (TOfPost es w):=by
 have HR:=sE h
 obtain⟨va,vc,rfl,-⟩:=h
 obtain⟨n,hn⟩:∃ n,es.length=n:=⟨_,rfl⟩
 rw[hn] at HR hl ⊢
 have HN:=sE hn
 have HS:=sE hs
 obtain⟨B,hB⟩:∃ B,w.heap.size=B:=⟨_,rfl⟩
 have HB:=sE hB
 obtain⟨w1,hw1⟩:∃ w1,w1=(((w.alloc (.cells #[.slice va n vc] 33)).alloc (.cells #[.map none] 126)).alloc (.map #[] 0)).alloc (.cells #[.map (some (B+2))] 126):=⟨_,rfl⟩
 have z2:((w.alloc (.cells #[.slice va n vc] 33)).alloc (.cells #[.map none] 126)).heap.size=B+2:=by simp[hB]
 have z3:(((w.alloc (.cells #[.slice va n vc] 33)).alloc (.cells #[.map none] 126)).alloc (.map #[] 0)).heap.size=B+3:=by simp[hB]
 have k1:Kp Ab w w1:=by rw[hw1];exact ((((Kr _ w).alloc _).alloc _).alloc _).alloc _
 have A1:CJ w1 (B+2) 0 (mapA []):=by
  rw[hw1]
  have:=CJ.made ((w.alloc (.cells #[.slice va n vc] 33)).alloc (.cells #[.map none] 126))
  rw[z2] at this
  exact this.keep ((Kr Ab _).alloc _) (λ h=>h)
 have b0:w1.heap[B]?=some (.cells #[.slice va n vc] 33 (0,0)):=by
  rw[hw1,<- hB]
  exact((((Kr Ab _).alloc _).alloc _).alloc _).at_ (wN w _) (λ h=>h)
 have b1:w1.heap[B+1]?=some (.cells #[.map none] 126 (0,0)):=by
  rw[hw1]
  have:=wN (w.alloc (.cells #[.slice va n vc] 33)) (.cells #[.map none] 126)
  rw[show (w.alloc (.cells #[.slice va n vc] 33)).heap.size=B+1 by simp[hB]] at this
  exact(((Kr Ab _).alloc _).alloc _).at_ this (λ h=>h)
 have b3:w1.heap[B+3]?=some (.cells #[.map (some (B+2))] 126 (0,0)):=by
  rw[hw1,<- z3]
  exact wN _ _
 have HA1:=sE A1
 have Hb1:=sE b1
 have Hb3:=sE b3
 have HK1:=sE k1
 have c0:=cell_of_one b0
 clear hn hs A1 b0 b1 b3 k1 z2 z3
 have hmm:=@run_makeMap prog
 go_enter func62,ntmps62
 go_wp2_with fail
 clear hmm
 try rw[hB]
 rw[<- hw1]
 clear hw1
 go_loopw [5,6,7,8,14] (λ _ _ _ _ x14 wr=>∃ (j m:Nat),j<=n/\m<=j/\x14=.int .i64 (j:Nat)/\CJ wr (B+2) m (mapA (es.take j))/\wr.heap[B+1]?=some (.cells #[.map none] 126 (0,0))/\wr.heap[B+3]?=some (.cells #[.map (some (B+2))] 126 (0,0))/\Kp Ab w wr) (λ _ _ _ _ x14 _=>n-(intOf x14).toNat)
 case atStart=>exact ⟨0,0,Nat.zero_le _,Nat.le_refl _,rfl,HA1.out,Hb1.out,Hb3.out,HK1.out⟩
 case round=>
  obtain⟨j,m,hj,hm,rfl,hA,hb1,hb3,hk⟩:=hrel
  have HK:=sE hk
  have HA:=sE hA
  have HB1:=sE hb1
  have HB3:=sE hb3
  have l3:=lZ hb3
  by_cases hjl:j<n
  .have hjl':(j:Int)<(n:Int):=by omega
   obtain⟨va',vc',e,hx⟩:=HR.out
   injection e with e1 e3 e2
   clear e3
   subst e1 e2
   obtain⟨x,hxj⟩:∃ x,es[j]?=some x:=⟨_,List.getElem?_eq_getElem (by rw[HN.out];exact hjl)⟩
   obtain⟨bb,o,rfl,hbb,x0,x1,x2⟩:=hx j x hxj
   replace x0:=hk.cell x0 (λ h=>h)
   replace x1:=hk.cell x1 (λ h=>h)
   replace x2:=hk.cell x2 (λ h=>h)
   have hT:=mapA_snoc (es.take j) x
   rw[<- BR hxj] at hT
   have hxs:=HS.out x (List.mem_of_getElem? hxj)
   obtain⟨f,t,z⟩:=x
   simp only at x0 x1 x2 hT hxs
   obtain⟨wa,hwa⟩:∃ wa,wa=wr.alloc (.cells #[.int .i64 (f:Nat),.int .i64 (t:Nat),.int .i64 (z:Nat)] 43):=⟨_,rfl⟩
   have ka:Kp Ab wr wa:=by rw[hwa];exact (Kr _ wr).alloc _
   have ba:wa.heap[wr.heap.size]?=some (.cells #[.int .i64 (f:Nat),.int .i64 (t:Nat),.int .i64 (z:Nat)] 43 (0,0)):=by rw[hwa];exact wN wr _
   obtain⟨y0,y1,y2⟩:=cells3 ba
   have hlf:=SAddrT_at f
   have hg:Dk f<18446744073709551616:=by unfold Dk;omega
   have hgt:Dk t<18446744073709551616:=by unfold Dk;omega
   have Aa:=hA.keep ka (λ h=>h)
   have hlook:=Aa.lookOk hg
   have c3:=cell_of_one (ka.at_ hb3 (λ h=>h))
   have HKA:=sE (hk.then' ka)
   have HAa:=sE Aa
   have Hb1a:=sE (ka.at_ hb1 (λ h=>h))
   have Hb3a:=sE (ka.at_ hb3 (λ h=>h))
   have HSf:Sl (∀ W',Calls prog 25 #[.int .i64 (f:Nat)] W' λ e w'=>e=.returned (.int .u64 (Dk f:Nat))/\w'=W'):=⟨λ W'=>SAddrT_at f W' hxs.1⟩
   have HSt:Sl (∀ W',Calls prog 25 #[.int .i64 (t:Nat)] W' λ e w'=>e=.returned (.int .u64 (Dk t:Nat))/\w'=W'):=⟨λ W'=>SAddrT_at t W' hxs.2⟩
   have hf0:(0:Int)<=(f:Int):=by omega
   have HT:=sE hT
   have HXa:=sE ba
   obtain⟨yf,hyf⟩:∃ yf,Dk f=yf:=⟨_,rfl⟩
   rw[hyf] at hlook hg HT HSf
   have HYf:=sE hyf
   clear hx hxj hk hA hb1 hb3 hT ka ba Aa hlf hyf
   go_upto_region 5 with fail
   rw[<- hwa]
   clear hwa x0 x1 x2
   go_wp2_with fail
   refine(HSf.out _).mono ?_
   rintro e w5 ⟨rfl,rfl⟩
   cases hi:(mapA (es.take j) yf).isSome with
   |true=>
    rw[hi] at hlook HT
    rw[if_pos rfl] at HT
    go_wp2_with fail
    exact⟨⟨j+1,m,by omega,by omega,by go_num,by rw[HT.out];exact HAa.out,Hb1a.out,Hb3a.out,HKA.out⟩,by simp only[intOf];omega⟩
   |false=>
    rw[hi] at hlook HT
    rw[if_neg (by simp)] at HT
    go_wp2_with fail
    refine Co 6 (by kernel_rfl) (by kernel_rfl) ?_
    simp only[List.take_succ_cons,List.take_zero,List.drop_succ_cons,List.drop_zero]
    repeat (go_big_quiet_step (((go_at_call 25;with_reducible refine Calls.quiet_of_same (HSt.out _)))))
    refine wpQuiet_nil ?_
    intro _ hw'
    obtain⟨nq,hw''⟩:=hw'
    subst hw''
    obtain⟨w6,hrun,A6,k6⟩:=(HAa.out.keep (Kp.Aj (S:=Ab) nq) (λ h=>h)).put (by unfold maxLen;omega) hg hgt
    go_wp2_with fail
    have K6:Kp (λ k=>k=B+2) w5 w6:=((Kp.Aj (S:=Ab) nq).Ak _).trans k6 (λ b _ h=>h)
    clear hrun k6
    refine⟨⟨j+1,m+1,by omega,by omega,by go_num,by rw[HT.out];exact A6,K6.at_ Hb1a.out (by omega),K6.at_ Hb3a.out (by omega),(HKA.out.Ak (λ k=>k=B+2)).trans K6 (λ b _ h=>h) |>.mono (λ i hi h=>by have h':i=B+2:=h;have:=HB.out;omega)⟩,by simp only[intOf];omega⟩
  .have hjl':¬ (j:Int)<(n:Int):=by omega
   have c1:=cell_of_one hb1
   have c3:=cell_of_one hb3
   have f1:=free_of_one hb1
   clear hk hA hb1 hb3
   go_wp2_with fail
   have c2:(wr.setCell ⟨B+1,0,none⟩ (.map (some (B+2)))).cell? ⟨B+1,0,none⟩=some (.map (some (B+2))):=World.cell?_setCell_same' _ _ _ (by rw[c1];rfl)
   have ks:Kp (λ k=>k=B+1) wr (wr.setCell ⟨B+1,0,none⟩ (.map (some (B+2)))):=(Kr (λ k=>k=B+1) wr).setCell (λ _=>rfl) _
   refine bodyPost_ret (v:=.agg #[.map (some (B+2))]) (by simp[results,results62,go_sem,c2]) rfl ⟨B+2,m,rfl,?_,by have:=HB.out;omega,(HK.out.Ak _).trans ks (λ b _ h=>h) |>.mono (λ i hi h=>by have h':i=B+1:=h;have:=HB.out;omega)⟩
   have:=HA.out.keep ks (by omega)
   rwa [List.take_of_length_le (by rw[HN.out];omega)] at this

end

section
open Go.RowKit

theorem find_hit'{es:List (Nat×Nat×Nat)}{p:Nat×Nat×Nat->Bool}{j:Nat}{x:Nat×Nat×Nat}(h:(es.take j).find? p=none)(hx:es[j]?=some x)(hg:p x=true):es.find? p=some x:=by
 obtain⟨h1,h2⟩:=gE.1 hx
 have e:es=es.take j++x::es.drop (j+1):=by rw[<- h2,List.getElem_cons_drop h1,List.take_append_drop]
 rw[e,List.find?_append,h,Option.none_or,List.find?_cons_of_pos hg]

theorem find_miss'{es:List (Nat×Nat×Nat)}{p:Nat×Nat×Nat->Bool}{j:Nat}{x:Nat×Nat×Nat}(h:(es.take j).find? p=none)(hx:es[j]?=some x)(hg:p x=false):(es.take (j+1)).find? p=none:=by
 rw[BR hx,List.find?_append,h,Option.none_or,List.find?_cons_of_neg (by simp[hg])]
 rfl

theorem set_one{w:World}{b:Nat}{a:Value}{T:TypeId}(h:w.heap[b]?=some (.cells #[a] T (0,0)))(v:Value):(w.setCell ⟨b,0,none⟩ v).heap[b]?=some (.cells #[v] T (0,0)):=by
 rw[bZ h]
 rfl

end

end Go.Proofs.YtmfajopmppfldaaGreatDoor
