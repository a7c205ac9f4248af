/-
  Lemmas for the laws, together: WalkCheck.
-/
import Derived.Test.YtfkedlgpgmaemaaGreatDoorQaz
import Derived.Maps.OwnIn
import Derived.Sort.CutIn
import Derived.Test.YtfkedlgpgmaemaaGreatDoorQba
set_option linter.unusedVariables false
set_option maxHeartbeats 16000000
namespace Go.Proofs.YtfkedlgpgmaemaaGreatDoor
open Tryz
section
open Go.RowKit
attribute [local go_sem] Oper.semAt_some

end

section
open Go.RowKit

theorem run_eq_edge(a b c a' b' c':Int)(w:World):(Op.equalIn 10000 70 (.agg #[.int .i64 a,.int .i64 b,.int .i64 c]) (.agg #[.int .i64 a',.int .i64 b',.int .i64 c'])).run prog w=.ok (a==a'&&(b==b'&&c==c')) w:=by
 have u3:=underlying3
 have a3:=isAgg3
 have z3:=sizeOf3
 have hS:prog.underlying 70=some (.struct (prog.fieldsOf 70)):=by kernel_rfl
 rw[show (10000:Nat)=9999+1 from rfl,run_equalIn_agg w 9999 70 _ _ hS (by kernel_rfl)]
 simp only[Program.fieldsOf,underlying70]
 go_simp
 by_cases h0:a=a' <;> by_cases h1:b=b' <;> by_cases h2:c=c' <;> simp[h0,h1,h2]

theorem run_neq_edge(a b c a' b' c':Int)(w:World):(binOp .neq 70 (.agg #[.int .i64 a,.int .i64 b,.int .i64 c]) (.agg #[.int .i64 a',.int .i64 b',.int .i64 c'])).run prog w=.ok (.bool (!(a==a'&&(b==b'&&c==c')))) w:=by
 rw[run_neq_struct,run_eq_edge];rfl

section

end

section

attribute [local go_sem ↓] run_neq_edge

end

end

section
open Go.RowKit

def cN(t:Nat):List Cel->Nat
 |[]=>0
 |c::cs=>(if c.tag=t then 1 else 0)+cN t cs

def cS(t:Nat):List Cel->Nat
 |[]=>0
 |c::cs=>(if c.tag=t then c.sz else 0)+cS t cs

theorem cN_app(t:Nat):∀ (xs ys:List Cel),cN t (xs++ys)=cN t xs+cN t ys
 |[],ys=>by simp[cN]
 |x::xs,ys=>by simp[cN,cN_app t xs ys];omega

theorem cS_app(t:Nat):∀ (xs ys:List Cel),cS t (xs++ys)=cS t xs+cS t ys
 |[],ys=>by simp[cS]
 |x::xs,ys=>by simp[cS,cS_app t xs ys];omega

theorem cN_take{t:Nat}{cs:List Cel}{j:Nat}{x:Cel}(h:cs[j]?=some x):cN t (cs.take (j+1))=cN t (cs.take j)+(if x.tag=t then 1 else 0):=by
 rw[List.take_add_one,h,cN_app]
 simp[cN]

theorem cS_take{t:Nat}{cs:List Cel}{j:Nat}{x:Cel}(h:cs[j]?=some x):cS t (cs.take (j+1))=cS t (cs.take j)+(if x.tag=t then x.sz else 0):=by
 rw[List.take_add_one,h,cS_app]
 simp[cS]

theorem cN_le(t:Nat):∀ (cs:List Cel),cN t cs<=cs.length
 |[]=>Nat.le_refl _
 |c::cs=>by
  have:=cN_le t cs
  simp only[cN,List.length_cons]
  split <;> omega

theorem cS_le(t:Nat):∀ {cs:List Cel} {a b:Nat},AB a cs b->cS t cs<=b-a
 |[],a,b,h=>Nat.zero_le _
 |c::cs,a,b,⟨h1,h2,h3⟩=>by
  have:=cS_le t h3
  have:=h3.le
  simp only[cS]
  split <;> omega

theorem cN_objs:∀ (cs:List Cel),(Ak cs).length=cN 1 cs
 |[]=>rfl
 |c::cs=>by
  have h:=cN_objs cs
  unfold Ak at h ⊢
  by_cases e:c.tag=1
  .rw [List.filter_cons_of_pos (by simpa using e)]
   simp only[List.length_cons,cN,if_pos e,h]
   omega
  .rw [List.filter_cons_of_neg (by simpa using e)]
   simp only[cN,if_neg e,h]
   omega

theorem tags_ok{ts:List TypR}{c:Cel}(h:CY ts c):c.tag=1\/c.tag=2\/c.tag=3:=by
 have:=h.1
 unfold Al at this
 rw[decide_eq_true_eq] at this
 omega

theorem cells6g{w:World}{b:Nat}{a0 a1 a2 a3 a4 a5:Value}{T:TypeId}(hb:w.heap[b]?=some (.cells #[a0,a1,a2,a3,a4,a5] T (0,0))):
  w.cell? ⟨b,0,none⟩=some a0/\w.cell? ⟨b,1,none⟩=some a1/\w.cell? ⟨b,2,none⟩=some a2/\w.cell? ⟨b,3,none⟩=some a3/\w.cell? ⟨b,4,none⟩=some a4/\w.cell? ⟨b,5,none⟩=some a5:=by
 refine⟨?_,?_,?_,?_,?_,?_⟩ <;> simp only[World.cell?,hb] <;> rfl

theorem Kp.newW{w w':World}(h:Kp (λ k=>w.heap.size<=k) w w'):Kp Aa w w':=h.mono (λ i hi hp=>by omega)

def TlyAt(w:World)(b:Nat)(cs:List Cel):Prop:=
 w.heap[b]?=some (.cells #[.int .i64 (cN 1 cs:Nat),.int .i64 (cN 2 cs:Nat),.int .i64 (cN 3 cs:Nat),.int .i64 (cS 1 cs:Nat),.int .i64 (cS 3 cs:Nat),.int .i64 (cS 2 cs:Nat)] 84 (0,0))

set_option maxRecDepth 20000 in
theorem Count_at(P:Sp)(cs:List Cel)(w:World)(h:Cf w P cs):
  Calls prog 34 #[.pointer (some ⟨P.s,0,none⟩)] w λ e w'=>e=.returned (.agg #[.int .i64 (cN 1 cs:Nat),.int .i64 (cN 2 cs:Nat),.int .i64 (cN 3 cs:Nat),.int .i64 (cS 1 cs:Nat),.int .i64 (cS 3 cs:Nat),.int .i64 (cS 2 cs:Nat)])/\Kp Aa w w':=by
 have HH:=sE h
 obtain⟨W0,f0,hsp,hcs,-⟩:=h
 have hn:=hsp.ar.small
 have htl:=hcs.tl
 have htg:∀ c∈cs,c.tag=1\/c.tag=2\/c.tag=3:=λ c hc=>tags_ok (hcs.ok c hc)
 have hlen:cs.length<=32768:=by have:=BP htl;omega
 have HTg:=sE htg
 have HTl:=sE htl
 clear hsp hcs htg htl
 obtain⟨w1,hw1⟩:∃ w1,w1=w.alloc (.cells #[.int .i64 0,.int .i64 0,.int .i64 0,.int .i64 0,.int .i64 0,.int .i64 0] 84):=⟨_,rfl⟩
 have k1:Kp Aa w w1:=by rw[hw1];exact (Kr _ w).alloc _
 have b1:TlyAt w1 w.heap.size []:=by rw[hw1];exact wN w _
 have HC:=sE (Cells_at P cs w1 (HH.out.Ad k1))
 have HT1:=sE b1
 have HK1:=sE k1
 clear k1 b1
 go_enter func34,ntmps34
 go_wp2_with fail
 rw[<- hw1]
 clear hw1
 refine HC.out.mono ?_
 rintro e wl ⟨v,rfl,hown,kl⟩
 have HRow:=sE (RowC.Be hown)
 obtain⟨va,vc,rfl,-⟩:=HRow.out
 obtain⟨L,hL⟩:∃ L,cs.length=L:=⟨_,rfl⟩
 rw[hL] at HRow hlen ⊢
 have HLn:=sE hL
 have HTl1:=sE ((show TlyAt wl w.heap.size [] from kl.at_ HT1.out (λ h=>h)))
 have HKl:=sE (HK1.out.then' kl)
 obtain⟨B,hB⟩:∃ B,w.heap.size=B:=⟨_,rfl⟩
 rw[hB] at HTl1
 have hrb:∀ b,va=some ⟨b,0,none⟩->0<L->¬ b=B:=λ b hb hL0=>by
  have h2:=hown
  rw[hL] at h2
  subst hb
  have:=(Ae h2 (b:=b) rfl).1
  have:=HK1.out.size
  have h3:=lZ HT1.out
  omega
 have HRb:=sE hrb
 clear hown kl hL hrb
 go_wp2_with fail
 try rw[hB]
 go_loopw [8] (λ y wr=>∃ j:Nat,j<=L/\y=.int .i64 (j:Nat)/\TlyAt wr B (cs.take j)/\Kp (λ k=>k=B) wl wr) (λ y _=>L-(intOf y).toNat)
 case atStart=>exact ⟨0,Nat.zero_le _,rfl,HTl1.out,Kr _ _⟩
 case round=>
  obtain⟨j,hj,rfl,ht,hk⟩:=hrel
  have HK:=sE hk
  have HT:=sE ht
  by_cases hjl:j<L
  .have hjl':(j:Int)<(L:Int):=by omega
   obtain⟨x,hx⟩:∃ x,cs[j]?=some x:=⟨cs[j]'(by rw[HLn.out];exact hjl),by simp⟩
   obtain⟨va',vc',hva,hcells⟩:=HRow.out
   injection hva with e1 e2 e3
   subst e1
   obtain⟨b,hab,hbl,x0,x1,x2,x3,x4⟩:=hcells j x hx
   have hnb:=HRb.out b hab (by omega)
   subst hab
   replace x0:=hk.cell x0 hnb
   replace x1:=hk.cell x1 hnb
   replace x2:=hk.cell x2 hnb
   replace x3:=hk.cell x3 hnb
   replace x4:=hk.cell x4 hnb
   have hO:∀ w:World,Kp Aa w (w.alloc (.cells #[.int .i64 (x.g:Nat),.int .u8 (x.tag:Nat),.int .i64 (x.ty:Nat),.int .i64 (x.ln:Nat),.int .i64 (x.sz:Nat)] 113)):=λ w=>(Kr _ w).alloc _
   have HKA:=sE (hO wr)
   have bn:=wN wr (.cells #[.int .i64 (x.g:Nat),.int .u8 (x.tag:Nat),.int .i64 (x.ty:Nat),.int .i64 (x.ln:Nat),.int .i64 (x.sz:Nat)] 113)
   obtain⟨d0,d1,d2,d3,d4⟩:=BX bn
   obtain⟨n1,hn1⟩:∃ n,cN 1 (cs.take j)=n:=⟨_,rfl⟩
   obtain⟨n2,hn2⟩:∃ n,cN 2 (cs.take j)=n:=⟨_,rfl⟩
   obtain⟨n3,hn3⟩:∃ n,cN 3 (cs.take j)=n:=⟨_,rfl⟩
   obtain⟨s1,hs1⟩:∃ n,cS 1 (cs.take j)=n:=⟨_,rfl⟩
   obtain⟨s2,hs2⟩:∃ n,cS 2 (cs.take j)=n:=⟨_,rfl⟩
   obtain⟨s3,hs3⟩:∃ n,cS 3 (cs.take j)=n:=⟨_,rfl⟩
   have HN1:Sl (cN 1 (cs.take (j+1))=n1+(if x.tag=1 then 1 else 0)):=⟨by rw[cN_take hx,hn1]⟩
   have HN2:Sl (cN 2 (cs.take (j+1))=n2+(if x.tag=2 then 1 else 0)):=⟨by rw[cN_take hx,hn2]⟩
   have HN3:Sl (cN 3 (cs.take (j+1))=n3+(if x.tag=3 then 1 else 0)):=⟨by rw[cN_take hx,hn3]⟩
   have HS1:Sl (cS 1 (cs.take (j+1))=s1+(if x.tag=1 then x.sz else 0)):=⟨by rw[cS_take hx,hs1]⟩
   have HS2:Sl (cS 2 (cs.take (j+1))=s2+(if x.tag=2 then x.sz else 0)):=⟨by rw[cS_take hx,hs2]⟩
   have HS3:Sl (cS 3 (cs.take (j+1))=s3+(if x.tag=3 then x.sz else 0)):=⟨by rw[cS_take hx,hs3]⟩
   have htk:(cs.take j).length<=32768:=Nat.le_trans (List.length_take_le' _ _) (by rw[HLn.out];exact hlen)
   have bn1:n1<=32768:=by have:=cN_le 1 (cs.take j);omega
   have bn2:n2<=32768:=by have:=cN_le 2 (cs.take j);omega
   have bn3:n3<=32768:=by have:=cN_le 3 (cs.take j);omega
   have hsum:∀ t,cS t (cs.take j)+(if x.tag=t then x.sz else 0)<=32768:=λ t=>by
    have h1:=cS_take (t:=t) hx
    have h2:=cS_app t (cs.take (j+1)) (cs.drop (j+1))
    rw[List.take_append_drop] at h2
    have h3:=cS_le t HTl.out
    omega
   have hq1:=hsum 1
   have hq2:=hsum 2
   have hq3:=hsum 3
   rw[hs1] at hq1
   rw[hs2] at hq2
   rw[hs3] at hq3
   have htag:=HTg.out x (List.mem_of_getElem? hx)
   unfold TlyAt at ht
   rw[hn1,hn2,hn3,hs1,hs2,hs3] at ht
   have bt:=(hO wr).at_ ht (λ h=>h)
   have HBA:=sE bt
   obtain⟨t0,t1,t2,t3,t4,t5⟩:=cells6g bt
   have f0:=Ab bt
   have lB:=lZ bt
   have g0:=f0 0
   have g1:=f0 1
   have g2:=f0 2
   have g3:=f0 3
   have g4:=f0 4
   have g5:=f0 5
   have hnBB:¬ wr.heap.size=B:=by have:=lZ ht;omega
   clear f0 bt ht hn1 hn2 hn3 hs1 hs2 hs3 hO hk hx hcells e2 e3 bn htk hsum HT
   rcases htag with ht1|ht2|ht3
   .have hsz:s1+x.sz<=32768:=by rw[if_pos ht1] at hq1;exact hq1
    clear hq1 hq2 hq3
    have q:x.tag=1:=ht1
    have e1:((x.tag:Int)==1)=true:=by simp[q]
    have e2:((x.tag:Int)==2)=false:=by simp[q]
    have e3:((x.tag:Int)==3)=false:=by simp[q]
    rw[if_pos q] at HN1 HS1
    rw[if_neg (by omega),Nat.add_zero] at HN2 HS2
    rw[if_neg (by omega),Nat.add_zero] at HN3 HS3
    clear q ht1
    go_wp2_with fail
    have hfin:((((wr.alloc (.cells #[.int .i64 (x.g:Nat),.int .u8 (x.tag:Nat),.int .i64 (x.ty:Nat),.int .i64 (x.ln:Nat),.int .i64 (x.sz:Nat)] 113)).setCell ⟨B,0,none⟩ (.int .i64 ((n1:Int)+1))).setCell ⟨B,3,none⟩ (.int .i64 ((s1:Int)+(x.sz:Int))))).heap[B]?=some (.cells #[.int .i64 ((n1+1:Nat):Int),.int .i64 ((n2:Nat):Int),.int .i64 ((n3:Nat):Int),.int .i64 ((s1+x.sz:Nat):Int),.int .i64 ((s3:Nat):Int),.int .i64 ((s2:Nat):Int)] 84 (0,0)):=by
     rw[bZ (bZ HBA.out _) _]
     rfl
    refine⟨⟨j+1,by omega,by go_num,?_,?_⟩,by simp only[intOf];omega⟩
    .unfold TlyAt
     rw[HN1.out,HN2.out,HN3.out,HS1.out,HS2.out,HS3.out]
     exact hfin
    .exact ((HK.out.trans HKA.out (λ _ _ h=>h.elim)).trans ((Kr (λ k=>k=B) _).setCell (λ _=>rfl) _) (λ _ _ h=>h)).trans ((Kr (λ k=>k=B) _).setCell (λ _=>rfl) _) (λ _ _ h=>h)
   .have hsz:s2+x.sz<=32768:=by rw[if_pos ht2] at hq2;exact hq2
    clear hq1 hq2 hq3
    have q:x.tag=2:=ht2
    have e1:((x.tag:Int)==1)=false:=by simp[q]
    have e2:((x.tag:Int)==2)=true:=by simp[q]
    have e3:((x.tag:Int)==3)=false:=by simp[q]
    rw[if_pos q] at HN2 HS2
    rw[if_neg (by omega),Nat.add_zero] at HN1 HS1
    rw[if_neg (by omega),Nat.add_zero] at HN3 HS3
    clear q ht2
    go_wp2_with fail
    have hfin:((((wr.alloc (.cells #[.int .i64 (x.g:Nat),.int .u8 (x.tag:Nat),.int .i64 (x.ty:Nat),.int .i64 (x.ln:Nat),.int .i64 (x.sz:Nat)] 113)).setCell ⟨B,1,none⟩ (.int .i64 ((n2:Int)+1))).setCell ⟨B,5,none⟩ (.int .i64 ((s2:Int)+(x.sz:Int))))).heap[B]?=some (.cells #[.int .i64 ((n1:Nat):Int),.int .i64 ((n2+1:Nat):Int),.int .i64 ((n3:Nat):Int),.int .i64 ((s1:Nat):Int),.int .i64 ((s3:Nat):Int),.int .i64 ((s2+x.sz:Nat):Int)] 84 (0,0)):=by
     rw[bZ (bZ HBA.out _) _]
     rfl
    refine⟨⟨j+1,by omega,by go_num,?_,?_⟩,by simp only[intOf];omega⟩
    .unfold TlyAt
     rw[HN1.out,HN2.out,HN3.out,HS1.out,HS2.out,HS3.out]
     exact hfin
    .exact ((HK.out.trans HKA.out (λ _ _ h=>h.elim)).trans ((Kr (λ k=>k=B) _).setCell (λ _=>rfl) _) (λ _ _ h=>h)).trans ((Kr (λ k=>k=B) _).setCell (λ _=>rfl) _) (λ _ _ h=>h)
   .have hsz:s3+x.sz<=32768:=by rw[if_pos ht3] at hq3;exact hq3
    clear hq1 hq2 hq3
    have q:x.tag=3:=ht3
    have e1:((x.tag:Int)==1)=false:=by simp[q]
    have e2:((x.tag:Int)==2)=false:=by simp[q]
    have e3:((x.tag:Int)==3)=true:=by simp[q]
    rw[if_pos q] at HN3 HS3
    rw[if_neg (by omega),Nat.add_zero] at HN1 HS1
    rw[if_neg (by omega),Nat.add_zero] at HN2 HS2
    clear q ht3
    go_wp2_with fail
    have hfin:((((wr.alloc (.cells #[.int .i64 (x.g:Nat),.int .u8 (x.tag:Nat),.int .i64 (x.ty:Nat),.int .i64 (x.ln:Nat),.int .i64 (x.sz:Nat)] 113)).setCell ⟨B,2,none⟩ (.int .i64 ((n3:Int)+1))).setCell ⟨B,4,none⟩ (.int .i64 ((s3:Int)+(x.sz:Int))))).heap[B]?=some (.cells #[.int .i64 ((n1:Nat):Int),.int .i64 ((n2:Nat):Int),.int .i64 ((n3+1:Nat):Int),.int .i64 ((s1:Nat):Int),.int .i64 ((s3+x.sz:Nat):Int),.int .i64 ((s2:Nat):Int)] 84 (0,0)):=by
     rw[bZ (bZ HBA.out _) _]
     rfl
    refine⟨⟨j+1,by omega,by go_num,?_,?_⟩,by simp only[intOf];omega⟩
    .unfold TlyAt
     rw[HN1.out,HN2.out,HN3.out,HS1.out,HS2.out,HS3.out]
     exact hfin
    .exact ((HK.out.trans HKA.out (λ _ _ h=>h.elim)).trans ((Kr (λ k=>k=B) _).setCell (λ _=>rfl) _) (λ _ _ h=>h)).trans ((Kr (λ k=>k=B) _).setCell (λ _=>rfl) _) (λ _ _ h=>h)
  .have hjl':¬ (j:Int)<(L:Int):=by omega
   obtain rfl:j=L:=by omega
   rw[List.take_of_length_le (by rw[HLn.out];omega)] at ht
   have HT2:=sE ht
   obtain⟨t0,t1,t2,t3,t4,t5⟩:=cells6g ht
   have f0:=Ab ht
   have lB:=lZ ht
   have g0:=f0 0
   have g1:=f0 1
   have g2:=f0 2
   have g3:=f0 3
   have g4:=f0 4
   have g5:=f0 5
   clear f0 ht hk
   have HS0:=sE lB
   go_wp2_with fail
   generalize hwf:(World.setCell _ _ _:World)=wf
   have z:TlyAt wf B cs/\Kp (λ k=>k=B) wr wf:=by
    rw[<- hwf]
    refine⟨?_,?_⟩
    .unfold TlyAt at HT2 ⊢
     rw[bZ (bZ (bZ (bZ (bZ (bZ HT2.out _) _) _) _) _) _]
     rfl
    .exact (((((((Kr (λ k=>k=B) wr).setCell (λ _=>rfl) _).setCell (λ _=>rfl) _).setCell (λ _=>rfl) _).setCell (λ _=>rfl) _).setCell (λ _=>rfl) _).setCell (λ _=>rfl) _)
   obtain⟨z0,z1,z2,z3,z4,z5⟩:=cells6g z.1
   refine bodyPost_ret (v:=.agg #[.int .i64 (cN 1 cs:Nat),.int .i64 (cN 2 cs:Nat),.int .i64 (cN 3 cs:Nat),.int .i64 (cS 1 cs:Nat),.int .i64 (cS 3 cs:Nat),.int .i64 (cS 2 cs:Nat)]) (by simp[results,results34,go_sem,z0,z1,z2,z3,z4,z5]) rfl ⟨rfl,?_⟩
   exact Kp.newW ((HKl.out.mono (λ _ _ h=>h.elim)).trans (HK.out.trans z.2 (λ _ _ h=>h)) (λ i _ h=>by omega))

end

end Go.Proofs.YtfkedlgpgmaemaaGreatDoor
