/-
  Lemmas for the laws, together: StN.
-/
import Derived.Test.YtfkedlgpgmaemaaGreatDoorQbp
import Derived.Test.YtfkedlgpgmaemaaGreatDoorQbm
set_option linter.unusedVariables false
set_option maxHeartbeats 16000000
namespace Go.Proofs.YtfkedlgpgmaemaaGreatDoor
open Tryz
section
open Go.RowKit

section

variable {C:T3->T3->Int} {s b T n cap:Nat}

theorem StableK_at{F:Nat->T3}{w:World}(hC:OrdC C)(hcmp:∀ x y W',Calls prog 71 #[Dr x,Dr y] W' λ e w'=>e=.returned (.int .i64 (C x y))/\Kp Aa W' w')(hn:n<1152921504606846976)(h:AV s b T n F w):
  Calls prog 167 #[.slice (some ⟨b,0,none⟩) n cap,.int .i64 (n:Nat),.func (.func 71) #[] #[]] w λ e w'=>(∃ u,e=.returned u)/\BB s b T n (λ G=>Stab C 0 n F G/\Ai C 0 n G) w w':=by
 have H0:=sE h
 have HIns:Sl (∀ {F:Nat->T3} {w:World} {a z:Nat},AV s b T n F w->a<=z->z<=n->_):=⟨λ {F w a z} r h1 h2=>InsK_at (cap:=cap) hC hcmp (F:=F) (w:=w) (a:=a) (z:=z) r h1 h2 hn⟩
 have HSym:Sl (∀ {a m z:Nat} {F:Nat->T3} {w:World},AV s b T n F w->a<m->m<z->z<=n->Ai C a m F->Ai C m z F->_):=⟨λ {a m z F w}=>SymK_at (cap:=cap) hC hcmp hn (z-a) (a:=a) (m:=m) (z:=z) (F:=F) (w:=w) (Nat.le_refl _)⟩
 clear h hcmp
 have HC:=sE hC
 clear hC
 go_enter func167,ntmps167
 go_wp2_with fail
 go_loopw [7,8] (λ x7 x8 wr=>∃ A:Nat,x7=.int .i64 (A:Nat)/\x8=.int .i64 ((A+20:Nat):Int)/\A<=n/\Sl (∃ k,A=k*20)/\Sl (BB s b T n (λ G=>Stab C 0 n F G/\Cm C 20 0 A G) w wr)) (λ x7 _ _=>n+1-(intOf x7).toNat)
 case atStart=>exact ⟨0,rfl,rfl,Nat.zero_le _,⟨0,rfl⟩,⟨F,H0.out,⟨.refl,Cm.none C 20 F⟩,Kr _ _⟩⟩
 case round=>
  obtain⟨A,rfl,rfl,hA,HA,HS⟩:=hrel
  obtain⟨G,hR,⟨hSt,hB⟩,hK⟩:=HS.out
  have HR:=sE hR
  have HSt:=sE hSt
  have HB:=sE hB
  have HK:=sE hK
  clear hR hSt hB hK HS
  by_cases hle:A+20<=n
  .have hle':(A:Int)+20<=(n:Int):=by omega
   have u1:IntKind.i64.wrap ((A:Int)+20+20)=(A:Int)+20+20:=by rw[IntKind.wrap_i64];omega
   go_wp2_with fail
   refine(HIns.out (a:=A) (z:=A+20) HR.out (by omega) hle).mono ?_
   rintro e w2 ⟨⟨u,rfl⟩,G2,r2,⟨s2,o2⟩,k2⟩
   have HT:Sl (∃ k,A+20=k*20):=⟨by obtain⟨k,hk⟩:=HA.out;exact ⟨k+1,by omega⟩⟩
   have HT2:Sl (BB s b T n (λ G=>Stab C 0 n F G/\Cm C 20 0 (A+20) G) w w2):=⟨G2,r2,⟨HSt.out.trans (s2.mono (Nat.zero_le _) hle),by
    obtain⟨k,rfl⟩:=HA.out
    exact HB.out.ins s2 o2⟩,HK.out.trans k2 (λ _ _ h=>h)⟩
   clear r2 s2 o2 k2
   go_wp2
   exact⟨⟨A+20,by go_num,by go_num,hle,HT,HT2⟩,by simp only[intOf];omega⟩
  .have hle':¬ (A:Int)+20<=(n:Int):=by omega
   go_wp2_with fail
   refine(HIns.out (a:=A) (z:=n) HR.out hA (Nat.le_refl _)).mono ?_
   rintro e w2 ⟨⟨u,rfl⟩,G2,r2,⟨s2,o2⟩,k2⟩
   have HT2:Sl (BB s b T n (λ G=>Stab C 0 n F G/\Cm C 20 0 n G) w w2):=⟨G2,r2,⟨HSt.out.trans (s2.mono (Nat.zero_le _) (Nat.le_refl _)),by
    obtain⟨k,rfl⟩:=HA.out
    exact HB.out.ins s2 o2⟩,HK.out.trans k2 (λ _ _ h=>h)⟩
   clear r2 s2 o2 k2 HR HSt HB HK hle hle'
   go_wp2_with fail
   go_loopw [6,7,8,9] (λ x6 _ _ _ wr=>∃ S:Nat,x6=.int .i64 (S:Nat)/\20<=S/\S<=2*n+20/\Sl (BB s b T n (λ G=>Stab C 0 n F G/\Cm C S 0 n G) w wr)) (λ x6 _ _ _ _=>2*n+41-(intOf x6).toNat)
   case atStart=>exact ⟨20,rfl,Nat.le_refl _,by omega,HT2⟩
   case round=>
    obtain⟨S,rfl,hS1,hS2,HS⟩:=hrel
    clear HT2
    by_cases hlt:S<n
    .have hlt':(S:Int)<(n:Int):=by omega
     obtain⟨D,hD,hD2⟩:∃ D:Nat,(2:Int)*(S:Int)=(D:Int)/\D=2*S:=⟨2*S,by omega,rfl⟩
     have u1:IntKind.i64.wrap (D:Int)=(D:Int):=by rw[IntKind.wrap_i64];omega
     have HD:=sE hD2
     have hDn:D<=2*n:=by omega
     have hSD:S+S=D:=by omega
     have HSD:=sE hSD
     clear hD2 hSD
     go_wp2_with fail
     go_loopw [7,8] (λ x7 x8 wr=>∃ A:Nat,x7=.int .i64 (A:Nat)/\x8=.int .i64 ((A+D:Nat):Int)/\A<=n/\Sl (∃ k,A=k*(2*S))/\Sl (BB s b T n (λ G=>Stab C 0 n F G/\Cm C (2*S) 0 A G/\Cm C S A n G) w wr)) (λ x7 _ _=>n+1-(intOf x7).toNat)
     case atStart=>
      obtain⟨G,hR,⟨hSt,hB⟩,hK⟩:=HS.out
      exact⟨0,rfl,by go_num,Nat.zero_le _,⟨0,by omega⟩,⟨G,hR,⟨hSt,Cm.none C (2*S) G,hB⟩,hK⟩⟩
     case round=>
      obtain⟨A,rfl,rfl,hA,HA,HS2⟩:=hrel
      clear HS
      obtain⟨G,hR,⟨hSt,hB,hB2⟩,hK⟩:=HS2.out
      have HR:=sE hR
      have HSt:=sE hSt
      have HB:=sE hB
      have HB2:=sE hB2
      have HK:=sE hK
      clear hR hSt hB hB2 hK HS2
      have u2:IntKind.i64.wrap ((A:Int)+(S:Int))=((A+S:Nat):Int):=by rw[IntKind.wrap_i64];omega
      by_cases hle:A+D<=n
      .have hle':(A:Int)+(D:Int)<=(n:Int):=by omega
       have u3:IntKind.i64.wrap ((A:Int)+(D:Int)+(D:Int))=(A:Int)+(D:Int)+(D:Int):=by rw[IntKind.wrap_i64];omega
       have HP:Sl (Ai C A (A+S) G/\Ai C (A+S) (A+D) G):=⟨by
        obtain⟨k,hk⟩:=HA.out
        exact HB2.out.two hk (by have:=HSD.out;omega) (by have:=HD.out;omega) hle⟩
       go_wp2_with fail
       refine(HSym.out (a:=A) (m:=A+S) (z:=A+D) HR.out (by omega) (by have:=HSD.out;omega) hle HP.out.1 HP.out.2).mono ?_
       rintro e w2 ⟨⟨u,rfl⟩,G2,r2,⟨s2,o2⟩,k2⟩
       have HT:Sl (∃ k,A+D=k*(2*S)):=⟨by
        obtain⟨k,hk⟩:=HA.out
        exact⟨k+1,by rw[Nat.succ_mul,hk,HD.out]⟩⟩
       have HT2:Sl (BB s b T n (λ G=>Stab C 0 n F G/\Cm C (2*S) 0 (A+D) G/\Cm C S (A+D) n G) w w2):=⟨G2,r2,⟨HSt.out.trans (s2.mono (Nat.zero_le _) hle),by
        obtain⟨k,rfl⟩:=HA.out
        exact HB.out.ins s2 o2,HB2.out.rest s2 (by omega)⟩,HK.out.trans k2 (λ _ _ h=>h)⟩
       clear r2 s2 o2 k2
       go_wp2
       exact⟨⟨A+D,by go_num,by go_num,hle,HT,HT2⟩,by simp only[intOf];omega⟩
      .have hle':¬ (A:Int)+(D:Int)<=(n:Int):=by omega
       by_cases hm:A+S<n
       .have hm':(A:Int)+(S:Int)<(n:Int):=by omega
        have HP:Sl (Ai C A (A+S) G/\Ai C (A+S) n G):=⟨by
         obtain⟨k,hk⟩:=HA.out
         exact HB2.out.two hk (by omega) (by have:=HD.out;omega) (Nat.le_refl _)⟩
        go_wp2_with fail
        refine(HSym.out (a:=A) (m:=A+S) (z:=n) HR.out (by omega) hm (Nat.le_refl _) HP.out.1 HP.out.2).mono ?_
        rintro e w2 ⟨⟨u,rfl⟩,G2,r2,⟨s2,o2⟩,k2⟩
        have HT2:Sl (BB s b T n (λ G=>Stab C 0 n F G/\Cm C D 0 n G) w w2):=⟨G2,r2,⟨HSt.out.trans (s2.mono (Nat.zero_le _) (Nat.le_refl _)),by
         obtain⟨k,rfl⟩:=HA.out
         rw[HD.out]
         exact HB.out.ins s2 o2⟩,HK.out.trans k2 (λ _ _ h=>h)⟩
        clear r2 s2 o2 k2
        go_wp2
        exact⟨⟨D,by first|rfl|(congr 1;omega),by omega,by omega,HT2⟩,by simp only[intOf];omega⟩
       .have hm':¬ (A:Int)+(S:Int)<(n:Int):=by omega
        have HT2:Sl (BB s b T n (λ G=>Stab C 0 n F G/\Cm C D 0 n G) w wr):=⟨G,HR.out,⟨HSt.out,by
         obtain⟨k,rfl⟩:=HA.out
         rw[HD.out]
         exact HB.out.tail HB2.out (by omega)⟩,HK.out⟩
        go_wp2
        exact⟨⟨D,by first|rfl|(congr 1;omega),by omega,by omega,HT2⟩,by simp only[intOf];omega⟩
    .have hlt':¬ (S:Int)<(n:Int):=by omega
     go_wp2
     refine bodyPost_end (results_none rfl _ _ _) rfl ?_
     obtain⟨G,hR,⟨hSt,hB⟩,hK⟩:=HS.out
     exact⟨⟨_,rfl⟩,G,hR,⟨hSt,hB.all (by omega)⟩,hK⟩

theorem ByK_at{base:Nat}{v:Value}{L:List T3}{w:World}(hC:OrdC C)(hcmp:∀ x y W',Calls prog 71 #[Dr x,Dr y] W' λ e w'=>e=.returned (.int .i64 (C x y))/\Kp Aa W' w')(hl:L.length<1152921504606846976)(h:w.ownsRow base T 3 v L.length (Br L)):
  Calls prog 69 #[v,.func (.func 71) #[] #[]] w λ e w'=>e=.returned v/\w'.ownsRow base T 3 v L.length (Br (Cb C L))/\Kp (λ k=>v.ownBlock=some k) w w':=
 ByK_of hC (λ hr=>StableK_at hC hcmp hl hr) h

end

end

end Go.Proofs.YtfkedlgpgmaemaaGreatDoor
