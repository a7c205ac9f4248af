/-
  Lemmas for the laws, together: FindB, Ints.
-/
import Derived.Test.YtfkedlgpgmaemaaGreatDoorQan
import Derived.Test.YtfkedlgpgmaemaaGreatDoorQaw
set_option linter.unusedVariables false
set_option maxHeartbeats 16000000
namespace Go.Proofs.YtfkedlgpgmaemaaGreatDoor
open Tryz
section
open Go.RowKit

theorem Kp.new'{w w':World}(h:Kp (λ k=>w.heap.size<=k) w w'):Kp Aa w w':=h.mono (λ i hi hp=>by omega)

end

section
open Go.RowKit

theorem lt_of_cell{w:World}{b j:Nat}{v:Value}(h:w.cell? ⟨b,j,none⟩=some v):b<w.heap.size:=by
 rcases Nat.lt_or_ge b w.heap.size with hb|hb
 .exact hb
 .rw [World.cell?,Array.getElem?_eq_none hb] at h
  simp at h

def Fb(xs:List Int):List Value:=xs.map (Value.int .i64)

def IntsIn(w:World)(v:Value)(xs:List Int):Prop:=Bw 1 w v xs.length (λ i _=>xs.getD i 0)

theorem IntsIn.Ac{w w':World}{v:Value}{xs:List Int}(h:IntsIn w v xs)(k:Kp Aa w w'):IntsIn w' v xs:=Bw.keep h k (λ _ _ h=>h)

theorem Cz{w:World}{base:Nat}{v:Value}{xs:List Int}(h:w.ownsRow base 3 1 v xs.length (Fb xs))(hr:∀ x∈xs,-9223372036854775808<=x/\x<=9223372036854775807):IntsIn w v xs:=by
 rcases h.2 with ⟨rfl,h0⟩|⟨g,cap,cur,rfl,g2,g3,g4,g5,g6,g7⟩
 .exact ⟨none,0,by rw[h0],λ i hi=>by omega⟩
 .refine ⟨some ⟨g,0,none⟩,cap,rfl,λ i hi=>⟨g,0,rfl,lZ g3,λ j hj=>?_⟩⟩
  obtain rfl:j=0:=by omega
  have hx:xs[i]?=some xs[i]:=List.getElem?_eq_getElem hi
  refine⟨?_,?_⟩
  .have:cur.toList[i]?=some (.int .i64 xs[i]):=by
    rw[<- List.getElem?_take_of_lt (j:=xs.length*1) (by omega),g7,Fb,List.getElem?_map,hx]
    rfl
   rw[show 0+(i*1+0)=i by omega]
   simp only[World.cell?,g3]
   rw[show xs.getD i 0=xs[i] by simp[List.getD,hx],<- this]
   simp
  .dsimp only
   rw[show xs.getD i 0=xs[i] by simp[List.getD,hx]]
   exact hr _ (List.getElem_mem hi)

theorem ints_one{w:World}{b cap:Nat}{x:Int}(h:w.heap[b]?=some (.cells #[.int .i64 x] 3 (0,0)))(hr:-9223372036854775808<=x/\x<=9223372036854775807):IntsIn w (.slice (some ⟨b,0,none⟩) 1 cap) [x]:=
 ⟨_,_,rfl,λ i hi=>⟨b,0,rfl,lZ h,λ j hj=>by
  simp at hi
  obtain rfl:i=0:=by omega
  obtain rfl:j=0:=by omega
  exact⟨by simp[World.cell?,h],by simpa using hr⟩⟩⟩

theorem ints_nil(w:World):IntsIn w (.slice none 0 0) []:=⟨none,0,rfl,λ i hi=>by simp at hi⟩

theorem ints_slice{w:World}{v:Value}{xs:List Int}(h:IntsIn w v xs):∃ a c,v=.slice a xs.length c:=by
 obtain⟨a,c,h,-⟩:=h
 exact⟨a,c,h⟩

end

end Go.Proofs.YtfkedlgpgmaemaaGreatDoor
