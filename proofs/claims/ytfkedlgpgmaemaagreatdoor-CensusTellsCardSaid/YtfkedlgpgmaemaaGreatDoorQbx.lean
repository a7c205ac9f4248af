/-
  Lemmas for the laws, together: CenG.
-/
import Derived.Test.YtfkedlgpgmaemaaGreatDoorQbt
set_option linter.unusedVariables false
set_option maxHeartbeats 16000000
namespace Go.Proofs.YtfkedlgpgmaemaaGreatDoor
open Tryz
section
open Go.RowKit

theorem most39:(BN Fh [(0,1,3),(1,1,2),(2,1,1)]).take 1=[(0,1,3)]:=by decide

set_option maxRecDepth 20000 in
theorem alive39(w:World)(hF:Au w):Calls prog 9 #[] w (RK (.bool true) w):=by
 have E:=sE hF
 clear hF
 go_enter func9,ntmps9
 go_wp2_with fail
 obtain⟨d,b⟩:∃ d,d=(w.alloc (.cells steps20 104)).alloc (.cells #[.int .u8 2,(0:Int),.int .u64 0] 106):=⟨_,rfl⟩
 have v:Kp Aa w d:=by rw[b];exact ((Kr _ w).alloc _).alloc _
 have Q:d.heap[w.heap.size]?=some (.cells steps20 104 (0,0)):=by rw[b];exact ((Kr Aa _).alloc _).at_ (wN w _) id
 have R:d.heap[w.heap.size+1]?=some (.cells #[.int .u8 2,(0:Int),.int .u64 0] 106 (0,0)):=by
  rw[b]
  have:=wN (w.alloc (.cells steps20 104)) (.cells #[.int .u8 2,(0:Int),.int .u64 0] 106)
  rwa [show (w.alloc (.cells steps20 104)).heap.size=w.heap.size+1 by simp] at this
 have H:=sE (played20 d (E.o.Ac v) w.heap.size (w.heap.size+1) _ _ Q R)
 have G:=sE v
 unfold steps20 at b
 rw[<- b]
 clear b Q R v
 refine H.o.mono ?_
 rintro e w1 ⟨P,d1,W,f,rfl,⟨u,U⟩,a0,T,a1,⟨b3,b4,b5⟩,a2⟩
 have F:=sE (G.o.then' a2)
 have g:Sl (Ex40 w1 P W f):=⟨⟨a0,T,a1,by rw[u];intro x c2;have:=List.mem_singleton.1 c2;subst this;decide,by rw[u];exact edges20 b3 b4 b5,U⟩⟩
 clear u U a0 T a1 b3 b4 b5 a2 H G
 go_wp2_with fail
 refine(keeps39_at (g.o.Ac ((Kr _ _).alloc _)) _ (natsIn_one w1 0 _)).mono ?_
 rintro e w2 ⟨N,t,d0,rfl,V,a3⟩
 have i:Sl (Kp Aa w1 w2):=⟨((Kr _ _).alloc _).then' a3⟩
 have I:=sE V
 clear V a3
 go_wp2_with fail
 refine(over39_at (g.o.Ac (i.o.alloc _)) _ (natsIn_one w2 0 _)).mono ?_
 rintro e y ⟨c5,c7,rfl,X,a4⟩
 have j:Sl (Kp Aa w2 y):=⟨((Kr _ _).alloc _).then' a4⟩
 have J:=sE X
 clear X a4
 go_wp2_with fail
 refine(types39_at (g.o.Ac ((i.o.then' j.o).alloc _)) _ (natsIn_one y 1 _)).mono ?_
 rintro e z ⟨c6,c8,rfl,Y,a5⟩
 have l:Sl (Kp Aa y z):=⟨((Kr _ _).alloc _).then' a5⟩
 have L:=sE Y
 clear Y a5
 go_wp2_with fail
 refine(lost39_at (g.o.Ac (((i.o.then' j.o).then' l.o).alloc _)) _ (natsIn_one z 1 _)).mono ?_
 rintro e A ⟨rfl,a6⟩
 have m:Sl (Kp Aa z A):=⟨((Kr _ _).alloc _).then' a6⟩
 clear a6
 go_wp2_with fail
 refine(CKeeps_nil none 0 0 A).mono ?_
 rintro e c ⟨rfl,a7⟩
 have n:Sl (Kp Aa A c):=⟨a7⟩
 have r:Sl (CY c (.slice N 3 t) [(0,1,3),(1,1,2),(2,1,1)]):=⟨I.o.Ac (j.o.then' (l.o.then' (m.o.then' n.o)))⟩
 have b8:=sE (J.o.Ac (l.o.then' (m.o.then' n.o)))
 have b9:=sE (L.o.Ac (m.o.then' n.o))
 have b7:Sl (Kp Aa w c):=⟨F.o.then' (i.o.then' (j.o.then' (l.o.then' (m.o.then' n.o))))⟩
 clear a7 g i j l m n I J L F E
 go_wp2_with fail
 have c9:(1:Int)<=(t:Int):=by omega
 refine wp_region_held_drew (S:=λ _=>True/\True) (by kernel_rfl) ?_ (λ a=>?_)
 .exact ⟨trivial,trivial⟩
 refine Ap 0 ?_;refine Ap 1 ?_;refine Ap 2 ?_;refine Ap 3 ?_;refine Ap 4 ?_
 try simp only[AB]
 refine Ap 5 ?_;refine Ap 6 ?_
 try simp only[AB]
 refine Bp [7] ?_
 refine Ag rfl (λ K hK=>?_)
 go_simp
 refine hK _ _ ?_ (λ a=>?_)
 .exact ⟨trivial,trivial⟩
 clear hK K
 try simp only[AB]
 refine Bp [8] ?_
 refine Ag rfl (λ K hK=>?_)
 go_simp
 refine(FP [(0,1,3),(1,1,2),(2,1,1)] _ _ _ (r.o.Ac ((Kr _ _).alloc _).drew) (rowT_lit c _ [(0,1,3),(1,1,2),(2,1,1)]) (by decide)).mono ?_
 rintro e B ⟨rfl,a8⟩
 have p:Sl (Kp Aa c B):=⟨((Kr _ _).alloc _).drew.then' a8⟩
 clear a8
 refine hK _ _ ?_ (λ a=>?_)
 .exact ⟨trivial,trivial⟩
 clear hK K
 try simp only[AB]
 refine Ap 9 ?_;refine Ap 10 ?_;refine Ap 11 ?_;refine Ap 12 ?_;refine Ap 13 ?_
 try simp only[AB]
 refine Ap 14 ?_;refine Ap 15 ?_
 try simp only[AB]
 refine Bp [16] ?_
 refine Ag rfl (λ K hK=>?_)
 go_simp
 refine hK _ _ ?_ (λ a=>?_)
 .exact ⟨trivial,trivial⟩
 clear hK K
 try simp only[AB]
 refine Bp [17] ?_
 refine Ag rfl (λ K hK=>?_)
 go_simp
 refine(SameInts_yes (xs:=[((0:Nat):Int),((1:Nat):Int)]) (b8.o.Ac (p.o.then' ((Kr _ _).alloc _))) (ints_lit2 B _ rfl) (by decide)).mono ?_
 rintro e C ⟨rfl,a9⟩
 have q:Sl (Kp Aa B C):=⟨((Kr _ _).alloc _).then' a9⟩
 clear a9
 refine hK _ _ ?_ (λ a=>?_)
 .exact ⟨trivial,trivial⟩
 clear hK K
 try simp only[AB]
 refine Ap 18 ?_;refine Ap 19 ?_;refine Ap 20 ?_;refine Ap 21 ?_;refine Ap 22 ?_
 try simp only[AB]
 refine Ap 23 ?_;refine Ap 24 ?_;refine Ap 25 ?_
 try simp only[AB]
 refine Bp [26] ?_
 refine Ag rfl (λ K hK=>?_)
 go_simp
 refine hK _ _ ?_ (λ a=>?_)
 .exact ⟨trivial,trivial⟩
 clear hK K
 try simp only[AB]
 refine Bp [27] ?_
 refine Ag rfl (λ K hK=>?_)
 go_simp
 refine(SameShares_yes [(1,2,2)] _ _ _ (b9.o.Ac ((p.o.then' q.o).alloc _)) (rowT_lit' C _ [(1,2,2)]) (by decide)).mono ?_
 rintro e D ⟨rfl,b0⟩
 have s:Sl (Kp Aa C D):=⟨((Kr _ _).alloc _).then' b0⟩
 clear b0
 refine hK _ _ ?_ (λ a=>?_)
 .exact ⟨trivial,trivial⟩
 clear hK K
 try simp only[AB]
 refine Ap 28 ?_;refine Ap 29 ?_;refine Ap 30 ?_;refine Ap 31 ?_;refine Ap 32 ?_
 try simp only[AB]
 refine Ap 33 ?_;refine Ap 34 ?_;refine Ap 35 ?_;refine Ap 36 ?_;refine Ap 37 ?_
 try simp only[AB]
 refine Ap 38 ?_;refine Ap 39 ?_;refine Ap 40 ?_;refine Ap 41 ?_;refine Ap 42 ?_
 try simp only[AB]
 refine Ap 43 ?_;refine Ap 44 ?_;refine Ap 45 ?_;refine Ap 46 ?_;refine Ap 48 ?_;refine Ap 49 ?_
 try simp only[AB]
 refine Bp [47] ?_
 refine Ag rfl (λ K hK=>?_)
 go_simp
 refine(CMost_few D 1 (.slice N 3 t) [(0,1,3),(1,1,2),(2,1,1)] (r.o.Ac (p.o.then' (q.o.then' s.o))) (by decide)).mono ?_
 rintro e b6 ⟨c3,rfl,Z,b1⟩
 have M:Sl (Kp Aa D b6):=⟨b1⟩
 have c0:Sl (CY b6 c3 [(0,1,3)]):=⟨by have O:=Z;rw [show (1:Int).toNat=1 from rfl,most39] at O;exact O⟩
 clear Z b1
 refine hK _ _ ?_ (λ a=>?_)
 .exact ⟨trivial,trivial⟩
 clear hK K
 try simp only[AB]
 refine Bp [50] ?_
 refine Ag rfl (λ K hK=>?_)
 go_simp
 refine(FP [(0,1,3)] _ _ _ c0.o ((r.o.take (k:=1) (by omega)).Ac (p.o.then' (q.o.then' (s.o.then' M.o)))) (by decide)).mono ?_
 rintro e c4 ⟨rfl,b2⟩
 have c1:Sl (Kp Aa c c4):=⟨p.o.then' (q.o.then' (s.o.then' (M.o.then' b2)))⟩
 clear b2
 refine hK _ _ ?_ (λ a=>?_)
 .exact ⟨trivial,trivial⟩
 clear hK K
 try simp only[AB]
 refine Ap 51 ?_;refine Ap 52 ?_
 try simp only[AB]
 refine wpAnyH_done (by kernel_rfl) ?_ _
 go_wp2
 go_ret
 exact⟨rfl,b7.o.then' c1.o⟩

end

end Go.Proofs.YtfkedlgpgmaemaaGreatDoor
