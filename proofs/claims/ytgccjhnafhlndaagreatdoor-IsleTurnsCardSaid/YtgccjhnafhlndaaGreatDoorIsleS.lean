/-
 A row of runs that the call owns, between the library's sort (shelf) and ownsRow.
 slices.SortFunc at runs by their first number (the shelf's contract), over a row that the call owns.
 isle's rising: a row of runs that the call owns, by their first numbers, each once.
-/
import Derived.Test.YtgccjhnafhlndaaGreatDoorIsleR
import Derived.Test.YtgccjhnafhlndaaGreatDoorShelf
import Derived.Shelf.SlSortCmp.WholeK
import Derived.Sort.OwnSortedInts
import Derived.Shelf.SlSortCmp.NoneTotal
namespace Go.Proofs.YtgccjhnafhlndaaGreatDoor
open Go.RowKit Go.Sort
set_option linter.unusedVariables false

def encR (x : Nat × Nat) : List Value := [.int .i64 (x.1 : Nat), .int .i64 (x.2 : Nat)]

theorem encR_len (x : Nat × Nat) : (encR x).length = 2 := rfl

theorem encR_one (x : Nat × Nat) : ∀ v ∈ encR x, v.oneCell' = true := by
 intro v hv
 simp [encR] at hv
 rcases hv with rfl | rfl <;> rfl

theorem flatKR_at (L : List (Nat × Nat)) (t : Nat) (h : t < L.length * 2) : (Go.Sort.flatK encR 2 L.toArray)[t]! = ((Be L)[t]?).getD default := by
 rw [Go.Sort.get_flatK _ _ _ _ (by simpa using h)]
 obtain ⟨i, c, rfl, hc⟩ : ∃ i c, t = i * 2 + c /\ c < 2 := ⟨t / 2, t % 2, by omega, by omega⟩
 have hi : i < L.length := by omega
 obtain ⟨a0, a1⟩ := flatR_at L i _ (List.getElem?_eq_getElem hi)
 rw [show (i * 2 + c) / 2 = i by omega, show (i * 2 + c) % 2 = c by omega]
 have hd : L.toArray[i]! = L[i] := by simp [hi]
 rw [hd]
 have : c = 0 \/ c = 1 := by omega
 rcases this with rfl | rfl
 ·rw [Nat.add_zero, a0]
  rfl
 ·rw [a1]
  rfl

theorem flat_eq (L : List (Nat × Nat)) : Go.Sort.flatK encR 2 L.toArray = (Be L).toArray := by
 refine Array.ext (by simp [BH]) λ t h1 h2 => ?_
 have ht : t < L.length * 2 := by simpa using h1
 have := flatKR_at L t ht
 rw [getElem!_pos _ t h1, List.getElem?_eq_getElem (by rw [BH]; exact ht)] at this
 rw [this]
 rfl

theorem holdsK_of_block {w : World} {g : Nat} {cur : Array Value} {e : TypeId} {L : List (Nat × Nat)} (hb : w.heap[g]? = some (.cells cur e (0, 0))) (ht : cur.toList.take (L.length * 2) = Be L) : Go.Sort.HoldsK encR 2 w g 0 L.toArray := by
 unfold Go.Sort.HoldsK
 rw [flat_eq]
 intro j hj
 have hj' : j < L.length * 2 := by simpa [BH] using hj
 refine ⟨?_, by simp [World.frozen?, hb]⟩
 have h1 : (cur.toList.take (L.length * 2))[j]? = (Be L)[j]? := by rw [ht]
 rw [List.getElem?_take_of_lt hj'] at h1
 simp only [World.cell?, hb, Nat.zero_add]
 simp only [Option.isSome_none, Bool.false_eq_true, if_false]
 rw [<- Array.getElem?_toList, h1, List.getElem?_eq_getElem (by rw [BH]; exact hj')]
 have : j < (Be L).length := by rw [BH]; exact hj'
 simp [this]

theorem heap_sortedV {w : World} {g n : Nat} {os : Array Obj} {cur : Array Value} {e : TypeId} {fr : Nat × Nat} (d : Array Value) (hb : w.heap[g]? = some (.cells cur e fr)) :
  (grow (putRow id (Sort.ahead w n) g 0 d) os).heap[g]? = some (.cells (putCells id 0 d cur) e fr) := by
 have hg : g < w.heap.size := (Array.getElem?_eq_some_iff.1 hb).1
 rw [heap_grow_old _ _ (by simpa using hg)]
 simp [putRow, mapBlock, Sort.ahead, Array.getElem?_modify, hb, onCells]

theorem grownBy_sortedV {w : World} {g n : Nat} {os : Array Obj} (d : Array Value) : w.grownBy (grow (putRow id (Sort.ahead w n) g 0 d) os) (some g) := by
 refine ⟨rfl, rfl, rfl, by simp, λ k hk hne => ?_⟩
 rw [heap_grow_old _ _ (by simpa using hk)]
 have : g ≠ k := λ e => hne (by rw [e])
 simp [putRow, mapBlock, Sort.ahead, Array.getElem?_modify, this]

theorem take_putCellsV (cur : Array Value) (ts : List Value) (h : ts.length <= cur.size) : (putCells id 0 ts.toArray cur).toList.take ts.length = ts := by
 apply List.ext_getElem?
 intro j
 by_cases hj : j < ts.length
 ·rw [List.getElem?_take_of_lt hj, Array.getElem?_toList]
  simp [putCells, hj, show j < cur.size by omega]
 ·rw [List.getElem?_take_eq_none (by omega), List.getElem?_eq_none (by omega)]

theorem owns_sortedR {w : World} {base g cap n : Nat} {e : TypeId} {os : Array Obj} {cur : Array Value} {L M : List (Nat × Nat)} (hl : M.length = L.length) (hbase : base <= g) (hb : w.heap[g]? = some (.cells cur e (0, 0)))
  (h1 : L.length <= cap) (h2 : cap <= maxLen) (h3 : cur.size = cap * 2) :
  (Go.Proofs.sortWorldK encR 2 w g 0 n M.toArray os).ownsRow base e 2 (.slice (some ⟨g, 0, none⟩) L.length cap) L.length (Be M) := by
 unfold Go.Proofs.sortWorldK Go.Sort.putRowK
 rw [flat_eq]
 refine ⟨by rw [BH, hl], .inr ⟨g, cap, _, rfl, hbase, heap_sortedV _ hb, h1, h2, by simp [putCells, h3], ?_⟩⟩
 have := take_putCellsV cur (Be M) (by rw [BH]; omega)
 rw [BH, hl] at this
 exact this

theorem grownBy_sortedR {w : World} {g n : Nat} {os : Array Obj} (M : Array (Nat × Nat)) : w.grownBy (Go.Proofs.sortWorldK encR 2 w g 0 n M os) (some g) := grownBy_sortedV _

open Go.RowKit Go.Sort Go.Shelf

theorem ltR (x y : Nat × Nat) : Go.Proofs.ltOf (λ x y : Nat × Nat => cmpN x.1 y.1) x y = decide (x.1 < y.1) := by
 unfold Go.Proofs.ltOf cmpN
 by_cases h1 : x.1 < y.1
 ·simp [h1]
 ·by_cases h2 : y.1 < x.1 <;> simp [h1, h2]

theorem swoR : SWO (Go.Proofs.ltOf λ x y : Nat × Nat => cmpN x.1 y.1) where
 irrefl x := by rw [ltR]; simp
 trans x y z h1 h2 := by rw [ltR] at *; simp at *; omega
 ntrans x y z h1 h2 := by rw [ltR] at *; simp at *; omega

theorem permR {d d' : Array (Nat × Nat)} (h : PermIn 0 d.size d d') : d'.toList.Perm d.toList := by
 have h1 := h.2.2
 have e1 : d'.extract 0 d.size = d' := by rw [<- h.1]; simp
 have e2 : d.extract 0 d.size = d := by simp
 rwa [e1, e2] at h1

theorem sortedR {d' : Array (Nat × Nat)} {n : Nat} (hn : d'.size = n) (h : SortedIn (Go.Proofs.ltOf λ x y : Nat × Nat => cmpN x.1 y.1) 0 n d') : d'.toList.Pairwise λ a b => a.1 <= b.1 := by
 rw [List.pairwise_iff_getElem]
 intro i j hi hj hij
 have := h i j (Nat.zero_le _) hij (by rw [<- hn]; simpa using hj)
 rw [ltR] at this
 have h2 := of_decide_eq_false this
 have e1 : d'[i]! = d'.toList[i] := by
  rw [getElem!_pos d' i (by simpa using hi)]
  simp
 have e2 : d'[j]! = d'.toList[j] := by
  rw [getElem!_pos d' j (by simpa using hj)]
  simp
 rw [e1, e2] at h2
 omega

theorem ByAt.sort {w : World} {b g : Nat} {m : Nat} {dk : Array (Nat × Nat)} {os : Array Obj} (h : ByAt w b) (hne : ¬ b = g) : ByAt (Go.Proofs.sortWorldK encR 2 w g 0 m dk os) b := by
 unfold Go.Proofs.sortWorldK putRowK
 refine ⟨?_, ?_⟩
 ·rw [cell?_grow _ _ _ (by simpa using h.2), cell?_putRow_other _ _ _ _ _ _ (.inl hne)]
  exact h.1
 ·have : b < w.heap.size := h.2
  simp [grow]
  omega

set_option maxHeartbeats 2000000 in
theorem SortRuns_at (base : Nat) (v : Value) (L : List (Nat × Nat)) (b : Nat) (w : World) (ho : w.ownsRow base 39 2 v L.length (Be L)) (hb : ByAt w b) (hbv : ¬ v.ownBlock = some b) (hl : L.length <= 65536) :
  Calls Tryz.prog 54 #[v, .func (.func 52) #[] #[.pointer (some ⟨b, 0, none⟩)]] w λ e w' =>
   e = .returned (.tuple #[]) /\ ∃ M : List (Nat × Nat), M.Perm L /\ M.Pairwise (λ a b => a.1 <= b.1) /\ w'.ownsRow base 39 2 v M.length (Be M) /\ Keep (λ k => v.ownBlock = some k) w w' := by
 rcases ho.2 with ⟨rfl, h0⟩ | ⟨g, cap, cur, rfl, h2, h3, h4, h5, h6, h7⟩
 ·have hL := List.length_eq_zero_iff.1 h0
  subst hL
  refine (Go.Proofs.AnyF.slices_SortFunc_none Tryz.sortRuns none 0 _ w).mono ?_
  rintro e w' ⟨rfl, rfl⟩
  exact ⟨rfl, [], List.Perm.refl _, List.Pairwise.nil, ho, Keep.refl _ _⟩
 ·have eg : ∀ args w, (callFunc 52 args).run Tryz.prog w = .ok (.enter 52 args) w := enters_of Tryz.func52 (by kernel_rfl) rfl
  have hbg : ¬ b = g := λ e => hbv (by rw [e]; rfl)
  have hcmp : Go.Proofs.CmpLays Tryz.prog 52 #[.pointer (some ⟨b, 0, none⟩)] encR 2 (λ x y => cmpN x.1 y.1) g 0 L.toArray.size w := λ m os dk hs x y =>
   (By_at x y b _ (hb.sort hbg)).mono λ e w' ⟨h1, _, h2⟩ => ⟨h1, h2⟩
  have hH := holdsK_of_block h3 h7
  have hcon := Go.Proofs.AnyQ.slices_SortFunc Tryz.sortRuns 2 Tryz.isAgg39 Tryz.sizeOf39 encR encR_len encR_one (λ x y => cmpN x.1 y.1) swoR 52 #[.pointer (some ⟨b, 0, none⟩)] g 0 cap L.toArray w eg hcmp hH (lt_of_heap h3) (by simp; omega)
  refine hcon.mono ?_
  rintro e w' ⟨rfl, d', n, os, hp, hs, rfl⟩
  have hsz : d'.toList.length = L.length := by have := hp.1; simpa using this
  refine ⟨rfl, d'.toList, by simpa using permR hp, sortedR (by simpa using hsz) (by simpa using hs), ?_, ?_⟩
  ·rw [hsz]
   have := owns_sortedR (n := n) (os := os) (M := d'.toList) hsz h2 h3 h4 h5 h6
   simpa using this
  ·exact ((Keep.refl (λ k => k = g) w).grown (grownBy_sortedR _) (λ k e _ => by injection e with e; exact e.symm)).mono λ i _ h => by subst h; rfl

open Go.RowKit

theorem Compact_none (va : Option Addr) (vc : Nat) (fv : Value) (w : World) : Calls Tryz.prog 55 #[.slice va 0 vc, fv] w λ e w' => e = .returned (.slice va 0 vc) /\ w' = w := by
 go_enter Tryz.func55, Tryz.ntmps55
 go_wp2
 go_ret
 exact ⟨rfl, rfl⟩

def RisePost (v : Value) (L : List (Nat × Nat)) (w : World) (e : Ending) (w' : World) : Prop :=
 ∃ v' M, e = .returned v' /\ UpR M /\ (∀ r, r ∈ M ↔ r ∈ L) /\ BK w' v' M /\ Keep (λ k => v.ownBlock = some k) w w'

set_option maxHeartbeats 2000000 in
theorem Rising_at (base : Nat) (v : Value) (L : List (Nat × Nat)) (w : World) (ho : w.ownsRow base 39 2 v L.length (Be L)) (hl : L.length <= 65536) (hu : ∀ a ∈ L, ∀ b ∈ L, a.1 = b.1 -> a = b) :
  Calls Tryz.prog 24 #[v, .func (.func 25) #[] #[]] w (RisePost v L w) := by
 obtain ⟨va, vc, rfl⟩ := Bd ho
 obtain ⟨v, hv⟩ : ∃ v, Value.slice va L.length vc = v := ⟨_, rfl⟩
 rw [hv] at ho ⊢
 have HO := sE ho
 have HU := sE hu
 have HVv := sE hv
 clear ho hu hv
 go_enter Tryz.func24, Tryz.ntmps24
 go_wp2_with fail
 obtain ⟨w1, hw1⟩ : ∃ w1, w1 = w.alloc (.cells #[.func (.func 25) #[] #[]] 68) := ⟨_, rfl⟩
 obtain ⟨w2, hw2⟩ : ∃ w2, w2 = w1.alloc (.cells #[.func (.func 52) #[] #[.pointer (some ⟨w.heap.size, 0, none⟩)]] 108) := ⟨_, rfl⟩
 have k1 : Keep Aa w w1 := by rw [hw1]; exact (Keep.refl _ w).alloc _
 have k2 : Keep Aa w1 w2 := by rw [hw2]; exact (Keep.refl _ w1).alloc _
 have b1 : w1.heap[w.heap.size]? = some (.cells #[.func (.func 25) #[] #[]] 68 (0, 0)) := by rw [hw1]; exact World.alloc_heap_new w _
 have b2 : w2.heap[w1.heap.size]? = some (.cells #[.func (.func 52) #[] #[.pointer (some ⟨w.heap.size, 0, none⟩)]] 108 (0, 0)) := by rw [hw2]; exact World.alloc_heap_new w1 _
 have z1 : w1.heap.size = w.heap.size + 1 := by rw [hw1]; simp
 rw [z1] at b2
 have b1' := k2.at_ b1 (λ h => h)
 rw [<- hw1, <- hw2]
 have hBy : ByAt w2 w.heap.size := ⟨cell_of_one b1', lt_of_heap b1'⟩
 have hEq : EqAt w2 (w.heap.size + 1) w.heap.size := ⟨cell_of_one b2, lt_of_heap b2, hBy⟩
 have K2 := k1.then' k2
 have hvb : ∀ k, v.ownBlock = some k -> k < w.heap.size := λ k h => (Al HO.out h).2
 have HS := sE (SortRuns_at base v L w.heap.size w2 (Az HO.out K2 (λ _ _ h => h)) hBy (λ h => by have := hvb _ h; omega) hl)
 have HE2 := sE hEq
 have HK2 := sE K2
 have HVb := sE hvb
 clear hw1 hw2 k1 k2 b1 b2 z1 b1' hBy hEq K2 hvb
 refine HS.out.mono ?_
 rintro e w3 ⟨rfl, M, hp, hs, hown, k3⟩
 have HM : Seal (UpR (BL M) /\ ∀ r, r ∈ BL M ↔ r ∈ L) := ⟨by
  obtain ⟨h1, h2⟩ := onceR_up hs (λ a ha b hb => HU.out a (hp.mem_iff.1 ha) b (hp.mem_iff.1 hb))
  exact ⟨h1, λ r => by rw [h2, hp.mem_iff]⟩⟩
 have hML : M.length = L.length := hp.length_eq
 have HK3 : Seal (Keep (λ k => v.ownBlock = some k) w w3) := ⟨(HK2.out.Au _).trans k3 (λ _ _ h => h)⟩
 by_cases hne : M = []
 ·have hv := HVv.out
  have hL0 : L.length = 0 := by rw [<- hML, hne]; rfl
  rw [hL0] at hv
  subst hv
  have HN : Seal (BL M = []) := ⟨by rw [hne]; rfl⟩
  clear hp hs hown k3 hML hne hL0 HS
  go_wp2_with (go_at_call 55; refine (Compact_none _ _ _ _).mono ?_; rintro e w4 ⟨rfl, rfl⟩)
  go_ret
  refine ⟨_, [], rfl, List.Pairwise.nil, λ r => by rw [<- HM.out.2 r, HN.out], ⟨_, _, rfl, λ i x hx => by simp at hx⟩, HK3.out⟩
 ·obtain ⟨g, cap, hvg, hbg, hr⟩ := RunF.AO hown hne
  have hgl : g < w.heap.size := HVb.out g (by rw [hvg]; rfl)
  have hvo : v.ownBlock = some g := by rw [hvg]; rfl
  have HEq3 : Seal (EqAt w3 (w.heap.size + 1) w.heap.size) := ⟨by
   refine HE2.out.keepG (g := g) (k3.mono λ k _ h => ?_) (by omega) (by omega)
   rw [hvo] at h
   injection h with h
   exact h.symm⟩
  obtain ⟨n, hn⟩ : ∃ n, M.length = n := ⟨_, rfl⟩
  have HC := sE (Compact_at M g cap n (w.heap.size + 1) _ w3 (by rw [<- hn]; exact hr) hn (λ p x hx => by rw [hx]; rfl) (by omega) (by have := hr.cap_le; unfold maxLen at this; omega) (by omega) (λ x y W' kk => EqBy_at x y _ w.heap.size W' (HEq3.out.keepG kk (by omega) (by omega))))
  rw [hn] at hvg
  have HVo := sE hvo
  subst hvg
  clear hp hs hown k3 hML hne hr hvo HS
  go_wp2_with fail
  refine HC.out.mono ?_
  rintro e w4 ⟨rfl, k4, f, hf, hfx⟩
  have HR := sE (BK.of_runF hf hfx)
  obtain ⟨m, hm⟩ : ∃ m, (BL M).length = m := ⟨_, rfl⟩
  rw [hm] at HR ⊢
  clear hf hfx
  go_wp2
  go_ret
  exact ⟨_, BL M, rfl, HM.out.1, HM.out.2, HR.out, HK3.out.trans k4 (λ i _ h => by rw [HVo.out, h])⟩

end Go.Proofs.YtgccjhnafhlndaaGreatDoor
