/-
 isle.Of: the islands that pinned objects make.
 isle.Water: what is between the islands.
 isle.Of where it answers nothing: without a space; where no object begins at what is pinned.
 What the laws say of islands and water (plain).
-/
import Derived.Test.YtgccjhnafhlndaaGreatDoorIsleS
import Derived.Test.YtgccjhnafhlndaaGreatDoorIsleR
import Derived.Test.YtgccjhnafhlndaaGreatDoorIsleD
import Derived.Test.YtgccjhnafhlndaaGreatDoorMarkC
namespace Go.Proofs.YtgccjhnafhlndaaGreatDoor
open Go.RowKit
set_option linter.unusedVariables false

def szAt (cs : List Cel) (g : Nat) : Nat :=
 match cs.find? (λ c => c.tag == 1 && c.g == g) with
 | some c => c.sz
 | none => 0

theorem szAt_cell {cs : List Cel} {H : Nat} {c : Cel} (ht : Am 0 cs H) (hc : c ∈ cs) (h1 : c.tag = 1) : szAt cs c.g = c.sz := by
 obtain ⟨d, e1, e2, e3, e4⟩ := objG_find (g := c.g) ⟨c, hc, h1, rfl⟩
 unfold szAt
 rw [e1]
 have := Am.only ht e2 hc e4
 simp only
 rw [this]

def Ce (gs : List Nat) (g : Nat) : Bool := gs.contains g

theorem Cm {gs : List Nat} {g : Nat} : Ce gs g = true ↔ g ∈ gs := by
 unfold Ce
 exact List.contains_iff_mem

def Cj (cs : List Cel) (gs : List Nat) : List (Nat × Nat) := gs.map λ g => (g, szAt cs g)

theorem pinsOf_len (cs : List Cel) (gs : List Nat) : (Cj cs gs).length = gs.length := List.length_map ..

theorem pinsOf_take {cs : List Cel} {gs : List Nat} {j g : Nat} (h : gs[j]? = some g) : Cj cs (gs.take (j + 1)) = Cj cs (gs.take j) ++ [(g, szAt cs g)] := by
 unfold Cj
 rw [Dw h, List.map_append]
 rfl

theorem pinsOf_fst {cs : List Cel} {gs : List Nat} : ∀ a ∈ Cj cs gs, ∀ b ∈ Cj cs gs, a.1 = b.1 -> a = b := by
 intro a ha b hb h
 unfold Cj at ha hb
 obtain ⟨x, -, rfl⟩ := List.mem_map.1 ha
 obtain ⟨y, -, rfl⟩ := List.mem_map.1 hb
 simp only at h
 rw [h]

theorem pins_pinL {cs : List Cel} {gs : List Nat} {H : Nat} {M : List (Nat × Nat)} (hu : UpR M) (hm : ∀ r, r ∈ M ↔ r ∈ Cj cs gs) (ho : ∀ g ∈ gs, DN cs g) (ht : Am 0 cs H) : M = pinL cs (Ce gs) := by
 refine hu.uniq ((Eo (p := Ce gs) ht).up.1) λ r => ?_
 rw [hm, mem_pinL]
 unfold Cj
 rw [List.mem_map]
 constructor
 ·rintro ⟨g, hg, rfl⟩
  obtain ⟨c, hc, h1, rfl⟩ := ho g hg
  exact ⟨c, hc, h1, Cm.2 hg, by rw [szAt_cell ht hc h1]⟩
 ·rintro ⟨c, hc, h1, hp, rfl⟩
  exact ⟨c.g, Cm.1 hp, by rw [szAt_cell ht hc h1]⟩

theorem Bw.take : ∀ {L : List (Nat × Nat)} {e H : Nat} (j : Nat), Bw e L H -> Bw e (L.take j) H
 | [], e, H, j, h => by simpa using h
 | r :: L, e, H, 0, h => h.le
 | r :: L, e, H, j + 1, ⟨h1, h2, h3⟩ => ⟨h1, h2, h3.take j⟩

theorem Bw.fits : ∀ {L : List (Nat × Nat)} {e H : Nat}, Bw e L H -> ∀ x ∈ L, x.1 + x.2 <= H
 | [], e, H, h, x, hx => by cases hx
 | r :: L, e, H, ⟨h1, h2, h3⟩, x, hx => by
  rcases List.mem_cons.1 hx with rfl | hx
  ·exact h3.le
  ·exact h3.fits x hx

theorem joinGo_len : ∀ (c : Nat × Nat) (rs : List (Nat × Nat)), (BB c rs).length <= rs.length + 1
 | c, [] => by simp [BB]
 | c, r :: rs => by
  unfold BB
  split
  ·have := joinGo_len (c.1, c.2 + r.2) rs
   simp only [List.length_cons]
   omega
  ·have := joinGo_len r rs
   simp only [List.length_cons]
   omega

theorem joinsR_len (rs : List (Nat × Nat)) : (CU rs).length <= rs.length := by
 cases rs with
 | nil => exact Nat.le_refl _
 | cons r rs => exact joinGo_len r rs

theorem Bw.len : ∀ {L : List (Nat × Nat)} {e H : Nat}, Bw e L H -> L.length <= H - e
 | [], e, H, h => Nat.zero_le _
 | r :: L, e, H, ⟨h1, h2, h3⟩ => by
  have := h3.len
  have := h3.le
  simp only [List.length_cons]
  omega

theorem BK.not_box {w : World} {v : Value} {L : List (Nat × Nat)} {b o i lb : Nat} {x : Nat × Nat} {a : Option Addr} {n c : Nat} {T : TypeId} (h : w.cell? ⟨b, o + i * 2, none⟩ = some (.int .i64 (x.1 : Nat))) (hb : w.heap[lb]? = some (.cells #[.slice a n c] T (0, 0))) : ¬ b = lb := by
 intro e
 subst e
 simp only [World.cell?, hb] at h
 generalize o + i * 2 = k at h
 cases k with
 | zero => simp at h
 | succ k => simp at h

def Dc (base : Nat) (L : List (Nat × Nat)) (w : World) (e : Ending) (w' : World) : Prop :=
 ∃ a c, e = .returned (.tuple #[.slice a L.length c, .int .i64 0]) /\ w'.ownsRow base 39 2 (.slice a L.length c) L.length (Be L) /\ Keep Aa w w'

def PinOne (P : Sp) (H p : Nat) (z : Nat) (g : Nat) (W' : World) : Prop :=
 (∀ W2, Keep Aa W' W2 -> ∃ ty ln : Nat, Calls Tryz.prog 20 #[.pointer (some ⟨P.a, 0, none⟩), .int .i64 (g : Nat)] W2 λ e w' => e = .returned (.tuple #[Ai 1 (ty : Nat) (ln : Nat) (z : Nat), .int .i64 0]) /\ Keep Aa W2 w') /\
 ∀ W2, Keep Aa W' W2 -> Calls Tryz.prog 22 #[.pointer (some ⟨p, 0, none⟩), .int .i64 (g : Nat)] W2 λ e w' => e = .returned (.bool true) /\ Keep Aa W2 w'

theorem pin_one {P : Sp} {W : Nat -> Nat} {f : Nat -> Bool} {cs : List Cel} {w : World} {p q g : Nat} (hsp : SpaceAt w P W f) (hc : CellsAt P W cs) (hst : ∀ i, i < P.n / 2 -> f i = Aq cs i) (hb : AP w p q f (P.n / 2)) (ho : DN cs g) : PinOne P (P.n / 2) p (szAt cs g) g w := by
 obtain ⟨c, hm, h1, rfl⟩ := ho
 have hlt := (hc.tl.mem hm)
 have hg : c.g < P.n / 2 := by omega
 refine ⟨λ W2 k => ⟨c.ty, c.ln, ?_⟩, λ W2 k => ?_⟩
 ·have := SHead_cell c P W f W2 (hsp.Ac k) hg (hc.hd c hm) (hc.ok c hm)
  rw [szAt_cell hc.tl hm h1]
  rw [h1] at this
  exact this
 ·have := Has_in c.g (P.n / 2) p q f W2 (AP.keep hb k (λ h => h) (λ h => h)) hg
  rw [hst c.g hg, objG_start.1 ⟨c, hm, h1, rfl⟩] at this
  exact this

set_option maxRecDepth 20000 in
set_option maxHeartbeats 4000000 in
theorem IsleOf_at (P : Sp) (W : Nat -> Nat) (f : Nat -> Bool) (cs : List Cel) (w : World) (gs : List Nat) (v : Value) (hsp : SpaceAt w P W f) (hc : CellsAt P W cs) (hst : ∀ i, i < P.n / 2 -> f i = Aq cs i) (hv : Bh w v gs) (ho : ∀ g ∈ gs, DN cs g) (hl : gs.length <= 65536) :
  Calls Tryz.prog 9 #[.pointer (some ⟨P.s, 0, none⟩), v] w (Dc w.heap.size (Ar cs (Ce gs)) w) := by
 have hsz : ∀ g ∈ gs, g + szAt cs g <= 65536 := λ g hg => by
  obtain ⟨c, hm, h1, rfl⟩ := ho g hg
  rw [szAt_cell hc.tl hm h1]
  have := hc.tl.mem hm
  have := hsp.ar.small
  omega
 have hrise := Eo (p := Ce gs) hc.tl
 have hsm := hsp.ar.small
 obtain ⟨w1, hw1⟩ : ∃ w1, w1 = w.alloc (.cells #[.slice none 0 0] 33) := ⟨_, rfl⟩
 have k1 : Keep Aa w w1 := by rw [hw1]; exact (Keep.refl _ w).alloc _
 have b1 : w1.heap[w.heap.size]? = some (.cells #[.slice none 0 0] 33 (0, 0)) := by rw [hw1]; exact World.alloc_heap_new w _
 have z1 : w1.heap.size = w.heap.size + 1 := by rw [hw1]; simp
 have HSt := sE (Starts_at P W f w1 (hsp.Ac k1))
 have HPin : Seal (∀ W' p q, Keep Aa w W' -> AP W' p q f (P.n / 2) -> ∀ g ∈ gs, PinOne P (P.n / 2) p (szAt cs g) g W') := ⟨λ W' p q k hb g hg => pin_one (hsp.Ac k) hc hst hb (ho g hg)⟩
 have HAr : Seal (∀ W', Keep Aa w W' -> Calls Tryz.prog 21 #[.pointer (some ⟨P.s, 0, none⟩)] W' λ e w' => e = .returned (.pointer (some ⟨P.a, 0, none⟩)) /\ w' = W') := ⟨λ W' k => Eh P W f W' (hsp.Ac k)⟩
 have HEnd : Seal (∀ M, UpR M -> (∀ r, r ∈ M ↔ r ∈ Cj cs gs) -> M = pinL cs (Ce gs)) := ⟨λ M h1 h2 => pins_pinL h1 h2 ho hc.tl⟩
 have HZ := sE hsz
 have HRi := sE hrise
 have HV := sE hv
 obtain ⟨va, vc, rfl, -⟩ := hv
 obtain ⟨n, hn⟩ : ∃ n, gs.length = n := ⟨_, rfl⟩
 rw [hn] at HV hl ⊢
 have HN := sE hn
 have HK1 := sE k1
 have HB1 := sE b1
 have HZ1 := sE z1
 obtain ⟨H, hH⟩ : ∃ H, P.n / 2 = H := ⟨_, rfl⟩
 rw [hH] at HPin HSt HRi
 have hH2 : H <= 32768 := by omega
 clear hsp hc hst ho hn hsz hrise hsm k1 b1 z1 hH
 go_enter Tryz.func9, Tryz.ntmps9
 go_wp2_with fail
 rw [<- hw1]
 clear hw1
 refine HSt.out.mono ?_
 rintro e w2 ⟨p, q, rfl, hp, hq, hbits, k2⟩
 have HB2 := sE (k2.at_ HB1.out (λ h => h))
 have HK2 : Seal (Keep Aa w w2) := ⟨HK1.out.then' k2⟩
 have HP2 : Seal (∀ g ∈ gs, PinOne P H p (szAt cs g) g w2) := ⟨HPin.out w2 p q (HK1.out.then' k2) hbits⟩
 have HZ2 : Seal (w.heap.size < w2.heap.size) := ⟨by have := HZ1.out; have := k2.size; omega⟩
 clear hp hq hbits k2 HSt HPin
 go_wp2_with fail
 go_loopw [6, 21] (λ v6 i wr => ∃ j : Nat, j <= n /\ i = .int .i64 (j : Nat) /\ wr.ownsRow w2.heap.size 39 2 v6 (Cj cs (gs.take j)).length (Be (Cj cs (gs.take j))) /\ Keep Aa w2 wr) (λ _ i _ => n - (intOf i).toNat)
 case atStart => exact ⟨0, Nat.zero_le _, rfl, World.ownsRow_nil _ _ _ _, Keep.refl _ _⟩
 case round =>
  obtain ⟨j, hj, rfl, hown, hk⟩ := hrel
  have HO := sE hown
  have HK := sE hk
  clear hown hk
  by_cases hjl : j < n
  ·have hjl' : (j : Int) < (n : Int) := by omega
   obtain ⟨va', vc', e, hx⟩ := HV.out
   injection e with e1 e3 e2
   clear e3
   subst e1 e2
   obtain ⟨g, hg⟩ : ∃ g, gs[j]? = some g := ⟨_, List.getElem?_eq_getElem (by rw [HN.out]; exact hjl)⟩
   obtain ⟨bb, o, rfl, x0⟩ := hx j g hg
   have y0 := (HK2.out.then' HK.out).cell x0 (λ h => h)
   obtain ⟨pa, pb⟩ := HP2.out g (List.mem_of_getElem? hg)
   have HHd := sE (λ W2 k => pa W2 (HK.out.then' k))
   have HHs := sE (λ W2 k => pb W2 (HK.out.then' k))
   have HT := sE (pinsOf_take (cs := cs) hg)
   have hpl : (Cj cs (gs.take j)).length = j := by rw [pinsOf_len, List.length_take, HN.out]; omega
   obtain ⟨z, hz⟩ : ∃ z, szAt cs g = z := ⟨_, rfl⟩
   have hgz := HZ.out g (List.mem_of_getElem? hg)
   rw [hz] at HHd HT hgz
   obtain ⟨Q, hQ⟩ : ∃ Q, Cj cs (gs.take j) = Q := ⟨_, rfl⟩
   rw [hQ] at HT HO hpl
   have HQ := sE hpl
   rw [hpl] at HO
   clear hx x0 pa pb hz hg hQ hpl
   go_wp2_with fail
   refine (HAr.out _ (HK2.out.then' HK.out)).mono ?_
   rintro e w3 ⟨rfl, rfl⟩
   obtain ⟨ty, ln, hd⟩ := HHd.out w3 (Keep.refl _ _)
   go_wp2_with fail
   refine hd.mono ?_
   rintro e w4 ⟨rfl, k4⟩
   unfold Ai
   clear hd
   obtain ⟨w5, hw5⟩ : ∃ w5, w5 = w4.alloc (.cells #[.int .u8 1, .int .i64 (ty : Nat), .int .i64 (ln : Nat), .int .i64 (z : Nat)] 44) := ⟨_, rfl⟩
   have k5 : Keep Aa w4 w5 := by rw [hw5]; exact (Keep.refl _ w4).alloc _
   have b5 : w5.heap[w4.heap.size]? = some (.cells #[.int .u8 1, .int .i64 (ty : Nat), .int .i64 (ln : Nat), .int .i64 (z : Nat)] 44 (0, 0)) := by rw [hw5]; exact World.alloc_heap_new w4 _
   have K5 := sE (k4.then' k5)
   have HX3 : Seal (w5.cell? ⟨w4.heap.size, 3, none⟩ = some (.int .i64 (z : Nat))) := ⟨by simp [World.cell?, b5]⟩
   clear k4 k5 b5
   go_wp2_with fail
   rw [<- hw5]
   clear hw5
   refine (HHs.out w5 K5.out).mono ?_
   rintro e w6 ⟨rfl, k6⟩
   have x3 := k6.cell HX3.out (λ h => h)
   have K6 := sE (K5.out.then' k6)
   have HO6 := sE (Az HO.out K6.out (λ _ _ h => h))
   obtain ⟨qa, qc, rfl⟩ := Bd HO6.out
   have hzn : j <= 65536 := by omega
   have hs26 := (HK.out.then' K6.out).size
   clear k6
   go_wp2_with (at_builtin; obtain ⟨i0, hi, hz0, hz1, hz2⟩ := info_parts Tryz.infoRun; go_loud (refine wpList_append_lies _ rfl (.tmp 40) (.tmp 45) 33 rfl w2.heap.size 39 i0 _ 2 16 Tryz.BJ hi hz0 hz1 hz2 rfl (by omega) (.slice qa j qc) j (Be Q) rfl (HO6.out.alloc _) ⟨w6.heap.size, 0, none⟩ 1 1 [.int .i64 (g : Nat), .int .i64 (z : Nat)] rfl rfl (World.news_of_block (World.alloc_heap_new w6 _)) (by intro u hu; simp at hu; rcases hu with rfl | rfl <;> rfl) (by omega) (by unfold maxLen; omega) (by omega) (by first | (simp; done) | (simp; omega)) (w6.heap.size + 1) (by simp) ?_); intro gn capn w7 hown7 hgrow hat hlt; clear hi hz0 hz1 hz2; have HR7 := sE hown7; have HG7 := sE hgrow; clear hown7 hgrow hat hlt)
   have k7 : Keep Aa w2 w7 := ((HK.out.then' K6.out).alloc _).grown HG7.out (λ k e hk => by have := (Al HO6.out e).1; omega)
   refine ⟨⟨j + 1, by omega, by go_num, ?_, k7⟩, by simp only [intOf]; omega⟩
   rw [HT.out, Du, List.length_append, HQ.out]
   exact HR7.out
  ·obtain rfl : j = n := by omega
   have hwhole : gs.take j = gs := List.take_of_length_le (by rw [HN.out]; exact Nat.le_refl _)
   rw [hwhole] at HO
   have hpl : (Cj cs gs).length = j := by rw [pinsOf_len, HN.out]
   have HRs := sE (Rising_at w2.heap.size _ (Cj cs gs) wr HO.out (by rw [hpl]; omega) pinsOf_fst)
   obtain ⟨qa, qc, rfl⟩ := Bd HO.out
   rw [hpl] at HRs
   have HKw : Seal (Keep Aa w wr) := ⟨HK2.out.then' HK.out⟩
   have HBr := sE (HK.out.at_ HB2.out (λ h => h))
   have HOb : Seal (∀ k, (Value.slice qa j qc).ownBlock = some k -> w2.heap.size <= k) := ⟨λ k e => by rw [hpl] at HO; exact (Al HO.out e).1⟩
   rw [hpl]
   clear HO HK hwhole hpl HK2 HB2 HAr HP2
   go_wp2_with fail
   refine HRs.out.mono ?_
   rintro e w3 ⟨v', M, rfl, hu, hm, hrow, kr⟩
   have hM := HEnd.out M hu hm
   have HK3 : Seal (Keep Aa w w3) := ⟨((HKw.out.Au _).trans kr (λ _ _ h => h)).mono (λ i hi h => by have := HOb.out i h; have := HZ2.out; omega)⟩
   have HB3 := sE (kr.at_ HBr.out (λ h => by have := HOb.out _ h; have := HZ2.out; omega))
   have HMr := sE hrow
   have hR := HRi.out
   rw [<- hM] at hR
   have HRm := sE hR
   have hml := hR.len
   have HMe : Seal (M = pinL cs (Ce gs)) := ⟨hM⟩
   obtain ⟨ma, mc, rfl, hmx⟩ := hrow
   obtain ⟨ml, hml'⟩ : ∃ ml, M.length = ml := ⟨_, rfl⟩
   have HML := sE hml'
   have HMx := sE hmx
   have hlt3 : w.heap.size < w3.heap.size := lt_of_heap HB3.out
   rw [hml'] at hml HMr ⊢
   clear hu hm hM hR kr hmx hml' HEnd HRs HBr HOb HKw
   go_wp2_with fail
   go_loopw [52] (λ i wx => ∃ j : Nat, j <= ml /\ i = .int .i64 (j : Nat) /\ ∃ vv, wx.heap[w.heap.size]? = some (.cells #[vv] 33 (0, 0)) /\ wx.ownsRow w3.heap.size 39 2 vv (CU (M.take j)).length (Be (CU (M.take j))) /\ Keep (λ k => k = w.heap.size \/ w3.heap.size <= k) w3 wx) (λ i _ => ml - (intOf i).toNat)
   case atStart => exact ⟨0, Nat.zero_le _, rfl, _, HB3.out, World.ownsRow_nil _ _ _ _, Keep.refl _ _⟩
   case round =>
    obtain ⟨i, hi, rfl, vv, hbx, hown, hk⟩ := hrel
    have HKx := sE hk
    have HBx := sE hbx
    have HOx := sE hown
    clear hbx hown hk
    by_cases hil : i < ml
    ·have hil' : (i : Int) < (ml : Int) := by omega
     obtain ⟨x, hx⟩ : ∃ x, M[i]? = some x := ⟨_, List.getElem?_eq_getElem (by rw [HML.out]; exact hil)⟩
     obtain ⟨bb, o, rfl, hb0, y0, y1⟩ := HMx.out i x hx
     have hnb := BK.not_box (L := M) (v := .slice none 0 0) y0 HB3.out
     have hbn : ¬ (bb = w.heap.size \/ w3.heap.size <= bb) := by omega
     have x0 := HKx.out.cell y0 hbn
     have x1 := HKx.out.cell y1 hbn
     have HTk : Seal (CU (M.take (i + 1)) = joinL (CU (M.take i)) x) := ⟨by rw [Dw hx, joinsR_snoc]⟩
     have hfx := HRm.out.fits x (List.mem_of_getElem? hx)
     obtain ⟨J, hJ⟩ : ∃ J, CU (M.take i) = J := ⟨_, rfl⟩
     have HJf : Seal (∀ y ∈ J, y.1 + y.2 <= 65536) := ⟨λ y hy => by
      rw [<- hJ] at hy
      have := (joinsR_apart (HRm.out.take i)).rise.fits y hy
      omega⟩
     have HJl : Seal (J.length <= 65536) := ⟨by
      rw [<- hJ]
      have h1 := joinsR_len (M.take i)
      have h2 : (M.take i).length <= i := by rw [List.length_take]; omega
      omega⟩
     rw [hJ] at HOx HTk
     have hs3 := HKx.out.size
     have hkb : ∀ k, vv.ownBlock = some k -> w3.heap.size <= k := λ k e => (Al HOx.out e).1
     obtain ⟨wj, hwj⟩ : ∃ wj, wj = wr.alloc (.cells #[.int .i64 (x.1 : Nat), .int .i64 (x.2 : Nat)] 39) := ⟨_, rfl⟩
     have kj : Keep Aa wr wj := by rw [hwj]; exact (Keep.refl _ wr).alloc _
     have HJo := sE (Join_at w.heap.size w3.heap.size vv J x wj (kj.at_ HBx.out (λ h => h)) (Az HOx.out kj (λ _ _ h => h)) hlt3 (by have := kj.size; omega) HJl.out HJf.out (by omega))
     have HKj : Seal (Keep (λ k => k = w.heap.size \/ w3.heap.size <= k) w3 wj) := ⟨HKx.out.trans kj (λ _ _ h => h.elim)⟩
     have HKb := sE hkb
     have hbj : wj.cell? ⟨wr.heap.size, 0, none⟩ = some (.int .i64 (x.1 : Nat)) /\ wj.cell? ⟨wr.heap.size, 1, none⟩ = some (.int .i64 (x.2 : Nat)) := by
      have hb := World.alloc_heap_new wr (.cells #[.int .i64 (x.1 : Nat), .int .i64 (x.2 : Nat)] 39)
      rw [<- hwj] at hb
      exact ⟨by simp [World.cell?, hb], by simp [World.cell?, hb]⟩
     obtain ⟨z0, z1⟩ := hbj
     clear hbn hx y0 y1 hJ hs3 hkb kj hb0 HKx HOx HBx
     subst hwj
     go_wp2_with fail
     refine HJo.out.mono ?_
     rintro e w5 ⟨rfl, v5, hb5, ho5, k5⟩
     have HB5 := sE hb5
     have HO5 := sE ho5
     have HK5 : Seal (Keep (λ k => k = w.heap.size \/ w3.heap.size <= k) w3 w5) := ⟨HKj.out.trans k5 (λ k _ h => by
      rcases h with h | h
      ·exact .inl h
      ·exact .inr (HKb.out k h))⟩
     clear hb5 ho5 k5
     go_wp2_with fail
     exact ⟨⟨i + 1, by omega, by go_num, v5, HB5.out, by rw [HTk.out]; exact HO5.out, HK5.out⟩, by simp only [intOf]; omega⟩
    ·obtain rfl : i = ml := by omega
     have hwhole : M.take i = M := List.take_of_length_le (by rw [HML.out]; exact Nat.le_refl _)
     have hL : CU M = Ar cs (Ce gs) := by unfold Ar; rw [<- HMe.out]
     rw [hwhole, hL] at HOx
     have c4 := cell_of_one HBx.out
     have f4 := free_of_one HBx.out
     have hKe : Keep Aa w (wr.setCell ⟨w.heap.size, 0, none⟩ vv) := ((HK3.out.Au _).trans (HKx.out.setCell (λ _ => .inl rfl) _) (λ _ _ h => h)).mono (λ i hi h => by
      rcases h with h | h <;> omega)
     have hOe : (wr.setCell ⟨w.heap.size, 0, none⟩ vv).ownsRow w.heap.size 39 2 vv (Ar cs (Ce gs)).length (Be (Ar cs (Ce gs))) := C9 (Az HOx.out ((Keep.refl (λ k => k = w.heap.size) wr).setCell (λ _ => rfl) _) (λ b e h => by
      have := (Al HOx.out e).1
      omega)) (by omega)
     obtain ⟨ea, ec, rfl⟩ := Bd hOe
     have HKe := sE hKe
     have HBx9 := sE HBx.out
     have HOe := sE hOe
     clear hKe hOe hL hwhole HOx HKx HML HMe HMx HMr HRm
     go_wp2_with fail
     have b9 : (wr.setCell ⟨w.heap.size, 0, none⟩ (.slice ea (Ar cs (Ce gs)).length ec)).heap[w.heap.size]? = some (.cells #[.slice ea (Ar cs (Ce gs)).length ec] 33 (0, 0)) := by
      have := block_setCell HBx9.out (j := 0) (.slice ea (Ar cs (Ce gs)).length ec)
      simpa using this
     have c9 := cell_of_one b9
     exact bodyPost_ret (v := .tuple #[.slice ea (Ar cs (Ce gs)).length ec, .int .i64 0]) (by simp [results, Tryz.results9, go_sem, c9]) rfl ⟨ea, ec, rfl, HOe.out, HKe.out⟩

theorem endR_le : ∀ (L : List (Nat × Nat)) (e H : Nat), e <= H -> (∀ x ∈ L, x.1 + x.2 <= H) -> endR e L <= H
 | [], e, H, h, _ => h
 | r :: L, e, H, h, hx => endR_le L (r.1 + r.2) H (hx r List.mem_cons_self) (λ x hm => hx x (List.mem_cons_of_mem _ hm))

set_option maxRecDepth 20000 in
set_option maxHeartbeats 4000000 in
theorem IsleWater_at (P : Sp) (W : Nat -> Nat) (f : Nat -> Bool) (cs : List Cel) (w : World) (gs : List Nat) (v : Value) (hsp : SpaceAt w P W f) (hc : CellsAt P W cs) (hst : ∀ i, i < P.n / 2 -> f i = Aq cs i) (hv : Bh w v gs) (ho : ∀ g ∈ gs, DN cs g) (hl : gs.length <= 65536) :
  Calls Tryz.prog 10 #[.pointer (some ⟨P.s, 0, none⟩), v] w (Dc w.heap.size (AV 0 (Ar cs (Ce gs)) (P.n / 2)) w) := by
 have HOf := sE (IsleOf_at P W f cs w gs v hsp hc hst hv ho hl)
 have HSp := sE hsp
 have hH := hsp.ar.small
 have hA := Bp (p := Ce gs) hc.tl
 obtain ⟨va, vc, rfl, -⟩ := hv
 obtain ⟨H, hH'⟩ : ∃ H, P.n / 2 = H := ⟨_, rfl⟩
 obtain ⟨L, hL⟩ : ∃ L, Ar cs (Ce gs) = L := ⟨_, rfl⟩
 rw [hL] at HOf hA ⊢
 rw [hH'] at hA ⊢
 have hH2 : H <= 32768 := by omega
 have HH := sE hH'
 have HA := sE hA.rise
 have HLn := sE hA.rise.len
 clear hsp hc hst ho hl hL hA hH hH'
 go_enter Tryz.func10, Tryz.ntmps10
 go_wp2_with fail
 refine HOf.out.mono ?_
 rintro e w1 ⟨a, c, rfl, hown, k1⟩
 obtain ⟨l, hl⟩ : ∃ l, L.length = l := ⟨_, rfl⟩
 rw [hl] at hown HLn ⊢
 have HLl := sE hl
 have HO1 := sE hown
 have HK1 := sE k1
 have hl2 := HLn.out
 clear hown k1 hl HOf
 go_wp2_with fail
 have HGr := DV P W f w1 (HSp.out.Ac HK1.out)
 rw [HH.out] at HGr
 refine HGr.mono ?_
 rintro e w1' ⟨rfl, rfl⟩
 clear HGr
 have hs1 := HK1.out.size
 go_wp2_with (at_builtin; obtain ⟨i0, hi, hz0, hz1, hz2⟩ := info_parts Tryz.infoRun; go_loud (refine wpList_append_lies _ rfl (.tmp 19) (.tmp 23) 33 rfl w.heap.size 39 i0 _ 2 16 Tryz.BJ hi hz0 hz1 hz2 rfl (by omega) (.slice a l c) l (Be L) rfl (HO1.out.alloc _) ⟨w1'.heap.size, 0, none⟩ 1 1 [.int .i64 (H : Nat), .int .i64 0] rfl rfl (World.news_of_block (World.alloc_heap_new w1' _)) (by intro u hu; simp at hu; rcases hu with rfl | rfl <;> rfl) (by omega) (by unfold maxLen; omega) (by omega) (by first | (simp; done) | (simp; omega)) (w1'.heap.size + 1) (by simp) ?_); intro gn capn w2 hown2 hgrow hat hlt; clear hi hz0 hz1 hz2; have HR2 := sE hown2; have HG2 := sE hgrow; clear hown2 hgrow hat hlt)
 have hk2 : Keep Aa w w2 := (HK1.out.alloc _).grown HG2.out (λ k e hk => by have := (Al HO1.out e).1; omega)
 have HK2 := sE hk2
 obtain ⟨M, hM⟩ : ∃ M, L ++ [(H, 0)] = M := ⟨_, rfl⟩
 have hml : M.length = l + 1 := by rw [<- hM, List.length_append, HLl.out]; rfl
 have hrm : BK w2 (.slice (some ⟨gn, 0, none⟩) M.length capn) M := by
  refine BK.AO (T := 39) (base := w.heap.size) ?_
  have := HR2.out
  rw [hml, <- hM, Du]
  exact this
 have HM := sE hrm
 have HMf : Seal (∀ x ∈ M, x.1 + x.2 <= H) := ⟨λ x hx => by
  rw [<- hM] at hx
  rcases List.mem_append.1 hx with h | h
  ·exact HA.out.fits x h
  ·have := List.mem_singleton.1 h
   subst this
   simp only
   omega⟩
 have HML := sE hml
 have HWt : Seal (AV 0 L H = Cg 0 M) := ⟨by rw [<- hM, Ec]⟩
 clear hk2 hM hml hrm HSp HO1 HG2 HR2 HK1 HA HLn
 go_loopw [4, 7, 26] (λ v4 v7 i wx => ∃ j : Nat, j <= l + 1 /\ i = .int .i64 (j : Nat) /\ v7 = .int .i64 (endR 0 (M.take j) : Nat) /\ wx.ownsRow w2.heap.size 39 2 v4 (Cg 0 (M.take j)).length (Be (Cg 0 (M.take j))) /\ Keep Aa w2 wx) (λ _ _ i _ => l + 1 - (intOf i).toNat)
 case atStart => exact ⟨0, Nat.zero_le _, rfl, rfl, World.ownsRow_nil _ _ _ _, Keep.refl _ _⟩
 case round =>
  obtain ⟨j, hj, rfl, rfl, hown, hk⟩ := hrel
  have HO := sE hown
  have HK := sE hk
  clear hown hk
  have hend : endR 0 (M.take j) <= H := endR_le _ _ _ (Nat.zero_le _) (λ x hx => HMf.out x (List.mem_of_mem_take hx))
  have hgl : (Cg 0 (M.take j)).length <= j := by
   have h1 := gapsR_len (M.take j) 0
   have h2 : (M.take j).length <= j := by rw [List.length_take]; omega
   omega
  by_cases hjl : j < l + 1
  ·have hjl' : (j : Int) < (l : Int) + 1 := by omega
   obtain ⟨x, hx⟩ : ∃ x, M[j]? = some x := ⟨_, List.getElem?_eq_getElem (by rw [HML.out]; exact hjl)⟩
   obtain ⟨ma, mc, hv, hmx⟩ := HM.out
   injection hv with q1 q2 q3
   subst q1
   obtain ⟨bb, o, e0, hb0, y0, y1⟩ := hmx j x hx
   injection e0 with e0
   injection e0 with e0 e1
   subst e0 e1
   rw [Nat.zero_add] at y0 y1
   have x0 := HK.out.cell y0 (λ h => h)
   have x1 := HK.out.cell y1 (λ h => h)
   have hxf := HMf.out x (List.mem_of_getElem? hx)
   have HT : Seal (Cg 0 (M.take (j + 1)) = Cg 0 (M.take j) ++ (if endR 0 (M.take j) < x.1 then [(endR 0 (M.take j), x.1 - endR 0 (M.take j))] else [])) := ⟨by rw [Dw hx, gapsR_snoc]⟩
   have HE : Seal (endR 0 (M.take (j + 1)) = x.1 + x.2) := ⟨by rw [Dw hx, endR_snoc]⟩
   obtain ⟨E, hE⟩ : ∃ E, endR 0 (M.take j) = E := ⟨_, rfl⟩
   obtain ⟨G, hG⟩ : ∃ G, Cg 0 (M.take j) = G := ⟨_, rfl⟩
   rw [hE, hG] at HT
   rw [hE] at hend
   rw [hG] at hgl HO
   rw [hE]
   have u1 : IntKind.i64.wrap ((x.1 : Int) + (x.2 : Int)) = (x.1 : Int) + (x.2 : Int) := by rw [IntKind.wrap_i64]; omega
   clear hx y0 y1 hmx hE hG hb0 q2 q3
   by_cases hlt : E < x.1
   ·have d1 : decide ((E : Int) < (x.1 : Int)) = true := decide_eq_true (by omega)
    have u2 : IntKind.i64.wrap ((x.1 : Int) - (E : Int)) = ((x.1 - E : Nat) : Int) := by rw [IntKind.wrap_i64]; omega
    have HT' : Seal (Cg 0 (M.take (j + 1)) = G ++ [(E, x.1 - E)]) := ⟨by rw [HT.out, if_pos hlt]⟩
    obtain ⟨gl, hgl'⟩ : ∃ gl, G.length = gl := ⟨_, rfl⟩
    rw [hgl'] at HO hgl
    have HGl := sE hgl'
    obtain ⟨qa, qc, rfl⟩ := Bd HO.out
    have hs2 := HK.out.size
    have hA : ((wr.alloc (.cells #[.int .i64 (x.1 : Nat), .int .i64 (x.2 : Nat)] 39)).alloc (.cells #[.int .i64 (E : Nat), .int .i64 ((x.1 - E : Nat) : Int)] 39)).heap[wr.heap.size]? = some (.cells #[.int .i64 (x.1 : Nat), .int .i64 (x.2 : Nat)] 39 (0, 0)) := ((Keep.refl Aa (wr.alloc (.cells #[.int .i64 (x.1 : Nat), .int .i64 (x.2 : Nat)] 39))).alloc _).at_ (World.alloc_heap_new wr _) (λ h => h)
    have hB : ((wr.alloc (.cells #[.int .i64 (x.1 : Nat), .int .i64 (x.2 : Nat)] 39)).alloc (.cells #[.int .i64 (E : Nat), .int .i64 ((x.1 - E : Nat) : Int)] 39)).heap[wr.heap.size + 1]? = some (.cells #[.int .i64 (E : Nat), .int .i64 ((x.1 - E : Nat) : Int)] 39 (0, 0)) := by
     have := World.alloc_heap_new (wr.alloc (.cells #[.int .i64 (x.1 : Nat), .int .i64 (x.2 : Nat)] 39)) (.cells #[.int .i64 (E : Nat), .int .i64 ((x.1 - E : Nat) : Int)] 39)
     rwa [show (wr.alloc (.cells #[.int .i64 (x.1 : Nat), .int .i64 (x.2 : Nat)] 39)).heap.size = wr.heap.size + 1 by simp] at this
    have HA := sE hA
    have HB := sE hB
    clear HT hgl' hA hB
    go_wp2_with (at_builtin; obtain ⟨i0, hi, hz0, hz1, hz2⟩ := info_parts Tryz.infoRun; go_loud (refine wpList_append_lies _ rfl (.tmp 34) (.tmp 41) 33 rfl w2.heap.size 39 i0 _ 2 16 Tryz.BJ hi hz0 hz1 hz2 rfl (by omega) (.slice qa gl qc) gl (Be G) rfl ((HO.out.alloc _).alloc _) ⟨wr.heap.size + 1, 0, none⟩ 1 1 [.int .i64 (E : Nat), .int .i64 ((x.1 - E : Nat) : Int)] rfl rfl (World.news_of_block HB.out) (by intro u hu; simp at hu; rcases hu with rfl | rfl <;> rfl) (by omega) (by unfold maxLen; omega) (by omega) (by first | (simp; done) | (simp; omega)) (wr.heap.size + 2) (by simp) ?_); intro gn3 capn3 w3 hown3 hgrow hat hlt3; clear hi hz0 hz1 hz2; have k3 : Keep (λ k => (Value.slice qa gl qc).ownBlock = some k) ((wr.alloc (.cells #[.int .i64 (x.1 : Nat), .int .i64 (x.2 : Nat)] 39)).alloc (.cells #[.int .i64 (E : Nat), .int .i64 ((x.1 - E : Nat) : Int)] 39)) w3 := (Keep.refl _ _).grown hgrow (λ k e _ => e); have b3 := k3.at_ HA.out (λ h => by have := Al HO.out h; omega); have x9 : w3.cell? ⟨wr.heap.size, 0, none⟩ = some (.int .i64 (x.1 : Nat)) := (by simp [World.cell?, b3]); have x9' : w3.cell? ⟨wr.heap.size, 1, none⟩ = some (.int .i64 (x.2 : Nat)) := (by simp [World.cell?, b3]); have HR3 := sE hown3; have HK3 : Seal (Keep Aa w2 w3) := ⟨((HK.out.alloc _).alloc _).grown hgrow (λ k e hk => by have := (Al HO.out e).1; omega)⟩; clear hown3 hgrow hat k3 b3)
    refine ⟨⟨j + 1, by omega, by go_num, by rw [HE.out]; go_num, ?_, HK3.out⟩, by simp only [intOf]; omega⟩
    rw [HT'.out, Du, List.length_append, HGl.out]
    exact HR3.out
   ·have d1 : decide ((E : Int) < (x.1 : Int)) = false := decide_eq_false (by omega)
    have HT' : Seal (Cg 0 (M.take (j + 1)) = G) := ⟨by rw [HT.out, if_neg hlt, List.append_nil]⟩
    have hA : (wr.alloc (.cells #[.int .i64 (x.1 : Nat), .int .i64 (x.2 : Nat)] 39)).heap[wr.heap.size]? = some (.cells #[.int .i64 (x.1 : Nat), .int .i64 (x.2 : Nat)] 39 (0, 0)) := World.alloc_heap_new wr _
    have z0 : (wr.alloc (.cells #[.int .i64 (x.1 : Nat), .int .i64 (x.2 : Nat)] 39)).cell? ⟨wr.heap.size, 0, none⟩ = some (.int .i64 (x.1 : Nat)) := by simp only [World.cell?, hA]; rfl
    have z1 : (wr.alloc (.cells #[.int .i64 (x.1 : Nat), .int .i64 (x.2 : Nat)] 39)).cell? ⟨wr.heap.size, 1, none⟩ = some (.int .i64 (x.2 : Nat)) := by simp only [World.cell?, hA]; rfl
    clear HT hA
    go_wp2_with fail
    refine ⟨⟨j + 1, by omega, by go_num, by rw [HE.out]; go_num, ?_, HK.out.alloc _⟩, by simp only [intOf]; omega⟩
    rw [HT'.out]
    exact HO.out.alloc _
  ·obtain rfl : j = l + 1 := by omega
   have hwhole : M.take (l + 1) = M := List.take_of_length_le (by rw [HML.out]; exact Nat.le_refl _)
   rw [hwhole, <- HWt.out] at HO
   obtain ⟨qa, qc, rfl⟩ := Bd HO.out
   have HOe := sE (C9 HO.out HK2.out.size)
   have HKe := sE (HK2.out.then' HK.out)
   clear HO HK hwhole
   go_wp2_with fail
   exact bodyPost_ret (v := .tuple #[.slice qa (AV 0 L H).length qc, .int .i64 0]) (by simp [results, Tryz.results10, go_sem]) rfl ⟨qa, qc, rfl, HOe.out, HKe.out⟩

def IsleNo (c : Nat) (w : World) (e : Ending) (w' : World) : Prop :=
 e = .returned (.tuple #[.slice none 0 0, .int .i64 (c : Nat)]) /\ Keep Aa w w'

set_option maxRecDepth 20000 in
theorem IsleOf_nil (v : Value) (w : World) : Calls Tryz.prog 9 #[.pointer none, v] w (IsleNo 1 w) := by
 obtain ⟨w1, hw1⟩ : ∃ w1, w1 = w.alloc (.cells #[.slice none 0 0] 33) := ⟨_, rfl⟩
 have k1 : Keep Aa w w1 := by rw [hw1]; exact (Keep.refl _ w).alloc _
 have b1 : w1.heap[w.heap.size]? = some (.cells #[.slice none 0 0] 33 (0, 0)) := by rw [hw1]; exact World.alloc_heap_new w _
 have c1 := cell_of_one b1
 go_enter Tryz.func9, Tryz.ntmps9
 go_wp2_with fail
 rw [<- hw1]
 exact bodyPost_ret (v := .tuple #[.slice none 0 0, .int .i64 1]) (by simp [results, Tryz.results9, go_sem, c1]) rfl ⟨rfl, k1⟩

set_option maxRecDepth 20000 in
set_option maxHeartbeats 2000000 in
theorem IsleOf_no (P : Sp) (W : Nat -> Nat) (f : Nat -> Bool) (w : World) (g : Nat) (v : Value) (hsp : SpaceAt w P W f) (hg : g < P.n / 2) (hd : BN (W (2 * g)) = false) (hv : Bh w v [g]) :
  Calls Tryz.prog 9 #[.pointer (some ⟨P.s, 0, none⟩), v] w (IsleNo 2 w) := by
 obtain ⟨w1, hw1⟩ : ∃ w1, w1 = w.alloc (.cells #[.slice none 0 0] 33) := ⟨_, rfl⟩
 have k1 : Keep Aa w w1 := by rw [hw1]; exact (Keep.refl _ w).alloc _
 have b1 : w1.heap[w.heap.size]? = some (.cells #[.slice none 0 0] 33 (0, 0)) := by rw [hw1]; exact World.alloc_heap_new w _
 have HSt := sE (Starts_at P W f w1 (hsp.Ac k1))
 have HSp := sE hsp
 have HD := sE hd
 obtain ⟨va, vc, rfl, hx⟩ := hv
 obtain ⟨bb, o, rfl, x0⟩ := hx 0 g rfl
 rw [Nat.add_zero] at x0
 have HX := sE x0
 have HK1 := sE k1
 have HB1 := sE b1
 clear hsp hd hx x0 k1 b1
 go_enter Tryz.func9, Tryz.ntmps9
 go_wp2_with fail
 rw [<- hw1]
 clear hw1
 refine HSt.out.mono ?_
 rintro e w2 ⟨p, q, rfl, hp, hq, hbits, k2⟩
 have HB2 := sE (k2.at_ HB1.out (λ h => h))
 have HK2 : Seal (Keep Aa w w2) := ⟨HK1.out.then' k2⟩
 clear hp hq hbits k2 HSt
 go_wp2_with fail
 go_loopw [21] (λ i wr => i = .int .i64 0 /\ wr = w2) (λ _ _ => 0)
 case atStart => exact ⟨rfl, rfl⟩
 case round =>
  obtain ⟨rfl, rfl⟩ := hrel
  have y0 := HK2.out.cell HX.out (λ h => h)
  have HAr := sE (Eh P W f wr (HSp.out.Ac HK2.out))
  have HHd := sE (SHead_at g P.a P.q P.n W wr (HSp.out.Ac HK2.out).fl (HSp.out.Ac HK2.out).ar hg)
  rw [HD.out] at HHd
  go_wp2_with fail
  refine HAr.out.mono ?_
  rintro e w3 ⟨rfl, rfl⟩
  go_wp2_with fail
  refine HHd.out.mono ?_
  rintro e w4 ⟨rfl, k4⟩
  have HB4 := sE (k4.at_ HB2.out (λ h => h))
  have HK4 := sE (HK2.out.then' k4)
  clear k4 HHd HAr
  simp only [Bool.false_eq_true, if_false]
  unfold Ai
  obtain ⟨w5, hw5⟩ : ∃ w5, w5 = w4.alloc (.cells #[.int .u8 0, .int .i64 0, .int .i64 0, .int .i64 0] 44) := ⟨_, rfl⟩
  have k5 : Keep Aa w4 w5 := by rw [hw5]; exact (Keep.refl _ w4).alloc _
  have b5 := k5.at_ HB4.out (λ h => h)
  have c5 := cell_of_one b5
  have f5 := free_of_one b5
  have b6 := block_setCell b5 (j := 0) (.slice none 0 0)
  have HK5 := sE (HK4.out.then' k5)
  have HB6 := sE b6
  clear k5 b6
  subst hw5
  go_wp2_with fail
  have c6 := cell_of_one (by simpa using HB6.out)
  refine bodyPost_ret (v := .tuple #[.slice none 0 0, .int .i64 2]) (by simp [results, Tryz.results9, go_sem, c6]) rfl ⟨rfl, ?_⟩
  exact ((HK5.out.Au (λ k => k = w.heap.size)).setCell (λ _ => rfl) _).mono (λ i hi h => by omega)

def Dk (rs : List Nat) (j : Nat) : List Nat := ((rs.drop j).reverse).flatMap λ x => [x, x]

theorem turnL_end (rs : List Nat) : Dk rs rs.length = [] := by
 unfold Dk
 rw [List.drop_length]
 rfl

theorem turnL_step {rs : List Nat} {j x : Nat} (h : rs[j]? = some x) : Dk rs j = Dk rs (j + 1) ++ [x, x] := by
 unfold Dk
 obtain ⟨hlt, e⟩ := List.getElem?_eq_some_iff.1 h
 rw [List.drop_eq_getElem_cons hlt, e, List.reverse_cons, List.flatMap_append]
 rfl

theorem twice_len : ∀ (xs : List Nat), (xs.flatMap λ x => [x, x]).length = 2 * xs.length
 | [] => rfl
 | x :: xs => by
  have := twice_len xs
  simp only [List.flatMap_cons, List.length_append, List.length_cons, List.length_nil, this]
  omega

theorem turnL_len (rs : List Nat) (j : Nat) : (Dk rs j).length = 2 * (rs.length - j) := by
 unfold Dk
 rw [twice_len, List.length_reverse, List.length_drop]

theorem mem_turnL {rs : List Nat} {g : Nat} : g ∈ Dk rs 0 ↔ g ∈ rs := by
 unfold Dk
 rw [List.drop_zero, List.mem_flatMap]
 constructor
 ·rintro ⟨x, hx, h⟩
  rw [List.mem_reverse] at hx
  simp at h
  rw [h]
  exact hx
 ·exact λ h => ⟨g, List.mem_reverse.2 h, by simp⟩

theorem inL_congr {xs ys : List Nat} (h : ∀ g, g ∈ xs ↔ g ∈ ys) (g : Nat) : Ce xs g = Ce ys g := by
 rw [Bool.eq_iff_iff, Cm, Cm]
 exact h g

theorem isles_congr {cs : List Cel} {xs ys : List Nat} (h : ∀ g, g ∈ xs ↔ g ∈ ys) : Ar cs (Ce xs) = Ar cs (Ce ys) := by
 unfold Ar
 rw [pinL_congr λ c _ _ => inL_congr h c.g]

theorem cov_in {cs : List Cel} {rs : List Nat} {H g : Nat} {c : Cel} (ht : Am 0 cs H) (ho : ∀ g ∈ rs, DN cs g) (hc : c ∈ cs) (h1 : c.g <= g) (h2 : g < c.fin) : Ch (Ar cs (Ce rs)) g = Ce rs c.g := by
 rw [CR ht hc h1 h2]
 cases h : Ce rs c.g with
 | false => rw [Bool.and_false]
 | true =>
  obtain ⟨d, hd, hd1, hd2⟩ := ho c.g (Cm.1 h)
  have := Am.only ht hd hc hd2
  rw [<- this, hd1]
  rfl

theorem Bw.snoc : ∀ {L : List (Nat × Nat)} {e H : Nat}, Bw e L H -> ∀ x ∈ Cg e (L ++ [(H, 0)]), x.1 + x.2 <= H
 | [], e, H, h, x, hx => by
  simp only [List.nil_append, Cg, List.append_nil] at hx
  split at hx
  ·simp at hx
   subst hx
   simp only
   omega
  ·cases hx
 | r :: L, e, H, ⟨h1, h2, h3⟩, x, hx => by
  simp only [List.cons_append, Cg] at hx
  rcases List.mem_append.1 hx with hx | hx
  ·have := h3.le
   split at hx
   ·simp at hx
    subst hx
    simp only
    omega
   ·cases hx
  ·exact h3.snoc x hx

theorem water_fits {L : List (Nat × Nat)} {e H : Nat} (h : Bw e L H) : ∀ x ∈ AV e L H, x.1 + x.2 <= H := by
 rw [Ec]
 exact h.snoc

theorem water_len {L : List (Nat × Nat)} {e H : Nat} : (AV e L H).length <= L.length + 1 := by
 rw [Ec]
 have := gapsR_len (L ++ [(H, 0)]) e
 rw [List.length_append, List.length_singleton] at this
 exact this

theorem sumR_take {L : List (Nat × Nat)} {j : Nat} {x : Nat × Nat} (h : L[j]? = some x) : CE (L.take (j + 1)) = CE (L.take j) + x.2 := by
 rw [Dw h, sumR_app]
 simp [CE]

theorem drop_nil {α : Type} {L : List α} {i : Nat} (h : L.drop i = []) (hi : i <= L.length) : i = L.length := by
 have := List.drop_eq_nil_iff.1 h
 omega

theorem tag_of {ts : List TypR} {c : Cel} (h : CL ts c) : c.tag = 1 \/ c.tag = 2 \/ c.tag = 3 := by
 have := h.1
 unfold Ah at this
 rw [decide_eq_true_eq] at this
 omega

theorem isles_one {cs : List Cel} {rs rt : List Nat} {H : Nat} (h : Am 0 cs H) (hl : rt.length <= 1) : (Ar cs (Ce (rs ++ rt))).length <= (Ar cs (Ce rs)).length + 1 := by
 match rt, hl with
 | [], _ =>
  rw [List.append_nil]
  omega
 | [x], _ =>
  refine isles_more (x := x) h λ g => ?_
  rw [Cm, Cm, List.mem_append, List.mem_singleton]
 | x :: y :: rt, hl =>
  simp at hl

theorem cov_more {cs : List Cel} {rs rt : List Nat} {H g : Nat} (h : Am 0 cs H) (hg : g < H) (hc : Ch (Ar cs (Ce rs)) g = true) : Ch (Ar cs (Ce (rs ++ rt))) g = true := by
 obtain ⟨c, hm, c1, c2⟩ := tiles_has h (Nat.zero_le g) hg
 rw [CR h hm c1 c2, Bool.and_eq_true] at hc ⊢
 exact ⟨hc.1, Cm.2 (List.mem_append_left _ (Cm.1 hc.2))⟩

theorem obs_obj {cs : List Cel} : ∀ g ∈ Bo cs, DN cs g := λ g hg => by
 unfold Bo Av at hg
 obtain ⟨c, hc, rfl⟩ := List.mem_map.1 hg
 obtain ⟨hc, h1⟩ := List.mem_filter.1 hc
 exact ⟨c, hc, by simpa using h1, rfl⟩

theorem obs_in {cs : List Cel} {c : Cel} (hc : c ∈ cs) (h1 : c.tag = 1) : Ce (Bo cs) c.g = true := by
 rw [Cm]
 unfold Bo Av
 exact List.mem_map.2 ⟨c, List.mem_filter.2 ⟨hc, by simp [h1]⟩, rfl⟩

def gapS (cs : List Cel) : Nat := cS 3 cs + cS 2 cs

theorem gapS_take {cs : List Cel} {j : Nat} {x : Cel} (h : cs[j]? = some x) (ht : x.tag = 1 \/ x.tag = 2 \/ x.tag = 3) : gapS (cs.take (j + 1)) = gapS (cs.take j) + (if x.tag = 1 then 0 else x.sz) := by
 unfold gapS
 rw [cS_take h, cS_take h]
 rcases ht with h1 | h1 | h1 <;> simp [h1] <;> omega

theorem gapS_le {cs : List Cel} {H : Nat} (h : Am 0 cs H) : gapS cs <= H + H := by
 have h1 := cS_le 3 h
 have h2 := cS_le 2 h
 unfold gapS
 omega

theorem cS_take_le (t : Nat) : ∀ (cs : List Cel) (j : Nat), cS t (cs.take j) <= cS t cs
 | [], j => by simp [cS]
 | c :: cs, 0 => by simp [cS]
 | c :: cs, j + 1 => by
  have := cS_take_le t cs j
  simp only [List.take_succ_cons, cS]
  omega

theorem gapS_take_le (cs : List Cel) (j : Nat) : gapS (cs.take j) <= gapS cs := by
 have h1 := cS_take_le 3 cs j
 have h2 := cS_take_le 2 cs j
 unfold gapS
 omega

theorem obsG_len_take (cs : List Cel) (j : Nat) : (Bo (cs.take j)).length <= cs.length := by
 unfold Bo Av
 rw [List.length_map]
 refine Nat.le_trans (List.length_filter_le _ _) ?_
 rw [List.length_take]
 omega

def landOf (L : List (Nat × Nat)) : Bool :=
 match L with
 | [] => false
 | r :: _ => decide (r.1 = 0)

theorem alt_start {L : List (Nat × Nat)} {H : Nat} (h : Ed L H) : AltR L (AV 0 L H) H 0 0 0 (landOf L) := by
 have h2 := AltR.start h
 cases L <;> exact h2

theorem inL_take {rs : List Nat} {m r g : Nat} (h : rs[m]? = some r) : Ce (rs.take (m + 1)) g = (Ce (rs.take m) g || (r == g)) := by
 rw [Bool.eq_iff_iff, Bool.or_eq_true, Cm, Cm, Dw h, List.mem_append, List.mem_singleton, beq_iff_eq]
 exact or_congr Iff.rfl eq_comm

theorem sumR_take_le (L : List (Nat × Nat)) (j : Nat) : CE (L.take j) <= CE L := by
 have h := sumR_app (L.take j) (L.drop j)
 rw [List.take_append_drop] at h
 omega

theorem water_all {cs : List Cel} {H : Nat} (h : Am 0 cs H) (ht : ∀ c ∈ cs, c.tag = 1 \/ c.tag = 2 \/ c.tag = 3) : CE (AV 0 (Ar cs (Ce (Bo cs))) H) = gapS cs :=
 water_gaps h (λ c hc h1 => obs_in hc h1) ht

end Go.Proofs.YtgccjhnafhlndaaGreatDoor
