/-
  The chapter's example of find: two equal numbers sorted and made one, All, SameInts.
-/
import Derived.Test.YtpmiidpbngbclaaGreatDoorFindB
import Derived.Test.YtpmiidpbngbclaaGreatDoorRise
import Derived.Lib.SliceRun
import Derived.Laws.EntriesVeiled
namespace Go.Proofs.YtpmiidpbngbclaaGreatDoor
open Go.RowKit
set_option linter.unusedVariables false

theorem lt_of_cell {w : World} {b j : Nat} {v : Value} (h : w.cell? ⟨b, j, none⟩ = some v) : b < w.heap.size := by
  rcases Nat.lt_or_ge b w.heap.size with hb | hb
  · exact hb
  · rw [World.cell?, Array.getElem?_eq_none hb] at h
    simp at h

/-- Are two rows of ints the same? -/
def SameB (la lb : Nat) (x y : Nat → Nat → Int) : Bool := decide (la = lb ∧ ∀ i, i < la → x i 0 = y i 0)

set_option maxHeartbeats 1000000 in
theorem SameInts_at (la lb : Nat) (x y : Nat → Nat → Int) (v u : Value) (w : World) (hv : IntsAt 1 w v la x) (hu : IntsAt 1 w u lb y) (hl : la ≤ 9223372036854775806) :
    Calls Tryz.prog 34 #[v, u] w fun e w' => e = .returned (.bool (SameB la lb x y)) ∧ Keep Nope w w' := by
  obtain ⟨va, vc, rfl, hx⟩ := ints_at hv
  obtain ⟨ua, uc, rfl, hy⟩ := ints_at hu
  have HX : Seal _ := ⟨hx⟩
  have HY : Seal _ := ⟨hy⟩
  clear hv hu hx hy
  by_cases hle : la = lb
  · subst hle
    have hl1 : ((la : Int) != (la : Int)) = false := by simp
    obtain ⟨r, hr⟩ : ∃ r, SameB la la x y = r := ⟨_, rfl⟩
    rw [hr]
    have HR : Seal _ := ⟨hr⟩
    clear hr
    go_enter Tryz.func34, Tryz.ntmps34
    go_wp2_with fail
    go_loopw [5] (fun z wr => ∃ j : Nat, j ≤ la ∧ z = .int .i64 (j : Nat) ∧ Seal (∀ i, i < j → x i 0 = y i 0) ∧ Keep Nope w wr) (fun z _ => la - (intOf z).toNat)
    case atStart => exact ⟨0, Nat.zero_le _, rfl, ⟨fun i hi => by omega⟩, Keep.refl _ _⟩
    case round =>
      obtain ⟨j, hj, rfl, HE, hk⟩ := hrel
      have HK : Seal _ := ⟨hk⟩
      by_cases hjl : j < la
      · have hjl' : (j : Int) < la := by omega
        obtain ⟨b, o, rfl, hb, r0, -⟩ := HX.out j hjl
        obtain ⟨b', o', rfl, hb', r1, -⟩ := HY.out j hjl
        replace r0 := hk.cell r0 (fun h => h)
        replace r1 := hk.cell r1 (fun h => h)
        clear hk
        obtain ⟨X, hX⟩ : ∃ X, x j 0 = X := ⟨_, rfl⟩
        obtain ⟨Y, hY⟩ : ∃ Y, y j 0 = Y := ⟨_, rfl⟩
        rw [hX] at r0
        rw [hY] at r1
        have HXY : Seal _ := ⟨And.intro hX hY⟩
        clear hX hY
        by_cases q : X = Y
        · have q1 : (X != Y) = false := by simp [q]
          have HE2 : Seal (∀ i, i < j + 1 → x i 0 = y i 0) := ⟨fun i hi => by
            by_cases e : i = j
            · rw [e, HXY.out.1, HXY.out.2, q]
            · exact HE.out i (by omega)⟩
          clear q
          go_wp2_with fail
          go_quiet (fail)
          go_wp2
          exact ⟨⟨j + 1, by omega, by go_num, HE2, HK.out.then' (Keep.of_drewN _)⟩, by simp only [intOf]; omega⟩
        · have q1 : (X != Y) = true := by simp [q]
          have HF : Seal (r = false) := ⟨by
            rw [← HR.out, SameB, decide_eq_false]
            rintro ⟨-, h⟩
            have := h j hjl
            rw [HXY.out.1, HXY.out.2] at this
            exact q this⟩
          clear q
          go_wp2_with fail
          go_quiet (fail)
          go_wp2
          go_ret
          exact ⟨by rw [HF.out]; rfl, HK.out.then' (Keep.of_drewN _)⟩
      · have hjl' : ¬ (j : Int) < la := by omega
        have HF : Seal (r = true) := ⟨by
          rw [← HR.out, SameB, decide_eq_true]
          exact ⟨rfl, fun i hi => HE.out i (by omega)⟩⟩
        clear hk
        go_wp2
        go_ret
        exact ⟨by rw [HF.out]; rfl, HK.out⟩
  · have hl1 : ((la : Int) != (lb : Int)) = true := by simp; omega
    rw [show SameB la lb x y = false by rw [SameB, decide_eq_false]; exact fun h => hle h.1]
    clear hle
    go_enter Tryz.func34, Tryz.ntmps34
    go_wp2
    go_ret
    exact ⟨rfl, Keep.refl _ _⟩

theorem set_one {w : World} {b : Nat} {u : Value} {T : TypeId} (hb : w.heap[b]? = some (.cells #[u] T (0, 0))) (v : Value) : (w.setCell ⟨b, 0, none⟩ v).heap[b]? = some (.cells #[v] T (0, 0)) := by
  rw [block_setCell hb]
  rfl

/-- What is noted: a number behind a row that a variable holds. -/
def NotedAt (bl base : Nat) (v : Value) (xs : List Nat) (g : Nat) (w : World) (e : Ending) (w' : World) : Prop :=
  e = .returned (.tuple #[]) ∧ ∃ v', w'.heap[bl]? = some (.cells #[v'] 33 (0, 0)) ∧ w'.ownsRow base 3 1 v' (xs.length + 1) (natVs (xs ++ [g])) ∧ Keep (fun k => k = bl ∨ v.ownBlock = some k) w w'

set_option maxHeartbeats 1000000 in
theorem note_at (P : Sp) (y g bs bl base : Nat) (v : Value) (xs : List Nat) (w : World) (hbs : w.heap[bs]? = some (.cells #[.pointer (some ⟨P.s, 0, none⟩)] 27 (0, 0))) (hbl : w.heap[bl]? = some (.cells #[v] 33 (0, 0))) (ho : w.ownsRow base 3 1 v xs.length (natVs xs)) (hb : bl < base) (hb2 : base ≤ w.heap.size) (hl : xs.length ≤ 65536)
    (hO : Calls Tryz.prog 46 #[.pointer (some ⟨P.s, 0, none⟩), .int .u64 (y : Nat)] w fun e w' => e = .returned (.tuple #[.int .i64 (g : Nat), .bool true]) ∧ Keep Nope w w') :
    Calls Tryz.prog 121 #[.int .u64 (y : Nat), .pointer (some ⟨bs, 0, none⟩), .pointer (some ⟨bl, 0, none⟩)] w (NotedAt bl base v xs g w) := by
  have HO : Seal _ := ⟨hO⟩
  have HL : Seal _ := ⟨hbl⟩
  have HR : Seal _ := ⟨ho⟩
  have c0 := cell_of_one hbs
  have hll := lt_of_heap hbl
  clear hO hbl ho hbs
  go_enter Tryz.func121, Tryz.ntmps121
  go_wp2_with fail
  refine HO.out.mono ?_
  rintro e w1 ⟨rfl, k1⟩
  have b1 := k1.at_ HL.out (fun h => h)
  have o1 : w1.ownsRow base 3 1 v xs.length (natVs xs) := k1.owns HR.out (fun _ _ h => h)
  have c1 := cell_of_one b1
  have z1 := k1.size
  have HL1 : Seal _ := ⟨b1⟩
  have HR1 : Seal _ := ⟨o1⟩
  have HK1 : Seal _ := ⟨k1⟩
  clear c0 b1 o1 k1
  go_wp2_with (at_builtin; obtain ⟨i0, hi, hz0, hz1, hz2⟩ := info_parts Tryz.infoInt; go_loud (refine wpList_append_lies _ rfl (.tmp 13) (.tmp 15) 33 rfl base 3 i0 _ 1 8 Tryz.underlyingInts hi hz0 hz1 hz2 rfl (by omega) v xs.length (natVs xs) rfl (HR1.out.alloc _) ⟨w1.heap.size, 0, none⟩ 1 1 [.int .i64 (g : Nat)] rfl rfl (World.news_of_block (World.alloc_heap_new w1 _)) (by intro u hu; simp at hu; subst hu; rfl) (by omega) (by unfold maxLen; omega) (by omega) (by simp; omega) (w1.heap.size + 1) (by simp) ?_); intro gn capn w3 hown3 hgrow hat hlt; clear hi hz0 hz1 hz2; have hnb : ¬ v.ownBlock = some bl := fun h => (by have := ownsRow_block HR1.out h; omega); have k3 : Keep (fun k => v.ownBlock = some k) w1 w3 := ((Keep.refl Nope w1).alloc _ |>.of_not _).grown hgrow (fun k e h => by first | exact h | (injection e with e; subst e; assumption) | exact e); have b3 := k3.at_ HL1.out hnb; have f3 := free_of_block b3 0; have c3 := cell_of_one b3; have HR3 : Seal _ := ⟨hown3⟩; have HB3 : Seal _ := ⟨b3⟩; have HK3 : Seal _ := ⟨k3⟩; clear hown3 hgrow hat b3 k3 c1)
  go_end0
  have KS : Keep (fun k => k = bl) w3 (w3.setCell ⟨bl, 0, none⟩ (.slice (some ⟨gn, 0, none⟩) (xs.length + 1) capn)) := (Keep.refl (fun k => k = bl) w3).setCell (fun _ => rfl) _
  refine ⟨rfl, _, set_one HB3.out _, ?_, ((HK1.out.of_not _).trans (HK3.out.mono fun i _ h => .inr h) (fun _ _ h => h)).trans KS (fun _ _ h => .inl h)⟩
  rw [natVs, List.map_append]
  exact ownsRow_keep HR3.out KS (fun b hb' e => by have := (ownsRow_block HR3.out hb').1; omega)

theorem rise_two (g : Int) : Lib.compact ([g, g].mergeSort fun x y => decide (x ≤ y)) = [g] := riseL_of (zs := [g, g]) (ys := [g]) (by simp) (by simp)

set_option maxHeartbeats 2000000 in
theorem All_two (P : Sp) (y1 y2 g ab ac : Nat) (w : World) (h0 : w.cell? ⟨ab, 0, none⟩ = some (.int .u64 (y1 : Nat))) (h1 : w.cell? ⟨ab, 1, none⟩ = some (.int .u64 (y2 : Nat)))
    (hO1 : ∀ w', Keep Nope w w' → Calls Tryz.prog 46 #[.pointer (some ⟨P.s, 0, none⟩), .int .u64 (y1 : Nat)] w' fun e w'' => e = .returned (.tuple #[.int .i64 (g : Nat), .bool true]) ∧ Keep Nope w' w'')
    (hO2 : ∀ w', Keep Nope w w' → Calls Tryz.prog 46 #[.pointer (some ⟨P.s, 0, none⟩), .int .u64 (y2 : Nat)] w' fun e w'' => e = .returned (.tuple #[.int .i64 (g : Nat), .bool true]) ∧ Keep Nope w' w'') :
    Calls Tryz.prog 78 #[.pointer (some ⟨P.s, 0, none⟩), .slice (some ⟨ab, 0, none⟩) 2 ac] w fun e w' => ∃ v, e = .returned v ∧ (∃ b cap, v = .slice (some ⟨b, 0, none⟩) 1 cap ∧ w'.cell? ⟨b, 0, none⟩ = some (.int .i64 (g : Nat)) ∧ b < w'.heap.size) ∧ Keep Nope w w' := by
  have HO1 : Seal _ := ⟨hO1⟩
  have HO2 : Seal _ := ⟨hO2⟩
  have H0 : Seal _ := ⟨h0⟩
  have H1 : Seal _ := ⟨h1⟩
  have hmf : ∀ (fn : Fn) (first cap : Array Value) (w : World), (Instr.makeFunc fn first cap).run Tryz.prog w = .ok (.func fn first cap) w := fun _ _ _ _ => rfl
  obtain ⟨w2, hw2⟩ : ∃ w2, w2 = (w.alloc (.cells #[.pointer (some ⟨P.s, 0, none⟩)] 27)).alloc (.cells #[.slice none 0 0] 33) := ⟨_, rfl⟩
  have k2 : Keep Nope w w2 := by rw [hw2]; exact ((Keep.refl _ w).alloc _).alloc _
  have z2 : w2.heap.size = w.heap.size + 2 := by rw [hw2]; simp
  have bs2 : w2.heap[w.heap.size]? = some (.cells #[.pointer (some ⟨P.s, 0, none⟩)] 27 (0, 0)) := by rw [hw2]; exact ((Keep.refl Nope _).alloc _).at_ (World.alloc_heap_new w _) (fun h => h)
  have bl2 : w2.heap[w.heap.size + 1]? = some (.cells #[.slice none 0 0] 33 (0, 0)) := by
    rw [hw2]
    have := World.alloc_heap_new (w.alloc (.cells #[.pointer (some ⟨P.s, 0, none⟩)] 27)) (.cells #[.slice none 0 0] 33)
    rwa [show (w.alloc (.cells #[.pointer (some ⟨P.s, 0, none⟩)] 27)).heap.size = w.heap.size + 1 by simp] at this
  have HK2 : Seal _ := ⟨k2⟩
  have HBS : Seal _ := ⟨bs2⟩
  have HBL : Seal _ := ⟨bl2⟩
  clear hO1 hO2 h0 h1 k2 bs2 bl2
  go_enter Tryz.func78, Tryz.ntmps78
  go_wp2_with fail
  rw [← hw2]
  clear hw2
  obtain ⟨B, hB⟩ : ∃ B, w.heap.size = B := ⟨_, rfl⟩
  rw [hB] at HBS HBL z2 ⊢
  go_loopw [7, 11] (fun x7 x11 wr => ∃ j : Nat, j ≤ 2 ∧ x11 = .int .i64 (j : Nat) ∧ (∃ v, wr.heap[B + 1]? = some (.cells #[v] 33 (0, 0)) ∧ wr.ownsRow (B + 2) 3 1 v (List.replicate j g).length (natVs (List.replicate j g))) ∧ Keep (fun k => k = B + 1) w2 wr) (fun _ x11 _ => 2 - (intOf x11).toNat)
  case atStart => exact ⟨0, by omega, rfl, ⟨_, HBL.out, World.ownsRow_nil _ _ _ _⟩, Keep.refl _ _⟩
  case round =>
    obtain ⟨j, hj, rfl, ⟨v, hv, hr⟩, hk⟩ := hrel
    have HV : Seal _ := ⟨hv⟩
    have HR : Seal _ := ⟨hr⟩
    have HK : Seal _ := ⟨hk⟩
    have hkw : Keep Nope w wr := (HK2.out.of_not _ |>.trans hk (fun _ _ h => h)).mono (fun i hi h => by omega)
    have HKW : Seal _ := ⟨hkw⟩
    have hsz := hk.size
    clear hv hr hk
    by_cases hj0 : j = 0
    · subst hj0
      have c0 := hkw.cell H0.out (fun h => h)
      clear hkw
      go_wp2_with fail
      refine (note_at P y1 g B (B + 1) (B + 2) v [] wr (HK.out.at_ HBS.out (by omega)) HV.out HR.out (by omega) (by omega) (by simp) (HO1.out wr HKW.out)).mono ?_
      rintro e w3 ⟨rfl, v', hv', hr', hk'⟩
      have HN : Seal _ := ⟨And.intro hv' hr'⟩
      have HKN : Seal (Keep (fun k => k = B + 1) w2 w3) := ⟨HK.out.trans hk' (fun i hi h => by
        rcases h with h | h
        · exact h
        · have := ownsRow_block HR.out h; omega)⟩
      clear hv' hr' hk'
      go_wp2
      exact ⟨⟨1, by omega, rfl, ⟨v', HN.out.1, HN.out.2⟩, HKN.out⟩, by simp only [intOf]; omega⟩
    · by_cases hj1 : j = 1
      · subst hj1
        have c1 := hkw.cell H1.out (fun h => h)
        clear hkw
        go_wp2_with fail
        refine (note_at P y2 g B (B + 1) (B + 2) v [g] wr (HK.out.at_ HBS.out (by omega)) HV.out HR.out (by omega) (by omega) (by simp) (HO2.out wr HKW.out)).mono ?_
        rintro e w3 ⟨rfl, v', hv', hr', hk'⟩
        have HN : Seal _ := ⟨And.intro hv' hr'⟩
        have HKN : Seal (Keep (fun k => k = B + 1) w2 w3) := ⟨HK.out.trans hk' (fun i hi h => by
          rcases h with h | h
          · exact h
          · have := ownsRow_block HR.out h; omega)⟩
        clear hv' hr' hk'
        go_wp2
        exact ⟨⟨2, by omega, rfl, ⟨v', HN.out.1, HN.out.2⟩, HKN.out⟩, by simp only [intOf]; omega⟩
      · obtain rfl : j = 2 := by omega
        have hR0 : wr.ownsRow (B + 2) 3 1 v [(g : Int), (g : Int)].length (intVs [(g : Int), (g : Int)]) := HR.out
        have HSo : Seal _ := ⟨Sort_row (B + 2) v [(g : Int), (g : Int)] wr hR0 (by simp)⟩
        have hnv : ¬ v.ownBlock = some (B + 1) := fun h => by have := (ownsRow_block HR.out h).1; omega
        have HNV : Seal _ := ⟨hnv⟩
        have HOB : Seal (∀ b, v.ownBlock = some b → B + 2 ≤ b) := ⟨fun b h => (ownsRow_block HR.out h).1⟩
        obtain ⟨va, vn, vc, hva⟩ := row_slice hR0
        subst hva
        have cl := cell_of_one HV.out
        clear hkw hj0 hj1 hR0 hnv
        go_wp2_with fail
        refine HSo.out.mono ?_
        rintro e w3 ⟨rfl, o3, k3⟩
        have HC3 : Seal _ := ⟨Compact_row (B + 2) _ _ w3 (by rw [List.length_mergeSort]; exact o3) (by simp)⟩
        have HK3 : Seal _ := ⟨k3⟩
        replace cl := k3.cell cl HNV.out
        clear k3 o3
        go_wp2_with fail
        refine HC3.out.mono ?_
        rintro e w4 ⟨v', rfl, o4, -, k4⟩
        rw [rise_two] at o4
        obtain ⟨ra, rn, rc, hra⟩ := row_slice o4
        subst hra
        have HO4 : Seal _ := ⟨o4⟩
        have HK4 : Seal _ := ⟨k4⟩
        have b4 := k4.at_ (HK3.out.at_ HV.out HNV.out) HNV.out
        have c4 := cell_of_one b4
        have f4 := free_of_block b4 0
        have HB4 : Seal _ := ⟨b4⟩
        clear k4 b4 cl o4
        go_wp2
        have KS : Keep (fun k => k = B + 1) w4 (w4.setCell ⟨B + 1, 0, none⟩ (.slice ra rn rc)) := (Keep.refl (fun k => k = B + 1) w4).setCell (fun _ => rfl) _
        have c5 := cell_of_one (set_one HB4.out (.slice ra rn rc))
        obtain ⟨-, ⟨-, h0⟩ | ⟨b, cap, cur, h1, h2, h3, h4, h5, h6, h7⟩⟩ := HO4.out
        · simp at h0
        · obtain ⟨e1, e2, e3⟩ : ra = some ⟨b, 0, none⟩ ∧ rn = 1 ∧ cap = rc := by
            injection h1 with x1 x2 x3
            exact ⟨x1, by simpa using x2, x3.symm⟩
          subst e1 e2 e3
          have hne : ¬ b = B + 1 := by omega
          have hc0 : w4.cell? ⟨b, 0, none⟩ = some (.int .i64 (g : Nat)) := by
            have : cur.toList[0]? = some (.int .i64 (g : Nat)) := by
              rw [← List.getElem?_take_of_lt (j := [(g : Int)].length * 1) (by simp), h7]
              rfl
            simp only [World.cell?, h3]
            rw [← this]
            simp
          refine bodyPost_ret (v := .slice (some ⟨b, 0, none⟩) 1 cap) (by simp [results, Tryz.results78, go_sem, c5]) rfl ?_
          refine ⟨_, rfl, ⟨b, cap, rfl, KS.cell hc0 hne, ?_⟩, ?_⟩
          · have := lt_of_heap h3
            have := KS.size
            omega
          · exact (((HKW.out.of_not (fun k => B ≤ k)).trans HK3.out (fun i _ h => by have := HOB.out i h; omega)).trans HK4.out (fun i hi h => by have := HOB.out i h; omega)).trans KS (fun i hi h => by omega) |>.mono (fun i hi h => by omega)

end Go.Proofs.YtpmiidpbngbclaaGreatDoor
