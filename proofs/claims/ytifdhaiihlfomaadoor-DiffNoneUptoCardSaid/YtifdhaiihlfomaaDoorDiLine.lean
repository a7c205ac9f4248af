/-
  diff.labels and diff.Line at the chapter's example.
-/
import Derived.Test.YtifdhaiihlfomaaDoorDiPart
import Derived.Test.YtifdhaiihlfomaaDoorShelf
import Derived.MapKept
import Derived.Carry
import Derived.Deep.DeepCutAuto
import Derived.Deep.CutBlock
namespace Go.Proofs.YtifdhaiihlfomaaDoor
open Go Go.RowKit
set_option linter.unusedVariables false

/-- A new key is put into a map. -/
theorem map_insert {P : Program} {w : World} {mty kt et : TypeId} {d : TypeDesc} {r clock : Nat} {es : Array MapEntry} {key val : Value} (hm : P.underlying mty = some (.map kt et)) (hk : P.underlying kt = some d) (hkey : MapKept.IsKey d key) (hb : w.heap[r]? = some (.map es clock))
    (hf : Instr.findNow d key es.toList 0 = some none) :
    ∃ w', (Instr.mapUpdate mty (.map (some r)) key val).run P w = .ok () w' ∧ w'.heap[r]? = some (.map (es.push { key := key, val := val, born := clock }) (clock + 1)) ∧ Keep (fun i => i = r) w w' := by
  have hc : (Instr.checkKey false 10000 kt key).run P w = .ok () w := MapKept.run_checkKey hk hkey false 9999
  refine ⟨{ w with heap := w.heap.setIfInBounds r (.map (es.push { key := key, val := val, born := clock }) (clock + 1)) }, ?_, (MapKept.heap_set hb).1, ?_⟩
  · simp [Instr.mapUpdate, run_underlying hm, MapKept.run_getObj_map hb, hc, MapKept.run_findKey hk hf, MapKept.run_setObj_map _ hb, Result.andThen]
  · exact ⟨rfl, rfl, rfl, by simp, fun k hk hn => (MapKept.heap_set hb).2 k hn⟩
theorem map_find {P : Program} {w : World} {mty kt et : TypeId} {d : TypeDesc} {r clock i : Nat} {es : Array MapEntry} {key val : Value} (hm : P.underlying mty = some (.map kt et)) (hk : P.underlying kt = some d) (hkey : MapKept.IsKey d key) (hb : w.heap[r]? = some (.map es clock))
    (hf : Instr.findNow d key es.toList 0 = some (some (i, val))) : (Instr.lookup mty (.map (some r)) key true).run P w = .ok (.tuple #[val, .bool true]) w := by
  have hc : (Instr.checkKey es.isEmpty 10000 kt key).run P w = .ok () w := MapKept.run_checkKey hk hkey _ 9999
  simp [Instr.lookup, run_underlying hm, MapKept.run_getObj_map hb, hc, MapKept.run_findKey hk hf, Result.andThen]

def labE (k : Int) (s : Array UInt8) (b : Nat) : MapEntry := { key := .int .u8 k, val := .agg #[.string ⟨s⟩], born := b }
/-- The words of the kinds. -/
def labEs : Array MapEntry := #[labE 1 #[116, 121, 112, 101] 0, labE 2 #[108, 101, 110] 1, labE 3 #[119, 111, 114, 100] 2, labE 4 #[114, 101, 102] 3, labE 5 #[110, 111, 100, 101] 4, labE 6 #[104, 97, 110, 100] 5, labE 7 #[112, 105, 110] 6, labE 8 #[115, 116, 97, 99, 107] 7]

section
attribute [local go_sem] run_makeMap
set_option maxRecDepth 20000 in
set_option maxHeartbeats 4000000 in
theorem labels_R (w : World) : Calls Tryd.prog 23 #[] w fun e w' => ∃ b, e = .returned (.map (some b)) ∧ w'.heap[b]? = some (.map labEs 8) ∧ Keep Nope w w' := by
  have b0 := World.alloc_heap_new w (.map #[] 0)
  have k0 : Keep Nope w (w.alloc (.map #[] 0)) := (Keep.refl _ _).alloc _
  have hK : w.heap.size < (w.alloc (.map #[] 0)).heap.size := by simp
  obtain ⟨w1, r1, b1, k1⟩ := map_insert (key := .int .u8 1) (val := .agg #[.string ⟨#[116, 121, 112, 101]⟩]) Tryd.underlying53 Tryd.underlying5 (by trivial) b0 rfl
  obtain ⟨w2, r2, b2, k2⟩ := map_insert (key := .int .u8 2) (val := .agg #[.string ⟨#[108, 101, 110]⟩]) Tryd.underlying53 Tryd.underlying5 (by trivial) b1 rfl
  obtain ⟨w3, r3, b3, k3⟩ := map_insert (key := .int .u8 3) (val := .agg #[.string ⟨#[119, 111, 114, 100]⟩]) Tryd.underlying53 Tryd.underlying5 (by trivial) b2 rfl
  obtain ⟨w4, r4, b4, k4⟩ := map_insert (key := .int .u8 4) (val := .agg #[.string ⟨#[114, 101, 102]⟩]) Tryd.underlying53 Tryd.underlying5 (by trivial) b3 rfl
  obtain ⟨w5, r5, b5, k5⟩ := map_insert (key := .int .u8 5) (val := .agg #[.string ⟨#[110, 111, 100, 101]⟩]) Tryd.underlying53 Tryd.underlying5 (by trivial) b4 rfl
  obtain ⟨w6, r6, b6, k6⟩ := map_insert (key := .int .u8 6) (val := .agg #[.string ⟨#[104, 97, 110, 100]⟩]) Tryd.underlying53 Tryd.underlying5 (by trivial) b5 rfl
  obtain ⟨w7, r7, b7, k7⟩ := map_insert (key := .int .u8 7) (val := .agg #[.string ⟨#[112, 105, 110]⟩]) Tryd.underlying53 Tryd.underlying5 (by trivial) b6 rfl
  obtain ⟨w8, r8, b8, k8⟩ := map_insert (key := .int .u8 8) (val := .agg #[.string ⟨#[115, 116, 97, 99, 107]⟩]) Tryd.underlying53 Tryd.underlying5 (by trivial) b7 rfl
  have KK : Seal (Keep Nope w w8) := ⟨k0.trans (((((((k1.trans k2 (fun _ _ h => h)).trans k3 (fun _ _ h => h)).trans k4 (fun _ _ h => h)).trans k5 (fun _ _ h => h)).trans k6 (fun _ _ h => h)).trans k7 (fun _ _ h => h)).trans k8 (fun _ _ h => h)) (fun i hi (e : i = w.heap.size) => by omega)⟩
  have B8 : Seal (w8.heap[w.heap.size]? = some (.map labEs 8)) := ⟨b8⟩
  clear b0 b1 b2 b3 b4 b5 b6 b7 b8 k0 k1 k2 k3 k4 k5 k6 k7 k8 hK
  go_enter Tryd.func23, Tryd.ntmps23
  go_wp2_with fail
  go_ret
  exact ⟨_, rfl, B8.out, KK.out⟩
end

theorem itoa_0 (w : World) : Calls Tryd.prog 24 #[.int .i64 0] w fun e w' => e = .returned (.string ⟨#[48]⟩) ∧ w' = w :=
  (Tryd.strconv_Itoa_small 0 (by omega) w).mono fun e w' h => ⟨by rw [h.1]; simp [Lib.decDigits], h.2⟩

set_option maxRecDepth 20000 in
set_option maxHeartbeats 4000000 in
theorem Line_R (w : World) : Calls Tryd.prog 11 #[.agg #[.int .u8 3, .int .i64 0, .int .i64 0]] w fun e w' => e = .returned (.string ⟨#[119, 111, 114, 100, 32, 48, 32, 48]⟩) ∧ Keep Nope w w' := by
  have ka : Keep Nope w (w.alloc (.cells #[.int .u8 3, .int .i64 0, .int .i64 0] 27)) := (Keep.refl _ _).alloc _
  have x1 := World.alloc_heap_new w (.cells #[.int .u8 3, .int .i64 0, .int .i64 0] 27)
  have KA : Seal _ := ⟨ka⟩
  clear ka
  go_enter Tryd.func11, Tryd.ntmps11
  go_upto_region 1 with fail
  obtain ⟨wb, hwb⟩ : ∃ wb, w.alloc (.cells #[.int .u8 3, .int .i64 0, .int .i64 0] 27) = wb := ⟨_, rfl⟩
  rw [hwb] at KA x1 ⊢
  clear hwb
  have a0 := cell_at x1 (i := 0) rfl
  have a1 := cell_at x1 (i := 1) rfl
  have a2 := cell_at x1 (i := 2) rfl
  clear x1
  go_cut [3, 4] from 5 to 11 (fun z3 z4 wx => ∃ g, z3 = .pointer (some ⟨g, 0, none⟩) ∧ z4 = .bool true ∧ wx.cell? ⟨g, 0, none⟩ = some (.string ⟨#[119, 111, 114, 100]⟩) ∧ Keep Nope wb wx)
  case first =>
    refine wp_region_held_drew (S := fun w' => w'.cell? ⟨w.heap.size, 0, none⟩ = some (.int .u8 3)) (by kernel_rfl) ?_ (fun hHeld => ?_)
    · (try dsimp only); exact keepc (Keep.refl _ _).drew a0
    have k0 : Keep Nope wb wb.drew := (Keep.refl _ _).drew
    obtain ⟨W0, hW0⟩ : ∃ W0, wb.drew = W0 := ⟨_, rfl⟩
    rw [hW0] at k0 hHeld ⊢
    clear hW0
    refine tko 1 ?_; refine tko 2 ?_
    try simp only [Act.put, List.setIfInBounds_toArray, List.set_cons_zero, List.set_cons_succ]
    refine wpAnyH_ready (rs := [0, 7]) (by kernel_rfl) (by simp) ?_
    refine readyc_held rfl (fun K hK => ?_) (ready_held rfl (fun K hK => ?_))
    · skip
      go_simp
      go_at_call 23
      refine (labels_R _).mono ?_
      rintro e w1 ⟨b, rfl, hb, hk⟩
      have HB : Seal _ := ⟨hb⟩
      have k1 := k0.then' hk
      refine hK _ _ ?_ (fun hHeld => ?_)
      · (try dsimp only); exact keepc k1 a0
      clear hK K
      try simp only [Act.put, List.setIfInBounds_toArray, List.set_cons_zero, List.set_cons_succ]
      refine wpAnyH_ready (rs := [3, 7]) (by kernel_rfl) (by simp) ?_
      refine readyc_held rfl (fun K hK => ?_) (ready_held rfl (fun K hK => ?_))
      · skip
        have hl := map_find (key := .int .u8 3) (val := .agg #[.string ⟨#[119, 111, 114, 100]⟩]) (i := 2) Tryd.underlying53 Tryd.underlying5 (by trivial) HB.out rfl
        go_simp
        clear hl
        refine hK _ _ ?_ (fun hHeld => ?_)
        · (try dsimp only); exact keepc k1 a0
        clear hK K
        try simp only [Act.put, List.setIfInBounds_toArray, List.set_cons_zero, List.set_cons_succ]
        refine tko 4 ?_; refine tko 5 ?_; refine tko 6 ?_
        try simp only [Act.put, List.setIfInBounds_toArray, List.set_cons_zero, List.set_cons_succ]
        refine wpAnyH_ready (rs := [7]) (by kernel_rfl) (by simp) ?_
        refine ready_held rfl (fun K hK => ?_)
        go_simp
        obtain ⟨g, hg⟩ : ∃ g, w1.heap.size = g := ⟨_, rfl⟩
        have nn : (w1.alloc (.cells #[.string ⟨#[]⟩] 51)).heap[g]? = some (.cells #[.string ⟨#[]⟩] 51) := by rw [← hg]; exact World.alloc_heap_new _ _
        have kk : Keep Nope w1 (w1.alloc (.cells #[.string ⟨#[]⟩] 51)) := (Keep.refl _ _).alloc _
        have hgb : wb.heap.size ≤ g := by rw [← hg]; exact k1.size
        rw [hg]
        obtain ⟨w2, hW⟩ : ∃ X, w1.alloc (.cells #[.string ⟨#[]⟩] 51) = X := ⟨_, rfl⟩
        rw [hW] at nn kk ⊢
        have k2 := k1.then' kk
        have HG : Seal _ := ⟨nn⟩
        clear nn kk hW hg
        refine hK _ _ ?_ (fun hHeld => ?_)
        · (try dsimp only); exact keepc k2 a0
        clear hK K
        try simp only [Act.put, List.setIfInBounds_toArray, List.set_cons_zero, List.set_cons_succ]
        refine wpAnyH_ready (rs := [8]) (by kernel_rfl) (by simp) ?_
        refine ready_held rfl (fun K hK => ?_)
        have f0 := free_of_block HG.out 0
        have e0 := cell_at HG.out (i := 0) rfl
        go_simp
        have hs0 := cell_at (block_setCell HG.out (j := 0) (.string ⟨#[119, 111, 114, 100]⟩)) (i := 0) rfl
        have kz := k2.setCell (p := ⟨g, 0, none⟩) (fun e => absurd (show g < wb.heap.size from e) (by omega)) (.string ⟨#[119, 111, 114, 100]⟩)
        refine hK _ _ ?_ (fun hHeld => ?_)
        · (try dsimp only); exact keepc kz a0
        clear hK K
        try simp only [Act.put, List.setIfInBounds_toArray, List.set_cons_zero, List.set_cons_succ]
        clear f0 e0
        refine tko 9 ?_
        try simp only [Act.put, List.setIfInBounds_toArray, List.set_cons_zero, List.set_cons_succ]
        refine wpAnyH_done (by kernel_rfl) ?_ _
        go_wp2
        go_meet
        exact ⟨_, rfl, rfl, hs0, kz⟩
      · skip
        go_simp
        obtain ⟨g, hg⟩ : ∃ g, w1.heap.size = g := ⟨_, rfl⟩
        have nn : (w1.alloc (.cells #[.string ⟨#[]⟩] 51)).heap[g]? = some (.cells #[.string ⟨#[]⟩] 51) := by rw [← hg]; exact World.alloc_heap_new _ _
        have kk : Keep Nope w1 (w1.alloc (.cells #[.string ⟨#[]⟩] 51)) := (Keep.refl _ _).alloc _
        have hgb : wb.heap.size ≤ g := by rw [← hg]; exact k1.size
        rw [hg]
        obtain ⟨w2, hW⟩ : ∃ X, w1.alloc (.cells #[.string ⟨#[]⟩] 51) = X := ⟨_, rfl⟩
        rw [hW] at nn kk ⊢
        have k2 := k1.then' kk
        have HB2 : Seal _ := ⟨kk.at_ HB.out (fun h => h)⟩
        clear HB
        have HB := HB2
        clear HB2
        have HG : Seal _ := ⟨nn⟩
        clear nn kk hW hg
        refine hK _ _ ?_ (fun hHeld => ?_)
        · (try dsimp only); exact keepc k2 a0
        clear hK K
        try simp only [Act.put, List.setIfInBounds_toArray, List.set_cons_zero, List.set_cons_succ]
        refine wpAnyH_ready (rs := [3]) (by kernel_rfl) (by simp) ?_
        refine ready_held rfl (fun K hK => ?_)
        have hl := map_find (key := .int .u8 3) (val := .agg #[.string ⟨#[119, 111, 114, 100]⟩]) (i := 2) Tryd.underlying53 Tryd.underlying5 (by trivial) HB.out rfl
        go_simp
        clear hl
        refine hK _ _ ?_ (fun hHeld => ?_)
        · (try dsimp only); exact keepc k2 a0
        clear hK K
        try simp only [Act.put, List.setIfInBounds_toArray, List.set_cons_zero, List.set_cons_succ]
        refine tko 4 ?_; refine tko 5 ?_; refine tko 6 ?_
        try simp only [Act.put, List.setIfInBounds_toArray, List.set_cons_zero, List.set_cons_succ]
        refine wpAnyH_ready (rs := [8]) (by kernel_rfl) (by simp) ?_
        refine ready_held rfl (fun K hK => ?_)
        have f0 := free_of_block HG.out 0
        have e0 := cell_at HG.out (i := 0) rfl
        go_simp
        have hs0 := cell_at (block_setCell HG.out (j := 0) (.string ⟨#[119, 111, 114, 100]⟩)) (i := 0) rfl
        have kz := k2.setCell (p := ⟨g, 0, none⟩) (fun e => absurd (show g < wb.heap.size from e) (by omega)) (.string ⟨#[119, 111, 114, 100]⟩)
        refine hK _ _ ?_ (fun hHeld => ?_)
        · (try dsimp only); exact keepc kz a0
        clear hK K
        try simp only [Act.put, List.setIfInBounds_toArray, List.set_cons_zero, List.set_cons_succ]
        clear f0 e0
        refine tko 9 ?_
        try simp only [Act.put, List.setIfInBounds_toArray, List.set_cons_zero, List.set_cons_succ]
        refine wpAnyH_done (by kernel_rfl) ?_ _
        go_wp2
        go_meet
        exact ⟨_, rfl, rfl, hs0, kz⟩
    · skip
      go_simp
      obtain ⟨g, hg⟩ : ∃ g, W0.heap.size = g := ⟨_, rfl⟩
      have nn : (W0.alloc (.cells #[.string ⟨#[]⟩] 51)).heap[g]? = some (.cells #[.string ⟨#[]⟩] 51) := by rw [← hg]; exact World.alloc_heap_new _ _
      have kk : Keep Nope W0 (W0.alloc (.cells #[.string ⟨#[]⟩] 51)) := (Keep.refl _ _).alloc _
      have hgb : wb.heap.size ≤ g := by rw [← hg]; exact k0.size
      rw [hg]
      obtain ⟨w1, hW⟩ : ∃ X, W0.alloc (.cells #[.string ⟨#[]⟩] 51) = X := ⟨_, rfl⟩
      rw [hW] at nn kk ⊢
      have k1 := k0.then' kk
      have HG : Seal _ := ⟨nn⟩
      clear nn kk hW hg
      refine hK _ _ ?_ (fun hHeld => ?_)
      · (try dsimp only); exact keepc k1 a0
      clear hK K
      try simp only [Act.put, List.setIfInBounds_toArray, List.set_cons_zero, List.set_cons_succ]
      refine wpAnyH_ready (rs := [0]) (by kernel_rfl) (by simp) ?_
      refine ready_held rfl (fun K hK => ?_)
      go_simp
      go_at_call 23
      refine (labels_R _).mono ?_
      rintro e w2 ⟨b, rfl, hb, hk⟩
      have HB : Seal _ := ⟨hb⟩
      have k2 := k1.then' hk
      have HG2 : Seal _ := ⟨hk.at_ HG.out (fun h => h)⟩
      clear HG
      have HG := HG2
      clear HG2
      refine hK _ _ ?_ (fun hHeld => ?_)
      · (try dsimp only); exact keepc k2 a0
      clear hK K
      try simp only [Act.put, List.setIfInBounds_toArray, List.set_cons_zero, List.set_cons_succ]
      refine wpAnyH_ready (rs := [3]) (by kernel_rfl) (by simp) ?_
      refine ready_held rfl (fun K hK => ?_)
      have hl := map_find (key := .int .u8 3) (val := .agg #[.string ⟨#[119, 111, 114, 100]⟩]) (i := 2) Tryd.underlying53 Tryd.underlying5 (by trivial) HB.out rfl
      go_simp
      clear hl
      refine hK _ _ ?_ (fun hHeld => ?_)
      · (try dsimp only); exact keepc k2 a0
      clear hK K
      try simp only [Act.put, List.setIfInBounds_toArray, List.set_cons_zero, List.set_cons_succ]
      refine tko 4 ?_; refine tko 5 ?_; refine tko 6 ?_
      try simp only [Act.put, List.setIfInBounds_toArray, List.set_cons_zero, List.set_cons_succ]
      refine wpAnyH_ready (rs := [8]) (by kernel_rfl) (by simp) ?_
      refine ready_held rfl (fun K hK => ?_)
      have f0 := free_of_block HG.out 0
      have e0 := cell_at HG.out (i := 0) rfl
      go_simp
      have hs0 := cell_at (block_setCell HG.out (j := 0) (.string ⟨#[119, 111, 114, 100]⟩)) (i := 0) rfl
      have kz := k2.setCell (p := ⟨g, 0, none⟩) (fun e => absurd (show g < wb.heap.size from e) (by omega)) (.string ⟨#[119, 111, 114, 100]⟩)
      refine hK _ _ ?_ (fun hHeld => ?_)
      · (try dsimp only); exact keepc kz a0
      clear hK K
      try simp only [Act.put, List.setIfInBounds_toArray, List.set_cons_zero, List.set_cons_succ]
      clear f0 e0
      refine tko 9 ?_
      try simp only [Act.put, List.setIfInBounds_toArray, List.set_cons_zero, List.set_cons_succ]
      refine wpAnyH_done (by kernel_rfl) ?_ _
      go_wp2
      go_meet
      exact ⟨_, rfl, rfl, hs0, kz⟩
  case rest =>
    obtain ⟨g, rfl, rfl, hg, hk⟩ := hcut
    have HK : Seal (Keep Nope w wc) := ⟨KA.out.then' hk⟩
    replace a1 := keepc hk a1
    replace a2 := keepc hk a2
    clear a0 hk
    go_wp2_with fail
    go_quiet (first | (go_at_call 24; refine Calls.quiet_of_same (itoa_0 _)))
    go_wp2
    go_ret
    exact ⟨rfl, HK.out.then' (Keep.of_drewN _)⟩

end Go.Proofs.YtifdhaiihlfomaaDoor
