/-
  Rows of words laid anew: slices.Clone at []uint64, New, Copy.
-/
import Derived.Test.YtpjcgjbobljaeaaBitsList
import Derived.Laws.Cover3
import Derived.Deep.RegionHeld3
namespace Go.Proofs.Ytpjcgjbobljaeaa
open Go.RowKit
set_option linter.unusedVariables false

theorem Runs_nil (w : World) : Calls Try.prog 18 #[.pointer none] w fun e w' => e = .returned (.slice none 0 0) ∧ w = w' := by
  go_enter Try.func18, Try.ntmps18
  go_wp2_with (go_at_call 20; refine (Next_nil _ _).mono ?_; rintro e w1 ⟨rfl, rfl⟩; dsimp only [optV, Option.getD_none, Option.isSome_none])
  go_loopw [2, 4] (fun v b wr => v = .slice none 0 0 ∧ b = .bool false ∧ w = wr) (fun _ _ _ => 0)
  case atStart => exact ⟨rfl, rfl, rfl⟩
  case round =>
    obtain ⟨rfl, rfl, rfl⟩ := hrel
    go_wp2
    go_ret
    exact ⟨rfl, rfl⟩

theorem Try.underlyingWords : Try.prog.underlying 72 = some (.slice 70) := by kernel_rfl

attribute [local go_sem] Try.underlyingWords

theorem run_eql_slice_nil {P : Program} {w : World} (t e : TypeId) (a : Option Addr) (l c : Nat) (h : P.underlying t = some (.slice e)) : (binOp .eql t (.slice a l c) (.slice none 0 0)).run P w = .ok (.bool a.isNone) w := by
  simp only [binOp]
  simp [run_equal_slice_nil w t e a l c h]

attribute [local go_sem] run_eql_slice_nil

theorem Try.infoWord : (Try.prog.info? 70).map (fun i => (i.zero, i.size, i.bytes)) = some (some (.int .u64 0), 1, 8) := by kernel_rfl

def wordVs (ws : List Nat) : List Value := ws.map fun v => .int .u64 (v : Nat)

theorem words_oneCell (ws : List Nat) : ∀ u ∈ wordVs ws, u.oneCell' = true := by
  intro u hu
  obtain ⟨_, _, rfl⟩ := List.mem_map.1 hu
  rfl

theorem wordVs_at (ws : List Nat) (j : Nat) (hj : j < ws.length) : (wordVs ws)[j]? = some (.int .u64 (ws.getD j 0 : Nat)) := by
  simp [wordVs, List.getElem?_map, List.getD_eq_getElem?_getD, List.getElem?_eq_getElem hj]

theorem clone_cells {w : World} {b len : Nat} {ws : List Nat} (hc : ∀ j, j < len → w.cell? ⟨b, j, none⟩ = some (.int .u64 (ws.getD j 0 : Nat))) (hl : ws.length = len) {j : Nat} {u : Value} {o : Obj}
    (hu : (wordVs ws)[j]? = some u) : (w.alloc o).cell? ((⟨b, 0, none⟩ : Addr).add j) = some u := by
  have hj : j < ws.length := by
    have := (List.getElem?_eq_some_iff.1 hu).1
    simpa [wordVs] using this
  rw [wordVs_at ws j hj] at hu
  injection hu with hu
  subst hu
  rw [Addr.add_lit, Nat.zero_add]
  have := hc j (by omega)
  have hb : b < w.heap.size := by
    rcases Nat.lt_or_ge b w.heap.size with h | h
    · exact h
    · simp [World.cell?, Array.getElem?_eq_none h] at this
  rw [World.cell?_alloc_past _ _ _ hb]
  exact this

theorem Clone_words (b len cap : Nat) (ws : List Nat) (w : World) (hl : ws.length = len) (hc : ∀ j, j < len → w.cell? ⟨b, j, none⟩ = some (.int .u64 (ws.getD j 0 : Nat))) (hle : len ≤ 1024) :
    Calls Try.prog 47 #[.slice (some ⟨b, 0, none⟩) len cap] w fun e w' =>
      ∃ g cap', e = .returned (.slice (some ⟨g, 0, none⟩) len cap') ∧ w.heap.size ≤ g ∧ (∃ cs, w'.heap[g]? = some (.cells cs 70 (0, 0)) ∧ ∀ j, j < len → cs[j]? = some (.int .u64 (ws.getD j 0 : Nat))) ∧ Keep Nope w w' := by
  have HC : Seal _ := ⟨hc⟩
  have HL : Seal _ := ⟨hl⟩
  clear hc hl
  go_enter Try.func47, Try.ntmps47
  go_wp2_with (at_builtin; obtain ⟨i0, hi, hz0, hz1, hz2⟩ := info_parts Try.infoWord; go_loud (refine wpList_append_own_at _ rfl (.tmp 5) (.tmp 6) 72 rfl w.heap.size 70 i0 _ 1 8 Try.underlyingWords hi hz0 hz1 hz2 rfl (by omega) (.slice (some ⟨w.heap.size, 0, none⟩) 0 0) 0 [] rfl (World.ownsRow_lit w #[] 0 (Nat.le_refl _) (by unfold maxLen; omega) rfl) ⟨b, 0, none⟩ len cap (wordVs ws) rfl (by rw [wordVs, List.length_map, HL.out]; omega) (by intro j u hu; exact clone_cells HC.out HL.out hu) (by intro u hu; exact words_oneCell ws u hu) (by unfold maxLen; omega) (by omega) (by simp) ?_); intro v' w1 hown hgrow hnil hat; clear hi hz0 hz1 hz2)
  have hk : Keep Nope w w1 := ((Keep.refl Nope w).alloc _).grown hgrow (fun k e hl => by simp [Value.ownBlock] at e; omega)
  obtain ⟨-, h2⟩ := hown
  rcases h2 with ⟨h2, -⟩ | ⟨g, cap', cur, h2, h3, h4, h5, h6, h7, h8⟩
  · have := hnil.1 h2
    simp at this
  · rw [Nat.zero_add, Nat.mul_one, List.nil_append] at h8
    refine bodyPost_ret (v := v') (by simp [results, Try.results47, go_sem]) rfl ⟨g, cap', by rw [h2, Nat.zero_add], h3, ⟨cur, h4, fun j hj => ?_⟩, hk⟩
    have h9 : (cur.toList.take len)[j]? = (wordVs ws)[j]? := by rw [h8]
    rw [List.getElem?_take_of_lt hj, wordVs_at ws j (by rw [HL.out]; exact hj)] at h9
    simpa using h9

/-- A row that was laid. -/
theorem WordsAt.make {w : World} {g cap n : Nat} {ws : List Nat} (hg : ∃ cs, w.heap[g]? = some (.cells cs 70 (0, 0)) ∧ ∀ j, j < ws.length → cs[j]? = some (.int .u64 (ws.getD j 0 : Nat))) (hl : ws.length = (n + 63) / 64) (hn : n ≤ 65536) (hf : ∀ j, ws.getD j 0 < 18446744073709551616) :
    WordsAt (w.alloc (.cells #[.slice (some ⟨g, 0, none⟩) ws.length cap, .int .i64 (n : Nat)] 75)) w.heap.size g ws n := by
  obtain ⟨cs, h1, h2⟩ := hg
  exact ⟨⟨cap, World.alloc_heap_new w _⟩, ⟨cs, ((Keep.refl Nope w).alloc _).at_ h1 (fun h => h), h2⟩, hl, hn, hf⟩

theorem Copy_nil (w : World) : Calls Try.prog 25 #[.pointer none] w fun e w' => e = .returned (.pointer none) ∧ w = w' := by
  go_enter Try.func25, Try.ntmps25
  go_wp2
  go_ret
  exact ⟨rfl, rfl⟩

theorem Copy_at (n p q : Nat) (f : Nat → Bool) (w : World) (hb : BitsAt w p q f n) :
    Calls Try.prog 25 #[.pointer (some ⟨p, 0, none⟩)] w fun e w' =>
      ∃ p' q', e = .returned (.pointer (some ⟨p', 0, none⟩)) ∧ w.heap.size ≤ p' ∧ w.heap.size ≤ q' ∧ BitsAt w' p' q' f n ∧ Keep Nope w w' := by
  obtain ⟨ws, hw, hbits⟩ := hb
  have HB : Seal _ := ⟨hbits⟩
  clear hbits
  obtain ⟨⟨cap, r0⟩, r1, r2, r3⟩ := hw.reads
  have R2 : Seal _ := ⟨r2⟩
  have hn := hw.small
  have HL : Seal (ws.length ≤ 1024) := ⟨by have := hw.len; omega⟩
  clear r2 r3
  go_enter Try.func25, Try.ntmps25
  go_wp2_with fail
  go_region_held3 (fun w' => w'.cell? ⟨p, 0, none⟩ = some (.slice (some ⟨q, 0, none⟩) ws.length cap) ∧ w'.cell? ⟨p, 1, none⟩ = some (.int .i64 (n : Nat))) (first | go_keep | exact ⟨hk.cell (by assumption) (fun h => h), hk.cell (by assumption) (fun h => h)⟩)
    (first | (go_at_call 47; refine (Clone_words q ws.length cap ws _ rfl (fun j hj => by exact R2.out j hj) HL.out).mono ?_; rintro e w' ⟨g, cap', rfl, hg, hgc, hk⟩))
  go_wp2
  go_ret
  have k1 : Keep Nope w w' := ((Keep.refl Nope w).drew).trans hk (fun _ _ h => h)
  exact ⟨_, g, rfl, k1.size, hg, ⟨ws, WordsAt.make hgc hw.len hw.small hw.fits, HB.out⟩, k1.alloc _⟩

theorem New_no (n : Int) (w : World) (h : ¬ (0 ≤ n ∧ n ≤ 65536)) : Calls Try.prog 12 #[.int .i64 n] w fun e w' => e = .returned (.tuple #[.pointer none, .int .i64 2]) ∧ w = w' := by
  by_cases h0 : n < 0
  · go_enter Try.func12, Try.ntmps12
    go_wp2
    go_ret2
    exact ⟨rfl, rfl⟩
  · have h1 : 65536 < n := by omega
    go_enter Try.func12, Try.ntmps12
    go_wp2
    go_ret2
    exact ⟨rfl, rfl⟩

theorem Try.underlyingRow : Try.prog.underlying 71 = some (.array (Try.prog.arrayLen 71) (Try.prog.elem 71)) := by kernel_rfl

theorem Try.lenRow : Try.prog.arrayLen 71 = 1024 := by kernel_rfl

theorem Try.elemRow : Try.prog.elem 71 = 70 := by kernel_rfl

theorem run_sliceRow (b : Nat) (h : Int) (h0 : 0 ≤ h) (h1 : h ≤ 1024) (w : World) : (Instr.sliceAt 71 (.pointer (some ⟨b, 0, none⟩)) none (some (.int .i64 h)) none).run Try.prog w = .ok (.slice (some ⟨b, 0, none⟩) h.toNat 1024) w := by
  obtain ⟨i0, hi, hz0, hz1, hz2⟩ := info_parts Try.infoWord
  rw [run_sliceAt_array_h _ _ _ Try.underlyingRow .i64 h h0 (by rw [Try.lenRow]; exact h1)]
  simp [Try.lenRow, Try.elemRow, sizeOf, typeInfo, hi, slicedAt, hz1]
  rfl

theorem Try.zeroRow : Try.zeroCells71 = Array.replicate 1024 (.int .u64 0) := by kernel_rfl

theorem zeroRow_at (w : World) (j : Nat) (h : j < 1024) : (w.alloc (.cells Try.zeroCells71 71)).cell? ⟨w.heap.size, j, none⟩ = some (.int .u64 0) := by
  have h1 := World.alloc_heap_new w (.cells Try.zeroCells71 71)
  unfold World.cell?
  rw [h1, Try.zeroRow]
  show (Array.replicate 1024 _)[j]? = _
  rw [Array.getElem?_replicate, if_pos h]

attribute [local go_sem] run_sliceRow

theorem replicate_zero_at (k j : Nat) : (List.replicate k (0 : Nat)).getD j 0 = 0 := by
  rw [List.getD_eq_getElem?_getD, List.getElem?_replicate]
  split <;> rfl

theorem New_yes (n : Nat) (w : World) (h : n ≤ 65536) : Calls Try.prog 12 #[.int .i64 (n : Nat)] w fun e w' =>
      ∃ p q, e = .returned (.tuple #[.pointer (some ⟨p, 0, none⟩), .int .i64 0]) ∧ w.heap.size ≤ p ∧ w.heap.size ≤ q ∧ BitsAt w' p q (fun _ => false) n ∧ Keep Nope w w' := by
  have h0 : ¬ (n : Int) < 0 := by omega
  have h1 : ¬ (65536 : Int) < n := by omega
  go_enter Try.func12, Try.ntmps12
  have h2 : 0 ≤ ((n : Int) + 63) / 64 := by omega
  have h3 : ((n : Int) + 63) / 64 ≤ 1024 := by omega
  have h4 : (((n : Int) + 63) / 64).toNat = (n + 63) / 64 := by omega
  go_wp2_with (go_at_call 47; refine (Clone_words w.heap.size ((n + 63) / 64) 1024 (List.replicate ((n + 63) / 64) 0) _ (by simp) (fun j hj => by rw [replicate_zero_at]; exact zeroRow_at w j (by omega)) (by omega)).mono ?_; rintro e w' ⟨g, cap', rfl, hg, hgc, hk⟩)
  have k1 : Keep Nope w w' := ((Keep.refl Nope w).alloc _).trans hk (fun _ _ h => h)
  have hg' : w.heap.size ≤ g := by simp at hg; omega
  have hlen : (List.replicate ((n + 63) / 64) (0 : Nat)).length = (n + 63) / 64 := by simp
  have hA := WordsAt.make (w := w') (g := g) (cap := cap') (n := n) (ws := List.replicate ((n + 63) / 64) 0) (by rw [hlen]; exact hgc) hlen h (fun j => by rw [replicate_zero_at]; omega)
  rw [hlen] at hA
  go_ret2
  refine ⟨_, g, rfl, k1.size, hg', ⟨_, hA, fun i hi => ?_⟩, k1.alloc _⟩
  rw [bitOf, replicate_zero_at, Nat.zero_testBit]

end Go.Proofs.Ytpjcgjbobljaeaa
