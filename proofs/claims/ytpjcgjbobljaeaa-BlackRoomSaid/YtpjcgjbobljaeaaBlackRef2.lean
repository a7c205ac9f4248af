/-
  The document's row of ages, walked: List, First, Same.
-/
import Derived.Test.YtpjcgjbobljaeaaBlackRef
import Derived.BigQuiet
namespace Go.Proofs.Ytpjcgjbobljaeaa
open Go.RowKit
set_option linter.unusedVariables false

theorem fromB_snoc (f : Nat → Bool) (i : Nat) : fromB f (i + 1) 0 = fromB f i 0 ++ (if f i then [i] else []) := by
  rw [fromB, fromB, Nat.sub_zero, Nat.sub_zero, List.range'_concat, List.filter_append, Nat.zero_add, Nat.one_mul, List.filter_cons]
  rfl

set_option maxHeartbeats 4000000 in
theorem LList_at (n p g : Nat) (L : Nat → Nat) (w : World) (hb : LeftAt w p g L n) :
    Calls Try.prog 63 #[.pointer (some ⟨p, 0, none⟩)] w fun e w' =>
      ∃ v, e = .returned v ∧ w'.ownsRow w.heap.size 3 1 v (fromB (posB L) n 0).length (natVs (fromB (posB L) n 0)) ∧ Keep Nope w w' := by
  have hn := hb.small
  have lp := hb.lt_p
  have lg := hb.lt_g
  go_enter Try.func63, Try.ntmps63
  go_wp2_with fail
  go_loopw [3, 4] (fun v x wr => ∃ (i : Nat) (acc : List Nat), i ≤ n ∧ x = .int .i64 (i : Nat) ∧ Seal (acc = fromB (posB L) i 0) ∧ acc.length ≤ i ∧
    wr.ownsRow w.heap.size 3 1 v acc.length (natVs acc) ∧ Keep Nope w wr) (fun _ x _ => n - (intOf x).toNat)
  case atStart => exact ⟨0, [], by omega, rfl, ⟨rfl⟩, by simp, World.ownsRow_nil _ _ _ _, Keep.refl _ _⟩
  case round =>
    obtain ⟨i, acc, hi, rfl, hr, hal, hown, hk⟩ := hrel
    have hb2 := hb.keep hk (fun h => h) (fun h => h)
    obtain ⟨cap, hc⟩ := hb2.head
    by_cases hin : i < n
    · have hin' : (i : Int) < n := by omega
      have hbit := hb2.at_ hin
      obtain ⟨v, hv⟩ : ∃ v, v = L i := ⟨_, rfl⟩
      have hp : Seal (posB L i = decide (0 < v)) := ⟨by rw [hv]; rfl⟩
      rw [← hv] at hbit
      clear hv
      by_cases hv0 : 0 < v
      · have hv1 : (0 : Int) < v := by omega
        have hr' : Seal (acc ++ [i] = fromB (posB L) (i + 1) 0) := ⟨by rw [fromB_snoc, hp.out, decide_eq_true hv0, hr.out]; rfl⟩
        go_wp2_with (at_builtin; obtain ⟨i0, hi0, hz0, hz1, hz2⟩ := info_parts Try.infoInt; go_loud (refine wpList_append_lies _ rfl (.tmp 22) (.tmp 24) 56 rfl w.heap.size 3 i0 _ 1 8 Try.underlyingInts hi0 hz0 hz1 hz2 rfl (by omega) u3 acc.length (natVs acc) rfl (hown.alloc _) ⟨wr.heap.size, 0, none⟩ 1 1 [.int .i64 (i : Nat)] rfl rfl (World.news_of_block (World.alloc_heap_new wr _)) (by intro u hu; simp at hu; subst hu; rfl) (by omega) (by unfold maxLen; omega) (by omega) (by simp; have := hk.size; omega) (wr.heap.size + 1) (by simp) ?_); intro g2 cap2 w3 hown3 hgrow hat hlt; clear hi0 hz0 hz1 hz2)
        have k3 : Keep Nope w w3 := (hk.alloc _).grown hgrow (fun k e hl => absurd (hown.lt k e).1 (by omega))
        refine ⟨⟨i + 1, acc ++ [i], by omega, by go_num, hr', by simp; omega, ?_, k3⟩, by simp only [intOf]; omega⟩
        rw [natVs, List.map_append, List.length_append]; exact hown3
      · have hv1 : ¬ (0 : Int) < v := by omega
        have hr' : Seal (acc = fromB (posB L) (i + 1) 0) := ⟨by rw [fromB_snoc, hp.out, decide_eq_false hv0, hr.out]; simp⟩
        go_wp2
        exact ⟨⟨i + 1, acc, by omega, by go_num, hr', by omega, hown, hk⟩, by simp only [intOf]; omega⟩
    · have hin' : ¬ (i : Int) < n := by omega
      have he : Seal (acc = fromB (posB L) n 0) := ⟨by rw [hr.out, show i = n by omega]⟩
      go_wp2
      exact bodyPost_ret (v := u3) (by simp [results, Try.results63, go_sem]) rfl ⟨u3, rfl, by rw [← he.out]; exact hown, hk⟩

/-- The value v reads as the numbers xs. -/
def NatsAt (w : World) (v : Value) (xs : List Nat) : Prop :=
  ∃ a cap, v = .slice a xs.length cap ∧ ∀ i, i < xs.length → ∃ g, a = some ⟨g, 0, none⟩ ∧ g < w.heap.size ∧ w.cell? ⟨g, i, none⟩ = some (.int .i64 (xs.getD i 0 : Nat))

theorem NatsAt.keep {w w' : World} {v : Value} {xs : List Nat} (h : NatsAt w v xs) {S : Nat → Prop} (k : Keep S w w') (hs : ∀ b, b < w.heap.size → v.ownBlock = some b → ¬ S b) : NatsAt w' v xs := by
  obtain ⟨a, cap, rfl, h⟩ := h
  refine ⟨a, cap, rfl, fun i hi => ?_⟩
  obtain ⟨g, rfl, h1, h2⟩ := h i hi
  exact ⟨g, rfl, Nat.lt_of_lt_of_le h1 k.size, k.cell h2 (hs g h1 rfl)⟩

theorem natVs_at (xs : List Nat) (i : Nat) (h : i < xs.length) : (natVs xs)[i]? = some (.int .i64 (xs.getD i 0 : Nat)) := by
  simp [natVs, List.getElem?_map, List.getD_eq_getElem?_getD, List.getElem?_eq_getElem h]

theorem NatsAt.of_owns {w : World} {base : Nat} {e : TypeId} {v : Value} {xs : List Nat} (h : w.ownsRow base e 1 v xs.length (natVs xs)) : NatsAt w v xs := by
  rcases h.2 with ⟨rfl, h0⟩ | ⟨g, cap, cur, rfl, h2, h3, h4, h5, h6, h7⟩
  · exact ⟨none, 0, by rw [h0], fun i hi => by omega⟩
  · refine ⟨_, cap, rfl, fun i hi => ⟨g, rfl, lt_of_heap h3, ?_⟩⟩
    rw [← natVs_at xs i hi, ← h7, List.getElem?_take_of_lt (by omega)]
    simp [World.cell?, h3]

theorem NatsAt.of_block {w : World} {g : Nat} {cs : Array Value} {t : TypeId} {xs : List Nat} (h : w.heap[g]? = some (.cells cs t (0, 0))) (hc : cs.toList = natVs xs) {cap : Nat} : NatsAt w (.slice (some ⟨g, 0, none⟩) xs.length cap) xs := by
  refine ⟨_, cap, rfl, fun i hi => ⟨g, rfl, lt_of_heap h, ?_⟩⟩
  rw [← natVs_at xs i hi, ← hc]
  simp [World.cell?, h]

theorem sameN_all {xs ys : List Nat} (hl : xs.length = ys.length) (h : ∀ i, i < xs.length → xs.getD i 0 = ys.getD i 0) : xs = ys := by
  apply List.ext_getElem hl
  intro i h1 h2
  have := h i h1
  simpa [List.getD_eq_getElem?_getD, List.getElem?_eq_getElem h1, List.getElem?_eq_getElem h2] using this

set_option maxHeartbeats 2000000 in
theorem LSame_any (u v : Value) (xs ys : List Nat) (w : World) (hx : NatsAt w u xs) (hy : NatsAt w v ys) (hl : xs.length ≤ 65536) :
    Calls Try.prog 59 #[u, v] w fun e w' => e = .returned (.bool (decide (xs = ys))) ∧ ∃ m, w' = w.drewN m := by
  obtain ⟨a, cap, rfl, hx⟩ := hx
  obtain ⟨b, cap', rfl, hy⟩ := hy
  by_cases hlen : xs.length = ys.length
  · obtain ⟨len, hle⟩ : ∃ len, len = xs.length := ⟨_, rfl⟩
    have HX : Seal _ := ⟨hx⟩
    have HY : Seal _ := ⟨hy⟩
    have HE : Seal _ := ⟨hle⟩
    have HL : Seal _ := ⟨hlen⟩
    rw [← hlen, ← hle]
    rw [← hle] at hl
    clear hx hy hle hlen
    go_enter Try.func59, Try.ntmps59
    go_wp2
    go_loopw [5] (fun x wr => ∃ j : Nat, j ≤ len ∧ x = .int .i64 j ∧ Seal (∀ i, i < j → xs.getD i 0 = ys.getD i 0) ∧ ∃ m, wr = w.drewN m) (fun x _ => len - (intOf x).toNat)
    case atStart => exact ⟨0, by omega, rfl, ⟨fun i h => by omega⟩, 0, rfl⟩
    case round =>
      obtain ⟨j, hj, rfl, hall, m, rfl⟩ := hrel
      by_cases hjl : j < len
      · obtain ⟨g, ga, gl, gx⟩ := HX.out j (by rw [← HE.out]; exact hjl)
        obtain ⟨g', gb, gl', gx'⟩ := HY.out j (by rw [← HL.out, ← HE.out]; exact hjl)
        subst ga gb
        clear HX HY
        obtain ⟨x1, hx1⟩ : ∃ x1, x1 = xs.getD j 0 := ⟨_, rfl⟩
        obtain ⟨y1, hy1⟩ : ∃ y1, y1 = ys.getD j 0 := ⟨_, rfl⟩
        rw [← hx1] at gx
        rw [← hy1] at gx'
        have hiff : Seal (xs.getD j 0 = ys.getD j 0 ↔ x1 = y1) := ⟨by rw [hx1, hy1]⟩
        clear hx1 hy1
        go_wp2_with fail
        go_quiet (fail)
        by_cases hs : x1 = y1
        · have ht : ((x1 : Int) != (y1 : Int)) = false := by simp [hs]
          have HS : Seal _ := ⟨hs⟩
          clear hs
          rw [ht]
          clear ht
          go_wp2
          refine ⟨⟨j + 1, by omega, rfl, ⟨fun i hi => ?_⟩, m + nq, rfl⟩, by simp only [intOf]; omega⟩
          by_cases hij : i < j
          · exact hall.out i hij
          · rw [show i = j by omega]; exact hiff.out.2 HS.out
        · have ht : ((x1 : Int) != (y1 : Int)) = true := by simp; omega
          have hne : Seal (xs ≠ ys) := ⟨fun h => hs (hiff.out.1 (by rw [h]))⟩
          clear hs
          rw [ht]
          clear ht
          go_wp2
          go_ret
          exact ⟨by simp [hne.out], m + nq, drewN_two w m nq⟩
      · have hjn : ¬ (j : Int) < len := by omega
        go_wp2
        have : xs = ys := sameN_all HL.out (fun i hi => hall.out i (by rw [← HE.out] at hi; omega))
        go_ret
        exact ⟨by simp [this], m, rfl⟩
  · have hne : xs ≠ ys := fun h => hlen (by rw [h])
    go_enter Try.func59, Try.ntmps59
    go_wp2
    go_ret
    exact ⟨by simp [hne], 0, rfl⟩

end Go.Proofs.Ytpjcgjbobljaeaa
