/-
  The functions of package pin.
-/
import Derived.Test.YtapmbignpdkfbaaPinM
import Derived.Sort.KeysCollected
namespace Go.Proofs.Ytapmbignpdkfbaa
open Go.RowKit Go.Maps
set_option linter.unusedVariables false

theorem Keep.thenU {S : Nat → Prop} {a b c : World} (h : Keep S a b) (k : Keep Nope b c) : Keep S a c := h.trans k (fun _ _ h => h.elim)

/-- A table of pins: c tells how often each is pinned; at most n words of the map were written. -/
def PinAt (w : World) (p b n : Nat) (c : Nat → Nat) : Prop := w.heap[p]? = some (.cells #[.map (some b)] 46 (0, 0)) ∧ PinIn w b n c

theorem PinAt.keep {S : Nat → Prop} {w w' : World} {p b n : Nat} {c : Nat → Nat} (h : PinAt w p b n c) (k : Keep S w w') (hp : ¬ S p) (hb : ¬ S b) : PinAt w' p b n c := ⟨k.at_ h.1 hp, h.2.keep k hb⟩

theorem PinAt.ne {w : World} {p b n : Nat} {c : Nat → Nat} (h : PinAt w p b n c) : p ≠ b := by
  rintro rfl
  obtain ⟨h1, D, ⟨es, clock, h2, -⟩, -⟩ := h
  rw [h1] at h2
  cases h2

theorem PinAt.lt {w : World} {p b n : Nat} {c : Nat → Nat} (h : PinAt w p b n c) : p < w.heap.size ∧ b < w.heap.size := ⟨(Array.getElem?_eq_some_iff.1 h.1).1, h.2.lt⟩

theorem PinIn.len {w : World} {b n : Nat} {c : Nat → Nat} (h : PinIn w b n c) : ∃ s : Nat, s ≤ n ∧ (∀ ss, KeyF c ss → ss.length = s) ∧ ∀ ty, (Builtin.len_ #[44] ty #[.map (some b)]).run Try.prog w = .ok (.int .i64 (s : Nat)) w := by
  obtain ⟨D, h1, h2⟩ := h
  refine ⟨Maps.size D, h1.size_le, fun ss hs => ?_, fun ty => h1.len Try.underlying44 ty⟩
  obtain ⟨es, hD, hpw, -⟩ := h1.entries (int_keyed Try.underlying27)
  obtain ⟨es', hD', hko⟩ := h1.keysOf
  subst hD
  obtain rfl : es = es' := by injection hD'
  have hk : ∀ p ∈ es, ∃ g : Nat, g < 18446744073709551616 ∧ p.1 = .int .u64 (g : Nat) := fun p hp => by
    obtain ⟨v, hv⟩ := hko p hp
    obtain ⟨x, -, hx, hw⟩ := Maps.keyOf_int_inv Try.underlying27 hv
    obtain ⟨g, rfl, hg⟩ := wfU_inv hw
    exact ⟨g, hg, hx⟩
  have hinj : ∀ (g g' : Nat), (Lit.int .u64 (g : Int)) = Lit.int .u64 (g' : Int) → g = g' := fun g g' h => by
    injection h with _ h
    omega
  have hperm : (ss.map fun x => Lit.int .u64 ((x : Nat) : Int)).Perm (es.map (·.1)) := by
    refine (List.perm_ext_iff_of_nodup ?_ ?_).2 fun k => ?_
    · exact List.pairwise_map.2 (hs.1.imp fun {x y} hxy e => hxy (hinj x y e))
    · exact List.pairwise_map.2 hpw
    · rw [List.mem_map, List.mem_map]
      constructor
      · rintro ⟨x, hx, rfl⟩
        have h3 := (hs.2 x).1 hx
        have h4 := (h2 x h3.1).1
        rw [decide_eq_true h3.2, has_eq, List.any_eq_true] at h4
        obtain ⟨p, hp, hsame⟩ := h4
        obtain ⟨g, hg, hpg⟩ := hk p hp
        refine ⟨p, hp, ?_⟩
        rw [hpg] at hsame ⊢
        have : (g : Int) = (x : Int) := by simpa [Lit.sameKey] using hsame
        rw [this]
      · rintro ⟨p, hp, rfl⟩
        obtain ⟨g, hg, hpg⟩ := hk p hp
        refine ⟨g, (hs.2 g).2 ⟨hg, ?_⟩, hpg.symm⟩
        have h4 := (h2 g hg).1
        have h5 : has (.map es) (.int .u64 (g : Nat)) = true := by
          rw [has_eq, List.any_eq_true]
          exact ⟨p, hp, by rw [hpg]; simp [Lit.sameKey]⟩
        rw [h5] at h4
        simpa using h4.symm
  have := hperm.length_eq
  simpa [Maps.size] using this

/-- A new table. -/
def NewPost (w : World) (e : Ending) (w' : World) : Prop := ∃ p b, e = .returned (.pointer (some ⟨p, 0, none⟩)) ∧ PinAt w' p b 0 (fun _ => 0) ∧ w.heap.size ≤ p ∧ w.heap.size ≤ b ∧ Keep Nope w w'

set_option maxHeartbeats 1000000 in
theorem PNew_at (w : World) : Calls Try.prog 9 #[] w (NewPost w) := by
  have hmm := @run_makeMap Try.prog
  go_enter Try.func9, Try.ntmps9
  go_wp2_with fail
  refine bodyPost_ret (v := .pointer (some ⟨w.heap.size + 1, 0, none⟩)) (by simp [results, Try.results9, go_sem]) rfl ⟨w.heap.size + 1, w.heap.size, rfl, ⟨?_, ?_⟩, by omega, by omega, ((Keep.refl _ w).alloc _).alloc _⟩
  · have := World.alloc_heap_new (w.alloc (.map #[] 0)) (.cells #[.map (some w.heap.size)] 46)
    simpa using this
  · exact (PinIn.made w).keep (S := Nope) ((Keep.refl _ _).alloc _) (fun h => h)

set_option maxHeartbeats 1000000 in
theorem put_at {w : World} {b n : Nat} {c : Nat → Nat} (h : PinIn w b n c) (hn : n < maxLen) {g v : Nat} (hg : g < 18446744073709551616) (hv : v < 9223372036854775808) :
    Calls Try.prog 22 #[.map (some b), .int .u64 (g : Nat), .int .i64 (v : Nat)] w fun e w' => e = .returned (.tuple #[]) ∧ PinIn w' b (n + 1) (fun x => if x = g then v else c x) ∧ Keep (fun k => k = b) w w' := by
  obtain ⟨w1, w2, h1, h2, h3, h4, h5, h6⟩ := h.put hn hg hv
  have H2 : Seal _ := ⟨h2⟩
  have H3 : Seal _ := ⟨h3⟩
  have H5 : Seal _ := ⟨h5⟩
  have H6 : Seal _ := ⟨h6⟩
  clear h h2 h3 h5 h6
  by_cases hv0 : v = 0
  · subst hv0
    rw [show ((0 : Nat) : Int) = 0 from rfl] at h1 ⊢
    go_enter Try.func22, Try.ntmps22
    go_wp2_with fail
    go_end0
    exact ⟨rfl, H5.out, H6.out⟩
  · have hv' : ((v : Int) == 0) = false := by simp; omega
    go_enter Try.func22, Try.ntmps22
    go_wp2_with fail
    go_end0
    exact ⟨rfl, H2.out hv0, H3.out⟩

def pinE (c : Nat → Nat) (g : Nat) : Nat := if g = 0 then 2 else if 256 ≤ c g then 4 else 0

def pinC (c : Nat → Nat) (g : Nat) : Nat → Nat := if pinE c g = 0 then (fun x => if x = g then c g + 1 else c x) else c

def unE (c : Nat → Nat) (g : Nat) : Nat := if c g = 0 then 3 else 0

def unC (c : Nat → Nat) (g : Nat) : Nat → Nat := fun x => if x = g then c g - 1 else c x

theorem PinIn.mono {w : World} {b n n' : Nat} {c : Nat → Nat} (h : PinIn w b n c) (hn : n ≤ n') : PinIn w b n' c := by
  obtain ⟨D, h1, h2⟩ := h
  exact ⟨D, h1.mono hn, h2⟩

theorem PinAt.mono {w : World} {p b n n' : Nat} {c : Nat → Nat} (h : PinAt w p b n c) (hn : n ≤ n') : PinAt w p b n' c := ⟨h.1, h.2.mono hn⟩

set_option maxHeartbeats 1000000 in
theorem Pin_at {w : World} {p b n : Nat} {c : Nat → Nat} (h : PinAt w p b n c) (hn : n < 4096) {g : Nat} (hg : g < 18446744073709551616) :
    Calls Try.prog 10 #[.pointer (some ⟨p, 0, none⟩), .int .u64 (g : Nat)] w fun e w' => e = .returned (.int .i64 (pinE c g : Nat)) ∧ PinAt w' p b (n + 1) (pinC c g) ∧ Keep (fun k => k = b) w w' := by
  have H : Seal _ := ⟨h⟩
  have hb := h.ne
  have cb := cell_of_one h.1
  by_cases hg0 : g = 0
  · have HP : Seal (pinE c g = 2 ∧ pinC c g = c) := ⟨by unfold pinC; rw [show pinE c g = 2 by unfold pinE; rw [if_pos hg0]]; exact ⟨rfl, rfl⟩⟩
    subst hg0
    rw [HP.out.1, HP.out.2, show ((0 : Nat) : Int) = 0 from rfl]
    clear h
    go_enter Try.func10, Try.ntmps10
    go_wp2_with fail
    exact bodyPost_ret (v := .int .i64 2) (by simp [results, Try.results10, go_sem]) rfl ⟨rfl, H.out.mono (by omega), Keep.refl _ _⟩
  · have hg0' : ((g : Int) == 0) = false := by simp; omega
    have hl := h.2.look hg
    obtain ⟨s, hs, -, hlen⟩ := h.2.len
    obtain ⟨m, hm⟩ : ∃ m, c g = m := ⟨_, rfl⟩
    rw [hm] at hl
    by_cases h256 : 256 ≤ m
    · have HP : Seal (pinE c g = 4 ∧ pinC c g = c) := ⟨by unfold pinC; rw [show pinE c g = 4 by unfold pinE; rw [if_neg hg0, if_pos (by omega)]]; exact ⟨rfl, rfl⟩⟩
      rw [HP.out.1, HP.out.2]
      have d1 : decide ((256 : Int) ≤ (m : Int)) = true := decide_eq_true (by omega)
      have d2 : (256 : Int) ≤ (m : Int) := by omega
      clear h hm
      go_enter Try.func10, Try.ntmps10
      go_wp2_with fail
      exact bodyPost_ret (v := .int .i64 4) (by simp [results, Try.results10, go_sem]) rfl ⟨rfl, H.out.mono (by omega), Keep.refl _ _⟩
    · have HP : Seal (pinE c g = 0 ∧ pinC c g = fun x => if x = g then m + 1 else c x) := ⟨by unfold pinC; rw [show pinE c g = 0 by unfold pinE; rw [if_neg hg0, if_neg (by omega)]]; exact ⟨rfl, by rw [if_pos rfl, hm]⟩⟩
      rw [HP.out.1, HP.out.2]
      have d1 : decide ((256 : Int) ≤ (m : Int)) = false := decide_eq_false (by omega)
      have d2 : ¬ (256 : Int) ≤ (m : Int) := by omega
      have HPu : Seal _ := ⟨put_at (v := m + 1) h.2 (by unfold maxLen; omega) hg (by omega)⟩
      have e1 : (m : Int) + 1 = ((m + 1 : Nat) : Int) := by omega
      have d3 : decide ((4096 : Int) ≤ (s : Int)) = false := decide_eq_false (by omega)
      have d4 : ¬ (4096 : Int) ≤ (s : Int) := by omega
      have HE : Seal _ := ⟨e1⟩
      clear h hm hs e1
      by_cases hm0 : m = 0
      case' pos =>
        have d5 : ((m : Int) == 0) = true := by simp; omega
        subst hm0
      case' neg => have d5 : ((m : Int) == 0) = false := by simp; omega
      all_goals
        go_enter Try.func10, Try.ntmps10
        go_wp2_with fail
        first
          | (rw [HE.out]; refine HPu.out.mono ?_)
          | refine HPu.out.mono ?_
        rintro e w1 ⟨rfl, h1, k1⟩
        have H1 : Seal _ := ⟨h1⟩
        have HK1 : Seal _ := ⟨k1⟩
        clear h1 k1
        go_wp2_with fail
        exact bodyPost_ret (v := .int .i64 0) (by simp [results, Try.results10, go_sem]) rfl ⟨rfl, ⟨HK1.out.at_ H.out.1 hb, H1.out⟩, HK1.out⟩

set_option maxHeartbeats 1000000 in
theorem Count_at {w : World} {p b n : Nat} {c : Nat → Nat} (h : PinAt w p b n c) {g : Nat} (hg : g < 18446744073709551616) :
    Calls Try.prog 12 #[.pointer (some ⟨p, 0, none⟩), .int .u64 (g : Nat)] w fun e w' => e = .returned (.int .i64 (c g : Nat)) ∧ w' = w := by
  have cb := cell_of_one h.1
  have hl := h.2.look hg
  obtain ⟨m, hm⟩ : ∃ m, c g = m := ⟨_, rfl⟩
  rw [hm] at hl ⊢
  clear h hm
  go_enter Try.func12, Try.ntmps12
  go_wp2_with fail
  exact bodyPost_ret (v := .int .i64 (m : Nat)) (by simp [results, Try.results12, go_sem]) rfl ⟨rfl, rfl⟩

set_option maxHeartbeats 1000000 in
theorem Len_at {w : World} {p b n : Nat} {c : Nat → Nat} (h : PinAt w p b n c) {ss : List Nat} (hs : KeyF c ss) :
    Calls Try.prog 16 #[.pointer (some ⟨p, 0, none⟩)] w fun e w' => e = .returned (.int .i64 (ss.length : Nat)) ∧ w' = w := by
  have cb := cell_of_one h.1
  obtain ⟨s, -, hss, hlen⟩ := h.2.len
  rw [hss ss hs]
  clear h hss hs
  go_enter Try.func16, Try.ntmps16
  go_wp2_with fail
  exact bodyPost_ret (v := .int .i64 (s : Nat)) (by simp [results, Try.results16, go_sem]) rfl ⟨rfl, rfl⟩

set_option maxHeartbeats 1000000 in
theorem Unpin_at {w : World} {p b n : Nat} {c : Nat → Nat} (h : PinAt w p b n c) (hn : n < 4096) {g : Nat} (hg : g < 18446744073709551616) (hc : c g < 9223372036854775808) :
    Calls Try.prog 11 #[.pointer (some ⟨p, 0, none⟩), .int .u64 (g : Nat)] w fun e w' => e = .returned (.int .i64 (unE c g : Nat)) ∧ PinAt w' p b (n + 1) (unC c g) ∧ Keep (fun k => k = b) w w' := by
  have H : Seal _ := ⟨h⟩
  have hb := h.ne
  have cb := cell_of_one h.1
  have hl := h.2.look hg
  obtain ⟨m, hm⟩ : ∃ m, c g = m := ⟨_, rfl⟩
  rw [hm] at hl hc
  by_cases hm0 : m = 0
  · have HP : Seal (unE c g = 3 ∧ unC c g = c) := ⟨by
      refine ⟨by unfold unE; rw [if_pos (by omega)], funext fun x => ?_⟩
      unfold unC
      split
      · rename_i e; rw [e]; omega
      · rfl⟩
    have d5 : ((m : Int) == 0) = true := by simp; omega
    rw [HP.out.1, HP.out.2]
    clear h hm
    go_enter Try.func11, Try.ntmps11
    go_wp2_with fail
    exact bodyPost_ret (v := .int .i64 3) (by simp [results, Try.results11, go_sem]) rfl ⟨rfl, H.out.mono (by omega), Keep.refl _ _⟩
  · have HP : Seal (unE c g = 0 ∧ unC c g = fun x => if x = g then m - 1 else c x) := ⟨by
      refine ⟨by unfold unE; rw [if_neg (by omega)], ?_⟩
      unfold unC
      rw [hm]⟩
    have d5 : ((m : Int) == 0) = false := by simp; omega
    rw [HP.out.1, HP.out.2]
    have HPu : Seal (∀ q, Calls Try.prog 22 #[.map (some b), .int .u64 (g : Nat), .int .i64 ((m - 1 : Nat) : Int)] (w.drewN q) fun e w' => e = .returned (.tuple #[]) ∧ PinIn w' b (n + 1) (fun x => if x = g then m - 1 else c x) ∧ Keep (fun k => k = b) (w.drewN q) w') := ⟨fun q => put_at (h.2.keep (S := Nope) (Keep.of_drewN q) (fun h => h)) (by unfold maxLen; omega) hg (by omega)⟩
    have e1 : (m : Int) - 1 = ((m - 1 : Nat) : Int) := by omega
    have u1 : IntKind.i64.wrap ((m : Int) - 1) = (m : Int) - 1 := by rw [IntKind.wrap_i64]; omega
    have HE : Seal _ := ⟨e1⟩
    have hl2 : ∀ q, (Instr.lookup 44 (.map (some b)) (.int .u64 (g : Nat)) false).run Try.prog (w.drewN q) = .ok (.int .i64 (m : Nat)) (w.drewN q) := fun q => by rw [← hm]; exact (h.2.keep (S := Nope) (Keep.of_drewN q) (fun h => h)).look hg
    clear h hm e1
    go_enter Try.func11, Try.ntmps11
    go_wp2_with fail
    refine wp_region_quiet_tail 12 (by kernel_rfl) (by kernel_rfl) ?_
    simp only [List.take_succ_cons, List.take_zero, List.drop_succ_cons, List.drop_zero]
    repeat (go_big_quiet_step (fail))
    refine wpQuiet_nil ?_
    intro _ hw'
    obtain ⟨nq, hw''⟩ := hw'
    subst hw''
    go_wp2_with fail
    first
      | (rw [HE.out]; refine (HPu.out _).mono ?_)
      | refine (HPu.out _).mono ?_
    rintro e w1 ⟨rfl, h1, k1⟩
    have H1 : Seal _ := ⟨h1⟩
    have HK1 : Seal (Keep (fun k => k = b) w w1) := ⟨(Keep.of_drewN (S := fun k => k = b) nq).trans k1 (fun _ _ h => h)⟩
    clear h1 k1
    go_wp2_with fail
    exact bodyPost_ret (v := .int .i64 0) (by simp [results, Try.results11, go_sem]) rfl ⟨rfl, ⟨HK1.out.at_ H.out.1 hb, H1.out⟩, HK1.out⟩

end Go.Proofs.Ytapmbignpdkfbaa
