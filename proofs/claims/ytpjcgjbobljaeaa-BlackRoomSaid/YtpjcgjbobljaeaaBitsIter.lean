/-
  The pieces of a run of bits, word by word: what the iterator of package bits hands over.
-/
import Derived.Test.YtpjcgjbobljaeaaProg
import Derived.Test.YtpjcgjbobljaeaaRange
import Derived.Test.YtpjcgjbobljaeaaWordWalks
namespace Go.Proofs.Ytpjcgjbobljaeaa
open Go.RowKit
set_option linter.unusedVariables false
attribute [local go_sem] Oper.semAt_some

/-- The pieces of n bits from i on: which word, from which bit of it, how many. -/
def pcsF : Nat → Nat → Nat → List (Nat × Nat × Nat)
  | 0, _, _ => []
  | f + 1, i, n => if n = 0 then [] else (i / 64, i % 64, min n (64 - i % 64)) :: pcsF f (i + min n (64 - i % 64)) (n - min n (64 - i % 64))
def pcs (i n : Nat) : List (Nat × Nat × Nat) := pcsF n i n

theorem pcsF_more : ∀ (f g i n : Nat), n ≤ f → n ≤ g → pcsF f i n = pcsF g i n
  | 0, 0, _, _, _, _ => rfl
  | 0, g + 1, i, n, h, _ => by simp only [pcsF]; rw [if_pos (by omega)]
  | f + 1, 0, i, n, _, h => by simp only [pcsF]; rw [if_pos (by omega)]
  | f + 1, g + 1, i, n, h, k => by
    simp only [pcsF]
    by_cases h0 : n = 0
    · rw [if_pos h0, if_pos h0]
    · rw [if_neg h0, if_neg h0, pcsF_more f g _ _ (by omega) (by omega)]

theorem pcs_nil (i : Nat) : pcs i 0 = [] := rfl
theorem pcs_cons (i n : Nat) (h : 0 < n) : pcs i n = (i / 64, i % 64, min n (64 - i % 64)) :: pcs (i + min n (64 - i % 64)) (n - min n (64 - i % 64)) := by
  obtain ⟨f, rfl⟩ : ∃ f, n = f + 1 := ⟨n - 1, by omega⟩
  unfold pcs
  rw [pcsF, if_neg (by omega), pcsF_more f _ _ _ (by omega) (Nat.le_refl _)]

/-- The mask of k bits, from bit b on. -/
def pmk (b k : Nat) : Nat := (2 ^ k - 1) * 2 ^ b

/-- A piece as a value. -/
def pieceV (x : Nat × Nat × Nat) : Array Value := #[.agg #[.int .i64 (x.1 : Nat), .int .i64 (x.2.1 : Nat), .int .u64 (pmk x.2.1 x.2.2 : Nat)]]

theorem mask_walk {k b : Nat} (hk : k < 64) (hb : b + k ≤ 64) : IntKind.u64.wrap (IntKind.u64.wrap (IntKind.u64.wrap ((2 : Int) ^ k) - 1) * 2 ^ b) = ((pmk b k : Nat) : Int) := by
  have h1 := Wd.mask_lt (at_ := b) (n := k) hb
  rw [Wd.two64] at h1
  have h2 : (2 : Nat) ^ k < 18446744073709551616 := by
    have := Nat.pow_lt_pow_right (a := 2) (by decide) hk
    rwa [Wd.two64] at this
  have h3 := Nat.two_pow_pos k
  have e1 : ((2 : Int) ^ k) = ((2 ^ k : Nat) : Int) := by simp
  rw [e1, wrap_of (n := ((2 ^ k : Nat) : Int)) (by omega) (by omega), wrap_of (n := ((2 ^ k : Nat) : Int) - 1) (by omega) (by omega)]
  have e2 : (((2 ^ k : Nat) : Int) - 1) * 2 ^ b = (((2 ^ k - 1) * 2 ^ b : Nat) : Int) := by
    rw [Int.natCast_mul, Int.natCast_sub h3]; simp
  rw [e2, wrap_of (by omega) (by omega)]; rfl

theorem full_int {j : Nat} (h : j % 64 = 0) : IntKind.u64.wrap ((18446744073709551615 : Int) * 2 ^ (j % 64)) = 18446744073709551615 := by
  rw [h, Int.pow_zero, Int.mul_one, wrap_of (by omega) (by omega)]

theorem full_nat {j : Nat} (h : j % 64 = 0) : ((pmk (j % 64) 64 : Nat) : Int) = 18446744073709551615 := by
  rw [h]; decide +kernel

theorem at_any (i : Int) (w : World) (h0 : 0 ≤ i) (h1 : i < 9223372036854775808) :
    Calls Try.prog 52 #[.int .i64 i] w fun e w' => e = .returned (.agg #[.int .i64 (i / 64), .int .i64 (i % 64)]) ∧ w.alloc (.cells #[.int .i64 (i / 64), .int .i64 (i % 64)] 84) = w' := by
  go_enter Try.func52, Try.ntmps52
  go_wp2
  exact bodyPost_ret (v := .agg #[.int .i64 (i / 64), .int .i64 (i % 64)]) (by simp [results, Try.results52, go_sem]) rfl ⟨rfl, rfl⟩

theorem pieces_any (i n : Int) (w : World) :
    Calls Try.prog 50 #[.int .i64 i, .int .i64 n] w fun e w' =>
      e = .returned (.func (.func 65) #[] #[.pointer (some ⟨w.heap.size + 1, 0, none⟩), .pointer (some ⟨w.heap.size, 0, none⟩)]) ∧
      (w.alloc (.cells #[.int .i64 i] 3)).alloc (.cells #[.int .i64 n] 3) = w' := by
  have hmf : ∀ (fn : Fn) (first cap : Array Value) (w : World), (Instr.makeFunc fn first cap).run Try.prog w = .ok (.func fn first cap) w := fun _ _ _ _ => rfl
  go_enter Try.func50, Try.ntmps50
  go_wp2
  go_ret
  exact ⟨rfl, rfl⟩

theorem pieces_round {i n j m K : Nat} {pre : List (Nat × Nat × Nat)} {J : List (Nat × Nat × Nat) → World → Prop} {W wr B : World} {bn bi : Nat} {x y : Int}
    (hx : pcs i n = pre ++ pcs j m) (hx' : pcs j m = (j / 64, j % 64, K) :: pcs (j + K) (m - K)) (hjm : j + m = i + n) (h1 : 0 < K) (h2 : K ≤ m) (hne : bn ≠ bi) (hs : W.heap.size ≤ wr.heap.size) (hsB : wr.heap.size + 1 + 1 ≤ B.heap.size)
    (hJ : ∀ (pre : List (Nat × Nat × Nat)) (A B : World), J pre A → Keep (fun k => k = bn ∨ k = bi) A B → J pre B) (hT : J (pre ++ [(j / 64, j % 64, K)]) B)
    (gnB : B.heap[bn]? = some (.cells #[.int .i64 (m : Nat)] 3 (0, 0))) (giB : B.heap[bi]? = some (.cells #[.int .i64 (j : Nat)] 3 (0, 0))) (cn : wr.cell? ⟨bn, 0, none⟩ = some (.int .i64 (m : Nat)))
    (ex : x = (j : Int) + K) (ey : y = (m : Int) - K) :
    (∃ (pre : List (Nat × Nat × Nat)) (j m : Nat), pcs i n = pre ++ pcs j m ∧ j + m = i + n ∧ J pre (((B.setCell ⟨bi, 0, none⟩ (.int .i64 x)).setCell ⟨bn, 0, none⟩ (.int .i64 y)).drew) ∧
      (((B.setCell ⟨bi, 0, none⟩ (.int .i64 x)).setCell ⟨bn, 0, none⟩ (.int .i64 y)).drew).heap[bn]? = some (.cells #[.int .i64 (m : Nat)] 3 (0, 0)) ∧
      (((B.setCell ⟨bi, 0, none⟩ (.int .i64 x)).setCell ⟨bn, 0, none⟩ (.int .i64 y)).drew).heap[bi]? = some (.cells #[.int .i64 (j : Nat)] 3 (0, 0)) ∧
      W.heap.size ≤ (((B.setCell ⟨bi, 0, none⟩ (.int .i64 x)).setCell ⟨bn, 0, none⟩ (.int .i64 y)).drew).heap.size) ∧
    (intOf (((((B.setCell ⟨bi, 0, none⟩ (.int .i64 x)).setCell ⟨bn, 0, none⟩ (.int .i64 y)).drew).cell? ⟨bn, 0, none⟩).getD undef)).toNat < (intOf ((wr.cell? ⟨bn, 0, none⟩).getD undef)).toNat := by
  have en : y = ((m - K : Nat) : Int) := by omega
  have ei : x = ((j + K : Nat) : Int) := by omega
  subst en ei
  have g1 := one_setCell (u := .int .i64 ((j + K : Nat) : Int)) giB
  have g2 : (B.setCell ⟨bi, 0, none⟩ (.int .i64 ((j + K : Nat) : Int))).heap[bn]? = some (.cells #[.int .i64 (m : Nat)] 3 (0, 0)) := (Below.heap_setCell _ _ _ _ hne).trans gnB
  have g3 := one_setCell (u := .int .i64 ((m - K : Nat) : Int)) g2
  have g4 : ((B.setCell ⟨bi, 0, none⟩ (.int .i64 ((j + K : Nat) : Int))).setCell ⟨bn, 0, none⟩ (.int .i64 ((m - K : Nat) : Int))).heap[bi]? = some (.cells #[.int .i64 ((j + K : Nat) : Int)] 3 (0, 0)) := (Below.heap_setCell _ _ _ _ (fun h => hne h.symm)).trans g1
  refine ⟨⟨pre ++ [(j / 64, j % 64, K)], j + K, m - K, by rw [hx, hx', List.append_assoc]; rfl, by omega, ?_, g3, g4, ?_⟩, ?_⟩
  · exact hJ _ _ _ hT ((((Keep.refl _ B).setCell (fun _ => .inr rfl) _).setCell (fun _ => .inl rfl) _).drew)
  · show W.heap.size ≤ ((B.setCell _ _).setCell _ _).heap.size
    simp only [World.setCell, Array.size_modify]; omega
  · rw [show ((((B.setCell ⟨bi, 0, none⟩ (.int .i64 ((j + K : Nat) : Int))).setCell ⟨bn, 0, none⟩ (.int .i64 ((m - K : Nat) : Int))).drew).cell? ⟨bn, 0, none⟩) = some (.int .i64 ((m - K : Nat) : Int)) from cell_of_one g3, cn]
    simp only [Option.getD_some, intOf]
    omega

set_option maxHeartbeats 2000000 in
theorem pieces_iter {i n : Nat} {w : World} (hi : i + n ≤ 65536) (bn bi : Nat) (hbn : w.heap[bn]? = some (.cells #[.int .i64 (n : Nat)] 3 (0, 0))) (hbi : w.heap[bi]? = some (.cells #[.int .i64 (i : Nat)] 3 (0, 0))) (hne : bn ≠ bi)
    {R : Nat → Prop} (hR : ∀ k, R k → k < w.heap.size ∧ k ≠ bn ∧ k ≠ bi) :
    IterAt Try.prog 65 #[.pointer (some ⟨bn, 0, none⟩), .pointer (some ⟨bi, 0, none⟩)] pieceV (pcs i n) (fun k => k = bn ∨ k = bi) R w := by
  intro l J Jx W hW hl1 hl2 hJ hJx hY h0
  have lbn := (Array.getElem?_eq_some_iff.1 hbn).1
  have lbi := (Array.getElem?_eq_some_iff.1 hbi).1
  have gbn := hW.at_ hbn (fun h => h)
  have gbi := hW.at_ hbi (fun h => h)
  have hsz := hW.size
  refine (callsIn_wide (n := 0)).1 ?_
  refine callsIn_of_wp Try.func65 rfl trivial ?_
  simp only [Try.ntmps65, List.size_toArray, List.length_cons, List.length_nil, Nat.reduceAdd, Nat.reduceSub, Array.replicate_succ, Array.replicate_zero, List.push_toArray, List.append_toArray, List.nil_append, List.cons_append]
  gi_wp2
  gi_loopw [4, 5] (fun _ _ wr => ∃ (pre : List (Nat × Nat × Nat)) (j m : Nat), pcs i n = pre ++ pcs j m ∧ j + m = i + n ∧ J pre wr ∧
      wr.heap[bn]? = some (.cells #[.int .i64 (m : Nat)] 3 (0, 0)) ∧ wr.heap[bi]? = some (.cells #[.int .i64 (j : Nat)] 3 (0, 0)) ∧ W.heap.size ≤ wr.heap.size)
    (fun _ _ wr => (intOf ((wr.cell? ⟨bn, 0, none⟩).getD undef)).toNat)
  case atStart => exact ⟨[], i, n, rfl, rfl, h0, gbn, gbi, Nat.le_refl _⟩
  case round =>
    obtain ⟨pre, j, m, hx, hjm, hj, gn, gi, hs⟩ := hrel
    have cn := cell_of_one gn
    have ci := cell_of_one gi
    by_cases hm : m = 0
    · subst hm
      gi_wp2
      go_end0
      exact ⟨⟨_, rfl⟩, .inl (by rw [hx, pcs_nil, List.append_nil]; exact hj)⟩
    · have hm' : (0 : Int) < m := by omega
      have hj1 : (j : Int) + m ≤ 65536 := by omega
      have a0 : bn < wr.heap.size := by omega
      have a1 : bn < wr.heap.size + 1 := by omega
      have c0 : bi < wr.heap.size := by omega
      have c1 : bi < wr.heap.size + 1 := by omega
      have fn := free_of_one gn
      have fi := free_of_one gi
      by_cases hk : (64 : Int) - (j : Int) % 64 < m
      · by_cases hb : (j : Int) % 64 = 0
        · have hk' : ¬ (64 : Int) - (j : Int) % 64 < 64 := by omega
          gi_wp2_with fail
          refine ⟨trivial, rfl, ?_⟩
          refine (callsIn_wide.2 (at_any _ _ (by omega) (by omega))).mono ?_
          rintro e w' ⟨rfl, rfl⟩
          gi_wp2_with fail
          have hx' := pcs_cons j m (by omega)
          have hK : min m (64 - j % 64) = 64 := by omega
          rw [hK] at hx'
          refine uponIn_yield (hY pre _ _ _ (by rw [hx, hx']) (hJ _ _ _ hj (((Keep.refl _ wr).alloc _).alloc _))) ?_ ?_ ?_
          · unfold pieceV
            have hb' : j % 64 = 0 := by omega
            rw [full_nat hb', show ((j % 64 : Nat) : Int) = 0 by omega]; simp
          · intro B hC hT
            have gnB := hC.at_ ((((Keep.refl Nope wr).alloc _).alloc _).at_ gn (fun h => h)) (fun h => by rcases h with h | h; have := hR _ h; omega; omega)
            have giB := hC.at_ ((((Keep.refl Nope wr).alloc _).alloc _).at_ gi (fun h => h)) (fun h => by rcases h with h | h; have := hR _ h; omega; omega)
            have hsB := hC.size
            simp only [World.size_alloc] at hsB
            have cnB := cell_of_one gnB
            have ciB := cell_of_one giB
            have fnB := free_of_one gnB
            have fiB := free_of_one giB
            gi_wp2_with fail
            refine wpIn_wide.2 ?_
            go_region
            all_goals
              go_wp2
              exact pieces_round hx hx' hjm (by omega) (by omega) hne hs hsB hJ hT gnB giB cn (by omega) (by omega)
          · intro B hC hE
            gi_wp2_with fail
            refine bodyPost_ret (results_none rfl _ _ _) rfl ?_
            exact ⟨⟨_, rfl⟩, .inr ⟨_, ⟨_, by rw [hx, hx', List.append_assoc]; rfl⟩, hE⟩⟩
        · have hk' : (64 : Int) - (j : Int) % 64 < 64 := by omega
          gi_wp2_with fail
          refine ⟨trivial, rfl, ?_⟩
          refine (callsIn_wide.2 (at_any _ _ (by omega) (by omega))).mono ?_
          rintro e w' ⟨rfl, rfl⟩
          gi_wp2_with fail
          have hx' := pcs_cons j m (by omega)
          have hK : min m (64 - j % 64) = 64 - j % 64 := by omega
          rw [hK] at hx'
          refine uponIn_yield (hY pre _ _ _ (by rw [hx, hx']) (hJ _ _ _ hj (((Keep.refl _ wr).alloc _).alloc _))) ?_ ?_ ?_
          · unfold pieceV
            rw [mask_walk (k := 64 - j % 64) (b := j % 64) (by omega) (by omega)]; simp
          · intro B hC hT
            have gnB := hC.at_ ((((Keep.refl Nope wr).alloc _).alloc _).at_ gn (fun h => h)) (fun h => by rcases h with h | h; have := hR _ h; omega; omega)
            have giB := hC.at_ ((((Keep.refl Nope wr).alloc _).alloc _).at_ gi (fun h => h)) (fun h => by rcases h with h | h; have := hR _ h; omega; omega)
            have hsB := hC.size
            simp only [World.size_alloc] at hsB
            have cnB := cell_of_one gnB
            have ciB := cell_of_one giB
            have fnB := free_of_one gnB
            have fiB := free_of_one giB
            gi_wp2_with fail
            refine wpIn_wide.2 ?_
            go_region
            all_goals
              go_wp2
              exact pieces_round hx hx' hjm (by omega) (by omega) hne hs hsB hJ hT gnB giB cn (by omega) (by omega)
          · intro B hC hE
            gi_wp2_with fail
            refine bodyPost_ret (results_none rfl _ _ _) rfl ?_
            exact ⟨⟨_, rfl⟩, .inr ⟨_, ⟨_, by rw [hx, hx', List.append_assoc]; rfl⟩, hE⟩⟩
      · by_cases hb : m < 64
        · have hk' : (m : Int) < 64 := by omega
          gi_wp2_with fail
          refine ⟨trivial, rfl, ?_⟩
          refine (callsIn_wide.2 (at_any _ _ (by omega) (by omega))).mono ?_
          rintro e w' ⟨rfl, rfl⟩
          gi_wp2_with fail
          have hx' := pcs_cons j m (by omega)
          have hK : min m (64 - j % 64) = m := by omega
          rw [hK] at hx'
          refine uponIn_yield (hY pre _ _ _ (by rw [hx, hx']) (hJ _ _ _ hj (((Keep.refl _ wr).alloc _).alloc _))) ?_ ?_ ?_
          · unfold pieceV
            rw [mask_walk (k := m) (b := j % 64) (by omega) (by omega)]; simp
          · intro B hC hT
            have gnB := hC.at_ ((((Keep.refl Nope wr).alloc _).alloc _).at_ gn (fun h => h)) (fun h => by rcases h with h | h; have := hR _ h; omega; omega)
            have giB := hC.at_ ((((Keep.refl Nope wr).alloc _).alloc _).at_ gi (fun h => h)) (fun h => by rcases h with h | h; have := hR _ h; omega; omega)
            have hsB := hC.size
            simp only [World.size_alloc] at hsB
            have cnB := cell_of_one gnB
            have ciB := cell_of_one giB
            have fnB := free_of_one gnB
            have fiB := free_of_one giB
            gi_wp2_with fail
            refine wpIn_wide.2 ?_
            go_region
            all_goals
              go_wp2
              exact pieces_round hx hx' hjm (by omega) (by omega) hne hs hsB hJ hT gnB giB cn (by omega) (by omega)
          · intro B hC hE
            gi_wp2_with fail
            refine bodyPost_ret (results_none rfl _ _ _) rfl ?_
            exact ⟨⟨_, rfl⟩, .inr ⟨_, ⟨_, by rw [hx, hx', List.append_assoc]; rfl⟩, hE⟩⟩
        · have hk' : ¬ (m : Int) < 64 := by omega
          gi_wp2_with fail
          refine ⟨trivial, rfl, ?_⟩
          refine (callsIn_wide.2 (at_any _ _ (by omega) (by omega))).mono ?_
          rintro e w' ⟨rfl, rfl⟩
          gi_wp2_with fail
          have hx' := pcs_cons j m (by omega)
          have hK : min m (64 - j % 64) = 64 := by omega
          rw [hK] at hx'
          refine uponIn_yield (hY pre _ _ _ (by rw [hx, hx']) (hJ _ _ _ hj (((Keep.refl _ wr).alloc _).alloc _))) ?_ ?_ ?_
          · unfold pieceV
            have hb' : j % 64 = 0 := by omega
            rw [full_nat hb', full_int hb']; simp
          · intro B hC hT
            have gnB := hC.at_ ((((Keep.refl Nope wr).alloc _).alloc _).at_ gn (fun h => h)) (fun h => by rcases h with h | h; have := hR _ h; omega; omega)
            have giB := hC.at_ ((((Keep.refl Nope wr).alloc _).alloc _).at_ gi (fun h => h)) (fun h => by rcases h with h | h; have := hR _ h; omega; omega)
            have hsB := hC.size
            simp only [World.size_alloc] at hsB
            have cnB := cell_of_one gnB
            have ciB := cell_of_one giB
            have fnB := free_of_one gnB
            have fiB := free_of_one giB
            gi_wp2_with fail
            refine wpIn_wide.2 ?_
            go_region
            all_goals
              go_wp2
              exact pieces_round hx hx' hjm (by omega) (by omega) hne hs hsB hJ hT gnB giB cn (by omega) (by omega)
          · intro B hC hE
            gi_wp2_with fail
            refine bodyPost_ret (results_none rfl _ _ _) rfl ?_
            exact ⟨⟨_, rfl⟩, .inr ⟨_, ⟨_, by rw [hx, hx', List.append_assoc]; rfl⟩, hE⟩⟩

end Go.Proofs.Ytpjcgjbobljaeaa
