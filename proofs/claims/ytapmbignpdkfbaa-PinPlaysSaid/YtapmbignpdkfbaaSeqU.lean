/-
  slices.AppendSeq and slices.Collect at uint64, over any function that hands on its values, by its contract.
-/
import Derived.Test.YtapmbignpdkfbaaProg
import Derived.Test.YtapmbignpdkfbaaIterN
import Derived.Deep.AppendLies
import Derived.Test.YtapmbignpdkfbaaSortF
namespace Go.Proofs.Ytapmbignpdkfbaa
open Go.RowKit
set_option linter.unusedVariables false
attribute [local go_sem] Oper.semAt_some

def u64L (xs : List Nat) : List Value := xs.map fun x => .int .u64 (x : Nat)

theorem u64L_len (xs : List Nat) : (u64L xs).length = xs.length := by simp [u64L]

theorem rowU_keep {S : Nat → Prop} {w w' : World} {base : Nat} {e : TypeId} {size : Nat} {v : Value} {n : Nat} {xs : List Value} (h : w.ownsRow base e size v n xs) (k : Keep S w w') (hs : ∀ b, v.ownBlock = some b → ¬ S b) : w'.ownsRow base e size v n xs := by
  obtain ⟨h1, h⟩ := h
  refine ⟨h1, ?_⟩
  rcases h with h | ⟨g, cap, cur, rfl, h2, h3, h4⟩
  · exact .inl h
  · exact .inr ⟨g, cap, cur, rfl, h2, k.at_ h3 (hs g rfl), h4⟩

theorem rowU_block {w : World} {base : Nat} {e : TypeId} {size : Nat} {v : Value} {n : Nat} {xs : List Value} (h : w.ownsRow base e size v n xs) {b : Nat} (hb : v.ownBlock = some b) : base ≤ b ∧ b < w.heap.size := by
  obtain ⟨h1, h⟩ := h
  rcases h with ⟨rfl, _⟩ | ⟨g, cap, cur, rfl, h2, h3, h4⟩
  · cases hb
  · obtain rfl : g = b := by simpa [Value.ownBlock] using hb
    exact ⟨h2, (Array.getElem?_eq_some_iff.1 h3).1⟩

theorem rowU_less {w : World} {base base' : Nat} {e : TypeId} {size : Nat} {v : Value} {n : Nat} {xs : List Value} (h : w.ownsRow base e size v n xs) (hb : base' ≤ base) : w.ownsRow base' e size v n xs := by
  obtain ⟨h1, h⟩ := h
  refine ⟨h1, ?_⟩
  rcases h with h | ⟨g, cap, cur, rfl, h2, h3⟩
  · exact .inl h
  · exact .inr ⟨g, cap, cur, rfl, by omega, h3⟩

theorem Try.underlyingU64S : Try.prog.underlying 34 = some (.slice 27) := by kernel_rfl

theorem Try.infoU64S : (Try.prog.info? 27).map (fun i => (i.zero, i.size, i.bytes)) = some (some (.int .u64 0), 1, 8) := by kernel_rfl

section

variable {Pr : Program}

theorem wpListIn_of_list {ops : Array Oper} {Q : Exit → Act → World → Prop} {n r : Nat} (hq : ∀ a w, ¬ Q .outgrown a w) : ∀ (l : List Oper) (a : Act) (w : World), noDefers l.toArray = true → wpList Pr ops Q l a w → wpListIn (Fence.wide.inRound r) n Pr ops Q l a w
  | [], _, _, _, h => h
  | o :: l, a, w, hd, h => by
    have hdo : ∀ c, o.op ≠ .defer c := noDefers_spec (ops := (o :: l).toArray) hd (i := 0) (o := o) (by simp)
    have hdl : noDefers l.toArray = true := by
      simp only [noDefers, List.all_toArray, List.all_cons, Bool.and_eq_true] at hd ⊢
      exact hd.2
    simp only [wpList] at h
    simp only [wpListIn]
    split
    · rename_i hw
      simp only [hw, if_true] at h
      rcases h with h | ⟨_, a', w', h⟩
      · exact Oper.wpIn_of_wp hdo (Oper.wp_mono (fun a' w' => wpListIn_of_list hq l a' w' hdl) h)
      · exact (hq _ _ h).elim
    · rename_i hw
      simp only [hw] at h
      exact ⟨fun _ _ => trivial, wpListIn_of_list hq l _ w hdl h⟩

end

/-- Where AppendSeq's loop stands. -/
def SeqI (O : Nat → Prop) (B : Nat) (wl : World) (pre : List Nat) (S : Nat → Prop) (W' : World) : Prop :=
  ∃ v, W'.heap[B]? = some (.cells #[v] 34 (0, 0)) ∧ W'.ownsRow (wl.heap.size + 2) 27 1 v pre.length (u64L pre) ∧ (∀ b, v.ownBlock = some b → ¬ O b) ∧ (S = fun k => k = B ∨ v.ownBlock = some k) ∧ Keep (fun k => k = B) wl W'

set_option maxRecDepth 20000 in
set_option maxHeartbeats 4000000 in
theorem AppSeq_at {gf : Nat} {lb : Array Value} {Px Fx : List Nat → Prop} {O : Nat → Prop} (w : World) (eg : ∀ args w, (callFunc gf args).run Try.prog w = .ok (.enter gf args) w)
    (hit : IterN Try.prog gf lb (fun x : Nat => #[.int .u64 (x : Nat)]) Px Fx O (fun i => i = w.heap.size) (w.alloc (.cells #[.slice none 0 0] 34))) (hO : ∀ k, O k → w.heap.size + 3 ≤ k)
    (hlen : ∀ pre, Px pre → pre.length ≤ 1099511627776) :
    Calls Try.prog 27 #[.slice none 0 0, .func (.func gf) #[] lb] w fun e w' => ∃ v ss, Fx ss ∧ e = .returned v ∧ w'.ownsRow w.heap.size 27 1 v ss.length (u64L ss) ∧ Keep Nope w w' := by
  refine (callsIn_wide (n := 0)).1 ?_
  refine callsIn_of_wp_marks Try.func27 rfl trivial ?_
  simp only [Try.ntmps27, List.size_toArray, List.length_cons, List.length_nil, Nat.reduceAdd, Nat.reduceSub, Array.replicate_succ, Array.replicate_zero, List.push_toArray, List.append_toArray, List.nil_append, List.cons_append]
  gi_wp2_with fail
  obtain ⟨wl, hwl⟩ : ∃ wl, wl = w.alloc (.cells #[.slice none 0 0] 34) := ⟨_, rfl⟩
  rw [← hwl] at hit ⊢
  have kl : Keep Nope w wl := by rw [hwl]; exact (Keep.refl _ w).alloc _
  have zl : wl.heap.size = w.heap.size + 1 := by rw [hwl]; simp
  have bl : wl.heap[w.heap.size]? = some (.cells #[.slice none 0 0] 34 (0, 0)) := by rw [hwl]; exact World.alloc_heap_new w _
  clear hwl
  obtain ⟨B, hB⟩ : ∃ B, w.heap.size = B := ⟨_, rfl⟩
  rw [hB] at zl bl hit hO ⊢
  refine wpIn_rangeN (n := 0) (gf := gf) (lb := lb) rfl eg hit (fun k h => .inr (by have := hO k h; omega)) (fun i hi => by omega)
    (X := fun _ => False) (fun i hi => hi.elim) (fun _ => rfl)
    (fun pre S W' => SeqI O B wl pre S W') (fun c pre W' => False) (fun i => i = B ∨ (Value.slice none 0 0).ownBlock = some i) ?hS ?hI ?hIx ?h0 ?hround ?hdone ?hstop
  case hS =>
    rintro pre S A ⟨v, a1, a2, a5, rfl, a4⟩ i hi
    rcases hi with hi | hi
    · exact ⟨.inl hi, by have := (Array.getElem?_eq_some_iff.1 a1).1; omega, fun h => by have := hO i h; omega⟩
    · have := rowU_block a2 hi
      exact ⟨.inr this.1, this.2, a5 i hi⟩
  case hI =>
    rintro pre S A A' ⟨v, a1, a2, a5, a3, a4⟩ hk
    exact ⟨v, hk.at_ a1 (fun h => by rcases h with h | h | h; have := hO _ h; omega; omega; omega), rowU_keep a2 hk (fun b hb h => by have := rowU_block a2 hb; rcases h with h | h | h; exact a5 b hb h; omega; omega), a5, a3,
      a4.trans hk (fun b hb h => by rcases h with h | h | h; have := hO _ h; omega; omega; omega)⟩
  case hIx => exact fun c pre A B h hk => h
  case h0 => exact ⟨_, bl, World.ownsRow_nil wl _ _ _, fun b h => by simp [Value.ownBlock] at h, rfl, Keep.refl _ _⟩
  case hround =>
    rintro pre S x W' hx ⟨v, a1, a2, a5, a3, a4⟩ hs hOl
    have hpl : pre.length + 1 ≤ 1099511627776 := by
      have := hlen _ hx
      simpa using this
    clear hx hit bl
    gi_wp2_with fail
    refine ⟨Keep.refl _ W', ?_⟩
    intro W2 hc2 hf2 hk2 hs2 hr2
    have lW := (Array.getElem?_eq_some_iff.1 a1).1
    have own1 : (W2).ownsRow (wl.heap.size + 2) 27 1 v pre.length (u64L pre) := rowU_keep a2 hk2 (fun b hb h => by have := rowU_block a2 hb; omega)
    have r0 := hk2.at_ a1 (by omega)
    have c0 := cell_of_one r0
    have fr0 : W2.frozen? ⟨B, 0, none⟩ = false := frozen_one r0
    have HR0 : Seal _ := ⟨r0⟩
    have HOW : Seal _ := ⟨own1⟩
    have HA4 : Seal _ := ⟨a4⟩
    have HA5 : Seal _ := ⟨a5⟩
    have HOl : Seal (∀ k, O k → k < W2.heap.size) := ⟨fun k h => by have := hOl k h; omega⟩
    have HK2 : Seal _ := ⟨hk2⟩
    have lrW2 : B < W2.heap.size := by omega
    have HNW : Seal (¬ v.ownBlock = some B) := ⟨fun e => by have := rowU_block own1 e; omega⟩
    have HS3 : Seal _ := ⟨a3⟩
    have hs3 : wl.heap.size + 2 ≤ W2.heap.size := by omega
    clear r0 own1 a2 a4 hc2 hf2 a1 a3 a5 hk2 hs2 hOl
    obtain ⟨i0, hi, hz0, hz1, hz2⟩ := info_parts Try.infoU64S
    refine wpIn_block ?_
    refine wpIn_region_lit ?_
    refine wpListIn_of_list (fun _ _ h => h) _ _ _ (by kernel_rfl) ?_
    go_wp2_with (at_builtin; go_loud (refine wpList_append_lies _ rfl (.tmp 8) (.tmp 10) 34 rfl (wl.heap.size + 2) 27 i0 _ 1 8 Try.underlyingU64S hi hz0 hz1 hz2 rfl (by omega) v pre.length (u64L pre) rfl (HOW.out.alloc _) ⟨W2.heap.size, 0, none⟩ 1 1 [.int .u64 (x : Nat)] rfl rfl (World.news_of_block (World.alloc_heap_new W2 _)) (by intro u hu; simp at hu; subst hu; rfl) (by omega) (by unfold maxLen; omega) (by omega) (by simp; omega) _ rfl ?_); intro g cap w3 hown hgrow hat hlt; have KA : Keep (fun b => v.ownBlock = some b) W2 w3 := ((Keep.refl Nope W2).alloc _ |>.of_not _).grown hgrow (fun k e _ => e); have r3 := KA.at_ HR0.out HNW.out; have c3 := cell_of_one r3; have fr3 : w3.frozen? ⟨B, 0, none⟩ = false := frozen_one r3; have HR3 : Seal _ := ⟨r3⟩; clear r3)
    have KB : Keep (fun b => b = B) w3 (w3.setCell ⟨B, 0, none⟩ (.slice (some ⟨g, 0, none⟩) (pre.length + 1) cap)) := (Keep.refl (fun b => b = B) w3).setCell (fun _ => rfl) _
    refine ⟨((KA.mono fun b hb h => by rw [HS3.out]; exact .inr h).trans KB (fun b hb h => by rw [HS3.out]; exact .inl h)), _, ⟨.slice (some ⟨g, 0, none⟩) (pre.length + 1) cap, one_setCell HR3.out, ?_, ?_, rfl, ?_⟩, ?_⟩
    · rw [u64L, List.map_append, List.length_append]
      exact rowU_keep hown KB (fun b hb h => by have := rowU_block hown hb; omega)
    · intro b hb hOb
      have hg : g = b := by simpa [Value.ownBlock] using hb
      subst hg
      rcases hat with h | h
      · exact HA5.out _ h hOb
      · have := HOl.out _ hOb
        simp at h
        omega
    · exact ((HA4.out.trans HK2.out (fun b hb h => by omega)).trans KA (fun b hb h => by have := rowU_block HOW.out h; omega)).trans KB (fun b hb h => h)
    · rintro i (hi' | hi')
      · exact .inl (by rw [HS3.out]; exact .inl hi')
      · have hg : g = i := by simpa [Value.ownBlock] using hi'
        subst hg
        rcases hat with h | h
        · exact .inl (by rw [HS3.out]; exact .inr h)
        · right
          rw [h]
          simp
  case hdone =>
    rintro ss S W' hFx ⟨v, a1, a2, a5, a3, a4⟩ hs hD
    obtain ⟨va, vn, vc, hv⟩ : ∃ va vn vc, v = .slice va vn vc := by
      rcases a2.2 with ⟨h, _⟩ | ⟨g, cap, cur, h, _⟩
      · exact ⟨_, _, _, h⟩
      · exact ⟨_, _, _, h⟩
    subst hv
    have c0 := cell_of_one a1
    have fr0 := free_of_one a1
    have HA1 : Seal _ := ⟨a1⟩
    have HA2 : Seal _ := ⟨a2⟩
    have HA4 : Seal _ := ⟨a4⟩
    clear a1 a2 a3 a4 a5
    gi_wp2_with fail
    refine ⟨by simp, .inl ⟨_, _, rfl, run_takeDeferred hD, ?_⟩⟩
    have kE : Keep (fun b => b = wl.heap.size) W' (W'.putObj wl.heap.size (.deferred none)) := (Keep.refl (fun b => b = wl.heap.size) W').putObj (fun _ => rfl) _
    refine ⟨.slice va vn vc, by simp [results, Try.results27, go_sem], _, ss, hFx, rfl, ?_, ?_⟩
    · refine rowU_less (rowU_keep HA2.out kE (fun b hb h => ?_)) (by omega)
      have := rowU_block HA2.out hb; omega
    · exact ((kl.trans HA4.out (fun b hb h => by omega)).trans kE (fun b hb h => by omega))
  case hstop => exact fun c pre W' hp h => h.elim

set_option maxHeartbeats 1000000 in
theorem Collect_at {gf : Nat} {lb : Array Value} {Px Fx : List Nat → Prop} {O : Nat → Prop} (w : World) (eg : ∀ args w, (callFunc gf args).run Try.prog w = .ok (.enter gf args) w)
    (hit : IterN Try.prog gf lb (fun x : Nat => #[.int .u64 (x : Nat)]) Px Fx O (fun i => i = w.heap.size) (w.alloc (.cells #[.slice none 0 0] 34))) (hO : ∀ k, O k → w.heap.size + 3 ≤ k)
    (hlen : ∀ pre, Px pre → pre.length ≤ 1099511627776) :
    Calls Try.prog 23 #[.func (.func gf) #[] lb] w fun e w' => ∃ v ss, Fx ss ∧ e = .returned v ∧ w'.ownsRow w.heap.size 27 1 v ss.length (u64L ss) ∧ Keep Nope w w' := by
  have HC : Seal _ := ⟨AppSeq_at w eg hit hO hlen⟩
  clear hit eg hO hlen
  go_enter Try.func23, Try.ntmps23
  go_wp2_with fail
  refine HC.out.mono ?_
  rintro e w' ⟨v, ss, h1, rfl, h2, h3⟩
  have HH : Seal _ := ⟨And.intro h1 (And.intro h2 h3)⟩
  clear h1 h2 h3
  go_wp2_with fail
  exact bodyPost_ret (v := v) (by simp [results, Try.results23, go_sem]) rfl ⟨v, ss, HH.out.1, rfl, HH.out.2.1, HH.out.2.2⟩

end Go.Proofs.Ytapmbignpdkfbaa
