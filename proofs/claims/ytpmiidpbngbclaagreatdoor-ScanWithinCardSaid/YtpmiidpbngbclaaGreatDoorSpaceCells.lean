/-
  Cells of package space.
-/
import Derived.Test.YtpmiidpbngbclaaGreatDoorSpacePut
import Derived.Deep.AppendLies
namespace Go.Proofs.YtpmiidpbngbclaaGreatDoor
open Go.RowKit
set_option linter.unusedVariables false
attribute [local go_sem] Oper.semAt_some

/-- Cells as values, one behind the other. -/
def flatC : List Cel → List Value
  | [] => []
  | c :: cs => .int .i64 (c.g : Nat) :: .int .u8 (c.tag : Nat) :: .int .i64 (c.ty : Nat) :: .int .i64 (c.ln : Nat) :: .int .i64 (c.sz : Nat) :: flatC cs

theorem flatC_append : ∀ (xs ys : List Cel), flatC (xs ++ ys) = flatC xs ++ flatC ys
  | [], ys => rfl
  | x :: xs, ys => by simp [flatC, flatC_append xs ys]

theorem flatC_length : ∀ (xs : List Cel), (flatC xs).length = xs.length * 5
  | [] => rfl
  | x :: xs => by simp [flatC, flatC_length xs]; omega

theorem tiles_len : ∀ {xs : List Cel} {a b : Nat}, Tiles a xs b → xs.length ≤ b - a
  | [], a, b, h => Nat.zero_le _
  | c :: xs, a, b, ⟨h1, h2, h3⟩ => by
    have := tiles_len h3
    have := h3.le
    simp only [List.length_cons]
    omega

theorem Tryz.underlyingCells : Tryz.prog.underlying 52 = some (.slice 62) := by kernel_rfl

theorem Tryz.infoCell : (Tryz.prog.info? 62).map (fun i => (i.zero, i.size, i.bytes)) = some (some (.agg #[.int .i64 0, .int .u8 0, .int .i64 0, .int .i64 0, .int .i64 0]), 5, 40) := by kernel_rfl

variable {Pr : Program}

theorem wpListIn_of_wpList {ops : Array Oper} {Q : Exit → Act → World → Prop} {n r : Nat} (hq : ∀ a w, ¬ Q .outgrown a w) : ∀ (l : List Oper) (a : Act) (w : World), noDefers l.toArray = true → wpList Pr ops Q l a w → wpListIn (Fence.wide.inRound r) n Pr ops Q l a w
  | [], _, _, _, h => h
  | o :: l, a, w, hd, h => by
    have hdo : ∀ c, o.op ≠ .defer c := noDefers_spec (ops := (o :: l).toArray) hd (i := 0) (o := o) (by simp)
    have hdl : noDefers l.toArray = true := by
      simp only [noDefers, List.all_toArray, List.all_cons, Bool.and_eq_true] at hd ⊢
      exact hd.2
    simp only [wpList] at h
    simp only [wpListIn]
    split
    · rename_i hw
      simp only [hw, if_true] at h
      rcases h with h | ⟨_, a', w', h⟩
      · exact Oper.wpIn_of_wp hdo (Oper.wp_mono (fun a' w' => wpListIn_of_wpList hq l a' w' hdl) h)
      · exact (hq _ _ h).elim
    · rename_i hw
      simp only [hw] at h
      exact ⟨fun _ _ => trivial, wpListIn_of_wpList hq l _ w hdl h⟩

theorem ownsRow_keep {S : Nat → Prop} {w w' : World} {base : Nat} {e : TypeId} {size : Nat} {v : Value} {n : Nat} {xs : List Value} (h : w.ownsRow base e size v n xs) (k : Keep S w w') (hs : ∀ b, v.ownBlock = some b → ¬ S b) : w'.ownsRow base e size v n xs := by
  obtain ⟨h1, h⟩ := h
  refine ⟨h1, ?_⟩
  rcases h with h | ⟨g, cap, cur, rfl, h2, h3, h4⟩
  · exact .inl h
  · exact .inr ⟨g, cap, cur, rfl, h2, k.at_ h3 (hs g rfl), h4⟩

theorem ownsRow_block {w : World} {base : Nat} {e : TypeId} {size : Nat} {v : Value} {n : Nat} {xs : List Value} (h : w.ownsRow base e size v n xs) {b : Nat} (hb : v.ownBlock = some b) : base ≤ b ∧ b < w.heap.size := by
  obtain ⟨h1, h⟩ := h
  rcases h with ⟨rfl, _⟩ | ⟨g, cap, cur, rfl, h2, h3, h4⟩
  · cases hb
  · obtain rfl : g = b := by simpa [Value.ownBlock] using hb
    exact ⟨h2, lt_of_heap h3⟩

theorem ownsRow_less {w : World} {base base' : Nat} {e : TypeId} {size : Nat} {v : Value} {n : Nat} {xs : List Value} (h : w.ownsRow base e size v n xs) (hb : base' ≤ base) : w.ownsRow base' e size v n xs := by
  obtain ⟨h1, h⟩ := h
  refine ⟨h1, ?_⟩
  rcases h with h | ⟨g, cap, cur, rfl, h2, h3⟩
  · exact .inl h
  · exact .inr ⟨g, cap, cur, rfl, Nat.le_trans hb h2, h3⟩

/-- Where the rounds of Cells stand: b is the block of the result, wl the world behind the iterator's making. -/
def CellsI (b : Nat) (wl : World) (pre : List Cel) (S : Nat → Prop) (W' : World) : Prop :=
  ∃ v, W'.heap[b]? = some (.cells #[v] 52 (0, 0)) ∧ W'.ownsRow (wl.heap.size + 2) 62 5 v pre.length (flatC pre) ∧ S = (fun k => k = b ∨ v.ownBlock = some k) ∧ Keep (fun k => k = b) wl W'

set_option maxRecDepth 20000 in
set_option maxHeartbeats 4000000 in
theorem Cells_at (P : Sp) (cs : List Cel) (w : World) (h : SpaceHas w P cs) :
    Calls Tryz.prog 25 #[.pointer (some ⟨P.s, 0, none⟩)] w fun e w' => ∃ v, e = .returned v ∧ w'.ownsRow w.heap.size 62 5 v cs.length (flatC cs) ∧ Keep Nope w w' := by
  obtain ⟨W, f, hs, hc, hst⟩ := h
  have HSs : Seal _ := ⟨hs⟩
  have HCs : Seal _ := ⟨hc⟩
  have lts := hs.lt P.s (by simp [Sp.all])
  have lw := hs.lt
  have hlen : cs.length ≤ 32768 := by
    have := tiles_len hc.tl
    have := hs.ar.small
    omega
  clear hs hc hst
  refine (callsIn_wide (n := 0)).1 ?_
  refine callsIn_of_wp_marks Tryz.func25 rfl trivial ?_
  simp only [Tryz.ntmps25, List.size_toArray, List.length_cons, List.length_nil, Nat.reduceAdd, Nat.reduceSub, Array.replicate_succ, Array.replicate_zero, List.push_toArray, List.append_toArray, List.nil_append, List.cons_append]
  gi_wp2_with fail
  refine ⟨trivial, rfl, ?_⟩
  obtain ⟨w1, hw1⟩ : ∃ w1, w1 = w.alloc (.cells #[.slice none 0 0] 52) := ⟨_, rfl⟩
  rw [← hw1]
  have k1 : Keep Nope w w1 := by rw [hw1]; exact (Keep.refl _ w).alloc _
  have z1 : w1.heap.size = w.heap.size + 1 := by rw [hw1]; simp
  have b1 : w1.heap[w.heap.size]? = some (.cells #[.slice none 0 0] 52 (0, 0)) := by rw [hw1]; exact World.alloc_heap_new w _
  clear hw1
  refine (callsIn_wide.2 (cells_fn P w1)).mono ?_
  rintro e wl ⟨rfl, hwl⟩
  have hzl : wl.heap.size = w1.heap.size + 1 := by rw [← hwl]; simp
  have kl : Keep Nope w1 wl := by rw [← hwl]; exact (Keep.refl _ w1).alloc _
  have gbx : wl.heap[w1.heap.size]? = some (.cells #[.pointer (some ⟨P.s, 0, none⟩)] 27 (0, 0)) := by rw [← hwl]; exact World.alloc_heap_new w1 _
  clear hwl
  have KL : Keep Nope w wl := k1.then' kl
  have SL := HSs.out.keepN KL
  have bl1 := kl.at_ b1 (fun h => h)
  rw [z1] at gbx hzl
  gi_wp2_with fail
  refine wpIn_range3 (n := 0) (gf := 116) (lb := #[.pointer (some ⟨w.heap.size + 1, 0, none⟩)]) rfl (enters_of Tryz.func116 (by kernel_rfl) rfl)
    (cells_iter3 P W f cs wl (w.heap.size + 1) SL HCs.out gbx (R := fun k => k = w.heap.size) (fun k hk => by subst hk; exact ⟨by omega, by omega, fun h => by have := lw _ h; omega⟩)) (fun k hk => hk.elim) (fun k hk => by omega)
    (X := fun _ => False) (fun k hk => hk.elim) (fun _ => rfl)
    (fun pre S W' => CellsI w.heap.size wl pre S W') (fun c pre W' => False) (fun k => k = w.heap.size ∨ (Value.slice none 0 0).ownBlock = some k) ?hS ?hI ?hIx ?h0 ?hround ?hdone ?hstop
  case hS =>
    rintro pre S A ⟨v, a1, a2, rfl, a4⟩ k hk
    rcases hk with hk | hk
    · exact ⟨.inl hk, by have := lt_of_heap a1; omega⟩
    · have := ownsRow_block a2 hk
      exact ⟨.inr this.1, this.2⟩
  case hI =>
    rintro pre S A B ⟨v, a1, a2, a3, a4⟩ hk
    exact ⟨v, hk.at_ a1 (fun h => by rcases h with h | h | h; exact h; omega; omega), ownsRow_keep a2 hk (fun b hb h => by have := ownsRow_block a2 hb; rcases h with h | h | h; exact h; omega; omega), a3,
      a4.trans hk (fun b hb h => by rcases h with h | h | h; exact h.elim; omega; omega)⟩
  case hIx => exact fun c pre A B h hk => h
  case h0 => exact ⟨_, bl1, World.ownsRow_nil wl _ _ _, rfl, Keep.refl _ _⟩
  case hround =>
    rintro pre S x rest W' hx ⟨v, a1, a2, a3, a4⟩ hs
    have hpl : pre.length + 1 ≤ cs.length := by rw [hx]; simp
    unfold cellV
    gi_wp2_with fail
    refine ⟨(Keep.refl _ W').alloc _, ?_⟩
    intro W2 hc2 hf2 hk2 hs2 hr2
    have kW : Keep Nope W' (W'.alloc (.cells #[.int .i64 (x.g : Nat), .int .u8 (x.tag : Nat), .int .i64 (x.ty : Nat), .int .i64 (x.ln : Nat), .int .i64 (x.sz : Nat)] 62)) := (Keep.refl _ W').alloc _
    have bc := hk2.at_ (World.alloc_heap_new W' (.cells #[.int .i64 (x.g : Nat), .int .u8 (x.tag : Nat), .int .i64 (x.ty : Nat), .int .i64 (x.ln : Nat), .int .i64 (x.sz : Nat)] 62)) (by omega)
    have lW := lt_of_heap a1
    have zW2 : W2.heap.size = W'.heap.size + 1 := by rw [hs2]; simp
    have own1 : (W2).ownsRow (wl.heap.size + 2) 62 5 v pre.length (flatC pre) := ownsRow_keep (ownsRow_keep a2 kW (fun b hb h => h)) hk2 (fun b hb h => by have := ownsRow_block a2 hb; omega)
    have r0 := hk2.at_ (kW.at_ a1 (fun h => h)) (by omega)
    have c0 := cell_of_one r0
    have fr0 := free_of_one r0
    have d0 : W2.cell? ⟨W'.heap.size, 0, none⟩ = some (.int .i64 (x.g : Nat)) := by simp [World.cell?, bc]
    have d1 : W2.cell? ⟨W'.heap.size, 1, none⟩ = some (.int .u8 (x.tag : Nat)) := by simp [World.cell?, bc]
    have d2 : W2.cell? ⟨W'.heap.size, 2, none⟩ = some (.int .i64 (x.ty : Nat)) := by simp [World.cell?, bc]
    have d3 : W2.cell? ⟨W'.heap.size, 3, none⟩ = some (.int .i64 (x.ln : Nat)) := by simp [World.cell?, bc]
    have d4 : W2.cell? ⟨W'.heap.size, 4, none⟩ = some (.int .i64 (x.sz : Nat)) := by simp [World.cell?, bc]
    have HR0 : Seal _ := ⟨r0⟩
    have HOW : Seal _ := ⟨own1⟩
    have HA2 : Seal _ := ⟨a2⟩
    have HA4 : Seal _ := ⟨a4⟩
    have HZ2 : Seal _ := ⟨zW2⟩
    have lbW2 : W'.heap.size < W2.heap.size := by omega
    have lrW2 : w.heap.size < W2.heap.size := by omega
    obtain ⟨i0, hi, hz0, hz1, hz2⟩ := info_parts Tryz.infoCell
    have HNW : Seal (¬ v.ownBlock = some w.heap.size) := ⟨fun e => by have := ownsRow_block own1 e; omega⟩
    clear r0 own1 a2 a4 zW2 bc hs2 hc2 hf2 a1
    refine wpIn_block ?_
    refine wpIn_region_lit ?_
    refine wpListIn_of_wpList (fun _ _ h => h) _ _ _ (by kernel_rfl) ?_
    go_wp2_with (at_builtin; go_loud (refine wpList_append_lies _ rfl (.tmp 9) (.tmp 11) 52 rfl (wl.heap.size + 2) 62 i0 (.agg #[.int .i64 0, .int .u8 0, .int .i64 0, .int .i64 0, .int .i64 0]) 5 40 Tryz.underlyingCells hi hz0 hz1 hz2 rfl (by omega) v pre.length (flatC pre) rfl (Keep.owns (S := Nope) (a := W2) (by (repeat (first | assumption | exact Keep.refl _ _ | refine Keep.drew ?_ | refine Keep.alloc ?_ _ | refine Keep.setNew ?_ (by omega) _))) HOW.out (fun b hb h => h)) ⟨W2.heap.size, 0, none⟩ 1 1 [.int .i64 (x.g : Nat), .int .u8 (x.tag : Nat), .int .i64 (x.ty : Nat), .int .i64 (x.ln : Nat), .int .i64 (x.sz : Nat)] rfl rfl (World.news_of_block (World.alloc_heap_new W2 _)) (by simp [Value.oneCell']) (by omega) (by unfold maxLen; omega) (by omega) (by simp; omega) _ rfl ?_); intro g cap w3 hown hgrow hat hlt; have KA : Keep (fun b => v.ownBlock = some b) W2 w3 := ((by (repeat (first | assumption | exact Keep.refl _ _ | refine Keep.drew ?_ | refine Keep.alloc ?_ _ | refine Keep.setNew ?_ (by omega) _)) : Keep Nope W2 _).of_not (fun b => v.ownBlock = some b)).grown hgrow (fun k e _ => e); have r3 := KA.at_ HR0.out HNW.out; have c3 := cell_of_one r3; have fr3 := free_of_one r3; have HR3 : Seal _ := ⟨r3⟩; clear r3)
    subst a3
    have KB : Keep (fun b => b = w.heap.size) w3 (w3.setCell ⟨w.heap.size, 0, none⟩ (.slice (some ⟨g, 0, none⟩) (pre.length + 1) cap)) := (Keep.refl (fun b => b = w.heap.size) w3).setCell (fun _ => rfl) _
    refine ⟨(KA.mono fun b hb h => .inr h).trans KB (fun b hb h => .inl h), _, .slice (some ⟨g, 0, none⟩) (pre.length + 1) cap, one_setCell HR3.out, ?_, rfl, ?_⟩
    · rw [flatC_append, List.length_append]
      exact ownsRow_keep hown KB (fun b hb h => by have := ownsRow_block hown hb; omega)
    · exact (((HA4.out.trans kW (fun b hb h => h.elim)).trans hk2 (fun b hb h => by omega)).trans KA (fun b hb h => by have := ownsRow_block HOW.out h; omega)).trans KB (fun b hb h => h)
  case hdone =>
    rintro S W' ⟨v, a1, a2, a3, a4⟩ hs hD
    obtain ⟨va, vn, vc, hv⟩ : ∃ va vn vc, v = .slice va vn vc := by
      rcases a2.2 with ⟨h, _⟩ | ⟨g, cap, cur, h, _⟩
      · exact ⟨_, _, _, h⟩
      · exact ⟨_, _, _, h⟩
    subst hv
    have c0 := cell_of_one a1
    have fr0 := free_of_one a1
    have HA1 : Seal _ := ⟨a1⟩
    have HA2 : Seal _ := ⟨a2⟩
    have HA4 : Seal _ := ⟨a4⟩
    clear a1 a2 a3 a4
    gi_wp2_with fail
    obtain ⟨w4, hw4⟩ : ∃ w4, w4 = W'.setCell ⟨w.heap.size, 0, none⟩ (.slice va vn vc) := ⟨_, rfl⟩
    rw [← hw4]
    have KB : Keep (fun b => b = w.heap.size) W' w4 := by rw [hw4]; exact (Keep.refl (fun b => b = w.heap.size) W').setCell (fun _ => rfl) _
    have b4 : w4.heap[w.heap.size]? = some (.cells #[.slice va vn vc] 52 (0, 0)) := by rw [hw4]; exact one_setCell HA1.out
    clear hw4
    refine ⟨by simp, .inl ⟨_, _, rfl, run_takeDeferred (KB.at_ hD (by omega)), ?_⟩⟩
    have kE : Keep (fun b => b = wl.heap.size) w4 (w4.putObj wl.heap.size (.deferred none)) := (Keep.refl (fun b => b = wl.heap.size) w4).putObj (fun _ => rfl) _
    have e4 := cell_of_one (kE.at_ b4 (by omega))
    refine ⟨.slice va vn vc, by simp [results, Tryz.results25, go_sem, e4], _, rfl, ?_, ?_⟩
    · refine ownsRow_less (ownsRow_keep (ownsRow_keep HA2.out KB (fun b hb h => ?_)) kE (fun b hb h => ?_)) (by omega)
      · have := ownsRow_block HA2.out hb; omega
      · have := ownsRow_block HA2.out hb; omega
    · exact (((KL.trans HA4.out (fun b hb h => by omega)).trans KB (fun b hb h => by omega)).trans kE (fun b hb h => by omega))
  case hstop => exact fun c pre W' hp h => h.elim

end Go.Proofs.YtpmiidpbngbclaaGreatDoor
