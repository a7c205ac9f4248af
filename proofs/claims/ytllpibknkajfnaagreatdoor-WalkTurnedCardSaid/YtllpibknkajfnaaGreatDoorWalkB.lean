/-
  Package shape: Refs as a row; package walk: the references of all objects, handed over one behind the other (refs).
  walk: the references to objects (Edges).
-/
import Derived.Test.YtllpibknkajfnaaGreatDoorWalkA
import Derived.Test.YtllpibknkajfnaaGreatDoorRefsAll
import Derived.Test.YtllpibknkajfnaaGreatDoorFindPA
import Derived.Test.YtllpibknkajfnaaGreatDoorDocC
import Derived.Test.YtllpibknkajfnaaGreatDoorFitA
namespace Go.Proofs.YtllpibknkajfnaaGreatDoor
open Go.RowKit
set_option linter.unusedVariables false
attribute [local go_sem] Oper.semAt_some

/-- Where Refs' loop stands. -/
def RefI (rv : Nat) (wl : World) (pre : List Nat) (S : Nat → Prop) (W' : World) : Prop :=
  ∃ v, W'.heap[rv]? = some (.cells #[v] 33 (0, 0)) ∧ W'.ownsRow (wl.heap.size + 2) 3 1 v (pre).length (natVs (pre)) ∧ (S = fun k => k = rv ∨ v.ownBlock = some k) ∧ Keep (fun k => k = rv) wl W'

set_option maxRecDepth 20000 in
set_option maxHeartbeats 4000000 in
theorem VRefs_at (b a q n : Nat) (W0 : Nat → Nat) (c : Cel) (k wds : Int) (m : Nat) (w : World) (hA : ArenaAt w a q W0 n) (hV : ViewAt w b a c k wds m) (hE : kindE k wds m (c.ln : Nat) = 0) (hM : m < 18446744073709551616) (hfit : 2 * c.g + 1 + slotsT k wds (c.ln : Nat) ≤ (n : Nat)) :
    Calls Tryz.prog 88 #[.pointer (some ⟨b, 0, none⟩)] w fun e w' => ∃ v, e = .returned v ∧ w'.ownsRow w.heap.size 3 1 v ((refsT k wds m (c.ln : Nat))).length (natVs ((refsT k wds m (c.ln : Nat)))) ∧ Keep Nope w w' := by
  have lbv := lt_of_heap hV
  have la := hA.lt_a
  have lq := hA.lt_q
  have hlen := refsT_len (M := m) hE
  refine (callsIn_wide (n := 0)).1 ?_
  refine callsIn_of_wp_marks Tryz.func88 rfl trivial ?_
  simp only [Tryz.ntmps88, List.size_toArray, List.length_cons, List.length_nil, Nat.reduceAdd, Nat.reduceSub, Array.replicate_succ, Array.replicate_zero, List.push_toArray, List.append_toArray, List.nil_append, List.cons_append]
  gi_wp2_with fail
  refine ⟨trivial, rfl, ?_⟩
  obtain ⟨w1, hw1⟩ : ∃ w1, w1 = w.alloc (.cells #[.slice none 0 0] 33) := ⟨_, rfl⟩
  rw [← hw1]
  have k1 : Keep Nope w w1 := by rw [hw1]; exact (Keep.refl _ w).alloc _
  have z1 : w1.heap.size = w.heap.size + 1 := by rw [hw1]; simp
  have b1 : w1.heap[w.heap.size]? = some (.cells #[.slice none 0 0] 33 (0, 0)) := by rw [hw1]; exact World.alloc_heap_new w _
  clear hw1
  refine (callsIn_wide.2 (vrefs_fn b w1)).mono ?_
  rintro e wl ⟨rfl, hwl⟩
  have hzl : wl.heap.size = w1.heap.size + 1 := by rw [← hwl]; simp
  have kl : Keep Nope w1 wl := by rw [← hwl]; exact (Keep.refl _ w1).alloc _
  have gbx : wl.heap[w1.heap.size]? = some (.cells #[.pointer (some ⟨b, 0, none⟩)] 86 (0, 0)) := by rw [← hwl]; exact World.alloc_heap_new w1 _
  clear hwl
  have KL : Keep Nope w wl := k1.then' kl
  have bl1 := kl.at_ b1 (fun h => h)
  rw [z1] at gbx hzl
  obtain ⟨B, hB⟩ : ∃ B, w.heap.size = B := ⟨_, rfl⟩
  rw [hB] at gbx hzl bl1 lbv la lq z1
  gi_wp2_with fail
  refine wpIn_range4 (n := 0) (gf := 135) (lb := #[.pointer (some ⟨B + 1, 0, none⟩)]) rfl (enters_of Tryz.func135 (by kernel_rfl) rfl)
    (vrefs_iter4 (B + 1) b a q n W0 c k wds m wl (hA.keepN KL) (hV.keepN KL) hE hM hfit gbx (R := fun i => i = B) (fun i hi => by subst hi; exact ⟨by omega, by omega, by omega, by omega, by omega⟩)) (fun i hi => hi.elim) (fun i hi => by omega)
    (X := fun _ => False) (fun i hi => hi.elim) (fun _ => rfl)
    (fun pre S W' => RefI B wl pre S W') (fun c pre W' => False) (fun i => i = B ∨ (Value.slice none 0 0).ownBlock = some i) ?hS ?hI ?hIx ?h0 ?hround ?hdone ?hstop
  case hS =>
    rintro pre S A ⟨v, a1, a2, rfl, a4⟩ i hi
    rcases hi with hi | hi
    · exact ⟨.inl hi, by have := lt_of_heap a1; omega⟩
    · have := ownsRow_block a2 hi
      exact ⟨.inr this.1, this.2⟩
  case hI =>
    rintro pre S A A' ⟨v, a1, a2, a3, a4⟩ hk
    exact ⟨v, hk.at_ a1 (fun h => by rcases h with h | h | h; exact h; omega; omega), ownsRow_keep a2 hk (fun b hb h => by have := ownsRow_block a2 hb; rcases h with h | h | h; exact h; omega; omega), a3,
      a4.trans hk (fun b hb h => by rcases h with h | h | h; exact h.elim; omega; omega)⟩
  case hIx => exact fun c pre A B h hk => h
  case h0 => exact ⟨_, bl1, World.ownsRow_nil wl _ _ _, rfl, Keep.refl _ _⟩
  case hround =>
    rintro pre S x rest W' hx ⟨v, a1, a2, a3, a4⟩ hs
    have hpl : pre.length + 1 ≤ 65536 := by
      have : (refsT k wds m (c.ln : Nat)).length = pre.length + (rest.length + 1) := by rw [hx]; simp
      omega
    clear hx hA hV hE hM hfit gbx bl1
    gi_wp2_with fail
    refine ⟨Keep.refl _ W', ?_⟩
    intro W2 hc2 hf2 hk2 hs2 hr2
    have lW := lt_of_heap a1
    have own1 : (W2).ownsRow (wl.heap.size + 2) 3 1 v (pre).length (natVs (pre)) := ownsRow_keep a2 hk2 (fun b hb h => by have := ownsRow_block a2 hb; omega)
    have r0 := hk2.at_ a1 (by omega)
    have c0 := cell_of_one r0
    have fr0 := free_of_one r0
    have HR0 : Seal _ := ⟨r0⟩
    have HOW : Seal _ := ⟨own1⟩
    have HA4 : Seal _ := ⟨a4⟩
    have HK2 : Seal _ := ⟨hk2⟩
    have lrW2 : B < W2.heap.size := by omega
    have HNW : Seal (¬ v.ownBlock = some B) := ⟨fun e => by have := ownsRow_block own1 e; omega⟩
    have HS3 : Seal _ := ⟨a3⟩
    have hs3 : wl.heap.size + 2 ≤ W2.heap.size := by omega
    clear r0 own1 a2 a4 hc2 hf2 a1 a3 hk2 hs2
    obtain ⟨i0, hi, hz0, hz1, hz2⟩ := info_parts Tryz.infoInt
    refine wpIn_block ?_
    refine wpIn_region_lit ?_
    refine wpListIn_of_wpList (fun _ _ h => h) _ _ _ (by kernel_rfl) ?_
    go_wp2_with (at_builtin; go_loud (refine wpList_append_lies _ rfl (.tmp 8) (.tmp 10) 33 rfl (wl.heap.size + 2) 3 i0 _ 1 8 Tryz.underlyingInts hi hz0 hz1 hz2 rfl (by omega) v (pre).length (natVs (pre)) rfl (HOW.out.alloc _) ⟨W2.heap.size, 0, none⟩ 1 1 [.int .i64 (x : Nat)] rfl rfl (World.news_of_block (World.alloc_heap_new W2 _)) (by intro u hu; simp at hu; subst hu; rfl) (by omega) (by unfold maxLen; omega) (by omega) (by simp; omega) _ rfl ?_); intro g cap w3 hown hgrow hat hlt; have KA : Keep (fun b => v.ownBlock = some b) W2 w3 := ((Keep.refl Nope W2).alloc _ |>.of_not _).grown hgrow (fun k e _ => e); have r3 := KA.at_ HR0.out HNW.out; have c3 := cell_of_one r3; have fr3 := free_of_one r3; have HR3 : Seal _ := ⟨r3⟩; clear r3)
    have KB : Keep (fun b => b = B) w3 (w3.setCell ⟨B, 0, none⟩ (.slice (some ⟨g, 0, none⟩) ((pre).length + 1) cap)) := (Keep.refl (fun b => b = B) w3).setCell (fun _ => rfl) _
    refine ⟨((KA.mono fun b hb h => by rw [HS3.out]; exact .inr h).trans KB (fun b hb h => by rw [HS3.out]; exact .inl h)), _, ⟨.slice (some ⟨g, 0, none⟩) ((pre).length + 1) cap, one_setCell HR3.out, ?_, rfl, ?_⟩, ?_⟩
    · rw [natVs, List.map_append, List.length_append]
      exact ownsRow_keep hown KB (fun b hb h => by have := ownsRow_block hown hb; omega)
    · exact ((HA4.out.trans HK2.out (fun b hb h => by omega)).trans KA (fun b hb h => by have := ownsRow_block HOW.out h; omega)).trans KB (fun b hb h => h)
    · rintro i (hi' | hi')
      · exact .inl (by rw [HS3.out]; exact .inl hi')
      · have hg : g = i := by simpa [Value.ownBlock] using hi'
        subst hg
        rcases hat with h | h
        · exact .inl (by rw [HS3.out]; exact .inr h)
        · right
          rw [h]
          simp
  case hdone =>
    rintro S W' ⟨v, a1, a2, a3, a4⟩ hs hD
    obtain ⟨va, vn, vc, hv⟩ : ∃ va vn vc, v = .slice va vn vc := by
      rcases a2.2 with ⟨h, _⟩ | ⟨g, cap, cur, h, _⟩
      · exact ⟨_, _, _, h⟩
      · exact ⟨_, _, _, h⟩
    subst hv
    have c0 := cell_of_one a1
    have fr0 := free_of_one a1
    have HA1 : Seal _ := ⟨a1⟩
    have HA2 : Seal _ := ⟨a2⟩
    have HA4 : Seal _ := ⟨a4⟩
    clear a1 a2 a3 a4
    gi_wp2_with fail
    obtain ⟨w4, hw4⟩ : ∃ w4, w4 = W'.setCell ⟨B, 0, none⟩ (.slice va vn vc) := ⟨_, rfl⟩
    rw [← hw4]
    have KB : Keep (fun b => b = B) W' w4 := by rw [hw4]; exact (Keep.refl (fun b => b = B) W').setCell (fun _ => rfl) _
    have b4 : w4.heap[B]? = some (.cells #[.slice va vn vc] 33 (0, 0)) := by rw [hw4]; exact one_setCell HA1.out
    clear hw4
    refine ⟨by simp, .inl ⟨_, _, rfl, run_takeDeferred (KB.at_ hD (by omega)), ?_⟩⟩
    have kE : Keep (fun b => b = wl.heap.size) w4 (w4.putObj wl.heap.size (.deferred none)) := (Keep.refl (fun b => b = wl.heap.size) w4).putObj (fun _ => rfl) _
    have e4 := cell_of_one (kE.at_ b4 (by omega))
    refine ⟨.slice va vn vc, by simp [results, Tryz.results88, go_sem, e4], _, rfl, ?_, ?_⟩
    · refine ownsRow_less5 (ownsRow_keep (ownsRow_keep HA2.out KB (fun b hb h => ?_)) kE (fun b hb h => ?_)) (by omega)
      · have := ownsRow_block HA2.out hb; omega
      · have := ownsRow_block HA2.out hb; omega
    · exact (((KL.trans HA4.out (fun b hb h => by omega)).trans KB (fun b hb h => by omega)).trans kE (fun b hb h => by omega))
  case hstop => exact fun c pre W' hp h => h.elim

theorem obj_one {W : Nat → Nat} {n : Nat} {ts : List TypR} {c : Cel} (hok : CelOk ts c) (hW : W (2 * c.g) = encH c.tag c.ty c.ln c.sz) (hfit : c.g + c.sz ≤ n / 2) (h0 : 0 < c.sz) (ht : c.tag = 1) : objAt W n ts (c.g : Nat) = some c := by
  obtain ⟨d1, d2, d3, d4, d5⟩ := dec_enc hok.1
  have hf := fitsE_ok hok
  unfold objAt
  rw [Int.toNat_natCast, hW, d1, d2, d3, d4, d5, ht]
  rw [ht] at hf
  rw [if_pos ⟨by omega, by omega, rfl, rfl, hf, by omega⟩]
  obtain ⟨g, tag, ty, ln, sz⟩ := c
  simp only at ht
  subst ht
  rfl

/-- Of at an object: its view, and which of its slots are references. -/
theorem SOf_one (c : Cel) (P : Sp) (W : Nat → Nat) (f : Nat → Bool) (w : World) (h : SpaceAt w P W f) (hok : CelOk P.ts c) (hW : W (2 * c.g) = encH c.tag c.ty c.ln c.sz) (hfit : c.g + c.sz ≤ P.n / 2) (h0 : 0 < c.sz) (ht : c.tag = 1) (hms : ∀ x ∈ P.ts, x.m < 18446744073709551616) :
    Calls Tryz.prog 34 #[.pointer (some ⟨P.a, 0, none⟩), .pointer (some ⟨P.t, 0, none⟩), .int .i64 (c.g : Nat)] w fun e w' =>
      ∃ b k wds m, ((kindE k wds m (c.ln : Nat) = 0 ∧ m < 18446744073709551616) ∧ refsC P.ts c = refsT k wds m (c.ln : Nat) ∧ 2 * c.g + 1 + slotsT k wds (c.ln : Nat) ≤ (P.n : Nat)) ∧ e = .returned (.tuple #[.pointer (some ⟨b, 0, none⟩), .int .i64 0]) ∧ ViewAt w' b P.a c k wds m ∧ w.heap.size ≤ b ∧ Keep Nope w w' := by
  refine (SOf_any (c.g : Nat) P.a P.q P.n P.t P.tq W P.ts w h.fl h.ar h.tb).mono ?_
  intro e w' hp
  unfold SOfPost at hp
  rw [obj_one hok hW hfit h0 ht] at hp
  obtain ⟨b, k, wds, m, h1, h2, h3, h4, h5⟩ := hp
  have hk : kindE k wds m (c.ln : Nat) = 0 := by
    obtain ⟨e1, e2⟩ := hok.2 ht
    unfold sizeE at e1
    rw [h1] at e1
    exact e1
  have hm : m < 18446744073709551616 := by
    obtain ⟨i, -, hi, -⟩ := typeOf_some h1
    exact hms _ (List.mem_of_getElem? hi)
  refine ⟨b, k, wds, m, ⟨⟨hk, hm⟩, by unfold refsC; rw [h1], ?_⟩, h2, h3, h4, h5⟩
  have hr := slotN_room hok h0
  unfold slotN at hr
  rw [if_pos ht, h1] at hr
  dsimp only at hr
  have := (slotsT_range hk).1
  omega

/-- The references of objects: of which one, which slot, its word. -/
def refsW (ts : List TypR) (W : Nat → Nat) (os : List Cel) : List (Nat × Nat × Nat) := os.flatMap fun c => (refsC ts c).map fun s => (c.g, s, W (2 * c.g + 1 + s))

/-- A reference as a value. -/
def edgeV (cs : List Cel) (x : Nat × Nat × Nat) : Value := .agg #[.int .i64 (x.1 : Nat), .int .i64 (x.2.1 : Nat), .int .i64 (tgt cs x.2.2)]

theorem refsW_add {ts : List TypR} {W : Nat → Nat} {xs : List Cel} {c : Cel} : refsW ts W (xs ++ [c]) = refsW ts W xs ++ (refsC ts c).map fun s => (c.g, s, W (2 * c.g + 1 + s)) := by
  simp [refsW]

theorem refsW_at {ts : List TypR} {W : Nat → Nat} {xs : List Cel} {j i s : Nat} {c : Cel} (h : xs[j]? = some c) (hi : (refsC ts c)[i]? = some s) :
    ∃ rest, refsW ts W xs = (refsW ts W (xs.take j) ++ ((refsC ts c).take i).map fun s => (c.g, s, W (2 * c.g + 1 + s))) ++ (c.g, s, W (2 * c.g + 1 + s)) :: rest := by
  obtain ⟨h1, h2⟩ := List.getElem?_eq_some_iff.1 h
  obtain ⟨i1, i2⟩ := List.getElem?_eq_some_iff.1 hi
  have e1 : xs = xs.take j ++ c :: xs.drop (j + 1) := by rw [← h2, List.getElem_cons_drop h1, List.take_append_drop]
  have e2 : refsC ts c = (refsC ts c).take i ++ s :: (refsC ts c).drop (i + 1) := by rw [← i2, List.getElem_cons_drop i1, List.take_append_drop]
  refine ⟨((refsC ts c).drop (i + 1)).map (fun s => (c.g, s, W (2 * c.g + 1 + s))) ++ refsW ts W (xs.drop (j + 1)), ?_⟩
  have e3 : refsW ts W (c :: xs.drop (j + 1)) = (refsC ts c).map (fun s => (c.g, s, W (2 * c.g + 1 + s))) ++ refsW ts W (xs.drop (j + 1)) := by simp [refsW]
  have e4 : ∀ a b : List Cel, refsW ts W (a ++ b) = refsW ts W a ++ refsW ts W b := fun a b => by simp [refsW]
  have e5 := congrArg (List.map fun s => (c.g, s, W (2 * c.g + 1 + s))) e2
  rw [List.map_append, List.map_cons] at e5
  calc refsW ts W xs = refsW ts W (xs.take j ++ c :: xs.drop (j + 1)) := by rw [← e1]
    _ = _ := by rw [e4, e3, e5]; simp

theorem GoingAt.keep {S : Nat → Prop} {w w' : World} {P : Sp} {gb m base : Nat} {cs : List Cel} {e : Nat} {ov : Value} (h : GoingAt w P gb m base cs e ov) (k : Keep S w w') (h1 : ¬ S gb) (h2 : ¬ S m) (h3 : ∀ b, ov.ownBlock = some b → ¬ S b) : GoingAt w' P gb m base cs e ov := by
  obtain ⟨g1, ⟨n, hn, g2⟩, g3, g4⟩ := h
  exact ⟨k.at_ g1 h1, ⟨n, hn, g2.keep k h2⟩, ownsRow_keep g3 k h3, g4⟩

theorem grefs_fn (gb : Nat) (w : World) :
    Calls Tryz.prog 51 #[.pointer (some ⟨gb, 0, none⟩)] w fun e w' =>
      e = .returned (.func (.func 87) #[] #[.pointer (some ⟨w.heap.size, 0, none⟩)]) ∧ w.alloc (.cells #[.pointer (some ⟨gb, 0, none⟩)] 106) = w' := by
  have hmf : ∀ (fn : Fn) (first cap : Array Value) (w : World), (Instr.makeFunc fn first cap).run Tryz.prog w = .ok (.func fn first cap) w := fun _ _ _ _ => rfl
  go_enter Tryz.func51, Tryz.ntmps51
  go_wp2
  go_ret
  exact ⟨rfl, rfl⟩

set_option maxRecDepth 20000 in
set_option maxHeartbeats 8000000 in
theorem grefs_iter4 (P : Sp) (W0 : Nat → Nat) (f : Nat → Bool) (cs : List Cel) (E : Nat) (bx gb m base : Nat) (ov : Value) (w : World) (h : SpaceAt w P W0 f) (hc : CellsTo P W0 cs E) (hms : ∀ x ∈ P.ts, x.m < 18446744073709551616) (hg : GoingAt w P gb m base cs E ov)
    (hb : w.heap[bx]? = some (.cells #[.pointer (some ⟨gb, 0, none⟩)] 106 (0, 0))) {R : Nat → Prop} (hR : ∀ i, R i → i < w.heap.size ∧ ¬ i = bx ∧ ¬ i = gb ∧ ¬ i = m ∧ ¬ ov.ownBlock = some i ∧ ¬ P.all i) :
    IterAt4 Tryz.prog 87 #[.pointer (some ⟨bx, 0, none⟩)] (fun x => #[edgeV cs x, .int .u64 (x.2.2 : Nat)]) (refsW P.ts W0 (objsOf cs)) Nope R w := by
  intro l J Jx S0 W hW hl1 hl2 hS hJ hJx hY h0
  have lbx := lt_of_heap hb
  have bW := hW.at_ hb (fun h => h)
  have HBw : Seal _ := ⟨bW⟩
  have HSw : Seal _ := ⟨h.keepN hW⟩
  obtain ⟨g1, ⟨nm, hnm, g2⟩, g3, g4⟩ := hg
  have lgb := lt_of_heap g1
  have lm := g2.lt
  have gW1 := hW.at_ g1 (fun h => h)
  have HGw : Seal (GoingAt W P gb m base cs E ov) := ⟨⟨gW1, ⟨nm, hnm, g2.keep hW (fun h => h)⟩, ownsRow_keep g3 hW (fun _ _ h => h), g4⟩⟩
  have hoL : (obsG cs).length ≤ 32768 := by
    have := obsG_len cs
    have := tiles_len g4
    have := hc.le
    have := h.ar.small
    omega
  obtain ⟨oa, oc, rfl⟩ := owns_slice g3
  have lall := h.lt
  have z1 := hW.size
  have cb := cell_of_one bW
  obtain ⟨e0, e1, e2, e3, e4⟩ := cells5g gW1
  have H0 : Seal _ := ⟨h0⟩
  have HCs : Seal _ := ⟨hc⟩
  obtain ⟨L, hL⟩ : ∃ L, (obsG cs).length = L := ⟨_, rfl⟩
  rw [hL] at e3 hoL
  have HLL : Seal _ := ⟨hL⟩
  have lob : ∀ b, (Value.slice oa (obsG cs).length oc).ownBlock = some b → b < w.heap.size := fun b hb => (ownsRow_block g3 hb).2
  have HNx : Seal (¬ (R bx ∨ bx = l)) := ⟨fun h => by
    rcases h with h | h
    · exact (hR bx h).2.1 rfl
    · omega⟩
  have HGn : Seal (∀ W', Keep (fun i => R i ∨ i = l) W W' → GoingAt W' P gb m base cs E (.slice oa (obsG cs).length oc)) := ⟨fun W' kk => HGw.out.keep kk (fun h => by
      rcases h with h | h
      · exact (hR gb h).2.2.1 rfl
      · omega) (fun h => by
      rcases h with h | h
      · exact (hR m h).2.2.2.1 rfl
      · omega) (fun b hb h => by
      have := lob b hb
      rcases h with h | h
      · exact (hR b h).2.2.2.2.1 hb
      · omega)⟩
  have HGk : Seal (∀ W1 W2, GoingAt W1 P gb m base cs E (.slice oa (obsG cs).length oc) → Keep Nope W1 W2 → GoingAt W2 P gb m base cs E (.slice oa (obsG cs).length oc)) := ⟨fun W1 W2 hg kk => hg.keep kk (fun h => h) (fun h => h) (fun _ _ h => h)⟩
  have HSn : Seal (∀ W', Keep (fun i => R i ∨ i = l) W W' → SpaceAt W' P W0 f) := ⟨fun W' kk => HSw.out.keep kk (fun i hi h => by
      have := lall i hi
      rcases h with h | h
      · exact (hR i h).2.2.2.2.2 hi
      · omega)⟩
  clear g1 g2 g3 g4 hnm h0 hL e0 e1 e2 e4 lob hc h hR gW1 bW
  refine (callsIn_wide (n := 0)).1 ?_
  refine callsIn_of_wp Tryz.func87 rfl trivial ?_
  simp only [Tryz.ntmps87, List.size_toArray, List.length_cons, List.length_nil, Nat.reduceAdd, Nat.reduceSub, Array.replicate_succ, Array.replicate_zero, List.push_toArray, List.append_toArray, List.nil_append, List.cons_append]
  gi_wp2_with fail
  gi_loopw [16] (fun v16 wr => ∃ (j : Nat) (S : Nat → Prop), j ≤ L ∧ v16 = .int .i64 (j : Nat) ∧ J (refsW P.ts W0 ((objsOf cs).take j)) S wr ∧ Keep (fun i => R i ∨ i = l) W wr) (fun v16 wr => L - (intOf v16).toNat)
  case atStart => exact ⟨0, S0, Nat.zero_le _, rfl, H0.out, Keep.refl _ _⟩
  case round =>
    obtain ⟨j, S, hj, rfl, hjJ, kr⟩ := hrel
    obtain ⟨wo, rfl⟩ : ∃ wo : World, wo = wr := ⟨_, rfl⟩
    have HJ : Seal _ := ⟨hjJ⟩
    have HKr : Seal _ := ⟨kr⟩
    by_cases hjl : j < L
    · have hjl' : (j : Int) < (L : Int) := by omega
      obtain ⟨c, hcj⟩ : ∃ c, (objsOf cs)[j]? = some c := by
        have : j < (objsOf cs).length := by have := HLL.out; unfold obsG at this; rw [List.length_map] at this; omega
        exact ⟨_, List.getElem?_eq_getElem this⟩
      have hmem := mem_objsOf.1 (List.mem_of_getElem? hcj)
      have hgj : (obsG cs)[j]? = some c.g := by unfold obsG; rw [List.getElem?_map, hcj]; rfl
      have Gr := HGn.out wo kr
      obtain ⟨ob, hob, cx⟩ := row_cell Gr.2.2.1 hgj
      subst hob
      have br := kr.at_ HBw.out HNx.out
      have cb := cell_of_one br
      obtain ⟨e0, e1, e2, e3, e4⟩ := cells5g Gr.1
      have HOf : Seal (∀ W', Keep Nope wo W' → _) := ⟨fun W' kk => SOf_one c P W0 f W' ((HSn.out wo kr).keepN kk) (HCs.out.ok c hmem.1) (HCs.out.hd c hmem.1) (by have := (HCs.out.tl.mem hmem.1).2.1; have := HCs.out.le; omega) (HCs.out.tl.mem hmem.1).2.2 hmem.2 hms⟩
      have hst : (objsOf cs).take (j + 1) = (objsOf cs).take j ++ [c] := by rw [List.take_add_one, hcj]; rfl
      have HSt : Seal (refsW P.ts W0 ((objsOf cs).take (j + 1)) = refsW P.ts W0 ((objsOf cs).take j) ++ (refsC P.ts c).map fun s => (c.g, s, W0 (2 * c.g + 1 + s))) := ⟨by rw [hst, refsW_add]⟩
      have HAll : Seal (∀ (i : Nat) (s : Nat), (refsC P.ts c)[i]? = some s → ∃ rest, refsW P.ts W0 (objsOf cs) = (refsW P.ts W0 ((objsOf cs).take j) ++ ((refsC P.ts c).take i).map fun s => (c.g, s, W0 (2 * c.g + 1 + s))) ++ (c.g, s, W0 (2 * c.g + 1 + s)) :: rest) := ⟨fun i s hi => refsW_at hcj hi⟩
      clear Gr br hmem hgj hst hcj kr hjJ e2 e4
      gi_wp2_with fail
      refine wpIn_wide.2 ?_
      refine wp_region_held_drew (S := fun w' => w'.cell? ⟨bx, 0, none⟩ = some (.pointer (some ⟨gb, 0, none⟩)) ∧ w'.cell? ⟨gb, 0, none⟩ = some (.pointer (some ⟨P.a, 0, none⟩)) ∧ w'.cell? ⟨gb, 1, none⟩ = some (.pointer (some ⟨P.t, 0, none⟩))) (by kernel_rfl) ?_ (fun hHeld => ?_)
      · (try dsimp only); (exact ⟨cb, e0, e1⟩)
      refine tko 0 ?_; refine tko 1 ?_; refine tko 2 ?_; refine tko 3 ?_; refine tko 4 ?_; refine tko 5 ?_; refine tko 6 ?_; refine tko 7 ?_; refine tko 8 ?_
      try simp only [Act.put, List.setIfInBounds_toArray, List.set_cons_zero, List.set_cons_succ]
      refine wpAnyH_ready (rs := [9]) (by kernel_rfl) (by simp) ?_
      refine ready_held rfl (fun K hK => ?_)
      go_simp
      go_at_call 34
      (with_reducible refine (HOf.out _ (Keep.refl Nope wo).drew).mono ?_)
      rintro e w5 ⟨b, k, wds, mm, ⟨⟨hk, hmm⟩, hrf, hfit⟩, rfl, hV, hbn, k5⟩
      have K5 : Keep Nope wo w5 := ((Keep.refl Nope wo).drew).then' k5
      refine hK _ _ ?_ (fun hHeld => ?_)
      · (try dsimp only); (exact ⟨keepc K5 cb, keepc K5 e0, keepc K5 e1⟩)
      clear hK K
      try simp only [Act.put, List.setIfInBounds_toArray, List.set_cons_zero, List.set_cons_succ]
      refine tko 10 ?_; refine tko 11 ?_; refine tko 12 ?_; refine tko 13 ?_; refine tko 14 ?_
      try simp only [Act.put, List.setIfInBounds_toArray, List.set_cons_zero, List.set_cons_succ]
      refine wpAnyH_done (by kernel_rfl) ?_ _
      have HK5 : Seal _ := ⟨K5⟩
      have HV5 : Seal _ := ⟨hV⟩
      have HB5 : Seal (wo.heap.size ≤ b) := ⟨hbn⟩
      have HKd : Seal _ := ⟨And.intro hk (And.intro hmm hfit)⟩
      have HRf : Seal _ := ⟨VRefs_at b P.a P.q P.n W0 c k wds mm w5 ((HSn.out wo HKr.out).keepN K5).ar hV hk hmm hfit⟩
      have HSz : Seal (∀ i, S i → i < wo.heap.size) := ⟨fun i hi => (hS _ _ _ HJ.out i hi).2⟩
      rw [hrf] at HSt HAll
      obtain ⟨rs, hrs⟩ : ∃ rs, refsT k wds mm (c.ln : Nat) = rs := ⟨_, rfl⟩
      have HRs : Seal _ := ⟨hrs⟩
      rw [hrs] at HSt HAll HRf
      clear hHeld K5 k5 hV hbn hk hmm hfit hrf hrs cb cx e0 e1 e3 HOf
      gi_wp2_with fail
      refine ⟨trivial, rfl, ?_⟩
      refine (callsIn_wide.2 HRf.out).mono ?_
      rintro e w6 ⟨rv, rfl, hrow, k6⟩
      obtain ⟨ra, rc, rfl⟩ := owns_slice hrow
      have HRow6 : Seal _ := ⟨hrow⟩
      have HK6 : Seal (Keep Nope wo w6) := ⟨HK5.out.then' k6⟩
      have HV6 : Seal _ := ⟨HV5.out.keepN k6⟩
      have hz5 : b < w5.heap.size := lt_of_heap HV5.out
      have hz56 := HK5.out.size
      have HJ6 : Seal _ := ⟨hJ _ _ _ _ HJ.out HK6.out⟩
      have HN6 : Seal (∀ i, S i → ¬ i = b ∧ ¬ (Value.slice ra rs.length rc).ownBlock = some i) := ⟨fun i hi => ⟨by have := HSz.out i hi; have := HB5.out; omega, fun h => by have := (ownsRow_block hrow h).1; have := HSz.out i hi; omega⟩⟩
      obtain ⟨M, hM⟩ : ∃ M, rs.length = M := ⟨_, rfl⟩
      rw [hM] at HN6 HRow6
      have HM : Seal _ := ⟨hM⟩
      have hM6 : M ≤ 65536 := by rw [← hM, ← HRs.out]; exact refsT_len HKd.out.1
      have HKW : Seal (Keep (fun i => R i ∨ i = l) W w6) := ⟨HKr.out.trans HK6.out (fun _ _ h => h.elim)⟩
      try rw [hM]
      clear hrow k6 hM
      gi_wp2_with fail
      gi_loopw [38] (fun v38 wr => ∃ (i : Nat) (S : Nat → Prop), i ≤ M ∧ v38 = .int .i64 (i : Nat) ∧ J (refsW P.ts W0 ((objsOf cs).take j) ++ (rs.take i).map fun s => (c.g, s, W0 (2 * c.g + 1 + s))) S wr ∧ Keep (fun i => R i ∨ i = l) W wr ∧ (∀ i, S i → ¬ i = b ∧ ¬ (Value.slice ra M rc).ownBlock = some i) ∧ wr.ownsRow w5.heap.size 3 1 (.slice ra M rc) M (natVs rs) ∧ ViewAt wr b P.a c k wds mm) (fun v38 wr => M - (intOf v38).toNat)
      case atStart => exact ⟨0, S, Nat.zero_le _, rfl, by rw [List.take_zero, List.map_nil, List.append_nil]; exact HJ6.out, HKW.out, HN6.out, HRow6.out, HV6.out⟩
      case round =>
        obtain ⟨i, S', hi, rfl, hjJ, kq, hN, hrow, hV⟩ := hrel
        have HJq : Seal _ := ⟨hjJ⟩
        have HKq : Seal _ := ⟨kq⟩
        have HNq : Seal _ := ⟨hN⟩
        have HRq : Seal _ := ⟨hrow⟩
        have HVq : Seal _ := ⟨hV⟩
        by_cases hil : i < M
        · have hil' : (i : Int) < (M : Int) := by omega
          obtain ⟨s, hs⟩ : ∃ s, rs[i]? = some s := ⟨rs[i]'(by rw [HM.out]; exact hil), by simp⟩
          obtain ⟨rb, hrb, cx⟩ := row_cell hrow hs
          subst hrb
          have hsT : (s : Int) < slotsT k wds (c.ln : Nat) := refsT_mem HKd.out.1 (by rw [HRs.out]; exact List.mem_of_getElem? hs)
          have HLd : Seal _ := ⟨VLoad_yes s b P.a P.q P.n W0 c k wds mm wr (HSn.out wr kq).ar hV HKd.out.1 hsT (by have := HKd.out.2.2; omega)⟩
          obtain ⟨rest, HRest⟩ : ∃ rest, Seal (refsW P.ts W0 (objsOf cs) = (refsW P.ts W0 ((objsOf cs).take j) ++ (rs.take i).map fun s => (c.g, s, W0 (2 * c.g + 1 + s))) ++ (c.g, s, W0 (2 * c.g + 1 + s)) :: rest) := by
            obtain ⟨rest, h⟩ := HAll.out i s hs
            exact ⟨rest, ⟨h⟩⟩
          have HTk : Seal ((refsW P.ts W0 ((objsOf cs).take j) ++ (rs.take i).map fun s => (c.g, s, W0 (2 * c.g + 1 + s))) ++ [(c.g, s, W0 (2 * c.g + 1 + s))] = refsW P.ts W0 ((objsOf cs).take j) ++ (rs.take (i + 1)).map fun s => (c.g, s, W0 (2 * c.g + 1 + s))) := ⟨by
            rw [List.take_add_one, hs, List.append_assoc, List.map_append]; rfl⟩
          obtain ⟨y, hy⟩ : ∃ y, W0 (2 * c.g + 1 + s) = y := ⟨_, rfl⟩
          have HY64 : Seal (y < 18446744073709551616) := ⟨by rw [← hy]; exact HSw.out.ar.fits _ (by have := HKd.out.2.2; omega)⟩
          rw [hy] at HLd HRest HTk
          have Gq := HGn.out wr kq
          have br := kq.at_ HBw.out HNx.out
          have cb := cell_of_one br
          have HTg : Seal (∀ W', Keep Nope wr W' → Calls Tryz.prog 90 #[.pointer (some ⟨gb, 0, none⟩), .int .u64 (y : Nat)] W' fun e' w' => e' = .returned (.int .i64 (tgt cs y)) ∧ w' = W') := ⟨fun W' kk => target_at P gb m base E cs _ W' (HGk.out wr W' Gq kk) y HY64.out⟩
          clear Gq br hjJ kq hN hrow hV hs hsT hy
          gi_wp2_with fail
          refine ⟨trivial, rfl, ?_⟩
          refine (callsIn_wide.2 HLd.out).mono ?_
          rintro e w7 ⟨rfl, k7⟩
          have cb7 := k7.cell cb (fun h => h)
          clear cb cx
          gi_wp2_with fail
          refine ⟨trivial, rfl, ?_⟩
          refine (callsIn_wide.2 (HTg.out _ k7)).mono ?_
          rintro e w8 ⟨rfl, rfl⟩
          have J8 := hJ _ _ _ _ HJq.out k7
          have HY8 : Seal _ := ⟨hY _ S' _ rest w8 HRest.out J8⟩
          have HS8 : Seal (∀ i, S' i → (R i ∨ W.heap.size ≤ i)) := ⟨fun i hi => (hS _ _ _ J8 i hi).1⟩
          have HR8 : Seal _ := ⟨ownsRow_keep HRq.out k7 (fun _ _ h => h)⟩
          have HV8 : Seal _ := ⟨HVq.out.keepN k7⟩
          have HK8 : Seal _ := ⟨HKq.out.trans k7 (fun _ _ h => h.elim)⟩
          clear J8 k7 cb7
          gi_wp2_with fail
          refine uponIn_yield3 HY8.out rfl ?_
          intro b' B hB
          rcases hB with ⟨rfl, hk, S'', hT, hS'⟩ | ⟨rfl, hE⟩
          · have hrb := ownsRow_block HR8.out (b := rb) rfl
            have hvb := lt_of_heap HV8.out
            have OB := ownsRow_keep HR8.out hk (fun b' hb' hs => by
              rcases hs with hs | hs
              · exact (HNq.out _ hs).2 hb'
              · have := (ownsRow_block HR8.out hb').1; have := HK6.out.size; have := HK5.out.size; have := HKr.out.size; omega)
            have VB := HV8.out.keep hk (fun hs => by
              rcases hs with hs | hs
              · exact (HNq.out _ hs).1 rfl
              · have := HB5.out; have := HKr.out.size; omega)
            have KB := HK8.out.trans hk (fun i hi h => by
              rcases h with h | h
              · rcases HS8.out i h with h | h
                · exact .inl h
                · omega
              · exact .inr h)
            have NB : ∀ i, S'' i → ¬ i = b ∧ ¬ (Value.slice (some ⟨rb, 0, none⟩) M rc).ownBlock = some i := fun i hi => by
              rcases hS' i hi with h' | h'
              · exact HNq.out i h'
              · exact ⟨by omega, fun h => by have := (ownsRow_block HR8.out h).2; omega⟩
            have HF : Seal _ := ⟨And.intro hT (And.intro KB (And.intro NB (And.intro OB VB)))⟩
            clear hT KB OB VB NB hS' hk hrb hvb
            gi_wp2_with fail
            exact ⟨⟨i + 1, S'', by omega, by go_num, by rw [← HTk.out]; exact HF.out.1, HF.out.2.1, HF.out.2.2.1, HF.out.2.2.2.1, HF.out.2.2.2.2⟩, by simp only [intOf]; omega⟩
          · gi_wp2_with fail
            refine bodyPost_ret (results_none rfl _ _ _) rfl ?_
            exact ⟨⟨_, rfl⟩, .inr ⟨_, ⟨_, by rw [List.append_assoc]; exact HRest.out.symm⟩, hE⟩⟩
        · have hil' : ¬ (i : Int) < (M : Int) := by omega
          obtain rfl : i = M := by omega
          gi_wp2_with fail
          exact ⟨⟨j + 1, S', by omega, by go_num, by have := HJq.out; rw [show rs.take i = rs from List.take_of_length_le (by have := HM.out; omega)] at this; rw [HSt.out]; exact this, HKq.out⟩, by simp only [intOf]; omega⟩
    · have hjl' : ¬ (j : Int) < (L : Int) := by omega
      gi_wp2_with fail
      go_end0
      exact ⟨⟨_, rfl⟩, .inl ⟨S, by
        have := HJ.out
        rwa [List.take_of_length_le (by have := HLL.out; unfold obsG at this; rw [List.length_map] at this; omega)] at this⟩⟩

end Go.Proofs.YtllpibknkajfnaaGreatDoor

namespace Go.Proofs.YtllpibknkajfnaaGreatDoor
open Go.RowKit
set_option linter.unusedVariables false
attribute [local go_sem] Oper.semAt_some

/-- What a reference adds to the edges. -/
def edgeOf (cs : List Cel) (x : Nat × Nat × Nat) : List (Nat × Nat × Nat) := if 0 ≤ tgt cs x.2.2 then [(x.1, x.2.1, (tgt cs x.2.2).toNat)] else []

def edgesP (cs : List Cel) (xs : List (Nat × Nat × Nat)) : List (Nat × Nat × Nat) := xs.flatMap (edgeOf cs)

/-- All references to objects: from which one, which slot, to which one. -/
def edgesL (ts : List TypR) (W : Nat → Nat) (cs : List Cel) : List (Nat × Nat × Nat) := edgesP cs (refsW ts W (objsOf cs))

/-- Three numbers each, one behind the other. -/
def flatE (es : List (Nat × Nat × Nat)) : List Value := es.flatMap fun e => [.int .i64 (e.1 : Nat), .int .i64 (e.2.1 : Nat), .int .i64 (e.2.2 : Nat)]

theorem flatE_app (xs ys : List (Nat × Nat × Nat)) : flatE (xs ++ ys) = flatE xs ++ flatE ys := by simp [flatE]

theorem flatE_at : ∀ (xs : List (Nat × Nat × Nat)) (i : Nat) (x : Nat × Nat × Nat), xs[i]? = some x → (flatE xs)[i * 3]? = some (.int .i64 (x.1 : Nat)) ∧ (flatE xs)[i * 3 + 1]? = some (.int .i64 (x.2.1 : Nat)) ∧ (flatE xs)[i * 3 + 2]? = some (.int .i64 (x.2.2 : Nat))
  | y :: xs, 0, x, h => by
    simp at h
    subst h
    exact ⟨rfl, rfl, rfl⟩
  | y :: xs, i + 1, x, h => by
    have h2 : xs[i]? = some x := by simpa using h
    obtain ⟨h3, h4, h5⟩ := flatE_at xs i x h2
    rw [show (i + 1) * 3 = (i * 3 + 1 + 1 + 1) by omega]
    exact ⟨h3, h4, h5⟩

theorem edgesP_add (cs : List Cel) (xs : List (Nat × Nat × Nat)) (x : Nat × Nat × Nat) : edgesP cs (xs ++ [x]) = edgesP cs xs ++ edgeOf cs x := by simp [edgesP]

theorem edgesP_len (cs : List Cel) : ∀ (xs : List (Nat × Nat × Nat)), (edgesP cs xs).length ≤ xs.length
  | [] => Nat.le_refl _
  | x :: xs => by
    have h := edgesP_len cs xs
    have e : edgesP cs (x :: xs) = edgeOf cs x ++ edgesP cs xs := rfl
    rw [e, List.length_append]
    have : (edgeOf cs x).length ≤ 1 := by unfold edgeOf; split <;> simp
    simp only [List.length_cons]
    omega

theorem refsC_len {ts : List TypR} {c : Cel} (hok : CelOk ts c) (ht : c.tag = 1) : (refsC ts c).length ≤ 65536 := by
  unfold refsC
  cases h : typeOf ts (c.ty : Nat) with
  | none => simp
  | some x =>
    refine refsT_len ?_
    obtain ⟨e1, e2⟩ := hok.2 ht
    unfold sizeE at e1
    rw [h] at e1
    exact e1

theorem refsW_len {ts : List TypR} {W : Nat → Nat} : ∀ {xs : List Cel}, (∀ c ∈ xs, CelOk ts c ∧ c.tag = 1) → (refsW ts W xs).length ≤ xs.length * 65536
  | [], _ => Nat.le_refl _
  | c :: xs, h => by
    have h1 := refsW_len (W := W) (fun c hc => h c (List.mem_cons_of_mem _ hc))
    have h2 := refsC_len (h c List.mem_cons_self).1 (h c List.mem_cons_self).2
    have e : refsW ts W (c :: xs) = (refsC ts c).map (fun s => (c.g, s, W (2 * c.g + 1 + s))) ++ refsW ts W xs := rfl
    rw [e, List.length_append, List.length_map]
    simp only [List.length_cons]
    omega

theorem CellsTo.refs_len {P : Sp} {W : Nat → Nat} {cs : List Cel} {E : Nat} (h : CellsTo P W cs E) (hn : P.n ≤ 65536) : (refsW P.ts W (objsOf cs)).length ≤ 2147483648 := by
  have h1 := refsW_len (ts := P.ts) (W := W) (xs := objsOf cs) (fun c hc => ⟨h.ok c (mem_objsOf.1 hc).1, (mem_objsOf.1 hc).2⟩)
  have h2 : (objsOf cs).length ≤ cs.length := List.length_filter_le _ _
  have h3 := tiles_len h.tl
  have h4 := h.le
  omega

theorem Tryz.underlyingEdges : Tryz.prog.underlying 78 = some (.slice 81) := by kernel_rfl

theorem Tryz.infoEdge : (Tryz.prog.info? 81).map (fun i => (i.zero, i.size, i.bytes)) = some (some (.agg #[.int .i64 0, .int .i64 0, .int .i64 0]), 3, 24) := by kernel_rfl

/-- Where Edges' loop stands. -/
def EdgI (cs : List Cel) (rv : Nat) (wl : World) (pre : List (Nat × Nat × Nat)) (S : Nat → Prop) (W' : World) : Prop :=
  ∃ v, W'.heap[rv]? = some (.cells #[v] 78 (0, 0)) ∧ W'.ownsRow (wl.heap.size + 2) 81 3 v (edgesP cs pre).length (flatE (edgesP cs pre)) ∧ (S = fun k => k = rv ∨ v.ownBlock = some k) ∧ Keep (fun k => k = rv) wl W'

set_option maxRecDepth 20000 in
set_option maxHeartbeats 8000000 in
theorem Edges_at (P : Sp) (W : Nat → Nat) (f : Nat → Bool) (cs : List Cel) (w : World) (h : SpaceAt w P W f) (hc : CellsAt P W cs) (hms : ∀ x ∈ P.ts, x.m < 18446744073709551616) :
    Calls Tryz.prog 32 #[.pointer (some ⟨P.s, 0, none⟩)] w fun e w' => ∃ v, e = .returned v ∧ w'.ownsRow w.heap.size 81 3 v (edgesL P.ts W cs).length (flatE (edgesL P.ts W cs)) ∧ Keep Nope w w' := by
  have HSp : Seal _ := ⟨h⟩
  have HCs : Seal _ := ⟨hc.to⟩
  have lall := h.lt
  have hrl := hc.to.refs_len h.ar.small
  have HAr : Seal (∀ w', Keep Nope w w' → Calls Tryz.prog 12 #[.pointer (some ⟨P.s, 0, none⟩)] w' fun e w'' => e = .returned (.pointer (some ⟨P.a, 0, none⟩)) ∧ w'' = w') := ⟨fun w' kk => SArena_at P W f w' (h.keepN kk)⟩
  have HTb : Seal (∀ w', Keep Nope w w' → Calls Tryz.prog 13 #[.pointer (some ⟨P.s, 0, none⟩)] w' fun e w'' => e = .returned (.pointer (some ⟨P.t, 0, none⟩)) ∧ w'' = w') := ⟨fun w' kk => STable_at P W f w' (h.keepN kk)⟩
  clear h hc
  refine (callsIn_wide (n := 0)).1 ?_
  refine callsIn_of_wp_marks Tryz.func32 rfl trivial ?_
  simp only [Tryz.ntmps32, List.size_toArray, List.length_cons, List.length_nil, Nat.reduceAdd, Nat.reduceSub, Array.replicate_succ, Array.replicate_zero, List.push_toArray, List.append_toArray, List.nil_append, List.cons_append]
  gi_wp2_with fail
  refine ⟨trivial, rfl, ?_⟩
  obtain ⟨w1, hw1⟩ : ∃ w1, w1 = w.alloc (.cells #[.slice none 0 0] 78) := ⟨_, rfl⟩
  rw [← hw1]
  have k1 : Keep Nope w w1 := by rw [hw1]; exact (Keep.refl _ w).alloc _
  have z1 : w1.heap.size = w.heap.size + 1 := by rw [hw1]; simp
  have b1 : w1.heap[w.heap.size]? = some (.cells #[.slice none 0 0] 78 (0, 0)) := by rw [hw1]; exact World.alloc_heap_new w _
  clear hw1
  refine (callsIn_wide.2 (HAr.out w1 k1)).mono ?_
  rintro e w2 ⟨rfl, rfl⟩
  gi_wp2_with fail
  refine ⟨trivial, rfl, ?_⟩
  refine (callsIn_wide.2 (HTb.out _ k1)).mono ?_
  rintro e w2 ⟨rfl, rfl⟩
  gi_wp2_with fail
  refine ⟨trivial, rfl, ?_⟩
  refine (callsIn_wide.2 (through_to P W f cs (P.n / 2) _ (HSp.out.keepN k1) HCs.out)).mono ?_
  rintro e w3 ⟨rfl, ⟨ov, hG⟩, k3⟩
  gi_wp2_with fail
  refine ⟨trivial, rfl, ?_⟩
  refine (callsIn_wide.2 (grefs_fn (w.heap.size + 1 + 1) w3)).mono ?_
  rintro e wl ⟨rfl, hwl⟩
  obtain ⟨B, hB⟩ : ∃ B, w.heap.size = B := ⟨_, rfl⟩
  have hz3 := k3.size
  have hzl : wl.heap.size = w3.heap.size + 1 := by rw [← hwl]; simp
  have kl : Keep Nope w3 wl := by rw [← hwl]; exact (Keep.refl _ w3).alloc _
  have gbx : wl.heap[w3.heap.size]? = some (.cells #[.pointer (some ⟨w.heap.size + 1 + 1, 0, none⟩)] 106 (0, 0)) := by rw [← hwl]; exact World.alloc_heap_new w3 _
  clear hwl
  have KL : Keep Nope w wl := (k1.then' k3).then' kl
  have bl1 := (k3.then' kl).at_ b1 (fun h => h)
  have lG : ∀ W' n, n = w.heap.size + 1 → GoingAt W' P (n + 1) n n cs (P.n / 2) ov → GoingAt W' P (w.heap.size + 1 + 1) (w.heap.size + 1) (w.heap.size + 1) cs (P.n / 2) ov := fun W' n hn h => by rw [hn] at h; exact h
  replace hG := lG _ _ z1 hG
  have GL := hG.keep kl (fun h => h) (fun h => h) (fun _ _ h => h)
  have lov : ∀ b, ov.ownBlock = some b → w.heap.size + 1 ≤ b ∧ b < w3.heap.size := fun b hb => by
    obtain ⟨-, -, g3, -⟩ := hG
    have := ownsRow_block g3 hb
    omega
  have lg : w.heap.size + 1 + 1 < w3.heap.size := lt_of_heap hG.1
  rw [hB] at gbx bl1 z1 lov lg GL
  clear hG b1 lG
  gi_wp2_with fail
  try rw [hB]
  obtain ⟨D, hD⟩ : ∃ D, w3.heap.size = D := ⟨_, rfl⟩
  rw [hD] at gbx hz3 hzl lov lg ⊢
  rw [z1] at hz3
  refine wpIn_range4 (n := 0) (gf := 87) (lb := #[.pointer (some ⟨D, 0, none⟩)]) rfl (enters_of Tryz.func87 (by kernel_rfl) rfl)
    (grefs_iter4 P W f cs (P.n / 2) D (B + 1 + 1) (B + 1) (B + 1) ov wl (HSp.out.keepN KL) HCs.out hms GL gbx (R := fun i => i = B) (fun i hi => by
      subst hi
      exact ⟨by omega, by omega, by omega, by omega, fun h => by have := lov _ h; omega, fun h => by have := lall _ h; omega⟩)) (fun i hi => hi.elim) (fun i hi => by omega)
    (X := fun _ => False) (fun i hi => hi.elim) (fun _ => rfl)
    (fun pre S W' => EdgI cs B wl pre S W') (fun c pre W' => False) (fun i => i = B ∨ (Value.slice none 0 0).ownBlock = some i) ?hS ?hI ?hIx ?h0 ?hround ?hdone ?hstop
  case hS =>
    rintro pre S A ⟨v, a1, a2, rfl, a4⟩ i hi
    rcases hi with hi | hi
    · exact ⟨.inl hi, by have := lt_of_heap a1; omega⟩
    · have := ownsRow_block a2 hi
      exact ⟨.inr this.1, this.2⟩
  case hI =>
    rintro pre S A A' ⟨v, a1, a2, a3, a4⟩ hk
    exact ⟨v, hk.at_ a1 (fun h => by rcases h with h | h | h; exact h; omega; omega), ownsRow_keep a2 hk (fun b hb h => by have := ownsRow_block a2 hb; rcases h with h | h | h; exact h; omega; omega), a3,
      a4.trans hk (fun b hb h => by rcases h with h | h | h; exact h.elim; omega; omega)⟩
  case hIx => exact fun c pre A B h hk => h
  case h0 => exact ⟨_, bl1, World.ownsRow_nil wl _ _ _, rfl, Keep.refl _ _⟩
  case hround =>
    rintro pre S x rest W' hx ⟨v, a1, a2, a3, a4⟩ hs
    have hpl : pre.length + 1 ≤ 2147483648 := by
      have : (refsW P.ts W (objsOf cs)).length = pre.length + (rest.length + 1) := by rw [hx]; simp
      omega
    have hel : (edgesP cs pre).length ≤ pre.length := edgesP_len cs pre
    obtain ⟨xg, xs, y⟩ := x
    obtain ⟨z, hz⟩ : ∃ z, tgt cs y = z := ⟨_, rfl⟩
    have HAd : Seal (edgesP cs (pre ++ [(xg, xs, y)]) = edgesP cs pre ++ (if 0 ≤ z then [(xg, xs, z.toNat)] else [])) := ⟨by rw [edgesP_add, edgeOf, hz]⟩
    unfold edgeV
    dsimp only
    rw [hz]
    clear hz hx gbx bl1 GL lov lg
    gi_wp2_with fail
    refine ⟨((Keep.refl Nope W').alloc _).of_not _, ?_⟩
    intro W2 hc2 hf2 hk2 hs2 hr2
    have kW : Keep Nope W' (W'.alloc (.cells #[.int .i64 (xg : Nat), .int .i64 (xs : Nat), .int .i64 z] 81)) := (Keep.refl _ W').alloc _
    have lW := lt_of_heap a1
    have own1 : (W2).ownsRow (wl.heap.size + 2) 81 3 v (edgesP cs pre).length (flatE (edgesP cs pre)) := ownsRow_keep (ownsRow_keep a2 kW (fun _ _ h => h)) hk2 (fun b hb h => by have := ownsRow_block a2 hb; omega)
    have r0 := hk2.at_ (kW.at_ a1 (fun h => h)) (by omega)
    have rc := hk2.at_ (World.alloc_heap_new W' (.cells #[.int .i64 (xg : Nat), .int .i64 (xs : Nat), .int .i64 z] 81)) (by omega)
    have c0 := cell_of_one r0
    have fr0 := free_of_one r0
    obtain ⟨d0, d1, d2⟩ := cells3 rc
    have HR0 : Seal _ := ⟨r0⟩
    have HOW : Seal _ := ⟨own1⟩
    have HA4 : Seal _ := ⟨a4⟩
    have HK2 : Seal (Keep (fun k => k = wl.heap.size + 1) W' W2) := ⟨(kW.of_not _).trans hk2 (fun b hb h => h)⟩
    have zW2 : W2.heap.size = W'.heap.size + 1 := by rw [hs2]; simp
    have lrW2 : B < W2.heap.size := by omega
    have HNW : Seal (¬ v.ownBlock = some B) := ⟨fun e => by have := ownsRow_block own1 e; omega⟩
    have HS3 : Seal _ := ⟨a3⟩
    have hs3 : wl.heap.size + 2 ≤ W2.heap.size := by omega
    have lc : W'.heap.size < W2.heap.size := by omega
    clear r0 own1 a2 a4 hc2 hf2 a1 a3 hk2 hs2 rc kW hr2 zW2
    by_cases h0 : 0 ≤ z
    · obtain ⟨n, rfl⟩ := Int.eq_ofNat_of_zero_le h0
      have p0 : decide ((0 : Int) ≤ (n : Int)) = true := decide_eq_true h0
      rw [if_pos h0, Int.toNat_natCast] at HAd
      clear h0
      obtain ⟨i0, hi, hz0, hz1, hz2⟩ := info_parts Tryz.infoEdge
      refine wpIn_block ?_
      refine wpIn_seq ?_
      refine wpIn_region_lit ?_
      refine wpListIn_of_wpList (fun _ _ h => h) _ _ _ (by kernel_rfl) ?_
      go_wp2_with fail
      refine wpIn_cond_true rfl ?_
      refine wpIn_region_lit ?_
      refine wpListIn_of_wpList (fun _ _ h => h) _ _ _ (by kernel_rfl) ?_
      go_wp2_with (at_builtin; go_loud (refine wpList_append_lies _ rfl (.tmp 17) (.tmp 19) 78 rfl (wl.heap.size + 2) 81 i0 _ 3 24 Tryz.underlyingEdges hi hz0 hz1 hz2 rfl (by omega) v (edgesP cs pre).length (flatE (edgesP cs pre)) rfl (HOW.out.alloc _) ⟨W2.heap.size, 0, none⟩ 1 1 [.int .i64 (xg : Nat), .int .i64 (xs : Nat), .int .i64 (n : Nat)] rfl rfl (World.news_of_block (World.alloc_heap_new W2 _)) (by intro u hu; simp at hu; rcases hu with rfl | rfl | rfl <;> rfl) (by omega) (by unfold maxLen; omega) (by omega) (by simp; omega) _ rfl ?_); intro g cap w3 hown hgrow hat hlt; have KA : Keep (fun b => v.ownBlock = some b) W2 w3 := ((Keep.refl Nope W2).alloc _ |>.of_not _).grown hgrow (fun k e _ => e); have r3 := KA.at_ HR0.out HNW.out; have c3 := cell_of_one r3; have fr3 := free_of_one r3; have HR3 : Seal _ := ⟨r3⟩; clear r3)
      have KB : Keep (fun b => b = B) w3 (w3.setCell ⟨B, 0, none⟩ (.slice (some ⟨g, 0, none⟩) ((edgesP cs pre).length + 1) cap)) := (Keep.refl (fun b => b = B) w3).setCell (fun _ => rfl) _
      have zA := KA.size
      refine ⟨((KA.mono fun b hb h => by rw [HS3.out]; exact .inr h).trans KB (fun b hb h => by rw [HS3.out]; exact .inl h)), _, ⟨.slice (some ⟨g, 0, none⟩) ((edgesP cs pre).length + 1) cap, one_setCell HR3.out, ?_, rfl, ?_⟩, ?_⟩
      · rw [HAd.out, flatE_app, List.length_append]
        exact ownsRow_keep hown KB (fun b hb h => by have := ownsRow_block hown hb; omega)
      · exact ((HA4.out.trans HK2.out (fun b hb h => by omega)).trans KA (fun b hb h => by have := ownsRow_block HOW.out h; omega)).trans KB (fun b hb h => h)
      · rintro i (hi' | hi')
        · exact .inl (by rw [HS3.out]; exact .inl hi')
        · have hg : g = i := by simpa [Value.ownBlock] using hi'
          subst hg
          rcases hat with h | h
          · exact .inl (by rw [HS3.out]; exact .inr h)
          · right
            rw [h]
            simp
    · have p0 : decide ((0 : Int) ≤ z) = false := decide_eq_false h0
      rw [if_neg h0, List.append_nil] at HAd
      clear h0
      gi_wp2_with fail
      refine ⟨Keep.refl _ W2, S, ⟨v, HR0.out, by rw [HAd.out]; exact HOW.out, HS3.out, HA4.out.trans HK2.out (fun i hi h => by omega)⟩, fun i hi => .inl hi⟩
  case hdone =>
    rintro S W' ⟨v, a1, a2, a3, a4⟩ hs hD'
    obtain ⟨va, vc, rfl⟩ := owns_slice a2
    have c0 := cell_of_one a1
    have fr0 := free_of_one a1
    have HA1 : Seal _ := ⟨a1⟩
    have HA2 : Seal _ := ⟨a2⟩
    have HA4 : Seal _ := ⟨a4⟩
    clear a1 a2 a3 a4
    gi_wp2_with fail
    obtain ⟨w4, hw4⟩ : ∃ w4, w4 = W'.setCell ⟨B, 0, none⟩ (.slice va (edgesP cs (refsW P.ts W (objsOf cs))).length vc) := ⟨_, rfl⟩
    rw [← hw4]
    have KB : Keep (fun b => b = B) W' w4 := by rw [hw4]; exact (Keep.refl (fun b => b = B) W').setCell (fun _ => rfl) _
    have b4 : w4.heap[B]? = some (.cells #[.slice va (edgesP cs (refsW P.ts W (objsOf cs))).length vc] 78 (0, 0)) := by rw [hw4]; exact one_setCell HA1.out
    clear hw4
    refine ⟨by simp, .inl ⟨_, _, rfl, run_takeDeferred (KB.at_ hD' (by omega)), ?_⟩⟩
    have kE : Keep (fun b => b = wl.heap.size) w4 (w4.putObj wl.heap.size (.deferred none)) := (Keep.refl (fun b => b = wl.heap.size) w4).putObj (fun _ => rfl) _
    have e4 := cell_of_one (kE.at_ b4 (by omega))
    refine ⟨.slice va (edgesP cs (refsW P.ts W (objsOf cs))).length vc, by simp [results, Tryz.results32, go_sem, e4], _, rfl, ?_, ?_⟩
    · refine ownsRow_less5 (ownsRow_keep (ownsRow_keep HA2.out KB (fun b hb h => ?_)) kE (fun b hb h => ?_)) (by omega)
      · have := ownsRow_block HA2.out hb; omega
      · have := ownsRow_block HA2.out hb; omega
    · exact (((KL.trans HA4.out (fun b hb h => by omega)).trans KB (fun b hb h => by omega)).trans kE (fun b hb h => by omega))
  case hstop => exact fun c pre W' hp h => h.elim

end Go.Proofs.YtllpibknkajfnaaGreatDoor
