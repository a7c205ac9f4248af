/-
  walk: what is wrong with an arena's words (Check).
-/
import Derived.Test.YtllpibknkajfnaaGreatDoorWalkB
import Derived.Maps.OwnIn
import Derived.Sort.CutIn
namespace Go.Proofs.YtllpibknkajfnaaGreatDoor
open Go.RowKit
set_option linter.unusedVariables false
attribute [local go_sem] Oper.semAt_some

/-- What is wrong with the starts below j: where, 0, why. -/
def faultS (st : Nat → Bool) (cs : List Cel) (at_ : Nat) : List (Nat × Nat × Nat) :=
  if st at_ = true then (if startOf cs at_ = true then [] else [(at_, 0, 9)]) else (if startOf cs at_ = true then [(at_, 0, 3)] else [])

def faultsS (st : Nat → Bool) (cs : List Cel) (j : Nat) : List (Nat × Nat × Nat) := (List.range j).flatMap (faultS st cs)

theorem faultsS_succ (st : Nat → Bool) (cs : List Cel) (j : Nat) : faultsS st cs (j + 1) = faultsS st cs j ++ faultS st cs j := by
  unfold faultsS
  rw [List.range_succ, List.flatMap_append]
  simp

theorem faultS_len (st : Nat → Bool) (cs : List Cel) (j : Nat) : (faultS st cs j).length ≤ 1 := by
  unfold faultS
  split <;> split <;> simp

theorem faultsS_len (st : Nat → Bool) (cs : List Cel) : ∀ j, (faultsS st cs j).length ≤ j
  | 0 => by simp [faultsS]
  | j + 1 => by
    rw [faultsS_succ, List.length_append]
    have := faultsS_len st cs j
    have := faultS_len st cs j
    omega

/-- That no cell begins where one must. -/
def faultsE (H E : Nat) : List (Nat × Nat × Nat) := if E < H then [(E, 0, 7)] else []

/-- What is wrong with references. -/
def faultR (cs : List Cel) (x : Nat × Nat × Nat) : List (Nat × Nat × Nat) := if ¬ x.2.2 = 0 ∧ tgt cs x.2.2 < 0 then [(x.1, x.2.1, 8)] else []

def faultsR (cs : List Cel) (xs : List (Nat × Nat × Nat)) : List (Nat × Nat × Nat) := xs.flatMap (faultR cs)

theorem faultsR_add (cs : List Cel) (xs : List (Nat × Nat × Nat)) (x : Nat × Nat × Nat) : faultsR cs (xs ++ [x]) = faultsR cs xs ++ faultR cs x := by simp [faultsR]

theorem faultsR_len (cs : List Cel) : ∀ (xs : List (Nat × Nat × Nat)), (faultsR cs xs).length ≤ xs.length
  | [] => Nat.le_refl _
  | x :: xs => by
    have h := faultsR_len cs xs
    have e : faultsR cs (x :: xs) = faultR cs x ++ faultsR cs xs := rfl
    rw [e, List.length_append]
    have : (faultR cs x).length ≤ 1 := by unfold faultR; split <;> simp
    simp only [List.length_cons]
    omega

/-- All. -/
def faultsL (ts : List TypR) (H : Nat) (W : Nat → Nat) (st : Nat → Bool) (cs : List Cel) (E : Nat) : List (Nat × Nat × Nat) := faultsS st cs E ++ faultsE H E ++ faultsR cs (refsW ts W (objsOf cs))

theorem Tryz.underlyingFaults : Tryz.prog.underlying 36 = some (.slice 47) := by kernel_rfl

theorem Tryz.infoFault : (Tryz.prog.info? 47).map (fun i => (i.zero, i.size, i.bytes)) = some (some (.agg #[.int .i64 0, .int .i64 0, .int .i64 0]), 3, 24) := by kernel_rfl

/-- Where a statement only goes on. -/
theorem wpIn_only {F : Fence} {n : Nat} {P : Program} {c : Code} {K : Act → World → Prop} {Q : Exit → Act → World → Prop} {a : Act} {w : World} (h : c.wpIn F n P (Exit.then K fun _ _ _ => False) a w) : c.wpIn F n P (Exit.then K Q) a w := by
  refine wpIn_mono h ?_
  intro e a' w' hq
  cases e with
  | normal => exact hq
  | exit id => exact hq.elim
  | goto l => exact hq.elim
  | ret => exact hq.elim
  | panic ch => exact hq.elim
  | outgrown => exact hq.elim

/-- A row in a box, that one owns. -/
def BoxE (w : World) (bx base : Nat) (v : Value) (es : List (Nat × Nat × Nat)) : Prop :=
  w.heap[bx]? = some (.cells #[v] 36 (0, 0)) ∧ w.ownsRow base 47 3 v es.length (flatE es)

theorem BoxE.keep {S : Nat → Prop} {w w' : World} {bx base : Nat} {v : Value} {es : List (Nat × Nat × Nat)} (h : BoxE w bx base v es) (k : Keep S w w') (h1 : ¬ S bx) (h2 : ∀ b, base ≤ b → b < w.heap.size → ¬ S b) : BoxE w' bx base v es :=
  ⟨k.at_ h.1 h1, ownsRow_keep h.2 k (fun b hb => by have := ownsRow_block h.2 hb; exact h2 b this.1 this.2)⟩

theorem BoxE.put' {w w5 : World} {bx base : Nat} {v v' : Value} {es : List (Nat × Nat × Nat)} {e : Nat × Nat × Nat} {xs : List Value} (h : BoxE w bx base v es) (hlt : bx < base) (hown : w5.ownsRow base 47 3 v' (es.length + 1) (flatE es ++ xs)) (hx : xs = flatE [e]) (hg : w.grownBy w5 v.ownBlock) :
    BoxE (w5.setCell ⟨bx, 0, none⟩ v') bx base v' (es ++ [e]) ∧ Keep (fun k => k = bx ∨ v.ownBlock = some k) w (w5.setCell ⟨bx, 0, none⟩ v') := by
  subst hx
  have hnb : ¬ v.ownBlock = some bx := fun e => by have := ownsRow_block h.2 e; omega
  have KA : Keep (fun k => v.ownBlock = some k) w w5 := (Keep.refl _ w).grown hg (fun k e _ => e)
  have b5 := KA.at_ h.1 hnb
  have KB : Keep (fun k => k = bx) w5 (w5.setCell ⟨bx, 0, none⟩ v') := (Keep.refl (fun k => k = bx) w5).setCell (fun _ => rfl) _
  refine ⟨⟨one_setCell b5, ?_⟩, (KA.mono fun i _ h => .inr h).trans KB (fun i _ h => .inl h)⟩
  rw [flatE_app, List.length_append]
  exact ownsRow_keep hown KB (fun b hb h => by have := ownsRow_block hown hb; omega)

theorem BoxE.put {w w5 : World} {bx base : Nat} {v v' : Value} {es : List (Nat × Nat × Nat)} {o : Obj} {e : Nat × Nat × Nat} {xs : List Value} (h : BoxE w bx base v es) (hlt : bx < base) (hown : w5.ownsRow base 47 3 v' (es.length + 1) (flatE es ++ xs)) (hx : xs = flatE [e]) (hg : (w.alloc o).grownBy w5 v.ownBlock) :
    BoxE (w5.setCell ⟨bx, 0, none⟩ v') bx base v' (es ++ [e]) ∧ Keep (fun k => k = bx ∨ v.ownBlock = some k) w (w5.setCell ⟨bx, 0, none⟩ v') := by
  have kA : Keep Nope w (w.alloc o) := (Keep.refl _ w).alloc _
  obtain ⟨h1, h2⟩ := (h.keep kA (fun h => h) (fun _ _ _ h => h)).put' hlt hown hx hg
  exact ⟨h1, (kA.of_not _).trans h2 (fun _ _ h => h)⟩

/-- How the starts' loop stands. -/
def ChkI (st : Nat → Bool) (cs : List Cel) (bx base : Nat) (wl : World) (j : Nat) (wr : World) : Prop :=
  ∃ v, BoxE wr bx base v (faultsS st cs j) ∧ Keep (fun k => k = bx) wl wr

/-- How the references' loop stands. -/
def FltI (cs : List Cel) (bx base : Nat) (v0 : Value) (F0 : List (Nat × Nat × Nat)) (wl : World) (pre : List (Nat × Nat × Nat)) (S : Nat → Prop) (W' : World) : Prop :=
  ∃ v, BoxE W' bx base v (F0 ++ faultsR cs pre) ∧ (S = fun k => k = bx ∨ v.ownBlock = some k) ∧ Keep (fun k => k = bx ∨ v0.ownBlock = some k) wl W' ∧ ∀ b, v.ownBlock = some b → v0.ownBlock = some b ∨ wl.heap.size + 2 ≤ b

set_option maxRecDepth 20000 in
set_option maxHeartbeats 16000000 in
theorem Check_to (P : Sp) (W : Nat → Nat) (f : Nat → Bool) (cs : List Cel) (E : Nat) (sp sq : Nat) (st : Nat → Bool) (w : World) (h : SpaceAt w P W f) (hc : CellsTo P W cs E) (hms : ∀ x ∈ P.ts, x.m < 18446744073709551616) (hb : BitsAt w sp sq st (P.n / 2)) :
    Calls Tryz.prog 11 #[.pointer (some ⟨P.a, 0, none⟩), .pointer (some ⟨P.t, 0, none⟩), .pointer (some ⟨sp, 0, none⟩)] w fun e w' => ∃ v, e = .returned (.tuple #[v, .int .i64 0]) ∧ w'.ownsRow w.heap.size 47 3 v (faultsL P.ts (P.n / 2) W st cs E).length (flatE (faultsL P.ts (P.n / 2) W st cs E)) ∧ Keep Nope w w' := by
  have HSp : Seal _ := ⟨h⟩
  have HCs : Seal _ := ⟨hc⟩
  have HBt : Seal _ := ⟨hb⟩
  have lall := h.lt
  have hrl := hc.refs_len h.ar.small
  have hn := h.ar.small
  have hEl := hc.le
  have hev := h.ev
  obtain ⟨H, hH⟩ : ∃ H, P.n / 2 = H := ⟨_, rfl⟩
  rw [hH] at HBt hEl ⊢
  have hH2 : H ≤ 32768 := by omega
  have HH' : Seal _ := ⟨hH⟩
  clear h hc hb hH
  refine (callsIn_wide (n := 0)).1 ?_
  refine callsIn_of_wp_marks Tryz.func11 rfl trivial ?_
  simp only [Tryz.ntmps11, List.size_toArray, List.length_cons, List.length_nil, Nat.reduceAdd, Nat.reduceSub, Array.replicate_succ, Array.replicate_zero, List.push_toArray, List.append_toArray, List.nil_append, List.cons_append]
  gi_wp2_with fail
  refine ⟨trivial, rfl, ?_⟩
  refine (callsIn_wide.2 (through_to P W f cs E _ HSp.out HCs.out)).mono ?_
  rintro e w1 ⟨rfl, ⟨ov, hG⟩, k1⟩
  obtain ⟨B, hB⟩ : ∃ B, w.heap.size = B := ⟨_, rfl⟩
  have lov : ∀ b, ov.ownBlock = some b → B ≤ b ∧ b < w1.heap.size := fun b hb => by
    obtain ⟨-, -, g3, -⟩ := hG
    have := ownsRow_block g3 hb
    omega
  have lg : w.heap.size + 1 < w1.heap.size := lt_of_heap hG.1
  have HG1 : Seal _ := ⟨hG⟩
  rw [hB] at HG1 lg
  have HK1 : Seal _ := ⟨k1⟩
  obtain ⟨w2, hw2⟩ : ∃ w2, w2 = w1.alloc (.cells #[.slice none 0 0] 36) := ⟨_, rfl⟩
  have k2 : Keep Nope w1 w2 := by rw [hw2]; exact (Keep.refl _ w1).alloc _
  have b2 : w2.heap[w1.heap.size]? = some (.cells #[.slice none 0 0] 36 (0, 0)) := by rw [hw2]; exact World.alloc_heap_new w1 _
  have z2 : w2.heap.size = w1.heap.size + 1 := by rw [hw2]; simp
  have HG2 : Seal _ := ⟨HG1.out.keep k2 (fun h => h) (fun h => h) (fun _ _ h => h)⟩
  obtain ⟨D, hD⟩ : ∃ D, w1.heap.size = D := ⟨_, rfl⟩
  rw [hD] at b2 z2 lg lov
  have hx2 : BoxE w2 D (D + 1) (.slice none 0 0) (faultsS st cs 0) := ⟨b2, World.ownsRow_nil _ _ _ _⟩
  have HX2 : Seal _ := ⟨hx2⟩
  have HK2 : Seal (Keep Nope w w2) := ⟨HK1.out.then' k2⟩
  obtain ⟨e0, e1, e2, e3, e4⟩ := cells5g HG2.out.1
  have HZ2 : Seal _ := ⟨z2⟩
  rw [hw2] at e4
  clear hG k1 k2 b2 hx2 e0 e1 e2 e3 z2
  gi_wp2_with fail
  try rw [hD]
  rw [← hw2]
  clear hw2 hD e4
  have lsp : sp < w.heap.size ∧ sq < w.heap.size := ⟨HBt.out.lt_p', HBt.out.lt_q'⟩
  have hBD := HK1.out.size
  rw [hB] at lsp hBD
  have hBD2 : B ≤ D := by omega
  gi_loopw [31] (fun v31 wr => ∃ j : Nat, j ≤ E ∧ v31 = .int .i64 (j : Nat) ∧ ChkI st cs D (D + 1) w2 j wr) (fun v31 wr => E - (intOf v31).toNat)
  case atStart => exact ⟨0, Nat.zero_le _, rfl, _, HX2.out, Keep.refl _ _⟩
  case round =>
    obtain ⟨j, hj, rfl, v, hx, hkk⟩ := hrel
    have HKK : Seal _ := ⟨hkk⟩
    have HX : Seal _ := ⟨hx⟩
    have Gr := HG2.out.keep hkk (by omega) (by omega) (fun b hb h => by have := lov b hb; omega)
    by_cases hjl : j < E
    · have hjl' : (j : Int) < (E : Int) := by omega
      have HHs : Seal _ := ⟨Has_in j H sp sq st wr ((HBt.out.keep HK2.out (fun h => h) (fun h => h)).keep hkk (by omega) (by omega)) (by omega)⟩
      have HGr : Seal _ := ⟨Gr⟩
      have hfl := faultsS_len st cs j
      have HAd := faultsS_succ st cs j
      have hzr := hkk.size
      clear Gr hkk
      gi_wp2_with fail
      refine ⟨trivial, rfl, ?_⟩
      refine (callsIn_wide.2 HHs.out).mono ?_
      rintro e w3 ⟨rfl, k3⟩
      have G3 := HGr.out.keep k3 (fun h => h) (fun h => h) (fun _ _ h => h)
      obtain ⟨g1, ⟨nm, hnm, m1⟩, -, -⟩ := G3
      have hlook := m1.look (wf_small (g := j) (by omega))
      rw [startI_nat] at hlook
      obtain ⟨e0, e1, e2, e3, e4⟩ := cells5g g1
      have X3 := HX.out.keep k3 (fun h => h) (fun _ _ _ h => h)
      have HX3 : Seal _ := ⟨X3⟩
      have c3 := cell_of_one X3.1
      have f3 := free_of_one X3.1
      have HK3 : Seal _ := ⟨HKK.out.trans k3 (fun _ _ h => h.elim)⟩
      have hz3 := k3.size
      have lD3 := lt_of_heap X3.1
      have HNv : Seal (¬ v.ownBlock = some D) := ⟨fun h => by have := ownsRow_block X3.2 h; omega⟩
      unfold faultS at HAd
      have HA : Seal _ := ⟨HAd⟩
      clear g1 m1 hnm e0 e1 e3 e4 X3 k3 HAd
      cases h1 : st j with
      | true =>
        cases h2 : startOf cs j with
        | true =>
          rw [h1, h2, if_pos rfl, if_pos rfl, List.append_nil] at HA
          rw [h2] at hlook
          clear h1 h2 c3 f3
          gi_wp2_with fail
          exact ⟨⟨j + 1, by omega, by go_num, _, by rw [HA.out]; exact HX3.out, HK3.out⟩, by simp only [intOf]; omega⟩
        | false =>
          rw [h1, h2, if_pos rfl, if_neg (by simp)] at HA
          rw [h2] at hlook
          clear h1 h2
          gi_wp2_with (gi_at_builtin; obtain ⟨i0, hi, hz0, hz1, hz2⟩ := info_parts Tryz.infoFault; go_loud (refine wpListIn_append_own_at _ rfl (.tmp 48) (.tmp 51) 36 rfl (D + 1) 47 i0 _ 3 24 Tryz.underlyingFaults hi hz0 hz1 hz2 rfl (by omega) v (faultsS st cs j).length (flatE (faultsS st cs j)) rfl (HX3.out.2.alloc _) ⟨w3.heap.size, 0, none⟩ 1 1 [.int .i64 (j : Nat), .int .i64 0, .int .i64 9] rfl rfl (World.news_of_block (World.alloc_heap_new w3 _)) (by intro u hu; simp at hu; rcases hu with rfl | rfl | rfl <;> rfl) (by unfold maxLen; omega) (by omega) (by simp; omega) ?_); intro v5 w5 hown5 hgrow5 _ _; obtain ⟨a5, cp5, rfl⟩ := owns_slice hown5; have H5 : Seal _ := ⟨HX3.out.put (e := (j, 0, 9)) (by omega) hown5 rfl hgrow5⟩; have KA : Keep (fun b => v.ownBlock = some b) w3 w5 := ((Keep.refl Nope w3).alloc _ |>.of_not _).grown hgrow5 (fun k e _ => e); have r5 := KA.at_ HX3.out.1 HNv.out; have c5 := cell_of_one r5; have f5 := free_of_one r5; clear hi hz0 hz1 hz2 hown5 hgrow5 KA r5)
          exact ⟨⟨j + 1, by omega, by go_num, _, by rw [HA.out]; exact H5.out.1, HK3.out.trans H5.out.2 (fun i hi h => by rcases h with h | h; exact h; have := (ownsRow_block HX3.out.2 h).1; have := HZ2.out; omega)⟩, by simp only [intOf]; omega⟩
      | false =>
        cases h2 : startOf cs j with
        | true =>
          rw [h1, h2, if_neg (by simp), if_pos rfl] at HA
          rw [h2] at hlook
          clear h1 h2
          gi_wp2_with (gi_at_builtin; obtain ⟨i0, hi, hz0, hz1, hz2⟩ := info_parts Tryz.infoFault; go_loud (refine wpListIn_append_own_at _ rfl (.tmp 64) (.tmp 67) 36 rfl (D + 1) 47 i0 _ 3 24 Tryz.underlyingFaults hi hz0 hz1 hz2 rfl (by omega) v (faultsS st cs j).length (flatE (faultsS st cs j)) rfl (HX3.out.2.alloc _) ⟨w3.heap.size, 0, none⟩ 1 1 [.int .i64 (j : Nat), .int .i64 0, .int .i64 3] rfl rfl (World.news_of_block (World.alloc_heap_new w3 _)) (by intro u hu; simp at hu; rcases hu with rfl | rfl | rfl <;> rfl) (by unfold maxLen; omega) (by omega) (by simp; omega) ?_); intro v5 w5 hown5 hgrow5 _ _; obtain ⟨a5, cp5, rfl⟩ := owns_slice hown5; have H5 : Seal _ := ⟨HX3.out.put (e := (j, 0, 3)) (by omega) hown5 rfl hgrow5⟩; have KA : Keep (fun b => v.ownBlock = some b) w3 w5 := ((Keep.refl Nope w3).alloc _ |>.of_not _).grown hgrow5 (fun k e _ => e); have r5 := KA.at_ HX3.out.1 HNv.out; have c5 := cell_of_one r5; have f5 := free_of_one r5; clear hi hz0 hz1 hz2 hown5 hgrow5 KA r5)
          exact ⟨⟨j + 1, by omega, by go_num, _, by rw [HA.out]; exact H5.out.1, HK3.out.trans H5.out.2 (fun i hi h => by rcases h with h | h; exact h; have := (ownsRow_block HX3.out.2 h).1; have := HZ2.out; omega)⟩, by simp only [intOf]; omega⟩
        | false =>
          rw [h1, h2, if_neg (by simp), if_neg (by simp), List.append_nil] at HA
          rw [h2] at hlook
          clear h1 h2 c3 f3
          gi_wp2_with fail
          exact ⟨⟨j + 1, by omega, by go_num, _, by rw [HA.out]; exact HX3.out, HK3.out⟩, by simp only [intOf]; omega⟩
    · have hjl' : ¬ (j : Int) < (E : Int) := by omega
      obtain rfl : j = E := by omega
      obtain ⟨va, vc, rfl⟩ := owns_slice hx.2
      have lD := lt_of_heap hx.1
      obtain ⟨e0, e1, e2, e3, e4⟩ := cells5g Gr.1
      have HGr : Seal _ := ⟨Gr⟩
      have HLn : Seal (∀ W', Keep Nope wr W' → _) := ⟨fun W' kk => ALen_at P.a P.q P.n W W' ((HSp.out.keepN HK2.out).keep hkk (fun i hi h => by have := lall i hi; omega) |>.keepN kk).ar⟩
      have hPn : (P.n : Int) / 2 = (H : Int) := by have := HH'.out; omega
      have hwH : IntKind.i64.wrap (H : Int) = (H : Int) := by rw [IntKind.wrap_i64]; omega
      clear Gr hkk e0 e1 e2 e3
      gi_wp2_with fail
      refine wpIn_only ?_
      refine wpIn_wide.2 ?_
      refine wp_region_held_drew (S := fun w' => w'.cell? ⟨B + 1, 4, none⟩ = some (.int .i64 (j : Nat))) (by kernel_rfl) ?_ (fun hHeld => ?_)
      · (try dsimp only); (exact e4)
      refine tko 0 ?_; refine tko 1 ?_; refine tko 2 ?_; refine tko 3 ?_; refine tko 4 ?_
      try simp only [Act.put, List.setIfInBounds_toArray, List.set_cons_zero, List.set_cons_succ]
      refine wpAnyH_ready (rs := [5]) (by kernel_rfl) (by simp) ?_
      refine ready_held rfl (fun K hK => ?_)
      go_simp
      go_at_call 50
      (with_reducible refine (HLn.out _ (Keep.refl _ _).drew).mono ?_)
      rintro e w9 ⟨rfl, rfl⟩
      refine hK _ _ ?_ (fun hHeld => ?_)
      · (try dsimp only); (exact hHeld)
      clear hK K
      try simp only [Act.put, List.setIfInBounds_toArray, List.set_cons_zero, List.set_cons_succ]
      refine tko 6 ?_; refine tko 7 ?_
      try simp only [Act.put, List.setIfInBounds_toArray, List.set_cons_zero, List.set_cons_succ]
      refine wpAnyH_done (by kernel_rfl) ?_ _
      obtain ⟨wd, hwd⟩ : ∃ wd, wd = wr.drew := ⟨_, rfl⟩
      rw [← hwd]
      have kd : Keep Nope wr wd := by rw [hwd]; exact (Keep.refl _ wr).drew
      clear hwd
      have HX9 : Seal _ := ⟨hx.keep kd (fun h => h) (fun _ _ _ h => h)⟩
      have HK9 : Seal _ := ⟨HKK.out.trans kd (fun _ _ h => h.elim)⟩
      have HG9 : Seal _ := ⟨HGr.out.keep kd (fun h => h) (fun h => h) (fun _ _ h => h)⟩
      replace e4 := kd.cell e4 (fun h => h)
      have lDd : D < wd.heap.size := by have := kd.size; omega
      clear hwH hPn
      have hfl := faultsS_len st cs j
      clear hx HKK HGr kd HLn
      gi_upto_if 77 with fail
      gi_cut [] from 77 (fun wx => ∃ v, BoxE wx D (D + 1) v (faultsS st cs j ++ faultsE H j) ∧ Keep (fun k => k = D) w2 wx)
      case first =>
        by_cases hEH : j < H
        · have d7 : decide (j < H) = true := decide_eq_true hEH
          have HFe : Seal (faultsS st cs j ++ faultsE H j = faultsS st cs j ++ [(j, 0, 7)]) := ⟨by rw [faultsE, if_pos hEH]⟩
          gi_wp2_with fail
          refine wpIn_only ?_
          refine wpIn_wide.2 ?_
          refine wp_region_held_drew (S := fun w' => w'.cell? ⟨B + 1, 4, none⟩ = some (.int .i64 (j : Nat))) (by kernel_rfl) ?_ (fun hHeld => ?_)
          · (try dsimp only); (exact e4)
          refine tko 1 ?_; refine tko 2 ?_; refine tko 3 ?_; refine tko 4 ?_; refine tko 5 ?_
          try simp only [Act.put, List.setIfInBounds_toArray, List.set_cons_zero, List.set_cons_succ]
          refine wpAnyH_ready (rs := [0, 6]) (by kernel_rfl) (by simp) ?_
          refine readyc_held rfl (fun K hK => ?_) (ready_held rfl (fun K hK => ?_))
          · have c0 := cell_of_one HX9.out.1
            go_simp
            refine hK _ _ ?_ (fun hHeld => ?_)
            · (try dsimp only); (exact hHeld)
            clear hK K
            try simp only [Act.put, List.setIfInBounds_toArray, List.set_cons_zero, List.set_cons_succ]
            refine wpAnyH_ready (rs := [6]) (by kernel_rfl) (by simp) ?_
            refine ready_held rfl (fun K hK => ?_)
            go_simp
            refine hK _ _ ?_ (fun hHeld => ?_)
            · (try dsimp only); (exact ((Keep.refl Nope wd).alloc _).drew.cell e4 (fun h => h))
            clear hK K
            try simp only [Act.put, List.setIfInBounds_toArray, List.set_cons_zero, List.set_cons_succ]
            obtain ⟨w6, hw6⟩ : ∃ w6, w6 = (wd.alloc (.cells #[.int .i64 (j : Nat), .int .i64 0, .int .i64 7] 47)).drew := ⟨_, rfl⟩
            have k6 : Keep Nope wd w6 := by rw [hw6]; exact ((Keep.refl _ wd).alloc _).drew
            have bn : w6.heap[wd.heap.size]? = some (.cells #[.int .i64 (j : Nat), .int .i64 0, .int .i64 7] 47 (0, 0)) := by rw [hw6]; exact World.alloc_heap_new wd _
            rw [← hw6]
            clear hw6
            have X6 := HX9.out.keep k6 (fun h => h) (fun _ _ _ h => h)
            have z6 := k6.size
            obtain ⟨i0, hi, hz0, hz1, hz2⟩ := info_parts Tryz.infoFault
            refine wpAnyH_ready (rs := [7]) (by kernel_rfl) (by simp) ?_
            refine ready_held rfl (fun K hK => ?_)
            refine step_append_row rfl rfl (.tmp 78) (.tmp 84) 36 rfl (D + 1) 47 i0 _ 3 24 Tryz.underlyingFaults hi hz0 hz1 hz2 rfl (by omega) (.slice va _ vc) (faultsS st cs j).length (flatE (faultsS st cs j)) rfl X6.2 ⟨wd.heap.size, 0, none⟩ 1 _ [.int .i64 (j : Nat), .int .i64 0, .int .i64 7] rfl rfl (World.news_of_block bn) (by intro u hu; simp at hu; rcases hu with rfl | rfl | rfl <;> rfl) (by unfold maxLen; omega) (by omega) (by omega) ?_
            intro nv w7 hown7 hgrow hblk
            obtain ⟨na, nc, rfl⟩ := owns_slice hown7
            clear hi hz0 hz1 hz2
            have H7 := X6.put' (e := (j, 0, 7)) (by omega) hown7 rfl hgrow
            have KA : Keep (fun b => (Value.slice va (faultsS st cs j).length vc).ownBlock = some b) w6 w7 := (Keep.refl _ w6).grown hgrow (fun k e _ => e)
            have hnD : ¬ (Value.slice va (faultsS st cs j).length vc).ownBlock = some D := fun h => by have := ownsRow_block X6.2 h; omega
            have b7 := KA.at_ X6.1 hnD
            have c7 := cell_of_one b7
            have f7 := free_of_one b7
            have hb1 : ¬ (Value.slice va (faultsS st cs j).length vc).ownBlock = some (B + 1) := fun h => by have := ownsRow_block X6.2 h; omega
            have e47 := KA.cell (k6.cell e4 (fun h => h)) hb1
            refine hK _ _ ?_ (fun hHeld => ?_)
            · (try dsimp only); (exact e47)
            clear hK K
            try simp only [Act.put, List.setIfInBounds_toArray, List.set_cons_zero, List.set_cons_succ]
            refine wpAnyH_ready (rs := [8]) (by kernel_rfl) (by simp) ?_
            refine ready_held rfl (fun K hK => ?_)
            go_simp
            refine hK _ _ ?_ (fun hHeld => ?_)
            · (try dsimp only); (exact ((Keep.refl (fun k => k = D) w7).setCell (fun _ => rfl) _).cell e47 (by intro h; have h' : B + 1 = D := h; omega))
            clear hK K
            try simp only [Act.put, List.setIfInBounds_toArray, List.set_cons_zero, List.set_cons_succ]
            refine wpAnyH_done (by kernel_rfl) ?_ _
            gi_wp2_with fail
            gi_meet
            refine ⟨_, by rw [HFe.out]; exact H7.1, ((HK9.out.trans k6 (fun _ _ h => h.elim)).trans H7.2 (fun i hi h => ?_))⟩
            rcases h with h | h
            · exact h
            · have := (ownsRow_block X6.2 h).1; have := HZ2.out; omega
          · go_simp
            refine hK _ _ ?_ (fun hHeld => ?_)
            · (try dsimp only); (exact ((Keep.refl Nope wd).alloc _).drew.cell e4 (fun h => h))
            clear hK K
            try simp only [Act.put, List.setIfInBounds_toArray, List.set_cons_zero, List.set_cons_succ]
            have c0 : (wd.alloc (.cells #[.int .i64 (j : Nat), .int .i64 0, .int .i64 7] 47)).drew.cell? ⟨D, 0, none⟩ = some (.slice va (faultsS st cs j).length vc) := ((Keep.refl Nope wd).alloc _).drew.cell (cell_of_one HX9.out.1) (fun h => h)
            refine wpAnyH_ready (rs := [0]) (by kernel_rfl) (by simp) ?_
            refine ready_held rfl (fun K hK => ?_)
            go_simp
            refine hK _ _ ?_ (fun hHeld => ?_)
            · (try dsimp only); (exact ((Keep.refl Nope wd).alloc _).drew.cell e4 (fun h => h))
            clear hK K
            try simp only [Act.put, List.setIfInBounds_toArray, List.set_cons_zero, List.set_cons_succ]
            clear c0
            obtain ⟨w6, hw6⟩ : ∃ w6, w6 = (wd.alloc (.cells #[.int .i64 (j : Nat), .int .i64 0, .int .i64 7] 47)).drew := ⟨_, rfl⟩
            have k6 : Keep Nope wd w6 := by rw [hw6]; exact ((Keep.refl _ wd).alloc _).drew
            have bn : w6.heap[wd.heap.size]? = some (.cells #[.int .i64 (j : Nat), .int .i64 0, .int .i64 7] 47 (0, 0)) := by rw [hw6]; exact World.alloc_heap_new wd _
            rw [← hw6]
            clear hw6
            have X6 := HX9.out.keep k6 (fun h => h) (fun _ _ _ h => h)
            have z6 := k6.size
            obtain ⟨i0, hi, hz0, hz1, hz2⟩ := info_parts Tryz.infoFault
            refine wpAnyH_ready (rs := [7]) (by kernel_rfl) (by simp) ?_
            refine ready_held rfl (fun K hK => ?_)
            refine step_append_row rfl rfl (.tmp 78) (.tmp 84) 36 rfl (D + 1) 47 i0 _ 3 24 Tryz.underlyingFaults hi hz0 hz1 hz2 rfl (by omega) (.slice va _ vc) (faultsS st cs j).length (flatE (faultsS st cs j)) rfl X6.2 ⟨wd.heap.size, 0, none⟩ 1 _ [.int .i64 (j : Nat), .int .i64 0, .int .i64 7] rfl rfl (World.news_of_block bn) (by intro u hu; simp at hu; rcases hu with rfl | rfl | rfl <;> rfl) (by unfold maxLen; omega) (by omega) (by omega) ?_
            intro nv w7 hown7 hgrow hblk
            obtain ⟨na, nc, rfl⟩ := owns_slice hown7
            clear hi hz0 hz1 hz2
            have H7 := X6.put' (e := (j, 0, 7)) (by omega) hown7 rfl hgrow
            have KA : Keep (fun b => (Value.slice va (faultsS st cs j).length vc).ownBlock = some b) w6 w7 := (Keep.refl _ w6).grown hgrow (fun k e _ => e)
            have hnD : ¬ (Value.slice va (faultsS st cs j).length vc).ownBlock = some D := fun h => by have := ownsRow_block X6.2 h; omega
            have b7 := KA.at_ X6.1 hnD
            have c7 := cell_of_one b7
            have f7 := free_of_one b7
            have hb1 : ¬ (Value.slice va (faultsS st cs j).length vc).ownBlock = some (B + 1) := fun h => by have := ownsRow_block X6.2 h; omega
            have e47 := KA.cell (k6.cell e4 (fun h => h)) hb1
            refine hK _ _ ?_ (fun hHeld => ?_)
            · (try dsimp only); (exact e47)
            clear hK K
            try simp only [Act.put, List.setIfInBounds_toArray, List.set_cons_zero, List.set_cons_succ]
            refine wpAnyH_ready (rs := [8]) (by kernel_rfl) (by simp) ?_
            refine ready_held rfl (fun K hK => ?_)
            go_simp
            refine hK _ _ ?_ (fun hHeld => ?_)
            · (try dsimp only); (exact ((Keep.refl (fun k => k = D) w7).setCell (fun _ => rfl) _).cell e47 (by intro h; have h' : B + 1 = D := h; omega))
            clear hK K
            try simp only [Act.put, List.setIfInBounds_toArray, List.set_cons_zero, List.set_cons_succ]
            refine wpAnyH_done (by kernel_rfl) ?_ _
            gi_wp2_with fail
            gi_meet
            refine ⟨_, by rw [HFe.out]; exact H7.1, ((HK9.out.trans k6 (fun _ _ h => h.elim)).trans H7.2 (fun i hi h => ?_))⟩
            rcases h with h | h
            · exact h
            · have := (ownsRow_block X6.2 h).1; have := HZ2.out; omega
        · have d7 : decide (j < H) = false := decide_eq_false hEH
          have HFe : Seal (faultsS st cs j ++ faultsE H j = faultsS st cs j) := ⟨by rw [faultsE, if_neg hEH, List.append_nil]⟩
          gi_wp2_with fail
          gi_meet
          exact ⟨_, by rw [HFe.out]; exact HX9.out, HK9.out⟩
      case rest =>
        obtain ⟨v0, hx0, hk0⟩ := hcut
        have G0 := HG2.out.keep hk0 (by omega) (by omega) (fun b hb h => by have := lov b hb; omega)
        have HK0 : Seal _ := ⟨HK2.out.of_not (fun k => k = D) |>.trans hk0 (fun _ _ h => h)⟩
        obtain ⟨F0, hF0⟩ : ∃ F, faultsS st cs j ++ faultsE H j = F := ⟨_, rfl⟩
        have hFl : F0.length ≤ 65537 := by
          rw [← hF0, List.length_append]
          have : (faultsE H j).length ≤ 1 := by unfold faultsE; split <;> simp
          omega
        rw [hF0] at hx0
        have HF0 : Seal _ := ⟨hF0⟩
        have lDc := lt_of_heap hx0.1
        have hv0 : ∀ b, v0.ownBlock = some b → D + 1 ≤ b ∧ b < wc.heap.size := fun b hb => ownsRow_block hx0.2 hb
        clear hF0 HX9 HK9 HG9 e4 lDd hk0 hjl' hjl hj HX HG1 HX2 HBt
        gi_wp2_with fail
        refine ⟨trivial, rfl, ?_⟩
        refine (callsIn_wide.2 (grefs_fn (B + 1) wc)).mono ?_
        rintro e wl ⟨rfl, hwl⟩
        have hzl : wl.heap.size = wc.heap.size + 1 := by rw [← hwl]; simp
        have kl : Keep Nope wc wl := by rw [← hwl]; exact (Keep.refl _ wc).alloc _
        have gbx : wl.heap[wc.heap.size]? = some (.cells #[.pointer (some ⟨B + 1, 0, none⟩)] 106 (0, 0)) := by rw [← hwl]; exact World.alloc_heap_new wc _
        clear hwl
        have XL := hx0.keep kl (fun h => h) (fun _ _ _ h => h)
        have GL := G0.keep kl (fun h => h) (fun h => h) (fun _ _ h => h)
        have HKL : Seal (Keep (fun k => k = D) w wl) := ⟨HK0.out.trans kl (fun _ _ h => h.elim)⟩
        have SL := HSp.out.keep HKL.out (fun i hi h => by have := lall i hi; omega)
        obtain ⟨C, hC⟩ : ∃ C, wc.heap.size = C := ⟨_, rfl⟩
        rw [hC] at gbx hzl hv0 lDc
        have HXL : Seal _ := ⟨XL⟩
        clear G0 hx0 kl XL
        gi_wp2_with fail
        try rw [hC]
        clear hC
        refine wpIn_range4 (n := 0) (gf := 87) (lb := #[.pointer (some ⟨C, 0, none⟩)]) rfl (enters_of Tryz.func87 (by kernel_rfl) rfl)
          (grefs_iter4 P W f cs j C (B + 1) B B ov wl SL HCs.out hms GL gbx (R := fun i => i = D ∨ v0.ownBlock = some i) (fun i hi => by
            rcases hi with hi | hi
            · subst hi
              exact ⟨by omega, by omega, by omega, by omega, fun h => by have := lov _ h; omega, fun h => by have := lall _ h; omega⟩
            · have := hv0 i hi
              exact ⟨by omega, by omega, by omega, by omega, fun h => by have := lov _ h; omega, fun h => by have := lall _ h; omega⟩)) (fun i hi => hi.elim) (fun i hi => by
            rcases hi with hi | hi
            · omega
            · have := hv0 i hi
              omega)
          (X := fun _ => False) (fun i hi => hi.elim) (fun _ => rfl)
          (fun pre S W' => FltI cs D (D + 1) v0 F0 wl pre S W') (fun c pre W' => False) (fun i => i = D ∨ v0.ownBlock = some i) ?hS ?hI ?hIx ?h0 ?hround ?hdone ?hstop
        case hS =>
          rintro pre S A ⟨v, a1, rfl, a3, a4⟩ i hi
          rcases hi with hi | hi
          · exact ⟨.inl (.inl hi), by have := lt_of_heap a1.1; omega⟩
          · have h2 := ownsRow_block a1.2 hi
            rcases a4 i hi with h | h
            · exact ⟨.inl (.inr h), h2.2⟩
            · exact ⟨.inr h, h2.2⟩
        case hI =>
          rintro pre S A A' ⟨v, a1, a2, a3, a4⟩ hk
          have nD : ∀ k, (Nope k ∨ k = wl.heap.size ∨ k = wl.heap.size + 1) → ¬ k = D := fun k h => by rcases h with h | h | h; exact h.elim; omega; omega
          refine ⟨v, ⟨hk.at_ a1.1 (fun h => nD _ h rfl), ownsRow_keep a1.2 hk (fun b hb h => ?_)⟩, a2, a3.trans hk (fun b hb h => by rcases h with h | h | h; exact h.elim; omega; omega), a4⟩
          rcases a4 b hb with h' | h'
          · have := hv0 b h'
            rcases h with h | h | h
            · exact h
            · omega
            · omega
          · rcases h with h | h | h
            · exact h
            · omega
            · omega
        case hIx => exact fun c pre A B h hk => h
        case h0 => exact ⟨v0, by rw [show faultsR cs [] = [] from rfl, List.append_nil]; exact HXL.out, rfl, Keep.refl _ _, fun b hb => .inl hb⟩
        case hround =>
          rintro pre S x rest W' hx ⟨v, a1, a2, a3, a4⟩ hs
          have hpl : pre.length + 1 ≤ 2147483648 := by
            have : (refsW P.ts W (objsOf cs)).length = pre.length + (rest.length + 1) := by rw [hx]; simp
            omega
          have hel : (F0 ++ faultsR cs pre).length ≤ 65537 + pre.length := by have := faultsR_len cs pre; rw [List.length_append]; omega
          obtain ⟨xg, xs, y⟩ := x
          obtain ⟨z, hz⟩ : ∃ z, tgt cs y = z := ⟨_, rfl⟩
          have HAd : Seal (F0 ++ faultsR cs (pre ++ [(xg, xs, y)]) = (F0 ++ faultsR cs pre) ++ (if ¬ y = 0 ∧ z < 0 then [(xg, xs, 8)] else [])) := ⟨by rw [faultsR_add, faultR, hz, List.append_assoc]⟩
          obtain ⟨F1, hF1⟩ : ∃ F, F0 ++ faultsR cs pre = F := ⟨_, rfl⟩
          rw [hF1] at a1 hel HAd
          unfold edgeV
          dsimp only
          rw [hz]
          clear hz hx gbx GL hF1
          gi_wp2_with fail
          refine ⟨((Keep.refl Nope W').alloc _).of_not _, ?_⟩
          intro W2 hc2 hf2 hk2 hs2 hr2
          have kW : Keep Nope W' (W'.alloc (.cells #[.int .i64 (xg : Nat), .int .i64 (xs : Nat), .int .i64 z] 81)) := (Keep.refl _ W').alloc _
          have lW := lt_of_heap a1.1
          have own1 : BoxE W2 D (D + 1) v F1 := ⟨hk2.at_ (kW.at_ a1.1 (fun h => h)) (by omega), ownsRow_keep (ownsRow_keep a1.2 kW (fun _ _ h => h)) hk2 (fun b hb h => by
            rcases a4 b hb with h' | h'
            · have := hv0 b h'; omega
            · omega)⟩
          have rc := hk2.at_ (World.alloc_heap_new W' (.cells #[.int .i64 (xg : Nat), .int .i64 (xs : Nat), .int .i64 z] 81)) (by omega)
          have c0 := cell_of_one own1.1
          have fr0 := free_of_one own1.1
          obtain ⟨d0, d1, d2⟩ := cells3 rc
          have HOW : Seal _ := ⟨own1⟩
          have HK2x : Seal (Keep (fun k => k = wl.heap.size + 1) W' W2) := ⟨(kW.of_not _).trans hk2 (fun b hb h => h)⟩
          have HA3 : Seal _ := ⟨a3⟩
          have HA4 : Seal _ := ⟨a4⟩
          have zW2 : W2.heap.size = W'.heap.size + 1 := by rw [hs2]; simp
          have lrW2 : D < W2.heap.size := by omega
          have HNW : Seal (¬ v.ownBlock = some D) := ⟨fun e => by have := ownsRow_block own1.2 e; omega⟩
          have HS3 : Seal _ := ⟨a2⟩
          have hs3 : wl.heap.size + 2 ≤ W2.heap.size := by omega
          have lc : W'.heap.size < W2.heap.size := by omega
          have hbase : D + 1 ≤ W2.heap.size := by omega
          clear own1 a1 a2 a3 a4 hc2 hf2 hk2 hs2 rc kW hr2 zW2
          by_cases hcond : ¬ y = 0 ∧ z < 0
          · have p0 : ((y : Int) != 0) = true := by rw [bne_iff_ne]; omega
            have p1 : decide (z < 0) = true := decide_eq_true hcond.2
            rw [if_pos hcond] at HAd
            clear hcond
            gi_wp2_with (gi_at_builtin; obtain ⟨i0, hi, hz0, hz1, hz2⟩ := info_parts Tryz.infoFault; go_loud (refine wpListIn_append_own_at _ rfl (.tmp 97) (.tmp 103) 36 rfl (D + 1) 47 i0 _ 3 24 Tryz.underlyingFaults hi hz0 hz1 hz2 rfl (by omega) v F1.length (flatE F1) rfl (HOW.out.2.alloc _) ⟨W2.heap.size, 0, none⟩ 1 1 [.int .i64 (xg : Nat), .int .i64 (xs : Nat), .int .i64 8] rfl rfl (World.news_of_block (World.alloc_heap_new W2 _)) (by intro u hu; simp at hu; rcases hu with rfl | rfl | rfl <;> rfl) (by unfold maxLen; omega) (by omega) (by simp; omega) ?_); intro v5 w5 hown5 hgrow5 _ hat; obtain ⟨a5, cp5, rfl⟩ := owns_slice hown5; have H5 : Seal _ := ⟨HOW.out.put (e := (xg, xs, 8)) (by omega) hown5 rfl hgrow5⟩; have KA : Keep (fun b => v.ownBlock = some b) W2 w5 := ((Keep.refl Nope W2).alloc _ |>.of_not _).grown hgrow5 (fun k e _ => e); have r5 := KA.at_ HOW.out.1 HNW.out; have c5 := cell_of_one r5; have f5 := free_of_one r5; have HAt : Seal _ := ⟨hat⟩; clear hi hz0 hz1 hz2 hown5 hgrow5 KA r5 hat)
            have hat : ∀ b, (Value.slice a5 (F1.length + 1) cp5).ownBlock = some b → v.ownBlock = some b ∨ W2.heap.size ≤ b := fun b hb => by
              rcases HAt.out with h | h
              · exact .inl (by rw [← h]; exact hb)
              · right
                rw [hb] at h
                injection h with h
                rw [h]
                simp
            refine ⟨H5.out.2.mono fun b hb h => by rw [HS3.out]; exact h, _, ⟨_, by rw [HAd.out]; exact H5.out.1, rfl, ?_, ?_⟩, ?_⟩
            · refine (HA3.out.trans HK2x.out (fun b hb h => by omega)).trans H5.out.2 (fun b hb h => ?_)
              rcases h with h | h
              · exact .inl h
              · rcases HA4.out b h with h' | h'
                · exact .inr h'
                · omega
            · intro b hb
              rcases hat b hb with h | h
              · exact HA4.out b h
              · exact .inr (by omega)
            · rintro i (hi' | hi')
              · exact .inl (by rw [HS3.out]; exact .inl hi')
              · rcases hat i hi' with h | h
                · exact .inl (by rw [HS3.out]; exact .inr h)
                · exact .inr h
          · rw [if_neg hcond, List.append_nil] at HAd
            have fin : FltI cs D (D + 1) v0 F0 wl (pre ++ [(xg, xs, y)]) S W2 := ⟨v, by rw [HAd.out]; exact HOW.out, HS3.out, HA3.out.trans HK2x.out (fun b hb h => by omega), HA4.out⟩
            have HFin : Seal _ := ⟨fin⟩
            clear fin
            by_cases hy0 : y = 0
            · have p0 : ((y : Int) != 0) = false := by rw [hy0]; rfl
              clear hcond hy0
              gi_wp2_with fail
              exact ⟨Keep.refl _ W2, S, HFin.out, fun i hi => .inl hi⟩
            · have p0 : ((y : Int) != 0) = true := by rw [bne_iff_ne]; omega
              have p1 : decide (z < 0) = false := decide_eq_false (fun h => hcond ⟨hy0, h⟩)
              clear hcond hy0
              gi_wp2_with fail
              exact ⟨Keep.refl _ W2, S, HFin.out, fun i hi => .inl hi⟩
        case hdone =>
          rintro S W' ⟨v, a1, a2, a3, a4⟩ hs hD'
          obtain ⟨va', vc', rfl⟩ := owns_slice a1.2
          have c0 := cell_of_one a1.1
          have HA1 : Seal _ := ⟨a1⟩
          have HA3 : Seal _ := ⟨a3⟩
          have HA4 : Seal _ := ⟨a4⟩
          have HDd : Seal _ := ⟨hD'⟩
          clear a1 a2 a3 a4 hD' gbx GL
          gi_wp2_with fail
          refine ⟨by simp, .inl ⟨_, _, rfl, run_takeDeferred HDd.out, ?_⟩⟩
          have kE : Keep (fun b => b = wl.heap.size) W' (W'.putObj wl.heap.size (.deferred none)) := (Keep.refl (fun b => b = wl.heap.size) W').putObj (fun _ => rfl) _
          refine ⟨.tuple #[.slice va' (F0 ++ faultsR cs (refsW P.ts W (objsOf cs))).length vc', .int .i64 0], by simp [results, Tryz.results11, go_sem], _, rfl, ?_, ?_⟩
          · unfold faultsL
            rw [HF0.out]
            refine ownsRow_less5 (ownsRow_keep HA1.out.2 kE (fun b hb h => ?_)) (by omega)
            rcases HA4.out b hb with h' | h'
            · have := hv0 b h'; omega
            · omega
          · refine (HKL.out.trans (HA3.out.trans kE (fun b hb h => by omega)) (fun b hb h => ?_)).mono (fun b hb h => by omega)
            rcases h with h | h
            · exact h
            · have := hv0 b h; omega
        case hstop => exact fun c pre W' hp h => h.elim

end Go.Proofs.YtllpibknkajfnaaGreatDoor
