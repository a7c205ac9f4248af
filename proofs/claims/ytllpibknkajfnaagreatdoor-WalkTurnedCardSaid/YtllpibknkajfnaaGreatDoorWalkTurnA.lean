/-
  A space's cells, where the words have some only up to a place (Cells).
-/
import Derived.Test.YtllpibknkajfnaaGreatDoorWalkCheck
import Derived.Test.YtllpibknkajfnaaGreatDoorRowsA
namespace Go.Proofs.YtllpibknkajfnaaGreatDoor
open Go.RowKit
set_option linter.unusedVariables false
attribute [local go_sem] Oper.semAt_some

set_option maxRecDepth 20000 in
set_option maxHeartbeats 16000000 in
theorem scells_iter3 (P : Sp) (W0 : Nat → Nat) (f : Nat → Bool) (cs : List Cel) (E : Nat) (w : World) (box : Nat) (h : SpaceAt w P W0 f) (hc : CellsTo P W0 cs E) (hb : w.heap[box]? = some (.cells #[.pointer (some ⟨P.s, 0, none⟩)] 27 (0, 0)))
    {R : Nat → Prop} (hR : ∀ k, R k → k < w.heap.size ∧ ¬ k = box ∧ ¬ P.all k) :
    IterAt3 Tryz.prog 95 #[.pointer (some ⟨box, 0, none⟩)] (fun c => #[cellV c]) cs Nope R w := by
  intro l J Jx S0 W hW hl1 hl2 hS hJ hJx hY h0
  have SW := h.keepN hW
  have bW := hW.at_ hb (fun h => h)
  have lb := lt_of_heap hb
  have lall := h.lt
  have hn := h.ar.small
  obtain ⟨H, hH⟩ : ∃ H, P.n / 2 = H := ⟨_, rfl⟩
  have tl := hc.tl
  have hEl := hc.le
  have HStop : Seal (∀ w', SpaceAt w' P W0 f → E < H → _) := ⟨fun w' h' hlt => stop_at P W0 f E w' h' (by omega) (hc.stop.resolve_left (by omega))⟩
  have HG : Seal (∀ w', SpaceAt w' P W0 f → Calls Tryz.prog 16 #[.pointer (some ⟨P.s, 0, none⟩)] w' fun e w'' => e = .returned (.int .i64 (H : Nat)) ∧ w'' = w') := ⟨fun w' h' => by rw [← hH]; exact Gran_at P W0 f w' h'⟩
  have HHd : Seal (∀ w', SpaceAt w' P W0 f → ∀ c ∈ cs, c.g < H → Calls Tryz.prog 68 #[.pointer (some ⟨P.a, 0, none⟩), .int .i64 (c.g : Nat)] w' fun e w'' => e = .returned (.tuple #[headV (c.tag : Nat) (c.ty : Nat) (c.ln : Nat) (c.sz : Nat), .int .i64 0]) ∧ Keep Nope w' w'') :=
    ⟨fun w' h' c hm hg => SHead_cell c P W0 f w' h' (by omega) (hc.hd c hm) (hc.ok c hm)⟩
  have HFt : Seal (∀ w', SpaceAt w' P W0 f → ∀ c ∈ cs, Calls Tryz.prog 70 #[.pointer (some ⟨P.t, 0, none⟩), headV (c.tag : Nat) (c.ty : Nat) (c.ln : Nat) (c.sz : Nat)] w' fun e w'' => e = .returned (.int .i64 0) ∧ Keep Nope w' w'') :=
    ⟨fun w' h' c hm => Fits_cell c P W0 f w' h' (hc.ok c hm)⟩
  rw [hH] at hEl HStop
  have hH2 : H ≤ 32768 := by omega
  clear hH hc hn
  refine (callsIn_wide (n := 0)).1 ?_
  refine callsIn_of_wp Tryz.func95 rfl trivial ?_
  simp only [Tryz.ntmps95, List.size_toArray, List.length_cons, List.length_nil, Nat.reduceAdd, Nat.reduceSub, Array.replicate_succ, Array.replicate_zero, List.push_toArray, List.append_toArray, List.nil_append, List.cons_append]
  gi_wp2
  gi_loopw [3, 4, 5] (fun v3 v4 v5 wr => ∃ (pre rest : List Cel) (g : Nat) (S : Nat → Prop), v3 = .int .i64 (g : Nat) ∧ cs = pre ++ rest ∧ Tiles g rest E ∧ J pre S wr ∧ Keep (fun k => R k ∨ k = l) W wr)
    (fun v3 v4 v5 wr => H - (intOf v3).toNat)
  case atStart => exact ⟨[], cs, 0, S0, rfl, rfl, tl, h0, Keep.refl _ _⟩
  case round =>
    obtain ⟨pre, rest, g, S, rfl, hcs, ht, hj, kr⟩ := hrel
    have Sr : SpaceAt wr P W0 f := SW.keep kr (fun i hi hs => by
      have := lall i hi
      rcases hs with hs | hs
      · exact (hR i hs).2.2 hi
      · omega)
    have br : wr.heap[box]? = some (.cells #[.pointer (some ⟨P.s, 0, none⟩)] 27 (0, 0)) := kr.at_ bW (fun hs => by
      rcases hs with hs | hs
      · exact (hR box hs).2.1 rfl
      · omega)
    have cb := cell_of_one br
    have HS : Seal _ := ⟨Sr⟩
    have CG : Seal _ := ⟨HG.out wr Sr⟩
    cases rest with
    | nil =>
      obtain rfl : g = E := ht
      by_cases hgH : g = H
      · subst hgH
        gi_wp2_with fail
        refine ⟨trivial, rfl, ?_⟩
        refine (callsIn_wide.2 CG.out).mono ?_
        rintro e w' ⟨rfl, rfl⟩
        gi_wp2_with fail
        go_end0
        exact ⟨⟨_, rfl⟩, .inl ⟨S, by rw [hcs, List.append_nil]; exact hj⟩⟩
      · have hg1 : (g : Int) < (H : Int) := by omega
        have HJ : Seal _ := ⟨And.intro hj hcs⟩
        have HEnd : Seal (∀ B, Keep Nope wr B → ∃ S, J cs S B) := ⟨fun B kk => ⟨S, by rw [HJ.out.2, List.append_nil]; exact hJ _ _ _ _ HJ.out.1 kk⟩⟩
        have hd1 : ∀ sz : Nat, H - g < sz → decide ((H : Int) - (g : Int) < (sz : Int)) = true := fun sz h => decide_eq_true (by omega)
        have hwr : IntKind.i64.wrap ((H : Int) - (g : Int)) = (H : Int) - (g : Int) := by rw [IntKind.wrap_i64]; omega
        have HSt := HStop.out wr Sr (by omega)
        obtain ⟨s0, s1, s2⟩ := Sr.head
        clear hj hcs hgH
        rcases HSt with HN | ⟨tag, ty, ln, sz, HN, HF⟩
        · have CHd : Seal _ := ⟨HN⟩
          clear HN
          gi_wp2_with fail
          refine ⟨trivial, rfl, ?_⟩
          refine (callsIn_wide.2 CG.out).mono ?_
          rintro e w' ⟨rfl, rfl⟩
          gi_wp2_with fail
          refine ⟨trivial, rfl, ?_⟩
          refine (callsIn_wide.2 CHd.out).mono ?_
          rintro e w1 ⟨rfl, k1⟩
          unfold headV
          have KD : ∀ o, Keep Nope w' (w1.alloc o).drew := fun o => (k1.alloc o).drew
          gi_wp2_with fail
          refine wpIn_only ?_
          refine wpIn_wide.2 ?_
          refine wp_region_held_drew (S := fun _ => True) (by kernel_rfl) ?_ (fun hHeld => ?_)
          · (try dsimp only); (first | done | trivial)
          refine tko 0 ?_; refine tko 1 ?_; refine tko 2 ?_
          try simp only [Act.put, List.setIfInBounds_toArray, List.set_cons_zero, List.set_cons_succ]
          refine sk 3 rfl ?_
          refine sk 4 rfl ?_
          refine sk 5 rfl ?_
          refine sk 6 rfl ?_
          refine sk 7 rfl ?_
          refine sk 8 rfl ?_
          refine sk 9 rfl ?_
          try simp only [Act.put, List.setIfInBounds_toArray, List.set_cons_zero, List.set_cons_succ]
          refine tko 10 ?_; refine tko 11 ?_
          try simp only [Act.put, List.setIfInBounds_toArray, List.set_cons_zero, List.set_cons_succ]
          refine sk 12 rfl ?_
          refine sk 13 rfl ?_
          refine sk 14 rfl ?_
          refine sk 15 rfl ?_
          refine sk 16 rfl ?_
          refine sk 17 rfl ?_
          refine sk 18 rfl ?_
          try simp only [Act.put, List.setIfInBounds_toArray, List.set_cons_zero, List.set_cons_succ]
          refine tko 19 ?_; refine tko 20 ?_
          try simp only [Act.put, List.setIfInBounds_toArray, List.set_cons_zero, List.set_cons_succ]
          refine sk 21 rfl ?_
          refine sk 22 rfl ?_
          refine sk 23 rfl ?_
          refine sk 24 rfl ?_
          refine sk 25 rfl ?_
          refine sk 26 rfl ?_
          try simp only [Act.put, List.setIfInBounds_toArray, List.set_cons_zero, List.set_cons_succ]
          refine tko 27 ?_
          try simp only [Act.put, List.setIfInBounds_toArray, List.set_cons_zero, List.set_cons_succ]
          refine wpAnyH_done (by kernel_rfl) ?_ _
          gi_wp2_with fail
          refine bodyPost_ret (results_none rfl _ _ _) rfl ?_
          exact ⟨⟨_, rfl⟩, .inl (HEnd.out _ (KD _))⟩
        · have CHd : Seal _ := ⟨HN⟩
          have HFF : Seal _ := ⟨HF⟩
          clear HN HF
          gi_wp2_with fail
          refine ⟨trivial, rfl, ?_⟩
          refine (callsIn_wide.2 CG.out).mono ?_
          rintro e w' ⟨rfl, rfl⟩
          gi_wp2_with fail
          refine ⟨trivial, rfl, ?_⟩
          refine (callsIn_wide.2 CHd.out).mono ?_
          rintro e w1 ⟨rfl, k1⟩
          unfold headV
          obtain ⟨w2, hw2⟩ : ∃ w2, w2 = w1.alloc (.cells #[.int .u8 (tag : Nat), .int .i64 (ty : Nat), .int .i64 (ln : Nat), .int .i64 (sz : Nat)] 60) := ⟨_, rfl⟩
          have k2 : Keep Nope w1 w2 := by rw [hw2]; exact (Keep.refl _ w1).alloc _
          have b2 : w2.heap[w1.heap.size]? = some (.cells #[.int .u8 (tag : Nat), .int .i64 (ty : Nat), .int .i64 (ln : Nat), .int .i64 (sz : Nat)] 60 (0, 0)) := by rw [hw2]; exact World.alloc_heap_new w1 _
          gi_wp2_with fail
          rw [← hw2]
          clear hw2
          have KD : Keep Nope w' w2 := k1.then' k2
          have SD := Sr.keepN KD
          have bD := KD.at_ br (fun h => h)
          obtain ⟨s0, s1, s2⟩ := SD.head
          have cb2 := cell_of_one bD
          have e0 : w2.cell? ⟨w1.heap.size, 0, none⟩ = some (.int .u8 (tag : Nat)) := by simp [World.cell?, b2]
          have e1 : w2.cell? ⟨w1.heap.size, 1, none⟩ = some (.int .i64 (ty : Nat)) := by simp [World.cell?, b2]
          have e2 : w2.cell? ⟨w1.heap.size, 2, none⟩ = some (.int .i64 (ln : Nat)) := by simp [World.cell?, b2]
          have e3 : w2.cell? ⟨w1.heap.size, 3, none⟩ = some (.int .i64 (sz : Nat)) := by simp [World.cell?, b2]
          rcases HFF.out with HF | ⟨HF, hlt⟩
          · have CFs : Seal (∀ w9, Keep Nope w' w9 → _) := ⟨HF⟩
            unfold headV at CFs
            clear HF HFF b2
            refine wpIn_only ?_
            refine wpIn_wide.2 ?_
            refine wp_region_held_drew (S := fun w' => w'.cell? ⟨box, 0, none⟩ = some (.pointer (some ⟨P.s, 0, none⟩)) ∧ w'.cell? ⟨P.s, 1, none⟩ = some (.pointer (some ⟨P.t, 0, none⟩)) ∧ w'.cell? ⟨w1.heap.size, 0, none⟩ = some (.int .u8 (tag : Nat)) ∧ w'.cell? ⟨w1.heap.size, 1, none⟩ = some (.int .i64 (ty : Nat)) ∧ w'.cell? ⟨w1.heap.size, 2, none⟩ = some (.int .i64 (ln : Nat)) ∧ w'.cell? ⟨w1.heap.size, 3, none⟩ = some (.int .i64 (sz : Nat))) (by kernel_rfl) ?_ (fun hHeld => ?_)
            · (try dsimp only); (exact ⟨cb2, s1, e0, e1, e2, e3⟩)
            refine tko 0 ?_; refine tko 1 ?_; refine tko 2 ?_; refine tko 3 ?_; refine tko 4 ?_; refine tko 5 ?_; refine tko 6 ?_; refine tko 7 ?_
            try simp only [Act.put, List.setIfInBounds_toArray, List.set_cons_zero, List.set_cons_succ]
            refine wpAnyH_ready (rs := [8]) (by kernel_rfl) (by simp) ?_
            refine ready_held rfl (fun K hK => ?_)
            go_simp
            go_at_call 70
            (with_reducible refine (CFs.out _ KD.drew).mono ?_)
            rintro e w3 ⟨rfl, k3⟩
            have K3 : Keep Nope w2 w3 := ((Keep.refl Nope w2).drew).then' k3
            refine hK _ _ ?_ (fun hHeld => ?_)
            · (try dsimp only); (exact ⟨K3.cell cb2 (fun h => h), K3.cell s1 (fun h => h), K3.cell e0 (fun h => h), K3.cell e1 (fun h => h), K3.cell e2 (fun h => h), K3.cell e3 (fun h => h)⟩)
            clear hK K
            try simp only [Act.put, List.setIfInBounds_toArray, List.set_cons_zero, List.set_cons_succ]
            refine tko 9 ?_; refine tko 10 ?_; refine tko 11 ?_
            try simp only [Act.put, List.setIfInBounds_toArray, List.set_cons_zero, List.set_cons_succ]
            refine sk 12 rfl ?_
            refine sk 13 rfl ?_
            refine sk 14 rfl ?_
            refine sk 15 rfl ?_
            refine sk 16 rfl ?_
            refine sk 17 rfl ?_
            refine sk 18 rfl ?_
            try simp only [Act.put, List.setIfInBounds_toArray, List.set_cons_zero, List.set_cons_succ]
            refine tko 19 ?_; refine tko 20 ?_
            try simp only [Act.put, List.setIfInBounds_toArray, List.set_cons_zero, List.set_cons_succ]
            refine sk 21 rfl ?_
            refine sk 22 rfl ?_
            refine sk 23 rfl ?_
            refine sk 24 rfl ?_
            refine sk 25 rfl ?_
            refine sk 26 rfl ?_
            try simp only [Act.put, List.setIfInBounds_toArray, List.set_cons_zero, List.set_cons_succ]
            refine tko 27 ?_
            try simp only [Act.put, List.setIfInBounds_toArray, List.set_cons_zero, List.set_cons_succ]
            refine wpAnyH_done (by kernel_rfl) ?_ _
            gi_wp2_with fail
            refine bodyPost_ret (results_none rfl _ _ _) rfl ?_
            exact ⟨⟨_, rfl⟩, .inl (HEnd.out _ (KD.then' K3))⟩
          · have CFs : Seal (∀ w9, Keep Nope w' w9 → _) := ⟨HF⟩
            unfold headV at CFs
            have HSD : Seal _ := ⟨SD⟩
            replace hd1 := hd1 sz hlt
            clear HF HFF b2 hlt
            refine wpIn_only ?_
            refine wpIn_wide.2 ?_
            refine wp_region_held_drew (S := fun w' => w'.cell? ⟨box, 0, none⟩ = some (.pointer (some ⟨P.s, 0, none⟩)) ∧ w'.cell? ⟨P.s, 1, none⟩ = some (.pointer (some ⟨P.t, 0, none⟩)) ∧ w'.cell? ⟨w1.heap.size, 0, none⟩ = some (.int .u8 (tag : Nat)) ∧ w'.cell? ⟨w1.heap.size, 1, none⟩ = some (.int .i64 (ty : Nat)) ∧ w'.cell? ⟨w1.heap.size, 2, none⟩ = some (.int .i64 (ln : Nat)) ∧ w'.cell? ⟨w1.heap.size, 3, none⟩ = some (.int .i64 (sz : Nat))) (by kernel_rfl) ?_ (fun hHeld => ?_)
            · (try dsimp only); (exact ⟨cb2, s1, e0, e1, e2, e3⟩)
            refine tko 0 ?_; refine tko 1 ?_; refine tko 2 ?_; refine tko 3 ?_; refine tko 4 ?_; refine tko 5 ?_; refine tko 6 ?_; refine tko 7 ?_
            try simp only [Act.put, List.setIfInBounds_toArray, List.set_cons_zero, List.set_cons_succ]
            refine wpAnyH_ready (rs := [8]) (by kernel_rfl) (by simp) ?_
            refine ready_held rfl (fun K hK => ?_)
            go_simp
            go_at_call 70
            (with_reducible refine (CFs.out _ KD.drew).mono ?_)
            rintro e w3 ⟨rfl, k3⟩
            have K3 : Keep Nope w2 w3 := ((Keep.refl Nope w2).drew).then' k3
            have CG3 : Seal _ := ⟨HG.out w3 (HSD.out.keepN K3)⟩
            refine hK _ _ ?_ (fun hHeld => ?_)
            · (try dsimp only); (exact ⟨K3.cell cb2 (fun h => h), K3.cell s1 (fun h => h), K3.cell e0 (fun h => h), K3.cell e1 (fun h => h), K3.cell e2 (fun h => h), K3.cell e3 (fun h => h)⟩)
            clear hK K
            try simp only [Act.put, List.setIfInBounds_toArray, List.set_cons_zero, List.set_cons_succ]
            refine tko 9 ?_; refine tko 10 ?_; refine tko 11 ?_; refine tko 12 ?_; refine tko 13 ?_; refine tko 14 ?_; refine tko 16 ?_
            try simp only [Act.put, List.setIfInBounds_toArray, List.set_cons_zero, List.set_cons_succ]
            refine wpAnyH_ready (rs := [15]) (by kernel_rfl) (by simp) ?_
            refine ready_held rfl (fun K hK => ?_)
            go_simp
            go_at_call 16
            (with_reducible refine CG3.out.mono ?_)
            rintro e w3 ⟨rfl, rfl⟩
            refine hK _ _ ?_ (fun hHeld => ?_)
            · (try dsimp only); (exact hHeld)
            clear hK K
            try simp only [Act.put, List.setIfInBounds_toArray, List.set_cons_zero, List.set_cons_succ]
            refine tko 17 ?_; refine tko 18 ?_; refine tko 19 ?_; refine tko 20 ?_
            try simp only [Act.put, List.setIfInBounds_toArray, List.set_cons_zero, List.set_cons_succ]
            refine sk 21 rfl ?_
            refine sk 22 rfl ?_
            refine sk 23 rfl ?_
            refine sk 24 rfl ?_
            refine sk 25 rfl ?_
            refine sk 26 rfl ?_
            try simp only [Act.put, List.setIfInBounds_toArray, List.set_cons_zero, List.set_cons_succ]
            refine tko 27 ?_
            try simp only [Act.put, List.setIfInBounds_toArray, List.set_cons_zero, List.set_cons_succ]
            refine wpAnyH_done (by kernel_rfl) ?_ _
            gi_wp2_with fail
            refine bodyPost_ret (results_none rfl _ _ _) rfl ?_
            exact ⟨⟨_, rfl⟩, .inl (HEnd.out _ (KD.then' K3))⟩
    | cons c rest =>
      obtain ⟨rfl, hcp, ht'⟩ := ht
      have hle := ht'.le
      have hmem : c ∈ cs := by rw [hcs]; simp
      have hg1 : (c.g : Int) < (H : Int) := by omega
      obtain ⟨s0, s1, s2⟩ := Sr.head
      have CHd : Seal _ := ⟨HHd.out wr Sr c hmem (by omega)⟩
      gi_wp2_with fail
      refine ⟨trivial, rfl, ?_⟩
      refine (callsIn_wide.2 CG.out).mono ?_
      rintro e w' ⟨rfl, rfl⟩
      gi_wp2_with fail
      refine ⟨trivial, rfl, ?_⟩
      refine (callsIn_wide.2 CHd.out).mono ?_
      rintro e w1 ⟨rfl, k1⟩
      unfold headV
      obtain ⟨w2, hw2⟩ : ∃ w2, w2 = w1.alloc (.cells #[.int .u8 (c.tag : Nat), .int .i64 (c.ty : Nat), .int .i64 (c.ln : Nat), .int .i64 (c.sz : Nat)] 60) := ⟨_, rfl⟩
      have k2 : Keep Nope w1 w2 := by rw [hw2]; exact (Keep.refl _ w1).alloc _
      have b2 : w2.heap[w1.heap.size]? = some (.cells #[.int .u8 (c.tag : Nat), .int .i64 (c.ty : Nat), .int .i64 (c.ln : Nat), .int .i64 (c.sz : Nat)] 60 (0, 0)) := by rw [hw2]; exact World.alloc_heap_new w1 _
      gi_wp2_with fail
      rw [← hw2]
      clear hw2
      have KD : Keep Nope w' w2.drew := (k1.then' k2).drew
      have SD := Sr.keepN KD
      have bD := KD.at_ br (fun h => h)
      have hD : w2.drew.heap[w1.heap.size]? = some (.cells #[.int .u8 (c.tag : Nat), .int .i64 (c.ty : Nat), .int .i64 (c.ln : Nat), .int .i64 (c.sz : Nat)] 60 (0, 0)) := b2
      obtain ⟨s0, s1, s2⟩ := SD.head
      have cb2 := cell_of_one bD
      have e0 : w2.drew.cell? ⟨w1.heap.size, 0, none⟩ = some (.int .u8 (c.tag : Nat)) := by simp [World.cell?, hD]
      have e1 : w2.drew.cell? ⟨w1.heap.size, 1, none⟩ = some (.int .i64 (c.ty : Nat)) := by simp [World.cell?, hD]
      have e2 : w2.drew.cell? ⟨w1.heap.size, 2, none⟩ = some (.int .i64 (c.ln : Nat)) := by simp [World.cell?, hD]
      have e3 : w2.drew.cell? ⟨w1.heap.size, 3, none⟩ = some (.int .i64 (c.sz : Nat)) := by simp [World.cell?, hD]
      have CF := HFt.out w2.drew SD c hmem
      unfold headV at CF
      have CFs : Seal _ := ⟨CF⟩
      have HSD : Seal _ := ⟨SD⟩
      have HhD : Seal _ := ⟨hD⟩
      clear CF SD hD b2 CG CHd HS
      have hd1 : decide ((H : Int) - (c.g : Int) < (c.sz : Int)) = false := decide_eq_false (by omega)
      have hwr : IntKind.i64.wrap ((H : Int) - (c.g : Int)) = (H : Int) - (c.g : Int) := by rw [IntKind.wrap_i64]; omega
      have hneR : ∀ k, S k ∨ k = l → ¬ k = w1.heap.size := by
        intro k hk
        have z1 := hW.size
        have z2 := kr.size
        have z3 := k1.size
        rcases hk with hk | hk
        · have := (hS pre S _ hj k hk).2
          omega
        · omega
      have hSR : ∀ i, i < W.heap.size → (S i ∨ i = l) → (R i ∨ i = l) := by
        intro i hi h
        rcases h with h | h
        · rcases (hS pre S _ hj i h).1 with h | h
          · exact .inl h
          · omega
        · exact .inr h
      gi_region_with (first
        | (refine ⟨trivial, rfl, ?_⟩)
        | (gi_at_call 70; refine (callsIn_wide.2 CFs.out).mono ?_; rintro e w3 ⟨rfl, k3⟩
           have S3 := HSD.out.keepN k3
           have h3 := k3.at_ HhD.out (fun h => h)
           obtain ⟨s0', s1', s2'⟩ := S3.head
           have cb3 := k3.cell cb2 (fun h => h)
           have e0' := k3.cell e0 (fun h => h)
           have e1' := k3.cell e1 (fun h => h)
           have e2' := k3.cell e2 (fun h => h)
           have e3' := k3.cell e3 (fun h => h)
           have CG3 : Seal _ := ⟨HG.out w3 S3⟩
           have J3 := hJ _ _ _ _ hj (KD.then' k3)
           have HY3 : Seal _ := ⟨hY pre S c rest w3 hcs J3⟩
           have Hh3 : Seal _ := ⟨h3⟩
           clear S3 h3 J3)
        | (gi_at_call 16; refine (callsIn_wide.2 CG3.out).mono ?_; rintro e w' ⟨rfl, rfl⟩)
        | (refine uponIn_yield3 HY3.out rfl ?_; intro b B hB))
      all_goals
        rcases hB with ⟨rfl, hk, S', hT⟩ | ⟨rfl, hE⟩
        · have hB3 := hk.at_ Hh3.out (fun hs => hneR _ hs rfl)
          have d3 : B.cell? ⟨w1.heap.size, 3, none⟩ = some (.int .i64 (c.sz : Nat)) := by simp [World.cell?, hB3]
          have KB := (kr.trans KD (fun _ _ h => h.elim)).trans k3 (fun _ _ h => h.elim)
          have KB2 := KB.trans hk hSR
          gi_wp2_with fail
          exact ⟨⟨pre ++ [c], rest, c.g + c.sz, S', by simp, by rw [hcs, List.append_assoc]; rfl, ht', hT, KB2⟩, by simp only [intOf]; omega⟩
        · gi_wp2_with fail
          refine bodyPost_ret (results_none rfl _ _ _) rfl ?_
          exact ⟨⟨_, rfl⟩, .inr ⟨_, ⟨_, by rw [hcs, List.append_assoc]; rfl⟩, hE⟩⟩

set_option maxRecDepth 20000 in
set_option maxHeartbeats 4000000 in
theorem Cells_to (P : Sp) (W : Nat → Nat) (f : Nat → Bool) (cs : List Cel) (E : Nat) (w : World) (hs : SpaceAt w P W f) (hc : CellsTo P W cs E) :
    Calls Tryz.prog 22 #[.pointer (some ⟨P.s, 0, none⟩)] w fun e w' => ∃ v, e = .returned v ∧ w'.ownsRow w.heap.size 62 5 v cs.length (flatC cs) ∧ Keep Nope w w' := by
  have HSs : Seal _ := ⟨hs⟩
  have HCs : Seal _ := ⟨hc⟩
  have lts := hs.lt P.s (by simp [Sp.all])
  have lw := hs.lt
  have hlen : cs.length ≤ 32768 := by
    have := tiles_len hc.tl
    have := hc.le
    have := hs.ar.small
    omega
  clear hs hc
  refine (callsIn_wide (n := 0)).1 ?_
  refine callsIn_of_wp_marks Tryz.func22 rfl trivial ?_
  simp only [Tryz.ntmps22, List.size_toArray, List.length_cons, List.length_nil, Nat.reduceAdd, Nat.reduceSub, Array.replicate_succ, Array.replicate_zero, List.push_toArray, List.append_toArray, List.nil_append, List.cons_append]
  gi_wp2_with fail
  refine ⟨trivial, rfl, ?_⟩
  obtain ⟨w1, hw1⟩ : ∃ w1, w1 = w.alloc (.cells #[.slice none 0 0] 52) := ⟨_, rfl⟩
  rw [← hw1]
  have k1 : Keep Nope w w1 := by rw [hw1]; exact (Keep.refl _ w).alloc _
  have z1 : w1.heap.size = w.heap.size + 1 := by rw [hw1]; simp
  have b1 : w1.heap[w.heap.size]? = some (.cells #[.slice none 0 0] 52 (0, 0)) := by rw [hw1]; exact World.alloc_heap_new w _
  clear hw1
  refine (callsIn_wide.2 (cells_fn P w1)).mono ?_
  rintro e wl ⟨rfl, hwl⟩
  have hzl : wl.heap.size = w1.heap.size + 1 := by rw [← hwl]; simp
  have kl : Keep Nope w1 wl := by rw [← hwl]; exact (Keep.refl _ w1).alloc _
  have gbx : wl.heap[w1.heap.size]? = some (.cells #[.pointer (some ⟨P.s, 0, none⟩)] 27 (0, 0)) := by rw [← hwl]; exact World.alloc_heap_new w1 _
  clear hwl
  have KL : Keep Nope w wl := k1.then' kl
  have SL := HSs.out.keepN KL
  have bl1 := kl.at_ b1 (fun h => h)
  rw [z1] at gbx hzl
  gi_wp2_with fail
  refine wpIn_range3 (n := 0) (gf := 95) (lb := #[.pointer (some ⟨w.heap.size + 1, 0, none⟩)]) rfl (enters_of Tryz.func95 (by kernel_rfl) rfl)
    (scells_iter3 P W f cs E wl (w.heap.size + 1) SL HCs.out gbx (R := fun k => k = w.heap.size) (fun k hk => by subst hk; exact ⟨by omega, by omega, fun h => by have := lw _ h; omega⟩)) (fun k hk => hk.elim) (fun k hk => by omega)
    (X := fun _ => False) (fun k hk => hk.elim) (fun _ => rfl)
    (fun pre S W' => CellsI w.heap.size wl pre S W') (fun c pre W' => False) (fun k => k = w.heap.size ∨ (Value.slice none 0 0).ownBlock = some k) ?hS ?hI ?hIx ?h0 ?hround ?hdone ?hstop
  case hS =>
    rintro pre S A ⟨v, a1, a2, rfl, a4⟩ k hk
    rcases hk with hk | hk
    · exact ⟨.inl hk, by have := lt_of_heap a1; omega⟩
    · have := ownsRow_block a2 hk
      exact ⟨.inr this.1, this.2⟩
  case hI =>
    rintro pre S A B ⟨v, a1, a2, a3, a4⟩ hk
    exact ⟨v, hk.at_ a1 (fun h => by rcases h with h | h | h; exact h; omega; omega), ownsRow_keep a2 hk (fun b hb h => by have := ownsRow_block a2 hb; rcases h with h | h | h; exact h; omega; omega), a3,
      a4.trans hk (fun b hb h => by rcases h with h | h | h; exact h.elim; omega; omega)⟩
  case hIx => exact fun c pre A B h hk => h
  case h0 => exact ⟨_, bl1, World.ownsRow_nil wl _ _ _, rfl, Keep.refl _ _⟩
  case hround =>
    rintro pre S x rest W' hx ⟨v, a1, a2, a3, a4⟩ hs
    have hpl : pre.length + 1 ≤ cs.length := by rw [hx]; simp
    unfold cellV
    gi_wp2_with fail
    refine ⟨(Keep.refl _ W').alloc _, ?_⟩
    intro W2 hc2 hf2 hk2 hs2 hr2
    have kW : Keep Nope W' (W'.alloc (.cells #[.int .i64 (x.g : Nat), .int .u8 (x.tag : Nat), .int .i64 (x.ty : Nat), .int .i64 (x.ln : Nat), .int .i64 (x.sz : Nat)] 62)) := (Keep.refl _ W').alloc _
    have bc := hk2.at_ (World.alloc_heap_new W' (.cells #[.int .i64 (x.g : Nat), .int .u8 (x.tag : Nat), .int .i64 (x.ty : Nat), .int .i64 (x.ln : Nat), .int .i64 (x.sz : Nat)] 62)) (by omega)
    have lW := lt_of_heap a1
    have zW2 : W2.heap.size = W'.heap.size + 1 := by rw [hs2]; simp
    have own1 : (W2).ownsRow (wl.heap.size + 2) 62 5 v pre.length (flatC pre) := ownsRow_keep (ownsRow_keep a2 kW (fun b hb h => h)) hk2 (fun b hb h => by have := ownsRow_block a2 hb; omega)
    have r0 := hk2.at_ (kW.at_ a1 (fun h => h)) (by omega)
    have c0 := cell_of_one r0
    have fr0 := free_of_one r0
    have d0 : W2.cell? ⟨W'.heap.size, 0, none⟩ = some (.int .i64 (x.g : Nat)) := by simp [World.cell?, bc]
    have d1 : W2.cell? ⟨W'.heap.size, 1, none⟩ = some (.int .u8 (x.tag : Nat)) := by simp [World.cell?, bc]
    have d2 : W2.cell? ⟨W'.heap.size, 2, none⟩ = some (.int .i64 (x.ty : Nat)) := by simp [World.cell?, bc]
    have d3 : W2.cell? ⟨W'.heap.size, 3, none⟩ = some (.int .i64 (x.ln : Nat)) := by simp [World.cell?, bc]
    have d4 : W2.cell? ⟨W'.heap.size, 4, none⟩ = some (.int .i64 (x.sz : Nat)) := by simp [World.cell?, bc]
    have HR0 : Seal _ := ⟨r0⟩
    have HOW : Seal _ := ⟨own1⟩
    have HA2 : Seal _ := ⟨a2⟩
    have HA4 : Seal _ := ⟨a4⟩
    have HZ2 : Seal _ := ⟨zW2⟩
    have lbW2 : W'.heap.size < W2.heap.size := by omega
    have lrW2 : w.heap.size < W2.heap.size := by omega
    obtain ⟨i0, hi, hz0, hz1, hz2⟩ := info_parts Tryz.infoCell
    have HNW : Seal (¬ v.ownBlock = some w.heap.size) := ⟨fun e => by have := ownsRow_block own1 e; omega⟩
    clear r0 own1 a2 a4 zW2 bc hs2 hc2 hf2 a1
    refine wpIn_block ?_
    refine wpIn_region_lit ?_
    refine wpListIn_of_wpList (fun _ _ h => h) _ _ _ (by kernel_rfl) ?_
    go_wp2_with (at_builtin; go_loud (refine wpList_append_lies _ rfl (.tmp 9) (.tmp 11) 52 rfl (wl.heap.size + 2) 62 i0 (.agg #[.int .i64 0, .int .u8 0, .int .i64 0, .int .i64 0, .int .i64 0]) 5 40 Tryz.underlyingCells hi hz0 hz1 hz2 rfl (by omega) v pre.length (flatC pre) rfl (Keep.owns (S := Nope) (a := W2) (by (repeat (first | assumption | exact Keep.refl _ _ | refine Keep.drew ?_ | refine Keep.alloc ?_ _ | refine Keep.setNew ?_ (by omega) _))) HOW.out (fun b hb h => h)) ⟨W2.heap.size, 0, none⟩ 1 1 [.int .i64 (x.g : Nat), .int .u8 (x.tag : Nat), .int .i64 (x.ty : Nat), .int .i64 (x.ln : Nat), .int .i64 (x.sz : Nat)] rfl rfl (World.news_of_block (World.alloc_heap_new W2 _)) (by simp [Value.oneCell']) (by omega) (by unfold maxLen; omega) (by omega) (by simp; omega) _ rfl ?_); intro g cap w3 hown hgrow hat hlt; have KA : Keep (fun b => v.ownBlock = some b) W2 w3 := ((by (repeat (first | assumption | exact Keep.refl _ _ | refine Keep.drew ?_ | refine Keep.alloc ?_ _ | refine Keep.setNew ?_ (by omega) _)) : Keep Nope W2 _).of_not (fun b => v.ownBlock = some b)).grown hgrow (fun k e _ => e); have r3 := KA.at_ HR0.out HNW.out; have c3 := cell_of_one r3; have fr3 := free_of_one r3; have HR3 : Seal _ := ⟨r3⟩; clear r3)
    subst a3
    have KB : Keep (fun b => b = w.heap.size) w3 (w3.setCell ⟨w.heap.size, 0, none⟩ (.slice (some ⟨g, 0, none⟩) (pre.length + 1) cap)) := (Keep.refl (fun b => b = w.heap.size) w3).setCell (fun _ => rfl) _
    refine ⟨(KA.mono fun b hb h => .inr h).trans KB (fun b hb h => .inl h), _, .slice (some ⟨g, 0, none⟩) (pre.length + 1) cap, one_setCell HR3.out, ?_, rfl, ?_⟩
    · rw [flatC_append, List.length_append]
      exact ownsRow_keep hown KB (fun b hb h => by have := ownsRow_block hown hb; omega)
    · exact (((HA4.out.trans kW (fun b hb h => h.elim)).trans hk2 (fun b hb h => by omega)).trans KA (fun b hb h => by have := ownsRow_block HOW.out h; omega)).trans KB (fun b hb h => h)
  case hdone =>
    rintro S W' ⟨v, a1, a2, a3, a4⟩ hs hD
    obtain ⟨va, vn, vc, hv⟩ : ∃ va vn vc, v = .slice va vn vc := by
      rcases a2.2 with ⟨h, _⟩ | ⟨g, cap, cur, h, _⟩
      · exact ⟨_, _, _, h⟩
      · exact ⟨_, _, _, h⟩
    subst hv
    have c0 := cell_of_one a1
    have fr0 := free_of_one a1
    have HA1 : Seal _ := ⟨a1⟩
    have HA2 : Seal _ := ⟨a2⟩
    have HA4 : Seal _ := ⟨a4⟩
    clear a1 a2 a3 a4
    gi_wp2_with fail
    obtain ⟨w4, hw4⟩ : ∃ w4, w4 = W'.setCell ⟨w.heap.size, 0, none⟩ (.slice va vn vc) := ⟨_, rfl⟩
    rw [← hw4]
    have KB : Keep (fun b => b = w.heap.size) W' w4 := by rw [hw4]; exact (Keep.refl (fun b => b = w.heap.size) W').setCell (fun _ => rfl) _
    have b4 : w4.heap[w.heap.size]? = some (.cells #[.slice va vn vc] 52 (0, 0)) := by rw [hw4]; exact one_setCell HA1.out
    clear hw4
    refine ⟨by simp, .inl ⟨_, _, rfl, run_takeDeferred (KB.at_ hD (by omega)), ?_⟩⟩
    have kE : Keep (fun b => b = wl.heap.size) w4 (w4.putObj wl.heap.size (.deferred none)) := (Keep.refl (fun b => b = wl.heap.size) w4).putObj (fun _ => rfl) _
    have e4 := cell_of_one (kE.at_ b4 (by omega))
    refine ⟨.slice va vn vc, by simp [results, Tryz.results22, go_sem, e4], _, rfl, ?_, ?_⟩
    · refine ownsRow_less (ownsRow_keep (ownsRow_keep HA2.out KB (fun b hb h => ?_)) kE (fun b hb h => ?_)) (by omega)
      · have := ownsRow_block HA2.out hb; omega
      · have := ownsRow_block HA2.out hb; omega
    · exact (((KL.trans HA4.out (fun b hb h => by omega)).trans KB (fun b hb h => by omega)).trans kE (fun b hb h => by omega))
  case hstop => exact fun c pre W' hp h => h.elim

end Go.Proofs.YtllpibknkajfnaaGreatDoor
