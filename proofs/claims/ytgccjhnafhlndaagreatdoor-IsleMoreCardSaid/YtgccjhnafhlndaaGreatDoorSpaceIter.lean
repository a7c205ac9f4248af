/-
  A space's cells, handed over one behind the other.
-/
import Derived.Test.YtgccjhnafhlndaaGreatDoorSpace1
import Derived.Test.YtgccjhnafhlndaaGreatDoorLibA
import Derived.Stop.RegionWithIn
namespace Go.Proofs.YtgccjhnafhlndaaGreatDoor
open Go.RowKit
set_option linter.unusedVariables false
attribute [local go_sem] Oper.semAt_some

/-- A cell as a value. -/
def cellV (c : Cel) : Value := .agg #[.int .i64 (c.g : Nat), .int .u8 (c.tag : Nat), .int .i64 (c.ty : Nat), .int .i64 (c.ln : Nat), .int .i64 (c.sz : Nat)]

theorem dec_enc {tag ty ln sz : Nat} (h : headOk tag ty ln sz = true) : tagW (encH tag ty ln sz) = tag ∧ tyW (encH tag ty ln sz) = ty ∧ lnW (encH tag ty ln sz) = ln ∧ szW (encH tag ty ln sz) = sz ∧ decOk (encH tag ty ln sz) = true := by
  have h1 : tagW (encH tag ty ln sz) = tag := by rw [tagW, Nat.div_one]; exact encH_tag h
  have h2 : tyW (encH tag ty ln sz) = ty := encH_ty h
  have h3 : lnW (encH tag ty ln sz) = ln := encH_ln h
  have h4 : szW (encH tag ty ln sz) = sz := encH_sz h
  have h5 : gapW (encH tag ty ln sz) = 0 := encH_gap h
  refine ⟨h1, h2, h3, h4, ?_⟩
  rw [decOk, h1, h2, h3, h4, h5, h]; rfl

theorem SHead_cell (c : Cel) (P : Sp) (W : Nat → Nat) (f : Nat → Bool) (w : World) (h : SpaceAt w P W f) (hg : c.g < P.n / 2) (hW : W (2 * c.g) = encH c.tag c.ty c.ln c.sz) (hok : CelOk P.ts c) :
    Calls Tryz.prog 20 #[.pointer (some ⟨P.a, 0, none⟩), .int .i64 (c.g : Nat)] w fun e w' => e = .returned (.tuple #[headV (c.tag : Nat) (c.ty : Nat) (c.ln : Nat) (c.sz : Nat), .int .i64 0]) ∧ Keep Nope w w' := by
  have hh := SHead_at c.g P.a P.q P.n W w h.fl h.ar hg
  obtain ⟨d1, d2, d3, d4, d5⟩ := dec_enc hok.1
  rw [hW, d1, d2, d3, d4, d5] at hh
  exact hh.mono fun _ _ hp => hp

theorem Fits_cell (c : Cel) (P : Sp) (W : Nat → Nat) (f : Nat → Bool) (w : World) (h : SpaceAt w P W f) (hok : CelOk P.ts c) :
    Calls Tryz.prog 58 #[.pointer (some ⟨P.t, 0, none⟩), headV (c.tag : Nat) (c.ty : Nat) (c.ln : Nat) (c.sz : Nat)] w fun e w' => e = .returned (.int .i64 0) ∧ Keep Nope w w' := by
  obtain ⟨h1, h2⟩ := hok
  by_cases ht : c.tag = 1
  · obtain ⟨h3, h4⟩ := h2 ht
    rw [ht] at h1 ⊢
    exact Fits_obj c.ty c.ln c.sz P.t P.tq P.ts w h.fl h.tb h1 h3 h4
  · exact Fits_gap c.tag c.ty c.ln c.sz _ w h.fl h1 (by omega)

theorem cells_fn (P : Sp) (w : World) :
    Calls Tryz.prog 27 #[.pointer (some ⟨P.s, 0, none⟩)] w fun e w' =>
      e = .returned (.func (.func 57) #[] #[.pointer (some ⟨w.heap.size, 0, none⟩)]) ∧ w.alloc (.cells #[.pointer (some ⟨P.s, 0, none⟩)] 27) = w' := by
  have hmf : ∀ (fn : Fn) (first cap : Array Value) (w : World), (Instr.makeFunc fn first cap).run Tryz.prog w = .ok (.func fn first cap) w := fun _ _ _ _ => rfl
  go_enter Tryz.func27, Tryz.ntmps27
  go_wp2
  go_ret
  exact ⟨rfl, rfl⟩

variable {Pr : Program} {n : Nat}

/-- A call of yield, in a walk: one way, a letter for its answer. -/
theorem uponIn_yield3 {o : Oper} {a : Act} {K : Act → World → Prop} {Q : Exit → Act → World → Prop} {l : Nat} {args args' : Array Value} {W : World} {T E : World → Prop}
    (h : YieldAt Fence.wide 0 Pr l args W fun e B => (e = .returned (.bool true) ∧ T B) ∨ (e = .returned (.bool false) ∧ E B)) (e : args' = args)
    (hk : ∀ (b : Bool) (B : World), (b = true ∧ T B) ∨ (b = false ∧ E B) → K (a.put o.dst (.bool b)) B) : o.uponIn Fence.wide n Pr a K Q ((Instr.yield l args').run Pr W) :=
  uponIn_yield2 h e (fun B hB => hk true B (.inl ⟨rfl, hB⟩)) (fun B hB => hk false B (.inr ⟨rfl, hB⟩))

set_option maxRecDepth 20000 in
set_option maxHeartbeats 4000000 in
theorem cells_iter3 (P : Sp) (W0 : Nat → Nat) (f : Nat → Bool) (cs : List Cel) (w : World) (box : Nat) (h : SpaceAt w P W0 f) (hc : CellsAt P W0 cs) (hb : w.heap[box]? = some (.cells #[.pointer (some ⟨P.s, 0, none⟩)] 27 (0, 0)))
    {R : Nat → Prop} (hR : ∀ k, R k → k < w.heap.size ∧ ¬ k = box ∧ ¬ P.all k) :
    IterAt3 Tryz.prog 57 #[.pointer (some ⟨box, 0, none⟩)] (fun c => #[cellV c]) cs Nope R w := by
  intro l J Jx S0 W hW hl1 hl2 hS hJ hJx hY h0
  have SW := h.keepN hW
  have bW := hW.at_ hb (fun h => h)
  have lb := lt_of_heap hb
  have lall := h.lt
  have hn := h.ar.small
  obtain ⟨H, hH⟩ : ∃ H, P.n / 2 = H := ⟨_, rfl⟩
  have tl := hc.tl
  have HG : Seal (∀ w', SpaceAt w' P W0 f → Calls Tryz.prog 12 #[.pointer (some ⟨P.s, 0, none⟩)] w' fun e w'' => e = .returned (.int .i64 (H : Nat)) ∧ w'' = w') := ⟨fun w' h' => by rw [← hH]; exact Gran_at P W0 f w' h'⟩
  have HHd : Seal (∀ w', SpaceAt w' P W0 f → ∀ c ∈ cs, c.g < H → Calls Tryz.prog 20 #[.pointer (some ⟨P.a, 0, none⟩), .int .i64 (c.g : Nat)] w' fun e w'' => e = .returned (.tuple #[headV (c.tag : Nat) (c.ty : Nat) (c.ln : Nat) (c.sz : Nat), .int .i64 0]) ∧ Keep Nope w' w'') :=
    ⟨fun w' h' c hm hg => SHead_cell c P W0 f w' h' (by omega) (hc.hd c hm) (hc.ok c hm)⟩
  have HFt : Seal (∀ w', SpaceAt w' P W0 f → ∀ c ∈ cs, Calls Tryz.prog 58 #[.pointer (some ⟨P.t, 0, none⟩), headV (c.tag : Nat) (c.ty : Nat) (c.ln : Nat) (c.sz : Nat)] w' fun e w'' => e = .returned (.int .i64 0) ∧ Keep Nope w' w'') :=
    ⟨fun w' h' c hm => Fits_cell c P W0 f w' h' (hc.ok c hm)⟩
  rw [hH] at tl
  have hH2 : H ≤ 32768 := by omega
  clear hH hc hn
  refine (callsIn_wide (n := 0)).1 ?_
  refine callsIn_of_wp Tryz.func57 rfl trivial ?_
  simp only [Tryz.ntmps57, List.size_toArray, List.length_cons, List.length_nil, Nat.reduceAdd, Nat.reduceSub, Array.replicate_succ, Array.replicate_zero, List.push_toArray, List.append_toArray, List.nil_append, List.cons_append]
  gi_wp2
  gi_loopw [3, 4, 5] (fun v3 v4 v5 wr => ∃ (pre rest : List Cel) (g : Nat) (S : Nat → Prop), v3 = .int .i64 (g : Nat) ∧ cs = pre ++ rest ∧ Tiles g rest H ∧ J pre S wr ∧ Keep (fun k => R k ∨ k = l) W wr)
    (fun v3 v4 v5 wr => H - (intOf v3).toNat)
  case atStart => exact ⟨[], cs, 0, S0, rfl, rfl, tl, h0, Keep.refl _ _⟩
  case round =>
    obtain ⟨pre, rest, g, S, rfl, hcs, ht, hj, kr⟩ := hrel
    have Sr : SpaceAt wr P W0 f := SW.keep kr (fun i hi hs => by
      have := lall i hi
      rcases hs with hs | hs
      · exact (hR i hs).2.2 hi
      · omega)
    have br : wr.heap[box]? = some (.cells #[.pointer (some ⟨P.s, 0, none⟩)] 27 (0, 0)) := kr.at_ bW (fun hs => by
      rcases hs with hs | hs
      · exact (hR box hs).2.1 rfl
      · omega)
    have cb := cell_of_one br
    have HS : Seal _ := ⟨Sr⟩
    have CG : Seal _ := ⟨HG.out wr Sr⟩
    cases rest with
    | nil =>
      obtain rfl : g = H := ht
      gi_wp2_with fail
      refine ⟨trivial, rfl, ?_⟩
      refine (callsIn_wide.2 CG.out).mono ?_
      rintro e w' ⟨rfl, rfl⟩
      gi_wp2_with fail
      go_end0
      exact ⟨⟨_, rfl⟩, .inl ⟨S, by rw [hcs, List.append_nil]; exact hj⟩⟩
    | cons c rest =>
      obtain ⟨rfl, hcp, ht'⟩ := ht
      have hle := ht'.le
      have hmem : c ∈ cs := by rw [hcs]; simp
      have hg1 : (c.g : Int) < (H : Int) := by omega
      obtain ⟨s0, s1, s2⟩ := Sr.head
      have CHd : Seal _ := ⟨HHd.out wr Sr c hmem (by omega)⟩
      gi_wp2_with fail
      refine ⟨trivial, rfl, ?_⟩
      refine (callsIn_wide.2 CG.out).mono ?_
      rintro e w' ⟨rfl, rfl⟩
      gi_wp2_with fail
      refine ⟨trivial, rfl, ?_⟩
      refine (callsIn_wide.2 CHd.out).mono ?_
      rintro e w1 ⟨rfl, k1⟩
      unfold headV
      obtain ⟨w2, hw2⟩ : ∃ w2, w2 = w1.alloc (.cells #[.int .u8 (c.tag : Nat), .int .i64 (c.ty : Nat), .int .i64 (c.ln : Nat), .int .i64 (c.sz : Nat)] 44) := ⟨_, rfl⟩
      have k2 : Keep Nope w1 w2 := by rw [hw2]; exact (Keep.refl _ w1).alloc _
      have b2 : w2.heap[w1.heap.size]? = some (.cells #[.int .u8 (c.tag : Nat), .int .i64 (c.ty : Nat), .int .i64 (c.ln : Nat), .int .i64 (c.sz : Nat)] 44 (0, 0)) := by rw [hw2]; exact World.alloc_heap_new w1 _
      gi_wp2_with fail
      rw [← hw2]
      clear hw2
      have KD : Keep Nope w' w2.drew := (k1.then' k2).drew
      have SD := Sr.keepN KD
      have bD := KD.at_ br (fun h => h)
      have hD : w2.drew.heap[w1.heap.size]? = some (.cells #[.int .u8 (c.tag : Nat), .int .i64 (c.ty : Nat), .int .i64 (c.ln : Nat), .int .i64 (c.sz : Nat)] 44 (0, 0)) := b2
      obtain ⟨s0, s1, s2⟩ := SD.head
      have cb2 := cell_of_one bD
      have e0 : w2.drew.cell? ⟨w1.heap.size, 0, none⟩ = some (.int .u8 (c.tag : Nat)) := by simp [World.cell?, hD]
      have e1 : w2.drew.cell? ⟨w1.heap.size, 1, none⟩ = some (.int .i64 (c.ty : Nat)) := by simp [World.cell?, hD]
      have e2 : w2.drew.cell? ⟨w1.heap.size, 2, none⟩ = some (.int .i64 (c.ln : Nat)) := by simp [World.cell?, hD]
      have e3 : w2.drew.cell? ⟨w1.heap.size, 3, none⟩ = some (.int .i64 (c.sz : Nat)) := by simp [World.cell?, hD]
      have CF := HFt.out w2.drew SD c hmem
      unfold headV at CF
      have CFs : Seal _ := ⟨CF⟩
      have HSD : Seal _ := ⟨SD⟩
      have HhD : Seal _ := ⟨hD⟩
      clear CF SD hD b2 CG CHd HS
      have hd1 : decide ((H : Int) - (c.g : Int) < (c.sz : Int)) = false := decide_eq_false (by omega)
      have hwr : IntKind.i64.wrap ((H : Int) - (c.g : Int)) = (H : Int) - (c.g : Int) := by rw [IntKind.wrap_i64]; omega
      have hneR : ∀ k, S k ∨ k = l → ¬ k = w1.heap.size := by
        intro k hk
        have z1 := hW.size
        have z2 := kr.size
        have z3 := k1.size
        rcases hk with hk | hk
        · have := (hS pre S _ hj k hk).2
          omega
        · omega
      have hSR : ∀ i, i < W.heap.size → (S i ∨ i = l) → (R i ∨ i = l) := by
        intro i hi h
        rcases h with h | h
        · rcases (hS pre S _ hj i h).1 with h | h
          · exact .inl h
          · omega
        · exact .inr h
      gi_region_with (first
        | (refine ⟨trivial, rfl, ?_⟩)
        | (gi_at_call 58; refine (callsIn_wide.2 CFs.out).mono ?_; rintro e w3 ⟨rfl, k3⟩
           have S3 := HSD.out.keepN k3
           have h3 := k3.at_ HhD.out (fun h => h)
           obtain ⟨s0', s1', s2'⟩ := S3.head
           have cb3 := k3.cell cb2 (fun h => h)
           have e0' := k3.cell e0 (fun h => h)
           have e1' := k3.cell e1 (fun h => h)
           have e2' := k3.cell e2 (fun h => h)
           have e3' := k3.cell e3 (fun h => h)
           have CG3 : Seal _ := ⟨HG.out w3 S3⟩
           have J3 := hJ _ _ _ _ hj (KD.then' k3)
           have HY3 : Seal _ := ⟨hY pre S c rest w3 hcs J3⟩
           have Hh3 : Seal _ := ⟨h3⟩
           clear S3 h3 J3)
        | (gi_at_call 12; refine (callsIn_wide.2 CG3.out).mono ?_; rintro e w' ⟨rfl, rfl⟩)
        | (refine uponIn_yield3 HY3.out rfl ?_; intro b B hB))
      all_goals
        rcases hB with ⟨rfl, hk, S', hT⟩ | ⟨rfl, hE⟩
        · have hB3 := hk.at_ Hh3.out (fun hs => hneR _ hs rfl)
          have d3 : B.cell? ⟨w1.heap.size, 3, none⟩ = some (.int .i64 (c.sz : Nat)) := by simp [World.cell?, hB3]
          have KB := (kr.trans KD (fun _ _ h => h.elim)).trans k3 (fun _ _ h => h.elim)
          have KB2 := KB.trans hk hSR
          gi_wp2_with fail
          exact ⟨⟨pre ++ [c], rest, c.g + c.sz, S', by simp, by rw [hcs, List.append_assoc]; rfl, ht', hT, KB2⟩, by simp only [intOf]; omega⟩
        · gi_wp2_with fail
          refine bodyPost_ret (results_none rfl _ _ _) rfl ?_
          exact ⟨⟨_, rfl⟩, .inr ⟨_, ⟨_, by rw [hcs, List.append_assoc]; rfl⟩, hE⟩⟩

theorem cells_iter (P : Sp) (W0 : Nat → Nat) (f : Nat → Bool) (cs : List Cel) (w : World) (box : Nat) (h : SpaceAt w P W0 f) (hc : CellsAt P W0 cs) (hb : w.heap[box]? = some (.cells #[.pointer (some ⟨P.s, 0, none⟩)] 27 (0, 0)))
    {R X : Nat → Prop} (hR : ∀ k, R k → k < w.heap.size ∧ ¬ k = box ∧ ¬ P.all k) :
    IterAt2 Tryz.prog 57 #[.pointer (some ⟨box, 0, none⟩)] (fun c => #[cellV c]) cs Nope R X w :=
  (cells_iter3 P W0 f cs w box h hc hb hR).two (fun k hk => (hR k hk).1)

end Go.Proofs.YtgccjhnafhlndaaGreatDoor
