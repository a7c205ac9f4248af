/-
  The law WalkTurned, walked.
-/
import Derived.Test.YtllpibknkajfnaaGreatDoorAliveWalk
import Derived.Test.YtllpibknkajfnaaGreatDoorArgsA
import Derived.Test.YtllpibknkajfnaaGreatDoorWalkTurnB
namespace Go.Proofs.YtllpibknkajfnaaGreatDoor
open Go.RowKit
set_option linter.unusedVariables false

set_option maxRecDepth 20000 in
set_option maxHeartbeats 16000000 in
theorem walkturned_walk (n : Int) (v1 v2 : Value) (xs : List TypR) (len : Nat) (dd gg ii nn yy : Nat → Int) (uu : Nat → Value) (mm : Nat → Nat) (t by_ : Nat) (w : World) (hF : FieldsAt w) (h1 : TypsAt w v1 xs) (h2 : Steps6At w v2 len dd gg ii nn yy uu mm)
    (hl : xs.length ≤ 17592186044416) (hM : Masks xs) (hl2 : len ≤ 17592186044416) (hy : ∀ j, j < len → 0 ≤ yy j ∧ yy j ≤ 18446744073709551615) (hA : AtsAt w len uu mm) (ht : t < 256) (hb : by_ < 18446744073709551616) :
    Calls Tryz.prog 4 #[.int .i64 n, v1, v2, .int .u8 (t : Nat), .int .u64 (by_ : Nat)] w fun e w' => e = .returned (.bool true) ∧ Keep Nope w w' := by
  have HF : Seal _ := ⟨hF⟩
  have HH : Seal _ := ⟨Heavy9_any n v1 v2 xs len dd gg ii nn yy uu mm w h1 h2 hl hl2⟩
  have HMd : Seal _ := ⟨Made_any n v1 xs w hF h1 hl hM⟩
  have HY : Seal _ := ⟨hy⟩
  have HAt : Seal _ := ⟨hA⟩
  have hv1 : ∃ a l c, v1 = .slice a l c := by obtain ⟨a, c, h, -⟩ := h1; exact ⟨_, _, _, h⟩
  obtain ⟨a1, l1, c1, rfl⟩ := hv1
  obtain ⟨va, vc, rfl, hx⟩ := h2
  have HX : Seal _ := ⟨hx⟩
  clear hF h1 hM hy hA hl hl2 hx
  go_enter Tryz.func4, Tryz.ntmps4
  go_wp2_with fail
  refine HH.out.mono ?_
  rintro e w2 ⟨tt, rfl, rfl, htt⟩
  by_cases hb0 : tt = true ∨ by_ = 0
  · have HT : Seal (∀ W1, Keep Nope w2 W1 → Calls Tryz.prog 8 #[] W1 fun e w' => e = .returned (.bool true) ∧ Keep Nope W1 w') := ⟨fun W1 kk => alive10 W1 (HF.out.keepN kk)⟩
    clear htt
    cases tt with
    | true =>
      clear hb0
      go_wp2_with fail
      refine (HT.out _ (Keep.refl _ _)).mono ?_
      rintro e w3 ⟨rfl, k3⟩
      go_wp2
      go_ret
      exact ⟨rfl, k3⟩
    | false =>
      obtain rfl : by_ = 0 := hb0.resolve_left (by simp)
      clear hb0
      go_wp2_with fail
      refine (HT.out _ (Keep.refl _ _)).mono ?_
      rintro e w3 ⟨rfl, k3⟩
      go_wp2
      go_ret
      exact ⟨rfl, k3⟩
  · have hby : ¬ by_ = 0 := fun e => hb0 (.inr e)
    have hbi : ((by_ : Int) == 0) = false := by rw [beq_eq_false_iff_ne]; omega
    obtain rfl : tt = false := by cases tt with | true => exact absurd (.inl rfl) hb0 | false => rfl
    clear hb0
    obtain ⟨-, -, q1, q2⟩ := htt rfl
    have HMm : Seal _ := ⟨q2⟩
    clear q2 htt
    go_wp2_with fail
    refine HMd.out.mono ?_
    rintro e w3 (⟨rfl, k3⟩ | ⟨P, rb, q, W, cs, rfl, hBt, hPn, hPs, h16⟩)
    · have HK3 : Seal _ := ⟨k3⟩
      clear k3
      go_wp2_with fail
      refine (alive10 w3 (HF.out.keepN HK3.out)).mono ?_
      rintro e w4 ⟨rfl, k4⟩
      go_wp2
      go_ret
      exact ⟨rfl, HK3.out.then' k4⟩
    · have HB : Seal _ := ⟨hBt⟩
      clear hBt hPn hPs
      go_wp2_with fail
      go_loopw [14] (fun z wr => ∃ (j q' : Nat) (W' : Nat → Nat) (cs' : List Cel), j ≤ len ∧ z = .int .i64 (j : Nat) ∧ Seal (Both w2 wr P rb q' (.slice a1 l1 c1) W' cs')) (fun z _ => len - (intOf z).toNat)
      case atStart => exact ⟨0, q, W, cs, Nat.zero_le _, rfl, HB⟩
      case round =>
        obtain ⟨j, q', W', cs', hj, rfl, HBr⟩ := hrel
        by_cases hjl : j < len
        · have hjl' : (j : Int) < (len : Int) := by omega
          obtain ⟨b, o, rfl, hbl, x0, x1, x2, x3, x4, x5, ⟨ua, uc, hu⟩, -⟩ := HX.out j hjl
          have hnb : ¬ w2.heap.size ≤ b := by omega
          have y0 := HBr.out.kb.cell x0 hnb
          have y1 := HBr.out.kb.cell x1 hnb
          have y2 := HBr.out.kb.cell x2 hnb
          have y3 := HBr.out.kb.cell x3 hnb
          have y4 := HBr.out.kb.cell x4 hnb
          have y5 := HBr.out.kb.cell x5 hnb
          have hbw : b < wr.heap.size := Nat.lt_of_lt_of_le hbl HBr.out.size
          have HD : Seal _ := ⟨Does_any w2 wr P rb q' (.slice a1 l1 c1) W' cs' (dd j) (gg j) (ii j) (nn j) (yy j) (uu j) (mm j) HBr.out (HY.out j hjl) (HAt.out j hjl) (HMm.out j hjl)⟩
          unfold stepV at HD
          rw [hu] at y5 HD
          clear x0 x1 x2 x3 x4 x5 hnb hu
          go_wp2_with fail
          refine HD.out.mono ?_
          rintro e w4 ⟨W3, cs3, q3, rfl, hB3⟩
          have HB3 : Seal _ := ⟨hB3⟩
          clear hB3 y0 y1 y2 y3 y4 y5
          go_wp2
          exact ⟨⟨j + 1, q3, W3, cs3, by omega, by go_num, HB3⟩, by simp only [intOf]; omega⟩
        · have hjl' : ¬ (j : Int) < (len : Int) := by omega
          obtain ⟨wo, rfl⟩ : ∃ wo : World, wo = wr := ⟨_, rfl⟩
          obtain ⟨f, hsp, hcs, hst⟩ := HBr.out.sp
          have HK : Seal (Keep Nope w2 wo) := ⟨HBr.out.kb.newW⟩
          have HSp : Seal _ := ⟨hsp⟩
          have HCs : Seal _ := ⟨hcs⟩
          have HSt : Seal _ := ⟨hst⟩
          have HMs : Seal (∀ x ∈ P.ts, x.m < 18446744073709551616) := ⟨fun x hx => by have := HBr.out.ms x hx; omega⟩
          have hsm := hsp.ar.small
          have hev := hsp.ev
          obtain ⟨H, hH⟩ : ∃ H, P.n / 2 = H := ⟨_, rfl⟩
          have hH0 : 0 < H := by omega
          have hHm : H ≤ 32768 := by omega
          have HN : Seal _ := ⟨hH⟩
          have HOw : Seal (w2.heap.size ≤ P.a ∧ w2.heap.size ≤ P.q) := ⟨HBr.out.own P.a (by simp [Sp.own]), HBr.out.own P.q (by simp [Sp.own])⟩
          have HLa : Seal (P.a < wo.heap.size ∧ P.q < wo.heap.size) := ⟨hsp.ar.lt_a, hsp.ar.lt_q⟩
          have HAr : Seal (∀ (Wx : Nat → Nat) W1, SpaceAt W1 P Wx f → Calls Tryz.prog 12 #[.pointer (some ⟨P.s, 0, none⟩)] W1 fun e w'' => e = .returned (.pointer (some ⟨P.a, 0, none⟩)) ∧ w'' = W1) := ⟨fun Wx W1 hs => SArena_at P Wx f W1 hs⟩
          have HLen : Seal (cs'.length ≤ 65536 ∧ 0 < cs'.length) := ⟨by
            have h1 := tiles_len hcs.tl
            refine ⟨by omega, ?_⟩
            cases cs' with
            | nil =>
              have h' : 0 = P.n / 2 := hcs.tl
              omega
            | cons c cs => simp⟩
          have HC1 : Seal _ := ⟨Cells_to P W' f cs' (P.n / 2) wo hsp hcs.to⟩
          clear hsp hcs hst hH h16
          go_wp2_with fail
          refine HC1.out.mono ?_
          rintro e w4 ⟨v, rfl, hown, k4⟩
          have HOn : Seal _ := ⟨hown⟩
          obtain ⟨va2, vc2, rfl, -⟩ := RowC.of_owns hown
          have HRow : Seal _ := ⟨RowC.of_owns hown⟩
          obtain ⟨L, hL⟩ : ∃ L, cs'.length = L := ⟨_, rfl⟩
          rw [hL] at HRow HOn HLen ⊢
          have HL : Seal _ := ⟨hL⟩
          have hL1 := HLen.out.1
          have hL0 := HLen.out.2
          have HK4 : Seal _ := ⟨HK.out.then' k4⟩
          have HS4 : Seal _ := ⟨HSp.out.keepN k4⟩
          have HZ4 : Seal _ := ⟨k4.size⟩
          obtain ⟨k, hk⟩ : ∃ k, t % L = k := ⟨_, rfl⟩
          have hkL : k < L := by rw [← hk]; exact Nat.mod_lt _ hL0
          have hmod : Int.tmod (t : Int) (L : Int) = (k : Nat) := by rw [← hk]; rfl
          have hl0 : ¬ (L : Int) = 0 := by omega
          have hl0' : ((L : Int) == 0) = false := by rw [beq_eq_false_iff_ne]; omega
          have hki : (k : Int) < (L : Int) := by omega
          obtain ⟨c, hc⟩ : ∃ c, cs'[k]? = some c := ⟨_, List.getElem?_eq_getElem (by omega)⟩
          have HCm : Seal (c ∈ cs') := ⟨List.mem_of_getElem? hc⟩
          obtain ⟨va', vc', e, hx⟩ := HRow.out
          injection e with e1 e3 e2
          clear e3
          subst e1 e2
          obtain ⟨b, rfl, hbl, x0, x1, x2, x3, x4⟩ := hx k c hc
          clear hown k4 hL hk hx hc
          go_wp2_with fail
          obtain ⟨w5, hw5⟩ : ∃ w5, w5 = w4.alloc (.cells #[.int .i64 (c.g : Nat), .int .u8 (c.tag : Nat), .int .i64 (c.ty : Nat), .int .i64 (c.ln : Nat), .int .i64 (c.sz : Nat)] 62) := ⟨_, rfl⟩
          rw [← hw5]
          have k5 : Keep Nope w4 w5 := by rw [hw5]; exact (Keep.refl _ w4).alloc _
          have b5 : w5.heap[w4.heap.size]? = some (.cells #[.int .i64 (c.g : Nat), .int .u8 (c.tag : Nat), .int .i64 (c.ty : Nat), .int .i64 (c.ln : Nat), .int .i64 (c.sz : Nat)] 62 (0, 0)) := by rw [hw5]; exact World.alloc_heap_new w4 _
          clear hw5
          obtain ⟨d0, d1, d2, d3, d4⟩ := cells5g b5
          obtain ⟨cb, hcb⟩ : ∃ cb, w4.heap.size = cb := ⟨_, rfl⟩
          rw [hcb] at d0 ⊢
          have HCb : Seal (¬ cb = P.a ∧ ¬ cb = P.q) := ⟨by have h1 := HLa.out; have h2 := HZ4.out; omega⟩
          have HS5 : Seal _ := ⟨HS4.out.keepN k5⟩
          have HK5 : Seal _ := ⟨HK4.out.then' k5⟩
          have HJ5 : Seal _ := ⟨k5⟩
          have hcg : c.g < H := by
            have := HCs.out.tl.mem HCm.out
            have := HN.out
            omega
          obtain ⟨z, hz⟩ : ∃ z, 2 * c.g = z := ⟨_, rfl⟩
          have hzn : z < P.n := by have := HN.out; omega
          have hwm : IntKind.i64.wrap (2 * (c.g : Int)) = (z : Int) := by rw [IntKind.wrap_i64]; omega
          obtain ⟨X, hX⟩ : ∃ X, W' z = X := ⟨_, rfl⟩
          have hXl : X < 18446744073709551616 := by rw [← hX]; exact HS5.out.ar.fits z hzn
          have HLd : Seal _ := ⟨fun w9 (kk : Keep Nope w5 w9) => ALoad_yes z P.a P.q P.n W' w9 (HS5.out.keepN kk).ar hzn⟩
          rw [hX] at HLd
          have HX : Seal (W' (2 * c.g) = X) := ⟨by rw [hz]; exact hX⟩
          have HZ : Seal _ := ⟨hz⟩
          clear k5 b5 d1 d2 d3 d4 hcb hz hX x0 x1 x2 x3 x4 hcg
          refine wp_region_held_drew (S := fun w' => w'.cell? ⟨cb, 0, none⟩ = some (.int .i64 (c.g : Nat))) (by kernel_rfl) ?_ (fun hHeld => ?_)
          · (try dsimp only); (exact d0)
          refine tko 0 ?_; refine tko 2 ?_; refine tko 3 ?_; refine tko 4 ?_
          try simp only [Act.put, List.setIfInBounds_toArray, List.set_cons_zero, List.set_cons_succ]
          refine wpAnyH_ready (rs := [1]) (by kernel_rfl) (by simp) ?_
          refine ready_held rfl (fun K hK => ?_)
          go_simp
          go_at_call 12
          (with_reducible refine (HAr.out W' _ (HS5.out.keepN (Keep.refl _ _).drew)).mono ?_)
          rintro e w9 ⟨rfl, rfl⟩
          refine hK _ _ ?_ (fun hHeld => ?_)
          · (try dsimp only); (exact hHeld)
          clear hK K
          try simp only [Act.put, List.setIfInBounds_toArray, List.set_cons_zero, List.set_cons_succ]
          refine wpAnyH_ready (rs := [5]) (by kernel_rfl) (by simp) ?_
          refine ready_held rfl (fun K hK => ?_)
          go_simp
          go_at_call 23
          (with_reducible refine (HLd.out _ (Keep.refl _ _).drew).mono ?_)
          rintro e w9 ⟨rfl, rfl⟩
          refine hK _ _ ?_ (fun hHeld => ?_)
          · (try dsimp only); (exact hHeld)
          clear hK K
          try simp only [Act.put, List.setIfInBounds_toArray, List.set_cons_zero, List.set_cons_succ]
          refine tko 6 ?_; refine tko 7 ?_; refine tko 8 ?_; refine tko 9 ?_; refine tko 10 ?_
          try simp only [Act.put, List.setIfInBounds_toArray, List.set_cons_zero, List.set_cons_succ]
          refine wpAnyH_done (by kernel_rfl) ?_ _
          obtain ⟨w6, hw6⟩ : ∃ w6, w6 = w5.drew := ⟨_, rfl⟩
          rw [← hw6] at hHeld ⊢
          have k6 : Keep Nope w5 w6 := by rw [hw6]; exact (Keep.refl _ w5).drew
          clear hw6
          have HS6 : Seal _ := ⟨HS5.out.keepN k6⟩
          have HK6 : Seal _ := ⟨HK5.out.then' k6⟩
          have HOn6 : Seal _ := ⟨ownsRow_keep HOn.out (HJ5.out.then' k6) (fun b hb h => h)⟩
          obtain ⟨Z, hZ⟩ : ∃ Z, X ^^^ by_ = Z := ⟨_, rfl⟩
          have hZl : Z < 18446744073709551616 := by
            rw [← hZ]
            exact Nat.xor_lt_two_pow (n := 64) hXl hb
          have HZn : Seal (¬ Z = W' (2 * c.g)) := ⟨by rw [HX.out, ← hZ]; exact xor_ne hby⟩
          have hxr : bits BinOp.xor IntKind.u64 (X : Int) (by_ : Int) = (Z : Nat) := by rw [← hZ]; exact u64_xor_nat X by_ hXl hb
          have HSt9 : Seal _ := ⟨fun w9 (kk : Keep Nope w6 w9) => AStore_yes z Z P.a P.q P.n W' w9 (HS6.out.keepN kk).ar hzn hZl⟩
          clear k6 d0 hZ hXl
          go_wp2_with fail
          refine wp_region_held_drew (S := fun w' => w'.cell? ⟨cb, 0, none⟩ = some (.int .i64 (c.g : Nat))) (by kernel_rfl) ?_ (fun hHeld => ?_)
          · (try dsimp only); (exact hHeld)
          refine tko 0 ?_; refine tko 1 ?_; refine tko 2 ?_; refine tko 3 ?_; refine tko 5 ?_; refine tko 6 ?_; refine tko 7 ?_; refine tko 8 ?_; refine tko 9 ?_; refine tko 10 ?_
          try simp only [Act.put, List.setIfInBounds_toArray, List.set_cons_zero, List.set_cons_succ]
          refine wpAnyH_ready (rs := [4]) (by kernel_rfl) (by simp) ?_
          refine ready_held rfl (fun K hK => ?_)
          go_simp
          go_at_call 12
          (with_reducible refine (HAr.out W' _ (HS6.out.keepN (Keep.refl _ _).drew)).mono ?_)
          rintro e w9 ⟨rfl, rfl⟩
          refine hK _ _ ?_ (fun hHeld => ?_)
          · (try dsimp only); (exact hHeld)
          clear hK K
          try simp only [Act.put, List.setIfInBounds_toArray, List.set_cons_zero, List.set_cons_succ]
          refine wpAnyH_ready (rs := [11]) (by kernel_rfl) (by simp) ?_
          refine ready_held rfl (fun K hK => ?_)
          go_simp
          go_at_call 24
          (with_reducible refine (HSt9.out _ (Keep.refl _ _).drew).mono ?_)
          rintro e w9 ⟨rfl, k9, a9⟩
          have K9 : Keep (fun b => b = P.a ∨ b = P.q) w6 w9 := ((Keep.refl Nope w6).drew.of_not _).trans k9 (fun _ _ h => h)
          refine hK _ _ ?_ (fun hHeld => ?_)
          · (try dsimp only); (exact K9.cell hHeld (by rintro (h | h); exact HCb.out.1 h; exact HCb.out.2 h))
          clear hK K
          try simp only [Act.put, List.setIfInBounds_toArray, List.set_cons_zero, List.set_cons_succ]
          refine tko 12 ?_; refine tko 13 ?_
          try simp only [Act.put, List.setIfInBounds_toArray, List.set_cons_zero, List.set_cons_succ]
          refine wpAnyH_done (by kernel_rfl) ?_ _
          have hs9 := HS6.out.words K9 a9
          obtain ⟨W2, hW2⟩ : ∃ W2, updW W' z Z = W2 := ⟨_, rfl⟩
          rw [hW2] at hs9
          obtain ⟨cs2, E, hc2⟩ := cellsTo_any P W2 (fun j hj => hs9.ar.fits j hj) hev
          have HS9 : Seal _ := ⟨hs9⟩
          have HC9 : Seal _ := ⟨hc2⟩
          have HNe : Seal (¬ cs2 = cs') := ⟨turned_ne (z := Z) HCs.out HCm.out HZn.out (by rw [HZ.out, hW2]; exact hc2)⟩
          have HL2 : Seal (cs2.length ≤ 65536) := ⟨by
            have h1 := tiles_len hc2.tl
            have h2 := hc2.le
            omega⟩
          have HK9 : Seal (Keep Nope w2 w9) := ⟨HK6.out.trans K9 (fun i hi h => by have := HOw.out; omega)⟩
          have HOn9 : Seal _ := ⟨ownsRow_keep HOn6.out K9 (fun b hb h => by have h1 := ownsRow_block HOn6.out hb; have h2 := HLa.out; omega)⟩
          have HAr9 : Seal (∀ W1, Keep Nope w9 W1 → Calls Tryz.prog 12 #[.pointer (some ⟨P.s, 0, none⟩)] W1 fun e w'' => e = .returned (.pointer (some ⟨P.a, 0, none⟩)) ∧ w'' = W1) := ⟨fun W1 kk => SArena_at P W2 f W1 (HS9.out.keepN kk)⟩
          have HTb : Seal (∀ W1, Keep Nope w9 W1 → Calls Tryz.prog 13 #[.pointer (some ⟨P.s, 0, none⟩)] W1 fun e w'' => e = .returned (.pointer (some ⟨P.t, 0, none⟩)) ∧ w'' = W1) := ⟨fun W1 kk => STable_at P W2 f W1 (HS9.out.keepN kk)⟩
          have HGr : Seal (∀ W1, Keep Nope w9 W1 → Calls Tryz.prog 16 #[.pointer (some ⟨P.s, 0, none⟩)] W1 fun e w'' => e = .returned (.int .i64 (H : Nat)) ∧ w'' = W1) := ⟨fun W1 kk => by rw [← HN.out]; exact Gran_at P W2 f W1 (HS9.out.keepN kk)⟩
          have HSr : Seal (∀ W1, Keep Nope w9 W1 → _) := ⟨fun W1 kk => Starts_at P W2 f W1 (HS9.out.keepN kk)⟩
          have HCk : Seal (∀ W1 p q, Keep Nope w9 W1 → BitsAt W1 p q f (P.n / 2) → _) := ⟨fun W1 p q kk hb => Check_to P W2 f cs2 E p q f W1 (HS9.out.keepN kk) HC9.out HMs.out hb⟩
          have HCe : Seal (∀ W1, Keep Nope w9 W1 → _) := ⟨fun W1 kk => Cells_to P W2 f cs2 E W1 (HS9.out.keepN kk) HC9.out⟩
          obtain ⟨R, hR⟩ : ∃ R, faultsL P.ts (P.n / 2) W2 f cs2 E = R := ⟨_, rfl⟩
          rw [hR] at HCk
          have HRl : Seal (∀ x ∈ R, x.1 < H) := ⟨fun x hx => by rw [← hR] at hx; rw [← HN.out]; exact faultsL_lt HC9.out hx⟩
          clear hs9 hc2 hW2 hR k9 a9 hHeld hxr hwm
          go_wp2_with fail
          refine (HAr9.out _ (Keep.refl _ _)).mono ?_
          rintro e w9 ⟨rfl, rfl⟩
          go_wp2_with fail
          refine (HTb.out _ (Keep.refl _ _)).mono ?_
          rintro e w9 ⟨rfl, rfl⟩
          go_wp2_with fail
          refine (HSr.out _ (Keep.refl _ _)).mono ?_
          rintro e w10 ⟨p1, r1, rfl, -, -, hb1, k10⟩
          have HCk' : Seal _ := ⟨HCk.out w10 p1 r1 k10 hb1⟩
          have HK10 : Seal _ := ⟨k10⟩
          clear hb1 k10
          go_wp2_with fail
          refine HCk'.out.mono ?_
          rintro e w11 ⟨v, rfl, hv, k11⟩
          have HRv : Seal _ := ⟨RowO.of_owns hv⟩
          obtain ⟨fa, fc, rfl, -⟩ := HRv.out
          have HK11 : Seal (Keep Nope w9 w11) := ⟨HK10.out.then' k11⟩
          obtain ⟨M, hM⟩ : ∃ M, R.length = M := ⟨_, rfl⟩
          rw [hM] at HRv ⊢
          have HM : Seal _ := ⟨hM⟩
          have HRo : Seal (RowC w11 (.slice (some ⟨b, 0, none⟩) L vc2) cs') := ⟨RowC.of_owns (base := wo.heap.size) (by rw [HL.out]; exact ownsRow_keep HOn9.out HK11.out (fun b hb h => h))⟩
          clear hv k11 HCk' hM
          go_wp2_with fail
          by_cases hM0 : M = 0
          · subst hM0
            refine wp_region_held_drew (S := fun _ => True) (by kernel_rfl) ?_ (fun hHeld => ?_)
            · (try dsimp only); (first | done | trivial)
            refine tko 0 ?_; refine tko 1 ?_; refine tko 2 ?_; refine tko 3 ?_; refine tko 5 ?_
            try simp only [Act.put, List.setIfInBounds_toArray, List.set_cons_zero, List.set_cons_succ]
            refine wpAnyH_ready (rs := [4]) (by kernel_rfl) (by simp) ?_
            refine ready_held rfl (fun K hK => ?_)
            go_simp
            go_at_call 22
            (with_reducible refine (HCe.out _ (HK11.out.then' (Keep.refl _ _).drew)).mono ?_)
            rintro e w12 ⟨v, rfl, hown, k12⟩
            have K12 : Keep Nope w11 w12 := ((Keep.refl Nope w11).drew).then' k12
            have HSC : Seal _ := ⟨SameC_no cs2 cs' _ _ w12 (RowC.of_owns hown) (HRo.out.keepN K12) (by have := HL2.out; omega) (by have := HL.out; omega) HNe.out⟩
            clear hown
            refine hK _ _ ?_ (fun hHeld => ?_)
            · (try dsimp only); (first | done | trivial)
            clear hK K
            try simp only [Act.put, List.setIfInBounds_toArray, List.set_cons_zero, List.set_cons_succ]
            refine wpAnyH_ready (rs := [6]) (by kernel_rfl) (by simp) ?_
            refine ready_held rfl (fun K hK => ?_)
            go_simp
            go_at_call 25
            (with_reducible refine HSC.out.mono ?_)
            rintro e w13 ⟨rfl, k13⟩
            have K13 : Keep Nope w11 w13 := K12.then' k13
            refine hK _ _ ?_ (fun hHeld => ?_)
            · (try dsimp only); (first | done | trivial)
            clear hK K
            try simp only [Act.put, List.setIfInBounds_toArray, List.set_cons_zero, List.set_cons_succ]
            refine tko 7 ?_; refine tko 8 ?_; refine tko 9 ?_; refine tko 10 ?_; refine tko 11 ?_; refine tko 12 ?_; refine tko 13 ?_
            try simp only [Act.put, List.setIfInBounds_toArray, List.set_cons_zero, List.set_cons_succ]
            refine sk 14 rfl ?_
            refine sk 15 rfl ?_
            refine sk 16 rfl ?_
            refine sk 17 rfl ?_
            refine sk 18 rfl ?_
            refine sk 19 rfl ?_
            refine sk 20 rfl ?_
            refine sk 21 rfl ?_
            refine sk 22 rfl ?_
            refine sk 23 rfl ?_
            refine sk 24 rfl ?_
            refine sk 25 rfl ?_
            refine sk 26 rfl ?_
            refine sk 27 rfl ?_
            try simp only [Act.put, List.setIfInBounds_toArray, List.set_cons_zero, List.set_cons_succ]
            refine tko 28 ?_; refine tko 29 ?_; refine tko 30 ?_
            try simp only [Act.put, List.setIfInBounds_toArray, List.set_cons_zero, List.set_cons_succ]
            refine wpAnyH_ready (rs := [31]) (by kernel_rfl) (by simp) ?_
            refine ready_held rfl (fun K hK => ?_)
            go_simp
            go_at_call 8
            (with_reducible refine (alive10 _ (HF.out.keepN (HK9.out.then' (HK11.out.then' K13)))).mono ?_)
            rintro e w14 ⟨rfl, k14⟩
            have K14 : Keep Nope w11 w14 := K13.then' k14
            refine hK _ _ ?_ (fun hHeld => ?_)
            · (try dsimp only); (first | done | trivial)
            clear hK K
            try simp only [Act.put, List.setIfInBounds_toArray, List.set_cons_zero, List.set_cons_succ]
            refine tko 32 ?_; refine tko 33 ?_
            try simp only [Act.put, List.setIfInBounds_toArray, List.set_cons_zero, List.set_cons_succ]
            refine wpAnyH_done (by kernel_rfl) ?_ _
            go_wp2
            go_ret
            exact ⟨rfl, HK9.out.then' (HK11.out.then' K14)⟩
          · have hMi : ((M : Int) == 0) = false := by rw [beq_eq_false_iff_ne]; omega
            have hM1 : 0 < M := by omega
            obtain ⟨x, hx⟩ : ∃ x, R[0]? = some x := ⟨_, List.getElem?_eq_getElem (by rw [HM.out]; exact hM1)⟩
            have hxH := HRl.out x (List.mem_of_getElem? hx)
            obtain ⟨fa', fc', hva, hcells⟩ := HRv.out
            injection hva with e1 e2 e3
            subst e1
            obtain ⟨fb, fo, rfl, -, x0, -, -⟩ := hcells 0 x hx
            rw [Nat.zero_mul, Nat.add_zero] at x0
            obtain ⟨y, hy⟩ : ∃ y, x.1 = y := ⟨_, rfl⟩
            rw [hy] at x0 hxH
            have g0 : (0 : Int) ≤ (y : Int) := by omega
            have g1 : decide (y < H) = true := decide_eq_true hxH
            have g2 : (y : Int) < (H : Int) := by omega
            clear hcells e2 e3 hx hy
            refine wp_region_held_drew (S := fun w' => w'.cell? ⟨fb, fo, none⟩ = some (.int .i64 (y : Nat))) (by kernel_rfl) ?_ (fun hHeld => ?_)
            · (try dsimp only); (exact x0)
            refine tko 0 ?_; refine tko 1 ?_; refine tko 2 ?_; refine tko 3 ?_; refine tko 5 ?_
            try simp only [Act.put, List.setIfInBounds_toArray, List.set_cons_zero, List.set_cons_succ]
            refine wpAnyH_ready (rs := [4]) (by kernel_rfl) (by simp) ?_
            refine ready_held rfl (fun K hK => ?_)
            go_simp
            go_at_call 22
            (with_reducible refine (HCe.out _ (HK11.out.then' (Keep.refl _ _).drew)).mono ?_)
            rintro e w12 ⟨v, rfl, hown, k12⟩
            have K12 : Keep Nope w11 w12 := ((Keep.refl Nope w11).drew).then' k12
            have HSC : Seal _ := ⟨SameC_no cs2 cs' _ _ w12 (RowC.of_owns hown) (HRo.out.keepN K12) (by have := HL2.out; omega) (by have := HL.out; omega) HNe.out⟩
            clear hown
            refine hK _ _ ?_ (fun hHeld => ?_)
            · (try dsimp only); (exact keepc K12 x0)
            clear hK K
            try simp only [Act.put, List.setIfInBounds_toArray, List.set_cons_zero, List.set_cons_succ]
            refine wpAnyH_ready (rs := [6]) (by kernel_rfl) (by simp) ?_
            refine ready_held rfl (fun K hK => ?_)
            go_simp
            go_at_call 25
            (with_reducible refine HSC.out.mono ?_)
            rintro e w13 ⟨rfl, k13⟩
            have K13 : Keep Nope w11 w13 := K12.then' k13
            refine hK _ _ ?_ (fun hHeld => ?_)
            · (try dsimp only); (exact keepc K13 x0)
            clear hK K
            try simp only [Act.put, List.setIfInBounds_toArray, List.set_cons_zero, List.set_cons_succ]
            refine tko 7 ?_; refine tko 8 ?_; refine tko 9 ?_; refine tko 10 ?_; refine tko 11 ?_; refine tko 12 ?_; refine tko 13 ?_; refine tko 14 ?_; refine tko 15 ?_; refine tko 16 ?_; refine tko 17 ?_; refine tko 18 ?_; refine tko 19 ?_
            try simp only [Act.put, List.setIfInBounds_toArray, List.set_cons_zero, List.set_cons_succ]
            refine tko 20 ?_; refine tko 21 ?_; refine tko 22 ?_; refine tko 23 ?_; refine tko 24 ?_
            try simp only [Act.put, List.setIfInBounds_toArray, List.set_cons_zero, List.set_cons_succ]
            refine wpAnyH_ready (rs := [25]) (by kernel_rfl) (by simp) ?_
            refine ready_held rfl (fun K hK => ?_)
            go_simp
            go_at_call 16
            (with_reducible refine (HGr.out _ (HK11.out.then' K13)).mono ?_)
            rintro e w13 ⟨rfl, rfl⟩
            refine hK _ _ ?_ (fun hHeld => ?_)
            · (try dsimp only); (exact hHeld)
            clear hK K
            try simp only [Act.put, List.setIfInBounds_toArray, List.set_cons_zero, List.set_cons_succ]
            refine tko 26 ?_; refine tko 27 ?_; refine tko 28 ?_; refine tko 29 ?_; refine tko 30 ?_
            try simp only [Act.put, List.setIfInBounds_toArray, List.set_cons_zero, List.set_cons_succ]
            refine wpAnyH_ready (rs := [31]) (by kernel_rfl) (by simp) ?_
            refine ready_held rfl (fun K hK => ?_)
            go_simp
            go_at_call 8
            (with_reducible refine (alive10 _ (HF.out.keepN (HK9.out.then' (HK11.out.then' K13)))).mono ?_)
            rintro e w14 ⟨rfl, k14⟩
            have K14 : Keep Nope w11 w14 := K13.then' k14
            refine hK _ _ ?_ (fun hHeld => ?_)
            · (try dsimp only); (exact keepc K14 x0)
            clear hK K
            try simp only [Act.put, List.setIfInBounds_toArray, List.set_cons_zero, List.set_cons_succ]
            refine tko 32 ?_; refine tko 33 ?_
            try simp only [Act.put, List.setIfInBounds_toArray, List.set_cons_zero, List.set_cons_succ]
            refine wpAnyH_done (by kernel_rfl) ?_ _
            go_wp2
            go_ret
            exact ⟨rfl, HK9.out.then' (HK11.out.then' K14)⟩

end Go.Proofs.YtllpibknkajfnaaGreatDoor
