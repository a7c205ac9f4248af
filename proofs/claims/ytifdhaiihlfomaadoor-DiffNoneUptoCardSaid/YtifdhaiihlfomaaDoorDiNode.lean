/-
  diff.node, walked in company: it sends where two nodes differ.
-/
import Derived.Test.YtifdhaiihlfomaaDoorDiTold
import Derived.Test.YtifdhaiihlfomaaDoorDiRowsU
namespace Go.Proofs.YtifdhaiihlfomaaDoor
open Go Go.Conc Go.RowKit
set_option linter.unusedVariables false

/-- One block more. -/
def addB (B : Nat → Obj → Prop) (g : Nat) (o : Obj) : Nat → Obj → Prop := fun k x => B k x ∨ (k = g ∧ x = o)
theorem Bks.add {Low base : Nat} {own : Obj → Bool} {B : Nat → Obj → Prop} (hb : Bks Low base own B) {g : Nat} {o : Obj} (hg : base ≤ g) (ho : own o = false) : Bks Low (g + 1) own (addB B g o) := by
  have hl := hb.low
  refine ⟨by omega, ?_⟩
  rintro k x (h | ⟨rfl, rfl⟩)
  · obtain ⟨h1, h2, h3⟩ := hb.all k x h
    exact ⟨h1, by omega, h3⟩
  · exact ⟨by omega, by omega, ho⟩
theorem Kb.add {c Low base : Nat} {B : Nat → Obj → Prop} {w₀ w : World} {own : Obj → Bool} (hb : Bks Low base own B) (h : Kb c Low base B w₀ w) (o : Obj) : Kb c Low (w.heap.size + 1) (addB B w.heap.size o) w₀ (w.alloc o) := by
  have h2 := h.push hb o
  refine ⟨h2.kn, by simp, ?_⟩
  rintro k x (hk | ⟨rfl, rfl⟩)
  · exact h2.mine k x hk
  · exact Array.getElem?_push_size
theorem Kb.weak {c Low base : Nat} {B : Nat → Obj → Prop} {w₀ w : World} {g : Nat} {o : Obj} (h : Kb c Low (g + 1) (addB B g o) w₀ w) (hg : base ≤ g) : Kb c Low base B w₀ w :=
  ⟨h.kn, by have := h.size; omega, fun k x hk => h.mine k x (.inl hk)⟩
theorem cell_at {w : World} {g i : Nat} {cs : Array Value} {e : TypeId} {v : Value} (h : w.heap[g]? = some (.cells cs e)) (hi : cs[i]? = some v) : w.cell? ⟨g, i, none⟩ = some v := by
  simp [World.cell?, h, hi]

/-- A node as it comes in. -/
structure NodeV where
  ty : Int
  ln : Int
  wv : Value
  rv : Value
  ws : List Int
  rs : List Int
def NodeV.val (x : NodeV) : Value := .agg #[.int .i64 x.ty, .int .i64 x.ln, x.wv, x.rv]
def NodeV.obj (x : NodeV) : Obj := .cells #[.int .i64 x.ty, .int .i64 x.ln, x.wv, x.rv] 41
structure NodeOk (c Low : Nat) (w₀ : World) (x : NodeV) : Prop where
  words : ArgOf Tryd.prog c Low w₀ 39 .u64 x.wv x.ws.length x.ws
  refs : ArgOf Tryd.prog c Low w₀ 23 .i64 x.rv x.rs.length x.rs
  w1 : ∃ a l cp, x.wv = .slice a l cp
  r1 : ∃ a l cp, x.rv = .slice a l cp
  wl : x.ws.length ≤ 4000000000
  rl : x.rs.length ≤ 4000000000
/-- What is told of two rows. -/
def rowL (kd : Int) (n : Nat) (zs ys : List Int) : List Value := (drow zs.length ys.length zs ys (max zs.length ys.length)).map (dV kd n)
/-- What is told of two nodes. -/
def nodeL (n : Nat) (x y : NodeV) : List Value :=
  (if x.ty = y.ty then [] else [dV 1 n 0]) ++ ((if x.ln = y.ln then [] else [dV 2 n 0]) ++ (rowL 3 n x.ws y.ws ++ rowL 4 n x.rs y.rs))

theorem wpS_mid {P : Program} {ch Low : Nat} {own : Obj → Bool} {fn : FuncId} {Q : Exit → Act → World → Prop} {a : Act} {w : World} {x y : Code} {n₁ n₂ : Nat} {vs₁ vs₂ : List Value} (M : Act → World → Prop) (hx : wpS P ch Low own fn x n₁ vs₁ (thenS M vs₂ Q) a w) (hy : ∀ a' w', M a' w' → wpS P ch Low own fn y n₂ vs₂ Q a' w') :
    wpS P ch Low own fn (.seq x y) (n₁ + n₂ + 1) (vs₁ ++ vs₂) Q a w :=
  wpS_seq (wpS_mono hx fun e a' w' q => by cases e <;> first | exact hy _ _ q | exact q)

set_option maxRecDepth 100000 in
set_option maxHeartbeats 4000000 in
theorem node_c {c Low : Nat} {own : Obj → Bool} {w₀ : World} (hcL : c < Low) (hko : ∀ e, e ≠ 27 → ∀ cs fz, own (.cells cs e fz) = false) (n : Nat) (x y : NodeV) (hx : NodeOk c Low w₀ x) (hy : NodeOk c Low w₀ y) :
    ∃ r, ∀ (base : Nat) (B : Nat → Obj → Prop) w, Bks Low base own B → Kb c Low base B w₀ w → CallsS Tryd.prog c Low own 35 #[.chan (some c), .int .i64 (n : Int), x.val, y.val] r (nodeL n x y) w fun _ w' => Kb c Low base B w₀ w' := by
  have hk : ∀ cs fz, own (.cells cs 3 fz) = false := hko _ (by decide)
  obtain ⟨rU, hU⟩ := rowsU_c hcL hk hx.wl hy.wl hx.words hy.words
  obtain ⟨rI, hI⟩ := rowsI_c hcL hk hx.rl hy.rl hx.refs hy.refs
  have hmw : max x.ws.length y.ws.length ≤ 4000000000 := by have := hx.wl; have := hy.wl; omega
  have hmr : max x.rs.length y.rs.length ≤ 4000000000 := by have := hx.rl; have := hy.rl; omega
  obtain ⟨t3, h3⟩ := told_c (w₀ := w₀) hcL hk 3 n (drow x.ws.length y.ws.length x.ws y.ws (max x.ws.length y.ws.length)) (Nat.le_trans (drow_le ..) hmw)
  obtain ⟨t4, h4⟩ := told_c (w₀ := w₀) hcL hk 4 n (drow x.rs.length y.rs.length x.rs y.rs (max x.rs.length y.rs.length)) (Nat.le_trans (drow_le ..) hmr)
  have hF0 : True := trivial
  clear hF0
  obtain ⟨xt, xn, xw, xr, xws, xrs⟩ := x
  obtain ⟨yt, yn, yw, yr, yws, yrs⟩ := y
  obtain ⟨xwa, xwl, xwc, hxw⟩ := hx.w1
  obtain ⟨ywa, ywl, ywc, hyw⟩ := hy.w1
  obtain ⟨xra, xrl, xrc, hxr⟩ := hx.r1
  obtain ⟨yra, yrl, yrc, hyr⟩ := hy.r1
  dsimp only at hxw hyw hxr hyr hU hI h3 h4
  subst hxw hyw hxr hyr
  clear hmw hmr hx hy
  co_apply Exists.intro
  intro base B w hb hF
  co_apply callsS_of_wpS Tryd.func35 (by rfl) rfl
  simp only [Tryd.ntmps35, NodeV.val, nodeL, List.size_toArray, List.length_cons, List.length_nil, Nat.reduceAdd, Nat.reduceSub, Array.replicate_succ, Array.replicate_zero, List.push_toArray, List.append_toArray, List.nil_append, List.cons_append]
  co_apply wpS_stmt
  intro KK hKK
  simp only [List.size_toArray, List.length_cons, List.length_nil, Nat.reduceAdd, Nat.zero_add, List.range, List.range.loop]
  co_opw (Kb.oth hb) hF (skip) (refine ⟨oth_push hF.kn.size (hko _ (by decide) _ _), ?_, ?_⟩; exact Below.heap_alloc _ _ _ (Nat.lt_of_lt_of_le hcL hF.kn.size); co_evs (skip))
  rename_i wA
  have hS := hF.add hb (.cells #[.int .i64 xt, .int .i64 xn, .slice xwa xwl xwc, .slice xra xrl xrc] 41)
  have hb6 := hb.add hF.size (o := (.cells #[.int .i64 xt, .int .i64 xn, .slice xwa xwl xwc, .slice xra xrl xrc] 41)) (hko _ (by decide) _ _)
  have hg6 := hF.size
  clear hF
  generalize wA.heap.size = g6 at hS hb6 hg6 ⊢
  co_opw (Kb.oth hb6) hS (skip) (refine ⟨oth_push hS.kn.size (hko _ (by decide) _ _), ?_, ?_⟩; exact Below.heap_alloc _ _ _ (Nat.lt_of_lt_of_le hcL hS.kn.size); co_evs (skip))
  rename_i wB
  replace hF := hS.add hb6 (.cells #[.int .i64 yt, .int .i64 yn, .slice ywa ywl ywc, .slice yra yrl yrc] 41)
  have hb7 := hb6.add hS.size (o := (.cells #[.int .i64 yt, .int .i64 yn, .slice ywa ywl ywc, .slice yra yrl yrc] 41)) (hko _ (by decide) _ _)
  have hg7 := hS.size
  clear hS
  generalize wB.heap.size = g7 at hF hb7 hg7 ⊢
  have hS := hF
  clear hF
  co_apply opsC_nil (termsO c Low own false)
  refine hKK.out _ _ ?_
  clear hKK KK
  co_apply wpS_mid (fun a' w' => ∃ u2 u3 u4 u5 u8 u9 u10 u11 u12 u13 u14 u15 u16 u17 u18 u19 u20 u21 u22 u23 u24 u25 u26 u27 u28 u29 u30 u31 u32 u33 u34 u35 u36 u37 u38 u39 : Value, Kb c Low (g7 + 1) (addB (addB B g6 (.cells #[.int .i64 xt, .int .i64 xn, .slice xwa xwl xwc, .slice xra xrl xrc] 41)) g7 (.cells #[.int .i64 yt, .int .i64 yn, .slice ywa ywl ywc, .slice yra yrl yrc] 41)) w₀ w' ∧ a' = { tmps := #[.chan (some c), .int .i64 (n : Int), u2, u3, u4, u5, .pointer (some ⟨g6, 0, none⟩), .pointer (some ⟨g7, 0, none⟩), u8, u9, u10, u11, u12, u13, u14, u15, u16, u17, u18, u19, u20, u21, u22, u23, u24, u25, u26, u27, u28, u29, u30, u31, u32, u33, u34, u35, u36, u37, u38, u39], defers := [] })
  · co_apply wpS_cases (p := xt = yt)
    · intro he
      rw [if_pos he]
      co_apply wpS_stmt
      intro KK hKK
      simp only [List.size_toArray, List.length_cons, List.length_nil, Nat.reduceAdd, Nat.zero_add, List.range, List.range.loop]
      co_opw (Kb.oth hb7) hS (skip) (co_still (termsO c Low own false))
      co_opw (Kb.oth hb7) hS (have hm := hS.mine g6 _ (.inl (.inr ⟨rfl, rfl⟩)); have hcc := cell_at hm (i := 0) rfl) ((refine ⟨Oth.refl .., rfl, ?_⟩; co_evs (exact evO_read (.inr ⟨(hb7.all g6 _ (.inl (.inr ⟨rfl, rfl⟩))).1, _, hm, hko _ (by decide) _ _⟩))))
      clear hm hcc
      co_opw (Kb.oth hb7) hS (skip) (co_still (termsO c Low own false))
      co_opw (Kb.oth hb7) hS (have hm := hS.mine g7 _ (.inr ⟨rfl, rfl⟩); have hcc := cell_at hm (i := 0) rfl) ((refine ⟨Oth.refl .., rfl, ?_⟩; co_evs (exact evO_read (.inr ⟨(hb7.all g7 _ (.inr ⟨rfl, rfl⟩)).1, _, hm, hko _ (by decide) _ _⟩))))
      clear hm hcc
      co_opw (Kb.oth hb7) hS (skip) (co_still (termsO c Low own false))
      co_apply opsC_nil (termsO c Low own false)
      refine hKK.out _ _ ?_
      clear hKK KK
      co_apply wpS_false (by rfl)
      co_apply wpS_skip
      exact ⟨_, _, _, _, _, _, _, _, _, _, _, _, _, _, _, _, _, _, _, _, _, _, _, _, _, _, _, _, _, _, _, _, _, _, _, _, hS, rfl⟩
    · intro he
      rw [if_neg he]
      have hne : (xt != yt) = true := by simp [he]
      co_apply wpS_stmt
      intro KK hKK
      simp only [List.size_toArray, List.length_cons, List.length_nil, Nat.reduceAdd, Nat.zero_add, List.range, List.range.loop]
      co_opw (Kb.oth hb7) hS (skip) (co_still (termsO c Low own false))
      co_opw (Kb.oth hb7) hS (have hm := hS.mine g6 _ (.inl (.inr ⟨rfl, rfl⟩)); have hcc := cell_at hm (i := 0) rfl) ((refine ⟨Oth.refl .., rfl, ?_⟩; co_evs (exact evO_read (.inr ⟨(hb7.all g6 _ (.inl (.inr ⟨rfl, rfl⟩))).1, _, hm, hko _ (by decide) _ _⟩))))
      clear hm hcc
      co_opw (Kb.oth hb7) hS (skip) (co_still (termsO c Low own false))
      co_opw (Kb.oth hb7) hS (have hm := hS.mine g7 _ (.inr ⟨rfl, rfl⟩); have hcc := cell_at hm (i := 0) rfl) ((refine ⟨Oth.refl .., rfl, ?_⟩; co_evs (exact evO_read (.inr ⟨(hb7.all g7 _ (.inr ⟨rfl, rfl⟩)).1, _, hm, hko _ (by decide) _ _⟩))))
      clear hm hcc
      co_opw (Kb.oth hb7) hS (skip) (co_still (termsO c Low own false))
      co_apply opsC_nil (termsO c Low own false)
      refine hKK.out _ _ ?_
      clear hKK KK
      co_apply wpS_true (by rfl)
      co_apply wpS_sends
      intro KK hKK
      simp only [List.size_toArray, List.length_cons, List.length_nil, Nat.reduceAdd, Nat.zero_add, List.range, List.range.loop]
      co_apply opsS_cons_k rfl (by rfl)
      intro _ hR K hK
      replace hS := (Kb.oth hb7) hS hR
      clear hR
      skip
      go_simp
      try (unfold stored; go_simp)
      refine hK _ _ ⟨?_, ?_⟩
      · co_still (termsO c Low own false)
      clear hK K
      try walk_nrm
      co_apply opsS_cons_k rfl (by rfl)
      intro _ hR K hK
      replace hS := (Kb.oth hb7) hS hR
      clear hR
      skip
      go_simp
      try (unfold stored; go_simp)
      refine hK _ _ ⟨?_, ?_⟩
      · co_still (termsO c Low own false)
      clear hK K
      try walk_nrm
      co_apply opsS_cons_k rfl (by rfl)
      intro _ hR K hK
      replace hS := (Kb.oth hb7) hS hR
      clear hR
      skip
      go_simp
      try (unfold stored; go_simp)
      refine hK _ _ ⟨?_, ?_⟩
      · co_still (termsO c Low own false)
      clear hK K
      try walk_nrm
      co_apply opsS_send rfl (by rfl) rfl (by rfl) (by rfl)
      co_apply opsS_nil
      refine hKK.out _ _ ?_
      clear hKK KK
      exact ⟨_, _, _, _, _, _, _, _, _, _, _, _, _, _, _, _, _, _, _, _, _, _, _, _, _, _, _, _, _, _, _, _, _, _, _, _, hS, rfl⟩
  · rintro a' w'' ⟨u2, u3, u4, u5, u8, u9, u10, u11, u12, u13, u14, u15, u16, u17, u18, u19, u20, u21, u22, u23, u24, u25, u26, u27, u28, u29, u30, u31, u32, u33, u34, u35, u36, u37, u38, u39, hS, rfl⟩
    co_apply wpS_mid (fun a' w' => ∃ u2 u3 u4 u5 u8 u9 u10 u11 u12 u13 u14 u15 u16 u17 u18 u19 u20 u21 u22 u23 u24 u25 u26 u27 u28 u29 u30 u31 u32 u33 u34 u35 u36 u37 u38 u39 : Value, Kb c Low (g7 + 1) (addB (addB B g6 (.cells #[.int .i64 xt, .int .i64 xn, .slice xwa xwl xwc, .slice xra xrl xrc] 41)) g7 (.cells #[.int .i64 yt, .int .i64 yn, .slice ywa ywl ywc, .slice yra yrl yrc] 41)) w₀ w' ∧ a' = { tmps := #[.chan (some c), .int .i64 (n : Int), u2, u3, u4, u5, .pointer (some ⟨g6, 0, none⟩), .pointer (some ⟨g7, 0, none⟩), u8, u9, u10, u11, u12, u13, u14, u15, u16, u17, u18, u19, u20, u21, u22, u23, u24, u25, u26, u27, u28, u29, u30, u31, u32, u33, u34, u35, u36, u37, u38, u39], defers := [] })
    · co_apply wpS_cases (p := xn = yn)
      · intro he
        rw [if_pos he]
        co_apply wpS_stmt
        intro KK hKK
        simp only [List.size_toArray, List.length_cons, List.length_nil, Nat.reduceAdd, Nat.zero_add, List.range, List.range.loop]
        co_opw (Kb.oth hb7) hS (skip) (co_still (termsO c Low own false))
        co_opw (Kb.oth hb7) hS (have hm := hS.mine g6 _ (.inl (.inr ⟨rfl, rfl⟩)); have hcc := cell_at hm (i := 1) rfl) ((refine ⟨Oth.refl .., rfl, ?_⟩; co_evs (exact evO_read (.inr ⟨(hb7.all g6 _ (.inl (.inr ⟨rfl, rfl⟩))).1, _, hm, hko _ (by decide) _ _⟩))))
        clear hm hcc
        co_opw (Kb.oth hb7) hS (skip) (co_still (termsO c Low own false))
        co_opw (Kb.oth hb7) hS (have hm := hS.mine g7 _ (.inr ⟨rfl, rfl⟩); have hcc := cell_at hm (i := 1) rfl) ((refine ⟨Oth.refl .., rfl, ?_⟩; co_evs (exact evO_read (.inr ⟨(hb7.all g7 _ (.inr ⟨rfl, rfl⟩)).1, _, hm, hko _ (by decide) _ _⟩))))
        clear hm hcc
        co_opw (Kb.oth hb7) hS (skip) (co_still (termsO c Low own false))
        co_apply opsC_nil (termsO c Low own false)
        refine hKK.out _ _ ?_
        clear hKK KK
        co_apply wpS_false (by rfl)
        co_apply wpS_skip
        exact ⟨_, _, _, _, _, _, _, _, _, _, _, _, _, _, _, _, _, _, _, _, _, _, _, _, _, _, _, _, _, _, _, _, _, _, _, _, hS, rfl⟩
      · intro he
        rw [if_neg he]
        have hne : (xn != yn) = true := by simp [he]
        co_apply wpS_stmt
        intro KK hKK
        simp only [List.size_toArray, List.length_cons, List.length_nil, Nat.reduceAdd, Nat.zero_add, List.range, List.range.loop]
        co_opw (Kb.oth hb7) hS (skip) (co_still (termsO c Low own false))
        co_opw (Kb.oth hb7) hS (have hm := hS.mine g6 _ (.inl (.inr ⟨rfl, rfl⟩)); have hcc := cell_at hm (i := 1) rfl) ((refine ⟨Oth.refl .., rfl, ?_⟩; co_evs (exact evO_read (.inr ⟨(hb7.all g6 _ (.inl (.inr ⟨rfl, rfl⟩))).1, _, hm, hko _ (by decide) _ _⟩))))
        clear hm hcc
        co_opw (Kb.oth hb7) hS (skip) (co_still (termsO c Low own false))
        co_opw (Kb.oth hb7) hS (have hm := hS.mine g7 _ (.inr ⟨rfl, rfl⟩); have hcc := cell_at hm (i := 1) rfl) ((refine ⟨Oth.refl .., rfl, ?_⟩; co_evs (exact evO_read (.inr ⟨(hb7.all g7 _ (.inr ⟨rfl, rfl⟩)).1, _, hm, hko _ (by decide) _ _⟩))))
        clear hm hcc
        co_opw (Kb.oth hb7) hS (skip) (co_still (termsO c Low own false))
        co_apply opsC_nil (termsO c Low own false)
        refine hKK.out _ _ ?_
        clear hKK KK
        co_apply wpS_true (by rfl)
        co_apply wpS_sends
        intro KK hKK
        simp only [List.size_toArray, List.length_cons, List.length_nil, Nat.reduceAdd, Nat.zero_add, List.range, List.range.loop]
        co_apply opsS_cons_k rfl (by rfl)
        intro _ hR K hK
        replace hS := (Kb.oth hb7) hS hR
        clear hR
        skip
        go_simp
        try (unfold stored; go_simp)
        refine hK _ _ ⟨?_, ?_⟩
        · co_still (termsO c Low own false)
        clear hK K
        try walk_nrm
        co_apply opsS_cons_k rfl (by rfl)
        intro _ hR K hK
        replace hS := (Kb.oth hb7) hS hR
        clear hR
        skip
        go_simp
        try (unfold stored; go_simp)
        refine hK _ _ ⟨?_, ?_⟩
        · co_still (termsO c Low own false)
        clear hK K
        try walk_nrm
        co_apply opsS_cons_k rfl (by rfl)
        intro _ hR K hK
        replace hS := (Kb.oth hb7) hS hR
        clear hR
        skip
        go_simp
        try (unfold stored; go_simp)
        refine hK _ _ ⟨?_, ?_⟩
        · co_still (termsO c Low own false)
        clear hK K
        try walk_nrm
        co_apply opsS_send rfl (by rfl) rfl (by rfl) (by rfl)
        co_apply opsS_nil
        refine hKK.out _ _ ?_
        clear hKK KK
        exact ⟨_, _, _, _, _, _, _, _, _, _, _, _, _, _, _, _, _, _, _, _, _, _, _, _, _, _, _, _, _, _, _, _, _, _, _, _, hS, rfl⟩
    · rintro a' w'' ⟨u2, u3, u4, u5, u8, u9, u10, u11, u12, u13, u14, u15, u16, u17, u18, u19, u20, u21, u22, u23, u24, u25, u26, u27, u28, u29, u30, u31, u32, u33, u34, u35, u36, u37, u38, u39, hS, rfl⟩
      co_apply wpS_mid (fun a' w' => ∃ u2 u3 u4 u5 u8 u9 u10 u11 u12 u13 u14 u15 u16 u17 u18 u19 u20 u21 u22 u23 u24 u25 u26 u27 u28 u29 u30 u31 u32 u33 u34 u35 u36 u37 u38 u39 : Value, Kb c Low (g7 + 1) (addB (addB B g6 (.cells #[.int .i64 xt, .int .i64 xn, .slice xwa xwl xwc, .slice xra xrl xrc] 41)) g7 (.cells #[.int .i64 yt, .int .i64 yn, .slice ywa ywl ywc, .slice yra yrl yrc] 41)) w₀ w' ∧ a' = { tmps := #[.chan (some c), .int .i64 (n : Int), u2, u3, u4, u5, .pointer (some ⟨g6, 0, none⟩), .pointer (some ⟨g7, 0, none⟩), u8, u9, u10, u11, u12, u13, u14, u15, u16, u17, u18, u19, u20, u21, u22, u23, u24, u25, u26, u27, u28, u29, u30, u31, u32, u33, u34, u35, u36, u37, u38, u39], defers := [] })
      · co_apply wpS_sends
        intro KK hKK
        simp only [List.size_toArray, List.length_cons, List.length_nil, Nat.reduceAdd, Nat.zero_add, List.range, List.range.loop]
        co_apply opsS_cons_k rfl (by rfl)
        intro _ hR K hK
        replace hS := (Kb.oth hb7) hS hR
        clear hR
        skip
        go_simp
        try (unfold stored; go_simp)
        refine hK _ _ ⟨?_, ?_⟩
        · co_still (termsO c Low own false)
        clear hK K
        try walk_nrm
        co_apply opsS_cons_k rfl (by rfl)
        intro _ hR K hK
        replace hS := (Kb.oth hb7) hS hR
        clear hR
        skip
        go_simp
        try (unfold stored; go_simp)
        refine hK _ _ ⟨?_, ?_⟩
        · co_still (termsO c Low own false)
        clear hK K
        try walk_nrm
        co_apply opsS_cons_k rfl (by rfl)
        intro _ hR K hK
        replace hS := (Kb.oth hb7) hS hR
        clear hR
        skip
        go_simp
        try (unfold stored; go_simp)
        refine hK _ _ ⟨?_, ?_⟩
        · co_still (termsO c Low own false)
        clear hK K
        try walk_nrm
        co_apply opsS_cons_k rfl (by rfl)
        intro _ hR K hK
        replace hS := (Kb.oth hb7) hS hR
        clear hR
        have hm := hS.mine g6 _ (.inl (.inr ⟨rfl, rfl⟩)); have hcc := cell_at hm (i := 2) rfl
        go_simp
        try (unfold stored; go_simp)
        refine hK _ _ ⟨?_, ?_⟩
        · (refine ⟨Oth.refl .., rfl, ?_⟩; co_evs (exact evO_read (.inr ⟨(hb7.all g6 _ (.inl (.inr ⟨rfl, rfl⟩))).1, _, hm, hko _ (by decide) _ _⟩)))
        clear hK K
        try walk_nrm
        clear hm hcc
        co_apply opsS_cons_k rfl (by rfl)
        intro _ hR K hK
        replace hS := (Kb.oth hb7) hS hR
        clear hR
        skip
        go_simp
        try (unfold stored; go_simp)
        refine hK _ _ ⟨?_, ?_⟩
        · co_still (termsO c Low own false)
        clear hK K
        try walk_nrm
        co_apply opsS_cons_k rfl (by rfl)
        intro _ hR K hK
        replace hS := (Kb.oth hb7) hS hR
        clear hR
        have hm := hS.mine g7 _ (.inr ⟨rfl, rfl⟩); have hcc := cell_at hm (i := 2) rfl
        go_simp
        try (unfold stored; go_simp)
        refine hK _ _ ⟨?_, ?_⟩
        · (refine ⟨Oth.refl .., rfl, ?_⟩; co_evs (exact evO_read (.inr ⟨(hb7.all g7 _ (.inr ⟨rfl, rfl⟩)).1, _, hm, hko _ (by decide) _ _⟩)))
        clear hK K
        try walk_nrm
        clear hm hcc
        co_apply opsS_callC rfl (by rfl) rfl (by simp [Act.eval]) (hU (g7 + 1) _ _ hb7 hS)
        clear hS
        intro v w₅ hH
        try walk_nrm
        co_apply opsS_callL rfl (by rfl) rfl (by simp [Act.eval]) (h3 (g7 + 1) _ v _ hb7 hH)
        clear hH
        intro v₂ w₆ hS
        try walk_nrm
        co_apply opsS_nil
        refine hKK.out _ _ ?_
        clear hKK KK
        exact ⟨_, _, _, _, _, _, _, _, _, _, _, _, _, _, _, _, _, _, _, _, _, _, _, _, _, _, _, _, _, _, _, _, _, _, _, _, hS, rfl⟩
      · rintro a' w'' ⟨u2, u3, u4, u5, u8, u9, u10, u11, u12, u13, u14, u15, u16, u17, u18, u19, u20, u21, u22, u23, u24, u25, u26, u27, u28, u29, u30, u31, u32, u33, u34, u35, u36, u37, u38, u39, hS, rfl⟩
        co_apply wpS_sends
        intro KK hKK
        simp only [List.size_toArray, List.length_cons, List.length_nil, Nat.reduceAdd, Nat.zero_add, List.range, List.range.loop]
        co_apply opsS_cons_k rfl (by rfl)
        intro _ hR K hK
        replace hS := (Kb.oth hb7) hS hR
        clear hR
        skip
        go_simp
        try (unfold stored; go_simp)
        refine hK _ _ ⟨?_, ?_⟩
        · co_still (termsO c Low own false)
        clear hK K
        try walk_nrm
        co_apply opsS_cons_k rfl (by rfl)
        intro _ hR K hK
        replace hS := (Kb.oth hb7) hS hR
        clear hR
        skip
        go_simp
        try (unfold stored; go_simp)
        refine hK _ _ ⟨?_, ?_⟩
        · co_still (termsO c Low own false)
        clear hK K
        try walk_nrm
        co_apply opsS_cons_k rfl (by rfl)
        intro _ hR K hK
        replace hS := (Kb.oth hb7) hS hR
        clear hR
        skip
        go_simp
        try (unfold stored; go_simp)
        refine hK _ _ ⟨?_, ?_⟩
        · co_still (termsO c Low own false)
        clear hK K
        try walk_nrm
        co_apply opsS_cons_k rfl (by rfl)
        intro _ hR K hK
        replace hS := (Kb.oth hb7) hS hR
        clear hR
        have hm := hS.mine g6 _ (.inl (.inr ⟨rfl, rfl⟩)); have hcc := cell_at hm (i := 3) rfl
        go_simp
        try (unfold stored; go_simp)
        refine hK _ _ ⟨?_, ?_⟩
        · (refine ⟨Oth.refl .., rfl, ?_⟩; co_evs (exact evO_read (.inr ⟨(hb7.all g6 _ (.inl (.inr ⟨rfl, rfl⟩))).1, _, hm, hko _ (by decide) _ _⟩)))
        clear hK K
        try walk_nrm
        clear hm hcc
        co_apply opsS_cons_k rfl (by rfl)
        intro _ hR K hK
        replace hS := (Kb.oth hb7) hS hR
        clear hR
        skip
        go_simp
        try (unfold stored; go_simp)
        refine hK _ _ ⟨?_, ?_⟩
        · co_still (termsO c Low own false)
        clear hK K
        try walk_nrm
        co_apply opsS_cons_k rfl (by rfl)
        intro _ hR K hK
        replace hS := (Kb.oth hb7) hS hR
        clear hR
        have hm := hS.mine g7 _ (.inr ⟨rfl, rfl⟩); have hcc := cell_at hm (i := 3) rfl
        go_simp
        try (unfold stored; go_simp)
        refine hK _ _ ⟨?_, ?_⟩
        · (refine ⟨Oth.refl .., rfl, ?_⟩; co_evs (exact evO_read (.inr ⟨(hb7.all g7 _ (.inr ⟨rfl, rfl⟩)).1, _, hm, hko _ (by decide) _ _⟩)))
        clear hK K
        try walk_nrm
        clear hm hcc
        co_apply opsS_callC rfl (by rfl) rfl (by simp [Act.eval]) (hI (g7 + 1) _ _ hb7 hS)
        clear hS
        intro v w₅ hH
        try walk_nrm
        co_apply opsS_callL rfl (by rfl) rfl (by simp [Act.eval]) (h4 (g7 + 1) _ v _ hb7 hH)
        clear hH
        intro v₂ w₆ hS
        try walk_nrm
        co_apply opsS_nil
        refine hKK.out _ _ ?_
        clear hKK KK
        exact ⟨rfl, _, resultsC_none (by rfl) _, (hS.weak hg7).weak hg6⟩

end Go.Proofs.YtifdhaiihlfomaaDoor
