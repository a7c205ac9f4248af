/-
 mark: Of marks what roots reach.
 mark: the laws' helpers: the bits that are set, and the roots.
 mark: Of's refusals; more roots reach no less.
 mark: the roots of the laws are objects; a row that is owned as an argument of Of.
 append of a row of whole numbers, empty ones and nil too, to a row that one owns.
-/
import Derived.Test.YtgccjhnafhlndaaGreatDoorMarkA
import Derived.Test.YtgccjhnafhlndaaGreatDoorRowsA
import Derived.Conc.SmallLaws
import Derived.Test.YtgccjhnafhlndaaGreatDoorObjects
import Derived.Test.YtgccjhnafhlndaaGreatDoorTablesA
import Derived.Test.YtgccjhnafhlndaaGreatDoorInts
namespace Go.Proofs.YtgccjhnafhlndaaGreatDoor
open Go.RowKit Go.Conc
set_option linter.unusedVariables false

def Bh (w : World) (v : Value) (xs : List Nat) : Prop :=
 ∃ a cap, v = .slice a xs.length cap /\ ∀ i x, xs[i]? = some x -> ∃ b o, a = some ⟨b, o, none⟩ /\ w.cell? ⟨b, o + i, none⟩ = some (.int .i64 (x : Nat))

theorem Bh.Ac {w w' : World} {v : Value} {xs : List Nat} (h : Bh w v xs) (k : Keep Aa w w') : Bh w' v xs := by
 obtain ⟨a, cap, hv, h⟩ := h
 exact ⟨a, cap, hv, λ i x hx => by
  obtain ⟨b, o, h1, h2⟩ := h i x hx
  exact ⟨b, o, h1, k.cell h2 (λ h => h)⟩⟩

def DN (cs : List Cel) (g : Nat) : Prop := ∃ c ∈ cs, c.tag = 1 /\ c.g = g

theorem objG_find {cs : List Cel} {g : Nat} (h : DN cs g) : ∃ c, cs.find? (λ c => c.tag == 1 && c.g == g) = some c /\ c ∈ cs /\ c.tag = 1 /\ c.g = g := by
 obtain ⟨c, h1, h2, h3⟩ := h
 cases hf : cs.find? (λ c => c.tag == 1 && c.g == g) with
 | none =>
  have := List.find?_eq_none.1 hf c h1
  simp [h2, h3] at this
 | some x =>
  have h4 := List.find?_some hf
  simp only [Bool.and_eq_true, beq_iff_eq] at h4
  exact ⟨x, rfl, List.mem_of_find?_eq_some hf, h4.1, h4.2⟩

theorem objG_start {cs : List Cel} {g : Nat} : DN cs g ↔ Aq cs g = true := by
 unfold DN Aq
 simp

theorem MInv.all {KF : Nat -> List Nat} {T rs : Nat -> Prop} {cap : Nat} {S : MS} (h : MInv KF T rs cap (λ _ => False) S) (h1 : S.stk = []) (h2 : S.full = false) (h3 : ∀ g, rs g -> S.f g = true) (g : Nat) : S.f g = true ↔ MReach KF rs g := by
 refine ⟨λ e => (h.re g e).2, λ e => ?_⟩
 induction e with
 | root hg => exact h3 _ hg
 | step _ hk ih =>
  rcases h.cl h2 _ ih with e | e | e
  ·rw [h1] at e
   cases e
  ·exact e.elim
  ·exact e _ hk

open Go.RowKit

def BytesIn (w : World) (v : Value) (n : Nat) (ys : Nat -> Nat) : Prop :=
 ∃ a cap, v = .slice a n cap /\ ∀ i, i < n -> ∃ b o, a = some ⟨b, o, none⟩ /\ w.cell? ⟨b, o + i, none⟩ = some (.int .u8 (ys i : Nat)) /\ ys i < 256

theorem BytesIn.Ac {w w' : World} {v : Value} {n : Nat} {ys : Nat -> Nat} (h : BytesIn w v n ys) (k : Keep Aa w w') : BytesIn w' v n ys := by
 obtain ⟨a, cap, hv, h⟩ := h
 exact ⟨a, cap, hv, λ i hi => by
  obtain ⟨b, o, h1, h2, h3⟩ := h i hi
  exact ⟨b, o, h1, k.cell h2 (λ h => h), h3⟩⟩

def BP (os : List Cel) (ys : Nat -> Nat) (j : Nat) : List Nat := (List.range j).map λ i => (os[ys i % os.length]?.map Cel.g).getD 0

theorem rootsL_succ {os : List Cel} {ys : Nat -> Nat} {j : Nat} {x : Cel} (h : os[ys j % os.length]? = some x) : BP os ys (j + 1) = BP os ys j ++ [x.g] := by
 unfold BP
 rw [List.range_succ, List.map_append, List.map_singleton, h]
 rfl

theorem rootsL_len (os : List Cel) (ys : Nat -> Nat) (j : Nat) : (BP os ys j).length = j := by simp [BP]

def AJ (os : List Cel) (ys : Nat -> Nat) (n : Nat) : List Nat := if os = [] then [] else BP os ys n

set_option maxHeartbeats 4000000 in
theorem Roots20_at (P : Sp) (cs : List Cel) (w : World) (h : Bz w P cs) (hne : cs ≠ []) (v : Value) (n : Nat) (ys : Nat -> Nat) (hn : n <= 65536) (hv : BytesIn w v n ys) :
  Calls Tryz.prog 8 #[.pointer (some ⟨P.s, 0, none⟩), v] w λ e w' => ∃ a c, e = .returned (.slice a (AJ (Av cs) ys n).length c) /\ w'.ownsRow w.heap.size 3 1 (.slice a (AJ (Av cs) ys n).length c) (AJ (Av cs) ys n).length (AR (AJ (Av cs) ys n)) /\ Keep Aa w w' := by
 have HOb := sE (Objects_at P cs w h hne)
 have holen : (Av cs).length <= 65536 := by
  obtain ⟨W, f, hs, hc, -⟩ := h
  have := BI hc.tl
  have := hs.ar.small
  have : (Av cs).length <= cs.length := List.length_filter_le _ _
  omega
 obtain ⟨va, vc, rfl, hb⟩ := hv
 have HB := sE hb
 obtain ⟨os, hos⟩ : ∃ os, Av cs = os := ⟨_, rfl⟩
 rw [hos] at HOb holen ⊢
 clear h hne hb hos
 go_enter Tryz.func8, Tryz.ntmps8
 go_wp2_with fail
 refine HOb.out.mono ?_
 rintro e w1 ⟨oa, oc, rfl, hrow, k1⟩
 have HRow := sE hrow
 have HK1 := sE k1
 have z1 := k1.size
 clear hrow k1 HOb
 obtain ⟨B, hB⟩ : ∃ B, w1.heap.size = B := ⟨_, rfl⟩
 have HBw := sE hB
 obtain ⟨L, hL⟩ : ∃ L, os.length = L := ⟨_, rfl⟩
 have HL := sE hL
 rw [hL] at HRow holen
 rw [hB] at z1
 simp only [hL]
 by_cases hos : os = []
 ·have hL0 : L = 0 := by rw [<- hL, hos]; rfl
  subst hL0
  have HRo : Seal (AJ os ys n = []) := ⟨by unfold AJ; rw [if_pos hos]⟩
  clear hL hos hB
  go_wp2_with fail
  go_loopw [6, 7] (λ x6 x7 wr => x6 = .slice none 0 0 /\ x7 = .int .i64 0 /\ wr = w1) (λ _ _ _ => 0)
  case atStart => exact ⟨rfl, rfl, rfl⟩
  case round =>
   obtain ⟨rfl, rfl, rfl⟩ := hrel
   have hend : ∃ a c, (Value.slice none 0 0) = .slice a (AJ os ys n).length c /\ wr.ownsRow w.heap.size 3 1 (.slice a (AJ os ys n).length c) (AJ os ys n).length (AR (AJ os ys n)) := by
    rw [HRo.out]
    exact ⟨none, 0, rfl, World.ownsRow_nil _ _ _ _⟩
   have HEnd := sE hend
   clear hend
   clear HB
   go_wp2_with fail
   all_goals go_ret
   all_goals (obtain ⟨a, c, h1, h2⟩ := HEnd.out; exact ⟨a, c, congrArg Ending.returned h1, h2, HK1.out⟩)
 ·have hL0 : 0 < L := by
   rw [<- hL]
   exact List.length_pos_iff.2 hos
  have d0 : decide ((0 : Int) < (L : Int)) = true := decide_eq_true (by omega)
  have HRo : Seal (AJ os ys n = BP os ys n) := ⟨by unfold AJ; rw [if_neg hos]⟩
  clear hL hos hB
  go_wp2_with fail
  go_loopw [6, 7] (λ x6 x7 wr => ∃ j : Nat, j <= n /\ x7 = .int .i64 (j : Nat) /\ (∃ a m c, x6 = .slice a m c) /\ wr.ownsRow B 3 1 x6 (BP os ys j).length (AR (BP os ys j)) /\ Keep Aa w1 wr /\ B <= wr.heap.size) (λ _ x7 _ => n - (intOf x7).toNat)
  case atStart => exact ⟨0, Nat.zero_le _, rfl, ⟨_, _, _, rfl⟩, World.ownsRow_nil _ _ _ _, Keep.refl _ _, by have := HBw.out; omega⟩
  case round =>
   obtain ⟨j, hj, rfl, ⟨la, ln, lc, rfl⟩, ho, hk, hsz⟩ := hrel
   have HO := sE ho
   have HK := sE hk
   by_cases hjl : j < n
   ·have hjl' : (j : Int) < (n : Int) := by omega
    obtain ⟨yb, yo, rfl, hyc, hy⟩ := HB.out j hjl
    have hmod : ys j % L < L := Nat.mod_lt _ hL0
    have hox : os[ys j % L]? = some (os[ys j % L]'(by rw [HL.out]; exact hmod)) := List.getElem?_eq_getElem _
    obtain ⟨x, hx⟩ : ∃ x, os[ys j % L]'(by rw [HL.out]; exact hmod) = x := ⟨_, rfl⟩
    rw [hx] at hox
    obtain ⟨ra, rcap, hra, hrc⟩ := HRow.out
    injection hra with r1 r2 r3
    subst r1
    obtain ⟨rb, rfl, hrl, hcg, -, -, -, -⟩ := hrc _ _ hox
    have HAd : Seal (BP os ys (j + 1) = BP os ys j ++ [x.g]) := ⟨rootsL_succ (by rw [HL.out]; exact hox)⟩
    have HLn : Seal ((BP os ys j).length <= 65536) := ⟨by rw [rootsL_len]; omega⟩
    replace hyc := (HK1.out.then' hk).cell hyc (λ h => h)
    replace hcg := hk.cell hcg (λ h => h)
    obtain ⟨y, hyq⟩ : ∃ y, ys j = y := ⟨_, rfl⟩
    rw [hyq] at hyc hy hmod hcg
    have hrem : (y : Int) % (L : Int) = ((y % L : Nat) : Int) := by omega
    have hi1 : ((y % L : Nat) : Int) < (L : Int) := by omega
    have hne0 : ¬ (L : Int) = 0 := by omega
    obtain ⟨t, ht⟩ : ∃ t, y % L = t := ⟨_, rfl⟩
    rw [ht] at hrem hi1 hcg hmod
    clear ho hk hox hx hyq ht hrc r2 r3 hrl
    go_wp2_with (at_builtin; obtain ⟨i0, hi, hz0, hz1, hz2⟩ := info_parts Tryz.C8; go_loud (refine wpList_append_lies _ rfl (.tmp 21) (.tmp 34) 31 rfl B 3 i0 _ 1 8 Tryz.A9 hi hz0 hz1 hz2 rfl (by omega) (.slice la ln lc) (BP os ys j).length (AR (BP os ys j)) rfl (HO.out.alloc _) ⟨wr.heap.size, 0, none⟩ 1 1 [.int .i64 (x.g : Nat)] rfl rfl (World.news_of_block (World.alloc_heap_new wr _)) (by intro u hu; simp at hu; subst hu; rfl) (by omega) (by have := HLn.out; unfold maxLen; omega) (by have := HLn.out; omega) (by simp; omega) (wr.heap.size + 1) (by simp) ?_); intro gn capn w5 hown5 hgrow hat hlt; clear hi hz0 hz1 hz2; have HGr := sE hgrow; have HR5 := sE hown5; clear hown5 hgrow hat)
    have k5 : Keep (λ k => B <= k) wr w5 := ((Keep.refl Aa wr).alloc (.cells #[.int .i64 (x.g : Nat)] 3) |>.Au _).grown HGr.out (λ k e _ => (Al HO.out e).1)
    have hR : w5.ownsRow B 3 1 (.slice (some ⟨gn, 0, none⟩) ((BP os ys j).length + 1) capn) (BP os ys (j + 1)).length (AR (BP os ys (j + 1))) := by
     have := HR5.out
     rw [HAd.out, AR, List.map_append, List.length_append]
     exact this
    have hz5 := k5.size
    exact ⟨⟨j + 1, by omega, by go_num, ⟨_, _, _, rfl⟩, hR, ((HK.out.Au (λ k => B <= k)).trans k5 (λ _ _ h => h)).mono (λ i hi h => by have := HBw.out; omega), by omega⟩, by simp only [intOf]; omega⟩
   ·obtain rfl : j = n := by omega
    go_wp2_with fail
    go_ret
    obtain ⟨a', c', hv⟩ := Bd HO.out
    injection hv with v1 v2 v3
    have := C9 HO.out z1
    rw [HRo.out]
    rw [v2] at this ⊢
    exact ⟨la, lc, rfl, this, HK1.out.then' HK.out⟩

theorem MReach.mono {KF : Nat -> List Nat} {rs rt : Nat -> Prop} (h : ∀ g, rs g -> rt g) {g : Nat} (k : MReach KF rs g) : MReach KF rt g := by
 induction k with
 | root e => exact .root (h _ e)
 | step _ e ih => exact .step ih e

theorem Bh.AO {w : World} {base : Nat} {e : TypeId} {a : Option Addr} {n c : Nat} {xs : List Nat} (h : w.ownsRow base e 1 (.slice a n c) n (AR xs)) : Bh w (.slice a n c) xs := by
 have hn : xs.length = n := by have := h.1; simpa [AR] using this
 subst hn
 refine ⟨a, c, rfl, λ i x hx => ?_⟩
 obtain ⟨b, hb, hc⟩ := row_cell h hx
 exact ⟨b, 0, hb, by rw [Nat.zero_add]; exact hc⟩

theorem roots_obj {cs : List Cel} {ys : Nat -> Nat} {n : Nat} : ∀ g ∈ AJ (Av cs) ys n, DN cs g := by
 intro g hg
 unfold AJ at hg
 by_cases h0 : Av cs = []
 ·rw [if_pos h0] at hg
  cases hg
 ·rw [if_neg h0] at hg
  unfold BP at hg
  obtain ⟨i, -, hi⟩ := List.mem_map.1 hg
  have hlt : ys i % (Av cs).length < (Av cs).length := Nat.mod_lt _ (List.length_pos_iff.2 h0)
  rw [List.getElem?_eq_getElem hlt] at hi
  have hm := DD.1 (List.getElem_mem hlt)
  exact ⟨_, hm.1, hm.2, hi⟩

theorem rootsOf_len (os : List Cel) (ys : Nat -> Nat) (n : Nat) : (AJ os ys n).length <= n := by
 unfold AJ
 by_cases h : os = []
 ·rw [if_pos h]
  exact Nat.zero_le _
 ·rw [if_neg h, rootsL_len]
  exact Nat.le_refl _

section
variable {P : Program}

theorem run_append_none (w : World) (t ty e : TypeId) (i : TypeInfo) (ht : P.underlying t = some (.slice e)) (hi : P.info? e = some i) (base size : Nat) (v : Value) (n : Nat) (xs : List Value) (hown : w.ownsRow base e size v n xs) (c : Nat) :
  (Builtin.append_ #[t, t] ty #[v, .slice none 0 c]).run P w = .ok v w := by
 rcases hown.2 with ⟨rfl, rfl⟩ | ⟨g, cap, cur, rfl, hbg, hg, hnc, hcm, hcs, htake⟩
 ·simp [Builtin.append_, run_underlying ht, sizeOf, typeInfo, hi, Builtin.lenOf, Builtin.firstCells]
 ·simp [Builtin.append_, run_underlying ht, sizeOf, typeInfo, hi, Builtin.lenOf, Builtin.firstCells, hnc, storeCells]

theorem run_append_nats (w : World) (t ty e : TypeId) (i : TypeInfo) (ht : P.underlying t = some (.slice e)) (hi : P.info? e = some i) (hz : i.zero = some (.int .i64 0)) (hsize : i.size = 1) (hby : i.bytes = 8)
  (base : Nat) (v : Value) (n : Nat) (xs : List Nat) (hown : w.ownsRow base e 1 v n (AR xs)) (u : Value) (ys : List Nat) (hu : Bh w u ys) (hle : n + ys.length <= 1000000) (hbase : base <= w.heap.size) :
  ∃ v' w', (Builtin.append_ #[t, t] ty #[v, u]).run P w = .ok v' w' /\ w'.ownsRow base e 1 v' (n + ys.length) (AR (xs ++ ys)) /\ w.grownBy w' v.ownBlock := by
 obtain ⟨a, cap, rfl, hy⟩ := hu
 cases a with
 | none =>
  have h0 : ys = [] := by
   cases ys with
   | nil => rfl
   | cons y ys =>
    obtain ⟨b, o, e, -⟩ := hy 0 y rfl
    cases e
  subst h0
  refine ⟨v, w, run_append_none w t ty e i ht hi base 1 v n _ hown cap, ?_, ⟨rfl, rfl, rfl, Nat.le_refl _, λ _ _ _ => rfl⟩⟩
  rw [List.append_nil]
  exact hown
 | some ad =>
  obtain ⟨v', w', hr, h2, h3, _, h5⟩ := run_append_own_at (P := P) w base t ty e i (.int .i64 0) 1 8 ht hi hz hsize hby rfl (by omega) v n (AR xs) hown ad ys.length cap (AR ys) (by simp [AR])
   (by
    intro j u hj
    unfold AR at hj
    rw [List.getElem?_map] at hj
    obtain ⟨y, hyj, rfl⟩ := Option.map_eq_some_iff.1 hj
    obtain ⟨b, o, ea, hc⟩ := hy j y hyj
    injection ea with ea
    subst ea
    rw [Addr.add_lit]
    exact hc)
   (by
    intro u hu
    obtain ⟨_, _, rfl⟩ := List.mem_map.1 hu
    rfl) (by unfold maxLen; omega) (by omega) hbase
  refine ⟨v', w', hr, ?_, h3⟩
  rw [AR, List.map_append]
  exact h2

theorem DL (w : World) {ops : Array Oper} {rest : List Oper} {o : Oper} {a : Act} {Q : Exit -> Act -> World -> Prop} (hgd : o.guard = none) (s x : Operand) (t : TypeId)
  (ho : o.op = .call { callee := .builtin .append, args := #[s, x], argTypes := #[t, t] }) (e : TypeId) (i : TypeInfo) (ht : P.underlying t = some (.slice e)) (hi : P.info? e = some i) (hz : i.zero = some (.int .i64 0)) (hsize : i.size = 1) (hby : i.bytes = 8)
  (base : Nat) (v : Value) (n : Nat) (xs : List Nat) (hs : a.eval s = v) (hown : w.ownsRow base e 1 v n (AR xs)) (u : Value) (ys : List Nat) (hx : a.eval x = u) (hu : Bh w u ys) (hle : n + ys.length <= 1000000) (hbase : base <= w.heap.size)
  (h : ∀ v' w', w'.ownsRow base e 1 v' (n + ys.length) (AR (xs ++ ys)) -> w.grownBy w' v.ownBlock -> wpList P ops Q rest (a.put o.dst v') w') : wpList P ops Q (o :: rest) a w := by
 refine wpList_plain hgd λ K hK => ?_
 obtain ⟨v', w', hr, h2, h3⟩ := run_append_nats (P := P) w t o.type e i ht hi hz hsize hby base v n xs hown u ys hu hle hbase
 unfold Oper.wp execOp
 simp only [ho, resolve, invoke, builtin, Sem.run_bind, Sem.run_pure, Result.andThen_ok, List.map_toArray, List.map_cons, List.map_nil, hs, hx, hr]
 exact hK _ _ (h v' w' h2 h3)

end

section
variable {H : Type} {enc : TypeId × Value -> H} {P : Program}

theorem u8_wf {n : Int} (h : (Lit.int .u8 n).wf = true) : 0 <= n /\ n < 256 := by
 have h1 : IntKind.u8.min = 0 := by decide
 have h2 : IntKind.u8.max = 255 := by decide
 simp only [Lit.wf, h1, h2, Bool.and_eq_true, decide_eq_true_eq] at h
 omega

theorem u8_nat {n : Int} (h : (Lit.int .u8 n).wf = true) : ∃ k : Nat, n = (k : Nat) /\ k < 256 := by
 have := u8_wf h
 exact ⟨n.toNat, by omega, by omega⟩

theorem open_bytes8 {w : World} {base : Nat} {held : Bool} {t e : TypeId} {v : Value} {d : DataW H} {ps : List MemPlace} (ht : P.underlying t = some (.slice e)) (he : P.underlying e = some (.int .u8)) (hc : P.cellsOf e = 1) (hv : ∃ a len cap, v = .slice a len cap)
  (h : DataW.Trod enc P w base (λ _ => true) held t v d ps) : ∃ (len : Nat) (f : Nat -> Nat), BytesIn w v len f := by
 obtain ⟨fuel, hf⟩ := h
 obtain ⟨a0, len0, cap0, rfl⟩ := hv
 rcases Go.ChangeShapes.open_ints ht he hc hf with ⟨hcs, -⟩ | ⟨a, len, cap, zs, hcs, -, hl, hm, hz, -, hcell, hwz⟩
 ·simp only [Value.cells, List.cons.injEq, and_true] at hcs
  injection hcs with h1 h2 h3
  subst h1
  subst h2
  exact ⟨0, λ _ => 0, none, cap0, rfl, λ i hi => by omega⟩
 ·simp only [Value.cells, List.cons.injEq, and_true] at hcs
  injection hcs with h1 h2 h3
  subst h1
  subst h2
  rw [if_pos rfl] at hz
  refine ⟨len0, λ i => (zs.getD i 0).toNat, some a, cap0, rfl, λ i hi => ?_⟩
  have hi' : i < zs.length := by omega
  have hc := hcell i hi'
  have hw := u8_wf (hwz (zs.getD i 0) (by rw [List.getD_eq_getElem?_getD, List.getElem?_eq_getElem hi']; exact List.getElem_mem hi'))
  obtain ⟨e1, -⟩ := Dz (hcell 0 (by omega))
  have e2 : a = ⟨a.block, a.off, none⟩ := by
   obtain ⟨b, o, p⟩ := a
   cases p with
   | none => rfl
   | some q => simp [Addr.add] at e1
  refine ⟨a.block, a.off, by rw [<- e2], ?_, by dsimp only; omega⟩
  rw [e2, Addr.add_lit] at hc
  rw [hc, Int.toNat_of_nonneg hw.1]

end

end Go.Proofs.YtgccjhnafhlndaaGreatDoor
