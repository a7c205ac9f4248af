/-
  Package fit: check, the gaps one by one.
-/
import Derived.Test.YtafjebdjdmlahaaDoorSpaceAlive
import Derived.Test.YtafjebdjdmlahaaDoorBlackHit
namespace Go.Proofs.YtafjebdjdmlahaaDoor
open Go.RowKit
set_option linter.unusedVariables false
attribute [local go_sem] Oper.semAt_some

/-- A list of black granules, or none. -/
def BlkAt (w : World) (v : Value) (n : Nat) (blk : Nat → Bool) : Prop :=
  (v = .pointer none ∧ blk = fun _ => false) ∨ ∃ b p0 q0 p1 q1 f0 f1, v = .pointer (some ⟨b, 0, none⟩) ∧ BlackAt w b p0 q0 p1 q1 f0 f1 n ∧ blk = fun i => f0 i || f1 i

theorem BlkAt.keepN {w w' : World} {v : Value} {n : Nat} {blk : Nat → Bool} (h : BlkAt w v n blk) (k : Keep Nope w w') : BlkAt w' v n blk := by
  rcases h with h | ⟨b, p0, q0, p1, q1, f0, f1, h1, h2, h3⟩
  · exact .inl h
  · exact .inr ⟨b, p0, q0, p1, q1, f0, f1, h1, h2.keepN k, h3⟩

theorem STable_at (P : Sp) (W : Nat → Nat) (f : Nat → Bool) (w : World) (h : SpaceAt w P W f) :
    Calls Tryd.prog 44 #[.pointer (some ⟨P.s, 0, none⟩)] w fun e w' => e = .returned (.pointer (some ⟨P.t, 0, none⟩)) ∧ w' = w := by
  obtain ⟨c0, c1, c2⟩ := h.head
  clear h
  go_enter Tryd.func44, Tryd.ntmps44
  go_wp2
  go_ret
  exact ⟨rfl, rfl⟩

theorem bigger_any (a b : Int) (w : World) : Calls Tryd.prog 46 #[.int .i64 a, .int .i64 b] w fun e w' => e = .returned (.int .i64 (max a b)) ∧ w' = w := by
  by_cases h : b < a
  · have e : max a b = a := by omega
    rw [e]
    clear e
    go_enter Tryd.func46, Tryd.ntmps46
    go_wp2
    go_ret
    exact ⟨rfl, rfl⟩
  · have e : max a b = b := by omega
    rw [e]
    clear e
    go_enter Tryd.func46, Tryd.ntmps46
    go_wp2
    go_ret
    exact ⟨rfl, rfl⟩

theorem check_nil (v : Value) (w : World) : Calls Tryd.prog 40 #[.pointer none, v] w fun e w' => e = .returned (.int .i64 1) ∧ w' = w := by
  go_enter Tryd.func40, Tryd.ntmps40
  go_wp2
  go_ret
  exact ⟨rfl, rfl⟩

theorem check_bare (s : Nat) (w : World) : Calls Tryd.prog 40 #[.pointer (some ⟨s, 0, none⟩), .pointer none] w fun e w' => e = .returned (.int .i64 0) ∧ w' = w := by
  go_enter Tryd.func40, Tryd.ntmps40
  go_wp2
  go_ret
  exact ⟨rfl, rfl⟩

theorem check_at (P : Sp) (W : Nat → Nat) (f : Nat → Bool) (b p0 q0 p1 q1 n : Nat) (f0 f1 : Nat → Bool) (w : World) (h : SpaceAt w P W f) (hb : BlackAt w b p0 q0 p1 q1 f0 f1 n) :
    Calls Tryd.prog 40 #[.pointer (some ⟨P.s, 0, none⟩), .pointer (some ⟨b, 0, none⟩)] w fun e w' => e = .returned (.int .i64 (if n = P.n / 2 then 0 else 2)) ∧ w' = w := by
  have HL : Seal _ := ⟨BLen_at b p0 q0 p1 q1 n f0 f1 w hb⟩
  have HG : Seal _ := ⟨Gran_at P W f w h⟩
  generalize P.n / 2 = H at HG ⊢
  clear h hb
  by_cases e : n = H
  · have t : ((n : Int) != (H : Int)) = false := by simp; omega
    rw [if_pos e]
    clear e
    go_enter Tryd.func40, Tryd.ntmps40
    go_wp2_with fail
    refine HL.out.mono ?_
    rintro e w' ⟨rfl, rfl⟩
    go_wp2_with fail
    refine HG.out.mono ?_
    rintro e w' ⟨rfl, rfl⟩
    go_wp2
    go_ret
    exact ⟨rfl, rfl⟩
  · have t : ((n : Int) != (H : Int)) = true := by simp; omega
    rw [if_neg e]
    clear e
    go_enter Tryd.func40, Tryd.ntmps40
    go_wp2_with fail
    refine HL.out.mono ?_
    rintro e w' ⟨rfl, rfl⟩
    go_wp2_with fail
    refine HG.out.mono ?_
    rintro e w' ⟨rfl, rfl⟩
    go_wp2
    go_ret
    exact ⟨rfl, rfl⟩

theorem free_fn (s : Nat) (w : World) :
    Calls Tryd.prog 43 #[.pointer (some ⟨s, 0, none⟩)] w fun e w' =>
      e = .returned (.func (.func 67) #[] #[.pointer (some ⟨w.heap.size, 0, none⟩)]) ∧ w.alloc (.cells #[.pointer (some ⟨s, 0, none⟩)] 30) = w' := by
  have hmf : ∀ (fn : Fn) (first cap : Array Value) (w : World), (Instr.makeFunc fn first cap).run Tryd.prog w = .ok (.func fn first cap) w := fun _ _ _ _ => rfl
  go_enter Tryd.func43, Tryd.ntmps43
  go_wp2
  go_ret
  exact ⟨rfl, rfl⟩

/-- The gaps of a row. -/
def gapsOf (cs : List Cel) : List Cel := cs.filter fun c => !(c.tag == 1)

theorem gapsOf_take {cs : List Cel} {j : Nat} {x : Cel} (h : cs[j]? = some x) : gapsOf (cs.take (j + 1)) = gapsOf (cs.take j) ++ (if x.tag = 1 then [] else [x]) := by
  rw [List.take_add_one, h, gapsOf, List.filter_append]
  by_cases ht : x.tag = 1 <;> simp [gapsOf, ht]

theorem gapsOf_split {cs : List Cel} {j : Nat} {x : Cel} (h : cs[j]? = some x) (ht : ¬ x.tag = 1) : gapsOf cs = gapsOf (cs.take j) ++ x :: gapsOf (cs.drop (j + 1)) := by
  have hj := (List.getElem?_eq_some_iff.1 h).1
  have e : cs[j] = x := (List.getElem?_eq_some_iff.1 h).2
  conv => lhs; rw [← List.take_append_drop j cs, List.drop_eq_getElem_cons hj, e]
  rw [gapsOf, List.filter_append, List.filter_cons, if_pos (by simpa using ht)]
  rfl

set_option maxRecDepth 20000 in
set_option maxHeartbeats 4000000 in
theorem free_iter (P : Sp) (cs : List Cel) (w : World) (box : Nat) (h : SpaceHas w P cs) (hb : w.heap[box]? = some (.cells #[.pointer (some ⟨P.s, 0, none⟩)] 30 (0, 0)))
    {R X : Nat → Prop} (hR : ∀ k, R k → k < w.heap.size) (hlen : cs.length ≤ 32768) :
    IterAt2 Tryd.prog 67 #[.pointer (some ⟨box, 0, none⟩)] (fun c => #[cellV c]) (gapsOf cs) Nope R X w := by
  intro l J Jx W hW hl1 hl2 hJ hJx hY h0
  have bW := hW.at_ hb (fun h => h)
  have lb := lt_of_heap hb
  have cb := cell_of_one bW
  have HC : Seal _ := ⟨Cells_at P cs W (h.keepN hW)⟩
  have HJ : Seal _ := ⟨hJ⟩
  have HY : Seal _ := ⟨hY⟩
  have H0 : Seal _ := ⟨h0⟩
  have HJx : Seal _ := ⟨hJx⟩
  clear h hb bW hJ hY h0 hJx
  refine (callsIn_wide (n := 0)).1 ?_
  refine callsIn_of_wp Tryd.func67 rfl trivial ?_
  simp only [Tryd.ntmps67, List.size_toArray, List.length_cons, List.length_nil, Nat.reduceAdd, Nat.reduceSub, Array.replicate_succ, Array.replicate_zero, List.push_toArray, List.append_toArray, List.nil_append, List.cons_append]
  gi_wp2_with fail
  refine ⟨trivial, rfl, ?_⟩
  refine (callsIn_wide.2 HC.out).mono ?_
  rintro e w1 ⟨v, rfl, own, k1⟩
  have HOwn : Seal _ := ⟨own⟩
  obtain ⟨va, vc, hv, -⟩ := RowC.of_owns own
  subst hv
  obtain ⟨len, hlen'⟩ : ∃ len, cs.length = len := ⟨_, rfl⟩
  have HL : Seal _ := ⟨hlen'⟩
  rw [hlen'] at HOwn hlen ⊢
  have HJ1 : Seal _ := ⟨HJ.out _ _ _ H0.out k1⟩
  have hz1 := k1.size
  have hzW := hW.size
  clear own hlen' k1
  gi_wp2_with fail
  gi_loopw [8] (fun y wr => ∃ j, j ≤ len ∧ y = .int .i64 (j : Nat) ∧ J (gapsOf (cs.take j)) wr ∧ wr.ownsRow W.heap.size 45 5 (.slice va len vc) len (flatC cs)) (fun y wr => len - (intOf y).toNat)
  case atStart => exact ⟨0, Nat.zero_le _, rfl, HJ1.out, HOwn.out⟩
  case round =>
    obtain ⟨j, hj, rfl, hJj, hOw⟩ := hrel
    have HJj : Seal _ := ⟨hJj⟩
    have HOw : Seal _ := ⟨hOw⟩
    clear hJj
    by_cases hjl : j < len
    · have hjl' : (j : Int) < (len : Int) := by omega
      have hrow := RowC.of_owns (cs := cs) (base := W.heap.size) (v := .slice va len vc) (w := wr) (by rw [HL.out]; exact hOw)
      obtain ⟨va', vc', e, hx⟩ := hrow
      injection e with e1 e3 e2
      clear e3
      subst e1 e2
      obtain ⟨x, hxj⟩ : ∃ x, cs[j]? = some x := ⟨cs[j]'(by rw [HL.out]; omega), List.getElem?_eq_getElem (by rw [HL.out]; omega)⟩
      obtain ⟨b, rfl, hbl, x0, x1, x2, x3, x4⟩ := hx j x hxj
      have hlow := (ownsRow_block hOw (b := b) rfl).1
      have HXJ : Seal _ := ⟨hxj⟩
      have kA : Keep Nope wr (wr.alloc (.cells #[.int .i64 (x.g : Nat), .int .u8 (x.tag : Nat), .int .i64 (x.ty : Nat), .int .i64 (x.ln : Nat), .int .i64 (x.sz : Nat)] 45)) := (Keep.refl _ wr).alloc _
      have HJA : Seal _ := ⟨HJ.out _ _ _ HJj.out kA⟩
      have HOA : Seal _ := ⟨ownsRow_keep hOw kA (fun b hb h => h)⟩
      clear hx hxj hOw kA
      by_cases ht : x.tag = 1
      · have t1 : ((x.tag : Int) != 1) = false := by simp; omega
        have HTk : Seal _ := ⟨(gapsOf_take HXJ.out).trans (by rw [if_pos ht, List.append_nil])⟩
        clear ht
        gi_wp2_with fail
        refine ⟨(fun _ h => by cases h), ?_⟩
        gi_wp2_with fail
        exact ⟨⟨j + 1, by omega, by go_num, by rw [HTk.out]; exact HJA.out, HOA.out⟩, by simp only [intOf]; omega⟩
      · have t1 : ((x.tag : Int) != 1) = true := by simp; omega
        have HTk : Seal _ := ⟨(gapsOf_take HXJ.out).trans (by rw [if_neg ht])⟩
        have HSp : Seal _ := ⟨gapsOf_split HXJ.out ht⟩
        have HY3 : Seal _ := ⟨HY.out _ x _ _ HSp.out HJA.out⟩
        clear ht
        gi_wp2_with fail
        refine uponIn_yield3 HY3.out rfl ?_
        intro bb B hB
        rcases hB with ⟨rfl, hk, hT⟩ | ⟨rfl, hk, hE⟩
        · have HT : Seal _ := ⟨hT⟩
          have HOB : Seal _ := ⟨ownsRow_keep HOA.out hk (fun b' hb h => by
            obtain rfl : b = b' := by simpa [Value.ownBlock] using hb
            rcases h with h | h
            · have := hR b h; omega
            · subst h
              have := (ownsRow_block HOA.out (b := b) rfl).1
              omega)⟩
          clear hT hk
          gi_wp2_with fail
          exact ⟨⟨j + 1, by omega, by go_num, by rw [HTk.out]; exact HT.out, HOB.out⟩, by simp only [intOf]; omega⟩
        · have HE : Seal _ := ⟨hE⟩
          clear hE hk
          gi_wp2_with fail
          refine bodyPost_ret (results_none rfl _ _ _) rfl ?_
          exact ⟨⟨_, rfl⟩, .inr ⟨_, ⟨_, by rw [HSp.out, List.append_assoc]; rfl⟩, HE.out⟩⟩
    · have hjl' : ¬ (j : Int) < (len : Int) := by omega
      gi_wp2_with fail
      go_end0
      refine ⟨⟨_, rfl⟩, .inl ?_⟩
      have := HJj.out
      rwa [show j = cs.length by rw [HL.out]; omega, List.take_length] at this

end Go.Proofs.YtafjebdjdmlahaaDoor
