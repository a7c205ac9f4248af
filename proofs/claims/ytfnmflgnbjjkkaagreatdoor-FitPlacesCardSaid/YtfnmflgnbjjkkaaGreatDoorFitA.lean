/-
  Package fit: check, the gaps one by one.
  First of package fit. Printed by tools/fitfirst.py.
  Free of package fit.
  Most of package fit.
  Package fit: where nothing can be asked; Place.
  Place of package fit.
-/
import Derived.Test.YtfnmflgnbjjkkaaGreatDoorSpaceAl
import Derived.Test.YtfnmflgnbjjkkaaGreatDoorBlackA
import Derived.Test.YtfnmflgnbjjkkaaGreatDoorSpacePuts
namespace Go.Proofs.YtfnmflgnbjjkkaaGreatDoor
open Go.RowKit
set_option linter.unusedVariables false
attribute [local go_sem] Oper.semAt_some

/-- A list of black granules, or none. -/
def BlkAt (w : World) (v : Value) (n : Nat) (blk : Nat → Bool) : Prop :=
  (v = .pointer none ∧ blk = fun _ => false) ∨ ∃ b p0 q0 p1 q1 f0 f1, v = .pointer (some ⟨b, 0, none⟩) ∧ BlackAt w b p0 q0 p1 q1 f0 f1 n ∧ blk = fun i => f0 i || f1 i

theorem BlkAt.keepN {w w' : World} {v : Value} {n : Nat} {blk : Nat → Bool} (h : BlkAt w v n blk) (k : Keep Nope w w') : BlkAt w' v n blk := by
  rcases h with h | ⟨b, p0, q0, p1, q1, f0, f1, h1, h2, h3⟩
  · exact .inl h
  · exact .inr ⟨b, p0, q0, p1, q1, f0, f1, h1, h2.keepN k, h3⟩

theorem STable_at (P : Sp) (W : Nat → Nat) (f : Nat → Bool) (w : World) (h : SpaceAt w P W f) :
    Calls Tryz.prog 12 #[.pointer (some ⟨P.s, 0, none⟩)] w fun e w' => e = .returned (.pointer (some ⟨P.t, 0, none⟩)) ∧ w' = w := by
  obtain ⟨c0, c1, c2⟩ := h.head
  clear h
  go_enter Tryz.func12, Tryz.ntmps12
  go_wp2
  go_ret
  exact ⟨rfl, rfl⟩

theorem bigger_any (a b : Int) (w : World) : Calls Tryz.prog 58 #[.int .i64 a, .int .i64 b] w fun e w' => e = .returned (.int .i64 (max a b)) ∧ w' = w := by
  by_cases h : b < a
  · have e : max a b = a := by omega
    rw [e]
    clear e
    go_enter Tryz.func58, Tryz.ntmps58
    go_wp2
    go_ret
    exact ⟨rfl, rfl⟩
  · have e : max a b = b := by omega
    rw [e]
    clear e
    go_enter Tryz.func58, Tryz.ntmps58
    go_wp2
    go_ret
    exact ⟨rfl, rfl⟩

theorem check_nil (v : Value) (w : World) : Calls Tryz.prog 54 #[.pointer none, v] w fun e w' => e = .returned (.int .i64 1) ∧ w' = w := by
  go_enter Tryz.func54, Tryz.ntmps54
  go_wp2
  go_ret
  exact ⟨rfl, rfl⟩

theorem check_bare (s : Nat) (w : World) : Calls Tryz.prog 54 #[.pointer (some ⟨s, 0, none⟩), .pointer none] w fun e w' => e = .returned (.int .i64 0) ∧ w' = w := by
  go_enter Tryz.func54, Tryz.ntmps54
  go_wp2
  go_ret
  exact ⟨rfl, rfl⟩

theorem check_at (P : Sp) (W : Nat → Nat) (f : Nat → Bool) (b p0 q0 p1 q1 n : Nat) (f0 f1 : Nat → Bool) (w : World) (h : SpaceAt w P W f) (hb : BlackAt w b p0 q0 p1 q1 f0 f1 n) :
    Calls Tryz.prog 54 #[.pointer (some ⟨P.s, 0, none⟩), .pointer (some ⟨b, 0, none⟩)] w fun e w' => e = .returned (.int .i64 (if n = P.n / 2 then 0 else 2)) ∧ w' = w := by
  have HL : Seal _ := ⟨BLen_at b p0 q0 p1 q1 n f0 f1 w hb⟩
  have HG : Seal _ := ⟨Gran_at P W f w h⟩
  generalize P.n / 2 = H at HG ⊢
  clear h hb
  by_cases e : n = H
  · have t : ((n : Int) != (H : Int)) = false := by simp; omega
    rw [if_pos e]
    clear e
    go_enter Tryz.func54, Tryz.ntmps54
    go_wp2_with fail
    refine HL.out.mono ?_
    rintro e w' ⟨rfl, rfl⟩
    go_wp2_with fail
    refine HG.out.mono ?_
    rintro e w' ⟨rfl, rfl⟩
    go_wp2
    go_ret
    exact ⟨rfl, rfl⟩
  · have t : ((n : Int) != (H : Int)) = true := by simp; omega
    rw [if_neg e]
    clear e
    go_enter Tryz.func54, Tryz.ntmps54
    go_wp2_with fail
    refine HL.out.mono ?_
    rintro e w' ⟨rfl, rfl⟩
    go_wp2_with fail
    refine HG.out.mono ?_
    rintro e w' ⟨rfl, rfl⟩
    go_wp2
    go_ret
    exact ⟨rfl, rfl⟩

theorem free_fn (s : Nat) (w : World) :
    Calls Tryz.prog 55 #[.pointer (some ⟨s, 0, none⟩)] w fun e w' =>
      e = .returned (.func (.func 99) #[] #[.pointer (some ⟨w.heap.size, 0, none⟩)]) ∧ w.alloc (.cells #[.pointer (some ⟨s, 0, none⟩)] 29) = w' := by
  have hmf : ∀ (fn : Fn) (first cap : Array Value) (w : World), (Instr.makeFunc fn first cap).run Tryz.prog w = .ok (.func fn first cap) w := fun _ _ _ _ => rfl
  go_enter Tryz.func55, Tryz.ntmps55
  go_wp2
  go_ret
  exact ⟨rfl, rfl⟩

/-- The gaps of a row. -/
def gapsOf (cs : List Cel) : List Cel := cs.filter fun c => !(c.tag == 1)

theorem gapsOf_take {cs : List Cel} {j : Nat} {x : Cel} (h : cs[j]? = some x) : gapsOf (cs.take (j + 1)) = gapsOf (cs.take j) ++ (if x.tag = 1 then [] else [x]) := by
  rw [List.take_add_one, h, gapsOf, List.filter_append]
  by_cases ht : x.tag = 1 <;> simp [gapsOf, ht]

theorem gapsOf_split {cs : List Cel} {j : Nat} {x : Cel} (h : cs[j]? = some x) (ht : ¬ x.tag = 1) : gapsOf cs = gapsOf (cs.take j) ++ x :: gapsOf (cs.drop (j + 1)) := by
  have hj := (List.getElem?_eq_some_iff.1 h).1
  have e : cs[j] = x := (List.getElem?_eq_some_iff.1 h).2
  conv => lhs; rw [← List.take_append_drop j cs, List.drop_eq_getElem_cons hj, e]
  rw [gapsOf, List.filter_append, List.filter_cons, if_pos (by simpa using ht)]
  rfl

set_option maxRecDepth 20000 in
set_option maxHeartbeats 4000000 in
theorem free_iter (P : Sp) (cs : List Cel) (w : World) (box : Nat) (h : SpaceHas w P cs) (hb : w.heap[box]? = some (.cells #[.pointer (some ⟨P.s, 0, none⟩)] 29 (0, 0)))
    {R X : Nat → Prop} (hR : ∀ k, R k → k < w.heap.size) (hlen : cs.length ≤ 32768) :
    IterAt2 Tryz.prog 99 #[.pointer (some ⟨box, 0, none⟩)] (fun c => #[cellV c]) (gapsOf cs) Nope R X w := by
  intro l J Jx W hW hl1 hl2 hJ hJx hY h0
  have bW := hW.at_ hb (fun h => h)
  have lb := lt_of_heap hb
  have cb := cell_of_one bW
  have HC : Seal _ := ⟨Cells_at P cs W (h.keepN hW)⟩
  have HJ : Seal _ := ⟨hJ⟩
  have HY : Seal _ := ⟨hY⟩
  have H0 : Seal _ := ⟨h0⟩
  have HJx : Seal _ := ⟨hJx⟩
  clear h hb bW hJ hY h0 hJx
  refine (callsIn_wide (n := 0)).1 ?_
  refine callsIn_of_wp Tryz.func99 rfl trivial ?_
  simp only [Tryz.ntmps99, List.size_toArray, List.length_cons, List.length_nil, Nat.reduceAdd, Nat.reduceSub, Array.replicate_succ, Array.replicate_zero, List.push_toArray, List.append_toArray, List.nil_append, List.cons_append]
  gi_wp2_with fail
  refine ⟨trivial, rfl, ?_⟩
  refine (callsIn_wide.2 HC.out).mono ?_
  rintro e w1 ⟨v, rfl, own, k1⟩
  have HOwn : Seal _ := ⟨own⟩
  obtain ⟨va, vc, hv, -⟩ := RowC.of_owns own
  subst hv
  obtain ⟨len, hlen'⟩ : ∃ len, cs.length = len := ⟨_, rfl⟩
  have HL : Seal _ := ⟨hlen'⟩
  rw [hlen'] at HOwn hlen ⊢
  have HJ1 : Seal _ := ⟨HJ.out _ _ _ H0.out k1⟩
  have hz1 := k1.size
  have hzW := hW.size
  clear own hlen' k1
  gi_wp2_with fail
  gi_loopw [8] (fun y wr => ∃ j, j ≤ len ∧ y = .int .i64 (j : Nat) ∧ J (gapsOf (cs.take j)) wr ∧ wr.ownsRow W.heap.size 51 5 (.slice va len vc) len (flatC cs)) (fun y wr => len - (intOf y).toNat)
  case atStart => exact ⟨0, Nat.zero_le _, rfl, HJ1.out, HOwn.out⟩
  case round =>
    obtain ⟨j, hj, rfl, hJj, hOw⟩ := hrel
    have HJj : Seal _ := ⟨hJj⟩
    have HOw : Seal _ := ⟨hOw⟩
    clear hJj
    by_cases hjl : j < len
    · have hjl' : (j : Int) < (len : Int) := by omega
      have hrow := RowC.of_owns (cs := cs) (base := W.heap.size) (v := .slice va len vc) (w := wr) (by rw [HL.out]; exact hOw)
      obtain ⟨va', vc', e, hx⟩ := hrow
      injection e with e1 e3 e2
      clear e3
      subst e1 e2
      obtain ⟨x, hxj⟩ : ∃ x, cs[j]? = some x := ⟨cs[j]'(by rw [HL.out]; omega), List.getElem?_eq_getElem (by rw [HL.out]; omega)⟩
      obtain ⟨b, rfl, hbl, x0, x1, x2, x3, x4⟩ := hx j x hxj
      have hlow := (ownsRow_block hOw (b := b) rfl).1
      have HXJ : Seal _ := ⟨hxj⟩
      have kA : Keep Nope wr (wr.alloc (.cells #[.int .i64 (x.g : Nat), .int .u8 (x.tag : Nat), .int .i64 (x.ty : Nat), .int .i64 (x.ln : Nat), .int .i64 (x.sz : Nat)] 51)) := (Keep.refl _ wr).alloc _
      have HJA : Seal _ := ⟨HJ.out _ _ _ HJj.out kA⟩
      have HOA : Seal _ := ⟨ownsRow_keep hOw kA (fun b hb h => h)⟩
      clear hx hxj hOw kA
      by_cases ht : x.tag = 1
      · have t1 : ((x.tag : Int) != 1) = false := by simp; omega
        have HTk : Seal _ := ⟨(gapsOf_take HXJ.out).trans (by rw [if_pos ht, List.append_nil])⟩
        clear ht
        gi_wp2_with fail
        refine ⟨(fun _ h => by cases h), ?_⟩
        gi_wp2_with fail
        exact ⟨⟨j + 1, by omega, by go_num, by rw [HTk.out]; exact HJA.out, HOA.out⟩, by simp only [intOf]; omega⟩
      · have t1 : ((x.tag : Int) != 1) = true := by simp; omega
        have HTk : Seal _ := ⟨(gapsOf_take HXJ.out).trans (by rw [if_neg ht])⟩
        have HSp : Seal _ := ⟨gapsOf_split HXJ.out ht⟩
        have HY3 : Seal _ := ⟨HY.out _ x _ _ HSp.out HJA.out⟩
        clear ht
        gi_wp2_with fail
        refine uponIn_yield3 HY3.out rfl ?_
        intro bb B hB
        rcases hB with ⟨rfl, hk, hT⟩ | ⟨rfl, hk, hE⟩
        · have HT : Seal _ := ⟨hT⟩
          have HOB : Seal _ := ⟨ownsRow_keep HOA.out hk (fun b' hb h => by
            obtain rfl : b = b' := by simpa [Value.ownBlock] using hb
            rcases h with h | h
            · have := hR b h; omega
            · subst h
              have := (ownsRow_block HOA.out (b := b) rfl).1
              omega)⟩
          clear hT hk
          gi_wp2_with fail
          exact ⟨⟨j + 1, by omega, by go_num, by rw [HTk.out]; exact HT.out, HOB.out⟩, by simp only [intOf]; omega⟩
        · have HE : Seal _ := ⟨hE⟩
          clear hE hk
          gi_wp2_with fail
          refine bodyPost_ret (results_none rfl _ _ _) rfl ?_
          exact ⟨⟨_, rfl⟩, .inr ⟨_, ⟨_, by rw [HSp.out, List.append_assoc]; rfl⟩, HE.out⟩⟩
    · have hjl' : ¬ (j : Int) < (len : Int) := by omega
      gi_wp2_with fail
      go_end0
      refine ⟨⟨_, rfl⟩, .inl ?_⟩
      have := HJj.out
      rwa [show j = cs.length by rw [HL.out]; omega, List.take_length] at this

end Go.Proofs.YtfnmflgnbjjkkaaGreatDoor

namespace Go.Proofs.YtfnmflgnbjjkkaaGreatDoor
open Go.RowKit
set_option linter.unusedVariables false
attribute [local go_sem] Oper.semAt_some

/-- The least place between two granules where k have room. -/
def askB (blk : Nat → Bool) (s T k : Nat) : Option Nat := nextB (roomB blk k) (T + 1 - k) s

/-- The least place in gaps. -/
def firstFit (blk : Nat → Bool) (k : Nat) (gs : List Cel) : Option Nat := gs.findSome? fun c => askB blk c.g c.fin k

theorem firstFit_none {blk : Nat → Bool} {k : Nat} {gs : List Cel} (h : ∀ c ∈ gs, askB blk c.g c.fin k = none) : firstFit blk k gs = none := by
  rw [firstFit, List.findSome?_eq_none_iff]; exact h

theorem firstFit_some {blk : Nat → Bool} {k g : Nat} {p rest : List Cel} {x : Cel} (h : ∀ c ∈ p, askB blk c.g c.fin k = none) (hx : askB blk x.g x.fin k = some g) : firstFit blk k (p ++ x :: rest) = some g := by
  rw [firstFit, List.findSome?_append, List.findSome?_eq_none_iff.2 h, Option.none_or, List.findSome?_cons, hx]

theorem nextB_zero (f : Nat → Bool) (i : Nat) : nextB f 0 i = none := by
  rcases nextB_spec f 0 i with ⟨j, h1, h2, h3, h4, h5⟩ | ⟨h1, _⟩
  · omega
  · exact h1

/-- Where nothing is black. -/
theorem askB_bare (s T k : Nat) (hk : 1 ≤ k) : askB (fun _ => false) s T k = if s + k ≤ T then some s else none := by
  have hr : ∀ g, roomB (fun _ => false) k g = true := fun g => roomB_yes (fun _ _ _ => rfl)
  rw [askB]
  rcases nextB_spec (roomB (fun _ => false) k) (T + 1 - k) s with ⟨j, h1, h2, h3, h4, h5⟩ | ⟨h1, h2⟩
  · rw [h1]
    have : j = s := by
      rcases Nat.lt_or_ge s j with h | h
      · have := h5 s (Nat.le_refl _) h
        rw [hr s] at this
        cases this
      · omega
    subst this
    rw [if_pos (by omega)]
  · rw [h1]
    by_cases h : s + k ≤ T
    · have := h2 s (Nat.le_refl _) (by omega)
      rw [hr s] at this
      cases this
    · rw [if_neg h]

theorem firstI_ask (f : Nat → Bool) (n s T k : Nat) (hk : 1 ≤ k) (hT : T ≤ n) : firstI f n (s : Nat) (T : Nat) (k : Nat) = askB f s T k := by
  rw [firstI, askB]
  by_cases h : k ≤ n
  · rw [if_pos (by omega), Int.toNat_natCast, Int.toNat_natCast]
    congr 1
    omega
  · rw [if_neg (by omega), show T + 1 - k = 0 by omega, nextB_zero]

/-- What asking answers. -/
def AskPost (o : Option Nat) (w : World) (e : Ending) (w' : World) : Prop :=
  Keep Nope w w' ∧ ∃ (g : Int) (b : Bool), e = .returned (.tuple #[.int .i64 g, .bool b]) ∧ ((b = true ∧ ∃ j : Nat, g = (j : Nat) ∧ o = some j) ∨ (b = false ∧ o = none))

theorem open_at (s T k : Nat) (w : World) (hk : 1 ≤ k) (hT : T ≤ 65536) (hs : s ≤ T) :
    Calls Tryz.prog 56 #[.agg #[], .int .i64 (s : Nat), .int .i64 (T : Nat), .int .i64 (k : Nat)] w (AskPost (askB (fun _ => false) s T k) w) := by
  rw [askB_bare s T k hk]
  have t1 : decide ((1 : Int) ≤ (k : Int)) = true := decide_eq_true (by omega)
  by_cases h : s + k ≤ T
  · have t2 : decide ((k : Int) ≤ (T : Int) - (s : Int)) = true := decide_eq_true (by omega)
    rw [if_pos h]
    clear h
    go_enter Tryz.func56, Tryz.ntmps56
    go_wp2
    go_ret2
    exact ⟨(Keep.refl _ w).alloc _, _, _, rfl, .inl ⟨rfl, s, rfl, rfl⟩⟩
  · have t2 : decide ((k : Int) ≤ (T : Int) - (s : Int)) = false := decide_eq_false (by omega)
    rw [if_neg h]
    clear h
    go_enter Tryz.func56, Tryz.ntmps56
    go_wp2
    go_ret2
    exact ⟨(Keep.refl _ w).alloc _, _, _, rfl, .inr ⟨rfl, rfl⟩⟩

theorem black_ask (s T k : Nat) (b p0 q0 p1 q1 n : Nat) (f0 f1 : Nat → Bool) (w : World) (hb : BlackAt w b p0 q0 p1 q1 f0 f1 n) (hk : 1 ≤ k) (hT : T ≤ n) :
    Calls Tryz.prog 57 #[.pointer (some ⟨b, 0, none⟩), .int .i64 (s : Nat), .int .i64 (T : Nat), .int .i64 (k : Nat)] w (AskPost (askB (fun i => f0 i || f1 i) s T k) w) := by
  refine (First_int (s : Nat) (T : Nat) (k : Nat) b p0 q0 p1 q1 n f0 f1 w hb).mono ?_
  rintro e w' ⟨rfl, hk'⟩
  rw [firstI_ask _ _ _ _ _ hk hT]
  refine ⟨hk', ?_⟩
  cases h : askB (fun i => f0 i || f1 i) s T k with
  | none => exact ⟨0, false, rfl, .inr ⟨rfl, rfl⟩⟩
  | some j => exact ⟨(j : Nat), true, rfl, .inl ⟨rfl, j, rfl, rfl⟩⟩

/-- What First answers, of at least one granule. -/
def FirstPost (o : Option Nat) (w : World) (e : Ending) (w' : World) : Prop :=
  e = .returned (.tuple #[.int .i64 ((o.getD 0 : Nat) : Int), .int .i64 (if o.isSome then 0 else 4)]) ∧ Keep Nope w w'

/-- How its last round ends. -/
def FirstIx (blk : Nat → Bool) (k m : Nat) (wl : World) (c : Code) (pre : List Cel) (W' : World) : Prop :=
  c = .ret ∧ ∃ (p : List Cel) (x : Cel) (g : Nat), pre = p ++ [x] ∧ (∀ d ∈ p, askB blk d.g d.fin k = none) ∧ askB blk x.g x.fin k = some g ∧
    W'.heap[m + 1]? = some (.cells #[.int .i64 (g : Nat)] 3 (0, 0)) ∧ W'.heap[m + 1 + 1]? = some (.cells #[.int .i64 0] 35 (0, 0)) ∧ Keep (fun b => b = m + 1 ∨ b = m + 1 + 1) wl W'

set_option maxRecDepth 20000 in
set_option maxHeartbeats 8000000 in
theorem FFirst_bare (k : Nat) (P : Sp) (cs : List Cel) (w : World) (h : SpaceHas w P cs) (hk : 1 ≤ k) (hk2 : k ≤ 9223372036854775807) :
    Calls Tryz.prog 18 #[.pointer (some ⟨P.s, 0, none⟩), .pointer none, .int .i64 (k : Nat)] w (FirstPost (firstFit (fun _ => false) k (gapsOf cs)) w) := by
  have hlen : cs.length ≤ 32768 := by
    obtain ⟨_, _, h1, h2, _⟩ := h
    have := tiles_len h2.tl
    have := h1.ar.small
    omega
  have hfin : ∀ c ∈ cs, c.fin ≤ P.n / 2 ∧ c.fin = c.g + c.sz ∧ P.n / 2 ≤ 32768 := by
    intro c hc
    obtain ⟨_, _, h1, h2, _⟩ := h
    have := h2.tl.mem hc
    have := h1.ar.small
    exact ⟨by rw [Cel.fin]; omega, rfl, by omega⟩
  have HH : Seal _ := ⟨h⟩
  have HFin : Seal _ := ⟨hfin⟩
  have lts := h.lt P.s (by simp [Sp.all])
  obtain ⟨blk, hblk⟩ : ∃ blk, (fun _ => false) = blk := ⟨_, rfl⟩
  have HAsk : Seal (∀ w', Keep Nope w w' → ∀ c ∈ cs, Calls Tryz.prog 56 #[.agg #[], .int .i64 (c.g : Nat), .int .i64 (c.fin : Nat), .int .i64 (k : Nat)] w' (AskPost (askB blk c.g c.fin k) w')) :=
    ⟨fun w' hw' c hc => by
      obtain ⟨a1, a2, a3⟩ := hfin c hc
      rw [← hblk]
      exact open_at c.g c.fin k w' hk (by omega) (by omega)⟩
  have HChk : Seal (∀ w', Keep Nope w w' → Calls Tryz.prog 54 #[.pointer (some ⟨P.s, 0, none⟩), .pointer none] w' fun e w'' => e = .returned (.int .i64 0) ∧ w'' = w') := ⟨fun w' _ => check_bare P.s w'⟩
  rw [hblk]
  clear hblk h hfin
  obtain ⟨w5, hw5⟩ : ∃ w5, w5 = ((w.alloc (.cells #[.int .i64 (k : Nat)] 3)).alloc (.cells #[.int .i64 0] 3)).alloc (.cells #[.int .i64 0] 35) := ⟨_, rfl⟩
  have k5 : Keep Nope w w5 := by rw [hw5]; exact (((Keep.refl _ w).alloc _).alloc _).alloc _
  have g0 : w5.heap[w.heap.size]? = some (.cells #[.int .i64 (k : Nat)] 3 (0, 0)) := by
    rw [hw5]; exact ((Keep.refl Nope _).alloc _ |>.alloc _).at_ (World.alloc_heap_new w _) (fun h => h)
  have g1 : w5.heap[w.heap.size + 1]? = some (.cells #[.int .i64 0] 3 (0, 0)) := by
    rw [hw5]; exact ((Keep.refl Nope _).alloc _).at_ (alloc_new' _ _ (by simp)) (fun h => h)
  have g2 : w5.heap[w.heap.size + 1 + 1]? = some (.cells #[.int .i64 0] 35 (0, 0)) := by
    rw [hw5]; exact alloc_new' _ _ (by simp)
  have z5 : w5.heap.size = w.heap.size + 1 + 1 + 1 := by rw [hw5]; simp
  refine (callsIn_wide (n := 0)).1 ?_
  refine callsIn_of_wp_marks Tryz.func18 rfl trivial ?_
  simp only [Tryz.ntmps18, List.size_toArray, List.length_cons, List.length_nil, Nat.reduceAdd, Nat.reduceSub, Array.replicate_succ, Array.replicate_zero, List.push_toArray, List.append_toArray, List.nil_append, List.cons_append]
  have HCk : Seal _ := ⟨HChk.out w5 k5⟩
  have HG : Seal _ := ⟨And.intro g0 (And.intro g1 g2)⟩
  have c0 := cell_of_one g0
  have c1 := cell_of_one g1
  have c2 := cell_of_one g2
  have HZ5 : Seal _ := ⟨z5⟩
  clear g0 g1 g2 z5
  gi_wp2_with fail
  rw [← hw5]
  obtain ⟨m, hm⟩ : ∃ m, w.heap.size = m := ⟨_, rfl⟩
  rw [hm] at HG c0 c1 c2 HZ5 ⊢
  have HM : Seal _ := ⟨hm⟩
  rw [hm] at lts
  clear hw5 hm
  refine ⟨trivial, rfl, ?_⟩
  refine (callsIn_wide.2 HCk.out).mono ?_
  rintro e w6 ⟨rfl, rfl⟩
  have hd1 : decide ((k : Int) < 1) = false := decide_eq_false (by omega)
  gi_wp2_with fail
  rw [HZ5.out]
  obtain ⟨w7, hw7⟩ : ∃ w7, w7 = w6.alloc (.cells #[.func (.func 56) #[.agg #[]] #[]] 119) := ⟨_, rfl⟩
  rw [← hw7]
  have k7 : Keep Nope w6 w7 := by rw [hw7]; exact (Keep.refl _ w6).alloc _
  have q0 : w7.heap[m + 1 + 1 + 1]? = some (.cells #[.func (.func 56) #[.agg #[]] #[]] 119 (0, 0)) := by rw [hw7, ← HZ5.out]; exact World.alloc_heap_new w6 _
  have z7 : w7.heap.size = m + 1 + 1 + 1 + 1 := by rw [hw7, World.size_alloc, HZ5.out]
  clear hw7 c0 c1 c2
  refine ⟨trivial, rfl, ?_⟩
  refine (callsIn_wide.2 (free_fn P.s w7)).mono ?_
  rintro e wl ⟨rfl, hwl⟩
  have hzl : wl.heap.size = w7.heap.size + 1 := by rw [← hwl]; simp
  have kl : Keep Nope w7 wl := by rw [← hwl]; exact (Keep.refl _ w7).alloc _
  have gbx : wl.heap[w7.heap.size]? = some (.cells #[.pointer (some ⟨P.s, 0, none⟩)] 29 (0, 0)) := by rw [← hwl]; exact World.alloc_heap_new w7 _
  clear hwl
  rw [z7] at gbx hzl
  rw [z7]
  clear z7
  have K6L : Keep Nope w6 wl := k7.then' kl
  have KL : Keep Nope w wl := k5.then' K6L
  have SL := HH.out.keepN KL
  have b0 := K6L.at_ HG.out.1 (fun h => h)
  have b1 := K6L.at_ HG.out.2.1 (fun h => h)
  have b2 := K6L.at_ HG.out.2.2 (fun h => h)
  have bq := kl.at_ q0 (fun h => h)
  have HB : Seal _ := ⟨And.intro b0 (And.intro b1 (And.intro b2 bq))⟩
  have HKL : Seal _ := ⟨KL⟩
  have HSL : Seal _ := ⟨SL⟩
  clear b0 b1 b2 bq q0 k7 kl K6L k5 KL SL HCk HChk
  gi_wp2_with fail
  refine wpIn_range2 (n := 0) (gf := 99) (lb := #[.pointer (some ⟨m + 1 + 1 + 1 + 1, 0, none⟩)]) rfl (enters_of Tryz.func99 (by kernel_rfl) rfl)
    (free_iter P cs wl (m + 1 + 1 + 1 + 1) HSL.out gbx (R := Nope) (X := fun k => k = m + 1 ∨ k = m + 1 + 1) (fun k hk => hk.elim) hlen) (fun k hk => hk.elim) (fun k hk => hk.elim)
    (fun k hk => by omega) (fun k hk => hk.elim) (fun _ => rfl)
    (fun pre W' => Keep Nope wl W' ∧ ∀ c ∈ pre, askB blk c.g c.fin k = none) (fun c pre W' => FirstIx blk k m wl c pre W') ?hI ?hIx ?h0 ?hround ?hdone ?hstop
  case hI =>
    rintro pre A B ⟨a1, a2⟩ hk
    exact ⟨a1.trans hk (fun b hb h => by rcases h with h | h | h; exact h; omega; omega), a2⟩
  case hIx =>
    rintro c pre A B ⟨a0, p, x, g, e1, e2, e3, a1, a2, a3⟩ hk
    exact ⟨a0, p, x, g, e1, e2, e3, hk.at_ a1 (fun h => by rcases h with h | h | h; exact h; omega; omega), hk.at_ a2 (fun h => by rcases h with h | h | h; exact h; omega; omega), a3.trans hk (fun b hb h => by rcases h with h | h | h; exact h.elim; omega; omega)⟩
  case h0 => exact ⟨Keep.refl _ _, fun c hc => by cases hc⟩
  case hround =>
    rintro pre x rest W' hx ⟨hK, hpre⟩ hs
    have hxm : x ∈ cs := by
      have : x ∈ gapsOf cs := by rw [hx]; simp
      exact (List.mem_filter.1 this).1
    have HPre : Seal _ := ⟨hpre⟩
    have hxf : x.fin = x.g + x.sz := rfl
    obtain ⟨f1, f2, f3⟩ := HFin.out x hxm
    unfold cellV
    gi_wp2_with fail
    refine ⟨(Keep.refl _ W').alloc _, ?_⟩
    intro W2 hc2 hf2 hk2 hs2 hr2
    have kW : Keep Nope W' (W'.alloc (.cells #[.int .i64 (x.g : Nat), .int .u8 (x.tag : Nat), .int .i64 (x.ty : Nat), .int .i64 (x.ln : Nat), .int .i64 (x.sz : Nat)] 51)) := (Keep.refl _ W').alloc _
    have bc := hk2.at_ (World.alloc_heap_new W' (.cells #[.int .i64 (x.g : Nat), .int .u8 (x.tag : Nat), .int .i64 (x.ty : Nat), .int .i64 (x.ln : Nat), .int .i64 (x.sz : Nat)] 51)) (by omega)
    have hzW := hK.size
    have N2 : Keep Nope wl W2 := ((hK.then' kW).of_not (fun k => k = wl.heap.size + 1)).trans hk2 (fun _ _ h => h) |>.mono (fun b hb h => by omega)
    have n0 := cell_of_one (N2.at_ HB.out.1 (fun h => h))
    have nq := cell_of_one (N2.at_ HB.out.2.2.2 (fun h => h))
    have d0 : W2.cell? ⟨W'.heap.size, 0, none⟩ = some (.int .i64 (x.g : Nat)) := by simp [World.cell?, bc]
    have d4 : W2.cell? ⟨W'.heap.size, 4, none⟩ = some (.int .i64 (x.sz : Nat)) := by simp [World.cell?, bc]
    have HAs : Seal (∀ q, _) := ⟨fun q => HAsk.out (W2.drewN q) ((HKL.out.then' N2).then' (Keep.of_drewN _)) x hxm⟩
    have HFn : Seal ((x.g : Int) + (x.sz : Int) = ((x.fin : Nat) : Int)) := ⟨by omega⟩
    have r1 := N2.at_ HB.out.2.1 (fun h => h)
    have r2 := N2.at_ HB.out.2.2.1 (fun h => h)
    have HR1 : Seal _ := ⟨And.intro r1 r2⟩
    clear r1 r2
    have HN2 : Seal _ := ⟨N2⟩
    clear hc2 hf2 hs2 kW bc hpre hx N2 hK hk2
    gi_wp2_with fail
    refine wpIn_region_quiet (by kernel_rfl) (by kernel_rfl) (by kernel_rfl) (fun _ _ h => h) ?_
    repeat (go_big_quiet_step (fail))
    refine wpQuiet_nil ?_
    intro _ hw'
    obtain ⟨nq, hw''⟩ := hw'
    subst hw''
    gi_wp2_with fail
    rw [HFn.out]
    refine ⟨trivial, rfl, ?_⟩
    refine (callsIn_round (HAs.out _)).mono ?_
    rintro e w3 ⟨k3, g, bb, rfl, hb⟩
    have K3 : Keep Nope W2 w3 := (Keep.of_drewN _).then' k3
    have r1 := K3.at_ HR1.out.1 (fun h => h)
    have r2 := K3.at_ HR1.out.2 (fun h => h)
    have c1 := cell_of_one r1
    have c2 := cell_of_one r2
    have f1' := free_of_one r1
    have f2' := free_of_one r2
    have HRR : Seal _ := ⟨And.intro r1 r2⟩
    clear k3 n0 nq d0 d4 r1 r2
    rcases hb with ⟨rfl, j, rfl, ho⟩ | ⟨rfl, ho⟩
    · have HO : Seal _ := ⟨ho⟩
      clear ho
      gi_wp2_with fail
      have kB : Keep (fun b => b = m + 1 ∨ b = m + 1 + 1) w3 ((w3.setCell ⟨m + 1, 0, none⟩ (.int .i64 (j : Nat))).setCell ⟨m + 1 + 1, 0, none⟩ (.int .i64 0)) := ((Keep.refl (fun b => b = m + 1 ∨ b = m + 1 + 1) w3).setCell (fun _ => .inl rfl) _).setCell (fun _ => .inr rfl) _
      refine ⟨(K3.of_not _).trans kB (fun b hb h => h), rfl, pre, x, j, rfl, HPre.out, HO.out, ?_, one_setCell ((Below.heap_setCell _ _ _ _ (by dsimp only; omega)).trans HRR.out.2), ((HN2.out.then' K3).of_not _).trans kB (fun b hb h => h)⟩
      exact (Below.heap_setCell _ _ _ _ (by dsimp only; omega)).trans (one_setCell HRR.out.1)
    · have HO : Seal _ := ⟨ho⟩
      clear ho
      gi_wp2_with fail
      exact ⟨K3, HN2.out.then' K3, fun d hd => by
        rcases List.mem_append.1 hd with hd | hd
        · exact HPre.out d hd
        · rw [List.mem_singleton.1 hd]; exact HO.out⟩
  case hdone =>
    rintro W' ⟨hK, hpre⟩ hs hD
    have HPre : Seal _ := ⟨hpre⟩
    have r1 := hK.at_ HB.out.2.1 (fun h => h)
    have r2 := hK.at_ HB.out.2.2.1 (fun h => h)
    have c1 := cell_of_one r1
    have c2 := cell_of_one r2
    have f1' := free_of_one r1
    have f2' := free_of_one r2
    have HRR : Seal _ := ⟨And.intro r1 r2⟩
    clear hpre r1 r2
    gi_wp2_with fail
    obtain ⟨w9, hw9⟩ : ∃ w9, w9 = (W'.setCell ⟨m + 1, 0, none⟩ (.int .i64 0)).setCell ⟨m + 1 + 1, 0, none⟩ (.int .i64 4) := ⟨_, rfl⟩
    rw [← hw9]
    have kB : Keep (fun b => b = m + 1 ∨ b = m + 1 + 1) W' w9 := by rw [hw9]; exact ((Keep.refl (fun b => b = m + 1 ∨ b = m + 1 + 1) W').setCell (fun _ => .inl rfl) _).setCell (fun _ => .inr rfl) _
    have s1 : w9.heap[m + 1]? = some (.cells #[.int .i64 0] 3 (0, 0)) := by rw [hw9]; exact (Below.heap_setCell _ _ _ _ (by dsimp only; omega)).trans (one_setCell HRR.out.1)
    have s2 : w9.heap[m + 1 + 1]? = some (.cells #[.int .i64 4] 35 (0, 0)) := by rw [hw9]; exact one_setCell ((Below.heap_setCell _ _ _ _ (by dsimp only; omega)).trans HRR.out.2)
    clear hw9
    refine ⟨by simp, .inl ⟨_, _, rfl, run_takeDeferred (kB.at_ hD (by omega)), ?_⟩⟩
    have kE : Keep (fun b => b = wl.heap.size) w9 (w9.putObj wl.heap.size (.deferred none)) := (Keep.refl (fun b => b = wl.heap.size) w9).putObj (fun _ => rfl) _
    have e1 := cell_of_one (kE.at_ s1 (by omega))
    have e2 := cell_of_one (kE.at_ s2 (by omega))
    refine ⟨.tuple #[.int .i64 0, .int .i64 4], by simp [results, Tryz.results18, go_sem, e1, e2], ?_, ?_⟩
    · rw [firstFit_none HPre.out]; rfl
    · exact ((HKL.out.then' hK).trans kB (fun b hb h => by rw [HM.out] at hb; omega)).trans kE (fun b hb h => by rw [HM.out] at hb; omega)
  case hstop =>
    rintro c pre W' hp ⟨rfl, p, x, g, e1, e2, e3, a1, a2, a3⟩ hs hD
    obtain ⟨rest, hrest⟩ := hp
    have HRest : Seal _ := ⟨hrest⟩
    have HE1 : Seal _ := ⟨e1⟩
    have HE : Seal _ := ⟨And.intro e2 e3⟩
    clear hrest e1 e2 e3
    gi_wp2_with fail
    refine ⟨by simp, .inl ⟨_, _, rfl, run_takeDeferred hD, ?_⟩⟩
    have kE : Keep (fun b => b = wl.heap.size) W' (W'.putObj wl.heap.size (.deferred none)) := (Keep.refl (fun b => b = wl.heap.size) W').putObj (fun _ => rfl) _
    have e1 := cell_of_one (kE.at_ a1 (by omega))
    have e2 := cell_of_one (kE.at_ a2 (by omega))
    refine ⟨.tuple #[.int .i64 (g : Nat), .int .i64 0], by simp [results, Tryz.results18, go_sem, e1, e2], ?_, ?_⟩
    · have : firstFit blk k (gapsOf cs) = some g := by
        rw [← HRest.out, HE1.out, List.append_assoc]
        exact firstFit_some HE.out.1 HE.out.2
      rw [this]; rfl
    · exact (HKL.out.trans a3 (fun b hb h => by rw [HM.out] at hb; omega)).trans kE (fun b hb h => by rw [HM.out] at hb; omega)

set_option maxRecDepth 20000 in
set_option maxHeartbeats 8000000 in
theorem FFirst_black (k : Nat) (P : Sp) (cs : List Cel) (b p0 q0 p1 q1 : Nat) (f0 f1 : Nat → Bool) (w : World) (h : SpaceHas w P cs) (hb : BlackAt w b p0 q0 p1 q1 f0 f1 (P.n / 2)) (hk : 1 ≤ k) (hk2 : k ≤ 9223372036854775807) :
    Calls Tryz.prog 18 #[.pointer (some ⟨P.s, 0, none⟩), .pointer (some ⟨b, 0, none⟩), .int .i64 (k : Nat)] w (FirstPost (firstFit (fun i => f0 i || f1 i) k (gapsOf cs)) w) := by
  have hlen : cs.length ≤ 32768 := by
    obtain ⟨_, _, h1, h2, _⟩ := h
    have := tiles_len h2.tl
    have := h1.ar.small
    omega
  have hfin : ∀ c ∈ cs, c.fin ≤ P.n / 2 ∧ c.fin = c.g + c.sz ∧ P.n / 2 ≤ 32768 := by
    intro c hc
    obtain ⟨_, _, h1, h2, _⟩ := h
    have := h2.tl.mem hc
    have := h1.ar.small
    exact ⟨by rw [Cel.fin]; omega, rfl, by omega⟩
  have HH : Seal _ := ⟨h⟩
  have HFin : Seal _ := ⟨hfin⟩
  have lts := h.lt P.s (by simp [Sp.all])
  obtain ⟨blk, hblk⟩ : ∃ blk, (fun i => f0 i || f1 i) = blk := ⟨_, rfl⟩
  have HAsk : Seal (∀ w', Keep Nope w w' → ∀ c ∈ cs, Calls Tryz.prog 57 #[.pointer (some ⟨b, 0, none⟩), .int .i64 (c.g : Nat), .int .i64 (c.fin : Nat), .int .i64 (k : Nat)] w' (AskPost (askB blk c.g c.fin k) w')) :=
    ⟨fun w' hw' c hc => by
      obtain ⟨a1, a2, a3⟩ := hfin c hc
      rw [← hblk]
      exact black_ask c.g c.fin k b p0 q0 p1 q1 _ f0 f1 w' (hb.keepN hw') hk a1⟩
  have HChk : Seal (∀ w', Keep Nope w w' → Calls Tryz.prog 54 #[.pointer (some ⟨P.s, 0, none⟩), .pointer (some ⟨b, 0, none⟩)] w' fun e w'' => e = .returned (.int .i64 0) ∧ w'' = w') := ⟨fun w' hw' => by obtain ⟨_, _, h1, _⟩ := h; have := check_at P _ _ b p0 q0 p1 q1 _ f0 f1 w' (h1.keepN hw') (hb.keepN hw'); rw [if_pos rfl] at this; exact this⟩
  rw [hblk]
  clear hblk h hb hfin
  obtain ⟨w5, hw5⟩ : ∃ w5, w5 = ((w.alloc (.cells #[.int .i64 (k : Nat)] 3)).alloc (.cells #[.int .i64 0] 3)).alloc (.cells #[.int .i64 0] 35) := ⟨_, rfl⟩
  have k5 : Keep Nope w w5 := by rw [hw5]; exact (((Keep.refl _ w).alloc _).alloc _).alloc _
  have g0 : w5.heap[w.heap.size]? = some (.cells #[.int .i64 (k : Nat)] 3 (0, 0)) := by
    rw [hw5]; exact ((Keep.refl Nope _).alloc _ |>.alloc _).at_ (World.alloc_heap_new w _) (fun h => h)
  have g1 : w5.heap[w.heap.size + 1]? = some (.cells #[.int .i64 0] 3 (0, 0)) := by
    rw [hw5]; exact ((Keep.refl Nope _).alloc _).at_ (alloc_new' _ _ (by simp)) (fun h => h)
  have g2 : w5.heap[w.heap.size + 1 + 1]? = some (.cells #[.int .i64 0] 35 (0, 0)) := by
    rw [hw5]; exact alloc_new' _ _ (by simp)
  have z5 : w5.heap.size = w.heap.size + 1 + 1 + 1 := by rw [hw5]; simp
  refine (callsIn_wide (n := 0)).1 ?_
  refine callsIn_of_wp_marks Tryz.func18 rfl trivial ?_
  simp only [Tryz.ntmps18, List.size_toArray, List.length_cons, List.length_nil, Nat.reduceAdd, Nat.reduceSub, Array.replicate_succ, Array.replicate_zero, List.push_toArray, List.append_toArray, List.nil_append, List.cons_append]
  have HCk : Seal _ := ⟨HChk.out w5 k5⟩
  have HG : Seal _ := ⟨And.intro g0 (And.intro g1 g2)⟩
  have c0 := cell_of_one g0
  have c1 := cell_of_one g1
  have c2 := cell_of_one g2
  have HZ5 : Seal _ := ⟨z5⟩
  clear g0 g1 g2 z5
  gi_wp2_with fail
  rw [← hw5]
  obtain ⟨m, hm⟩ : ∃ m, w.heap.size = m := ⟨_, rfl⟩
  rw [hm] at HG c0 c1 c2 HZ5 ⊢
  have HM : Seal _ := ⟨hm⟩
  rw [hm] at lts
  clear hw5 hm
  refine ⟨trivial, rfl, ?_⟩
  refine (callsIn_wide.2 HCk.out).mono ?_
  rintro e w6 ⟨rfl, rfl⟩
  have hd1 : decide ((k : Int) < 1) = false := decide_eq_false (by omega)
  gi_wp2_with fail
  rw [HZ5.out]
  obtain ⟨w7, hw7⟩ : ∃ w7, w7 = w6.alloc (.cells #[.func (.func 57) #[.pointer (some ⟨b, 0, none⟩)] #[]] 119) := ⟨_, rfl⟩
  rw [← hw7]
  have k7 : Keep Nope w6 w7 := by rw [hw7]; exact (Keep.refl _ w6).alloc _
  have q0 : w7.heap[m + 1 + 1 + 1]? = some (.cells #[.func (.func 57) #[.pointer (some ⟨b, 0, none⟩)] #[]] 119 (0, 0)) := by rw [hw7, ← HZ5.out]; exact World.alloc_heap_new w6 _
  have z7 : w7.heap.size = m + 1 + 1 + 1 + 1 := by rw [hw7, World.size_alloc, HZ5.out]
  clear hw7 c0 c1 c2
  refine ⟨trivial, rfl, ?_⟩
  refine (callsIn_wide.2 (free_fn P.s w7)).mono ?_
  rintro e wl ⟨rfl, hwl⟩
  have hzl : wl.heap.size = w7.heap.size + 1 := by rw [← hwl]; simp
  have kl : Keep Nope w7 wl := by rw [← hwl]; exact (Keep.refl _ w7).alloc _
  have gbx : wl.heap[w7.heap.size]? = some (.cells #[.pointer (some ⟨P.s, 0, none⟩)] 29 (0, 0)) := by rw [← hwl]; exact World.alloc_heap_new w7 _
  clear hwl
  rw [z7] at gbx hzl
  rw [z7]
  clear z7
  have K6L : Keep Nope w6 wl := k7.then' kl
  have KL : Keep Nope w wl := k5.then' K6L
  have SL := HH.out.keepN KL
  have b0 := K6L.at_ HG.out.1 (fun h => h)
  have b1 := K6L.at_ HG.out.2.1 (fun h => h)
  have b2 := K6L.at_ HG.out.2.2 (fun h => h)
  have bq := kl.at_ q0 (fun h => h)
  have HB : Seal _ := ⟨And.intro b0 (And.intro b1 (And.intro b2 bq))⟩
  have HKL : Seal _ := ⟨KL⟩
  have HSL : Seal _ := ⟨SL⟩
  clear b0 b1 b2 bq q0 k7 kl K6L k5 KL SL HCk HChk
  gi_wp2_with fail
  refine wpIn_range2 (n := 0) (gf := 99) (lb := #[.pointer (some ⟨m + 1 + 1 + 1 + 1, 0, none⟩)]) rfl (enters_of Tryz.func99 (by kernel_rfl) rfl)
    (free_iter P cs wl (m + 1 + 1 + 1 + 1) HSL.out gbx (R := Nope) (X := fun k => k = m + 1 ∨ k = m + 1 + 1) (fun k hk => hk.elim) hlen) (fun k hk => hk.elim) (fun k hk => hk.elim)
    (fun k hk => by omega) (fun k hk => hk.elim) (fun _ => rfl)
    (fun pre W' => Keep Nope wl W' ∧ ∀ c ∈ pre, askB blk c.g c.fin k = none) (fun c pre W' => FirstIx blk k m wl c pre W') ?hI ?hIx ?h0 ?hround ?hdone ?hstop
  case hI =>
    rintro pre A B ⟨a1, a2⟩ hk
    exact ⟨a1.trans hk (fun b hb h => by rcases h with h | h | h; exact h; omega; omega), a2⟩
  case hIx =>
    rintro c pre A B ⟨a0, p, x, g, e1, e2, e3, a1, a2, a3⟩ hk
    exact ⟨a0, p, x, g, e1, e2, e3, hk.at_ a1 (fun h => by rcases h with h | h | h; exact h; omega; omega), hk.at_ a2 (fun h => by rcases h with h | h | h; exact h; omega; omega), a3.trans hk (fun b hb h => by rcases h with h | h | h; exact h.elim; omega; omega)⟩
  case h0 => exact ⟨Keep.refl _ _, fun c hc => by cases hc⟩
  case hround =>
    rintro pre x rest W' hx ⟨hK, hpre⟩ hs
    have hxm : x ∈ cs := by
      have : x ∈ gapsOf cs := by rw [hx]; simp
      exact (List.mem_filter.1 this).1
    have HPre : Seal _ := ⟨hpre⟩
    have hxf : x.fin = x.g + x.sz := rfl
    obtain ⟨f1, f2, f3⟩ := HFin.out x hxm
    unfold cellV
    gi_wp2_with fail
    refine ⟨(Keep.refl _ W').alloc _, ?_⟩
    intro W2 hc2 hf2 hk2 hs2 hr2
    have kW : Keep Nope W' (W'.alloc (.cells #[.int .i64 (x.g : Nat), .int .u8 (x.tag : Nat), .int .i64 (x.ty : Nat), .int .i64 (x.ln : Nat), .int .i64 (x.sz : Nat)] 51)) := (Keep.refl _ W').alloc _
    have bc := hk2.at_ (World.alloc_heap_new W' (.cells #[.int .i64 (x.g : Nat), .int .u8 (x.tag : Nat), .int .i64 (x.ty : Nat), .int .i64 (x.ln : Nat), .int .i64 (x.sz : Nat)] 51)) (by omega)
    have hzW := hK.size
    have N2 : Keep Nope wl W2 := ((hK.then' kW).of_not (fun k => k = wl.heap.size + 1)).trans hk2 (fun _ _ h => h) |>.mono (fun b hb h => by omega)
    have n0 := cell_of_one (N2.at_ HB.out.1 (fun h => h))
    have nq := cell_of_one (N2.at_ HB.out.2.2.2 (fun h => h))
    have d0 : W2.cell? ⟨W'.heap.size, 0, none⟩ = some (.int .i64 (x.g : Nat)) := by simp [World.cell?, bc]
    have d4 : W2.cell? ⟨W'.heap.size, 4, none⟩ = some (.int .i64 (x.sz : Nat)) := by simp [World.cell?, bc]
    have HAs : Seal (∀ q, _) := ⟨fun q => HAsk.out (W2.drewN q) ((HKL.out.then' N2).then' (Keep.of_drewN _)) x hxm⟩
    have HFn : Seal ((x.g : Int) + (x.sz : Int) = ((x.fin : Nat) : Int)) := ⟨by omega⟩
    have r1 := N2.at_ HB.out.2.1 (fun h => h)
    have r2 := N2.at_ HB.out.2.2.1 (fun h => h)
    have HR1 : Seal _ := ⟨And.intro r1 r2⟩
    clear r1 r2
    have HN2 : Seal _ := ⟨N2⟩
    clear hc2 hf2 hs2 kW bc hpre hx N2 hK hk2
    gi_wp2_with fail
    refine wpIn_region_quiet (by kernel_rfl) (by kernel_rfl) (by kernel_rfl) (fun _ _ h => h) ?_
    repeat (go_big_quiet_step (fail))
    refine wpQuiet_nil ?_
    intro _ hw'
    obtain ⟨nq, hw''⟩ := hw'
    subst hw''
    gi_wp2_with fail
    rw [HFn.out]
    refine ⟨trivial, rfl, ?_⟩
    refine (callsIn_round (HAs.out _)).mono ?_
    rintro e w3 ⟨k3, g, bb, rfl, hb⟩
    have K3 : Keep Nope W2 w3 := (Keep.of_drewN _).then' k3
    have r1 := K3.at_ HR1.out.1 (fun h => h)
    have r2 := K3.at_ HR1.out.2 (fun h => h)
    have c1 := cell_of_one r1
    have c2 := cell_of_one r2
    have f1' := free_of_one r1
    have f2' := free_of_one r2
    have HRR : Seal _ := ⟨And.intro r1 r2⟩
    clear k3 n0 nq d0 d4 r1 r2
    rcases hb with ⟨rfl, j, rfl, ho⟩ | ⟨rfl, ho⟩
    · have HO : Seal _ := ⟨ho⟩
      clear ho
      gi_wp2_with fail
      have kB : Keep (fun b => b = m + 1 ∨ b = m + 1 + 1) w3 ((w3.setCell ⟨m + 1, 0, none⟩ (.int .i64 (j : Nat))).setCell ⟨m + 1 + 1, 0, none⟩ (.int .i64 0)) := ((Keep.refl (fun b => b = m + 1 ∨ b = m + 1 + 1) w3).setCell (fun _ => .inl rfl) _).setCell (fun _ => .inr rfl) _
      refine ⟨(K3.of_not _).trans kB (fun b hb h => h), rfl, pre, x, j, rfl, HPre.out, HO.out, ?_, one_setCell ((Below.heap_setCell _ _ _ _ (by dsimp only; omega)).trans HRR.out.2), ((HN2.out.then' K3).of_not _).trans kB (fun b hb h => h)⟩
      exact (Below.heap_setCell _ _ _ _ (by dsimp only; omega)).trans (one_setCell HRR.out.1)
    · have HO : Seal _ := ⟨ho⟩
      clear ho
      gi_wp2_with fail
      exact ⟨K3, HN2.out.then' K3, fun d hd => by
        rcases List.mem_append.1 hd with hd | hd
        · exact HPre.out d hd
        · rw [List.mem_singleton.1 hd]; exact HO.out⟩
  case hdone =>
    rintro W' ⟨hK, hpre⟩ hs hD
    have HPre : Seal _ := ⟨hpre⟩
    have r1 := hK.at_ HB.out.2.1 (fun h => h)
    have r2 := hK.at_ HB.out.2.2.1 (fun h => h)
    have c1 := cell_of_one r1
    have c2 := cell_of_one r2
    have f1' := free_of_one r1
    have f2' := free_of_one r2
    have HRR : Seal _ := ⟨And.intro r1 r2⟩
    clear hpre r1 r2
    gi_wp2_with fail
    obtain ⟨w9, hw9⟩ : ∃ w9, w9 = (W'.setCell ⟨m + 1, 0, none⟩ (.int .i64 0)).setCell ⟨m + 1 + 1, 0, none⟩ (.int .i64 4) := ⟨_, rfl⟩
    rw [← hw9]
    have kB : Keep (fun b => b = m + 1 ∨ b = m + 1 + 1) W' w9 := by rw [hw9]; exact ((Keep.refl (fun b => b = m + 1 ∨ b = m + 1 + 1) W').setCell (fun _ => .inl rfl) _).setCell (fun _ => .inr rfl) _
    have s1 : w9.heap[m + 1]? = some (.cells #[.int .i64 0] 3 (0, 0)) := by rw [hw9]; exact (Below.heap_setCell _ _ _ _ (by dsimp only; omega)).trans (one_setCell HRR.out.1)
    have s2 : w9.heap[m + 1 + 1]? = some (.cells #[.int .i64 4] 35 (0, 0)) := by rw [hw9]; exact one_setCell ((Below.heap_setCell _ _ _ _ (by dsimp only; omega)).trans HRR.out.2)
    clear hw9
    refine ⟨by simp, .inl ⟨_, _, rfl, run_takeDeferred (kB.at_ hD (by omega)), ?_⟩⟩
    have kE : Keep (fun b => b = wl.heap.size) w9 (w9.putObj wl.heap.size (.deferred none)) := (Keep.refl (fun b => b = wl.heap.size) w9).putObj (fun _ => rfl) _
    have e1 := cell_of_one (kE.at_ s1 (by omega))
    have e2 := cell_of_one (kE.at_ s2 (by omega))
    refine ⟨.tuple #[.int .i64 0, .int .i64 4], by simp [results, Tryz.results18, go_sem, e1, e2], ?_, ?_⟩
    · rw [firstFit_none HPre.out]; rfl
    · exact ((HKL.out.then' hK).trans kB (fun b hb h => by rw [HM.out] at hb; omega)).trans kE (fun b hb h => by rw [HM.out] at hb; omega)
  case hstop =>
    rintro c pre W' hp ⟨rfl, p, x, g, e1, e2, e3, a1, a2, a3⟩ hs hD
    obtain ⟨rest, hrest⟩ := hp
    have HRest : Seal _ := ⟨hrest⟩
    have HE1 : Seal _ := ⟨e1⟩
    have HE : Seal _ := ⟨And.intro e2 e3⟩
    clear hrest e1 e2 e3
    gi_wp2_with fail
    refine ⟨by simp, .inl ⟨_, _, rfl, run_takeDeferred hD, ?_⟩⟩
    have kE : Keep (fun b => b = wl.heap.size) W' (W'.putObj wl.heap.size (.deferred none)) := (Keep.refl (fun b => b = wl.heap.size) W').putObj (fun _ => rfl) _
    have e1 := cell_of_one (kE.at_ a1 (by omega))
    have e2 := cell_of_one (kE.at_ a2 (by omega))
    refine ⟨.tuple #[.int .i64 (g : Nat), .int .i64 0], by simp [results, Tryz.results18, go_sem, e1, e2], ?_, ?_⟩
    · have : firstFit blk k (gapsOf cs) = some g := by
        rw [← HRest.out, HE1.out, List.append_assoc]
        exact firstFit_some HE.out.1 HE.out.2
      rw [this]; rfl
    · exact (HKL.out.trans a3 (fun b hb h => by rw [HM.out] at hb; omega)).trans kE (fun b hb h => by rw [HM.out] at hb; omega)

end Go.Proofs.YtfnmflgnbjjkkaaGreatDoor

namespace Go.Proofs.YtfnmflgnbjjkkaaGreatDoor
open Go.RowKit
set_option linter.unusedVariables false
attribute [local go_sem] Oper.semAt_some

/-- How many of d granules from s on are not black. -/
def cntW (blk : Nat → Bool) (s : Nat) : Nat → Nat
  | 0 => 0
  | d + 1 => cntW blk s d + (if blk (s + d) then 0 else 1)

theorem cntW_le (blk : Nat → Bool) (s : Nat) : ∀ d, cntW blk s d ≤ d
  | 0 => Nat.le_refl _
  | d + 1 => by rw [cntW]; have := cntW_le blk s d; split <;> omega

/-- How many granules of gaps are not black. -/
def freeOf (blk : Nat → Bool) : List Cel → Nat
  | [] => 0
  | c :: cs => cntW blk c.g c.sz + freeOf blk cs

theorem freeOf_app (blk : Nat → Bool) : ∀ (xs : List Cel) (x : Cel), freeOf blk (xs ++ [x]) = freeOf blk xs + cntW blk x.g x.sz
  | [], x => by simp [freeOf]
  | y :: xs, x => by rw [List.cons_append, freeOf, freeOf, freeOf_app blk xs x]; omega

theorem freeOf_le (blk : Nat → Bool) : ∀ {xs cs : List Cel} {a b : Nat}, Tiles a cs b → xs <+: gapsOf cs → freeOf blk xs ≤ b - a
  | [], cs, a, b, h, hp => Nat.zero_le _
  | x :: xs, [], a, b, h, hp => by
    obtain ⟨t, ht⟩ := hp
    simp [gapsOf] at ht
  | x :: xs, c :: cs, a, b, ⟨h1, h2, h3⟩, hp => by
    have hle := h3.le
    by_cases ht : c.tag = 1
    · have e : gapsOf (c :: cs) = gapsOf cs := by simp [gapsOf, ht]
      rw [e] at hp
      have := freeOf_le blk h3 hp
      omega
    · have e : gapsOf (c :: cs) = c :: gapsOf cs := by simp [gapsOf, ht]
      rw [e] at hp
      obtain ⟨t, ht'⟩ := hp
      simp only [List.cons_append, List.cons.injEq] at ht'
      obtain ⟨rfl, ht'⟩ := ht'
      have := freeOf_le blk h3 ⟨t, ht'⟩
      have h5 := cntW_le blk x.g x.sz
      rw [freeOf]
      omega
termination_by xs cs => cs.length

/-- A list's or no list's Has. -/
def HasC (bv : Value) (blk : Nat → Bool) (n : Nat) (w' : World) : Prop :=
  ∀ i : Nat, i < n → Calls Tryz.prog 20 #[bv, .int .i64 (i : Nat)] w' fun e w'' => e = .returned (.bool (blk i)) ∧ Keep Nope w' w''

theorem has_blk {w : World} {bv : Value} {n : Nat} {blk : Nat → Bool} (h : BlkAt w bv n blk) : HasC bv blk n w := by
  intro i hi
  rcases h with ⟨rfl, rfl⟩ | ⟨b, p0, q0, p1, q1, f0, f1, rfl, hb, rfl⟩
  · exact (BHas_nil (i : Nat) w).mono fun e w' hp => ⟨hp.1, by rw [← hp.2]; exact Keep.refl _ _⟩
  · refine (BHas_at (i : Nat) b p0 q0 p1 q1 n f0 f1 w hb).mono fun e w' hp => ⟨?_, hp.2⟩
    rw [hp.1]
    have : ∀ f : Nat → Bool, hasI f n (i : Nat) = f i := fun f => by
      simp only [hasI]
      rw [decide_eq_true (show (0 : Int) ≤ (i : Nat) ∧ ((i : Nat) : Int) < (n : Nat) by omega)]
      simp
    rw [this, this]

/-- The blocks of a list lie below. -/
theorem BlkAt.keepB {w w' : World} {v : Value} {n z : Nat} {blk : Nat → Bool} {S : Nat → Prop} (h : BlkAt w v n blk) (k : Keep S w w') (hS : ∀ b, b < w.heap.size → ¬ S b) : BlkAt w' v n blk := by
  rcases h with h | ⟨b, p0, q0, p1, q1, f0, f1, h1, h2, h3⟩
  · exact .inl h
  · refine .inr ⟨b, p0, q0, p1, q1, f0, f1, h1, h2.keep k (hS _ (lt_of_heap h2.hb)) (hS _ h2.h0.lt_p') (hS _ h2.h0.lt_q') (hS _ h2.h1.lt_p') (hS _ h2.h1.lt_q'), h3⟩

theorem check_blk {w : World} {P : Sp} {cs : List Cel} {bv : Value} {blk : Nat → Bool} (h : SpaceHas w P cs) (hb : BlkAt w bv (P.n / 2) blk) :
    Calls Tryz.prog 54 #[.pointer (some ⟨P.s, 0, none⟩), bv] w fun e w'' => e = .returned (.int .i64 0) ∧ w'' = w := by
  obtain ⟨_, _, h1, _⟩ := h
  rcases hb with ⟨rfl, rfl⟩ | ⟨b, p0, q0, p1, q1, f0, f1, rfl, hb, rfl⟩
  · exact check_bare P.s w
  · have := check_at P _ _ b p0 q0 p1 q1 _ f0 f1 w h1 hb
    rw [if_pos rfl] at this
    exact this

def FreePost (n : Nat) (w : World) (e : Ending) (w' : World) : Prop :=
  e = .returned (.tuple #[.int .i64 (n : Nat), .int .i64 0]) ∧ Keep Nope w w'

/-- Behind some gaps. -/
def FreeI (blk : Nat → Bool) (m : Nat) (wl : World) (pre : List Cel) (W' : World) : Prop :=
  W'.heap[m + 1]? = some (.cells #[.int .i64 (freeOf blk pre : Nat)] 3 (0, 0)) ∧ Keep (fun b => b = m + 1) wl W'

/-- Inside a gap. -/
def FreeJ (blk : Nat → Bool) (m acc g sz : Nat) (w2 : World) (y : Value) (wr : World) : Prop :=
  ∃ q t, g ≤ q ∧ q ≤ g + sz ∧ y = .int .i64 (q : Nat) ∧ t = acc + cntW blk g (q - g) ∧ wr.heap[m + 1]? = some (.cells #[.int .i64 (t : Nat)] 3 (0, 0)) ∧ Keep (fun b => b = m + 1) w2 wr

set_option maxRecDepth 20000 in
set_option maxHeartbeats 8000000 in
theorem FFree_at (P : Sp) (cs : List Cel) (bv : Value) (blk : Nat → Bool) (w : World) (h : SpaceHas w P cs) (hb : BlkAt w bv (P.n / 2) blk) :
    Calls Tryz.prog 17 #[.pointer (some ⟨P.s, 0, none⟩), bv] w (FreePost (freeOf blk (gapsOf cs)) w) := by
  have hlen : cs.length ≤ 32768 := by
    obtain ⟨_, _, h1, h2, _⟩ := h
    have := tiles_len h2.tl
    have := h1.ar.small
    omega
  have hfin : ∀ c ∈ cs, c.g + c.sz ≤ P.n / 2 ∧ P.n / 2 ≤ 32768 := by
    intro c hc
    obtain ⟨_, _, h1, h2, _⟩ := h
    have := h2.tl.mem hc
    have := h1.ar.small
    exact ⟨by omega, by omega⟩
  have hfree : ∀ pre, pre <+: gapsOf cs → freeOf blk pre ≤ 32768 := by
    intro pre hp
    obtain ⟨_, _, h1, h2, _⟩ := h
    have := freeOf_le blk h2.tl hp
    have := h1.ar.small
    omega
  have HH : Seal _ := ⟨h⟩
  have HB0 : Seal _ := ⟨hb⟩
  have HFin : Seal _ := ⟨hfin⟩
  have HFr : Seal _ := ⟨hfree⟩
  have lts := h.lt P.s (by simp [Sp.all])
  clear hfin hfree
  obtain ⟨bn, hbn⟩ : ∃ bn, bv = .pointer bn := by
    rcases hb with ⟨h, _⟩ | ⟨b, _, _, _, _, _, _, h, _⟩
    · exact ⟨_, h⟩
    · exact ⟨_, h⟩
  subst hbn
  clear h hb
  obtain ⟨w5, hw5⟩ : ∃ w5, w5 = (w.alloc (.cells #[.pointer bn] 31)).alloc (.cells #[.int .i64 0] 3) := ⟨_, rfl⟩
  have k5 : Keep Nope w w5 := by rw [hw5]; exact ((Keep.refl _ w).alloc _).alloc _
  have g0 : w5.heap[w.heap.size]? = some (.cells #[.pointer bn] 31 (0, 0)) := by
    rw [hw5]; exact ((Keep.refl Nope _).alloc _).at_ (World.alloc_heap_new w _) (fun h => h)
  have g1 : w5.heap[w.heap.size + 1]? = some (.cells #[.int .i64 0] 3 (0, 0)) := by
    rw [hw5]; exact alloc_new' _ _ (by simp)
  have z5 : w5.heap.size = w.heap.size + 1 + 1 := by rw [hw5]; simp
  refine (callsIn_wide (n := 0)).1 ?_
  refine callsIn_of_wp_marks Tryz.func17 rfl trivial ?_
  simp only [Tryz.ntmps17, List.size_toArray, List.length_cons, List.length_nil, Nat.reduceAdd, Nat.reduceSub, Array.replicate_succ, Array.replicate_zero, List.push_toArray, List.append_toArray, List.nil_append, List.cons_append]
  have HCk : Seal _ := ⟨check_blk (HH.out.keepN k5) (HB0.out.keepN k5)⟩
  have HG : Seal _ := ⟨And.intro g0 g1⟩
  have c0 := cell_of_one g0
  have c1 := cell_of_one g1
  have HZ5 : Seal _ := ⟨z5⟩
  clear g0 g1 z5
  gi_wp2_with fail
  rw [← hw5]
  obtain ⟨m, hm⟩ : ∃ m, w.heap.size = m := ⟨_, rfl⟩
  rw [hm] at HG c0 c1 HZ5 ⊢
  have HM : Seal _ := ⟨hm⟩
  rw [hm] at lts
  clear hw5 hm
  refine ⟨trivial, rfl, ?_⟩
  refine (callsIn_wide.2 HCk.out).mono ?_
  rintro e w6 ⟨rfl, rfl⟩
  gi_wp2_with fail
  clear c0 c1
  refine ⟨trivial, rfl, ?_⟩
  refine (callsIn_wide.2 (free_fn P.s w6)).mono ?_
  rintro e wl ⟨rfl, hwl⟩
  have hzl : wl.heap.size = w6.heap.size + 1 := by rw [← hwl]; simp
  have kl : Keep Nope w6 wl := by rw [← hwl]; exact (Keep.refl _ w6).alloc _
  have gbx : wl.heap[w6.heap.size]? = some (.cells #[.pointer (some ⟨P.s, 0, none⟩)] 29 (0, 0)) := by rw [← hwl]; exact World.alloc_heap_new w6 _
  clear hwl
  rw [HZ5.out] at gbx hzl
  rw [HZ5.out]
  have KL : Keep Nope w wl := k5.then' kl
  have b0 := kl.at_ HG.out.1 (fun h => h)
  have b1 := kl.at_ HG.out.2 (fun h => h)
  have HB : Seal _ := ⟨And.intro b0 b1⟩
  have HKL : Seal _ := ⟨KL⟩
  have HSL : Seal _ := ⟨HH.out.keepN KL⟩
  have HBL : Seal (∀ w', Keep (fun b => b = m + 1) wl w' → HasC (.pointer bn) blk (P.n / 2) w') := ⟨fun w' hw' => has_blk (BlkAt.keepB (z := 0) HB0.out ((KL.of_not (fun b => b = m + 1)).trans hw' (fun b hb h => h)) (fun b hb h => by rw [HM.out] at hb; omega))⟩
  clear b0 b1 kl k5 KL HCk
  gi_wp2_with fail
  refine wpIn_range2 (n := 0) (gf := 99) (lb := #[.pointer (some ⟨m + 1 + 1, 0, none⟩)]) rfl (enters_of Tryz.func99 (by kernel_rfl) rfl)
    (free_iter P cs wl (m + 1 + 1) HSL.out gbx (R := fun k => k = m + 1) (X := fun k => k = m + 1) (fun k hk => by omega) hlen) (fun k hk => hk.elim) (fun k hk => by omega)
    (fun k hk => by omega) (fun k hk => hk) (fun _ => rfl)
    (fun pre W' => FreeI blk m wl pre W') (fun c pre W' => False) ?hI ?hIx ?h0 ?hround ?hdone ?hstop
  case hI =>
    rintro pre A B ⟨a1, a2⟩ hk
    exact ⟨hk.at_ a1 (fun h => by rcases h with h | h | h; exact h; omega; omega), a2.trans hk (fun b hb h => by rcases h with h | h | h; exact h.elim; omega; omega)⟩
  case hIx => exact fun c pre A B h hk => h
  case h0 => exact ⟨HB.out.2, Keep.refl _ _⟩
  case hround =>
    rintro pre x rest W' hx ⟨hA, hK⟩ hs
    have hxm : x ∈ cs := by
      have : x ∈ gapsOf cs := by rw [hx]; simp
      exact (List.mem_filter.1 this).1
    obtain ⟨f1, f2⟩ := HFin.out x hxm
    have hac := HFr.out pre ⟨_, hx.symm⟩
    obtain ⟨acc, hacc⟩ : ∃ acc, freeOf blk pre = acc := ⟨_, rfl⟩
    rw [hacc] at hA hac
    have HAcc : Seal _ := ⟨hacc⟩
    unfold cellV
    gi_wp2_with fail
    refine ⟨(Keep.refl _ W').alloc _, ?_⟩
    intro W2 hc2 hf2 hk2 hs2 hr2
    have kW : Keep Nope W' (W'.alloc (.cells #[.int .i64 (x.g : Nat), .int .u8 (x.tag : Nat), .int .i64 (x.ty : Nat), .int .i64 (x.ln : Nat), .int .i64 (x.sz : Nat)] 51)) := (Keep.refl _ W').alloc _
    have bc := hk2.at_ (World.alloc_heap_new W' (.cells #[.int .i64 (x.g : Nat), .int .u8 (x.tag : Nat), .int .i64 (x.ty : Nat), .int .i64 (x.ln : Nat), .int .i64 (x.sz : Nat)] 51)) (by omega)
    have hzW := hK.size
    have N2 : Keep (fun b => b = m + 1) wl W2 := ((hK.trans kW (fun b hb h => h.elim)).trans hk2 (fun b hb h => by omega))
    have hA2 := hk2.at_ (kW.at_ hA (fun h => h)) (by omega)
    have n0 := cell_of_one (N2.at_ HB.out.1 (by omega))
    have d0 : W2.cell? ⟨W'.heap.size, 0, none⟩ = some (.int .i64 (x.g : Nat)) := by simp [World.cell?, bc]
    have d4 : W2.cell? ⟨W'.heap.size, 4, none⟩ = some (.int .i64 (x.sz : Nat)) := by simp [World.cell?, bc]
    have HN2 : Seal _ := ⟨N2⟩
    have HA2 : Seal _ := ⟨hA2⟩
    have HBc : Seal _ := ⟨bc⟩
    have hzz : W'.heap.size < W2.heap.size := lt_of_heap bc
    have HX : Seal _ := ⟨hx⟩
    clear hc2 hf2 hs2 kW bc hx N2 hK hk2 hA hA2 hacc
    gi_wp2_with fail
    gi_loopw [8] (fun y wr => FreeJ blk m acc x.g x.sz W2 y wr) (fun y wr => x.g + x.sz - (intOf y).toNat)
    case atStart => exact ⟨x.g, acc, Nat.le_refl _, by omega, rfl, by rw [Nat.sub_self]; rfl, HA2.out, Keep.refl _ _⟩
    case round =>
      obtain ⟨q, t, hq1, hq2, rfl, hT, hA, hK⟩ := hrel
      have HT : Seal _ := ⟨hT⟩
      have ht2 : t ≤ 65536 := by have := cntW_le blk x.g (q - x.g); omega
      replace d0 := hK.cell d0 (by dsimp only; omega)
      replace d4 := hK.cell d4 (by dsimp only; omega)
      replace n0 := hK.cell n0 (by dsimp only; omega)
      have cA := cell_of_one hA
      have fA := free_of_one hA
      have HA : Seal _ := ⟨hA⟩
      clear hT hA
      by_cases hdl : q < x.g + x.sz
      · have t1 : decide ((q : Int) < (x.g : Int) + (x.sz : Int)) = true := decide_eq_true (by omega)
        have HC : Seal _ := ⟨HBL.out wr (HN2.out.trans hK (fun b hb h => h)) q (by omega)⟩
        have HS : Seal (cntW blk x.g (q + 1 - x.g) = cntW blk x.g (q - x.g) + (if blk q then 0 else 1)) := ⟨by
          rw [show q + 1 - x.g = (q - x.g) + 1 by omega, cntW, show x.g + (q - x.g) = q by omega]⟩
        gi_wp2_with fail
        refine ⟨trivial, rfl, ?_⟩
        refine (callsIn_round HC.out).mono ?_
        rintro e w3 ⟨rfl, k3⟩
        have hA3 := k3.at_ HA.out (fun h => h)
        have K3 : Keep (fun b => b = m + 1) W2 w3 := hK.trans k3 (fun b hb h => h.elim)
        replace cA := cell_of_one hA3
        replace fA := free_of_one hA3
        have HA3 : Seal _ := ⟨hA3⟩
        clear hA3 k3 d0 d4 n0
        cases hbk : blk q with
        | false =>
          have HS' : Seal (cntW blk x.g (q + 1 - x.g) = cntW blk x.g (q - x.g) + 1) := ⟨by rw [HS.out, hbk]; rfl⟩
          clear hbk
          gi_wp2_with fail
          refine ⟨⟨q + 1, t + 1, by omega, by omega, by go_num, by rw [HS'.out]; have := HT.out; omega, ?_, K3.setCell (fun _ => rfl) _⟩, by simp only [intOf]; omega⟩
          have := one_setCell (u := .int .i64 ((t : Int) + 1)) HA3.out
          rw [show (((t + 1 : Nat)) : Int) = (t : Int) + 1 by omega]
          exact this
        | true =>
          have HS' : Seal (cntW blk x.g (q + 1 - x.g) = cntW blk x.g (q - x.g)) := ⟨by rw [HS.out, hbk]; rfl⟩
          clear hbk
          gi_wp2_with fail
          exact ⟨⟨q + 1, t, by omega, by omega, by go_num, by rw [HS'.out]; have := HT.out; omega, HA3.out, K3⟩, by simp only [intOf]; omega⟩
      · have t1 : decide ((q : Int) < (x.g : Int) + (x.sz : Int)) = false := decide_eq_false (by omega)
        gi_wp2_with fail
        refine ⟨hK, ?_, HN2.out.trans hK (fun b hb h => h)⟩
        rw [freeOf_app, HAcc.out]
        have : t = acc + cntW blk x.g x.sz := by
          have h1 := HT.out
          rwa [show q - x.g = x.sz by omega] at h1
        rw [← this]
        exact HA.out
  case hdone =>
    rintro W' ⟨hA, hK⟩ hs hD
    have cA := cell_of_one hA
    have fA := free_of_one hA
    have HA : Seal _ := ⟨hA⟩
    obtain ⟨T, hT⟩ : ∃ T, freeOf blk (gapsOf cs) = T := ⟨_, rfl⟩
    rw [hT] at cA HA
    have HT : Seal _ := ⟨hT⟩
    clear hA hT
    gi_wp2_with fail
    obtain ⟨w9, hw9⟩ : ∃ w9, w9 = W'.setCell ⟨m + 1, 0, none⟩ (.int .i64 (T : Nat)) := ⟨_, rfl⟩
    rw [← hw9]
    have kB : Keep (fun b => b = m + 1) W' w9 := by rw [hw9]; exact (Keep.refl (fun b => b = m + 1) W').setCell (fun _ => rfl) _
    have s1 : w9.heap[m + 1]? = some (.cells #[.int .i64 (T : Nat)] 3 (0, 0)) := by rw [hw9]; exact one_setCell HA.out
    clear hw9
    refine ⟨by simp, .inl ⟨_, _, rfl, run_takeDeferred (kB.at_ hD (by omega)), ?_⟩⟩
    have kE : Keep (fun b => b = wl.heap.size) w9 (w9.putObj wl.heap.size (.deferred none)) := (Keep.refl (fun b => b = wl.heap.size) w9).putObj (fun _ => rfl) _
    have e1 := cell_of_one (kE.at_ s1 (by omega))
    refine ⟨.tuple #[.int .i64 (T : Nat), .int .i64 0], by simp [results, Tryz.results17, go_sem, e1], ?_, ?_⟩
    · rw [HT.out]
    · exact ((HKL.out.trans hK (fun b hb h => by rw [HM.out] at hb; omega)).trans kB (fun b hb h => by rw [HM.out] at hb; omega)).trans kE (fun b hb h => by rw [HM.out] at hb; omega)
  case hstop => exact fun c pre W' hp h => h.elim

end Go.Proofs.YtfnmflgnbjjkkaaGreatDoor

namespace Go.Proofs.YtfnmflgnbjjkkaaGreatDoor
open Go.RowKit
set_option linter.unusedVariables false
attribute [local go_sem] Oper.semAt_some

/-- Where the longest run stands behind d granules of a gap from g to e: where the run at hand began, and the longest one. -/
def mostW (blk : Nat → Bool) (g e best : Nat) : Nat → Nat × Nat
  | 0 => (g, best)
  | d + 1 => if g + d = e ∨ blk (g + d) = true then (g + d + 1, max (mostW blk g e best d).2 (g + d - (mostW blk g e best d).1)) else mostW blk g e best d

/-- The longest run in gaps. -/
def mostOf (blk : Nat → Bool) (gs : List Cel) : Nat := gs.foldl (fun b c => (mostW blk c.g (c.g + c.sz) b (c.sz + 1)).2) 0

theorem mostOf_app (blk : Nat → Bool) (xs : List Cel) (x : Cel) : mostOf blk (xs ++ [x]) = (mostW blk x.g (x.g + x.sz) (mostOf blk xs) (x.sz + 1)).2 := by
  rw [mostOf, List.foldl_append]; rfl

/-- Behind some gaps. -/
def MostI (blk : Nat → Bool) (m : Nat) (wl : World) (pre : List Cel) (W' : World) : Prop :=
  W'.heap[m + 1]? = some (.cells #[.int .i64 (mostOf blk pre : Nat)] 3 (0, 0)) ∧ mostOf blk pre ≤ 32768 ∧ Keep (fun b => b = m + 1) wl W'

/-- Inside a gap. -/
def MostJ (blk : Nat → Bool) (m acc g sz : Nat) (w2 : World) (z y : Value) (wr : World) : Prop :=
  ∃ q a t, g ≤ q ∧ q ≤ g + sz + 1 ∧ g ≤ a ∧ a ≤ q ∧ t ≤ 32768 ∧ z = .int .i64 (a : Nat) ∧ y = .int .i64 (q : Nat) ∧ mostW blk g (g + sz) acc (q - g) = (a, t) ∧ wr.heap[m + 1]? = some (.cells #[.int .i64 (t : Nat)] 3 (0, 0)) ∧ Keep (fun b => b = m + 1) w2 wr

set_option maxRecDepth 20000 in
set_option maxHeartbeats 8000000 in
theorem FMost_at (P : Sp) (cs : List Cel) (bv : Value) (blk : Nat → Bool) (w : World) (h : SpaceHas w P cs) (hb : BlkAt w bv (P.n / 2) blk) :
    Calls Tryz.prog 21 #[.pointer (some ⟨P.s, 0, none⟩), bv] w (FreePost (mostOf blk (gapsOf cs)) w) := by
  have hlen : cs.length ≤ 32768 := by
    obtain ⟨_, _, h1, h2, _⟩ := h
    have := tiles_len h2.tl
    have := h1.ar.small
    omega
  have hfin : ∀ c ∈ cs, c.g + c.sz ≤ P.n / 2 ∧ P.n / 2 ≤ 32768 := by
    intro c hc
    obtain ⟨_, _, h1, h2, _⟩ := h
    have := h2.tl.mem hc
    have := h1.ar.small
    exact ⟨by omega, by omega⟩
  have HH : Seal _ := ⟨h⟩
  have HB0 : Seal _ := ⟨hb⟩
  have HFin : Seal _ := ⟨hfin⟩
  have lts := h.lt P.s (by simp [Sp.all])
  clear hfin
  obtain ⟨bn, hbn⟩ : ∃ bn, bv = .pointer bn := by
    rcases hb with ⟨h, _⟩ | ⟨b, _, _, _, _, _, _, h, _⟩
    · exact ⟨_, h⟩
    · exact ⟨_, h⟩
  subst hbn
  clear h hb
  obtain ⟨w5, hw5⟩ : ∃ w5, w5 = (w.alloc (.cells #[.pointer bn] 31)).alloc (.cells #[.int .i64 0] 3) := ⟨_, rfl⟩
  have k5 : Keep Nope w w5 := by rw [hw5]; exact ((Keep.refl _ w).alloc _).alloc _
  have g0 : w5.heap[w.heap.size]? = some (.cells #[.pointer bn] 31 (0, 0)) := by
    rw [hw5]; exact ((Keep.refl Nope _).alloc _).at_ (World.alloc_heap_new w _) (fun h => h)
  have g1 : w5.heap[w.heap.size + 1]? = some (.cells #[.int .i64 0] 3 (0, 0)) := by
    rw [hw5]; exact alloc_new' _ _ (by simp)
  have z5 : w5.heap.size = w.heap.size + 1 + 1 := by rw [hw5]; simp
  refine (callsIn_wide (n := 0)).1 ?_
  refine callsIn_of_wp_marks Tryz.func21 rfl trivial ?_
  simp only [Tryz.ntmps21, List.size_toArray, List.length_cons, List.length_nil, Nat.reduceAdd, Nat.reduceSub, Array.replicate_succ, Array.replicate_zero, List.push_toArray, List.append_toArray, List.nil_append, List.cons_append]
  have HCk : Seal _ := ⟨check_blk (HH.out.keepN k5) (HB0.out.keepN k5)⟩
  have HG : Seal _ := ⟨And.intro g0 g1⟩
  have c0 := cell_of_one g0
  have c1 := cell_of_one g1
  have HZ5 : Seal _ := ⟨z5⟩
  clear g0 g1 z5
  gi_wp2_with fail
  rw [← hw5]
  obtain ⟨m, hm⟩ : ∃ m, w.heap.size = m := ⟨_, rfl⟩
  rw [hm] at HG c0 c1 HZ5 ⊢
  have HM : Seal _ := ⟨hm⟩
  rw [hm] at lts
  clear hw5 hm
  refine ⟨trivial, rfl, ?_⟩
  refine (callsIn_wide.2 HCk.out).mono ?_
  rintro e w6 ⟨rfl, rfl⟩
  gi_wp2_with fail
  clear c0 c1
  refine ⟨trivial, rfl, ?_⟩
  refine (callsIn_wide.2 (free_fn P.s w6)).mono ?_
  rintro e wl ⟨rfl, hwl⟩
  have hzl : wl.heap.size = w6.heap.size + 1 := by rw [← hwl]; simp
  have kl : Keep Nope w6 wl := by rw [← hwl]; exact (Keep.refl _ w6).alloc _
  have gbx : wl.heap[w6.heap.size]? = some (.cells #[.pointer (some ⟨P.s, 0, none⟩)] 29 (0, 0)) := by rw [← hwl]; exact World.alloc_heap_new w6 _
  clear hwl
  rw [HZ5.out] at gbx hzl
  rw [HZ5.out]
  have KL : Keep Nope w wl := k5.then' kl
  have b0 := kl.at_ HG.out.1 (fun h => h)
  have b1 := kl.at_ HG.out.2 (fun h => h)
  have HB : Seal _ := ⟨And.intro b0 b1⟩
  have HKL : Seal _ := ⟨KL⟩
  have HSL : Seal _ := ⟨HH.out.keepN KL⟩
  have HBL : Seal (∀ w', Keep (fun b => b = m + 1) wl w' → HasC (.pointer bn) blk (P.n / 2) w') := ⟨fun w' hw' => has_blk (BlkAt.keepB (z := 0) HB0.out ((KL.of_not (fun b => b = m + 1)).trans hw' (fun b hb h => h)) (fun b hb h => by rw [HM.out] at hb; omega))⟩
  clear b0 b1 kl k5 KL HCk
  gi_wp2_with fail
  refine wpIn_range2 (n := 0) (gf := 99) (lb := #[.pointer (some ⟨m + 1 + 1, 0, none⟩)]) rfl (enters_of Tryz.func99 (by kernel_rfl) rfl)
    (free_iter P cs wl (m + 1 + 1) HSL.out gbx (R := fun k => k = m + 1) (X := fun k => k = m + 1) (fun k hk => by omega) hlen) (fun k hk => hk.elim) (fun k hk => by omega)
    (fun k hk => by omega) (fun k hk => hk) (fun _ => rfl)
    (fun pre W' => MostI blk m wl pre W') (fun c pre W' => False) ?hI ?hIx ?h0 ?hround ?hdone ?hstop
  case hI =>
    rintro pre A B ⟨a1, a0, a2⟩ hk
    exact ⟨hk.at_ a1 (fun h => by rcases h with h | h | h; exact h; omega; omega), a0, a2.trans hk (fun b hb h => by rcases h with h | h | h; exact h.elim; omega; omega)⟩
  case hIx => exact fun c pre A B h hk => h
  case h0 => exact ⟨HB.out.2, Nat.zero_le _, Keep.refl _ _⟩
  case hround =>
    rintro pre x rest W' hx ⟨hA, hac, hK⟩ hs
    have hxm : x ∈ cs := by
      have : x ∈ gapsOf cs := by rw [hx]; simp
      exact (List.mem_filter.1 this).1
    obtain ⟨f1, f2⟩ := HFin.out x hxm
    obtain ⟨acc, hacc⟩ : ∃ acc, mostOf blk pre = acc := ⟨_, rfl⟩
    rw [hacc] at hA hac
    have HAcc : Seal _ := ⟨hacc⟩
    unfold cellV
    gi_wp2_with fail
    refine ⟨(Keep.refl _ W').alloc _, ?_⟩
    intro W2 hc2 hf2 hk2 hs2 hr2
    have kW : Keep Nope W' (W'.alloc (.cells #[.int .i64 (x.g : Nat), .int .u8 (x.tag : Nat), .int .i64 (x.ty : Nat), .int .i64 (x.ln : Nat), .int .i64 (x.sz : Nat)] 51)) := (Keep.refl _ W').alloc _
    have bc := hk2.at_ (World.alloc_heap_new W' (.cells #[.int .i64 (x.g : Nat), .int .u8 (x.tag : Nat), .int .i64 (x.ty : Nat), .int .i64 (x.ln : Nat), .int .i64 (x.sz : Nat)] 51)) (by omega)
    have hzW := hK.size
    have N2 : Keep (fun b => b = m + 1) wl W2 := ((hK.trans kW (fun b hb h => h.elim)).trans hk2 (fun b hb h => by omega))
    have hA2 := hk2.at_ (kW.at_ hA (fun h => h)) (by omega)
    have n0 := cell_of_one (N2.at_ HB.out.1 (by omega))
    have d0 : W2.cell? ⟨W'.heap.size, 0, none⟩ = some (.int .i64 (x.g : Nat)) := by simp [World.cell?, bc]
    have d4 : W2.cell? ⟨W'.heap.size, 4, none⟩ = some (.int .i64 (x.sz : Nat)) := by simp [World.cell?, bc]
    have HN2 : Seal _ := ⟨N2⟩
    have HA2 : Seal _ := ⟨hA2⟩
    have HBc : Seal _ := ⟨bc⟩
    have hzz : W'.heap.size < W2.heap.size := lt_of_heap bc
    have HX : Seal _ := ⟨hx⟩
    clear hc2 hf2 hs2 kW bc hx N2 hK hk2 hA hA2 hacc
    gi_wp2_with fail
    gi_loopw [8, 9] (fun z y wr => MostJ blk m acc x.g x.sz W2 z y wr) (fun _ y wr => x.g + x.sz + 1 - (intOf y).toNat)
    case atStart => exact ⟨x.g, x.g, acc, Nat.le_refl _, by omega, Nat.le_refl _, Nat.le_refl _, hac, rfl, rfl, by rw [Nat.sub_self]; rfl, HA2.out, Keep.refl _ _⟩
    case round =>
      obtain ⟨q, a, t, hq1, hq2, ha1, ha2, ht2, rfl, rfl, hT, hA, hK⟩ := hrel
      have HT : Seal _ := ⟨hT⟩
      replace d0 := hK.cell d0 (by dsimp only; omega)
      replace d4 := hK.cell d4 (by dsimp only; omega)
      replace n0 := hK.cell n0 (by dsimp only; omega)
      have cA := cell_of_one hA
      have fA := free_of_one hA
      have HA : Seal _ := ⟨hA⟩
      clear hT hA
      by_cases hdl : q ≤ x.g + x.sz
      · have t1 : decide ((q : Int) ≤ (x.g : Int) + (x.sz : Int)) = true := decide_eq_true (by omega)
        have HS : Seal (mostW blk x.g (x.g + x.sz) acc (q + 1 - x.g) = if q = x.g + x.sz ∨ blk q = true then (q + 1, max t (q - a)) else (a, t)) := ⟨by
          rw [show q + 1 - x.g = (q - x.g) + 1 by omega, mostW, show x.g + (q - x.g) = q by omega, HT.out]⟩
        have HMx : Seal (max (t : Int) ((q : Int) - (a : Int)) = ((max t (q - a) : Nat) : Int)) := ⟨by omega⟩
        have hmx : max t (q - a) ≤ 32768 := by omega
        by_cases hqe : q = x.g + x.sz
        · have t2 : ((q : Int) == (x.g : Int) + (x.sz : Int)) = true := by simp; omega
          have HS' : Seal (mostW blk x.g (x.g + x.sz) acc (q + 1 - x.g) = (q + 1, max t (q - a))) := ⟨by rw [HS.out, if_pos (.inl hqe)]⟩
          clear hqe
          gi_wp2_with fail
          refine ⟨trivial, ?_⟩
          gi_wp2_with fail
          refine ⟨trivial, rfl, ?_⟩
          refine (callsIn_round (bigger_any (t : Nat) ((q : Int) - (a : Int)) _)).mono ?_
          rintro e w4 ⟨rfl, rfl⟩
          rw [HMx.out]
          gi_wp2_with fail
          exact ⟨⟨q + 1, q + 1, max t (q - a), by omega, by omega, by omega, Nat.le_refl _, hmx, by go_num, by go_num, HS'.out, one_setCell (u := .int .i64 ((max t (q - a) : Nat) : Int)) HA.out, hK.setCell (fun _ => rfl) _⟩, by simp only [intOf]; omega⟩
        · have t2 : ((q : Int) == (x.g : Int) + (x.sz : Int)) = false := by simp; omega
          have HC : Seal _ := ⟨HBL.out wr (HN2.out.trans hK (fun b hb h => h)) q (by omega)⟩
          gi_wp2_with fail
          refine ⟨trivial, rfl, ?_⟩
          refine (callsIn_round HC.out).mono ?_
          rintro e w3 ⟨rfl, k3⟩
          have hA3 := k3.at_ HA.out (fun h => h)
          have K3 : Keep (fun b => b = m + 1) W2 w3 := hK.trans k3 (fun b hb h => h.elim)
          replace cA := cell_of_one hA3
          replace fA := free_of_one hA3
          have HA3 : Seal _ := ⟨hA3⟩
          clear hA3 k3 d0 d4 n0
          cases hbk : blk q with
          | false =>
            have HS' : Seal (mostW blk x.g (x.g + x.sz) acc (q + 1 - x.g) = (a, t)) := ⟨by rw [HS.out, if_neg (by rw [hbk]; simp [hqe])]⟩
            clear hbk
            gi_wp2_with fail
            exact ⟨⟨q + 1, a, t, by omega, by omega, ha1, by omega, ht2, rfl, by go_num, HS'.out, HA3.out, K3⟩, by simp only [intOf]; omega⟩
          | true =>
            have HS' : Seal (mostW blk x.g (x.g + x.sz) acc (q + 1 - x.g) = (q + 1, max t (q - a))) := ⟨by rw [HS.out, if_pos (.inr hbk)]⟩
            clear hbk hqe
            gi_wp2_with fail
            refine ⟨trivial, rfl, ?_⟩
            refine (callsIn_round (bigger_any (t : Nat) ((q : Int) - (a : Int)) _)).mono ?_
            rintro e w4 ⟨rfl, rfl⟩
            rw [HMx.out]
            gi_wp2_with fail
            exact ⟨⟨q + 1, q + 1, max t (q - a), by omega, by omega, by omega, Nat.le_refl _, hmx, by go_num, by go_num, HS'.out, one_setCell (u := .int .i64 ((max t (q - a) : Nat) : Int)) HA3.out, K3.setCell (fun _ => rfl) _⟩, by simp only [intOf]; omega⟩
      · have t1 : decide ((q : Int) ≤ (x.g : Int) + (x.sz : Int)) = false := decide_eq_false (by omega)
        have hqq : q - x.g = x.sz + 1 := by omega
        have HQ : Seal _ := ⟨hqq⟩
        clear hqq
        gi_wp2_with fail
        have : mostOf blk (pre ++ [x]) = t := by
          rw [mostOf_app, HAcc.out, ← HQ.out, HT.out]
        exact ⟨hK, by rw [this]; exact HA.out, by rw [this]; exact ht2, HN2.out.trans hK (fun b hb h => h)⟩
  case hdone =>
    rintro W' ⟨hA, -, hK⟩ hs hD
    have cA := cell_of_one hA
    have fA := free_of_one hA
    have HA : Seal _ := ⟨hA⟩
    obtain ⟨T, hT⟩ : ∃ T, mostOf blk (gapsOf cs) = T := ⟨_, rfl⟩
    rw [hT] at cA HA
    have HT : Seal _ := ⟨hT⟩
    clear hA hT
    gi_wp2_with fail
    obtain ⟨w9, hw9⟩ : ∃ w9, w9 = W'.setCell ⟨m + 1, 0, none⟩ (.int .i64 (T : Nat)) := ⟨_, rfl⟩
    rw [← hw9]
    have kB : Keep (fun b => b = m + 1) W' w9 := by rw [hw9]; exact (Keep.refl (fun b => b = m + 1) W').setCell (fun _ => rfl) _
    have s1 : w9.heap[m + 1]? = some (.cells #[.int .i64 (T : Nat)] 3 (0, 0)) := by rw [hw9]; exact one_setCell HA.out
    clear hw9
    refine ⟨by simp, .inl ⟨_, _, rfl, run_takeDeferred (kB.at_ hD (by omega)), ?_⟩⟩
    have kE : Keep (fun b => b = wl.heap.size) w9 (w9.putObj wl.heap.size (.deferred none)) := (Keep.refl (fun b => b = wl.heap.size) w9).putObj (fun _ => rfl) _
    have e1 := cell_of_one (kE.at_ s1 (by omega))
    refine ⟨.tuple #[.int .i64 (T : Nat), .int .i64 0], by simp [results, Tryz.results21, go_sem, e1], ?_, ?_⟩
    · rw [HT.out]
    · exact ((HKL.out.trans hK (fun b hb h => by rw [HM.out] at hb; omega)).trans kB (fun b hb h => by rw [HM.out] at hb; omega)).trans kE (fun b hb h => by rw [HM.out] at hb; omega)
  case hstop => exact fun c pre W' hp h => h.elim

end Go.Proofs.YtfnmflgnbjjkkaaGreatDoor

namespace Go.Proofs.YtfnmflgnbjjkkaaGreatDoor
open Go.RowKit
set_option linter.unusedVariables false
attribute [local go_sem] Oper.semAt_some

/-- Where check refuses. -/
def Refused (sp bp : Option Addr) (E : Int) (w : World) : Prop := ∀ w', Keep Nope w w' → Calls Tryz.prog 54 #[.pointer sp, .pointer bp] w' fun e w'' => e = .returned (.int .i64 E) ∧ w'' = w'

theorem refused_nil (bp : Option Addr) (w : World) : Refused none bp 1 w := fun w' _ => check_nil _ w'

theorem refused_diff {P : Sp} {cs : List Cel} {b p0 q0 p1 q1 n : Nat} {f0 f1 : Nat → Bool} {w : World} (h : SpaceHas w P cs) (hb : BlackAt w b p0 q0 p1 q1 f0 f1 n) (hn : ¬ n = P.n / 2) : Refused (some ⟨P.s, 0, none⟩) (some ⟨b, 0, none⟩) 2 w := fun w' hw' => by
  obtain ⟨_, _, h1, _⟩ := h
  have := check_at P _ _ b p0 q0 p1 q1 n f0 f1 w' (h1.keepN hw') (hb.keepN hw')
  rw [if_neg hn] at this
  exact this

def ErrPost (E : Int) (w : World) (e : Ending) (w' : World) : Prop := e = .returned (.tuple #[.int .i64 0, .int .i64 E]) ∧ Keep Nope w w'

set_option maxRecDepth 20000 in
set_option maxHeartbeats 4000000 in
theorem FFirst_err (sp bp : Option Addr) (n E : Int) (w : World) (h : Refused sp bp E w) (hE : ¬ E = 0) :
    Calls Tryz.prog 18 #[.pointer sp, .pointer bp, .int .i64 n] w (ErrPost E w) := by
  have hb : (E != 0) = true := by simpa using hE
  obtain ⟨w5, hw5⟩ : ∃ w5, w5 = ((w.alloc (.cells #[.int .i64 n] 3)).alloc (.cells #[.int .i64 0] 3)).alloc (.cells #[.int .i64 0] 35) := ⟨_, rfl⟩
  have k5 : Keep Nope w w5 := by rw [hw5]; exact (((Keep.refl _ w).alloc _).alloc _).alloc _
  have g1 : w5.heap[w.heap.size + 1]? = some (.cells #[.int .i64 0] 3 (0, 0)) := by
    rw [hw5]; exact ((Keep.refl Nope _).alloc _).at_ (alloc_new' _ _ (by simp)) (fun h => h)
  have g2 : w5.heap[w.heap.size + 1 + 1]? = some (.cells #[.int .i64 0] 35 (0, 0)) := by
    rw [hw5]; exact alloc_new' _ _ (by simp)
  refine (callsIn_wide (n := 0)).1 ?_
  refine callsIn_of_wp_marks Tryz.func18 rfl trivial ?_
  simp only [Tryz.ntmps18, List.size_toArray, List.length_cons, List.length_nil, Nat.reduceAdd, Nat.reduceSub, Array.replicate_succ, Array.replicate_zero, List.push_toArray, List.append_toArray, List.nil_append, List.cons_append]
  have HCk : Seal _ := ⟨h w5 k5⟩
  have HG : Seal _ := ⟨And.intro g1 g2⟩
  have c1 := cell_of_one g1
  have c2 := cell_of_one g2
  have f1 := free_of_one g1
  have f2 := free_of_one g2
  clear g1 g2 h
  gi_wp2_with fail
  rw [← hw5]
  obtain ⟨m, hm⟩ : ∃ m, w.heap.size = m := ⟨_, rfl⟩
  rw [hm] at HG c1 c2 f1 f2 ⊢
  have HM : Seal _ := ⟨hm⟩
  clear hw5 hm
  refine ⟨trivial, rfl, ?_⟩
  refine (callsIn_wide.2 HCk.out).mono ?_
  rintro e w6 ⟨rfl, rfl⟩
  gi_wp2_with fail
  obtain ⟨w9, hw9⟩ : ∃ w9, w9 = (w6.setCell ⟨m + 1, 0, none⟩ (.int .i64 0)).setCell ⟨m + 1 + 1, 0, none⟩ (.int .i64 E) := ⟨_, rfl⟩
  rw [← hw9]
  have kB : Keep (fun b => b = m + 1 ∨ b = m + 1 + 1) w6 w9 := by rw [hw9]; exact ((Keep.refl (fun b => b = m + 1 ∨ b = m + 1 + 1) w6).setCell (fun _ => .inl rfl) _).setCell (fun _ => .inr rfl) _
  have e1 := cell_of_one (show w9.heap[m + 1]? = some (.cells #[.int .i64 0] 3 (0, 0)) by rw [hw9]; exact (Below.heap_setCell _ _ _ _ (by dsimp only; omega)).trans (one_setCell HG.out.1))
  have e2 := cell_of_one (show w9.heap[m + 1 + 1]? = some (.cells #[.int .i64 E] 35 (0, 0)) by rw [hw9]; exact one_setCell ((Below.heap_setCell _ _ _ _ (by dsimp only; omega)).trans HG.out.2))
  clear hw9
  refine ⟨.tuple #[.int .i64 0, .int .i64 E], by simp [results, Tryz.results18, go_sem, e1, e2], rfl, k5.trans kB (fun b hb h => by rw [HM.out] at hb; omega)⟩

set_option maxRecDepth 20000 in
set_option maxHeartbeats 4000000 in
theorem FFirst_low (sp bp : Option Addr) (n : Int) (w : World) (h : Refused sp bp 0 w) (hn : n < 1) :
    Calls Tryz.prog 18 #[.pointer sp, .pointer bp, .int .i64 n] w (ErrPost 2 w) := by
  obtain ⟨w5, hw5⟩ : ∃ w5, w5 = ((w.alloc (.cells #[.int .i64 n] 3)).alloc (.cells #[.int .i64 0] 3)).alloc (.cells #[.int .i64 0] 35) := ⟨_, rfl⟩
  have k5 : Keep Nope w w5 := by rw [hw5]; exact (((Keep.refl _ w).alloc _).alloc _).alloc _
  have g0 : w5.heap[w.heap.size]? = some (.cells #[.int .i64 n] 3 (0, 0)) := by
    rw [hw5]; exact ((Keep.refl Nope _).alloc _ |>.alloc _).at_ (World.alloc_heap_new w _) (fun h => h)
  have g1 : w5.heap[w.heap.size + 1]? = some (.cells #[.int .i64 0] 3 (0, 0)) := by
    rw [hw5]; exact ((Keep.refl Nope _).alloc _).at_ (alloc_new' _ _ (by simp)) (fun h => h)
  have g2 : w5.heap[w.heap.size + 1 + 1]? = some (.cells #[.int .i64 0] 35 (0, 0)) := by
    rw [hw5]; exact alloc_new' _ _ (by simp)
  have hd1 : decide (n < 1) = true := decide_eq_true hn
  refine (callsIn_wide (n := 0)).1 ?_
  refine callsIn_of_wp_marks Tryz.func18 rfl trivial ?_
  simp only [Tryz.ntmps18, List.size_toArray, List.length_cons, List.length_nil, Nat.reduceAdd, Nat.reduceSub, Array.replicate_succ, Array.replicate_zero, List.push_toArray, List.append_toArray, List.nil_append, List.cons_append]
  have HCk : Seal _ := ⟨h w5 k5⟩
  have HG : Seal _ := ⟨And.intro g1 g2⟩
  have c0 := cell_of_one g0
  have c1 := cell_of_one g1
  have c2 := cell_of_one g2
  have f1 := free_of_one g1
  have f2 := free_of_one g2
  clear g0 g1 g2 h
  gi_wp2_with fail
  rw [← hw5]
  obtain ⟨m, hm⟩ : ∃ m, w.heap.size = m := ⟨_, rfl⟩
  rw [hm] at HG c0 c1 c2 f1 f2 ⊢
  have HM : Seal _ := ⟨hm⟩
  clear hw5 hm
  refine ⟨trivial, rfl, ?_⟩
  refine (callsIn_wide.2 HCk.out).mono ?_
  rintro e w6 ⟨rfl, rfl⟩
  gi_wp2_with fail
  obtain ⟨w9, hw9⟩ : ∃ w9, w9 = (w6.setCell ⟨m + 1, 0, none⟩ (.int .i64 0)).setCell ⟨m + 1 + 1, 0, none⟩ (.int .i64 2) := ⟨_, rfl⟩
  rw [← hw9]
  have kB : Keep (fun b => b = m + 1 ∨ b = m + 1 + 1) w6 w9 := by rw [hw9]; exact ((Keep.refl (fun b => b = m + 1 ∨ b = m + 1 + 1) w6).setCell (fun _ => .inl rfl) _).setCell (fun _ => .inr rfl) _
  have e1 := cell_of_one (show w9.heap[m + 1]? = some (.cells #[.int .i64 0] 3 (0, 0)) by rw [hw9]; exact (Below.heap_setCell _ _ _ _ (by dsimp only; omega)).trans (one_setCell HG.out.1))
  have e2 := cell_of_one (show w9.heap[m + 1 + 1]? = some (.cells #[.int .i64 2] 35 (0, 0)) by rw [hw9]; exact one_setCell ((Below.heap_setCell _ _ _ _ (by dsimp only; omega)).trans HG.out.2))
  clear hw9
  refine ⟨.tuple #[.int .i64 0, .int .i64 2], by simp [results, Tryz.results18, go_sem, e1, e2], rfl, k5.trans kB (fun b hb h => by rw [HM.out] at hb; omega)⟩

set_option maxRecDepth 20000 in
set_option maxHeartbeats 4000000 in
theorem FMost_err (sp bp : Option Addr) (E : Int) (w : World) (h : Refused sp bp E w) (hE : ¬ E = 0) :
    Calls Tryz.prog 21 #[.pointer sp, .pointer bp] w (ErrPost E w) := by
  have hb : (E != 0) = true := by simpa using hE
  obtain ⟨w5, hw5⟩ : ∃ w5, w5 = (w.alloc (.cells #[.pointer bp] 31)).alloc (.cells #[.int .i64 0] 3) := ⟨_, rfl⟩
  have k5 : Keep Nope w w5 := by rw [hw5]; exact ((Keep.refl _ w).alloc _).alloc _
  have g0 : w5.heap[w.heap.size]? = some (.cells #[.pointer bp] 31 (0, 0)) := by
    rw [hw5]; exact ((Keep.refl Nope _).alloc _).at_ (World.alloc_heap_new w _) (fun h => h)
  have g1 : w5.heap[w.heap.size + 1]? = some (.cells #[.int .i64 0] 3 (0, 0)) := by
    rw [hw5]; exact alloc_new' _ _ (by simp)
  refine (callsIn_wide (n := 0)).1 ?_
  refine callsIn_of_wp_marks Tryz.func21 rfl trivial ?_
  simp only [Tryz.ntmps21, List.size_toArray, List.length_cons, List.length_nil, Nat.reduceAdd, Nat.reduceSub, Array.replicate_succ, Array.replicate_zero, List.push_toArray, List.append_toArray, List.nil_append, List.cons_append]
  have HCk : Seal _ := ⟨h w5 k5⟩
  have HG : Seal _ := ⟨g1⟩
  have c0 := cell_of_one g0
  have c1 := cell_of_one g1
  have f1 := free_of_one g1
  clear g0 g1 h
  gi_wp2_with fail
  rw [← hw5]
  obtain ⟨m, hm⟩ : ∃ m, w.heap.size = m := ⟨_, rfl⟩
  rw [hm] at HG c0 c1 f1 ⊢
  have HM : Seal _ := ⟨hm⟩
  clear hw5 hm
  refine ⟨trivial, rfl, ?_⟩
  refine (callsIn_wide.2 HCk.out).mono ?_
  rintro e w6 ⟨rfl, rfl⟩
  gi_wp2_with fail
  obtain ⟨w9, hw9⟩ : ∃ w9, w9 = w6.setCell ⟨m + 1, 0, none⟩ (.int .i64 0) := ⟨_, rfl⟩
  rw [← hw9]
  have kB : Keep (fun b => b = m + 1) w6 w9 := by rw [hw9]; exact (Keep.refl (fun b => b = m + 1) w6).setCell (fun _ => rfl) _
  have e1 := cell_of_one (show w9.heap[m + 1]? = some (.cells #[.int .i64 0] 3 (0, 0)) by rw [hw9]; exact one_setCell HG.out)
  clear hw9
  refine ⟨.tuple #[.int .i64 0, .int .i64 E], by simp [results, Tryz.results21, go_sem, e1], rfl, k5.trans kB (fun b hb h => by rw [HM.out] at hb; omega)⟩

set_option maxRecDepth 20000 in
set_option maxHeartbeats 4000000 in
theorem FFree_err (sp bp : Option Addr) (E : Int) (w : World) (h : Refused sp bp E w) (hE : ¬ E = 0) :
    Calls Tryz.prog 17 #[.pointer sp, .pointer bp] w (ErrPost E w) := by
  have hb : (E != 0) = true := by simpa using hE
  obtain ⟨w5, hw5⟩ : ∃ w5, w5 = (w.alloc (.cells #[.pointer bp] 31)).alloc (.cells #[.int .i64 0] 3) := ⟨_, rfl⟩
  have k5 : Keep Nope w w5 := by rw [hw5]; exact ((Keep.refl _ w).alloc _).alloc _
  have g0 : w5.heap[w.heap.size]? = some (.cells #[.pointer bp] 31 (0, 0)) := by
    rw [hw5]; exact ((Keep.refl Nope _).alloc _).at_ (World.alloc_heap_new w _) (fun h => h)
  have g1 : w5.heap[w.heap.size + 1]? = some (.cells #[.int .i64 0] 3 (0, 0)) := by
    rw [hw5]; exact alloc_new' _ _ (by simp)
  refine (callsIn_wide (n := 0)).1 ?_
  refine callsIn_of_wp_marks Tryz.func17 rfl trivial ?_
  simp only [Tryz.ntmps17, List.size_toArray, List.length_cons, List.length_nil, Nat.reduceAdd, Nat.reduceSub, Array.replicate_succ, Array.replicate_zero, List.push_toArray, List.append_toArray, List.nil_append, List.cons_append]
  have HCk : Seal _ := ⟨h w5 k5⟩
  have HG : Seal _ := ⟨g1⟩
  have c0 := cell_of_one g0
  have c1 := cell_of_one g1
  have f1 := free_of_one g1
  clear g0 g1 h
  gi_wp2_with fail
  rw [← hw5]
  obtain ⟨m, hm⟩ : ∃ m, w.heap.size = m := ⟨_, rfl⟩
  rw [hm] at HG c0 c1 f1 ⊢
  have HM : Seal _ := ⟨hm⟩
  clear hw5 hm
  refine ⟨trivial, rfl, ?_⟩
  refine (callsIn_wide.2 HCk.out).mono ?_
  rintro e w6 ⟨rfl, rfl⟩
  gi_wp2_with fail
  obtain ⟨w9, hw9⟩ : ∃ w9, w9 = w6.setCell ⟨m + 1, 0, none⟩ (.int .i64 0) := ⟨_, rfl⟩
  rw [← hw9]
  have kB : Keep (fun b => b = m + 1) w6 w9 := by rw [hw9]; exact (Keep.refl (fun b => b = m + 1) w6).setCell (fun _ => rfl) _
  have e1 := cell_of_one (show w9.heap[m + 1]? = some (.cells #[.int .i64 0] 3 (0, 0)) by rw [hw9]; exact one_setCell HG.out)
  clear hw9
  refine ⟨.tuple #[.int .i64 0, .int .i64 E], by simp [results, Tryz.results17, go_sem, e1], rfl, k5.trans kB (fun b hb h => by rw [HM.out] at hb; omega)⟩

end Go.Proofs.YtfnmflgnbjjkkaaGreatDoor

namespace Go.Proofs.YtfnmflgnbjjkkaaGreatDoor
open Go.RowKit
set_option linter.unusedVariables false

theorem FPlace_nil (bp : Option Addr) (id n : Int) (w : World) : Calls Tryz.prog 14 #[.pointer none, .pointer bp, .int .i64 id, .int .i64 n] w (ErrPost 1 w) := by
  go_enter Tryz.func14, Tryz.ntmps14
  go_wp2
  exact bodyPost_ret (v := .tuple #[.int .i64 0, .int .i64 1]) (by simp [results, Tryz.results14, go_sem]) rfl ⟨rfl, Keep.refl _ _⟩

theorem FPlace_size (P : Sp) (cs : List Cel) (bp : Option Addr) (id n : Int) (w : World) (h : SpaceHas w P cs) (hE : ¬ sizeE P.ts id n = 0) :
    Calls Tryz.prog 14 #[.pointer (some ⟨P.s, 0, none⟩), .pointer bp, .int .i64 id, .int .i64 n] w (ErrPost (sizeE P.ts id n) w) := by
  obtain ⟨W, f, hs, -⟩ := h
  have HT : Seal _ := ⟨STable_at P W f w hs⟩
  have HS : Seal (Calls Tryz.prog 13 #[.pointer (some ⟨P.t, 0, none⟩), .int .i64 id, .int .i64 n] w fun e w' => e = .returned (.tuple #[.int .i64 0, .int .i64 (sizeE P.ts id n)]) ∧ Keep Nope w w') := ⟨(TSize_any id n P.t P.tq P.ts w hs.tb).mono fun e w' hp => by rw [TSizePost, if_neg hE] at hp; exact hp⟩
  have hb : (sizeE P.ts id n != 0) = true := by simpa using hE
  obtain ⟨E, hEE⟩ : ∃ E, sizeE P.ts id n = E := ⟨_, rfl⟩
  rw [hEE] at HS hb hE ⊢
  clear hs hEE
  go_enter Tryz.func14, Tryz.ntmps14
  go_wp2_with fail
  refine HT.out.mono ?_
  rintro e w' ⟨rfl, rfl⟩
  go_wp2_with fail
  refine HS.out.mono ?_
  rintro e w1 ⟨rfl, k1⟩
  clear HS
  go_wp2
  exact bodyPost_ret (v := .tuple #[.int .i64 0, .int .i64 E]) (by simp [results, Tryz.results14, go_sem]) rfl ⟨rfl, k1⟩

theorem FPlace_first (P : Sp) (cs : List Cel) (bp : Option Addr) (id n g E : Int) (w : World) (h : SpaceHas w P cs) (h0 : sizeE P.ts id n = 0)
    (hF : ∀ w', Keep Nope w w' → Calls Tryz.prog 18 #[.pointer (some ⟨P.s, 0, none⟩), .pointer bp, .int .i64 (sizeS P.ts id n)] w' fun e w'' => e = .returned (.tuple #[.int .i64 g, .int .i64 E]) ∧ Keep Nope w' w'') (hE : ¬ E = 0) :
    Calls Tryz.prog 14 #[.pointer (some ⟨P.s, 0, none⟩), .pointer bp, .int .i64 id, .int .i64 n] w (ErrPost E w) := by
  obtain ⟨W, f, hs, -⟩ := h
  have HT : Seal _ := ⟨STable_at P W f w hs⟩
  have HS : Seal (Calls Tryz.prog 13 #[.pointer (some ⟨P.t, 0, none⟩), .int .i64 id, .int .i64 n] w fun e w' => e = .returned (.tuple #[.int .i64 (sizeS P.ts id n), .int .i64 0]) ∧ Keep Nope w w') := ⟨(TSize_any id n P.t P.tq P.ts w hs.tb).mono fun e w' hp => by rw [TSizePost, if_pos h0, h0] at hp; exact hp⟩
  have hb : (E != 0) = true := by simpa using hE
  have HF : Seal _ := ⟨hF⟩
  clear hs hF h0
  go_enter Tryz.func14, Tryz.ntmps14
  go_wp2_with fail
  refine HT.out.mono ?_
  rintro e w' ⟨rfl, rfl⟩
  go_wp2_with fail
  refine HS.out.mono ?_
  rintro e w1 ⟨rfl, k1⟩
  go_wp2_with fail
  refine (HF.out w1 k1).mono ?_
  rintro e w2 ⟨rfl, k2⟩
  clear HS HF
  go_wp2
  exact bodyPost_ret (v := .tuple #[.int .i64 0, .int .i64 E]) (by simp [results, Tryz.results14, go_sem]) rfl ⟨rfl, k1.then' k2⟩

def PlacePost (P : Sp) (cs : List Cel) (g id n : Int) (w : World) (e : Ending) (w' : World) : Prop :=
  e = .returned (.tuple #[.int .i64 (if putR P.ts (P.n / 2) cs g id n = 0 then g else 0), .int .i64 (putR P.ts (P.n / 2) cs g id n)]) ∧ PutPost P cs g id n w (.returned (.int .i64 (putR P.ts (P.n / 2) cs g id n))) w'

theorem FPlace_at (P : Sp) (cs : List Cel) (bp : Option Addr) (id n g : Int) (w : World) (h : SpaceHas w P cs) (h0 : sizeE P.ts id n = 0)
    (hF : ∀ w', Keep Nope w w' → Calls Tryz.prog 18 #[.pointer (some ⟨P.s, 0, none⟩), .pointer bp, .int .i64 (sizeS P.ts id n)] w' fun e w'' => e = .returned (.tuple #[.int .i64 g, .int .i64 0]) ∧ Keep Nope w' w'') :
    Calls Tryz.prog 14 #[.pointer (some ⟨P.s, 0, none⟩), .pointer bp, .int .i64 id, .int .i64 n] w (PlacePost P cs g id n w) := by
  have HH : Seal _ := ⟨h⟩
  obtain ⟨W, f, hs, -⟩ := h
  have HT : Seal _ := ⟨STable_at P W f w hs⟩
  have HS : Seal (Calls Tryz.prog 13 #[.pointer (some ⟨P.t, 0, none⟩), .int .i64 id, .int .i64 n] w fun e w' => e = .returned (.tuple #[.int .i64 (sizeS P.ts id n), .int .i64 0]) ∧ Keep Nope w w') := ⟨(TSize_any id n P.t P.tq P.ts w hs.tb).mono fun e w' hp => by rw [TSizePost, if_pos h0, h0] at hp; exact hp⟩
  have HF : Seal _ := ⟨hF⟩
  clear hs hF h0
  go_enter Tryz.func14, Tryz.ntmps14
  go_wp2_with fail
  refine HT.out.mono ?_
  rintro e w' ⟨rfl, rfl⟩
  go_wp2_with fail
  refine HS.out.mono ?_
  rintro e w1 ⟨rfl, k1⟩
  go_wp2_with fail
  refine (HF.out w1 k1).mono ?_
  rintro e w2 ⟨rfl, k2⟩
  have k12 := k1.then' k2
  have HP : Seal _ := ⟨Put_any g id n P cs w2 (HH.out.keepN k12)⟩
  clear HS HF
  go_wp2_with fail
  refine HP.out.mono ?_
  rintro e w3 hp
  obtain ⟨he, k3, hq⟩ := hp
  subst he
  have HQ : Seal _ := ⟨hq⟩
  obtain ⟨r, hr⟩ : ∃ r, putR P.ts (P.n / 2) cs g id n = r := ⟨_, rfl⟩
  have HR : Seal _ := ⟨hr⟩
  have KK : Keep P.own w' w3 := (k12.of_not P.own).trans k3 (fun b hb h => h)
  rw [hr]
  clear hq hr HP
  by_cases h0 : r = 0
  · subst h0
    go_wp2
    refine bodyPost_ret (v := .tuple #[.int .i64 g, .int .i64 0]) (by simp [results, Tryz.results14, go_sem]) rfl ⟨by rw [HR.out, if_pos rfl], rfl, KK, HQ.out⟩
  · have hb : (r != 0) = true := by simpa using h0
    go_wp2
    refine bodyPost_ret (v := .tuple #[.int .i64 0, .int .i64 r]) (by simp [results, Tryz.results14, go_sem]) rfl ⟨by rw [HR.out, if_neg h0], rfl, KK, HQ.out⟩

end Go.Proofs.YtfnmflgnbjjkkaaGreatDoor
