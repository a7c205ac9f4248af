/-
  FitPlaces: the law's walk.
-/
import Derived.Test.YtfnmflgnbjjkkaaGreatDoorFitMostWalk
namespace Go.Proofs.YtfnmflgnbjjkkaaGreatDoor
open Go.RowKit
set_option linter.unusedVariables false

theorem objSum_take {cs : List Cel} {j : Nat} {x : Cel} (h : cs[j]? = some x) : objSum (cs.take (j + 1)) = objSum (cs.take j) + (if x.tag = 1 then x.sz else 0) := by
  rw [List.take_add_one, h, objSum_append]
  simp [objSum]

theorem objSum_le : ∀ {cs : List Cel} {a b : Nat}, Tiles a cs b → objSum cs ≤ b - a
  | [], a, b, h => Nat.zero_le _
  | c :: cs, a, b, ⟨h1, h2, h3⟩ => by
    have := objSum_le h3
    have := h3.le
    rw [objSum]
    split <;> omega

theorem tiles_take {cs : List Cel} {a b j : Nat} (h : Tiles a cs b) : ∃ z, Tiles a (cs.take j) z ∧ z ≤ b := by
  have := h
  rw [← List.take_append_drop j cs] at this
  obtain ⟨z, t1, t2⟩ := this.split
  exact ⟨z, t1, t2.le⟩

set_option maxHeartbeats 2000000 in
theorem objects_at (P : Sp) (cs : List Cel) (w : World) (h : SpaceHas w P cs) :
    Calls Tryz.prog 16 #[.pointer (some ⟨P.s, 0, none⟩)] w fun e w' => e = .returned (.int .i64 (objSum cs : Nat)) ∧ Keep Nope w w' := by
  have htl : Tiles 0 cs (P.n / 2) := by obtain ⟨W, f, _, hc, _⟩ := h; exact hc.tl
  have hn : P.n ≤ 65536 := by obtain ⟨W, f, hs, _⟩ := h; exact hs.ar.small
  have hlen : cs.length ≤ 32768 := by have := tiles_len htl; omega
  have HCs : Seal _ := ⟨Cells_at P cs w h⟩
  have HTl : Seal _ := ⟨htl⟩
  clear h htl
  go_enter Tryz.func16, Tryz.ntmps16
  go_wp2_with fail
  refine HCs.out.mono ?_
  rintro e wl ⟨v, rfl, hown, kl⟩
  have HKL : Seal _ := ⟨kl⟩
  have HRow : Seal _ := ⟨RowC.of_owns hown⟩
  obtain ⟨va, vc, hva, -⟩ := HRow.out
  subst hva
  obtain ⟨len, hlen'⟩ : ∃ len, cs.length = len := ⟨_, rfl⟩
  rw [hlen'] at HRow hlen ⊢
  have HLen : Seal _ := ⟨hlen'⟩
  clear hown kl HCs hlen'
  go_wp2_with fail
  go_loopw [3, 5] (fun z y wr => ∃ j s : Nat, j ≤ len ∧ y = .int .i64 (j : Nat) ∧ z = .int .i64 (s : Nat) ∧ s ≤ 32768 ∧ Seal (s = objSum (cs.take j)) ∧ Keep Nope wl wr) (fun _ y _ => len - (intOf y).toNat)
  case atStart => exact ⟨0, 0, Nat.zero_le _, rfl, rfl, Nat.zero_le _, ⟨by simp [objSum]⟩, Keep.refl _ _⟩
  case round =>
    obtain ⟨j, s, hj, rfl, rfl, hs, HS, hkk⟩ := hrel
    have HKK : Seal _ := ⟨hkk⟩
    by_cases hjl : j < len
    · have hjl' : (j : Int) < (len : Int) := by omega
      obtain ⟨x, hx⟩ : ∃ x, cs[j]? = some x := ⟨cs[j]'(by rw [HLen.out]; exact hjl), by simp⟩
      obtain ⟨a', cap', ha', hrow⟩ := HRow.out.keepN hkk
      obtain ⟨b, hab, hb0, r0, r1, r2, r3, r4⟩ := hrow j x hx
      have hva : va = some ⟨b, 0, none⟩ := by injection ha' with h1; rw [h1]; exact hab
      subst hva
      have HTk : Seal _ := ⟨objSum_take hx⟩
      have hs2 : s + (if x.tag = 1 then x.sz else 0) ≤ 32768 := by
        rw [HS.out, ← HTk.out]
        obtain ⟨z, t1, t2⟩ := tiles_take (j := j + 1) HTl.out
        have := objSum_le t1
        omega
      clear hx hrow ha' hab hkk r0 r2 r3
      by_cases q2 : x.tag = 1
      · have p2 : ((x.tag : Int) == 1) = true := by simp [q2]
        rw [if_pos q2] at hs2
        have HE : Seal (s + x.sz = objSum (cs.take (j + 1))) := ⟨by rw [HTk.out, if_pos q2, HS.out]⟩
        clear q2
        go_wp2
        exact ⟨⟨j + 1, s + x.sz, by omega, by go_num, by go_num, hs2, HE, HKK.out⟩, by simp only [intOf]; omega⟩
      · have p2 : ((x.tag : Int) == 1) = false := by simp; omega
        have HE : Seal (s = objSum (cs.take (j + 1))) := ⟨by rw [HTk.out, if_neg q2, HS.out, Nat.add_zero]⟩
        clear q2 hs2
        go_wp2
        exact ⟨⟨j + 1, s, by omega, by go_num, rfl, hs, HE, HKK.out⟩, by simp only [intOf]; omega⟩
    · have hjl' : ¬ (j : Int) < (len : Int) := by omega
      have HE : Seal (s = objSum cs) := ⟨by rw [HS.out, List.take_of_length_le (by rw [HLen.out]; omega)]⟩
      clear hkk
      go_wp2
      go_ret
      exact ⟨by rw [← HE.out]; rfl, HKL.out.then' HKK.out⟩

/-- The objects but the one that begins at j. -/
def othersOf (j : Nat) (cs : List Cel) : List Cel := (objsOf cs).filter fun c => !(c.g == j)

theorem others_gap {j : Nat} {b : Cel} {cs : List Cel} (h : ¬ b.tag = 1) : othersOf j (b :: cs) = othersOf j cs := by simp [othersOf, objsOf, h]

theorem others_at {j : Nat} {b : Cel} {cs : List Cel} (h : b.g = j) : othersOf j (b :: cs) = othersOf j cs := by
  by_cases ht : b.tag = 1 <;> simp [othersOf, objsOf, h, ht]

theorem others_obj {j : Nat} {b : Cel} {cs : List Cel} (ht : b.tag = 1) (h : ¬ b.g = j) : othersOf j (b :: cs) = b :: othersOf j cs := by simp [othersOf, objsOf, h, ht]

theorem objs_gap {b : Cel} {cs : List Cel} (h : ¬ b.tag = 1) : objsOf (b :: cs) = objsOf cs := by simp [objsOf, h]

theorem objs_obj {b : Cel} {cs : List Cel} (h : b.tag = 1) : objsOf (b :: cs) = b :: objsOf cs := by simp [objsOf, h]

theorem drop_at {cs : List Cel} {i : Nat} {b : Cel} (h : cs[i]? = some b) : cs.drop i = b :: cs.drop (i + 1) := by
  have hi := (List.getElem?_eq_some_iff.1 h).1
  rw [List.drop_eq_getElem_cons hi, (List.getElem?_eq_some_iff.1 h).2]

theorem others_not {j : Nat} {cs : List Cel} (h : ∀ c ∈ cs, ¬ c.g = j) : othersOf j cs = objsOf cs := by
  unfold othersOf
  rw [List.filter_eq_self]
  intro c hc
  have := h c (List.mem_filter.1 hc).1
  simp [this]

theorem put_others {pre post : List Cel} {c : Cel} {j i l S H : Nat} (ht : Tiles 0 (pre ++ c :: post) H) (hc : ¬ c.tag = 1) (h1 : c.g ≤ j) (h2 : j < c.fin) : othersOf j (putL pre c post j i l S) = objsOf (pre ++ c :: post) := by
  have t := ht.fin_at
  have p1 : othersOf j pre = objsOf pre := others_not fun d hd => by have := t.2.2.mem hd; omega
  have p2 : othersOf j post = objsOf post := others_not fun d hd => by have := t.2.1.mem hd; omega
  unfold putL
  unfold othersOf at *
  simp only [objsOf_append, List.filter_append, objsOf_gap, List.nil_append]
  rw [objs_obj rfl, objs_gap hc, objsOf_gap, List.filter_cons, p1, p2]
  simp

theorem startOf_take {cs : List Cel} {i j : Nat} {b : Cel} (h : cs[i]? = some b) : startOf (cs.take (i + 1)) j = (startOf (cs.take i) j || (b.tag == 1 && b.g == j)) := by
  rw [List.take_add_one, h, startOf_append]
  simp [startOf]

/-- What stands at a place that was put. -/
theorem put_uniq {pre post : List Cel} {c b : Cel} {j i l S H : Nat} (ht : Tiles 0 (putL pre c post j i l S) H) (hb : b ∈ putL pre c post j i l S) (h : b.g = j) : b.sz = S ∧ b.ty = i ∧ b.ln = l := by
  have e : putL pre c post j i l S = (pre ++ gapL c.g (j - c.g)) ++ (⟨j, 1, i, l, S⟩ : Cel) :: (gapL (j + S) (c.fin - j - S) ++ post) := by simp [putL, List.append_assoc]
  rw [e] at ht hb
  have t := ht.fin_at
  have hS : 0 < S := by
    have := ht.mem (c := (⟨j, 1, i, l, S⟩ : Cel)) (by simp)
    exact this.2.2
  rcases List.mem_append.1 hb with hb | hb
  · have := t.2.2.mem hb
    dsimp only at this
    omega
  · rcases List.mem_cons.1 hb with rfl | hb
    · exact ⟨rfl, rfl, rfl⟩
    · have := t.2.1.mem hb
      simp only [Cel.fin] at this
      omega

end Go.Proofs.YtfnmflgnbjjkkaaGreatDoor
