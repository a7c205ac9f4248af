/-
  Place of package fit.
-/
import Derived.Test.YtafjebdjdmlahaaDoorFitErr
import Derived.Test.YtafjebdjdmlahaaDoorSpacePut4
namespace Go.Proofs.YtafjebdjdmlahaaDoor
open Go.RowKit
set_option linter.unusedVariables false

theorem FPlace_nil (bp : Option Addr) (id n : Int) (w : World) : Calls Tryd.prog 21 #[.pointer none, .pointer bp, .int .i64 id, .int .i64 n] w (ErrPost 1 w) := by
  go_enter Tryd.func21, Tryd.ntmps21
  go_wp2
  exact bodyPost_ret (v := .tuple #[.int .i64 0, .int .i64 1]) (by simp [results, Tryd.results21, go_sem]) rfl ⟨rfl, Keep.refl _ _⟩

theorem FPlace_size (P : Sp) (cs : List Cel) (bp : Option Addr) (id n : Int) (w : World) (h : SpaceHas w P cs) (hE : ¬ sizeE P.ts id n = 0) :
    Calls Tryd.prog 21 #[.pointer (some ⟨P.s, 0, none⟩), .pointer bp, .int .i64 id, .int .i64 n] w (ErrPost (sizeE P.ts id n) w) := by
  obtain ⟨W, f, hs, -⟩ := h
  have HT : Seal _ := ⟨STable_at P W f w hs⟩
  have HS : Seal (Calls Tryd.prog 11 #[.pointer (some ⟨P.t, 0, none⟩), .int .i64 id, .int .i64 n] w fun e w' => e = .returned (.tuple #[.int .i64 0, .int .i64 (sizeE P.ts id n)]) ∧ Keep Nope w w') := ⟨(TSize_any id n P.t P.tq P.ts w hs.tb).mono fun e w' hp => by rw [TSizePost, if_neg hE] at hp; exact hp⟩
  have hb : (sizeE P.ts id n != 0) = true := by simpa using hE
  obtain ⟨E, hEE⟩ : ∃ E, sizeE P.ts id n = E := ⟨_, rfl⟩
  rw [hEE] at HS hb hE ⊢
  clear hs hEE
  go_enter Tryd.func21, Tryd.ntmps21
  go_wp2_with fail
  refine HT.out.mono ?_
  rintro e w' ⟨rfl, rfl⟩
  go_wp2_with fail
  refine HS.out.mono ?_
  rintro e w1 ⟨rfl, k1⟩
  clear HS
  go_wp2
  exact bodyPost_ret (v := .tuple #[.int .i64 0, .int .i64 E]) (by simp [results, Tryd.results21, go_sem]) rfl ⟨rfl, k1⟩

theorem FPlace_first (P : Sp) (cs : List Cel) (bp : Option Addr) (id n g E : Int) (w : World) (h : SpaceHas w P cs) (h0 : sizeE P.ts id n = 0)
    (hF : ∀ w', Keep Nope w w' → Calls Tryd.prog 20 #[.pointer (some ⟨P.s, 0, none⟩), .pointer bp, .int .i64 (sizeS P.ts id n)] w' fun e w'' => e = .returned (.tuple #[.int .i64 g, .int .i64 E]) ∧ Keep Nope w' w'') (hE : ¬ E = 0) :
    Calls Tryd.prog 21 #[.pointer (some ⟨P.s, 0, none⟩), .pointer bp, .int .i64 id, .int .i64 n] w (ErrPost E w) := by
  obtain ⟨W, f, hs, -⟩ := h
  have HT : Seal _ := ⟨STable_at P W f w hs⟩
  have HS : Seal (Calls Tryd.prog 11 #[.pointer (some ⟨P.t, 0, none⟩), .int .i64 id, .int .i64 n] w fun e w' => e = .returned (.tuple #[.int .i64 (sizeS P.ts id n), .int .i64 0]) ∧ Keep Nope w w') := ⟨(TSize_any id n P.t P.tq P.ts w hs.tb).mono fun e w' hp => by rw [TSizePost, if_pos h0, h0] at hp; exact hp⟩
  have hb : (E != 0) = true := by simpa using hE
  have HF : Seal _ := ⟨hF⟩
  clear hs hF h0
  go_enter Tryd.func21, Tryd.ntmps21
  go_wp2_with fail
  refine HT.out.mono ?_
  rintro e w' ⟨rfl, rfl⟩
  go_wp2_with fail
  refine HS.out.mono ?_
  rintro e w1 ⟨rfl, k1⟩
  go_wp2_with fail
  refine (HF.out w1 k1).mono ?_
  rintro e w2 ⟨rfl, k2⟩
  clear HS HF
  go_wp2
  exact bodyPost_ret (v := .tuple #[.int .i64 0, .int .i64 E]) (by simp [results, Tryd.results21, go_sem]) rfl ⟨rfl, k1.then' k2⟩

def PlacePost (P : Sp) (cs : List Cel) (g id n : Int) (w : World) (e : Ending) (w' : World) : Prop :=
  e = .returned (.tuple #[.int .i64 (if putR P.ts (P.n / 2) cs g id n = 0 then g else 0), .int .i64 (putR P.ts (P.n / 2) cs g id n)]) ∧ PutPost P cs g id n w (.returned (.int .i64 (putR P.ts (P.n / 2) cs g id n))) w'

theorem FPlace_at (P : Sp) (cs : List Cel) (bp : Option Addr) (id n g : Int) (w : World) (h : SpaceHas w P cs) (h0 : sizeE P.ts id n = 0)
    (hF : ∀ w', Keep Nope w w' → Calls Tryd.prog 20 #[.pointer (some ⟨P.s, 0, none⟩), .pointer bp, .int .i64 (sizeS P.ts id n)] w' fun e w'' => e = .returned (.tuple #[.int .i64 g, .int .i64 0]) ∧ Keep Nope w' w'') :
    Calls Tryd.prog 21 #[.pointer (some ⟨P.s, 0, none⟩), .pointer bp, .int .i64 id, .int .i64 n] w (PlacePost P cs g id n w) := by
  have HH : Seal _ := ⟨h⟩
  obtain ⟨W, f, hs, -⟩ := h
  have HT : Seal _ := ⟨STable_at P W f w hs⟩
  have HS : Seal (Calls Tryd.prog 11 #[.pointer (some ⟨P.t, 0, none⟩), .int .i64 id, .int .i64 n] w fun e w' => e = .returned (.tuple #[.int .i64 (sizeS P.ts id n), .int .i64 0]) ∧ Keep Nope w w') := ⟨(TSize_any id n P.t P.tq P.ts w hs.tb).mono fun e w' hp => by rw [TSizePost, if_pos h0, h0] at hp; exact hp⟩
  have HF : Seal _ := ⟨hF⟩
  clear hs hF h0
  go_enter Tryd.func21, Tryd.ntmps21
  go_wp2_with fail
  refine HT.out.mono ?_
  rintro e w' ⟨rfl, rfl⟩
  go_wp2_with fail
  refine HS.out.mono ?_
  rintro e w1 ⟨rfl, k1⟩
  go_wp2_with fail
  refine (HF.out w1 k1).mono ?_
  rintro e w2 ⟨rfl, k2⟩
  have k12 := k1.then' k2
  have HP : Seal _ := ⟨Put_any g id n P cs w2 (HH.out.keepN k12)⟩
  clear HS HF
  go_wp2_with fail
  refine HP.out.mono ?_
  rintro e w3 hp
  obtain ⟨he, k3, hq⟩ := hp
  subst he
  have HQ : Seal _ := ⟨hq⟩
  obtain ⟨r, hr⟩ : ∃ r, putR P.ts (P.n / 2) cs g id n = r := ⟨_, rfl⟩
  have HR : Seal _ := ⟨hr⟩
  have KK : Keep P.own w' w3 := (k12.of_not P.own).trans k3 (fun b hb h => h)
  rw [hr]
  clear hq hr HP
  by_cases h0 : r = 0
  · subst h0
    go_wp2
    refine bodyPost_ret (v := .tuple #[.int .i64 g, .int .i64 0]) (by simp [results, Tryd.results21, go_sem]) rfl ⟨by rw [HR.out, if_pos rfl], rfl, KK, HQ.out⟩
  · have hb : (r != 0) = true := by simpa using h0
    go_wp2
    refine bodyPost_ret (v := .tuple #[.int .i64 0, .int .i64 r]) (by simp [results, Tryd.results21, go_sem]) rfl ⟨by rw [HR.out, if_neg h0], rfl, KK, HQ.out⟩

end Go.Proofs.YtafjebdjdmlahaaDoor
