/-
  Made, Does and Played of skerrylaw09: a space, and the document's, behind steps.
  Does and Played of skerrylaw09: a space, and the document's, behind steps.
-/
import Derived.Test.YtpmiidpbngbclaaGreatDoorPlay10
import Derived.Test.YtpmiidpbngbclaaGreatDoorSpaceHeavy
namespace Go.Proofs.YtpmiidpbngbclaaGreatDoor
open Go.RowKit
set_option linter.unusedVariables false

/-- What Made and Played answer. -/
def PlayedPost (n : Int) (xs : List TypR) (lv : Value) (w : World) (e : Ending) (w' : World) : Prop :=
  (e = .returned (.tuple #[.pointer none, .pointer none, .bool true]) ∧ Keep Nope w w') ∨
  (∃ P rb q W cs, e = .returned (.tuple #[.pointer (some ⟨P.s, 0, none⟩), .pointer (some ⟨rb, 0, none⟩), .bool true]) ∧ Both w w' P rb q lv W cs ∧ (P.n : Int) = n ∧ P.ts = xs ∧ 16 ≤ P.n)

set_option maxHeartbeats 2000000 in
theorem Made_no (n : Int) (lv : Value) (xs : List TypR) (w : World) (hv : TypsAt w lv xs) (hl : xs.length ≤ 17592186044416) (he : ¬ tabE 0 xs = 0) :
    Calls Tryz.prog 12 #[.int .i64 n, lv] w (PlayedPost n xs lv w) := by
  have HT : Seal _ := ⟨TNew_any lv xs w hv hl⟩
  have hb : (tabE 0 xs != 0) = true := by simpa using he
  have HE : Seal _ := ⟨he⟩
  clear hv hl he
  go_enter Tryz.func12, Tryz.ntmps12
  go_wp2_with fail
  refine HT.out.mono ?_
  rintro e w1 ⟨k1, ⟨h0, -⟩ | ⟨-, rfl⟩⟩
  · exact absurd h0 HE.out
  · go_wp2
    exact bodyPost_ret (v := .tuple #[.pointer none, .pointer none, .bool true]) (by simp [results, Tryz.results12, go_sem]) rfl (.inl ⟨rfl, k1⟩)

set_option maxHeartbeats 2000000 in
theorem Made_words (n : Int) (lv : Value) (xs : List TypR) (w : World) (hv : TypsAt w lv xs) (hl : xs.length ≤ 17592186044416) (he : tabE 0 xs = 0) (hn : okWords n = false) :
    Calls Tryz.prog 12 #[.int .i64 n, lv] w (PlayedPost n xs lv w) := by
  have HT : Seal _ := ⟨TNew_any lv xs w hv hl⟩
  have HE : Seal _ := ⟨he⟩
  have HN : Seal (∀ t W', Calls Tryz.prog 53 #[.int .i64 n, .pointer (some ⟨t, 0, none⟩)] W' fun e w' => e = .returned (.tuple #[.pointer none, .int .i64 2]) ∧ w' = W') := ⟨fun t W' => SNew_no n t W' hn⟩
  have hn' : n < 16 ∨ 65536 < n ∨ n % 2 ≠ 0 := by
    unfold okWords at hn
    have := of_decide_eq_false hn
    omega
  clear hv hl he hn
  rcases Decidable.em (n < 16) with h1 | h1
  · go_enter Tryz.func12, Tryz.ntmps12
    go_wp2_with fail
    refine HT.out.mono ?_
    rintro e w1 ⟨k1, ⟨-, t, tq, rfl, -⟩ | ⟨h0, -⟩⟩
    · go_wp2_with fail
      refine (HN.out t w1).mono ?_
      rintro e w2 ⟨rfl, rfl⟩
      go_wp2
      exact bodyPost_ret (v := .tuple #[.pointer none, .pointer none, .bool true]) (by simp [results, Tryz.results12, go_sem]) rfl (.inl ⟨rfl, k1⟩)
    · exact absurd HE.out h0
  · rcases Decidable.em (65536 < n) with h2 | h2
    · go_enter Tryz.func12, Tryz.ntmps12
      go_wp2_with fail
      refine HT.out.mono ?_
      rintro e w1 ⟨k1, ⟨-, t, tq, rfl, -⟩ | ⟨h0, -⟩⟩
      · go_wp2_with fail
        refine (HN.out t w1).mono ?_
        rintro e w2 ⟨rfl, rfl⟩
        go_wp2
        exact bodyPost_ret (v := .tuple #[.pointer none, .pointer none, .bool true]) (by simp [results, Tryz.results12, go_sem]) rfl (.inl ⟨rfl, k1⟩)
      · exact absurd HE.out h0
    · have h3 : n % 2 ≠ 0 := by omega
      have h4 : (n % 2 != 0) = true := by simpa using h3
      have h0n : 0 ≤ n := by omega
      go_enter Tryz.func12, Tryz.ntmps12
      go_wp2_with fail
      refine HT.out.mono ?_
      rintro e w1 ⟨k1, ⟨-, t, tq, rfl, -⟩ | ⟨h0, -⟩⟩
      · go_wp2_with fail
        refine (HN.out t w1).mono ?_
        rintro e w2 ⟨rfl, rfl⟩
        go_wp2
        exact bodyPost_ret (v := .tuple #[.pointer none, .pointer none, .bool true]) (by simp [results, Tryz.results12, go_sem]) rfl (.inl ⟨rfl, k1⟩)
      · exact absurd HE.out h0

/-- What Made answers of a space that is made. -/
def NewPost (n : Nat) (xs : List TypR) (lv : Value) (w : World) (e : Ending) (w' : World) : Prop :=
  ∃ P rb q, e = .returned (.tuple #[.pointer (some ⟨P.s, 0, none⟩), .pointer (some ⟨rb, 0, none⟩), .bool true]) ∧ Both w w' P rb q lv (layGap (fun _ => 0) 0 (n / 2)) (gapL 0 (n / 2)) ∧ P.n = n ∧ P.ts = xs

set_option maxHeartbeats 2000000 in
theorem Made_new (n : Nat) (lv : Value) (xs : List TypR) (w : World) (hF : FieldsAt w) (hv : TypsAt w lv xs) (hl : xs.length ≤ 17592186044416) (hM : Masks xs) (he : tabE 0 xs = 0) (hn : okWords (n : Nat) = true) :
    Calls Tryz.prog 12 #[.int .i64 (n : Nat), lv] w (NewPost n xs lv w) := by
  have HT : Seal _ := ⟨TNew_any lv xs w hv hl⟩
  have HV : Seal _ := ⟨hv⟩
  have HMs : Seal _ := ⟨hM⟩
  have HF : Seal _ := ⟨hF⟩
  have HE : Seal _ := ⟨he⟩
  have hlv : ∃ a l c, lv = .slice a l c := by obtain ⟨a, c, h, -⟩ := hv; exact ⟨_, _, _, h⟩
  have hn' : 16 ≤ n ∧ n ≤ 65536 ∧ n % 2 = 0 := by
    unfold okWords at hn
    have := of_decide_eq_true hn
    omega
  obtain ⟨h1, h2, h3⟩ := hn'
  have HLv : Seal _ := ⟨hlv⟩
  have H3 : Seal _ := ⟨h3⟩
  have h4 : ((n : Int) % 2 != 0) = false := by simp; omega
  clear hv hl hM he hn hF hlv h3
  go_enter Tryz.func12, Tryz.ntmps12
  go_wp2_with fail
  refine HT.out.mono ?_
  rintro e w1 ⟨k1, ⟨-, t, tq, rfl, hta, ht1, ht2, ht3⟩ | ⟨h0, -⟩⟩
  · have HSN : Seal _ := ⟨SNew_yesW n t tq xs w1 hta (HF.out.keepN k1) hta.lt_t ht3 h1 h2 H3.out⟩
    have HK1 : Seal _ := ⟨k1⟩
    have few := hta.few
    clear k1 hta
    go_wp2_with fail
    refine HSN.out.mono ?_
    rintro e w2 ⟨P, hPt, hPq, hPs, hPn, rfl, hS, hown, hs0, hb0, k2⟩
    have HSp : Seal _ := ⟨hS⟩
    have HK2 : Seal _ := ⟨HK1.out.then' k2⟩
    have HOw : Seal (∀ k, P.own k → w.heap.size ≤ k) := ⟨fun k h => Nat.le_trans HK1.out.size (hown k h)⟩
    have HPs : Seal _ := ⟨hPs⟩
    have HPn : Seal _ := ⟨hPn⟩
    have HDN : Seal _ := ⟨DNew_at n lv w2 HLv.out (by omega) h2⟩
    have hAr : ∃ f, SpaceAt w2 P (layGap (fun _ => 0) 0 (n / 2)) f := by obtain ⟨f, h, _⟩ := hS; exact ⟨f, h⟩
    obtain ⟨f, hAt⟩ := hAr
    have HAt : Seal _ := ⟨hAt⟩
    clear hS k2 hown hPs hPn hPt hPq hAt
    go_wp2_with fail
    refine HDN.out.mono ?_
    rintro e w3 ⟨rb, q, rfl, hrb, hq, hd, k3⟩
    have HD : Seal _ := ⟨hd⟩
    have HK3 : Seal _ := ⟨k3⟩
    have HA3 : Seal _ := ⟨SArena_at P _ f w3 (HAt.out.keepN k3)⟩
    clear hd k3
    go_wp2_with fail
    refine HA3.out.mono ?_
    rintro e w4 ⟨rfl, rfl⟩
    go_wp2
    refine bodyPost_ret (v := .tuple #[.pointer (some ⟨P.s, 0, none⟩), .pointer (some ⟨rb, 0, none⟩), .bool true]) (by simp [results, Tryz.results12, go_sem]) rfl ⟨P, rb, q, rfl, ⟨HSp.out.keepN HK3.out, ?_, HOw.out, ?_, ?_, ?_, GapsOk.gap _ _, ?_, ?_, ?_, ?_⟩, HPn.out, HPs.out⟩
    · rw [HPn.out]; exact HD.out
    · exact Nat.le_trans HK2.out.size hrb
    · exact fun h => by have := HAt.out.lt rb h; omega
    · exact fun h => by have := HAt.out.lt q h; omega
    · exact (HK2.out.then' HK3.out).of_not _
    · rw [HPs.out]; exact HV.out
    · rw [HPs.out]; exact few
    · rw [HPs.out]; exact HMs.out
  · exact absurd HE.out h0

theorem Made_yes (n : Nat) (lv : Value) (xs : List TypR) (w : World) (hF : FieldsAt w) (hv : TypsAt w lv xs) (hl : xs.length ≤ 17592186044416) (hM : Masks xs) (he : tabE 0 xs = 0) (hn : okWords (n : Nat) = true) :
    Calls Tryz.prog 12 #[.int .i64 (n : Nat), lv] w (PlayedPost (n : Nat) xs lv w) := by
  refine (Made_new n lv xs w hF hv hl hM he hn).mono ?_
  rintro e w' ⟨P, rb, q, h1, h2, h3, h4⟩
  refine .inr ⟨P, rb, q, _, _, h1, h2, by rw [h3], h4, ?_⟩
  unfold okWords at hn
  have := of_decide_eq_true hn
  omega

theorem Made_any (n : Int) (lv : Value) (xs : List TypR) (w : World) (hF : FieldsAt w) (hv : TypsAt w lv xs) (hl : xs.length ≤ 17592186044416) (hM : Masks xs) :
    Calls Tryz.prog 12 #[.int .i64 n, lv] w (PlayedPost n xs lv w) := by
  by_cases he : tabE 0 xs = 0
  · cases hn : okWords n with
    | false => exact Made_words n lv xs w hv hl he hn
    | true =>
      have h := hn
      unfold okWords at h
      have := of_decide_eq_true h
      obtain ⟨N, rfl⟩ := Int.eq_ofNat_of_zero_le (show 0 ≤ n by omega)
      exact Made_yes N lv xs w hF hv hl hM he hn
  · exact Made_no n lv xs w hv hl he

end Go.Proofs.YtpmiidpbngbclaaGreatDoor

namespace Go.Proofs.YtpmiidpbngbclaaGreatDoor
open Go.RowKit
set_option linter.unusedVariables false

theorem Does_any (w0 w : World) (P : Sp) (rb q : Nat) (lv : Value) (W : Nat → Nat) (cs : List Cel) (d g i n y : Int) (u : Value) (m : Nat) (hb : Both w0 w P rb q lv W cs) (hy : 0 ≤ y ∧ y ≤ 18446744073709551615) (hI : ∃ x, IntsAt 1 w0 u m x) (hm : m ≤ 300) :
    Calls Tryz.prog 13 #[.pointer (some ⟨P.s, 0, none⟩), .pointer (some ⟨rb, 0, none⟩), stepV d g i n y u] w (DoesPost w0 P rb lv w) := by
  obtain ⟨x, hx⟩ := hI
  have hu : ∃ a l c, u = .slice a l c := by obtain ⟨a, c, h, -⟩ := hx; exact ⟨_, _, _, h⟩
  by_cases h0 : d = 0
  · subst h0; exact Does_put w0 w P rb q lv W cs g i n y u hb hu
  by_cases h1 : d = 1
  · subst h1; exact Does_drop w0 w P rb q lv W cs g i n y u hb hu
  by_cases h2 : d = 2
  · subst h2; exact Does_slot w0 w P rb q lv W cs g i n y u hb hu hy
  by_cases h3 : d = 3
  · subst h3; exact Does_settle w0 w P rb q lv W cs g i n y u hb hu m x hx hm
  by_cases h5 : d = 5
  · subst h5; exact Does_join w0 w P rb q lv W cs g i n y u hb hu
  · exact Does_else w0 w P rb q lv W cs d g i n y u hb h0 h1 h2 h3 h5 hu

set_option maxRecDepth 20000 in
set_option maxHeartbeats 4000000 in
theorem Played_any (n : Int) (lv v2 : Value) (xs : List TypR) (len : Nat) (dd gg ii nn yy : Nat → Int) (uu : Nat → Value) (mm : Nat → Nat) (w : World) (hF : FieldsAt w) (hv : TypsAt w lv xs) (hl : xs.length ≤ 17592186044416) (hM : Masks xs)
    (h2 : Steps6At w v2 len dd gg ii nn yy uu mm) (hlen : len ≤ 60) (hy : ∀ j, j < len → 0 ≤ yy j ∧ yy j ≤ 18446744073709551615) (hA : AtsAt w len uu mm) (hm : ∀ j, j < len → mm j ≤ 300) :
    Calls Tryz.prog 30 #[.int .i64 n, lv, v2] w (PlayedPost n xs lv w) := by
  have HMd : Seal _ := ⟨Made_any n lv xs w hF hv hl hM⟩
  have HY : Seal _ := ⟨hy⟩
  have HAt : Seal _ := ⟨hA⟩
  have HMm : Seal _ := ⟨hm⟩
  obtain ⟨va, vc, rfl, hx⟩ := h2
  have HX : Seal _ := ⟨hx⟩
  clear hF hv hl hM hy hA hm hx
  go_enter Tryz.func30, Tryz.ntmps30
  go_wp2_with fail
  refine HMd.out.mono ?_
  rintro e w1 (⟨rfl, k1⟩ | ⟨P, rb, q, W, cs, rfl, hB, hPn, hPs, h16⟩)
  · go_wp2
    exact bodyPost_ret (v := .tuple #[.pointer none, .pointer none, .bool true]) (by simp [results, Tryz.results30, go_sem]) rfl (.inl ⟨rfl, k1⟩)
  · have HB : Seal _ := ⟨hB⟩
    have HPn : Seal _ := ⟨hPn⟩
    have HPs : Seal _ := ⟨hPs⟩
    clear hB hPn hPs
    go_wp2_with fail
    go_loopw [12] (fun z wr => ∃ (j q' : Nat) (W' : Nat → Nat) (cs' : List Cel), j ≤ len ∧ z = .int .i64 (j : Nat) ∧ Seal (Both w wr P rb q' lv W' cs')) (fun z _ => len - (intOf z).toNat)
    case atStart => exact ⟨0, q, W, cs, Nat.zero_le _, rfl, HB⟩
    case round =>
      obtain ⟨j, q', W', cs', hj, rfl, HBr⟩ := hrel
      by_cases hjl : j < len
      · have hjl' : (j : Int) < (len : Int) := by omega
        obtain ⟨b, o, rfl, hbl, x0, x1, x2, x3, x4, x5, ⟨ua, uc, hu⟩, -⟩ := HX.out j hjl
        have hnb : ¬ w.heap.size ≤ b := by omega
        have y0 := HBr.out.kb.cell x0 hnb
        have y1 := HBr.out.kb.cell x1 hnb
        have y2 := HBr.out.kb.cell x2 hnb
        have y3 := HBr.out.kb.cell x3 hnb
        have y4 := HBr.out.kb.cell x4 hnb
        have y5 := HBr.out.kb.cell x5 hnb
        have hbw : b < wr.heap.size := Nat.lt_of_lt_of_le hbl HBr.out.size
        have HD : Seal _ := ⟨Does_any w wr P rb q' lv W' cs' (dd j) (gg j) (ii j) (nn j) (yy j) (uu j) (mm j) HBr.out (HY.out j hjl) (HAt.out j hjl) (HMm.out j hjl)⟩
        unfold stepV at HD
        rw [hu] at y5 HD
        clear x0 x1 x2 x3 x4 x5 hnb hu
        go_wp2_with fail
        refine HD.out.mono ?_
        rintro e w3 ⟨W3, cs3, q3, rfl, hB3⟩
        have HB3 : Seal _ := ⟨hB3⟩
        clear hB3 y0 y1 y2 y3 y4 y5
        go_wp2
        exact ⟨⟨j + 1, q3, W3, cs3, by omega, by go_num, HB3⟩, by simp only [intOf]; omega⟩
      · have hjl' : ¬ (j : Int) < (len : Int) := by omega
        go_wp2
        exact bodyPost_ret (v := .tuple #[.pointer (some ⟨P.s, 0, none⟩), .pointer (some ⟨rb, 0, none⟩), .bool true]) (by simp [results, Tryz.results30, go_sem]) rfl (.inr ⟨P, rb, q', W', cs', rfl, HBr.out, HPn.out, HPs.out, h16⟩)

end Go.Proofs.YtpmiidpbngbclaaGreatDoor
