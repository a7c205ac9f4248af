/-
  Has a list the document's black ones: Same; and the walks of BlackPlays and BlackRoom.
-/
import Derived.Test.YtpjcgjbobljaeaaBlackDoes
import Derived.Test.YtpjcgjbobljaeaaBlackAlive
import Derived.Deep.RegionHeld3
namespace Go.Proofs.Ytpjcgjbobljaeaa
open Go.RowKit
set_option linter.unusedVariables false

theorem Keep.then {a b c : World} (h : Keep Nope a b) (k : Keep Nope b c) : Keep Nope a c := h.trans k (fun _ _ h => h)

set_option maxHeartbeats 4000000 in
theorem BSame_any (b p0 q0 p1 q1 rp g n : Nat) (f0 f1 : Nat → Bool) (w : World) (hb : BlackAt w b p0 q0 p1 q1 f0 f1 n) (hr : LeftAt w rp g (leftN f0 f1) n) :
    Calls Try.prog 41 #[.pointer (some ⟨b, 0, none⟩), .pointer (some ⟨rp, 0, none⟩)] w fun e w' => e = .returned (.bool true) ∧ Keep Nope w w' := by
  obtain ⟨cap, hc⟩ := hr.head
  have hn := hb.h0.small'
  have lr := hr.lt_p
  obtain ⟨l, hl⟩ : ∃ l, fromB (fun j => f0 j || f1 j) n 0 = l := ⟨_, rfl⟩
  have hll : l.length ≤ 65536 := by rw [← hl]; have := fromB_len (fun j => f0 j || f1 j) n 0; omega
  have HL : Seal _ := ⟨hl⟩
  have HP : Seal (fromB (posB (leftN f0 f1)) n 0 = l) := ⟨by rw [posB_left]; exact hl⟩
  clear hl
  have K0 : Keep Nope w w := Keep.refl _ _
  go_enter Try.func41, Try.ntmps41
  go_wp2_with fail
  go_region_held3 (fun w' => w'.cell? ⟨rp, 0, none⟩ = some (.slice (some ⟨g, 0, none⟩) n cap))
    (first | go_keep | exact K5.cell hc (fun h => h) | exact K4.cell hc (fun h => h) | exact K3.cell hc (fun h => h) | exact K2.cell hc (fun h => h))
    (first
      | (go_at_call 44; refine (BLen_at b p0 q0 p1 q1 n f0 f1 _ (hb.keepN (by first | exact K0 | exact K0.drew | exact K0.drew.drew))).mono ?_; rintro e w' ⟨rfl, rfl⟩)
      | (go_at_call 45; refine (List_at b p0 q0 p1 q1 n f0 f1 _ (hb.keepN (by first | exact K0 | exact K0.drew | exact K0.drew.drew))).mono ?_; rintro e w2 ⟨v2, rfl, o2, k2⟩; rw [HL.out] at o2; have K2 : Keep Nope w w2 := (by first | exact K0.then k2 | exact K0.drew.then k2 | exact K0.drew.drew.then k2))
      | (go_at_call 63; refine (LList_at n rp g (leftN f0 f1) _ (hr.keep (S := Nope) (by first | exact K4 | exact K4.drew | exact K2 | exact K2.drew | exact K2.drew.drew) (fun h => h) (fun h => h))).mono ?_; rintro e w3 ⟨v3, rfl, o3, k3⟩; rw [HP.out] at o3; have K3 : Keep Nope w w3 := (by first | exact K4.then k3 | exact K4.drew.then k3 | exact K2.then k3 | exact K2.drew.then k3 | exact K2.drew.drew.then k3); obtain ⟨a3, c3, rfl⟩ := owns_len o3)
      | (go_at_call 59; refine (LSame_any v2 _ l l _ (NatsAt.of_owns (k3.owns o2 (fun _ _ h => h))) (NatsAt.of_owns o3) hll).mono ?_; rintro e w4' ⟨rfl, m4, rfl⟩; have K4' := K3.drewN m4)
      | (go_at_call 33; refine (BCount_at b p0 q0 p1 q1 n f0 f1 _ (hb.keepN (by first | exact K4' | exact K4'.drew | exact K4'.drew.drew))).mono ?_; rintro e w4 ⟨rfl, k4⟩; rw [HL.out]; have K4 : Keep Nope w w4 := (by first | exact K4'.then k4 | exact K4'.drew.then k4 | exact K4'.drew.drew.then k4)))
  go_wp2
  go_ret
  exact ⟨rfl, K3⟩

end Go.Proofs.Ytpjcgjbobljaeaa
