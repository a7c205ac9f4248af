/-
  scan: what one word leads to.
  scan: what any words lead to (Of).
  scan: Of.
-/
import Derived.Test.YtpmiidpbngbclaaGreatDoorFindC
import Derived.Test.YtpmiidpbngbclaaGreatDoorRise
import Derived.Test.YtpmiidpbngbclaaGreatDoorDocB
import Derived.Deep.RegionHeldLaw
namespace Go.Proofs.YtpmiidpbngbclaaGreatDoor
open Go.RowKit
set_option linter.unusedVariables false

/-- A scan under way lies at bx: its pins, its hits, how many were loose. -/
structure ScanAt (w : World) (bx base : Nat) (pv hv : Value) (ps hs : List Int) (l : Nat) : Prop where
  blk : w.heap[bx]? = some (.cells #[pv, hv, .int .i64 (l : Nat)] 89 (0, 0))
  rp : w.ownsRow base 3 1 pv ps.length (intVs ps)
  rh : w.ownsRow base 3 1 hv hs.length (intVs hs)
  ap : ∀ b, pv.ownBlock = some b → ¬ hv.ownBlock = some b
  bb : bx < base

theorem ScanAt.keep {S : Nat → Prop} {w w' : World} {bx base : Nat} {pv hv : Value} {ps hs : List Int} {l : Nat} (h : ScanAt w bx base pv hv ps hs l) (k : Keep S w w') (h0 : ¬ S bx) (h1 : ∀ b, base ≤ b → ¬ S b) : ScanAt w' bx base pv hv ps hs l :=
  ⟨k.at_ h.blk h0, ownsRow_keep h.rp k (fun b hb => h1 b (ownsRow_block h.rp hb).1), ownsRow_keep h.rh k (fun b hb => h1 b (ownsRow_block h.rh hb).1), h.ap, h.bb⟩

theorem ScanAt.keepN {w w' : World} {bx base : Nat} {pv hv : Value} {ps hs : List Int} {l : Nat} (h : ScanAt w bx base pv hv ps hs l) (k : Keep Nope w w') : ScanAt w' bx base pv hv ps hs l := h.keep k (fun h => h) (fun _ _ h => h)

theorem scan_cells {w : World} {b : Nat} {a0 a1 a2 : Value} {T : TypeId} (hb : w.heap[b]? = some (.cells #[a0, a1, a2] T (0, 0))) :
    w.cell? ⟨b, 0, none⟩ = some a0 ∧ w.cell? ⟨b, 1, none⟩ = some a1 ∧ w.cell? ⟨b, 2, none⟩ = some a2 := by
  refine ⟨?_, ?_, ?_⟩ <;> simp only [World.cell?, hb] <;> rfl

/-- What lead leaves. -/
def LeadPost (bx base : Nat) (ps hs : List Int) (l : Nat) (w : World) (e : Ending) (w' : World) : Prop :=
  e = .returned (.tuple #[]) ∧ ∃ pv hv, ScanAt w' bx base pv hv ps hs l ∧ Keep (fun k => base ≤ k ∨ k = bx) w w'

theorem lead_loose {w w' : World} {bx base : Nat} {pv hv : Value} {ps hs : List Int} {l : Nat} (h : ScanAt w bx base pv hv ps hs l) (hw : w' = w.setCell ⟨bx, 2, none⟩ (.int .i64 ((l + 1 : Nat) : Int))) :
    LeadPost bx base ps hs (l + 1) w (.returned (.tuple #[])) w' := by
  have k : Keep (fun i => i = bx) w w' := by rw [hw]; exact (Keep.refl (fun i => i = bx) w).setCell (fun _ => rfl) _
  refine ⟨rfl, pv, hv, ⟨?_, ownsRow_keep h.rp k (fun b hb e => ?_), ownsRow_keep h.rh k (fun b hb e => ?_), h.ap, h.bb⟩, k.mono fun i _ h => .inr h⟩
  · rw [hw, block_setCell h.blk]
    rfl
  · have := (ownsRow_block h.rp hb).1; have := h.bb; omega
  · have := (ownsRow_block h.rh hb).1; have := h.bb; omega

theorem Lead_no (y s bs bx base : Nat) (pv hv : Value) (ps hs : List Int) (l : Nat) (w : World) (h : ScanAt w bx base pv hv ps hs l) (hl : l ≤ 65536)
    (hbs : w.cell? ⟨bs, 0, none⟩ = some (.pointer (some ⟨s, 0, none⟩)))
    (hW : Calls Tryz.prog 79 #[.int .u64 (y : Nat)] w fun e w' => e = .returned (.tuple #[.int .i64 0, .bool false]) ∧ w' = w) :
    Calls Tryz.prog 88 #[.int .u64 (y : Nat), .pointer (some ⟨bs, 0, none⟩), .pointer (some ⟨bx, 0, none⟩)] w (LeadPost bx base ps hs (l + 1) w) := by
  have HS : Seal _ := ⟨h⟩
  have HW : Seal _ := ⟨hW⟩
  obtain ⟨c0, c1, c2⟩ := scan_cells h.blk
  have hf := free_of_block h.blk
  clear h hW
  go_enter Tryz.func88, Tryz.ntmps88
  go_wp2_with fail
  refine HW.out.mono ?_
  rintro e w' ⟨rfl, rfl⟩
  go_wp2
  go_end0
  exact lead_loose HS.out (by go_num)

theorem Lead_far (y k H : Nat) (s bs bx base : Nat) (pv hv : Value) (ps hs : List Int) (l : Nat) (w : World) (h : ScanAt w bx base pv hv ps hs l) (hl : l ≤ 65536) (hH : H ≤ 32768) (hk : 2 * H ≤ k) (hk6 : k < 65536)
    (hbs : w.cell? ⟨bs, 0, none⟩ = some (.pointer (some ⟨s, 0, none⟩)))
    (hW : Calls Tryz.prog 79 #[.int .u64 (y : Nat)] w fun e w' => e = .returned (.tuple #[.int .i64 (k : Nat), .bool true]) ∧ w' = w)
    (hG : Calls Tryz.prog 19 #[.pointer (some ⟨s, 0, none⟩)] w fun e w' => e = .returned (.int .i64 (H : Nat)) ∧ w' = w) :
    Calls Tryz.prog 88 #[.int .u64 (y : Nat), .pointer (some ⟨bs, 0, none⟩), .pointer (some ⟨bx, 0, none⟩)] w (LeadPost bx base ps hs (l + 1) w) := by
  have HS : Seal _ := ⟨h⟩
  have HW : Seal _ := ⟨hW⟩
  have HG : Seal _ := ⟨hG⟩
  obtain ⟨c0, c1, c2⟩ := scan_cells h.blk
  have hf := free_of_block h.blk
  have d1 : decide ((2 : Int) * (H : Nat) ≤ (k : Nat)) = true := decide_eq_true (by omega)
  clear h hW hG hk
  go_enter Tryz.func88, Tryz.ntmps88
  go_wp2_with fail
  refine HW.out.mono ?_
  rintro e w' ⟨rfl, rfl⟩
  go_wp2_with fail
  refine HG.out.mono ?_
  rintro e w' ⟨rfl, rfl⟩
  go_wp2
  go_end0
  exact lead_loose HS.out (by go_num)

theorem set3_0 {w : World} {b : Nat} {a0 a1 a2 : Value} {T : TypeId} (hb : w.heap[b]? = some (.cells #[a0, a1, a2] T (0, 0))) (v : Value) : (w.setCell ⟨b, 0, none⟩ v).heap[b]? = some (.cells #[v, a1, a2] T (0, 0)) := by
  rw [block_setCell hb]
  rfl

theorem set3_1 {w : World} {b : Nat} {a0 a1 a2 : Value} {T : TypeId} (hb : w.heap[b]? = some (.cells #[a0, a1, a2] T (0, 0))) (v : Value) : (w.setCell ⟨b, 1, none⟩ v).heap[b]? = some (.cells #[a0, v, a2] T (0, 0)) := by
  rw [block_setCell hb]
  rfl

set_option maxHeartbeats 2000000 in
theorem Lead_pin (y k H g : Nat) (s bs bx base : Nat) (pv hv : Value) (ps hs : List Int) (l : Nat) (w : World) (h : ScanAt w bx base pv hv ps hs l) (hl : ps.length ≤ 65536) (hH : H ≤ 32768) (hk : k < 2 * H) (hb2 : base ≤ w.heap.size)
    (hbs : w.cell? ⟨bs, 0, none⟩ = some (.pointer (some ⟨s, 0, none⟩)))
    (hW : Calls Tryz.prog 79 #[.int .u64 (y : Nat)] w fun e w' => e = .returned (.tuple #[.int .i64 (k : Nat), .bool true]) ∧ w' = w)
    (hG : Calls Tryz.prog 19 #[.pointer (some ⟨s, 0, none⟩)] w fun e w' => e = .returned (.int .i64 (H : Nat)) ∧ w' = w)
    (hO : Calls Tryz.prog 46 #[.pointer (some ⟨s, 0, none⟩), .int .u64 (y : Nat)] w fun e w' => e = .returned (.tuple #[.int .i64 (g : Nat), .bool true]) ∧ Keep Nope w w') :
    Calls Tryz.prog 88 #[.int .u64 (y : Nat), .pointer (some ⟨bs, 0, none⟩), .pointer (some ⟨bx, 0, none⟩)] w (LeadPost bx base (ps ++ [(g : Int)]) hs l w) := by
  have HS : Seal _ := ⟨h⟩
  have HW : Seal _ := ⟨hW⟩
  have HG : Seal _ := ⟨hG⟩
  have HO : Seal _ := ⟨hO⟩
  have hbb := h.bb
  have d1 : decide ((2 : Int) * (H : Nat) ≤ (k : Nat)) = false := decide_eq_false (by omega)
  have hk6 : k < 65536 := by omega
  clear h hW hG hO hk
  go_enter Tryz.func88, Tryz.ntmps88
  go_wp2_with fail
  refine HW.out.mono ?_
  rintro e w' ⟨rfl, rfl⟩
  go_wp2_with fail
  refine HG.out.mono ?_
  rintro e w' ⟨rfl, rfl⟩
  go_wp2_with fail
  refine HO.out.mono ?_
  rintro e w1 ⟨rfl, k1⟩
  have HS1 : Seal _ := ⟨HS.out.keepN k1⟩
  have z1 := k1.size
  have HK1 : Seal _ := ⟨k1⟩
  obtain ⟨c0, c1, c2⟩ := scan_cells HS1.out.blk
  have HR1 : Seal _ := ⟨HS1.out.rp⟩
  clear hbs k1 d1
  go_wp2_with (at_builtin; obtain ⟨i0, hi, hz0, hz1, hz2⟩ := info_parts Tryz.infoInt; go_loud (refine wpList_append_lies _ rfl (.tmp 38) (.tmp 40) 33 rfl base 3 i0 _ 1 8 Tryz.underlyingInts hi hz0 hz1 hz2 rfl (by omega) pv ps.length (intVs ps) rfl (HR1.out.alloc _) ⟨w1.heap.size, 0, none⟩ 1 1 [.int .i64 (g : Nat)] rfl rfl (World.news_of_block (World.alloc_heap_new w1 _)) (by intro u hu; simp at hu; subst hu; rfl) (by omega) (by unfold maxLen; omega) (by omega) (by simp; omega) (w1.heap.size + 1) (by simp) ?_); intro gn capn w3 hown3 hgrow hat hlt; clear hi hz0 hz1 hz2; have hnb : ¬ pv.ownBlock = some bx := fun h => (by have := (ownsRow_block HS1.out.rp h).1; omega); have k3 : Keep (fun k => pv.ownBlock = some k) w1 w3 := ((Keep.refl Nope w1).alloc _ |>.of_not _).grown hgrow (fun k e h => by first | exact h | (injection e with e; subst e; assumption) | exact e); have b3 := k3.at_ HS1.out.blk hnb; have f3 := free_of_block b3 0; obtain ⟨e0, e1, e2⟩ := scan_cells b3; have HR3 : Seal _ := ⟨hown3⟩; have HB3 : Seal _ := ⟨b3⟩; have HK3 : Seal _ := ⟨k3⟩; have HAt : Seal _ := ⟨hat⟩; clear hown3 hgrow hat b3 k3 c0 c1 c2)
  go_end0
  have KS : Keep (fun k => k = bx) w3 (w3.setCell ⟨bx, 0, none⟩ (.slice (some ⟨gn, 0, none⟩) (ps.length + 1) capn)) := (Keep.refl (fun k => k = bx) w3).setCell (fun _ => rfl) _
  have hrh := ownsRow_keep (ownsRow_keep HS1.out.rh HK3.out (fun b hb e => HS1.out.ap b e hb)) KS (fun b hb e => by have := (ownsRow_block HS1.out.rh hb).1; omega)
  refine ⟨rfl, _, hv, ⟨set3_0 HB3.out _, ?_, hrh, fun b hb hb' => ?_, hbb⟩, ((HK1.out.of_not (fun k => base ≤ k ∨ k = bx)).trans HK3.out (fun b hb h => .inl (ownsRow_block HS1.out.rp h).1)).trans KS (fun i _ h => .inr h)⟩
  · rw [intVs, List.map_append, List.length_append]
    exact ownsRow_keep HR3.out KS (fun b hb' e => by have := (ownsRow_block HR3.out hb').1; omega)
  · obtain rfl : gn = b := by simpa [Value.ownBlock] using hb
    rcases HAt.out with h | h
    · exact HS1.out.ap _ h hb'
    · have := (ownsRow_block HS1.out.rh hb').2
      try dsimp only at h
      omega

set_option maxHeartbeats 2000000 in
theorem Lead_hit (y k H : Nat) (g : Int) (s bs bx base : Nat) (pv hv : Value) (ps hs : List Int) (l : Nat) (w : World) (h : ScanAt w bx base pv hv ps hs l) (hl : hs.length ≤ 65536) (hH : H ≤ 32768) (hk : k < 2 * H) (hb2 : base ≤ w.heap.size)
    (hbs : w.cell? ⟨bs, 0, none⟩ = some (.pointer (some ⟨s, 0, none⟩)))
    (hW : Calls Tryz.prog 79 #[.int .u64 (y : Nat)] w fun e w' => e = .returned (.tuple #[.int .i64 (k : Nat), .bool true]) ∧ w' = w)
    (hG : Calls Tryz.prog 19 #[.pointer (some ⟨s, 0, none⟩)] w fun e w' => e = .returned (.int .i64 (H : Nat)) ∧ w' = w)
    (hO : Calls Tryz.prog 46 #[.pointer (some ⟨s, 0, none⟩), .int .u64 (y : Nat)] w fun e w' => e = .returned (.tuple #[.int .i64 g, .bool false]) ∧ Keep Nope w w') :
    Calls Tryz.prog 88 #[.int .u64 (y : Nat), .pointer (some ⟨bs, 0, none⟩), .pointer (some ⟨bx, 0, none⟩)] w (LeadPost bx base ps (hs ++ [((k / 2 : Nat) : Int)]) l w) := by
  have HS : Seal _ := ⟨h⟩
  have HW : Seal _ := ⟨hW⟩
  have HG : Seal _ := ⟨hG⟩
  have HO : Seal _ := ⟨hO⟩
  have hbb := h.bb
  have d1 : decide ((2 : Int) * (H : Nat) ≤ (k : Nat)) = false := decide_eq_false (by omega)
  have hk6 : k < 65536 := by omega
  clear h hW hG hO hk
  go_enter Tryz.func88, Tryz.ntmps88
  go_wp2_with fail
  refine HW.out.mono ?_
  rintro e w' ⟨rfl, rfl⟩
  go_wp2_with fail
  refine HG.out.mono ?_
  rintro e w' ⟨rfl, rfl⟩
  go_wp2_with fail
  refine HO.out.mono ?_
  rintro e w1 ⟨rfl, k1⟩
  have HS1 : Seal _ := ⟨HS.out.keepN k1⟩
  have z1 := k1.size
  have HK1 : Seal _ := ⟨k1⟩
  obtain ⟨c0, c1, c2⟩ := scan_cells HS1.out.blk
  have HR1 : Seal _ := ⟨HS1.out.rh⟩
  obtain ⟨q, hq⟩ : ∃ q, (k : Int) / 2 = q := ⟨_, rfl⟩
  have HKD : Seal (q = ((k / 2 : Nat) : Int)) := ⟨by omega⟩
  clear hbs k1 d1
  go_wp2_with (at_builtin; obtain ⟨i0, hi, hz0, hz1, hz2⟩ := info_parts Tryz.infoInt; go_loud (refine wpList_append_lies _ rfl (.tmp 44) (.tmp 47) 33 rfl base 3 i0 _ 1 8 Tryz.underlyingInts hi hz0 hz1 hz2 rfl (by omega) hv hs.length (intVs hs) rfl (HR1.out.alloc _) ⟨w1.heap.size, 0, none⟩ 1 1 [.int .i64 q] rfl rfl (World.news_of_block (World.alloc_heap_new w1 _)) (by intro u hu; simp at hu; subst hu; rfl) (by omega) (by unfold maxLen; omega) (by omega) (by simp; omega) (w1.heap.size + 1) (by simp) ?_); intro gn capn w3 hown3 hgrow hat hlt; clear hi hz0 hz1 hz2; have hnb : ¬ hv.ownBlock = some bx := fun h => (by have := (ownsRow_block HS1.out.rh h).1; omega); have k3 : Keep (fun k => hv.ownBlock = some k) w1 w3 := ((Keep.refl Nope w1).alloc _ |>.of_not _).grown hgrow (fun k e h => by first | exact h | (injection e with e; subst e; assumption) | exact e); have b3 := k3.at_ HS1.out.blk hnb; have f3 := free_of_block b3 1; obtain ⟨e0, e1, e2⟩ := scan_cells b3; have HR3 : Seal _ := ⟨hown3⟩; have HB3 : Seal _ := ⟨b3⟩; have HK3 : Seal _ := ⟨k3⟩; have HAt : Seal _ := ⟨hat⟩; clear hown3 hgrow hat b3 k3 c0 c1 c2 hq)
  go_end0
  have KS : Keep (fun k => k = bx) w3 (w3.setCell ⟨bx, 1, none⟩ (.slice (some ⟨gn, 0, none⟩) (hs.length + 1) capn)) := (Keep.refl (fun k => k = bx) w3).setCell (fun _ => rfl) _
  have hrp := ownsRow_keep (ownsRow_keep HS1.out.rp HK3.out (fun b hb e => HS1.out.ap b hb e)) KS (fun b hb e => by have := (ownsRow_block HS1.out.rp hb).1; omega)
  refine ⟨rfl, pv, _, ⟨set3_1 HB3.out _, hrp, ?_, fun b hb hb' => ?_, hbb⟩, ((HK1.out.of_not (fun k => base ≤ k ∨ k = bx)).trans HK3.out (fun b hb h => .inl (ownsRow_block HS1.out.rh h).1)).trans KS (fun i _ h => .inr h)⟩
  · rw [intVs, List.map_append, List.length_append]
    rw [HKD.out] at HR3
    exact ownsRow_keep HR3.out KS (fun b hb' e => by have := (ownsRow_block HR3.out hb').1; omega)
  · obtain rfl : gn = b := by simpa [Value.ownBlock] using hb'
    rcases HAt.out with h | h
    · exact HS1.out.ap _ hb h
    · have := (ownsRow_block HS1.out.rp hb).2
      try dsimp only at h
      omega

end Go.Proofs.YtpmiidpbngbclaaGreatDoor

namespace Go.Proofs.YtpmiidpbngbclaaGreatDoor
open Go.RowKit
set_option linter.unusedVariables false

/-- The cell that has a granule. -/
def celHas (cs : List Cel) (g : Nat) : Option Cel := cs.find? fun c => decide (c.g ≤ g ∧ g < c.fin)

theorem celHas_at {pre post : List Cel} {c : Cel} {H g : Nat} (ht : Tiles 0 (pre ++ c :: post) H) (h1 : c.g ≤ g) (h2 : g < c.fin) : celHas (pre ++ c :: post) g = some c := by
  have t := ht.fin_at
  unfold celHas
  rw [List.find?_append, List.find?_eq_none.2, Option.none_or, List.find?_cons_of_pos (by simp [h1, h2])]
  intro d hd
  have := t.2.2.mem hd
  unfold Cel.fin at *
  simp
  omega

/-- Which words are addresses of a space's words. -/
def wordIn (n y : Nat) : Prop := 1048576 ≤ y ∧ y < 1048576 + n

instance (n y : Nat) : Decidable (wordIn n y) := by unfold wordIn; exact inferInstance

def pinsW (n : Nat) (cs : List Cel) (y : Nat) : List Int :=
  if wordIn n y then (match celHas cs ((y - 1048576) / 2) with | some c => if c.tag = 1 then [(c.g : Int)] else [] | none => []) else []

def hitsW (n : Nat) (cs : List Cel) (y : Nat) : List Int :=
  if wordIn n y then (match celHas cs ((y - 1048576) / 2) with | some c => if c.tag = 1 then [] else [(((y - 1048576) / 2 : Nat) : Int)] | none => []) else []

def looseW (n y : Nat) : Nat := if wordIn n y then 0 else 1

/-- Of the first j words. -/
def pinsL (n : Nat) (cs : List Cel) (ys : Nat → Nat) (j : Nat) : List Int := (List.range j).flatMap fun i => pinsW n cs (ys i)

def hitsL (n : Nat) (cs : List Cel) (ys : Nat → Nat) (j : Nat) : List Int := (List.range j).flatMap fun i => hitsW n cs (ys i)

def looseL (n : Nat) (ys : Nat → Nat) : Nat → Nat
  | 0 => 0
  | j + 1 => looseL n ys j + looseW n (ys j)

theorem pinsL_succ (n : Nat) (cs : List Cel) (ys : Nat → Nat) (j : Nat) : pinsL n cs ys (j + 1) = pinsL n cs ys j ++ pinsW n cs (ys j) := by
  simp [pinsL, List.range_succ]

theorem hitsL_succ (n : Nat) (cs : List Cel) (ys : Nat → Nat) (j : Nat) : hitsL n cs ys (j + 1) = hitsL n cs ys j ++ hitsW n cs (ys j) := by
  simp [hitsL, List.range_succ]

theorem pinsW_len (n : Nat) (cs : List Cel) (y : Nat) : (pinsW n cs y).length ≤ 1 := by
  unfold pinsW
  split
  · split
    · split <;> simp
    · simp
  · simp

theorem hitsW_len (n : Nat) (cs : List Cel) (y : Nat) : (hitsW n cs y).length ≤ 1 := by
  unfold hitsW
  split
  · split
    · split <;> simp
    · simp
  · simp

theorem pinsL_len (n : Nat) (cs : List Cel) (ys : Nat → Nat) : ∀ j, (pinsL n cs ys j).length ≤ j
  | 0 => by simp [pinsL]
  | j + 1 => by
    rw [pinsL_succ, List.length_append]
    have := pinsL_len n cs ys j
    have := pinsW_len n cs (ys j)
    omega

theorem hitsL_len (n : Nat) (cs : List Cel) (ys : Nat → Nat) : ∀ j, (hitsL n cs ys j).length ≤ j
  | 0 => by simp [hitsL]
  | j + 1 => by
    rw [hitsL_succ, List.length_append]
    have := hitsL_len n cs ys j
    have := hitsW_len n cs (ys j)
    omega

theorem looseL_le (n : Nat) (ys : Nat → Nat) : ∀ j, looseL n ys j ≤ j
  | 0 => Nat.le_refl _
  | j + 1 => by
    have := looseL_le n ys j
    rw [looseL]
    unfold looseW
    split <;> omega

theorem Lead_any (y : Nat) (P : Sp) (W : Nat → Nat) (f : Nat → Bool) (cs : List Cel) (bs bx base : Nat) (pv hv : Value) (ps hs : List Int) (l : Nat) (w : World) (hsp : SpaceAt w P W f) (hc : CellsAt P W cs) (hst : ∀ i, i < P.n / 2 → f i = startOf cs i) (hy : y < 18446744073709551616)
    (h : ScanAt w bx base pv hv ps hs l) (h1 : ps.length ≤ 65536) (h2 : hs.length ≤ 65536) (h3 : l ≤ 65536) (hb2 : base ≤ w.heap.size) (hbs : w.cell? ⟨bs, 0, none⟩ = some (.pointer (some ⟨P.s, 0, none⟩))) :
    Calls Tryz.prog 88 #[.int .u64 (y : Nat), .pointer (some ⟨bs, 0, none⟩), .pointer (some ⟨bx, 0, none⟩)] w (LeadPost bx base (ps ++ pinsW P.n cs y) (hs ++ hitsW P.n cs y) (l + looseW P.n y) w) := by
  have hsm := hsp.ar.small
  have hev := hsp.ev
  by_cases hin : wordIn P.n y
  · have hin' := hin
    unfold wordIn at hin'
    obtain ⟨k, hk⟩ : ∃ k, y - 1048576 = k := ⟨_, rfl⟩
    obtain rfl : y = 1048576 + k := by omega
    obtain ⟨pre, c, post, rfl, hg1, hg2, -⟩ := cell_split (g := k / 2) hc.tl (by omega) (by omega)
    have hO := FOf_at k c pre post P W f w hsp hc hst (by omega) (by omega)
    have hco := celHas_at hc.tl hg1 hg2
    have e3 : looseW P.n (1048576 + k) = 0 := by unfold looseW; rw [if_pos hin]
    rw [e3, Nat.add_zero]
    by_cases ht : c.tag = 1
    · have e1 : pinsW P.n (pre ++ c :: post) (1048576 + k) = [(c.g : Int)] := by unfold pinsW; rw [if_pos hin, hk, hco]; simp [ht]
      have e2 : hitsW P.n (pre ++ c :: post) (1048576 + k) = [] := by unfold hitsW; rw [if_pos hin, hk, hco]; simp [ht]
      rw [e1, e2, List.append_nil]
      unfold FOfPost at hO
      rw [if_pos ht, show (c.tag == 1) = true by simp [ht]] at hO
      exact Lead_pin (1048576 + k) k (P.n / 2) c.g P.s bs bx base pv hv ps hs l w h h1 (by omega) (by omega) hb2 hbs (SWord_yes k w (by omega)) (Gran_at P W f w hsp) hO
    · have e1 : pinsW P.n (pre ++ c :: post) (1048576 + k) = [] := by unfold pinsW; rw [if_pos hin, hk, hco]; simp [ht]
      have e2 : hitsW P.n (pre ++ c :: post) (1048576 + k) = [((k / 2 : Nat) : Int)] := by unfold hitsW; rw [if_pos hin, hk, hco]; simp [ht]
      rw [e1, e2, List.append_nil]
      unfold FOfPost at hO
      rw [if_neg ht, show (c.tag == 1) = false by simp [ht]] at hO
      exact Lead_hit (1048576 + k) k (P.n / 2) _ P.s bs bx base pv hv ps hs l w h h2 (by omega) (by omega) hb2 hbs (SWord_yes k w (by omega)) (Gran_at P W f w hsp) hO
  · have e1 : pinsW P.n cs y = [] := by unfold pinsW; rw [if_neg hin]
    have e2 : hitsW P.n cs y = [] := by unfold hitsW; rw [if_neg hin]
    have e3 : looseW P.n y = 1 := by unfold looseW; rw [if_neg hin]
    rw [e1, e2, e3, List.append_nil, List.append_nil]
    unfold wordIn at hin
    by_cases h4 : y < 1048576 ∨ 1114112 ≤ y
    · exact Lead_no y P.s bs bx base pv hv ps hs l w h h3 hbs (SWord_no y w h4 hy)
    · obtain ⟨k, rfl⟩ : ∃ k, y = 1048576 + k := ⟨y - 1048576, by omega⟩
      exact Lead_far (1048576 + k) k (P.n / 2) P.s bs bx base pv hv ps hs l w h h3 (by omega) (by omega) (by omega) hbs (SWord_yes k w (by omega)) (Gran_at P W f w hsp)

/-- A row of words that an argument has. -/
def WordArg (w : World) (v : Value) (m : Nat) (ys : Nat → Nat) : Prop :=
  ∃ a cap, v = .slice a m cap ∧ ∀ i, i < m → ∃ b o, a = some ⟨b, o, none⟩ ∧ w.cell? ⟨b, o + i, none⟩ = some (.int .u64 (ys i : Nat)) ∧ ys i < 18446744073709551616

theorem WordArg.keepN {w w' : World} {v : Value} {m : Nat} {ys : Nat → Nat} (h : WordArg w v m ys) (k : Keep Nope w w') : WordArg w' v m ys := by
  obtain ⟨a, cap, rfl, h⟩ := h
  exact ⟨a, cap, rfl, fun i hi => by
    obtain ⟨b, o, h1, h2, h3⟩ := h i hi
    exact ⟨b, o, h1, k.cell h2 (fun h => h), h3⟩⟩

theorem Rise_row (base : Nat) (v : Value) (zs : List Int) (w : World) (ho : w.ownsRow base 3 1 v zs.length (intVs zs)) (hl : zs.length ≤ 65536) :
    Calls Tryz.prog 87 #[v] w fun e w' => ∃ v', e = .returned v' ∧ w'.ownsRow base 3 1 v' (riseL zs).length (intVs (riseL zs)) ∧ v'.ownBlock = v.ownBlock ∧ Keep (fun k => v.ownBlock = some k) w w' := by
  have HS : Seal _ := ⟨Sort_row base v zs w ho (by omega)⟩
  have hv : ∃ a l c, v = .slice a l c := by
    rcases ho.2 with ⟨rfl, _⟩ | ⟨g, cap, cur, rfl, _⟩
    · exact ⟨_, _, _, rfl⟩
    · exact ⟨_, _, _, rfl⟩
  obtain ⟨va, vl, vc, rfl⟩ := hv
  obtain ⟨v, hv⟩ : ∃ v, v = Value.slice va vl vc := ⟨_, rfl⟩
  have hl2 := List.length_mergeSort (le := fun x y : Int => decide (x ≤ y)) zs
  clear ho
  go_enter Tryz.func87, Tryz.ntmps87
  go_wp2_with fail
  refine HS.out.mono ?_
  rintro e w1 ⟨rfl, o1, k1⟩
  have HC : Seal _ := ⟨Compact_row base _ (zs.mergeSort fun x y => decide (x ≤ y)) w1 (by rw [hl2]; exact o1) (by rw [hl2]; omega)⟩
  have HK1 : Seal _ := ⟨k1⟩
  clear o1 k1 hl2
  go_wp2_with fail
  refine HC.out.mono ?_
  rintro e w2 ⟨v', rfl, o2, hb, k2⟩
  have HR : Seal _ := ⟨And.intro o2 hb⟩
  have HK2 : Seal _ := ⟨HK1.out.trans k2 (fun _ _ h => h)⟩
  obtain ⟨ua, ul, uc, hu⟩ : ∃ a n c, v' = .slice a n c := by
    rcases o2.2 with ⟨h, _⟩ | ⟨g, cap, cur, h, _⟩
    · exact ⟨_, _, _, h⟩
    · exact ⟨_, _, _, h⟩
  subst hu
  clear o2 hb k2
  go_wp2
  go_ret
  exact ⟨_, rfl, HR.out.1, HR.out.2, HK2.out⟩

end Go.Proofs.YtpmiidpbngbclaaGreatDoor

namespace Go.Proofs.YtpmiidpbngbclaaGreatDoor
open Go.RowKit
set_option linter.unusedVariables false

/-- What Of answers. -/
def ScanPost (n : Nat) (cs : List Cel) (ys : Nat → Nat) (m : Nat) (w : World) (e : Ending) (w' : World) : Prop :=
  ∃ pv hv, e = .returned (.agg #[pv, hv, .int .i64 (looseL n ys m : Nat)]) ∧ w'.ownsRow w.heap.size 3 1 pv (riseL (pinsL n cs ys m)).length (intVs (riseL (pinsL n cs ys m))) ∧ w'.ownsRow w.heap.size 3 1 hv (riseL (hitsL n cs ys m)).length (intVs (riseL (hitsL n cs ys m))) ∧ Keep Nope w w'

theorem ownsRow_down {w : World} {base base' : Nat} {e : TypeId} {size : Nat} {v : Value} {n : Nat} {xs : List Value} (h : w.ownsRow base e size v n xs) (hb : base' ≤ base) : w.ownsRow base' e size v n xs := by
  obtain ⟨h1, h⟩ := h
  refine ⟨h1, ?_⟩
  rcases h with h | ⟨g, cap, cur, h2, h3, h4⟩
  · exact .inl h
  · exact .inr ⟨g, cap, cur, h2, by omega, h4⟩

set_option maxHeartbeats 4000000 in
theorem ScanOf_at (P : Sp) (W : Nat → Nat) (f : Nat → Bool) (cs : List Cel) (v : Value) (m : Nat) (ys : Nat → Nat) (w : World) (hsp : SpaceAt w P W f) (hc : CellsAt P W cs) (hst : ∀ i, i < P.n / 2 → f i = startOf cs i) (hv : WordArg w v m ys) (hm : m ≤ 65535) :
    Calls Tryz.prog 44 #[.pointer (some ⟨P.s, 0, none⟩), v] w (ScanPost P.n cs ys m w) := by
  obtain ⟨w2, hw2⟩ : ∃ w2, w2 = (w.alloc (.cells #[.pointer (some ⟨P.s, 0, none⟩)] 27)).alloc (.cells #[.slice none 0 0, .slice none 0 0, .int .i64 0] 89) := ⟨_, rfl⟩
  have k2 : Keep Nope w w2 := by rw [hw2]; exact ((Keep.refl _ w).alloc _).alloc _
  have z2 : w2.heap.size = w.heap.size + 2 := by rw [hw2]; simp
  have bs2 : w2.heap[w.heap.size]? = some (.cells #[.pointer (some ⟨P.s, 0, none⟩)] 27 (0, 0)) := by rw [hw2]; exact ((Keep.refl Nope _).alloc _).at_ (World.alloc_heap_new w _) (fun h => h)
  have bl2 : w2.heap[w.heap.size + 1]? = some (.cells #[.slice none 0 0, .slice none 0 0, .int .i64 0] 89 (0, 0)) := by
    rw [hw2]
    have := World.alloc_heap_new (w.alloc (.cells #[.pointer (some ⟨P.s, 0, none⟩)] 27)) (.cells #[.slice none 0 0, .slice none 0 0, .int .i64 0] 89)
    rwa [show (w.alloc (.cells #[.pointer (some ⟨P.s, 0, none⟩)] 27)).heap.size = w.heap.size + 1 by simp] at this
  have HS0 : Seal (ScanAt w2 (w.heap.size + 1) (w.heap.size + 2) (.slice none 0 0) (.slice none 0 0) (pinsL P.n cs ys 0) (hitsL P.n cs ys 0) (looseL P.n ys 0)) := ⟨⟨bl2, World.ownsRow_nil _ _ _ _, World.ownsRow_nil _ _ _ _, fun b h => by simp [Value.ownBlock] at h, by omega⟩⟩
  obtain ⟨va, vc, rfl, hwd⟩ := hv
  have HWd : Seal _ := ⟨hwd⟩
  have HSp : Seal _ := ⟨hsp⟩
  have HC : Seal _ := ⟨hc⟩
  have HSt : Seal _ := ⟨hst⟩
  have HK2 : Seal _ := ⟨k2⟩
  have HBS : Seal _ := ⟨bs2⟩
  have hmf : ∀ (fn : Fn) (first cap : Array Value) (w : World), (Instr.makeFunc fn first cap).run Tryz.prog w = .ok (.func fn first cap) w := fun _ _ _ _ => rfl
  clear k2 bs2 bl2 hsp hc hst hwd
  go_enter Tryz.func44, Tryz.ntmps44
  go_wp2_with fail
  rw [← hw2]
  clear hw2
  obtain ⟨B, hB⟩ : ∃ B, w.heap.size = B := ⟨_, rfl⟩
  have HBw : Seal _ := ⟨hB⟩
  rw [hB] at HBS HS0 z2 ⊢
  clear hB
  go_loopw [7, 11] (fun x7 x11 wr => ∃ j : Nat, j ≤ m ∧ x11 = .int .i64 (j : Nat) ∧ (∃ pv hv, ScanAt wr (B + 1) (B + 2) pv hv (pinsL P.n cs ys j) (hitsL P.n cs ys j) (looseL P.n ys j)) ∧ Keep (fun k => B + 2 ≤ k ∨ k = B + 1) w2 wr) (fun _ x11 _ => m - (intOf x11).toNat)
  case atStart => exact ⟨0, by omega, rfl, ⟨_, _, HS0.out⟩, Keep.refl _ _⟩
  case round =>
    obtain ⟨j, hj, rfl, ⟨pv, hv, hs⟩, hk⟩ := hrel
    have HS : Seal _ := ⟨hs⟩
    have HK : Seal _ := ⟨hk⟩
    have hkw : Keep Nope w wr := (HK2.out.of_not _ |>.trans hk (fun _ _ h => h)).mono (fun i hi h => by have := HBw.out; omega)
    have HKW : Seal _ := ⟨hkw⟩
    have hsz := hk.size
    have hsz2 : B + 2 ≤ wr.heap.size := by omega
    clear hk hs
    by_cases hjl : j < m
    · have hjl' : (j : Int) < (m : Int) := by omega
      obtain ⟨b, o, rfl, hcell, hys⟩ := HWd.out j hjl
      replace hcell := hkw.cell hcell (fun h => h)
      have HL : Seal _ := ⟨Lead_any (ys j) P W f cs B (B + 1) (B + 2) pv hv _ _ _ wr (HSp.out.keepN HKW.out) HC.out HSt.out hys HS.out (by have := pinsL_len P.n cs ys j; omega) (by have := hitsL_len P.n cs ys j; omega) (by have := looseL_le P.n ys j; omega) hsz2 (cell_of_one (HK.out.at_ HBS.out (by omega)))⟩
      rw [← pinsL_succ, ← hitsL_succ, show looseL P.n ys j + looseW P.n (ys j) = looseL P.n ys (j + 1) from rfl] at HL
      clear hkw hys
      go_wp2_with fail
      refine HL.out.mono ?_
      rintro e w3 ⟨rfl, pv', hv', hs', k'⟩
      have HS' : Seal _ := ⟨hs'⟩
      have HK' : Seal _ := ⟨HK.out.trans k' (fun _ _ h => h)⟩
      clear hs' k'
      go_wp2
      exact ⟨⟨j + 1, by omega, by go_num, ⟨pv', hv', HS'.out⟩, HK'.out⟩, by simp only [intOf]; omega⟩
    · obtain rfl : j = m := by omega
      obtain ⟨c0, c1, c2⟩ := scan_cells HS.out.blk
      clear hkw
      go_wp2_with fail
      have hnp : ¬ pv.ownBlock = some (B + 1) := fun h => by have := (ownsRow_block HS.out.rp h).1; omega
      have hnh : ¬ hv.ownBlock = some (B + 1) := fun h => by have := (ownsRow_block HS.out.rh h).1; omega
      have HNP : Seal _ := ⟨And.intro hnp hnh⟩
      have HLP : Seal (∀ W', W' = wr.drew → Calls Tryz.prog 87 #[pv] W' fun e w' => ∃ v', e = .returned v' ∧ w'.ownsRow (B + 2) 3 1 v' (riseL (pinsL P.n cs ys j)).length (intVs (riseL (pinsL P.n cs ys j))) ∧ v'.ownBlock = pv.ownBlock ∧ Keep (fun k => pv.ownBlock = some k) wr w') := ⟨fun W' hW' => by
        subst hW'
        refine (Rise_row (B + 2) pv (pinsL P.n cs ys j) wr.drew HS.out.rp (by have := pinsL_len P.n cs ys j; omega)).mono ?_
        rintro e w' ⟨v', h1, h2, h3, h4⟩
        exact ⟨v', h1, h2, h3, ((Keep.refl _ wr).drew).trans h4 (fun _ _ h => h)⟩⟩
      have HLH : Seal (∀ W' wA, Keep (fun k => pv.ownBlock = some k) wr wA → W' = wA → Calls Tryz.prog 87 #[hv] W' fun e w' => ∃ v', e = .returned v' ∧ w'.ownsRow (B + 2) 3 1 v' (riseL (hitsL P.n cs ys j)).length (intVs (riseL (hitsL P.n cs ys j))) ∧ v'.ownBlock = hv.ownBlock ∧ Keep (fun k => hv.ownBlock = some k) wA w') := ⟨fun W' wA kA hW' => by
        subst hW'
        exact Rise_row (B + 2) hv (hitsL P.n cs ys j) _ (ownsRow_keep HS.out.rh kA (fun b hb h => HS.out.ap b h hb)) (by have := hitsL_len P.n cs ys j; omega)⟩
      clear hnp hnh
      go_region_law
        (first
          | (go_simp; go_at_call 87
             (with_reducible refine (HLP.out _ rfl).mono ?_)
             rintro e wA ⟨pv', rfl, oA, hbA, kA⟩
             have bA := kA.at_ HS.out.blk HNP.out.1
             obtain ⟨a0, a1, a2⟩ := scan_cells bA
             obtain ⟨p1, p2, p3, hpv⟩ : ∃ a n c, pv' = .slice a n c := row_slice oA
             subst hpv
             have HA : Seal _ := ⟨And.intro (And.intro oA hbA) kA⟩
             have HBA : Seal _ := ⟨bA⟩
             clear oA hbA kA bA)
          | (go_simp; go_at_call 87
             (with_reducible refine (HLH.out _ wA HA.out.2 rfl).mono ?_)
             rintro e wB ⟨hv', rfl, oB, hbB, kB⟩
             have bB := kB.at_ HBA.out HNP.out.2
             obtain ⟨b0, b1, b2⟩ := scan_cells bB
             have fB := free_of_block bB
             obtain ⟨q1, q2, q3, hqv⟩ : ∃ a n c, hv' = .slice a n c := row_slice oB
             subst hqv
             have HBB : Seal _ := ⟨And.intro (And.intro oB hbB) kB⟩
             have HBk : Seal _ := ⟨bB⟩
             clear oB hbB kB bB))
      all_goals
        obtain ⟨wz, hwz⟩ : ∃ wz, wz = (wB.setCell ⟨B + 1, 0, none⟩ (.slice p1 p2 p3)).setCell ⟨B + 1, 1, none⟩ (.slice q1 q2 q3) := ⟨_, rfl⟩
        have bz : wz.heap[B + 1]? = some (.cells #[.slice p1 p2 p3, .slice q1 q2 q3, .int .i64 (looseL P.n ys j : Nat)] 89 (0, 0)) := by rw [hwz]; exact set3_1 (set3_0 HBk.out _) _
        have kz : Keep (fun k => k = B + 1) wB wz := by rw [hwz]; exact ((Keep.refl (fun k => k = B + 1) wB).setCell (fun _ => rfl) _).setCell (fun _ => rfl) _
        rw [← hwz]
        clear hwz a0 a1 a2 b0 b1 b2 fB c0 c1 c2
        obtain ⟨c0, c1, c2⟩ := scan_cells bz
        have hf := free_of_block bz
        have HBz : Seal _ := ⟨bz⟩
        have HKz : Seal _ := ⟨kz⟩
        clear bz kz
        go_wp2
        obtain ⟨by', ky⟩ := store3 HBz.out (.slice p1 p2 p3) (.slice q1 q2 q3) (.int .i64 (looseL P.n ys j : Nat)) _ rfl
        obtain ⟨e0, e1, e2⟩ := scan_cells by'
        refine bodyPost_ret (v := .agg #[.slice p1 p2 p3, .slice q1 q2 q3, .int .i64 (looseL P.n ys j : Nat)]) (by simp [results, Tryz.results44, go_sem, e0, e1, e2]) rfl ?_
        have K3 := HKz.out.trans ky (fun i _ h => h)
        have oP := ownsRow_keep (ownsRow_keep HA.out.1.1 HBB.out.2 (fun b hb h => HS.out.ap b (by rw [← HA.out.1.2]; exact hb) h)) K3 (fun b hb h => by have := (ownsRow_block HA.out.1.1 hb).1; omega)
        have oH := ownsRow_keep HBB.out.1.1 K3 (fun b hb h => by have := (ownsRow_block HBB.out.1.1 hb).1; omega)
        have hBB := HBw.out
        refine ⟨_, _, rfl, ownsRow_down oP (by omega), ownsRow_down oH (by omega), ?_⟩
        exact (((HKW.out.of_not (fun k => B ≤ k)).trans HA.out.2 (fun i _ h => by have := (ownsRow_block HS.out.rp h).1; omega)).trans HBB.out.2 (fun i _ h => by have := (ownsRow_block HS.out.rh h).1; omega)).trans K3 (fun i _ h => by omega) |>.mono (fun i hi h => by omega)

end Go.Proofs.YtpmiidpbngbclaaGreatDoor
