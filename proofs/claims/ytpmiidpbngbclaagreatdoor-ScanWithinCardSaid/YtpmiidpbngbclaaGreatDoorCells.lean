/-
  Cells one behind the other, and their headers as words. No program in sight.
-/
import Derived.Test.YtpmiidpbngbclaaGreatDoorWordMath
namespace Go.Proofs.YtpmiidpbngbclaaGreatDoor
set_option linter.unusedVariables false

/-- A cell: where it is, what stands there, of which type and length, and how many granules it has. -/
structure Cel where
  g : Nat
  tag : Nat
  ty : Nat
  ln : Nat
  sz : Nat
  deriving DecidableEq

/-- May a header be? -/
def headOk (tag ty ln sz : Int) : Bool :=
  decide (1 ≤ sz ∧ sz ≤ 16777215 ∧ 0 ≤ ln ∧ ln ≤ 16777215 ∧ ((tag = 1 ∧ 1 ≤ ty ∧ ty ≤ 4095) ∨ ((tag = 2 ∨ tag = 3) ∧ ty = 0 ∧ ln = 0)))

/-- A header's word. -/
def encH (tag ty ln sz : Nat) : Nat := tag + ty * 4 + ln * 65536 + sz * 1099511627776

theorem encH_lt {tag ty ln sz : Nat} (h : headOk tag ty ln sz = true) : encH tag ty ln sz < 18446744073709551616 := by
  simp only [headOk, decide_eq_true_eq] at h
  unfold encH
  omega

theorem encH_tag {tag ty ln sz : Nat} (h : headOk tag ty ln sz = true) : encH tag ty ln sz % 4 = tag := by
  simp only [headOk, decide_eq_true_eq] at h
  unfold encH
  omega

theorem encH_ty {tag ty ln sz : Nat} (h : headOk tag ty ln sz = true) : encH tag ty ln sz / 4 % 4096 = ty := by
  simp only [headOk, decide_eq_true_eq] at h
  unfold encH
  omega

theorem encH_gap {tag ty ln sz : Nat} (h : headOk tag ty ln sz = true) : encH tag ty ln sz / 16384 % 4 = 0 := by
  simp only [headOk, decide_eq_true_eq] at h
  unfold encH
  omega

theorem encH_ln {tag ty ln sz : Nat} (h : headOk tag ty ln sz = true) : encH tag ty ln sz / 65536 % 16777216 = ln := by
  simp only [headOk, decide_eq_true_eq] at h
  unfold encH
  omega

theorem encH_sz {tag ty ln sz : Nat} (h : headOk tag ty ln sz = true) : encH tag ty ln sz / 1099511627776 % 16777216 = sz := by
  simp only [headOk, decide_eq_true_eq] at h
  unfold encH
  omega

/-- The pieces of a word, laid one beside the other. -/
theorem encH_or {tag ty ln sz : Nat} (h : headOk tag ty ln sz = true) : ((0 ||| tag) ||| (ty * 4)) ||| (ln * 65536) ||| (sz * 1099511627776) = encH tag ty ln sz := by
  simp only [headOk, decide_eq_true_eq] at h
  have t0 : (0 ||| tag) = tag := by simp
  have t1 : tag ||| ty * 4 = tag + ty * 4 := by
    have := Nat.two_pow_add_eq_or_of_lt (i := 2) (b := tag) (by omega) ty
    rw [show (2 : Nat) ^ 2 = 4 from rfl] at this
    rw [Nat.or_comm, Nat.mul_comm ty 4]
    omega
  have t2 : (tag + ty * 4) ||| ln * 65536 = tag + ty * 4 + ln * 65536 := by
    have := Nat.two_pow_add_eq_or_of_lt (i := 16) (b := tag + ty * 4) (by omega) ln
    rw [show (2 : Nat) ^ 16 = 65536 from rfl] at this
    rw [Nat.or_comm, Nat.mul_comm ln 65536]
    omega
  have t3 : (tag + ty * 4 + ln * 65536) ||| sz * 1099511627776 = tag + ty * 4 + ln * 65536 + sz * 1099511627776 := by
    have := Nat.two_pow_add_eq_or_of_lt (i := 40) (b := tag + ty * 4 + ln * 65536) (by omega) sz
    rw [show (2 : Nat) ^ 40 = 1099511627776 from rfl] at this
    rw [Nat.or_comm, Nat.mul_comm sz 1099511627776]
    omega
  rw [t0, t1, t2, t3]
  rfl

/-- Cells one behind the other, from a to b. -/
def Tiles : Nat → List Cel → Nat → Prop
  | a, [], b => a = b
  | a, c :: cs, b => c.g = a ∧ 0 < c.sz ∧ Tiles (a + c.sz) cs b

theorem Tiles.append {a b d : Nat} : ∀ {xs ys : List Cel} {a : Nat}, Tiles a xs b → Tiles b ys d → Tiles a (xs ++ ys) d
  | [], ys, a, h, k => by rw [show a = b from h]; exact k
  | c :: xs, ys, a, ⟨h1, h2, h3⟩, k => ⟨h1, h2, Tiles.append (a := a) h3 k⟩

theorem Tiles.split : ∀ {xs ys : List Cel} {a d : Nat}, Tiles a (xs ++ ys) d → ∃ b, Tiles a xs b ∧ Tiles b ys d
  | [], ys, a, d, h => ⟨a, rfl, h⟩
  | c :: xs, ys, a, d, ⟨h1, h2, h3⟩ => by
    obtain ⟨b, k1, k2⟩ := Tiles.split h3
    exact ⟨b, ⟨h1, h2, k1⟩, k2⟩

theorem Tiles.le : ∀ {xs : List Cel} {a b : Nat}, Tiles a xs b → a ≤ b
  | [], a, b, h => Nat.le_of_eq h
  | c :: xs, a, b, ⟨h1, h2, h3⟩ => by have := Tiles.le h3; omega

theorem Tiles.mem : ∀ {xs : List Cel} {a b : Nat} {c : Cel}, Tiles a xs b → c ∈ xs → a ≤ c.g ∧ c.g + c.sz ≤ b ∧ 0 < c.sz
  | d :: xs, a, b, c, ⟨h1, h2, h3⟩, hc => by
    have h4 := Tiles.le h3
    rcases List.mem_cons.1 hc with rfl | hc
    · omega
    · have := Tiles.mem h3 hc; omega

/-- The cell that has a granule. -/
theorem Tiles.at_ : ∀ {xs : List Cel} {a b g : Nat}, Tiles a xs b → a ≤ g → g < b → ∃ pre c post, xs = pre ++ c :: post ∧ c.g ≤ g ∧ g < c.g + c.sz
  | [], a, b, g, h, h1, h2 => by have : a = b := h; omega
  | d :: xs, a, b, g, ⟨h1, h2, h3⟩, k1, k2 => by
    by_cases e : g < a + d.sz
    · exact ⟨[], d, xs, rfl, by omega, by omega⟩
    · obtain ⟨pre, c, post, rfl, u, v⟩ := Tiles.at_ h3 (by omega) k2
      exact ⟨d :: pre, c, post, rfl, u, v⟩

/-- A gap, if it has granules. -/
def gapL (g n : Nat) : List Cel := if n = 0 then [] else [⟨g, if n = 1 then 2 else 3, 0, 0, n⟩]

theorem gapL_tiles (g n : Nat) : Tiles g (gapL g n) (g + n) := by
  rw [gapL]
  by_cases h : n = 0
  · subst h; exact rfl
  · rw [if_neg h]; exact ⟨rfl, by show 0 < n; omega, rfl⟩

/-- Where a cell ends. -/
def Cel.fin (c : Cel) : Nat := c.g + c.sz

/-- Which are objects. -/
def Cel.isObj (c : Cel) : Bool := c.tag == 1

/-- The words of cells: each has its header where it begins. -/
def HeadsAt (W : Nat → Nat) (cs : List Cel) : Prop := ∀ c ∈ cs, W (2 * c.g) = encH c.tag c.ty c.ln c.sz

end Go.Proofs.YtpmiidpbngbclaaGreatDoor
