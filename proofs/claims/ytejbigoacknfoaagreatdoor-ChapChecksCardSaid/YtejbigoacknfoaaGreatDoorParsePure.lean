/- Numbers as text, of a base: plain laws. -/
import Derived.Test.YtejbigoacknfoaaGreatDoorBase
set_option linter.unusedSectionVars false
set_option linter.unusedSimpArgs false
set_option linter.unusedVariables false
namespace Go.Proofs.YtejbigoacknfoaaGreatDoor
open Go Go.RowKit
set_option linter.unusedVariables false
/-- a letter's small one -/
def lowV (c : UInt8) : Nat := c.toNat ||| 32
/-- a digit's value; 255: it is none -/
def digV (c : UInt8) : Nat := if 48 ≤ c.toNat ∧ c.toNat ≤ 57 then c.toNat - 48 else if 97 ≤ lowV c ∧ lowV c ≤ 122 then lowV c - 87 else 255
/-- the number, and what is wrong: 2 a byte that is no digit, 1 too great -/
def puG (base max : Nat) : List UInt8 → Nat → Nat × Nat
  | [], n => (n, 0)
  | c :: l, n => if base ≤ digV c then (0, 2) else if max < n * base + digV c then (max, 1) else puG base max l (n * base + digV c)
def puS (base max : Nat) (l : List UInt8) : Nat × Nat := if l = [] then (0, 2) else puG base max l 0
theorem low_bits : ∀ n : Fin 256, bits .or .u8 ((n.val : Nat) : Int) 32 = ((n.val ||| 32 : Nat) : Int) := by decide +kernel
theorem low_u8 (c : UInt8) : bits .or .u8 (c.toNat : Int) 32 = (lowV c : Nat) := low_bits ⟨c.toNat, c.toNat_lt⟩
theorem low_lt (c : UInt8) : lowV c < 256 := Nat.or_lt_two_pow (n := 8) c.toNat_lt (by omega)
theorem puG_step (base max : Nat) (l : List UInt8) (k n : Nat) (c : UInt8) (h : l[k]? = some c) :
    puG base max (l.drop k) n = if base ≤ digV c then (0, 2) else if max < n * base + digV c then (max, 1) else puG base max (l.drop (k + 1)) (n * base + digV c) := by
  obtain ⟨h1, h2⟩ := List.getElem?_eq_some_iff.1 h
  rw [List.drop_eq_getElem_cons h1, h2, puG]
theorem puG_end (base max : Nat) (l : List UInt8) (k n : Nat) (h : l.length ≤ k) : puG base max (l.drop k) n = (n, 0) := by
  rw [List.drop_eq_nil_of_le h, puG]
theorem puG_le (base max : Nat) (l : List UInt8) (n : Nat) (h : n ≤ max) : (puG base max l n).1 ≤ max := by
  induction l generalizing n with
  | nil => exact h
  | cons c l ih =>
    rw [puG]
    split
    · simp
    · split
      · simp
      · exact ih _ (by omega)
/-- the value of digits of a base -/
def valB (base : Nat) (l : List UInt8) (n : Nat) : Nat := l.foldl (fun n c => n * base + digV c) n
theorem valB_mono (base : Nat) (hb : 1 ≤ base) (l : List UInt8) (n : Nat) : n ≤ valB base l n := by
  induction l generalizing n with
  | nil => exact Nat.le_refl _
  | cons c l ih =>
    refine Nat.le_trans ?_ (ih (n * base + digV c))
    have : n * 1 ≤ n * base := Nat.mul_le_mul_left n hb
    omega
/-- it has a number if all are digits and the value isn't too great -/
theorem puG_all (base max : Nat) (hb : 1 ≤ base) (l : List UInt8) (n : Nat) (hn : n ≤ max) : puG base max l n = (valB base l n, 0) ∧ (l.all fun c => decide (digV c < base)) = true ∧ valB base l n ≤ max ∨
    (puG base max l n).2 ≠ 0 ∧ ((l.all fun c => decide (digV c < base)) = false ∨ max < valB base l n) := by
  induction l generalizing n with
  | nil => exact .inl ⟨rfl, rfl, hn⟩
  | cons c l ih =>
    rw [puG]
    by_cases h1 : base ≤ digV c
    · rw [if_pos h1]
      exact .inr ⟨by simp, .inl (by simp; omega)⟩
    · rw [if_neg h1]
      by_cases h2 : max < n * base + digV c
      · rw [if_pos h2]
        have := valB_mono base hb l (n * base + digV c)
        exact .inr ⟨by simp, .inr (Nat.lt_of_lt_of_le h2 this)⟩
      · rw [if_neg h2]
        have hd : decide (digV c < base) = true := decide_eq_true (by omega)
        rcases ih (n * base + digV c) (by omega) with ⟨h3, h4, h5⟩ | ⟨h3, h4⟩
        · exact .inl ⟨h3, by rw [List.all_cons, hd, h4]; rfl, h5⟩
        · refine .inr ⟨h3, ?_⟩
          rcases h4 with h4 | h4
          · exact .inl (by rw [List.all_cons, hd, h4]; rfl)
          · exact .inr h4
end Go.Proofs.YtejbigoacknfoaaGreatDoor
