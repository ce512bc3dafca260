/- The number that a value is: plain laws. -/
import Derived.Test.YtejbigoacknfoaaGreatDoorParsePure
import Derived.Lib.Bytealg
set_option linter.unusedSectionVars false
set_option linter.unusedSimpArgs false
set_option linter.unusedVariables false
namespace Go.Proofs.YtejbigoacknfoaaGreatDoor
open Go Go.RowKit
set_option linter.unusedVariables false
set_option maxRecDepth 100000
/-- the number of digits of a base: none of them all, or too great -/
def numB (base : Nat) (l : List UInt8) : Option Nat := if (puS base 1099511627775 l).2 = 0 then some (puS base 1099511627775 l).1 else none
/-- the value, digit by digit, until it is too great -/
def numG (base : Nat) : List UInt8 → Nat → Option Nat
  | [], n => some n
  | c :: l, n => if 1099511627776 ≤ n * base + digV c then none else numG base l (n * base + digV c)
theorem numG_puG (base : Nat) (l : List UInt8) (n : Nat) (h : (l.all fun c => decide (digV c < base)) = true) :
    numG base l n = if (puG base 1099511627775 l n).2 = 0 then some (puG base 1099511627775 l n).1 else none := by
  induction l generalizing n with
  | nil => rfl
  | cons c l ih =>
    rw [List.all_cons, Bool.and_eq_true] at h
    have h1 : ¬ base ≤ digV c := by have := of_decide_eq_true h.1; omega
    rw [numG, puG, if_neg h1]
    by_cases h2 : 1099511627776 ≤ n * base + digV c
    · rw [if_pos h2, if_pos (show 1099511627775 < n * base + digV c by omega)]; rfl
    · rw [if_neg h2, if_neg (show ¬ 1099511627775 < n * base + digV c by omega)]
      exact ih _ h.2
theorem numB_digits (base : Nat) (l : List UInt8) (h : (l.all fun c => decide (digV c < base)) = true) (hne : l ≠ []) : numB base l = numG base l 0 := by
  rw [numG_puG base l 0 h]
  unfold numB puS
  rw [if_neg hne]
theorem puG_not (base M : Nat) (l : List UInt8) (n : Nat) (h : (l.all fun c => decide (digV c < base)) = false) : (puG base M l n).2 ≠ 0 := by
  induction l generalizing n with
  | nil => cases h
  | cons c l ih =>
    rw [puG]
    by_cases h1 : base ≤ digV c
    · rw [if_pos h1]; simp
    · rw [if_neg h1]
      split
      · simp
      · refine ih _ ?_
        rw [List.all_cons, decide_eq_true (by omega), Bool.true_and] at h
        exact h
theorem numB_not (base : Nat) (l : List UInt8) (h : (l.all fun c => decide (digV c < base)) = false) : numB base l = none := by
  unfold numB puS
  by_cases hl : l = []
  · rw [if_pos hl]; rfl
  · rw [if_neg hl, if_neg (puG_not base _ l 0 h)]
theorem numB_nil (base : Nat) : numB base [] = none := rfl
/-- what a value is -/
def numL (l : List UInt8) : Option Nat :=
  if l.take 2 = [48, 120] then numB 16 (l.drop 2) else if l ≠ [48] ∧ l[0]? = some 48 then none else numB 10 l
theorem numG_le (base : Nat) (l : List UInt8) (n x : Nat) (hn : n ≤ 1099511627775) (h : numG base l n = some x) : x ≤ 1099511627775 := by
  induction l generalizing n with
  | nil => cases h; exact hn
  | cons c l ih =>
    rw [numG] at h
    split at h
    · cases h
    · exact ih _ (by omega) h
theorem puS_le (base max : Nat) (l : List UInt8) : (puS base max l).1 ≤ max := by
  unfold puS
  split
  · exact Nat.zero_le _
  · exact puG_le _ _ _ _ (Nat.zero_le _)
theorem numB_le (base : Nat) (l : List UInt8) (x : Nat) (h : numB base l = some x) : x ≤ 1099511627775 := by
  unfold numB at h
  by_cases hz : (puS base 1099511627775 l).2 = 0
  · rw [if_pos hz] at h
    rw [← Option.some.inj h]
    exact puS_le _ _ _
  · rw [if_neg hz] at h; cases h
theorem numL_le (l : List UInt8) (x : Nat) (h : numL l = some x) : x ≤ 1099511627775 := by
  unfold numL at h
  split at h
  · exact numB_le _ _ _ h
  · split at h
    · cases h
    · exact numB_le _ _ _ h
def dec10 : List UInt8 := [48, 49, 50, 51, 52, 53, 54, 55, 56, 57]
def low16 : List UInt8 := dec10 ++ [97, 98, 99, 100, 101, 102]
def hex16 : List UInt8 := low16 ++ [65, 66, 67, 68, 69, 70]
def lowA (c : UInt8) : UInt8 := if 65 ≤ c.toNat ∧ c.toNat ≤ 90 then UInt8.ofNat (c.toNat + 32) else c
theorem u8_all (p : UInt8 → Prop) (h : ∀ n : Fin 256, p (UInt8.ofNat n.val)) (c : UInt8) : p c := by
  have := h ⟨c.toNat, c.toNat_lt⟩
  simpa using this
theorem dec_digit (c : UInt8) : decide (Lib.indexByte dec10 c < 0) = !decide (digV c < 10) := u8_all (fun c => decide (Lib.indexByte dec10 c < 0) = !decide (digV c < 10)) (by decide +kernel) c
theorem hex_digit (c : UInt8) : decide (Lib.indexByte hex16 c < 0) = !decide (digV c < 16) := u8_all (fun c => decide (Lib.indexByte hex16 c < 0) = !decide (digV c < 16)) (by decide +kernel) c
theorem low_digit (c : UInt8) : digV c < 16 → Lib.indexByte low16 (lowA c) = (digV c : Nat) ∧ c.toNat < 128 := u8_all (fun c => digV c < 16 → Lib.indexByte low16 (lowA c) = (digV c : Nat) ∧ c.toNat < 128) (by decide +kernel) c
theorem digit_plain (c : UInt8) : digV c < 16 → ¬ c = 95 ∧ ¬ c = 43 ∧ ¬ c = 45 := u8_all (fun c => digV c < 16 → ¬ c = 95 ∧ ¬ c = 43 ∧ ¬ c = 45) (by decide +kernel) c
/-- the number that a value is, between two: and what is wrong -/
def numeP (l : List UInt8) (low high : Int) : Int × Nat :=
  match numL l with
  | none => (0, 3)
  | some n => if (n : Int) < low ∨ high < (n : Int) then (0, 2) else (n, 0)
end Go.Proofs.YtejbigoacknfoaaGreatDoor
