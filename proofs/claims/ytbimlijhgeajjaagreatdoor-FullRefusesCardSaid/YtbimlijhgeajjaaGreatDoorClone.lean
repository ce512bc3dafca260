/- What is known of keys, as rows of words: plain laws. -/
import Derived.Test.YtbimlijhgeajjaaGreatDoorSplitPure
import Derived.Lib.Fields
import Derived.Lib.Atoi
import Derived.Test.YtbimlijhgeajjaaGreatDoorBase
import Derived.Lib.Bytealg
import Derived.Lib.IndexMore
import Derived.Lib.ItoaNum
set_option linter.unusedSectionVars false
set_option linter.unusedSimpArgs false
set_option linter.unusedVariables false
namespace Go.Proofs.YtbimlijhgeajjaaGreatDoor
open Go
set_option maxRecDepth 100000
/-- a row of seven words: a key's name, its kind, from where, to where, its default, two letters -/
structure KR where
  name : List UInt8
  lk : List UInt8
  ll : List UInt8
  lh : List UInt8
  dflt : List UInt8
  no : List UInt8
  lo : List UInt8
def KR.words (k : KR) : List (List UInt8) := [k.name, k.lk, k.ll, k.lh, k.dflt, k.no, k.lo]
def KR.text (k : KR) : List UInt8 := k.name ++ 32 :: k.lk ++ 32 :: k.ll ++ 32 :: k.lh ++ 32 :: k.dflt ++ 32 :: k.no ++ 32 :: k.lo
def dnum (l : List UInt8) : Nat := ((Lib.atoi l).getD 0).toNat
def KR.dv (k : KR) : List UInt8 := if k.dflt = [45] then [] else k.dflt
def keyRows : List KR := [
  ⟨[72, 101, 97, 100, 101, 114, 68, 105, 103, 101, 115, 116], [53], [48], [48], [78, 111, 110, 101], [45], [76]⟩,
  ⟨[68, 97, 116, 97, 68, 105, 103, 101, 115, 116], [53], [48], [48], [78, 111, 110, 101], [45], [76]⟩,
  ⟨[77, 97, 120, 67, 111, 110, 110, 101, 99, 116, 105, 111, 110, 115], [51], [49], [54, 53, 53, 51, 53], [49], [78], [76]⟩,
  ⟨[69, 114, 114, 111, 114, 82, 101, 99, 111, 118, 101, 114, 121, 76, 101, 118, 101, 108], [51], [48], [50], [48], [45], [76]⟩,
  ⟨[73, 110, 105, 116, 105, 97, 108, 82, 50, 84], [50], [48], [48], [89, 101, 115], [78], [76]⟩,
  ⟨[73, 109, 109, 101, 100, 105, 97, 116, 101, 68, 97, 116, 97], [49], [48], [48], [89, 101, 115], [78], [76]⟩,
  ⟨[77, 97, 120, 82, 101, 99, 118, 68, 97, 116, 97, 83, 101, 103, 109, 101, 110, 116, 76, 101, 110, 103, 116, 104], [55], [53, 49, 50], [49, 54, 55, 55, 55, 50, 49, 53], [56, 49, 57, 50], [45], [45]⟩,
  ⟨[77, 97, 120, 66, 117, 114, 115, 116, 76, 101, 110, 103, 116, 104], [51], [53, 49, 50], [49, 54, 55, 55, 55, 50, 49, 53], [50, 54, 50, 49, 52, 52], [78], [76]⟩,
  ⟨[70, 105, 114, 115, 116, 66, 117, 114, 115, 116, 76, 101, 110, 103, 116, 104], [51], [53, 49, 50], [49, 54, 55, 55, 55, 50, 49, 53], [54, 53, 53, 51, 54], [78], [76]⟩,
  ⟨[68, 101, 102, 97, 117, 108, 116, 84, 105, 109, 101, 50, 87, 97, 105, 116], [52], [48], [51, 54, 48, 48], [50], [45], [76]⟩,
  ⟨[68, 101, 102, 97, 117, 108, 116, 84, 105, 109, 101, 50, 82, 101, 116, 97, 105, 110], [51], [48], [51, 54, 48, 48], [50, 48], [45], [76]⟩,
  ⟨[77, 97, 120, 79, 117, 116, 115, 116, 97, 110, 100, 105, 110, 103, 82, 50, 84], [51], [49], [54, 53, 53, 51, 53], [49], [78], [76]⟩,
  ⟨[68, 97, 116, 97, 80, 68, 85, 73, 110, 79, 114, 100, 101, 114], [50], [48], [48], [89, 101, 115], [78], [76]⟩,
  ⟨[68, 97, 116, 97, 83, 101, 113, 117, 101, 110, 99, 101, 73, 110, 79, 114, 100, 101, 114], [50], [48], [48], [89, 101, 115], [78], [76]⟩,
  ⟨[73, 110, 105, 116, 105, 97, 116, 111, 114, 78, 97, 109, 101], [54], [48], [48], [45], [45], [76]⟩,
  ⟨[73, 110, 105, 116, 105, 97, 116, 111, 114, 65, 108, 105, 97, 115], [54], [48], [48], [45], [45], [45]⟩,
  ⟨[84, 97, 114, 103, 101, 116, 78, 97, 109, 101], [54], [48], [48], [45], [45], [76]⟩,
  ⟨[83, 101, 115, 115, 105, 111, 110, 84, 121, 112, 101], [54], [48], [48], [78, 111, 114, 109, 97, 108], [45], [76]⟩]
def keyText : List UInt8 := [72, 101, 97, 100, 101, 114, 68, 105, 103, 101, 115, 116, 32, 53, 32, 48, 32, 48, 32, 78, 111, 110, 101, 32, 45, 32, 76, 124, 68, 97, 116, 97, 68, 105, 103, 101, 115, 116, 32, 53, 32, 48, 32, 48, 32, 78, 111, 110, 101, 32, 45, 32, 76, 124, 77, 97, 120, 67, 111, 110, 110, 101, 99, 116, 105, 111, 110, 115, 32, 51, 32, 49, 32, 54, 53, 53, 51, 53, 32, 49, 32, 78, 32, 76, 124, 69, 114, 114, 111, 114, 82, 101, 99, 111, 118, 101, 114, 121, 76, 101, 118, 101, 108, 32, 51, 32, 48, 32, 50, 32, 48, 32, 45, 32, 76, 124, 73, 110, 105, 116, 105, 97, 108, 82, 50, 84, 32, 50, 32, 48, 32, 48, 32, 89, 101, 115, 32, 78, 32, 76, 124, 73, 109, 109, 101, 100, 105, 97, 116, 101, 68, 97, 116, 97, 32, 49, 32, 48, 32, 48, 32, 89, 101, 115, 32, 78, 32, 76, 124, 77, 97, 120, 82, 101, 99, 118, 68, 97, 116, 97, 83, 101, 103, 109, 101, 110, 116, 76, 101, 110, 103, 116, 104, 32, 55, 32, 53, 49, 50, 32, 49, 54, 55, 55, 55, 50, 49, 53, 32, 56, 49, 57, 50, 32, 45, 32, 45, 124, 77, 97, 120, 66, 117, 114, 115, 116, 76, 101, 110, 103, 116, 104, 32, 51, 32, 53, 49, 50, 32, 49, 54, 55, 55, 55, 50, 49, 53, 32, 50, 54, 50, 49, 52, 52, 32, 78, 32, 76, 124, 70, 105, 114, 115, 116, 66, 117, 114, 115, 116, 76, 101, 110, 103, 116, 104, 32, 51, 32, 53, 49, 50, 32, 49, 54, 55, 55, 55, 50, 49, 53, 32, 54, 53, 53, 51, 54, 32, 78, 32, 76, 124, 68, 101, 102, 97, 117, 108, 116, 84, 105, 109, 101, 50, 87, 97, 105, 116, 32, 52, 32, 48, 32, 51, 54, 48, 48, 32, 50, 32, 45, 32, 76, 124, 68, 101, 102, 97, 117, 108, 116, 84, 105, 109, 101, 50, 82, 101, 116, 97, 105, 110, 32, 51, 32, 48, 32, 51, 54, 48, 48, 32, 50, 48, 32, 45, 32, 76, 124, 77, 97, 120, 79, 117, 116, 115, 116, 97, 110, 100, 105, 110, 103, 82, 50, 84, 32, 51, 32, 49, 32, 54, 53, 53, 51, 53, 32, 49, 32, 78, 32, 76, 124, 68, 97, 116, 97, 80, 68, 85, 73, 110, 79, 114, 100, 101, 114, 32, 50, 32, 48, 32, 48, 32, 89, 101, 115, 32, 78, 32, 76, 124, 68, 97, 116, 97, 83, 101, 113, 117, 101, 110, 99, 101, 73, 110, 79, 114, 100, 101, 114, 32, 50, 32, 48, 32, 48, 32, 89, 101, 115, 32, 78, 32, 76, 124, 73, 110, 105, 116, 105, 97, 116, 111, 114, 78, 97, 109, 101, 32, 54, 32, 48, 32, 48, 32, 45, 32, 45, 32, 76, 124, 73, 110, 105, 116, 105, 97, 116, 111, 114, 65, 108, 105, 97, 115, 32, 54, 32, 48, 32, 48, 32, 45, 32, 45, 32, 45, 124, 84, 97, 114, 103, 101, 116, 78, 97, 109, 101, 32, 54, 32, 48, 32, 48, 32, 45, 32, 45, 32, 76, 124, 83, 101, 115, 115, 105, 111, 110, 84, 121, 112, 101, 32, 54, 32, 48, 32, 48, 32, 78, 111, 114, 109, 97, 108, 32, 45, 32, 76]
theorem splitKeys : splitL 124 keyText = keyRows.map KR.text := by decide +kernel
def KR.fine (k : KR) : Bool :=
  decide (Lib.fields k.text = k.words) && k.text.all (fun b => decide (b.toNat < 128)) && decide (k.text.length < 1000) &&
  decide (Lib.atoi k.lk = some (dnum k.lk : Int)) && decide (Lib.atoi k.ll = some (dnum k.ll : Int)) && decide (Lib.atoi k.lh = some (dnum k.lh : Int)) &&
  decide (k.lk.length ≤ 18) && decide (k.ll.length ≤ 18) && decide (k.lh.length ≤ 18) && decide (splitL 32 k.text = k.words) &&
  decide (dnum k.lk < 8) && decide (dnum k.ll < 16777216) && decide (dnum k.lh < 16777216)
theorem keys_fine : keyRows.all KR.fine = true := by decide +kernel
theorem key_fine (k : KR) (h : k ∈ keyRows) : Lib.fields k.text = k.words ∧ (∀ b ∈ k.text, b.toNat < 128) ∧ k.text.length < 1000 ∧
    Lib.atoi k.lk = some (dnum k.lk : Int) ∧ Lib.atoi k.ll = some (dnum k.ll : Int) ∧ Lib.atoi k.lh = some (dnum k.lh : Int) ∧
    k.lk.length ≤ 18 ∧ k.ll.length ≤ 18 ∧ k.lh.length ≤ 18 ∧ splitL 32 k.text = k.words ∧ dnum k.lk < 8 ∧ dnum k.ll < 16777216 ∧ dnum k.lh < 16777216 := by
  have := List.all_eq_true.1 keys_fine k h
  simpa [KR.fine, and_assoc] using this
/-- what is known of a key -/
def findK (l : List KR) (name : List UInt8) : Option KR := l.find? fun k => k.name == name
end Go.Proofs.YtbimlijhgeajjaaGreatDoor

namespace Go.Proofs.YtbimlijhgeajjaaGreatDoor
open Go Go.RowKit
set_option linter.unusedVariables false
/-- a letter's small one -/
def lowV (c : UInt8) : Nat := c.toNat ||| 32
/-- a digit's value; 255: it is none -/
def digV (c : UInt8) : Nat := if 48 ≤ c.toNat ∧ c.toNat ≤ 57 then c.toNat - 48 else if 97 ≤ lowV c ∧ lowV c ≤ 122 then lowV c - 87 else 255
/-- the number, and what is wrong: 2 a byte that is no digit, 1 too great -/
def puG (base max : Nat) : List UInt8 → Nat → Nat × Nat
  | [], n => (n, 0)
  | c :: l, n => if base ≤ digV c then (0, 2) else if max < n * base + digV c then (max, 1) else puG base max l (n * base + digV c)
def puS (base max : Nat) (l : List UInt8) : Nat × Nat := if l = [] then (0, 2) else puG base max l 0
theorem low_bits : ∀ n : Fin 256, bits .or .u8 ((n.val : Nat) : Int) 32 = ((n.val ||| 32 : Nat) : Int) := by decide +kernel
theorem low_u8 (c : UInt8) : bits .or .u8 (c.toNat : Int) 32 = (lowV c : Nat) := low_bits ⟨c.toNat, c.toNat_lt⟩
theorem low_lt (c : UInt8) : lowV c < 256 := Nat.or_lt_two_pow (n := 8) c.toNat_lt (by omega)
theorem puG_step (base max : Nat) (l : List UInt8) (k n : Nat) (c : UInt8) (h : l[k]? = some c) :
    puG base max (l.drop k) n = if base ≤ digV c then (0, 2) else if max < n * base + digV c then (max, 1) else puG base max (l.drop (k + 1)) (n * base + digV c) := by
  obtain ⟨h1, h2⟩ := List.getElem?_eq_some_iff.1 h
  rw [List.drop_eq_getElem_cons h1, h2, puG]
theorem puG_end (base max : Nat) (l : List UInt8) (k n : Nat) (h : l.length ≤ k) : puG base max (l.drop k) n = (n, 0) := by
  rw [List.drop_eq_nil_of_le h, puG]
theorem puG_le (base max : Nat) (l : List UInt8) (n : Nat) (h : n ≤ max) : (puG base max l n).1 ≤ max := by
  induction l generalizing n with
  | nil => exact h
  | cons c l ih =>
    rw [puG]
    split
    · simp
    · split
      · simp
      · exact ih _ (by omega)
/-- the value of digits of a base -/
def valB (base : Nat) (l : List UInt8) (n : Nat) : Nat := l.foldl (fun n c => n * base + digV c) n
theorem valB_mono (base : Nat) (hb : 1 ≤ base) (l : List UInt8) (n : Nat) : n ≤ valB base l n := by
  induction l generalizing n with
  | nil => exact Nat.le_refl _
  | cons c l ih =>
    refine Nat.le_trans ?_ (ih (n * base + digV c))
    have : n * 1 ≤ n * base := Nat.mul_le_mul_left n hb
    omega
/-- it has a number if all are digits and the value isn't too great -/
theorem puG_all (base max : Nat) (hb : 1 ≤ base) (l : List UInt8) (n : Nat) (hn : n ≤ max) : puG base max l n = (valB base l n, 0) ∧ (l.all fun c => decide (digV c < base)) = true ∧ valB base l n ≤ max ∨
    (puG base max l n).2 ≠ 0 ∧ ((l.all fun c => decide (digV c < base)) = false ∨ max < valB base l n) := by
  induction l generalizing n with
  | nil => exact .inl ⟨rfl, rfl, hn⟩
  | cons c l ih =>
    rw [puG]
    by_cases h1 : base ≤ digV c
    · rw [if_pos h1]
      exact .inr ⟨by simp, .inl (by simp; omega)⟩
    · rw [if_neg h1]
      by_cases h2 : max < n * base + digV c
      · rw [if_pos h2]
        have := valB_mono base hb l (n * base + digV c)
        exact .inr ⟨by simp, .inr (Nat.lt_of_lt_of_le h2 this)⟩
      · rw [if_neg h2]
        have hd : decide (digV c < base) = true := decide_eq_true (by omega)
        rcases ih (n * base + digV c) (by omega) with ⟨h3, h4, h5⟩ | ⟨h3, h4⟩
        · exact .inl ⟨h3, by rw [List.all_cons, hd, h4]; rfl, h5⟩
        · refine .inr ⟨h3, ?_⟩
          rcases h4 with h4 | h4
          · exact .inl (by rw [List.all_cons, hd, h4]; rfl)
          · exact .inr h4
end Go.Proofs.YtbimlijhgeajjaaGreatDoor

namespace Go.Proofs.YtbimlijhgeajjaaGreatDoor
open Go Go.RowKit
set_option linter.unusedVariables false
set_option maxRecDepth 100000
/-- the number of digits of a base: none of them all, or too great -/
def numB (base : Nat) (l : List UInt8) : Option Nat := if (puS base 1099511627775 l).2 = 0 then some (puS base 1099511627775 l).1 else none
/-- the value, digit by digit, until it is too great -/
def numG (base : Nat) : List UInt8 → Nat → Option Nat
  | [], n => some n
  | c :: l, n => if 1099511627776 ≤ n * base + digV c then none else numG base l (n * base + digV c)
theorem numG_puG (base : Nat) (l : List UInt8) (n : Nat) (h : (l.all fun c => decide (digV c < base)) = true) :
    numG base l n = if (puG base 1099511627775 l n).2 = 0 then some (puG base 1099511627775 l n).1 else none := by
  induction l generalizing n with
  | nil => rfl
  | cons c l ih =>
    rw [List.all_cons, Bool.and_eq_true] at h
    have h1 : ¬ base ≤ digV c := by have := of_decide_eq_true h.1; omega
    rw [numG, puG, if_neg h1]
    by_cases h2 : 1099511627776 ≤ n * base + digV c
    · rw [if_pos h2, if_pos (show 1099511627775 < n * base + digV c by omega)]; rfl
    · rw [if_neg h2, if_neg (show ¬ 1099511627775 < n * base + digV c by omega)]
      exact ih _ h.2
theorem numB_digits (base : Nat) (l : List UInt8) (h : (l.all fun c => decide (digV c < base)) = true) (hne : l ≠ []) : numB base l = numG base l 0 := by
  rw [numG_puG base l 0 h]
  unfold numB puS
  rw [if_neg hne]
theorem puG_not (base M : Nat) (l : List UInt8) (n : Nat) (h : (l.all fun c => decide (digV c < base)) = false) : (puG base M l n).2 ≠ 0 := by
  induction l generalizing n with
  | nil => cases h
  | cons c l ih =>
    rw [puG]
    by_cases h1 : base ≤ digV c
    · rw [if_pos h1]; simp
    · rw [if_neg h1]
      split
      · simp
      · refine ih _ ?_
        rw [List.all_cons, decide_eq_true (by omega), Bool.true_and] at h
        exact h
theorem numB_not (base : Nat) (l : List UInt8) (h : (l.all fun c => decide (digV c < base)) = false) : numB base l = none := by
  unfold numB puS
  by_cases hl : l = []
  · rw [if_pos hl]; rfl
  · rw [if_neg hl, if_neg (puG_not base _ l 0 h)]
theorem numB_nil (base : Nat) : numB base [] = none := rfl
/-- what a value is -/
def numL (l : List UInt8) : Option Nat :=
  if l.take 2 = [48, 120] then numB 16 (l.drop 2) else if l ≠ [48] ∧ l[0]? = some 48 then none else numB 10 l
theorem numG_le (base : Nat) (l : List UInt8) (n x : Nat) (hn : n ≤ 1099511627775) (h : numG base l n = some x) : x ≤ 1099511627775 := by
  induction l generalizing n with
  | nil => cases h; exact hn
  | cons c l ih =>
    rw [numG] at h
    split at h
    · cases h
    · exact ih _ (by omega) h
theorem puS_le (base max : Nat) (l : List UInt8) : (puS base max l).1 ≤ max := by
  unfold puS
  split
  · exact Nat.zero_le _
  · exact puG_le _ _ _ _ (Nat.zero_le _)
theorem numB_le (base : Nat) (l : List UInt8) (x : Nat) (h : numB base l = some x) : x ≤ 1099511627775 := by
  unfold numB at h
  by_cases hz : (puS base 1099511627775 l).2 = 0
  · rw [if_pos hz] at h
    rw [← Option.some.inj h]
    exact puS_le _ _ _
  · rw [if_neg hz] at h; cases h
theorem numL_le (l : List UInt8) (x : Nat) (h : numL l = some x) : x ≤ 1099511627775 := by
  unfold numL at h
  split at h
  · exact numB_le _ _ _ h
  · split at h
    · cases h
    · exact numB_le _ _ _ h
def dec10 : List UInt8 := [48, 49, 50, 51, 52, 53, 54, 55, 56, 57]
def low16 : List UInt8 := dec10 ++ [97, 98, 99, 100, 101, 102]
def hex16 : List UInt8 := low16 ++ [65, 66, 67, 68, 69, 70]
def lowA (c : UInt8) : UInt8 := if 65 ≤ c.toNat ∧ c.toNat ≤ 90 then UInt8.ofNat (c.toNat + 32) else c
theorem u8_all (p : UInt8 → Prop) (h : ∀ n : Fin 256, p (UInt8.ofNat n.val)) (c : UInt8) : p c := by
  have := h ⟨c.toNat, c.toNat_lt⟩
  simpa using this
theorem dec_digit (c : UInt8) : decide (Lib.indexByte dec10 c < 0) = !decide (digV c < 10) := u8_all (fun c => decide (Lib.indexByte dec10 c < 0) = !decide (digV c < 10)) (by decide +kernel) c
theorem hex_digit (c : UInt8) : decide (Lib.indexByte hex16 c < 0) = !decide (digV c < 16) := u8_all (fun c => decide (Lib.indexByte hex16 c < 0) = !decide (digV c < 16)) (by decide +kernel) c
theorem low_digit (c : UInt8) : digV c < 16 → Lib.indexByte low16 (lowA c) = (digV c : Nat) ∧ c.toNat < 128 := u8_all (fun c => digV c < 16 → Lib.indexByte low16 (lowA c) = (digV c : Nat) ∧ c.toNat < 128) (by decide +kernel) c
theorem digit_plain (c : UInt8) : digV c < 16 → ¬ c = 95 ∧ ¬ c = 43 ∧ ¬ c = 45 := u8_all (fun c => digV c < 16 → ¬ c = 95 ∧ ¬ c = 43 ∧ ¬ c = 45) (by decide +kernel) c
/-- the number that a value is, between two: and what is wrong -/
def numeP (l : List UInt8) (low high : Int) : Int × Nat :=
  match numL l with
  | none => (0, 3)
  | some n => if (n : Int) < low ∨ high < (n : Int) then (0, 2) else (n, 0)
end Go.Proofs.YtbimlijhgeajjaaGreatDoor

namespace Go.Proofs.YtbimlijhgeajjaaGreatDoor
open Go
set_option linter.unusedVariables false
/-- the words are right: none empty, none twice -/
def okW : List (List UInt8) → List (List UInt8) → Bool
  | _, [] => true
  | seen, x :: l => !(x == []) && !(seen.contains x) && okW (x :: seen) l
/-- the words of a value, and what is wrong -/
def listP (s : List UInt8) : List (List UInt8) × Nat := if okW [] (splitL 44 s) = true then (splitL 44 s, 0) else ([], 3)
theorem okW_step (seen l : List (List UInt8)) (k : Nat) (x : List UInt8) (h : l[k]? = some x) : okW seen (l.drop k) = (!(x == []) && !(seen.contains x) && okW (x :: seen) (l.drop (k + 1))) := by
  obtain ⟨h1, h2⟩ := List.getElem?_eq_some_iff.1 h
  rw [List.drop_eq_getElem_cons h1, h2, okW]
theorem okW_end (seen l : List (List UInt8)) (k : Nat) (h : l.length ≤ k) : okW seen (l.drop k) = true := by
  rw [List.drop_eq_nil_of_le h, okW]
theorem okW_congr (a b l : List (List UInt8)) (h : ∀ x, a.contains x = b.contains x) : okW a l = okW b l := by
  induction l generalizing a b with
  | nil => rfl
  | cons x l ih =>
    rw [okW, okW, h x, ih (x :: a) (x :: b) fun y => by simp only [List.contains_cons, h y]]
/-- the state behind k words: those ahead are right -/
theorem okW_at (l : List (List UInt8)) (k : Nat) (hk : k ≤ l.length) (seen : List (List UInt8)) (x : List UInt8) (hx : l[k]? = some x) (hs : ∀ y, seen.contains y = (l.take k).contains y) :
    okW seen (l.drop k) = (!(x == []) && !((l.take k).contains x) && okW (x :: seen) (l.drop (k + 1))) := by
  rw [okW_step seen l k x hx, hs x]
theorem seen_next (l : List (List UInt8)) (k : Nat) (seen : List (List UInt8)) (x : List UInt8) (hx : l[k]? = some x) (hs : ∀ y, seen.contains y = (l.take k).contains y) : ∀ y, (x :: seen).contains y = (l.take (k + 1)).contains y := by
  intro y
  obtain ⟨h1, h2⟩ := List.getElem?_eq_some_iff.1 hx
  rw [List.take_succ_eq_append_getElem h1, h2]
  rw [List.contains_cons, hs y]
  simp only [List.contains_eq_mem, List.mem_append, List.mem_singleton]
  rw [Bool.eq_iff_iff]
  simp
  constructor
  · rintro (h | h)
    · exact .inr h
    · exact .inl h
  · rintro (h | h)
    · exact .inr h
    · exact .inl h
end Go.Proofs.YtbimlijhgeajjaaGreatDoor

namespace Go.Proofs.YtbimlijhgeajjaaGreatDoor
open Go
set_option linter.unusedVariables false
/-- a text without a byte ahead of that byte -/
theorem ahead_of (c : UInt8) (p r a s : List UInt8) (hp : c ∉ p) (h : p ++ c :: r = a ++ c :: s) : ∃ a', a = p ++ a' ∧ a' ++ c :: s = c :: r := by
  induction p generalizing a with
  | nil => exact ⟨a, rfl, h.symm⟩
  | cons d p ih =>
    cases a with
    | nil =>
      have := (List.cons.inj h).1
      exact absurd (by simp [this]) hp
    | cons e a =>
      obtain ⟨h1, h2⟩ := List.cons.inj h
      obtain ⟨a', rfl, h3⟩ := ih a (fun hc => hp (by simp [hc])) h2
      exact ⟨a', by rw [h1]; rfl, h3⟩
theorem both_ahead (c : UInt8) (p r q s : List UInt8) (hp : c ∉ p) (hq : c ∉ q) (h : p ++ c :: r = q ++ c :: s) : p = q := by
  obtain ⟨a, rfl, h2⟩ := ahead_of c p r q s hp h
  cases a with
  | nil => simp
  | cons d a =>
    have := (List.cons.inj h2).1
    exact absurd (by simp [this]) hq
theorem occ_iff (s sub : List UInt8) : Lib.contains s sub = true ↔ ∃ a b, s = a ++ sub ++ b := by
  unfold Lib.contains
  rw [decide_eq_true_iff]
  constructor
  · intro h
    rcases Lib.index_spec s sub with ⟨h1, _⟩ | ⟨i, _, _, h3, _⟩
    · omega
    · obtain ⟨b, hb⟩ := List.isPrefixOf_iff_prefix.1 h3
      exact ⟨s.take i, b, by rw [List.append_assoc, hb, List.take_append_drop]⟩
  · rintro ⟨a, b, rfl⟩
    rcases Lib.index_spec (a ++ sub ++ b) sub with ⟨_, h2⟩ | ⟨i, h1, _⟩
    · have := h2 a.length (by simp)
      unfold Lib.occAt at this
      rw [List.append_assoc, List.drop_left] at this
      rw [List.isPrefixOf_iff_prefix.2 ⟨b, rfl⟩] at this
      cases this
    · omega
theorem word_in (c : UInt8) (x : List UInt8) (hx : c ∉ x) : ∀ (n : Nat) (l : List UInt8), l.length ≤ n → ((∃ a b, c :: (l ++ [c]) = a ++ (c :: (x ++ [c])) ++ b) ↔ x ∈ splitL c l) := by
  intro n
  induction n with
  | zero =>
    intro l hl
    have : l = [] := List.eq_nil_of_length_eq_zero (by omega)
    subst this
    have hs : splitL c [] = [[]] := rfl
    rw [hs]
    constructor
    · rintro ⟨a, b, h⟩
      have h2 := congrArg List.length h
      have : x.length = 0 := by simp at h2; omega
      simp [List.eq_nil_of_length_eq_zero this]
    · intro h
      have : x = [] := by simpa using h
      subst this
      exact ⟨[], [], by simp⟩
  | succ n ih =>
    intro l hl
    rcases idx_cases l c with ⟨_, hn⟩ | ⟨i, _, hi, h3, h4⟩
    · rw [splitL_none c l hn]
      constructor
      · rintro ⟨a, b, h⟩
        cases a with
        | nil =>
          have h2 := (List.cons.inj h).2
          have : l ++ c :: [] = x ++ c :: b := by simpa using h2
          simp [both_ahead c l [] x b hn hx this]
        | cons d a =>
          have h2 := (List.cons.inj h).2
          have h3 : l ++ c :: [] = a ++ c :: (x ++ [c] ++ b) := by simpa using h2
          obtain ⟨a', rfl, h4⟩ := ahead_of c l [] a _ hn h3
          have h5 := congrArg List.length h4
          simp at h5
          omega
      · intro h
        have : x = l := by simpa using h
        subst this
        exact ⟨[], [], by simp⟩
    · rw [splitL_idx c l i h3 h4]
      have hlen : (l.drop (i + 1)).length ≤ n := by simp; omega
      have ih' := ih (l.drop (i + 1)) hlen
      generalize l.take i = p at *
      generalize l.drop (i + 1) = r at *
      subst h3
      rw [List.mem_cons, ← ih']
      constructor
      · rintro ⟨a, b, h⟩
        cases a with
        | nil =>
          have h2 := (List.cons.inj h).2
          have : p ++ c :: (r ++ [c]) = x ++ c :: b := by simpa using h2
          exact .inl (both_ahead c p _ x b h4 hx this).symm
        | cons d a =>
          have h2 := (List.cons.inj h).2
          have h3 : p ++ c :: (r ++ [c]) = a ++ c :: (x ++ [c] ++ b) := by simpa using h2
          obtain ⟨a', rfl, h5⟩ := ahead_of c p _ a _ h4 h3
          exact .inr ⟨a', b, by rw [← h5]; simp⟩
      · rintro (rfl | ⟨a, b, h⟩)
        · exact ⟨[], r ++ [c], by simp⟩
        · refine ⟨c :: p ++ a, b, ?_⟩
          have : c :: ((p ++ c :: r) ++ [c]) = c :: p ++ (c :: (r ++ [c])) := by simp
          rw [this, h]; simp
theorem contains_word (own x : List UInt8) (hx : (44 : UInt8) ∉ x) : Lib.contains (44 :: (own ++ [44])) (44 :: (x ++ [44])) = (splitL 44 own).contains x := by
  rw [Bool.eq_iff_iff, occ_iff, word_in 44 x hx own.length own (Nat.le_refl _)]
  simp
theorem split_free (c : UInt8) : ∀ (n : Nat) (l : List UInt8), l.length ≤ n → ∀ x ∈ splitL c l, c ∉ x := by
  intro n
  induction n with
  | zero =>
    intro l hl x hx
    have : l = [] := List.eq_nil_of_length_eq_zero (by omega)
    subst this
    have : x = [] := by simpa [splitL] using hx
    subst this
    simp
  | succ n ih =>
    intro l hl x hx
    rcases idx_cases l c with ⟨_, hn⟩ | ⟨i, _, hi, h3, h4⟩
    · rw [splitL_none c l hn] at hx
      have : x = l := by simpa using hx
      subst this; exact hn
    · rw [splitL_idx c l i h3 h4, List.mem_cons] at hx
      rcases hx with rfl | hx
      · exact h4
      · exact ih _ (by simp; omega) x hx
def yesL : List UInt8 := [89, 101, 115]
def noL : List UInt8 := [78, 111]
def KR.kind (k : KR) : Nat := dnum k.lk
def fitsK (k : KR) (v : List UInt8) : Nat :=
  if k.kind = 1 ∨ k.kind = 2 then (if v = yesL ∨ v = noL then 0 else 3) else
  if k.kind = 3 ∨ k.kind = 4 ∨ k.kind = 7 then (numeP v (dnum k.ll) (dnum k.lh)).2 else
  if k.kind = 5 then (listP v).2 else if v = [] then 3 else 0
/-- what is wrong with a value of a key -/
def fitsP (name v : List UInt8) : Nat := match findK keyRows name with | none => 5 | some k => fitsK k v
def firstIn (has : List (List UInt8)) : List (List UInt8) → List UInt8 × Nat
  | [] => ([], 8)
  | x :: l => if has.contains x then (x, 0) else firstIn has l
theorem firstIn_step (has l : List (List UInt8)) (k : Nat) (x : List UInt8) (h : l[k]? = some x) : firstIn has (l.drop k) = if has.contains x then (x, 0) else firstIn has (l.drop (k + 1)) := by
  obtain ⟨h1, h2⟩ := List.getElem?_eq_some_iff.1 h
  rw [List.drop_eq_getElem_cons h1, h2, firstIn]
theorem firstIn_end (has l : List (List UInt8)) (k : Nat) (h : l.length ≤ k) : firstIn has (l.drop k) = ([], 8) := by
  rw [List.drop_eq_nil_of_le h, firstIn]
def numO (l : List UInt8) : Nat := (numL l).getD 0
def resK (k : KR) (offer own : List UInt8) : List UInt8 × Nat :=
  if k.kind = 1 then (if offer = yesL ∧ own = yesL then yesL else noL, 0) else
  if k.kind = 2 then (if offer = yesL ∨ own = yesL then yesL else noL, 0) else
  if k.kind = 3 then (Lib.itoa (min (numO offer : Int) (numO own : Int)), 0) else
  if k.kind = 4 then (Lib.itoa (max (numO offer : Int) (numO own : Int)), 0) else
  if k.kind = 5 then firstIn (splitL 44 own) (splitL 44 offer) else (offer, 0)
def resP (name offer own : List UInt8) : List UInt8 × Nat :=
  match findK keyRows name with
  | none => ([], 5)
  | some k => if fitsK k offer ≠ 0 then ([], fitsK k offer) else if fitsK k own ≠ 0 then ([], fitsK k own) else resK k offer own
end Go.Proofs.YtbimlijhgeajjaaGreatDoor

namespace Go.Proofs.YtbimlijhgeajjaaGreatDoor
open Go Go.RowKit
set_option linter.unusedVariables false
set_option linter.unusedSectionVars false
set_option linter.unusedSimpArgs false
/-- what is wrong with a pair -/
def badK (l : PL) (k : Nat) : Nat := if (findP (l.take k) (l.getD k ([], [])).1).2 = true then 9 else fitsP (l.getD k ([], [])).1 (l.getD k ([], [])).2
def negoP (l : PL) : Nat × Int := if (pairsR l).1 ≠ 0 then pairsR l else match (List.range l.length).find? (fun k => decide (badK l k ≠ 0)) with | some k => (badK l k, (k : Int)) | none => (0, -1)
def GoodAhead (l : PL) (k : Nat) : Prop := ∀ j, j < k → badK l j = 0
theorem GoodAhead.step {l : PL} {k : Nat} (h : GoodAhead l k) (hk : badK l k = 0) : GoodAhead l (k + 1) := fun j hj => by
  rcases Nat.lt_or_ge j k with h' | h'
  · exact h j h'
  · obtain rfl : j = k := by omega
    exact hk
theorem negoP_pairs (l : PL) (h : (pairsR l).1 ≠ 0) : negoP l = pairsR l := if_pos h
theorem negoP_at (l : PL) (k : Nat) (h0 : (pairsR l).1 = 0) (hk : k < l.length) (hb : badK l k ≠ 0) (ha : GoodAhead l k) : negoP l = (badK l k, (k : Int)) := by
  unfold negoP
  rw [if_neg (by simp [h0])]
  have : (List.range l.length).find? (fun k => decide (badK l k ≠ 0)) = some k := by
    rw [List.find?_range_eq_some]
    refine ⟨by simpa using hb, by simpa using hk, fun j hj => ?_⟩
    simp [ha j hj]
  rw [this]
theorem negoP_good (l : PL) (h0 : (pairsR l).1 = 0) (ha : GoodAhead l l.length) : negoP l = (0, -1) := by
  unfold negoP
  rw [if_neg (by simp [h0])]
  have : (List.range l.length).find? (fun k => decide (badK l k ≠ 0)) = none := by
    rw [List.find?_eq_none]
    intro j hj
    rw [List.mem_range] at hj
    simp [ha j hj]
  rw [this]
end Go.Proofs.YtbimlijhgeajjaaGreatDoor

namespace Go.Proofs.YtbimlijhgeajjaaGreatDoor
open Go Go.RowKit
set_option linter.unusedVariables false
set_option linter.unusedSectionVars false
set_option linter.unusedSimpArgs false
set_option maxRecDepth 100000
theorem infoPr : (Tryz.prog.info? 83).map (fun i => (i.zero, i.size, i.bytes)) = some (some (.agg #[.string ⟨#[]⟩, .string ⟨#[]⟩]), 2, 32) := by kernel_rfl
theorem eqnilP (W : World) (a : Option Addr) (n c : Nat) : (binOp .eql 28 (.slice a n c) (.slice none 0 0)).run Tryz.prog W = .ok (.bool a.isNone) W := by
  cases a <;> rfl
set_option maxHeartbeats 4000000 in
theorem clone_any (v : Value) (l : PL) (w : World) (h : PSl w v l) (hn : l.length ≤ 1048576) :
    Calls Tryz.prog 34 #[v] w fun e w' => (∃ v', e = .returned v' ∧ w'.ownsRow w.heap.size 83 2 v' l.length (pairCells l)) ∧ Below w.heap.size w w' := by
  have hF := h
  obtain ⟨sa, sc, rfl, hcl, hcc⟩ := hF
  cases sa with
  | none =>
    have h0 : l.length = 0 := by
      rcases hcc with h | ⟨b, off, h, _⟩
      · exact h
      · cases h
    have hl : l = [] := List.length_eq_zero_iff.1 h0
    subst hl
    have he := fun W => eqnilP W none 0 sc
    simp only [Option.isNone] at he
    clear h hcc hcl
    go_enter Tryz.func34, Tryz.ntmps34
    go_wp2
    go_ret
    exact ⟨⟨_, rfl, by simpa [pairCells] using World.ownsRow_nil _ _ _ _⟩, Below.refl _ _⟩
  | some a =>
    have hown0 : (w.alloc (.cells #[] 83)).ownsRow w.heap.size 83 2 (.slice (some ⟨w.heap.size, 0, none⟩) 0 0) 0 [] :=
      ⟨rfl, .inr ⟨w.heap.size, 0, #[], rfl, Nat.le_refl _, heap_alloc_new _ _, Nat.le_refl _, by unfold maxLen; omega, rfl, rfl⟩⟩
    have hA := (Below.refl w.heap.size w).alloc (Nat.le_refl _) (.cells #[] 83)
    have hnews : ∀ j u, (pairCells l)[j]? = some u → (w.alloc (.cells #[] 83)).cell? (a.add j) = some u := by
      intro j u hu
      rcases hcc with h0 | ⟨b, off, ha, hc⟩
      · have : l = [] := List.length_eq_zero_iff.1 h0
        subst this
        simp [pairCells] at hu
      · cases ha
        rw [show (⟨b, off, none⟩ : Addr).add j = ⟨b, off + j, none⟩ by unfold Addr.add; split <;> simp_all]
        exact (hA.cell (p := ⟨b, off + j, none⟩) (block_lt_of_cell (hc j u hu))).trans (hc j u hu)
    have HO := hid hown0; have HN := hid hnews; have HA := hid hA
    have he := fun W => eqnilP W (some a) l.length sc
    simp only [Option.isNone] at he
    clear h hcc hcl hown0 hnews hA
    go_enter Tryz.func34, Tryz.ntmps34
    go_wp2_with (at_builtin; refine list_append_own rfl (.tmp 5) (.tmp 6) 28 rfl w.heap.size 83 (.agg #[.string ⟨#[]⟩, .string ⟨#[]⟩]) 2 32 Tryz.underlying28 infoPr rfl (by decide) _ 0 [] rfl HO.out a l.length sc (pairCells l) rfl (pairCells_length l) HN.out (pairCells_one l) (by unfold maxLen; omega) (by omega) (by simp) ?_; intro v' w' hown hgrow _)
    go_ret
    refine ⟨⟨_, rfl, by simpa using hown⟩, below_append HA.out HO.out hgrow (by simp)⟩
end Go.Proofs.YtbimlijhgeajjaaGreatDoor
