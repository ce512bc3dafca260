/- The number that a value is: plain laws. -/
import Derived.Test.YtfeenkofnbefaaaGreatDoorParsePure
import Derived.Lib.Bytealg
import Derived.Lib.IndexMore
import Derived.Lib.ItoaNum
set_option linter.unusedSectionVars false
set_option linter.unusedSimpArgs false
set_option linter.unusedVariables false
namespace Go.Proofs.YtfeenkofnbefaaaGreatDoor
open Go Go.RowKit
set_option linter.unusedVariables false
set_option maxRecDepth 100000
/-- the number of digits of a base: none of them all, or too great -/
def numB (base : Nat) (l : List UInt8) : Option Nat := if (puS base 1099511627775 l).2 = 0 then some (puS base 1099511627775 l).1 else none
/-- the value, digit by digit, until it is too great -/
def numG (base : Nat) : List UInt8 → Nat → Option Nat
  | [], n => some n
  | c :: l, n => if 1099511627776 ≤ n * base + digV c then none else numG base l (n * base + digV c)
theorem numG_puG (base : Nat) (l : List UInt8) (n : Nat) (h : (l.all fun c => decide (digV c < base)) = true) :
    numG base l n = if (puG base 1099511627775 l n).2 = 0 then some (puG base 1099511627775 l n).1 else none := by
  induction l generalizing n with
  | nil => rfl
  | cons c l ih =>
    rw [List.all_cons, Bool.and_eq_true] at h
    have h1 : ¬ base ≤ digV c := by have := of_decide_eq_true h.1; omega
    rw [numG, puG, if_neg h1]
    by_cases h2 : 1099511627776 ≤ n * base + digV c
    · rw [if_pos h2, if_pos (show 1099511627775 < n * base + digV c by omega)]; rfl
    · rw [if_neg h2, if_neg (show ¬ 1099511627775 < n * base + digV c by omega)]
      exact ih _ h.2
theorem numB_digits (base : Nat) (l : List UInt8) (h : (l.all fun c => decide (digV c < base)) = true) (hne : l ≠ []) : numB base l = numG base l 0 := by
  rw [numG_puG base l 0 h]
  unfold numB puS
  rw [if_neg hne]
theorem puG_not (base M : Nat) (l : List UInt8) (n : Nat) (h : (l.all fun c => decide (digV c < base)) = false) : (puG base M l n).2 ≠ 0 := by
  induction l generalizing n with
  | nil => cases h
  | cons c l ih =>
    rw [puG]
    by_cases h1 : base ≤ digV c
    · rw [if_pos h1]; simp
    · rw [if_neg h1]
      split
      · simp
      · refine ih _ ?_
        rw [List.all_cons, decide_eq_true (by omega), Bool.true_and] at h
        exact h
theorem numB_not (base : Nat) (l : List UInt8) (h : (l.all fun c => decide (digV c < base)) = false) : numB base l = none := by
  unfold numB puS
  by_cases hl : l = []
  · rw [if_pos hl]; rfl
  · rw [if_neg hl, if_neg (puG_not base _ l 0 h)]
theorem numB_nil (base : Nat) : numB base [] = none := rfl
/-- what a value is -/
def numL (l : List UInt8) : Option Nat :=
  if l.take 2 = [48, 120] then numB 16 (l.drop 2) else if l ≠ [48] ∧ l[0]? = some 48 then none else numB 10 l
theorem numG_le (base : Nat) (l : List UInt8) (n x : Nat) (hn : n ≤ 1099511627775) (h : numG base l n = some x) : x ≤ 1099511627775 := by
  induction l generalizing n with
  | nil => cases h; exact hn
  | cons c l ih =>
    rw [numG] at h
    split at h
    · cases h
    · exact ih _ (by omega) h
theorem puS_le (base max : Nat) (l : List UInt8) : (puS base max l).1 ≤ max := by
  unfold puS
  split
  · exact Nat.zero_le _
  · exact puG_le _ _ _ _ (Nat.zero_le _)
theorem numB_le (base : Nat) (l : List UInt8) (x : Nat) (h : numB base l = some x) : x ≤ 1099511627775 := by
  unfold numB at h
  by_cases hz : (puS base 1099511627775 l).2 = 0
  · rw [if_pos hz] at h
    rw [← Option.some.inj h]
    exact puS_le _ _ _
  · rw [if_neg hz] at h; cases h
theorem numL_le (l : List UInt8) (x : Nat) (h : numL l = some x) : x ≤ 1099511627775 := by
  unfold numL at h
  split at h
  · exact numB_le _ _ _ h
  · split at h
    · cases h
    · exact numB_le _ _ _ h
def dec10 : List UInt8 := [48, 49, 50, 51, 52, 53, 54, 55, 56, 57]
def low16 : List UInt8 := dec10 ++ [97, 98, 99, 100, 101, 102]
def hex16 : List UInt8 := low16 ++ [65, 66, 67, 68, 69, 70]
def lowA (c : UInt8) : UInt8 := if 65 ≤ c.toNat ∧ c.toNat ≤ 90 then UInt8.ofNat (c.toNat + 32) else c
theorem u8_all (p : UInt8 → Prop) (h : ∀ n : Fin 256, p (UInt8.ofNat n.val)) (c : UInt8) : p c := by
  have := h ⟨c.toNat, c.toNat_lt⟩
  simpa using this
theorem dec_digit (c : UInt8) : decide (Lib.indexByte dec10 c < 0) = !decide (digV c < 10) := u8_all (fun c => decide (Lib.indexByte dec10 c < 0) = !decide (digV c < 10)) (by decide +kernel) c
theorem hex_digit (c : UInt8) : decide (Lib.indexByte hex16 c < 0) = !decide (digV c < 16) := u8_all (fun c => decide (Lib.indexByte hex16 c < 0) = !decide (digV c < 16)) (by decide +kernel) c
theorem low_digit (c : UInt8) : digV c < 16 → Lib.indexByte low16 (lowA c) = (digV c : Nat) ∧ c.toNat < 128 := u8_all (fun c => digV c < 16 → Lib.indexByte low16 (lowA c) = (digV c : Nat) ∧ c.toNat < 128) (by decide +kernel) c
theorem digit_plain (c : UInt8) : digV c < 16 → ¬ c = 95 ∧ ¬ c = 43 ∧ ¬ c = 45 := u8_all (fun c => digV c < 16 → ¬ c = 95 ∧ ¬ c = 43 ∧ ¬ c = 45) (by decide +kernel) c
/-- the number that a value is, between two: and what is wrong -/
def numeP (l : List UInt8) (low high : Int) : Int × Nat :=
  match numL l with
  | none => (0, 3)
  | some n => if (n : Int) < low ∨ high < (n : Int) then (0, 2) else (n, 0)
end Go.Proofs.YtfeenkofnbefaaaGreatDoor

namespace Go.Proofs.YtfeenkofnbefaaaGreatDoor
open Go
set_option linter.unusedVariables false
/-- the words are right: none empty, none twice -/
def okW : List (List UInt8) → List (List UInt8) → Bool
  | _, [] => true
  | seen, x :: l => !(x == []) && !(seen.contains x) && okW (x :: seen) l
/-- the words of a value, and what is wrong -/
def listP (s : List UInt8) : List (List UInt8) × Nat := if okW [] (splitL 44 s) = true then (splitL 44 s, 0) else ([], 3)
theorem okW_step (seen l : List (List UInt8)) (k : Nat) (x : List UInt8) (h : l[k]? = some x) : okW seen (l.drop k) = (!(x == []) && !(seen.contains x) && okW (x :: seen) (l.drop (k + 1))) := by
  obtain ⟨h1, h2⟩ := List.getElem?_eq_some_iff.1 h
  rw [List.drop_eq_getElem_cons h1, h2, okW]
theorem okW_end (seen l : List (List UInt8)) (k : Nat) (h : l.length ≤ k) : okW seen (l.drop k) = true := by
  rw [List.drop_eq_nil_of_le h, okW]
theorem okW_congr (a b l : List (List UInt8)) (h : ∀ x, a.contains x = b.contains x) : okW a l = okW b l := by
  induction l generalizing a b with
  | nil => rfl
  | cons x l ih =>
    rw [okW, okW, h x, ih (x :: a) (x :: b) fun y => by simp only [List.contains_cons, h y]]
/-- the state behind k words: those ahead are right -/
theorem okW_at (l : List (List UInt8)) (k : Nat) (hk : k ≤ l.length) (seen : List (List UInt8)) (x : List UInt8) (hx : l[k]? = some x) (hs : ∀ y, seen.contains y = (l.take k).contains y) :
    okW seen (l.drop k) = (!(x == []) && !((l.take k).contains x) && okW (x :: seen) (l.drop (k + 1))) := by
  rw [okW_step seen l k x hx, hs x]
theorem seen_next (l : List (List UInt8)) (k : Nat) (seen : List (List UInt8)) (x : List UInt8) (hx : l[k]? = some x) (hs : ∀ y, seen.contains y = (l.take k).contains y) : ∀ y, (x :: seen).contains y = (l.take (k + 1)).contains y := by
  intro y
  obtain ⟨h1, h2⟩ := List.getElem?_eq_some_iff.1 hx
  rw [List.take_succ_eq_append_getElem h1, h2]
  rw [List.contains_cons, hs y]
  simp only [List.contains_eq_mem, List.mem_append, List.mem_singleton]
  rw [Bool.eq_iff_iff]
  simp
  constructor
  · rintro (h | h)
    · exact .inr h
    · exact .inl h
  · rintro (h | h)
    · exact .inr h
    · exact .inl h
end Go.Proofs.YtfeenkofnbefaaaGreatDoor

namespace Go.Proofs.YtfeenkofnbefaaaGreatDoor
open Go
set_option linter.unusedVariables false
/-- a text without a byte ahead of that byte -/
theorem ahead_of (c : UInt8) (p r a s : List UInt8) (hp : c ∉ p) (h : p ++ c :: r = a ++ c :: s) : ∃ a', a = p ++ a' ∧ a' ++ c :: s = c :: r := by
  induction p generalizing a with
  | nil => exact ⟨a, rfl, h.symm⟩
  | cons d p ih =>
    cases a with
    | nil =>
      have := (List.cons.inj h).1
      exact absurd (by simp [this]) hp
    | cons e a =>
      obtain ⟨h1, h2⟩ := List.cons.inj h
      obtain ⟨a', rfl, h3⟩ := ih a (fun hc => hp (by simp [hc])) h2
      exact ⟨a', by rw [h1]; rfl, h3⟩
theorem both_ahead (c : UInt8) (p r q s : List UInt8) (hp : c ∉ p) (hq : c ∉ q) (h : p ++ c :: r = q ++ c :: s) : p = q := by
  obtain ⟨a, rfl, h2⟩ := ahead_of c p r q s hp h
  cases a with
  | nil => simp
  | cons d a =>
    have := (List.cons.inj h2).1
    exact absurd (by simp [this]) hq
theorem occ_iff (s sub : List UInt8) : Lib.contains s sub = true ↔ ∃ a b, s = a ++ sub ++ b := by
  unfold Lib.contains
  rw [decide_eq_true_iff]
  constructor
  · intro h
    rcases Lib.index_spec s sub with ⟨h1, _⟩ | ⟨i, _, _, h3, _⟩
    · omega
    · obtain ⟨b, hb⟩ := List.isPrefixOf_iff_prefix.1 h3
      exact ⟨s.take i, b, by rw [List.append_assoc, hb, List.take_append_drop]⟩
  · rintro ⟨a, b, rfl⟩
    rcases Lib.index_spec (a ++ sub ++ b) sub with ⟨_, h2⟩ | ⟨i, h1, _⟩
    · have := h2 a.length (by simp)
      unfold Lib.occAt at this
      rw [List.append_assoc, List.drop_left] at this
      rw [List.isPrefixOf_iff_prefix.2 ⟨b, rfl⟩] at this
      cases this
    · omega
theorem word_in (c : UInt8) (x : List UInt8) (hx : c ∉ x) : ∀ (n : Nat) (l : List UInt8), l.length ≤ n → ((∃ a b, c :: (l ++ [c]) = a ++ (c :: (x ++ [c])) ++ b) ↔ x ∈ splitL c l) := by
  intro n
  induction n with
  | zero =>
    intro l hl
    have : l = [] := List.eq_nil_of_length_eq_zero (by omega)
    subst this
    have hs : splitL c [] = [[]] := rfl
    rw [hs]
    constructor
    · rintro ⟨a, b, h⟩
      have h2 := congrArg List.length h
      have : x.length = 0 := by simp at h2; omega
      simp [List.eq_nil_of_length_eq_zero this]
    · intro h
      have : x = [] := by simpa using h
      subst this
      exact ⟨[], [], by simp⟩
  | succ n ih =>
    intro l hl
    rcases idx_cases l c with ⟨_, hn⟩ | ⟨i, _, hi, h3, h4⟩
    · rw [splitL_none c l hn]
      constructor
      · rintro ⟨a, b, h⟩
        cases a with
        | nil =>
          have h2 := (List.cons.inj h).2
          have : l ++ c :: [] = x ++ c :: b := by simpa using h2
          simp [both_ahead c l [] x b hn hx this]
        | cons d a =>
          have h2 := (List.cons.inj h).2
          have h3 : l ++ c :: [] = a ++ c :: (x ++ [c] ++ b) := by simpa using h2
          obtain ⟨a', rfl, h4⟩ := ahead_of c l [] a _ hn h3
          have h5 := congrArg List.length h4
          simp at h5
          omega
      · intro h
        have : x = l := by simpa using h
        subst this
        exact ⟨[], [], by simp⟩
    · rw [splitL_idx c l i h3 h4]
      have hlen : (l.drop (i + 1)).length ≤ n := by simp; omega
      have ih' := ih (l.drop (i + 1)) hlen
      generalize l.take i = p at *
      generalize l.drop (i + 1) = r at *
      subst h3
      rw [List.mem_cons, ← ih']
      constructor
      · rintro ⟨a, b, h⟩
        cases a with
        | nil =>
          have h2 := (List.cons.inj h).2
          have : p ++ c :: (r ++ [c]) = x ++ c :: b := by simpa using h2
          exact .inl (both_ahead c p _ x b h4 hx this).symm
        | cons d a =>
          have h2 := (List.cons.inj h).2
          have h3 : p ++ c :: (r ++ [c]) = a ++ c :: (x ++ [c] ++ b) := by simpa using h2
          obtain ⟨a', rfl, h5⟩ := ahead_of c p _ a _ h4 h3
          exact .inr ⟨a', b, by rw [← h5]; simp⟩
      · rintro (rfl | ⟨a, b, h⟩)
        · exact ⟨[], r ++ [c], by simp⟩
        · refine ⟨c :: p ++ a, b, ?_⟩
          have : c :: ((p ++ c :: r) ++ [c]) = c :: p ++ (c :: (r ++ [c])) := by simp
          rw [this, h]; simp
theorem contains_word (own x : List UInt8) (hx : (44 : UInt8) ∉ x) : Lib.contains (44 :: (own ++ [44])) (44 :: (x ++ [44])) = (splitL 44 own).contains x := by
  rw [Bool.eq_iff_iff, occ_iff, word_in 44 x hx own.length own (Nat.le_refl _)]
  simp
theorem split_free (c : UInt8) : ∀ (n : Nat) (l : List UInt8), l.length ≤ n → ∀ x ∈ splitL c l, c ∉ x := by
  intro n
  induction n with
  | zero =>
    intro l hl x hx
    have : l = [] := List.eq_nil_of_length_eq_zero (by omega)
    subst this
    have : x = [] := by simpa [splitL] using hx
    subst this
    simp
  | succ n ih =>
    intro l hl x hx
    rcases idx_cases l c with ⟨_, hn⟩ | ⟨i, _, hi, h3, h4⟩
    · rw [splitL_none c l hn] at hx
      have : x = l := by simpa using hx
      subst this; exact hn
    · rw [splitL_idx c l i h3 h4, List.mem_cons] at hx
      rcases hx with rfl | hx
      · exact h4
      · exact ih _ (by simp; omega) x hx
def yesL : List UInt8 := [89, 101, 115]
def noL : List UInt8 := [78, 111]
def KR.kind (k : KR) : Nat := dnum k.lk
def fitsK (k : KR) (v : List UInt8) : Nat :=
  if k.kind = 1 ∨ k.kind = 2 then (if v = yesL ∨ v = noL then 0 else 3) else
  if k.kind = 3 ∨ k.kind = 4 ∨ k.kind = 7 then (numeP v (dnum k.ll) (dnum k.lh)).2 else
  if k.kind = 5 then (listP v).2 else if v = [] then 3 else 0
/-- what is wrong with a value of a key -/
def fitsP (name v : List UInt8) : Nat := match findK keyRows name with | none => 5 | some k => fitsK k v
def firstIn (has : List (List UInt8)) : List (List UInt8) → List UInt8 × Nat
  | [] => ([], 8)
  | x :: l => if has.contains x then (x, 0) else firstIn has l
theorem firstIn_step (has l : List (List UInt8)) (k : Nat) (x : List UInt8) (h : l[k]? = some x) : firstIn has (l.drop k) = if has.contains x then (x, 0) else firstIn has (l.drop (k + 1)) := by
  obtain ⟨h1, h2⟩ := List.getElem?_eq_some_iff.1 h
  rw [List.drop_eq_getElem_cons h1, h2, firstIn]
theorem firstIn_end (has l : List (List UInt8)) (k : Nat) (h : l.length ≤ k) : firstIn has (l.drop k) = ([], 8) := by
  rw [List.drop_eq_nil_of_le h, firstIn]
def numO (l : List UInt8) : Nat := (numL l).getD 0
def resK (k : KR) (offer own : List UInt8) : List UInt8 × Nat :=
  if k.kind = 1 then (if offer = yesL ∧ own = yesL then yesL else noL, 0) else
  if k.kind = 2 then (if offer = yesL ∨ own = yesL then yesL else noL, 0) else
  if k.kind = 3 then (Lib.itoa (min (numO offer : Int) (numO own : Int)), 0) else
  if k.kind = 4 then (Lib.itoa (max (numO offer : Int) (numO own : Int)), 0) else
  if k.kind = 5 then firstIn (splitL 44 own) (splitL 44 offer) else (offer, 0)
def resP (name offer own : List UInt8) : List UInt8 × Nat :=
  match findK keyRows name with
  | none => ([], 5)
  | some k => if fitsK k offer ≠ 0 then ([], fitsK k offer) else if fitsK k own ≠ 0 then ([], fitsK k own) else resK k offer own
end Go.Proofs.YtfeenkofnbefaaaGreatDoor
