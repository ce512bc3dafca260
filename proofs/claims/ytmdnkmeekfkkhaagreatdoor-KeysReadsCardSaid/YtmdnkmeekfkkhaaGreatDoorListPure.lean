/- The words that a value is: plain laws. -/
import Derived.Test.YtmdnkmeekfkkhaaGreatDoorSplitPure
namespace Go.Proofs.YtmdnkmeekfkkhaaGreatDoor
open Go
set_option linter.unusedVariables false
/-- the words are right: none empty, none twice -/
def okW : List (List UInt8) → List (List UInt8) → Bool
  | _, [] => true
  | seen, x :: l => !(x == []) && !(seen.contains x) && okW (x :: seen) l
/-- the words of a value, and what is wrong -/
def listP (s : List UInt8) : List (List UInt8) × Nat := if okW [] (splitL 44 s) = true then (splitL 44 s, 0) else ([], 3)
theorem okW_step (seen l : List (List UInt8)) (k : Nat) (x : List UInt8) (h : l[k]? = some x) : okW seen (l.drop k) = (!(x == []) && !(seen.contains x) && okW (x :: seen) (l.drop (k + 1))) := by
  obtain ⟨h1, h2⟩ := List.getElem?_eq_some_iff.1 h
  rw [List.drop_eq_getElem_cons h1, h2, okW]
theorem okW_end (seen l : List (List UInt8)) (k : Nat) (h : l.length ≤ k) : okW seen (l.drop k) = true := by
  rw [List.drop_eq_nil_of_le h, okW]
theorem okW_congr (a b l : List (List UInt8)) (h : ∀ x, a.contains x = b.contains x) : okW a l = okW b l := by
  induction l generalizing a b with
  | nil => rfl
  | cons x l ih =>
    rw [okW, okW, h x, ih (x :: a) (x :: b) fun y => by simp only [List.contains_cons, h y]]
/-- the state behind k words: those ahead are right -/
theorem okW_at (l : List (List UInt8)) (k : Nat) (hk : k ≤ l.length) (seen : List (List UInt8)) (x : List UInt8) (hx : l[k]? = some x) (hs : ∀ y, seen.contains y = (l.take k).contains y) :
    okW seen (l.drop k) = (!(x == []) && !((l.take k).contains x) && okW (x :: seen) (l.drop (k + 1))) := by
  rw [okW_step seen l k x hx, hs x]
theorem seen_next (l : List (List UInt8)) (k : Nat) (seen : List (List UInt8)) (x : List UInt8) (hx : l[k]? = some x) (hs : ∀ y, seen.contains y = (l.take k).contains y) : ∀ y, (x :: seen).contains y = (l.take (k + 1)).contains y := by
  intro y
  obtain ⟨h1, h2⟩ := List.getElem?_eq_some_iff.1 hx
  rw [List.take_succ_eq_append_getElem h1, h2]
  rw [List.contains_cons, hs y]
  simp only [List.contains_eq_mem, List.mem_append, List.mem_singleton]
  rw [Bool.eq_iff_iff]
  simp
  constructor
  · rintro (h | h)
    · exact .inr h
    · exact .inl h
  · rintro (h | h)
    · exact .inr h
    · exact .inl h
end Go.Proofs.YtmdnkmeekfkkhaaGreatDoor
