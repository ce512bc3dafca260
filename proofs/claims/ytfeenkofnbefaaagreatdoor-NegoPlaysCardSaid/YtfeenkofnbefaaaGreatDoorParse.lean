/- The pairs that a text is, by the program. -/
import Derived.Test.YtfeenkofnbefaaaGreatDoorRange
import Derived.Test.YtfeenkofnbefaaaGreatDoorNego
import Derived.Maps.AppendAt
set_option linter.unusedSectionVars false
set_option linter.unusedSimpArgs false
set_option linter.unusedVariables false
namespace Go.Proofs.YtfeenkofnbefaaaGreatDoor
open Go.RowKit
set_option linter.unusedVariables false
set_option maxRecDepth 100000
/-- the pairs that a text is, the first one in place i; what is wrong (0: nothing), and where -/
def parseP : Nat → List UInt8 → Nat → PL × Nat × Int
  | 0, _, _ => ([], 0, -1)
  | f + 1, s, i => if s = [] then ([], 0, -1) else if (cutL 0 s).2.2 = false then ([], 7, (i : Int)) else if (cutL 61 (cutL 0 s).1).2.2 = false then ([], 3, (i : Int)) else if i = 60 then ([], 4, -1) else
    if isKey (cutL 61 (cutL 0 s).1).1 = false then ([], 5, (i : Int)) else if isValue (cutL 61 (cutL 0 s).1).2.1 = false then ([], 3, (i : Int)) else
    (((cutL 61 (cutL 0 s).1).1, (cutL 61 (cutL 0 s).1).2.1) :: (parseP f (cutL 0 s).2.1 (i + 1)).1, (parseP f (cutL 0 s).2.1 (i + 1)).2)
theorem parseP_nil (f i : Nat) : parseP (f + 1) [] i = ([], 0, -1) := by rw [parseP, if_pos rfl]
theorem parseP_succ (f : Nat) (s : List UInt8) (i : Nat) (h : s ≠ []) : parseP (f + 1) s i = if (cutL 0 s).2.2 = false then ([], 7, (i : Int)) else if (cutL 61 (cutL 0 s).1).2.2 = false then ([], 3, (i : Int)) else if i = 60 then ([], 4, -1) else
    if isKey (cutL 61 (cutL 0 s).1).1 = false then ([], 5, (i : Int)) else if isValue (cutL 61 (cutL 0 s).1).2.1 = false then ([], 3, (i : Int)) else
    (((cutL 61 (cutL 0 s).1).1, (cutL 61 (cutL 0 s).1).2.1) :: (parseP f (cutL 0 s).2.1 (i + 1)).1, (parseP f (cutL 0 s).2.1 (i + 1)).2) := by
  rw [parseP, if_neg h]
theorem infoPair : (Tryz.prog.info? 77).map (fun i => (i.zero, i.size, i.bytes)) = some (some (.agg #[.string ⟨#[]⟩, .string ⟨#[]⟩]), 2, 32) := by kernel_rfl
theorem pairsR_one (x : List UInt8 × List UInt8) : pairsR [x] = if isKey x.1 = false then (5, 0) else if isValue x.2 = false then (3, 0) else (0, -1) := by
  rw [pairsR, if_neg (by simp), pairsRG]; rfl
def PParsePost (l : List UInt8) (w : World) (e : Ending) (w' : World) : Prop :=
  (∃ v er, e = .returned (.tuple #[v, er]) ∧ ErrIs w' er (parseP (l.length + 1) l 0).2.1 (parseP (l.length + 1) l 0).2.2 ∧ PSl w' v (if (parseP (l.length + 1) l 0).2.1 = 0 then (parseP (l.length + 1) l 0).1 else []) ∧ FreshV w.heap.size v) ∧ Below w.heap.size w w'
def RPParse (l : List UInt8) (w : World) (s v : Value) (wr : World) : Prop :=
  ∃ (r : List UInt8) (f : Nat) (xs : PL), r.length ≤ l.length ∧ r.length < f ∧ xs.length ≤ 60 ∧ s = .string (bs r) ∧
    parseP (l.length + 1) l 0 = (xs ++ (parseP f r xs.length).1, (parseP f r xs.length).2) ∧ wr.ownsRow w.heap.size 77 2 v xs.length (pairCells xs) ∧ Below w.heap.size w wr
theorem PBd.one (x : List UInt8 × List UInt8) (h1 : x.1.length ≤ 9223372036854775807) (h2 : x.2.length ≤ 9223372036854775807) : PBd [x] :=
  ⟨by simp, fun k => by cases k with | zero => exact ⟨h1, h2⟩ | succ k => simp⟩
theorem cutL_le (c : UInt8) (l : List UInt8) : (cutL c l).1.length ≤ l.length ∧ (cutL c l).2.1.length ≤ l.length := by
  induction l with
  | nil => simp [cutL]
  | cons b l ih =>
    rw [cutL]; split
    · simp
    · simp; omega
end Go.Proofs.YtfeenkofnbefaaaGreatDoor
