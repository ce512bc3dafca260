/- Additional headers as bytes, by the document. -/
import Derived.Test.YtfeenkofnbefaaaGreatDoorCrcPure
import Derived.Test.YtfeenkofnbefaaaGreatDoorWithin
import Derived.Test.YtfeenkofnbefaaaGreatDoorHeadWrPure
set_option linter.unusedSectionVars false
set_option linter.unusedSimpArgs false
set_option linter.unusedVariables false
namespace Go.Proofs.YtfeenkofnbefaaaGreatDoor
open Go.RowKit
set_option linter.unusedVariables false
set_option maxRecDepth 100000
def RAhsWrR (I : Nat → Int × List UInt8) (n : Nat) (w : World) (out i : Value) (wr : World) : Prop :=
  ∃ (k : Nat) (o : List UInt8), k ≤ n ∧ o.length ≤ 1020 ∧ i = .int .i64 (k : Nat) ∧ out = .string (bs o) ∧ ahsW I n 0 0 = ahsW I (n - k) k o.length ∧ ahsB I n 0 [] = ahsB I (n - k) k o ∧ Below w.heap.size w wr ∧ w.heap.size < wr.heap.size ∧
    wr.heap[w.heap.size]? = some (.cells #[.int .i64 0, .int .i64 0] 72 (0, 0))
def AhsWrRPost (I : Nat → Int × List UInt8) (n : Nat) (w : World) (e : Ending) (w' : World) : Prop :=
  e = .returned (.tuple #[.string (bs (if (ahsW I n 0 0).1 = 0 then ahsB I n 0 [] else [])), faultV (ahsW I n 0 0).1 (ahsW I n 0 0).2]) ∧ Below w.heap.size w w'
end Go.Proofs.YtfeenkofnbefaaaGreatDoor
