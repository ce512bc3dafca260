/- A PDU as bytes: by the document. -/
import Derived.Test.YtfeenkofnbefaaaGreatDoorPduWr
import Derived.Test.YtfeenkofnbefaaaGreatDoorHeadWrR
import Derived.Test.YtfeenkofnbefaaaGreatDoorWithin
set_option linter.unusedSectionVars false
set_option linter.unusedSimpArgs false
set_option linter.unusedVariables false
namespace Go.Proofs.YtfeenkofnbefaaaGreatDoor
open Go Go.RowKit
set_option linter.unusedVariables false
set_option linter.unusedSectionVars false
set_option linter.unusedSimpArgs false
set_option maxRecDepth 100000
def PduWRPost (R : List UInt8 × Nat) (w : World) (e : Ending) (w' : World) : Prop :=
  e = .returned (.tuple #[.string (bs R.1), .int .i64 (R.2 : Nat)]) ∧ Below w.heap.size w w'
section
variable (op : Int) (now : Bool) (flags : Int) (v : Value) (vs : List Nat) (av : Value) (n : Nat) (I : Nat → Int × List UInt8) (d : List UInt8) (mode : Int) (w : World) (hp : PduIn w op flags v vs av n I d) (hm0 : -9223372036854775808 ≤ mode) (hm1 : mode ≤ 9223372036854775807) (hg : EType w) (hT : AS w) (hP : PT w)
include hp hm0 hm1 hg hT hP
end
end Go.Proofs.YtfeenkofnbefaaaGreatDoor
