/- What is wrong with a head: by the document. -/
import Derived.Test.YtfeenkofnbefaaaGreatDoorHeadRight
set_option linter.unusedSectionVars false
set_option linter.unusedSimpArgs false
set_option linter.unusedVariables false
namespace Go.Proofs.YtfeenkofnbefaaaGreatDoor
open Go Go.RowKit
set_option linter.unusedVariables false
set_option linter.unusedSectionVars false
set_option linter.unusedSimpArgs false
set_option maxRecDepth 100000
def RRightPost (op : Int) (now : Bool) (flags : Int) (vs : List Nat) (w : World) (e : Ending) (w' : World) : Prop :=
  e = .returned (faultV (rightH op now flags vs).1 (rightH op now flags vs).2) ∧ Below w.heap.size w w'
def RRightR (r : HR) (vs : List Nat) (w2 : World) (i : Value) (wr : World) : Prop :=
  ∃ k : Nat, k ≤ r.fields.length ∧ i = .int .i64 (k : Nat) ∧ firstBad r.fields vs 0 = firstBad (r.fields.drop k) (vs.drop k) k ∧ Below w2.heap.size w2 wr
section
variable (op : Int) (now : Bool) (flags : Int) (v : Value) (vs : List Nat) (w : World) (h0 : -9223372036854775808 ≤ op) (h1 : op ≤ 9223372036854775807) (g0 : -9223372036854775808 ≤ flags) (g1 : flags ≤ 9223372036854775807)
  (hn : vs.length ≤ 9223372036854775807) (hv : ∀ x ∈ vs, x ≤ 18446744073709551615) (hsl : Sl w v 1 vs.length (u64Cells vs))
include h0 h1 g0 g1 hn hv hsl
end
end Go.Proofs.YtfeenkofnbefaaaGreatDoor
