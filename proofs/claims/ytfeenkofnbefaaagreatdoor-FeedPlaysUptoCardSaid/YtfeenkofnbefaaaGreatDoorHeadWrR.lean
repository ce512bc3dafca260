/- A head in 48 bytes: by the document. -/
import Derived.Test.YtfeenkofnbefaaaGreatDoorHeadWrPure
import Derived.Test.YtfeenkofnbefaaaGreatDoorHeadRightR
import Derived.Test.YtfeenkofnbefaaaGreatDoorPduRight
import Derived.Test.YtfeenkofnbefaaaGreatDoorWithin
import Derived.Test.YtfeenkofnbefaaaGreatDoorRel
set_option linter.unusedSectionVars false
set_option linter.unusedSimpArgs false
set_option linter.unusedVariables false
namespace Go.Proofs.YtfeenkofnbefaaaGreatDoor
open Go Go.RowKit
set_option linter.unusedVariables false
set_option linter.unusedSectionVars false
set_option linter.unusedSimpArgs false
set_option maxRecDepth 100000
theorem str_to (L : List UInt8) (k : Nat) (hk : k ≤ L.length) (hL : L.length ≤ 1000000) (w : World) :
    (Instr.slice 9 (.string (bs L)) none (some (.int .i64 (k : Int))) none).run Tryz.prog w = .ok (.string (bs (L.take k))) w := by
  simp [go_sem]
  intro h; omega
theorem str_from (L : List UInt8) (k : Nat) (hk : k ≤ L.length) (hL : L.length ≤ 1000000) (w : World) :
    (Instr.slice 9 (.string (bs L)) (some (.int .i64 (k : Int))) none none).run Tryz.prog w = .ok (.string (bs (L.drop k))) w := by
  simp [go_sem]
  intro h; omega
def WriteRPost (op : Int) (now : Bool) (flags : Int) (vs : List Nat) (words data : Int) (w : World) (e : Ending) (w' : World) : Prop :=
  e = .returned (.tuple #[.string (bs (writeH op now flags vs words data).1), faultV (writeH op now flags vs words data).2.1 (writeH op now flags vs words data).2.2]) ∧ Below w.heap.size w w'
def RWrR (r : HR) (vs : List Nat) (L0 : List UInt8) (w4 : World) (o i : Value) (wr : World) : Prop :=
  ∃ (k : Nat) (L : List UInt8), k ≤ r.fields.length ∧ i = .int .i64 (k : Nat) ∧ o = .string (bs L) ∧ L.length = 48 ∧ writeF r.fields vs L0 = writeF (r.fields.drop k) (vs.drop k) L ∧ Below w4.heap.size w4 wr
section
variable (op : Int) (now : Bool) (flags : Int) (v : Value) (vs : List Nat) (words data : Int) (w : World) (h0 : -9223372036854775808 ≤ op) (h1 : op ≤ 9223372036854775807) (g0 : -9223372036854775808 ≤ flags) (g1 : flags ≤ 9223372036854775807)
  (hn : vs.length ≤ 9223372036854775807) (hv : ∀ x ∈ vs, x ≤ 18446744073709551615) (hsl : Sl w v 1 vs.length (u64Cells vs))
include h0 h1 g0 g1 hn hv hsl
end
end Go.Proofs.YtfeenkofnbefaaaGreatDoor
