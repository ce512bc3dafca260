/- Parts of a text. -/
import Derived.Test.YtfeenkofnbefaaaGreatDoorProg
import Derived.Test.YtfeenkofnbefaaaGreatDoorBase
set_option linter.unusedSectionVars false
set_option linter.unusedSimpArgs false
set_option linter.unusedVariables false
namespace Go.Proofs.YtfeenkofnbefaaaGreatDoor
open Go Go.RowKit
set_option linter.unusedVariables false
theorem cutTo (L : List UInt8) (k : Nat) (hk : k ≤ L.length) (hL : L.length ≤ 1000000) (w : World) :
    (Instr.slice 9 (.string (bs L)) none (some (.int .i64 (k : Int))) none).run Tryz.prog w = .ok (.string (bs (L.take k))) w := by
  simp [go_sem]
  intro h; omega
theorem cutFrom (L : List UInt8) (k : Nat) (hk : k ≤ L.length) (hL : L.length ≤ 1000000) (w : World) :
    (Instr.slice 9 (.string (bs L)) (some (.int .i64 (k : Int))) none none).run Tryz.prog w = .ok (.string (bs (L.drop k))) w := by
  simp [go_sem]
  intro h; omega
end Go.Proofs.YtfeenkofnbefaaaGreatDoor
