/- strings.IndexByte, and a cut at a byte. -/
import Derived.Test.YtejbigoacknfoaaGreatDoorProg
import Derived.Test.YtejbigoacknfoaaGreatDoorBase
import Derived.Lib.Bytealg
import Derived.Stop.Asserts
import Derived.RowKitTokens
set_option linter.unusedSectionVars false
set_option linter.unusedSimpArgs false
set_option linter.unusedVariables false
namespace Go.Proofs.YtejbigoacknfoaaGreatDoor
open Go.RowKit
set_option linter.unusedVariables false
set_option maxRecDepth 100000
theorem sIndexByte_any (l : List UInt8) (c : UInt8) (w : World) (hl : l.length ≤ 9223372036854775807) :
    Calls Tryz.prog 56 #[.string (bs l), .int .u8 (c.toNat : Nat)] w fun e w' => e = .returned (.int .i64 (Lib.indexByte l c)) ∧ w' = w := by
  have hrun : ∀ w, (callFunc 149 #[.string (bs l), .int .u8 (c.toNat : Nat)]).run Tryz.prog w = .ok (.value (.int .i64 (Lib.indexByte l c))) w := by
    intro w
    rw [run_callFunc_extern (e := Extern.BytealgIndexByte.indexByte) Tryz.func149 (by kernel_rfl) (by kernel_rfl) (by kernel_rfl) (by kernel_rfl), Lib.run_indexByteString]
    simp [Result.andThen, bs]
  generalize Lib.indexByte l c = n at *
  go_enter Tryz.func56, Tryz.ntmps56
  go_wp2
  go_ret
  exact ⟨rfl, rfl⟩
end Go.Proofs.YtejbigoacknfoaaGreatDoor
