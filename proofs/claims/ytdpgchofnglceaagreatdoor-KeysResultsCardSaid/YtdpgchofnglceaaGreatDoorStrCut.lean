/- strings.IndexByte, and a cut at a byte. -/
import Derived.Test.YtdpgchofnglceaaGreatDoorProg
import Derived.Test.YtdpgchofnglceaaGreatDoorBase
import Derived.Lib.Bytealg
import Derived.Stop.Asserts
import Derived.RowKitTokens
namespace Go.Proofs.YtdpgchofnglceaaGreatDoor
open Go.RowKit
set_option linter.unusedVariables false
set_option maxRecDepth 100000
theorem sIndexByte_any (l : List UInt8) (c : UInt8) (w : World) (hl : l.length ≤ 9223372036854775807) :
    Calls Tryz.prog 46 #[.string (bs l), .int .u8 (c.toNat : Nat)] w fun e w' => e = .returned (.int .i64 (Lib.indexByte l c)) ∧ w' = w := by
  have hrun : ∀ w, (callFunc 134 #[.string (bs l), .int .u8 (c.toNat : Nat)]).run Tryz.prog w = .ok (.value (.int .i64 (Lib.indexByte l c))) w := by
    intro w
    rw [run_callFunc_extern (e := Extern.BytealgIndexByte.indexByte) Tryz.func134 (by kernel_rfl) (by kernel_rfl) (by kernel_rfl) (by kernel_rfl), Lib.run_indexByteString]
    simp [Result.andThen, bs]
  generalize Lib.indexByte l c = n at *
  go_enter Tryz.func46, Tryz.ntmps46
  go_wp2
  go_ret
  exact ⟨rfl, rfl⟩
end Go.Proofs.YtdpgchofnglceaaGreatDoor

namespace Go.Proofs.YtdpgchofnglceaaGreatDoor
open Go Go.RowKit
set_option linter.unusedVariables false
theorem cutTo (L : List UInt8) (k : Nat) (hk : k ≤ L.length) (hL : L.length ≤ 1000000) (w : World) :
    (Instr.slice 9 (.string (bs L)) none (some (.int .i64 (k : Int))) none).run Tryz.prog w = .ok (.string (bs (L.take k))) w := by
  simp [go_sem]
  intro h; omega
theorem cutFrom (L : List UInt8) (k : Nat) (hk : k ≤ L.length) (hL : L.length ≤ 1000000) (w : World) :
    (Instr.slice 9 (.string (bs L)) (some (.int .i64 (k : Int))) none none).run Tryz.prog w = .ok (.string (bs (L.drop k))) w := by
  simp [go_sem]
  intro h; omega
end Go.Proofs.YtdpgchofnglceaaGreatDoor
