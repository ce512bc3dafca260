/- strings.Count at a substring of one byte of 0. -/
import Derived.Test.YtejbigoacknfoaaGreatDoorProg
import Derived.Test.YtejbigoacknfoaaGreatDoorBase
import Derived.Lib.Bytealg
import Derived.Stop.Asserts
import Derived.RowKitTokens
set_option linter.unusedSectionVars false
set_option linter.unusedSimpArgs false
set_option linter.unusedVariables false
namespace Go.Proofs.YtejbigoacknfoaaGreatDoor
open Go.RowKit
set_option linter.unusedVariables false
set_option maxRecDepth 100000
theorem count_any (l : List UInt8) (w : World) (hl : l.length ≤ 1000000) :
    Calls Tryz.prog 130 #[.string (bs l), .string ⟨#[0]⟩] w fun e w' => e = .returned (.int .i64 (l.count 0 : Nat)) ∧ w' = w := by
  have hz : (⟨#[0]⟩ : ByteArray) = bs [0] := rfl
  rw [hz]
  have hrun : ∀ w, (callFunc 172 #[.string (bs l), .int .u8 0]).run Tryz.prog w = .ok (.value (.int .i64 (l.count 0 : Nat))) w := by
    intro w
    rw [run_callFunc_extern (e := Extern.BytealgCount.count) Tryz.func172 (by kernel_rfl) (by kernel_rfl) (by kernel_rfl) (by kernel_rfl), Lib.run_countString]
    simp [Result.andThen, Lib.countByte, bs]
  generalize l.count 0 = n at *
  go_enter Tryz.func130, Tryz.ntmps130
  go_wp2
  go_ret
  exact ⟨rfl, rfl⟩
theorem count_zero (l : List UInt8) : l.count 0 = l.length ↔ l = List.replicate l.length 0 := by
  rw [List.count_eq_length, List.eq_replicate_iff]
  constructor
  · intro h; exact ⟨rfl, fun b hb => (h b hb).symm⟩
  · intro h b hb; exact (h.2 b hb).symm
end Go.Proofs.YtejbigoacknfoaaGreatDoor
