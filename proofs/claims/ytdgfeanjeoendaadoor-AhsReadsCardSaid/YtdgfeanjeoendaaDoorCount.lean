/- strings.Count at a substring of one byte of 0. -/
import Derived.Test.YtdgfeanjeoendaaDoorProg
import Derived.Test.YtdgfeanjeoendaaDoorBase
import Derived.Lib.Bytealg
import Derived.Stop.Asserts
import Derived.RowKitTokens
namespace Go.Proofs.YtdgfeanjeoendaaDoor
open Go.RowKit
set_option linter.unusedVariables false
set_option maxRecDepth 100000
theorem count_any (l : List UInt8) (w : World) (hl : l.length ≤ 1000000) :
    Calls Tryd.prog 63 #[.string (bs l), .string ⟨#[0]⟩] w fun e w' => e = .returned (.int .i64 (l.count 0 : Nat)) ∧ w' = w := by
  have hz : (⟨#[0]⟩ : ByteArray) = bs [0] := rfl
  rw [hz]
  have hrun : ∀ w, (callFunc 82 #[.string (bs l), .int .u8 0]).run Tryd.prog w = .ok (.value (.int .i64 (l.count 0 : Nat))) w := by
    intro w
    rw [run_callFunc_extern (e := Extern.BytealgCount.count) Tryd.func82 (by kernel_rfl) (by kernel_rfl) (by kernel_rfl) (by kernel_rfl), Lib.run_countString]
    simp [Result.andThen, Lib.countByte, bs]
  generalize l.count 0 = n at *
  go_enter Tryd.func63, Tryd.ntmps63
  go_wp2
  go_ret
  exact ⟨rfl, rfl⟩
theorem count_zero (l : List UInt8) : l.count 0 = l.length ↔ l = List.replicate l.length 0 := by
  rw [List.count_eq_length, List.eq_replicate_iff]
  constructor
  · intro h; exact ⟨rfl, fun b hb => (h b hb).symm⟩
  · intro h b hb; exact (h.2 b hb).symm
end Go.Proofs.YtdgfeanjeoendaaDoor
