/- The document's faults: Good, Bare, Is. -/
import Derived.Test.YtmdnkmeekfkkhaaGreatDoorProg
import Derived.Test.YtmdnkmeekfkkhaaGreatDoorBase
namespace Go.Proofs.YtmdnkmeekfkkhaaGreatDoor
open Go.RowKit
set_option linter.unusedVariables false
set_option maxRecDepth 100000
/-- a fault by value -/
def faultV (k : Nat) (pl : Int) : Value := .agg #[.int .i64 (k : Nat), .int .i64 pl]
theorem good_any (w : World) :
    Calls Tryz.prog 40 #[] w fun e w' => e = .returned (.agg #[.int .i64 0, .int .i64 (-1)]) ∧ Below w.heap.size w w' := by
  go_enter Tryz.func40, Tryz.ntmps40
  go_wp2
  exact bodyPost_ret (v := .agg #[.int .i64 0, .int .i64 (-1)]) (by simp [results, Tryz.results40, go_sem]) rfl ⟨rfl, (Below.refl _ _).alloc (Nat.le_refl _) _⟩
theorem bareF_any (k : Int) (w : World) :
    Calls Tryz.prog 36 #[.int .i64 k] w fun e w' => e = .returned (.agg #[.int .i64 k, .int .i64 (-1)]) ∧ Below w.heap.size w w' := by
  go_enter Tryz.func36, Tryz.ntmps36
  go_wp2
  exact bodyPost_ret (v := .agg #[.int .i64 k, .int .i64 (-1)]) (by simp [results, Tryz.results36, go_sem]) rfl ⟨rfl, (Below.refl _ _).alloc (Nat.le_refl _) _⟩
end Go.Proofs.YtmdnkmeekfkkhaaGreatDoor
