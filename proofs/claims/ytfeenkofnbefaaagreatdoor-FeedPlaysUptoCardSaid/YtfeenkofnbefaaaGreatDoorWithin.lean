/- The document's within, by contract. -/
import Derived.Test.YtfeenkofnbefaaaGreatDoorProg
import Derived.Test.YtfeenkofnbefaaaGreatDoorBase
set_option linter.unusedSectionVars false
set_option linter.unusedSimpArgs false
set_option linter.unusedVariables false
namespace Go.Proofs.YtfeenkofnbefaaaGreatDoor
open Go.RowKit
set_option linter.unusedVariables false
theorem within_true (n lo hi : Int) (w : World) (h0 : lo ≤ n) (h1 : n ≤ hi) :
    Calls Tryz.prog 57 #[.int .i64 n, .int .i64 lo, .int .i64 hi] w fun e w' => e = .returned (.bool true) ∧ w = w' := by
  have b1 : decide (lo ≤ n) = true := by simpa using h0
  have b2 : decide (n ≤ hi) = true := by simpa using h1
  clear h0 h1
  go_enter Tryz.func57, Tryz.ntmps57
  go_wp2
  go_ret
  exact ⟨rfl, rfl⟩
theorem within_false (n lo hi : Int) (w : World) (h0 : n < lo ∨ hi < n) :
    Calls Tryz.prog 57 #[.int .i64 n, .int .i64 lo, .int .i64 hi] w fun e w' => e = .returned (.bool false) ∧ w = w' := by
  by_cases h : n < lo
  · have b1 : decide (lo ≤ n) = false := by simpa using h
    clear h0 h
    go_enter Tryz.func57, Tryz.ntmps57
    go_wp2
    go_ret
    exact ⟨rfl, rfl⟩
  · have b1 : decide (lo ≤ n) = true := by simp; omega
    have b2 : decide (n ≤ hi) = false := by simp; omega
    clear h0 h
    go_enter Tryz.func57, Tryz.ntmps57
    go_wp2
    go_ret
    exact ⟨rfl, rfl⟩
end Go.Proofs.YtfeenkofnbefaaaGreatDoor
