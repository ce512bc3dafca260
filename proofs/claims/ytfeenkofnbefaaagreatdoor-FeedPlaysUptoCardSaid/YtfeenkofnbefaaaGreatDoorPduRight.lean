/- The document's Fault.Is. -/
import Derived.Test.YtfeenkofnbefaaaGreatDoorHeadWrPure
import Derived.Test.YtfeenkofnbefaaaGreatDoorHeadRdPure
import Derived.Test.YtfeenkofnbefaaaGreatDoorHeadWr
import Derived.Test.YtfeenkofnbefaaaGreatDoorHeadRightR
import Derived.Test.YtfeenkofnbefaaaGreatDoorAhsWrR
import Derived.Test.YtfeenkofnbefaaaGreatDoorRel
set_option linter.unusedSectionVars false
set_option linter.unusedSimpArgs false
set_option linter.unusedVariables false
namespace Go.Proofs.YtfeenkofnbefaaaGreatDoor
open Go.RowKit
set_option linter.unusedVariables false
set_option maxRecDepth 100000
theorem faultIs_any (k : Nat) (pl : Int) (w : World) :
    Calls Tryz.prog 29 #[faultV k pl] w fun e w' => e = .returned (.bool (decide (k = 0))) ∧ Below w.heap.size w w' := by
  unfold faultV
  by_cases hk : k = 0
  · subst hk
    go_enter Tryz.func29, Tryz.ntmps29
    go_wp2
    go_ret
    exact ⟨rfl, (Below.refl _ _).alloc (Nat.le_refl _) _⟩
  · have hb : ((k : Int) == 0) = false := by rw [beq_eq_false_iff_ne]; omega
    rw [decide_eq_false hk]
    clear hk
    go_enter Tryz.func29, Tryz.ntmps29
    go_wp2
    go_ret
    exact ⟨rfl, (Below.refl _ _).alloc (Nat.le_refl _) _⟩
end Go.Proofs.YtfeenkofnbefaaaGreatDoor

namespace Go.Proofs.YtfeenkofnbefaaaGreatDoor
open Go Go.RowKit
set_option linter.unusedVariables false
set_option linter.unusedSectionVars false
set_option linter.unusedSimpArgs false
set_option maxRecDepth 100000
theorem modes_any (m : Int) (w : World) (h0 : -9223372036854775808 ≤ m) (h1 : m ≤ 9223372036854775807) : Calls Tryz.prog 45 #[.int .i64 m] w fun e w' => e = .returned (.bool (decide (0 ≤ m) && decide (m ≤ 3))) ∧ w = w' := by
  by_cases a : 0 ≤ m
  · have d1 := decide_eq_true a
    by_cases b : m ≤ 3
    · have d2 := decide_eq_true b
      rw [d1, d2]
      go_enter Tryz.func45, Tryz.ntmps45
      go_wp2
      go_ret
      exact ⟨rfl, rfl⟩
    · have d2 := decide_eq_false b
      rw [d1, d2]
      go_enter Tryz.func45, Tryz.ntmps45
      go_wp2
      go_ret
      exact ⟨rfl, rfl⟩
  · have d1 := decide_eq_false a
    rw [d1]
    go_enter Tryz.func45, Tryz.ntmps45
    go_wp2
    go_ret
    exact ⟨rfl, rfl⟩
/-- a PDU that comes in -/
structure PduIn (w : World) (op : Int) (flags : Int) (v : Value) (vs : List Nat) (av : Value) (n : Nat) (I : Nat → Int × List UInt8) (d : List UInt8) : Prop where
  op0 : -9223372036854775808 ≤ op
  op1 : op ≤ 9223372036854775807
  fl0 : -9223372036854775808 ≤ flags
  fl1 : flags ≤ 9223372036854775807
  len : vs.length ≤ 9223372036854775807
  fits : ∀ x ∈ vs, x ≤ 18446744073709551615
  vals : Sl w v 1 vs.length (u64Cells vs)
  ahs : AhsIn w av n I
  data : d.length ≤ 9223372036854775807
theorem PduIn.below {w w' : World} {op flags : Int} {v av : Value} {vs : List Nat} {n : Nat} {I : Nat → Int × List UInt8} {d : List UInt8} (h : PduIn w op flags v vs av n I d) (hb : Below w.heap.size w w') : PduIn w' op flags v vs av n I d :=
  ⟨h.op0, h.op1, h.fl0, h.fl1, h.len, h.fits, h.vals.below (Nat.le_refl _) hb, h.ahs.below hb, h.data⟩
theorem ahs_form {w : World} {v : Value} {n : Nat} {I : Nat → Int × List UInt8} (h : AhsIn w v n I) : ∃ a c, v = .slice a n c := by
  rcases h.2.1 with ⟨rfl, rfl⟩ | ⟨a, cap, rfl⟩
  · exact ⟨_, _, rfl⟩
  · exact ⟨_, _, rfl⟩
section
variable (op : Int) (now : Bool) (flags : Int) (v : Value) (vs : List Nat) (av : Value) (n : Nat) (I : Nat → Int × List UInt8) (d : List UInt8) (w : World) (hp : PduIn w op flags v vs av n I d) (hg : EType w) (hT : AS w) (hP : PT w)
include hp hg hT hP
end
end Go.Proofs.YtfeenkofnbefaaaGreatDoor
