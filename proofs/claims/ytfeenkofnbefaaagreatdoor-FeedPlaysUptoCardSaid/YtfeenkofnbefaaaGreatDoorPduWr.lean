/- A PDU as bytes: by the program. -/
import Derived.Test.YtfeenkofnbefaaaGreatDoorPduRight
set_option linter.unusedSectionVars false
set_option linter.unusedSimpArgs false
set_option linter.unusedVariables false
namespace Go.Proofs.YtfeenkofnbefaaaGreatDoor
open Go Go.RowKit
set_option linter.unusedVariables false
set_option linter.unusedSectionVars false
set_option linter.unusedSimpArgs false
set_option maxRecDepth 100000
theorem dig_bs (l : List UInt8) (w : World) (hl : l.length ≤ 1000000) : Calls Tryz.prog 81 #[.string (bs l)] w fun e w' => e = .returned (.string (bs (digL l))) ∧ Below w.heap.size w w' :=
  dig_any (bs l) w (by unfold maxLen; rw [bs_size]; omega)
theorem rdig_bs (l : List UInt8) (w : World) (hl : l.length ≤ 1000000) : Calls Tryz.prog 76 #[.string (bs l)] w fun e w' => e = .returned (.string (bs (digL l))) ∧ Below w.heap.size w w' :=
  rdig_any (bs l) w (by rw [bs_size]; omega)
theorem dig_len (l : List UInt8) : (digL l).length = 4 := rfl
theorem mode_bits (m : Int) (h0 : 0 ≤ m) (h1 : m ≤ 3) : (bits .and .i64 m 1 != 0) = (m % 2 == 1) ∧ (bits .and .i64 m 2 != 0) = (m / 2 == 1) := by
  obtain ⟨k, rfl⟩ := Int.eq_ofNat_of_zero_le h0
  have : ∀ k : Fin 4, (bits .and .i64 ((k.val : Nat) : Int) 1 != 0) = (((k.val : Nat) : Int) % 2 == 1) ∧ (bits .and .i64 ((k.val : Nat) : Int) 2 != 0) = (((k.val : Nat) : Int) / 2 == 1) := by decide
  exact this ⟨k, by omega⟩
def PduWPost (R : List UInt8 × Nat) (w : World) (e : Ending) (w' : World) : Prop :=
  e = .returned (.tuple #[.string (bs R.1), errV 31 R.2]) ∧ Below w.heap.size w w'
section
variable (op : Int) (now : Bool) (flags : Int) (v : Value) (vs : List Nat) (av : Value) (n : Nat) (I : Nat → Int × List UInt8) (d : List UInt8) (mode : Int) (w : World) (hp : PduIn w op flags v vs av n I d) (hm0 : -9223372036854775808 ≤ mode) (hm1 : mode ≤ 9223372036854775807) (hg : EType w) (hT : AS w) (hP : PT w)
include hp hm0 hm1 hg hT hP
end
end Go.Proofs.YtfeenkofnbefaaaGreatDoor
