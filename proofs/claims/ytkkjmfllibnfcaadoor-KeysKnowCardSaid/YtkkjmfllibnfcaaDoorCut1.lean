/- strings.Index, Cut and Split at a separator of one byte. -/
import Derived.Test.YtkkjmfllibnfcaaDoorSplitPure
import Derived.Test.YtkkjmfllibnfcaaDoorBase
import Derived.Test.YtkkjmfllibnfcaaDoorShelfI
import Derived.Deep.QuietTactic
import Derived.BigQuiet
namespace Go.Proofs.YtkkjmfllibnfcaaDoor
open Go.RowKit
set_option linter.unusedVariables false
set_option maxRecDepth 100000
theorem sArr_bs (l : List (List UInt8)) : sArr l = (l.map fun x => Value.string (bs x)).toArray := rfl
theorem sIndex1_any (l : List UInt8) (c : UInt8) (w : World) :
    Calls Tryd.prog 34 #[.string (bs l), .string (bs [c])] w fun e w' => e = .returned (.int .i64 (Lib.indexByte l c)) ∧ w' = w := by
  have := Tryd.strings_Index_one (bs l) c w
  simpa [bs] using this
theorem lIndex1_any (l : List UInt8) (c : UInt8) (w : World) :
    Calls Tryd.prog 42 #[.string (bs l), .string (bs [c])] w fun e w' => e = .returned (.int .i64 (Lib.indexByte l c)) ∧ w' = w := by
  have := Tryd.stringslite_Index_one (bs l) c w
  simpa [bs] using this
def CutPost (c : UInt8) (l : List UInt8) (w : World) (e : Ending) (w' : World) : Prop :=
  e = .returned (.tuple #[.string (bs (cutL c l).1), .string (bs (cutL c l).2.1), .bool (cutL c l).2.2]) ∧ ∃ n, w' = w.drewN n
theorem lCut1_any (l : List UInt8) (c : UInt8) (w : World) (hl : l.length ≤ 9223372036854775807) :
    Calls Tryd.prog 30 #[.string (bs l), .string (bs [c])] w fun e w' => CutPost c l w e w' := by
  have c1 := fun w => hid (lIndex1_any l c w)
  rcases idx_cases l c with ⟨h1, h2⟩ | ⟨i, h1, hi, h3, h4⟩
  · rw [h1] at c1
    have hc := hid (cutL_none c l h2)
    clear h1 h2
    go_enter Tryd.func30, Tryd.ntmps30
    go_wp2_with (go_at_call 42; refine (c1 _).out.mono ?_; rintro e w1 ⟨rfl, rfl⟩)
    go_ret3
    refine ⟨?_, 0, rfl⟩
    rw [hc.out]; rfl
  · rw [h1] at c1
    have hc := hid (cutL_idx c l i h3 h4)
    clear h1 h3 h4
    have s1 : IntKind.i64.wrap ((i : Int) + 1) = (i : Int) + 1 := by rw [IntKind.wrap_i64]; omega
    have s2 : (0 : Int) ≤ (i : Int) + 1 := by omega
    have s3 : ((i : Int) + 1).toNat = i + 1 := by omega
    have s4 : (i : Int) + 1 ≤ (l.length : Int) := by omega
    have s5 : (i : Int) ≤ (l.length : Int) := by omega
    go_enter Tryd.func30, Tryd.ntmps30
    go_wp2_with (go_at_call 42; refine (c1 _).out.mono ?_; rintro e w1 ⟨rfl, rfl⟩)
    go_quiet (fail)
    go_wp2
    go_ret3
    refine ⟨?_, _, rfl⟩
    rw [hc.out]
    simp [go_sem]
theorem cut1_any (l : List UInt8) (c : UInt8) (w : World) (hl : l.length ≤ 9223372036854775807) :
    Calls Tryd.prog 22 #[.string (bs l), .string (bs [c])] w fun e w' => CutPost c l w e w' := by
  have c1 := fun w => hid (lCut1_any l c w hl)
  unfold CutPost at c1 ⊢
  generalize cutL c l = r at *
  obtain ⟨r1, r2, r3⟩ := r
  simp only at c1 ⊢
  go_enter Tryd.func22, Tryd.ntmps22
  go_wp2_with (go_at_call 30; refine (c1 _).out.mono ?_; rintro e w1 ⟨rfl, n, rfl⟩)
  go_ret3
  exact ⟨rfl, _, rfl⟩
end Go.Proofs.YtkkjmfllibnfcaaDoor
