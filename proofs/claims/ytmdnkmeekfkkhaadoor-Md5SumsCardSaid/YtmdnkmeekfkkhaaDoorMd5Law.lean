/- The walk of the law Md5Sums: it returns true. -/
import Derived.Test.YtmdnkmeekfkkhaaDoorRows
import Derived.Test.YtmdnkmeekfkkhaaDoorMd5R
namespace Go.Proofs.YtmdnkmeekfkkhaaDoor
open Go Go.RowKit
set_option linter.unusedVariables false
set_option linter.unusedSectionVars false
set_option linter.unusedSimpArgs false
set_option maxRecDepth 100000
theorem md5Sums_law (l : List UInt8) (w : World) (hl : l.length ≤ 9223372036854775807) :
    Calls Tryd.prog 3 #[.string (bs l)] w fun e w' => e = .returned (.bool true) ∧ Below w.heap.size w w' := by
  by_cases hs : l.length ≤ 1000
  · have hd : decide ((1000 : Int) < (l.length : Int)) = false := decide_eq_false (by omega)
    have c1 := fun w => hid (md5_any l w (by omega))
    have c2 := fun w => hid (rmd5_any l w (by omega))
    generalize QMd.md5L l = R at *
    have hll : (R == R) = true := by simp
    go_enter Tryd.func3, Tryd.ntmps3
    go_wp2_with fail
    refine (c1 _).out.mono ?_
    rintro e w1 ⟨rfl, hb1⟩
    go_wp2_with fail
    refine (c2 _).out.mono ?_
    rintro e w2 ⟨rfl, hb2⟩
    go_wp2
    go_ret
    exact ⟨rfl, hb1.trans (hb2.mono hb1.size)⟩
  · have hd : decide ((1000 : Int) < (l.length : Int)) = true := decide_eq_true (by omega)
    go_enter Tryd.func3, Tryd.ntmps3
    go_wp2
    go_ret
    exact ⟨rfl, Below.refl _ _⟩
theorem md5Sums_row (s : ByteArray) (w : World) (hs : s.size ≤ maxLen) (hL : laidMetH Tryd.prog Rows.md5SumsRow.laid w) :
    Calls Tryd.prog 3 #[.string s] w fun e w' => e = .returned (.bool true) ∧ Below w.heap.size w w' := by
  have h1 : s.data.toList.length = s.size := by simp
  unfold maxLen at hs
  have := md5Sums_law s.data.toList w (by omega)
  rwa [bs_data] at this
end Go.Proofs.YtmdnkmeekfkkhaaDoor
