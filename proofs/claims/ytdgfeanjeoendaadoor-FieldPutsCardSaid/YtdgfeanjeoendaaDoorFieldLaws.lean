/- The walks of the laws FieldPuts (and FieldPads): each returns true. -/
import Derived.Test.YtdgfeanjeoendaaDoorField
import Derived.Test.YtdgfeanjeoendaaDoorTell
import Derived.Test.YtdgfeanjeoendaaDoorCardBase
namespace Go.Proofs.YtdgfeanjeoendaaDoor
open Go.RowKit
set_option linter.unusedVariables false
set_option maxRecDepth 100000
theorem fieldPuts_law (n : Nat) (size : Int) (s : ByteArray) (w : World) (hn : n ≤ 18446744073709551615) (hs : s.size ≤ maxLen) (hg : EType w) :
    Calls Tryd.prog 4 #[.int .u64 n, .int .i64 size, .string s] w fun e w' => e = .returned (.bool true) ∧ Below w.heap.size w w' := by
  unfold maxLen at hs
  by_cases h50 : s.size ≤ 50
  · have c1 := fun w => hid (number_any n size w hn)
    have c2 := fun w => hid (put_any n size w hn)
    have c3 := fun w => hid (unnumber_any s w (by omega))
    have c4 := fun w => hid (get_any s w (by omega))
    have c5 := fun w1 (hb : Below w.heap.size w w1) => hid (bare_ok (errV 23 (putE n size)) (putE n size) w1 (hg.below hb) (ErrIs.errV w1 _))
    have c6 := fun w1 (hb : Below w.heap.size w w1) => hid (bare_ok .nilIface 0 w1 (hg.below hb) .nil)
    have c7 := fun w1 (hb : Below w.heap.size w w1) => hid (bare_ok (.iface 23 (.int .i64 4)) 4 w1 (hg.below hb) (.bare 4 (by omega)))
    clear hg
    generalize putE n size = e at *
    generalize putS n size = l at *
    by_cases h8 : s.size ≤ 8
    · simp only [if_pos h8] at c3 c4
      go_enter Tryd.func4, Tryd.ntmps4
      go_wp2_with fail
      refine (c1 _).out.mono ?_; rintro e w1 ⟨rfl, hb1⟩
      go_wp2_with fail
      refine (c2 _).out.mono ?_; rintro e w2 ⟨rfl, hb2⟩
      have hb2 := hb1.trans (hb2.mono hb1.size)
      go_wp2_with fail
      refine (c3 _).out.mono ?_; rintro e w3 ⟨rfl, hb3⟩
      have hb3 := hb2.trans (hb3.mono hb2.size)
      go_wp2_with fail
      refine (c4 _).out.mono ?_; rintro e w4 ⟨rfl, rfl⟩
      go_wp2_with fail
      refine (c5 _ hb3).out.mono ?_; rintro e w5 ⟨rfl, hb5⟩
      have hb5 := hb3.trans (hb5.mono hb3.size)
      go_wp2_with fail
      refine (c6 _ hb5).out.mono ?_; rintro e w6 ⟨rfl, hb6⟩
      have hb6 := hb5.trans (hb6.mono hb5.size)
      go_wp2_with fail
      go_ret
      exact ⟨rfl, hb6⟩
    · simp only [if_neg h8] at c3 c4
      go_enter Tryd.func4, Tryd.ntmps4
      go_wp2_with fail
      refine (c1 _).out.mono ?_; rintro e w1 ⟨rfl, hb1⟩
      go_wp2_with fail
      refine (c2 _).out.mono ?_; rintro e w2 ⟨rfl, hb2⟩
      have hb2 := hb1.trans (hb2.mono hb1.size)
      go_wp2_with fail
      refine (c3 _).out.mono ?_; rintro e w3 ⟨rfl, hb3⟩
      have hb3 := hb2.trans (hb3.mono hb2.size)
      go_wp2_with fail
      refine (c4 _).out.mono ?_; rintro e w4 ⟨rfl, rfl⟩
      go_wp2_with fail
      refine (c5 _ hb3).out.mono ?_; rintro e w5 ⟨rfl, hb5⟩
      have hb5 := hb3.trans (hb5.mono hb3.size)
      go_wp2_with fail
      refine (c7 _ hb5).out.mono ?_; rintro e w6 ⟨rfl, hb6⟩
      have hb6 := hb5.trans (hb6.mono hb5.size)
      go_wp2_with fail
      go_ret
      exact ⟨rfl, hb6⟩
  · go_enter Tryd.func4, Tryd.ntmps4
    go_wp2
    go_ret
    exact ⟨rfl, Below.refl _ _⟩
theorem fieldPuts_row (n size : Int) (s : ByteArray) (w : World) (h0 : 0 ≤ n) (h1 : n ≤ 18446744073709551615) (_ : -9223372036854775808 ≤ size) (_ : size ≤ 9223372036854775807) (hs : s.size ≤ maxLen) (hL : laidMetH Tryd.prog Rows.fieldPutsRow.laid w) :
    Calls Tryd.prog 4 #[.int .u64 n, .int .i64 size, .string s] w fun e w' => e = .returned (.bool true) ∧ Below w.heap.size w w' := by
  obtain ⟨k, rfl⟩ := Int.eq_ofNat_of_zero_le h0
  exact fieldPuts_law k size s w (by omega) hs (cardBase.etype_of_laid (by simp [Rows.fieldPutsRow]) hL)
end Go.Proofs.YtdgfeanjeoendaaDoor
