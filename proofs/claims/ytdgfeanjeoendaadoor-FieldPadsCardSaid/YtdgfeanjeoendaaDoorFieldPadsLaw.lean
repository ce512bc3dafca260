/- The walk of the law FieldPads: it returns true. -/
import Derived.Test.YtdgfeanjeoendaaDoorUnpad
import Derived.Test.YtdgfeanjeoendaaDoorCardBase
namespace Go.Proofs.YtdgfeanjeoendaaDoor
open Go.RowKit
set_option linter.unusedVariables false
set_option maxRecDepth 100000
theorem fieldPads_law (l : List UInt8) (n : Int) (w : World) (hs : l.length ≤ 9223372036854775807) (h2 : -9223372036854775808 ≤ n) (h3 : n ≤ 9223372036854775807) (hg : EType w) :
    Calls Tryd.prog 7 #[.string (bs l), .int .i64 n] w fun e w' => e = .returned (.bool true) ∧ Below w.heap.size w w' := by
  by_cases h5 : l.length ≤ 500
  · have c1 := fun w => hid (runpad_any l n w (by omega) h2 h3)
    have c2 := fun w => hid (unpad_any l n w (by omega) h2 h3)
    have c3 := fun w => hid (pad_any n w h2 h3)
    have c4 := fun w => hid (rpad_any n w h2 h3)
    have c5 := fun w => hid (padded_any l w (by omega))
    have c6 := fun w => hid (rpadded_any l w (by omega))
    have c7 := fun w1 (hb : Below w.heap.size w w1) (k : Nat) (h : 0 < k) => hid (bare_ok (.iface 23 (.int .i64 (k : Nat))) k w1 (hg.below hb) (.bare k h))
    have c8 := fun w1 (hb : Below w.heap.size w w1) => hid (bare_ok .nilIface 0 w1 (hg.below hb) .nil)
    clear hg
    unfold unpadV at c2
    unfold runpadV at c1
    by_cases he : unpadE l n = 0
    · simp only [if_pos he] at c1 c2
      clear he
      go_enter Tryd.func7, Tryd.ntmps7
      go_wp2_with first
        | (go_at_call 29; refine (c1 _).out.mono ?_; rintro e w1 ⟨rfl, q1, hq1⟩; have hb1 : Below w.heap.size w w1 := (by rw [hq1]; exact below_drewN (Below.refl _ _) _); clear hq1)
        | (go_at_call 30; refine (c2 _).out.mono ?_; rintro e w2 ⟨rfl, q2, hq2⟩; have hb2 : Below w.heap.size w w2 := (by rw [hq2]; exact below_drewN hb1 _); clear hq2)
        | (go_at_call 15; refine (c8 _ hb2).out.mono ?_; rintro e w4 ⟨rfl, hb4⟩)
        | (go_at_call 31; refine (c3 _).out.mono ?_; rintro e w3 ⟨rfl, rfl⟩)
        | (go_at_call 32; refine (c4 _).out.mono ?_; rintro e w3 ⟨rfl, rfl⟩)
        | (go_at_call 33; refine (c5 _).out.mono ?_; rintro e w3 ⟨rfl, rfl⟩)
        | (go_at_call 34; refine (c6 _).out.mono ?_; rintro e w3 ⟨rfl, rfl⟩)
      go_ret
      exact ⟨rfl, hb2.trans (hb4.mono hb2.size)⟩
    · have hpos : 0 < unpadE l n := by omega
      simp only [if_neg he] at c1 c2
      clear he
      generalize unpadE l n = ue at *
      go_enter Tryd.func7, Tryd.ntmps7
      go_wp2_with first
        | (go_at_call 29; refine (c1 _).out.mono ?_; rintro e w1 ⟨rfl, q1, hq1⟩; have hb1 : Below w.heap.size w w1 := (by rw [hq1]; exact below_drewN (Below.refl _ _) _); clear hq1)
        | (go_at_call 30; refine (c2 _).out.mono ?_; rintro e w2 ⟨rfl, q2, hq2⟩; have hb2 : Below w.heap.size w w2 := (by rw [hq2]; exact below_drewN hb1 _); clear hq2)
        | (go_at_call 15; refine (c7 _ hb2 _ hpos).out.mono ?_; rintro e w4 ⟨rfl, hb4⟩)
        | (go_at_call 31; refine (c3 _).out.mono ?_; rintro e w3 ⟨rfl, rfl⟩)
        | (go_at_call 32; refine (c4 _).out.mono ?_; rintro e w3 ⟨rfl, rfl⟩)
        | (go_at_call 33; refine (c5 _).out.mono ?_; rintro e w3 ⟨rfl, rfl⟩)
        | (go_at_call 34; refine (c6 _).out.mono ?_; rintro e w3 ⟨rfl, rfl⟩)
      go_ret
      exact ⟨rfl, hb2.trans (hb4.mono hb2.size)⟩
  · go_enter Tryd.func7, Tryd.ntmps7
    go_wp2
    go_ret
    exact ⟨rfl, Below.refl _ _⟩
theorem fieldPads_row (s : ByteArray) (n : Int) (w : World) (hs : s.size ≤ maxLen) (h2 : -9223372036854775808 ≤ n) (h3 : n ≤ 9223372036854775807) (hL : laidMetH Tryd.prog Rows.fieldPadsRow.laid w) :
    Calls Tryd.prog 7 #[.string s, .int .i64 n] w fun e w' => e = .returned (.bool true) ∧ Below w.heap.size w w' := by
  unfold maxLen at hs
  have := fieldPads_law s.data.toList n w (by simpa using hs) h2 h3 (cardBase.etype_of_laid (by simp [Rows.fieldPadsRow]) hL)
  rwa [bs_data] at this
end Go.Proofs.YtdgfeanjeoendaaDoor
