/- The walk of the law GatherSplits: it returns true. -/
import Derived.Test.YtdgfeanjeoendaaDoorSplit
import Derived.Test.YtdgfeanjeoendaaDoorEqual
import Derived.Test.YtdgfeanjeoendaaDoorCardBase
namespace Go.Proofs.YtdgfeanjeoendaaDoor
open Go.RowKit
set_option linter.unusedVariables false
set_option maxRecDepth 100000
theorem gsplit_err (l : List UInt8) (size : Int) (w : World) (h : size < 1 ∨ 20000 < size) :
    Calls Tryd.prog 14 #[.string (bs l), .int .i64 size] w fun e w' => e = .returned (.tuple #[.slice none 0 0, .iface 23 (.int .i64 2)]) ∧ w = w' := by
  rcases h with h | h
  · go_enter Tryd.func14, Tryd.ntmps14
    go_wp2
    go_ret2
    exact ⟨rfl, rfl⟩
  · have h' : ¬ size < 1 := by omega
    go_enter Tryd.func14, Tryd.ntmps14
    go_wp2
    go_ret2
    exact ⟨rfl, rfl⟩
theorem rsplit_err (l : List UInt8) (size : Int) (w : World) (h : size < 1 ∨ 20000 < size) :
    Calls Tryd.prog 13 #[.string (bs l), .int .i64 size] w fun e w' => e = .returned (.tuple #[.slice none 0 0, .int .i64 2]) ∧ w = w' := by
  have Hh := hid h; clear h
  go_enter Tryd.func13, Tryd.ntmps13
  go_wp2_with (go_at_call 59; refine (within_false _ _ _ _ Hh.out).mono ?_; rintro e w' ⟨rfl, rfl⟩)
  go_ret2
  exact ⟨rfl, rfl⟩
theorem gatherSplits_law (l : List UInt8) (size : Int) (w : World) (hs : l.length ≤ 9223372036854775807) (hg : EType w) :
    Calls Tryd.prog 3 #[.string (bs l), .int .i64 size] w fun e w' => e = .returned (.bool true) ∧ Below w.heap.size w w' := by
  by_cases h15 : l.length ≤ 1500
  · by_cases hr : size < 1 ∨ 20000 < size
    · have c1 := fun w => hid (rsplit_err l size w hr)
      have c2 := fun w => hid (gsplit_err l size w hr)
      have c3 := fun w1 (hb : Below w.heap.size w w1) => hid (bare_ok (.iface 23 (.int .i64 2)) 2 w1 (hg.below hb) (.bare 2 (by omega)))
      have c4 := fun w => hid (eqStr_true (.slice none 0 0) (.slice none 0 0) 0 [] w (by omega) (sl_nil w 1) (sl_nil w 1))
      clear hg hr
      go_enter Tryd.func3, Tryd.ntmps3
      go_wp2_with fail
      refine (c1 _).out.mono ?_; rintro e w1 ⟨rfl, rfl⟩
      go_wp2_with fail
      refine (c2 _).out.mono ?_; rintro e w1 ⟨rfl, rfl⟩
      go_wp2_with fail
      refine (c3 _ (Below.refl _ _)).out.mono ?_; rintro e w1 ⟨rfl, hb1⟩
      go_wp2_with fail
      refine (c4 _).out.mono ?_; rintro e w2 ⟨rfl, hb2⟩
      go_wp2_with fail
      go_ret
      exact ⟨rfl, hb1.trans (hb2.mono hb1.size)⟩
    · obtain ⟨k, rfl⟩ := Int.eq_ofNat_of_zero_le (show 0 ≤ size by omega)
      have c1 := fun w => hid (rsplit_any l k w h15 (by omega) (by omega))
      have c2 := fun w => hid (gsplit_any l k w h15 (by omega) (by omega))
      have c3 := fun w1 (hb : Below w.heap.size w w1) => hid (bare_ok .nilIface 0 w1 (hg.below hb) .nil)
      have hp : pieces k l = ((List.range (piecesN k l)).map fun j => (l.drop (j * k)).take k).map fun s => .string (bs s) := by
        rw [List.map_map]; rfl
      have hn : piecesN k l ≤ 4611686018427387904 := by
        unfold piecesN
        split
        · omega
        · exact Nat.le_trans (Nat.div_le_self _ _) (by omega)
      have c4 := fun v1 v2 w h1 h2 => hid (eqStr_true v1 v2 (piecesN k l) ((List.range (piecesN k l)).map fun j => (l.drop (j * k)).take k) w hn (hp ▸ h1) (hp ▸ h2))
      clear hg hr hp hn
      go_enter Tryd.func3, Tryd.ntmps3
      go_wp2_with fail
      refine (c1 _).out.mono ?_; rintro e w1 ⟨⟨v1, rfl, ho1⟩, hb1⟩
      have hs1 := sl_of_owns ho1
      clear ho1
      go_wp2_with fail
      refine (c2 _).out.mono ?_; rintro e w2 ⟨⟨v2, rfl, ho2⟩, hb2⟩
      have hs2 := sl_of_owns ho2
      have hs1 := hs1.below (by omega) hb2
      have hb2 := hb1.trans (hb2.mono hb1.size)
      clear ho2
      go_wp2_with fail
      refine (c3 _ hb2).out.mono ?_; rintro e w3 ⟨rfl, hb3⟩
      have hs1 := hs1.below (by omega) hb3
      have hs2 := hs2.below (by omega) hb3
      have hb3 := hb2.trans (hb3.mono hb2.size)
      go_wp2_with fail
      refine (c4 _ _ _ hs1 hs2).out.mono ?_; rintro e w4 ⟨rfl, hb4⟩
      go_wp2_with fail
      go_ret
      exact ⟨rfl, hb3.trans (hb4.mono hb3.size)⟩
  · go_enter Tryd.func3, Tryd.ntmps3
    go_wp2
    go_ret
    exact ⟨rfl, Below.refl _ _⟩
theorem gatherSplits_row (s : ByteArray) (size : Int) (w : World) (hs : s.size ≤ maxLen) (_ : -9223372036854775808 ≤ size) (_ : size ≤ 9223372036854775807) (hL : laidMetH Tryd.prog Rows.gatherSplitsRow.laid w) :
    Calls Tryd.prog 3 #[.string s, .int .i64 size] w fun e w' => e = .returned (.bool true) ∧ Below w.heap.size w w' := by
  unfold maxLen at hs
  have := gatherSplits_law s.data.toList size w (by simpa using hs) (cardBase.etype_of_laid (by simp [Rows.gatherSplitsRow]) hL)
  rwa [bs_data] at this
end Go.Proofs.YtdgfeanjeoendaaDoor
