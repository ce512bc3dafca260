/- The walk of the law KeysKnow: it returns true. -/
import Derived.Test.YtkkjmfllibnfcaaDoorKeyOf
import Derived.Test.YtkkjmfllibnfcaaDoorEqual
import Derived.Test.YtkkjmfllibnfcaaDoorCardBase
namespace Go.Proofs.YtkkjmfllibnfcaaDoor
open Go.RowKit
set_option linter.unusedVariables false
set_option maxRecDepth 100000
theorem keyVal_form (o : Option KR) : ∃ nm k1 k2 k3 dv b1 b2, keyVal o = .agg #[.string (bs nm), .int .i64 k1, .int .i64 k2, .int .i64 k3, .string (bs dv), .bool b1, .bool b2] := by
  cases o with
  | none => exact ⟨[], 0, 0, 0, [], false, false, rfl⟩
  | some k => exact ⟨_, _, _, _, _, _, _, rfl⟩
theorem keyErr_is (o : Option KR) (w : World) : ErrIs w (errV 26 (keyErr o)) (keyErr o) (-1) := by
  cases o with
  | none => exact .bare 5 (by omega)
  | some k => exact .nil
theorem keysKnow_law (name : List UInt8) (w : World) (hs : name.length ≤ 9223372036854775807) (hg : EType w) (hT : AS w) :
    Calls Tryd.prog 4 #[.string (bs name)] w fun e w' => e = .returned (.bool true) ∧ Below w.heap.size w w' := by
  by_cases h15 : 100 < name.length
  · go_enter Tryd.func4, Tryd.ntmps4
    go_wp2
    go_ret
    exact ⟨rfl, Below.refl _ _⟩
  have c1 := fun w => hid (keyOf_any name w)
  have c2 := fun w1 (hb : Below w.heap.size w w1) => hid (of_any name w1 (hT.below hb (Nat.le_refl _)))
  have c3 := fun w1 (hb : Below w.heap.size w w1) => hid (bare_ok _ _ w1 (hg.below hb) (keyErr_is (findK keyRows name) w1))
  have c4 := fun w => hid (names_any w)
  have c5 := fun w => hid (rnames_any w)
  have c6 := fun v1 v2 w h1 h2 => hid (eqStr_true v1 v2 18 (keyRows.map KR.name) w (by omega) h1 h2)
  have hcs : (keyRows.map KR.name).map (fun s => Value.string (bs s)) = keyRows.map fun k => Value.string (bs k.name) := by rw [List.map_map]; rfl
  rw [hcs] at c6
  have hk18 : keyRows.length = 18 := rfl
  unfold OfPost at c2
  unfold NamesPost at c4 c5
  rw [hk18] at c4 c5
  obtain ⟨nm, k1, k2, k3, dv, b1, b2, hkv⟩ := keyVal_form (findK keyRows name)
  rw [hkv] at c1 c2
  generalize errV 26 (keyErr (findK keyRows name)) = ev at *
  generalize keyErr (findK keyRows name) = ek at *
  generalize (keyRows.map fun k => Value.string (bs k.name)) = ns at *
  clear hkv hg hT hcs
  go_enter Tryd.func4, Tryd.ntmps4
  go_wp2_with fail
  refine (c1 _).out.mono ?_; rintro e w1 ⟨rfl, hb1⟩
  go_wp2_with fail
  have hb1' := hb1.alloc hb1.size (.cells #[.string (bs nm), .int .i64 k1, .int .i64 k2, .int .i64 k3, .string (bs dv), .bool b1, .bool b2] 25)
  refine (c2 _ hb1').out.mono ?_; rintro e w2 ⟨rfl, hb2⟩
  have B1 := (Blk.new w1 25 #[.string (bs nm), .int .i64 k1, .int .i64 k2, .int .i64 k3, .string (bs dv), .bool b1, .bool b2]).below hb2
  have hb2 := hb1'.trans (hb2.mono hb1'.size)
  have hs2 := hb2.size
  go_wp2_with fail
  have B2 := Blk.new w2 25 #[.string (bs nm), .int .i64 k1, .int .i64 k2, .int .i64 k3, .string (bs dv), .bool b1, .bool b2]
  have B1 := B1.below ((Below.refl _ _).alloc (Nat.le_refl _) (.cells #[.string (bs nm), .int .i64 k1, .int .i64 k2, .int .i64 k3, .string (bs dv), .bool b1, .bool b2] 25))
  have hb2' := hb2.alloc hs2 (.cells #[.string (bs nm), .int .i64 k1, .int .i64 k2, .int .i64 k3, .string (bs dv), .bool b1, .bool b2] 25)
  refine (c3 _ hb2').out.mono ?_; rintro e w3 ⟨rfl, hb3⟩
  have B1 := hid (B1.below hb3)
  have B2 := hid (B2.below hb3)
  have hb3 := hb2'.trans (hb3.mono hb2'.size)
  have x0 := (B1.out.cell 0).trans (show _ = some _ from rfl)
  have y0 := (B2.out.cell 0).trans (show _ = some _ from rfl)
  have x1 := (B1.out.cell 1).trans (show _ = some _ from rfl)
  have y1 := (B2.out.cell 1).trans (show _ = some _ from rfl)
  have x2 := (B1.out.cell 2).trans (show _ = some _ from rfl)
  have y2 := (B2.out.cell 2).trans (show _ = some _ from rfl)
  have x3 := (B1.out.cell 3).trans (show _ = some _ from rfl)
  have y3 := (B2.out.cell 3).trans (show _ = some _ from rfl)
  have x4 := (B1.out.cell 4).trans (show _ = some _ from rfl)
  have y4 := (B2.out.cell 4).trans (show _ = some _ from rfl)
  have x5 := (B1.out.cell 5).trans (show _ = some _ from rfl)
  have y5 := (B2.out.cell 5).trans (show _ = some _ from rfl)
  have x6 := (B1.out.cell 6).trans (show _ = some _ from rfl)
  have y6 := (B2.out.cell 6).trans (show _ = some _ from rfl)
  go_wp2_with fail
  refine (c4 _).out.mono ?_; rintro e w4 ⟨v1, rfl, ho1, hb4⟩
  have hs1 := sl_of_owns ho1
  have hb4 := hb3.trans (hb4.mono hb3.size)
  clear ho1
  go_wp2_with fail
  refine (c5 _).out.mono ?_; rintro e w5 ⟨v2, rfl, ho2, hb5⟩
  have hs2 := sl_of_owns ho2
  have hs1 := hs1.below (by omega) hb5
  have hb5 := hb4.trans (hb5.mono hb4.size)
  clear ho2
  go_wp2_with fail
  refine (c6 _ _ _ hs1 hs2).out.mono ?_; rintro e w6 ⟨rfl, hb6⟩
  go_wp2_with fail
  go_ret
  exact ⟨rfl, hb5.trans (hb6.mono hb5.size)⟩
theorem keysKnow_row (s : ByteArray) (w : World) (hs : s.size ≤ maxLen) (hL : laidMetH Tryd.prog Rows.keysKnowRow.laid w) :
    Calls Tryd.prog 4 #[.string s] w fun e w' => e = .returned (.bool true) ∧ Below w.heap.size w w' := by
  unfold maxLen at hs
  have := keysKnow_law s.data.toList w (by simpa using hs) (cardBase.etype_of_laid (by simp [Rows.keysKnowRow]) hL) (by
    exact cardBase.tab_of_laid (n := 256) (t := 68) (e := 5) (L := Rows.keysKnowRow.laid) (by kernel_rfl) asName (by kernel_rfl) Tryd.underlying68 Tryd.underlying5 (by kernel_rfl) (by kernel_rfl) hL)
  rwa [bs_data] at this
end Go.Proofs.YtkkjmfllibnfcaaDoor
