/- The walk of the law AhsReads: it returns true. -/
import Derived.Test.YtdgfeanjeoendaaDoorAhsR
import Derived.Test.YtdgfeanjeoendaaDoorEqualAhs
import Derived.Test.YtdgfeanjeoendaaDoorCardBase
namespace Go.Proofs.YtdgfeanjeoendaaDoor
open Go.RowKit
set_option linter.unusedVariables false
set_option maxRecDepth 100000
theorem ahsRead_big (l : List UInt8) (w : World) (h : 1020 < l.length) (hl : l.length ≤ 9223372036854775807) :
    Calls Tryd.prog 27 #[.string (bs l)] w fun e w' => e = .returned (.tuple #[.slice none 0 0, .iface 23 (.int .i64 4)]) ∧ w = w' := by
  go_enter Tryd.func27, Tryd.ntmps27
  go_wp2
  go_ret2
  exact ⟨rfl, rfl⟩
theorem rahsRead_big (l : List UInt8) (w : World) (h : 1020 < l.length) (hl : l.length ≤ 9223372036854775807) :
    Calls Tryd.prog 26 #[.string (bs l)] w fun e w' => e = .returned (.tuple #[.slice none 0 0, .agg #[.int .i64 4, .int .i64 (-1)]]) ∧ Below w.heap.size w w' := by
  have hbk := heap_alloc_new w (.cells #[.int .i64 0, .int .i64 0] 46 (0, 0))
  have hc0 : (w.alloc (.cells #[.int .i64 0, .int .i64 0] 46 (0, 0))).cell? ⟨w.heap.size, 0, none⟩ = some (.int .i64 0) := by rw [cell_of_row _ _ _ _ _ _ hbk]; rfl
  have hc1 : (w.alloc (.cells #[.int .i64 0, .int .i64 0] 46 (0, 0))).cell? ⟨w.heap.size, 1, none⟩ = some (.int .i64 0) := by rw [cell_of_row _ _ _ _ _ _ hbk]; rfl
  have hf0 : (w.alloc (.cells #[.int .i64 0, .int .i64 0] 46 (0, 0))).frozen? ⟨w.heap.size, 0, none⟩ = false := frozen_of_row _ _ _ _ _ hbk
  have hf1 : (w.alloc (.cells #[.int .i64 0, .int .i64 0] 46 (0, 0))).frozen? ⟨w.heap.size, 1, none⟩ = false := frozen_of_row _ _ _ _ _ hbk
  have hsz : w.heap.size < (w.alloc (.cells #[.int .i64 0, .int .i64 0] 46 (0, 0))).heap.size := by simp
  have hb0 : Below w.heap.size w (w.alloc (.cells #[.int .i64 0, .int .i64 0] 46 (0, 0))) := (Below.refl _ _).alloc (Nat.le_refl _) _
  clear hbk
  have c1 := fun w => hid (bareF_any 4 w)
  go_enter Tryd.func26, Tryd.ntmps26
  go_wp2_with (go_at_call 62; refine (c1 _).out.mono ?_; rintro e w1 ⟨rfl, hb1⟩; have hc0 := (hb1.cell (p := ⟨w.heap.size, 0, none⟩) hsz).trans hc0; have hc1 := (hb1.cell (p := ⟨w.heap.size, 1, none⟩) hsz).trans hc1; have hf0 := (hb1.frozen (p := ⟨w.heap.size, 0, none⟩) hsz).trans hf0; have hf1 := (hb1.frozen (p := ⟨w.heap.size, 1, none⟩) hsz).trans hf1)
  exact bodyPost_ret (v := .tuple #[.slice none 0 0, .agg #[.int .i64 4, .int .i64 (-1)]]) (by simp [results, Tryd.results26, go_sem, hc0, hc1]) rfl ⟨rfl, ((hb0.trans (hb1.mono (Nat.le_of_lt hsz))).setCell (Nat.le_refl _) _).setCell (Nat.le_refl _) _⟩
theorem ahsReads_law (l : List UInt8) (w : World) (hs : l.length ≤ 9223372036854775807) (hg : EType w) :
    Calls Tryd.prog 6 #[.string (bs l)] w fun e w' => e = .returned (.bool true) ∧ Below w.heap.size w w' := by
  by_cases h11 : l.length ≤ 1100
  · by_cases hr : 1020 < l.length
    · have c1 := fun w => hid (rahsRead_big l w hr hs)
      have c2 := fun w => hid (ahsRead_big l w hr hs)
      have c3 := fun w1 (hb : Below w.heap.size w w1) => hid (placed_ok (.iface 23 (.int .i64 4)) 4 (-1) w1 (hg.below hb) (.bare 4 (by omega)))
      have c4 := fun w => hid (eqAhs_true (.slice none 0 0) (.slice none 0 0) 0 [] w (by omega) (sl_nil w 2) (sl_nil w 2))
      clear hg
      have hb0 := Below.refl w.heap.size w
      go_enter Tryd.func6, Tryd.ntmps6
      go_wp2_with fail
      refine (c1 _).out.mono ?_; rintro e w1 ⟨rfl, hb1⟩
      go_wp2_with fail
      refine (c2 _).out.mono ?_; rintro e w1 ⟨rfl, rfl⟩
      go_wp2_with fail
      have hbA := (hb0.trans (hb1.mono hb0.size)).alloc (Nat.le_trans hb0.size hb1.size)
      refine (c3 _ (hbA _)).out.mono ?_; rintro e w3 ⟨rfl, hb3⟩
      have hbB := (hbA _).trans (hb3.mono (hbA _).size)
      go_wp2_with fail
      refine (c4 _).out.mono ?_; rintro e w4 ⟨rfl, hb4⟩
      go_wp2_with fail
      go_ret
      exact ⟨rfl, hbB.trans (hb4.mono hbB.size)⟩
    · have hle : ∀ f rest at_, 4 * (ahsP f rest at_).1.length ≤ rest.length + 3 := by
        intro f
        induction f with
        | zero => intro rest at_; simp [ahsP]
        | succ f ih =>
          intro rest at_
          rw [ahsP]
          split
          · simp
          · split
            · simp
            · split
              · have := ih (rest.drop (3 + num (rest.take 2) + padN (3 + num (rest.take 2)))) (at_ + (3 + num (rest.take 2) + padN (3 + num (rest.take 2))))
                have hp : 4 ≤ 3 + num (rest.take 2) + padN (3 + num (rest.take 2)) := by unfold padN; omega
                simp only [List.length_cons, List.length_drop] at this ⊢
                omega
              · simp
      have hle := hle (l.length + 1) l 0
      have hX : ∀ (b : Prop) [Decidable b] (xs : List (Nat × List UInt8)), (if b then ahsCells xs else []) = ahsCells (if b then xs else []) := by intro b _ xs; split <;> rfl
      have c1 := fun w => hid (rahsRead_any l w (by omega))
      have c2 := fun w1 (hb : Below w.heap.size w w1) => hid (ahsRead_any l w1 (by omega) (hg.below hb))
      unfold AhsRPost at c1
      unfold AhsPost at c2
      simp only [hX] at c1 c2
      have hn : (if (ahsP (l.length + 1) l 0).2.1 = 0 then (ahsP (l.length + 1) l 0).1.length else 0) ≤ 4611686018427387904 := by split <;> omega
      generalize (if (ahsP (l.length + 1) l 0).2.1 = 0 then (ahsP (l.length + 1) l 0).1.length else 0) = n at *
      generalize (if (ahsP (l.length + 1) l 0).2.1 = 0 then (ahsP (l.length + 1) l 0).1 else []) = xs at *
      generalize (ahsP (l.length + 1) l 0).2.1 = k at *
      generalize (ahsP (l.length + 1) l 0).2.2 = pl at *
      have c3 := fun v w1 (hb : Below w.heap.size w w1) hv => hid (placed_ok v k pl w1 (hg.below hb) hv)
      have c4 := fun v1 v2 w h1 h2 => hid (eqAhs_true v1 v2 n xs w hn h1 h2)
      have hb0 := Below.refl w.heap.size w
      clear hg hX hle hn
      go_enter Tryd.func6, Tryd.ntmps6
      go_wp2_with fail
      refine (c1 _).out.mono ?_; rintro e w1 ⟨⟨v1, rfl, hs1⟩, hb1⟩
      unfold faultV
      go_wp2_with fail
      have hbA := (hb0.trans (hb1.mono hb0.size)).alloc (Nat.le_trans hb0.size hb1.size)
      refine (c2 _ (hbA _)).out.mono ?_
      rintro e w2 ⟨⟨v2, er, rfl, her, hs2⟩, hb2⟩
      have hbk := heap_alloc_new w1 (.cells #[.int .i64 k, .int .i64 pl] 46 (0, 0))
      have hsz : w1.heap.size < (w1.alloc (.cells #[.int .i64 k, .int .i64 pl] 46 (0, 0))).heap.size := by simp
      have hc0 : w2.cell? ⟨w1.heap.size, 0, none⟩ = some (.int .i64 k) := (hb2.cell (p := ⟨w1.heap.size, 0, none⟩) hsz).trans (by rw [cell_of_row _ _ _ _ _ _ hbk]; rfl)
      have hc1 : w2.cell? ⟨w1.heap.size, 1, none⟩ = some (.int .i64 pl) := (hb2.cell (p := ⟨w1.heap.size, 1, none⟩) hsz).trans (by rw [cell_of_row _ _ _ _ _ _ hbk]; rfl)
      have hbB := (hbA _).trans (hb2.mono (hbA _).size)
      have hs1 := (hs1.below (by omega) ((Below.refl _ _).alloc (Nat.le_refl _) _)).below (by omega) hb2
      clear hbk hsz hbA
      go_wp2_with fail
      refine (c3 _ _ hbB her).out.mono ?_; rintro e w3 ⟨rfl, hb3⟩
      have hs1 := hs1.below (by omega) hb3
      have hs2 := hs2.below (by omega) hb3
      have hbC := hbB.trans (hb3.mono hbB.size)
      go_wp2_with fail
      refine (c4 _ _ _ hs1 hs2).out.mono ?_; rintro e w4 ⟨rfl, hb4⟩
      go_wp2_with fail
      go_ret
      exact ⟨rfl, hbC.trans (hb4.mono hbC.size)⟩
  · go_enter Tryd.func6, Tryd.ntmps6
    go_wp2
    go_ret
    exact ⟨rfl, Below.refl _ _⟩
theorem ahsReads_row (s : ByteArray) (w : World) (hs : s.size ≤ maxLen) (hL : laidMetH Tryd.prog Rows.ahsReadsRow.laid w) :
    Calls Tryd.prog 6 #[.string s] w fun e w' => e = .returned (.bool true) ∧ Below w.heap.size w w' := by
  unfold maxLen at hs
  have := ahsReads_law s.data.toList w (by simpa using hs) (cardBase.etype_of_laid (by simp [Rows.ahsReadsRow]) hL)
  rwa [bs_data] at this
end Go.Proofs.YtdgfeanjeoendaaDoor
