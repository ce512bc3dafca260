/- The walk of the law PairsParses: it returns true. -/
import Derived.Test.YtbbnnhaboegedaaDoorUnpairs
import Derived.Test.YtbbnnhaboegedaaDoorEqualPairs
import Derived.Test.YtbbnnhaboegedaaDoorCardBase
import Derived.Deep.RegionHeld3
namespace Go.Proofs.YtbbnnhaboegedaaDoor
open Go.RowKit
set_option linter.unusedVariables false
set_option maxRecDepth 100000
theorem parseP_len (f : Nat) (s : List UInt8) (i : Nat) (hi : i ≤ 60) : (parseP f s i).1.length + i ≤ 60 := by
  induction f generalizing s i with
  | zero => simp [parseP]; omega
  | succ f ih =>
    by_cases h0 : s = []
    · subst h0; rw [parseP_nil]; simp; omega
    · rw [parseP_succ f s i h0]
      split
      · simp; omega
      · split
        · simp; omega
        · split
          · simp; omega
          · split
            · simp; omega
            · split
              · simp; omega
              · have := ih (cutL 0 s).2.1 (i + 1) (by omega)
                simp; omega
set_option maxHeartbeats 4000000 in
theorem pairsParses_law (l : List UInt8) (w : World) (hl : l.length ≤ 9223372036854775807) (hg : EType w) :
    Calls Tryd.prog 5 #[.string (bs l)] w fun e w' => e = .returned (.bool true) ∧ Below w.heap.size w w' := by
  by_cases h3 : 3000 < l.length
  · have h3b : decide ((3000 : Int) < (l.length : Int)) = true := decide_eq_true (by omega)
    go_enter Tryd.func5, Tryd.ntmps5
    go_wp2
    go_ret
    exact ⟨rfl, Below.refl _ _⟩
  have h3b : decide ((3000 : Int) < (l.length : Int)) = false := decide_eq_false (by omega)
  have hb0 := Below.refl w.heap.size w
  have c1 := fun w => hid (unpairs_any l w (by omega))
  have c2 := fun w1 (hb : Below w.heap.size w w1) => hid (parse_any l w1 (by omega) (hg.below hb))
  unfold UnpPost at c1
  unfold PParsePost at c2
  have hlen := parseP_len (l.length + 1) l 0 (by omega)
  have hx : (if (parseP (l.length + 1) l 0).2.1 = 0 then (parseP (l.length + 1) l 0).1 else []).length ≤ 60 := by split <;> first | omega | simp
  generalize (if (parseP (l.length + 1) l 0).2.1 = 0 then (parseP (l.length + 1) l 0).1 else []) = xs at *
  generalize (parseP (l.length + 1) l 0).2.1 = k at *
  generalize (parseP (l.length + 1) l 0).2.2 = pl at *
  have cp := fun v w1 (hb : Below w.heap.size w w1) hv => hid (placed_ok v k pl w1 (hg.below hb) hv)
  have c4 := fun v1 v2 w1 h1 h2 => hid (eqPairs_true v1 v2 xs w1 (by omega) h1 h2)
  clear hg hlen
  unfold faultV at c1
  go_enter Tryd.func5, Tryd.ntmps5
  go_wp2_with fail
  refine (c1 _).out.mono ?_; rintro e w1 ⟨⟨v1, rfl, hv1, _⟩, hb1⟩
  go_wp2_with fail
  have hbA := hb1.alloc hb1.size (.cells #[.int .i64 k, .int .i64 pl] 28 (0, 0))
  have hbk := heap_alloc_new w1 (.cells #[.int .i64 k, .int .i64 pl] 28 (0, 0))
  have hsz : w1.heap.size < (w1.alloc (.cells #[.int .i64 k, .int .i64 pl] 28 (0, 0))).heap.size := by simp
  refine (c2 _ hbA).out.mono ?_
  rintro e w2 ⟨⟨v2, er, rfl, her, hv2, _⟩, hb2⟩
  have hbB := hbA.trans (hb2.mono hbA.size)
  have hv1' := (hv1.below ((Below.refl w1.heap.size w1).alloc (Nat.le_refl _) (.cells #[.int .i64 k, .int .i64 pl] 28 (0, 0)))).below hb2
  have hbk2 := (hb2.block w1.heap.size hsz).trans hbk
  have hc0 : w2.cell? ⟨w1.heap.size, 0, none⟩ = some (.int .i64 k) := by rw [cell_of_row _ _ _ _ _ _ hbk2]; rfl
  have hc1 : w2.cell? ⟨w1.heap.size, 1, none⟩ = some (.int .i64 pl) := by rw [cell_of_row _ _ _ _ _ _ hbk2]; rfl
  clear hbk hbk2 hsz hbA hb2 hb1 c1 c2 hv1
  go_wp2_with fail
  refine (cp _ _ hbB her).out.mono ?_; rintro e w5 ⟨rfl, hb5⟩
  have hbE := hbB.trans (hb5.mono hbB.size)
  go_wp2_with fail
  refine (c4 _ _ _ (hv1'.below hb5) (hv2.below hb5)).out.mono ?_; rintro e w6 ⟨rfl, hb6⟩
  go_wp2_with fail
  go_ret
  exact ⟨rfl, hbE.trans (hb6.mono hbE.size)⟩
theorem pairsParses_row (s : ByteArray) (w : World) (hs : s.size ≤ maxLen) (hL : laidMetH Tryd.prog Rows.pairsParsesRow.laid w) :
    Calls Tryd.prog 5 #[.string s] w fun e w' => e = .returned (.bool true) ∧ Below w.heap.size w w' := by
  have := pairsParses_law s.data.toList w (by unfold maxLen at hs; simpa using hs) (cardBase.etype_of_laid (by simp [Rows.pairsParsesRow]) hL)
  rwa [bs_data] at this
end Go.Proofs.YtbbnnhaboegedaaDoor
