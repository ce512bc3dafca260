/- strings.Index, Cut and Split at a separator of one byte. -/
import Derived.Test.YtbbnnhaboegedaaDoorSplitPure
import Derived.Test.YtbbnnhaboegedaaDoorBase
import Derived.Test.YtbbnnhaboegedaaDoorShelfI
import Derived.Deep.QuietTactic
import Derived.BigQuiet
namespace Go.Proofs.YtbbnnhaboegedaaDoor
open Go.RowKit
set_option linter.unusedVariables false
set_option maxRecDepth 100000
theorem sArr_bs (l : List (List UInt8)) : sArr l = (l.map fun x => Value.string (bs x)).toArray := rfl
theorem sIndex1_any (l : List UInt8) (c : UInt8) (w : World) :
    Calls Tryd.prog 81 #[.string (bs l), .string (bs [c])] w fun e w' => e = .returned (.int .i64 (Lib.indexByte l c)) ∧ w' = w := by
  have := Tryd.strings_Index_one (bs l) c w
  simpa [bs] using this
theorem lIndex1_any (l : List UInt8) (c : UInt8) (w : World) :
    Calls Tryd.prog 82 #[.string (bs l), .string (bs [c])] w fun e w' => e = .returned (.int .i64 (Lib.indexByte l c)) ∧ w' = w := by
  have := Tryd.stringslite_Index_one (bs l) c w
  simpa [bs] using this
theorem sCount1_any (l : List UInt8) (c : UInt8) (w : World) :
    Calls Tryd.prog 80 #[.string (bs l), .string (bs [c])] w fun e w' => e = .returned (.int .i64 (l.count c : Nat)) ∧ w' = w := by
  have := Tryd.strings_Count_one (bs l) c w
  simpa [bs, Lib.countByte] using this
def CutPost (c : UInt8) (l : List UInt8) (w : World) (e : Ending) (w' : World) : Prop :=
  e = .returned (.tuple #[.string (bs (cutL c l).1), .string (bs (cutL c l).2.1), .bool (cutL c l).2.2]) ∧ ∃ n, w' = w.drewN n
theorem lCut1_any (l : List UInt8) (c : UInt8) (w : World) (hl : l.length ≤ 9223372036854775807) :
    Calls Tryd.prog 63 #[.string (bs l), .string (bs [c])] w fun e w' => CutPost c l w e w' := by
  have c1 := fun w => hid (lIndex1_any l c w)
  rcases idx_cases l c with ⟨h1, h2⟩ | ⟨i, h1, hi, h3, h4⟩
  · rw [h1] at c1
    have hc := hid (cutL_none c l h2)
    clear h1 h2
    go_enter Tryd.func63, Tryd.ntmps63
    go_wp2_with (go_at_call 82; refine (c1 _).out.mono ?_; rintro e w1 ⟨rfl, rfl⟩)
    go_ret3
    refine ⟨?_, 0, rfl⟩
    rw [hc.out]; rfl
  · rw [h1] at c1
    have hc := hid (cutL_idx c l i h3 h4)
    clear h1 h3 h4
    have s1 : IntKind.i64.wrap ((i : Int) + 1) = (i : Int) + 1 := by rw [IntKind.wrap_i64]; omega
    have s2 : (0 : Int) ≤ (i : Int) + 1 := by omega
    have s3 : ((i : Int) + 1).toNat = i + 1 := by omega
    have s4 : (i : Int) + 1 ≤ (l.length : Int) := by omega
    have s5 : (i : Int) ≤ (l.length : Int) := by omega
    go_enter Tryd.func63, Tryd.ntmps63
    go_wp2_with (go_at_call 82; refine (c1 _).out.mono ?_; rintro e w1 ⟨rfl, rfl⟩)
    go_quiet (fail)
    go_wp2
    go_ret3
    refine ⟨?_, _, rfl⟩
    rw [hc.out]
    simp [go_sem]
theorem cut1_any (l : List UInt8) (c : UInt8) (w : World) (hl : l.length ≤ 9223372036854775807) :
    Calls Tryd.prog 49 #[.string (bs l), .string (bs [c])] w fun e w' => CutPost c l w e w' := by
  have c1 := fun w => hid (lCut1_any l c w hl)
  unfold CutPost at c1 ⊢
  generalize cutL c l = r at *
  obtain ⟨r1, r2, r3⟩ := r
  simp only at c1 ⊢
  go_enter Tryd.func49, Tryd.ntmps49
  go_wp2_with (go_at_call 63; refine (c1 _).out.mono ?_; rintro e w1 ⟨rfl, n, rfl⟩)
  go_ret3
  exact ⟨rfl, _, rfl⟩
theorem make_strs {P : Program} (t e : TypeId) (ht : P.underlying t = some (.slice e)) (hi : (P.info? e).map (fun i => (i.zero, i.size, i.bytes)) = some (some (.string ⟨#[]⟩), 1, 16)) (n : Nat) (h : n ≤ 17592186044416) (w : World) :
    (Instr.makeSlice t (.int .i64 (n : Int)) (.int .i64 (n : Int))).run P w = .ok (.slice (some ⟨w.heap.size, 0, none⟩) n n) (w.alloc (.cells (sArr (List.replicate n [])) e)) := by
  obtain ⟨i, h1, h2, h3, h4⟩ := info_parts hi
  have := run_make (P := P) w t e i (.string ⟨#[]⟩) ht h1 h2 .i64 .i64 (n : Int) (n : Int) (by omega) (by omega) (by rw [h4]; omega) (by omega)
  rw [this, h3]
  simp [madeCells, sArr, Value.cells, List.map_replicate]
  congr 3
  apply Array.ext
  · simp
  · intro k _ _; simp [Nat.mod_one]
end Go.Proofs.YtbbnnhaboegedaaDoor
