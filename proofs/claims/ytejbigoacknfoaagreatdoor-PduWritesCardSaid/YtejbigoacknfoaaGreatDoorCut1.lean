/- strings.Index, Cut and Split at a separator of one byte. -/
import Derived.Test.YtejbigoacknfoaaGreatDoorSplitPure
import Derived.Test.YtejbigoacknfoaaGreatDoorBase
import Derived.Test.YtejbigoacknfoaaGreatDoorShelfI
import Derived.Deep.QuietTactic
import Derived.BigQuiet
set_option linter.unusedSectionVars false
set_option linter.unusedSimpArgs false
set_option linter.unusedVariables false
namespace Go.Proofs.YtejbigoacknfoaaGreatDoor
open Go.RowKit
set_option linter.unusedVariables false
set_option maxRecDepth 100000
theorem sArr_bs (l : List (List UInt8)) : sArr l = (l.map fun x => Value.string (bs x)).toArray := rfl
theorem sIndex1_any (l : List UInt8) (c : UInt8) (w : World) :
    Calls Tryz.prog 113 #[.string (bs l), .string (bs [c])] w fun e w' => e = .returned (.int .i64 (Lib.indexByte l c)) ∧ w' = w := by
  have := Tryz.strings_Index_one (bs l) c w
  simpa [bs] using this
theorem lIndex1_any (l : List UInt8) (c : UInt8) (w : World) :
    Calls Tryz.prog 157 #[.string (bs l), .string (bs [c])] w fun e w' => e = .returned (.int .i64 (Lib.indexByte l c)) ∧ w' = w := by
  have := Tryz.stringslite_Index_one (bs l) c w
  simpa [bs] using this
theorem sCount1_any (l : List UInt8) (c : UInt8) (w : World) :
    Calls Tryz.prog 130 #[.string (bs l), .string (bs [c])] w fun e w' => e = .returned (.int .i64 (l.count c : Nat)) ∧ w' = w := by
  have := Tryz.strings_Count_one (bs l) c w
  simpa [bs, Lib.countByte] using this
theorem make_strs {P : Program} (t e : TypeId) (ht : P.underlying t = some (.slice e)) (hi : (P.info? e).map (fun i => (i.zero, i.size, i.bytes)) = some (some (.string ⟨#[]⟩), 1, 16)) (n : Nat) (h : n ≤ 17592186044416) (w : World) :
    (Instr.makeSlice t (.int .i64 (n : Int)) (.int .i64 (n : Int))).run P w = .ok (.slice (some ⟨w.heap.size, 0, none⟩) n n) (w.alloc (.cells (sArr (List.replicate n [])) e)) := by
  obtain ⟨i, h1, h2, h3, h4⟩ := info_parts hi
  have := run_make (P := P) w t e i (.string ⟨#[]⟩) ht h1 h2 .i64 .i64 (n : Int) (n : Int) (by omega) (by omega) (by rw [h4]; omega) (by omega)
  rw [this, h3]
  simp [madeCells, sArr, Value.cells, List.map_replicate]
  congr 3
  apply Array.ext
  · simp
  · intro k _ _; simp [Nat.mod_one]
end Go.Proofs.YtejbigoacknfoaaGreatDoor
