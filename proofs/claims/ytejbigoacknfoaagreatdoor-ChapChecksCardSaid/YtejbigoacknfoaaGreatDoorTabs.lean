/- The tables that the library's conversions read: from what a row lists. -/
import Derived.Test.YtejbigoacknfoaaGreatDoorCardBase
import Derived.Test.YtejbigoacknfoaaGreatDoorBinLow
import Derived.Test.YtejbigoacknfoaaGreatDoorFmt
import Derived.Lib.LaidCase
import Derived.PinnedBridge
set_option linter.unusedSectionVars false
set_option linter.unusedSimpArgs false
set_option linter.unusedVariables false
namespace Go.Proofs.YtejbigoacknfoaaGreatDoor
open Go Go.RowKit
set_option linter.unusedVariables false
set_option linter.unusedSectionVars false
set_option linter.unusedSimpArgs false
set_option maxRecDepth 100000
def dbT : List Int := [0, 1, 56, 2, 57, 49, 28, 3, 61, 58, 42, 50, 38, 29, 17, 4, 62, 47, 59, 36, 45, 43, 51, 22, 53, 39, 33, 30, 24, 18, 12, 5, 63, 55, 48, 27, 60, 41, 37, 16, 46, 35, 44, 21, 52, 32, 23, 11, 54, 26, 40, 15, 34, 20, 31, 10, 25, 14, 19, 9, 13, 8, 7, 6]
theorem dbName : Tryz.prog.globalNamed "math/bits.deBruijn64tab" = some 11 := by kernel_rfl
theorem dt_of_tab {w : World} (h : Lib.TabIs Tryz.prog w "math/bits.deBruijn64tab" .u8 dbT) : DT w :=
  ⟨Lib.TabIs.cell h dbName 1 (by decide), Lib.TabIs.cell h dbName 15 (by decide)⟩
theorem reads_of_laid {L : List (String × DataW Unit)} {w : World} (h : laidMetH Tryz.prog L w) {n : String} {d : DataW Unit} (hm : (n, d) ∈ L) (hh : d.handleName? = none) : Lib.VarReads Tryz.prog w n d :=
  Lib.laidMet.reads (laidMetH_iff.1 h).1 (List.mem_filter.2 ⟨hm, by simp [hh]⟩)
theorem lt_of_reads {w : World} (h1 : Lib.VarReads Tryz.prog w "unicode.CaseRanges" Go.Pinned.caseRanges) (h2 : Lib.VarReads Tryz.prog w "unicode/utf8.first" Go.Pinned.utf8First) (h3 : Lib.VarReads Tryz.prog w "unicode/utf8.acceptRanges" Lib.acceptData) : LT w := by
  rw [Pinned.caseRanges_eq] at h1
  rw [Pinned.utf8First_eq] at h2
  exact ⟨caseVar_of_reads (ρ := Tryz.lays159_ren) { Tryz.lays159 with } Tryz.lays159.t206 ⟨by kernel_rfl, by kernel_rfl, by kernel_rfl, by kernel_rfl, by kernel_rfl, by kernel_rfl⟩ h1,
    utf8Tabs_of_reads (ρ := Tryz.lays159_ren) { Tryz.lays159 with } ⟨by kernel_rfl, by kernel_rfl, by kernel_rfl, by kernel_rfl, by kernel_rfl, by kernel_rfl, by kernel_rfl⟩ h2 h3⟩
end Go.Proofs.YtejbigoacknfoaaGreatDoor
