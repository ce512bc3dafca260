/- The document's rows of PDUs: what quaymasterref.kinds returns. -/
import Derived.Test.YtbimlijhgeajjaaGreatDoorKindsOps
set_option linter.unusedSectionVars false
set_option linter.unusedSimpArgs false
set_option linter.unusedVariables false
namespace Go.Proofs.YtbimlijhgeajjaaGreatDoor
open Go Go.RowKit
set_option linter.unusedVariables false
set_option linter.unusedSectionVars false
set_option linter.unusedSimpArgs false
set_option maxRecDepth 100000
def kSpecs : List Sp := [
  .top,
  .ptr ⟨[76, 85, 78], 8, 8⟩,
  .ptr ⟨[73, 84, 84], 16, 4⟩,
  .ptr ⟨[84, 84, 84], 20, 4⟩,
  .ptr ⟨[67, 109, 100, 83, 78], 24, 4⟩,
  .ptr ⟨[69, 120, 112, 83, 116, 97, 116, 83, 78], 28, 4⟩,
  .ptr ⟨[83, 116, 97, 116, 83, 78], 24, 4⟩,
  .ptr ⟨[69, 120, 112, 67, 109, 100, 83, 78], 28, 4⟩,
  .ptr ⟨[77, 97, 120, 67, 109, 100, 83, 78], 32, 4⟩,
  .ptr ⟨[73, 83, 73, 68], 8, 6⟩,
  .ptr ⟨[84, 83, 73, 72], 14, 2⟩,
  .fn,
  .any,
  .any,
  .any,
  .any,
  .any,
  .any,
  .any,
  .any,
  .any,
  .any,
  .fn,
  .fld ⟨[76, 85, 78], 8, 8⟩,
  .fld ⟨[73, 84, 84], 16, 4⟩,
  .fld ⟨[84, 84, 84], 20, 4⟩,
  .fld ⟨[67, 109, 100, 83, 78], 24, 4⟩,
  .fld ⟨[69, 120, 112, 83, 116, 97, 116, 83, 78], 28, 4⟩,
  .fs [⟨[76, 85, 78], 8, 8⟩, ⟨[73, 84, 84], 16, 4⟩, ⟨[84, 84, 84], 20, 4⟩, ⟨[67, 109, 100, 83, 78], 24, 4⟩, ⟨[69, 120, 112, 83, 116, 97, 116, 83, 78], 28, 4⟩],
  .fs [⟨[76, 85, 78], 8, 8⟩, ⟨[73, 84, 84], 16, 4⟩, ⟨[84, 84, 84], 20, 4⟩, ⟨[67, 109, 100, 83, 78], 24, 4⟩, ⟨[69, 120, 112, 83, 116, 97, 116, 83, 78], 28, 4⟩],
  .kd (headRows.getD 0 ⟨0, [], 0, []⟩),
  .fn,
  .fld ⟨[76, 85, 78], 8, 8⟩,
  .fld ⟨[73, 84, 84], 16, 4⟩,
  .fld ⟨[76, 101, 110, 103, 116, 104], 20, 4⟩,
  .fld ⟨[67, 109, 100, 83, 78], 24, 4⟩,
  .fld ⟨[69, 120, 112, 83, 116, 97, 116, 83, 78], 28, 4⟩,
  .fld ⟨[67, 100, 98, 65], 32, 8⟩,
  .fld ⟨[67, 100, 98, 66], 40, 8⟩,
  .fs [⟨[76, 85, 78], 8, 8⟩, ⟨[73, 84, 84], 16, 4⟩, ⟨[76, 101, 110, 103, 116, 104], 20, 4⟩, ⟨[67, 109, 100, 83, 78], 24, 4⟩, ⟨[69, 120, 112, 83, 116, 97, 116, 83, 78], 28, 4⟩, ⟨[67, 100, 98, 65], 32, 8⟩, ⟨[67, 100, 98, 66], 40, 8⟩],
  .fs [⟨[76, 85, 78], 8, 8⟩, ⟨[73, 84, 84], 16, 4⟩, ⟨[76, 101, 110, 103, 116, 104], 20, 4⟩, ⟨[67, 109, 100, 83, 78], 24, 4⟩, ⟨[69, 120, 112, 83, 116, 97, 116, 83, 78], 28, 4⟩, ⟨[67, 100, 98, 65], 32, 8⟩, ⟨[67, 100, 98, 66], 40, 8⟩],
  .kd (headRows.getD 1 ⟨0, [], 0, []⟩),
  .fn,
  .fld ⟨[76, 85, 78], 8, 8⟩,
  .fld ⟨[73, 84, 84], 16, 4⟩,
  .fld ⟨[82, 101, 102, 84, 97, 103], 20, 4⟩,
  .fld ⟨[67, 109, 100, 83, 78], 24, 4⟩,
  .fld ⟨[69, 120, 112, 83, 116, 97, 116, 83, 78], 28, 4⟩,
  .fld ⟨[82, 101, 102, 67, 109, 100, 83, 78], 32, 4⟩,
  .fld ⟨[69, 120, 112, 68, 97, 116, 97, 83, 78], 36, 4⟩,
  .fs [⟨[76, 85, 78], 8, 8⟩, ⟨[73, 84, 84], 16, 4⟩, ⟨[82, 101, 102, 84, 97, 103], 20, 4⟩, ⟨[67, 109, 100, 83, 78], 24, 4⟩, ⟨[69, 120, 112, 83, 116, 97, 116, 83, 78], 28, 4⟩, ⟨[82, 101, 102, 67, 109, 100, 83, 78], 32, 4⟩, ⟨[69, 120, 112, 68, 97, 116, 97, 83, 78], 36, 4⟩],
  .fs [⟨[76, 85, 78], 8, 8⟩, ⟨[73, 84, 84], 16, 4⟩, ⟨[82, 101, 102, 84, 97, 103], 20, 4⟩, ⟨[67, 109, 100, 83, 78], 24, 4⟩, ⟨[69, 120, 112, 83, 116, 97, 116, 83, 78], 28, 4⟩, ⟨[82, 101, 102, 67, 109, 100, 83, 78], 32, 4⟩, ⟨[69, 120, 112, 68, 97, 116, 97, 83, 78], 36, 4⟩],
  .kd (headRows.getD 2 ⟨0, [], 0, []⟩),
  .fn,
  .fld ⟨[86, 101, 114, 115, 105, 111, 110, 77, 97, 120], 2, 1⟩,
  .fld ⟨[86, 101, 114, 115, 105, 111, 110, 77, 105, 110], 3, 1⟩,
  .fld ⟨[73, 83, 73, 68], 8, 6⟩,
  .fld ⟨[84, 83, 73, 72], 14, 2⟩,
  .fld ⟨[73, 84, 84], 16, 4⟩,
  .fld ⟨[67, 73, 68], 20, 2⟩,
  .fld ⟨[67, 109, 100, 83, 78], 24, 4⟩,
  .fld ⟨[69, 120, 112, 83, 116, 97, 116, 83, 78], 28, 4⟩,
  .fs [⟨[86, 101, 114, 115, 105, 111, 110, 77, 97, 120], 2, 1⟩, ⟨[86, 101, 114, 115, 105, 111, 110, 77, 105, 110], 3, 1⟩, ⟨[73, 83, 73, 68], 8, 6⟩, ⟨[84, 83, 73, 72], 14, 2⟩, ⟨[73, 84, 84], 16, 4⟩, ⟨[67, 73, 68], 20, 2⟩, ⟨[67, 109, 100, 83, 78], 24, 4⟩, ⟨[69, 120, 112, 83, 116, 97, 116, 83, 78], 28, 4⟩],
  .fs [⟨[86, 101, 114, 115, 105, 111, 110, 77, 97, 120], 2, 1⟩, ⟨[86, 101, 114, 115, 105, 111, 110, 77, 105, 110], 3, 1⟩, ⟨[73, 83, 73, 68], 8, 6⟩, ⟨[84, 83, 73, 72], 14, 2⟩, ⟨[73, 84, 84], 16, 4⟩, ⟨[67, 73, 68], 20, 2⟩, ⟨[67, 109, 100, 83, 78], 24, 4⟩, ⟨[69, 120, 112, 83, 116, 97, 116, 83, 78], 28, 4⟩],
  .kd (headRows.getD 3 ⟨0, [], 0, []⟩),
  .fn,
  .fld ⟨[76, 85, 78], 8, 8⟩,
  .fld ⟨[73, 84, 84], 16, 4⟩,
  .fld ⟨[84, 84, 84], 20, 4⟩,
  .fld ⟨[67, 109, 100, 83, 78], 24, 4⟩,
  .fld ⟨[69, 120, 112, 83, 116, 97, 116, 83, 78], 28, 4⟩,
  .fs [⟨[76, 85, 78], 8, 8⟩, ⟨[73, 84, 84], 16, 4⟩, ⟨[84, 84, 84], 20, 4⟩, ⟨[67, 109, 100, 83, 78], 24, 4⟩, ⟨[69, 120, 112, 83, 116, 97, 116, 83, 78], 28, 4⟩],
  .fs [⟨[76, 85, 78], 8, 8⟩, ⟨[73, 84, 84], 16, 4⟩, ⟨[84, 84, 84], 20, 4⟩, ⟨[67, 109, 100, 83, 78], 24, 4⟩, ⟨[69, 120, 112, 83, 116, 97, 116, 83, 78], 28, 4⟩],
  .kd (headRows.getD 4 ⟨0, [], 0, []⟩),
  .fn,
  .fld ⟨[76, 85, 78], 8, 8⟩,
  .fld ⟨[73, 84, 84], 16, 4⟩,
  .fld ⟨[84, 84, 84], 20, 4⟩,
  .fld ⟨[69, 120, 112, 83, 116, 97, 116, 83, 78], 28, 4⟩,
  .fld ⟨[68, 97, 116, 97, 83, 78], 36, 4⟩,
  .fld ⟨[79, 102, 102, 115, 101, 116], 40, 4⟩,
  .fs [⟨[76, 85, 78], 8, 8⟩, ⟨[73, 84, 84], 16, 4⟩, ⟨[84, 84, 84], 20, 4⟩, ⟨[69, 120, 112, 83, 116, 97, 116, 83, 78], 28, 4⟩, ⟨[68, 97, 116, 97, 83, 78], 36, 4⟩, ⟨[79, 102, 102, 115, 101, 116], 40, 4⟩],
  .fs [⟨[76, 85, 78], 8, 8⟩, ⟨[73, 84, 84], 16, 4⟩, ⟨[84, 84, 84], 20, 4⟩, ⟨[69, 120, 112, 83, 116, 97, 116, 83, 78], 28, 4⟩, ⟨[68, 97, 116, 97, 83, 78], 36, 4⟩, ⟨[79, 102, 102, 115, 101, 116], 40, 4⟩],
  .kd (headRows.getD 5 ⟨0, [], 0, []⟩),
  .fn,
  .fld ⟨[73, 84, 84], 16, 4⟩,
  .fld ⟨[67, 73, 68], 20, 2⟩,
  .fld ⟨[67, 109, 100, 83, 78], 24, 4⟩,
  .fld ⟨[69, 120, 112, 83, 116, 97, 116, 83, 78], 28, 4⟩,
  .fs [⟨[73, 84, 84], 16, 4⟩, ⟨[67, 73, 68], 20, 2⟩, ⟨[67, 109, 100, 83, 78], 24, 4⟩, ⟨[69, 120, 112, 83, 116, 97, 116, 83, 78], 28, 4⟩],
  .fs [⟨[73, 84, 84], 16, 4⟩, ⟨[67, 73, 68], 20, 2⟩, ⟨[67, 109, 100, 83, 78], 24, 4⟩, ⟨[69, 120, 112, 83, 116, 97, 116, 83, 78], 28, 4⟩],
  .kd (headRows.getD 6 ⟨0, [], 0, []⟩),
  .fn,
  .fld ⟨[76, 85, 78], 8, 8⟩,
  .fld ⟨[73, 84, 84], 16, 4⟩,
  .fld ⟨[84, 84, 84], 20, 4⟩,
  .fld ⟨[69, 120, 112, 83, 116, 97, 116, 83, 78], 28, 4⟩,
  .fld ⟨[66, 101, 103, 82, 117, 110], 40, 4⟩,
  .fld ⟨[82, 117, 110, 76, 101, 110, 103, 116, 104], 44, 4⟩,
  .fs [⟨[76, 85, 78], 8, 8⟩, ⟨[73, 84, 84], 16, 4⟩, ⟨[84, 84, 84], 20, 4⟩, ⟨[69, 120, 112, 83, 116, 97, 116, 83, 78], 28, 4⟩, ⟨[66, 101, 103, 82, 117, 110], 40, 4⟩, ⟨[82, 117, 110, 76, 101, 110, 103, 116, 104], 44, 4⟩],
  .fs [⟨[76, 85, 78], 8, 8⟩, ⟨[73, 84, 84], 16, 4⟩, ⟨[84, 84, 84], 20, 4⟩, ⟨[69, 120, 112, 83, 116, 97, 116, 83, 78], 28, 4⟩, ⟨[66, 101, 103, 82, 117, 110], 40, 4⟩, ⟨[82, 117, 110, 76, 101, 110, 103, 116, 104], 44, 4⟩],
  .kd (headRows.getD 7 ⟨0, [], 0, []⟩),
  .fn,
  .fld ⟨[76, 85, 78], 8, 8⟩,
  .fld ⟨[73, 84, 84], 16, 4⟩,
  .fld ⟨[84, 84, 84], 20, 4⟩,
  .fld ⟨[83, 116, 97, 116, 83, 78], 24, 4⟩,
  .fld ⟨[69, 120, 112, 67, 109, 100, 83, 78], 28, 4⟩,
  .fld ⟨[77, 97, 120, 67, 109, 100, 83, 78], 32, 4⟩,
  .fs [⟨[76, 85, 78], 8, 8⟩, ⟨[73, 84, 84], 16, 4⟩, ⟨[84, 84, 84], 20, 4⟩, ⟨[83, 116, 97, 116, 83, 78], 24, 4⟩, ⟨[69, 120, 112, 67, 109, 100, 83, 78], 28, 4⟩, ⟨[77, 97, 120, 67, 109, 100, 83, 78], 32, 4⟩],
  .fs [⟨[76, 85, 78], 8, 8⟩, ⟨[73, 84, 84], 16, 4⟩, ⟨[84, 84, 84], 20, 4⟩, ⟨[83, 116, 97, 116, 83, 78], 24, 4⟩, ⟨[69, 120, 112, 67, 109, 100, 83, 78], 28, 4⟩, ⟨[77, 97, 120, 67, 109, 100, 83, 78], 32, 4⟩],
  .kd (headRows.getD 8 ⟨0, [], 0, []⟩),
  .fn,
  .fld ⟨[82, 101, 115, 112, 111, 110, 115, 101], 2, 1⟩,
  .fld ⟨[83, 116, 97, 116, 117, 115], 3, 1⟩,
  .fld ⟨[73, 84, 84], 16, 4⟩,
  .fld ⟨[83, 110, 97, 99, 107, 84, 97, 103], 20, 4⟩,
  .fld ⟨[83, 116, 97, 116, 83, 78], 24, 4⟩,
  .fld ⟨[69, 120, 112, 67, 109, 100, 83, 78], 28, 4⟩,
  .fld ⟨[77, 97, 120, 67, 109, 100, 83, 78], 32, 4⟩,
  .fld ⟨[69, 120, 112, 68, 97, 116, 97, 83, 78], 36, 4⟩,
  .fld ⟨[66, 105, 100, 105, 82, 101, 115, 105, 100, 117, 97, 108], 40, 4⟩,
  .fld ⟨[82, 101, 115, 105, 100, 117, 97, 108], 44, 4⟩,
  .fs [⟨[82, 101, 115, 112, 111, 110, 115, 101], 2, 1⟩, ⟨[83, 116, 97, 116, 117, 115], 3, 1⟩, ⟨[73, 84, 84], 16, 4⟩, ⟨[83, 110, 97, 99, 107, 84, 97, 103], 20, 4⟩, ⟨[83, 116, 97, 116, 83, 78], 24, 4⟩, ⟨[69, 120, 112, 67, 109, 100, 83, 78], 28, 4⟩, ⟨[77, 97, 120, 67, 109, 100, 83, 78], 32, 4⟩, ⟨[69, 120, 112, 68, 97, 116, 97, 83, 78], 36, 4⟩, ⟨[66, 105, 100, 105, 82, 101, 115, 105, 100, 117, 97, 108], 40, 4⟩, ⟨[82, 101, 115, 105, 100, 117, 97, 108], 44, 4⟩],
  .fs [⟨[82, 101, 115, 112, 111, 110, 115, 101], 2, 1⟩, ⟨[83, 116, 97, 116, 117, 115], 3, 1⟩, ⟨[73, 84, 84], 16, 4⟩, ⟨[83, 110, 97, 99, 107, 84, 97, 103], 20, 4⟩, ⟨[83, 116, 97, 116, 83, 78], 24, 4⟩, ⟨[69, 120, 112, 67, 109, 100, 83, 78], 28, 4⟩, ⟨[77, 97, 120, 67, 109, 100, 83, 78], 32, 4⟩, ⟨[69, 120, 112, 68, 97, 116, 97, 83, 78], 36, 4⟩, ⟨[66, 105, 100, 105, 82, 101, 115, 105, 100, 117, 97, 108], 40, 4⟩, ⟨[82, 101, 115, 105, 100, 117, 97, 108], 44, 4⟩],
  .kd (headRows.getD 9 ⟨0, [], 0, []⟩),
  .fn,
  .fld ⟨[82, 101, 115, 112, 111, 110, 115, 101], 2, 1⟩,
  .fld ⟨[73, 84, 84], 16, 4⟩,
  .fld ⟨[83, 116, 97, 116, 83, 78], 24, 4⟩,
  .fld ⟨[69, 120, 112, 67, 109, 100, 83, 78], 28, 4⟩,
  .fld ⟨[77, 97, 120, 67, 109, 100, 83, 78], 32, 4⟩,
  .fs [⟨[82, 101, 115, 112, 111, 110, 115, 101], 2, 1⟩, ⟨[73, 84, 84], 16, 4⟩, ⟨[83, 116, 97, 116, 83, 78], 24, 4⟩, ⟨[69, 120, 112, 67, 109, 100, 83, 78], 28, 4⟩, ⟨[77, 97, 120, 67, 109, 100, 83, 78], 32, 4⟩],
  .fs [⟨[82, 101, 115, 112, 111, 110, 115, 101], 2, 1⟩, ⟨[73, 84, 84], 16, 4⟩, ⟨[83, 116, 97, 116, 83, 78], 24, 4⟩, ⟨[69, 120, 112, 67, 109, 100, 83, 78], 28, 4⟩, ⟨[77, 97, 120, 67, 109, 100, 83, 78], 32, 4⟩],
  .kd (headRows.getD 10 ⟨0, [], 0, []⟩),
  .fn,
  .fld ⟨[86, 101, 114, 115, 105, 111, 110, 77, 97, 120], 2, 1⟩,
  .fld ⟨[86, 101, 114, 115, 105, 111, 110, 65, 99, 116, 105, 118, 101], 3, 1⟩,
  .fld ⟨[73, 83, 73, 68], 8, 6⟩,
  .fld ⟨[84, 83, 73, 72], 14, 2⟩,
  .fld ⟨[73, 84, 84], 16, 4⟩,
  .fld ⟨[83, 116, 97, 116, 83, 78], 24, 4⟩,
  .fld ⟨[69, 120, 112, 67, 109, 100, 83, 78], 28, 4⟩,
  .fld ⟨[77, 97, 120, 67, 109, 100, 83, 78], 32, 4⟩,
  .fld ⟨[83, 116, 97, 116, 117, 115, 67, 108, 97, 115, 115], 36, 1⟩,
  .fld ⟨[83, 116, 97, 116, 117, 115, 68, 101, 116, 97, 105, 108], 37, 1⟩,
  .fs [⟨[86, 101, 114, 115, 105, 111, 110, 77, 97, 120], 2, 1⟩, ⟨[86, 101, 114, 115, 105, 111, 110, 65, 99, 116, 105, 118, 101], 3, 1⟩, ⟨[73, 83, 73, 68], 8, 6⟩, ⟨[84, 83, 73, 72], 14, 2⟩, ⟨[73, 84, 84], 16, 4⟩, ⟨[83, 116, 97, 116, 83, 78], 24, 4⟩, ⟨[69, 120, 112, 67, 109, 100, 83, 78], 28, 4⟩, ⟨[77, 97, 120, 67, 109, 100, 83, 78], 32, 4⟩, ⟨[83, 116, 97, 116, 117, 115, 67, 108, 97, 115, 115], 36, 1⟩, ⟨[83, 116, 97, 116, 117, 115, 68, 101, 116, 97, 105, 108], 37, 1⟩],
  .fs [⟨[86, 101, 114, 115, 105, 111, 110, 77, 97, 120], 2, 1⟩, ⟨[86, 101, 114, 115, 105, 111, 110, 65, 99, 116, 105, 118, 101], 3, 1⟩, ⟨[73, 83, 73, 68], 8, 6⟩, ⟨[84, 83, 73, 72], 14, 2⟩, ⟨[73, 84, 84], 16, 4⟩, ⟨[83, 116, 97, 116, 83, 78], 24, 4⟩, ⟨[69, 120, 112, 67, 109, 100, 83, 78], 28, 4⟩, ⟨[77, 97, 120, 67, 109, 100, 83, 78], 32, 4⟩, ⟨[83, 116, 97, 116, 117, 115, 67, 108, 97, 115, 115], 36, 1⟩, ⟨[83, 116, 97, 116, 117, 115, 68, 101, 116, 97, 105, 108], 37, 1⟩],
  .kd (headRows.getD 11 ⟨0, [], 0, []⟩),
  .fn,
  .fld ⟨[76, 85, 78], 8, 8⟩,
  .fld ⟨[73, 84, 84], 16, 4⟩,
  .fld ⟨[84, 84, 84], 20, 4⟩,
  .fld ⟨[83, 116, 97, 116, 83, 78], 24, 4⟩,
  .fld ⟨[69, 120, 112, 67, 109, 100, 83, 78], 28, 4⟩,
  .fld ⟨[77, 97, 120, 67, 109, 100, 83, 78], 32, 4⟩,
  .fs [⟨[76, 85, 78], 8, 8⟩, ⟨[73, 84, 84], 16, 4⟩, ⟨[84, 84, 84], 20, 4⟩, ⟨[83, 116, 97, 116, 83, 78], 24, 4⟩, ⟨[69, 120, 112, 67, 109, 100, 83, 78], 28, 4⟩, ⟨[77, 97, 120, 67, 109, 100, 83, 78], 32, 4⟩],
  .fs [⟨[76, 85, 78], 8, 8⟩, ⟨[73, 84, 84], 16, 4⟩, ⟨[84, 84, 84], 20, 4⟩, ⟨[83, 116, 97, 116, 83, 78], 24, 4⟩, ⟨[69, 120, 112, 67, 109, 100, 83, 78], 28, 4⟩, ⟨[77, 97, 120, 67, 109, 100, 83, 78], 32, 4⟩],
  .kd (headRows.getD 12 ⟨0, [], 0, []⟩),
  .fn,
  .fld ⟨[83, 116, 97, 116, 117, 115], 3, 1⟩,
  .fld ⟨[76, 85, 78], 8, 8⟩,
  .fld ⟨[73, 84, 84], 16, 4⟩,
  .fld ⟨[84, 84, 84], 20, 4⟩,
  .fld ⟨[83, 116, 97, 116, 83, 78], 24, 4⟩,
  .fld ⟨[69, 120, 112, 67, 109, 100, 83, 78], 28, 4⟩,
  .fld ⟨[77, 97, 120, 67, 109, 100, 83, 78], 32, 4⟩,
  .fld ⟨[68, 97, 116, 97, 83, 78], 36, 4⟩,
  .fld ⟨[79, 102, 102, 115, 101, 116], 40, 4⟩,
  .fld ⟨[82, 101, 115, 105, 100, 117, 97, 108], 44, 4⟩,
  .fs [⟨[83, 116, 97, 116, 117, 115], 3, 1⟩, ⟨[76, 85, 78], 8, 8⟩, ⟨[73, 84, 84], 16, 4⟩, ⟨[84, 84, 84], 20, 4⟩, ⟨[83, 116, 97, 116, 83, 78], 24, 4⟩, ⟨[69, 120, 112, 67, 109, 100, 83, 78], 28, 4⟩, ⟨[77, 97, 120, 67, 109, 100, 83, 78], 32, 4⟩, ⟨[68, 97, 116, 97, 83, 78], 36, 4⟩, ⟨[79, 102, 102, 115, 101, 116], 40, 4⟩, ⟨[82, 101, 115, 105, 100, 117, 97, 108], 44, 4⟩],
  .fs [⟨[83, 116, 97, 116, 117, 115], 3, 1⟩, ⟨[76, 85, 78], 8, 8⟩, ⟨[73, 84, 84], 16, 4⟩, ⟨[84, 84, 84], 20, 4⟩, ⟨[83, 116, 97, 116, 83, 78], 24, 4⟩, ⟨[69, 120, 112, 67, 109, 100, 83, 78], 28, 4⟩, ⟨[77, 97, 120, 67, 109, 100, 83, 78], 32, 4⟩, ⟨[68, 97, 116, 97, 83, 78], 36, 4⟩, ⟨[79, 102, 102, 115, 101, 116], 40, 4⟩, ⟨[82, 101, 115, 105, 100, 117, 97, 108], 44, 4⟩],
  .kd (headRows.getD 13 ⟨0, [], 0, []⟩),
  .fn,
  .fld ⟨[82, 101, 115, 112, 111, 110, 115, 101], 2, 1⟩,
  .fld ⟨[73, 84, 84], 16, 4⟩,
  .fld ⟨[83, 116, 97, 116, 83, 78], 24, 4⟩,
  .fld ⟨[69, 120, 112, 67, 109, 100, 83, 78], 28, 4⟩,
  .fld ⟨[77, 97, 120, 67, 109, 100, 83, 78], 32, 4⟩,
  .fld ⟨[84, 105, 109, 101, 50, 87, 97, 105, 116], 40, 2⟩,
  .fld ⟨[84, 105, 109, 101, 50, 82, 101, 116, 97, 105, 110], 42, 2⟩,
  .fs [⟨[82, 101, 115, 112, 111, 110, 115, 101], 2, 1⟩, ⟨[73, 84, 84], 16, 4⟩, ⟨[83, 116, 97, 116, 83, 78], 24, 4⟩, ⟨[69, 120, 112, 67, 109, 100, 83, 78], 28, 4⟩, ⟨[77, 97, 120, 67, 109, 100, 83, 78], 32, 4⟩, ⟨[84, 105, 109, 101, 50, 87, 97, 105, 116], 40, 2⟩, ⟨[84, 105, 109, 101, 50, 82, 101, 116, 97, 105, 110], 42, 2⟩],
  .fs [⟨[82, 101, 115, 112, 111, 110, 115, 101], 2, 1⟩, ⟨[73, 84, 84], 16, 4⟩, ⟨[83, 116, 97, 116, 83, 78], 24, 4⟩, ⟨[69, 120, 112, 67, 109, 100, 83, 78], 28, 4⟩, ⟨[77, 97, 120, 67, 109, 100, 83, 78], 32, 4⟩, ⟨[84, 105, 109, 101, 50, 87, 97, 105, 116], 40, 2⟩, ⟨[84, 105, 109, 101, 50, 82, 101, 116, 97, 105, 110], 42, 2⟩],
  .kd (headRows.getD 14 ⟨0, [], 0, []⟩),
  .fn,
  .fld ⟨[76, 85, 78], 8, 8⟩,
  .fld ⟨[73, 84, 84], 16, 4⟩,
  .fld ⟨[84, 84, 84], 20, 4⟩,
  .fld ⟨[83, 116, 97, 116, 83, 78], 24, 4⟩,
  .fld ⟨[69, 120, 112, 67, 109, 100, 83, 78], 28, 4⟩,
  .fld ⟨[77, 97, 120, 67, 109, 100, 83, 78], 32, 4⟩,
  .fld ⟨[82, 50, 84, 83, 78], 36, 4⟩,
  .fld ⟨[79, 102, 102, 115, 101, 116], 40, 4⟩,
  .fld ⟨[76, 101, 110, 103, 116, 104], 44, 4⟩,
  .fs [⟨[76, 85, 78], 8, 8⟩, ⟨[73, 84, 84], 16, 4⟩, ⟨[84, 84, 84], 20, 4⟩, ⟨[83, 116, 97, 116, 83, 78], 24, 4⟩, ⟨[69, 120, 112, 67, 109, 100, 83, 78], 28, 4⟩, ⟨[77, 97, 120, 67, 109, 100, 83, 78], 32, 4⟩, ⟨[82, 50, 84, 83, 78], 36, 4⟩, ⟨[79, 102, 102, 115, 101, 116], 40, 4⟩, ⟨[76, 101, 110, 103, 116, 104], 44, 4⟩],
  .fs [⟨[76, 85, 78], 8, 8⟩, ⟨[73, 84, 84], 16, 4⟩, ⟨[84, 84, 84], 20, 4⟩, ⟨[83, 116, 97, 116, 83, 78], 24, 4⟩, ⟨[69, 120, 112, 67, 109, 100, 83, 78], 28, 4⟩, ⟨[77, 97, 120, 67, 109, 100, 83, 78], 32, 4⟩, ⟨[82, 50, 84, 83, 78], 36, 4⟩, ⟨[79, 102, 102, 115, 101, 116], 40, 4⟩, ⟨[76, 101, 110, 103, 116, 104], 44, 4⟩],
  .kd (headRows.getD 15 ⟨0, [], 0, []⟩),
  .fn,
  .fld ⟨[76, 85, 78], 8, 8⟩,
  .fld ⟨[73, 84, 84], 16, 4⟩,
  .fld ⟨[83, 116, 97, 116, 83, 78], 24, 4⟩,
  .fld ⟨[69, 120, 112, 67, 109, 100, 83, 78], 28, 4⟩,
  .fld ⟨[77, 97, 120, 67, 109, 100, 83, 78], 32, 4⟩,
  .fld ⟨[69, 118, 101, 110, 116], 36, 1⟩,
  .fld ⟨[86, 67, 111, 100, 101], 37, 1⟩,
  .fld ⟨[80, 97, 114, 97, 109, 101, 116, 101, 114, 49], 38, 2⟩,
  .fld ⟨[80, 97, 114, 97, 109, 101, 116, 101, 114, 50], 40, 2⟩,
  .fld ⟨[80, 97, 114, 97, 109, 101, 116, 101, 114, 51], 42, 2⟩,
  .fs [⟨[76, 85, 78], 8, 8⟩, ⟨[73, 84, 84], 16, 4⟩, ⟨[83, 116, 97, 116, 83, 78], 24, 4⟩, ⟨[69, 120, 112, 67, 109, 100, 83, 78], 28, 4⟩, ⟨[77, 97, 120, 67, 109, 100, 83, 78], 32, 4⟩, ⟨[69, 118, 101, 110, 116], 36, 1⟩, ⟨[86, 67, 111, 100, 101], 37, 1⟩, ⟨[80, 97, 114, 97, 109, 101, 116, 101, 114, 49], 38, 2⟩, ⟨[80, 97, 114, 97, 109, 101, 116, 101, 114, 50], 40, 2⟩, ⟨[80, 97, 114, 97, 109, 101, 116, 101, 114, 51], 42, 2⟩],
  .fs [⟨[76, 85, 78], 8, 8⟩, ⟨[73, 84, 84], 16, 4⟩, ⟨[83, 116, 97, 116, 83, 78], 24, 4⟩, ⟨[69, 120, 112, 67, 109, 100, 83, 78], 28, 4⟩, ⟨[77, 97, 120, 67, 109, 100, 83, 78], 32, 4⟩, ⟨[69, 118, 101, 110, 116], 36, 1⟩, ⟨[86, 67, 111, 100, 101], 37, 1⟩, ⟨[80, 97, 114, 97, 109, 101, 116, 101, 114, 49], 38, 2⟩, ⟨[80, 97, 114, 97, 109, 101, 116, 101, 114, 50], 40, 2⟩, ⟨[80, 97, 114, 97, 109, 101, 116, 101, 114, 51], 42, 2⟩],
  .kd (headRows.getD 16 ⟨0, [], 0, []⟩),
  .fn,
  .fld ⟨[82, 101, 97, 115, 111, 110], 2, 1⟩,
  .fld ⟨[73, 84, 84], 16, 4⟩,
  .fld ⟨[83, 116, 97, 116, 83, 78], 24, 4⟩,
  .fld ⟨[69, 120, 112, 67, 109, 100, 83, 78], 28, 4⟩,
  .fld ⟨[77, 97, 120, 67, 109, 100, 83, 78], 32, 4⟩,
  .fld ⟨[68, 97, 116, 97, 83, 78], 36, 4⟩,
  .fs [⟨[82, 101, 97, 115, 111, 110], 2, 1⟩, ⟨[73, 84, 84], 16, 4⟩, ⟨[83, 116, 97, 116, 83, 78], 24, 4⟩, ⟨[69, 120, 112, 67, 109, 100, 83, 78], 28, 4⟩, ⟨[77, 97, 120, 67, 109, 100, 83, 78], 32, 4⟩, ⟨[68, 97, 116, 97, 83, 78], 36, 4⟩],
  .fs [⟨[82, 101, 97, 115, 111, 110], 2, 1⟩, ⟨[73, 84, 84], 16, 4⟩, ⟨[83, 116, 97, 116, 83, 78], 24, 4⟩, ⟨[69, 120, 112, 67, 109, 100, 83, 78], 28, 4⟩, ⟨[77, 97, 120, 67, 109, 100, 83, 78], 32, 4⟩, ⟨[68, 97, 116, 97, 83, 78], 36, 4⟩],
  .kd (headRows.getD 17 ⟨0, [], 0, []⟩),
  .top]
def kS (t : Nat) : Sp := kSpecs.getD t .any
def kWrites : List Nat := [22, 23, 24, 25, 26, 27, 28, 29, 30, 31, 32, 33, 34, 35, 36, 37, 38, 39, 40, 41, 42, 43, 44, 45, 46, 47, 48, 49, 50, 51, 52, 53, 54, 55, 56, 57, 58, 59, 60, 61, 62, 63, 64, 65, 66, 67, 68, 69, 70, 71, 72, 73, 74, 75, 76, 77, 78, 79, 80, 81, 82, 83, 84, 85, 86, 87, 88, 89, 90, 91, 92, 93, 94, 95, 96, 97, 98, 99, 100, 101, 102, 103, 104, 105, 106, 107, 108, 109, 110, 111, 112, 113, 114, 115, 116, 117, 118, 119, 120, 121, 122, 123, 124, 125, 126, 127, 128, 129, 130, 131, 132, 133, 134, 135, 136, 137, 138, 139, 140, 141, 142, 143, 144, 145, 146, 147, 148, 149, 150, 151, 152, 153, 154, 155, 156, 157, 158, 159, 160, 161, 162, 163, 164, 165, 166, 167, 168, 169, 170, 171, 172, 173, 174, 175, 176, 177, 178, 179, 180, 181, 182, 183, 184, 185, 186, 187, 188, 189, 190, 191, 192, 193, 194, 195, 196, 197, 198, 199, 200, 201, 202, 203, 204, 205, 206, 207, 208, 209, 210, 211, 212, 213, 214, 215, 216, 217, 218, 219, 220, 221, 0]
theorem kInit : ∀ t : Nat, t ∉ kWrites → kS t = .any ∨ (1 ≤ t ∧ t ≤ 11) := by
  intro t ht
  by_cases h : t < 222
  · have h0 : ∀ t < 222, (kWrites.contains t || (match kS t with | .any => true | _ => false) || (decide (1 ≤ t) && decide (t ≤ 11))) = true := by decide +kernel
    have h1 := h0 t h
    simp only [Bool.or_eq_true, Bool.and_eq_true, decide_eq_true_eq] at h1
    rcases h1 with (h1 | h1) | h1
    · exact absurd (by simpa using h1) ht
    · left
      cases hk : kS t <;> simp [hk] at h1 <;> rfl
    · exact .inr h1
  · left
    have : kSpecs.length ≤ t := by rw [show kSpecs.length = 222 by decide +kernel]; omega
    simp [kS, List.getD, List.getElem?_eq_none this]
def KindsPost (w : World) (e : Ending) (w' : World) : Prop := ∃ v, e = .returned v ∧ KAll w.heap.size w' v ∧ Below w.heap.size w w'
set_option maxHeartbeats 8000000 in
theorem kinds_any (w : World) : Calls Tryz.prog 120 #[] w fun e w' => KindsPost w e w' := by
  have c1 := fun n a k w => hid (at_any n a k w)
  go_enter Tryz.func120, Tryz.ntmps120
  have hb0 : Below w.heap.size w w := Below.refl _ _
  go_wp2_with fail
  refine (c1 _ _ _ _).out.mono ?_; rintro e w1 ⟨rfl, q1⟩
  have hb1 := hb0.trans (q1.mono hb0.size)
  go_wp2_with fail
  refine (c1 _ _ _ _).out.mono ?_; rintro e w2 ⟨rfl, q2⟩
  have hb2 := hb1.trans (q2.mono hb1.size)
  go_wp2_with fail
  refine (c1 _ _ _ _).out.mono ?_; rintro e w3 ⟨rfl, q3⟩
  have hb3 := hb2.trans (q3.mono hb2.size)
  go_wp2_with fail
  obtain ⟨A3, hA3⟩ : ∃ A, (((w3.alloc (.cells (FR.cells ⟨[76, 85, 78], 8, 8⟩).toArray 175)).alloc (.cells (FR.cells ⟨[73, 84, 84], 16, 4⟩).toArray 175)).alloc (.cells (FR.cells ⟨[84, 84, 84], 20, 4⟩).toArray 175)) = A := ⟨_, rfl⟩
  have q : Below w3.heap.size w3 A3 := by rw [← hA3]; refine Below.alloc ?_ (by first | exact Nat.le_refl _ | (simp only [World.size_alloc]; omega)) _; refine Below.alloc ?_ (by first | exact Nat.le_refl _ | (simp only [World.size_alloc]; omega)) _; refine Below.alloc ?_ (by first | exact Nat.le_refl _ | (simp only [World.size_alloc]; omega)) _; exact Below.refl _ _
  have B1 : Blk A3 (w3.heap.size + 0) 175 (FR.cells ⟨[76, 85, 78], 8, 8⟩).toArray := by
    rw [← hA3]
    simpa only [World.size_alloc, Nat.add_zero, Nat.add_assoc, Nat.reduceAdd] using (((Blk.new w3 175 (FR.cells ⟨[76, 85, 78], 8, 8⟩).toArray).below ((Below.refl _ _).alloc (Nat.le_refl _) _)).below ((Below.refl _ _).alloc (Nat.le_refl _) _))
  have B2 : Blk A3 (w3.heap.size + 1) 175 (FR.cells ⟨[73, 84, 84], 16, 4⟩).toArray := by
    rw [← hA3]
    simpa only [World.size_alloc, Nat.add_zero, Nat.add_assoc, Nat.reduceAdd] using ((Blk.new (w3.alloc (.cells (FR.cells ⟨[76, 85, 78], 8, 8⟩).toArray 175)) 175 (FR.cells ⟨[73, 84, 84], 16, 4⟩).toArray).below ((Below.refl _ _).alloc (Nat.le_refl _) _))
  have B3 : Blk A3 (w3.heap.size + 2) 175 (FR.cells ⟨[84, 84, 84], 20, 4⟩).toArray := by
    rw [← hA3]
    simpa only [World.size_alloc, Nat.add_zero, Nat.add_assoc, Nat.reduceAdd] using (Blk.new ((w3.alloc (.cells (FR.cells ⟨[76, 85, 78], 8, 8⟩).toArray 175)).alloc (.cells (FR.cells ⟨[73, 84, 84], 16, 4⟩).toArray 175)) 175 (FR.cells ⟨[84, 84, 84], 20, 4⟩).toArray)
  have hbA3 := hb3.trans (q.mono hb3.size)
  have hb3 := hbA3
  change Calls _ _ _ (((w3.alloc (.cells (FR.cells ⟨[76, 85, 78], 8, 8⟩).toArray 175)).alloc (.cells (FR.cells ⟨[73, 84, 84], 16, 4⟩).toArray 175)).alloc (.cells (FR.cells ⟨[84, 84, 84], 20, 4⟩).toArray 175)) _
  rw [hA3]
  clear hA3 q
  go_wp2_with fail
  refine (c1 _ _ _ _).out.mono ?_; rintro e w4 ⟨rfl, q4⟩
  have B1 := B1.below q4
  have B2 := B2.below q4
  have B3 := B3.below q4
  have hb4 := hb3.trans (q4.mono hb3.size)
  go_wp2_with fail
  refine (c1 _ _ _ _).out.mono ?_; rintro e w5 ⟨rfl, q5⟩
  have B1 := B1.below q5
  have B2 := B2.below q5
  have B3 := B3.below q5
  have hb5 := hb4.trans (q5.mono hb4.size)
  go_wp2_with fail
  obtain ⟨A5, hA5⟩ : ∃ A, ((w5.alloc (.cells (FR.cells ⟨[67, 109, 100, 83, 78], 24, 4⟩).toArray 175)).alloc (.cells (FR.cells ⟨[69, 120, 112, 83, 116, 97, 116, 83, 78], 28, 4⟩).toArray 175)) = A := ⟨_, rfl⟩
  have q : Below w5.heap.size w5 A5 := by rw [← hA5]; refine Below.alloc ?_ (by first | exact Nat.le_refl _ | (simp only [World.size_alloc]; omega)) _; refine Below.alloc ?_ (by first | exact Nat.le_refl _ | (simp only [World.size_alloc]; omega)) _; exact Below.refl _ _
  have B1 := B1.below q
  have B2 := B2.below q
  have B3 := B3.below q
  have B4 : Blk A5 (w5.heap.size + 0) 175 (FR.cells ⟨[67, 109, 100, 83, 78], 24, 4⟩).toArray := by
    rw [← hA5]
    simpa only [World.size_alloc, Nat.add_zero, Nat.add_assoc, Nat.reduceAdd] using ((Blk.new w5 175 (FR.cells ⟨[67, 109, 100, 83, 78], 24, 4⟩).toArray).below ((Below.refl _ _).alloc (Nat.le_refl _) _))
  have B5 : Blk A5 (w5.heap.size + 1) 175 (FR.cells ⟨[69, 120, 112, 83, 116, 97, 116, 83, 78], 28, 4⟩).toArray := by
    rw [← hA5]
    simpa only [World.size_alloc, Nat.add_zero, Nat.add_assoc, Nat.reduceAdd] using (Blk.new (w5.alloc (.cells (FR.cells ⟨[67, 109, 100, 83, 78], 24, 4⟩).toArray 175)) 175 (FR.cells ⟨[69, 120, 112, 83, 116, 97, 116, 83, 78], 28, 4⟩).toArray)
  have hbA5 := hb5.trans (q.mono hb5.size)
  have hb5 := hbA5
  change Calls _ _ _ ((w5.alloc (.cells (FR.cells ⟨[67, 109, 100, 83, 78], 24, 4⟩).toArray 175)).alloc (.cells (FR.cells ⟨[69, 120, 112, 83, 116, 97, 116, 83, 78], 28, 4⟩).toArray 175)) _
  rw [hA5]
  clear hA5 q
  go_wp2_with fail
  refine (c1 _ _ _ _).out.mono ?_; rintro e w6 ⟨rfl, q6⟩
  have B1 := B1.below q6
  have B2 := B2.below q6
  have B3 := B3.below q6
  have B4 := B4.below q6
  have B5 := B5.below q6
  have hb6 := hb5.trans (q6.mono hb5.size)
  go_wp2_with fail
  refine (c1 _ _ _ _).out.mono ?_; rintro e w7 ⟨rfl, q7⟩
  have B1 := B1.below q7
  have B2 := B2.below q7
  have B3 := B3.below q7
  have B4 := B4.below q7
  have B5 := B5.below q7
  have hb7 := hb6.trans (q7.mono hb6.size)
  go_wp2_with fail
  refine (c1 _ _ _ _).out.mono ?_; rintro e w8 ⟨rfl, q8⟩
  have B1 := B1.below q8
  have B2 := B2.below q8
  have B3 := B3.below q8
  have B4 := B4.below q8
  have B5 := B5.below q8
  have hb8 := hb7.trans (q8.mono hb7.size)
  go_wp2_with fail
  obtain ⟨A8, hA8⟩ : ∃ A, (((w8.alloc (.cells (FR.cells ⟨[83, 116, 97, 116, 83, 78], 24, 4⟩).toArray 175)).alloc (.cells (FR.cells ⟨[69, 120, 112, 67, 109, 100, 83, 78], 28, 4⟩).toArray 175)).alloc (.cells (FR.cells ⟨[77, 97, 120, 67, 109, 100, 83, 78], 32, 4⟩).toArray 175)) = A := ⟨_, rfl⟩
  have q : Below w8.heap.size w8 A8 := by rw [← hA8]; refine Below.alloc ?_ (by first | exact Nat.le_refl _ | (simp only [World.size_alloc]; omega)) _; refine Below.alloc ?_ (by first | exact Nat.le_refl _ | (simp only [World.size_alloc]; omega)) _; refine Below.alloc ?_ (by first | exact Nat.le_refl _ | (simp only [World.size_alloc]; omega)) _; exact Below.refl _ _
  have B1 := B1.below q
  have B2 := B2.below q
  have B3 := B3.below q
  have B4 := B4.below q
  have B5 := B5.below q
  have B6 : Blk A8 (w8.heap.size + 0) 175 (FR.cells ⟨[83, 116, 97, 116, 83, 78], 24, 4⟩).toArray := by
    rw [← hA8]
    simpa only [World.size_alloc, Nat.add_zero, Nat.add_assoc, Nat.reduceAdd] using (((Blk.new w8 175 (FR.cells ⟨[83, 116, 97, 116, 83, 78], 24, 4⟩).toArray).below ((Below.refl _ _).alloc (Nat.le_refl _) _)).below ((Below.refl _ _).alloc (Nat.le_refl _) _))
  have B7 : Blk A8 (w8.heap.size + 1) 175 (FR.cells ⟨[69, 120, 112, 67, 109, 100, 83, 78], 28, 4⟩).toArray := by
    rw [← hA8]
    simpa only [World.size_alloc, Nat.add_zero, Nat.add_assoc, Nat.reduceAdd] using ((Blk.new (w8.alloc (.cells (FR.cells ⟨[83, 116, 97, 116, 83, 78], 24, 4⟩).toArray 175)) 175 (FR.cells ⟨[69, 120, 112, 67, 109, 100, 83, 78], 28, 4⟩).toArray).below ((Below.refl _ _).alloc (Nat.le_refl _) _))
  have B8 : Blk A8 (w8.heap.size + 2) 175 (FR.cells ⟨[77, 97, 120, 67, 109, 100, 83, 78], 32, 4⟩).toArray := by
    rw [← hA8]
    simpa only [World.size_alloc, Nat.add_zero, Nat.add_assoc, Nat.reduceAdd] using (Blk.new ((w8.alloc (.cells (FR.cells ⟨[83, 116, 97, 116, 83, 78], 24, 4⟩).toArray 175)).alloc (.cells (FR.cells ⟨[69, 120, 112, 67, 109, 100, 83, 78], 28, 4⟩).toArray 175)) 175 (FR.cells ⟨[77, 97, 120, 67, 109, 100, 83, 78], 32, 4⟩).toArray)
  have hbA8 := hb8.trans (q.mono hb8.size)
  have hb8 := hbA8
  change Calls _ _ _ (((w8.alloc (.cells (FR.cells ⟨[83, 116, 97, 116, 83, 78], 24, 4⟩).toArray 175)).alloc (.cells (FR.cells ⟨[69, 120, 112, 67, 109, 100, 83, 78], 28, 4⟩).toArray 175)).alloc (.cells (FR.cells ⟨[77, 97, 120, 67, 109, 100, 83, 78], 32, 4⟩).toArray 175)) _
  rw [hA8]
  clear hA8 q
  go_wp2_with fail
  refine (c1 _ _ _ _).out.mono ?_; rintro e w9 ⟨rfl, q9⟩
  have B1 := B1.below q9
  have B2 := B2.below q9
  have B3 := B3.below q9
  have B4 := B4.below q9
  have B5 := B5.below q9
  have B6 := B6.below q9
  have B7 := B7.below q9
  have B8 := B8.below q9
  have hb9 := hb8.trans (q9.mono hb8.size)
  go_wp2_with fail
  refine (c1 _ _ _ _).out.mono ?_; rintro e w10 ⟨rfl, q10⟩
  have B1 := B1.below q10
  have B2 := B2.below q10
  have B3 := B3.below q10
  have B4 := B4.below q10
  have B5 := B5.below q10
  have B6 := B6.below q10
  have B7 := B7.below q10
  have B8 := B8.below q10
  have hb10 := hb9.trans (q10.mono hb9.size)
  go_wp2_with fail
  obtain ⟨A10, hA10⟩ : ∃ A, ((w10.alloc (.cells (FR.cells ⟨[73, 83, 73, 68], 8, 6⟩).toArray 175)).alloc (.cells (FR.cells ⟨[84, 83, 73, 72], 14, 2⟩).toArray 175)) = A := ⟨_, rfl⟩
  have q : Below w10.heap.size w10 A10 := by rw [← hA10]; refine Below.alloc ?_ (by first | exact Nat.le_refl _ | (simp only [World.size_alloc]; omega)) _; refine Below.alloc ?_ (by first | exact Nat.le_refl _ | (simp only [World.size_alloc]; omega)) _; exact Below.refl _ _
  have B1 := B1.below q
  have B2 := B2.below q
  have B3 := B3.below q
  have B4 := B4.below q
  have B5 := B5.below q
  have B6 := B6.below q
  have B7 := B7.below q
  have B8 := B8.below q
  have B9 : Blk A10 (w10.heap.size + 0) 175 (FR.cells ⟨[73, 83, 73, 68], 8, 6⟩).toArray := by
    rw [← hA10]
    simpa only [World.size_alloc, Nat.add_zero, Nat.add_assoc, Nat.reduceAdd] using ((Blk.new w10 175 (FR.cells ⟨[73, 83, 73, 68], 8, 6⟩).toArray).below ((Below.refl _ _).alloc (Nat.le_refl _) _))
  have B10 : Blk A10 (w10.heap.size + 1) 175 (FR.cells ⟨[84, 83, 73, 72], 14, 2⟩).toArray := by
    rw [← hA10]
    simpa only [World.size_alloc, Nat.add_zero, Nat.add_assoc, Nat.reduceAdd] using (Blk.new (w10.alloc (.cells (FR.cells ⟨[73, 83, 73, 68], 8, 6⟩).toArray 175)) 175 (FR.cells ⟨[84, 83, 73, 72], 14, 2⟩).toArray)
  have hbA10 := hb10.trans (q.mono hb10.size)
  have hb10 := hbA10
  change Code.wp _ _ _ _ ((w10.alloc (.cells (FR.cells ⟨[73, 83, 73, 68], 8, 6⟩).toArray 175)).alloc (.cells (FR.cells ⟨[84, 83, 73, 72], 14, 2⟩).toArray 175))
  rw [hA10]
  clear hA10 q
  go_wp2_with fail
  refine wpIn_wide (n := 4).1 ?_
  refine region_mono (fun t v W => Sat w.heap.size (kS t) v W) (fun W => Below w.heap.size w W) (by kernel_rfl) (by kernel_rfl) (fun t v W W' h hb => sat_below (kS t) h hb) (fun W W' h hb => h.trans (hb.mono h.size)) hb10.drew ?kinit ?kops ?kfin
  case kinit =>
    intro t ht
    rcases kInit t ht with h | h
    · rw [h]; trivial
    · match t, h with

      | 1, _ => exact ⟨_, rfl, B1⟩
      | 2, _ => exact ⟨_, rfl, B2⟩
      | 3, _ => exact ⟨_, rfl, B3⟩
      | 4, _ => exact ⟨_, rfl, B4⟩
      | 5, _ => exact ⟨_, rfl, B5⟩
      | 6, _ => exact ⟨_, rfl, B6⟩
      | 7, _ => exact ⟨_, rfl, B7⟩
      | 8, _ => exact ⟨_, rfl, B8⟩
      | 9, _ => exact ⟨_, rfl, B9⟩
      | 10, _ => exact ⟨_, rfl, B10⟩
      | 11, _ => exact rfl
      | 0, h => omega
      | t + 12, h => omega
  case kops =>
    exact ⟨⟨show (22 : Nat) < 222 by omega, k_move kS rfl rfl rfl rfl⟩,
      ⟨show (23 : Nat) < 222 by omega, k_load kS rfl rfl rfl rfl⟩,
      ⟨show (24 : Nat) < 222 by omega, k_load kS rfl rfl rfl rfl⟩,
      ⟨show (25 : Nat) < 222 by omega, k_load kS rfl rfl rfl rfl⟩,
      ⟨show (26 : Nat) < 222 by omega, k_load kS rfl rfl rfl rfl⟩,
      ⟨show (27 : Nat) < 222 by omega, k_load kS rfl rfl rfl rfl⟩,
      ⟨show (28 : Nat) < 222 by omega, k_sl5 kS rfl rfl (fun w h => h.size) rfl rfl rfl rfl rfl rfl⟩,
      ⟨show (29 : Nat) < 222 by omega, k_fn kS rfl rfl rfl rfl rfl⟩,
      ⟨show (30 : Nat) < 222 by omega, k_kd kS rfl rfl rfl rfl rfl rfl rfl⟩,
      ⟨show (31 : Nat) < 222 by omega, k_move kS rfl rfl rfl rfl⟩,
      ⟨show (32 : Nat) < 222 by omega, k_load kS rfl rfl rfl rfl⟩,
      ⟨show (33 : Nat) < 222 by omega, k_load kS rfl rfl rfl rfl⟩,
      ⟨show (34 : Nat) < 222 by omega, k_at kS rfl rfl rfl rfl rfl rfl⟩,
      ⟨show (35 : Nat) < 222 by omega, k_load kS rfl rfl rfl rfl⟩,
      ⟨show (36 : Nat) < 222 by omega, k_load kS rfl rfl rfl rfl⟩,
      ⟨show (37 : Nat) < 222 by omega, k_at kS rfl rfl rfl rfl rfl rfl⟩,
      ⟨show (38 : Nat) < 222 by omega, k_at kS rfl rfl rfl rfl rfl rfl⟩,
      ⟨show (39 : Nat) < 222 by omega, k_sl7 kS rfl rfl (fun w h => h.size) rfl rfl rfl rfl rfl rfl rfl rfl⟩,
      ⟨show (40 : Nat) < 222 by omega, k_fn kS rfl rfl rfl rfl rfl⟩,
      ⟨show (41 : Nat) < 222 by omega, k_kd kS rfl rfl rfl rfl rfl rfl rfl⟩,
      ⟨show (42 : Nat) < 222 by omega, k_move kS rfl rfl rfl rfl⟩,
      ⟨show (43 : Nat) < 222 by omega, k_load kS rfl rfl rfl rfl⟩,
      ⟨show (44 : Nat) < 222 by omega, k_load kS rfl rfl rfl rfl⟩,
      ⟨show (45 : Nat) < 222 by omega, k_at kS rfl rfl rfl rfl rfl rfl⟩,
      ⟨show (46 : Nat) < 222 by omega, k_load kS rfl rfl rfl rfl⟩,
      ⟨show (47 : Nat) < 222 by omega, k_load kS rfl rfl rfl rfl⟩,
      ⟨show (48 : Nat) < 222 by omega, k_at kS rfl rfl rfl rfl rfl rfl⟩,
      ⟨show (49 : Nat) < 222 by omega, k_at kS rfl rfl rfl rfl rfl rfl⟩,
      ⟨show (50 : Nat) < 222 by omega, k_sl7 kS rfl rfl (fun w h => h.size) rfl rfl rfl rfl rfl rfl rfl rfl⟩,
      ⟨show (51 : Nat) < 222 by omega, k_fn kS rfl rfl rfl rfl rfl⟩,
      ⟨show (52 : Nat) < 222 by omega, k_kd kS rfl rfl rfl rfl rfl rfl rfl⟩,
      ⟨show (53 : Nat) < 222 by omega, k_move kS rfl rfl rfl rfl⟩,
      ⟨show (54 : Nat) < 222 by omega, k_at kS rfl rfl rfl rfl rfl rfl⟩,
      ⟨show (55 : Nat) < 222 by omega, k_at kS rfl rfl rfl rfl rfl rfl⟩,
      ⟨show (56 : Nat) < 222 by omega, k_load kS rfl rfl rfl rfl⟩,
      ⟨show (57 : Nat) < 222 by omega, k_load kS rfl rfl rfl rfl⟩,
      ⟨show (58 : Nat) < 222 by omega, k_load kS rfl rfl rfl rfl⟩,
      ⟨show (59 : Nat) < 222 by omega, k_at kS rfl rfl rfl rfl rfl rfl⟩,
      ⟨show (60 : Nat) < 222 by omega, k_load kS rfl rfl rfl rfl⟩,
      ⟨show (61 : Nat) < 222 by omega, k_load kS rfl rfl rfl rfl⟩,
      ⟨show (62 : Nat) < 222 by omega, k_sl8 kS rfl rfl (fun w h => h.size) rfl rfl rfl rfl rfl rfl rfl rfl rfl⟩,
      ⟨show (63 : Nat) < 222 by omega, k_fn kS rfl rfl rfl rfl rfl⟩,
      ⟨show (64 : Nat) < 222 by omega, k_kd kS rfl rfl rfl rfl rfl rfl rfl⟩,
      ⟨show (65 : Nat) < 222 by omega, k_move kS rfl rfl rfl rfl⟩,
      ⟨show (66 : Nat) < 222 by omega, k_load kS rfl rfl rfl rfl⟩,
      ⟨show (67 : Nat) < 222 by omega, k_load kS rfl rfl rfl rfl⟩,
      ⟨show (68 : Nat) < 222 by omega, k_load kS rfl rfl rfl rfl⟩,
      ⟨show (69 : Nat) < 222 by omega, k_load kS rfl rfl rfl rfl⟩,
      ⟨show (70 : Nat) < 222 by omega, k_load kS rfl rfl rfl rfl⟩,
      ⟨show (71 : Nat) < 222 by omega, k_sl5 kS rfl rfl (fun w h => h.size) rfl rfl rfl rfl rfl rfl⟩,
      ⟨show (72 : Nat) < 222 by omega, k_fn kS rfl rfl rfl rfl rfl⟩,
      ⟨show (73 : Nat) < 222 by omega, k_kd kS rfl rfl rfl rfl rfl rfl rfl⟩,
      ⟨show (74 : Nat) < 222 by omega, k_move kS rfl rfl rfl rfl⟩,
      ⟨show (75 : Nat) < 222 by omega, k_load kS rfl rfl rfl rfl⟩,
      ⟨show (76 : Nat) < 222 by omega, k_load kS rfl rfl rfl rfl⟩,
      ⟨show (77 : Nat) < 222 by omega, k_load kS rfl rfl rfl rfl⟩,
      ⟨show (78 : Nat) < 222 by omega, k_load kS rfl rfl rfl rfl⟩,
      ⟨show (79 : Nat) < 222 by omega, k_at kS rfl rfl rfl rfl rfl rfl⟩,
      ⟨show (80 : Nat) < 222 by omega, k_at kS rfl rfl rfl rfl rfl rfl⟩,
      ⟨show (81 : Nat) < 222 by omega, k_sl6 kS rfl rfl (fun w h => h.size) rfl rfl rfl rfl rfl rfl rfl⟩,
      ⟨show (82 : Nat) < 222 by omega, k_fn kS rfl rfl rfl rfl rfl⟩,
      ⟨show (83 : Nat) < 222 by omega, k_kd kS rfl rfl rfl rfl rfl rfl rfl⟩,
      ⟨show (84 : Nat) < 222 by omega, k_move kS rfl rfl rfl rfl⟩,
      ⟨show (85 : Nat) < 222 by omega, k_load kS rfl rfl rfl rfl⟩,
      ⟨show (86 : Nat) < 222 by omega, k_at kS rfl rfl rfl rfl rfl rfl⟩,
      ⟨show (87 : Nat) < 222 by omega, k_load kS rfl rfl rfl rfl⟩,
      ⟨show (88 : Nat) < 222 by omega, k_load kS rfl rfl rfl rfl⟩,
      ⟨show (89 : Nat) < 222 by omega, k_sl4 kS rfl rfl (fun w h => h.size) rfl rfl rfl rfl rfl⟩,
      ⟨show (90 : Nat) < 222 by omega, k_fn kS rfl rfl rfl rfl rfl⟩,
      ⟨show (91 : Nat) < 222 by omega, k_kd kS rfl rfl rfl rfl rfl rfl rfl⟩,
      ⟨show (92 : Nat) < 222 by omega, k_move kS rfl rfl rfl rfl⟩,
      ⟨show (93 : Nat) < 222 by omega, k_load kS rfl rfl rfl rfl⟩,
      ⟨show (94 : Nat) < 222 by omega, k_load kS rfl rfl rfl rfl⟩,
      ⟨show (95 : Nat) < 222 by omega, k_load kS rfl rfl rfl rfl⟩,
      ⟨show (96 : Nat) < 222 by omega, k_load kS rfl rfl rfl rfl⟩,
      ⟨show (97 : Nat) < 222 by omega, k_at kS rfl rfl rfl rfl rfl rfl⟩,
      ⟨show (98 : Nat) < 222 by omega, k_at kS rfl rfl rfl rfl rfl rfl⟩,
      ⟨show (99 : Nat) < 222 by omega, k_sl6 kS rfl rfl (fun w h => h.size) rfl rfl rfl rfl rfl rfl rfl⟩,
      ⟨show (100 : Nat) < 222 by omega, k_fn kS rfl rfl rfl rfl rfl⟩,
      ⟨show (101 : Nat) < 222 by omega, k_kd kS rfl rfl rfl rfl rfl rfl rfl⟩,
      ⟨show (102 : Nat) < 222 by omega, k_move kS rfl rfl rfl rfl⟩,
      ⟨show (103 : Nat) < 222 by omega, k_load kS rfl rfl rfl rfl⟩,
      ⟨show (104 : Nat) < 222 by omega, k_load kS rfl rfl rfl rfl⟩,
      ⟨show (105 : Nat) < 222 by omega, k_load kS rfl rfl rfl rfl⟩,
      ⟨show (106 : Nat) < 222 by omega, k_load kS rfl rfl rfl rfl⟩,
      ⟨show (107 : Nat) < 222 by omega, k_load kS rfl rfl rfl rfl⟩,
      ⟨show (108 : Nat) < 222 by omega, k_load kS rfl rfl rfl rfl⟩,
      ⟨show (109 : Nat) < 222 by omega, k_sl6 kS rfl rfl (fun w h => h.size) rfl rfl rfl rfl rfl rfl rfl⟩,
      ⟨show (110 : Nat) < 222 by omega, k_fn kS rfl rfl rfl rfl rfl⟩,
      ⟨show (111 : Nat) < 222 by omega, k_kd kS rfl rfl rfl rfl rfl rfl rfl⟩,
      ⟨show (112 : Nat) < 222 by omega, k_move kS rfl rfl rfl rfl⟩,
      ⟨show (113 : Nat) < 222 by omega, k_at kS rfl rfl rfl rfl rfl rfl⟩,
      ⟨show (114 : Nat) < 222 by omega, k_at kS rfl rfl rfl rfl rfl rfl⟩,
      ⟨show (115 : Nat) < 222 by omega, k_load kS rfl rfl rfl rfl⟩,
      ⟨show (116 : Nat) < 222 by omega, k_at kS rfl rfl rfl rfl rfl rfl⟩,
      ⟨show (117 : Nat) < 222 by omega, k_load kS rfl rfl rfl rfl⟩,
      ⟨show (118 : Nat) < 222 by omega, k_load kS rfl rfl rfl rfl⟩,
      ⟨show (119 : Nat) < 222 by omega, k_load kS rfl rfl rfl rfl⟩,
      ⟨show (120 : Nat) < 222 by omega, k_at kS rfl rfl rfl rfl rfl rfl⟩,
      ⟨show (121 : Nat) < 222 by omega, k_at kS rfl rfl rfl rfl rfl rfl⟩,
      ⟨show (122 : Nat) < 222 by omega, k_at kS rfl rfl rfl rfl rfl rfl⟩,
      ⟨show (123 : Nat) < 222 by omega, k_sl10 kS rfl rfl (fun w h => h.size) rfl rfl rfl rfl rfl rfl rfl rfl rfl rfl rfl⟩,
      ⟨show (124 : Nat) < 222 by omega, k_fn kS rfl rfl rfl rfl rfl⟩,
      ⟨show (125 : Nat) < 222 by omega, k_kd kS rfl rfl rfl rfl rfl rfl rfl⟩,
      ⟨show (126 : Nat) < 222 by omega, k_move kS rfl rfl rfl rfl⟩,
      ⟨show (127 : Nat) < 222 by omega, k_at kS rfl rfl rfl rfl rfl rfl⟩,
      ⟨show (128 : Nat) < 222 by omega, k_load kS rfl rfl rfl rfl⟩,
      ⟨show (129 : Nat) < 222 by omega, k_load kS rfl rfl rfl rfl⟩,
      ⟨show (130 : Nat) < 222 by omega, k_load kS rfl rfl rfl rfl⟩,
      ⟨show (131 : Nat) < 222 by omega, k_load kS rfl rfl rfl rfl⟩,
      ⟨show (132 : Nat) < 222 by omega, k_sl5 kS rfl rfl (fun w h => h.size) rfl rfl rfl rfl rfl rfl⟩,
      ⟨show (133 : Nat) < 222 by omega, k_fn kS rfl rfl rfl rfl rfl⟩,
      ⟨show (134 : Nat) < 222 by omega, k_kd kS rfl rfl rfl rfl rfl rfl rfl⟩,
      ⟨show (135 : Nat) < 222 by omega, k_move kS rfl rfl rfl rfl⟩,
      ⟨show (136 : Nat) < 222 by omega, k_at kS rfl rfl rfl rfl rfl rfl⟩,
      ⟨show (137 : Nat) < 222 by omega, k_at kS rfl rfl rfl rfl rfl rfl⟩,
      ⟨show (138 : Nat) < 222 by omega, k_load kS rfl rfl rfl rfl⟩,
      ⟨show (139 : Nat) < 222 by omega, k_load kS rfl rfl rfl rfl⟩,
      ⟨show (140 : Nat) < 222 by omega, k_load kS rfl rfl rfl rfl⟩,
      ⟨show (141 : Nat) < 222 by omega, k_load kS rfl rfl rfl rfl⟩,
      ⟨show (142 : Nat) < 222 by omega, k_load kS rfl rfl rfl rfl⟩,
      ⟨show (143 : Nat) < 222 by omega, k_load kS rfl rfl rfl rfl⟩,
      ⟨show (144 : Nat) < 222 by omega, k_at kS rfl rfl rfl rfl rfl rfl⟩,
      ⟨show (145 : Nat) < 222 by omega, k_at kS rfl rfl rfl rfl rfl rfl⟩,
      ⟨show (146 : Nat) < 222 by omega, k_sl10 kS rfl rfl (fun w h => h.size) rfl rfl rfl rfl rfl rfl rfl rfl rfl rfl rfl⟩,
      ⟨show (147 : Nat) < 222 by omega, k_fn kS rfl rfl rfl rfl rfl⟩,
      ⟨show (148 : Nat) < 222 by omega, k_kd kS rfl rfl rfl rfl rfl rfl rfl⟩,
      ⟨show (149 : Nat) < 222 by omega, k_move kS rfl rfl rfl rfl⟩,
      ⟨show (150 : Nat) < 222 by omega, k_load kS rfl rfl rfl rfl⟩,
      ⟨show (151 : Nat) < 222 by omega, k_load kS rfl rfl rfl rfl⟩,
      ⟨show (152 : Nat) < 222 by omega, k_load kS rfl rfl rfl rfl⟩,
      ⟨show (153 : Nat) < 222 by omega, k_load kS rfl rfl rfl rfl⟩,
      ⟨show (154 : Nat) < 222 by omega, k_load kS rfl rfl rfl rfl⟩,
      ⟨show (155 : Nat) < 222 by omega, k_load kS rfl rfl rfl rfl⟩,
      ⟨show (156 : Nat) < 222 by omega, k_sl6 kS rfl rfl (fun w h => h.size) rfl rfl rfl rfl rfl rfl rfl⟩,
      ⟨show (157 : Nat) < 222 by omega, k_fn kS rfl rfl rfl rfl rfl⟩,
      ⟨show (158 : Nat) < 222 by omega, k_kd kS rfl rfl rfl rfl rfl rfl rfl⟩,
      ⟨show (159 : Nat) < 222 by omega, k_move kS rfl rfl rfl rfl⟩,
      ⟨show (160 : Nat) < 222 by omega, k_at kS rfl rfl rfl rfl rfl rfl⟩,
      ⟨show (161 : Nat) < 222 by omega, k_load kS rfl rfl rfl rfl⟩,
      ⟨show (162 : Nat) < 222 by omega, k_load kS rfl rfl rfl rfl⟩,
      ⟨show (163 : Nat) < 222 by omega, k_load kS rfl rfl rfl rfl⟩,
      ⟨show (164 : Nat) < 222 by omega, k_load kS rfl rfl rfl rfl⟩,
      ⟨show (165 : Nat) < 222 by omega, k_load kS rfl rfl rfl rfl⟩,
      ⟨show (166 : Nat) < 222 by omega, k_load kS rfl rfl rfl rfl⟩,
      ⟨show (167 : Nat) < 222 by omega, k_at kS rfl rfl rfl rfl rfl rfl⟩,
      ⟨show (168 : Nat) < 222 by omega, k_at kS rfl rfl rfl rfl rfl rfl⟩,
      ⟨show (169 : Nat) < 222 by omega, k_at kS rfl rfl rfl rfl rfl rfl⟩,
      ⟨show (170 : Nat) < 222 by omega, k_sl10 kS rfl rfl (fun w h => h.size) rfl rfl rfl rfl rfl rfl rfl rfl rfl rfl rfl⟩,
      ⟨show (171 : Nat) < 222 by omega, k_fn kS rfl rfl rfl rfl rfl⟩,
      ⟨show (172 : Nat) < 222 by omega, k_kd kS rfl rfl rfl rfl rfl rfl rfl⟩,
      ⟨show (173 : Nat) < 222 by omega, k_move kS rfl rfl rfl rfl⟩,
      ⟨show (174 : Nat) < 222 by omega, k_at kS rfl rfl rfl rfl rfl rfl⟩,
      ⟨show (175 : Nat) < 222 by omega, k_load kS rfl rfl rfl rfl⟩,
      ⟨show (176 : Nat) < 222 by omega, k_load kS rfl rfl rfl rfl⟩,
      ⟨show (177 : Nat) < 222 by omega, k_load kS rfl rfl rfl rfl⟩,
      ⟨show (178 : Nat) < 222 by omega, k_load kS rfl rfl rfl rfl⟩,
      ⟨show (179 : Nat) < 222 by omega, k_at kS rfl rfl rfl rfl rfl rfl⟩,
      ⟨show (180 : Nat) < 222 by omega, k_at kS rfl rfl rfl rfl rfl rfl⟩,
      ⟨show (181 : Nat) < 222 by omega, k_sl7 kS rfl rfl (fun w h => h.size) rfl rfl rfl rfl rfl rfl rfl rfl⟩,
      ⟨show (182 : Nat) < 222 by omega, k_fn kS rfl rfl rfl rfl rfl⟩,
      ⟨show (183 : Nat) < 222 by omega, k_kd kS rfl rfl rfl rfl rfl rfl rfl⟩,
      ⟨show (184 : Nat) < 222 by omega, k_move kS rfl rfl rfl rfl⟩,
      ⟨show (185 : Nat) < 222 by omega, k_load kS rfl rfl rfl rfl⟩,
      ⟨show (186 : Nat) < 222 by omega, k_load kS rfl rfl rfl rfl⟩,
      ⟨show (187 : Nat) < 222 by omega, k_load kS rfl rfl rfl rfl⟩,
      ⟨show (188 : Nat) < 222 by omega, k_load kS rfl rfl rfl rfl⟩,
      ⟨show (189 : Nat) < 222 by omega, k_load kS rfl rfl rfl rfl⟩,
      ⟨show (190 : Nat) < 222 by omega, k_load kS rfl rfl rfl rfl⟩,
      ⟨show (191 : Nat) < 222 by omega, k_at kS rfl rfl rfl rfl rfl rfl⟩,
      ⟨show (192 : Nat) < 222 by omega, k_at kS rfl rfl rfl rfl rfl rfl⟩,
      ⟨show (193 : Nat) < 222 by omega, k_at kS rfl rfl rfl rfl rfl rfl⟩,
      ⟨show (194 : Nat) < 222 by omega, k_sl9 kS rfl rfl (fun w h => h.size) rfl rfl rfl rfl rfl rfl rfl rfl rfl rfl⟩,
      ⟨show (195 : Nat) < 222 by omega, k_fn kS rfl rfl rfl rfl rfl⟩,
      ⟨show (196 : Nat) < 222 by omega, k_kd kS rfl rfl rfl rfl rfl rfl rfl⟩,
      ⟨show (197 : Nat) < 222 by omega, k_move kS rfl rfl rfl rfl⟩,
      ⟨show (198 : Nat) < 222 by omega, k_load kS rfl rfl rfl rfl⟩,
      ⟨show (199 : Nat) < 222 by omega, k_load kS rfl rfl rfl rfl⟩,
      ⟨show (200 : Nat) < 222 by omega, k_load kS rfl rfl rfl rfl⟩,
      ⟨show (201 : Nat) < 222 by omega, k_load kS rfl rfl rfl rfl⟩,
      ⟨show (202 : Nat) < 222 by omega, k_load kS rfl rfl rfl rfl⟩,
      ⟨show (203 : Nat) < 222 by omega, k_at kS rfl rfl rfl rfl rfl rfl⟩,
      ⟨show (204 : Nat) < 222 by omega, k_at kS rfl rfl rfl rfl rfl rfl⟩,
      ⟨show (205 : Nat) < 222 by omega, k_at kS rfl rfl rfl rfl rfl rfl⟩,
      ⟨show (206 : Nat) < 222 by omega, k_at kS rfl rfl rfl rfl rfl rfl⟩,
      ⟨show (207 : Nat) < 222 by omega, k_at kS rfl rfl rfl rfl rfl rfl⟩,
      ⟨show (208 : Nat) < 222 by omega, k_sl10 kS rfl rfl (fun w h => h.size) rfl rfl rfl rfl rfl rfl rfl rfl rfl rfl rfl⟩,
      ⟨show (209 : Nat) < 222 by omega, k_fn kS rfl rfl rfl rfl rfl⟩,
      ⟨show (210 : Nat) < 222 by omega, k_kd kS rfl rfl rfl rfl rfl rfl rfl⟩,
      ⟨show (211 : Nat) < 222 by omega, k_move kS rfl rfl rfl rfl⟩,
      ⟨show (212 : Nat) < 222 by omega, k_at kS rfl rfl rfl rfl rfl rfl⟩,
      ⟨show (213 : Nat) < 222 by omega, k_load kS rfl rfl rfl rfl⟩,
      ⟨show (214 : Nat) < 222 by omega, k_load kS rfl rfl rfl rfl⟩,
      ⟨show (215 : Nat) < 222 by omega, k_load kS rfl rfl rfl rfl⟩,
      ⟨show (216 : Nat) < 222 by omega, k_load kS rfl rfl rfl rfl⟩,
      ⟨show (217 : Nat) < 222 by omega, k_at kS rfl rfl rfl rfl rfl rfl⟩,
      ⟨show (218 : Nat) < 222 by omega, k_sl6 kS rfl rfl (fun w h => h.size) rfl rfl rfl rfl rfl rfl rfl⟩,
      ⟨show (219 : Nat) < 222 by omega, k_fn kS rfl rfl rfl rfl rfl⟩,
      ⟨show (220 : Nat) < 222 by omega, k_kd kS rfl rfl rfl rfl rfl rfl rfl⟩,
      ⟨show (221 : Nat) < 222 by omega, k_top kS rfl rfl (fun w h => h.size) rfl rfl rfl rfl rfl rfl rfl rfl rfl rfl rfl rfl rfl rfl rfl rfl rfl rfl rfl rfl⟩,
      ⟨show (0 : Nat) < 222 by omega, k_assign kS rfl rfl rfl rfl⟩, trivial⟩
  case kfin =>
    intro a' w' hb hS hsz hd
    have hk := ‹∀ (a : Act) (w : World), Code.wp _ Code.ret _ a w → _›
    refine hk _ _ (wp_ret ?_)
    refine bodyPost_ret (v := a'.eval (.tmp 0)) (results_tmp rfl _ _ _) hd ?_
    exact ⟨_, rfl, hS 0, hb⟩
end Go.Proofs.YtbimlijhgeajjaaGreatDoor
