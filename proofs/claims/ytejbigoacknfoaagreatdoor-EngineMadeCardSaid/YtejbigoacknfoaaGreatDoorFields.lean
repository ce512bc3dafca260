/- strings.Fields and strconv.Atoi by contract. -/
import Derived.Test.YtejbigoacknfoaaGreatDoorBase
import Derived.Test.YtejbigoacknfoaaGreatDoorShelfF
import Derived.WalkSmall
set_option linter.unusedSectionVars false
set_option linter.unusedSimpArgs false
set_option linter.unusedVariables false
namespace Go.Proofs.YtejbigoacknfoaaGreatDoor
open Go Go.RowKit
set_option linter.unusedVariables false
/-- the table of white space stands -/
def AS (w : World) : Prop := Lib.TabIs Tryz.prog w "strings.asciiSpace" .u8 Lib.asciiSpaceTab
theorem asName : Tryz.prog.globalNamed "strings.asciiSpace" = some 5 := by kernel_rfl
theorem AS.lt {w : World} (h : AS w) : 5 < w.heap.size := by
  have := Lib.TabIs.cell h asName 0 (by rw [Lib.asciiSpaceTab_length]; omega)
  exact block_lt_of_cell this
theorem AS.below {w w' : World} {B : Nat} (h : AS w) (hb : Below B w w') (hB : w.heap.size ≤ B) : AS w' := var?_below hb asName (Nat.lt_of_lt_of_le h.lt hB) h
theorem fields_any (l : List UInt8) (w : World) (hl : l.length < 4294967281) (ha : ∀ b ∈ l, b.toNat < 128) (h : AS w) :
    Calls Tryz.prog 170 #[.string (bs l)] w fun e w' => e = .returned (.slice (some ⟨w.heap.size, 0, none⟩) (Lib.fields l).length (Lib.fields l).length) ∧ w' = w.alloc (.cells ((Lib.fields l).map fun x => Value.string (bs x)).toArray 9) :=
  Tryz.strings_Fields (bs l) w (by rw [bs_size]; exact hl) (fun j b hb => ha b (List.mem_of_getElem? hb)) h
theorem below_bytes (w : World) (e : TypeId) (s : ByteArray) : Below w.heap.size w (Lib.bytesWorld w e s) :=
  ⟨rfl, rfl, rfl, by rw [Lib.bytesWorld_size]; omega, fun k hk => Lib.bytesWorld_at_old w e s k hk⟩
theorem atoi_any (l : List UInt8) (n : Int) (w : World) (hl : l.length ≤ 18) (h : Lib.atoi l = some n) :
    Calls Tryz.prog 167 #[.string (bs l)] w fun e w' => e = .returned (.tuple #[.int .i64 n, .nilIface]) ∧ Below w.heap.size w w' := by
  refine (Tryz.strconv_Atoi (bs l) n (by rw [bs_size]; exact hl) h w).mono ?_
  rintro e w' ⟨rfl, t, rfl⟩
  exact ⟨rfl, below_bytes _ _ _⟩
end Go.Proofs.YtejbigoacknfoaaGreatDoor
