/- The table of MD5. -/
import Derived.Test.YtejbigoacknfoaaGreatDoorProg
import Derived.Test.YtejbigoacknfoaaGreatDoorBase
import Derived.Great.BuildSlice
import Derived.Test.YtejbigoacknfoaaGreatDoorMd5Pure
set_option linter.unusedSectionVars false
set_option linter.unusedSimpArgs false
set_option linter.unusedVariables false
namespace Go.Proofs.YtejbigoacknfoaaGreatDoor
open Go Go.RowKit
set_option linter.unusedVariables false
set_option linter.unusedSectionVars false
set_option linter.unusedSimpArgs false
set_option maxRecDepth 100000
def sineI : List Int := QMd.sines.map fun (n : Nat) => (n : Int)
def sineA : Array Value := (sineI.map (Value.int .u32)).toArray
def zeroA : Array Value := (List.replicate 64 (Value.int .u32 0)).toArray
theorem zero64 (w : World) : (zeroValue 205).run Tryz.prog w = .ok (.agg zeroA) w := by kernel_rfl
theorem sineAll : sineA.all (·.oneCell') = true := by kernel_rfl
theorem sineSize : sineA.size = 64 := by kernel_rfl
theorem zeroSize : zeroA.size = 64 := by kernel_rfl
set_option maxHeartbeats 4000000 in
theorem sines_any (w : World) : Calls Tryz.prog 115 #[] w fun e w' => e = .returned (.agg sineA) ∧ Below w.heap.size w w' := by
  have hzv := zero64
  go_enter Tryz.func115, Tryz.ntmps115
  go_wp2_with first
    | (refine wpList_buildFlatArrTo rfl 205 201 64 _ rfl .u32 sineI _ rfl Tryz.underlying205 (by kernel_rfl) (by kernel_rfl) (by kernel_rfl) ?_)
    | (refine wpList_store_rowTo rfl 205 _ _ rfl rfl w.heap.size sineA rfl rfl 205 _ (heap_alloc_new _ _) (by kernel_rfl) (by kernel_rfl) sineAll ?_; rw [World.setRow_alloc_new])
  refine bodyPost_ret (results_cell_row rfl _ _ w.heap.size 205 sineA (0, 0) _ rfl (heap_alloc_new _ _) Tryz.underlying205 rfl (by rw [sineSize]; kernel_rfl)) rfl ⟨rfl, (Below.refl _ _).alloc (Nat.le_refl _) _⟩
end Go.Proofs.YtejbigoacknfoaaGreatDoor
