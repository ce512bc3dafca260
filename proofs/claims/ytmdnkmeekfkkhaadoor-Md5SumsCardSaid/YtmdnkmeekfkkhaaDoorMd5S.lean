/- The table of MD5. -/
import Derived.Test.YtmdnkmeekfkkhaaDoorProg
import Derived.Test.YtmdnkmeekfkkhaaDoorBase
import Derived.Great.BuildSlice
import Derived.Test.YtmdnkmeekfkkhaaDoorMd5Pure
namespace Go.Proofs.YtmdnkmeekfkkhaaDoor
open Go Go.RowKit
set_option linter.unusedVariables false
set_option linter.unusedSectionVars false
set_option linter.unusedSimpArgs false
set_option maxRecDepth 100000
def sineI : List Int := QMd.sines.map fun (n : Nat) => (n : Int)
def sineA : Array Value := (sineI.map (Value.int .u32)).toArray
def zeroA : Array Value := (List.replicate 64 (Value.int .u32 0)).toArray
theorem zero64 (w : World) : (zeroValue 25).run Tryd.prog w = .ok (.agg zeroA) w := by kernel_rfl
theorem sineAll : sineA.all (·.oneCell') = true := by kernel_rfl
theorem sineSize : sineA.size = 64 := by kernel_rfl
theorem zeroSize : zeroA.size = 64 := by kernel_rfl
set_option maxHeartbeats 4000000 in
theorem sines_any (w : World) : Calls Tryd.prog 6 #[] w fun e w' => e = .returned (.agg sineA) ∧ Below w.heap.size w w' := by
  have hzv := zero64
  go_enter Tryd.func6, Tryd.ntmps6
  go_wp2_with first
    | (refine wpList_buildFlatArrTo rfl 25 24 64 _ rfl .u32 sineI _ rfl Tryd.underlying25 (by kernel_rfl) (by kernel_rfl) (by kernel_rfl) ?_)
    | (refine wpList_store_rowTo rfl 25 _ _ rfl rfl w.heap.size sineA rfl rfl 25 _ (heap_alloc_new _ _) (by kernel_rfl) (by kernel_rfl) sineAll ?_; rw [World.setRow_alloc_new])
  refine bodyPost_ret (results_cell_row rfl _ _ w.heap.size 25 sineA (0, 0) _ rfl (heap_alloc_new _ _) Tryd.underlying25 rfl (by rw [sineSize]; kernel_rfl)) rfl ⟨rfl, (Below.refl _ _).alloc (Nat.le_refl _) _⟩
end Go.Proofs.YtmdnkmeekfkkhaaDoor
