/- A world that meets what a row lists: data and sentinels. -/
import Derived.Test.YtmdnkmeekfkkhaaDoorRows
import Derived.Test.YtmdnkmeekfkkhaaDoorCards
import Derived.Test.YtmdnkmeekfkkhaaDoorTie
import Derived.Test.YtmdnkmeekfkkhaaDoorBase
import Derived.ProofKit
import Derived.OpenShut
import Derived.ShutString
import Derived.ChangeSame
import Derived.ChangeVars
import Derived.JoinedOf
import Derived.RowKit
import Derived.RowKitTokens
import Derived.LaidLaws
import Derived.LaidHandle
import Derived.Stop.Joined
import Derived.SevenTiedAt
import Derived.LaidSub
import Derived.LaidMore
import Derived.Lay
import Derived.Lib.LaidTab
namespace Go.Proofs.YtmdnkmeekfkkhaaDoor.cardPlain
open Go.ChangeShapes Go.WideShapes Go.RowKit
set_option linter.unusedVariables false
theorem looksOn : true = Tryd.pinned.checked.prog.looks [] := by kernel_rfl
theorem own : ownKnob Tryd.prog.godebug = none := by kernel_rfl
noncomputable def laidWorld (os : Os) : World := World.holding Tryd.prog os ⟨#[], #[], []⟩
/-! ### a list that holds data -/
noncomputable def laidWorldL (L : List (String × DataW Unit)) (os : Os) : World := (laidWorld os).layVars Tryd.prog (L.filter fun x => x.2.handleName?.isNone)
theorem laidWorldL_os (L : List (String × DataW Unit)) (os : Os) : (laidWorldL L os).os = os := World.layVars_os _ _ _
theorem laidWorldL_met (L : List (String × DataW Unit)) (os : Os) (args : Array Value)
    (hf : (laidWorld os).layFits Tryd.prog (L.filter fun x => x.2.handleName?.isNone) [] = true)
    (hi : (laidWorld os).layIfaces Tryd.prog (L.filter fun x => x.2.handleName?.isNone) (laidWorldL L os) = true)
    (hh : (L.filter fun x => x.2.handleName?.isSome).all (handleAtB Tryd.prog ((laidWorldL L os).forCall (fun _ _ => 0) ⟨#[], args, []⟩).memory) = true) :
    laidMetH Tryd.prog L ((laidWorldL L os).forCall (fun _ _ => 0) ⟨#[], args, []⟩).memory := by
  refine laidMetH_of_parts ?_ hh
  generalize hl : (L.filter fun x => x.2.handleName?.isNone) = laid at *
  have e1 : (laid.filter fun x => (laid.map (·.1)).contains x.1) = laid := List.filter_eq_self.2 fun x hx => List.contains_iff_mem.2 (List.mem_map.2 ⟨x, hx, rfl⟩)
  have e2 : (laid.filter fun x => !(laid.map (·.1)).contains x.1) = [] := List.filter_eq_nil_iff.2 fun x hx => by rw [List.contains_iff_mem.2 (List.mem_map.2 ⟨x, hx, rfl⟩)]; simp
  have h : laidMet Tryd.prog laid (laidWorldL L os) := laidMet_layVars (w0 := laidWorld os) (laid.map (·.1)) [] (by rw [e1, laidWorldL, hl]) (by rw [e1]; exact hf) (by rw [e1]; exact hi) (by rw [e2]; exact LaidIn.none)
  exact h.of_heap (by simp [World.memory, World.forCall, Input.heap])
end Go.Proofs.YtmdnkmeekfkkhaaDoor.cardPlain
