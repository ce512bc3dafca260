/- What a row that lists errors.errorType alone gives a walk, and a world that meets it. -/
import Derived.Test.YtejbigoacknfoaaGreatDoorRows
import Derived.Test.YtejbigoacknfoaaGreatDoorCards
import Derived.Test.YtejbigoacknfoaaGreatDoorTie
import Derived.Test.YtejbigoacknfoaaGreatDoorTell
import Derived.ProofKit
import Derived.OpenShut
import Derived.ShutString
import Derived.ChangeSame
import Derived.ChangeVars
import Derived.JoinedOf
import Derived.RowKit
import Derived.RowKitTokens
import Derived.LaidLaws
import Derived.LaidHandle
import Derived.Stop.Joined
import Derived.SevenTiedAt
import Derived.LaidSub
import Derived.LaidMore
import Derived.Lay
import Derived.Lib.LaidTab
set_option linter.unusedSectionVars false
set_option linter.unusedSimpArgs false
set_option linter.unusedVariables false
namespace Go.Proofs.YtejbigoacknfoaaGreatDoor.cardBase
open Go.ChangeShapes Go.WideShapes Go.RowKit
set_option linter.unusedVariables false
theorem looksOn : true = Tryz.pinned.checked.prog.looks [] := by kernel_rfl
def laid1 : List (String × DataW Unit) := [("errors.errorType", Rows.laid_errors_errorType)]
theorem own : ownKnob Tryz.prog.godebug = none := by kernel_rfl
theorem et : Tryz.prog.globalNamed "errors.errorType" = some 0 := by kernel_rfl
theorem rt : (Tryz.prog.cutTypes.find? (·.1 == "internal/reflectlite.rtype")).map (·.2) = some 311 := by kernel_rfl
theorem oneRow : ((List.range 405).filter fun t => Tryz.prog.rowNamed t [101, 114, 114, 111, 114]) = [28] := by kernel_rfl
theorem size : Tryz.prog.types.size = 405 := by kernel_rfl
theorem etype_of_laid {L : List (String × DataW Unit)} (hmem : ("errors.errorType", Rows.laid_errors_errorType) ∈ L) {W : World} (h : laidMetH Tryz.prog L W) : EType W := by
  have hm : ("errors.errorType", (Rows.laid_errors_errorType : DataW Unit)) ∈ L.filter fun x => x.2.handleName?.isSome := List.mem_filter.2 ⟨hmem, by kernel_rfl⟩
  obtain ⟨name, u, ty, e1, e2, e3, e4, e5⟩ := (laidMetH_iff.1 h).2 _ hm
  have en : name = [101, 114, 114, 111, 114] := (Option.some.inj e1).symm
  subst en
  obtain rfl := Option.some.inj (rt.symm.trans e2)
  have hm : ty ∈ (List.range 405).filter fun t => Tryz.prog.rowNamed t [101, 114, 114, 111, 114] := List.mem_filter.2 ⟨List.mem_range.2 (by rw [← size]; exact e3), e4⟩
  rw [oneRow] at hm
  obtain rfl := List.mem_singleton.1 hm
  have hh : typeHandle Tryz.prog 28 = .pointer (some ⟨13, 28, none⟩) := by kernel_rfl
  rw [hh] at e5
  simpa [EType] using World.var?_cell et e5 0
noncomputable def laidWorld (os : Os) : World :=
  let w0 := World.holding Tryz.prog os ⟨#[], #[], []⟩
  { w0 with heap := w0.heap.modify 0 fun
      | .cells _ t frozen => .cells #[.iface 311 (.agg #[.pointer (some ⟨13, 28, none⟩)])] t frozen
      | o => o }
theorem laidWorld_met (os : Os) (args : Array Value) : laidMetH Tryz.prog laid1 ((laidWorld os).forCall (fun _ _ => 0) ⟨#[], args, []⟩).memory :=
  laidMetH_of_parts (laidMet_nil _ _) (by kernel_rfl)
/-! ### a list that holds data, tables and the handle -/
noncomputable def laidWorldL (L : List (String × DataW Unit)) (os : Os) : World := (laidWorld os).layVars Tryz.prog (L.filter fun x => x.2.handleName?.isNone)
theorem laidWorldL_os (L : List (String × DataW Unit)) (os : Os) : (laidWorldL L os).os = os := World.layVars_os _ _ _
theorem laidWorldL_met (L : List (String × DataW Unit)) (os : Os) (args : Array Value)
    (hf : (laidWorld os).layFits Tryz.prog (L.filter fun x => x.2.handleName?.isNone) [] = true)
    (hi : (laidWorld os).layIfaces Tryz.prog (L.filter fun x => x.2.handleName?.isNone) (laidWorldL L os) = true)
    (hh : (L.filter fun x => x.2.handleName?.isSome).all (handleAtB Tryz.prog ((laidWorldL L os).forCall (fun _ _ => 0) ⟨#[], args, []⟩).memory) = true) :
    laidMetH Tryz.prog L ((laidWorldL L os).forCall (fun _ _ => 0) ⟨#[], args, []⟩).memory := by
  refine laidMetH_of_parts ?_ hh
  generalize hl : (L.filter fun x => x.2.handleName?.isNone) = laid at *
  have e1 : (laid.filter fun x => (laid.map (·.1)).contains x.1) = laid := List.filter_eq_self.2 fun x hx => List.contains_iff_mem.2 (List.mem_map.2 ⟨x, hx, rfl⟩)
  have e2 : (laid.filter fun x => !(laid.map (·.1)).contains x.1) = [] := List.filter_eq_nil_iff.2 fun x hx => by rw [List.contains_iff_mem.2 (List.mem_map.2 ⟨x, hx, rfl⟩)]; simp
  have h : laidMet Tryz.prog laid (laidWorldL L os) := laidMet_layVars (w0 := laidWorld os) (laid.map (·.1)) [] (by rw [e1, laidWorldL, hl]) (by rw [e1]; exact hf) (by rw [e1]; exact hi) (by rw [e2]; exact LaidIn.none)
  exact h.of_heap (by simp [World.memory, World.forCall, Input.heap])
/-- a table that a row lists stands -/
theorem tab_of_laid {L : List (String × DataW Unit)} {name : String} {k : IntKind} {zs : List Int} {g n : Nat} {t e : TypeId} (hfl : (L.filter fun x => x.2.handleName?.isNone).filter (fun x => x.1 == name) = [(name, Lib.tabData k zs)])
    (hg : Tryz.prog.globalNamed name = some g) (hty : (Tryz.prog.globals[g]?).map (·.type) = some t) (ht : Tryz.prog.underlying t = some (.array n e)) (he : Tryz.prog.underlying e = some (.int k)) (hce : Tryz.prog.cellsOf e = 1) (hct : Tryz.prog.cellsOf t = n)
    {W : World} (h : laidMetH Tryz.prog L W) : Lib.TabIs Tryz.prog W name k zs := by
  have h2 := ((laidMetH_iff.1 h).1).filter fun x => x.1 == name
  rw [hfl] at h2
  exact Lib.tabIs_of_head hg hty ht he hce hct h2
end Go.Proofs.YtejbigoacknfoaaGreatDoor.cardBase
