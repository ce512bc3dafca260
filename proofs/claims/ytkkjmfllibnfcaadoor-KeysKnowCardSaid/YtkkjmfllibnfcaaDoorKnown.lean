/- All keys that are known: by the document. -/
import Derived.Test.YtkkjmfllibnfcaaDoorKeyNames
namespace Go.Proofs.YtkkjmfllibnfcaaDoor
open Go Go.RowKit
set_option linter.unusedVariables false
set_option maxRecDepth 100000
def KR.cells (k : KR) : List Value := [.string (bs k.name), .int .i64 (dnum k.lk : Int), .int .i64 (dnum k.ll : Int), .int .i64 (dnum k.lh : Int), .string (bs k.dv), .bool (k.no == [78]), .bool (k.lo == [76])]
def allCells : List Value := keyRows.flatMap KR.cells
theorem flat7 (l : List KR) (i : Nat) (k : KR) (h : l[i]? = some k) (j : Nat) (hj : j < 7) : (l.flatMap KR.cells)[i * 7 + j]? = (k.cells)[j]? := by
  induction l generalizing i with
  | nil => simp at h
  | cons x l ih =>
    rw [List.flatMap_cons]
    cases i with
    | zero =>
      simp only [List.getElem?_cons_zero, Option.some.injEq] at h
      subst h
      rw [List.getElem?_append_left (by simp [KR.cells]; omega)]
      simp
    | succ i =>
      rw [List.getElem?_append_right (by simp [KR.cells]; omega), show (i + 1) * 7 + j - (KR.cells x).length = i * 7 + j by simp [KR.cells]; omega]
      exact ih i (by simpa using h)
def KnownPost (w : World) (e : Ending) (w' : World) : Prop :=
  e = .returned (.slice (some ⟨w.heap.size, 0, none⟩) 18 18) ∧ w' = w.alloc (.cells allCells.toArray 25)
set_option maxHeartbeats 4000000 in
theorem known_any (w : World) : Calls Tryd.prog 17 #[] w fun e w' => KnownPost w e w' := by
  go_enter Tryd.func17, Tryd.ntmps17
  go_wp2
  go_ret
  exact ⟨rfl, congrArg (fun c => w.alloc (.cells c _)) (by kernel_rfl)⟩
end Go.Proofs.YtkkjmfllibnfcaaDoor
