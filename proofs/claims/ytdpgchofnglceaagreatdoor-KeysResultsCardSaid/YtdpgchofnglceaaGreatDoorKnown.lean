/- All keys that are known: by the program and by the document. -/
import Derived.Test.YtdpgchofnglceaaGreatDoorBlk
import Derived.Test.YtdpgchofnglceaaGreatDoorSeqInv
import Derived.Test.YtdpgchofnglceaaGreatDoorParsePure
import Derived.Test.YtdpgchofnglceaaGreatDoorShelfF
namespace Go.Proofs.YtdpgchofnglceaaGreatDoor
open Go Go.RowKit Go.Shelf
set_option linter.unusedVariables false
set_option maxRecDepth 100000
attribute [local go_sem] Oper.semAt_some
theorem key_of_pre {pre : List (List UInt8)} {x : List UInt8} (h : pre ++ [x] <+: splitL 124 keyText) : ∃ k, keyRows[pre.length]? = some k ∧ x = k.text ∧ pre = (keyRows.take pre.length).map KR.text := by
  rw [splitKeys] at h
  obtain ⟨t, ht⟩ := h
  have hl : pre.length < keyRows.length := by
    have := congrArg List.length ht
    simp at this; omega
  refine ⟨keyRows[pre.length], by simp [hl], ?_, ?_⟩
  · have := congrArg (·[pre.length]?) ht
    simpa [List.getElem?_append, hl] using this
  · have := congrArg (·.take pre.length) ht
    simpa [List.map_take] using this
def NamesPost (w : World) (e : Ending) (w' : World) : Prop :=
  ∃ v, e = .returned v ∧ w'.ownsRow w.heap.size 9 1 v keyRows.length (keyRows.map fun k => Value.string (bs k.name)) ∧ Below w.heap.size w w'
theorem kt_len : keyText.length ≤ 1099511627776 := by decide
def INames (base b : Nat) (w0 : World) (pre : List (List UInt8)) (W : World) : Prop :=
  ∃ v, Blk W base 85 #[v] ∧ W.ownsRow (b + 3) 9 1 v pre.length ((keyRows.take pre.length).map fun k => Value.string (bs k.name)) ∧ Below base w0 W ∧ b + 2 < W.heap.size
theorem stands_names (base b B : Nat) (w0 : World) (h1 : base < b) (h2 : b + 2 < B) (h3 : base ≤ w0.heap.size) : Stands B b (INames base b w0) := by
  refine ⟨?_, ?_, ?_⟩
  · rintro s A o ⟨v, hv, hr, hb, hs⟩
    exact ⟨v, hv.below ((Below.refl _ _).alloc (Nat.le_refl _) _), hr.alloc o, hb.alloc (Nat.le_trans h3 hb.size) _, by rw [World.size_alloc]; omega⟩
  · rintro s A l o o' ⟨v, hv, hr, hb, hs⟩ hl hl' ho
    exact ⟨v, blk_put hv hl' ho o', owns_put hr hl' ho o', below_put hb (by omega) _, by simpa using hs⟩
  · rintro s A u ⟨v, hv, hr, hb, hs⟩
    exact ⟨v, hv.far (by simp only; omega) u, owns_set hr (by simp only; omega) u, below_set hb (by simp only; omega) u, by simpa [World.setCell] using hs⟩
end Go.Proofs.YtdpgchofnglceaaGreatDoor

namespace Go.Proofs.YtdpgchofnglceaaGreatDoor
open Go Go.RowKit
set_option linter.unusedVariables false
set_option maxRecDepth 100000
def KR.cells (k : KR) : List Value := [.string (bs k.name), .int .i64 (dnum k.lk : Int), .int .i64 (dnum k.ll : Int), .int .i64 (dnum k.lh : Int), .string (bs k.dv), .bool (k.no == [78]), .bool (k.lo == [76])]
def allCells : List Value := keyRows.flatMap KR.cells
theorem flat7 (l : List KR) (i : Nat) (k : KR) (h : l[i]? = some k) (j : Nat) (hj : j < 7) : (l.flatMap KR.cells)[i * 7 + j]? = (k.cells)[j]? := by
  induction l generalizing i with
  | nil => simp at h
  | cons x l ih =>
    rw [List.flatMap_cons]
    cases i with
    | zero =>
      simp only [List.getElem?_cons_zero, Option.some.injEq] at h
      subst h
      rw [List.getElem?_append_left (by simp [KR.cells]; omega)]
      simp
    | succ i =>
      rw [List.getElem?_append_right (by simp [KR.cells]; omega), show (i + 1) * 7 + j - (KR.cells x).length = i * 7 + j by simp [KR.cells]; omega]
      exact ih i (by simpa using h)
def KnownPost (w : World) (e : Ending) (w' : World) : Prop :=
  e = .returned (.slice (some ⟨w.heap.size, 0, none⟩) 18 18) ∧ w' = w.alloc (.cells allCells.toArray 134)
set_option maxHeartbeats 4000000 in
theorem known_any (w : World) : Calls Tryz.prog 110 #[] w fun e w' => KnownPost w e w' := by
  go_enter Tryz.func110, Tryz.ntmps110
  go_wp2
  go_ret
  exact ⟨rfl, congrArg (fun c => w.alloc (.cells c _)) (by kernel_rfl)⟩
end Go.Proofs.YtdpgchofnglceaaGreatDoor
