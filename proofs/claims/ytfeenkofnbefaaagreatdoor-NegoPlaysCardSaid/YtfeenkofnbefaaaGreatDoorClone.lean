/- What is wrong with what one has of keys: plain laws. -/
import Derived.Test.YtfeenkofnbefaaaGreatDoorParsePure
import Derived.Test.YtfeenkofnbefaaaGreatDoorResPure
import Derived.Test.YtfeenkofnbefaaaGreatDoorPairIn
set_option linter.unusedSectionVars false
set_option linter.unusedSimpArgs false
set_option linter.unusedVariables false
namespace Go.Proofs.YtfeenkofnbefaaaGreatDoor
open Go Go.RowKit
set_option linter.unusedVariables false
set_option linter.unusedSectionVars false
set_option linter.unusedSimpArgs false
/-- what is wrong with a pair -/
def badK (l : PL) (k : Nat) : Nat := if (findP (l.take k) (l.getD k ([], [])).1).2 = true then 9 else fitsP (l.getD k ([], [])).1 (l.getD k ([], [])).2
def negoP (l : PL) : Nat × Int := if (pairsR l).1 ≠ 0 then pairsR l else match (List.range l.length).find? (fun k => decide (badK l k ≠ 0)) with | some k => (badK l k, (k : Int)) | none => (0, -1)
def GoodAhead (l : PL) (k : Nat) : Prop := ∀ j, j < k → badK l j = 0
theorem GoodAhead.step {l : PL} {k : Nat} (h : GoodAhead l k) (hk : badK l k = 0) : GoodAhead l (k + 1) := fun j hj => by
  rcases Nat.lt_or_ge j k with h' | h'
  · exact h j h'
  · obtain rfl : j = k := by omega
    exact hk
theorem negoP_pairs (l : PL) (h : (pairsR l).1 ≠ 0) : negoP l = pairsR l := if_pos h
theorem negoP_at (l : PL) (k : Nat) (h0 : (pairsR l).1 = 0) (hk : k < l.length) (hb : badK l k ≠ 0) (ha : GoodAhead l k) : negoP l = (badK l k, (k : Int)) := by
  unfold negoP
  rw [if_neg (by simp [h0])]
  have : (List.range l.length).find? (fun k => decide (badK l k ≠ 0)) = some k := by
    rw [List.find?_range_eq_some]
    refine ⟨by simpa using hb, by simpa using hk, fun j hj => ?_⟩
    simp [ha j hj]
  rw [this]
theorem negoP_good (l : PL) (h0 : (pairsR l).1 = 0) (ha : GoodAhead l l.length) : negoP l = (0, -1) := by
  unfold negoP
  rw [if_neg (by simp [h0])]
  have : (List.range l.length).find? (fun k => decide (badK l k ≠ 0)) = none := by
    rw [List.find?_eq_none]
    intro j hj
    rw [List.mem_range] at hj
    simp [ha j hj]
  rw [this]
end Go.Proofs.YtfeenkofnbefaaaGreatDoor

namespace Go.Proofs.YtfeenkofnbefaaaGreatDoor
open Go Go.RowKit
set_option linter.unusedVariables false
set_option linter.unusedSectionVars false
set_option linter.unusedSimpArgs false
abbrev notU : List UInt8 := [78, 111, 116, 85, 110, 100, 101, 114, 115, 116, 111, 111, 100]
abbrev rejectL : List UInt8 := [82, 101, 106, 101, 99, 116]
abbrev irrL : List UInt8 := [73, 114, 114, 101, 108, 101, 118, 97, 110, 116]
/-- what one has of a key (or what it is, over what is recorded) -/
def ofP (l : PL) (key : List UInt8) : List UInt8 × Nat :=
  match findK keyRows key with
  | none => ([], 5)
  | some k => (if (findP l key).2 = true then (findP l key).1 else k.dv, 0)
/-- what is said to an offer, and what comes of it -/
def ansP (mine : PL) (x : List UInt8 × List UInt8) (login disc : Bool) : List UInt8 × List UInt8 :=
  match findK keyRows x.1 with
  | none => (notU, [])
  | some k =>
    if (k.lo == [76]) = true ∧ login = false then (rejectL, []) else
    if (k.no == [78]) = true ∧ disc = true then (irrL, []) else
    if fitsK k x.2 ≠ 0 then (rejectL, []) else
    if k.kind = 6 ∨ k.kind = 7 then ([], x.2) else
    if (resP x.1 x.2 (ofP mine x.1).1).2 ≠ 0 then (rejectL, []) else ((resP x.1 x.2 (ofP mine x.1).1).1, (resP x.1 x.2 (ofP mine x.1).1).1)
def without (r : PL) (key : List UInt8) : PL := r.filter fun q => !(q.1 == key)
/-- what is recorded then -/
def recP (r : PL) (x : List UInt8 × List UInt8) (is : List UInt8) : PL := if is = [] then r else without r x.1 ++ [(x.1, is)]
/-- all offers, one by one: what is said, what is recorded -/
def ansAll (mine : PL) (login disc : Bool) : PL → PL × PL → PL × PL
  | [], s => s
  | x :: l, (out, r) => ansAll mine login disc l (if (ansP mine x login disc).1 = [] then out else out ++ [(x.1, (ansP mine x login disc).1)], recP r x (ansP mine x login disc).2)
theorem ansAll_drop (mine : PL) (login disc : Bool) (l : PL) (k : Nat) (s : PL × PL) (h : k < l.length) : ansAll mine login disc (l.drop k) s = ansAll mine login disc (l.drop (k + 1)) (if (ansP mine (l.getD k ([], [])) login disc).1 = [] then s.1 else s.1 ++ [((l.getD k ([], [])).1, (ansP mine (l.getD k ([], [])) login disc).1)], recP s.2 (l.getD k ([], [])) (ansP mine (l.getD k ([], [])) login disc).2) := by
  rw [drop_cons l k ([], []) h]
  obtain ⟨a, b⟩ := s
  rw [ansAll]
theorem ansAll_end (mine : PL) (login disc : Bool) (l : PL) (k : Nat) (s : PL × PL) (h : l.length ≤ k) : ansAll mine login disc (l.drop k) s = s := by
  rw [List.drop_eq_nil_of_le h, ansAll]
/-- which offer is there already -/
def twiceK (offers r : PL) (login : Bool) (k : Nat) : Bool := ((offers.take k).map (·.1)).contains (offers.getD k ([], [])).1 || ((r.map (·.1)).contains (offers.getD k ([], [])).1 && login)
/-- what is wrong with offers -/
def offP (offers r : PL) (login : Bool) : Nat × Int := if (pairsR offers).1 ≠ 0 then pairsR offers else match (List.range offers.length).find? (fun k => twiceK offers r login k) with | some k => (9, (k : Int)) | none => (0, -1)
theorem offP_pairs (o r : PL) (login : Bool) (h : (pairsR o).1 ≠ 0) : offP o r login = pairsR o := if_pos h
theorem offP_at (o r : PL) (login : Bool) (k : Nat) (h0 : (pairsR o).1 = 0) (hk : k < o.length) (hb : twiceK o r login k = true) (ha : ∀ j, j < k → twiceK o r login j = false) : offP o r login = (9, (k : Int)) := by
  unfold offP
  rw [if_neg (by simp [h0])]
  have : (List.range o.length).find? (fun k => twiceK o r login k) = some k := by
    rw [List.find?_range_eq_some]
    refine ⟨hb, by simpa using hk, fun j hj => ?_⟩
    simp [ha j hj]
  rw [this]
theorem offP_good (o r : PL) (login : Bool) (h0 : (pairsR o).1 = 0) (ha : ∀ j, j < o.length → twiceK o r login j = false) : offP o r login = (0, -1) := by
  unfold offP
  rw [if_neg (by simp [h0])]
  have : (List.range o.length).find? (fun k => twiceK o r login k) = none := by
    rw [List.find?_eq_none]
    intro j hj
    rw [List.mem_range] at hj
    simp [ha j hj]
  rw [this]
end Go.Proofs.YtfeenkofnbefaaaGreatDoor

namespace Go.Proofs.YtfeenkofnbefaaaGreatDoor
open Go Go.RowKit
set_option linter.unusedVariables false
set_option linter.unusedSectionVars false
set_option linter.unusedSimpArgs false
set_option maxRecDepth 100000
theorem infoPr : (Tryz.prog.info? 77).map (fun i => (i.zero, i.size, i.bytes)) = some (some (.agg #[.string ⟨#[]⟩, .string ⟨#[]⟩]), 2, 32) := by kernel_rfl
theorem eqnilP (W : World) (a : Option Addr) (n c : Nat) : (binOp .eql 61 (.slice a n c) (.slice none 0 0)).run Tryz.prog W = .ok (.bool a.isNone) W := by
  cases a <;> rfl
set_option maxHeartbeats 4000000 in
theorem clone_any (v : Value) (l : PL) (w : World) (h : PSl w v l) (hn : l.length ≤ 1048576) :
    Calls Tryz.prog 64 #[v] w fun e w' => (∃ v', e = .returned v' ∧ w'.ownsRow w.heap.size 77 2 v' l.length (pairCells l)) ∧ Below w.heap.size w w' := by
  have hF := h
  obtain ⟨sa, sc, rfl, hcl, hcc⟩ := hF
  cases sa with
  | none =>
    have h0 : l.length = 0 := by
      rcases hcc with h | ⟨b, off, h, _⟩
      · exact h
      · cases h
    have hl : l = [] := List.length_eq_zero_iff.1 h0
    subst hl
    have he := fun W => eqnilP W none 0 sc
    simp only [Option.isNone] at he
    clear h hcc hcl
    go_enter Tryz.func64, Tryz.ntmps64
    go_wp2
    go_ret
    exact ⟨⟨_, rfl, by simpa [pairCells] using World.ownsRow_nil _ _ _ _⟩, Below.refl _ _⟩
  | some a =>
    have hown0 : (w.alloc (.cells #[] 77)).ownsRow w.heap.size 77 2 (.slice (some ⟨w.heap.size, 0, none⟩) 0 0) 0 [] :=
      ⟨rfl, .inr ⟨w.heap.size, 0, #[], rfl, Nat.le_refl _, heap_alloc_new _ _, Nat.le_refl _, by unfold maxLen; omega, rfl, rfl⟩⟩
    have hA := (Below.refl w.heap.size w).alloc (Nat.le_refl _) (.cells #[] 77)
    have hnews : ∀ j u, (pairCells l)[j]? = some u → (w.alloc (.cells #[] 77)).cell? (a.add j) = some u := by
      intro j u hu
      rcases hcc with h0 | ⟨b, off, ha, hc⟩
      · have : l = [] := List.length_eq_zero_iff.1 h0
        subst this
        simp [pairCells] at hu
      · cases ha
        rw [show (⟨b, off, none⟩ : Addr).add j = ⟨b, off + j, none⟩ by unfold Addr.add; split <;> simp_all]
        exact (hA.cell (p := ⟨b, off + j, none⟩) (block_lt_of_cell (hc j u hu))).trans (hc j u hu)
    have HO := hid hown0; have HN := hid hnews; have HA := hid hA
    have he := fun W => eqnilP W (some a) l.length sc
    simp only [Option.isNone] at he
    clear h hcc hcl hown0 hnews hA
    go_enter Tryz.func64, Tryz.ntmps64
    go_wp2_with (at_builtin; refine list_append_own rfl (.tmp 5) (.tmp 6) 61 rfl w.heap.size 77 (.agg #[.string ⟨#[]⟩, .string ⟨#[]⟩]) 2 32 Tryz.underlying61 infoPr rfl (by decide) _ 0 [] rfl HO.out a l.length sc (pairCells l) rfl (pairCells_length l) HN.out (pairCells_one l) (by unfold maxLen; omega) (by omega) (by simp) ?_; intro v' w' hown hgrow _)
    go_ret
    refine ⟨⟨_, rfl, by simpa using hown⟩, below_append HA.out HO.out hgrow (by simp)⟩
end Go.Proofs.YtfeenkofnbefaaaGreatDoor
