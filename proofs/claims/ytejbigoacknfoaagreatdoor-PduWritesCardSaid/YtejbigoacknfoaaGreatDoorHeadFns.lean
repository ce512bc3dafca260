/- What is known of a PDU: by the program. -/
import Derived.Test.YtejbigoacknfoaaGreatDoorHeadRow
import Derived.Test.YtejbigoacknfoaaGreatDoorSplit1
set_option linter.unusedSectionVars false
set_option linter.unusedSimpArgs false
set_option linter.unusedVariables false
namespace Go.Proofs.YtejbigoacknfoaaGreatDoor
open Go Go.RowKit
set_option linter.unusedVariables false
set_option linter.unusedSectionVars false
set_option linter.unusedSimpArgs false
set_option maxRecDepth 100000
def hE : Option HR → Nat | none => 1 | some _ => 0
def HErr (o : Option HR) : Value := errV 22 (hE o)
theorem row_cell {r : HR} {g : Nat} {W : World} (h : Blk W g 9 (rowCells r).toArray) (i : Nat) (x : List UInt8) (hx : r.words[i]? = some x) : W.cell? ⟨g, i, none⟩ = some (.string (bs x)) := by
  rw [h.cell i, rowCells, List.getElem?_toArray, List.getElem?_map, hx]; rfl
theorem findH_mem {op : Int} {r : HR} (h : findH op = some r) : r ∈ headRows := List.mem_of_find?_eq_some h
theorem eqnil (W : World) (a : Option Addr) (n c : Nat) : (binOp .eql 63 (.slice a n c) (.slice none 0 0)).run Tryz.prog W = .ok (.bool a.isNone) W := by
  cases a <;> rfl
theorem dec3_len (n : Nat) : (dec3 n).length ≤ 18 := by
  unfold dec3
  split
  · simp
  · split <;> simp
section
variable (op : Int) (h0 : -9223372036854775808 ≤ op) (h1 : op ≤ 9223372036854775807) (w : World) (hT : AS w) (hP : PT w)
include h0 h1 hT hP
theorem hname_any : Calls Tryz.prog 84 #[.int .i64 op] w fun e w' => e = .returned (.tuple #[.string (bs (hName (findH op))), HErr (findH op)]) ∧ Below w.heap.size w w' := by
  have c1 := hid (row_any op h0 h1 w hT hP)
  unfold RowPost at c1
  clear hT hP h0 h1
  cases hf : findH op with
  | none =>
    rw [hf] at c1
    go_enter Tryz.func84, Tryz.ntmps84
    go_wp2_with fail
    refine c1.out.mono ?_
    rintro e w1 ⟨v, rfl, hb, ⟨_, rfl⟩ | ⟨r', g, hr, _⟩⟩
    · have he := eqnil w1
      go_wp2
      go_ret2
      exact ⟨rfl, hb⟩
    · cases hr
  | some r =>
    rw [hf] at c1
    go_enter Tryz.func84, Tryz.ntmps84
    go_wp2_with fail
    refine c1.out.mono ?_
    rintro e w1 ⟨v, rfl, hb, ⟨h, _⟩ | ⟨r', g, hr, rfl, hg, hB⟩⟩
    · cases h
    cases hr
    have he := eqnil w1
    have x1 := row_cell hB 1 r.name rfl
    have hl : 1 < r.words.length := by simp [HR.words]
    go_wp2
    go_ret2
    exact ⟨rfl, hb⟩
theorem hflags_any : Calls Tryz.prog 126 #[.int .i64 op] w fun e w' => e = .returned (.tuple #[.int .i64 (hFlags (findH op) : Nat), HErr (findH op)]) ∧ Below w.heap.size w w' := by
  have c1 := hid (row_any op h0 h1 w hT hP)
  unfold RowPost at c1
  clear hT hP h0 h1
  cases hf : findH op with
  | none =>
    rw [hf] at c1
    go_enter Tryz.func126, Tryz.ntmps126
    go_wp2_with fail
    refine c1.out.mono ?_
    rintro e w1 ⟨v, rfl, hb, ⟨_, rfl⟩ | ⟨r', g, hr, _⟩⟩
    · have he := eqnil w1
      go_wp2
      go_ret2
      exact ⟨rfl, hb⟩
    · cases hr
  | some r =>
    rw [hf] at c1
    have hfl := (head_fine r (findH_mem hf)).2.2.2.1
    have hlt := (head_fine r (findH_mem hf)).2.2.2.2.2.1
    have c2 := fun w => hid (atoi_any (dec3 r.flags) (r.flags : Int) w (dec3_len _) hfl)
    go_enter Tryz.func126, Tryz.ntmps126
    go_wp2_with fail
    refine c1.out.mono ?_
    rintro e w1 ⟨v, rfl, hb, ⟨h, _⟩ | ⟨r', g, hr, rfl, hg, hB⟩⟩
    · cases h
    cases hr
    have he := eqnil w1
    have x1 := row_cell hB 2 (dec3 r.flags) rfl
    have hl : 2 < r.words.length := by simp [HR.words]
    go_wp2_with (go_at_call 167; refine (c2 _).out.mono ?_; rintro e w2 ⟨rfl, hb2⟩)
    go_ret2
    exact ⟨rfl, hb.trans (hb2.mono hb.size)⟩
end
end Go.Proofs.YtejbigoacknfoaaGreatDoor
