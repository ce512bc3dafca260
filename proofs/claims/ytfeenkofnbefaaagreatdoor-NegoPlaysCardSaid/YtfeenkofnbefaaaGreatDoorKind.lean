/- What is known of a PDU: by the document. -/
import Derived.Test.YtfeenkofnbefaaaGreatDoorKinds
import Derived.Deep.QuietTactic
import Derived.BigQuiet
set_option linter.unusedSectionVars false
set_option linter.unusedSimpArgs false
set_option linter.unusedVariables false
namespace Go.Proofs.YtfeenkofnbefaaaGreatDoor
open Go Go.RowKit
set_option linter.unusedVariables false
set_option linter.unusedSectionVars false
set_option linter.unusedSimpArgs false
set_option maxRecDepth 100000
def hName : Option HR → List UInt8 | none => [] | some r => r.name
def hFlags : Option HR → Nat | none => 0 | some r => r.flags
def hFields : Option HR → List FR | none => [] | some r => r.fields
theorem FS.sl {base : Nat} {w : World} {v : Value} {l : List FR} (h : FS base w v l) : Sl w v 3 l.length (fieldCells l) := by
  obtain ⟨g, rfl, _, hB⟩ := h
  refine ⟨_, _, rfl, ?_, .inr ⟨g, 0, rfl, fun j u hu => ?_⟩⟩
  · clear hB
    unfold fieldCells
    induction l with
    | nil => rfl
    | cons f l ih => rw [List.flatMap_cons, List.length_append, ih]; simp [FR.cells]; omega
  · rw [Nat.zero_add, hB.cell j]
    simpa using hu
def KindPost (op : Int) (w : World) (e : Ending) (w' : World) : Prop :=
  ∃ v, e = .returned (.tuple #[.string (bs (hName (findH op))), .int .i64 (hFlags (findH op) : Nat), v, .bool (findH op).isSome]) ∧ Sl w' v 3 (hFields (findH op)).length (fieldCells (hFields (findH op))) ∧ (findH op = none → v = .slice none 0 0) ∧ Below w.heap.size w w'
theorem findH_at {op : Int} {i : Nat} {r : HR} (h : headRows[i]? = some r) (hn : ∀ x ∈ headRows.take i, (x.op : Int) ≠ op) (he : (r.op : Int) = op) : findH op = some r := by
  obtain ⟨h1, h2⟩ := List.getElem?_eq_some_iff.1 h
  have hs : headRows = headRows.take i ++ r :: headRows.drop (i + 1) := by
    rw [← h2, List.getElem_cons_drop, List.take_append_drop]
  rw [findH, hs, List.find?_append]
  have hn0 : (headRows.take i).find? (fun r => decide ((r.op : Int) = op)) = none := List.find?_eq_none.2 fun x hx => by simpa using hn x hx
  rw [hn0]
  simp [he]
theorem findH_none {op : Int} (hn : ∀ x ∈ headRows, (x.op : Int) ≠ op) : findH op = none := List.find?_eq_none.2 fun x hx => by simpa using hn x hx
theorem take_no {op : Int} {k : Nat} {r : HR} (h : headRows[k]? = some r) (hn : ∀ x ∈ headRows.take k, (x.op : Int) ≠ op) (he : (r.op : Int) ≠ op) : ∀ x ∈ headRows.take (k + 1), (x.op : Int) ≠ op := by
  obtain ⟨h1, h2⟩ := List.getElem?_eq_some_iff.1 h
  rw [List.take_succ_eq_append_getElem h1, h2]
  intro x hx
  rcases List.mem_append.1 hx with hx | hx
  · exact hn x hx
  · rw [List.mem_singleton.1 hx]; exact he
theorem zip4 (l : List HR) (ss : List Value) (h : ss.length = l.length) (i : Nat) (r : HR) (s : Value) (hr : l[i]? = some r) (hs : ss[i]? = some s) (j : Nat) (hj : j < 4) :
    ((l.zip ss).flatMap fun x => [Value.int .i64 (x.1.op : Int), .string (bs x.1.name), .int .i64 (x.1.flags : Int), x.2])[i * 4 + j]? = [Value.int .i64 (r.op : Int), .string (bs r.name), .int .i64 (r.flags : Int), s][j]? := by
  induction l generalizing i ss with
  | nil => simp at hr
  | cons x l ih =>
    cases ss with
    | nil => simp at h
    | cons y ss =>
      rw [List.zip_cons_cons, List.flatMap_cons]
      cases i with
      | zero =>
        simp only [List.getElem?_cons_zero, Option.some.injEq] at hr hs
        subst hr hs
        rw [List.getElem?_append_left (by simp; omega)]
        simp
      | succ i =>
        rw [List.getElem?_append_right (by simp; omega)]
        have e : (i + 1) * 4 + j - [Value.int .i64 (x.op : Int), .string (bs x.name), .int .i64 (x.flags : Int), y].length = i * 4 + j := by simp; omega
        rw [e]
        exact ih ss (by simpa using h) i (by simpa using hr) (by simpa using hs)
def RKind (op : Int) (w1 : World) (i : Value) (wr : World) : Prop :=
  ∃ k : Nat, k ≤ 18 ∧ i = .int .i64 (k : Nat) ∧ (∀ x ∈ headRows.take k, (x.op : Int) ≠ op) ∧ Below w1.heap.size w1 wr
set_option maxHeartbeats 4000000 in
theorem kind_any (op : Int) (w : World) : Calls Tryz.prog 106 #[.int .i64 op] w fun e w' => KindPost op w e w' := by
  have c1 := fun w => hid (kinds_any w)
  go_enter Tryz.func106, Tryz.ntmps106
  go_wp2_with (go_at_call 136; refine (c1 _).out.mono ?_; rintro e w1 ⟨v, rfl, ⟨g, ss, rfl, hg, hss, hfs, hB⟩, hb1⟩)
  have HFS := hid hfs; have HBB := hid hB
  clear hfs hB
  go_loopw [10] (fun i wr => RKind op w1 i wr) (fun i _ => 18 - (intOf i).toNat)
  case atStart => exact ⟨0, by omega, rfl, by simp, Below.refl _ _⟩
  case round =>
    obtain ⟨k, hk, rfl, hno, hb⟩ := hrel
    have hB := hb.size
    by_cases hlt : k < 18
    · obtain ⟨r, hr⟩ : ∃ r, headRows[k]? = some r := ⟨headRows[k]'(by show k < 18; exact hlt), List.getElem?_eq_getElem _⟩
      obtain ⟨s, hs⟩ : ∃ s, ss[k]? = some s := ⟨ss[k]'(by omega), List.getElem?_eq_getElem _⟩
      have hcell : ∀ j, j < 4 → wr.cell? ⟨g, k * 4 + j, none⟩ = [Value.int .i64 (r.op : Int), .string (bs r.name), .int .i64 (r.flags : Int), s][j]? := fun j hj => by
        rw [(hb.cell (p := ⟨g, k * 4 + j, none⟩) HBB.out.lt), HBB.out.cell, List.getElem?_toArray]
        exact zip4 headRows ss (by rw [hss]; rfl) k r s hr hs j hj
      have a0 : wr.cell? ⟨g, k * 4, none⟩ = some (.int .i64 (r.op : Int)) := hcell 0 (by omega)
      have a1 : wr.cell? ⟨g, k * 4 + 1, none⟩ = some (.string (bs r.name)) := hcell 1 (by omega)
      have a2 : wr.cell? ⟨g, k * 4 + 2, none⟩ = some (.int .i64 (r.flags : Int)) := hcell 2 (by omega)
      have a3 : wr.cell? ⟨g, k * 4 + 3, none⟩ = some s := hcell 3 (by omega)
      have hfs := (HFS.out k r s hr hs)
      obtain ⟨g2, hsv, hg2, hB2⟩ := id hfs
      have HF := hid hfs
      by_cases hop : (r.op : Int) = op
      · have Hf := hid (findH_at hr hno hop)
        clear hcell hr hs hno hfs
        subst hop
        subst hsv
        go_wp2
        go_quiet (skip)
        go_wp2
        refine bodyPost_ret (v := .tuple #[.string (bs r.name), .int .i64 (r.flags : Int), .slice (some ⟨g2, 0, none⟩) r.fields.length r.fields.length, .bool true]) (by simp [results, Tryz.results106, go_sem]) rfl ?_
        have hfin := below_drewN (hb.alloc hB (.cells #[.int .i64 (r.op : Int), .string (bs r.name), .int .i64 (r.flags : Int), .slice (some ⟨g2, 0, none⟩) r.fields.length r.fields.length] 269)) nq
        refine ⟨.slice (some ⟨g2, 0, none⟩) r.fields.length r.fields.length, by rw [Hf.out]; rfl, ?_, (by rw [Hf.out]; intro h; cases h), hb1.trans (hfin.mono hb1.size)⟩
        rw [Hf.out]
        exact (HF.out.below hfin).sl
      · have Hno := hid (take_no hr hno hop)
        clear hcell hr hs hno hfs
        subst hsv
        go_wp2
        go_roundw
        case rel => exact ⟨k + 1, by omega, by go_num, Hno.out, hb.alloc hB _⟩
        case measure => simp [intOf]; omega
    · obtain rfl : k = 18 := by omega
      have Hf := hid (findH_none (op := op) (by rw [show (18 : Nat) = headRows.length from rfl, List.take_length] at hno; exact hno))
      clear hno
      go_wp2
      refine bodyPost_ret (v := .tuple #[.string (bs []), .int .i64 0, .slice none 0 0, .bool false]) (by simp [results, Tryz.results106, go_sem]; rfl) rfl ?_
      refine ⟨.slice none 0 0, by rw [Hf.out]; rfl, ?_, fun _ => rfl, hb1.trans (hb.mono hb1.size)⟩
      rw [Hf.out]; exact sl_nil _ _
end Go.Proofs.YtfeenkofnbefaaaGreatDoor
