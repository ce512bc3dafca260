/- What is known of a PDU: by the program. -/
import Derived.Test.YtfeenkofnbefaaaGreatDoorHeadRow
import Derived.Test.YtfeenkofnbefaaaGreatDoorSeen
set_option linter.unusedSectionVars false
set_option linter.unusedSimpArgs false
set_option linter.unusedVariables false
namespace Go.Proofs.YtfeenkofnbefaaaGreatDoor
open Go Go.RowKit
set_option linter.unusedVariables false
set_option linter.unusedSectionVars false
set_option linter.unusedSimpArgs false
set_option maxRecDepth 100000
def hE : Option HR → Nat | none => 1 | some _ => 0
def HErr (o : Option HR) : Value := errV 31 (hE o)
theorem row_cell {r : HR} {g : Nat} {W : World} (h : Blk W g 9 (rowCells r).toArray) (i : Nat) (x : List UInt8) (hx : r.words[i]? = some x) : W.cell? ⟨g, i, none⟩ = some (.string (bs x)) := by
  rw [h.cell i, rowCells, List.getElem?_toArray, List.getElem?_map, hx]; rfl
theorem findH_mem {op : Int} {r : HR} (h : findH op = some r) : r ∈ headRows := List.mem_of_find?_eq_some h
theorem eqnil (W : World) (a : Option Addr) (n c : Nat) : (binOp .eql 56 (.slice a n c) (.slice none 0 0)).run Tryz.prog W = .ok (.bool a.isNone) W := by
  cases a <;> rfl
theorem dec3_len (n : Nat) : (dec3 n).length ≤ 18 := by
  unfold dec3
  split
  · simp
  · split <;> simp
section
variable (op : Int) (h0 : -9223372036854775808 ≤ op) (h1 : op ≤ 9223372036854775807) (w : World) (hT : AS w) (hP : PT w)
include h0 h1 hT hP
theorem hflags_any : Calls Tryz.prog 148 #[.int .i64 op] w fun e w' => e = .returned (.tuple #[.int .i64 (hFlags (findH op) : Nat), HErr (findH op)]) ∧ Below w.heap.size w w' := by
  have c1 := hid (row_any op h0 h1 w hT hP)
  unfold RowPost at c1
  clear hT hP h0 h1
  cases hf : findH op with
  | none =>
    rw [hf] at c1
    go_enter Tryz.func148, Tryz.ntmps148
    go_wp2_with fail
    refine c1.out.mono ?_
    rintro e w1 ⟨v, rfl, hb, ⟨_, rfl⟩ | ⟨r', g, hr, _⟩⟩
    · have he := eqnil w1
      go_wp2
      go_ret2
      exact ⟨rfl, hb⟩
    · cases hr
  | some r =>
    rw [hf] at c1
    have hfl := (head_fine r (findH_mem hf)).2.2.2.1
    have hlt := (head_fine r (findH_mem hf)).2.2.2.2.2.1
    have c2 := fun w => hid (atoi_any (dec3 r.flags) (r.flags : Int) w (dec3_len _) hfl)
    go_enter Tryz.func148, Tryz.ntmps148
    go_wp2_with fail
    refine c1.out.mono ?_
    rintro e w1 ⟨v, rfl, hb, ⟨h, _⟩ | ⟨r', g, hr, rfl, hg, hB⟩⟩
    · cases h
    cases hr
    have he := eqnil w1
    have x1 := row_cell hB 2 (dec3 r.flags) rfl
    have hl : 2 < r.words.length := by simp [HR.words]
    go_wp2_with (go_at_call 104; refine (c2 _).out.mono ?_; rintro e w2 ⟨rfl, hb2⟩)
    go_ret2
    exact ⟨rfl, hb.trans (hb2.mono hb.size)⟩
end
end Go.Proofs.YtfeenkofnbefaaaGreatDoor

namespace Go.Proofs.YtfeenkofnbefaaaGreatDoor
open Go Go.RowKit
set_option linter.unusedVariables false
set_option linter.unusedSectionVars false
set_option linter.unusedSimpArgs false
set_option maxRecDepth 100000
theorem infoField : (Tryz.prog.info? 230).map (fun i => (i.zero, i.size, i.bytes)) = some (some (.agg #[.string ⟨#[]⟩, .int .i64 0, .int .i64 0]), 3, 32) := by kernel_rfl
theorem fieldCells_snoc (l : List FR) (k : Nat) (f : FR) (h : l[k]? = some f) : fieldCells (l.take (k + 1)) = fieldCells (l.take k) ++ f.cells := by
  obtain ⟨h1, h2⟩ := List.getElem?_eq_some_iff.1 h
  rw [List.take_succ_eq_append_getElem h1, fieldCells, List.flatMap_append, h2]
  simp [fieldCells]
theorem fields_pos : ∀ r ∈ headRows, 0 < r.fields.length := by decide +kernel
def FieldsPost (op : Int) (w : World) (e : Ending) (w' : World) : Prop :=
  ∃ v, e = .returned (.tuple #[v, HErr (findH op)]) ∧ Sl w' v 3 (hFields (findH op)).length (fieldCells (hFields (findH op))) ∧ (findH op = none → v = .slice none 0 0) ∧ Below w.heap.size w w'
def RFields (r : HR) (w w1 : World) (v i : Value) (wr : World) : Prop :=
  ∃ k : Nat, k ≤ r.fields.length ∧ i = .int .i64 (k : Nat) ∧ wr.ownsRow w1.heap.size 230 3 v k (fieldCells (r.fields.take k)) ∧ Below w1.heap.size w1 wr
set_option maxHeartbeats 4000000 in
theorem hfields_any (op : Int) (h0 : -9223372036854775808 ≤ op) (h1 : op ≤ 9223372036854775807) (w : World) (hT : AS w) (hP : PT w) : Calls Tryz.prog 113 #[.int .i64 op] w fun e w' => FieldsPost op w e w' := by
  have c1 := hid (row_any op h0 h1 w hT hP)
  unfold RowPost at c1
  clear hT hP h0 h1
  unfold FieldsPost
  cases hf : findH op with
  | none =>
    rw [hf] at c1
    go_enter Tryz.func113, Tryz.ntmps113
    go_wp2_with fail
    refine c1.out.mono ?_
    rintro e w1 ⟨v, rfl, hb, ⟨_, rfl⟩ | ⟨r', g, hr, _⟩⟩
    · have he := eqnil w1
      go_wp2
      go_ret2
      exact ⟨_, rfl, sl_nil _ _, fun _ => rfl, hb⟩
    · cases hr
  | some r =>
    rw [hf] at c1
    have hfine := (head_fine r (findH_mem hf)).2.2.2.2.2.2
    go_enter Tryz.func113, Tryz.ntmps113
    go_wp2_with fail
    refine c1.out.mono ?_
    rintro e w1 ⟨v, rfl, hb1, ⟨h, _⟩ | ⟨r', g, hr, rfl, hg, hB⟩⟩
    · cases h
    cases hr
    have he := eqnil w1
    have hwl : r.words.length = r.fields.length + 3 := by simp [HR.words]
    have hnf := hfine.1
    have hn0 := fields_pos r (findH_mem hf)
    have hne : ¬ r.fields = [] := by intro h; rw [h] at hn0; simp at hn0
    have HB := hid hB
    have HF := hid hfine.2
    clear hB hfine c1
    rw [hwl]
    go_wp2
    go_loopw [5, 21] (fun v i wr => RFields r w w1 v i wr) (fun _ i _ => r.fields.length - (intOf i).toNat)
    case atStart => exact ⟨0, by omega, rfl, World.ownsRow_nil _ _ _ _, Below.refl _ _⟩
    case round =>
      obtain ⟨k, hk, rfl, hown, hb⟩ := hrel
      have hsz := hb.size
      by_cases hlt : k < r.fields.length
      · obtain ⟨f, hfk⟩ : ∃ f, r.fields[k]? = some f := ⟨r.fields[k], List.getElem?_eq_getElem hlt⟩
        obtain ⟨q1, q2, q3, q4, q5, q6, q7⟩ := HF.out f (List.mem_of_getElem? hfk)
        have hx : r.words[3 + k]? = some f.text := by
          rw [HR.words, show 3 + k = (k + 1 + 1) + 1 by omega]
          simp [hfk]
        have x0 : wr.cell? ⟨g, 3 + k, none⟩ = some (.string (bs f.text)) := (hb.cell (p := ⟨g, 3 + k, none⟩) HB.out.lt).trans (row_cell HB.out (3 + k) _ hx)
        have c2 := fun w => hid (split1_any 58 f.text w (by omega))
        rw [q1] at c2
        simp only [FR.words, sArr_bs, List.length_cons, List.length_nil, List.map_cons, List.map_nil, Nat.reduceAdd] at c2
        have c3 := fun w => hid (atoi_any (dec3 f.at_) (f.at_ : Int) w (dec3_len _) q3)
        have c4 := fun w => hid (atoi_any (dec3 f.size) (f.size : Int) w (dec3_len _) q4)
        have Hn := hid (fieldCells_snoc r.fields k f hfk)
        have HO := hid hown
        generalize fieldCells (r.fields.take k) = xs at *
        clear hown hx hfk q1 q3 q4
        go_wp2_with fail
        refine (c2 _).out.mono ?_; rintro e w2 ⟨rfl, rfl⟩
        have B2 := Blk.new wr 9 #[.string (bs f.name), .string (bs (dec3 f.at_)), .string (bs (dec3 f.size))]
        have hb2 : Below w1.heap.size w1 (wr.alloc (.cells #[.string (bs f.name), .string (bs (dec3 f.at_)), .string (bs (dec3 f.size))] 9)) := hb.alloc hsz _
        have HO2 := hid (HO.out.alloc (.cells #[.string (bs f.name), .string (bs (dec3 f.at_)), .string (bs (dec3 f.size))] 9))
        go_wp2_with fail
        refine (c3 _).out.mono ?_; rintro e w3 ⟨rfl, hb3⟩
        have B3 := B2.below hb3
        have HO3 := hid (owns_below HO2.out hb3)
        have hb3 := hb2.trans (hb3.mono hb2.size)
        have y2 : w3.cell? ⟨wr.heap.size, 2, none⟩ = some (.string (bs (dec3 f.size))) := (B3.cell 2).trans rfl
        go_wp2_with fail
        refine (c4 _).out.mono ?_; rintro e w4 ⟨rfl, hb4⟩
        have B4 := B3.below hb4
        have HO4 := hid (owns_below HO3.out hb4)
        have hb4 := hb3.trans (hb4.mono hb3.size)
        have z0 : w4.cell? ⟨wr.heap.size, 0, none⟩ = some (.string (bs f.name)) := (B4.cell 0).trans rfl
        clear B2 B3 B4 HO2 HO3
        have hs4 := hb4.size
        go_wp2_with (at_builtin; refine list_append_own rfl (.tmp 41) (.tmp 48) 226 rfl w1.heap.size 230 (.agg #[.string ⟨#[]⟩, .int .i64 0, .int .i64 0]) 3 32 Tryz.underlying226 infoField rfl (by decide) u5 k xs rfl (HO4.out.alloc _) ⟨w4.heap.size, 0, none⟩ 1 1 f.cells rfl rfl (by intro j u hu; rw [show (⟨w4.heap.size, 0, none⟩ : Addr).add j = ⟨w4.heap.size, j, none⟩ by (simp [Addr.add]; omega), cell_of_row _ _ _ _ _ _ (heap_alloc_new _ _)]; simpa [FR.cells] using hu) (by simp [Value.oneCell', FR.cells]) (by unfold maxLen; omega) (by omega) (by simp; omega) ?_; intro v' w5 hown5 hgrow _)
        go_roundw
        case rel => exact ⟨k + 1, by omega, by go_num, by rw [Hn.out]; exact hown5, below_append (hb4.alloc hs4 _) (HO4.out.alloc _) hgrow (by simp; omega)⟩
        case measure => simp [intOf]; omega
      · obtain rfl : k = r.fields.length := by omega
        go_wp2
        go_ret2
        rw [List.take_length] at hown
        exact ⟨_, rfl, sl_of_owns hown, (fun h => by cases h), hb1.trans (hb.mono hb1.size)⟩
end Go.Proofs.YtfeenkofnbefaaaGreatDoor
