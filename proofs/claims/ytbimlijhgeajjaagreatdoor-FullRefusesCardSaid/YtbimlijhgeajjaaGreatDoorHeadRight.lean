/- What is wrong with a head: by the program and by the document. -/
import Derived.Test.YtbimlijhgeajjaaGreatDoorHeadRdPure
import Derived.Deep.QuietTactic
import Derived.BigQuiet
set_option linter.unusedSectionVars false
set_option linter.unusedSimpArgs false
set_option linter.unusedVariables false
namespace Go.Proofs.YtbimlijhgeajjaaGreatDoor
open Go Go.RowKit
set_option linter.unusedVariables false
set_option linter.unusedSectionVars false
set_option linter.unusedSimpArgs false
set_option maxRecDepth 100000
def RightPost (op : Int) (now : Bool) (flags : Int) (vs : List Nat) (w : World) (e : Ending) (w' : World) : Prop :=
  ∃ ev, e = .returned ev ∧ ErrIs w' ev (rightH op now flags vs).1 (rightH op now flags vs).2 ∧ Below w.heap.size w w'
def RRight (r : HR) (vs : List Nat) (w2 : World) (i : Value) (wr : World) : Prop :=
  ∃ k : Nat, k ≤ r.fields.length ∧ i = .int .i64 (k : Nat) ∧ firstBad r.fields vs 0 = firstBad (r.fields.drop k) (vs.drop k) k ∧ Below w2.heap.size w2 wr
theorem errAt_newH (w : World) (k : Nat) (p : Int) (h : 0 < k) : ErrIs (w.alloc (.cells #[.int .i64 (k : Nat), .int .i64 p] 100)) (.iface 98 (.pointer (some ⟨w.heap.size, 0, none⟩))) k p :=
  .at_ k h p _ (by rw [cell_of_row _ _ _ _ _ _ (heap_alloc_new _ _)]; rfl) (by rw [cell_of_row _ _ _ _ _ _ (heap_alloc_new _ _)]; rfl)
theorem fieldCells_at (l : List FR) (k : Nat) (f : FR) (h : l[k]? = some f) (j : Nat) (hj : j < 3) : (fieldCells l)[k * 3 + j]? = f.cells[j]? := by
  induction l generalizing k with
  | nil => simp at h
  | cons x l ih =>
    rw [fieldCells, List.flatMap_cons]
    cases k with
    | zero =>
      simp only [List.getElem?_cons_zero, Option.some.injEq] at h
      subst h
      rw [List.getElem?_append_left (by simp [FR.cells]; omega)]
      simp
    | succ k =>
      rw [List.getElem?_append_right (by simp [FR.cells]; omega), show (k + 1) * 3 + j - (FR.cells x).length = k * 3 + j by simp [FR.cells]; omega]
      exact ih k (by simpa using h)
/-- a slice of fields that has some: where it lies, and what is read there -/
theorem fields_open {w : World} {v : Value} {fs : List FR} (h : Sl w v 3 fs.length (fieldCells fs)) (hn : 0 < fs.length) :
    ∃ b o c, v = .slice (some ⟨b, o, none⟩) fs.length c ∧ b < w.heap.size ∧ ∀ k f, fs[k]? = some f →
      w.cell? ⟨b, o + k * 3, none⟩ = some (.string (bs f.name)) ∧ w.cell? ⟨b, o + k * 3 + 1, none⟩ = some (.int .i64 (f.at_ : Int)) ∧ w.cell? ⟨b, o + k * 3 + 2, none⟩ = some (.int .i64 (f.size : Int)) := by
  obtain ⟨a, c, rfl, hl, h | ⟨b, o, rfl, hc⟩⟩ := h
  · omega
  · have hk : ∀ k f, fs[k]? = some f → w.cell? ⟨b, o + k * 3, none⟩ = some (.string (bs f.name)) ∧ w.cell? ⟨b, o + k * 3 + 1, none⟩ = some (.int .i64 (f.at_ : Int)) ∧ w.cell? ⟨b, o + k * 3 + 2, none⟩ = some (.int .i64 (f.size : Int)) := fun k f hf =>
      ⟨hc (k * 3) _ (fieldCells_at fs k f hf 0 (by omega)), hc (k * 3 + 1) _ (fieldCells_at fs k f hf 1 (by omega)), hc (k * 3 + 2) _ (fieldCells_at fs k f hf 2 (by omega))⟩
    exact ⟨b, o, c, rfl, block_lt_of_cell (hk 0 fs[0] (List.getElem?_eq_getElem hn)).1, hk⟩
theorem vals_open {w : World} {v : Value} {vs : List Nat} (h : Sl w v 1 vs.length (u64Cells vs)) (hn : 0 < vs.length) :
    ∃ b o c, v = .slice (some ⟨b, o, none⟩) vs.length c ∧ b < w.heap.size ∧ ∀ (k x : Nat), vs[k]? = some x → w.cell? ⟨b, o + k, none⟩ = some (.int .u64 (x : Int)) := by
  obtain ⟨a, c, rfl, hl, h | ⟨b, o, rfl, hc⟩⟩ := h
  · omega
  · have hk : ∀ (k x : Nat), vs[k]? = some x → w.cell? ⟨b, o + k, none⟩ = some (.int .u64 (x : Int)) := fun k x hx => hc k _ (by rw [u64Cells, List.getElem?_map, hx]; rfl)
    exact ⟨b, o, c, rfl, block_lt_of_cell (hk 0 vs[0] (List.getElem?_eq_getElem hn)), hk⟩
section
variable (op : Int) (now : Bool) (flags : Int) (v : Value) (vs : List Nat) (w : World) (h0 : -9223372036854775808 ≤ op) (h1 : op ≤ 9223372036854775807) (g0 : -9223372036854775808 ≤ flags) (g1 : flags ≤ 9223372036854775807)
  (hn : vs.length ≤ 9223372036854775807) (hv : ∀ x ∈ vs, x ≤ 18446744073709551615) (hsl : Sl w v 1 vs.length (u64Cells vs)) (hT : AS w) (hP : PT w)
include h0 h1 g0 g1 hn hv hsl hT hP
set_option maxHeartbeats 4000000 in
theorem right_any : Calls Tryz.prog 100 #[headV op now flags v] w fun e w' => RightPost op now flags vs w e w' := by
  have c1 := fun w1 (hb : Below w.heap.size w w1) => hid (hfields_any op h0 h1 w1 (hT.below hb (Nat.le_refl _)) (hP.below hb (Nat.le_refl _)))
  have c2 := fun w1 (hb : Below w.heap.size w w1) => hid (hflags_any op h0 h1 w1 (hT.below hb (Nat.le_refl _)) (hP.below hb (Nat.le_refl _)))
  have HSL := hid hsl
  obtain ⟨sa, sc, rfl, hsl1, hsl2⟩ := hsl
  unfold FieldsPost at c1
  unfold RightPost
  clear hT hP
  cases hf : findH op with
  | none =>
    rw [hf] at c1
    have hr : rightH op now flags vs = (1, -1) := by simp [rightH, hf]
    rw [hr]
    go_enter Tryz.func100, Tryz.ntmps100
    unfold headV
    go_wp2_with fail
    have b1 := (Below.refl w.heap.size w).alloc (Nat.le_refl _) (.cells #[.int .i64 op, .bool now, .int .i64 flags, .slice sa vs.length sc] 51)
    refine (c1 _ b1).out.mono ?_
    rintro e w1 ⟨fv, rfl, _, hnil, hb⟩
    obtain rfl := hnil (by trivial)
    simp only [HErr, hE, errV]
    go_wp2
    go_ret
    exact ⟨_, rfl, .bare 1 (by omega), b1.trans (hb.mono b1.size)⟩
  | some r =>
    rw [hf] at c1 c2
    have hmem := findH_mem hf
    have hfine := head_fine r hmem
    have hfl := hfine.2.2.2.2.2.1
    have hnf := hfine.2.2.2.2.2.2.1
    have hsz := hfine.2.2.2.2.2.2.2
    have hn0 := fields_pos r hmem
    clear hfine
    have b1 := (Below.refl w.heap.size w).alloc (Nat.le_refl _) (.cells #[.int .i64 op, .bool now, .int .i64 flags, .slice sa vs.length sc] 51)
    have B1 := Blk.new w 51 #[.int .i64 op, .bool now, .int .i64 flags, .slice sa vs.length sc]
    simp only [HErr, hE, errV, hFields, hFlags] at c1 c2
    have hcases : (wrongH op now flags r.flags = true ∧ ((now = true ∧ 32 ≤ op) ∨ ((now = false ∨ ¬ 32 ≤ op) ∧ flags < 0) ∨ ((now = false ∨ ¬ 32 ≤ op) ∧ ¬ flags < 0 ∧ extra flags.toNat r.flags = true))) ∨ (wrongH op now flags r.flags = false ∧ (now = false ∨ ¬ 32 ≤ op) ∧ ¬ flags < 0 ∧ extra flags.toNat r.flags = false) := by
      unfold wrongH
      cases now <;> by_cases a1 : 32 ≤ op <;> by_cases a2 : flags < 0 <;> cases a3 : extra flags.toNat r.flags <;> simp [a1, a2, a3]
    have hand : ¬ flags < 0 → (bits .andNot .i64 flags (r.flags : Int) != 0) = extra flags.toNat r.flags := fun h => by
      have := andnot_flags flags.toNat r.flags (by omega) hfl
      rwa [Int.toNat_of_nonneg (by omega)] at this
    have Hand := hid hand; clear hand
    have hR3 : wrongH op now flags r.flags = true → rightH op now flags vs = (3, -1) := fun h => by simp [rightH, hf, h]
    have hR7 : wrongH op now flags r.flags = false → r.fields.length ≠ vs.length → rightH op now flags vs = (7, -1) := fun h h2 => by simp [rightH, hf, h, h2]
    have hR2 : ∀ i, wrongH op now flags r.flags = false → r.fields.length = vs.length → firstBad r.fields vs 0 = some i → rightH op now flags vs = (2, (i : Int)) := fun i h h2 h3 => by simp [rightH, hf, h, h2, h3]
    have hR0 : wrongH op now flags r.flags = false → r.fields.length = vs.length → firstBad r.fields vs 0 = none → rightH op now flags vs = (0, -1) := fun h h2 h3 => by simp [rightH, hf, h, h2, h3]
    have HR3 := hid hR3; have HR7 := hid hR7; have HR2 := hid hR2; have HR0 := hid hR0
    clear hR3 hR7 hR2 hR0
    have Hsz := hid hsz; clear hsz
    have Hv := hid hv; clear hsl2 hv hsl1
    go_enter Tryz.func100, Tryz.ntmps100
    unfold headV
    go_wp2_with fail
    refine (c1 _ b1).out.mono ?_
    rintro e w1 ⟨fv, rfl, hfs, _, hb1⟩
    have B1 := B1.below hb1
    have b1 := b1.trans (hb1.mono b1.size)
    have p0 : w1.cell? ⟨w.heap.size, 0, none⟩ = some (.int .i64 op) := (B1.cell 0).trans rfl
    clear hb1
    go_wp2_with fail
    refine (c2 _ b1).out.mono ?_
    rintro e w2 ⟨rfl, hb2⟩
    have B2 := B1.below hb2
    have hfs := hfs.below (by omega) hb2
    have b2 := b1.trans (hb2.mono b1.size)
    clear p0 B1 hb2 b1
    have p0 : w2.cell? ⟨w.heap.size, 0, none⟩ = some (.int .i64 op) := (B2.cell 0).trans rfl
    have p1 : w2.cell? ⟨w.heap.size, 1, none⟩ = some (.bool now) := (B2.cell 1).trans rfl
    have p2 : w2.cell? ⟨w.heap.size, 2, none⟩ = some (.int .i64 flags) := (B2.cell 2).trans rfl
    have p3 : w2.cell? ⟨w.heap.size, 3, none⟩ = some (.slice sa vs.length sc) := (B2.cell 3).trans rfl
    have HFS := hid hfs
    obtain ⟨fa, fc, rfl, hfl1, hfl2⟩ := hfs
    have HB2 := hid B2
    clear hfl2 B2 hfl1
    rcases hcases with ⟨hw, hc⟩ | ⟨hw, hc⟩
    · have HR := hid (HR3.out hw)
      clear HR3 HR7 HR2 HR0 hw
      rcases hc with ⟨rfl, hc⟩ | ⟨rfl | hc1, hc⟩ | ⟨rfl | hc1, hc, he⟩
      · have hd := decide_eq_true hc
        go_wp2
        go_ret
        exact ⟨_, rfl, by rw [HR.out]; exact .bare 3 (by omega), b2⟩
      · have hd := decide_eq_true hc
        go_wp2
        go_ret
        exact ⟨_, rfl, by rw [HR.out]; exact .bare 3 (by omega), b2⟩
      · have hd := decide_eq_true hc
        have hd1 : decide (32 ≤ op) = false := decide_eq_false (by omega)
        cases now
        · go_wp2
          go_ret
          exact ⟨_, rfl, by rw [HR.out]; exact .bare 3 (by omega), b2⟩
        · go_wp2
          go_ret
          exact ⟨_, rfl, by rw [HR.out]; exact .bare 3 (by omega), b2⟩
      · have hd : decide (flags < 0) = false := decide_eq_false (by omega)
        have ha := (Hand.out (by omega)).trans he
        go_wp2
        go_ret
        exact ⟨_, rfl, by rw [HR.out]; exact .bare 3 (by omega), b2⟩
      · have hd : decide (flags < 0) = false := decide_eq_false (by omega)
        have hd1 : decide (32 ≤ op) = false := decide_eq_false (by omega)
        have ha := (Hand.out (by omega)).trans he
        cases now
        · go_wp2
          go_ret
          exact ⟨_, rfl, by rw [HR.out]; exact .bare 3 (by omega), b2⟩
        · go_wp2
          go_ret
          exact ⟨_, rfl, by rw [HR.out]; exact .bare 3 (by omega), b2⟩
    · clear HR3
      have HR7 := hid (HR7.out hw); have HR0 := hid (HR0.out hw); have HR2 := hid (fun i => HR2.out i hw)
      clear hw
      obtain ⟨hc1, hc2, hc3⟩ := hc
      have hd : decide (flags < 0) = false := decide_eq_false (by omega)
      have ha := (Hand.out (by omega)).trans hc3
      have hdn : now = false ∨ (now = true ∧ decide (32 ≤ op) = false) := by
        rcases hc1 with h | h
        · exact .inl h
        · cases now
          · exact .inl rfl
          · exact .inr ⟨rfl, decide_eq_false (by omega)⟩
      clear hc1 hc3
      by_cases hlen : r.fields.length = vs.length
      · have hvl : 0 < vs.length := by omega
        obtain ⟨fb, fo, fc', hfe, hfb, hfc⟩ := fields_open HFS.out hn0
        obtain ⟨vb, vo, vc', hve, hvb, hvc⟩ := vals_open HSL.out hvl
        have HFC := hid hfc; have HVC := hid hvc
        cases hfe; cases hve
        clear hfc hvc HR7
        rcases hdn with rfl | ⟨rfl, hd1⟩
        · go_wp2
          go_loopw [55] (fun i wr => RRight r vs w2 i wr) (fun i _ => r.fields.length - (intOf i).toNat)
          case atStart => exact ⟨0, by omega, rfl, rfl, Below.refl _ _⟩
          case round =>
            obtain ⟨k, hk, rfl, heq, hb⟩ := hrel
            have hB := hb.size
            by_cases hlt : k < r.fields.length
            · obtain ⟨f, hfk⟩ : ∃ f, r.fields[k]? = some f := ⟨r.fields[k], List.getElem?_eq_getElem hlt⟩
              obtain ⟨x, hxk⟩ : ∃ x, vs[k]? = some x := ⟨vs[k]'(by omega), List.getElem?_eq_getElem _⟩
              obtain ⟨q1, q2, q3, q4, q5, q6, q7⟩ := Hsz.out f (List.mem_of_getElem? hfk)
              have hx64 := Hv.out x (List.mem_of_getElem? hxk)
              rw [firstBad_drop r.fields vs k f x hfk hxk] at heq
              obtain ⟨y0, y1, y2⟩ := HFC.out k f hfk
              have y0 := (hb.cell (p := ⟨fb, fo + k * 3, none⟩) hfb).trans y0
              have y1 := (hb.cell (p := ⟨fb, fo + k * 3 + 1, none⟩) hfb).trans y1
              have y2 := (hb.cell (p := ⟨fb, fo + k * 3 + 2, none⟩) hfb).trans y2
              have z0 := (hb.cell (p := ⟨vb, vo + k, none⟩) (Nat.lt_of_lt_of_le hvb b2.size)).trans ((b2.cell (p := ⟨vb, vo + k, none⟩) hvb).trans (HVC.out k x hxk))
              have p3 := (hb.cell (p := ⟨w.heap.size, 3, none⟩) HB2.out.lt).trans p3
              have q9 : vb < wr.heap.size := Nat.lt_of_lt_of_le hvb (Nat.le_trans b2.size hB)
              have q8 : w.heap.size < wr.heap.size := Nat.lt_of_lt_of_le HB2.out.lt hB
              have hB' := hb.alloc hB (.cells #[.string (bs f.name), .int .i64 (f.at_ : Int), .int .i64 (f.size : Int)] 175)
              by_cases hbad : 256 ^ f.size ≤ x
              · have h8 : f.size < 8 := by
                  rcases Nat.lt_or_ge f.size 8 with h | h
                  · exact h
                  · obtain h : f.size = 8 := by omega
                    rw [h] at hbad; omega
                rw [if_pos hbad] at heq
                have HR := hid (HR2.out k hlen heq)
                have hq : ((x : Int) / 2 ^ (8 * f.size) != 0) = true := by
                  have e : (x : Int) / 2 ^ (8 * f.size) = ((x / 256 ^ f.size : Nat) : Int) := by rw [← pow_256]; simp
                  have e2 : 0 < x / 256 ^ f.size := Nat.div_pos hbad (Nat.pow_pos (by omega))
                  rw [e, bne_iff_ne]; omega
                have hd8 : decide ((f.size : Int) < 8) = true := decide_eq_true (by omega)
                have hw8 : IntKind.i64.wrap (8 * (f.size : Int)) = 8 * (f.size : Int) := by rw [IntKind.wrap_i64]; omega
                have ht8 : (8 * (f.size : Int)).toNat = 8 * f.size := by omega
                have hp8 : ¬ 8 * (f.size : Int) < 0 := by omega
                clear hbad heq hfk hxk HR0 HR2
                go_wp2
                go_quiet (skip)
                go_wp2
                go_ret
                exact ⟨_, rfl, by rw [HR.out]; simpa using errAt_newH ((wr.alloc (.cells #[.string (bs f.name), .int .i64 (f.at_ : Int), .int .i64 (f.size : Int)] 175)).drewN nq) 2 (k : Int) (by omega), b2.trans (((below_drewN hB' _).alloc (by simp; omega) _).mono b2.size)⟩
              · rw [if_neg hbad] at heq
                have Heq := hid heq
                have hq : ((x : Int) / 2 ^ (8 * f.size) != 0) = false := by
                  have e : (x : Int) / 2 ^ (8 * f.size) = ((x / 256 ^ f.size : Nat) : Int) := by rw [← pow_256]; simp
                  rw [e, Nat.div_eq_of_lt (by omega)]; rfl
                clear hbad heq hfk hxk
                by_cases h8 : f.size < 8
                · have hd8 : decide ((f.size : Int) < 8) = true := decide_eq_true (by omega)
                  go_wp2
                  go_quiet (skip)
                  go_wp2
                  go_roundw
                  case rel => exact ⟨k + 1, by omega, by go_num, Heq.out, below_drewN hB' _⟩
                  case measure => simp [intOf]; omega
                · have hd8 : decide ((f.size : Int) < 8) = false := decide_eq_false (by omega)
                  go_wp2
                  go_quiet (skip)
                  go_wp2
                  go_roundw
                  case rel => exact ⟨k + 1, by omega, by go_num, Heq.out, below_drewN hB' _⟩
                  case measure => simp [intOf]; omega
            · obtain rfl : k = r.fields.length := by omega
              have HR := hid (HR0.out hlen (by rw [heq, List.drop_length]; simp [firstBad]))
              go_wp2
              go_ret
              exact ⟨_, rfl, by rw [HR.out]; exact .nil, b2.trans (hb.mono b2.size)⟩
        · go_wp2
          go_loopw [55] (fun i wr => RRight r vs w2 i wr) (fun i _ => r.fields.length - (intOf i).toNat)
          case atStart => exact ⟨0, by omega, rfl, rfl, Below.refl _ _⟩
          case round =>
            obtain ⟨k, hk, rfl, heq, hb⟩ := hrel
            have hB := hb.size
            by_cases hlt : k < r.fields.length
            · obtain ⟨f, hfk⟩ : ∃ f, r.fields[k]? = some f := ⟨r.fields[k], List.getElem?_eq_getElem hlt⟩
              obtain ⟨x, hxk⟩ : ∃ x, vs[k]? = some x := ⟨vs[k]'(by omega), List.getElem?_eq_getElem _⟩
              obtain ⟨q1, q2, q3, q4, q5, q6, q7⟩ := Hsz.out f (List.mem_of_getElem? hfk)
              have hx64 := Hv.out x (List.mem_of_getElem? hxk)
              rw [firstBad_drop r.fields vs k f x hfk hxk] at heq
              obtain ⟨y0, y1, y2⟩ := HFC.out k f hfk
              have y0 := (hb.cell (p := ⟨fb, fo + k * 3, none⟩) hfb).trans y0
              have y1 := (hb.cell (p := ⟨fb, fo + k * 3 + 1, none⟩) hfb).trans y1
              have y2 := (hb.cell (p := ⟨fb, fo + k * 3 + 2, none⟩) hfb).trans y2
              have z0 := (hb.cell (p := ⟨vb, vo + k, none⟩) (Nat.lt_of_lt_of_le hvb b2.size)).trans ((b2.cell (p := ⟨vb, vo + k, none⟩) hvb).trans (HVC.out k x hxk))
              have p3 := (hb.cell (p := ⟨w.heap.size, 3, none⟩) HB2.out.lt).trans p3
              have q9 : vb < wr.heap.size := Nat.lt_of_lt_of_le hvb (Nat.le_trans b2.size hB)
              have q8 : w.heap.size < wr.heap.size := Nat.lt_of_lt_of_le HB2.out.lt hB
              have hB' := hb.alloc hB (.cells #[.string (bs f.name), .int .i64 (f.at_ : Int), .int .i64 (f.size : Int)] 175)
              by_cases hbad : 256 ^ f.size ≤ x
              · have h8 : f.size < 8 := by
                  rcases Nat.lt_or_ge f.size 8 with h | h
                  · exact h
                  · obtain h : f.size = 8 := by omega
                    rw [h] at hbad; omega
                rw [if_pos hbad] at heq
                have HR := hid (HR2.out k hlen heq)
                have hq : ((x : Int) / 2 ^ (8 * f.size) != 0) = true := by
                  have e : (x : Int) / 2 ^ (8 * f.size) = ((x / 256 ^ f.size : Nat) : Int) := by rw [← pow_256]; simp
                  have e2 : 0 < x / 256 ^ f.size := Nat.div_pos hbad (Nat.pow_pos (by omega))
                  rw [e, bne_iff_ne]; omega
                have hd8 : decide ((f.size : Int) < 8) = true := decide_eq_true (by omega)
                have hw8 : IntKind.i64.wrap (8 * (f.size : Int)) = 8 * (f.size : Int) := by rw [IntKind.wrap_i64]; omega
                have ht8 : (8 * (f.size : Int)).toNat = 8 * f.size := by omega
                have hp8 : ¬ 8 * (f.size : Int) < 0 := by omega
                clear hbad heq hfk hxk HR0 HR2
                go_wp2
                go_quiet (skip)
                go_wp2
                go_ret
                exact ⟨_, rfl, by rw [HR.out]; simpa using errAt_newH ((wr.alloc (.cells #[.string (bs f.name), .int .i64 (f.at_ : Int), .int .i64 (f.size : Int)] 175)).drewN nq) 2 (k : Int) (by omega), b2.trans (((below_drewN hB' _).alloc (by simp; omega) _).mono b2.size)⟩
              · rw [if_neg hbad] at heq
                have Heq := hid heq
                have hq : ((x : Int) / 2 ^ (8 * f.size) != 0) = false := by
                  have e : (x : Int) / 2 ^ (8 * f.size) = ((x / 256 ^ f.size : Nat) : Int) := by rw [← pow_256]; simp
                  rw [e, Nat.div_eq_of_lt (by omega)]; rfl
                clear hbad heq hfk hxk
                by_cases h8 : f.size < 8
                · have hd8 : decide ((f.size : Int) < 8) = true := decide_eq_true (by omega)
                  go_wp2
                  go_quiet (skip)
                  go_wp2
                  go_roundw
                  case rel => exact ⟨k + 1, by omega, by go_num, Heq.out, below_drewN hB' _⟩
                  case measure => simp [intOf]; omega
                · have hd8 : decide ((f.size : Int) < 8) = false := decide_eq_false (by omega)
                  go_wp2
                  go_quiet (skip)
                  go_wp2
                  go_roundw
                  case rel => exact ⟨k + 1, by omega, by go_num, Heq.out, below_drewN hB' _⟩
                  case measure => simp [intOf]; omega
            · obtain rfl : k = r.fields.length := by omega
              have HR := hid (HR0.out hlen (by rw [heq, List.drop_length]; simp [firstBad]))
              go_wp2
              go_ret
              exact ⟨_, rfl, by rw [HR.out]; exact .nil, b2.trans (hb.mono b2.size)⟩
      · have HR := hid (HR7.out hlen)
        have hli : ¬ (r.fields.length : Int) = (vs.length : Int) := by omega
        rcases hdn with rfl | ⟨rfl, hd1⟩
        · go_wp2
          go_ret
          exact ⟨_, rfl, by rw [HR.out]; exact .bare 7 (by omega), b2⟩
        · go_wp2
          go_ret
          exact ⟨_, rfl, by rw [HR.out]; exact .bare 7 (by omega), b2⟩
end
end Go.Proofs.YtbimlijhgeajjaaGreatDoor
