/- What a head's field has: by the program and by the document. -/
import Derived.Test.YtkkjmfllibnfcaaGreatDoorHeadRight
namespace Go.Proofs.YtkkjmfllibnfcaaGreatDoor
open Go Go.RowKit
set_option linter.unusedVariables false
set_option linter.unusedSimpArgs false
set_option linter.unusedSectionVars false
set_option maxRecDepth 100000
def valFrom : List FR → List Nat → List UInt8 → Nat × Nat
  | [], _, _ => (0, 5)
  | f :: fs, vs, name => if f.name = name then (match vs.head? with | none => (0, 7) | some x => (x, 0)) else valFrom fs vs.tail name
def valueH (op : Int) (vs : List Nat) (name : List UInt8) : Nat × Nat :=
  match findH op with
  | none => (0, 1)
  | some r => valFrom r.fields vs name
theorem valFrom_drop (fs : List FR) (vs : List Nat) (name : List UInt8) (k : Nat) (f : FR) (hf : fs[k]? = some f) :
    valFrom (fs.drop k) (vs.drop k) name = if f.name = name then (if h : k < vs.length then (vs[k], 0) else (0, 7)) else valFrom (fs.drop (k + 1)) (vs.drop (k + 1)) name := by
  obtain ⟨h1, h2⟩ := List.getElem?_eq_some_iff.1 hf
  rw [List.drop_eq_getElem_cons h1, valFrom, h2]
  split
  · by_cases h : k < vs.length
    · rw [dif_pos h, List.drop_eq_getElem_cons h]; rfl
    · rw [dif_neg h, List.drop_eq_nil_of_le (by omega)]; rfl
  · rw [List.tail_drop]
def RVal (r : HR) (vs : List Nat) (name : List UInt8) (w2 : World) (i : Value) (wr : World) : Prop :=
  ∃ k : Nat, k ≤ r.fields.length ∧ i = .int .i64 (k : Nat) ∧ valFrom r.fields vs name = valFrom (r.fields.drop k) (vs.drop k) name ∧ Below w2.heap.size w2 wr
section
variable (op : Int) (now : Bool) (flags : Int) (v : Value) (vs : List Nat) (name : List UInt8) (w : World) (h0 : -9223372036854775808 ≤ op) (h1 : op ≤ 9223372036854775807)
  (hn : vs.length ≤ 9223372036854775807) (hsl : Sl w v 1 vs.length (u64Cells vs)) (hT : AS w) (hP : PT w)
include h0 h1 hn hsl hT hP
set_option maxHeartbeats 4000000 in
theorem value_h : Calls Tryz.prog 20 #[headV op now flags v, .string (bs name)] w fun e w' => e = .returned (.tuple #[.int .u64 ((valueH op vs name).1 : Nat), errV 22 (valueH op vs name).2]) ∧ Below w.heap.size w w' := by
  have c1 := fun w1 (hb : Below w.heap.size w w1) => hid (hfields_any op h0 h1 w1 (hT.below hb (Nat.le_refl _)) (hP.below hb (Nat.le_refl _)))
  unfold FieldsPost at c1
  have HSL := hid hsl
  obtain ⟨sa, sc, rfl, hsl1, hsl2⟩ := hsl
  clear hT hP hsl1 hsl2
  have b1 := ((Below.refl w.heap.size w).alloc (Nat.le_refl _) (.cells #[.int .i64 op, .bool now, .int .i64 flags, .slice sa vs.length sc] 36))
  have B1 := (Blk.new w 36 #[.int .i64 op, .bool now, .int .i64 flags, .slice sa vs.length sc])
  cases hf : findH op with
  | none =>
    rw [hf] at c1
    have HR := hid (show valueH op vs name = (0, 1) by simp [valueH, hf])
    go_enter Tryz.func20, Tryz.ntmps20
    unfold headV
    go_wp2_with fail
    refine (c1 _ b1).out.mono ?_
    rintro e w1 ⟨fv, rfl, _, hnil, hb⟩
    obtain rfl := hnil (by trivial)
    simp only [HErr, hE, errV]
    go_wp2
    go_ret2
    exact ⟨by rw [HR.out]; rfl, b1.trans (hb.mono b1.size)⟩
  | some r =>
    rw [hf] at c1
    have hmem := findH_mem hf
    have hn0 := fields_pos r hmem
    have hnf := (head_fine r hmem).2.2.2.2.2.2.1
    have HRr := hid (show valueH op vs name = valFrom r.fields vs name by simp [valueH, hf])
    simp only [hFields, hFlags, hName, HErr, hE, errV] at c1
    go_enter Tryz.func20, Tryz.ntmps20
    unfold headV
    go_wp2_with fail
    refine (c1 _ b1).out.mono ?_
    rintro e w2 ⟨fv, rfl, hfs, _, hb⟩
    have B2 := B1.below hb
    have b2 := b1.trans (hb.mono b1.size)
    have HB2 := hid B2
    have p3' : w2.cell? ⟨w.heap.size, 3, none⟩ = some (.slice sa vs.length sc) := (B2.cell 3).trans rfl
    have HP3 := hid p3'
    obtain ⟨fb, fo, fc, rfl, hfb, hfc⟩ := fields_open hfs hn0
    have HFC := hid hfc
    clear B1 B2 b1 hb p3' hfc hfs c1
    go_wp2
    go_loopw [21] (fun i wr => RVal r vs name w2 i wr) (fun i _ => r.fields.length - (intOf i).toNat)
    case atStart => exact ⟨0, by omega, rfl, rfl, Below.refl _ _⟩
    case round =>
      obtain ⟨k, hk, rfl, heq, hb⟩ := hrel
      have hB := hb.size
      have q8 : w.heap.size < wr.heap.size := Nat.lt_of_lt_of_le HB2.out.lt hB
      have p3 := (hb.cell (p := ⟨w.heap.size, 3, none⟩) HB2.out.lt).trans HP3.out
      by_cases hlt : k < r.fields.length
      · obtain ⟨f, hfk⟩ : ∃ f, r.fields[k]? = some f := ⟨r.fields[k], List.getElem?_eq_getElem hlt⟩
        rw [valFrom_drop r.fields vs name k f hfk] at heq
        obtain ⟨y0', y1', y2'⟩ := HFC.out k f hfk
        have y0 := (hb.cell (p := ⟨fb, fo + k * 3, none⟩) hfb).trans y0'
        have y1 := (hb.cell (p := ⟨fb, fo + k * 3 + 1, none⟩) hfb).trans y1'
        have y2 := (hb.cell (p := ⟨fb, fo + k * 3 + 2, none⟩) hfb).trans y2'
        clear y0' y1' y2'
        by_cases hname : f.name = name
        · rw [if_pos hname] at heq
          have hbe : (f.name == name) = true := by simpa using hname
          by_cases hkv : k < vs.length
          · rw [dif_pos hkv] at heq
            obtain ⟨vb, vo, vc, hve, hvb, hvc⟩ := vals_open HSL.out (by omega)
            cases hve
            have zx := (hb.cell (p := ⟨vb, vo + k, none⟩) (Nat.lt_of_lt_of_le hvb b2.size)).trans ((b2.cell (p := ⟨vb, vo + k, none⟩) hvb).trans (hvc k vs[k] (List.getElem?_eq_getElem hkv)))
            have q9 : vb < wr.heap.size := Nat.lt_of_lt_of_le hvb (Nat.le_trans b2.size hB)
            have hd : decide ((k : Int) < (vs.length : Int)) = true := decide_eq_true (by omega)
            have HR := hid (HRr.out.trans heq)
            clear heq hvc
            go_wp2
            go_ret2
            exact ⟨by rw [HR.out]; rfl, b2.trans ((hb.alloc hB _).mono b2.size)⟩
          · rw [dif_neg hkv] at heq
            have hd : decide ((k : Int) < (vs.length : Int)) = false := decide_eq_false (by omega)
            have HR := hid (HRr.out.trans heq)
            clear heq
            go_wp2
            go_ret2
            exact ⟨by rw [HR.out]; rfl, b2.trans ((hb.alloc hB _).mono b2.size)⟩
        · rw [if_neg hname] at heq
          have hbe : (f.name == name) = false := by simpa using hname
          have Heq := hid heq
          clear heq hfk
          go_wp2
          go_roundw
          case rel => exact ⟨k + 1, by omega, by go_num, Heq.out, hb.alloc hB _⟩
          case measure => simp [intOf]; omega
      · obtain rfl : k = r.fields.length := by omega
        have HR := hid (HRr.out.trans (by rw [heq, List.drop_length]; rfl : _ = ((0 : Nat), (5 : Nat))))
        go_wp2
        go_ret2
        exact ⟨by rw [HR.out]; rfl, b2.trans (hb.mono b2.size)⟩
set_option maxHeartbeats 4000000 in
theorem rvalue_h : Calls Tryz.prog 19 #[headV op now flags v, .string (bs name)] w fun e w' => e = .returned (.tuple #[.int .u64 ((valueH op vs name).1 : Nat), .int .i64 ((valueH op vs name).2 : Nat)]) ∧ Below w.heap.size w w' := by
  have c1 := fun w1 (hb : Below w.heap.size w w1) => hid (kind_any op w1)
  unfold KindPost at c1
  have HSL := hid hsl
  obtain ⟨sa, sc, rfl, hsl1, hsl2⟩ := hsl
  clear hT hP hsl1 hsl2
  have b1 := ((Below.refl w.heap.size w).alloc (Nat.le_refl _) (.cells #[.int .i64 op, .bool now, .int .i64 flags, .slice sa vs.length sc] 36))
  have B1 := (Blk.new w 36 #[.int .i64 op, .bool now, .int .i64 flags, .slice sa vs.length sc])
  cases hf : findH op with
  | none =>
    rw [hf] at c1
    have HR := hid (show valueH op vs name = (0, 1) by simp [valueH, hf])
    go_enter Tryz.func19, Tryz.ntmps19
    unfold headV
    go_wp2_with fail
    refine (c1 _ b1).out.mono ?_
    rintro e w1 ⟨fv, rfl, _, _, hb⟩
    go_wp2
    go_ret2
    exact ⟨by rw [HR.out]; rfl, b1.trans (hb.mono b1.size)⟩
  | some r =>
    rw [hf] at c1
    have hmem := findH_mem hf
    have hn0 := fields_pos r hmem
    have hnf := (head_fine r hmem).2.2.2.2.2.2.1
    have HRr := hid (show valueH op vs name = valFrom r.fields vs name by simp [valueH, hf])
    simp only [hFields, hFlags, hName, HErr, hE, errV] at c1
    go_enter Tryz.func19, Tryz.ntmps19
    unfold headV
    go_wp2_with fail
    refine (c1 _ b1).out.mono ?_
    rintro e w2 ⟨fv, rfl, hfs, _, hb⟩
    have B2 := B1.below hb
    have b2 := b1.trans (hb.mono b1.size)
    have HB2 := hid B2
    have p3' : w2.cell? ⟨w.heap.size, 3, none⟩ = some (.slice sa vs.length sc) := (B2.cell 3).trans rfl
    have HP3 := hid p3'
    obtain ⟨fb, fo, fc, rfl, hfb, hfc⟩ := fields_open hfs hn0
    have HFC := hid hfc
    clear B1 B2 b1 hb p3' hfc hfs c1
    go_wp2
    go_loopw [23] (fun i wr => RVal r vs name w2 i wr) (fun i _ => r.fields.length - (intOf i).toNat)
    case atStart => exact ⟨0, by omega, rfl, rfl, Below.refl _ _⟩
    case round =>
      obtain ⟨k, hk, rfl, heq, hb⟩ := hrel
      have hB := hb.size
      have q8 : w.heap.size < wr.heap.size := Nat.lt_of_lt_of_le HB2.out.lt hB
      have p3 := (hb.cell (p := ⟨w.heap.size, 3, none⟩) HB2.out.lt).trans HP3.out
      by_cases hlt : k < r.fields.length
      · obtain ⟨f, hfk⟩ : ∃ f, r.fields[k]? = some f := ⟨r.fields[k], List.getElem?_eq_getElem hlt⟩
        rw [valFrom_drop r.fields vs name k f hfk] at heq
        obtain ⟨y0', y1', y2'⟩ := HFC.out k f hfk
        have y0 := (hb.cell (p := ⟨fb, fo + k * 3, none⟩) hfb).trans y0'
        have y1 := (hb.cell (p := ⟨fb, fo + k * 3 + 1, none⟩) hfb).trans y1'
        have y2 := (hb.cell (p := ⟨fb, fo + k * 3 + 2, none⟩) hfb).trans y2'
        clear y0' y1' y2'
        by_cases hname : f.name = name
        · rw [if_pos hname] at heq
          have hbe : (f.name == name) = true := by simpa using hname
          by_cases hkv : k < vs.length
          · rw [dif_pos hkv] at heq
            obtain ⟨vb, vo, vc, hve, hvb, hvc⟩ := vals_open HSL.out (by omega)
            cases hve
            have zx := (hb.cell (p := ⟨vb, vo + k, none⟩) (Nat.lt_of_lt_of_le hvb b2.size)).trans ((b2.cell (p := ⟨vb, vo + k, none⟩) hvb).trans (hvc k vs[k] (List.getElem?_eq_getElem hkv)))
            have q9 : vb < wr.heap.size := Nat.lt_of_lt_of_le hvb (Nat.le_trans b2.size hB)
            have hd : decide ((k : Int) < (vs.length : Int)) = true := decide_eq_true (by omega)
            have HR := hid (HRr.out.trans heq)
            clear heq hvc
            go_wp2
            go_ret2
            exact ⟨by rw [HR.out]; rfl, b2.trans ((hb).mono b2.size)⟩
          · rw [dif_neg hkv] at heq
            have hd : decide ((k : Int) < (vs.length : Int)) = false := decide_eq_false (by omega)
            have HR := hid (HRr.out.trans heq)
            clear heq
            go_wp2
            go_ret2
            exact ⟨by rw [HR.out]; rfl, b2.trans ((hb).mono b2.size)⟩
        · rw [if_neg hname] at heq
          have hbe : (f.name == name) = false := by simpa using hname
          have Heq := hid heq
          clear heq hfk
          go_wp2
          go_roundw
          case rel => exact ⟨k + 1, by omega, by go_num, Heq.out, hb⟩
          case measure => simp [intOf]; omega
      · obtain rfl : k = r.fields.length := by omega
        have HR := hid (HRr.out.trans (by rw [heq, List.drop_length]; rfl : _ = ((0 : Nat), (5 : Nat))))
        go_wp2
        go_ret2
        exact ⟨by rw [HR.out]; rfl, b2.trans (hb.mono b2.size)⟩
end
end Go.Proofs.YtkkjmfllibnfcaaGreatDoor
