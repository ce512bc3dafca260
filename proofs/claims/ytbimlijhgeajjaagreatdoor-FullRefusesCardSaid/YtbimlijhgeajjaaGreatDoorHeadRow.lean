/- What is known of a PDU: by the document. -/
import Derived.Test.YtbimlijhgeajjaaGreatDoorKinds
import Derived.Deep.QuietTactic
import Derived.BigQuiet
import Derived.Test.YtbimlijhgeajjaaGreatDoorKnown
import Derived.Test.YtbimlijhgeajjaaGreatDoorPlan
set_option linter.unusedSectionVars false
set_option linter.unusedSimpArgs false
set_option linter.unusedVariables false
namespace Go.Proofs.YtbimlijhgeajjaaGreatDoor
open Go Go.RowKit
set_option linter.unusedVariables false
set_option linter.unusedSectionVars false
set_option linter.unusedSimpArgs false
set_option maxRecDepth 100000
def hName : Option HR → List UInt8 | none => [] | some r => r.name
def hFlags : Option HR → Nat | none => 0 | some r => r.flags
def hFields : Option HR → List FR | none => [] | some r => r.fields
theorem FS.sl {base : Nat} {w : World} {v : Value} {l : List FR} (h : FS base w v l) : Sl w v 3 l.length (fieldCells l) := by
  obtain ⟨g, rfl, _, hB⟩ := h
  refine ⟨_, _, rfl, ?_, .inr ⟨g, 0, rfl, fun j u hu => ?_⟩⟩
  · clear hB
    unfold fieldCells
    induction l with
    | nil => rfl
    | cons f l ih => rw [List.flatMap_cons, List.length_append, ih]; simp [FR.cells]; omega
  · rw [Nat.zero_add, hB.cell j]
    simpa using hu
def KindPost (op : Int) (w : World) (e : Ending) (w' : World) : Prop :=
  ∃ v, e = .returned (.tuple #[.string (bs (hName (findH op))), .int .i64 (hFlags (findH op) : Nat), v, .bool (findH op).isSome]) ∧ Sl w' v 3 (hFields (findH op)).length (fieldCells (hFields (findH op))) ∧ (findH op = none → v = .slice none 0 0) ∧ Below w.heap.size w w'
theorem findH_at {op : Int} {i : Nat} {r : HR} (h : headRows[i]? = some r) (hn : ∀ x ∈ headRows.take i, (x.op : Int) ≠ op) (he : (r.op : Int) = op) : findH op = some r := by
  obtain ⟨h1, h2⟩ := List.getElem?_eq_some_iff.1 h
  have hs : headRows = headRows.take i ++ r :: headRows.drop (i + 1) := by
    rw [← h2, List.getElem_cons_drop, List.take_append_drop]
  rw [findH, hs, List.find?_append]
  have hn0 : (headRows.take i).find? (fun r => decide ((r.op : Int) = op)) = none := List.find?_eq_none.2 fun x hx => by simpa using hn x hx
  rw [hn0]
  simp [he]
theorem findH_none {op : Int} (hn : ∀ x ∈ headRows, (x.op : Int) ≠ op) : findH op = none := List.find?_eq_none.2 fun x hx => by simpa using hn x hx
theorem take_no {op : Int} {k : Nat} {r : HR} (h : headRows[k]? = some r) (hn : ∀ x ∈ headRows.take k, (x.op : Int) ≠ op) (he : (r.op : Int) ≠ op) : ∀ x ∈ headRows.take (k + 1), (x.op : Int) ≠ op := by
  obtain ⟨h1, h2⟩ := List.getElem?_eq_some_iff.1 h
  rw [List.take_succ_eq_append_getElem h1, h2]
  intro x hx
  rcases List.mem_append.1 hx with hx | hx
  · exact hn x hx
  · rw [List.mem_singleton.1 hx]; exact he
theorem zip4 (l : List HR) (ss : List Value) (h : ss.length = l.length) (i : Nat) (r : HR) (s : Value) (hr : l[i]? = some r) (hs : ss[i]? = some s) (j : Nat) (hj : j < 4) :
    ((l.zip ss).flatMap fun x => [Value.int .i64 (x.1.op : Int), .string (bs x.1.name), .int .i64 (x.1.flags : Int), x.2])[i * 4 + j]? = [Value.int .i64 (r.op : Int), .string (bs r.name), .int .i64 (r.flags : Int), s][j]? := by
  induction l generalizing i ss with
  | nil => simp at hr
  | cons x l ih =>
    cases ss with
    | nil => simp at h
    | cons y ss =>
      rw [List.zip_cons_cons, List.flatMap_cons]
      cases i with
      | zero =>
        simp only [List.getElem?_cons_zero, Option.some.injEq] at hr hs
        subst hr hs
        rw [List.getElem?_append_left (by simp; omega)]
        simp
      | succ i =>
        rw [List.getElem?_append_right (by simp; omega)]
        have e : (i + 1) * 4 + j - [Value.int .i64 (x.op : Int), .string (bs x.name), .int .i64 (x.flags : Int), y].length = i * 4 + j := by simp; omega
        rw [e]
        exact ih ss (by simpa using h) i (by simpa using hr) (by simpa using hs)
def RKind (op : Int) (w1 : World) (i : Value) (wr : World) : Prop :=
  ∃ k : Nat, k ≤ 18 ∧ i = .int .i64 (k : Nat) ∧ (∀ x ∈ headRows.take k, (x.op : Int) ≠ op) ∧ Below w1.heap.size w1 wr
set_option maxHeartbeats 4000000 in
theorem kind_any (op : Int) (w : World) : Calls Tryz.prog 80 #[.int .i64 op] w fun e w' => KindPost op w e w' := by
  have c1 := fun w => hid (kinds_any w)
  go_enter Tryz.func80, Tryz.ntmps80
  go_wp2_with (go_at_call 120; refine (c1 _).out.mono ?_; rintro e w1 ⟨v, rfl, ⟨g, ss, rfl, hg, hss, hfs, hB⟩, hb1⟩)
  have HFS := hid hfs; have HBB := hid hB
  clear hfs hB
  go_loopw [10] (fun i wr => RKind op w1 i wr) (fun i _ => 18 - (intOf i).toNat)
  case atStart => exact ⟨0, by omega, rfl, by simp, Below.refl _ _⟩
  case round =>
    obtain ⟨k, hk, rfl, hno, hb⟩ := hrel
    have hB := hb.size
    by_cases hlt : k < 18
    · obtain ⟨r, hr⟩ : ∃ r, headRows[k]? = some r := ⟨headRows[k]'(by show k < 18; exact hlt), List.getElem?_eq_getElem _⟩
      obtain ⟨s, hs⟩ : ∃ s, ss[k]? = some s := ⟨ss[k]'(by omega), List.getElem?_eq_getElem _⟩
      have hcell : ∀ j, j < 4 → wr.cell? ⟨g, k * 4 + j, none⟩ = [Value.int .i64 (r.op : Int), .string (bs r.name), .int .i64 (r.flags : Int), s][j]? := fun j hj => by
        rw [(hb.cell (p := ⟨g, k * 4 + j, none⟩) HBB.out.lt), HBB.out.cell, List.getElem?_toArray]
        exact zip4 headRows ss (by rw [hss]; rfl) k r s hr hs j hj
      have a0 : wr.cell? ⟨g, k * 4, none⟩ = some (.int .i64 (r.op : Int)) := hcell 0 (by omega)
      have a1 : wr.cell? ⟨g, k * 4 + 1, none⟩ = some (.string (bs r.name)) := hcell 1 (by omega)
      have a2 : wr.cell? ⟨g, k * 4 + 2, none⟩ = some (.int .i64 (r.flags : Int)) := hcell 2 (by omega)
      have a3 : wr.cell? ⟨g, k * 4 + 3, none⟩ = some s := hcell 3 (by omega)
      have hfs := (HFS.out k r s hr hs)
      obtain ⟨g2, hsv, hg2, hB2⟩ := id hfs
      have HF := hid hfs
      by_cases hop : (r.op : Int) = op
      · have Hf := hid (findH_at hr hno hop)
        clear hcell hr hs hno hfs
        subst hop
        subst hsv
        go_wp2
        go_quiet (skip)
        go_wp2
        refine bodyPost_ret (v := .tuple #[.string (bs r.name), .int .i64 (r.flags : Int), .slice (some ⟨g2, 0, none⟩) r.fields.length r.fields.length, .bool true]) (by simp [results, Tryz.results80, go_sem]) rfl ?_
        have hfin := below_drewN (hb.alloc hB (.cells #[.int .i64 (r.op : Int), .string (bs r.name), .int .i64 (r.flags : Int), .slice (some ⟨g2, 0, none⟩) r.fields.length r.fields.length] 237)) nq
        refine ⟨.slice (some ⟨g2, 0, none⟩) r.fields.length r.fields.length, by rw [Hf.out]; rfl, ?_, (by rw [Hf.out]; intro h; cases h), hb1.trans (hfin.mono hb1.size)⟩
        rw [Hf.out]
        exact (HF.out.below hfin).sl
      · have Hno := hid (take_no hr hno hop)
        clear hcell hr hs hno hfs
        subst hsv
        go_wp2
        go_roundw
        case rel => exact ⟨k + 1, by omega, by go_num, Hno.out, hb.alloc hB _⟩
        case measure => simp [intOf]; omega
    · obtain rfl : k = 18 := by omega
      have Hf := hid (findH_none (op := op) (by rw [show (18 : Nat) = headRows.length from rfl, List.take_length] at hno; exact hno))
      clear hno
      go_wp2
      refine bodyPost_ret (v := .tuple #[.string (bs []), .int .i64 0, .slice none 0 0, .bool false]) (by simp [results, Tryz.results80, go_sem]; rfl) rfl ?_
      refine ⟨.slice none 0 0, by rw [Hf.out]; rfl, ?_, fun _ => rfl, hb1.trans (hb.mono hb1.size)⟩
      rw [Hf.out]; exact sl_nil _ _
end Go.Proofs.YtbimlijhgeajjaaGreatDoor

namespace Go.Proofs.YtbimlijhgeajjaaGreatDoor
open Go Go.RowKit Go.Shelf
set_option linter.unusedVariables false
set_option linter.unusedSectionVars false
set_option linter.unusedSimpArgs false
set_option maxRecDepth 100000
attribute [local go_sem] Oper.semAt_some
/-- the table of powers of ten stands -/
def PT (w : World) : Prop := Lib.TabIs Tryz.prog w "internal/strconv.uint64pow10" .u64 Lib.pow10Tab
theorem ptName : Tryz.prog.globalNamed "internal/strconv.uint64pow10" = some 7 := by kernel_rfl
theorem PT.lt {w : World} (h : PT w) : 7 < w.heap.size := by
  have := Lib.TabIs.cell h ptName 0 (by decide)
  exact block_lt_of_cell this
theorem PT.below {w w' : World} {B : Nat} (h : PT w) (hb : Below B w w') (hB : w.heap.size ≤ B) : PT w' := var?_below hb ptName (Nat.lt_of_lt_of_le h.lt hB) h
theorem itoa_any (n : Int) (h0 : -9223372036854775808 ≤ n) (h1 : n ≤ 9223372036854775807) (w : World) (ht : PT w) :
    Calls Tryz.prog 86 #[.int .i64 n] w fun e w' => e = .returned (.string (bs (Lib.itoa n))) ∧ Below w.heap.size w w' := by
  refine (Tryz.strconv_Itoa n h0 h1 w ht).mono ?_
  rintro e w' ⟨rfl, k, os, rfl⟩
  exact ⟨rfl, rfl, rfl, rfl, by simp [Sort.grow], fun i hi => by simp [Sort.grow, Array.getElem?_append_left hi]⟩
def dval (l : List UInt8) : Nat := l.foldl (fun a b => a * 10 + (b.toNat - 48)) 0
theorem dval_dec (u : Nat) : dval (Lib.decDigits u) = u := by
  induction u using Nat.strongRecOn with
  | _ u ih =>
    rw [Lib.decDigits]
    split
    · rename_i h
      have : (UInt8.ofNat (48 + u)).toNat = 48 + u := by simp [UInt8.toNat_ofNat']; omega
      simp [dval]; omega
    · rename_i h
      have : (UInt8.ofNat (48 + u % 10)).toNat = 48 + u % 10 := by simp [UInt8.toNat_ofNat']; omega
      have h2 := ih (u / 10) (by omega)
      unfold dval at h2 ⊢
      rw [List.foldl_append, h2]
      simp only [List.foldl_cons, List.foldl_nil, this]
      omega
theorem dec_small (n : Nat) (h : n < 100) : Lib.decDigits n = dec3 n := by
  rw [Lib.decDigits]
  split
  · rename_i h; simp [dec3, h]
  · rename_i h2
    rw [Lib.decDigits, dif_pos (by omega)]
    simp [dec3, h2, h]
theorem ops_small : ∀ r ∈ headRows, r.op < 64 := fun r h => (head_fine r h).2.2.2.2.1
theorem dec3_head : ∀ r ∈ headRows, (dec3 r.op).head? ≠ some 45 := by decide +kernel
theorem itoa_dec (r : HR) (h : r ∈ headRows) (op : Int) : (dec3 r.op = Lib.itoa op) ↔ (r.op : Int) = op := by
  have hs := ops_small r h
  constructor
  · intro he
    unfold Lib.itoa at he
    split at he
    · exact absurd (by rw [he]; rfl) (dec3_head r h)
    · have := congrArg dval he
      rw [← dec_small r.op (by omega), dval_dec, dval_dec] at this
      omega
  · rintro rfl
    unfold Lib.itoa
    rw [if_neg (by omega), Int.toNat_natCast, dec_small r.op (by omega)]
theorem head_of_pre {pre : List (List UInt8)} {x : List UInt8} (h : pre ++ [x] <+: splitL 124 headText) : ∃ r, headRows[pre.length]? = some r ∧ x = r.text := by
  rw [splitHeads] at h
  obtain ⟨t, ht⟩ := h
  have hl : pre.length < headRows.length := by
    have := congrArg List.length ht
    simp at this; omega
  refine ⟨headRows[pre.length], by simp [hl], ?_⟩
  have := congrArg (·[pre.length]?) ht
  simpa [List.getElem?_append, hl] using this
def rowCells (r : HR) : List Value := r.words.map fun x => Value.string (bs x)
def RowPost (op : Int) (w : World) (e : Ending) (w' : World) : Prop :=
  ∃ v, e = .returned v ∧ Below w.heap.size w w' ∧ ((findH op = none ∧ v = .slice none 0 0) ∨ ∃ r g, findH op = some r ∧ v = .slice (some ⟨g, 0, none⟩) r.words.length r.words.length ∧ w.heap.size ≤ g ∧ Blk w' g 9 (rowCells r).toArray)
structure IRow (base b : Nat) (op : Int) (w0 : World) (pre : List (List UInt8)) (W : World) : Prop where
  below : Below base w0 W
  nm : Blk W base 3 #[.int .i64 op]
  res : Blk W (base + 1) 23 #[.slice none 0 0]
  no : ∀ x ∈ headRows.take pre.length, (x.op : Int) ≠ op
  lt : b + 2 < W.heap.size
structure XRow (base b : Nat) (op : Int) (w0 : World) (j : Code) (pre : List (List UInt8)) (W : World) : Prop where
  ret : j = .ret
  below : Below base w0 W
  ok : ∃ r g, findH op = some r ∧ base ≤ g ∧ g ≠ b ∧ Blk W (base + 1) 23 #[.slice (some ⟨g, 0, none⟩) r.words.length r.words.length] ∧ Blk W g 9 (rowCells r).toArray
theorem stands_row (base b B : Nat) (op : Int) (w0 : World) (h1 : base + 1 < b) (h2 : b + 2 < B) (h3 : base ≤ w0.heap.size) : Stands B b (IRow base b op w0) := by
  refine ⟨?_, ?_, ?_⟩
  · rintro s A o ⟨a1, a2, a3, a5, a6⟩
    have hb : Below A.heap.size A (A.alloc o) := (Below.refl _ _).alloc (Nat.le_refl _) _
    exact ⟨a1.alloc (Nat.le_trans h3 a1.size) _, a2.below hb, a3.below hb, a5, by rw [World.size_alloc]; omega⟩
  · rintro s A l o o' ⟨a1, a2, a3, a5, a6⟩ hl hl' ho
    exact ⟨below_put a1 (by omega) _, blk_put a2 hl' ho o', blk_put a3 hl' ho o', a5, by simpa using a6⟩
  · rintro s A u ⟨a1, a2, a3, a5, a6⟩
    exact ⟨below_setc a1 (by omega) _ _, a2.far (by simp only; omega) u, a3.far (by simp only; omega) u, a5, by simpa [World.setCell] using a6⟩
theorem standsX_row (base b B : Nat) (op : Int) (w0 : World) (j : Code) (h1 : base + 1 < b) (h2 : b + 2 < B) (h3 : base ≤ w0.heap.size) : Stands B b (XRow base b op w0 j) := by
  refine ⟨?_, ?_, ?_⟩
  · rintro s A o ⟨a1, a2, r, g, hf, hg, hgb, a3, a4⟩
    have hb : Below A.heap.size A (A.alloc o) := (Below.refl _ _).alloc (Nat.le_refl _) _
    exact ⟨a1, a2.alloc (Nat.le_trans h3 a2.size) _, r, g, hf, hg, hgb, a3.below hb, a4.below hb⟩
  · rintro s A l o o' ⟨a1, a2, r, g, hf, hg, hgb, a3, a4⟩ hl hl' ho
    exact ⟨a1, below_put a2 (by omega) _, r, g, hf, hg, hgb, blk_put a3 hl' ho o', blk_put a4 hl' ho o'⟩
  · rintro s A u ⟨a1, a2, r, g, hf, hg, hgb, a3, a4⟩
    exact ⟨a1, below_setc a2 (by omega) _ _, r, g, hf, hg, hgb, a3.far (by simp only; omega) u, a4.far hgb u⟩
set_option maxHeartbeats 4000000 in
theorem row_any (op : Int) (h0 : -9223372036854775808 ≤ op) (h1 : op ≤ 9223372036854775807) (w : World) (hT : AS w) (hP : PT w) : Calls Tryz.prog 158 #[.int .i64 op] w fun e w' => RowPost op w e w' := by
  have c1 : ∀ (s : ByteArray) (h : s = bs headText) (w : World), Hid (Calls Tryz.prog 112 #[.string s, .string (bs [124])] w (SeqPost w headText 124)) := by
    rintro s rfl w; exact hid (sSplitSeq_any headText 124 w)
  have c2 := fun (r : HR) (hr : r ∈ headRows) (w : World) (h : AS w) => hid (fields_any r.text w (by have := (head_fine r hr).2.2.1; omega) (head_fine r hr).2.1 h)
  have c3 := fun (w1 : World) (hb : Below w.heap.size w w1) => hid (itoa_any op h0 h1 w1 (hP.below hb (Nat.le_refl _)))
  refine (callsIn_wide (n := 3)).1 ?_
  refine callsIn_of_wp_marks Tryz.func158 rfl trivial ?_ rfl
  simp only [Tryz.ntmps158, List.size_toArray, List.length_cons, List.length_nil, Nat.reduceAdd, Nat.reduceSub, Array.replicate_succ, Array.replicate_zero, List.push_toArray, List.append_toArray, List.nil_append, List.cons_append]
  gi_wp2_with (refine ⟨trivial, ?_⟩; gi_at_call 112; refine (callsIn_wide.2 (c1 _ (by kernel_rfl) _).out).mono ?_; rintro e w1 ⟨b, hb, rfl, hB, hbl⟩)
  simp only [World.size_alloc] at hb
  have hb2 := (Array.getElem?_eq_some_iff.1 hB.2.2).1
  have hsz1 : w.heap.size + 2 ≤ w1.heap.size := by omega
  have r0 := (Blk.new w 3 #[.int .i64 op])
  have r1 := (Blk.new (w.alloc (.cells #[.int .i64 op] 3)) 23 #[.slice none 0 0])
  have r0 := (r0.below ((Below.refl _ _).alloc (Nat.le_refl _) (.cells #[.slice none 0 0] 23))).below hbl
  have r1 := r1.below hbl
  simp only [World.size_alloc] at r0 r1
  have hb0 : Below w.heap.size w w1 := (((Below.refl _ w).alloc (Nat.le_refl _) _).alloc (by simp) _).trans (hbl.mono (by simp; omega))
  clear hbl
  refine range_split 124 headText (by decide) b rfl hB rfl (IRow w.heap.size b op w) (XRow w.heap.size b op w) (stands_row _ _ _ _ _ (by omega) hb2 (Nat.le_refl _)) (fun j => standsX_row _ _ _ _ _ _ (by omega) hb2 (Nat.le_refl _)) ⟨hb0, r0, r1, by simp, hb2⟩
    (fun x => { tmps := #[.int .i64 op, .pointer (some ⟨w.heap.size, 0, none⟩), .pointer (some ⟨w.heap.size + 1, 0, none⟩), .string (bs x), undef, .func (.func 176) #[] #[.pointer (some ⟨b + 1, 0, none⟩), .pointer (some ⟨b, 0, none⟩), .pointer (some ⟨b + 2, 0, none⟩)], .string (bs x), undef, undef, undef, undef, undef, undef, undef, undef, undef], defers := [] }) ?assign ?body ?done ?stop
  case assign =>
    intro l x W K hK
    gi_wp2
    exact hK
  case body =>
    rintro lp pre x W ⟨i1, i2, i3, i5, i6⟩ hpre
    obtain ⟨r, hr, rfl⟩ := head_of_pre hpre
    have hrm := List.mem_of_getElem? hr
    obtain ⟨f1, f2, f3, f4, f5⟩ := head_fine r hrm
    have c2 := c2 r hrm W (hT.below i1 (Nat.le_refl _))
    rw [f1] at c2
    have hsW := i1.size
    have hp0 : w.heap.size < W.heap.size := by omega
    have hmx : Tryz.prog.follows .mixedOrders = true := by kernel_rfl
    obtain ⟨W1, hW1⟩ : ∃ W1, W.alloc (.cells (r.words.map fun x => Value.string (bs x)).toArray 9) = W1 := ⟨_, rfl⟩
    have hW1s : W1.heap.size = W.heap.size + 1 := by rw [← hW1]; simp
    have hw1 : Blk W1 W.heap.size 9 (r.words.map fun x => Value.string (bs x)).toArray := by rw [← hW1]; exact Blk.new _ _ _
    have hbW : Below W.heap.size W W1 := by rw [← hW1]; exact (Below.refl _ _).alloc (Nat.le_refl _) _
    have hi1 := i2.below hbW
    have hbW1 : Below w.heap.size w W1 := i1.trans (hbW.mono hsW)
    rw [hW1] at c2
    have hwl : 0 < r.words.length := by simp [HR.words]
    have hrf : ∀ w : World, Below w.heap.size w w := fun w => Below.refl _ w
    by_cases hop : (r.op : Int) = op
    · have Hf := hid (findH_at hr i5 hop)
      have he : dec3 r.op = Lib.itoa op := (itoa_dec r hrm op).2 hop
      gi_wp2_with (refine ⟨trivial, ?_⟩; gi_at_call 113; refine (CallsIn.inRound lp (callsIn_wide.2 c2.out)).mono ?_; rintro e W1 ⟨rfl, rfl⟩)
      refine region_calls { tmps := #[.int .i64 op, .pointer (some ⟨w.heap.size, 0, none⟩), .pointer (some ⟨w.heap.size + 1, 0, none⟩), .string (bs r.text), .slice (some ⟨W.heap.size, 0, none⟩) r.words.length r.words.length, .func (.func 176) #[] #[.pointer (some ⟨b + 1, 0, none⟩), .pointer (some ⟨b, 0, none⟩), .pointer (some ⟨b + 2, 0, none⟩)], .string (bs r.text), .string (bs r.text), .slice (some ⟨W.heap.size, 0, none⟩) r.words.length r.words.length, .slice (some ⟨W.heap.size, 0, none⟩) r.words.length r.words.length, .pointer (some ⟨W.heap.size, 0, none⟩), .string (bs (dec3 r.op)), .int .i64 op, .string (bs (Lib.itoa op)), .bool true, undef], defers := [] } (fun w' => Below (W.heap.size + 1) W1 w') hmx (by kernel_rfl) (fun w w' h hb => h.trans (hb.mono (by have := h.size; omega))) (by rw [← hW1]; exact (Below.refl _ _).drew) rfl ?ag ?each ?go
      case ag => simp [Agree, writes]
      case each =>
        have z0 : ∀ w', Below (W.heap.size + 1) W1 w' → w'.cell? ⟨W.heap.size, 0, none⟩ = some (.string (bs (dec3 r.op))) := fun w' h => (h.cell (p := ⟨W.heap.size, 0, none⟩) (by simp only; omega)).trans ((hw1.cell 0).trans rfl)
        have z1 : ∀ w', Below (W.heap.size + 1) W1 w' → w'.cell? ⟨w.heap.size, 0, none⟩ = some (.int .i64 op) := fun w' h => (h.cell (p := ⟨w.heap.size, 0, none⟩) (by simp only; omega)).trans (hi1.cell 0 |>.trans rfl)
        have c3' : ∀ w', Below (W.heap.size + 1) W1 w' → Calls Tryz.prog 86 #[.int .i64 op] w' fun e w'' => e = .returned (.string (bs (Lib.itoa op))) ∧ Below w'.heap.size w' w'' := fun w' h => (c3 w' (hbW1.trans (h.mono (by omega)))).out
        simp +contextual [EachOp, OpTo, go_sem, Oper.about, he, hwl, hrf, z0, z1]
        exact fun w' h => ⟨trivial, CallsIn.inRound lp (callsIn_wide.2 (c3' w' h))⟩
      case go =>
        intro w' hb
        have hr1 : Blk w' (w.heap.size + 1) 23 #[.slice none 0 0] := (hb.block _ (by omega)).trans (i3.below hbW)
        have t0 : w'.cell? ⟨w.heap.size + 1, 0, none⟩ = some (.slice none 0 0) := (hr1.cell 0).trans rfl
        have v0 := hr1.free 0
        have hw2 : Blk w' W.heap.size 9 (rowCells r).toArray := (hb.block _ (by omega)).trans hw1
        have hbb : Below W.heap.size W w' := hbW.trans (hb.mono (by omega))
        have HR := hid hr1; clear hr1
        gi_wp2
        refine ⟨(others_below hbb).trans (KeepsOthers.setCell _ _ _), rfl, below_setc (i1.trans (hbb.mono hsW)) (by omega) _ _, r, W.heap.size, Hf.out, by omega, by omega, HR.out.set 0 _, hw2.far (by simp only; omega) _⟩
    · have he : ¬ dec3 r.op = Lib.itoa op := fun h => hop ((itoa_dec r hrm op).1 h)
      gi_wp2_with (refine ⟨trivial, ?_⟩; gi_at_call 113; refine (CallsIn.inRound lp (callsIn_wide.2 c2.out)).mono ?_; rintro e W1 ⟨rfl, rfl⟩)
      refine region_calls { tmps := #[.int .i64 op, .pointer (some ⟨w.heap.size, 0, none⟩), .pointer (some ⟨w.heap.size + 1, 0, none⟩), .string (bs r.text), .slice (some ⟨W.heap.size, 0, none⟩) r.words.length r.words.length, .func (.func 176) #[] #[.pointer (some ⟨b + 1, 0, none⟩), .pointer (some ⟨b, 0, none⟩), .pointer (some ⟨b + 2, 0, none⟩)], .string (bs r.text), .string (bs r.text), .slice (some ⟨W.heap.size, 0, none⟩) r.words.length r.words.length, .slice (some ⟨W.heap.size, 0, none⟩) r.words.length r.words.length, .pointer (some ⟨W.heap.size, 0, none⟩), .string (bs (dec3 r.op)), .int .i64 op, .string (bs (Lib.itoa op)), .bool false, undef], defers := [] } (fun w' => Below (W.heap.size + 1) W1 w') hmx (by kernel_rfl) (fun w w' h hb => h.trans (hb.mono (by have := h.size; omega))) (by rw [← hW1]; exact (Below.refl _ _).drew) rfl ?ag ?each ?go
      case ag => simp [Agree, writes]
      case each =>
        have z0 : ∀ w', Below (W.heap.size + 1) W1 w' → w'.cell? ⟨W.heap.size, 0, none⟩ = some (.string (bs (dec3 r.op))) := fun w' h => (h.cell (p := ⟨W.heap.size, 0, none⟩) (by simp only; omega)).trans ((hw1.cell 0).trans rfl)
        have z1 : ∀ w', Below (W.heap.size + 1) W1 w' → w'.cell? ⟨w.heap.size, 0, none⟩ = some (.int .i64 op) := fun w' h => (h.cell (p := ⟨w.heap.size, 0, none⟩) (by simp only; omega)).trans (hi1.cell 0 |>.trans rfl)
        have c3' : ∀ w', Below (W.heap.size + 1) W1 w' → Calls Tryz.prog 86 #[.int .i64 op] w' fun e w'' => e = .returned (.string (bs (Lib.itoa op))) ∧ Below w'.heap.size w' w'' := fun w' h => (c3 w' (hbW1.trans (h.mono (by omega)))).out
        simp +contextual [EachOp, OpTo, go_sem, Oper.about, he, hwl, hrf, z0, z1]
        exact fun w' h => ⟨trivial, CallsIn.inRound lp (callsIn_wide.2 (c3' w' h))⟩
      case go =>
        intro w' hb
        have hbb : Below W.heap.size W w' := hbW.trans (hb.mono (by omega))
        gi_wp2
        refine ⟨others_below hbb, kpB_below hbb i6, i1.trans (hbb.mono hsW), i2.below hbb, i3.below hbb, ?_, by have := hbb.size; omega⟩
        rw [List.length_append, List.length_singleton]
        exact take_no hr i5 hop
  case done =>
    rintro D W hD ⟨i1, i2, i3, i5, i6⟩ hK
    have t0 : W.cell? ⟨w.heap.size + 1, 0, none⟩ = some (.slice none 0 0) := (i3.cell 0).trans rfl
    have v0 := i3.free 0
    gi_wp2
    have hDr : D ≠ w.heap.size + 1 := by rintro rfl; unfold Blk at i3; rw [i3] at hK; cases hK
    have n1 := (Below.heap_setCell W ⟨w.heap.size + 1, 0, none⟩ (.slice none 0 0) D hDr).trans hK
    have n3 := i3.set 0 (.slice none 0 0)
    have n2 := below_setc i1 (show w.heap.size ≤ w.heap.size + 1 by omega) 0 (.slice none 0 0)
    generalize W.setCell ⟨w.heap.size + 1, 0, none⟩ (.slice none 0 0) = W6 at *
    refine ⟨by simp, .inl ⟨_, _, rfl, run_takeDeferred n1, ?_⟩⟩
    have s0 : ∀ o', (W6.putObj D o').cell? ⟨w.heap.size + 1, 0, none⟩ = some (.slice none 0 0) := fun o' => ((blk_put n3 n1 rfl o').cell 0).trans rfl
    refine ⟨.slice none 0 0, by simp [results, Tryz.results158, go_sem, s0], .slice none 0 0, rfl, below_put n2 (by omega) _, .inl ⟨?_, rfl⟩⟩
    exact findH_none (by rw [splitHeads, List.length_map, List.take_length] at i5; exact i5)
  case stop =>
    rintro D j pre W hD ⟨rfl, i2, r, g, hf, hg, hgb, i3, i4⟩ hK
    gi_wp2
    refine ⟨by simp, .inl ⟨_, _, rfl, run_takeDeferred hK, ?_⟩⟩
    have s0 : ∀ o', (W.putObj D o').cell? ⟨w.heap.size + 1, 0, none⟩ = some (.slice (some ⟨g, 0, none⟩) r.words.length r.words.length) := fun o' => ((blk_put i3 hK rfl o').cell 0).trans rfl
    exact ⟨.slice (some ⟨g, 0, none⟩) r.words.length r.words.length, by simp [results, Tryz.results158, go_sem, s0], _, rfl, below_put i2 (by omega) _, .inr ⟨r, g, hf, rfl, hg, blk_put i4 hK rfl _⟩⟩
end Go.Proofs.YtbimlijhgeajjaaGreatDoor
