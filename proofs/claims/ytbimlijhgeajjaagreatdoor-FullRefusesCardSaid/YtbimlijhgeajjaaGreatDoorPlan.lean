/- All keys' names, and what is known of a key: by the document. -/
import Derived.Test.YtbimlijhgeajjaaGreatDoorKnown
import Derived.Test.YtbimlijhgeajjaaGreatDoorBase
import Derived.Test.YtbimlijhgeajjaaGreatDoorShelfL
import Derived.WalkSmall
import Derived.OrdersIn
import Derived.RowKit
import Derived.Fence
import Derived.TacticsIn
set_option linter.unusedSectionVars false
set_option linter.unusedSimpArgs false
set_option linter.unusedVariables false
namespace Go.Proofs.YtbimlijhgeajjaaGreatDoor
open Go Go.RowKit
set_option linter.unusedVariables false
set_option maxRecDepth 100000
theorem known_cells (w : World) (i : Nat) (k : KR) (h : keyRows[i]? = some k) (j : Nat) (hj : j < 7) : (w.alloc (.cells allCells.toArray 125)).cell? ⟨w.heap.size, i * 7 + j, none⟩ = (k.cells)[j]? := by
  rw [cell_of_row _ _ _ _ _ _ (heap_alloc_new _ _), List.getElem?_toArray]
  exact flat7 keyRows i k h j hj
/-- the seven cells of a known key -/
def K7 (W : World) (g : Nat) : Prop := ∀ i k, keyRows[i]? = some k → W.cell? ⟨g, i * 7, none⟩ = some (.string (bs k.name)) ∧ W.cell? ⟨g, i * 7 + 1, none⟩ = some (.int .i64 (dnum k.lk : Int)) ∧ W.cell? ⟨g, i * 7 + 2, none⟩ = some (.int .i64 (dnum k.ll : Int)) ∧ W.cell? ⟨g, i * 7 + 3, none⟩ = some (.int .i64 (dnum k.lh : Int)) ∧ W.cell? ⟨g, i * 7 + 4, none⟩ = some (.string (bs k.dv)) ∧ W.cell? ⟨g, i * 7 + 5, none⟩ = some (.bool (k.no == [78])) ∧ W.cell? ⟨g, i * 7 + 6, none⟩ = some (.bool (k.lo == [76]))
theorem k7_known (w : World) : K7 (w.alloc (.cells allCells.toArray 125)) w.heap.size := fun i k h =>
  ⟨known_cells w i k h 0 (by omega), known_cells w i k h 1 (by omega), known_cells w i k h 2 (by omega), known_cells w i k h 3 (by omega), known_cells w i k h 4 (by omega), known_cells w i k h 5 (by omega), known_cells w i k h 6 (by omega)⟩
theorem K7.below {W W' : World} {g : Nat} (h : K7 W g) {B : Nat} (hb : Below B W W') (hg : g < B) : K7 W' g := fun i k hk => by
  obtain ⟨a0, a1, a2, a3, a4, a5, a6⟩ := h i k hk
  exact ⟨(hb.cell (p := ⟨g, i * 7, none⟩) hg).trans a0, (hb.cell (p := ⟨g, i * 7 + 1, none⟩) hg).trans a1, (hb.cell (p := ⟨g, i * 7 + 2, none⟩) hg).trans a2, (hb.cell (p := ⟨g, i * 7 + 3, none⟩) hg).trans a3, (hb.cell (p := ⟨g, i * 7 + 4, none⟩) hg).trans a4, (hb.cell (p := ⟨g, i * 7 + 5, none⟩) hg).trans a5, (hb.cell (p := ⟨g, i * 7 + 6, none⟩) hg).trans a6⟩
def RRNames (w w1 : World) (out i : Value) (wr : World) : Prop :=
  ∃ k : Nat, k ≤ 18 ∧ i = .int .i64 (k : Nat) ∧ wr.ownsRow w1.heap.size 9 1 out k ((keyRows.take k).map fun k => Value.string (bs k.name)) ∧ Below w1.heap.size w1 wr
/-- what is said of a key that is asked for -/
def keyVal : Option KR → Value
  | none => .agg #[.string (bs []), .int .i64 0, .int .i64 0, .int .i64 0, .string (bs []), .bool false, .bool false]
  | some k => .agg k.cells.toArray
def keyErr : Option KR → Nat
  | none => 5
  | some _ => 0
theorem findK_take {name : List UInt8} {i : Nat} {k : KR} (h : keyRows[i]? = some k) (hn : ∀ x ∈ keyRows.take i, x.name ≠ name) (he : k.name = name) : findK keyRows name = some k := by
  obtain ⟨h1, h2⟩ := List.getElem?_eq_some_iff.1 h
  have hs : keyRows = keyRows.take i ++ k :: keyRows.drop (i + 1) := by
    rw [← h2, List.getElem_cons_drop, List.take_append_drop]
  rw [hs, findK, List.find?_append]
  have hn0 : (keyRows.take i).find? (fun k => k.name == name) = none := List.find?_eq_none.2 fun x hx => by simpa using hn x hx
  rw [hn0]
  simp [he]
theorem findK_none {name : List UInt8} (hn : ∀ x ∈ keyRows, x.name ≠ name) : findK keyRows name = none := List.find?_eq_none.2 fun x hx => by simpa using hn x hx
def RKeyOf (name : List UInt8) (w w1 : World) (i : Value) (wr : World) : Prop :=
  ∃ k : Nat, k ≤ 18 ∧ i = .int .i64 (k : Nat) ∧ (∀ x ∈ keyRows.take k, x.name ≠ name) ∧ Blk wr w.heap.size 125 #[.string (bs []), .int .i64 0, .int .i64 0, .int .i64 0, .string (bs []), .bool false, .bool false] ∧ Below w1.heap.size w1 wr
set_option maxHeartbeats 4000000 in
theorem keyOf_any (name : List UInt8) (w : World) : Calls Tryz.prog 43 #[.string (bs name)] w fun e w' => e = .returned (.tuple #[keyVal (findK keyRows name), .int .i64 (keyErr (findK keyRows name) : Nat)]) ∧ Below w.heap.size w w' := by
  go_enter Tryz.func43, Tryz.ntmps43
  have c1 := fun w => hid (known_any w)
  obtain ⟨w1, hw1⟩ : ∃ w1, w.alloc (.cells #[.string (bs []), .int .i64 0, .int .i64 0, .int .i64 0, .string (bs []), .bool false, .bool false] 125) = w1 := ⟨_, rfl⟩
  have hBlk : Blk w1 w.heap.size 125 #[.string (bs []), .int .i64 0, .int .i64 0, .int .i64 0, .string (bs []), .bool false, .bool false] := by rw [← hw1]; exact Blk.new _ _ _
  have hs1 : w1.heap.size = w.heap.size + 1 := by rw [← hw1]; simp
  have hb1 : Below w.heap.size w w1 := by rw [← hw1]; exact (Below.refl _ _).alloc (Nat.le_refl _) _
  have hK := k7_known w1
  have c1 := c1 w1
  unfold KnownPost at c1
  obtain ⟨w2, hw2⟩ : ∃ w2, w1.alloc (.cells allCells.toArray 125) = w2 := ⟨_, rfl⟩
  rw [hw2] at hK c1
  have hs2 : w2.heap.size = w.heap.size + 2 := by rw [← hw2]; simp; omega
  have hb2 : Below w1.heap.size w1 w2 := by rw [← hw2]; exact (Below.refl _ _).alloc (Nat.le_refl _) _
  have HBlk := hid (hBlk.below hb2)
  have HK := hid hK; clear hK hw2 hBlk
  rw [hs1] at HK c1
  go_wp2_with (first | (go_at_call 84; change Calls _ _ _ (w.alloc (.cells #[.string (bs []), .int .i64 0, .int .i64 0, .int .i64 0, .string (bs []), .bool false, .bool false] 125)) _; rw [hw1]; refine c1.out.mono ?_; rintro e w' ⟨rfl, rfl⟩))
  clear hw1 c1
  go_loopw [8] (fun i wr => RKeyOf name w w' i wr) (fun i _ => 18 - (intOf i).toNat)
  case atStart => exact ⟨0, by omega, rfl, by simp, HBlk.out, Below.refl _ _⟩
  case round =>
    obtain ⟨k, hk, rfl, hno, hblk, hb⟩ := hrel
    have hB := hb.size
    have HB := hid hblk
    have hzlt : w.heap.size < wr.heap.size := by omega
    have hzne : ¬ w.heap.size = wr.heap.size := by omega
    have q0 := hblk.free 0
    have q1 := hblk.free 1
    have q2 := hblk.free 2
    have q3 := hblk.free 3
    have q4 := hblk.free 4
    have q5 := hblk.free 5
    have q6 := hblk.free 6
    have p0 : wr.cell? ⟨w.heap.size, 0, none⟩ = some (.string (bs [])) := (hblk.cell 0).trans rfl
    have p1 : wr.cell? ⟨w.heap.size, 1, none⟩ = some (.int .i64 0) := (hblk.cell 1).trans rfl
    have p2 : wr.cell? ⟨w.heap.size, 2, none⟩ = some (.int .i64 0) := (hblk.cell 2).trans rfl
    have p3 : wr.cell? ⟨w.heap.size, 3, none⟩ = some (.int .i64 0) := (hblk.cell 3).trans rfl
    have p4 : wr.cell? ⟨w.heap.size, 4, none⟩ = some (.string (bs [])) := (hblk.cell 4).trans rfl
    have p5 : wr.cell? ⟨w.heap.size, 5, none⟩ = some (.bool false) := (hblk.cell 5).trans rfl
    have p6 : wr.cell? ⟨w.heap.size, 6, none⟩ = some (.bool false) := (hblk.cell 6).trans rfl
    clear hblk
    by_cases hlt : k < 18
    · obtain ⟨kr, hkr⟩ : ∃ kr, keyRows[k]? = some kr := ⟨keyRows[k]'(by show k < 18; exact hlt), List.getElem?_eq_getElem _⟩
      obtain ⟨a0, a1, a2, a3, a4, a5, a6⟩ := (HK.out.below hb (by omega)) k kr hkr
      by_cases hname : kr.name = name
      · have Hf := hid (findK_take hkr hno hname)
        have he : (kr.name == name) = true := by simpa using hname
        clear hkr
        go_wp2
        refine bodyPost_ret (v := .tuple #[.agg kr.cells.toArray, .int .i64 0]) (by simp [results, Tryz.results43, go_sem, p0, p1, p2, p3, p4, p5, p6, hzlt, KR.cells, hname]) rfl ?_
        refine ⟨by rw [Hf.out]; rfl, ?_⟩
        have hb' : Below w.heap.size w wr := hb1.trans ((hb2.mono (by omega)).trans (hb.mono (by omega)))
        refine Below.alloc ?_ (by simp [World.setCell]; omega) _
        iterate 7 refine below_setc ?_ (Nat.le_refl w.heap.size) _ _
        exact hb'
      · have he : (kr.name == name) = false := by simpa using hname
        have hno' : ∀ x ∈ keyRows.take (k + 1), x.name ≠ name := by
          obtain ⟨h1, h2⟩ := List.getElem?_eq_some_iff.1 hkr
          rw [List.take_succ_eq_append_getElem h1, h2]
          intro x hx
          rcases List.mem_append.1 hx with hx | hx
          · exact hno x hx
          · rw [List.mem_singleton.1 hx]; exact hname
        have Hno := hid hno'; clear hno hno' hkr
        go_wp2
        go_roundw
        case rel => exact ⟨k + 1, by omega, by go_num, Hno.out, HB.out.below ((Below.refl _ _).alloc (Nat.le_refl _) _), hb.alloc hB _⟩
        case measure => simp [intOf]; omega
    · obtain rfl : k = 18 := by omega
      have Hf := hid (findK_none (name := name) (by rw [show (18 : Nat) = keyRows.length from rfl, List.take_length] at hno; exact hno))
      clear hno
      go_wp2
      refine bodyPost_ret (v := .tuple #[.agg #[.string (bs []), .int .i64 0, .int .i64 0, .int .i64 0, .string (bs []), .bool false, .bool false], .int .i64 5]) (by simp [results, Tryz.results43, go_sem, p0, p1, p2, p3, p4, p5, p6]; rfl) rfl ?_
      refine ⟨by rw [Hf.out]; rfl, ?_⟩
      have hb' : Below w.heap.size w wr := hb1.trans ((hb2.mono (by omega)).trans (hb.mono (by omega)))
      iterate 7 refine below_setc ?_ (Nat.le_refl w.heap.size) _ _
      exact hb'
end Go.Proofs.YtbimlijhgeajjaaGreatDoor

namespace Go.Proofs.YtbimlijhgeajjaaGreatDoor
open Go Go.RowKit
set_option linter.unusedVariables false
/-- the table of white space stands -/
def AS (w : World) : Prop := Lib.TabIs Tryz.prog w "strings.asciiSpace" .u8 Lib.asciiSpaceTab
theorem asName : Tryz.prog.globalNamed "strings.asciiSpace" = some 1 := by kernel_rfl
theorem AS.lt {w : World} (h : AS w) : 1 < w.heap.size := by
  have := Lib.TabIs.cell h asName 0 (by rw [Lib.asciiSpaceTab_length]; omega)
  exact block_lt_of_cell this
theorem AS.below {w w' : World} {B : Nat} (h : AS w) (hb : Below B w w') (hB : w.heap.size ≤ B) : AS w' := var?_below hb asName (Nat.lt_of_lt_of_le h.lt hB) h
theorem fields_any (l : List UInt8) (w : World) (hl : l.length < 4294967281) (ha : ∀ b ∈ l, b.toNat < 128) (h : AS w) :
    Calls Tryz.prog 113 #[.string (bs l)] w fun e w' => e = .returned (.slice (some ⟨w.heap.size, 0, none⟩) (Lib.fields l).length (Lib.fields l).length) ∧ w' = w.alloc (.cells ((Lib.fields l).map fun x => Value.string (bs x)).toArray 9) :=
  Tryz.strings_Fields (bs l) w (by rw [bs_size]; exact hl) (fun j b hb => ha b (List.mem_of_getElem? hb)) h
theorem below_bytes (w : World) (e : TypeId) (s : ByteArray) : Below w.heap.size w (Lib.bytesWorld w e s) :=
  ⟨rfl, rfl, rfl, by rw [Lib.bytesWorld_size]; omega, fun k hk => Lib.bytesWorld_at_old w e s k hk⟩
theorem atoi_any (l : List UInt8) (n : Int) (w : World) (hl : l.length ≤ 18) (h : Lib.atoi l = some n) :
    Calls Tryz.prog 114 #[.string (bs l)] w fun e w' => e = .returned (.tuple #[.int .i64 n, .nilIface]) ∧ Below w.heap.size w w' := by
  refine (Tryz.strconv_Atoi (bs l) n (by rw [bs_size]; exact hl) h w).mono ?_
  rintro e w' ⟨rfl, t, rfl⟩
  exact ⟨rfl, below_bytes _ _ _⟩
end Go.Proofs.YtbimlijhgeajjaaGreatDoor

namespace Go.Proofs.YtbimlijhgeajjaaGreatDoor
open Go Go.RowKit
set_option linter.unusedVariables false
/-- what the kernel checks of the region: no guard, no defer, no select; edges lead back; each temporary has one writer; who reads a temporary comes behind its writer; s is the last, and behind all -/
def planB (ops : Array Oper) (s : Nat) : Bool :=
  (List.range ops.size).all fun i => match ops[i]? with
    | none => false
    | some o =>
      o.guard.isNone &&
      (match o.op with | .defer _ => false | .select _ _ => false | _ => true) &&
      o.after.all (fun e => !Region.binds .any e || decide (e.on < i)) &&
      (i == s || o.dst.isSome) &&
      (o.op.operands.toList.all fun | .tmp t => (List.range ops.size).all (fun j => match ops[j]? with | some oj => oj.dst != some t || o.after.any (fun e => Region.binds .any e && e.on == j) | none => true) | _ => true) &&
      ((List.range ops.size).all fun j => j == i || match ops[j]? with | some oj => oj.dst != o.dst || o.dst.isNone | none => true) &&
      (i != s || (List.range ops.size).all fun j => j == i || o.after.any (fun e => Region.binds .any e && e.on == j))
structure PlanOf (ops : Array Oper) (s i : Nat) (o : Oper) : Prop where
  guard : o.guard = none
  nodefer : ∀ c, o.op ≠ .defer c
  nosel : ∀ cs b, o.op ≠ .select cs b
  back : ∀ e ∈ o.after, Region.binds .any e = true → e.on < i
  dst : i ≠ s → ∃ d, o.dst = some d
  reads : ∀ t, Operand.tmp t ∈ o.op.operands → ∀ j oj, ops[j]? = some oj → oj.dst = some t → ∃ e ∈ o.after, Region.binds .any e = true ∧ e.on = j
  once : ∀ j oj, ops[j]? = some oj → j ≠ i → ∀ d, o.dst = some d → oj.dst ≠ some d
  last : i = s → ∀ j oj, ops[j]? = some oj → j ≠ i → ∃ e ∈ o.after, Region.binds .any e = true ∧ e.on = j
theorem plan_spec {ops : Array Oper} {s : Nat} (h : planB ops s = true) {i : Nat} {o : Oper} (hi : ops[i]? = some o) : PlanOf ops s i o := by
  have hlt : i < ops.size := (Array.getElem?_eq_some_iff.1 hi).1
  have h := List.all_eq_true.1 h i (List.mem_range.2 hlt)
  simp only [hi, Bool.and_eq_true, Bool.or_eq_true, bne_iff_ne, beq_iff_eq] at h
  obtain ⟨⟨⟨⟨⟨⟨h1, h2⟩, h3⟩, h4⟩, h5⟩, h6⟩, h7⟩ := h
  refine ⟨by simpa using h1, ?_, ?_, ?_, ?_, ?_, ?_, ?_⟩
  · intro c hc
    simp [hc] at h2
  · intro cs b hc
    simp [hc] at h2
  · intro e he hb
    have := Array.all_eq_true_iff_forall_mem.1 h3 e he
    simpa [hb] using this
  · intro hs
    rcases h4 with h4 | h4
    · exact absurd h4 hs
    · exact Option.isSome_iff_exists.1 h4
  · intro t ht j oj hj hd
    have h := List.all_eq_true.1 h5 (.tmp t) (by simpa using ht)
    have h := List.all_eq_true.1 h j (List.mem_range.2 (Array.getElem?_eq_some_iff.1 hj).1)
    simp only [hj, hd, bne_self_eq_false, Bool.false_or] at h
    obtain ⟨k, hk, h⟩ := Array.any_eq_true.1 h
    simp only [Bool.and_eq_true, beq_iff_eq] at h
    exact ⟨o.after[k], Array.getElem_mem hk, h.1, h.2⟩
  · intro j oj hj hne d hd hjd
    have h := List.all_eq_true.1 h6 j (List.mem_range.2 (Array.getElem?_eq_some_iff.1 hj).1)
    simp [hj, hne, hd, hjd] at h
  · intro hs j oj hj hne
    rcases h7 with h7 | h7
    · exact absurd hs h7
    have h := List.all_eq_true.1 h7 j (List.mem_range.2 (Array.getElem?_eq_some_iff.1 hj).1)
    simp only [Bool.or_eq_true, beq_iff_eq, hne, false_or] at h
    obtain ⟨k, hk, h⟩ := Array.any_eq_true.1 h
    simp only [Bool.and_eq_true, beq_iff_eq] at h
    exact ⟨o.after[k], Array.getElem_mem hk, h.1, h.2⟩
/-- between two operations: what has been written is as it will be; the block is made, or not yet -/
structure PlanInv (ops : Array Oper) (p : Nat) (aF : Act) (W0 W1 : World) (listed : Array Bool) (a : Act) (w : World) : Prop where
  size : listed.size = ops.size
  defers : a.defers = aF.defers
  tsize : a.tmps.size = aF.tmps.size
  tmps : ∀ t : Nat, (∀ (j : Nat) oj, ops[j]? = some oj → oj.dst = some t → listed.getD j false = true) → a.tmps[t]? = aF.tmps[t]?
  world : w = if listed.getD p false = true then W1 else W0
theorem unlisted_ready {ops : Array Oper} {s : Nat} (hp : planB ops s = true) {listed : Array Bool} (hsz : listed.size = ops.size) (k : Nat) (hk : listed.getD k true = false) : Region.ready .any ops listed ≠ [] := by
  induction k using Nat.strongRecOn with
  | _ k ih =>
    have hlt : k < ops.size := by
      rcases Nat.lt_or_ge k listed.size with h | h
      · omega
      · rw [Array.getD_eq_getD_getElem?, Array.getElem?_eq_none h] at hk
        cases hk
    by_cases hall : ∀ e ∈ (ops[k]).after, Region.binds .any e = true → listed.getD e.on false = true
    · have : k ∈ Region.ready .any ops listed := mem_ready.2 ⟨hk, ops[k], by simp [hlt], hall⟩
      intro e; rw [e] at this; cases this
    · simp only [Classical.not_forall] at hall
      obtain ⟨e, he, hb, hn⟩ := hall
      have hlt2 := (plan_spec hp (show ops[k]? = some ops[k] by simp [hlt])).back e he hb
      refine ih e.on hlt2 ?_
      have : e.on < listed.size := by omega
      rw [Array.getD_eq_getD_getElem?, Array.getElem?_eq_getElem this] at hn ⊢
      simpa using hn
theorem getD_mark (l : Array Bool) (i j : Nat) (b : Bool) : (l.setIfInBounds i true).getD j b = if i = j ∧ i < l.size then true else l.getD j b := by
  rw [Array.getD_eq_getD_getElem?, Array.getElem?_setIfInBounds, Array.getD_eq_getD_getElem?]
  by_cases h : i = j
  · subst h
    by_cases h2 : i < l.size
    · simp [h2]
    · simp [h2]
  · simp [h]
theorem unlisted_less {N : Nat} {listed : Array Bool} {i : Nat} (hi : i < N) (hl : listed.getD i true = false) :
    ((List.range N).filter fun j => !(listed.setIfInBounds i true).getD j true).length < ((List.range N).filter fun j => !listed.getD j true).length := by
  have hsz : i < listed.size := by
    rcases Nat.lt_or_ge i listed.size with h | h
    · exact h
    · rw [Array.getD_eq_getD_getElem?, Array.getElem?_eq_none h] at hl; cases hl
  have e : (List.range N).filter (fun j => !(listed.setIfInBounds i true).getD j true) = ((List.range N).filter fun j => !listed.getD j true).filter fun j => j != i := by
    rw [List.filter_filter]
    refine List.filter_congr fun j _ => ?_
    rw [getD_mark]
    by_cases h : i = j
    · subst h; simp [hsz]
    · have : j ≠ i := fun e => h e.symm
      simp [h, this]
  rw [e]
  exact List.length_filter_lt_length_iff_exists.2 ⟨i, List.mem_filter.2 ⟨List.mem_range.2 hi, by rw [hl]; rfl⟩, by simp⟩
theorem plan_walk {F : Fence} {n : Nat} {P : Program} {ops : Array Oper} {Q : Exit → Act → World → Prop} {p s : Nat} {aF : Act} {W0 W1 : World} (hp : planB ops s = true) (hps : p ≠ s) (hs : s < ops.size) (hpp : p < ops.size) (hsd : ∀ o, ops[s]? = some o → o.dst = none)
    (hrun : ∀ (i : Nat) (o : Oper) (d : Tmp), ops[i]? = some o → i ≠ s → o.dst = some d → ∀ w, (∀ f, o.about P w aF.eval = some f → F.fn f) ∧ (i ≠ p → (w = W0 ∨ w = W1) → (execOp aF.eval o).run P w = .ok (.value (aF.eval (.tmp d))) w) ∧ (i = p → w = W0 → (execOp aF.eval o).run P w = .ok (.value (aF.eval (.tmp d))) W1))
    (hlast : ∀ o, ops[s]? = some o → o.wpIn F n P aF W1 (fun a w => Q .normal a w) Q) :
    ∀ (fuel : Nat) (listed : Array Bool) (a : Act) (w : World), PlanInv ops p aF W0 W1 listed a w → listed.getD s true = false → ((List.range ops.size).filter fun i => !listed.getD i true).length ≤ fuel → wpAnyIn F n P .any ops Q fuel listed a w := by
  intro fuel
  induction fuel with
  | zero =>
    intro listed a w hI hsl hc
    have : s ∈ (List.range ops.size).filter fun i => !listed.getD i true := List.mem_filter.2 ⟨List.mem_range.2 hs, by rw [hsl]; rfl⟩
    have h0 : (List.range ops.size).filter (fun i => !listed.getD i true) = [] := List.length_eq_zero_iff.1 (by omega)
    rw [h0] at this; cases this
  | succ fuel ih =>
    intro listed a w hI hsl hc
    refine ⟨fun h0 => absurd h0 (unlisted_ready hp hI.size s hsl), fun i hi => ?_⟩
    obtain ⟨hil, o, ho, hafter⟩ := mem_ready.1 hi
    have hP := plan_spec hp ho
    have hlt : i < ops.size := (Array.getElem?_eq_some_iff.1 ho).1
    -- what the operation reads is as it will be
    have hsame : ∀ x ∈ o.op.operands, a.eval x = aF.eval x := by
      intro x hx
      cases x with
      | tmp t =>
        have := hI.tmps t fun j oj hj hd => by
          obtain ⟨e, he, hb, rfl⟩ := hP.reads t hx j oj hj hd
          exact hafter e he hb
        simp only [Act.eval, Array.getD_eq_getD_getElem?, this]
      | _ => rfl
    have hex := execOp_congr o hP.nosel hsame
    have hab := about_congr (P := P) o w hsame
    have hwant : Region.wanted o (yielded ops a.tmps) = true := by simp [Region.wanted, hP.guard]
    unfold wpOpIn
    simp only [ho, hwant, if_true]
    by_cases his : i = s
    · subst his
      have hall : ∀ j oj, ops[j]? = some oj → j ≠ i → listed.getD j false = true := fun j oj hj hne => by
        obtain ⟨e, he, hb, rfl⟩ := hP.last rfl j oj hj hne
        exact hafter e he hb
      have hw : w = W1 := by
        rw [hI.world, hall p ops[p] (by simp [hpp]) hps, if_pos rfl]
      have haF : a = aF := by
        have ht : a.tmps = aF.tmps := by
          refine Array.ext_getElem? fun t => hI.tmps t fun j oj hj hd => hall j oj hj ?_
          rintro rfl
          rw [hsd oj hj] at hd; cases hd
        cases a; cases aF
        simp only at ht
        have := hI.defers
        simp only at this
        rw [ht, this]
      rw [haF, hw]
      refine Oper.wpIn_mono (fun a' w' h => ?_) (hlast o ho)
      refine wpAnyIn_done ?_ h _
      refine List.filter_eq_nil_iff.2 fun j hj => ?_
      have hj := List.mem_range.1 hj
      have : (listed.setIfInBounds i true).getD j true = true := by
        rw [getD_mark]
        by_cases h : i = j
        · subst h; simp [hI.size, hlt]
        · have h1 := hall j ops[j] (by simp [hj]) (fun e => h e.symm)
          rw [Array.getD_eq_getD_getElem?, Array.getElem?_eq_getElem (by rw [hI.size]; exact hj)] at h1
          rw [if_neg (by simp [h]), Array.getD_eq_getD_getElem?, Array.getElem?_eq_getElem (by rw [hI.size]; exact hj)]
          simpa using h1
      simp [this]
    · obtain ⟨d, hd⟩ := hP.dst his
      have hr := hrun i o d ho his hd w
      have hsl' : (listed.setIfInBounds i true).getD s true = false := by rw [getD_mark, if_neg (by simp [his]), hsl]
      have hc' : ((List.range ops.size).filter fun j => !(listed.setIfInBounds i true).getD j true).length ≤ fuel := by
        have := unlisted_less (N := ops.size) hlt hil
        omega
      have hsemat : (o.semAt F.round a.eval).run P w = (execOp aF.eval o).run P w := by rw [Oper.semAt_eq _ _ _ hP.nodefer, hex]
      unfold Oper.wpIn
      rw [hab, hsemat]
      refine ⟨hr.1, ?_⟩
      have hput : ∀ t : Nat, (∀ (j : Nat) oj, ops[j]? = some oj → oj.dst = some t → (listed.setIfInBounds i true).getD j false = true) → (a.put o.dst (aF.eval (.tmp d))).tmps[t]? = aF.tmps[t]? := by
        intro t ht
        rw [hd]
        show (a.tmps.setIfInBounds d _)[t]? = _
        rw [Array.getElem?_setIfInBounds]
        by_cases hdt : d = t
        · subst hdt
          by_cases hlt2 : d < a.tmps.size
          · have hlt3 : d < aF.tmps.size := by rw [← hI.tsize]; exact hlt2
            rw [if_pos rfl, if_pos hlt2, Array.getElem?_eq_getElem hlt3]
            simp [Act.eval, Array.getD, hlt3]
          · have hlt3 : ¬ d < aF.tmps.size := by rw [← hI.tsize]; exact hlt2
            rw [if_pos rfl, if_neg hlt2, Array.getElem?_eq_none (Nat.le_of_not_lt hlt3)]
        · rw [if_neg hdt]
          refine hI.tmps t fun j oj hj hjd => ?_
          have h1 := ht j oj hj hjd
          rw [getD_mark, if_neg] at h1
          · exact h1
          · rintro ⟨rfl, _⟩
            rw [ho] at hj; cases hj
            rw [hd] at hjd; cases hjd; exact hdt rfl
      have hsize' : (a.put o.dst (aF.eval (.tmp d))).tmps.size = aF.tmps.size := by
        rw [hd]; show (a.tmps.setIfInBounds d _).size = _
        rw [Array.size_setIfInBounds, hI.tsize]
      have hdef' : (a.put o.dst (aF.eval (.tmp d))).defers = aF.defers := by rw [hd]; exact hI.defers
      by_cases hip : i = p
      · have hw : w = W0 := by
          rw [hI.world, if_neg]
          rw [← hip]
          intro h
          rw [Array.getD_eq_getD_getElem?, Array.getElem?_eq_getElem (by rw [hI.size]; exact hlt)] at h hil
          simp at h hil
          rw [h] at hil; cases hil
        rw [hr.2.2 hip hw]
        refine ih _ _ _ ⟨by rw [Array.size_setIfInBounds]; exact hI.size, hdef', hsize', hput, ?_⟩ hsl' hc'
        have hmk : (listed.setIfInBounds i true).getD p false = true := by rw [getD_mark, if_pos ⟨hip, by rw [hI.size]; exact hlt⟩]
        rw [hmk]; rfl
      · have hw : w = W0 ∨ w = W1 := by
          rw [hI.world]
          split
          · exact .inr rfl
          · exact .inl rfl
        rw [hr.2.1 hip hw]
        refine ih _ _ _ ⟨by rw [Array.size_setIfInBounds]; exact hI.size, hdef', hsize', hput, ?_⟩ hsl' hc'
        have hmk : (listed.setIfInBounds i true).getD p false = listed.getD p false := by rw [getD_mark, if_neg (fun h => hip h.1)]
        rw [hmk]; exact hI.world
/-- what differs between two frames: at most the temporaries that the region writes -/
def Agree (ds : List Nat) : Nat → List Value → List Value → Prop
  | _, [], [] => True
  | t, x :: xs, y :: ys => (if ds.contains t then True else x = y) ∧ Agree ds (t + 1) xs ys
  | _, _, _ => False
theorem Agree.get {ds : List Nat} : ∀ {l m : List Value} {k : Nat}, Agree ds k l m → l.length = m.length ∧ ∀ t : Nat, k + t ∉ ds → l[t]? = m[t]?
  | [], [], k, _ => ⟨rfl, fun t _ => rfl⟩
  | x :: xs, y :: ys, k, h => by
    obtain ⟨h1, h2⟩ := Agree.get h.2
    refine ⟨by simp [h1], fun t ht => ?_⟩
    cases t with
    | zero =>
      have := h.1
      rw [if_neg (by simpa using ht)] at this
      simp [this]
    | succ t =>
      have := h2 t (by rw [Nat.add_assoc, Nat.add_comm 1 t]; exact ht)
      simpa using this
  | [], _ :: _, _, h => h.elim
  | _ :: _, [], _, h => h.elim
def writes (ops : Array Oper) : List Nat := ops.toList.filterMap (·.dst)
/-- one operation's word, of each of a list -/
def EachOp (G : Nat → Oper → Tmp → Prop) : Nat → List Oper → Prop
  | _, [] => True
  | i, o :: l => (match o.dst with | some d => G i o d | none => True) ∧ EachOp G (i + 1) l
theorem eachOp_get {G : Nat → Oper → Tmp → Prop} : ∀ {l : List Oper} {k : Nat}, EachOp G k l → ∀ (i : Nat) (o : Oper) (d : Tmp), l.toArray[i]? = some o → o.dst = some d → G (k + i) o d
  | [], _, _, i, o, d, hi, _ => by simp at hi
  | x :: l, k, h, i, o, d, hi, hd => by
    cases i with
    | zero =>
      simp only [List.getElem?_toArray, List.getElem?_cons_zero, Option.some.injEq] at hi
      subst hi
      have := h.1
      rw [hd] at this
      exact this
    | succ i =>
      have := eachOp_get h.2 i o d (by simpa using hi) hd
      rwa [Nat.add_assoc, Nat.add_comm 1 i] at this
theorem region_plan {F : Fence} {n : Nat} {P : Program} {id : Nat} {l : List Oper} {Q : Exit → Act → World → Prop} (p s : Nat) (aF : Act) (W1 : World) {a : Act} {w : World} (hm : P.follows .mixedOrders = true)
    (hp : planB l.toArray s = true) (hps : p ≠ s) (hpp : p < l.toArray.size) {o : Oper} (ho : l.toArray[s]? = some o) (hod : o.dst = none)
    (hd : a.defers = aF.defers) (ha : Agree (writes l.toArray) 0 a.tmps.toList aF.tmps.toList)
    (hrun : EachOp (fun i o d => ∀ W, (∀ f, o.about P W aF.eval = some f → F.fn f) ∧ (i ≠ p → (W = w.drew ∨ W = W1) → (execOp aF.eval o).run P W = .ok (.value (aF.eval (.tmp d))) W) ∧ (i = p → W = w.drew → (execOp aF.eval o).run P W = .ok (.value (aF.eval (.tmp d))) W1)) 0 l)
    (hlast0 : wpListIn F n P l.toArray Q [o] aF W1) : (Code.region id l.toArray true).wpIn F n P Q a w := by
  have hg := (plan_spec hp ho).guard
  have hlast : o.wpIn F n P aF W1 (fun a w => Q .normal a w) Q := by
    unfold wpListIn at hlast0
    rw [if_pos (by simp [Region.wanted, hg])] at hlast0
    exact hlast0
  have hslt := (Array.getElem?_eq_some_iff.1 ho).1
  obtain ⟨g1, g2⟩ := ha.get
  refine wpIn_region_any hm (plan_walk (W0 := w.drew) (W1 := W1) hp hps hslt hpp (fun o' ho' => by rw [ho] at ho'; cases ho'; exact hod) (fun i o d hi _ hd => by simpa using eachOp_get hrun i o d hi hd) (fun o' ho' => by rw [ho] at ho'; cases ho'; exact hlast) _ _ _ _ ⟨by simp, hd, by simpa using g1, fun t ht => ?_, ?_⟩ ?_ ?_)
  · by_cases hw : t ∈ writes l.toArray
    · obtain ⟨oj, hoj, hd⟩ := List.mem_filterMap.1 hw
      obtain ⟨j, hj, rfl⟩ := List.mem_iff_getElem.1 hoj
      have := ht j _ (by simp at hj ⊢) hd
      rw [Array.getD_eq_getD_getElem?, Array.getElem?_replicate] at this
      split at this <;> simp at this
    · have := g2 t (by simpa using hw)
      simpa using this
  · rw [Array.getD_eq_getD_getElem?, Array.getElem?_replicate, if_pos hpp]; rfl
  · rw [Array.getD_eq_getD_getElem?, Array.getElem?_replicate, if_pos hslt]; rfl
  · exact Nat.le_trans (List.length_filter_le _ _) (by simp)
theorem reads_walk {F : Fence} {n : Nat} {P : Program} {ops : Array Oper} {Q : Exit → Act → World → Prop} {aF : Act} {W0 : World} (hp : planB ops ops.size = true)
    (hrun : ∀ (i : Nat) (o : Oper) (d : Tmp), ops[i]? = some o → o.dst = some d → (∀ f, o.about P W0 aF.eval = some f → F.fn f) ∧ (execOp aF.eval o).run P W0 = .ok (.value (aF.eval (.tmp d))) W0)
    (hQ : Q .normal aF W0) :
    ∀ (fuel : Nat) (listed : Array Bool) (a : Act) (w : World), PlanInv ops 0 aF W0 W0 listed a w → ((List.range ops.size).filter fun i => !listed.getD i true).length ≤ fuel → wpAnyIn F n P .any ops Q fuel listed a w := by
  have fin : ∀ (listed : Array Bool) (a : Act) (w : World), PlanInv ops 0 aF W0 W0 listed a w → Region.ready .any ops listed = [] → Q .normal a w := by
    intro listed a w hI h0
    have hall : ∀ j, listed.getD j true = true := fun j => by
      cases hj : listed.getD j true with
      | true => rfl
      | false => exact absurd h0 (unlisted_ready hp hI.size j hj)
    have hw : w = W0 := by rw [hI.world]; split <;> rfl
    have haF : a = aF := by
      have ht : a.tmps = aF.tmps := by
        refine Array.ext_getElem? fun t => hI.tmps t fun j oj hj hd => ?_
        have hlt := (Array.getElem?_eq_some_iff.1 hj).1
        have := hall j
        rw [Array.getD_eq_getD_getElem?, Array.getElem?_eq_getElem (by rw [hI.size]; exact hlt)] at this ⊢
        simpa using this
      cases a; cases aF
      simp only at ht
      have := hI.defers
      simp only at this
      rw [ht, this]
    rw [haF, hw]; exact hQ
  intro fuel
  induction fuel with
  | zero =>
    intro listed a w hI hc
    have h0 : (List.range ops.size).filter (fun i => !listed.getD i true) = [] := List.length_eq_zero_iff.1 (by omega)
    have hr : Region.ready .any ops listed = [] := by
      refine List.filter_eq_nil_iff.2 fun j hj => ?_
      have := List.filter_eq_nil_iff.1 h0 j hj
      simp only [Bool.not_eq_true', Bool.not_eq_false] at this
      simp [this]
    exact ⟨hr, fin listed a w hI hr⟩
  | succ fuel ih =>
    intro listed a w hI hc
    refine ⟨fun h0 => fin listed a w hI h0, fun i hi => ?_⟩
    obtain ⟨hil, o, ho, hafter⟩ := mem_ready.1 hi
    have hP := plan_spec hp ho
    have hlt : i < ops.size := (Array.getElem?_eq_some_iff.1 ho).1
    have hw : w = W0 := by rw [hI.world]; split <;> rfl
    have hsame : ∀ x ∈ o.op.operands, a.eval x = aF.eval x := by
      intro x hx
      cases x with
      | tmp t =>
        have := hI.tmps t fun j oj hj hd => by
          obtain ⟨e, he, hb, rfl⟩ := hP.reads t hx j oj hj hd
          exact hafter e he hb
        simp only [Act.eval, Array.getD_eq_getD_getElem?, this]
      | _ => rfl
    have hex := execOp_congr o hP.nosel hsame
    have hab := about_congr (P := P) o w hsame
    have hwant : Region.wanted o (yielded ops a.tmps) = true := by simp [Region.wanted, hP.guard]
    unfold wpOpIn
    simp only [ho, hwant, if_true]
    obtain ⟨d, hd⟩ := hP.dst (by omega)
    have hr := hrun i o d ho hd
    have hc' : ((List.range ops.size).filter fun j => !(listed.setIfInBounds i true).getD j true).length ≤ fuel := by
      have := unlisted_less (N := ops.size) hlt hil
      omega
    have hsemat : (o.semAt F.round a.eval).run P w = (execOp aF.eval o).run P w := by rw [Oper.semAt_eq _ _ _ hP.nodefer, hex]
    unfold Oper.wpIn
    rw [hab, hsemat, hw]
    refine ⟨hr.1, ?_⟩
    rw [hr.2]
    refine ih _ _ _ ⟨by rw [Array.size_setIfInBounds]; exact hI.size, by rw [hd]; exact hI.defers, ?_, ?_, by split <;> rfl⟩ hc'
    · rw [hd]; show (a.tmps.setIfInBounds d _).size = _
      rw [Array.size_setIfInBounds, hI.tsize]
    · intro t ht
      rw [hd]
      show (a.tmps.setIfInBounds d _)[t]? = _
      rw [Array.getElem?_setIfInBounds]
      by_cases hdt : d = t
      · subst hdt
        by_cases hlt2 : d < a.tmps.size
        · have hlt3 : d < aF.tmps.size := by rw [← hI.tsize]; exact hlt2
          rw [if_pos rfl, if_pos hlt2, Array.getElem?_eq_getElem hlt3]
          simp [Act.eval, Array.getD, hlt3]
        · have hlt3 : ¬ d < aF.tmps.size := by rw [← hI.tsize]; exact hlt2
          rw [if_pos rfl, if_neg hlt2, Array.getElem?_eq_none (Nat.le_of_not_lt hlt3)]
      · rw [if_neg hdt]
        refine hI.tmps t fun j oj hj hjd => ?_
        have h1 := ht j oj hj hjd
        rw [getD_mark, if_neg] at h1
        · exact h1
        · rintro ⟨rfl, _⟩
          rw [ho] at hj; cases hj
          rw [hd] at hjd; cases hjd; exact hdt rfl
theorem region_reads {F : Fence} {n : Nat} {P : Program} {id : Nat} {l : List Oper} {Q : Exit → Act → World → Prop} (aF : Act) {a : Act} {w : World} (hm : P.follows .mixedOrders = true)
    (hp : planB l.toArray l.toArray.size = true) (hd : a.defers = aF.defers) (ha : Agree (writes l.toArray) 0 a.tmps.toList aF.tmps.toList)
    (hrun : EachOp (fun _ o d => (∀ f, o.about P w.drew aF.eval = some f → F.fn f) ∧ (execOp aF.eval o).run P w.drew = .ok (.value (aF.eval (.tmp d))) w.drew) 0 l)
    (hQ : Q .normal aF w.drew) :
    (Code.region id l.toArray true).wpIn F n P Q a w := by
  obtain ⟨g1, g2⟩ := ha.get
  refine wpIn_region_any hm (reads_walk (W0 := w.drew) hp (fun i o d hi hd => eachOp_get hrun i o d hi hd) hQ _ _ _ _ ⟨by simp, hd, by simpa using g1, fun t ht => ?_, by split <;> rfl⟩ ?_)
  · by_cases hw : t ∈ writes l.toArray
    · obtain ⟨oj, hoj, hd⟩ := List.mem_filterMap.1 hw
      obtain ⟨j, hj, rfl⟩ := List.mem_iff_getElem.1 hoj
      have := ht j _ (by simp at hj ⊢) hd
      rw [Array.getD_eq_getD_getElem?, Array.getElem?_replicate] at this
      split at this <;> simp at this
    · have := g2 t (by simpa using hw)
      simpa using this
  · exact Nat.le_trans (List.length_filter_le _ _) (by simp)
end Go.Proofs.YtbimlijhgeajjaaGreatDoor
