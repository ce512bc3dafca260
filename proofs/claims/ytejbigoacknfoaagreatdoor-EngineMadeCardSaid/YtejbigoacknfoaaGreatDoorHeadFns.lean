/- strings.Split at a separator of one byte. -/
import Derived.Test.YtejbigoacknfoaaGreatDoorSplitSeq
import Derived.Test.YtejbigoacknfoaaGreatDoorHeadRow
set_option linter.unusedSectionVars false
set_option linter.unusedSimpArgs false
set_option linter.unusedVariables false
namespace Go.Proofs.YtejbigoacknfoaaGreatDoor
open Go.RowKit
set_option linter.unusedVariables false
set_option maxRecDepth 100000
theorem infoStr1 : (Tryz.prog.info? 9).map (fun i => (i.zero, i.size, i.bytes)) = some (some (.string ⟨#[]⟩), 1, 16) := by kernel_rfl
def RGen (c : UInt8) (l : List UInt8) (w : World) (s i : Value) (wr : World) : Prop :=
  ∃ (ds : List (List UInt8)) (r : List UInt8), ds.length + r.count c = l.count c ∧ r.length ≤ l.length ∧ s = .string (bs r) ∧ i = .int .i64 (ds.length : Nat) ∧ splitL c l = ds ++ splitL c r ∧
    wr = w.alloc (.cells (sArr (ds ++ List.replicate (r.count c + 1) [])) 9)
set_option maxHeartbeats 1000000 in
theorem genSplit1_any (c : UInt8) (l : List UInt8) (w : World) (hl : l.length ≤ 1099511627776) :
    Calls Tryz.prog 210 #[.string (bs l), .string (bs [c]), .int .i64 0, .int .i64 (-1)] w fun e w' =>
      e = .returned (.slice (some ⟨w.heap.size, 0, none⟩) (l.count c + 1) (l.count c + 1)) ∧ w' = w.alloc (.cells (sArr (splitL c l)) 9) := by
  have c1 := fun l w => hid (sCount1_any l c w)
  have c2 := fun l w => hid (sIndex1_any l c w)
  have hcl : l.count c ≤ l.length := List.count_le_length
  have hmin : min (l.count c : Int) (l.length : Int) = (l.count c : Int) := by omega
  have hmk : ∀ w, (Instr.makeSlice 63 (.int .i64 ((l.count c : Int) + 1)) (.int .i64 ((l.count c : Int) + 1))).run Tryz.prog w = .ok (.slice (some ⟨w.heap.size, 0, none⟩) (l.count c + 1) (l.count c + 1)) (w.alloc (.cells (sArr (List.replicate (l.count c + 1) [])) 9)) := fun w => make_strs (P := Tryz.prog) 63 9 Tryz.underlying63 infoStr1 (l.count c + 1) (by omega) w
  have hsp : splitL c l = [] ++ splitL c l := rfl
  have Hsp := hid hsp; clear hsp
  generalize hn : l.count c = n at *
  have Hn := hid hn; clear hn
  have c1l := c1 l
  rw [Hn.out] at c1l
  clear c1
  go_enter Tryz.func210, Tryz.ntmps210
  go_wp2_with (go_at_call 130; refine (c1l _).out.mono ?_; rintro e w1 ⟨rfl, rfl⟩)
  have hs1 : IntKind.i64.wrap ((n : Int) + 1 - 1) = (n : Int) := by rw [IntKind.wrap_i64]; omega
  go_loopw [0, 10] (fun s i wr => RGen c l w1 s i wr) (fun _ i _ => n - (intOf i).toNat)
  case atStart => exact ⟨[], l, by simp, by omega, rfl, rfl, Hsp.out, by rw [Hn.out]; rfl⟩
  case round =>
    obtain ⟨ds, r, hcnt, hrl, rfl, rfl, heq, rfl⟩ := hrel
    rw [Hn.out] at hcnt
    have Heq := hid heq; clear heq
    have c2r := c2 r
    rcases idx_cases r c with ⟨h1, h2⟩ | ⟨i, h1, hi, h3, h4⟩
    · have h0 : r.count c = 0 := List.count_eq_zero_of_not_mem h2
      have hs := splitL_none c r h2
      rw [h0] at hcnt ⊢
      have hset : (sArr (ds ++ [[]])).setIfInBounds ds.length (.string (bs r)) = sArr (splitL c l) := by
        have := sArr_set ds 0 r
        rw [Heq.out, hs]; show (sArr (ds ++ [[]])).setIfInBounds ds.length (.string ⟨r.toArray⟩) = _; simpa using this
      have hg : (sArr (ds ++ [[]]))[ds.length]? = some (.string (bs [])) := by rw [sArr_get _ _ (by simp)]; simp [bs]
      clear h1 h2 hs h0 c2 c2r
      have Hset := hid hset; clear hset
      obtain rfl : ds.length = n := by omega
      go_wp2
      go_ret
      refine ⟨rfl, ?_⟩
      rw [Hset.out]
    · have h0 := count_idx c r i h3 h4
      have hs := splitL_idx c r i h3 h4
      rw [h1] at c2r
      have hset := sArr_set ds ((r.drop (i + 1)).count c + 1) (r.take i)
      rw [← h0] at hset
      rw [hs] at Heq
      have Hset := hid hset; have H0 := hid h0
      clear h3 h4 h1 hset hs c2 h0
      have hlt : (ds.length : Int) < (n : Int) := by have := H0.out; omega
      have s1 : IntKind.i64.wrap ((i : Int) + 1) = (i : Int) + 1 := by rw [IntKind.wrap_i64]; omega
      have s2 : (0 : Int) ≤ (i : Int) + 1 := by omega
      have s3 : ((i : Int) + 1).toNat = i + 1 := by omega
      have s4 : (i : Int) + 1 ≤ (r.length : Int) := by omega
      have s5 : (i : Int) ≤ (r.length : Int) := by omega
      have s6 : (ds.length : Int) < (n : Int) + 1 := by omega
      have hg : (sArr (ds ++ List.replicate (r.count c + 1) []))[ds.length]? = some (.string (bs [])) := by
        rw [sArr_get _ _ (by simp)]; simp [bs]
      go_wp2_with (go_at_call 113; refine (c2r _).out.mono ?_; rintro e w1 ⟨rfl, rfl⟩)
      go_roundw
      case rel =>
        refine ⟨ds ++ [r.take i], r.drop (i + 1), by rw [List.length_append, List.length_singleton, Hn.out]; have := H0.out; omega, by simp; omega, rfl, by simp, by rw [Heq.out]; simp, ?_⟩
        rw [← H0.out]; exact congrArg (fun a => w1.alloc (.cells a 9)) Hset.out
      case measure => simp [intOf]; omega
theorem split1_any (c : UInt8) (l : List UInt8) (w : World) (hl : l.length ≤ 1099511627776) :
    Calls Tryz.prog 166 #[.string (bs l), .string (bs [c])] w fun e w' =>
      e = .returned (.slice (some ⟨w.heap.size, 0, none⟩) (splitL c l).length (splitL c l).length) ∧ w' = w.alloc (.cells (sArr (splitL c l)) 9) := by
  have c1 := fun w => hid (genSplit1_any c l w hl)
  rw [splitL_length]
  generalize l.count c = n at *
  generalize splitL c l = ps at *
  go_enter Tryz.func166, Tryz.ntmps166
  go_wp2_with (go_at_call 210; refine (c1 _).out.mono ?_; rintro e w1 ⟨rfl, rfl⟩)
  go_ret
  exact ⟨rfl, rfl⟩
end Go.Proofs.YtejbigoacknfoaaGreatDoor

namespace Go.Proofs.YtejbigoacknfoaaGreatDoor
open Go Go.RowKit
set_option linter.unusedVariables false
set_option linter.unusedSectionVars false
set_option linter.unusedSimpArgs false
set_option maxRecDepth 100000
def hE : Option HR → Nat | none => 1 | some _ => 0
def HErr (o : Option HR) : Value := errV 22 (hE o)
theorem row_cell {r : HR} {g : Nat} {W : World} (h : Blk W g 9 (rowCells r).toArray) (i : Nat) (x : List UInt8) (hx : r.words[i]? = some x) : W.cell? ⟨g, i, none⟩ = some (.string (bs x)) := by
  rw [h.cell i, rowCells, List.getElem?_toArray, List.getElem?_map, hx]; rfl
theorem findH_mem {op : Int} {r : HR} (h : findH op = some r) : r ∈ headRows := List.mem_of_find?_eq_some h
theorem eqnil (W : World) (a : Option Addr) (n c : Nat) : (binOp .eql 63 (.slice a n c) (.slice none 0 0)).run Tryz.prog W = .ok (.bool a.isNone) W := by
  cases a <;> rfl
theorem dec3_len (n : Nat) : (dec3 n).length ≤ 18 := by
  unfold dec3
  split
  · simp
  · split <;> simp
section
variable (op : Int) (h0 : -9223372036854775808 ≤ op) (h1 : op ≤ 9223372036854775807) (w : World) (hT : AS w) (hP : PT w)
include h0 h1 hT hP
theorem hname_any : Calls Tryz.prog 84 #[.int .i64 op] w fun e w' => e = .returned (.tuple #[.string (bs (hName (findH op))), HErr (findH op)]) ∧ Below w.heap.size w w' := by
  have c1 := hid (row_any op h0 h1 w hT hP)
  unfold RowPost at c1
  clear hT hP h0 h1
  cases hf : findH op with
  | none =>
    rw [hf] at c1
    go_enter Tryz.func84, Tryz.ntmps84
    go_wp2_with fail
    refine c1.out.mono ?_
    rintro e w1 ⟨v, rfl, hb, ⟨_, rfl⟩ | ⟨r', g, hr, _⟩⟩
    · have he := eqnil w1
      go_wp2
      go_ret2
      exact ⟨rfl, hb⟩
    · cases hr
  | some r =>
    rw [hf] at c1
    go_enter Tryz.func84, Tryz.ntmps84
    go_wp2_with fail
    refine c1.out.mono ?_
    rintro e w1 ⟨v, rfl, hb, ⟨h, _⟩ | ⟨r', g, hr, rfl, hg, hB⟩⟩
    · cases h
    cases hr
    have he := eqnil w1
    have x1 := row_cell hB 1 r.name rfl
    have hl : 1 < r.words.length := by simp [HR.words]
    go_wp2
    go_ret2
    exact ⟨rfl, hb⟩
theorem hflags_any : Calls Tryz.prog 126 #[.int .i64 op] w fun e w' => e = .returned (.tuple #[.int .i64 (hFlags (findH op) : Nat), HErr (findH op)]) ∧ Below w.heap.size w w' := by
  have c1 := hid (row_any op h0 h1 w hT hP)
  unfold RowPost at c1
  clear hT hP h0 h1
  cases hf : findH op with
  | none =>
    rw [hf] at c1
    go_enter Tryz.func126, Tryz.ntmps126
    go_wp2_with fail
    refine c1.out.mono ?_
    rintro e w1 ⟨v, rfl, hb, ⟨_, rfl⟩ | ⟨r', g, hr, _⟩⟩
    · have he := eqnil w1
      go_wp2
      go_ret2
      exact ⟨rfl, hb⟩
    · cases hr
  | some r =>
    rw [hf] at c1
    have hfl := (head_fine r (findH_mem hf)).2.2.2.1
    have hlt := (head_fine r (findH_mem hf)).2.2.2.2.2.1
    have c2 := fun w => hid (atoi_any (dec3 r.flags) (r.flags : Int) w (dec3_len _) hfl)
    go_enter Tryz.func126, Tryz.ntmps126
    go_wp2_with fail
    refine c1.out.mono ?_
    rintro e w1 ⟨v, rfl, hb, ⟨h, _⟩ | ⟨r', g, hr, rfl, hg, hB⟩⟩
    · cases h
    cases hr
    have he := eqnil w1
    have x1 := row_cell hB 2 (dec3 r.flags) rfl
    have hl : 2 < r.words.length := by simp [HR.words]
    go_wp2_with (go_at_call 167; refine (c2 _).out.mono ?_; rintro e w2 ⟨rfl, hb2⟩)
    go_ret2
    exact ⟨rfl, hb.trans (hb2.mono hb.size)⟩
end
end Go.Proofs.YtejbigoacknfoaaGreatDoor
