/- The document's within, by contract. -/
import Derived.Test.YtdpgchofnglceaaGreatDoorProg
import Derived.Test.YtdpgchofnglceaaGreatDoorBase
import Derived.Test.YtdpgchofnglceaaGreatDoorNumber
import Derived.Test.YtdpgchofnglceaaGreatDoorBlk
namespace Go.Proofs.YtdpgchofnglceaaGreatDoor
open Go.RowKit
set_option linter.unusedVariables false
theorem within_true (n lo hi : Int) (w : World) (h0 : lo ≤ n) (h1 : n ≤ hi) :
    Calls Tryz.prog 55 #[.int .i64 n, .int .i64 lo, .int .i64 hi] w fun e w' => e = .returned (.bool true) ∧ w = w' := by
  have b1 : decide (lo ≤ n) = true := by simpa using h0
  have b2 : decide (n ≤ hi) = true := by simpa using h1
  clear h0 h1
  go_enter Tryz.func55, Tryz.ntmps55
  go_wp2
  go_ret
  exact ⟨rfl, rfl⟩
theorem within_false (n lo hi : Int) (w : World) (h0 : n < lo ∨ hi < n) :
    Calls Tryz.prog 55 #[.int .i64 n, .int .i64 lo, .int .i64 hi] w fun e w' => e = .returned (.bool false) ∧ w = w' := by
  by_cases h : n < lo
  · have b1 : decide (lo ≤ n) = false := by simpa using h
    clear h0 h
    go_enter Tryz.func55, Tryz.ntmps55
    go_wp2
    go_ret
    exact ⟨rfl, rfl⟩
  · have b1 : decide (lo ≤ n) = true := by simp; omega
    have b2 : decide (n ≤ hi) = false := by simp; omega
    clear h0 h
    go_enter Tryz.func55, Tryz.ntmps55
    go_wp2
    go_ret
    exact ⟨rfl, rfl⟩
end Go.Proofs.YtdpgchofnglceaaGreatDoor

namespace Go.Proofs.YtdpgchofnglceaaGreatDoor
open Go Go.RowKit
set_option linter.unusedVariables false
set_option linter.unusedSectionVars false
set_option linter.unusedSimpArgs false
set_option maxRecDepth 100000
section
variable (l : List UInt8) (low high : Int) (w : World) (hl : l.length ≤ 1000000) (h0 : -9223372036854775808 ≤ low) (h1 : low ≤ 9223372036854775807) (g0 : -9223372036854775808 ≤ high) (g1 : high ≤ 9223372036854775807)
include hl h0 h1 g0 g1
theorem knumeral_any (hev : EV w) : Calls Tryz.prog 75 #[.string (bs l), .int .i64 low, .int .i64 high] w fun e w' => e = .returned (.tuple #[.int .i64 (numeP l low high).1, errV 22 (numeP l low high).2]) ∧ Below w.heap.size w w' := by
  have c := hid (knumber_any l w hl hev)
  unfold NumPost at c
  clear hev
  cases hn : numL l with
  | none =>
    have hp : numeP l low high = (0, 3) := by unfold numeP; rw [hn]
    rw [hp]
    rw [hn] at c
    clear hp hn
    go_enter Tryz.func75, Tryz.ntmps75
    go_wp2_with fail
    refine c.out.mono ?_
    rintro e w1 ⟨n, rfl, _, hb⟩
    go_wp2
    go_ret2
    exact ⟨rfl, hb⟩
  | some x =>
    have hle := numL_le l x hn
    rw [hn] at c
    by_cases hr : (x : Int) < low ∨ high < (x : Int)
    · have hp : numeP l low high = (0, 2) := by unfold numeP; rw [hn]; exact if_pos hr
      rw [hp]
      clear hp hn
      by_cases hr1 : (x : Int) < low
      · go_enter Tryz.func75, Tryz.ntmps75
        go_wp2_with fail
        refine c.out.mono ?_
        rintro e w1 ⟨n, rfl, hnx, hb⟩
        obtain rfl := hnx x rfl
        clear hr hnx
        go_wp2
        go_ret2
        exact ⟨rfl, hb⟩
      · have hr2 : high < (x : Int) := by rcases hr with h | h <;> omega
        go_enter Tryz.func75, Tryz.ntmps75
        go_wp2_with fail
        refine c.out.mono ?_
        rintro e w1 ⟨n, rfl, hnx, hb⟩
        obtain rfl := hnx x rfl
        clear hr hnx
        go_wp2
        go_ret2
        exact ⟨rfl, hb⟩
    · have hp : numeP l low high = ((x : Int), 0) := by unfold numeP; rw [hn]; exact if_neg hr
      rw [hp]
      have hr1 : low ≤ (x : Int) := by omega
      have hr2 : (x : Int) ≤ high := by omega
      clear hp hn
      go_enter Tryz.func75, Tryz.ntmps75
      go_wp2_with fail
      refine c.out.mono ?_
      rintro e w1 ⟨n, rfl, hnx, hb⟩
      obtain rfl := hnx x rfl
      clear hr hnx
      go_wp2
      go_ret2
      exact ⟨rfl, hb⟩
theorem rnumerals_any : Calls Tryz.prog 76 #[.string (bs l), .int .i64 low, .int .i64 high] w fun e w' => e = .returned (.tuple #[.int .i64 (numeP l low high).1, .int .i64 ((numeP l low high).2 : Nat)]) ∧ Below w.heap.size w w' := by
  have c := hid (rnumeral_any l w hl)
  cases hn : numL l with
  | none =>
    have hp : numeP l low high = (0, 3) := by unfold numeP; rw [hn]
    rw [hp]
    rw [hn] at c
    simp only [numI] at c
    clear hp hn
    go_enter Tryz.func76, Tryz.ntmps76
    go_wp2_with fail
    refine c.out.mono ?_
    rintro e w1 ⟨rfl, hb⟩
    go_wp2
    go_ret2
    exact ⟨rfl, hb⟩
  | some x =>
    have hle := numL_le l x hn
    rw [hn] at c
    simp only [numI] at c
    by_cases hr : (x : Int) < low ∨ high < (x : Int)
    · have hp : numeP l low high = (0, 2) := by unfold numeP; rw [hn]; exact if_pos hr
      rw [hp]
      have cw := fun w => hid (within_false (x : Int) low high w (by omega))
      clear hp hn
      go_enter Tryz.func76, Tryz.ntmps76
      go_wp2_with fail
      refine c.out.mono ?_
      rintro e w1 ⟨rfl, hb⟩
      go_wp2_with fail
      refine (cw _).out.mono ?_
      rintro e w2 ⟨rfl, rfl⟩
      go_wp2
      go_ret2
      exact ⟨rfl, hb⟩
    · have hp : numeP l low high = ((x : Int), 0) := by unfold numeP; rw [hn]; exact if_neg hr
      rw [hp]
      have cw := fun w => hid (within_true (x : Int) low high w (by omega) (by omega))
      clear hp hn
      go_enter Tryz.func76, Tryz.ntmps76
      go_wp2_with fail
      refine c.out.mono ?_
      rintro e w1 ⟨rfl, hb⟩
      go_wp2_with fail
      refine (cw _).out.mono ?_
      rintro e w2 ⟨rfl, rfl⟩
      go_wp2
      go_ret2
      exact ⟨rfl, hb⟩
end
end Go.Proofs.YtdpgchofnglceaaGreatDoor

namespace Go.Proofs.YtdpgchofnglceaaGreatDoor
open Go.RowKit
set_option linter.unusedVariables false
set_option maxRecDepth 100000
theorem infoStr1 : (Tryz.prog.info? 9).map (fun i => (i.zero, i.size, i.bytes)) = some (some (.string ⟨#[]⟩), 1, 16) := by kernel_rfl
def RGen (c : UInt8) (l : List UInt8) (w : World) (s i : Value) (wr : World) : Prop :=
  ∃ (ds : List (List UInt8)) (r : List UInt8), ds.length + r.count c = l.count c ∧ r.length ≤ l.length ∧ s = .string (bs r) ∧ i = .int .i64 (ds.length : Nat) ∧ splitL c l = ds ++ splitL c r ∧
    wr = w.alloc (.cells (sArr (ds ++ List.replicate (r.count c + 1) [])) 9)
set_option maxHeartbeats 1000000 in
theorem genSplit1_any (c : UInt8) (l : List UInt8) (w : World) (hl : l.length ≤ 1099511627776) :
    Calls Tryz.prog 114 #[.string (bs l), .string (bs [c]), .int .i64 0, .int .i64 (-1)] w fun e w' =>
      e = .returned (.slice (some ⟨w.heap.size, 0, none⟩) (l.count c + 1) (l.count c + 1)) ∧ w' = w.alloc (.cells (sArr (splitL c l)) 9) := by
  have c1 := fun l w => hid (sCount1_any l c w)
  have c2 := fun l w => hid (sIndex1_any l c w)
  have hcl : l.count c ≤ l.length := List.count_le_length
  have hmin : min (l.count c : Int) (l.length : Int) = (l.count c : Int) := by omega
  have hmk : ∀ w, (Instr.makeSlice 85 (.int .i64 ((l.count c : Int) + 1)) (.int .i64 ((l.count c : Int) + 1))).run Tryz.prog w = .ok (.slice (some ⟨w.heap.size, 0, none⟩) (l.count c + 1) (l.count c + 1)) (w.alloc (.cells (sArr (List.replicate (l.count c + 1) [])) 9)) := fun w => make_strs (P := Tryz.prog) 85 9 Tryz.underlying85 infoStr1 (l.count c + 1) (by omega) w
  have hsp : splitL c l = [] ++ splitL c l := rfl
  have Hsp := hid hsp; clear hsp
  generalize hn : l.count c = n at *
  have Hn := hid hn; clear hn
  have c1l := c1 l
  rw [Hn.out] at c1l
  clear c1
  go_enter Tryz.func114, Tryz.ntmps114
  go_wp2_with (go_at_call 149; refine (c1l _).out.mono ?_; rintro e w1 ⟨rfl, rfl⟩)
  have hs1 : IntKind.i64.wrap ((n : Int) + 1 - 1) = (n : Int) := by rw [IntKind.wrap_i64]; omega
  go_loopw [0, 10] (fun s i wr => RGen c l w1 s i wr) (fun _ i _ => n - (intOf i).toNat)
  case atStart => exact ⟨[], l, by simp, by omega, rfl, rfl, Hsp.out, by rw [Hn.out]; rfl⟩
  case round =>
    obtain ⟨ds, r, hcnt, hrl, rfl, rfl, heq, rfl⟩ := hrel
    rw [Hn.out] at hcnt
    have Heq := hid heq; clear heq
    have c2r := c2 r
    rcases idx_cases r c with ⟨h1, h2⟩ | ⟨i, h1, hi, h3, h4⟩
    · have h0 : r.count c = 0 := List.count_eq_zero_of_not_mem h2
      have hs := splitL_none c r h2
      rw [h0] at hcnt ⊢
      have hset : (sArr (ds ++ [[]])).setIfInBounds ds.length (.string (bs r)) = sArr (splitL c l) := by
        have := sArr_set ds 0 r
        rw [Heq.out, hs]; show (sArr (ds ++ [[]])).setIfInBounds ds.length (.string ⟨r.toArray⟩) = _; simpa using this
      have hg : (sArr (ds ++ [[]]))[ds.length]? = some (.string (bs [])) := by rw [sArr_get _ _ (by simp)]; simp [bs]
      clear h1 h2 hs h0 c2 c2r
      have Hset := hid hset; clear hset
      obtain rfl : ds.length = n := by omega
      go_wp2
      go_ret
      refine ⟨rfl, ?_⟩
      rw [Hset.out]
    · have h0 := count_idx c r i h3 h4
      have hs := splitL_idx c r i h3 h4
      rw [h1] at c2r
      have hset := sArr_set ds ((r.drop (i + 1)).count c + 1) (r.take i)
      rw [← h0] at hset
      rw [hs] at Heq
      have Hset := hid hset; have H0 := hid h0
      clear h3 h4 h1 hset hs c2 h0
      have hlt : (ds.length : Int) < (n : Int) := by have := H0.out; omega
      have s1 : IntKind.i64.wrap ((i : Int) + 1) = (i : Int) + 1 := by rw [IntKind.wrap_i64]; omega
      have s2 : (0 : Int) ≤ (i : Int) + 1 := by omega
      have s3 : ((i : Int) + 1).toNat = i + 1 := by omega
      have s4 : (i : Int) + 1 ≤ (r.length : Int) := by omega
      have s5 : (i : Int) ≤ (r.length : Int) := by omega
      have s6 : (ds.length : Int) < (n : Int) + 1 := by omega
      have hg : (sArr (ds ++ List.replicate (r.count c + 1) []))[ds.length]? = some (.string (bs [])) := by
        rw [sArr_get _ _ (by simp)]; simp [bs]
      go_wp2_with (go_at_call 94; refine (c2r _).out.mono ?_; rintro e w1 ⟨rfl, rfl⟩)
      go_roundw
      case rel =>
        refine ⟨ds ++ [r.take i], r.drop (i + 1), by rw [List.length_append, List.length_singleton, Hn.out]; have := H0.out; omega, by simp; omega, rfl, by simp, by rw [Heq.out]; simp, ?_⟩
        rw [← H0.out]; exact congrArg (fun a => w1.alloc (.cells a 9)) Hset.out
      case measure => simp [intOf]; omega
theorem split1_any (c : UInt8) (l : List UInt8) (w : World) (hl : l.length ≤ 1099511627776) :
    Calls Tryz.prog 70 #[.string (bs l), .string (bs [c])] w fun e w' =>
      e = .returned (.slice (some ⟨w.heap.size, 0, none⟩) (splitL c l).length (splitL c l).length) ∧ w' = w.alloc (.cells (sArr (splitL c l)) 9) := by
  have c1 := fun w => hid (genSplit1_any c l w hl)
  rw [splitL_length]
  generalize l.count c = n at *
  generalize splitL c l = ps at *
  go_enter Tryz.func70, Tryz.ntmps70
  go_wp2_with (go_at_call 114; refine (c1 _).out.mono ?_; rintro e w1 ⟨rfl, rfl⟩)
  go_ret
  exact ⟨rfl, rfl⟩
end Go.Proofs.YtdpgchofnglceaaGreatDoor
