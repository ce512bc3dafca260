/- The PDU that bytes begin with: plain laws. -/
import Derived.Test.YtfeenkofnbefaaaGreatDoorHeadRdPure
import Derived.Test.YtfeenkofnbefaaaGreatDoorAhs
import Derived.Test.YtfeenkofnbefaaaGreatDoorAhsW
import Derived.Test.YtfeenkofnbefaaaGreatDoorProg
import Derived.Test.YtfeenkofnbefaaaGreatDoorBlk
import Derived.Test.YtfeenkofnbefaaaGreatDoorErr
set_option linter.unusedSectionVars false
set_option linter.unusedSimpArgs false
set_option linter.unusedVariables false
namespace Go.Proofs.YtfeenkofnbefaaaGreatDoor
open Go Go.RowKit
set_option linter.unusedVariables false
def dN (s : List UInt8) : Nat := num ((s.drop 5).take 3)
def wN (s : List UInt8) : Nat := (s.getD 4 0).toNat
/-- how many bytes the PDU has -/
def allN (s : List UInt8) (h1 h2 : Bool) : Nat := 48 + 4 * wN s + dN s + padN (dN s) + (if h1 then 4 else 0) + (if h2 && decide (0 < dN s) then 4 else 0)
def sizeP (s : List UInt8) (mode : Int) : Nat × Nat :=
  if mode < 0 ∨ 3 < mode then (0, 1) else if s.length < 48 then (0, 7) else (allN s (mode % 2 == 1) (mode / 2 == 1), 0)
theorem dN_lt (s : List UInt8) : dN s < 16777216 := by
  have h1 := num_lt ((s.drop 5).take 3)
  have h2 : ((s.drop 5).take 3).length ≤ 3 := by simp; omega
  have h3 := Nat.pow_le_pow_right (n := 256) (by omega) h2
  unfold dN; omega
theorem wN_lt (s : List UInt8) : wN s < 256 := (s.getD 4 0).toNat_lt
def endN (s : List UInt8) : Nat := 48 + 4 * wN s
/-- what comes behind the additional headers -/
def restL (s : List UInt8) (h1 h2 : Bool) : List UInt8 := (s.take (allN s h1 h2)).drop (endN s + if h1 then 4 else 0)
structure RdP where
  e : Nat
  op : Int
  now : Bool
  flags : Int
  vals : List Nat
  ahs : List (Nat × List UInt8)
  data : List UInt8
  all : Int
def rdNo (e : Nat) : RdP := ⟨e, 0, false, 0, [], [], [], 0⟩
def ahsOf (s : List UInt8) : List (Nat × List UInt8) × Nat × Int := ahsP (((s.take (endN s)).drop 48).length + 1) ((s.take (endN s)).drop 48) 0
/-- what reading tells, the size being right -/
def readPa (s : List UInt8) (h1 h2 : Bool) : RdP :=
  if h1 && !(digL (s.take (endN s)) == (s.drop (endN s)).take 4) then rdNo 15 else
  if (readH (s.take 48)).e ≠ 0 then rdNo (readH (s.take 48)).e else
  if (ahsOf s).2.1 ≠ 0 then rdNo (ahsOf s).2.1 else
  if unpadE (restL s h1 h2) (dN s : Nat) ≠ 0 then rdNo (unpadE (restL s h1 h2) (dN s : Nat)) else
  if (h2 && decide (0 < dN s)) && !(digL ((restL s h1 h2).take (dN s + padN (dN s))) == (restL s h1 h2).drop (dN s + padN (dN s))) then rdNo 13 else
  if 100000 < dN s then rdNo 4 else
  ⟨0, (readH (s.take 48)).op, (readH (s.take 48)).now, (readH (s.take 48)).flags, (readH (s.take 48)).vals, (ahsOf s).1, (restL s h1 h2).take (dN s), (allN s h1 h2 : Nat)⟩
def readP (s : List UInt8) (mode : Int) : RdP :=
  if (sizeP s mode).2 ≠ 0 then rdNo (sizeP s mode).2 else if s.length < allN s (mode % 2 == 1) (mode / 2 == 1) then rdNo 7 else readPa s (mode % 2 == 1) (mode / 2 == 1)
theorem read_data (s : List UInt8) (hs : 48 ≤ s.length) (h : (readH (s.take 48)).e = 0) : (readH (s.take 48)).data = (dN s : Nat) := by
  have hl : (s.take 48).length = 48 := by simp; omega
  have hd : hData (s.take 48) = (dN s : Nat) := by
    unfold hData dN
    rw [List.drop_take, List.take_take]; rfl
  unfold readH at h ⊢
  split at h
  · cases h
  · rename_i h48
    rw [if_neg h48]
    split at h
    · cases h
    · rename_i h0
      rw [if_neg h0]
      cases hf : findH (hOp (s.take 48)) with
      | none => rw [hf] at h; cases h
      | some r =>
        rw [hf] at h
        simp only [readO] at h ⊢
        split at h
        · cases h
        · rename_i h1
          rw [if_neg h1]
          split at h
          · cases h
          · rename_i h2
            rw [if_neg h2]
            exact hd
end Go.Proofs.YtfeenkofnbefaaaGreatDoor

namespace Go.Proofs.YtfeenkofnbefaaaGreatDoor
open Go Go.RowKit
set_option linter.unusedVariables false
/-- what is next: what is kept then, the error kept, whether there is one, the error told, what is spoilt, the PDU -/
structure FdR where
  kept : List UInt8
  bad : Nat
  ok : Bool
  e : Nat
  spoilt : List UInt8
  pdu : RdP
def feedP (all : List UInt8) (limit : Nat) (mode : Int) (bad : Nat) : FdR :=
  if bad ≠ 0 ∨ all.length < 48 then ⟨all, bad, false, 0, [], rdNo 0⟩ else
  if limit < dN all then ⟨[], 4, false, 4, [], rdNo 0⟩ else
  if all.length < (sizeP all mode).1 then ⟨all, 0, false, 0, [], rdNo 0⟩ else
  if (readP (all.take (sizeP all mode).1) mode).e = 13 then ⟨all.drop (sizeP all mode).1, 0, true, 0, all.take 48, rdNo 0⟩ else
  if (readP (all.take (sizeP all mode).1) mode).e ≠ 0 then ⟨[], (readP (all.take (sizeP all mode).1) mode).e, false, (readP (all.take (sizeP all mode).1) mode).e, [], rdNo 0⟩ else
  ⟨all.drop (sizeP all mode).1, 0, true, 0, [], readP (all.take (sizeP all mode).1) mode⟩
theorem feedP_len (all : List UInt8) (limit : Nat) (mode : Int) (bad : Nat) : (feedP all limit mode bad).kept.length ≤ all.length := by
  unfold feedP
  repeat' split
  all_goals simp
theorem feedP_ok (all : List UInt8) (limit : Nat) (mode : Int) (bad : Nat) (hm : 0 ≤ mode ∧ mode ≤ 3) (h : (feedP all limit mode bad).ok = true) : (feedP all limit mode bad).kept.length + 48 ≤ all.length ∧ (feedP all limit mode bad).bad = 0 ∧ (feedP all limit mode bad).e = 0 := by
  have hs : 48 ≤ all.length → 48 ≤ (sizeP all mode).1 := by
    intro hl
    unfold sizeP
    rw [if_neg (by omega), if_neg (by omega)]
    unfold allN
    simp only; omega
  unfold feedP at h ⊢
  split at h
  · cases h
  · split at h
    · cases h
    · split at h
      · cases h
      · rename_i h1 h2 h3
        have := hs (by omega)
        rw [if_neg h1, if_neg h2, if_neg h3]
        split at h
        · rename_i h4; rw [if_pos h4]; simp; omega
        · rename_i h4
          rw [if_neg h4]
          split at h
          · cases h
          · rename_i h5; rw [if_neg h5]; simp; omega
theorem feedP_e (all : List UInt8) (limit : Nat) (mode : Int) (bad : Nat) : (feedP all limit mode bad).e ≠ 0 → (feedP all limit mode bad).bad = (feedP all limit mode bad).e := by
  unfold feedP
  repeat' split
  all_goals simp
end Go.Proofs.YtfeenkofnbefaaaGreatDoor

namespace Go.Proofs.YtfeenkofnbefaaaGreatDoor
open Go Go.RowKit
set_option linter.unusedVariables false
set_option linter.unusedSectionVars false
set_option linter.unusedSimpArgs false
set_option maxRecDepth 100000
/-- block g is a feed -/
def FeedB (w : World) (g : Nat) (kept : List UInt8) (limit : Nat) (mode : Int) (bad : Nat) : Prop :=
  Blk w g 119 #[.string (bs kept), .int .i64 (limit : Int), .int .i64 mode, errV 31 bad]
theorem grownF {w w' : World} {g : Nat} (h : w.grownBy w' (some g)) (i : Nat) (v : Value) : w.grownBy (w'.setCell ⟨g, i, none⟩ v) (some g) :=
  ⟨h.os, h.tape, h.output, by simpa [World.setCell] using h.size, fun k hk hne => (Below.heap_setCell w' ⟨g, i, none⟩ v k (by intro e; apply hne; simp [e])).trans (h.block k hk hne)⟩
theorem grownR (w : World) (r : Option Nat) : w.grownBy w r := ⟨rfl, rfl, rfl, Nat.le_refl _, fun _ _ _ => rfl⟩
theorem fnew_good (n : Nat) (w : World) (h : n ≤ 100000) : Calls Tryz.prog 7 #[.int .i64 (n : Int)] w fun e w' => e = .returned (.tuple #[.pointer (some ⟨w.heap.size, 0, none⟩), .nilIface]) ∧ FeedB w' w.heap.size [] n 0 0 ∧ w.grownBy w' none := by
  have h1 : (n : Int) ≤ 100000 := by omega
  go_enter Tryz.func7, Tryz.ntmps7
  go_wp2
  go_ret2
  exact ⟨rfl, Blk.new _ _ _, World.grownBy_alloc _ _ _⟩
theorem fnew_bad (n : Int) (w : World) (h : n < 0 ∨ 100000 < n) : Calls Tryz.prog 7 #[.int .i64 n] w fun e w' => e = .returned (.tuple #[.pointer none, errV 31 2]) ∧ w = w' := by
  by_cases h0 : n < 0
  · clear h
    go_enter Tryz.func7, Tryz.ntmps7
    go_wp2
    go_ret2
    exact ⟨rfl, rfl⟩
  · have h1 : 100000 < n := by omega
    clear h
    go_enter Tryz.func7, Tryz.ntmps7
    go_wp2
    go_ret2
    exact ⟨rfl, rfl⟩
section
variable (g : Nat) (kept : List UInt8) (limit : Nat) (mode : Int) (bad : Nat) (w : World) (hB : FeedB w g kept limit mode bad)
include hB
theorem fkept_any (hl : kept.length ≤ 1000000) : Calls Tryz.prog 16 #[.pointer (some ⟨g, 0, none⟩)] w fun e w' => e = .returned (.int .i64 (kept.length : Int)) ∧ w = w' := by
  have c0 := (Blk.cell hB 0).trans (rfl : _ = some (Value.string (bs kept)))
  clear hB
  go_enter Tryz.func16, Tryz.ntmps16
  go_wp2
  go_ret
  exact ⟨rfl, rfl⟩
theorem fput_any (s : List UInt8) (hl : kept.length + s.length ≤ 1000000) : Calls Tryz.prog 11 #[.pointer (some ⟨g, 0, none⟩), .string (bs s)] w fun e w' => e = .returned (errV 31 (if bad = 0 then 0 else 6)) ∧ FeedB w' g (if bad = 0 then kept ++ s else kept) limit mode bad ∧ w.grownBy w' (some g) := by
  have c0 := (Blk.cell hB 0).trans (rfl : _ = some (Value.string (bs kept)))
  have c3 := (Blk.cell hB 3).trans (rfl : _ = some (errV 31 bad))
  have f0 := Blk.free hB 0
  by_cases hb : bad = 0
  · subst hb
    rw [errV_zero] at c3
    have H := hid hB; clear hB
    simp only [if_true]
    go_enter Tryz.func11, Tryz.ntmps11
    go_wp2
    go_ret
    exact ⟨rfl, H.out.set 0 _, grownF (grownR w _) 0 _⟩
  · rw [errV_pos _ _ (by omega)] at c3
    have H := hid hB; clear hB
    simp only [if_neg hb]
    go_enter Tryz.func11, Tryz.ntmps11
    go_wp2
    go_ret
    exact ⟨rfl, H.out, grownR w _⟩
def modeE (bad : Nat) (n : Int) : Nat := if n < 0 ∨ 3 < n then 1 else if bad = 0 then 0 else 6
theorem fmode_any (n : Int) (n0 : -9223372036854775808 ≤ n) (n1 : n ≤ 9223372036854775807) : Calls Tryz.prog 12 #[.pointer (some ⟨g, 0, none⟩), .int .i64 n] w fun e w' => e = .returned (errV 31 (modeE bad n)) ∧ FeedB w' g kept limit (if modeE bad n = 0 then n else mode) bad ∧ w.grownBy w' (some g) := by
  have c2 := (Blk.cell hB 2).trans (rfl : _ = some (Value.int .i64 mode))
  have c3 := (Blk.cell hB 3).trans (rfl : _ = some (errV 31 bad))
  have f2 := Blk.free hB 2
  have H := hid hB; clear hB
  by_cases h1 : n < 0
  · have he : modeE bad n = 1 := by unfold modeE; rw [if_pos (.inl h1)]
    rw [he]
    clear he
    go_enter Tryz.func12, Tryz.ntmps12
    go_wp2
    go_ret
    exact ⟨rfl, H.out, grownR w _⟩
  by_cases h2 : 3 < n
  · have he : modeE bad n = 1 := by unfold modeE; rw [if_pos (.inr h2)]
    have hd : decide (n ≤ 3) = false := decide_eq_false (by omega)
    rw [he]
    clear he
    go_enter Tryz.func12, Tryz.ntmps12
    go_wp2
    go_ret
    exact ⟨rfl, H.out, grownR w _⟩
  have h1' : 0 ≤ n := by omega
  have h2' : n ≤ 3 := by omega
  by_cases hb : bad = 0
  · have he : modeE bad n = 0 := by unfold modeE; rw [if_neg (by omega), if_pos hb]
    rw [he]
    subst hb
    rw [errV_zero] at c3
    clear he h1 h2
    simp only [if_true]
    go_enter Tryz.func12, Tryz.ntmps12
    go_wp2
    go_ret
    exact ⟨rfl, H.out.set 2 _, grownF (grownR w _) 2 _⟩
  · have he : modeE bad n = 6 := by unfold modeE; rw [if_neg (by omega), if_neg hb]
    rw [he]
    rw [errV_pos _ _ (by omega)] at c3
    clear he h1 h2
    go_enter Tryz.func12, Tryz.ntmps12
    go_wp2
    go_ret
    exact ⟨rfl, H.out, grownR w _⟩
end
end Go.Proofs.YtfeenkofnbefaaaGreatDoor

namespace Go.Proofs.YtfeenkofnbefaaaGreatDoor
open Go Go.RowKit
set_option linter.unusedVariables false
set_option linter.unusedSectionVars false
set_option linter.unusedSimpArgs false
set_option maxRecDepth 100000
/-- a piece of a stream -/
def pieceV (op : Int) (now : Bool) (flags : Int) (v a : Value) (d s : List UInt8) : Value := .agg #[.int .i64 op, .bool now, .int .i64 flags, v, a, .string (bs d), .string (bs s)]
theorem ffail_any (g : Nat) (kept : List UInt8) (limit : Nat) (mode : Int) (bad k : Nat) (w : World) (hB : FeedB w g kept limit mode bad) (hk : 0 < k) :
    Calls Tryz.prog 49 #[.pointer (some ⟨g, 0, none⟩), .int .i64 (k : Int)] w fun e w' => e = .returned (.tuple #[pieceV 0 false 0 (.slice none 0 0) (.slice none 0 0) [] [], .bool false, errV 31 k]) ∧ FeedB w' g [] limit mode k ∧ w.grownBy w' (some g) := by
  have hA := (Below.refl w.heap.size w).alloc (Nat.le_refl _) (.cells #[.int .i64 0, .bool false, .int .i64 0, .slice none 0 0, .slice none 0 0, .string ⟨#[]⟩, .string ⟨#[]⟩] 42)
  have hgw : g < w.heap.size := Blk.lt hB
  have c0 := (Blk.cell hB 0).trans (rfl : _ = some (Value.string (bs kept)))
  have c3 := (Blk.cell hB 3).trans (rfl : _ = some (errV 31 bad))
  have f0 := Blk.free hB 0
  have f3 := Blk.free hB 3
  have H := hid hB; clear hB
  have HA := hid hA; clear hA
  rw [errV_pos _ k hk]
  go_enter Tryz.func49, Tryz.ntmps49
  go_wp2
  have T := Blk.new ((w.setCell ⟨g, 3, none⟩ (.iface 31 (.int .i64 (k : Int)))).setCell ⟨g, 0, none⟩ (.string ⟨#[]⟩)) 42 #[.int .i64 0, .bool false, .int .i64 0, .slice none 0 0, .slice none 0 0, .string ⟨#[]⟩, .string ⟨#[]⟩]
  have hsz : ((w.setCell ⟨g, 3, none⟩ (.iface 31 (.int .i64 (k : Int)))).setCell ⟨g, 0, none⟩ (.string ⟨#[]⟩)).heap.size = w.heap.size := by simp [World.setCell]
  have G2 := grownF (grownF (grownR w (some g)) 3 (.iface 31 (.int .i64 (k : Int)))) 0 (.string ⟨#[]⟩)
  have B2 := (Blk.set (Blk.set H.out 3 (.iface 31 (.int .i64 (k : Int)))) 0 (.string ⟨#[]⟩))
  rw [hsz] at T
  have hgl : g < ((w.setCell ⟨g, 3, none⟩ (.iface 31 (.int .i64 (k : Int)))).setCell ⟨g, 0, none⟩ (.string ⟨#[]⟩)).heap.size := by rw [hsz]; exact hgw
  generalize (w.setCell ⟨g, 3, none⟩ (.iface 31 (.int .i64 (k : Int)))).setCell ⟨g, 0, none⟩ (.string ⟨#[]⟩) = W2 at *
  have t0 := (T.cell 0).trans (rfl : _ = some (Value.int .i64 0))
  have t1 := (T.cell 1).trans (rfl : _ = some (Value.bool false))
  have t2 := (T.cell 2).trans (rfl : _ = some (Value.int .i64 0))
  have t3 := (T.cell 3).trans (rfl : _ = some (Value.slice none 0 0))
  have t4 := (T.cell 4).trans (rfl : _ = some (Value.slice none 0 0))
  have t5 := (T.cell 5).trans (rfl : _ = some (Value.string ⟨#[]⟩))
  have t6 := (T.cell 6).trans (rfl : _ = some (Value.string ⟨#[]⟩))
  have hX := World.grownBy_alloc W2 (.cells #[.int .i64 0, .bool false, .int .i64 0, .slice none 0 0, .slice none 0 0, .string ⟨#[]⟩, .string ⟨#[]⟩] 42) (none : Option Nat)
  have B3 : FeedB (W2.alloc (.cells #[.int .i64 0, .bool false, .int .i64 0, .slice none 0 0, .slice none 0 0, .string ⟨#[]⟩, .string ⟨#[]⟩] 42)) g [] limit mode k := by
    have := Blk.below B2 ((Below.refl W2.heap.size W2).alloc (Nat.le_refl _) (.cells #[.int .i64 0, .bool false, .int .i64 0, .slice none 0 0, .slice none 0 0, .string ⟨#[]⟩, .string ⟨#[]⟩] 42))
    unfold FeedB
    rw [errV_pos _ k hk]
    exact this
  have G3 : w.grownBy (W2.alloc (.cells #[.int .i64 0, .bool false, .int .i64 0, .slice none 0 0, .slice none 0 0, .string ⟨#[]⟩, .string ⟨#[]⟩] 42)) (some g) :=
    ⟨G2.os, G2.tape, G2.output, Nat.le_trans G2.size hX.size, fun i hi hne => (hX.block i (Nat.lt_of_lt_of_le hi G2.size) (by simp)).trans (G2.block i hi hne)⟩
  generalize W2.alloc (.cells #[.int .i64 0, .bool false, .int .i64 0, .slice none 0 0, .slice none 0 0, .string ⟨#[]⟩, .string ⟨#[]⟩] 42) = W3 at *
  refine bodyPost_ret (v := .tuple #[pieceV 0 false 0 (.slice none 0 0) (.slice none 0 0) [] [], .bool false, .iface 31 (.int .i64 (k : Int))]) (by simp [results, Tryz.results49, go_sem, pieceV, t0, t1, t2, t3, t4, t5, t6]; rfl) rfl ?_
  exact ⟨rfl, B3, G3⟩
end Go.Proofs.YtfeenkofnbefaaaGreatDoor

namespace Go.Proofs.YtfeenkofnbefaaaGreatDoor
open Go Go.RowKit
set_option linter.unusedVariables false
/-- what is kept, and what is wrong, behind so many -/
def seqP (limit : Nat) (mode : Int) (s : List UInt8 × Nat) : Nat → List UInt8 × Nat
  | 0 => s
  | k + 1 => ((feedP (seqP limit mode s k).1 limit mode (seqP limit mode s k).2).kept, (feedP (seqP limit mode s k).1 limit mode (seqP limit mode s k).2).bad)
/-- the one behind so many -/
def outP (limit : Nat) (mode : Int) (s : List UInt8 × Nat) (k : Nat) : FdR := feedP (seqP limit mode s k).1 limit mode (seqP limit mode s k).2
theorem seqP_succ (limit : Nat) (mode : Int) (s : List UInt8 × Nat) (k : Nat) : seqP limit mode s (k + 1) = ((outP limit mode s k).kept, (outP limit mode s k).bad) := rfl
theorem seqP_len (limit : Nat) (mode : Int) (s : List UInt8 × Nat) (hm : 0 ≤ mode ∧ mode ≤ 3) (k : Nat) (h : ∀ j, j < k → (outP limit mode s j).ok = true) : (seqP limit mode s k).1.length + 48 * k ≤ s.1.length := by
  induction k with
  | zero => simp [seqP]
  | succ k ih =>
    have h1 := ih fun j hj => h j (by omega)
    have h2 := (feedP_ok _ limit mode _ hm (h k (by omega))).1
    rw [seqP_succ]
    simp only [outP] at h2 ⊢
    omega
theorem outP_len (limit : Nat) (mode : Int) (s : List UInt8 × Nat) (k : Nat) : (outP limit mode s k).kept.length ≤ (seqP limit mode s k).1.length := feedP_len _ _ _ _
/-- what is told is bounded -/
theorem feedP_small (all : List UInt8) (limit : Nat) (mode : Int) (bad : Nat) : (feedP all limit mode bad).spoilt.length ≤ 48 := by
  unfold feedP
  repeat' split
  all_goals simp
  all_goals omega
end Go.Proofs.YtfeenkofnbefaaaGreatDoor
