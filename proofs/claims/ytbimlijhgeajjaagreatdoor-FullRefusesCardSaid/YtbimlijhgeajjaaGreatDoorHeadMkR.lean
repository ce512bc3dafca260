/- The head that names and numbers make: by the document. -/
import Derived.Test.YtbimlijhgeajjaaGreatDoorHeadMk
import Derived.Test.YtbimlijhgeajjaaGreatDoorHeadRightR
import Derived.Test.YtbimlijhgeajjaaGreatDoorNegoR
import Derived.Test.YtbimlijhgeajjaaGreatDoorNames
import Derived.Test.YtbimlijhgeajjaaGreatDoorGhost
set_option linter.unusedSectionVars false
set_option linter.unusedSimpArgs false
set_option linter.unusedVariables false
namespace Go.Proofs.YtbimlijhgeajjaaGreatDoor
open Go Go.RowKit
set_option linter.unusedVariables false
set_option linter.unusedSectionVars false
set_option linter.unusedSimpArgs false
set_option maxRecDepth 100000
def MakeRPost (op flags : Int) (R : Nat × Int × List Nat) (w : World) (e : Ending) (w' : World) : Prop :=
  ∃ v, e = .returned (.tuple #[headV (if R.1 = 0 then op else 0) false (if R.1 = 0 then flags else 0) v, faultV R.1 R.2.1]) ∧ Sl w' v 1 R.2.2.length (u64Cells R.2.2) ∧ Below w.heap.size w w'
def RMkR (fs : List FR) (vs : List Nat) (ns : List (List UInt8)) (M : Nat) (w5 : World) (i : Value) (wr : World) : Prop :=
  ∃ (k : Nat) (g : List UInt8 → Nat), k ≤ ns.length ∧ i = .int .i64 (k : Nat) ∧ mkG fs vs ns 0 (fun _ => 0) = mkG fs vs (ns.drop k) k g ∧ (∀ m, g m ≤ 18446744073709551615) ∧ NameM wr M k g ∧ w5.grownBy wr (some M)
def RMiR (fs : List FR) (n : List UInt8) (wo : World) (a i : Value) (wi : World) : Prop :=
  ∃ j : Nat, j ≤ fs.length ∧ i = .int .i64 (j : Nat) ∧ a = .bool (hasN fs n j) ∧ Below wo.heap.size wo wi
def RMv (op flags : Int) (xs : List Nat) (H : Nat) (w w6 : World) (i : Value) (wr : World) : Prop :=
  ∃ (k : Nat) (v : Value), k ≤ xs.length ∧ i = .int .i64 (k : Nat) ∧ Blk wr H 51 (HC op false flags v) ∧ wr.ownsRow w6.heap.size 114 1 v k (u64Cells (xs.take k)) ∧ KeepBut H w6 wr ∧ Below w.heap.size w wr
theorem u64_snoc (xs : List Nat) (k x : Nat) (h : xs[k]? = some x) : u64Cells (xs.take (k + 1)) = u64Cells (xs.take k) ++ [.int .u64 (x : Int)] := by
  obtain ⟨h1, h2⟩ := List.getElem?_eq_some_iff.1 h
  rw [List.take_succ_eq_append_getElem h1, h2, u64Cells, u64Cells, List.map_append]; rfl
theorem KeepBut.grown' {h base : Nat} {W w w' : World} (k : KeepBut h W w) {e : TypeId} {size n : Nat} {v : Value} {xs : List Value} (hown : w.ownsRow base e size v n xs) (hb : W.heap.size ≤ base) (hg : w.grownBy w' v.ownBlock) : KeepBut h W w' :=
  ⟨Nat.le_trans k.size hg.size, fun b h1 h2 => (hg.block b (Nat.lt_of_lt_of_le h1 k.size) (fun e => by have := (hown.lt b e.symm).1; omega)).trans (k.keep b h1 h2)⟩
theorem keep_blk {h : Nat} {W w : World} (k : KeepBut h W w) {b : Nat} {t : TypeId} {cs : Array Value} (B : Blk W b t cs) (hn : b ≠ h) : Blk w b t cs := (k.keep b B.lt hn).trans B
def MkCtx (H : Nat) (ht : TypeId) (hc r1 f1 : Array Value) (base : Nat) (sl : Value) (n : Nat) (cs : List Value) (w : World) (d : Nat → Bool) (W : World) : Prop :=
  Blk W H ht hc ∧ Blk W w.heap.size 51 (if d 2 = true then r1 else #[.int .i64 0, .bool false, .int .i64 0, .slice none 0 0]) ∧ Blk W (w.heap.size + 1) 34 (if d 3 = true then f1 else #[.int .i64 0, .int .i64 0]) ∧ W.ownsRow base 114 1 sl n cs ∧ Below w.heap.size w W
section
variable {H : Nat} {ht : TypeId} {hc r1 f1 : Array Value} {base : Nat} {sl : Value} {n : Nat} {cs : List Value} {w W W' : World} {d : Nat → Bool}
theorem MkCtx.also (h : MkCtx H ht hc r1 f1 base sl n cs w d W) (i : Nat) (h2 : i ≠ 2) (h3 : i ≠ 3) : MkCtx H ht hc r1 f1 base sl n cs w (also d i) W := by
  obtain ⟨a, b, c, e, f⟩ := h
  refine ⟨a, ?_, ?_, e, f⟩
  · rw [show Go.Proofs.YtbimlijhgeajjaaGreatDoor.also d i 2 = d 2 by unfold Go.Proofs.YtbimlijhgeajjaaGreatDoor.also; rw [if_neg h2]]; exact b
  · rw [show Go.Proofs.YtbimlijhgeajjaaGreatDoor.also d i 3 = d 3 by unfold Go.Proofs.YtbimlijhgeajjaaGreatDoor.also; rw [if_neg h3]]; exact c
theorem MkCtx.below (h : MkCtx H ht hc r1 f1 base sl n cs w d W) (hb : Below W.heap.size W W') : MkCtx H ht hc r1 f1 base sl n cs w d W' := by
  obtain ⟨a, b, c, e, f⟩ := h
  exact ⟨a.below hb, b.below hb, c.below hb, owns_below e hb, f.trans (hb.mono f.size)⟩
theorem blk_far {b b' : Nat} {t : TypeId} {cs : Array Value} (h : Blk W b' t cs) (i : Nat) (u : Value) (hn : b' ≠ b) : Blk (W.setCell ⟨b, i, none⟩ u) b' t cs := (Below.heap_setCell W ⟨b, i, none⟩ u b' hn).trans h
theorem MkCtx.res {a0 a1 a2 a3 : Value} (h : MkCtx H ht hc #[a0, a1, a2, a3] f1 base sl n cs w d W) (hd : d 2 = false) (hH : H ≠ w.heap.size) (hbase : w.heap.size < base) :
    MkCtx H ht hc #[a0, a1, a2, a3] f1 base sl n cs w (Go.Proofs.YtbimlijhgeajjaaGreatDoor.also d 2) ((((W.setCell ⟨w.heap.size, 0, none⟩ a0).setCell ⟨w.heap.size, 1, none⟩ a1).setCell ⟨w.heap.size, 2, none⟩ a2).setCell ⟨w.heap.size, 3, none⟩ a3) := by
  obtain ⟨a, b, c, e, f⟩ := h
  rw [if_neg (by rw [hd]; simp)] at b
  have hF : w.heap.size + 1 ≠ w.heap.size := by omega
  refine ⟨blk_far (blk_far (blk_far (blk_far a 0 _ hH) 1 _ hH) 2 _ hH) 3 _ hH, ?_, ?_, owns_set (owns_set (owns_set (owns_set e hbase _) hbase _) hbase _) hbase _, below_setc (below_setc (below_setc (below_setc f (Nat.le_refl _) _ _) (Nat.le_refl _) _ _) (Nat.le_refl _) _ _) (Nat.le_refl _) _ _⟩
  · exact (((b.set 0 _).set 1 _).set 2 _).set 3 _
  · rw [show Go.Proofs.YtbimlijhgeajjaaGreatDoor.also d 2 3 = d 3 from rfl]
    exact blk_far (blk_far (blk_far (blk_far c 0 _ hF) 1 _ hF) 2 _ hF) 3 _ hF
theorem MkCtx.flt {b0 b1 : Value} (h : MkCtx H ht hc r1 #[b0, b1] base sl n cs w d W) (hd : d 3 = false) (hH : H ≠ w.heap.size + 1) (hbase : w.heap.size + 1 < base) :
    MkCtx H ht hc r1 #[b0, b1] base sl n cs w (Go.Proofs.YtbimlijhgeajjaaGreatDoor.also d 3) ((W.setCell ⟨w.heap.size + 1, 0, none⟩ b0).setCell ⟨w.heap.size + 1, 1, none⟩ b1) := by
  obtain ⟨a, b, c, e, f⟩ := h
  rw [if_neg (by rw [hd]; simp)] at c
  have hF : w.heap.size ≠ w.heap.size + 1 := by omega
  refine ⟨blk_far (blk_far a 0 _ hH) 1 _ hH, ?_, ?_, owns_set (owns_set e hbase _) hbase _, below_setc (below_setc f (by omega) _ _) (by omega) _ _⟩
  · rw [show Go.Proofs.YtbimlijhgeajjaaGreatDoor.also d 3 2 = d 2 from rfl]
    exact blk_far (blk_far b 0 _ hF) 1 _ hF
  · exact (c.set 0 _).set 1 _
end
theorem below_ret {w W : World} {a0 a1 a2 a3 a4 a5 : Value} (h : Below w.heap.size w W) :
    Below w.heap.size w ((((((W.setCell ⟨w.heap.size, 0, none⟩ a0).setCell ⟨w.heap.size, 1, none⟩ a1).setCell ⟨w.heap.size, 2, none⟩ a2).setCell ⟨w.heap.size, 3, none⟩ a3).setCell ⟨w.heap.size + 1, 0, none⟩ a4).setCell ⟨w.heap.size + 1, 1, none⟩ a5) :=
  below_setc (below_setc (below_setc (below_setc (below_setc (below_setc h (Nat.le_refl _) _ _) (Nat.le_refl _) _ _) (Nat.le_refl _) _ _) (Nat.le_refl _) _ _) (by omega) _ _) (by omega) _ _
section
variable (op flags : Int) (nv vv : Value) (ns : List (List UInt8)) (vs : List Nat) (w : World) (h0 : -9223372036854775808 ≤ op) (h1 : op ≤ 9223372036854775807) (g0 : -9223372036854775808 ≤ flags) (g1 : flags ≤ 9223372036854775807)
  (hn : ns.length ≤ 60) (hm : vs.length ≤ 60) (hv : ∀ x ∈ vs, x ≤ 18446744073709551615) (hnl : ∀ s ∈ ns, s.length ≤ 9223372036854775807) (hns : Sl w nv 1 ns.length (strCells ns)) (hvs : Sl w vv 1 vs.length (u64Cells vs))
include h0 h1 g0 g1 hn hm hv hnl hns hvs
end
end Go.Proofs.YtbimlijhgeajjaaGreatDoor
