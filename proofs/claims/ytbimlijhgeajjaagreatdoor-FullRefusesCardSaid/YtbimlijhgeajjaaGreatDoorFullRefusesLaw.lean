/- Two PDUs that read alike are alike, by the document. -/
import Derived.Test.YtbimlijhgeajjaaGreatDoorSameHead
import Derived.Test.YtbimlijhgeajjaaGreatDoorAhs
import Derived.Deep.QuietTactic
import Derived.BigQuiet
import Derived.Test.YtbimlijhgeajjaaGreatDoorYes
import Derived.Test.YtbimlijhgeajjaaGreatDoorPairKey
set_option linter.unusedSectionVars false
set_option linter.unusedSimpArgs false
set_option linter.unusedVariables false
namespace Go.Proofs.YtbimlijhgeajjaaGreatDoor
open Go Go.RowKit
set_option linter.unusedVariables false
set_option linter.unusedSectionVars false
set_option linter.unusedSimpArgs false
set_option maxRecDepth 100000
theorem blk_offS {W : World} {b b' : Nat} {t : TypeId} {cs : Array Value} (h : Blk W b' t cs) (i : Nat) (u : Value) (hn : b' ≠ b) : Blk (W.setCell ⟨b, i, none⟩ u) b' t cs := (Below.heap_setCell W ⟨b, i, none⟩ u b' hn).trans h
theorem ahsC_length (xs : List (Nat × List UInt8)) : (ahsCells xs).length = xs.length * 2 := by
  induction xs with
  | nil => rfl
  | cons x xs ih => simp only [ahsCells, List.flatMap_cons, List.length_append, List.length_cons, List.length_nil] at ih ⊢; omega
theorem ahsC_at (xs : List (Nat × List UInt8)) (k : Nat) (h : k < xs.length) : (ahsCells xs)[2 * k]? = some (.int .i64 ((xs.getD k (0, [])).1 : Nat)) ∧ (ahsCells xs)[2 * k + 1]? = some (.string (bs (xs.getD k (0, [])).2)) := by
  induction xs generalizing k with
  | nil => simp at h
  | cons x xs ih =>
    cases k with
    | zero => simp [ahsCells]
    | succ k =>
      have := ih k (by simpa using h)
      have e : ahsCells (x :: xs) = .int .i64 (x.1 : Nat) :: .string (bs x.2) :: ahsCells xs := rfl
      rw [e]
      simp only [show 2 * (k + 1) = 2 * k + 1 + 1 by omega, show 2 * k + 1 + 1 + 1 = (2 * k + 1) + 1 + 1 by omega, List.getElem?_cons_succ, List.getD_cons_succ]
      exact this
/-- between the operations that copy two heads: what is done, and what the slots and the blocks hold -/
def SameI (w : World) (p : Nat) (C1 C2 H1 H2 HZ : Array Value) (D : Nat → Bool) (W : World) (x y : Nat) (u5 u6 u9 u10 u11 u12 : Value) : Prop :=
  (Blk W p 54 C1 ∧ Blk W (p + 1) 54 C2 ∧ Below p w W) ∧ ((D 6 = true → D 4 = true) ∧ (D 7 = true → D 5 = true)) ∧
  ((D 0 = true → u9 = .pointer (some ⟨p, 0, none⟩)) ∧ (D 1 = true → u10 = .agg H1) ∧ (D 2 = true → u11 = .pointer (some ⟨p + 1, 0, none⟩)) ∧ (D 3 = true → u12 = .agg H2)) ∧
  (D 4 = true → u5 = .pointer (some ⟨x, 0, none⟩) ∧ p + 1 < x ∧ Blk W x 51 (if D 6 = true then H1 else HZ)) ∧
  (D 5 = true → u6 = .pointer (some ⟨y, 0, none⟩) ∧ p + 1 < y ∧ Blk W y 51 (if D 7 = true then H2 else HZ)) ∧ (D 4 = true → D 5 = true → x ≠ y)
section
variable {w : World} {p : Nat} {C1 C2 H1 H2 HZ : Array Value} {D : Nat → Bool} {W : World} {x y : Nat} {u5 u6 u9 u10 u11 u12 : Value} (h : SameI w p C1 C2 H1 H2 HZ D W x y u5 u6 u9 u10 u11 u12)
include h
theorem SameI.b1 : Blk W p 54 C1 := h.1.1
theorem SameI.b2 : Blk W (p + 1) 54 C2 := h.1.2.1
theorem SameI.bw : Below p w W := h.1.2.2
theorem SameI.s9 (e : D 0 = true) : u9 = .pointer (some ⟨p, 0, none⟩) := h.2.2.1.1 e
theorem SameI.s10 (e : D 1 = true) : u10 = .agg H1 := h.2.2.1.2.1 e
theorem SameI.s11 (e : D 2 = true) : u11 = .pointer (some ⟨p + 1, 0, none⟩) := h.2.2.1.2.2.1 e
theorem SameI.s12 (e : D 3 = true) : u12 = .agg H2 := h.2.2.1.2.2.2 e
theorem SameI.s5 (e : D 4 = true) : u5 = .pointer (some ⟨x, 0, none⟩) := (h.2.2.2.1 e).1
theorem SameI.s6 (e : D 5 = true) : u6 = .pointer (some ⟨y, 0, none⟩) := (h.2.2.2.2.1 e).1
theorem SameI.x5 (e : D 4 = true) (k : D 6 = false) : Blk W x 51 HZ := by
  have := (h.2.2.2.1 e).2.2
  rwa [k, if_neg (by simp)] at this
theorem SameI.y5 (e : D 5 = true) (k : D 7 = false) : Blk W y 51 HZ := by
  have := (h.2.2.2.2.1 e).2.2
  rwa [k, if_neg (by simp)] at this
theorem SameI.x6 (e : D 4 = true) (k : D 6 = true) : p + 1 < x ∧ Blk W x 51 H1 := by
  have := (h.2.2.2.1 e).2
  rwa [k, if_pos rfl] at this
theorem SameI.y6 (e : D 5 = true) (k : D 7 = true) : p + 1 < y ∧ Blk W y 51 H2 := by
  have := (h.2.2.2.2.1 e).2
  rwa [k, if_pos rfl] at this
theorem SameI.op0 : SameI w p C1 C2 H1 H2 HZ (also D 0) W x y u5 u6 (.pointer (some ⟨p, 0, none⟩)) u10 u11 u12 := by
  obtain ⟨h1, h2, ⟨i0, i1, i2, i3⟩, h4, h5, h6⟩ := h
  exact ⟨h1, h2, ⟨fun _ => rfl, i1, i2, i3⟩, h4, h5, h6⟩
theorem SameI.op1 : SameI w p C1 C2 H1 H2 HZ (also D 1) W x y u5 u6 u9 (.agg H1) u11 u12 := by
  obtain ⟨h1, h2, ⟨i0, i1, i2, i3⟩, h4, h5, h6⟩ := h
  exact ⟨h1, h2, ⟨i0, fun _ => rfl, i2, i3⟩, h4, h5, h6⟩
theorem SameI.op2 : SameI w p C1 C2 H1 H2 HZ (also D 2) W x y u5 u6 u9 u10 (.pointer (some ⟨p + 1, 0, none⟩)) u12 := by
  obtain ⟨h1, h2, ⟨i0, i1, i2, i3⟩, h4, h5, h6⟩ := h
  exact ⟨h1, h2, ⟨i0, i1, fun _ => rfl, i3⟩, h4, h5, h6⟩
theorem SameI.op3 : SameI w p C1 C2 H1 H2 HZ (also D 3) W x y u5 u6 u9 u10 u11 (.agg H2) := by
  obtain ⟨h1, h2, ⟨i0, i1, i2, i3⟩, h4, h5, h6⟩ := h
  exact ⟨h1, h2, ⟨i0, i1, i2, fun _ => rfl⟩, h4, h5, h6⟩
theorem SameI.op4 (h4 : D 4 = false) : SameI w p C1 C2 H1 H2 HZ (also D 4) (W.alloc (.cells HZ 51)) W.heap.size y (.pointer (some ⟨W.heap.size, 0, none⟩)) u6 u9 u10 u11 u12 := by
  obtain ⟨⟨p1, p2, hW⟩, ⟨h64, h75⟩, i, -, h5, -⟩ := h
  have h6 : D 6 = false := by
    cases h : D 6
    · rfl
    · rw [h64 h] at h4; cases h4
  have hA := (Below.refl W.heap.size W).alloc (Nat.le_refl _) (.cells HZ 51)
  have l2 := p2.lt
  refine ⟨⟨p1.below hA, p2.below hA, hW.alloc (by omega) _⟩, ⟨fun _ => rfl, h75⟩, i, fun _ => ⟨rfl, l2, ?_⟩, fun h => ?_, fun _ h => ?_⟩
  · have e : also D 4 6 = false := h6
    rw [e]; exact Blk.new W _ _
  · obtain ⟨a, b, c⟩ := h5 h
    exact ⟨a, b, c.below hA⟩
  · obtain ⟨a, b, c⟩ := h5 h
    have := c.lt; omega
theorem SameI.op5 (h5 : D 5 = false) : SameI w p C1 C2 H1 H2 HZ (also D 5) (W.alloc (.cells HZ 51)) x W.heap.size u5 (.pointer (some ⟨W.heap.size, 0, none⟩)) u9 u10 u11 u12 := by
  obtain ⟨⟨p1, p2, hW⟩, ⟨h64, h75⟩, i, h4, -, -⟩ := h
  have h7 : D 7 = false := by
    cases h : D 7
    · rfl
    · rw [h75 h] at h5; cases h5
  have hA := (Below.refl W.heap.size W).alloc (Nat.le_refl _) (.cells HZ 51)
  have l2 := p2.lt
  refine ⟨⟨p1.below hA, p2.below hA, hW.alloc (by omega) _⟩, ⟨h64, fun _ => rfl⟩, i, fun h => ?_, fun _ => ⟨rfl, l2, ?_⟩, fun h _ => ?_⟩
  · obtain ⟨a, b, c⟩ := h4 h
    exact ⟨a, b, c.below hA⟩
  · have e : also D 5 7 = false := h7
    rw [e]; exact Blk.new W _ _
  · obtain ⟨a, b, c⟩ := h4 h
    have := c.lt; omega
end
theorem sameI_op6 {w : World} {p : Nat} {C1 C2 H2 : Array Value} {D : Nat → Bool} {W : World} {x y : Nat} {u5 u6 u9 u10 u11 u12 : Value} {a0 a1 a2 a3 z0 z1 z2 z3 : Value} (h : SameI w p C1 C2 #[a0, a1, a2, a3] H2 #[z0, z1, z2, z3] D W x y u5 u6 u9 u10 u11 u12) (h4 : D 4 = true) (h6 : D 6 = false) :
    SameI w p C1 C2 #[a0, a1, a2, a3] H2 #[z0, z1, z2, z3] (also D 6) ((((W.setCell ⟨x, 0, none⟩ a0).setCell ⟨x, 1, none⟩ a1).setCell ⟨x, 2, none⟩ a2).setCell ⟨x, 3, none⟩ a3) x y u5 u6 u9 u10 u11 u12 := by
  obtain ⟨⟨p1, p2, hW⟩, ⟨h64, h75⟩, i, hx, h5, hxy⟩ := h
  obtain ⟨rfl, hpx, hB⟩ := hx h4
  rw [h6, if_neg (by simp)] at hB
  refine ⟨⟨blk_offS (blk_offS (blk_offS (blk_offS p1 0 a0 (by omega)) 1 a1 (by omega)) 2 a2 (by omega)) 3 a3 (by omega), blk_offS (blk_offS (blk_offS (blk_offS p2 0 a0 (by omega)) 1 a1 (by omega)) 2 a2 (by omega)) 3 a3 (by omega), ?_⟩, ⟨fun _ => h4, h75⟩, i, fun _ => ⟨rfl, hpx, ?_⟩, fun h => ?_, hxy⟩
  · iterate 4 refine below_setc ?_ (by omega) _ _
    exact hW
  · exact (((hB.set 0 a0).set 1 a1).set 2 a2).set 3 a3
  · obtain ⟨a, b, c⟩ := h5 h
    have hne := (hxy h4 h).symm
    exact ⟨a, b, blk_offS (blk_offS (blk_offS (blk_offS c 0 a0 hne) 1 a1 hne) 2 a2 hne) 3 a3 hne⟩
theorem sameI_op7 {w : World} {p : Nat} {C1 C2 H1 : Array Value} {D : Nat → Bool} {W : World} {x y : Nat} {u5 u6 u9 u10 u11 u12 : Value} {a0 a1 a2 a3 z0 z1 z2 z3 : Value} (h : SameI w p C1 C2 H1 #[a0, a1, a2, a3] #[z0, z1, z2, z3] D W x y u5 u6 u9 u10 u11 u12) (h5 : D 5 = true) (h7 : D 7 = false) :
    SameI w p C1 C2 H1 #[a0, a1, a2, a3] #[z0, z1, z2, z3] (also D 7) ((((W.setCell ⟨y, 0, none⟩ a0).setCell ⟨y, 1, none⟩ a1).setCell ⟨y, 2, none⟩ a2).setCell ⟨y, 3, none⟩ a3) x y u5 u6 u9 u10 u11 u12 := by
  obtain ⟨⟨p1, p2, hW⟩, ⟨h64, h75⟩, i, h4, hy, hxy⟩ := h
  obtain ⟨rfl, hpy, hB⟩ := hy h5
  rw [h7, if_neg (by simp)] at hB
  refine ⟨⟨blk_offS (blk_offS (blk_offS (blk_offS p1 0 a0 (by omega)) 1 a1 (by omega)) 2 a2 (by omega)) 3 a3 (by omega), blk_offS (blk_offS (blk_offS (blk_offS p2 0 a0 (by omega)) 1 a1 (by omega)) 2 a2 (by omega)) 3 a3 (by omega), ?_⟩, ⟨h64, fun _ => h5⟩, i, fun h => ?_, fun _ => ⟨rfl, hpy, ?_⟩, hxy⟩
  · iterate 4 refine below_setc ?_ (by omega) _ _
    exact hW
  · obtain ⟨a, b, c⟩ := h4 h
    have hne := hxy h h5
    exact ⟨a, b, blk_offS (blk_offS (blk_offS (blk_offS c 0 a0 hne) 1 a1 hne) 2 a2 hne) 3 a3 hne⟩
  · exact (((hB.set 0 a0).set 1 a1).set 2 a2).set 3 a3
set_option maxHeartbeats 4000000 in
theorem same_true (op : Int) (now : Bool) (flags : Int) (v1 v2 a1 a2 : Value) (vs : List Nat) (xs : List (Nat × List UInt8)) (d : List UInt8) (w : World) (hv : vs.length ≤ 1000000) (ha : xs.length ≤ 1000000) (h1 : Sl w v1 1 vs.length (u64Cells vs)) (h2 : Sl w v2 1 vs.length (u64Cells vs)) (k1 : Sl w a1 2 xs.length (ahsCells xs)) (k2 : Sl w a2 2 xs.length (ahsCells xs)) :
    Calls Tryz.prog 14 #[pduV op now flags v1 a1 d, pduV op now flags v2 a2 d] w fun e w' => e = .returned (.bool true) ∧ Below w.heap.size w w' := by
  have hmx : Tryz.prog.follows .mixedOrders = true := by kernel_rfl
  have H1 := hid h1; have H2 := hid h2; have K1 := hid k1; have K2 := hid k2
  obtain ⟨b1, c1, rfl, _⟩ := h1
  obtain ⟨b2, c2, rfl, _⟩ := h2
  obtain ⟨e1, f1, rfl, _⟩ := k1
  obtain ⟨e2, f2, rfl, _⟩ := k2
  unfold pduV
  go_enter Tryz.func14, Tryz.ntmps14
  go_wp2_with fail
  have P1 := (Blk.new w 54 #[.int .i64 op, .bool now, .int .i64 flags, .slice b1 vs.length c1, .slice e1 xs.length f1, .string (bs d)])
  have hw1 := (Below.refl w.heap.size w).alloc (Nat.le_refl _) (.cells #[.int .i64 op, .bool now, .int .i64 flags, .slice b1 vs.length c1, .slice e1 xs.length f1, .string (bs d)] 54)
  have hs1 : (w.alloc (.cells #[.int .i64 op, .bool now, .int .i64 flags, .slice b1 vs.length c1, .slice e1 xs.length f1, .string (bs d)] 54)).heap.size = w.heap.size + 1 := by simp
  generalize w.alloc (.cells #[.int .i64 op, .bool now, .int .i64 flags, .slice b1 vs.length c1, .slice e1 xs.length f1, .string (bs d)] 54) = w1 at *
  have P2 := (Blk.new w1 54 #[.int .i64 op, .bool now, .int .i64 flags, .slice b2 vs.length c2, .slice e2 xs.length f2, .string (bs d)])
  have hw2 := (Below.refl w1.heap.size w1).alloc (Nat.le_refl _) (.cells #[.int .i64 op, .bool now, .int .i64 flags, .slice b2 vs.length c2, .slice e2 xs.length f2, .string (bs d)] 54)
  have P1 := P1.below hw2
  have hw2 := hw1.trans (hw2.mono hw1.size)
  rw [hs1] at P2
  generalize w1.alloc (.cells #[.int .i64 op, .bool now, .int .i64 flags, .slice b2 vs.length c2, .slice e2 xs.length f2, .string (bs d)] 54) = w2 at *
  clear hs1 hw1
  have hp2 := P2.lt
  refine wpIn_wide (n := 4).1 ?_
  refine region_open (fun A0 D A W => ∃ (x y : Nat) (u5 u6 u9 u10 u11 u12 : Value), A = putAll A0 [(5, u5), (6, u6), (9, u9), (10, u10), (11, u11), (12, u12)] ∧ SameI w w.heap.size #[.int .i64 op, .bool now, .int .i64 flags, .slice b1 vs.length c1, .slice e1 xs.length f1, .string (bs d)] #[.int .i64 op, .bool now, .int .i64 flags, .slice b2 vs.length c2, .slice e2 xs.length f2, .string (bs d)] #[.int .i64 op, .bool now, .int .i64 flags, .slice b1 vs.length c1] #[.int .i64 op, .bool now, .int .i64 flags, .slice b2 vs.length c2] #[.int .i64 0, .bool false, .int .i64 0, .slice none 0 0] D W x y u5 u6 u9 u10 u11 u12) hmx (by kernel_rfl) ⟨0, 0, undef, undef, undef, undef, undef, undef, ?_, ⟨P1, P2, hw2.drew⟩, by simp, by simp, by simp, by simp, by simp⟩ ?_ ?_
  · simp only [putAll, List.foldl_cons, List.foldl_nil, List.setIfInBounds_toArray, List.set_cons_zero, List.set_cons_succ]
  · refine ⟨?_, ?_, ?_, ?_, ?_, ?_, ?_, ?_, trivial⟩
    all_goals
      rintro D A W ⟨x, y, u5, u6, u9, u10, u11, u12, rfl, hI⟩ hD hdep
      refine ⟨by simp [go_sem, Oper.about], ?_⟩
    · simp [putAll, OpStep, go_sem]
      exact ⟨x, y, _, _, _, _, _, _, ⟨rfl, rfl, rfl, rfl, rfl, rfl⟩, hI.op0⟩
    · have h0 : D 0 = true := by
        simp [Region.binds] at hdep
        simp [hdep]
      have e := hI.s9 h0
      subst e
      have P1 := hI.b1
      have g0 : W.cell? ⟨w.heap.size, 0, none⟩ = some (.int .i64 op) := (P1.cell 0).trans rfl
      have g1 : W.cell? ⟨w.heap.size, 1, none⟩ = some (.bool now) := (P1.cell 1).trans rfl
      have g2 : W.cell? ⟨w.heap.size, 2, none⟩ = some (.int .i64 flags) := (P1.cell 2).trans rfl
      have g3 : W.cell? ⟨w.heap.size, 3, none⟩ = some (.slice b1 vs.length c1) := (P1.cell 3).trans rfl
      simp [putAll, OpStep, go_sem, g0, g1, g2, g3]
      exact ⟨x, y, _, _, _, _, _, _, ⟨rfl, rfl, rfl, rfl, rfl, rfl⟩, hI.op1⟩
    · simp [putAll, OpStep, go_sem]
      exact ⟨x, y, _, _, _, _, _, _, ⟨rfl, rfl, rfl, rfl, rfl, rfl⟩, hI.op2⟩
    · have h0 : D 2 = true := by
        simp [Region.binds] at hdep
        simp [hdep]
      have e := hI.s11 h0
      subst e
      have P1 := hI.b2
      have g0 : W.cell? ⟨w.heap.size + 1, 0, none⟩ = some (.int .i64 op) := (P1.cell 0).trans rfl
      have g1 : W.cell? ⟨w.heap.size + 1, 1, none⟩ = some (.bool now) := (P1.cell 1).trans rfl
      have g2 : W.cell? ⟨w.heap.size + 1, 2, none⟩ = some (.int .i64 flags) := (P1.cell 2).trans rfl
      have g3 : W.cell? ⟨w.heap.size + 1, 3, none⟩ = some (.slice b2 vs.length c2) := (P1.cell 3).trans rfl
      simp [putAll, OpStep, go_sem, g0, g1, g2, g3]
      exact ⟨x, y, _, _, _, _, _, _, ⟨rfl, rfl, rfl, rfl, rfl, rfl⟩, hI.op3⟩
    · simp [putAll, OpStep, go_sem]
      exact ⟨_, y, _, _, _, _, _, _, ⟨rfl, rfl, rfl, rfl, rfl, rfl⟩, hI.op4 hD⟩
    · simp [putAll, OpStep, go_sem]
      exact ⟨x, _, _, _, _, _, _, _, ⟨rfl, rfl, rfl, rfl, rfl, rfl⟩, hI.op5 hD⟩
    · simp [Region.binds] at hdep
      have d1 : D 1 = true := by simp [hdep]
      have d4 : D 4 = true := by simp [hdep]
      clear hdep
      have e := hI.s10 d1
      subst e
      have e := hI.s5 d4
      subst e
      have hB := hI.x5 d4 hD
      have v0 := hB.free 0
      have v1 := hB.free 1
      have v2 := hB.free 2
      have v3 := hB.free 3
      have t0 : W.cell? ⟨x, 0, none⟩ = some (.int .i64 0) := (hB.cell 0).trans rfl
      have t1 : W.cell? ⟨x, 1, none⟩ = some (.bool false) := (hB.cell 1).trans rfl
      have t2 : W.cell? ⟨x, 2, none⟩ = some (.int .i64 0) := (hB.cell 2).trans rfl
      have t3 : W.cell? ⟨x, 3, none⟩ = some (.slice none 0 0) := (hB.cell 3).trans rfl
      simp [putAll, OpStep, go_sem, v0, v1, v2, v3, t0, t1, t2, t3]
      exact ⟨x, y, _, _, _, _, _, _, ⟨rfl, rfl, rfl, rfl, rfl, rfl⟩, sameI_op6 hI d4 hD⟩
    · simp [Region.binds] at hdep
      have d1 : D 3 = true := by simp [hdep]
      have d5 : D 5 = true := by simp [hdep]
      clear hdep
      have e := hI.s12 d1
      subst e
      have e := hI.s6 d5
      subst e
      have hB := hI.y5 d5 hD
      have v0 := hB.free 0
      have v1 := hB.free 1
      have v2 := hB.free 2
      have v3 := hB.free 3
      have t0 : W.cell? ⟨y, 0, none⟩ = some (.int .i64 0) := (hB.cell 0).trans rfl
      have t1 : W.cell? ⟨y, 1, none⟩ = some (.bool false) := (hB.cell 1).trans rfl
      have t2 : W.cell? ⟨y, 2, none⟩ = some (.int .i64 0) := (hB.cell 2).trans rfl
      have t3 : W.cell? ⟨y, 3, none⟩ = some (.slice none 0 0) := (hB.cell 3).trans rfl
      simp [putAll, OpStep, go_sem, v0, v1, v2, v3, t0, t1, t2, t3]
      exact ⟨x, y, _, _, _, _, _, _, ⟨rfl, rfl, rfl, rfl, rfl, rfl⟩, sameI_op7 hI d5 hD⟩
  · rintro D A W hall ⟨x, y, u5, u6, u9, u10, u11, u12, rfl, hI⟩
    have al : ∀ j, j < 8 → D j = true := fun j hj => hall j (by simpa using hj)
    have e := hI.s9 (al 0 (by omega))
    subst e
    have e := hI.s10 (al 1 (by omega))
    subst e
    have e := hI.s11 (al 2 (by omega))
    subst e
    have e := hI.s12 (al 3 (by omega))
    subst e
    have e := hI.s5 (al 4 (by omega))
    subst e
    have e := hI.s6 (al 5 (by omega))
    subst e
    have P1 := hI.b1
    have P2 := hI.b2
    have hW := hI.bw
    obtain ⟨hpx, hBx⟩ := hI.x6 (al 4 (by omega)) (al 6 (by omega))
    obtain ⟨hpy, hBy⟩ := hI.y6 (al 5 (by omega)) (al 7 (by omega))
    clear hI hall al
    simp only [putAll, List.foldl_cons, List.foldl_nil, List.setIfInBounds_toArray, List.set_cons_zero, List.set_cons_succ]
    have H1 := hid (H1.out.below (by omega) hW)
    have H2 := hid (H2.out.below (by omega) hW)
    have K1 := hid (K1.out.below (by omega) hW)
    have K2 := hid (K2.out.below (by omega) hW)
    have x0 : W.cell? ⟨x, 0, none⟩ = some (.int .i64 op) := (hBx.cell 0).trans rfl
    have x1 : W.cell? ⟨x, 1, none⟩ = some (.bool now) := (hBx.cell 1).trans rfl
    have x2 : W.cell? ⟨x, 2, none⟩ = some (.int .i64 flags) := (hBx.cell 2).trans rfl
    have x3 : W.cell? ⟨x, 3, none⟩ = some (.slice b1 vs.length c1) := (hBx.cell 3).trans rfl
    have y0 : W.cell? ⟨y, 0, none⟩ = some (.int .i64 op) := (hBy.cell 0).trans rfl
    have y1 : W.cell? ⟨y, 1, none⟩ = some (.bool now) := (hBy.cell 1).trans rfl
    have y2 : W.cell? ⟨y, 2, none⟩ = some (.int .i64 flags) := (hBy.cell 2).trans rfl
    have y3 : W.cell? ⟨y, 3, none⟩ = some (.slice b2 vs.length c2) := (hBy.cell 3).trans rfl
    have p4 : W.cell? ⟨w.heap.size, 4, none⟩ = some (.slice e1 xs.length f1) := (P1.cell 4).trans rfl
    have p5 : W.cell? ⟨w.heap.size, 5, none⟩ = some (.string (bs d)) := (P1.cell 5).trans rfl
    have q4 : W.cell? ⟨w.heap.size + 1, 4, none⟩ = some (.slice e2 xs.length f2) := (P2.cell 4).trans rfl
    have q5 : W.cell? ⟨w.heap.size + 1, 5, none⟩ = some (.string (bs d)) := (P2.cell 5).trans rfl
    have HBx := hid hBx; have HBy := hid hBy; have HP1 := hid P1; have HP2 := hid P2
    clear hBx hBy P1 P2 hpx hpy hw2 hp2
    gi_wp2
    go_wp2_with fail
    go_loopw [7, 60] (fun i k wr => ∃ k' q : Nat, k' ≤ vs.length ∧ k = .int .i64 k' ∧ wr = W.drewN q) (fun i k _ => vs.length - (intOf k).toNat)
    case atStart => exact ⟨0, 0, by omega, rfl, rfl⟩
    case round =>
      obtain ⟨k, q, hk, rfl, rfl⟩ := hrel
      by_cases hlt : k < vs.length
      · obtain ⟨t1, o1, c1', he1, hb1, hd1⟩ := vals_open H1.out (by omega)
        obtain ⟨t2, o2, c2', he2, hb2, hd2⟩ := vals_open H2.out (by omega)
        cases he1; cases he2
        obtain ⟨z, hz⟩ : ∃ z, vs[k]? = some z := ⟨vs[k], List.getElem?_eq_getElem hlt⟩
        have g1 := hd1 k z hz
        have g2 := hd2 k z hz
        clear hd1 hd2
        go_wp2
        go_quiet (fail)
        go_wp2
        go_roundw
        case rel => exact ⟨k + 1, _, by omega, by go_num, rfl⟩
        case measure => simp [intOf]; omega
      · go_wp2
        clear hlt hk
        go_loopw [8, 78] (fun i k wr => ∃ k' q : Nat, k' ≤ xs.length ∧ k = .int .i64 k' ∧ wr = W.drewN q) (fun i k _ => xs.length - (intOf k).toNat)
        case atStart => exact ⟨0, q, by omega, rfl, rfl⟩
        case round =>
          clear q
          obtain ⟨k, q, hk, rfl, rfl⟩ := hrel
          by_cases hlt : k < xs.length
          · obtain ⟨b1', c1', he1, hl1, hc1⟩ := K1.out
            obtain ⟨b2', c2', he2, hl2, hc2⟩ := K2.out
            cases he1; cases he2
            obtain ⟨t1, o1, rfl, hd1⟩ := hc1.resolve_left (by omega)
            obtain ⟨t2, o2, rfl, hd2⟩ := hc2.resolve_left (by omega)
            obtain ⟨z1, z2⟩ := ahsC_at xs k hlt
            have g1 := hd1 _ _ z1
            have g2 := hd1 _ _ z2
            have g3 := hd2 _ _ z1
            have g4 := hd2 _ _ z2
            rw [Nat.mul_comm 2 k] at g1 g2 g3 g4
            simp only [← Nat.add_assoc] at g2 g4
            clear hd1 hd2 hc1 hc2 z1 z2
            generalize xs.getD k (0, []) = s at *
            obtain ⟨s1, s2⟩ := s
            simp only at g1 g2 g3 g4
            go_wp2
            go_quiet (fail)
            go_wp2
            go_roundw
            case rel => exact ⟨k + 1, _, by omega, by go_num, rfl⟩
            case measure => simp [intOf]; omega
          · go_wp2
            go_ret
            exact ⟨rfl, below_drewN hW _⟩
end Go.Proofs.YtbimlijhgeajjaaGreatDoor

namespace Go.Proofs.YtbimlijhgeajjaaGreatDoor
open Go Go.RowKit
set_option linter.unusedVariables false
set_option linter.unusedSectionVars false
set_option linter.unusedSimpArgs false
set_option maxRecDepth 100000
theorem conf0 (w : World) : ConfIn w [] [] [] [] [] 512 [] (.slice none 0 0) (.slice none 0 0) (.slice none 0 0) (.slice none 0 0) :=
  ⟨sl_nil w 1, sl_nil w 2, psl_nil w, psl_nil w, by simp [totS], fun _ _ _ => Nat.zero_le _, by intro k; simp, fun _ _ _ => Nat.zero_le _, by omega, fun _ _ _ => Nat.zero_le _⟩
theorem nego0 : negoP [] = (0, -1) := by rfl
theorem right0 : rightP [] [] [] [] [] 512 [] = (0, -1) := by rfl
section
variable (stat cmd : Int) (h : List UInt8) (reason : Int) (w : World) (hs0 : 0 ≤ stat) (hs1 : stat ≤ 4294967295) (hc0 : 0 ≤ cmd) (hc1 : cmd ≤ 4294967295) (hg : EType w) (hT : AS w) (hev : EV w) (hP : PT w)
include hs0 hs1 hc0 hc1 hg hT hev hP
set_option maxHeartbeats 16000000 in
theorem fullRefuses_law : Calls Tryz.prog 3 #[.int .u32 stat, .int .u32 cmd, .string (bs h), .int .i64 reason] w fun e w' => e = .returned (.bool true) ∧ Below w.heap.size w w' := by
  by_cases h100 : 100 < h.length
  · have d100 : decide ((100 : Int) < (h.length : Int)) = true := decide_eq_true (by omega)
    clear h100 hg hT hev hP
    go_enter Tryz.func3, Tryz.ntmps3
    go_wp2
    go_ret
    exact ⟨rfl, Below.refl _ _⟩
  have d100 : decide ((100 : Int) < (h.length : Int)) = false := decide_eq_false (by omega)
  clear h100
  have b1 : Below w.heap.size w (w.alloc (.cells #[.slice none 0 0, .slice none 0 0, .slice none 0 0, .string ⟨#[]⟩, .string ⟨#[]⟩, .int .i64 512, .slice none 0 0] 30)) := (Below.refl _ _).alloc (Nat.le_refl _) _
  have C1 : Blk (w.alloc (.cells #[.slice none 0 0, .slice none 0 0, .slice none 0 0, .string ⟨#[]⟩, .string ⟨#[]⟩, .int .i64 512, .slice none 0 0] 30)) w.heap.size 30 #[.slice none 0 0, .slice none 0 0, .slice none 0 0, .string ⟨#[]⟩, .string ⟨#[]⟩, .int .i64 512, .slice none 0 0] := Blk.new _ _ _
  have cR := fun W (hq : Below w.heap.size w W) => hid (rnew_all (.slice none 0 0) [] W (psl_nil W) ⟨by simp, by intro k; simp⟩ (hg.below hq) (hP.below hq (Nat.le_refl _)))
  have cX := fun W (hq : Below w.heap.size w W) => hid (new_all (.slice none 0 0) [] W (psl_nil W) ⟨by simp, by intro k; simp⟩ (hg.below hq) (fun _ _ _ => Nat.zero_le _) (hT.below hq (Nat.le_refl _)) (hev.below hq))
  unfold RNegoPost at cR
  unfold NegoPost at cX
  simp only [nego0] at cR cX
  have cis := fun k pl W => hid (faultIs_any k pl W)
  unfold faultV at cis cR
  have cF := fun pp W (hq : Below w.heap.size w W) => hid (rfNew_any none none none none 0 0 0 0 [] [] [] [] [] 512 [] [] true stat cmd W (conf0 W) (by intro k; simp) pp (by simp) (hP.below hq (Nat.le_refl _)) (fun _ => by rw [right0]))
  have cG := fun pp W (hq : Below w.heap.size w W) => hid (fNew_any none none none none 0 0 0 0 [] [] [] [] [] 512 [] [] true stat cmd W (conf0 W) (by intro k; simp) pp (hg.below hq) (hT.below hq (Nat.le_refl _)) (hev.below hq))
  simp only [right0] at cF cG
  unfold RFNewPost faultV at cF
  unfold FNewPost at cG
  unfold confV at cF cG
  have cb := fun v k W (hq : Below w.heap.size w W) hv => hid (bare_ok v k W (hg.below hq) hv)
  go_enter Tryz.func3, Tryz.ntmps3
  go_wp2_with fail
  generalize w.alloc (.cells #[.slice none 0 0, .slice none 0 0, .slice none 0 0, .string ⟨#[]⟩, .string ⟨#[]⟩, .int .i64 512, .slice none 0 0] 30) = W1 at *
  refine (cR _ b1).out.mono ?_
  rintro e w2 ⟨⟨pr, rfl, -, hr0⟩, hb2⟩
  obtain ⟨gn, rfl, -⟩ := hr0 trivial
  have b2 := b1.trans (hb2.mono b1.size)
  have C2 := C1.below hb2
  have F2 := Blk.new w2 34 #[.int .i64 0, .int .i64 (-1)]
  have k3 := (Below.refl w2.heap.size w2).alloc (Nat.le_refl _) (.cells #[.int .i64 0, .int .i64 (-1)] 34)
  have b3 := b2.trans (k3.mono b2.size)
  have C3 := C2.below k3
  go_wp2_with fail
  refine (cX _ b3).out.mono ?_
  rintro e w4 ⟨⟨px, er, rfl, her, -, hx0⟩, hb4⟩
  obtain ⟨gm, rfl, -⟩ := hx0 trivial
  obtain rfl := errOf_zero her rfl
  have b4 := b3.trans (hb4.mono b3.size)
  have C4 := C3.below hb4
  have F4 := F2.below hb4
  have f0 := (F4.cell 0).trans (rfl : _ = some (Value.int .i64 0))
  have f1 := (F4.cell 1).trans (rfl : _ = some (Value.int .i64 (-1)))
  clear F2 k3 cX cR her hx0 hr0
  go_wp2_with fail
  refine (cis _ _ _).out.mono ?_
  rintro e w5 ⟨rfl, hb5⟩
  have b5 := b4.trans (hb5.mono b4.size)
  have C5 := C4.below hb5
  have c0 := (C5.cell 0).trans (rfl : _ = some (Value.slice none 0 0))
  have c1 := (C5.cell 1).trans (rfl : _ = some (Value.slice none 0 0))
  have c2 := (C5.cell 2).trans (rfl : _ = some (Value.slice none 0 0))
  have c3 := (C5.cell 3).trans (rfl : _ = some (Value.string ⟨#[]⟩))
  have c4 := (C5.cell 4).trans (rfl : _ = some (Value.string ⟨#[]⟩))
  have c5 := (C5.cell 5).trans (rfl : _ = some (Value.int .i64 512))
  have c6 := (C5.cell 6).trans (rfl : _ = some (Value.slice none 0 0))
  go_wp2_with fail
  refine (cF _ _ b5).out.mono ?_
  rintro e w6 ⟨⟨qr, rfl, -, hq0⟩, hb6⟩
  obtain ⟨gr, rfl, hFM⟩ := hq0 trivial
  obtain ⟨gg, hr1, -, -, HFr, -⟩ := hFM
  have b6 := b5.trans (hb6.mono b5.size)
  have C6 := C5.below hb6
  have k7 := (Below.refl w6.heap.size w6).alloc (Nat.le_refl _) (.cells #[.int .i64 0, .int .i64 (-1)] 34)
  have b7 := b6.trans (k7.mono b6.size)
  have C7 := C6.below k7
  have HFr7 := HFr.below k7
  have c0 := (C7.cell 0).trans (rfl : _ = some (Value.slice none 0 0))
  have c1 := (C7.cell 1).trans (rfl : _ = some (Value.slice none 0 0))
  have c2 := (C7.cell 2).trans (rfl : _ = some (Value.slice none 0 0))
  have c3 := (C7.cell 3).trans (rfl : _ = some (Value.string ⟨#[]⟩))
  have c4 := (C7.cell 4).trans (rfl : _ = some (Value.string ⟨#[]⟩))
  have c5 := (C7.cell 5).trans (rfl : _ = some (Value.int .i64 512))
  have c6 := (C7.cell 6).trans (rfl : _ = some (Value.slice none 0 0))
  have hB5 := b5.size
  clear C1 C2 C3 C4 C5 C6 F4 f0 f1 hq0 cF
  go_wp2_with fail
  refine (cG _ _ b7).out.mono ?_
  rintro e w8 ⟨⟨qx, er, rfl, her, -, hq0⟩, hb8⟩
  obtain ⟨gx, rfl, hFM⟩ := hq0 trivial
  obtain ⟨gy, hx1, -, -, HFx, -⟩ := hFM
  obtain rfl := errOf_zero her rfl
  have b8 := b7.trans (hb8.mono b7.size)
  have HFr8 := HFr7.below hb8
  have hne := blk_neT HFr8 HFx (by decide)
  have hB7 := b7.size
  have hgr : w.heap.size ≤ gr := by omega
  have hgx : w.heap.size ≤ gx := by omega
  have cr := hid (rRefuse_any gr _ _ _ _ _ _ _ _ _ _ stat cmd _ _ _ h reason w8 HFr8 hs0 hs1 hc0 hc1)
  have cx := fun W (hq : Below w.heap.size w W) HB => hid (fRefuse_any gx _ _ _ _ _ _ _ _ _ _ stat cmd _ _ _ h reason W HB hs0 hs1 hc0 hc1 (hT.below hq (Nat.le_refl _)) (hP.below hq (Nat.le_refl _)) (fun st i x => fullC_far (some ⟨gm, 0, none⟩) none none none none none 0 0 0 0 0 0 0 0 0 0 [] [] 512 [] true st cmd (some ⟨gy, 0, none⟩) false i x))
  unfold RRefPost at cr
  unfold FRefPost at cx
  have hER : ∀ W, ErrIs W (errV 32 (refE reason h)) (refE reason h) (-1) := fun W => ErrIs.errV W _
  have hSt : 0 ≤ (if refE reason h = 0 then (stat + 1) % 4294967296 else stat) := by split <;> omega
  have hXL : (if refE reason h = 0 then rejL reason stat cmd else []).length ≤ 1000000 := by split <;> simp [rejL]
  generalize refE reason h = E at *
  generalize (if E = 0 then (63 : Int) else 0) = oo at *
  generalize (if E = 0 then (128 : Int) else 0) = ff at *
  generalize (if E = 0 then h else []) = dd at *
  generalize (if E = 0 then rejL reason stat cmd else []) = LL at *
  generalize (if E = 0 then (stat + 1) % 4294967296 else stat) = st at *
  unfold pduV at cr cx
  have Hg := hid hg
  have HFX := hid HFx
  clear hb2 hb4 hb5 hb6 hb8 k7 b1 b2 b3 b4 b5 b6 b7 C7 c0 c1 c2 c3 c4 c5 c6 HFr HFr7 her hq0 cG hB5 hB7 hg hT hev hP HFx cis
  go_wp2_with fail
  refine cr.out.mono ?_
  rintro e w9 ⟨v, rfl, hsl, hK, HB9⟩
  have b9 : Below w.heap.size w w9 := b8.trans (hK.toBelow (fun k hk => by have hk : k = gr := hk; omega) b8.size)
  have HX9 := hK.blk HFX.out (fun e => hne e.symm)
  obtain ⟨sa, sc, rfl, -⟩ : ∃ sa sc, v = .slice sa LL.length sc ∧ True := by obtain ⟨a, c, h, _⟩ := hsl; exact ⟨a, c, h, trivial⟩
  have k10 : Below w9.heap.size w9 (w9.alloc (.cells #[.int .i64 oo, .bool false, .int .i64 ff, .slice sa LL.length sc, .slice none 0 0, .string (bs dd)] 54)) := (Below.refl _ _).alloc (Nat.le_refl _) _
  have A10 := Blk.new w9 54 #[.int .i64 oo, .bool false, .int .i64 ff, .slice sa LL.length sc, .slice none 0 0, .string (bs dd)]
  have hsl10 := hsl.below (Nat.le_refl _) k10
  have HB10 := HB9.below k10
  have HX10 := HX9.below k10
  have b10 := b9.trans (k10.mono b9.size)
  have HSL := hid hsl10; have HB := hid HB10; have HX := hid HX10; have HA := hid A10
  have hgrl := HB9.lt
  have hgxl := HX9.lt
  have h9 := b9.size
  clear hsl hsl10 HB9 HX9 HB10 HX10 A10 k10 hK cr b8
  go_wp2_with fail
  generalize w9.alloc (.cells #[.int .i64 oo, .bool false, .int .i64 ff, .slice sa LL.length sc, .slice none 0 0, .string (bs dd)] 54) = w10 at *
  refine (cx w10 b10 HX.out).out.mono ?_
  rintro e w11 ⟨v, rfl, hsl, hK, HB11⟩
  have b11 : Below w.heap.size w w11 := b10.trans (hK.toBelow (fun k hk => by have hk : k = gx := hk; omega) b10.size)
  have HR11 := hK.blk HB.out hne
  have HA11 := hK.blk HA.out (by omega)
  have hsl1 := sl_keptS HSL.out hK (u64_farN HSL.out HX.out (fun i x => fullC_far (some ⟨gm, 0, none⟩) none none none none none 0 0 0 0 0 0 0 0 0 0 [] [] 512 [] true stat cmd (some ⟨gy, 0, none⟩) false i x))
  obtain ⟨ta, tc, rfl, -⟩ : ∃ sa sc, v = .slice sa LL.length sc ∧ True := by obtain ⟨a, c, h, _⟩ := hsl; exact ⟨a, c, h, trivial⟩
  have k12 : Below w11.heap.size w11 (w11.alloc (.cells #[.int .i64 oo, .bool false, .int .i64 ff, .slice ta LL.length tc, .slice none 0 0, .string (bs dd)] 54)) := (Below.refl _ _).alloc (Nat.le_refl _) _
  have A12 := Blk.new w11 54 #[.int .i64 oo, .bool false, .int .i64 ff, .slice ta LL.length tc, .slice none 0 0, .string (bs dd)]
  have b12 := b11.trans (k12.mono b11.size)
  have HX12 := HB11.below k12
  have HR12 := HR11.below k12
  have HA12 := HA11.below k12
  have S1 := hsl1.below (Nat.le_refl _) k12
  have S2 := hsl.below (Nat.le_refl _) k12
  have h12 := A12.lt
  clear hsl hsl1 HB11 HR11 HA11 k12 hK cx b11 b10 HSL HB HX HA b9
  have cn := fun W B1 B2 => hid (fNext_any gx st cmd W B1 B2)
  go_wp2_with fail
  generalize w11.alloc (.cells #[.int .i64 oo, .bool false, .int .i64 ff, .slice ta LL.length tc, .slice none 0 0, .string (bs dd)] 54) = w12 at *
  refine (cn w12 ((HX12.cell 10).trans rfl) ((HX12.cell 11).trans rfl)).out.mono ?_
  rintro e w13 ⟨rfl, hb13⟩
  have b13 := b12.trans (hb13.mono b12.size)
  go_wp2_with fail
  refine (cb _ _ _ b13 (hER _)).out.mono ?_
  rintro e w14 ⟨rfl, hb14⟩
  have b14 := b13.trans (hb14.mono b13.size)
  have q14 := hb13.trans (hb14.mono hb13.size)
  have HA14 := HA12.below q14
  have HB14 := A12.below q14
  have x0 := (HA14.cell 0).trans (rfl : _ = some (Value.int .i64 oo))
  have x1 := (HA14.cell 1).trans (rfl : _ = some (Value.bool false))
  have x2 := (HA14.cell 2).trans (rfl : _ = some (Value.int .i64 ff))
  have x3 := (HA14.cell 3).trans (rfl : _ = some (Value.slice sa LL.length sc))
  have x4 := (HA14.cell 4).trans (rfl : _ = some (Value.slice none 0 0))
  have x5 := (HA14.cell 5).trans (rfl : _ = some (Value.string (bs dd)))
  have y0 := (HB14.cell 0).trans (rfl : _ = some (Value.int .i64 oo))
  have y1 := (HB14.cell 1).trans (rfl : _ = some (Value.bool false))
  have y2 := (HB14.cell 2).trans (rfl : _ = some (Value.int .i64 ff))
  have y3 := (HB14.cell 3).trans (rfl : _ = some (Value.slice ta LL.length tc))
  have y4 := (HB14.cell 4).trans (rfl : _ = some (Value.slice none 0 0))
  have y5 := (HB14.cell 5).trans (rfl : _ = some (Value.string (bs dd)))
  have cs := hid (same_true oo false ff (.slice sa LL.length sc) (.slice ta LL.length tc) (.slice none 0 0) (.slice none 0 0) LL [] dd w14 hXL (by simp) (S1.below (Nat.le_refl _) q14) (S2.below (Nat.le_refl _) q14) (sl_nil _ 2) (sl_nil _ 2))
  unfold pduV at cs
  have HR14 := HR12.below q14
  clear HA12 A12 HA14 HB14 S1 S2 HX12 HR12 cb hb13 hb14 q14 cn
  go_wp2_with fail
  refine cs.out.mono ?_
  rintro e w15 ⟨rfl, hb15⟩
  have HR15 := HR14.below hb15
  have z10 := (HR15.cell 10).trans (rfl : _ = some (Value.int .u32 st))
  have z11 := (HR15.cell 11).trans (rfl : _ = some (Value.int .u32 cmd))
  go_wp2
  go_ret
  exact ⟨rfl, b14.trans (hb15.mono b14.size)⟩
end
theorem fullRefuses_row (stat cmd : Int) (h : ByteArray) (reason : Int) (w : World) (hs0 : 0 ≤ stat) (hs1 : stat ≤ 4294967295) (hc0 : 0 ≤ cmd) (hc1 : cmd ≤ 4294967295) (hh : h.size ≤ maxLen) (r0 : -9223372036854775808 ≤ reason) (r1 : reason ≤ 9223372036854775807) (hL : laidMetH Tryz.prog Rows.fullRefusesRow.laid w) (hsh : w.ShapedOpen Tryz.prog) :
    Calls Tryz.prog 3 #[.int .u32 stat, .int .u32 cmd, .string h, .int .i64 reason] w fun e w' => e = .returned (.bool true) ∧ Below w.heap.size w w' := by
  have := fullRefuses_law stat cmd h.data.toList reason w hs0 hs1 hc0 hc1 (cardBase.etype_of_laid (by simp [Rows.fullRefusesRow]) hL)
    (cardBase.tab_of_laid (n := 256) (t := 261) (e := 5) (L := Rows.fullRefusesRow.laid) (by kernel_rfl) asName (by kernel_rfl) Tryz.underlying261 Tryz.underlying5 (by kernel_rfl) (by kernel_rfl) hL)
    ⟨ifaceAt_of_laid (L := Rows.fullRefusesRow.laid) (name := "strconv.ErrSyntax") (nm := "*errors.errorString") (d := .ptr (.agg [.lit (.string [105, 110, 118, 97, 108, 105, 100, 32, 115, 121, 110, 116, 97, 120])])) (by kernel_rfl) (by kernel_rfl) (by kernel_rfl) Tryz.underlying39 hL, ifaceAt_of_laid (L := Rows.fullRefusesRow.laid) (name := "strconv.ErrRange") (nm := "*errors.errorString") (d := .ptr (.agg [.lit (.string [118, 97, 108, 117, 101, 32, 111, 117, 116, 32, 111, 102, 32, 114, 97, 110, 103, 101])])) (by kernel_rfl) (by kernel_rfl) (by kernel_rfl) Tryz.underlying39 hL⟩
    (cardBase.tab_of_laid (n := 20) (t := 341) (e := 114) (L := Rows.fullRefusesRow.laid) (by kernel_rfl) ptName (by kernel_rfl) Tryz.underlying341 Tryz.underlying114 (by kernel_rfl) (by kernel_rfl) hL)
  rwa [bs_data] at this
end Go.Proofs.YtbimlijhgeajjaaGreatDoor
